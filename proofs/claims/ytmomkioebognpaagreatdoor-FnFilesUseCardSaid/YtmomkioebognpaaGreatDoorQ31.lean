/- Of fuse_card; no condition. -/
import Derived.Test.YtmomkioebognpaaGreatDoorQ30
set_option linter.all false
set_option maxRecDepth 100000
set_option maxHeartbeats 8000000
open Bool renaming and_eq_true->A1
open Go.Proofs.Tryz renaming prog->A0
open List renaming length_map->A2
namespace Go.Proofs.YtmomkioebognpaaGreatDoor
noncomputable section
open Go.RowKit
namespace Aw
attribute [local irreducible] ASeq ADraw AWP Loc mget mset AStep Fg.PlanF Fg.Flts
def QrE(s:Pm.Store)(t:Pl.Tree)(a:D)(c:Pure A0 28 [dSt s,dTree t] (.tup [a,dB true])):Pure A0 21 [dSt s,dTree t] (dB true):=by
 refine kE ?_;refine QbP 0 (h:=?_);refine QbP 1 (h:=?_)
 repeat refine kA ?_
 all_goals first|exact QbQ (hx:=rfl)
def Ql8(s:Pm.Store)(t:Pl.Tree)(l:List Pl.Ptr)(c1:Pure A0 21 [dSt s,dTree t] (dB true))(c2:Pure A0 22 [.pd (rSt s),dTree t] (tPtrs l)):Pure A0 8 [dSt s,dTree t] (dI (l.length:Nat)):=by
 refine kE ?_;refine QbP 0 (h:=?_);refine QbP 1 (h:=?_)
 repeat refine kA ?_
 all_goals first|exact QbQ (hx:=rfl)|refine QbQ (hx:=?_);rw[A2]
def use_all(s:Pm.Store)(hl:Pl.Lens s)(t:Pl.Tree)(p:List UInt8)(h:(Pl.Qay s t p (Pl.Qat s)).2=true):
 ∃(A:List Pl.Ptr) (U:Nat),A.length<=21/\U<=336/\0<=(Pl.Qay s t p (Pl.Qat s)).1/\(Pl.Qay s t p (Pl.Qat s)).1<=U/\Pure A0 7 [dSt s,dTree t] (.tup [tPtrs A,dB true])/\
  Pure A0 5 [dSt s,dTree t,dS [47]] (.tup [dI (U:Nat),dB true])/\Pure A0 8 [dSt s,dTree t] (dI ((A.length+U:Nat):Int)):=by
 obtain⟨h1,h2,h3,h4,h5⟩:=use_law h;obtain⟨hg,htx⟩:Pl.Good s/\0<=s.2.2.1:=⟨QcL h4,QdK h4⟩;have hF:=h5;unfold Pl.Qav at hF;simp only[A1,beq_iff_eq] at hF;have htab:=hF.1.1.1;obtain⟨ht,hts⟩:=QhB htab;have hTG:=Qcf ht
 have hm:1<=t.many:=by
  have hk:=hF.1.1.2;rcases Int.lt_or_le t.many 1 with hlt|hge
  ·exfalso
   have hz:Pl.Qab s t=[]:=by
    apply List.eq_nil_of_length_eq_zero;unfold Pl.Qab;rw[A2,texts_len s hTG];omega
   rw[hz] at hk;exact absurd hk (by decide)
  ·exact hge
 have cS:=QnS s hl.b1 hl.b2 hl.b3 hl.b4;have cI:=QnT s t cS (fun h=>⟨QcL h,QdK h⟩) fun h=>bText s (QcL h) (QdK h) (Qjc s)
 have hrl:=Qhk s t;rw[h5,A1] at hrl
 have hin:Pl.inD s t= .tup [.pd (rFiles s t (Pl.Qaa s t) (Pl.dirM s (Pl.Qaa s t) (Pl.Qaa s t).length)),dB true]:=by
  unfold Pl.inD Pl.QbH;rw[if_pos h4,if_pos hrl.1,hrl.2]
 rw[hin] at cI;rw[h4] at cS;have hN:=Qty s t;have hNb:=QrQ s hts (Pl.Qaa s t).length (Nat.le_refl _);rw[List.take_length] at hNb;have hx16:=(Qhs htab).2.1;have cB:=Ql8 s t _ (QrE s t _ cI) (QrB s hg htx t htab);rw[List.length_append] at cB;have cU:=Ql7 s hl t [47] (by decide);rw[h1,<-hN] at cU;rw[<-hN] at h3;exact⟨Pl.allT s t,(Pl.allN s (Pl.Qaa s t)).length,QcV hTG.hi,by omega,h2,h3,Qtj s cS hg htx t ht hm,cU,cB⟩

/- Of ftw_card; no condition. -/
import Derived.Test.YthbonbflkdonkaaGreatDoorP12
import Derived.Test.YthbonbflkdonkaaGreatDoorP14
import Derived.Test.YthbonbflkdonkaaGreatDoorP17
import Derived.Test.YthbonbflkdonkaaGreatDoorP18
set_option linter.all false
set_option maxRecDepth 100000
set_option maxHeartbeats 8000000
open Go renaming FuncId->AE
open Go.Proofs.Tryz renaming prog->A0
open Go.RowKit.Below renaming refl->AD
open List renaming getElem?_eq_getElem->A1,findIdx?_eq_some_iff_getElem->A2,mem_of_getElem?->A3,findIdx?_eq_none_iff->A4,getElem?_eq_some_iff->A5,mem_iff_getElem?->A6,getElem?_take->A7,take_add_one->A8,take_length->A9,length_cons->AA,mem_append->AB,length_nil->AC
namespace Go.Proofs.YthbonbflkdonkaaGreatDoor
noncomputable section
open Go.RowKit
namespace Aw
attribute [local irreducible] ASeq ADraw AWP Loc AStep
def Qey(p:Pl.Ptr):Pure A0 78 [dPtr p] (dB (Pl.ptrHole p)):=Qd5 rfl fun w _=>Pm.QiM p w
def bIn(a b c:Int):Pure A0 74 [dI a,dI b,dI c] (dB (Pl.inR a b c)):=Qd5 rfl fun w _=>(Pm.imIn a b c w).mono fun _ _ h=>⟨h.1,h.2▸AD _ _⟩
def bIsRow(a:Int):Pure A0 134 [dI a] (dB (Pl.inR a 8 63)):=by
 refine kB ?_
 repeat' first|refine kS ?_|refine qS (Qdr cK (bIn _ _ _) rfl) ?_|refine kU ?_|fail
 exact Qb (hx:=rfl)
theorem bPtrOk(p:Pl.Ptr):Pure A0 77 [dPtr p] (dB (Pl.ptrOk p)):=by
 have hd:=Pm.hid (Qkn p);have c:=Qey p;generalize Pl.ptrOk p=r at*;generalize Pl.ptrHole p=h at*;obtain⟨x1,x2,x3,x4,x5⟩:=p;simp only at hd;refine kE ?_;refine Qa 0 (h:=?_)
 repeat' first|refine kS ?_|refine qS (Qdr cK (bIsRow _) rfl) ?_|refine qS (Qdr cK (bIn _ _ _) rfl) ?_|refine kU ?_|refine kV ?_ ?_<;>intro q|fail
 all_goals exact Qb (hx:=congrArg dB (by rw[hd.out];simp_all))
def bSumOf(s:List UInt8)(h:s.length<=Pm.big):Pure A0 152 [dS s] (dI (Pl.sumOf s:Nat)):=Qd5 rfl fun w _=>(Pm.imSumOf s w h).mono fun e w' h=>⟨h.1,h.2▸AD _ _⟩
def bNumPut(n:Int):Pure A0 199 [dI n] (dS (Pl.numPut n)):=Qd5 rfl fun w hL=>Pm.Qk2 n w hL
def bNumGet(s:List UInt8)(hs:s.length<=Pm.big):Pure A0 137 [dS s] (.tup [dI ((Pl.numGet s).getD 0:Nat),dB (Pl.numGet s).isSome]):=
 Qfe (xs:=[.int .i64 ((Pl.numGet s).getD 0:Nat),.bool (Pl.numGet s).isSome]) rfl fun w hL=>(Pm.Qoa s w hs hL).mono fun e w' h=>⟨h.1.trans (by cases Pl.numGet s<;>rfl),h.2⟩
def bPtrPut(p:Pl.Ptr):Pure A0 247 [dPtr p] (dS (Pl.ptrPut p)):=Qd5 rfl fun w hL=>Pm.QnZ p w hL
theorem bPtrGet(s:List UInt8)(hs:s.length<=4294967280):Pure A0 210 [dS s] (.tup [dPtr (QD s).1,dB (QD s).2]):=by
 refine Qfe (xs:=[Pm.vptr (QD s).1,.bool (QD s).2]) rfl fun w hL=>(Pm.Qtz s w hs hL).mono ?_
 rintro e w' ⟨h|h,hb⟩
 ·obtain⟨p,hp,rfl⟩:=h
  rw[pg_is hp];grind
 grind [Quv]
theorem QtR(p:Pl.Ptr)(s:List UInt8)(hs:s.length<=Pm.big):Pure A0 91 [dPtr p,dS s] (dB (QaX p s)):=by
 refine kE ?_;refine Qa 0 (h:=?_)
 repeat' first|refine kS ?_|refine qD (lC (bPtrOk p)) ?_|refine qD (lC (Qey p)) ?_|refine qD (lC (bSumOf s hs)) ?_|refine kU ?_|refine kV ?_ ?_<;>intro q|fail
 all_goals exact Qb (hx:=congrArg dB (by simp_all[QaX]))
theorem bRead(s:Pm.Store)(hg:QU s)(p:Pl.Ptr)(hp:Pl.ptrHole p=false->Pl.ptrOk p=true):Pure A0 40 [.pd (rSt s),dPtr p] (.tup [dS (Qi s.1 p).1,dB (Qi s.1 p).2]):=by
 have hd:=Pm.hid (Qi.eq_def s.1 p);refine kE ?_;refine Qa 0 (h:=?_);cases h1:Pl.ptrHole p;rotate_left
 ·repeat' first|refine kS ?_|refine qS (lC (h1▸Qey p)) ?_|refine kU ?_|fail
  all_goals exact Qb (hx:=by rw[hd.out,h1];rfl)
 ·have hat:=QdN (hp h1) h1
  have hm:=hg.many;obtain⟨x,hx⟩: ∃x,s.1[p.pat.toNat]? =some x:=⟨_,A1 (by omega)⟩;have hr:(s.1.map fun s=>[dS s])[p.pat.toNat]? =some [dS x]:=by rw[List.getElem?_map,hx];rfl
  have hgd:s.1.getD p.pat.toNat []=x:=by rw[List.getD_eq_getElem?_getD,hx];rfl
  have hxl:x.length<=Pm.big:=by have:=hg.row x (A3 hx);unfold Pm.big;omega
  rw[hgd,h1] at hd;clear hx hgd
  repeat' first|refine kS ?_|refine qD (Qdm rfl) ?_|refine qS (lC (h1▸Qey p)) ?_|refine qD (lC (QtR p x hxl)) ?_|refine qD (Qdd Ty.h rfl Ty.h rfl rfl rfl hat.1 hr) ?_|refine kU ?_|refine kV ?_ ?_<;>intro q|fail
  ·refine Qb (hx:=?_)
   rw[hd.out];simp_all
  ·refine Qb (hx:=?_)
   rw[hd.out];simp_all
def QtX(p:Pl.Ptr):Pure A0 248 [dPtr p] (dB (!Pl.ptrHole p)):=by
 refine kE ?_;refine Qa 0 (h:=?_)
 repeat' first|refine kS ?_|refine qS (lC (Qey p)) ?_|refine kU ?_|fail
 exact Qb (hx:=rfl)
def bFanOf1(p k:Pl.Ptr):Pure A0 151 [dPtr k,.pd (rPtr p)] (dB (decide (p.birth<k.birth))):=by
 refine kE ?_;refine Qa 0 (h:=?_)
 repeat refine kA ?_
 exact Qb (hx:=rfl)
def QbV(l:List Pl.Ptr)(pr:Pl.Ptr->Bool):Int:=match l.findIdx? pr with
 |some i=>(i:Int)
 |none=> -1
theorem Qob(l:List Pl.Ptr)(pr:Pl.Ptr->Bool):decide (QbV l pr≥0)=l.any pr:=by grind [QbV]
theorem QpM(l:List Pl.Ptr)(hl:l.length<=1000000)(f:AE)(pr:Pl.Ptr->Bool)(hf: ∀args w,(callFunc f args).run A0 w= .ok (.enter f args) w)(h: ∀p∈l,Pure A0 f [dPtr p] (dB (pr p))):
 PureF A0 212 [.d (dPtrs l),.fn (.func f) []] (dI (QbV l pr)):=by
 refine kF ?_
 repeat refine kA ?_
 refine Qq (fun m st=> ∃k:Nat,k<=l.length/\m=l.length -k/\Hid (∀x∈l.take k,pr x=false)/\st=⟨19,[(8,.d (dI k)),(7,.d (dI l.length)),(0,.d (dPtrs l)),(1,.fn (.func f) [])],[]⟩) [8,7,0,1] 0 l.length ⟨0,by omega,rfl,Pm.hid (by simp),rfl⟩ (round:=?_);rintro m st ⟨k,hk,rfl,hA,rfl⟩
 repeat refine kG ?_
 cases q3:decide ((k:Int)<(l.length:Int))
 ·repeat refine kA ?_
  refine QK (hx:=?_);have:k=l.length:=by simp at q3;omega
  have h:=hA.out;rw[this,A9] at h;have:l.findIdx? pr=none:=A4.2 h;unfold QbV;rw[this]
 have hk2:k<l.length:=by simp at q3;omega
 obtain⟨x,hx⟩: ∃x,l[k]? =some x:=⟨_,A1 hk2⟩;have hr:=Qs (f:=rPtr) hx
 have T:Hid (pr x=false-> ∀y∈l.take (k+1),pr y=false):=Pm.hid fun h y hy=>by
  rw[A8,hx] at hy;rcases AB.1 hy with hy|hy
  ·exact hA.out y hy
  ·simp at hy;subst hy;exact h
 have F:Hid (pr x=true->QbV l pr=k):=Pm.hid fun h=>by
  have:l.findIdx? pr=some k:=by
   rw[A2];refine⟨hk2,?_,fun j hj=>?_⟩
   ·rw[(A5.1 hx).2];exact h
   ·have:=hA.out l[j] (A6.2 ⟨j,by rw[A7,if_pos hj];exact A1 (by omega)⟩)
    rw[this];simp
  unfold QbV;rw[this]
 have c:=h x (A3 hx);clear hx hA;generalize pr x=b at*
 repeat' first|refine kS ?_|refine qS (iy hr) ?_|refine qS (Qd6 hf c rfl rfl) ?_|refine kU ?_|refine kV ?_ ?_<;>intro q|fail
 all_goals first|exact Qg (l.length -(k+1)) (by omega) ⟨k+1,by omega,rfl,Pm.hid (T.out (by assumption)),rfl⟩|refine QK (hx:=?_);rw[F.out (by assumption)]
def QkN(l:List Pl.Ptr)(hl:l.length<=1000000)(f:AE)(pr:Pl.Ptr->Bool)(hf: ∀args w,(callFunc f args).run A0 w= .ok (.enter f args) w)(h: ∀p∈l,Pure A0 f [dPtr p] (dB (pr p))):
 PureF A0 150 [.d (dPtrs l),.fn (.func f) []] (dB (l.any pr)):=by
 have c:=QpM l hl f pr hf h;have hd:=Pm.hid (Qob l pr);generalize QbV l pr=i at*;refine kF ?_
 repeat' first|refine kS ?_|refine qS (Qd9 cK c rfl rfl) ?_|refine kU ?_|fail
 refine QK (hx:=?_);rw[<-hd.out]
theorem QpL(l:List Pl.Ptr)(hl:l.length<=1000000)(f:AE)(cap:D)(pr:Pl.Ptr->Bool)(hf: ∀args w,(callFunc f args).run A0 w= .ok (.enter f args) w)(h: ∀p∈l,Pure A0 f [dPtr p,cap] (dB (pr p))):
 PureF A0 212 [.d (dPtrs l),.fn (.func f) [.d cap]] (dI (QbV l pr)):=by
 refine kF ?_
 repeat refine kA ?_
 refine Qq (fun m st=> ∃k:Nat,k<=l.length/\m=l.length -k/\Hid (∀x∈l.take k,pr x=false)/\st=⟨19,[(8,.d (dI k)),(7,.d (dI l.length)),(0,.d (dPtrs l)),(1,.fn (.func f) [.d cap])],[]⟩) [8,7,0,1] 0 l.length ⟨0,by omega,rfl,Pm.hid (by simp),rfl⟩ (round:=?_);rintro m st ⟨k,hk,rfl,hA,rfl⟩
 repeat refine kG ?_
 cases q3:decide ((k:Int)<(l.length:Int))
 ·repeat refine kA ?_
  refine QK (hx:=?_);have:k=l.length:=by simp at q3;omega
  have h:=hA.out;rw[this,A9] at h;have:l.findIdx? pr=none:=A4.2 h;unfold QbV;rw[this]
 have hk2:k<l.length:=by simp at q3;omega
 obtain⟨x,hx⟩: ∃x,l[k]? =some x:=⟨_,A1 hk2⟩;have hr:=Qs (f:=rPtr) hx
 have T:Hid (pr x=false-> ∀y∈l.take (k+1),pr y=false):=Pm.hid fun h y hy=>by
  rw[A8,hx] at hy;rcases AB.1 hy with hy|hy
  ·exact hA.out y hy
  ·simp at hy;subst hy;exact h
 have F:Hid (pr x=true->QbV l pr=k):=Pm.hid fun h=>by
  have:l.findIdx? pr=some k:=by
   rw[A2];refine⟨hk2,?_,fun j hj=>?_⟩
   ·rw[(A5.1 hx).2];exact h
   ·have:=hA.out l[j] (A6.2 ⟨j,by rw[A7,if_pos hj];exact A1 (by omega)⟩)
    rw[this];simp
  unfold QbV;rw[this]
 have c:=h x (A3 hx);clear hx hA;generalize pr x=b at*
 repeat' first|refine kS ?_|refine qS (iy hr) ?_|refine qS (Qd6 hf c rfl rfl) ?_|refine kU ?_|refine kV ?_ ?_<;>intro q|fail
 all_goals first|exact Qg (l.length -(k+1)) (by omega) ⟨k+1,by omega,rfl,Pm.hid (T.out (by assumption)),rfl⟩|refine QK (hx:=?_);rw[F.out (by assumption)]
def QkM(l:List Pl.Ptr)(hl:l.length<=1000000)(f:AE)(cap:D)(pr:Pl.Ptr->Bool)(hf: ∀args w,(callFunc f args).run A0 w= .ok (.enter f args) w)(h: ∀p∈l,Pure A0 f [dPtr p,cap] (dB (pr p))):
 PureF A0 150 [.d (dPtrs l),.fn (.func f) [.d cap]] (dB (l.any pr)):=by
 have c:=QpL l hl f cap pr hf h;have hd:=Pm.hid (Qob l pr);generalize QbV l pr=i at*;refine kF ?_
 repeat' first|refine kS ?_|refine qS (Qd9 cK c rfl rfl) ?_|refine kU ?_|fail
 refine QK (hx:=?_);rw[<-hd.out]
attribute [local irreducible] Fg.PlanF Fg.Flts EndR
def ePtrD(rows:List (List D))(hr:RdOk rows)(p:Nat)(hp:p<=800000):
 DoesE A0 54 [.ptr 0 0 0] [rdR rows p] [.ptr 0 0 0] (fun x H=> ∃(a b c d e:Int) (p':Nat),p'<=p+40/\x= .d (.agg [dI a,dI b,dI c,dI d,dI e])/\H=[rdR rows p']):=by
 have c1:=fun a b l (s:List UInt8) (h:s.length<=10)=>aPtrOf a b l ([116]++s) (by unfold Pm.big;rw[List.length_append];simp only[AA,AC];omega)
 refine kH fun gvs=>?_
 repeat' first|refine kS ?_|(refine aw_pk 0 hr (kk:=?_);intro v hv)|(refine QC [0] (eText rows hr _ ?_ 9 (by decide)) cK (k:=?_);omega;rintro _ _ ⟨s,p1,hs,hp1,rfl,rfl⟩;refine QdE (k:=?_))|(refine QC [0] (eRow rows hr _ ?_) cK (k:=?_);omega;rintro _ _ ⟨z,hz,rfl,rfl⟩;refine QdE (k:=?_))|refine qS (QdO Ty.h rfl Ty.h) ?_|refine qS (Qdf (l:=[116]) rfl rfl (by simp only[AA,AC];omega)) ?_|refine qS (Qdr cK (c1 _ _ _ _ (by omega)) rfl) ?_|refine qS (Qdd Ty.h rfl Ty.h rfl rfl rfl (by omega) (Qei (f:=fun z=>[dI z]) [0,-1,900,901] 0 (n:=4) rfl (by omega))) ?_|refine qS (Qdd Ty.h rfl Ty.h rfl rfl rfl (by omega) (Qei (f:=fun z=>[dI z]) [0,-1,128,129] 0 (n:=4) rfl (by omega))) ?_|refine qS (Qdd Ty.h rfl Ty.h rfl rfl rfl (by omega) (Qei (f:=fun z=>[dI z]) [-1,99460728,99460729,0] 0 (n:=4) rfl (by omega))) ?_|refine qS (Qdd Ty.h rfl Ty.h rfl rfl rfl (by omega) (Qei (f:=fun z=>[dI z]) [-1,3,2] 0 (n:=3) rfl (by omega))) ?_|refine kU ?_|refine kV ?_ ?_<;>intro q|fail
 all_goals first|refine Q1 1 (hx:=?_);exact⟨_,_,_,_,_,_,by omega,rfl,rfl⟩

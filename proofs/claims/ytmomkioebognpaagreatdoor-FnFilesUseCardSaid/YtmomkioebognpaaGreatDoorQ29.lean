/- Of fuse_card; no condition. -/
import Derived.Test.YtmomkioebognpaaGreatDoorQ25
import Derived.Test.YtmomkioebognpaaGreatDoorQ28
set_option linter.all false
set_option maxRecDepth 100000
set_option maxHeartbeats 16000000
open List renaming take_of_length_le->A0
namespace Go.Proofs.YtmomkioebognpaaGreatDoor
noncomputable section
open Go.RowKit
namespace Aw
def QoP{l:List Pl.Ptr}{i:Nat}{x:Pl.Ptr}(h:l[i]? =some x)(w:Pl.Sto):w.freeL (l.take (i+1))=(w.freeL (l.take i)).free x:=by
 rw[List.take_add_one,h];unfold Pl.Sto.freeL;rw[List.foldl_append];rfl
attribute [local irreducible] ASeq ADraw AWP Loc AStep Fg.PlanF Fg.Flts EndR Fk.PlanF Fk.Flts Fk.AStepM Fk.Grew Fk.Gs
def eDrop11(g:Nat)(w:Pl.Sto)(N:Nat)(hN:N<=700000)(hw:w.W N)(t:Pl.Tree)(ht:Pl.TGood t)(k:Nat)(hk:k<16)(hnt:Pl.TGood (Pl.Qal w.st t k).1.tree)(hsub:Pl.Sub w.st (Pl.Qal w.st t k).1.tree.depth.toNat (Pl.Qal w.st t k).1.tree.root)(hlo: ∀p∈Pl.allT w.st (Pl.Qal w.st t k).1.tree,Pl.ptrOk p=true):
 DoesE Tryz.prog 155 [oS g w,.d (dTree t),.d (dI k)] (hS g w) (gS g w) (fun x H=>x= .tup [oS (g+1) (Pl.QaT w t k (Pl.allT w.st (Pl.Qal w.st t k).1.tree) (Pl.QaB (Pl.Qaa w.st t) k)).1,.d (dTree (Pl.QaT w t k (Pl.allT w.st (Pl.Qal w.st t k).1.tree) (Pl.QaB (Pl.Qaa w.st t) k)).2.1),.d (dB (Pl.QaT w t k (Pl.allT w.st (Pl.Qal w.st t k).1.tree) (Pl.QaB (Pl.Qaa w.st t) k)).2.2)]/\H=hS (g+1) (Pl.QaT w t k (Pl.allT w.st (Pl.Qal w.st t k).1.tree) (Pl.QaB (Pl.Qaa w.st t) k)).1):=by
 refine DoesE.tag (X:=fun g'=> .tup [oS g' (Pl.QaT w t k (Pl.allT w.st (Pl.Qal w.st t k).1.tree) (Pl.QaB (Pl.Qaa w.st t) k)).1,.d (dTree (Pl.QaT w t k (Pl.allT w.st (Pl.Qal w.st t k).1.tree) (Pl.QaB (Pl.Qaa w.st t) k)).2.1),.d (dB (Pl.QaT w t k (Pl.allT w.st (Pl.Qal w.st t k).1.tree) (Pl.QaB (Pl.Qaa w.st t) k)).2.2)]) (C:=fun _=>True) ?_ Qf4;have hgood:=hw.good;have c1:=al11Get w.st hgood t ht k;have c2:=Qt2 w.st hgood t ht k;have c3:=dAll w.st hgood (Pl.Qal w.st t k).1.tree hnt hsub;have hal:=QcV (s:=w.st) hnt.hi;have hml:Pl.QaB (Pl.Qaa w.st t) k<=16:=Nat.le_trans (Qgl _ _) (by rw[texts_len _ ht];have:=ht.manyHi;omega);have hd: ∀l m,Hid (Pl.QaT w t k l m=if(Pl.tput (w.freeL l) t k []).2.2 then Pl.cut (Pl.tput (w.freeL l) t k []).1 (Pl.tput (w.freeL l) t k []).2.1 m else Pl.tput (w.freeL l) t k []):=fun l m=>Pm.hid rfl
 replace hd:=hd (Pl.allT w.st (Pl.Qal w.st t k).1.tree) (Pl.QaB (Pl.Qaa w.st t) k)
 generalize Pl.QaB (Pl.Qaa w.st t) k=many at*;generalize Pl.allT w.st (Pl.Qal w.st t k).1.tree=l at*;generalize Pl.Qal w.st t k=nd at*;obtain⟨n,ok0⟩:=nd;simp only at c1 c3;generalize Pl.QaT w t k l many=res at*
 have hfl:[Blk.arr l.length 5 31 (l.map rPtr)].all Blk.flat=true:=by
  simp[Blk.flat];intro x _;exact⟨rfl,rfl,rfl,rfl,rfl⟩
 have hT:(l.map rPtr).take l.length=l.map rPtr:=A0 (by simp);clear hnt hsub;refine kH fun gvs=>?_
 repeat' first|refine kS ?_|refine qS (Qcd cK c1 hw) ?_|refine qS (Qcd cK c2 hw) ?_|refine(QcZ (ds:=[dTree n.tree]) c3 cK hw rfl hfl (k:=?_))|refine kU ?_|fail
 refine QbP 10 (C:= .arr l.length 5 31 (l.map rPtr)) (h:=?_);rw[hT]
 refine QbS (fun m st=> ∃(i g':Nat) (wi:Pl.Sto),i<=l.length/\m=l.length -i/\Hid (wi=w.freeL (l.take i))/\Hid (wi.W (N+i))/\(g<g'∨g'=g/\wi.gone.length=w.gone.length)/\
  st=⟨61,[(13,.d (dI i)),(12,.d (tPtrs l)),(11,.d (dI many)),(2,.d (dI k)),(3,.ptr 5 0 0),(4,.ptr 6 0 0),(6,.ptr 7 0 0),(7,.ptr 8 0 0),(1000000,.gh (gS g w) gvs)],
   hS g' wi++[.row 0 (rowS g' wi),.row 0 (rowT t),.row 0 zSt,.row 0 zTr]⟩) [13,12,11,2,3,4,6,7,1000000] 9 l.length
  ⟨0,g,w,by omega,rfl,Pm.hid rfl,Pm.hid hw,.inr ⟨rfl,rfl⟩,rfl⟩ (round:=?_)
 rintro m st ⟨i,g',wi,hi,rfl,hF,hG,hg,rfl⟩;have hW:=hG.out;simp only[hS,List.cons_append,List.nil_append]
 repeat refine kG ?_
 cases q:decide ((i:Int)<(l.length:Int))
 ·have hil:i=l.length:=by simp at q;omega
  have hF2:=hF.out;rw[hil,A0 (Nat.le_refl _)] at hF2;rw[<-hF2] at hd;have cP:=(ePut g' wi (N+i) (by omega) hW t ht k hk [] (by simp)).tag3;have hWc:=Qem hW ht (k:=k) hk [];have hsg:=Qdy (w:=wi) (t:=t) (k:=k) (text:=[]);generalize Pl.tput wi t k []=y at*;obtain⟨w2,t2,ok2⟩:=y;simp only at cP hWc hsg hd;have v0:w2.rows.length=w.rows.length:=by rw[hWc.1.rows,hw.rows]
  have v1:w2.refs.length=w.refs.length:=by rw[hWc.1.refs,hw.refs]
  have v2:w2.last.length=w.last.length:=by rw[hWc.1.last,hw.last]
  clear hF hF2 hG c1 c2 c3 hfl;cases ok2
  ·simp only[Bool.false_eq_true,if_false] at cP hd
   have v3:w2.gone.length=wi.gone.length:=by rw[(hsg rfl).1]
   clear hsg
   repeat' first|refine kS ?_|refine QbX [0,1,2,3,4] cP cK (k:=kX ?_)|(show AWP _ (.region 10 _ _) _ _;refine(QbP 6 (h:=Fg.awp_drawF (id:=10) [1] [2,3] ?_)))|refine kU ?_|fail
   all_goals first|(rcases hg with hg|⟨rfl,hg⟩<;>(refine Qca 5 (hx:=?_);rw[hd.out];exact⟨_,trivial,rfl,rfl⟩))
  ·simp only[if_true] at cP hd
   clear hsg;have c4:=pinS (X:=fun g2=> .tup [oS g2 (Pl.cut w2 t2 many).1,.d (dTree (Pl.cut w2 t2 many).2.1),.d (dB (Pl.cut w2 t2 many).2.2)]) (C:=fun g2=>(Pl.cut w2 t2 many).2.2=false->g2=g'+1) (eCut (g'+1) w2 (N+i+15) (by omega) hWc.1 t2 hWc.2 many hml);have hWd:=(cut_W hWc.1 hWc.2 (many:=many) hml).1;generalize Pl.cut w2 t2 many=z at*;obtain⟨w3,t3,ok3⟩:=z;simp only at c4 hWd hd;have u0:w3.rows.length=w.rows.length:=by rw[hWd.rows,hw.rows]
   have u1:w3.refs.length=w.refs.length:=by rw[hWd.refs,hw.refs]
   have u2:w3.last.length=w.last.length:=by rw[hWd.last,hw.last]
   repeat' first|refine kS ?_|refine QbX [0,1,2,3,4] cP cK (k:=kX ?_)|(refine QbX [0,1,2,3,4] c4 cK (k:=?_);rintro _ _ ⟨g3,hg3,hC,rfl,rfl⟩;refine QcC (k:=?_))|refine kU ?_|fail
   all_goals first
    |(have hg4:g<g3:=by
       rcases hg with h1|⟨h1,h2⟩<;>rcases hg3 with h3|⟨h3,h4⟩<;>omega
      refine Qca 5 (hx:=?_);rw[hd.out];exact⟨_,trivial,rfl,rfl⟩)
 have hil:i<l.length:=by simp at q;omega
 obtain⟨x,hx⟩: ∃x,l[i]? =some x:=⟨_,List.getElem?_eq_getElem hil⟩;have hr:=QbV (f:=rPtr) hx;have hxo:=hlo x (List.mem_of_getElem? hx);have cf:=eFree2 g' wi (N+i) (by omega) hW x hxo;have hWf:=(hW.free hxo).le (M:=N+(i+1)) (by omega);have hst:Hid (wi.free x=w.freeL (l.take (i+1))):=Pm.hid (by rw[QoP hx,hF.out]);clear hx hF hG c1 c2 c3 hd;generalize wi.free x=wf at*
 repeat' first|refine kS ?_|refine qD (iy hr) ?_|(show AWP _ (.region 7 _ _) _ _;refine(Fg.awp_drawF (id:=7) [] [5,6] ?_))|(refine QdZ [0,1,2,3,4] cf cK (k:=?_);rintro _ _ ⟨g4,hg4,rfl,rfl⟩;refine Qkr (k:=?_))|refine kU ?_|fail
 all_goals first|refine QbR (l.length -(i+1)) (by omega) ⟨i+1,g4,wf,by omega,rfl,hst,Pm.hid hWf,(by rcases hg with h1|⟨h1,h2⟩<;>rcases hg4 with h3|⟨h3,h4⟩<;>first|(left;omega)|(right;exact⟨by omega,by omega⟩)),?_⟩;simp[keepE,go_sem];done

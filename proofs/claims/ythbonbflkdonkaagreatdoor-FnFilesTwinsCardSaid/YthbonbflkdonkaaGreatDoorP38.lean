/- Of ftw_card; no condition. -/
import Derived.Test.YthbonbflkdonkaaGreatDoorP37
set_option linter.all false
set_option maxRecDepth 100000
set_option maxHeartbeats 16000000
open List renaming take_of_length_le->A0
namespace Go.Proofs.YthbonbflkdonkaaGreatDoor
noncomputable section
open Go.RowKit
namespace Aw
theorem Qpv{l:List Pl.Ptr}{i:Nat}{x:Pl.Ptr}(h:l[i]? =some x)(w:Pl.Sto):w.freeL (l.take (i+1))=(w.freeL (l.take i)).free x:=by grind [List.take_add_one,Pl.Sto.freeL]
attribute [local irreducible] ASeq ADraw AWP Loc AStep Fg.PlanF Fg.Flts EndR Fk.PlanF Fk.Flts Fk.AStepM Fk.Grew Fk.Gs
def eDrop11(g:Nat)(w:Pl.Sto)(N:Nat)(hN:N<=700000)(hw:w.W N)(t:Pl.Tree)(ht:Qx t)(k:Nat)(hk:k<16)(hnt:Qx (Q5 w.st t k).1.tree)(hsub:Qcg w.st (Q5 w.st t k).1.tree.depth.toNat (Q5 w.st t k).1.tree.root)(hlo: ∀p∈Qao w.st (Q5 w.st t k).1.tree,Pl.ptrOk p=true):
 DoesE Tryz.prog 170 [oS g w,.d (dTree t),.d (dI k)] (hS g w) (gS g w) (fun x H=>x= .tup [oS (g+1) (Qa0 w t k (Qao w.st (Q5 w.st t k).1.tree) (Qam (Qc w.st t) k)).1,.d (dTree (Qa0 w t k (Qao w.st (Q5 w.st t k).1.tree) (Qam (Qc w.st t) k)).2.1),.d (dB (Qa0 w t k (Qao w.st (Q5 w.st t k).1.tree) (Qam (Qc w.st t) k)).2.2)]/\H=hS (g+1) (Qa0 w t k (Qao w.st (Q5 w.st t k).1.tree) (Qam (Qc w.st t) k)).1):=by
 refine DoesE.tag (X:=fun g'=> .tup [oS g' (Qa0 w t k (Qao w.st (Q5 w.st t k).1.tree) (Qam (Qc w.st t) k)).1,.d (dTree (Qa0 w t k (Qao w.st (Q5 w.st t k).1.tree) (Qam (Qc w.st t) k)).2.1),.d (dB (Qa0 w t k (Qao w.st (Q5 w.st t k).1.tree) (Qam (Qc w.st t) k)).2.2)]) (C:=fun _=>True) ?_ Qgg;have hgood:=hw.good;have c1:=al11Get w.st hgood t ht k;have c2:=Quk w.st hgood t ht k;have c3:=dAll w.st hgood (Q5 w.st t k).1.tree hnt hsub;have hal:=Qij (s:=w.st) hnt.hi;have hml:Qam (Qc w.st t) k<=16:=Nat.le_trans (QgV _ _) (by rw[texts_len _ ht];have:=ht.manyHi;omega);have hd: ∀l m,Hid (Qa0 w t k l m=if(Qn (w.freeL l) t k []).2.2 then QN (Qn (w.freeL l) t k []).1 (Qn (w.freeL l) t k []).2.1 m else Qn (w.freeL l) t k []):=fun l m=>Pm.hid rfl
 replace hd:=hd (Qao w.st (Q5 w.st t k).1.tree) (Qam (Qc w.st t) k)
 generalize Qam (Qc w.st t) k=many at*;generalize Qao w.st (Q5 w.st t k).1.tree=l at*;generalize Q5 w.st t k=nd at*;obtain⟨n,ok0⟩:=nd;simp only at c1 c3;generalize Qa0 w t k l many=res at*
 have hfl:[Blk.arr l.length 5 31 (l.map rPtr)].all Blk.flat=true:=by
  simp[Blk.flat];intro x _;exact⟨rfl,rfl,rfl,rfl,rfl⟩
 have hT:(l.map rPtr).take l.length=l.map rPtr:=A0 (by simp);clear hnt hsub;refine kH fun gvs=>?_
 repeat' first|refine kS ?_|refine qS (Qdh cK c1 hw) ?_|refine qS (Qdh cK c2 hw) ?_|refine(QdW (ds:=[dTree n.tree]) c3 cK hw rfl hfl (k:=?_))|refine kU ?_|fail
 refine Qa 10 (C:= .arr l.length 5 31 (l.map rPtr)) (h:=?_);rw[hT]
 refine Qq (fun m st=> ∃(i g':Nat) (wi:Pl.Sto),i<=l.length/\m=l.length -i/\Hid (wi=w.freeL (l.take i))/\Hid (wi.W (N+i))/\(g<g'∨g'=g/\wi.gone.length=w.gone.length)/\
  st=⟨61,[(13,.d (dI i)),(12,.d (tPtrs l)),(11,.d (dI many)),(2,.d (dI k)),(3,.ptr 5 0 0),(4,.ptr 6 0 0),(6,.ptr 7 0 0),(7,.ptr 8 0 0),(1000000,.gh (gS g w) gvs)],
   hS g' wi++[.row 0 (rowS g' wi),.row 0 (rowT t),.row 0 zSt,.row 0 zTr]⟩) [13,12,11,2,3,4,6,7,1000000] 9 l.length
  ⟨0,g,w,by omega,rfl,Pm.hid rfl,Pm.hid hw,.inr ⟨rfl,rfl⟩,rfl⟩ (round:=?_)
 rintro m st ⟨i,g',wi,hi,rfl,hF,hG,hg,rfl⟩;have hW:=hG.out;simp only[hS,List.cons_append,List.nil_append]
 repeat refine kG ?_
 cases q:decide ((i:Int)<(l.length:Int))
 ·have hil:i=l.length:=by simp at q;omega
  have hF2:=hF.out;rw[hil,A0 (Nat.le_refl _)] at hF2;rw[<-hF2] at hd;have cP:=(ePut g' wi (N+i) (by omega) hW t ht k hk [] (by simp)).tag3;have hWc:=Qfb hW ht (k:=k) hk [];have hsg:=Qep (w:=wi) (t:=t) (k:=k) (text:=[]);generalize Qn wi t k []=y at*;obtain⟨w2,t2,ok2⟩:=y;simp only at cP hWc hsg hd;have v0:w2.rows.length=w.rows.length:=by rw[hWc.1.rows,hw.rows]
  have v1:w2.refs.length=w.refs.length:=by rw[hWc.1.refs,hw.refs]
  have v2:w2.last.length=w.last.length:=by rw[hWc.1.last,hw.last]
  clear hF hF2 hG c1 c2 c3 hfl;cases ok2
  ·simp only[Bool.false_eq_true,if_false] at cP hd
   have v3:w2.gone.length=wi.gone.length:=by rw[(hsg rfl).1]
   clear hsg
   repeat' first|refine kS ?_|refine QC [0,1,2,3,4] cP cK (k:=kX ?_)|(show AWP _ (.region 10 _ _) _ _;refine(Qa 6 (h:=Fg.awp_drawF (id:=10) [1] [2,3] ?_)))|refine kU ?_|fail
   all_goals first|(rcases hg with hg|⟨rfl,hg⟩<;>(refine QO 5 (hx:=?_);rw[hd.out];exact⟨_,trivial,rfl,rfl⟩))
  ·simp only[if_true] at cP hd
   clear hsg;have c4:=pinS (X:=fun g2=> .tup [oS g2 (QN w2 t2 many).1,.d (dTree (QN w2 t2 many).2.1),.d (dB (QN w2 t2 many).2.2)]) (C:=fun g2=>(QN w2 t2 many).2.2=false->g2=g'+1) (eCut (g'+1) w2 (N+i+15) (by omega) hWc.1 t2 hWc.2 many hml);have hWd:=(cut_W hWc.1 hWc.2 (many:=many) hml).1;generalize QN w2 t2 many=z at*;obtain⟨w3,t3,ok3⟩:=z;simp only at c4 hWd hd;have u0:w3.rows.length=w.rows.length:=by rw[hWd.rows,hw.rows]
   have u1:w3.refs.length=w.refs.length:=by rw[hWd.refs,hw.refs]
   have u2:w3.last.length=w.last.length:=by rw[hWd.last,hw.last]
   repeat' first|refine kS ?_|refine QC [0,1,2,3,4] cP cK (k:=kX ?_)|(refine QC [0,1,2,3,4] c4 cK (k:=?_);rintro _ _ ⟨g3,hg3,hC,rfl,rfl⟩;refine QdE (k:=?_))|refine kU ?_|fail
   all_goals first
    |(have hg4:g<g3:=by
       rcases hg with h1|⟨h1,h2⟩<;>rcases hg3 with h3|⟨h3,h4⟩<;>omega
      refine QO 5 (hx:=?_);rw[hd.out];exact⟨_,trivial,rfl,rfl⟩)
 have hil:i<l.length:=by simp at q;omega
 obtain⟨x,hx⟩: ∃x,l[i]? =some x:=⟨_,List.getElem?_eq_getElem hil⟩;have hr:=Qs (f:=rPtr) hx;have hxo:=hlo x (List.mem_of_getElem? hx);have cf:=eFree2 g' wi (N+i) (by omega) hW x hxo;have hWf:=(hW.free hxo).le (M:=N+(i+1)) (by omega);have hst:Hid (wi.free x=w.freeL (l.take (i+1))):=Pm.hid (by rw[Qpv hx,hF.out]);clear hx hF hG c1 c2 c3 hd;generalize wi.free x=wf at*
 repeat' first|refine kS ?_|refine qD (iy hr) ?_|(show AWP _ (.region 7 _ _) _ _;refine(Fg.awp_drawF (id:=7) [] [5,6] ?_))|(refine QeP [0,1,2,3,4] cf cK (k:=?_);rintro _ _ ⟨g4,hg4,rfl,rfl⟩;refine QkS (k:=?_))|refine kU ?_|fail
 all_goals first|refine Qg (l.length -(i+1)) (by omega) ⟨i+1,g4,wf,by omega,rfl,hst,Pm.hid hWf,(by rcases hg with h1|⟨h1,h2⟩<;>rcases hg4 with h3|⟨h3,h4⟩<;>first|(left;omega)|(right;exact⟨by omega,by omega⟩)),?_⟩;simp[keepE,go_sem];done

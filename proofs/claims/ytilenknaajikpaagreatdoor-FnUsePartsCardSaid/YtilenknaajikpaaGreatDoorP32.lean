/- Of parts_card; no condition. -/
import Derived.Test.YtilenknaajikpaaGreatDoorP28
import Derived.Test.YtilenknaajikpaaGreatDoorP30
set_option linter.all false
set_option maxRecDepth 100000
set_option maxHeartbeats 16000000
open Bool renaming and_eq_true->A2
open Go.Proofs.Tryz renaming prog->A5
open Int renaming toNat_natCast->A0
open List renaming getElem?_eq_getElem->A1,length_append->A3,length_cons->A4
open Option renaming bind_some->A6
namespace Go.Proofs.YtilenknaajikpaaGreatDoor
noncomputable section
open Go.RowKit
namespace Aw
variable{t:Pl.Tree}{w:Pl.Sto}
theorem Qdl(s:Pm.Store)(t:Pl.Tree)(k:Nat):Qx (Q4 s t k).1.tree/\(0<=(Q4 s t k).1.size/\(Q4 s t k).1.size<=2048):=by
 have h0:Qx Qd.tree/\0<=Qd.size/\Qd.size<=2048:=⟨tgood0,by decide,by decide⟩;unfold Q4;split
 ·rcases QiU ((Qc s t).getD k []) with h|h
  ·exact⟨⟨h.depth.1,h.depth.2,h.ptr,h.many.1,h.many.2⟩,h.size⟩
  grind
 ·exact h0
def QcY(l:List Ql):Prop:=(∀e∈l,e.1.length<=4/\0<=e.2/\e.2<=15)/\l.length<=13
def Qjw(s:Pm.Store)(n:Qi):QcY (Qf s n).1:=⟨fun e he=>by
 obtain⟨h1,h2,h3⟩:=Qit s n e he
 exact⟨QdQ h1,by omega,h3⟩,by have:=Qed s n;omega⟩
def Qjy: ∀l:List Ql,(∀e∈l,e.1.length<=4/\0<=e.2/\e.2<=15)->(QB l).length<=8*l.length
 |[],_=>by simp[QB]
 |e::l,h=>by
  have h1:=Qjy l fun x hx=>h x (List.mem_cons_of_mem _ hx)
  obtain⟨h2,h3,h4⟩:=h e List.mem_cons_self;have h5:=Pl.Qdb 1 e.2.toNat (by omega);unfold QB at h1⊢;rw[List.flatMap_cons,A3,A4];simp only[Qau,A3,A4,List.length_nil] at h1⊢;omega
def QiB{l:List Ql}{e:Ql}(h:QcY l)(hl:l.length<=12)(h1:e.1.length<=4)(h2:0<=e.2)(h3:e.2<=15):QcY (Qay l e):=
 ⟨fun x hx=>(QmM hx).elim (fun h4=>h4▸⟨h1,h2,h3⟩) (h.1 x),by rw[QmN];omega⟩
theorem Qmg{l:List Ql}(h:QcY l)(i:Nat):QcY (l.take i++l.drop (i+1)):=
 ⟨fun x hx=>h.1 x ((List.mem_append.1 hx).elim (fun h1=>List.mem_of_mem_take h1) (fun h1=>List.mem_of_mem_drop h1)),by have:=h.2;grind⟩
def EB.text{l:List Ql}(h:QcY l):(QB l).length<=104:=by have:=Qjy l h.1;have:=h.2;omega
theorem Qn8(s:Pm.Store)(ns:List Qi): ∀(q:List (List UInt8)) (i:Int),0<=i->i<=15-> ∀j,QbE (Qf s) ns i q=some j->0<=j/\j<=15
 |[],i,h0,h1,j,h=>by rw[Qf1] at h;grind
 |n::q,i,h0,h1,j,h=>by
  rw[Qeo] at h;split at h
  ·cases h
  ·rename_i e he
   have:=Qit s (ns.getD i.toNat Qd) e (List.mem_of_find?_eq_some he);exact Qn8 s ns q e.2 (by omega) this.2.2 j h
theorem QdS(s:Pm.Store)(t:Pl.Tree)(q:List (List UInt8)):Qai s t q<0∨ ∃a:Nat,a<16/\Qai s t q=a:=by
 unfold Qai Qah;cases h:QbE (Qf s) (Qe s t) 0 q with
 |none=>grind
 |some j=>
  have:=Qn8 s (Qe s t) q 0 (by omega) (by omega) j h;exact .inr ⟨j.toNat,by omega,by grind⟩
theorem QfQ(w:Pl.Sto)(t:Pl.Tree)(path:List UInt8):(∃a:Nat,a<16/\(QI w t path).1=a)/\0<=(QI w t path).2/\((QI w t path).2=0->Qy path≠[]):=by
 unfold QI;split
 ·exact⟨⟨0,by omega,rfl⟩,by omega,fun h=>absurd h (by decide)⟩
 ·rename_i h0
  split
  ·grind
  ·rename_i h1
   split
   ·refine⟨?_,Int.le_refl _,fun _=>h0⟩
    rcases QdS w.st t ((Qy path).take ((Qy path).length -1)) with h2|h2
    ·omega
    ·exact h2
   grind
theorem Qg9(w:Pl.Sto)(t:Pl.Tree)(path:List UInt8):(∃a:Nat,a<16/\(Qat w t path).1=a)/\0<=(Qat w t path).2/\((Qat w t path).2=0->Qy path≠[]):=by
 have h:=QfQ w t path;unfold Qat;split
 ·rename_i h0
  exact⟨⟨0,by omega,rfl⟩,h.2.1,fun h1=>absurd h1 (by omega)⟩
 ·rename_i h0
  split
  ·exact⟨⟨0,by omega,rfl⟩,by omega,fun h1=>absurd h1 (by decide)⟩
  grind
abbrev QH(path:List UInt8):List UInt8:=(Qy path).getD ((Qy path).length -1) []
def QbD(f:Q7)(path:List UInt8)(kind:Int):Q7×Int:=
 if 0<(Qat f.1 f.2.1 path).2 then(f,(Qat f.1 f.2.1 path).2) else
 match QbX (Qc f.1.st f.2.1) with
 |none=>(f,6)
 |some id=>if 12<=(Qf f.1.st (Qk f (Qat f.1 f.2.1 path).1.toNat)).1.length then(f,6) else
  (QX (Qax f id ⟨kind,1,0,⟨Pl.hole,0,0⟩⟩) (Qat f.1 f.2.1 path).1.toNat (Qay (Qf f.1.st (Qk f (Qat f.1 f.2.1 path).1.toNat)).1 (QH path,id)),0)
attribute [local irreducible] ASeq ADraw AWP Loc AStep Fg.PlanF Fg.Flts EndR Fk.PlanF Fk.Flts Fk.AStepM Fk.Grew Fk.Gs
theorem eMakeF(g:Nat)(f:Q7)(N:Nat)(hN:N<=500000)(hw:f.1.W N)(ht:Qx f.2.1)(path:List UInt8)(hp:path.length<=900)(hb:(QH path).length<=4)(kind:Int):
 DoesE A5 123 [.ptr 5 0 0,.d (dS path),.d (dI kind)] (hF g f) (gF g f.1) (fun x H=>x= .d (dI (QbD f path kind).2)/\H=hF (g+1) (QbD f path kind).1):=by
 refine DoesE.tagF (C:=fun _=>True) ?_ Qdz;have c1:=aFresh f.1 N hw f.2.1 ht f.2.2 path hp;obtain⟨⟨a,ha,hae⟩,h2,h3⟩:=Qg9 f.1 f.2.1 path;have c2:=QuL f.1.st hw.good f.2.1 ht;have hd:=Pm.hid (QbD.eq_def f path kind);rw[hae,A0] at hd;have c3:=Qf4 g f N hw ht a;have hes:=Qjw f.1.st (Qk f a);have hel:=Qed f.1.st (Qk f a);have hidl:=fun id=>Qjp (l:=Qc f.1.st f.2.1) (k:=id)
 generalize QbD f path kind=res at*;generalize Qat f.1 f.2.1 path=p at*;obtain⟨p1,p2⟩:=p;simp only at hae h2 h3 hd c1;subst hae
 by_cases h0:0<p2
 ·rw[if_pos h0] at hd
  clear c2 c3;have hq:decide (p2>0)=true:=decide_eq_true h0;refine kH fun gvs=>?_
  repeat' first|refine kS ?_|refine qS (Qdd (fs:=f) cK c1 hw) ?_|refine kU ?_|refine kV ?_ ?_<;>intro q|fail
  all_goals first|exact absurd (hq.symm.trans ‹decide (p2>0)=false›) (by decide)|refine Q3 6 (hx:=?_);rw[hd.out];exact⟨g,trivial,rfl,rfl⟩
 rw[if_neg h0] at hd;have hq:decide (p2>0)=false:=decide_eq_false h0;have hne:=h3 (by omega);have c6:=QhA path (by omega) hne;generalize (Qf f.1.st (Qk f a)).1=l at*;cases hfr:QbX (Qc f.1.st f.2.1) with
 |none=>
  rw[hfr] at c2 hd;simp only at hd;refine kH fun gvs=>?_
  repeat' first|refine kS ?_|refine qS (Qdd (fs:=f) cK c1 hw) ?_|refine qD (Qdh cK c2 hw) ?_|refine Qdp [0,1,2,3,4,5] c3 cK (k:=kX ?_)|refine kU ?_|refine kV ?_ ?_<;>intro q|fail
  all_goals first|exact absurd (hq.symm.trans ‹decide (p2>0)=true›) (by decide)|refine Q3 6 (hx:=?_);rw[hd.out];exact⟨g,trivial,rfl,rfl⟩
 |some id=>
  rw[hfr] at c2 hd;simp only at hd;have hid:=(hidl id hfr).1
  replace c2:Pure A5 180 [dSt f.1.st,dTree f.2.1] (dI id):=c2
  by_cases h12:12<=l.length
  ·rw[if_pos h12] at hd
   refine kH fun gvs=>?_
   repeat' first|refine kS ?_|refine qS (Qdd (fs:=f) cK c1 hw) ?_|refine qD (Qdh cK c2 hw) ?_|refine Qdp [0,1,2,3,4,5] c3 cK (k:=kX ?_)|refine kU ?_|refine kV ?_ ?_<;>intro q|fail
   all_goals first|exact absurd (hq.symm.trans ‹decide (p2>0)=true›) (by decide)|exfalso;simp only[decide_eq_true_eq,decide_eq_false_iff_not] at*;omega|refine Q3 6 (hx:=?_);rw[hd.out];exact⟨g,trivial,rfl,rfl⟩
  rw[if_neg h12] at hd;have c4:=ePutF g f N (by omega) hw ht id hid ⟨kind,1,0,⟨Pl.hole,0,0⟩⟩ (Qeg _);have hWp:=Qhu hw ht hid ⟨kind,1,0,⟨Pl.hole,0,0⟩⟩;have c5:=al12Add l (QH path,(id:Int)) (by omega);have hae:=QiB (e:=(QH path,(id:Int))) hes hel hb (by simp) (by simp;omega);generalize Qax f id ⟨kind,1,0,⟨Pl.hole,0,0⟩⟩=f2 at*;generalize Qay l (QH path,(id:Int))=l2 at*;have c7:=eWriteF (g+1) f2 (N+15) (by omega) hWp.1 hWp.2 a ha (fun _=>(Qdl _ _ _).1) l2 hae.1 (by have:=hae.2;omega) (by have:=EB.text hae;omega);have hWr:=(QdJ hWp.1 hWp.2 ha (fun _=>(Qdl _ _ _).1) l2).1;generalize QX f2 a l2=f3 at*;have v0:f3.1.rows.length=f.1.rows.length:=by rw[hWr.rows,hw.rows]
  have v1:f3.1.refs.length=f.1.refs.length:=by rw[hWr.refs,hw.refs]
  have v2:f3.1.last.length=f.1.last.length:=by rw[hWr.last,hw.last]
  clear hWp hWr;refine kH fun gvs=>?_
  repeat' first|refine kS ?_|refine qS (Qdd (fs:=f) cK c1 hw) ?_|refine qD (Qdh cK c2 hw) ?_|refine Qdp [0,1,2,3,4,5] c3 cK (k:=kX ?_)|refine Qdp [0,1,2,3,4,5] c4 cK (k:=kX ?_)|refine Qdp [0,1,2,3,4,5] c7 cK (k:=kX ?_)|refine kU ?_|refine kV ?_ ?_<;>intro q|fail
  all_goals first|exact absurd (hq.symm.trans ‹decide (p2>0)=true›) (by decide)|exfalso;simp only[decide_eq_true_eq,decide_eq_false_iff_not] at*;omega|refine Q3 6 (hx:=?_);rw[hd.out];exact⟨_,trivial,rfl,rfl⟩
def QjY(s:Pm.Store)(t:Pl.Tree)(k:Nat):0<=(Q4 s t k).1.links/\(Q4 s t k).1.links<=9:=by
 have h0:0<=Qd.links/\Qd.links<=9:=by decide
 unfold Q4;split
 ·rcases QiU ((Qc s t).getD k []) with h|h
  ·have:=h.links;omega
  ·rw[h];exact h0
 ·exact h0
def QbR(f:Q7)(path pt:List UInt8):Q7×Int:=
 if QF f.1 f.2.1 path<0 then(f,2) else
 if(Qk f (QF f.1 f.2.1 path).toNat).kind≠1 then(f,4) else
 if 0<(Qat f.1 f.2.1 pt).2 then(f,(Qat f.1 f.2.1 pt).2) else
 if 9<=(Qk f (QF f.1 f.2.1 path).toNat).links∨12<=(Qf f.1.st (Qk f (Qat f.1 f.2.1 pt).1.toNat)).1.length then(f,6) else
 (QX (Qax f (QF f.1 f.2.1 path).toNat {Qk f (QF f.1 f.2.1 path).toNat with links:=(Qk f (QF f.1 f.2.1 path).toNat).links+1}) (Qat f.1 f.2.1 pt).1.toNat
   (Qay (Qf f.1.st (Qk f (Qat f.1 f.2.1 pt).1.toNat)).1 (QH pt,QF f.1 f.2.1 path)),0)
theorem eLinkF(g:Nat)(f:Q7)(N:Nat)(hN:N<=500000)(hw:f.1.W N)(ht:Qx f.2.1)(path pt:List UInt8)(hp:path.length<=900)(hp2:pt.length<=900)(hb:(QH pt).length<=4):
 DoesE A5 125 [.ptr 5 0 0,.d (dS path),.d (dS pt)] (hF g f) (gF g f.1) (fun x H=>x= .d (dI (QbR f path pt).2)/\H=hF (g+1) (QbR f path pt).1):=by
 refine DoesE.tagF (C:=fun _=>True) ?_ Qdz;have c0:=aFind f.1 N hw f.2.1 ht f.2.2 path hp;have c1:=aFresh f.1 N hw f.2.1 ht f.2.2 pt hp2;obtain⟨⟨a,ha,hae⟩,h2,h3⟩:=Qg9 f.1 f.2.1 pt;have hd:=Pm.hid (QbR.eq_def f path pt);rw[hae,A0] at hd;have c3:=Qf4 g f N hw ht a;have hes:=Qjw f.1.st (Qk f a);have hel:=Qed f.1.st (Qk f a);have hfb:=QdS f.1.st f.2.1 (Qy path);rw[show Qai f.1.st f.2.1 (Qy path)=QF f.1 f.2.1 path from rfl] at hfb;generalize QbR f path pt=res at*;generalize Qat f.1 f.2.1 pt=p at*;obtain⟨p1,p2⟩:=p;simp only at hae h2 h3 hd c1;subst hae;generalize QF f.1 f.2.1 path=i at*;rcases hfb with hfb|⟨k,hk,rfl⟩
 ·rw[if_pos hfb] at hd
  have hq:decide (i<0)=true:=decide_eq_true hfb;refine kH fun gvs=>?_
  repeat' first|refine kS ?_|refine qS (Qdd (fs:=f) cK c0 hw) ?_|refine kU ?_|refine kV ?_ ?_<;>intro q|fail
  all_goals first|exact absurd (hq.symm.trans ‹decide (i<0)=false›) (by decide)|refine Q3 6 (hx:=?_);rw[hd.out];exact⟨g,trivial,rfl,rfl⟩
 rw[if_neg (by omega),A0] at hd;have hq0:decide ((k:Int)<0)=false:=decide_eq_false (by omega);have c4:=aNode f.1 N hw f.2.1 ht f.2.2 k;have hln:=QjY f.1.st f.2.1 k;rw[show(Q4 f.1.st f.2.1 k).1=Qk f k from rfl] at c4 hln;have c5:=fun n=>ePutF g f N (by omega) hw ht k hk n (Qeg _)
 have hWp:=fun n=>Qhu hw ht hk n
 generalize (Qf f.1.st (Qk f a)).1=l at*;generalize Qk f k=n at*
 by_cases h0:0<p2
 ·rw[if_pos h0] at hd
  have hq:decide (p2>0)=true:=decide_eq_true h0;clear c5 hWp c3;refine kH fun gvs=>?_
  repeat' first|refine kS ?_|refine qS (Qdd (fs:=f) cK c0 hw) ?_|refine qS (Qdd (fs:=f) cK c4 hw) ?_|refine qS (Qdd (fs:=f) cK c1 hw) ?_|refine kU ?_|refine kV ?_ ?_<;>intro q|fail
  all_goals first|exact absurd (hq.symm.trans ‹decide (p2>0)=false›) (by decide)|exact absurd (hq0.symm.trans ‹decide ((k:Int)<0)=true›) (by decide)|refine Q3 6 (hx:=?_);rw[hd.out,if_pos (bne_iff_ne.1 ‹(n.kind !=1)=true›)];exact⟨g,trivial,rfl,rfl⟩|refine Q3 6 (hx:=?_);rw[hd.out,if_neg (by simpa using ‹(n.kind !=1)=false›)];exact⟨g,trivial,rfl,rfl⟩
 rw[if_neg h0] at hd;have hq:decide (p2>0)=false:=decide_eq_false h0;have c6:=QhA pt (by omega) (h3 (by omega))
 replace c5:=c5 {n with links:=n.links+1}
 replace hWp:=hWp {n with links:=n.links+1}
 have c7:=al12Add l (QH pt,(k:Int)) (by omega);have hae:=QiB (e:=(QH pt,(k:Int))) hes hel hb (by simp) (by simp;omega);generalize Qax f k {n with links:=n.links+1}=f2 at*;generalize Qay l (QH pt,(k:Int))=l2 at*;have c8:=eWriteF (g+1) f2 (N+15) (by omega) hWp.1 hWp.2 a ha (fun _=>(Qdl _ _ _).1) l2 hae.1 (by have:=hae.2;omega) (by have:=EB.text hae;omega);have hWr:=(QdJ hWp.1 hWp.2 ha (fun _=>(Qdl _ _ _).1) l2).1;generalize QX f2 a l2=f3 at*;have v0:f3.1.rows.length=f.1.rows.length:=by rw[hWr.rows,hw.rows]
 have v1:f3.1.refs.length=f.1.refs.length:=by rw[hWr.refs,hw.refs]
 have v2:f3.1.last.length=f.1.last.length:=by rw[hWr.last,hw.last]
 clear hWp hWr;refine kH fun gvs=>?_
 repeat' first|refine kS ?_|refine qS (Qdd (fs:=f) cK c0 hw) ?_|refine qS (Qdd (fs:=f) cK c4 hw) ?_|refine qS (Qdd (fs:=f) cK c1 hw) ?_|refine Qdp [0,1,2,3,4,5] c3 cK (k:=kX ?_)|refine Qdp [0,1,2,3,4,5] c5 cK (k:=kX ?_)|refine Qdp [0,1,2,3,4,5] c8 cK (k:=kX ?_)|refine kU ?_|refine kV ?_ ?_<;>intro q|fail
 all_goals first|exact absurd (hq.symm.trans ‹decide (p2>0)=true›) (by decide)|exact absurd (hq0.symm.trans ‹decide ((k:Int)<0)=true›) (by decide)|refine Q3 6 (hx:=?_);rw[hd.out,if_pos (bne_iff_ne.1 ‹(n.kind !=1)=true›)];exact⟨g,trivial,rfl,rfl⟩|refine Q3 6 (hx:=?_);rw[hd.out,if_neg (by simpa using ‹(n.kind !=1)=false›),if_pos (by simp only[decide_eq_true_eq,decide_eq_false_iff_not] at*;omega)];exact⟨g,trivial,rfl,rfl⟩|refine Q3 6 (hx:=?_);rw[hd.out,if_neg (by simpa using ‹(n.kind !=1)=false›),if_neg (by simp only[decide_eq_false_iff_not] at*;omega)];exact⟨_,trivial,rfl,rfl⟩
theorem QhQ(E:Qi->List Ql×Bool)(ns:List Qi)(b:List UInt8): ∀(q:List (List UInt8)) (i:Int),QbE E ns i (q++[b])=(QbE E ns i q).bind fun j=>((E (ns.getD j.toNat Qd)).1.find? (fun e=>e.1==b)).map (·.2)
 |[],i=>by
  rw[List.nil_append,Qeo,Qf1];simp only[A6];split
  ·grind
  ·rename_i e h;rw[h,Qf1];rfl
 |n::q,i=>by
  rw[List.cons_append,Qeo,Qeo];split
  ·rfl
  ·rename_i e h;exact QhQ E ns b q e.2
theorem Qqk{l:List (List UInt8)}(h:l≠[]):l=l.take (l.length -1)++[l.getD (l.length -1) []]:=by
 have hl:=List.length_pos_iff.2 h
 have h1:l.take (l.length -1)++[l.getD (l.length -1) []]=l.take (l.length -1+1):=by
  rw[List.take_add_one,A1 (by omega),List.getD_eq_getElem?_getD,A1 (by omega)];rfl
 grind
theorem Qft(ht:Qx t){path:List UInt8}(h0:0<=QF w t path)(h1:QF w t path≠0):
 Qy path≠[]/\(QI w t path).2=0/\ ∃a:Nat,a<16/\(QI w t path).1=a/\ ∃i:Nat,i<(Qf w.st (Q4 w.st t a).1).1.length/\Qa8 (Qf w.st (Q4 w.st t a).1).1 (QH path)=i:=by
 have hn:Qy path≠[]:=fun h=>h1 (by unfold QF Qai Qah;rw[h,Qf1];rfl)
 have hs:=Qqk hn;unfold QF Qai Qah at h0;rw[hs,QhQ] at h0;have hfb:=QdS w.st t ((Qy path).take ((Qy path).length -1));have hdef:Qai w.st t ((Qy path).take ((Qy path).length -1))=(QbE (Qf w.st) (Qe w.st t) 0 ((Qy path).take ((Qy path).length -1))).getD (-1):=rfl;cases hg:QbE (Qf w.st) (Qe w.st t) 0 ((Qy path).take ((Qy path).length -1)) with
 |none=>grind
 |some j=>
  rw[hg] at h0 hdef;have hj:Qai w.st t ((Qy path).take ((Qy path).length -1))=j:=hdef;have hjb:=Qn8 w.st (Qe w.st t) _ 0 (by omega) (by omega) j hg;obtain⟨a,ha⟩:=Int.eq_ofNat_of_zero_le hjb.1;subst ha;simp only[A6,A0] at h0;rw[<-Qgf w.st ht a] at h0;cases hf:(Qf w.st (Q4 w.st t a).1).1.find? (fun e=>e.1==(Qy path).getD ((Qy path).length -1) []) with
  |none=>grind
  |some e=>
   have hk:(Q4 w.st t a).1.kind=2:=by
    refine QeD (s:=w.st) ?_;rcases Qd0 w.st (Q4 w.st t a).1 with h|h
    ·exact h.1
    grind
   have hp:QI w t path=((a:Int),0):=by
    unfold QI
    grind
   rw[hp];exact⟨hn,rfl,a,by omega,rfl,(by obtain⟨i,h1,h2⟩:=QmD hf;grind)⟩
def QqR{N:Nat}(h:w.W N)(ht:Qx t){id many:Nat}(hid:id<16)(hm:many<=16){l:List Pl.Ptr}(hl: ∀p∈l,Pl.ptrOk p=true)(hn:l.length<=21):(Qa7 w t id l many).1.W (N+65):=by
 have h1:=Qfo ((Qn5 h hl).le (M:=N+21) (by omega)) ht hid [];unfold Qa7;split
 ·exact(cut_W h1.1 h1.2 hm).1.le (by omega)
 ·exact h1.1.le (by omega)
def Qam(f:Q7)(path:List UInt8):Q7:=
 QX f (QI f.1 f.2.1 path).1.toNat ((Qf f.1.st (Qk f (QI f.1 f.2.1 path).1.toNat)).1.take (Qa8 (Qf f.1.st (Qk f (QI f.1 f.2.1 path).1.toNat)).1 (QH path)).toNat++(Qf f.1.st (Qk f (QI f.1 f.2.1 path).1.toNat)).1.drop ((Qa8 (Qf f.1.st (Qk f (QI f.1 f.2.1 path).1.toNat)).1 (QH path)).toNat+1))
def QcI(f:Q7)(id:Nat):Q7:=
 ((Qa7 f.1 f.2.1 id (QP f.1.st (Qk f id).tree) (Qas (Qc f.1.st f.2.1) id)).1,(Qa7 f.1 f.2.1 id (QP f.1.st (Qk f id).tree) (Qas (Qc f.1.st f.2.1) id)).2.1,!(Qa7 f.1 f.2.1 id (QP f.1.st (Qk f id).tree) (Qas (Qc f.1.st f.2.1) id)).2.2)
def QbS(f:Q7)(path:List UInt8):Q7×Int:=
 if QF f.1 f.2.1 path<0 then(f,2) else
 if QF f.1 f.2.1 path=0∨((Qk f (QF f.1 f.2.1 path).toNat).kind=2/\0<(Qk f (QF f.1 f.2.1 path).toNat).size) then(f,5) else
 if 0<(Qk f (QF f.1 f.2.1 path).toNat).links -1 then(Qax (Qam f path) (QF f.1 f.2.1 path).toNat {Qk f (QF f.1 f.2.1 path).toNat with links:=(Qk f (QF f.1 f.2.1 path).toNat).links -1},0) else
 if(Qam f path).2.2 then(Qam f path,0) else(QcI (Qam f path) (QF f.1 f.2.1 path).toNat,0)
theorem Qr6(s:Pm.Store)(t:Pl.Tree)(k:Nat)(h:(Q4 s t k).1.kind=1):(0<=(Q4 s t k).1.size/\(Q4 s t k).1.size<=192)/\(Q4 s t k).1.tree.many=((Q4 s t k).1.size+11)/12:=by
 unfold Q4 at h⊢;split
 ·rename_i h1
  rw[if_pos h1] at h;rcases Qg0 ((Qc s t).getD k []) with h2|h2
  ·have h3:=h2.1.1
   unfold QL at h3;have hb:=Qe5 h2.1.1;simp only[A2,beq_iff_eq,decide_eq_true_eq] at h3
   have h4: ∀x:Int,Qak 1 x=if Pl.inR x 0 192 then(x+11)/12 else -1:=fun x=>by
    unfold Qak;rw[show QaY 1=12 from rfl,if_neg (by decide)]
    grind
   have hm:=hb.many
   have h5:(Qq ((Qc s t).getD k [])).1.tree.many=Qak 1 (Qq ((Qc s t).getD k [])).1.size:=by
    grind
   rw[h4] at h5;split at h5
   ·rename_i h6
    unfold Pl.inR at h6
    grind
   ·omega
  ·rw[h2] at h;exact absurd h (by decide)
 ·rename_i h1
  rw[if_neg h1] at h;exact absurd h (by decide)
structure QbN where
 kind:Int
 path:List UInt8
 pto:List UInt8
 at':Nat
 text:List UInt8
abbrev dOp(o:QbN):D:= .agg [dI o.kind,dS o.path,dS o.pto,dI o.at',dS o.text]
def QbK(f:Q7)(n:Qi)(o:QbN):Pl.Sto×Qi×Bool:=if o.kind=3 then Qb2 f.1 n o.at' o.text else Qb3 f.1 n o.at'
def Qbg(f:Q7)(o:QbN):Q7×Int:=
 if QF f.1 f.2.1 o.path<0 then(f,2) else
 if(Qk f (QF f.1 f.2.1 o.path).toNat).kind≠1 then(f,4) else
 if 192<o.at'+o.text.length then(f,6) else
 (Qax ((QbK f (Qk f (QF f.1 f.2.1 o.path).toNat) o).1,f.2.1,!(QbK f (Qk f (QF f.1 f.2.1 o.path).toNat) o).2.2) (QF f.1 f.2.1 o.path).toNat (QbK f (Qk f (QF f.1 f.2.1 o.path).toNat) o).2.1,0)
abbrev dOpI(k:Int)(path pt:List UInt8)(a:Int)(text:List UInt8):D:= .agg [dI k,dS path,dS pt,dI a,dS text]
structure OpFit(k:Int)(path pt:List UInt8)(a:Int)(text:List UInt8):Prop where
 kind:1<=k/\k<=7
 path:(Qz path).isSome=true
 two:k=6∨k=7->(Qz pt).isSome=true
 text:text.length<=24
 at':0<=a/\a<=192
def eOpOk(k:Int)(path pt:List UInt8)(a:Int)(text:List UInt8)(hp:path.length<=1000)(ht:pt.length<=1000):
 DoesE A5 73 [.d (dOpI k path pt a text)] [] [] (fun x H=> ∃b:Bool,(b=true->OpFit k path pt a text)/\x= .d (dB b)/\H=[]):=by
 have c1:=al6In k 1 7;have c2:=aPathOk path (by omega);have c3:=aPathOk pt (by omega);have c4:=al6In a 0 192;have h4:Pl.inR a 0 192=true->0<=a/\a<=192:=by unfold Pl.inR;simp only[A2,decide_eq_true_eq];exact fun h=>h
 have h1:Hid (Pl.inR k 1 7=true->k=1∨k=2∨k=3∨k=4∨k=5∨k=6∨k=7):=Pm.hid (by unfold Pl.inR;simp only[A2,decide_eq_true_eq];omega);generalize Pl.inR a 0 192=ia at*;generalize hik:Pl.inR k 1 7=ik at*;have hpd:=fun h=>OpFit.mk (k:=k) (path:=path) (pt:=pt) (a:=a) (text:=text) h
 generalize (Qz path).isSome=bp at*;generalize (Qz pt).isSome=bt at*;cases ik
 ·refine kH fun gvs=>?_
  repeat' first|refine kA ?_|refine kV ?_ ?_<;>intro q|fail
  all_goals first|refine Q3 0 (hx:=?_);exact⟨false,(fun h=>by cases h),rfl,rfl⟩
 rcases h1.out rfl with rfl|rfl|rfl|rfl|rfl|rfl|rfl
 all_goals
  refine kH fun gvs=>?_
  repeat' first|refine kA ?_|refine kV ?_ ?_<;>intro q|fail
  all_goals first|refine Q3 0 (hx:=?_);exact⟨false,(fun h=>by cases h),rfl,rfl⟩|simp only[Bool.not_eq_false',decide_eq_false_iff_not,beq_iff_eq] at*;refine Q3 0 (hx:=?_);exact⟨_,(fun h=>hpd (by omega) (by assumption) (fun _=>by first|assumption|omega) (by omega) (by first|omega|exact h4 h)),rfl,rfl⟩

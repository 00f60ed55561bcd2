/- Of fby_card; no condition. -/
import Derived.Test.YtfmnpmhadmcdkaaGreatDoorT30
set_option linter.all false
set_option maxRecDepth 100000
set_option maxHeartbeats 16000000
open Int renaming toNat_natCast->A0
namespace Go.Proofs.YtfmnpmhadmcdkaaGreatDoor
noncomputable section
open Go.RowKit
namespace Aw
attribute [local irreducible] ASeq ADraw AWP Loc AStep Fg.PlanF Fg.Flts EndR Fk.PlanF Fk.Flts Fk.AStepM Fk.Grew Fk.Gs
def eDropF(g:Nat)(f:Q4)(N:Nat)(hN:N<=500000)(hw:f.1.W N)(ht:Qx f.2.1)(path:List UInt8)(hp:path.length<=900)
 (hx:0<=QE f.1 f.2.1 path->QE f.1 f.2.1 path≠0-> ∀k:Nat,(Qah f path).2.2=false->Qce (Qah f path).1.st (Ql (Qah f path) k).tree.depth.toNat (Ql (Qah f path) k).tree.root/\ ∀p∈Qan (Qah f path).1.st (Ql (Qah f path) k).tree,Pl.ptrOk p=true):
 DoesE Tryz.prog 149 [.ptr 5 0 0,.d (dS path)] (hF g f) (gF g f.1) (fun x H=>x= .d (dI (QbJ f path).2)/\H=hF (g+1) (QbJ f path).1):=by
 refine DoesE.tagF (C:=fun _=>True) ?_ Qdp;have c0:=aFind f.1 N hw f.2.1 ht f.2.2 path hp;have c1:=aPlace f.1 N hw f.2.1 ht f.2.2 path hp;have hpf:=Qfa (w:=f.1) ht (path:=path);have hd:=Pm.hid (QbJ.eq_def f path);have hfb:=QdF f.1.st f.2.1 (Qy path);rw[show Qaf f.1.st f.2.1 (Qy path)=QE f.1 f.2.1 path from rfl] at hfb;generalize QbJ f path=res at*;have hd1:=Pm.hid (Qah.eq_def f path);generalize Qah f path=f2 at*;generalize QE f.1 f.2.1 path=i at*;rcases hfb with hfb|⟨k,hk,rfl⟩
 ·rw[if_pos hfb] at hd
  have hq:decide (i<0)=true:=decide_eq_true hfb;refine kH fun gvs=>?_
  repeat' first|refine kS ?_|refine qS (QY (fs:=f) cK c0 hw) ?_|refine kU ?_|refine kV ?_ ?_<;>intro q|fail
  all_goals first|exact absurd (hq.symm.trans ‹decide (i<0)=false›) (by decide)|refine Q1 6 (hx:=?_);rw[hd.out];exact⟨g,trivial,rfl,rfl⟩
 rw[if_neg (by omega),A0] at hd;have hq0:decide ((k:Int)<0)=false:=decide_eq_false (by omega);have c4:=aNode f.1 N hw f.2.1 ht f.2.2 k;have hln:=Qjs f.1.st f.2.1 k;rw[show(Q5 f.1.st f.2.1 k).1=Ql f k from rfl] at c4 hln;generalize Ql f k=n at*
 by_cases h1:(k:Int)=0∨(n.kind=2/\0<n.size)
 ·rw[if_pos h1] at hd
  clear hpf hx hd1;refine kH fun gvs=>?_
  repeat' first|refine kS ?_|refine qS (QY (fs:=f) cK c0 hw) ?_|refine qS (QY (fs:=f) cK c4 hw) ?_|refine kU ?_|refine kV ?_ ?_<;>intro q|fail
  all_goals first|exact absurd (hq0.symm.trans ‹decide ((k:Int)<0)=true›) (by decide)|refine Q1 6 (hx:=?_);rw[hd.out];exact⟨g,trivial,rfl,rfl⟩|exfalso;simp only[beq_iff_eq,beq_eq_false_iff_ne,decide_eq_false_iff_not,ne_eq] at*;omega
 rw[if_neg h1] at hd;obtain⟨hne,hp2,a,ha,hpa,i,hi,hi2⟩:=hpf (by omega) (by omega);rw[show(Q5 f.1.st f.2.1 a).1=Ql f a from rfl] at hi hi2;rw[hpa,A0,hi2,A0] at hd1;rw[hpa,hp2] at c1;have c5:=Qfg g f N hw ht a;have hes:=Qlz (QiE f.1.st (Ql f a)) i;have hel:=Qe0 f.1.st (Ql f a);generalize (Qg f.1.st (Ql f a)).1=l at*;have c6:=Qhe path (by omega) hne;have c7:=(al12At l (QK path) (by omega)).arg (l:=[tEnts l,dS (QK path)]);rw[hi2] at c7;have c8:=Qon l i hi (by omega);generalize l.take i++l.drop (i+1)=l2 at*;have c9:=eWriteF g f N (by omega) hw ht a ha (fun _=>(Qde _ _ _).1) l2 hes.1 (by have:=hes.2;omega) (by have:=EB.text hes;omega);have hW2:=Qd6 hw ht ha (fun _=>(Qde _ _ _).1) l2;rw[<-hd1.out] at c9 hW2;clear hd1 hes hpf
 by_cases h2:0<n.links -1
 ·rw[if_pos h2] at hd
  have c10:=ePutF (g+1) f2 (N+284) (by omega) hW2.1 hW2.2 k hk {n with links:=n.links -1} (QdR _);have hWp:=(QgL hW2.1 hW2.2 hk {n with links:=n.links -1}).1;generalize Qaq f2 k {n with links:=n.links -1}=f3 at*;have v0:f3.1.rows.length=f.1.rows.length:=by rw[hWp.rows,hw.rows]
  have v1:f3.1.refs.length=f.1.refs.length:=by rw[hWp.refs,hw.refs]
  have v2:f3.1.last.length=f.1.last.length:=by rw[hWp.last,hw.last]
  clear hWp hW2 hx;refine kH fun gvs=>?_
  repeat' first|refine kS ?_|refine qS (QY (fs:=f) cK c0 hw) ?_|refine qS (QY (fs:=f) cK c4 hw) ?_|refine qS (QY (fs:=f) cK c1 hw) ?_|refine Qdg [0,1,2,3,4,5] c5 cK (k:=kX ?_)|refine Qdg [0,1,2,3,4,5] c9 cK (k:=kX ?_)|refine Qdg [0,1,2,3,4,5] c10 cK (k:=kX ?_)|refine kU ?_|refine kV ?_ ?_<;>intro q|fail
  all_goals first|refine Q1 6 (hx:=?_);rw[hd.out];exact⟨_,trivial,rfl,rfl⟩|exact absurd (hq0.symm.trans ‹decide ((k:Int)<0)=true›) (by decide)|exfalso;simp only[beq_iff_eq,beq_eq_false_iff_ne,decide_eq_true_eq,decide_eq_false_iff_not,ne_eq] at*;omega
 rw[if_neg h2] at hd;obtain⟨w2,t2,full2⟩:=f2;simp only at hd hx hW2;cases full2;rotate_left
 ·rw[if_pos rfl] at hd
  have v0:w2.rows.length=f.1.rows.length:=by rw[hW2.1.rows,hw.rows]
  have v1:w2.refs.length=f.1.refs.length:=by rw[hW2.1.refs,hw.refs]
  have v2:w2.last.length=f.1.last.length:=by rw[hW2.1.last,hw.last]
  clear hW2 hx;refine kH fun gvs=>?_
  repeat' first|refine kS ?_|refine qS (QY (fs:=f) cK c0 hw) ?_|refine qS (QY (fs:=f) cK c4 hw) ?_|refine qS (QY (fs:=f) cK c1 hw) ?_|refine Qdg [0,1,2,3,4,5] c5 cK (k:=kX ?_)|refine Qdg [0,1,2,3,4,5] c9 cK (k:=kX ?_)|refine kU ?_|refine kV ?_ ?_<;>intro q|fail
  all_goals first|refine Q1 6 (hx:=?_);rw[hd.out];exact⟨_,trivial,rfl,rfl⟩|exact absurd (hq0.symm.trans ‹decide ((k:Int)<0)=true›) (by decide)|exfalso;simp only[beq_iff_eq,beq_eq_false_iff_ne,decide_eq_true_eq,decide_eq_false_iff_not,ne_eq] at*;omega
 rw[if_neg (by decide)] at hd;obtain⟨x1,x2⟩:=hx (by omega) (by omega) k rfl;have c11:=eDrop11 (g+1) w2 (N+284) (by omega) hW2.1 t2 hW2.2 k hk (Qde _ _ _).1 x1 x2;have hWd:=QpE (id:=k) (many:=Qal (Qc w2.st t2) k) hW2.1 hW2.2 hk (Nat.le_trans (QgI _ _) (by rw[texts_len _ hW2.2];have:=hW2.2.manyHi;omega)) x2 (QhX (Qde _ _ _).1.hi);have hd2:Hid (QcA (w2,t2,false) k=((Qay w2 t2 k (Qan w2.st (Q5 w2.st t2 k).1.tree) (Qal (Qc w2.st t2) k)).1,(Qay w2 t2 k (Qan w2.st (Q5 w2.st t2 k).1.tree) (Qal (Qc w2.st t2) k)).2.1,!(Qay w2 t2 k (Qan w2.st (Q5 w2.st t2 k).1.tree) (Qal (Qc w2.st t2) k)).2.2)):=Pm.hid rfl;rw[hd2.out] at hd;rw[show Ql (w2,t2,false) k=(Q5 w2.st t2 k).1 from rfl] at hWd;generalize Qay w2 t2 k (Qan w2.st (Q5 w2.st t2 k).1.tree) (Qal (Qc w2.st t2) k)=y at*;obtain⟨w3,t3,ok3⟩:=y;simp only at c11 hWd hd;have v0:w3.rows.length=f.1.rows.length:=by rw[hWd.rows,hw.rows]
 have v1:w3.refs.length=f.1.refs.length:=by rw[hWd.refs,hw.refs]
 have v2:w3.last.length=f.1.last.length:=by rw[hWd.last,hw.last]
 clear hWd hW2 hd2 x1 x2 hx;refine kH fun gvs=>?_
 repeat' first|refine kS ?_|refine qS (QY (fs:=f) cK c0 hw) ?_|refine qS (QY (fs:=f) cK c4 hw) ?_|refine qS (QY (fs:=f) cK c1 hw) ?_|refine Qdg [0,1,2,3,4,5] c5 cK (k:=kX ?_)|refine Qdg [0,1,2,3,4,5] c9 cK (k:=kX ?_)|(show AWP _ (.region 15 _ _) _ _;refine(Fk.awp_drawG (id:=15) [10,12,13,14,15] [9,16,17] [(14,.row 0 zSt),(15,.row 0 zTr)] [] 9 77 (.tup [oS (g+1+1) w3,.d (dTree t3),.d (dB ok3)]) ?_))|refine(Fk.aw_fltA 7 ?_)|refine(Fk.aw_fltA 8 ?_)|refine(Fk.aw_planC0 (by rfl) (by kernel_rfl) rfl ?_)|refine Fk.aw_callM [0,1,2,3,4] c11 cK (k:=kY ?_)|refine kU ?_|refine kV ?_ ?_<;>intro q|fail
 all_goals first|refine Q1 6 (hx:=?_);rw[hd.out];exact⟨_,trivial,rfl,rfl⟩|exact absurd (hq0.symm.trans ‹decide ((k:Int)<0)=true›) (by decide)|exfalso;simp only[beq_iff_eq,beq_eq_false_iff_ne,decide_eq_true_eq,decide_eq_false_iff_not,ne_eq] at*;omega

/- Of ftw_card; no condition. -/
import Derived.Test.YthbonbflkdonkaaGreatDoorP42
set_option linter.all false
set_option maxRecDepth 100000
set_option maxHeartbeats 16000000
open Int renaming toNat_natCast->A0
namespace Go.Proofs.YthbonbflkdonkaaGreatDoor
noncomputable section
open Go.RowKit
namespace Aw
variable{f:Q4}{o:QbK}
def Qbm(l:List Qm)(i:Nat):List Qm:=l.take i++l.drop (i+1)
abbrev QaU(f:Q4)(a:Nat):List Qm:=(Qf f.1.st (Ql f a)).1
def Qcc(f:Q4)(a b:Nat)(n1 n2:List UInt8)(id:Int):Q4:=
 if(b:Int)=a then QR f b (Qar (Qbm (QaU f a) (Qa2 (QaU f a) n1).toNat) (n2,id)) else
 QR (QR f a (Qbm (QaU f a) (Qa2 (QaU f a) n1).toNat)) b
  (Qar (QaU (QR f a (Qbm (QaU f a) (Qa2 (QaU f a) n1).toNat)) b) (n2,id))
def QbN(f:Q4)(path pt:List UInt8):Q4×Int:=
 if QE f.1 f.2.1 path<0 then(f,2) else
 if QE f.1 f.2.1 path=0 then(f,5) else
 if 0<=QE f.1 f.2.1 pt then(f,3) else
 if Qcz pt path then(f,5) else
 if 0<(QI f.1 f.2.1 pt).2 then(f,(QI f.1 f.2.1 pt).2) else
 if(QI f.1 f.2.1 pt).1≠(QI f.1 f.2.1 path).1/\12<=(QaU f (QI f.1 f.2.1 pt).1.toNat).length then(f,6) else
 (Qcc f (QI f.1 f.2.1 path).1.toNat (QI f.1 f.2.1 pt).1.toNat (QJ path) (QJ pt) (QE f.1 f.2.1 path),0)
theorem QtD(h:Qca f){a b:Nat}(ha:a<16)(hb:b<16)(hka:f.2.2=false->(Qp f.1 f.2.1 a).1.kind=2)(hkb:f.2.2=false->(Qp f.1 f.2.1 b).1.kind=2)(n1 n2:List UInt8)(id:Int):Qca (Qcc f a b n1 n2 id):=by
 unfold Qcc;split
 ·exact(Qf8 hb h hkb).1
 ·rename_i hne
  have h1:=Qf8 (l:=Qbm (QaU f a) (Qa2 (QaU f a) n1).toNat) ha h hka;exact(Qf8 hb h1.1 fun e=>by grind).1
def fmove_k(h:Qca f)(hf:f.2.2=false)(path pt:List UInt8):Qca (QbN f path pt).1:=by
 have hF:=(h hf).1;have hfb:=QdR f.1.st f.2.1 (Qy path);rw[show Qae f.1.st f.2.1 (Qy path)=QE f.1 f.2.1 path from rfl] at hfb;have hpf:=Qfg (w:=f.1) hF.tr.good (path:=path);obtain⟨⟨b,hb,hbe⟩,hb2,_⟩:=Qf9 f.1 f.2.1 pt;unfold QbN;split
 ·exact h
 split
 ·exact h
 split
 ·exact h
 split
 ·exact h
 split
 ·exact h
 split
 ·exact h
 rename_i h1 h2 _ _ h3 _;obtain⟨hne,hp2,a,ha,hpa,i,hi,hi2⟩:=hpf (by omega) h2;rw[hpa,hbe,A0,A0];exact QtD h ha hb (fun _=>Qff hF ha hpa hp2) (fun _=>Qff hF hb hbe (by omega)) _ _ _
def Qbv(f:Q4)(o:QbK):Q4×Int:=
 if o.kind=1 then QbD f o.path 1 else if o.kind=2 then QbD f o.path 2 else if o.kind=5 then QbP f o.path else
 if o.kind=6 then QbO f o.path o.pto else if o.kind=7 then QbN f o.path o.pto else Qbe f o
def fact_k(h:Qca f)(hf:f.2.2=false)(o:QbK):Qca (Qbv f o).1:=by
 unfold Qbv;split
 ·exact Qr2 h hf _ _
 split
 ·exact Qr2 h hf _ _
 split
 ·exact fdrop_k h hf _
 split
 ·exact flink_k h hf _ _
 split
 ·exact fmove_k h hf _ _
 ·exact Qr9 h hf o
def Qcw(r:Q4×Int):Prop:=r.2=0/\r.1.2.2=false
def fdo_k{w:Pl.Sto}{t:Pl.Tree}(h:QbJ w t)(hm:1<=t.many)(hr:Qcw (Qbv (w,t,false) o)):QbJ (Qbv (w,t,false) o).1.1 (Qbv (w,t,false) o).1.2.1/\1<=(Qbv (w,t,false) o).1.2.1.many:=
 fact_k (fun _=>⟨h,hm⟩) rfl o hr.2
theorem Qu2{N:Nat}(h:f.1.W N){n:Qk}(ht:Qx n.tree)(ho:o.at'+o.text.length<=192):(QbI f n o).1.W (N+269):=by
 unfold QbI;split
 ·unfold Qb1
  split
  ·exact h.le (by omega)
  ·rename_i h1
   have:=List.length_pos_iff.2 h1;exact(Qic h ht (by omega)).1.le (by omega)
 ·have hm:(o.at'+11)/12<=16:=by omega
  have h2:=cut_W h ht (many:=(o.at'+11)/12) hm;have h3:=Qfb h ht (k:=(o.at'+11)/12 -1) (by omega) [];unfold Qb2;split
  ·split
   ·exact h.le (by omega)
   ·exact h3.1.le (by omega)
  ·split
   ·exact h2.1.le (by omega)
   ·split
    ·exact h2.1.le (by omega)
    grind [Qic]
attribute [local irreducible] ASeq ADraw AWP Loc AStep Fg.PlanF Fg.Flts EndR Fk.PlanF Fk.Flts Fk.AStepM Fk.Grew Fk.Gs
def Qor(g:Nat)(f:Q4)(N:Nat)(hN:N<=500000)(hw:f.1.W N)(ht:Qx f.2.1)(o:QbK)(hp:o.path.length<=900)(ha:o.at'<=1000000)(htx:o.text.length<=1000000):
 DoesE Tryz.prog 100 [.ptr 5 0 0,.d (dOp o)] (hF g f) (gF g f.1) (fun x H=>x= .d (dI (Qbe f o).2)/\H=hF (g+1) (Qbe f o).1):=by
 refine DoesE.tagF (C:=fun _=>True) ?_ Qdy;have c0:=aFind f.1 N hw f.2.1 ht f.2.2 o.path hp;have hd:=Pm.hid (Qbe.eq_def f o);have hfb:=QdR f.1.st f.2.1 (Qy o.path);rw[show Qae f.1.st f.2.1 (Qy o.path)=QE f.1 f.2.1 o.path from rfl] at hfb;generalize Qbe f o=res at*;generalize QE f.1 f.2.1 o.path=i at*;rcases hfb with hfb|⟨k,hk,rfl⟩
 ·rw[if_pos hfb] at hd
  have hq:decide (i<0)=true:=decide_eq_true hfb;refine kH fun gvs=>?_
  refine Qa 6 (h:=?_)
  repeat' first|refine kS ?_|refine qS (QY (fs:=f) cK c0 hw) ?_|refine kU ?_|refine kV ?_ ?_<;>intro q|fail
  all_goals first|exact absurd (hq.symm.trans ‹decide (i<0)=false›) (by decide)|refine Q1 6 (hx:=?_);rw[hd.out];exact⟨g,trivial,rfl,rfl⟩
 rw[if_neg (by omega),A0] at hd;have hq0:decide ((k:Int)<0)=false:=decide_eq_false (by omega);have c4:=aNode f.1 N hw f.2.1 ht f.2.2 k;have hng:=Qdl f.1.st f.2.1 k;have hnf:=QqQ f.1.st f.2.1 k;rw[show(Q5 f.1.st f.2.1 k).1=Ql f k from rfl] at c4 hng hnf;generalize Ql f k=n at*
 by_cases h1:n.kind≠1
 ·rw[if_pos h1] at hd
  have hq1:(n.kind !=1)=true:=bne_iff_ne.2 h1;refine kH fun gvs=>?_
  refine Qa 6 (h:=?_)
  repeat' first|refine kS ?_|refine qS (QY (fs:=f) cK c0 hw) ?_|refine qS (QY (fs:=f) cK c4 hw) ?_|refine kU ?_|refine kV ?_ ?_<;>intro q|fail
  all_goals first|exact absurd (hq0.symm.trans ‹decide ((k:Int)<0)=true›) (by decide)|exact absurd (hq1.symm.trans ‹(n.kind !=1)=false›) (by decide)|refine Q1 6 (hx:=?_);rw[hd.out];exact⟨g,trivial,rfl,rfl⟩
 rw[if_neg h1] at hd;have hk1:n.kind=1:=Classical.not_not.1 h1;have hq1:(n.kind !=1)=false:=by rw[hk1];rfl
 obtain⟨hns,hnm⟩:=hnf hk1
 by_cases h2:192<o.at'+o.text.length
 ·rw[if_pos h2] at hd
  have hq2:decide ((o.at':Int)+(o.text.length:Int)>192)=true:=decide_eq_true (by omega);refine kH fun gvs=>?_
  refine Qa 6 (h:=?_)
  repeat' first|refine kS ?_|refine qS (QY (fs:=f) cK c0 hw) ?_|refine qS (QY (fs:=f) cK c4 hw) ?_|refine kU ?_|refine kV ?_ ?_<;>intro q|fail
  all_goals first|exact absurd (hq0.symm.trans ‹decide ((k:Int)<0)=true›) (by decide)|exact absurd (hq1.symm.trans ‹(n.kind !=1)=true›) (by decide)|exact absurd (hq2.symm.trans ‹decide ((o.at':Int)+(o.text.length:Int)>192)=false›) (by decide)|refine Q1 6 (hx:=?_);rw[hd.out];exact⟨g,trivial,rfl,rfl⟩
 rw[if_neg h2] at hd;have hq2:decide ((o.at':Int)+(o.text.length:Int)>192)=false:=decide_eq_false (by omega);have hWc:=Qu2 (f:=f) hw (n:=n) hng.1 (o:=o) (by omega);have hfc:=Pm.hid (QbI.eq_def f n o);generalize QbI f n o=y at*;obtain⟨w2,n2,ok2⟩:=y;simp only at hWc hd;have cP:=ePutF (g+1) (w2,f.2.1,!ok2) (N+269) (by omega) hWc ht k hk n2 (Qeb _);have hWp:=(QgY (f:=(w2,f.2.1,!ok2)) hWc ht hk n2).1;generalize Qaq (w2,f.2.1,!ok2) k n2=f3 at*;have v0:f3.1.rows.length=f.1.rows.length:=by rw[hWp.rows,hw.rows]
 have v1:f3.1.refs.length=f.1.refs.length:=by rw[hWp.refs,hw.refs]
 have v2:f3.1.last.length=f.1.last.length:=by rw[hWp.last,hw.last]
 clear hWp hWc
 by_cases h3:o.kind=3
 ·have hq3:(o.kind==3)=true:=by simpa using h3
  have c6:=QtI g f.1 N (by omega) hw n hng.1 hng.2 o.at' o.text (by omega);rw[<-(show(w2,n2,ok2)=Qb1 f.1 n o.at' o.text by rw[hfc.out,if_pos h3])] at c6;simp only at c6;refine kH fun gvs=>?_
  refine Qa 6 (h:=?_)
  repeat' first|refine kS ?_|refine qS (QY (fs:=f) cK c0 hw) ?_|refine qS (QY (fs:=f) cK c4 hw) ?_|(show AWP _ (.region 11 _ _) _ _;refine(Fk.awp_drawG (id:=11) [0,11,13,14] [10,17,18] [] [] 10 41 (.tup [oS (g+1) w2,.d (dNode n2),.d (dB ok2)]) ?_))|refine(Fk.aw_planC0 (by rfl) (by kernel_rfl) rfl ?_)|refine Fk.aw_callM [0,1,2,3,4] c6 cK (k:=kY ?_)|refine Qdq [0,1,2,3,4,5] cP cK (k:=kX ?_)|refine kU ?_|refine kV ?_ ?_<;>intro q|fail
  all_goals first|exact absurd (hq0.symm.trans ‹decide ((k:Int)<0)=true›) (by decide)|exact absurd (hq1.symm.trans ‹(n.kind !=1)=true›) (by decide)|exact absurd (hq2.symm.trans ‹decide ((o.at':Int)+(o.text.length:Int)>192)=true›) (by decide)|exact absurd (hq3.symm.trans ‹(o.kind==3)=false›) (by decide)|refine Q1 6 (hx:=?_);rw[hd.out];exact⟨_,trivial,rfl,rfl⟩
 have hq3:(o.kind==3)=false:=by simpa using h3
 have c6:=eCut13 g f.1 N (by omega) hw n hng.1 hns hnm o.at' (by omega);rw[<-(show(w2,n2,ok2)=Qb2 f.1 n o.at' by rw[hfc.out,if_neg h3])] at c6;simp only at c6;refine kH fun gvs=>?_
 refine Qa 6 (h:=?_)
 repeat' first|refine kS ?_|refine qS (QY (fs:=f) cK c0 hw) ?_|refine qS (QY (fs:=f) cK c4 hw) ?_|(show AWP _ (.region 12 _ _) _ _;refine(Fk.awp_drawG (id:=12) [0,9,11,12] [8,15,16] [] [] 8 56 (.tup [oS (g+1) w2,.d (dNode n2),.d (dB ok2)]) ?_))|refine(Fk.aw_planC0 (by rfl) (by kernel_rfl) rfl ?_)|refine Fk.aw_callM [0,1,2,3,4] c6 cK (k:=kY ?_)|refine Qdq [0,1,2,3,4,5] cP cK (k:=kX ?_)|refine kU ?_|refine kV ?_ ?_<;>intro q|fail
 all_goals first|exact absurd (hq0.symm.trans ‹decide ((k:Int)<0)=true›) (by decide)|exact absurd (hq1.symm.trans ‹(n.kind !=1)=true›) (by decide)|exact absurd (hq2.symm.trans ‹decide ((o.at':Int)+(o.text.length:Int)>192)=true›) (by decide)|exact absurd (hq3.symm.trans ‹(o.kind==3)=true›) (by decide)|refine Q1 6 (hx:=?_);rw[hd.out];exact⟨_,trivial,rfl,rfl⟩

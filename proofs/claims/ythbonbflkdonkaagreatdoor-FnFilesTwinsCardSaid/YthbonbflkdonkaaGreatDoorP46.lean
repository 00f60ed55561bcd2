/- Of ftw_card; no condition. -/
import Derived.Test.YthbonbflkdonkaaGreatDoorP15
import Derived.Test.YthbonbflkdonkaaGreatDoorP43
import Derived.Test.YthbonbflkdonkaaGreatDoorP44
import Derived.Test.YthbonbflkdonkaaGreatDoorP45
set_option linter.all false
set_option maxRecDepth 100000
set_option maxHeartbeats 16000000
open Go renaming TypeId->A6,Operand->A7
open Go.Proofs.Tryz renaming prog->A3
open Int renaming toNat_natCast->A1
open List renaming replicate->A0,eq_of_mem_replicate->A2,append_nil->A4,flatMap_def->A5
namespace Go.Proofs.YthbonbflkdonkaaGreatDoor
noncomputable section
section
open Go.RowKit
namespace Aw
theorem Qj4(s:List UInt8): ∀l,Q7 s=some l->l.length<=4/\ ∀x∈l,x.length<=4:=fun l h=>by
 obtain⟨h1,h2,_⟩:=QfO.1 h
 grind [Qeq]
attribute [local irreducible] ASeq ADraw AWP Loc AStep Fg.PlanF Fg.Flts EndR Fk.PlanF Fk.Flts Fk.AStepM Fk.Grew Fk.Gs
theorem eMoveF(g:Nat)(f:Q4)(N:Nat)(hN:N<=500000)(hw:f.1.W N)(ht:Qx f.2.1)(path pt:List UInt8)(hp:path.length<=900)(hp2:pt.length<=900)(hb:(QJ pt).length<=4):
 DoesE A3 99 [.ptr 5 0 0,.d (dS path),.d (dS pt)] (hF g f) (gF g f.1) (fun x H=>x= .d (dI (QbN f path pt).2)/\H=hF (g+1) (QbN f path pt).1):=by
 refine DoesE.tagF (C:=fun _=>True) ?_ Qdy;have c0:=aFind f.1 N hw f.2.1 ht f.2.2 path hp;have c1:=aFind f.1 N hw f.2.1 ht f.2.2 pt hp2;have c2:=QpW pt path (by omega) (by omega) (Qj4 pt) (Qj4 path);have c3:=aPlace f.1 N hw f.2.1 ht f.2.2 pt hp2;have c4:=aPlace f.1 N hw f.2.1 ht f.2.2 path hp;have hpf:=Qfg (w:=f.1) ht (path:=path);obtain⟨⟨b,hb16,hbe⟩,hb2,hb3⟩:=Qf9 f.1 f.2.1 pt;have hd:=Pm.hid (QbN.eq_def f path pt);have hfb:=QdR f.1.st f.2.1 (Qy path);rw[show Qae f.1.st f.2.1 (Qy path)=QE f.1 f.2.1 path from rfl] at hfb;generalize QbN f path pt=res at*;generalize QI f.1 f.2.1 pt=p at*;obtain⟨p1,p2⟩:=p;simp only at hbe hb2 hb3 c3 hd;subst hbe;rw[A1] at hd;generalize Qcz pt path=u at*;generalize QE f.1 f.2.1 pt=j at*;generalize QE f.1 f.2.1 path=i at*
 by_cases h0:i<=0
 ·replace hd:Hid (res=(f,if i<0 then 2 else 5)):=Pm.hid (by
   rw[hd.out]
   by_cases h1:i<0
   ·rw[if_pos h1,if_pos h1]
   ·rw[if_neg h1,if_pos (by omega),if_neg h1])
  clear hpf hb3;refine kH fun gvs=>?_
  repeat' first|refine kS ?_|refine qS (QY (fs:=f) cK c0 hw) ?_|refine kU ?_|refine kV ?_ ?_<;>intro q|fail
  all_goals first|refine Q1 6 (hx:=?_);rw[hd.out,if_pos (by simp only[decide_eq_true_eq] at*;omega)];exact⟨g,trivial,rfl,rfl⟩|refine Q1 6 (hx:=?_);rw[hd.out,if_neg (by simp only[beq_iff_eq,decide_eq_false_iff_not] at*;omega)];exact⟨g,trivial,rfl,rfl⟩|exfalso;simp only[beq_eq_false_iff_ne,decide_eq_false_iff_not,ne_eq] at*;omega
 rcases hfb with hfb|⟨k,hk,rfl⟩
 ·omega
 rw[if_neg (show ¬(k:Int)<0 by omega),if_neg (show ¬(k:Int)=0 by omega)] at hd;obtain⟨hne,hq2,a,ha,hpa,i,hi,hi2⟩:=hpf (by omega) (by omega);rw[show(Q5 f.1.st f.2.1 a).1=Ql f a from rfl] at hi hi2;rw[hpa,A1] at hd;rw[hpa,hq2] at c4
 have hm:Hid (Qcc f a b (QJ path) (QJ pt) k=if(b:Int)=a then QR f b (Qar (Qbm (QaU f a) i) (QJ pt,(k:Int))) else
  QR (QR f a (Qbm (QaU f a) i)) b (Qar (QaU (QR f a (Qbm (QaU f a) i)) b) (QJ pt,(k:Int)))):=Pm.hid (by unfold Qcc;rw[hi2,A1])
 generalize Qcc f a b (QJ path) (QJ pt) k=F0 at*;have c5:=Qhq path (by omega) hne;have c6:=fun h=>Qhq pt (by omega) (hb3 h)
 have hla:=Qe6 f.1.st (Ql f a);have hes:=QlI (QiV f.1.st (Ql f a)) i;have d1:=Qfn g f N hw ht b;have d2:=Qfn g f N hw ht a;have hbl:=Qe6 f.1.st (Ql f b);unfold QaU at hm hd;clear hpf;generalize hlb:(Qf f.1.st (Ql f b)).1=lb at*;generalize hlae:(Qf f.1.st (Ql f a)).1=la at*;have hab:(b:Int)=a->lb=la:=fun e=>by rw[<-hlb,<-hlae,Int.ofNat.inj e]
 clear hlb hlae;have c7:=(al12At la (QJ path) (by omega)).arg (l:=[tEnts la,dS (QJ path)]);rw[hi2] at c7;have c8:=QoH la i hi (by omega);rw[show la.take i++la.drop (i+1)=Qbm la i from rfl] at c8 hes
 have hel:(Qbm la i).length<=12:=by
  unfold Qbm;rw[List.length_append,List.length_take,List.length_drop];omega
 generalize Qbm la i=l1 at*;have d3:=al12Add l1 (QJ pt,(k:Int)) (by omega);have hae:=Qil (e:=(QJ pt,(k:Int))) hes hel hb (by simp) (by simp;omega);generalize Qar l1 (QJ pt,(k:Int))=l2 at*;have d4:=eWriteF g f N (by omega) hw ht b hb16 (fun _=>(Qdl _ _ _).1) l2 hae.1 (by have:=hae.2;omega) (by have:=EB.text hae;omega);have hW1:=(QdI hw ht hb16 (fun _=>(Qdl _ _ _).1) l2).1;have d5:=eWriteF g f N (by omega) hw ht a ha (fun _=>(Qdl _ _ _).1) l1 hes.1 (by have:=hes.2;omega) (by have:=EB.text hes;omega);have hW2:=QdI hw ht ha (fun _=>(Qdl _ _ _).1) l1;generalize QR f b l2=f1 at*;generalize QR f a l1=f2 at*;have d6:=Qfn (g+1) f2 (N+284) hW2.1 hW2.2 b;have hes3:=QiV f2.1.st (Ql f2 b);have hel3:=Qe6 f2.1.st (Ql f2 b);generalize (Qf f2.1.st (Ql f2 b)).1=l3 at*;have d7:=al12Add l3 (QJ pt,(k:Int)) (by omega);have hae4:=Qil (e:=(QJ pt,(k:Int))) hes3 hel3 hb (by simp) (by simp;omega);generalize Qar l3 (QJ pt,(k:Int))=l4 at*;have d8:=eWriteF (g+1) f2 (N+284) (by omega) hW2.1 hW2.2 b hb16 (fun _=>(Qdl _ _ _).1) l4 hae4.1 (by have:=hae4.2;omega) (by have:=EB.text hae4;omega);have hW3:=(QdI hW2.1 hW2.2 hb16 (fun _=>(Qdl _ _ _).1) l4).1;generalize QR f2 b l4=f3 at*;have v0:f1.1.rows.length=f.1.rows.length/\f1.1.refs.length=f.1.refs.length/\f1.1.last.length=f.1.last.length:=⟨by rw[hW1.rows,hw.rows],by rw[hW1.refs,hw.refs],by rw[hW1.last,hw.last]⟩
 have v1:f3.1.rows.length=f.1.rows.length/\f3.1.refs.length=f.1.refs.length/\f3.1.last.length=f.1.last.length:=⟨by rw[hW3.rows,hw.rows],by rw[hW3.refs,hw.refs],by rw[hW3.last,hw.last]⟩;obtain⟨v2,v3,v4⟩:=v0;obtain⟨v5,v6,v7⟩:=v1;clear hW1 hW2 hW3 hes hes3 hae hae4 hel hel3;have hne2:(k:Int)≠0:=by omega
 refine kH fun gvs=>?_
 repeat' first|refine kS ?_|refine qS (QY (fs:=f) cK c0 hw) ?_|refine qS (QY (fs:=f) cK c1 hw) ?_|refine qS (QY (fs:=f) cK c3 hw) ?_|refine qS (QY (fs:=f) cK c4 hw) ?_|refine Qdq [0,1,2,3,4,5] d1 cK (k:=kX ?_)|refine Qdq [0,1,2,3,4,5] d2 cK (k:=kX ?_)|refine qS (Qdr cK (c6 (by simp only[decide_eq_true_eq,decide_eq_false_iff_not] at*;omega)) rfl) ?_|refine Qdq [0,1,2,3,4,5] d4 cK (k:=kX ?_)|refine Qdq [0,1,2,3,4,5] d5 cK (k:=kX ?_)|(show AWP _ (.region 23 _ _) _ _;refine(Qa 6 (h:=Fg.awp_drawF (id:=23) [0,1,2,3,5] [4,7] ?_)))|refine Qmj [0,1,2,3,4,5] d6 cK (k:=kZ ?_)|refine Qmj [0,1,2,3,4,5] d8 cK (k:=kZ ?_)|refine kU ?_|refine kV ?_ ?_<;>intro q|fail
 all_goals first
  |(exfalso;simp only[beq_iff_eq,beq_eq_false_iff_ne,bne_iff_ne,bne_eq_false_iff_eq,decide_eq_true_eq,decide_eq_false_iff_not,ne_eq] at*;omega)
  |(refine Q1 6 (hx:=?_);rw[hd.out,if_pos (by simp only[beq_iff_eq,beq_eq_false_iff_ne,bne_iff_ne,bne_eq_false_iff_eq,decide_eq_true_eq,decide_eq_false_iff_not,ne_eq] at*;omega)];exact⟨_,trivial,rfl,rfl⟩)
  |(refine Q1 6 (hx:=?_);rw[hd.out,if_neg (by simp only[beq_iff_eq,beq_eq_false_iff_ne,bne_iff_ne,bne_eq_false_iff_eq,decide_eq_true_eq,decide_eq_false_iff_not,ne_eq] at*;omega),if_pos (by assumption)];exact⟨_,trivial,rfl,rfl⟩)
  |(refine Q1 6 (hx:=?_);rw[hd.out,if_neg (by simp only[beq_iff_eq,beq_eq_false_iff_ne,bne_iff_ne,bne_eq_false_iff_eq,decide_eq_true_eq,decide_eq_false_iff_not,ne_eq] at*;omega),if_neg (by rw[‹u=false›];decide),if_pos (by simp only[beq_iff_eq,beq_eq_false_iff_ne,bne_iff_ne,bne_eq_false_iff_eq,decide_eq_true_eq,decide_eq_false_iff_not,ne_eq] at*;omega)];exact⟨_,trivial,rfl,rfl⟩)
  |(refine Q1 6 (hx:=?_);rw[hd.out,if_neg (by simp only[beq_iff_eq,beq_eq_false_iff_ne,bne_iff_ne,bne_eq_false_iff_eq,decide_eq_true_eq,decide_eq_false_iff_not,ne_eq] at*;omega),if_neg (by rw[‹u=false›];decide),if_neg (by simp only[beq_iff_eq,beq_eq_false_iff_ne,bne_iff_ne,bne_eq_false_iff_eq,decide_eq_true_eq,decide_eq_false_iff_not,ne_eq] at*;omega),if_pos (by simp only[beq_iff_eq,beq_eq_false_iff_ne,bne_iff_ne,bne_eq_false_iff_eq,decide_eq_true_eq,decide_eq_false_iff_not,ne_eq] at*;omega)];exact⟨_,trivial,rfl,rfl⟩)
  |(refine Q1 6 (hx:=?_);rw[hd.out,if_neg (by simp only[beq_iff_eq,beq_eq_false_iff_ne,bne_iff_ne,bne_eq_false_iff_eq,decide_eq_true_eq,decide_eq_false_iff_not,ne_eq] at*;omega),if_neg (by rw[‹u=false›];decide),if_neg (by simp only[beq_iff_eq,beq_eq_false_iff_ne,bne_iff_ne,bne_eq_false_iff_eq,decide_eq_true_eq,decide_eq_false_iff_not,ne_eq] at*;omega),if_neg (by simp only[beq_iff_eq,beq_eq_false_iff_ne,bne_iff_ne,bne_eq_false_iff_eq,decide_eq_true_eq,decide_eq_false_iff_not,ne_eq] at*;omega),hm.out,if_pos (by simp only[beq_iff_eq,beq_eq_false_iff_ne,bne_iff_ne,bne_eq_false_iff_eq,decide_eq_true_eq,decide_eq_false_iff_not,ne_eq] at*;omega)];exact⟨_,trivial,rfl,rfl⟩)
  |(refine Q1 6 (hx:=?_);rw[hd.out,if_neg (by simp only[beq_iff_eq,beq_eq_false_iff_ne,bne_iff_ne,bne_eq_false_iff_eq,decide_eq_true_eq,decide_eq_false_iff_not,ne_eq] at*;omega),if_neg (by rw[‹u=false›];decide),if_neg (by simp only[beq_iff_eq,beq_eq_false_iff_ne,bne_iff_ne,bne_eq_false_iff_eq,decide_eq_true_eq,decide_eq_false_iff_not,ne_eq] at*;omega),if_neg (by simp only[beq_iff_eq,beq_eq_false_iff_ne,bne_iff_ne,bne_eq_false_iff_eq,decide_eq_true_eq,decide_eq_false_iff_not,ne_eq] at*;omega),hm.out,if_neg (by simp only[beq_eq_false_iff_ne,bne_iff_ne,decide_eq_true_eq,decide_eq_false_iff_not,ne_eq] at*;omega)];exact⟨_,trivial,rfl,rfl⟩)
section
variable{P:Program}{ops:Array Oper}{K:St->Prop}{n:Nat}{d:Tmp}{ty:A6}{pos:String}{after:Array Edge}{gd:Option (Nat×Bool)}{env:List (Nat×AV)}{H H' H1:List Blk}{f:FuncId}{xs:Array A7}{tys:Array A6}{ds:List D}{x x':AV}{w:Pl.Sto}{N g k0 k1 k2 k3 k4:Nat}{T0 T1 T2 T3 T4:A6}{u:A7}{us:List A7}
theorem QpU(h:Does P f (.d (dSt w.st)::ds.map .d) [] [] x H1)(hf: ∀args w,(callFunc f args).run P w= .ok (.enter f args) w)(hw:w.W N)(hx:x.flatA=true)(hH1:H1.all Blk.flat=true)(hxs:xs.toList=u::us:=by rfl)
 (hu:aval env u= .agg [.osl k0 1 0 64,.osl k1 1 0 64,.osl k2 1 0 64,.d (dI w.txg),.osl k3 g 0 w.gone.length,.d (dI 0),.osl k4 1 0 0,.d (dB w.same)]:=by rfl)
 (h0:H[k0]? =some (.arr 1 1 T0 (rS w.rows)):=by rfl) (h1:H[k1]? =some (.arr 1 1 T1 (rI w.refs)):=by rfl) (h2:H[k2]? =some (.arr 1 1 T2 (rI w.last)):=by rfl) (h3:H[k3]? =some (.arr g 5 T3 (w.gone.map rPtr)):=by rfl) (h4:H[k4]? =some (.arr 1 5 T4 []):=by rfl)
 (hd:allD (us.map (aval env))=some ds:=by rfl) (hwk:D.weakL ds=ds:=by rfl)
 (hX: ∀R:AV->Prop,R x'->R (x.ren (· +H.length)):=by intro R hR;simp only[AV.ren,AV.renL,List.length_cons,List.length_nil,Nat.reduceAdd,Nat.zero_add];exact hR) (hH: ∀R:List Blk->Prop,R H'->R (H++H1):=by intro R hR;simp only[List.cons_append,List.nil_append];exact hR)
 (hw2:awanted ops env ⟨some d,.call ⟨.value (.func f),xs,tys⟩,ty,pos,after,gd⟩=some true:=by rfl) (hdn:dstOk n (some d)=true:=by rfl) (hg:gdOk ops n ⟨some d,.call ⟨.value (.func f),xs,tys⟩,ty,pos,after,gd⟩=true:=by rfl)
 (k:K ⟨n,(d,x')::env,H'⟩):AStep P ops ⟨some d,.call ⟨.value (.func f),xs,tys⟩,ty,pos,after,gd⟩ K ⟨n,env,H⟩:=by
 have e1:=hX (fun r=>r=x') rfl;have e2:=hH (fun r=>r=H') rfl;refine Qsy (Qoq (ds:=dSt w.st::ds) h hf ?_ hx hH1) hw2 hdn hg (by rw[e1,e2];exact k);rw[hxs,List.map_cons,Qoc hd,hu]
 grind [D.weakL,Qrs]
end
def QmW(g:Nat)(w:Pl.Sto):(hS g w).all Blk.flat=true:=by
 simp[Blk.flat,rPtr];exact⟨fun _ _=>rfl,fun _ _=>rfl,fun _ _=>rfl,fun _ _=>⟨rfl,rfl,rfl,rfl,rfl⟩⟩
theorem QjV{s:List UInt8}(h:(Q7 s).isSome=true):(QJ s).length<=4:=by grind [Qy,Q7,Qeq]
theorem fmake_W{f:Q4}{N:Nat}(hw:f.1.W N)(ht:Qx f.2.1)(path:List UInt8)(k:Int):(QbD f path k).1.1.W (N+600):=by
 obtain⟨⟨a,ha,hae⟩,_,_⟩:=Qgo f.1 f.2.1 path;unfold QbD;rw[hae,A1];split
 ·exact hw.le (by omega)
 cases hfr:QbT (Qc f.1.st f.2.1) with
 |none=>exact hw.le (by omega)
 |some id=>
  dsimp only;split
  ·exact hw.le (by omega)
  have h1:=QgY hw ht (QiO hfr).1 ⟨k,1,0,⟨Pl.hole,0,0⟩⟩;exact(QdI h1.1 h1.2 ha (fun _=>(Qdl _ _ _).1) _).1.le (by omega)
theorem flink_W{f:Q4}{N:Nat}(hw:f.1.W N)(ht:Qx f.2.1)(path pt:List UInt8):(QbO f path pt).1.1.W (N+600):=by
 obtain⟨⟨a,ha,hae⟩,_,_⟩:=Qgo f.1 f.2.1 pt;have hfb:=QdR f.1.st f.2.1 (Qy path);rw[show Qae f.1.st f.2.1 (Qy path)=QE f.1 f.2.1 path from rfl] at hfb;unfold QbO;rw[hae,A1];rcases hfb with hfb|⟨k,hk,hke⟩
 ·rw[if_pos hfb];exact hw.le (by omega)
 rw[hke,A1,if_neg (by omega)];split
 ·exact hw.le (by omega)
 split
 ·exact hw.le (by omega)
 split
 ·exact hw.le (by omega)
 have h1:=QgY hw ht hk {Ql f k with links:=(Ql f k).links+1};exact(QdI h1.1 h1.2 ha (fun _=>(Qdl _ _ _).1) _).1.le (by omega)
theorem fmove_W{f:Q4}{N:Nat}(hw:f.1.W N)(ht:Qx f.2.1)(path pt:List UInt8):(QbN f path pt).1.1.W (N+600):=by
 obtain⟨⟨b,hb,hbe⟩,_,_⟩:=Qf9 f.1 f.2.1 pt;obtain⟨⟨a,ha,hae⟩,_,_⟩:=Qf9 f.1 f.2.1 path;have h0:=hw.le (show N<=N+600 by omega);unfold QbN;rw[hbe,hae,A1,A1]
 repeat' (first|exact h0|split)
 unfold Qcc;split
 ·exact(QdI hw ht hb (fun _=>(Qdl _ _ _).1) _).1.le (by omega)
 ·have h1:=QdI hw ht ha (fun _=>(Qdl _ _ _).1) (Qbm (QaU f a) (Qa2 (QaU f a) (QJ path)).toNat)
  exact(QdI h1.1 h1.2 hb (fun _=>(Qdl _ _ _).1) _).1.le (by omega)
theorem QrA{f:Q4}{N:Nat}(hw:f.1.W N)(ht:Qx f.2.1)(o:QbK):(Qbe f o).1.1.W (N+600):=by
 have hfb:=QdR f.1.st f.2.1 (Qy o.path);rw[show Qae f.1.st f.2.1 (Qy o.path)=QE f.1 f.2.1 o.path from rfl] at hfb;unfold Qbe;rcases hfb with hfb|⟨k,hk,hke⟩
 ·rw[if_pos hfb];exact hw.le (by omega)
 rw[hke,A1,if_neg (by omega)];split
 ·exact hw.le (by omega)
 split
 ·exact hw.le (by omega)
 have h1:=Qu2 (f:=f) hw (n:=Ql f k) (Qdl _ _ _).1 (o:=o) (by omega);exact(QgY (f:=((QbI f (Ql f k) o).1,f.2.1,!(QbI f (Ql f k) o).2.2)) h1 ht hk _).1.le (by omega)
theorem Qr7{f:Q4}{N:Nat}(hw:f.1.W N)(h:Qca f)(hf:f.2.2=false){path:List UInt8}(h0:0<=QE f.1 f.2.1 path)(h1:QE f.1 f.2.1 path≠0)(k:Nat)(hff:(Qah f path).2.2=false):
 Qcg (Qah f path).1.st (Ql (Qah f path) k).tree.depth.toNat (Ql (Qah f path) k).tree.root/\ ∀p∈Qao (Qah f path).1.st (Ql (Qah f path) k).tree,Pl.ptrOk p=true:=by
 have hF:=(h hf).1;obtain⟨_,hp2,a,ha,hpa,_⟩:=Qfg (w:=f.1) hF.tr.good h0 h1;have hka:=Qff hF ha hpa hp2;have hk:=Qf8 (f:=f) (l:=(Qf f.1.st (Ql f (QI f.1 f.2.1 path).1.toNat)).1.take (Qa2 (Qf f.1.st (Ql f (QI f.1 f.2.1 path).1.toNat)).1 (QJ path)).toNat++(Qf f.1.st (Ql f (QI f.1 f.2.1 path).1.toNat)).1.drop ((Qa2 (Qf f.1.st (Ql f (QI f.1 f.2.1 path).1.toNat)).1 (QJ path)).toNat+1)) ha h fun _=>hka
 have hW:=(QdI hw hF.tr.good ha (fun _=>(Qdl _ _ _).1) ((Qf f.1.st (Ql f (QI f.1 f.2.1 path).1.toNat)).1.take (Qa2 (Qf f.1.st (Ql f (QI f.1 f.2.1 path).1.toNat)).1 (QJ path)).toNat++(Qf f.1.st (Ql f (QI f.1 f.2.1 path).1.toNat)).1.drop ((Qa2 (Qf f.1.st (Ql f (QI f.1 f.2.1 path).1.toNat)).1 (QJ path)).toNat+1))).1;rw[show QR f a ((Qf f.1.st (Ql f (QI f.1 f.2.1 path).1.toNat)).1.take (Qa2 (Qf f.1.st (Ql f (QI f.1 f.2.1 path).1.toNat)).1 (QJ path)).toNat++(Qf f.1.st (Ql f (QI f.1 f.2.1 path).1.toNat)).1.drop ((Qa2 (Qf f.1.st (Ql f (QI f.1 f.2.1 path).1.toNat)).1 (QJ path)).toNat+1))=Qah f path by unfold Qah;grind] at hk hW;exact Fs_x (hk.1 hff).1 (by have:=hW.txg;omega) k
theorem fdrop_W{f:Q4}{N:Nat}(hw:f.1.W N)(h:Qca f)(hf:f.2.2=false)(path:List UInt8):(QbP f path).1.1.W (N+600):=by
 have hF:=(h hf).1;have hfb:=QdR f.1.st f.2.1 (Qy path);rw[show Qae f.1.st f.2.1 (Qy path)=QE f.1 f.2.1 path from rfl] at hfb;have hx:=Qr7 hw h hf (path:=path);obtain⟨⟨a,ha,hae⟩,_,_⟩:=Qf9 f.1 f.2.1 path;have hW:=QdI hw hF.tr.good ha (fun _=>(Qdl _ _ _).1) ((Qf f.1.st (Ql f a)).1.take (Qa2 (Qf f.1.st (Ql f a)).1 (QJ path)).toNat++(Qf f.1.st (Ql f a)).1.drop ((Qa2 (Qf f.1.st (Ql f a)).1 (QJ path)).toNat+1));rw[show QR f a ((Qf f.1.st (Ql f a)).1.take (Qa2 (Qf f.1.st (Ql f a)).1 (QJ path)).toNat++(Qf f.1.st (Ql f a)).1.drop ((Qa2 (Qf f.1.st (Ql f a)).1 (QJ path)).toNat+1))=Qah f path by unfold Qah;grind] at hW;unfold QbP;rcases hfb with hfb|⟨k,hk,hke⟩
 ·rw[if_pos hfb];exact hw.le (by omega)
 rw[hke,A1,if_neg (by omega)];split
 ·exact hw.le (by omega)
 rename_i h1
 replace hx:=hx (by omega) (by omega)
 generalize Qah f path=f2 at*;split
 ·exact(QgY hW.1 hW.2 hk _).1.le (by omega)
 ·split
  ·exact hW.1.le (by omega)
  ·rename_i hff
   obtain⟨x1,x2⟩:=hx k (by grind);have hlen:=texts_len f2.1.st hW.2;exact(Qqp (id:=k) (many:=Qam (Qc f2.1.st f2.2.1) k) hW.1 hW.2 hk (Nat.le_trans (QgV _ _) (by rw[hlen];have:=hW.2.manyHi;omega)) x2 (Qij (Qdl _ _ _).1.hi)).le (by omega)
theorem Qu3{f:Q4}{N:Nat}(hw:f.1.W N)(h:Qca f)(hf:f.2.2=false)(o:QbK):(Qbv f o).1.1.W (N+600):=by
 have ht:=(h hf).1.tr.good
 grind [Qbv,fmake_W,fdrop_W,flink_W,fmove_W,QrA]
end Aw
end
section
open Go.RowKit
def Qal(b:Bool):Pl.Sto:=⟨A0 64 [],A0 64 0,A0 64 0,1,[],b⟩
namespace Aw
theorem QmI{P:Program}{κ:Nat}{H:List Blk}{env:List (Nat×AV)}{ty:A6}{pos:String}{after:Array Edge}{gd:Option (Nat×Bool)}{dst:Option Tmp}{T e:A6}{F E:TyF}{u v:A7}{k1 k2:IntKind}{n:Nat}(hH:H.length=κ)(hT:tyf P T=some F)(he:F.elem=some e)(hE:tyf P e=some E)(hu:aval env u= .d (.v (.int k1 (n:Int))))(hv:aval env v= .d (.v (.int k2 (n:Int)))){sz:Nat}{rows:List (List D)}
 (hz:E.zero.length=E.size:=by rfl) (hb:Nat.ble (E.bytes*n) 281474976710656=true:=by rfl) (hm:Nat.ble n 140737488355328=true:=by rfl) (hs:E.size=sz:=by rfl) (hr:A0 n (E.zero.map D.v)=rows:=by rfl):
 Loc P ⟨dst,.makeSlice T u v,ty,pos,after,gd⟩ env H (.osl κ 0 0 n) (some (.arr 0 sz e rows)):=by
 subst hs hr hH;exact Qrg hT he hE hu hv hz hb hm
attribute [local irreducible] ASeq ADraw AWP Loc AStep Fg.PlanF Fg.Flts EndR Fk.PlanF Fk.Flts Fk.AStepM Fk.Grew Fk.Gs
def QrO:DoesE A3 95 [] [] [] (fun x H=>x= .d (.agg [.sl true 1 (rI (A0 64 0)),.sl true 1 (rI (A0 64 0))])/\H=[]):=by
 refine kH fun gvs=>?_
 repeat' first|refine kS ?_|(show AWP _ (.region 1 _ _) _ _;refine(Fk.awp_drawF (id:=1) [0,1,2] [3] [(0,.arr 0 1 3 (A0 64 [dI 0])),(1,.arr 0 1 3 (A0 64 [dI 0]))] [] ?_))|refine(Fk.aw_fltB 1 rfl rfl (fun H hH=>QmI hH Ty.h rfl Ty.h rfl rfl) ?_)|refine(Fk.aw_fltB 2 rfl rfl (fun H hH=>QmI hH Ty.h rfl Ty.h rfl rfl) ?_)|refine(Fk.aw_planC0 (by rfl) (by kernel_rfl) rfl ?_)|refine kU ?_|fail
 refine QdU [0,1000000] [1,2,0] (env':=[(0,.ptr 2 0 0),(1000000,.gh [] gvs)]) (H':=[.arr 0 1 3 (A0 64 [dI 0]),.arr 0 1 3 (A0 64 [dI 0]),.row 0 [.osl 0 0 0 64,.osl 1 0 0 64]]) (h:=?_);refine Qa 0 (h:=?_);refine Qa 1 (h:=?_);refine Q1 0 (hx:=?_);exact⟨rfl,rfl⟩
abbrev tSt(s:Pm.Store):D:= .agg [.sl true 1 (rS s.1),.sl true 1 (rI s.2.1.1),.sl true 1 (rI s.2.1.2),dI s.2.2.1,.sl true 5 (s.2.2.2.1.map rPtr),dI s.2.2.2.2.1,.sl true 5 (s.2.2.2.2.2.1.map rPtr),dB s.2.2.2.2.2.2]
def QrN(b:Bool):DoesE A3 47 [.d (dB b)] [] [] (fun x H=>x= .d (tSt (Qal b).st)/\H=[]):=by
 refine kH fun gvs=>?_
 repeat' first|refine kS ?_|(show AWP _ (.region 1 _ _) _ _;refine(Fk.awp_drawF (id:=1) [0,2,3,4] [1,6] [(0,.arr 0 1 9 (A0 64 [dS []])),(2,.arr 0 5 31 []),(3,.arr 0 5 31 [])] [] ?_))|refine(Fk.aw_fltB 1 rfl rfl (fun H hH=>QmI hH Ty.h rfl Ty.h rfl rfl) ?_)|refine(Fk.aw_fltS 2 rfl rfl rfl rfl rfl ?_)|refine(Fk.aw_fltS 3 rfl rfl rfl rfl rfl ?_)|refine(Fk.aw_planC0 (by rfl) (by kernel_rfl) rfl ?_)|refine Fk.aw_callM [] QrO cK (k:=kY ?_)|refine kU ?_|fail
 refine QdU [2,1000000] [1,2,3,0] (env':=[(2,.ptr 3 0 0),(1000000,.gh [] gvs)]) (H':=[.arr 0 1 9 (A0 64 [dS []]),.arr 0 5 31 [],.arr 0 5 31 [],.row 0 [.osl 0 0 0 64,.d (.sl true 1 (rI (A0 64 0))),.d (.sl true 1 (rI (A0 64 0))),.d (dI 1),.osl 1 0 0 0,.d (dI 0),.osl 2 0 0 0,.d (dB b)]]) (h:=?_);refine Qa 0 (h:=?_);refine Qa 1 (h:=?_);refine Qa 2 (h:=?_);refine Q1 0 (hx:=?_);exact⟨rfl,rfl⟩
end Aw
end
section
open Go.RowKit
namespace Aw
abbrev Qcs:Pl.Tree:=⟨Pl.hole,0,0⟩
abbrev Qc7:Qk:=⟨2,1,0,Qcs⟩
theorem new_W(b:Bool):(Qal b).W 1:=by
 refine⟨rfl,rfl,rfl,?_,?_,?_,⟨by show(1:Int)<=1;decide,by show(1:Int)<=1;decide⟩,?_,by show 0<=1;decide,?_⟩
 ·intro r hr;rw[A2 hr];grind
 ·intro r hr;rw[A2 hr];decide
 ·intro r hr;rw[A2 hr];decide
 ·intro p hp;cases hp
 ·intro i _
  show(A0 64 []).getD i []=[]
  grind
theorem QqU(b:Bool)(k:Nat):Qp (Qal b) Qcs k=(Qd,false):=by
 unfold Qp;rw[(QfI (Qal b)).1.top k (Nat.zero_le _)];rw[Qfx,Qi4]
theorem new_Fs(b:Bool):QbJ (Qal b) Qcs:=by
 have hn:Qcd (Qal b) Qcs=[]:=by
  unfold Qcd;rw[List.flatMap_eq_nil_iff];intro k _;rw[QqU];rfl
 refine⟨(QfI _).1,fun k _ h=>(by grind [QqU]),?_⟩;rw[hn,(QfI _).2];refine⟨rfl,rfl,fun p hp=>(by cases hp),fun p hp=>(by cases hp),fun i=>?_⟩;show((0+0:Nat):Int)<=(A0 64 (0:Int)).getD i 0
 grind
theorem Qux(b:Bool):(Qn (Qal b) Qcs 0 (Q6 Qc7)).2.2=true:=by cases b<;>kernel_rfl
def QqT(b:Bool):QZ (Qal b).st=true:=by cases b<;>kernel_rfl
theorem new_put(b:Bool):QbJ (Qn (Qal b) Qcs 0 (Q6 Qc7)).1 (Qn (Qal b) Qcs 0 (Q6 Qc7)).2.1/\1<=(Qn (Qal b) Qcs 0 (Q6 Qc7)).2.1.many:=by
 have h:=(Qog (f:=(Qal b,Qcs,false)) (id:=0) (n:=Qc7) (by decide) (fun _=>by
  have:=QhB (new_Fs b) (id:=0) (by decide);rw[QqU] at this
  rw[show Qc7.tree=Qcs from rfl,(QfI _).2];exact this) fun _ _=>(QfI _).1).1
 have e:Qaq (Qal b,Qcs,false) 0 Qc7=((Qn (Qal b) Qcs 0 (Q6 Qc7)).1,(Qn (Qal b) Qcs 0 (Q6 Qc7)).2.1,!(Qn (Qal b) Qcs 0 (Q6 Qc7)).2.2):=rfl;rw[e] at h;exact h (by grind [Qux])
attribute [local irreducible] ASeq ADraw AWP Loc AStep Fg.PlanF Fg.Flts EndR Fk.PlanF Fk.Flts Fk.AStepM Fk.Grew Fk.Gs
theorem QrP(b:Bool):DoesE A3 46 [.d (tSt (Qal b).st)] [] [] (fun x H=> ∃(w:Pl.Sto) (t:Pl.Tree),w.W 16/\QbJ w t/\1<=t.many/\x= .tup [oS 2 w,.d (dTree t),.d (dB true)]/\H=hS 2 w):=by
 have cS:Pure A3 31 [tSt (Qal b).st] (dB true):=(QqT b▸QoI (Qal b).st (by show 64<=Pm.big;decide) (by show 64<=Pm.big;decide) (by show 0<=_;decide) (by show 0<=_;decide)).arg;have cC:=dCopy (Qal b) 1 (by decide) (new_W b);have hW:=new_W b;have cP:=ePut11 1 (Qal b) 1 (by decide) hW Qcs tgood0 0 (by decide) Qc7 (Qeb _);have ht:=Qfb hW tgood0 (k:=0) (by decide) (Q6 Qc7);have hp:=new_put b;have ho:=Qux b;generalize Qn (Qal b) Qcs 0 (Q6 Qc7)=y at*;generalize Qal b=w0 at*;obtain⟨w,t,ok⟩:=y;simp only at ho hp ht;subst ho;simp only[if_true] at cP;have v0:w.rows.length=w0.rows.length:=by rw[ht.1.rows,hW.rows]
 have v1:w.refs.length=w0.refs.length:=by rw[ht.1.refs,hW.refs]
 have v2:w.last.length=w0.last.length:=by rw[ht.1.last,hW.last]
 refine kH fun gvs=>?_
 repeat' first|refine kS ?_|refine(QkT (ds:=[dSt w0.st]) cC cK rfl rfl (QmW _ _) (hH:=by intro R hR;simp only[hS,List.cons_append,List.nil_append];exact hR) (k:=?_))|refine Qdq [3,4,5,6,7] cP cK (k:=kX ?_)|(show AWP _ (.region 6 _ _) _ _;refine(Fk.awp_drawF (id:=6) [0,1] [2,3] [] [(8,_),(9,_)] ?_))|refine(Fk.aw_fltK 8 (hl:=fun H hH=>Qde Ty.h rfl hH rfl) (k:=?_))|refine(Fk.aw_fltK 9 (hl:=fun H hH=>Qde Ty.h rfl hH rfl) (k:=?_))|(show Fk.PlanF _ _ _ _ _ _ _ _ _;refine Fk.aw_planFC ?_)|(show Fk.PlanF _ _ _ _ _ _ _ _ _;refine Fk.aw_planFN ?_)|refine kU ?_|fail
 refine QdU [2,3,4,1000000] [3,4,5,6,7,1,2] (env':=[(2,.ptr 5 0 0),(3,.ptr 6 0 0),(4,.d (dB true)),(1000000,.gh [] gvs)]) (H':=hS 2 w++[.row 0 [.osl 0 1 0 64,.osl 1 1 0 64,.osl 2 1 0 64,.d (dI w.txg),.osl 3 2 0 w.gone.length,.d (dI 0),.osl 4 1 0 0,.d (dB w.same)],.row 0 [.d (dI t.root.pat),.d (dI t.root.birth),.d (dI t.root.size),.d (dI t.root.sum),.d (dI t.root.level),.d (dI t.depth),.d (dI t.many)]]) (h:=?_);refine QO 5 (hx:=?_);exact⟨w,t,ht.1,hp.1,hp.2,rfl,rfl⟩
end Aw
end
section
open Go.RowKit
variable{t:Pl.Tree}{w:Pl.Sto}
theorem Qc3: ∀(l:List Pl.Ptr) (w:Pl.Sto) (i:Nat),(w.dropL l).refs.getD i 0<=w.refs.getD i 0
 |[],_,_=>Int.le_refl _
 |p::l,w,i=>by
  refine Int.le_trans (Qc3 l (w.drop p.pat.toNat) i) ?_;unfold Pl.Sto.drop;dsimp only;rw[Pl.getD_set]
  grind
theorem Qc4: ∀(l:List Pl.Ptr) (w:Pl.Sto),∀x∈(w.dropL l).last,x=0∨x∈w.last
 |[],_,x,h=> .inr h
 |p::l,w,x,h=>by
  rcases Qc4 l (w.drop p.pat.toNat) x h with e|e
  ·omega
  ·unfold Pl.Sto.drop at e
   grind
namespace Aw
theorem Qkq(w:Pl.Sto)(t:Pl.Tree):QbA w t 16=Qcd w t:=by
 unfold QbA Qcd;rw[A5,A5,List.map_congr_left fun k hk=>if_neg (by grind)]
def Fs_keep{w':Pl.Sto}(h:QbJ w t)(hk:QaD w w' (Q8 w.st t++Qcd w t))(ht:w.txg<=w'.txg)(hl:QQ w' (Q8 w.st t++Qcd w t)):QbJ w' t:=by
 have o:QcU w t 16 []:=⟨h.tr,fun k hk _=>h.nod k hk,by rw[Qkq,A4];exact h.live⟩;obtain⟨k1,k2,k3,k4⟩:=Qlc (w':=w') (E':=[]) o (by rw[Qkq];exact hk) ht (by rw[Qkq,A4];exact hl);refine⟨k1.tr,fun k hk=>k1.nod k hk (by omega),?_⟩;have:=k1.live;rw[Qkq,A4] at this;exact this
theorem Fs_next{N:Nat}(hw:w.W N)(h:QbJ w t):QbJ w.next t/\w.next.W (N+1):=by
 obtain⟨h1,h2⟩:=Lv_next h.live hw.gone;have h3:=hw.next;have h4:=hw.txg;have h5:=(Pl.Qfo w.gone w).2.1;have h6:w.next.txg=w.txg+1:=rfl;refine⟨Fs_keep h h2 (by omega) h1,⟨h3.rows,h3.refs,h3.last,h3.row,fun x hx=>?_,fun x hx=>?_,by omega,h3.gone,by show 0<=N+1;omega,h3.blank⟩⟩
 ·obtain⟨i,hi,rfl⟩:=List.mem_iff_getElem.1 hx
  have e:w.next.refs[i]=w.next.refs.getD i 0:=by grind
  have a1:=h1.cnt i;have a2:w.next.refs.getD i 0<=w.refs.getD i 0:=Qc3 w.gone w i;have a3:=hw.ref _ (Pl.QdQ (d:=0) (by have:=h3.refs;have:=hw.refs;omega:i<w.refs.length));omega
 ·rcases Qc4 w.gone w x hx with e|e
  ·omega
  ·have:=hw.las x e;omega
end Aw
end
section
open Go.RowKit
namespace Aw
def QcW:List QbK:=[⟨2,[47,97],[],0,[]⟩,⟨1,[47,98],[],0,[]⟩,⟨1,[47,97,47,98],[],0,[]⟩,⟨3,[47,98],[],0,[104,101,108,108,111,32,104,101,108,108,111,32,104,101,108,108,111]⟩,⟨2,[47,97,47,99],[],0,[]⟩,⟨3,[47,97,47,98],[],30,[104,101,108,108,111,32,104,101,108,108,111,32,104,101,108,108,111]⟩]
abbrev rOp(o:QbK):List D:=[dI o.kind,dS o.path,dS o.pto,dI o.at',dS o.text]
def QcT(o:QbK):Prop:=(1<=o.kind/\o.kind<=7)/\o.path.length<=900/\o.pto.length<=900/\(QJ o.path).length<=4/\(o.kind=6∨o.kind=7->(QJ o.pto).length<=4)/\o.at'<=1000/\o.text.length<=1000
def Qr5: ∀o∈QcW,QcT o:=by unfold QcT;decide
attribute [local irreducible] ASeq ADraw AWP Loc AStep Fg.PlanF Fg.Flts EndR Fk.PlanF Fk.Flts Fk.AStepM Fk.Grew Fk.Gs
def eFirst:DoesE A3 48 [] [] [] (fun x H=> ∃L:List QbK,L.length=6/\(∀o∈L,QcT o)/\x= .d (.sl true 5 (L.map rOp))/\H=[]):=by
 refine kH fun gvs=>?_
 repeat' first|refine kS ?_|refine qS (QdO Ty.h rfl Ty.h) ?_|refine kU ?_|fail
 refine Q1 0 (hx:=?_);exact⟨QcW,rfl,Qr5,rfl,rfl⟩
abbrev rwS(k0 k1 k2 k3 k4 g:Nat)(w:Pl.Sto):List AV:=[.osl k0 1 0 64,.osl k1 1 0 64,.osl k2 1 0 64,.d (dI w.txg),.osl k3 g 0 w.gone.length,.d (dI 0),.osl k4 1 0 0,.d (dB w.same)]
abbrev rwT(t:Pl.Tree):List AV:=[.d (dI t.root.pat),.d (dI t.root.birth),.d (dI t.root.size),.d (dI t.root.sum),.d (dI t.root.level),.d (dI t.depth),.d (dI t.many)]
abbrev rwS0:List AV:=[.d (.v (.slice none 0 0)),.d (.v (.slice none 0 0)),.d (.v (.slice none 0 0)),.d (.v (.int .i64 0)),.d (.v (.slice none 0 0)),.d (.v (.int .i64 0)),.d (.v (.slice none 0 0)),.d (.v (.bool false))]
abbrev rwT0:List AV:=[.d (.v (.int .i64 0)),.d (.v (.int .i64 0)),.d (.v (.int .i64 0)),.d (.v (.int .i64 0)),.d (.v (.int .i64 0)),.d (.v (.int .i64 0)),.d (.v (.int .i64 0))]
abbrev hD(rows:List (List D))(p g:Nat)(w:Pl.Sto)(t:Pl.Tree):List Blk:=[rdR rows p,.row 0 rwS0,.row 0 rwT0,.arr 1 1 9 (rS w.rows),.arr 1 1 3 (rI w.refs),.arr 1 1 3 (rI w.last),.arr g 5 31 (w.gone.map rPtr),.arr 1 5 31 [],.row 0 (rwS 3 4 5 6 7 g w),.row 0 (rwT t)]
def DoesE.mono{P:Program}{f:FuncId}{args:List AV}{H0:List Blk}{gl:List AV}{Q Q':AV->List Blk->Prop}(h:DoesE P f args H0 gl Q)(hq: ∀x H,Q x H->Q' x H):DoesE P f args H0 gl Q':=
 fun B σ S w c g h1 h2 h3 h4 h5 h6=>(h B σ S w c g h1 h2 h3 h4 h5 h6).mono fun _ _ ⟨x,H1,h7,h8⟩=>⟨x,H1,hq _ _ h7,h8⟩
theorem dNodes(s:Pm.Store)(hg:QU s)(t:Pl.Tree)(ht:Qx t):Does A3 26 [.d (dSt s),.d (dTree t)] [] [] (.osl 0 (Qh s t).length 0 (Qh s t).length) [.arr (Qh s t).length 10 68 ((Qh s t).map rNode)]:=by
 have c:=Qe8 s hg t ht;have hl:=texts_len s ht;have hle:=texts_le s hg t;have hm:=ht.manyHi;have hn:Hid (Qh s t=(Qc s t).map fun x=>(Qo x).1):=Pm.hid rfl;generalize Qc s t=l at*;generalize Qh s t=all at*;refine kL ?hpin fun gvs=>?_
 case hpin=>intro i C hC;simp at hC
 simp only[parA,gslot,Nat.zero_add];refine kR ?_;refine Qa 0 (h:=?_);refine Qa 1 (h:=?_)
 repeat refine kA ?_
 refine Qq (fun m st=> ∃(k:Nat) (out:List Qk),k<=l.length/\m=16 -k/\out.length=k/\Hid (out=(l.take k).map fun x=>(Qo x).1)/\
  st=⟨33,[(5,.osl 2 out.length 0 out.length),(6,.d (tStrs l)),(7,.d (dI k)),(1000000,.gh [] gvs)],[.row 1 [],.row 1 [],.arr out.length 10 68 (out.map rNode)]⟩) [5,6,7,1000000] 3 16 ⟨0,[],by omega,rfl,rfl,Pm.hid rfl,by simp[keepE,go_sem]⟩ (round:=?_)
 rintro m st ⟨k,out,hk,rfl,hlen,hO,rfl⟩
 repeat refine kG ?_
 cases q4:decide ((k:Int)<(l.length:Int))
 ·have:k=l.length:=by simp at q4;omega
  have hall:out=all:=by rw[hn.out,hO.out,this,List.take_length]
  subst hall
  repeat refine kA ?_
  refine QdU [4,1000000] [2] (env':=[(4,.osl 0 out.length 0 out.length),(1000000,.gh [] gvs)]) (H':=[.arr out.length 10 68 (out.map rNode)]) (h:=?_);exact QdL (hx:=rfl) (hH:=rfl)
 have hk2:k<l.length:=by simp at q4;omega
 obtain⟨x,hx⟩: ∃x,l[k]? =some x:=⟨_,List.getElem?_eq_getElem hk2⟩;have hr:=Qs (f:=fun s=>[dS s]) hx;have cg:=Qim x (by have:=hle x (List.mem_of_getElem? hx);unfold Pm.big;omega);have T:Hid ((l.take (k+1)).map (fun x=>(Qo x).1)=out++[(Qo x).1]):=Pm.hid (by rw[List.take_add_one,hx,hO.out];simp);clear hx hO hle hn;generalize (Qo x).1=N at*;obtain⟨kind,links,size,⟨⟨p1,p2,p3,p4,p5⟩,depth,many⟩⟩:=N
 repeat' first|refine kS ?_|refine qS (iy hr) ?_|refine QV Ty.h rfl Ty.h (hb:=?_) (kk:=?_)|refine kU ?_|fail
 ·simp;omega
 ·refine Qg (16 -(k+1)) (by omega) ⟨k+1,out++[⟨kind,links,size,⟨⟨p1,p2,p3,p4,p5⟩,depth,many⟩⟩],by omega,rfl,by simp[hlen],Pm.hid T.out.symm,?_⟩
  simp[keepE,go_sem]
def Qj8(L:List Qk):[Blk.arr L.length 10 68 (L.map rNode)].all Blk.flat=true:=by
 simp[Blk.flat,D.flat,List.all_eq_true]

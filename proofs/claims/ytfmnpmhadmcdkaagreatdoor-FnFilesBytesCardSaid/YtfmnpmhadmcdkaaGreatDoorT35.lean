/- Of fby_card; no condition. -/
import Derived.Test.YtfmnpmhadmcdkaaGreatDoorT32
import Derived.Test.YtfmnpmhadmcdkaaGreatDoorT33
import Derived.Test.YtfmnpmhadmcdkaaGreatDoorT34
set_option linter.all false
set_option maxRecDepth 100000
set_option maxHeartbeats 16000000
open Go renaming TypeId->AG,Operand->AH
open Go.Proofs.Tryz renaming prog->AA
open Int renaming toNat_natCast->A1
open List renaming replicate->A0,length_take_le->A2,length_append->A4,eq_of_mem_replicate->A6,length_map->A7,length_cons->A8,length_nil->A9,nil_append->AC,append_nil->AD,cons_append->AE,flatMap_def->AF
open Nat renaming le_trans->A3,le_of_ble_eq_true->A5,zero_le->AB
namespace Go.Proofs.YtfmnpmhadmcdkaaGreatDoor
noncomputable section
section
open Go.RowKit
namespace Aw
theorem Qjn(s:List UInt8): ∀l,QT s=some l->l.length<=4/\ ∀x∈l,x.length<=4:=fun l h=>by
 obtain⟨h1,h2,_⟩:=Qlg.1 h
 grind [Qei]
attribute [local irreducible] ASeq ADraw AWP Loc AStep Fg.PlanF Fg.Flts EndR Fk.PlanF Fk.Flts Fk.AStepM Fk.Grew Fk.Gs
theorem eMoveF(g:Nat)(f:Q4)(N:Nat)(hN:N<=500000)(hw:f.1.W N)(ht:Qx f.2.1)(path pt:List UInt8)(hp:path.length<=900)(hp2:pt.length<=900)(hb:(QK pt).length<=4):
 DoesE AA 151 [.ptr 5 0 0,.d (dS path),.d (dS pt)] (hF g f) (gF g f.1) (fun x H=>x= .d (dI (QbH f path pt).2)/\H=hF (g+1) (QbH f path pt).1):=by
 refine DoesE.tagF (C:=fun _=>True) ?_ Qdp;have c0:=aFind f.1 N hw f.2.1 ht f.2.2 path hp;have c1:=aFind f.1 N hw f.2.1 ht f.2.2 pt hp2;have c2:=Qpv pt path (by omega) (by omega) (Qjn pt) (Qjn path);have c3:=aPlace f.1 N hw f.2.1 ht f.2.2 pt hp2;have c4:=aPlace f.1 N hw f.2.1 ht f.2.2 path hp;have hpf:=Qfa (w:=f.1) ht (path:=path);obtain⟨⟨b,hb16,hbe⟩,hb2,hb3⟩:=Qf2 f.1 f.2.1 pt;have hd:=Pm.hid (QbH.eq_def f path pt);have hfb:=QdF f.1.st f.2.1 (Qy path);rw[show Qaf f.1.st f.2.1 (Qy path)=QE f.1 f.2.1 path from rfl] at hfb;generalize QbH f path pt=res at*;generalize QJ f.1 f.2.1 pt=p at*;obtain⟨p1,p2⟩:=p;simp only at hbe hb2 hb3 c3 hd;subst hbe;rw[A1] at hd;generalize Qcw pt path=u at*;generalize QE f.1 f.2.1 pt=j at*;generalize QE f.1 f.2.1 path=i at*
 by_cases h0:i<=0
 ·replace hd:Hid (res=(f,if i<0 then 2 else 5)):=Pm.hid (by
   rw[hd.out]
   by_cases h1:i<0
   ·rw[if_pos h1,if_pos h1]
   ·rw[if_neg h1,if_pos (by omega),if_neg h1])
  clear hpf hb3;refine kH fun gvs=>?_
  repeat' first|refine kS ?_|refine qS (QY (fs:=f) cK c0 hw) ?_|refine kU ?_|refine kV ?_ ?_<;>intro q|fail
  all_goals first|refine Q1 6 (hx:=?_);rw[hd.out,if_pos (by simp only[decide_eq_true_eq] at*;omega)];exact⟨g,trivial,rfl,rfl⟩|refine Q1 6 (hx:=?_);rw[hd.out,if_neg (by simp only[beq_iff_eq,decide_eq_false_iff_not] at*;omega)];exact⟨g,trivial,rfl,rfl⟩|exfalso;simp only[beq_eq_false_iff_ne,decide_eq_false_iff_not,ne_eq] at*;omega
 rcases hfb with hfb|⟨k,hk,rfl⟩
 ·omega
 rw[if_neg (show ¬(k:Int)<0 by omega),if_neg (show ¬(k:Int)=0 by omega)] at hd;obtain⟨hne,hq2,a,ha,hpa,i,hi,hi2⟩:=hpf (by omega) (by omega);rw[show(Q5 f.1.st f.2.1 a).1=Ql f a from rfl] at hi hi2;rw[hpa,A1] at hd;rw[hpa,hq2] at c4
 have hm:Hid (QbZ f a b (QK path) (QK pt) k=if(b:Int)=a then QW f b (Qar (Qbi (QaS f a) i) (QK pt,(k:Int))) else
  QW (QW f a (Qbi (QaS f a) i)) b (Qar (QaS (QW f a (Qbi (QaS f a) i)) b) (QK pt,(k:Int)))):=Pm.hid (by unfold QbZ;rw[hi2,A1])
 generalize QbZ f a b (QK path) (QK pt) k=F0 at*;have c5:=Qhe path (by omega) hne;have c6:=fun h=>Qhe pt (by omega) (hb3 h)
 have hla:=Qe0 f.1.st (Ql f a);have hes:=Qlz (QiE f.1.st (Ql f a)) i;have d1:=Qfg g f N hw ht b;have d2:=Qfg g f N hw ht a;have hbl:=Qe0 f.1.st (Ql f b);unfold QaS at hm hd;clear hpf;generalize hlb:(Qg f.1.st (Ql f b)).1=lb at*;generalize hlae:(Qg f.1.st (Ql f a)).1=la at*;have hab:(b:Int)=a->lb=la:=fun e=>by rw[<-hlb,<-hlae,Int.ofNat.inj e]
 clear hlb hlae;have c7:=(al12At la (QK path) (by omega)).arg (l:=[tEnts la,dS (QK path)]);rw[hi2] at c7;have c8:=Qon la i hi (by omega);rw[show la.take i++la.drop (i+1)=Qbi la i from rfl] at c8 hes
 have hel:(Qbi la i).length<=12:=by
  unfold Qbi;rw[A4,List.length_take,List.length_drop];omega
 generalize Qbi la i=l1 at*;have d3:=al12Add l1 (QK pt,(k:Int)) (by omega);have hae:=QhZ (e:=(QK pt,(k:Int))) hes hel hb (by simp) (by simp;omega);generalize Qar l1 (QK pt,(k:Int))=l2 at*;have d4:=eWriteF g f N (by omega) hw ht b hb16 (fun _=>(Qde _ _ _).1) l2 hae.1 (by have:=hae.2;omega) (by have:=EB.text hae;omega);have hW1:=(Qd6 hw ht hb16 (fun _=>(Qde _ _ _).1) l2).1;have d5:=eWriteF g f N (by omega) hw ht a ha (fun _=>(Qde _ _ _).1) l1 hes.1 (by have:=hes.2;omega) (by have:=EB.text hes;omega);have hW2:=Qd6 hw ht ha (fun _=>(Qde _ _ _).1) l1;generalize QW f b l2=f1 at*;generalize QW f a l1=f2 at*;have d6:=Qfg (g+1) f2 (N+284) hW2.1 hW2.2 b;have hes3:=QiE f2.1.st (Ql f2 b);have hel3:=Qe0 f2.1.st (Ql f2 b);generalize (Qg f2.1.st (Ql f2 b)).1=l3 at*;have d7:=al12Add l3 (QK pt,(k:Int)) (by omega);have hae4:=QhZ (e:=(QK pt,(k:Int))) hes3 hel3 hb (by simp) (by simp;omega);generalize Qar l3 (QK pt,(k:Int))=l4 at*;have d8:=eWriteF (g+1) f2 (N+284) (by omega) hW2.1 hW2.2 b hb16 (fun _=>(Qde _ _ _).1) l4 hae4.1 (by have:=hae4.2;omega) (by have:=EB.text hae4;omega);have hW3:=(Qd6 hW2.1 hW2.2 hb16 (fun _=>(Qde _ _ _).1) l4).1;generalize QW f2 b l4=f3 at*;have v0:f1.1.rows.length=f.1.rows.length/\f1.1.refs.length=f.1.refs.length/\f1.1.last.length=f.1.last.length:=⟨by rw[hW1.rows,hw.rows],by rw[hW1.refs,hw.refs],by rw[hW1.last,hw.last]⟩
 have v1:f3.1.rows.length=f.1.rows.length/\f3.1.refs.length=f.1.refs.length/\f3.1.last.length=f.1.last.length:=⟨by rw[hW3.rows,hw.rows],by rw[hW3.refs,hw.refs],by rw[hW3.last,hw.last]⟩;obtain⟨v2,v3,v4⟩:=v0;obtain⟨v5,v6,v7⟩:=v1;clear hW1 hW2 hW3 hes hes3 hae hae4 hel hel3;have hne2:(k:Int)≠0:=by omega
 refine kH fun gvs=>?_
 repeat' first|refine kS ?_|refine qS (QY (fs:=f) cK c0 hw) ?_|refine qS (QY (fs:=f) cK c1 hw) ?_|refine qS (QY (fs:=f) cK c3 hw) ?_|refine qS (QY (fs:=f) cK c4 hw) ?_|refine Qdg [0,1,2,3,4,5] d1 cK (k:=kX ?_)|refine Qdg [0,1,2,3,4,5] d2 cK (k:=kX ?_)|refine qS (Qdh cK (c6 (by simp only[decide_eq_true_eq,decide_eq_false_iff_not] at*;omega)) rfl) ?_|refine Qdg [0,1,2,3,4,5] d4 cK (k:=kX ?_)|refine Qdg [0,1,2,3,4,5] d5 cK (k:=kX ?_)|(show AWP _ (.region 23 _ _) _ _;refine(Qa 6 (h:=Fg.awp_drawF (id:=23) [0,1,2,3,5] [4,7] ?_)))|refine QlR [0,1,2,3,4,5] d6 cK (k:=kZ ?_)|refine QlR [0,1,2,3,4,5] d8 cK (k:=kZ ?_)|refine kU ?_|refine kV ?_ ?_<;>intro q|fail
 all_goals first
  |(exfalso;simp only[beq_iff_eq,beq_eq_false_iff_ne,bne_iff_ne,bne_eq_false_iff_eq,decide_eq_true_eq,decide_eq_false_iff_not,ne_eq] at*;omega)
  |(refine Q1 6 (hx:=?_);rw[hd.out,if_pos (by simp only[beq_iff_eq,beq_eq_false_iff_ne,bne_iff_ne,bne_eq_false_iff_eq,decide_eq_true_eq,decide_eq_false_iff_not,ne_eq] at*;omega)];exact⟨_,trivial,rfl,rfl⟩)
  |(refine Q1 6 (hx:=?_);rw[hd.out,if_neg (by simp only[beq_iff_eq,beq_eq_false_iff_ne,bne_iff_ne,bne_eq_false_iff_eq,decide_eq_true_eq,decide_eq_false_iff_not,ne_eq] at*;omega),if_pos (by assumption)];exact⟨_,trivial,rfl,rfl⟩)
  |(refine Q1 6 (hx:=?_);rw[hd.out,if_neg (by simp only[beq_iff_eq,beq_eq_false_iff_ne,bne_iff_ne,bne_eq_false_iff_eq,decide_eq_true_eq,decide_eq_false_iff_not,ne_eq] at*;omega),if_neg (by rw[‹u=false›];decide),if_pos (by simp only[beq_iff_eq,beq_eq_false_iff_ne,bne_iff_ne,bne_eq_false_iff_eq,decide_eq_true_eq,decide_eq_false_iff_not,ne_eq] at*;omega)];exact⟨_,trivial,rfl,rfl⟩)
  |(refine Q1 6 (hx:=?_);rw[hd.out,if_neg (by simp only[beq_iff_eq,beq_eq_false_iff_ne,bne_iff_ne,bne_eq_false_iff_eq,decide_eq_true_eq,decide_eq_false_iff_not,ne_eq] at*;omega),if_neg (by rw[‹u=false›];decide),if_neg (by simp only[beq_iff_eq,beq_eq_false_iff_ne,bne_iff_ne,bne_eq_false_iff_eq,decide_eq_true_eq,decide_eq_false_iff_not,ne_eq] at*;omega),if_pos (by simp only[beq_iff_eq,beq_eq_false_iff_ne,bne_iff_ne,bne_eq_false_iff_eq,decide_eq_true_eq,decide_eq_false_iff_not,ne_eq] at*;omega)];exact⟨_,trivial,rfl,rfl⟩)
  |(refine Q1 6 (hx:=?_);rw[hd.out,if_neg (by simp only[beq_iff_eq,beq_eq_false_iff_ne,bne_iff_ne,bne_eq_false_iff_eq,decide_eq_true_eq,decide_eq_false_iff_not,ne_eq] at*;omega),if_neg (by rw[‹u=false›];decide),if_neg (by simp only[beq_iff_eq,beq_eq_false_iff_ne,bne_iff_ne,bne_eq_false_iff_eq,decide_eq_true_eq,decide_eq_false_iff_not,ne_eq] at*;omega),if_neg (by simp only[beq_iff_eq,beq_eq_false_iff_ne,bne_iff_ne,bne_eq_false_iff_eq,decide_eq_true_eq,decide_eq_false_iff_not,ne_eq] at*;omega),hm.out,if_pos (by simp only[beq_iff_eq,beq_eq_false_iff_ne,bne_iff_ne,bne_eq_false_iff_eq,decide_eq_true_eq,decide_eq_false_iff_not,ne_eq] at*;omega)];exact⟨_,trivial,rfl,rfl⟩)
  |(refine Q1 6 (hx:=?_);rw[hd.out,if_neg (by simp only[beq_iff_eq,beq_eq_false_iff_ne,bne_iff_ne,bne_eq_false_iff_eq,decide_eq_true_eq,decide_eq_false_iff_not,ne_eq] at*;omega),if_neg (by rw[‹u=false›];decide),if_neg (by simp only[beq_iff_eq,beq_eq_false_iff_ne,bne_iff_ne,bne_eq_false_iff_eq,decide_eq_true_eq,decide_eq_false_iff_not,ne_eq] at*;omega),if_neg (by simp only[beq_iff_eq,beq_eq_false_iff_ne,bne_iff_ne,bne_eq_false_iff_eq,decide_eq_true_eq,decide_eq_false_iff_not,ne_eq] at*;omega),hm.out,if_neg (by simp only[beq_eq_false_iff_ne,bne_iff_ne,decide_eq_true_eq,decide_eq_false_iff_not,ne_eq] at*;omega)];exact⟨_,trivial,rfl,rfl⟩)
section
variable{P:Program}{ops:Array Oper}{K:St->Prop}{n:Nat}{d:Tmp}{ty:AG}{pos:String}{after:Array Edge}{gd:Option (Nat×Bool)}{env:List (Nat×AV)}{H H' H1:List Blk}{f:FuncId}{xs:Array AH}{tys:Array AG}{ds:List D}{x x':AV}{w:Pl.Sto}{N g k0 k1 k2 k3 k4:Nat}{T0 T1 T2 T3 T4:AG}{u:AH}{us:List AH}
theorem Qpt(h:Does P f (.d (dSt w.st)::ds.map .d) [] [] x H1)(hf: ∀args w,(callFunc f args).run P w= .ok (.enter f args) w)(hw:w.W N)(hx:x.flatA=true)(hH1:H1.all Blk.flat=true)(hxs:xs.toList=u::us:=by rfl)
 (hu:aval env u= .agg [.osl k0 1 0 64,.osl k1 1 0 64,.osl k2 1 0 64,.d (dI w.txg),.osl k3 g 0 w.gone.length,.d (dI 0),.osl k4 1 0 0,.d (dB w.same)]:=by rfl)
 (h0:H[k0]? =some (.arr 1 1 T0 (rS w.rows)):=by rfl) (h1:H[k1]? =some (.arr 1 1 T1 (rI w.refs)):=by rfl) (h2:H[k2]? =some (.arr 1 1 T2 (rI w.last)):=by rfl) (h3:H[k3]? =some (.arr g 5 T3 (w.gone.map rPtr)):=by rfl) (h4:H[k4]? =some (.arr 1 5 T4 []):=by rfl)
 (hd:allD (us.map (aval env))=some ds:=by rfl) (hwk:D.weakL ds=ds:=by rfl)
 (hX: ∀R:AV->Prop,R x'->R (x.ren (· +H.length)):=by intro R hR;simp only[AV.ren,AV.renL,List.length_cons,List.length_nil,Nat.reduceAdd,Nat.zero_add];exact hR) (hH: ∀R:List Blk->Prop,R H'->R (H++H1):=by intro R hR;simp only[List.cons_append,List.nil_append];exact hR)
 (hw2:awanted ops env ⟨some d,.call ⟨.value (.func f),xs,tys⟩,ty,pos,after,gd⟩=some true:=by rfl) (hdn:dstOk n (some d)=true:=by rfl) (hg:gdOk ops n ⟨some d,.call ⟨.value (.func f),xs,tys⟩,ty,pos,after,gd⟩=true:=by rfl)
 (k:K ⟨n,(d,x')::env,H'⟩):AStep P ops ⟨some d,.call ⟨.value (.func f),xs,tys⟩,ty,pos,after,gd⟩ K ⟨n,env,H⟩:=by
 have e1:=hX (fun r=>r=x') rfl;have e2:=hH (fun r=>r=H') rfl;refine QrT (QnP (ds:=dSt w.st::ds) h hf ?_ hx hH1) hw2 hdn hg (by rw[e1,e2];exact k);rw[hxs,List.map_cons,QnA hd,hu]
 grind [D.weakL,QqH]
end
def QmC(g:Nat)(w:Pl.Sto):(hS g w).all Blk.flat=true:=by
 simp[Blk.flat,rPtr];exact⟨fun _ _=>rfl,fun _ _=>rfl,fun _ _=>rfl,fun _ _=>⟨rfl,rfl,rfl,rfl,rfl⟩⟩
theorem QjJ{s:List UInt8}(h:(QT s).isSome=true):(QK s).length<=4:=by grind [Qy,QT,Qei]
theorem fmake_W{f:Q4}{N:Nat}(hw:f.1.W N)(ht:Qx f.2.1)(path:List UInt8)(k:Int):(QbA f path k).1.1.W (N+600):=by
 obtain⟨⟨a,ha,hae⟩,_,_⟩:=Qgc f.1 f.2.1 path;unfold QbA;rw[hae,A1];split
 ·exact hw.le (by omega)
 cases hfr:QbN (Qc f.1.st f.2.1) with
 |none=>exact hw.le (by omega)
 |some id=>
  dsimp only;split
  ·exact hw.le (by omega)
  have h1:=QgL hw ht (Qi7 hfr).1 ⟨k,1,0,⟨Pl.hole,0,0⟩⟩;exact(Qd6 h1.1 h1.2 ha (fun _=>(Qde _ _ _).1) _).1.le (by omega)
theorem flink_W{f:Q4}{N:Nat}(hw:f.1.W N)(ht:Qx f.2.1)(path pt:List UInt8):(QbI f path pt).1.1.W (N+600):=by
 obtain⟨⟨a,ha,hae⟩,_,_⟩:=Qgc f.1 f.2.1 pt;have hfb:=QdF f.1.st f.2.1 (Qy path);rw[show Qaf f.1.st f.2.1 (Qy path)=QE f.1 f.2.1 path from rfl] at hfb;unfold QbI;rw[hae,A1];rcases hfb with hfb|⟨k,hk,hke⟩
 ·rw[if_pos hfb];exact hw.le (by omega)
 rw[hke,A1,if_neg (by omega)];split
 ·exact hw.le (by omega)
 split
 ·exact hw.le (by omega)
 split
 ·exact hw.le (by omega)
 have h1:=QgL hw ht hk {Ql f k with links:=(Ql f k).links+1};exact(Qd6 h1.1 h1.2 ha (fun _=>(Qde _ _ _).1) _).1.le (by omega)
theorem fmove_W{f:Q4}{N:Nat}(hw:f.1.W N)(ht:Qx f.2.1)(path pt:List UInt8):(QbH f path pt).1.1.W (N+600):=by
 obtain⟨⟨b,hb,hbe⟩,_,_⟩:=Qf2 f.1 f.2.1 pt;obtain⟨⟨a,ha,hae⟩,_,_⟩:=Qf2 f.1 f.2.1 path;have h0:=hw.le (show N<=N+600 by omega);unfold QbH;rw[hbe,hae,A1,A1]
 repeat' (first|exact h0|split)
 unfold QbZ;split
 ·exact(Qd6 hw ht hb (fun _=>(Qde _ _ _).1) _).1.le (by omega)
 ·have h1:=Qd6 hw ht ha (fun _=>(Qde _ _ _).1) (Qbi (QaS f a) (Qa2 (QaS f a) (QK path)).toNat)
  exact(Qd6 h1.1 h1.2 hb (fun _=>(Qde _ _ _).1) _).1.le (by omega)
theorem Qrg{f:Q4}{N:Nat}(hw:f.1.W N)(ht:Qx f.2.1)(o:QbF):(Qbb f o).1.1.W (N+600):=by
 have hfb:=QdF f.1.st f.2.1 (Qy o.path);rw[show Qaf f.1.st f.2.1 (Qy o.path)=QE f.1 f.2.1 o.path from rfl] at hfb;unfold Qbb;rcases hfb with hfb|⟨k,hk,hke⟩
 ·rw[if_pos hfb];exact hw.le (by omega)
 rw[hke,A1,if_neg (by omega)];split
 ·exact hw.le (by omega)
 split
 ·exact hw.le (by omega)
 have h1:=QtX (f:=f) hw (n:=Ql f k) (Qde _ _ _).1 (o:=o) (by omega);exact(QgL (f:=((QbD f (Ql f k) o).1,f.2.1,!(QbD f (Ql f k) o).2.2)) h1 ht hk _).1.le (by omega)
theorem Qrd{f:Q4}{N:Nat}(hw:f.1.W N)(h:QbV f)(hf:f.2.2=false){path:List UInt8}(h0:0<=QE f.1 f.2.1 path)(h1:QE f.1 f.2.1 path≠0)(k:Nat)(hff:(Qah f path).2.2=false):
 Qce (Qah f path).1.st (Ql (Qah f path) k).tree.depth.toNat (Ql (Qah f path) k).tree.root/\ ∀p∈Qan (Qah f path).1.st (Ql (Qah f path) k).tree,Pl.ptrOk p=true:=by
 have hF:=(h hf).1;obtain⟨_,hp2,a,ha,hpa,_⟩:=Qfa (w:=f.1) hF.tr.good h0 h1;have hka:=QeZ hF ha hpa hp2;have hk:=Qf1 (f:=f) (l:=(Qg f.1.st (Ql f (QJ f.1 f.2.1 path).1.toNat)).1.take (Qa2 (Qg f.1.st (Ql f (QJ f.1 f.2.1 path).1.toNat)).1 (QK path)).toNat++(Qg f.1.st (Ql f (QJ f.1 f.2.1 path).1.toNat)).1.drop ((Qa2 (Qg f.1.st (Ql f (QJ f.1 f.2.1 path).1.toNat)).1 (QK path)).toNat+1)) ha h fun _=>hka
 have hW:=(Qd6 hw hF.tr.good ha (fun _=>(Qde _ _ _).1) ((Qg f.1.st (Ql f (QJ f.1 f.2.1 path).1.toNat)).1.take (Qa2 (Qg f.1.st (Ql f (QJ f.1 f.2.1 path).1.toNat)).1 (QK path)).toNat++(Qg f.1.st (Ql f (QJ f.1 f.2.1 path).1.toNat)).1.drop ((Qa2 (Qg f.1.st (Ql f (QJ f.1 f.2.1 path).1.toNat)).1 (QK path)).toNat+1))).1;rw[show QW f a ((Qg f.1.st (Ql f (QJ f.1 f.2.1 path).1.toNat)).1.take (Qa2 (Qg f.1.st (Ql f (QJ f.1 f.2.1 path).1.toNat)).1 (QK path)).toNat++(Qg f.1.st (Ql f (QJ f.1 f.2.1 path).1.toNat)).1.drop ((Qa2 (Qg f.1.st (Ql f (QJ f.1 f.2.1 path).1.toNat)).1 (QK path)).toNat+1))=Qah f path by unfold Qah;grind] at hk hW;exact Fs_x (hk.1 hff).1 (by have:=hW.txg;omega) k
theorem fdrop_W{f:Q4}{N:Nat}(hw:f.1.W N)(h:QbV f)(hf:f.2.2=false)(path:List UInt8):(QbJ f path).1.1.W (N+600):=by
 have hF:=(h hf).1;have hfb:=QdF f.1.st f.2.1 (Qy path);rw[show Qaf f.1.st f.2.1 (Qy path)=QE f.1 f.2.1 path from rfl] at hfb;have hx:=Qrd hw h hf (path:=path);obtain⟨⟨a,ha,hae⟩,_,_⟩:=Qf2 f.1 f.2.1 path;have hW:=Qd6 hw hF.tr.good ha (fun _=>(Qde _ _ _).1) ((Qg f.1.st (Ql f a)).1.take (Qa2 (Qg f.1.st (Ql f a)).1 (QK path)).toNat++(Qg f.1.st (Ql f a)).1.drop ((Qa2 (Qg f.1.st (Ql f a)).1 (QK path)).toNat+1));rw[show QW f a ((Qg f.1.st (Ql f a)).1.take (Qa2 (Qg f.1.st (Ql f a)).1 (QK path)).toNat++(Qg f.1.st (Ql f a)).1.drop ((Qa2 (Qg f.1.st (Ql f a)).1 (QK path)).toNat+1))=Qah f path by unfold Qah;grind] at hW;unfold QbJ;rcases hfb with hfb|⟨k,hk,hke⟩
 ·rw[if_pos hfb];exact hw.le (by omega)
 rw[hke,A1,if_neg (by omega)];split
 ·exact hw.le (by omega)
 rename_i h1
 replace hx:=hx (by omega) (by omega)
 generalize Qah f path=f2 at*;split
 ·exact(QgL hW.1 hW.2 hk _).1.le (by omega)
 ·split
  ·exact hW.1.le (by omega)
  ·rename_i hff
   obtain⟨x1,x2⟩:=hx k (by grind);have hlen:=texts_len f2.1.st hW.2;exact(QpE (id:=k) (many:=Qal (Qc f2.1.st f2.2.1) k) hW.1 hW.2 hk (A3 (QgI _ _) (by rw[hlen];have:=hW.2.manyHi;omega)) x2 (QhX (Qde _ _ _).1.hi)).le (by omega)
theorem QtY{f:Q4}{N:Nat}(hw:f.1.W N)(h:QbV f)(hf:f.2.2=false)(o:QbF):(Qbt f o).1.1.W (N+600):=by
 have ht:=(h hf).1.tr.good
 grind [Qbt,fmake_W,fdrop_W,flink_W,fmove_W,Qrg]
end Aw
end
section
open Go.RowKit
def Qak(b:Bool):Pl.Sto:=⟨A0 64 [],A0 64 0,A0 64 0,1,[],b⟩
namespace Aw
theorem Qmx{P:Program}{κ:Nat}{H:List Blk}{env:List (Nat×AV)}{ty:AG}{pos:String}{after:Array Edge}{gd:Option (Nat×Bool)}{dst:Option Tmp}{T e:AG}{F E:TyF}{u v:AH}{k1 k2:IntKind}{n:Nat}(hH:H.length=κ)(hT:tyf P T=some F)(he:F.elem=some e)(hE:tyf P e=some E)(hu:aval env u= .d (.v (.int k1 (n:Int))))(hv:aval env v= .d (.v (.int k2 (n:Int)))){sz:Nat}{rows:List (List D)}
 (hz:E.zero.length=E.size:=by rfl) (hb:Nat.ble (E.bytes*n) 281474976710656=true:=by rfl) (hm:Nat.ble n 140737488355328=true:=by rfl) (hs:E.size=sz:=by rfl) (hr:A0 n (E.zero.map D.v)=rows:=by rfl):
 Loc P ⟨dst,.makeSlice T u v,ty,pos,after,gd⟩ env H (.osl κ 0 0 n) (some (.arr 0 sz e rows)):=by
 subst hs hr hH;exact Qq4 hT he hE hu hv hz hb hm
attribute [local irreducible] ASeq ADraw AWP Loc AStep Fg.PlanF Fg.Flts EndR Fk.PlanF Fk.Flts Fk.AStepM Fk.Grew Fk.Gs
def Qrt:DoesE AA 147 [] [] [] (fun x H=>x= .d (.agg [.sl true 1 (rI (A0 64 0)),.sl true 1 (rI (A0 64 0))])/\H=[]):=by
 refine kH fun gvs=>?_
 repeat' first|refine kS ?_|(show AWP _ (.region 1 _ _) _ _;refine(Fk.awp_drawF (id:=1) [0,1,2] [3] [(0,.arr 0 1 3 (A0 64 [dI 0])),(1,.arr 0 1 3 (A0 64 [dI 0]))] [] ?_))|refine(Fk.aw_fltB 1 rfl rfl (fun H hH=>Qmx hH Ty.h rfl Ty.h rfl rfl) ?_)|refine(Fk.aw_fltB 2 rfl rfl (fun H hH=>Qmx hH Ty.h rfl Ty.h rfl rfl) ?_)|refine(Fk.aw_planC0 (by rfl) (by kernel_rfl) rfl ?_)|refine kU ?_|fail
 refine QdI [0,1000000] [1,2,0] (env':=[(0,.ptr 2 0 0),(1000000,.gh [] gvs)]) (H':=[.arr 0 1 3 (A0 64 [dI 0]),.arr 0 1 3 (A0 64 [dI 0]),.row 0 [.osl 0 0 0 64,.osl 1 0 0 64]]) (h:=?_);refine Qa 0 (h:=?_);refine Qa 1 (h:=?_);refine Q1 0 (hx:=?_);exact⟨rfl,rfl⟩
abbrev tSt(s:Pm.Store):D:= .agg [.sl true 1 (rS s.1),.sl true 1 (rI s.2.1.1),.sl true 1 (rI s.2.1.2),dI s.2.2.1,.sl true 5 (s.2.2.2.1.map rPtr),dI s.2.2.2.2.1,.sl true 5 (s.2.2.2.2.2.1.map rPtr),dB s.2.2.2.2.2.2]
def Qrs(b:Bool):DoesE AA 85 [.d (dB b)] [] [] (fun x H=>x= .d (tSt (Qak b).st)/\H=[]):=by
 refine kH fun gvs=>?_
 repeat' first|refine kS ?_|(show AWP _ (.region 1 _ _) _ _;refine(Fk.awp_drawF (id:=1) [0,2,3,4] [1,6] [(0,.arr 0 1 9 (A0 64 [dS []])),(2,.arr 0 5 31 []),(3,.arr 0 5 31 [])] [] ?_))|refine(Fk.aw_fltB 1 rfl rfl (fun H hH=>Qmx hH Ty.h rfl Ty.h rfl rfl) ?_)|refine(Fk.aw_fltS 2 rfl rfl rfl rfl rfl ?_)|refine(Fk.aw_fltS 3 rfl rfl rfl rfl rfl ?_)|refine(Fk.aw_planC0 (by rfl) (by kernel_rfl) rfl ?_)|refine Fk.aw_callM [] Qrt cK (k:=kY ?_)|refine kU ?_|fail
 refine QdI [2,1000000] [1,2,3,0] (env':=[(2,.ptr 3 0 0),(1000000,.gh [] gvs)]) (H':=[.arr 0 1 9 (A0 64 [dS []]),.arr 0 5 31 [],.arr 0 5 31 [],.row 0 [.osl 0 0 0 64,.d (.sl true 1 (rI (A0 64 0))),.d (.sl true 1 (rI (A0 64 0))),.d (dI 1),.osl 1 0 0 0,.d (dI 0),.osl 2 0 0 0,.d (dB b)]]) (h:=?_);refine Qa 0 (h:=?_);refine Qa 1 (h:=?_);refine Qa 2 (h:=?_);refine Q1 0 (hx:=?_);exact⟨rfl,rfl⟩
end Aw
end
section
open Go.RowKit
namespace Aw
abbrev Qcr:Pl.Tree:=⟨Pl.hole,0,0⟩
abbrev Qc2:Qj:=⟨2,1,0,Qcr⟩
theorem new_W(b:Bool):(Qak b).W 1:=by
 refine⟨rfl,rfl,rfl,?_,?_,?_,⟨by show(1:Int)<=1;decide,by show(1:Int)<=1;decide⟩,?_,by show 0<=1;decide,?_⟩
 ·intro r hr;rw[A6 hr];grind
 ·intro r hr;rw[A6 hr];decide
 ·intro r hr;rw[A6 hr];decide
 ·intro p hp;cases hp
 ·intro i _
  show(A0 64 []).getD i []=[]
  grind
theorem Qqr(b:Bool)(k:Nat):Qn (Qak b) Qcr k=(Qd,false):=by
 unfold Qn;rw[(QfA (Qak b)).1.top k (AB _)];rw[Qfq,Qip]
theorem new_Fs(b:Bool):QbE (Qak b) Qcr:=by
 have hn:Qcb (Qak b) Qcr=[]:=by
  unfold Qcb;rw[List.flatMap_eq_nil_iff];intro k _;rw[Qqr];rfl
 refine⟨(QfA _).1,fun k _ h=>(by grind [Qqr]),?_⟩;rw[hn,(QfA _).2];refine⟨rfl,rfl,fun p hp=>(by cases hp),fun p hp=>(by cases hp),fun i=>?_⟩;show((0+0:Nat):Int)<=(A0 64 (0:Int)).getD i 0
 grind
theorem QtT(b:Bool):(Qm (Qak b) Qcr 0 (Q6 Qc2)).2.2=true:=by cases b<;>kernel_rfl
def Qqq(b:Bool):Qaa (Qak b).st=true:=by cases b<;>kernel_rfl
theorem new_put(b:Bool):QbE (Qm (Qak b) Qcr 0 (Q6 Qc2)).1 (Qm (Qak b) Qcr 0 (Q6 Qc2)).2.1/\1<=(Qm (Qak b) Qcr 0 (Q6 Qc2)).2.1.many:=by
 have h:=(QnE (f:=(Qak b,Qcr,false)) (id:=0) (n:=Qc2) (by decide) (fun _=>by
  have:=Qhz (new_Fs b) (id:=0) (by decide);rw[Qqr] at this
  rw[show Qc2.tree=Qcr from rfl,(QfA _).2];exact this) fun _ _=>(QfA _).1).1
 have e:Qaq (Qak b,Qcr,false) 0 Qc2=((Qm (Qak b) Qcr 0 (Q6 Qc2)).1,(Qm (Qak b) Qcr 0 (Q6 Qc2)).2.1,!(Qm (Qak b) Qcr 0 (Q6 Qc2)).2.2):=rfl;rw[e] at h;exact h (by grind [QtT])
attribute [local irreducible] ASeq ADraw AWP Loc AStep Fg.PlanF Fg.Flts EndR Fk.PlanF Fk.Flts Fk.AStepM Fk.Grew Fk.Gs
theorem Qru(b:Bool):DoesE AA 84 [.d (tSt (Qak b).st)] [] [] (fun x H=> ∃(w:Pl.Sto) (t:Pl.Tree),w.W 16/\QbE w t/\1<=t.many/\x= .tup [oS 2 w,.d (dTree t),.d (dB true)]/\H=hS 2 w):=by
 have cS:Pure AA 50 [tSt (Qak b).st] (dB true):=(Qqq b▸Qoo (Qak b).st (by show 64<=Pm.big;decide) (by show 64<=Pm.big;decide) (by show 0<=_;decide) (by show 0<=_;decide)).arg;have cC:=dCopy (Qak b) 1 (by decide) (new_W b);have hW:=new_W b;have cP:=ePut11 1 (Qak b) 1 (by decide) hW Qcr tgood0 0 (by decide) Qc2 (QdR _);have ht:=QeV hW tgood0 (k:=0) (by decide) (Q6 Qc2);have hp:=new_put b;have ho:=QtT b;generalize Qm (Qak b) Qcr 0 (Q6 Qc2)=y at*;generalize Qak b=w0 at*;obtain⟨w,t,ok⟩:=y;simp only at ho hp ht;subst ho;simp only[if_true] at cP;have v0:w.rows.length=w0.rows.length:=by rw[ht.1.rows,hW.rows]
 have v1:w.refs.length=w0.refs.length:=by rw[ht.1.refs,hW.refs]
 have v2:w.last.length=w0.last.length:=by rw[ht.1.last,hW.last]
 refine kH fun gvs=>?_
 repeat' first|refine kS ?_|refine(QkB (ds:=[dSt w0.st]) cC cK rfl rfl (QmC _ _) (hH:=by intro R hR;simp only[hS,AE,AC];exact hR) (k:=?_))|refine Qdg [3,4,5,6,7] cP cK (k:=kX ?_)|(show AWP _ (.region 6 _ _) _ _;refine(Fk.awp_drawF (id:=6) [0,1] [2,3] [] [(8,_),(9,_)] ?_))|refine(Fk.aw_fltK 8 (hl:=fun H hH=>QcW Ty.h rfl hH rfl) (k:=?_))|refine(Fk.aw_fltK 9 (hl:=fun H hH=>QcW Ty.h rfl hH rfl) (k:=?_))|(show Fk.PlanF _ _ _ _ _ _ _ _ _;refine Fk.aw_planFC ?_)|(show Fk.PlanF _ _ _ _ _ _ _ _ _;refine Fk.aw_planFN ?_)|refine kU ?_|fail
 refine QdI [2,3,4,1000000] [3,4,5,6,7,1,2] (env':=[(2,.ptr 5 0 0),(3,.ptr 6 0 0),(4,.d (dB true)),(1000000,.gh [] gvs)]) (H':=hS 2 w++[.row 0 [.osl 0 1 0 64,.osl 1 1 0 64,.osl 2 1 0 64,.d (dI w.txg),.osl 3 2 0 w.gone.length,.d (dI 0),.osl 4 1 0 0,.d (dB w.same)],.row 0 [.d (dI t.root.pat),.d (dI t.root.birth),.d (dI t.root.size),.d (dI t.root.sum),.d (dI t.root.level),.d (dI t.depth),.d (dI t.many)]]) (h:=?_);refine QN 5 (hx:=?_);exact⟨w,t,ht.1,hp.1,hp.2,rfl,rfl⟩
end Aw
end
section
open Go.RowKit
variable{t:Pl.Tree}{w:Pl.Sto}
theorem Qcy: ∀(l:List Pl.Ptr) (w:Pl.Sto) (i:Nat),(w.dropL l).refs.getD i 0<=w.refs.getD i 0
 |[],_,_=>Int.le_refl _
 |p::l,w,i=>by
  refine Int.le_trans (Qcy l (w.drop p.pat.toNat) i) ?_;unfold Pl.Sto.drop;dsimp only;rw[Pl.getD_set]
  grind
theorem Qcz: ∀(l:List Pl.Ptr) (w:Pl.Sto),∀x∈(w.dropL l).last,x=0∨x∈w.last
 |[],_,x,h=> .inr h
 |p::l,w,x,h=>by
  rcases Qcz l (w.drop p.pat.toNat) x h with e|e
  ·omega
  ·unfold Pl.Sto.drop at e
   grind
namespace Aw
theorem Qkc(w:Pl.Sto)(t:Pl.Tree):Qb6 w t 16=Qcb w t:=by
 unfold Qb6 Qcb;rw[AF,AF,List.map_congr_left fun k hk=>if_neg (by grind)]
def Fs_keep{w':Pl.Sto}(h:QbE w t)(hk:QaC w w' (Q7 w.st t++Qcb w t))(ht:w.txg<=w'.txg)(hl:QU w' (Q7 w.st t++Qcb w t)):QbE w' t:=by
 have o:QcN w t 16 []:=⟨h.tr,fun k hk _=>h.nod k hk,by rw[Qkc,AD];exact h.live⟩;obtain⟨k1,k2,k3,k4⟩:=QkI (w':=w') (E':=[]) o (by rw[Qkc];exact hk) ht (by rw[Qkc,AD];exact hl);refine⟨k1.tr,fun k hk=>k1.nod k hk (by omega),?_⟩;have:=k1.live;rw[Qkc,AD] at this;exact this
theorem Fs_next{N:Nat}(hw:w.W N)(h:QbE w t):QbE w.next t/\w.next.W (N+1):=by
 obtain⟨h1,h2⟩:=Lv_next h.live hw.gone;have h3:=hw.next;have h4:=hw.txg;have h5:=(Pl.Qfh w.gone w).2.1;have h6:w.next.txg=w.txg+1:=rfl;refine⟨Fs_keep h h2 (by omega) h1,⟨h3.rows,h3.refs,h3.last,h3.row,fun x hx=>?_,fun x hx=>?_,by omega,h3.gone,by show 0<=N+1;omega,h3.blank⟩⟩
 ·obtain⟨i,hi,rfl⟩:=List.mem_iff_getElem.1 hx
  have e:w.next.refs[i]=w.next.refs.getD i 0:=by grind
  have a1:=h1.cnt i;have a2:w.next.refs.getD i 0<=w.refs.getD i 0:=Qcy w.gone w i;have a3:=hw.ref _ (Pl.QdE (d:=0) (by have:=h3.refs;have:=hw.refs;omega:i<w.refs.length));omega
 ·rcases Qcz w.gone w x hx with e|e
  ·omega
  ·have:=hw.las x e;omega
end Aw
end
section
open Go.RowKit
namespace Aw
def QcP:List QbF:=[⟨2,[47,97],[],0,[]⟩,⟨1,[47,98],[],0,[]⟩,⟨1,[47,97,47,98],[],0,[]⟩,⟨3,[47,98],[],0,[104,101,108,108,111,32,104,101,108,108,111,32,104,101,108,108,111]⟩,⟨2,[47,97,47,99],[],0,[]⟩,⟨3,[47,97,47,98],[],30,[104,101,108,108,111,32,104,101,108,108,111,32,104,101,108,108,111]⟩]
abbrev rOp(o:QbF):List D:=[dI o.kind,dS o.path,dS o.pto,dI o.at',dS o.text]
def QcM(o:QbF):Prop:=(1<=o.kind/\o.kind<=7)/\o.path.length<=900/\o.pto.length<=900/\(QK o.path).length<=4/\(o.kind=6∨o.kind=7->(QK o.pto).length<=4)/\o.at'<=1000/\o.text.length<=1000
def QqZ: ∀o∈QcP,QcM o:=by unfold QcM;decide
attribute [local irreducible] ASeq ADraw AWP Loc AStep Fg.PlanF Fg.Flts EndR Fk.PlanF Fk.Flts Fk.AStepM Fk.Grew Fk.Gs
def eFirst:DoesE AA 86 [] [] [] (fun x H=> ∃L:List QbF,L.length=6/\(∀o∈L,QcM o)/\x= .d (.sl true 5 (L.map rOp))/\H=[]):=by
 refine kH fun gvs=>?_
 repeat' first|refine kS ?_|refine qS (Qd0 Ty.h rfl Ty.h) ?_|refine kU ?_|fail
 refine Q1 0 (hx:=?_);exact⟨QcP,rfl,QqZ,rfl,rfl⟩
abbrev rwS(k0 k1 k2 k3 k4 g:Nat)(w:Pl.Sto):List AV:=[.osl k0 1 0 64,.osl k1 1 0 64,.osl k2 1 0 64,.d (dI w.txg),.osl k3 g 0 w.gone.length,.d (dI 0),.osl k4 1 0 0,.d (dB w.same)]
abbrev rwT(t:Pl.Tree):List AV:=[.d (dI t.root.pat),.d (dI t.root.birth),.d (dI t.root.size),.d (dI t.root.sum),.d (dI t.root.level),.d (dI t.depth),.d (dI t.many)]
abbrev rwS0:List AV:=[.d (.v (.slice none 0 0)),.d (.v (.slice none 0 0)),.d (.v (.slice none 0 0)),.d (.v (.int .i64 0)),.d (.v (.slice none 0 0)),.d (.v (.int .i64 0)),.d (.v (.slice none 0 0)),.d (.v (.bool false))]
abbrev rwT0:List AV:=[.d (.v (.int .i64 0)),.d (.v (.int .i64 0)),.d (.v (.int .i64 0)),.d (.v (.int .i64 0)),.d (.v (.int .i64 0)),.d (.v (.int .i64 0)),.d (.v (.int .i64 0))]
abbrev hD(rows:List (List D))(p g:Nat)(w:Pl.Sto)(t:Pl.Tree):List Blk:=[rdR rows p,.row 0 rwS0,.row 0 rwT0,.arr 1 1 9 (rS w.rows),.arr 1 1 3 (rI w.refs),.arr 1 1 3 (rI w.last),.arr g 5 31 (w.gone.map rPtr),.arr 1 5 31 [],.row 0 (rwS 3 4 5 6 7 g w),.row 0 (rwT t)]
def DoesE.mono{P:Program}{f:FuncId}{args:List AV}{H0:List Blk}{gl:List AV}{Q Q':AV->List Blk->Prop}(h:DoesE P f args H0 gl Q)(hq: ∀x H,Q x H->Q' x H):DoesE P f args H0 gl Q':=
 fun B σ S w c g h1 h2 h3 h4 h5 h6=>(h B σ S w c g h1 h2 h3 h4 h5 h6).mono fun _ _ ⟨x,H1,h7,h8⟩=>⟨x,H1,hq _ _ h7,h8⟩
def ptr_cells(a b c d e:Int): ∀r∈[[dI a,dI b,dI c,dI d,dI e]],∀q∈r,q.cell=true:=by
 intro r hr q hq;rw[List.mem_singleton.1 hr] at hq;simp only[List.mem_cons,List.not_mem_nil,or_false] at hq;rcases hq with rfl|rfl|rfl|rfl|rfl<;>rfl
def ptr_one(a b c d e:Int):[[dI a,dI b,dI c,dI d,dI e]]=[(⟨a,b,c,d,e⟩:Pl.Ptr)].map rPtr:=rfl
def Qgr:D.sl true 5 []=D.sl true 5 (([]:List Pl.Ptr).map rPtr):=rfl
def Qtd{x:AV}{a:List (List UInt8)}{b c:List Int}{t k:Int}{g l:List Pl.Ptr}{m:Bool}{p p':Nat}{H:List Blk}{rows:List (List D)}(hx:x= .d (tSt (a,(b,c),t,g,k,l,m)))(hH:H=[rdR rows p'])(h1:b.length<=Pm.big)(h2:c.length<=Pm.big)(h3:g.length<=1000000000000)(h4:l.length<=1000000000000)(hp:p'<=p+60):
 ∃(s:Pm.Store) (p':Nat),QbQ s/\p'<=p+60/\x= .d (tSt s)/\H=[rdR rows p']:=⟨_,p',⟨h1,h2,h3,h4⟩,hp,hx,hH⟩
def eHurt(rows:List (List D))(hr:RdOk rows)(p:Nat)(hp:p<=700000)(w:Pl.Sto)(N:Nat)(hN:N<=30000)(hw:w.W N):
 DoesE AA 45 [.ptr 0 0 0,.d (tSt w.st)] [rdR rows p] [.ptr 0 0 0] (fun x H=> ∃(s:Pm.Store) (p':Nat),QbQ s/\p'<=p+60/\x= .d (tSt s)/\H=[rdR rows p']):=by
 obtain⟨v1,e1,l1⟩:=Qft hr p (n:=6) (by decide);have c1:=ePick rows hr p (by omega) 6 (by decide);rw[e1] at c1;obtain⟨v2,e2,l2⟩:=Qft hr (p+1) (n:=9) (by decide);have c2:=ePick rows hr (p+1) (by omega) 9 (by decide);rw[e2] at c2;obtain⟨v3,e3,l3⟩:=Qft hr (p+1+1) (n:=3) (by decide);have c3:=ePick rows hr (p+1+1) (by omega) 3 (by decide);rw[e3] at c3;clear e1 e2 e3;have cC:=dCopy w N (by omega) hw;have hx:=hw.txg;have hT:=hw.txg;have hRL:=hw.rows;have hFL:=hw.refs;have hLL:=hw.last;have hM:=hw.many;have hS:=Qjj (l:=w.rows) (a:=8+v1) (by omega);have sS:=fun y=>Qns (l:=w.rows) (a:=8+v1) (x:=w.rows.getD (8+v1) []) (y:=y)
 have hS2:=Qjj (l:=w.rows) (a:=2) (by omega);have sS2:=fun y=>Qns (l:=w.rows) (a:=2) (x:=w.rows.getD 2 []) (y:=y)
 have hF:=QfD (l:=w.refs) (a:=8+v1) (by omega);have sF:=fun y=>Qjk (l:=w.refs) (a:=8+v1) (x:=w.refs.getD (8+v1) 0) (y:=y)
 have bF:=hw.ref _ (Pl.QdE (d:=0) (show 8+v1<w.refs.length by omega));have hL:=QfD (l:=w.last) (a:=8+v1) (by omega);have sL:=fun y=>Qjk (l:=w.last) (a:=8+v1) (x:=w.last.getD (8+v1) 0) (y:=y)
 have rB:(([-1,w.txg,w.txg -1]:List Int).map fun z=>[dI z])[((v3:Nat):Int).toNat]? =some _:=QdT (f:=fun z=>[dI z]) _ 0 (n:=3) rfl (by omega);have rA:(([0,900,901]:List Int).map fun z=>[dI z])[((v3:Nat):Int).toNat]? =some _:=QdT (f:=fun z=>[dI z]) _ 0 (n:=3) rfl (by omega);generalize ([-1,w.txg,w.txg -1]:List Int).getD v3 0=yB at*;generalize ([0,900,901]:List Int).getD v3 0=yA at*;generalize w.refs.getD (8+v1) 0=xF at*;clear hx;refine kH fun gvs=>?_
 repeat' first|refine kS ?_|refine(QkB (ds:=[dSt w.st]) cC cK rfl rfl (QmC _ _) (hH:=by intro R hR;simp only[hS,AE,AC];exact hR) (k:=?_))|refine QA [0] c1 cK (k:=kX ?_)|refine QA [0] c2 cK (k:=kX ?_)|refine QA [0] c3 cK (k:=kX ?_)|refine qD (Qd0 Ty.h rfl Ty.h) ?_|refine qS (Qd0 Ty.h rfl Ty.h) ?_|refine qS (iy rA) ?_|refine qD (iy rB) ?_|(show AWP _ (.region 8 _ _) _ _;refine(Fk.awp_drawF (id:=8) [0,1,2,3,4,5,6,10] [7,11] [] [(1,_)] ?_))|(show AWP _ (.region 10 _ _) _ _;refine(Fk.awp_drawF (id:=10) [0,1,2,3,5] [4,6] [] [(1,_),(3,_)] ?_))|(show AWP _ (.region 14 _ _) _ _;refine(Fk.awp_drawF (id:=14) [0,1,2,6] [3,5,7] [] [(1,_)] ?_))|(show AWP _ (.region 16 _ _) _ _;refine(Fk.awp_drawF (id:=16) [0,1,2,6] [3,5,7] [] [(1,_)] ?_))|(show AWP _ (.region 12 _ _) _ _;refine(Fg.awp_drawF (id:=12) [] [12] ?_))|refine(Fk.aw_fltK 1 (hl:=fun H hH=>Qfw Ty.h rfl hH rfl rfl) (k:=?_))|refine(Fk.aw_fltK 1 (hl:=fun H hH=>QcW Ty.h rfl hH rfl) (k:=?_))|refine(Fk.aw_fltL (hl:=fun H=>Qhk rfl rfl (by omega)) (k:=?_))|refine(Fk.aw_fltL (ho:=rfl) (hk:=rfl) (hl:=fun H=>Qd0 Ty.h rfl Ty.h) (k:=?_))|refine(Fk.aw_fltK 3 (C:= .arr 1 1 9 (rS w.rows)) (ho:=rfl) (hk:=rfl) (hl:=fun H hH=>Qdn Ty.h rfl Ty.h rfl rfl hH rfl (by omega) (by omega)) (k:=?_))|(show Fk.PlanF _ _ _ _ _ _ _ _ _;refine Fk.aw_planFC ?_)|(show Fk.PlanF _ _ _ _ _ _ _ _ _;refine Fk.aw_planFN ?_)|refine Fk.aw_callM [0] c3 cK (k:=kY ?_)|(refine Fk.aw_callM [0] (eText rows hr _ ?_ 9 (by decide)) cK (k:=?_);omega;rintro _ _ ⟨s,p1,hs,hp1,rfl,rfl⟩;refine Fk.aw_nrmM (k:=?_))|(refine Fk.aw_callM [0] (ePtrD rows hr _ ?_) cK (k:=?_);omega;rintro _ _ ⟨a,b,c,d,e,p1,hp1,rfl,rfl⟩;refine Fk.aw_nrmM (k:=?_))|refine(Fk.aw_appM (by kernel_rfl) Ty.h rfl Ty.h (hcell:=?_) (hb:=?_) (kk:=?_))|refine qD (QcY Ty.h rfl rfl hF rfl) ?_|refine(QlP Ty.h rfl rfl hS (sS _) (kk:=?_))|refine(QlP Ty.h rfl rfl hF (sF _) (kk:=?_))|refine(QhG Ty.h rfl rfl hL (sL _) (kk:=?_))|refine(QhG Ty.h rfl rfl hS2 (sS2 _) (kk:=?_))|refine qS (Qlv rfl rfl rfl rfl rfl (by omega) (by omega)) ?_|refine kU ?_|refine kV ?_ ?_<;>intro q|fail
 all_goals first
  |exact ptr_cells _ _ _ _ _
  |(show((w.gone.map rPtr).length+1)*40<=140737488355328;rw[A7];omega)
  |(show(0+1)*40<=140737488355328;decide)
  |(refine Qa 3 (h:=?_)
    refine Qa 4 (h:=?_);refine Qa 5 (h:=?_);refine Qa 6 (h:=?_);refine Qa 7 (h:=?_);refine Q1 1 (hx:=?_)
    exact Qtd (by simp only[List.take_nil,Qgr,ptr_one,AC,<-List.map_append,<-List.map_take,<-List.map_drop];rfl) rfl (by first|exact AB _|exact A5 rfl|exact A3 (A2 _ _) (by decide)|(refine A3 (A2 _ _) ?_;first|omega|(simp only[A7,A4,A8,A9];omega))) (by first|exact AB _|exact A5 rfl|exact A3 (A2 _ _) (by decide)|(refine A3 (A2 _ _) ?_;first|omega|(simp only[A7,A4,A8,A9];omega))) (by first|exact AB _|exact A5 rfl|exact A3 (A2 _ _) (by decide)|(refine A3 (A2 _ _) ?_;first|omega|(simp only[A7,A4,A8,A9];omega))) (by first|exact AB _|exact A5 rfl|exact A3 (A2 _ _) (by decide)|(refine A3 (A2 _ _) ?_;first|omega|(simp only[A7,A4,A8,A9];omega))) (by omega))
  |skip
 all_goals first|refine Fk.aw_fltK 3 (C:= .arr 1 1 9 (rS w.rows)) (ho:=rfl) (hk:=rfl) (hl:=fun H hH=>Qdn Ty.h rfl Ty.h rfl rfl hH rfl (by omega) (by omega)) (k:=?_)

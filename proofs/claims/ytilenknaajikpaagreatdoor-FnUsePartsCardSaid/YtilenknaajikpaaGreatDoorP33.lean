/- Of parts_card; no condition. -/
import Derived.Test.YtilenknaajikpaaGreatDoorP31
import Derived.Test.YtilenknaajikpaaGreatDoorP32
set_option linter.all false
set_option maxRecDepth 100000
set_option maxHeartbeats 16000000
open Bool renaming and_eq_true->A1
open Go.Proofs.Tryz renaming prog->A0,underlying36->A7
open Int renaming toNat_natCast->A4,eq_ofNat_of_zero_le->A5
open List renaming length_map->A2,take_of_length_le->A3,flatMap_cons->A6,mem_cons->A9,mem_map->AA,sum->AD
open Nat renaming le_refl->A8,lt_or_ge->AB
open Option.some renaming inj->AC
namespace Go.Proofs.YtilenknaajikpaaGreatDoor
noncomputable section
section
open Go.RowKit
namespace Aw
def Qvg{f:Q7}{N:Nat}(h:f.1.W N){n:Qi}(ht:Qx n.tree){o:QbN}(ho:o.at'+o.text.length<=192):(QbK f n o).1.W (N+269):=by
 unfold QbK;split
 ·unfold Qb2
  split
  ·exact h.le (by omega)
  ·rename_i h1
   have:=List.length_pos_iff.2 h1;exact(Qi2 h ht (by omega)).1.le (by omega)
 ·have hm:(o.at'+11)/12<=16:=by omega
  have h2:=cut_W h ht (many:=(o.at'+11)/12) hm;have h3:=Qfo h ht (k:=(o.at'+11)/12 -1) (by omega) [];unfold Qb3;split
  ·split
   ·exact h.le (by omega)
   ·exact h3.1.le (by omega)
  ·split
   ·exact h2.1.le (by omega)
   ·split
    ·exact h2.1.le (by omega)
    ·exact(Qi2 h2.1 (n:={n with tree:=(QJ f.1 n.tree ((o.at'+11)/12)).2.1,size:=o.at'}) h2.2 (by omega)).1.le (by omega)
attribute [local irreducible] ASeq ADraw AWP Loc AStep Fg.PlanF Fg.Flts EndR Fk.PlanF Fk.Flts Fk.AStepM Fk.Grew Fk.Gs
def QoM(g:Nat)(f:Q7)(N:Nat)(hN:N<=500000)(hw:f.1.W N)(ht:Qx f.2.1)(o:QbN)(hp:o.path.length<=900)(ha:o.at'<=1000000)(htx:o.text.length<=1000000):
 DoesE A0 127 [.ptr 5 0 0,.d (dOp o)] (hF g f) (gF g f.1) (fun x H=>x= .d (dI (Qbg f o).2)/\H=hF (g+1) (Qbg f o).1):=by
 refine DoesE.tagF (C:=fun _=>True) ?_ Qdz;have c0:=aFind f.1 N hw f.2.1 ht f.2.2 o.path hp;have hd:=Pm.hid (Qbg.eq_def f o);have hfb:=QdS f.1.st f.2.1 (Qy o.path);rw[show Qai f.1.st f.2.1 (Qy o.path)=QF f.1 f.2.1 o.path from rfl] at hfb;generalize Qbg f o=res at*;generalize QF f.1 f.2.1 o.path=i at*;rcases hfb with hfb|⟨k,hk,rfl⟩
 ·rw[if_pos hfb] at hd
  have hq:decide (i<0)=true:=decide_eq_true hfb;refine kH fun gvs=>?_
  refine Qa 6 (h:=?_)
  repeat' first|refine kS ?_|refine qS (Qdd (fs:=f) cK c0 hw) ?_|refine kU ?_|refine kV ?_ ?_<;>intro q|fail
  all_goals first|exact absurd (hq.symm.trans ‹decide (i<0)=false›) (by decide)|refine Q3 6 (hx:=?_);rw[hd.out];exact⟨g,trivial,rfl,rfl⟩
 rw[if_neg (by omega),A4] at hd;have hq0:decide ((k:Int)<0)=false:=decide_eq_false (by omega);have c4:=aNode f.1 N hw f.2.1 ht f.2.2 k;have hng:=Qdl f.1.st f.2.1 k;have hnf:=Qr6 f.1.st f.2.1 k;rw[show(Q4 f.1.st f.2.1 k).1=Qk f k from rfl] at c4 hng hnf;generalize Qk f k=n at*
 by_cases h1:n.kind≠1
 ·rw[if_pos h1] at hd
  have hq1:(n.kind !=1)=true:=bne_iff_ne.2 h1;refine kH fun gvs=>?_
  refine Qa 6 (h:=?_)
  repeat' first|refine kS ?_|refine qS (Qdd (fs:=f) cK c0 hw) ?_|refine qS (Qdd (fs:=f) cK c4 hw) ?_|refine kU ?_|refine kV ?_ ?_<;>intro q|fail
  all_goals first|exact absurd (hq0.symm.trans ‹decide ((k:Int)<0)=true›) (by decide)|exact absurd (hq1.symm.trans ‹(n.kind !=1)=false›) (by decide)|refine Q3 6 (hx:=?_);rw[hd.out];exact⟨g,trivial,rfl,rfl⟩
 rw[if_neg h1] at hd;have hk1:n.kind=1:=Classical.not_not.1 h1;have hq1:(n.kind !=1)=false:=by rw[hk1];rfl
 obtain⟨hns,hnm⟩:=hnf hk1
 by_cases h2:192<o.at'+o.text.length
 ·rw[if_pos h2] at hd
  have hq2:decide ((o.at':Int)+(o.text.length:Int)>192)=true:=decide_eq_true (by omega);refine kH fun gvs=>?_
  refine Qa 6 (h:=?_)
  repeat' first|refine kS ?_|refine qS (Qdd (fs:=f) cK c0 hw) ?_|refine qS (Qdd (fs:=f) cK c4 hw) ?_|refine kU ?_|refine kV ?_ ?_<;>intro q|fail
  all_goals first|exact absurd (hq0.symm.trans ‹decide ((k:Int)<0)=true›) (by decide)|exact absurd (hq1.symm.trans ‹(n.kind !=1)=true›) (by decide)|exact absurd (hq2.symm.trans ‹decide ((o.at':Int)+(o.text.length:Int)>192)=false›) (by decide)|refine Q3 6 (hx:=?_);rw[hd.out];exact⟨g,trivial,rfl,rfl⟩
 rw[if_neg h2] at hd;have hq2:decide ((o.at':Int)+(o.text.length:Int)>192)=false:=decide_eq_false (by omega);have hWc:=Qvg (f:=f) hw (n:=n) hng.1 (o:=o) (by omega);have hfc:=Pm.hid (QbK.eq_def f n o);generalize QbK f n o=y at*;obtain⟨w2,n2,ok2⟩:=y;simp only at hWc hd;have cP:=ePutF (g+1) (w2,f.2.1,!ok2) (N+269) (by omega) hWc ht k hk n2 (Qeg _);have hWp:=(Qhu (f:=(w2,f.2.1,!ok2)) hWc ht hk n2).1;generalize Qax (w2,f.2.1,!ok2) k n2=f3 at*;have v0:f3.1.rows.length=f.1.rows.length:=by rw[hWp.rows,hw.rows]
 have v1:f3.1.refs.length=f.1.refs.length:=by rw[hWp.refs,hw.refs]
 have v2:f3.1.last.length=f.1.last.length:=by rw[hWp.last,hw.last]
 clear hWp hWc
 by_cases h3:o.kind=3
 ·have hq3:(o.kind==3)=true:=by simpa using h3
  have c6:=Qur g f.1 N (by omega) hw n hng.1 hng.2 o.at' o.text (by omega);rw[<-(show(w2,n2,ok2)=Qb2 f.1 n o.at' o.text by rw[hfc.out,if_pos h3])] at c6;simp only at c6;refine kH fun gvs=>?_
  refine Qa 6 (h:=?_)
  repeat' first|refine kS ?_|refine qS (Qdd (fs:=f) cK c0 hw) ?_|refine qS (Qdd (fs:=f) cK c4 hw) ?_|(show AWP _ (.region 11 _ _) _ _;refine(Fk.awp_drawG (id:=11) [0,11,13,14] [10,17,18] [] [] 10 41 (.tup [oS (g+1) w2,.d (dNode n2),.d (dB ok2)]) ?_))|refine(Fk.aw_planC0 (by rfl) (by kernel_rfl) rfl ?_)|refine Fk.aw_callM [0,1,2,3,4] c6 cK (k:=kY ?_)|refine Qdp [0,1,2,3,4,5] cP cK (k:=kX ?_)|refine kU ?_|refine kV ?_ ?_<;>intro q|fail
  all_goals first|exact absurd (hq0.symm.trans ‹decide ((k:Int)<0)=true›) (by decide)|exact absurd (hq1.symm.trans ‹(n.kind !=1)=true›) (by decide)|exact absurd (hq2.symm.trans ‹decide ((o.at':Int)+(o.text.length:Int)>192)=true›) (by decide)|exact absurd (hq3.symm.trans ‹(o.kind==3)=false›) (by decide)|refine Q3 6 (hx:=?_);rw[hd.out];exact⟨_,trivial,rfl,rfl⟩
 have hq3:(o.kind==3)=false:=by simpa using h3
 have c6:=eCut13 g f.1 N (by omega) hw n hng.1 hns hnm o.at' (by omega);rw[<-(show(w2,n2,ok2)=Qb3 f.1 n o.at' by rw[hfc.out,if_neg h3])] at c6;simp only at c6;refine kH fun gvs=>?_
 refine Qa 6 (h:=?_)
 repeat' first|refine kS ?_|refine qS (Qdd (fs:=f) cK c0 hw) ?_|refine qS (Qdd (fs:=f) cK c4 hw) ?_|(show AWP _ (.region 12 _ _) _ _;refine(Fk.awp_drawG (id:=12) [0,9,11,12] [8,15,16] [] [] 8 56 (.tup [oS (g+1) w2,.d (dNode n2),.d (dB ok2)]) ?_))|refine(Fk.aw_planC0 (by rfl) (by kernel_rfl) rfl ?_)|refine Fk.aw_callM [0,1,2,3,4] c6 cK (k:=kY ?_)|refine Qdp [0,1,2,3,4,5] cP cK (k:=kX ?_)|refine kU ?_|refine kV ?_ ?_<;>intro q|fail
 all_goals first|exact absurd (hq0.symm.trans ‹decide ((k:Int)<0)=true›) (by decide)|exact absurd (hq1.symm.trans ‹(n.kind !=1)=true›) (by decide)|exact absurd (hq2.symm.trans ‹decide ((o.at':Int)+(o.text.length:Int)>192)=true›) (by decide)|exact absurd (hq3.symm.trans ‹(o.kind==3)=true›) (by decide)|refine Q3 6 (hx:=?_);rw[hd.out];exact⟨_,trivial,rfl,rfl⟩
end Aw
end
section
namespace Aw
variable{q:List (List UInt8)}{j:Int}
def Qnb{l:List (List UInt8)}(h:l≠[]):Qb1 l=QaI l:=by
 unfold Qb1 QaI;rw[if_neg h];induction l with
 |nil=>exact absurd rfl h
 |cons a l ih=>
  cases l with
  |nil=>simp[QW]
  |cons b l=>
   have ih:=ih (by simp);have e:QW 47 (a::b::l)=a++47::QW 47 (b::l):=by simp[QW,List.intersperse]
   rw[e,A6,<-ih];simp
def Qil{n:List UInt8}(h:(Qad (q++[n])).2=true):Qz (Qad (q++[n])).1=some (q++[n]):=by
 unfold Qad at*;split at h
 ·rename_i hc
  rw[if_pos hc];simp only[A1,decide_eq_true_eq] at hc;exact Qe9.2 ⟨hc.2,hc.1,(Qnb (by simp)).symm⟩
 ·cases h
def QpY{l:List Ql}(hn:(l.map (·.1)).Nodup): ∀{e:Ql},e∈l->l.find? (fun x=>x.1==e.1)=some e:=by
 induction l with
 |nil=>intro e h;cases h
 |cons a l ih=>
  intro e h;rw[List.map_cons,List.nodup_cons] at hn;rcases A9.1 h with rfl|h
  ·simp
  ·have:(a.1==e.1)=false:=by
    simp only[beq_eq_false_iff_ne];intro he;exact hn.1 (AA.2 ⟨e,h,he.symm⟩)
   rw[List.find?_cons,this];exact ih hn.2 h
def Qkm{s:Pm.Store}{ns:List Qi}(hj:Qah s ns 0 q=some j): ∀e∈(Qf s (ns.getD j.toNat Qd)).1,Qah s ns 0 (q++[e.1])=some e.2:=fun e he=>by
 unfold Qah at*;rw[QhQ,hj,Option.bind_some]
 have:((Qf s (ns.getD j.toNat Qd)).1.map (·.1)).Nodup:=by
  rcases Qd0 s (ns.getD j.toNat Qd) with h|h
  ·exact Qmp h.2
  ·rw[h];exact List.nodup_nil
 rw[QpY this he];rfl
def QcC(s:Pm.Store)(t:Pl.Tree):Nat:=((List.range (Qe s t).length).filter fun k=>decide (Qo (Qe s t) k≠0)).length
def QqM{s:Pm.Store}{t:Pl.Tree}{path:List UInt8}(f:Qi->Int)(hq:Qz path=some q)(hs:(QO s&&Qaf s t)=true)(hj:Qah s (Qe s t) 0 q=some j):
 (Qab s t path f).2=true/\(∀e∈(Qf s ((Qe s t).getD j.toNat Qd)).1,(Qad (q++[e.1])).2=true->(Qab s t (Qad (q++[e.1])).1 f).2=true)/\
 ((Qf s ((Qe s t).getD j.toNat Qd)).2=true->(∀e∈(Qf s ((Qe s t).getD j.toNat Qd)).1,(Qad (q++[e.1])).2=true)->(QaN s t).1.length=QcC s t->
   (Qab s t path f).1=f ((Qe s t).getD j.toNat Qd)+((Qf s ((Qe s t).getD j.toNat Qd)).1.map fun e=>(Qab s t (Qad (q++[e.1])).1 f).1).sum):=by
 have hx: ∀e∈(Qf s ((Qe s t).getD j.toNat Qd)).1,(Qad (q++[e.1])).2=true->Qab s t (Qad (q++[e.1])).1 f=(Qbj s t (q++[e.1]) f,true):=fun e he hf=>by
  unfold Qab;rw[Qil hf];dsimp only;rw[if_pos hs,Qkm hj e he]
 have h0:Qab s t path f=(Qbj s t q f,true):=by
  unfold Qab;rw[hq];dsimp only;rw[if_pos hs,hj]
 refine⟨by rw[h0],fun e he hf=>by rw[hx e he hf],fun hE hf hl=>?_⟩;rw[h0,Qrw f ((Qfa s t).1 (by simp only[A1] at hs;exact hs.2)) hj hE (Qkm hj) hl];show _+AD _=_+AD _;rw[List.map_congr_left (g:=fun e=>(Qab s t (Qad (q++[e.1])).1 f).1) fun e he=>by rw[hx e he (hf e he)]]
end Aw
end
section
open Go.RowKit
namespace Aw
theorem dSplit(s:List UInt8)(b:UInt8)(hs:s.length<=1000):Does A0 63 [.d (dS s),.d (dS [b])] [] [] (.osl 0 0 0 (Pl.cutB b s).length) [.arr 0 1 9 ((Pl.cutB b s).map fun s=>[dS s])]:=by
 refine Qut (args:=[dS s,dS [b]]) fun S w cargs hL hS hl hr=>?_
 have hc:=Qf7 (l:=[dS s,dS [b]]) (vs:=[.string ⟨s.toArray⟩,.string ⟨#[b]⟩]) rfl hl hr;subst hc;obtain⟨m,hm⟩:=hL.maxl;have h:=Pl.QiK b s.length s (A8 _);have hcl:=(QdT b s).1;refine(Tryz.strings_Split (Pl.ba s) (Pl.ba [b]) m w (by rw[Pl.Qgu];omega) hm (by rw[Pl.Qgu];simp)).mono fun e w' ⟨he,hw⟩=>?_
 rw[h.1,List.map_map] at hw;rw[h.2] at he;subst hw;refine⟨_,he,?_,Pm.bnew _ _⟩;exact World.ownsRow_lit (base:=w.heap.size) (e:=9) (size:=1) w ((Pl.cutB b s).map (Value.string ∘ Pl.ba)).toArray (Pl.cutB b s).length (A8 _) (by unfold maxLen;omega) (by simp)
attribute [local irreducible] ASeq ADraw AWP Loc mget mset AStep Fg.PlanF Fg.Flts
def QnN:Pure A0 32 [dS [47]] (.tup [.v (.slice none 0 0),dB true]):=by
 refine kB ?_
 repeat' first|refine kS ?_|refine qS (Qdo (m:=[47]) rfl rfl) ?_|refine kU ?_|fail
 all_goals first|exact Qb (hx:=rfl)|exfalso;simp at*;done
theorem Qqc(r:List UInt8)(hr:r≠[])(q:List (List UInt8))(hq:Qz (47::r)=some q):Does A0 32 [.d (dS (47::r))] [] [] (.tup [.osl 0 0 0 q.length,.d (dB true)]) [.arr 0 1 9 (q.map fun s=>[dS s])]:=by
 have hg:=Qhi r;rw[if_neg hr,hq] at hg
 have h20:(47::r).length<=20:=by
  rcases AB 20 (47::r).length with h|h
  ·rw[Qgd h] at hq;cases hq
  ·exact h
 have hrl:r.length<=19:=by simpa using h20
 have hok:(Qad (Pl.cutB 47 r)).2=true:=by
  cases h:(Qad (Pl.cutB 47 r)).2
  ·rw[h] at hg;cases hg
  ·rfl
 rw[if_pos hok] at hg;obtain rfl:=AC hg;have c1:=Qkx (47::r) (by omega);have c2:=dSplit r 47 (by omega);have hcl:=QdT 47 r;have c3:=bPathOf (Pl.cutB 47 r) (by omega) (fun x hx=>by have:=hcl.2 x hx;omega)
 have ht:(Qad (Pl.cutB 47 r)).1=47::r:=by
  unfold Qad at hok⊢;split at hok
  ·rename_i h2;rw[if_pos h2];show 47::QW 47 _=_;rw[Qhr]
  ·cases hok
 rw[ht,hok] at c3;simp only[List.head?_cons,if_true,decide_true,List.drop_succ_cons,List.drop_zero] at c1;have hne:((47::r)==[47])=false:=by simpa using hr
 have e:((Pl.cutB 47 r).map fun s=>[dS s]).take (Pl.cutB 47 r).length=(Pl.cutB 47 r).map fun s=>[dS s]:=A3 (by simp)
 change Pure _ _ [.sl true 1 ((Pl.cutB 47 r).map fun s=>[dS s])] _ at c3
 rw[<-e] at c3;clear hcl ht hok hq e;generalize Pl.cutB 47 r=l at*;refine kL ?hpin fun gvs=>?_
 case hpin=>intro i C hC;simp at hC
 simp only[parA,gslot,Nat.zero_add,Nat.reduceAdd]
 repeat' first|refine kS ?_|refine qS (Qdo (l:=47::r) (m:=[47]) rfl rfl) ?_|refine(Qf9 [] c2 cK (hgl:=fun g hg=>by cases hg) (k:=?_))|refine qS (QeB cK c3 rfl) ?_|refine qS (QdB (m:=47::r) rfl rfl) ?_|refine kU ?_|refine kV ?_ ?_<;>intro q|fail
 all_goals first
  |(exfalso;simp_all;done)
  |(exfalso;simp at*;omega)
  |(refine Qel [2,3,1000000] 1 (H':=[.arr 0 1 9 (l.map fun s=>[dS s])]) (hH:=fun R hR=>hR) (h:=?_)
    exact Qek (hx:=rfl) (hH:=rfl))
theorem QsW(s name:List UInt8)(hn:name.length<=1000)(q:List (List UInt8))(hq:Qz s=some q):Pure A0 13 [dS s,dS name] (.tup [dS (Qad (q++[name])).1,dB (Qad (q++[name])).2]):=by
 obtain⟨h1,h2,h3⟩:=Qe9.1 hq
 have c2:=bPathOf (q++[name]) (by simp;omega) (fun x hx=>by
  rcases List.mem_append.1 hx with h|h
  ·have:=QdQ (List.all_eq_true.1 h1 x h);omega
  ·rw[List.mem_singleton.1 h];omega)
 have e:((q.map fun s=>[dS s])++[[dS name]]).take ((q.map fun s=>[dS s]).length+1)=(q++[name]).map fun s=>[dS s]:=by rw[A3 (by simp),List.map_append];rfl
 change Pure _ _ [.sl true 1 ((q++[name]).map fun s=>[dS s])] _ at c2
 rw[<-e] at c2;clear e
 by_cases h:s=[47]
 ·subst h
  obtain rfl:q=[]:=by unfold Qz at hq;simpa using hq.symm
  have c1:=QnN;generalize Qad ([]++[name])=res at*;refine kB ?_
  repeat' first|refine kS ?_|(refine Qfk 6 1 9 (h:=?_);simp only[List.nil_append,List.length_nil])|refine QU Ty.h rfl Ty.h (hb:=?_) (kk:=?_)|refine qS (QeB cK c2 rfl) ?_|refine kU ?_|fail
  all_goals first|exact Qb (hx:=rfl)|decide
 ·obtain⟨r,rfl⟩: ∃r,s=47::r:=by
   rw[<-h3];unfold QaI;split
   ·rename_i h4;subst h4;exact absurd h3.symm (by unfold QaI;simpa using h)
   ·rename_i h4
    cases q with
    |nil=>exact absurd rfl h4
    |cons a q=>exact⟨_,by rw[A6,List.cons_append]⟩
  have c1:=Qqc r (fun e=>h (by rw[e])) q hq;generalize Qad (q++[name])=res at*;refine kB ?_
  repeat' first|refine kS ?_|refine(Qf9 [] c1 cK (hgl:=fun g hg=>by cases hg) (x':= .tup [.osl 0 0 0 q.length,.d (dB true)]) (hX:=fun _ h=>h) (H':=[.arr 0 1 9 (q.map fun s=>[dS s])]) (hH:=fun _ h=>h) (k:=?_))|refine QU Ty.h rfl Ty.h (hb:=?_) (kk:=?_)|refine qS (QeB cK c2 rfl) ?_|refine kU ?_|fail
  all_goals first
   |exact Qb (hx:=rfl)
   |(show((q.map fun s=>[dS s]).length+1)*16<=140737488355328
     rw[A2];omega)
def Qqy(s:Pm.Store)(t:Pl.Tree)(x:List (List UInt8))(m:List (Int×D))(hm:QbV m (Qav s x))(cI:Pure A0 19 [dSt s,dTree t] (.tup [.pd (rFiles s t x m),dB true]))(p:List UInt8)(hp:p.length<=1000000000000)(k:Nat)(hat:Qal s x p=(k:Nat)):
 Pure A0 10 [dSt s,dTree t,dS p] (.tup [dI (k:Nat),dB true]):=by
 have c:Pure A0 20 [.pd (rFiles s t x m),dS p] (dI (k:Nat)):=by rw[<-hat];unfold Qal;exact bPath s t x m _ hm p hp
 have h0:decide (((k:Nat):Int)≥0)=true:=decide_eq_true (by omega);refine kE ?_;refine Qa 0 (h:=?_);refine Qa 1 (h:=?_)
 repeat' first|refine kS ?_|refine qS (Qg4 (m:=((k:Nat):Int)) rfl rfl (if_neg (by omega))) ?_|refine kU ?_|fail
 all_goals first|exact Qb (hx:=by rw[h0])|exact Qb (hx:=rfl)
def QsZ(s:Pm.Store)(t:Pl.Tree)(x:List (List UInt8))(hx:Qcl x)(hx16:x.length<=16)(m:List (Int×D))(k:Nat):Pure A0 21 [.pd (rFiles s t x m),dI (k:Nat)] (dB (((Qm x).getD k Qd).kind==2)):=by
 have c:=bNodeAt x (k:Nat) (by omega);rw[Qpb hx k] at c
 by_cases h0:Qo (Qm x) k=0
 ·rw[if_pos h0] at c
  have hk:(((Qm x).getD k Qd).kind==2)=false:=by
   rw[beq_eq_false_iff_ne];intro h;unfold Qo at h0;rw[h] at h0;cases h0
  rw[hk];refine kB ?_
  repeat' first|refine kS ?_|refine qS (Qdq rfl) ?_|refine kU ?_|fail
  all_goals first|exact Qb (hx:=rfl)
 ·rw[if_neg h0] at c
  generalize (Qm x).getD k Qd=N at*;obtain⟨kd,links,size,⟨⟨p1,p2,p3,p4,p5⟩,depth,many⟩⟩:=N;simp only at c⊢;clear h0;refine kB ?_
  repeat' first|refine kS ?_|refine qS (Qdq rfl) ?_|refine kU ?_|fail
  all_goals first|exact Qb (hx:=rfl)
def bCloneE(l:List Ql)(hl:l.length<=1000):Pure A0 22 [tEnts l] (tEnts l):=by
 cases l with
 |nil=>
  refine Qoo fun a k=>?_
  cases a
  all_goals
   refine kB ?_
   repeat' first|refine kS ?_|refine qS (loc_bin' (X:= .slice _ 0 k) (Y:= .slice none 0 0) rfl rfl fun w=>Qi7 A7 _ _ _ _ _ w) ?_|refine(QnT 6 true 2 (h:=?_))|refine(QdW Ty.h rfl Ty.h (hcell:=?_) (hb:=?_) (kk:=?_))|refine kU ?_|fail
  ·refine Qd7 2 true 2 (h:=?_)
   exact Qb (hx:=rfl)
  ·intro r hr;cases hr
  ·decide
  ·refine Qa 0 (h:=?_)
   exact Qb (hx:=rfl)
 |cons a l=>
  refine kB ?_
  repeat' first|refine kS ?_|refine qS (QgQ A7 rfl) ?_|refine(QdW Ty.h rfl Ty.h (hcell:=?_) (hb:=?_) (kk:=?_))|refine kU ?_|fail
  ·intro r hr d hd
   obtain⟨y,_,rfl⟩:=AA.1 hr;simp only[A9,List.not_mem_nil,or_false] at hd;rcases hd with rfl|rfl<;>rfl
  ·show(0+((a::l).map rEnt).length)*24<=140737488355328
   rw[A2];omega
  ·refine Qa 0 (h:=?_)
   refine Qb (hx:=?_);rw[A3 (by simp)];rfl
theorem Qqx(s:Pm.Store)(hl:Qch s)(t:Pl.Tree)(p:List UInt8)(hp:p.length<=1000000000000):Pure A0 5 [dSt s,dTree t,dS p] (.tup [tEnts (Qaq s t p).1,dB (Qaq s t p).2]):=by
 have cI:=Qln s t (Qll s hl.b1 hl.b2 hl.b3 hl.b4) (fun h=>⟨Qd5 h,Qey h⟩) fun h=>bText s (Qd5 h) (Qey h) (QhM s)
 have hrl:=Qgn s t;have hpa:=QiQ s t p
 by_cases hs:(QO s&&Qaf s t)=true
 rotate_left
 ·have hL:Qaq s t p=([],false):=by
   unfold Qaq;rw[if_neg];intro h;obtain⟨_,_,_,h2,_⟩:=Qff h;exact hs h2
  obtain⟨a,ha⟩: ∃a,Qcq s t= .tup [a,dB false]:=by
   unfold Qcq QbH;rw[<-hrl] at hs;simp only[A1,not_and] at hs;split
   ·split
    ·rename_i h1 h2
     exact⟨_,by rw[show QbJ s (Qc s t)=false by simpa using hs h1 h2]⟩
    ·exact⟨_,rfl⟩
   ·exact⟨_,rfl⟩
  rw[ha] at cI;rw[hL];refine kE ?_;refine Qa 0 (h:=?_);refine Qa 1 (h:=?_)
  repeat refine kA ?_
  all_goals first
   |(exfalso;simp at*;omega)
   |(refine Qd7 6 true 2 (h:=?_)
     exact Qb (hx:=rfl))
 have hs':=hs;rw[A1] at hs';have hF:=(Qfa s t).1 hs'.2;rw[hs'.2,A1] at hrl
 have hin:Qcq s t= .tup [.pd (rFiles s t (Qc s t) (QaC s (Qc s t) (Qc s t).length)),dB true]:=by
  unfold Qcq QbH;rw[if_pos hs'.1,if_pos hrl.1,hrl.2]
 rw[hin] at cI;obtain⟨hx,hx16,_⟩:=Qiw hF.tab;have hm:=Qlg s (Qc s t);have cP:Pure A0 20 [.pd (rFiles s t (Qc s t) (QaC s (Qc s t) (Qc s t).length)),dS p] (dI (Qal s (Qc s t) p)):=by unfold Qal;exact bPath s t _ _ _ hm p hp
 by_cases hneg:Qal s (Qc s t) p<0
 ·have hL:Qaq s t p=([],false):=by
   unfold Qaq;rw[if_neg];intro h;obtain⟨q,j,h1,_,h2,_,h3⟩:=Qff h;rw[hpa,h1] at hneg;simp only at hneg;rw[h2] at hneg;exact absurd hneg (by simpa using h3)
  rw[hL];generalize Qal s (Qc s t) p=at_ at*;refine kE ?_;refine Qa 0 (h:=?_);refine Qa 1 (h:=?_)
  repeat' first|refine kA ?_|refine kV ?_ ?_<;>intro q|fail
  all_goals first
   |(exfalso;simp at*;omega)
   |(refine Qd7 6 true 2 (h:=?_)
     exact Qb (hx:=rfl))
 obtain⟨k,hk⟩:=A5 (show 0<=Qal s (Qc s t) p by omega)
 have hL:Qaq s t p=Qf s ((Qm (Qc s t)).getD k Qd):=by
  have hf:QaA s t p=(((k:Nat):Int),true):=by
   rw[hk] at hpa;unfold QaA;cases h1:Qz p with
   |none=>rw[h1] at hpa;simp only at hpa;omega
   |some q=>
    rw[h1] at hpa;simp only at hpa⊢;rw[if_pos hs];cases h2:Qah s (Qe s t) 0 q with
    |none=>rw[h2] at hpa;simp only[Option.getD_none] at hpa;omega
    |some j=>rw[h2] at hpa;simp only[Option.getD_some] at hpa;simp only;rw[hpa]
  unfold Qaq;rw[hf];rfl
 rw[hk] at cP;have cK:=QsZ s t (Qc s t) hx hx16 (QaC s (Qc s t) (Qc s t).length) k;obtain⟨_,hgt⟩:=hm (k:Nat) (by omega);have hen:Qav s (Qc s t) (k:Nat)=(Qf s ((Qm (Qc s t)).getD k Qd)).1:=by unfold Qav;rw[A4]
 have hel:=Qed s ((Qm (Qc s t)).getD k Qd);rw[hL];cases hkd:(((Qm (Qc s t)).getD k Qd).kind==2)
 ·have he:Qf s ((Qm (Qc s t)).getD k Qd)=([],false):=by
   rcases Qd0 s ((Qm (Qc s t)).getD k Qd) with h|h
   ·rw[QeD h.1] at hkd;cases hkd
   ·exact h
  rw[he];rw[hkd] at cK;refine kE ?_;refine Qa 0 (h:=?_);refine Qa 1 (h:=?_)
  repeat refine kA ?_
  all_goals first
   |(exfalso;simp at*;omega)
   |(refine Qd7 6 true 2 (h:=?_)
     exact Qb (hx:=rfl))
 ·have h2:(Qf s ((Qm (Qc s t)).getD k Qd)).2=true:=hF.dir k (eq_of_beq hkd)
  rw[hkd] at cK;rw[hen] at hgt;have cC:=bCloneE _ (show(Qf s ((Qm (Qc s t)).getD k Qd)).1.length<=1000 by omega);generalize Qf s ((Qm (Qc s t)).getD k Qd)=es at*;obtain⟨es,ok⟩:=es;simp only at h2 hgt cC hel⊢;subst h2
  have hg:mget (QaC s (Qc s t) (Qc s t).length) (k:Nat)=some (.sl true 2 (es.map rEnt))∨mget (QaC s (Qc s t) (Qc s t).length) (k:Nat)=none/\es.map rEnt=[]:=by
   rcases hgt with h|⟨h1,h2⟩
   ·exact .inl h
   ·exact .inr ⟨h1,by rw[h2];rfl⟩
  refine kE ?_;refine Qa 0 (h:=?_);refine Qa 1 (h:=?_)
  repeat' first|refine kS ?_|refine qS (Qdq rfl) ?_|refine qS (Qfd Tryz.underlying72 Tryz.underlying3 (by kernel_rfl) rfl rfl hg) ?_|refine kU ?_|fail
  all_goals first|exact Qb (hx:=rfl)
def fsum_no{s:Pm.Store}{t:Pl.Tree}{p:List UInt8}{f:Qi->Int}(h:(Qab s t p f).2=false):(Qab s t p f).1=0:=by
 unfold Qab at*;split at h
 ·rfl
 ·split at h
  ·rename_i hs
   rw[if_pos hs];split at h
   ·rfl
   ·cases h
  ·rename_i hs
   rw[if_neg hs]
def Qp6{q:List (List UInt8)}{n:List UInt8}:(Qad (q++[n])).1.length<=20:=by
 cases h:(Qad (q++[n])).2
 ·unfold Qad at*
  split at h
  ·cases h
  ·rename_i h2;rw[if_neg h2];simp
 ·have:=Qil h
  rcases AB 20 (Qad (q++[n])).1.length with hl|hl
  ·rw[Qgd hl] at this;cases this
  ·exact hl
def Qry(s:Pm.Store)(hl:Qch s)(t:Pl.Tree)(p:List UInt8)(hp:p.length<=12)(h:(Qaq s t p).2=true):
 ∃(J:Ql->List UInt8×Bool) (u:Ql->Int) (v:Ql->Bool) (A:List Pl.Ptr) (U j:Int) (ids wk:List (List D)) (n:Qi) (b:Bool),
  A.length<=21/\(∀e,0<=u e/\u e<=336)/\ids.length<=16/\wk.length<=144/\(Qaq s t p).1.length<=12/\(∀e∈(Qaq s t p).1,(J e).2=true->v e=true)/\
  ((∀e∈(Qaq s t p).1,(J e).2=true)->wk.length=ids.length->U=(A.length:Nat)+((Qaq s t p).1.map u).sum)/\
  Pure A0 8 [dSt s,dTree t] (.tup [.sl true 1 ids,dB true])/\
  Pure A0 9 [dSt s,dTree t] (.tup [.sl true 2 wk,dB true])/\
  Pure A0 10 [dSt s,dTree t,dS p] (.tup [dI j,dB true])/\
  Pure A0 11 [dSt s,dTree t,dI j] (.tup [dNode n,dB b])/\
  Pure A0 12 [dSt s,dTree n.tree] (.tup [tPtrs A,dB true])/\
  (∀e∈(Qaq s t p).1,Pure A0 13 [dS p,dS e.1] (.tup [dS (J e).1,dB (J e).2]))/\
  (∀e,Pure A0 14 [dSt s,dTree t,dS (J e).1] (.tup [dI (u e),dB (v e)]))/\
  Pure A0 14 [dSt s,dTree t,dS p] (.tup [dI U,dB true]):=by
 have hf:(QaA s t p).2=true:=by
  unfold Qaq at h;split at h
  ·assumption
  ·cases h
 obtain⟨q,j,hq,hs,hj,hfe,hj0⟩:=Qff hf;obtain⟨k,rfl⟩:=A5 hj0
 have hL:Qaq s t p=Qf s ((Qe s t).getD k Qd):=by
  unfold Qaq;rw[hfe];simp
 rw[hL] at h⊢;obtain⟨u1,u2,u3⟩:=QqM (Qag s) hq hs hj;rw[A4] at u2 u3;obtain⟨k1,k2,k3,h4,h5⟩:=QqN u1;obtain⟨hg,htx⟩:QM s/\0<=s.2.2.1:=⟨Qd5 h4,Qey h4⟩;have hF:=(Qfa s t).1 h5;have hOk:=h5;unfold Qaf at hOk;simp only[A1,beq_iff_eq] at hOk;obtain⟨L,g1,g2,g3⟩:=Qg7 s hF.root hOk.1.2;obtain⟨htt,hts⟩:=QmU hF.tab;obtain⟨hx,hx16,_⟩:=Qiw hF.tab;have hN:=QuG s t;have hNb:=Qvn s hts (Qc s t).length (A8 _);rw[List.take_length] at hNb
 have hub: ∀path,0<=(Qab s t path (Qag s)).1/\(Qab s t path (Qag s)).1<=336:=fun path=>by
  cases h2:(Qab s t path (Qag s)).2
  ·rw[fsum_no h2];decide
  ·obtain⟨_,g2,g3,_,_⟩:=QqN h2
   exact⟨g2,by omega⟩
 have hkd:Qo (Qm (Qc s t)) k≠0:=by
  have:=QeD h;show((Qe s t).getD k Qd).kind.toNat≠0;rw[this];decide
 have hat:(Qcv (Qc s t) (k:Nat)).1=(Qe s t).getD k Qd:=by
  rw[Qpb hx,if_neg hkd];rfl
 have htr:Q8 s ((Qe s t).getD k Qd).tree=true:=by
  unfold Qf at h;split at h
  ·rename_i h2;simp only[A1] at h2;exact h2.1.1.2
  ·cases h
 have cS:=Qll s hl.b1 hl.b2 hl.b3 hl.b4;have cI:=Qln s t cS (fun h=>⟨Qd5 h,Qey h⟩) fun h=>bText s (Qd5 h) (Qey h) (QhM s)
 have hrl:=Qgn s t;rw[h5,A1] at hrl
 have hin:Qcq s t= .tup [.pd (rFiles s t (Qc s t) (QaC s (Qc s t) (Qc s t).length)),dB true]:=by
  unfold Qcq QbH;rw[if_pos h4,if_pos hrl.1,hrl.2]
 rw[hin] at cI;rw[h4] at cS;have hm:=Qlg s (Qc s t);have cT:=bTable s cS hg htx t hF.tab;have hpa:Qal s (Qc s t) p=(k:Nat):=by rw[QiQ,hq];simp only;rw[hj];rfl
 have cF:=Qqy s t (Qc s t) _ hm cI p (by omega) k hpa;have cG:=QsV s t (Qc s t) hx16 cT (k:Nat);have cA:=Quy s cS hg htx ((Qe s t).getD k Qd).tree htr;have cW:=Qqv s t (Qc s t) _ hm cI L g1 g2;have cL:=Qqm s t (Qc s t) hx16 hx cT;have hil:=QrY (Qc s t) (Qc s t).length;rw[hat] at cG;have hel:=Qed s ((Qe s t).getD k Qd)
 refine⟨fun e=>Qad (q++[e.1]),fun e=>(Qab s t (Qad (q++[e.1])).1 (Qag s)).1,fun e=>(Qab s t (Qad (q++[e.1])).1 (Qag s)).2,QP s ((Qe s t).getD k Qd).tree,(Qab s t p (Qag s)).1,(k:Nat),(Qcr (Qc s t) (Qc s t).length).map fun k=>[dI (k:Nat)],L.map rFd,(Qe s t).getD k Qd,(Qcv (Qc s t) (k:Nat)).2,
  Qfh (Qdu htr).hi,fun e=>hub _,by rw[A2];omega,by rw[A2];omega,hel,u2,fun hf hw=>?_,cL,cW,cF,cG,cA,fun e he=>QsW p e.1 ?_ q hq,fun e=>Qm5 s hl t (Qad (q++[e.1])).1 (by have:=Qp6 (q:=q) (n:=e.1);omega),?_⟩
 ·rw[A2,A2] at hw
  refine u3 h hf ?_;rw[g3,A2,hw];unfold QcC Qcr Qe;rw[A2]
 ·have:=(Qit s _ e he).1
  have:=QdQ this;omega
 ·have:=Qm5 s hl t p (by omega)
  rw[u1] at this;exact this

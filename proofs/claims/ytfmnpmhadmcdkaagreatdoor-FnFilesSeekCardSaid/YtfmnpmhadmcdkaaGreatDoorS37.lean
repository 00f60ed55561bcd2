/- Of fsk_card; no condition. -/
import Derived.Test.YtfmnpmhadmcdkaaGreatDoorS35
set_option linter.all false
set_option maxRecDepth 100000
set_option maxHeartbeats 16000000
open Bool renaming and_eq_true->A2
open Go.Lib renaming contains->A3,occAt->AA,NoOcc->AP
open Go.Proofs.Tryz renaming prog->A0
open Int renaming toNat_natCast->AG
open List renaming getElem?_eq_some_iff->A1,length_map->A4,getElem?_eq_getElem->A5,length_append->A6,mem_singleton->A7,take_of_length_le->A8,mem_flatMap->A9,mem_of_getElem?->AB,mem_range->AE,pairwise_iff_getElem->AF,map_append->AH,getElem?_of_mem->AI,mem_append_left->AJ,mem_map->AM,take_add_one->AN,append_assoc->AO,length_take->AQ,take_length->AR,not_mem_nil->AS,take_zero->AU,mem_cons->AW,map_cons->AX
open Nat renaming zero_add->AD,lt_trichotomy->AL,zero_le->AT
open Option renaming toList_some->AK
open Option.some renaming inj->AC
namespace Go.Proofs.YtfmnpmhadmcdkaaGreatDoor
noncomputable section
section
open Go.RowKit
namespace Aw
variable{k:Nat}{x:List (List UInt8)}{t:List UInt8}
attribute [local irreducible] ASeq ADraw AWP Loc mget mset AStep Fg.PlanF Fg.Flts
def bFlatOf(s:Pm.Store)(hl:QbQ s)(t:Pl.Tree):
 Pure A0 15 [dSt s,dTree t] (if Qaa s&&Qae s t then .tup [dFlat (Qbf s t),dB true] else .tup [dFlat ([],[]),dB false]):=by
 have hg:Qaa s=true->QP s/\0<=s.2.2.1:=fun h=>⟨QdW h,Qe6 h⟩
 have hTx:Qaa s=true->QcB s:=fun h n hn _=>(bTextA s (hg h).1 (hg h).2 n hn).imp fun S w v hv=>by
  cases hv with
  |tup _ cs hl hr=>
   refine .tup _ cs hl fun i d x hd hx=>?_
   match i,hd with
   |0,hd=>obtain rfl:=AC hd;exact .any _
   |1,hd=>obtain rfl:=AC hd;exact hr 1 _ x rfl hx
 have c1:=Qob s t (Qk2 s hl.b1 hl.b2 hl.b3 hl.b4) hg hTx;have hlk:=QhD s t
 by_cases hok:(Qaa s&&Qae s t)=true
 rotate_left
 ·rw[if_neg hok]
  obtain⟨a,ha⟩: ∃a,Qc4 s t= .tup [a,dB false]:=by
   unfold Qc4 QbT;split
   ·split
    ·rename_i h1 h2
     rw[h1,<-hlk,h2] at hok;exact⟨_,by rw[show Qcp s (Qc s t)=false by simpa using hok]⟩
    ·exact⟨_,rfl⟩
   ·exact⟨_,rfl⟩
  rw[ha] at c1;refine Pure.imp (x:= .tup [.agg [.v (.slice none 0 0),.v (.slice none 0 0)],dB false]) ?_ fun _ _ _=>RelD.nilFlat2
  refine kD ?_;refine Qa 0 (h:=?_);refine Qa 1 (h:=?_)
  repeat refine kA ?_
  (refine Qa 2 (h:=?_);refine QR (hx:=?_))
  rfl
 ·rw[if_pos hok]
  rw[A2] at hok;obtain⟨h1,h2⟩:=hok;have hF:=(QeI s t).1 h2;obtain⟨L,hL,hll,hfd⟩:=Qez h2;rw[QdU hfd];rw[h2,A2] at hlk
  have hin:Qc4 s t= .tup [.pd (rFiles s t (Qc s t) (QaK s (Qc s t) (Qc s t).length)),dB true]:=by
   unfold Qc4 QbT;rw[if_pos h1,if_pos hlk.1,hlk.2]
  rw[hin] at c1;obtain⟨htx,hx16,hno⟩:=Qg8 hF.tab;have c2:=bFlat s (hg h1).1 (hg h1).2 t (Qc s t) htx hx16 hno _ (QmT s (Qc s t)) L hL hll;clear hin h1 h2 hF hL hll hfd hlk htx hx16 hno hg;generalize QaN s (Qc s t) (Qc s t).length=th at*;generalize QaK s (Qc s t) (Qc s t).length=m at*;generalize Qc s t=x at*;refine kD ?_;refine Qa 0 (h:=?_);refine Qa 1 (h:=?_)
  repeat refine kA ?_
  (refine Qa 2 (h:=?_);refine QR (hx:=?_))
  rfl
def bIsNaN(a:Int):Pure A0 170 [dI a] (dB false):=by
 refine kB ?_
 repeat refine kA ?_
 exact Qb (hx:=by simp)
def Qcf(a b:Int):Int:=if a<b then -1 else if b<a then 1 else 0
def bCmpInt(a b:Int):Pure A0 101 [dI a,dI b] (dI (Qcf a b)):=by
 have hd:Hid (Qcf a b=if a<b then -1 else if b<a then 1 else 0):=Pm.hid rfl;generalize Qcf a b=r at*;refine kB ?_
 repeat' first|refine kS ?_|refine qS (Qdh cK (bIsNaN _) rfl) ?_|refine kU ?_|refine kV ?_ ?_<;>intro q|fail
 all_goals first
  |(exfalso;simp at*;done)
  |(refine Qb (hx:=?_)
    rw[hd.out];simp only[decide_eq_true_eq,decide_eq_false_iff_not] at*
    first
     |rw[if_pos (by assumption)]
     |(rw[if_neg (by assumption),if_pos (by omega)];done)
     |(rw[if_neg (by assumption),if_neg (by omega)];done))
def bThing1(x:Qb7)(k:Int):Pure A0 100 [.agg (rTh x),dI k] (dI (Qcf x.1 k)):=by
 have c:=bCmpInt x.1 k;generalize Qcf x.1 k=r at*;refine kE ?_;refine Qa 0 (h:=?_)
 repeat refine kA ?_
 exact Qb (hx:=rfl)
def QcJ(T:List Qb7):Prop:=T.Pairwise fun a b=>a.1<b.1
def Qnl{T:List Qb7}(h:QcJ T){i j:Nat}(hi:i<T.length)(hj:j<T.length)(hij:i<j):T[i].1<T[j].1:=AF.1 h i j hi hj hij
theorem QrN(T:List Qb7)(ha:QcJ T)(hl:T.length<=1000)(i:Nat)(x:Qb7)(hx:T[i]? =some x):
 PureF A0 99 [.d (.sl true 3 (T.map rTh)),.d (dI (x.1:Nat)),.fn (.func 100) []] (.tup [dI i,dB true]):=by
 have hi:i<T.length:=(A1.1 hx).1;have hxi:T[i]=x:=(A1.1 hx).2;have hTl:(T.map rTh).length=T.length:=A4 ..
 have hc:Hid (∀j y,T[j]? =some y->(j<i->Qcf y.1 x.1= -1)/\(j=i->Qcf y.1 x.1=0)/\(i<j->Qcf y.1 x.1=1)):=Pm.hid fun j y hy=>by
  have hj:j<T.length:=(A1.1 hy).1;have hyj:T[j]=y:=(A1.1 hy).2;unfold Qcf;refine⟨fun h=>?_,fun h=>?_,fun h=>?_⟩
  ·have:=Qnl ha hj hi h
   rw[hxi,hyj] at this;rw[if_pos (by omega)]
  ·subst h
   rw[hyj] at hxi;subst hxi;rw[if_neg (by omega),if_neg (by omega)]
  ·have:=Qnl ha hi hj h
   rw[hxi,hyj] at this;rw[if_neg (by omega),if_pos (by omega)]
 replace ha:=Pm.hid ha
 clear hxi;refine kF ?_
 repeat refine kA ?_
 refine Qo (fun m st=> ∃a b:Nat,a<=i/\i<=b/\b<=T.length/\m=b -a/\
  st=⟨49,[(9,.d (dI a)),(10,.d (dI b)),(8,.d (dI T.length)),(0,.d (.sl true 3 (T.map rTh))),(1,.d (dI (x.1:Nat))),(2,.fn (.func 100) [])],[]⟩) [9,10,8,0,1,2] 0 T.length ⟨0,T.length,by omega,by omega,by omega,by omega,by simp[keepE,go_sem]⟩ (round:=?_)
 rintro m st ⟨a,b,hai,hib,hb,rfl,rfl⟩
 repeat refine kG ?_
 by_cases q3:a<b
 rotate_left
 ·have e:a=i:=by omega
  subst e;have hr:=Qt (f:=rTh) hx;have c:=bThing1 x (x.1:Nat);rw[(hc.out _ x hx).2.1 rfl] at c;clear hx hc
  repeat' first|refine kS ?_|refine qS (iy hr) ?_|refine qS (Qek cK c rfl rfl) ?_|refine kU ?_|refine kV ?_ ?_<;>intro q|fail
  all_goals first|exfalso;simp only[decide_eq_true_eq,decide_eq_false_iff_not] at*;omega|refine QR (hx:=?_);rfl
 have hm:(a+b)/2<T.length:=by omega
 obtain⟨y,hy⟩: ∃y,T[(a+b)/2]? =some y:=⟨_,A5 hm⟩;have hr:=Qt (f:=rTh) hy;have c:=bThing1 y (x.1:Nat);have h3:=Pm.hid (hc.out _ y hy);generalize hmv:(a+b)/2=mm at*;have hmi:(((a:Int)+b)/2)=(mm:Int):=by omega
 clear hx hy hc;generalize Qcf y.1 x.1=r at*
 repeat' first|refine kS ?_|refine qS (QdJ (D1:= .int .i64) (k':= .u64) (m:=(a:Int)+b) (by kernel_rfl) (by kernel_rfl) rfl rfl (by rw[IntKind.wrap_u64];omega)) ?_|refine qS (QsM rfl rfl (by omega)) ?_|refine qS (QdJ (D1:= .int .u64) (k':= .i64) (m:=(mm:Int)) (by kernel_rfl) (by kernel_rfl) rfl rfl (by rw[hmi,IntKind.wrap_i64];omega)) ?_|refine qS (iy hr) ?_|refine qS (Qek cK c rfl rfl) ?_|refine kU ?_|refine kV ?_ ?_<;>intro q|fail
 all_goals first
  |(exfalso;simp only[decide_eq_true_eq,decide_eq_false_iff_not] at*;omega)
  |(have hlt:mm<i:=by
     rcases AL mm i with h|h|h
     ·exact h
     ·have:=h3.out.2.1 h;simp only[decide_eq_true_eq] at*;omega
     ·have:=h3.out.2.2 h;simp only[decide_eq_true_eq] at*;omega
    exact Qh (b -(mm+1)) (by omega) ⟨mm+1,b,by omega,by omega,hb,rfl,by simp[keepE,go_sem]⟩)
  |(have hge:i<=mm:=by
     rcases Nat.lt_or_ge mm i with h|h
     ·have:=h3.out.1 h;simp only[decide_eq_false_iff_not] at*;omega
     ·exact h
    exact Qh (mm -a) (by omega) ⟨a,mm,by omega,by omega,by omega,rfl,by simp[keepE,go_sem]⟩)
def bThing(N:List (List D))(T:List Qb7)(ha:QcJ T)(hl:T.length<=1000)(x:Qb7)(hx:x∈T):Pure A0 48 [.pd [.sl true 2 N,.sl true 3 (T.map rTh)],dI (x.1:Nat)] (.pd (rTh x)):=by
 obtain⟨i,hi⟩:=AI hx;have hr:=Qt (f:=rTh) hi;have c:=QrN T ha hl i x hi;clear hi ha;refine kB ?_
 repeat' first|refine kS ?_|refine qS (Qdi rfl) ?_|refine qS (Qeq cK c rfl rfl) ?_|refine qS (iy hr) ?_|refine kU ?_|fail
 all_goals first|exact Qb (hx:=rfl)|exfalso;simp at*;done
def QbW(T:List Qb7)(k:Nat):Qb7:=(T.find? fun x=>x.1==k).getD (0,false,[])
structure Qc7(F:List Gr.It×List Qb7):Prop where
 asc:F.2.Pairwise fun a b=>a.1<b.1
 has: ∀n∈F.1,∃x∈F.2,x.1=n.2
 nl:F.1.length<=144
 tl:F.2.length<=16
theorem Qnk{F:List Gr.It×List Qb7}(h:Qc7 F){n:Gr.It}(hn:n∈F.1):QbW F.2 n.2∈F.2/\(QbW F.2 n.2).1=n.2:=by
 obtain⟨x,hx,hxn⟩:=h.has n hn;unfold QbW;cases hf:F.2.find? fun x=>x.1==n.2 with
 |none=>grind
 |some y=>grind
def QaE(F:List Gr.It×List Qb7)(h:Qb7->Bool)(l:List Gr.It):List (List UInt8):=(l.filter fun n=> !(QbW F.2 n.2).2.1&&h (QbW F.2 n.2)).map fun n=>QC n.1
theorem Qjg(F:List Gr.It×List Qb7)(h:Qb7->Bool)(l:List Gr.It)(n:Gr.It):QaE F h (l++[n])=QaE F h l++if(!(QbW F.2 n.2).2.1&&h (QbW F.2 n.2))=true then [QC n.1] else []:=by grind [QaE]
theorem Qid(F:List Gr.It×List Qb7)(h:Qb7->Bool)(l:List Gr.It):(QaE F h l).length<=l.length:=by grind [QaE]
theorem Qsa(N:List (List D))(T:List Qb7)(hl:T.length<=1000)(x:Qb7)(hx:x∈T)(ha:T.Pairwise fun a b=>a.1<b.1)(i:Nat)(hi:T[i]? =some x):Pure A0 52 [.agg [.sl true 2 N,.sl true 3 (T.map rTh)],dI (x.1:Nat)] (dI i):=by
 have hil:i<T.length:=(A1.1 hi).1;have hix:T[i]=x:=(A1.1 hi).2;have hTl:(T.map rTh).length=T.length:=A4 ..
 have hne:Hid (∀k y,T[k]? =some y->((y.1:Int)=x.1↔k=i)):=Pm.hid fun k y hy=>by
  have hk:k<T.length:=(A1.1 hy).1;have hky:T[k]=y:=(A1.1 hy).2;rw[AF] at ha;constructor
  ·intro e
   rcases AL k i with h|h|h
   ·have:=ha k i hk hil h;rw[hky,hix] at this;omega
   ·exact h
   ·have:=ha i k hil hk h;rw[hky,hix] at this;omega
  ·rintro rfl;rw[<-hky,hix]
 clear ha hx hix;refine kE ?_;refine Qa 0 (h:=?_)
 repeat refine kG ?_
 refine Qo (fun m st=> ∃k:Nat,k<=i/\m=i -k/\st=⟨22,[(5,.d (dI k)),(1,.d (dI (x.1:Nat))),(2,.d (.pd [.sl true 2 N,.sl true 3 (T.map rTh)]))],[]⟩) [5,1,2] 0 i ⟨0,by omega,rfl,by simp[keepE,go_sem]⟩ (round:=?_);rintro m st ⟨k,hk,rfl,rfl⟩;obtain⟨y,hy⟩: ∃y,T[k]? =some y:=⟨_,A5 (by omega)⟩;have hr:=Qt (f:=rTh) hy;have hiff:=Pm.hid (hne.out k y hy);clear hy hne
 repeat' first|refine kS ?_|refine qS (iy hr) ?_|refine kU ?_|refine kV ?_ ?_<;>intro q|fail
 all_goals first
  |(exfalso;simp only[decide_eq_true_eq,decide_eq_false_iff_not] at*;omega)
  |(have:k=i:=hiff.out.1 (by simpa using q)
    subst this
    exact Qb (hx:=rfl))
  |(have hki:k≠i:=fun e=>by have:=hiff.out.2 e;rw[this] at q;simp at q
    exact Qh (i -(k+1)) (by omega) ⟨k+1,by omega,rfl,by simp[keepE,go_sem]⟩)
def QrZ(N:List (List D))(T:List Qb7)(hl:T.length<=1000)(x:Qb7)(hx:x∈T)(ha:T.Pairwise fun a b=>a.1<b.1):Pure A0 26 [.agg [.sl true 2 N,.sl true 3 (T.map rTh)],dI (x.1:Nat)] (.agg (rTh x)):=by
 obtain⟨i,hi⟩:=AI hx;have c:=Qsa N T hl x hx ha i hi;have hr:=Qt (f:=rTh) hi;have hil:i<T.length:=(A1.1 hi).1;clear hi ha hx;refine kD ?_;refine Qa 0 (h:=?_)
 repeat' first|refine kS ?_|refine qS (iy hr) ?_|refine kU ?_|fail
 (refine Qa 1 (h:=?_);refine QR (hx:=?_))
 rfl
def aFlatOf(s:Pm.Store)(hl:QbQ s)(t:Pl.Tree):Pure A0 25 [dSt s,dTree t] (if Qaa s&&Qae s t then .tup [dFlat (Qbf s t),dB true] else .tup [dFlat ([],[]),dB false]):=by
 have c1:=Qoo s hl.b1 hl.b2 hl.b3 hl.b4;cases h:Qaa s
 ·rw[h] at c1
  rw[if_neg (by simp)];refine Pure.imp (x:= .tup [.agg [.v (.slice none 0 0),.v (.slice none 0 0)],dB false]) ?_ fun _ _ _=>RelD.nilFlat2
  refine kD ?_;refine Qa 0 (h:=?_);refine Qa 1 (h:=?_)
  repeat refine kA ?_
  (refine Qa 2 (h:=?_);refine QR (hx:=?_))
  rfl
 ·rw[h] at c1
  rw[Bool.true_and];have c2:=al17Of s (QdW h) t;obtain⟨F,b,hFb⟩: ∃F b,(if Qae s t then D.tup [dFlat (Qbf s t),dB true] else .tup [dFlat ([],[]),dB false])= .tup [dFlat F,dB b]:=by split<;>exact⟨_,_,rfl⟩
  rw[hFb] at c2⊢;clear hFb h;refine kD ?_;refine Qa 0 (h:=?_);refine Qa 1 (h:=?_)
  repeat refine kA ?_
  (refine Qa 2 (h:=?_);refine QR (hx:=?_))
  rfl
theorem QpD{s:Pm.Store}: ∀y∈QbL s x k,y.1=k:=by grind [QbL]
theorem ths_lt{s:Pm.Store}{n:Nat}: ∀y∈QaN s x n,y.1<n:=by
 intro y hy
 grind [QaN,QpD]
theorem QpC(s:Pm.Store)(x:List (List UInt8)): ∀n,(QaN s x n).Pairwise fun a b=>a.1<b.1
 |0=> .nil
 |n+1=>by
  rw[QhI,List.pairwise_append];refine⟨QpC s x n,?_,fun a ha b hb=>by rw[QpD b hb];exact ths_lt a ha⟩;unfold QbL;split
  ·exact .nil
  grind
theorem flatB{s:Pm.Store}{t:Pl.Tree}(h:Qae s t=true):Qc7 (Qbf s t):=by
 obtain⟨L,hL,hll,hfd⟩:=Qez h;have hF:=(QeI s t).1 h;obtain⟨htx,hx16,_⟩:=Qg8 hF.tab;rw[QdU hfd];refine⟨QpC _ _ _,fun n hn=>?_,hll,by grind [Qme]⟩
 have hk:Qs (Qu (Qc s t)) n.2≠0:=by
  rcases hL.fd.kinds n.2 (AM.2 ⟨n,hn,rfl⟩) with h|⟨h,_⟩<;>rw[h]<;>decide
 have hlt:=QdO hk;rw[A4] at hlt;refine⟨(n.2,((Qu (Qc s t)).getD n.2 Qd).kind==2,Qad s ((Qu (Qc s t)).getD n.2 Qd)),?_,rfl⟩;refine A9.2 ⟨n.2,AE.2 hlt,?_⟩
 grind [QbL]
theorem thAt_is{s:Pm.Store}(hk:k<x.length)(h0:Qs (Qu x) k≠0):QbW (QaN s x x.length) k=(k,((Qu x).getD k Qd).kind==2,Qad s ((Qu x).getD k Qd)):=by
 have hm:(k,((Qu x).getD k Qd).kind==2,Qad s ((Qu x).getD k Qd))∈QaN s x x.length:=A9.2 ⟨k,AE.2 hk,by grind [QbL]⟩;unfold QbW;cases hf:(QaN s x x.length).find? fun y=>y.1==k with
 |none=>grind
 |some y=>
  have h1:=List.mem_of_find?_eq_some hf;have h2:y.1=k:=by grind
  obtain⟨j,_,hy⟩:=A9.1 h1
  grind [QbL]
def QrR(s t:List UInt8)(hs:s.length<=1000000):Pure A0 24 [dS s,dS t] (dB (A3 s t)):=
 Qdv (vs:=[.string ⟨s.toArray⟩,.string ⟨t.toArray⟩]) rfl fun w hL=>by
  obtain⟨m,hm⟩:=hL.maxl;exact(Tryz.strings_Contains ⟨s.toArray⟩ ⟨t.toArray⟩ m w (by rw[Pm.QhF];omega) hm).mono fun e w' h=>⟨h.1,h.2▸Below.refl _ _⟩
def occ_eq{s:List UInt8}:(((s.take (k+t.length)).drop k)==t)=AA s t k:=by
 rw[List.drop_take,Nat.add_sub_cancel_left,Bool.eq_iff_iff,beq_iff_eq];unfold AA;rw[List.isPrefixOf_iff_prefix,List.prefix_iff_eq_take];exact eq_comm
theorem QqK{s:List UInt8}(h:AP s t k)(hk:s.length<k+t.length):A3 s t=false:=by
 unfold A3
 by_cases ht:t=[]
 ·subst ht
  have h0:=h 0 (by simp at hk;omega);unfold AA at h0;simp at h0
 ·rw[Lib.index_past ht h hk];rfl
def QqJ{s:List UInt8}(h:AP s t k)(hk:k+t.length<=s.length)(ho:AA s t k=true):A3 s t=true:=by
 unfold A3;rw[Lib.index_hit h (by omega) ho];exact decide_eq_true (Int.natCast_nonneg k)
theorem al33Has(s t:List UInt8)(hs:s.length<=1000000)(ht:t.length<=1000000000):Pure A0 27 [dS s,dS t] (dB (A3 s t)):=by
 obtain⟨r,hr⟩: ∃r,A3 s t=r:=⟨_,rfl⟩;rw[hr];refine kB ?_
 repeat refine kA ?_
 refine Qo (fun m st=> ∃k:Nat,k<=s.length+1/\m=s.length+1 -k/\Hid (AP s t k)/\st=⟨24,[(5,.d (dI k)),(0,.d (dS s)),(1,.d (dS t))],[]⟩) [5,0,1] 0 (s.length+1) ⟨0,by omega,rfl,Pm.hid (Lib.NoOcc.zero s t),by simp[keepE,go_sem]⟩ (round:=?_);rintro m st ⟨k,hk,rfl,hA,rfl⟩
 by_cases hle:k+t.length<=s.length
 rotate_left
 ·have hf:=QqK hA.out (by omega)
  rw[hr] at hf;subst hf;clear hA hr
  repeat' first|refine kA ?_|refine kV ?_ ?_<;>intro q|fail
  all_goals first|exact Qb (hx:=rfl)|exfalso;simp at*;omega
 have hy:=Pm.hid fun ho=>QqJ hA.out hle ho
 have hn:=Pm.hid fun ho=>Lib.NoOcc.succ hA.out (i:=k) ho
 have ho:Hid (((s.take ((k:Int)+(t.length:Int)).toNat).drop (k:Int).toNat==t)=AA s t k):=Pm.hid (by
  rw[<-Int.natCast_add,AG,AG];exact occ_eq)
 rw[hr] at hy;clear hA hr;generalize AA s t k=b at*
 repeat' first|refine kS ?_|refine qS (Qe5 rfl rfl rfl rfl (by omega) (by omega) (by omega)) ?_|refine kU ?_|refine kV ?_ ?_<;>intro q|fail
 all_goals first|exfalso;simp at*;done|exfalso;simp at*;omega|exact Qh (s.length+1 -(k+1)) (by omega) ⟨k+1,by omega,rfl,Pm.hid (hn.out (ho.out.symm.trans q)),by simp[keepE,go_sem]⟩|refine Qb (hx:=?_);rw[hy.out (ho.out.symm.trans q)]
def Qto(s:List UInt8)(n:Int):(Qa1 s n).1.length<=12:=by
 unfold Qa1;split
 ·rename_i h
  unfold Pl.inR at h;simp only[A2,decide_eq_true_eq] at h;simp only[A6,List.length_replicate];omega
 ·exact AT _
def Qjm(size:Int)(x:List (List UInt8)): ∀n,(QaJ size x n).length<=12*n
 |0=>by simp[QaJ]
 |n+1=>by
  rw[Qfr,A6];have:=Qjm size x n;have:=Qto (x.getD n []) (Qa7 size n);omega
def QqP(s:Pm.Store)(n:Qj):(Qad s n).length<=192:=by
 unfold Qad;split
 ·rename_i h
  unfold QO at h;simp only[A2] at h;have:=Qd9 h.1.2;have:=Qjm n.size ((QD s n.tree).1.map fun p=>(Qf s.1 p).1) (QD s n.tree).1.length;omega
 ·exact AT _
def Qsr{s:Pm.Store}{n:Nat}: ∀y∈QaN s x n,y.2.2.length<=192:=by
 intro y hy;unfold QaN at hy;obtain⟨k,hk,hy⟩:=A9.1 hy;unfold QbL at hy;split at hy
 ·cases hy
 ·rw[A7.1 hy];exact QqP ..
def Qbd(X:List UInt8)(x:Qb7):Bool:=A3 x.2.2 X
def bSeek1(N:List (List D))(T:List Qb7)(X:List UInt8)(x:Qb7)(hx:x.2.2.length<=192):Pure A0 23 [.agg [.sl true 2 N,.sl true 3 (T.map rTh)],.agg (rTh x),.pd [dS X]] (dB (Qbd X x)):=by
 have c:=QrR x.2.2 X (by omega);have hd:Hid (Qbd X x=A3 x.2.2 X):=Pm.hid rfl;obtain⟨i,a,u⟩:=x;simp only at c hd;rw[<-hd.out] at c;generalize Qbd X (i,a,u)=r at*;simp only[rTh] at*;refine kE ?_;refine Qa 0 (h:=?_);refine Qa 1 (h:=?_)
 repeat refine kA ?_
 exact Qb (hx:=rfl)
def QrL(s:Pm.Store)(t:Pl.Tree)(f:FuncId)(cap:D)(c:Pure A0 15 [dSt s,dTree t] (.tup [dFlat ([],[]),dB false])):
 Does A0 22 [.d (dSt s),.d (dTree t),.fn (.func f) [.d cap]] [] [] (.tup [.osl 3 0 0 0,.d (dB false)]) [.row 1 [],.row 1 [],.row 1 [],.arr 0 1 9 []]:=by
 refine kL ?hpin fun gvs=>?_
 case hpin=>intro i C hC;simp at hC
 simp only[parA,gslot,AD,Nat.reduceAdd];refine kR ?_;refine Qa 0 (h:=?_);refine Qa 1 (h:=?_)
 repeat refine kA ?_
 refine Qa 2 (h:=?_);refine QeR 6 1 9 (h:=?_);refine Qee [6,7,1000000] 4 (H':=[.row 1 [],.row 1 [],.row 1 [],.arr 0 1 9 []]) (hH:=fun R hR=>hR) (h:=?_);exact QdB (hx:=rfl) (hH:=rfl)
def Qpf(s:Pm.Store)(t:Pl.Tree)(Ns:List Gr.It)(T:List Qb7)(hF:Qc7 (Ns,T))(c:Pure A0 15 [dSt s,dTree t] (.tup [dFlat (Ns,T),dB true]))(f:FuncId)(cap:D)(F:Qb7->Bool)
 (hf: ∀args w,(callFunc f args).run A0 w= .ok (.enter f args) w) (hc: ∀x∈T,Pure A0 f [dFlat (Ns,T),.agg (rTh x),cap] (dB (F x))):
 Does A0 22 [.d (dSt s),.d (dTree t),.fn (.func f) [.d cap]] [] [] (.tup [.osl 3 (QaE (Ns,T) F Ns).length 0 (QaE (Ns,T) F Ns).length,.d (dB true)])
  [.row 1 [],.row 1 [],.row 1 [],.arr (QaE (Ns,T) F Ns).length 1 9 ((QaE (Ns,T) F Ns).map fun s=>[dS s])]:=by
 have hnl:Ns.length<=144:=hF.nl;have htl:T.length<=16:=hF.tl
 replace hF:=Pm.hid hF
 have hw:=Pm.hid (Qid (Ns,T) F);have hws:=Pm.hid (Qjg (Ns,T) F);have hw0:QaE (Ns,T) F []=[]:=rfl;generalize QaE (Ns,T) F=W at*;simp only at hws;refine kL ?hpin fun gvs=>?_
 case hpin=>intro i C hC;simp at hC
 simp only[parA,gslot,AD,Nat.reduceAdd];refine kR ?_;refine Qa 0 (h:=?_);refine Qa 1 (h:=?_)
 repeat refine kA ?_
 all_goals first|exfalso;simp at*;done|skip
 refine Qa 2 (h:=?_);refine QeR 10 1 9 (h:=?_)
 refine Qo (fun m st=> ∃i:Nat,i<=Ns.length/\m=Ns.length -i/\st=⟨52,[(25,.d (dI i)),(23,.d (.sl true 2 (Ns.map rIt))),(24,.d (dI Ns.length)),(8,.d (.pd [.sl true 2 (Ns.map rIt),.sl true 3 (T.map rTh)])),(2,.fn (.func f) [.d cap]),(10,.osl 3 (W (Ns.take i)).length 0 (W (Ns.take i)).length),(1000000,.gh [] gvs)],
  [.row 1 [],.row 1 [],.row 1 [],.arr (W (Ns.take i)).length 1 9 ((W (Ns.take i)).map fun s=>[dS s])]⟩) [25,23,24,8,2,10,1000000] 4 Ns.length ⟨0,by omega,rfl,by rw[AU,hw0];simp[keepE,go_sem]⟩ (round:=?_)
 rintro m st ⟨i,hi,rfl,rfl⟩;have hwl:=hw.out (Ns.take i);rw[AQ] at hwl
 repeat refine kG ?_
 cases q3:decide ((i:Int)<(Ns.length:Int))
 ·have:i=Ns.length:=by simp at q3;omega
  rw[this,AR]
  repeat refine kA ?_
  refine Qee [6,7,1000000] 4 (H':=[.row 1 [],.row 1 [],.row 1 [],.arr (W Ns).length 1 9 ((W Ns).map fun s=>[dS s])]) (hH:=fun R hR=>hR) (h:=?_);exact QdB (hx:=rfl) (hH:=rfl)
 have hi2:i<Ns.length:=by simp at q3;omega
 obtain⟨n,hn⟩: ∃n,Ns[i]? =some n:=⟨_,A5 hi2⟩;have hr:=Qt (f:=rIt) hn;obtain⟨x,hx⟩: ∃x,QbW T n.2=x:=⟨_,rfl⟩;obtain⟨hxT,hx1⟩:=Qnk hF.out (n:=n) (AB hn);simp only[hx] at hxT hx1
 have c3:Pure A0 48 [.pd [.sl true 2 (Ns.map rIt),.sl true 3 (T.map rTh)],dI (n.2:Nat)] (.pd (rTh x)):=by
  rw[<-hx1];exact bThing (Ns.map rIt) T hF.out.asc (by omega) x hxT
 have hstep:Hid (W (Ns.take (i+1))=W (Ns.take i)++if(!x.2.1&&F x)=true then [QC n.1] else []):=Pm.hid (by
  rw[AN,hn,AK,hws.out,hx])
 have c4:=hc x hxT;clear hn hx1 hw hws hw0 hxT hx hc hF;generalize hW2:W (Ns.take (i+1))=W2 at*;generalize W (Ns.take i)=W1 at*;generalize F x=fx at*;obtain⟨np,nid⟩:=n;obtain⟨xi,xf,xt⟩:=x;simp only at c3 hstep;cases xf
 ·cases fx
  ·repeat' first|refine kS ?_|refine qS (iy hr) ?_|refine qD (Qdi rfl) ?_|refine qD (Qek hf c4 rfl rfl) ?_|refine kU ?_|fail
   all_goals first
    |(exfalso;simp at*;done)
    |(refine Qh (Ns.length -(i+1)) (by omega) ⟨i+1,by omega,rfl,?_⟩
      rw[hW2,hstep.out]
      simp[keepE,go_sem];done)
  ·repeat' first|refine kS ?_|refine qS (iy hr) ?_|refine qD (Qdi rfl) ?_|refine qD (Qek hf c4 rfl rfl) ?_|refine QV Ty.h rfl Ty.h (hb:=?_) (kk:=?_)|refine kU ?_|fail
   all_goals first
    |(exfalso;simp at*;done)
    |(show((W1.map fun s=>[dS s]).length+1)*16<=140737488355328
      rw[A4];omega)
    |(refine Qh (Ns.length -(i+1)) (by omega) ⟨i+1,by omega,rfl,?_⟩
      rw[hW2,hstep.out]
      simp[keepE,go_sem];done)
 ·repeat' first|refine kS ?_|refine qS (iy hr) ?_|refine qD (Qdi rfl) ?_|refine kU ?_|fail
  all_goals first
   |(exfalso;simp at*;done)
   |(refine Qh (Ns.length -(i+1)) (by omega) ⟨i+1,by omega,rfl,?_⟩
     rw[hW2,hstep.out]
     simp[keepE,go_sem];done)
def aSeekNo(s:Pm.Store)(t:Pl.Tree)(X:List UInt8)(c:Pure A0 25 [dSt s,dTree t] (.tup [dFlat ([],[]),dB false])):Pure A0 7 [dSt s,dTree t,dS X] (.tup [tStrs [],dB false]):=by
 refine kE ?_;refine Qa 0 (h:=?_);refine Qa 1 (h:=?_)
 repeat refine kA ?_
 (refine Qa 2 (h:=?_);refine Qb (hx:=?_))
 rfl
def QtJ(s:Pm.Store)(t:Pl.Tree)(X:List UInt8)(hX:X.length<=1000000000)(Ns:List Gr.It)(T:List Qb7)(hF:Qc7 (Ns,T))(hT: ∀y∈T,y.2.2.length<=192)(c:Pure A0 25 [dSt s,dTree t] (.tup [dFlat (Ns,T),dB true])):Pure A0 7 [dSt s,dTree t,dS X] (.tup [tStrs (QaE (Ns,T) (Qbd X) Ns),dB true]):=by
 have hnl:Ns.length<=144:=hF.nl;have htl:T.length<=16:=hF.tl
 replace hF:=Pm.hid hF
 have hw:=Pm.hid (Qid (Ns,T) (Qbd X));have hws:=Pm.hid (Qjg (Ns,T) (Qbd X));have hw0:QaE (Ns,T) (Qbd X) []=[]:=rfl;generalize QaE (Ns,T) (Qbd X)=W at*;simp only at hws;refine kE ?_;refine Qa 0 (h:=?_);refine Qa 1 (h:=?_)
 repeat refine kA ?_
 refine Qa 3 (h:=?_)
 refine Qo (fun m st=> ∃i:Nat,i<=Ns.length/\m=Ns.length -i/\st=⟨57,[(11,.d (dI i)),(9,.d (.pd [.sl true 2 (Ns.map rIt),.sl true 3 (T.map rTh)])),(2,.d (dS X)),(8,.osl 2 (W (Ns.take i)).length 0 (W (Ns.take i)).length)],
  [.row 1 [],.row 1 [],.arr (W (Ns.take i)).length 1 9 ((W (Ns.take i)).map fun s=>[dS s]),.row 1 []]⟩) [11,9,2,8] 4 Ns.length ⟨0,by omega,rfl,by rw[AU,hw0];simp[keepE,go_sem]⟩ (round:=?_)
 rintro m st ⟨i,hi,rfl,rfl⟩;have hwl:=hw.out (Ns.take i);rw[AQ] at hwl
 repeat refine kG ?_
 cases q3:decide ((i:Int)<(Ns.length:Int))
 ·have:i=Ns.length:=by simp at q3;omega
  rw[this,AR]
  repeat refine kA ?_
  (refine Qa 2 (h:=?_);refine Qb (hx:=?_))
  simp[A8]
 have hi2:i<Ns.length:=by simp at q3;omega
 obtain⟨n,hn⟩: ∃n,Ns[i]? =some n:=⟨_,A5 hi2⟩;have hr:=Qt (f:=rIt) hn;obtain⟨x,hx⟩: ∃x,QbW T n.2=x:=⟨_,rfl⟩;obtain⟨hxT,hx1⟩:=Qnk hF.out (n:=n) (AB hn);simp only[hx] at hxT hx1
 have c3:Pure A0 26 [.agg [.sl true 2 (Ns.map rIt),.sl true 3 (T.map rTh)],dI (n.2:Nat)] (.agg (rTh x)):=by
  rw[<-hx1];exact QrZ (Ns.map rIt) T (by omega) x hxT hF.out.asc
 have hstep:Hid (W (Ns.take (i+1))=W (Ns.take i)++if(!x.2.1&&Qbd X x)=true then [QC n.1] else []):=Pm.hid (by
  rw[AN,hn,AK,hws.out,hx])
 have c5:=al33Has x.2.2 X (by have:=hT x hxT;omega) hX;clear hn hx1 hw hws hw0 hxT hx hT hF;generalize hW2:W (Ns.take (i+1))=W2 at*;generalize W (Ns.take i)=W1 at*;obtain⟨np,nid⟩:=n;obtain⟨xi,xf,xt⟩:=x;unfold Qbd at hstep;simp only at c3 c5 hstep;generalize A3 xt X=fx at*;cases xf
 ·cases fx
  ·repeat' first|refine kS ?_|refine qD (iy hr) ?_|(show AWP _ (.region 8 _ _) _ _;refine(Fg.awp_drawF (id:=8) [] [9] ?_))|refine kU ?_|fail
   all_goals first
    |(exfalso;simp at*;done)
    |(refine Qh (Ns.length -(i+1)) (by omega) ⟨i+1,by omega,rfl,?_⟩
      rw[hW2,hstep.out]
      simp[keepE,go_sem];done)
  ·repeat' first|refine kS ?_|refine qD (iy hr) ?_|refine qS (iy hr) ?_|(show AWP _ (.region 8 _ _) _ _;refine(Fg.awp_drawF (id:=8) [] [9] ?_))|refine QV Ty.h rfl Ty.h (hb:=?_) (kk:=?_)|refine kU ?_|fail
   all_goals first
    |(exfalso;simp at*;done)
    |(show((W1.map fun s=>[dS s]).length+1)*16<=140737488355328
      rw[A4];omega)
    |(refine Qh (Ns.length -(i+1)) (by omega) ⟨i+1,by omega,rfl,?_⟩
      rw[hW2,hstep.out]
      simp[keepE,go_sem];done)
 ·repeat' first|refine kS ?_|refine qD (iy hr) ?_|(show AWP _ (.region 8 _ _) _ _;refine(Fg.awp_drawF (id:=8) [] [9] ?_))|refine kU ?_|fail
  all_goals first
   |(exfalso;simp at*;done)
   |(refine Qh (Ns.length -(i+1)) (by omega) ⟨i+1,by omega,rfl,?_⟩
     rw[hW2,hstep.out]
     simp[keepE,go_sem];done)
def flatTx{s:Pm.Store}{t:Pl.Tree}(h:Qae s t=true): ∀y∈(Qbf s t).2,y.2.2.length<=192:=by
 obtain⟨L,hL,hll,hfd⟩:=Qez h;rw[QdU hfd];exact Qsr
def Qbm(s:Pm.Store)(t:Pl.Tree)(X:List UInt8):List (List UInt8)×Bool:=if Qaa s&&Qae s t then(QaE (Qbf s t) (Qbd X) (Qbf s t).1,true) else([],false)
def Qsx(s:Pm.Store)(t:Pl.Tree)(X:List UInt8):(Qbm s t X).1.length<=144:=by
 unfold Qbm;split
 ·rename_i h
  rw[A2] at h;have:=Qid (Qbf s t) (Qbd X) (Qbf s t).1;have:=(flatB h.2).nl;simp only;omega
 ·exact AT _
def Qpw(s:Pm.Store)(hl:QbQ s)(t:Pl.Tree)(X:List UInt8)(hX:X.length<=1000000000):Pure A0 7 [dSt s,dTree t,dS X] (.tup [tStrs (Qbm s t X).1,dB (Qbm s t X).2]):=by
 have c:=aFlatOf s hl t;unfold Qbm
 by_cases h:(Qaa s&&Qae s t)=true
 ·rw[if_pos h] at c⊢
  rw[A2] at h;exact QtJ s t X hX _ _ (flatB h.2) (flatTx h.2) c
 ·rw[if_neg h] at c⊢
  exact aSeekNo s t X c
def dSeek0(s:Pm.Store)(t:Pl.Tree)(X:List UInt8)(R:List (List UInt8))(ok:Bool)(c:Does A0 22 [.d (dSt s),.d (dTree t),.fn (.func 23) [.d (.pd [dS X])]] [] [] (.tup [.osl 3 R.length 0 R.length,.d (dB ok)]) [.row 1 [],.row 1 [],.row 1 [],.arr R.length 1 9 (R.map fun s=>[dS s])]):
 Does A0 6 [.d (dSt s),.d (dTree t),.d (dS X)] [] [] (.tup [.osl 6 R.length 0 R.length,.d (dB ok)]) [.row 1 [],.row 1 [],.row 1 [],.row 1 [],.row 1 [],.row 1 [],.arr R.length 1 9 (R.map fun s=>[dS s])]:=by
 generalize R.map (fun s=>[dS s])=r at*;generalize R.length=n at*;refine kL ?hpin fun gvs=>?_
 case hpin=>intro i C hC;simp at hC
 simp only[parA,gslot,AD,Nat.reduceAdd];refine kR ?_;refine Qa 0 (h:=?_);refine Qa 1 (h:=?_);refine Qa 2 (h:=?_)
 repeat' first|refine kS ?_|refine qS (Qex rfl) ?_|refine(QkC [] c cK (x':= .tup [.osl 6 n 0 n,.d (dB ok)]) (hX:=fun _ h=>h) (H':=[.row 1 [],.row 1 [],.row 1 [],.row 1 [],.row 1 [],.row 1 [],.arr n 1 9 r]) (hH:=fun _ h=>h) (k:=?_))|refine kU ?_|fail
 all_goals first|exact QdB (hx:=rfl) (hH:=rfl)
def dSeek(s:Pm.Store)(hl:QbQ s)(t:Pl.Tree)(X:List UInt8):
 Does A0 6 [.d (dSt s),.d (dTree t),.d (dS X)] [] [] (.tup [.osl 6 (Qbm s t X).1.length 0 (Qbm s t X).1.length,.d (dB (Qbm s t X).2)])
  [.row 1 [],.row 1 [],.row 1 [],.row 1 [],.row 1 [],.row 1 [],.arr (Qbm s t X).1.length 1 9 ((Qbm s t X).1.map fun s=>[dS s])]:=by
 refine dSeek0 s t X _ _ ?_;have c:=bFlatOf s hl t;unfold Qbm
 by_cases h:(Qaa s&&Qae s t)=true
 ·rw[if_pos h] at c⊢
  rw[A2] at h;have hB:=flatB h.2;have hT:=flatTx h.2;exact Qpf s t _ _ hB c 23 (.pd [dS X]) (Qbd X) Tryz.call23 fun x hx=>bSeek1 _ (Qbf s t).2 X x (hT x hx)
 ·rw[if_neg h] at c⊢
  exact QrL s t 23 (.pd [dS X]) c
end Aw
end
section
namespace Aw
def QbY(s:Pm.Store)(X:List UInt8)(n:Qj):Bool:=QO s n&&A3 (Qad s n) X
def Qsy{s:Pm.Store}{t:Pl.Tree}{L:List Gr.It}(X:List UInt8)(h:Qae s t=true)(hL:(QaI s t).1=L.map Qbo):
 QaE (Qbf s t) (Qbd X) (Qbf s t).1=(L.filter fun n=>QbY s X ((Qk s t).getD n.2 Qd)).map fun n=>QC n.1:=by
 have hF:=(QeI s t).1 h;have hOk:=h;unfold Qae at hOk;simp only[A2,beq_iff_eq,List.all_eq_true,AE] at hOk;obtain⟨M,g1,g2,g3⟩:=QgM s hF.root hOk.1.2
 obtain rfl:L=M:=by
  have h1:=QdU (s:=s) (t:=t) hL;have h2:=QdU (s:=s) (t:=t) (L:=M) (by rw[g3]);rw[h1] at h2;exact(Prod.mk.inj h2).1
 rw[QdU hL];have hnl:(Qk s t).length=(Qc s t).length:=by unfold Qk;rw[A4]
 unfold QaE
 congr 1
 refine List.filter_congr fun n hn=>?_
 have hk:=g1.fd.kinds n.2 (AM.2 ⟨n,hn,rfl⟩);have h0:Qs (Qk s t) n.2≠0:=by rcases hk with h|h<;>omega
 have hlt:=QdO h0;rw[thAt_is (by omega) h0];have hf:=hF.file n.2;unfold Qbd QbY
 change (!(((Qk s t).getD n.2 Qd).kind==2)&&A3 (Qad s ((Qk s t).getD n.2 Qd)) X)=_
 unfold Qs at hk;rcases hk with h1|h2
 ·have h1:((Qk s t).getD n.2 Qd).kind=1:=by omega
  rw[hf h1,h1];rfl
 ·have h2:((Qk s t).getD n.2 Qd).kind=2:=by have:=h2.1;omega
  have:QO s ((Qk s t).getD n.2 Qd)=false:=by
   unfold QO;rw[h2];simp
  rw[this,h2];rfl
def Qra{α β:Type}(p:α->Bool)(f:α->β)(A:List α)(x:α)(B:List α):((A++x::B).filter p).map f=(A.filter p).map f++if p x=true then f x::(B.filter p).map f else(B.filter p).map f:=by
 rw[List.filter_append,AH,List.filter_cons]
 congr 1
 split<;>rfl
def Qbq(s X:List UInt8)(k:Nat):Bool:=(List.range k).any (AA s X)
def Qj5(s X:List UInt8)(k:Nat):Qbq s X (k+1)=(Qbq s X k||AA s X k):=by
 unfold Qbq;rw[List.range_succ,List.any_append];simp
def QnC{s X:List UInt8}{k:Nat}(h:Qbq s X k=false):AP s X k:=fun j hj=>by
 unfold Qbq at h;rw[List.any_eq_false] at h;simpa using h j (AE.2 hj)
def Ql3{s X:List UInt8}: ∀{k:Nat},k+X.length<=s.length+1->Qbq s X k=true->A3 s X=true
 |0,_,h=>by cases h
 |k+1,hk,h=>by
  rw[Qj5] at h;cases h0:Qbq s X k with
  |true=>exact Ql3 (k:=k) (by omega) h0
  |false=>rw[h0,Bool.false_or] at h;exact QqJ (QnC h0) (by omega) h
def QqL{s X:List UInt8}{k:Nat}(h1:k=0∨k+X.length<=s.length+1)(h2:s.length<k+X.length):Qbq s X k=A3 s X:=by
 cases h:Qbq s X k with
 |false=>rw[QqK (QnC h) h2]
 |true=>
  rcases h1 with rfl|h1
  ·cases h
  ·rw[Ql3 h1 h]
end Aw
end
section
open Go.RowKit
namespace Aw
attribute [local irreducible] ASeq ADraw AWP Loc mget mset AStep Fg.PlanF Fg.Flts
abbrev rFd(x:Gr.It):List D:=[dS (QbG x.1),dI (x.2:Nat)]
def Qc6(l:List Gr.It):List Blk:=[.row 0 [.osl 1 l.length 0 l.length],.arr l.length 2 43 (l.map rFd)]
def Qc1(l:List Gr.It):List AV:=[.ptr 0 0 0,.osl 1 l.length 0 l.length]
theorem QtO(l m:List Gr.It): ∀i C,(Qc6 l)[i]? =some C-> ∃C',(Qc6 (l++m))[i]? =some C'/\pin1 (Qc1 l) i C C':=by
 intro i C hC
 match i,hC with
 |0,hC=>obtain rfl:=AC hC;exact⟨_,rfl,.inr ⟨rfl,0,by simp[Qc1]⟩⟩
 |1,hC=>
  obtain rfl:=AC hC;refine⟨_,rfl,rfl,rfl,?_⟩
  grind [Qc1]
theorem wg_mem(l:List Gr.It)(N:Nat)(Lx:List AV)(Hr:List Blk)(g:AV)(hg:g∈Qc1 l)(ha:AV.ptr 0 0 0∈Lx):g.ren (rho [0,1] N)∈Lx++(Qc6 l++Hr).flatMap Blk.parts:=by
 simp only[Qc1,AW,AS,or_false] at hg;rcases hg with rfl|rfl
 ·exact AJ _ ha
 grind [Qc6,Blk.parts,AV.parts,AV.ren,rho]
def wg_mem0(Lx:List AV)(Hx:List Blk)(g:AV)(hg:g∈Qc1 [])(ha:AV.ptr 2 0 0∈Lx)(hd:AV.osl 3 0 0 0∈Hx.flatMap Blk.parts)(N:Nat):g.ren (rho [2,3] N)∈Lx++Hx.flatMap Blk.parts:=by
 simp only[Qc1,AW,AS,or_false] at hg;rcases hg with rfl|rfl
 ·exact AJ _ ha
 ·exact List.mem_append_right _ hd
def Qpg(l:List Gr.It)(hl:l.length<=1000000)(x:Gr.It):Does A0 30 [.d (.agg (rFd x)),.ptr 0 0 0] (Qc6 l) (Qc1 l) (.tup []) (Qc6 (l++[x])):=by
 refine kL ?hpin fun gvs=>?_
 case hpin=>exact QtO l [x]
 simp only[parA,gslot,AD,Nat.reduceAdd,Qc6,Qc1];rw[A6,List.length_singleton,AH,AX,List.map_nil];refine QgY ?_;refine kR ?_;refine Qa 2 (h:=?_)
 repeat' first|refine kS ?_|refine QV Ty.h rfl Ty.h (hb:=?_) (kk:=?_)|refine kU ?_|fail
 all_goals first
  |(show((l.map rFd).length+1)*24<=140737488355328
    rw[A4];omega)
  |exact Qg5 2 .normal (.inl rfl) rfl rfl rfl rfl rfl rfl rfl
  |(rw[A4]
    exact Qg5 2 .normal (.inl rfl) rfl rfl rfl rfl rfl rfl rfl)
theorem bWalkW(s:Pm.Store)(t:Pl.Tree)(x:List (List UInt8))(m:List (Int×D))(hm:Qcq m (QaH s x)): ∀(n:Nat) (L:List Gr.It) (k:Nat) (names:List (List UInt8)) (out:List Gr.It),L.length<=n->Qck s x [(names,k)] L->
 names.length+L.length<=1000->(∀a∈names,a.length<=4)->out.length+L.length<=1000000->
 Does A0 29 [.d (.pd (rFiles s t x m)),.d (dI k),.d (Qca names),.fn (.func 30) [.ptr 0 0 0]] (Qc6 out) (Qc1 out) (.tup []) (Qc6 (out++L)):=by
 intro n;induction n with
 |zero=>
  intro L k names out h1 h2;obtain⟨L1,rfl,_⟩:=QnF h2;simp at h1
 |succ n ih=>
  intro L k names out h1 h2 h3 h4 h5;obtain⟨L1,rfl,hfd,hk0⟩:=QnF h2;simp only[List.length_cons] at h1 h3 h5;have dv:=Qpg out (by omega) (names,k)
  obtain⟨dn,g0,hdn,cp,hcl⟩: ∃(dn:D) (g0:Nat),Qca names=dn/\Pure A0 54 [dn] (dS (QbG names))/\Does A0 55 [.d dn] [] [] (.osl 0 g0 0 names.length) [.arr g0 1 9 (names.map fun s=>[dS s])]:=by
   have cp:=QlL names (by omega) (fun a ha=>by have:=h4 a ha;omega)
   by_cases hn:names=[]
   ·subst hn
    exact⟨_,0,rfl,Qlc cp,QlN⟩
   ·exact⟨tStrs names,1,by unfold Qca;rw[if_neg hn],cp,QlM names (by omega) hn⟩
  rw[hdn];clear hdn;obtain⟨hE,hgt⟩:=hm (k:Nat) (by omega);refine kL ?hpin fun gvs=>?_
  case hpin=>exact QtO out _
  simp only[parA,gslot,AD,Nat.reduceAdd];rw[show out++(names,k)::L1=(out++[(names,k)])++L1 by simp];clear h2 hk0;have hvm:=fun(out:List Gr.It) (N:Nat)=>wg_mem out N
  have hol:(out++[(names,k)]).length=out.length+1:=by simp
  generalize out++[(names,k)]=out1 at*
  have hg:mget m (k:Nat)=some (.sl true 2 ((QaH s x (k:Nat)).map rEnt))∨mget m (k:Nat)=none/\(QaH s x (k:Nat)).map rEnt=[]:=by
   rcases hgt with h|⟨h1,h2⟩
   ·exact .inl h
   ·exact .inr ⟨h1,by rw[h2];rfl⟩
  generalize QaH s x (k:Nat)=es at*;have hsp:rFd (names,k)=[dS (QbG names),dI (k:Nat)]:=rfl;rw[hsp] at dv;generalize QbG names=pt at*;clear hgt hsp;have hes:es.length<=12:=by have:=hE;unfold Qab at this;rw[A2,decide_eq_true_eq] at this;exact this.2
  refine QgY ?_;simp only[Qc6,Qc1] at dv⊢
  repeat' first|refine kS ?_|refine(Qhb [0,1] dv cK (hgl:=fun g hg=>hvm _ _ _ [] g hg (by simp[AV.parts,go_sem])) (k:=?_))|refine qS (Qdi rfl) ?_|refine qS (QfI Tryz.underlying94 Tryz.underlying3 (by kernel_rfl) rfl rfl hg) ?_|refine kU ?_|fail
  refine Qo (fun mm st=> ∃(j:Nat) (Ld Lr:List Gr.It),j<=es.length/\mm=es.length -j/\Hid (L1=Ld++Lr)/\Hid (Qck s x ((es.drop j).map fun e=>(names++[e.1],e.2.toNat)) Lr)/\
   st=⟨39,[(21,.d (tEnts es)),(22,.d (dI es.length)),(23,.d (dI j)),(0,.d (.pd (rFiles s t x m))),(2,.d dn),(3,.fn (.func 30) [.ptr 0 0 0]),(1000000,.gh [.ptr 0 0 0,.osl 1 out.length 0 out.length] gvs)],
    [.row 0 [.osl 1 (out1++Ld).length 0 (out1++Ld).length],.arr (out1++Ld).length 2 43 ((out1++Ld).map rFd)]⟩)
   [21,22,23,0,2,3,1000000] 2 es.length ⟨0,[],L1,by omega,rfl,Pm.hid rfl,Pm.hid hfd,by simp[keepE,go_sem]⟩ (round:=?_)
  rintro mm st ⟨j,Ld,Lr,hj,rfl,hL,hF,rfl⟩
  repeat refine kG ?_
  cases q3:decide ((j:Int)<(es.length:Int))
  ·have hje:j=es.length:=by simp at q3;omega
   have hLd:L1=Ld:=by
    have h:=hF.out;rw[hje,List.drop_length] at h;cases h;rw[hL.out,List.append_nil]
   clear dv hcl cp ih hvm;subst hLd
   repeat refine kA ?_
   exact Qg5 2 .normal (.inl rfl) rfl rfl rfl rfl rfl rfl rfl
  have hj2:j<es.length:=by simp at q3;omega
  obtain⟨e,he⟩: ∃e,es[j]? =some e:=⟨_,A5 hj2⟩;have hr:=Qt (f:=rEnt) he;have heb:=ent_b hE e (AB he);have hdr:es.drop j=e::es.drop (j+1):=by rw[List.drop_eq_getElem_cons hj2,(A1.1 he).2]
  have hF2:=hF.out;rw[hdr,AX] at hF2;obtain⟨M,R,rfl,hM,hR⟩:=QqS hF2;obtain⟨nmE,id⟩:=e;simp only at heb hM;obtain⟨kid,rfl⟩:=Int.eq_ofNat_of_zero_le (show 0<=id by omega);rw[AG] at hM;have hLl:=congrArg List.length hL.out;simp only[A6] at hLl
  have h4': ∀a∈names++[nmE],a.length<=4:=fun a ha=>by
   rcases List.mem_append.1 ha with h|h
   ·exact h4 a h
   ·rw[A7.1 h];exact Qei heb.1
  have ih2:=ih M kid (names++[nmE]) (out1++Ld) (by omega) hM (by simp;omega) h4' (by rw[A6];omega);have hnm:Qca (names++[nmE])=tStrs (names++[nmE]):=by unfold Qca;rw[if_neg (by simp)]
  rw[hnm,AO] at ih2
  replace hR:=Pm.hid hR
  clear he hdr hF2 hF hM ih hnm dv cp h4 h4' hol;have hL2:Hid (L1=(Ld++M)++R):=Pm.hid (by rw[AO];exact hL.out);clear hL hLl hfd;generalize ho3:out1++(Ld++M)=o3 at*;generalize out1++Ld=o2 at*;simp only[Qc6,Qc1] at ih2
  repeat' first|refine kS ?_|refine qS (iy hr) ?_|(show AWP _ (.region 4 _ _) _ _;refine(Qa 2 (h:=Fg.awp_drawF (id:=4) [0,1,2,3,5,6,7,9] [4,8,10] ?_)))|refine(Fg.aw_fltL (hl:=fun H=>Qd0 Ty.h rfl Ty.h) (k:=?_))|refine(QgZ [] hcl cK (x':= .osl 3 g0 0 names.length) (hX:=fun _ h=>h) (H':=[.row 0 [.osl 1 o2.length 0 o2.length],.arr o2.length 2 43 (o2.map rFd),.row 1 [],.arr g0 1 9 (names.map fun s=>[dS s])]) (hH:=fun _ h=>h) (k:=?_))|refine(QhW Ty.h rfl Ty.h (hcell:=?_) (hb:=?_) (kk:=?_))|refine(QlQ 3 [0,1] ih2 cK (H':=[.row 0 [.osl 1 o3.length 0 o3.length],.arr o3.length 2 43 (o3.map rFd),.row 1 [],.arr (g0+1+1) 1 9 []]) (hH:=?_) (hargs:=?_) (hgl:=?_) (k:=?_))|refine kU ?_|fail
  ·intro r hr d hd
   obtain rfl:=A7.1 hr;obtain rfl:=A7.1 hd;rfl
  ·show((names.map fun s=>[dS s]).length+1)*16<=140737488355328
   rw[A4];omega
  ·have htk:((names.map fun s=>[dS s])++[[dS nmE]]).take ((names.map fun s=>[dS s]).length+[[dS nmE]].length)=(names++[nmE]).map fun s=>[dS s]:=by
    rw[A8 (by simp),AH];rfl
   exact congrArg (fun r=>[AV.d (.pd (rFiles s t x m)),AV.d (dI (kid:Nat)),AV.d (.sl true 1 r),AV.fn (.func 30) [.ptr 0 0 0]]) htk
  ·exact fun g hg=>hvm _ _ _ [_,_] g hg (by simp[AV.parts,go_sem])
  ·intro R hR;exact hR
  skip
  all_goals first
   |(refine Qh (es.length -(j+1)) (by omega) ⟨j+1,Ld++M,R,by omega,rfl,hL2,hR,?_⟩
     rw[ho3]
     simp[keepE,go_sem];done)
def Qpo(s:Pm.Store)(t:Pl.Tree)(x:List (List UInt8))(m:List (Int×D))(hm:Qcq m (QaH s x))(cI:Pure A0 28 [dSt s,dTree t] (.tup [.pd (rFiles s t x m),dB true]))(L:List Gr.It)(hL:Qck s x [([],0)] L)(hl:L.length<=144):
 Pure A0 9 [dSt s,dTree t] (.tup [.sl true 2 (L.map rFd),dB true]):=by
 have dw:=bWalkW s t x m hm L.length L 0 [] [] (Nat.le_refl _) hL (by simp;omega) (fun a ha=>by simp at ha) (by simp;omega);rw[show Qca []= .v (.slice none 0 0) by unfold Qca;rw[if_pos rfl],List.nil_append] at dw;have hgl:=wg_mem0;clear hL;simp only[Qc6,Qc1] at dw hgl;refine kE ?_;refine Qa 0 (h:=?_);refine Qa 1 (h:=?_)
 repeat' first|refine kS ?_|refine(Qk9 2 0 2 43 (h:=?_))|refine qS (Qex rfl) ?_|refine(Qha [2,3] dw cK (hgl:=fun g hg=>hgl _ _ g hg (by simp[AV.parts,go_sem]) (by simp[Blk.parts,AV.parts]) _) (k:=?_))|refine kU ?_|fail
 refine Qee [4,5] 4 (h:=?_);refine Qa 3 (h:=?_);refine Qb (hx:=?_);rw[A8 (by simp)]
end Aw
end
section
namespace Gr
variable{kind:Nat->Nat}{en:Nat->Option En}
end Gr
end
section
namespace Gr
variable{kind:Nat->Nat}{en:Nat->Option En}
end Gr
namespace Aw
def Qrc{n:Qj}(h:Q8 n=true)(hk:n.kind=1):n.size<=192:=by
 unfold Q8 at h;simp only[A2,beq_iff_eq,decide_eq_true_eq] at h;obtain⟨⟨⟨⟨⟨h1,h2⟩,_⟩,_⟩,_⟩,_⟩:=h;have he:QaV n.kind=12:=by rw[hk];rfl
 unfold Qac at h1;rw[he] at h1;simp only[show ¬((12:Int)=0) by decide,if_false] at h1;split at h1
 ·rename_i hs;simp[Pl.inR] at hs;omega
 ·omega
end Aw
end
section
open Go.RowKit
namespace Aw
attribute [local irreducible] ASeq ADraw AWP Loc mget mset AStep Fg.PlanF Fg.Flts
def QrQ(s:Pm.Store)(hl:QbQ s)(hs:Qaa s=true)(n:Qj)(hn:Q8 n=true):Pure A0 11 [dSt s,dNode n] (.tup [dS (Qad s n),dB (QO s n)]):=by
 have cS:=Qk2 s hl.b1 hl.b2 hl.b3 hl.b4;rw[hs] at cS;have c:=bTextA s (QdW hs) (Qe6 hs) n hn;clear hn;generalize Qad s n=tx at*;generalize QO s n=fo at*;obtain⟨kd,links,size,⟨⟨p1,p2,p3,p4,p5⟩,depth,many⟩⟩:=n;refine kE ?_;refine Qa 0 (h:=?_)
 repeat refine kA ?_
 all_goals first|exact Qb (hx:=rfl)
def Qsz(s:Pm.Store)(hl:QbQ s)(t:Pl.Tree)(X:List UInt8)(h:(Qbm s t X).2=true):
 ∃(L:List Gr.It) (N:Gr.It->Qj) (b:Gr.It->Bool),L.length<=144/\(Qbm s t X).1=(L.filter fun n=>QbY s X (N n)).map (fun n=>QC n.1)/\
  Pure A0 9 [dSt s,dTree t] (.tup [.sl true 2 (L.map rFd),dB true])/\
  (∀x∈L,Pure A0 10 [dSt s,dTree t,dI (x.2:Nat)] (.tup [dNode (N x),dB (b x)]))/\
  (∀x∈L,Pure A0 11 [dSt s,dNode (N x)] (.tup [dS (Qad s (N x)),dB (QO s (N x))]))/\
  ∀x∈L,(Qad s (N x)).length<=192:=by
 unfold Qbm at*;split at h;rotate_left
 ·cases h
 rename_i hs;rw[if_pos hs];rw[A2] at hs;obtain⟨h4,h5⟩:=hs;obtain⟨hg,htx⟩:QP s/\0<=s.2.2.1:=⟨QdW h4,Qe6 h4⟩;have hF:=(QeI s t).1 h5;have hOk:=h5;unfold Qae at hOk;simp only[A2,beq_iff_eq] at hOk;obtain⟨L,g1,g2,g3⟩:=QgM s hF.root hOk.1.2;obtain⟨hx,hx16,hno⟩:=Qg8 hF.tab;have cS:=Qk2 s hl.b1 hl.b2 hl.b3 hl.b4;have cI:=Qob s t cS (fun h=>⟨QdW h,Qe6 h⟩) fun h=>bText s (QdW h) (Qe6 h) (Qjy s)
 have hrl:=QhD s t;rw[h5,A2] at hrl
 have hin:Qc4 s t= .tup [.pd (rFiles s t (Qc s t) (QaK s (Qc s t) (Qc s t).length)),dB true]:=by
  unfold Qc4 QbT;rw[if_pos h4,if_pos hrl.1,hrl.2]
 rw[hin] at cI;rw[h4] at cS;have hm:=QmT s (Qc s t);have cT:=bTable s cS hg htx t hF.tab;have cW:=Qpo s t (Qc s t) _ hm cI L g1 g2
 have hkd: ∀n∈L,Qs (Qu (Qc s t)) n.2≠0:=fun n hn=>by
  have:Qs (Qk s t) n.2≠0:=by rcases g1.fd.kinds n.2 (AM.2 ⟨n,hn,rfl⟩) with h|h<;>omega
  exact this
 refine⟨L,fun x=>(Qk s t).getD x.2 Qd,fun x=>(Qco (Qc s t) (x.2:Nat)).2,g2,Qsy X h5 (by rw[g3]),cW,fun x hxL=>?_,fun x hxL=>QrQ s hl h4 _ (hno x.2 (hkd x hxL)),fun x hxL=>?_⟩
 ·have cG:=QrM s t (Qc s t) hx16 cT (x.2:Nat)
  have hat:(Qco (Qc s t) (x.2:Nat)).1=(Qk s t).getD x.2 Qd:=by
   rw[QrU hx,if_neg (hkd x hxL)];rfl
  rwa [hat] at cG
 ·have hn:=hno x.2 (hkd x hxL)
  show(Qad s ((Qk s t).getD x.2 Qd)).length<=192
  change Q8 ((Qk s t).getD x.2 Qd)=true at hn
  generalize (Qk s t).getD x.2 Qd=n at*
  by_cases hf:QO s n=true
  ·have hk:n.kind=1:=by
    have:=hf;unfold QO at this;simp only[A2,beq_iff_eq] at this;exact this.1.1.2
   have h1:=QoR hf;have h2:=Qrc hn hk;omega
  ·unfold Qad;rw[if_neg hf];decide

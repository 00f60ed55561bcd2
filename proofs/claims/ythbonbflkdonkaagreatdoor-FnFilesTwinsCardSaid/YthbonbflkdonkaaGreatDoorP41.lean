/- Of ftw_card; no condition. -/
import Derived.Test.YthbonbflkdonkaaGreatDoorP40
set_option linter.all false
set_option maxRecDepth 100000
set_option maxHeartbeats 16000000
open Bool renaming and_eq_true->A2
open Go renaming FuncId->AP
open Go.Proofs.Tryz renaming prog->A0
open Go.RowKit renaming Hid->AQ
open List renaming getElem?_eq_some_iff->A1,getElem?_eq_getElem->A3,mem_map->A4,mem_cons_self->A5,length_map->A6,take_add_one->A7,take_length->A8,mem_flatMap->A9,mem_of_getElem?->AA,mem_range->AB,pairwise_iff_getElem->AC,mem_append->AE,mem_filter->AF,getElem?_of_mem->AG,mem_cons->AH,length_take->AL,all_eq_true->AM,any_eq_true->AN,take_zero->AO
open Nat renaming lt_trichotomy->AJ,zero_add->AK
open Option renaming toList_some->AI
open Option.some renaming inj->AD
namespace Go.Proofs.YthbonbflkdonkaaGreatDoor
noncomputable section
section
open Go.RowKit
namespace Aw
variable{k:Nat}{x:List (List UInt8)}
attribute [local irreducible] ASeq ADraw AWP Loc AStep Fg.PlanF Fg.Flts
def QbU(T:List QT)(k:Nat):QT:=(T.find? fun x=>x.1==k).getD (0,false,[])
structure QcC(F:List Gr.It×List QT):Prop where
 asc:F.2.Pairwise fun a b=>a.1<b.1
 has: ∀n∈F.1,∃x∈F.2,x.1=n.2
 nl:F.1.length<=144
 tl:F.2.length<=16
theorem Qkj{F:List Gr.It×List QT}(h:QcC F){n:Gr.It}(hn:n∈F.1):QbU F.2 n.2∈F.2/\(QbU F.2 n.2).1=n.2:=by
 obtain⟨x,hx,hxn⟩:=h.has n hn;unfold QbU;cases hf:F.2.find? fun x=>x.1==n.2 with
 |none=>grind
 |some y=>grind
def QaF(F:List Gr.It×List QT)(h:QT->Bool)(l:List Gr.It):List (List UInt8):=(l.filter fun n=> !(QbU F.2 n.2).2.1&&h (QbU F.2 n.2)).map fun n=>QB n.1
theorem Qjy(F:List Gr.It×List QT)(h:QT->Bool)(l:List Gr.It)(n:Gr.It):QaF F h (l++[n])=QaF F h l++if(!(QbU F.2 n.2).2.1&&h (QbU F.2 n.2))=true then [QB n.1] else []:=by grind [QaF]
theorem Qip(F:List Gr.It×List QT)(h:QT->Bool)(l:List Gr.It):(QaF F h l).length<=l.length:=by grind [QaF]
def Qbz(x y:QT):Bool:= !y.2.1&&((y.1:Int) !=(x.1:Int))&&(y.2.2==x.2.2)
def Qbg(T:List QT)(x:QT):Bool:=T.any (Qbz x)
theorem Qs4(N:List (List D))(T:List QT)(hl:T.length<=1000)(x:QT)(hx:x∈T)(ha:T.Pairwise fun a b=>a.1<b.1)(i:Nat)(hi:T[i]? =some x):Pure A0 33 [.agg [.sl true 2 N,.sl true 3 (T.map rTh)],dI (x.1:Nat)] (dI i):=by
 have hil:i<T.length:=(A1.1 hi).1;have hix:T[i]=x:=(A1.1 hi).2;have hTl:(T.map rTh).length=T.length:=A6 ..
 have hne:AQ (∀k y,T[k]? =some y->((y.1:Int)=x.1↔k=i)):=Pm.hid fun k y hy=>by
  have hk:k<T.length:=(A1.1 hy).1;have hky:T[k]=y:=(A1.1 hy).2;rw[AC] at ha;constructor
  ·intro e
   rcases AJ k i with h|h|h
   ·have:=ha k i hk hil h;rw[hky,hix] at this;omega
   ·exact h
   ·have:=ha i k hil hk h;rw[hky,hix] at this;omega
  ·rintro rfl;rw[<-hky,hix]
 clear ha hx hix;refine kE ?_;refine Qa 0 (h:=?_)
 repeat refine kG ?_
 refine Qq (fun m st=> ∃k:Nat,k<=i/\m=i -k/\st=⟨22,[(5,.d (dI k)),(1,.d (dI (x.1:Nat))),(2,.d (.pd [.sl true 2 N,.sl true 3 (T.map rTh)]))],[]⟩) [5,1,2] 0 i ⟨0,by omega,rfl,by simp[keepE,go_sem]⟩ (round:=?_);rintro m st ⟨k,hk,rfl,rfl⟩;obtain⟨y,hy⟩: ∃y,T[k]? =some y:=⟨_,A3 (by omega)⟩;have hr:=Qs (f:=rTh) hy;have hiff:=Pm.hid (hne.out k y hy);clear hy hne
 repeat' first|refine kS ?_|refine qS (iy hr) ?_|refine kU ?_|refine kV ?_ ?_<;>intro q|fail
 all_goals first
  |(exfalso;simp only[decide_eq_true_eq,decide_eq_false_iff_not] at*;omega)
  |(have:k=i:=hiff.out.1 (by simpa using q)
    subst this
    exact Qb (hx:=rfl))
  |(have hki:k≠i:=fun e=>by have:=hiff.out.2 e;rw[this] at q;simp at q
    exact Qg (i -(k+1)) (by omega) ⟨k+1,by omega,rfl,by simp[keepE,go_sem]⟩)
def Qs3(N:List (List D))(T:List QT)(hl:T.length<=1000)(x:QT)(hx:x∈T)(ha:T.Pairwise fun a b=>a.1<b.1):Pure A0 17 [.agg [.sl true 2 N,.sl true 3 (T.map rTh)],dI (x.1:Nat)] (.agg (rTh x)):=by
 obtain⟨i,hi⟩:=AG hx;have c:=Qs4 N T hl x hx ha i hi;have hr:=Qs (f:=rTh) hi;have hil:i<T.length:=(A1.1 hi).1;clear hi ha hx;refine kD ?_;refine Qa 0 (h:=?_)
 repeat' first|refine kS ?_|refine qS (iy hr) ?_|refine kU ?_|fail
 (refine Qa 1 (h:=?_);refine QK (hx:=?_))
 rfl
def aFlatOf(s:Pm.Store)(hl:QbL s)(t:Pl.Tree):Pure A0 16 [dSt s,dTree t] (if QZ s&&Qab s t then .tup [dFlat (QaT s t),dB true] else .tup [dFlat ([],[]),dB false]):=by
 have c1:=QoI s hl.b1 hl.b2 hl.b3 hl.b4;cases h:QZ s
 ·rw[h] at c1
  rw[if_neg (by simp)];refine Pure.imp (x:= .tup [.agg [.v (.slice none 0 0),.v (.slice none 0 0)],dB false]) ?_ fun _ _ _=>RelD.nilFlat2
  refine kD ?_;refine Qa 0 (h:=?_);refine Qa 1 (h:=?_)
  repeat refine kA ?_
  (refine Qa 2 (h:=?_);refine QK (hx:=?_))
  rfl
 ·rw[h] at c1
  rw[Bool.true_and];have c2:=al17Of s (Qez h) t;obtain⟨F,b,hFb⟩: ∃F b,(if Qab s t then D.tup [dFlat (QaT s t),dB true] else .tup [dFlat ([],[]),dB false])= .tup [dFlat F,dB b]:=by split<;>exact⟨_,_,rfl⟩
  rw[hFb] at c2⊢;clear hFb h;refine kD ?_;refine Qa 0 (h:=?_);refine Qa 1 (h:=?_)
  repeat refine kA ?_
  (refine Qa 2 (h:=?_);refine QK (hx:=?_))
  rfl
theorem Qun(s:Pm.Store)(t:Pl.Tree)(c:Pure A0 16 [dSt s,dTree t] (.tup [dFlat ([],[]),dB false])):Pure A0 6 [dSt s,dTree t] (.tup [tStrs [],dB false]):=by
 refine kE ?_;refine Qa 0 (h:=?_);refine Qa 1 (h:=?_)
 repeat refine kA ?_
 (refine Qa 2 (h:=?_);refine Qb (hx:=?_))
 rfl
theorem Qs8(s:Pm.Store)(t:Pl.Tree)(Ns:List Gr.It)(T:List QT)(hF:QcC (Ns,T))(c:Pure A0 16 [dSt s,dTree t] (.tup [dFlat (Ns,T),dB true])):Pure A0 6 [dSt s,dTree t] (.tup [tStrs (QaF (Ns,T) (Qbg T) Ns),dB true]):=by
 have hnl:Ns.length<=144:=hF.nl;have htl:T.length<=16:=hF.tl
 replace hF:=Pm.hid hF
 have hw:=Pm.hid (Qip (Ns,T) (Qbg T));have hws:=Pm.hid (Qjy (Ns,T) (Qbg T));have hw0:QaF (Ns,T) (Qbg T) []=[]:=rfl;generalize QaF (Ns,T) (Qbg T)=W at*;simp only at hws;refine kE ?_;refine Qa 0 (h:=?_);refine Qa 1 (h:=?_)
 repeat refine kA ?_
 refine Qa 3 (h:=?_)
 refine Qq (fun m st=> ∃i:Nat,i<=Ns.length/\m=Ns.length -i/\st=⟨87,[(9,.d (dI i)),(7,.d (.pd [.sl true 2 (Ns.map rIt),.sl true 3 (T.map rTh)])),(6,.osl 2 (W (Ns.take i)).length 0 (W (Ns.take i)).length)],
  [.row 1 [],.row 1 [],.arr (W (Ns.take i)).length 1 9 ((W (Ns.take i)).map fun s=>[dS s]),.row 1 []]⟩) [9,7,6] 4 Ns.length ⟨0,by omega,rfl,by rw[AO,hw0];simp[keepE,go_sem]⟩ (round:=?_)
 rintro m st ⟨i,hi,rfl,rfl⟩;have hwl:=hw.out (Ns.take i);rw[AL] at hwl
 repeat refine kG ?_
 cases q3:decide ((i:Int)<(Ns.length:Int))
 ·have:i=Ns.length:=by simp at q3;omega
  rw[this,A8]
  repeat refine kA ?_
  (refine Qa 2 (h:=?_);refine Qb (hx:=?_))
  simp[List.take_of_length_le]
 have hi2:i<Ns.length:=by simp at q3;omega
 obtain⟨n,hn⟩: ∃n,Ns[i]? =some n:=⟨_,A3 hi2⟩;have hr:=Qs (f:=rIt) hn;obtain⟨x,hx⟩: ∃x,QbU T n.2=x:=⟨_,rfl⟩;obtain⟨hxT,hx1⟩:=Qkj hF.out (n:=n) (AA hn);simp only[hx] at hxT hx1
 have c3:Pure A0 17 [.agg [.sl true 2 (Ns.map rIt),.sl true 3 (T.map rTh)],dI (n.2:Nat)] (.agg (rTh x)):=by
  rw[<-hx1];exact Qs3 (Ns.map rIt) T (by omega) x hxT hF.out.asc
 have hstep:AQ (W (Ns.take (i+1))=W (Ns.take i)++if(!x.2.1&&Qbg T x)=true then [QB n.1] else []):=Pm.hid (by
  rw[A7,hn,AI,hws.out,hx])
 clear hn hx1 hw hws hw0 hxT hx;generalize hW2:W (Ns.take (i+1))=W2 at*;generalize W (Ns.take i)=W1 at*;obtain⟨np,nid⟩:=n;simp only at c3 hstep
 repeat' first|refine kS ?_|refine qD (iy hr) ?_|(show AWP _ (.region 8 _ _) _ _;refine(Fg.awp_drawF (id:=8) [] [9] ?_))|refine kU ?_|fail
 refine Qa 4 (h:=?_)
 have hin:AQ (∀k y,T[k]? =some y->(T.take (k+1)).any (Qbz x)=((T.take k).any (Qbz x)||Qbz x y)):=Pm.hid fun k y hy=>by
  rw[A7,hy];simp
 have hTt:AQ (T.any (Qbz x)=Qbg T x):=Pm.hid rfl;generalize Qbg T x=tw at*;obtain⟨xi,xf,xt⟩:=x;simp only at hstep;have hrN:=hr;clear c3 hr hF
 refine Qq (fun m st=> ∃(k:Nat) (b:Bool),k<=T.length/\m=T.length -k/\AQ ((T.take k).any (Qbz (xi,xf,xt))=b)/\st=⟨87,[(12,.d (dI k)),(11,.d (dB b)),(10,.d (.pd (rTh (xi,xf,xt)))),(9,.d (dI i)),(7,.d (.pd [.sl true 2 (Ns.map rIt),.sl true 3 (T.map rTh)])),(6,.osl 2 W1.length 0 W1.length)],
  [.row 1 [],.row 1 [],.arr W1.length 1 9 (W1.map fun s=>[dS s]),.row 1 [],.row 1 []]⟩) [12,11,10,9,7,6] 5 T.length ⟨0,false,by omega,rfl,Pm.hid rfl,by simp[keepE,go_sem]⟩ (round:=?_)
 rintro m st ⟨k,b,hk,rfl,hb,rfl⟩
 repeat refine kG ?_
 cases q4:decide ((k:Int)<(T.length:Int))
 ·have:k=T.length:=by simp at q4;omega
  have hb:=hb.out;rw[this,A8,hTt.out] at hb;subst hb;clear hin hTt;cases xf
  ·cases tw
   ·repeat refine kA ?_
    all_goals first
     |(exfalso;simp at*;done)
     |(refine Qg (Ns.length -(i+1)) (by omega) ⟨i+1,by omega,rfl,?_⟩
       rw[hW2,hstep.out]
       simp[keepE,go_sem];done)
   ·repeat' first|refine kS ?_|refine qS (iy hrN) ?_|refine QV Ty.h rfl Ty.h (hb:=?_) (kk:=?_)|refine kU ?_|fail
    all_goals first
     |(exfalso;simp at*;done)
     |(show((W1.map fun s=>[dS s]).length+1)*16<=140737488355328
       rw[A6];omega)
     |(refine Qg (Ns.length -(i+1)) (by omega) ⟨i+1,by omega,rfl,?_⟩
       rw[hW2,hstep.out]
       simp[keepE,go_sem];done)
  ·repeat refine kA ?_
   all_goals first
    |(exfalso;simp at*;done)
    |(refine Qg (Ns.length -(i+1)) (by omega) ⟨i+1,by omega,rfl,?_⟩
      rw[hW2,hstep.out]
      simp[keepE,go_sem];done)
 have hk2:k<T.length:=by simp at q4;omega
 obtain⟨y,hy⟩: ∃y,T[k]? =some y:=⟨_,A3 hk2⟩;have hr:=Qs (f:=rTh) hy;have hn2:=hin.out k y hy;rw[hb.out] at hn2;clear hy hin hTt hstep;obtain⟨yi,yf,yt⟩:=y;unfold Qbz at hn2;simp only at hn2
 replace hn2:=Pm.hid hn2
 cases b
 ·repeat' first|refine kS ?_|refine qS (iy hr) ?_|refine kU ?_|refine kV ?_ ?_<;>intro q|fail
  all_goals first
   |(exfalso;simp at*;done)
   |(refine Qg (T.length -(k+1)) (by omega) ⟨k+1,_,by omega,rfl,hn2,?_⟩
     simp_all[keepE,go_sem];done)
 ·repeat' first|refine kS ?_|refine qS (iy hr) ?_|refine kU ?_|fail
  all_goals first
   |(exfalso;simp at*;done)
   |(refine Qg (T.length -(k+1)) (by omega) ⟨k+1,_,by omega,rfl,hn2,?_⟩
     simp[keepE,go_sem];done)
attribute [local irreducible] mget mset
def bFlatOf(s:Pm.Store)(hl:QbL s)(t:Pl.Tree):
 Pure A0 28 [dSt s,dTree t] (if QZ s&&Qab s t then .tup [dFlat (QaT s t),dB true] else .tup [dFlat ([],[]),dB false]):=by
 have hg:QZ s=true->QU s/\0<=s.2.2.1:=fun h=>⟨Qez h,Qfv h⟩
 have hTx:QZ s=true->QcI s:=fun h n hn _=>(bTextA s (hg h).1 (hg h).2 n hn).imp fun S w v hv=>by
  cases hv with
  |tup _ cs hl hr=>
   refine .tup _ cs hl fun i d x hd hx=>?_
   match i,hd with
   |0,hd=>obtain rfl:=AD hd;exact .any _
   |1,hd=>obtain rfl:=AD hd;exact hr 1 _ x rfl hx
 have c1:=Qo3 s t (Qo2 s hl.b1 hl.b2 hl.b3 hl.b4) hg hTx;have hlk:=QhQ s t
 by_cases hok:(QZ s&&Qab s t)=true
 rotate_left
 ·rw[if_neg hok]
  obtain⟨a,ha⟩: ∃a,Qc2 s t= .tup [a,dB false]:=by
   unfold Qc2 QbM;split
   ·split
    ·rename_i h1 h2
     rw[h1,<-hlk,h2] at hok;exact⟨_,by rw[show Qcr s (Qc s t)=false by simpa using hok]⟩
    ·exact⟨_,rfl⟩
   ·exact⟨_,rfl⟩
  rw[ha] at c1;refine Pure.imp (x:= .tup [.agg [.v (.slice none 0 0),.v (.slice none 0 0)],dB false]) ?_ fun _ _ _=>RelD.nilFlat2
  refine kD ?_;refine Qa 0 (h:=?_);refine Qa 1 (h:=?_)
  repeat refine kA ?_
  (refine Qa 2 (h:=?_);refine QK (hx:=?_))
  rfl
 ·rw[if_pos hok]
  rw[A2] at hok;obtain⟨h1,h2⟩:=hok;have hF:=(QdV s t).1 h2;obtain⟨L,hL,hll,hfd⟩:=QfC h2;rw[QfB hfd];rw[h2,A2] at hlk
  have hin:Qc2 s t= .tup [.pd (rFiles s t (Qc s t) (QaJ s (Qc s t) (Qc s t).length)),dB true]:=by
   unfold Qc2 QbM;rw[if_pos h1,if_pos hlk.1,hlk.2]
  rw[hin] at c1;obtain⟨htx,hx16,hno⟩:=QgN hF.tab;have c2:=bFlat s (hg h1).1 (hg h1).2 t (Qc s t) htx hx16 hno _ (Qnp s (Qc s t)) L hL hll;clear hin h1 h2 hF hL hll hfd hlk htx hx16 hno hg;generalize QaS s (Qc s t) (Qc s t).length=th at*;generalize QaJ s (Qc s t) (Qc s t).length=m at*;generalize Qc s t=x at*;refine kD ?_;refine Qa 0 (h:=?_);refine Qa 1 (h:=?_)
  repeat refine kA ?_
  (refine Qa 2 (h:=?_);refine QK (hx:=?_))
  rfl
def bIsNaN(a:Int):Pure A0 127 [dI a] (dB false):=by
 refine kB ?_
 repeat refine kA ?_
 exact Qb (hx:=by simp)
def Qch(a b:Int):Int:=if a<b then -1 else if b<a then 1 else 0
def bCmpInt(a b:Int):Pure A0 66 [dI a,dI b] (dI (Qch a b)):=by
 have hd:AQ (Qch a b=if a<b then -1 else if b<a then 1 else 0):=Pm.hid rfl;generalize Qch a b=r at*;refine kB ?_
 repeat' first|refine kS ?_|refine qS (Qdr cK (bIsNaN _) rfl) ?_|refine kU ?_|refine kV ?_ ?_<;>intro q|fail
 all_goals first
  |(exfalso;simp at*;done)
  |(refine Qb (hx:=?_)
    rw[hd.out];simp only[decide_eq_true_eq,decide_eq_false_iff_not] at*
    first
     |rw[if_pos (by assumption)]
     |(rw[if_neg (by assumption),if_pos (by omega)];done)
     |(rw[if_neg (by assumption),if_neg (by omega)];done))
def bThing1(x:QT)(k:Int):Pure A0 65 [.agg (rTh x),dI k] (dI (Qch x.1 k)):=by
 have c:=bCmpInt x.1 k;generalize Qch x.1 k=r at*;refine kE ?_;refine Qa 0 (h:=?_)
 repeat refine kA ?_
 exact Qb (hx:=rfl)
def QcR(T:List QT):Prop:=T.Pairwise fun a b=>a.1<b.1
def QnC{T:List QT}(h:QcR T){i j:Nat}(hi:i<T.length)(hj:j<T.length)(hij:i<j):T[i].1<T[j].1:=AC.1 h i j hi hj hij
theorem Qsr(T:List QT)(ha:QcR T)(hl:T.length<=1000)(i:Nat)(x:QT)(hx:T[i]? =some x):
 PureF A0 64 [.d (.sl true 3 (T.map rTh)),.d (dI (x.1:Nat)),.fn (.func 65) []] (.tup [dI i,dB true]):=by
 have hi:i<T.length:=(A1.1 hx).1;have hxi:T[i]=x:=(A1.1 hx).2;have hTl:(T.map rTh).length=T.length:=A6 ..
 have hc:AQ (∀j y,T[j]? =some y->(j<i->Qch y.1 x.1= -1)/\(j=i->Qch y.1 x.1=0)/\(i<j->Qch y.1 x.1=1)):=Pm.hid fun j y hy=>by
  have hj:j<T.length:=(A1.1 hy).1;have hyj:T[j]=y:=(A1.1 hy).2;unfold Qch;refine⟨fun h=>?_,fun h=>?_,fun h=>?_⟩
  ·have:=QnC ha hj hi h
   rw[hxi,hyj] at this;rw[if_pos (by omega)]
  ·subst h
   rw[hyj] at hxi;subst hxi;rw[if_neg (by omega),if_neg (by omega)]
  ·have:=QnC ha hi hj h
   rw[hxi,hyj] at this;rw[if_neg (by omega),if_pos (by omega)]
 replace ha:=Pm.hid ha
 clear hxi;refine kF ?_
 repeat refine kA ?_
 refine Qq (fun m st=> ∃a b:Nat,a<=i/\i<=b/\b<=T.length/\m=b -a/\
  st=⟨49,[(9,.d (dI a)),(10,.d (dI b)),(8,.d (dI T.length)),(0,.d (.sl true 3 (T.map rTh))),(1,.d (dI (x.1:Nat))),(2,.fn (.func 65) [])],[]⟩) [9,10,8,0,1,2] 0 T.length ⟨0,T.length,by omega,by omega,by omega,by omega,by simp[keepE,go_sem]⟩ (round:=?_)
 rintro m st ⟨a,b,hai,hib,hb,rfl,rfl⟩
 repeat refine kG ?_
 by_cases q3:a<b
 rotate_left
 ·have e:a=i:=by omega
  subst e;have hr:=Qs (f:=rTh) hx;have c:=bThing1 x (x.1:Nat);rw[(hc.out _ x hx).2.1 rfl] at c;clear hx hc
  repeat' first|refine kS ?_|refine qS (iy hr) ?_|refine qS (Qd6 cK c rfl rfl) ?_|refine kU ?_|refine kV ?_ ?_<;>intro q|fail
  all_goals first|exfalso;simp only[decide_eq_true_eq,decide_eq_false_iff_not] at*;omega|refine QK (hx:=?_);rfl
 have hm:(a+b)/2<T.length:=by omega
 obtain⟨y,hy⟩: ∃y,T[(a+b)/2]? =some y:=⟨_,A3 hm⟩;have hr:=Qs (f:=rTh) hy;have c:=bThing1 y (x.1:Nat);have h3:=Pm.hid (hc.out _ y hy);generalize hmv:(a+b)/2=mm at*;have hmi:(((a:Int)+b)/2)=(mm:Int):=by omega
 clear hx hy hc;generalize Qch y.1 x.1=r at*
 repeat' first|refine kS ?_|refine qS (QdD (D1:= .int .i64) (k':= .u64) (m:=(a:Int)+b) (by kernel_rfl) (by kernel_rfl) rfl rfl (by rw[IntKind.wrap_u64];omega)) ?_|refine qS (QnU rfl rfl (by omega)) ?_|refine qS (QdD (D1:= .int .u64) (k':= .i64) (m:=(mm:Int)) (by kernel_rfl) (by kernel_rfl) rfl rfl (by rw[hmi,IntKind.wrap_i64];omega)) ?_|refine qS (iy hr) ?_|refine qS (Qd6 cK c rfl rfl) ?_|refine kU ?_|refine kV ?_ ?_<;>intro q|fail
 all_goals first
  |(exfalso;simp only[decide_eq_true_eq,decide_eq_false_iff_not] at*;omega)
  |(have hlt:mm<i:=by
     rcases AJ mm i with h|h|h
     ·exact h
     ·have:=h3.out.2.1 h;simp only[decide_eq_true_eq] at*;omega
     ·have:=h3.out.2.2 h;simp only[decide_eq_true_eq] at*;omega
    exact Qg (b -(mm+1)) (by omega) ⟨mm+1,b,by omega,by omega,hb,rfl,by simp[keepE,go_sem]⟩)
  |(have hge:i<=mm:=by
     rcases Nat.lt_or_ge mm i with h|h
     ·have:=h3.out.1 h;simp only[decide_eq_false_iff_not] at*;omega
     ·exact h
    exact Qg (mm -a) (by omega) ⟨a,mm,by omega,by omega,by omega,rfl,by simp[keepE,go_sem]⟩)
def bThing(N:List (List D))(T:List QT)(ha:QcR T)(hl:T.length<=1000)(x:QT)(hx:x∈T):Pure A0 29 [.pd [.sl true 2 N,.sl true 3 (T.map rTh)],dI (x.1:Nat)] (.pd (rTh x)):=by
 obtain⟨i,hi⟩:=AG hx;have hr:=Qs (f:=rTh) hi;have c:=Qsr T ha hl i x hi;clear hi ha;refine kB ?_
 repeat' first|refine kS ?_|refine qS (Qdm rfl) ?_|refine qS (Qd9 cK c rfl rfl) ?_|refine qS (iy hr) ?_|refine kU ?_|fail
 all_goals first|exact Qb (hx:=rfl)|exfalso;simp at*;done
def Qcu(l:List QT)(pr:QT->Bool):Int:=match l.findIdx? pr with|some i=>i|none=> -1
theorem Qt1(l:List QT)(pr:QT->Bool):decide (Qcu l pr≥0)=l.any pr:=by grind [Qcu]
theorem QtW(l:List QT)(hl:l.length<=1000000)(f:AP)(cap:D)(pr:QT->Bool)(hf: ∀args w,(callFunc f args).run A0 w= .ok (.enter f args) w)(h: ∀p∈l,Pure A0 f [.agg (rTh p),cap] (dB (pr p))):
 PureF A0 30 [.d (.sl true 3 (l.map rTh)),.fn (.func f) [.d cap]] (dI (Qcu l pr)):=by
 refine kF ?_
 repeat refine kA ?_
 refine Qq (fun m st=> ∃k:Nat,k<=l.length/\m=l.length -k/\AQ (∀x∈l.take k,pr x=false)/\st=⟨19,[(8,.d (dI k)),(7,.d (dI l.length)),(0,.d (.sl true 3 (l.map rTh))),(1,.fn (.func f) [.d cap])],[]⟩) [8,7,0,1] 0 l.length ⟨0,by omega,rfl,Pm.hid (by simp),by simp[keepE,go_sem]⟩ (round:=?_);rintro m st ⟨k,hk,rfl,hA,rfl⟩
 repeat refine kG ?_
 cases q3:decide ((k:Int)<(l.length:Int))
 ·repeat refine kA ?_
  refine QK (hx:=?_);have:k=l.length:=by simp at q3;omega
  have h:=hA.out;rw[this,A8] at h;have:l.findIdx? pr=none:=List.findIdx?_eq_none_iff.2 h;unfold Qcu;rw[this]
 have hk2:k<l.length:=by simp at q3;omega
 obtain⟨x,hx⟩: ∃x,l[k]? =some x:=⟨_,A3 hk2⟩;have hr:=Qs (f:=rTh) hx
 have T:AQ (pr x=false-> ∀y∈l.take (k+1),pr y=false):=Pm.hid fun h y hy=>by
  rw[A7,hx] at hy;rcases AE.1 hy with hy|hy
  ·exact hA.out y hy
  ·simp at hy;subst hy;exact h
 have F:AQ (pr x=true->Qcu l pr=k):=Pm.hid fun h=>by
  have:l.findIdx? pr=some k:=by
   rw[List.findIdx?_eq_some_iff_getElem];refine⟨hk2,?_,fun j hj=>?_⟩
   ·rw[(A1.1 hx).2];exact h
   ·have:=hA.out l[j] (List.mem_iff_getElem?.2 ⟨j,by rw[List.getElem?_take,if_pos hj];exact A3 (by omega)⟩)
    rw[this];simp
  unfold Qcu;rw[this]
 have c:=h x (AA hx);clear hx hA;generalize pr x=b at*
 repeat' first|refine kS ?_|refine qS (iy hr) ?_|refine qS (Qd6 hf c rfl rfl) ?_|refine kU ?_|refine kV ?_ ?_<;>intro q|fail
 all_goals first|exact Qg (l.length -(k+1)) (by omega) ⟨k+1,by omega,rfl,Pm.hid (T.out (by assumption)),by simp[keepE,go_sem]⟩|refine QK (hx:=?_);rw[F.out (by assumption)]
def Qn1(l:List QT)(hl:l.length<=1000000)(f:AP)(cap:D)(pr:QT->Bool)(hf: ∀args w,(callFunc f args).run A0 w= .ok (.enter f args) w)(h: ∀p∈l,Pure A0 f [.agg (rTh p),cap] (dB (pr p))):
 PureF A0 14 [.d (.sl true 3 (l.map rTh)),.fn (.func f) [.d cap]] (dB (l.any pr)):=by
 have c:=QtW l hl f cap pr hf h;have hd:=Pm.hid (Qt1 l pr);generalize Qcu l pr=i at*;refine kF ?_
 repeat' first|refine kS ?_|refine qS (Qd9 cK c rfl rfl) ?_|refine kU ?_|fail
 refine QK (hx:=?_);rw[<-hd.out]
theorem bTwin11(x y:QT):Pure A0 15 [.agg (rTh y),.pd (rTh x)] (dB (Qbz x y)):=by
 obtain⟨i,a,u⟩:=x;obtain⟨j,b,v⟩:=y;have hd:AQ (Qbz (i,a,u) (j,b,v)=(!b&&((j:Int) !=(i:Int))&&(v==u))):=Pm.hid rfl;generalize Qbz (i,a,u) (j,b,v)=r at*;simp only[rTh];refine kE ?_;refine Qa 0 (h:=?_)
 repeat' first|refine kA ?_|refine kV ?_ ?_<;>intro q|fail
 all_goals
  refine Qb (hx:=?_);rw[hd.out]
  simp_all
def bTwin1(N:List (List D))(T:List QT)(hl:T.length<=1000)(x:QT):Pure A0 13 [.agg [.sl true 2 N,.sl true 3 (T.map rTh)],.agg (rTh x)] (dB (Qbg T x)):=by
 have c:=Qn1 T (by omega) 15 (.pd (rTh x)) (Qbz x) Tryz.call15 fun y _=>bTwin11 x y
 change PureF _ _ _ (dB (Qbg T x)) at c
 generalize Qbg T x=r at*;obtain⟨i,a,u⟩:=x;simp only[rTh] at*;refine kE ?_;refine Qa 0 (h:=?_);refine Qa 1 (h:=?_)
 repeat' first|refine kS ?_|refine qS (Qf1 rfl) ?_|refine qS (Qd9 cK c rfl rfl) ?_|refine kU ?_|fail
 exact Qb (hx:=rfl)
def QtO(s:Pm.Store)(t:Pl.Tree)(f:AP)(c:Pure A0 28 [dSt s,dTree t] (.tup [dFlat ([],[]),dB false])):
 Does A0 12 [.d (dSt s),.d (dTree t),.fn (.func f) []] [] [] (.tup [.osl 3 0 0 0,.d (dB false)]) [.row 1 [],.row 1 [],.row 1 [],.arr 0 1 9 []]:=by
 refine kL ?hpin fun gvs=>?_
 case hpin=>intro i C hC;simp at hC
 simp only[parA,gslot,AK,Nat.reduceAdd];refine kR ?_;refine Qa 0 (h:=?_);refine Qa 1 (h:=?_)
 repeat refine kA ?_
 refine Qa 2 (h:=?_);refine QeW 6 1 9 (h:=?_);refine Qev [6,7,1000000] 4 (H':=[.row 1 [],.row 1 [],.row 1 [],.arr 0 1 9 []]) (hH:=fun R hR=>hR) (h:=?_);exact QdL (hx:=rfl) (hH:=rfl)
def Qsq(s:Pm.Store)(t:Pl.Tree)(Ns:List Gr.It)(T:List QT)(hF:QcC (Ns,T))(c:Pure A0 28 [dSt s,dTree t] (.tup [dFlat (Ns,T),dB true]))(f:AP)(F:QT->Bool)
 (hf: ∀args w,(callFunc f args).run A0 w= .ok (.enter f args) w) (hc: ∀x∈T,Pure A0 f [dFlat (Ns,T),.agg (rTh x)] (dB (F x))):
 Does A0 12 [.d (dSt s),.d (dTree t),.fn (.func f) []] [] [] (.tup [.osl 3 (QaF (Ns,T) F Ns).length 0 (QaF (Ns,T) F Ns).length,.d (dB true)])
  [.row 1 [],.row 1 [],.row 1 [],.arr (QaF (Ns,T) F Ns).length 1 9 ((QaF (Ns,T) F Ns).map fun s=>[dS s])]:=by
 have hnl:Ns.length<=144:=hF.nl;have htl:T.length<=16:=hF.tl
 replace hF:=Pm.hid hF
 have hw:=Pm.hid (Qip (Ns,T) F);have hws:=Pm.hid (Qjy (Ns,T) F);have hw0:QaF (Ns,T) F []=[]:=rfl;generalize QaF (Ns,T) F=W at*;simp only at hws;refine kL ?hpin fun gvs=>?_
 case hpin=>intro i C hC;simp at hC
 simp only[parA,gslot,AK,Nat.reduceAdd];refine kR ?_;refine Qa 0 (h:=?_);refine Qa 1 (h:=?_)
 repeat refine kA ?_
 all_goals first|exfalso;simp at*;done|skip
 refine Qa 2 (h:=?_);refine QeW 10 1 9 (h:=?_)
 refine Qq (fun m st=> ∃i:Nat,i<=Ns.length/\m=Ns.length -i/\st=⟨52,[(25,.d (dI i)),(23,.d (.sl true 2 (Ns.map rIt))),(24,.d (dI Ns.length)),(8,.d (.pd [.sl true 2 (Ns.map rIt),.sl true 3 (T.map rTh)])),(2,.fn (.func f) []),(10,.osl 3 (W (Ns.take i)).length 0 (W (Ns.take i)).length),(1000000,.gh [] gvs)],
  [.row 1 [],.row 1 [],.row 1 [],.arr (W (Ns.take i)).length 1 9 ((W (Ns.take i)).map fun s=>[dS s])]⟩) [25,23,24,8,2,10,1000000] 4 Ns.length ⟨0,by omega,rfl,by rw[AO,hw0];simp[keepE,go_sem]⟩ (round:=?_)
 rintro m st ⟨i,hi,rfl,rfl⟩;have hwl:=hw.out (Ns.take i);rw[AL] at hwl
 repeat refine kG ?_
 cases q3:decide ((i:Int)<(Ns.length:Int))
 ·have:i=Ns.length:=by simp at q3;omega
  rw[this,A8]
  repeat refine kA ?_
  refine Qev [6,7,1000000] 4 (H':=[.row 1 [],.row 1 [],.row 1 [],.arr (W Ns).length 1 9 ((W Ns).map fun s=>[dS s])]) (hH:=fun R hR=>hR) (h:=?_);exact QdL (hx:=rfl) (hH:=rfl)
 have hi2:i<Ns.length:=by simp at q3;omega
 obtain⟨n,hn⟩: ∃n,Ns[i]? =some n:=⟨_,A3 hi2⟩;have hr:=Qs (f:=rIt) hn;obtain⟨x,hx⟩: ∃x,QbU T n.2=x:=⟨_,rfl⟩;obtain⟨hxT,hx1⟩:=Qkj hF.out (n:=n) (AA hn);simp only[hx] at hxT hx1
 have c3:Pure A0 29 [.pd [.sl true 2 (Ns.map rIt),.sl true 3 (T.map rTh)],dI (n.2:Nat)] (.pd (rTh x)):=by
  rw[<-hx1];exact bThing (Ns.map rIt) T hF.out.asc (by omega) x hxT
 have hstep:AQ (W (Ns.take (i+1))=W (Ns.take i)++if(!x.2.1&&F x)=true then [QB n.1] else []):=Pm.hid (by
  rw[A7,hn,AI,hws.out,hx])
 have c4:=hc x hxT;clear hn hx1 hw hws hw0 hxT hx hc hF;generalize hW2:W (Ns.take (i+1))=W2 at*;generalize W (Ns.take i)=W1 at*;generalize F x=fx at*;obtain⟨np,nid⟩:=n;obtain⟨xi,xf,xt⟩:=x;simp only at c3 hstep;cases xf
 ·cases fx
  ·repeat' first|refine kS ?_|refine qS (iy hr) ?_|refine qD (Qdm rfl) ?_|refine qD (Qd6 hf c4 rfl rfl) ?_|refine kU ?_|fail
   all_goals first
    |(exfalso;simp at*;done)
    |(refine Qg (Ns.length -(i+1)) (by omega) ⟨i+1,by omega,rfl,?_⟩
      rw[hW2,hstep.out]
      simp[keepE,go_sem];done)
  ·repeat' first|refine kS ?_|refine qS (iy hr) ?_|refine qD (Qdm rfl) ?_|refine qD (Qd6 hf c4 rfl rfl) ?_|refine QV Ty.h rfl Ty.h (hb:=?_) (kk:=?_)|refine kU ?_|fail
   all_goals first
    |(exfalso;simp at*;done)
    |(show((W1.map fun s=>[dS s]).length+1)*16<=140737488355328
      rw[A6];omega)
    |(refine Qg (Ns.length -(i+1)) (by omega) ⟨i+1,by omega,rfl,?_⟩
      rw[hW2,hstep.out]
      simp[keepE,go_sem];done)
 ·repeat' first|refine kS ?_|refine qS (iy hr) ?_|refine qD (Qdm rfl) ?_|refine kU ?_|fail
  all_goals first
   |(exfalso;simp at*;done)
   |(refine Qg (Ns.length -(i+1)) (by omega) ⟨i+1,by omega,rfl,?_⟩
     rw[hW2,hstep.out]
     simp[keepE,go_sem];done)
theorem Qqo{s:Pm.Store}: ∀y∈QbR s x k,y.1=k:=by grind [QbR]
theorem ths_lt{s:Pm.Store}{n:Nat}: ∀y∈QaS s x n,y.1<n:=by
 intro y hy
 grind [QaS,Qqo]
theorem Qqn(s:Pm.Store)(x:List (List UInt8)): ∀n,(QaS s x n).Pairwise fun a b=>a.1<b.1
 |0=> .nil
 |n+1=>by
  rw[QhV,List.pairwise_append];refine⟨Qqn s x n,?_,fun a ha b hb=>by rw[Qqo b hb];exact ths_lt a ha⟩;unfold QbR;split
  ·exact .nil
  grind
theorem flatB{s:Pm.Store}{t:Pl.Tree}(h:Qab s t=true):QcC (QaT s t):=by
 obtain⟨L,hL,hll,hfd⟩:=QfC h;have hF:=(QdV s t).1 h;obtain⟨htx,hx16,_⟩:=QgN hF.tab;rw[QfB hfd];refine⟨Qqn _ _ _,fun n hn=>?_,hll,by grind [Qmy]⟩
 have hk:Qr (Qt (Qc s t)) n.2≠0:=by
  rcases hL.fd.kinds n.2 (A4.2 ⟨n,hn,rfl⟩) with h|⟨h,_⟩<;>rw[h]<;>decide
 have hlt:=QdP hk;rw[A6] at hlt;refine⟨(n.2,((Qt (Qc s t)).getD n.2 Qd).kind==2,Qay s ((Qt (Qc s t)).getD n.2 Qd)),?_,rfl⟩;refine A9.2 ⟨n.2,AB.2 hlt,?_⟩
 grind [QbR]
theorem thAt_is{s:Pm.Store}(hk:k<x.length)(h0:Qr (Qt x) k≠0):QbU (QaS s x x.length) k=(k,((Qt x).getD k Qd).kind==2,Qay s ((Qt x).getD k Qd)):=by
 have hm:(k,((Qt x).getD k Qd).kind==2,Qay s ((Qt x).getD k Qd))∈QaS s x x.length:=A9.2 ⟨k,AB.2 hk,by grind [QbR]⟩;unfold QbU;cases hf:(QaS s x x.length).find? fun y=>y.1==k with
 |none=>grind
 |some y=>
  have h1:=List.mem_of_find?_eq_some hf;have h2:y.1=k:=by grind
  obtain⟨j,_,hy⟩:=A9.1 h1
  grind [QbR]
def Qa6(s:Pm.Store)(t:Pl.Tree):List (List UInt8)×Bool:=if QZ s&&Qab s t then(QaF (QaT s t) (Qbg (QaT s t).2) (QaT s t).1,true) else([],false)
theorem Qql(s:Pm.Store)(t:Pl.Tree):(Qa6 s t).1.length<=144:=by
 unfold Qa6;split
 ·rename_i h
  rw[A2] at h;have:=Qip (QaT s t) (Qbg (QaT s t).2) (QaT s t).1;have:=(flatB h.2).nl
  grind
 grind
theorem Qn5(s:Pm.Store)(hl:QbL s)(t:Pl.Tree):Pure A0 6 [dSt s,dTree t] (.tup [tStrs (Qa6 s t).1,dB (Qa6 s t).2]):=by
 have c:=aFlatOf s hl t;unfold Qa6
 by_cases h:(QZ s&&Qab s t)=true
 ·grind [Qs8,flatB]
 grind [Qun]
def dTwins0(s:Pm.Store)(t:Pl.Tree)(R:List (List UInt8))(ok:Bool)(c:Does A0 12 [.d (dSt s),.d (dTree t),.fn (.func 13) []] [] [] (.tup [.osl 3 R.length 0 R.length,.d (dB ok)]) [.row 1 [],.row 1 [],.row 1 [],.arr R.length 1 9 (R.map fun s=>[dS s])]):
 Does A0 5 [.d (dSt s),.d (dTree t)] [] [] (.tup [.osl 5 R.length 0 R.length,.d (dB ok)]) [.row 1 [],.row 1 [],.row 1 [],.row 1 [],.row 1 [],.arr R.length 1 9 (R.map fun s=>[dS s])]:=by
 generalize R.map (fun s=>[dS s])=r at*;generalize R.length=n at*;refine kL ?hpin fun gvs=>?_
 case hpin=>intro i C hC;simp at hC
 simp only[parA,gslot,AK,Nat.reduceAdd];refine kR ?_;refine Qa 0 (h:=?_);refine Qa 1 (h:=?_)
 repeat' first|refine kS ?_|refine(QkV [] c cK (x':= .tup [.osl 5 n 0 n,.d (dB ok)]) (hX:=fun _ h=>h) (H':=[.row 1 [],.row 1 [],.row 1 [],.row 1 [],.row 1 [],.arr n 1 9 r]) (hH:=fun _ h=>h) (k:=?_))|refine kU ?_|fail
 all_goals first|exact QdL (hx:=rfl) (hH:=rfl)
def dTwins(s:Pm.Store)(hl:QbL s)(t:Pl.Tree):
 Does A0 5 [.d (dSt s),.d (dTree t)] [] [] (.tup [.osl 5 (Qa6 s t).1.length 0 (Qa6 s t).1.length,.d (dB (Qa6 s t).2)])
  [.row 1 [],.row 1 [],.row 1 [],.row 1 [],.row 1 [],.arr (Qa6 s t).1.length 1 9 ((Qa6 s t).1.map fun s=>[dS s])]:=by
 refine dTwins0 s t _ _ ?_;have c:=bFlatOf s hl t;unfold Qa6
 by_cases h:(QZ s&&Qab s t)=true
 ·rw[if_pos h] at c⊢
  rw[A2] at h;have hB:=flatB h.2;have htl:(QaT s t).2.length<=1000:=Nat.le_trans hB.tl (by decide);exact Qsq s t _ _ hB c 13 (Qbg (QaT s t).2) Tryz.call13 fun x _=>bTwin1 _ (QaT s t).2 htl x
 ·rw[if_neg h] at c⊢
  exact QtO s t 13 c
theorem QiR(s:Pm.Store)(hl:QbL s)(t:Pl.Tree)(p:List UInt8)(hp:p.length<=1000000000000):
 (∃a,Pure A0 18 [dSt s,dTree t] (.tup [a,dB false]))/\Qad s t p=(0,false)∨
 ∃m,Qcn m (QaI s (Qc s t))/\QZ s=true/\Qab s t=true/\Pure A0 18 [dSt s,dTree t] (.tup [.pd (rFiles s t (Qc s t) m),dB true])/\
  ((∃i:Int,i<0/\Pure A0 19 [.pd (rFiles s t (Qc s t) m),dS p] (dI i)/\Qad s t p=(0,false))∨
   ∃k:Nat,Qr (Qt (Qc s t)) k≠0/\Pure A0 19 [.pd (rFiles s t (Qc s t) m),dS p] (dI k)/\Qad s t p=(((k:Nat):Int),true)):=by
 have hTx:QZ s=true->QcI s:=fun h n hn _=>(bTextA s (Qez h) (Qfv h) n hn).imp fun S w v hv=>by
  cases hv with
  |tup _ cs hl hr=>
   refine .tup _ cs hl fun i d x hd hx=>?_
   match i,hd with
   |0,hd=>obtain rfl:=AD hd;exact .any _
   |1,hd=>grind
 have cI:=Qo3 s t (Qo2 s hl.b1 hl.b2 hl.b3 hl.b4) (fun h=>⟨Qez h,Qfv h⟩) hTx;have hrl:=QhQ s t;have hpa:=QqK s t p
 by_cases hs:(QZ s&&Qab s t)=true
 rotate_left
 ·refine .inl ⟨?_,?_⟩
  ·grind [Qc2,QbM]
  grind [Qad]
 have hs':=hs;rw[A2] at hs';have hF:=(QdV s t).1 hs'.2;rw[hs'.2,A2] at hrl
 have hin:Qc2 s t= .tup [.pd (rFiles s t (Qc s t) (QaJ s (Qc s t) (Qc s t).length)),dB true]:=by
  grind [Qc2,QbM]
 rw[hin] at cI;have hm:=Qnp s (Qc s t);have cP:Pure A0 19 [.pd (rFiles s t (Qc s t) (QaJ s (Qc s t) (Qc s t).length)),dS p] (dI (Qc1 s (Qc s t) p)):=by unfold Qc1;exact bPath s t _ _ _ hm p hp
 refine .inr ⟨_,hm,hs'.1,hs'.2,cI,?_⟩;rw[hpa] at cP;unfold Qad;cases hq:Q7 p with
 |none=>grind
 |some q=>
  rw[hq] at cP;dsimp only at cP⊢;rw[if_pos hs];cases hj:Qa1 s (Qh s t) 0 q with
  |none=>grind
  |some j=>
   rw[hj] at cP;obtain⟨k,rfl⟩:=Int.eq_ofNat_of_zero_le (Qk8 (Int.le_refl 0) hj);obtain⟨M,hM,_⟩:=Qqt hF hj;refine .inr ⟨k,?_,cP,rfl⟩;rw[Int.toNat_natCast] at hM;have:=fd_one hM;omega
def Qny(s:Pm.Store)(hl:QbL s)(t:Pl.Tree)(p:List UInt8)(hp:p.length<=1000000000000):Pure A0 8 [dSt s,dTree t,dS p] (.tup [dI (Qad s t p).1,dB (Qad s t p).2]):=by
 rcases QiR s hl t p hp with⟨⟨a,cI⟩,h⟩|⟨m,_,_,_,cI,⟨i,hi,cP,h⟩|⟨k,_,cP,h⟩⟩
 ·rw[h]
  refine kE ?_;refine Qa 0 (h:=?_);refine Qa 1 (h:=?_)
  repeat refine kA ?_
  all_goals first|exact Qb (hx:=rfl)
 ·have h0:decide (i≥0)=false:=decide_eq_false (by omega)
  rw[h];refine kE ?_;refine Qa 0 (h:=?_);refine Qa 1 (h:=?_)
  repeat' first|refine kS ?_|refine qS (Qfz (m:=0) rfl rfl (if_pos (by omega))) ?_|refine kU ?_|fail
  all_goals first|exact Qb (hx:=by rw[h0])
 ·have h0:decide (((k:Nat):Int)≥0)=true:=decide_eq_true (by omega)
  rw[h];refine kE ?_;refine Qa 0 (h:=?_);refine Qa 1 (h:=?_)
  repeat' first|refine kS ?_|refine qS (Qfz (m:=((k:Nat):Int)) rfl rfl (if_neg (by omega))) ?_|refine kU ?_|fail
  all_goals first|exact Qb (hx:=by rw[h0])
def QbG(s:Pm.Store)(t:Pl.Tree)(p:List UInt8):List UInt8×Bool:=if(Qad s t p).2 then(Qay s ((Qh s t).getD (Qad s t p).1.toNat Qd),Qac s ((Qh s t).getD (Qad s t p).1.toNat Qd)) else([],false)
def QpO(s:Pm.Store)(hl:QbL s)(t:Pl.Tree)(p:List UInt8)(hp:p.length<=1000000000000):Pure A0 9 [dSt s,dTree t,dS p] (.tup [dS (QbG s t p).1,dB (QbG s t p).2]):=by
 unfold QbG;rcases QiR s hl t p hp with⟨⟨a,cI⟩,h⟩|⟨m,_,h1,h2,cI,⟨i,hi,cP,h⟩|⟨k,hk,cP,h⟩⟩
 ·rw[h]
  refine kE ?_;refine Qa 0 (h:=?_);refine Qa 1 (h:=?_)
  repeat refine kA ?_
  all_goals first|exact Qb (hx:=rfl)
 ·rw[h]
  refine kE ?_;refine Qa 0 (h:=?_);refine Qa 1 (h:=?_)
  repeat' first|refine kA ?_|refine kV ?_ ?_<;>intro q|fail
  all_goals first|exact Qb (hx:=rfl)|exfalso;simp only[decide_eq_false_iff_not] at*;omega
 ·rw[h]
  obtain⟨hx,_,hno⟩:=QgN ((QdV s t).1 h2).tab;have c:=bTextA s (Qez h1) (Qfv h1) _ (hno k hk);rcases Qfa hx k with⟨_,h3⟩|⟨hy,hlt,_⟩
  ·exfalso;apply hk;unfold Qr;rw[h3];rfl
  obtain⟨y,hyk⟩: ∃y,(Qc s t)[k]? =some y:=⟨_,A3 hlt⟩;have hr:=Qs (f:=fun x=>[QaK x]) hyk;have hyd:(Qc s t).getD k []=y:=by rw[List.getD_eq_getElem?_getD,hyk];rfl
  have hnx:=QeF (x:=Qc s t) k;rw[hyd] at hnx hy;have e:QaK y= .pd (rNode (Qo y).1):=by unfold QaK;rw[if_neg hy]
  simp only[e] at hr;show Pure _ _ _ (.tup [dS (if true=true then(Qay s ((Qt (Qc s t)).getD k Qd),_) else _).1,dB (if true=true then(_,Qac s ((Qt (Qc s t)).getD k Qd)) else _).2]);simp only[if_true];rw[hnx] at c⊢;generalize Qay s (Qo y).1=tx at*;generalize Qac s (Qo y).1=fo at*;generalize (Qo y).1=N at*;clear hno hx hk h hyk hyd hnx hy e h2;obtain⟨kd,links,size,⟨⟨p1,p2,p3,p4,p5⟩,depth,many⟩⟩:=N;generalize Qc s t=x at*;refine kE ?_;refine Qa 0 (h:=?_);refine Qa 1 (h:=?_)
  repeat' first|refine kS ?_|refine qS (Qdm rfl) ?_|refine qS (iy hr) ?_|refine kU ?_|fail
  all_goals first|exact Qb (hx:=rfl)|exfalso;simp only[decide_eq_true_eq] at*;omega
end Aw
end
section
namespace Gr
variable{kind:Nat->Nat}{en:Nat->Option En}
theorem QtF{es:En}(hn:(es.map (·.1)).Nodup): ∀{e:List UInt8×Nat},e∈es->es.find? (fun x=>x.1==e.1)=some e:=by
 induction es with
 |nil=>grind
 |cons a l ih=>
  grind
theorem fp_find(hnd: ∀k es,en k=some es->(es.map (·.1)).Nodup){r L:List It}(h:FP kind en r L): ∀x∈L,∃y∈r,∃u,x.1=y.1++u/\find kind en y.2 u=some x.2:=by
 induction h with
 |nil=>grind
 |file hk h ih=>
  intro x hx;rcases AH.1 hx with rfl|hx
  ·exact⟨_,A5,[],by simp,rfl⟩
  simp_all
 |@dir p k es r L1 L2 hk he h1 h2 ih1 ih2=>
  intro x hx;rcases AH.1 hx with rfl|hx
  ·exact⟨_,A5,[],by simp,rfl⟩
  ·rcases AE.1 hx with hx|hx
   ·obtain⟨y,hy,u,g1,g2⟩:=ih1 x hx
    obtain⟨e,hem,rfl⟩:=A4.1 hy;refine⟨_,A5,e.1::u,by grind,?_⟩;unfold find;rw[if_pos hk,he,Option.getD_some,QtF (hnd k es he) hem];exact g2
   simp_all
theorem fp_deep{r L:List It}(h:FP kind en r L): ∀x∈L,∃y∈r,x.1.length<=y.1.length+L.length:=by
 induction h with
 |nil=>grind
 |file hk h ih=>
  grind [A5]
 |@dir p k es r L1 L2 hk he h1 h2 ih1 ih2=>
  intro x hx;rcases AH.1 hx with rfl|hx
  ·simp_all
  ·rcases AE.1 hx with hx|hx
   ·obtain⟨y,hy,g⟩:=ih1 x hx
    obtain⟨e,hem,rfl⟩:=A4.1 hy
    grind [A5]
   grind
end Gr
namespace Aw
theorem Qqm{s:Pm.Store}{t:Pl.Tree}(h:(Qa6 s t).2=true): ∀x∈(Qa6 s t).1,∃y∈(Qa6 s t).1,x≠y/\
 ((Qad s t x).2=true->(Qad s t y).2=true->(Qad s t x).1≠(Qad s t y).1/\(QbG s t x).1=(QbG s t y).1):=by
 unfold Qa6 at*;split at h;rotate_left
 ·cases h
 rename_i hs;rw[if_pos hs];have hs':=hs;rw[A2] at hs';have hB:=flatB hs'.2;have hF:=(QdV s t).1 hs'.2;have hnm:=(QiP hs'.2).1;have hOk:=hs'.2;unfold Qab at hOk;simp only[A2,beq_iff_eq,AM,AB] at hOk;obtain⟨L,g1,g2,g3⟩:=QfA s hF.root hOk.1.2;rw[g3] at hnm;have hfl:=QfB (s:=s) (t:=t) (L:=L) (by rw[g3]);rw[hfl] at hB⊢;have hnl:(Qh s t).length=(Qc s t).length:=by grind [Qh]
 have hnode: ∀n∈L,n.2<(Qc s t).length/\Qr (Qt (Qc s t)) n.2≠0:=fun n hn=>by
  have:Qr (Qh s t) n.2≠0:=by rcases g1.fd.kinds n.2 (A4.2 ⟨n,hn,rfl⟩) with h|h<;>omega
  exact⟨by rw[<-hnl];exact QdP this,this⟩
 have hth: ∀n∈L,QbU (QaS s (Qc s t) (Qc s t).length) n.2=(n.2,((Qh s t).getD n.2 Qd).kind==2,Qay s ((Qh s t).getD n.2 Qd)):=fun n hn=>thAt_is (hnode n hn).1 (hnode n hn).2
 have hff: ∀n∈L,Gr.find (Qr (Qh s t)) (QaO (Qh s t) (Qf s)) 0 n.1=some n.2:=fun n hn=>by
  grind [Gr.fp_find,QlS]
 have hnp: ∀n∈L,Qcj n.1:=fun n hn=>Qkr (hnm (QaW n) (A4.2 ⟨n,hn,rfl⟩)).1
 have hfind: ∀n∈L,(Qad s t (QB n.1)).2=true->(Qad s t (QB n.1)).1=(n.2:Nat):=fun n hn hf=>by
  obtain⟨q,j,e1,_,e2,e3,e4⟩:=QlQ hf;obtain⟨r1,_,r3⟩:=QfO.1 e1;have:q=n.1:=Qlr (Qkr fun x hx=>AM.1 r1 x hx) (hnp n hn) r3;subst this;have e5:=Qh1 (nsOk s t) e2
  grind
 intro x hx;unfold QaF at hx;obtain⟨n,hn,rfl⟩:=A4.1 hx;obtain⟨hnL,hn2⟩:=AF.1 hn;simp only[hth n hnL,A2] at hn2;obtain⟨hnk,hnt⟩:=hn2;unfold Qbg at hnt;obtain⟨z,hz,hz2⟩:=AN.1 hnt;simp only[Qbz,A2,bne_iff_ne,ne_eq,beq_iff_eq] at hz2;obtain⟨k,hk,hzk⟩:=A9.1 hz;rw[AB] at hk;unfold QbR at hzk;split at hzk
 ·cases hzk
 rename_i hk0;obtain rfl:=List.mem_singleton.1 hzk;simp only at hz2
 have hmem:k∈L.map (·.2):=by
  have:=hOk.2 k (by omega);unfold Qaw at this;rw[g3,Qhw] at this;simp only[A2,Bool.or_eq_true,beq_iff_eq] at this
  change Qr (Qh s t) k≠0 at hk0
  unfold Qr at hk0;rcases QfP s t k with e|e
  ·rw[e] at hk0;exact absurd rfl hk0
  ·have h1:=e.links
   grind
 obtain⟨m,hm,rfl⟩:=A4.1 hmem;have hne:n.2≠m.2:=fun e=>hz2.1.2 (by rw[e])
 refine⟨QB m.1,A4.2 ⟨m,AF.2 ⟨hm,?_⟩,rfl⟩,fun e=>?_,fun f1 f2=>?_⟩
 ·simp only[hth m hm,A2]
  refine⟨hz2.1.1,AN.2 ⟨_,(Qkj hB hnL).1,?_⟩⟩;simp only[hth n hnL,Qbz,A2,bne_iff_ne,ne_eq,beq_iff_eq];exact⟨⟨hnk,fun e=>hne (by omega)⟩,hz2.2.symm⟩
 ·grind [Qlr]
 ·refine⟨by grind,?_⟩
  unfold QbG;rw[if_pos f1,if_pos f2,hfind n hnL f1,hfind m hm f2];exact hz2.2.symm
theorem Qnd{s:Pm.Store}{t:Pl.Tree}(h:Qab s t=true): ∀x∈(Qa7 s t).1,(QB x.1).length<=1000:=by grind [QiP,Qab,QfA,Gr.fp_deep,Qlq,QaW,Qeq]
theorem Qmv{s:Pm.Store}{t:Pl.Tree}(h:(Qa6 s t).2=true): ∀x∈(Qa6 s t).1,x.length<=1000:=by
 unfold Qa6 at*;split at h;rotate_left
 ·cases h
 rename_i hs;rw[if_pos hs];rw[A2] at hs;intro x hx;unfold QaF at hx;obtain⟨n,hn,rfl⟩:=A4.1 hx;have hn:=(AF.1 hn).1;unfold QaT at hn;obtain⟨m,hm,rfl⟩:=A4.1 hn
 grind [Qnd]
end Aw
end
section
open Go.RowKit
namespace Aw
open Pm (Rep)
def Pure.at{f:AP}{args:List D}{x:D}(h:Pure A0 f args x){w:World}(hL:Pm.Lt w)(cargs:List Value)(hl:args.length=cargs.length)(hr: ∀(i:Nat) d v,args[i]? =some d->cargs[i]? =some v->RelD (fun b=>b<w.heap.size) w d v):
 Calls A0 f cargs.toArray w fun e w'=> ∃v,e= .returned v/\Below w.heap.size w w'/\RelD (fun b=>b<w'.heap.size) w' x v:=by
 have hS:Sm ⟨w,nG,fun _=>False,fun b=>b<w.heap.size⟩ (fun _=>none) (fun b=>b<w.heap.size) [] w:=
  ⟨rfl,rfl,rfl,Nat.le_refl _,fun _ _ _=>rfl,fun _ h=>h,fun b hb=>⟨hb,.inl hb⟩,fun k b hk=>by simp at hk,fun k k' b hk=>by simp at hk,fun k C hC=>by simp at hC⟩
 refine(h ⟨w,nG,fun _=>False,fun b=>b<w.heap.size⟩ (fun _=>none) (fun b=>b<w.heap.size) [] w cargs ⟨rfl,fun _ hb=>hb.elim,hL⟩ hS hl hr).mono fun e w' ⟨v,h1,h2,h3⟩=>⟨v,h1,h2,h3.mono (fun b hb=>?_) fun _ _=>rfl⟩
 have:=h2.size;omega

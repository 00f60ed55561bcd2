/- Of fby_card; no condition. -/
import Derived.Test.YtfmnpmhadmcdkaaGreatDoorT23
import Derived.Test.YtfmnpmhadmcdkaaGreatDoorT24
import Derived.Laws.RangeAny
set_option linter.all false
set_option maxRecDepth 100000
set_option maxHeartbeats 16000000
open Bool renaming false_eq_true->A5,eq_iff_iff->AA,and_eq_true->AO,true_and->AX
open Go.Lib renaming cut->A4,idxFuncFrom->AB,idxFunc->AD,repeatL->Aa
open Go.Proofs.Tryz renaming prog->A1,ntmps146->AG,func146->AK
open Go.RowKit renaming Hid->AN
open Int renaming toNat_natCast->AM
open List renaming getElem?_eq_getElem->A0,mem_of_getElem?->A2,replicate->A3,getD_eq_getElem?_getD->A6,getElem?_eq_some_iff->A7,all_eq_true->A8,length_map->A9,mem_append->AC,getElem_of_mem->AE,replicate_succ->AF,length_append->AH,mem_singleton->AI,take_add_one->AJ,getElem?_map->AL,take_length->AP,length_take->AQ,length_cons->AR,append_nil->AT,length_nil->AU,range->AW,all_map->AY
open Nat renaming min_eq_left->AS,zero_add->AZ
open Option.some renaming injEq->Ab
namespace Go.Proofs.YtfmnpmhadmcdkaaGreatDoor
noncomputable section
section
namespace Aw
variable{p:Pl.Ptr}{t:Pl.Tree}{k:Nat}{α:Type}
def below4P{s:Pm.Store}{n:Int}(h:(Qi s p n).2=true):(Qi s p n).1.length=4:=by
 unfold Qi at h⊢;split
 ·simp
 ·rename_i h1
  rw[if_neg h1] at h;split at h
  ·rename_i h2
   rw[if_pos h2];split at h
   ·cases h
   ·rename_i h3;rw[if_neg h3];exact QnK h
  ·cases h
theorem Qn2(s:Pm.Store): ∀(n:Nat) (l:List Pl.Ptr),(QaY s n l).2=true->(QaY s n l).1.length=l.length*4^n
 |0,l,_=>by simp[QaY]
 |n+1,l,h=>by
  unfold QaY at h⊢;split at h
  ·rename_i h1
   rw[if_pos h1,Qn2 s n _ h,QqY _ l fun p hp=>below4P (A8.1 h1 p hp)]
   grind
  ·cases h
theorem Qev{s:Pm.Store}(h:QH s t=true):t.many.toNat<=(QI s t).1.length/\(∀p∈(QI s t).1,Pl.ptrHole p=true∨(Qf s.1 p).2=true)/\Pl.ptrOk t.root=true:=by
 unfold QH at h;simp only[AO,beq_iff_eq] at h;obtain⟨⟨⟨⟨h1,h2⟩,h3⟩,h4⟩,h5⟩:=h;refine⟨?_,fun p hp=>?_,h3⟩
 ·have:=Qn2 s t.depth.toNat [t.root] h4
  unfold QI;rw[this,h2];simp[Pl.inR] at h1
  grind
 ·obtain⟨i,hi,rfl⟩:=AE hp
  rw[A8] at h5;have:=h5 ((QI s t).1[i],i) (List.mk_mem_zipIdx_iff_getElem?.2 (A0 hi));unfold Qau at this
  grind
def Qey{s:Pm.Store}(h:QH s t=true):(QD s t).1.map (fun p=>(Qf s.1 p).1)=Qc s t:=by
 unfold QD Qc Qe;rw[if_pos h,List.take_append_of_le_length (Qev h).1]
theorem Qs9{rows:List (List UInt8)}(h:Pl.ptrHole p=true):Qf rows p=([],true):=by unfold Qf;grind
theorem Qer{s:Pm.Store}(h:QH s t=true): ∀p∈(QD s t).1,Pl.ptrOk p=true/\((Qf s.1 p).1=[]↔Pl.ptrHole p=true):=by
 intro p hp
 have hp':p∈(QI s t).1:=by
  unfold QD at hp
  grind
 have hok:=Qiz s (Qev h).2.2 p hp';refine⟨hok,fun e=>?_,fun e=>by rw[Qs9 e]⟩;rcases(Qev h).2.1 p hp' with h1|h1
 ·exact h1
 ·by_cases hh:Pl.ptrHole p=true
  ·exact hh
  ·exfalso
   unfold Qf at e h1;rw[if_neg hh] at e h1;split at h1
   ·rename_i hf
    rw[if_pos hf] at e;simp only at e;rw[e] at hf;unfold QaU at hf;simp only[AO,beq_iff_eq] at hf;have hs:p.size=0:=by grind
    have hok2:=hok;unfold Pl.ptrOk at hok2
    grind
   ·cases h1
theorem Qd9{s:Pm.Store}(h:QH s t=true):(QD s t).1.length=t.many.toNat/\t.many.toNat<=16:=by
 have h1:=(Qev h).1;have h2:=Qdo h;have:=h2.manyHi;unfold QD
 grind
def QaR(x:List UInt8):D:=if x=[] then .v (.pointer none) else .pd (rNode (Qp x).1)
abbrev tNds(l:List (List UInt8)):D:= .sl true 1 (l.map fun x=>[QaR x])
theorem Qmq:Qp []=(Qd,false):=Qlo fun p hp=>QpU hp.2 rfl
theorem QkK{p:α->Bool}{l:List α}{x:α}(hx:l[k]? =some x)(h:(l.take k).all p=true)(hp:p x=true):(l.take (k+1)).all p=true:=by
 rw[AJ,hx,List.all_append,h];grind
theorem QlV{p:α->Bool}{l:List α}{x:α}(hx:l[k]? =some x)(hp:p x=false):l.all p=false:=by
 grind
end Aw
end
section
open Go.RowKit
namespace Aw
variable{k:Nat}{α:Type}{out:List Qq}{rest:List UInt8}{t:Pl.Tree}{w:Pl.Sto}
attribute [local irreducible] ASeq ADraw AWP Loc
theorem set_mid{A R:List α}{a v:α}(h:A.length=k):(A++a::R).set k v=A++v::R:=by subst h;simp
theorem get_mid{A R:List α}{a:α}(h:A.length=k):(A++a::R)[k]? =some a:=by grind
theorem bNodes(s:Pm.Store)(hg:QP s)(htx:0<=s.2.2.1)(t:Pl.Tree):Pure A1 56 [.pd (rSt s),dTree t] (.tup [tNds (if Qat s t then Qc s t else []),dB (Qat s t)]):=by
 have c1:=bLeaves s hg htx t;have hd:AN (Qat s t=(QH s t&&(Qc s t).all fun x=>(x==[])||((Qp x).2&&QH s (Qp x).1.tree))):=Pm.hid rfl;have hlv:AN (∀t,QH s t=(QD s t).2):=Pm.hid fun t=>by unfold QD;split<;>simp_all
 cases ht:QH s t
 ·have e:QD s t=([],false):=by unfold QD;rw[if_neg (by rw[ht];simp)]
  rw[e] at c1;have hno:Qat s t=false:=by rw[hd.out,ht];rfl
  rw[hno];refine kE ?_;refine Qa 0 (h:=?_)
  repeat refine kA ?_
  refine Qed 4 true 1 (h:=?_);exact Qb (hx:=rfl)
 have e2:(QD s t).2=true:=by rw[<-hlv.out,ht]
 have hlen:=Qd9 ht;have hho:=Pm.hid (Qer ht);have htx2:=Pm.hid (Qey ht);rw[ht,AX] at hd;rw[e2] at c1;rw[<-hlen.1] at hlen;generalize (QD s t).1=l at*;have hl16:l.length<=16:=hlen.2
 have hNo:AN (∀(k:Nat) p,l[k]? =some p->(((Qf s.1 p).1==[])||((Qp (Qf s.1 p).1).2&&QH s (Qp (Qf s.1 p).1).1.tree))=false->Qat s t=false):=Pm.hid fun k p hk h=>by
  rw[hd.out,<-htx2.out,AY];exact QlV hk h
 have hYes:AN (l.all (fun p=>((Qf s.1 p).1==[])||((Qp (Qf s.1 p).1).2&&QH s (Qp (Qf s.1 p).1).1.tree))=true->Qat s t=true/\(Qc s t).map (fun x=>[QaR x])=l.map (fun p=>[QaR (Qf s.1 p).1])):=Pm.hid fun h=>by
  rw[hd.out,<-htx2.out,AY,List.map_map];exact⟨h,rfl⟩
 clear hd htx2 hlen e2 ht;generalize hres:Qat s t=res at*;generalize hrt:Qc s t=txs at*;clear hres hrt;refine kE ?_;refine Qa 0 (h:=?_)
 repeat' first|refine kS ?_|refine stepS2 (QhO Ty.h rfl Ty.h rfl rfl rfl (by simp;omega) (by omega)) (k:=?_)|refine kU ?_|fail
 refine Qo (fun m st=> ∃(k:Nat) (rows:List (List D)),k<=l.length/\m=l.length -k/\rows.length=l.length/\AN (rows=(l.take k).map (fun p=>[QaR (Qf s.1 p).1])++A3 (l.length -k) [D.v (.pointer none)])/\
  AN ((l.take k).all (fun p=>((Qf s.1 p).1==[])||((Qp (Qf s.1 p).1).2&&QH s (Qp (Qf s.1 p).1).1.tree))=true)/\
  st=⟨64,[(0,.d (.pd (rSt s))),(28,.d (tPtrs l)),(29,.d (dI l.length)),(30,.d (dI k)),(8,.osl 1 0 0 l.length)],[.row 1 [],.arr 0 1 92 rows]⟩) [0,28,29,30,8] 2 l.length
  ⟨0,A3 l.length [D.v (.pointer none)],by omega,rfl,by simp,Pm.hid (by simp),Pm.hid rfl,by simp[keepE,go_sem]⟩ (round:=?_)
 rintro m st ⟨k,rows,hk,rfl,hlen,hR,hA,rfl⟩
 repeat refine kG ?_
 cases q4:decide ((k:Int)<(l.length:Int))
 ·repeat refine kA ?_
  refine Qa 1 (h:=?_);refine Qb (hx:=?_);have:k=l.length:=by simp at q4;omega
  subst this;rw[AP] at hA hR;obtain⟨r1,r2⟩:=hYes.out hA.out;rw[r1,if_pos rfl];show _=D.tup [D.sl true 1 (txs.map fun x=>[QaR x]),_];rw[r2,<-hlen,AP,hR.out];simp
 have hk2:k<l.length:=by simp at q4;omega
 obtain⟨x,hx⟩: ∃x,l[k]? =some x:=⟨_,A0 hk2⟩;have hr:=Qt (f:=rPtr) hx;obtain⟨ho1,ho2⟩:=hho.out x (A2 hx);have c2:=Qep x;have c3:=bRead s hg x fun _=>ho1
 have c4:=Qt2 (Qf s.1 x).1 (by have:=Qh4 s hg x;unfold Pm.big;omega);have c5:=bLeaves s hg htx (Qp (Qf s.1 x).1).1.tree;have hlt:=hlv.out (Qp (Qf s.1 x).1).1.tree;have hBad:=Pm.hid (hNo.out k x hx);have hGood:AN ((((Qf s.1 x).1==[])||((Qp (Qf s.1 x).1).2&&QH s (Qp (Qf s.1 x).1).1.tree))=true->(l.take (k+1)).all (fun p=>((Qf s.1 p).1==[])||((Qp (Qf s.1 p).1).2&&QH s (Qp (Qf s.1 p).1).1.tree))=true):=Pm.hid fun h=>QkK hx hA.out h
 have hstep:AN (rows.set k [QaR (Qf s.1 x).1]=(l.take (k+1)).map (fun p=>[QaR (Qf s.1 p).1])++A3 (l.length -(k+1)) [D.v (.pointer none)]):=Pm.hid (by
  have e1:l.length -k=(l.length -(k+1))+1:=by omega
  rw[hR.out,e1,AF,set_mid (by rw[A9,AQ,AS hk]),AJ,hx,List.map_append,List.append_assoc];rfl)
 have hrow:rows[k]? =some [D.v (.pointer none)]:=by
  have e1:l.length -k=(l.length -(k+1))+1:=by omega
  rw[hR.out,e1,AF,get_mid (by rw[A9,AQ,AS hk])]
 have hsame:rows.set k [D.v (.pointer none)]=rows:=by
  apply List.ext_getElem?;intro j
  by_cases hj:k=j
  ·subst hj;rw[List.getElem?_set_self (by omega),hrow]
  ·rw[List.getElem?_set_ne hj]
 have hnd:AN (QaR (Qf s.1 x).1=if(Qf s.1 x).1=[] then D.v (.pointer none) else .pd (rNode (Qp (Qf s.1 x).1).1)):=Pm.hid rfl;have hrow2:rows[0+((k:Nat):Int).toNat]? =some [D.v (.pointer none)]:=by simpa using hrow
 clear hx hho hA hYes hNo hlv hR;cases hh:Pl.ptrHole x;rotate_left
 ·have ht:=ho2.2 hh
  rw[hh] at c2
  repeat' first|refine kS ?_|refine qS (iy hr) ?_|refine kU ?_|fail
  refine Qh (l.length -(k+1)) (by omega) ⟨k+1,rows,by omega,rfl,hlen,Pm.hid ?_,Pm.hid (hGood.out (by rw[ht];rfl)),by simp[keepE,go_sem]⟩;rw[<-hstep.out,hnd.out,if_pos ht,hsame]
 rw[hh] at c2;have ht:(Qf s.1 x).1≠[]:=fun e=>by rw[ho2.1 e] at hh;cases hh
 rw[if_neg ht] at hnd;have hne:((Qf s.1 x).1==[])=false:=by simpa using ht
 rw[hne,Bool.false_or] at hBad hGood;clear ho1 ho2 hh hsame hne;generalize Qf s.1 x=rb at*;obtain⟨tx,fine⟩:=rb;simp only at*;generalize QD s (Qp tx).1.tree=lp at*;obtain⟨lp1,lp2⟩:=lp;simp only at hlt c5;rw[hlt] at hBad hGood;generalize QaR tx=ndx at*;generalize Qp tx=nn at*;obtain⟨⟨kind,links,size,⟨⟨p1,p2,p3,p4,p5⟩,depth,many⟩⟩,nok⟩:=nn;simp only at*
 repeat' first|refine kS ?_|refine qS (iy hr) ?_|refine(QlO Ty.h rfl rfl hrow2 rfl (kk:=?_))|(show ASeq _ _ _ (⟨none,.store _ (.tmp 61) _,_,_,_,_⟩::_) _;refine Qeo 3 (C:= .row 0 _) (h:=?_))|refine kU ?_|refine kV ?_ ?_<;>intro q|fail
 ·refine Qed 4 true 1 (h:=?_)
  refine Qb (hx:=?_);rw[hBad.out (by simp_all)];rfl
 ·refine Qed 4 true 1 (h:=?_)
  refine Qb (hx:=?_);rw[hBad.out (by simp_all)];rfl
 ·refine Qh (l.length -(k+1)) (by omega) ⟨k+1,rows.set k [ndx],by omega,rfl,by simpa using hlen,hstep,Pm.hid (hGood.out (by simp_all)),?_⟩
  rw[hnd.out];simp[keepE,go_sem]
def Qh3: ∀c:Nat,Aa [0] c=A3 c 0
 |0=>rfl
 |c+1=>by rw[Aa,Qh3 c];rfl
def Qty(c:Nat)(hc:c<=1000):Pure A1 118 [dS [0],dI c] (dS (A3 c 0)):=
 Qdv (x:= .string ⟨(A3 c 0).toArray⟩) rfl fun w _=>(Tryz.strings_Repeat ⟨#[0]⟩ c w (by omega) (by show 1*c<=_;omega)).mono fun e w' h=>⟨by rw[<-Qh3];exact h.1,h.2⟩
def Qmf(s:List UInt8):([0]:List UInt8).isSuffixOf s= !(QaP s==s):=by
 rw[AA,List.isSuffixOf_iff_suffix];have:=Qr6 s;rcases List.eq_nil_or_concat s with rfl|⟨l,c,rfl⟩
 ·simp[QnV]
 ·rw[List.concat_eq_append] at*
  have h1:([0]:List UInt8)<:+l++[c]↔c=0:=by
   constructor
   ·rintro⟨t,ht⟩
    have:=List.append_inj' ht rfl;have:=this.2;simp at this;exact this.symm
   ·rintro rfl;exact⟨l,rfl⟩
  rw[h1];simp only[List.getLast?_append,List.getLast?_singleton,Option.some_or,ne_eq,Ab] at this
  by_cases hc:c=0
  ·simp[hc] at this⊢;exact this
  ·simp[hc] at this⊢;exact this
def Qa7(size:Int)(k:Int):Int:=if 0<(if size -k*12<12 then size -k*12 else 12) then(if size -k*12<12 then size -k*12 else 12) else 0
def Qpj(size:Int)(k:Nat)(h0:0<=size)(h1:size<=2048)(hk:k<=100):Pure A1 67 [dI size,dI k] (dI (Qa7 size k)):=by
 refine kB ?_
 repeat' first|refine kS ?_|refine qS (Qdu rfl rfl (by omega)) ?_|refine qS (Qmy rfl rfl) ?_|refine qS (Qmz rfl rfl) ?_|refine kU ?_|fail
 exact Qb (hx:=by unfold Qa7;rfl)
def Qhi{size:Int}(h:(k:Int)*12<size):Qa7 size k=Qa6 size k:=by
 unfold Qa7 Qa6;split<;>split<;>omega
def Qa1(s:List UInt8)(n:Int):List UInt8×Bool:=if Pl.inR n 0 12&&decide ((s.length:Int)<=n) then(s++A3 (n -s.length).toNat 0,true) else([],false)
def Qpk(s:List UInt8)(n:Int)(hs:s.length<=1000000):Pure A1 66 [dS s,dI n] (.tup [dS (Qa1 s n).1,dB (Qa1 s n).2]):=by
 have hd:=Pm.hid (Qa1.eq_def s n);generalize Qa1 s n=res at*;have c1:=bIn n 0 12;cases hi:Pl.inR n 0 12
 ·rw[hi] at c1 hd
  refine kB ?_
  repeat refine kA ?_
  refine Qb (hx:=?_);rw[hd.out];rfl
 rw[hi] at c1 hd;have hb:0<=n/\n<=12:=by simpa[Pl.inR] using hi
 by_cases hle:(s.length:Int)<=n
 rotate_left
 ·refine kB ?_
  repeat' first|refine kA ?_|refine kV ?_ ?_<;>intro q|fail
  all_goals first|refine Qb (hx:=?_);rw[hd.out,decide_eq_false hle];rfl|exfalso;simp at*;omega
 have c2:=Qty (n -s.length).toNat (by omega);have e2:(((n -s.length).toNat:Nat):Int)=n -s.length:=by omega
 rw[e2] at c2;refine kB ?_
 repeat' first|refine kS ?_|refine qS (QcX rfl rfl (by simp;omega)) ?_|refine kU ?_|refine kV ?_ ?_<;>intro q|fail
 all_goals first|refine Qb (hx:=?_);rw[hd.out,decide_eq_true hle];rfl|exfalso;simp at*;omega
def Qa4(x:Nat):Bool:=decide ((x:Int)<97)||decide ((x:Int)>122)
theorem Qtb(x:Nat)(w:World):Calls A1 146 #[.int .i32 x] w fun e w'=>e= .returned (.bool (Qa4 x))/\w=w':=by
 by_cases h1:(x:Int)<97
 ·have hf:=Pm.hid (show Qa4 x=true by simp[Qa4,h1])
  go_enter AK,AG
  go_wp2
  go_ret
  exact⟨Pm.Qds hf.out.symm,rfl⟩
 ·by_cases h2:(x:Int)>122
  ·have hf:=Pm.hid (show Qa4 x=true by grind [Qa4])
   have h3:(122:Int)<x:=h2
   go_enter AK,AG
   go_wp2
   go_ret
   exact⟨Pm.Qds (by rw[hf.out]),rfl⟩
  ·have hf:=Pm.hid (show Qa4 x=false by grind [Qa4])
   have h3: ¬(122:Int)<x:=h2
   go_enter AK,AG
   go_wp2
   go_ret
   exact⟨Pm.Qds hf.out.symm,rfl⟩
theorem Qi6(s:ByteArray): ∀(f pos:Nat),s.size<=pos+f->(AB Qa4 true s f pos<0↔ ∀i (h:i<s.size),pos<=i->QaZ s[i]=true)
 |0,pos,hf=>by
  grind [AB]
 |f+1,pos,hf=>by
  unfold AB;split
  ·rename_i hlt
   by_cases ha:(s[pos]'hlt).toNat<128
   ·rw[decode_ascii s pos hlt ha]
    by_cases hl:QaZ (s[pos]'hlt)=true
    ·have hb:Qa4 (s[pos]'hlt).toNat=false:=by
      grind [QaZ,Qa4]
     simp only[hb,A5,if_false];rw[Qi6 s f (pos+1) (by omega)]
     grind
    grind [Qa4,QaZ]
   grind [decode_high,Qa4,QaZ]
  grind
def Qk3(s:List UInt8)(hs:s.length<=1000000):PureF A1 145 [.d (dS s),.fn (.func 146) []] (dI (AD Qa4 true ⟨s.toArray⟩)):=by
 intro B S w cargs hB hS hl hr
 match cargs,hl with
 |[a,b],_=>
  have h0:=hr 0 _ a rfl rfl;have h1:=hr 1 _ b rfl rfl;cases h0 with
  |d _ _ h0=>
   cases h0;cases h1 with
   |fn _ _ cs hl1 _=>
    obtain rfl:cs=[]:=List.length_eq_zero_iff.1 hl1.symm;refine(Tryz.strings_IndexFunc_runes 146 #[] Tryz.call146 Qa4 ⟨s.toArray⟩ w (fun W x _ _=>?_)).mono fun e w' h=>⟨_,h.1,h.2,.v _⟩
    exact(Qtb x W).mono fun e w' h=>⟨h.1,0,by rw[<-h.2];rfl⟩
def QoB(s:List UInt8):(decide (AD Qa4 true ⟨s.toArray⟩<0))=s.all QaZ:=by
 rw[AA,decide_eq_true_eq];unfold AD;rw[Qi6 _ _ 0 (by omega),A8];constructor
 ·intro h x hx
  obtain⟨i,hi,rfl⟩:=AE hx;exact h i hi (Nat.zero_le _)
 ·intro h i hi _
  exact h _ (List.getElem_mem (show i<s.length from hi))
theorem bNameOk(s:List UInt8)(hs:s.length<=1000000):Pure A1 83 [dS s] (dB (QF s)):=by
 have hd:AN (QF s=(s.all QaZ&&Pl.inR s.length 1 4)):=Pm.hid (Qlq s);have c1:=bIn s.length 1 4;have c2:=Qk3 s hs;rw[<-QoB] at hd;generalize AD Qa4 true ⟨s.toArray⟩=ix at*;generalize Pl.inR s.length 1 4=o at*;refine kB ?_
 repeat' first|refine kS ?_|refine qS (Qeq cK c2 rfl rfl) ?_|refine kU ?_|refine kV ?_ ?_<;>intro q|fail
 all_goals
  refine Qb (hx:=?_);rw[hd.out]
  simp_all
theorem Qps(l:List Qq)(hl:l.length<=Pm.big)(hs: ∀e∈l,e.1.length<=1000000):Pure A1 181 [dEnts l] (dB (Qab l)):=by
 simp only[Pm.big] at hl;have hd:AN (Qab l=((AW l.length).all (QaD l)&&decide (l.length<=12))):=Pm.hid rfl;refine kB ?_
 repeat refine kA ?_
 refine Qo (fun m st=> ∃k:Nat,k<=l.length/\m=l.length -k/\AN ((AW k).all (QaD l)=true)/\st=⟨41,[(5,.d (dEnts l)),(6,.d (dI l.length)),(7,.d (dI k)),(0,.d (dEnts l))],[]⟩) [5,6,7,0] 0 l.length ⟨0,by omega,rfl,Pm.hid rfl,by simp[keepE,go_sem]⟩ (round:=?_);rintro m st ⟨k,hk,rfl,hA,rfl⟩
 repeat refine kG ?_
 cases q3:decide ((k:Int)<(l.length:Int))
 ·repeat refine kA ?_
  refine Qb (hx:=?_);have:k=l.length:=by simp at q3;omega
  have h:=hA.out;rw[this] at h;rw[hd.out,h];refine congrArg dB ?_;simp;omega
 have hk2:k<l.length:=by simp at q3;omega
 obtain⟨x,hx⟩: ∃x,l[k]? =some x:=⟨_,A0 hk2⟩;have hr:=Qt (f:=rEnt) hx;obtain⟨y,hy⟩: ∃y,l[k -1]? =some y:=⟨_,A0 (by omega)⟩
 have hr2:AN (0<k->(l.map rEnt)[((k:Int) -1).toNat]? =some (rEnt y)):=fun h=>by
  rw[show((k:Int) -1).toNat=k -1 by omega,AL,hy];rfl
 have he:AN (QaD l k=(QF x.1&&Pl.inR x.2 1 15&&(decide (k=0)||Op.bytesLess y.1 x.1))):=Pm.hid (by
  unfold QaD;simp only[A6,hx,hy,Option.getD_some])
 have T:AN (QaD l k=true->(AW (k+1)).all (QaD l)=true):=fun h=>Pl.Qdd (p:=QaD l) hA.out h
 have F:AN (QaD l k=false->Qab l=false):=fun h=>by
  rw[hd.out,Pl.Qda (p:=QaD l) hk2 h];rfl
 have c1:=bNameOk x.1 (hs x (A2 hx));have c2:=bIn x.2 1 15;rw[he.out] at T F;clear hx hy hA hd he;generalize QF x.1=o1 at*;generalize Pl.inR x.2 1 15=o2 at*
 repeat' first|refine kS ?_|refine qS (iy hr) ?_|refine qD (QcV Ty.h rfl Ty.h rfl rfl rfl (by simp only[decide_eq_true_eq] at*;omega) (hr2.out (by simp only[decide_eq_true_eq] at*;omega))) ?_|refine qD (Qjv rfl rfl) ?_|refine kU ?_|refine kV ?_ ?_<;>intro q|fail
 all_goals clear c1 c2 hr hr2
 all_goals simp only[decide_eq_true_eq,decide_eq_false_iff_not] at*
 all_goals first|refine Qh (l.length -(k+1)) (by omega) ⟨k+1,by omega,rfl,Pm.hid (T.out ?_),by simp[keepE,go_sem]⟩;clear T F;simp_all;try omega|refine Qb (hx:=?_);rw[F.out ?_];clear T F;simp_all;try omega
attribute [local irreducible] AStep Fg.PlanF Fg.Flts EndR
def ePut_a(g:Nat)(w:Pl.Sto)(N:Nat)(hN:N<=800000)(hw:w.W N)(t:Pl.Tree)(ht:Qx t)(k:Nat)(hk:k<16)(text:List UInt8)(htx:text.length<=Pm.big)(h1:(Qf w.rows ((Qe w.st t).getD k Pl.hole)).1=text):
 DoesE A1 46 [oS g w,.d (dTree t),.d (dI k),.d (dS text)] (hS g w) (gS g w) (fun x H=> ∃g',((Qm w t k text).2.2=false->g'=g)/\x= .tup [oS g' (Qm w t k text).1,.d (dTree (Qm w t k text).2.1),.d (dB (Qm w t k text).2.2)]/\H=hS g' (Qm w t k text).1):=by
 have hgood:=hw.good;have c1:=dWide w.st hgood t ht;have hl:=Qd3 w.st ht.hi;have ho:=Qfn w.st ht.root
 have hfl:[Blk.arr 2 5 31 ((Qe w.st t).map rPtr)].all Blk.flat=true:=by
  simp[Blk.flat];intro x _;exact⟨rfl,rfl,rfl,rfl,rfl⟩
 have hd:=Pm.hid (Qm.eq_def w t k text);have hm1:=ht.manyLo;have hm2:=ht.manyHi;have hmx:(if((k:Int)+1)>t.many then((k:Int)+1) else t.many)=((max t.many.toNat (k+1):Nat):Int):=by split<;>omega
 have hmk:max t.many.toNat (k+1)<=16:=by omega
 have hmq:(max t.many.toNat (k+1)=t.many.toNat)↔((max t.many.toNat (k+1):Nat):Int)=t.many:=by omega
 generalize max t.many.toNat (k+1)=many at*;generalize Qm w t k text=res at*;generalize Qe w.st t=wd at*;have hkl:k<wd.length:=by omega
 have hr0:(wd.map rPtr)[0+(k:Int).toNat]? =some (rPtr (wd.getD k Pl.hole)):=by
  rw[AZ,AM,AL,A6,A0 hkl];rfl
 have hoo:=Qgy ho k;have hset: ∀p,(wd.map rPtr).set (0+(k:Int).toNat) (rPtr p)=(wd.set k p).map rPtr:=fun p=>by rw[AZ,AM,List.map_set]
 have hsl: ∀p,(wd.set k p).length=16:=fun p=>by rw[List.length_set];exact hl
 have hT: ∀p,((wd.set k p).map rPtr).take 16=(wd.set k p).map rPtr:=fun p=>List.take_of_length_le (by simp[hl])
 have hso: ∀p,Pl.ptrOk p=true-> ∀q∈wd.set k p,Pl.ptrOk q=true:=fun p hp q hq=>by
  rcases List.mem_or_eq_of_mem_set hq with e|e
  ·exact ho q e
  ·rw[e];exact hp
 have c2:=al7R w.st hgood (wd.getD k Pl.hole) fun _=>hoo
 have hF: ∀(w1:Pl.Sto) (p:Pl.Ptr),AN (Qa5 w1 t k many p wd=if(Qw w1 t (wd.set k p) many).2.2 then(if p=wd.getD k Pl.hole then(Qw w1 t (wd.set k p) many).1 else(Qw w1 t (wd.set k p) many).1.free (wd.getD k Pl.hole),(Qw w1 t (wd.set k p) many).2.1,true)
  else((Qw w1 t (wd.set k p) many).1,(Qw w1 t (wd.set k p) many).2.1,false)):=fun w1 p=>Pm.hid rfl
 generalize wd.getD k Pl.hole=old at*;rw[show w.st.1=w.rows from rfl] at c2;generalize Qf w.rows old=rb at*;obtain⟨was,wok⟩:=rb;simp only at c2 hd h1;have hw':=hw.le (M:=N+1) (by omega)
 have go: ∀(w1:Pl.Sto) (p:Pl.Ptr),w1.W (N+1)->Pl.ptrOk p=true->w1.gone=w.gone->AN (res=Qa5 w1 t k many p wd)->
  (w=w1/\old=p/\(was==text)=true/\AN (((many:Int)==t.many)=false))->
  DoesE A1 46 [oS g w,.d (dTree t),.d (dI k),.d (dS text)] (hS g w) (gS g w) (fun x H=> ∃g',(res.2.2=false->g'=g)/\x= .tup [oS g' res.1,.d (dTree res.2.1),.d (dB res.2.2)]/\H=hS g' res.1):=by
  intro w1 p hw1 hp hgn hd hcase;rw[(hF w1 p).out] at hd;have cL:=pinS (X:=fun g'=> .tup [oS g' (Qw w1 t (wd.set k p) many).1,.d (dTree (Qw w1 t (wd.set k p) many).2.1),.d (dB (Qw w1 t (wd.set k p) many).2.2)]) (C:=fun g'=>(Qw w1 t (wd.set k p) many).2.2=false->g'=g) (eLay g w1 (N+1) (by omega) hw1 t ht.root (wd.set k p) (hsl p) (hso p hp) many hmk);have hWy:=(lay_W hw1 ht.root (hso p hp) hmk).1;have hst:=hset p;rw[<-show(AV.d (.sl true 5 (((wd.set k p).map rPtr).take 16)))= .d (tPtrs (wd.set k p)) by rw[hT]] at cL;generalize Qw w1 t (wd.set k p) many=y at*;clear hset hT hso hsl;generalize (wd.set k p).map rPtr=rows2 at*;obtain⟨w2,t2,ok2⟩:=y;simp only at cL hd hWy;rw[hgn] at cL;have v0:w2.rows.length=w.rows.length:=by rw[hWy.rows,hw.rows]
  have v1:w2.refs.length=w.refs.length:=by rw[hWy.refs,hw.refs]
  have v2:w2.last.length=w.last.length:=by rw[hWy.last,hw.last]
  have cf:=fun g'=>eFree2 g' w2 (N+1+13) (by omega) hWy old hoo
  have hWf:=hWy.free hoo;have u0:(w2.free old).rows.length=w.rows.length:=by rw[hWf.rows,hw.rows]
  have u1:(w2.free old).refs.length=w.refs.length:=by rw[hWf.refs,hw.refs]
  have u2:(w2.free old).last.length=w.last.length:=by rw[hWf.last,hw.last]
  generalize w2.free old=wf at*;clear hWf hWy hF;have hpo: ∃b,decide (p=old)=b:=⟨_,rfl⟩;obtain⟨bpo,hpo⟩:=hpo;have hdF:ok2=false->AN (res=(w2,t2,false)):=fun e=>Pm.hid (by rw[hd.out,e];rfl)
  have hdT:ok2=true->bpo=true->AN (res=(w2,t2,true)):=fun e e3=>Pm.hid (by rw[hd.out,e,if_pos rfl,if_pos (of_decide_eq_true (hpo.trans e3))])
  have hdN:ok2=true->bpo=false->AN (res=(wf,t2,true)):=fun e e3=>Pm.hid (by rw[hd.out,e,if_pos rfl,if_neg (of_decide_eq_false (hpo.trans e3))])
  clear hd;obtain⟨rfl,rfl,hb1,hb2⟩:=hcase;obtain rfl:bpo=true:=by rw[<-hpo];simp
  clear hdN cf;cases ok2
  all_goals
   refine kH fun gvs=>?_
   repeat' first|refine kS ?_|refine(QdK (ds:=[dTree t]) c1 cK hw rfl hfl (k:=?_))|refine qS (QcY Ty.h rfl rfl hr0 rfl) ?_|refine qS (QcZ cK c2 hw) ?_|refine qS (QgH rfl rfl hmx) ?_|refine qS (Qd8 rfl rfl hb1) ?_|refine qS (QdS rfl rfl hb1) ?_|refine(Qnc Ty.h rfl rfl hr0 hst (kk:=?_))|refine(Qa 9 (C:= .arr 2 5 31 rows2) (h:=?_))|(refine QA [0,1,2,3,4] cL cK (k:=?_);rintro _ _ ⟨g2,hg2,hC,rfl,rfl⟩;refine Qd1 (k:=?_))|refine qS (Qiw rfl rfl hpo) ?_|refine(Qa 6 (h:=Fg.awp_drawF [1] [2,3] ?_))|refine kU ?_|refine kV ?_ ?_<;>intro q|fail
  all_goals first
   |exact absurd (hb2.out.symm.trans ‹((many:Int)==t.many)=true›) (by decide)
   |(obtain rfl:=hC rfl
     rcases hg2 with hg2|⟨_,hg2⟩
     ·omega
     ·refine QN 5 (hx:=?_)
      rw[(hdF rfl).out]
      exact⟨_,fun _=>rfl,rfl,rfl⟩)
   |(have hg4:g<g3∨g3=g/\wf.gone.length=w.gone.length:=by
      rcases hg2 with h1|⟨h1,h2⟩<;>rcases hg3 with h3|⟨h3,h4⟩<;>first|(left;omega)|(right;exact⟨by omega,h4.trans h2⟩)
     rcases hg4 with hg4|⟨rfl,hg4⟩<;>(refine QN 5 (hx:=?_);rw[(hdN rfl rfl).out];refine⟨_,?_,rfl,rfl⟩;intro h;cases h))
   |(rcases hg2 with hg2|⟨rfl,hg2⟩<;>(refine QN 5 (hx:=?_);rw[(hdT rfl rfl).out];refine⟨_,?_,rfl,rfl⟩;intro h;cases h))
 have hb1: ∀b,decide (was=text)=b->(was==text)=b:=fun b h=>by rw[<-h];by_cases e:was=text<;>simp[e]
 replace hb1:=hb1 true (by simpa using h1)
 rw[if_pos h1] at hd
 by_cases h2:many=t.many.toNat
 ·have hb2:AN (((many:Int)==t.many)=true):=Pm.hid (by simpa using hmq.1 h2)
  rw[if_pos h2] at hd;clear hF hset hT hso;refine kH fun gvs=>?_
  repeat' first|refine kS ?_|refine(QdK (ds:=[dTree t]) c1 cK hw rfl hfl (k:=?_))|refine qS (QcY Ty.h rfl rfl hr0 rfl) ?_|refine qS (QcZ cK c2 hw) ?_|refine qS (QgH rfl rfl hmx) ?_|refine qS (Qd8 rfl rfl hb1) ?_|(show AWP _ (.region 6 _ _) _ _;refine(Qa 6 (h:=Fg.awp_drawF (id:=6) [1] [2,3] ?_)))|refine kU ?_|refine kV ?_ ?_<;>intro q|fail
  all_goals first|exact absurd (hb2.out.symm.trans ‹((many:Int)==t.many)=false›) (by decide)|refine QN 5 (hx:=?_);rw[hd.out];exact⟨g,fun _=>rfl,rfl,rfl⟩
 have hb2:AN (((many:Int)==t.many)=false):=Pm.hid (by simpa using fun e=>h2 (hmq.2 e));rw[if_neg h2] at hd;exact go w old hw' hoo rfl hd ⟨rfl,rfl,hb1,hb2⟩
def bCut(c:UInt8)(s:List UInt8)(hs:s.length<=4294967280):Pure A1 178 [dS s,dS [c]] (.tup [dS (A4 s [c]).1,dS (A4 s [c]).2.1,dB (A4 s [c]).2.2]):=
 QeY (xs:=[.string ⟨(A4 s [c]).1.toArray⟩,.string ⟨(A4 s [c]).2.1.toArray⟩,.bool (A4 s [c]).2.2]) rfl fun w hL=>by
  obtain⟨m,hm⟩:=hL.maxl;refine(Tryz.strings_Cut ⟨s.toArray⟩ ⟨#[c]⟩ m w (by rw[Pm.QhF];omega) hm).mono fun e w' ⟨he,n,hw⟩=>⟨?_,hw▸Pm.Qg2 w n⟩
  rw[he]
def Qcn(e:Qq):Prop:=(59:UInt8)∉e.1/\(61:UInt8)∉e.1/\0<=e.2/\e.2<1000000000
theorem Qrm{e:Qq}(h:Qcn e):QaA (Qas e)=some e:=by
 obtain⟨h0,h1,h2,h3⟩:=h
 grind [QaA,Qas,Pl.Qeb,Pl.Qe1,QgU,Pl.Qdw]
theorem QgQ(rest:List UInt8): ∀{l:List Qq},(∀e∈l,Qcn e)->Pl.cutB 59 (QG l++rest)=l.map Qas++Pl.cutB 59 rest
 |[],_=>rfl
 |e::l,h=>by
  have h1:QG (e::l)++rest=Qas e++59::(QG l++rest):=by simp[QG]
  have hn:(59:UInt8)∉Qas e:=by
   unfold Qas;intro hm;rcases AC.1 hm with hm|hm
   ·exact(h e List.mem_cons_self).1 hm
   grind [QgU]
  rw[h1,Pl.Qeb 59 _ _ hn,QgQ rest fun x hx=>h x (List.mem_cons_of_mem _ hx)];rfl
theorem eg_end{s:List UInt8}(hE: ∀e∈out,Qcn e)(hs:s=QG out):QbP s=if Qab out=true then(out,true) else([],false):=by
 have hc:=QgQ [] hE;rw[AT,<-hs] at hc
 rw[Qrp (m:=out) (by grind [Pl.cutB]) fun i e he=>⟨Qas e,by
  grind,Qrm (hE e (A2 he))⟩]
 simp[hs]
theorem eg_pre{s one tail:List UInt8}{p:List Qq}(hE: ∀e∈out,Qcn e)(hs:s=QG out++(one++59::tail))(hn:(59:UInt8)∉one)(h:Qb8 s p): ∃e,p[out.length]? =some e/\one=Qas e:=by
 have hc:=QgQ (one++59::tail) hE;rw[<-hs,<-h.2,QhQ (ent_b h.1),Pl.Qeb 59 _ _ hn] at hc;have hl:=congrArg List.length hc;have hne:=List.length_pos_iff.2 (Pl.Qhu 59 tail);simp only[AH,A9,AR,AU] at hl;have hi:=congrArg (fun l=>l[out.length]?) hc
 grind
theorem eg_cut0{s:List UInt8}(hE: ∀e∈out,Qcn e)(hs:s=QG out++rest)(hr:rest≠[])(h:(59:UInt8)∉rest):QbP s=([],false):=by
 refine QnM fun p hp=>hr ?_
 have hc:=QgQ rest hE;rw[<-hs,<-hp.2,QhQ (ent_b hp.1),Pl.Qe1 59 _ h] at hc
 simp_all
structure EgStep(s rest:List UInt8)(out:List Qq)(w v:List UInt8×List UInt8×Bool)(g:Option Nat):Prop where
 bad:(w.2.2&&v.2.2&&g.isSome&&decide (out.length≠12))=false->QbP s=([],false)
 good:(w.2.2&&v.2.2&&g.isSome)=true->s=QG (out++[(v.1,((g.getD 0:Nat):Int))])++w.2.1/\Qcn (v.1,((g.getD 0:Nat):Int))/\w.2.1.length<rest.length
 l1:w.1.length<=rest.length
 l2:w.2.1.length<=rest.length
 l3:v.1.length<=rest.length
 l4:v.2.1.length<=rest.length
theorem eg_next{s:List UInt8}(hE: ∀e∈out,Qcn e)(hs:s=QG out++rest)(hr:rest≠[]):
 EgStep s rest out (A4 rest [59]) (A4 (A4 rest [59]).1 [61]) (Pl.numGet (A4 (A4 rest [59]).1 [61]).2.1):=by
 have hlen: ∀(c:UInt8) (x:List UInt8),(A4 x [c]).1.length<=x.length/\(A4 x [c]).2.1.length<=x.length:=fun c x=>by
  by_cases h:c∈x
  ·grind [Pl.QeC,Pl.Qht]
  grind [Pl.QhS]
 have g1:=hlen 59 rest;have g2:=hlen 61 (A4 rest [59]).1;refine⟨?_,?_,g1.1,g1.2,by omega,by omega⟩
 ·intro hb
  by_cases h:(59:UInt8)∈rest
  ·obtain⟨one,tail,rfl,hn⟩:=Pl.QeC h
   rw[Pl.Qht hn] at hb;refine QnM fun p hp=>?_
   obtain⟨e,he,rfl⟩:=eg_pre hE hs hn hp;have hb2:=ent_b hp.1 e (A2 he);have hle:out.length<p.length:=(A7.1 he).1;have h12:p.length<=12:=by have:=hp.1;grind [Qab]
   grind [Qas,Pl.Qht,QfW,Pl.Qdw]
  grind [eg_cut0]
 ·intro hb
  by_cases h:(59:UInt8)∈rest
  ·obtain⟨one,tail,rfl,hn⟩:=Pl.QeC h
   rw[Pl.Qht hn] at hb⊢;simp only at hb⊢
   by_cases h6:(61:UInt8)∈one
   ·obtain⟨a,b,rfl,hm⟩:=Pl.QeC h6
    rw[Pl.Qht hm] at hb⊢;simp only[AX] at hb⊢;obtain⟨n,hg⟩:=Option.isSome_iff_exists.1 hb;obtain⟨rfl,hlt⟩:=Pl.Qdz hg;rw[hg];refine⟨?_,⟨fun hc=>hn (List.mem_append_left _ hc),hm,by simp,by grind⟩,?_⟩
    ·rw[hs];simp[QG,Qas]
    grind
   grind [Pl.QhS]
  grind [Pl.QhS]
theorem Qnb(s:List UInt8)(hs:s.length<=1000000):Pure A1 109 [dS s] (.tup [tEnts (QbP s).1,dB (QbP s).2]):=by
 refine kB ?_
 repeat refine kA ?_
 refine QeR 4 2 112 (h:=?_)
 skip
 refine Qo (fun m st=> ∃(g:Nat) (out:List Qq) (rest:List UInt8),m=rest.length/\AN (s=QG out++rest)/\AN (∀e∈out,Qcn e)/\rest.length<=1000000/\out.length<=12/\AN (∀e∈out,e.1.length<=1000000)/\
  st=⟨61,[(4,.osl 0 g 0 out.length),(5,.d (dS rest))],[.arr g 2 112 (out.map rEnt)]⟩) [4,5] 1 s.length ⟨0,[],s,rfl,Pm.hid rfl,Pm.hid (by simp),hs,by simp,Pm.hid (by simp),rfl⟩ (round:=?_)
 rintro m st ⟨g,out,rest,rfl,hO,hE,hrl,hlen,hnl,rfl⟩
 repeat refine kG ?_
 by_cases hr:rest=[]
 ·subst hr
  have hg:=Pm.hid (eg_end (s:=s) hE.out (by rw[hO.out,AT]));have ce:=(Qps out (by unfold Pm.big;omega) hnl.out).arg (l:=[tEnts out]);generalize QbP s=res at*;generalize Qab out=o1 at*
  repeat refine kA ?_
  refine Qeo 0 (h:=?_)
  repeat' first|refine kA ?_|refine kV ?_ ?_<;>intro q|fail
  ·refine Qed 2 true 2 (h:=?_)
   refine Qb (hx:=?_);rw[hg.out];simp_all
  ·refine Qb (hx:=?_)
   rw[hg.out];simp_all
 have hne:(!(rest==([]:List UInt8)))=true:=by simpa using hr
 have st:=eg_next hE.out hO.out hr;have c1:=bCut 59 rest (by omega);generalize A4 rest [59]=w at*;obtain⟨one,tail,ok⟩:=w;have z1:one.length<=rest.length:=st.l1;have c2:=bCut 61 one (by omega);simp only at st;generalize A4 one [61]=v at*;obtain⟨name,num,fine⟩:=v;have z2:name.length<=rest.length:=st.l3;have z3:num.length<=rest.length:=st.l4;have z4:tail.length<=rest.length:=st.l2;have c3:=bNumGet num (by unfold Pm.big;omega);have c4:=bClone name (by unfold Pm.big;omega);have F:=Pm.hid st.bad;have T:=Pm.hid st.good;clear st;simp only at F T c1 c2;generalize Pl.numGet num=gg at*;generalize gg.isSome=good at*;generalize hnv:gg.getD 0=nv at*
 have hq:((out.length:Int)==12)=decide (out.length=12):=by
  rw[AA];simp;omega
 generalize QbP s=res at*
 repeat' first|refine kS ?_|refine QV Ty.h rfl Ty.h (hb:=?_) (kk:=?_)|refine kU ?_|refine kV ?_ ?_<;>intro q|fail
 all_goals first
  |exact absurd (hne.symm.trans ‹_=false›) (by decide)
  |(refine Qed 2 true 2 (h:=?_)
    refine Qb (hx:=?_)
    rw[F.out (by simp_all)];rfl)
  |(simp;omega)
  |(exfalso;simp_all;done)
  |(obtain⟨t1,t2,t3⟩:=T.out (by simp_all)
    have h12:out.length≠12:=fun e=>absurd (‹((out.length:Int)==12)=false›) (by rw[hq];simp[e])
    refine Qh tail.length t3 ⟨g+1,out++[(name,(nv:Int))],tail,rfl,Pm.hid t1,Pm.hid ?_,by omega,by simp only[AH,AR,AU];omega,Pm.hid ?_,?_⟩
    ·intro e he
     rcases AC.1 he with h|h
     ·exact hE.out e h
     ·rw[AI.1 h];exact t2
    ·intro e he
     rcases AC.1 he with h|h
     ·exact hnl.out e h
     ·rw[AI.1 h];show name.length<=1000000;omega
    ·simp[keepE,go_sem])
def ePut(g:Nat)(w:Pl.Sto)(N:Nat)(hN:N<=800000)(hw:w.W N)(t:Pl.Tree)(ht:Qx t)(k:Nat)(hk:k<16)(text:List UInt8)(htx:text.length<=Pm.big):
 DoesE A1 46 [oS g w,.d (dTree t),.d (dI k),.d (dS text)] (hS g w) (gS g w) (fun x H=> ∃g',((Qm w t k text).2.2=false->g'=g)/\x= .tup [oS g' (Qm w t k text).1,.d (dTree (Qm w t k text).2.1),.d (dB (Qm w t k text).2.2)]/\H=hS g' (Qm w t k text).1):=by
 by_cases h1:(Qf w.rows ((Qe w.st t).getD k Pl.hole)).1=text
 ·exact ePut_a g w N hN hw t ht k hk text htx h1
 by_cases h2:text=[]
 ·exact ePut_b g w N hN hw t ht k hk text htx h1 h2
 ·exact ePut_c g w N hN hw t ht k hk text htx h1 h2
theorem pcs_128: ∀(n:Nat) (s:List UInt8),∀x∈Qcs n s,x.length<=128
 :=by intro l;induction l<;>grind [Qcs]
theorem Qni{text:List UInt8}(h:(Qm w t k text).2.2=false)(g:Nat):oS g w=oS g (Qm w t k text).1:=by
 obtain⟨z1,z2,z3⟩:=Qeh h
 grind
def Qow{l:List (List UInt8)}{i:Nat}{x:List UInt8}(h:l[i]? =some x):Qao w t (l.drop i) i=if(Qm w t i x).2.2 then Qao (Qm w t i x).1 (Qm w t i x).2.1 (l.drop (i+1)) (i+1) else((Qm w t i x).1,t,false):=by
 obtain⟨h1,h2⟩:=A7.1 h;rw[<-List.getElem_cons_drop h1,h2];rfl
abbrev rowT(t:Pl.Tree):List AV:=[.d (dI t.root.pat),.d (dI t.root.birth),.d (dI t.root.size),.d (dI t.root.sum),.d (dI t.root.level),.d (dI t.depth),.d (dI t.many)]
attribute [local irreducible] Fk.PlanF Fk.Flts Fk.AStepM Fk.Grew Fk.Gs
def eBput(g:Nat)(w:Pl.Sto)(N:Nat)(hN:N<=700000)(hw:w.W N)(t:Pl.Tree)(ht:Qx t)(text:List UInt8)(htx:text.length<=1000000000000):
 DoesE A1 279 [oS g w,.d (dTree t),.d (dS text)] (hS g w) (gS g w) (fun x H=> ∃g',x= .tup [oS g' (Qax w t text).1,.d (dTree (Qax w t text).2.1),.d (dB (Qax w t text).2.2)]/\H=hS g' (Qax w t text).1):=by
 have hd:=Pm.hid (Qax.eq_def w t text);have c1:=QrY text htx;have hp: ∀x∈QaG text,x.length<=128:=pcs_128 _ _;generalize QaG text=l at*;generalize Qax w t text=res at*
 by_cases hl:16<l.length
 ·rw[if_pos hl] at hd
  refine kH fun gvs=>?_
  refine Qa 6 (h:=?_)
  repeat' first|refine kS ?_|(show AWP _ (.region 3 _ _) _ _;refine(Fg.awp_drawF (id:=3) [1] [2,3] ?_))|refine kU ?_|refine kV ?_ ?_<;>intro q|fail
  all_goals first|exact absurd hl (by simp at*;omega)|refine QN 5 (hx:=?_);rw[hd.out];exact⟨g,rfl,rfl⟩
 rw[if_neg hl] at hd;refine kH fun gvs=>?_
 repeat' first|refine kA ?_|refine kV ?_ ?_<;>intro q|fail
 all_goals first|exact absurd (by simp at*;omega) hl|skip
 refine Qo (fun m st=> ∃(i g':Nat) (wi:Pl.Sto) (ti:Pl.Tree),i<=l.length/\m=l.length -i/\AN (Qao w t l 0=Qao wi ti (l.drop i) i)/\AN (wi.W (N+15*i)/\Qx ti)/\(g<g'∨g'=g/\wi.gone.length=w.gone.length)/\
  st=⟨53,[(10,.d (dI i)),(9,.d (tStrs l)),(3,.ptr 5 0 0),(4,.ptr 6 0 0),(6,.ptr 7 0 0),(7,.ptr 8 0 0),(1000000,.gh (gS g w) gvs)],
   hS g' wi++[.row 0 (rowS g' wi),.row 0 (rowT ti),.row 0 zSt,.row 0 zTr]⟩) [10,9,3,4,6,7,1000000] 9 l.length
  ⟨0,g,w,t,by omega,rfl,Pm.hid rfl,Pm.hid ⟨hw,ht⟩,.inr ⟨rfl,rfl⟩,rfl⟩ (round:=?_)
 rintro m st ⟨i,g',wi,ti,hi,rfl,hF,hG,hg,rfl⟩;obtain⟨hW,hT⟩:=hG.out;simp only[hS,List.cons_append,List.nil_append]
 repeat refine kG ?_
 cases q:decide ((i:Int)<(l.length:Int))
 ·have hil:i=l.length:=by simp at q;omega
  have hF2:=hF.out;rw[hil,List.drop_of_length_le (Nat.le_refl _)] at hF2;rw[show Qao wi ti [] l.length=(wi,ti,true) from rfl] at hF2;rw[hF2] at hd;simp only[if_true] at hd;have c3:=pinS (X:=fun g'=> .tup [oS g' (QM wi ti l.length).1,.d (dTree (QM wi ti l.length).2.1),.d (dB (QM wi ti l.length).2.2)]) (C:=fun g2=>(QM wi ti l.length).2.2=false->g2=g') (eCut g' wi (N+15*i) (by omega) hW ti hT l.length (by omega));have hWc:=(cut_W hW hT (many:=l.length) (by omega)).1;generalize QM wi ti l.length=y at*;obtain⟨w2,t2,ok2⟩:=y;simp only at c3 hWc;clear hF hF2 hG;have v0:w2.rows.length=w.rows.length:=by rw[hWc.rows,hw.rows]
  have v1:w2.refs.length=w.refs.length:=by rw[hWc.refs,hw.refs]
  have v2:w2.last.length=w.last.length:=by rw[hWc.last,hw.last]
  repeat' first|refine kS ?_|(refine QA [0,1,2,3,4] c3 cK (k:=?_);rintro _ _ ⟨g2,hg2,hC,rfl,rfl⟩;refine Qd1 (k:=?_))|refine kU ?_|fail
  all_goals first
   |(have hg4:g<g2∨g2=g/\w2.gone.length=w.gone.length:=by
      rcases hg with h1|⟨h1,h2⟩<;>rcases hg2 with h3|⟨h3,h4⟩<;>first|(left;omega)|(right;exact⟨by omega,h4.trans h2⟩)
     rcases hg4 with hg4|⟨rfl,hg4⟩<;>(refine QN 5 (hx:=?_);rw[hd.out];exact⟨_,rfl,rfl⟩))
 have hil:i<l.length:=by simp at q;omega
 obtain⟨x,hx⟩: ∃x,l[i]? =some x:=⟨_,A0 hil⟩;have hr:=Qt (f:=fun s=>[dS s]) hx;have hxl:=hp x (A2 hx);have hs:=Qow (w:=wi) (t:=ti) hx;have cP:=(ePut g' wi (N+15*i) (by omega) hW ti hT i (by omega) x (by unfold Pm.big;omega)).tag3;have hWc:=QeV hW hT (k:=i) (by omega) x;have hsm:=Qni (w:=wi) (t:=ti) (k:=i) (text:=x);have hsg:=Qeh (w:=wi) (t:=ti) (k:=i) (text:=x);generalize Qm wi ti i x=y at*;obtain⟨w2,t2,ok2⟩:=y;simp only at cP hWc hs hsm hsg;have v0:w2.rows.length=w.rows.length:=by rw[hWc.1.rows,hw.rows]
 have v1:w2.refs.length=w.refs.length:=by rw[hWc.1.refs,hw.refs]
 have v2:w2.last.length=w.last.length:=by rw[hWc.1.last,hw.last]
 have hF2:=hF.out;rw[hs] at hF2;clear hF hs hx c1;cases ok2
 ·simp only[A5,if_false] at cP hF2
  rw[hF2] at hd;simp only[A5,if_false] at hd;have v3:w2.gone.length=wi.gone.length:=by rw[(hsg rfl).1]
  have hse:=hsm rfl g';clear hsm hsg hG
  repeat' first|refine kS ?_|refine qD (iy hr) ?_|(show AWP _ (.region 7 _ _) _ _;refine(Fk.awp_drawG (id:=7) [8,10,11,12,13] [7,14,15] [(12,.row 0 zSt),(13,.row 0 zTr)] [] 7 35 (.tup [oS g' w2,.d (dTree t2),.d (dB false)]) ?_))|refine(Fk.aw_fltA 9 ?_)|refine(Fk.aw_fltA 10 ?_)|refine Fk.aw_callM [0,1,2,3,4] cP cK (k:=kY ?_)|(show AWP _ (.region 9 _ _) _ _;refine(Qa 6 (h:=Fg.awp_drawF (id:=9) [1] [2,3] ?_)))|refine kU ?_|fail
  all_goals first|(rcases hg with hg|⟨rfl,hg⟩<;>(refine QN 5 (hx:=?_);rw[hd.out];exact⟨_,by rw[<-hse];rfl,rfl⟩))
 simp only[if_true] at cP hF2;clear hsm hsg hG
 repeat' first|refine kS ?_|refine qD (iy hr) ?_|(show AWP _ (.region 7 _ _) _ _;refine(Fk.awp_drawG (id:=7) [8,10,11,12,13] [7,14,15] [(12,.row 0 zSt),(13,.row 0 zTr)] [] 7 35 (.tup [oS (g'+1) w2,.d (dTree t2),.d (dB true)]) ?_))|refine(Fk.aw_fltA 9 ?_)|refine(Fk.aw_fltA 10 ?_)|refine Fk.aw_callM [0,1,2,3,4] cP cK (k:=kY ?_)|refine kU ?_|fail
 all_goals first|refine Qef (l.length -(i+1)) [10,9,3,4,6,7,1000000] [0,1,2,3,4,5,6,7,8] (by omega) ⟨i+1,g'+1,w2,t2,by omega,rfl,Pm.hid hF2,Pm.hid ⟨hWc.1.le (by omega),hWc.2⟩,.inl (by omega),rfl⟩

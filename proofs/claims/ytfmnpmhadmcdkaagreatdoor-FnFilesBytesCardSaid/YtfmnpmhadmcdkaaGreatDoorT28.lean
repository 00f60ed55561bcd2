/- Of fby_card; no condition. -/
import Derived.Test.YtfmnpmhadmcdkaaGreatDoorT26
set_option linter.all false
set_option maxRecDepth 100000
set_option maxHeartbeats 16000000
open Bool renaming and_eq_true->A8,false_eq_true->AH,not_eq_true'->AQ,false_and->AU,true_and->AY
open Go.Lib renaming compareBytes->A1
open Go.Op renaming bytesLess->A4
open Go.Proofs.Tryz renaming underlying3->A2,prog->A3,underlying142->A5,underlying94->AC,underlying92->AD
open Go.RowKit renaming Hid->AG
open Int renaming toNat_natCast->AB,eq_ofNat_of_zero_le->AE
open List renaming getElem?_eq_getElem->A0,mem_of_getElem?->A6,getElem?_eq_some_iff->A7,range->A9,getD_eq_getElem?_getD->AA,replicate->AF,drop_eq_getElem_cons->AI,length_cons->AJ,drop_length->AK,count_le_length->AL,takeWhile_cons->AM,getElem_of_mem->AN,mem_singleton->AO,take_add_one->AP,take_length->AR,all_eq_true->AS,mem_range->AW,map_cons->AX,count->Aa
open Nat renaming zero_add->AZ
open Option.some renaming inj->AT
namespace Go.Proofs.YtfmnpmhadmcdkaaGreatDoor
noncomputable section
section
open Go.RowKit
namespace Aw
variable{α:Type}{j:Nat}{m:List (Int×D)}{u:Operand}{M:Int}
attribute [local irreducible] ASeq ADraw AWP Loc
def Qu3(l:List (List UInt8))(pr:List UInt8->Bool):Int:=match l.findIdx? pr with
 |some i=>(i:Int)
 |none=> -1
theorem Qwo(l:List (List UInt8))(pr:List UInt8->Bool):decide (Qu3 l pr≥0)=l.any pr:=by
 unfold Qu3
 grind
theorem QvK(l:List (List UInt8))(hl:l.length<=1000000)(f:FuncId)(pr:List UInt8->Bool)(hf: ∀args w,(callFunc f args).run A3 w= .ok (.enter f args) w)(h: ∀p∈l,Pure A3 f [dS p] (dB (pr p))):
 PureF A3 278 [.d (tStrs l),.fn (.func f) []] (dI (Qu3 l pr)):=by
 refine kF ?_
 repeat refine kA ?_
 refine Qo (fun m st=> ∃k:Nat,k<=l.length/\m=l.length -k/\AG (∀x∈l.take k,pr x=false)/\st=⟨19,[(8,.d (dI k)),(7,.d (dI l.length)),(0,.d (tStrs l)),(1,.fn (.func f) [])],[]⟩) [8,7,0,1] 0 l.length ⟨0,by omega,rfl,Pm.hid (by simp),by simp[keepE,go_sem]⟩ (round:=?_);rintro m st ⟨k,hk,rfl,hA,rfl⟩
 repeat refine kG ?_
 cases q3:decide ((k:Int)<(l.length:Int))
 ·repeat refine kA ?_
  refine QR (hx:=?_);have:k=l.length:=by grind
  have h:=hA.out;rw[this,AR] at h;have:l.findIdx? pr=none:=List.findIdx?_eq_none_iff.2 h;unfold Qu3;rw[this]
 have hk2:k<l.length:=by grind
 obtain⟨x,hx⟩: ∃x,l[k]? =some x:=⟨_,A0 hk2⟩;have hr:=Qt (f:=fun s=>[dS s]) hx
 have T:AG (pr x=false-> ∀y∈l.take (k+1),pr y=false):=Pm.hid fun h y hy=>by
  rw[AP,hx] at hy;rcases List.mem_append.1 hy with hy|hy
  ·exact hA.out y hy
  grind
 have F:AG (pr x=true->Qu3 l pr=k):=Pm.hid fun h=>by
  have:l.findIdx? pr=some k:=by
   rw[List.findIdx?_eq_some_iff_getElem];refine⟨hk2,?_,fun j hj=>?_⟩
   ·grind
   ·have:=hA.out l[j] (List.mem_iff_getElem?.2 ⟨j,by grind⟩)
    grind
  unfold Qu3;rw[this]
 have c:=h x (A6 hx);clear hx hA;generalize pr x=b at*
 repeat' first|refine kS ?_|refine qS (iy hr) ?_|refine qS (Qek hf c rfl rfl) ?_|refine kU ?_|refine kV ?_ ?_<;>intro q|fail
 all_goals first|exact Qh (l.length -(k+1)) (by omega) ⟨k+1,by omega,rfl,Pm.hid (T.out (by assumption)),by simp[keepE,go_sem]⟩|refine QR (hx:=?_);rw[F.out (by assumption)]
def Qvd(l:List (List UInt8))(hl:l.length<=1000000)(f:FuncId)(pr:List UInt8->Bool)(hf: ∀args w,(callFunc f args).run A3 w= .ok (.enter f args) w)(h: ∀p∈l,Pure A3 f [dS p] (dB (pr p))):
 PureF A3 209 [.d (tStrs l),.fn (.func f) []] (dB (l.any pr)):=by
 have c:=QvK l hl f pr hf h;have hd:=Pm.hid (Qwo l pr);generalize Qu3 l pr=i at*;refine kF ?_
 repeat' first|refine kS ?_|refine qS (Qeq cK c rfl rfl) ?_|refine kU ?_|fail
 refine QR (hx:=?_);rw[<-hd.out]
def Qwx(s:List UInt8)(hs:s.length<=1000000):Pure A3 210 [dS s] (dB (!QF s)):=by
 have c:=bNameOk s hs;refine kB ?_
 repeat refine kA ?_
 exact Qb (hx:=rfl)
def QbG(l:List (List UInt8)):List UInt8:=47::Qap 47 l
def QlL(l:List (List UInt8))(hl:l.length<=1000000)(hs: ∀x∈l,x.length<=1000000):Pure A3 54 [tStrs l] (dS (QbG l)):=by
 have hj:=Qi2 47 l 1000000 hs
 have hjl:(Qap 47 l).length<=140737488355328:=by
  omega
 have c:=bJoin l 47 (by omega) hjl;clear hj;unfold QbG;generalize Qap 47 l=j at*;refine kB ?_
 repeat' first|refine kS ?_|refine qS (QcX (l:=[47]) rfl rfl (by simp;omega)) ?_|refine kU ?_|fail
 exact Qb (hx:=rfl)
def Qur(l:List (List UInt8)):List UInt8×Bool:=if decide (l.length<=4)&&l.all QF then(QbG l,true) else([],false)
theorem any_not(l:List (List UInt8)):(l.any fun s=> !QF s)= !l.all QF:=by
 grind
def bPathOf(l:List (List UInt8))(hl:l.length<=1000000)(hs: ∀x∈l,x.length<=1000000):Pure A3 142 [tStrs l] (.tup [dS (Qur l).1,dB (Qur l).2]):=by
 have c1:=Qvd l hl 210 (fun s=> !QF s) Tryz.call210 fun p hp=>Qwx p (hs p hp)
 have c2:=QlL l hl hs;rw[any_not] at c1;have hd:=Pm.hid (Qur.eq_def l);generalize Qur l=res at*;generalize l.all QF=o at*;generalize QbG l=t at*;have g1:AG (l.length<=4->o=true->res=(t,true)):=Pm.hid fun h1 h2=>by rw[hd.out,h2,decide_eq_true h1];rfl
 have g2:AG (¬l.length<=4->res=([],false)):=Pm.hid fun h1=>by rw[hd.out,decide_eq_false h1];rfl
 have g3:AG (o=false->res=([],false)):=Pm.hid fun h2=>by rw[hd.out,h2,Bool.and_false];rfl
 clear hd;refine kB ?_
 repeat' first|refine kS ?_|refine qS (Qeq cK c1 rfl rfl) ?_|refine kU ?_|refine kV ?_ ?_<;>intro q|fail
 all_goals
  refine Qb (hx:=?_);simp only[decide_eq_true_eq,decide_eq_false_iff_not,AQ,Bool.not_eq_false'] at*
  first|rw[g2.out (by omega)];done|rw[g2.out (by omega)];rfl|rw[g3.out (by assumption)];done|rw[g3.out (by assumption)];rfl|rw[g1.out (by omega) (by assumption)];done|rw[g1.out (by omega) (by assumption)];rfl
theorem Qvn(s:List UInt8)(hs:s.length<=1000000000000):Pure A3 252 [dS s,dS [47]] (dB (decide (s.head? =some 47))):=by
 cases s with
 |nil=>
  refine kB ?_
  repeat refine kA ?_
  exact Qb (hx:=rfl)
 |cons c r=>
  have hd:AG (decide ((c::r).head? =some 47)=((c::r).take 1==[47])):=Pm.hid (by grind);refine kB ?_
  repeat' first|refine kS ?_|refine qS (QfH rfl rfl rfl (by simp) (by grind)) ?_|refine qS (Qdm (m:=[47]) rfl rfl) ?_|refine kU ?_|refine kV ?_ ?_<;>intro q|fail
  all_goals first
   |(exfalso;simp at*;omega)
   |(refine Qb (hx:=?_)
     rw[hd.out]
     simp_all)
theorem Qvw(s:List UInt8)(hs:s.length<=1000000000000):Pure A3 207 [dS s,dS [47]] (.tup [dS (if s.head? =some 47 then s.drop 1 else s),dB (decide (s.head? =some 47))]):=by
 have c:=Qvn s hs;have h1:s.head? =some 47->1<=s.length:=fun h=>by grind
 by_cases h:s.head? =some 47
 ·have h1:=h1 h
  rw[decide_eq_true h] at*;rw[if_pos h];refine kB ?_
  repeat' first|refine kS ?_|refine qS (QfG rfl rfl rfl (by simp) (by simp;omega)) ?_|refine kU ?_|fail
  exact Qb (hx:=rfl)
 ·rw[decide_eq_false h] at*
  rw[if_neg h];refine kB ?_
  repeat refine kA ?_
  exact Qb (hx:=rfl)
def QvN(s:List UInt8)(hs:s.length<=1000000000000):Pure A3 140 [dS s,dS [47]] (.tup [dS (if s.head? =some 47 then s.drop 1 else s),dB (decide (s.head? =some 47))]):=by
 have c:=Qvw s hs;generalize (if s.head? =some 47 then s.drop 1 else s)=r at*;refine kB ?_
 repeat refine kA ?_
 exact Qb (hx:=rfl)
theorem QvB(b:UInt8)(l:List (List UInt8))(m:Nat)(h: ∀x∈l,x.length<=m)(hn:l≠[]):(Qap b l).length+1<=l.length*(m+1):=by
 induction l with
 |nil=>grind
 |cons a l ih=>
  have h1:=h a List.mem_cons_self;cases l with
  |nil=>simp[Qap];omega
  |cons c l=>
   grind [Qap,List.intersperse,Nat.succ_mul]
theorem Qvg{s:List UInt8}(h:20<s.length):QT s=none:=by
 unfold QT;rw[if_neg (by grind),if_neg];rintro⟨h1,h2,h3⟩;cases s with
 |nil=>cases h1
 |cons c r=>
  obtain rfl:c=47:=by grind
  rw[QiJ,List.tail_cons] at h2 h3
  have:=QvB 47 (Pl.cutB 47 r) 4 (fun x hx=>by
   grind [QF]) (Pl.Qhu 47 r)
  grind [QqD]
theorem QuY(r:List UInt8):QT (47::r)=if r=[] then some [] else if(Qur (Pl.cutB 47 r)).2 then some (Pl.cutB 47 r) else none:=by grind [QT,Qur,QiJ]
theorem QvJ(s:List UInt8)(hs:s.length<=1000000000000):Pure A3 80 [dS s] (.tup [tStrs ((QT s).getD []),dB (QT s).isSome]):=by
 have c1:=QvN s hs
 by_cases h47:s.head? =some 47
 rotate_left
 ·have hx:AG (QT s=none):=Pm.hid (by unfold QT;grind)
  have hs47:(s==[47])=false:=by
   grind
  rw[decide_eq_false h47,if_neg h47] at c1;generalize QT s=res at*;refine kB ?_
  repeat' first|refine kS ?_|refine qS (Qdm (m:=[47]) rfl rfl) ?_|refine kU ?_|refine kV ?_ ?_<;>intro q|fail
  all_goals first
   |(exfalso;simp_all;done)
   |(refine Qed 2 true 1 (h:=?_)
     refine Qb (hx:=?_)
     first|(rw[hx.out];done)|(rw[hx.out];rfl))
 obtain⟨r,rfl⟩: ∃r,s=47::r:=by
  cases s with
  |nil=>cases h47
  |cons c r=>grind
 rw[decide_eq_true h47,if_pos h47] at c1;simp only[List.drop_succ_cons,List.drop_zero] at c1;have hd:=Pm.hid (QuY r)
 by_cases h20:(47::r).length<=20
 rotate_left
 ·have hx:=Pm.hid (Qvg (s:=47::r) (by omega))
  have hne:r≠[]:=by grind
  generalize QT (47::r)=res at*;clear hd;refine kB ?_
  repeat' first|refine kS ?_|refine qS (Qdm (m:=[47]) rfl rfl) ?_|refine kU ?_|refine kV ?_ ?_<;>intro q|fail
  all_goals first
   |(exfalso;simp_all;done)
   |(exfalso;simp at*;omega)
   |(refine Qed 2 true 1 (h:=?_)
     refine Qb (hx:=?_)
     first|(rw[hx.out];done)|(rw[hx.out];rfl))
 have hrl:r.length<=19:=by grind
 have c2:=bSplit r 47 (by omega);have hcl:=Qe2 47 r;have c3:=bPathOf (Pl.cutB 47 r) (by omega) (fun x hx=>by grind)
 have ht:AG ((Qur (Pl.cutB 47 r)).2=true->(Qur (Pl.cutB 47 r)).1=47::r):=Pm.hid fun h=>by
  unfold Qur at h⊢;split at h
  ·rename_i h2;rw[if_pos h2];show 47::Qap 47 _=_;rw[QqD]
  ·cases h
 clear hcl;generalize QT (47::r)=res at*;generalize Pl.cutB 47 r=l at*;generalize Qur l=po at*;obtain⟨again,fine⟩:=po;simp only at ht hd c3;have hrs:((47::r)==[47])=decide (r=[]):=by grind
 cases fine
 all_goals
  refine kB ?_
  repeat' first|refine kS ?_|refine qS (Qdm (l:=47::r) (m:=[47]) rfl rfl) ?_|refine qS (Qd2 (m:=47::r) rfl rfl) ?_|refine kU ?_|refine kV ?_ ?_<;>intro q|fail
 all_goals first
  |(exfalso;simp at*;omega)
  |(refine Qed 2 true 1 (h:=?_)
    refine Qb (hx:=?_)
    first
     |(exfalso;have h9:=ht.out rfl;clear ht;simp_all;done)
     |(have h9:=hd.out;grind)
     |(have h9:=hd.out;clear hd ht;simp_all;rfl))
  |(refine Qb (hx:=?_)
    have h9:=hd.out
    grind)
theorem Qua: ∀a b:List UInt8,decide (A1 a b<0)=A4 a b
 |[],[]=>by simp[A1,A4]
 |[],_::_=>by simp[A1,A4]
 |_::_,[]=>by simp[A1,A4]
 |a::x,b::y=>by
  have ih:=Qua x y
  grind [A1,A4]
theorem Qw5: ∀a b:List UInt8,(A1 a b==0)=(a==b)
 |[],[]=>by simp[A1]
 |[],_::_=>by simp[A1]
 |_::_,[]=>by simp[A1]
 |a::x,b::y=>by
  have ih:=Qw5 x y
  grind [A1]
def Qw0(a b:List UInt8):Pure A3 137 [dS a,dS b] (dI (A1 a b)):=
 Qdv rfl fun w _=>(Tryz.strings_Compare ⟨a.toArray⟩ ⟨b.toArray⟩ w).mono fun e w' h=>⟨h.1,h.2▸Below.refl _ _⟩
def Qwg(e:Qq)(n:List UInt8):Pure A3 212 [.agg (rEnt e),dS n] (dI (A1 e.1 n)):=by
 have c:=Qw0 e.1 n;generalize A1 e.1 n=r at*;refine kE ?_;refine Qa 0 (h:=?_)
 repeat refine kA ?_
 exact Qb (hx:=rfl)
def Quu(l:List Qq)(n:List UInt8):Nat:=(l.takeWhile fun e=>A4 e.1 n).length
def Qun(l:List Qq)(n:List UInt8):Bool:=match l[Quu l n]? with
 |some e=>e.1==n
 |none=>false
theorem QuJ{α:Type}(p:α->Bool): ∀(l:List α) (i:Nat),i<=l.length->(∀k (h:k<l.length),k<i->p l[k]=true)->(∀h:i<l.length,p l[i]=false)->(l.takeWhile p).length=i
 |[],i,hi,_,_=>by simp_all
 |a::l,0,_,_,h2=>by
  simp_all
 |a::l,i+1,hi,h1,h2=>by
  have h:=h1 0 (by simp) (by omega);simp only[List.getElem_cons_zero] at h;rw[AM,if_pos h,AJ,QuJ p l i (by grind) (fun k hk hki=>h1 (k+1) (by omega) (by omega)) (fun hh=>h2 (by grind))]
theorem QuL(p:α->Bool): ∀(l:List α),(∀k (h:k<l.length),k<(l.takeWhile p).length->p l[k]=true)/\(∀e,l[(l.takeWhile p).length]? =some e->p e=false)
 :=by intro l;induction l<;>grind [AM]
theorem Qv4{l:List Qq}(h:Qab l=true)(n:List UInt8){i:Nat}(hi:i<l.length)(hj:j<l.length)(hij:i<=j)(hl:A4 l[j].1 n=true):A4 l[i].1 n=true:=by
 rcases Nat.eq_or_lt_of_le hij with e|e
 ·grind
 ·exact QhT (Qvc h hj e) hl
theorem Qvv{l:List Qq}(h:Qab l=true)(n:List UInt8):l.find? (fun e=>e.1==n)=if Qun l n then l[Quu l n]? else none:=by
 unfold Qun;obtain⟨hlow,hat⟩:=QuL (fun e:Qq=>A4 e.1 n) l;rw[show(l.takeWhile fun e=>A4 e.1 n).length=Quu l n from rfl] at hlow hat;cases he:l[Quu l n]? with
 |none=>
  grind [AN,QrI]
 |some e=>
  have hb:=hat e he;obtain⟨hlt,hge⟩:=A7.1 he
  grind [List.find?_eq_some_iff_getElem,QrI,AN,Qvc]
theorem QvO(l:List Qq)(n:List UInt8)(hE:Qab l=true)(f:FuncId)(hf: ∀args w,(callFunc f args).run A3 w= .ok (.enter f args) w)(h: ∀e∈l,Pure A3 f [.agg (rEnt e),dS n] (dI (A1 e.1 n))):
 PureF A3 211 [.d (dEnts l),.d (dS n),.fn (.func f) []] (.tup [dI (Quu l n),dB (Qun l n)]):=by
 have hl:l.length<=12:=by have:=hE;unfold Qab at this;rw[A8,decide_eq_true_eq] at this;exact this.2
 have hEd:=Pm.hid hE;clear hE;refine kF ?_
 repeat refine kA ?_
 refine Qo (fun m st=> ∃i j:Nat,i<=j/\j<=l.length/\m=j -i/\AG (∀k (h:k<l.length),k<i->A4 l[k].1 n=true)/\AG (∀k (h:k<l.length),j<=k->A4 l[k].1 n=false)/\
  st=⟨49,[(9,.d (dI i)),(10,.d (dI j)),(8,.d (dI l.length)),(0,.d (dEnts l)),(1,.d (dS n)),(2,.fn (.func f) [])],[]⟩) [9,10,8,0,1,2] 0 l.length ⟨0,l.length,by omega,by omega,by omega,Pm.hid fun _ _ h=>by omega,Pm.hid fun _ _ h=>by omega,by simp[keepE,go_sem]⟩ (round:=?_)
 rintro m st ⟨i,j,hij,hj,rfl,hA,hB,rfl⟩
 repeat refine kG ?_
 by_cases q3:i<j
 rotate_left
 ·have e:i=j:=by omega
  subst e;have hlow:AG (Quu l n=i):=Pm.hid (QuJ _ l i hj (fun k hk hki=>hA.out k hk hki) (fun hh=>hB.out i hh (Nat.le_refl _)))
  by_cases q4:i<l.length
  ·obtain⟨x,hx⟩: ∃x,l[i]? =some x:=⟨_,A0 q4⟩
   have hr:=Qt (f:=rEnt) hx;have c:=h x (A6 hx);have hit:AG (Qun l n=(x.1==n)):=Pm.hid (by unfold Qun;rw[hlow.out,hx]);rw[<-Qw5] at hit;clear hx hA hB hEd;generalize A1 x.1 n=r at*;generalize Qun l n=hh at*;generalize Quu l n=lo at*
   repeat' first|refine kS ?_|refine qS (iy hr) ?_|refine qS (Qek hf c rfl rfl) ?_|refine kU ?_|refine kV ?_ ?_<;>intro q|fail
   all_goals first
    |(exfalso;simp only[decide_eq_true_eq,decide_eq_false_iff_not] at*;omega)
    |(refine QR (hx:=?_)
      rw[hlow.out,hit.out])
  ·have hit:AG (Qun l n=false):=Pm.hid (by unfold Qun;rw[hlow.out,List.getElem?_eq_none_iff.2 (by omega)])
   clear hA hB hEd;generalize Qun l n=hh at*;generalize Quu l n=lo at*
   repeat' first|refine kA ?_|refine kV ?_ ?_<;>intro q|fail
   all_goals first
    |(exfalso;simp only[decide_eq_true_eq,decide_eq_false_iff_not] at*;omega)
    |(refine QR (hx:=?_)
      rw[hlow.out,hit.out])
 have hm:(i+j)/2<l.length:=by omega
 obtain⟨x,hx⟩: ∃x,l[(i+j)/2]? =some x:=⟨_,A0 hm⟩;have hxe:l[(i+j)/2]=x:=(A7.1 hx).2;have hr:=Qt (f:=rEnt) hx;have c:=h x (A6 hx);have hlt:=Pm.hid (Qua x.1 n);have T:AG (A4 x.1 n=true-> ∀k (h:k<l.length),k<(i+j)/2+1->A4 l[k].1 n=true):=Pm.hid fun hb k hk hki=>Qv4 hEd.out n hk hm (by omega) (by rw[hxe];exact hb)
 have F:AG (A4 x.1 n=false-> ∀k (h:k<l.length),(i+j)/2<=k->A4 l[k].1 n=false):=Pm.hid fun hb k hk hki=>by
  cases hv:A4 l[k].1 n with
  |false=>rfl
  |true=>have:=Qv4 hEd.out n hm hk hki hv;rw[hxe,hb] at this;cases this
 generalize hmv:(i+j)/2=mm at*;have hmi:(((i:Int)+j)/2)=(mm:Int):=by omega
 clear hx hxe hEd;generalize A4 x.1 n=b at*;generalize A1 x.1 n=r at*
 repeat' first|refine kS ?_|refine qS (QdJ (D1:= .int .i64) (k':= .u64) (m:=(i:Int)+j) (by kernel_rfl) (by kernel_rfl) rfl rfl (by rw[IntKind.wrap_u64];omega)) ?_|refine qS (QsM rfl rfl (by omega)) ?_|refine qS (QdJ (D1:= .int .u64) (k':= .i64) (m:=(mm:Int)) (by kernel_rfl) (by kernel_rfl) rfl rfl (by rw[hmi,IntKind.wrap_i64];omega)) ?_|refine qS (iy hr) ?_|refine qS (Qek hf c rfl rfl) ?_|refine kU ?_|refine kV ?_ ?_<;>intro q|fail
 all_goals first
  |(exfalso;simp only[decide_eq_true_eq,decide_eq_false_iff_not] at*;omega)
  |(have hb:=hlt.out.symm.trans ‹decide (r<0)=true›
    exact Qh (j -(mm+1)) (by omega) ⟨mm+1,j,by omega,hj,by omega,Pm.hid (T.out hb),hB,by simp[keepE,go_sem]⟩)
  |(have hb:=hlt.out.symm.trans ‹decide (r<0)=false›
    exact Qh (mm -i) (by omega) ⟨i,mm,by omega,by omega,by omega,hA,Pm.hid (F.out hb),by simp[keepE,go_sem]⟩)
def Qv6(l:List Qq)(n:List UInt8)(hE:Qab l=true):Pure A3 143 [dEnts l,dS n] (.tup [dI (Quu l n),dB (Qun l n)]):=by
 have c:=QvO l n hE 212 Tryz.call212 fun e _=>Qwg e n
 clear hE;generalize Quu l n=lo at*;generalize Qun l n=hh at*;refine kB ?_
 repeat' first|refine kS ?_|refine qS (Qeq cK c rfl rfl) ?_|refine kU ?_|fail
 exact Qb (hx:=rfl)
abbrev rFiles(s:Pm.Store)(t:Pl.Tree)(x:List (List UInt8))(m:List (Int×D)):List D:=
 [.pd (rSt s),dI t.root.pat,dI t.root.birth,dI t.root.size,dI t.root.sum,dI t.root.level,dI t.depth,dI t.many,tNds x,.mp (imap m)]
def Qcq(m:List (Int×D))(L:Int->List Qq):Prop:=
 ∀n,0<=n->Qab (L n)=true/\(mget m n=some (tEnts (L n))∨mget m n=none/\L n=[])
def Quq(L:Int->List Qq):Int->List (List UInt8)->Option Int
 |i,[]=>some i
 |i,n::q=>match(L i).find? (fun e=>e.1==n) with
  |none=>none
  |some e=>Quq L e.2 q
theorem QvW(L:Int->List Qq)(i:Int):Quq L i []=some i:=rfl
def QuH(L:Int->List Qq)(i:Int)(n:List UInt8)(q:List (List UInt8)):Quq L i (n::q)=match(L i).find? (fun e=>e.1==n) with
 |none=>none
 |some e=>Quq L e.2 q:=rfl
def Qvs(E:Qj->List Qq×Bool)(ns:List Qj): ∀(q:List (List UInt8)) (i:Int),Quq (fun i=>(E (ns.getD i.toNat Qd)).1) i q=QbC E ns i q
 |[],_=>rfl
 |n::q,i=>by
  rw[QuH,Qho];generalize (E (ns.getD i.toNat Qd)).1.find? (fun e=>e.1==n)=r;cases r with
  |none=>rfl
  |some e=>exact Qvs E ns q _
section
variable{P:Program}{dst:Option Tmp}{ty:TypeId}{pos:String}{after:Array Edge}{gd:Option (Nat×Bool)}{env:List (Nat×AV)}{H:List Blk}{T kt et:TypeId}{z:Value}
def QuF(hT:P.underlying T=some (.map kt et))(hk:P.underlying kt=some (.int .i64))(hz:(P.info? et).bind (·.zero)=some z){v:Operand}{n:Int}{d:D}
 (hu:aval env u= .d (.mp (imap m))) (hv:aval env v= .d (.v (.int .i64 n))) (hg:mget m n=some d):Loc P ⟨dst,.lookup T u v false,ty,pos,after,gd⟩ env H (.d d) none:=by
 have h:=Qm0 (dst:=dst) (ty:=ty) (pos:=pos) (after:=after) (gd:=gd) (H:=H) hT hk hz hu hv;rw[hg] at h;exact h
def QuS(hT:P.underlying T=some (.map kt et))(hk:P.underlying kt=some (.int .i64))(hz:(P.info? et).bind (·.zero)=some z){v:Operand}{n:Int}
 (hu:aval env u= .d (.mp (imap m))) (hv:aval env v= .d (.v (.int .i64 n))) (hg:mget m n=none):Loc P ⟨dst,.lookup T u v false,ty,pos,after,gd⟩ env H (.d (.v z)) none:=by
 have h:=Qm0 (dst:=dst) (ty:=ty) (pos:=pos) (after:=after) (gd:=gd) (H:=H) hT hk hz hu hv;rw[hg] at h;exact h
end
attribute [local irreducible] mget
def bFind(s:Pm.Store)(t:Pl.Tree)(x:List (List UInt8))(m:List (Int×D))(L:Int->List Qq)(hm:Qcq m L)(q:List (List UInt8))(hq:q.length<=1000000):
 Pure A3 81 [.pd (rFiles s t x m),tStrs q] (dI ((Quq L 0 q).getD (-1))):=by
 refine kB ?_
 repeat refine kA ?_
 refine Qo (fun mm st=> ∃(k:Nat) (at_:Int),k<=q.length/\mm=q.length -k/\0<=at_/\at_<=1000000/\AG (Quq L 0 q=Quq L at_ (q.drop k))/\
  st=⟨41,[(12,.d (dI k)),(11,.d (dI q.length)),(10,.d (tStrs q)),(5,.d (dI at_)),(0,.d (.pd (rFiles s t x m)))],[]⟩) [12,11,10,5,0] 0 q.length ⟨0,0,by omega,rfl,by omega,by omega,Pm.hid rfl,by simp[keepE,go_sem]⟩ (round:=?_)
 rintro mm st ⟨k,at_,hk,rfl,ha,hb,hF,rfl⟩
 repeat refine kG ?_
 cases q3:decide ((k:Int)<(q.length:Int))
 ·repeat refine kA ?_
  refine Qb (hx:=?_);have:k=q.length:=by simp at q3;omega
  rw[hF.out,this,AK];rfl
 have hk2:k<q.length:=by simp at q3;omega
 obtain⟨n,hn⟩: ∃n,q[k]? =some n:=⟨_,A0 hk2⟩;have hr:=Qt (f:=fun s=>[dS s]) hn
 have hd:q.drop k=n::q.drop (k+1):=by
  rw[AI hk2,(A7.1 hn).2]
 have hst:=hF.out;rw[hd,QuH] at hst;obtain⟨hE,hg⟩:=hm at_ ha;rw[Qvv hE] at hst;clear hn hd hF;have hs2:=Pm.hid hst;clear hst;rcases hg with hg|⟨hg,hl⟩
 ·have c:=(Qv6 (L at_) n hE).arg (l:=[tEnts (L at_),dS n])
  cases hh:Qun (L at_) n
  ·rw[hh] at c hs2
   generalize Quu (L at_) n=lo at*;clear hE
   repeat' first|refine kS ?_|refine qS (iy hr) ?_|refine qS (Qdi rfl) ?_|refine qS (QuF AC A2 (z:= .slice none 0 0) (by kernel_rfl) rfl rfl hg) ?_|refine kU ?_|fail
   refine Qb (hx:=?_);rw[hs2.out];rfl
  ·rw[hh] at c hs2
   have hlen: ∃e,(L at_)[Quu (L at_) n]? =some e:=by
    unfold Qun at hh;split at hh
    ·rename_i e he;exact⟨e,he⟩
    ·cases hh
   obtain⟨e,he⟩:=hlen;have hre:=Qt (f:=rEnt) he;have heb:=(ent_b hE e (A6 he)).2;have hs3:AG (Quq L 0 q=Quq L e.2 (q.drop (k+1))):=Pm.hid (by rw[hs2.out,if_pos rfl,he]);have hll:=(A7.1 he).1;clear hs2 he hE;generalize Quu (L at_) n=lo at*
   repeat' first|refine kS ?_|refine qS (iy hr) ?_|refine qS (iy hre) ?_|refine qS (Qdi rfl) ?_|refine qS (QuF AC A2 (z:= .slice none 0 0) (by kernel_rfl) rfl rfl hg) ?_|refine kU ?_|fail
   refine Qh (q.length -(k+1)) (by omega) ⟨k+1,e.2,by omega,rfl,by omega,by omega,hs3,by simp[keepE,go_sem]⟩
 ·rw[hl] at hs2 hE
  have c:=(Qv6 [] n hE);have c2:Qun [] n=false:=rfl;have c3:Quu [] n=0:=rfl;rw[c2,c3] at c;rw[c2] at hs2;clear hE c2 c3
  repeat' first|refine kS ?_|refine qS (iy hr) ?_|refine qS (Qdi rfl) ?_|refine qS (QuS AC A2 (z:= .slice none 0 0) (by kernel_rfl) rfl rfl hg) ?_|refine(aw_nilS 22 false 2 (h:=?_))|refine kU ?_|fail
  refine Qb (hx:=?_);rw[hs2.out];rfl
def bPath(s:Pm.Store)(t:Pl.Tree)(x:List (List UInt8))(m:List (Int×D))(L:Int->List Qq)(hm:Qcq m L)(p:List UInt8)(hp:p.length<=1000000000000):
 Pure A3 42 [.pd (rFiles s t x m),dS p] (dI (match QT p with|none=> -1|some q=>(Quq L 0 q).getD (-1))):=by
 have c1:=QvJ p hp;cases hq:QT p with
 |none=>
  rw[hq] at c1;refine kB ?_
  repeat refine kA ?_
  exact Qb (hx:=rfl)
 |some q=>
  rw[hq] at c1;have hl:=(Qlg.1 hq).2.1;have c2:=bFind s t x m L hm q (by omega);simp only[Option.getD_some,Option.isSome_some] at c1;simp only;generalize (Quq L 0 q).getD (-1)=r at*;refine kB ?_
  repeat refine kA ?_
  exact Qb (hx:=rfl)
def Qci(a b:Int):Int:=if b>a then b else a
def QbX:List Int->Int
 |[]=>0
 |x::l=>l.foldl Qci x
def Qqv(x:Int)(l:List Int)(y:Int):QbX (x::l++[y])=Qci (QbX (x::l)) y:=by
 show(l++[y]).foldl Qci x=_;rw[List.foldl_append];rfl
def Ql7(t:Int): ∀(l:List Int) (a:Int),l.foldl Qci a<=t↔a<=t/\ ∀y∈l,y<=t
 |[],a=>by simp
 |x::l,a=>by
  rw[List.foldl_cons,Ql7 t l];simp only[List.mem_cons,forall_eq_or_imp];unfold Qci;split<;>constructor<;>(rintro⟨h1,h2⟩;try rcases h2 with⟨h2,h3⟩)<;>first|(refine⟨by omega,by omega,?_⟩;assumption)|(refine⟨by omega,?_⟩;assumption)
def maxL_le{l:List Int}(h:l≠[])(t:Int):QbX l<=t↔ ∀y∈l,y<=t:=by
 cases l with
 |nil=>exact absurd rfl h
 |cons x l=>show l.foldl Qci x<=t↔_;rw[Ql7];simp
theorem bMax(l:List Int)(hl:0<l.length)(hb:l.length<=1000000):Pure A3 59 [dInts l] (dI (QbX l)):=by
 obtain⟨x0,l0,rfl⟩: ∃x0 l0,l=x0::l0:=by cases l with|nil=>simp at hl|cons x l=>exact⟨x,l,rfl⟩
 have h0:=Qt (f:=fun n=>[dI n]) (show(x0::l0)[0]? =some x0 from rfl)
 have hd:AG (∀(k:Nat) y,0<k->(x0::l0)[k]? =some y->QbX ((x0::l0).take (k+1))=Qci (QbX ((x0::l0).take k)) y):=Pm.hid fun k y hk hy=>by
  rw[AP,hy];obtain⟨j,rfl⟩: ∃j,k=j+1:=⟨k -1,by omega⟩;exact Qqv _ _ _
 have hfin:AG (QbX ((x0::l0).take 1)=x0):=Pm.hid rfl;generalize x0::l0=l at*;clear l0;refine kB ?_
 repeat' first|refine kS ?_|refine qS (QcV Ty.h rfl Ty.h rfl rfl rfl (by decide) h0) ?_|refine kU ?_|refine kV ?_ ?_<;>intro q|fail
 all_goals try (exfalso;simp only[decide_eq_true_eq,decide_eq_false_iff_not] at*;omega)
 refine Qo (fun m st=> ∃(k:Nat) (c:Int),0<k/\k<=l.length/\m=l.length -k+1/\AG (c=QbX (l.take k))/\
  st=⟨25,[(0,.d (dInts l)),(3,.d (dI c)),(4,.d (dI k))],[]⟩) [0,3,4] 0 l.length ⟨1,x0,by decide,by omega,by omega,Pm.hid hfin.out.symm,by simp[keepE,go_sem]⟩ (round:=?_)
 rintro m st ⟨k,c,hk0,hk,rfl,hc,rfl⟩
 repeat refine kG ?_
 cases q4:decide ((k:Int)<(l.length:Int))
 ·repeat refine kA ?_
  refine Qb (hx:=?_);have:k=l.length:=by simp at q4;omega
  subst this;rw[hc.out,AR]
 have hk2:k<l.length:=by simp at q4;omega
 obtain⟨y,hy⟩: ∃y,l[k]? =some y:=⟨_,A0 hk2⟩;have hr:=Qt (f:=fun n=>[dI n]) hy;have hstep:=Pm.hid (hd.out k y hk0 hy);clear hd hy
 repeat' first|refine kS ?_|refine qS (iy hr) ?_|refine qS (Qmz rfl rfl) ?_|refine kU ?_|fail
 exact Qh (l.length -(k+1)+1) (by omega) ⟨k+1,Qci c y,by omega,by omega,rfl,Pm.hid (by rw[hstep.out,hc.out]),by simp[keepE,go_sem,Qci]⟩
def QbK(refs:List Int)(most:Int)(p:Pl.Ptr):Bool:=Pl.ptrOk p&& !Pl.ptrHole p&&decide (p.birth<=most)&& !(refs.getD p.pat.toNat 0==0)
def QaM(m:List Int)(p:Pl.Ptr):List Int:=m.set p.pat.toNat (m.getD p.pat.toNat 0+1)
def QaB(refs:List Int)(most:Int):List Pl.Ptr->List Int->Bool×List Int
 |[],m=>(true,m)
 |p::l,m=>if QbK refs most p then QaB refs most l (QaM m p) else(false,m)
theorem QlH(m:List Int)(p:Pl.Ptr):(QaM m p).length=m.length:=by simp[QaM]
theorem QoQ{m:List Int}(h0:0<=M)(h: ∀y∈m,0<=y/\y<=M)(i:Nat):0<=m.getD i 0/\m.getD i 0<=M:=by
 rw[AA];cases hi:m[i]? with
 |none=>grind
 |some y=>exact h y (A6 hi)
theorem QiN{m:List Int}(h0:0<=M)(h: ∀y∈m,0<=y/\y<=M)(p:Pl.Ptr): ∀y∈QaM m p,0<=y/\y<=M+1:=by
 intro y hy;rcases List.mem_or_eq_of_mem_set hy with hy|rfl
 ·grind
 ·have:=QoQ h0 h p.pat.toNat;omega
theorem Qge(refs:List Int)(most:Int): ∀(l:List Pl.Ptr) (m:List Int) (M:Int),0<=M->(∀y∈m,0<=y/\y<=M)->(QaB refs most l m).2.length=m.length/\ ∀y∈(QaB refs most l m).2,0<=y/\y<=M+l.length
 |[],m,M,h0,h=>⟨rfl,fun y hy=>by have:=h y hy;omega⟩
 |p::l,m,M,h0,h=>by
  unfold QaB;split
  ·obtain⟨h1,h2⟩:=Qge refs most l (QaM m p) (M+1) (by omega) (QiN h0 h p)
   grind [QlH]
  grind
def Qrw{l:List α}{x:α}(h:l[j]? =some x):l.drop j=x::l.drop (j+1):=QgR h
theorem bCount(s:Pm.Store)(hr64:s.2.1.1.length=64)(l:List Pl.Ptr)(hl:l.length<=1000000000000)(most:Int)(m0:List Int)(hm:m0.length=64)(hb: ∀y∈m0,0<=y/\y<=1000000000000)(g:Nat):
 Does A3 60 [.d (dPtrs l),.d (dI most),.d (.pd (rSt s)),.ptr 0 0 0] [.row 0 [.osl 1 g 0 64],.arr g 1 3 (m0.map fun n=>[dI n])] [.ptr 0 0 0,.osl 1 g 0 64]
  (.d (dB (QaB s.2.1.1 most l m0).1)) [.row 0 [.osl 1 g 0 64],.arr g 1 3 ((QaB s.2.1.1 most l m0).2.map fun n=>[dI n])]:=by
 have hfl:=(Qge s.2.1.1 most l m0 1000000000000 (by decide) hb).1;have hc:AG (QaB s.2.1.1 most l m0=QaB s.2.1.1 most (l.drop 0) m0):=Pm.hid rfl;obtain⟨res,hres⟩: ∃res,res=QaB s.2.1.1 most l m0:=⟨_,rfl⟩;rw[<-hres] at hc hfl⊢;clear hres;refine kL ?hpin fun gvs=>?_
 case hpin=>
  intro i C hC
  match i,hC with
  |0,hC=>obtain rfl:=AT hC;exact⟨_,rfl,.inr ⟨rfl,0,by simp⟩⟩
  |1,hC=>obtain rfl:=AT hC;exact⟨_,rfl,rfl,rfl,.inr ⟨rfl,by simp[hfl],0,64,by simp⟩⟩
 simp only[parA,gslot,AZ,Nat.reduceAdd];clear hfl
 repeat refine kA ?_
 refine Qo (fun n st=> ∃(k:Nat) (m:List Int),k<=l.length/\n=l.length -k/\m.length=64/\(∀y∈m,0<=y/\y<=1000000000000+(k:Int))/\AG (res=QaB s.2.1.1 most (l.drop k) m)/\
  st=⟨46,[(9,.d (dPtrs l)),(10,.d (dI l.length)),(11,.d (dI k)),(1,.d (dI most)),(2,.d (.pd (rSt s))),(3,.ptr 0 0 0),(1000000,.gh [.ptr 0 0 0,.osl 1 g 0 64] gvs)],[.row 0 [.osl 1 g 0 64],.arr g 1 3 (m.map fun n=>[dI n])]⟩)
  [9,10,11,1,2,3,1000000] 2 l.length ⟨0,m0,by omega,rfl,hm,fun y hy=>by have:=hb y hy;omega,hc,by simp[keepE,go_sem]⟩ (round:=?_)
 rintro n st ⟨k,m,hk,rfl,hm2,hb2,hR,rfl⟩
 repeat refine kG ?_
 cases q4:decide ((k:Int)<(l.length:Int))
 ·repeat refine kA ?_
  have:k=l.length:=by simp at q4;omega
  subst this;rw[AK] at hR;refine Qee [6,1000000] 2 (h:=?_);refine QdB (hx:=?_) (hH:=?_)<;>rw[hR.out]<;>rfl
 have hk2:k<l.length:=by simp at q4;omega
 obtain⟨x,hx⟩: ∃x,l[k]? =some x:=⟨_,A0 hk2⟩;have hr:=Qt (f:=rPtr) hx;rw[Qrw hx] at hR;have hs1:AG (QbK s.2.1.1 most x=false->res=(false,m)):=Pm.hid fun h=>by rw[hR.out,QaB,if_neg (by rw[h];simp)]
 have hs2:AG (QbK s.2.1.1 most x=true->res=QaB s.2.1.1 most (l.drop (k+1)) (QaM m x)):=Pm.hid fun h=>by rw[hR.out,QaB,if_pos h]
 have c1:=bPtrOk x;have c2:=Qep x;have hok:AG (QbK s.2.1.1 most x=(Pl.ptrOk x&& !Pl.ptrHole x&&decide (x.birth<=most)&& !(s.2.1.1.getD x.pat.toNat 0==0))):=Pm.hid rfl
 by_cases hgood:Pl.ptrOk x=true/\Pl.ptrHole x=false/\x.birth<=most
 rotate_left
 ·have hbad:=Pm.hid (hs1.out (by
   rw[hok.out]
   by_cases a1:Pl.ptrOk x=true
   ·by_cases a2:Pl.ptrHole x=false
    ·have a3: ¬x.birth<=most:=fun a3=>hgood ⟨a1,a2,a3⟩
     simp[a3]
    ·have:Pl.ptrHole x=true:=by simpa using a2
     simp[this]
   ·have:Pl.ptrOk x=false:=by simpa using a1
    simp[this]))
  clear hs1 hs2 hok hR hx;generalize Pl.ptrOk x=okp at*;generalize Pl.ptrHole x=hop at*
  repeat' first|refine kS ?_|refine qS (iy hr) ?_|refine kU ?_|refine kV ?_ ?_<;>intro q|fail
  all_goals first
   |(exfalso;clear hbad;simp only[decide_eq_true_eq,decide_eq_false_iff_not] at*;simp_all;omega)
   |(exfalso;clear hbad;simp_all;done)
   |(refine Qee [6,1000000] 2 (h:=?_)
     refine QdB (hx:=?_) (hH:=?_)<;>rw[hbad.out]<;>done)
 obtain⟨a1,a2,a3⟩:=hgood;have hat:=QdD a1 a2;obtain⟨j,hj⟩:=AE hat.1;have hj64:j<64:=by omega
 obtain⟨rf,hrf⟩: ∃rf,s.2.1.1[j]? =some rf:=⟨_,A0 (by omega)⟩;obtain⟨mv,hmv⟩: ∃mv,m[j]? =some mv:=⟨_,A0 (by omega)⟩;have hrr:=Qt (f:=fun n=>[dI n]) hrf;have hmr:=Qt (f:=fun n=>[dI n]) hmv;have hmb:=hb2 mv (A6 hmv)
 have hok2:AG (QbK s.2.1.1 most x= !(rf==0)):=Pm.hid (by
  rw[hok.out,a1,a2,decide_eq_true a3,hj,AB,AA,hrf];rfl)
 have hbu:AG (QaM m x=m.set j (mv+1)):=Pm.hid (by unfold QaM;rw[hj,AB,AA,hmv];rfl);have hbb:=QiN (M:=1000000000000+(k:Int)) (by omega) hb2 x;rw[a1] at c1;rw[a2] at c2;rw[<-hj] at hrr hmr;have hmr2:(m.map fun n=>[dI n])[0+x.pat.toNat]? =some [dI mv]:=by rw[AZ];exact hmr
 clear hR hok hx hrf hmv a1 a2;generalize QbK s.2.1.1 most x=ck at*;generalize QaM m x=bm at*
 repeat' first|refine kS ?_|refine qS (iy hr) ?_|refine qS (iy hrr) ?_|refine qS (QcY Ty.h rfl rfl hmr2 rfl) ?_|refine(QlO Ty.h rfl rfl hmr2 rfl (kk:=?_))|refine kU ?_|refine kV ?_ ?_<;>intro q|fail
 all_goals first
  |(exfalso;simp only[decide_eq_true_eq,decide_eq_false_iff_not] at*;omega)
  |(refine Qee [6,1000000] 2 (h:=?_)
    refine QdB (hx:=?_) (hH:=?_)<;>rw[hs1.out (by rw[hok2.out];simp_all)]<;>done)
  |(refine Qh (l.length -(k+1)) (by omega) ⟨k+1,bm,by omega,rfl,by rw[hbu.out];simpa using hm2,fun y hy=>by have:=hbb y hy;omega,Pm.hid (hs2.out (by rw[hok2.out];simp_all)),?_⟩
    rw[hbu.out,List.map_set]
    simp[keepE,go_sem,hj];done)
end Aw
end
section
namespace Aw
def Qbu(refs:List Int):List (Pl.Ptr×Int)->List Int->Bool×List Int
 |[],m=>(true,m)
 |(p,top)::l,m=>if QbK refs top p then Qbu refs l (QaM m p) else(false,m)
def Qr9(refs:List Int)(most:Int): ∀(l:List Pl.Ptr) (m:List Int),QaB refs most l m=Qbu refs (l.map fun p=>(p,most)) m
 |[],m=>rfl
 |p::l,m=>by unfold QaB;rw[AX,Qbu,Qr9 refs most l]
def QiM(refs:List Int)(l2:List (Pl.Ptr×Int)): ∀(l1:List (Pl.Ptr×Int)) (m:List Int),Qbu refs (l1++l2) m=if(Qbu refs l1 m).1 then Qbu refs l2 (Qbu refs l1 m).2 else Qbu refs l1 m
 |[],m=>rfl
 |(p,top)::l,m=>by
  rw[List.cons_append,Qbu,Qbu];split
  ·exact QiM refs l2 l _
  ·rfl
theorem Qpd(m:List Int)(p:Pl.Ptr)(i:Nat):m.getD i 0<=(QaM m p).getD i 0:=by
 unfold QaM
 grind
theorem QlE(refs:List Int)(i:Nat): ∀(l:List (Pl.Ptr×Int)) (m:List Int),m.getD i 0<=(Qbu refs l m).2.getD i 0
 |[],m=>Int.le_refl _
 |(p,top)::l,m=>by
  unfold Qbu;split
  ·exact Int.le_trans (Qpd m p i) (QlE refs i l _)
  grind
theorem QkO{refs:List Int}: ∀(l:List (Pl.Ptr×Int)) (m:List Int),m.length=64->(∀i,i<64->0<=m.getD i 0/\m.getD i 0<=refs.getD i 0)->
 Qbx refs l m=((Qbu refs l m).1&&(A9 64).all fun i=>decide ((Qbu refs l m).2.getD i 0<=refs.getD i 0))
 |[],m,_,h=>by
  unfold Qbx Qbu
  grind
 |(p,top)::l,m,hm,h=>by
  unfold Qbx Qbu;cases hc:QbK refs top p
  ·simp only[AH,if_false,AU]
   unfold QbK at hc
   grind
  ·simp only[if_true]
   unfold QbK at hc;simp only[A8,AQ] at hc;obtain⟨⟨⟨h1,h2⟩,h3⟩,h4⟩:=hc;have hp:=QdD h1 h2;have hb:=h p.pat.toNat (by omega);have hlt:p.pat.toNat<m.length:=by omega
   rw[h1,h2,h3];simp only[Bool.not_false,AY]
   by_cases hle:m.getD p.pat.toNat 0+1<=refs.getD p.pat.toNat 0
   ·rw[decide_eq_true hle,AY]
    refine QkO l (QaM m p) ((QlH m p).trans hm) fun i hi=>?_
    have:=h i hi;unfold QaM
    grind
   ·rw[decide_eq_false hle,AU]
    have hbad:((A9 64).all fun i=>decide ((Qbu refs l (QaM m p)).2.getD i 0<=refs.getD i 0))=false:=by
     rw[List.all_eq_false];refine⟨p.pat.toNat,AW.2 (by omega),?_⟩;have h5:=QlE refs p.pat.toNat l (QaM m p);have h6:(QaM m p).getD p.pat.toNat 0=m.getD p.pat.toNat 0+1:=by unfold QaM;grind
     grind
    grind
def Qc8(s:Pm.Store):Bool:=
 (QaB s.2.1.1 (s.2.2.1 -1) s.2.2.2.1 (AF 64 0)).1&&(QaB s.2.1.1 s.2.2.2.2.1 s.2.2.2.2.2.1 (QaB s.2.1.1 (s.2.2.1 -1) s.2.2.2.1 (AF 64 0)).2).1&&
   (A9 64).all fun i=>decide ((QaB s.2.1.1 s.2.2.2.2.1 s.2.2.2.2.2.1 (QaB s.2.1.1 (s.2.2.1 -1) s.2.2.2.1 (AF 64 0)).2).2.getD i 0<=s.2.1.1.getD i 0)
theorem Qo8{s:Pm.Store}(h: ∀i,i<64->0<=s.2.1.1.getD i 0):Qbx s.2.1.1 (Qbn s) (AF 64 0)=Qc8 s:=by
 have hz: ∀i,i<64->(AF 64 (0:Int)).getD i 0=0:=fun i hi=>by
  grind
 rw[QkO _ _ (by simp) fun i hi=>by grind];unfold Qbn Qc8;rw[QiM,<-Qr9,<-Qr9]
 grind
theorem Qoz{s:Pm.Space}(h:Pl.spaceOk s=true): ∀i,i<64->0<=s.1.getD i 0:=by
 intro i hi;unfold Pl.spaceOk at h;simp only[A8,AS] at h;have:=h.2 i (AW.2 hi);unfold Pl.QdN Pl.QdC at this;simp only[A8] at this;have:=this.1.1.2;simp[Pl.inR] at this
 grind
end Aw
end
section
open Go.RowKit
namespace Aw
variable{nm es t:List Nat}{x:List (List UInt8)}
def QcF(mp:List (Int×D))(nm:List Nat):Prop:= ∀k:Nat,(mget mp (k:Int)).getD (.v (.int .i64 0))= .v (.int .i64 (nm.count k:Nat))
def QsJ:QcF [] []:=fun k=>by simp[mget]
theorem Qqo{mp:List (Int×D)}(h:QcF mp nm)(e:Nat):QcF (mset mp (e:Int) (.v (.int .i64 ((nm.count e:Int)+1)))) (nm++[e]):=fun k=>by
 by_cases hk:e=k
 ·grind [QeP]
 ·rw[Qh7 (by omega),h k]
  grind
abbrev Qu(x:List (List UInt8)):List Qj:=x.map fun y=>(Qp y).1
def Qc3(x:List (List UInt8)):Prop:= ∀y∈x,y=[]∨NodeB (Qp y).1
theorem Qfc(k:Nat):(Qu x).getD k Qd=(Qp (x.getD k [])).1:=by grind [Qmq]
theorem Qf9(h:Qc3 x)(k:Nat):x.getD k []=[]/\(Qu x).getD k Qd=Qd∨x.getD k []≠[]/\k<x.length/\NodeB ((Qu x).getD k Qd):=by
 rw[Qfc]
 by_cases hy:x.getD k []=[]
 ·grind [Qmq]
 ·refine .inr ⟨hy,?_,?_⟩
  ·grind
  ·rcases h (x.getD k []) (by
    grind) with h|h
   ·grind
   ·exact h
theorem Qi1(h:Qc3 x)(k:Nat):Qs (Qu x) k=0↔x.getD k []=[]:=by
 unfold Qs;rcases Qf9 h k with⟨h1,h2⟩|⟨h1,_,h2⟩
 ·rw[h2];exact⟨fun _=>h1,fun _=>rfl⟩
 ·have:=h2.kind
  grind
theorem QrU(h:Qc3 x)(k:Nat):Qco x (k:Int)=if Qs (Qu x) k=0 then(Qd,false) else((Qu x).getD k Qd,true):=by grind [Qco,Qi1,Pl.inR]
def Qcj(kind:Nat->Nat)(ch:Nat->Option (List Nat))(links:Nat->Nat)(n:Nat):Bool:=
 match Gr.bfs kind ch (1+Gr.left kind n []) [0] [] with
 |none=>false
 |some nm=>(A9 n).all fun k=>decide (k=0)||decide (kind k=0)||decide (nm.count k=links k)
theorem QsR(kind:Nat->Nat)(n:Nat)(nm:List Nat):Gr.left kind n nm<=n:=by
 unfold Gr.left
 grind
theorem QoO{kind:Nat->Nat}{e:Nat}(h:kind e=0):Gr.inner kind (e::es) t nm=none:=by
 unfold Gr.inner;grind
theorem QoM{kind:Nat->Nat}{e:Nat}(h:kind e=1):Gr.inner kind (e::es) t nm=Gr.inner kind es t (nm++[e]):=by grind [Gr.inner]
theorem QoN{kind:Nat->Nat}{e:Nat}(h:kind e=2)(hc:0<nm.count e):Gr.inner kind (e::es) t nm=none:=by
 unfold Gr.inner;grind
theorem QqF{kind:Nat->Nat}{e:Nat}(h:kind e=2)(hc:nm.count e=0):Gr.inner kind (e::es) t nm=Gr.inner kind es (t++[e]) (nm++[e]):=by grind [Gr.inner]
attribute [local irreducible] ASeq ADraw AWP Loc mget mset AStep Fg.PlanF Fg.Flts
def bLinked(s:Pm.Store)(t:Pl.Tree)(x:List (List UInt8))(hx16:x.length<=16)(hx:Qc3 x)(m:List (Int×D))(L:Int->List Qq)(hm:Qcq m L)(ch:Nat->Option (List Nat))(hch: ∀k:Nat,(ch k).getD []=(L k).map fun e=>e.2.toNat):
 Pure A3 110 [.pd (rFiles s t x m)] (dB (Qcj (Qs (Qu x)) ch (Qaw (Qu x)) x.length)):=by
 have hlk: ∀k,Qs (Qu x) k=2->k<x.length:=fun k hk=>by
  have:=QdO (ns:=Qu x) (k:=k) (by omega);rwa [List.length_map] at this
 obtain⟨kind,hkind⟩: ∃kind,kind=Qs (Qu x):=⟨_,rfl⟩;obtain⟨res,hres⟩: ∃res,res=Qcj kind ch (Qaw (Qu x)) x.length:=⟨_,rfl⟩;rw[<-hkind] at hlk⊢;rw[<-hres];have hB0:AG (Gr.bfs kind ch (1+Gr.left kind x.length []) [0] []=none->res=false):=Pm.hid fun h=>by rw[hres,Qcj,h]
 have hB1:AG (∀nm,Gr.bfs kind ch (1+Gr.left kind x.length []) [0] []=some nm->res=(A9 x.length).all fun k=>decide (k=0)||decide (kind k=0)||decide (nm.count k=Qaw (Qu x) k)):=Pm.hid fun nm h=>by rw[hres,Qcj,h]
 clear hres;have hll:=QsR kind x.length [];obtain⟨F0,hF0⟩: ∃F0,F0=1+Gr.left kind x.length []:=⟨_,rfl⟩;have hF17:F0<=17:=by omega
 rw[<-hF0] at hB0 hB1;have hhk:=Pm.hid hkind
 replace hlk:=Pm.hid hlk
 replace hF0:=Pm.hid hF0
 refine kB ?_
 repeat' first|refine kS ?_|refine stepS2 (Qfu) (k:=?_)|refine kU ?_|fail
 refine Qo (fun mm st=> ∃(g:Nat) (pre todo nm:List Nat) (mp:List (Int×D)),AG (Gr.bfs kind ch F0 [0] []=Gr.bfs kind ch mm todo nm)/\AG (todo.length+Gr.left kind x.length nm<=mm)/\AG (nm.length+12*mm<=12*F0)/\AG (QcF mp nm)/\
  (todo≠[]/\st=⟨89,[(0,.d (.pd (rFiles s t x m))),(3,.mp 0 0),(4,.osl 1 g pre.length todo.length)],[.mp 0 (imap mp),.arr g 1 3 ((pre++todo).map fun n=>[dI (n:Nat)])]⟩∨
   todo=[]/\st=⟨89,[(0,.d (.pd (rFiles s t x m))),(3,.mp 0 0),(4,.d (.sl false 1 []))],[.mp 0 (imap mp),.arr g 1 3 (pre.map fun n=>[dI (n:Nat)])]⟩)) [0,3,4] 2 F0
  ⟨0,[],[0],[],[],Pm.hid rfl,Pm.hid (by rw[hF0.out];simp),Pm.hid (by simp),Pm.hid QsJ,.inl ⟨by simp,by simp[keepE,go_sem,imap]⟩⟩ (round:=?_)
 rintro mm st ⟨g,pre,todo,nm,mp,hR,hlf,hnl,hN,hst⟩;rcases hst with⟨hne,rfl⟩|⟨rfl,rfl⟩;rotate_left
 ·have hn2:Gr.bfs kind ch F0 [0] []=some nm:=by rw[hR.out];unfold Gr.bfs;rfl
  have hr1:=Pm.hid (hB1.out nm hn2);clear hB0 hB1 hR hlf hn2 hm hch hlk hF0;have hcb: ∀k,(nm.count k:Nat)<=nm.length:=fun k=>AL
  repeat' first|refine kS ?_|refine qS (Qdi rfl) ?_|refine kU ?_|fail
  refine Qo (fun mm st=> ∃k,k<=x.length/\mm=x.length -k/\AG ((A9 k).all (fun k=>decide (k=0)||decide (kind k=0)||decide (nm.count k=Qaw (Qu x) k))=true)/\
   st=⟨89,[(65,.d (tNds x)),(66,.d (dI x.length)),(67,.d (dI k)),(3,.mp 0 0)],[.mp 0 (imap mp)]⟩) [65,66,67,3] 1 x.length ⟨0,by omega,rfl,Pm.hid rfl,by simp[keepE,go_sem]⟩ (round:=?_)
  rintro m2 st ⟨k,hk,rfl,hA,rfl⟩
  repeat refine kG ?_
  cases q3:decide ((k:Int)<(x.length:Int))
  ·repeat refine kA ?_
   refine Qb (hx:=?_);have:k=x.length:=by simp at q3;omega
   rw[hr1.out,<-this,hA.out]
  have hk2:k<x.length:=by simp at q3;omega
  obtain⟨y,hy⟩: ∃y,x[k]? =some y:=⟨_,A0 hk2⟩;have hyd:x.getD k []=y:=by rw[AA,hy];rfl
  have hr:=Qt (f:=fun x=>[QaR x]) hy;have T:AG ((decide (k=0)||decide (kind k=0)||decide (nm.count k=Qaw (Qu x) k))=true->(A9 (k+1)).all (fun k=>decide (k=0)||decide (kind k=0)||decide (nm.count k=Qaw (Qu x) k))=true):=fun h=>Pl.Qdd (p:=fun k=>decide (k=0)||decide (kind k=0)||decide (nm.count k=Qaw (Qu x) k)) hA.out h
  have F:AG ((decide (k=0)||decide (kind k=0)||decide (nm.count k=Qaw (Qu x) k))=false->res=false):=fun h=>by
   rw[hr1.out,Pl.Qda (p:=fun k=>decide (k=0)||decide (kind k=0)||decide (nm.count k=Qaw (Qu x) k)) hk2 h]
  have hlook:=hN.out k;have hkz:=Qi1 hx k;have hnx:=Qfc (x:=x) k;rw[hyd] at hkz hnx;rw[<-hkind] at hkz;rcases Qf9 hx k with⟨h1,_⟩|⟨h1,_,hnb⟩
  ·rw[hyd] at h1
   have e:QaR y= .v (.pointer none):=by unfold QaR;rw[if_pos h1]
   rw[e] at hr;have ht:=Pm.hid (T.out (by rw[decide_eq_true (p:=kind k=0) (hkz.2 h1)];simp));clear T F hA hr1 hkz hnx hyd hy hx
   repeat' first|refine kS ?_|refine qS (iy hr) ?_|refine qD (Qlw AD rfl) ?_|refine kU ?_|fail
   all_goals first|exfalso;simp at*;done|exact Qh (x.length -(k+1)) (by omega) ⟨k+1,by omega,rfl,ht,by simp[keepE,go_sem]⟩
  ·rw[hyd] at h1
   have e:QaR y= .pd (rNode (Qp y).1):=by unfold QaR;rw[if_neg h1]
   rw[e] at hr;rw[hnx] at hnb;have hlink:Qaw (Qu x) k=(Qp y).1.links.toNat:=by unfold Qaw;rw[hnx]
   have hkn: ¬kind k=0:=fun h=>h1 (hkz.1 h)
   rw[hlink,decide_eq_false hkn] at T F;have hlb:=hnb.links;clear hA hr1 hkz hnx hyd hy hx e hlink hnb;generalize (Qp y).1=N at*;obtain⟨kd,links,size,⟨⟨p1,p2,p3,p4,p5⟩,depth,many⟩⟩:=N;simp only at T F hlb;obtain⟨lk,rfl⟩:=AE (show 0<=links by omega);rw[AB] at T F;generalize Aa k nm=cn at*
   repeat' first|refine kS ?_|refine qS (iy hr) ?_|refine qD (Qke AD rfl) ?_|refine qD (Qdi rfl) ?_|refine qD (Qej A5 A2 (z:= .int .i64 0) (by kernel_rfl) rfl rfl rfl hlook) ?_|refine kU ?_|refine kV ?_ ?_<;>intro q|fail
   all_goals first
    |(have h9:((decide (k=0)||false||decide (cn=lk))=false):=by
       rw[decide_eq_false (show ¬k=0 by clear T F hlook hr hN hnl hhk;simp at*;omega),decide_eq_false (show ¬cn=lk by clear T F hlook hr hN hnl hhk;simp at*;omega)];rfl
      refine Qb (hx:=?_)
      rw[F.out h9];done)
    |(have h9:((decide (k=0)||false||decide (cn=lk))=true):=by
       by_cases hk0:k=0
       ·rw[decide_eq_true hk0];rfl
       ·rw[decide_eq_true (show cn=lk by clear T F hlook hr hN hnl hhk;simp at*;omega)];simp
      exact Qh (x.length -(k+1)) (by omega) ⟨k+1,by omega,rfl,Pm.hid (T.out h9),by simp[keepE,go_sem]⟩)
 obtain⟨f,td,rfl⟩:=List.exists_cons_of_ne_nil hne;obtain⟨m0,rfl⟩: ∃m0,mm=m0+1:=⟨mm -1,by have:=hlf.out;simp only[AJ] at this;omega⟩;have hfr:((pre++f::td).map fun n=>[dI (n:Nat)])[pre.length+((0:Int)).toNat]? =some [dI (f:Nat)]:=by simp
 obtain⟨hE,hg⟩:=hm (f:Nat) (by omega);have hcf:=hch f;generalize L (f:Nat)=es at*
 have hst:Gr.bfs kind ch F0 [0] []=match Gr.inner kind (es.map fun e=>e.2.toNat) td nm with|none=>none|some (t',nm')=>Gr.bfs kind ch m0 t' nm':=by
  rw[hR.out,<-hcf]
  conv=>lhs;unfold Gr.bfs
  rfl
 replace hst:=Pm.hid hst
 have hes:es.length<=12:=by unfold Qab at hE;rw[A8,decide_eq_true_eq] at hE;exact hE.2
 have hids:=Pm.hid (ent_b hE);have hll0:=Pm.hid hll;have hlf2:=Pm.hid (show td.length+Gr.left kind x.length nm<=m0 by have:=hlf.out;simp only[AJ] at this;omega)
 have hbnd:nm.length<=204/\td.length<=17:=by
  have:=hnl.out;have:=hlf2.out;omega
 clear hE hcf hB1 hR hm hch hlf hne hll
 have hg:mget m (f:Nat)=some (.sl true 2 (es.map rEnt))∨mget m (f:Nat)=none/\es.map rEnt=[]:=by
  rcases hg with h|⟨h1,h2⟩
  ·exact .inl h
  ·exact .inr ⟨h1,by rw[h2];rfl⟩
 repeat' first|refine kS ?_|refine qD (Qdi rfl) ?_|refine qS (Qdi rfl) ?_|refine qD (QcY Ty.h rfl rfl hfr rfl) ?_|refine qD (QfI AC A2 (by kernel_rfl) rfl rfl hg) ?_|refine kU ?_|refine kV ?_ ?_<;>intro q|fail
 rotate_left
 ·exfalso;simp at*
 clear hfr hg
 refine Qo (fun m2 st=> ∃(j g:Nat) (pre t2 nm2:List Nat) (mp:List (Int×D)),j<=es.length/\m2=es.length -j/\AG (Gr.inner kind (es.map fun e=>e.2.toNat) td nm=Gr.inner kind ((es.drop j).map fun e=>e.2.toNat) t2 nm2)/\nm2.length=nm.length+j/\t2.length<=td.length+j/\AG (QcF mp nm2)/\
  st=⟨89,[(25,.d (tEnts es)),(26,.d (dI es.length)),(27,.d (dI j)),(0,.d (.pd (rFiles s t x m))),(3,.mp 0 0),(4,.osl 1 g pre.length (t2.length+1))],[.mp 0 (imap mp),.arr g 1 3 ((pre++f::t2).map fun n=>[dI (n:Nat)])]⟩) [25,26,27,0,3,4] 2 es.length ⟨0,g,pre,td,nm,mp,by omega,rfl,Pm.hid rfl,rfl,by omega,hN,by simp[keepE,go_sem]⟩ (round:=?_)
 clear hN;rintro m2 st ⟨j,g,pre,t2,nm2,mp,hj,rfl,hI,hn2,ht2,hN,rfl⟩
 repeat refine kG ?_
 cases q3:decide ((j:Int)<(es.length:Int))
 ·have hje:j=es.length:=by simp at q3;omega
  have hin:Gr.inner kind (es.map fun e=>e.2.toNat) td nm=some (t2,nm2):=by rw[hI.out,hje,AK];rfl
  have hlf3:=Pm.hid (Gr.Qga hlk.out hin);have hst2:AG (Gr.bfs kind ch F0 [0] []=Gr.bfs kind ch m0 t2 nm2):=Pm.hid (by rw[hst.out,hin]);clear hst hin hI;cases t2 with
  |nil=>
   have hrw:((pre++[f]).map fun n=>[dI (n:Nat)])=(pre++f::[]).map fun n=>[dI (n:Nat)]:=rfl
   repeat' first|refine kS ?_|refine qS (QoF rfl rfl rfl rfl rfl (by omega) (by simp)) ?_|refine kU ?_|fail
   refine Qh m0 (by omega) ⟨g,pre++[f],[],nm2,mp,hst2,Pm.hid ?_,Pm.hid ?_,hN,.inr ⟨rfl,?_⟩⟩
   ·have:=hlf3.out;have:=hlf2.out;omega
   ·have:=hnl.out;omega
   ·simp[keepE,go_sem]
  |cons a t3=>
   repeat' first|refine kS ?_|refine qS (Qlv rfl rfl rfl rfl rfl (by omega) (by simp;omega)) ?_|refine kU ?_|fail
   refine Qh m0 (by omega) ⟨g,pre++[f],a::t3,nm2,mp,hst2,Pm.hid ?_,Pm.hid ?_,hN,.inl ⟨by simp,?_⟩⟩
   ·have:=hlf3.out;have:=hlf2.out;omega
   ·have:=hnl.out;omega
   ·simp[keepE,go_sem]
 have hj2:j<es.length:=by simp at q3;omega
 obtain⟨e,he⟩: ∃e,es[j]? =some e:=⟨_,A0 hj2⟩;have hr:=Qt (f:=rEnt) he;have heb:=(hids.out e (A6 he)).2;have hdr:es.drop j=e::es.drop (j+1):=by rw[AI hj2,(A7.1 he).2]
 replace hI:=hI.out
 rw[hdr,AX] at hI;obtain⟨nmE,id⟩:=e;simp only at heb hI;obtain⟨kid,rfl⟩:=AE (show 0<=id by omega);rw[AB] at hI
 replace hI:=Pm.hid hI
 have c1:=bNodeAt x (kid:Int) (by omega);rw[QrU hx kid,<-hkind] at c1;have hlook:=hN.out kid;have hcb:nm2.count kid<=nm2.length:=AL;have hNs:=Pm.hid (Qqo hN.out kid);clear he hdr hN
 by_cases hk0:kind kid=0
 ·rw[if_pos hk0] at c1
  have hbad:=Pm.hid (hB0.out (by rw[hst.out,hI.out,QoO hk0]));clear hst hI hNs
  repeat' first|refine kS ?_|refine qS (iy hr) ?_|(show AWP _ (.region 8 _ _) _ _;refine(Qa 2 (h:=Fg.awp_drawF (id:=8) [0,1,2,3,4,5,6,7,8,9] [11] ?_)))|refine(Fg.aw_fltL (hl:=fun H=>Qdi rfl) (k:=?_))|refine(Fg.aw_fltL (hl:=fun H=>Qdh cK c1 rfl) (k:=?_))|refine kU ?_|fail
  refine Qb (hx:=?_);rw[hbad.out]
 rw[if_neg hk0] at c1;have hkN:kind kid=((Qu x).getD kid Qd).kind.toNat:=by rw[hkind];rfl
 have hNB:NodeB ((Qu x).getD kid Qd):=by
  rcases Qf9 hx kid with⟨_,h2⟩|⟨_,_,h2⟩
  ·rw[h2] at hkN;exact absurd hkN hk0
  ·exact h2
 have hNk:=hNB.kind;clear hNB;generalize (Qu x).getD kid Qd=N at*;obtain⟨kd,links,size,⟨⟨p1,p2,p3,p4,p5⟩,depth,many⟩⟩:=N;simp only at hNk hkN c1;generalize hcn:Aa kid nm2=cn at*;have hlook2:(mget (mset mp (kid:Int) (dI ((cn:Int)+1))) (kid:Int)).getD (.v (.int .i64 0))=dI ((cn:Int)+1):=by rw[QeP];rfl
 rcases hNk with rfl|rfl
 ·have hk1:kind kid=1:=hkN
  have hI2:=hI.out;rw[QoM hk1] at hI2
  replace hI2:=Pm.hid hI2
  clear hI
  repeat' first|refine kS ?_|refine qS (iy hr) ?_|(show AWP _ (.region 8 _ _) _ _;refine(Qa 2 (h:=Fg.awp_drawF (id:=8) [0,1,2,3,4,5,6,7,8,9] [11] ?_)))|refine(Fg.aw_fltL (hl:=fun H=>Qdi rfl) (k:=?_))|refine(Fg.aw_fltL (hl:=fun H=>Qdh cK c1 rfl) (k:=?_))|refine qS (Qej A5 A2 (z:= .int .i64 0) (by kernel_rfl) rfl rfl rfl hlook) ?_|refine(QhV A5 A2 (kk:=?_))|refine kU ?_|fail
  all_goals first|exfalso;simp at*;done|refine Qh (es.length -(j+1)) (by omega) ⟨j+1,g,pre,t2,nm2++[kid],_,by omega,rfl,hI2,by simp;omega,by omega,hNs,by simp[keepE,go_sem]⟩
 have hk2:kind kid=2:=hkN
 by_cases hc0:cn=0
 rotate_left
 ·have hbad:=Pm.hid (hB0.out (by rw[hst.out,hI.out,QoN hk2 (by omega)]))
  clear hst hI hNs
  repeat' first|refine kS ?_|refine qS (iy hr) ?_|(show AWP _ (.region 8 _ _) _ _;refine(Qa 2 (h:=Fg.awp_drawF (id:=8) [0,1,2,3,4,5,6,7,8,9] [11] ?_)))|refine(Fg.aw_fltL (hl:=fun H=>Qdi rfl) (k:=?_))|refine(Fg.aw_fltL (hl:=fun H=>Qdh cK c1 rfl) (k:=?_))|refine qS (Qej A5 A2 (z:= .int .i64 0) (by kernel_rfl) rfl rfl rfl hlook) ?_|refine(QhV A5 A2 (kk:=?_))|refine qS (Qej A5 A2 (z:= .int .i64 0) (by kernel_rfl) rfl rfl rfl hlook2) ?_|refine kU ?_|refine kV ?_ ?_<;>intro q|fail
  all_goals first
   |(exfalso;simp only[decide_eq_true_eq,decide_eq_false_iff_not] at*;omega)
   |(refine Qb (hx:=?_)
     rw[hbad.out];done)
 have hI2:=hI.out;rw[QqF hk2 (by omega)] at hI2
 replace hI2:=Pm.hid hI2
 clear hI
 repeat' first|refine kS ?_|refine qS (iy hr) ?_|(show AWP _ (.region 8 _ _) _ _;refine(Qa 2 (h:=Fg.awp_drawF (id:=8) [0,1,2,3,4,5,6,7,8,9] [11] ?_)))|refine(Fg.aw_fltL (hl:=fun H=>Qdi rfl) (k:=?_))|refine(Fg.aw_fltL (hl:=fun H=>Qdh cK c1 rfl) (k:=?_))|refine qS (Qej A5 A2 (z:= .int .i64 0) (by kernel_rfl) rfl rfl rfl hlook) ?_|refine(QhV A5 A2 (kk:=?_))|refine qS (Qej A5 A2 (z:= .int .i64 0) (by kernel_rfl) rfl rfl rfl hlook2) ?_|refine(aw_appO (newrows:=[[dI (kid:Nat)]]) rfl (hol:=?_) (hx:=QpL rfl rfl rfl (by decide) ?_) (hnp:=?_) (hb:=?_) (hm:=?_) (k1:=?_) (k2:=?_))|refine kU ?_|refine kV ?_ ?_<;>intro q|fail
 all_goals first
  |(exfalso;simp only[decide_eq_true_eq] at*;omega)
  |(simp;done)
  |(simp;omega)
  |(intro r hr d hd
    obtain rfl:=AO.1 hr;obtain rfl:=AO.1 hd
    rfl)
  |(refine Qh (es.length -(j+1)) (by omega) ⟨j+1,g+1,pre,t2++[kid],nm2++[kid],_,by omega,rfl,hI2,by simp;omega,by simp;omega,hNs,?_⟩;simp[keepE,go_sem];done)
  |(refine Qh (es.length -(j+1)) (by omega) ⟨j+1,g+1,[],t2++[kid],nm2++[kid],_,by omega,rfl,hI2,by simp;omega,by simp;omega,hNs,?_⟩;simp[keepE,go_sem];done)
def QaH(s:Pm.Store)(x:List (List UInt8))(i:Int):List Qq:=(Qg s ((Qu x).getD i.toNat Qd)).1
def QaK(s:Pm.Store)(x:List (List UInt8)):Nat->List (Int×D)
 |0=>[]
 |k+1=>if Qs (Qu x) k=2 then mset (QaK s x k) (k:Nat) (tEnts (QaH s x (k:Nat))) else QaK s x k
theorem QnR(s:Pm.Store)(x:List (List UInt8)): ∀(k j:Nat),mget (QaK s x k) (j:Int)=if j<k/\Qs (Qu x) j=2 then some (tEnts (QaH s x (j:Nat))) else none
 |0,j=>by grind [QaK,mget]
 |k+1,j=>by
  have ih:=QnR s x k j
  grind [QaK,QeP,Qh7]
theorem Qwb(s:Pm.Store)(x:List (List UInt8))(i:Int):Qab (QaH s x i)=true:=by
 unfold QaH;rcases QdG s ((Qu x).getD i.toNat Qd) with h|h
 ·exact h.2
 ·rw[h];rfl
theorem QmT(s:Pm.Store)(x:List (List UInt8)):Qcq (QaK s x x.length) (QaH s x):=fun n hn=>by
 grind [Qwb,QnR,Qs,QaH,AB,QdG,Qd,QiD]
def Qaj(s:Pm.Store)(x:List (List UInt8))(k:Nat):Bool:=
 decide (Qs (Qu x) k=0)||(decide (Qs (Qu x) k=1)&&QO s ((Qu x).getD k Qd))||(decide (Qs (Qu x) k=2)&&(Qg s ((Qu x).getD k Qd)).2)
def Qcx(s:Pm.Store)(t:Pl.Tree):Bool:=Qat s t&&decide (Qs (Qu (Qc s t)) 0=2)&&(A9 (Qc s t).length).all (Qaj s (Qc s t))
def QcG(s:Pm.Store)(x:List (List UInt8)):Nat->Option (List Nat):=Gr.chOf (Qb1 (Qu x) (Qg s))
def Qcp(s:Pm.Store)(x:List (List UInt8)):Bool:=Qcj (Qs (Qu x)) (QcG s x) (Qaw (Qu x)) x.length
def QbT(s:Pm.Store)(t:Pl.Tree):D:=
 if Qcx s t then .tup [.pd (rFiles s t (Qc s t) (QaK s (Qc s t) (Qc s t).length)),dB (Qcp s (Qc s t))] else .tup [.v (.pointer none),dB false]
theorem Qwd(s:Pm.Store)(x:List (List UInt8))(k:Nat):(QcG s x k).getD []=(QaH s x (k:Nat)).map fun e=>e.2.toNat:=by
 unfold QcG Gr.chOf Qb1 QaH;rw[AB];rcases QdG s ((Qu x).getD k Qd) with h|h
 ·simp_all
 grind
theorem Qg8{s:Pm.Store}{t:Pl.Tree}(h:Qat s t=true):Qc3 (Qc s t)/\(Qc s t).length<=16/\ ∀k,Qs (Qu (Qc s t)) k≠0->Q8 ((Qu (Qc s t)).getD k Qd)=true:=by
 unfold Qat at h;rw[A8,AS] at h;have ht:=Qdo h.1
 have hN: ∀y∈Qc s t,y=[]∨Q8 (Qp y).1=true:=fun y hy=>by
  have:=h.2 y hy;rw[Bool.or_eq_true,A8] at this;rcases this with h|h
  ·grind
  ·rcases QfV y with g|g
   ·exact .inr g.1.1
   grind
 refine⟨fun y hy=>(hN y hy).imp id fun g=>QdZ g,?_,fun k hk=>?_⟩
 ·rw[texts_len s ht];have:=ht.manyHi;omega
 ·rw[Qfc]
  have hlt:k<(Qc s t).length:=by
   have:=QdO hk;grind
  have hm:(Qc s t).getD k []∈Qc s t:=by
   grind
  rcases hN _ hm with g|g
  ·exfalso;apply hk;unfold Qs;rw[Qfc,g,Qmq];rfl
  ·exact g
theorem QqV(s:Pm.Store)(hg:QP s)(n:Qj):(Qb9 s n).1.length<=1000000:=by
 unfold Qb9;split
 ·rename_i h
  rw[A8] at h;unfold QaL;split
  ·have ht:=Qdo h.1
   have:=flat_le (m:=128) (l:=Qc s n.tree) fun y hy=>by
    grind [Qc,Qh4]
   have h2:=texts_len s ht;have h3:=ht.manyHi
   grind
  ·simp
 ·simp
theorem QoY{s:Pm.Store}{n:Qj}(h1:Q8 n=true)(h2:n.kind=2):Qg s n=if(Qb9 s n).2=true then QbP (Qb9 s n).1 else([],false):=by grind [Qg,Qb9]
theorem Qpi(s:Pm.Store)(hg:QP s)(htx:0<=s.2.2.1)(t:Pl.Tree)(hT: ∀n,Q8 n=true->n.kind=1->Pure A3 34 [.pd (rSt s),dNode n] (.tup [.any,dB (QO s n)])):
 Pure A3 53 [.pd (rSt s),dTree t] (QbT s t):=by
 have c1:=bNodes s hg htx t;have hd:=Pm.hid (QbT.eq_def s t);have hr:AG (Qcx s t=(Qat s t&&decide (Qs (Qu (Qc s t)) 0=2)&&(A9 (Qc s t).length).all (Qaj s (Qc s t)))):=Pm.hid rfl;generalize QbT s t=res at*;cases htab:Qat s t
 ·rw[htab] at c1 hr
  have hbad:=Pm.hid (hd.out.trans (if_neg (by rw[hr.out];simp)));simp only[AH,if_false] at c1;refine kE ?_;refine Qa 0 (h:=?_)
  repeat refine kA ?_
  refine Qb (hx:=?_);rw[hbad.out]
 obtain⟨hx,hx16,hnok⟩:=Qg8 htab;rw[htab] at c1 hr;simp only[if_true] at c1;generalize Qc s t=x at*;have c0:=bNodeAt x 0 (by omega);rw[show Qco x 0=_ from QrU hx 0] at c0
 by_cases h02:Qs (Qu x) 0=2
 rotate_left
 ·have hbad:=Pm.hid (hd.out.trans (if_neg (by rw[hr.out,decide_eq_false h02];simp)))
  by_cases h00:Qs (Qu x) 0=0
  ·rw[if_pos h00] at c0
   simp only at c0;clear hd hr hT;refine kE ?_;refine Qa 0 (h:=?_)
   repeat' first|refine kS ?_|refine stepS2 (Qfu) (k:=?_)|refine kU ?_|fail
   all_goals first
    |(refine Qb (hx:=?_)
      rw[hbad.out];done)
  ·rw[if_neg h00] at c0
   have hk1:((Qu x).getD 0 Qd).kind≠2:=fun h=>h02 (by unfold Qs;omega)
   generalize (Qu x).getD 0 Qd=N at*;obtain⟨kd,links,size,⟨⟨p1,p2,p3,p4,p5⟩,depth,many⟩⟩:=N;simp only at c0 hk1;have hk2:(kd==2)=false:=by grind
   clear hd hr hT;refine kE ?_;refine Qa 0 (h:=?_)
   repeat' first|refine kS ?_|refine stepS2 (Qfu) (k:=?_)|refine kU ?_|refine kV ?_ ?_<;>intro q|fail
   all_goals first
    |(refine Qb (hx:=?_)
      rw[hbad.out];done)
    |(exfalso;grind)
 rw[if_neg (by omega)] at c0
 have hk0:((Qu x).getD 0 Qd).kind=2:=by
  rcases Qf9 hx 0 with⟨_,h⟩|⟨_,_,h⟩
  ·unfold Qs at h02;omega
  ·have:=h.kind;unfold Qs at h02;omega
 have hG:AG ((A9 x.length).all (Qaj s x)=true->res= .tup [.pd (rFiles s t x (QaK s x x.length)),dB (Qcp s x)]):=Pm.hid fun h=>hd.out.trans (if_pos (by rw[hr.out,decide_eq_true h02,h];rfl))
 have hB:AG ((A9 x.length).all (Qaj s x)=false->res= .tup [.v (.pointer none),dB false]):=Pm.hid fun h=>hd.out.trans (if_neg (by rw[hr.out,h];simp))
 have c9:=bLinked s t x hx16 hx _ _ (QmT s x) (QcG s x) (fun k=>Qwd s x k);rw[show Qcj (Qs (Qu x)) (QcG s x) (Qaw (Qu x)) x.length=Qcp s x from rfl] at c9;clear hd hr;generalize hN0:(Qu x).getD 0 Qd=N at c0 hk0;obtain⟨kd,links,size,⟨⟨p1,p2,p3,p4,p5⟩,depth,many⟩⟩:=N;simp only at c0 hk0;subst hk0;clear hN0;refine kE ?_;refine Qa 0 (h:=?_)
 repeat' first|refine kS ?_|refine stepS2 (Qfu) (k:=?_)|refine kU ?_|fail
 refine Qo (fun mm st=> ∃k:Nat,k<=x.length/\mm=x.length -k/\AG ((A9 k).all (Qaj s x)=true)/\
  st=⟨98,[(45,.d (tNds x)),(46,.d (dI x.length)),(47,.d (dI k)),(0,.d (.pd (rSt s))),(8,.ptr 2 0 0)],
   [.row 1 [],.mp 0 (imap (QaK s x k)),.row 0 [.d (.pd (rSt s)),.d (dI t.root.pat),.d (dI t.root.birth),.d (dI t.root.size),.d (dI t.root.sum),.d (dI t.root.level),.d (dI t.depth),.d (dI t.many),.d (tNds x),.mp 1 0]]⟩)
  [45,46,47,0,8] 3 x.length ⟨0,by omega,rfl,Pm.hid rfl,by simp[keepE,go_sem,QaK,imap]⟩ (round:=?_)
 rintro mm st ⟨k,hk,rfl,hA,rfl⟩
 repeat refine kG ?_
 cases q3:decide ((k:Int)<(x.length:Int))
 ·have hk3:k=x.length:=by grind
  have hyes:=Pm.hid (hG.out (by rw[<-hk3];exact hA.out));clear hG hB hA;rw[<-hk3] at hyes c9;refine Qa 1 (h:=?_);refine Qa 2 (h:=?_)
  repeat refine kA ?_
  refine Qb (hx:=?_);rw[hyes.out]
 have hk2:k<x.length:=by grind
 obtain⟨y,hy⟩: ∃y,x[k]? =some y:=⟨_,A0 hk2⟩;have hyd:x.getD k []=y:=by grind
 have hr:=Qt (f:=fun x=>[QaR x]) hy;have T:AG (Qaj s x k=true->(A9 (k+1)).all (Qaj s x)=true):=fun h=>Pl.Qdd (p:=Qaj s x) hA.out h
 have F:AG (Qaj s x k=false->res= .tup [.v (.pointer none),dB false]):=fun h=>hB.out (Pl.Qda (p:=Qaj s x) hk2 h)
 have hdm:AG (QaK s x (k+1)=if Qs (Qu x) k=2 then mset (QaK s x k) (k:Nat) (tEnts (QaH s x (k:Nat))) else QaK s x k):=Pm.hid (by conv=>lhs;unfold QaK);have hgd:AG (Qaj s x k=(decide (Qs (Qu x) k=0)||(decide (Qs (Qu x) k=1)&&QO s ((Qu x).getD k Qd))||(decide (Qs (Qu x) k=2)&&(Qg s ((Qu x).getD k Qd)).2))):=Pm.hid rfl;have hnx:=Qfc (x:=x) k;rw[hyd] at hnx;clear hG hB hA c0 c1 c9;rcases Qf9 hx k with⟨h1,h2⟩|⟨h1,_,hnb⟩
 ·rw[hyd] at h1
  have e:QaR y= .v (.pointer none):=by unfold QaR;grind
  rw[e] at hr;have hk0:Qs (Qu x) k=0:=by unfold Qs;rw[h2];rfl
  have ht:=Pm.hid (T.out (by rw[hgd.out,hk0];rfl));have hdm2:AG (QaK s x (k+1)=QaK s x k):=Pm.hid (by rw[hdm.out,if_neg (by omega)]);clear T F hdm hgd hnx hyd hy hx hT hnok
  repeat' first|refine kS ?_|refine qS (iy hr) ?_|refine qS (Qgu AD rfl) ?_|refine kU ?_|fail
  all_goals first
   |(exfalso;simp at*;done)
   |(refine Qh (x.length -(k+1)) (by omega) ⟨k+1,by omega,rfl,ht,?_⟩
     rw[hdm2.out]
     simp[keepE,go_sem];done)
 rw[hyd] at h1;have e:QaR y= .pd (rNode (Qp y).1):=by unfold QaR;grind
 rw[e] at hr;have hkN:Qs (Qu x) k=(Qp y).1.kind.toNat:=by unfold Qs;rw[hnx]
 have hne0:Qs (Qu x) k≠0:=by rw[hkN,<-hnx];have:=hnb.kind;omega
 have hno:=hnok k hne0;have hel:AG (QaH s x (k:Nat)=(Qg s (Qp y).1).1):=Pm.hid (by unfold QaH;simp_all);rw[hnx] at hnb hgd hno;have hkd:=hnb.kind;clear hnx hyd hy e hnok hnb;generalize (Qp y).1=N at*;rcases hkd with hkd|hkd
 ·have hk1:Qs (Qu x) k=1:=by omega
  have c2:=hT N hno hkd;have hgf:Qaj s x k=QO s N:=by rw[hgd.out,hk1];simp
  rw[hgf] at T F;have hdm2:AG (QaK s x (k+1)=QaK s x k):=Pm.hid (by rw[hdm.out,if_neg (by omega)]);clear hgf hgd hdm hel hT hx;generalize QO s N=fo at*;obtain⟨kd,links,size,⟨⟨p1,p2,p3,p4,p5⟩,depth,many⟩⟩:=N;simp only at hkd;subst hkd
  repeat' first|refine kS ?_|refine qS (iy hr) ?_|refine qS (QeN AD rfl) ?_|refine qS (Qdi rfl) ?_|refine kU ?_|refine kV ?_ ?_<;>intro q|fail
  all_goals first
   |(exfalso;simp at*;done)
   |(refine Qh (x.length -(k+1)) (by omega) ⟨k+1,by omega,rfl,Pm.hid (T.out (by simp_all)),?_⟩
     rw[hdm2.out]
     simp[keepE,go_sem];done)
   |(refine Qb (hx:=?_)
     rw[F.out (by simp_all)];done)
 ·have hk2':Qs (Qu x) k=2:=by omega
  have c3:=Qna s hg htx N;have c4:=Qnb (Qb9 s N).1 (QqV s hg N);have hgf:Qaj s x k=(Qg s N).2:=by rw[hgd.out,hk2'];simp
  rw[hgf] at T F;have hen:=QoY (s:=s) hno hkd;have hdm2:AG (QaK s x (k+1)=mset (QaK s x k) (k:Nat) (tEnts (Qg s N).1)):=Pm.hid (by rw[hdm.out,if_pos hk2',hel.out]);rw[hen] at T F hdm2;clear hgf hgd hdm hel hT hx hen;generalize Qb9 s N=ft at*;obtain⟨ftext,fine⟩:=ft;simp only at c3 c4 T F hdm2;generalize QbP ftext=eg at*;obtain⟨list,good⟩:=eg;simp only at c4 T F hdm2;obtain⟨kd,links,size,⟨⟨p1,p2,p3,p4,p5⟩,depth,many⟩⟩:=N;simp only at hkd;subst hkd;cases fine
  all_goals simp only[AH,if_false,if_true] at T F hdm2
  all_goals
   repeat' first|refine kS ?_|refine qS (iy hr) ?_|refine qS (QeN AD rfl) ?_|refine qS (Qdi rfl) ?_|refine(QhV AC A2 (kk:=?_))|refine kU ?_|refine kV ?_ ?_<;>intro q|fail
  all_goals first
   |(exfalso;simp at*;done)
   |(refine Qh (x.length -(k+1)) (by omega) ⟨k+1,by omega,rfl,Pm.hid (T.out (by simp_all)),?_⟩
     rw[hdm2.out]
     simp[keepE,go_sem];done)
   |(refine Qb (hx:=?_)
     rw[F.out (by simp_all)];done)

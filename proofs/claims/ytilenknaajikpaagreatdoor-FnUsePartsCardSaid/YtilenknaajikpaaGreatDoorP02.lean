/- Of parts_card; no condition. -/
import Derived.Lib.ItoaNum
import Derived.Lib.AtoiAll
import Derived.Orders
import Derived.WalkKit
import Derived.KernelRfl
import Derived.Lib.IndexMore
import Derived.Lib.IndexLaws
import Derived.Lib.IndexBytes
import Derived.Lib.CountLaws
import Derived.Lib.Split
import Derived.Lib.Join
set_option linter.all false
open Array renaming getD_eq_getD_getElem?->AO,getElem?_replicate->AQ
open Bool renaming and_eq_true->A1,or_eq_true->An,and_true->Ax
open Go renaming World->A5,Value->A9,Oper->Ay,Program->B0
open Go.Code renaming region->Am
open Go.Lib renaming indexB->AP,atoiAll->AZ,decDigits->Ab,index_one->Ac,indexByte->Ad,parseUint10->Aq,countB_miss->Ar,splitB_zero->As,cut->B1,countB->B3,index->B4
open Go.Region renaming ready->AN,binds->AU
open List renaming mem_cons_of_mem->A0,cons_append->A2,append_assoc->A4,mem_cons_self->A6,all_eq_true->A8,all_cons->AA,take_append_drop->AB,append_nil->AC,map_append->AD,range->AE,take_succ_eq_append_getElem->AF,mem_cons->AH,count_eq_zero_of_not_mem->AJ,takeWhile_append_of_pos->AL,sum_append->AM,getElem_mem->AR,append_eq_nil_iff->AS,take_of_length_le->AT,all_append->AW,range_succ->AX,drop_drop->AY,map_congr_left->Aa,map_cons->Af,length_append->Ag,mem_map->Aj,length_take->Ak,filter_cons->Al,nil_append->Ao,count_cons->Au,mem_range->Av,all_nil->Az
open List.IsPrefix renaming trans->B2
open List.cons renaming injEq->A7
open Nat renaming pow_le_pow_right->AI,strongRecOn->AK,lt_of_lt_of_le->Ah,le_trans->Ai
open Option renaming getD_some->AG,map_some->Ap
open Option.some renaming injEq->A3
open Prod.mk renaming injEq->Ae
namespace Go.Proofs.YtilenknaajikpaaGreatDoor
noncomputable section
section
namespace Pl
variable{m k a b:Nat}
abbrev Str:=List UInt8
def dec(n:Nat):Str:=Ab n
def dch(n:Nat):UInt8:=UInt8.ofNat (48+n)
def isDig(c:UInt8):Bool:=decide (48<=c.toNat)&&decide (c.toNat<=57)
def dgt(c:UInt8):Nat:=c.toNat -48
def val(s:Str):Nat:=s.foldl (fun a c=>a*10+dgt c) 0
def canon(s:Str):Bool:=decide (s≠[])&&decide (s.length<=9)&&s.all isDig&&(decide (s.length<=1)||decide (s.head? ≠some 48))
def QeE{n:Nat}(h:n<10):dec n=[dch n]:=Lib.decDigits_one h
def QgW{n:Nat}(h: ¬n<10):dec n=dec (n/10)++[dch (n%10)]:=by
 show Ab n=_;rw[Ab,dif_neg h];rfl
theorem Qgp{n:Nat}(h:n<10):(dch n).toNat=48+n:=by
 unfold dch;rw[UInt8.toNat_ofNat_of_lt' (by grind)]
def Qvo{n:Nat}(h:n<10):dgt (dch n)=n:=by unfold dgt;rw[Qgp h];omega
def QeX(c:UInt8):isDig c=true↔48<=c.toNat/\c.toNat<=57:=by simp[isDig]
def QrV{n:Nat}(h:n<10):isDig (dch n)=true:=by rw[QeX,Qgp h];omega
def QsF{c:UInt8}(h:isDig c=true):dch (dgt c)=c:=by
 have h':=(QeX c).1 h;apply UInt8.toNat_inj.1;rw[Qgp (by unfold dgt;omega)];unfold dgt;omega
def QsE{c:UInt8}(h:isDig c=true):dgt c<10:=by have:=(QeX c).1 h;unfold dgt;omega
def Qk9(s:Str)(c:UInt8):val (s++[c])=val s*10+dgt c:=by simp[val]
theorem Qoh{p:Str->Prop}(h0:p [])(h1: ∀s c,p s->p (s++[c]))(s:Str):p s:=by
 have key: ∀n,∀s:Str,s.length=n->p s:=by
  intro n;induction n with
  |zero=>grind
  |succ n ih=>
   intro s hs;have hne:s≠[]:=by grind
   rw[<-List.dropLast_concat_getLast hne]
   grind
 grind
def QkA(n:Nat):val (dec n)=n:=by
 induction n using AK with
 |_ n ih=>
  by_cases h:n<10
  ·rw[QeE h];simp[val,Qvo h]
  ·rw[QgW h,Qk9,ih (n/10) (by omega),Qvo (by omega)];omega
def Qli{n:Nat}(h:dec m=dec n):m=n:=by rw[<-QkA m,<-QkA n,h]
def Qf6(n:Nat):dec n≠[]:=by
 by_cases h:n<10
 ·rw[QeE h];simp
 ·rw[QgW h];simp
def QgX(n:Nat):(dec n).all isDig=true:=by
 induction n using AK with
 |_ n ih=>
  by_cases h:n<10
  ·rw[QeE h];simp[QrV h]
  ·rw[QgW h,AW,ih (n/10) (by omega)];simp[QrV (show n%10<10 by omega)]
theorem Quu(n:Nat)(h0:n≠0):(dec n).head? ≠some 48:=by
 induction n using AK with
 |_ n ih=>
  by_cases h:n<10
  ·rw[QeE h]
   simp only[List.head?_cons,ne_eq,A3];intro e;have:=congrArg UInt8.toNat e;rw[Qgp h] at this
   grind
  ·rw[QgW h]
   have:=ih (n/10) (by omega) (by omega);have hne:=Qf6 (n/10);cases hd:dec (n/10) with
   |nil=>grind
   |cons a b=>grind
theorem Qdb(k n:Nat)(h:n<10^(k+1)):(dec n).length<=k+1:=by
 induction k generalizing n with
 |zero=>rw[QeE (by omega)];simp
 |succ k ih=>
  by_cases hn:n<10
  ·grind
  ·rw[QgW hn]
   grind
def Qgs(s:Str):canon s=true↔s≠[]/\s.length<=9/\s.all isDig=true/\(s.length<=1∨s.head? ≠some 48):=by
 simp only[canon,A1,An,decide_eq_true_eq,and_assoc]
theorem Qmy{n:Nat}(h:n<1000000000):canon (dec n)=true:=by
 rw[Qgs];refine⟨Qf6 n,Qdb 8 n (by omega),QgX n,?_⟩
 by_cases h0:n=0
 ·left;subst h0;rw[QeE (by omega)];simp
 ·right;exact Quu n h0
def QqJ(s:Str)(h:s.all isDig=true):val s<10^s.length:=by
 induction s using Qoh with
 |h0=>simp[val]
 |h1 s c ih=>
  rw[AW] at h;simp only[A1,AA,Az,Ax] at h;rw[Qk9,Ag,List.length_singleton,Nat.pow_succ];have:=ih h.1;have:=QsE h.2;omega
theorem dec_val(s:Str)(hne:s≠[])(h:s.all isDig=true)(hz:s.length<=1∨s.head? ≠some 48):dec (val s)=s:=by
 induction s using Qoh with
 |h0=>grind
 |h1 s c ih=>
  rw[AW] at h;simp only[A1,AA,Az,Ax] at h;have hc:=QsE h.2;rw[Qk9]
  by_cases hs:s=[]
  ·subst hs
   rw[QeE (by simp[val];exact hc)];simp[val,QsF h.2]
  ·have hz':s.length<=1∨s.head? ≠some 48:=by
    grind
   have hi:=ih hs h.1 hz'
   have hpos:val s≠0:=by
    intro e;rw[e,QeE (by omega)] at hi;rcases hz with hz|hz
    ·grind
    ·rw[<-hi] at hz
     exact hz (by simp;rfl)
   rw[QgW (by omega),show(val s*10+dgt c)/10=val s by omega,show(val s*10+dgt c)%10=dgt c by omega,hi,QsF h.2]
def Qh1{s:Str}(h:canon s=true):dec (val s)=s:=by
 obtain⟨h1,_,h3,h4⟩:=(Qgs s).1 h;exact dec_val s h1 h3 h4
def Qie{s:Str}(h:canon s=true):val s<1000000000:=by
 obtain⟨_,h2,h3,_⟩:=(Qgs s).1 h;have:=QqJ s h3;exact Ah this (Ai (AI (by omega) h2) (by decide))
def numPut(n:Int):Str:=if 0<=n/\n<=999999999 then dec n.toNat else []
def numGet(s:Str):Option Nat:=if canon s then some (val s) else none
def QdA{n:Nat}(h:n<1000000000):numGet (dec n)=some n:=by simp[numGet,Qmy h,QkA]
theorem QdE{s:Str}{n:Nat}(h:numGet s=some n):s=dec n/\n<1000000000:=by
 unfold numGet at h;split at h
 ·rename_i hc;injection h with h;subst h;exact⟨(Qh1 hc).symm,Qie hc⟩
 ·cases h
theorem QiS{s:Str}(h:numGet s=none)(n:Nat)(hn:n<1000000000):s≠dec n:=by
 intro e;subst e;rw[QdA hn] at h;cases h
def item(s:Str):Str:=dec s.length++(58::s)
def enc(l:List Str):Str:=l.flatMap item
def Qsy:enc []=[]:=rfl
def Qfg(x:Str)(l:List Str):enc (x::l)=item x++enc l:=rfl
def Qf2(a b:List Str):enc (a++b)=enc a++enc b:=by simp[enc]
def QhT(x:Str):enc [x]=item x:=by simp[enc]
theorem Qmu: ∀{a b x y:Str},a.all isDig=true->b.all isDig=true->a++58::x=b++58::y->a=b/\x=y
 |[],[],x,y,_,_,h=>by grind
 |[],c::b,x,y,_,hb,h=>by
  simp only[Ao,A2,A7] at h;simp only[AA,A1] at hb;rw[<-h.1] at hb;exact absurd hb.1 (by decide)
 |c::a,[],x,y,ha,_,h=>by
  simp only[Ao,A2,A7] at h;simp only[AA,A1] at ha;rw[h.1] at ha;exact absurd ha.1 (by decide)
 |c::a,d::b,x,y,ha,hb,h=>by
  simp only[A2,A7] at h;simp only[AA,A1] at ha hb;obtain⟨h1,h2⟩:=Qmu ha.2 hb.2 h.2
  grind
def Qua{a b x y:Str}(h:item a++x=item b++y):a=b/\x=y:=by
 unfold item at h;simp only[A4,A2] at h;obtain⟨h1,h2⟩:=Qmu (QgX _) (QgX _) h;have hl:=Qli h1;exact List.append_inj h2 hl
def QfN(s:Str):item s≠[]:=by unfold item;simp
theorem QhU: ∀{a b:List Str} {r:Str},enc b=enc a++r-> ∃c,b=a++c/\enc c=r
 |[],b,r,h=>⟨b,rfl,by simpa[Qsy] using h⟩
 |x::a,[],r,h=>by
  rw[Qsy,Qfg,A4] at h;exact absurd (AS.1 h.symm).1 (QfN x)
 |x::a,y::b,r,h=>by
  rw[Qfg,Qfg,A4] at h;obtain⟨h1,h2⟩:=Qua h;obtain⟨c,h3,h4⟩:=QhU h2
  grind
theorem Qsz{a b:List Str}(h:enc a=enc b):a=b:=by
 obtain⟨c,h1,h2⟩:=QhU (a:=b) (b:=a) (r:=[]) (by grind);cases c with
 |nil=>grind
 |cons x c=>rw[Qfg] at h2;exact absurd (AS.1 h2).1 (QfN x)
def Qle(l:List Str)(k:Nat)(h:k<l.length):enc (l.take (k+1))=enc (l.take k)++item l[k]:=by
 rw[AF h,Qf2,QhT]
def QnE(l:List Str)(k:Nat):(enc (l.take k)).length<=(enc l).length:=by
 conv=>rhs;rw[<-AB k l,Qf2]
 simp
theorem QgS(x:Str):(item x).length=(dec x.length).length+1+x.length:=by unfold item;grind
def Qdi(l:List Str):Option Str:=if l.length<=60/\(enc l).length<=2048 then some (enc l) else none
def IsRec(s:Str)(l:List Str):Prop:=l.length<=60/\s.length<=2048/\enc l=s
def Qio{s:Str}{a b:List Str}(ha:IsRec s a)(hb:IsRec s b):a=b:=Qsz (ha.2.2.trans hb.2.2.symm)
theorem QgH{l:List Str}{s:Str}:Qdi l=some s↔IsRec s l:=by
 unfold Qdi IsRec
 grind
def Qfj{l:List Str}(h:2048<(enc (l.take k)).length):Qdi l=none:=by
 unfold Qdi;rw[if_neg];have:=QnE l k;omega
def QjN{l:List Str}(hk:k<l.length)(h:2048<l[k].length):Qdi l=none:=by
 refine Qfj (k:=k+1) ?_;rw[Qle l k hk,Ag,QgS];omega
theorem QgI{l:List Str}(h:60<l.length):Qdi l=none:=by unfold Qdi;grind
theorem Qis{l:List Str}(h:l.length<=60)(h2:(enc l).length<=2048):Qdi l=some (enc l):=by unfold Qdi;grind
variable{out:List Str}{r:Str}
def QkE{s:Str}{l:List Str}(h:IsRec s l)(e:s=enc out++r): ∃c,l=out++c/\enc c=r:=by
 exact QhU (a:=out) (b:=l) (r:=r) (by rw[h.2.2,e])
def digs(s:Str):Str:=(s.takeWhile isDig).take 9
def l1num(s:Str):Nat×Nat:=if 1<(digs s).length/\s.head? =some 48 then(0,1) else(val (digs s),(digs s).length)
def Qlh(s:Str):(digs s).all isDig=true:=by
 rw[A8];intro x hx;have:=List.all_takeWhile (p:=isDig) (l:=s);rw[A8] at this;exact this x (List.mem_of_mem_take hx)
theorem QoO(s:Str):(digs s).length<=9:=by unfold digs;grind
def QfR(s:Str):digs s=s.take (digs s).length:=by
 unfold digs;rw[Ak];have h:s.takeWhile isDig<+:s:=List.takeWhile_prefix _;have h2:(s.takeWhile isDig).take 9<+:s:=(List.take_prefix _ _).trans h;rw[List.prefix_iff_eq_take.1 h2];simp
theorem QsB{d:Str}(hd:d.all isDig=true)(hl:d.length<=9)(hr: ∀c,r.head? =some c->isDig c=false):digs (d++r)=d:=by
 unfold digs
 have h1:(d++r).takeWhile isDig=d:=by
  rw[AL (by grind)];cases r with
  |nil=>simp
  |cons c r=>simp_all
 rw[h1,AT hl]
theorem QsC(s:Str)(h:0<(digs s).length):(digs s).head? =s.head? :=by
 rw[QfR s];cases s with
 |nil=>simp
 |cons a b=>
  have:(digs (a::b)).length=(digs (a::b)).length -1+1:=by omega
  grind
theorem QsD{s:Str}(hk:k<=s.length)(hall:(s.take k).all isDig=true)(h9:k<=9)(hx:k=9∨ ∀c,s[k]? =some c->isDig c=false):digs s=s.take k:=by
 have hlen:(s.take k).length=k:=by grind
 rcases hx with rfl|hx
 ·unfold digs
  have h1:s.takeWhile isDig=s.take 9++(s.drop 9).takeWhile isDig:=by
   conv=>lhs;rw[<-AB 9 s]
   rw[AL (by grind)]
  grind
 ·have:=QsB (d:=s.take k) (r:=s.drop k) hall (by omega) (by simp_all)
  simp_all
def Qtt(s:Str)(k:Nat)(h:k<s.length):val (s.take (k+1))=val (s.take k)*10+dgt s[k]:=by
 rw[AF h,Qk9]
theorem QtX(s:Str):(l1num s).2<=9/\(l1num s).2<=s.length:=by
 have h1:=QoO s;have h2:(digs s).length<=s.length:=by rw[QfR s,Ak];omega
 unfold l1num
 grind
def QtW(s:Str):(l1num s).1<1000000000:=by
 unfold l1num;split
 ·simp
 ·exact Ah (QqJ _ (Qlh s)) (Ai (AI (by omega) (QoO s)) (by decide))
theorem Qmi{n:Nat}(h:n<1000000000)(hr: ∀c,r.head? =some c->isDig c=false):l1num (dec n++r)=(n,(dec n).length):=by
 obtain⟨h1,h2,h3,h4⟩:=(Qgs _).1 (Qmy h);have hd:digs (dec n++r)=dec n:=QsB h3 h2 hr;unfold l1num;rw[hd,if_neg,QkA];rintro⟨ha,hb⟩;rcases h4 with h4|h4
 ·omega
 simp_all
theorem Qkc{s:Str}{n:Nat}(h:l1num s=(n,k))(hk:0<k)(hend: ∀c,s[k]? =some c->isDig c=false):s.take k=dec n/\n<1000000000:=by
 unfold l1num at h;split at h
 ·rename_i hc
  injection h with h1 h2;subst h1;subst h2;exfalso;have hp:=QfR s
  have h1:s[1]? =(digs s)[1]? :=by
   grind
  have h2:(digs s)[1]? =some ((digs s)[1]'(by omega)):=List.getElem?_eq_getElem _;have h3:=hend _ (h1.trans h2);have h4:=A8.1 (Qlh s) _ (AR (show 1<(digs s).length by omega))
  grind
 ·rename_i hc
  injection h with h1 h2;subst h1;subst h2
  have hz:(digs s).length<=1∨(digs s).head? ≠some 48:=by
   rw[QsC s hk]
   grind
  have hcan:canon (digs s)=true:=by
   rw[Qgs];exact⟨by grind,QoO s,Qlh s,hz⟩
  rw[<-QfR s];exact⟨(Qh1 hcan).symm,Qie hcan⟩
theorem QlT(s:Str):numGet s=if(l1num s).2=0∨(l1num s).2≠s.length then none else some (l1num s).1:=by
 cases h:numGet s with
 |some n=>
  obtain⟨h1,h2⟩:=QdE h;have h3:=Qmi (r:=[]) h2 (by simp);rw[AC,<-h1] at h3;rw[h3,if_neg];intro hh;have:(dec n).length≠0:=by have:=Qf6 n;grind
  grind
 |none=>
  split
  ·rfl
  ·rename_i hh
   exfalso
   have hb:=Qkc (s:=s) (n:=(l1num s).1) (k:=(l1num s).2) rfl (by omega) (by
    grind)
   rw[AT (by omega)] at hb;exact QiS h _ hb.2 hb.1
variable{c:List Str}
def QiN(hc:enc c=r)(hr:r≠[]): ∃x c',c=x::c'/\r=dec x.length++58::(x++enc c'):=by
 cases c with
 |nil=>exact absurd hc.symm hr
 |cons x c'=>exact⟨x,c',rfl,by rw[<-hc,Qfg];unfold item;simp⟩
theorem Qh4: ∀c:UInt8,(some (58:UInt8))=some c->isDig c=false:=by
 intro c h;injection h with h;subst h;decide
theorem l1_step{n:Nat}(h:l1num r=(n,k))(hk:0<k)(hc:r[k]? =some 58)(hn:n<=r.length -k -1):
 r=item ((r.drop (k+1)).take n)++r.drop (k+1+n):=by
 obtain⟨h1,_⟩:=Qkc h hk (by intro c h';rw[hc] at h';exact Qh4 c h')
 have hlt:k<r.length:=by
  grind
 have hlen:((r.drop (k+1)).take n).length=n:=by grind
 unfold item;rw[hlen,<-h1,A4,A2,<-AY (i:=n) (j:=k+1),AB]
 have:r.drop k=58::r.drop (k+1):=by
  rw[List.drop_eq_getElem_cons hlt]
  grind
 rw[<-this,AB]
theorem l1_fail{n:Nat}(hs:r.length<=2048)(hr:r≠[])(h:l1num r=(n,k))(hf:k=0∨r[k]? ≠some 58∨r.length -k -1<n):enc c≠r:=by
 intro hc;obtain⟨x,c',_,e⟩:=QiN hc hr;have hx:x.length<=r.length:=by grind
 have h1:=Qmi (n:=x.length) (r:=58::(x++enc c')) (by omega) (by intro c h;exact Qh4 c h);rw[<-e,h] at h1;injection h1 with h1 h2;have hne:=Qf6 x.length
 grind
variable{num tail:Str}
theorem Quv{n:Nat}(h:numGet num=some n)(hn:n<=tail.length):num++58::tail=item (tail.take n)++tail.drop n:=by
 obtain⟨h1,_⟩:=QdE h;unfold item
 simp_all
theorem Quw(hs:(num++58::tail).length<=2048)(hnum:(58:UInt8)∉num)(hf:numGet num=none∨ ∃n,numGet num=some n/\tail.length<n):enc c≠num++58::tail:=by
 intro hc;obtain⟨x,c',_,e⟩:=QiN hc (by simp)
 have hx:x.length<=2048:=by
  grind
 have hnum':(58:UInt8)∉dec x.length:=by
  intro hm;have:=A8.1 (QgX x.length) _ hm;exact absurd this (by decide)
 have key: ∀{a b x y:Str},(58:UInt8)∉a->(58:UInt8)∉b->a++58::x=b++58::y->a=b/\x=y:=by
  intro a;induction a with
  |nil=>
   intro b x y _ hb h;cases b with
   |nil=>grind
   |cons c b=>grind
  |cons c a ih=>
   intro b x y ha hb h;cases b with
   |nil=>grind
   |cons d b=>
    grind
 obtain⟨h1,h2⟩:=key hnum hnum' e;rcases hf with hf|⟨n,hf,hlt⟩
 ·exact QiS hf x.length (by omega) h1
 ·obtain⟨h3,_⟩:=QdE hf
  have:=Qli (h3.symm.trans h1)
  grind
theorem QlV(hr:r≠[])(h:(58:UInt8)∉r):enc c≠r:=by
 intro hc;obtain⟨x,c',_,e⟩:=QiN hc hr
 grind
theorem Qrk{s:Str}{n:Nat}(hs:s.length<=2048)(hk:k<s.length)(ho:s=enc out++s.drop k)(h:l1num (s.drop k)=(n,m))(hf:m=0∨(s.drop k)[m]? ≠some 58∨(s.drop k).length -m -1<n): ∀l,¬IsRec s l:=by
 intro l hl;obtain⟨c,_,hc⟩:=QkE hl ho;refine l1_fail (r:=s.drop k) (by grind) (fun e=>?_) h hf hc
 grind
def Qrj{s:Str}{n:Nat}(ho:s=enc out++s.drop k)(h:l1num (s.drop k)=(n,m))(hm:0<m)(hc:(s.drop k)[m]? =some 58)(hn:n<=(s.drop k).length -m -1):
 s=enc (out++[((s.drop (k+m+1)).take n)])++s.drop (k+m+1+n):=by
 have h1:=l1_step h hm hc hn;rw[AY,AY] at h1;rw[Qf2,QhT,A4,show k+m+1=k+(m+1) from by omega,show k+(m+1)+n=k+(m+1+n) from by omega,<-h1];exact ho
def sumStep(p:Nat×Nat)(c:UInt8):Nat×Nat:=((p.1+c.toNat+1)%9973,(p.2+(p.1+c.toNat+1)%9973)%9973)
def sum2(s:Str):Nat×Nat:=s.foldl sumStep (1,0)
def sumOf(s:Str):Nat:=(sum2 s).1*9973+(sum2 s).2
def QlA(s:Str)(c:UInt8):sum2 (s++[c])=sumStep (sum2 s) c:=by simp[sum2]
structure Ptr where
 pat:Int
 birth:Int
 size:Int
 sum:Int
 level:Int
 deriving DecidableEq
def hole:Ptr:=⟨0,0,0,0,0⟩
def ptrHole(p:Ptr):Bool:=decide (p=hole)
def rowOk(n:Int):Bool:=decide (8<=n)&&decide (n<=63)
def ptrOk(p:Ptr):Bool:=ptrHole p||(rowOk p.pat&&(decide (1<=p.birth)&&decide (p.birth<=900))&&(decide (1<=p.size)&&decide (p.size<=128))&&(decide (0<=p.sum)&&decide (p.sum<=99460728))&&(decide (0<=p.level)&&decide (p.level<=2)))
def dots(l:List Str):Str:=(l.intersperse [46]).flatten
def ptrText(p:Ptr):Str:=dots [dec p.pat.toNat,dec p.birth.toNat,dec p.size.toNat,dec p.sum.toNat,dec p.level.toNat]
def ptrPut(p:Ptr):Str:=if ptrOk p then(if ptrHole p then [45] else ptrText p) else []
variable{p:Ptr}
def QdC(h:ptrOk p=true):(0<=p.pat/\p.pat<=63)/\(0<=p.birth/\p.birth<=900)/\(0<=p.size/\p.size<=128)/\(0<=p.sum/\p.sum<=99460728)/\(0<=p.level/\p.level<=2):=by
 unfold ptrOk ptrHole rowOk at h;simp only[An,A1,decide_eq_true_eq] at h;rcases h with rfl|h
 ·decide
 ·omega
theorem nine(n:Int)(h0:0<=n)(h1:n<=999999999):n.toNat<1000000000/\numPut n=dec n.toNat:=⟨by omega,by unfold numPut;grind⟩
def cutB(b:UInt8):Str->List Str
 |[]=>[[]]
 |c::r=>if c=b then []::cutB b r else
  match cutB b r with
  |h::t=>(c::h)::t
  |[]=>[[c]]
theorem QgY(b:UInt8): ∀s:Str,cutB b s≠[]
 |[]=>by simp[cutB]
 |c::r=>by
  unfold cutB
  grind
theorem Qes(b:UInt8): ∀(a r:Str),b∉a->cutB b (a++b::r)=a::cutB b r
 |[],r,_=>by simp[cutB]
 |c::a,r,h=>by
  have hc:c≠b:=fun e=>h (by grind)
  rw[A2,cutB,if_neg hc,Qes b a r (fun hm=>h (A0 _ hm))]
theorem QeL(b:UInt8): ∀(a:Str),b∉a->cutB b a=[a]
 |[],_=>by simp[cutB]
 |c::a,h=>by
  have hc:c≠b:=fun e=>h (by grind)
  rw[cutB,if_neg hc,QeL b a (fun hm=>h (A0 _ hm))]
theorem Qh3(b:UInt8): ∀s:Str,((cutB b s).intersperse [b]).flatten=s
 |[]=>by simp[cutB]
 |c::r=>by
  have ih:=Qh3 b r;have hne:=QgY b r;unfold cutB;split
  ·rename_i h
   cases hd:cutB b r with
   |nil=>grind
   |cons x y=>simp_all
  ·cases hd:cutB b r with
   |nil=>grind
   |cons x y=>
    rw[hd] at ih;cases y with
    |nil=>simp_all
    |cons z y=>simp_all
def QnG(n:Nat):(46:UInt8)∉dec n:=by
 intro hm;have:=A8.1 (QgX n) _ hm;exact absurd this (by decide)
def Qus(a b c d e:Nat):cutB 46 (dots [dec a,dec b,dec c,dec d,dec e])=[dec a,dec b,dec c,dec d,dec e]:=by
 have:dots [dec a,dec b,dec c,dec d,dec e]=dec a++46::(dec b++46::(dec c++46::(dec d++46::dec e))):=by simp[dots]
 rw[this,Qes _ _ _ (QnG _),Qes _ _ _ (QnG _),Qes _ _ _ (QnG _),Qes _ _ _ (QnG _),QeL _ _ (QnG _)]
def QsA{s:Str}{l:List Str}(h:cutB 46 s=l):dots l=s:=by unfold dots;rw[<-h,Qh3]
def IsPtr(s:Str)(p:Ptr):Prop:=ptrOk p=true/\ptrPut p=s
def Qkh:IsPtr [45] hole:=⟨by decide,by decide⟩
def QiP(p:Ptr):cutB 46 (ptrText p)=[dec p.pat.toNat,dec p.birth.toNat,dec p.size.toNat,dec p.sum.toNat,dec p.level.toNat]:=Qus _ _ _ _ _
theorem Qp3(p:Ptr):ptrText p≠[45]:=by
 intro e;have:=QiP p;rw[e,show cutB 46 [45]=[[45]] from by decide] at this
 grind
theorem Qkg{s:Str}(h:IsPtr s p)(hs:s≠[45]):ptrHole p=false/\s=ptrText p/\cutB 46 s=[dec p.pat.toNat,dec p.birth.toNat,dec p.size.toNat,dec p.sum.toNat,dec p.level.toNat]:=by
 obtain⟨h1,h2⟩:=h;unfold ptrPut at h2;rw[if_pos h1] at h2;split at h2
 ·grind
 ·rename_i hh
  exact⟨by grind,h2.symm,by rw[<-h2];exact QiP p⟩
def Qjj(h:IsPtr [45] p):p=hole:=by
 obtain⟨h1,h2⟩:=h;unfold ptrPut at h2;rw[if_pos h1] at h2;split at h2
 ·rename_i hh;simpa[ptrHole] using hh
 ·exact absurd h2 (Qp3 p)
theorem Qfy{s:Str}(h:IsPtr s p)(hs:s≠[45]):
 cutB 46 s=[dec p.pat.toNat,dec p.birth.toNat,dec p.size.toNat,dec p.sum.toNat,dec p.level.toNat]/\
 p.pat.toNat<1000000000/\p.birth.toNat<1000000000/\p.size.toNat<1000000000/\p.sum.toNat<1000000000/\p.level.toNat<1000000000/\
 p=⟨p.pat.toNat,p.birth.toNat,p.size.toNat,p.sum.toNat,p.level.toNat⟩:=by
 obtain⟨_,_,h3⟩:=Qkg h hs;have hb:=QdC h.1;refine⟨h3,by omega,by omega,by omega,by omega,by omega,?_⟩;cases p
 grind
theorem Qmj{s:Str}{q:Ptr}(hp:IsPtr s p)(hq:IsPtr s q):p=q:=by
 by_cases hs:s=[45]
 ·subst hs;rw[Qjj hp,Qjj hq]
 ·obtain⟨a1,_,_,_,_,_,a2⟩:=Qfy hp hs
  obtain⟨b1,_,_,_,_,_,b2⟩:=Qfy hq hs;rw[a1] at b1;simp only[A7,and_true] at b1;rw[a2,b2,Qli b1.1,Qli b1.2.1,Qli b1.2.2.1,Qli b1.2.2.2.1,Qli b1.2.2.2.2]
def Qp2{s:Str}{c d e:Nat}(h:cutB 46 s=[dec a,dec b,dec c,dec d,dec e]):ptrText ⟨a,b,c,d,e⟩=s:=by
 rw[<-QsA h];rfl
def Qro{s:Str}(hs:s≠[45])(h:(cutB 46 s).length≠5): ∀p,¬IsPtr s p:=fun p hp=>h (by rw[(Qfy hp hs).1];rfl)
theorem Qrn{s:Str}(hs:s≠[45])(hk:k<(cutB 46 s).length)(h:numGet (cutB 46 s)[k]=none): ∀p,¬IsPtr s p:=by
 intro p hp;obtain⟨h1,h2,h3,h4,h5,h6,_⟩:=Qfy hp hs
 have key: ∀x∈cutB 46 s,∃n,numGet x=some n:=by
  rw[h1];intro x hx;simp only[AH,List.not_mem_nil,or_false] at hx;rcases hx with rfl|rfl|rfl|rfl|rfl
  ·exact⟨_,QdA h2⟩
  ·exact⟨_,QdA h3⟩
  ·exact⟨_,QdA h4⟩
  ·exact⟨_,QdA h5⟩
  ·exact⟨_,QdA h6⟩
 obtain⟨n,hn⟩:=key _ (AR hk)
 grind
def Qop{s:Str}{c d e:Nat}(hs:s≠[45])(h:cutB 46 s=[dec a,dec b,dec c,dec d,dec e])(hp:IsPtr s p):p=⟨a,b,c,d,e⟩:=by
 obtain⟨h1,_,_,_,_,_,h2⟩:=Qfy hp hs;rw[h] at h1;simp only[A7,and_true] at h1;rw[h2,Qli h1.1,Qli h1.2.1,Qli h1.2.2.1,Qli h1.2.2.2.1,Qli h1.2.2.2.2]
def ptr_bad{s:Str}{c d e:Nat}(hs:s≠[45])(h:cutB 46 s=[dec a,dec b,dec c,dec d,dec e])(hb:ptrOk ⟨a,b,c,d,e⟩=false∨ptrHole ⟨a,b,c,d,e⟩=true): ∀p,¬IsPtr s p:=by
 intro p hp;have e1:=Qop hs h hp;rcases hb with hb|hb
 ·rw[<-e1,hp.1] at hb;cases hb
 ·rw[<-e1,(Qkg hp hs).1] at hb;cases hb
def QtD{s:Str}{c d e:Nat}(h:cutB 46 s=[dec a,dec b,dec c,dec d,dec e])(h1:ptrOk ⟨a,b,c,d,e⟩=true)(h2:ptrHole ⟨a,b,c,d,e⟩=false):IsPtr s ⟨a,b,c,d,e⟩:=by
 refine⟨h1,?_⟩;unfold ptrPut;rw[if_pos h1,h2,Qp2 h];rfl
structure Tree where
 root:Ptr
 depth:Int
 many:Int
 deriving DecidableEq
structure Root where
 txg:Int
 tree:Tree
 deriving DecidableEq
def inR(n a b:Int):Bool:=decide (a<=n)&&decide (n<=b)
def rootOk(r:Root):Bool:=inR r.txg 1 900&&ptrOk r.tree.root&&inR r.tree.depth 0 2&&inR r.tree.many 1 16
def QeN(t:Tree):List Str:=[ptrPut t.root,numPut t.depth,numPut t.many]
def fp(l:List Str):Str:=(Qdi l).getD []
def signed(f:List Str):Str:=fp (f++[dec (sumOf (fp f))])
def Qp0(r:Root):List Str:=[114,111,111,116]::numPut r.txg::QeN r.tree
def rootPut(r:Root):Str:=if rootOk r then signed (Qp0 r) else []
def IsRoot(s:Str)(r:Root):Prop:=rootOk r=true/\rootPut r=s/\s≠[]
theorem fp_some{l:List Str}{s:Str}(h:fp l=s)(hs:s≠[]):IsRec s l:=by
 unfold fp at h;cases hf:Qdi l with
 |none=>grind
 |some t=>rw[hf] at h;have ht:t=s:=h;rw[ht] at hf;exact QgH.1 hf
abbrev Wait:=Int×Str
abbrev Disk:=List Str×List Wait×Bool
open Classical in
def later(s:Str)(txg:Int):Bool:=decide (∃r,IsRoot s r/\txg<r.txg)
end Pl
end
section
namespace Pm
variable{ops:Array Ay}{w:A5}{Q:Exit->Act->A5->Prop}{P:B0}
def upd(x:Nat->A9)(i:Nat)(v:A9):Nat->A9:=fun j=>if j=i then v else x j
def backB(ops:Array Ay):Bool:=(AE ops.size).all fun i=>((ops[i]?).map (·.after.all fun e=>decide (e.on<i))).getD true
theorem ready_all{listed:Array Bool}(hb:backB ops=true)(hsz:listed.size=ops.size)(hr:AN .any ops listed=[]): ∀i,i<ops.size->listed.getD i false=true:=by
 intro i;induction i using AK with
 |_ i ih=>
  intro hi;rcases Bool.eq_false_or_eq_true (listed.getD i false) with h|h
  ·exact h
  exfalso
  have hm:i∈AN .any ops listed:=by
   rw[mem_ready];obtain⟨o,ho⟩: ∃o,ops[i]? =some o:=⟨_,Array.getElem?_eq_getElem hi⟩
   have hl:listed.getD i true=false:=by
    grind
   refine⟨hl,o,ho,fun e he _=>?_⟩;have hb':=A8.1 hb i (Av.2 hi);rw[ho] at hb';simp only[Ap,AG,Array.all_eq_true_iff_forall_mem] at hb'
   grind
  grind
def waitsB(ops:Array Ay)(i j:Nat):Bool:=((ops[j]?).map (·.after.any fun e=>AU .any e&&e.on==i)).getD false
theorem Qk5{id:Nat}(hm:P.follows .mixedOrders=true)(hb:backB ops=true)
 (F:(Nat->A9)->Act) (V:Nat->A9->A5->Prop) (S:A5->Prop) (R:A5->A5->Prop) (x0:Nat->A9)
 (hV: ∀j v w w',V j v w->R w w'->V j v w') (hS0:S {w with drawn:=w.drawn+1})
 (hop: ∀i o,ops[i]? =some o-> ∀x w,S w->(∀e∈o.after,AU .any e=true->V e.on (x e.on) w)->(∀j,waitsB ops i j=true->x j=x0 j)-> ∀K,(∀v w',R w w'->S w'->V i v w'->K (F (upd x i v)) w')->wpOp P ops Q i K (F x) w)
 (hend: ∀x w',S w'->(∀i,i<ops.size->V i (x i) w')->Q .normal (F x) w'):(Am id ops true).wp P Q (F x0) w:=by
 refine wp_region_any hm ?_
 have key: ∀(fuel:Nat) (listed:Array Bool) (x:Nat->A9) (w:A5),listed.size=ops.size->(ops.size<=fuel+(listed.toList.countP (fun b=>b)))->S w->(∀i,listed.getD i false=true->V i (x i) w)->
  (∀i,listed.getD i false=false->x i=x0 i)->(∀i j,listed.getD j false=true->waitsB ops i j=true->listed.getD i false=true)->wpAny P .any ops Q fuel listed (F x) w:=by
  intro fuel;induction fuel with
  |zero=>
   intro listed x w hsz hf hS hx hu hw
   have hall: ∀i,i<ops.size->listed.getD i false=true:=by
    have hc:listed.toList.countP (fun b=>b)=listed.toList.length:=by
     grind
    rw[List.countP_eq_length] at hc;intro i hi;have hi':i<listed.toList.length:=by simp;omega
    have:=hc _ (AR hi')
    simp_all
   have hr:AN .any ops listed=[]:=by
    cases hr:AN .any ops listed with
    |nil=>rfl
    |cons i r=>
     exfalso;have hi:i∈AN .any ops listed:=by grind
     rw[mem_ready] at hi
     grind
   exact⟨hr,hend x w hS fun i hi=>hx i (hall i hi)⟩
  |succ fuel ih=>
   intro listed x w hsz hf hS hx hu hw;refine⟨fun hr=>hend x w hS fun i hi=>hx i (ready_all hb hsz hr i hi),fun i hi=>?_⟩;rw[mem_ready] at hi;obtain⟨h1,o,ho,hdep⟩:=hi;have hlt:i<ops.size:=(Array.getElem?_eq_some_iff.1 ho).1
   have hli:listed[i]'(by omega)=false:=by
    simp_all
   have hlf:listed.getD i false=false:=by
    grind
   refine hop i o ho x w hS (fun e he hbd=>hx _ (hdep e he hbd)) (fun j hj=>hu j ?_) _ fun v w' hR hS' hv=>?_
   ·grind
   refine ih _ _ _ (by grind) ?_ hS' (fun j hj=>?_) (fun j hj=>?_) (fun a b hb' hab=>?_)
   ·grind
   ·by_cases hji:j=i
    ·subst hji;unfold upd;grind
    ·unfold upd
     rw[if_neg hji];rw[getD_set_ne false (fun e=>hji e.symm)] at hj
     grind
   ·have hji:j≠i:=by
     intro e
     simp_all
    unfold upd;rw[if_neg hji];rw[getD_set_ne false (fun e=>hji e.symm)] at hj
    grind
   ·by_cases hbi:b=i
    ·subst hbi
     have hab':=hab;unfold waitsB at hab';rw[ho] at hab';simp only[Ap,AG,Array.any_eq_true',A1,beq_iff_eq] at hab';obtain⟨e,he,hbd,hon⟩:=hab';have:=hdep e he hbd;rw[hon] at this;exact getD_set_true this
    ·rw[getD_set_ne false (fun e=>hbi e.symm)] at hb'
     exact getD_set_true (hw a b hb' hab)
 refine key ops.size (Array.replicate ops.size false) x0 _ (by simp) (by omega) hS0 (fun i hi=>?_) (fun i _=>rfl) (fun i j hj _=>?_)
 ·exfalso
  rw[AO,AQ] at hi
  grind
 ·exfalso
  rw[AO,AQ] at hj
  grind
def Deps(V:Nat->A9->A5->Prop)(x:Nat->A9)(w:A5):List Edge->Prop
 |[]=>True
 |e::r=>(AU .any e=true->V e.on (x e.on) w)/\Deps V x w r
def Deps.of{V:Nat->A9->A5->Prop}{x:Nat->A9}{w:A5}: ∀{l:List Edge},(∀e∈l,AU .any e=true->V e.on (x e.on) w)->Deps V x w l
 |[],_=>trivial
 |e::_,h=>⟨h e A6,Deps.of fun e' he=>h e' (A0 _ he)⟩
def OpPart(P:B0)(ops:Array Ay)(Q:Exit->Act->A5->Prop)(F:(Nat->A9)->Act)(V:Nat->A9->A5->Prop)(S:A5->Prop)(R:A5->A5->Prop)(x0:Nat->A9)(i:Nat)(o:Ay):Prop:=
 ∀x w,S w->Deps V x w o.after.toList->(∀j,waitsB ops i j=true->x j=x0 j)-> ∀K:Act->A5->Prop,(∀v w',R w w'->S w'->V i v w'->K (F (upd x i v)) w')->
  if Region.wanted o (yielded ops (F x).tmps) then o.wp P (F x) w K Q else K ((F x).put o.dst undef) w
def OpAll(P:B0)(ops:Array Ay)(Q:Exit->Act->A5->Prop)(F:(Nat->A9)->Act)(V:Nat->A9->A5->Prop)(S:A5->Prop)(R:A5->A5->Prop)(x0:Nat->A9):Nat->List Ay->Prop
 |_,[]=>True
 |i,o::r=>OpPart P ops Q F V S R x0 i o/\OpAll P ops Q F V S R x0 (i+1) r
theorem OpAll.get{P:B0}{ops:Array Ay}{Q:Exit->Act->A5->Prop}{F:(Nat->A9)->Act}{V:Nat->A9->A5->Prop}{S:A5->Prop}{R:A5->A5->Prop}{x0:Nat->A9}:
 ∀{l:List Ay} {k:Nat},OpAll P ops Q F V S R x0 k l-> ∀i o,l[i]? =some o->OpPart P ops Q F V S R x0 (k+i) o
 |[],_,_,i,o,h=>by simp at h
 |p::r,k,h,0,o,ho=>by simp at ho;subst ho;exact h.1
 |p::r,k,h,i+1,o,ho=>by
  have:=OpAll.get h.2 i o (by grind)
  grind
theorem Qk6{id:Nat}{l:List Ay}(hm:P.follows .mixedOrders=true)(hb:backB l.toArray=true)
 (F:(Nat->A9)->Act) (V:Nat->A9->A5->Prop) (S:A5->Prop) (R:A5->A5->Prop) (x0:Nat->A9)
 (hV: ∀j v w w',V j v w->R w w'->V j v w') (hS0:S w.drew)
 (hop:OpAll P l.toArray Q F V S R x0 0 l)
 (hend: ∀x w',S w'->(∀i,i<l.length->V i (x i) w')->Q .normal (F x) w'):(Am id l.toArray true).wp P Q (F x0) w:=by
 refine Qk5 hm hb F V S R x0 hV hS0 (fun i o ho x w hS hd hu K hK=>?_) (fun x w' hS' hv=>hend x w' hS' fun i hi=>hv i (by omega));have hp:=OpAll.get hop i o (by grind);rw[Nat.zero_add] at hp;have:=hp x w hS (Deps.of fun e he hbd=>hd e (Array.mem_toList_iff.1 he) hbd) hu K hK;unfold wpOp
 grind
def QmQ{id:Nat}{l:List Ay}(hm:P.follows .mixedOrders=true)(hb:backB l.toArray=true)
 (F0:(Nat->A9)->Act) (x0:Nat->A9) (V:Nat->A9->A5->Prop) (S:A5->Prop) (R:A5->A5->Prop)
 (hV: ∀j v w w',V j v w->R w w'->V j v w') (hS0:S w.drew)
 (hop: ∀F,F=F0->OpAll P l.toArray Q F V S R x0 0 l)
 (hend: ∀x w',S w'->(∀i,i<l.length->V i (x i) w')->Q .normal (F0 x) w'):(Am id l.toArray true).wp P Q (F0 x0) w:=
 Qk6 hm hb F0 V S R x0 hV hS0 (hop F0 rfl) hend
end Pm
end
section
namespace Pl
variable{c:UInt8}{out:List Str}{rest num tail:Str}
def QjU: ∀(l:Str) (acc k:Nat),l.all isDig=true->acc<10^k->k+l.length<=18->Aq acc l= .ok (l.foldl (fun a c=>a*10+dgt c) acc)
 |[],acc,k,_,_,_=>rfl
 |c::r,acc,k,h,ha,hk=>by
  simp only[AA,A1] at h;simp only[List.length_cons] at hk;have hc:=(QeX c).1 h.1;have hd:=QsE h.1;have hp:10^k<=10^17:=AI (by omega) (by omega);have h17:(10:Nat)^17=100000000000000000:=by decide
  have e:c.toNat -48=dgt c:=rfl;rw[Aq,if_pos hc,if_neg (by omega),e,if_neg (by omega),List.foldl_cons];exact QjU r _ (k+1) h.2 (by omega) (by omega)
theorem Qpa(n:Nat)(h:n<1000000000):AZ (dec n)= .ok (n:Int):=by
 have h9:=Qdb 8 n (by omega);have hall:=QgX n;have hv:=QkA n;have hne:=Qf6 n;cases hd:dec n with
 |nil=>grind
 |cons c r=>
  rw[hd] at h9 hall hv;have hcr:=hall;simp only[AA,A1] at hcr;have hc:=(QeX c).1 hcr.1;unfold AZ Lib.parseMag;simp only;rw[if_neg (show ¬(c.toNat=43∨c.toNat=45) by omega),if_neg (by simp),QjU (c::r) 0 0 hall (by simp) (by omega)];have:List.foldl (fun a c=>a*10+dgt c) 0 (c::r)=n:=hv
  grind
theorem QjW{v:Int}{s:Str}(h:numPut v=s)(hs:s≠[]):0<=v/\v<=999999999/\s=dec v.toNat:=by
 unfold numPut at h
 grind
theorem Qr5{s:Str}{v:Int}(h:AZ s= .ok v):numGet s=if numPut v=s then some v.toNat else none:=by
 have hs:s≠[]:=by rintro rfl;cases h
 by_cases hp:numPut v=s
 ·obtain⟨h0,h1,rfl⟩:=QjW hp hs
  rw[if_pos hp,QdA (by omega)]
 ·rw[if_neg hp]
  cases hg:numGet s with
  |none=>rfl
  |some n=>
   obtain⟨rfl,hn⟩:=QdE hg;rw[Qpa n hn] at h;injection h with h;subst h;exact absurd (by unfold numPut;grind) hp
def QpE{s:Str}(h: ∀v,AZ s≠ .ok v):numGet s=none:=by
 cases hg:numGet s with
 |none=>rfl
 |some n=>
  obtain⟨rfl,hn⟩:=QdE hg;exact absurd (Qpa n hn) (h _)
def Qnf{s:Str}(h:9<s.length):numGet s=none:=by
 cases hg:numGet s with
 |none=>rfl
 |some n=>
  obtain⟨rfl,hn⟩:=QdE hg;have:=Qdb 8 n (by omega);omega
theorem QkV{l:Str}(h:c∉l):B4 l [c]= -1:=by
 rw[Ac];induction l with
 |nil=>rfl
 |cons b l ih=>
  have hb:(b==c)=false:=by grind
  unfold Ad
  grind
theorem QrX: ∀{a r:Str} {c:UInt8},c∉a->B4 (a++c::r) [c]=a.length
 |[],r,c,_=>by rw[Ac];simp[Ad]
 |b::a,r,c,h=>by
  have hb:(b==c)=false:=by grind
  have ih:=QrX (r:=r) (fun hm=>h (A0 _ hm));rw[Ac] at ih⊢;rw[A2,Ad,hb,ih]
  grind
theorem QeU{c:UInt8}: ∀{l:Str},c∈l-> ∃a r,l=a++c::r/\c∉a
 |b::l,h=>by
  by_cases hb:c=b
  ·subst hb;exact⟨[],l,rfl,by simp⟩
  ·obtain⟨a,r,rfl,ha⟩:=QeU (List.mem_of_ne_of_mem hb h)
   grind
def QhW{a r:Str}(h:c∉a):B1 (a++c::r) [c]=(a,r,true):=by
 unfold B1;rw[QrX h,if_pos (by omega)];simp
def Qi6{s:Str}(h:c∉s):B1 s [c]=(s,[],false):=by
 unfold B1;rw[QkV h,if_neg (by omega)]
def ba(s:Str):ByteArray:=⟨s.toArray⟩
def Qha(s:Str):(ba s).data.toList=s:=by simp[ba]
theorem Qvm(s:Str)(a b:Nat):(ba s).extract a b=ba ((s.take b).drop a):=by
 apply ByteArray.ext;unfold ba;rw[ByteArray.data_extract]
 grind
def Qgu(s:Str):(ba s).size=s.length:=by show s.toArray.size=_;simp
theorem QiK(c:UInt8): ∀(n:Nat) (s:Str),s.length<=n->Lib.splitB (ba [c]) 0 (B3 (ba s) (ba [c])) (ba s)=(cutB c s).map ba/\B3 (ba s) (ba [c])+1=(cutB c s).length:=by
 intro n;induction n with
 |zero=>
  intro s hs;have:s=[]:=List.eq_nil_of_length_eq_zero (by omega);subst this;have hm:AP (ba []) (ba [c])= -1:=by unfold AP;rw[Qha,Qha];exact QkV (by simp)
  rw[Ar _ _ hm,As,QeL c [] (by simp)]
  grind
 |succ n ih=>
  intro s hs
  by_cases hm:c∈s
  ·obtain⟨a,r,rfl,ha⟩:=QeU hm
   have hi:AP (ba (a++c::r)) (ba [c])=a.length:=by unfold AP;rw[Qha,Qha];exact QrX ha
   have h1:(ba [c]).size=1:=by rw[Qgu];rfl
   have hr:(ba (a++c::r)).extract (a.length+(ba [c]).size) (ba (a++c::r)).size=ba r:=by
    rw[Qvm,h1,Qgu,List.take_length,List.drop_append,List.drop_of_length_le (by omega)];simp
   have h0:(ba (a++c::r)).extract 0 (a.length+0)=ba a:=by rw[Qvm];simp
   obtain⟨i1,i2⟩:=ih r (by grind);rw[Lib.countB_hit _ _ a.length (by omega) hi,hr,Qes c a r ha,Nat.add_comm 1,Lib.splitB_hit _ _ _ _ _ hi,hr,h0,i1]
   grind
  ·have hi:AP (ba s) (ba [c])= -1:=by unfold AP;rw[Qha,Qha];exact QkV hm
   rw[Ar _ _ hi,As,QeL c s hm]
   grind
def QrT(l:List Str):Lib.join ((l.map ba).map (·.data.toList)) (ba [46]).data.toList=dots l:=by
 rw[List.map_map,Qha];have:(fun x:ByteArray=>x.data.toList) ∘ ba=id:=by funext s;exact Qha s
 rw[this,List.map_id];rfl
theorem Quk{s:Str}(ho:s=enc out++rest)(hr:rest≠[])(h:60<=out.length): ∀l,¬IsRec s l:=by
 intro l hl;obtain⟨c,rfl,hc⟩:=QkE hl ho;have:c≠[]:=by rintro rfl;exact hr hc.symm
 have h1:=hl.1;have h2:0<c.length:=List.length_pos_iff.2 this
 grind
def Qn4{s:Str}(ho:s=enc out++rest)(hr:rest≠[])(h:(58:UInt8)∉rest): ∀l,¬IsRec s l:=by
 intro l hl;obtain⟨c,rfl,hc⟩:=QkE hl ho;exact QlV hr h hc
theorem Qsc{s:Str}(hs:s.length<=2048)(ho:s=enc out++(num++58::tail))(hn:(58:UInt8)∉num)(hf:numGet num=none∨ ∃n,numGet num=some n/\tail.length<n): ∀l,¬IsRec s l:=by
 intro l hl;obtain⟨c,rfl,hc⟩:=QkE hl ho;refine Quw ?_ hn hf hc
 grind
def Quj{s:Str}{n:Nat}(ho:s=enc out++(num++58::tail))(h:numGet num=some n)(hn:n<=tail.length):s=enc (out++[tail.take n])++tail.drop n:=by
 rw[ho,Quv h hn,Qf2,QhT,A4]
end Pl
end
section
namespace Gr
variable{es L L1 nm L0:List Nat}{m:Nat}
inductive FD(kind:Nat->Nat)(ch:Nat->Option (List Nat)):List Nat->List Nat->Prop
 |nil:FD kind ch [] []
 |file {k:Nat} {es L:List Nat}:kind k=1->FD kind ch es L->FD kind ch (k::es) (k::L)
 |dir {k:Nat} {cs es L1 L2:List Nat}:kind k=2->ch k=some cs->FD kind ch cs L1->FD kind ch es L2->FD kind ch (k::es) (k::(L1++L2))
inductive TD(kind:Nat->Nat)(ch:Nat->Option (List Nat)):List Nat->List Nat->Prop
 |nil:TD kind ch [] []
 |cons {f:Nat} {es t L1 L2:List Nat}:kind f=2->ch f=some es->FD kind ch es L1->TD kind ch t L2->TD kind ch (f::t) (L1++L2)
variable{kind:Nat->Nat}{ch:Nat->Option (List Nat)}
theorem FD.unique(h:FD kind ch es L): ∀{M:List Nat},FD kind ch es M->M=L:=by
 induction h with
 |nil=>intro M hm;cases hm;rfl
 |file hk h ih=>
  intro M hm;cases hm with
  |file hk' h'=>rw[ih h']
  |dir hk' hc' h1' h2'=>omega
 |dir hk hc h1 h2 ih1 ih2=>
  intro M hm;cases hm with
  |file hk' h'=>omega
  |dir hk' hc' h1' h2'=>
   grind
theorem FD.kinds(h:FD kind ch es L): ∀k∈L,kind k=1∨kind k=2/\(ch k).isSome=true:=by
 induction h with
 |nil=>grind
 |file hk h ih=>
  grind
 |dir hk hc h1 h2 ih1 ih2=>
  grind
theorem TD.snoc{t cs:List Nat}{f:Nat}(h:TD kind ch t L)(hk:kind f=2)(hc:ch f=some cs)(h1:FD kind ch cs L1):TD kind ch (t++[f]) (L++L1):=by
 induction h with
 |nil=>have:=TD.cons hk hc h1 .nil;grind
 |cons hk' hc' h1' h2' ih=>have:=TD.cons hk' hc' h1' ih;grind
def TD.unsnoc{f:Nat}: ∀{t L:List Nat},TD kind ch (t++[f]) L-> ∃cs L1 L2,L=L2++L1/\kind f=2/\ch f=some cs/\FD kind ch cs L1/\TD kind ch t L2
 |[],L,h=>by
  cases h with
  |cons hk hc h1 h2=>cases h2;exact⟨_,_,[],by simp,hk,hc,h1,.nil⟩
 |g::t,L,h=>by
  cases h with
  |cons hk hc h1 h2=>
   obtain⟨cs,L1,L2,rfl,hk',hc',h1',h2'⟩:=TD.unsnoc h2;exact⟨cs,L1,_,(A4 ..).symm,hk',hc',h1',.cons hk hc h1 h2'⟩
def inner(kind:Nat->Nat):List Nat->List Nat->List Nat->Option (List Nat×List Nat)
 |[],t,nm=>some (t,nm)
 |e::es,t,nm=>if kind e=0 then none else if kind e=2 then(if 0<nm.count e then none else inner kind es (t++[e]) (nm++[e])) else inner kind es t (nm++[e])
def bfs(kind:Nat->Nat)(ch:Nat->Option (List Nat)):Nat->List Nat->List Nat->Option (List Nat)
 |_,[],nm=>some nm
 |0,_::_,_=>none
 |n+1,f::t,nm=>match inner kind ((ch f).getD []) t nm with
  |none=>none
  |some (t',nm')=>bfs kind ch n t' nm'
def left(kind:Nat->Nat)(m:Nat)(nm:List Nat):Nat:=((AE m).filter fun k=>decide (kind k=2)&&decide (nm.count k=0)).length
theorem Qhw{p q:Nat->Bool}(h: ∀k,q k=true->p k=true): ∀l:List Nat,(l.filter q).length<=(l.filter p).length
 |[]=>by simp
 |a::l=>by
  have ih:=Qhw h l
  grind
theorem Qhv{p q:Nat->Bool}{e:Nat}(h: ∀k,q k=true->p k=true)(hp:p e=true)(hq:q e=false): ∀l:List Nat,e∈l->(l.filter q).length<(l.filter p).length
 |[],hm=>by cases hm
 |a::l,hm=>by
  rw[Al,Al];rcases AH.1 hm with rfl|hm
  ·rw[hp,hq]
   have:=Qhw h l;simp;omega
  ·have ih:=Qhv h hp hq l hm
   grind
theorem left_le{e:Nat}:left kind m (nm++[e])<=left kind m nm:=by
 unfold left;refine Qhw (fun k hk=>?_) _
 grind
theorem left_lt{e:Nat}(hm:e<m)(hk:kind e=2)(h0:nm.count e=0):left kind m (nm++[e])<left kind m nm:=by
 unfold left;refine Qhv (fun k hk=>?_) ?_ ?_ _ (Av.2 hm)
 ·grind
 ·grind
 grind
theorem Qg6{m:Nat}(hm: ∀k,kind k=2->k<m): ∀{es t nm t' nm':List Nat},inner kind es t nm=some (t',nm')->t'.length+left kind m nm'<=t.length+left kind m nm
 |[],t,nm,t',nm',h=>by simp only[inner,A3,Ae] at h;grind
 |e::es,t,nm,t',nm',h=>by
  unfold inner at h;split at h
  ·cases h
  ·split at h
   ·rename_i hk
    split at h
    ·cases h
    ·rename_i h0
     have:=Qg6 hm h;have:=left_lt (hm e hk) hk (show nm.count e=0 by omega)
     grind
   ·have:=Qg6 hm h
    have:=left_le (kind:=kind) (m:=m) (e:=e) (nm:=nm);omega
theorem QpR: ∀{es t nm t' nm':List Nat},inner kind es t nm=some (t',nm')->(∀k∈t,kind k=2)-> ∀k∈t',kind k=2
 |[],t,nm,t',nm',h,ht=>by simp only[inner,A3,Ae] at h;grind
 |e::es,t,nm,t',nm',h,ht=>by
  unfold inner at h;split at h
  ·cases h
  ·split at h
   ·rename_i hk
    split at h
    ·cases h
    ·refine QpR h fun k hm=>?_
     grind
   ·exact QpR h ht
theorem Qnz(hone: ∀k,kind k=2->L0.count k<=1)(h:FD kind ch es L1): ∀{t nm L:List Nat},TD kind ch t L->
 (∀k,nm.count k+L1.count k+L.count k<=L0.count k)-> ∃t' nm' L',inner kind es t nm=some (t',nm')/\TD kind ch t' L'/\ ∀k,nm'.count k+L'.count k=nm.count k+L1.count k+L.count k:=by
 induction h with
 |nil=>intro t nm L ht hc;exact⟨t,nm,L,rfl,ht,fun k=>by simp⟩
 |@file e es L1 hk h ih=>
  intro t nm L ht hc
  obtain⟨t',nm',L',h1,h2,h3⟩:=ih (nm:=nm++[e]) ht fun k=>by
   grind
  refine⟨t',nm',L',?_,h2,fun k=>?_⟩
  ·unfold inner;grind
  grind
 |@dir e cs es L1 L2 hk hc h1 h2 ih1 ih2=>
  intro t nm L ht hcn
  obtain⟨t',nm',L',g1,g2,g3⟩:=ih2 (nm:=nm++[e]) (ht.snoc hk hc h1) fun k=>by
   grind
  refine⟨t',nm',L',?_,g2,fun k=>?_⟩
  ·unfold inner
   grind
  grind
theorem QsU(hm: ∀k,kind k=2->k<m)(hone: ∀k,kind k=2->L0.count k<=1): ∀{n:Nat} {t nm L:List Nat},TD kind ch t L->t.length+left kind m nm<=n->
 (∀k,nm.count k+L.count k<=L0.count k)-> ∃nm',bfs kind ch n t nm=some nm'/\ ∀k,nm'.count k=nm.count k+L.count k:=by
 intro n;induction n with
 |zero=>
  intro t nm L ht hn hc;cases ht with
  |nil=>exact⟨nm,rfl,fun k=>by simp⟩
  |cons _ _ _ _=>simp at hn
 |succ n ih=>
  intro t nm L ht hn hc;cases ht with
  |nil=>exact⟨nm,rfl,fun k=>by simp⟩
  |@cons f es t L1 L2 hk hcf h1 h2=>
   obtain⟨t',nm',L',g1,g2,g3⟩:=Qnz hone h1 (nm:=nm) h2 fun k=>by
    grind
   have hl:=Qg6 hm g1
   obtain⟨nm2,k1,k2⟩:=ih (nm:=nm') g2 (by grind) fun k=>by
    grind
   refine⟨nm2,?_,fun k=>?_⟩
   ·unfold bfs;grind
   grind
theorem QgV: ∀{es t nm t' nm' L':List Nat},inner kind es t nm=some (t',nm')->TD kind ch t' L'->(∀e∈es,kind e<=2)->
 ∃L1 L,FD kind ch es L1/\TD kind ch t L/\ ∀k,nm'.count k+L'.count k=nm.count k+L1.count k+L.count k
 |[],t,nm,t',nm',L',h,ht,_=>by
  simp only[inner,A3,Ae] at h;obtain⟨rfl,rfl⟩:=h;exact⟨[],L',.nil,ht,fun k=>by simp⟩
 |e::es,t,nm,t',nm',L',h,ht,h2=>by
  unfold inner at h;split at h
  ·cases h
  rename_i h0;split at h
  ·rename_i hk
   split at h
   ·cases h
   obtain⟨L1,L,g1,g2,g3⟩:=QgV h ht fun x hx=>h2 x (A0 _ hx)
   obtain⟨cs,M1,M2,rfl,hk',hc',k1,k2⟩:=g2.unsnoc;refine⟨_,M2,.dir hk hc' k1 g1,k2,fun k=>?_⟩
   grind
  ·rename_i hk
   obtain⟨L1,L,g1,g2,g3⟩:=QgV h ht fun x hx=>h2 x (A0 _ hx)
   have:=h2 e A6;refine⟨_,L,.file (by omega) g1,g2,fun k=>?_⟩
   grind
theorem Qso(hle: ∀k,kind k<=2)(hch: ∀k,kind k=2-> ∃cs,ch k=some cs): ∀{n:Nat} {t nm nm':List Nat},bfs kind ch n t nm=some nm'->(∀k∈t,kind k=2)->
 ∃L,TD kind ch t L/\ ∀k,nm'.count k=nm.count k+L.count k:=by
 intro n;induction n with
 |zero=>
  intro t nm nm' h ht;cases t with
  |nil=>simp only[bfs,A3] at h;subst h;exact⟨[],.nil,fun k=>by simp⟩
  |cons f t=>cases h
 |succ n ih=>
  intro t nm nm' h ht;cases t with
  |nil=>simp only[bfs,A3] at h;subst h;exact⟨[],.nil,fun k=>by simp⟩
  |cons f t=>
   have hf:=ht f A6;obtain⟨cs,hc⟩:=hch f hf;unfold bfs at h;rw[hc,AG] at h;split at h
   ·cases h
   rename_i t1 nm1 hi;obtain⟨L',g1,g2⟩:=ih h (QpR hi fun k hk=>ht k (A0 _ hk));obtain⟨L1,L,k1,k2,k3⟩:=QgV hi g1 fun e _=>hle e
   refine⟨_,.cons hf hc k1 k2,fun k=>?_⟩
   grind
theorem QhL: ∀(m:Nat) (L:List Nat),(∀k∈L,k<m)->L.length=((AE m).map fun k=>L.count k).sum
 |m,[],_=>by
  have:((AE m).map fun k=>([]:List Nat).count k)=(AE m).map fun _=>0:=Aa fun k _=>by simp
  rw[this];induction m with
  |zero=>rfl
  |succ m ih=>rw[AX,AD,AM,<-ih (fun k h=>by cases h) (Aa fun k _=>by simp)];rfl
 |m,a::L,h=>by
  have ih:=QhL m L fun k hk=>h k (A0 _ hk)
  have ha:=h a A6
  have key: ∀n,((AE n).map fun k=>(a::L).count k).sum=((AE n).map fun k=>L.count k).sum+if a<n then 1 else 0:=by
   intro n;induction n with
   |zero=>rfl
   |succ n ihn=>
    rw[AX,AD,AM,AD,AM,ihn]
    grind
  grind
def sum_le(c:Nat)(f:Nat->Nat): ∀(m:Nat),(∀k,k<m->f k<=c)->((AE m).map f).sum<=m*c
 |0,_=>by simp
 |m+1,h=>by
  have:=sum_le c f m fun k hk=>h k (by omega)
  have:=h m (by omega);rw[AX,AD,AM,Nat.succ_mul];simp;omega
variable{kind:Nat->Nat}{ch:Nat->Option (List Nat)}
theorem FD.ne0(h0: ∀k cs,ch k=some cs-> ∀e∈cs,e≠0)(h:FD kind ch es L):(∀e∈es,e≠0)->0∉L:=by
 induction h with
 |nil=>grind
 |file hk h ih=>
  grind
 |dir hk hc h1 h2 ih1 ih2=>
  grind
structure Nodes(kind:Nat->Nat)(ch:Nat->Option (List Nat))(links:Nat->Nat)(m:Nat):Prop where
 root:kind 0=2
 le: ∀k,kind k<=2
 lt: ∀k,kind k≠0->k<m
 m16:m<=16
 lnk: ∀k,kind k≠0->1<=links k/\links k<=9
 one: ∀k,kind k=2->links k=1
 ne0: ∀k cs,ch k=some cs-> ∀e∈cs,e≠0
theorem Qtv{links:Nat->Nat}(hn:Nodes kind ch links m):
 (∃L,FD kind ch [0] L/\L.length<=144/\ ∀k,kind k≠0->L.count k=links k)↔
 ((∀k,kind k=2-> ∃cs,ch k=some cs)/\ ∃nm,bfs kind ch (1+left kind m []) [0] []=some nm/\ ∀k,k≠0->kind k≠0->nm.count k=links k):=by
 constructor
 ·rintro⟨L,h,hl,hc⟩
  cases h with
  |file hk _=>rw[hn.root] at hk;cases hk
  |@dir k cs es L1 L2 hk hcs h1 h2=>
   cases h2;rw[AC] at hc;have hcc: ∀k,k≠0->(0::L1).count k=L1.count k:=fun k hk=>by grind
   refine⟨fun k hk=>?_,?_⟩
   ·have hkm:k∈0::L1:=List.count_pos_iff.1 (by rw[hc k (by omega),hn.one k hk];decide)
    rcases AH.1 hkm with rfl|hkm
    ·grind
    ·rcases h1.kinds k hkm with h|⟨_,h⟩
     ·omega
     ·exact Option.isSome_iff_exists.1 h
   ·have hone: ∀k,kind k=2->L1.count k<=1:=fun k hk=>by
     have h1:=hc k (by omega);rw[hn.one k hk,Au] at h1;omega
    obtain⟨nm,g1,g2⟩:=QsU (ch:=ch) (m:=m) (fun k hk=>hn.lt k (by omega)) hone (n:=1+left kind m []) (nm:=[]) (.cons hk hcs h1 .nil) (by simp) fun k=>by simp
    grind
 ·rintro⟨hch,nm,hb,hc⟩
  obtain⟨L,ht,hL⟩:=Qso hn.le hch hb (by simp[hn.root]);cases ht with
  |@cons f es t L1 L2 hk hcs h1 h2=>
   cases h2;have hz:=h1.ne0 hn.ne0 (hn.ne0 _ _ hcs)
   have hcount: ∀k,kind k≠0->(0::(L1++[])).count k=links k:=fun k hk'=>by
    by_cases h0:k=0
    ·subst h0
     rw[Au,AC,AJ hz,hn.one 0 hn.root];rfl
    grind
   have hfd:FD kind ch [0] (0::(L1++[])):= .dir hk hcs h1 .nil;refine⟨_,hfd,?_,hcount⟩;have hlt: ∀k∈0::(L1++[]),k<m:=fun k hk=>hn.lt k (by rcases hfd.kinds k hk with h|⟨h,_⟩<;>omega)
   rw[QhL m _ hlt];refine Ai (sum_le 9 _ m fun k hk=>?_) (by have:=hn.m16;omega)
   by_cases hk0:kind k=0
   ·rw[AJ]
    ·omega
    ·intro hm;rcases hfd.kinds k hm with h|⟨h,_⟩<;>omega
   ·rw[hcount k hk0];exact(hn.lnk k hk0).2
abbrev It:=List (List UInt8)×Nat
abbrev En:=List (List UInt8×Nat)
def kids(p:List (List UInt8))(es:En):List It:=es.map fun e=>(p++[e.1],e.2)
inductive FP(kind:Nat->Nat)(en:Nat->Option En):List It->List It->Prop
 |nil:FP kind en [] []
 |file {p:List (List UInt8)} {k:Nat} {r L:List It}:kind k=1->FP kind en r L->FP kind en ((p,k)::r) ((p,k)::L)
 |dir {p:List (List UInt8)} {k:Nat} {es:En} {r L1 L2:List It}:kind k=2->en k=some es->FP kind en (kids p es) L1->FP kind en r L2->FP kind en ((p,k)::r) ((p,k)::(L1++L2))
variable{en:Nat->Option En}
def chOf(en:Nat->Option En)(k:Nat):Option (List Nat):=(en k).map (·.map (·.2))
def Qo2(p:List (List UInt8))(es:En):(kids p es).map (·.2)=es.map (·.2):=by simp[kids]
variable{r:List It}
theorem FP.fd{L:List It}(h:FP kind en r L):FD kind (chOf en) (r.map (·.2)) (L.map (·.2)):=by
 induction h with
 |nil=>exact .nil
 |file hk h ih=>exact .file hk ih
 |dir hk he h1 h2 ih1 ih2=>
  rw[Qo2] at ih1;have:=FD.dir hk (by unfold chOf;grind) ih1 ih2
  grind
theorem Qum{ks M:List Nat}(h:FD kind (chOf en) ks M): ∀{r:List It},r.map (·.2)=ks-> ∃L,FP kind en r L/\L.map (·.2)=M:=by
 induction h with
 |nil=>intro r hr;rw[List.map_eq_nil_iff] at hr;subst hr;exact⟨[],.nil,rfl⟩
 |file hk h ih=>
  intro r hr
  match r,hr with
  |(p,k)::r,hr=>
   simp only[Af,A7] at hr;obtain⟨rfl,hr2⟩:=hr;obtain⟨L,h1,h2⟩:=ih hr2;exact⟨_,.file hk h1,by simp[h2]⟩
 |dir hk hc h1 h2 ih1 ih2=>
  intro r hr
  match r,hr with
  |(p,k)::r,hr=>
   simp only[Af,A7] at hr;obtain⟨rfl,hr2⟩:=hr;unfold chOf at hc;obtain⟨es,he,rfl⟩:=Option.map_eq_some_iff.1 hc;obtain⟨La,g1,g2⟩:=ih1 (Qo2 p es);obtain⟨Lb,g3,g4⟩:=ih2 hr2;exact⟨_,.dir hk he g1 g3,by grind⟩
theorem FP.pre{L:List It}(h:FP kind en r L): ∀x∈L,∃y∈r,y.1<+:x.1:=by
 induction h with
 |nil=>grind
 |file hk h ih=>
  intro x hx
  grind
 |dir hk he h1 h2 ih1 ih2=>
  intro x hx;rcases AH.1 hx with rfl|hx
  ·simp
  ·rcases List.mem_append.1 hx with hx|hx
   ·obtain⟨y,hy,h⟩:=ih1 x hx
    unfold kids at hy;obtain⟨e,_,rfl⟩:=Aj.1 hy;exact⟨_,A6,B2 (List.prefix_append _ _) h⟩
   grind
def FP.split: ∀{a b L:List It},FP kind en (a++b) L-> ∃La Lb,L=La++Lb/\FP kind en a La/\FP kind en b Lb
 |[],b,L,h=>⟨[],L,rfl,.nil,h⟩
 |(p,k)::a,b,L,h=>by
  cases h with
  |file hk h=>
   obtain⟨La,Lb,rfl,h1,h2⟩:=h.split;exact⟨_,Lb,(A2 ..).symm,.file hk h1,h2⟩
  |dir hk he h1 h2=>
   obtain⟨La,Lb,rfl,h3,h4⟩:=h2.split;exact⟨_,Lb,by simp,.dir hk he h1 h3,h4⟩
def find(kind:Nat->Nat)(en:Nat->Option En):Nat->List (List UInt8)->Option Nat
 |k,[]=>some k
 |k,n::q=>if kind k=2 then((en k).getD []).find? (fun e=>e.1==n)|>.bind fun e=>find kind en e.2 q else none
theorem pre_ne{α:Type}{p x q:List α}{a b:α}(h1:p++[a]<+:x)(h2:p++b::q<+:x):a=b:=by
 obtain⟨r,rfl⟩:=h1
 simp_all
theorem QpZ{q:List (List UInt8)}: ∀{p:List (List UInt8)} {k j:Nat} {L:List It},(∀k es,en k=some es->(es.map (·.1)).Nodup)->FP kind en [(p,k)] L->find kind en k q=some j->
 ∃M,FD kind (chOf en) [j] M/\ ∀i,(∃x∈L,x.2=i/\p++q<+:x.1)↔i∈M:=by
 induction q with
 |nil=>
  intro p k j L hnd h hf;simp only[find,A3] at hf;subst hf;refine⟨_,h.fd,fun i=>?_⟩;rw[AC,Aj];constructor
  ·grind
  ·rintro⟨x,hx,rfl⟩
   obtain⟨y,hy,hp⟩:=h.pre x hx
   grind
 |cons n q ih=>
  intro p k j L hnd h hf;unfold find at hf;split at hf;rotate_left
  ·cases hf
  obtain⟨e,he,hf⟩:=Option.bind_eq_some_iff.1 hf;cases h with
  |file hk' h=>omega
  |@dir _ _ es _ L1 L2 hk' hes h1 h2=>
   cases h2;rw[hes,AG] at he;have hn:=List.find?_some he;simp only[beq_iff_eq] at hn;obtain⟨es1,es2,rfl⟩:=List.append_of_mem (List.mem_of_find?_eq_some he);have hnd':=hnd k _ hes;have hk3:kids p (es1++e::es2)=kids p es1++([(p++[e.1],e.2)]++kids p es2):=by simp[kids]
   rw[hk3] at h1;obtain⟨La,Lr,rfl,g1,g2⟩:=h1.split;obtain⟨Le,Lb,rfl,g3,g4⟩:=g2.split;obtain⟨M,hM,hi⟩:=ih hnd g3 hf;refine⟨M,hM,fun i=>?_⟩;rw[<-hi i]
   have hno: ∀es':En,e.1∉es'.map (·.1)-> ∀L',FP kind en (kids p es') L'-> ∀x∈L',¬p++n::q<+:x.1:=by
    intro es' hne L' hL' x hx hp;obtain⟨y,hy,hyp⟩:=hL'.pre x hx;unfold kids at hy;obtain⟨e',he',rfl⟩:=Aj.1 hy;have:=pre_ne hyp hp
    grind
   rw[AD,Af,List.nodup_append] at hnd';obtain⟨_,hnd2,hdis⟩:=hnd';have hna:e.1∉es1.map (·.1):=fun h=>hdis _ h _ A6 rfl
   have hnb:e.1∉es2.map (·.1):=(List.nodup_cons.1 hnd2).1;constructor
   ·rintro⟨x,hx,rfl,hp⟩
    rw[AC] at hx;rcases AH.1 hx with rfl|hx
    ·exfalso
     obtain⟨s,hs⟩:=hp;have:=congrArg List.length hs
     grind
    grind
   ·rintro⟨x,hx,rfl,hp⟩
    grind

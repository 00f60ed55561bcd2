/- Of fby_card; no condition. -/
import Derived.Lib.ItoaNum
import Derived.Lib.AtoiAll
import Derived.Lib.IndexMore
import Derived.Lib.IndexLaws
import Derived.Lib.IndexBytes
import Derived.Lib.CountLaws
import Derived.Lib.Split
import Derived.Lib.Join
import Derived.Shelf.Strings.Builder1
import Derived.Shelf.Strings.Builder2
import Derived.Shelf.Strings.OnBuilder
import Derived.Shelf.Small.Bits
import Derived.Shelf.Small.Strs
import Derived.Shelf.Small.Wraps
import Derived.Shelf.Strings.BuilderF
import Derived.Shelf.Strconv.Atoi
import Derived.Shelf.Strconv.Itoa0
import Derived.Shelf.Strconv.Itoa1
import Derived.Shelf.LaysM
import Derived.Shelf.Strconv.Itoa2
import Derived.Shelf.Strconv.Itoa3
import Derived.Shelf.Strconv.AtoiErrFast
import Derived.Shelf.Strconv.ParseIntEmpty
import Derived.Shelf.Strconv.AtoiFail
import Derived.Shelf.Strconv.Clone
import Derived.Shelf.Strconv.SyntaxError
import Derived.Shelf.LaysC
import Derived.Shelf.Strconv.ToError
import Derived.Shelf.Strconv.Lower
import Derived.Shelf.Strconv.ParseUint10
import Derived.Shelf.Strconv.ParseUint10Empty
import Derived.Shelf.Strconv.ParseUint10Any
import Derived.Shelf.Strconv.ParseInt10
import Derived.Shelf.Strconv.AtoiLong
import Derived.Shelf.Strconv.AtoiInnerAll
import Derived.Shelf.Strconv.RangeError
import Derived.Shelf.Strconv.ToErrorRange
import Derived.Shelf.Strconv.AtoiAll
import Derived.Shelf.Strings.Search1
import Derived.Shelf.Strings.Search2
import Derived.Shelf.Strings.Search3
import Derived.Shelf.Strings.Cut
import Derived.Shelf.Strings.Count
import Derived.Shelf.Strings.Shaped
import Derived.Shelf.Strings.LastIndex
import Derived.Shelf.GgClosure.StringsIndexFunc
import Derived.Ground.GgwProg
import Derived.Shelf.GgClosure.StringsIndexFuncTop
import Derived.Shelf.GgClosure.StringsRunes
import Derived.Shelf.Strings.Prefix
import Derived.Shelf.Strings.Split
import Derived.Shelf.Bits.Mul64
import Derived.Shelf.Strings.Repeat
import Derived.Shelf.Unicode.DecodeSlow
import Derived.Shelf.Unicode.DecodeAny
import Derived.Ground.SlgnProg
import Derived.Shelf.SlicesE.Clone
import Derived.Test.YtfmnpmhadmcdkaaGreatDoorProg
set_option linter.all false
open Bool renaming and_eq_true->A1
open Go.Lib renaming atoiAll->AM,decDigits->AO,parseUint10->AY,countB_miss->AZ,splitB_zero->Aa,index_one->Ad,indexByte->Ae,IsBuilder->Af,BuilderAt->Ag,cut->Ah,countB->Aq,index->Ar
open Go.Proofs.Builder renaming Extra->AP
open Go.Proofs.Lays renaming n170->Al,n169->Am,n156->An,n145->Ao,n146->Ap
open Go.Proofs.LaysC renaming n172->Ak
open Go.Proofs.LaysM renaming n171->Ai,n316->Aj
open Go.Proofs.Tryz renaming prog->A0
open Go.Shelf renaming Ren->A2
open List renaming mem_cons_self->A3,mem_cons_of_mem->A5,all_cons->A6,take_succ_eq_append_getElem->A8,take_append_drop->A9,cons_append->AA,all_eq_true->AB,range->AC,count_eq_zero_of_not_mem->AE,takeWhile_append_of_pos->AF,map_append->AG,append_nil->AH,mem_cons->AI,range_succ->AK,sum_append->AL,map_congr_left->AN,map_cons->AQ,append_assoc->AT,filter_cons->AU,nil_append->AX,count_cons->Ab,drop_drop->Ac
open List.cons renaming injEq->A7
open Nat renaming pow_le_pow_right->AD,strongRecOn->AJ,lt_of_lt_of_le->AR,le_trans->AS
open Option renaming getD_some->AW
open Option.some renaming injEq->A4
namespace Go.Proofs.YtfmnpmhadmcdkaaGreatDoor
noncomputable section
namespace Pl
variable{c:UInt8}{m k a b:Nat}
abbrev Str:=List UInt8
def dec(n:Nat):Str:=AO n
def dch(n:Nat):UInt8:=UInt8.ofNat (48+n)
def isDig(c:UInt8):Bool:=decide (48<=c.toNat)&&decide (c.toNat<=57)
def dgt(c:UInt8):Nat:=c.toNat -48
def val(s:Str):Nat:=s.foldl (fun a c=>a*10+dgt c) 0
def canon(s:Str):Bool:=decide (s≠[])&&decide (s.length<=9)&&s.all isDig&&(decide (s.length<=1)||decide (s.head? ≠some 48))
theorem Qes{n:Nat}(h:n<10):dec n=[dch n]:=Lib.decDigits_one h
theorem Qg0{n:Nat}(h: ¬n<10):dec n=dec (n/10)++[dch (n%10)]:=by
 show AO n=_;rw[AO,dif_neg h];rfl
theorem Qfj{n:Nat}(h:n<10):(dch n).toNat=48+n:=by grind [dch,UInt8.toNat_ofNat_of_lt']
theorem dgt_dch{n:Nat}(h:n<10):dgt (dch n)=n:=by grind [dgt,Qfj]
theorem QeE(c:UInt8):isDig c=true↔48<=c.toNat/\c.toNat<=57:=by simp[isDig]
theorem QqE{n:Nat}(h:n<10):isDig (dch n)=true:=by grind [QeE,Qfj]
theorem Qr3(h:isDig c=true):dch (dgt c)=c:=by
 have h':=(QeE c).1 h;apply UInt8.toNat_inj.1
 grind [Qfj,dgt]
theorem Qr2(h:isDig c=true):dgt c<10:=by grind [QeE,dgt]
theorem QjU(s:Str)(c:UInt8):val (s++[c])=val s*10+dgt c:=by simp[val]
theorem Qno{p:Str->Prop}(h0:p [])(h1: ∀s c,p s->p (s++[c]))(s:Str):p s:=by
 have key: ∀n,∀s:Str,s.length=n->p s:=by
  intro n;induction n with
  |zero=>grind
  |succ n ih=>
   intro s hs;have hne:s≠[]:=by grind
   rw[<-List.dropLast_concat_getLast hne]
   grind
 grind
theorem QjV(n:Nat):val (dec n)=n:=by
 induction n using AJ with
 |_ n ih=>
  grind [Qes,val,dgt_dch,Qg0]
theorem Qk0{n:Nat}(h:dec m=dec n):m=n:=by grind [QjV]
theorem Qfi(n:Nat):dec n≠[]:=by
 by_cases h:n<10
 ·rw[Qes h];simp
 ·rw[Qg0 h];simp
theorem Qg1(n:Nat):(dec n).all isDig=true:=by
 induction n using AJ with
 |_ n ih=>
  grind [Qes,QqE,Qg0]
theorem Qtt(n:Nat)(h0:n≠0):(dec n).head? ≠some 48:=by
 induction n using AJ with
 |_ n ih=>
  by_cases h:n<10
  ·rw[Qes h]
   simp only[List.head?_cons,ne_eq,A4];intro e;have:=congrArg UInt8.toNat e
   grind [Qfj]
  ·rw[Qg0 h]
   have:=ih (n/10) (by omega) (by omega);have hne:=Qfi (n/10);cases hd:dec (n/10) with
   |nil=>grind
   |cons a b=>grind
theorem QcU(k n:Nat)(h:n<10^(k+1)):(dec n).length<=k+1:=by
 induction k generalizing n with
 |zero=>grind [Qes]
 |succ k ih=>
  grind [Qg0]
theorem QfO(s:Str):canon s=true↔s≠[]/\s.length<=9/\s.all isDig=true/\(s.length<=1∨s.head? ≠some 48):=by grind [canon]
theorem QlG{n:Nat}(h:n<1000000000):canon (dec n)=true:=by grind [QfO,Qfi,QcU,Qg1,Qtt]
theorem Qp7(s:Str)(h:s.all isDig=true):val s<10^s.length:=by
 induction s using Qno with
 |h0=>simp[val]
 |h1 s c ih=>
  grind [QjU,Qr2]
theorem dec_val(s:Str)(hne:s≠[])(h:s.all isDig=true)(hz:s.length<=1∨s.head? ≠some 48):dec (val s)=s:=by
 induction s using Qno with
 |h0=>grind
 |h1 s c ih=>
  rw[List.all_append] at h;simp only[A1,A6,List.all_nil,Bool.and_true] at h;have hc:=Qr2 h.2;rw[QjU]
  by_cases hs:s=[]
  ·grind [Qes,val,Qr3]
  ·have hz':s.length<=1∨s.head? ≠some 48:=by
    grind
   have hi:=ih hs h.1 hz'
   have hpos:val s≠0:=by
    intro e;rw[e,Qes (by omega)] at hi;rcases hz with hz|hz
    ·grind
    ·rw[<-hi] at hz
     exact hz (by simp;rfl)
   rw[Qg0 (by omega),show(val s*10+dgt c)/10=val s by omega,show(val s*10+dgt c)%10=dgt c by omega,hi,Qr3 h.2]
theorem QgT{s:Str}(h:canon s=true):dec (val s)=s:=by grind [QfO,dec_val]
theorem Qh0{s:Str}(h:canon s=true):val s<1000000000:=by
 obtain⟨_,h2,h3,_⟩:=(QfO s).1 h;have:=Qp7 s h3;exact AR this (AS (AD (by omega) h2) (by decide))
def numPut(n:Int):Str:=if 0<=n/\n<=999999999 then dec n.toNat else []
def numGet(s:Str):Option Nat:=if canon s then some (val s) else none
theorem Qdw{n:Nat}(h:n<1000000000):numGet (dec n)=some n:=by simp[numGet,QlG h,QjV]
theorem Qdz{s:Str}{n:Nat}(h:numGet s=some n):s=dec n/\n<1000000000:=by grind [numGet,QgT,Qh0]
theorem Qim{s:Str}(h:numGet s=none)(n:Nat)(hn:n<1000000000):s≠dec n:=by grind [Qdw]
def item(s:Str):Str:=dec s.length++(58::s)
def enc(l:List Str):Str:=l.flatMap item
theorem Qrn:enc []=[]:=rfl
theorem QeO(x:Str)(l:List Str):enc (x::l)=item x++enc l:=rfl
theorem Qfe(a b:List Str):enc (a++b)=enc a++enc b:=by simp[enc]
theorem Qhq(x:Str):enc [x]=item x:=by simp[enc]
theorem QlD: ∀{a b x y:Str},a.all isDig=true->b.all isDig=true->a++58::x=b++58::y->a=b/\x=y
 |[],[],x,y,_,_,h=>by grind
 |[],c::b,x,y,_,hb,h=>by
  simp only[AX,AA,A7] at h;simp only[A6,A1] at hb;rw[<-h.1] at hb;exact absurd hb.1 (by decide)
 |c::a,[],x,y,ha,_,h=>by
  simp only[AX,AA,A7] at h;simp only[A6,A1] at ha;rw[h.1] at ha;exact absurd ha.1 (by decide)
 |c::a,d::b,x,y,ha,hb,h=>by
  simp only[AA,A7] at h;simp only[A6,A1] at ha hb;obtain⟨h1,h2⟩:=QlD ha.2 hb.2 h.2
  grind
theorem QsX{a b x y:Str}(h:item a++x=item b++y):a=b/\x=y:=by grind [item,QlD,Qg1,Qk0,List.append_inj]
def Qfz(s:Str):item s≠[]:=by unfold item;simp
theorem Qhr: ∀{a b:List Str} {r:Str},enc b=enc a++r-> ∃c,b=a++c/\enc c=r
 |[],b,r,h=>⟨b,rfl,by grind [Qrn]⟩
 |x::a,[],r,h=>by
  simp_all[Qrn,QeO,Qfz]
 |x::a,y::b,r,h=>by
  rw[QeO,QeO,AT] at h;obtain⟨h1,h2⟩:=QsX h;obtain⟨c,h3,h4⟩:=Qhr h2
  grind
theorem Qro{a b:List Str}(h:enc a=enc b):a=b:=by
 obtain⟨c,h1,h2⟩:=Qhr (a:=b) (b:=a) (r:=[]) (by grind);cases c with
 |nil=>grind
 |cons x c=>rw[QeO] at h2;exact absurd (List.append_eq_nil_iff.1 h2).1 (Qfz x)
theorem Qkx(l:List Str)(k:Nat)(h:k<l.length):enc (l.take (k+1))=enc (l.take k)++item l[k]:=by
 rw[A8 h,Qfe,Qhq]
theorem QmP(l:List Str)(k:Nat):(enc (l.take k)).length<=(enc l).length:=by grind [A9,Qfe]
theorem Qgv(x:Str):(item x).length=(dec x.length).length+1+x.length:=by grind [item]
def Qdb(l:List Str):Option Str:=if l.length<=60/\(enc l).length<=2048 then some (enc l) else none
def IsRec(s:Str)(l:List Str):Prop:=l.length<=60/\s.length<=2048/\enc l=s
def QhA{s:Str}{a b:List Str}(ha:IsRec s a)(hb:IsRec s b):a=b:=Qro (ha.2.2.trans hb.2.2.symm)
theorem Qgi{l:List Str}{s:Str}:Qdb l=some s↔IsRec s l:=by grind [Qdb,IsRec]
theorem QeQ{l:List Str}(h:2048<(enc (l.take k)).length):Qdb l=none:=by grind [Qdb,QmP]
theorem Qjf{l:List Str}(hk:k<l.length)(h:2048<l[k].length):Qdb l=none:=by
 refine QeQ (k:=k+1) ?_
 grind [Qkx,Qgv]
theorem Qgj{l:List Str}(h:60<l.length):Qdb l=none:=by unfold Qdb;grind
theorem QhE{l:List Str}(h:l.length<=60)(h2:(enc l).length<=2048):Qdb l=some (enc l):=by unfold Qdb;grind
variable{out:List Str}{r:Str}
theorem QjZ{s:Str}{l:List Str}(h:IsRec s l)(e:s=enc out++r): ∃c,l=out++c/\enc c=r:=by
 exact Qhr (a:=out) (b:=l) (r:=r) (by rw[h.2.2,e])
def digs(s:Str):Str:=(s.takeWhile isDig).take 9
def l1num(s:Str):Nat×Nat:=if 1<(digs s).length/\s.head? =some 48 then(0,1) else(val (digs s),(digs s).length)
theorem Qkz(s:Str):(digs s).all isDig=true:=by
 rw[AB];intro x hx;have:=List.all_takeWhile (p:=isDig) (l:=s);rw[AB] at this;exact this x (List.mem_of_mem_take hx)
theorem QnS(s:Str):(digs s).length<=9:=by grind [digs]
theorem Qf4(s:Str):digs s=s.take (digs s).length:=by
 unfold digs;rw[List.length_take];have h:s.takeWhile isDig<+:s:=List.takeWhile_prefix _;have h2:(s.takeWhile isDig).take 9<+:s:=(List.take_prefix _ _).trans h;rw[List.prefix_iff_eq_take.1 h2];simp
theorem Qrz{d:Str}(hd:d.all isDig=true)(hl:d.length<=9)(hr: ∀c,r.head? =some c->isDig c=false):digs (d++r)=d:=by
 unfold digs
 have h1:(d++r).takeWhile isDig=d:=by
  rw[AF (by grind)];cases r with
  |nil=>simp
  |cons c r=>simp_all
 rw[h1,List.take_of_length_le hl]
theorem Qr0(s:Str)(h:0<(digs s).length):(digs s).head? =s.head? :=by
 rw[Qf4 s];cases s with
 |nil=>simp
 |cons a b=>
  have:(digs (a::b)).length=(digs (a::b)).length -1+1:=by omega
  grind
theorem Qr1{s:Str}(hk:k<=s.length)(hall:(s.take k).all isDig=true)(h9:k<=9)(hx:k=9∨ ∀c,s[k]? =some c->isDig c=false):digs s=s.take k:=by
 have hlen:(s.take k).length=k:=by grind
 rcases hx with rfl|hx
 ·unfold digs
  have h1:s.takeWhile isDig=s.take 9++(s.drop 9).takeWhile isDig:=by
   grind [A9,AF]
  grind
 ·have:=Qrz (d:=s.take k) (r:=s.drop k) hall (by omega) (by simp_all)
  simp_all
def Qsm(s:Str)(k:Nat)(h:k<s.length):val (s.take (k+1))=val (s.take k)*10+dgt s[k]:=by
 rw[A8 h,QjU]
theorem QsU(s:Str):(l1num s).2<=9/\(l1num s).2<=s.length:=by grind [digs,Qf4,l1num]
def QsT(s:Str):(l1num s).1<1000000000:=by
 unfold l1num;split
 ·simp
 ·exact AR (Qp7 _ (Qkz s)) (AS (AD (by omega) (QnS s)) (by decide))
theorem Ql1{n:Nat}(h:n<1000000000)(hr: ∀c,r.head? =some c->isDig c=false):l1num (dec n++r)=(n,(dec n).length):=by
 obtain⟨h1,h2,h3,h4⟩:=(QfO _).1 (QlG h);have hd:digs (dec n++r)=dec n:=Qrz h3 h2 hr;unfold l1num;rw[hd,if_neg,QjV];rintro⟨ha,hb⟩;rcases h4 with h4|h4
 ·omega
 simp_all
theorem Qjz{s:Str}{n:Nat}(h:l1num s=(n,k))(hk:0<k)(hend: ∀c,s[k]? =some c->isDig c=false):s.take k=dec n/\n<1000000000:=by
 unfold l1num at h;split at h
 ·rename_i hc
  injection h with h1 h2;subst h1;subst h2;exfalso;have hp:=Qf4 s
  have h1:s[1]? =(digs s)[1]? :=by
   grind
  grind [Qkz]
 grind [Qr0,QfO,QnS,Qkz,Qf4,QgT,Qh0]
theorem Qlk(s:Str):numGet s=if(l1num s).2=0∨(l1num s).2≠s.length then none else some (l1num s).1:=by
 cases h:numGet s with
 |some n=>
  obtain⟨h1,h2⟩:=Qdz h;have h3:=Ql1 (r:=[]) h2 (by simp)
  grind [Qfi]
 |none=>
  split
  ·rfl
  ·rename_i hh
   exfalso
   have hb:=Qjz (s:=s) (n:=(l1num s).1) (k:=(l1num s).2) rfl (by omega) (by
    grind)
   grind [Qim]
theorem Qij{c:List Str}(hc:enc c=r)(hr:r≠[]): ∃x c',c=x::c'/\r=dec x.length++58::(x++enc c'):=by
 cases c with
 |nil=>exact absurd hc.symm hr
 |cons x c'=>grind [QeO,item]
theorem QgW: ∀c:UInt8,(some (58:UInt8))=some c->isDig c=false:=by
 intro c h;injection h with h;subst h;decide
theorem l1_step{n:Nat}(h:l1num r=(n,k))(hk:0<k)(hc:r[k]? =some 58)(hn:n<=r.length -k -1):
 r=item ((r.drop (k+1)).take n)++r.drop (k+1+n):=by
 obtain⟨h1,_⟩:=Qjz h hk (by grind [QgW])
 grind [item,Ac,A9,List.drop_eq_getElem_cons]
theorem l1_fail{c:List Str}{n:Nat}(hs:r.length<=2048)(hr:r≠[])(h:l1num r=(n,k))(hf:k=0∨r[k]? ≠some 58∨r.length -k -1<n):enc c≠r:=by
 intro hc;obtain⟨x,c',_,e⟩:=Qij hc hr
 grind [Ql1,QgW,Qfi]
variable{num tail:Str}
theorem Qtu{n:Nat}(h:numGet num=some n)(hn:n<=tail.length):num++58::tail=item (tail.take n)++tail.drop n:=by
 obtain⟨h1,_⟩:=Qdz h;unfold item
 simp_all
theorem Qtv{c:List Str}(hs:(num++58::tail).length<=2048)(hnum:(58:UInt8)∉num)(hf:numGet num=none∨ ∃n,numGet num=some n/\tail.length<n):enc c≠num++58::tail:=by
 intro hc;obtain⟨x,c',_,e⟩:=Qij hc (by simp)
 have hx:x.length<=2048:=by
  grind
 have hnum':(58:UInt8)∉dec x.length:=by
  intro hm;have:=AB.1 (Qg1 x.length) _ hm;exact absurd this (by decide)
 have key: ∀{a b x y:Str},(58:UInt8)∉a->(58:UInt8)∉b->a++58::x=b++58::y->a=b/\x=y:=by
  intro a;induction a with
  |nil=>
   intro b x y _ hb h;cases b with
   |nil=>grind
   |cons c b=>grind
  |cons c a ih=>
   intro b x y ha hb h;cases b with
   |nil=>grind
   |cons d b=>
    grind
 obtain⟨h1,h2⟩:=key hnum hnum' e;rcases hf with hf|⟨n,hf,hlt⟩
 ·grind [Qim]
 ·obtain⟨h3,_⟩:=Qdz hf
  grind [Qk0]
theorem Qlm{c:List Str}(hr:r≠[])(h:(58:UInt8)∉r):enc c≠r:=by
 intro hc;obtain⟨x,c',_,e⟩:=Qij hc hr
 grind
theorem QpX{s:Str}{n:Nat}(hs:s.length<=2048)(hk:k<s.length)(ho:s=enc out++s.drop k)(h:l1num (s.drop k)=(n,m))(hf:m=0∨(s.drop k)[m]? ≠some 58∨(s.drop k).length -m -1<n): ∀l,¬IsRec s l:=by
 intro l hl;obtain⟨c,_,hc⟩:=QjZ hl ho;refine l1_fail (r:=s.drop k) (by grind) (fun e=>?_) h hf hc
 grind
theorem QpW{s:Str}{n:Nat}(ho:s=enc out++s.drop k)(h:l1num (s.drop k)=(n,m))(hm:0<m)(hc:(s.drop k)[m]? =some 58)(hn:n<=(s.drop k).length -m -1):
 s=enc (out++[((s.drop (k+m+1)).take n)])++s.drop (k+m+1+n):=by
 have h1:=l1_step h hm hc hn
 grind [Ac,Qfe,Qhq]
def sumStep(p:Nat×Nat)(c:UInt8):Nat×Nat:=((p.1+c.toNat+1)%9973,(p.2+(p.1+c.toNat+1)%9973)%9973)
def sum2(s:Str):Nat×Nat:=s.foldl sumStep (1,0)
def sumOf(s:Str):Nat:=(sum2 s).1*9973+(sum2 s).2
def QkQ(s:Str)(c:UInt8):sum2 (s++[c])=sumStep (sum2 s) c:=by simp[sum2]
structure Ptr where
 pat:Int
 birth:Int
 size:Int
 sum:Int
 level:Int
 deriving DecidableEq
def hole:Ptr:=⟨0,0,0,0,0⟩
def ptrHole(p:Ptr):Bool:=decide (p=hole)
def rowOk(n:Int):Bool:=decide (8<=n)&&decide (n<=63)
def ptrOk(p:Ptr):Bool:=ptrHole p||(rowOk p.pat&&(decide (1<=p.birth)&&decide (p.birth<=900))&&(decide (1<=p.size)&&decide (p.size<=128))&&(decide (0<=p.sum)&&decide (p.sum<=99460728))&&(decide (0<=p.level)&&decide (p.level<=2)))
def dots(l:List Str):Str:=(l.intersperse [46]).flatten
def ptrText(p:Ptr):Str:=dots [dec p.pat.toNat,dec p.birth.toNat,dec p.size.toNat,dec p.sum.toNat,dec p.level.toNat]
def ptrPut(p:Ptr):Str:=if ptrOk p then(if ptrHole p then [45] else ptrText p) else []
variable{p:Ptr}
theorem Qdx(h:ptrOk p=true):(0<=p.pat/\p.pat<=63)/\(0<=p.birth/\p.birth<=900)/\(0<=p.size/\p.size<=128)/\(0<=p.sum/\p.sum<=99460728)/\(0<=p.level/\p.level<=2):=by
 unfold ptrOk ptrHole rowOk at h;simp only[Bool.or_eq_true,A1,decide_eq_true_eq] at h;rcases h with rfl|h
 ·decide
 ·omega
theorem nine(n:Int)(h0:0<=n)(h1:n<=999999999):n.toNat<1000000000/\numPut n=dec n.toNat:=by grind [numPut]
def cutB(b:UInt8):Str->List Str
 |[]=>[[]]
 |c::r=>if c=b then []::cutB b r else
  match cutB b r with
  |h::t=>(c::h)::t
  |[]=>[[c]]
theorem Qhu(b:UInt8): ∀s:Str,cutB b s≠[]
 :=by intro l;induction l<;>grind [cutB]
theorem Qeb(b:UInt8): ∀(a r:Str),b∉a->cutB b (a++b::r)=a::cutB b r
 :=by intro l;induction l<;>grind [cutB]
theorem Qe1(b:UInt8): ∀(a:Str),b∉a->cutB b a=[a]
 :=by intro l;induction l<;>grind [cutB]
theorem QgV(b:UInt8): ∀s:Str,((cutB b s).intersperse [b]).flatten=s
 |[]=>by simp[cutB]
 |c::r=>by
  have ih:=QgV b r;have hne:=Qhu b r;unfold cutB;split
  ·rename_i h
   cases hd:cutB b r with
   |nil=>grind
   |cons x y=>simp_all
  ·cases hd:cutB b r with
   |nil=>grind
   |cons x y=>
    rw[hd] at ih;cases y with
    |nil=>simp_all
    |cons z y=>simp_all
theorem QmR(n:Nat):(46:UInt8)∉dec n:=by
 intro hm;have:=AB.1 (Qg1 n) _ hm;exact absurd this (by decide)
theorem Qts(a b c d e:Nat):cutB 46 (dots [dec a,dec b,dec c,dec d,dec e])=[dec a,dec b,dec c,dec d,dec e]:=by
 have:dots [dec a,dec b,dec c,dec d,dec e]=dec a++46::(dec b++46::(dec c++46::(dec d++46::dec e))):=by simp[dots]
 grind [Qeb,QmR,Qe1]
theorem Qry{s:Str}{l:List Str}(h:cutB 46 s=l):dots l=s:=by grind [dots,QgV]
def IsPtr(s:Str)(p:Ptr):Prop:=ptrOk p=true/\ptrPut p=s
def Qj4:IsPtr [45] hole:=⟨by decide,by decide⟩
theorem Qik(p:Ptr):cutB 46 (ptrText p)=[dec p.pat.toNat,dec p.birth.toNat,dec p.size.toNat,dec p.sum.toNat,dec p.level.toNat]:=Qts _ _ _ _ _
theorem Qo4(p:Ptr):ptrText p≠[45]:=by grind [Qik,cutB]
theorem Qj3{s:Str}(h:IsPtr s p)(hs:s≠[45]):ptrHole p=false/\s=ptrText p/\cutB 46 s=[dec p.pat.toNat,dec p.birth.toNat,dec p.size.toNat,dec p.sum.toNat,dec p.level.toNat]:=by
 obtain⟨h1,h2⟩:=h
 grind [ptrPut,Qik]
theorem Qi3(h:IsPtr [45] p):p=hole:=by
 obtain⟨h1,h2⟩:=h
 grind [ptrPut,ptrHole,Qo4]
theorem Qfd{s:Str}(h:IsPtr s p)(hs:s≠[45]):
 cutB 46 s=[dec p.pat.toNat,dec p.birth.toNat,dec p.size.toNat,dec p.sum.toNat,dec p.level.toNat]/\
 p.pat.toNat<1000000000/\p.birth.toNat<1000000000/\p.size.toNat<1000000000/\p.sum.toNat<1000000000/\p.level.toNat<1000000000/\
 p=⟨p.pat.toNat,p.birth.toNat,p.size.toNat,p.sum.toNat,p.level.toNat⟩:=by
 obtain⟨_,_,h3⟩:=Qj3 h hs;have hb:=Qdx h.1;refine⟨h3,by omega,by omega,by omega,by omega,by omega,?_⟩;cases p
 grind
theorem Ql2{s:Str}{q:Ptr}(hp:IsPtr s p)(hq:IsPtr s q):p=q:=by
 by_cases hs:s=[45]
 ·grind [Qi3]
 ·obtain⟨a1,_,_,_,_,_,a2⟩:=Qfd hp hs
  obtain⟨b1,_,_,_,_,_,b2⟩:=Qfd hq hs
  grind [Qk0]
theorem Qo3{s:Str}{c d e:Nat}(h:cutB 46 s=[dec a,dec b,dec c,dec d,dec e]):ptrText ⟨a,b,c,d,e⟩=s:=by
 rw[<-Qry h];rfl
def Qqb{s:Str}(hs:s≠[45])(h:(cutB 46 s).length≠5): ∀p,¬IsPtr s p:=fun p hp=>h (by rw[(Qfd hp hs).1];rfl)
theorem Qqa{s:Str}(hs:s≠[45])(hk:k<(cutB 46 s).length)(h:numGet (cutB 46 s)[k]=none): ∀p,¬IsPtr s p:=by
 intro p hp;obtain⟨h1,h2,h3,h4,h5,h6,_⟩:=Qfd hp hs
 have key: ∀x∈cutB 46 s,∃n,numGet x=some n:=by
  rw[h1];intro x hx;simp only[AI,List.not_mem_nil,or_false] at hx
  grind [Qdw]
 grind [List.getElem_mem]
theorem Qnu{s:Str}{c d e:Nat}(hs:s≠[45])(h:cutB 46 s=[dec a,dec b,dec c,dec d,dec e])(hp:IsPtr s p):p=⟨a,b,c,d,e⟩:=by
 obtain⟨h1,_,_,_,_,_,h2⟩:=Qfd hp hs
 grind [Qk0]
theorem ptr_bad{s:Str}{c d e:Nat}(hs:s≠[45])(h:cutB 46 s=[dec a,dec b,dec c,dec d,dec e])(hb:ptrOk ⟨a,b,c,d,e⟩=false∨ptrHole ⟨a,b,c,d,e⟩=true): ∀p,¬IsPtr s p:=by
 intro p hp;have e1:=Qnu hs h hp;rcases hb with hb|hb
 ·rw[<-e1,hp.1] at hb;cases hb
 grind [Qj3]
theorem QsB{s:Str}{c d e:Nat}(h:cutB 46 s=[dec a,dec b,dec c,dec d,dec e])(h1:ptrOk ⟨a,b,c,d,e⟩=true)(h2:ptrHole ⟨a,b,c,d,e⟩=false):IsPtr s ⟨a,b,c,d,e⟩:=by
 refine⟨h1,?_⟩
 grind [ptrPut,Qo3]
structure Tree where
 root:Ptr
 depth:Int
 many:Int
 deriving DecidableEq
structure Root where
 txg:Int
 tree:Tree
 deriving DecidableEq
def inR(n a b:Int):Bool:=decide (a<=n)&&decide (n<=b)
def rootOk(r:Root):Bool:=inR r.txg 1 900&&ptrOk r.tree.root&&inR r.tree.depth 0 2&&inR r.tree.many 1 16
def Qe4(t:Tree):List Str:=[ptrPut t.root,numPut t.depth,numPut t.many]
def fp(l:List Str):Str:=(Qdb l).getD []
def signed(f:List Str):Str:=fp (f++[dec (sumOf (fp f))])
def Qo1(r:Root):List Str:=[114,111,111,116]::numPut r.txg::Qe4 r.tree
def rootPut(r:Root):Str:=if rootOk r then signed (Qo1 r) else []
def IsRoot(s:Str)(r:Root):Prop:=rootOk r=true/\rootPut r=s/\s≠[]
theorem fp_some{l:List Str}{s:Str}(h:fp l=s)(hs:s≠[]):IsRec s l:=by
 unfold fp at h;cases hf:Qdb l with
 |none=>grind
 |some t=>rw[hf] at h;have ht:t=s:=h;rw[ht] at hf;exact Qgi.1 hf
abbrev Wait:=Int×Str
abbrev Disk:=List Str×List Wait×Bool
open Classical in
def later(s:Str)(txg:Int):Bool:=decide (∃r,IsRoot s r/\txg<r.txg)
def Qjo: ∀(l:Str) (acc k:Nat),l.all isDig=true->acc<10^k->k+l.length<=18->AY acc l= .ok (l.foldl (fun a c=>a*10+dgt c) acc)
 |[],acc,k,_,_,_=>rfl
 |c::r,acc,k,h,ha,hk=>by
  simp only[A6,A1] at h;simp only[List.length_cons] at hk;have hc:=(QeE c).1 h.1;have hd:=Qr2 h.1;have hp:10^k<=10^17:=AD (by omega) (by omega);have h17:(10:Nat)^17=100000000000000000:=by decide
  have e:c.toNat -48=dgt c:=rfl;rw[AY,if_pos hc,if_neg (by omega),e,if_neg (by omega),List.foldl_cons];exact Qjo r _ (k+1) h.2 (by omega) (by omega)
theorem Qof(n:Nat)(h:n<1000000000):AM (dec n)= .ok (n:Int):=by
 have h9:=QcU 8 n (by omega);have hall:=Qg1 n;have hv:=QjV n;have hne:=Qfi n;cases hd:dec n with
 |nil=>grind
 |cons c r=>
  rw[hd] at h9 hall hv;have hcr:=hall;simp only[A6,A1] at hcr;have hc:=(QeE c).1 hcr.1;unfold AM Lib.parseMag;simp only;rw[if_neg (show ¬(c.toNat=43∨c.toNat=45) by omega),if_neg (by simp),Qjo (c::r) 0 0 hall (by simp) (by omega)];have:List.foldl (fun a c=>a*10+dgt c) 0 (c::r)=n:=hv
  grind
theorem Qjq{v:Int}{s:Str}(h:numPut v=s)(hs:s≠[]):0<=v/\v<=999999999/\s=dec v.toNat:=by grind [numPut]
theorem Qqm{s:Str}{v:Int}(h:AM s= .ok v):numGet s=if numPut v=s then some v.toNat else none:=by
 have hs:s≠[]:=by rintro rfl;cases h
 by_cases hp:numPut v=s
 ·obtain⟨h0,h1,rfl⟩:=Qjq hp hs
  grind [Qdw]
 ·rw[if_neg hp]
  cases hg:numGet s with
  |none=>rfl
  |some n=>
   obtain⟨rfl,hn⟩:=Qdz hg
   grind [Qof,numPut]
theorem QoA{s:Str}(h: ∀v,AM s≠ .ok v):numGet s=none:=by
 cases hg:numGet s with
 |none=>rfl
 |some n=>
  obtain⟨rfl,hn⟩:=Qdz hg
  grind [Qof]
def Qmn{s:Str}(h:9<s.length):numGet s=none:=by
 cases hg:numGet s with
 |none=>rfl
 |some n=>
  obtain⟨rfl,hn⟩:=Qdz hg;have:=QcU 8 n (by omega);omega
theorem Qko{l:Str}(h:c∉l):Ar l [c]= -1:=by
 rw[Ad];induction l with
 |nil=>rfl
 |cons b l ih=>
  grind [Ae]
theorem QqG: ∀{a r:Str} {c:UInt8},c∉a->Ar (a++c::r) [c]=a.length
 :=by intro l;induction l<;>grind [Ad,Ae]
theorem QeC{c:UInt8}: ∀{l:Str},c∈l-> ∃a r,l=a++c::r/\c∉a
 |b::l,h=>by
  by_cases hb:c=b
  ·subst hb;exact⟨[],l,rfl,by simp⟩
  ·obtain⟨a,r,rfl,ha⟩:=QeC (List.mem_of_ne_of_mem hb h)
   grind
theorem Qht{a:Str}(h:c∉a):Ah (a++c::r) [c]=(a,r,true):=by
 unfold Ah;rw[QqG h,if_pos (by omega)];simp
theorem QhS{s:Str}(h:c∉s):Ah s [c]=(s,[],false):=by grind [Ah,Qko]
def ba(s:Str):ByteArray:=⟨s.toArray⟩
theorem Qg3(s:Str):(ba s).data.toList=s:=by simp[ba]
theorem Qud(s:Str)(a b:Nat):(ba s).extract a b=ba ((s.take b).drop a):=by
 apply ByteArray.ext;unfold ba;rw[ByteArray.data_extract]
 grind
def Qhw(s:Str):(ba s).size=s.length:=by show s.toArray.size=_;simp
theorem QkV(c:UInt8): ∀(n:Nat) (s:Str),s.length<=n->Lib.splitB (ba [c]) 0 (Aq (ba s) (ba [c])) (ba s)=(cutB c s).map ba/\Aq (ba s) (ba [c])+1=(cutB c s).length:=by
 intro n;induction n with
 |zero=>
  grind [Qg3,Qko,AZ,Aa,Qe1]
 |succ n ih=>
  intro s hs
  by_cases hm:c∈s
  ·obtain⟨a,r,rfl,ha⟩:=QeC hm
   have hi:Lib.indexB (ba (a++c::r)) (ba [c])=a.length:=by grind [Qg3,QqG]
   have h1:(ba [c]).size=1:=by rw[Qhw];rfl
   have hr:(ba (a++c::r)).extract (a.length+(ba [c]).size) (ba (a++c::r)).size=ba r:=by
    rw[Qud,h1,Qhw,List.take_length,List.drop_append,List.drop_of_length_le (by omega)];simp
   have h0:(ba (a++c::r)).extract 0 (a.length+0)=ba a:=by rw[Qud];simp
   obtain⟨i1,i2⟩:=ih r (by grind);rw[Lib.countB_hit _ _ a.length (by omega) hi,hr,Qeb c a r ha,Nat.add_comm 1,Lib.splitB_hit _ _ _ _ _ hi,hr,h0,i1]
   grind
  grind [Qg3,Qko,AZ,Aa,Qe1]
theorem QqB(l:List Str):Lib.join ((l.map ba).map (·.data.toList)) (ba [46]).data.toList=dots l:=by
 rw[List.map_map,Qg3];have:(fun x:ByteArray=>x.data.toList) ∘ ba=id:=by grind [Qg3]
 rw[this,List.map_id];rfl
variable{rest:Str}
theorem Qtg{s:Str}(ho:s=enc out++rest)(hr:rest≠[])(h:60<=out.length): ∀l,¬IsRec s l:=by
 intro l hl;obtain⟨c,rfl,hc⟩:=QjZ hl ho;have:c≠[]:=by rintro rfl;exact hr hc.symm
 have h1:=hl.1;have h2:0<c.length:=List.length_pos_iff.2 this
 grind
theorem QmF{s:Str}(ho:s=enc out++rest)(hr:rest≠[])(h:(58:UInt8)∉rest): ∀l,¬IsRec s l:=by grind [QjZ,Qlm]
theorem QqN{s:Str}(hs:s.length<=2048)(ho:s=enc out++(num++58::tail))(hn:(58:UInt8)∉num)(hf:numGet num=none∨ ∃n,numGet num=some n/\tail.length<n): ∀l,¬IsRec s l:=by grind [QjZ,Qtv]
theorem Qtf{s:Str}{n:Nat}(ho:s=enc out++(num++58::tail))(h:numGet num=some n)(hn:n<=tail.length):s=enc (out++[tail.take n])++tail.drop n:=by grind [Qtu,Qfe,Qhq]
end Pl
end
end Go.Proofs.YtfmnpmhadmcdkaaGreatDoor
namespace Go.Proofs
open Go.Shelf
def Tryz.lays170_ren:A2:=⟨fun|170=>192|n=>n,fun|70=>123|3=>3|0=>0|72=>125|37=>22|5=>5|n=>n,fun|n=>n⟩
def Tryz.lays170:Al A0 Tryz.lays170_ren:=by repeat' first|kernel_rfl|decide|(intros;kernel_rfl)|constructor
def Tryz.Builder_Len:=Any.Builder_Len Tryz.lays170
def Tryz.lays169_ren:A2:=⟨fun|169=>70|n=>n,fun|70=>123|9=>9|0=>0|72=>125|37=>22|127=>179|3=>3|5=>5|n=>n,fun|n=>n⟩
def Tryz.lays169:Am A0 Tryz.lays169_ren:=by repeat' first|kernel_rfl|decide|(intros;kernel_rfl)|constructor
def Tryz.Builder_Extra_169:AP A0 Tryz.lays169_ren:=by repeat' first|kernel_rfl|decide|(intros;kernel_rfl)|constructor
def Tryz.Builder_String_any:=Any.Builder_String_any Tryz.lays169 Tryz.Builder_Extra_169
def Tryz.lays156_ren:A2:=⟨fun|156=>111|165=>182|166=>69|169=>70|240=>120|241=>243|276=>193|277=>289|n=>n,fun|31=>23|9=>9|3=>3|4=>4|0=>0|20=>20|72=>125|76=>131|70=>123|37=>22|75=>130|127=>179|164=>233|5=>5|80=>133|n=>n,fun|n=>n⟩
def Tryz.lays156:An A0 Tryz.lays156_ren:=by repeat' first|kernel_rfl|decide|(intros;kernel_rfl)|constructor
def Tryz.Builder_Extra_156:AP A0 Tryz.lays156_ren:=by repeat' first|kernel_rfl|decide|(intros;kernel_rfl)|constructor
def Tryz.strings_Join_none:=Any.strings_Join_none Tryz.lays156 Tryz.Builder_Extra_156
def Tryz.strings_Join:=Any.strings_Join Tryz.lays156 Tryz.Builder_Extra_156
def Tryz.laysM171_ren:A2:=⟨fun|171=>288|243=>311|246=>317|283=>320|284=>321|285=>322|286=>323|129=>266|317=>324|318=>325|319=>326|320=>327|337=>328|338=>329|n=>n,fun|3=>3|9=>9|2=>2|4=>4|171=>331|0=>0|53=>271|37=>22|5=>5|173=>333|212=>336|51=>264|20=>20|213=>337|46=>218|232=>338|233=>339|n=>n,fun|17=>5|18=>6|19=>7|n=>n⟩
def Tryz.laysM171:Ai A0 Tryz.laysM171_ren:=by repeat' first|kernel_rfl|decide|(intros;kernel_rfl)|constructor
def Tryz.strconv_Itoa:=Any.strconv_Itoa Tryz.laysM171
def Tryz.laysM316_ren:A2:=⟨fun|316=>242|n=>n,fun|9=>9|3=>3|4=>4|37=>22|0=>0|127=>179|5=>5|n=>n,fun|n=>n⟩
def Tryz.laysM316:Aj A0 Tryz.laysM316_ren:=by repeat' first|kernel_rfl|decide|(intros;kernel_rfl)|constructor
def Tryz.stringslite_Clone:=Any.stringslite_Clone Tryz.laysM316
def Tryz.laysC172_ren:A2:=⟨fun|172=>240|244=>286|245=>287|247=>306|279=>307|280=>308|281=>309|282=>310|287=>315|316=>242|171=>288|205=>316|321=>318|322=>319|243=>311|246=>317|283=>320|284=>321|285=>322|286=>323|129=>266|317=>324|318=>325|319=>326|320=>327|337=>328|338=>329|n=>n,fun|9=>9|3=>3|75=>130|76=>131|4=>4|5=>5|167=>307|37=>22|0=>0|85=>308|2=>2|168=>310|53=>271|175=>317|46=>218|210=>320|127=>179|145=>330|143=>328|21=>21|171=>331|173=>333|212=>336|51=>264|20=>20|213=>337|232=>338|233=>339|80=>133|n=>n,fun|15=>1|16=>2|17=>5|18=>6|19=>7|n=>n⟩
def Tryz.laysC172:Ak A0 Tryz.laysC172_ren:=by repeat' first|kernel_rfl|decide|(intros;kernel_rfl)|constructor
def Tryz.strconv_Atoi_ok:=Any.strconv_Atoi_ok Tryz.laysC172
def Tryz.strconv_Atoi_syntax:=Any.strconv_Atoi_syntax Tryz.laysC172
def Tryz.strconv_Atoi_range:=Any.strconv_Atoi_range Tryz.laysC172
def Tryz.lays145_ren:A2:=⟨fun|145=>178|220=>239|219=>102|217=>171|225=>172|224=>173|267=>174|266=>237|314=>238|n=>n,fun|9=>9|4=>4|59=>219|3=>3|5=>5|46=>218|146=>265|51=>264|n=>n,fun|1=>0|n=>n⟩
def Tryz.lays145:Ao A0 Tryz.lays145_ren:=by repeat' first|kernel_rfl|decide|(intros;kernel_rfl)|constructor
def Tryz.strings_Cut:=Any.strings_Cut Tryz.lays145
def Tryz.lays146_ren:A2:=⟨fun|146=>141|221=>208|268=>276|138=>277|143=>49|195=>302|197=>303|218=>304|219=>102|260=>314|217=>171|225=>172|224=>173|267=>174|266=>237|314=>238|n=>n,fun|9=>9|31=>23|3=>3|4=>4|0=>0|105=>305|21=>21|5=>5|46=>218|119=>323|139=>326|138=>325|146=>265|51=>264|n=>n,fun|1=>0|3=>3|4=>4|n=>n⟩
def Tryz.lays146:Ap A0 Tryz.lays146_ren:=by repeat' first|kernel_rfl|decide|(intros;kernel_rfl)|constructor
def Tryz.strings_Split:=Any.strings_Split Tryz.lays146 (by kernel_rfl)
def Tryz.laysB_ren:A2:=⟨fun|167=>292|n=>Tryz.lays156_ren.f n,Tryz.lays156_ren.t,Tryz.lays156_ren.g⟩
def Tryz.lays166:Lays.n166 A0 Tryz.lays156_ren:={Tryz.lays156 with}
def Tryz.lays167:Lays.n167 A0 Tryz.laysB_ren:={
 mixed:=by kernel_rfl
 f167:=Tryz.func292.trans (congrArg some (by kernel_rfl))
 f240:=Tryz.lays156.f240
 f276:=Tryz.lays156.f276
 t0:=Tryz.lays156.t0
 a0:=Tryz.lays156.a0
 z0:=Tryz.lays156.z0
 v0:=Tryz.lays156.v0
 t4:=Tryz.lays156.t4
 a4:=Tryz.lays156.a4
 z4:=Tryz.lays156.z4
 v4:=Tryz.lays156.v4
 t5:=Tryz.Builder_Extra_156.t5
 a5:=Tryz.Builder_Extra_156.a5
 z5:=Tryz.Builder_Extra_156.z5
 v5:=Tryz.Builder_Extra_156.v5
 t9:=Tryz.lays156.t9
 a9:=Tryz.lays156.a9
 z9:=Tryz.lays156.z9
 v9:=Tryz.lays156.v9
 t20:=Tryz.lays156.t20
 a20:=Tryz.lays156.a20
 z20:=Tryz.lays156.z20
 v20:=Tryz.lays156.v20
 t37:=Tryz.lays156.t37
 a37:=Tryz.lays156.a37
 z37:=Tryz.lays156.z37
 v37:=Tryz.lays156.v37
 t70:=Tryz.lays156.t70
 a70:=Tryz.lays156.a70
 z70:=Tryz.lays156.z70
 v70:=Tryz.lays156.v70
 t72:=Tryz.lays156.t72
 a72:=Tryz.lays156.a72
 z72:=Tryz.lays156.z72
 v72:=Tryz.lays156.v72
 t75:=Tryz.lays156.t75
 a75:=Tryz.lays156.a75
 z75:=Tryz.lays156.z75
 v75:=Tryz.lays156.v75
 t164:=Tryz.lays156.t164
 a164:=Tryz.lays156.a164
 z164:=Tryz.lays156.z164
 v164:=Tryz.lays156.v164}
def Tryz.Builder_Extra_B:AP A0 Tryz.laysB_ren:={
 sizeBuilder:=by kernel_rfl
 liesBuilder:=by kernel_rfl
 t5:=Tryz.Builder_Extra_156.t5
 a5:=Tryz.Builder_Extra_156.a5
 z5:=Tryz.Builder_Extra_156.z5
 v5:=Tryz.Builder_Extra_156.v5
 infoByte:=by kernel_rfl
 cellsByte:=by kernel_rfl
 sizeByte:=by kernel_rfl
 neB5:=by decide}
open Go.RowKit in
def Tryz.Builder_WriteString(B b:Nat)(bs:List Value)(s:ByteArray)(w:World)(h:Af 125 5 B b bs w)(hlen:bs.length+s.size<=140737488355328)(hBw:B<=w.heap.size):
 Calls A0 69 #[.pointer (some ⟨b,0,none⟩),.string s] w fun e w'=>e= .returned (.tuple #[.int .i64 s.size,.nilIface])/\(Ag 125 5 B b (.pointer (some ⟨b,0,none⟩)) (bs++Lib.strCells s) w'/\Below B w w'):=
 Any.Builder_WriteString Tryz.lays166 Tryz.Builder_Extra_156 B b bs s w h hlen hBw
open Go.RowKit in
def Tryz.Builder_WriteByte(B b:Nat)(bs:List Value)(c:Int)(w:World)(h:Af 125 5 B b bs w)(hlen:bs.length+1<=140737488355328)(hBw:B<=w.heap.size):
 Calls A0 292 #[.pointer (some ⟨b,0,none⟩),.int .u8 c] w fun e w'=>e= .returned .nilIface/\(Ag 125 5 B b (.pointer (some ⟨b,0,none⟩)) (bs++[.int .u8 c]) w'/\Below B w w'):=
 Any.Builder_WriteByte Tryz.lays167 Tryz.Builder_Extra_B B b bs c w h hlen hBw
end Go.Proofs
namespace Go.Proofs.YtfmnpmhadmcdkaaGreatDoor
namespace Gr
variable{es L L1 nm L0:List Nat}{m:Nat}
inductive FD(kind:Nat->Nat)(ch:Nat->Option (List Nat)):List Nat->List Nat->Prop
 |nil:FD kind ch [] []
 |file {k:Nat} {es L:List Nat}:kind k=1->FD kind ch es L->FD kind ch (k::es) (k::L)
 |dir {k:Nat} {cs es L1 L2:List Nat}:kind k=2->ch k=some cs->FD kind ch cs L1->FD kind ch es L2->FD kind ch (k::es) (k::(L1++L2))
inductive TD(kind:Nat->Nat)(ch:Nat->Option (List Nat)):List Nat->List Nat->Prop
 |nil:TD kind ch [] []
 |cons {f:Nat} {es t L1 L2:List Nat}:kind f=2->ch f=some es->FD kind ch es L1->TD kind ch t L2->TD kind ch (f::t) (L1++L2)
variable{kind:Nat->Nat}{ch:Nat->Option (List Nat)}
theorem FD.unique(h:FD kind ch es L): ∀{M:List Nat},FD kind ch es M->M=L:=by
 induction h with
 |nil=>intro M hm;cases hm;rfl
 |file hk h ih=>
  intro M hm;cases hm with
  |file hk' h'=>rw[ih h']
  |dir hk' hc' h1' h2'=>omega
 |dir hk hc h1 h2 ih1 ih2=>
  intro M hm;cases hm with
  |file hk' h'=>omega
  |dir hk' hc' h1' h2'=>
   grind
theorem FD.kinds(h:FD kind ch es L): ∀k∈L,kind k=1∨kind k=2/\(ch k).isSome=true:=by
 induction h with
 |nil=>grind
 |file hk h ih=>
  grind
 |dir hk hc h1 h2 ih1 ih2=>
  grind
theorem TD.snoc{t cs:List Nat}{f:Nat}(h:TD kind ch t L)(hk:kind f=2)(hc:ch f=some cs)(h1:FD kind ch cs L1):TD kind ch (t++[f]) (L++L1):=by
 induction h with
 |nil=>have:=TD.cons hk hc h1 .nil;grind
 |cons hk' hc' h1' h2' ih=>have:=TD.cons hk' hc' h1' ih;grind
def TD.unsnoc{f:Nat}: ∀{t L:List Nat},TD kind ch (t++[f]) L-> ∃cs L1 L2,L=L2++L1/\kind f=2/\ch f=some cs/\FD kind ch cs L1/\TD kind ch t L2
 |[],L,h=>by
  cases h with
  |cons hk hc h1 h2=>cases h2;exact⟨_,_,[],by simp,hk,hc,h1,.nil⟩
 |g::t,L,h=>by
  cases h with
  |cons hk hc h1 h2=>
   obtain⟨cs,L1,L2,rfl,hk',hc',h1',h2'⟩:=TD.unsnoc h2;exact⟨cs,L1,_,(AT ..).symm,hk',hc',h1',.cons hk hc h1 h2'⟩
def inner(kind:Nat->Nat):List Nat->List Nat->List Nat->Option (List Nat×List Nat)
 |[],t,nm=>some (t,nm)
 |e::es,t,nm=>if kind e=0 then none else if kind e=2 then(if 0<nm.count e then none else inner kind es (t++[e]) (nm++[e])) else inner kind es t (nm++[e])
def bfs(kind:Nat->Nat)(ch:Nat->Option (List Nat)):Nat->List Nat->List Nat->Option (List Nat)
 |_,[],nm=>some nm
 |0,_::_,_=>none
 |n+1,f::t,nm=>match inner kind ((ch f).getD []) t nm with
  |none=>none
  |some (t',nm')=>bfs kind ch n t' nm'
def left(kind:Nat->Nat)(m:Nat)(nm:List Nat):Nat:=((AC m).filter fun k=>decide (kind k=2)&&decide (nm.count k=0)).length
theorem QgO{p q:Nat->Bool}(h: ∀k,q k=true->p k=true): ∀l:List Nat,(l.filter q).length<=(l.filter p).length
 :=by intro l;induction l<;>grind
theorem QgN{p q:Nat->Bool}{e:Nat}(h: ∀k,q k=true->p k=true)(hp:p e=true)(hq:q e=false): ∀l:List Nat,e∈l->(l.filter q).length<(l.filter p).length
 |[],hm=>by cases hm
 |a::l,hm=>by
  rw[AU,AU];rcases AI.1 hm with rfl|hm
  ·rw[hp,hq]
   have:=QgO h l
   grind
  ·have ih:=QgN h hp hq l hm
   grind
theorem left_le{e:Nat}:left kind m (nm++[e])<=left kind m nm:=by
 unfold left;refine QgO (fun k hk=>?_) _
 grind
theorem left_lt{e:Nat}(hm:e<m)(hk:kind e=2)(h0:nm.count e=0):left kind m (nm++[e])<left kind m nm:=by
 unfold left;refine QgN (fun k hk=>?_) ?_ ?_ _ (List.mem_range.2 hm)
 ·grind
 ·grind
 grind
theorem Qga{m:Nat}(hm: ∀k,kind k=2->k<m): ∀{es t nm t' nm':List Nat},inner kind es t nm=some (t',nm')->t'.length+left kind m nm'<=t.length+left kind m nm
 |[],t,nm,t',nm',h=>by grind [inner]
 |e::es,t,nm,t',nm',h=>by
  unfold inner at h;split at h
  ·cases h
  ·split at h
   ·rename_i hk
    split at h
    ·cases h
    ·rename_i h0
     have:=Qga hm h;have:=left_lt (hm e hk) hk (show nm.count e=0 by omega)
     grind
   ·have:=Qga hm h
    grind [left_le]
theorem QoL: ∀{es t nm t' nm':List Nat},inner kind es t nm=some (t',nm')->(∀k∈t,kind k=2)-> ∀k∈t',kind k=2
 :=by intro l;induction l<;>grind [inner]
theorem QmA(hone: ∀k,kind k=2->L0.count k<=1)(h:FD kind ch es L1): ∀{t nm L:List Nat},TD kind ch t L->
 (∀k,nm.count k+L1.count k+L.count k<=L0.count k)-> ∃t' nm' L',inner kind es t nm=some (t',nm')/\TD kind ch t' L'/\ ∀k,nm'.count k+L'.count k=nm.count k+L1.count k+L.count k:=by
 induction h with
 |nil=>intro t nm L ht hc;exact⟨t,nm,L,rfl,ht,fun k=>by simp⟩
 |@file e es L1 hk h ih=>
  intro t nm L ht hc
  obtain⟨t',nm',L',h1,h2,h3⟩:=ih (nm:=nm++[e]) ht fun k=>by
   grind
  grind [inner]
 |@dir e cs es L1 L2 hk hc h1 h2 ih1 ih2=>
  intro t nm L ht hcn
  obtain⟨t',nm',L',g1,g2,g3⟩:=ih2 (nm:=nm++[e]) (ht.snoc hk hc h1) fun k=>by
   grind
  grind [inner]
theorem QrJ(hm: ∀k,kind k=2->k<m)(hone: ∀k,kind k=2->L0.count k<=1): ∀{n:Nat} {t nm L:List Nat},TD kind ch t L->t.length+left kind m nm<=n->
 (∀k,nm.count k+L.count k<=L0.count k)-> ∃nm',bfs kind ch n t nm=some nm'/\ ∀k,nm'.count k=nm.count k+L.count k:=by
 intro n;induction n with
 |zero=>
  intro t nm L ht hn hc;cases ht with
  |nil=>exact⟨nm,rfl,fun k=>by simp⟩
  |cons _ _ _ _=>simp at hn
 |succ n ih=>
  intro t nm L ht hn hc;cases ht with
  |nil=>exact⟨nm,rfl,fun k=>by simp⟩
  |@cons f es t L1 L2 hk hcf h1 h2=>
   obtain⟨t',nm',L',g1,g2,g3⟩:=QmA hone h1 (nm:=nm) h2 fun k=>by
    grind
   have hl:=Qga hm g1
   obtain⟨nm2,k1,k2⟩:=ih (nm:=nm') g2 (by grind) fun k=>by
    grind
   grind [bfs]
theorem Qgz: ∀{es t nm t' nm' L':List Nat},inner kind es t nm=some (t',nm')->TD kind ch t' L'->(∀e∈es,kind e<=2)->
 ∃L1 L,FD kind ch es L1/\TD kind ch t L/\ ∀k,nm'.count k+L'.count k=nm.count k+L1.count k+L.count k
 |[],t,nm,t',nm',L',h,ht,_=>by
  simp only[inner,A4,Prod.mk.injEq] at h;obtain⟨rfl,rfl⟩:=h;exact⟨[],L',.nil,ht,fun k=>by simp⟩
 |e::es,t,nm,t',nm',L',h,ht,h2=>by
  unfold inner at h;split at h
  ·cases h
  rename_i h0;split at h
  ·rename_i hk
   split at h
   ·cases h
   obtain⟨L1,L,g1,g2,g3⟩:=Qgz h ht fun x hx=>h2 x (A5 _ hx)
   obtain⟨cs,M1,M2,rfl,hk',hc',k1,k2⟩:=g2.unsnoc;refine⟨_,M2,.dir hk hc' k1 g1,k2,fun k=>?_⟩
   grind
  ·rename_i hk
   obtain⟨L1,L,g1,g2,g3⟩:=Qgz h ht fun x hx=>h2 x (A5 _ hx)
   have:=h2 e A3;refine⟨_,L,.file (by omega) g1,g2,fun k=>?_⟩
   grind
theorem Qre(hle: ∀k,kind k<=2)(hch: ∀k,kind k=2-> ∃cs,ch k=some cs): ∀{n:Nat} {t nm nm':List Nat},bfs kind ch n t nm=some nm'->(∀k∈t,kind k=2)->
 ∃L,TD kind ch t L/\ ∀k,nm'.count k=nm.count k+L.count k:=by
 intro n;induction n with
 |zero=>
  intro t nm nm' h ht;cases t with
  |nil=>simp only[bfs,A4] at h;subst h;exact⟨[],.nil,fun k=>by simp⟩
  |cons f t=>cases h
 |succ n ih=>
  intro t nm nm' h ht;cases t with
  |nil=>simp only[bfs,A4] at h;subst h;exact⟨[],.nil,fun k=>by simp⟩
  |cons f t=>
   have hf:=ht f A3;obtain⟨cs,hc⟩:=hch f hf;unfold bfs at h;rw[hc,AW] at h;split at h
   ·cases h
   rename_i t1 nm1 hi;obtain⟨L',g1,g2⟩:=ih h (QoL hi fun k hk=>ht k (A5 _ hk));obtain⟨L1,L,k1,k2,k3⟩:=Qgz hi g1 fun e _=>hle e
   refine⟨_,.cons hf hc k1 k2,fun k=>?_⟩
   grind
theorem Qjx: ∀(m:Nat) (L:List Nat),(∀k∈L,k<m)->L.length=((AC m).map fun k=>L.count k).sum
 |m,[],_=>by
  have:((AC m).map fun k=>([]:List Nat).count k)=(AC m).map fun _=>0:=AN fun k _=>by simp
  rw[this];induction m with
  |zero=>rfl
  |succ m ih=>rw[AK,AG,AL,<-ih (fun k h=>by cases h) (AN fun k _=>by simp)];rfl
 |m,a::L,h=>by
  have ih:=Qjx m L fun k hk=>h k (A5 _ hk)
  have ha:=h a A3
  have key: ∀n,((AC n).map fun k=>(a::L).count k).sum=((AC n).map fun k=>L.count k).sum+if a<n then 1 else 0:=by
   intro n;induction n with
   |zero=>rfl
   |succ n ihn=>
    rw[AK,AG,AL,AG,AL,ihn]
    grind
  grind
theorem sum_le(c:Nat)(f:Nat->Nat): ∀(m:Nat),(∀k,k<m->f k<=c)->((AC m).map f).sum<=m*c
 :=by intro l;induction l<;>grind [AK]
variable{kind:Nat->Nat}{ch:Nat->Option (List Nat)}
theorem FD.ne0(h0: ∀k cs,ch k=some cs-> ∀e∈cs,e≠0)(h:FD kind ch es L):(∀e∈es,e≠0)->0∉L:=by
 induction h with
 |nil=>grind
 |file hk h ih=>
  grind
 |dir hk hc h1 h2 ih1 ih2=>
  grind
structure Nodes(kind:Nat->Nat)(ch:Nat->Option (List Nat))(links:Nat->Nat)(m:Nat):Prop where
 root:kind 0=2
 le: ∀k,kind k<=2
 lt: ∀k,kind k≠0->k<m
 m16:m<=16
 lnk: ∀k,kind k≠0->1<=links k/\links k<=9
 one: ∀k,kind k=2->links k=1
 ne0: ∀k cs,ch k=some cs-> ∀e∈cs,e≠0
theorem Qso{links:Nat->Nat}(hn:Nodes kind ch links m):
 (∃L,FD kind ch [0] L/\L.length<=144/\ ∀k,kind k≠0->L.count k=links k)↔
 ((∀k,kind k=2-> ∃cs,ch k=some cs)/\ ∃nm,bfs kind ch (1+left kind m []) [0] []=some nm/\ ∀k,k≠0->kind k≠0->nm.count k=links k):=by
 constructor
 ·rintro⟨L,h,hl,hc⟩
  cases h with
  |file hk _=>rw[hn.root] at hk;cases hk
  |@dir k cs es L1 L2 hk hcs h1 h2=>
   cases h2;rw[AH] at hc;have hcc: ∀k,k≠0->(0::L1).count k=L1.count k:=fun k hk=>by grind
   refine⟨fun k hk=>?_,?_⟩
   ·have hkm:k∈0::L1:=List.count_pos_iff.1 (by rw[hc k (by omega),hn.one k hk];decide)
    rcases AI.1 hkm with rfl|hkm
    ·grind
    ·rcases h1.kinds k hkm with h|⟨_,h⟩
     ·omega
     ·exact Option.isSome_iff_exists.1 h
   ·have hone: ∀k,kind k=2->L1.count k<=1:=fun k hk=>by
     have h1:=hc k (by omega);rw[hn.one k hk,Ab] at h1;omega
    obtain⟨nm,g1,g2⟩:=QrJ (ch:=ch) (m:=m) (fun k hk=>hn.lt k (by omega)) hone (n:=1+left kind m []) (nm:=[]) (.cons hk hcs h1 .nil) (by simp) fun k=>by simp
    grind
 ·rintro⟨hch,nm,hb,hc⟩
  obtain⟨L,ht,hL⟩:=Qre hn.le hch hb (by simp[hn.root]);cases ht with
  |@cons f es t L1 L2 hk hcs h1 h2=>
   cases h2;have hz:=h1.ne0 hn.ne0 (hn.ne0 _ _ hcs)
   have hcount: ∀k,kind k≠0->(0::(L1++[])).count k=links k:=fun k hk'=>by
    by_cases h0:k=0
    ·subst h0
     rw[Ab,AH,AE hz,hn.one 0 hn.root];rfl
    grind
   have hfd:FD kind ch [0] (0::(L1++[])):= .dir hk hcs h1 .nil;refine⟨_,hfd,?_,hcount⟩;have hlt: ∀k∈0::(L1++[]),k<m:=fun k hk=>hn.lt k (by rcases hfd.kinds k hk with h|⟨h,_⟩<;>omega)
   rw[Qjx m _ hlt];refine AS (sum_le 9 _ m fun k hk=>?_) (by have:=hn.m16;omega)
   by_cases hk0:kind k=0
   ·rw[AE]
    ·omega
    ·intro hm;rcases hfd.kinds k hm with h|⟨h,_⟩<;>omega
   ·rw[hcount k hk0];exact(hn.lnk k hk0).2
abbrev It:=List (List UInt8)×Nat
abbrev En:=List (List UInt8×Nat)
def kids(p:List (List UInt8))(es:En):List It:=es.map fun e=>(p++[e.1],e.2)
inductive FP(kind:Nat->Nat)(en:Nat->Option En):List It->List It->Prop
 |nil:FP kind en [] []
 |file {p:List (List UInt8)} {k:Nat} {r L:List It}:kind k=1->FP kind en r L->FP kind en ((p,k)::r) ((p,k)::L)
 |dir {p:List (List UInt8)} {k:Nat} {es:En} {r L1 L2:List It}:kind k=2->en k=some es->FP kind en (kids p es) L1->FP kind en r L2->FP kind en ((p,k)::r) ((p,k)::(L1++L2))
variable{en:Nat->Option En}
def chOf(en:Nat->Option En)(k:Nat):Option (List Nat):=(en k).map (·.map (·.2))
def Qn6(p:List (List UInt8))(es:En):(kids p es).map (·.2)=es.map (·.2):=by simp[kids]
variable{r:List It}
theorem FP.fd{L:List It}(h:FP kind en r L):FD kind (chOf en) (r.map (·.2)) (L.map (·.2)):=by
 induction h with
 |nil=>exact .nil
 |file hk h ih=>exact .file hk ih
 |dir hk he h1 h2 ih1 ih2=>
  rw[Qn6] at ih1;have:=FD.dir hk (by grind [chOf]) ih1 ih2
  grind
theorem Qtl{ks M:List Nat}(h:FD kind (chOf en) ks M): ∀{r:List It},r.map (·.2)=ks-> ∃L,FP kind en r L/\L.map (·.2)=M:=by
 induction h with
 |nil=>intro r hr;rw[List.map_eq_nil_iff] at hr;subst hr;exact⟨[],.nil,rfl⟩
 |file hk h ih=>
  intro r hr
  match r,hr with
  |(p,k)::r,hr=>
   simp only[AQ,A7] at hr;obtain⟨rfl,hr2⟩:=hr;obtain⟨L,h1,h2⟩:=ih hr2;exact⟨_,.file hk h1,by simp[h2]⟩
 |dir hk hc h1 h2 ih1 ih2=>
  intro r hr
  match r,hr with
  |(p,k)::r,hr=>
   simp only[AQ,A7] at hr;obtain⟨rfl,hr2⟩:=hr;unfold chOf at hc;obtain⟨es,he,rfl⟩:=Option.map_eq_some_iff.1 hc;obtain⟨La,g1,g2⟩:=ih1 (Qn6 p es);obtain⟨Lb,g3,g4⟩:=ih2 hr2;exact⟨_,.dir hk he g1 g3,by grind⟩
theorem FP.pre{L:List It}(h:FP kind en r L): ∀x∈L,∃y∈r,y.1<+:x.1:=by
 induction h with
 |nil=>grind
 |file hk h ih=>
  intro x hx
  grind
 |dir hk he h1 h2 ih1 ih2=>
  grind [kids,A3,List.prefix_append]
def FP.split: ∀{a b L:List It},FP kind en (a++b) L-> ∃La Lb,L=La++Lb/\FP kind en a La/\FP kind en b Lb
 |[],b,L,h=>⟨[],L,rfl,.nil,h⟩
 |(p,k)::a,b,L,h=>by
  cases h with
  |file hk h=>
   obtain⟨La,Lb,rfl,h1,h2⟩:=h.split;exact⟨_,Lb,(AA ..).symm,.file hk h1,h2⟩
  |dir hk he h1 h2=>
   obtain⟨La,Lb,rfl,h3,h4⟩:=h2.split;exact⟨_,Lb,by simp,.dir hk he h1 h3,h4⟩
def find(kind:Nat->Nat)(en:Nat->Option En):Nat->List (List UInt8)->Option Nat
 |k,[]=>some k
 |k,n::q=>if kind k=2 then((en k).getD []).find? (fun e=>e.1==n)|>.bind fun e=>find kind en e.2 q else none
theorem pre_ne{α:Type}{p x q:List α}{a b:α}(h1:p++[a]<+:x)(h2:p++b::q<+:x):a=b:=by
 obtain⟨r,rfl⟩:=h1
 simp_all
theorem QvE{q:List (List UInt8)}: ∀{p:List (List UInt8)} {k j:Nat} {L:List It},(∀k es,en k=some es->(es.map (·.1)).Nodup)->FP kind en [(p,k)] L->find kind en k q=some j->
 ∃M,FD kind (chOf en) [j] M/\ ∀i,(∃x∈L,x.2=i/\p++q<+:x.1)↔i∈M:=by
 induction q with
 |nil=>
  intro p k j L hnd h hf;simp only[find,A4] at hf;subst hf;refine⟨_,h.fd,fun i=>?_⟩;rw[AH,List.mem_map];constructor
  ·grind
  ·rintro⟨x,hx,rfl⟩
   obtain⟨y,hy,hp⟩:=h.pre x hx
   grind
 |cons n q ih=>
  intro p k j L hnd h hf;unfold find at hf;split at hf;rotate_left
  ·cases hf
  obtain⟨e,he,hf⟩:=Option.bind_eq_some_iff.1 hf;cases h with
  |file hk' h=>omega
  |@dir _ _ es _ L1 L2 hk' hes h1 h2=>
   cases h2;rw[hes,AW] at he;have hn:=List.find?_some he;simp only[beq_iff_eq] at hn;obtain⟨es1,es2,rfl⟩:=List.append_of_mem (List.mem_of_find?_eq_some he);have hnd':=hnd k _ hes;have hk3:kids p (es1++e::es2)=kids p es1++([(p++[e.1],e.2)]++kids p es2):=by simp[kids]
   rw[hk3] at h1;obtain⟨La,Lr,rfl,g1,g2⟩:=h1.split;obtain⟨Le,Lb,rfl,g3,g4⟩:=g2.split;obtain⟨M,hM,hi⟩:=ih hnd g3 hf;refine⟨M,hM,fun i=>?_⟩;rw[<-hi i]
   have hno: ∀es':En,e.1∉es'.map (·.1)-> ∀L',FP kind en (kids p es') L'-> ∀x∈L',¬p++n::q<+:x.1:=by
    intro es' hne L' hL' x hx hp;obtain⟨y,hy,hyp⟩:=hL'.pre x hx
    grind [kids,pre_ne]
   rw[AG,AQ,List.nodup_append] at hnd';obtain⟨_,hnd2,hdis⟩:=hnd';have hna:e.1∉es1.map (·.1):=fun h=>hdis _ h _ A3 rfl
   have hnb:e.1∉es2.map (·.1):=(List.nodup_cons.1 hnd2).1;constructor
   ·rintro⟨x,hx,rfl,hp⟩
    rw[AH] at hx;rcases AI.1 hx with rfl|hx
    ·exfalso
     obtain⟨s,hs⟩:=hp;have:=congrArg List.length hs
     grind
    grind
   ·rintro⟨x,hx,rfl,hp⟩
    grind

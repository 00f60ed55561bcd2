/- Of parts_card; no condition. -/
import Derived.Test.YtilenknaajikpaaGreatDoorP22
import Derived.Test.YtilenknaajikpaaGreatDoorP23
set_option linter.all false
set_option maxRecDepth 100000
set_option maxHeartbeats 8000000
open Bool renaming and_eq_true->A7,or_eq_true->AY,true_and->Aa
open Go.Lib renaming compareBytes->A0
open Go.Op renaming bytesLess->A1
open Go.Proofs.Tryz renaming prog->AA,underlying72->AJ,underlying3->AM,underlying78->AW
open Go.RowKit renaming Hid->Ag
open Int renaming le_refl->Ae
open List renaming getElem?_eq_getElem->A2,range->A3,getElem?_eq_some_iff->A4,mem_of_getElem?->A5,mem_cons_of_mem->A6,mem_cons_self->A8,map_append->A9,map_cons->AB,sum_append->AC,sum_cons->AD,range_succ->AE,count_pos_iff->AF,getD_eq_getElem?_getD->AG,length_append->AH,getElem?_eq_none_iff->AI,flatMap_cons->AK,length_cons->AL,mem_range->AP,takeWhile_cons->AQ,getElem_of_mem->AR,find?_eq_none->AS,all_eq_true->AX,append_nil->AZ,mem_map->Ab,map_nil->Ac,sum_nil->Ad
open List.Sublist renaming refl->Ah
open Nat renaming le_refl->Af
open Option renaming getD_some->AN
open Option.some renaming injEq->AU,inj->Ai
open UInt8 renaming not_lt->AO,le_antisymm->AT
namespace Go.Proofs.YtilenknaajikpaaGreatDoor
noncomputable section
section
open Go.RowKit
namespace Aw
variable{t:Pl.Tree}{m:List (Int×D)}{u:Operand}{x:List UInt8}{k:Nat}
def Qoe{f g:Nat->Int}: ∀{n:Nat},(∀k,k<n->f k<=g k)->Qa6 f n<=Qa6 g n
 |0,_=>Ae _
 |n+1,h=>by
  have:=Qoe (f:=f) (g:=g) (n:=n) fun k hk=>h k (by omega)
  have:=h n (by omega);unfold Qa6;omega
def Qod{f:Nat->Int}: ∀{n:Nat},(∀k,0<=f k)->0<=Qa6 f n
 |0,_=>Ae _
 |n+1,h=>by
  have:=Qod (f:=f) (n:=n) h;have:=h n;unfold Qa6;omega
def QbO(s:Pm.Store)(t:Pl.Tree):Int:=Qa6 (fun k=>Qag s ((Qe s t).getD k Qd)) (Qe s t).length
def QqL(s:Pm.Store)(n:Qi):0<=Qag s n:=by unfold Qag;omega
def QqK(s:Pm.Store):Qag s Qd=0:=by
 unfold Qag;rw[show QP s Qd.tree=[] from QdZ s _ (by decide)];rfl
def Qth{s:Pm.Store}(h:Qaf s t=true):Qbj s t [] (Qag s)=QbO s t:=by
 unfold Qaf at h;simp only[A7,AX] at h;refine QeO fun k hk=>?_
 split
 ·rfl
 ·rename_i hi
  rcases Qfv s t k with e|e
  ·rw[e,QqK]
  ·exfalso
   have hn:=h.2 k (AP.2 hk);unfold Qa1 at hn;simp only[A7,AY,beq_iff_eq] at hn;have hk:=e.kind;have hl:=e.links
   have hm:1<=Pl.many (QaN s t).1 k:=by
    omega
   unfold Pl.many at hm;obtain⟨x,hx,hxe⟩:=Ab.1 (AF.1 hm);exact hi (List.any_eq_true.2 ⟨x,hx,by simp[hxe]⟩)
theorem QqN{s:Pm.Store}{path:List UInt8}(h:(Qab s t path (Qag s)).2=true):
 Qab s t [47] (Qag s)=(QbO s t,true)/\0<=(Qab s t path (Qag s)).1/\(Qab s t path (Qag s)).1<=QbO s t/\QO s=true/\Qaf s t=true:=by
 have h0:Qz [47]=some []:=by unfold Qz;rfl
 have hr:(QO s&&Qaf s t)=true->Qab s t [47] (Qag s)=(QbO s t,true):=fun hc=>by
  unfold Qab;rw[h0];dsimp only;rw[if_pos hc,<-Qth (by grind)];rfl
 unfold Qab at h;split at h
 ·cases h
 ·rename_i q hq
  split at h
  ·rename_i hc
   split at h
   ·cases h
   ·rename_i j hj
    have hc2:=hc;simp only[A7] at hc2;refine⟨hr hc,?_,?_,hc2⟩
    ·unfold Qab
     rw[hq];dsimp only;rw[if_pos hc,hj];refine Qod fun k=>?_
     split
     ·exact QqL s _
     omega
    ·unfold Qab
     rw[hq];dsimp only;rw[if_pos hc,hj];refine Qoe fun k _=>?_
     split
     ·omega
     ·exact QqL s _
  ·cases h
attribute [local irreducible] ASeq ADraw AWP Loc
theorem Qvj: ∀a b:List UInt8,decide (A0 a b<0)=A1 a b
 |[],[]=>by simp[A0,A1]
 |[],_::_=>by simp[A0,A1]
 |_::_,[]=>by simp[A0,A1]
 |a::x,b::y=>by
  have ih:=Qvj x y;unfold A0 A1
  by_cases h:a<b
  ·simp[h]
  ·by_cases h2:b<a
   ·have:a≠b:=by rintro rfl;exact h h2
    simp[h,h2,this]
   ·have:a=b:=AT (AO.1 h2) (AO.1 h)
    subst this;simp only[h,if_false,BEq.rfl,Aa,decide_false,Bool.false_or];exact ih
theorem Qvk: ∀a b:List UInt8,(A0 a b==0)=(a==b)
 |[],[]=>by simp[A0]
 |[],_::_=>by simp[A0]
 |_::_,[]=>by simp[A0]
 |a::x,b::y=>by
  have ih:=Qvk x y;unfold A0
  by_cases h:a<b
  ·have:a≠b:=by rintro rfl;exact absurd h (UInt8.lt_irrefl _)
   simp[h,this]
  ·by_cases h2:b<a
   ·have:a≠b:=by rintro rfl;exact h h2
    simp[h,h2,this]
   ·have:a=b:=AT (AO.1 h2) (AO.1 h)
    subst this;simp only[h,if_false,ih];rw[Bool.eq_iff_iff];simp
def Qu7(a b:List UInt8):Pure AA 156 [dS a,dS b] (dI (A0 a b)):=
 Qd6 rfl fun w _=>(Tryz.strings_Compare ⟨a.toArray⟩ ⟨b.toArray⟩ w).mono fun e w' h=>⟨h.1,h.2▸Below.refl _ _⟩
def Qta(e:Ql)(n:List UInt8):Pure AA 155 [.agg (rEnt e),dS n] (dI (A0 e.1 n)):=by
 have c:=Qu7 e.1 n;generalize A0 e.1 n=r at*;refine kE ?_;refine Qa 0 (h:=?_)
 repeat refine kA ?_
 exact Qb (hx:=rfl)
def QbF(l:List Ql)(n:List UInt8):Nat:=(l.takeWhile fun e=>A1 e.1 n).length
def Qbb(l:List Ql)(n:List UInt8):Bool:=match l[QbF l n]? with
 |some e=>e.1==n
 |none=>false
theorem Qig{α:Type}(p:α->Bool): ∀(l:List α) (i:Nat),i<=l.length->(∀k (h:k<l.length),k<i->p l[k]=true)->(∀h:i<l.length,p l[i]=false)->(l.takeWhile p).length=i
 |[],i,hi,_,_=>by simp at hi;subst hi;rfl
 |a::l,0,_,_,h2=>by
  have:=h2 (by simp);simp at this;simp[List.takeWhile,this]
 |a::l,i+1,hi,h1,h2=>by
  have h:=h1 0 (by simp) (by omega);simp only[List.getElem_cons_zero] at h;rw[AQ,if_pos h,AL,Qig p l i (by simpa using hi) (fun k hk hki=>h1 (k+1) (by simpa using hk) (by omega)) (fun hh=>h2 (by simpa using hh))]
theorem QfY{α:Type}(p:α->Bool): ∀(l:List α),(∀k (h:k<l.length),k<(l.takeWhile p).length->p l[k]=true)/\(∀e,l[(l.takeWhile p).length]? =some e->p e=false)
 |[]=>⟨fun k h=>by simp at h,fun e h=>by simp at h⟩
 |a::l=>by
  obtain⟨h1,h2⟩:=QfY p l;rw[AQ]
  by_cases h:p a=true
  ·rw[if_pos h]
   refine⟨fun k hk hki=>?_,fun e he=>?_⟩
   ·cases k with
    |zero=>exact h
    |succ k=>exact h1 k (by simpa using hk) (by simpa using hki)
   ·rw[AL,List.getElem?_cons_succ] at he;exact h2 e he
  ·rw[if_neg h]
   refine⟨fun k hk hki=>by simp at hki,fun e he=>?_⟩;simp only[List.length_nil,List.getElem?_cons_zero,AU] at he;subst he;simpa using h
theorem QoH{l:List Ql}(h:Qaa l=true)(n:List UInt8){i j:Nat}(hi:i<l.length)(hj:j<l.length)(hij:i<=j)(hl:A1 l[j].1 n=true):A1 l[i].1 n=true:=by
 rcases Nat.eq_or_lt_of_le hij with e|e
 ·subst e;exact hl
 ·exact Qlk (Qlc h hj e) hl
theorem QnD{l:List Ql}(h:Qaa l=true)(n:List UInt8):l.find? (fun e=>e.1==n)=if Qbb l n then l[QbF l n]? else none:=by
 unfold Qbb;obtain⟨hlow,hat⟩:=QfY (fun e:Ql=>A1 e.1 n) l;rw[show(l.takeWhile fun e=>A1 e.1 n).length=QbF l n from rfl] at hlow hat;cases he:l[QbF l n]? with
 |none=>
  simp only[Bool.false_eq_true,if_false];rw[AS];intro x hx;obtain⟨k,hk,rfl⟩:=AR hx;have:=hlow k hk (by have:=AI.1 he;omega);simp only[beq_iff_eq];intro e;rw[e,Qgt] at this;cases this
 |some e=>
  have hb:=hat e he;obtain⟨hlt,hge⟩:=A4.1 he;simp only
  by_cases hn:e.1=n
  ·rw[if_pos (by simpa using hn),List.find?_eq_some_iff_getElem]
   refine⟨by simpa using hn,_,hlt,hge,fun j hj=>?_⟩;have:=hlow j (by omega) hj;simp only[Bool.not_eq_true',beq_eq_false_iff_ne];intro e2;rw[e2,Qgt] at this;cases this
  ·rw[if_neg (by simpa using hn),AS]
   intro x hx;obtain⟨k,hk,rfl⟩:=AR hx;simp only[beq_iff_eq];intro e2;rcases Nat.lt_trichotomy k (QbF l n) with h1|h1|h1
   ·have:=hlow k hk h1
    rw[e2,Qgt] at this;cases this
   ·subst h1;rw[hge] at e2;exact hn e2
   ·have:=Qlc h hk h1
    rw[hge,e2,hb] at this;cases this
theorem Qq2(l:List Ql)(n:List UInt8)(hE:Qaa l=true)(f:FuncId)(hf: ∀args w,(callFunc f args).run AA w= .ok (.enter f args) w)(h: ∀e∈l,Pure AA f [.agg (rEnt e),dS n] (dI (A0 e.1 n))):
 PureF AA 154 [.d (dEnts l),.d (dS n),.fn (.func f) []] (.tup [dI (QbF l n),dB (Qbb l n)]):=by
 have hl:l.length<=12:=by have:=hE;unfold Qaa at this;rw[A7,decide_eq_true_eq] at this;exact this.2
 have hEd:=Pm.hid hE;clear hE;refine kF ?_
 repeat refine kA ?_
 refine Qs (fun m st=> ∃i j:Nat,i<=j/\j<=l.length/\m=j -i/\Ag (∀k (h:k<l.length),k<i->A1 l[k].1 n=true)/\Ag (∀k (h:k<l.length),j<=k->A1 l[k].1 n=false)/\
  st=⟨49,[(9,.d (dI i)),(10,.d (dI j)),(8,.d (dI l.length)),(0,.d (dEnts l)),(1,.d (dS n)),(2,.fn (.func f) [])],[]⟩) [9,10,8,0,1,2] 0 l.length ⟨0,l.length,by omega,by omega,by omega,Pm.hid fun _ _ h=>by omega,Pm.hid fun _ _ h=>by omega,by simp[keepE,go_sem]⟩ (round:=?_)
 rintro m st ⟨i,j,hij,hj,rfl,hA,hB,rfl⟩
 repeat refine kG ?_
 by_cases q3:i<j
 rotate_left
 ·have e:i=j:=by omega
  subst e;have hlow:Ag (QbF l n=i):=Pm.hid (Qig _ l i hj (fun k hk hki=>hA.out k hk hki) (fun hh=>hB.out i hh (Af _)))
  by_cases q4:i<l.length
  ·obtain⟨x,hx⟩: ∃x,l[i]? =some x:=⟨_,A2 q4⟩
   have hr:=Qu (f:=rEnt) hx;have c:=h x (A5 hx);have hit:Ag (Qbb l n=(x.1==n)):=Pm.hid (by unfold Qbb;rw[hlow.out,hx]);rw[<-Qvk] at hit;clear hx hA hB hEd;generalize A0 x.1 n=r at*;generalize Qbb l n=hh at*;generalize QbF l n=lo at*
   repeat' first|refine kS ?_|refine qS (iy hr) ?_|refine qS (Qe0 hf c rfl rfl) ?_|refine kU ?_|refine kV ?_ ?_<;>intro q|fail
   all_goals first
    |(exfalso;simp only[decide_eq_true_eq,decide_eq_false_iff_not] at*;omega)
    |(refine QY (hx:=?_)
      rw[hlow.out,hit.out])
  ·have hit:Ag (Qbb l n=false):=Pm.hid (by unfold Qbb;rw[hlow.out,AI.2 (by omega)])
   clear hA hB hEd;generalize Qbb l n=hh at*;generalize QbF l n=lo at*
   repeat' first|refine kA ?_|refine kV ?_ ?_<;>intro q|fail
   all_goals first
    |(exfalso;simp only[decide_eq_true_eq,decide_eq_false_iff_not] at*;omega)
    |(refine QY (hx:=?_)
      rw[hlow.out,hit.out])
 have hm:(i+j)/2<l.length:=by omega
 obtain⟨x,hx⟩: ∃x,l[(i+j)/2]? =some x:=⟨_,A2 hm⟩;have hxe:l[(i+j)/2]=x:=(A4.1 hx).2;have hr:=Qu (f:=rEnt) hx;have c:=h x (A5 hx);have hlt:=Pm.hid (Qvj x.1 n);have T:Ag (A1 x.1 n=true-> ∀k (h:k<l.length),k<(i+j)/2+1->A1 l[k].1 n=true):=Pm.hid fun hb k hk hki=>QoH hEd.out n hk hm (by omega) (by rw[hxe];exact hb)
 have F:Ag (A1 x.1 n=false-> ∀k (h:k<l.length),(i+j)/2<=k->A1 l[k].1 n=false):=Pm.hid fun hb k hk hki=>by
  cases hv:A1 l[k].1 n with
  |false=>rfl
  |true=>have:=QoH hEd.out n hm hk hki hv;rw[hxe,hb] at this;cases this
 generalize hmv:(i+j)/2=mm at*;have hmi:(((i:Int)+j)/2)=(mm:Int):=by omega
 clear hx hxe hEd;generalize A1 x.1 n=b at*;generalize A0 x.1 n=r at*
 repeat' first|refine kS ?_|refine qS (QeA (D1:= .int .i64) (k':= .u64) (m:=(i:Int)+j) (by kernel_rfl) (by kernel_rfl) rfl rfl (by rw[IntKind.wrap_u64];omega)) ?_|refine qS (QtP rfl rfl (by omega)) ?_|refine qS (QeA (D1:= .int .u64) (k':= .i64) (m:=(mm:Int)) (by kernel_rfl) (by kernel_rfl) rfl rfl (by rw[hmi,IntKind.wrap_i64];omega)) ?_|refine qS (iy hr) ?_|refine qS (Qe0 hf c rfl rfl) ?_|refine kU ?_|refine kV ?_ ?_<;>intro q|fail
 all_goals first
  |(exfalso;simp only[decide_eq_true_eq,decide_eq_false_iff_not] at*;omega)
  |(have hb:=hlt.out.symm.trans ‹decide (r<0)=true›
    exact Qn (j -(mm+1)) (by omega) ⟨mm+1,j,by omega,hj,by omega,Pm.hid (T.out hb),hB,by simp[keepE,go_sem]⟩)
  |(have hb:=hlt.out.symm.trans ‹decide (r<0)=false›
    exact Qn (mm -i) (by omega) ⟨i,mm,by omega,by omega,by omega,hA,Pm.hid (F.out hb),by simp[keepE,go_sem]⟩)
def QoW(l:List Ql)(n:List UInt8)(hE:Qaa l=true):Pure AA 93 [dEnts l,dS n] (.tup [dI (QbF l n),dB (Qbb l n)]):=by
 have c:=Qq2 l n hE 155 Tryz.call155 fun e _=>Qta e n
 clear hE;generalize QbF l n=lo at*;generalize Qbb l n=hh at*;refine kB ?_
 repeat' first|refine kS ?_|refine qS (QdX cK c rfl rfl) ?_|refine kU ?_|fail
 exact Qb (hx:=rfl)
abbrev rFiles(s:Pm.Store)(t:Pl.Tree)(x:List (List UInt8))(m:List (Int×D)):List D:=
 [.pd (rSt s),dI t.root.pat,dI t.root.birth,dI t.root.size,dI t.root.sum,dI t.root.level,dI t.depth,dI t.many,tNds x,.mp (imap m)]
def QbV(m:List (Int×D))(L:Int->List Ql):Prop:=
 ∀n,0<=n->Qaa (L n)=true/\(mget m n=some (tEnts (L n))∨mget m n=none/\L n=[])
def Qbt(L:Int->List Ql):Int->List (List UInt8)->Option Int
 |i,[]=>some i
 |i,n::q=>match(L i).find? (fun e=>e.1==n) with
  |none=>none
  |some e=>Qbt L e.2 q
def Qsl(L:Int->List Ql)(i:Int):Qbt L i []=some i:=rfl
def QhO(L:Int->List Ql)(i:Int)(n:List UInt8)(q:List (List UInt8)):Qbt L i (n::q)=match(L i).find? (fun e=>e.1==n) with
 |none=>none
 |some e=>Qbt L e.2 q:=rfl
def Qn7(E:Qi->List Ql×Bool)(ns:List Qi): ∀(q:List (List UInt8)) (i:Int),Qbt (fun i=>(E (ns.getD i.toNat Qd)).1) i q=QbE E ns i q
 |[],_=>rfl
 |n::q,i=>by
  rw[QhO,Qeo];generalize (E (ns.getD i.toNat Qd)).1.find? (fun e=>e.1==n)=r;cases r with
  |none=>rfl
  |some e=>exact Qn7 E ns q _
section
variable{P:Program}{dst:Option Tmp}{ty:TypeId}{pos:String}{after:Array Edge}{gd:Option (Nat×Bool)}{env:List (Nat×AV)}{H:List Blk}{T kt et:TypeId}{z:Value}
def QgF(hT:P.underlying T=some (.map kt et))(hk:P.underlying kt=some (.int .i64))(hz:(P.info? et).bind (·.zero)=some z){v:Operand}{n:Int}{d:D}
 (hu:aval env u= .d (.mp (imap m))) (hv:aval env v= .d (.v (.int .i64 n))) (hg:mget m n=some d):Loc P ⟨dst,.lookup T u v false,ty,pos,after,gd⟩ env H (.d d) none:=by
 have h:=QgR (dst:=dst) (ty:=ty) (pos:=pos) (after:=after) (gd:=gd) (H:=H) hT hk hz hu hv;rw[hg] at h;exact h
def QjL(hT:P.underlying T=some (.map kt et))(hk:P.underlying kt=some (.int .i64))(hz:(P.info? et).bind (·.zero)=some z){v:Operand}{n:Int}
 (hu:aval env u= .d (.mp (imap m))) (hv:aval env v= .d (.v (.int .i64 n))) (hg:mget m n=none):Loc P ⟨dst,.lookup T u v false,ty,pos,after,gd⟩ env H (.d (.v z)) none:=by
 have h:=QgR (dst:=dst) (ty:=ty) (pos:=pos) (after:=after) (gd:=gd) (H:=H) hT hk hz hu hv;rw[hg] at h;exact h
end
attribute [local irreducible] mget
def bFind(s:Pm.Store)(t:Pl.Tree)(x:List (List UInt8))(m:List (Int×D))(L:Int->List Ql)(hm:QbV m L)(q:List (List UInt8))(hq:q.length<=1000000):
 Pure AA 44 [.pd (rFiles s t x m),tStrs q] (dI ((Qbt L 0 q).getD (-1))):=by
 refine kB ?_
 repeat refine kA ?_
 refine Qs (fun mm st=> ∃(k:Nat) (at_:Int),k<=q.length/\mm=q.length -k/\0<=at_/\at_<=1000000/\Ag (Qbt L 0 q=Qbt L at_ (q.drop k))/\
  st=⟨41,[(12,.d (dI k)),(11,.d (dI q.length)),(10,.d (tStrs q)),(5,.d (dI at_)),(0,.d (.pd (rFiles s t x m)))],[]⟩) [12,11,10,5,0] 0 q.length ⟨0,0,by omega,rfl,by omega,by omega,Pm.hid rfl,by simp[keepE,go_sem]⟩ (round:=?_)
 rintro mm st ⟨k,at_,hk,rfl,ha,hb,hF,rfl⟩
 repeat refine kG ?_
 cases q3:decide ((k:Int)<(q.length:Int))
 ·repeat refine kA ?_
  refine Qb (hx:=?_);have:k=q.length:=by simp at q3;omega
  rw[hF.out,this,List.drop_length];rfl
 have hk2:k<q.length:=by simp at q3;omega
 obtain⟨n,hn⟩: ∃n,q[k]? =some n:=⟨_,A2 hk2⟩;have hr:=Qu (f:=fun s=>[dS s]) hn
 have hd:q.drop k=n::q.drop (k+1):=by
  rw[List.drop_eq_getElem_cons hk2,(A4.1 hn).2]
 have hst:=hF.out;rw[hd,QhO] at hst;obtain⟨hE,hg⟩:=hm at_ ha;rw[QnD hE] at hst;clear hn hd hF;have hs2:=Pm.hid hst;clear hst;rcases hg with hg|⟨hg,hl⟩
 ·have c:=(QoW (L at_) n hE).arg (l:=[tEnts (L at_),dS n])
  cases hh:Qbb (L at_) n
  ·rw[hh] at c hs2
   generalize QbF (L at_) n=lo at*;clear hE
   repeat' first|refine kS ?_|refine qS (iy hr) ?_|refine qS (Qdq rfl) ?_|refine qS (QgF AJ AM (z:= .slice none 0 0) (by kernel_rfl) rfl rfl hg) ?_|refine kU ?_|fail
   refine Qb (hx:=?_);rw[hs2.out];rfl
  ·rw[hh] at c hs2
   have hlen: ∃e,(L at_)[QbF (L at_) n]? =some e:=by
    unfold Qbb at hh;split at hh
    ·rename_i e he;exact⟨e,he⟩
    ·cases hh
   obtain⟨e,he⟩:=hlen;have hre:=Qu (f:=rEnt) he;have heb:=(ent_b hE e (A5 he)).2;have hs3:Ag (Qbt L 0 q=Qbt L e.2 (q.drop (k+1))):=Pm.hid (by rw[hs2.out,if_pos rfl,he]);have hll:=(A4.1 he).1;clear hs2 he hE;generalize QbF (L at_) n=lo at*
   repeat' first|refine kS ?_|refine qS (iy hr) ?_|refine qS (iy hre) ?_|refine qS (Qdq rfl) ?_|refine qS (QgF AJ AM (z:= .slice none 0 0) (by kernel_rfl) rfl rfl hg) ?_|refine kU ?_|fail
   refine Qn (q.length -(k+1)) (by omega) ⟨k+1,e.2,by omega,rfl,by omega,by omega,hs3,by simp[keepE,go_sem]⟩
 ·rw[hl] at hs2 hE
  have c:=(QoW [] n hE);have c2:Qbb [] n=false:=rfl;have c3:QbF [] n=0:=rfl;rw[c2,c3] at c;rw[c2] at hs2;clear hE c2 c3
  repeat' first|refine kS ?_|refine qS (iy hr) ?_|refine qS (Qdq rfl) ?_|refine qS (QjL AJ AM (z:= .slice none 0 0) (by kernel_rfl) rfl rfl hg) ?_|refine(QnT 22 false 2 (h:=?_))|refine kU ?_|fail
  refine Qb (hx:=?_);rw[hs2.out];rfl
def bPath(s:Pm.Store)(t:Pl.Tree)(x:List (List UInt8))(m:List (Int×D))(L:Int->List Ql)(hm:QbV m L)(p:List UInt8)(hp:p.length<=1000000000000):
 Pure AA 20 [.pd (rFiles s t x m),dS p] (dI (match Qz p with|none=> -1|some q=>(Qbt L 0 q).getD (-1))):=by
 have c1:=Qqr p hp;cases hq:Qz p with
 |none=>
  rw[hq] at c1;refine kB ?_
  repeat refine kA ?_
  exact Qb (hx:=rfl)
 |some q=>
  rw[hq] at c1;have hl:=(Qe9.1 hq).2.1;have c2:=bFind s t x m L hm q (by omega);simp only[AN,Option.isSome_some] at c1;simp only;generalize (Qbt L 0 q).getD (-1)=r at*;refine kB ?_
  repeat refine kA ?_
  exact Qb (hx:=rfl)
def Qcv(l:List (List UInt8))(k:Int):Qi×Bool:=if Pl.inR k 0 ((l.length:Int) -1)&& !(l.getD k.toNat []==[]) then((Qq (l.getD k.toNat [])).1,true) else(Qd,false)
def bNodeAt(l:List (List UInt8))(k:Int)(hl:l.length<=1000):Pure AA 29 [tNds l,dI k] (.tup [dNode (Qcv l k).1,dB (Qcv l k).2]):=by
 have hd:=Pm.hid (Qcv.eq_def l k);have c1:=bIn k 0 ((l.length:Int) -1);cases hi:Pl.inR k 0 ((l.length:Int) -1)
 ·rw[hi] at c1 hd
  refine kC ?_
  repeat refine kA ?_
  (refine Qa 0 (h:=?_);refine QY (hx:=?_))
  rw[hd.out];rfl
 rw[hi] at c1 hd;have hb:0<=k/\k<=(l.length:Int) -1:=by simpa[Pl.inR] using hi
 obtain⟨j,rfl⟩:=Int.eq_ofNat_of_zero_le hb.1;obtain⟨x,hx⟩: ∃x,l[j]? =some x:=⟨_,A2 (by omega)⟩;have hr:=Qu (f:=fun x=>[QaO x]) hx;have hg:l.getD ((j:Nat):Int).toNat []=x:=by rw[Int.toNat_natCast,AG,hx];rfl
 rw[hg] at hd
 by_cases hn:x=[]
 ·have e:QaO x= .v (.pointer none):=by unfold QaO;rw[if_pos hn]
  rw[e] at hr;refine kC ?_
  repeat' first|refine kS ?_|refine qS (iy hr) ?_|refine qS (Qje AW rfl) ?_|refine kU ?_|fail
  all_goals
   (refine Qa 0 (h:=?_);refine QY (hx:=?_))
   rw[hd.out,hn];rfl
 have e:QaO x= .pd (rNode (Qq x).1):=by unfold QaO;rw[if_neg hn]
 rw[e] at hr;have hnb:(x==[])=false:=by simpa using hn
 rw[hnb] at hd;generalize (Qq x).1=N at*;obtain⟨kind,links,size,⟨⟨p1,p2,p3,p4,p5⟩,depth,many⟩⟩:=N;refine kC ?_
 repeat' first|refine kS ?_|refine qS (iy hr) ?_|refine qS (Qgj AW rfl) ?_|refine qS (Qdq rfl) ?_|refine kU ?_|fail
 all_goals
  (refine Qa 0 (h:=?_);refine QY (hx:=?_))
  rw[hd.out];rfl
def QsT{l:List (List UInt8)}(hx:l[k]? =some x)(h:(A3 k).all (Qa5 l)=true)(hb:Qa5 l k=true):(A3 (k+1)).all (Qa5 l)=true:=by
 rw[AE,List.all_append,h];simpa using hb
def Qsi{l:List (List UInt8)}(hx:l[k]? =some x):(l.take (k+1)).flatten=(l.take k).flatten++x:=by
 rw[List.take_add_one,hx,List.flatten_append];simp
def Qsj{m:Nat}: ∀{l:List (List UInt8)},(∀x∈l,x.length<=m)->l.flatten.length<=l.length*m
 |[],_=>by simp
 |x::l,h=>by
  have:=Qsj fun y hy=>h y (A6 _ hy)
  have:=h x A8;rw[List.flatten_cons,AH,AL,Nat.add_mul];omega
def QbC(s:Pm.Store)(n:Qi):List UInt8×Bool:=if Q8 s n.tree&&(QaT (Qc s n.tree)).2 then((QaT (Qc s n.tree)).1,decide (((QaT (Qc s n.tree)).1.length:Int)=n.size)) else([],false)
theorem QnP(s:Pm.Store)(hg:QM s)(htx:0<=s.2.2.1)(n:Qi):Pure AA 90 [.pd (rSt s),dNode n] (.tup [dS (QbC s n).1,dB (QbC s n).2]):=by
 have c1:=bLeaves s hg htx n.tree;have hd:=Pm.hid (QbC.eq_def s n);cases ht:Q8 s n.tree
 ·have e:QV s n.tree=([],false):=by unfold QV;rw[if_neg (by rw[ht];simp)]
  rw[e] at c1;rw[ht] at hd;refine kE ?_;refine Qa 0 (h:=?_)
  repeat refine kA ?_
  refine Qb (hx:=?_);rw[hd.out];rfl
 have e2:(QV s n.tree).2=true:=by unfold QV;rw[if_pos ht]
 have hlen:=QeW ht;have hho:=Pm.hid (Qfe ht);have htx2:=Pm.hid (QfM ht);rw[ht,Aa] at hd;rw[e2] at c1;rw[<-hlen.1] at hlen;generalize (QV s n.tree).1=l at*;have hl16:l.length<=16:=hlen.2;have htl:(Qc s n.tree).length=l.length:=by rw[<-htx2.out,List.length_map]
 have hle:=texts_le s hg n.tree;have hgt:Ag (∀(k:Nat) p,l[k]? =some p->(Qc s n.tree)[k]? =some (Qj s.1 p).1):=Pm.hid fun k p hk=>by rw[<-htx2.out,List.getElem?_map,hk];rfl
 clear htx2 hlen e2 ht;generalize Qc s n.tree=xs at*;have hbl:=Pm.hid (QaT.eq_def xs)
 have hNo:Ag (∀k,k<l.length->Qa5 xs k=false->QbC s n=([],false)):=Pm.hid fun k hk h=>by
  have:(A3 xs.length).all (Qa5 xs)=false:=by rw[List.all_eq_false];exact⟨k,AP.2 (by omega),by rw[h];simp⟩
  rw[hd.out,hbl.out,this];rfl
 generalize QaT xs=bl at*;generalize hres:QbC s n=res at*;clear hres;refine kE ?_;refine Qa 0 (h:=?_)
 repeat refine kA ?_
 refine Qs (fun m st=> ∃(k:Nat) (acc:List UInt8),k<=l.length/\m=l.length -k/\acc.length<=k*128/\Ag (acc=(xs.take k).flatten)/\Ag ((A3 k).all (Qa5 xs)=true)/\
  st=⟨59,[(0,.d (.pd (rSt s))),(3,.d (.pd (rNode n))),(6,.d (tPtrs l)),(22,.d (tPtrs l)),(23,.d (dI l.length)),(24,.d (dI k)),(8,.d (dS acc))],[.row 1 []]⟩) [0,3,6,22,23,24,8] 1 l.length
  ⟨0,[],by omega,rfl,by simp,Pm.hid (by simp),Pm.hid rfl,by simp[keepE,go_sem]⟩ (round:=?_)
 rintro m st ⟨k,acc,hk,rfl,hal,hac,hA,rfl⟩
 repeat refine kG ?_
 cases q4:decide ((k:Int)<(l.length:Int))
 ·repeat refine kA ?_
  refine Qb (hx:=?_);have:k=l.length:=by simp at q4;omega
  subst this;rw[<-htl] at hA hac;rw[hd.out,hbl.out,if_pos hA.out];rw[List.take_length] at hac;rw[hac.out];simp only[if_true];rfl
 have hk2:k<l.length:=by simp at q4;omega
 obtain⟨x,hx⟩: ∃x,l[k]? =some x:=⟨_,A2 hk2⟩;have hr:=Qu (f:=rPtr) hx;obtain⟨ho1,ho2⟩:=hho.out x (A5 hx);have c3:=bRead s hg x fun _=>ho1
 have hxk:=hgt.out k x hx;have hxl:=hle _ (A5 hxk);have hstep:=Pm.hid (Qsi hxk);have hball:Ag (Qa5 xs k=true->(A3 (k+1)).all (Qa5 xs)=true):=Pm.hid (QsT hxk hA.out)
 have hbat:Ag (Qa5 xs k=(!((Qj s.1 x).1==[])&&(!decide ((k:Int)<(l.length:Int) -1)|| !(((Qj s.1 x).1.length:Int) !=128)))):=Pm.hid (by
  unfold Qa5;rw[AG,hxk,htl];simp only[AN];generalize (Qj s.1 x).1=y
  have a1:decide (k+1=l.length)= !decide ((k:Int)<(l.length:Int) -1):=by
   by_cases h:k+1=l.length
   ·rw[decide_eq_true h,decide_eq_false (by omega)];rfl
   ·rw[decide_eq_false h,decide_eq_true (by omega)];rfl
  have a2:decide (y.length=128)= !((y.length:Int) !=128):=by
   by_cases h:y.length=128
   ·rw[decide_eq_true h,h];rfl
   ·have h2:((y.length:Int) !=128)=true:=by rw[bne_iff_ne];omega
    rw[decide_eq_false h,h2];rfl
  rw[a1,a2])
 have hbad:=Pm.hid (hNo.out k hk2);clear hho hgt hA hd hbl hNo hle hxk ho1 ho2;generalize Qa5 xs k=bk at*;generalize Qj s.1 x=rb at*;obtain⟨tx,fine⟩:=rb;simp only at*
 repeat' first|refine kS ?_|refine qS (iy hr) ?_|refine qS (Qdg rfl rfl (by first|omega|(simp;omega))) ?_|refine kU ?_|refine kV ?_ ?_<;>intro q|fail
 all_goals clear c1 c3 hr
 all_goals first
  |(refine Qb (hx:=?_)
    rw[hbad.out (by rw[hbat.out];clear hball hbad hbat hstep hac;simp_all)])
  |(refine Qn (l.length -(k+1)) (by omega) ⟨k+1,acc++tx,by omega,rfl,by rw[AH];omega,Pm.hid (by rw[hstep.out,hac.out]),Pm.hid (hball.out (by rw[hbat.out];clear hball hbad hbat hstep hac;simp_all)),by simp[keepE,go_sem]⟩)
end Aw
end
section
namespace Gr
variable{kind:Nat->Nat}{en:Nat->Option En}{ch:Nat->Option (List Nat)}
theorem Qup{q:List (List UInt8)}: ∀{p:List (List UInt8)} {k j:Nat} {L:List It},FP kind en [(p,k)] L->find kind en k q=some j->
 ∃M,FD kind (chOf en) [j] M/\M.Sublist (L.map (·.2)):=by
 induction q with
 |nil=>
  intro p k j L h hf;simp only[find,AU] at hf;subst hf;exact⟨_,h.fd,Ah _⟩
 |cons n q ih=>
  intro p k j L h hf;unfold find at hf;split at hf;rotate_left
  ·cases hf
  obtain⟨e,he,hf⟩:=Option.bind_eq_some_iff.1 hf;cases h with
  |file hk' h=>omega
  |@dir _ _ es _ L1 L2 hk' hes h1 h2=>
   cases h2;rw[hes,AN] at he;obtain⟨es1,es2,rfl⟩:=List.append_of_mem (List.mem_of_find?_eq_some he);have hk3:kids p (es1++e::es2)=kids p es1++([(p++[e.1],e.2)]++kids p es2):=by simp[kids]
   rw[hk3] at h1;obtain⟨La,Lr,rfl,g1,g2⟩:=h1.split;obtain⟨Le,Lb,rfl,g3,g4⟩:=g2.split;obtain⟨M,hM,hi⟩:=ih g3 hf;refine⟨M,hM,hi.trans ?_⟩;simp only[AZ,AB,A9];exact((List.sublist_append_left _ _).trans (List.sublist_append_right _ _)).trans (List.sublist_cons_self _ _)
def FD.parts{es L:List Nat}(h:FD kind ch es L)(F:Nat->List Nat)(hF: ∀k∈es,FD kind ch [k] (F k)):L=es.flatMap F:=by
 induction h with
 |nil=>rfl
 |@file k es L hk h ih=>
  have h1:=FD.unique (.file hk .nil) (hF k A8);rw[AK,h1,ih fun j hj=>hF j (A6 _ hj)];rfl
 |@dir k cs es L1 L2 hk hc h1 h2 _ ih=>
  have h3:=FD.unique (.dir hk hc h1 .nil) (hF k A8);rw[AK,h3,ih fun j hj=>hF j (A6 _ hj)];simp
end Gr
namespace Aw
theorem QiH{f:Nat->Int}{n:Nat}: ∀{M:List Nat},M.Nodup->(∀k∈M,k<n)->Qa6 (fun k=>if k∈M then f k else 0) n=(M.map f).sum
 |[],_,_=>by
  induction n with
  |zero=>rfl
  |succ n ih=>unfold Qa6;rw[ih (by simp)];simp
 |a::M,hn,hl=>by
  have h1:=List.nodup_cons.1 hn;have ih:=QiH (f:=f) h1.2 fun k hk=>hl k (A6 _ hk)
  have:=QiI (f:=f) h1.1 (n:=n);rw[if_pos (hl a A8),ih] at this;rw[AB,AD,Int.add_comm,<-this];exact QeO fun k _=>by simp only[List.mem_append,List.mem_cons,List.mem_singleton,List.not_mem_nil,or_false];grind
theorem Ql9{c g:Nat->Nat}: ∀{m:Nat},(∀k,k<m->g k<=c k)->((A3 m).map c).sum<=((A3 m).map g).sum-> ∀k,k<m->c k=g k
 |0,_,_,k,hk=>by omega
 |m+1,h,hs,k,hk=>by
  rw[AE,A9,A9,AC,AC] at hs;simp only[AB,Ac,AD,Ad] at hs
  have hle: ∀n,n<=m->((A3 n).map g).sum<=((A3 n).map c).sum:=fun n=>by
   induction n with
   |zero=>intro _;simp
   |succ n ih=>
    intro hn;have:=h n (by omega);have:=ih (by omega);simp only[AE,A9,AC,AB,Ac,AD,Ad];omega
  have h1:=hle m (Af _);have h2:=h m (by omega)
  by_cases hkm:k=m
  ·subst hkm;omega
  ·exact Ql9 (m:=m) (fun k hk=>h k (by omega)) (by omega) k (by omega)
def Qkn(p:Nat->Bool): ∀m:Nat,((A3 m).filter p).length=((A3 m).map fun k=>if p k then 1 else 0).sum
 |0=>rfl
 |m+1=>by
  rw[AE,List.filter_append,AH,Qkn p m,A9,AC];cases h:p m<;>simp[h]
def QtI{kind:Nat->Nat}{m:Nat}{M:List Nat}(h1: ∀k∈M,k<m/\kind k≠0)(h2: ∀k,k<m->kind k≠0->k∈M)(h:M.length=((A3 m).filter fun k=>decide (kind k≠0)).length):M.Nodup:=by
 rw[Qkn,Gr.QhL m M fun k hk=>(h1 k hk).1] at h
 have:=Ql9 (c:=fun k=>M.count k) (g:=fun k=>if decide (kind k≠0) then 1 else 0) (m:=m) (fun k hk=>by
  by_cases h0:kind k≠0
  ·have:=AF.2 (h2 k hk h0)
   simp only[h0,ne_eq,not_false_eq_true,decide_true,if_true];omega
  ·simp[h0]) (by omega)
 refine List.nodup_iff_count.2 fun k=>?_
 by_cases hm:k∈M
 ·rw[this k (h1 k hm).1];split<;>omega
 ·rw[List.count_eq_zero_of_not_mem hm];omega
def Qrw{s:Pm.Store}{t:Pl.Tree}{q:List (List UInt8)}{j:Int}(f:Qi->Int)(hF:QcR s t)(hj:Qah s (Qe s t) 0 q=some j)(hE:(Qf s ((Qe s t).getD j.toNat Qd)).2=true)
 (hch: ∀e∈(Qf s ((Qe s t).getD j.toNat Qd)).1,Qah s (Qe s t) 0 (q++[e.1])=some e.2)
 (hlen:(QaN s t).1.length=((A3 (Qe s t).length).filter fun k=>decide (Qo (Qe s t) k≠0)).length):
 Qbj s t q f=f ((Qe s t).getD j.toNat Qd)+((Qf s ((Qe s t).getD j.toNat Qd)).1.map fun e=>Qbj s t (q++[e.1]) f).sum:=by
 have hOk:=(Qfa s t).2 hF;unfold Qaf at hOk;simp only[A7,beq_iff_eq,AX,AP] at hOk;obtain⟨L,g1,g2,g3⟩:=Qg7 s hF.root hOk.1.2;have hkL:=g1.fd.kinds
 have hnd:(L.map (·.2)).Nodup:=by
  refine QtI (fun k hk=>?_) (fun k hk h0=>?_) (by rw[<-hlen,g3];simp)
  ·have:Qo (Qe s t) k≠0:=by rcases hkL k hk with h|h<;>omega
   exact⟨Qd9 this,this⟩
  ·have:=hOk.2 k hk
   unfold Qa1 at this;rw[g3,QhG] at this;simp only[A7,AY,beq_iff_eq] at this;unfold Qo at h0;rcases Qfv s t k with e|e
   ·rw[e] at h0;exact absurd rfl h0
   ·have h1:=e.links
    refine AF.1 ?_;rcases this.1 with h|h<;>omega
 have hsub: ∀{q:List (List UInt8)} {i:Int} {M:List Nat},Qah s (Qe s t) 0 q=some i->Gr.FD (Qo (Qe s t)) (Gr.chOf (QaL (Qe s t) (Qf s))) [i.toNat] M->
  M.Nodup/\ ∀k∈M,k<(Qe s t).length:=fun hi hM=>by
  obtain⟨M',h1,h2⟩:=Gr.Qup g1 (QhP (nsOk s t) hi);rw[h1.unique hM];exact⟨h2.nodup hnd,fun k hk=>Qd9 (by rcases h1.kinds k hk with h|h<;>omega)⟩
 obtain⟨M,hM,hs⟩:=Qhe hF hj;obtain⟨hn,hl⟩:=hsub hj hM;rw[hs f,QiH hn hl];have hk:=QeD hE;generalize hes:(Qf s ((Qe s t).getD j.toNat Qd)).1=es at*;have hen:QaL (Qe s t) (Qf s) j.toNat=some (es.map fun e=>(e.1,e.2.toNat)):=by unfold QaL;rw[if_pos hE,hes]
 cases hM with
 |file hk' _=>unfold Qo at hk';rw[hk] at hk';cases hk'
 |@dir _ cs _ L1 L2 hk' hc h1 h2=>
  cases h2;unfold Gr.chOf at hc;rw[hen] at hc;obtain rfl:=Ai hc;rw[AZ,AB,AD]
  congr 1
  replace h1:Gr.FD (Qo (Qe s t)) (Gr.chOf (QaL (Qe s t) (Qf s))) (es.map fun e=>e.2.toNat) L1:=by simpa[Function.comp_def] using h1
  have hB: ∀k∈es.map fun e=>e.2.toNat,∃B,Gr.FD (Qo (Qe s t)) (Gr.chOf (QaL (Qe s t) (Qf s))) [k] B:=fun k hk=>by
   obtain⟨e,he,rfl⟩:=Ab.1 hk;obtain⟨B,hB,_⟩:=Qhe hF (hch e he);exact⟨B,hB⟩
  obtain⟨G,hG⟩: ∃G:Nat->List Nat,∀k∈es.map fun e=>e.2.toNat,Gr.FD (Qo (Qe s t)) (Gr.chOf (QaL (Qe s t) (Qf s))) [k] (G k):=
   ⟨fun k=>if h:k∈es.map fun e=>e.2.toNat then(hB k h).choose else [],fun k hk=>by simp only[dif_pos hk];exact(hB k hk).choose_spec⟩
  rw[h1.parts G hG,List.flatMap_map]
  have: ∀l:List Ql,(∀e∈l,e∈es)->((l.flatMap fun e=>G e.2.toNat).map fun k=>f ((Qe s t).getD k Qd)).sum=(l.map fun e=>Qbj s t (q++[e.1]) f).sum:=by
   intro l;induction l with
   |nil=>intro _;rfl
   |cons e l ih=>
    intro hl;have he:=hl e A8;have hGe:=hG _ (List.mem_map_of_mem (f:=fun e:Ql=>e.2.toNat) he);obtain⟨B,hB,hsB⟩:=Qhe hF (hch e he);obtain⟨hn',hl'⟩:=hsub (hch e he) hB;rw[AK,A9,AC,AB,AD,ih fun x hx=>hl x (A6 _ hx),hsB f,QiH hn' hl'];have:G e.2.toNat=B:=hB.unique hGe;rw[this]
  exact this es fun _ h=>h
end Aw
end
section
open Go.RowKit
namespace Aw
attribute [local irreducible] ASeq ADraw AWP Loc AStep

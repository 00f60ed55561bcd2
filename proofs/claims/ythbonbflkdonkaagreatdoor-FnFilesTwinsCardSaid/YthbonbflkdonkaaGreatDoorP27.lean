/- Of ftw_card; no condition. -/
import Derived.Test.YthbonbflkdonkaaGreatDoorP22
import Derived.Test.YthbonbflkdonkaaGreatDoorP24
set_option linter.all false
set_option maxRecDepth 100000
set_option maxHeartbeats 8000000
open Go.Proofs.Tryz renaming prog->A1
open Go.RowKit renaming Hid->AF
open List renaming take_of_length_le->A0,mem_singleton->A2,length_cons->A3,length_append->A4,getElem?_eq_getElem->A5,map_cons->A8,append_assoc->AA,take_add_one->AB,map_nil->AC,length_drop->AD,not_mem_nil->AE,mem_cons->AG
open Nat renaming le_trans->A6,mul_le_mul_right->A7,zero_add->A9
namespace Go.Proofs.YthbonbflkdonkaaGreatDoor
noncomputable section
section
namespace Aw
variable{p:Pl.Ptr}{α:Type}
def Qbf(s:Pm.Store):Nat->Pl.Ptr->List Pl.Ptr
 |0,p=>if Pl.ptrHole p then [] else [p]
 |n+1,p=>if Pl.ptrHole p then [] else p::(Qj s p (n+1:Nat)).1.flatMap (Qbf s n)
def Qcg(s:Pm.Store):Nat->Pl.Ptr->Prop
 |0,p=>Pl.ptrHole p=true∨(Pl.ptrOk p=true/\p.level=0/\p.birth<=s.2.2.1)
 |n+1,p=>Pl.ptrHole p=true∨(Pl.ptrOk p=true/\p.level=(n+1:Nat)/\p.birth<=s.2.2.1/\(Qj s p (n+1:Nat)).2=true/\ ∀q∈(Qj s p (n+1:Nat)).1,Qcg s n q)
theorem Qgc(s:Pm.Store)(n:Nat)(h:Pl.ptrHole p=true):Qbf s n p=[]:=by
 cases n<;>grind [Qbf]
theorem Qnt{s:Pm.Store}{n:Int}(h:(Qj s p n).2=true)(hh:Pl.ptrHole p≠true):p.level=n:=by grind [Qj]
theorem Qqu(s:Pm.Store)(htx:0<=s.2.2.1): ∀(n:Nat) (l:List Pl.Ptr),(Qbb s n l).2=true->(∀p∈l,Pl.ptrOk p=true/\p.birth<=s.2.2.1)->(∀p∈(Qbb s n l).1,Qcg s 0 p)-> ∀p∈l,Qcg s n p
 |0,l,_,_,h3=>h3
 |n+1,l,h1,h2,h3=>by
  unfold Qbb at h1 h3;split at h1
  ·rename_i ha
   rw[if_pos ha] at h3;have hb: ∀p∈l,(Qj s p (n+1:Nat)).2=true:=fun p hp=>List.all_eq_true.1 ha p hp
   have ih:=Qqu s htx n _ h1 (fun q hq=>by
    grind [Qje]) h3
   intro p hp
   by_cases hh:Pl.ptrHole p=true
   ·exact .inl hh
   ·exact .inr ⟨(h2 p hp).1,Qnt (hb p hp) hh,(h2 p hp).2,hb p hp,fun q hq=>ih q (List.mem_flatMap.2 ⟨p,hp,hq⟩)⟩
  grind
theorem Qh0(h:Pl.ptrHole p=true):p.level=0:=by grind [Pl.hole,Pl.ptrHole]
theorem Qll{s:Pm.Store}{n:Nat}(h:Qcg s n p):Qbf s n p=Qbf s p.level.toNat p/\Qcg s p.level.toNat p/\0<=p.level/\p.level<=n/\Pl.ptrOk p=true:=by
 by_cases hh:Pl.ptrHole p=true
 ·refine⟨by grind [Qgc],?_,?_,?_,?_⟩
  ·rw[Qh0 hh];exact .inl hh
  ·grind [Qh0]
  ·grind [Qh0]
  grind [Pl.ptrHole,QdK]
 ·have hl:p.level=n/\Pl.ptrOk p=true:=by
   cases n with
   |zero=>
    rcases h with h|h
    ·grind
    grind
   |succ n=>
    rcases h with h|h
    ·grind
    grind
  grind
theorem Qp0{β:Type}(f g:α->List β): ∀l:List α,(∀x∈l,f x=g x)->l.flatMap f=l.flatMap g
 :=by intro l;induction l<;>grind
def Qb6:Nat->Nat
 |0=>1
 |n+1=>4*Qb6 n+1
theorem Qqf: ∀n,1<=Qb6 n
 :=by intro l;induction l<;>grind [Qb6]
theorem Qkf{n m:Nat}(h:n<=m):Qb6 n<=Qb6 m:=by
 induction m with
 |zero=>grind
 |succ m ih=>
  grind [Qb6]
theorem sum_le(f:α->Nat)(c:Nat): ∀l:List α,(∀x∈l,f x<=c)->(l.map f).sum<=l.length*c
 :=by intro l;induction l<;>grind [Nat.succ_mul]
theorem QoE(s:Pm.Store): ∀(n:Nat) (p:Pl.Ptr),(Qbf s n p).length<=Qb6 n
 |0,p=>by grind [Qbf,Qb6]
 |n+1,p=>by
  unfold Qbf;split
  ·simp
  ·rw[A3,List.length_flatMap]
   have h1:=sum_le (fun q=>(Qbf s n q).length) (Qb6 n) (Qj s p (n+1:Nat)).1 fun q _=>QoE s n q
   have h2:=QeO s p (n+1:Nat);have h3:(Qj s p (n+1:Nat)).1.length*Qb6 n<=4*Qb6 n:=A7 _ h2
   grind [Qb6]
def QaZ(l:List Pl.Ptr):Nat:=(l.map fun p=>Qb6 p.level.toNat).sum
def Qb5(s:Pm.Store)(l:List Pl.Ptr):List Pl.Ptr:=l.flatMap fun p=>Qbf s p.level.toNat p
def QcJ(s:Pm.Store)(l:List Pl.Ptr):Prop:= ∀p∈l,Qcg s p.level.toNat p/\0<=p.level
theorem Qir(p:Pl.Ptr)(l:List Pl.Ptr):QaZ (p::l)=Qb6 p.level.toNat+QaZ l:=rfl
theorem QsK(l m:List Pl.Ptr):QaZ (l++m)=QaZ l+QaZ m:=by unfold QaZ;grind
theorem QnB(l:List Pl.Ptr):l.length<=QaZ l:=by
 induction l with
 |nil=>simp
 |cons p l ih=>grind [Qir,Qqf]
theorem Quf{s:Pm.Store}{l:List Pl.Ptr}(h:Pl.ptrHole p=true):Qb5 s (p::l)=Qb5 s l:=by grind [Qb5,Qgc]
theorem Que{s:Pm.Store}{l:List Pl.Ptr}(h:Pl.ptrHole p=false)(h0:p.level=0):Qb5 s (p::l)=p::Qb5 s l:=by simp_all[Qb5,Qbf]
theorem Qud{s:Pm.Store}{l:List Pl.Ptr}(h:Pl.ptrHole p=false)(h0:0<p.level)(hs:Qcg s p.level.toNat p):
 Qb5 s (p::l)=p::Qb5 s ((Qj s p p.level).1++l)/\QcJ s (Qj s p p.level).1/\QaZ ((Qj s p p.level).1++l)<QaZ (p::l):=by
 obtain⟨n,hn⟩: ∃n:Nat,p.level=(n+1:Nat):=⟨p.level.toNat -1,by omega⟩;have e:p.level.toNat=n+1:=by omega
 rw[e] at hs;rcases hs with hs|⟨_,_,_,h3,h4⟩
 ·grind
 refine⟨?_,?_,?_⟩
 ·grind [Qb5,Qbf,Qp0,Qll]
 ·rw[hn];exact fun q hq=>⟨(Qll (h4 q hq)).2.1,(Qll (h4 q hq)).2.2.1⟩
 ·rw[QsK,Qir,hn,show((n+1:Nat):Int).toNat=n+1 from rfl]
  have h1:=sum_le (fun q:Pl.Ptr=>Qb6 q.level.toNat) (Qb6 n) (Qj s p (n+1:Nat)).1 fun q hq=>Qkf (by have:=(Qll (h4 q hq)).2.2.2.1;omega)
  have h2:=QeO s p (n+1:Nat);have h5:(Qj s p (n+1:Nat)).1.length*Qb6 n<=4*Qb6 n:=A7 _ h2
  grind [Qb6,QaZ]
def Qao(s:Pm.Store)(t:Pl.Tree):List Pl.Ptr:=Qbf s t.depth.toNat t.root
def Qij{s:Pm.Store}{t:Pl.Tree}(h:t.depth<=2):(Qao s t).length<=21:=
 A6 (QoE s _ _) (A6 (Qkf (show t.depth.toNat<=2 by omega)) (by decide))
theorem Qfv{s:Pm.Store}(h:QZ s=true):0<=s.2.2.1:=by grind [QZ,Pl.inR]
end Aw
end
section
open Go.RowKit
namespace Aw
attribute [local irreducible] ASeq ADraw AWP Loc AStep Fg.PlanF Fg.Flts EndR
def dAll(s:Pm.Store)(hg:QU s)(t:Pl.Tree)(ht:Qx t)(hsub:Qcg s t.depth.toNat t.root):Does A1 221 [.d (dSt s),.d (dTree t)] [] [] (.osl 0 (Qao s t).length 0 (Qao s t).length) [.arr (Qao s t).length 5 31 ((Qao s t).map rPtr)]:=by
 obtain⟨e1,e2,e3,e4,_⟩:=Qll hsub;have hall:AF ([]++Qb5 s [t.root]=Qao s t):=Pm.hid (by unfold Qao Qb5;rw[e1];simp);have hlen:=Qij (s:=s) ht.hi;have hL:AF (QcJ s [t.root]):=Pm.hid fun p hp=>by rw[A2.1 hp];exact⟨e2,e3⟩
 have hm0:QaZ [t.root]<=21:=by
  have h1:=Qkf (n:=t.root.level.toNat) (m:=2) (by have:=ht.hi;omega);have h2:Qb6 2=21:=rfl;have h3:QaZ [t.root]=Qb6 t.root.level.toNat+0:=rfl;omega
 generalize Qao s t=all at*;clear e1 e2 e3 e4 hsub ht;refine kL ?hpin fun gvs=>?_
 case hpin=>intro i C hC;simp at hC
 simp only[parA,gslot,A9];refine kR ?_;refine Qa 0 (h:=?_);refine Qa 1 (h:=?_)
 repeat refine kA ?_
 refine Qa 3 (h:=?_)
 refine Qq (fun m st=> ∃(out l:List Pl.Ptr),m=QaZ l/\AF (out++Qb5 s l=all)/\AF (QcJ s l)/\QaZ l<=21/\
  st=⟨47,[(5,.osl 2 out.length 0 out.length),(6,.d (tPtrs l)),(2,.d (.pd (rSt s))),(1000000,.gh [] gvs)],[.row 1 [],.row 1 [],.arr out.length 5 31 (out.map rPtr)]⟩) [5,6,2,1000000] 3 (QaZ [t.root]) ⟨[],[t.root],rfl,hall,hL,hm0,by simp[keepE,go_sem]⟩ (round:=?_)
 rintro m st ⟨out,l,rfl,hO,hS,hm,rfl⟩;have hol:out.length<=21:=by have:=congrArg List.length hO.out;rw[A4] at this;omega
 have hll:=QnB l
 repeat refine kG ?_
 cases l with
 |nil=>
  repeat refine kA ?_
  all_goals first|exfalso;simp at*;done|skip
  have h:=hO.out;rw[show Qb5 s []=[] from rfl,List.append_nil] at h;rw[<-h];refine QdU [4,1000000] [2] (env':=[(4,.osl 0 out.length 0 out.length),(1000000,.gh [] gvs)]) (H':=[.arr out.length 5 31 (out.map rPtr)]) (h:=?_);exact QdL (hx:=rfl) (hH:=rfl)
 |cons p l=>
  have hp:=hS.out p (by simp);have hSl:AF (QcJ s l):=Pm.hid fun q hq=>hS.out q (by simp[hq])
  have hr:((p::l).map rPtr)[(0:Int).toNat]? =some (rPtr p):=rfl;have ch:=Qdt p;have hlt:QaZ l<QaZ (p::l):=by rw[Qir];have:=Qqf p.level.toNat;omega
  have hll2:=QnB l;cases hh:Pl.ptrHole p;rotate_left
  ·rw[hh] at ch
   have hO2:AF (out++Qb5 s l=all):=Pm.hid (by rw[<-hO.out,Quf hh])
   repeat' first|refine kS ?_|refine qS (iy hr) ?_|refine qS (QgT rfl rfl rfl (by omega) (by first|(simp;done)|(simp;omega))) ?_|refine Qe1 Ty.h rfl Ty.h (hb:=?_) (hcell:=?_) (kk:=?_)|refine kU ?_|refine kV ?_ ?_<;>intro q|fail
   all_goals first|exact Qd0 l|simp;omega|exfalso;simp at*;done|skip
   refine Qjk 4 (h:=?_);refine Qg (QaZ l) hlt ⟨out,l,rfl,hO2,hSl,by omega,?_⟩;simp[keepE,go_sem,A0]
  ·rw[hh] at ch
   have hob:=QoF s hg p p.level
   by_cases h0:p.level=0
   ·have hO2:AF ((out++[p])++Qb5 s l=all):=Pm.hid (by rw[<-hO.out,Que hh h0,AA];rfl)
    have hd0:decide (p.level>0)=false:=by rw[h0];rfl
    repeat' first|refine kS ?_|refine qS (iy hr) ?_|refine qS (QgT rfl rfl rfl (by omega) (by first|(simp;done)|(simp;omega))) ?_|refine Qe1 Ty.h rfl Ty.h (hb:=?_) (hcell:=?_) (kk:=?_)|refine QV Ty.h rfl Ty.h (hb:=?_) (kk:=?_)|refine kU ?_|refine kV ?_ ?_<;>intro q|fail
    all_goals first|exact Qd0 l|simp;omega|exfalso;simp at*;done|exfalso;simp at*;omega|skip
    refine Qjk 4 (h:=?_);refine Qg (QaZ l) hlt ⟨out++[p],l,rfl,hO2,hSl,by omega,?_⟩;simp[keepE,go_sem,A0]
   ·obtain⟨k1,k2,k3⟩:=Qud (l:=l) hh (by omega) hp.1
    have hO2:AF ((out++[p])++Qb5 s ((Qj s p p.level).1++l)=all):=Pm.hid (by rw[<-hO.out,k1,AA];rfl);have hSn:AF (QcJ s ((Qj s p p.level).1++l)):=Pm.hid fun q hq=>(List.mem_append.1 hq).elim (k2 q) (hSl.out q)
    have hbl:=QeO s p p.level;clear k1 k2;generalize Qj s p p.level=bb at*;obtain⟨bl,bok⟩:=bb;simp only at hO2 hSn hbl k3
    repeat' first|refine kS ?_|refine qS (iy hr) ?_|refine qS (QgT rfl rfl rfl (by omega) (by first|(simp;done)|(simp;omega))) ?_|refine Qe1 Ty.h rfl Ty.h (hb:=?_) (hcell:=?_) (kk:=?_)|refine QV Ty.h rfl Ty.h (hb:=?_) (kk:=?_)|refine kU ?_|refine kV ?_ ?_<;>intro q|fail
    all_goals first|exact Qd0 l|exact Qd0 bl|simp;omega|exfalso;simp at*;done|exfalso;simp at*;omega|skip
    refine Qew 4 (h:=?_)
    repeat' first|refine kS ?_|refine Qe1 Ty.h rfl Ty.h (hb:=?_) (hcell:=?_) (kk:=?_)|refine kU ?_|fail
    ·intro r hr
     exact Qd0 l r (by simpa[A0] using hr)
    ·simp;omega
    ·refine Qjk 6 (h:=?_)
     refine Qg (QaZ (bl++l)) k3 ⟨out++[p],bl++l,rfl,hO2,hSn,by omega,?_⟩;simp[keepE,go_sem,A0]
theorem Qub{S:Nat->Prop}{w:World}{b:Bool}{l:List (List UInt8)}{v:Value}(h:RelD S w (.sl b 1 (l.map fun s=>[dS s])) v)(hS: ∀b,S b->b<w.heap.size)(hx: ∀x∈l,x.length<=Pm.big):
 ∃A c,v= .slice A l.length c/\Pm.At w w.heap.size A l:=by
 generalize hr:(l.map fun s=>[dS s])=rows at h;cases h with
 |slnil a cap=>
  have:l=[]:=by simp_all
  subst this;exact⟨_,_,rfl,fun h=>absurd h (by simp)⟩
 |sl _ _ _ bb o cap g hb hn hcap hc hrr=>
  subst hr;refine⟨_,_,by rw[List.length_map],fun _=>⟨bb,o,rfl,hS bb hb,fun i x hi=>⟨[.string ⟨x.toArray⟩],⟨rfl,hx x (List.mem_of_getElem? hi)⟩,fun j v hj=>?_⟩⟩⟩
  match j,hj with
  |0,hj=>
   obtain rfl:_=v:=by simpa using hj
   have h1:(l.map fun s=>[dS s])[i]? =some [dS x]:=by grind
   have h2:=hc i 0 _ _ h1 rfl;have h3:=hrr i 0 _ _ h1 rfl;generalize g i 0=y at*;cases h3;exact h2
theorem Sm.lt{B:Bs}{σ:Sg}{S:Nat->Prop}{H:List Blk}{w:World}(h:Sm B σ S H w): ∀b,S b->b<w.heap.size:=fun b hb=>(h.sUp b hb).1
theorem one_arg{α:Type}{cargs:List α}(h:1=cargs.length): ∃v,cargs=[v]:=by
 match cargs,h with
 |[v],_=>grind
theorem QpP(l:List (List UInt8))(h1:l.length<=Pm.big)(h2: ∀s∈l,s.length<=4294967296):Pure A1 234 [dStrs l] (.tup [dS ((Pl.Qdi l).getD []),dB (Pl.Qdi l).isSome]):=by
 intro B σ S H w cargs hB hS hl hr;obtain⟨v,rfl⟩:=one_arg hl;obtain⟨A,c,rfl,hA⟩:=Qub (hr 0 _ v rfl rfl) hS.lt fun x hx=>by grind [Pm.big]
 refine(Pm.QmV A l c w h1 hA h2 (hB.ltOf hS)).mono ?_;rintro e w' ⟨rfl,hb⟩;refine⟨_,rfl,hb,?_⟩;rw[Pm.QqM];refine .tup _ [.string ⟨((Pl.Qdi l).getD []).toArray⟩,.bool (Pl.Qdi l).isSome] rfl fun i d x hd hx=>?_
 match i,hd,hx with
 |0,hd,hx=>simp at hd hx;subst hd hx;exact .v _
 |1,hd,hx=>simp at hd hx;subst hd hx;exact .v _
theorem Qnv(kind size:Int):Pure A1 88 [dI kind,dI size] (dI (Qag kind size)):=by
 have hd:=Pm.hid (Qag.eq_def kind size);have he:=Pm.hid (Qbj.eq_def kind)
 have key: ∀e:Int,Qbj kind=e->e=12∨e=128->Qag kind size=if Pl.inR size 0 (16*e) then(size+e -1)/e else -1:=fun e h1 h2=>by
  rw[hd.out,h1,if_neg (by omega)]
 by_cases h1:kind=1
 ·rw[key 12 (by rw[he.out,if_pos h1]) (.inl rfl)]
  subst h1;clear hd he key;cases hR:Pl.inR size 0 (16*12)
  ·refine kB ?_
   repeat' first|refine kS ?_|refine qS (Qd3 rfl rfl (by decide)) ?_|refine qS (lC (hR▸bIn size 0 (16*12))) ?_|refine kU ?_|fail
   all_goals exact Qb (hx:=rfl)
  have hb:0<=size/\size<=16*12:=by simpa[Pl.inR] using hR
  refine kB ?_
  repeat' first|refine kS ?_|refine qS (Qd3 rfl rfl (by decide)) ?_|refine qS (lC (hR▸bIn size 0 (16*12))) ?_|refine qS (Qg6 rfl rfl (by omega) (by omega)) ?_|refine kU ?_|fail
  all_goals exact Qb (hx:=rfl)
 by_cases h2:kind=2
 ·rw[key 128 (by rw[he.out,if_neg h1,if_pos h2]) (.inr rfl)]
  subst h2;clear hd he key;cases hR:Pl.inR size 0 (16*128)
  ·refine kB ?_
   repeat' first|refine kS ?_|refine qS (Qd3 rfl rfl (by decide)) ?_|refine qS (lC (hR▸bIn size 0 (16*128))) ?_|refine kU ?_|fail
   all_goals exact Qb (hx:=rfl)
  have hb:0<=size/\size<=16*128:=by simpa[Pl.inR] using hR
  refine kB ?_
  repeat' first|refine kS ?_|refine qS (Qd3 rfl rfl (by decide)) ?_|refine qS (lC (hR▸bIn size 0 (16*128))) ?_|refine qS (Qg6 rfl rfl (by omega) (by omega)) ?_|refine kU ?_|fail
  all_goals exact Qb (hx:=rfl)
 have hpz:Qag kind size= -1:=by rw[hd.out,if_pos (by rw[he.out,if_neg h1,if_neg h2])]
 rw[hpz];clear hd he key hpz;refine kB ?_
 repeat' first|refine kA ?_|refine kV ?_ ?_<;>intro q|fail
 ·exact absurd (by simpa using q) h1
 ·exact absurd (by simpa using q) h2
 exact Qb (hx:=rfl)
theorem bNodeOk(n:Qk):Pure A1 38 [dNode n] (dB (QF n)):=by
 have hd:AF (QF n=(decide (0<=Qag n.kind n.size)&&(n.tree.many==Qag n.kind n.size)&&(n.tree.depth==Qbo (Qag n.kind n.size))&&Pl.ptrOk n.tree.root&&
  Pl.inR n.links 1 (if n.kind=2 then 1 else 9)&&(Pl.ptrHole n.tree.root||(n.tree.root.level==n.tree.depth)))):=Pm.hid rfl
 have c1:=Qnv n.kind n.size;generalize Qag n.kind n.size=pc at*;have c2:Pure A1 89 [dI pc] (dI (Qbo pc)):=bDepth pc;generalize Qbo pc=dp at*;have c3:=bPtrOk n.tree.root;have c4:=Qey n.tree.root;generalize Pl.ptrOk n.tree.root=ok at*;generalize Pl.ptrHole n.tree.root=ho at*;refine kE ?_;refine Qa 0 (h:=?_)
 repeat' first|refine kS ?_|refine qD (Qdr cK (bIn _ _ _) rfl) ?_|refine kU ?_|refine kV ?_ ?_<;>intro q|fail
 all_goals
  refine Qb (hx:=?_);refine congrArg dB ?_;rw[hd.out];clear c1 c2 c3 c4 hd
  simp_all
 all_goals
  intros
  omega
theorem QqO{n:Int}(h0:0<=n)(h1:n<=999999999):Pl.numPut n=Pl.dec n.toNat:=by grind [Pl.numPut]
theorem QgR{n:Qk}(h:NodeB n):[n.kind,n.links,n.size].map Pl.numPut++Pl.Qe9 n.tree++[[101,110,100]]=Qaf n:=by
 have h1:=h.kind;have h2:=h.links;have h3:=h.size;have h4:=h.depth;have h5:=h.many
 grind [Pl.Qe9,Qaf,QqO]
def bCutHit(a r:List UInt8)(h:(58:UInt8)∉a)(hs:(a++58::r).length<=4294967280):Pure A1 136 [dS (a++58::r),dS [58]] (.tup [dS a,dS r,dB true]):=
 Qfe (xs:=[.string ⟨a.toArray⟩,.string ⟨r.toArray⟩,.bool true]) rfl fun w hL=>Pm.cutHit a r h w hs hL
def QtY(a:List UInt8)(h:(58:UInt8)∉a)(hs:a.length<=4294967280):Pure A1 136 [dS a,dS [58]] (.tup [dS a,dS [],dB false]):=
 Qfe (xs:=[.string ⟨a.toArray⟩,.string ⟨#[]⟩,.bool false]) rfl fun w hL=>Pm.cutMiss a h w hs hL
def bClone(s:List UInt8)(hs:s.length<=Pm.big):Pure A1 138 [dS s] (dS s):=Qd5 rfl fun w _=>Pm.imClone s w hs
theorem QpQ(s:List UInt8)(hs:s.length<=Pm.big):Pure A1 194 [dS s] (.tup [tStrs (Qb4 s).1,dB (Qb4 s).2]):=by
 simp only[Pm.big] at hs
 by_cases h20:s.length<=2048
 rotate_left
 ·have hr:AF (Qb4 s=([],false)):=Pm.hid (Qiw fun l hl=>h20 hl.2.1)
  generalize Qb4 s=res at*;refine kB ?_
  repeat' first|refine kA ?_|refine kV ?_ ?_<;>intro q|fail
  ·refine QdT 2 true 1 (h:=?_)
   refine Qb (hx:=?_);rw[hr.out];rfl
  ·exfalso;simp at*;omega
 refine kB ?_
 repeat' first|refine kA ?_|refine kV ?_ ?_<;>intro q|fail
 ·exfalso;simp at*;omega
 refine QeW 4 1 9 (h:=?_)
 refine Qq (fun m st=> ∃(g:Nat) (out:List (List UInt8)) (rest:List UInt8),m=rest.length/\AF (s=Pl.enc out++rest)/\rest.length<=2048/\out.length<=60/\
  st=⟨56,[(4,.osl 0 g 0 out.length),(5,.d (dS rest))],[.arr g 1 9 (out.map fun s=>[dS s])]⟩) [4,5] 1 s.length ⟨0,[],s,rfl,Pm.hid rfl,h20,by simp,rfl⟩ (round:=?_)
 rintro m st ⟨g,out,rest,rfl,hO,hrl,hlen,rfl⟩
 repeat refine kG ?_
 by_cases hr:rest=[]
 ·subst hr
  have hr:AF (Qb4 s=(out,true)):=Pm.hid (rg_is ⟨hlen,h20,by rw[hO.out];simp⟩);generalize Qb4 s=res at*
  repeat refine kA ?_
  (refine Qa 0 (h:=?_);refine Qb (hx:=?_))
  rw[hr.out];simp[A0]
 have hne:(!(rest==([]:List UInt8)))=true:=by simpa using hr
 by_cases hc:(58:UInt8)∈rest
 rotate_left
 ·have hf:AF (Qb4 s=([],false)):=Pm.hid (Qiw (Pl.QmZ hO.out hr hc))
  have c1:=QtY rest hc (by omega);have c2:=bNumGet rest (by unfold Pm.big;omega);generalize (Pl.numGet rest).getD 0=n1 at*;generalize (Pl.numGet rest).isSome=o1 at*;generalize Qb4 s=res at*
  repeat' first|refine kA ?_|refine kV ?_ ?_<;>intro q|fail
  all_goals first
   |(refine QdT 2 true 1 (h:=?_)
     refine Qb (hx:=?_)
     rw[hf.out];rfl)
   |exact absurd (hne.symm.trans ‹_=false›) (by decide)
 obtain⟨num,tail,rfl,hn⟩:=Pl.QeH hc;have hnl:num.length<=2048/\tail.length<=2048:=by simp only[A4,A3] at hrl;omega
 have c1:=bCutHit num tail hn (by omega);have c2:=bNumGet num (by unfold Pm.big;omega);cases hg:Pl.numGet num with
 |none=>
  rw[hg] at c2;have hf:AF (Qb4 s=([],false)):=Pm.hid (Qiw (Pl.Qrv h20 hO.out hn (Or.inl hg)));generalize Qb4 s=res at*
  repeat' first|refine kA ?_|refine kV ?_ ?_<;>intro q|fail
  all_goals first
   |(refine QdT 2 true 1 (h:=?_)
     refine Qb (hx:=?_)
     rw[hf.out];rfl)
   |exact absurd (hne.symm.trans ‹_=false›) (by decide)
 |some n=>
  rw[hg] at c2;simp only[Option.getD_some,Option.isSome_some] at c2;have F1:AF (tail.length<n->Qb4 s=([],false)):=Pm.hid fun h=>Qiw (Pl.Qrv h20 hO.out hn (Or.inr ⟨n,hg,h⟩))
  have F2:AF (out.length=60->Qb4 s=([],false)):=Pm.hid fun h=>Qiw (Pl.Qt7 hO.out hr (by omega))
  have T:AF (n<=tail.length->s=Pl.enc (out++[tail.take n])++tail.drop n):=Pm.hid fun h=>Pl.Qt6 hO.out hg h
  have c3:=bClone (tail.take n) (by rw[List.length_take];unfold Pm.big;omega);generalize Qb4 s=res at*
  repeat' first|refine kS ?_|refine qS (Qfj rfl rfl rfl (by simp) (by simp at*;omega)) ?_|refine qS (Qfi rfl rfl rfl (by simp) (by simp at*;omega)) ?_|refine QV Ty.h rfl Ty.h (hb:=?_) (kk:=?_)|refine kU ?_|refine kV ?_ ?_<;>intro q|fail
  all_goals first
   |exact absurd (hne.symm.trans ‹_=false›) (by decide)
   |(refine QdT 2 true 1 (h:=?_)
     refine Qb (hx:=?_)
     first
      |(rw[F1.out (by simp at*;omega)];rfl)
      |(rw[F2.out (by simp at*;omega)];rfl))
   |(simp;omega)
   |(have hnt:n<=tail.length:=by clear F1 F2 T;simp only[decide_eq_false_iff_not] at*;omega
     have hn60:out.length≠60:=fun e=>by
      have:((out.length:Int)==60)=true:=by rw[e];rfl
      exact absurd (this.symm.trans ‹_=false›) (by decide)
     refine Qg (tail.drop n).length ?_ ⟨g+1,out++[tail.take n],tail.drop n,rfl,Pm.hid (T.out hnt),?_,?_,?_⟩
     ·rw[AD,A4,A3];omega
     ·rw[AD];omega
     ·simp;omega
     ·simp[keepE,go_sem])
theorem Qst(l:List Int)(h1:l.length<=1000000):Pure A1 235 [dInts l] (tStrs (l.map Pl.numPut)):=by
 refine kB ?_
 repeat refine kA ?_
 refine QeW 3 1 9 (h:=?_);refine Qq (fun m st=> ∃k:Nat,k<=l.length/\m=l.length -k/\st=⟨19,[(6,.d (dInts l)),(7,.d (dI l.length)),(8,.d (dI k)),(3,.osl 0 k 0 k)],[.arr k 1 9 (((l.take k).map Pl.numPut).map fun s=>[dS s])]⟩) [6,7,8,3] 1 l.length ⟨0,by omega,rfl,by simp[keepE,go_sem]⟩ (round:=?_);rintro m st ⟨k,hk,rfl,rfl⟩
 repeat refine kG ?_
 cases q3:decide ((k:Int)<(l.length:Int))
 ·have:k=l.length:=by simp at q3;omega
  subst this
  repeat refine kA ?_
  refine Qa 0 (h:=?_);refine Qb (hx:=?_);simp;exact A0 (by simp)
 have hk2:k<l.length:=by simp at q3;omega
 obtain⟨y,hy⟩: ∃y,l[k]? =some y:=⟨_,A5 hk2⟩;have hr:=Qs (f:=fun n=>[dI n]) hy;have c:=bNumPut y;have hs:((l.take (k+1)).map Pl.numPut).map (fun s=>[dS s])=((l.take k).map Pl.numPut).map (fun s=>[dS s])++[[dS (Pl.numPut y)]]:=by rw[AB,hy];simp
 have hlk:(((l.take k).map Pl.numPut).map fun s=>[dS s]).length=k:=by simp;omega
 generalize ((l.take k).map Pl.numPut).map (fun s=>[dS s])=R at*
 repeat' first|refine kS ?_|refine qS (iy hr) ?_|refine QV Ty.h rfl Ty.h (hlen:=hlk.symm) (hb:=?_) (kk:=?_)|refine kU ?_|fail
 all_goals first
  |(show(R.length+1)*16<=140737488355328;omega)
  |(refine Qg (l.length -(k+1)) (by omega) ⟨k+1,by omega,rfl,?_⟩
    rw[hs];simp[keepE,go_sem,hlk];done)
theorem Qss(l:List Int)(h1:l.length<=1000000):Does A1 235 [.d (.sl true 1 (l.map fun n=>[dI n]))] [] [] (.osl 0 l.length 0 l.length) [.arr l.length 1 9 ((l.map Pl.numPut).map fun s=>[dS s])]:=by
 refine kL ?hpin fun gvs=>?_
 case hpin=>intro i C hC;simp at hC
 simp only[parA,gslot,A9,Nat.reduceAdd]
 repeat refine kA ?_
 refine QeW 3 1 9 (h:=?_);refine Qq (fun m st=> ∃k:Nat,k<=l.length/\m=l.length -k/\st=⟨19,[(6,.d (.sl true 1 (l.map fun n=>[dI n]))),(7,.d (dI l.length)),(8,.d (dI k)),(3,.osl 0 k 0 k),(1000000,.gh [] gvs)],[.arr k 1 9 (((l.take k).map Pl.numPut).map fun s=>[dS s])]⟩) [6,7,8,3,1000000] 1 l.length ⟨0,by omega,rfl,by simp[keepE,go_sem]⟩ (round:=?_);rintro m st ⟨k,hk,rfl,rfl⟩
 repeat refine kG ?_
 cases q3:decide ((k:Int)<(l.length:Int))
 ·have:k=l.length:=by simp at q3;omega
  subst this;rw[List.take_length]
  repeat refine kA ?_
  refine Qev [2,1000000] 1 (H':=[.arr l.length 1 9 ((l.map Pl.numPut).map fun s=>[dS s])]) (hH:=fun R hR=>hR) (h:=?_);exact QdL (hx:=rfl) (hH:=rfl)
 have hk2:k<l.length:=by simp at q3;omega
 obtain⟨y,hy⟩: ∃y,l[k]? =some y:=⟨_,A5 hk2⟩;have hr:=Qs (f:=fun n=>[dI n]) hy;have c:=bNumPut y;have hs:((l.take (k+1)).map Pl.numPut).map (fun s=>[dS s])=((l.take k).map Pl.numPut).map (fun s=>[dS s])++[[dS (Pl.numPut y)]]:=by rw[AB,hy];simp
 have hlk:(((l.take k).map Pl.numPut).map fun s=>[dS s]).length=k:=by simp;omega
 generalize ((l.take k).map Pl.numPut).map (fun s=>[dS s])=R at*
 repeat' first|refine kS ?_|refine qS (iy hr) ?_|refine QV Ty.h rfl Ty.h (hlen:=hlk.symm) (hb:=?_) (kk:=?_)|refine kU ?_|fail
 all_goals first
  |(show(R.length+1)*16<=140737488355328;omega)
  |(refine Qg (l.length -(k+1)) (by omega) ⟨k+1,by omega,rfl,?_⟩
    rw[hs];simp[keepE,go_sem,hlk];done)
theorem Qmd(t:Pl.Tree):Pure A1 236 [dTree t] (tStrs (Pl.Qe9 t)):=by
 have cP:=bPtrPut t.root;have cN:=(Qst [t.depth,t.many] (by simp)).arg (l:=[.sl true 1 [[dI t.depth],[dI t.many]]]);refine kE ?_;refine Qa 0 (h:=?_)
 repeat' first|refine kS ?_|refine qD (QdO (T:=24) Ty.h rfl Ty.h) ?_|(show AWP _ (.region 1 _ _) _ _;refine(Fg.awp_drawF (id:=1) [] [10] ?_))|refine(QkY Ty.h rfl Ty.h (hcell:=?_) (hb:=?_) (kk:=?_))|refine kU ?_|fail
 all_goals first|(intro r hr d hd;simp at hr;rcases hr with rfl|rfl<;>(simp at hd;subst hd;rfl))|simp;done|refine Qa 1 (h:=?_);refine Qb (hx:=?_);rfl
def QtU(n:Qk):Pure A1 196 [dNode n] (dS (Q6 n)):=by
 have hd:=Pm.hid (Q6.eq_def n);have c1:=bNodeOk n;refine kE ?_;refine Qa 0 (h:=?_);cases h1:QF n
 ·rw[h1] at c1
  repeat refine kA ?_
  refine Qb (hx:=?_);rw[hd.out,h1];rfl
 rw[h1] at c1;have hb:=Qeh h1
 have hL: ∀x∈Qaf n,x.length<=4294967296:=by
  intro x hx;have hdl: ∀k,k<=4294967296->(Pl.dec k).length<=4294967296:=fun k hk=>A6 (Pl.Qdc 10 k (by omega)) (by decide)
  have h1:=hb.kind;have h2:=hb.links;have h3:=hb.size;have h4:=hb.depth;have h5:=hb.many;simp only[Qaf,AG,AE,or_false] at hx;rcases hx with rfl|rfl|rfl|rfl|rfl|rfl|rfl
  ·exact hdl _ (by omega)
  ·exact hdl _ (by omega)
  ·exact hdl _ (by omega)
  ·exact A6 (Pm.ptrPut_len _) (by decide)
  ·exact hdl _ (by omega)
  ·exact hdl _ (by omega)
  ·decide
 have c5:=(QpP (Qaf n) (by simp[Qaf,Pm.big]) hL).arg (l:=[tStrs (Qaf n)]);rw[<-QgR hb] at c5;have hk:=hb.kind;have hk2:=hb.links;have hk3:=hb.size;have hk4:=hb.depth;have hk5:=hb.many;have c2:=Qss [n.kind,n.links,n.size] (by simp);have c3:=Qmd n.tree;simp only[A8,AC,A3,List.length_nil,A9,Nat.reduceAdd] at c2;simp only[Pl.Qe9] at c3;simp only[Pl.Qe9,A8,AC,List.cons_append,List.nil_append] at c5
 repeat' first|refine kS ?_|(show AWP _ (.region 3 _ _) _ _;refine(Fg.awp_drawF (id:=3) [8,9,12] [7,11,13] ?_))|refine(Fg.aw_fltL (hl:=fun H=>QdO Ty.h rfl Ty.h) (k:=?_))|refine(Qii [] c2 cK (k:=?_))|refine qD (QdO (T:=24) Ty.h rfl Ty.h) ?_|refine(QkY Ty.h rfl Ty.h (hcell:=?_) (hb:=?_) (kk:=?_))|refine qD (QfR cK c5 rfl) ?_|refine kU ?_|fail
 ·intro r hr d hd
  simp only[A8,AC,AG,AE,or_false] at hr;rcases hr with rfl|rfl|rfl<;>(obtain rfl:=A2.1 hd;rfl)
 ·simp
 ·intro r hr d hd
  obtain rfl:=A2.1 hr;obtain rfl:=A2.1 hd;rfl
 ·simp
 ·refine Qb (hx:=?_)
  rw[hd.out,h1,if_pos rfl,<-QgR hb];rfl
theorem bTreeOf(x y z:List UInt8)(hx:x.length<=2048)(hy:y.length<=2048)(hz:z.length<=2048):
 Pure A1 195 [tStrs [x,y,z]] (.tup [dTree ⟨(QD x).1,((Pl.numGet y).getD 0:Nat),((Pl.numGet z).getD 0:Nat)⟩,dB ((QD x).2&&(Pl.numGet y).isSome&&(Pl.numGet z).isSome)]):=by
 have c1:=bPtrGet x (by omega);have c2:=bNumGet y (by unfold Pm.big;omega);have c3:=bNumGet z (by unfold Pm.big;omega);generalize (Pl.numGet y).getD 0=n1 at*;generalize (Pl.numGet z).getD 0=n2 at*;generalize (Pl.numGet y).isSome=o1 at*;generalize (Pl.numGet z).isSome=o2 at*;generalize QD x=pp at*;obtain⟨⟨p1,p2,p3,p4,p5⟩,okp⟩:=pp;refine kC ?_
 repeat' first|refine kS ?_|refine qS (iy rfl) ?_|refine kU ?_|refine kV ?_ ?_<;>intro q|fail
 all_goals
  (refine Qa 0 (h:=?_);refine QK (hx:=?_))
  simp_all
theorem QtV(s:List UInt8)(hs:s.length<=Pm.big):Pure A1 135 [dS s] (.tup [dNode (Qo s).1,dB (Qo s).2]):=by
 have c:=QpQ s hs;rcases QnH s with⟨hr,hok⟩|h0;rotate_left
 ·have hn:AF (Qo s=(Qd,false)):=Pm.hid (QhZ (.inl (by rw[h0])))
  rw[h0] at c;refine kC ?_
  repeat refine kA ?_
  (refine Qa 0 (h:=?_);refine QK (hx:=?_))
  rw[hn.out];rfl
 by_cases h7:(Qb4 s).1.length=7
 rotate_left
 ·have hn:AF (Qo s=(Qd,false)):=Pm.hid (QhZ (.inr h7))
  rw[hok] at c;generalize (Qb4 s).1=l at*;clear hr hok;refine kC ?_
  repeat' first|refine kA ?_|refine kV ?_ ?_<;>intro q|fail
  all_goals first|exfalso;simp only[bne_eq_false_iff_eq] at*;omega|((refine Qa 0 (h:=?_);refine QK (hx:=?_));rw[hn.out];rfl)
 rw[hok] at c;generalize (Qb4 s).1=l at*
 match l,h7 with
 |[y1,y2,y3,y4,y5,y6,y7],_=>
 have hl:=Qq6 hr;have hg:=Pm.hid (Quw hr);have cn: ∀x∈[y1,y2,y3,y4,y5,y6,y7],Pure A1 137 [dS x] (.tup [dI ((Pl.numGet x).getD 0:Nat),dB (Pl.numGet x).isSome]):=fun x hx=>bNumGet x (by have:=hl x hx;unfold Pm.big;omega)
 have c1:=cn y1 (by simp);have c2:=cn y2 (by simp);have c3:=cn y3 (by simp);have hno: ∀P:Prop,(∀p,Qbn s p->P)-> ¬P->Qo s=(Qd,false):=fun P h hn=>Ql7 fun p hp=>hn (h p hp)
 have f1:AF ((Pl.numGet y1).isSome=false->Qo s=(Qd,false)):=Pm.hid fun e=>hno ((Pl.numGet y1).isSome=true) (fun p hp=>by rw[(QeD hr hp).1];rfl) (by rw[e];simp)
 have f2:AF ((Pl.numGet y2).isSome=false->Qo s=(Qd,false)):=Pm.hid fun e=>hno ((Pl.numGet y2).isSome=true) (fun p hp=>by rw[(QeD hr hp).2.1];rfl) (by rw[e];simp)
 have f3:AF ((Pl.numGet y3).isSome=false->Qo s=(Qd,false)):=Pm.hid fun e=>hno ((Pl.numGet y3).isSome=true) (fun p hp=>by rw[(QeD hr hp).2.2.1];rfl) (by rw[e];simp)
 have f5:AF (((QD y4).2&&(Pl.numGet y5).isSome&&(Pl.numGet y6).isSome)=false->Qo s=(Qd,false)):=Pm.hid fun e=>hno (((QD y4).2&&(Pl.numGet y5).isSome&&(Pl.numGet y6).isSome)=true) (fun p hp=>by rw[(QeD hr hp).2.2.2.1,(QeD hr hp).2.2.2.2.1,(QeD hr hp).2.2.2.2.2];rfl) (by rw[e];simp)
 have cp:=QtU (Qba y1 y2 y3 y4 y5 y6);have t1:=bTreeOf y4 y5 y6 (hl y4 (by simp)) (hl y5 (by simp)) (hl y6 (by simp));obtain⟨N,hN⟩: ∃N,N=Qba y1 y2 y3 y4 y5 y6:=⟨_,rfl⟩;rw[<-hN] at cp hg;unfold Qba at hN;clear cn hl hr hok hno;generalize (Pl.numGet y1).isSome=o1 at*;generalize (Pl.numGet y2).isSome=o2 at*;generalize (Pl.numGet y3).isSome=o3 at*;generalize ((QD y4).2&&(Pl.numGet y5).isSome&&(Pl.numGet y6).isSome)=o5 at*;generalize (Pl.numGet y1).getD 0=n1 at*;generalize (Pl.numGet y2).getD 0=n2 at*;generalize (Pl.numGet y3).getD 0=n3 at*;generalize (Pl.numGet y5).getD 0=n5 at*;generalize (Pl.numGet y6).getD 0=n6 at*;generalize (QD y4).1=pp at*;obtain⟨p1,p2,p3,p4,p5⟩:=pp;generalize Q6 N=t at*;generalize Qo s=res at*;subst hN;refine kC ?_
 repeat' first|refine kS ?_|refine stepS2 (Qtn Ty.h rfl Ty.h) (k:=?_)|refine qS (QmN Ty.h rfl rfl rfl) ?_|refine kU ?_|fail
 refine Qq (fun m st=> ∃k a b d:Int,((m=3/\k=0/\a=0/\b=0/\d=0)∨(m=2/\o1=true/\k=1/\a=n1/\b=0/\d=0)∨(m=1/\o1=true/\o2=true/\k=2/\a=n1/\b=n2/\d=0)∨(m=0/\o1=true/\o2=true/\o3=true/\k=3/\a=n1/\b=n2/\d=n3))/\
  st=⟨63,[(0,.d (dS s)),(4,.d (tStrs [y1,y2,y3,y4,y5,y6,y7])),(6,.ptr 1 0 0),(25,.rsl 2 0 3),(26,.d (dI 3)),(27,.d (dI k)),(2,.ptr 0 0 0)],
   [.row 0 [.d (dI 0),.d (dI 0),.d (dI 0),.d (dI 0),.d (dI 0),.d (dI 0),.d (dI 0),.d (dI 0),.d (dI 0),.d (dI 0)],.row 0 [.d (dI a),.d (dI b),.d (dI d),.d (dI 0),.d (dI 0),.d (dI 0),.d (dI 0),.d (dI 0),.d (dI 0),.d (dI 0)],.row 0 [.ptr 1 0 0,.ptr 1 0 1,.ptr 1 0 2]]⟩) [0,4,6,25,26,27,2] 3 3 ⟨0,0,0,0,.inl ⟨rfl,rfl,rfl,rfl,rfl⟩,rfl⟩ (round:=?_)
 rintro m st ⟨k,a,b,d,hcase,rfl⟩;rcases hcase with⟨rfl,rfl,rfl,rfl,rfl⟩|⟨rfl,r1,rfl,rfl,rfl,rfl⟩|⟨rfl,r1,r2,rfl,rfl,rfl,rfl⟩|⟨rfl,r1,r2,r3,rfl,rfl,rfl,rfl⟩
 ·repeat' first|refine kS ?_|refine qS (Qdd Ty.h rfl Ty.h rfl rfl rfl (by decide) rfl) ?_|refine qS (Qf2 Ty.h rfl Ty.h rfl rfl rfl rfl (by decide) (by decide)) ?_|refine kU ?_|refine kV ?_ ?_<;>intro q|fail
  ·(refine Qa 0 (h:=?_);refine QK (hx:=?_))
   rw[f1.out (by simp_all)];rfl
  ·exact Qg 2 (by decide) ⟨1,n1,0,0,.inr (.inl ⟨rfl,by simp_all,rfl,rfl,rfl,rfl⟩),by simp[keepE,go_sem]⟩
 ·repeat' first|refine kS ?_|refine qS (Qdd Ty.h rfl Ty.h rfl rfl rfl (by decide) rfl) ?_|refine qS (Qf2 Ty.h rfl Ty.h rfl rfl rfl rfl (by decide) (by decide)) ?_|refine kU ?_|refine kV ?_ ?_<;>intro q|fail
  ·(refine Qa 0 (h:=?_);refine QK (hx:=?_))
   rw[f2.out (by simp_all)];rfl
  ·exact Qg 1 (by decide) ⟨2,n1,n2,0,.inr (.inr (.inl ⟨rfl,r1,by simp_all,rfl,rfl,rfl,rfl⟩)),by simp[keepE,go_sem]⟩
 ·repeat' first|refine kS ?_|refine qS (Qdd Ty.h rfl Ty.h rfl rfl rfl (by decide) rfl) ?_|refine qS (Qf2 Ty.h rfl Ty.h rfl rfl rfl rfl (by decide) (by decide)) ?_|refine kU ?_|refine kV ?_ ?_<;>intro q|fail
  ·(refine Qa 0 (h:=?_);refine QK (hx:=?_))
   rw[f3.out (by simp_all)];rfl
  ·exact Qg 0 (by decide) ⟨3,n1,n2,n3,.inr (.inr (.inr ⟨rfl,r1,r2,by simp_all,rfl,rfl,rfl,rfl⟩)),by simp[keepE,go_sem]⟩
 ·repeat' first|refine kS ?_|refine qS (QlD rfl rfl rfl rfl (by decide) (by decide) (by simp)) ?_|refine kU ?_|refine kV ?_ ?_<;>intro q|fail
  ·(refine Qa 0 (h:=?_);refine QK (hx:=?_))
   rw[f5.out (by simp_all)];rfl
  ·(refine Qa 0 (h:=?_);refine QK (hx:=?_))
   rw[hg.out,if_neg (by simpa using q)];rfl
  ·(refine Qa 0 (h:=?_);refine QK (hx:=?_))
   rw[hg.out,if_pos (by simpa using q)]

/- Of fby_card; no condition. -/
import Derived.Test.YtfmnpmhadmcdkaaGreatDoorT19
set_option linter.all false
set_option maxRecDepth 100000
set_option maxHeartbeats 16000000
open Go.Proofs.Tryz renaming prog->A0
open Go.RowKit renaming Hid->A9
open List renaming take_of_length_le->A1,getElem?_eq_getElem->A2,mem_of_getElem?->A3,take_add_one->A4,mem_singleton->A5,length_cons->A6,map_cons->AA,length_append->AB,map_nil->AC,length_drop->AD,not_mem_nil->AE,length_map->AG,mem_cons->AH
open Nat renaming le_trans->A7,pow_le_pow_right->A8,le_refl->AF,zero_add->AI
namespace Go.Proofs.YtfmnpmhadmcdkaaGreatDoor
noncomputable section
open Go.RowKit
namespace Aw
attribute [local irreducible] ASeq ADraw AWP Loc
theorem QnK{s:List UInt8}(h:(QaF s).2=true):(QaF s).1.length=4:=by grind [QaF]
theorem QiP{s:Pm.Store}{p:Pl.Ptr}{n:Int}(h:(Qi s p n).2=true)(ht:0<=s.2.2.1)(hp:p.birth<=s.2.2.1):(Qi s p n).1.length=4/\ ∀q∈(Qi s p n).1,Pl.ptrOk q=true/\q.birth<=s.2.2.1:=by
 refine⟨?_,fun q hq=>⟨QhU s p n q hq,?_⟩⟩
 ·grind [Qi,QnK]
 ·unfold Qi at h hq
  split at hq
  ·rw[(List.mem_replicate.1 hq).2];exact ht
  grind
theorem QqY(f:Pl.Ptr->List Pl.Ptr): ∀l:List Pl.Ptr,(∀p∈l,(f p).length=4)->(l.flatMap f).length=l.length*4
 :=by intro l;induction l<;>grind
def QD(s:Pm.Store)(t:Pl.Tree):List Pl.Ptr×Bool:=if QH s t then((QI s t).1.take t.many.toNat,true) else([],false)
theorem Qq9(s:Pm.Store)(many:Int)(i:Nat)(p:Pl.Ptr)(hp:p.birth<=s.2.2.1):Qau s many i p=((Qf s.1 p).2&&(p.level==0)&& !(decide ((i:Int)≥many)&& !Pl.ptrHole p)):=by grind [Qau,Pl.ptrHole,Pl.hole,Qf]
theorem QkN{s:Pm.Store}{t:Pl.Tree}(h:QH s t=true)(htx:0<=s.2.2.1):t.root.birth<=s.2.2.1:=by
 unfold QH at h;simp only[Bool.and_eq_true] at h;obtain⟨⟨_,h4⟩,h5⟩:=h
 by_cases hh:Pl.ptrHole t.root=true
 ·grind [Pl.hole,Pl.ptrHole]
 unfold QI at h4 h5;rcases hn:t.depth.toNat with _|n
 ·grind [QaY,Qau]
 grind [QaY,Qi]
theorem bLeaves(s:Pm.Store)(hg:QP s)(htx:0<=s.2.2.1)(t:Pl.Tree):Pure A0 64 [.pd (rSt s),dTree t] (.tup [tPtrs (QD s t).1,dB (QD s t).2]):=by
 have hd:=Pm.hid (QD.eq_def s t);have hto:A9 (QH s t=(Pl.inR t.many 0 16&&(t.depth==(if t.many<=1 then 0 else if t.many<=4 then 1 else 2))&&Pl.ptrOk t.root&&(QI s t).2&&((QI s t).1.zipIdx.all fun q=>Qau s t.many q.2 q.1))):=Pm.hid rfl;refine kE ?_;refine Qa 0 (h:=?_);cases h1:Pl.inR t.many 0 16
 ·repeat' first|refine kS ?_|refine qD (lC (h1▸bIn t.many 0 16)) ?_|refine kU ?_|fail
  refine Qed 4 true 5 (h:=?_);refine Qb (hx:=?_);rw[hd.out,if_neg (by rw[hto.out,h1];simp)];rfl
 have c1:=h1▸bIn t.many 0 16;have c2:=bDepth t.many;have hdp:(if t.many<=1 then 0 else if t.many<=4 then 1 else 2:Int)=0∨(if t.many<=1 then 0 else if t.many<=4 then 1 else 2:Int)=1∨(if t.many<=1 then 0 else if t.many<=4 then 1 else 2:Int)=2:=by split<;>(try split)<;>simp
 have hdm:t.many<=4^(if t.many<=1 then 0 else if t.many<=4 then 1 else 2:Int).toNat:=by
  simp[Pl.inR] at h1;split
  ·simpa
  ·split
   ·simpa
   ·simpa using h1.2
 generalize (if t.many<=1 then 0 else if t.many<=4 then 1 else 2:Int)=dp at*;cases h3:Pl.ptrOk t.root
 ·repeat' first|refine kS ?_|refine qD (lC (h3▸bPtrOk t.root)) ?_|refine kU ?_|refine kV ?_ ?_<;>intro q|fail
  all_goals
   refine Qed 4 true 5 (h:=?_);refine Qb (hx:=?_);rw[hd.out,if_neg (by rw[hto.out,h3];simp)];rfl
 by_cases h2:t.depth=dp
 rotate_left
 ·repeat' first|refine kS ?_|refine qD (lC (h3▸bPtrOk t.root)) ?_|refine qD (Qdi rfl) ?_|refine kU ?_|refine kV ?_ ?_<;>intro q|fail
  all_goals first
   |(refine Qed 4 true 5 (h:=?_)
     refine Qb (hx:=?_)
     rw[hd.out,if_neg (by rw[hto.out];simp[h2])];rfl)
   |(simp at*;exact absurd ‹_› h2)
 by_cases h4:t.root.birth<=s.2.2.1
 rotate_left
 ·have hno:QH s t≠true:=fun h=>h4 (QkN h htx)
  repeat' first|refine kS ?_|refine qD (lC (h3▸bPtrOk t.root)) ?_|refine qD (Qdi rfl) ?_|refine kU ?_|refine kV ?_ ?_<;>intro q|fail
  all_goals first
   |(refine Qed 4 true 5 (h:=?_)
     refine Qb (hx:=?_)
     rw[hd.out,if_neg hno];rfl)
   |(simp at*;omega)
 repeat' first|refine kS ?_|refine qD (lC (h3▸bPtrOk t.root)) ?_|refine qD (Qdi rfl) ?_|refine kU ?_|refine kV ?_ ?_<;>intro q|fail
 ·exact absurd h2 (by simpa using q)
 ·simp at q;omega
 have hd2:A9 (QH s t=((QI s t).2&&((QI s t).1.zipIdx.all fun q=>Qau s t.many q.2 q.1))):=Pm.hid (by rw[hto.out,h1,h3,h2];simp);have hlv:A9 (QI s t=QaY s t.depth.toNat [t.root]):=Pm.hid rfl;have hmany:0<=t.many:=by simp[Pl.inR] at h1;exact h1.1
 clear hto c1 c2 h1;obtain⟨n0,rfl⟩: ∃n0:Nat,dp=n0:=⟨dp.toNat,by omega⟩;have hn0:n0<=2:=by omega
 rw[h2] at hlv;simp only[Int.toNat_natCast] at hlv hdm;clear hdp;generalize hnl:QD s t=res at*;clear hnl;rw[h2];refine Qa 1 (h:=?_)
 refine Qo (fun m st=> ∃(n:Nat) (l:List Pl.Ptr),n<=n0/\m=n/\l.length=4^(n0 -n)/\A9 (∀p∈l,Pl.ptrOk p=true/\p.birth<=s.2.2.1)/\A9 (QI s t=QaY s n l)/\
  st=⟨112,[(6,.d (tPtrs l)),(7,.d (dI n)),(0,.d (.pd (rSt s))),(3,.d (.pd (rTree t)))],[]⟩) [6,7,0,3] 0 n0 ⟨n0,[t.root],AF _,rfl,by simp,Pm.hid (by simp[h3,h4]),hlv,by rw[<-h2];rfl⟩ (round:=?_)
 clear hlv;rintro m st ⟨n,l,hn,rfl,hll,hO,hL,rfl⟩
 repeat refine kG ?_
 rcases m with _|n
 ·repeat refine kA ?_
  have hl16:l.length<=16:=by rw[hll];exact A7 (A8 (by omega) (show n0 -0<=2 by omega)) (by decide)
  have hml:t.many<=((l.map rPtr).length:Int):=by rw[AG,hll];simpa using hdm
  have hd3:A9 (res=if l.zipIdx.all (fun q=>Qau s t.many q.2 q.1)=true then(l.take t.many.toNat,true) else([],false)):=Pm.hid (by rw[hd.out,hd2.out,hL.out];simp only[QaY,Bool.true_and]);clear hd hd2 hL hll hdm
  refine Qo (fun m st=> ∃(k:Nat),k<=l.length/\m=l.length -k/\A9 ((l.take k).zipIdx.all (fun q=>Qau s t.many q.2 q.1)=true)/\
   st=⟨112,[(74,.d (tPtrs l)),(75,.d (dI l.length)),(76,.d (dI k)),(6,.d (tPtrs l)),(0,.d (.pd (rSt s))),(3,.d (.pd (rTree t)))],[]⟩) [74,75,76,6,0,3] 0 l.length ⟨0,by omega,rfl,Pm.hid rfl,rfl⟩ (round:=?_)
  rintro m st ⟨k,hk,rfl,hA,rfl⟩
  repeat refine kG ?_
  cases q4:decide ((k:Int)<(l.length:Int))
  ·repeat' first|refine kS ?_|refine qS (Qq1 rfl rfl rfl rfl hmany hml) ?_|refine kU ?_|fail
   refine Qb (hx:=?_);have:k=l.length:=by simp at q4;omega
   have h:=hA.out;rw[this,A1 (AF _)] at h;rw[hd3.out,if_pos h];simp only;rw[<-List.map_take]
  have hk2:k<l.length:=by simp at q4;omega
  obtain⟨x,hx⟩: ∃x,l[k]? =some x:=⟨_,A2 hk2⟩;have hr:=Qt (f:=rPtr) hx;have ho:=hO.out x (A3 hx);have h7:=bRead s hg x fun _=>ho.1
  have T:A9 (Qau s t.many k x=true->(l.take (k+1)).zipIdx.all (fun q=>Qau s t.many q.2 q.1)=true):=fun e=>by rw[Qng hx,hA.out,e];rfl
  have F:A9 (Qau s t.many k x=false->res=([],false)):=fun e=>by rw[hd3.out,QkJ hx e];rfl
  have hlf:A9 (Qau s t.many k x=((Qf s.1 x).2&&(x.level==0)&& !(decide ((k:Int)≥t.many)&& !Pl.ptrHole x))):=Pm.hid (Qq9 s t.many k x ho.2);generalize Qau s t.many k x=lf at*;clear hx hO hA hd3 ho;generalize Qf s.1 x=rb at*;obtain⟨tx,fine⟩:=rb;simp only at hlf
  repeat' first|refine kS ?_|refine qS (lC (Qep x)) ?_|refine qS (iy hr) ?_|refine kU ?_|refine kV ?_ ?_<;>intro q|fail
  all_goals clear h7 hr
  all_goals first
   |(have e:lf=false:=by rw[hlf.out];clear T F hlf;simp_all
     refine Qed 4 true 5 (h:=?_);refine Qb (hx:=?_)
     rw[F.out e];rfl)
   |(have e:lf=true:=by rw[hlf.out];clear T F hlf;simp_all
     exact Qh (l.length -(k+1)) (by omega) ⟨k+1,by omega,rfl,Pm.hid (T.out e),rfl⟩)
 have q3:decide (((n+1:Nat):Int)>0)=true:=by simp
 rw[q3]
 repeat refine kA ?_
 refine QeR 8 5 31 (h:=?_);have hll2:l.length<=4:=by rw[hll];exact A7 (A8 (by omega) (show n0 -(n+1)<=1 by omega)) (by decide)
 have hv:A9 (l.all (fun p=>(Qi s p (n+1:Nat)).2)=false->res=([],false)):=fun e=>by rw[hd.out,hd2.out,hL.out,QaY,if_neg (by rw[e];simp)]<;>rfl
 refine Qo (fun m st=> ∃(k g:Nat) (out:List Pl.Ptr),k<=l.length/\m=l.length -k/\out.length=4*k/\A9 (out=(l.take k).flatMap fun p=>(Qi s p (n+1:Nat)).1)/\A9 ((l.take k).all (fun p=>(Qi s p (n+1:Nat)).2)=true)/\A9 (∀p∈out,Pl.ptrOk p=true/\p.birth<=s.2.2.1)/\
  st=⟨112,[(8,.osl 0 g 0 out.length),(54,.d (tPtrs l)),(55,.d (dI l.length)),(56,.d (dI k)),(7,.d (dI (n+1:Nat))),(0,.d (.pd (rSt s))),(3,.d (.pd (rTree t)))],[.arr g 5 31 (out.map rPtr)]⟩) [8,54,55,56,7,0,3] 1 l.length ⟨0,0,[],by omega,rfl,by simp,Pm.hid rfl,Pm.hid rfl,Pm.hid (by simp),rfl⟩ (round:=?_)
 rintro m st ⟨k,g,out,hk,rfl,hol,hP,hA,hQ,rfl⟩
 repeat refine kG ?_
 cases q4:decide ((k:Int)<(l.length:Int))
 ·repeat refine kA ?_
  refine QiV 0 (h:=?_);have:k=l.length:=by simp at q4;omega
  rw[this,A1 (AF _)] at hP hA;refine Qh n (by omega) ⟨n,out,by omega,rfl,?_,hQ,Pm.hid (by rw[hL.out,QaY,if_pos hA.out,<-hP.out]),?_⟩
  ·rw[hol,this,hll,show n0 -n=(n0 -(n+1))+1 by omega,Nat.pow_succ];omega
  ·simp[keepE,go_sem,A1]
 have hk2:k<l.length:=by simp at q4;omega
 obtain⟨x,hx⟩: ∃x,l[k]? =some x:=⟨_,A2 hk2⟩;have hr:=Qt (f:=rPtr) hx;have ho:=hO.out x (A3 hx);have hc:=bFanOf s hg x (fun _=>ho.1) (n+1:Nat);obtain⟨f1,f2⟩:=QmM (level:=(n+1:Nat)) ho.1 ho.2;have G:A9 ((Qi s x (n+1:Nat)).2=true->(Qi s x (n+1:Nat)).1.length=4/\ ∀q∈(Qi s x (n+1:Nat)).1,Pl.ptrOk q=true/\q.birth<=s.2.2.1):=Pm.hid fun e=>QiP e htx ho.2
 have F:A9 ((Qi s x (n+1:Nat)).2=false->res=([],false)):=fun e=>hv.out (by
  rw[List.all_eq_false];exact⟨x,A3 hx,by rw[e];simp⟩)
 have T1:A9 ((l.take (k+1)).flatMap (fun p=>(Qi s p (n+1:Nat)).1)=out++(Qi s x (n+1:Nat)).1):=Pm.hid (by rw[A4,hx,hP.out];simp);have T2:A9 ((Qi s x (n+1:Nat)).2=true->(l.take (k+1)).all (fun p=>(Qi s p (n+1:Nat)).2)=true):=fun e=>by rw[A4,hx,List.all_append,hA.out];simpa using e
 have f2':A9 ((Qi s x (n+1:Nat)).2=true->Qcc s x (n+1:Nat)=Qi s x (n+1:Nat)):=Pm.hid f2;clear hx ho hA hP f2 hO hL hd hd2 hv;generalize Qcc s x (n+1:Nat)=fb at*;obtain⟨fl,ok⟩:=fb;simp only at f1;subst f1;generalize Qi s x (n+1:Nat)=bb at*;obtain⟨bl,ok⟩:=bb;simp only at f2' T2 G F T1
 have G':A9 (ok=true->fl.length=4/\(∀q∈fl,Pl.ptrOk q=true/\q.birth<=s.2.2.1)/\(l.take (k+1)).flatMap (fun p=>(Qi s p (n+1:Nat)).1)=out++fl):=Pm.hid fun e=>by
  obtain rfl:=(Prod.mk.inj (f2'.out e)).1;exact⟨(G.out e).1,(G.out e).2,T1.out⟩
 clear G f2' T1
 repeat' first|refine kS ?_|refine qS (iy hr) ?_|refine Qet Ty.h rfl Ty.h (hb:=?_) (hcell:=?_) (kk:=?_)|refine kU ?_|refine kV ?_ ?_<;>intro q|fail
 ·refine Qed 4 true 5 (h:=?_)
  refine Qb (hx:=?_);rw[F.out (by simpa using ‹(!ok)=true›)];rfl
 ·exact Qdq fl
 ·have e:ok=true:=by simpa using ‹(!ok)=false›
  have:=(G'.out e).1;simp;omega
 ·have e:ok=true:=by simpa using ‹(!ok)=false›
  obtain⟨h4,h5,h6⟩:=G'.out e;refine Qh (l.length -(k+1)) (by omega) ⟨k+1,g+1,out++fl,by omega,rfl,by simp;omega,Pm.hid h6.symm,Pm.hid (T2.out e),Pm.hid ?_,?_⟩
  ·intro p hp
   rcases List.mem_append.1 hp with hp|hp
   ·exact hQ.out p hp
   ·exact h5 p hp
  ·simp[keepE,go_sem]
theorem Qt6{S:Nat->Prop}{w:World}{b:Bool}{l:List (List UInt8)}{v:Value}(h:RelD S w (.sl b 1 (l.map fun s=>[dS s])) v)(hS: ∀b,S b->b<w.heap.size)(hx: ∀x∈l,x.length<=Pm.big):
 ∃A c,v= .slice A l.length c/\Pm.At w w.heap.size A l:=by
 generalize hr:(l.map fun s=>[dS s])=rows at h;cases h with
 |slnil a cap=>
  have:l=[]:=by simp_all
  subst this;exact⟨_,_,rfl,fun h=>absurd h (by simp)⟩
 |sl _ _ _ bb o cap g hb hn hcap hc hrr=>
  subst hr;refine⟨_,_,by rw[AG],fun _=>⟨bb,o,rfl,hS bb hb,fun i x hi=>⟨[.string ⟨x.toArray⟩],⟨rfl,hx x (A3 hi)⟩,fun j v hj=>?_⟩⟩⟩
  match j,hj with
  |0,hj=>
   obtain rfl:_=v:=by simpa using hj
   have h1:(l.map fun s=>[dS s])[i]? =some [dS x]:=by grind
   have h2:=hc i 0 _ _ h1 rfl;have h3:=hrr i 0 _ _ h1 rfl;generalize g i 0=y at*;cases h3;exact h2
theorem Sm.lt{B:Bs}{σ:Sg}{S:Nat->Prop}{H:List Blk}{w:World}(h:Sm B σ S H w): ∀b,S b->b<w.heap.size:=fun b hb=>(h.sUp b hb).1
theorem one_arg{α:Type}{cargs:List α}(h:1=cargs.length): ∃v,cargs=[v]:=by
 match cargs,h with
 |[v],_=>grind
theorem Qpq(l:List (List UInt8))(h1:l.length<=Pm.big)(h2: ∀s∈l,s.length<=4294967296):Pure A0 245 [dStrs l] (.tup [dS ((Pl.Qdb l).getD []),dB (Pl.Qdb l).isSome]):=by
 intro B σ S H w cargs hB hS hl hr;obtain⟨v,rfl⟩:=one_arg hl;obtain⟨A,c,rfl,hA⟩:=Qt6 (hr 0 _ v rfl rfl) hS.lt fun x hx=>by grind [Pm.big]
 refine(Pm.QmB A l c w h1 hA h2 (hB.ltOf hS)).mono ?_;rintro e w' ⟨rfl,hb⟩;refine⟨_,rfl,hb,?_⟩;rw[Pm.Qqj];refine .tup _ [.string ⟨((Pl.Qdb l).getD []).toArray⟩,.bool (Pl.Qdb l).isSome] rfl fun i d x hd hx=>?_
 match i,hd,hx with
 |0,hd,hx=>simp at hd hx;subst hd hx;exact .v _
 |1,hd,hx=>simp at hd hx;subst hd hx;exact .v _
theorem QmZ(kind size:Int):Pure A0 114 [dI kind,dI size] (dI (Qac kind size)):=by
 have hd:=Pm.hid (Qac.eq_def kind size);have he:=Pm.hid (QaV.eq_def kind)
 have key: ∀e:Int,QaV kind=e->e=12∨e=128->Qac kind size=if Pl.inR size 0 (16*e) then(size+e -1)/e else -1:=fun e h1 h2=>by
  rw[hd.out,h1,if_neg (by omega)]
 by_cases h1:kind=1
 ·rw[key 12 (by rw[he.out,if_pos h1]) (.inl rfl)]
  subst h1;clear hd he key;cases hR:Pl.inR size 0 (16*12)
  ·refine kB ?_
   repeat' first|refine kS ?_|refine qS (Qdu rfl rfl (by decide)) ?_|refine qS (lC (hR▸bIn size 0 (16*12))) ?_|refine kU ?_|fail
   all_goals exact Qb (hx:=rfl)
  have hb:0<=size/\size<=16*12:=by simpa[Pl.inR] using hR
  refine kB ?_
  repeat' first|refine kS ?_|refine qS (Qdu rfl rfl (by decide)) ?_|refine qS (lC (hR▸bIn size 0 (16*12))) ?_|refine qS (Qgt rfl rfl (by omega) (by omega)) ?_|refine kU ?_|fail
  all_goals exact Qb (hx:=rfl)
 by_cases h2:kind=2
 ·rw[key 128 (by rw[he.out,if_neg h1,if_pos h2]) (.inr rfl)]
  subst h2;clear hd he key;cases hR:Pl.inR size 0 (16*128)
  ·refine kB ?_
   repeat' first|refine kS ?_|refine qS (Qdu rfl rfl (by decide)) ?_|refine qS (lC (hR▸bIn size 0 (16*128))) ?_|refine kU ?_|fail
   all_goals exact Qb (hx:=rfl)
  have hb:0<=size/\size<=16*128:=by simpa[Pl.inR] using hR
  refine kB ?_
  repeat' first|refine kS ?_|refine qS (Qdu rfl rfl (by decide)) ?_|refine qS (lC (hR▸bIn size 0 (16*128))) ?_|refine qS (Qgt rfl rfl (by omega) (by omega)) ?_|refine kU ?_|fail
  all_goals exact Qb (hx:=rfl)
 have hpz:Qac kind size= -1:=by rw[hd.out,if_pos (by rw[he.out,if_neg h1,if_neg h2])]
 rw[hpz];clear hd he key hpz;refine kB ?_
 repeat' first|refine kA ?_|refine kV ?_ ?_<;>intro q|fail
 ·exact absurd (by simpa using q) h1
 ·exact absurd (by simpa using q) h2
 exact Qb (hx:=rfl)
theorem bNodeOk(n:Qj):Pure A0 63 [dNode n] (dB (Q8 n)):=by
 have hd:A9 (Q8 n=(decide (0<=Qac n.kind n.size)&&(n.tree.many==Qac n.kind n.size)&&(n.tree.depth==Qbk (Qac n.kind n.size))&&Pl.ptrOk n.tree.root&&
  Pl.inR n.links 1 (if n.kind=2 then 1 else 9)&&(Pl.ptrHole n.tree.root||(n.tree.root.level==n.tree.depth)))):=Pm.hid rfl
 have c1:=QmZ n.kind n.size;generalize Qac n.kind n.size=pc at*;have c2:Pure A0 115 [dI pc] (dI (Qbk pc)):=bDepth pc;generalize Qbk pc=dp at*;have c3:=bPtrOk n.tree.root;have c4:=Qep n.tree.root;generalize Pl.ptrOk n.tree.root=ok at*;generalize Pl.ptrHole n.tree.root=ho at*;refine kE ?_;refine Qa 0 (h:=?_)
 repeat' first|refine kS ?_|refine qD (Qdh cK (bIn _ _ _) rfl) ?_|refine kU ?_|refine kV ?_ ?_<;>intro q|fail
 all_goals
  refine Qb (hx:=?_);refine congrArg dB ?_;rw[hd.out];clear c1 c2 c3 c4 hd
  simp_all
 all_goals
  intros
  omega
theorem Qql{n:Int}(h0:0<=n)(h1:n<=999999999):Pl.numPut n=Pl.dec n.toNat:=by grind [Pl.numPut]
theorem QgD{n:Qj}(h:NodeB n):[n.kind,n.links,n.size].map Pl.numPut++Pl.Qe4 n.tree++[[101,110,100]]=Qag n:=by
 have h1:=h.kind;have h2:=h.links;have h3:=h.size;have h4:=h.depth;have h5:=h.many
 grind [Pl.Qe4,Qag,Qql]
def bCutHit(a r:List UInt8)(h:(58:UInt8)∉a)(hs:(a++58::r).length<=4294967280):Pure A0 178 [dS (a++58::r),dS [58]] (.tup [dS a,dS r,dB true]):=
 QeY (xs:=[.string ⟨a.toArray⟩,.string ⟨r.toArray⟩,.bool true]) rfl fun w hL=>Pm.cutHit a r h w hs hL
def Qt4(a:List UInt8)(h:(58:UInt8)∉a)(hs:a.length<=4294967280):Pure A0 178 [dS a,dS [58]] (.tup [dS a,dS [],dB false]):=
 QeY (xs:=[.string ⟨a.toArray⟩,.string ⟨#[]⟩,.bool false]) rfl fun w hL=>Pm.cutMiss a h w hs hL
def bClone(s:List UInt8)(hs:s.length<=Pm.big):Pure A0 180 [dS s] (dS s):=Qdv rfl fun w _=>Pm.imClone s w hs
theorem Qpr(s:List UInt8)(hs:s.length<=Pm.big):Pure A0 183 [dS s] (.tup [tStrs (Qb2 s).1,dB (Qb2 s).2]):=by
 simp only[Pm.big] at hs
 by_cases h20:s.length<=2048
 rotate_left
 ·have hr:A9 (Qb2 s=([],false)):=Pm.hid (Qii fun l hl=>h20 hl.2.1)
  generalize Qb2 s=res at*;refine kB ?_
  repeat' first|refine kA ?_|refine kV ?_ ?_<;>intro q|fail
  ·refine Qed 2 true 1 (h:=?_)
   refine Qb (hx:=?_);rw[hr.out];rfl
  ·exfalso;simp at*;omega
 refine kB ?_
 repeat' first|refine kA ?_|refine kV ?_ ?_<;>intro q|fail
 ·exfalso;simp at*;omega
 refine QeR 4 1 9 (h:=?_)
 refine Qo (fun m st=> ∃(g:Nat) (out:List (List UInt8)) (rest:List UInt8),m=rest.length/\A9 (s=Pl.enc out++rest)/\rest.length<=2048/\out.length<=60/\
  st=⟨56,[(4,.osl 0 g 0 out.length),(5,.d (dS rest))],[.arr g 1 9 (out.map fun s=>[dS s])]⟩) [4,5] 1 s.length ⟨0,[],s,rfl,Pm.hid rfl,h20,by simp,rfl⟩ (round:=?_)
 rintro m st ⟨g,out,rest,rfl,hO,hrl,hlen,rfl⟩
 repeat refine kG ?_
 by_cases hr:rest=[]
 ·subst hr
  have hr:A9 (Qb2 s=(out,true)):=Pm.hid (rg_is ⟨hlen,h20,by rw[hO.out];simp⟩);generalize Qb2 s=res at*
  repeat refine kA ?_
  (refine Qa 0 (h:=?_);refine Qb (hx:=?_))
  rw[hr.out];simp[A1]
 have hne:(!(rest==([]:List UInt8)))=true:=by simpa using hr
 by_cases hc:(58:UInt8)∈rest
 rotate_left
 ·have hf:A9 (Qb2 s=([],false)):=Pm.hid (Qii (Pl.QmF hO.out hr hc))
  have c1:=Qt4 rest hc (by omega);have c2:=bNumGet rest (by unfold Pm.big;omega);generalize (Pl.numGet rest).getD 0=n1 at*;generalize (Pl.numGet rest).isSome=o1 at*;generalize Qb2 s=res at*
  repeat' first|refine kA ?_|refine kV ?_ ?_<;>intro q|fail
  all_goals first
   |(refine Qed 2 true 1 (h:=?_)
     refine Qb (hx:=?_)
     rw[hf.out];rfl)
   |exact absurd (hne.symm.trans ‹_=false›) (by decide)
 obtain⟨num,tail,rfl,hn⟩:=Pl.QeC hc;have hnl:num.length<=2048/\tail.length<=2048:=by simp only[AB,A6] at hrl;omega
 have c1:=bCutHit num tail hn (by omega);have c2:=bNumGet num (by unfold Pm.big;omega);cases hg:Pl.numGet num with
 |none=>
  rw[hg] at c2;have hf:A9 (Qb2 s=([],false)):=Pm.hid (Qii (Pl.QqN h20 hO.out hn (Or.inl hg)));generalize Qb2 s=res at*
  repeat' first|refine kA ?_|refine kV ?_ ?_<;>intro q|fail
  all_goals first
   |(refine Qed 2 true 1 (h:=?_)
     refine Qb (hx:=?_)
     rw[hf.out];rfl)
   |exact absurd (hne.symm.trans ‹_=false›) (by decide)
 |some n=>
  rw[hg] at c2;simp only[Option.getD_some,Option.isSome_some] at c2;have F1:A9 (tail.length<n->Qb2 s=([],false)):=Pm.hid fun h=>Qii (Pl.QqN h20 hO.out hn (Or.inr ⟨n,hg,h⟩))
  have F2:A9 (out.length=60->Qb2 s=([],false)):=Pm.hid fun h=>Qii (Pl.Qtg hO.out hr (by omega))
  have T:A9 (n<=tail.length->s=Pl.enc (out++[tail.take n])++tail.drop n):=Pm.hid fun h=>Pl.Qtf hO.out hg h
  have c3:=bClone (tail.take n) (by rw[List.length_take];unfold Pm.big;omega);generalize Qb2 s=res at*
  repeat' first|refine kS ?_|refine qS (QfH rfl rfl rfl (by simp) (by simp at*;omega)) ?_|refine qS (QfG rfl rfl rfl (by simp) (by simp at*;omega)) ?_|refine QV Ty.h rfl Ty.h (hb:=?_) (kk:=?_)|refine kU ?_|refine kV ?_ ?_<;>intro q|fail
  all_goals first
   |exact absurd (hne.symm.trans ‹_=false›) (by decide)
   |(refine Qed 2 true 1 (h:=?_)
     refine Qb (hx:=?_)
     first
      |(rw[F1.out (by simp at*;omega)];rfl)
      |(rw[F2.out (by simp at*;omega)];rfl))
   |(simp;omega)
   |(have hnt:n<=tail.length:=by clear F1 F2 T;simp only[decide_eq_false_iff_not] at*;omega
     have hn60:out.length≠60:=fun e=>by
      have:((out.length:Int)==60)=true:=by rw[e];rfl
      exact absurd (this.symm.trans ‹_=false›) (by decide)
     refine Qh (tail.drop n).length ?_ ⟨g+1,out++[tail.take n],tail.drop n,rfl,Pm.hid (T.out hnt),?_,?_,?_⟩
     ·rw[AD,AB,A6];omega
     ·rw[AD];omega
     ·simp;omega
     ·simp[keepE,go_sem])
attribute [local irreducible] AStep Fg.PlanF Fg.Flts
theorem QrP(l:List Int)(h1:l.length<=1000000):Pure A0 246 [dInts l] (tStrs (l.map Pl.numPut)):=by
 refine kB ?_
 repeat refine kA ?_
 refine QeR 3 1 9 (h:=?_);refine Qo (fun m st=> ∃k:Nat,k<=l.length/\m=l.length -k/\st=⟨19,[(6,.d (dInts l)),(7,.d (dI l.length)),(8,.d (dI k)),(3,.osl 0 k 0 k)],[.arr k 1 9 (((l.take k).map Pl.numPut).map fun s=>[dS s])]⟩) [6,7,8,3] 1 l.length ⟨0,by omega,rfl,by simp[keepE,go_sem]⟩ (round:=?_);rintro m st ⟨k,hk,rfl,rfl⟩
 repeat refine kG ?_
 cases q3:decide ((k:Int)<(l.length:Int))
 ·have:k=l.length:=by simp at q3;omega
  subst this
  repeat refine kA ?_
  refine Qa 0 (h:=?_);refine Qb (hx:=?_);simp;exact A1 (by simp)
 have hk2:k<l.length:=by simp at q3;omega
 obtain⟨y,hy⟩: ∃y,l[k]? =some y:=⟨_,A2 hk2⟩;have hr:=Qt (f:=fun n=>[dI n]) hy;have c:=bNumPut y;have hs:((l.take (k+1)).map Pl.numPut).map (fun s=>[dS s])=((l.take k).map Pl.numPut).map (fun s=>[dS s])++[[dS (Pl.numPut y)]]:=by rw[A4,hy];simp
 have hlk:(((l.take k).map Pl.numPut).map fun s=>[dS s]).length=k:=by simp;omega
 generalize ((l.take k).map Pl.numPut).map (fun s=>[dS s])=R at*
 repeat' first|refine kS ?_|refine qS (iy hr) ?_|refine QV Ty.h rfl Ty.h (hlen:=hlk.symm) (hb:=?_) (kk:=?_)|refine kU ?_|fail
 all_goals first
  |(show(R.length+1)*16<=140737488355328;omega)
  |(refine Qh (l.length -(k+1)) (by omega) ⟨k+1,by omega,rfl,?_⟩
    rw[hs];simp[keepE,go_sem,hlk];done)
theorem QrO(l:List Int)(h1:l.length<=1000000):Does A0 246 [.d (.sl true 1 (l.map fun n=>[dI n]))] [] [] (.osl 0 l.length 0 l.length) [.arr l.length 1 9 ((l.map Pl.numPut).map fun s=>[dS s])]:=by
 refine kL ?hpin fun gvs=>?_
 case hpin=>intro i C hC;simp at hC
 simp only[parA,gslot,AI,Nat.reduceAdd]
 repeat refine kA ?_
 refine QeR 3 1 9 (h:=?_);refine Qo (fun m st=> ∃k:Nat,k<=l.length/\m=l.length -k/\st=⟨19,[(6,.d (.sl true 1 (l.map fun n=>[dI n]))),(7,.d (dI l.length)),(8,.d (dI k)),(3,.osl 0 k 0 k),(1000000,.gh [] gvs)],[.arr k 1 9 (((l.take k).map Pl.numPut).map fun s=>[dS s])]⟩) [6,7,8,3,1000000] 1 l.length ⟨0,by omega,rfl,by simp[keepE,go_sem]⟩ (round:=?_);rintro m st ⟨k,hk,rfl,rfl⟩
 repeat refine kG ?_
 cases q3:decide ((k:Int)<(l.length:Int))
 ·have:k=l.length:=by simp at q3;omega
  subst this;rw[List.take_length]
  repeat refine kA ?_
  refine Qee [2,1000000] 1 (H':=[.arr l.length 1 9 ((l.map Pl.numPut).map fun s=>[dS s])]) (hH:=fun R hR=>hR) (h:=?_);exact QdB (hx:=rfl) (hH:=rfl)
 have hk2:k<l.length:=by simp at q3;omega
 obtain⟨y,hy⟩: ∃y,l[k]? =some y:=⟨_,A2 hk2⟩;have hr:=Qt (f:=fun n=>[dI n]) hy;have c:=bNumPut y;have hs:((l.take (k+1)).map Pl.numPut).map (fun s=>[dS s])=((l.take k).map Pl.numPut).map (fun s=>[dS s])++[[dS (Pl.numPut y)]]:=by rw[A4,hy];simp
 have hlk:(((l.take k).map Pl.numPut).map fun s=>[dS s]).length=k:=by simp;omega
 generalize ((l.take k).map Pl.numPut).map (fun s=>[dS s])=R at*
 repeat' first|refine kS ?_|refine qS (iy hr) ?_|refine QV Ty.h rfl Ty.h (hlen:=hlk.symm) (hb:=?_) (kk:=?_)|refine kU ?_|fail
 all_goals first
  |(show(R.length+1)*16<=140737488355328;omega)
  |(refine Qh (l.length -(k+1)) (by omega) ⟨k+1,by omega,rfl,?_⟩
    rw[hs];simp[keepE,go_sem,hlk];done)
theorem QlK(t:Pl.Tree):Pure A0 247 [dTree t] (tStrs (Pl.Qe4 t)):=by
 have cP:=bPtrPut t.root;have cN:=(QrP [t.depth,t.many] (by simp)).arg (l:=[.sl true 1 [[dI t.depth],[dI t.many]]]);refine kE ?_;refine Qa 0 (h:=?_)
 repeat' first|refine kS ?_|refine qD (Qd0 (T:=24) Ty.h rfl Ty.h) ?_|(show AWP _ (.region 1 _ _) _ _;refine(Fg.awp_drawF (id:=1) [] [10] ?_))|refine(QhW Ty.h rfl Ty.h (hcell:=?_) (hb:=?_) (kk:=?_))|refine kU ?_|fail
 all_goals first|(intro r hr d hd;simp at hr;rcases hr with rfl|rfl<;>(simp at hd;subst hd;rfl))|simp;done|refine Qa 1 (h:=?_);refine Qb (hx:=?_);rfl
def Qt1(n:Qj):Pure A0 185 [dNode n] (dS (Q6 n)):=by
 have hd:=Pm.hid (Q6.eq_def n);have c1:=bNodeOk n;refine kE ?_;refine Qa 0 (h:=?_);cases h1:Q8 n
 ·rw[h1] at c1
  repeat refine kA ?_
  refine Qb (hx:=?_);rw[hd.out,h1];rfl
 rw[h1] at c1;have hb:=QdZ h1
 have hL: ∀x∈Qag n,x.length<=4294967296:=by
  intro x hx;have hdl: ∀k,k<=4294967296->(Pl.dec k).length<=4294967296:=fun k hk=>A7 (Pl.QcU 10 k (by omega)) (by decide)
  have h1:=hb.kind;have h2:=hb.links;have h3:=hb.size;have h4:=hb.depth;have h5:=hb.many;simp only[Qag,AH,AE,or_false] at hx;rcases hx with rfl|rfl|rfl|rfl|rfl|rfl|rfl
  ·exact hdl _ (by omega)
  ·exact hdl _ (by omega)
  ·exact hdl _ (by omega)
  ·exact A7 (Pm.ptrPut_len _) (by decide)
  ·exact hdl _ (by omega)
  ·exact hdl _ (by omega)
  ·decide
 have c5:=(Qpq (Qag n) (by simp[Qag,Pm.big]) hL).arg (l:=[tStrs (Qag n)]);rw[<-QgD hb] at c5;have hk:=hb.kind;have hk2:=hb.links;have hk3:=hb.size;have hk4:=hb.depth;have hk5:=hb.many;have c2:=QrO [n.kind,n.links,n.size] (by simp);have c3:=QlK n.tree;simp only[AA,AC,A6,List.length_nil,AI,Nat.reduceAdd] at c2;simp only[Pl.Qe4] at c3;simp only[Pl.Qe4,AA,AC,List.cons_append,List.nil_append] at c5
 repeat' first|refine kS ?_|(show AWP _ (.region 3 _ _) _ _;refine(Fg.awp_drawF (id:=3) [8,9,12] [7,11,13] ?_))|refine(Fg.aw_fltL (hl:=fun H=>Qd0 Ty.h rfl Ty.h) (k:=?_))|refine(QgZ [] c2 cK (k:=?_))|refine qD (Qd0 (T:=24) Ty.h rfl Ty.h) ?_|refine(QhW Ty.h rfl Ty.h (hcell:=?_) (hb:=?_) (kk:=?_))|refine qD (QfJ cK c5 rfl) ?_|refine kU ?_|fail
 ·intro r hr d hd
  simp only[AA,AC,AH,AE,or_false] at hr;rcases hr with rfl|rfl|rfl<;>(obtain rfl:=A5.1 hd;rfl)
 ·simp
 ·intro r hr d hd
  obtain rfl:=A5.1 hr;obtain rfl:=A5.1 hd;rfl
 ·simp
 ·refine Qb (hx:=?_)
  rw[hd.out,h1,if_pos rfl,<-QgD hb];rfl
theorem bTreeOf(x y z:List UInt8)(hx:x.length<=2048)(hy:y.length<=2048)(hz:z.length<=2048):
 Pure A0 184 [tStrs [x,y,z]] (.tup [dTree ⟨(QB x).1,((Pl.numGet y).getD 0:Nat),((Pl.numGet z).getD 0:Nat)⟩,dB ((QB x).2&&(Pl.numGet y).isSome&&(Pl.numGet z).isSome)]):=by
 have c1:=bPtrGet x (by omega);have c2:=bNumGet y (by unfold Pm.big;omega);have c3:=bNumGet z (by unfold Pm.big;omega);generalize (Pl.numGet y).getD 0=n1 at*;generalize (Pl.numGet z).getD 0=n2 at*;generalize (Pl.numGet y).isSome=o1 at*;generalize (Pl.numGet z).isSome=o2 at*;generalize QB x=pp at*;obtain⟨⟨p1,p2,p3,p4,p5⟩,okp⟩:=pp;refine kC ?_
 repeat' first|refine kS ?_|refine qS (iy rfl) ?_|refine kU ?_|refine kV ?_ ?_<;>intro q|fail
 all_goals
  (refine Qa 0 (h:=?_);refine QR (hx:=?_))
  simp_all
theorem Qt2(s:List UInt8)(hs:s.length<=Pm.big):Pure A0 112 [dS s] (.tup [dNode (Qp s).1,dB (Qp s).2]):=by
 have c:=Qpr s hs;rcases Qnq s with⟨hr,hok⟩|h0;rotate_left
 ·have hn:A9 (Qp s=(Qd,false)):=Pm.hid (QhM (.inl (by rw[h0])))
  rw[h0] at c;refine kC ?_
  repeat refine kA ?_
  (refine Qa 0 (h:=?_);refine QR (hx:=?_))
  rw[hn.out];rfl
 by_cases h7:(Qb2 s).1.length=7
 rotate_left
 ·have hn:A9 (Qp s=(Qd,false)):=Pm.hid (QhM (.inr h7))
  rw[hok] at c;generalize (Qb2 s).1=l at*;clear hr hok;refine kC ?_
  repeat' first|refine kA ?_|refine kV ?_ ?_<;>intro q|fail
  all_goals first|exfalso;simp only[bne_eq_false_iff_eq] at*;omega|((refine Qa 0 (h:=?_);refine QR (hx:=?_));rw[hn.out];rfl)
 rw[hok] at c;generalize (Qb2 s).1=l at*
 match l,h7 with
 |[y1,y2,y3,y4,y5,y6,y7],_=>
 have hl:=QpV hr;have hg:=Pm.hid (QtS hr);have cn: ∀x∈[y1,y2,y3,y4,y5,y6,y7],Pure A0 179 [dS x] (.tup [dI ((Pl.numGet x).getD 0:Nat),dB (Pl.numGet x).isSome]):=fun x hx=>bNumGet x (by have:=hl x hx;unfold Pm.big;omega)
 have c1:=cn y1 (by simp);have c2:=cn y2 (by simp);have c3:=cn y3 (by simp);have hno: ∀P:Prop,(∀p,Qbj s p->P)-> ¬P->Qp s=(Qd,false):=fun P h hn=>Qlo fun p hp=>hn (h p hp)
 have f1:A9 ((Pl.numGet y1).isSome=false->Qp s=(Qd,false)):=Pm.hid fun e=>hno ((Pl.numGet y1).isSome=true) (fun p hp=>by rw[(Qe9 hr hp).1];rfl) (by rw[e];simp)
 have f2:A9 ((Pl.numGet y2).isSome=false->Qp s=(Qd,false)):=Pm.hid fun e=>hno ((Pl.numGet y2).isSome=true) (fun p hp=>by rw[(Qe9 hr hp).2.1];rfl) (by rw[e];simp)
 have f3:A9 ((Pl.numGet y3).isSome=false->Qp s=(Qd,false)):=Pm.hid fun e=>hno ((Pl.numGet y3).isSome=true) (fun p hp=>by rw[(Qe9 hr hp).2.2.1];rfl) (by rw[e];simp)
 have f5:A9 (((QB y4).2&&(Pl.numGet y5).isSome&&(Pl.numGet y6).isSome)=false->Qp s=(Qd,false)):=Pm.hid fun e=>hno (((QB y4).2&&(Pl.numGet y5).isSome&&(Pl.numGet y6).isSome)=true) (fun p hp=>by rw[(Qe9 hr hp).2.2.2.1,(Qe9 hr hp).2.2.2.2.1,(Qe9 hr hp).2.2.2.2.2];rfl) (by rw[e];simp)
 have cp:=Qt1 (QaX y1 y2 y3 y4 y5 y6);have t1:=bTreeOf y4 y5 y6 (hl y4 (by simp)) (hl y5 (by simp)) (hl y6 (by simp));obtain⟨N,hN⟩: ∃N,N=QaX y1 y2 y3 y4 y5 y6:=⟨_,rfl⟩;rw[<-hN] at cp hg;unfold QaX at hN;clear cn hl hr hok hno;generalize (Pl.numGet y1).isSome=o1 at*;generalize (Pl.numGet y2).isSome=o2 at*;generalize (Pl.numGet y3).isSome=o3 at*;generalize ((QB y4).2&&(Pl.numGet y5).isSome&&(Pl.numGet y6).isSome)=o5 at*;generalize (Pl.numGet y1).getD 0=n1 at*;generalize (Pl.numGet y2).getD 0=n2 at*;generalize (Pl.numGet y3).getD 0=n3 at*;generalize (Pl.numGet y5).getD 0=n5 at*;generalize (Pl.numGet y6).getD 0=n6 at*;generalize (QB y4).1=pp at*;obtain⟨p1,p2,p3,p4,p5⟩:=pp;generalize Q6 N=t at*;generalize Qp s=res at*;subst hN;refine kC ?_
 repeat' first|refine kS ?_|refine stepS2 (QsO Ty.h rfl Ty.h) (k:=?_)|refine qS (Qm3 Ty.h rfl rfl rfl) ?_|refine kU ?_|fail
 refine Qo (fun m st=> ∃k a b d:Int,((m=3/\k=0/\a=0/\b=0/\d=0)∨(m=2/\o1=true/\k=1/\a=n1/\b=0/\d=0)∨(m=1/\o1=true/\o2=true/\k=2/\a=n1/\b=n2/\d=0)∨(m=0/\o1=true/\o2=true/\o3=true/\k=3/\a=n1/\b=n2/\d=n3))/\
  st=⟨63,[(0,.d (dS s)),(4,.d (tStrs [y1,y2,y3,y4,y5,y6,y7])),(6,.ptr 1 0 0),(25,.rsl 2 0 3),(26,.d (dI 3)),(27,.d (dI k)),(2,.ptr 0 0 0)],
   [.row 0 [.d (dI 0),.d (dI 0),.d (dI 0),.d (dI 0),.d (dI 0),.d (dI 0),.d (dI 0),.d (dI 0),.d (dI 0),.d (dI 0)],.row 0 [.d (dI a),.d (dI b),.d (dI d),.d (dI 0),.d (dI 0),.d (dI 0),.d (dI 0),.d (dI 0),.d (dI 0),.d (dI 0)],.row 0 [.ptr 1 0 0,.ptr 1 0 1,.ptr 1 0 2]]⟩) [0,4,6,25,26,27,2] 3 3 ⟨0,0,0,0,.inl ⟨rfl,rfl,rfl,rfl,rfl⟩,rfl⟩ (round:=?_)
 rintro m st ⟨k,a,b,d,hcase,rfl⟩;rcases hcase with⟨rfl,rfl,rfl,rfl,rfl⟩|⟨rfl,r1,rfl,rfl,rfl,rfl⟩|⟨rfl,r1,r2,rfl,rfl,rfl,rfl⟩|⟨rfl,r1,r2,r3,rfl,rfl,rfl,rfl⟩
 ·repeat' first|refine kS ?_|refine qS (QcV Ty.h rfl Ty.h rfl rfl rfl (by decide) rfl) ?_|refine qS (Qfv Ty.h rfl Ty.h rfl rfl rfl rfl (by decide) (by decide)) ?_|refine kU ?_|refine kV ?_ ?_<;>intro q|fail
  ·(refine Qa 0 (h:=?_);refine QR (hx:=?_))
   rw[f1.out (by simp_all)];rfl
  ·exact Qh 2 (by decide) ⟨1,n1,0,0,.inr (.inl ⟨rfl,by simp_all,rfl,rfl,rfl,rfl⟩),by simp[keepE,go_sem]⟩
 ·repeat' first|refine kS ?_|refine qS (QcV Ty.h rfl Ty.h rfl rfl rfl (by decide) rfl) ?_|refine qS (Qfv Ty.h rfl Ty.h rfl rfl rfl rfl (by decide) (by decide)) ?_|refine kU ?_|refine kV ?_ ?_<;>intro q|fail
  ·(refine Qa 0 (h:=?_);refine QR (hx:=?_))
   rw[f2.out (by simp_all)];rfl
  ·exact Qh 1 (by decide) ⟨2,n1,n2,0,.inr (.inr (.inl ⟨rfl,r1,by simp_all,rfl,rfl,rfl,rfl⟩)),by simp[keepE,go_sem]⟩
 ·repeat' first|refine kS ?_|refine qS (QcV Ty.h rfl Ty.h rfl rfl rfl (by decide) rfl) ?_|refine qS (Qfv Ty.h rfl Ty.h rfl rfl rfl rfl (by decide) (by decide)) ?_|refine kU ?_|refine kV ?_ ?_<;>intro q|fail
  ·(refine Qa 0 (h:=?_);refine QR (hx:=?_))
   rw[f3.out (by simp_all)];rfl
  ·exact Qh 0 (by decide) ⟨3,n1,n2,n3,.inr (.inr (.inr ⟨rfl,r1,r2,by simp_all,rfl,rfl,rfl,rfl⟩)),by simp[keepE,go_sem]⟩
 ·repeat' first|refine kS ?_|refine qS (Qlu rfl rfl rfl rfl (by decide) (by decide) (by simp)) ?_|refine kU ?_|refine kV ?_ ?_<;>intro q|fail
  ·(refine Qa 0 (h:=?_);refine QR (hx:=?_))
   rw[f5.out (by simp_all)];rfl
  ·(refine Qa 0 (h:=?_);refine QR (hx:=?_))
   rw[hg.out,if_neg (by simpa using q)];rfl
  ·(refine Qa 0 (h:=?_);refine QR (hx:=?_))
   rw[hg.out,if_pos (by simpa using q)]

/- Of fsk_card; no condition. -/
import Derived.Test.YtfmnpmhadmcdkaaGreatDoorS17
import Derived.Test.YtfmnpmhadmcdkaaGreatDoorS19
set_option linter.all false
set_option maxRecDepth 100000
set_option maxHeartbeats 8000000
open Bool renaming and_eq_true->AE
open Go.Proofs.Tryz renaming prog->A5
open Go.RowKit renaming Hid->AA
open List renaming getElem?_eq_getElem->A0,mem_of_getElem?->A1,getD_eq_getElem?_getD->A2,range->A3,getElem?_map->A4,length_map->A6,take_add_one->A7,take_length->A8,mem_cons_of_mem->AB,mem_cons_self->AC,mem_map->AD,length_take->AF,ext_getElem->AH
open Nat renaming zero_add->A9
open Option renaming getD_some->AG
open Option.some renaming inj->AI
namespace Go.Proofs.YtfmnpmhadmcdkaaGreatDoor
noncomputable section
open Go.RowKit
namespace Aw
variable{x:List UInt8}{N:Nat}
attribute [local irreducible] ASeq ADraw AWP Loc
theorem Ql9{l:List Qq}(h:Qab l=true): ∀e∈l,e.1.length<=4:=fun e he=>by
 grind [ent_b,QF]
theorem QiG{l:List Qq}(h: ∀e∈l,e.1.length<=4/\0<=e.2/\e.2<=15):(QG l).length<=l.length*20:=by
 induction l with
 |nil=>simp[QG]
 |cons e l ih=>
  have h1:=h e AC;have h2:=Pl.QcU 8 e.2.toNat (by omega);have ih:=ih fun x hx=>h x (AB _ hx)
  grind [QG,Qas]
def al12Put(l:List Qq)(h:Qab l=true):Pure A5 254 [dEnts l] (dS (QG l)):=by
 have hb: ∀e∈l,e.1.length<=4/\0<=e.2/\e.2<=15:=fun e he=>by have:=Ql9 h e he;have:=ent_b h e he;omega
 have hl:l.length<=12:=by unfold Qab at h;rw[AE,decide_eq_true_eq] at h;exact h.2
 clear h;refine kB ?_
 repeat refine kA ?_
 refine Qo (fun m st=> ∃k:Nat,k<=l.length/\m=l.length -k/\st=⟨28,[(3,.d (dS (QG (l.take k)))),(4,.d (dI k)),(0,.d (dEnts l))],[]⟩) [3,4,0] 0 l.length ⟨0,by omega,rfl,rfl⟩ (round:=?_);rintro m st ⟨k,hk,rfl,rfl⟩
 repeat refine kG ?_
 cases q3:decide ((k:Int)<(l.length:Int))
 ·repeat refine kA ?_
  refine Qb (hx:=?_);have:k=l.length:=by simp at q3;omega
  rw[this,A8]
 have hk2:k<l.length:=by simp at q3;omega
 obtain⟨x,hx⟩: ∃x,l[k]? =some x:=⟨_,A0 hk2⟩;have hr:=Qt (f:=rEnt) hx;have hlen:=QiG (l:=l.take k) fun e he=>hb e (List.mem_of_mem_take he)
 rw[AF] at hlen;have hxb:=hb x (A1 hx);have T:AA (QG (l.take (k+1))=QG (l.take k)++x.1++[61]++Pl.dec x.2.toNat++[59]):=Pm.hid (by rw[A7,hx];simp[QG,Qas]);have hdl:=Pl.QcU 8 x.2.toNat (by omega);have c:=al6Dec x.2.toNat (by omega);rw[show((x.2.toNat:Nat):Int)=x.2 by omega] at c;clear hx hb;generalize QG (l.take k)=out at*;generalize Pl.dec x.2.toNat=d at*;obtain⟨nm,id⟩:=x;simp only at hxb c T hr
 repeat' first|refine kS ?_|refine qD (iy hr) ?_|refine qD (QcX (m:=[61]) rfl rfl (by first|omega|(simp;omega))) ?_|refine qD (QcX (m:=[59]) rfl rfl (by first|omega|(simp;omega))) ?_|refine qD (QcX rfl rfl (by first|omega|(simp;omega))) ?_|refine kU ?_|fail
 refine Qh (l.length -(k+1)) (by omega) ⟨k+1,by omega,rfl,?_⟩;simp[keepE,go_sem,T.out]
theorem QmO{e:Qq}(h:QaA x=some e):e.1.length<=x.length:=by grind [QaA,Qe2]
theorem Qjc(s:List UInt8)(hs:s.length<=1000000000000):Pure A5 199 [dS s] (.tup [tEnts (QbP s).1,dB (QbP s).2]):=by
 have cw:=al2Cut s 59 hs;have hW:=Qe2 59 s;have hne:=Pl.Qhu 59 s;have hread:=fun m=>Qrp (s:=s) (m:=m)
 have hbad:=fun k x=>eg_bad (s:=s) (k:=k) (x:=x)
 generalize Pl.cutB 59 s=w at*;have hw1:0<w.length:=List.length_pos_iff.2 hne;clear hne;have hread:=Pm.hid hread;have hbad:=Pm.hid hbad;refine kB ?_
 repeat refine kA ?_
 refine Qo (fun m st=> ∃(k g:Nat) (out:List Qq),k+1<=w.length/\m=w.length -k/\out.length=k/\AA (∀(i:Nat) e,out[i]? =some e-> ∃x,w[i]? =some x/\QaA x=some e)/\
  st=⟨55,[(4,.osl 0 g 0 out.length),(5,.d (tStrs w)),(6,.d (dI k)),(0,.d (dS s))],[.arr g 2 112 (out.map rEnt)]⟩) [4,5,6,0] 1 w.length ⟨0,0,[],by omega,rfl,rfl,Pm.hid (by simp),rfl⟩ (round:=?_)
 rintro m st ⟨k,g,out,hk,rfl,hlen,hO,rfl⟩
 repeat refine kG ?_
 cases q3:decide ((k:Int)+1<(w.length:Int))
 ·have hk3:out.length+1=w.length:=by simp at q3;omega
  have hg:=Pm.hid (hread.out out hk3 hO.out)
  have hel: ∀e∈out,e.1.length<=Pm.big:=fun e he=>by
   obtain⟨i,hi⟩:=List.getElem?_of_mem he;obtain⟨x,hx,hx2⟩:=hO.out i e hi;have:=QmO hx2;have:=hW.2 x (A1 hx);unfold Pm.big;omega
  have ce:=(Qpy out (by unfold Pm.big;omega) hel).arg (l:=[tEnts out]);cases hE:Qab out
  ·rw[hE] at ce
   clear hread hbad hO hel
   repeat' first|refine kA ?_|refine kV ?_ ?_<;>intro q|fail
   ·rw[q3] at q;cases q
   refine Qeo 0 (h:=?_)
   repeat refine kA ?_
   (refine Qa 1 (h:=?_);refine Qb (hx:=?_))
   rw[hg.out,hE];rfl
  ·rw[hE] at ce
   have cp:=(al12Put out hE).arg (l:=[tEnts out]);clear hread hbad hO hel;generalize QG out=t at*
   repeat' first|refine kA ?_|refine kV ?_ ?_<;>intro q|fail
   ·rw[q3] at q;cases q
   refine Qeo 0 (h:=?_)
   repeat' first|refine kA ?_|refine kV ?_ ?_<;>intro q|fail
   all_goals
    (first|refine Qb (hx:=?_)|(refine Qa 1 (h:=?_);refine Qb (hx:=?_)))
    rw[hg.out,hE]
    simp_all
 have hk2:k<w.length:=by omega
 obtain⟨x,hx⟩: ∃x,w[k]? =some x:=⟨_,A0 hk2⟩;have hr:=Qt (f:=fun s=>[dS s]) hx;have hxl:=hW.2 x (A1 hx);have cx:=al2Cut x 61 (by omega);have hpl:=(Qe2 61 x).2;have hF:=Pm.hid (hbad.out k x (by simp at q3;omega) hx)
 have hT:AA (∀e,QaA x=some e-> ∀(i:Nat) e',(out++[e])[i]? =some e'-> ∃x,w[i]? =some x/\QaA x=some e'):=fun e he i e' hi=>by
  rcases Nat.lt_or_ge i out.length with h|h
  ·rw[List.getElem?_append_left h] at hi;exact hO.out i e' hi
  ·have:i=out.length:=by have:=(List.getElem?_eq_some_iff.1 hi).1;simp at this;omega
   subst this;rw[List.getElem?_append_right (Nat.le_refl _)] at hi;simp at hi;subst hi;rw[hlen];exact⟨x,hx,he⟩
 have her:=Pm.hid (QaA.eq_def x);clear hx hread hbad hO;generalize Pl.cutB 61 x=p at*
 by_cases h2:p.length=2
 ·match p,h2 with
  |[a,b],_=>
  have cn:=aNumGet b (by have:=hpl b (by simp);unfold Pm.big;omega);have hT2:=Pm.hid (hT.out _ her.out);clear hT her hF;generalize (Pl.numGet b).getD 0=nb at*
  repeat' first|refine kS ?_|refine qS (iy hr) ?_|refine qS (iy rfl) ?_|refine QV Ty.h rfl Ty.h (hb:=?_) (kk:=?_)|refine kU ?_|refine kV ?_ ?_<;>intro q|fail
  ·simp;omega
  rotate_left
  ·rw[q3] at q;cases q
  ·simp only[decide_eq_true_eq] at q3
   refine Qh (w.length -(k+1)) (by omega) ⟨k+1,g+1,out++[(a,(nb:Int))],by omega,rfl,by simp[hlen],Pm.hid hT2.out,?_⟩;simp[keepE,go_sem]
 ·have hn:QaA x=none:=by
   rw[her.out];split
   ·exact absurd rfl h2
   ·rfl
  have hF2:=Pm.hid (hF.out hn);clear hT her hF hn
  repeat' first|refine kS ?_|refine qS (iy hr) ?_|refine kU ?_|refine kV ?_ ?_<;>intro q|fail
  all_goals first|exfalso;rw[q3] at q;cases q|exfalso;simp only[bne_eq_false_iff_eq] at*;omega|((refine Qa 1 (h:=?_);refine Qb (hx:=?_));rw[hF2.out];rfl)
attribute [local irreducible] AStep
def al9Get(s:Pm.Store)(hg:QP s)(t:Pl.Tree)(ht:Qx t):Pure A5 198 [dSt s,dTree t] (.tup [dS (QaL (Qc s t)).1,dB (QaL (Qc s t)).2]):=by
 have c:=Qe3 s hg t ht;have hl:=texts_len s ht;have hle:=texts_le s hg t;have hm:=ht.manyHi;have hm0:=ht.manyLo;have hd:AA (QaL (Qc s t)=if(A3 (Qc s t).length).all (Qav (Qc s t)) then((Qc s t).flatten,true) else([],false)):=Pm.hid rfl;generalize Qc s t=l at*;refine kE ?_;refine Qa 0 (h:=?_);refine Qa 1 (h:=?_)
 repeat refine kA ?_
 refine Qo (fun m st=> ∃(k:Nat) (out:List UInt8),k<=l.length/\m=16 -k/\out.length<=128*k/\AA (out=(l.take k).flatten)/\AA ((A3 k).all (Qav l)=true)/\
  st=⟨41,[(6,.d (dS out)),(7,.d (tStrs l)),(8,.d (dI k)),(3,.d (.pd (rTree t)))],[.row 1 [],.row 1 []]⟩) [6,7,8,3] 2 16 ⟨0,[],by omega,rfl,by simp,Pm.hid rfl,Pm.hid rfl,rfl⟩ (round:=?_)
 rintro m st ⟨k,out,hk,rfl,hol,hO,hA,rfl⟩
 repeat refine kG ?_
 cases q4:decide ((k:Int)<t.many)
 ·repeat refine kA ?_
  refine Qb (hx:=?_);have:k=l.length:=by simp at q4;omega
  have h:=hA.out;have ho:=hO.out;rw[this] at h;rw[this,A8] at ho;rw[hd.out,h,ho];rfl
 have hk2:k<l.length:=by simp at q4;omega
 obtain⟨x,hx⟩: ∃x,l[k]? =some x:=⟨_,A0 hk2⟩;have hr:=Qt (f:=fun s=>[dS s]) hx;have hxl:=hle x (A1 hx);have he:AA (Qav l k=(!(x==[])&&(decide (k+1=l.length)||decide (x.length=128)))):=Pm.hid (by unfold Qav;simp only[A2,hx,AG]);have T:AA (Qav l k=true->(A3 (k+1)).all (Qav l)=true):=fun h=>Pl.Qdd (p:=Qav l) hA.out h
 have T2:AA ((l.take (k+1)).flatten=out++x):=Pm.hid (by rw[A7,hx,hO.out];simp)
 have F:AA (Qav l k=false->QaL l=([],false)):=fun h=>by
  rw[hd.out,Pl.Qda (p:=Qav l) hk2 h];rfl
 rw[he.out] at T F;clear hx hA hO hd he hle c
 repeat' first|refine kS ?_|refine qS (iy hr) ?_|refine qS (QcX rfl rfl (by omega)) ?_|refine kU ?_|refine kV ?_ ?_<;>intro q|fail
 all_goals clear hr
 all_goals simp only[decide_eq_true_eq,decide_eq_false_iff_not] at*
 all_goals generalize (x==[])=u at*
 all_goals first
  |(refine Qh (16 -(k+1)) (by omega) ⟨k+1,out++x,by omega,rfl,by simp;omega,Pm.hid T2.out.symm,Pm.hid (T.out ?_),rfl⟩;clear T F T2;cases u<;>simp at* <;>omega)
  |(refine Qb (hx:=?_);have hF:(!u&&(decide (k+1=l.length)||decide (x.length=128)))=false:=by
     clear T F T2;cases u<;>simp at* <;>omega
    rw[F.out hF])
theorem Qjb(s:Pm.Store)(hg:QP s)(n:Qj):Pure A5 126 [dSt s,dNode n] (.tup [tEnts (Qg s n).1,dB (Qg s n).2]):=by
 have hd:=Pm.hid (Qg.eq_def s n);have c1:=aNodeOk n;have c2:=al8Ok s hg n.tree;cases h1:QH s n.tree
 ·rw[h1] at c2 hd
  generalize Q8 n=ok at*;refine kE ?_;refine Qa 0 (h:=?_);refine Qa 1 (h:=?_)
  repeat' first|refine kA ?_|refine kV ?_ ?_<;>intro q|fail
  all_goals
   (refine Qa 2 (h:=?_);refine Qb (hx:=?_))
   rw[hd.out];simp
 have ht:=Qdo h1;have c3:=al9Get s hg n.tree ht
 have hb:(QaL (Qc s n.tree)).1.length<=16*128:=by
  have hl:=texts_len s ht;have hm:=ht.manyHi;have hle:=texts_le s hg n.tree;unfold QaL;split
  ·simp only
   have: ∀l:List (List UInt8),(∀x∈l,x.length<=128)->l.flatten.length<=l.length*128:=by
    intro l;induction l with
    |nil=>intro _;simp
    |cons a l ih=>intro h;have:=ih fun x hx=>h x (AB _ hx);have:=h a AC;rw[List.flatten_cons,List.length_append,List.length_cons];omega
   have:=this _ hle;omega
  ·simp
 have c4:=Qjc (QaL (Qc s n.tree)).1 (by omega);rw[h1] at c2 hd;generalize Q8 n=ok at*;generalize QaL (Qc s n.tree)=bb at*;obtain⟨tx,fine⟩:=bb;simp only at hb c4 hd;generalize QbP tx=r at*;obtain⟨es,good⟩:=r;clear h1 ht;refine kE ?_;refine Qa 0 (h:=?_);refine Qa 1 (h:=?_)
 repeat' first|refine kA ?_|refine kV ?_ ?_<;>intro q|fail
 all_goals
  (first|refine Qb (hx:=?_)|(refine Qa 2 (h:=?_);refine Qb (hx:=?_)))
  rw[hd.out];clear c1 c2 c3 c4 hd
  simp_all
def QkH(size:Int)(k:Nat)(h0:0<=size)(h1:size<=2048)(hk:k<=100):Pure A5 177 [dI size,dI k] (dI (Qa6 size k)):=by
 refine kB ?_
 repeat' first|refine kS ?_|refine qS (Qdu rfl rfl (by omega)) ?_|refine qS (Qmy rfl rfl) ?_|refine kU ?_|fail
 exact Qb (hx:=rfl)
theorem al13Ok(s:Pm.Store)(hg:QP s)(n:Qj):Pure A5 130 [dSt s,dNode n] (dB (QO s n)):=by
 have hd:AA (QO s n=(Q8 n&&(n.kind==1)&&QH s n.tree&&(A3 n.tree.many.toNat).all (Qa9 n.size (Qc s n.tree)))):=Pm.hid rfl;have c1:=aNodeOk n;have c2:=al8Ok s hg n.tree
 by_cases hk:Q8 n=true/\n.kind=1/\QH s n.tree=true
 rotate_left
 ·have hx:AA (QO s n=false):=Pm.hid (by
   rw[hd.out];cases h1:Q8 n
   ·rfl
   ·cases h2:QH s n.tree
    ·simp
    ·have:(n.kind==1)=false:=by simpa using fun h=>hk ⟨h1,h,h2⟩
     rw[this];rfl)
  clear hd;generalize Q8 n=ok at*;generalize QH s n.tree=tok at*;refine kE ?_;refine Qa 0 (h:=?_);refine Qa 1 (h:=?_)
  repeat' first|refine kA ?_|refine kV ?_ ?_<;>intro q|fail
  all_goals first|refine Qb (hx:=?_);rw[hx.out];done|exfalso;simp_all;done|exfalso;apply hk;simp_all
 obtain⟨h1,h2,h3⟩:=hk;have ht:=Qdo h3;have hb:=QdZ h1;have hs:=hb.size;have c3:=Qe3 s hg n.tree ht;have hl:=texts_len s ht;have hle:=texts_le s hg n.tree;have hm:=ht.manyHi;have hm0:=ht.manyLo;have hd2:AA (QO s n=(A3 n.tree.many.toNat).all (Qa9 n.size (Qc s n.tree))):=Pm.hid (by rw[hd.out,h1,h2,h3];rfl);rw[h1] at c1;rw[h3] at c2;clear hd h1 h3 ht hb;generalize Qc s n.tree=l at*;obtain⟨kind,links,size,⟨root,depth,many⟩⟩:=n;simp only at h2 hs hl hm hm0 hd2 c1 c2 c3;subst h2;refine kE ?_;refine Qa 0 (h:=?_);refine Qa 1 (h:=?_)
 repeat refine kA ?_
 refine Qo (fun m st=> ∃(k:Nat),k<=l.length/\m=16 -k/\AA ((A3 k).all (Qa9 size l)=true)/\
  st=⟨51,[(5,.d (tStrs l)),(6,.d (dI k)),(3,.d (.pd (rNode ⟨1,links,size,⟨root,depth,many⟩⟩)))],[.row 1 [],.row 1 []]⟩) [5,6,3] 2 16 ⟨0,by omega,rfl,Pm.hid rfl,rfl⟩ (round:=?_)
 rintro m st ⟨k,hk,rfl,hA,rfl⟩
 repeat refine kG ?_
 cases q4:decide ((k:Int)<many)
 ·repeat refine kA ?_
  refine Qb (hx:=?_);have:k=many.toNat:=by simp at q4;omega
  have h:=hA.out;rw[this] at h;rw[hd2.out,h]
 have hk2:k<l.length:=by simp at q4;omega
 obtain⟨x,hx⟩: ∃x,l[k]? =some x:=⟨_,A0 hk2⟩;have hr:=Qt (f:=fun s=>[dS s]) hx;have hxl:=hle x (A1 hx);have he:AA (Qa9 size l k=(decide ((x.length:Int)<=Qa6 size k)&&(QaP x==x))):=Pm.hid (by unfold Qa9;simp only[A2,hx,AG]);have T:AA (Qa9 size l k=true->(A3 (k+1)).all (Qa9 size l)=true):=fun h=>Pl.Qdd (p:=Qa9 size l) hA.out h
 have F:AA (Qa9 size l k=false->QO s ⟨1,links,size,⟨root,depth,many⟩⟩=false):=fun h=>by
  rw[hd2.out,Pl.Qda (p:=Qa9 size l) (by omega) h]
 rw[he.out] at T F;have c4:=QkH size k hs.1 hs.2 (by omega);have c5:=al10Cut x (by unfold Pm.big;omega);clear hx hA hd2 he hle c1 c2 c3;generalize QaP x=y at*;generalize Qa6 size k=lg at*
 repeat' first|refine kS ?_|refine qS (iy hr) ?_|refine kU ?_|refine kV ?_ ?_<;>intro q|fail
 all_goals clear hr c4 c5
 all_goals simp only[decide_eq_true_eq,decide_eq_false_iff_not] at*
 all_goals first|refine Qh (16 -(k+1)) (by omega) ⟨k+1,by omega,rfl,Pm.hid (T.out ?_),rfl⟩;clear T F;simp_all;try omega|refine Qb (hx:=?_);rw[F.out ?_];clear T F;simp_all;try omega
attribute [local irreducible] Fg.PlanF Fg.Flts
theorem QpM: ∀(p:List (List UInt8)),(∀x∈p,x.length<=4)->(QC p).length<=5*p.length+1:=by intro l;induction l<;>grind [QC]
theorem Qe0(s:Pm.Store)(n:Qj):(Qg s n).1.length<=12:=by grind [QdG,Qab]
theorem Qei(h:QF x=true):x.length<=4:=by grind [QF]
theorem Qp2(ns:List Qj)(E:Qj->List Qq×Bool): ∀(n:Nat) (x:QaT) (out:List QaT),(Qbl ns E n x out).2=true->(Qbl ns E n x out).1.length<=144
 |0,x,out,h=>by cases h
 |n+1,x,out,h=>by
  have hf: ∀(l:List Qq) (r:List QaT×Bool),(r.2=true->r.1.length<=144)->(Qb0 ns E n x.1 l r).2=true->(Qb0 ns E n x.1 l r).1.length<=144:=by
   intro l;induction l with
   |nil=>intro r hr h;exact hr h
   |cons e l ih=>
    rintro⟨o,b⟩ hr h;cases b
    ·grind [Qic]
    ·rw[Qfm] at h⊢
     exact ih _ (Qp2 ns E n _ o) h
  unfold Qbl at h⊢;split at h
  ·cases h
  ·rename_i hc
   rw[if_neg hc];split at h
   ·grind
   ·rename_i hk
    rw[if_neg hk];refine hf _ _ (fun _=>?_) h
    grind
theorem QtC(s:Pm.Store)(hg:QP s)(ns:List Qj)(hns:ns.length<=16): ∀(n:Nat) (p:List (List UInt8)) (id:Int) (out:List QaT) (g:Nat),145<=out.length+n->out.length<=144->p.length<=out.length->(∀x∈p,QF x=true)->
 Does A5 129 [.d (dSt s),.d (.sl true 10 (ns.map rNode)),.d (.agg [dS (QC p),dI id]),.osl 0 g 0 out.length] [.arr g 2 43 (out.map rFnd)] []
  (.tup [.osl 0 (g+((Qbl ns (Qg s) n (p,id) out).1.length -out.length)) 0 (Qbl ns (Qg s) n (p,id) out).1.length,.d (dB (Qbl ns (Qg s) n (p,id) out).2)])
  [.arr (g+((Qbl ns (Qg s) n (p,id) out).1.length -out.length)) 2 43 ((Qbl ns (Qg s) n (p,id) out).1.map rFnd)]:=by
 intro n;induction n with
 |zero=>intro p id out g h1 h2;omega
 |succ n ih=>
  intro p id out g h1 h2 h3 hp;have hwl:=(Qp3 ns (Qg s) (n+1) (p,id) out).2 (by omega)
  have hw:AA (Qbl ns (Qg s) (n+1) (p,id) out=if 144<out.length+1∨Pl.inR id 0 (ns.length -1)=false∨(ns.getD id.toNat Qd).kind=0 then(out++[(p,id)],false) else
   if(ns.getD id.toNat Qd).kind=1 then(out++[(p,id)],true) else Qb0 ns (Qg s) n p (Qg s (ns.getD id.toNat Qd)).1 (out++[(p,id)],(Qg s (ns.getD id.toNat Qd)).2)):=Pm.hid rfl
  have hspl:=QpM p fun x hx=>Qei (hp x hx)
  have hnl:(ns.map rNode).length=ns.length:=A6 ..;have hol:(out.map rFnd).length=out.length:=A6 ..;have c1:=al6In id 0 (ns.length -1);refine kL ?hpin fun gvs=>?_
  case hpin=>
   intro i C hC
   match i,hC with
   |0,hC=>obtain rfl:=AI hC;exact⟨_,rfl,rfl,rfl,.inl (by omega)⟩
  simp only[parA,gslot,A9,Nat.reduceAdd]
  by_cases h144:out.length=144
  ·have hw2:AA (Qbl ns (Qg s) (n+1) (p,id) out=(out++[(p,id)],false)):=Pm.hid (by rw[hw.out,if_pos (.inl (by omega))])
   rw[hw2.out];clear hw hw2 ih hwl;refine kR ?_;refine Qa 1 (h:=?_);refine Qa 2 (h:=?_)
   repeat' first|refine kS ?_|refine QV Ty.h rfl Ty.h (hb:=?_) (kk:=?_)|refine kU ?_|refine kV ?_ ?_<;>intro q|fail
   all_goals first|exfalso;simp only[decide_eq_false_iff_not] at*;omega|simp;omega|refine Qee [8,9,1000000] 1 (h:=?_);refine QdB (hx:=?_) (hH:=?_)<;>simp<;>done
  have h2':out.length<144:=by omega
  cases hR:Pl.inR id 0 (ns.length -1)
  ·have hw2:AA (Qbl ns (Qg s) (n+1) (p,id) out=(out++[(p,id)],false)):=Pm.hid (by rw[hw.out,if_pos (.inr (.inl hR))])
   rw[hw2.out];rw[hR] at c1;clear hw hw2 ih hwl;refine kR ?_;refine Qa 1 (h:=?_);refine Qa 2 (h:=?_)
   repeat' first|refine kS ?_|refine QV Ty.h rfl Ty.h (hb:=?_) (kk:=?_)|refine kU ?_|refine kV ?_ ?_<;>intro q|fail
   all_goals first|exfalso;simp only[decide_eq_true_eq] at*;omega|simp;omega|refine Qee [8,9,1000000] 1 (h:=?_);refine QdB (hx:=?_) (hH:=?_)<;>simp<;>done
  rw[hR] at c1;have hid:0<=id/\id<ns.length:=by simp[Pl.inR] at hR;omega
  obtain⟨nd,hnd⟩: ∃nd,ns[id.toNat]? =some nd:=⟨_,A0 (by omega)⟩;have hgd:ns.getD id.toNat Qd=nd:=by rw[A2,hnd];rfl
  have hr:(ns.map rNode)[id.toNat]? =some (rNode nd):=by rw[A4,hnd];rfl
  rw[hgd] at hw
  have hc: ¬(144<out.length+1∨Pl.inR id 0 (ns.length -1)=false∨nd.kind=0)∨nd.kind=0:=by
   by_cases h0:nd.kind=0
   ·exact .inr h0
   ·exact .inl (by rw[hR];simp[h0];omega)
  clear hgd hnd
  by_cases hk0:nd.kind=0
  ·have hw2:AA (Qbl ns (Qg s) (n+1) (p,id) out=(out++[(p,id)],false)):=Pm.hid (by rw[hw.out,if_pos (.inr (.inr hk0))])
   rw[hw2.out];clear hw hw2 ih hwl hc;refine kR ?_;refine Qa 1 (h:=?_);refine Qa 2 (h:=?_)
   repeat' first|refine kS ?_|refine qD (QcV Ty.h rfl Ty.h rfl rfl rfl hid.1 hr) ?_|refine qS (QcV Ty.h rfl Ty.h rfl rfl rfl hid.1 hr) ?_|refine QV Ty.h rfl Ty.h (hb:=?_) (kk:=?_)|refine kU ?_|refine kV ?_ ?_<;>intro q|fail
   all_goals first|exfalso;simp only[decide_eq_true_eq] at*;omega|exfalso;simp only[beq_eq_false_iff_ne] at*;omega|simp;omega|refine Qee [8,9,1000000] 1 (h:=?_);refine QdB (hx:=?_) (hH:=?_)<;>simp<;>done
  have hc:=hc.resolve_right hk0
  by_cases hk1:nd.kind=1
  ·have hw2:AA (Qbl ns (Qg s) (n+1) (p,id) out=(out++[(p,id)],true)):=Pm.hid (by rw[hw.out,if_neg hc,if_pos hk1])
   rw[hw2.out];clear hw hw2 ih hwl hc;refine kR ?_;refine Qa 1 (h:=?_);refine Qa 2 (h:=?_)
   repeat' first|refine kS ?_|refine qD (QcV Ty.h rfl Ty.h rfl rfl rfl hid.1 hr) ?_|refine qS (QcV Ty.h rfl Ty.h rfl rfl rfl hid.1 hr) ?_|refine QV Ty.h rfl Ty.h (hb:=?_) (kk:=?_)|refine kU ?_|refine kV ?_ ?_<;>intro q|fail
   all_goals first|exfalso;simp only[decide_eq_true_eq] at*;omega|exfalso;simp only[beq_eq_false_iff_ne,beq_iff_eq] at*;omega|simp;omega|refine Qee [8,9,1000000] 1 (h:=?_);refine QdB (hx:=?_) (hH:=?_)<;>simp<;>done
  have hw2:AA (Qbl ns (Qg s) (n+1) (p,id) out=Qb0 ns (Qg s) n p (Qg s nd).1 (out++[(p,id)],(Qg s nd).2)):=Pm.hid (by rw[hw.out,if_neg hc,if_neg hk1]);have c2:=Qjb s hg nd;have heb:=QiF s nd;have hes:=Qe0 s nd;clear hw hc;generalize Qg s nd=ee at*;obtain⟨es,ok0⟩:=ee;simp only at hw2 heb hes;obtain⟨kind,links,size,⟨⟨p1,p2,p3,p4,p5⟩,depth,many⟩⟩:=nd;simp only at hk0 hk1;refine kR ?_;refine Qa 1 (h:=?_);refine Qa 2 (h:=?_)
  repeat' first|refine kS ?_|refine qD (QcV Ty.h rfl Ty.h rfl rfl rfl hid.1 hr) ?_|refine qS (QcV Ty.h rfl Ty.h rfl rfl rfl hid.1 hr) ?_|refine QV Ty.h rfl Ty.h (hb:=?_) (kk:=?_)|refine kU ?_|refine kV ?_ ?_<;>intro q|fail
  all_goals first|exfalso;simp only[decide_eq_true_eq] at*;omega|exfalso;simp only[beq_eq_false_iff_ne,beq_iff_eq] at*;omega|simp;omega|skip
  generalize hsp:QC p=sp at hspl
  refine Qo (fun m st=> ∃(k gg:Nat) (o:List QaT) (b:Bool),k<=es.length/\m=es.length -k/\out.length+1<=o.length/\gg=g+(o.length -out.length)/\AA (Qbl ns (Qg s) (n+1) (p,id) out=Qb0 ns (Qg s) n p (es.drop k) (o,b))/\
   (b=true->o.length<=144)/\st=⟨101,[(3,.osl 0 gg 0 o.length),(10,.d (tEnts es)),(11,.d (dB b)),(12,.d (dI k)),(1,.d (.sl true 10 (ns.map rNode))),(4,.d (.pd (rSt s))),(6,.d (.pd [dS sp,dI id])),(1000000,.gh [] gvs)],[.arr gg 2 43 (o.map rFnd),.row 1 [],.row 1 []]⟩)
   [3,10,11,12,1,4,6,1000000] 3 es.length ⟨0,g+1,out++[(p,id)],ok0,by omega,rfl,by simp,by simp,Pm.hid hw2.out,fun _=>by simp;omega,?_⟩ (round:=?_)
  ·rw[<-hsp];simp[keepE,go_sem]
  rintro m st ⟨k,gg,o,b,hk,rfl,hol2,hgg,hW,hb,rfl⟩
  by_cases hkb:k<es.length/\b=true
  rotate_left
  ·have hw3:AA (Qbl ns (Qg s) (n+1) (p,id) out=(o,b)):=Pm.hid (by
    rw[hW.out]
    by_cases hb2:b=true
    ·have hk2:k=es.length:=by have: ¬k<es.length:=fun h=>hkb ⟨h,hb2⟩;omega
     rw[hk2,List.drop_length];rfl
    ·have:b=false:=by simpa using hb2
     rw[this,Qic])
   clear hW hw2 ih hwl
   repeat' first|refine kA ?_|refine kV ?_ ?_<;>intro q|fail
   all_goals first|exfalso;simp only[decide_eq_true_eq] at*;exact hkb ⟨by omega,by assumption⟩|refine Qee [8,9,1000000] 1 (h:=?_);refine QdB (hx:=?_) (hH:=?_)<;>rw[hw3.out,hgg];done
  obtain⟨hk2,rfl⟩:=hkb;have hb:=hb rfl;obtain⟨e,he⟩: ∃e,es[k]? =some e:=⟨_,A0 hk2⟩;have hre:=Qt (f:=rEnt) he;have hen:=(heb e (A1 he)).1
  have IH:=ih (p++[e.1]) e.2 o gg (by omega) hb (by simp;omega) (fun x hx=>by
   rcases List.mem_append.1 hx with hx|hx
   ·exact hp x hx
   ·rw[List.mem_singleton] at hx;rw[hx];exact hen)
  have hP:=Qqt hp;have hroot:AA (sp=[47]↔p=[]):=Pm.hid (by rw[<-hsp];exact Qjh hP);have hsn:QC (p++[e.1])=if p=[] then [47]++e.1 else sp++[47]++e.1:=by rw[Qoy,hsp];split<;>simp
  have hstep:AA (Qbl ns (Qg s) (n+1) (p,id) out=Qb0 ns (Qg s) n p (es.drop (k+1)) (Qbl ns (Qg s) n (p++[e.1],e.2) o)):=Pm.hid (by rw[hW.out,QgR he,Qfm]);have hlen:=(Qp3 ns (Qg s) n (p++[e.1],e.2) o).1;have htrue:=Qp2 ns (Qg s) n (p++[e.1],e.2) o;have hnl4:=Qei hen;rw[hsn] at IH;clear ih hW hw2 hwl he heb hsn hsp hp;generalize Qbl ns (Qg s) n (p++[e.1],e.2) o=r at*;obtain⟨o',b'⟩:=r;obtain⟨nm,eid⟩:=e;simp only at IH hlen htrue hnl4 hstep hre
  by_cases hp0:p=[]
  ·rw[if_pos hp0] at IH
   have hsp2:sp=[47]:=hroot.out.2 hp0;subst hsp2
   repeat' first|refine kS ?_|(show AWP _ (.region 13 _ _) _ _;refine(Fg.awp_drawF (id:=13) [] [10] ?_))|refine qD (iy hre) ?_|refine qS (iy hre) ?_|refine qD (QcX (l:=[47]) (m:=[47]) rfl rfl (by first|omega|(simp;omega))) ?_|refine qS (QcX (l:=[47]) rfl rfl (by first|omega|(simp;omega))) ?_|refine qD (QcX rfl rfl (by first|omega|(simp;omega))) ?_|refine(QgZ [0] IH cK (k:=?_))|refine kU ?_|refine kV ?_ ?_<;>intro q|fail
   all_goals first|refine Qh (es.length -(k+1)) (by omega) ⟨k+1,gg+(o'.length -o.length),o',b',by omega,rfl,by omega,by omega,Pm.hid hstep.out,htrue,?_⟩;simp[keepE,go_sem];done|exfalso;simp at q;done|exfalso;simp only[decide_eq_false_iff_not] at*;omega|exfalso;simp_all;done
  ·rw[if_neg hp0] at IH
   have hsp2: ¬sp=[47]:=fun h=>hp0 (hroot.out.1 h)
   repeat' first|refine kS ?_|(show AWP _ (.region 13 _ _) _ _;refine(Fg.awp_drawF (id:=13) [] [10] ?_))|refine qD (iy hre) ?_|refine qS (iy hre) ?_|refine qD (QcX (m:=[47]) rfl rfl (by first|omega|(simp;omega))) ?_|refine qS (QcX (l:=[47]) rfl rfl (by first|omega|(simp;omega))) ?_|refine qD (QcX rfl rfl (by first|omega|(simp;omega))) ?_|refine qS (Qdm (m:=[47]) rfl rfl) ?_|refine(QgZ [0] IH cK (k:=?_))|refine kU ?_|refine kV ?_ ?_<;>intro q|fail
   all_goals first|refine Qh (es.length -(k+1)) (by omega) ⟨k+1,gg+(o'.length -o.length),o',b',by omega,rfl,by omega,by omega,Pm.hid hstep.out,htrue,?_⟩;simp[keepE,go_sem];done|exfalso;simp at q;done|exfalso;simp only[decide_eq_false_iff_not] at*;omega|exfalso;simp_all;done
abbrev tFnds(l:List QaT):D:= .sl true 2 (l.map rFnd)
def QbU(s:Pm.Store)(t:Pl.Tree):List QaT×Bool:=if Qae s t then((QaI s t).1,true) else([],false)
def QbS(out:List QaT)(N:Nat):List Int:=(A3 N).map fun k=>((Pl.many out k:Nat):Int)
def cnt_nil(N:Nat):QbS [] N=List.replicate N 0:=by
 refine AH (by simp[QbS]) fun i hi hi'=>by simp[QbS,Pl.many]
theorem Qr8(out:List QaT){k:Nat}(h:k<N):(QbS out N)[k]? =some ((Pl.many out k:Nat):Int):=by grind [QbS]
theorem Qtw(out:List QaT)(x:QaT)(h0:0<=x.2)(_h:x.2<N):QbS (out++[x]) N=(QbS out N).set x.2.toNat (((Pl.many out x.2.toNat:Nat):Int)+1):=by
 refine AH (by simp[QbS]) fun i hi hi'=>?_
 grind [QbS,Pl.many]
theorem many_le(out:List QaT)(k:Nat):Pl.many out k<=out.length:=by grind [Pl.many,List.count_le_length]
theorem al15All(s:Pm.Store)(hg:QP s)(t:Pl.Tree):Pure A5 75 [dSt s,dTree t] (.tup [tFnds (QbU s t).1,dB (QbU s t).2]):=by
 have hd:=Pm.hid (QbU.eq_def s t);have hf:AA (Qae s t=(Qat s t&&((Qk s t).getD 0 Qd).kind==2&&(QaI s t).2&&(A3 (Qk s t).length).all (Qa0 s (Qk s t) (QaI s t).1))):=Pm.hid rfl;have c0:=al11Ok s hg t;cases h0:Qat s t
 ·rw[h0] at c0
  have hx:AA (QbU s t=([],false)):=Pm.hid (by rw[hd.out,hf.out,h0];rfl);refine kE ?_;refine Qa 0 (h:=?_);refine Qa 1 (h:=?_)
  repeat refine kA ?_
  (refine Qa 2 (h:=?_);refine Qb (hx:=?_))
  rw[hx.out];rfl
 rw[h0] at c0 hf;have ht:Qx t:=Qdo (by unfold Qat at h0;rw[AE] at h0;exact h0.1);have c1:=QlW s hg t ht;have hnl:(Qk s t).length<=16:=by unfold Qk;rw[A6,texts_len s ht];have:=ht.manyHi;omega
 have hids:AA (((Qk s t).getD 0 Qd).kind=2->(QaI s t).2=true->(QaI s t).1.length<=144/\ ∀x∈(QaI s t).1,0<=x.2/\x.2<(Qk s t).length):=Pm.hid fun h1 h2=>by
  obtain⟨L,g1,g2,g3⟩:=QgM s h1 h2;rw[g3];refine⟨by simpa using g2,fun x hx=>?_⟩;obtain⟨y,hy,rfl⟩:=AD.1 hx;have:=g1.fd.kinds y.2 (AD.2 ⟨y,hy,rfl⟩);have hk:y.2<(Qk s t).length:=QdO (by rcases this with h|⟨h,_⟩<;>rw[h]<;>decide);simp only[Qbo];omega
 have W:=QtC s hg (Qk s t) hnl 145 [] 0 [] 0 (by simp) (by simp) (by simp) (by intro x hx;cases hx);have hfd:AA (QaI s t=Qbl (Qk s t) (Qg s) 145 ([],0) []):=Pm.hid rfl;rw[<-hfd.out] at W;rw[show QC []=[47] from rfl] at W
 have hB: ∀n∈Qk s t,n=Qd∨NodeB n:=fun n hn=>by
  unfold Qk at hn;obtain⟨x,_,rfl⟩:=AD.1 hn;rcases Qio x with h|h
  ·exact .inr h
  ·exact .inl h
 have hB:=Pm.hid hB;have c13:=Pm.hid fun n=>al13Ok s hg n
 have hnf:AA (∀out k nd,(Qk s t)[k]? =some nd->Qa0 s (Qk s t) out k=((nd.kind==0||((Pl.many out k:Int)==nd.links))&&(!(nd.kind==1)||QO s nd))):=Pm.hid fun out k nd h=>by
  unfold Qa0;rw[A2,h];rfl
 clear h0 ht hfd;generalize QaI s t=fo at*;generalize Qk s t=ns at*;obtain⟨out,ok⟩:=fo;simp only[List.map_nil,List.length_nil,Nat.sub_zero,A9] at W;simp only at hd hf hids;have hnm:(ns.map rNode).length=ns.length:=A6 ..
 by_cases h2:(ns.getD 0 Qd).kind=2
 rotate_left
 ·have hx:AA (QbU s t=([],false)):=Pm.hid (by
   rw[hd.out,hf.out];have:((ns.getD 0 Qd).kind==2)=false:=by simpa using h2
   rw[this];rfl)
  cases ns with
  |nil=>
   refine kE ?_;refine Qa 0 (h:=?_);refine Qa 1 (h:=?_)
   repeat refine kA ?_
   (refine Qa 2 (h:=?_);refine Qb (hx:=?_))
   rw[hx.out];rfl
  |cons n0 ns=>
   have hr:((n0::ns).map rNode)[((0:Nat):Int).toNat]? =some (rNode n0):=rfl;have h2: ¬n0.kind=2:=h2;refine kE ?_;refine Qa 0 (h:=?_);refine Qa 1 (h:=?_)
   repeat' first|refine kS ?_|refine qS (iy hr) ?_|refine kU ?_|refine kV ?_ ?_<;>intro q|fail
   all_goals first|exfalso;simp at q;omega|((refine Qa 2 (h:=?_);refine Qb (hx:=?_));rw[hx.out];rfl)
 have hlen0:0<ns.length:=by
  cases ns with
  |nil=>exact absurd h2 (by decide)
  |cons n0 ns=>simp
 obtain⟨n0,hn0⟩: ∃n0,ns[0]? =some n0:=⟨_,A0 hlen0⟩;have hk0:n0.kind=2:=by rw[A2,hn0] at h2;exact h2
 have hr0:(ns.map rNode)[(0:Int).toNat]? =some (rNode n0):=by show(ns.map rNode)[0]? =_;rw[A4,hn0];rfl
 have h2b:((ns.getD 0 Qd).kind==2)=true:=by simpa using h2
 cases ok
 ·have hx:AA (QbU s t=([],false)):=Pm.hid (by rw[hd.out,hf.out,h2b];rfl)
  clear hB hnf hids hf hd;refine kE ?_;refine Qa 0 (h:=?_);refine Qa 1 (h:=?_)
  repeat' first|refine kS ?_|refine qS (iy hr0) ?_|refine(QkC [2] W cK (k:=?_))|refine kU ?_|refine kV ?_ ?_<;>intro q|fail
  all_goals first|exfalso;simp at q;omega|exfalso;simp only[beq_iff_eq] at q;omega|((refine Qa 3 (h:=?_);refine Qb (hx:=?_));rw[hx.out];rfl)
 obtain⟨hol,hid⟩:=hids.out h2 rfl;have hf2:AA (Qae s t=(A3 ns.length).all (Qa0 s ns out)):=Pm.hid (by rw[hf.out,h2b];rfl);clear hids hf;have hid:=Pm.hid hid;refine kE ?_;refine Qa 0 (h:=?_);refine Qa 1 (h:=?_)
 repeat' first|refine kS ?_|refine qS (iy hr0) ?_|refine(QkC [2] W cK (k:=?_))|refine stepS2 (QhO Ty.h rfl Ty.h rfl rfl rfl (by simp;omega) (by omega)) (k:=?_)|refine kU ?_|refine kV ?_ ?_<;>intro q|fail
 all_goals first|exfalso;simp only[beq_iff_eq] at q;omega|exfalso;simp at q;omega|skip
 refine Qa 2 (h:=?_)
 refine Qo (fun m st=> ∃j:Nat,j<=out.length/\m=out.length -j/\st=⟨110,[(10,.d (dI j)),(9,.osl 3 0 0 ns.length),(7,.d (tFnds out)),(6,.d (.sl true 10 (ns.map rNode))),(2,.d (.pd (rSt s)))],
  [.row 1 [],.row 1 [],.arr (out.length+1) 2 43 [],.arr 0 1 3 ((QbS (out.take j) ns.length).map fun n=>[dI n])]⟩) [10,9,7,6,2] 4 out.length ⟨0,by omega,rfl,?_⟩ (round:=?_)
 ·simp[keepE,go_sem,cnt_nil,List.take_of_length_le]
 rintro m st ⟨j,hj,rfl,rfl⟩
 repeat refine kG ?_
 cases q3:decide ((j:Int)<(out.length:Int));rotate_left
 ·have hj2:j<out.length:=by simp at q3;omega
  obtain⟨x,hx⟩: ∃x,out[j]? =some x:=⟨_,A0 hj2⟩;have hr:=Qt (f:=rFnd) hx;have hxi:=hid.out x (A1 hx)
  have hrm:((QbS (out.take j) ns.length).map fun n=>[dI n])[0+x.2.toNat]? =some [dI ((Pl.many (out.take j) x.2.toNat:Nat):Int)]:=by
   rw[A9,A4,Qr8 _ (by omega)];rfl
  have hml:=many_le (out.take j) x.2.toNat;rw[AF] at hml
  have T:AA (QbS (out.take (j+1)) ns.length=(QbS (out.take j) ns.length).set x.2.toNat (((Pl.many (out.take j) x.2.toNat:Nat):Int)+1)):=Pm.hid (by
   rw[A7,hx];exact Qtw _ x hxi.1 hxi.2)
  clear hx hf2 hd hB hnf c0 c1 W;generalize Pl.many (out.take j) x.2.toNat=c at*;generalize QbS (out.take j) ns.length=cl at*;obtain⟨xp,xi⟩:=x;simp only at hxi hrm T hr
  repeat' first|refine kS ?_|(show AWP _ (.region 13 _ _) _ _;refine(Fg.awp_drawF (id:=13) [] [16] ?_))|refine qD (iy hr) ?_|refine qD (Qdn Ty.h rfl Ty.h rfl rfl rfl rfl hxi.1 hxi.2) ?_|refine qD (QcY Ty.h rfl rfl hrm rfl) ?_|refine QiT Ty.h rfl rfl hrm rfl (kk:=?_)|refine kU ?_|fail
  refine Qh (out.length -(j+1)) (by omega) ⟨j+1,by omega,rfl,?_⟩;simp[keepE,go_sem,T.out,List.map_set]
 have hj2:j=out.length:=by simp at q3;omega
 subst hj2;rw[A8]
 repeat refine kA ?_
 refine Qo (fun m st=> ∃k:Nat,k<=ns.length/\m=16 -k/\AA ((A3 k).all (Qa0 s ns out)=true)/\st=⟨110,[(11,.d (dI k)),(9,.osl 3 0 0 ns.length),(7,.d (tFnds out)),(6,.d (.sl true 10 (ns.map rNode))),(2,.d (.pd (rSt s)))],
  [.row 1 [],.row 1 [],.arr (out.length+1) 2 43 [],.arr 0 1 3 ((QbS out ns.length).map fun n=>[dI n])]⟩) [11,9,7,6,2] 4 16 ⟨0,by omega,rfl,Pm.hid rfl,rfl⟩ (round:=?_)
 rintro m st ⟨k,hk,rfl,hA,rfl⟩
 repeat refine kG ?_
 cases q4:decide ((k:Int)<(ns.length:Int))
 ·repeat refine kA ?_
  refine Qb (hx:=?_);have:k=ns.length:=by simp at q4;omega
  have h:=hA.out;rw[this] at h;rw[hd.out,hf2.out,h];rfl
 have hk2:k<ns.length:=by simp at q4;omega
 obtain⟨nd,hnd⟩: ∃nd,ns[k]? =some nd:=⟨_,A0 hk2⟩;have hr:=Qt (f:=rNode) hnd
 have hrm:((QbS out ns.length).map fun n=>[dI n])[0+(k:Int).toNat]? =some [dI ((Pl.many out k:Nat):Int)]:=by
  rw[A9,Int.toNat_natCast,A4,Qr8 _ hk2];rfl
 have he:=hnf.out out k nd hnd;have T:AA (Qa0 s ns out k=true->(A3 (k+1)).all (Qa0 s ns out)=true):=fun h=>Pl.Qdd (p:=Qa0 s ns out) hA.out h
 have F:AA (Qa0 s ns out k=false->QbU s t=([],false)):=fun h=>by
  rw[hd.out,hf2.out,Pl.Qda (p:=Qa0 s ns out) hk2 h];rfl
 rw[he] at T F;have c4:=c13.out nd;clear hnd hA hd hf2 he hnf hB W c0 c1 c13;generalize Pl.many out k=c at*;generalize QO s nd=fok at*;obtain⟨kind,links,size,⟨⟨p1,p2,p3,p4,p5⟩,depth,many⟩⟩:=nd;simp only at T F;have hki:(0:Int)<=k/\(k:Int)<ns.length:=by omega
 repeat' first|refine kS ?_|refine qD (iy hr) ?_|refine qD (Qdn Ty.h rfl Ty.h rfl rfl rfl rfl hki.1 hki.2) ?_|refine qD (QcY Ty.h rfl rfl hrm rfl) ?_|refine kU ?_|refine kV ?_ ?_<;>intro q|fail
 all_goals clear c4 hr hrm
 all_goals first
  |(refine Qh (16 -(k+1)) (by omega) ⟨k+1,by omega,rfl,Pm.hid (T.out ?_),rfl⟩;clear T F;simp_all;done)
  |(refine Qa 4 (h:=?_)
    refine Qb (hx:=?_);have hz:=F.out (by clear T F;simp_all)
    rw[hz];rfl)

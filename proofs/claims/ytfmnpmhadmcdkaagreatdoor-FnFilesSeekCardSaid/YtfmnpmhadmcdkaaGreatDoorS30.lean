/- Of fsk_card; no condition. -/
import Derived.Test.YtfmnpmhadmcdkaaGreatDoorS28
import Derived.Test.YtfmnpmhadmcdkaaGreatDoorS29
import Derived.Sort.Statements
set_option linter.all false
set_option maxRecDepth 100000
set_option maxHeartbeats 16000000
open Bool renaming and_eq_true->A9
open Go.Op renaming bytesLess->A0
open Int renaming toNat_natCast->A7
open List renaming pairwise_iff_getElem->A1,cons_append->A2,mem_cons_of_mem->A3,take_of_length_le->A4,mem_iff_getElem->A5,pairwise_cons->A6,mem_map->A8,all_eq_true->AA,nil_append->AB,append_nil->AC,mem_append->AE
open Option.some renaming inj->AD
namespace Go.Proofs.YtfmnpmhadmcdkaaGreatDoor
noncomputable section
open Go.RowKit
namespace Aw
variable{k:Nat}{L r:List Gr.It}{x:List UInt8}{en:Nat->Option Gr.En}
theorem QoP{l:List Pl.Ptr}{i:Nat}{x:Pl.Ptr}(h:l[i]? =some x)(w:Pl.Sto):w.freeL (l.take (i+1))=(w.freeL (l.take i)).free x:=by grind [List.take_add_one,Pl.Sto.freeL]
attribute [local irreducible] ASeq ADraw AWP Loc AStep Fg.PlanF Fg.Flts EndR Fk.PlanF Fk.Flts Fk.AStepM Fk.Grew Fk.Gs
def eDrop11(g:Nat)(w:Pl.Sto)(N:Nat)(hN:N<=700000)(hw:w.W N)(t:Pl.Tree)(ht:Qx t)(k:Nat)(hk:k<16)(hnt:Qx (Q5 w.st t k).1.tree)(hsub:Qce w.st (Q5 w.st t k).1.tree.depth.toNat (Q5 w.st t k).1.tree.root)(hlo: ∀p∈Qan w.st (Q5 w.st t k).1.tree,Pl.ptrOk p=true):
 DoesE Tryz.prog 226 [oS g w,.d (dTree t),.d (dI k)] (hS g w) (gS g w) (fun x H=>x= .tup [oS (g+1) (Qay w t k (Qan w.st (Q5 w.st t k).1.tree) (Qal (Qc w.st t) k)).1,.d (dTree (Qay w t k (Qan w.st (Q5 w.st t k).1.tree) (Qal (Qc w.st t) k)).2.1),.d (dB (Qay w t k (Qan w.st (Q5 w.st t k).1.tree) (Qal (Qc w.st t) k)).2.2)]/\H=hS (g+1) (Qay w t k (Qan w.st (Q5 w.st t k).1.tree) (Qal (Qc w.st t) k)).1):=by
 refine DoesE.tag (X:=fun g'=> .tup [oS g' (Qay w t k (Qan w.st (Q5 w.st t k).1.tree) (Qal (Qc w.st t) k)).1,.d (dTree (Qay w t k (Qan w.st (Q5 w.st t k).1.tree) (Qal (Qc w.st t) k)).2.1),.d (dB (Qay w t k (Qan w.st (Q5 w.st t k).1.tree) (Qal (Qc w.st t) k)).2.2)]) (C:=fun _=>True) ?_ QfU;have hgood:=hw.good;have c1:=al11Get w.st hgood t ht k;have c2:=QtF w.st hgood t ht k;have c3:=dAll w.st hgood (Q5 w.st t k).1.tree hnt hsub;have hal:=QhX (s:=w.st) hnt.hi;have hml:Qal (Qc w.st t) k<=16:=Nat.le_trans (QgI _ _) (by rw[texts_len _ ht];have:=ht.manyHi;omega);have hd: ∀l m,Hid (Qay w t k l m=if(Qm (w.freeL l) t k []).2.2 then QM (Qm (w.freeL l) t k []).1 (Qm (w.freeL l) t k []).2.1 m else Qm (w.freeL l) t k []):=fun l m=>Pm.hid rfl
 replace hd:=hd (Qan w.st (Q5 w.st t k).1.tree) (Qal (Qc w.st t) k)
 generalize Qal (Qc w.st t) k=many at*;generalize Qan w.st (Q5 w.st t k).1.tree=l at*;generalize Q5 w.st t k=nd at*;obtain⟨n,ok0⟩:=nd;simp only at c1 c3;generalize Qay w t k l many=res at*
 have hfl:[Blk.arr l.length 5 31 (l.map rPtr)].all Blk.flat=true:=by
  simp[Blk.flat];intro x _;exact⟨rfl,rfl,rfl,rfl,rfl⟩
 have hT:(l.map rPtr).take l.length=l.map rPtr:=A4 (by simp);clear hnt hsub;refine kH fun gvs=>?_
 repeat' first|refine kS ?_|refine qS (QcZ cK c1 hw) ?_|refine qS (QcZ cK c2 hw) ?_|refine(QdK (ds:=[dTree n.tree]) c3 cK hw rfl hfl (k:=?_))|refine kU ?_|fail
 refine Qa 10 (C:= .arr l.length 5 31 (l.map rPtr)) (h:=?_);rw[hT]
 refine Qo (fun m st=> ∃(i g':Nat) (wi:Pl.Sto),i<=l.length/\m=l.length -i/\Hid (wi=w.freeL (l.take i))/\Hid (wi.W (N+i))/\(g<g'∨g'=g/\wi.gone.length=w.gone.length)/\
  st=⟨61,[(13,.d (dI i)),(12,.d (tPtrs l)),(11,.d (dI many)),(2,.d (dI k)),(3,.ptr 5 0 0),(4,.ptr 6 0 0),(6,.ptr 7 0 0),(7,.ptr 8 0 0),(1000000,.gh (gS g w) gvs)],
   hS g' wi++[.row 0 (rowS g' wi),.row 0 (rowT t),.row 0 zSt,.row 0 zTr]⟩) [13,12,11,2,3,4,6,7,1000000] 9 l.length
  ⟨0,g,w,by omega,rfl,Pm.hid rfl,Pm.hid hw,.inr ⟨rfl,rfl⟩,rfl⟩ (round:=?_)
 rintro m st ⟨i,g',wi,hi,rfl,hF,hG,hg,rfl⟩;have hW:=hG.out;simp only[hS,A2,AB]
 repeat refine kG ?_
 cases q:decide ((i:Int)<(l.length:Int))
 ·have hil:i=l.length:=by simp at q;omega
  have hF2:=hF.out;rw[hil,A4 (Nat.le_refl _)] at hF2;rw[<-hF2] at hd;have cP:=(ePut g' wi (N+i) (by omega) hW t ht k hk [] (by simp)).tag3;have hWc:=QeV hW ht (k:=k) hk [];have hsg:=Qeh (w:=wi) (t:=t) (k:=k) (text:=[]);generalize Qm wi t k []=y at*;obtain⟨w2,t2,ok2⟩:=y;simp only at cP hWc hsg hd;have v0:w2.rows.length=w.rows.length:=by rw[hWc.1.rows,hw.rows]
  have v1:w2.refs.length=w.refs.length:=by rw[hWc.1.refs,hw.refs]
  have v2:w2.last.length=w.last.length:=by rw[hWc.1.last,hw.last]
  clear hF hF2 hG c1 c2 c3 hfl;cases ok2
  ·simp only[Bool.false_eq_true,if_false] at cP hd
   have v3:w2.gone.length=wi.gone.length:=by rw[(hsg rfl).1]
   clear hsg
   repeat' first|refine kS ?_|refine QA [0,1,2,3,4] cP cK (k:=kX ?_)|(show AWP _ (.region 10 _ _) _ _;refine(Qa 6 (h:=Fg.awp_drawF (id:=10) [1] [2,3] ?_)))|refine kU ?_|fail
   all_goals first|(rcases hg with hg|⟨rfl,hg⟩<;>(refine QN 5 (hx:=?_);rw[hd.out];exact⟨_,trivial,rfl,rfl⟩))
  ·simp only[if_true] at cP hd
   clear hsg;have c4:=pinS (X:=fun g2=> .tup [oS g2 (QM w2 t2 many).1,.d (dTree (QM w2 t2 many).2.1),.d (dB (QM w2 t2 many).2.2)]) (C:=fun g2=>(QM w2 t2 many).2.2=false->g2=g'+1) (eCut (g'+1) w2 (N+i+15) (by omega) hWc.1 t2 hWc.2 many hml);have hWd:=(cut_W hWc.1 hWc.2 (many:=many) hml).1;generalize QM w2 t2 many=z at*;obtain⟨w3,t3,ok3⟩:=z;simp only at c4 hWd hd;have u0:w3.rows.length=w.rows.length:=by rw[hWd.rows,hw.rows]
   have u1:w3.refs.length=w.refs.length:=by rw[hWd.refs,hw.refs]
   have u2:w3.last.length=w.last.length:=by rw[hWd.last,hw.last]
   repeat' first|refine kS ?_|refine QA [0,1,2,3,4] cP cK (k:=kX ?_)|(refine QA [0,1,2,3,4] c4 cK (k:=?_);rintro _ _ ⟨g3,hg3,hC,rfl,rfl⟩;refine Qd1 (k:=?_))|refine kU ?_|fail
   all_goals first
    |(have hg4:g<g3:=by
       rcases hg with h1|⟨h1,h2⟩<;>rcases hg3 with h3|⟨h3,h4⟩<;>omega
      refine QN 5 (hx:=?_);rw[hd.out];exact⟨_,trivial,rfl,rfl⟩)
 have hil:i<l.length:=by simp at q;omega
 obtain⟨x,hx⟩: ∃x,l[i]? =some x:=⟨_,List.getElem?_eq_getElem hil⟩;have hr:=Qt (f:=rPtr) hx;have hxo:=hlo x (List.mem_of_getElem? hx);have cf:=eFree2 g' wi (N+i) (by omega) hW x hxo;have hWf:=(hW.free hxo).le (M:=N+(i+1)) (by omega);have hst:Hid (wi.free x=w.freeL (l.take (i+1))):=Pm.hid (by rw[QoP hx,hF.out]);clear hx hF hG c1 c2 c3 hd;generalize wi.free x=wf at*
 repeat' first|refine kS ?_|refine qD (iy hr) ?_|(show AWP _ (.region 7 _ _) _ _;refine(Fg.awp_drawF (id:=7) [] [5,6] ?_))|(refine QeL [0,1,2,3,4] cf cK (k:=?_);rintro _ _ ⟨g4,hg4,rfl,rfl⟩;refine QkA (k:=?_))|refine kU ?_|fail
 all_goals first|refine Qh (l.length -(i+1)) (by omega) ⟨i+1,g4,wf,by omega,rfl,hst,Pm.hid hWf,(by rcases hg with h1|⟨h1,h2⟩<;>rcases hg4 with h3|⟨h3,h4⟩<;>first|(left;omega)|(right;exact⟨by omega,by omega⟩)),?_⟩;simp[keepE,go_sem];done
def Qaz(size:Int)(k:Nat)(x:List UInt8):Bool:=(Qa1 x (Qa7 size k)).2&& !(([0]:List UInt8).isSuffixOf x)
theorem QeJ{n:Qj}(h:Q8 n=true)(hk:n.kind=1)(hm:(k:Int)<n.tree.many):(k:Int)*12<n.size/\n.size<=192:=by
 unfold Q8 at h;simp only[A9,beq_iff_eq,decide_eq_true_eq] at h;obtain⟨⟨⟨⟨⟨h1,h2⟩,_⟩,_⟩,_⟩,_⟩:=h;have he:QaV n.kind=12:=by rw[hk];rfl
 unfold Qac at h1 h2;rw[he] at h1 h2;simp only[show ¬((12:Int)=0) by decide,if_false] at h1 h2;split at h1
 ·rename_i hs
  rw[if_pos hs] at h2;simp[Pl.inR] at hs;omega
 ·omega
theorem Qqf{n:Qj}(h:Q8 n=true)(hk:n.kind=1)(hm:(k:Int)<n.tree.many)(l:List (List UInt8)):Qaz n.size k (l.getD k [])=Qa9 n.size l k:=by
 obtain⟨h1,h2⟩:=QeJ h hk hm;unfold Qaz Qa9 Qa1;rw[Qhi h1,Qmf,Bool.not_not]
 congr 1
 have hb:Pl.inR (Qa6 n.size k) 0 12=true:=by
  unfold Pl.inR Qa6;simp only[A9,decide_eq_true_eq];omega
 grind
def Qf3{s:Pm.Store}{n:Qj}(h:Q8 n=true)(hk:n.kind=1):
 QO s n=(QH s n.tree&&(List.range (QD s n.tree).1.length).all fun k=>Qaz n.size k (((QD s n.tree).1.map fun p=>(Qf s.1 p).1).getD k [])):=by
 unfold QO;rw[h,hk];cases ht:QH s n.tree
 ·simp
 ·have hl:=Qd9 ht
  rw[Qey ht,hl.1];simp only[BEq.rfl,Bool.true_and];have hg:=Qdo ht;rw[Bool.eq_iff_iff,AA,AA];refine forall_congr' fun k=>?_
  refine imp_congr_right fun hkm=>?_
  rw[List.mem_range] at hkm;rw[Qqf h hk (by omega)]
abbrev Qck(s:Pm.Store)(x:List (List UInt8)):List Gr.It->List Gr.It->Prop:=Gr.FP (Qs (Qu x)) (Qb1 (Qu x) (Qg s))
def QnF{s:Pm.Store}{x:List (List UInt8)}{p:List (List UInt8)}(h:Qck s x [(p,k)] L):
 ∃L1,L=(p,k)::L1/\Qck s x ((QaH s x (k:Nat)).map fun e=>(p++[e.1],e.2.toNat)) L1/\Qs (Qu x) k≠0:=by
 cases h with
 |file hk h=>
  cases h;refine⟨[],rfl,?_,by omega⟩
  have:QaH s x (k:Nat)=[]:=by
   unfold QaH;rw[A7];rcases QdG s ((Qu x).getD k Qd) with h2|h2
   ·have:=QiD h2.1
    exfalso;unfold Qs at hk;rw[this] at hk;cases hk
   ·rw[h2]
  rw[this];exact .nil
 |dir hk hc h1 h2=>
  cases h2;refine⟨_,by rw[AC],?_,by omega⟩;unfold Qb1 at hc;split at hc
  ·obtain rfl:=AD hc
   unfold QaH;rw[A7];unfold Gr.kids at h1;rw[List.map_map] at h1;exact h1
  ·cases hc
def QqS{s:Pm.Store}{x:List (List UInt8)}{y:Gr.It}(h:Qck s x (y::r) L): ∃M R,L=M++R/\Qck s x [y] M/\Qck s x r R:=by
 obtain⟨La,Lb,h1,h2,h3⟩:=Gr.FP.split (a:=[y]) h;exact⟨La,Lb,h1,h2,h3⟩
def QcR(p q:List (List UInt8)):Prop:= ∀u v,(∀n∈u,QF n=true)->(∀n∈v,QF n=true)->A0 (QC (p++u)) (QC (q++v))=true
theorem Quc: ∀p x y:List UInt8,A0 (p++x) (p++y)=A0 x y
 :=by intro l;induction l<;>grind [QfP]
theorem bl_ext(a:List UInt8)(h:x≠[]):A0 a (a++x)=true:=by
 have:=Quc a [] x;rw[AC] at this;rw[this];cases x with
 |nil=>grind
 |cons=>simp[A0]
theorem Qlp: ∀{a b:List UInt8},A0 a b=true->(∀c∈b,(47:UInt8)<c)-> ∀U V:List UInt8,(U=[]∨ ∃R,U=47::R)->A0 (a++U) (b++V)=true
 |[],[],h,_,_,_,_=>by simp[A0] at h
 |[],c::b,_,hb,U,V,hU=>by
  grind [A0]
 |x::a,[],h,_,_,_,_=>by simp[A0] at h
 |x::a,y::b,h,hb,U,V,hU=>by
  rw[QfP] at h;rw[A2,A2,QfP];rcases h with h|⟨rfl,h⟩
  ·grind
  ·exact .inr ⟨rfl,Qlp h (fun c hc=>hb c (A3 _ hc)) U V hU⟩
theorem name_gt(h:QF x=true): ∀c∈x,(47:UInt8)<c:=by grind [QF,UInt8.lt_iff_toNat_lt]
theorem name_ne(h:QF x=true):x≠[]:=by grind [QF]
theorem Qsw(p:List (List UInt8)){a b:List UInt8}(h:A0 a b=true)(hb:QF b=true):QcR (p++[a]) (p++[b]):=by
 intro u v _ _
 have e: ∀(c:List UInt8) (u:List (List UInt8)),QC (p++[c]++u)=p.flatMap (47:: ·)++(47:UInt8)::(c++u.flatMap (47:: ·)):=by
  intro c u;unfold QC;simp_all
 rw[e,e,Quc,QfP];refine .inr ⟨rfl,Qlp h (name_gt hb) _ _ ?_⟩;cases u with
 |nil=>grind
 |cons a u=>grind
theorem Qmg(p u:List (List UInt8))(hu:u≠[])(h: ∀n∈u,QF n=true):A0 (QC p) (QC (p++u))=true:=by
 obtain⟨a,u,rfl⟩:=List.exists_cons_of_ne_nil hu;unfold QC;rw[if_neg (show p++a::u≠[] by simp)];split
 ·rename_i hp
  rw[hp,AB,List.flatMap_cons,A2,QfP];refine .inr ⟨rfl,?_⟩;have:=name_ne (h a List.mem_cons_self);cases a with
  |nil=>grind
  |cons=>simp[A0]
 grind [bl_ext]
theorem QnH{kind:Nat->Nat}(hen: ∀k es,en k=some es-> ∀e∈es,QF e.1=true)(h:Gr.FP kind en r L)(hr: ∀x∈r,∀n∈x.1,QF n=true):
 ∀x∈L,∃y∈r,∃u,x.1=y.1++u/\ ∀n∈u,QF n=true:=by
 intro x hx;obtain⟨y,hy,u,hu⟩:=h.pre x hx;exact⟨y,hy,u,hu.symm,fun n hn=>QnG hen h hr x hx n (by grind)⟩
theorem fp_asc{kind:Nat->Nat}(hen: ∀k es,en k=some es-> ∀e∈es,QF e.1=true)(hes: ∀k es,en k=some es->es.Pairwise fun a b=>A0 a.1 b.1=true)(h:Gr.FP kind en r L):
 (∀x∈r,∀n∈x.1,QF n=true)->r.Pairwise (fun a b=>QcR a.1 b.1)->L.Pairwise fun a b=>A0 (QC a.1) (QC b.1)=true:=by
 induction h with
 |nil=>simp_all
 |file hk h ih=>
  intro hn hp;rw[A6] at hp⊢;have hn':=fun x hx=>hn x (A3 _ hx)
  refine⟨fun b hb=>?_,ih hn' hp.2⟩;obtain⟨y,hy,u,hu,hun⟩:=QnH hen h hn' b hb;have:=hp.1 y hy [] u (by simp) hun
  grind
 |@dir p k es r L1 L2 hk he h1 h2 ih1 ih2=>
  intro hn hp;rw[A6] at hp⊢;have hn':=fun x hx=>hn x (A3 _ hx)
  have hkn: ∀x∈Gr.kids p es,∀n∈x.1,QF n=true:=fun x hx n hm=>by
   obtain⟨e,hem,rfl⟩:=A8.1 hx;rcases AE.1 hm with hm|hm
   ·simp_all
   grind
  have hkp:(Gr.kids p es).Pairwise fun a b=>QcR a.1 b.1:=by
   unfold Gr.kids;rw[List.pairwise_map];exact(hes k es he).imp_of_mem fun{a b} _ hb hab=>Qsw p hab (hen k es he b hb)
  have hl: ∀x∈L1,∃u,u≠[]/\x.1=p++u/\ ∀n∈u,QF n=true:=fun x hx=>by
   obtain⟨y,hy,u,hu,hun⟩:=QnH hen h1 hkn x hx;obtain⟨e,hem,rfl⟩:=A8.1 hy
   grind
  refine⟨fun b hb=>?_,?_⟩
  ·rcases AE.1 hb with hb|hb
   ·grind [Qmg]
   ·obtain⟨y,hy,u,hu,hun⟩:=QnH hen h2 hn' b hb
    have:=hp.1 y hy [] u (by simp) hun
    grind
  ·rw[List.pairwise_append]
   refine⟨ih1 hkn hkp,ih2 hn' hp.2,fun a ha b hb=>?_⟩;obtain⟨u,_,hu,hun⟩:=hl a ha;obtain⟨y,hy,v,hv,hvn⟩:=QnH hen h2 hn' b hb;rw[hu,hv];exact hp.1 y hy u v hun hvn
theorem QqU{s:Pm.Store}{ns:List Qj}(h:Gr.FP (Qs ns) (Qb1 ns (Qg s)) [([],0)] L):
 (∀x∈L,∀n∈x.1,QF n=true)/\L.Pairwise fun a b=>A0 (QC a.1) (QC b.1)=true:=by
 have hen: ∀k es,Qb1 ns (Qg s) k=some es->(∀e∈es,QF e.1=true)/\es.Pairwise fun a b=>A0 a.1 b.1=true:=fun k es he=>by
  unfold Qb1 at he;split at he;rotate_left
  ·cases he
  rename_i h2;obtain rfl:=AD he;rcases QdG s (ns.getD k Qd) with h|h;rotate_left
  ·grind
  refine⟨fun e hee=>?_,?_⟩
  ·obtain⟨e',he',rfl⟩:=A8.1 hee
   grind [QiF]
  grind [A1,ent_asc]
 grind [QnG,fp_asc]
theorem Qmh{α:Type} [Inhabited α]{lt:α->α->Bool}(hO:Go.Sort.SWO lt){d d':Array α}(hd:d.toList.Pairwise fun a b=>lt a b=true)(hp:Go.Sort.PermIn 0 d.size d d')(hs:Go.Sort.SortedIn lt 0 d.size d'):d'=d:=by
 obtain⟨h1,_,h3⟩:=hp;have e1:d'.extract 0 d.size=d':=by grind
 have e2:d.extract 0 d.size=d:=Array.extract_size;rw[e1,e2] at h3;apply Array.toList_inj.1;refine List.Perm.eq_of_pairwise (le:=fun a b=>lt b a=false) (fun a b ha hb hab hba=>?_) ?_ ?_ h3
 ·by_cases hne:a=b
  ·exact hne
  exfalso;have hb':b∈d.toList:=hb;have ha':a∈d.toList:=h3.subset ha;obtain⟨i,hi,rfl⟩:=A5.1 ha';obtain⟨j,hj,rfl⟩:=A5.1 hb'
  grind [A1]
 ·rw[A1]
  intro i j hi hj hij;have hj':j<d'.size:=by omega
  have:=hs i j (Nat.zero_le _) hij (by omega)
  grind
 ·refine hd.imp fun{a b} hab=>?_
  cases hba:lt b a
  ·rfl
  ·have:=hO.trans a b a hab hba
   rw[hO.irrefl] at this;grind

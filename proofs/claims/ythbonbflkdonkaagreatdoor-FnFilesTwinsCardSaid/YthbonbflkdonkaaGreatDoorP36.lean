/- Of ftw_card; no condition. -/
import Derived.Test.YthbonbflkdonkaaGreatDoorP35
import Derived.Sort.Statements
set_option linter.all false
set_option maxRecDepth 100000
set_option maxHeartbeats 16000000
open Go.Lib renaming compareBytes->AJ
open Go.Op renaming bytesLess->A0
open Go.Proofs.Tryz renaming prog->AE
open Go.Sort renaming alloc_eq_grow->AB,SWO->AO
open Int renaming toNat_natCast->A6
open List renaming pairwise_iff_getElem->A1,mem_cons_of_mem->A2,length_append->A4,mem_singleton->A5,cons_append->A7,append_nil->A8,mem_append->A9,length_map->AA,mem_iff_getElem->AC,mem_append_left->AD,pairwise_cons->AF,mem_map->AG,append_assoc->AH,not_mem_nil->AI,map_append->AK,mem_cons->AL,map_cons->AM
open Nat renaming zero_add->AN
open Option.some renaming inj->A3
namespace Go.Proofs.YthbonbflkdonkaaGreatDoor
noncomputable section
open Go.RowKit
namespace Aw
variable{L r:List Gr.It}{x:List UInt8}{en:Nat->Option Gr.En}
abbrev Qc6(s:Pm.Store)(x:List (List UInt8)):List Gr.It->List Gr.It->Prop:=Gr.FP (Qr (Qt x)) (QaO (Qt x) (Qf s))
def Qu0{s:Pm.Store}{x:List (List UInt8)}{p:List (List UInt8)}{k:Nat}(h:Qc6 s x [(p,k)] L):
 ∃L1,L=(p,k)::L1/\Qc6 s x ((QaI s x (k:Nat)).map fun e=>(p++[e.1],e.2.toNat)) L1/\Qr (Qt x) k≠0:=by
 cases h with
 |file hk h=>
  cases h;refine⟨[],rfl,?_,by omega⟩
  have:QaI s x (k:Nat)=[]:=by
   unfold QaI;rw[A6];rcases Qd4 s ((Qt x).getD k Qd) with h2|h2
   ·have:=QfV h2.1
    exfalso;unfold Qr at hk;rw[this] at hk;cases hk
   ·rw[h2]
  rw[this];exact .nil
 |dir hk hc h1 h2=>
  cases h2;refine⟨_,by rw[A8],?_,by omega⟩;unfold QaO at hc;split at hc
  ·obtain rfl:=A3 hc
   unfold QaI;rw[A6];unfold Gr.kids at h1;rw[List.map_map] at h1;exact h1
  ·cases hc
def fp_cons{s:Pm.Store}{x:List (List UInt8)}{y:Gr.It}(h:Qc6 s x (y::r) L): ∃M R,L=M++R/\Qc6 s x [y] M/\Qc6 s x r R:=by
 obtain⟨La,Lb,h1,h2,h3⟩:=Gr.FP.split (a:=[y]) h;exact⟨La,Lb,h1,h2,h3⟩
def Qda(p q:List (List UInt8)):Prop:= ∀u v,(∀n∈u,Q9 n=true)->(∀n∈v,Q9 n=true)->A0 (QB (p++u)) (QB (q++v))=true
theorem Qu7: ∀p x y:List UInt8,A0 (p++x) (p++y)=A0 x y
 :=by intro l;induction l<;>grind [Qgb]
theorem bl_ext(a:List UInt8)(h:x≠[]):A0 a (a++x)=true:=by
 have:=Qu7 a [] x;rw[A8] at this;rw[this];cases x with
 |nil=>grind
 |cons=>simp[A0]
theorem Ql8: ∀{a b:List UInt8},A0 a b=true->(∀c∈b,(47:UInt8)<c)-> ∀U V:List UInt8,(U=[]∨ ∃R,U=47::R)->A0 (a++U) (b++V)=true
 |[],[],h,_,_,_,_=>by simp[A0] at h
 |[],c::b,_,hb,U,V,hU=>by
  grind [A0]
 |x::a,[],h,_,_,_,_=>by simp[A0] at h
 |x::a,y::b,h,hb,U,V,hU=>by
  rw[Qgb] at h;rw[A7,A7,Qgb];rcases h with h|⟨rfl,h⟩
  ·grind
  ·exact .inr ⟨rfl,Ql8 h (fun c hc=>hb c (A2 _ hc)) U V hU⟩
theorem name_gt(h:Q9 x=true): ∀c∈x,(47:UInt8)<c:=by grind [Q9,UInt8.lt_iff_toNat_lt]
theorem name_ne(h:Q9 x=true):x≠[]:=by grind [Q9]
theorem QsP(p:List (List UInt8)){a b:List UInt8}(h:A0 a b=true)(hb:Q9 b=true):Qda (p++[a]) (p++[b]):=by
 intro u v _ _
 have e: ∀(c:List UInt8) (u:List (List UInt8)),QB (p++[c]++u)=p.flatMap (47:: ·)++(47:UInt8)::(c++u.flatMap (47:: ·)):=by
  intro c u;unfold QB;simp_all
 rw[e,e,Qu7,Qgb];refine .inr ⟨rfl,Ql8 h (name_gt hb) _ _ ?_⟩;cases u with
 |nil=>grind
 |cons a u=>grind
theorem Qm0(p u:List (List UInt8))(hu:u≠[])(h: ∀n∈u,Q9 n=true):A0 (QB p) (QB (p++u))=true:=by
 obtain⟨a,u,rfl⟩:=List.exists_cons_of_ne_nil hu;unfold QB;rw[if_neg (show p++a::u≠[] by simp)];split
 ·rename_i hp
  rw[hp,List.nil_append,List.flatMap_cons,A7,Qgb];refine .inr ⟨rfl,?_⟩;have:=name_ne (h a List.mem_cons_self);cases a with
  |nil=>grind
  |cons=>simp[A0]
 grind [bl_ext]
theorem Qoh{kind:Nat->Nat}(hen: ∀k es,en k=some es-> ∀e∈es,Q9 e.1=true)(h:Gr.FP kind en r L)(hr: ∀x∈r,∀n∈x.1,Q9 n=true):
 ∀x∈L,∃y∈r,∃u,x.1=y.1++u/\ ∀n∈u,Q9 n=true:=by
 intro x hx;obtain⟨y,hy,u,hu⟩:=h.pre x hx;exact⟨y,hy,u,hu.symm,fun n hn=>Qk6 hen h hr x hx n (by grind)⟩
theorem fp_asc{kind:Nat->Nat}(hen: ∀k es,en k=some es-> ∀e∈es,Q9 e.1=true)(hes: ∀k es,en k=some es->es.Pairwise fun a b=>A0 a.1 b.1=true)(h:Gr.FP kind en r L):
 (∀x∈r,∀n∈x.1,Q9 n=true)->r.Pairwise (fun a b=>Qda a.1 b.1)->L.Pairwise fun a b=>A0 (QB a.1) (QB b.1)=true:=by
 induction h with
 |nil=>simp_all
 |file hk h ih=>
  intro hn hp;rw[AF] at hp⊢;have hn':=fun x hx=>hn x (A2 _ hx)
  refine⟨fun b hb=>?_,ih hn' hp.2⟩;obtain⟨y,hy,u,hu,hun⟩:=Qoh hen h hn' b hb;have:=hp.1 y hy [] u (by simp) hun
  grind
 |@dir p k es r L1 L2 hk he h1 h2 ih1 ih2=>
  intro hn hp;rw[AF] at hp⊢;have hn':=fun x hx=>hn x (A2 _ hx)
  have hkn: ∀x∈Gr.kids p es,∀n∈x.1,Q9 n=true:=fun x hx n hm=>by
   obtain⟨e,hem,rfl⟩:=AG.1 hx;rcases A9.1 hm with hm|hm
   ·simp_all
   grind
  have hkp:(Gr.kids p es).Pairwise fun a b=>Qda a.1 b.1:=by
   unfold Gr.kids;rw[List.pairwise_map];exact(hes k es he).imp_of_mem fun{a b} _ hb hab=>QsP p hab (hen k es he b hb)
  have hl: ∀x∈L1,∃u,u≠[]/\x.1=p++u/\ ∀n∈u,Q9 n=true:=fun x hx=>by
   obtain⟨y,hy,u,hu,hun⟩:=Qoh hen h1 hkn x hx;obtain⟨e,hem,rfl⟩:=AG.1 hy
   grind
  refine⟨fun b hb=>?_,?_⟩
  ·rcases A9.1 hb with hb|hb
   ·grind [Qm0]
   ·obtain⟨y,hy,u,hu,hun⟩:=Qoh hen h2 hn' b hb
    have:=hp.1 y hy [] u (by simp) hun
    grind
  ·rw[List.pairwise_append]
   refine⟨ih1 hkn hkp,ih2 hn' hp.2,fun a ha b hb=>?_⟩;obtain⟨u,_,hu,hun⟩:=hl a ha;obtain⟨y,hy,v,hv,hvn⟩:=Qoh hen h2 hn' b hb;rw[hu,hv];exact hp.1 y hy u v hun hvn
theorem Qr0{s:Pm.Store}{ns:List Qk}(h:Gr.FP (Qr ns) (QaO ns (Qf s)) [([],0)] L):
 (∀x∈L,∀n∈x.1,Q9 n=true)/\L.Pairwise fun a b=>A0 (QB a.1) (QB b.1)=true:=by
 have hen: ∀k es,QaO ns (Qf s) k=some es->(∀e∈es,Q9 e.1=true)/\es.Pairwise fun a b=>A0 a.1 b.1=true:=fun k es he=>by
  unfold QaO at he;split at he;rotate_left
  ·cases he
  rename_i h2;obtain rfl:=A3 he;rcases Qd4 s (ns.getD k Qd) with h|h;rotate_left
  ·grind
  refine⟨fun e hee=>?_,?_⟩
  ·obtain⟨e',he',rfl⟩:=AG.1 hee
   grind [Qhd]
  grind [A1,QkD]
 grind [Qk6,fp_asc]
theorem Qm1{α:Type} [Inhabited α]{lt:α->α->Bool}(hO:AO lt){d d':Array α}(hd:d.toList.Pairwise fun a b=>lt a b=true)(hp:Go.Sort.PermIn 0 d.size d d')(hs:Go.Sort.SortedIn lt 0 d.size d'):d'=d:=by
 obtain⟨h1,_,h3⟩:=hp;have e1:d'.extract 0 d.size=d':=by grind
 have e2:d.extract 0 d.size=d:=Array.extract_size;rw[e1,e2] at h3;apply Array.toList_inj.1;refine List.Perm.eq_of_pairwise (le:=fun a b=>lt b a=false) (fun a b ha hb hab hba=>?_) ?_ ?_ h3
 ·by_cases hne:a=b
  ·exact hne
  exfalso;have hb':b∈d.toList:=hb;have ha':a∈d.toList:=h3.subset ha;obtain⟨i,hi,rfl⟩:=AC.1 ha';obtain⟨j,hj,rfl⟩:=AC.1 hb'
  grind [A1]
 ·rw[A1]
  intro i j hi hj hij;have hj':j<d'.size:=by omega
  have:=hs i j (Nat.zero_le _) hij (by omega)
  grind
 ·refine hd.imp fun{a b} hab=>?_
  cases hba:lt b a
  ·rfl
  ·have:=hO.trans a b a hab hba
   rw[hO.irrefl] at this;grind
attribute [local irreducible] ASeq ADraw AWP Loc mget mset AStep Fg.PlanF Fg.Flts
abbrev rIt(x:Gr.It):List D:=[dS (QB x.1),dI (x.2:Nat)]
def Qcy(l:List Gr.It):List Blk:=[.row 0 [.osl 1 l.length 0 l.length,.d (.v (.slice none 0 0))],.arr l.length 2 61 (l.map rIt)]
def Qcx(l:List Gr.It):List AV:=[.ptr 0 0 0,.osl 1 l.length 0 l.length]
theorem QrB(l m:List Gr.It): ∀i C,(Qcy l)[i]? =some C-> ∃C',(Qcy (l++m))[i]? =some C'/\pin1 (Qcx l) i C C':=by
 intro i C hC
 match i,hC with
 |0,hC=>obtain rfl:=A3 hC;exact⟨_,rfl,.inr ⟨rfl,0,by simp[Qcx]⟩⟩
 |1,hC=>
  obtain rfl:=A3 hC;refine⟨_,rfl,rfl,rfl,?_⟩
  grind [Qcx]
theorem fg_mem(l:List Gr.It)(N:Nat)(Lx:List AV)(Hr:List Blk)(g:AV)(hg:g∈Qcx l)(ha:AV.ptr 0 0 0∈Lx):g.ren (rho [0,1] N)∈Lx++(Qcy l++Hr).flatMap Blk.parts:=by
 simp only[Qcx,AL,AI,or_false] at hg;rcases hg with rfl|rfl
 ·exact AD _ ha
 grind [Qcy,Blk.parts,AV.parts,AV.ren,rho]
def fg_mem0(Lx:List AV)(Hx:List Blk)(g:AV)(hg:g∈Qcx [])(ha:AV.ptr 1 0 0∈Lx)(hd:AV.osl 2 0 0 0∈Hx.flatMap Blk.parts)(N:Nat):g.ren (rho [1,2] N)∈Lx++Hx.flatMap Blk.parts:=by
 simp only[Qcx,AL,AI,or_false] at hg;rcases hg with rfl|rfl
 ·exact AD _ ha
 ·exact List.mem_append_right _ hd
def QpN(l:List Gr.It)(hl:l.length<=1000000)(x:Gr.It):Does AE 125 [.d (.agg (rIt x)),.ptr 0 0 0] (Qcy l) (Qcx l) (.tup []) (Qcy (l++[x])):=by
 refine kL ?hpin fun gvs=>?_
 case hpin=>exact QrB l [x]
 simp only[parA,gslot,AN,Nat.reduceAdd,Qcy,Qcx];rw[A4,List.length_singleton,AK,AM,List.map_nil];refine QkP ?_;refine kR ?_;refine Qa 2 (h:=?_)
 repeat' first|refine kS ?_|refine QV Ty.h rfl Ty.h (hb:=?_) (kk:=?_)|refine kU ?_|fail
 all_goals first
  |(show((l.map rIt).length+1)*24<=140737488355328
    rw[AA];omega)
  |exact QkU 2 .normal (.inl rfl) rfl rfl rfl rfl rfl rfl rfl
  |(rw[AA]
    exact QkU 2 .normal (.inl rfl) rfl rfl rfl rfl rfl rfl rfl)
theorem Qm6: ∀names:List (List UInt8),Qcq names=QB names
 :=by intro l;induction l<;>grind [Qcq,QB,Qai,List.intersperse]
theorem bWalkF(s:Pm.Store)(t:Pl.Tree)(x:List (List UInt8))(m:List (Int×D))(hm:Qcn m (QaI s x)): ∀(n:Nat) (L:List Gr.It) (k:Nat) (names:List (List UInt8)) (out:List Gr.It),L.length<=n->Qc6 s x [(names,k)] L->
 names.length+L.length<=1000->(∀a∈names,a.length<=4)->out.length+L.length<=1000000->
 Does AE 124 [.d (.pd (rFiles s t x m)),.d (dI k),.d (QcG names),.fn (.func 125) [.ptr 0 0 0]] (Qcy out) (Qcx out) (.tup []) (Qcy (out++L)):=by
 intro n;induction n with
 |zero=>
  intro L k names out h1 h2;obtain⟨L1,rfl,_⟩:=Qu0 h2;simp at h1
 |succ n ih=>
  intro L k names out h1 h2 h3 h4 h5;obtain⟨L1,rfl,hfd,hk0⟩:=Qu0 h2;simp only[List.length_cons] at h1 h3 h5;have dv:=QpN out (by omega) (names,k)
  obtain⟨dn,g0,hdn,cp,hcl⟩: ∃(dn:D) (g0:Nat),QcG names=dn/\Pure AE 145 [dn] (dS (QB names))/\Does AE 186 [.d dn] [] [] (.osl 0 g0 0 names.length) [.arr g0 1 9 (names.map fun s=>[dS s])]:=by
   have cp:=Qme names (by omega) (fun a ha=>by have:=h4 a ha;omega);rw[Qm6] at cp
   by_cases hn:names=[]
   ·subst hn
    exact⟨_,0,rfl,QqB cp,Qsw⟩
   ·exact⟨tStrs names,1,by unfold QcG;rw[if_neg hn],cp,Qsv names (by omega) hn⟩
  rw[hdn];clear hdn;obtain⟨hE,hgt⟩:=hm (k:Nat) (by omega);refine kL ?hpin fun gvs=>?_
  case hpin=>exact QrB out _
  simp only[parA,gslot,AN,Nat.reduceAdd];rw[show out++(names,k)::L1=(out++[(names,k)])++L1 by simp];clear h2 hk0;have hvm:=fun(out:List Gr.It) (N:Nat)=>fg_mem out N
  have hol:(out++[(names,k)]).length=out.length+1:=by simp
  generalize out++[(names,k)]=out1 at*
  have hg:mget m (k:Nat)=some (.sl true 2 ((QaI s x (k:Nat)).map rEnt))∨mget m (k:Nat)=none/\(QaI s x (k:Nat)).map rEnt=[]:=by
   rcases hgt with h|⟨h1,h2⟩
   ·exact .inl h
   ·exact .inr ⟨h1,by rw[h2];rfl⟩
  generalize QaI s x (k:Nat)=es at*;have hsp:rIt (names,k)=[dS (QB names),dI (k:Nat)]:=rfl;rw[hsp] at dv;generalize QB names=pt at*;clear hgt hsp;have hes:es.length<=12:=by have:=hE;unfold Qaa at this;rw[Bool.and_eq_true,decide_eq_true_eq] at this;exact this.2
  refine QkP ?_;simp only[Qcy,Qcx] at dv⊢
  repeat' first|refine kS ?_|refine(Qjn [0,1] dv cK (hgl:=fun g hg=>hvm _ _ _ [] g hg (by simp[AV.parts,go_sem])) (k:=?_))|refine qS (Qdm rfl) ?_|refine qS (QhL Tryz.underlying72 Tryz.underlying3 (by kernel_rfl) rfl rfl hg) ?_|refine kU ?_|fail
  refine Qq (fun mm st=> ∃(j:Nat) (Ld Lr:List Gr.It),j<=es.length/\mm=es.length -j/\Hid (L1=Ld++Lr)/\Hid (Qc6 s x ((es.drop j).map fun e=>(names++[e.1],e.2.toNat)) Lr)/\
   st=⟨39,[(21,.d (tEnts es)),(22,.d (dI es.length)),(23,.d (dI j)),(0,.d (.pd (rFiles s t x m))),(2,.d dn),(3,.fn (.func 125) [.ptr 0 0 0]),(1000000,.gh [.ptr 0 0 0,.osl 1 out.length 0 out.length] gvs)],
    [.row 0 [.osl 1 (out1++Ld).length 0 (out1++Ld).length,.d (.v (.slice none 0 0))],.arr (out1++Ld).length 2 61 ((out1++Ld).map rIt)]⟩)
   [21,22,23,0,2,3,1000000] 2 es.length ⟨0,[],L1,by omega,rfl,Pm.hid rfl,Pm.hid hfd,by simp[keepE,go_sem]⟩ (round:=?_)
  rintro mm st ⟨j,Ld,Lr,hj,rfl,hL,hF,rfl⟩
  repeat refine kG ?_
  cases q3:decide ((j:Int)<(es.length:Int))
  ·have hje:j=es.length:=by simp at q3;omega
   have hLd:L1=Ld:=by
    have h:=hF.out;rw[hje,List.drop_length] at h;cases h;rw[hL.out,A8]
   clear dv hcl cp ih hvm;subst hLd
   repeat refine kA ?_
   exact QkU 2 .normal (.inl rfl) rfl rfl rfl rfl rfl rfl rfl
  have hj2:j<es.length:=by simp at q3;omega
  obtain⟨e,he⟩: ∃e,es[j]? =some e:=⟨_,List.getElem?_eq_getElem hj2⟩;have hr:=Qs (f:=rEnt) he;have heb:=ent_b hE e (List.mem_of_getElem? he);have hdr:es.drop j=e::es.drop (j+1):=by rw[List.drop_eq_getElem_cons hj2,(List.getElem?_eq_some_iff.1 he).2]
  have hF2:=hF.out;rw[hdr,AM] at hF2;obtain⟨M,R,rfl,hM,hR⟩:=fp_cons hF2;obtain⟨nmE,id⟩:=e;simp only at heb hM;obtain⟨kid,rfl⟩:=Int.eq_ofNat_of_zero_le (show 0<=id by omega);rw[A6] at hM;have hLl:=congrArg List.length hL.out;simp only[A4] at hLl
  have h4': ∀a∈names++[nmE],a.length<=4:=fun a ha=>by
   rcases A9.1 ha with h|h
   ·exact h4 a h
   ·rw[A5.1 h];exact Qeq heb.1
  have ih2:=ih M kid (names++[nmE]) (out1++Ld) (by omega) hM (by simp;omega) h4' (by rw[A4];omega);have hnm:QcG (names++[nmE])=tStrs (names++[nmE]):=by unfold QcG;rw[if_neg (by simp)]
  rw[hnm,AH] at ih2
  replace hR:=Pm.hid hR
  clear he hdr hF2 hF hM ih hnm dv cp h4 h4' hol;have hL2:Hid (L1=(Ld++M)++R):=Pm.hid (by rw[AH];exact hL.out);clear hL hLl hfd;generalize ho3:out1++(Ld++M)=o3 at*;generalize out1++Ld=o2 at*;simp only[Qcy,Qcx] at ih2
  repeat' first|refine kS ?_|refine qS (iy hr) ?_|(show AWP _ (.region 4 _ _) _ _;refine(Qa 2 (h:=Fg.awp_drawF (id:=4) [0,1,2,3,5,6,7,9] [4,8,10] ?_)))|refine(Fg.aw_fltL (hl:=fun H=>QdO Ty.h rfl Ty.h) (k:=?_))|refine(Qii [] hcl cK (x':= .osl 3 g0 0 names.length) (hX:=fun _ h=>h) (H':=[.row 0 [.osl 1 o2.length 0 o2.length,.d (.v (.slice none 0 0))],.arr o2.length 2 61 (o2.map rIt),.row 1 [],.arr g0 1 9 (names.map fun s=>[dS s])]) (hH:=fun _ h=>h) (k:=?_))|refine(QkY Ty.h rfl Ty.h (hcell:=?_) (hb:=?_) (kk:=?_))|refine(Qsz 3 [0,1] ih2 cK (H':=[.row 0 [.osl 1 o3.length 0 o3.length,.d (.v (.slice none 0 0))],.arr o3.length 2 61 (o3.map rIt),.row 1 [],.arr (g0+1+1) 1 9 []]) (hH:=?_) (hargs:=?_) (hgl:=?_) (k:=?_))|refine kU ?_|fail
  ·intro r hr d hd
   obtain rfl:=A5.1 hr;obtain rfl:=A5.1 hd;rfl
  ·show((names.map fun s=>[dS s]).length+1)*16<=140737488355328
   rw[AA];omega
  ·have htk:((names.map fun s=>[dS s])++[[dS nmE]]).take ((names.map fun s=>[dS s]).length+[[dS nmE]].length)=(names++[nmE]).map fun s=>[dS s]:=by
    rw[List.take_of_length_le (by simp),AK];rfl
   exact congrArg (fun r=>[AV.d (.pd (rFiles s t x m)),AV.d (dI (kid:Nat)),AV.d (.sl true 1 r),AV.fn (.func 125) [.ptr 0 0 0]]) htk
  ·exact fun g hg=>hvm _ _ _ [_,_] g hg (by simp[AV.parts,go_sem])
  ·intro R hR;exact hR
  skip
  all_goals first
   |(refine Qg (es.length -(j+1)) (by omega) ⟨j+1,Ld++M,R,by omega,rfl,hL2,hR,?_⟩
     rw[ho3]
     simp[keepE,go_sem];done)
theorem Qoy: ∀x y:List UInt8,A0 x y=false->x=y∨A0 y x=true
 |[],[],_=> .inl rfl
 |[],_::_,h=>by simp[A0] at h
 |_::_,[],_=> .inr (by simp[A0])
 |a::x,b::y,h=>by
  have h1: ¬(a<b∨a=b/\A0 x y=true):=fun h2=>by grind [Qgb]
  rw[Qgb]
  by_cases hab:a=b
  ·subst hab
   have h3:A0 x y=false:=by
    grind
   rcases Qoy x y h3 with rfl|h5
   ·grind
   grind
  grind
def Qc5(x y:Gr.It):Int:=AJ (QB x.1) (QB y.1)
theorem ltIt(x y:Gr.It):ltOf Qc5 x y=A0 (QB x.1) (QB y.1):=Qse _ _
theorem swoIt:AO (ltOf Qc5) where
 irrefl x:=by rw[ltIt];exact Qhn _
 trans x y z h1 h2:=by grind [ltIt,Qhm]
 ntrans x y z h1 h2:=by
  grind [ltIt,Qoy,Qhm]
def Qcf(x:Gr.It):List Value:=[.string ⟨(QB x.1).toArray⟩,.int .i64 (x.2:Nat)]
def bSort1(x y:Gr.It)(W:World):Calls AE 188 #[.agg (Qcf x).toArray,.agg (Qcf y).toArray] W fun e w'=>e= .returned (.int .i64 (Qc5 x y))/\ ∃q os',w'=Go.Sort.grow (W.drewN q) os':=by
 have hcon:=fun W'=>Tryz.strings_Compare ⟨(QB x.1).toArray⟩ ⟨(QB y.1).toArray⟩ W'
 unfold Qc5 Qcf;simp only at hcon;generalize AJ (QB x.1) (QB y.1)=r at hcon⊢
 go_enter Tryz.func188,Tryz.ntmps188
 go_wp2_with (go_at_call 148;refine(hcon _).mono ?_;rintro e w' ⟨rfl,rfl⟩)
 go_ret
 exact⟨rfl,0,_,by rw[AB,AB,Go.Sort.grow_grow];rfl⟩

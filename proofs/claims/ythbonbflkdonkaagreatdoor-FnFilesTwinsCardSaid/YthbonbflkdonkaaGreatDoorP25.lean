/- Of ftw_card; no condition. -/
import Derived.Test.YthbonbflkdonkaaGreatDoorP22
set_option linter.all false
set_option maxRecDepth 100000
set_option maxHeartbeats 8000000
open Go.Proofs.Tryz renaming prog->AA
open Go.RowKit renaming Hid->A9
open List renaming getElem?_eq_getElem->A0,getD_eq_getElem?_getD->A1,getElem?_map->A2,length_map->A3,range->A5,mem_of_getElem?->A6,mem_map->A7,ext_getElem->A8
open Nat renaming zero_add->A4
open Option.some renaming inj->AB
namespace Go.Proofs.YthbonbflkdonkaaGreatDoor
noncomputable section
open Go.RowKit
namespace Aw
attribute [local irreducible] ASeq ADraw AWP Loc AStep Fg.PlanF Fg.Flts
theorem Qlq: ∀(p:List (List UInt8)),(∀x∈p,x.length<=4)->(QB p).length<=5*p.length+1:=by intro l;induction l<;>grind [QB]
theorem Qe6(s:Pm.Store)(n:Qk):(Qf s n).1.length<=12:=by grind [Qd4,Qaa]
theorem Qeq{x:List UInt8}(h:Q9 x=true):x.length<=4:=by grind [Q9]
theorem Qqc(ns:List Qk)(E:Qk->List Qm×Bool): ∀(n:Nat) (x:QaP) (out:List QaP),(Qbp ns E n x out).2=true->(Qbp ns E n x out).1.length<=144
 |0,x,out,h=>by cases h
 |n+1,x,out,h=>by
  have hf: ∀(l:List Qm) (r:List QaP×Bool),(r.2=true->r.1.length<=144)->(Qb3 ns E n x.1 l r).2=true->(Qb3 ns E n x.1 l r).1.length<=144:=by
   intro l;induction l with
   |nil=>intro r hr h;exact hr h
   |cons e l ih=>
    rintro⟨o,b⟩ hr h;cases b
    ·grind [Qio]
    ·rw[Qfs] at h⊢
     exact ih _ (Qqc ns E n _ o) h
  unfold Qbp at h⊢;split at h
  ·cases h
  ·rename_i hc
   rw[if_neg hc];split at h
   ·grind
   ·rename_i hk
    rw[if_neg hk];refine hf _ _ (fun _=>?_) h
    grind
theorem Quh(s:Pm.Store)(hg:QU s)(ns:List Qk)(hns:ns.length<=16): ∀(n:Nat) (p:List (List UInt8)) (id:Int) (out:List QaP) (g:Nat),145<=out.length+n->out.length<=144->p.length<=out.length->(∀x∈p,Q9 x=true)->
 Does AA 130 [.d (dSt s),.d (.sl true 10 (ns.map rNode)),.d (.agg [dS (QB p),dI id]),.osl 0 g 0 out.length] [.arr g 2 61 (out.map rFnd)] []
  (.tup [.osl 0 (g+((Qbp ns (Qf s) n (p,id) out).1.length -out.length)) 0 (Qbp ns (Qf s) n (p,id) out).1.length,.d (dB (Qbp ns (Qf s) n (p,id) out).2)])
  [.arr (g+((Qbp ns (Qf s) n (p,id) out).1.length -out.length)) 2 61 ((Qbp ns (Qf s) n (p,id) out).1.map rFnd)]:=by
 intro n;induction n with
 |zero=>intro p id out g h1 h2;omega
 |succ n ih=>
  intro p id out g h1 h2 h3 hp;have hwl:=(Qqd ns (Qf s) (n+1) (p,id) out).2 (by omega)
  have hw:A9 (Qbp ns (Qf s) (n+1) (p,id) out=if 144<out.length+1∨Pl.inR id 0 (ns.length -1)=false∨(ns.getD id.toNat Qd).kind=0 then(out++[(p,id)],false) else
   if(ns.getD id.toNat Qd).kind=1 then(out++[(p,id)],true) else Qb3 ns (Qf s) n p (Qf s (ns.getD id.toNat Qd)).1 (out++[(p,id)],(Qf s (ns.getD id.toNat Qd)).2)):=Pm.hid rfl
  have hspl:=Qlq p fun x hx=>Qeq (hp x hx)
  have hnl:(ns.map rNode).length=ns.length:=A3 ..;have hol:(out.map rFnd).length=out.length:=A3 ..;have c1:=al6In id 0 (ns.length -1);refine kL ?hpin fun gvs=>?_
  case hpin=>
   intro i C hC
   match i,hC with
   |0,hC=>obtain rfl:=AB hC;exact⟨_,rfl,rfl,rfl,.inl (by omega)⟩
  simp only[parA,gslot,A4,Nat.reduceAdd]
  by_cases h144:out.length=144
  ·have hw2:A9 (Qbp ns (Qf s) (n+1) (p,id) out=(out++[(p,id)],false)):=Pm.hid (by rw[hw.out,if_pos (.inl (by omega))])
   rw[hw2.out];clear hw hw2 ih hwl;refine kR ?_;refine Qa 1 (h:=?_);refine Qa 2 (h:=?_)
   repeat' first|refine kS ?_|refine QV Ty.h rfl Ty.h (hb:=?_) (kk:=?_)|refine kU ?_|refine kV ?_ ?_<;>intro q|fail
   all_goals first|exfalso;simp only[decide_eq_false_iff_not] at*;omega|simp;omega|refine Qev [8,9,1000000] 1 (h:=?_);refine QdL (hx:=?_) (hH:=?_)<;>simp<;>done
  have h2':out.length<144:=by omega
  cases hR:Pl.inR id 0 (ns.length -1)
  ·have hw2:A9 (Qbp ns (Qf s) (n+1) (p,id) out=(out++[(p,id)],false)):=Pm.hid (by rw[hw.out,if_pos (.inr (.inl hR))])
   rw[hw2.out];rw[hR] at c1;clear hw hw2 ih hwl;refine kR ?_;refine Qa 1 (h:=?_);refine Qa 2 (h:=?_)
   repeat' first|refine kS ?_|refine QV Ty.h rfl Ty.h (hb:=?_) (kk:=?_)|refine kU ?_|refine kV ?_ ?_<;>intro q|fail
   all_goals first|exfalso;simp only[decide_eq_true_eq] at*;omega|simp;omega|refine Qev [8,9,1000000] 1 (h:=?_);refine QdL (hx:=?_) (hH:=?_)<;>simp<;>done
  rw[hR] at c1;have hid:0<=id/\id<ns.length:=by simp[Pl.inR] at hR;omega
  obtain⟨nd,hnd⟩: ∃nd,ns[id.toNat]? =some nd:=⟨_,A0 (by omega)⟩;have hgd:ns.getD id.toNat Qd=nd:=by rw[A1,hnd];rfl
  have hr:(ns.map rNode)[id.toNat]? =some (rNode nd):=by rw[A2,hnd];rfl
  rw[hgd] at hw
  have hc: ¬(144<out.length+1∨Pl.inR id 0 (ns.length -1)=false∨nd.kind=0)∨nd.kind=0:=by
   by_cases h0:nd.kind=0
   ·exact .inr h0
   ·exact .inl (by rw[hR];simp[h0];omega)
  clear hgd hnd
  by_cases hk0:nd.kind=0
  ·have hw2:A9 (Qbp ns (Qf s) (n+1) (p,id) out=(out++[(p,id)],false)):=Pm.hid (by rw[hw.out,if_pos (.inr (.inr hk0))])
   rw[hw2.out];clear hw hw2 ih hwl hc;refine kR ?_;refine Qa 1 (h:=?_);refine Qa 2 (h:=?_)
   repeat' first|refine kS ?_|refine qD (Qdd Ty.h rfl Ty.h rfl rfl rfl hid.1 hr) ?_|refine qS (Qdd Ty.h rfl Ty.h rfl rfl rfl hid.1 hr) ?_|refine QV Ty.h rfl Ty.h (hb:=?_) (kk:=?_)|refine kU ?_|refine kV ?_ ?_<;>intro q|fail
   all_goals first|exfalso;simp only[decide_eq_true_eq] at*;omega|exfalso;simp only[beq_eq_false_iff_ne] at*;omega|simp;omega|refine Qev [8,9,1000000] 1 (h:=?_);refine QdL (hx:=?_) (hH:=?_)<;>simp<;>done
  have hc:=hc.resolve_right hk0
  by_cases hk1:nd.kind=1
  ·have hw2:A9 (Qbp ns (Qf s) (n+1) (p,id) out=(out++[(p,id)],true)):=Pm.hid (by rw[hw.out,if_neg hc,if_pos hk1])
   rw[hw2.out];clear hw hw2 ih hwl hc;refine kR ?_;refine Qa 1 (h:=?_);refine Qa 2 (h:=?_)
   repeat' first|refine kS ?_|refine qD (Qdd Ty.h rfl Ty.h rfl rfl rfl hid.1 hr) ?_|refine qS (Qdd Ty.h rfl Ty.h rfl rfl rfl hid.1 hr) ?_|refine QV Ty.h rfl Ty.h (hb:=?_) (kk:=?_)|refine kU ?_|refine kV ?_ ?_<;>intro q|fail
   all_goals first|exfalso;simp only[decide_eq_true_eq] at*;omega|exfalso;simp only[beq_eq_false_iff_ne,beq_iff_eq] at*;omega|simp;omega|refine Qev [8,9,1000000] 1 (h:=?_);refine QdL (hx:=?_) (hH:=?_)<;>simp<;>done
  have hw2:A9 (Qbp ns (Qf s) (n+1) (p,id) out=Qb3 ns (Qf s) n p (Qf s nd).1 (out++[(p,id)],(Qf s nd).2)):=Pm.hid (by rw[hw.out,if_neg hc,if_neg hk1]);have c2:=Qjs s hg nd;have heb:=Qhd s nd;have hes:=Qe6 s nd;clear hw hc;generalize Qf s nd=ee at*;obtain⟨es,ok0⟩:=ee;simp only at hw2 heb hes;obtain⟨kind,links,size,⟨⟨p1,p2,p3,p4,p5⟩,depth,many⟩⟩:=nd;simp only at hk0 hk1;refine kR ?_;refine Qa 1 (h:=?_);refine Qa 2 (h:=?_)
  repeat' first|refine kS ?_|refine qD (Qdd Ty.h rfl Ty.h rfl rfl rfl hid.1 hr) ?_|refine qS (Qdd Ty.h rfl Ty.h rfl rfl rfl hid.1 hr) ?_|refine QV Ty.h rfl Ty.h (hb:=?_) (kk:=?_)|refine kU ?_|refine kV ?_ ?_<;>intro q|fail
  all_goals first|exfalso;simp only[decide_eq_true_eq] at*;omega|exfalso;simp only[beq_eq_false_iff_ne,beq_iff_eq] at*;omega|simp;omega|skip
  generalize hsp:QB p=sp at hspl
  refine Qq (fun m st=> ∃(k gg:Nat) (o:List QaP) (b:Bool),k<=es.length/\m=es.length -k/\out.length+1<=o.length/\gg=g+(o.length -out.length)/\A9 (Qbp ns (Qf s) (n+1) (p,id) out=Qb3 ns (Qf s) n p (es.drop k) (o,b))/\
   (b=true->o.length<=144)/\st=⟨101,[(3,.osl 0 gg 0 o.length),(10,.d (tEnts es)),(11,.d (dB b)),(12,.d (dI k)),(1,.d (.sl true 10 (ns.map rNode))),(4,.d (.pd (rSt s))),(6,.d (.pd [dS sp,dI id])),(1000000,.gh [] gvs)],[.arr gg 2 61 (o.map rFnd),.row 1 [],.row 1 []]⟩)
   [3,10,11,12,1,4,6,1000000] 3 es.length ⟨0,g+1,out++[(p,id)],ok0,by omega,rfl,by simp,by simp,Pm.hid hw2.out,fun _=>by simp;omega,?_⟩ (round:=?_)
  ·rw[<-hsp];simp[keepE,go_sem]
  rintro m st ⟨k,gg,o,b,hk,rfl,hol2,hgg,hW,hb,rfl⟩
  by_cases hkb:k<es.length/\b=true
  rotate_left
  ·have hw3:A9 (Qbp ns (Qf s) (n+1) (p,id) out=(o,b)):=Pm.hid (by
    rw[hW.out]
    by_cases hb2:b=true
    ·have hk2:k=es.length:=by have: ¬k<es.length:=fun h=>hkb ⟨h,hb2⟩;omega
     rw[hk2,List.drop_length];rfl
    ·have:b=false:=by simpa using hb2
     rw[this,Qio])
   clear hW hw2 ih hwl
   repeat' first|refine kA ?_|refine kV ?_ ?_<;>intro q|fail
   all_goals first|exfalso;simp only[decide_eq_true_eq] at*;exact hkb ⟨by omega,by assumption⟩|refine Qev [8,9,1000000] 1 (h:=?_);refine QdL (hx:=?_) (hH:=?_)<;>rw[hw3.out,hgg];done
  obtain⟨hk2,rfl⟩:=hkb;have hb:=hb rfl;obtain⟨e,he⟩: ∃e,es[k]? =some e:=⟨_,A0 hk2⟩;have hre:=Qs (f:=rEnt) he;have hen:=(heb e (A6 he)).1
  have IH:=ih (p++[e.1]) e.2 o gg (by omega) hb (by simp;omega) (fun x hx=>by
   rcases List.mem_append.1 hx with hx|hx
   ·exact hp x hx
   ·rw[List.mem_singleton] at hx;rw[hx];exact hen)
  have hP:=Qkr hp;have hroot:A9 (sp=[47]↔p=[]):=Pm.hid (by rw[<-hsp];exact Qht hP);have hsn:QB (p++[e.1])=if p=[] then [47]++e.1 else sp++[47]++e.1:=by rw[QoS,hsp];split<;>simp
  have hstep:A9 (Qbp ns (Qf s) (n+1) (p,id) out=Qb3 ns (Qf s) n p (es.drop (k+1)) (Qbp ns (Qf s) n (p++[e.1],e.2) o)):=Pm.hid (by rw[hW.out,Qhf he,Qfs]);have hlen:=(Qqd ns (Qf s) n (p++[e.1],e.2) o).1;have htrue:=Qqc ns (Qf s) n (p++[e.1],e.2) o;have hnl4:=Qeq hen;rw[hsn] at IH;clear ih hW hw2 hwl he heb hsn hsp hp;generalize Qbp ns (Qf s) n (p++[e.1],e.2) o=r at*;obtain⟨o',b'⟩:=r;obtain⟨nm,eid⟩:=e;simp only at IH hlen htrue hnl4 hstep hre
  by_cases hp0:p=[]
  ·rw[if_pos hp0] at IH
   have hsp2:sp=[47]:=hroot.out.2 hp0;subst hsp2
   repeat' first|refine kS ?_|(show AWP _ (.region 13 _ _) _ _;refine(Fg.awp_drawF (id:=13) [] [10] ?_))|refine qD (iy hre) ?_|refine qS (iy hre) ?_|refine qD (Qdf (l:=[47]) (m:=[47]) rfl rfl (by first|omega|(simp;omega))) ?_|refine qS (Qdf (l:=[47]) rfl rfl (by first|omega|(simp;omega))) ?_|refine qD (Qdf rfl rfl (by first|omega|(simp;omega))) ?_|refine(Qii [0] IH cK (k:=?_))|refine kU ?_|refine kV ?_ ?_<;>intro q|fail
   all_goals first|refine Qg (es.length -(k+1)) (by omega) ⟨k+1,gg+(o'.length -o.length),o',b',by omega,rfl,by omega,by omega,Pm.hid hstep.out,htrue,?_⟩;simp[keepE,go_sem];done|exfalso;simp at q;done|exfalso;simp only[decide_eq_false_iff_not] at*;omega|exfalso;simp_all;done
  ·rw[if_neg hp0] at IH
   have hsp2: ¬sp=[47]:=fun h=>hp0 (hroot.out.1 h)
   repeat' first|refine kS ?_|(show AWP _ (.region 13 _ _) _ _;refine(Fg.awp_drawF (id:=13) [] [10] ?_))|refine qD (iy hre) ?_|refine qS (iy hre) ?_|refine qD (Qdf (m:=[47]) rfl rfl (by first|omega|(simp;omega))) ?_|refine qS (Qdf (l:=[47]) rfl rfl (by first|omega|(simp;omega))) ?_|refine qD (Qdf rfl rfl (by first|omega|(simp;omega))) ?_|refine qS (Qdp (m:=[47]) rfl rfl) ?_|refine(Qii [0] IH cK (k:=?_))|refine kU ?_|refine kV ?_ ?_<;>intro q|fail
   all_goals first|refine Qg (es.length -(k+1)) (by omega) ⟨k+1,gg+(o'.length -o.length),o',b',by omega,rfl,by omega,by omega,Pm.hid hstep.out,htrue,?_⟩;simp[keepE,go_sem];done|exfalso;simp at q;done|exfalso;simp only[decide_eq_false_iff_not] at*;omega|exfalso;simp_all;done
abbrev tFnds(l:List QaP):D:= .sl true 2 (l.map rFnd)
def QbZ(s:Pm.Store)(t:Pl.Tree):List QaP×Bool:=if Qab s t then((Qa7 s t).1,true) else([],false)
def QbY(out:List QaP)(N:Nat):List Int:=(A5 N).map fun k=>((Pl.many out k:Nat):Int)
def cnt_nil(N:Nat):QbY [] N=List.replicate N 0:=by
 refine A8 (by simp[QbY]) fun i hi hi'=>by simp[QbY,Pl.many]
theorem Qsc(out:List QaP){N k:Nat}(h:k<N):(QbY out N)[k]? =some ((Pl.many out k:Nat):Int):=by grind [QbY]
theorem QtN(out:List QaP)(x:QaP){N:Nat}(h0:0<=x.2)(_h:x.2<N):QbY (out++[x]) N=(QbY out N).set x.2.toNat (((Pl.many out x.2.toNat:Nat):Int)+1):=by
 refine A8 (by simp[QbY]) fun i hi hi'=>?_
 grind [QbY,Pl.many]
theorem many_le(out:List QaP)(k:Nat):Pl.many out k<=out.length:=by grind [Pl.many,List.count_le_length]
theorem al15All(s:Pm.Store)(hg:QU s)(t:Pl.Tree):Pure AA 71 [dSt s,dTree t] (.tup [tFnds (QbZ s t).1,dB (QbZ s t).2]):=by
 have hd:=Pm.hid (QbZ.eq_def s t);have hf:A9 (Qab s t=(Qav s t&&((Qh s t).getD 0 Qd).kind==2&&(Qa7 s t).2&&(A5 (Qh s t).length).all (Qaw s (Qh s t) (Qa7 s t).1))):=Pm.hid rfl;have c0:=al11Ok s hg t;cases h0:Qav s t
 ·rw[h0] at c0
  have hx:A9 (QbZ s t=([],false)):=Pm.hid (by rw[hd.out,hf.out,h0];rfl);refine kE ?_;refine Qa 0 (h:=?_);refine Qa 1 (h:=?_)
  repeat refine kA ?_
  (refine Qa 2 (h:=?_);refine Qb (hx:=?_))
  rw[hx.out];rfl
 rw[h0] at c0 hf;have ht:Qx t:=Qdx (by unfold Qav at h0;rw[Bool.and_eq_true] at h0;exact h0.1);have c1:=Qmp s hg t ht;have hnl:(Qh s t).length<=16:=by unfold Qh;rw[A3,texts_len s ht];have:=ht.manyHi;omega
 have hids:A9 (((Qh s t).getD 0 Qd).kind=2->(Qa7 s t).2=true->(Qa7 s t).1.length<=144/\ ∀x∈(Qa7 s t).1,0<=x.2/\x.2<(Qh s t).length):=Pm.hid fun h1 h2=>by
  obtain⟨L,g1,g2,g3⟩:=QfA s h1 h2;rw[g3];refine⟨by simpa using g2,fun x hx=>?_⟩;obtain⟨y,hy,rfl⟩:=A7.1 hx;have:=g1.fd.kinds y.2 (A7.2 ⟨y,hy,rfl⟩);have hk:y.2<(Qh s t).length:=QdP (by rcases this with h|⟨h,_⟩<;>rw[h]<;>decide);simp only[QaW];omega
 have W:=Quh s hg (Qh s t) hnl 145 [] 0 [] 0 (by simp) (by simp) (by simp) (by intro x hx;cases hx);have hfd:A9 (Qa7 s t=Qbp (Qh s t) (Qf s) 145 ([],0) []):=Pm.hid rfl;rw[<-hfd.out] at W;rw[show QB []=[47] from rfl] at W
 have hB: ∀n∈Qh s t,n=Qd∨NodeB n:=fun n hn=>by
  unfold Qh at hn;obtain⟨x,_,rfl⟩:=A7.1 hn;rcases Qi3 x with h|h
  ·exact .inr h
  ·exact .inl h
 have hB:=Pm.hid hB;have c13:=Pm.hid fun n=>al13Ok s hg n
 have hnf:A9 (∀out k nd,(Qh s t)[k]? =some nd->Qaw s (Qh s t) out k=((nd.kind==0||((Pl.many out k:Int)==nd.links))&&(!(nd.kind==1)||Qac s nd))):=Pm.hid fun out k nd h=>by
  unfold Qaw;rw[A1,h];rfl
 clear h0 ht hfd;generalize Qa7 s t=fo at*;generalize Qh s t=ns at*;obtain⟨out,ok⟩:=fo;simp only[List.map_nil,List.length_nil,Nat.sub_zero,A4] at W;simp only at hd hf hids;have hnm:(ns.map rNode).length=ns.length:=A3 ..
 by_cases h2:(ns.getD 0 Qd).kind=2
 rotate_left
 ·have hx:A9 (QbZ s t=([],false)):=Pm.hid (by
   rw[hd.out,hf.out];have:((ns.getD 0 Qd).kind==2)=false:=by simpa using h2
   rw[this];rfl)
  cases ns with
  |nil=>
   refine kE ?_;refine Qa 0 (h:=?_);refine Qa 1 (h:=?_)
   repeat refine kA ?_
   (refine Qa 2 (h:=?_);refine Qb (hx:=?_))
   rw[hx.out];rfl
  |cons n0 ns=>
   have hr:((n0::ns).map rNode)[((0:Nat):Int).toNat]? =some (rNode n0):=rfl;have h2: ¬n0.kind=2:=h2;refine kE ?_;refine Qa 0 (h:=?_);refine Qa 1 (h:=?_)
   repeat' first|refine kS ?_|refine qS (iy hr) ?_|refine kU ?_|refine kV ?_ ?_<;>intro q|fail
   all_goals first|exfalso;simp at q;omega|((refine Qa 2 (h:=?_);refine Qb (hx:=?_));rw[hx.out];rfl)
 have hlen0:0<ns.length:=by
  cases ns with
  |nil=>exact absurd h2 (by decide)
  |cons n0 ns=>simp
 obtain⟨n0,hn0⟩: ∃n0,ns[0]? =some n0:=⟨_,A0 hlen0⟩;have hk0:n0.kind=2:=by rw[A1,hn0] at h2;exact h2
 have hr0:(ns.map rNode)[(0:Int).toNat]? =some (rNode n0):=by show(ns.map rNode)[0]? =_;rw[A2,hn0];rfl
 have h2b:((ns.getD 0 Qd).kind==2)=true:=by simpa using h2
 cases ok
 ·have hx:A9 (QbZ s t=([],false)):=Pm.hid (by rw[hd.out,hf.out,h2b];rfl)
  clear hB hnf hids hf hd;refine kE ?_;refine Qa 0 (h:=?_);refine Qa 1 (h:=?_)
  repeat' first|refine kS ?_|refine qS (iy hr0) ?_|refine(QkV [2] W cK (k:=?_))|refine kU ?_|refine kV ?_ ?_<;>intro q|fail
  all_goals first|exfalso;simp at q;omega|exfalso;simp only[beq_iff_eq] at q;omega|((refine Qa 3 (h:=?_);refine Qb (hx:=?_));rw[hx.out];rfl)
 obtain⟨hol,hid⟩:=hids.out h2 rfl;have hf2:A9 (Qab s t=(A5 ns.length).all (Qaw s ns out)):=Pm.hid (by rw[hf.out,h2b];rfl);clear hids hf;have hid:=Pm.hid hid;refine kE ?_;refine Qa 0 (h:=?_);refine Qa 1 (h:=?_)
 repeat' first|refine kS ?_|refine qS (iy hr0) ?_|refine(QkV [2] W cK (k:=?_))|refine stepS2 (Qib Ty.h rfl Ty.h rfl rfl rfl (by simp;omega) (by omega)) (k:=?_)|refine kU ?_|refine kV ?_ ?_<;>intro q|fail
 all_goals first|exfalso;simp only[beq_iff_eq] at q;omega|exfalso;simp at q;omega|skip
 refine Qa 2 (h:=?_)
 refine Qq (fun m st=> ∃j:Nat,j<=out.length/\m=out.length -j/\st=⟨110,[(10,.d (dI j)),(9,.osl 3 0 0 ns.length),(7,.d (tFnds out)),(6,.d (.sl true 10 (ns.map rNode))),(2,.d (.pd (rSt s)))],
  [.row 1 [],.row 1 [],.arr (out.length+1) 2 61 [],.arr 0 1 3 ((QbY (out.take j) ns.length).map fun n=>[dI n])]⟩) [10,9,7,6,2] 4 out.length ⟨0,by omega,rfl,?_⟩ (round:=?_)
 ·simp[keepE,go_sem,cnt_nil,List.take_of_length_le]
 rintro m st ⟨j,hj,rfl,rfl⟩
 repeat refine kG ?_
 cases q3:decide ((j:Int)<(out.length:Int));rotate_left
 ·have hj2:j<out.length:=by simp at q3;omega
  obtain⟨x,hx⟩: ∃x,out[j]? =some x:=⟨_,A0 hj2⟩;have hr:=Qs (f:=rFnd) hx;have hxi:=hid.out x (A6 hx)
  have hrm:((QbY (out.take j) ns.length).map fun n=>[dI n])[0+x.2.toNat]? =some [dI ((Pl.many (out.take j) x.2.toNat:Nat):Int)]:=by
   rw[A4,A2,Qsc _ (by omega)];rfl
  have hml:=many_le (out.take j) x.2.toNat;rw[List.length_take] at hml
  have T:A9 (QbY (out.take (j+1)) ns.length=(QbY (out.take j) ns.length).set x.2.toNat (((Pl.many (out.take j) x.2.toNat:Nat):Int)+1)):=Pm.hid (by
   rw[List.take_add_one,hx];exact QtN _ x hxi.1 hxi.2)
  clear hx hf2 hd hB hnf c0 c1 W;generalize Pl.many (out.take j) x.2.toNat=c at*;generalize QbY (out.take j) ns.length=cl at*;obtain⟨xp,xi⟩:=x;simp only at hxi hrm T hr
  repeat' first|refine kS ?_|(show AWP _ (.region 13 _ _) _ _;refine(Fg.awp_drawF (id:=13) [] [16] ?_))|refine qD (iy hr) ?_|refine qD (Qdv Ty.h rfl Ty.h rfl rfl rfl rfl hxi.1 hxi.2) ?_|refine qD (Qdg Ty.h rfl rfl hrm rfl) ?_|refine Qji Ty.h rfl rfl hrm rfl (kk:=?_)|refine kU ?_|fail
  refine Qg (out.length -(j+1)) (by omega) ⟨j+1,by omega,rfl,?_⟩;simp[keepE,go_sem,T.out,List.map_set]
 have hj2:j=out.length:=by simp at q3;omega
 subst hj2;rw[List.take_length]
 repeat refine kA ?_
 refine Qq (fun m st=> ∃k:Nat,k<=ns.length/\m=16 -k/\A9 ((A5 k).all (Qaw s ns out)=true)/\st=⟨110,[(11,.d (dI k)),(9,.osl 3 0 0 ns.length),(7,.d (tFnds out)),(6,.d (.sl true 10 (ns.map rNode))),(2,.d (.pd (rSt s)))],
  [.row 1 [],.row 1 [],.arr (out.length+1) 2 61 [],.arr 0 1 3 ((QbY out ns.length).map fun n=>[dI n])]⟩) [11,9,7,6,2] 4 16 ⟨0,by omega,rfl,Pm.hid rfl,rfl⟩ (round:=?_)
 rintro m st ⟨k,hk,rfl,hA,rfl⟩
 repeat refine kG ?_
 cases q4:decide ((k:Int)<(ns.length:Int))
 ·repeat refine kA ?_
  refine Qb (hx:=?_);have:k=ns.length:=by simp at q4;omega
  have h:=hA.out;rw[this] at h;rw[hd.out,hf2.out,h];rfl
 have hk2:k<ns.length:=by simp at q4;omega
 obtain⟨nd,hnd⟩: ∃nd,ns[k]? =some nd:=⟨_,A0 hk2⟩;have hr:=Qs (f:=rNode) hnd
 have hrm:((QbY out ns.length).map fun n=>[dI n])[0+(k:Int).toNat]? =some [dI ((Pl.many out k:Nat):Int)]:=by
  rw[A4,Int.toNat_natCast,A2,Qsc _ hk2];rfl
 have he:=hnf.out out k nd hnd;have T:A9 (Qaw s ns out k=true->(A5 (k+1)).all (Qaw s ns out)=true):=fun h=>Pl.Qdo (p:=Qaw s ns out) hA.out h
 have F:A9 (Qaw s ns out k=false->QbZ s t=([],false)):=fun h=>by
  rw[hd.out,hf2.out,Pl.Qdj (p:=Qaw s ns out) hk2 h];rfl
 rw[he] at T F;have c4:=c13.out nd;clear hnd hA hd hf2 he hnf hB W c0 c1 c13;generalize Pl.many out k=c at*;generalize Qac s nd=fok at*;obtain⟨kind,links,size,⟨⟨p1,p2,p3,p4,p5⟩,depth,many⟩⟩:=nd;simp only at T F;have hki:(0:Int)<=k/\(k:Int)<ns.length:=by omega
 repeat' first|refine kS ?_|refine qD (iy hr) ?_|refine qD (Qdv Ty.h rfl Ty.h rfl rfl rfl rfl hki.1 hki.2) ?_|refine qD (Qdg Ty.h rfl rfl hrm rfl) ?_|refine kU ?_|refine kV ?_ ?_<;>intro q|fail
 all_goals clear c4 hr hrm
 all_goals first
  |(refine Qg (16 -(k+1)) (by omega) ⟨k+1,by omega,rfl,Pm.hid (T.out ?_),rfl⟩;clear T F;simp_all;done)
  |(refine Qa 4 (h:=?_)
    refine Qb (hx:=?_);have hz:=F.out (by clear T F;simp_all)
    rw[hz];rfl)

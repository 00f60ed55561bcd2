/- Of parts_card; no condition. -/
import Derived.Test.YtilenknaajikpaaGreatDoorP17
import Derived.Test.YtilenknaajikpaaGreatDoorP18
set_option linter.all false
set_option maxRecDepth 100000
set_option maxHeartbeats 8000000
open Go.Proofs.Tryz renaming prog->A1
open Go.RowKit renaming Hid->A9
open List renaming getElem?_eq_getElem->A0,getElem?_map->A2,getD_eq_getElem?_getD->A3,length_cons->A4,length_append->A5,length_map->A6,mem_of_getElem?->A7,length_drop->A8,range->AC
open Nat renaming le_trans->AA,le_refl->AB
open Option.some renaming inj->AD
namespace Go.Proofs.YtilenknaajikpaaGreatDoor
noncomputable section
open Go.RowKit
namespace Aw
attribute [local irreducible] ASeq ADraw AWP Loc AStep Fg.PlanF Fg.Flts
def QqY: ∀(p:List (List UInt8)),(∀x∈p,x.length<=4)->(QaI p).length<=5*p.length+1:=by
 intro p h
 have hf: ∀p:List (List UInt8),(∀x∈p,x.length<=4)->(p.flatMap (47:: ·)).length<=5*p.length:=by
  intro p;induction p with
  |nil=>intro _;simp
  |cons a l ih=>
   intro h;have:=ih fun x hx=>h x (List.mem_cons_of_mem _ hx)
   have:=h a List.mem_cons_self;rw[List.flatMap_cons,A5,A4,A4];omega
 unfold QaI;split
 ·simp
 ·have:=hf p h;omega
def Qed(s:Pm.Store)(n:Qi):(Qf s n).1.length<=12:=by
 rcases Qd0 s n with h|h
 ·have:=h.2
  unfold Qaa at this;rw[Bool.and_eq_true,decide_eq_true_eq] at this;exact this.2
 ·rw[h];decide
def QdQ{x:List UInt8}(h:Qac x=true):x.length<=4:=by
 unfold Qac at h;simp at h;omega
def QqD(ns:List Qi)(E:Qi->List Ql×Bool): ∀(n:Nat) (x:QaW) (out:List QaW),(Qbi ns E n x out).2=true->(Qbi ns E n x out).1.length<=144
 |0,x,out,h=>by cases h
 |n+1,x,out,h=>by
  have hf: ∀(l:List Ql) (r:List QaW×Bool),(r.2=true->r.1.length<=144)->(Qb4 ns E n x.1 l r).2=true->(Qb4 ns E n x.1 l r).1.length<=144:=by
   intro l;induction l with
   |nil=>intro r hr h;exact hr h
   |cons e l ih=>
    rintro⟨o,b⟩ hr h;cases b
    ·rw[Qic] at h;cases h
    ·rw[QfC] at h⊢
     exact ih _ (QqD ns E n _ o) h
  unfold Qbi at h⊢;split at h
  ·cases h
  ·rename_i hc
   rw[if_neg hc];split at h
   ·rename_i hk
    rw[if_pos hk];have:=not_or.1 hc;simp;omega
   ·rename_i hk
    rw[if_neg hk];refine hf _ _ (fun _=>?_) h;have:=not_or.1 hc;simp;omega
theorem QuI(s:Pm.Store)(hg:QM s)(ns:List Qi)(hns:ns.length<=16): ∀(n:Nat) (p:List (List UInt8)) (id:Int) (out:List QaW) (g:Nat),145<=out.length+n->out.length<=144->p.length<=out.length->(∀x∈p,Qac x=true)->
 Does A1 210 [.d (dSt s),.d (.sl true 10 (ns.map rNode)),.d (.agg [dS (QaI p),dI id]),.osl 0 g 0 out.length] [.arr g 2 81 (out.map rFnd)] []
  (.tup [.osl 0 (g+((Qbi ns (Qf s) n (p,id) out).1.length -out.length)) 0 (Qbi ns (Qf s) n (p,id) out).1.length,.d (dB (Qbi ns (Qf s) n (p,id) out).2)])
  [.arr (g+((Qbi ns (Qf s) n (p,id) out).1.length -out.length)) 2 81 ((Qbi ns (Qf s) n (p,id) out).1.map rFnd)]:=by
 intro n;induction n with
 |zero=>intro p id out g h1 h2;omega
 |succ n ih=>
  intro p id out g h1 h2 h3 hp;have hwl:=(QqE ns (Qf s) (n+1) (p,id) out).2 (by omega)
  have hw:A9 (Qbi ns (Qf s) (n+1) (p,id) out=if 144<out.length+1∨Pl.inR id 0 (ns.length -1)=false∨(ns.getD id.toNat Qd).kind=0 then(out++[(p,id)],false) else
   if(ns.getD id.toNat Qd).kind=1 then(out++[(p,id)],true) else Qb4 ns (Qf s) n p (Qf s (ns.getD id.toNat Qd)).1 (out++[(p,id)],(Qf s (ns.getD id.toNat Qd)).2)):=Pm.hid rfl
  have hspl:=QqY p fun x hx=>QdQ (hp x hx)
  have hnl:(ns.map rNode).length=ns.length:=A6 ..;have hol:(out.map rFnd).length=out.length:=A6 ..;have c1:=al6In id 0 (ns.length -1);refine kL ?hpin fun gvs=>?_
  case hpin=>
   intro i C hC
   match i,hC with
   |0,hC=>obtain rfl:=AD hC;exact⟨_,rfl,rfl,rfl,.inl (by omega)⟩
  simp only[parA,gslot,Nat.zero_add,Nat.reduceAdd]
  by_cases h144:out.length=144
  ·have hw2:A9 (Qbi ns (Qf s) (n+1) (p,id) out=(out++[(p,id)],false)):=Pm.hid (by rw[hw.out,if_pos (.inl (by omega))])
   rw[hw2.out];clear hw hw2 ih hwl;refine kR ?_;refine Qa 1 (h:=?_);refine Qa 2 (h:=?_)
   repeat' first|refine kS ?_|refine QU Ty.h rfl Ty.h (hb:=?_) (kk:=?_)|refine kU ?_|refine kV ?_ ?_<;>intro q|fail
   all_goals first|exfalso;simp only[decide_eq_false_iff_not] at*;omega|simp;omega|refine Qel [8,9,1000000] 1 (h:=?_);refine Qek (hx:=?_) (hH:=?_)<;>simp<;>done
  have h2':out.length<144:=by omega
  cases hR:Pl.inR id 0 (ns.length -1)
  ·have hw2:A9 (Qbi ns (Qf s) (n+1) (p,id) out=(out++[(p,id)],false)):=Pm.hid (by rw[hw.out,if_pos (.inr (.inl hR))])
   rw[hw2.out];rw[hR] at c1;clear hw hw2 ih hwl;refine kR ?_;refine Qa 1 (h:=?_);refine Qa 2 (h:=?_)
   repeat' first|refine kS ?_|refine QU Ty.h rfl Ty.h (hb:=?_) (kk:=?_)|refine kU ?_|refine kV ?_ ?_<;>intro q|fail
   all_goals first|exfalso;simp only[decide_eq_true_eq] at*;omega|simp;omega|refine Qel [8,9,1000000] 1 (h:=?_);refine Qek (hx:=?_) (hH:=?_)<;>simp<;>done
  rw[hR] at c1;have hid:0<=id/\id<ns.length:=by simp[Pl.inR] at hR;omega
  obtain⟨nd,hnd⟩: ∃nd,ns[id.toNat]? =some nd:=⟨_,A0 (by omega)⟩;have hgd:ns.getD id.toNat Qd=nd:=by rw[A3,hnd];rfl
  have hr:(ns.map rNode)[id.toNat]? =some (rNode nd):=by rw[A2,hnd];rfl
  rw[hgd] at hw
  have hc: ¬(144<out.length+1∨Pl.inR id 0 (ns.length -1)=false∨nd.kind=0)∨nd.kind=0:=by
   by_cases h0:nd.kind=0
   ·exact .inr h0
   ·exact .inl (by rw[hR];simp[h0];omega)
  clear hgd hnd
  by_cases hk0:nd.kind=0
  ·have hw2:A9 (Qbi ns (Qf s) (n+1) (p,id) out=(out++[(p,id)],false)):=Pm.hid (by rw[hw.out,if_pos (.inr (.inr hk0))])
   rw[hw2.out];clear hw hw2 ih hwl hc;refine kR ?_;refine Qa 1 (h:=?_);refine Qa 2 (h:=?_)
   repeat' first|refine kS ?_|refine qD (Qdc Ty.h rfl Ty.h rfl rfl rfl hid.1 hr) ?_|refine qS (Qdc Ty.h rfl Ty.h rfl rfl rfl hid.1 hr) ?_|refine QU Ty.h rfl Ty.h (hb:=?_) (kk:=?_)|refine kU ?_|refine kV ?_ ?_<;>intro q|fail
   all_goals first|exfalso;simp only[decide_eq_true_eq] at*;omega|exfalso;simp only[beq_eq_false_iff_ne] at*;omega|simp;omega|refine Qel [8,9,1000000] 1 (h:=?_);refine Qek (hx:=?_) (hH:=?_)<;>simp<;>done
  have hc:=hc.resolve_right hk0
  by_cases hk1:nd.kind=1
  ·have hw2:A9 (Qbi ns (Qf s) (n+1) (p,id) out=(out++[(p,id)],true)):=Pm.hid (by rw[hw.out,if_neg hc,if_pos hk1])
   rw[hw2.out];clear hw hw2 ih hwl hc;refine kR ?_;refine Qa 1 (h:=?_);refine Qa 2 (h:=?_)
   repeat' first|refine kS ?_|refine qD (Qdc Ty.h rfl Ty.h rfl rfl rfl hid.1 hr) ?_|refine qS (Qdc Ty.h rfl Ty.h rfl rfl rfl hid.1 hr) ?_|refine QU Ty.h rfl Ty.h (hb:=?_) (kk:=?_)|refine kU ?_|refine kV ?_ ?_<;>intro q|fail
   all_goals first|exfalso;simp only[decide_eq_true_eq] at*;omega|exfalso;simp only[beq_eq_false_iff_ne,beq_iff_eq] at*;omega|simp;omega|refine Qel [8,9,1000000] 1 (h:=?_);refine Qek (hx:=?_) (hH:=?_)<;>simp<;>done
  have hw2:A9 (Qbi ns (Qf s) (n+1) (p,id) out=Qb4 ns (Qf s) n p (Qf s nd).1 (out++[(p,id)],(Qf s nd).2)):=Pm.hid (by rw[hw.out,if_neg hc,if_neg hk1]);have c2:=Qhb s hg nd;have heb:=Qit s nd;have hes:=Qed s nd;clear hw hc;generalize Qf s nd=ee at*;obtain⟨es,ok0⟩:=ee;simp only at hw2 heb hes;obtain⟨kind,links,size,⟨⟨p1,p2,p3,p4,p5⟩,depth,many⟩⟩:=nd;simp only at hk0 hk1;refine kR ?_;refine Qa 1 (h:=?_);refine Qa 2 (h:=?_)
  repeat' first|refine kS ?_|refine qD (Qdc Ty.h rfl Ty.h rfl rfl rfl hid.1 hr) ?_|refine qS (Qdc Ty.h rfl Ty.h rfl rfl rfl hid.1 hr) ?_|refine QU Ty.h rfl Ty.h (hb:=?_) (kk:=?_)|refine kU ?_|refine kV ?_ ?_<;>intro q|fail
  all_goals first|exfalso;simp only[decide_eq_true_eq] at*;omega|exfalso;simp only[beq_eq_false_iff_ne,beq_iff_eq] at*;omega|simp;omega|skip
  generalize hsp:QaI p=sp at hspl
  refine Qs (fun m st=> ∃(k gg:Nat) (o:List QaW) (b:Bool),k<=es.length/\m=es.length -k/\out.length+1<=o.length/\gg=g+(o.length -out.length)/\A9 (Qbi ns (Qf s) (n+1) (p,id) out=Qb4 ns (Qf s) n p (es.drop k) (o,b))/\
   (b=true->o.length<=144)/\st=⟨101,[(3,.osl 0 gg 0 o.length),(10,.d (tEnts es)),(11,.d (dB b)),(12,.d (dI k)),(1,.d (.sl true 10 (ns.map rNode))),(4,.d (.pd (rSt s))),(6,.d (.pd [dS sp,dI id])),(1000000,.gh [] gvs)],[.arr gg 2 81 (o.map rFnd),.row 1 [],.row 1 []]⟩)
   [3,10,11,12,1,4,6,1000000] 3 es.length ⟨0,g+1,out++[(p,id)],ok0,by omega,rfl,by simp,by simp,Pm.hid hw2.out,fun _=>by simp;omega,?_⟩ (round:=?_)
  ·rw[<-hsp];simp[keepE,go_sem]
  rintro m st ⟨k,gg,o,b,hk,rfl,hol2,hgg,hW,hb,rfl⟩
  by_cases hkb:k<es.length/\b=true
  rotate_left
  ·have hw3:A9 (Qbi ns (Qf s) (n+1) (p,id) out=(o,b)):=Pm.hid (by
    rw[hW.out]
    by_cases hb2:b=true
    ·have hk2:k=es.length:=by have: ¬k<es.length:=fun h=>hkb ⟨h,hb2⟩;omega
     rw[hk2,List.drop_length];rfl
    ·have:b=false:=by simpa using hb2
     rw[this,Qic])
   clear hW hw2 ih hwl
   repeat' first|refine kA ?_|refine kV ?_ ?_<;>intro q|fail
   all_goals first|exfalso;simp only[decide_eq_true_eq] at*;exact hkb ⟨by omega,by assumption⟩|refine Qel [8,9,1000000] 1 (h:=?_);refine Qek (hx:=?_) (hH:=?_)<;>rw[hw3.out,hgg];done
  obtain⟨hk2,rfl⟩:=hkb;have hb:=hb rfl;obtain⟨e,he⟩: ∃e,es[k]? =some e:=⟨_,A0 hk2⟩;have hre:=Qu (f:=rEnt) he;have hen:=(heb e (A7 he)).1
  have IH:=ih (p++[e.1]) e.2 o gg (by omega) hb (by simp;omega) (fun x hx=>by
   rcases List.mem_append.1 hx with hx|hx
   ·exact hp x hx
   ·rw[List.mem_singleton] at hx;rw[hx];exact hen)
  have hP:=QrC hp;have hroot:A9 (sp=[47]↔p=[]):=Pm.hid (by rw[<-hsp];exact QjO hP);have hsn:QaI (p++[e.1])=if p=[] then [47]++e.1 else sp++[47]++e.1:=by rw[Qpw,hsp];split<;>simp
  have hstep:A9 (Qbi ns (Qf s) (n+1) (p,id) out=Qb4 ns (Qf s) n p (es.drop (k+1)) (Qbi ns (Qf s) n (p++[e.1],e.2) o)):=Pm.hid (by rw[hW.out,Qhz he,QfC]);have hlen:=(QqE ns (Qf s) n (p++[e.1],e.2) o).1;have htrue:=QqD ns (Qf s) n (p++[e.1],e.2) o;have hnl4:=QdQ hen;rw[hsn] at IH;clear ih hW hw2 hwl he heb hsn hsp hp;generalize Qbi ns (Qf s) n (p++[e.1],e.2) o=r at*;obtain⟨o',b'⟩:=r;obtain⟨nm,eid⟩:=e;simp only at IH hlen htrue hnl4 hstep hre
  by_cases hp0:p=[]
  ·rw[if_pos hp0] at IH
   have hsp2:sp=[47]:=hroot.out.2 hp0;subst hsp2
   repeat' first|refine kS ?_|(show AWP _ (.region 13 _ _) _ _;refine(Fg.awp_drawF (id:=13) [] [10] ?_))|refine qD (iy hre) ?_|refine qS (iy hre) ?_|refine qD (Qdg (l:=[47]) (m:=[47]) rfl rfl (by first|omega|(simp;omega))) ?_|refine qS (Qdg (l:=[47]) rfl rfl (by first|omega|(simp;omega))) ?_|refine qD (Qdg rfl rfl (by first|omega|(simp;omega))) ?_|refine(Qh7 [0] IH cK (k:=?_))|refine kU ?_|refine kV ?_ ?_<;>intro q|fail
   all_goals first|refine Qn (es.length -(k+1)) (by omega) ⟨k+1,gg+(o'.length -o.length),o',b',by omega,rfl,by omega,by omega,Pm.hid hstep.out,htrue,?_⟩;simp[keepE,go_sem];done|exfalso;simp at q;done|exfalso;simp only[decide_eq_false_iff_not] at*;omega|exfalso;simp_all;done
  ·rw[if_neg hp0] at IH
   have hsp2: ¬sp=[47]:=fun h=>hp0 (hroot.out.1 h)
   repeat' first|refine kS ?_|(show AWP _ (.region 13 _ _) _ _;refine(Fg.awp_drawF (id:=13) [] [10] ?_))|refine qD (iy hre) ?_|refine qS (iy hre) ?_|refine qD (Qdg (m:=[47]) rfl rfl (by first|omega|(simp;omega))) ?_|refine qS (Qdg (l:=[47]) rfl rfl (by first|omega|(simp;omega))) ?_|refine qD (Qdg rfl rfl (by first|omega|(simp;omega))) ?_|refine qS (Qdo (m:=[47]) rfl rfl) ?_|refine(Qh7 [0] IH cK (k:=?_))|refine kU ?_|refine kV ?_ ?_<;>intro q|fail
   all_goals first|refine Qn (es.length -(k+1)) (by omega) ⟨k+1,gg+(o'.length -o.length),o',b',by omega,rfl,by omega,by omega,Pm.hid hstep.out,htrue,?_⟩;simp[keepE,go_sem];done|exfalso;simp at q;done|exfalso;simp only[decide_eq_false_iff_not] at*;omega|exfalso;simp_all;done
attribute [local irreducible] EndR Fk.PlanF Fk.Flts Fk.AStepM Fk.Grew Fk.Gs
def dCopy(w:Pl.Sto)(N:Nat)(hN:N<=1000000)(hw:w.W N):Does A1 75 [.d (dSt w.st)] [] [] (oS 1 w) (hS 1 w):=by
 have c1:=(dCopy5 w.refs w.last (by rw[hw.refs];omega) (by rw[hw.last];omega)).e;have h0:=hw.rows;have h1:=hw.refs;have h2:=hw.last;have h3:=hw.many;refine DoesE.one ?_;refine kH fun gvs=>?_
 repeat' first|refine kS ?_|refine QdW Ty.h rfl Ty.h (hb:=?_) (hcell:=?_) (kk:=?_)|refine QD [] c1 cK (k:=kX ?_)|refine kU ?_|fail
 all_goals first
  |exact QtC _
  |exact Qdy _
  |(simp[Pl.Sto.st];done)
  |(simp[Pl.Sto.st];omega)
  |(refine QdV [2,1000000] [2,3,4,5,6,1] (env':=[(2,.ptr 5 0 0),(1000000,.gh [] gvs)]) (H':=hS 1 w++[.row 0 [.osl 0 1 0 w.rows.length,.osl 1 1 0 w.refs.length,.osl 2 1 0 w.last.length,.d (dI w.txg),.osl 3 1 0 w.gone.length,.d (dI 0),.osl 4 1 0 0,.d (dB w.same)]]) (h:=?_)
    refine Q3 5 (hx:=?_);rw[h0,h1,h2]
    exact⟨rfl,rfl⟩)
theorem QuB{S:Nat->Prop}{w:World}{b:Bool}{l:List (List UInt8)}{v:Value}(h:RelD S w (.sl b 1 (l.map fun s=>[dS s])) v)(hS: ∀b,S b->b<w.heap.size)(hx: ∀x∈l,x.length<=Pm.big):
 ∃A c,v= .slice A l.length c/\Pm.At w w.heap.size A l:=by
 generalize hr:(l.map fun s=>[dS s])=rows at h;cases h with
 |slnil a cap=>
  have:l=[]:=by simpa using hr
  subst this;exact⟨_,_,rfl,fun h=>absurd h (by simp)⟩
 |sl _ _ _ bb o cap g hb hn hcap hc hrr=>
  subst hr;refine⟨_,_,by rw[A6],fun _=>⟨bb,o,rfl,hS bb hb,fun i x hi=>⟨[.string ⟨x.toArray⟩],⟨rfl,hx x (A7 hi)⟩,fun j v hj=>?_⟩⟩⟩
  match j,hj with
  |0,hj=>
   obtain rfl:_=v:=by simpa using hj
   have h1:(l.map fun s=>[dS s])[i]? =some [dS x]:=by rw[A2,hi];rfl
   have h2:=hc i 0 _ _ h1 rfl;have h3:=hrr i 0 _ _ h1 rfl;generalize g i 0=y at*;cases h3;exact h2
def Sm.lt{B:Bs}{σ:Sg}{S:Nat->Prop}{H:List Blk}{w:World}(h:Sm B σ S H w): ∀b,S b->b<w.heap.size:=fun b hb=>(h.sUp b hb).1
def Qr3{α:Type}{cargs:List α}(h:1=cargs.length): ∃v,cargs=[v]:=by
 match cargs,h with
 |[v],_=>exact⟨v,rfl⟩
theorem Qqz(l:List (List UInt8))(h1:l.length<=Pm.big)(h2: ∀s∈l,s.length<=4294967296):Pure A1 215 [dStrs l] (.tup [dS ((Pl.Qdi l).getD []),dB (Pl.Qdi l).isSome]):=by
 intro B σ S H w cargs hB hS hl hr;obtain⟨v,rfl⟩:=Qr3 hl;obtain⟨A,c,rfl,hA⟩:=QuB (hr 0 _ v rfl rfl) hS.lt fun x hx=>by have:=h2 x hx;unfold Pm.big;omega
 refine(Pm.Qn0 A l c w h1 hA h2 (hB.ltOf hS)).mono ?_;rintro e w' ⟨rfl,hb⟩;refine⟨_,rfl,hb,?_⟩;rw[Pm.Qr2];refine .tup _ [.string ⟨((Pl.Qdi l).getD []).toArray⟩,.bool (Pl.Qdi l).isSome] rfl fun i d x hd hx=>?_
 match i,hd,hx with
 |0,hd,hx=>simp at hd hx;subst hd hx;exact .v _
 |1,hd,hx=>simp at hd hx;subst hd hx;exact .v _
theorem QnO(kind size:Int):Pure A1 200 [dI kind,dI size] (dI (Qak kind size)):=by
 have hd:=Pm.hid (Qak.eq_def kind size);have he:=Pm.hid (QaY.eq_def kind)
 have key: ∀e:Int,QaY kind=e->e=12∨e=128->Qak kind size=if Pl.inR size 0 (16*e) then(size+e -1)/e else -1:=fun e h1 h2=>by
  rw[hd.out,h1,if_neg (by omega)]
 by_cases h1:kind=1
 ·rw[key 12 (by rw[he.out,if_pos h1]) (.inl rfl)]
  subst h1;clear hd he key;cases hR:Pl.inR size 0 (16*12)
  ·refine kB ?_
   repeat' first|refine kS ?_|refine qS (Qd4 rfl rfl (by decide)) ?_|refine qS (lC (hR▸bIn size 0 (16*12))) ?_|refine kU ?_|fail
   all_goals exact Qb (hx:=rfl)
  have hb:0<=size/\size<=16*12:=by simpa[Pl.inR] using hR
  refine kB ?_
  repeat' first|refine kS ?_|refine qS (Qd4 rfl rfl (by decide)) ?_|refine qS (lC (hR▸bIn size 0 (16*12))) ?_|refine qS (QhJ rfl rfl (by omega) (by omega)) ?_|refine kU ?_|fail
  all_goals exact Qb (hx:=rfl)
 by_cases h2:kind=2
 ·rw[key 128 (by rw[he.out,if_neg h1,if_pos h2]) (.inr rfl)]
  subst h2;clear hd he key;cases hR:Pl.inR size 0 (16*128)
  ·refine kB ?_
   repeat' first|refine kS ?_|refine qS (Qd4 rfl rfl (by decide)) ?_|refine qS (lC (hR▸bIn size 0 (16*128))) ?_|refine kU ?_|fail
   all_goals exact Qb (hx:=rfl)
  have hb:0<=size/\size<=16*128:=by simpa[Pl.inR] using hR
  refine kB ?_
  repeat' first|refine kS ?_|refine qS (Qd4 rfl rfl (by decide)) ?_|refine qS (lC (hR▸bIn size 0 (16*128))) ?_|refine qS (QhJ rfl rfl (by omega) (by omega)) ?_|refine kU ?_|fail
  all_goals exact Qb (hx:=rfl)
 have hpz:Qak kind size= -1:=by rw[hd.out,if_pos (by rw[he.out,if_neg h1,if_neg h2])]
 rw[hpz];clear hd he key hpz;refine kB ?_
 repeat' first|refine kA ?_|refine kV ?_ ?_<;>intro q|fail
 ·exact absurd (by simpa using q) h1
 ·exact absurd (by simpa using q) h2
 exact Qb (hx:=rfl)
theorem bNodeOk(n:Qi):Pure A1 144 [dNode n] (dB (QL n)):=by
 have hd:A9 (QL n=(decide (0<=Qak n.kind n.size)&&(n.tree.many==Qak n.kind n.size)&&(n.tree.depth==Qbq (Qak n.kind n.size))&&Pl.ptrOk n.tree.root&&
  Pl.inR n.links 1 (if n.kind=2 then 1 else 9)&&(Pl.ptrHole n.tree.root||(n.tree.root.level==n.tree.depth)))):=Pm.hid rfl
 have c1:=QnO n.kind n.size;generalize Qak n.kind n.size=pc at*;have c2:Pure A1 165 [dI pc] (dI (Qbq pc)):=bDepth pc;generalize Qbq pc=dp at*;have c3:=bPtrOk n.tree.root;have c4:=Qee n.tree.root;generalize Pl.ptrOk n.tree.root=ok at*;generalize Pl.ptrHole n.tree.root=ho at*;refine kE ?_;refine Qa 0 (h:=?_)
 repeat' first|refine kS ?_|refine qD (Qds cK (bIn _ _ _) rfl) ?_|refine kU ?_|refine kV ?_ ?_<;>intro q|fail
 all_goals
  refine Qb (hx:=?_);refine congrArg dB ?_;rw[hd.out];clear c1 c2 c3 c4 hd
  simp_all
 all_goals
  intros
  omega
def Qge{n:Int}(h0:0<=n)(h1:n<=999999999):Pl.numPut n=Pl.dec n.toNat:=by unfold Pl.numPut;rw[if_pos ⟨h0,h1⟩]
def Qhj{n:Qi}(h:NodeB n):[n.kind,n.links,n.size].map Pl.numPut++Pl.QeN n.tree++[[101,110,100]]=Qaj n:=by
 have h1:=h.kind;have h2:=h.links;have h3:=h.size;have h4:=h.depth;have h5:=h.many;simp only[Pl.QeN,Qaj,List.map_cons,List.map_nil,List.cons_append,List.nil_append];rw[Qge (n:=n.kind) (by omega) (by omega),Qge (n:=n.links) (by omega) (by omega),Qge (n:=n.size) (by omega) (by omega),Qge (n:=n.tree.depth) (by omega) (by omega),Qge (n:=n.tree.many) (by omega) (by omega)]
def bCutHit(a r:List UInt8)(h:(58:UInt8)∉a)(hs:(a++58::r).length<=4294967280):Pure A1 150 [dS (a++58::r),dS [58]] (.tup [dS a,dS r,dB true]):=
 Qfr (xs:=[.string ⟨a.toArray⟩,.string ⟨r.toArray⟩,.bool true]) rfl fun w hL=>Pm.cutHit a r h w hs hL
def Qu6(a:List UInt8)(h:(58:UInt8)∉a)(hs:a.length<=4294967280):Pure A1 150 [dS a,dS [58]] (.tup [dS a,dS [],dB false]):=
 Qfr (xs:=[.string ⟨a.toArray⟩,.string ⟨#[]⟩,.bool false]) rfl fun w hL=>Pm.cutMiss a h w hs hL
def bClone(s:List UInt8)(hs:s.length<=Pm.big):Pure A1 152 [dS s] (dS s):=Qd6 rfl fun w _=>Pm.imClone s w hs
theorem Qq0(s:List UInt8)(hs:s.length<=Pm.big):Pure A1 167 [dS s] (.tup [tStrs (Qb5 s).1,dB (Qb5 s).2]):=by
 simp only[Pm.big] at hs
 by_cases h20:s.length<=2048
 rotate_left
 ·have hr:A9 (Qb5 s=([],false)):=Pm.hid (QiM fun l hl=>h20 hl.2.1)
  generalize Qb5 s=res at*;refine kB ?_
  repeat' first|refine kA ?_|refine kV ?_ ?_<;>intro q|fail
  ·refine Qd7 2 true 1 (h:=?_)
   refine Qb (hx:=?_);rw[hr.out];rfl
  ·exfalso;simp at*;omega
 refine kB ?_
 repeat' first|refine kA ?_|refine kV ?_ ?_<;>intro q|fail
 ·exfalso;simp at*;omega
 refine Qfk 4 1 9 (h:=?_)
 refine Qs (fun m st=> ∃(g:Nat) (out:List (List UInt8)) (rest:List UInt8),m=rest.length/\A9 (s=Pl.enc out++rest)/\rest.length<=2048/\out.length<=60/\
  st=⟨56,[(4,.osl 0 g 0 out.length),(5,.d (dS rest))],[.arr g 1 9 (out.map fun s=>[dS s])]⟩) [4,5] 1 s.length ⟨0,[],s,rfl,Pm.hid rfl,h20,by simp,rfl⟩ (round:=?_)
 rintro m st ⟨g,out,rest,rfl,hO,hrl,hlen,rfl⟩
 repeat refine kG ?_
 by_cases hr:rest=[]
 ·subst hr
  have hr:A9 (Qb5 s=(out,true)):=Pm.hid (rg_is ⟨hlen,h20,by rw[hO.out];simp⟩);generalize Qb5 s=res at*
  repeat refine kA ?_
  (refine Qa 0 (h:=?_);refine Qb (hx:=?_))
  rw[hr.out];simp[List.take_of_length_le]
 have hne:(!(rest==([]:List UInt8)))=true:=by simpa using hr
 by_cases hc:(58:UInt8)∈rest
 rotate_left
 ·have hf:A9 (Qb5 s=([],false)):=Pm.hid (QiM (Pl.Qn4 hO.out hr hc))
  have c1:=Qu6 rest hc (by omega);have c2:=bNumGet rest (by unfold Pm.big;omega);generalize (Pl.numGet rest).getD 0=n1 at*;generalize (Pl.numGet rest).isSome=o1 at*;generalize Qb5 s=res at*
  repeat' first|refine kA ?_|refine kV ?_ ?_<;>intro q|fail
  all_goals first
   |(refine Qd7 2 true 1 (h:=?_)
     refine Qb (hx:=?_)
     rw[hf.out];rfl)
   |exact absurd (hne.symm.trans ‹_=false›) (by decide)
 obtain⟨num,tail,rfl,hn⟩:=Pl.QeU hc;have hnl:num.length<=2048/\tail.length<=2048:=by simp only[A5,A4] at hrl;omega
 have c1:=bCutHit num tail hn (by omega);have c2:=bNumGet num (by unfold Pm.big;omega);cases hg:Pl.numGet num with
 |none=>
  rw[hg] at c2;have hf:A9 (Qb5 s=([],false)):=Pm.hid (QiM (Pl.Qsc h20 hO.out hn (Or.inl hg)));generalize Qb5 s=res at*
  repeat' first|refine kA ?_|refine kV ?_ ?_<;>intro q|fail
  all_goals first
   |(refine Qd7 2 true 1 (h:=?_)
     refine Qb (hx:=?_)
     rw[hf.out];rfl)
   |exact absurd (hne.symm.trans ‹_=false›) (by decide)
 |some n=>
  rw[hg] at c2;simp only[Option.getD_some,Option.isSome_some] at c2;have F1:A9 (tail.length<n->Qb5 s=([],false)):=Pm.hid fun h=>QiM (Pl.Qsc h20 hO.out hn (Or.inr ⟨n,hg,h⟩))
  have F2:A9 (out.length=60->Qb5 s=([],false)):=Pm.hid fun h=>QiM (Pl.Quk hO.out hr (by omega))
  have T:A9 (n<=tail.length->s=Pl.enc (out++[tail.take n])++tail.drop n):=Pm.hid fun h=>Pl.Quj hO.out hg h
  have c3:=bClone (tail.take n) (by rw[List.length_take];unfold Pm.big;omega);generalize Qb5 s=res at*
  repeat' first|refine kS ?_|refine qS (Qfx rfl rfl rfl (by simp) (by simp at*;omega)) ?_|refine qS (Qfw rfl rfl rfl (by simp) (by simp at*;omega)) ?_|refine QU Ty.h rfl Ty.h (hb:=?_) (kk:=?_)|refine kU ?_|refine kV ?_ ?_<;>intro q|fail
  all_goals first
   |exact absurd (hne.symm.trans ‹_=false›) (by decide)
   |(refine Qd7 2 true 1 (h:=?_)
     refine Qb (hx:=?_)
     first
      |(rw[F1.out (by simp at*;omega)];rfl)
      |(rw[F2.out (by simp at*;omega)];rfl))
   |(simp;omega)
   |(have hnt:n<=tail.length:=by clear F1 F2 T;simp only[decide_eq_false_iff_not] at*;omega
     have hn60:out.length≠60:=fun e=>by
      have:((out.length:Int)==60)=true:=by rw[e];rfl
      exact absurd (this.symm.trans ‹_=false›) (by decide)
     refine Qn (tail.drop n).length ?_ ⟨g+1,out++[tail.take n],tail.drop n,rfl,Pm.hid (T.out hnt),?_,?_,?_⟩
     ·rw[A8,A5,A4];omega
     ·rw[A8];omega
     ·simp;omega
     ·simp[keepE,go_sem])
theorem Qut{P:Program}{f:FuncId}{args:List D}{l:List (List UInt8)}{T:TypeId}(h: ∀(S:Nat->Prop) (w:World) (cargs:List Value),Pm.Lt w->(∀b,S b->b<w.heap.size)->args.length=cargs.length->
 (∀(i:Nat) d v,args[i]? =some d->cargs[i]? =some v->RelD S w d v)->Calls P f cargs.toArray w fun e w'=> ∃v,e= .returned v/\w'.ownsRow w.heap.size T 1 v l.length (l.map Pm.vstr)/\Below w.heap.size w w'):
 Does P f (args.map AV.d) [] [] (.osl 0 0 0 l.length) [.arr 0 1 T (l.map fun s=>[dS s])]:=by
 refine⟨fun i C hC=>by simp at hC,fun B σ S w cargs gvs hB hS hl hr hgl hgr=>?_⟩;refine(h S w cargs (hB.ltOf hS) hS.lt (by simpa using hl) fun i d v hd hv=>?_).mono ?_
 ·have:=hr i (.d d) v (by rw[A2,hd];rfl) hv
  cases this;assumption
 rintro e w' ⟨v,rfl,ho,hb⟩;have hgv: ∀(σ':Sg) (i:Nat) d v,([]:List AV)[i]? =some d->gvs[i]? =some v->Rel σ' S [.arr 0 1 T (l.map fun s=>[dS s])] w' d v:=fun σ' i d v hd=>by simp at hd
 have hkeep: ∀b,b<B.w0.heap.size-> ¬B.own b->w'.heap[b]? =B.w0.heap[b]? :=fun b hlt hn=>(hb.block b (by have:=hS.size;omega)).trans (hS.keep b hlt hn)
 have hsUp: ∀b,S b->b<w'.heap.size/\(B.S b∨B.own b∨B.w0.heap.size<=b):=fun b hbS=>⟨by have:=(hS.sUp b hbS).1;have:=hb.size;omega,(hS.sUp b hbS).2⟩
 rcases ho with⟨_,⟨rfl,hn⟩|⟨g,cap,cur,rfl,hbg,hg,hcap,hmax,hsz,htk⟩⟩
 ·have:l=[]:=List.length_eq_zero_iff.1 hn
  subst this;refine⟨_,fun _=>none,S,rfl,⟨hb.os.trans hS.os,hb.tape.trans hS.tape,hb.output.trans hS.output,AA hS.size hb.size,hkeep,hS.sLo,hsUp,fun k b _ hk=>(by cases hk),fun k k' b _ _ hk=>(by cases hk),fun k C hC=>?_⟩,?_,hgv _⟩
  ·match k,hC with
   |0,hC=>
    simp at hC;subst hC;exact⟨by simp,.inr ⟨rfl,by simp⟩⟩
  ·exact .osl 0 0 0 0 _ rfl 0 1 T _ rfl (AB _) fun _=>⟨by simp,.inr ⟨rfl,rfl,rfl⟩⟩
 ·have hgS: ¬S g:=fun hx=>by have:=(hS.sUp g hx).1;omega
  have hglt:g<w'.heap.size:=by
   rcases Nat.lt_or_ge g w'.heap.size with hlt|hge
   ·exact hlt
   ·rw[Array.getElem?_eq_none hge] at hg;cases hg
  refine⟨_,fun k=>if k=0 then some g else none,S,rfl,⟨hb.os.trans hS.os,hb.tape.trans hS.tape,hb.output.trans hS.output,AA hS.size hb.size,hkeep,hS.sLo,hsUp,fun k b hk hkb=>?_,fun k k' b hk hk' h1 h2=>?_,fun k C hC=>?_⟩,?_,hgv _⟩
  ·have hk0:k=0:=by simp at hk;omega
   subst hk0;obtain rfl:g=b:=by simpa using hkb
   exact⟨hglt,hgS,.inr (by have:=hS.size;omega)⟩
  ·simp at hk hk';omega
  ·match k,hC with
   |0,hC=>
    simp at hC;subst hC;refine⟨fun r hr=>by obtain⟨x,_,rfl⟩:=List.mem_map.1 hr;rfl,.inl ⟨g,cur,rfl,hg,fun i j r d hi hj=>?_⟩⟩;rw[A2] at hi;cases hx:l[i]? with
    |none=>rw[hx] at hi;cases hi
    |some x=>
     rw[hx] at hi;obtain rfl:[dS x]=r:=by simpa using hi
     match j,hj with
     |0,hj=>
      obtain rfl:dS x=d:=by simpa using hj
      have hil:i<l.length:=(List.getElem?_eq_some_iff.1 hx).1;have h1:(l.map Pm.vstr)[i]? =some (Pm.vstr x):=by rw[A2,hx];rfl
      rw[<-htk,List.getElem?_take,if_pos (by omega)] at h1;exact⟨Pm.vstr x,by simpa using h1,.v _⟩
  ·exact .osl 0 0 0 l.length _ rfl 0 1 T _ rfl (AB _) fun _=>⟨by simp,.inl ⟨g,cap,cur,T,rfl,hcap,hmax,by simp,hg,by simpa using hsz⟩⟩
theorem Quz(s:Pm.Space)(h1:s.1.length<=Pm.big)(h2:s.2.length<=Pm.big):Pure A1 84 [dSpace s] (dB (Pl.spaceOk s)):=by
 obtain⟨refs,last⟩:=s;simp only[Pm.big] at h1 h2
 skip
 refine kN ?_;simp only[parE,dSpace];refine kR ?_;refine Qa 0 (h:=?_)
 repeat refine kG ?_
 cases q1:((refs.length:Int) !=64);rotate_left
 ·repeat refine kG ?_
  exact Qb (hx:=congrArg dB (by simp at q1;simp[Pl.spaceOk];intros;omega))
 repeat refine kG ?_
 cases q2:((last.length:Int) !=64);rotate_left
 ·repeat refine kG ?_
  exact Qb (hx:=congrArg dB (by simp at q2;simp[Pl.spaceOk];intros;omega))
 repeat refine kG ?_
 simp at q1 q2;refine Qs (fun m s=> ∃k:Nat,k<=64/\m=64 -k/\(AC k).all (Pl.Qec refs last)=true/\s=⟨55,[(19,.d (dI k)),(17,.d (dInts refs)),(18,.d (dI refs.length)),(1,.d (.pd [dInts refs,dInts last]))],[]⟩) [19,17,18,1] 0 64 ⟨0,by omega,rfl,rfl,rfl⟩ (round:=?_);rintro m s ⟨k,hk,rfl,hF,rfl⟩
 repeat refine kG ?_
 cases q3:decide ((k:Int)<(refs.length:Int))
 ·repeat refine kA ?_
  have:k=64:=by simp at q3;omega
  subst this;exact Qb (hx:=congrArg dB (by simp[Pl.spaceOk,hF];omega))
 simp at q3;have hk':k<64:=by omega
 have hk1:k<refs.length:=by omega
 have hk2:k<last.length:=by omega
 have hr1:=Qu (f:=fun n=>[dI n]) (A0 hk1);have hr2:=Qu (f:=fun n=>[dI n]) (A0 hk2)
 have hrow:Pl.Qec refs last k=Pl.QdO k refs[k] last[k]:=by
  unfold Pl.Qec;rw[A3,A3,A0 hk1,A0 hk2];rfl
 generalize refs[k]=a at*;generalize last[k]=b at*;have T:A9 (Pl.QdO k a b=true->(AC (k+1)).all (Pl.Qec refs last)=true):=fun h=>Pl.Qdn hF (hrow.trans h)
 have F:A9 (Pl.QdO k a b=false->Pl.spaceOk (refs,last)=false):=fun h=>by simp[Pl.spaceOk,Pl.Qdj hk' (hrow.trans h)]
 clear hrow hF
 repeat' first|refine kS ?_|refine qS (Qds cK (bIn _ _ _) rfl) ?_|refine qS (iy hr1) ?_|refine qS (iy hr2) ?_|refine kU ?_|refine kV ?_ ?_<;>intro q|fail
 all_goals clear hr1 hr2
 all_goals first|exact Qb (hx:=congrArg dB (F.out (by simp_all[Pl.QdO,Pl.inR];try omega)).symm)|exact Qn (64 -(k+1)) (by omega) ⟨k+1,by omega,rfl,T.out (by simp_all[Pl.QdO,Pl.inR];try omega),rfl⟩

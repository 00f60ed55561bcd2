/- Of fby_card; no condition. -/
import Derived.Test.YtfmnpmhadmcdkaaGreatDoorT37
set_option linter.all false
open List renaming getElem?_eq_some_iff->A0,mem_map->A1,dropLast_concat->A2,length_take->A3
namespace Go.Proofs.YtfmnpmhadmcdkaaGreatDoor
noncomputable section
open Go.RowKit
namespace Aw
attribute [local irreducible] ASeq ADraw AWP Loc mget mset AStep Fg.PlanF Fg.Flts
def Qv5(A:List Gr.It)(k:Nat):(A.map fun x=>(x.2:Int)).count (k:Int)=(A.map (·.2)).count k:=by
 induction A with
 |nil=>rfl
 |cons a A ih=>
  simp only[List.map_cons,List.count_cons,ih]
  congr 1
  by_cases h:a.2=k
  ·simp[h]
  ·have: ¬(a.2:Int)=(k:Int):=by omega
   simp[h,this]
def bFlatOk{s:Pm.Store}{t:Pl.Tree}(h:Qae s t=true):Pure Tryz.prog 43 [dFlat (Qbf s t)] (dB true):=by
 have hG:=Qvk h;have hB:=flatB h
 have hsh: ∀x∈(Qbf s t).1,(QC x.1).length<=1000:=fun x hx=>by
  obtain⟨z,hz,rfl⟩:=A1.1 hx;exact Qvr h z hz
 generalize Qbf s t=F at*;obtain⟨Ns,T⟩:=F;obtain⟨L,hL⟩:=hG.root;obtain⟨T',hT⟩:=hG.top;have hA:=hB.asc;have htl:=hB.tl;simp only at hL hT hA hsh htl
 have hsp: ∀(i:Nat) x,Ns[i]? =some x->Qu8 (Ns,T) (Ns.take i) x:=fun i x hx=>QvC hG (A:=Ns.take i) (B:=Ns.drop (i+1)) (by
  obtain⟨hlt,hg⟩:=A0.1 hx;show Ns=_
  rw[<-hg,<-List.drop_eq_getElem_cons hlt,List.take_append_drop])
 refine Qwz Ns T hB.nl hB.tl (by rw[hL];rfl) (by rw[hT];rfl) (fun i x hx=>?_) (fun x=>QbW T x.2) (fun x hx=>?_) (fun x hx h0=>?_) (fun i x hx=>?_) (fun m hm=>?_)
 ·obtain⟨_,g1,g2,g3⟩:=hG.th x (List.mem_of_getElem? hx)
  refine⟨g1,g2,g3,fun z h0 hz=>?_⟩;obtain⟨hi,rfl⟩:=A0.1 hx;obtain⟨hj,rfl⟩:=A0.1 hz;exact List.pairwise_iff_getElem.1 hA _ _ hj hi (by omega)
 ·obtain⟨e1,e2⟩:=Qnk hB hx
  have:=bThing (Ns.map rIt) T hA (by omega) _ e1
  rwa [e2] at this
 ·obtain⟨q,n,e⟩: ∃q n,x.1=q++[n]:=⟨x.1.dropLast,x.1.getLast h0,(List.dropLast_concat_getLast h0).symm⟩
  have hp:=Qqt (hG.names x hx);have hn:=hG.names x hx n (by rw[e];simp);have hl:=hsh x hx;refine⟨n,?_,?_⟩
  ·rw[e] at hp hl⊢
   rw[A2];exact bAbove q n (hp n (by simp)).1 (fun m hm=>(hp m (by simp[hm])).2) hl
  ·have:=bNameOk n (by have:=Qei hn;omega)
   rwa [hn] at this
 ·have R:=hsp i x hx
  have hlt:=(A0.1 hx).1
  have hA0:0<i->Ns.take i≠[]:=fun h e=>by
   have:=congrArg List.length e;rw[A3] at this;simp only[List.length_nil] at this;omega
  refine⟨fun z h0 hz=>?_,fun h0=>?_,fun h0=>?_,fun h0=>R.few (hA0 h0),?_,fun h=>?_,R.new⟩
  ·refine Qww (R.prev z ?_)
   rw[List.getLast?_eq_getElem?,A3,Nat.min_eq_left (by omega),List.getElem?_take,if_pos (by omega),hz]
  ·obtain⟨z,hz,n,e,_,ho⟩:=R.up (hA0 h0)
   exact⟨by rw[e];simp,z,hz,by rw[e,A2],ho⟩
  ·rw[R.first (by rw[h0];rfl)]
  ·rw[Qv5];exact R.lnk
  ·rw[Qv5,R.one h];decide
 ·rw[Qux.len hm (T:=T.map fun x=>(x.1:Int)) ?_ ?_,List.length_map]
  ·rw[List.Nodup,List.pairwise_map]
   exact hA.imp fun h=>by omega
  ·intro k
   constructor
   ·intro hk
    obtain⟨x,hx,rfl⟩:=A1.1 hk;obtain⟨z,hz,e⟩:=A1.1 (hG.th x hx).1;exact A1.2 ⟨z,hz,by rw[e]⟩
   ·intro hk
    obtain⟨x,hx,rfl⟩:=A1.1 hk;obtain⟨e1,e2⟩:=Qnk hB hx;exact A1.2 ⟨_,e1,by rw[e2]⟩

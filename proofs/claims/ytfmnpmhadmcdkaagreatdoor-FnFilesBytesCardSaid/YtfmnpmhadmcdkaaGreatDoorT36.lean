/- Of fby_card; no condition. -/
import Derived.Test.YtfmnpmhadmcdkaaGreatDoorT35
set_option linter.all false
set_option maxRecDepth 100000
set_option maxHeartbeats 8000000
namespace Go.Proofs.YtfmnpmhadmcdkaaGreatDoor
noncomputable section
open Go.RowKit
namespace Aw
attribute [local irreducible] ASeq ADraw AWP Loc AStep Fg.PlanF Fg.Flts EndR
theorem dNodes(s:Pm.Store)(hg:QP s)(t:Pl.Tree)(ht:Qx t):Does Tryz.prog 40 [.d (dSt s),.d (dTree t)] [] [] (.osl 0 (Qk s t).length 0 (Qk s t).length) [.arr (Qk s t).length 10 45 ((Qk s t).map rNode)]:=by
 have c:=Qe3 s hg t ht;have hl:=texts_len s ht;have hle:=texts_le s hg t;have hm:=ht.manyHi;have hn:Hid (Qk s t=(Qc s t).map fun x=>(Qp x).1):=Pm.hid rfl;generalize Qc s t=l at*;generalize Qk s t=all at*;refine kL ?hpin fun gvs=>?_
 case hpin=>intro i C hC;simp at hC
 simp only[parA,gslot,Nat.zero_add];refine kR ?_;refine Qa 0 (h:=?_);refine Qa 1 (h:=?_)
 repeat refine kA ?_
 refine Qo (fun m st=> ∃(k:Nat) (out:List Qj),k<=l.length/\m=16 -k/\out.length=k/\Hid (out=(l.take k).map fun x=>(Qp x).1)/\
  st=⟨33,[(5,.osl 2 out.length 0 out.length),(6,.d (tStrs l)),(7,.d (dI k)),(1000000,.gh [] gvs)],[.row 1 [],.row 1 [],.arr out.length 10 45 (out.map rNode)]⟩) [5,6,7,1000000] 3 16 ⟨0,[],by omega,rfl,rfl,Pm.hid rfl,by simp[keepE,go_sem]⟩ (round:=?_)
 rintro m st ⟨k,out,hk,rfl,hlen,hO,rfl⟩
 repeat refine kG ?_
 cases q4:decide ((k:Int)<(l.length:Int))
 ·have:k=l.length:=by simp at q4;omega
  have hall:out=all:=by rw[hn.out,hO.out,this,List.take_length]
  subst hall
  repeat refine kA ?_
  refine QdI [4,1000000] [2] (env':=[(4,.osl 0 out.length 0 out.length),(1000000,.gh [] gvs)]) (H':=[.arr out.length 10 45 (out.map rNode)]) (h:=?_);exact QdB (hx:=rfl) (hH:=rfl)
 have hk2:k<l.length:=by simp at q4;omega
 obtain⟨x,hx⟩: ∃x,l[k]? =some x:=⟨_,List.getElem?_eq_getElem hk2⟩;have hr:=Qt (f:=fun s=>[dS s]) hx;have cg:=Qia x (by have:=hle x (List.mem_of_getElem? hx);unfold Pm.big;omega);have T:Hid ((l.take (k+1)).map (fun x=>(Qp x).1)=out++[(Qp x).1]):=Pm.hid (by rw[List.take_add_one,hx,hO.out];simp);clear hx hO hle hn;generalize (Qp x).1=N at*;obtain⟨kind,links,size,⟨⟨p1,p2,p3,p4,p5⟩,depth,many⟩⟩:=N
 repeat' first|refine kS ?_|refine qS (iy hr) ?_|refine QV Ty.h rfl Ty.h (hb:=?_) (kk:=?_)|refine kU ?_|fail
 ·simp;omega
 ·refine Qh (16 -(k+1)) (by omega) ⟨k+1,out++[⟨kind,links,size,⟨⟨p1,p2,p3,p4,p5⟩,depth,many⟩⟩],by omega,rfl,by simp[hlen],Pm.hid T.out.symm,?_⟩
  simp[keepE,go_sem]
def Qjr(L:List Qj):[Blk.arr L.length 10 45 (L.map rNode)].all Blk.flat=true:=by
 simp[Blk.flat,D.flat,List.all_eq_true]

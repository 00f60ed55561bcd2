/- Of fby_card; no condition. -/
import Derived.Test.YtfmnpmhadmcdkaaGreatDoorT29
import Derived.Shelf.SlSortCmp.NoneTotal
set_option linter.all false
set_option maxRecDepth 100000
set_option maxHeartbeats 16000000
open Bool renaming and_eq_true->A2,eq_iff_iff->AY,and_false->Ab,true_and->Ae
open Go renaming Value->AE,Calls->AH,World->AO
open Go.Op renaming bytesLess->Ai
open Go.Proofs.AnyF renaming slices_SortFunc_none->AG
open Go.Proofs.Tryz renaming prog->A0,underlying92->AT,ntmps34->Ag,func34->Ak
open Go.RowKit renaming Below->A7,Hid->AC
open Go.RowKit.Below renaming refl->Ac
open Go.Sort renaming ahead->AP
open Int renaming le_refl->Aj
open List renaming getElem?_eq_getElem->A3,getD_eq_getElem?_getD->A4,range->A5,getElem?_eq_some_iff->A6,replicate->A8,length_map->A9,length_append->AA,length_eq_zero_iff->AB,mem_range->AD,mem_of_find?_eq_some->AF,getElem?_map->AI,mem_flatMap->AK,getElem?_toArray->AL,length_replicate->AM,mem_of_getElem?->AN,mem_replicate->AQ,map_map->AR,mem_map->AS,all_eq_true->AU,not_mem_nil->AW,getElem_mem->AX,range_succ->AZ,append_nil->Aa,mem_cons->Ad
open Nat renaming zero_add->Af,add_zero->Ah
open Option renaming getD_some->AJ
open Option.some renaming inj->A1,injEq->Al
namespace Go.Proofs.YtfmnpmhadmcdkaaGreatDoor
noncomputable section
section
open Go.RowKit
namespace Aw
variable{x:D}{args:List D}{f:FuncId}
attribute [local irreducible] ASeq ADraw AWP Loc
def Qb5(refs:List Int)(i:Nat)(r:List UInt8):Bool:=decide (r.length<=128)&&((r==[])==(refs.getD i 0==0))
theorem Qo0{s:Pm.Store}(h:s.2.1.2.length=64):QbM s=(((A5 64).all fun i=>Qb5 s.2.1.1 i (s.1.getD i []))&&decide (QbX s.2.1.2<=s.2.2.1)):=by
 have hne:s.2.1.2≠[]:=fun e=>by grind
 rw[AY];unfold QbM Qbs Qb5;simp only[A2,AU,decide_eq_true_eq,AD];rw[maxL_le hne];constructor
 ·intro hh
  refine⟨fun i hi=>(hh i hi).1,fun y hy=>?_⟩;obtain⟨i,hi,rfl⟩:=List.getElem_of_mem hy;have:=(hh i (by omega)).2
  grind
 simp_all
theorem Qk2(s:Pm.Store)(b1:s.2.1.1.length<=Pm.big)(b2:s.2.1.2.length<=Pm.big)(b3:s.2.2.2.1.length<=1000000000000)(b4:s.2.2.2.2.2.1.length<=1000000000000):
 Pure A0 33 [dSt s] (dB (Qaa s)):=by
 have hd:AC (Qaa s=((s.1.length==64)&&Pl.spaceOk s.2.1&&Pl.inR s.2.2.1 1 900&&Pl.inR s.2.2.2.2.1 0 (s.2.2.1 -1)&&QbM s&&Qbx s.2.1.1 (Qbn s) (A8 64 0))):=Pm.hid rfl;have cS:=Qtx s.2.1 b1 b2;have cT:=bIn s.2.2.1 1 900;have cQp:=bIn s.2.2.2.2.1 0 (s.2.2.1 -1)
 by_cases hlen:s.1.length=64
 rotate_left
 ·have hf:Qaa s=false:=by rw[hd.out,beq_eq_false_iff_ne.2 hlen];rfl
  refine kE ?_;refine Qa 0 (h:=?_);have hne:((s.1.length:Int) !=64)=true:=by rw[bne_iff_ne];omega
  repeat' first|refine kA ?_|refine kV ?_ ?_<;>intro q|fail
  all_goals first|refine Qb (hx:=?_);rw[hf]|exfalso;simp_all;done
 have hne:((s.1.length:Int) !=64)=false:=by rw[hlen];rfl
 cases hsp:Pl.spaceOk s.2.1
 ·have hf:Qaa s=false:=by rw[hd.out,hsp];simp
  rw[hsp] at cS;refine kE ?_;refine Qa 0 (h:=?_)
  repeat' first|refine kA ?_|refine kV ?_ ?_<;>intro q|fail
  all_goals first|refine Qb (hx:=?_);rw[hf]|exfalso;simp_all;done
 cases hT:Pl.inR s.2.2.1 1 900
 ·have hf:Qaa s=false:=by rw[hd.out,hT];simp
  rw[hT] at cT;rw[hsp] at cS;refine kE ?_;refine Qa 0 (h:=?_)
  repeat' first|refine kA ?_|refine kV ?_ ?_<;>intro q|fail
  all_goals first|refine Qb (hx:=?_);rw[hf]|exfalso;simp_all;done
 have hTb:1<=s.2.2.1/\s.2.2.1<=900:=by simpa[Pl.inR] using hT
 cases hK:Pl.inR s.2.2.2.2.1 0 (s.2.2.1 -1)
 ·have hf:Qaa s=false:=by rw[hd.out,hK];simp
  rw[hT] at cT;rw[hsp] at cS;rw[hK] at cQp;refine kE ?_;refine Qa 0 (h:=?_)
  repeat' first|refine kA ?_|refine kV ?_ ?_<;>intro q|fail
  all_goals first|refine Qb (hx:=?_);rw[hf]|exfalso;simp_all;done
 have hsp1:s.2.1.1.length=64/\s.2.1.2.length=64:=by simp[Pl.spaceOk] at hsp;exact hsp.1
 have cM:=bMax s.2.1.2 (by omega) (by omega)
 have hd2:AC (Qaa s=(((A5 64).all fun i=>Qb5 s.2.1.1 i (s.1.getD i []))&&decide (QbX s.2.1.2<=s.2.2.1)&&Qc8 s)):=Pm.hid (by
  rw[hd.out,hlen,hsp,hT,hK,Qo0 hsp1.2,Qo8 (Qoz hsp)];rfl)
 rw[hT] at cT;rw[hsp] at cS;rw[hK] at cQp;clear hd hsp hT hK;have hrow:AC (∀k,Qb5 s.2.1.1 k (s.1.getD k [])=(decide ((s.1.getD k []).length<=128)&&((s.1.getD k []==[])==(s.2.1.1.getD k 0==0)))):=Pm.hid fun k=>rfl
 have hrf:AC (∀k,k<64->Qb5 s.2.1.1 k (s.1.getD k [])=false->Qaa s=false):=Pm.hid fun k hk h=>by
  rw[hd2.out,Pl.Qda hk h];rfl
 have how:AC (Qc8 s=((QaB s.2.1.1 (s.2.2.1 -1) s.2.2.2.1 (A8 64 0)).1&&(QaB s.2.1.1 s.2.2.2.2.1 s.2.2.2.2.2.1 (QaB s.2.1.1 (s.2.2.1 -1) s.2.2.2.1 (A8 64 0)).2).1&&
  (A5 64).all fun i=>decide ((QaB s.2.1.1 s.2.2.2.2.1 s.2.2.2.2.2.1 (QaB s.2.1.1 (s.2.2.1 -1) s.2.2.2.1 (A8 64 0)).2).2.getD i 0<=s.2.1.1.getD i 0))):=Pm.hid rfl
 have fa1:=Qge s.2.1.1 (s.2.2.1 -1) s.2.2.2.1 (A8 64 0) 0 (by decide) (fun y hy=>by rw[(AQ.1 hy).2];decide);have dd1:=bCount s hsp1.1 s.2.2.2.1 b3 (s.2.2.1 -1) (A8 64 0) (by simp) (fun y hy=>by rw[(AQ.1 hy).2];decide) 0;generalize QaB s.2.1.1 (s.2.2.1 -1) s.2.2.2.1 (A8 64 0)=r1 at*;obtain⟨o1,m1⟩:=r1;simp only at fa1 how;have fa2:=Qge s.2.1.1 s.2.2.2.2.1 s.2.2.2.2.2.1 m1 1000000000000 (by decide) (fun y hy=>by have:=fa1.2 y hy;omega);have dd2:=bCount s hsp1.1 s.2.2.2.2.2.1 b4 s.2.2.2.2.1 m1 (by simpa using fa1.1) (fun y hy=>by have:=fa1.2 y hy;omega) 0;generalize QaB s.2.1.1 s.2.2.2.2.1 s.2.2.2.2.2.1 m1=r2 at*;obtain⟨o2,m2⟩:=r2;simp only at fa2 how;generalize QbX s.2.1.2=mx at*;generalize hst:Qaa s=res at*;clear hst b1 b2;refine kE ?_;refine Qa 0 (h:=?_)
 repeat' first|refine kA ?_|refine kV ?_ ?_<;>intro q|fail
 all_goals first
  |(exfalso;clear hrow how hrf hd2 dd1 dd2;simp_all;done)
  |(refine Qb (hx:=?_)
    rw[hd2.out,decide_eq_false (by clear hrow how hrf hd2 dd1 dd2;simp at*;omega),Ab,Bool.false_and];done)
  |skip
 have hmx:decide (mx<=s.2.2.1)=true:=decide_eq_true (by clear hrow how hrf hd2 dd1 dd2;simp at*;omega)
 refine Qo (fun m st=> ∃k:Nat,k<=64/\m=64 -k/\AC ((A5 k).all (fun i=>Qb5 s.2.1.1 i (s.1.getD i []))=true)/\
  st=⟨102,[(1,.d (.pd (rSt s))),(44,.d (dStrs s.1)),(45,.d (dI s.1.length)),(46,.d (dI k))],[]⟩) [1,44,45,46] 0 64 ⟨0,by omega,rfl,Pm.hid rfl,by simp[keepE,go_sem]⟩ (round:=?_)
 rintro m st ⟨k,hk,rfl,hA,rfl⟩
 repeat refine kG ?_
 cases q3:decide ((k:Int)<(s.1.length:Int));rotate_left
 ·have hk2:k<64:=by simp at q3;omega
  obtain⟨r,hr0⟩: ∃r,s.1[k]? =some r:=⟨_,A3 (by omega)⟩;obtain⟨rf,hf0⟩: ∃rf,s.2.1.1[k]? =some rf:=⟨_,A3 (by omega)⟩;have hr:=Qt (f:=fun s=>[dS s]) hr0;have hf:=Qt (f:=fun n=>[dI n]) hf0;have hbad:=Pm.hid (hrf.out k hk2);have hgood:AC (Qb5 s.2.1.1 k (s.1.getD k [])=true->(A5 (k+1)).all (fun i=>Qb5 s.2.1.1 i (s.1.getD i []))=true):=Pm.hid fun h=>Pl.Qdd hA.out h
  have hro:AC (Qb5 s.2.1.1 k (s.1.getD k [])=(!decide ((r.length:Int)>128)&&((r==[])==(rf==0)))):=Pm.hid (by
   rw[hrow.out k];simp only[A4,hr0,hf0,AJ]
   have:decide (r.length<=128)= !decide ((r.length:Int)>128):=by
    by_cases h:r.length<=128
    ·rw[decide_eq_true h,decide_eq_false (by omega)];rfl
    ·rw[decide_eq_false h,decide_eq_true (by omega)];rfl
   rw[this])
  clear hrow how hrf hd2 dd1 dd2 hr0 hf0 hA fa1 fa2;generalize Qb5 s.2.1.1 k (s.1.getD k [])=ro at*
  repeat' first|refine kS ?_|refine qS (iy hr) ?_|refine qS (iy hf) ?_|refine qS (QeD Tryz.underlying4 rfl rfl) ?_|refine kU ?_|refine kV ?_ ?_<;>intro q|fail
  all_goals clear hr hf
  all_goals first
   |(exfalso;omega)
   |(refine Qb (hx:=?_)
     rw[hbad.out (by rw[hro.out];clear hbad hgood hro;simp_all)];done)
   |exact Qh (64 -(k+1)) (by omega) ⟨k+1,by omega,rfl,Pm.hid (hgood.out (by rw[hro.out];clear hbad hgood hro;simp_all)),by simp[keepE,go_sem]⟩
 have hk64:k=64:=by simp at q3;omega
 subst hk64
 have hd3:AC (res=Qc8 s):=Pm.hid (by
  rw[hd2.out,hA.out,hmx];rfl)
 clear hrow hrf hd2 hA;simp only[List.map_replicate] at dd1;simp only at dd1 dd2
 have hgl1: ∀(L:List AV) (B:Blk) (g:AV),g∈[AV.ptr 0 0 0,AV.osl 1 0 0 64]->AV.ptr 1 0 0∈L->B.parts=[]->g.ren (rho [1,0] 2)∈L++[B,Blk.row 0 [.osl 0 0 0 64]].flatMap Blk.parts:=fun L B g hg hL hB=>by
  simp only[Ad,AW,or_false] at hg;rcases hg with rfl|rfl
  ·exact List.mem_append_left _ hL
  ·refine List.mem_append_right _ ?_
   rw[List.flatMap_cons,hB];simp[Blk.parts,AV.parts,AV.ren,rho]
 repeat' first|refine kS ?_|refine qS (Qkg rfl rfl) ?_|refine(Qhb [1,0] dd1 cK (hgl:=fun g hg=>hgl1 _ _ g hg (by simp[AV.parts,go_sem]) rfl) (k:=?_))|refine(Qhb [1,0] dd2 cK (hgl:=fun g hg=>hgl1 _ _ g hg (by simp[AV.parts,go_sem]) rfl) (k:=?_))|refine kU ?_|refine kV ?_ ?_<;>intro q|fail
 ·refine Qb (hx:=?_)
  rw[hd3.out,how.out,(by simpa using q:o1=false)];rfl
 ·refine Qb (hx:=?_)
  rw[hd3.out,how.out,(by simpa using q:o2=false),Ab];rfl
 have hm2:m2.length=64:=by rw[fa2.1,fa1.1];simp
 have hd4:AC (res=(A5 64).all fun i=>decide (m2.getD i 0<=s.2.1.1.getD i 0)):=Pm.hid (by
  rw[hd3.out,how.out];clear hd3 how dd1 dd2
  simp_all)
 clear hd3 how dd1 dd2 fa1 fa2 cS cT cQp cM
 refine Qo (fun m st=> ∃k:Nat,k<=64/\m=64 -k/\AC ((A5 k).all (fun i=>decide (m2.getD i 0<=s.2.1.1.getD i 0))=true)/\
  st=⟨102,[(1,.d (.pd (rSt s))),(86,.osl 0 0 0 64),(87,.d (dI 64)),(88,.d (dI k))],[.arr 0 1 3 (m2.map fun n=>[dI n])]⟩) [1,86,87,88] 1 64 ⟨0,by omega,rfl,Pm.hid rfl,by simp[keepE,go_sem]⟩ (round:=?_)
 rintro m st ⟨k,hk,rfl,hA,rfl⟩
 repeat refine kG ?_
 cases q5:decide ((k:Int)<64)
 ·repeat refine kA ?_
  refine Qb (hx:=?_);have:k=64:=by simp at q5;omega
  subst this;rw[hd4.out,hA.out]
 have hk2:k<64:=by simp at q5;omega
 obtain⟨mv,hmv⟩: ∃mv,m2[k]? =some mv:=⟨_,A3 (by omega)⟩;obtain⟨rf,hf0⟩: ∃rf,s.2.1.1[k]? =some rf:=⟨_,A3 (by omega)⟩;have hmr:=Qt (f:=fun n=>[dI n]) hmv;have hf:=Qt (f:=fun n=>[dI n]) hf0;have hmr2:(m2.map fun n=>[dI n])[0+((k:Nat):Int).toNat]? =some [dI mv]:=by rw[Af];exact hmr
 have hbad:AC (decide (mv>rf)=true->res=false):=Pm.hid fun h=>by
  rw[hd4.out];refine Pl.Qda hk2 ?_;simp only[A4,hmv,hf0,AJ];exact decide_eq_false (by simp at h;omega)
 have hgood:AC (decide (mv>rf)=false->(A5 (k+1)).all (fun i=>decide (m2.getD i 0<=s.2.1.1.getD i 0))=true):=Pm.hid fun h=>Pl.Qdd hA.out (by
  simp only[A4,hmv,hf0,AJ]
  exact decide_eq_true (by simp at h;omega))
 clear hd4 hA hmv hf0
 repeat' first|refine kS ?_|refine qS (QcY Ty.h rfl rfl hmr2 rfl) ?_|refine qS (iy hf) ?_|refine kU ?_|refine kV ?_ ?_<;>intro q|fail
 all_goals first
  |(refine Qb (hx:=?_)
    rw[hbad.out (by assumption)];done)
  |exact Qh (64 -(k+1)) (by omega) ⟨k+1,by omega,rfl,Pm.hid (hgood.out (by assumption)),by simp[keepE,go_sem]⟩
attribute [local irreducible] mget mset
def QcB(s:Pm.Store):Prop:= ∀n,Q8 n=true->n.kind=1->Pure A0 34 [.pd (rSt s),dNode n] (.tup [.any,dB (QO s n)])
def Qc4(s:Pm.Store)(t:Pl.Tree):D:=if Qaa s then QbT s t else .tup [.v (.pointer none),dB false]
def Qob(s:Pm.Store)(t:Pl.Tree)(cS:Pure A0 33 [dSt s] (dB (Qaa s)))(hg:Qaa s=true->QP s/\0<=s.2.2.1)(hT:Qaa s=true->QcB s):
 Pure A0 28 [dSt s,dTree t] (Qc4 s t):=by
 unfold Qc4;cases h:Qaa s
 ·rw[h] at cS
  rw[if_neg (by simp)];refine kE ?_;refine Qa 0 (h:=?_);refine Qa 1 (h:=?_)
  repeat refine kA ?_
  exact Qb (hx:=rfl)
 ·rw[h] at cS
  rw[if_pos rfl];have c:=Qpi s (hg h).1 (hg h).2 t (hT h);obtain⟨a,b,hab⟩: ∃a b,QbT s t= .tup [a,b]:=by unfold QbT;split<;>exact⟨_,_,rfl⟩
  rw[hab] at c⊢;clear hab hg hT;refine kE ?_;refine Qa 0 (h:=?_);refine Qa 1 (h:=?_)
  repeat refine kA ?_
  exact Qb (hx:=rfl)
def Qup(F:Qj->Int)(N:List Qj):Int:=(N.map F).sum
def Qu5(s:Pm.Store)(t:Pl.Tree)(p:List UInt8)(F:Qj->Int)(M:List Nat):Int×Bool:=
 if Qaa s&&Qcx s t&&Qcp s (Qc s t) then(if Quk s (Qc s t) p<0 then(0,false) else(Qup F (M.map fun k=>(Qu (Qc s t)).getD k Qd),true)) else(0,false)
theorem bSum(s:Pm.Store)(t:Pl.Tree)(p:List UInt8)(hp:p.length<=1000000000000)(cS:Pure A0 33 [dSt s] (dB (Qaa s)))(hg:Qaa s=true->QP s/\0<=s.2.2.1)(hT:Qaa s=true->QcB s)
 (f:FuncId) (F:Qj->Int) (hf: ∀args w,(callFunc f args).run A0 w= .ok (.enter f args) w) (hF: ∀n,Pure A0 f [dNode n] (dI (F n))) (hFb: ∀n,NodeB n->0<=F n/\F n<=1000000)
 (L:List Nat) (hL:Qaa s=true->Qcx s t=true->Qcp s (Qc s t)=true-> ¬Quk s (Qc s t) p<0->L.length<=1000/\Gr.FD (Qs (Qu (Qc s t))) (QcG s (Qc s t)) [(Quk s (Qc s t) p).toNat] L):
 PureF A0 36 [.d (dSt s),.d (dTree t),.d (dS p),.fn (.func f) []] (.tup [dI (Qu5 s t p F (Qug [] L)).1,dB (Qu5 s t p F (Qug [] L)).2]):=by
 have c1:=Qob s t cS hg hT;have hd:AC (Qu5 s t p F (Qug [] L)=if Qaa s&&Qcx s t&&Qcp s (Qc s t) then(if Quk s (Qc s t) p<0 then(0,false) else(Qup F ((Qug [] L).map fun k=>(Qu (Qc s t)).getD k Qd),true)) else(0,false)):=Pm.hid rfl;generalize Qu5 s t p F (Qug [] L)=res at*
 by_cases hok:(Qaa s&&Qcx s t&&Qcp s (Qc s t))=true
 rotate_left
 ·have hbad:=Pm.hid (hd.out.trans (if_neg hok))
  obtain⟨a,ha⟩: ∃a,Qc4 s t= .tup [a,dB false]:=by
   unfold Qc4 QbT;simp only[A2,not_and] at hok;split
   ·split
    ·rename_i h1 h2
     have:=hok ⟨h1,h2⟩;exact⟨_,by rw[show Qcp s (Qc s t)=false by simpa using this]⟩
    ·exact⟨_,rfl⟩
   ·exact⟨_,rfl⟩
  rw[ha] at c1;refine kF ?_;refine kR ?_;refine Qa 0 (h:=?_);refine Qa 1 (h:=?_)
  repeat refine kA ?_
  refine QR (hx:=?_);rw[hbad.out]
 have hok':=hok;rw[A2,A2] at hok';obtain⟨⟨h1,h2⟩,h3⟩:=hok'
 have hin:Qc4 s t= .tup [.pd (rFiles s t (Qc s t) (QaK s (Qc s t) (Qc s t).length)),dB true]:=by
  unfold Qc4 QbT;rw[if_pos h1,if_pos h2,h3]
 rw[hin] at c1;have htab:Qat s t=true:=by unfold Qcx at h2;rw[A2,A2] at h2;exact h2.1.1
 obtain⟨hx,hx16,_⟩:=Qg8 htab;have hm:=QmT s (Qc s t);have hL:=hL h1 h2 h3;have hd2:=hd.out.trans (if_pos hok);clear hin hok htab h1 h2 h3 hd cS hg hT;generalize Qc s t=x at*;generalize QaK s x x.length=m at*
 obtain⟨N,fine,c2,hr,hNb,hNl⟩: ∃(N:List Qj) (fine:Bool),Pure A0 71 [.pd (rFiles s t x m),dS p] (.tup [.sl true 10 (N.map rNode),dB fine])/\res=(Qup F N,fine)/\(∀n∈N,0<=F n/\F n<=1000000)/\N.length<=1000:=by
  by_cases hneg:Quk s x p<0
  ·exact⟨[],false,Qw1 s t x m hm p hp hneg,by rw[hd2,if_pos hneg];rfl,fun n hn=>by simp at hn,by simp⟩
  ·obtain⟨hL1,hL2⟩:=hL hneg
   obtain⟨j,hj⟩:=Int.eq_ofNat_of_zero_le (show 0<=Quk s x p by omega);rw[hj,Int.toNat_natCast] at hL2;refine⟨(Qug [] L).map fun k=>(Qu x).getD k Qd,true,?_,by rw[hd2,if_neg hneg],?_,?_⟩
   ·have:=Qwh s t x hx m hm p hp j hj L hL1 hL2
    rw[AR];exact this
   ·intro n hn
    obtain⟨k,hk,rfl⟩:=AS.1 hn;rw[QuT] at hk;have hk:=hk.resolve_left (by simp);have hkd:=hL2.kinds k hk;rcases Qf9 hx k with⟨_,h⟩|⟨_,_,h⟩
    ·exfalso;unfold Qs at hkd;rw[h] at hkd;rcases hkd with h|h
     ·cases h
     ·cases h.1
    ·exact hFb _ h
   ·rw[A9];have:=(QuE L []).2.1;simp at this;omega
 clear hd2 hL hm hx hFb hx16;subst hr;have hNb:=Pm.hid hNb;refine kF ?_;refine kR ?_;refine Qa 0 (h:=?_);refine Qa 1 (h:=?_)
 repeat refine kA ?_
 refine Qo (fun mm st=> ∃k:Nat,k<=N.length/\mm=N.length -k/\0<=Qup F (N.take k)/\Qup F (N.take k)<=k*1000000/\
  st=⟨45,[(31,.d (.sl true 10 (N.map rNode))),(32,.d (dI N.length)),(33,.d (dI k)),(14,.d (dI (Qup F (N.take k)))),(3,.fn (.func f) []),(13,.d (dB fine))],[]⟩) [31,32,33,14,3,13] 0 N.length ⟨0,by omega,rfl,by simp[Qup],by simp[Qup],by simp[keepE,go_sem,Qup]⟩ (round:=?_)
 rintro mm st ⟨k,hk,rfl,hs1,hs2,rfl⟩
 repeat refine kG ?_
 cases q3:decide ((k:Int)<(N.length:Int))
 ·repeat refine kA ?_
  refine QR (hx:=?_);have:k=N.length:=by simp at q3;omega
  rw[this,List.take_length]
 have hk2:k<N.length:=by simp at q3;omega
 obtain⟨y,hy⟩: ∃y,N[k]? =some y:=⟨_,A3 hk2⟩;have hr:=Qt (f:=rNode) hy;have hyb:=hNb.out y (AN hy)
 have hstep:AC (Qup F (N.take (k+1))=Qup F (N.take k)+F y):=Pm.hid (by
  unfold Qup
  rw[List.take_add_one,hy];simp)
 have c:=hF y;clear hy hNb;generalize hs:Qup F (N.take (k+1))=s2 at*;generalize Qup F (N.take k)=s1 at*;generalize F y=fy at*
 repeat' first|refine kS ?_|refine qS (iy hr) ?_|refine qS (Qek hf c rfl rfl) ?_|refine kU ?_|fail
 refine Qh (N.length -(k+1)) (by omega) ⟨k+1,by omega,rfl,?_,?_,?_⟩
 ·rw[hs,hstep.out];omega
 ·rw[hs,hstep.out];omega
 ·rw[hs,hstep.out];simp[keepE,go_sem]
theorem bBytes1(n:Qj):Pure A0 37 [dNode n] (dI (if n.kind=2 then 0 else n.size)):=by
 obtain⟨kd,links,size,⟨⟨p1,p2,p3,p4,p5⟩,depth,many⟩⟩:=n;simp only;refine kE ?_;refine Qa 0 (h:=?_)
 repeat' first|refine kA ?_|refine kV ?_ ?_<;>intro q|fail
 all_goals
  refine Qb (hx:=?_)
  simp_all
def Qvo(s:Pm.Store)(t:Pl.Tree)(p:List UInt8)(r:Int×Bool)(c:PureF A0 36 [.d (dSt s),.d (dTree t),.d (dS p),.fn (.func 37) []] (.tup [dI r.1,dB r.2])):
 Pure A0 13 [dSt s,dTree t,dS p] (.tup [dI r.1,dB r.2]):=by
 obtain⟨a,b⟩:=r;simp only at c⊢;refine kE ?_;refine Qa 0 (h:=?_);refine Qa 1 (h:=?_)
 repeat' first|refine kS ?_|refine qS (Qeq cK c rfl rfl) ?_|refine kU ?_|fail
 exact Qb (hx:=rfl)
theorem QhD(s:Pm.Store)(t:Pl.Tree):(Qcx s t&&Qcp s (Qc s t))=Qae s t:=by
 rw[AY,QeI];have hnl:(Qk s t).length=(Qc s t).length:=by unfold Qk;grind
 rw[A2];unfold Qcx Qcp Qcj QcG;rw[A2,A2,decide_eq_true_eq,AU]
 have hk2: ∀k,Qs (Qk s t) k=2↔((Qk s t).getD k Qd).kind=2:=fun k=>by
  grind [Qs]
 have hk1: ∀k,Qs (Qk s t) k=1↔((Qk s t).getD k Qd).kind=1:=fun k=>by
  grind [Qs]
 show((Qat s t=true/\Qs (Qk s t) 0=2)/\ ∀k∈A5 (Qc s t).length,Qaj s (Qc s t) k=true)/\_↔_;rw[<-hnl];constructor
 ·rintro⟨⟨⟨h1,h2⟩,h3⟩,h4⟩
  have hG: ∀k,Qs (Qk s t) k≠0->Qaj s (Qc s t) k=true:=fun k hk=>h3 k (AD.2 (QdO hk))
  refine⟨h1,(hk2 0).1 h2,fun k hk=>?_,fun k hk=>?_,?_⟩
  ·have h:=hG k (by grind)
   have e:Qs (Qu (Qc s t)) k=1:=(hk1 k).2 hk;unfold Qaj at h;rw[e] at h;show QO s ((Qu (Qc s t)).getD k Qd)=true
   grind
  ·have h:=hG k (by grind)
   have e:Qs (Qu (Qc s t)) k=2:=(hk2 k).2 hk;unfold Qaj at h;rw[e] at h;show(Qg s ((Qu (Qc s t)).getD k Qd)).2=true
   grind
  grind [Qk,QdO]
 ·rintro⟨h1,h2,h3,h4,nm,h5,h6⟩
  grind [Qaj,Qfy,nsOk,Qs,Qk]
def Qvh(s:Pm.Store)(t:Pl.Tree)(p:List UInt8):Quk s (Qc s t) p=match QT p with|none=> -1|some q=>(QbB s (Qk s t) 0 q).getD (-1):=by
 unfold Quk;cases QT p with
 |none=>rfl
 |some q=>
  simp only;unfold QbB;rw[<-Qvs];rfl
theorem Qvz(F:Nat->Int)(n:Nat): ∀(m:Nat) (V:List Nat),V.length=m->V.Nodup->(∀k∈V,k<n)->(V.map F).sum=Quj (fun k=>if k∈V then F k else 0) n
 |0,V,hm,_,_=>by
  obtain rfl:=AB.1 hm
  have: ∀n,Quj (fun k=>if k∈([]:List Nat) then F k else 0) n=0:=fun n=>by
   induction n with
   |zero=>rfl
   |succ n ih=>unfold Quj;grind
  grind
 |m+1,V,hm,hV,hlt=>by
  rcases List.eq_nil_or_concat V with rfl|⟨W,a,rfl⟩
  ·simp at hm
  ·rw[List.concat_eq_append] at*
   rw[List.nodup_append] at hV;have ha:a∉W:=fun h=>hV.2.2 a h a (by simp) rfl
   rw[Qve ha,if_pos (hlt a (by simp)),List.map_append,List.sum_append,Qvz F n m W (by grind) hV.1 (fun k hk=>hlt k (by simp[hk]))];simp
theorem fd_mem{kind:Nat->Nat}{ch:Nat->Option (List Nat)}: ∀{es L:List Nat} {e:Nat},Gr.FD kind ch es L->e∈es-> ∃M,Gr.FD kind ch [e] M/\M.length<=L.length
 :=by intro l;induction l<;>grind [QvX]
theorem Qv2{s:Pm.Store}{x:List (List UInt8)}: ∀{q:List (List UInt8)} {i j:Int} {L:List Nat},0<=i->Gr.FD (Qs (Qu x)) (QcG s x) [i.toNat] L->Quq (QaH s x) i q=some j-> ∃M,Gr.FD (Qs (Qu x)) (QcG s x) [j.toNat] M/\M.length<=L.length
 |[],i,j,L,_,h,hf=>by grind [QvW]
 |n::q,i,j,L,hi,h,hf=>by
  rw[QuH] at hf;obtain⟨L1,rfl,h1,_⟩:=Qv3 h;rw[show((i.toNat:Nat):Int)=i by omega] at h1;cases he:(QaH s x i).find? (fun e=>e.1==n) with
  |none=>grind
  |some e=>
   rw[he] at hf;have hm:=AF he;obtain⟨M,g1,g2⟩:=fd_mem h1 (AS.2 ⟨e,hm,rfl⟩);have hb:=ent_b (Qwb s x i) e hm;obtain⟨M',g3,g4⟩:=Qv2 (by omega) g1 hf
   grind
def Qu1(n:Qj):Int:=if n.kind=2 then 0 else n.size
theorem Qwl(s:Pm.Store)(t:Pl.Tree)(p:List UInt8)(F G:Qj->Int)(hFG: ∀n:Qj,n.kind=1∨n.kind=2->F n=G n): ∃L:List Nat,
 (Qaa s=true->Qcx s t=true->Qcp s (Qc s t)=true-> ¬Quk s (Qc s t) p<0->L.length<=1000/\Gr.FD (Qs (Qu (Qc s t))) (QcG s (Qc s t)) [(Quk s (Qc s t) p).toNat] L)/\
 Qu5 s t p F (Qug [] L)=Qui s t p G:=by
 unfold Qu5 Qui;have hl:=QhD s t;rw[Bool.and_assoc,hl];have hp:=Qvh s t p;cases hq:QT p with
 |none=>
  simp_all
 |some q=>
  rw[hq] at hp;have hp:Quk s (Qc s t) p=(QbB s (Qk s t) 0 q).getD (-1):=hp;simp only
  by_cases hF:(Qaa s&&Qae s t)=true
  rotate_left
  ·refine⟨[],fun h1 h2 h3 _=>absurd (by grind) hF,?_⟩
   grind
  have hF0:=hF;rw[A2] at hF;have hFi:=(QeI s t).1 hF.2;cases hj:QbB s (Qk s t) 0 q with
  |none=>
   simp_all
  |some j=>
   rw[hj] at hp;have hp:Quk s (Qc s t) p=j:=hp;rw[hp];have hj0:=QuG (Aj 0) hj;obtain⟨M,hM,hs⟩:=QuM hFi hj;refine⟨M,fun _ _ _ _=>⟨?_,?_⟩,?_⟩
   ·have hOk:=hF.2
    unfold Qae at hOk;simp only[A2,beq_iff_eq] at hOk;obtain⟨L,g1,g2,g3⟩:=QgM s hFi.root hOk.1.2;have hj':=hj;unfold QbB at hj';rw[<-Qvs] at hj';obtain⟨M',g4,g5⟩:=Qv2 (s:=s) (x:=Qc s t) (i:=0) (L:=L.map Prod.snd) (Aj 0) (show Gr.FD (Qs (Qk s t)) (Gr.chOf (Qb1 (Qk s t) (Qg s))) [0] _ from g1.fd) hj';rw[<-g4.unique hM] at g5
    grind
   ·exact hM
   ·rw[if_pos hF0,if_pos hF0,if_neg (by omega),hs]
    congr 1
    have hV:(Qug [] M).Nodup:=QuI List.nodup_nil;have hmem: ∀k,k∈Qug [] M↔k∈M:=fun k=>by rw[QuT];simp
    have hlt: ∀k∈Qug [] M,k<(Qk s t).length:=fun k hk=>by
     rcases hM.kinds k ((hmem k).1 hk) with h|h
     ·exact QdO (by omega)
     ·exact QdO (by omega)
    unfold Qup;rw[AR,Qvz _ (Qk s t).length _ _ rfl hV hlt];refine QuN fun k _=>?_
    simp only[hmem,Function.comp]
    by_cases hk:k∈M
    ·rw[if_pos hk,if_pos hk]
     have hkd:=hM.kinds k hk
     grind [Qk,Qs]
    grind
theorem Qwv(n:Qj)(h:n.kind=1∨n.kind=2):Qu1 n=Quf n:=by grind [Qu1,Quf]
theorem Qo2{S:Nat->Prop}{w:AO}{b:Bool}{l:List Pl.Ptr}{v:AE}(h:RelD S w (.sl b 5 (l.map rPtr)) v)(hS: ∀b,S b->b<w.heap.size)(hx: ∀x∈l,Pm.PtrIn x):
 ∃A c,v= .slice A l.length c/\Pm.At w w.heap.size A l:=by
 generalize hr:l.map rPtr=rows at h;cases h with
 |slnil a cap=>
  have:l=[]:=by simp_all
  subst this;exact⟨_,_,rfl,fun h=>absurd h (by simp)⟩
 |sl _ _ _ bb o cap g hb hn hcap hc hrr=>
  subst hr;refine⟨_,_,by rw[A9],fun _=>⟨bb,o,rfl,hS bb hb,fun i x hi=>⟨Pm.ptrL x,⟨rfl,hx x (AN hi)⟩,fun j v hj=>?_⟩⟩⟩;have h1:(l.map rPtr)[i]? =some (rPtr x):=by grind
  have key: ∀(j:Nat) u,(rPtr x)[j]? =some (.v u)->w.cell? ⟨bb,o+i*5+j,none⟩=some u:=fun j u hu=>by
   have h2:=hc i j _ _ h1 hu;have h3:=hrr i j _ _ h1 hu;generalize g i j=y at*;cases h3;exact h2
  match j,hj with
  |0,hj=>obtain rfl:=A1 hj;exact key 0 _ rfl
  |1,hj=>obtain rfl:=A1 hj;exact key 1 _ rfl
  |2,hj=>obtain rfl:=A1 hj;exact key 2 _ rfl
  |3,hj=>obtain rfl:=A1 hj;exact key 3 _ rfl
  |4,hj=>obtain rfl:=A1 hj;exact key 4 _ rfl
structure AtW(B:Bs)(σ:Sg)(S:Nat->Prop)(H:List Blk)(w:AO)(s:Pm.Store)(a:AE):Prop where
 gd:Gd B
 sm:Sm B σ S H w
 st:RelD S w (.pd (rSt s)) a
theorem AtW.call{B:Bs}{σ:Sg}{S:Nat->Prop}{H:List Blk}{w wk:AO}{s:Pm.Store}{a:AE}(h:AtW B σ S H w s a)(hb:A7 w.heap.size w wk)(vs:List AE)(hp:Pure A0 f (.pd (rSt s)::args) x)(ha:args=vs.map D.ofV):
 AH A0 f (a::vs).toArray wk fun e w'=> ∃v,e= .returned v/\A7 wk.heap.size wk w'/\RelD (fun b=>b<w'.heap.size) w' x v:=by
 have hs:=h.sm.below hb;subst ha;refine(hp B σ _ H wk (a::vs) h.gd hs.1 (by simp) fun i d v hd hv=>?_).mono fun e w' ⟨v,h1,h2,h3⟩=>⟨v,h1,h2,h3.mono (fun b hb=>?_) fun _ _=>rfl⟩
 ·match i,hd,hv with
  |0,hd,hv=>
   obtain rfl:=A1 hd;obtain rfl:=A1 hv;exact h.st.mono (fun b hb=> .inl hb) fun b hb'=>hb.block b ((h.sm.sUp b hb').1)
  |i+1,hd,hv=>
   grind [D.ofV_rel]
 ·have:=h2.size
  rcases hb with hb|hb
  ·have:=(hs.1.sUp b hb).1;omega
  omega
theorem AtW.call0{B:Bs}{σ:Sg}{S:Nat->Prop}{H:List Blk}{w wk:AO}{s:Pm.Store}{a:AE}(h:AtW B σ S H w s a)(hb:A7 w.heap.size w wk)(vs:List AE)(hp:Pure A0 f args x)(ha:args=vs.map D.ofV):
 AH A0 f vs.toArray wk fun e w'=> ∃v,e= .returned v/\A7 wk.heap.size wk w'/\RelD (fun b=>b<w'.heap.size) w' x v:=by
 have hs:=h.sm.below hb;subst ha;refine(hp B σ _ H wk vs h.gd hs.1 (by simp) fun i d v hd hv=>?_).mono fun e w' ⟨v,h1,h2,h3⟩=>⟨v,h1,h2,h3.mono (fun b hb=>?_) fun _ _=>rfl⟩
 ·grind [D.ofV_rel]
 ·have:=h2.size
  rcases hb with hb|hb
  ·have:=(hs.1.sUp b hb).1;omega
  ·exact hb.2
theorem rel_v{S:Nat->Prop}{w:AO}{x v:AE}(h:RelD S w (.v x) v):v=x:=by cases h;rfl
theorem QjY{S:Nat->Prop}{w:AO}{y:D}{v:AE}(h:RelD S w (.tup [x,y]) v): ∃a b,v= .tuple #[a,b]/\RelD S w x a/\RelD S w y b:=by
 cases h with
 |tup _ cs hl h=>
  match cs,hl with
  |[a,b],_=>exact⟨a,b,rfl,h 0 _ _ rfl rfl,h 1 _ _ rfl rfl⟩
variable{B:Bs}{σ:Sg}{S:Nat->Prop}{H:List Blk}{w wk:AO}{s:Pm.Store}{a:AE}
def nodeV(n:Qj):AE:= .agg #[.int .i64 n.kind,.int .i64 n.links,.int .i64 n.size,.int .i64 n.tree.root.pat,.int .i64 n.tree.root.birth,.int .i64 n.tree.root.size,.int .i64 n.tree.root.sum,.int .i64 n.tree.root.level,.int .i64 n.tree.depth,.int .i64 n.tree.many]
def cNodeOk(h:AtW B σ S H w s a)(hb:A7 w.heap.size w wk)(n:Qj):AH A0 63 #[nodeV n] wk fun e w'=>e= .returned (.bool (Q8 n))/\A7 wk.heap.size wk w':=
 (h.call0 hb [nodeV n] (bNodeOk n) rfl).mono fun _ _ ⟨_,h1,h2,h3⟩=>⟨by rw[h1,rel_v h3],h2⟩
theorem cLeaves(h:AtW B σ S H w s a)(hb:A7 w.heap.size w wk)(hg:QP s)(htx:0<=s.2.2.1)(t:Pl.Tree)(hin: ∀p∈(QD s t).1,Pm.PtrIn p):AH A0 64 #[a,.agg (Pm.treeL t).toArray] wk fun e w'=>
 ∃A c,e= .returned (.tuple #[.slice A (QD s t).1.length c,.bool (QD s t).2])/\A7 wk.heap.size wk w'/\Pm.At w' w'.heap.size A (QD s t).1:=
 (h.call hb [.agg (Pm.treeL t).toArray] (bLeaves s hg htx t) rfl).mono fun _ _ ⟨_,h1,h2,h3⟩=>by
   obtain⟨x,y,rfl,hx,hy⟩:=QjY h3;obtain⟨A,c,rfl,hA⟩:=Qo2 hx (fun _ hb=>hb) hin
   grind [rel_v]
theorem cRead(h:AtW B σ S H w s a)(hb:A7 w.heap.size w wk)(hg:QP s)(p:Pl.Ptr)(hp:Pl.ptrHole p=false->Pl.ptrOk p=true):AH A0 65 #[a,.agg (Pm.ptrL p).toArray] wk fun e w'=>
 e= .returned (.tuple #[.string ⟨(Qf s.1 p).1.toArray⟩,.bool (Qf s.1 p).2])/\A7 wk.heap.size wk w':=
 (h.call hb [.agg (Pm.ptrL p).toArray] (bRead s hg p hp) rfl).mono fun _ _ ⟨_,h1,h2,h3⟩=>by
   grind [QjY,rel_v]
def QjD(h:AtW B σ S H w s a)(hb:A7 w.heap.size w wk)(size:Int)(k:Nat)(h0:0<=size)(h1:size<=2048)(hk:k<=100):AH A0 67 #[.int .i64 size,.int .i64 k] wk fun e w'=>e= .returned (.int .i64 (Qa7 size k))/\A7 wk.heap.size wk w':=
 (h.call0 hb [.int .i64 size,.int .i64 k] (Qpj size k h0 h1 hk) rfl).mono fun _ _ ⟨_,h1,h2,h3⟩=>⟨by rw[h1,rel_v h3],h2⟩
theorem QjE(h:AtW B σ S H w s a)(hb:A7 w.heap.size w wk)(x:List UInt8)(n:Int)(hx:x.length<=1000000):AH A0 66 #[.string ⟨x.toArray⟩,.int .i64 n] wk fun e w'=>
 e= .returned (.tuple #[.string ⟨(Qa1 x n).1.toArray⟩,.bool (Qa1 x n).2])/\A7 wk.heap.size wk w':=
 (h.call0 hb [.string ⟨x.toArray⟩,.int .i64 n] (Qpk x n hx) rfl).mono fun _ _ ⟨_,h1,h2,h3⟩=>by
   grind [QjY,rel_v]
def QjF(x p:List UInt8)(hx:x.length<=1000000)(wk:AO):AH A0 68 #[.string ⟨x.toArray⟩,.string ⟨p.toArray⟩] wk fun e w'=>e= .returned (.bool (p.isSuffixOf x))/\A7 wk.heap.size wk w':=
 (Tryz.strings_HasSuffix ⟨x.toArray⟩ ⟨p.toArray⟩ wk (by rw[Pm.QhF];omega)).mono fun e w' h=>⟨h.1,h.2▸Ac _ _⟩
end Aw
end
section
open Go.RowKit
namespace Aw
open Pm
theorem bText(s:Pm.Store)(hg:QP s)(htx:0<=s.2.2.1)(hin: ∀t,∀p∈(QD s t).1,Pm.PtrIn p):QcB s:=by
 intro n hno hk B σ S H w cargs hB hS hl hr
 match cargs,hl with
 |[a,b],_=>
 have h0:=hr 0 _ a rfl rfl;have h1:=hr 1 _ b rfl rfl
 obtain rfl:b=nodeV n:=by
  have:=Qfk (l:=[dNode n]) (vs:=[nodeV n]) (cs:=[b]) rfl rfl (fun i d v hd hv=>hr (i+1) d v hd hv);simpa using this
 have HW:=hid (AtW.mk hB hS h0);have HL:=hid (hB.ltOf hS);clear hr h1 hB hS
 suffices h:AH A0 34 #[a,nodeV n] w fun e w'=>(∃txt,e= .returned (.tuple #[.string txt,.bool (QO s n)]))/\A7 w.heap.size w w' by
  refine h.mono ?_;rintro e w' ⟨⟨txt,rfl⟩,hb⟩;refine⟨_,rfl,hb,.tup _ _ rfl fun i d v hd hv=>?_⟩
  match i,hd,hv with
  |0,hd,hv=>obtain rfl:=A1 hd;exact .any _
  |1,hd,hv=>obtain rfl:=A1 hd;obtain rfl:=A1 hv;exact .v _
 obtain⟨ad,rfl⟩: ∃ad,a= .pointer ad:=by cases h0;exact⟨_,rfl⟩
 clear h0;have Hnn:=hid hno;have Hf:=hid (Qf3 (s:=s) hno hk);obtain⟨kd,links,size,⟨⟨p1,p2,p3,p4,p5⟩,depth,many⟩⟩:=n;simp only at hk;subst hk
 have Hok1:AC (∀wk,A7 w.heap.size w wk->AH A0 63 #[.agg #[.int .i64 1,.int .i64 links,.int .i64 size,.int .i64 p1,.int .i64 p2,.int .i64 p3,.int .i64 p4,.int .i64 p5,.int .i64 depth,.int .i64 many]] wk fun e w'=>e= .returned (.bool true)/\A7 wk.heap.size wk w'):=
  hid fun wk hb=>(cNodeOk HW.out hb ⟨1,links,size,⟨⟨p1,p2,p3,p4,p5⟩,depth,many⟩⟩).mono fun e w' h=>⟨by rw[h.1,Hnn.out],h.2⟩
 have Hlv:AC (∀wk,A7 w.heap.size w wk->AH A0 64 #[.pointer ad,.agg #[.int .i64 p1,.int .i64 p2,.int .i64 p3,.int .i64 p4,.int .i64 p5,.int .i64 depth,.int .i64 many]] wk fun e w'=>
  ∃A c,e= .returned (.tuple #[.slice A (QD s ⟨⟨p1,p2,p3,p4,p5⟩,depth,many⟩).1.length c,.bool (QD s ⟨⟨p1,p2,p3,p4,p5⟩,depth,many⟩).2])/\A7 wk.heap.size wk w'/\Pm.At w' w'.heap.size A (QD s ⟨⟨p1,p2,p3,p4,p5⟩,depth,many⟩).1):=
  hid fun wk hb=>cLeaves HW.out hb hg htx ⟨⟨p1,p2,p3,p4,p5⟩,depth,many⟩ (hin _)
 clear Hnn;unfold nodeV
 go_enter Ak,Ag
 go_wp2_with fail
 refine(Hok1.out _ (bnew _ _)).mono ?_;rintro e w1 ⟨rfl,hb1⟩
 have Hbx:AC (∀(j:Nat) v,([.int .i64 1,.int .i64 links,.int .i64 size,.int .i64 p1,.int .i64 p2,.int .i64 p3,.int .i64 p4,.int .i64 p5,.int .i64 depth,.int .i64 many]:List AE)[j]? =some v->w1.cell? ⟨w.heap.size,j,none⟩=some v):=hid fun j v hv=>by
  rw[hb1.cell (by simp)];rw[cell_of_row _ _ j _ _ _ (QdP _ _)];exact(AL ..).trans hv
 have Hb1:=hid (btr (bnew w _) hb1);have Hsz:AC (w.heap.size<w1.heap.size):=hid (by have:=hb1.size;simp at this;omega);clear hb1;have x0:=Hbx.out 0 _ rfl;have x3:=Hbx.out 3 _ rfl;have x4:=Hbx.out 4 _ rfl;have x5:=Hbx.out 5 _ rfl;have x6:=Hbx.out 6 _ rfl;have x7:=Hbx.out 7 _ rfl;have x8:=Hbx.out 8 _ rfl;have x9:=Hbx.out 9 _ rfl
 go_wp2_with fail
 refine(Hlv.out _ Hb1.out).mono ?_;rintro e w2 ⟨A,c,rfl,hb2,hA⟩;have Hb2:=hid (btr Hb1.out hb2);have HA2:=hid hA;have y2:=(hb2.cell (p:=⟨w.heap.size,2,none⟩) Hsz.out).trans (Hbx.out 2 _ rfl);have Hsz2:AC (w.heap.size<w2.heap.size):=hid (by have:=hb2.size;have:=Hsz.out;omega);clear x0 x3 x4 x5 x6 x7 x8 x9 Hbx Hsz Hb1 hA hb2 Hlv Hok1;cases ht:(QH s ⟨⟨p1,p2,p3,p4,p5⟩,depth,many⟩)
 ·have hlv:QD s ⟨⟨p1,p2,p3,p4,p5⟩,depth,many⟩=([],false):=by unfold QD;rw[ht];rfl
  have hfl:AC (QO s ⟨1,links,size,⟨⟨p1,p2,p3,p4,p5⟩,depth,many⟩⟩=false):=hid (by rw[Hf.out,ht];rfl);clear Hf;rw[hlv]
  go_wp2
  go_ret2
  exact⟨⟨⟨#[]⟩,by rw[hfl.out];rfl⟩,Hb2.out⟩
 have hl2:(QD s ⟨⟨p1,p2,p3,p4,p5⟩,depth,many⟩).2=true:=by unfold QD;rw[if_pos ht]
 rw[ht] at Hf;have Hho:=hid (Qer ht);have Hll:=hid (Qd9 ht);rw[hl2];clear hl2 ht;simp only at Hf Hll;generalize (QD s ⟨⟨p1,p2,p3,p4,p5⟩,depth,many⟩).1=ps at HA2 Hho Hll Hf⊢;obtain⟨fo,hfo⟩: ∃fo,AC (QO s ⟨1,links,size,⟨⟨p1,p2,p3,p4,p5⟩,depth,many⟩⟩=fo):=⟨_,hid rfl⟩;rw[hfo.out] at Hf
 go_wp2_with fail
 go_loopw [34] (fun iv wr=> ∃(k:Nat) (txt:List UInt8),k<=ps.length/\iv= .int .i64 k/\AC (Bld w2.heap.size txt wr)/\txt.length<=12*k/\AC ((A5 k).all (fun k=>Qaz size k ((ps.map fun p=>(Qf s.1 p).1).getD k []))=true)/\AC (A7 w2.heap.size w2 wr)) (fun iv _=>ps.length -(intOf iv).toNat)
 case atStart=>exact⟨0,[],by omega,rfl,hid (bldNew w2),by simp,hid rfl,hid (bnew _ _)⟩
 case round=>
  obtain⟨k,txt,hkl,rfl,HB,htl,HP,Hbel⟩:=hrel
  by_cases hlt:k<ps.length
  ·have hltI:(k:Int)<ps.length:=by omega
   obtain⟨bb,off,cs,rfl,hbb,hc,hv⟩:=(HA2.out.up Hbel.out).elem hlt;obtain⟨p,He⟩: ∃p,AC (p=ps[k]):=⟨ps[k],hid rfl⟩;rw[<-He.out] at hc;obtain⟨rfl,hpin⟩:=hc;have Hpk:=hid ((Hho.out p (by rw[He.out];exact AX hlt)).1)
   have Hx:AC ((ps.map fun p=>(Qf s.1 p).1).getD k []=(Qf s.1 p).1):=hid (by
    rw[A4,AI,A3 hlt,<-He.out];rfl)
   have Hrl:=hid (Qh4 s hg p);obtain⟨q1,q2,q3,q4,q5⟩:=p;have e0:=hv 0 _ rfl;have e1:=hv 1 _ rfl;have e2:=hv 2 _ rfl;have e3:=hv 3 _ rfl;have e4:=hv 4 _ rfl;simp only[Rep.size,Ah] at e0 e1 e2 e3 e4;clear hv hbb hpin He
   go_wp2_with fail
   refine(cRead HW.out (btr (btr Hb2.out Hbel.out) (bnew _ _)) hg ⟨q1,q2,q3,q4,q5⟩ (fun _=>Hpk.out)).mono ?_;rintro e w3 ⟨rfl,hb3⟩;have Hb3:=hid (btr Hbel.out (btr (bnew _ _) hb3));have HB3:=hid (HB.out.below (btr (bnew _ _) hb3));have z2:=(Hb3.out.cell (p:=⟨w.heap.size,2,none⟩) Hsz2.out).trans y2;have Hfp:=QeJ hno rfl (k:=k) (by have:=Hll.out.1;simp only;omega);simp only at Hfp;have hT:AC (Qaz size k (Qf s.1 ⟨q1,q2,q3,q4,q5⟩).1=true->(A5 (k+1)).all (fun k=>Qaz size k ((ps.map fun p=>(Qf s.1 p).1).getD k []))=true):=hid fun h=>Pl.Qdd (p:=fun k=>Qaz size k ((ps.map fun p=>(Qf s.1 p).1).getD k [])) HP.out (by rw[Hx.out];exact h)
   have hF:AC (Qaz size k (Qf s.1 ⟨q1,q2,q3,q4,q5⟩).1=false->fo=false):=hid fun h=>by
    rw[Hf.out,Ae];exact Pl.Qda (p:=fun k=>Qaz size k ((ps.map fun p=>(Qf s.1 p).1).getD k [])) hlt (by rw[Hx.out];exact h)
   clear hb3 e0 e1 e2 e3 e4 Hx HB y2;generalize (Qf s.1 ⟨q1,q2,q3,q4,q5⟩).2=rok at*;generalize (Qf s.1 ⟨q1,q2,q3,q4,q5⟩).1=x at*
   go_wp2_with fail
   refine(QjD HW.out (btr Hb2.out Hb3.out) size k (by omega) (by omega) (by have:=Hll.out;omega)).mono ?_;rintro e w4 ⟨rfl,hb4⟩;have Hb4:=hid (btr Hb3.out hb4);have HB4:=hid (HB3.out.below hb4);clear hb4 HB3 z2
   go_wp2_with fail
   refine(QjE HW.out (btr Hb2.out Hb4.out) x (Qa7 size k) (by have:=Hrl.out;omega)).mono ?_;rintro e w5 ⟨rfl,hb5⟩;have Hb5:=hid (btr Hb4.out hb5);have HB5:=hid (HB4.out.below hb5);clear hb5 HB4;have hpd:Qaz size k x=((Qa1 x (Qa7 size k)).2&& !(([0]:List UInt8).isSuffixOf x)):=rfl;rw[hpd] at hT hF
   have hfl:(Qa1 x (Qa7 size k)).2=true->(Qa1 x (Qa7 size k)).1.length<=12:=fun h=>by
    unfold Qa1 at h⊢;split at h
    ·rename_i hc
     rw[if_pos hc];simp only[A2,decide_eq_true_eq,Pl.inR] at hc;simp only[AA,AM];omega
    ·cases h
   clear hpd;generalize Qa1 x (Qa7 size k)=fl at*;obtain⟨full,fine⟩:=fl;simp only at hT hF hfl;cases fine
   ·have hff:=hid (hF.out rfl)
    clear hT hF hfl
    go_wp2
    go_ret2
    exact⟨⟨⟨#[]⟩,by rw[hfo.out,hff.out];rfl⟩,btr Hb2.out Hb5.out⟩
   ·have hfl:=hfl rfl
    go_wp2_with fail
    refine(QjF x [0] (by have:=Hrl.out;omega) _).mono ?_;rintro e w6 ⟨rfl,hb6⟩;have Hb6:=hid (btr Hb5.out hb6);have HB6:=hid (HB5.out.below hb6);clear hb6 HB5;cases hsx:(([0]:List UInt8).isSuffixOf x)
    ·have hall:=hid (hT.out (by rw[hsx];rfl))
     clear hT hF
     go_wp2_with fail
     refine(bldStr HB6.out full (by have:=Hll.out;omega)).mono ?_;rintro e w7 ⟨rfl,hB7,hb7⟩;have HB7:=hid hB7;have Hb7:=hid (Hb6.out.trans hb7);clear hB7 hb7
     go_wp2_with fail
     go_roundw
     case rel=>exact⟨k+1,txt++full,by omega,by go_num,HB7,by simp only[AA];omega,hall,Hb7⟩
     case measure=>simp only[intOf];omega
    ·have hff:=hid (hF.out (by rw[hsx];rfl))
     clear hT hF
     go_wp2
     go_ret2
     exact⟨⟨⟨#[]⟩,by rw[hfo.out,hff.out];rfl⟩,btr Hb2.out Hb6.out⟩
  ·have hk':k=ps.length:=by omega
   have hff:AC (fo=true):=hid (by rw[Hf.out,<-hk',HP.out];rfl);have hltI: ¬(k:Int)<ps.length:=by omega
   go_wp2_with fail
   refine(bldText HB.out).mono ?_;rintro e w5 ⟨rfl,hb5⟩
   go_wp2
   go_ret2
   exact⟨⟨_,by rw[hfo.out,hff.out];rfl⟩,btr Hb2.out (Hbel.out.trans hb5)⟩
theorem Qjy(s:Pm.Store)(t:Pl.Tree): ∀p∈(QD s t).1,Pm.PtrIn p:=fun p hp=>by
 cases ht:QH s t
 ·grind [QD]
 ·have h:=Pl.Qdx ((Qer ht p hp).1)
  unfold Pm.PtrIn Pm.InI;omega
def QuQ(s:Pm.Store)(hl:QbQ s)(t:Pl.Tree)(p:List UInt8)(hp:p.length<=1000000000000):
 Pure A0 13 [dSt s,dTree t,dS p] (.tup [dI (Qui s t p Quf).1,dB (Qui s t p Quf).2]):=by
 obtain⟨L,hL,hs⟩:=Qwl s t p Qu1 Quf Qwv;rw[<-hs]
 have hg:Qaa s=true->QP s/\0<=s.2.2.1:=fun h=>⟨QdW h,by
  unfold Qaa at h;simp only[A2,Pl.inR,decide_eq_true_eq] at h
  omega⟩
 refine Qvo s t p _ (bSum s t p hp (Qk2 s hl.b1 hl.b2 hl.b3 hl.b4) hg (fun h=>bText s (hg h).1 (hg h).2 (Qjy s)) _ Qu1 Tryz.call37 (fun n=>bBytes1 n) (fun n hn=>?_) L hL);have h1:=hn.size;unfold Qu1;split<;>omega
def QaJ(size:Int)(x:List (List UInt8))(n:Nat):List UInt8:=(A5 n).flatMap fun k=>(Qa1 (x.getD k []) (Qa7 size k)).1
theorem Qfr(size:Int)(x:List (List UInt8))(n:Nat):QaJ size x (n+1)=QaJ size x n++(Qa1 (x.getD n []) (Qa7 size n)).1:=by grind [QaJ,AZ]
def Qad(s:Pm.Store)(n:Qj):List UInt8:=if QO s n=true then QaJ n.size ((QD s n.tree).1.map fun p=>(Qf s.1 p).1) (QD s n.tree).1.length else []
theorem bTextS(s:Pm.Store)(hg:QP s)(htx:0<=s.2.2.1)(hin: ∀t,∀p∈(QD s t).1,Pm.PtrIn p)(n:Qj)(hno:Q8 n=true)(hk:n.kind=1):
 Pure A0 34 [.pd (rSt s),dNode n] (.tup [dS (Qad s n),dB (QO s n)]):=by
 intro B σ S H w cargs hB hS hl hr
 match cargs,hl with
 |[a,b],_=>
 have h0:=hr 0 _ a rfl rfl;have h1:=hr 1 _ b rfl rfl
 obtain rfl:b=nodeV n:=by
  have:=Qfk (l:=[dNode n]) (vs:=[nodeV n]) (cs:=[b]) rfl rfl (fun i d v hd hv=>hr (i+1) d v hd hv);simpa using this
 have HW:=hid (AtW.mk hB hS h0);have HL:=hid (hB.ltOf hS);clear hr h1 hB hS
 suffices h:AH A0 34 #[a,nodeV n] w fun e w'=>e= .returned (.tuple #[.string ⟨(Qad s n).toArray⟩,.bool (QO s n)])/\A7 w.heap.size w w' by
  refine h.mono ?_;rintro e w' ⟨rfl,hb⟩;refine⟨_,rfl,hb,.tup _ _ rfl fun i d v hd hv=>?_⟩
  match i,hd,hv with
  |0,hd,hv=>obtain rfl:=A1 hd;obtain rfl:=A1 hv;exact .v _
  |1,hd,hv=>obtain rfl:=A1 hd;obtain rfl:=A1 hv;exact .v _
 obtain⟨ad,rfl⟩: ∃ad,a= .pointer ad:=by cases h0;exact⟨_,rfl⟩
 clear h0;have Hnn:=hid hno;have Hf:=hid (Qf3 (s:=s) hno hk);have Hft:=hid (Qad.eq_def s n);obtain⟨kd,links,size,⟨⟨p1,p2,p3,p4,p5⟩,depth,many⟩⟩:=n;simp only at hk Hft;subst hk
 have Hok1:AC (∀wk,A7 w.heap.size w wk->AH A0 63 #[.agg #[.int .i64 1,.int .i64 links,.int .i64 size,.int .i64 p1,.int .i64 p2,.int .i64 p3,.int .i64 p4,.int .i64 p5,.int .i64 depth,.int .i64 many]] wk fun e w'=>e= .returned (.bool true)/\A7 wk.heap.size wk w'):=
  hid fun wk hb=>(cNodeOk HW.out hb ⟨1,links,size,⟨⟨p1,p2,p3,p4,p5⟩,depth,many⟩⟩).mono fun e w' h=>⟨by rw[h.1,Hnn.out],h.2⟩
 have Hlv:AC (∀wk,A7 w.heap.size w wk->AH A0 64 #[.pointer ad,.agg #[.int .i64 p1,.int .i64 p2,.int .i64 p3,.int .i64 p4,.int .i64 p5,.int .i64 depth,.int .i64 many]] wk fun e w'=>
  ∃A c,e= .returned (.tuple #[.slice A (QD s ⟨⟨p1,p2,p3,p4,p5⟩,depth,many⟩).1.length c,.bool (QD s ⟨⟨p1,p2,p3,p4,p5⟩,depth,many⟩).2])/\A7 wk.heap.size wk w'/\Pm.At w' w'.heap.size A (QD s ⟨⟨p1,p2,p3,p4,p5⟩,depth,many⟩).1):=
  hid fun wk hb=>cLeaves HW.out hb hg htx ⟨⟨p1,p2,p3,p4,p5⟩,depth,many⟩ (hin _)
 clear Hnn;unfold nodeV
 go_enter Ak,Ag
 go_wp2_with fail
 refine(Hok1.out _ (bnew _ _)).mono ?_;rintro e w1 ⟨rfl,hb1⟩
 have Hbx:AC (∀(j:Nat) v,([.int .i64 1,.int .i64 links,.int .i64 size,.int .i64 p1,.int .i64 p2,.int .i64 p3,.int .i64 p4,.int .i64 p5,.int .i64 depth,.int .i64 many]:List AE)[j]? =some v->w1.cell? ⟨w.heap.size,j,none⟩=some v):=hid fun j v hv=>by
  rw[hb1.cell (by simp)];rw[cell_of_row _ _ j _ _ _ (QdP _ _)];exact(AL ..).trans hv
 have Hb1:=hid (btr (bnew w _) hb1);have Hsz:AC (w.heap.size<w1.heap.size):=hid (by have:=hb1.size;simp at this;omega);clear hb1;have x0:=Hbx.out 0 _ rfl;have x3:=Hbx.out 3 _ rfl;have x4:=Hbx.out 4 _ rfl;have x5:=Hbx.out 5 _ rfl;have x6:=Hbx.out 6 _ rfl;have x7:=Hbx.out 7 _ rfl;have x8:=Hbx.out 8 _ rfl;have x9:=Hbx.out 9 _ rfl
 go_wp2_with fail
 refine(Hlv.out _ Hb1.out).mono ?_;rintro e w2 ⟨A,c,rfl,hb2,hA⟩;have Hb2:=hid (btr Hb1.out hb2);have HA2:=hid hA;have y2:=(hb2.cell (p:=⟨w.heap.size,2,none⟩) Hsz.out).trans (Hbx.out 2 _ rfl);have Hsz2:AC (w.heap.size<w2.heap.size):=hid (by have:=hb2.size;have:=Hsz.out;omega);clear x0 x3 x4 x5 x6 x7 x8 x9 Hbx Hsz Hb1 hA hb2 Hlv Hok1;cases ht:(QH s ⟨⟨p1,p2,p3,p4,p5⟩,depth,many⟩)
 ·have hlv:QD s ⟨⟨p1,p2,p3,p4,p5⟩,depth,many⟩=([],false):=by unfold QD;rw[ht];rfl
  have hfl:AC (QO s ⟨1,links,size,⟨⟨p1,p2,p3,p4,p5⟩,depth,many⟩⟩=false):=hid (by rw[Hf.out,ht];rfl);clear Hf;rw[hlv]
  go_wp2
  go_ret2
  exact⟨by rw[Hft.out,hfl.out];rfl,Hb2.out⟩
 have hl2:(QD s ⟨⟨p1,p2,p3,p4,p5⟩,depth,many⟩).2=true:=by unfold QD;rw[if_pos ht]
 rw[ht] at Hf;have Hho:=hid (Qer ht);have Hll:=hid (Qd9 ht);rw[hl2];clear hl2 ht;simp only at Hf Hll;generalize (QD s ⟨⟨p1,p2,p3,p4,p5⟩,depth,many⟩).1=ps at HA2 Hho Hll Hf Hft⊢;obtain⟨fo,hfo⟩: ∃fo,AC (QO s ⟨1,links,size,⟨⟨p1,p2,p3,p4,p5⟩,depth,many⟩⟩=fo):=⟨_,hid rfl⟩;rw[hfo.out] at Hf Hft
 go_wp2_with fail
 go_loopw [34] (fun iv wr=> ∃(k:Nat) (txt:List UInt8),k<=ps.length/\iv= .int .i64 k/\AC (Bld w2.heap.size txt wr)/\txt.length<=12*k/\AC (txt=QaJ size (ps.map fun p=>(Qf s.1 p).1) k)/\AC ((A5 k).all (fun k=>Qaz size k ((ps.map fun p=>(Qf s.1 p).1).getD k []))=true)/\AC (A7 w2.heap.size w2 wr)) (fun iv _=>ps.length -(intOf iv).toNat)
 case atStart=>exact⟨0,[],by omega,rfl,hid (bldNew w2),by simp,hid rfl,hid rfl,hid (bnew _ _)⟩
 case round=>
  obtain⟨k,txt,hkl,rfl,HB,htl,HX,HP,Hbel⟩:=hrel
  by_cases hlt:k<ps.length
  ·have hltI:(k:Int)<ps.length:=by omega
   obtain⟨bb,off,cs,rfl,hbb,hc,hv⟩:=(HA2.out.up Hbel.out).elem hlt;obtain⟨p,He⟩: ∃p,AC (p=ps[k]):=⟨ps[k],hid rfl⟩;rw[<-He.out] at hc;obtain⟨rfl,hpin⟩:=hc;have Hpk:=hid ((Hho.out p (by rw[He.out];exact AX hlt)).1)
   have Hx:AC ((ps.map fun p=>(Qf s.1 p).1).getD k []=(Qf s.1 p).1):=hid (by
    rw[A4,AI,A3 hlt,<-He.out];rfl)
   have Hrl:=hid (Qh4 s hg p);obtain⟨q1,q2,q3,q4,q5⟩:=p;have e0:=hv 0 _ rfl;have e1:=hv 1 _ rfl;have e2:=hv 2 _ rfl;have e3:=hv 3 _ rfl;have e4:=hv 4 _ rfl;simp only[Rep.size,Ah] at e0 e1 e2 e3 e4;clear hv hbb hpin He
   go_wp2_with fail
   refine(cRead HW.out (btr (btr Hb2.out Hbel.out) (bnew _ _)) hg ⟨q1,q2,q3,q4,q5⟩ (fun _=>Hpk.out)).mono ?_;rintro e w3 ⟨rfl,hb3⟩;have Hb3:=hid (btr Hbel.out (btr (bnew _ _) hb3));have HB3:=hid (HB.out.below (btr (bnew _ _) hb3));have z2:=(Hb3.out.cell (p:=⟨w.heap.size,2,none⟩) Hsz2.out).trans y2;have Hfp:=QeJ hno rfl (k:=k) (by have:=Hll.out.1;simp only;omega);simp only at Hfp;have hT:AC (Qaz size k (Qf s.1 ⟨q1,q2,q3,q4,q5⟩).1=true->(A5 (k+1)).all (fun k=>Qaz size k ((ps.map fun p=>(Qf s.1 p).1).getD k []))=true):=hid fun h=>Pl.Qdd (p:=fun k=>Qaz size k ((ps.map fun p=>(Qf s.1 p).1).getD k [])) HP.out (by rw[Hx.out];exact h)
   have hF:AC (Qaz size k (Qf s.1 ⟨q1,q2,q3,q4,q5⟩).1=false->fo=false):=hid fun h=>by
    rw[Hf.out,Ae];exact Pl.Qda (p:=fun k=>Qaz size k ((ps.map fun p=>(Qf s.1 p).1).getD k [])) hlt (by rw[Hx.out];exact h)
   have hX:AC (QaJ size (ps.map fun p=>(Qf s.1 p).1) (k+1)=txt++(Qa1 (Qf s.1 ⟨q1,q2,q3,q4,q5⟩).1 (Qa7 size k)).1):=hid (by rw[Qfr,Hx.out,HX.out]);clear hb3 e0 e1 e2 e3 e4 Hx HB y2 HX;generalize (Qf s.1 ⟨q1,q2,q3,q4,q5⟩).2=rok at*;generalize (Qf s.1 ⟨q1,q2,q3,q4,q5⟩).1=x at*
   go_wp2_with fail
   refine(QjD HW.out (btr Hb2.out Hb3.out) size k (by omega) (by omega) (by have:=Hll.out;omega)).mono ?_;rintro e w4 ⟨rfl,hb4⟩;have Hb4:=hid (btr Hb3.out hb4);have HB4:=hid (HB3.out.below hb4);clear hb4 HB3 z2
   go_wp2_with fail
   refine(QjE HW.out (btr Hb2.out Hb4.out) x (Qa7 size k) (by have:=Hrl.out;omega)).mono ?_;rintro e w5 ⟨rfl,hb5⟩;have Hb5:=hid (btr Hb4.out hb5);have HB5:=hid (HB4.out.below hb5);clear hb5 HB4;have hpd:Qaz size k x=((Qa1 x (Qa7 size k)).2&& !(([0]:List UInt8).isSuffixOf x)):=rfl;rw[hpd] at hT hF
   have hfl:(Qa1 x (Qa7 size k)).2=true->(Qa1 x (Qa7 size k)).1.length<=12:=fun h=>by
    unfold Qa1 at h⊢;split at h
    ·rename_i hc
     rw[if_pos hc];simp only[A2,decide_eq_true_eq,Pl.inR] at hc;simp only[AA,AM];omega
    ·cases h
   clear hpd;generalize Qa1 x (Qa7 size k)=fl at*;obtain⟨full,fine⟩:=fl;simp only at hT hF hfl hX;cases fine
   ·have hff:=hid (hF.out rfl)
    clear hT hF hfl
    go_wp2
    go_ret2
    exact⟨by rw[hfo.out,Hft.out,hff.out];rfl,btr Hb2.out Hb5.out⟩
   ·have hfl:=hfl rfl
    go_wp2_with fail
    refine(QjF x [0] (by have:=Hrl.out;omega) _).mono ?_;rintro e w6 ⟨rfl,hb6⟩;have Hb6:=hid (btr Hb5.out hb6);have HB6:=hid (HB5.out.below hb6);clear hb6 HB5;cases hsx:(([0]:List UInt8).isSuffixOf x)
    ·have hall:=hid (hT.out (by rw[hsx];rfl))
     clear hT hF
     go_wp2_with fail
     refine(bldStr HB6.out full (by have:=Hll.out;omega)).mono ?_;rintro e w7 ⟨rfl,hB7,hb7⟩;have HB7:=hid hB7;have Hb7:=hid (Hb6.out.trans hb7);clear hB7 hb7
     go_wp2_with fail
     go_roundw
     case rel=>exact⟨k+1,txt++full,by omega,by go_num,HB7,by simp only[AA];omega,hid hX.out.symm,hall,Hb7⟩
     case measure=>simp only[intOf];omega
    ·have hff:=hid (hF.out (by rw[hsx];rfl))
     clear hT hF
     go_wp2
     go_ret2
     exact⟨by rw[hfo.out,Hft.out,hff.out];rfl,btr Hb2.out Hb6.out⟩
  ·have hk':k=ps.length:=by omega
   have hff:AC (fo=true):=hid (by rw[Hf.out,<-hk',HP.out];rfl);have hltI: ¬(k:Int)<ps.length:=by omega
   go_wp2_with fail
   refine(bldText HB.out).mono ?_;rintro e w5 ⟨rfl,hb5⟩
   go_wp2
   go_ret2
   exact⟨by rw[hfo.out,Hft.out,hff.out,HX.out,hk'];rfl,btr Hb2.out (Hbel.out.trans hb5)⟩
theorem Pure.imp{P:Program}{f:FuncId}{l:List D}{x y:D}(h:Pure P f l x)(hxy: ∀(S:Nat->Prop) (w:AO) (v:AE),RelD S w x v->RelD S w y v):Pure P f l y:=by
 intro B σ S H w cargs hB hS hl hr;refine(h B σ S H w cargs hB hS hl hr).mono ?_
 grind
def bTextA(s:Pm.Store)(hg:QP s)(htx:0<=s.2.2.1)(n:Qj)(hn:Q8 n=true):Pure A0 34 [.pd (rSt s),dNode n] (.tup [dS (Qad s n),dB (QO s n)]):=by
 by_cases hk:n.kind=1
 ·exact bTextS s hg htx (Qjy s) n hn hk
 have hfo:QO s n=false:=by
  unfold QO;have:(n.kind==1)=false:=by simpa using hk
  rw[this];simp
 have hft:Qad s n=[]:=by unfold Qad;rw[hfo];rfl
 rw[hfo,hft];have c:=bNodeOk n;rw[hn] at c;obtain⟨kd,links,size,⟨⟨p1,p2,p3,p4,p5⟩,depth,many⟩⟩:=n;simp only at hk c⊢;have hd:decide (kd≠1)=true:=decide_eq_true hk;refine kE ?_;refine Qa 0 (h:=?_)
 repeat' first|refine kA ?_|refine kV ?_ ?_<;>intro q|fail
 all_goals first|exact Qb (hx:=rfl)|exfalso;simp at*;done|exfalso;simp at*;omega
end Aw
end
section
open Go.RowKit
namespace Aw
variable{w:AO}{t:Pl.Tree}{k:Nat}{x:List (List UInt8)}
attribute [local irreducible] ASeq ADraw AWP Loc mget mset AStep Fg.PlanF Fg.Flts
theorem below_grow(w:AO)(n:Nat)(os:Array Obj):A7 w.heap.size w (Go.Sort.grow (AP w n) os):=
 ⟨rfl,rfl,rfl,by simp_all,fun k hk=>by
   show(w.heap++os)[k]? =w.heap[k]?
   grind⟩
theorem Qnh{α β:Type}{l:List α}{cs:List β}(h:l.length=cs.length)(h2:l.length=2): ∃a b,cs=[a,b]:=by
 match cs,h.symm.trans h2 with
 |[a,b],_=>grind
theorem Qph(L:List Gr.It)(g:Nat)(hl:L.length<=1000000)(ha:L.Pairwise fun a b=>Ai (QC a.1) (QC b.1)=true):
 Does A0 135 [.osl 0 g 0 L.length,.fn (.func 136) []] [.arr g 2 43 (L.map rIt)] [.osl 0 g 0 L.length] (.d (.tup [])) [.arr g 2 43 (L.map rIt)]:=by
 refine Qpa (fun i C hC=>?_) fun B σ S w cargs hB hS hl' hr=>?_
 ·match i,hC with
  |0,hC=>obtain rfl:=A1 hC;exact⟨rfl,rfl,.inr ⟨rfl,rfl,0,L.length,by simp⟩⟩
 obtain⟨v0,v1,rfl⟩:=Qnh hl' rfl;have h0:=hr 0 _ v0 rfl rfl;have h1:=hr 1 _ v1 rfl rfl
 obtain rfl:v1= .func (.func 136) #[] #[]:=by
  cases h1 with
  |fn _ _ cs hl h=>
   have:cs=[]:=AB.1 hl.symm;subst this;rfl
 suffices h:AH A0 135 #[v0,.func (.func 136) #[] #[]] w fun e w'=>e= .returned (.tuple #[])/\A7 w.heap.size w w' from
  h.mono fun e w' ⟨h1,h2⟩=>⟨_,h1,h2,.tup [] [] rfl fun i d x hd=>by simp at hd⟩
 cases h0 with
 |osl _ _ _ _ _ ho g' sz T rows hk hg h=>
  simp only[List.getElem?_cons_zero,Al,Blk.arr.injEq] at hk;obtain⟨rfl,rfl,rfl,rfl⟩:=hk;obtain⟨_,⟨b,cap,cs,T',hb,hcap,hmax,rfl,hcs,hsz⟩|⟨_,hn,rfl⟩⟩:=h rfl
  ·have hblk:=(hS.σUp 0 b (by simp) hb).1
   obtain⟨_,⟨b',cs',hb',hcs',hc⟩|⟨hno,_⟩⟩:=hS.blk 0 _ rfl;rotate_left
   ·rw[hb] at hno;cases hno
   rw[hb] at hb';obtain rfl:=A1 hb';rw[hcs] at hcs'
   obtain⟨rfl,rfl⟩:cs=cs'/\T'=43:=by
    have:=A1 hcs';injection this with e1 e2;exact⟨e1,e2⟩
   have hH:Go.Sort.HoldsK Qcd 2 w b (0*2) L.toArray:=by
    intro j hj;rw[Go.Sort.size_flatK] at hj;have hsz2:L.toArray.size=L.length:=rfl;have hi:j/2<L.length:=by omega
    rw[Go.Sort.get_flatK _ _ _ _ hj,getElem!_pos L.toArray (j/2) hi];have hx:(L.map rIt)[j/2]? =some (rIt (L[j/2])):=by rw[AI,A3 hi];rfl
    refine⟨?_,frozen_of_row w b _ cs _ hcs⟩;rw[cell_of_row w b _ cs _ (0,0) hcs];have hdm:0*2+j=j/2*2+j%2:=by omega
    rw[hdm];show _=some ((Qcd L[j/2])[j%2]!);rcases(show j%2=0∨j%2=1 by omega) with e|e
    ·rw[e]
     obtain⟨v,h1,h2⟩:=hc _ 0 _ _ hx rfl;cases h2;exact h1
    ·rw[e]
     obtain⟨v,h1,h2⟩:=hc _ 1 _ _ hx rfl;cases h2;exact h1
   refine(AnyQ.slices_SortFunc Tryz.laysSortFunc_Found 2 Tryz.isAgg43 Tryz.sizeOf43 Qcd (fun _=>rfl) (fun x v hv=>by simp[Qcd] at hv;rcases hv with rfl|rfl<;>rfl) Qc0 swoIt 136 #[] b (0*2) cap L.toArray w
    Tryz.call136 (fun _ _ _ _ x y=>bSort1 x y _) hH hblk (by simp;omega)).mono ?_
   rintro e w' ⟨rfl,d',n,os,hp,hs,rfl⟩;obtain rfl:=Qmh swoIt (ha.imp fun{a b} h=>by rw[ltIt];exact h) hp hs;refine⟨rfl,?_⟩;have:Go.Sort.putRowK Qcd 2 (AP w n) b (0*2) L.toArray=AP w n:=Go.Sort.putRow_self id _ b _ _ hH;unfold sortWorldK;rw[this];exact below_grow w n os
  ·have:L=[]:=AB.1 hn
   subst this;exact(AG Tryz.laysSortFunc_Found none 0 _ w).mono fun e w' ⟨h1,h2⟩=>⟨h1,h2▸Ac _ _⟩
def QmY:PureF A0 138 [.d (.v (.slice none 0 0)),.fn (.func 139) []] (.tup []):=by
 intro B S w cargs hB hS hl hr;obtain⟨v0,v1,rfl⟩:=Qnh hl rfl
 obtain rfl:v0= .slice none 0 0:=by
  have h0:=hr 0 _ v0 rfl rfl;cases h0 with|d _ _ h=>cases h;rfl
 exact(AG Tryz.laysSortFunc_Thing none 0 v1 w).mono fun e w' ⟨h1,h2⟩=>⟨_,h1,h2▸Ac _ _,.tup [] [] rfl fun i d x hd=>by simp at hd⟩
def bSort(L:List Gr.It)(hl:L.length<=1000000)(ha:L.Pairwise fun a b=>Ai (QC a.1) (QC b.1)=true):Does A0 79 [.ptr 0 0 0] (Qcv L) (Qcu L) (.tup []) (Qcv L):=by
 have c1:=Qph L L.length hl ha;have c2:=QmY;refine kL ?hpin fun gvs=>?_
 case hpin=>have:=Qrh L [];rw[Aa] at this;exact this
 simp only[parA,gslot,Af,Nat.reduceAdd,Qcv,Qcu];refine QgY ?_
 repeat' first|refine kS ?_|refine(Qha [1] c1 cK (hgl:=fun g hg=>?_) (k:=?_))|refine qS (Qeq cK c2 rfl rfl) ?_|refine kU ?_|fail
 all_goals first
  |(obtain rfl:=List.mem_singleton.1 hg
    simp[AV.parts,AV.ren,rho,go_sem];done)
  |exact Qg5 2 .normal (.inl rfl) rfl rfl rfl rfl rfl rfl rfl
abbrev Qb7:=Nat×Bool×List UInt8
abbrev rTh(x:Qb7):List D:=[dI (x.1:Nat),dB x.2.1,dS x.2.2]
def QbL(s:Pm.Store)(x:List (List UInt8))(k:Nat):List Qb7:=if Qs (Qu x) k=0 then [] else [(k,((Qu x).getD k Qd).kind==2,Qad s ((Qu x).getD k Qd))]
def QaN(s:Pm.Store)(x:List (List UInt8))(n:Nat):List Qb7:=(A5 n).flatMap (QbL s x)
theorem QhI(s:Pm.Store)(x:List (List UInt8))(n:Nat):QaN s x (n+1)=QaN s x n++QbL s x n:=by grind [QaN,AZ]
theorem Qme(s:Pm.Store)(x:List (List UInt8)): ∀n,(QaN s x n).length<=n
 :=by intro l;induction l<;>grind [QaN,QhI,QbL]
def bFlat(s:Pm.Store)(hg:QP s)(htx:0<=s.2.2.1)(t:Pl.Tree)(x:List (List UInt8))(hx:Qc3 x)(hx16:x.length<=16)(hno: ∀k,Qs (Qu x) k≠0->Q8 ((Qu x).getD k Qd)=true)(m:List (Int×D))(hm:Qcq m (QaH s x))(L:List Gr.It)(hL:Qck s x [([],0)] L)(hl:L.length<=144):
 Pure A0 41 [.pd (rFiles s t x m)] (.agg [.sl true 2 (L.map rIt),.sl true 3 ((QaN s x x.length).map rTh)]):=by
 have dw:=bWalkF s t x m hm L.length L 0 [] [] (Nat.le_refl _) hL (by simp;omega) (fun a ha=>by simp at ha) (by simp;omega);rw[show Qca []= .v (.slice none 0 0) by unfold Qca;rw[if_pos rfl],List.nil_append] at dw;have ds:=bSort L (by omega) (QqU hL).2;have hgl:=fg_mem0;have hkz:=Qi1 hx;have hT:AC (∀k,k<x.length->Qs (Qu x) k≠0->Pure A0 34 [.pd (rSt s),dNode ((Qu x).getD k Qd)] (.tup [dS (Qad s ((Qu x).getD k Qd)),dB (QO s ((Qu x).getD k Qd))])):=Pm.hid fun k _ hk=>bTextA s hg htx _ (hno k hk)
 clear hL;simp only[Qcv,Qcu] at dw ds hgl;refine kC ?_
 repeat' first|refine kS ?_|refine(Qk9 1 0 2 43 (h:=?_))|refine qS (Qex rfl) ?_|refine(Qha [1,2] dw cK (hgl:=fun g hg=>hgl _ _ g hg (by simp[AV.parts,go_sem]) (by simp[Blk.parts,AV.parts]) _) (k:=?_))|refine(Qha [1,2] ds cK (hgl:=fun g hg=>by simp only[Ad,AW,or_false] at hg;rcases hg with rfl|rfl<;>simp[AV.parts,Blk.parts,AV.ren,rho,go_sem]) (k:=?_))|refine qS (Qdi rfl) ?_|refine kU ?_|fail
 refine Qk9 1 1 3 68 (h:=?_)
 refine Qo (fun mm st=> ∃k:Nat,k<=x.length/\mm=x.length -k/\
  st=⟨50,[(15,.d (tNds x)),(16,.d (dI x.length)),(17,.d (dI k)),(0,.d (.pd (rFiles s t x m))),(3,.ptr 1 0 0),(2,.ptr 0 0 0)],
   [.row 0 [.d (.v (.slice none 0 0)),.d (.v (.slice none 0 0))],.row 0 [.osl 2 L.length 0 L.length,.osl 3 (QaN s x k).length 0 (QaN s x k).length],.arr L.length 2 43 (L.map rIt),.arr (QaN s x k).length 3 68 ((QaN s x k).map rTh)]⟩) [15,16,17,0,3,2] 4 x.length ⟨0,by omega,rfl,by simp[keepE,go_sem,QaN]⟩ (round:=?_)
 rintro mm st ⟨k,hk,rfl,rfl⟩;have htl:=Qme s x k
 repeat refine kG ?_
 cases q3:decide ((k:Int)<(x.length:Int))
 ·have:k=x.length:=by simp at q3;omega
  rw[<-this]
  repeat refine kA ?_
  refine Qa 2 (h:=?_);refine Qa 3 (h:=?_);refine Qa 0 (h:=?_);refine QR (hx:=?_);simp[List.take_of_length_le]
 have hk2:k<x.length:=by simp at q3;omega
 obtain⟨y,hy⟩: ∃y,x[k]? =some y:=⟨_,A3 hk2⟩;have hyd:x.getD k []=y:=by rw[A4,hy];rfl
 have hr:=Qt (f:=fun x=>[QaR x]) hy;have hst:=Pm.hid (QhI s x k);have hz:=hkz k;rw[hyd] at hz
 by_cases hyn:y=[]
 ·have hnd:QaR y= .v (.pointer none):=by unfold QaR;rw[if_pos hyn]
  simp only[hnd] at hr;have htg:QaN s x (k+1)=QaN s x k:=by rw[hst.out];unfold QbL;rw[if_pos (hz.2 hyn),Aa]
  clear hz hyd hT hkz
  repeat' first|refine kS ?_|refine qS (iy hr) ?_|refine qS (Qgu AT rfl) ?_|refine kU ?_|fail
  all_goals first
   |(exfalso;simp at*;done)
   |(refine Qh (x.length -(k+1)) (by omega) ⟨k+1,by omega,rfl,?_⟩
     rw[htg]
     simp[keepE,go_sem];done)
 ·have hnd:QaR y= .pd (rNode (Qp y).1):=by unfold QaR;rw[if_neg hyn]
  simp only[hnd] at hr;have hnx:=Qfc (x:=x) k;rw[hyd] at hnx
  have htg:QaN s x (k+1)=QaN s x k++[(k,(Qp y).1.kind==2,Qad s (Qp y).1)]:=by
   rw[hst.out];unfold QbL;rw[if_neg (fun h=>hyn (hz.1 h)),hnx]
  have c:=hT.out k hk2 (fun h=>hyn (hz.1 h));rw[hnx] at c;clear hz hyd hT hkz hst hnx hy hnd;generalize hth2:QaN s x (k+1)=th2 at*;generalize QaN s x k=th at*;generalize (Qp y).1=N at*;generalize Qad s N=tx at*;generalize QO s N=fo at*
  repeat' first|refine kS ?_|refine qS (iy hr) ?_|refine qS (QeN AT rfl) ?_|refine qD (Qdi rfl) ?_|(show AWP _ (.region 9 _ _) _ _;refine(Fg.awp_drawF (id:=9) [] [11,13] ?_))|refine Qoe Ty.h rfl Ty.h (hb:=?_) (kk:=?_)|refine kU ?_|fail
  all_goals first
   |(exfalso;simp at*;done)
   |(show((th.map rTh).length+1)*40<=140737488355328
     rw[A9];omega)
   |(show((th.map rTh).length+1)*32<=140737488355328
     rw[A9];omega)
   |(refine Qh (x.length -(k+1)) (by omega) ⟨k+1,by omega,rfl,?_⟩
     rw[hth2,htg]
     simp[keepE,go_sem];done)
theorem RelD.nil{S:Nat->Prop}{v:AE}(h:RelD S w (.v (.slice none 0 0)) v)(n:Nat):RelD S w (.sl true n []) v:=by cases h;exact .slnil _ _ _ _
abbrev dFlat(F:List Gr.It×List Qb7):D:= .agg [.sl true 2 (F.1.map rIt),.sl true 3 (F.2.map rTh)]
theorem RelD.nilFlat{S:Nat->Prop}{v:AE}(h:RelD S w (.agg [.v (.slice none 0 0),.v (.slice none 0 0)]) v):RelD S w (dFlat ([],[])) v:=by
 cases h with
 |agg _ cs hl hr=>
  match cs,hl with
  |[a,b],_=>
   refine .agg _ _ rfl fun i d x hd hx=>?_
   grind [nil]
theorem RelD.nilFlat2{S:Nat->Prop}{v:AE}{b:Bool}(h:RelD S w (.tup [.agg [.v (.slice none 0 0),.v (.slice none 0 0)],dB b]) v):RelD S w (.tup [dFlat ([],[]),dB b]) v:=by
 cases h with
 |tup _ cs hl hr=>
  refine .tup _ cs hl fun i d x hd hx=>?_
  grind [nilFlat]
def Qez{s:Pm.Store}(h:Qae s t=true): ∃L,Qck s (Qc s t) [([],0)] L/\L.length<=144/\(QaI s t).1=L.map Qbo:=by
 have hF:=(QeI s t).1 h;unfold Qae at h;simp only[A2,beq_iff_eq] at h;obtain⟨L,g1,g2,g3⟩:=QgM s hF.root h.1.2;exact⟨L,g1,g2,by rw[g3]⟩
def Qbf(s:Pm.Store)(t:Pl.Tree):List Gr.It×List Qb7:=((QaI s t).1.map fun x=>(x.1,x.2.toNat),QaN s (Qc s t) (Qc s t).length)
theorem QdU{s:Pm.Store}{L:List Gr.It}(h:(QaI s t).1=L.map Qbo):Qbf s t=(L,QaN s (Qc s t) (Qc s t).length):=by
 unfold Qbf;rw[h,AR]
 congr 1
 conv=>rhs;rw[<-List.map_id L]
 grind [List.map_congr_left,Qbo]
def bFlatOf(s:Pm.Store)(hl:QbQ s)(t:Pl.Tree):
 Pure A0 15 [dSt s,dTree t] (if Qaa s&&Qae s t then .tup [dFlat (Qbf s t),dB true] else .tup [dFlat ([],[]),dB false]):=by
 have hg:Qaa s=true->QP s/\0<=s.2.2.1:=fun h=>⟨QdW h,Qe6 h⟩
 have hTx:Qaa s=true->QcB s:=fun h n hn _=>(bTextA s (hg h).1 (hg h).2 n hn).imp fun S w v hv=>by
  cases hv with
  |tup _ cs hl hr=>
   refine .tup _ cs hl fun i d x hd hx=>?_
   match i,hd with
   |0,hd=>obtain rfl:=A1 hd;exact .any _
   |1,hd=>obtain rfl:=A1 hd;exact hr 1 _ x rfl hx
 have c1:=Qob s t (Qk2 s hl.b1 hl.b2 hl.b3 hl.b4) hg hTx;have hlk:=QhD s t
 by_cases hok:(Qaa s&&Qae s t)=true
 rotate_left
 ·rw[if_neg hok]
  obtain⟨a,ha⟩: ∃a,Qc4 s t= .tup [a,dB false]:=by
   unfold Qc4 QbT;split
   ·split
    ·rename_i h1 h2
     rw[h1,<-hlk,h2] at hok;exact⟨_,by rw[show Qcp s (Qc s t)=false by simpa using hok]⟩
    ·exact⟨_,rfl⟩
   ·exact⟨_,rfl⟩
  rw[ha] at c1;refine Pure.imp (x:= .tup [.agg [.v (.slice none 0 0),.v (.slice none 0 0)],dB false]) ?_ fun _ _ _=>RelD.nilFlat2
  refine kD ?_;refine Qa 0 (h:=?_);refine Qa 1 (h:=?_)
  repeat refine kA ?_
  (refine Qa 2 (h:=?_);refine QR (hx:=?_))
  rfl
 ·rw[if_pos hok]
  rw[A2] at hok;obtain⟨h1,h2⟩:=hok;have hF:=(QeI s t).1 h2;obtain⟨L,hL,hll,hfd⟩:=Qez h2;rw[QdU hfd];rw[h2,A2] at hlk
  have hin:Qc4 s t= .tup [.pd (rFiles s t (Qc s t) (QaK s (Qc s t) (Qc s t).length)),dB true]:=by
   unfold Qc4 QbT;rw[if_pos h1,if_pos hlk.1,hlk.2]
  rw[hin] at c1;obtain⟨htx,hx16,hno⟩:=Qg8 hF.tab;have c2:=bFlat s (hg h1).1 (hg h1).2 t (Qc s t) htx hx16 hno _ (QmT s (Qc s t)) L hL hll;clear hin h1 h2 hF hL hll hfd hlk htx hx16 hno hg;generalize QaN s (Qc s t) (Qc s t).length=th at*;generalize QaK s (Qc s t) (Qc s t).length=m at*;generalize Qc s t=x at*;refine kD ?_;refine Qa 0 (h:=?_);refine Qa 1 (h:=?_)
  repeat refine kA ?_
  (refine Qa 2 (h:=?_);refine QR (hx:=?_))
  rfl
def bIsNaN(a:Int):Pure A0 170 [dI a] (dB false):=by
 refine kB ?_
 repeat refine kA ?_
 exact Qb (hx:=by simp)
def Qcf(a b:Int):Int:=if a<b then -1 else if b<a then 1 else 0
def bCmpInt(a b:Int):Pure A0 101 [dI a,dI b] (dI (Qcf a b)):=by
 have hd:AC (Qcf a b=if a<b then -1 else if b<a then 1 else 0):=Pm.hid rfl;generalize Qcf a b=r at*;refine kB ?_
 repeat' first|refine kS ?_|refine qS (Qdh cK (bIsNaN _) rfl) ?_|refine kU ?_|refine kV ?_ ?_<;>intro q|fail
 all_goals first
  |(exfalso;simp at*;done)
  |(refine Qb (hx:=?_)
    rw[hd.out];simp only[decide_eq_true_eq,decide_eq_false_iff_not] at*
    first
     |rw[if_pos (by assumption)]
     |(rw[if_neg (by assumption),if_pos (by omega)];done)
     |(rw[if_neg (by assumption),if_neg (by omega)];done))
def bThing1(x:Qb7)(k:Int):Pure A0 100 [.agg (rTh x),dI k] (dI (Qcf x.1 k)):=by
 have c:=bCmpInt x.1 k;generalize Qcf x.1 k=r at*;refine kE ?_;refine Qa 0 (h:=?_)
 repeat refine kA ?_
 exact Qb (hx:=rfl)
def QcJ(T:List Qb7):Prop:=T.Pairwise fun a b=>a.1<b.1
def Qnl{T:List Qb7}(h:QcJ T){i j:Nat}(hi:i<T.length)(hj:j<T.length)(hij:i<j):T[i].1<T[j].1:=List.pairwise_iff_getElem.1 h i j hi hj hij
theorem QrN(T:List Qb7)(ha:QcJ T)(hl:T.length<=1000)(i:Nat)(x:Qb7)(hx:T[i]? =some x):
 PureF A0 99 [.d (.sl true 3 (T.map rTh)),.d (dI (x.1:Nat)),.fn (.func 100) []] (.tup [dI i,dB true]):=by
 have hi:i<T.length:=(A6.1 hx).1;have hxi:T[i]=x:=(A6.1 hx).2;have hTl:(T.map rTh).length=T.length:=A9 ..
 have hc:AC (∀j y,T[j]? =some y->(j<i->Qcf y.1 x.1= -1)/\(j=i->Qcf y.1 x.1=0)/\(i<j->Qcf y.1 x.1=1)):=Pm.hid fun j y hy=>by
  have hj:j<T.length:=(A6.1 hy).1;have hyj:T[j]=y:=(A6.1 hy).2;unfold Qcf;refine⟨fun h=>?_,fun h=>?_,fun h=>?_⟩
  ·have:=Qnl ha hj hi h
   rw[hxi,hyj] at this;rw[if_pos (by omega)]
  ·subst h
   rw[hyj] at hxi;subst hxi;rw[if_neg (by omega),if_neg (by omega)]
  ·have:=Qnl ha hi hj h
   rw[hxi,hyj] at this;rw[if_neg (by omega),if_pos (by omega)]
 replace ha:=Pm.hid ha
 clear hxi;refine kF ?_
 repeat refine kA ?_
 refine Qo (fun m st=> ∃a b:Nat,a<=i/\i<=b/\b<=T.length/\m=b -a/\
  st=⟨49,[(9,.d (dI a)),(10,.d (dI b)),(8,.d (dI T.length)),(0,.d (.sl true 3 (T.map rTh))),(1,.d (dI (x.1:Nat))),(2,.fn (.func 100) [])],[]⟩) [9,10,8,0,1,2] 0 T.length ⟨0,T.length,by omega,by omega,by omega,by omega,by simp[keepE,go_sem]⟩ (round:=?_)
 rintro m st ⟨a,b,hai,hib,hb,rfl,rfl⟩
 repeat refine kG ?_
 by_cases q3:a<b
 rotate_left
 ·have e:a=i:=by omega
  subst e;have hr:=Qt (f:=rTh) hx;have c:=bThing1 x (x.1:Nat);rw[(hc.out _ x hx).2.1 rfl] at c;clear hx hc
  repeat' first|refine kS ?_|refine qS (iy hr) ?_|refine qS (Qek cK c rfl rfl) ?_|refine kU ?_|refine kV ?_ ?_<;>intro q|fail
  all_goals first|exfalso;simp only[decide_eq_true_eq,decide_eq_false_iff_not] at*;omega|refine QR (hx:=?_);rfl
 have hm:(a+b)/2<T.length:=by omega
 obtain⟨y,hy⟩: ∃y,T[(a+b)/2]? =some y:=⟨_,A3 hm⟩;have hr:=Qt (f:=rTh) hy;have c:=bThing1 y (x.1:Nat);have h3:=Pm.hid (hc.out _ y hy);generalize hmv:(a+b)/2=mm at*;have hmi:(((a:Int)+b)/2)=(mm:Int):=by omega
 clear hx hy hc;generalize Qcf y.1 x.1=r at*
 repeat' first|refine kS ?_|refine qS (QdJ (D1:= .int .i64) (k':= .u64) (m:=(a:Int)+b) (by kernel_rfl) (by kernel_rfl) rfl rfl (by rw[IntKind.wrap_u64];omega)) ?_|refine qS (QsM rfl rfl (by omega)) ?_|refine qS (QdJ (D1:= .int .u64) (k':= .i64) (m:=(mm:Int)) (by kernel_rfl) (by kernel_rfl) rfl rfl (by rw[hmi,IntKind.wrap_i64];omega)) ?_|refine qS (iy hr) ?_|refine qS (Qek cK c rfl rfl) ?_|refine kU ?_|refine kV ?_ ?_<;>intro q|fail
 all_goals first
  |(exfalso;simp only[decide_eq_true_eq,decide_eq_false_iff_not] at*;omega)
  |(have hlt:mm<i:=by
     rcases Nat.lt_trichotomy mm i with h|h|h
     ·exact h
     ·have:=h3.out.2.1 h;simp only[decide_eq_true_eq] at*;omega
     ·have:=h3.out.2.2 h;simp only[decide_eq_true_eq] at*;omega
    exact Qh (b -(mm+1)) (by omega) ⟨mm+1,b,by omega,by omega,hb,rfl,by simp[keepE,go_sem]⟩)
  |(have hge:i<=mm:=by
     rcases Nat.lt_or_ge mm i with h|h
     ·have:=h3.out.1 h;simp only[decide_eq_false_iff_not] at*;omega
     ·exact h
    exact Qh (mm -a) (by omega) ⟨a,mm,by omega,by omega,by omega,rfl,by simp[keepE,go_sem]⟩)
def bThing(N:List (List D))(T:List Qb7)(ha:QcJ T)(hl:T.length<=1000)(x:Qb7)(hx:x∈T):Pure A0 48 [.pd [.sl true 2 N,.sl true 3 (T.map rTh)],dI (x.1:Nat)] (.pd (rTh x)):=by
 obtain⟨i,hi⟩:=List.getElem?_of_mem hx;have hr:=Qt (f:=rTh) hi;have c:=QrN T ha hl i x hi;clear hi ha;refine kB ?_
 repeat' first|refine kS ?_|refine qS (Qdi rfl) ?_|refine qS (Qeq cK c rfl rfl) ?_|refine qS (iy hr) ?_|refine kU ?_|fail
 all_goals first|exact Qb (hx:=rfl)|exfalso;simp at*;done
def QbW(T:List Qb7)(k:Nat):Qb7:=(T.find? fun x=>x.1==k).getD (0,false,[])
structure Qc7(F:List Gr.It×List Qb7):Prop where
 asc:F.2.Pairwise fun a b=>a.1<b.1
 has: ∀n∈F.1,∃x∈F.2,x.1=n.2
 nl:F.1.length<=144
 tl:F.2.length<=16
theorem Qnk{F:List Gr.It×List Qb7}(h:Qc7 F){n:Gr.It}(hn:n∈F.1):QbW F.2 n.2∈F.2/\(QbW F.2 n.2).1=n.2:=by
 obtain⟨x,hx,hxn⟩:=h.has n hn;unfold QbW;cases hf:F.2.find? fun x=>x.1==n.2 with
 |none=>grind
 |some y=>grind
theorem QpD{s:Pm.Store}: ∀y∈QbL s x k,y.1=k:=by grind [QbL]
theorem ths_lt{s:Pm.Store}{n:Nat}: ∀y∈QaN s x n,y.1<n:=by
 intro y hy
 grind [QaN,QpD]
theorem QpC(s:Pm.Store)(x:List (List UInt8)): ∀n,(QaN s x n).Pairwise fun a b=>a.1<b.1
 |0=> .nil
 |n+1=>by
  rw[QhI,List.pairwise_append];refine⟨QpC s x n,?_,fun a ha b hb=>by rw[QpD b hb];exact ths_lt a ha⟩;unfold QbL;split
  ·exact .nil
  grind
theorem flatB{s:Pm.Store}(h:Qae s t=true):Qc7 (Qbf s t):=by
 obtain⟨L,hL,hll,hfd⟩:=Qez h;have hF:=(QeI s t).1 h;obtain⟨htx,hx16,_⟩:=Qg8 hF.tab;rw[QdU hfd];refine⟨QpC _ _ _,fun n hn=>?_,hll,by grind [Qme]⟩
 have hk:Qs (Qu (Qc s t)) n.2≠0:=by
  rcases hL.fd.kinds n.2 (AS.2 ⟨n,hn,rfl⟩) with h|⟨h,_⟩<;>rw[h]<;>decide
 have hlt:=QdO hk;rw[A9] at hlt;refine⟨(n.2,((Qu (Qc s t)).getD n.2 Qd).kind==2,Qad s ((Qu (Qc s t)).getD n.2 Qd)),?_,rfl⟩;refine AK.2 ⟨n.2,AD.2 hlt,?_⟩
 grind [QbL]
theorem thAt_is{s:Pm.Store}(hk:k<x.length)(h0:Qs (Qu x) k≠0):QbW (QaN s x x.length) k=(k,((Qu x).getD k Qd).kind==2,Qad s ((Qu x).getD k Qd)):=by
 have hm:(k,((Qu x).getD k Qd).kind==2,Qad s ((Qu x).getD k Qd))∈QaN s x x.length:=AK.2 ⟨k,AD.2 hk,by grind [QbL]⟩;unfold QbW;cases hf:(QaN s x x.length).find? fun y=>y.1==k with
 |none=>grind
 |some y=>
  have h1:=AF hf;have h2:y.1=k:=by grind
  obtain⟨j,_,hy⟩:=AK.1 h1
  grind [QbL]

/- Of fsk_card; no condition. -/
import Derived.Test.YtfmnpmhadmcdkaaGreatDoorS28
set_option linter.all false
set_option maxRecDepth 100000
set_option maxHeartbeats 16000000
open Bool renaming and_false->A6
open Go.RowKit renaming Hid->A7
open List renaming getElem?_eq_getElem->A0,replicate->A1,getD_eq_getElem?_getD->A2,range->A3,mem_replicate->A5
open Option renaming getD_some->A4
namespace Go.Proofs.YtfmnpmhadmcdkaaGreatDoor
noncomputable section
open Go.RowKit
namespace Aw
attribute [local irreducible] ASeq ADraw AWP Loc
def Qb5(refs:List Int)(i:Nat)(r:List UInt8):Bool:=decide (r.length<=128)&&((r==[])==(refs.getD i 0==0))
theorem Qo0{s:Pm.Store}(h:s.2.1.2.length=64):QbM s=(((A3 64).all fun i=>Qb5 s.2.1.1 i (s.1.getD i []))&&decide (QbX s.2.1.2<=s.2.2.1)):=by
 have hne:s.2.1.2≠[]:=fun e=>by grind
 rw[Bool.eq_iff_iff];unfold QbM Qbs Qb5;simp only[Bool.and_eq_true,List.all_eq_true,decide_eq_true_eq,List.mem_range];rw[maxL_le hne];constructor
 ·intro hh
  refine⟨fun i hi=>(hh i hi).1,fun y hy=>?_⟩;obtain⟨i,hi,rfl⟩:=List.getElem_of_mem hy;have:=(hh i (by omega)).2
  grind
 simp_all
theorem Qk2(s:Pm.Store)(b1:s.2.1.1.length<=Pm.big)(b2:s.2.1.2.length<=Pm.big)(b3:s.2.2.2.1.length<=1000000000000)(b4:s.2.2.2.2.2.1.length<=1000000000000):
 Pure Tryz.prog 33 [dSt s] (dB (Qaa s)):=by
 have hd:A7 (Qaa s=((s.1.length==64)&&Pl.spaceOk s.2.1&&Pl.inR s.2.2.1 1 900&&Pl.inR s.2.2.2.2.1 0 (s.2.2.1 -1)&&QbM s&&Qbx s.2.1.1 (Qbn s) (A1 64 0))):=Pm.hid rfl;have cS:=Qtx s.2.1 b1 b2;have cT:=bIn s.2.2.1 1 900;have cQp:=bIn s.2.2.2.2.1 0 (s.2.2.1 -1)
 by_cases hlen:s.1.length=64
 rotate_left
 ·have hf:Qaa s=false:=by rw[hd.out,beq_eq_false_iff_ne.2 hlen];rfl
  refine kE ?_;refine Qa 0 (h:=?_);have hne:((s.1.length:Int) !=64)=true:=by rw[bne_iff_ne];omega
  repeat' first|refine kA ?_|refine kV ?_ ?_<;>intro q|fail
  all_goals first|refine Qb (hx:=?_);rw[hf]|exfalso;simp_all;done
 have hne:((s.1.length:Int) !=64)=false:=by rw[hlen];rfl
 cases hsp:Pl.spaceOk s.2.1
 ·have hf:Qaa s=false:=by rw[hd.out,hsp];simp
  rw[hsp] at cS;refine kE ?_;refine Qa 0 (h:=?_)
  repeat' first|refine kA ?_|refine kV ?_ ?_<;>intro q|fail
  all_goals first|refine Qb (hx:=?_);rw[hf]|exfalso;simp_all;done
 cases hT:Pl.inR s.2.2.1 1 900
 ·have hf:Qaa s=false:=by rw[hd.out,hT];simp
  rw[hT] at cT;rw[hsp] at cS;refine kE ?_;refine Qa 0 (h:=?_)
  repeat' first|refine kA ?_|refine kV ?_ ?_<;>intro q|fail
  all_goals first|refine Qb (hx:=?_);rw[hf]|exfalso;simp_all;done
 have hTb:1<=s.2.2.1/\s.2.2.1<=900:=by simpa[Pl.inR] using hT
 cases hK:Pl.inR s.2.2.2.2.1 0 (s.2.2.1 -1)
 ·have hf:Qaa s=false:=by rw[hd.out,hK];simp
  rw[hT] at cT;rw[hsp] at cS;rw[hK] at cQp;refine kE ?_;refine Qa 0 (h:=?_)
  repeat' first|refine kA ?_|refine kV ?_ ?_<;>intro q|fail
  all_goals first|refine Qb (hx:=?_);rw[hf]|exfalso;simp_all;done
 have hsp1:s.2.1.1.length=64/\s.2.1.2.length=64:=by simp[Pl.spaceOk] at hsp;exact hsp.1
 have cM:=bMax s.2.1.2 (by omega) (by omega)
 have hd2:A7 (Qaa s=(((A3 64).all fun i=>Qb5 s.2.1.1 i (s.1.getD i []))&&decide (QbX s.2.1.2<=s.2.2.1)&&Qc8 s)):=Pm.hid (by
  rw[hd.out,hlen,hsp,hT,hK,Qo0 hsp1.2,Qo8 (Qoz hsp)];rfl)
 rw[hT] at cT;rw[hsp] at cS;rw[hK] at cQp;clear hd hsp hT hK;have hrow:A7 (∀k,Qb5 s.2.1.1 k (s.1.getD k [])=(decide ((s.1.getD k []).length<=128)&&((s.1.getD k []==[])==(s.2.1.1.getD k 0==0)))):=Pm.hid fun k=>rfl
 have hrf:A7 (∀k,k<64->Qb5 s.2.1.1 k (s.1.getD k [])=false->Qaa s=false):=Pm.hid fun k hk h=>by
  rw[hd2.out,Pl.Qda hk h];rfl
 have how:A7 (Qc8 s=((QaB s.2.1.1 (s.2.2.1 -1) s.2.2.2.1 (A1 64 0)).1&&(QaB s.2.1.1 s.2.2.2.2.1 s.2.2.2.2.2.1 (QaB s.2.1.1 (s.2.2.1 -1) s.2.2.2.1 (A1 64 0)).2).1&&
  (A3 64).all fun i=>decide ((QaB s.2.1.1 s.2.2.2.2.1 s.2.2.2.2.2.1 (QaB s.2.1.1 (s.2.2.1 -1) s.2.2.2.1 (A1 64 0)).2).2.getD i 0<=s.2.1.1.getD i 0))):=Pm.hid rfl
 have fa1:=Qge s.2.1.1 (s.2.2.1 -1) s.2.2.2.1 (A1 64 0) 0 (by decide) (fun y hy=>by rw[(A5.1 hy).2];decide);have dd1:=bCount s hsp1.1 s.2.2.2.1 b3 (s.2.2.1 -1) (A1 64 0) (by simp) (fun y hy=>by rw[(A5.1 hy).2];decide) 0;generalize QaB s.2.1.1 (s.2.2.1 -1) s.2.2.2.1 (A1 64 0)=r1 at*;obtain⟨o1,m1⟩:=r1;simp only at fa1 how;have fa2:=Qge s.2.1.1 s.2.2.2.2.1 s.2.2.2.2.2.1 m1 1000000000000 (by decide) (fun y hy=>by have:=fa1.2 y hy;omega);have dd2:=bCount s hsp1.1 s.2.2.2.2.2.1 b4 s.2.2.2.2.1 m1 (by simpa using fa1.1) (fun y hy=>by have:=fa1.2 y hy;omega) 0;generalize QaB s.2.1.1 s.2.2.2.2.1 s.2.2.2.2.2.1 m1=r2 at*;obtain⟨o2,m2⟩:=r2;simp only at fa2 how;generalize QbX s.2.1.2=mx at*;generalize hst:Qaa s=res at*;clear hst b1 b2;refine kE ?_;refine Qa 0 (h:=?_)
 repeat' first|refine kA ?_|refine kV ?_ ?_<;>intro q|fail
 all_goals first
  |(exfalso;clear hrow how hrf hd2 dd1 dd2;simp_all;done)
  |(refine Qb (hx:=?_)
    rw[hd2.out,decide_eq_false (by clear hrow how hrf hd2 dd1 dd2;simp at*;omega),A6,Bool.false_and];done)
  |skip
 have hmx:decide (mx<=s.2.2.1)=true:=decide_eq_true (by clear hrow how hrf hd2 dd1 dd2;simp at*;omega)
 refine Qo (fun m st=> ∃k:Nat,k<=64/\m=64 -k/\A7 ((A3 k).all (fun i=>Qb5 s.2.1.1 i (s.1.getD i []))=true)/\
  st=⟨102,[(1,.d (.pd (rSt s))),(44,.d (dStrs s.1)),(45,.d (dI s.1.length)),(46,.d (dI k))],[]⟩) [1,44,45,46] 0 64 ⟨0,by omega,rfl,Pm.hid rfl,by simp[keepE,go_sem]⟩ (round:=?_)
 rintro m st ⟨k,hk,rfl,hA,rfl⟩
 repeat refine kG ?_
 cases q3:decide ((k:Int)<(s.1.length:Int));rotate_left
 ·have hk2:k<64:=by simp at q3;omega
  obtain⟨r,hr0⟩: ∃r,s.1[k]? =some r:=⟨_,A0 (by omega)⟩;obtain⟨rf,hf0⟩: ∃rf,s.2.1.1[k]? =some rf:=⟨_,A0 (by omega)⟩;have hr:=Qt (f:=fun s=>[dS s]) hr0;have hf:=Qt (f:=fun n=>[dI n]) hf0;have hbad:=Pm.hid (hrf.out k hk2);have hgood:A7 (Qb5 s.2.1.1 k (s.1.getD k [])=true->(A3 (k+1)).all (fun i=>Qb5 s.2.1.1 i (s.1.getD i []))=true):=Pm.hid fun h=>Pl.Qdd hA.out h
  have hro:A7 (Qb5 s.2.1.1 k (s.1.getD k [])=(!decide ((r.length:Int)>128)&&((r==[])==(rf==0)))):=Pm.hid (by
   rw[hrow.out k];simp only[A2,hr0,hf0,A4]
   have:decide (r.length<=128)= !decide ((r.length:Int)>128):=by
    by_cases h:r.length<=128
    ·rw[decide_eq_true h,decide_eq_false (by omega)];rfl
    ·rw[decide_eq_false h,decide_eq_true (by omega)];rfl
   rw[this])
  clear hrow how hrf hd2 dd1 dd2 hr0 hf0 hA fa1 fa2;generalize Qb5 s.2.1.1 k (s.1.getD k [])=ro at*
  repeat' first|refine kS ?_|refine qS (iy hr) ?_|refine qS (iy hf) ?_|refine qS (QeD Tryz.underlying4 rfl rfl) ?_|refine kU ?_|refine kV ?_ ?_<;>intro q|fail
  all_goals clear hr hf
  all_goals first
   |(exfalso;omega)
   |(refine Qb (hx:=?_)
     rw[hbad.out (by rw[hro.out];clear hbad hgood hro;simp_all)];done)
   |exact Qh (64 -(k+1)) (by omega) ⟨k+1,by omega,rfl,Pm.hid (hgood.out (by rw[hro.out];clear hbad hgood hro;simp_all)),by simp[keepE,go_sem]⟩
 have hk64:k=64:=by simp at q3;omega
 subst hk64
 have hd3:A7 (res=Qc8 s):=Pm.hid (by
  rw[hd2.out,hA.out,hmx];rfl)
 clear hrow hrf hd2 hA;simp only[List.map_replicate] at dd1;simp only at dd1 dd2
 have hgl1: ∀(L:List AV) (B:Blk) (g:AV),g∈[AV.ptr 0 0 0,AV.osl 1 0 0 64]->AV.ptr 1 0 0∈L->B.parts=[]->g.ren (rho [1,0] 2)∈L++[B,Blk.row 0 [.osl 0 0 0 64]].flatMap Blk.parts:=fun L B g hg hL hB=>by
  simp only[List.mem_cons,List.not_mem_nil,or_false] at hg;rcases hg with rfl|rfl
  ·exact List.mem_append_left _ hL
  ·refine List.mem_append_right _ ?_
   rw[List.flatMap_cons,hB];simp[Blk.parts,AV.parts,AV.ren,rho]
 repeat' first|refine kS ?_|refine qS (Qkg rfl rfl) ?_|refine(Qhb [1,0] dd1 cK (hgl:=fun g hg=>hgl1 _ _ g hg (by simp[AV.parts,go_sem]) rfl) (k:=?_))|refine(Qhb [1,0] dd2 cK (hgl:=fun g hg=>hgl1 _ _ g hg (by simp[AV.parts,go_sem]) rfl) (k:=?_))|refine kU ?_|refine kV ?_ ?_<;>intro q|fail
 ·refine Qb (hx:=?_)
  rw[hd3.out,how.out,(by simpa using q:o1=false)];rfl
 ·refine Qb (hx:=?_)
  rw[hd3.out,how.out,(by simpa using q:o2=false),A6];rfl
 have hm2:m2.length=64:=by rw[fa2.1,fa1.1];simp
 have hd4:A7 (res=(A3 64).all fun i=>decide (m2.getD i 0<=s.2.1.1.getD i 0)):=Pm.hid (by
  rw[hd3.out,how.out];clear hd3 how dd1 dd2
  simp_all)
 clear hd3 how dd1 dd2 fa1 fa2 cS cT cQp cM
 refine Qo (fun m st=> ∃k:Nat,k<=64/\m=64 -k/\A7 ((A3 k).all (fun i=>decide (m2.getD i 0<=s.2.1.1.getD i 0))=true)/\
  st=⟨102,[(1,.d (.pd (rSt s))),(86,.osl 0 0 0 64),(87,.d (dI 64)),(88,.d (dI k))],[.arr 0 1 3 (m2.map fun n=>[dI n])]⟩) [1,86,87,88] 1 64 ⟨0,by omega,rfl,Pm.hid rfl,by simp[keepE,go_sem]⟩ (round:=?_)
 rintro m st ⟨k,hk,rfl,hA,rfl⟩
 repeat refine kG ?_
 cases q5:decide ((k:Int)<64)
 ·repeat refine kA ?_
  refine Qb (hx:=?_);have:k=64:=by simp at q5;omega
  subst this;rw[hd4.out,hA.out]
 have hk2:k<64:=by simp at q5;omega
 obtain⟨mv,hmv⟩: ∃mv,m2[k]? =some mv:=⟨_,A0 (by omega)⟩;obtain⟨rf,hf0⟩: ∃rf,s.2.1.1[k]? =some rf:=⟨_,A0 (by omega)⟩;have hmr:=Qt (f:=fun n=>[dI n]) hmv;have hf:=Qt (f:=fun n=>[dI n]) hf0;have hmr2:(m2.map fun n=>[dI n])[0+((k:Nat):Int).toNat]? =some [dI mv]:=by rw[Nat.zero_add];exact hmr
 have hbad:A7 (decide (mv>rf)=true->res=false):=Pm.hid fun h=>by
  rw[hd4.out];refine Pl.Qda hk2 ?_;simp only[A2,hmv,hf0,A4];exact decide_eq_false (by simp at h;omega)
 have hgood:A7 (decide (mv>rf)=false->(A3 (k+1)).all (fun i=>decide (m2.getD i 0<=s.2.1.1.getD i 0))=true):=Pm.hid fun h=>Pl.Qdd hA.out (by
  simp only[A2,hmv,hf0,A4]
  exact decide_eq_true (by simp at h;omega))
 clear hd4 hA hmv hf0
 repeat' first|refine kS ?_|refine qS (QcY Ty.h rfl rfl hmr2 rfl) ?_|refine qS (iy hf) ?_|refine kU ?_|refine kV ?_ ?_<;>intro q|fail
 all_goals first
  |(refine Qb (hx:=?_)
    rw[hbad.out (by assumption)];done)
  |exact Qh (64 -(k+1)) (by omega) ⟨k+1,by omega,rfl,Pm.hid (hgood.out (by assumption)),by simp[keepE,go_sem]⟩

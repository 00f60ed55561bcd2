/- Of ftw_card; no condition. -/
import Derived.Test.YthbonbflkdonkaaGreatDoorP27
set_option linter.all false
set_option maxRecDepth 100000
set_option maxHeartbeats 8000000
open List renaming getElem?_eq_getElem->A0,getD_eq_getElem?_getD->A1,range->A2
namespace Go.Proofs.YthbonbflkdonkaaGreatDoor
noncomputable section
section
open Go.RowKit
namespace Aw
attribute [local irreducible] ASeq ADraw AWP Loc
theorem QtP(s:Pm.Space)(h1:s.1.length<=Pm.big)(h2:s.2.length<=Pm.big):Pure Tryz.prog 73 [dSpace s] (dB (Pl.spaceOk s)):=by
 obtain⟨refs,last⟩:=s;simp only[Pm.big] at h1 h2
 skip
 refine kN ?_;simp only[parE,dSpace];refine kR ?_;refine Qa 0 (h:=?_)
 repeat refine kG ?_
 cases q1:((refs.length:Int) !=64);rotate_left
 ·repeat refine kG ?_
  exact Qb (hx:=congrArg dB (by simp at q1;simp[Pl.spaceOk];intros;omega))
 repeat refine kG ?_
 cases q2:((last.length:Int) !=64);rotate_left
 ·repeat refine kG ?_
  exact Qb (hx:=congrArg dB (by simp at q2;simp[Pl.spaceOk];intros;omega))
 repeat refine kG ?_
 simp at q1 q2;refine Qq (fun m s=> ∃k:Nat,k<=64/\m=64 -k/\(A2 k).all (Pl.QdZ refs last)=true/\s=⟨55,[(19,.d (dI k)),(17,.d (dInts refs)),(18,.d (dI refs.length)),(1,.d (.pd [dInts refs,dInts last]))],[]⟩) [19,17,18,1] 0 64 ⟨0,by omega,rfl,rfl,rfl⟩ (round:=?_);rintro m s ⟨k,hk,rfl,hF,rfl⟩
 repeat refine kG ?_
 cases q3:decide ((k:Int)<(refs.length:Int))
 ·repeat refine kA ?_
  have:k=64:=by simp at q3;omega
  subst this;exact Qb (hx:=congrArg dB (by simp[Pl.spaceOk,hF];omega))
 simp at q3;have hk':k<64:=by omega
 have hk1:k<refs.length:=by omega
 have hk2:k<last.length:=by omega
 have hr1:=Qs (f:=fun n=>[dI n]) (A0 hk1);have hr2:=Qs (f:=fun n=>[dI n]) (A0 hk2)
 have hrow:Pl.QdZ refs last k=Pl.QdM k refs[k] last[k]:=by
  unfold Pl.QdZ;rw[A1,A1,A0 hk1,A0 hk2];rfl
 generalize refs[k]=a at*;generalize last[k]=b at*;have T:Hid (Pl.QdM k a b=true->(A2 (k+1)).all (Pl.QdZ refs last)=true):=fun h=>Pl.Qdo hF (hrow.trans h)
 have F:Hid (Pl.QdM k a b=false->Pl.spaceOk (refs,last)=false):=fun h=>by simp[Pl.spaceOk,Pl.Qdj hk' (hrow.trans h)]
 clear hrow hF
 repeat' first|refine kS ?_|refine qS (Qdr cK (bIn _ _ _) rfl) ?_|refine qS (iy hr1) ?_|refine qS (iy hr2) ?_|refine kU ?_|refine kV ?_ ?_<;>intro q|fail
 all_goals clear hr1 hr2
 all_goals first|exact Qb (hx:=congrArg dB (F.out (by simp_all[Pl.QdM,Pl.inR];try omega)).symm)|exact Qg (64 -(k+1)) (by omega) ⟨k+1,by omega,rfl,T.out (by simp_all[Pl.QdM,Pl.inR];try omega),rfl⟩
end Aw
end
section
namespace Gr
variable{kind:Nat->Nat}{en:Nat->Option En}{ch:Nat->Option (List Nat)}

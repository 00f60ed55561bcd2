/- Part 14 of seek_card: contracts, walks, laws; no condition beyond the statement's. -/
import Derived.Test.YtdjkdcokjoiokaaGreatDoorW10
import Derived.Test.YtdjkdcokjoiokaaGreatDoorW13
set_option linter.all false
set_option maxRecDepth 100000
set_option maxHeartbeats 4000000
namespace Go.Proofs.YtdjkdcokjoiokaaGreatDoor
open Go.RowKit
namespace Aw
abbrev dI (n : Int) : D := .v (.int .i64 n)
abbrev dB (b : Bool) : D := .v (.bool b)
abbrev dS (s : List UInt8) : D := .v (.string ⟨s.toArray⟩)
abbrev dPtr (p : Pl.Ptr) : D := .agg [dI p.pat, dI p.birth, dI p.size, dI p.sum, dI p.level]
theorem Qcc (p : Pl.Ptr) : Pure Tryz.prog 123 [dPtr p] (dB (Pl.ptrHole p)) := QbI rfl fun w _ => Pm.Qec p w
theorem aPtrOk (p : Pl.Ptr) : Pure Tryz.prog 197 [dPtr p] (dB (Pl.ptrOk p)) := QbI rfl fun w _ => Pm.spPtrOk p w
theorem aSumOf (s : List UInt8) (h : s.length <= Pm.big) : Pure Tryz.prog 291 [dS s] (dI (Pl.sumOf s : Nat)) := QbI rfl fun w _ => (Pm.spSumOf s w h).mono fun e w' h => ⟨h.1, h.2 ▸ Below.refl _ _⟩
def Pl.fits (p : Pl.Ptr) (s : List UInt8) : Bool := Pl.ptrOk p && !Pl.ptrHole p && (p.size == (s.length : Int)) && (p.sum == ((Pl.sumOf s : Nat) : Int))
attribute [local irreducible] ASeq ADraw AWP Loc
theorem follows_mixed : Tryz.prog.follows .mixedOrders = true := Pm.follows_mixed
theorem Qn8 (p : Pl.Ptr) (s : List UInt8) (hs : s.length <= Pm.big) : Pure Tryz.prog 256 [dPtr p, dS s] (dB (Pl.fits p s)) := by
 refine Qbk Tryz.func256 rfl Tryz.ntmps256 Tryz.results256 rfl ?_;simp only [parE, dPtr, Nat.zero_add]
 (refine Qbf (Qbc ?_); (repeat (first | refine e1 (k := ?_) | refine e2 (k := ?_) | fail)); refine Qbd ?_)
 refine Qbg 0 (h := ?_)
 (repeat' (first | refine f1 (k := ?_) | refine f0 (k := ?_) | refine stepD (Qbe Tryz.call197 (aPtrOk p) rfl) (k := ?_) | refine stepD (Qbe Tryz.call123 (Qcc p) rfl) (k := ?_) | refine stepD (Qbe Tryz.call291 (aSumOf s hs) rfl) (k := ?_) | refine Qbr ?_ | refine Qbf ?_ | refine Qb1 follows_mixed (by kernel_rfl) (by kernel_rfl) ?_ | ((fail_if_success show ADraw _ _ _ _ ⟨_, (_, .d (.v (.bool true))) :: _, _⟩); (fail_if_success show ADraw _ _ _ _ ⟨_, (_, .d (.v (.bool false))) :: _, _⟩); refine splitD (fun q => ?_) (fun q => ?_))))
 all_goals exact Qbn (hx := congrArg dB (by simp_all [Pl.fits]))
abbrev dInts (l : List Int) : D := .sl false 1 (l.map fun n => [dI n])
abbrev dStrs (l : List (List UInt8)) : D := .sl false 1 (l.map fun s => [dS s])
abbrev dPtrs (l : List Pl.Ptr) : D := .sl false 5 (l.map fun p => [dI p.pat, dI p.birth, dI p.size, dI p.sum, dI p.level])
abbrev dSpace (s : Pm.Space) : D := .agg [dInts s.1, dInts s.2]
theorem al6In (a b c : Int) : Pure Tryz.prog 40 [dI a, dI b, dI c] (dB (Pl.inR a b c)) := QbI rfl fun w _ => (Pm.l6In a b c w).mono fun _ _ h => ⟨h.1, h.2 ▸ Below.refl _ _⟩
theorem al2Row (a : Int) : Pure Tryz.prog 270 [dI a] (dB (Pl.inR a 8 63)) := QbI rfl fun w _ => (Pm.spRow a w).mono fun _ _ h => ⟨h.1, h.2 ▸ Below.refl _ _⟩
theorem Qbx {α : Type} {f : α -> List D} {l : List α} {k : Nat} {x : α} (h : l[k]? = some x) : (l.map f)[(k : Int).toNat]? = some (f x) := by
 rw [Int.toNat_natCast, List.getElem?_map, h]; rfl
theorem Qn6 (s : Pm.Space) (h1 : s.1.length <= Pm.big) (h2 : s.2.length <= Pm.big) : Pure Tryz.prog 201 [dSpace s] (dB (Pl.spaceOk s)) := by
 obtain ⟨refs, last⟩ := s;simp only [Pm.big] at h1 h2;refine Qbk Tryz.func201 rfl Tryz.ntmps201 Tryz.results201 rfl ?_;simp only [parE, dSpace]
 (refine Qbf (Qbc ?_); (repeat (first | refine e1 (k := ?_) | refine e2 (k := ?_) | fail)); refine Qbd ?_)
 refine Qbg 0 (h := ?_)
 (repeat (first | refine e1 (k := ?_) | refine Qbf ?_ | refine Qbc ?_ | fail))
 cases q1 : ((refs.length : Int) != 64);rotate_left
 ·(repeat (first | refine e1 (k := ?_) | refine Qbd ?_ | refine Qbf ?_ | refine Qbc ?_ | refine Qbl (ht := ?_) | refine e0 (k := ?_) | fail))
  exact Qbn (hx := congrArg dB (by simp at q1; simp [Pl.spaceOk]; intros; omega))
 (repeat (first | refine e1 (k := ?_) | refine Qbd ?_ | fail))
 cases q2 : ((last.length : Int) != 64);rotate_left
 ·(repeat (first | refine e1 (k := ?_) | refine Qbd ?_ | refine Qbf ?_ | refine Qbc ?_ | refine Qbl (ht := ?_) | fail))
  exact Qbn (hx := congrArg dB (by simp at q2; simp [Pl.spaceOk]; intros; omega))
 (repeat (first | refine e1 (k := ?_) | refine Qbd ?_ | refine Qbf ?_ | refine Qbc ?_ | refine Qbm (hf := ?_) | refine Qbj ?_ | refine Qbi ?_ | fail))
 simp at q1 q2;refine Qby (fun m s => ∃ k : Nat, k <= 64 /\ m = 64 - k /\ (List.range k).all (Pl.QbQ refs last) = true /\ s = ⟨68, [(3, .d (dI k)), (1, .d (.pd [dInts refs, dInts last]))], []⟩) [3, 1] 0 64 ⟨0, by omega, rfl, rfl, rfl⟩ (round := ?_);rintro m s ⟨k, hk, rfl, hF, rfl⟩
 (repeat (first | refine e1 (k := ?_) | refine Qbd ?_ | refine Qbf ?_ | refine Qbc ?_ | fail))
 cases q3 : decide ((k : Int) < 64)
 ·(repeat (first | refine e1 (k := ?_) | refine Qbd ?_ | refine Qbf ?_ | refine Qbc ?_ | refine Qbm (hf := ?_) | refine Qbq ?_ | fail))
  have : k = 64 := by simp at q3; omega
  subst this;exact Qbn (hx := congrArg dB (by simp [Pl.spaceOk, hF]; omega))
 (repeat (first | refine Qbf ?_ | refine Qbl (ht := ?_) | refine Qbj ?_ | refine Qbi ?_ | fail))
 simp at q3;have hk' : k < 64 := by omega
 have hk1 : k < refs.length := by omega
 have hk2 : k < last.length := by omega
 have hr1 := Qbx (f := fun n => [dI n]) (List.getElem?_eq_getElem hk1);have hr2 := Qbx (f := fun n => [dI n]) (List.getElem?_eq_getElem hk2)
 have hrow : Pl.QbQ refs last k = Pl.QbZ k refs[k] last[k] := by
  unfold Pl.QbQ;rw [List.getD_eq_getElem?_getD, List.getD_eq_getElem?_getD, List.getElem?_eq_getElem hk1, List.getElem?_eq_getElem hk2]; rfl
 generalize refs[k] = a at *
 generalize last[k] = b at *
 have T : Hid (Pl.QbZ k a b = true -> (List.range (k + 1)).all (Pl.QbQ refs last) = true) := fun h => Pl.Qb8 hF (hrow.trans h)
 have F : Hid (Pl.QbZ k a b = false -> Pl.spaceOk (refs, last) = false) := fun h => by simp [Pl.spaceOk, q1, q2, Pl.Qb5 hk' (hrow.trans h)]
 clear hrow hF
 (repeat' (first | refine f1 (k := ?_) | refine e1 (k := ?_) | refine f0 (k := ?_) | refine stepD (Qbe Tryz.call40 (al6In _ _ _) rfl) (k := ?_) | refine stepD (Qbe Tryz.call270 (al2Row _) rfl) (k := ?_) | refine stepD (Qbh Ty.h rfl Ty.h rfl rfl rfl (by omega) hr1) (k := ?_) | refine stepD (Qbh Ty.h rfl Ty.h rfl rfl rfl (by omega) hr2) (k := ?_) | refine stepS (Qbs rfl rfl (by omega)) (k := ?_) | refine Qbd ?_ | refine Qbp ?_ | refine Qbr ?_ | refine Qbf ?_ | refine Qbc ?_ | refine Qb1 follows_mixed (by kernel_rfl) (by kernel_rfl) ?_ | refine Qbl (ht := ?_) | refine Qbm (hf := ?_) | refine Qbo (ht := fun q => ?_) (hf := fun q => ?_) | refine Qbj ?_ | ((fail_if_success show ADraw _ _ _ _ ⟨_, (_, .d (.v (.bool true))) :: _, _⟩); (fail_if_success show ADraw _ _ _ _ ⟨_, (_, .d (.v (.bool false))) :: _, _⟩); refine splitD (fun q => ?_) (fun q => ?_))))
 all_goals clear hr1 hr2
 all_goals first
  |exact Qbn (hx := congrArg dB (F.out (by simp_all [Pl.QbZ])).symm)
  |exact Qbt (64 - (k + 1)) (by omega) ⟨k + 1, by omega, rfl, T.out (by simp_all [Pl.QbZ]), rfl⟩
end Aw
end Go.Proofs.YtdjkdcokjoiokaaGreatDoor

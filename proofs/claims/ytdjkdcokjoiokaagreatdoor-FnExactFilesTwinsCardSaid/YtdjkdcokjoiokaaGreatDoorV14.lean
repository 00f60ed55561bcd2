/- Part 14 of the proof of twins_card: contracts, walks, plain laws; no condition is assumed beyond those that a statement names. -/
import Derived.Test.YtdjkdcokjoiokaaGreatDoorV10
import Derived.Test.YtdjkdcokjoiokaaGreatDoorV13
set_option linter.all false
set_option maxRecDepth 100000
set_option maxHeartbeats 4000000
namespace Go.Proofs.YtdjkdcokjoiokaaGreatDoor
open Go.RowKit
namespace Aw
abbrev dI (n : Int) : D := .v (.int .i64 n)
abbrev dB (b : Bool) : D := .v (.bool b)
abbrev dS (s : List UInt8) : D := .v (.string ⟨s.toArray⟩)
abbrev dPtr (p : Pl.Ptr) : D := .agg [dI p.pat, dI p.birth, dI p.size, dI p.sum, dI p.level]
theorem Qcf (p : Pl.Ptr) : Pure Tryz.prog 123 [dPtr p] (dB (Pl.ptrHole p)) := QbL rfl fun w _ => Pm.Qec p w
theorem aPtrOk (p : Pl.Ptr) : Pure Tryz.prog 197 [dPtr p] (dB (Pl.ptrOk p)) := QbL rfl fun w _ => Pm.spPtrOk p w
theorem aSumOf (s : List UInt8) (h : s.length <= Pm.big) : Pure Tryz.prog 291 [dS s] (dI (Pl.sumOf s : Nat)) := QbL rfl fun w _ => (Pm.spSumOf s w h).mono fun e w' h => ⟨h.1, h.2 ▸ Below.refl _ _⟩
def Pl.fits (p : Pl.Ptr) (s : List UInt8) : Bool := Pl.ptrOk p && !Pl.ptrHole p && (p.size == (s.length : Int)) && (p.sum == ((Pl.sumOf s : Nat) : Int))
attribute [local irreducible] ASeq ADraw AWP Loc
theorem follows_mixed : Tryz.prog.follows .mixedOrders = true := Pm.follows_mixed
theorem Qn8 (p : Pl.Ptr) (s : List UInt8) (hs : s.length <= Pm.big) : Pure Tryz.prog 256 [dPtr p, dS s] (dB (Pl.fits p s)) := by
 refine Qbm Tryz.func256 rfl Tryz.ntmps256 Tryz.results256 rfl ?_;simp only [parE, dPtr, Nat.zero_add]
 (refine Qbh (Qbe ?_); (repeat (first | refine e1 (k := ?_) | refine e2 (k := ?_) | fail)); refine Qbf ?_)
 refine Qbi 0 (h := ?_)
 (repeat' (first | refine f1 (k := ?_) | refine f0 (k := ?_) | refine stepD (Qbg Tryz.call197 (aPtrOk p) rfl) (k := ?_) | refine stepD (Qbg Tryz.call123 (Qcf p) rfl) (k := ?_) | refine stepD (Qbg Tryz.call291 (aSumOf s hs) rfl) (k := ?_) | refine Qbt ?_ | refine Qbh ?_ | refine Qb3 follows_mixed (by kernel_rfl) (by kernel_rfl) ?_ | ((fail_if_success show ADraw _ _ _ _ ⟨_, (_, .d (.v (.bool true))) :: _, _⟩); (fail_if_success show ADraw _ _ _ _ ⟨_, (_, .d (.v (.bool false))) :: _, _⟩); refine splitD (fun q => ?_) (fun q => ?_))))
 all_goals exact Qbp (hx := congrArg dB (by simp_all [Pl.fits]))
abbrev dInts (l : List Int) : D := .sl false 1 (l.map fun n => [dI n])
abbrev dStrs (l : List (List UInt8)) : D := .sl false 1 (l.map fun s => [dS s])
abbrev dPtrs (l : List Pl.Ptr) : D := .sl false 5 (l.map fun p => [dI p.pat, dI p.birth, dI p.size, dI p.sum, dI p.level])
abbrev dSpace (s : Pm.Space) : D := .agg [dInts s.1, dInts s.2]
theorem al6In (a b c : Int) : Pure Tryz.prog 40 [dI a, dI b, dI c] (dB (Pl.inR a b c)) := QbL rfl fun w _ => (Pm.l6In a b c w).mono fun _ _ h => ⟨h.1, h.2 ▸ Below.refl _ _⟩
theorem al2Row (a : Int) : Pure Tryz.prog 270 [dI a] (dB (Pl.inR a 8 63)) := QbL rfl fun w _ => (Pm.spRow a w).mono fun _ _ h => ⟨h.1, h.2 ▸ Below.refl _ _⟩
theorem Qbz {α : Type} {f : α -> List D} {l : List α} {k : Nat} {x : α} (h : l[k]? = some x) : (l.map f)[(k : Int).toNat]? = some (f x) := by
 rw [Int.toNat_natCast, List.getElem?_map, h]; rfl
theorem Qn7 (s : Pm.Space) (h1 : s.1.length <= Pm.big) (h2 : s.2.length <= Pm.big) : Pure Tryz.prog 201 [dSpace s] (dB (Pl.spaceOk s)) := by
 obtain ⟨refs, last⟩ := s;simp only [Pm.big] at h1 h2;refine Qbm Tryz.func201 rfl Tryz.ntmps201 Tryz.results201 rfl ?_;simp only [parE, dSpace]
 (refine Qbh (Qbe ?_); (repeat (first | refine e1 (k := ?_) | refine e2 (k := ?_) | fail)); refine Qbf ?_)
 refine Qbi 0 (h := ?_)
 (repeat (first | refine e1 (k := ?_) | refine Qbh ?_ | refine Qbe ?_ | fail))
 cases q1 : ((refs.length : Int) != 64);rotate_left
 ·(repeat (first | refine e1 (k := ?_) | refine Qbf ?_ | refine Qbh ?_ | refine Qbe ?_ | refine Qbn (ht := ?_) | refine e0 (k := ?_) | fail))
  exact Qbp (hx := congrArg dB (by simp at q1; simp [Pl.spaceOk]; intros; omega))
 (repeat (first | refine e1 (k := ?_) | refine Qbf ?_ | fail))
 cases q2 : ((last.length : Int) != 64);rotate_left
 ·(repeat (first | refine e1 (k := ?_) | refine Qbf ?_ | refine Qbh ?_ | refine Qbe ?_ | refine Qbn (ht := ?_) | fail))
  exact Qbp (hx := congrArg dB (by simp at q2; simp [Pl.spaceOk]; intros; omega))
 (repeat (first | refine e1 (k := ?_) | refine Qbf ?_ | refine Qbh ?_ | refine Qbe ?_ | refine Qbo (hf := ?_) | refine Qbl ?_ | refine Qbk ?_ | fail))
 simp at q1 q2;refine Qb0 (fun m s => ∃ k : Nat, k <= 64 /\ m = 64 - k /\ (List.range k).all (Pl.QbS refs last) = true /\ s = ⟨68, [(3, .d (dI k)), (1, .d (.pd [dInts refs, dInts last]))], []⟩) [3, 1] 0 64 ⟨0, by omega, rfl, rfl, rfl⟩ (round := ?_);rintro m s ⟨k, hk, rfl, hF, rfl⟩
 (repeat (first | refine e1 (k := ?_) | refine Qbf ?_ | refine Qbh ?_ | refine Qbe ?_ | fail))
 cases q3 : decide ((k : Int) < 64)
 ·(repeat (first | refine e1 (k := ?_) | refine Qbf ?_ | refine Qbh ?_ | refine Qbe ?_ | refine Qbo (hf := ?_) | refine Qbs ?_ | fail))
  have : k = 64 := by simp at q3; omega
  subst this;exact Qbp (hx := congrArg dB (by simp [Pl.spaceOk, hF]; omega))
 (repeat (first | refine Qbh ?_ | refine Qbn (ht := ?_) | refine Qbl ?_ | refine Qbk ?_ | fail))
 simp at q3;have hk' : k < 64 := by omega
 have hk1 : k < refs.length := by omega
 have hk2 : k < last.length := by omega
 have hr1 := Qbz (f := fun n => [dI n]) (List.getElem?_eq_getElem hk1);have hr2 := Qbz (f := fun n => [dI n]) (List.getElem?_eq_getElem hk2)
 have hrow : Pl.QbS refs last k = Pl.Qcc k refs[k] last[k] := by
  unfold Pl.QbS;rw [List.getD_eq_getElem?_getD, List.getD_eq_getElem?_getD, List.getElem?_eq_getElem hk1, List.getElem?_eq_getElem hk2]; rfl
 generalize refs[k] = a at *
 generalize last[k] = b at *
 have T : Hid (Pl.Qcc k a b = true -> (List.range (k + 1)).all (Pl.QbS refs last) = true) := fun h => Pl.QbB hF (hrow.trans h)
 have F : Hid (Pl.Qcc k a b = false -> Pl.spaceOk (refs, last) = false) := fun h => by simp [Pl.spaceOk, q1, q2, Pl.Qb7 hk' (hrow.trans h)]
 clear hrow hF
 (repeat' (first | refine f1 (k := ?_) | refine e1 (k := ?_) | refine f0 (k := ?_) | refine stepD (Qbg Tryz.call40 (al6In _ _ _) rfl) (k := ?_) | refine stepD (Qbg Tryz.call270 (al2Row _) rfl) (k := ?_) | refine stepD (Qbj Ty.h rfl Ty.h rfl rfl rfl (by omega) hr1) (k := ?_) | refine stepD (Qbj Ty.h rfl Ty.h rfl rfl rfl (by omega) hr2) (k := ?_) | refine stepS (Qbu rfl rfl (by omega)) (k := ?_) | refine Qbf ?_ | refine Qbq ?_ | refine Qbt ?_ | refine Qbh ?_ | refine Qbe ?_ | refine Qb3 follows_mixed (by kernel_rfl) (by kernel_rfl) ?_ | refine Qbn (ht := ?_) | refine Qbo (hf := ?_) | refine Qbr (ht := fun q => ?_) (hf := fun q => ?_) | refine Qbl ?_ | ((fail_if_success show ADraw _ _ _ _ ⟨_, (_, .d (.v (.bool true))) :: _, _⟩); (fail_if_success show ADraw _ _ _ _ ⟨_, (_, .d (.v (.bool false))) :: _, _⟩); refine splitD (fun q => ?_) (fun q => ?_))))
 all_goals clear hr1 hr2
 all_goals first
  |exact Qbp (hx := congrArg dB (F.out (by simp_all [Pl.Qcc])).symm)
  |exact Qbv (64 - (k + 1)) (by omega) ⟨k + 1, by omega, rfl, T.out (by simp_all [Pl.Qcc]), rfl⟩
end Aw
end Go.Proofs.YtdjkdcokjoiokaaGreatDoor

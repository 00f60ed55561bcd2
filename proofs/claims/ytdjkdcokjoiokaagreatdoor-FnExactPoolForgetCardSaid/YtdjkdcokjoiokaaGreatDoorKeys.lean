/- A map from numbers to flags that a call makes: which rows it holds. -/
import Derived.Test.YtdjkdcokjoiokaaGreatDoorProg
import Derived.Test.YtdjkdcokjoiokaaGreatDoorForget
import Derived.Maps.RangeWalk
import Derived.WalkKit
namespace Go.Proofs.YtdjkdcokjoiokaaGreatDoor
open Go.RowKit
namespace Pl
/-- The rows that are marked behind k rows, and i disks of the next one. -/
noncomputable def P1 (l : Raid) (txg : Int) (k i : Nat) (j : Nat) : Bool := (decide (j < k) && rowLater l j txg) || (decide (j = k) && (l.take i).any fun d => later (d.1.getD k []) txg)
noncomputable def P2 (l : Raid) (txg : Int) (i : Nat) (j : Nat) : Bool := (decide (j < 4) && rowLater l j txg) || (decide (4 ≤ j) && decide (j < 4 + i))
theorem P1_zero (l : Raid) (txg : Int) (j : Nat) : P1 l txg 0 0 j = false := by simp [P1]
theorem P1_next (l : Raid) (txg : Int) (k j : Nat) : P1 l txg k l.length j = P1 l txg (k + 1) 0 j := by
  unfold P1
  rw [List.take_length]
  by_cases h : j = k
  · subst h; simp [rowLater]
  · by_cases h2 : j < k
    · have : j < k + 1 := by omega
      simp [h, h2, this]
    · have : ¬ j < k + 1 := by omega
      simp [h, h2, this]
theorem P1_hit {l : Raid} {txg : Int} {k i : Nat} (hi : i < l.length) (h : later (l[i].1.getD k []) txg = true) (j : Nat) : P1 l txg k (i + 1) j = (P1 l txg k i j || decide (j = k)) := by
  unfold P1
  rw [List.take_succ_eq_append_getElem hi, List.any_append]
  by_cases hj : j = k
  · subst hj
    simp only [decide_true, Bool.true_and, List.any_cons, h, Bool.true_or, Bool.or_true]
  · simp [hj]
theorem P1_miss {l : Raid} {txg : Int} {k i : Nat} (hi : i < l.length) (h : later (l[i].1.getD k []) txg = false) (j : Nat) : P1 l txg k (i + 1) j = P1 l txg k i j := by
  unfold P1
  rw [List.take_succ_eq_append_getElem hi, List.any_append]
  simp only [List.any_cons, h, List.any_nil, Bool.or_false]
theorem P2_start (l : Raid) (txg : Int) (j : Nat) : P1 l txg 4 0 j = P2 l txg 0 j := by
  unfold P1 P2
  by_cases h : 4 ≤ j
  · have : ¬ j < 4 := by omega
    simp [this]
  · simp [h]
theorem P2_step (l : Raid) (txg : Int) (i j : Nat) : P2 l txg (i + 1) j = (P2 l txg i j || decide (j = 4 + i)) := by
  unfold P2
  by_cases h : j = 4 + i
  · subst h; simp
  · by_cases h2 : j < 4 + i
    · have : j < 4 + (i + 1) := by omega
      simp [h, h2, this]
    · have : ¬ j < 4 + (i + 1) := by omega
      simp [h, h2, this]
theorem P2_end (l : Raid) (txg : Int) (j : Nat) : P2 l txg 4 j = clears l txg j := by
  unfold P2 clears
  rfl
theorem clears_lt {l : Raid} {txg : Int} {j : Nat} (h : clears l txg j = true) : j < 8 := by
  unfold clears at h
  simp only [Bool.or_eq_true, Bool.and_eq_true, decide_eq_true_eq] at h
  omega
end Pl
namespace Pm
open Go.Maps
/-- Block mb is a map of at most n entries that holds just the rows of p. -/
def KeysD (D : DataW Unit) (w : World) (mb n : Nat) (p : Nat → Bool) : Prop :=
  w.ownsMap Tryz.prog 3 (plainElem Tryz.prog 4) mb n D ∧ ∀ x : Int, Maps.has D (.int .i64 x) = (decide (0 ≤ x ∧ x < 8) && p x.toNat)
def Keys (w : World) (mb n : Nat) (p : Nat → Bool) : Prop := ∃ D, KeysD D w mb n p
theorem keyI : Keyed Tryz.prog 3 := int_keyed Tryz.underlying3
theorem om_below {w w' : World} {b n : Nat} {D : DataW Unit} (h : w.ownsMap Tryz.prog 3 (plainElem Tryz.prog 4) b n D) (hb : Below w.heap.size w w') : w'.ownsMap Tryz.prog 3 (plainElem Tryz.prog 4) b n D :=
  h.kept (row := none) ⟨hb.os, hb.tape, hb.output, hb.size, fun i hi _ => hb.block i hi⟩ (by simp)
theorem Keys.below {w w' : World} {mb n : Nat} {p : Nat → Bool} (h : Keys w mb n p) (hb : Below w.heap.size w w') : Keys w' mb n p := let ⟨D, h1, h2⟩ := h; ⟨D, om_below h1 hb, h2⟩
theorem Keys.congr {w : World} {mb n : Nat} {p q : Nat → Bool} (h : Keys w mb n p) (e : ∀ j, p j = q j) : Keys w mb n q := let ⟨D, h1, h2⟩ := h; ⟨D, h1, fun x => by rw [h2, e]⟩
theorem keys_new (w : World) : Keys (w.alloc (.map #[] 0)) w.heap.size 0 fun _ => false := ⟨.map [], World.ownsMap_made _ _ _ _, fun x => by simp [Maps.has]⟩
theorem keys_put {D : DataW Unit} {w w' : World} {mb n : Nat} {p : Nat → Bool} (h : KeysD D w mb n p) {x : Int} {k : Nat} (hx : x = k) (hk : k < 8) {d : DataW Unit} (h1 : w'.ownsMap Tryz.prog 3 (plainElem Tryz.prog 4) mb (n + 1) (D.put (.int .i64 x) d)) : Keys w' mb (n + 1) (fun j => p j || decide (j = k)) := by
  refine ⟨_, h1, fun y => ?_⟩
  by_cases hy : y = x
  · subst hy
    subst hx
    rw [has_put_same (k := Lit.int .i64 (k : Int)) h.1.isMap trivial]
    have : decide ((0 : Int) ≤ (k : Int) ∧ (k : Int) < 8) = true := decide_eq_true (by omega)
    rw [this]; simp
  · rw [has_put_other (fun e => hy (by injection e)), h.2]
    by_cases h8 : 0 ≤ y ∧ y < 8
    · have : ¬ y.toNat = k := by omega
      show (_ && p y.toNat) = (_ && (p y.toNat || decide (y.toNat = k)))
      rw [decide_eq_true h8, decide_eq_false this]; simp
    · rw [decide_eq_false h8]; rfl
theorem wf_small {x : Int} (h0 : 0 ≤ x) (h1 : x ≤ 100) : (Lit.int .i64 x).wf = true := WalkArith.wf_i64 (by omega)
set_option maxRecDepth 100000 in
theorem bool_inv {v : Value} {y : DataW Unit × List MemPlace} (h : plainElem Tryz.prog 4 v = some y) : ∃ c, v = .bool c := by
  unfold plainElem at h
  rw [Tryz.underlying4] at h
  cases v <;> simp at h
  exact ⟨_, rfl⟩
/-- One more key struck: one more row wiped. -/
theorem strike_wipe {left : Lit → Bool} {cl : Nat → Bool} {k : Nat} (hk : cl k = true) (hl : left (.int .i64 (k : Int)) = true) (l : List Str) :
    (Pl.wipe (fun j => cl j && !left (.int .i64 (j : Int))) l).set k [] = Pl.wipe (fun j => cl j && !(left (.int .i64 (j : Int)) && !(Lit.int .i64 (j : Int)).sameKey (.int .i64 (k : Int)))) l := by
  rw [Pl.wipe_set]
  apply Pl.wipe_congr
  intro j
  by_cases hj : j = k
  · subst hj
    have : (Lit.int .i64 (j : Int)).sameKey (.int .i64 (j : Int)) = true := WideAt.sameKey_self trivial
    rw [this, hk]; simp
  · have : (Lit.int .i64 (j : Int)).sameKey (.int .i64 (k : Int)) = false := sameKey_ne (fun e => hj (by injection e with _ e; omega))
    rw [this]; simp [hj]
end Pm
end Go.Proofs.YtdjkdcokjoiokaaGreatDoor

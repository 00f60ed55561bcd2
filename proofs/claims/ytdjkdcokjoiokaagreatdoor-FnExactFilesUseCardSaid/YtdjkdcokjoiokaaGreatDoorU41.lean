/- Part 41 of the proof of use_card: contracts, walks, plain laws; no condition is assumed beyond those that a statement names. -/
import Derived.Test.YtdjkdcokjoiokaaGreatDoorU39
import Derived.Test.YtdjkdcokjoiokaaGreatDoorU40
set_option linter.all false
set_option maxRecDepth 100000
set_option maxHeartbeats 8000000
namespace Go.Proofs.YtdjkdcokjoiokaaGreatDoor
open Go.RowKit
namespace Aw
attribute [local irreducible] ASeq ADraw AWP Loc
theorem QkS (s : Pm.Store) (hb : StB s Pm.big) (t : Pl.Tree) (p : List UInt8) (_hp : p.length <= Pm.big) : Pure Tryz.prog 5 [dSt s, dTree t, dS p] (dB true) := by
 have cz := Qov s hb 1048576 (by decide) (by decide)
 by_cases hl : p.length <= 1048576
 rotate_left
 ·clear cz
  (refine Qbv Tryz.func5 rfl Tryz.ntmps5 Tryz.results5 rfl ?_; simp only [parE, Nat.zero_add, Nat.reduceAdd])
  (refine Qbt (Qbq ?_); (repeat (first | refine e1 (k := ?_) | refine e2 (k := ?_) | fail)); refine Qbr ?_)
  refine Qbu 0 (h := ?_);refine Qbu 1 (h := ?_);have hd : decide ((p.length : Int) > 1048576) = true := decide_eq_true (by omega)
  (repeat' (first | refine e1 (k := ?_) | refine Qbr ?_ | refine Qbt ?_ | refine Qbq ?_ | refine Qb2 (ht := fun q => ?_) (hf := fun q => ?_) | refine Qby ?_ | fail))
  all_goals first
   |exact Qb0 (hx := rfl)
   |(exfalso; rw [hd] at *; simp at *; done)
 unfold Pm.less at cz
 by_cases hw : Pm.wtStore s <= 1048576
 ·obtain ⟨h1, h2⟩ := QlB hb hw
  have c1 := Qot s h1;have c2 := aToTree t;have c3 := Qni s h2 t p (by omega);have c4 := QmV s h2 hb.x2 hb.x3 t p (by omega);have c5 := Qo2 s s hb;rw [decide_eq_true rfl] at c5;generalize Pl.Qa8 s t p (Pl.Qas s) = r at *
  obtain ⟨n, ok⟩ := r;simp only at c3 c4;rw [if_neg (by omega)] at cz;have hz : 0 <= (1048576 : Int) - Pm.wtStore s := by omega
  generalize (1048576 : Int) - Pm.wtStore s = left at *
  clear h1 h2 hb hw
  (refine Qbv Tryz.func5 rfl Tryz.ntmps5 Tryz.results5 rfl ?_; simp only [parE, Nat.zero_add, Nat.reduceAdd])
  (refine Qbt (Qbq ?_); (repeat (first | refine e1 (k := ?_) | refine e2 (k := ?_) | fail)); refine Qbr ?_)
  refine Qbu 0 (h := ?_);refine Qbu 1 (h := ?_)
  (repeat' (first | refine f1 (k := ?_) | refine e1 (k := ?_) | refine e0 (k := ?_) | refine stepS (Qbs Tryz.call16 cz rfl) (k := ?_) | refine stepD (Qbs Tryz.call18 c1 rfl) (k := ?_) | refine stepS (Qbs Tryz.call18 c1 rfl) (k := ?_) | refine stepD (Qbs Tryz.call19 c2 rfl) (k := ?_) | refine stepD (Qbs Tryz.call22 c3 rfl) (k := ?_) | refine stepD (Qbs Tryz.call23 c4 rfl) (k := ?_) | refine stepD (Qbs Tryz.call21 c5 rfl) (k := ?_) | refine stepS (Qdw TyBool.h rfl rfl) (k := ?_) | refine QbA (kk := ?_) | refine Qbr ?_ | refine Qb5 ?_ | refine Qbt ?_ | refine Qbq ?_ | refine QbE follows_mixed (by kernel_rfl) (by kernel_rfl) ?_ | refine Qbz (ht := ?_) | refine Qb1 (hf := ?_) | refine Qb2 (ht := fun q => ?_) (hf := fun q => ?_) | refine Qby ?_ | refine e2 (k := ?_) | ((fail_if_success show ASeq _ _ _ _ ⟨_, (_, .d (.v (.bool true))) :: _, _⟩); (fail_if_success show ASeq _ _ _ _ ⟨_, (_, .d (.v (.bool false))) :: _, _⟩); refine splitS (fun q => ?_) (fun q => ?_))))
  all_goals first
   |exact Qb0 (hx := rfl)
   |(exfalso; simp at *; done)
   |(exfalso; simp at *; omega)
 ·rw [if_pos (by omega)] at cz
  clear hb hw
  (refine Qbv Tryz.func5 rfl Tryz.ntmps5 Tryz.results5 rfl ?_; simp only [parE, Nat.zero_add, Nat.reduceAdd])
  (refine Qbt (Qbq ?_); (repeat (first | refine e1 (k := ?_) | refine e2 (k := ?_) | fail)); refine Qbr ?_)
  refine Qbu 0 (h := ?_);refine Qbu 1 (h := ?_)
  (repeat' (first | refine e1 (k := ?_) | refine stepS (Qbs Tryz.call16 cz rfl) (k := ?_) | refine Qbr ?_ | refine Qbt ?_ | refine Qbq ?_ | refine Qbz (ht := ?_) | refine Qb2 (ht := fun q => ?_) (hf := fun q => ?_) | refine Qby ?_ | fail))
  all_goals first
   |exact Qb0 (hx := rfl)
   |(exfalso; simp at *; done)
   |(exfalso; simp at *; omega)
end Aw
end Go.Proofs.YtdjkdcokjoiokaaGreatDoor

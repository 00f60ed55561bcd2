/- Part 33 of the proof of use_card: contracts, walks, plain laws; no condition is assumed beyond those that a statement names. -/
import Derived.Test.YtdjkdcokjoiokaaGreatDoorU32
set_option linter.all false
set_option maxRecDepth 100000
set_option maxHeartbeats 8000000
namespace Go.Proofs.YtdjkdcokjoiokaaGreatDoor
open Go.RowKit
namespace Aw
attribute [local irreducible] ASeq ADraw AWP Loc
def Pl.idxS (l : List (List UInt8)) (pr : List UInt8 -> Bool) : Int := match l.findIdx? pr with
 |some i => (i : Int)
 |none => -1
theorem QnK (l : List (List UInt8)) (pr : List UInt8 -> Bool) : decide (Pl.idxS l pr ≥ 0) = l.any pr := by
 unfold Pl.idxS;cases h : l.findIdx? pr with
 |none =>
  rw [List.findIdx?_eq_none_iff] at h;have : l.any pr = false := by rw [List.any_eq_false]; intro x hx; rw [h x hx]; simp
  rw [this]; rfl
 |some i =>
  obtain ⟨hi, h1, _⟩ := List.findIdx?_eq_some_iff_getElem.1 h;have : l.any pr = true := List.any_eq_true.2 ⟨_, List.getElem_mem hi, h1⟩;rw [this]; simp
theorem Qlf (l : List (List UInt8)) (hl : l.length <= 1000000) (f : FuncId) (pr : List UInt8 -> Bool) (hf : ∀ args w, (callFunc f args).run Tryz.prog w = .ok (.enter f args) w) (h : ∀ p ∈ l, Pure Tryz.prog f [dS p] (dB (pr p))) :
 PureF Tryz.prog 365 [.d (tStrs l), .fn (.func f) []] (dI (Pl.idxS l pr)) := by
 (refine Qcc Tryz.func365 rfl Tryz.ntmps365 Tryz.results365 rfl ?_; simp only [parA, Nat.zero_add, Nat.reduceAdd])
 (repeat' (first | refine e1 (k := ?_) | refine Qbr ?_ | refine Qbt ?_ | refine Qbq ?_ | refine Qbx ?_ | fail))
 refine QbC (fun m st => ∃ k : Nat, k <= l.length /\ m = l.length - k /\ Hid (∀ x ∈ l.take k, pr x = false) /\ st = ⟨19, [(8, .d (dI k)), (7, .d (dI l.length)), (0, .d (tStrs l)), (1, .fn (.func f) [])], []⟩) [8, 7, 0, 1] 0 l.length ⟨0, by omega, rfl, Pm.hid (by simp), by simp [keepE, go_sem]⟩ (round := ?_);rintro m st ⟨k, hk, rfl, hA, rfl⟩
 (repeat (first | refine e1 (k := ?_) | refine Qbr ?_ | refine Qbt ?_ | refine Qbq ?_ | fail))
 cases q3 : decide ((k : Int) < (l.length : Int))
 ·(repeat' (first | refine e1 (k := ?_) | refine Qbr ?_ | refine Qbt ?_ | refine Qbq ?_ | refine Qb1 (hf := ?_) | refine Qb3 ?_ | fail))
  refine QbO (hx := ?_);have : k = l.length := by simp at q3; omega
  have h := hA.out;rw [this, List.take_length] at h;have : l.findIdx? pr = none := List.findIdx?_eq_none_iff.2 h;unfold Pl.idxS; rw [this]
 have hk2 : k < l.length := by simp at q3; omega
 obtain ⟨x, hx⟩ : ∃ x, l[k]? = some x := ⟨_, List.getElem?_eq_getElem hk2⟩;have hr := QbB (f := fun s => [dS s]) hx
 have T : Hid (pr x = false -> ∀ y ∈ l.take (k + 1), pr y = false) := Pm.hid fun h y hy => by
  rw [List.take_add_one, hx] at hy;rcases List.mem_append.1 hy with hy | hy
  ·exact hA.out y hy
  ·simp at hy; subst hy; exact h
 have F : Hid (pr x = true -> Pl.idxS l pr = k) := Pm.hid fun h => by
  have : l.findIdx? pr = some k := by
   rw [List.findIdx?_eq_some_iff_getElem];refine ⟨hk2, ?_, fun j hj => ?_⟩
   ·rw [(List.getElem?_eq_some_iff.1 hx).2]; exact h
   ·have := hA.out l[j] (List.mem_iff_getElem?.2 ⟨j, by rw [List.getElem?_take, if_pos hj]; exact List.getElem?_eq_getElem (by omega)⟩)
    rw [this]; simp
  unfold Pl.idxS; rw [this]
 have c := h x (List.mem_of_getElem? hx);clear hx hA;generalize pr x = b at *
 (repeat' (first | refine e1 (k := ?_) | refine stepS (Qbw Ty.h rfl Ty.h rfl rfl rfl (by omega) hr) (k := ?_) | refine stepS (Qc6 hf c rfl rfl) (k := ?_) | refine stepS (Qb6 rfl rfl (by omega)) (k := ?_) | refine Qbr ?_ | refine Qb4 ?_ | refine Qbt ?_ | refine Qbq ?_ | refine Qbz (ht := ?_) | refine Qb2 (ht := fun q => ?_) (hf := fun q => ?_) | refine Qby ?_ | refine Qbx ?_ | fail))
 all_goals first
  |exact Qb8 (l.length - (k + 1)) (by omega) ⟨k + 1, by omega, rfl, Pm.hid (T.out (by assumption)), by simp [keepE, go_sem]⟩
  |(refine QbO (hx := ?_); rw [F.out (by assumption)])
theorem Qhx (l : List (List UInt8)) (hl : l.length <= 1000000) (f : FuncId) (pr : List UInt8 -> Bool) (hf : ∀ args w, (callFunc f args).run Tryz.prog w = .ok (.enter f args) w) (h : ∀ p ∈ l, Pure Tryz.prog f [dS p] (dB (pr p))) :
 PureF Tryz.prog 341 [.d (tStrs l), .fn (.func f) []] (dB (l.any pr)) := by
 have c := Qlf l hl f pr hf h;have hd := Pm.hid (QnK l pr);generalize Pl.idxS l pr = i at *
 (refine Qcc Tryz.func341 rfl Tryz.ntmps341 Tryz.results341 rfl ?_; simp only [parA, Nat.zero_add, Nat.reduceAdd])
 (repeat' (first | refine e1 (k := ?_) | refine stepS (Qcv Tryz.call365 c rfl rfl) (k := ?_) | refine Qbr ?_ | refine Qbt ?_ | refine Qbq ?_ | fail))
 refine QbO (hx := ?_);rw [<- hd.out]
theorem Qob (s : List UInt8) (hs : s.length <= 1000000) : Pure Tryz.prog 342 [dS s] (dB (!Pl.Qaj s)) := by
 have c := bNameOk s hs
 (refine Qbv Tryz.func342 rfl Tryz.ntmps342 Tryz.results342 rfl ?_; simp only [parE, Nat.zero_add, Nat.reduceAdd])
 (repeat' (first | refine e1 (k := ?_) | refine stepS (Qbs Tryz.call284 c rfl) (k := ?_) | refine Qbr ?_ | refine Qbt ?_ | refine Qbq ?_ | fail))
 exact Qb0 (hx := rfl)
def Pl.Qbj (l : List (List UInt8)) : List UInt8 := 47 :: Pl.QaB 47 l
theorem Qiz (l : List (List UInt8)) (hl : l.length <= 1000000) (hs : ∀ x ∈ l, x.length <= 1000000) : Pure Tryz.prog 269 [tStrs l] (dS (Pl.Qbj l)) := by
 have hj := Qic 47 l 1000000 hs
 have hjl : (Pl.QaB 47 l).length <= 140737488355328 := by
  refine Nat.le_trans hj ?_;have := Nat.mul_le_mul_right (1000000 + 1) hl;omega
 have c := bJoin l 47 (by omega) hjl;clear hj;unfold Pl.Qbj;generalize Pl.QaB 47 l = j at *
 (refine Qbv Tryz.func269 rfl Tryz.ntmps269 Tryz.results269 rfl ?_; simp only [parE, Nat.zero_add, Nat.reduceAdd])
 (repeat' (first | refine e1 (k := ?_) | refine stepS (Qbs Tryz.call300 c rfl) (k := ?_) | refine stepS (QbV (l := [47]) rfl rfl (by simp; omega)) (k := ?_) | refine Qbr ?_ | refine Qbt ?_ | refine Qbq ?_ | fail))
 exact Qb0 (hx := rfl)
def Pl.QaT (l : List (List UInt8)) : List UInt8 × Bool := if decide (l.length <= 4) && l.all Pl.Qaj then (Pl.Qbj l, true) else ([], false)
theorem any_not (l : List (List UInt8)) : (l.any fun s => !Pl.Qaj s) = !l.all Pl.Qaj := by
 induction l with
 |nil => rfl
 |cons a l ih => simp [ih]
theorem bPathOf (l : List (List UInt8)) (hl : l.length <= 1000000) (hs : ∀ x ∈ l, x.length <= 1000000) : Pure Tryz.prog 315 [tStrs l] (.tup [dS (Pl.QaT l).1, dB (Pl.QaT l).2]) := by
 have c1 := Qhx l hl 342 (fun s => !Pl.Qaj s) Tryz.call342 fun p hp => Qob p (hs p hp)
 have c2 := Qiz l hl hs;rw [any_not] at c1;have hd : Hid (Pl.QaT l = if decide (l.length <= 4) && l.all Pl.Qaj then (Pl.Qbj l, true) else ([], false)) := Pm.hid rfl;generalize Pl.QaT l = res at *
 generalize l.all Pl.Qaj = o at *
 generalize Pl.Qbj l = t at *
 have g1 : Hid (l.length <= 4 -> o = true -> res = (t, true)) := Pm.hid fun h1 h2 => by rw [hd.out, h2, decide_eq_true h1]; rfl
 have g2 : Hid (¬ l.length <= 4 -> res = ([], false)) := Pm.hid fun h1 => by rw [hd.out, decide_eq_false h1]; rfl
 have g3 : Hid (o = false -> res = ([], false)) := Pm.hid fun h2 => by rw [hd.out, h2, Bool.and_false]; rfl
 clear hd
 (refine Qbv Tryz.func315 rfl Tryz.ntmps315 Tryz.results315 rfl ?_; simp only [parE, Nat.zero_add, Nat.reduceAdd])
 (repeat' (first | refine e1 (k := ?_) | refine e0 (k := ?_) | refine stepS (Qcv Tryz.call341 c1 rfl rfl) (k := ?_) | refine stepS (Qbs Tryz.call269 c2 rfl) (k := ?_) | refine Qbr ?_ | refine Qbt ?_ | refine Qbq ?_ | refine Qbz (ht := ?_) | refine Qb2 (ht := fun q => ?_) (hf := fun q => ?_) | refine Qby ?_ | ((fail_if_success show ASeq _ _ _ _ ⟨_, (_, .d (.v (.bool true))) :: _, _⟩); (fail_if_success show ASeq _ _ _ _ ⟨_, (_, .d (.v (.bool false))) :: _, _⟩); refine splitS (fun q => ?_) (fun q => ?_))))
 all_goals
  refine Qb0 (hx := ?_);simp only [decide_eq_true_eq, decide_eq_false_iff_not, Bool.not_eq_true', Bool.not_eq_false'] at *
  first
   |(rw [g2.out (by omega)]; done)
   |(rw [g2.out (by omega)]; rfl)
   |(rw [g3.out (by assumption)]; done)
   |(rw [g3.out (by assumption)]; rfl)
   |(rw [g1.out (by omega) (by assumption)]; done)
   |(rw [g1.out (by omega) (by assumption)]; rfl)
theorem Qi0 (s : List UInt8) (hs : s.length <= 1000000000000) : Pure Tryz.prog 364 [dS s, dS [47]] (dB (decide (s.head? = some 47))) := by
 cases s with
 |nil =>
  (refine Qbv Tryz.func364 rfl Tryz.ntmps364 Tryz.results364 rfl ?_; simp only [parE, Nat.zero_add, Nat.reduceAdd])
  (repeat' (first | refine e1 (k := ?_) | refine e0 (k := ?_) | refine Qbr ?_ | refine Qbt ?_ | refine Qbq ?_ | fail))
  exact Qb0 (hx := rfl)
 |cons c r =>
  have hd : Hid (decide ((c :: r).head? = some 47) = ((c :: r).take 1 == [47])) := Pm.hid (by rw [Bool.eq_iff_iff]; simp)
  (refine Qbv Tryz.func364 rfl Tryz.ntmps364 Tryz.results364 rfl ?_; simp only [parE, Nat.zero_add, Nat.reduceAdd])
  (repeat' (first | refine e1 (k := ?_) | refine e0 (k := ?_) | refine stepS (Qe7 rfl rfl rfl (by simp) (by simp only [List.length_cons]; simp; omega)) (k := ?_) | refine stepS (QbK (m := [47]) rfl rfl) (k := ?_) | refine Qbr ?_ | refine Qbt ?_ | refine Qbq ?_ | ((fail_if_success show ASeq _ _ _ _ ⟨_, (_, .d (.v (.bool true))) :: _, _⟩); (fail_if_success show ASeq _ _ _ _ ⟨_, (_, .d (.v (.bool false))) :: _, _⟩); refine splitS (fun q => ?_) (fun q => ?_))))
  all_goals first
   |(exfalso; simp at *; omega)
   |(refine Qb0 (hx := ?_)
     rw [hd.out]
     simp_all)
theorem Qjv (s : List UInt8) (hs : s.length <= 1000000000000) : Pure Tryz.prog 340 [dS s, dS [47]] (.tup [dS (if s.head? = some 47 then s.drop 1 else s), dB (decide (s.head? = some 47))]) := by
 have c := Qi0 s hs;have h1 : s.head? = some 47 -> 1 <= s.length := fun h => by cases s with | nil => cases h | cons a r => simp
 by_cases h : s.head? = some 47
 ·have h1 := h1 h
  rw [decide_eq_true h] at *
  rw [if_pos h]
  (refine Qbv Tryz.func340 rfl Tryz.ntmps340 Tryz.results340 rfl ?_; simp only [parE, Nat.zero_add, Nat.reduceAdd])
  (repeat' (first | refine e1 (k := ?_) | refine stepS (Qbs Tryz.call364 c rfl) (k := ?_) | refine stepS (Qe6 rfl rfl rfl (by simp) (by simp; omega)) (k := ?_) | refine Qbr ?_ | refine Qbt ?_ | refine Qbq ?_ | refine Qb1 (hf := ?_) | refine Qby ?_ | fail))
  exact Qb0 (hx := rfl)
 ·rw [decide_eq_false h] at *
  rw [if_neg h]
  (refine Qbv Tryz.func340 rfl Tryz.ntmps340 Tryz.results340 rfl ?_; simp only [parE, Nat.zero_add, Nat.reduceAdd])
  (repeat' (first | refine e1 (k := ?_) | refine stepS (Qbs Tryz.call364 c rfl) (k := ?_) | refine Qbr ?_ | refine Qbt ?_ | refine Qbq ?_ | refine Qbz (ht := ?_) | fail))
  exact Qb0 (hx := rfl)
theorem Qlm (s : List UInt8) (hs : s.length <= 1000000000000) : Pure Tryz.prog 314 [dS s, dS [47]] (.tup [dS (if s.head? = some 47 then s.drop 1 else s), dB (decide (s.head? = some 47))]) := by
 have c := Qjv s hs;generalize (if s.head? = some 47 then s.drop 1 else s) = r at *
 (refine Qbv Tryz.func314 rfl Tryz.ntmps314 Tryz.results314 rfl ?_; simp only [parE, Nat.zero_add, Nat.reduceAdd])
 (repeat' (first | refine e1 (k := ?_) | refine stepS (Qbs Tryz.call340 c rfl) (k := ?_) | refine Qbr ?_ | refine Qbt ?_ | refine Qbq ?_ | fail))
 exact Qb0 (hx := rfl)
theorem QkK (b : UInt8) (l : List (List UInt8)) (m : Nat) (h : ∀ x ∈ l, x.length <= m) (hn : l ≠ []) : (Pl.QaB b l).length + 1 <= l.length * (m + 1) := by
 induction l with
 |nil => exact absurd rfl hn
 |cons a l ih =>
  have h1 := h a List.mem_cons_self;cases l with
  |nil => simp [Pl.QaB]; omega
  |cons c l =>
   have ih := ih (fun x hx => h x (List.mem_cons_of_mem _ hx)) (by simp);have e : Pl.QaB b (a :: c :: l) = a ++ b :: Pl.QaB b (c :: l) := by simp [Pl.QaB, List.intersperse]
   rw [e, List.length_append, List.length_cons, List.length_cons, Nat.succ_mul];omega
theorem QhM {s : List UInt8} (h : 20 < s.length) : Pl.Qah s = none := by
 unfold Pl.Qah;rw [if_neg (by rintro rfl; simp at h), if_neg];rintro ⟨h1, h2, h3⟩;cases s with
 |nil => cases h1
 |cons c r =>
  obtain rfl : c = 47 := by simpa using h1
  rw [QcD, List.tail_cons] at h2 h3
  have := QkK 47 (Pl.cutB 47 r) 4 (fun x hx => by
   have := List.all_eq_true.1 h2 x hx;unfold Pl.Qaj at this;simp only [Bool.and_eq_true, decide_eq_true_eq] at this
   omega) (Pl.QdL 47 r)
  rw [QfJ] at this;simp only [List.length_cons] at h;omega
theorem QgR (r : List UInt8) : Pl.Qah (47 :: r) = if r = [] then some [] else if (Pl.QaT (Pl.cutB 47 r)).2 then some (Pl.cutB 47 r) else none := by
 unfold Pl.Qah Pl.QaT;rw [QcD, List.tail_cons]
 by_cases h : r = []
 ·subst h; rfl
 ·rw [if_neg (by simpa using h), if_neg h]
  by_cases h2 : (decide ((Pl.cutB 47 r).length <= 4) && (Pl.cutB 47 r).all Pl.Qaj) = true
  ·rw [if_pos h2, if_pos rfl]
   rw [Bool.and_eq_true, decide_eq_true_eq] at h2;rw [if_pos ⟨rfl, h2.2, h2.1⟩]
  ·rw [if_neg h2]
   rw [Bool.and_eq_true, decide_eq_true_eq] at h2;have h3 : ¬ ((47 :: r).head? = some 47 /\ (Pl.cutB 47 r).all Pl.Qaj = true /\ (Pl.cutB 47 r).length <= 4) := fun x => h2 ⟨x.2.2, x.2.1⟩
   rw [if_neg h3]; rfl
theorem Qle (s : List UInt8) (hs : s.length <= 1000000000000) : Pure Tryz.prog 267 [dS s] (.tup [tStrs ((Pl.Qah s).getD []), dB (Pl.Qah s).isSome]) := by
 have c1 := Qlm s hs
 by_cases h47 : s.head? = some 47
 rotate_left
 ·have hx : Hid (Pl.Qah s = none) := Pm.hid (by unfold Pl.Qah; rw [if_neg (by rintro rfl; exact h47 rfl), if_neg (fun x => h47 x.1)])
  have hs47 : (s == [47]) = false := by
   rw [beq_eq_false_iff_ne]; rintro rfl; exact h47 rfl
  rw [decide_eq_false h47, if_neg h47] at c1;generalize Pl.Qah s = res at *
  (refine Qbv Tryz.func267 rfl Tryz.ntmps267 Tryz.results267 rfl ?_; simp only [parE, Nat.zero_add, Nat.reduceAdd])
  (repeat' (first | refine e1 (k := ?_) | refine e0 (k := ?_) | refine stepS (QbK (m := [47]) rfl rfl) (k := ?_) | refine stepS (Qbs Tryz.call314 c1 rfl) (k := ?_) | refine Qbr ?_ | refine Qbt ?_ | refine Qbq ?_ | refine Qbz (ht := ?_) | refine Qb2 (ht := fun q => ?_) (hf := fun q => ?_) | refine Qby ?_ | fail))
  all_goals first
   |(exfalso; simp_all; done)
   |(refine Qco 2 true 1 (h := ?_)
     refine Qb0 (hx := ?_)
     first | (rw [hx.out]; done) | (rw [hx.out]; rfl))
 obtain ⟨r, rfl⟩ : ∃ r, s = 47 :: r := by
  cases s with
  |nil => cases h47
  |cons c r => exact ⟨r, by rw [show c = 47 by simpa using h47]⟩
 rw [decide_eq_true h47, if_pos h47] at c1;simp only [List.drop_succ_cons, List.drop_zero] at c1;have hd := Pm.hid (QgR r)
 by_cases h20 : (47 :: r).length <= 20
 rotate_left
 ·have hx := Pm.hid (QhM (s := 47 :: r) (by omega))
  have hne : r ≠ [] := by rintro rfl; simp at h20
  generalize Pl.Qah (47 :: r) = res at *
  clear hd
  (refine Qbv Tryz.func267 rfl Tryz.ntmps267 Tryz.results267 rfl ?_; simp only [parE, Nat.zero_add, Nat.reduceAdd])
  (repeat' (first | refine e1 (k := ?_) | refine stepS (QbK (m := [47]) rfl rfl) (k := ?_) | refine stepS (Qbs Tryz.call314 c1 rfl) (k := ?_) | refine Qbr ?_ | refine Qbt ?_ | refine Qbq ?_ | refine Qb2 (ht := fun q => ?_) (hf := fun q => ?_) | refine Qby ?_ | fail))
  all_goals first
   |(exfalso; simp_all; done)
   |(exfalso; simp at *; omega)
   |(refine Qco 2 true 1 (h := ?_)
     refine Qb0 (hx := ?_)
     first | (rw [hx.out]; done) | (rw [hx.out]; rfl))
 have hrl : r.length <= 19 := by simp only [List.length_cons] at h20; omega
 have c2 := bSplit r 47 (by omega);have hcl := QcH 47 r;have c3 := bPathOf (Pl.cutB 47 r) (by omega) (fun x hx => by have := hcl.2 x hx; omega)
 have ht : Hid ((Pl.QaT (Pl.cutB 47 r)).2 = true -> (Pl.QaT (Pl.cutB 47 r)).1 = 47 :: r) := Pm.hid fun h => by
  unfold Pl.QaT at h ⊢;split at h
  ·rename_i h2; rw [if_pos h2]; show 47 :: Pl.QaB 47 _ = _; rw [QfJ]
  ·cases h
 clear hcl;generalize Pl.Qah (47 :: r) = res at *
 generalize Pl.cutB 47 r = l at *
 generalize Pl.QaT l = po at *
 obtain ⟨again, fine⟩ := po;simp only at ht hd c3;have hrs : ((47 :: r) == [47]) = decide (r = []) := by rw [Bool.eq_iff_iff]; simp
 cases fine
 all_goals
  (refine Qbv Tryz.func267 rfl Tryz.ntmps267 Tryz.results267 rfl ?_; simp only [parE, Nat.zero_add, Nat.reduceAdd])
  (repeat' (first | refine e1 (k := ?_) | refine e0 (k := ?_) | refine stepS (QbK (l := 47 :: r) (m := [47]) rfl rfl) (k := ?_) | refine stepS (Qbs Tryz.call314 c1 rfl) (k := ?_) | refine stepS (Qbs Tryz.call243 c2 rfl) (k := ?_) | refine stepS (Qbs Tryz.call315 c3 rfl) (k := ?_) | refine stepS (QbU (m := 47 :: r) rfl rfl) (k := ?_) | refine Qbr ?_ | refine Qbt ?_ | refine Qbq ?_ | refine Qbz (ht := ?_) | refine Qb2 (ht := fun q => ?_) (hf := fun q => ?_) | refine Qby ?_ | fail))
 all_goals first
  |(exfalso; simp at *; omega)
  |(refine Qco 2 true 1 (h := ?_)
    refine Qb0 (hx := ?_)
    first
     |(exfalso; have h9 := ht.out rfl; clear ht; simp_all; done)
     |(have h9 := hd.out; clear hd ht; simp_all; done)
     |(have h9 := hd.out; clear hd ht; simp_all; rfl))
  |(refine Qb0 (hx := ?_)
    have h9 := hd.out;clear hd ht
    first | (simp_all; done) | (simp_all; rfl))
theorem QoB : ∀ a b : List UInt8, decide (Lib.compareBytes a b < 0) = Op.bytesLess a b
 |[], [] => by simp [Lib.compareBytes, Op.bytesLess]
 |[], _ :: _ => by simp [Lib.compareBytes, Op.bytesLess]
 |_ :: _, [] => by simp [Lib.compareBytes, Op.bytesLess]
 |a :: x, b :: y => by
  have ih := QoB x y;unfold Lib.compareBytes Op.bytesLess
  by_cases h : a < b
  ·simp [h]
  ·by_cases h2 : b < a
   ·have : a ≠ b := by rintro rfl; exact h h2
    simp [h, h2, this]
   ·have : a = b := UInt8.le_antisymm (UInt8.not_lt.1 h2) (UInt8.not_lt.1 h)
    subst this;simp only [h, if_false, BEq.rfl, Bool.true_and, decide_false, Bool.false_or];exact ih
theorem QoC : ∀ a b : List UInt8, (Lib.compareBytes a b == 0) = (a == b)
 |[], [] => by simp [Lib.compareBytes]
 |[], _ :: _ => by simp [Lib.compareBytes]
 |_ :: _, [] => by simp [Lib.compareBytes]
 |a :: x, b :: y => by
  have ih := QoC x y;unfold Lib.compareBytes
  by_cases h : a < b
  ·have : a ≠ b := by rintro rfl; exact absurd h (UInt8.lt_irrefl _)
   simp [h, this]
  ·by_cases h2 : b < a
   ·have : a ≠ b := by rintro rfl; exact h h2
    simp [h, h2, this]
   ·have : a = b := UInt8.le_antisymm (UInt8.not_lt.1 h2) (UInt8.not_lt.1 h)
    subst this;simp only [h, if_false, ih];rw [Bool.eq_iff_iff]; simp
theorem Qoh (a b : List UInt8) : Pure Tryz.prog 320 [dS a, dS b] (dI (Lib.compareBytes a b)) :=
 QbY rfl fun w _ => (Tryz.strings_Compare ⟨a.toArray⟩ ⟨b.toArray⟩ w).mono fun e w' h => ⟨h.1, h.2 ▸ Below.refl _ _⟩
theorem QmW (e : Pl.Ent) (n : List UInt8) : Pure Tryz.prog 344 [.agg (rEnt e), dS n] (dI (Lib.compareBytes e.1 n)) := by
 have c := Qoh e.1 n;generalize Lib.compareBytes e.1 n = r at *
 (refine Qbv Tryz.func344 rfl Tryz.ntmps344 Tryz.results344 rfl ?_; simp only [parE, Nat.zero_add, Nat.reduceAdd])
 (refine Qbt (Qbq ?_); (repeat (first | refine e1 (k := ?_) | refine e2 (k := ?_) | fail)); refine Qbr ?_)
 refine Qbu 0 (h := ?_)
 (repeat' (first | refine e1 (k := ?_) | refine stepS (Qbs Tryz.call320 c rfl) (k := ?_) | refine Qbr ?_ | refine Qbt ?_ | refine Qbq ?_ | fail))
 exact Qb0 (hx := rfl)
def Pl.lowB (l : List Pl.Ent) (n : List UInt8) : Nat := (l.takeWhile fun e => Op.bytesLess e.1 n).length
def Pl.QaE (l : List Pl.Ent) (n : List UInt8) : Bool := match l[Pl.lowB l n]? with
 |some e => e.1 == n
 |none => false
theorem Qfe {α : Type} (p : α -> Bool) : ∀ (l : List α) (i : Nat), i <= l.length -> (∀ k (h : k < l.length), k < i -> p l[k] = true) -> (∀ h : i < l.length, p l[i] = false) -> (l.takeWhile p).length = i
 |[], i, hi, _, _ => by simp at hi; subst hi; rfl
 |a :: l, 0, _, _, h2 => by
  have := h2 (by simp);simp at this;simp [List.takeWhile, this]
 |a :: l, i + 1, hi, h1, h2 => by
  have h := h1 0 (by simp) (by omega);simp only [List.getElem_cons_zero] at h;rw [List.takeWhile_cons, if_pos h, List.length_cons, Qfe p l i (by simpa using hi) (fun k hk hki => h1 (k + 1) (by simpa using hk) (by omega)) (fun hh => h2 (by simpa using hh))]
theorem Qd7 {α : Type} (p : α -> Bool) : ∀ (l : List α), (∀ k (h : k < l.length), k < (l.takeWhile p).length -> p l[k] = true) /\ (∀ e, l[(l.takeWhile p).length]? = some e -> p e = false)
 |[] => ⟨fun k h => by simp at h, fun e h => by simp at h⟩
 |a :: l => by
  obtain ⟨h1, h2⟩ := Qd7 p l;rw [List.takeWhile_cons]
  by_cases h : p a = true
  ·rw [if_pos h]
   refine ⟨fun k hk hki => ?_, fun e he => ?_⟩
   ·cases k with
    |zero => exact h
    |succ k => exact h1 k (by simpa using hk) (by simpa using hki)
   ·rw [List.length_cons, List.getElem?_cons_succ] at he; exact h2 e he
  ·rw [if_neg h]
   refine ⟨fun k hk hki => by simp at hki, fun e he => ?_⟩;simp only [List.length_nil, List.getElem?_cons_zero, Option.some.injEq] at he;subst he; simpa using h
theorem QjR {l : List Pl.Ent} (h : Pl.Qaf l = true) (n : List UInt8) {i j : Nat} (hi : i < l.length) (hj : j < l.length) (hij : i <= j) (hl : Op.bytesLess l[j].1 n = true) : Op.bytesLess l[i].1 n = true := by
 rcases Nat.eq_or_lt_of_le hij with e | e
 ·subst e; exact hl
 ·exact Qhv (Qhn h hj e) hl
theorem Qjm {l : List Pl.Ent} (h : Pl.Qaf l = true) (n : List UInt8) : l.find? (fun e => e.1 == n) = if Pl.QaE l n then l[Pl.lowB l n]? else none := by
 unfold Pl.QaE;obtain ⟨hlow, hat⟩ := Qd7 (fun e : Pl.Ent => Op.bytesLess e.1 n) l;rw [show (l.takeWhile fun e => Op.bytesLess e.1 n).length = Pl.lowB l n from rfl] at hlow hat;cases he : l[Pl.lowB l n]? with
 |none =>
  simp only [Bool.false_eq_true, if_false];rw [List.find?_eq_none];intro x hx;obtain ⟨k, hk, rfl⟩ := List.getElem_of_mem hx;have := hlow k hk (by have := List.getElem?_eq_none_iff.1 he; omega);simp only [beq_iff_eq];intro e; rw [e, QdP] at this; cases this
 |some e =>
  have hb := hat e he;obtain ⟨hlt, hge⟩ := List.getElem?_eq_some_iff.1 he;simp only
  by_cases hn : e.1 = n
  ·rw [if_pos (by simpa using hn), List.find?_eq_some_iff_getElem]
   refine ⟨by simpa using hn, _, hlt, hge, fun j hj => ?_⟩;have := hlow j (by omega) hj;simp only [Bool.not_eq_true', beq_eq_false_iff_ne];intro e2; rw [e2, QdP] at this; cases this
  ·rw [if_neg (by simpa using hn), List.find?_eq_none]
   intro x hx;obtain ⟨k, hk, rfl⟩ := List.getElem_of_mem hx;simp only [beq_iff_eq];intro e2;rcases Nat.lt_trichotomy k (Pl.lowB l n) with h1 | h1 | h1
   ·have := hlow k hk h1
    rw [e2, QdP] at this; cases this
   ·subst h1; rw [hge] at e2; exact hn e2
   ·have := Qhn h hk h1
    rw [hge, e2, hb] at this; cases this
theorem Qln (l : List Pl.Ent) (n : List UInt8) (hE : Pl.Qaf l = true) (f : FuncId) (hf : ∀ args w, (callFunc f args).run Tryz.prog w = .ok (.enter f args) w) (h : ∀ e ∈ l, Pure Tryz.prog f [.agg (rEnt e), dS n] (dI (Lib.compareBytes e.1 n))) :
 PureF Tryz.prog 343 [.d (dEnts l), .d (dS n), .fn (.func f) []] (.tup [dI (Pl.lowB l n), dB (Pl.QaE l n)]) := by
 have hl : l.length <= 12 := by have := hE; unfold Pl.Qaf at this; rw [Bool.and_eq_true, decide_eq_true_eq] at this; exact this.2
 have hEd := Pm.hid hE;clear hE
 (refine Qcc Tryz.func343 rfl Tryz.ntmps343 Tryz.results343 rfl ?_; simp only [parA, Nat.zero_add, Nat.reduceAdd])
 (repeat' (first | refine e1 (k := ?_) | refine Qbr ?_ | refine Qbt ?_ | refine Qbq ?_ | refine Qbx ?_ | fail))
 refine QbC (fun m st => ∃ i j : Nat, i <= j /\ j <= l.length /\ m = j - i /\ Hid (∀ k (h : k < l.length), k < i -> Op.bytesLess l[k].1 n = true) /\ Hid (∀ k (h : k < l.length), j <= k -> Op.bytesLess l[k].1 n = false) /\
  st = ⟨49, [(9, .d (dI i)), (10, .d (dI j)), (8, .d (dI l.length)), (0, .d (dEnts l)), (1, .d (dS n)), (2, .fn (.func f) [])], []⟩) [9, 10, 8, 0, 1, 2] 0 l.length ⟨0, l.length, by omega, by omega, by omega, Pm.hid fun _ _ h => by omega, Pm.hid fun _ _ h => by omega, by simp [keepE, go_sem]⟩ (round := ?_)
 rintro m st ⟨i, j, hij, hj, rfl, hA, hB, rfl⟩
 (repeat (first | refine e1 (k := ?_) | refine Qbr ?_ | refine Qbt ?_ | refine Qbq ?_ | fail))
 by_cases q3 : i < j
 rotate_left
 ·have e : i = j := by omega
  subst e;have hlow : Hid (Pl.lowB l n = i) := Pm.hid (Qfe _ l i hj (fun k hk hki => hA.out k hk hki) (fun hh => hB.out i hh (Nat.le_refl _)))
  by_cases q4 : i < l.length
  ·obtain ⟨x, hx⟩ : ∃ x, l[i]? = some x := ⟨_, List.getElem?_eq_getElem q4⟩
   have hr := QbB (f := rEnt) hx;have c := h x (List.mem_of_getElem? hx);have hit : Hid (Pl.QaE l n = (x.1 == n)) := Pm.hid (by unfold Pl.QaE; rw [hlow.out, hx]);rw [<- QoC] at hit;clear hx hA hB hEd;generalize Lib.compareBytes x.1 n = r at *
   generalize Pl.QaE l n = hh at *
   generalize Pl.lowB l n = lo at *
   (repeat' (first | refine e1 (k := ?_) | refine e0 (k := ?_) | refine stepS (Qbw Ty.h rfl Ty.h rfl rfl rfl (by omega) hr) (k := ?_) | refine stepS (Qc6 hf c rfl rfl) (k := ?_) | refine stepS (Qb6 rfl rfl (by omega)) (k := ?_) | refine Qbr ?_ | refine Qbt ?_ | refine Qbq ?_ | refine Qb2 (ht := fun q => ?_) (hf := fun q => ?_) | refine Qby ?_ | refine Qc0 ?_ | refine Qbx ?_ | refine Qb3 ?_ | ((fail_if_success show ASeq _ _ _ _ ⟨_, (_, .d (.v (.bool true))) :: _, _⟩); (fail_if_success show ASeq _ _ _ _ ⟨_, (_, .d (.v (.bool false))) :: _, _⟩); refine splitS (fun q => ?_) (fun q => ?_))))
   all_goals first
    |(exfalso; simp only [decide_eq_true_eq, decide_eq_false_iff_not] at *; omega)
    |(refine QbO (hx := ?_)
      rw [hlow.out, hit.out])
  ·have hit : Hid (Pl.QaE l n = false) := Pm.hid (by unfold Pl.QaE; rw [hlow.out, List.getElem?_eq_none_iff.2 (by omega)])
   clear hA hB hEd;generalize Pl.QaE l n = hh at *
   generalize Pl.lowB l n = lo at *
   (repeat' (first | refine e1 (k := ?_) | refine e0 (k := ?_) | refine stepS (Qb6 rfl rfl (by omega)) (k := ?_) | refine Qbr ?_ | refine Qbt ?_ | refine Qbq ?_ | refine Qb2 (ht := fun q => ?_) (hf := fun q => ?_) | refine Qby ?_ | refine Qc0 ?_ | refine Qbx ?_ | refine Qb3 ?_ | ((fail_if_success show ASeq _ _ _ _ ⟨_, (_, .d (.v (.bool true))) :: _, _⟩); (fail_if_success show ASeq _ _ _ _ ⟨_, (_, .d (.v (.bool false))) :: _, _⟩); refine splitS (fun q => ?_) (fun q => ?_))))
   all_goals first
    |(exfalso; simp only [decide_eq_true_eq, decide_eq_false_iff_not] at *; omega)
    |(refine QbO (hx := ?_)
      rw [hlow.out, hit.out])
 have hm : (i + j) / 2 < l.length := by omega
 obtain ⟨x, hx⟩ : ∃ x, l[(i + j) / 2]? = some x := ⟨_, List.getElem?_eq_getElem hm⟩;have hxe : l[(i + j) / 2] = x := (List.getElem?_eq_some_iff.1 hx).2;have hr := QbB (f := rEnt) hx;have c := h x (List.mem_of_getElem? hx);have hlt := Pm.hid (QoB x.1 n);have T : Hid (Op.bytesLess x.1 n = true -> ∀ k (h : k < l.length), k < (i + j) / 2 + 1 -> Op.bytesLess l[k].1 n = true) := Pm.hid fun hb k hk hki => QjR hEd.out n hk hm (by omega) (by rw [hxe]; exact hb)
 have F : Hid (Op.bytesLess x.1 n = false -> ∀ k (h : k < l.length), (i + j) / 2 <= k -> Op.bytesLess l[k].1 n = false) := Pm.hid fun hb k hk hki => by
  cases hv : Op.bytesLess l[k].1 n with
  |false => rfl
  |true => have := QjR hEd.out n hm hk hki hv; rw [hxe, hb] at this; cases this
 generalize hmv : (i + j) / 2 = mm at *
 have hmi : (((i : Int) + j) / 2) = (mm : Int) := by omega
 clear hx hxe hEd;generalize Op.bytesLess x.1 n = b at *
 generalize Lib.compareBytes x.1 n = r at *
 (repeat' (first | refine e1 (k := ?_) | refine e0 (k := ?_) | refine stepS (QhY (D1 := .int .i64) (k' := .u64) (m := (i : Int) + j) (by kernel_rfl) (by kernel_rfl) rfl rfl (by rw [IntKind.wrap_u64]; omega)) (k := ?_) | refine stepS (Qn7 rfl rfl (by omega)) (k := ?_) | refine stepS (QhY (D1 := .int .u64) (k' := .i64) (m := (mm : Int)) (by kernel_rfl) (by kernel_rfl) rfl rfl (by rw [hmi, IntKind.wrap_i64]; omega)) (k := ?_) | refine stepS (Qbw Ty.h rfl Ty.h rfl rfl rfl (by omega) hr) (k := ?_) | refine stepS (Qc6 hf c rfl rfl) (k := ?_) | refine stepS (Qb6 rfl rfl (by omega)) (k := ?_) | refine Qbr ?_ | refine QbF ?_ | refine Qbt ?_ | refine Qbq ?_ | refine Qb2 (ht := fun q => ?_) (hf := fun q => ?_) | refine Qby ?_ | refine Qc0 ?_ | refine Qbx ?_ | refine Qb3 ?_ | refine QdC ?_ | ((fail_if_success show ASeq _ _ _ _ ⟨_, (_, .d (.v (.bool true))) :: _, _⟩); (fail_if_success show ASeq _ _ _ _ ⟨_, (_, .d (.v (.bool false))) :: _, _⟩); refine splitS (fun q => ?_) (fun q => ?_))))
 all_goals first
  |(exfalso; simp only [decide_eq_true_eq, decide_eq_false_iff_not] at *; omega)
  |(have hb := hlt.out.symm.trans ‹decide (r < 0) = true›
    exact Qb8 (j - (mm + 1)) (by omega) ⟨mm + 1, j, by omega, hj, by omega, Pm.hid (T.out hb), hB, by simp [keepE, go_sem]⟩)
  |(have hb := hlt.out.symm.trans ‹decide (r < 0) = false›
    exact Qb8 (mm - i) (by omega) ⟨i, mm, by omega, by omega, by omega, hA, Pm.hid (F.out hb), by simp [keepE, go_sem]⟩)
theorem Qkc (l : List Pl.Ent) (n : List UInt8) (hE : Pl.Qaf l = true) : Pure Tryz.prog 316 [dEnts l, dS n] (.tup [dI (Pl.lowB l n), dB (Pl.QaE l n)]) := by
 have c := Qln l n hE 344 Tryz.call344 fun e _ => QmW e n
 clear hE;generalize Pl.lowB l n = lo at *
 generalize Pl.QaE l n = hh at *
 (refine Qbv Tryz.func316 rfl Tryz.ntmps316 Tryz.results316 rfl ?_; simp only [parE, Nat.zero_add, Nat.reduceAdd])
 (repeat' (first | refine e1 (k := ?_) | refine stepS (Qcv Tryz.call343 c rfl rfl) (k := ?_) | refine Qbr ?_ | refine Qbt ?_ | refine Qbq ?_ | fail))
 exact Qb0 (hx := rfl)
noncomputable abbrev rFiles (s : Pm.Store) (t : Pl.Tree) (x : List (List UInt8)) (m : List (Int × D)) : List D :=
 [.pd (rSt s), dI t.root.pat, dI t.root.birth, dI t.root.size, dI t.root.sum, dI t.root.level, dI t.depth, dI t.many, tNds x, .mp (imap m)]
def Pl.Qbm (m : List (Int × D)) (L : Int -> List Pl.Ent) : Prop :=
 ∀ n, 0 <= n -> Pl.Qaf (L n) = true /\ (mget m n = some (tEnts (L n)) ∨ mget m n = none /\ L n = [])
def Pl.QaX (L : Int -> List Pl.Ent) : Int -> List (List UInt8) -> Option Int
 |i, [] => some i
 |i, n :: q => match (L i).find? (fun e => e.1 == n) with
  |none => none
  |some e => Pl.QaX L e.2 q
theorem Qm0 (L : Int -> List Pl.Ent) (i : Int) : Pl.QaX L i [] = some i := rfl
theorem QeT (L : Int -> List Pl.Ent) (i : Int) (n : List UInt8) (q : List (List UInt8)) : Pl.QaX L i (n :: q) = match (L i).find? (fun e => e.1 == n) with
 |none => none
 |some e => Pl.QaX L e.2 q := rfl
theorem Qjh (E : Pl.Node -> List Pl.Ent × Bool) (ns : List Pl.Node) : ∀ (q : List (List UInt8)) (i : Int), Pl.QaX (fun i => (E (ns.getD i.toNat Pl.zn)).1) i q = Pl.Qbo E ns i q
 |[], _ => rfl
 |n :: q, i => by
  rw [QeT, Qed];generalize (E (ns.getD i.toNat Pl.zn)).1.find? (fun e => e.1 == n) = r;cases r with
  |none => rfl
  |some e => exact Qjh E ns q _
section
variable {P : Program} {dst : Option Tmp} {ty : TypeId} {pos : String} {after : Array Edge} {gd : Option (Nat × Bool)} {env : List (Nat × AV)} {H : List Blk} {T kt et : TypeId} {z : Value}
theorem Qeh (hT : P.underlying T = some (.map kt et)) (hk : P.underlying kt = some (.int .i64)) (hz : (P.info? et).bind (·.zero) = some z) {u v : Operand} {m : List (Int × D)} {n : Int} {d : D}
 (hu : aval env u = .d (.mp (imap m))) (hv : aval env v = .d (.v (.int .i64 n))) (hg : mget m n = some d) : Loc P ⟨dst, .lookup T u v false, ty, pos, after, gd⟩ env H (.d d) none := by
 have h := Qes (dst := dst) (ty := ty) (pos := pos) (after := after) (gd := gd) (H := H) hT hk hz hu hv;rw [hg] at h; exact h
theorem Qgl (hT : P.underlying T = some (.map kt et)) (hk : P.underlying kt = some (.int .i64)) (hz : (P.info? et).bind (·.zero) = some z) {u v : Operand} {m : List (Int × D)} {n : Int}
 (hu : aval env u = .d (.mp (imap m))) (hv : aval env v = .d (.v (.int .i64 n))) (hg : mget m n = none) : Loc P ⟨dst, .lookup T u v false, ty, pos, after, gd⟩ env H (.d (.v z)) none := by
 have h := Qes (dst := dst) (ty := ty) (pos := pos) (after := after) (gd := gd) (H := H) hT hk hz hu hv;rw [hg] at h; exact h
end
attribute [local irreducible] mget
theorem bFind (s : Pm.Store) (t : Pl.Tree) (x : List (List UInt8)) (m : List (Int × D)) (L : Int -> List Pl.Ent) (hm : Pl.Qbm m L) (q : List (List UInt8)) (hq : q.length <= 1000000) :
 Pure Tryz.prog 268 [.pd (rFiles s t x m), tStrs q] (dI ((Pl.QaX L 0 q).getD (-1))) := by
 (refine Qbv Tryz.func268 rfl Tryz.ntmps268 Tryz.results268 rfl ?_; simp only [parE, Nat.zero_add, Nat.reduceAdd])
 (repeat' (first | refine e1 (k := ?_) | refine Qbr ?_ | refine Qbt ?_ | refine Qbq ?_ | refine Qbx ?_ | fail))
 refine QbC (fun mm st => ∃ (k : Nat) (at_ : Int), k <= q.length /\ mm = q.length - k /\ 0 <= at_ /\ at_ <= 1000000 /\ Hid (Pl.QaX L 0 q = Pl.QaX L at_ (q.drop k)) /\
  st = ⟨41, [(12, .d (dI k)), (11, .d (dI q.length)), (10, .d (tStrs q)), (5, .d (dI at_)), (0, .d (.pd (rFiles s t x m)))], []⟩) [12, 11, 10, 5, 0] 0 q.length ⟨0, 0, by omega, rfl, by omega, by omega, Pm.hid rfl, by simp [keepE, go_sem]⟩ (round := ?_)
 rintro mm st ⟨k, at_, hk, rfl, ha, hb, hF, rfl⟩
 (repeat (first | refine e1 (k := ?_) | refine Qbr ?_ | refine Qbt ?_ | refine Qbq ?_ | fail))
 cases q3 : decide ((k : Int) < (q.length : Int))
 ·(repeat' (first | refine e1 (k := ?_) | refine Qbr ?_ | refine Qbt ?_ | refine Qbq ?_ | refine Qb1 (hf := ?_) | refine Qb3 ?_ | fail))
  refine Qb0 (hx := ?_);have : k = q.length := by simp at q3; omega
  rw [hF.out, this, List.drop_length]; rfl
 have hk2 : k < q.length := by simp at q3; omega
 obtain ⟨n, hn⟩ : ∃ n, q[k]? = some n := ⟨_, List.getElem?_eq_getElem hk2⟩;have hr := QbB (f := fun s => [dS s]) hn
 have hd : q.drop k = n :: q.drop (k + 1) := by
  rw [List.drop_eq_getElem_cons hk2, (List.getElem?_eq_some_iff.1 hn).2]
 have hst := hF.out;rw [hd, QeT] at hst;obtain ⟨hE, hg⟩ := hm at_ ha;rw [Qjm hE] at hst;clear hn hd hF;have hs2 := Pm.hid hst;clear hst;rcases hg with hg | ⟨hg, hl⟩
 ·have c := (Qkc (L at_) n hE).arg (l := [tEnts (L at_), dS n])
  cases hh : Pl.QaE (L at_) n
  ·rw [hh] at c hs2
   generalize Pl.lowB (L at_) n = lo at *
   clear hE
   (repeat' (first | refine e1 (k := ?_) | refine stepS (Qbw Ty.h rfl Ty.h rfl rfl rfl (by omega) hr) (k := ?_) | refine stepS (QbW rfl) (k := ?_) | refine stepS (Qeh Tryz.underlying263 Tryz.underlying3 (z := .slice none 0 0) (by kernel_rfl) rfl rfl hg) (k := ?_) | refine stepS (Qbs Tryz.call316 c rfl) (k := ?_) | refine Qbr ?_ | refine Qbt ?_ | refine Qbq ?_ | refine Qbz (ht := ?_) | refine Qby ?_ | refine Qbx ?_ | fail))
   refine Qb0 (hx := ?_);rw [hs2.out]; rfl
  ·rw [hh] at c hs2
   have hlen : ∃ e, (L at_)[Pl.lowB (L at_) n]? = some e := by
    unfold Pl.QaE at hh;split at hh
    ·rename_i e he; exact ⟨e, he⟩
    ·cases hh
   obtain ⟨e, he⟩ := hlen;have hre := QbB (f := rEnt) he;have heb := (ent_b hE e (List.mem_of_getElem? he)).2;have hs3 : Hid (Pl.QaX L 0 q = Pl.QaX L e.2 (q.drop (k + 1))) := Pm.hid (by rw [hs2.out, if_pos rfl, he]);have hll := (List.getElem?_eq_some_iff.1 he).1;clear hs2 he hE;generalize Pl.lowB (L at_) n = lo at *
   (repeat' (first | refine e1 (k := ?_) | refine stepS (Qbw Ty.h rfl Ty.h rfl rfl rfl (by omega) hr) (k := ?_) | refine stepS (Qbw Ty.h rfl Ty.h rfl rfl rfl (by omega) hre) (k := ?_) | refine stepS (QbW rfl) (k := ?_) | refine stepS (Qeh Tryz.underlying263 Tryz.underlying3 (z := .slice none 0 0) (by kernel_rfl) rfl rfl hg) (k := ?_) | refine stepS (Qbs Tryz.call316 c rfl) (k := ?_) | refine stepS (Qb6 rfl rfl (by omega)) (k := ?_) | refine Qbr ?_ | refine Qb4 ?_ | refine QbF ?_ | refine Qbt ?_ | refine Qbq ?_ | refine Qbz (ht := ?_) | refine Qb1 (hf := ?_) | refine Qby ?_ | refine Qbx ?_ | fail))
   refine Qb8 (q.length - (k + 1)) (by omega) ⟨k + 1, e.2, by omega, rfl, by omega, by omega, hs3, by simp [keepE, go_sem]⟩
 ·rw [hl] at hs2 hE
  have c := (Qkc [] n hE);have c2 : Pl.QaE [] n = false := rfl;have c3 : Pl.lowB [] n = 0 := rfl;rw [c2, c3] at c;rw [c2] at hs2;clear hE c2 c3
  (repeat' (first | refine e1 (k := ?_) | refine stepS (Qbw Ty.h rfl Ty.h rfl rfl rfl (by omega) hr) (k := ?_) | refine stepS (QbW rfl) (k := ?_) | refine stepS (Qgl Tryz.underlying263 Tryz.underlying3 (z := .slice none 0 0) (by kernel_rfl) rfl rfl hg) (k := ?_) | refine (aw_nilS 22 false 2 (h := ?_)) | refine stepS (Qbs Tryz.call316 c rfl) (k := ?_) | refine Qbr ?_ | refine Qbt ?_ | refine Qbq ?_ | refine Qbz (ht := ?_) | refine Qby ?_ | refine Qbx ?_ | fail))
  refine Qb0 (hx := ?_);rw [hs2.out]; rfl
theorem bPath (s : Pm.Store) (t : Pl.Tree) (x : List (List UInt8)) (m : List (Int × D)) (L : Int -> List Pl.Ent) (hm : Pl.Qbm m L) (p : List UInt8) (hp : p.length <= 1000000000000) :
 Pure Tryz.prog 193 [.pd (rFiles s t x m), dS p] (dI (match Pl.Qah p with | none => -1 | some q => (Pl.QaX L 0 q).getD (-1))) := by
 have c1 := Qle p hp;cases hq : Pl.Qah p with
 |none =>
  rw [hq] at c1
  (refine Qbv Tryz.func193 rfl Tryz.ntmps193 Tryz.results193 rfl ?_; simp only [parE, Nat.zero_add, Nat.reduceAdd])
  (repeat' (first | refine e1 (k := ?_) | refine stepS (Qbs Tryz.call267 c1 rfl) (k := ?_) | refine Qbr ?_ | refine Qbt ?_ | refine Qbq ?_ | refine Qbz (ht := ?_) | fail))
  exact Qb0 (hx := rfl)
 |some q =>
  rw [hq] at c1;have hl := (QdA.1 hq).2.1;have c2 := bFind s t x m L hm q (by omega);simp only [Option.getD_some, Option.isSome_some] at c1;simp only;generalize (Pl.QaX L 0 q).getD (-1) = r at *
  (refine Qbv Tryz.func193 rfl Tryz.ntmps193 Tryz.results193 rfl ?_; simp only [parE, Nat.zero_add, Nat.reduceAdd])
  (repeat' (first | refine e1 (k := ?_) | refine stepS (Qbs Tryz.call267 c1 rfl) (k := ?_) | refine stepS (Qbs Tryz.call268 c2 rfl) (k := ?_) | refine Qbr ?_ | refine Qbt ?_ | refine Qbq ?_ | refine Qb1 (hf := ?_) | refine Qby ?_ | fail))
  exact Qb0 (hx := rfl)
end Aw
end Go.Proofs.YtdjkdcokjoiokaaGreatDoor

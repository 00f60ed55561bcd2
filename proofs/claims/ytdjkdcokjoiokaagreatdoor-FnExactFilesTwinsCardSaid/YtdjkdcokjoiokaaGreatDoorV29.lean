/- Part 29 of the proof of twins_card: contracts, walks, plain laws; no condition is assumed beyond those that a statement names. -/
import Derived.Test.YtdjkdcokjoiokaaGreatDoorV26
import Derived.Test.YtdjkdcokjoiokaaGreatDoorV27
import Derived.Test.YtdjkdcokjoiokaaGreatDoorV28
set_option linter.all false
set_option maxRecDepth 100000
set_option maxHeartbeats 4000000
namespace Go.Proofs.YtdjkdcokjoiokaaGreatDoor
open Go.RowKit
namespace Aw
attribute [local irreducible] ASeq ADraw AWP Loc
theorem QeC : ∀ c : Nat, Lib.repeatL [0] c = List.replicate c 0
 |0 => rfl
 |c + 1 => by rw [Lib.repeatL, QeC c]; rfl
theorem Qnm (c : Nat) (hc : c <= 1000) : Pure Tryz.prog 338 [dS [0], dI c] (dS (List.replicate c 0)) :=
 QbL (x := .string ⟨(List.replicate c 0).toArray⟩) rfl fun w _ => (Tryz.strings_Repeat ⟨#[0]⟩ c w (by omega) (by show 1 * c <= _; omega)).mono fun e w' h => ⟨by rw [<- QeC]; exact h.1, h.2⟩
theorem QhX (s : List UInt8) : ([0] : List UInt8).isSuffixOf s = !(Pl.cut0 s == s) := by
 rw [Bool.eq_iff_iff, List.isSuffixOf_iff_suffix];have := QlW s;rcases List.eq_nil_or_concat s with rfl | ⟨l, c, rfl⟩
 ·simp [Qjv]
 ·rw [List.concat_eq_append] at *
  have h1 : ([0] : List UInt8) <:+ l ++ [c] ↔ c = 0 := by
   constructor
   ·rintro ⟨t, ht⟩
    have := List.append_inj' ht rfl;have := this.2;simp at this; exact this.symm
   ·rintro rfl; exact ⟨l, rfl⟩
  rw [h1];simp only [List.getLast?_append, List.getLast?_singleton, Option.some_or, ne_eq, Option.some.injEq] at this
  by_cases hc : c = 0
  ·simp [hc] at this ⊢; exact this
  ·simp [hc] at this ⊢; exact this
def Pl.QaH (size : Int) (k : Int) : Int := if 0 < (if size - k * 12 < 12 then size - k * 12 else 12) then (if size - k * 12 < 12 then size - k * 12 else 12) else 0
theorem Qkx (size : Int) (k : Nat) (h0 : 0 <= size) (h1 : size <= 2048) (hk : k <= 100) : Pure Tryz.prog 311 [dI size, dI k] (dI (Pl.QaH size k)) := by
 (refine Qbm Tryz.func311 rfl Tryz.ntmps311 Tryz.results311 rfl ?_; simp only [parE, Nat.zero_add, Nat.reduceAdd])
 (repeat' (first | refine e1 (k := ?_) | refine stepS (Qdx rfl rfl (by omega)) (k := ?_) | refine stepS (Qlu rfl rfl) (k := ?_) | refine stepS (Qlv rfl rfl) (k := ?_) | refine stepS (QbD rfl rfl (by omega)) (k := ?_) | refine Qbf ?_ | refine Qbh ?_ | refine Qbe ?_ | fail))
 exact Qbp (hx := by unfold Pl.QaH; rfl)
theorem QfI {size : Int} {k : Nat} (h : (k : Int) * 12 < size) : Pl.QaH size k = Pl.long size k := by
 unfold Pl.QaH Pl.long;split <;> split <;> omega
def Pl.fill (s : List UInt8) (n : Int) : List UInt8 × Bool := if Pl.inR n 0 12 && decide ((s.length : Int) <= n) then (s ++ List.replicate (n - s.length).toNat 0, true) else ([], false)
theorem Qky (s : List UInt8) (n : Int) (hs : s.length <= 1000000) : Pure Tryz.prog 310 [dS s, dI n] (.tup [dS (Pl.fill s n).1, dB (Pl.fill s n).2]) := by
 have hd : Hid (Pl.fill s n = if Pl.inR n 0 12 && decide ((s.length : Int) <= n) then (s ++ List.replicate (n - s.length).toNat 0, true) else ([], false)) := Pm.hid rfl;generalize Pl.fill s n = res at *
 have c1 := bIn n 0 12;cases hi : Pl.inR n 0 12
 ·rw [hi] at c1 hd
  (refine Qbm Tryz.func310 rfl Tryz.ntmps310 Tryz.results310 rfl ?_; simp only [parE, Nat.zero_add, Nat.reduceAdd])
  (repeat' (first | refine e1 (k := ?_) | refine e0 (k := ?_) | refine stepS (Qbg Tryz.call45 c1 rfl) (k := ?_) | refine Qbf ?_ | refine Qbh ?_ | refine Qbe ?_ | refine Qbn (ht := ?_) | fail))
  refine Qbp (hx := ?_);rw [hd.out]; rfl
 rw [hi] at c1 hd;have hb : 0 <= n /\ n <= 12 := by simpa [Pl.inR] using hi
 by_cases hle : (s.length : Int) <= n
 rotate_left
 ·(refine Qbm Tryz.func310 rfl Tryz.ntmps310 Tryz.results310 rfl ?_; simp only [parE, Nat.zero_add, Nat.reduceAdd])
  (repeat' (first | refine e1 (k := ?_) | refine stepS (Qbg Tryz.call45 c1 rfl) (k := ?_) | refine stepS (QbD rfl rfl (by omega)) (k := ?_) | refine Qbf ?_ | refine Qbh ?_ | refine Qbe ?_ | refine Qbr (ht := fun q => ?_) (hf := fun q => ?_) | refine Qbl ?_ | fail))
  all_goals first
   |(refine Qbp (hx := ?_); rw [hd.out, decide_eq_false hle]; rfl)
   |(exfalso; simp at *; omega)
 have c2 := Qnm (n - s.length).toNat (by omega);have e2 : (((n - s.length).toNat : Nat) : Int) = n - s.length := by omega
 rw [e2] at c2
 (refine Qbm Tryz.func310 rfl Tryz.ntmps310 Tryz.results310 rfl ?_; simp only [parE, Nat.zero_add, Nat.reduceAdd])
 (repeat' (first | refine e1 (k := ?_) | refine stepS (Qbg Tryz.call45 c1 rfl) (k := ?_) | refine stepS (Qbg Tryz.call338 c2 rfl) (k := ?_) | refine stepS (QbK rfl rfl (by simp; omega)) (k := ?_) | refine stepS (QbD rfl rfl (by omega)) (k := ?_) | refine Qbf ?_ | refine Qbh ?_ | refine Qbe ?_ | refine Qbr (ht := fun q => ?_) (hf := fun q => ?_) | refine Qbl ?_ | fail))
 all_goals first
  |(refine Qbp (hx := ?_); rw [hd.out, decide_eq_true hle]; rfl)
  |(exfalso; simp at *; omega)
end Aw
end Go.Proofs.YtdjkdcokjoiokaaGreatDoor

/- Part 29 of seek_card: contracts, walks, laws; no condition beyond the statement's. -/
import Derived.Test.YtdjkdcokjoiokaaGreatDoorW26
import Derived.Test.YtdjkdcokjoiokaaGreatDoorW27
import Derived.Test.YtdjkdcokjoiokaaGreatDoorW28
set_option linter.all false
set_option maxRecDepth 100000
set_option maxHeartbeats 4000000
namespace Go.Proofs.YtdjkdcokjoiokaaGreatDoor
open Go.RowKit
namespace Aw
attribute [local irreducible] ASeq ADraw AWP Loc
theorem QeC : ∀ c : Nat, Lib.repeatL [0] c = List.replicate c 0
 |0 => rfl
 |c + 1 => by rw [Lib.repeatL, QeC c]; rfl
theorem Qnn (c : Nat) (hc : c <= 1000) : Pure Tryz.prog 338 [dS [0], dI c] (dS (List.replicate c 0)) :=
 QbI (x := .string ⟨(List.replicate c 0).toArray⟩) rfl fun w _ => (Tryz.strings_Repeat ⟨#[0]⟩ c w (by omega) (by show 1 * c <= _; omega)).mono fun e w' h => ⟨by rw [<- QeC]; exact h.1, h.2⟩
theorem QhQ (s : List UInt8) : ([0] : List UInt8).isSuffixOf s = !(Pl.cut0 s == s) := by
 rw [Bool.eq_iff_iff, List.isSuffixOf_iff_suffix];have := QlU s;rcases List.eq_nil_or_concat s with rfl | ⟨l, c, rfl⟩
 ·simp [Qjq]
 ·rw [List.concat_eq_append] at *
  have h1 : ([0] : List UInt8) <:+ l ++ [c] ↔ c = 0 := by
   constructor
   ·rintro ⟨t, ht⟩
    have := List.append_inj' ht rfl;have := this.2;simp at this; exact this.symm
   ·rintro rfl; exact ⟨l, rfl⟩
  rw [h1];simp only [List.getLast?_append, List.getLast?_singleton, Option.some_or, ne_eq, Option.some.injEq] at this
  by_cases hc : c = 0
  ·simp [hc] at this ⊢; exact this
  ·simp [hc] at this ⊢; exact this
def Pl.QaD (size : Int) (k : Int) : Int := if 0 < (if size - k * 12 < 12 then size - k * 12 else 12) then (if size - k * 12 < 12 then size - k * 12 else 12) else 0
theorem Qku (size : Int) (k : Nat) (h0 : 0 <= size) (h1 : size <= 2048) (hk : k <= 100) : Pure Tryz.prog 311 [dI size, dI k] (dI (Pl.QaD size k)) := by
 (refine Qbk Tryz.func311 rfl Tryz.ntmps311 Tryz.results311 rfl ?_; simp only [parE, Nat.zero_add, Nat.reduceAdd])
 (repeat' (first | refine e1 (k := ?_) | refine stepS (Qdw rfl rfl (by omega)) (k := ?_) | refine stepS (Qlr rfl rfl) (k := ?_) | refine stepS (Qls rfl rfl) (k := ?_) | refine stepS (QbB rfl rfl (by omega)) (k := ?_) | refine Qbd ?_ | refine Qbf ?_ | refine Qbc ?_ | fail))
 exact Qbn (hx := by unfold Pl.QaD; rfl)
theorem QfI {size : Int} {k : Nat} (h : (k : Int) * 12 < size) : Pl.QaD size k = Pl.long size k := by
 unfold Pl.QaD Pl.long;split <;> split <;> omega
def Pl.fill (s : List UInt8) (n : Int) : List UInt8 × Bool := if Pl.inR n 0 12 && decide ((s.length : Int) <= n) then (s ++ List.replicate (n - s.length).toNat 0, true) else ([], false)
theorem Qkv (s : List UInt8) (n : Int) (hs : s.length <= 1000000) : Pure Tryz.prog 310 [dS s, dI n] (.tup [dS (Pl.fill s n).1, dB (Pl.fill s n).2]) := by
 have hd : Hid (Pl.fill s n = if Pl.inR n 0 12 && decide ((s.length : Int) <= n) then (s ++ List.replicate (n - s.length).toNat 0, true) else ([], false)) := Pm.hid rfl;generalize Pl.fill s n = res at *
 have c1 := bIn n 0 12;cases hi : Pl.inR n 0 12
 ·rw [hi] at c1 hd
  (refine Qbk Tryz.func310 rfl Tryz.ntmps310 Tryz.results310 rfl ?_; simp only [parE, Nat.zero_add, Nat.reduceAdd])
  (repeat' (first | refine e1 (k := ?_) | refine e0 (k := ?_) | refine stepS (Qbe Tryz.call45 c1 rfl) (k := ?_) | refine Qbd ?_ | refine Qbf ?_ | refine Qbc ?_ | refine Qbl (ht := ?_) | fail))
  refine Qbn (hx := ?_);rw [hd.out]; rfl
 rw [hi] at c1 hd;have hb : 0 <= n /\ n <= 12 := by simpa [Pl.inR] using hi
 by_cases hle : (s.length : Int) <= n
 rotate_left
 ·(refine Qbk Tryz.func310 rfl Tryz.ntmps310 Tryz.results310 rfl ?_; simp only [parE, Nat.zero_add, Nat.reduceAdd])
  (repeat' (first | refine e1 (k := ?_) | refine stepS (Qbe Tryz.call45 c1 rfl) (k := ?_) | refine stepS (QbB rfl rfl (by omega)) (k := ?_) | refine Qbd ?_ | refine Qbf ?_ | refine Qbc ?_ | refine Qbo (ht := fun q => ?_) (hf := fun q => ?_) | refine Qbj ?_ | fail))
  all_goals first
   |(refine Qbn (hx := ?_); rw [hd.out, decide_eq_false hle]; rfl)
   |(exfalso; simp at *; omega)
 have c2 := Qnn (n - s.length).toNat (by omega);have e2 : (((n - s.length).toNat : Nat) : Int) = n - s.length := by omega
 rw [e2] at c2
 (refine Qbk Tryz.func310 rfl Tryz.ntmps310 Tryz.results310 rfl ?_; simp only [parE, Nat.zero_add, Nat.reduceAdd])
 (repeat' (first | refine e1 (k := ?_) | refine stepS (Qbe Tryz.call45 c1 rfl) (k := ?_) | refine stepS (Qbe Tryz.call338 c2 rfl) (k := ?_) | refine stepS (QbJ rfl rfl (by simp; omega)) (k := ?_) | refine stepS (QbB rfl rfl (by omega)) (k := ?_) | refine Qbd ?_ | refine Qbf ?_ | refine Qbc ?_ | refine Qbo (ht := fun q => ?_) (hf := fun q => ?_) | refine Qbj ?_ | fail))
 all_goals first
  |(refine Qbn (hx := ?_); rw [hd.out, decide_eq_true hle]; rfl)
  |(exfalso; simp at *; omega)
end Aw
end Go.Proofs.YtdjkdcokjoiokaaGreatDoor

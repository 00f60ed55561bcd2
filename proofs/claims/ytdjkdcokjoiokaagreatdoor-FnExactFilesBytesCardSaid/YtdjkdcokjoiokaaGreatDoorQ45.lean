/- Part 45 of the proof of bytes_card: contracts, walks, plain laws; no condition is assumed beyond those that a statement names. -/
import Derived.Test.YtdjkdcokjoiokaaGreatDoorQ43
import Derived.Test.YtdjkdcokjoiokaaGreatDoorQ44
set_option linter.all false
set_option maxRecDepth 100000
set_option maxHeartbeats 8000000
namespace Go.Proofs.YtdjkdcokjoiokaaGreatDoor
open Go.RowKit
namespace Aw
open Pm (Rep)
structure StB (s : Pm.Store) (n : Nat) : Prop where
 l1 : s.1.length <= n
 l2 : s.2.1.1.length <= n
 l3 : s.2.1.2.length <= n
 l4 : s.2.2.2.1.length <= n
 l5 : s.2.2.2.2.2.1.length <= n
 x1 : ∀ x ∈ s.1, x.length <= Pm.big
 x2 : ∀ x ∈ s.2.1.1, Pm.InI x
 x3 : ∀ x ∈ s.2.1.2, Pm.InI x
 x4 : ∀ x ∈ s.2.2.2.1, Pm.PtrIn x
 x5 : ∀ x ∈ s.2.2.2.2.2.1, Pm.PtrIn x
 i1 : Pm.InI s.2.2.1
 i2 : Pm.InI s.2.2.2.2.1
theorem StB.less {s : Pm.Store} {n m : Nat} (h : StB s n) (h1 : s.1.length <= m) (h2 : s.2.1.1.length <= m) (h3 : s.2.1.2.length <= m) (h4 : s.2.2.2.1.length <= m) (h5 : s.2.2.2.2.2.1.length <= m) : StB s m :=
 ⟨h1, h2, h3, h4, h5, h.x1, h.x2, h.x3, h.x4, h.x5, h.i1, h.i2⟩
theorem Qiq {α : Type} [Rep α] {w : World} {N : Nat} {A : Option Addr} {l : List α} (h : Pm.At w N A l) : ∀ x ∈ l, ∃ cs, Rep.cells w N cs x := by
 intro x hx
 obtain ⟨i, hi⟩ := List.getElem?_of_mem hx
 obtain ⟨b, off, _, _, hc⟩ := h (List.length_pos_of_mem hx)
 obtain ⟨cs, h1, _⟩ := hc i x hi
 exact ⟨cs, h1⟩
theorem Qlu {w : World} {N : Nat} {s : Pm.Store} {A1 A2 A3 A4 A5 : Option Addr} (h : Pm.StAt w N s A1 A2 A3 A4 A5) : StB s Pm.big :=
 ⟨h.l1, h.l2, h.l3, h.l4, h.l5, fun x hx => by obtain ⟨cs, h1⟩ := Qiq h.a1 x hx; exact (Pm.QcJ h1).2, fun x hx => by obtain ⟨cs, h1⟩ := Qiq h.a2 x hx; exact (Pm.QdB h1).2,
   fun x hx => by obtain ⟨cs, h1⟩ := Qiq h.a3 x hx; exact (Pm.QdB h1).2, fun x hx => by obtain ⟨cs, h1⟩ := Qiq h.a4 x hx; exact (Pm.Qh3 h1).2, fun x hx => by obtain ⟨cs, h1⟩ := Qiq h.a5 x hx; exact (Pm.Qh3 h1).2, h.i1, h.i2⟩
theorem Qoa (s : Pm.Store) (hb : StB s 1048576) : Pure Tryz.prog 18 [dSt s] (dSt s) := (QmR s hb.l1 hb.l2 hb.l3 hb.l4 hb.l5).res
theorem Qoc (s : Pm.Store) (hb : StB s Pm.big) (q : Int) (h0 : 0 <= q) (h1 : q <= Pm.lim) : Pure Tryz.prog 16 [dSt s, dI q] (dI (Pm.less q (Pm.wtStore s))) := QmS s hb.l1 hb.x1 hb.l2 hb.l3 hb.l4 hb.l5 q (by omega) h1
theorem Qoj (s t : Pm.Store) (hs : StB s Pm.big) : Pure Tryz.prog 21 [dSt s, dSt t] (dB (decide (s = t))) := QmT s t hs.l1 hs.l2 hs.l3 hs.l4 hs.l5
theorem Qlt {s : Pm.Store} (hb : StB s Pm.big) (h : Pm.wtStore s <= 1048576) : StB s 1048576 /\ Pl.Lens s := by
 unfold Pm.wtStore Pm.wtSpace Pm.wtL at h
 exact ⟨hb.less (by omega) (by omega) (by omega) (by omega) (by omega), by unfold Pm.big; omega, by unfold Pm.big; omega, by omega, by omega⟩
end Aw
end Go.Proofs.YtdjkdcokjoiokaaGreatDoor
namespace Go.Proofs.YtdjkdcokjoiokaaGreatDoor
open Go.RowKit
namespace Aw
attribute [local irreducible] ASeq ADraw AWP Loc
theorem QhW (s : Pm.Store) (hb : StB s Pm.big) (t : Pl.Tree) (p : List UInt8) (_hp : p.length <= Pm.big) : Pure Tryz.prog 4 [dSt s, dTree t, dS p] (dB true) := by
 have cz := Qoc s hb 1048576 (by decide) (by decide)
 by_cases hl : p.length <= 1048576
 rotate_left
 ·clear cz
  (refine Qbw Tryz.func4 rfl Tryz.ntmps4 Tryz.results4 rfl ?_; simp only [parE, Nat.zero_add, Nat.reduceAdd])
  (refine Qbu (Qbr ?_); (repeat (first | refine e1 (k := ?_) | refine e2 (k := ?_) | fail)); refine Qbs ?_)
  refine Qbv 0 (h := ?_)
  refine Qbv 1 (h := ?_)
  have hd : decide ((p.length : Int) > 1048576) = true := decide_eq_true (by omega)
  (repeat' (first | refine e1 (k := ?_) | refine Qbs ?_ | refine Qbu ?_ | refine Qbr ?_ | refine Qb3 (ht := fun q => ?_) (hf := fun q => ?_) | refine Qbz ?_ | fail))
  all_goals first
   |exact Qb1 (hx := rfl)
   |(exfalso; rw [hd] at *; simp at *; done)
 unfold Pm.less at cz
 by_cases hw : Pm.wtStore s <= 1048576
 ·obtain ⟨h1, h2⟩ := Qlt hb hw
  have c1 := Qoa s h1
  have c2 := aToTree t
  have c3 := Qjr s h2 t p (by omega)
  have c4 := Qjl s h2 hb.x2 hb.x3 t p (by omega)
  have c5 := Qoj s s hb
  rw [decide_eq_true rfl] at c5
  generalize Pl.Qa7 s t p Pl.Qam = r at *
  obtain ⟨n, ok⟩ := r
  simp only at c3 c4
  rw [if_neg (by omega)] at cz
  have hz : 0 <= (1048576 : Int) - Pm.wtStore s := by omega
  generalize (1048576 : Int) - Pm.wtStore s = left at *
  clear h1 h2 hb hw
  (refine Qbw Tryz.func4 rfl Tryz.ntmps4 Tryz.results4 rfl ?_; simp only [parE, Nat.zero_add, Nat.reduceAdd])
  (refine Qbu (Qbr ?_); (repeat (first | refine e1 (k := ?_) | refine e2 (k := ?_) | fail)); refine Qbs ?_)
  refine Qbv 0 (h := ?_)
  refine Qbv 1 (h := ?_)
  (repeat' (first | refine f1 (k := ?_) | refine e1 (k := ?_) | refine e0 (k := ?_) | refine stepS (Qbt Tryz.call16 cz rfl) (k := ?_) | refine stepD (Qbt Tryz.call18 c1 rfl) (k := ?_) | refine stepS (Qbt Tryz.call18 c1 rfl) (k := ?_) | refine stepD (Qbt Tryz.call19 c2 rfl) (k := ?_) | refine stepD (Qbt Tryz.call17 c3 rfl) (k := ?_) | refine stepD (Qbt Tryz.call20 c4 rfl) (k := ?_) | refine stepD (Qbt Tryz.call21 c5 rfl) (k := ?_) | refine stepS (Qdu TyBool.h rfl rfl) (k := ?_) | refine QbB (kk := ?_) | refine Qbs ?_ | refine Qb6 ?_ | refine Qbu ?_ | refine Qbr ?_ | refine QbF follows_mixed (by kernel_rfl) (by kernel_rfl) ?_ | refine Qb0 (ht := ?_) | refine Qb2 (hf := ?_) | refine Qb3 (ht := fun q => ?_) (hf := fun q => ?_) | refine Qbz ?_ | refine e2 (k := ?_) | ((fail_if_success show ASeq _ _ _ _ ⟨_, (_, .d (.v (.bool true))) :: _, _⟩); (fail_if_success show ASeq _ _ _ _ ⟨_, (_, .d (.v (.bool false))) :: _, _⟩); refine splitS (fun q => ?_) (fun q => ?_))))
  all_goals first
   |exact Qb1 (hx := rfl)
   |(exfalso; simp at *; done)
   |(exfalso; simp at *; omega)
 ·rw [if_pos (by omega)] at cz
  clear hb hw
  (refine Qbw Tryz.func4 rfl Tryz.ntmps4 Tryz.results4 rfl ?_; simp only [parE, Nat.zero_add, Nat.reduceAdd])
  (refine Qbu (Qbr ?_); (repeat (first | refine e1 (k := ?_) | refine e2 (k := ?_) | fail)); refine Qbs ?_)
  refine Qbv 0 (h := ?_)
  refine Qbv 1 (h := ?_)
  (repeat' (first | refine e1 (k := ?_) | refine stepS (Qbt Tryz.call16 cz rfl) (k := ?_) | refine Qbs ?_ | refine Qbu ?_ | refine Qbr ?_ | refine Qb0 (ht := ?_) | refine Qb3 (ht := fun q => ?_) (hf := fun q => ?_) | refine Qbz ?_ | fail))
  all_goals first
   |exact Qb1 (hx := rfl)
   |(exfalso; simp at *; done)
   |(exfalso; simp at *; omega)
end Aw
end Go.Proofs.YtdjkdcokjoiokaaGreatDoor

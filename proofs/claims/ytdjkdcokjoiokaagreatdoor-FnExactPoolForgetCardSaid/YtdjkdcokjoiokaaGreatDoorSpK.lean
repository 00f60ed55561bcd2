/- The reference's reading of a root. -/
import Derived.Test.YtdjkdcokjoiokaaGreatDoorSpJ
namespace Go.Proofs.YtdjkdcokjoiokaaGreatDoor
open Go.RowKit
namespace Pm
open Pl (dec dch inR Ptr Tree Root hole ptrHole ptrOk)

theorem optNat_eq (o : Option Nat) : optNat o = .tuple #[.int .i64 ((o.getD 0 : Nat) : Int), .bool o.isSome] := by cases o <;> rfl
theorem numGet_bound (s : Str) : (Pl.numGet s).getD 0 < 1000000000 := by
  cases h : Pl.numGet s with
  | none => simp
  | some n => exact (Pl.numGet_some h).2

theorem spPtrGet' (s : Str) (w : World) (hs : s.length ≤ 1000000000000) :
    Calls Tryz.prog 189 #[.string ⟨s.toArray⟩] w fun e w' => ∃ p b, e = .returned (.tuple #[vptr p, .bool b]) ∧ Hid (∀ q, Pl.IsPtr s q → q = p) ∧ Below w.heap.size w w' := by
  refine (spPtrGet s w hs).mono ?_
  rintro e w' ⟨h | h, hb⟩
  · obtain ⟨p, h1, rfl⟩ := h
    exact ⟨p, true, rfl, hid fun q hq => Pl.isPtr_unique hq h1, hb⟩
  · exact ⟨hole, false, h.2, hid fun q hq => absurd hq (h.1 q), hb⟩

set_option maxRecDepth 100000 in
set_option maxHeartbeats 2000000 in
theorem spBack (A : Option Addr) (x y z : Str) (c : Nat) (w : World) (hat : At w w.heap.size A [x, y, z]) (hx : x.length ≤ 2048) (hy : y.length ≤ 2048) (hz : z.length ≤ 2048) :
    Calls Tryz.prog 231 #[.slice A 3 c] w fun e w' => ∃ p : Ptr, e = .returned (vtree ⟨p, ((Pl.numGet y).getD 0 : Nat), ((Pl.numGet z).getD 0 : Nat)⟩) ∧ Hid (∀ q, Pl.IsPtr x q → q = p) ∧ Below w.heap.size w w' := by
  have Hp := hid (fun w => spPtrGet' x w (by omega))
  have Hy := hid (fun w => spNumGet y w (by unfold big; omega))
  have Hz := hid (fun w => spNumGet z w (by unfold big; omega))
  rw [optNat_eq] at Hy Hz
  generalize (Pl.numGet y).getD 0 = ny at *
  generalize (Pl.numGet z).getD 0 = nz at *
  generalize (Pl.numGet y).isSome = oy at *
  generalize (Pl.numGet z).isSome = oz at *
  obtain ⟨b, off, rfl, hb, hc⟩ := at_cells hat (by simp)
  have c0 := hc 0 _ rfl; have c1 := hc 1 _ rfl; have c2 := hc 2 _ rfl
  simp only [vstr, Nat.add_zero] at c0 c1 c2
  have Hc := hid (And.intro c0 (And.intro c1 c2))
  have Hb := hid hb
  clear hc hat hx hy hz hb
  have HB := hid (show Below w.heap.size w ((w.alloc (.cells #[.int .i64 0, .int .i64 0, .int .i64 0, .int .i64 0, .int .i64 0, .int .i64 0, .int .i64 0] 56)).alloc (.cells #[.int .i64 0, .int .i64 0, .int .i64 0, .int .i64 0, .int .i64 0, .int .i64 0, .int .i64 0] 56)) from bal (bnew w _) _)
  have d0 := cellBel HB.out Hb.out Hc.out.1
  clear c0 c1 c2
  have R0 := hid (show Row ((w.alloc (.cells #[.int .i64 0, .int .i64 0, .int .i64 0, .int .i64 0, .int .i64 0, .int .i64 0, .int .i64 0] 56)).alloc (.cells #[.int .i64 0, .int .i64 0, .int .i64 0, .int .i64 0, .int .i64 0, .int .i64 0, .int .i64 0] 56)) w.heap.size #[.int .i64 0, .int .i64 0, .int .i64 0, .int .i64 0, .int .i64 0, .int .i64 0, .int .i64 0] from (Row.new w _ _).alloc _)
  have R1 := hid (show Row ((w.alloc (.cells #[.int .i64 0, .int .i64 0, .int .i64 0, .int .i64 0, .int .i64 0, .int .i64 0, .int .i64 0] 56)).alloc (.cells #[.int .i64 0, .int .i64 0, .int .i64 0, .int .i64 0, .int .i64 0, .int .i64 0, .int .i64 0] 56)) (w.heap.size + 1) #[.int .i64 0, .int .i64 0, .int .i64 0, .int .i64 0, .int .i64 0, .int .i64 0, .int .i64 0] by have := Row.new (w.alloc (.cells #[.int .i64 0, .int .i64 0, .int .i64 0, .int .i64 0, .int .i64 0, .int .i64 0, .int .i64 0] 56)) #[.int .i64 0, .int .i64 0, .int .i64 0, .int .i64 0, .int .i64 0, .int .i64 0, .int .i64 0] 56; simpa using this)
  have hne : w.heap.size ≠ w.heap.size + 1 := by omega
  have hle : w.heap.size ≤ w.heap.size + 1 := by omega
  have n1 : ¬ b = w.heap.size + 1 := by have := Hb.out; omega
  have n2 : ¬ w.heap.size + 1 = b := by have := Hb.out; omega
  have n3 : ¬ b = w.heap.size := by have := Hb.out; omega
  have n4 : ¬ w.heap.size = b := by have := Hb.out; omega
  go_enter Tryz.func231, Tryz.ntmps231
  go_wp2_with (go_at_call 189; refine (Hp.out _).mono ?_; rintro e w1 ⟨p, bp, rfl, hq, hb1⟩; unfold vptr; have HB1 := hid (btr HB.out hb1); have S0 := hid (R0.out.below hb1); have S1 := hid (R1.out.below hb1); have k0 := cellBel HB1.out Hb.out Hc.out.2.1; have s0 := S1.out.get 0 rfl; have sg0 := S1.out.free 0; have s1 := S1.out.get 1 rfl; have sg1 := S1.out.free 1; have s2 := S1.out.get 2 rfl; have sg2 := S1.out.free 2; have s3 := S1.out.get 3 rfl; have sg3 := S1.out.free 3; have s4 := S1.out.get 4 rfl; have sg4 := S1.out.free 4)
  refine (Hy.out _).mono ?_
  rintro e w' ⟨rfl, rfl⟩
  have T0 := hid (show Row (((((w1.setCell ⟨w.heap.size + 1, 0, none⟩ (.int .i64 p.pat)).setCell ⟨w.heap.size + 1, 1, none⟩ (.int .i64 p.birth)).setCell ⟨w.heap.size + 1, 2, none⟩ (.int .i64 p.size)).setCell ⟨w.heap.size + 1, 3, none⟩ (.int .i64 p.sum)).setCell ⟨w.heap.size + 1, 4, none⟩ (.int .i64 p.level)) w.heap.size #[.int .i64 0, .int .i64 0, .int .i64 0, .int .i64 0, .int .i64 0, .int .i64 0, .int .i64 0] from (Row.far (Row.far (Row.far (Row.far (Row.far S0.out hne 0 _) hne 1 _) hne 2 _) hne 3 _) hne 4 _))
  have T1 := hid (show Row (((((w1.setCell ⟨w.heap.size + 1, 0, none⟩ (.int .i64 p.pat)).setCell ⟨w.heap.size + 1, 1, none⟩ (.int .i64 p.birth)).setCell ⟨w.heap.size + 1, 2, none⟩ (.int .i64 p.size)).setCell ⟨w.heap.size + 1, 3, none⟩ (.int .i64 p.sum)).setCell ⟨w.heap.size + 1, 4, none⟩ (.int .i64 p.level)) (w.heap.size + 1) #[.int .i64 p.pat, .int .i64 p.birth, .int .i64 p.size, .int .i64 p.sum, .int .i64 p.level, .int .i64 0, .int .i64 0] from (Row.set (Row.set (Row.set (Row.set (Row.set S1.out 0 _) 1 _) 2 _) 3 _) 4 _))
  have HB2 := hid (show Below w.heap.size w (((((w1.setCell ⟨w.heap.size + 1, 0, none⟩ (.int .i64 p.pat)).setCell ⟨w.heap.size + 1, 1, none⟩ (.int .i64 p.birth)).setCell ⟨w.heap.size + 1, 2, none⟩ (.int .i64 p.size)).setCell ⟨w.heap.size + 1, 3, none⟩ (.int .i64 p.sum)).setCell ⟨w.heap.size + 1, 4, none⟩ (.int .i64 p.level)) from (bset (bset (bset (bset (bset HB1.out hle 0 _) hle 1 _) hle 2 _) hle 3 _) hle 4 _))
  clear k0 s0 sg0 s1 sg1 s2 sg2 s3 sg3 s4 sg4
  generalize (((((w1.setCell ⟨w.heap.size + 1, 0, none⟩ (.int .i64 p.pat)).setCell ⟨w.heap.size + 1, 1, none⟩ (.int .i64 p.birth)).setCell ⟨w.heap.size + 1, 2, none⟩ (.int .i64 p.size)).setCell ⟨w.heap.size + 1, 3, none⟩ (.int .i64 p.sum)).setCell ⟨w.heap.size + 1, 4, none⟩ (.int .i64 p.level)) = W2 at *
  have k1 := cellBel HB2.out Hb.out Hc.out.2.2
  have t5 := T1.out.get 5 rfl
  have tg5 := T1.out.free 5
  go_wp2_with (fail)
  refine (Hz.out _).mono ?_
  rintro e w' ⟨rfl, rfl⟩
  have U0 := hid (show Row (W2.setCell ⟨w.heap.size + 1, 5, none⟩ (.int .i64 (ny : Int))) w.heap.size #[.int .i64 0, .int .i64 0, .int .i64 0, .int .i64 0, .int .i64 0, .int .i64 0, .int .i64 0] from Row.far T0.out hne 5 (.int .i64 (ny : Int)))
  have U1 := hid (show Row (W2.setCell ⟨w.heap.size + 1, 5, none⟩ (.int .i64 (ny : Int))) (w.heap.size + 1) #[.int .i64 p.pat, .int .i64 p.birth, .int .i64 p.size, .int .i64 p.sum, .int .i64 p.level, .int .i64 (ny : Int), .int .i64 0] from Row.set T1.out 5 _)
  have HB3 := hid (bset HB2.out (by omega : w.heap.size ≤ w.heap.size + 1) 5 (.int .i64 (ny : Int)))
  clear k1
  generalize W2.setCell ⟨w.heap.size + 1, 5, none⟩ (.int .i64 (ny : Int)) = W3 at *
  have u0 := U1.out.get 0 rfl; have ug0 := U1.out.free 0; have u1 := U1.out.get 1 rfl; have ug1 := U1.out.free 1; have u2 := U1.out.get 2 rfl; have ug2 := U1.out.free 2; have u3 := U1.out.get 3 rfl; have ug3 := U1.out.free 3; have u4 := U1.out.get 4 rfl; have ug4 := U1.out.free 4; have u5 := U1.out.get 5 rfl; have ug5 := U1.out.free 5; have u6 := U1.out.get 6 rfl; have ug6 := U1.out.free 6
  have v0 := U0.out.get 0 rfl; have vg0 := U0.out.free 0; have v1 := U0.out.get 1 rfl; have vg1 := U0.out.free 1; have v2 := U0.out.get 2 rfl; have vg2 := U0.out.free 2; have v3 := U0.out.get 3 rfl; have vg3 := U0.out.free 3; have v4 := U0.out.get 4 rfl; have vg4 := U0.out.free 4; have v5 := U0.out.get 5 rfl; have vg5 := U0.out.free 5; have v6 := U0.out.get 6 rfl; have vg6 := U0.out.free 6
  go_wp2_with (fail)
  refine bodyPost_ret (v := vtree ⟨p, ny, nz⟩) (by simp [results, Tryz.results231, go_sem, vtree, v0, v1, v2, v3, v4, v5, v6]) rfl ?_
  exact ⟨p, rfl, hq, (bset (bset (bset (bset (bset (bset (bset (bset HB3.out hle 6 (.int .i64 (nz : Int))) (Nat.le_refl _) 0 _) (Nat.le_refl _) 1 _) (Nat.le_refl _) 2 _) (Nat.le_refl _) 3 _) (Nat.le_refl _) 4 _) (Nat.le_refl _) 5 _) (Nat.le_refl _) 6 _)⟩
end Pm
end Go.Proofs.YtdjkdcokjoiokaaGreatDoor

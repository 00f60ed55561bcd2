/- Part 23 of seek_card: contracts, walks, laws; no condition beyond the statement's. -/
import Derived.Test.YtdjkdcokjoiokaaGreatDoorW18
set_option linter.all false
set_option maxRecDepth 100000
set_option maxHeartbeats 4000000
namespace Go.Proofs.YtdjkdcokjoiokaaGreatDoor
open Go.RowKit
namespace Pm
open Pl (inR)
theorem Ql3 (A1 A2 : Option Addr) (c1 c2 : Nat) (s : Space) (w : World) (hl1 : s.1.length <= big) (ha1 : At w w.heap.size A1 s.1) (hl2 : s.2.length <= big) (ha2 : At w w.heap.size A2 s.2) :
 Calls Tryz.prog 215 #[.agg #[.slice A1 s.1.length c1, .slice A2 s.2.length c2]] w fun e w' => e = .returned (.bool (Pl.spaceOk s)) /\ Below w.heap.size w w' := by
 obtain ⟨l1, l2⟩ := s;simp only at *
 unfold big at hl1 hl2;have hA := bnew w (.cells #[.slice A1 l1.length c1, .slice A2 l2.length c2] 49);have HA := hid hA;have Ha1 := hid (ha1.up hA); have Ha2 := hid (ha2.up hA);clear ha1 ha2 hA
 by_cases h64 : l1.length = 64
 rotate_left
 ·have hf := hid (show Pl.spaceOk (l1, l2) = false by simp [Pl.spaceOk, h64])
  have h1 : ((l1.length : Int) == 64) = false := by rw [beq_eq_false_iff_ne]; omega
  have h1' : ((l1.length : Int) != 64) = true := by rw [bne_iff_ne]; omega
  clear h64
  go_enter Tryz.func215, Tryz.ntmps215
  go_wp2
  go_ret
  exact ⟨Qb6 hf.out.symm, HA.out⟩
 have h1 : ((l1.length : Int) == 64) = true := by rw [beq_iff_eq]; omega
 have h1' : ((l1.length : Int) != 64) = false := by rw [bne_eq_false_iff_eq]; omega
 by_cases h642 : l2.length = 64
 rotate_left
 ·have hf := hid (show Pl.spaceOk (l1, l2) = false by simp [Pl.spaceOk, h642])
  have h2 : ((l2.length : Int) == 64) = false := by rw [beq_eq_false_iff_ne]; omega
  have h2' : ((l2.length : Int) != 64) = true := by rw [bne_iff_ne]; omega
  clear h64 h642
  go_enter Tryz.func215, Tryz.ntmps215
  go_wp2
  go_ret
  exact ⟨Qb6 hf.out.symm, HA.out⟩
 have h2 : ((l2.length : Int) == 64) = true := by rw [beq_iff_eq]; omega
 have h2' : ((l2.length : Int) != 64) = false := by rw [bne_eq_false_iff_eq]; omega
 have Hd : Hid (Pl.spaceOk (l1, l2) = (List.range 64).all (Pl.QbQ l1 l2)) := hid (by simp [Pl.spaceOk, h64, h642]);have H64 := hid h64; have H642 := hid h642;clear h64 h642
 go_enter Tryz.func215, Tryz.ntmps215
 go_wp2
 go_loopw [19] (fun iv wr => ∃ (k d : Nat), k <= 64 /\ iv = .int .i64 k /\ Hid ((List.range k).all (Pl.QbQ l1 l2) = true) /\ wr = (w.alloc (.cells #[.slice A1 l1.length c1, .slice A2 l2.length c2] 49)).drewN d) (fun iv _ => 64 - (intOf iv).toNat)
 case atStart => exact ⟨0, 0, by omega, rfl, hid (by simp), rfl⟩
 case round =>
  obtain ⟨k, d, hk, rfl, Hk, hw⟩ := hrel;have Hw := hid hw;have Hb1 := hid (show At wr wr.heap.size A1 l1 by rw [hw]; exact Ha1.out);have Hb2 := hid (show At wr wr.heap.size A2 l2 by rw [hw]; exact Ha2.out);have R0 := hid (show Row wr w.heap.size #[.slice A1 l1.length c1, .slice A2 l2.length c2] by rw [hw]; exact Row.new w _ _);have HB := hid (show Below w.heap.size w wr by rw [hw]; exact bdrN HA.out _);clear hw Ha1 Ha2 HA
  by_cases hlt : k < 64
  ·have hlt1 : k < l1.length := by rw [H64.out]; exact hlt
   have hlt2 : k < l2.length := by rw [H642.out]; exact hlt
   obtain ⟨b, off, cs, rfl, hb, hc, hv⟩ := Hb1.out.elem hlt1;obtain ⟨b', off', cs', rfl, hb', hc', hv'⟩ := Hb2.out.elem hlt2;obtain ⟨n, Hn⟩ : ∃ n, Hid (n = l1[k]) := ⟨l1[k], hid rfl⟩;obtain ⟨m, Hm⟩ : ∃ m, Hid (m = l2[k]) := ⟨l2[k], hid rfl⟩;rw [<- Hn.out] at hc;rw [<- Hm.out] at hc';obtain ⟨rfl, hs⟩ := Qdy hc;obtain ⟨rfl, hs'⟩ := Qdy hc';have e0 := hv 0 _ rfl;have e1 := hv' 0 _ rfl;simp only [Rep.size, Nat.add_zero, Nat.mul_one] at e0 e1;have p0 := R0.out.get 0 rfl;have p1 := R0.out.get 1 rfl
   have Hrow : Hid (Pl.QbQ l1 l2 k = Pl.QbZ k n m) := hid (by
    unfold Pl.QbQ
    rw [List.getD_eq_getElem?_getD, List.getD_eq_getElem?_getD, List.getElem?_eq_getElem hlt1, List.getElem?_eq_getElem hlt2, <- Hn.out, <- Hm.out]; rfl)
   clear hv hc hb hs hv' hc' hb' hs';have F : Hid (Pl.QbZ k n m = false -> (List.range 64).all (Pl.QbQ l1 l2) = false) := hid fun h => Pl.Qb5 hlt (by rw [Hrow.out, h])
   have G : Hid (Pl.QbZ k n m = true -> (List.range (k + 1)).all (Pl.QbQ l1 l2) = true) := hid fun h => Pl.Qb8 Hk.out (by rw [Hrow.out, h])
   generalize hq1 : inR n 0 900 = q1;generalize hq2 : inR m n 900 = q2;have Q1 := hid hq1; have Q2 := hid hq2;clear hq1 hq2
   have Hv : Hid (Pl.QbZ k n m = (q1 && q2 && !(decide (n = 0) && decide (m ≠ 0)) && !(decide (0 < n) && decide (k < 8)))) := hid (by
    rw [<- Q1.out, <- Q2.out];unfold Pl.QbZ inR
    have e8 : (decide ((8 : Int) <= (k : Int)) && decide ((k : Int) <= 63)) = !decide (k < 8) := by
     by_cases h : k < 8
     ·simp [h]; omega
     ·simp [h]; omega
    rw [e8, Bool.not_not, Bool.and_comm (decide (k < 8))]
    congr 2
    rw [Bool.eq_iff_iff];simp only [Bool.and_eq_true, decide_eq_true_eq]
    omega)
   have C1 := hid (fun w0 => (imIn n 0 900 w0).mono (R' := fun e w' => e = .returned (.bool q1) /\ w' = w0) fun e w' h => ⟨h.1.trans (by rw [Q1.out]), h.2.symm⟩);have C2 := hid (fun w0 => (imIn m n 900 w0).mono (R' := fun e w' => e = .returned (.bool q2) /\ w' = w0) fun e w' h => ⟨h.1.trans (by rw [Q2.out]), h.2.symm⟩);cases q1
   ·go_wp2_with (go_at_call 45; first | (with_reducible refine (C1.out _).mono ?_; rintro e w' ⟨rfl, rfl⟩) | (with_reducible refine (C2.out _).mono ?_; rintro e w' ⟨rfl, rfl⟩))
    go_ret
    exact ⟨Qb6 (by rw [Hd.out, F.out (by rw [Hv.out]; simp)]), HB.out⟩
   cases q2
   ·go_wp2_with (go_at_call 45; first | (with_reducible refine (C1.out _).mono ?_; rintro e w' ⟨rfl, rfl⟩) | (with_reducible refine (C2.out _).mono ?_; rintro e w' ⟨rfl, rfl⟩))
    go_ret
    exact ⟨Qb6 (by rw [Hd.out, F.out (by rw [Hv.out]; simp)]), HB.out⟩
   by_cases hn : n = 0
   ·subst hn
    by_cases hm : m = 0
    ·subst hm
     go_wp2_with (go_at_call 45; first | (with_reducible refine (C1.out _).mono ?_; rintro e w' ⟨rfl, rfl⟩) | (with_reducible refine (C2.out _).mono ?_; rintro e w' ⟨rfl, rfl⟩))
     go_roundw
     case rel => exact ⟨k + 1, _, by omega, by go_num, hid (G.out (by rw [Hv.out]; simp)), Hw.out⟩
     case measure => simp [intOf]; omega
    ·have b1 : (m != 0) = true := by simpa using hm
     have b2 : (m == 0) = false := by simpa using hm
     have HM := hid hm;clear hm
     go_wp2_with (go_at_call 45; first | (with_reducible refine (C1.out _).mono ?_; rintro e w' ⟨rfl, rfl⟩) | (with_reducible refine (C2.out _).mono ?_; rintro e w' ⟨rfl, rfl⟩))
     go_ret
     exact ⟨Qb6 (by rw [Hd.out, F.out (by rw [Hv.out]; simp [HM.out])]), HB.out⟩
   ·have hpos : 0 < n := by
     have := Q1.out;simp only [inR, Bool.and_eq_true, decide_eq_true_eq] at this;omega
    have b1 : (n == 0) = false := by simpa using hn
    have b2 : (n != 0) = true := by simpa using hn
    have HN := hid hn;clear hn
    by_cases h8 : k < 8
    ·have h8' : (k : Int) < 8 := by omega
     have H8 := hid h8
     go_wp2_with (go_at_call 45; first | (with_reducible refine (C1.out _).mono ?_; rintro e w' ⟨rfl, rfl⟩) | (with_reducible refine (C2.out _).mono ?_; rintro e w' ⟨rfl, rfl⟩))
     go_ret
     exact ⟨Qb6 (by rw [Hd.out, F.out (by rw [Hv.out]; simp [hpos, H8.out])]), HB.out⟩
    ·have h8' : ¬ (k : Int) < 8 := by omega
     have h9' : decide ((k : Int) < 8) = false := by simpa using h8'
     have H8 := hid h8
     go_wp2_with (go_at_call 45; first | (with_reducible refine (C1.out _).mono ?_; rintro e w' ⟨rfl, rfl⟩) | (with_reducible refine (C2.out _).mono ?_; rintro e w' ⟨rfl, rfl⟩))
     go_roundw
     case rel => exact ⟨k + 1, _, by omega, by go_num, hid (G.out (by rw [Hv.out]; simp [HN.out, H8.out])), Hw.out⟩
     case measure => simp [intOf]; omega
  ·have hk' : k = 64 := by omega
   subst hk';have hx : ¬ (64 : Int) < (l1.length : Int) := by have := H64.out; omega
   have hx2 : decide (64 < l1.length) = false := by have := H64.out; simp; omega
   have hx3 : decide ((64 : Int) < (l1.length : Int)) = false := by simpa using hx
   go_wp2
   go_ret
   exact ⟨Qb6 (by rw [Hd.out, Hk.out]), HB.out⟩
end Pm
end Go.Proofs.YtdjkdcokjoiokaaGreatDoor

/- The reference's tests on numbers, disks and sets of disks: what each returns. -/
import Derived.Test.YtdjkdcokjoiokaaGreatDoorProg
import Derived.Test.YtdjkdcokjoiokaaGreatDoorForget
import Derived.Test.YtdjkdcokjoiokaaGreatDoorPlainB
import Derived.WalkKit
import Derived.WalkSpells
import Derived.WalkLawsBesides
import Derived.KernelRfl
namespace Go.Proofs.YtdjkdcokjoiokaaGreatDoor
open Go.RowKit
namespace Pm
open Pl (inR cellOk waitOk diskOk raidOk waits)

set_option maxHeartbeats 400000 in
theorem l6In (n a b : Int) (w : World) : Calls Tryz.prog 40 #[.int .i64 n, .int .i64 a, .int .i64 b] w fun e w' => e = .returned (.bool (inR n a b)) ∧ w = w' := by
  by_cases h1 : a ≤ n
  · by_cases h2 : n ≤ b
    · have hf := hid (show inR n a b = true by simp [inR, h1, h2])
      go_enter Tryz.func40, Tryz.ntmps40
      go_wp2
      go_ret
      exact ⟨ret_bool hf.out.symm, rfl⟩
    · have hf := hid (show inR n a b = false by simp [inR, h2])
      have h3 : b < n := by omega
      clear h2
      go_enter Tryz.func40, Tryz.ntmps40
      go_wp2
      go_ret
      exact ⟨ret_bool (by rw [hf.out, decide_eq_false (by omega)]), rfl⟩
  · have hf := hid (show inR n a b = false by simp [inR, h1])
    have h3 : n < a := by omega
    clear h1
    go_enter Tryz.func40, Tryz.ntmps40
    go_wp2
    go_ret
    exact ⟨ret_bool hf.out.symm, rfl⟩

set_option maxHeartbeats 400000 in
theorem l3Cell (n : Int) (w : World) : Calls Tryz.prog 160 #[.int .i64 n] w fun e w' => e = .returned (.bool (inR n 0 63)) ∧ w = w' := by
  go_enter Tryz.func160, Tryz.ntmps160
  go_wp2_with (go_at_call 40; refine (l6In n 0 63 _).mono ?_; rintro e w' ⟨rfl, rfl⟩)
  go_ret
  exact ⟨rfl, rfl⟩

theorem all_take_false {α : Type} {p : α → Bool} {l : List α} {k : Nat} (hk : k < l.length) (h : p l[k] = false) : l.all p = false := by
  rw [List.all_eq_false]; exact ⟨_, List.getElem_mem hk, by simp [h]⟩
theorem all_take_step {α : Type} {p : α → Bool} {l : List α} {k : Nat} (hk : k < l.length) (h : (l.take k).all p = true) (h' : p l[k] = true) : (l.take (k + 1)).all p = true := by
  rw [List.take_succ_eq_append_getElem hk, List.all_append, h]; simp [h']

set_option maxHeartbeats 400000 in
theorem spDiskOk (A1 A2 : Option Addr) (c1 c2 : Nat) (d : Disk) (w : World) (hl1 : d.1.length ≤ big) (ha1 : At w w.heap.size A1 d.1) (hl2 : d.2.1.length ≤ big) (ha2 : At w w.heap.size A2 d.2.1) :
    Calls Tryz.prog 94 #[.agg #[.slice A1 d.1.length c1, .slice A2 d.2.1.length c2, .bool d.2.2]] w fun e w' => e = .returned (.bool (diskOk d)) ∧ Below w.heap.size w w' := by
  obtain ⟨l1, l2, g⟩ := d
  simp only at *
  unfold big at hl1 hl2
  have hA := bnew w (.cells #[.slice A1 l1.length c1, .slice A2 l2.length c2, .bool g] 90)
  have HA := hid hA
  have Ha1 := hid (ha1.up hA); have Ha2 := hid (ha2.up hA)
  clear ha1 ha2 hA
  by_cases h64 : l1.length = 64
  · by_cases h120 : l2.length ≤ 120
    · by_cases hg : g = true ∧ 0 < l2.length
      · obtain ⟨rfl, hg2⟩ := hg
        have hf := hid (show diskOk (l1, l2, true) = false by simp [diskOk, hg2])
        have h1 : ((l1.length : Int) == 64) = true := by rw [beq_iff_eq]; omega
        have h1' : ((l1.length : Int) != 64) = false := by rw [bne_eq_false_iff_eq]; omega
        have h2 : ¬ (120 : Int) < l2.length := by omega
        have h3 : (0 : Int) < l2.length := by omega
        clear h64 hg2 h120
        go_enter Tryz.func94, Tryz.ntmps94
        go_wp2
        go_ret
        exact ⟨ret_bool hf.out.symm, HA.out⟩
      · have Hd : Hid (diskOk (l1, l2, g) = (l1.all (cellOk g) && l2.all waitOk)) := hid (by
          have : (g && decide (0 < l2.length)) = false := by cases g <;> simp at hg ⊢; omega
          simp [diskOk, h64, h120, this])
        have h1 : ((l1.length : Int) == 64) = true := by rw [beq_iff_eq]; omega
        have h1' : ((l1.length : Int) != 64) = false := by rw [bne_eq_false_iff_eq]; omega
        have h2 : ¬ (120 : Int) < l2.length := by omega
        have h2' : decide ((120 : Int) < l2.length) = false := by simpa using h2
        have h3 : g = true → (l2.length : Int) ≤ 0 := by intro e; subst e; simp at hg; simp [hg]
        clear h64 h120 hg
        go_enter Tryz.func94, Tryz.ntmps94
        cases g
        · clear h3
          go_wp2
          go_loop [3] (fun iv => ∃ k : Nat, k ≤ l1.length ∧ iv = .int .i64 k ∧ Hid ((l1.take k).all (cellOk false) = true)) (fun iv => l1.length - (intOf iv).toNat)
          case atStart => exact ⟨0, by omega, rfl, hid (by simp)⟩
          case round =>
            obtain ⟨k, hk, rfl, Hk⟩ := hrel
            by_cases hlt : k < l1.length
            · obtain ⟨b, off, cs, rfl, hb, hc, hv⟩ := Ha1.out.elem hlt
              obtain ⟨x, Hx⟩ : ∃ x, Hid (x = l1[k]) := ⟨l1[k], hid rfl⟩
              rw [← Hx.out] at hc
              obtain ⟨rfl, hs⟩ := str_cells hc
              have e0 := hv 0 _ rfl
              simp only [Rep.size, Nat.add_zero, Nat.mul_one, vstr] at e0
              clear hv hc hb hs
              by_cases hx : x.length ≤ 200
              · have hx' : ¬ (200 : Int) < x.length := by omega
                go_wp2
                go_round
                case rel => exact ⟨k + 1, by omega, by go_num, hid (all_take_step hlt Hk.out (by rw [← Hx.out]; simp [cellOk, hx]))⟩
                case measure => simp [intOf]; omega
              · have hx' : (200 : Int) < x.length := by omega
                go_wp2
                go_ret
                exact ⟨ret_bool (by rw [Hd.out, all_take_false hlt (by rw [← Hx.out]; simp [cellOk, hx])]; rfl), HA.out⟩
            · have hk' : k = l1.length := by omega
              subst hk'
              rw [List.take_length] at Hk
              go_wp2
              go_loop [4] (fun iv => ∃ k : Nat, k ≤ l2.length ∧ iv = .int .i64 k ∧ Hid ((l2.take k).all waitOk = true)) (fun iv => l2.length - (intOf iv).toNat)
              case atStart => exact ⟨0, by omega, rfl, hid (by simp)⟩
              case round =>
                obtain ⟨k, hk, rfl, Hk2⟩ := hrel
                by_cases hlt : k < l2.length
                · obtain ⟨b, off, cs, rfl, hb, hc, hv⟩ := Ha2.out.elem hlt
                  obtain ⟨x, Hx⟩ : ∃ x, Hid (x = l2[k]) := ⟨l2[k], hid rfl⟩
                  rw [← Hx.out] at hc
                  obtain ⟨rfl, hi, hs⟩ := wait_cells hc
                  have e0 := hv 0 _ rfl
                  have e1 := hv 1 _ rfl
                  simp only [Rep.size, Nat.add_zero, Nat.reduceAdd, vstr] at e0 e1
                  clear hv hc hb hs hi
                  generalize hq : inR x.1 0 63 = q
                  have Hq := hid hq
                  by_cases hx : x.2.length ≤ 200
                  · have hx' : ¬ (200 : Int) < x.2.length := by omega
                    cases q
                    · go_wp2_with (go_at_call 160; refine (l3Cell x.1 _).mono ?_; rintro e w' ⟨rfl, rfl⟩; rw [Hq.out])
                      go_ret
                      exact ⟨ret_bool (by rw [Hd.out, all_take_false (p := waitOk) hlt (by rw [← Hx.out]; simp [waitOk, Hq.out])]; simp), HA.out⟩
                    · go_wp2_with (go_at_call 160; refine (l3Cell x.1 _).mono ?_; rintro e w' ⟨rfl, rfl⟩; rw [Hq.out])
                      go_round
                      case rel => exact ⟨k + 1, by omega, by go_num, hid (all_take_step hlt Hk2.out (by rw [← Hx.out]; simp [waitOk, Hq.out, hx]))⟩
                      case measure => simp [intOf]; omega
                  · have hx' : (200 : Int) < x.2.length := by omega
                    have hf := hid (show (l1.all (cellOk false) && l2.all waitOk) = false by rw [all_take_false (p := waitOk) hlt (by rw [← Hx.out]; simp [waitOk, hx])]; simp)
                    cases q
                    · go_wp2_with (go_at_call 160; refine (l3Cell x.1 _).mono ?_; rintro e w' ⟨rfl, rfl⟩; rw [Hq.out])
                      go_ret
                      exact ⟨ret_bool (by rw [Hd.out, hf.out]), HA.out⟩
                    · go_wp2_with (go_at_call 160; refine (l3Cell x.1 _).mono ?_; rintro e w' ⟨rfl, rfl⟩; rw [Hq.out])
                      go_ret
                      exact ⟨ret_bool (by rw [Hd.out, hf.out]), HA.out⟩
                · have hk' : k = l2.length := by omega
                  subst hk'
                  rw [List.take_length] at Hk2
                  go_wp2
                  go_ret
                  exact ⟨ret_bool (by rw [Hd.out, Hk.out, Hk2.out]; rfl), HA.out⟩
        · have h3 := h3 rfl
          have hl20 : l2 = [] := List.eq_nil_of_length_eq_zero (by omega)
          subst hl20
          clear h3 h2 h2' hl2
          simp only [List.length_nil] at Ha1 HA
          go_wp2
          go_loop [3] (fun iv => ∃ k : Nat, k ≤ l1.length ∧ iv = .int .i64 k ∧ Hid ((l1.take k).all (cellOk true) = true)) (fun iv => l1.length - (intOf iv).toNat)
          case atStart => exact ⟨0, by omega, rfl, hid (by simp)⟩
          case round =>
            obtain ⟨k, hk, rfl, Hk⟩ := hrel
            by_cases hlt : k < l1.length
            · obtain ⟨b, off, cs, rfl, hb, hc, hv⟩ := Ha1.out.elem hlt
              obtain ⟨x, Hx⟩ : ∃ x, Hid (x = l1[k]) := ⟨l1[k], hid rfl⟩
              rw [← Hx.out] at hc
              obtain ⟨rfl, hs⟩ := str_cells hc
              have e0 := hv 0 _ rfl
              simp only [Rep.size, Nat.add_zero, Nat.mul_one, vstr] at e0
              clear hv hc hb hs
              by_cases hx : x = []
              · subst hx
                go_wp2
                go_round
                case rel => exact ⟨k + 1, by omega, by go_num, hid (all_take_step hlt Hk.out (by rw [← Hx.out]; rfl))⟩
                case measure => simp [intOf]; omega
              · have hf := hid (show l1.all (cellOk true) = false from all_take_false hlt (by rw [← Hx.out]; simp [cellOk, hx]))
                have hx1 : x.isEmpty = false := by simpa using hx
                have hx2 : ¬ (x = []) := hx
                go_wp2
                all_goals (go_ret; exact ⟨ret_bool (by rw [Hd.out, hf.out]; rfl), HA.out⟩)
            · have hk' : k = l1.length := by omega
              subst hk'
              rw [List.take_length] at Hk
              go_wp2
              refine wp_loop_rounds 1 ?_
              rw [rounds_succ]
              go_wp2
              go_ret
              exact ⟨ret_bool (by rw [Hd.out, Hk.out]; rfl), HA.out⟩
    · have hf := hid (show diskOk (l1, l2, g) = false by simp [diskOk, h120])
      have h1 : ((l1.length : Int) == 64) = true := by rw [beq_iff_eq]; omega
      have h1' : ((l1.length : Int) != 64) = false := by rw [bne_eq_false_iff_eq]; omega
      have h2 : (120 : Int) < l2.length := by omega
      clear h120 h64
      go_enter Tryz.func94, Tryz.ntmps94
      go_wp2
      go_ret
      exact ⟨ret_bool hf.out.symm, HA.out⟩
  · have hf := hid (show diskOk (l1, l2, g) = false by simp [diskOk, h64])
    have h1 : ((l1.length : Int) == 64) = false := by rw [beq_eq_false_iff_ne]; omega
    have h1' : ((l1.length : Int) != 64) = true := by rw [bne_iff_ne]; omega
    clear h64
    go_enter Tryz.func94, Tryz.ntmps94
    go_wp2
    go_ret
    exact ⟨ret_bool hf.out.symm, HA.out⟩

set_option maxHeartbeats 400000 in
theorem spRaidOk (A : Option Addr) (l : Raid) (c : Nat) (w : World) (hl : l.length ≤ big) (h : At w w.heap.size A l) :
    Calls Tryz.prog 38 #[.agg #[.slice A l.length c]] w fun e w' => e = .returned (.bool (raidOk l)) ∧ Below w.heap.size w w' := by
  unfold big at hl
  have HA := hid (bnew w (.cells #[.slice A l.length c] 28))
  have H := hid (h.up HA.out)
  have R := hid (Row.new w #[.slice A l.length c] 28)
  clear h
  go_enter Tryz.func38, Tryz.ntmps38
  go_wp2
  go_loopw [3] (fun iv wr => ∃ k : Nat, k ≤ l.length ∧ iv = .int .i64 k ∧ Hid ((l.take k).all diskOk = true) ∧ Below (w.alloc (.cells #[.slice A l.length c] 28)).heap.size (w.alloc (.cells #[.slice A l.length c] 28)) wr) (fun iv _ => l.length - (intOf iv).toNat)
  case atStart => exact ⟨0, by omega, rfl, hid (by simp), Below.refl _ _⟩
  case round =>
    obtain ⟨k, hk, rfl, Hk, hbel⟩ := hrel
    have c0 := (R.out.below hbel).get 0 rfl
    have HB := hid hbel
    by_cases hlt : k < l.length
    · obtain ⟨b, off, cs, rfl, hb, hc, hv⟩ := (H.out.up hbel).elem hlt
      obtain ⟨x, Hx⟩ : ∃ x, Hid (x = l[k]) := ⟨l[k], hid rfl⟩
      rw [← Hx.out] at hc
      obtain ⟨A1, c1, A2, c2, rfl, hx1, ha1, hx2, ha2⟩ := disk_cells hc
      have e0 := hv 0 _ rfl
      have e1 := hv 1 _ rfl
      have e2 := hv 2 _ rfl
      simp only [Rep.size, Nat.add_zero, Nat.reduceAdd] at e0 e1 e2
      have Ha1 := hid ha1; have Ha2 := hid ha2
      clear hv hc hb ha1 ha2 hbel
      generalize hq : diskOk x = q
      have Hq := hid hq
      clear hq
      cases q
      · go_wp2_with (go_at_call 94; refine (spDiskOk A1 A2 c1 c2 x _ hx1 Ha1.out hx2 Ha2.out).mono ?_; rintro e w1 ⟨rfl, hb1⟩; rw [Hq.out]; have hbe := btr HB.out hb1; clear hb1)
        go_ret
        have hf : l.all diskOk = false := all_take_false hlt (by rw [← Hx.out, Hq.out])
        exact ⟨ret_bool (by unfold raidOk; rw [hf]; simp), btr HA.out hbe⟩
      · go_wp2_with (go_at_call 94; refine (spDiskOk A1 A2 c1 c2 x _ hx1 Ha1.out hx2 Ha2.out).mono ?_; rintro e w1 ⟨rfl, hb1⟩; rw [Hq.out]; have hbe := hid (btr HB.out hb1); clear hb1)
        go_roundw
        case rel => exact ⟨k + 1, by omega, by go_num, hid (all_take_step hlt Hk.out (by rw [← Hx.out, Hq.out])), hbe.out⟩
        case measure => simp [intOf]; omega
    · have hk' : k = l.length := by omega
      subst hk'
      clear hbel
      rw [List.take_length] at Hk
      go_wp2
      go_ret
      exact ⟨ret_bool (by unfold raidOk; rw [Hk.out, Bool.and_true, Bool.eq_iff_iff, beq_iff_eq, decide_eq_true_iff]; omega), btr HA.out HB.out⟩

set_option maxHeartbeats 400000 in
theorem spQuiet (A : Option Addr) (l : Raid) (c : Nat) (w : World) (hl : l.length ≤ big) (h : At w w.heap.size A l) :
    Calls Tryz.prog 39 #[.agg #[.slice A l.length c]] w fun e w' => e = .returned (.bool (!l.any waits)) ∧ Below w.heap.size w w' := by
  unfold big at hl
  have HA := hid (bnew w (.cells #[.slice A l.length c] 28))
  have H := hid (h.up HA.out)
  clear h
  go_enter Tryz.func39, Tryz.ntmps39
  go_wp2
  go_loop [3] (fun iv => ∃ k : Nat, k ≤ l.length ∧ iv = .int .i64 k ∧ Hid ((l.take k).all (fun d => !waits d) = true)) (fun iv => l.length - (intOf iv).toNat)
  case atStart => exact ⟨0, by omega, rfl, hid (by simp)⟩
  case round =>
    obtain ⟨k, hk, rfl, Hk⟩ := hrel
    by_cases hlt : k < l.length
    · obtain ⟨b, off, cs, rfl, hb, hc, hv⟩ := H.out.elem hlt
      obtain ⟨x, Hx⟩ : ∃ x, Hid (x = l[k]) := ⟨l[k], hid rfl⟩
      rw [← Hx.out] at hc
      obtain ⟨A1, c1, A2, c2, rfl, hx1, ha1, hx2, ha2⟩ := disk_cells hc
      have e1 := hv 1 _ rfl
      simp only [Rep.size, Nat.reduceAdd] at e1
      clear hv hc hb ha1 ha2
      by_cases hq : 0 < x.2.1.length
      · have hq' : (0 : Int) < x.2.1.length := by omega
        have hf : l.all (fun d => !waits d) = false := all_take_false hlt (by rw [← Hx.out]; simp [waits, List.length_pos_iff] at hq ⊢; exact hq)
        have Hf := hid hf
        clear hf hq
        go_wp2
        go_ret
        exact ⟨ret_bool (by rw [List.not_any_eq_all_not]; exact Hf.out.symm), HA.out⟩
      · have hq' : ¬ (0 : Int) < x.2.1.length := by omega
        have Hq := hid hq
        clear hq
        go_wp2
        go_round
        case rel => exact ⟨k + 1, by omega, by go_num, hid (all_take_step hlt Hk.out (by rw [← Hx.out]; simp only [waits, decide_eq_false Hq.out]; rfl))⟩
        case measure => simp [intOf]; omega
    · have hk' : k = l.length := by omega
      subst hk'
      rw [List.take_length] at Hk
      go_wp2
      go_ret
      exact ⟨ret_bool (by rw [List.not_any_eq_all_not]; exact Hk.out.symm), HA.out⟩
end Pm
end Go.Proofs.YtdjkdcokjoiokaaGreatDoor

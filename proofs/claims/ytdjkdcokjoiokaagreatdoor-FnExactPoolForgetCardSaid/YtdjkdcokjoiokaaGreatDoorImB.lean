/- The program's tests on numbers, pointers and roots, and its checksum: what each returns. -/
import Derived.Test.YtdjkdcokjoiokaaGreatDoorSpQ
import Derived.Test.YtdjkdcokjoiokaaGreatDoorShelfB
import Derived.Test.YtdjkdcokjoiokaaGreatDoorLaid
import Derived.Test.YtdjkdcokjoiokaaGreatDoorPlainB
namespace Go.Proofs.YtdjkdcokjoiokaaGreatDoor
open Go.RowKit
namespace Pm
open Pl (dec dch inR Ptr Tree Root hole ptrHole ptrOk)
set_option maxHeartbeats 400000 in
theorem imIn (n a b : Int) (w : World) : Calls Tryz.prog 45 #[.int .i64 n, .int .i64 a, .int .i64 b] w fun e w' => e = .returned (.bool (inR n a b)) ∧ w = w' := by
  by_cases h1 : a ≤ n
  · by_cases h2 : n ≤ b
    · have hf := hid (show inR n a b = true by simp [inR, h1, h2])
      go_enter Tryz.func45, Tryz.ntmps45
      go_wp2
      go_ret
      exact ⟨ret_bool hf.out.symm, rfl⟩
    · have hf := hid (show inR n a b = false by simp [inR, h2])
      have h3 : b < n := by omega
      clear h2
      go_enter Tryz.func45, Tryz.ntmps45
      go_wp2
      go_ret
      exact ⟨ret_bool (by rw [hf.out, decide_eq_false (by omega)]), rfl⟩
  · have hf := hid (show inR n a b = false by simp [inR, h1])
    have h3 : n < a := by omega
    clear h1
    go_enter Tryz.func45, Tryz.ntmps45
    go_wp2
    go_ret
    exact ⟨ret_bool hf.out.symm, rfl⟩

set_option maxHeartbeats 400000 in
theorem imCell (n : Int) (w : World) : Calls Tryz.prog 237 #[.int .i64 n] w fun e w' => e = .returned (.bool (inR n 0 63)) ∧ w = w' := by
  go_enter Tryz.func237, Tryz.ntmps237
  go_wp2_with (go_at_call 45; refine (imIn n 0 63 _).mono ?_; rintro e w' ⟨rfl, rfl⟩)
  go_ret
  exact ⟨rfl, rfl⟩

set_option maxRecDepth 100000 in
set_option maxHeartbeats 400000 in
theorem imPtrHole (p : Ptr) (w : World) : Calls Tryz.prog 199 #[vptr p] w fun e w' => e = .returned (.bool (ptrHole p)) ∧ Below w.heap.size w w' := by
  obtain ⟨pat, birth, size, sum, level⟩ := p
  unfold vptr
  dsimp only
  go_enter Tryz.func199, Tryz.ntmps199
  go_wp2
  all_goals (go_ret; exact ⟨ret_bool (by simp [ptrHole, hole, *]), bnew _ _⟩)

set_option maxRecDepth 100000 in
set_option maxHeartbeats 400000 in
theorem imRow (n : Int) (w : World) : Calls Tryz.prog 283 #[.int .i64 n] w fun e w' => e = .returned (.bool (inR n 8 63)) ∧ w = w' := by
  go_enter Tryz.func283, Tryz.ntmps283
  go_wp2_with (go_at_call 45; refine (imIn n 8 63 w).mono ?_; rintro e w' ⟨rfl, rfl⟩)
  go_ret
  exact ⟨rfl, rfl⟩

set_option maxRecDepth 100000 in
set_option maxHeartbeats 400000 in
theorem imPtrOk (p : Ptr) (w : World) : Calls Tryz.prog 218 #[vptr p] w fun e w' => e = .returned (.bool (ptrOk p)) ∧ Below w.heap.size w w' := by
  have Hp := hid (imPtrHole p)
  obtain ⟨pat, birth, size, sum, level⟩ := p
  unfold vptr at *
  dsimp only at *
  generalize hq : ptrHole ⟨pat, birth, size, sum, level⟩ = q
  have Hq := hid hq
  rw [hq] at Hp
  clear hq
  cases q
  · have Hd : Hid (ptrOk ⟨pat, birth, size, sum, level⟩ = (inR pat 8 63 && inR birth 1 900 && inR size 1 128 && inR sum 0 99460728 && inR level 0 2)) := hid (by unfold ptrOk; rw [Hq.out]; rfl)
    generalize hq0 : inR pat 8 63 = q0 at Hd
    have H1 := hid hq0
    clear hq0
    generalize hq1 : inR birth 1 900 = q1 at Hd
    have H2 := hid hq1
    clear hq1
    generalize hq2 : inR size 1 128 = q2 at Hd
    have H3 := hid hq2
    clear hq2
    generalize hq3 : inR sum 0 99460728 = q3 at Hd
    have H4 := hid hq3
    clear hq3
    generalize hq4 : inR level 0 2 = q4 at Hd
    have H5 := hid hq4
    clear hq4
    cases q0
    · have Hr : Hid (ptrOk ⟨pat, birth, size, sum, level⟩ = false) := hid (by rw [Hd.out]; simp)
      go_enter Tryz.func218, Tryz.ntmps218
      go_wp2_with (first | (go_at_call 199; refine (Hp.out _).mono ?_; rintro e w1 ⟨rfl, hb1⟩; have c0 := box_cell hb1 0 _ rfl; have c1 := box_cell hb1 1 _ rfl; have c2 := box_cell hb1 2 _ rfl; have c3 := box_cell hb1 3 _ rfl; have c4 := box_cell hb1 4 _ rfl; have Hb1 := hid hb1; clear hb1) | (go_at_call 283; refine (imRow pat _).mono ?_; rintro e w' ⟨rfl, rfl⟩; rw [H1.out]))
      go_ret
      exact ⟨ret_bool Hr.out.symm, btr (bnew _ _) Hb1.out⟩
    · cases q1
      · have Hr : Hid (ptrOk ⟨pat, birth, size, sum, level⟩ = false) := hid (by rw [Hd.out]; simp)
        go_enter Tryz.func218, Tryz.ntmps218
        go_wp2_with (first | (go_at_call 199; refine (Hp.out _).mono ?_; rintro e w1 ⟨rfl, hb1⟩; have c0 := box_cell hb1 0 _ rfl; have c1 := box_cell hb1 1 _ rfl; have c2 := box_cell hb1 2 _ rfl; have c3 := box_cell hb1 3 _ rfl; have c4 := box_cell hb1 4 _ rfl; have Hb1 := hid hb1; clear hb1) | (go_at_call 283; refine (imRow pat _).mono ?_; rintro e w' ⟨rfl, rfl⟩; rw [H1.out]) | (go_at_call 45; refine (imIn _ _ _ _).mono ?_; rintro e w' ⟨rfl, rfl⟩; first | rw [H2.out]))
        go_ret
        exact ⟨ret_bool Hr.out.symm, btr (bnew _ _) Hb1.out⟩
      · cases q2
        · have Hr : Hid (ptrOk ⟨pat, birth, size, sum, level⟩ = false) := hid (by rw [Hd.out]; simp)
          go_enter Tryz.func218, Tryz.ntmps218
          go_wp2_with (first | (go_at_call 199; refine (Hp.out _).mono ?_; rintro e w1 ⟨rfl, hb1⟩; have c0 := box_cell hb1 0 _ rfl; have c1 := box_cell hb1 1 _ rfl; have c2 := box_cell hb1 2 _ rfl; have c3 := box_cell hb1 3 _ rfl; have c4 := box_cell hb1 4 _ rfl; have Hb1 := hid hb1; clear hb1) | (go_at_call 283; refine (imRow pat _).mono ?_; rintro e w' ⟨rfl, rfl⟩; rw [H1.out]) | (go_at_call 45; refine (imIn _ _ _ _).mono ?_; rintro e w' ⟨rfl, rfl⟩; first | rw [H2.out] | rw [H3.out]))
          go_ret
          exact ⟨ret_bool Hr.out.symm, btr (bnew _ _) Hb1.out⟩
        · cases q3
          · have Hr : Hid (ptrOk ⟨pat, birth, size, sum, level⟩ = false) := hid (by rw [Hd.out]; simp)
            go_enter Tryz.func218, Tryz.ntmps218
            go_wp2_with (first | (go_at_call 199; refine (Hp.out _).mono ?_; rintro e w1 ⟨rfl, hb1⟩; have c0 := box_cell hb1 0 _ rfl; have c1 := box_cell hb1 1 _ rfl; have c2 := box_cell hb1 2 _ rfl; have c3 := box_cell hb1 3 _ rfl; have c4 := box_cell hb1 4 _ rfl; have Hb1 := hid hb1; clear hb1) | (go_at_call 283; refine (imRow pat _).mono ?_; rintro e w' ⟨rfl, rfl⟩; rw [H1.out]) | (go_at_call 45; refine (imIn _ _ _ _).mono ?_; rintro e w' ⟨rfl, rfl⟩; first | rw [H2.out] | rw [H3.out] | rw [H4.out]))
            go_ret
            exact ⟨ret_bool Hr.out.symm, btr (bnew _ _) Hb1.out⟩
          · cases q4
            · have Hr : Hid (ptrOk ⟨pat, birth, size, sum, level⟩ = false) := hid (by rw [Hd.out]; simp)
              go_enter Tryz.func218, Tryz.ntmps218
              go_wp2_with (first | (go_at_call 199; refine (Hp.out _).mono ?_; rintro e w1 ⟨rfl, hb1⟩; have c0 := box_cell hb1 0 _ rfl; have c1 := box_cell hb1 1 _ rfl; have c2 := box_cell hb1 2 _ rfl; have c3 := box_cell hb1 3 _ rfl; have c4 := box_cell hb1 4 _ rfl; have Hb1 := hid hb1; clear hb1) | (go_at_call 283; refine (imRow pat _).mono ?_; rintro e w' ⟨rfl, rfl⟩; rw [H1.out]) | (go_at_call 45; refine (imIn _ _ _ _).mono ?_; rintro e w' ⟨rfl, rfl⟩; first | rw [H2.out] | rw [H3.out] | rw [H4.out] | rw [H5.out]))
              go_ret
              exact ⟨ret_bool Hr.out.symm, btr (bnew _ _) Hb1.out⟩
            · have Hr : Hid (ptrOk ⟨pat, birth, size, sum, level⟩ = true) := hid (by rw [Hd.out]; simp)
              go_enter Tryz.func218, Tryz.ntmps218
              go_wp2_with (first | (go_at_call 199; refine (Hp.out _).mono ?_; rintro e w1 ⟨rfl, hb1⟩; have c0 := box_cell hb1 0 _ rfl; have c1 := box_cell hb1 1 _ rfl; have c2 := box_cell hb1 2 _ rfl; have c3 := box_cell hb1 3 _ rfl; have c4 := box_cell hb1 4 _ rfl; have Hb1 := hid hb1; clear hb1) | (go_at_call 283; refine (imRow pat _).mono ?_; rintro e w' ⟨rfl, rfl⟩; rw [H1.out]) | (go_at_call 45; refine (imIn _ _ _ _).mono ?_; rintro e w' ⟨rfl, rfl⟩; first | rw [H2.out] | rw [H3.out] | rw [H4.out] | rw [H5.out]))
              go_ret
              exact ⟨ret_bool Hr.out.symm, btr (bnew _ _) Hb1.out⟩
  · go_enter Tryz.func218, Tryz.ntmps218
    go_wp2_with (go_at_call 199; refine (Hp.out _).mono ?_; rintro e w1 ⟨rfl, hb1⟩)
    go_ret
    exact ⟨ret_bool (by unfold ptrOk; rw [Hq.out]; rfl), btr (bnew _ _) hb1⟩
set_option maxRecDepth 100000 in
set_option maxHeartbeats 400000 in
theorem imRootOk (r : Root) (w : World) : Calls Tryz.prog 171 #[vroot r] w fun e w' => e = .returned (.bool (Pl.rootOk r)) ∧ Below w.heap.size w w' := by
  have Hp := hid (imPtrOk r.tree.root)
  have Hd : Hid (Pl.rootOk r = (inR r.txg 1 900 && ptrOk r.tree.root && inR r.tree.depth 0 2 && inR r.tree.many 1 16)) := hid rfl
  generalize hr : r = r' at *
  obtain ⟨txg, ⟨⟨pat, birth, size, sum, level⟩, depth, many⟩⟩ := r'
  unfold vroot vptr at *
  dsimp only at *
  rw [← hr] at *
  clear hr
  generalize hq0 : inR txg 1 900 = q0 at Hd
  have H1 := hid hq0
  clear hq0
  generalize hq1 : ptrOk ⟨pat, birth, size, sum, level⟩ = q1 at Hd Hp
  have H2 := hid hq1
  clear hq1
  generalize hq2 : inR depth 0 2 = q2 at Hd
  have H3 := hid hq2
  clear hq2
  generalize hq3 : inR many 1 16 = q3 at Hd
  have H4 := hid hq3
  clear hq3
  cases q0
  · have Hr : Hid (Pl.rootOk r = false) := hid (by rw [Hd.out]; simp)
    go_enter Tryz.func171, Tryz.ntmps171
    go_wp2_with (first | (go_at_call 45; refine (imIn _ _ _ _).mono ?_; rintro e w' ⟨rfl, rfl⟩; first | rw [H1.out]))
    go_ret
    exact ⟨ret_bool Hr.out.symm, bnew _ _⟩
  · cases q1
    · have Hr : Hid (Pl.rootOk r = false) := hid (by rw [Hd.out]; simp)
      go_enter Tryz.func171, Tryz.ntmps171
      go_wp2_with (first | (go_at_call 45; refine (imIn _ _ _ _).mono ?_; rintro e w' ⟨rfl, rfl⟩; first | rw [H1.out]) | (go_at_call 218; refine (Hp.out _).mono ?_; rintro e w1 ⟨rfl, hb1⟩; have e6 := box_cell hb1 6 _ rfl; have e7 := box_cell hb1 7 _ rfl; have Hb1 := hid hb1; clear hb1))
      go_ret
      exact ⟨ret_bool Hr.out.symm, btr (bnew _ _) Hb1.out⟩
    · cases q2
      · have Hr : Hid (Pl.rootOk r = false) := hid (by rw [Hd.out]; simp)
        go_enter Tryz.func171, Tryz.ntmps171
        go_wp2_with (first | (go_at_call 45; refine (imIn _ _ _ _).mono ?_; rintro e w' ⟨rfl, rfl⟩; first | rw [H1.out] | rw [H3.out]) | (go_at_call 218; refine (Hp.out _).mono ?_; rintro e w1 ⟨rfl, hb1⟩; have e6 := box_cell hb1 6 _ rfl; have e7 := box_cell hb1 7 _ rfl; have Hb1 := hid hb1; clear hb1))
        go_ret
        exact ⟨ret_bool Hr.out.symm, btr (bnew _ _) Hb1.out⟩
      · cases q3
        · have Hr : Hid (Pl.rootOk r = false) := hid (by rw [Hd.out]; simp)
          go_enter Tryz.func171, Tryz.ntmps171
          go_wp2_with (first | (go_at_call 45; refine (imIn _ _ _ _).mono ?_; rintro e w' ⟨rfl, rfl⟩; first | rw [H1.out] | rw [H3.out] | rw [H4.out]) | (go_at_call 218; refine (Hp.out _).mono ?_; rintro e w1 ⟨rfl, hb1⟩; have e6 := box_cell hb1 6 _ rfl; have e7 := box_cell hb1 7 _ rfl; have Hb1 := hid hb1; clear hb1))
          go_ret
          exact ⟨ret_bool Hr.out.symm, btr (bnew _ _) Hb1.out⟩
        · have Hr : Hid (Pl.rootOk r = true) := hid (by rw [Hd.out]; simp)
          go_enter Tryz.func171, Tryz.ntmps171
          go_wp2_with (first | (go_at_call 45; refine (imIn _ _ _ _).mono ?_; rintro e w' ⟨rfl, rfl⟩; first | rw [H1.out] | rw [H3.out] | rw [H4.out]) | (go_at_call 218; refine (Hp.out _).mono ?_; rintro e w1 ⟨rfl, hb1⟩; have e6 := box_cell hb1 6 _ rfl; have e7 := box_cell hb1 7 _ rfl; have Hb1 := hid hb1; clear hb1))
          go_ret
          exact ⟨ret_bool Hr.out.symm, btr (bnew _ _) Hb1.out⟩
set_option maxRecDepth 100000 in
set_option maxHeartbeats 800000 in
theorem imSumOf (s : Str) (w : World) (hs : s.length ≤ big) :
    Calls Tryz.prog 247 #[.string ⟨s.toArray⟩] w fun e w' => e = .returned (.int .i64 ((Pl.sumOf s : Nat) : Int)) ∧ w = w' := by
  unfold big at hs
  go_enter Tryz.func247, Tryz.ntmps247
  go_wp2
  go_loop [3, 4, 8] (fun av bv iv => ∃ k a b : Nat, k ≤ s.length ∧ iv = .int .i64 k ∧ av = .int .i64 a ∧ bv = .int .i64 b ∧ Hid ((a, b) = Pl.sum2 (s.take k)) ∧ a < 9973 ∧ b < 9973) (fun _ _ iv => s.length - (intOf iv).toNat)
  case atStart => exact ⟨0, 1, 0, by omega, rfl, rfl, rfl, hid rfl, by omega, by omega⟩
  case round =>
    obtain ⟨k, a, b, hk, rfl, rfl, rfl, Hp, ha, hb⟩ := hrel
    by_cases hlt : k < s.length
    · have hstep : Hid (Pl.sum2 (s.take (k + 1)) = Pl.sumStep (a, b) s[k]) := hid (by rw [List.take_succ_eq_append_getElem hlt, Pl.sum2_snoc, ← Hp.out])
      have hltI : (k : Int) < s.length := by omega
      obtain ⟨c, hc, hc256, hck⟩ := byte_at s k hlt
      rw [← hc] at hstep
      have Hc := hid hc
      clear hc
      go_wp2
      go_round
      case rel =>
        refine ⟨k + 1, (a + c.toNat + 1) % 9973, (b + (a + c.toNat + 1) % 9973) % 9973, by omega, by go_num, ?_, ?_, hid (by rw [hstep.out]; rfl), Nat.mod_lt _ (by omega), Nat.mod_lt _ (by omega)⟩
        · go_num
        · go_num
      case measure => simp [intOf]; omega
    · have hk' : k = s.length := by omega
      subst hk'
      rw [List.take_length] at Hp
      have hf : Hid (Pl.sumOf s = a * 9973 + b) := hid (by unfold Pl.sumOf; rw [← Hp.out])
      go_wp2
      go_ret
      exact ⟨ret_int (by rw [hf.out]; omega), rfl⟩

end Pm
end Go.Proofs.YtdjkdcokjoiokaaGreatDoor

/- The program's numerals: written and read. -/
namespace Go.Proofs.YtdjkdcokjoiokaaGreatDoor
open Go.RowKit
namespace Pl
theorem atoi_in {l : Str} {v : Int} (h : Lib.atoiAll l = .ok v) : -9223372036854775808 ≤ v ∧ v ≤ 9223372036854775807 := by
  unfold Lib.atoiAll at h
  split at h
  · cases h
  · simp only at h
    split at h
    · cases h
    · cases h
    · split at h
      · cases h
      · split at h
        · cases h
        · injection h with h
          split at h <;> omega
theorem itoa_dec (n : Nat) : Lib.itoa (n : Int) = dec n := by
  unfold Lib.itoa
  rw [if_neg (by omega)]; rfl
end Pl
namespace Pm
open Pl (dec dch inR)
theorem below_grow (w : World) (k : Nat) (os : Array Obj) : Below w.heap.size w (Sort.grow (w.drewN k) os) :=
  ⟨rfl, rfl, rfl, by simp [Sort.grow, World.drewN], fun i hi => by
    show (w.heap ++ os)[i]? = w.heap[i]?
    rw [Array.getElem?_append_left hi]⟩

theorem atoiOk (s : Str) (v : Int) (w : World) (hs : s.length ≤ 9) (h : Lib.atoiAll s = .ok v) :
    Calls Tryz.prog 168 #[.string ⟨s.toArray⟩] w fun e w' => e = .returned (.tuple #[.int .i64 v, .nilIface]) ∧ Below w.heap.size w w' :=
  (Tryz.strconv_Atoi_ok ⟨s.toArray⟩ (by show s.toArray.size ≤ _; simp; omega) v (by simpa using h) w).mono fun e w' ⟨he, hw⟩ => ⟨he, by
    rcases hw with rfl | ⟨t, rfl⟩
    · exact Below.refl _ _
    · exact Lib.bytesWorld_below _ _ _⟩
theorem atoiBad (s : Str) (w : World) (hs : s.length ≤ 9) (hL : Lt w) (h : ∀ v, Lib.atoiAll s ≠ .ok v) :
    Calls Tryz.prog 168 #[.string ⟨s.toArray⟩] w fun e w' => ∃ n M, e = .returned (.tuple #[.int .i64 n, .iface 330 (.pointer (some ⟨M, 0, none⟩))]) ∧ Below w.heap.size w w' := by
  have hz : (⟨s.toArray⟩ : ByteArray).size ≤ 281474976710656 := by show s.toArray.size ≤ _; simp; omega
  cases he : Lib.atoiAll s
  case ok v => exact absurd he (h v)
  case range =>
    obtain ⟨t, p, hv⟩ := hL.ran
    exact (Tryz.strconv_Atoi_range ⟨s.toArray⟩ hz (by simpa using he) _ w hv (.inr ⟨t, p, rfl⟩)).mono fun e w' ⟨M, h1, _, _, h2⟩ => ⟨_, M, h1, h2⟩
  obtain ⟨t, p, hv⟩ := hL.syn
  exact (Tryz.strconv_Atoi_syntax ⟨s.toArray⟩ hz (by rw [show (⟨s.toArray⟩ : ByteArray).data.toList = s by simp]; exact he) _ w hv (.inr ⟨t, p, rfl⟩)).mono fun e w' ⟨M, h1, _, _, h2⟩ => ⟨0, M, h1, h2⟩
theorem itoaAt (n : Nat) (w : World) (hn : n ≤ 9223372036854775807) (hL : Lt w) :
    Calls Tryz.prog 242 #[.int .i64 n] w fun e w' => e = .returned (.string ⟨(dec n).toArray⟩) ∧ Below w.heap.size w w' :=
  (Tryz.strconv_Itoa n (by omega) (by omega) w hL.tab).mono fun e w' ⟨he, k, os, hw⟩ => ⟨by rw [he, Pl.itoa_dec], hw ▸ below_grow w k os⟩

set_option maxRecDepth 100000 in
set_option maxHeartbeats 400000 in
theorem imNumPut (n : Int) (w : World) (hL : Lt w) :
    Calls Tryz.prog 169 #[.int .i64 n] w fun e w' => e = .returned (.string ⟨(Pl.numPut n).toArray⟩) ∧ Below w.heap.size w w' := by
  have HL := hid hL
  clear hL
  generalize hq : inR n 0 999999999 = q
  have Hq := hid hq
  clear hq
  cases q
  · have Hr : Hid (Pl.numPut n = []) := hid (by have := Hq.out; simp [inR] at this; unfold Pl.numPut; rw [if_neg (by omega)])
    go_enter Tryz.func169, Tryz.ntmps169
    go_wp2_with (go_at_call 45; refine (imIn n 0 999999999 _).mono ?_; rintro e w' ⟨rfl, rfl⟩; rw [Hq.out])
    go_ret
    exact ⟨by rw [Hr.out]; rfl, Below.refl _ _⟩
  · have hk := Hq.out
    simp [inR] at hk
    obtain ⟨k, rfl⟩ := Int.eq_ofNat_of_zero_le hk.1
    have Hk := hid hk
    have Hr : Hid (Pl.numPut (k : Int) = dec k) := hid (by unfold Pl.numPut; rw [if_pos (by omega)]; simp)
    clear hk
    go_enter Tryz.func169, Tryz.ntmps169
    go_wp2_with (first | (go_at_call 45; refine (imIn k 0 999999999 _).mono ?_; rintro e w' ⟨rfl, rfl⟩; rw [Hq.out]) | (go_at_call 242; refine (itoaAt k _ (by have := Hk.out; omega) HL.out).mono ?_; rintro e w1 ⟨rfl, hb1⟩))
    go_ret
    exact ⟨by rw [Hr.out]; rfl, hb1⟩

set_option maxRecDepth 100000 in
set_option maxHeartbeats 400000 in
theorem imNumGet (s : Str) (w : World) (hs : s.length ≤ big) (hL : Lt w) :
    Calls Tryz.prog 102 #[.string ⟨s.toArray⟩] w fun e w' => e = .returned (optNat (Pl.numGet s)) ∧ Below w.heap.size w w' := by
  unfold big at hs
  have HL := hid hL
  clear hL
  by_cases h9 : s.length ≤ 9
  · have h9' : ¬ (9 : Int) < s.length := by omega
    cases he : Lib.atoiAll s with
    | ok v =>
      have Hg := hid (Pl.numGet_ok he)
      have Hc := hid (fun w => atoiOk s v w h9 he)
      have Hp := hid (fun w (h : Lt w) => imNumPut v w h)
      have Hv := hid (fun h => Pl.numPut_dec (v := v) (s := s) h (by rintro rfl; cases he))
      generalize hq : Pl.numPut v = t at Hg Hp Hv
      clear he h9 hq
      by_cases hts : t = s
      · subst hts
        have Hr : Hid (Pl.numGet t = some v.toNat ∧ ((v.toNat : Nat) : Int) = v) := hid ⟨by rw [Hg.out, if_pos rfl], by have := (Hv.out rfl).1; omega⟩
        go_enter Tryz.func102, Tryz.ntmps102
        go_wp2_with (first | (go_at_call 168; refine (Hc.out _).mono ?_; rintro e w1 ⟨rfl, hb1⟩; have Hb1 := hid hb1; clear hb1) | (go_at_call 169; refine (Hp.out _ (HL.out.below Hb1.out)).mono ?_; rintro e w2 ⟨rfl, hb2⟩; have Hb2 := hid (btr Hb1.out hb2); clear hb2))
        go_ret2
        exact ⟨by rw [Hr.out.1]; show _ = Ending.returned (.tuple #[.int .i64 ((v.toNat : Nat) : Int), .bool true]); rw [Hr.out.2]; rfl, Hb2.out⟩
      · have hts2 : (t == s) = false := by rw [beq_eq_false_iff_ne]; exact hts
        have hts3 : ¬ s = t := fun e => hts e.symm
        have Hr : Hid (Pl.numGet s = none) := hid (by rw [Hg.out, if_neg hts])
        go_enter Tryz.func102, Tryz.ntmps102
        go_wp2_with (first | (go_at_call 168; refine (Hc.out _).mono ?_; rintro e w1 ⟨rfl, hb1⟩; have Hb1 := hid hb1; clear hb1) | (go_at_call 169; refine (Hp.out _ (HL.out.below Hb1.out)).mono ?_; rintro e w2 ⟨rfl, hb2⟩; have Hb2 := hid (btr Hb1.out hb2); clear hb2))
        go_ret2
        exact ⟨by rw [Hr.out]; rfl, Hb2.out⟩
    | _ =>
      have hbad : ∀ v, Lib.atoiAll s ≠ .ok v := fun v e => by rw [he] at e; cases e
      have Hr := hid (Pl.numGet_bad hbad)
      have Hc := hid (fun w h => atoiBad s w h9 h hbad)
      clear he h9 hbad
      go_enter Tryz.func102, Tryz.ntmps102
      go_wp2_with (go_at_call 168; refine (Hc.out _ HL.out).mono ?_; rintro e w1 ⟨n, M, rfl, hb1⟩)
      go_ret2
      exact ⟨by rw [Hr.out]; rfl, hb1⟩
  · have h9' : (9 : Int) < s.length := by omega
    have Hr := hid (Pl.numGet_long (s := s) (by omega))
    go_enter Tryz.func102, Tryz.ntmps102
    go_wp2
    go_ret2
    exact ⟨by rw [Hr.out]; rfl, Below.refl _ _⟩
end Pm
end Go.Proofs.YtdjkdcokjoiokaaGreatDoor

/- The reference's tests on pointers. -/
import Derived.Test.YtdjkdcokjoiokaaGreatDoorSpD
namespace Go.Proofs.YtdjkdcokjoiokaaGreatDoor
open Go.RowKit
namespace Pm
open Pl (dec dch inR Ptr hole ptrHole ptrOk)
/-- A pointer, as the program holds it. -/
def vptr (p : Ptr) : Value := .agg #[.int .i64 p.pat, .int .i64 p.birth, .int .i64 p.size, .int .i64 p.sum, .int .i64 p.level]

/-- A variable that the call boxed reads so still. -/
theorem box_cell {w w1 : World} {cs : Array Value} {t : TypeId} (hb : Below (w.alloc (.cells cs t)).heap.size (w.alloc (.cells cs t)) w1) (i : Nat) (v : Value) (h : cs[i]? = some v) : w1.cell? ⟨w.heap.size, i, none⟩ = some v := by
  rw [hb.cell (p := ⟨w.heap.size, i, none⟩) (by simp)]
  simpa using h

set_option maxRecDepth 100000 in
set_option maxHeartbeats 400000 in
theorem spPtrHole (p : Ptr) (w : World) : Calls Tryz.prog 123 #[vptr p] w fun e w' => e = .returned (.bool (ptrHole p)) ∧ Below w.heap.size w w' := by
  obtain ⟨pat, birth, size, sum, level⟩ := p
  unfold vptr
  dsimp only
  go_enter Tryz.func123, Tryz.ntmps123
  go_wp2
  all_goals (go_ret; exact ⟨ret_bool (by simp [ptrHole, hole, *]), bnew _ _⟩)

set_option maxRecDepth 100000 in
set_option maxHeartbeats 400000 in
theorem spRow (n : Int) (w : World) : Calls Tryz.prog 270 #[.int .i64 n] w fun e w' => e = .returned (.bool (inR n 8 63)) ∧ w = w' := by
  go_enter Tryz.func270, Tryz.ntmps270
  go_wp2_with (go_at_call 40; refine (l6In n 8 63 w).mono ?_; rintro e w' ⟨rfl, rfl⟩)
  go_ret
  exact ⟨rfl, rfl⟩

set_option maxRecDepth 100000 in
set_option maxHeartbeats 400000 in
theorem spPtrOk (p : Ptr) (w : World) : Calls Tryz.prog 197 #[vptr p] w fun e w' => e = .returned (.bool (ptrOk p)) ∧ Below w.heap.size w w' := by
  have Hp := hid (spPtrHole p)
  obtain ⟨pat, birth, size, sum, level⟩ := p
  unfold vptr at *
  dsimp only at *
  generalize hq : ptrHole ⟨pat, birth, size, sum, level⟩ = q
  have Hq := hid hq
  rw [hq] at Hp
  clear hq
  cases q
  · have Hd : Hid (ptrOk ⟨pat, birth, size, sum, level⟩ = (inR pat 8 63 && inR birth 1 900 && inR size 1 128 && inR sum 0 99460728 && inR level 0 2)) := hid (by unfold ptrOk; rw [Hq.out]; rfl)
    generalize hq0 : inR pat 8 63 = q0 at Hd
    have H1 := hid hq0
    clear hq0
    generalize hq1 : inR birth 1 900 = q1 at Hd
    have H2 := hid hq1
    clear hq1
    generalize hq2 : inR size 1 128 = q2 at Hd
    have H3 := hid hq2
    clear hq2
    generalize hq3 : inR sum 0 99460728 = q3 at Hd
    have H4 := hid hq3
    clear hq3
    generalize hq4 : inR level 0 2 = q4 at Hd
    have H5 := hid hq4
    clear hq4
    cases q0
    · have Hr : Hid (ptrOk ⟨pat, birth, size, sum, level⟩ = false) := hid (by rw [Hd.out]; simp)
      go_enter Tryz.func197, Tryz.ntmps197
      go_wp2_with (first | (go_at_call 123; refine (Hp.out _).mono ?_; rintro e w1 ⟨rfl, hb1⟩; have c0 := box_cell hb1 0 _ rfl; have c1 := box_cell hb1 1 _ rfl; have c2 := box_cell hb1 2 _ rfl; have c3 := box_cell hb1 3 _ rfl; have c4 := box_cell hb1 4 _ rfl; have Hb1 := hid hb1; clear hb1) | (go_at_call 270; refine (spRow pat _).mono ?_; rintro e w' ⟨rfl, rfl⟩; rw [H1.out]))
      go_ret
      exact ⟨ret_bool Hr.out.symm, btr (bnew _ _) Hb1.out⟩
    · cases q1
      · have Hr : Hid (ptrOk ⟨pat, birth, size, sum, level⟩ = false) := hid (by rw [Hd.out]; simp)
        go_enter Tryz.func197, Tryz.ntmps197
        go_wp2_with (first | (go_at_call 123; refine (Hp.out _).mono ?_; rintro e w1 ⟨rfl, hb1⟩; have c0 := box_cell hb1 0 _ rfl; have c1 := box_cell hb1 1 _ rfl; have c2 := box_cell hb1 2 _ rfl; have c3 := box_cell hb1 3 _ rfl; have c4 := box_cell hb1 4 _ rfl; have Hb1 := hid hb1; clear hb1) | (go_at_call 270; refine (spRow pat _).mono ?_; rintro e w' ⟨rfl, rfl⟩; rw [H1.out]) | (go_at_call 40; refine (l6In _ _ _ _).mono ?_; rintro e w' ⟨rfl, rfl⟩; first | rw [H2.out]))
        go_ret
        exact ⟨ret_bool Hr.out.symm, btr (bnew _ _) Hb1.out⟩
      · cases q2
        · have Hr : Hid (ptrOk ⟨pat, birth, size, sum, level⟩ = false) := hid (by rw [Hd.out]; simp)
          go_enter Tryz.func197, Tryz.ntmps197
          go_wp2_with (first | (go_at_call 123; refine (Hp.out _).mono ?_; rintro e w1 ⟨rfl, hb1⟩; have c0 := box_cell hb1 0 _ rfl; have c1 := box_cell hb1 1 _ rfl; have c2 := box_cell hb1 2 _ rfl; have c3 := box_cell hb1 3 _ rfl; have c4 := box_cell hb1 4 _ rfl; have Hb1 := hid hb1; clear hb1) | (go_at_call 270; refine (spRow pat _).mono ?_; rintro e w' ⟨rfl, rfl⟩; rw [H1.out]) | (go_at_call 40; refine (l6In _ _ _ _).mono ?_; rintro e w' ⟨rfl, rfl⟩; first | rw [H2.out] | rw [H3.out]))
          go_ret
          exact ⟨ret_bool Hr.out.symm, btr (bnew _ _) Hb1.out⟩
        · cases q3
          · have Hr : Hid (ptrOk ⟨pat, birth, size, sum, level⟩ = false) := hid (by rw [Hd.out]; simp)
            go_enter Tryz.func197, Tryz.ntmps197
            go_wp2_with (first | (go_at_call 123; refine (Hp.out _).mono ?_; rintro e w1 ⟨rfl, hb1⟩; have c0 := box_cell hb1 0 _ rfl; have c1 := box_cell hb1 1 _ rfl; have c2 := box_cell hb1 2 _ rfl; have c3 := box_cell hb1 3 _ rfl; have c4 := box_cell hb1 4 _ rfl; have Hb1 := hid hb1; clear hb1) | (go_at_call 270; refine (spRow pat _).mono ?_; rintro e w' ⟨rfl, rfl⟩; rw [H1.out]) | (go_at_call 40; refine (l6In _ _ _ _).mono ?_; rintro e w' ⟨rfl, rfl⟩; first | rw [H2.out] | rw [H3.out] | rw [H4.out]))
            go_ret
            exact ⟨ret_bool Hr.out.symm, btr (bnew _ _) Hb1.out⟩
          · cases q4
            · have Hr : Hid (ptrOk ⟨pat, birth, size, sum, level⟩ = false) := hid (by rw [Hd.out]; simp)
              go_enter Tryz.func197, Tryz.ntmps197
              go_wp2_with (first | (go_at_call 123; refine (Hp.out _).mono ?_; rintro e w1 ⟨rfl, hb1⟩; have c0 := box_cell hb1 0 _ rfl; have c1 := box_cell hb1 1 _ rfl; have c2 := box_cell hb1 2 _ rfl; have c3 := box_cell hb1 3 _ rfl; have c4 := box_cell hb1 4 _ rfl; have Hb1 := hid hb1; clear hb1) | (go_at_call 270; refine (spRow pat _).mono ?_; rintro e w' ⟨rfl, rfl⟩; rw [H1.out]) | (go_at_call 40; refine (l6In _ _ _ _).mono ?_; rintro e w' ⟨rfl, rfl⟩; first | rw [H2.out] | rw [H3.out] | rw [H4.out] | rw [H5.out]))
              go_ret
              exact ⟨ret_bool Hr.out.symm, btr (bnew _ _) Hb1.out⟩
            · have Hr : Hid (ptrOk ⟨pat, birth, size, sum, level⟩ = true) := hid (by rw [Hd.out]; simp)
              go_enter Tryz.func197, Tryz.ntmps197
              go_wp2_with (first | (go_at_call 123; refine (Hp.out _).mono ?_; rintro e w1 ⟨rfl, hb1⟩; have c0 := box_cell hb1 0 _ rfl; have c1 := box_cell hb1 1 _ rfl; have c2 := box_cell hb1 2 _ rfl; have c3 := box_cell hb1 3 _ rfl; have c4 := box_cell hb1 4 _ rfl; have Hb1 := hid hb1; clear hb1) | (go_at_call 270; refine (spRow pat _).mono ?_; rintro e w' ⟨rfl, rfl⟩; rw [H1.out]) | (go_at_call 40; refine (l6In _ _ _ _).mono ?_; rintro e w' ⟨rfl, rfl⟩; first | rw [H2.out] | rw [H3.out] | rw [H4.out] | rw [H5.out]))
              go_ret
              exact ⟨ret_bool Hr.out.symm, btr (bnew _ _) Hb1.out⟩
  · go_enter Tryz.func197, Tryz.ntmps197
    go_wp2_with (go_at_call 123; refine (Hp.out _).mono ?_; rintro e w1 ⟨rfl, hb1⟩)
    go_ret
    exact ⟨ret_bool (by unfold ptrOk; rw [Hq.out]; rfl), btr (bnew _ _) hb1⟩
end Pm
end Go.Proofs.YtdjkdcokjoiokaaGreatDoor

/- The reference's reading of a pointer. -/
namespace Go.Proofs.YtdjkdcokjoiokaaGreatDoor
open Go.RowKit
namespace Pl
theorem cutB_step {b : UInt8} {s : Str} {f i : Nat} (hf : f ≤ i) (hi : i < s.length) (hn : b ∉ (s.drop f).take (i - f)) (hb : s[i] = b) :
    cutB b (s.drop f) = (s.drop f).take (i - f) :: cutB b (s.drop (i + 1)) := by
  have h1 : s.drop f = (s.drop f).take (i - f) ++ b :: s.drop (i + 1) := by
    conv => lhs; rw [← List.take_append_drop (i - f) (s.drop f)]
    rw [List.drop_drop, show f + (i - f) = i by omega, List.drop_eq_getElem_cons hi, hb]
  rw [h1, cutB_hit _ _ _ hn, ← h1]
theorem not_mem_step {b : UInt8} {s : Str} {f i : Nat} (hf : f ≤ i) (hi : i < s.length) (hn : b ∉ (s.drop f).take (i - f)) (hb : s[i] ≠ b) : b ∉ (s.drop f).take (i + 1 - f) := by
  have hlt : i - f < (s.drop f).length := by rw [List.length_drop]; omega
  rw [show i + 1 - f = (i - f) + 1 by omega, List.take_succ_eq_append_getElem hlt, List.mem_append, List.mem_singleton]
  rintro (h | h)
  · exact hn h
  · apply hb; rw [h, List.getElem_drop]; congr 1; omega
end Pl
namespace Pm
open Pl (dec dch inR Ptr hole ptrHole ptrOk)

set_option maxRecDepth 100000 in
set_option maxHeartbeats 1000000 in
theorem spCut (s : Str) (b : UInt8) (w : World) (hs : s.length ≤ 1000000000000) :
    Calls Tryz.prog 250 #[.string ⟨s.toArray⟩, .int .u8 b.toNat] w fun e w' => ∃ A c, e = .returned (.slice A (Pl.cutB b s).length c) ∧ At w' w'.heap.size A (Pl.cutB b s) ∧ Below w.heap.size w w' := by
  have hb256 := UInt8.toNat_lt b
  go_enter Tryz.func250, Tryz.ntmps250
  go_wp2
  go_loopw [5, 6, 7] (fun ov fv iv wr => ∃ (k f : Nat) (out : List Str), k ≤ s.length ∧ f ≤ k ∧ iv = .int .i64 k ∧ fv = .int .i64 f ∧ wr.ownsRow w.heap.size 9 1 ov out.length (out.map vstr) ∧ Hid (Pl.cutB b s = out ++ Pl.cutB b (s.drop f)) ∧ Hid (b ∉ (s.drop f).take (k - f)) ∧ Hid (∀ x ∈ out, x.length ≤ s.length) ∧ out.length ≤ f ∧ Below w.heap.size w wr) (fun _ _ iv _ => s.length - (intOf iv).toNat)
  case atStart => exact ⟨0, 0, [], by omega, by omega, rfl, rfl, owns_new (Nat.le_refl _), hid rfl, hid (by simp), hid (by simp), by simp, bnew _ _⟩
  case round =>
    obtain ⟨k, f, out, hk, hf, rfl, rfl, hown, Ho, Hn, Hx, hlen, hbel⟩ := hrel
    have Hown := hid hown
    clear hown
    by_cases hlt : k < s.length
    · have hltI : (k : Int) < s.length := by omega
      obtain ⟨c, hc, hc256, hck⟩ := byte_at s k hlt
      have Hc := hid hc
      clear hc
      by_cases hbc : c = b
      · have hA : ((c.toNat : Int) == (b.toNat : Int)) = true := by rw [hbc, beq_iff_eq]
        have Hs := hid (Pl.cutB_step hf hlt Hn.out (by rw [← Hc.out, hbc]))
        have hr1 : 0 ≤ (f : Int) ∧ (f : Int) ≤ k ∧ (k : Int) ≤ s.length := by omega
        have Hx3 := hid (ba_extract s f k)
        rw [List.drop_take] at Hx3
        have Hbc := hid hbc
        clear hbc
        go_wp2_with (at_builtin; refine wpList_app_str rfl _ _ rfl w.heap.size _ out rfl (Hown.out.alloc _) _ _ ((s.drop f).take (k - f)) rfl ?hc (by omega) (Nat.le_trans hbel.size (by simp)) fun v' w' h1 h2 h3 => ?_; case hc => rw [← Hx3.out]; simp)
        go_roundw
        case rel =>
          refine ⟨k + 1, k + 1, _, by omega, by omega, by go_num, by go_num, h1, hid (by rw [Ho.out, Hs.out]; simp), hid (by simp), hid ?_, by simp; omega, (bal hbel _).trans h2⟩
          intro x hx
          rw [List.mem_append, List.mem_singleton] at hx
          rcases hx with hx | rfl
          · exact Hx.out x hx
          · rw [List.length_take, List.length_drop]; omega
        case measure => simp only [intOf]; omega
      · have hA : ((c.toNat : Int) == (b.toNat : Int)) = false := by
          rw [beq_eq_false_iff_ne]; intro e; apply hbc; apply UInt8.toNat_inj.1; exact Int.ofNat.inj e
        have Hbc := hid hbc
        clear hbc
        go_wp2_with fail
        go_roundw
        case rel =>
          exact ⟨k + 1, f, out, by omega, by omega, by go_num, rfl, Hown.out, Ho, hid (Pl.not_mem_step hf hlt Hn.out (by rw [← Hc.out]; exact Hbc.out)), Hx, hlen, hbel⟩
        case measure => simp only [intOf]; omega
    · have hks : k = s.length := by omega
      subst hks
      have Hx3 := hid (ba_extract s f s.length)
      rw [List.take_length] at Hx3
      have Hr : Hid (Pl.cutB b s = out ++ [s.drop f]) := hid (by
        rw [Ho.out, Pl.cutB_one]
        have h := Hn.out
        rwa [List.take_of_length_le (by simp)] at h)
      have hr1 : 0 ≤ (f : Int) ∧ (f : Int) ≤ s.length := by omega
      go_wp2_with (at_builtin; refine wpList_app_str rfl _ _ rfl w.heap.size _ out rfl (Hown.out.alloc _) _ _ (s.drop f) rfl ?hc (by omega) (Nat.le_trans hbel.size (by simp)) fun v' w' h1 h2 h3 => ?_; case hc => rw [← Hx3.out]; simp)
      rw [← Hr.out] at h1
      obtain ⟨A, c, rfl, hat⟩ := owns_at h1 (by
        rw [Hr.out]
        intro x hx
        rw [List.mem_append, List.mem_singleton] at hx
        unfold big
        rcases hx with hx | rfl
        · have := Hx.out x hx; omega
        · rw [List.length_drop]; omega) (by rw [Hr.out]; unfold big; simp; omega)
      go_ret
      exact ⟨A, c, rfl, hat, (bal hbel _).trans h2⟩
end Pm
end Go.Proofs.YtdjkdcokjoiokaaGreatDoor

/- The reference's reading of a pointer, whole. -/
import Derived.Test.YtdjkdcokjoiokaaGreatDoorSpF
import Derived.Deep.RegionHeld3
namespace Go.Proofs.YtdjkdcokjoiokaaGreatDoor
open Go.RowKit
namespace Pm
open Pl (dec dch inR Ptr hole ptrHole ptrOk)

theorem cellAl {w : World} {g i : Nat} {v : Value} {o : Obj} (hg : g < w.heap.size) (h : w.cell? ⟨g, i, none⟩ = some v) : (w.alloc o).cell? ⟨g, i, none⟩ = some v := ((bnew w o).cell (p := ⟨g, i, none⟩) hg).trans h
theorem sizeAl {w : World} {g : Nat} {o : Obj} (hg : g < w.heap.size) : g < (w.alloc o).heap.size := Nat.lt_of_lt_of_le hg (bnew w o).size
theorem belAl {w w' : World} {o : Obj} (h : Hid (Below w.heap.size w w')) : Hid (Below w.heap.size w (w'.alloc o)) := hid (bal h.out o)
theorem cutB_le' (b : UInt8) : ∀ (s : Str), ∀ x ∈ Pl.cutB b s, x.length ≤ s.length
  | [], x, h => by simp [Pl.cutB] at h; simp [h]
  | c :: r, x, h => by
    have ih := cutB_le' b r
    unfold Pl.cutB at h
    split at h
    · rcases List.mem_cons.1 h with rfl | h
      · simp
      · have := ih x h; simp; omega
    · split at h
      · rename_i hd t heq
        rw [heq] at ih
        rcases List.mem_cons.1 h with rfl | h
        · have := ih hd List.mem_cons_self; simp; omega
        · have := ih x (List.mem_cons_of_mem _ h); simp; omega
      · simp at h; subst h; simp
theorem cutB_le {b : UInt8} {s : Str} {n : Nat} (h : s.length ≤ n) : ∀ x ∈ Pl.cutB b s, x.length ≤ n := fun x hx => Nat.le_trans (cutB_le' b s x hx) h

/-- What reading a pointer leaves. -/
def PtrPost (s : Str) (w : World) (e : Ending) (w' : World) : Prop :=
  ((∃ p, Pl.IsPtr s p ∧ e = .returned (.tuple #[vptr p, .bool true])) ∨ ((∀ p, ¬ Pl.IsPtr s p) ∧ e = .returned (.tuple #[vptr hole, .bool false]))) ∧ Below w.heap.size w w'

set_option maxRecDepth 100000 in
set_option maxHeartbeats 1000000 in
theorem spPtrGet (s : Str) (w : World) (hs : s.length ≤ 1000000000000) :
    Calls Tryz.prog 189 #[.string ⟨s.toArray⟩] w (PtrPost s w) := by
  by_cases h45 : s = [45]
  · subst h45
    go_enter Tryz.func189, Tryz.ntmps189
    go_wp2
    refine bodyPost_ret (v := .tuple #[vptr hole, .bool true]) (by simp [results, Tryz.results189, go_sem, vptr, hole]) rfl ?_
    exact ⟨Or.inl ⟨_, Pl.isPtr_hole, rfl⟩, bnew _ _⟩
  · have h45' : ¬ [45] = s := fun e => h45 e.symm
    have hse : (s == [45]) = false := by rw [beq_eq_false_iff_ne]; exact h45
    have Hcut := hid (fun wx => spCut s 46 wx hs)
    have hcl := hid (cutB_le (b := 46) (s := s) (n := big) (by unfold big; omega))
    have Hnl := hid (Pl.ptr_len h45)
    have Hnn := hid (fun k => Pl.ptr_num (k := k) h45)
    have Hnb := hid (fun a b c d e => Pl.ptr_bad (a := a) (b := b) (c := c) (d := d) (e := e) h45)
    have Hng := hid (fun a b c d e => Pl.ptr_good (s := s) (a := a) (b := b) (c := c) (d := d) (e := e))
    generalize hl : Pl.cutB 46 s = l at Hcut hcl Hnl Hnn Hnb Hng
    clear hl h45 h45'
    have hA : ((l.length : Int) != 5) = !(decide (l.length = 5)) := by
      by_cases h : l.length = 5
      · rw [h]; rfl
      · rw [decide_eq_false h, bne_iff_ne.2 (by omega)]; rfl
    go_enter Tryz.func189, Tryz.ntmps189
    by_cases h5 : l.length = 5
    · rw [decide_eq_true h5] at hA
      go_wp2_with (go_at_call 250; refine (Hcut.out _).mono ?_; rintro e w1 ⟨A, c, rfl, hat, hb1⟩; have R := hid ((Row.new w #[.int .i64 0, .int .i64 0, .int .i64 0, .int .i64 0, .int .i64 0] 54).below hb1); have Hat := hid hat; have Hb1 := hid (btr (bnew w _) hb1); clear hat hb1)
      go_loopw [5, 6] (fun nv iv wr => ∃ (k : Nat) (nums : List Nat), k ≤ 5 ∧ iv = .int .i64 k ∧ wr.ownsRow w1.heap.size 3 1 nv nums.length (nums.map vnat) ∧ nums.length = k ∧ Hid (l.take k = nums.map dec) ∧ Below w1.heap.size w1 wr) (fun _ iv _ => 5 - (intOf iv).toNat)
      case atStart => exact ⟨0, [], by omega, rfl, owns_newI (Nat.le_refl _), rfl, hid rfl, bnew _ _⟩
      case round =>
        obtain ⟨k, nums, hk, rfl, hown, hlen, Ho, hbel⟩ := hrel
        have Hown := hid hown
        clear hown
        by_cases hlt : k < 5
        · have hltI : (k : Int) < 5 := by omega
          obtain ⟨b, off, cs, rfl, hb, hc, hv⟩ := (Hat.out.up hbel).elem (show k < l.length by omega)
          obtain ⟨x, Hx⟩ : ∃ x, Hid (x = l[k]) := ⟨l[k], hid rfl⟩
          rw [← Hx.out] at hc
          obtain ⟨rfl, hs⟩ := str_cells hc
          have e0 := hv 0 _ rfl
          simp only [Rep.size, Nat.add_zero, Nat.mul_one, vstr] at e0
          clear hv hc hb
          have Hg := hid (spNumGet x wr hs)
          generalize hq : Pl.numGet x = q at Hg
          have hki : (0 : Int) ≤ k ∧ (k : Int) < (5 : Nat) := by omega
          cases q with
          | none =>
            have Hf := hid (Hnn.out k (show k < l.length by omega) (by rw [← Hx.out]; exact hq))
            have Hwr := hid hbel
            have R1 := hid (R.out.below hbel)
            have f0 := R1.out.get 0 rfl; have f1 := R1.out.get 1 rfl; have f2 := R1.out.get 2 rfl; have f3 := R1.out.get 3 rfl; have f4 := R1.out.get 4 rfl
            have g0 := R1.out.free 0; have g1 := R1.out.free 1; have g2 := R1.out.free 2; have g3 := R1.out.free 3; have g4 := R1.out.free 4
            clear hq hbel
            go_wp2_with (go_at_call 188; refine Hg.out.mono ?_; rintro e w2 ⟨rfl, rfl⟩; unfold optNat)
            refine bodyPost_ret (v := .tuple #[vptr hole, .bool false]) (by simp [results, Tryz.results189, go_sem, vptr, hole, f0, f1, f2, f3, f4]) rfl ?_
            exact ⟨Or.inr ⟨Hf.out, rfl⟩, bset (bset (bset (bset (bset (btr Hb1.out Hwr.out) (Nat.le_refl _) _ _) (Nat.le_refl _) _ _) (Nat.le_refl _) _ _) (Nat.le_refl _) _ _) (Nat.le_refl _) _ _⟩
          | some n =>
            have Hwr := hid hbel
            have Hs : Hid (l.take (k + 1) = (nums ++ [n]).map dec) := hid (by
              rw [List.take_succ_eq_append_getElem (show k < l.length by omega), Ho.out, ← Hx.out, (Pl.numGet_some hq).1, List.map_append]; rfl)
            clear hbel hq
            go_wp2_with (first | (go_at_call 188; refine Hg.out.mono ?_; rintro e w2 ⟨rfl, rfl⟩; unfold optNat) | (at_builtin; refine wpList_app_int rfl _ _ rfl w1.heap.size _ nums rfl (Hown.out.alloc _) _ _ n rfl ?hc (by omega) (Nat.le_trans Hwr.out.size (by simp)) fun v' w' h1 h2 h3 => ?_; case hc => simp))
            go_roundw
            case rel => exact ⟨k + 1, _, by omega, by go_num, h1, by simp; omega, Hs, (bal Hwr.out _).trans h2⟩
            case measure => simp only [intOf]; omega
        · have hk5 : k = 5 := by omega
          subst hk5
          rw [List.take_of_length_le (by omega)] at Ho
          match nums, hlen with
          | [n1, n2, n3, n4, n5], _ =>
            obtain ⟨g, c', rfl, hbg, hglt, hgc⟩ := owns_cells (l := [n1, n2, n3, n4, n5].map vnat) Hown.out (by simp)
            have c0 := hgc 0 _ rfl; have c1 := hgc 1 _ rfl; have c2 := hgc 2 _ rfl; have c3 := hgc 3 _ rfl; have c4 := hgc 4 _ rfl
            simp only [vnat] at c0 c1 c2 c3 c4
            go_wp2_with fail
            have Hwr := hid hbel
            go_region_held3 (fun w' => w'.cell? ⟨g, 0, none⟩ = some (.int .i64 n1) ∧ w'.cell? ⟨g, 1, none⟩ = some (.int .i64 n2) ∧ w'.cell? ⟨g, 2, none⟩ = some (.int .i64 n3) ∧ w'.cell? ⟨g, 3, none⟩ = some (.int .i64 n4) ∧ w'.cell? ⟨g, 4, none⟩ = some (.int .i64 n5) ∧ g < w'.heap.size ∧ Hid (Below wr.heap.size wr w')) (first | exact ⟨c0, c1, c2, c3, c4, hglt, hid (bdr (Below.refl _ _))⟩ | (refine ⟨?_, ?_, ?_, ?_, ?_, ?_, ?_⟩ <;> first | exact cellAl (by assumption) (by assumption) | exact sizeAl (by assumption) | exact belAl (by assumption) | exact hid (bdr (bnew _ _)))) (fail)
            have Rp := hid ((Row.new wr #[.int .i64 (n1 : Int), .int .i64 (n2 : Int), .int .i64 (n3 : Int), .int .i64 (n4 : Int), .int .i64 (n5 : Int)] 54).drew)
            have Hb2 : Hid (Below w1.heap.size w1 ((wr.alloc (.cells #[.int .i64 (n1 : Int), .int .i64 (n2 : Int), .int .i64 (n3 : Int), .int .i64 (n4 : Int), .int .i64 (n5 : Int)] 54)).drew)) := hid (bdr (bal Hwr.out _))
            have hz : wr.heap.size < (wr.alloc (.cells #[.int .i64 (n1 : Int), .int .i64 (n2 : Int), .int .i64 (n3 : Int), .int .i64 (n4 : Int), .int .i64 (n5 : Int)] 54)).drew.heap.size := by simp
            have Hz := hid hz
            clear c0 c1 c2 c3 c4 hgc hz
            generalize hW : (wr.alloc (.cells #[.int .i64 (n1 : Int), .int .i64 (n2 : Int), .int .i64 (n3 : Int), .int .i64 (n4 : Int), .int .i64 (n5 : Int)] 54)).drew = W2 at *
            clear hW
            have Hok := hid (spPtrOk ⟨n1, n2, n3, n4, n5⟩)
            have Hho := hid (spPtrHole ⟨n1, n2, n3, n4, n5⟩)
            have Hd := hid (show l = [dec n1, dec n2, dec n3, dec n4, dec n5] from Ho.out)
            unfold vptr at Hok Hho
            dsimp only at Hok Hho
            have c0 := Rp.out.get 0 rfl; have c1 := Rp.out.get 1 rfl; have c2 := Rp.out.get 2 rfl; have c3 := Rp.out.get 3 rfl; have c4 := Rp.out.get 4 rfl
            generalize hq1 : ptrOk ⟨n1, n2, n3, n4, n5⟩ = q1 at Hok
            cases q1
            · have Hf := hid (Hnb.out _ _ _ _ _ Hd.out (Or.inl hq1))
              clear hq1
              go_wp2_with (go_at_call 197; refine (Hok.out _).mono ?_; rintro e w2 ⟨rfl, hb2⟩; have R1 := hid (R.out.below (btr Hb2.out hb2)); have f0 := R1.out.get 0 rfl; have f1 := R1.out.get 1 rfl; have f2 := R1.out.get 2 rfl; have f3 := R1.out.get 3 rfl; have f4 := R1.out.get 4 rfl; have g0 := R1.out.free 0; have g1 := R1.out.free 1; have g2 := R1.out.free 2; have g3 := R1.out.free 3; have g4 := R1.out.free 4)
              refine bodyPost_ret (v := .tuple #[vptr hole, .bool false]) (by simp [results, Tryz.results189, go_sem, vptr, hole, f0, f1, f2, f3, f4]) rfl ?_
              exact ⟨Or.inr ⟨Hf.out, rfl⟩, bset (bset (bset (bset (bset (btr Hb1.out (btr Hb2.out hb2)) (Nat.le_refl _) _ _) (Nat.le_refl _) _ _) (Nat.le_refl _) _ _) (Nat.le_refl _) _ _) (Nat.le_refl _) _ _⟩
            · generalize hq2 : ptrHole ⟨n1, n2, n3, n4, n5⟩ = q2 at Hho
              cases q2
              · have Hf := hid (Hng.out _ _ _ _ _ Hd.out hq1 hq2)
                clear hq1 hq2
                go_wp2_with (first | (go_at_call 197; refine (Hok.out _).mono ?_; rintro e w2 ⟨rfl, hb2⟩; have P1 := hid (Rp.out.below hb2); have d0 := P1.out.get 0 rfl; have d1 := P1.out.get 1 rfl; have d2 := P1.out.get 2 rfl; have d3 := P1.out.get 3 rfl; have d4 := P1.out.get 4 rfl; have Hb3 := hid hb2; clear hb2) | (go_at_call 123; refine (Hho.out _).mono ?_; rintro e w3 ⟨rfl, hb4⟩; have R1 := hid (R.out.below (btr (btr Hb2.out Hb3.out) hb4)); have f0 := R1.out.get 0 rfl; have f1 := R1.out.get 1 rfl; have f2 := R1.out.get 2 rfl; have f3 := R1.out.get 3 rfl; have f4 := R1.out.get 4 rfl; have g0 := R1.out.free 0; have g1 := R1.out.free 1; have g2 := R1.out.free 2; have g3 := R1.out.free 3; have g4 := R1.out.free 4; have P2 := hid (P1.out.below hb4); have k0 := P2.out.get 0 rfl; have k1 := P2.out.get 1 rfl; have k2 := P2.out.get 2 rfl; have k3 := P2.out.get 3 rfl; have k4 := P2.out.get 4 rfl))
                refine bodyPost_ret (v := .tuple #[vptr ⟨n1, n2, n3, n4, n5⟩, .bool true]) (by simp [results, Tryz.results189, go_sem, vptr, hole, f0, f1, f2, f3, f4]) rfl ?_
                exact ⟨Or.inl ⟨_, Hf.out, rfl⟩, bset (bset (bset (bset (bset (btr Hb1.out (btr (btr Hb2.out Hb3.out) hb4)) (Nat.le_refl _) _ _) (Nat.le_refl _) _ _) (Nat.le_refl _) _ _) (Nat.le_refl _) _ _) (Nat.le_refl _) _ _⟩
              · have Hf := hid (Hnb.out _ _ _ _ _ Hd.out (Or.inr hq2))
                clear hq1 hq2
                go_wp2_with (first | (go_at_call 197; refine (Hok.out _).mono ?_; rintro e w2 ⟨rfl, hb2⟩; have P1 := hid (Rp.out.below hb2); have d0 := P1.out.get 0 rfl; have d1 := P1.out.get 1 rfl; have d2 := P1.out.get 2 rfl; have d3 := P1.out.get 3 rfl; have d4 := P1.out.get 4 rfl; have Hb3 := hid hb2; clear hb2) | (go_at_call 123; refine (Hho.out _).mono ?_; rintro e w3 ⟨rfl, hb4⟩; have R1 := hid (R.out.below (btr (btr Hb2.out Hb3.out) hb4)); have f0 := R1.out.get 0 rfl; have f1 := R1.out.get 1 rfl; have f2 := R1.out.get 2 rfl; have f3 := R1.out.get 3 rfl; have f4 := R1.out.get 4 rfl; have g0 := R1.out.free 0; have g1 := R1.out.free 1; have g2 := R1.out.free 2; have g3 := R1.out.free 3; have g4 := R1.out.free 4))
                refine bodyPost_ret (v := .tuple #[vptr hole, .bool false]) (by simp [results, Tryz.results189, go_sem, vptr, hole, f0, f1, f2, f3, f4]) rfl ?_
                exact ⟨Or.inr ⟨Hf.out, rfl⟩, bset (bset (bset (bset (bset (btr Hb1.out (btr (btr Hb2.out Hb3.out) hb4)) (Nat.le_refl _) _ _) (Nat.le_refl _) _ _) (Nat.le_refl _) _ _) (Nat.le_refl _) _ _) (Nat.le_refl _) _ _⟩
    · rw [decide_eq_false h5] at hA
      go_wp2_with (go_at_call 250; refine (Hcut.out _).mono ?_; rintro e w1 ⟨A, c, rfl, hat, hb1⟩; have R := hid ((Row.new w #[.int .i64 0, .int .i64 0, .int .i64 0, .int .i64 0, .int .i64 0] 54).below hb1); have f0 := R.out.get 0 rfl; have f1 := R.out.get 1 rfl; have f2 := R.out.get 2 rfl; have f3 := R.out.get 3 rfl; have f4 := R.out.get 4 rfl; have g0 := R.out.free 0; have g1 := R.out.free 1; have g2 := R.out.free 2; have g3 := R.out.free 3; have g4 := R.out.free 4)
      refine bodyPost_ret (v := .tuple #[vptr hole, .bool false]) (by simp [results, Tryz.results189, go_sem, vptr, hole, f0, f1, f2, f3, f4]) rfl ?_
      exact ⟨Or.inr ⟨Hnl.out h5, rfl⟩, bset (bset (bset (bset (bset (btr (bnew _ _) hb1) (Nat.le_refl _) _ _) (Nat.le_refl _) _ _) (Nat.le_refl _) _ _) (Nat.le_refl _) _ _) (Nat.le_refl _) _ _⟩
end Pm
end Go.Proofs.YtdjkdcokjoiokaaGreatDoor

/- The reference's tests and texts of roots. -/
namespace Go.Proofs.YtdjkdcokjoiokaaGreatDoor
open Go.RowKit
namespace Pm
open Pl (dec dch inR Ptr Tree Root hole ptrHole ptrOk)
/-- A tree and a root, as the program holds them. -/
def vtree (t : Tree) : Value := .agg #[.int .i64 t.root.pat, .int .i64 t.root.birth, .int .i64 t.root.size, .int .i64 t.root.sum, .int .i64 t.root.level, .int .i64 t.depth, .int .i64 t.many]
def vroot (r : Root) : Value := .agg #[.int .i64 r.txg, .int .i64 r.tree.root.pat, .int .i64 r.tree.root.birth, .int .i64 r.tree.root.size, .int .i64 r.tree.root.sum, .int .i64 r.tree.root.level, .int .i64 r.tree.depth, .int .i64 r.tree.many]

set_option maxRecDepth 100000 in
set_option maxHeartbeats 400000 in
theorem spRootOk (r : Root) (w : World) : Calls Tryz.prog 232 #[vroot r] w fun e w' => e = .returned (.bool (Pl.rootOk r)) ∧ Below w.heap.size w w' := by
  have Hp := hid (spPtrOk r.tree.root)
  have Hd : Hid (Pl.rootOk r = (inR r.txg 1 900 && ptrOk r.tree.root && inR r.tree.depth 0 2 && inR r.tree.many 1 16)) := hid rfl
  generalize hr : r = r' at *
  obtain ⟨txg, ⟨⟨pat, birth, size, sum, level⟩, depth, many⟩⟩ := r'
  unfold vroot vptr at *
  dsimp only at *
  rw [← hr] at *
  clear hr
  generalize hq0 : inR txg 1 900 = q0 at Hd
  have H1 := hid hq0
  clear hq0
  generalize hq1 : ptrOk ⟨pat, birth, size, sum, level⟩ = q1 at Hd Hp
  have H2 := hid hq1
  clear hq1
  generalize hq2 : inR depth 0 2 = q2 at Hd
  have H3 := hid hq2
  clear hq2
  generalize hq3 : inR many 1 16 = q3 at Hd
  have H4 := hid hq3
  clear hq3
  cases q0
  · have Hr : Hid (Pl.rootOk r = false) := hid (by rw [Hd.out]; simp)
    go_enter Tryz.func232, Tryz.ntmps232
    go_wp2_with (first | (go_at_call 40; refine (l6In _ _ _ _).mono ?_; rintro e w' ⟨rfl, rfl⟩; first | rw [H1.out]))
    go_ret
    exact ⟨ret_bool Hr.out.symm, bnew _ _⟩
  · cases q1
    · have Hr : Hid (Pl.rootOk r = false) := hid (by rw [Hd.out]; simp)
      go_enter Tryz.func232, Tryz.ntmps232
      go_wp2_with (first | (go_at_call 40; refine (l6In _ _ _ _).mono ?_; rintro e w' ⟨rfl, rfl⟩; first | rw [H1.out]) | (go_at_call 197; refine (Hp.out _).mono ?_; rintro e w1 ⟨rfl, hb1⟩; have e6 := box_cell hb1 6 _ rfl; have e7 := box_cell hb1 7 _ rfl; have Hb1 := hid hb1; clear hb1))
      go_ret
      exact ⟨ret_bool Hr.out.symm, btr (bnew _ _) Hb1.out⟩
    · cases q2
      · have Hr : Hid (Pl.rootOk r = false) := hid (by rw [Hd.out]; simp)
        go_enter Tryz.func232, Tryz.ntmps232
        go_wp2_with (first | (go_at_call 40; refine (l6In _ _ _ _).mono ?_; rintro e w' ⟨rfl, rfl⟩; first | rw [H1.out] | rw [H3.out]) | (go_at_call 197; refine (Hp.out _).mono ?_; rintro e w1 ⟨rfl, hb1⟩; have e6 := box_cell hb1 6 _ rfl; have e7 := box_cell hb1 7 _ rfl; have Hb1 := hid hb1; clear hb1))
        go_ret
        exact ⟨ret_bool Hr.out.symm, btr (bnew _ _) Hb1.out⟩
      · cases q3
        · have Hr : Hid (Pl.rootOk r = false) := hid (by rw [Hd.out]; simp)
          go_enter Tryz.func232, Tryz.ntmps232
          go_wp2_with (first | (go_at_call 40; refine (l6In _ _ _ _).mono ?_; rintro e w' ⟨rfl, rfl⟩; first | rw [H1.out] | rw [H3.out] | rw [H4.out]) | (go_at_call 197; refine (Hp.out _).mono ?_; rintro e w1 ⟨rfl, hb1⟩; have e6 := box_cell hb1 6 _ rfl; have e7 := box_cell hb1 7 _ rfl; have Hb1 := hid hb1; clear hb1))
          go_ret
          exact ⟨ret_bool Hr.out.symm, btr (bnew _ _) Hb1.out⟩
        · have Hr : Hid (Pl.rootOk r = true) := hid (by rw [Hd.out]; simp)
          go_enter Tryz.func232, Tryz.ntmps232
          go_wp2_with (first | (go_at_call 40; refine (l6In _ _ _ _).mono ?_; rintro e w' ⟨rfl, rfl⟩; first | rw [H1.out] | rw [H3.out] | rw [H4.out]) | (go_at_call 197; refine (Hp.out _).mono ?_; rintro e w1 ⟨rfl, hb1⟩; have e6 := box_cell hb1 6 _ rfl; have e7 := box_cell hb1 7 _ rfl; have Hb1 := hid hb1; clear hb1))
          go_ret
          exact ⟨ret_bool Hr.out.symm, btr (bnew _ _) Hb1.out⟩
end Pm
end Go.Proofs.YtdjkdcokjoiokaaGreatDoor

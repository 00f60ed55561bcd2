/- Part 15 of seek_card: contracts, walks, laws; no condition beyond the statement's. -/
import Derived.Test.YtdjkdcokjoiokaaGreatDoorW13
import Derived.Deep.AppendLies
set_option linter.all false
set_option maxRecDepth 100000
set_option maxHeartbeats 1000000
namespace Go.Proofs.YtdjkdcokjoiokaaGreatDoor
section
open Go.RowKit
namespace Pm
open Pl (dec dch inR Ptr hole ptrHole ptrOk)
theorem cellAl {w : World} {g i : Nat} {v : Value} {o : Obj} (hg : g < w.heap.size) (h : w.cell? ⟨g, i, none⟩ = some v) : (w.alloc o).cell? ⟨g, i, none⟩ = some v := ((bnew w o).cell (p := ⟨g, i, none⟩) hg).trans h
theorem sizeAl {w : World} {g : Nat} {o : Obj} (hg : g < w.heap.size) : g < (w.alloc o).heap.size := Nat.lt_of_lt_of_le hg (bnew w o).size
theorem belAl {w w' : World} {o : Obj} (h : Hid (Below w.heap.size w w')) : Hid (Below w.heap.size w (w'.alloc o)) := hid (bal h.out o)
theorem cutB_le' (b : UInt8) : ∀ (s : Str), ∀ x ∈ Pl.cutB b s, x.length <= s.length
 |[], x, h => by simp [Pl.cutB] at h; simp [h]
 |c :: r, x, h => by
  have ih := cutB_le' b r;unfold Pl.cutB at h;split at h
  ·rcases List.mem_cons.1 h with rfl | h
   ·simp
   ·have := ih x h; simp; omega
  ·split at h
   ·rename_i hd t heq
    rw [heq] at ih;rcases List.mem_cons.1 h with rfl | h
    ·have := ih hd List.mem_cons_self; simp; omega
    ·have := ih x (List.mem_cons_of_mem _ h); simp; omega
   ·simp at h; subst h; simp
theorem QlT {b : UInt8} {s : Str} {n : Nat} (h : s.length <= n) : ∀ x ∈ Pl.cutB b s, x.length <= n := fun x hx => Nat.le_trans (cutB_le' b s x hx) h
def PtrPost (s : Str) (w : World) (e : Ending) (w' : World) : Prop :=
 ((∃ p, Pl.IsPtr s p /\ e = .returned (.tuple #[vptr p, .bool true])) ∨ ((∀ p, ¬ Pl.IsPtr s p) /\ e = .returned (.tuple #[vptr hole, .bool false]))) /\ Below w.heap.size w w'
theorem Qm0 (s : Str) (w : World) (hs : s.length <= 1000000000000) :
 Calls Tryz.prog 189 #[.string ⟨s.toArray⟩] w (PtrPost s w) := by
 by_cases h45 : s = [45]
 ·subst h45
  go_enter Tryz.func189, Tryz.ntmps189
  go_wp2
  refine bodyPost_ret (v := .tuple #[vptr hole, .bool true]) (by simp [results, Tryz.results189, go_sem, vptr, hole]) rfl ?_;exact ⟨Or.inl ⟨_, Pl.QfT, rfl⟩, bnew _ _⟩
 ·have h45' : ¬ [45] = s := fun e => h45 e.symm
  have hse : (s == [45]) = false := by rw [beq_eq_false_iff_ne]; exact h45
  have Hcut := hid (fun wx => spCut s 46 wx hs);have hcl := hid (QlT (b := 46) (s := s) (n := big) (by unfold big; omega));have Hnl := hid (Pl.QkW h45);have Hnn := hid (fun k => Pl.QkV (k := k) h45);have Hnb := hid (fun a b c d e => Pl.ptr_bad (a := a) (b := b) (c := c) (d := d) (e := e) h45);have Hng := hid (fun a b c d e => Pl.QmB (s := s) (a := a) (b := b) (c := c) (d := d) (e := e));generalize hl : Pl.cutB 46 s = l at Hcut hcl Hnl Hnn Hnb Hng;clear hl h45 h45'
  have hA : ((l.length : Int) != 5) = !(decide (l.length = 5)) := by
   by_cases h : l.length = 5
   ·rw [h]; rfl
   ·rw [decide_eq_false h, bne_iff_ne.2 (by omega)]; rfl
  go_enter Tryz.func189, Tryz.ntmps189
  by_cases h5 : l.length = 5
  ·rw [decide_eq_true h5] at hA
   go_wp2_with (go_at_call 250; refine (Hcut.out _).mono ?_; rintro e w1 ⟨A, c, rfl, hat, hb1⟩; have R := hid ((Row.new w #[.int .i64 0, .int .i64 0, .int .i64 0, .int .i64 0, .int .i64 0] 54).below hb1); have Hat := hid hat; have Hb1 := hid (btr (bnew w _) hb1); clear hat hb1)
   go_loopw [5, 6] (fun nv iv wr => ∃ (k : Nat) (nums : List Nat), k <= 5 /\ iv = .int .i64 k /\ wr.ownsRow w1.heap.size 3 1 nv nums.length (nums.map vnat) /\ nums.length = k /\ Hid (l.take k = nums.map dec) /\ Below w1.heap.size w1 wr) (fun _ iv _ => 5 - (intOf iv).toNat)
   case atStart => exact ⟨0, [], by omega, rfl, Qla (Nat.le_refl _), rfl, hid rfl, bnew _ _⟩
   case round =>
    obtain ⟨k, nums, hk, rfl, hown, hlen, Ho, hbel⟩ := hrel;have Hown := hid hown;clear hown
    by_cases hlt : k < 5
    ·have hltI : (k : Int) < 5 := by omega
     obtain ⟨b, off, cs, rfl, hb, hc, hv⟩ := (Hat.out.up hbel).elem (show k < l.length by omega);obtain ⟨x, Hx⟩ : ∃ x, Hid (x = l[k]) := ⟨l[k], hid rfl⟩;rw [<- Hx.out] at hc;obtain ⟨rfl, hs⟩ := QcA hc;have e0 := hv 0 _ rfl;simp only [Rep.size, Nat.add_zero, Nat.mul_one, vstr] at e0;clear hv hc hb;have Hg := hid (QiM x wr hs);generalize hq : Pl.numGet x = q at Hg;have hki : (0 : Int) <= k /\ (k : Int) < (5 : Nat) := by omega
     cases q with
     |none =>
      have Hf := hid (Hnn.out k (show k < l.length by omega) (by rw [<- Hx.out]; exact hq));have Hwr := hid hbel;have R1 := hid (R.out.below hbel);have f0 := R1.out.get 0 rfl; have f1 := R1.out.get 1 rfl; have f2 := R1.out.get 2 rfl; have f3 := R1.out.get 3 rfl; have f4 := R1.out.get 4 rfl;have g0 := R1.out.free 0; have g1 := R1.out.free 1; have g2 := R1.out.free 2; have g3 := R1.out.free 3; have g4 := R1.out.free 4;clear hq hbel
      go_wp2_with (go_at_call 188; refine Hg.out.mono ?_; rintro e w2 ⟨rfl, rfl⟩; unfold optNat)
      refine bodyPost_ret (v := .tuple #[vptr hole, .bool false]) (by simp [results, Tryz.results189, go_sem, vptr, hole, f0, f1, f2, f3, f4]) rfl ?_;exact ⟨Or.inr ⟨Hf.out, rfl⟩, bset (bset (bset (bset (bset (btr Hb1.out Hwr.out) (Nat.le_refl _) _ _) (Nat.le_refl _) _ _) (Nat.le_refl _) _ _) (Nat.le_refl _) _ _) (Nat.le_refl _) _ _⟩
     |some n =>
      have Hwr := hid hbel
      have Hs : Hid (l.take (k + 1) = (nums ++ [n]).map dec) := hid (by
       rw [List.take_succ_eq_append_getElem (show k < l.length by omega), Ho.out, <- Hx.out, (Pl.QbP hq).1, List.map_append]; rfl)
      clear hbel hq
      go_wp2_with (first | (go_at_call 188; refine Hg.out.mono ?_; rintro e w2 ⟨rfl, rfl⟩; unfold optNat) | (at_builtin; refine Qf9 rfl _ _ rfl w1.heap.size _ nums rfl (Hown.out.alloc _) _ _ n rfl ?hc (by omega) (Nat.le_trans Hwr.out.size (by simp)) fun v' w' h1 h2 h3 => ?_; case hc => simp))
      go_roundw
      case rel => exact ⟨k + 1, _, by omega, by go_num, h1, by simp; omega, Hs, (bal Hwr.out _).trans h2⟩
      case measure => simp only [intOf]; omega
    ·have hk5 : k = 5 := by omega
     subst hk5;rw [List.take_of_length_le (by omega)] at Ho
     match nums, hlen with
     |[n1, n2, n3, n4, n5], _ =>
      obtain ⟨g, c', rfl, hbg, hglt, hgc⟩ := QfL (l := [n1, n2, n3, n4, n5].map vnat) Hown.out (by simp);have c0 := hgc 0 _ rfl; have c1 := hgc 1 _ rfl; have c2 := hgc 2 _ rfl; have c3 := hgc 3 _ rfl; have c4 := hgc 4 _ rfl;simp only [vnat] at c0 c1 c2 c3 c4
      go_wp2_with fail
      have Hwr := hid hbel
      go_region_held3 (fun w' => w'.cell? ⟨g, 0, none⟩ = some (.int .i64 n1) /\ w'.cell? ⟨g, 1, none⟩ = some (.int .i64 n2) /\ w'.cell? ⟨g, 2, none⟩ = some (.int .i64 n3) /\ w'.cell? ⟨g, 3, none⟩ = some (.int .i64 n4) /\ w'.cell? ⟨g, 4, none⟩ = some (.int .i64 n5) /\ g < w'.heap.size /\ Hid (Below wr.heap.size wr w')) (first | exact ⟨c0, c1, c2, c3, c4, hglt, hid (bdr (Below.refl _ _))⟩ | (refine ⟨?_, ?_, ?_, ?_, ?_, ?_, ?_⟩ <;> first | exact cellAl (by assumption) (by assumption) | exact sizeAl (by assumption) | exact belAl (by assumption) | exact hid (bdr (bnew _ _)))) (fail)
      have Rp := hid ((Row.new wr #[.int .i64 (n1 : Int), .int .i64 (n2 : Int), .int .i64 (n3 : Int), .int .i64 (n4 : Int), .int .i64 (n5 : Int)] 54).drew);have Hb2 : Hid (Below w1.heap.size w1 ((wr.alloc (.cells #[.int .i64 (n1 : Int), .int .i64 (n2 : Int), .int .i64 (n3 : Int), .int .i64 (n4 : Int), .int .i64 (n5 : Int)] 54)).drew)) := hid (bdr (bal Hwr.out _));have hz : wr.heap.size < (wr.alloc (.cells #[.int .i64 (n1 : Int), .int .i64 (n2 : Int), .int .i64 (n3 : Int), .int .i64 (n4 : Int), .int .i64 (n5 : Int)] 54)).drew.heap.size := by simp
      have Hz := hid hz;clear c0 c1 c2 c3 c4 hgc hz;generalize hW : (wr.alloc (.cells #[.int .i64 (n1 : Int), .int .i64 (n2 : Int), .int .i64 (n3 : Int), .int .i64 (n4 : Int), .int .i64 (n5 : Int)] 54)).drew = W2 at *
      clear hW;have Hok := hid (spPtrOk ⟨n1, n2, n3, n4, n5⟩);have Hho := hid (Qec ⟨n1, n2, n3, n4, n5⟩);have Hd := hid (show l = [dec n1, dec n2, dec n3, dec n4, dec n5] from Ho.out);unfold vptr at Hok Hho;dsimp only at Hok Hho;have c0 := Rp.out.get 0 rfl; have c1 := Rp.out.get 1 rfl; have c2 := Rp.out.get 2 rfl; have c3 := Rp.out.get 3 rfl; have c4 := Rp.out.get 4 rfl;generalize hq1 : ptrOk ⟨n1, n2, n3, n4, n5⟩ = q1 at Hok;cases q1
      ·have Hf := hid (Hnb.out _ _ _ _ _ Hd.out (Or.inl hq1))
       clear hq1
       go_wp2_with (go_at_call 197; refine (Hok.out _).mono ?_; rintro e w2 ⟨rfl, hb2⟩; have R1 := hid (R.out.below (btr Hb2.out hb2)); have f0 := R1.out.get 0 rfl; have f1 := R1.out.get 1 rfl; have f2 := R1.out.get 2 rfl; have f3 := R1.out.get 3 rfl; have f4 := R1.out.get 4 rfl; have g0 := R1.out.free 0; have g1 := R1.out.free 1; have g2 := R1.out.free 2; have g3 := R1.out.free 3; have g4 := R1.out.free 4)
       refine bodyPost_ret (v := .tuple #[vptr hole, .bool false]) (by simp [results, Tryz.results189, go_sem, vptr, hole, f0, f1, f2, f3, f4]) rfl ?_;exact ⟨Or.inr ⟨Hf.out, rfl⟩, bset (bset (bset (bset (bset (btr Hb1.out (btr Hb2.out hb2)) (Nat.le_refl _) _ _) (Nat.le_refl _) _ _) (Nat.le_refl _) _ _) (Nat.le_refl _) _ _) (Nat.le_refl _) _ _⟩
      ·generalize hq2 : ptrHole ⟨n1, n2, n3, n4, n5⟩ = q2 at Hho
       cases q2
       ·have Hf := hid (Hng.out _ _ _ _ _ Hd.out hq1 hq2)
        clear hq1 hq2
        go_wp2_with (first | (go_at_call 197; refine (Hok.out _).mono ?_; rintro e w2 ⟨rfl, hb2⟩; have P1 := hid (Rp.out.below hb2); have d0 := P1.out.get 0 rfl; have d1 := P1.out.get 1 rfl; have d2 := P1.out.get 2 rfl; have d3 := P1.out.get 3 rfl; have d4 := P1.out.get 4 rfl; have Hb3 := hid hb2; clear hb2) | (go_at_call 123; refine (Hho.out _).mono ?_; rintro e w3 ⟨rfl, hb4⟩; have R1 := hid (R.out.below (btr (btr Hb2.out Hb3.out) hb4)); have f0 := R1.out.get 0 rfl; have f1 := R1.out.get 1 rfl; have f2 := R1.out.get 2 rfl; have f3 := R1.out.get 3 rfl; have f4 := R1.out.get 4 rfl; have g0 := R1.out.free 0; have g1 := R1.out.free 1; have g2 := R1.out.free 2; have g3 := R1.out.free 3; have g4 := R1.out.free 4; have P2 := hid (P1.out.below hb4); have k0 := P2.out.get 0 rfl; have k1 := P2.out.get 1 rfl; have k2 := P2.out.get 2 rfl; have k3 := P2.out.get 3 rfl; have k4 := P2.out.get 4 rfl))
        refine bodyPost_ret (v := .tuple #[vptr ⟨n1, n2, n3, n4, n5⟩, .bool true]) (by simp [results, Tryz.results189, go_sem, vptr, hole, f0, f1, f2, f3, f4]) rfl ?_;exact ⟨Or.inl ⟨_, Hf.out, rfl⟩, bset (bset (bset (bset (bset (btr Hb1.out (btr (btr Hb2.out Hb3.out) hb4)) (Nat.le_refl _) _ _) (Nat.le_refl _) _ _) (Nat.le_refl _) _ _) (Nat.le_refl _) _ _) (Nat.le_refl _) _ _⟩
       ·have Hf := hid (Hnb.out _ _ _ _ _ Hd.out (Or.inr hq2))
        clear hq1 hq2
        go_wp2_with (first | (go_at_call 197; refine (Hok.out _).mono ?_; rintro e w2 ⟨rfl, hb2⟩; have P1 := hid (Rp.out.below hb2); have d0 := P1.out.get 0 rfl; have d1 := P1.out.get 1 rfl; have d2 := P1.out.get 2 rfl; have d3 := P1.out.get 3 rfl; have d4 := P1.out.get 4 rfl; have Hb3 := hid hb2; clear hb2) | (go_at_call 123; refine (Hho.out _).mono ?_; rintro e w3 ⟨rfl, hb4⟩; have R1 := hid (R.out.below (btr (btr Hb2.out Hb3.out) hb4)); have f0 := R1.out.get 0 rfl; have f1 := R1.out.get 1 rfl; have f2 := R1.out.get 2 rfl; have f3 := R1.out.get 3 rfl; have f4 := R1.out.get 4 rfl; have g0 := R1.out.free 0; have g1 := R1.out.free 1; have g2 := R1.out.free 2; have g3 := R1.out.free 3; have g4 := R1.out.free 4))
        refine bodyPost_ret (v := .tuple #[vptr hole, .bool false]) (by simp [results, Tryz.results189, go_sem, vptr, hole, f0, f1, f2, f3, f4]) rfl ?_;exact ⟨Or.inr ⟨Hf.out, rfl⟩, bset (bset (bset (bset (bset (btr Hb1.out (btr (btr Hb2.out Hb3.out) hb4)) (Nat.le_refl _) _ _) (Nat.le_refl _) _ _) (Nat.le_refl _) _ _) (Nat.le_refl _) _ _) (Nat.le_refl _) _ _⟩
  ·rw [decide_eq_false h5] at hA
   go_wp2_with (go_at_call 250; refine (Hcut.out _).mono ?_; rintro e w1 ⟨A, c, rfl, hat, hb1⟩; have R := hid ((Row.new w #[.int .i64 0, .int .i64 0, .int .i64 0, .int .i64 0, .int .i64 0] 54).below hb1); have f0 := R.out.get 0 rfl; have f1 := R.out.get 1 rfl; have f2 := R.out.get 2 rfl; have f3 := R.out.get 3 rfl; have f4 := R.out.get 4 rfl; have g0 := R.out.free 0; have g1 := R.out.free 1; have g2 := R.out.free 2; have g3 := R.out.free 3; have g4 := R.out.free 4)
   refine bodyPost_ret (v := .tuple #[vptr hole, .bool false]) (by simp [results, Tryz.results189, go_sem, vptr, hole, f0, f1, f2, f3, f4]) rfl ?_;exact ⟨Or.inr ⟨Hnl.out h5, rfl⟩, bset (bset (bset (bset (bset (btr (bnew _ _) hb1) (Nat.le_refl _) _ _) (Nat.le_refl _) _ _) (Nat.le_refl _) _ _) (Nat.le_refl _) _ _) (Nat.le_refl _) _ _⟩
end Pm
end
section
open Go.RowKit
namespace Pm
open Pl (dec dch inR Ptr Tree Root hole ptrHole ptrOk)
def vtree (t : Tree) : Value := .agg #[.int .i64 t.root.pat, .int .i64 t.root.birth, .int .i64 t.root.size, .int .i64 t.root.sum, .int .i64 t.root.level, .int .i64 t.depth, .int .i64 t.many]
theorem cellBel {w w1 : World} {g i : Nat} {v : Value} (hb : Below w.heap.size w w1) (hg : g < w.heap.size) (h : w.cell? ⟨g, i, none⟩ = some v) : w1.cell? ⟨g, i, none⟩ = some v := (hb.cell (p := ⟨g, i, none⟩) hg).trans h
theorem Qmz (p : Ptr) (w : World) : Calls Tryz.prog 261 #[vptr p] w fun e w' => e = .returned (.string ⟨(Pl.ptrPut p).toArray⟩) /\ Below w.heap.size w w' := by
 have Hok := hid (spPtrOk p);have Hho := hid (Qec p);have Hbd := hid (fun h => Pl.QbT (p := p) h);obtain ⟨pat, birth, size, sum, level⟩ := p;unfold vptr at *
 dsimp only at *
 generalize hq1 : ptrOk ⟨pat, birth, size, sum, level⟩ = q1 at Hok;cases q1
 ·have Hr : Hid (Pl.ptrPut ⟨pat, birth, size, sum, level⟩ = []) := hid (by unfold Pl.ptrPut; rw [if_neg (by rw [hq1]; simp)])
  clear hq1 Hho
  go_enter Tryz.func261, Tryz.ntmps261
  go_wp2_with (go_at_call 197; refine (Hok.out _).mono ?_; rintro e w2 ⟨rfl, hb2⟩)
  go_ret
  exact ⟨by rw [Hr.out]; rfl, btr (bnew _ _) hb2⟩
 ·generalize hq2 : ptrHole ⟨pat, birth, size, sum, level⟩ = q2 at Hho
  cases q2
  ·have Hr : Hid (Pl.ptrPut ⟨pat, birth, size, sum, level⟩ = dec pat.toNat ++ 46 :: (dec birth.toNat ++ 46 :: (dec size.toNat ++ 46 :: (dec sum.toNat ++ 46 :: dec level.toNat)))) := hid (by unfold Pl.ptrPut; rw [if_pos hq1, hq2]; simp [Pl.ptrText, Pl.dots])
   obtain ⟨b1, b2, b3, b4, b5⟩ := Hbd.out hq1;clear hq1 hq2 Hbd;obtain ⟨a, rfl⟩ := Int.eq_ofNat_of_zero_le b1.1;obtain ⟨b, rfl⟩ := Int.eq_ofNat_of_zero_le b2.1;obtain ⟨c, rfl⟩ := Int.eq_ofNat_of_zero_le b3.1;obtain ⟨d, rfl⟩ := Int.eq_ofNat_of_zero_le b4.1;obtain ⟨f, rfl⟩ := Int.eq_ofNat_of_zero_le b5.1;simp only [Int.toNat_natCast] at Hr;have la := Pl.Qbv 9 a (by omega);have lb := Pl.Qbv 9 b (by omega);have lc := Pl.Qbv 9 c (by omega);have ld := Pl.Qbv 9 d (by omega);have lf := Pl.Qbv 9 f (by omega);have hadd1 := fun wx => Qcn (P := Tryz.prog) (dec a) [46] (by simp; omega) wx
   have hadd2 := fun wx => Qcn (P := Tryz.prog) (dec a ++ [46]) (dec b) (by simp; omega) wx
   have hadd3 := fun wx => Qcn (P := Tryz.prog) (dec a ++ 46 :: dec b) [46] (by simp; omega) wx
   have hadd4 := fun wx => Qcn (P := Tryz.prog) (dec a ++ 46 :: (dec b ++ [46])) (dec c) (by simp; omega) wx
   have hadd5 := fun wx => Qcn (P := Tryz.prog) (dec a ++ 46 :: (dec b ++ 46 :: dec c)) [46] (by simp; omega) wx
   have hadd6 := fun wx => Qcn (P := Tryz.prog) (dec a ++ 46 :: (dec b ++ 46 :: (dec c ++ [46]))) (dec d) (by simp; omega) wx
   have hadd7 := fun wx => Qcn (P := Tryz.prog) (dec a ++ 46 :: (dec b ++ 46 :: (dec c ++ 46 :: dec d))) [46] (by simp; omega) wx
   have hadd8 := fun wx => Qcn (P := Tryz.prog) (dec a ++ 46 :: (dec b ++ 46 :: (dec c ++ 46 :: (dec d ++ [46])))) (dec f) (by simp; omega) wx
   simp only [List.append_assoc, List.cons_append, List.nil_append] at hadd1 hadd2 hadd3 hadd4 hadd5 hadd6 hadd7 hadd8;have HB := hid (show (a <= 4294967296 /\ b <= 4294967296 /\ c <= 4294967296 /\ d <= 4294967296 /\ f <= 4294967296) by omega);clear b1 b2 b3 b4 b5 la lb lc ld lf
   go_enter Tryz.func261, Tryz.ntmps261
   go_wp2_with (first | (go_at_call 197; refine (Hok.out _).mono ?_; rintro e w2 ⟨rfl, hb2⟩; have P1 := hid ((Row.new w _ _).below hb2); have d0 := P1.out.get 0 rfl; have d1 := P1.out.get 1 rfl; have d2 := P1.out.get 2 rfl; have d3 := P1.out.get 3 rfl; have d4 := P1.out.get 4 rfl; have Hb3 := hid hb2; clear hb2) | (go_at_call 123; refine (Hho.out _).mono ?_; rintro e w3 ⟨rfl, hb4⟩))
   have P2 := hid (P1.out.below hb4);have c0 := P2.out.get 0 rfl; have c1 := P2.out.get 1 rfl; have c2 := P2.out.get 2 rfl; have c3 := P2.out.get 3 rfl; have c4 := P2.out.get 4 rfl;have Hlt := hid P2.out.lt;have Hb4 := hid (btr (btr (bnew w _) Hb3.out) hb4);clear d0 d1 d2 d3 d4 hb4
   refine Qdf (P := Tryz.prog) follows_mixed (by kernel_rfl) (fun rx => ⟨#[.agg #[.int .i64 ↑a, .int .i64 ↑b, .int .i64 ↑c, .int .i64 ↑d, .int .i64 ↑f], .pointer (some ⟨w.heap.size, 0, none⟩), rx 23, .agg #[.int .i64 ↑a, .int .i64 ↑b, .int .i64 ↑c, .int .i64 ↑d, .int .i64 ↑f], .bool true, .bool false, .agg #[.int .i64 ↑a, .int .i64 ↑b, .int .i64 ↑c, .int .i64 ↑d, .int .i64 ↑f], .bool false, rx 0, rx 1, rx 2, rx 3, rx 4, rx 5, rx 6, rx 7, rx 8, rx 9, rx 10, rx 11, rx 12, rx 13, rx 14, rx 15, rx 16, rx 17, rx 18, rx 19, rx 20, rx 21, rx 22], []⟩) (fun j => ([undef, undef, undef, undef, undef, undef, undef, undef, undef, undef, undef, undef, undef, undef, undef, undef, undef, undef, undef, undef, undef, undef, undef, .string ⟨#[]⟩] : List Value).getD j undef) (fun j v wx => match j with | 0 => v = .pointer (some ⟨w.heap.size, 0, none⟩) | 1 => v = .int .i64 (a : Int) | 2 => v = .string ⟨(dec a).toArray⟩ | 3 => v = .string ⟨(dec a ++ [46]).toArray⟩ | 4 => v = .pointer (some ⟨w.heap.size, 1, none⟩) | 5 => v = .int .i64 (b : Int) | 6 => v = .string ⟨(dec b).toArray⟩ | 7 => v = .string ⟨(dec a ++ 46 :: dec b).toArray⟩ | 8 => v = .string ⟨(dec a ++ (46 :: (dec b ++ [46]))).toArray⟩ | 9 => v = .pointer (some ⟨w.heap.size, 2, none⟩) | 10 => v = .int .i64 (c : Int) | 11 => v = .string ⟨(dec c).toArray⟩ | 12 => v = .string ⟨(dec a ++ (46 :: (dec b ++ (46 :: dec c)))).toArray⟩ | 13 => v = .string ⟨(dec a ++ (46 :: (dec b ++ (46 :: (dec c ++ [46]))))).toArray⟩ | 14 => v = .pointer (some ⟨w.heap.size, 3, none⟩) | 15 => v = .int .i64 (d : Int) | 16 => v = .string ⟨(dec d).toArray⟩ | 17 => v = .string ⟨(dec a ++ (46 :: (dec b ++ (46 :: (dec c ++ (46 :: dec d)))))).toArray⟩ | 18 => v = .string ⟨(dec a ++ (46 :: (dec b ++ (46 :: (dec c ++ (46 :: (dec d ++ [46]))))))).toArray⟩ | 19 => v = .pointer (some ⟨w.heap.size, 4, none⟩) | 20 => v = .int .i64 (f : Int) | 21 => v = .string ⟨(dec f).toArray⟩ | 22 => v = .string ⟨(dec a ++ (46 :: (dec b ++ (46 :: (dec c ++ (46 :: (dec d ++ (46 :: dec f)))))))).toArray⟩ | 23 => v = .string ⟨(dec a ++ (46 :: (dec b ++ (46 :: (dec c ++ (46 :: (dec d ++ (46 :: dec f)))))))).toArray⟩ | _ => True) (fun wx => Below w3.heap.size w3 wx) (fun wx wy => Below wx.heap.size wx wy) ?hVb ?hSb ?hopb ?hendb
   case hVb =>
    intro j v wx wy h hR
    match j, h with
    |0, h => exact h
    |1, h => exact h
    |2, h => exact h
    |3, h => exact h
    |4, h => exact h
    |5, h => exact h
    |6, h => exact h
    |7, h => exact h
    |8, h => exact h
    |9, h => exact h
    |10, h => exact h
    |11, h => exact h
    |12, h => exact h
    |13, h => exact h
    |14, h => exact h
    |15, h => exact h
    |16, h => exact h
    |17, h => exact h
    |18, h => exact h
    |19, h => exact h
    |20, h => exact h
    |21, h => exact h
    |22, h => exact h
    |23, h => exact h
    |_ + 24, _ => exact trivial
   case hSb => exact bdr (Below.refl _ _)
   case hopb =>
    intro F hF;have Pb_0 : ∀ x v, (⟨(F x).tmps.setIfInBounds 8 v, (F x).defers⟩ : Act) = F (upd x 0 v) := by subst hF; intro x v; rfl
    have Eb_0 : ∀ x, (F x).tmps[8]?.getD undef = x 0 := by subst hF; intro x; rfl
    have Pb_1 : ∀ x v, (⟨(F x).tmps.setIfInBounds 9 v, (F x).defers⟩ : Act) = F (upd x 1 v) := by subst hF; intro x v; rfl
    have Eb_1 : ∀ x, (F x).tmps[9]?.getD undef = x 1 := by subst hF; intro x; rfl
    have Pb_2 : ∀ x v, (⟨(F x).tmps.setIfInBounds 10 v, (F x).defers⟩ : Act) = F (upd x 2 v) := by subst hF; intro x v; rfl
    have Eb_2 : ∀ x, (F x).tmps[10]?.getD undef = x 2 := by subst hF; intro x; rfl
    have Pb_3 : ∀ x v, (⟨(F x).tmps.setIfInBounds 11 v, (F x).defers⟩ : Act) = F (upd x 3 v) := by subst hF; intro x v; rfl
    have Eb_3 : ∀ x, (F x).tmps[11]?.getD undef = x 3 := by subst hF; intro x; rfl
    have Pb_4 : ∀ x v, (⟨(F x).tmps.setIfInBounds 12 v, (F x).defers⟩ : Act) = F (upd x 4 v) := by subst hF; intro x v; rfl
    have Eb_4 : ∀ x, (F x).tmps[12]?.getD undef = x 4 := by subst hF; intro x; rfl
    have Pb_5 : ∀ x v, (⟨(F x).tmps.setIfInBounds 13 v, (F x).defers⟩ : Act) = F (upd x 5 v) := by subst hF; intro x v; rfl
    have Eb_5 : ∀ x, (F x).tmps[13]?.getD undef = x 5 := by subst hF; intro x; rfl
    have Pb_6 : ∀ x v, (⟨(F x).tmps.setIfInBounds 14 v, (F x).defers⟩ : Act) = F (upd x 6 v) := by subst hF; intro x v; rfl
    have Eb_6 : ∀ x, (F x).tmps[14]?.getD undef = x 6 := by subst hF; intro x; rfl
    have Pb_7 : ∀ x v, (⟨(F x).tmps.setIfInBounds 15 v, (F x).defers⟩ : Act) = F (upd x 7 v) := by subst hF; intro x v; rfl
    have Eb_7 : ∀ x, (F x).tmps[15]?.getD undef = x 7 := by subst hF; intro x; rfl
    have Pb_8 : ∀ x v, (⟨(F x).tmps.setIfInBounds 16 v, (F x).defers⟩ : Act) = F (upd x 8 v) := by subst hF; intro x v; rfl
    have Eb_8 : ∀ x, (F x).tmps[16]?.getD undef = x 8 := by subst hF; intro x; rfl
    have Pb_9 : ∀ x v, (⟨(F x).tmps.setIfInBounds 17 v, (F x).defers⟩ : Act) = F (upd x 9 v) := by subst hF; intro x v; rfl
    have Eb_9 : ∀ x, (F x).tmps[17]?.getD undef = x 9 := by subst hF; intro x; rfl
    have Pb_10 : ∀ x v, (⟨(F x).tmps.setIfInBounds 18 v, (F x).defers⟩ : Act) = F (upd x 10 v) := by subst hF; intro x v; rfl
    have Eb_10 : ∀ x, (F x).tmps[18]?.getD undef = x 10 := by subst hF; intro x; rfl
    have Pb_11 : ∀ x v, (⟨(F x).tmps.setIfInBounds 19 v, (F x).defers⟩ : Act) = F (upd x 11 v) := by subst hF; intro x v; rfl
    have Eb_11 : ∀ x, (F x).tmps[19]?.getD undef = x 11 := by subst hF; intro x; rfl
    have Pb_12 : ∀ x v, (⟨(F x).tmps.setIfInBounds 20 v, (F x).defers⟩ : Act) = F (upd x 12 v) := by subst hF; intro x v; rfl
    have Eb_12 : ∀ x, (F x).tmps[20]?.getD undef = x 12 := by subst hF; intro x; rfl
    have Pb_13 : ∀ x v, (⟨(F x).tmps.setIfInBounds 21 v, (F x).defers⟩ : Act) = F (upd x 13 v) := by subst hF; intro x v; rfl
    have Eb_13 : ∀ x, (F x).tmps[21]?.getD undef = x 13 := by subst hF; intro x; rfl
    have Pb_14 : ∀ x v, (⟨(F x).tmps.setIfInBounds 22 v, (F x).defers⟩ : Act) = F (upd x 14 v) := by subst hF; intro x v; rfl
    have Eb_14 : ∀ x, (F x).tmps[22]?.getD undef = x 14 := by subst hF; intro x; rfl
    have Pb_15 : ∀ x v, (⟨(F x).tmps.setIfInBounds 23 v, (F x).defers⟩ : Act) = F (upd x 15 v) := by subst hF; intro x v; rfl
    have Eb_15 : ∀ x, (F x).tmps[23]?.getD undef = x 15 := by subst hF; intro x; rfl
    have Pb_16 : ∀ x v, (⟨(F x).tmps.setIfInBounds 24 v, (F x).defers⟩ : Act) = F (upd x 16 v) := by subst hF; intro x v; rfl
    have Eb_16 : ∀ x, (F x).tmps[24]?.getD undef = x 16 := by subst hF; intro x; rfl
    have Pb_17 : ∀ x v, (⟨(F x).tmps.setIfInBounds 25 v, (F x).defers⟩ : Act) = F (upd x 17 v) := by subst hF; intro x v; rfl
    have Eb_17 : ∀ x, (F x).tmps[25]?.getD undef = x 17 := by subst hF; intro x; rfl
    have Pb_18 : ∀ x v, (⟨(F x).tmps.setIfInBounds 26 v, (F x).defers⟩ : Act) = F (upd x 18 v) := by subst hF; intro x v; rfl
    have Eb_18 : ∀ x, (F x).tmps[26]?.getD undef = x 18 := by subst hF; intro x; rfl
    have Pb_19 : ∀ x v, (⟨(F x).tmps.setIfInBounds 27 v, (F x).defers⟩ : Act) = F (upd x 19 v) := by subst hF; intro x v; rfl
    have Eb_19 : ∀ x, (F x).tmps[27]?.getD undef = x 19 := by subst hF; intro x; rfl
    have Pb_20 : ∀ x v, (⟨(F x).tmps.setIfInBounds 28 v, (F x).defers⟩ : Act) = F (upd x 20 v) := by subst hF; intro x v; rfl
    have Eb_20 : ∀ x, (F x).tmps[28]?.getD undef = x 20 := by subst hF; intro x; rfl
    have Pb_21 : ∀ x v, (⟨(F x).tmps.setIfInBounds 29 v, (F x).defers⟩ : Act) = F (upd x 21 v) := by subst hF; intro x v; rfl
    have Eb_21 : ∀ x, (F x).tmps[29]?.getD undef = x 21 := by subst hF; intro x; rfl
    have Pb_22 : ∀ x v, (⟨(F x).tmps.setIfInBounds 30 v, (F x).defers⟩ : Act) = F (upd x 22 v) := by subst hF; intro x v; rfl
    have Eb_22 : ∀ x, (F x).tmps[30]?.getD undef = x 22 := by subst hF; intro x; rfl
    have Pb_23 : ∀ x v, (⟨(F x).tmps.setIfInBounds 2 v, (F x).defers⟩ : Act) = F (upd x 23 v) := by subst hF; intro x v; rfl
    have Eb_23 : ∀ x, (F x).tmps[2]?.getD undef = x 23 := by subst hF; intro x; rfl
    have Eb_e1 : ∀ x, (F x).tmps[1]?.getD undef = .pointer (some ⟨w.heap.size, 0, none⟩) := by subst hF; intro x; rfl
    clear hF;simp only [OpAll];refine ⟨?_, ?_, ?_, ?_, ?_, ?_, ?_, ?_, ?_, ?_, ?_, ?_, ?_, ?_, ?_, ?_, ?_, ?_, ?_, ?_, ?_, ?_, ?_, ?_, trivial⟩
    ·intro rx wx hS hd hu K hK
     clear hu;simp [Deps, Region.binds] at hd
     go_simp
     exact hK _ _ (Below.refl _ _) hS rfl
    ·intro rx wx hS hd hu K hK
     clear hu;simp [Deps, Region.binds] at hd;have e1 := cellBel hS Hlt.out c0
     go_simp
     exact hK _ _ (Below.refl _ _) hS rfl
    ·intro rx wx hS hd hu K hK
     clear hu;simp [Deps, Region.binds] at hd
     go_simp
     refine (l6Dec a _ (HB.out.1)).mono ?_;rintro e w1 ⟨rfl, hb1⟩
     go_simp
     exact hK _ _ hb1 (btr hS hb1) rfl
    ·intro rx wx hS hd hu K hK
     clear hu;simp [Deps, Region.binds] at hd
     go_simp
     exact hK _ _ (Below.refl _ _) hS rfl
    ·intro rx wx hS hd hu K hK
     clear hu;simp [Deps, Region.binds] at hd
     go_simp
     exact hK _ _ (Below.refl _ _) hS rfl
    ·intro rx wx hS hd hu K hK
     clear hu;simp [Deps, Region.binds] at hd;have e1 := cellBel hS Hlt.out c1
     go_simp
     exact hK _ _ (Below.refl _ _) hS rfl
    ·intro rx wx hS hd hu K hK
     clear hu;simp [Deps, Region.binds] at hd
     go_simp
     refine (l6Dec b _ (HB.out.2.1)).mono ?_;rintro e w1 ⟨rfl, hb1⟩
     go_simp
     exact hK _ _ hb1 (btr hS hb1) rfl
    ·intro rx wx hS hd hu K hK
     clear hu;simp [Deps, Region.binds] at hd
     go_simp
     exact hK _ _ (Below.refl _ _) hS rfl
    ·intro rx wx hS hd hu K hK
     clear hu;simp [Deps, Region.binds] at hd
     go_simp
     exact hK _ _ (Below.refl _ _) hS rfl
    ·intro rx wx hS hd hu K hK
     clear hu;simp [Deps, Region.binds] at hd
     go_simp
     exact hK _ _ (Below.refl _ _) hS rfl
    ·intro rx wx hS hd hu K hK
     clear hu;simp [Deps, Region.binds] at hd;have e1 := cellBel hS Hlt.out c2
     go_simp
     exact hK _ _ (Below.refl _ _) hS rfl
    ·intro rx wx hS hd hu K hK
     clear hu;simp [Deps, Region.binds] at hd
     go_simp
     refine (l6Dec c _ (HB.out.2.2.1)).mono ?_;rintro e w1 ⟨rfl, hb1⟩
     go_simp
     exact hK _ _ hb1 (btr hS hb1) rfl
    ·intro rx wx hS hd hu K hK
     clear hu;simp [Deps, Region.binds] at hd
     go_simp
     exact hK _ _ (Below.refl _ _) hS rfl
    ·intro rx wx hS hd hu K hK
     clear hu;simp [Deps, Region.binds] at hd
     go_simp
     exact hK _ _ (Below.refl _ _) hS rfl
    ·intro rx wx hS hd hu K hK
     clear hu;simp [Deps, Region.binds] at hd
     go_simp
     exact hK _ _ (Below.refl _ _) hS rfl
    ·intro rx wx hS hd hu K hK
     clear hu;simp [Deps, Region.binds] at hd;have e1 := cellBel hS Hlt.out c3
     go_simp
     exact hK _ _ (Below.refl _ _) hS rfl
    ·intro rx wx hS hd hu K hK
     clear hu;simp [Deps, Region.binds] at hd
     go_simp
     refine (l6Dec d _ (HB.out.2.2.2.1)).mono ?_;rintro e w1 ⟨rfl, hb1⟩
     go_simp
     exact hK _ _ hb1 (btr hS hb1) rfl
    ·intro rx wx hS hd hu K hK
     clear hu;simp [Deps, Region.binds] at hd
     go_simp
     exact hK _ _ (Below.refl _ _) hS rfl
    ·intro rx wx hS hd hu K hK
     clear hu;simp [Deps, Region.binds] at hd
     go_simp
     exact hK _ _ (Below.refl _ _) hS rfl
    ·intro rx wx hS hd hu K hK
     clear hu;simp [Deps, Region.binds] at hd
     go_simp
     exact hK _ _ (Below.refl _ _) hS rfl
    ·intro rx wx hS hd hu K hK
     clear hu;simp [Deps, Region.binds] at hd;have e1 := cellBel hS Hlt.out c4
     go_simp
     exact hK _ _ (Below.refl _ _) hS rfl
    ·intro rx wx hS hd hu K hK
     clear hu;simp [Deps, Region.binds] at hd
     go_simp
     refine (l6Dec f _ (HB.out.2.2.2.2)).mono ?_;rintro e w1 ⟨rfl, hb1⟩
     go_simp
     exact hK _ _ hb1 (btr hS hb1) rfl
    ·intro rx wx hS hd hu K hK
     clear hu;simp [Deps, Region.binds] at hd
     go_simp
     exact hK _ _ (Below.refl _ _) hS rfl
    ·intro rx wx hS hd hu K hK
     clear hu;simp [Deps, Region.binds] at hd
     go_simp
     exact hK _ _ (Below.refl _ _) hS rfl
   intro rx w4 hS hv;have h23 := hv 23 (by decide);simp only at h23
   go_wp2
   go_ret
   exact ⟨by rw [Hr.out]; exact congrArg Ending.returned h23, btr Hb4.out hS⟩
  ·have Hr : Hid (Pl.ptrPut ⟨pat, birth, size, sum, level⟩ = [45]) := hid (by unfold Pl.ptrPut; rw [if_pos hq1, hq2]; rfl)
   clear hq1 hq2
   go_enter Tryz.func261, Tryz.ntmps261
   go_wp2_with (first | (go_at_call 197; refine (Hok.out _).mono ?_; rintro e w2 ⟨rfl, hb2⟩; have P1 := hid ((Row.new w _ _).below hb2); have d0 := P1.out.get 0 rfl; have d1 := P1.out.get 1 rfl; have d2 := P1.out.get 2 rfl; have d3 := P1.out.get 3 rfl; have d4 := P1.out.get 4 rfl; have Hb3 := hid hb2; clear hb2) | (go_at_call 123; refine (Hho.out _).mono ?_; rintro e w3 ⟨rfl, hb4⟩))
   go_ret
   exact ⟨by rw [Hr.out]; rfl, btr (btr (bnew _ _) Hb3.out) hb4⟩
theorem Qd9 (n : Int) : (Pl.numPut n).length <= 9 := by
 unfold Pl.numPut;split
 ·rename_i h; exact Pl.Qbv 8 n.toNat (by omega)
 ·simp
theorem ptrPut_len (p : Ptr) : (Pl.ptrPut p).length <= 60 := by
 unfold Pl.ptrPut;split
 ·rename_i h
  obtain ⟨b1, b2, b3, b4, b5⟩ := Pl.QbT h;split
  ·simp
  ·have la := Pl.Qbv 9 p.pat.toNat (by omega)
   have lb := Pl.Qbv 9 p.birth.toNat (by omega);have lc := Pl.Qbv 9 p.size.toNat (by omega);have ld := Pl.Qbv 9 p.sum.toNat (by omega);have lf := Pl.Qbv 9 p.level.toNat (by omega);simp [Pl.ptrText, Pl.dots]; omega
 ·simp
theorem Qlc (o : Option Str) : optStr o = .tuple #[.string ⟨(o.getD []).toArray⟩, .bool o.isSome] := by cases o <;> rfl
end Pm
end
section
open Go.RowKit
namespace Pm
theorem QfK {w : World} {base size n : Nat} {e : TypeId} {v : Value} {xs : List Value} (h : w.ownsRow base e size v n xs) : ∃ A c, v = .slice A n c := by
 obtain ⟨_, ⟨hv, hn⟩ | ⟨g, cap, cur, hv, _⟩⟩ := h
 ·subst hn; exact ⟨none, 0, hv⟩
 ·exact ⟨_, cap, hv⟩
section
variable {b3 base k : Nat} {l : List Disk} {v0 : Value} {wr wx wy : World} {D D' : Nat -> Bool} {rx ry : Nat -> Value}
end
end Pm
end
end Go.Proofs.YtdjkdcokjoiokaaGreatDoor

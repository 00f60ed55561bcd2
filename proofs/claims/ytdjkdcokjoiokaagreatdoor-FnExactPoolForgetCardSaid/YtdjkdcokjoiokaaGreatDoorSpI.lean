/- The reference's texts of pointers, trees, roots. -/
import Derived.Test.YtdjkdcokjoiokaaGreatDoorSpH
namespace Go.Proofs.YtdjkdcokjoiokaaGreatDoor
open Go.RowKit
namespace Pm
open Pl (dec dch inR Ptr Tree Root hole ptrHole ptrOk)

theorem cellBel {w w1 : World} {g i : Nat} {v : Value} (hb : Below w.heap.size w w1) (hg : g < w.heap.size) (h : w.cell? ⟨g, i, none⟩ = some v) : w1.cell? ⟨g, i, none⟩ = some v := (hb.cell (p := ⟨g, i, none⟩) hg).trans h

set_option maxRecDepth 100000 in
set_option maxHeartbeats 1000000 in
theorem spPtrPut (p : Ptr) (w : World) : Calls Tryz.prog 261 #[vptr p] w fun e w' => e = .returned (.string ⟨(Pl.ptrPut p).toArray⟩) ∧ Below w.heap.size w w' := by
  have Hok := hid (spPtrOk p)
  have Hho := hid (spPtrHole p)
  have Hbd := hid (fun h => Pl.ptrOk_bounds (p := p) h)
  obtain ⟨pat, birth, size, sum, level⟩ := p
  unfold vptr at *
  dsimp only at *
  generalize hq1 : ptrOk ⟨pat, birth, size, sum, level⟩ = q1 at Hok
  cases q1
  · have Hr : Hid (Pl.ptrPut ⟨pat, birth, size, sum, level⟩ = []) := hid (by unfold Pl.ptrPut; rw [if_neg (by rw [hq1]; simp)])
    clear hq1 Hho
    go_enter Tryz.func261, Tryz.ntmps261
    go_wp2_with (go_at_call 197; refine (Hok.out _).mono ?_; rintro e w2 ⟨rfl, hb2⟩)
    go_ret
    exact ⟨by rw [Hr.out]; rfl, btr (bnew _ _) hb2⟩
  · generalize hq2 : ptrHole ⟨pat, birth, size, sum, level⟩ = q2 at Hho
    cases q2
    · have Hr : Hid (Pl.ptrPut ⟨pat, birth, size, sum, level⟩ = dec pat.toNat ++ 46 :: (dec birth.toNat ++ 46 :: (dec size.toNat ++ 46 :: (dec sum.toNat ++ 46 :: dec level.toNat)))) := hid (by unfold Pl.ptrPut; rw [if_pos hq1, hq2]; simp [Pl.ptrText, Pl.dots])
      obtain ⟨b1, b2, b3, b4, b5⟩ := Hbd.out hq1
      clear hq1 hq2 Hbd
      obtain ⟨a, rfl⟩ := Int.eq_ofNat_of_zero_le b1.1
      obtain ⟨b, rfl⟩ := Int.eq_ofNat_of_zero_le b2.1
      obtain ⟨c, rfl⟩ := Int.eq_ofNat_of_zero_le b3.1
      obtain ⟨d, rfl⟩ := Int.eq_ofNat_of_zero_le b4.1
      obtain ⟨f, rfl⟩ := Int.eq_ofNat_of_zero_le b5.1
      simp only [Int.toNat_natCast] at Hr
      have la := Pl.dec_length_le 9 a (by omega)
      have lb := Pl.dec_length_le 9 b (by omega)
      have lc := Pl.dec_length_le 9 c (by omega)
      have ld := Pl.dec_length_le 9 d (by omega)
      have lf := Pl.dec_length_le 9 f (by omega)
      have hadd1 := fun wx => str_add (P := Tryz.prog) (dec a) [46] (by simp; omega) wx
      have hadd2 := fun wx => str_add (P := Tryz.prog) (dec a ++ [46]) (dec b) (by simp; omega) wx
      have hadd3 := fun wx => str_add (P := Tryz.prog) (dec a ++ 46 :: dec b) [46] (by simp; omega) wx
      have hadd4 := fun wx => str_add (P := Tryz.prog) (dec a ++ 46 :: (dec b ++ [46])) (dec c) (by simp; omega) wx
      have hadd5 := fun wx => str_add (P := Tryz.prog) (dec a ++ 46 :: (dec b ++ 46 :: dec c)) [46] (by simp; omega) wx
      have hadd6 := fun wx => str_add (P := Tryz.prog) (dec a ++ 46 :: (dec b ++ 46 :: (dec c ++ [46]))) (dec d) (by simp; omega) wx
      have hadd7 := fun wx => str_add (P := Tryz.prog) (dec a ++ 46 :: (dec b ++ 46 :: (dec c ++ 46 :: dec d))) [46] (by simp; omega) wx
      have hadd8 := fun wx => str_add (P := Tryz.prog) (dec a ++ 46 :: (dec b ++ 46 :: (dec c ++ 46 :: (dec d ++ [46])))) (dec f) (by simp; omega) wx
      simp only [List.append_assoc, List.cons_append, List.nil_append] at hadd1 hadd2 hadd3 hadd4 hadd5 hadd6 hadd7 hadd8
      have HB := hid (show (a ≤ 4294967296 ∧ b ≤ 4294967296 ∧ c ≤ 4294967296 ∧ d ≤ 4294967296 ∧ f ≤ 4294967296) by omega)
      clear b1 b2 b3 b4 b5 la lb lc ld lf
      go_enter Tryz.func261, Tryz.ntmps261
      go_wp2_with (first | (go_at_call 197; refine (Hok.out _).mono ?_; rintro e w2 ⟨rfl, hb2⟩; have P1 := hid ((Row.new w _ _).below hb2); have d0 := P1.out.get 0 rfl; have d1 := P1.out.get 1 rfl; have d2 := P1.out.get 2 rfl; have d3 := P1.out.get 3 rfl; have d4 := P1.out.get 4 rfl; have Hb3 := hid hb2; clear hb2) | (go_at_call 123; refine (Hho.out _).mono ?_; rintro e w3 ⟨rfl, hb4⟩))
      have P2 := hid (P1.out.below hb4)
      have c0 := P2.out.get 0 rfl; have c1 := P2.out.get 1 rfl; have c2 := P2.out.get 2 rfl; have c3 := P2.out.get 3 rfl; have c4 := P2.out.get 4 rfl
      have Hlt := hid P2.out.lt
      have Hb4 := hid (btr (btr (bnew w _) Hb3.out) hb4)
      clear d0 d1 d2 d3 d4 hb4
      refine wp_region_F (P := Tryz.prog) follows_mixed (by kernel_rfl) (fun rx => ⟨#[.agg #[.int .i64 ↑a, .int .i64 ↑b, .int .i64 ↑c, .int .i64 ↑d, .int .i64 ↑f], .pointer (some ⟨w.heap.size, 0, none⟩), rx 23, .agg #[.int .i64 ↑a, .int .i64 ↑b, .int .i64 ↑c, .int .i64 ↑d, .int .i64 ↑f], .bool true, .bool false, .agg #[.int .i64 ↑a, .int .i64 ↑b, .int .i64 ↑c, .int .i64 ↑d, .int .i64 ↑f], .bool false, rx 0, rx 1, rx 2, rx 3, rx 4, rx 5, rx 6, rx 7, rx 8, rx 9, rx 10, rx 11, rx 12, rx 13, rx 14, rx 15, rx 16, rx 17, rx 18, rx 19, rx 20, rx 21, rx 22], []⟩) (fun j => ([undef, undef, undef, undef, undef, undef, undef, undef, undef, undef, undef, undef, undef, undef, undef, undef, undef, undef, undef, undef, undef, undef, undef, .string ⟨#[]⟩] : List Value).getD j undef) (fun j v wx => match j with | 0 => v = .pointer (some ⟨w.heap.size, 0, none⟩) | 1 => v = .int .i64 (a : Int) | 2 => v = .string ⟨(dec a).toArray⟩ | 3 => v = .string ⟨(dec a ++ [46]).toArray⟩ | 4 => v = .pointer (some ⟨w.heap.size, 1, none⟩) | 5 => v = .int .i64 (b : Int) | 6 => v = .string ⟨(dec b).toArray⟩ | 7 => v = .string ⟨(dec a ++ 46 :: dec b).toArray⟩ | 8 => v = .string ⟨(dec a ++ (46 :: (dec b ++ [46]))).toArray⟩ | 9 => v = .pointer (some ⟨w.heap.size, 2, none⟩) | 10 => v = .int .i64 (c : Int) | 11 => v = .string ⟨(dec c).toArray⟩ | 12 => v = .string ⟨(dec a ++ (46 :: (dec b ++ (46 :: dec c)))).toArray⟩ | 13 => v = .string ⟨(dec a ++ (46 :: (dec b ++ (46 :: (dec c ++ [46]))))).toArray⟩ | 14 => v = .pointer (some ⟨w.heap.size, 3, none⟩) | 15 => v = .int .i64 (d : Int) | 16 => v = .string ⟨(dec d).toArray⟩ | 17 => v = .string ⟨(dec a ++ (46 :: (dec b ++ (46 :: (dec c ++ (46 :: dec d)))))).toArray⟩ | 18 => v = .string ⟨(dec a ++ (46 :: (dec b ++ (46 :: (dec c ++ (46 :: (dec d ++ [46]))))))).toArray⟩ | 19 => v = .pointer (some ⟨w.heap.size, 4, none⟩) | 20 => v = .int .i64 (f : Int) | 21 => v = .string ⟨(dec f).toArray⟩ | 22 => v = .string ⟨(dec a ++ (46 :: (dec b ++ (46 :: (dec c ++ (46 :: (dec d ++ (46 :: dec f)))))))).toArray⟩ | 23 => v = .string ⟨(dec a ++ (46 :: (dec b ++ (46 :: (dec c ++ (46 :: (dec d ++ (46 :: dec f)))))))).toArray⟩ | _ => True) (fun wx => Below w3.heap.size w3 wx) (fun wx wy => Below wx.heap.size wx wy) ?hVb ?hSb ?hopb ?hendb
      case hVb =>
        intro j v wx wy h hR
        match j, h with
        | 0, h => exact h
        | 1, h => exact h
        | 2, h => exact h
        | 3, h => exact h
        | 4, h => exact h
        | 5, h => exact h
        | 6, h => exact h
        | 7, h => exact h
        | 8, h => exact h
        | 9, h => exact h
        | 10, h => exact h
        | 11, h => exact h
        | 12, h => exact h
        | 13, h => exact h
        | 14, h => exact h
        | 15, h => exact h
        | 16, h => exact h
        | 17, h => exact h
        | 18, h => exact h
        | 19, h => exact h
        | 20, h => exact h
        | 21, h => exact h
        | 22, h => exact h
        | 23, h => exact h
        | _ + 24, _ => exact trivial
      case hSb => exact bdr (Below.refl _ _)
      case hopb =>
        intro F hF
        have Pb_0 : ∀ x v, (⟨(F x).tmps.setIfInBounds 8 v, (F x).defers⟩ : Act) = F (upd x 0 v) := by subst hF; intro x v; rfl
        have Eb_0 : ∀ x, (F x).tmps[8]?.getD undef = x 0 := by subst hF; intro x; rfl
        have Pb_1 : ∀ x v, (⟨(F x).tmps.setIfInBounds 9 v, (F x).defers⟩ : Act) = F (upd x 1 v) := by subst hF; intro x v; rfl
        have Eb_1 : ∀ x, (F x).tmps[9]?.getD undef = x 1 := by subst hF; intro x; rfl
        have Pb_2 : ∀ x v, (⟨(F x).tmps.setIfInBounds 10 v, (F x).defers⟩ : Act) = F (upd x 2 v) := by subst hF; intro x v; rfl
        have Eb_2 : ∀ x, (F x).tmps[10]?.getD undef = x 2 := by subst hF; intro x; rfl
        have Pb_3 : ∀ x v, (⟨(F x).tmps.setIfInBounds 11 v, (F x).defers⟩ : Act) = F (upd x 3 v) := by subst hF; intro x v; rfl
        have Eb_3 : ∀ x, (F x).tmps[11]?.getD undef = x 3 := by subst hF; intro x; rfl
        have Pb_4 : ∀ x v, (⟨(F x).tmps.setIfInBounds 12 v, (F x).defers⟩ : Act) = F (upd x 4 v) := by subst hF; intro x v; rfl
        have Eb_4 : ∀ x, (F x).tmps[12]?.getD undef = x 4 := by subst hF; intro x; rfl
        have Pb_5 : ∀ x v, (⟨(F x).tmps.setIfInBounds 13 v, (F x).defers⟩ : Act) = F (upd x 5 v) := by subst hF; intro x v; rfl
        have Eb_5 : ∀ x, (F x).tmps[13]?.getD undef = x 5 := by subst hF; intro x; rfl
        have Pb_6 : ∀ x v, (⟨(F x).tmps.setIfInBounds 14 v, (F x).defers⟩ : Act) = F (upd x 6 v) := by subst hF; intro x v; rfl
        have Eb_6 : ∀ x, (F x).tmps[14]?.getD undef = x 6 := by subst hF; intro x; rfl
        have Pb_7 : ∀ x v, (⟨(F x).tmps.setIfInBounds 15 v, (F x).defers⟩ : Act) = F (upd x 7 v) := by subst hF; intro x v; rfl
        have Eb_7 : ∀ x, (F x).tmps[15]?.getD undef = x 7 := by subst hF; intro x; rfl
        have Pb_8 : ∀ x v, (⟨(F x).tmps.setIfInBounds 16 v, (F x).defers⟩ : Act) = F (upd x 8 v) := by subst hF; intro x v; rfl
        have Eb_8 : ∀ x, (F x).tmps[16]?.getD undef = x 8 := by subst hF; intro x; rfl
        have Pb_9 : ∀ x v, (⟨(F x).tmps.setIfInBounds 17 v, (F x).defers⟩ : Act) = F (upd x 9 v) := by subst hF; intro x v; rfl
        have Eb_9 : ∀ x, (F x).tmps[17]?.getD undef = x 9 := by subst hF; intro x; rfl
        have Pb_10 : ∀ x v, (⟨(F x).tmps.setIfInBounds 18 v, (F x).defers⟩ : Act) = F (upd x 10 v) := by subst hF; intro x v; rfl
        have Eb_10 : ∀ x, (F x).tmps[18]?.getD undef = x 10 := by subst hF; intro x; rfl
        have Pb_11 : ∀ x v, (⟨(F x).tmps.setIfInBounds 19 v, (F x).defers⟩ : Act) = F (upd x 11 v) := by subst hF; intro x v; rfl
        have Eb_11 : ∀ x, (F x).tmps[19]?.getD undef = x 11 := by subst hF; intro x; rfl
        have Pb_12 : ∀ x v, (⟨(F x).tmps.setIfInBounds 20 v, (F x).defers⟩ : Act) = F (upd x 12 v) := by subst hF; intro x v; rfl
        have Eb_12 : ∀ x, (F x).tmps[20]?.getD undef = x 12 := by subst hF; intro x; rfl
        have Pb_13 : ∀ x v, (⟨(F x).tmps.setIfInBounds 21 v, (F x).defers⟩ : Act) = F (upd x 13 v) := by subst hF; intro x v; rfl
        have Eb_13 : ∀ x, (F x).tmps[21]?.getD undef = x 13 := by subst hF; intro x; rfl
        have Pb_14 : ∀ x v, (⟨(F x).tmps.setIfInBounds 22 v, (F x).defers⟩ : Act) = F (upd x 14 v) := by subst hF; intro x v; rfl
        have Eb_14 : ∀ x, (F x).tmps[22]?.getD undef = x 14 := by subst hF; intro x; rfl
        have Pb_15 : ∀ x v, (⟨(F x).tmps.setIfInBounds 23 v, (F x).defers⟩ : Act) = F (upd x 15 v) := by subst hF; intro x v; rfl
        have Eb_15 : ∀ x, (F x).tmps[23]?.getD undef = x 15 := by subst hF; intro x; rfl
        have Pb_16 : ∀ x v, (⟨(F x).tmps.setIfInBounds 24 v, (F x).defers⟩ : Act) = F (upd x 16 v) := by subst hF; intro x v; rfl
        have Eb_16 : ∀ x, (F x).tmps[24]?.getD undef = x 16 := by subst hF; intro x; rfl
        have Pb_17 : ∀ x v, (⟨(F x).tmps.setIfInBounds 25 v, (F x).defers⟩ : Act) = F (upd x 17 v) := by subst hF; intro x v; rfl
        have Eb_17 : ∀ x, (F x).tmps[25]?.getD undef = x 17 := by subst hF; intro x; rfl
        have Pb_18 : ∀ x v, (⟨(F x).tmps.setIfInBounds 26 v, (F x).defers⟩ : Act) = F (upd x 18 v) := by subst hF; intro x v; rfl
        have Eb_18 : ∀ x, (F x).tmps[26]?.getD undef = x 18 := by subst hF; intro x; rfl
        have Pb_19 : ∀ x v, (⟨(F x).tmps.setIfInBounds 27 v, (F x).defers⟩ : Act) = F (upd x 19 v) := by subst hF; intro x v; rfl
        have Eb_19 : ∀ x, (F x).tmps[27]?.getD undef = x 19 := by subst hF; intro x; rfl
        have Pb_20 : ∀ x v, (⟨(F x).tmps.setIfInBounds 28 v, (F x).defers⟩ : Act) = F (upd x 20 v) := by subst hF; intro x v; rfl
        have Eb_20 : ∀ x, (F x).tmps[28]?.getD undef = x 20 := by subst hF; intro x; rfl
        have Pb_21 : ∀ x v, (⟨(F x).tmps.setIfInBounds 29 v, (F x).defers⟩ : Act) = F (upd x 21 v) := by subst hF; intro x v; rfl
        have Eb_21 : ∀ x, (F x).tmps[29]?.getD undef = x 21 := by subst hF; intro x; rfl
        have Pb_22 : ∀ x v, (⟨(F x).tmps.setIfInBounds 30 v, (F x).defers⟩ : Act) = F (upd x 22 v) := by subst hF; intro x v; rfl
        have Eb_22 : ∀ x, (F x).tmps[30]?.getD undef = x 22 := by subst hF; intro x; rfl
        have Pb_23 : ∀ x v, (⟨(F x).tmps.setIfInBounds 2 v, (F x).defers⟩ : Act) = F (upd x 23 v) := by subst hF; intro x v; rfl
        have Eb_23 : ∀ x, (F x).tmps[2]?.getD undef = x 23 := by subst hF; intro x; rfl
        have Eb_e1 : ∀ x, (F x).tmps[1]?.getD undef = .pointer (some ⟨w.heap.size, 0, none⟩) := by subst hF; intro x; rfl
        clear hF
        simp only [OpAll]
        refine ⟨?_, ?_, ?_, ?_, ?_, ?_, ?_, ?_, ?_, ?_, ?_, ?_, ?_, ?_, ?_, ?_, ?_, ?_, ?_, ?_, ?_, ?_, ?_, ?_, trivial⟩
        · intro rx wx hS hd hu K hK
          clear hu
          simp [Deps, Region.binds] at hd
          go_simp
          exact hK _ _ (Below.refl _ _) hS rfl
        · intro rx wx hS hd hu K hK
          clear hu
          simp [Deps, Region.binds] at hd
          have e1 := cellBel hS Hlt.out c0
          go_simp
          exact hK _ _ (Below.refl _ _) hS rfl
        · intro rx wx hS hd hu K hK
          clear hu
          simp [Deps, Region.binds] at hd
          go_simp
          refine (l6Dec a _ (HB.out.1)).mono ?_
          rintro e w1 ⟨rfl, hb1⟩
          go_simp
          exact hK _ _ hb1 (btr hS hb1) rfl
        · intro rx wx hS hd hu K hK
          clear hu
          simp [Deps, Region.binds] at hd
          go_simp
          exact hK _ _ (Below.refl _ _) hS rfl
        · intro rx wx hS hd hu K hK
          clear hu
          simp [Deps, Region.binds] at hd
          go_simp
          exact hK _ _ (Below.refl _ _) hS rfl
        · intro rx wx hS hd hu K hK
          clear hu
          simp [Deps, Region.binds] at hd
          have e1 := cellBel hS Hlt.out c1
          go_simp
          exact hK _ _ (Below.refl _ _) hS rfl
        · intro rx wx hS hd hu K hK
          clear hu
          simp [Deps, Region.binds] at hd
          go_simp
          refine (l6Dec b _ (HB.out.2.1)).mono ?_
          rintro e w1 ⟨rfl, hb1⟩
          go_simp
          exact hK _ _ hb1 (btr hS hb1) rfl
        · intro rx wx hS hd hu K hK
          clear hu
          simp [Deps, Region.binds] at hd
          go_simp
          exact hK _ _ (Below.refl _ _) hS rfl
        · intro rx wx hS hd hu K hK
          clear hu
          simp [Deps, Region.binds] at hd
          go_simp
          exact hK _ _ (Below.refl _ _) hS rfl
        · intro rx wx hS hd hu K hK
          clear hu
          simp [Deps, Region.binds] at hd
          go_simp
          exact hK _ _ (Below.refl _ _) hS rfl
        · intro rx wx hS hd hu K hK
          clear hu
          simp [Deps, Region.binds] at hd
          have e1 := cellBel hS Hlt.out c2
          go_simp
          exact hK _ _ (Below.refl _ _) hS rfl
        · intro rx wx hS hd hu K hK
          clear hu
          simp [Deps, Region.binds] at hd
          go_simp
          refine (l6Dec c _ (HB.out.2.2.1)).mono ?_
          rintro e w1 ⟨rfl, hb1⟩
          go_simp
          exact hK _ _ hb1 (btr hS hb1) rfl
        · intro rx wx hS hd hu K hK
          clear hu
          simp [Deps, Region.binds] at hd
          go_simp
          exact hK _ _ (Below.refl _ _) hS rfl
        · intro rx wx hS hd hu K hK
          clear hu
          simp [Deps, Region.binds] at hd
          go_simp
          exact hK _ _ (Below.refl _ _) hS rfl
        · intro rx wx hS hd hu K hK
          clear hu
          simp [Deps, Region.binds] at hd
          go_simp
          exact hK _ _ (Below.refl _ _) hS rfl
        · intro rx wx hS hd hu K hK
          clear hu
          simp [Deps, Region.binds] at hd
          have e1 := cellBel hS Hlt.out c3
          go_simp
          exact hK _ _ (Below.refl _ _) hS rfl
        · intro rx wx hS hd hu K hK
          clear hu
          simp [Deps, Region.binds] at hd
          go_simp
          refine (l6Dec d _ (HB.out.2.2.2.1)).mono ?_
          rintro e w1 ⟨rfl, hb1⟩
          go_simp
          exact hK _ _ hb1 (btr hS hb1) rfl
        · intro rx wx hS hd hu K hK
          clear hu
          simp [Deps, Region.binds] at hd
          go_simp
          exact hK _ _ (Below.refl _ _) hS rfl
        · intro rx wx hS hd hu K hK
          clear hu
          simp [Deps, Region.binds] at hd
          go_simp
          exact hK _ _ (Below.refl _ _) hS rfl
        · intro rx wx hS hd hu K hK
          clear hu
          simp [Deps, Region.binds] at hd
          go_simp
          exact hK _ _ (Below.refl _ _) hS rfl
        · intro rx wx hS hd hu K hK
          clear hu
          simp [Deps, Region.binds] at hd
          have e1 := cellBel hS Hlt.out c4
          go_simp
          exact hK _ _ (Below.refl _ _) hS rfl
        · intro rx wx hS hd hu K hK
          clear hu
          simp [Deps, Region.binds] at hd
          go_simp
          refine (l6Dec f _ (HB.out.2.2.2.2)).mono ?_
          rintro e w1 ⟨rfl, hb1⟩
          go_simp
          exact hK _ _ hb1 (btr hS hb1) rfl
        · intro rx wx hS hd hu K hK
          clear hu
          simp [Deps, Region.binds] at hd
          go_simp
          exact hK _ _ (Below.refl _ _) hS rfl
        · intro rx wx hS hd hu K hK
          clear hu
          simp [Deps, Region.binds] at hd
          go_simp
          exact hK _ _ (Below.refl _ _) hS rfl
      intro rx w4 hS hv
      have h23 := hv 23 (by decide)
      simp only at h23
      go_wp2
      go_ret
      exact ⟨by rw [Hr.out]; exact congrArg Ending.returned h23, btr Hb4.out hS⟩
    · have Hr : Hid (Pl.ptrPut ⟨pat, birth, size, sum, level⟩ = [45]) := hid (by unfold Pl.ptrPut; rw [if_pos hq1, hq2]; rfl)
      clear hq1 hq2
      go_enter Tryz.func261, Tryz.ntmps261
      go_wp2_with (first | (go_at_call 197; refine (Hok.out _).mono ?_; rintro e w2 ⟨rfl, hb2⟩; have P1 := hid ((Row.new w _ _).below hb2); have d0 := P1.out.get 0 rfl; have d1 := P1.out.get 1 rfl; have d2 := P1.out.get 2 rfl; have d3 := P1.out.get 3 rfl; have d4 := P1.out.get 4 rfl; have Hb3 := hid hb2; clear hb2) | (go_at_call 123; refine (Hho.out _).mono ?_; rintro e w3 ⟨rfl, hb4⟩))
      go_ret
      exact ⟨by rw [Hr.out]; rfl, btr (btr (bnew _ _) Hb3.out) hb4⟩
theorem at_three {w : World} {T : TypeId} (x y z : Str) (hx : x.length ≤ big) (hy : y.length ≤ big) (hz : z.length ≤ big) :
    At (w.alloc (.cells #[.string ⟨x.toArray⟩, .string ⟨y.toArray⟩, .string ⟨z.toArray⟩] T)) (w.alloc (.cells #[.string ⟨x.toArray⟩, .string ⟨y.toArray⟩, .string ⟨z.toArray⟩] T)).heap.size (some ⟨w.heap.size, 0, none⟩) [x, y, z] := by
  intro _
  refine ⟨w.heap.size, 0, rfl, by simp, fun i s hi => ?_⟩
  match i, hi with
  | 0, hi => simp only [List.getElem?_cons_zero, Option.some.injEq] at hi; subst hi; exact ⟨[vstr x], ⟨rfl, hx⟩, fun j u hj => by match j, hj with | 0, hj => simp at hj; subst hj; simp [vstr]⟩
  | 1, hi => simp only [List.getElem?_cons_zero, List.getElem?_cons_succ, Option.some.injEq] at hi; subst hi; exact ⟨[vstr y], ⟨rfl, hy⟩, fun j u hj => by match j, hj with | 0, hj => simp at hj; subst hj; simp [vstr, Rep.size]⟩
  | 2, hi => simp only [List.getElem?_cons_zero, List.getElem?_cons_succ, Option.some.injEq] at hi; subst hi; exact ⟨[vstr z], ⟨rfl, hz⟩, fun j u hj => by match j, hj with | 0, hj => simp at hj; subst hj; simp [vstr, Rep.size]⟩
  | i + 3, hi => simp at hi

theorem numPut_len (n : Int) : (Pl.numPut n).length ≤ 9 := by
  unfold Pl.numPut
  split
  · rename_i h; exact Pl.dec_length_le 8 n.toNat (by omega)
  · simp
theorem ptrPut_len (p : Ptr) : (Pl.ptrPut p).length ≤ 60 := by
  unfold Pl.ptrPut
  split
  · rename_i h
    obtain ⟨b1, b2, b3, b4, b5⟩ := Pl.ptrOk_bounds h
    split
    · simp
    · have la := Pl.dec_length_le 9 p.pat.toNat (by omega)
      have lb := Pl.dec_length_le 9 p.birth.toNat (by omega)
      have lc := Pl.dec_length_le 9 p.size.toNat (by omega)
      have ld := Pl.dec_length_le 9 p.sum.toNat (by omega)
      have lf := Pl.dec_length_le 9 p.level.toNat (by omega)
      simp [Pl.ptrText, Pl.dots]; omega
  · simp

set_option maxRecDepth 100000 in
set_option maxHeartbeats 1000000 in
theorem spTree (t : Tree) (w : World) (h1 : 0 ≤ t.depth ∧ t.depth ≤ 4294967296) (h2 : 0 ≤ t.many ∧ t.many ≤ 4294967296) :
    Calls Tryz.prog 290 #[vtree t] w fun e w' => ∃ A c, e = .returned (.slice A (Pl.treeFields t).length c) ∧ At w' w'.heap.size A (Pl.treeFields t) ∧ Below w.heap.size w w' := by
  have Hpp := hid (spPtrPut t.root)
  have Hn1 := hid (fun w => spNumPut t.depth w h1.1 h1.2)
  have Hn2 := hid (fun w => spNumPut t.many w h2.1 h2.2)
  have hl1 := ptrPut_len t.root
  have hl2 := numPut_len t.depth
  have hl3 := numPut_len t.many
  have Hf : Hid (Pl.treeFields t = [Pl.ptrPut t.root, Pl.numPut t.depth, Pl.numPut t.many]) := hid rfl
  rw [Hf.out]
  generalize Pl.ptrPut t.root = x at *
  generalize Pl.numPut t.depth = y at *
  generalize Pl.numPut t.many = z at *
  clear Hf
  have Hl := hid (show x.length ≤ big ∧ y.length ≤ big ∧ z.length ≤ big by unfold big; omega)
  clear h1 h2 hl1 hl2 hl3
  obtain ⟨⟨pat, birth, size, sum, level⟩, depth, many⟩ := t
  unfold vtree vptr at *
  dsimp only at *
  go_enter Tryz.func290, Tryz.ntmps290
  go_wp2
  have RB := hid (Row.new w #[.int .i64 pat, .int .i64 birth, .int .i64 size, .int .i64 sum, .int .i64 level, .int .i64 depth, .int .i64 many] 56)
  have HB := hid (bnew w (.cells #[.int .i64 pat, .int .i64 birth, .int .i64 size, .int .i64 sum, .int .i64 level, .int .i64 depth, .int .i64 many] 56))
  generalize w.alloc (.cells #[.int .i64 pat, .int .i64 birth, .int .i64 size, .int .i64 sum, .int .i64 level, .int .i64 depth, .int .i64 many] 56) = wb at *
  refine wp_region_F (P := Tryz.prog) follows_mixed (by kernel_rfl) (fun rx => ⟨#[.agg #[.int .i64 pat, .int .i64 birth, .int .i64 size, .int .i64 sum, .int .i64 level, .int .i64 depth, .int .i64 many], .pointer (some ⟨w.heap.size, 0, none⟩), rx 10, rx 0, rx 1, rx 2, rx 3, rx 4, rx 5, rx 6, rx 7, rx 8, rx 9], []⟩) (fun j => ([undef, undef, undef, undef, undef, undef, undef, undef, undef, undef, .slice none 0 0] : List Value).getD j undef) (fun j v wx => match j with | 0 => v = .pointer (some ⟨w.heap.size, 0, none⟩) | 1 => v = .agg #[.int .i64 pat, .int .i64 birth, .int .i64 size, .int .i64 sum, .int .i64 level] | 2 => v = .string ⟨x.toArray⟩ | 3 => v = .pointer (some ⟨w.heap.size, 5, none⟩) | 4 => v = .int .i64 depth | 5 => v = .string ⟨y.toArray⟩ | 6 => v = .pointer (some ⟨w.heap.size, 6, none⟩) | 7 => v = .int .i64 many | 8 => v = .string ⟨z.toArray⟩ | 9 => ∃ A c, v = .slice A 3 c ∧ At wx wx.heap.size A [x, y, z] | 10 => ∃ A c, v = .slice A 3 c ∧ At wx wx.heap.size A [x, y, z] | _ => True) (fun wx => Below wb.heap.size wb wx) (fun wx wy => Below wx.heap.size wx wy) ?hVb ?hSb ?hopb ?hendb
  case hVb =>
    intro j v wx wy h hR
    match j, h with
    | 0, h => exact h
    | 1, h => exact h
    | 2, h => exact h
    | 3, h => exact h
    | 4, h => exact h
    | 5, h => exact h
    | 6, h => exact h
    | 7, h => exact h
    | 8, h => exact h
    | 9, h => (obtain ⟨A, c, h1, h2⟩ := h; exact ⟨A, c, h1, h2.up hR⟩)
    | 10, h => (obtain ⟨A, c, h1, h2⟩ := h; exact ⟨A, c, h1, h2.up hR⟩)
    | _ + 11, _ => exact trivial
  case hSb => exact (bdr (Below.refl _ _) : Below wb.heap.size wb wb.drew)
  case hopb =>
    intro F hF
    have Pb_0 : ∀ x v, (⟨(F x).tmps.setIfInBounds 3 v, (F x).defers⟩ : Act) = F (upd x 0 v) := by subst hF; intro x v; rfl
    have Eb_0 : ∀ x, (F x).tmps[3]?.getD undef = x 0 := by subst hF; intro x; rfl
    have Pb_1 : ∀ x v, (⟨(F x).tmps.setIfInBounds 4 v, (F x).defers⟩ : Act) = F (upd x 1 v) := by subst hF; intro x v; rfl
    have Eb_1 : ∀ x, (F x).tmps[4]?.getD undef = x 1 := by subst hF; intro x; rfl
    have Pb_2 : ∀ x v, (⟨(F x).tmps.setIfInBounds 5 v, (F x).defers⟩ : Act) = F (upd x 2 v) := by subst hF; intro x v; rfl
    have Eb_2 : ∀ x, (F x).tmps[5]?.getD undef = x 2 := by subst hF; intro x; rfl
    have Pb_3 : ∀ x v, (⟨(F x).tmps.setIfInBounds 6 v, (F x).defers⟩ : Act) = F (upd x 3 v) := by subst hF; intro x v; rfl
    have Eb_3 : ∀ x, (F x).tmps[6]?.getD undef = x 3 := by subst hF; intro x; rfl
    have Pb_4 : ∀ x v, (⟨(F x).tmps.setIfInBounds 7 v, (F x).defers⟩ : Act) = F (upd x 4 v) := by subst hF; intro x v; rfl
    have Eb_4 : ∀ x, (F x).tmps[7]?.getD undef = x 4 := by subst hF; intro x; rfl
    have Pb_5 : ∀ x v, (⟨(F x).tmps.setIfInBounds 8 v, (F x).defers⟩ : Act) = F (upd x 5 v) := by subst hF; intro x v; rfl
    have Eb_5 : ∀ x, (F x).tmps[8]?.getD undef = x 5 := by subst hF; intro x; rfl
    have Pb_6 : ∀ x v, (⟨(F x).tmps.setIfInBounds 9 v, (F x).defers⟩ : Act) = F (upd x 6 v) := by subst hF; intro x v; rfl
    have Eb_6 : ∀ x, (F x).tmps[9]?.getD undef = x 6 := by subst hF; intro x; rfl
    have Pb_7 : ∀ x v, (⟨(F x).tmps.setIfInBounds 10 v, (F x).defers⟩ : Act) = F (upd x 7 v) := by subst hF; intro x v; rfl
    have Eb_7 : ∀ x, (F x).tmps[10]?.getD undef = x 7 := by subst hF; intro x; rfl
    have Pb_8 : ∀ x v, (⟨(F x).tmps.setIfInBounds 11 v, (F x).defers⟩ : Act) = F (upd x 8 v) := by subst hF; intro x v; rfl
    have Eb_8 : ∀ x, (F x).tmps[11]?.getD undef = x 8 := by subst hF; intro x; rfl
    have Pb_9 : ∀ x v, (⟨(F x).tmps.setIfInBounds 12 v, (F x).defers⟩ : Act) = F (upd x 9 v) := by subst hF; intro x v; rfl
    have Eb_9 : ∀ x, (F x).tmps[12]?.getD undef = x 9 := by subst hF; intro x; rfl
    have Pb_10 : ∀ x v, (⟨(F x).tmps.setIfInBounds 2 v, (F x).defers⟩ : Act) = F (upd x 10 v) := by subst hF; intro x v; rfl
    have Eb_10 : ∀ x, (F x).tmps[2]?.getD undef = x 10 := by subst hF; intro x; rfl
    have Eb_e1 : ∀ x, (F x).tmps[1]?.getD undef = .pointer (some ⟨w.heap.size, 0, none⟩) := by subst hF; intro x; rfl
    clear hF
    simp only [OpAll]
    refine ⟨?_, ?_, ?_, ?_, ?_, ?_, ?_, ?_, ?_, ?_, ?_, trivial⟩
    · intro rx wx hS hd hu K hK
      clear hu
      simp [Deps, Region.binds] at hd
      go_simp
      exact hK _ _ (Below.refl _ _) hS rfl
    · intro rx wx hS hd hu K hK
      clear hu
      simp [Deps, Region.binds] at hd
      have R1 := RB.out.below hS
      have e0 := R1.get 0 rfl; have e1 := R1.get 1 rfl; have e2 := R1.get 2 rfl; have e3 := R1.get 3 rfl; have e4 := R1.get 4 rfl
      go_simp
      exact hK _ _ (Below.refl _ _) hS rfl
    · intro rx wx hS hd hu K hK
      clear hu
      simp [Deps, Region.binds] at hd
      go_simp
      refine (Hpp.out _).mono ?_
      rintro e w1 ⟨rfl, hb1⟩
      go_simp
      exact hK _ _ hb1 (btr hS hb1) rfl
    · intro rx wx hS hd hu K hK
      clear hu
      simp [Deps, Region.binds] at hd
      go_simp
      exact hK _ _ (Below.refl _ _) hS rfl
    · intro rx wx hS hd hu K hK
      clear hu
      simp [Deps, Region.binds] at hd
      have R1 := RB.out.below hS
      have e0 := R1.get 5 rfl
      go_simp
      exact hK _ _ (Below.refl _ _) hS rfl
    · intro rx wx hS hd hu K hK
      clear hu
      simp [Deps, Region.binds] at hd
      go_simp
      refine (Hn1.out _).mono ?_
      rintro e w1 ⟨rfl, hb1⟩
      go_simp
      exact hK _ _ hb1 (btr hS hb1) rfl
    · intro rx wx hS hd hu K hK
      clear hu
      simp [Deps, Region.binds] at hd
      go_simp
      exact hK _ _ (Below.refl _ _) hS rfl
    · intro rx wx hS hd hu K hK
      clear hu
      simp [Deps, Region.binds] at hd
      have R1 := RB.out.below hS
      have e0 := R1.get 6 rfl
      go_simp
      exact hK _ _ (Below.refl _ _) hS rfl
    · intro rx wx hS hd hu K hK
      clear hu
      simp [Deps, Region.binds] at hd
      go_simp
      refine (Hn2.out _).mono ?_
      rintro e w1 ⟨rfl, hb1⟩
      go_simp
      exact hK _ _ hb1 (btr hS hb1) rfl
    · intro rx wx hS hd hu K hK
      clear hu
      simp [Deps, Region.binds] at hd
      go_simp
      exact hK _ _ (bnew _ _) (bal hS _) ⟨_, _, rfl, at_three x y z Hl.out.1 Hl.out.2.1 Hl.out.2.2⟩
    · intro rx wx hS hd hu K hK
      clear hu
      simp [Deps, Region.binds] at hd
      obtain ⟨⟨A, ⟨c, e9⟩, hat⟩, _⟩ := hd
      go_simp
      exact hK _ _ (Below.refl _ _) hS ⟨A, c, rfl, hat⟩
  intro rx w4 hS hv
  obtain ⟨A, c, h10, hat⟩ := hv 10 (by decide)
  go_wp2
  go_ret
  exact ⟨A, c, congrArg Ending.returned h10, hat, btr HB.out hS⟩
end Pm
end Go.Proofs.YtdjkdcokjoiokaaGreatDoor

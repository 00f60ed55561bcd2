/- The reference's numerals, records and checksum: what each returns. -/
import Derived.Test.YtdjkdcokjoiokaaGreatDoorProg
import Derived.Test.YtdjkdcokjoiokaaGreatDoorForget
import Derived.Test.YtdjkdcokjoiokaaGreatDoorPlainB
import Derived.Test.YtdjkdcokjoiokaaGreatDoorRegX
import Derived.WalkKit
import Derived.WalkSpells
import Derived.WalkLawsBesides
import Derived.Deep.QuietTactic
import Derived.BigQuiet
import Derived.Deep.RegionHeld3
import Derived.KernelRfl
namespace Go.Proofs.YtdjkdcokjoiokaaGreatDoor
open Go.RowKit
namespace Pm
open Pl (dec dch)

theorem follows_mixed : Tryz.prog.follows .mixedOrders = true := by kernel_rfl
theorem digit_at (wr : World) (b k : Nat) (hk : k < 10) (d : Int) (hd : d = 48 + (k : Int)) (hc : wr.cell? ⟨b, 0, none⟩ = some (.int .u8 d)) :
    (convert 197 9 (.slice (some ⟨b, 0, none⟩) 1 1)).run Tryz.prog wr = .ok (.string ⟨[dch k].toArray⟩) wr := by
  have hv : ((dch k).toNat : Int) = d := by rw [Pl.dch_toNat hk, hd]; omega
  have := run_convert_bytes_back (P := Tryz.prog) wr 197 9 5 ⟨b, 0, none⟩ 1 [dch k] Tryz.underlying197 Tryz.underlying5 Tryz.underlying9 (by
    intro j hj
    have : j = 0 := by simp at hj; exact hj
    subst this
    simp only [Addr.add, List.getElem_cons_zero, if_true]
    rw [hv]
    exact hc)
  simpa using this
theorem digit_conv (wr : World) (k : Nat) (hk : k < 10) (d : Int) (hd : d = 48 + (k : Int)) :
    (convert 197 9 (.slice (some ⟨wr.heap.size, 0, none⟩) 1 1)).run Tryz.prog (wr.alloc (.cells #[.int .u8 d] 5)) = .ok (.string ⟨[dch k].toArray⟩) (wr.alloc (.cells #[.int .u8 d] 5)) :=
  digit_at _ _ k hk d hd ((Row.new wr #[.int .u8 d] 5).get 0 rfl)

set_option maxRecDepth 100000 in
set_option maxHeartbeats 800000 in
theorem l6Dec (k : Nat) : ∀ (w : World), k ≤ 4294967296 →
    Calls Tryz.prog 260 #[.int .i64 k] w fun e w' => e = .returned (.string ⟨(dec k).toArray⟩) ∧ Below w.heap.size w w' := by
  induction k using Nat.strongRecOn with
  | _ k ih =>
    intro w hk
    have IH := hid ih
    clear ih
    have hA : decide ((k : Int) < -9223372036854775807) = false := by rw [decide_eq_false_iff_not]; omega
    have hB : decide ((k : Int) < 0) = false := by rw [decide_eq_false_iff_not]; omega
    by_cases h10 : k < 10
    · have hC : decide ((k : Int) < 10) = true := by rw [decide_eq_true_iff]; omega
      have hcv := digit_conv w k h10 (48 + (k : Int)) rfl
      have Hd := hid (Pl.dec_small h10)
      go_enter Tryz.func260, Tryz.ntmps260
      go_wp2_with fail
      go_ret
      exact ⟨by rw [Hd.out]; rfl, bnew _ _⟩
    · have Hd := hid (Pl.dec_big h10)
      have hC : decide ((k : Int) < 10) = false := by rw [decide_eq_false_iff_not]; omega
      have hlt : k / 10 < k := by omega
      have hcv := fun wx => digit_conv wx (k % 10) (by omega) (48 + (k : Int) % 10) (by omega)
      have hba := ba_append (dec (k / 10)) [dch (k % 10)]
      go_enter Tryz.func260, Tryz.ntmps260
      go_wp2_with fail
      clear hA hB hC
      have hw1 := wrap_in ((k : Int) / 10) (by omega) (by omega)
      have hw2 := tmod_in (k : Int) 10 (by omega)
      have hw3 := wrap_in (48 + (k : Int) % 10) (by omega) (by omega)
      have hw4 := wrap_u8 (48 + (k : Int) % 10) (by omega) (by omega)
      have hl := Pl.dec_length_le 9 (k / 10) (by omega)
      have hadd := fun wx => str_add (P := Tryz.prog) (dec (k / 10)) [dch (k % 10)] (by simp only [List.length_singleton]; omega) wx
      clear hba hcv
      refine wp_region_F (P := Tryz.prog) follows_mixed (by kernel_rfl) (fun rx => ⟨#[.int .i64 k, undef, rx 10, .int .i64 k, .bool false, .int .i64 k, .bool false, undef, undef, undef, undef, .int .i64 k, .bool false, undef, undef, undef, undef, undef, rx 0, rx 1, rx 2, rx 3, rx 4, rx 5, rx 6, rx 7, rx 8, rx 9], []⟩) (fun j => ([undef, undef, undef, undef, undef, undef, undef, undef, undef, undef, .string ⟨#[]⟩] : List Value).getD j undef) (fun j v wx => match j with | 0 => v = .int .i64 k | 1 => v = .int .i64 ((k / 10 : Nat) : Int) | 2 => v = .string ⟨(dec (k / 10)).toArray⟩ | 3 => v = .int .i64 k | 4 => v = .int .i64 ((k % 10 : Nat) : Int) | 5 => v = .int .i64 (48 + ((k % 10 : Nat) : Int)) | 6 => v = .int .u8 (48 + ((k % 10 : Nat) : Int)) | 7 => ∃ b, v = .slice (some ⟨b, 0, none⟩) 1 1 ∧ b < wx.heap.size ∧ wx.cell? ⟨b, 0, none⟩ = some (.int .u8 (48 + ((k % 10 : Nat) : Int))) | 8 => v = .string ⟨[dch (k % 10)].toArray⟩ | 9 => v = .string ⟨(dec (k / 10) ++ [dch (k % 10)]).toArray⟩ | 10 => v = .string ⟨(dec (k / 10) ++ [dch (k % 10)]).toArray⟩ | _ => True) (fun wx => Below w.heap.size w wx) (fun wx wy => Below wx.heap.size wx wy) ?hVa ?hSa ?hopa ?henda
      case hVa =>
        intro j v wx wy h hR
        match j, h with
        | 0, h => exact h
        | 1, h => exact h
        | 2, h => exact h
        | 3, h => exact h
        | 4, h => exact h
        | 5, h => exact h
        | 6, h => exact h
        | 8, h => exact h
        | 9, h => exact h
        | 10, h => exact h
        | 7, h => (let ⟨b, h1, h2, h3⟩ := h; exact ⟨b, h1, Nat.lt_of_lt_of_le h2 hR.size, (hR.cell (p := ⟨b, 0, none⟩) h2).trans h3⟩)
        | _ + 11, _ => exact trivial
      case hSa => exact bdr (Below.refl _ _)
      case hopa =>
        intro F hF
        have Pa_0 : ∀ x v, (⟨(F x).tmps.setIfInBounds 18 v, (F x).defers⟩ : Act) = F (upd x 0 v) := by subst hF; intro x v; rfl
        have Ea_0 : ∀ x, (F x).tmps[18]?.getD undef = x 0 := by subst hF; intro x; rfl
        have Pa_1 : ∀ x v, (⟨(F x).tmps.setIfInBounds 19 v, (F x).defers⟩ : Act) = F (upd x 1 v) := by subst hF; intro x v; rfl
        have Ea_1 : ∀ x, (F x).tmps[19]?.getD undef = x 1 := by subst hF; intro x; rfl
        have Pa_2 : ∀ x v, (⟨(F x).tmps.setIfInBounds 20 v, (F x).defers⟩ : Act) = F (upd x 2 v) := by subst hF; intro x v; rfl
        have Ea_2 : ∀ x, (F x).tmps[20]?.getD undef = x 2 := by subst hF; intro x; rfl
        have Pa_3 : ∀ x v, (⟨(F x).tmps.setIfInBounds 21 v, (F x).defers⟩ : Act) = F (upd x 3 v) := by subst hF; intro x v; rfl
        have Ea_3 : ∀ x, (F x).tmps[21]?.getD undef = x 3 := by subst hF; intro x; rfl
        have Pa_4 : ∀ x v, (⟨(F x).tmps.setIfInBounds 22 v, (F x).defers⟩ : Act) = F (upd x 4 v) := by subst hF; intro x v; rfl
        have Ea_4 : ∀ x, (F x).tmps[22]?.getD undef = x 4 := by subst hF; intro x; rfl
        have Pa_5 : ∀ x v, (⟨(F x).tmps.setIfInBounds 23 v, (F x).defers⟩ : Act) = F (upd x 5 v) := by subst hF; intro x v; rfl
        have Ea_5 : ∀ x, (F x).tmps[23]?.getD undef = x 5 := by subst hF; intro x; rfl
        have Pa_6 : ∀ x v, (⟨(F x).tmps.setIfInBounds 24 v, (F x).defers⟩ : Act) = F (upd x 6 v) := by subst hF; intro x v; rfl
        have Ea_6 : ∀ x, (F x).tmps[24]?.getD undef = x 6 := by subst hF; intro x; rfl
        have Pa_7 : ∀ x v, (⟨(F x).tmps.setIfInBounds 25 v, (F x).defers⟩ : Act) = F (upd x 7 v) := by subst hF; intro x v; rfl
        have Ea_7 : ∀ x, (F x).tmps[25]?.getD undef = x 7 := by subst hF; intro x; rfl
        have Pa_8 : ∀ x v, (⟨(F x).tmps.setIfInBounds 26 v, (F x).defers⟩ : Act) = F (upd x 8 v) := by subst hF; intro x v; rfl
        have Ea_8 : ∀ x, (F x).tmps[26]?.getD undef = x 8 := by subst hF; intro x; rfl
        have Pa_9 : ∀ x v, (⟨(F x).tmps.setIfInBounds 27 v, (F x).defers⟩ : Act) = F (upd x 9 v) := by subst hF; intro x v; rfl
        have Ea_9 : ∀ x, (F x).tmps[27]?.getD undef = x 9 := by subst hF; intro x; rfl
        have Pa_10 : ∀ x v, (⟨(F x).tmps.setIfInBounds 2 v, (F x).defers⟩ : Act) = F (upd x 10 v) := by subst hF; intro x v; rfl
        have Ea_10 : ∀ x, (F x).tmps[2]?.getD undef = x 10 := by subst hF; intro x; rfl
        have Ea_e0 : ∀ x, (F x).tmps[0]?.getD undef = .int .i64 k := by subst hF; intro x; rfl
        clear hF
        simp only [OpAll]
        refine ⟨?_, ?_, ?_, ?_, ?_, ?_, ?_, ?_, ?_, ?_, ?_, trivial⟩
        · intro rx wx hS hd hu K hK
          clear hu
          simp [Deps, Region.binds] at hd
          go_simp
          exact hK _ _ (Below.refl _ _) hS (by simp)
        · intro rx wx hS hd hu K hK
          clear hu
          simp [Deps, Region.binds] at hd
          go_simp
          exact hK _ _ (Below.refl _ _) hS (by simp)
        · intro rx wx hS hd hu K hK
          clear hu
          simp [Deps, Region.binds] at hd
          go_simp
          rw [show ((k : Int) / 10) = ((k / 10 : Nat) : Int) from by omega]
          refine (IH.out (k / 10) hlt _ (by omega)).mono ?_
          rintro e w1 ⟨rfl, hb1⟩
          go_simp
          exact hK _ _ hb1 (btr hS hb1) rfl
        · intro rx wx hS hd hu K hK
          clear hu
          simp [Deps, Region.binds] at hd
          go_simp
          exact hK _ _ (Below.refl _ _) hS (by simp)
        · intro rx wx hS hd hu K hK
          clear hu
          simp [Deps, Region.binds] at hd
          go_simp
          exact hK _ _ (Below.refl _ _) hS (by simp)
        · intro rx wx hS hd hu K hK
          clear hu
          simp [Deps, Region.binds] at hd
          go_simp
          exact hK _ _ (Below.refl _ _) hS (by simp)
        · intro rx wx hS hd hu K hK
          clear hu
          simp [Deps, Region.binds] at hd
          go_simp
          exact hK _ _ (Below.refl _ _) hS (by simp)
        · intro rx wx hS hd hu K hK
          clear hu
          simp [Deps, Region.binds] at hd
          go_simp
          exact hK _ _ (bnew _ _) (bal hS _) ⟨_, rfl, by simp, (Row.new wx _ _).get 0 (by simp)⟩
        · intro rx wx hS hd hu K hK
          clear hu
          simp [Deps, Region.binds] at hd
          obtain ⟨b, h1, h2, h3⟩ := hd
          have hcv := digit_at wx b (k % 10) (by omega) (48 + (k : Int) % 10) (by omega) h3
          go_simp
          exact hK _ _ (Below.refl _ _) hS rfl
        · intro rx wx hS hd hu K hK
          clear hu
          simp [Deps, Region.binds] at hd
          go_simp
          exact hK _ _ (Below.refl _ _) hS (by simp)
        · intro rx wx hS hd hu K hK
          clear hu
          simp [Deps, Region.binds] at hd
          go_simp
          exact hK _ _ (Below.refl _ _) hS (by simp)
      intro x w1 hS hv
      have h10 := hv 10 (by decide)
      simp only at h10
      go_wp2
      go_ret
      exact ⟨by rw [Hd.out, ← h10]; rfl, hS⟩

/-- A text and whether there is one, as the program hands them back. -/
def optStr : Option Str → Value
  | some s => .tuple #[.string ⟨s.toArray⟩, .bool true]
  | none => .tuple #[.string ⟨#[]⟩, .bool false]

set_option maxRecDepth 100000 in
set_option maxHeartbeats 800000 in
theorem spFieldsPut (A : Option Addr) (l : List Str) (c : Nat) (w : World) (hl : l.length ≤ big) (h : At w w.heap.size A l) :
    Calls Tryz.prog 258 #[.slice A l.length c] w fun e w' => e = .returned (optStr (Pl.fieldsPut l)) ∧ Below w.heap.size w w' := by
  unfold big at hl
  by_cases h60 : l.length ≤ 60
  · have hA : decide ((l.length : Int) ≤ 60) = true := by rw [decide_eq_true_iff]; omega
    go_enter Tryz.func258, Tryz.ntmps258
    go_wp2
    go_loopw [4, 5] (fun ov iv wr => ∃ (k : Nat) (out : Str), k ≤ l.length ∧ iv = .int .i64 k ∧ ov = .string ⟨out.toArray⟩ ∧ Hid (out = Pl.enc (l.take k)) ∧ out.length ≤ 2048 ∧ Below w.heap.size w wr) (fun _ iv _ => l.length - (intOf iv).toNat)
    case atStart => exact ⟨0, [], by omega, rfl, rfl, hid rfl, by simp, Below.refl _ _⟩
    case round =>
      obtain ⟨k, out, hk, rfl, rfl, Ho, hout, hbel⟩ := hrel
      by_cases hlt : k < l.length
      · obtain ⟨b, off, cs, rfl, hb, hc, hv⟩ := (h.up hbel).elem hlt
        obtain ⟨x, Hx⟩ : ∃ x, Hid (x = l[k]) := ⟨l[k], hid rfl⟩
        rw [← Hx.out] at hc
        obtain ⟨rfl, hs⟩ := str_cells hc
        have e0 := hv 0 _ rfl
        simp only [Rep.size, Nat.add_zero, Nat.mul_one, vstr] at e0
        clear hv hc h hs
        by_cases hx : x.length ≤ 2048
        · have hx' : ¬ (2048 : Int) < x.length := by omega
          have hwr := hid hbel; have hbb := hid hb
          clear hbel hb
          have hltI : (k : Int) < l.length := by omega
          have hdl := Pl.dec_length_le 9 x.length (by omega)
          have hadd1 := fun wx => str_add (P := Tryz.prog) out (dec x.length) (by omega) wx
          have hadd2 := fun wx => str_add (P := Tryz.prog) (out ++ dec x.length) [58] (by simp only [List.length_append, List.length_singleton]; omega) wx
          have hadd3 := fun wx => str_add (P := Tryz.prog) (out ++ (dec x.length ++ [58])) x (by simp only [List.length_append, List.length_singleton]; omega) wx
          have Hdl := hid hdl
          clear hdl
          have Hfin : Hid (out ++ (dec x.length ++ 58 :: x) = Pl.enc (l.take (k + 1))) := hid (by rw [Pl.enc_take l k hlt, ← Ho.out, ← Hx.out]; simp [Pl.item])
          go_wp2_with fail
          refine wp_region_F (P := Tryz.prog) follows_mixed (by kernel_rfl) (fun rx => ⟨#[.slice (some ⟨b, off, none⟩) l.length c, undef, u2, u3, rx 14, .int .i64 ↑k, .int .i64 ↑k, .slice (some ⟨b, off, none⟩) l.length c, .int .i64 ↑l.length, .bool true, .bool true, .slice (some ⟨b, off, none⟩) l.length c, .int .i64 ↑l.length, .bool true, .bool true, u15, u16, .slice (some ⟨b, off, none⟩) l.length c, .int .i64 ↑k, .pointer (some ⟨b, off + k, none⟩), .string ⟨List.toArray x⟩, .int .i64 ↑(List.length x), .bool false, rx 0, rx 1, rx 2, rx 3, rx 4, rx 5, rx 6, rx 7, rx 8, rx 9, rx 10, rx 11, rx 12, rx 13, u37, u38, u39, undef, undef, undef, undef], []⟩) (fun j => ([u23, u24, u25, u26, u27, u28, u29, u30, u31, u32, u33, u34, u35, u36, .string ⟨List.toArray out⟩] : List Value).getD j undef) (fun j v wx => match j with | 0 => v = .string ⟨out.toArray⟩ | 1 => v = .slice (some ⟨b, off, none⟩) l.length c | 2 => v = .int .i64 (k : Int) | 3 => v = .pointer (some ⟨b, off + k, none⟩) | 4 => v = .string ⟨x.toArray⟩ | 5 => v = .int .i64 (x.length : Int) | 6 => v = .string ⟨(dec x.length).toArray⟩ | 7 => v = .string ⟨(out ++ dec x.length).toArray⟩ | 8 => v = .string ⟨(out ++ (dec x.length ++ [58])).toArray⟩ | 9 => v = .slice (some ⟨b, off, none⟩) l.length c | 10 => v = .int .i64 (k : Int) | 11 => v = .pointer (some ⟨b, off + k, none⟩) | 12 => v = .string ⟨x.toArray⟩ | 13 => v = .string ⟨(out ++ (dec x.length ++ 58 :: x)).toArray⟩ | 14 => v = .string ⟨(out ++ (dec x.length ++ 58 :: x)).toArray⟩ | _ => True) (fun wx => Below wr.heap.size wr wx) (fun wx wy => Below wx.heap.size wx wy) ?hVb ?hSb ?hopb ?hendb
          case hVb =>
            intro j v wx wy h hR
            match j, h with
            | 0, h => exact h
            | 1, h => exact h
            | 2, h => exact h
            | 3, h => exact h
            | 4, h => exact h
            | 5, h => exact h
            | 6, h => exact h
            | 7, h => exact h
            | 8, h => exact h
            | 9, h => exact h
            | 10, h => exact h
            | 11, h => exact h
            | 12, h => exact h
            | 13, h => exact h
            | 14, h => exact h
            | _ + 15, _ => exact trivial
          case hSb => exact bdr (Below.refl _ _)
          case hopb =>
            intro F hF
            have Pb_0 : ∀ x v, (⟨(F x).tmps.setIfInBounds 23 v, (F x).defers⟩ : Act) = F (upd x 0 v) := by subst hF; intro x v; rfl
            have Eb_0 : ∀ x, (F x).tmps[23]?.getD undef = x 0 := by subst hF; intro x; rfl
            have Pb_1 : ∀ x v, (⟨(F x).tmps.setIfInBounds 24 v, (F x).defers⟩ : Act) = F (upd x 1 v) := by subst hF; intro x v; rfl
            have Eb_1 : ∀ x, (F x).tmps[24]?.getD undef = x 1 := by subst hF; intro x; rfl
            have Pb_2 : ∀ x v, (⟨(F x).tmps.setIfInBounds 25 v, (F x).defers⟩ : Act) = F (upd x 2 v) := by subst hF; intro x v; rfl
            have Eb_2 : ∀ x, (F x).tmps[25]?.getD undef = x 2 := by subst hF; intro x; rfl
            have Pb_3 : ∀ x v, (⟨(F x).tmps.setIfInBounds 26 v, (F x).defers⟩ : Act) = F (upd x 3 v) := by subst hF; intro x v; rfl
            have Eb_3 : ∀ x, (F x).tmps[26]?.getD undef = x 3 := by subst hF; intro x; rfl
            have Pb_4 : ∀ x v, (⟨(F x).tmps.setIfInBounds 27 v, (F x).defers⟩ : Act) = F (upd x 4 v) := by subst hF; intro x v; rfl
            have Eb_4 : ∀ x, (F x).tmps[27]?.getD undef = x 4 := by subst hF; intro x; rfl
            have Pb_5 : ∀ x v, (⟨(F x).tmps.setIfInBounds 28 v, (F x).defers⟩ : Act) = F (upd x 5 v) := by subst hF; intro x v; rfl
            have Eb_5 : ∀ x, (F x).tmps[28]?.getD undef = x 5 := by subst hF; intro x; rfl
            have Pb_6 : ∀ x v, (⟨(F x).tmps.setIfInBounds 29 v, (F x).defers⟩ : Act) = F (upd x 6 v) := by subst hF; intro x v; rfl
            have Eb_6 : ∀ x, (F x).tmps[29]?.getD undef = x 6 := by subst hF; intro x; rfl
            have Pb_7 : ∀ x v, (⟨(F x).tmps.setIfInBounds 30 v, (F x).defers⟩ : Act) = F (upd x 7 v) := by subst hF; intro x v; rfl
            have Eb_7 : ∀ x, (F x).tmps[30]?.getD undef = x 7 := by subst hF; intro x; rfl
            have Pb_8 : ∀ x v, (⟨(F x).tmps.setIfInBounds 31 v, (F x).defers⟩ : Act) = F (upd x 8 v) := by subst hF; intro x v; rfl
            have Eb_8 : ∀ x, (F x).tmps[31]?.getD undef = x 8 := by subst hF; intro x; rfl
            have Pb_9 : ∀ x v, (⟨(F x).tmps.setIfInBounds 32 v, (F x).defers⟩ : Act) = F (upd x 9 v) := by subst hF; intro x v; rfl
            have Eb_9 : ∀ x, (F x).tmps[32]?.getD undef = x 9 := by subst hF; intro x; rfl
            have Pb_10 : ∀ x v, (⟨(F x).tmps.setIfInBounds 33 v, (F x).defers⟩ : Act) = F (upd x 10 v) := by subst hF; intro x v; rfl
            have Eb_10 : ∀ x, (F x).tmps[33]?.getD undef = x 10 := by subst hF; intro x; rfl
            have Pb_11 : ∀ x v, (⟨(F x).tmps.setIfInBounds 34 v, (F x).defers⟩ : Act) = F (upd x 11 v) := by subst hF; intro x v; rfl
            have Eb_11 : ∀ x, (F x).tmps[34]?.getD undef = x 11 := by subst hF; intro x; rfl
            have Pb_12 : ∀ x v, (⟨(F x).tmps.setIfInBounds 35 v, (F x).defers⟩ : Act) = F (upd x 12 v) := by subst hF; intro x v; rfl
            have Eb_12 : ∀ x, (F x).tmps[35]?.getD undef = x 12 := by subst hF; intro x; rfl
            have Pb_13 : ∀ x v, (⟨(F x).tmps.setIfInBounds 36 v, (F x).defers⟩ : Act) = F (upd x 13 v) := by subst hF; intro x v; rfl
            have Eb_13 : ∀ x, (F x).tmps[36]?.getD undef = x 13 := by subst hF; intro x; rfl
            have Pb_14 : ∀ x v, (⟨(F x).tmps.setIfInBounds 4 v, (F x).defers⟩ : Act) = F (upd x 14 v) := by subst hF; intro x v; rfl
            have Eb_14 : ∀ x, (F x).tmps[4]?.getD undef = x 14 := by subst hF; intro x; rfl
            have Eb_e0 : ∀ x, (F x).tmps[0]?.getD undef = .slice (some ⟨b, off, none⟩) l.length c := by subst hF; intro x; rfl
            have Eb_e5 : ∀ x, (F x).tmps[5]?.getD undef = .int .i64 (k : Int) := by subst hF; intro x; rfl
            clear hF
            simp only [OpAll]
            refine ⟨?_, ?_, ?_, ?_, ?_, ?_, ?_, ?_, ?_, ?_, ?_, ?_, ?_, ?_, ?_, trivial⟩
            · intro rx wx hS hd hu K hK
              have hu14 := hu 14 (by kernel_rfl)
              simp only [List.getD_cons_zero, List.getD_cons_succ] at hu14
              clear hu
              simp [Deps, Region.binds] at hd
              go_simp
              exact hK _ _ (Below.refl _ _) hS rfl
            · intro rx wx hS hd hu K hK
              clear hu
              simp [Deps, Region.binds] at hd
              go_simp
              exact hK _ _ (Below.refl _ _) hS rfl
            · intro rx wx hS hd hu K hK
              clear hu
              simp [Deps, Region.binds] at hd
              go_simp
              exact hK _ _ (Below.refl _ _) hS rfl
            · intro rx wx hS hd hu K hK
              clear hu
              simp [Deps, Region.binds] at hd
              go_simp
              exact hK _ _ (Below.refl _ _) hS rfl
            · intro rx wx hS hd hu K hK
              clear hu
              simp [Deps, Region.binds] at hd
              have e1 := (hS.cell (p := ⟨b, off + k, none⟩) hbb.out).trans e0
              go_simp
              exact hK _ _ (Below.refl _ _) hS rfl
            · intro rx wx hS hd hu K hK
              clear hu
              simp [Deps, Region.binds] at hd
              go_simp
              exact hK _ _ (Below.refl _ _) hS rfl
            · intro rx wx hS hd hu K hK
              clear hu
              simp [Deps, Region.binds] at hd
              go_simp
              refine (l6Dec x.length _ (by omega)).mono ?_
              rintro e w1 ⟨rfl, hb1⟩
              go_simp
              exact hK _ _ hb1 (btr hS hb1) rfl
            · intro rx wx hS hd hu K hK
              clear hu
              simp [Deps, Region.binds] at hd
              go_simp
              exact hK _ _ (Below.refl _ _) hS rfl
            · intro rx wx hS hd hu K hK
              clear hu
              simp [Deps, Region.binds] at hd
              go_simp
              exact hK _ _ (Below.refl _ _) hS rfl
            · intro rx wx hS hd hu K hK
              clear hu
              simp [Deps, Region.binds] at hd
              go_simp
              exact hK _ _ (Below.refl _ _) hS rfl
            · intro rx wx hS hd hu K hK
              clear hu
              simp [Deps, Region.binds] at hd
              go_simp
              exact hK _ _ (Below.refl _ _) hS rfl
            · intro rx wx hS hd hu K hK
              clear hu
              simp [Deps, Region.binds] at hd
              go_simp
              exact hK _ _ (Below.refl _ _) hS rfl
            · intro rx wx hS hd hu K hK
              clear hu
              simp [Deps, Region.binds] at hd
              have e1 := (hS.cell (p := ⟨b, off + k, none⟩) hbb.out).trans e0
              go_simp
              exact hK _ _ (Below.refl _ _) hS rfl
            · intro rx wx hS hd hu K hK
              clear hu
              simp [Deps, Region.binds] at hd
              go_simp
              exact hK _ _ (Below.refl _ _) hS rfl
            · intro rx wx hS hd hu K hK
              clear hu
              simp [Deps, Region.binds] at hd
              go_simp
              exact hK _ _ (Below.refl _ _) hS rfl
          intro rx w1 hS hv
          have h14 := hv 14 (by decide)
          simp only at h14
          go_wp2
          · have hgt : 2048 < out.length + (dec x.length).length + x.length + 1 := by omega
            have hf := hid (Pl.fieldsPut_long (l := l) (k := k + 1) (by rw [← Hfin.out]; simp; omega))
            go_ret2
            exact ⟨by rw [hf.out]; rfl, btr hwr.out hS⟩
          · go_roundw
            case rel => exact ⟨k + 1, _, by omega, by go_num, h14, Hfin.out, by simp; omega, btr hwr.out hS⟩
            case measure => simp [intOf]; omega
        · have hx' : (2048 : Int) < x.length := by omega
          have hf := hid (Pl.fieldsPut_wide hlt (by rw [← Hx.out]; omega))
          clear hx
          go_wp2
          go_ret2
          exact ⟨by rw [hf.out]; rfl, hbel⟩
      · have hk' : k = l.length := by omega
        subst hk'
        rw [List.take_length] at Ho
        have hf := hid (Pl.fieldsPut_ok h60 (by rw [← Ho.out]; exact hout))
        go_wp2
        go_ret2
        exact ⟨by rw [hf.out, ← Ho.out]; rfl, hbel⟩
  · have hf := hid (Pl.fieldsPut_many (l := l) (by omega))
    have hA : decide ((l.length : Int) ≤ 60) = false := by rw [decide_eq_false_iff_not]; omega
    go_enter Tryz.func258, Tryz.ntmps258
    go_wp2
    refine wp_loop_rounds 1 ?_
    rw [rounds_succ]
    go_wp2
    all_goals (go_ret2; exact ⟨by rw [hf.out]; rfl, Below.refl _ _⟩)
end Pm
end Go.Proofs.YtdjkdcokjoiokaaGreatDoor

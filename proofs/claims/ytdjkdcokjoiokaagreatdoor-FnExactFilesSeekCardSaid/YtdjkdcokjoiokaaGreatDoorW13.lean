/- Part 13 of seek_card: contracts, walks, laws; no condition beyond the statement's. -/
import Derived.Test.YtdjkdcokjoiokaaGreatDoorW11
import Derived.Test.YtdjkdcokjoiokaaGreatDoorW12
import Derived.Deep.QuietTactic
import Derived.BigQuiet
import Derived.Deep.RegionHeld3
set_option linter.all false
set_option maxRecDepth 100000
set_option maxHeartbeats 1000000
namespace Go.Proofs.YtdjkdcokjoiokaaGreatDoor
section
open Go.RowKit
namespace Pm
open Pl (dec dch)
theorem follows_mixed : Tryz.prog.follows .mixedOrders = true := by kernel_rfl
theorem Qjp (wr : World) (b k : Nat) (hk : k < 10) (d : Int) (hd : d = 48 + (k : Int)) (hc : wr.cell? ⟨b, 0, none⟩ = some (.int .u8 d)) :
 (convert 197 9 (.slice (some ⟨b, 0, none⟩) 1 1)).run Tryz.prog wr = .ok (.string ⟨[dch k].toArray⟩) wr := by
 have hv : ((dch k).toNat : Int) = d := by rw [Pl.Qda hk, hd]; omega
 have := run_convert_bytes_back (P := Tryz.prog) wr 197 9 5 ⟨b, 0, none⟩ 1 [dch k] Tryz.underlying197 Tryz.underlying5 Tryz.underlying9 (by
  intro j hj;have : j = 0 := by simp at hj; exact hj
  subst this;simp only [Addr.add, List.getElem_cons_zero, if_true];rw [hv]
  exact hc)
 simpa using this
theorem Qga (wr : World) (k : Nat) (hk : k < 10) (d : Int) (hd : d = 48 + (k : Int)) :
 (convert 197 9 (.slice (some ⟨wr.heap.size, 0, none⟩) 1 1)).run Tryz.prog (wr.alloc (.cells #[.int .u8 d] 5)) = .ok (.string ⟨[dch k].toArray⟩) (wr.alloc (.cells #[.int .u8 d] 5)) :=
 Qjp _ _ k hk d hd ((Row.new wr #[.int .u8 d] 5).get 0 rfl)
theorem l6Dec (k : Nat) : ∀ (w : World), k <= 4294967296 ->
 Calls Tryz.prog 260 #[.int .i64 k] w fun e w' => e = .returned (.string ⟨(dec k).toArray⟩) /\ Below w.heap.size w w' := by
 induction k using Nat.strongRecOn with
 |_ k ih =>
  intro w hk;have IH := hid ih;clear ih;have hA : decide ((k : Int) < -9223372036854775807) = false := by rw [decide_eq_false_iff_not]; omega
  have hB : decide ((k : Int) < 0) = false := by rw [decide_eq_false_iff_not]; omega
  by_cases h10 : k < 10
  ·have hC : decide ((k : Int) < 10) = true := by rw [decide_eq_true_iff]; omega
   have hcv := Qga w k h10 (48 + (k : Int)) rfl;have Hd := hid (Pl.QbV h10)
   go_enter Tryz.func260, Tryz.ntmps260
   go_wp2_with fail
   go_ret
   exact ⟨by rw [Hd.out]; rfl, bnew _ _⟩
  ·have Hd := hid (Pl.Qd0 h10)
   have hC : decide ((k : Int) < 10) = false := by rw [decide_eq_false_iff_not]; omega
   have hlt : k / 10 < k := by omega
   have hcv := fun wx => Qga wx (k % 10) (by omega) (48 + (k : Int) % 10) (by omega)
   have hba := Qes (dec (k / 10)) [dch (k % 10)]
   go_enter Tryz.func260, Tryz.ntmps260
   go_wp2_with fail
   clear hA hB hC;have hw1 := Qev ((k : Int) / 10) (by omega) (by omega);have hw2 := tmod_in (k : Int) 10 (by omega);have hw3 := Qev (48 + (k : Int) % 10) (by omega) (by omega);have hw4 := wrap_u8 (48 + (k : Int) % 10) (by omega) (by omega);have hl := Pl.Qbv 9 (k / 10) (by omega);have hadd := fun wx => Qcn (P := Tryz.prog) (dec (k / 10)) [dch (k % 10)] (by simp only [List.length_singleton]; omega) wx
   clear hba hcv;refine Qdf (P := Tryz.prog) follows_mixed (by kernel_rfl) (fun rx => ⟨#[.int .i64 k, undef, rx 10, .int .i64 k, .bool false, .int .i64 k, .bool false, undef, undef, undef, undef, .int .i64 k, .bool false, undef, undef, undef, undef, undef, rx 0, rx 1, rx 2, rx 3, rx 4, rx 5, rx 6, rx 7, rx 8, rx 9], []⟩) (fun j => ([undef, undef, undef, undef, undef, undef, undef, undef, undef, undef, .string ⟨#[]⟩] : List Value).getD j undef) (fun j v wx => match j with | 0 => v = .int .i64 k | 1 => v = .int .i64 ((k / 10 : Nat) : Int) | 2 => v = .string ⟨(dec (k / 10)).toArray⟩ | 3 => v = .int .i64 k | 4 => v = .int .i64 ((k % 10 : Nat) : Int) | 5 => v = .int .i64 (48 + ((k % 10 : Nat) : Int)) | 6 => v = .int .u8 (48 + ((k % 10 : Nat) : Int)) | 7 => ∃ b, v = .slice (some ⟨b, 0, none⟩) 1 1 /\ b < wx.heap.size /\ wx.cell? ⟨b, 0, none⟩ = some (.int .u8 (48 + ((k % 10 : Nat) : Int))) | 8 => v = .string ⟨[dch (k % 10)].toArray⟩ | 9 => v = .string ⟨(dec (k / 10) ++ [dch (k % 10)]).toArray⟩ | 10 => v = .string ⟨(dec (k / 10) ++ [dch (k % 10)]).toArray⟩ | _ => True) (fun wx => Below w.heap.size w wx) (fun wx wy => Below wx.heap.size wx wy) ?hVa ?hSa ?hopa ?henda
   case hVa =>
    intro j v wx wy h hR
    match j, h with
    |0, h => exact h
    |1, h => exact h
    |2, h => exact h
    |3, h => exact h
    |4, h => exact h
    |5, h => exact h
    |6, h => exact h
    |8, h => exact h
    |9, h => exact h
    |10, h => exact h
    |7, h => (let ⟨b, h1, h2, h3⟩ := h; exact ⟨b, h1, Nat.lt_of_lt_of_le h2 hR.size, (hR.cell (p := ⟨b, 0, none⟩) h2).trans h3⟩)
    |_ + 11, _ => exact trivial
   case hSa => exact bdr (Below.refl _ _)
   case hopa =>
    intro F hF;have Pa_0 : ∀ x v, (⟨(F x).tmps.setIfInBounds 18 v, (F x).defers⟩ : Act) = F (upd x 0 v) := by subst hF; intro x v; rfl
    have Ea_0 : ∀ x, (F x).tmps[18]?.getD undef = x 0 := by subst hF; intro x; rfl
    have Pa_1 : ∀ x v, (⟨(F x).tmps.setIfInBounds 19 v, (F x).defers⟩ : Act) = F (upd x 1 v) := by subst hF; intro x v; rfl
    have Ea_1 : ∀ x, (F x).tmps[19]?.getD undef = x 1 := by subst hF; intro x; rfl
    have Pa_2 : ∀ x v, (⟨(F x).tmps.setIfInBounds 20 v, (F x).defers⟩ : Act) = F (upd x 2 v) := by subst hF; intro x v; rfl
    have Ea_2 : ∀ x, (F x).tmps[20]?.getD undef = x 2 := by subst hF; intro x; rfl
    have Pa_3 : ∀ x v, (⟨(F x).tmps.setIfInBounds 21 v, (F x).defers⟩ : Act) = F (upd x 3 v) := by subst hF; intro x v; rfl
    have Ea_3 : ∀ x, (F x).tmps[21]?.getD undef = x 3 := by subst hF; intro x; rfl
    have Pa_4 : ∀ x v, (⟨(F x).tmps.setIfInBounds 22 v, (F x).defers⟩ : Act) = F (upd x 4 v) := by subst hF; intro x v; rfl
    have Ea_4 : ∀ x, (F x).tmps[22]?.getD undef = x 4 := by subst hF; intro x; rfl
    have Pa_5 : ∀ x v, (⟨(F x).tmps.setIfInBounds 23 v, (F x).defers⟩ : Act) = F (upd x 5 v) := by subst hF; intro x v; rfl
    have Ea_5 : ∀ x, (F x).tmps[23]?.getD undef = x 5 := by subst hF; intro x; rfl
    have Pa_6 : ∀ x v, (⟨(F x).tmps.setIfInBounds 24 v, (F x).defers⟩ : Act) = F (upd x 6 v) := by subst hF; intro x v; rfl
    have Ea_6 : ∀ x, (F x).tmps[24]?.getD undef = x 6 := by subst hF; intro x; rfl
    have Pa_7 : ∀ x v, (⟨(F x).tmps.setIfInBounds 25 v, (F x).defers⟩ : Act) = F (upd x 7 v) := by subst hF; intro x v; rfl
    have Ea_7 : ∀ x, (F x).tmps[25]?.getD undef = x 7 := by subst hF; intro x; rfl
    have Pa_8 : ∀ x v, (⟨(F x).tmps.setIfInBounds 26 v, (F x).defers⟩ : Act) = F (upd x 8 v) := by subst hF; intro x v; rfl
    have Ea_8 : ∀ x, (F x).tmps[26]?.getD undef = x 8 := by subst hF; intro x; rfl
    have Pa_9 : ∀ x v, (⟨(F x).tmps.setIfInBounds 27 v, (F x).defers⟩ : Act) = F (upd x 9 v) := by subst hF; intro x v; rfl
    have Ea_9 : ∀ x, (F x).tmps[27]?.getD undef = x 9 := by subst hF; intro x; rfl
    have Pa_10 : ∀ x v, (⟨(F x).tmps.setIfInBounds 2 v, (F x).defers⟩ : Act) = F (upd x 10 v) := by subst hF; intro x v; rfl
    have Ea_10 : ∀ x, (F x).tmps[2]?.getD undef = x 10 := by subst hF; intro x; rfl
    have Ea_e0 : ∀ x, (F x).tmps[0]?.getD undef = .int .i64 k := by subst hF; intro x; rfl
    clear hF;simp only [OpAll];refine ⟨?_, ?_, ?_, ?_, ?_, ?_, ?_, ?_, ?_, ?_, ?_, trivial⟩
    ·intro rx wx hS hd hu K hK
     clear hu;simp [Deps, Region.binds] at hd
     go_simp
     exact hK _ _ (Below.refl _ _) hS (by simp)
    ·intro rx wx hS hd hu K hK
     clear hu;simp [Deps, Region.binds] at hd
     go_simp
     exact hK _ _ (Below.refl _ _) hS (by simp)
    ·intro rx wx hS hd hu K hK
     clear hu;simp [Deps, Region.binds] at hd
     go_simp
     rw [show ((k : Int) / 10) = ((k / 10 : Nat) : Int) from by omega];refine (IH.out (k / 10) hlt _ (by omega)).mono ?_;rintro e w1 ⟨rfl, hb1⟩
     go_simp
     exact hK _ _ hb1 (btr hS hb1) rfl
    ·intro rx wx hS hd hu K hK
     clear hu;simp [Deps, Region.binds] at hd
     go_simp
     exact hK _ _ (Below.refl _ _) hS (by simp)
    ·intro rx wx hS hd hu K hK
     clear hu;simp [Deps, Region.binds] at hd
     go_simp
     exact hK _ _ (Below.refl _ _) hS (by simp)
    ·intro rx wx hS hd hu K hK
     clear hu;simp [Deps, Region.binds] at hd
     go_simp
     exact hK _ _ (Below.refl _ _) hS (by simp)
    ·intro rx wx hS hd hu K hK
     clear hu;simp [Deps, Region.binds] at hd
     go_simp
     exact hK _ _ (Below.refl _ _) hS (by simp)
    ·intro rx wx hS hd hu K hK
     clear hu;simp [Deps, Region.binds] at hd
     go_simp
     exact hK _ _ (bnew _ _) (bal hS _) ⟨_, rfl, by simp, (Row.new wx _ _).get 0 (by simp)⟩
    ·intro rx wx hS hd hu K hK
     clear hu;simp [Deps, Region.binds] at hd;obtain ⟨b, h1, h2, h3⟩ := hd;have hcv := Qjp wx b (k % 10) (by omega) (48 + (k : Int) % 10) (by omega) h3
     go_simp
     exact hK _ _ (Below.refl _ _) hS rfl
    ·intro rx wx hS hd hu K hK
     clear hu;simp [Deps, Region.binds] at hd
     go_simp
     exact hK _ _ (Below.refl _ _) hS (by simp)
    ·intro rx wx hS hd hu K hK
     clear hu;simp [Deps, Region.binds] at hd
     go_simp
     exact hK _ _ (Below.refl _ _) hS (by simp)
   intro x w1 hS hv;have h10 := hv 10 (by decide);simp only at h10
   go_wp2
   go_ret
   exact ⟨by rw [Hd.out, <- h10]; rfl, hS⟩
def optStr : Option Str -> Value
 |some s => .tuple #[.string ⟨s.toArray⟩, .bool true]
 |none => .tuple #[.string ⟨#[]⟩, .bool false]
theorem QhV (A : Option Addr) (l : List Str) (c : Nat) (w : World) (hl : l.length <= big) (h : At w w.heap.size A l) :
 Calls Tryz.prog 258 #[.slice A l.length c] w fun e w' => e = .returned (optStr (Pl.Qb7 l)) /\ Below w.heap.size w w' := by
 unfold big at hl
 by_cases h60 : l.length <= 60
 ·have hA : decide ((l.length : Int) <= 60) = true := by rw [decide_eq_true_iff]; omega
  go_enter Tryz.func258, Tryz.ntmps258
  go_wp2
  go_loopw [4, 5] (fun ov iv wr => ∃ (k : Nat) (out : Str), k <= l.length /\ iv = .int .i64 k /\ ov = .string ⟨out.toArray⟩ /\ Hid (out = Pl.enc (l.take k)) /\ out.length <= 2048 /\ Below w.heap.size w wr) (fun _ iv _ => l.length - (intOf iv).toNat)
  case atStart => exact ⟨0, [], by omega, rfl, rfl, hid rfl, by simp, Below.refl _ _⟩
  case round =>
   obtain ⟨k, out, hk, rfl, rfl, Ho, hout, hbel⟩ := hrel
   by_cases hlt : k < l.length
   ·obtain ⟨b, off, cs, rfl, hb, hc, hv⟩ := (h.up hbel).elem hlt
    obtain ⟨x, Hx⟩ : ∃ x, Hid (x = l[k]) := ⟨l[k], hid rfl⟩;rw [<- Hx.out] at hc;obtain ⟨rfl, hs⟩ := QcA hc;have e0 := hv 0 _ rfl;simp only [Rep.size, Nat.add_zero, Nat.mul_one, vstr] at e0;clear hv hc h hs
    by_cases hx : x.length <= 2048
    ·have hx' : ¬ (2048 : Int) < x.length := by omega
     have hwr := hid hbel; have hbb := hid hb;clear hbel hb;have hltI : (k : Int) < l.length := by omega
     have hdl := Pl.Qbv 9 x.length (by omega);have hadd1 := fun wx => Qcn (P := Tryz.prog) out (dec x.length) (by omega) wx
     have hadd2 := fun wx => Qcn (P := Tryz.prog) (out ++ dec x.length) [58] (by simp only [List.length_append, List.length_singleton]; omega) wx
     have hadd3 := fun wx => Qcn (P := Tryz.prog) (out ++ (dec x.length ++ [58])) x (by simp only [List.length_append, List.length_singleton]; omega) wx
     have Hdl := hid hdl;clear hdl;have Hfin : Hid (out ++ (dec x.length ++ 58 :: x) = Pl.enc (l.take (k + 1))) := hid (by rw [Pl.Qg5 l k hlt, <- Ho.out, <- Hx.out]; simp [Pl.item])
     go_wp2_with fail
     refine Qdf (P := Tryz.prog) follows_mixed (by kernel_rfl) (fun rx => ⟨#[.slice (some ⟨b, off, none⟩) l.length c, undef, u2, u3, rx 14, .int .i64 ↑k, .int .i64 ↑k, .slice (some ⟨b, off, none⟩) l.length c, .int .i64 ↑l.length, .bool true, .bool true, .slice (some ⟨b, off, none⟩) l.length c, .int .i64 ↑l.length, .bool true, .bool true, u15, u16, .slice (some ⟨b, off, none⟩) l.length c, .int .i64 ↑k, .pointer (some ⟨b, off + k, none⟩), .string ⟨List.toArray x⟩, .int .i64 ↑(List.length x), .bool false, rx 0, rx 1, rx 2, rx 3, rx 4, rx 5, rx 6, rx 7, rx 8, rx 9, rx 10, rx 11, rx 12, rx 13, u37, u38, u39, undef, undef, undef, undef], []⟩) (fun j => ([u23, u24, u25, u26, u27, u28, u29, u30, u31, u32, u33, u34, u35, u36, .string ⟨List.toArray out⟩] : List Value).getD j undef) (fun j v wx => match j with | 0 => v = .string ⟨out.toArray⟩ | 1 => v = .slice (some ⟨b, off, none⟩) l.length c | 2 => v = .int .i64 (k : Int) | 3 => v = .pointer (some ⟨b, off + k, none⟩) | 4 => v = .string ⟨x.toArray⟩ | 5 => v = .int .i64 (x.length : Int) | 6 => v = .string ⟨(dec x.length).toArray⟩ | 7 => v = .string ⟨(out ++ dec x.length).toArray⟩ | 8 => v = .string ⟨(out ++ (dec x.length ++ [58])).toArray⟩ | 9 => v = .slice (some ⟨b, off, none⟩) l.length c | 10 => v = .int .i64 (k : Int) | 11 => v = .pointer (some ⟨b, off + k, none⟩) | 12 => v = .string ⟨x.toArray⟩ | 13 => v = .string ⟨(out ++ (dec x.length ++ 58 :: x)).toArray⟩ | 14 => v = .string ⟨(out ++ (dec x.length ++ 58 :: x)).toArray⟩ | _ => True) (fun wx => Below wr.heap.size wr wx) (fun wx wy => Below wx.heap.size wx wy) ?hVb ?hSb ?hopb ?hendb
     case hVb =>
      intro j v wx wy h hR
      match j, h with
      |0, h => exact h
      |1, h => exact h
      |2, h => exact h
      |3, h => exact h
      |4, h => exact h
      |5, h => exact h
      |6, h => exact h
      |7, h => exact h
      |8, h => exact h
      |9, h => exact h
      |10, h => exact h
      |11, h => exact h
      |12, h => exact h
      |13, h => exact h
      |14, h => exact h
      |_ + 15, _ => exact trivial
     case hSb => exact bdr (Below.refl _ _)
     case hopb =>
      intro F hF;have Pb_0 : ∀ x v, (⟨(F x).tmps.setIfInBounds 23 v, (F x).defers⟩ : Act) = F (upd x 0 v) := by subst hF; intro x v; rfl
      have Eb_0 : ∀ x, (F x).tmps[23]?.getD undef = x 0 := by subst hF; intro x; rfl
      have Pb_1 : ∀ x v, (⟨(F x).tmps.setIfInBounds 24 v, (F x).defers⟩ : Act) = F (upd x 1 v) := by subst hF; intro x v; rfl
      have Eb_1 : ∀ x, (F x).tmps[24]?.getD undef = x 1 := by subst hF; intro x; rfl
      have Pb_2 : ∀ x v, (⟨(F x).tmps.setIfInBounds 25 v, (F x).defers⟩ : Act) = F (upd x 2 v) := by subst hF; intro x v; rfl
      have Eb_2 : ∀ x, (F x).tmps[25]?.getD undef = x 2 := by subst hF; intro x; rfl
      have Pb_3 : ∀ x v, (⟨(F x).tmps.setIfInBounds 26 v, (F x).defers⟩ : Act) = F (upd x 3 v) := by subst hF; intro x v; rfl
      have Eb_3 : ∀ x, (F x).tmps[26]?.getD undef = x 3 := by subst hF; intro x; rfl
      have Pb_4 : ∀ x v, (⟨(F x).tmps.setIfInBounds 27 v, (F x).defers⟩ : Act) = F (upd x 4 v) := by subst hF; intro x v; rfl
      have Eb_4 : ∀ x, (F x).tmps[27]?.getD undef = x 4 := by subst hF; intro x; rfl
      have Pb_5 : ∀ x v, (⟨(F x).tmps.setIfInBounds 28 v, (F x).defers⟩ : Act) = F (upd x 5 v) := by subst hF; intro x v; rfl
      have Eb_5 : ∀ x, (F x).tmps[28]?.getD undef = x 5 := by subst hF; intro x; rfl
      have Pb_6 : ∀ x v, (⟨(F x).tmps.setIfInBounds 29 v, (F x).defers⟩ : Act) = F (upd x 6 v) := by subst hF; intro x v; rfl
      have Eb_6 : ∀ x, (F x).tmps[29]?.getD undef = x 6 := by subst hF; intro x; rfl
      have Pb_7 : ∀ x v, (⟨(F x).tmps.setIfInBounds 30 v, (F x).defers⟩ : Act) = F (upd x 7 v) := by subst hF; intro x v; rfl
      have Eb_7 : ∀ x, (F x).tmps[30]?.getD undef = x 7 := by subst hF; intro x; rfl
      have Pb_8 : ∀ x v, (⟨(F x).tmps.setIfInBounds 31 v, (F x).defers⟩ : Act) = F (upd x 8 v) := by subst hF; intro x v; rfl
      have Eb_8 : ∀ x, (F x).tmps[31]?.getD undef = x 8 := by subst hF; intro x; rfl
      have Pb_9 : ∀ x v, (⟨(F x).tmps.setIfInBounds 32 v, (F x).defers⟩ : Act) = F (upd x 9 v) := by subst hF; intro x v; rfl
      have Eb_9 : ∀ x, (F x).tmps[32]?.getD undef = x 9 := by subst hF; intro x; rfl
      have Pb_10 : ∀ x v, (⟨(F x).tmps.setIfInBounds 33 v, (F x).defers⟩ : Act) = F (upd x 10 v) := by subst hF; intro x v; rfl
      have Eb_10 : ∀ x, (F x).tmps[33]?.getD undef = x 10 := by subst hF; intro x; rfl
      have Pb_11 : ∀ x v, (⟨(F x).tmps.setIfInBounds 34 v, (F x).defers⟩ : Act) = F (upd x 11 v) := by subst hF; intro x v; rfl
      have Eb_11 : ∀ x, (F x).tmps[34]?.getD undef = x 11 := by subst hF; intro x; rfl
      have Pb_12 : ∀ x v, (⟨(F x).tmps.setIfInBounds 35 v, (F x).defers⟩ : Act) = F (upd x 12 v) := by subst hF; intro x v; rfl
      have Eb_12 : ∀ x, (F x).tmps[35]?.getD undef = x 12 := by subst hF; intro x; rfl
      have Pb_13 : ∀ x v, (⟨(F x).tmps.setIfInBounds 36 v, (F x).defers⟩ : Act) = F (upd x 13 v) := by subst hF; intro x v; rfl
      have Eb_13 : ∀ x, (F x).tmps[36]?.getD undef = x 13 := by subst hF; intro x; rfl
      have Pb_14 : ∀ x v, (⟨(F x).tmps.setIfInBounds 4 v, (F x).defers⟩ : Act) = F (upd x 14 v) := by subst hF; intro x v; rfl
      have Eb_14 : ∀ x, (F x).tmps[4]?.getD undef = x 14 := by subst hF; intro x; rfl
      have Eb_e0 : ∀ x, (F x).tmps[0]?.getD undef = .slice (some ⟨b, off, none⟩) l.length c := by subst hF; intro x; rfl
      have Eb_e5 : ∀ x, (F x).tmps[5]?.getD undef = .int .i64 (k : Int) := by subst hF; intro x; rfl
      clear hF;simp only [OpAll];refine ⟨?_, ?_, ?_, ?_, ?_, ?_, ?_, ?_, ?_, ?_, ?_, ?_, ?_, ?_, ?_, trivial⟩
      ·intro rx wx hS hd hu K hK
       have hu14 := hu 14 (by kernel_rfl);simp only [List.getD_cons_zero, List.getD_cons_succ] at hu14;clear hu;simp [Deps, Region.binds] at hd
       go_simp
       exact hK _ _ (Below.refl _ _) hS rfl
      ·intro rx wx hS hd hu K hK
       clear hu;simp [Deps, Region.binds] at hd
       go_simp
       exact hK _ _ (Below.refl _ _) hS rfl
      ·intro rx wx hS hd hu K hK
       clear hu;simp [Deps, Region.binds] at hd
       go_simp
       exact hK _ _ (Below.refl _ _) hS rfl
      ·intro rx wx hS hd hu K hK
       clear hu;simp [Deps, Region.binds] at hd
       go_simp
       exact hK _ _ (Below.refl _ _) hS rfl
      ·intro rx wx hS hd hu K hK
       clear hu;simp [Deps, Region.binds] at hd;have e1 := (hS.cell (p := ⟨b, off + k, none⟩) hbb.out).trans e0
       go_simp
       exact hK _ _ (Below.refl _ _) hS rfl
      ·intro rx wx hS hd hu K hK
       clear hu;simp [Deps, Region.binds] at hd
       go_simp
       exact hK _ _ (Below.refl _ _) hS rfl
      ·intro rx wx hS hd hu K hK
       clear hu;simp [Deps, Region.binds] at hd
       go_simp
       refine (l6Dec x.length _ (by omega)).mono ?_;rintro e w1 ⟨rfl, hb1⟩
       go_simp
       exact hK _ _ hb1 (btr hS hb1) rfl
      ·intro rx wx hS hd hu K hK
       clear hu;simp [Deps, Region.binds] at hd
       go_simp
       exact hK _ _ (Below.refl _ _) hS rfl
      ·intro rx wx hS hd hu K hK
       clear hu;simp [Deps, Region.binds] at hd
       go_simp
       exact hK _ _ (Below.refl _ _) hS rfl
      ·intro rx wx hS hd hu K hK
       clear hu;simp [Deps, Region.binds] at hd
       go_simp
       exact hK _ _ (Below.refl _ _) hS rfl
      ·intro rx wx hS hd hu K hK
       clear hu;simp [Deps, Region.binds] at hd
       go_simp
       exact hK _ _ (Below.refl _ _) hS rfl
      ·intro rx wx hS hd hu K hK
       clear hu;simp [Deps, Region.binds] at hd
       go_simp
       exact hK _ _ (Below.refl _ _) hS rfl
      ·intro rx wx hS hd hu K hK
       clear hu;simp [Deps, Region.binds] at hd;have e1 := (hS.cell (p := ⟨b, off + k, none⟩) hbb.out).trans e0
       go_simp
       exact hK _ _ (Below.refl _ _) hS rfl
      ·intro rx wx hS hd hu K hK
       clear hu;simp [Deps, Region.binds] at hd
       go_simp
       exact hK _ _ (Below.refl _ _) hS rfl
      ·intro rx wx hS hd hu K hK
       clear hu;simp [Deps, Region.binds] at hd
       go_simp
       exact hK _ _ (Below.refl _ _) hS rfl
     intro rx w1 hS hv;have h14 := hv 14 (by decide);simp only at h14
     go_wp2
     ·have hgt : 2048 < out.length + (dec x.length).length + x.length + 1 := by omega
      have hf := hid (Pl.QcL (l := l) (k := k + 1) (by rw [<- Hfin.out]; simp; omega))
      go_ret2
      exact ⟨by rw [hf.out]; rfl, btr hwr.out hS⟩
     ·go_roundw
      case rel => exact ⟨k + 1, _, by omega, by go_num, h14, Hfin.out, by simp; omega, btr hwr.out hS⟩
      case measure => simp [intOf]; omega
    ·have hx' : (2048 : Int) < x.length := by omega
     have hf := hid (Pl.QfC hlt (by rw [<- Hx.out]; omega));clear hx
     go_wp2
     go_ret2
     exact ⟨by rw [hf.out]; rfl, hbel⟩
   ·have hk' : k = l.length := by omega
    subst hk';rw [List.take_length] at Ho;have hf := hid (Pl.QeH h60 (by rw [<- Ho.out]; exact hout))
    go_wp2
    go_ret2
    exact ⟨by rw [hf.out, <- Ho.out]; rfl, hbel⟩
 ·have hf := hid (Pl.QdL (l := l) (by omega))
  have hA : decide ((l.length : Int) <= 60) = false := by rw [decide_eq_false_iff_not]; omega
  go_enter Tryz.func258, Tryz.ntmps258
  go_wp2
  refine wp_loop_rounds 1 ?_;rw [rounds_succ]
  go_wp2
  all_goals (go_ret2; exact ⟨by rw [hf.out]; rfl, Below.refl _ _⟩)
end Pm
end
section
open Go.RowKit
namespace Pm
open Pl (inR)
theorem l6In (n a b : Int) (w : World) : Calls Tryz.prog 40 #[.int .i64 n, .int .i64 a, .int .i64 b] w fun e w' => e = .returned (.bool (inR n a b)) /\ w = w' := by
 by_cases h1 : a <= n
 ·by_cases h2 : n <= b
  ·have hf := hid (show inR n a b = true by simp [inR, h1, h2])
   go_enter Tryz.func40, Tryz.ntmps40
   go_wp2
   go_ret
   exact ⟨Qb6 hf.out.symm, rfl⟩
  ·have hf := hid (show inR n a b = false by simp [inR, h2])
   have h3 : b < n := by omega
   clear h2
   go_enter Tryz.func40, Tryz.ntmps40
   go_wp2
   go_ret
   exact ⟨Qb6 (by rw [hf.out, decide_eq_false (by omega)]), rfl⟩
 ·have hf := hid (show inR n a b = false by simp [inR, h1])
  have h3 : n < a := by omega
  clear h1
  go_enter Tryz.func40, Tryz.ntmps40
  go_wp2
  go_ret
  exact ⟨Qb6 hf.out.symm, rfl⟩
end Pm
end
section
open Go.RowKit
namespace Pm
open Pl (dec dch)
theorem spSumOf (s : Str) (w : World) (hs : s.length <= big) :
 Calls Tryz.prog 291 #[.string ⟨s.toArray⟩] w fun e w' => e = .returned (.int .i64 ((Pl.sumOf s : Nat) : Int)) /\ w = w' := by
 unfold big at hs
 go_enter Tryz.func291, Tryz.ntmps291
 go_wp2
 go_loop [3, 4, 5] (fun av bv iv => ∃ k a b : Nat, k <= s.length /\ iv = .int .i64 k /\ av = .int .i64 a /\ bv = .int .i64 b /\ Hid ((a, b) = Pl.sum2 (s.take k)) /\ a < 9973 /\ b < 9973) (fun _ _ iv => s.length - (intOf iv).toNat)
 case atStart => exact ⟨0, 1, 0, by omega, rfl, rfl, rfl, hid rfl, by omega, by omega⟩
 case round =>
  obtain ⟨k, a, b, hk, rfl, rfl, rfl, Hp, ha, hb⟩ := hrel
  by_cases hlt : k < s.length
  ·have hstep : Hid (Pl.sum2 (s.take (k + 1)) = Pl.sumStep (a, b) s[k]) := hid (by rw [List.take_succ_eq_append_getElem hlt, Pl.QgS, <- Hp.out])
   have hltI : (k : Int) < s.length := by omega
   obtain ⟨c, hc, hc256, hck⟩ := Qd3 s k hlt;rw [<- hc] at hstep;have Hc := hid hc;clear hc
   go_wp2
   go_round
   case rel =>
    refine ⟨k + 1, (a + c.toNat + 1) % 9973, (b + (a + c.toNat + 1) % 9973) % 9973, by omega, by go_num, ?_, ?_, hid (by rw [hstep.out]; rfl), Nat.mod_lt _ (by omega), Nat.mod_lt _ (by omega)⟩
    ·go_num
    ·go_num
   case measure => simp [intOf]; omega
  ·have hk' : k = s.length := by omega
   subst hk';rw [List.take_length] at Hp;have hf : Hid (Pl.sumOf s = a * 9973 + b) := hid (by unfold Pl.sumOf; rw [<- Hp.out])
   go_wp2
   go_ret
   exact ⟨QkO (by rw [hf.out]; omega), rfl⟩
theorem notDig {s : Str} {k : Nat} {c : UInt8} (hlt : k < s.length) (hc : c = s[k]) (h : c.toNat < 48 ∨ 57 < c.toNat) : ∀ d, s[k]? = some d -> Pl.isDig d = false := by
 intro d hd;rw [List.getElem?_eq_getElem hlt, <- hc] at hd;injection hd with hd;rw [<- hd];rcases Bool.eq_false_or_eq_true (Pl.isDig c) with h' | h'
 ·rw [Pl.Qc1] at h'; omega
 ·exact h'
theorem spL1Num (s : Str) (w : World) (hs : s.length <= big) :
 Calls Tryz.prog 257 #[.string ⟨s.toArray⟩] w fun e w' => e = .returned (.tuple #[.int .i64 (((Pl.l1num s).1 : Nat) : Int), .int .i64 (((Pl.l1num s).2 : Nat) : Int)]) /\ w = w' := by
 unfold big at hs
 go_enter Tryz.func257, Tryz.ntmps257
 go_wp2
 go_loop [4, 5] (fun nv kv => ∃ k n : Nat, k <= s.length /\ k <= 9 /\ kv = .int .i64 k /\ nv = .int .i64 n /\ n < 1000000000 /\ Hid (n = Pl.val (s.take k)) /\ Hid ((s.take k).all Pl.isDig = true)) (fun _ kv => s.length - (intOf kv).toNat)
 case atStart => exact ⟨0, 0, by omega, by omega, rfl, rfl, by omega, hid rfl, hid rfl⟩
 case round =>
  obtain ⟨k, n, hk, hk9, rfl, rfl, hn, Hn, Ha⟩ := hrel
  have fin : Pl.digs s = s.take k -> Hid ((s.take k).length = k /\ Pl.l1num s = if 1 < k /\ s.head? = some 48 then (0, 1) else (n, k)) := fun hd => hid (by
   have hl : (s.take k).length = k := by rw [List.length_take]; omega
   refine ⟨hl, ?_⟩;unfold Pl.l1num
   rw [hd, hl, <- Hn.out])
  by_cases hlt : k < s.length
  ·obtain ⟨c, hc, hc256, hck⟩ := Qd3 s k hlt
   have Hc := hid hc;have hltI : (k : Int) < s.length := by omega
   by_cases h9 : k < 9
   ·by_cases hlo : 48 <= c.toNat
    ·by_cases hhi : c.toNat <= 57
     ·have hdig : Pl.isDig s[k] = true := by rw [<- hc, Pl.Qc1]; omega
      have hv := Pl.Qmv s k hlt;rw [<- Hn.out, <- hc] at hv;have Hv := hid hv;have Hal : Hid ((s.take (k + 1)).all Pl.isDig = true) := hid (by rw [List.take_succ_eq_append_getElem hlt, List.all_append, Ha.out]; simp [hdig]);have hlt9 := Pl.QkA (s.take (k + 1)) Hal.out;have hlt10 : Pl.val (s.take (k + 1)) < 1000000000 := Nat.lt_of_lt_of_le hlt9 (Nat.le_trans (Nat.pow_le_pow_right (by omega) (show (s.take (k + 1)).length <= 9 by rw [List.length_take]; omega)) (by decide));have Hl10 := hid hlt10;clear hc hv hlt9 fin hdig hlt10
      go_wp2
      go_round
      case rel => exact ⟨k + 1, Pl.val (s.take (k + 1)), by omega, by omega, by go_num, by rw [Hv.out]; unfold Pl.dgt; go_num, Hl10.out, hid rfl, Hal⟩
      case measure => simp [intOf]; omega
     ·have hhi' : 57 < c.toNat := by omega
      clear hhi hc;have Hf := fin (Pl.Qem hk Ha.out hk9 (Or.inr (notDig hlt Hc.out (by omega))));clear fin
      by_cases h1 : 1 < k
      ·obtain ⟨c0, hc0, _, hck0⟩ := Qd3 s 0 (by omega)
       have hh : s.head? = some c0 := by rw [hc0]; cases s with | nil => simp at hk; omega | cons a b => rfl
       by_cases hz : c0.toNat = 48
       ·have hz' : c0 = 48 := by apply UInt8.toNat_inj.1; rw [hz]; rfl
        have Hr : Hid (Pl.l1num s = (0, 1)) := hid (by rw [Hf.out.2, if_pos ⟨h1, by rw [hh, hz']⟩]);have hz1 : ((c0.toNat : Int) == 48) = true := by rw [beq_iff_eq]; omega
        have h1I : (1 : Int) < k := by omega
        have h0I : (0 : Int) < s.length := by omega
        clear hh hz' Hf hc0 hz
        go_wp2
        go_ret2
        exact ⟨by rw [Hr.out]; rfl, rfl⟩
       ·have hz' : c0 ≠ 48 := by intro e; apply hz; rw [e]; rfl
        have Hr : Hid (Pl.l1num s = (n, k)) := hid (by rw [Hf.out.2, if_neg (by rw [hh]; rintro ⟨_, e⟩; exact hz' (by injection e))]);have hz1 : ((c0.toNat : Int) == 48) = false := by rw [beq_eq_false_iff_ne]; omega
        have h1I : (1 : Int) < k := by omega
        have h0I : (0 : Int) < s.length := by omega
        clear hh hz' Hf hc0 hz
        go_wp2
        go_ret2
        exact ⟨by rw [Hr.out]; rfl, rfl⟩
      ·have Hr : Hid (Pl.l1num s = (n, k)) := hid (by rw [Hf.out.2, if_neg (fun h => h1 h.1)])
       have h1I : ¬ (1 : Int) < k := by omega
       clear Hf
       go_wp2
       go_ret2
       exact ⟨by rw [Hr.out]; rfl, rfl⟩
    ·have hlo' : c.toNat < 48 := by omega
     clear hlo hc;have Hf := fin (Pl.Qem hk Ha.out hk9 (Or.inr (notDig hlt Hc.out (by omega))));clear fin
     by_cases h1 : 1 < k
     ·obtain ⟨c0, hc0, _, hck0⟩ := Qd3 s 0 (by omega)
      have hh : s.head? = some c0 := by rw [hc0]; cases s with | nil => simp at hk; omega | cons a b => rfl
      by_cases hz : c0.toNat = 48
      ·have hz' : c0 = 48 := by apply UInt8.toNat_inj.1; rw [hz]; rfl
       have Hr : Hid (Pl.l1num s = (0, 1)) := hid (by rw [Hf.out.2, if_pos ⟨h1, by rw [hh, hz']⟩]);have hz1 : ((c0.toNat : Int) == 48) = true := by rw [beq_iff_eq]; omega
       have h1I : (1 : Int) < k := by omega
       have h0I : (0 : Int) < s.length := by omega
       clear hh hz' Hf hc0 hz
       go_wp2
       go_ret2
       exact ⟨by rw [Hr.out]; rfl, rfl⟩
      ·have hz' : c0 ≠ 48 := by intro e; apply hz; rw [e]; rfl
       have Hr : Hid (Pl.l1num s = (n, k)) := hid (by rw [Hf.out.2, if_neg (by rw [hh]; rintro ⟨_, e⟩; exact hz' (by injection e))]);have hz1 : ((c0.toNat : Int) == 48) = false := by rw [beq_eq_false_iff_ne]; omega
       have h1I : (1 : Int) < k := by omega
       have h0I : (0 : Int) < s.length := by omega
       clear hh hz' Hf hc0 hz
       go_wp2
       go_ret2
       exact ⟨by rw [Hr.out]; rfl, rfl⟩
     ·have Hr : Hid (Pl.l1num s = (n, k)) := hid (by rw [Hf.out.2, if_neg (fun h => h1 h.1)])
      have h1I : ¬ (1 : Int) < k := by omega
      clear Hf
      go_wp2
      go_ret2
      exact ⟨by rw [Hr.out]; rfl, rfl⟩
   ·have h9' : k = 9 := by omega
    clear hc h9;have Hk9 := hid h9';clear h9';have h9I : ¬ (k : Int) < 9 := by have := Hk9.out; omega
    have Hf := fin (Pl.Qem hk Ha.out hk9 (Or.inl Hk9.out));clear fin
    by_cases h1 : 1 < k
    ·obtain ⟨c0, hc0, _, hck0⟩ := Qd3 s 0 (by omega)
     have hh : s.head? = some c0 := by rw [hc0]; cases s with | nil => simp at hk; omega | cons a b => rfl
     by_cases hz : c0.toNat = 48
     ·have hz' : c0 = 48 := by apply UInt8.toNat_inj.1; rw [hz]; rfl
      have Hr : Hid (Pl.l1num s = (0, 1)) := hid (by rw [Hf.out.2, if_pos ⟨h1, by rw [hh, hz']⟩]);have hz1 : ((c0.toNat : Int) == 48) = true := by rw [beq_iff_eq]; omega
      have h1I : (1 : Int) < k := by omega
      have h0I : (0 : Int) < s.length := by omega
      clear hh hz' Hf hc0 hz
      go_wp2
      go_ret2
      exact ⟨by rw [Hr.out]; rfl, rfl⟩
     ·have hz' : c0 ≠ 48 := by intro e; apply hz; rw [e]; rfl
      have Hr : Hid (Pl.l1num s = (n, k)) := hid (by rw [Hf.out.2, if_neg (by rw [hh]; rintro ⟨_, e⟩; exact hz' (by injection e))]);have hz1 : ((c0.toNat : Int) == 48) = false := by rw [beq_eq_false_iff_ne]; omega
      have h1I : (1 : Int) < k := by omega
      have h0I : (0 : Int) < s.length := by omega
      clear hh hz' Hf hc0 hz
      go_wp2
      go_ret2
      exact ⟨by rw [Hr.out]; rfl, rfl⟩
    ·have Hr : Hid (Pl.l1num s = (n, k)) := hid (by rw [Hf.out.2, if_neg (fun h => h1 h.1)])
     have h1I : ¬ (1 : Int) < k := by omega
     clear Hf
     go_wp2
     go_ret2
     exact ⟨by rw [Hr.out]; rfl, rfl⟩
  ·have hlI : ¬ (k : Int) < s.length := by omega
   have Hf := fin (Pl.Qem hk Ha.out hk9 (Or.inr (by intro d hd; rw [List.getElem?_eq_none (by omega)] at hd; cases hd)));clear fin
   by_cases h1 : 1 < k
   ·obtain ⟨c0, hc0, _, hck0⟩ := Qd3 s 0 (by omega)
    have hh : s.head? = some c0 := by rw [hc0]; cases s with | nil => simp at hk; omega | cons a b => rfl
    by_cases hz : c0.toNat = 48
    ·have hz' : c0 = 48 := by apply UInt8.toNat_inj.1; rw [hz]; rfl
     have Hr : Hid (Pl.l1num s = (0, 1)) := hid (by rw [Hf.out.2, if_pos ⟨h1, by rw [hh, hz']⟩]);have hz1 : ((c0.toNat : Int) == 48) = true := by rw [beq_iff_eq]; omega
     have h1I : (1 : Int) < k := by omega
     have h0I : (0 : Int) < s.length := by omega
     clear hh hz' Hf hc0 hz
     go_wp2
     go_ret2
     exact ⟨by rw [Hr.out]; rfl, rfl⟩
    ·have hz' : c0 ≠ 48 := by intro e; apply hz; rw [e]; rfl
     have Hr : Hid (Pl.l1num s = (n, k)) := hid (by rw [Hf.out.2, if_neg (by rw [hh]; rintro ⟨_, e⟩; exact hz' (by injection e))]);have hz1 : ((c0.toNat : Int) == 48) = false := by rw [beq_eq_false_iff_ne]; omega
     have h1I : (1 : Int) < k := by omega
     have h0I : (0 : Int) < s.length := by omega
     clear hh hz' Hf hc0 hz
     go_wp2
     go_ret2
     exact ⟨by rw [Hr.out]; rfl, rfl⟩
   ·have Hr : Hid (Pl.l1num s = (n, k)) := hid (by rw [Hf.out.2, if_neg (fun h => h1 h.1)])
    have h1I : ¬ (1 : Int) < k := by omega
    clear Hf
    go_wp2
    go_ret2
    exact ⟨by rw [Hr.out]; rfl, rfl⟩
def optNat : Option Nat -> Value
 |some n => .tuple #[.int .i64 (n : Int), .bool true]
 |none => .tuple #[.int .i64 0, .bool false]
theorem QiM (s : Str) (w : World) (hs : s.length <= big) :
 Calls Tryz.prog 188 #[.string ⟨s.toArray⟩] w fun e w' => e = .returned (optNat (Pl.numGet s)) /\ w = w' := by
 have HN := hid (Pl.Qhf s);have Hc := hid (spL1Num s w hs);unfold big at hs;generalize Pl.l1num s = p at HN Hc;obtain ⟨n, k⟩ := p
 by_cases h0 : k = 0
 ·subst h0
  have Hr : Hid (Pl.numGet s = none) := hid (by rw [HN.out]; simp);clear HN
  go_enter Tryz.func188, Tryz.ntmps188
  go_wp2_with (go_at_call 257; refine Hc.out.mono ?_; rintro e w' ⟨rfl, rfl⟩)
  go_ret2
  exact ⟨by rw [Hr.out]; rfl, rfl⟩
 ·have hk1 : ((k : Int) == 0) = false := by rw [beq_eq_false_iff_ne]; omega
  by_cases h1 : k = s.length
  ·have Hr : Hid (Pl.numGet s = some n) := hid (by rw [HN.out]; simp [h1]; intro e; apply h0; rw [h1, e]; rfl)
   have hk2 : ((k : Int) == s.length) = true := by rw [beq_iff_eq]; omega
   have hk3 : ((k : Int) != s.length) = false := by rw [bne_eq_false_iff_eq]; omega
   clear h0 h1 HN
   go_enter Tryz.func188, Tryz.ntmps188
   go_wp2_with (go_at_call 257; refine Hc.out.mono ?_; rintro e w' ⟨rfl, rfl⟩)
   go_ret2
   exact ⟨by rw [Hr.out]; rfl, rfl⟩
  ·have Hr : Hid (Pl.numGet s = none) := hid (by rw [HN.out]; simp [h1])
   have hk2 : ((k : Int) == s.length) = false := by rw [beq_eq_false_iff_ne]; omega
   have hk3 : ((k : Int) != s.length) = true := by rw [bne_iff_ne]; omega
   clear h0 h1 HN
   go_enter Tryz.func188, Tryz.ntmps188
   go_wp2_with (go_at_call 257; refine Hc.out.mono ?_; rintro e w' ⟨rfl, rfl⟩)
   go_ret2
   exact ⟨by rw [Hr.out]; rfl, rfl⟩
end Pm
end
section
open Go.RowKit
namespace Pm
open Pl (dec dch inR Ptr hole ptrHole ptrOk)
def vptr (p : Ptr) : Value := .agg #[.int .i64 p.pat, .int .i64 p.birth, .int .i64 p.size, .int .i64 p.sum, .int .i64 p.level]
theorem Qbw {w w1 : World} {cs : Array Value} {t : TypeId} (hb : Below (w.alloc (.cells cs t)).heap.size (w.alloc (.cells cs t)) w1) (i : Nat) (v : Value) (h : cs[i]? = some v) : w1.cell? ⟨w.heap.size, i, none⟩ = some v := by
 rw [hb.cell (p := ⟨w.heap.size, i, none⟩) (by simp)];simpa using h
theorem Qec (p : Ptr) (w : World) : Calls Tryz.prog 123 #[vptr p] w fun e w' => e = .returned (.bool (ptrHole p)) /\ Below w.heap.size w w' := by
 obtain ⟨pat, birth, size, sum, level⟩ := p;unfold vptr;dsimp only
 go_enter Tryz.func123, Tryz.ntmps123
 go_wp2
 all_goals (go_ret; exact ⟨Qb6 (by simp [ptrHole, hole, *]), bnew _ _⟩)
theorem spRow (n : Int) (w : World) : Calls Tryz.prog 270 #[.int .i64 n] w fun e w' => e = .returned (.bool (inR n 8 63)) /\ w = w' := by
 go_enter Tryz.func270, Tryz.ntmps270
 go_wp2_with (go_at_call 40; refine (l6In n 8 63 w).mono ?_; rintro e w' ⟨rfl, rfl⟩)
 go_ret
 exact ⟨rfl, rfl⟩
theorem spPtrOk (p : Ptr) (w : World) : Calls Tryz.prog 197 #[vptr p] w fun e w' => e = .returned (.bool (ptrOk p)) /\ Below w.heap.size w w' := by
 have Hp := hid (Qec p);obtain ⟨pat, birth, size, sum, level⟩ := p;unfold vptr at *
 dsimp only at *
 generalize hq : ptrHole ⟨pat, birth, size, sum, level⟩ = q;have Hq := hid hq;rw [hq] at Hp;clear hq;cases q
 ·have Hd : Hid (ptrOk ⟨pat, birth, size, sum, level⟩ = (inR pat 8 63 && inR birth 1 900 && inR size 1 128 && inR sum 0 99460728 && inR level 0 2)) := hid (by unfold ptrOk; rw [Hq.out]; rfl)
  generalize hq0 : inR pat 8 63 = q0 at Hd;have H1 := hid hq0;clear hq0;generalize hq1 : inR birth 1 900 = q1 at Hd;have H2 := hid hq1;clear hq1;generalize hq2 : inR size 1 128 = q2 at Hd;have H3 := hid hq2;clear hq2;generalize hq3 : inR sum 0 99460728 = q3 at Hd;have H4 := hid hq3;clear hq3;generalize hq4 : inR level 0 2 = q4 at Hd;have H5 := hid hq4;clear hq4;cases q0
  ·have Hr : Hid (ptrOk ⟨pat, birth, size, sum, level⟩ = false) := hid (by rw [Hd.out]; simp)
   go_enter Tryz.func197, Tryz.ntmps197
   go_wp2_with (first | (go_at_call 123; refine (Hp.out _).mono ?_; rintro e w1 ⟨rfl, hb1⟩; have c0 := Qbw hb1 0 _ rfl; have c1 := Qbw hb1 1 _ rfl; have c2 := Qbw hb1 2 _ rfl; have c3 := Qbw hb1 3 _ rfl; have c4 := Qbw hb1 4 _ rfl; have Hb1 := hid hb1; clear hb1) | (go_at_call 270; refine (spRow pat _).mono ?_; rintro e w' ⟨rfl, rfl⟩; rw [H1.out]))
   go_ret
   exact ⟨Qb6 Hr.out.symm, btr (bnew _ _) Hb1.out⟩
  ·cases q1
   ·have Hr : Hid (ptrOk ⟨pat, birth, size, sum, level⟩ = false) := hid (by rw [Hd.out]; simp)
    go_enter Tryz.func197, Tryz.ntmps197
    go_wp2_with (first | (go_at_call 123; refine (Hp.out _).mono ?_; rintro e w1 ⟨rfl, hb1⟩; have c0 := Qbw hb1 0 _ rfl; have c1 := Qbw hb1 1 _ rfl; have c2 := Qbw hb1 2 _ rfl; have c3 := Qbw hb1 3 _ rfl; have c4 := Qbw hb1 4 _ rfl; have Hb1 := hid hb1; clear hb1) | (go_at_call 270; refine (spRow pat _).mono ?_; rintro e w' ⟨rfl, rfl⟩; rw [H1.out]) | (go_at_call 40; refine (l6In _ _ _ _).mono ?_; rintro e w' ⟨rfl, rfl⟩; first | rw [H2.out]))
    go_ret
    exact ⟨Qb6 Hr.out.symm, btr (bnew _ _) Hb1.out⟩
   ·cases q2
    ·have Hr : Hid (ptrOk ⟨pat, birth, size, sum, level⟩ = false) := hid (by rw [Hd.out]; simp)
     go_enter Tryz.func197, Tryz.ntmps197
     go_wp2_with (first | (go_at_call 123; refine (Hp.out _).mono ?_; rintro e w1 ⟨rfl, hb1⟩; have c0 := Qbw hb1 0 _ rfl; have c1 := Qbw hb1 1 _ rfl; have c2 := Qbw hb1 2 _ rfl; have c3 := Qbw hb1 3 _ rfl; have c4 := Qbw hb1 4 _ rfl; have Hb1 := hid hb1; clear hb1) | (go_at_call 270; refine (spRow pat _).mono ?_; rintro e w' ⟨rfl, rfl⟩; rw [H1.out]) | (go_at_call 40; refine (l6In _ _ _ _).mono ?_; rintro e w' ⟨rfl, rfl⟩; first | rw [H2.out] | rw [H3.out]))
     go_ret
     exact ⟨Qb6 Hr.out.symm, btr (bnew _ _) Hb1.out⟩
    ·cases q3
     ·have Hr : Hid (ptrOk ⟨pat, birth, size, sum, level⟩ = false) := hid (by rw [Hd.out]; simp)
      go_enter Tryz.func197, Tryz.ntmps197
      go_wp2_with (first | (go_at_call 123; refine (Hp.out _).mono ?_; rintro e w1 ⟨rfl, hb1⟩; have c0 := Qbw hb1 0 _ rfl; have c1 := Qbw hb1 1 _ rfl; have c2 := Qbw hb1 2 _ rfl; have c3 := Qbw hb1 3 _ rfl; have c4 := Qbw hb1 4 _ rfl; have Hb1 := hid hb1; clear hb1) | (go_at_call 270; refine (spRow pat _).mono ?_; rintro e w' ⟨rfl, rfl⟩; rw [H1.out]) | (go_at_call 40; refine (l6In _ _ _ _).mono ?_; rintro e w' ⟨rfl, rfl⟩; first | rw [H2.out] | rw [H3.out] | rw [H4.out]))
      go_ret
      exact ⟨Qb6 Hr.out.symm, btr (bnew _ _) Hb1.out⟩
     ·cases q4
      ·have Hr : Hid (ptrOk ⟨pat, birth, size, sum, level⟩ = false) := hid (by rw [Hd.out]; simp)
       go_enter Tryz.func197, Tryz.ntmps197
       go_wp2_with (first | (go_at_call 123; refine (Hp.out _).mono ?_; rintro e w1 ⟨rfl, hb1⟩; have c0 := Qbw hb1 0 _ rfl; have c1 := Qbw hb1 1 _ rfl; have c2 := Qbw hb1 2 _ rfl; have c3 := Qbw hb1 3 _ rfl; have c4 := Qbw hb1 4 _ rfl; have Hb1 := hid hb1; clear hb1) | (go_at_call 270; refine (spRow pat _).mono ?_; rintro e w' ⟨rfl, rfl⟩; rw [H1.out]) | (go_at_call 40; refine (l6In _ _ _ _).mono ?_; rintro e w' ⟨rfl, rfl⟩; first | rw [H2.out] | rw [H3.out] | rw [H4.out] | rw [H5.out]))
       go_ret
       exact ⟨Qb6 Hr.out.symm, btr (bnew _ _) Hb1.out⟩
      ·have Hr : Hid (ptrOk ⟨pat, birth, size, sum, level⟩ = true) := hid (by rw [Hd.out]; simp)
       go_enter Tryz.func197, Tryz.ntmps197
       go_wp2_with (first | (go_at_call 123; refine (Hp.out _).mono ?_; rintro e w1 ⟨rfl, hb1⟩; have c0 := Qbw hb1 0 _ rfl; have c1 := Qbw hb1 1 _ rfl; have c2 := Qbw hb1 2 _ rfl; have c3 := Qbw hb1 3 _ rfl; have c4 := Qbw hb1 4 _ rfl; have Hb1 := hid hb1; clear hb1) | (go_at_call 270; refine (spRow pat _).mono ?_; rintro e w' ⟨rfl, rfl⟩; rw [H1.out]) | (go_at_call 40; refine (l6In _ _ _ _).mono ?_; rintro e w' ⟨rfl, rfl⟩; first | rw [H2.out] | rw [H3.out] | rw [H4.out] | rw [H5.out]))
       go_ret
       exact ⟨Qb6 Hr.out.symm, btr (bnew _ _) Hb1.out⟩
 ·go_enter Tryz.func197, Tryz.ntmps197
  go_wp2_with (go_at_call 123; refine (Hp.out _).mono ?_; rintro e w1 ⟨rfl, hb1⟩)
  go_ret
  exact ⟨Qb6 (by unfold ptrOk; rw [Hq.out]; rfl), btr (bnew _ _) hb1⟩
end Pm
end
section
open Go.RowKit
namespace Pl
theorem Qh8 {b : UInt8} {s : Str} {f i : Nat} (hf : f <= i) (hi : i < s.length) (hn : b ∉ (s.drop f).take (i - f)) (hb : s[i] = b) :
 cutB b (s.drop f) = (s.drop f).take (i - f) :: cutB b (s.drop (i + 1)) := by
 have h1 : s.drop f = (s.drop f).take (i - f) ++ b :: s.drop (i + 1) := by
  conv => lhs; rw [<- List.take_append_drop (i - f) (s.drop f)]
  rw [List.drop_drop, show f + (i - f) = i by omega, List.drop_eq_getElem_cons hi, hb]
 rw [h1, QbS _ _ _ hn, <- h1]
theorem QeD {b : UInt8} {s : Str} {f i : Nat} (hf : f <= i) (hi : i < s.length) (hn : b ∉ (s.drop f).take (i - f)) (hb : s[i] ≠ b) : b ∉ (s.drop f).take (i + 1 - f) := by
 have hlt : i - f < (s.drop f).length := by rw [List.length_drop]; omega
 rw [show i + 1 - f = (i - f) + 1 by omega, List.take_succ_eq_append_getElem hlt, List.mem_append, List.mem_singleton];rintro (h | h)
 ·exact hn h
 ·apply hb; rw [h, List.getElem_drop]; congr 1; omega
end Pl
namespace Pm
open Pl (dec dch inR Ptr hole ptrHole ptrOk)
theorem spCut (s : Str) (b : UInt8) (w : World) (hs : s.length <= 1000000000000) :
 Calls Tryz.prog 250 #[.string ⟨s.toArray⟩, .int .u8 b.toNat] w fun e w' => ∃ A c, e = .returned (.slice A (Pl.cutB b s).length c) /\ At w' w'.heap.size A (Pl.cutB b s) /\ Below w.heap.size w w' := by
 have hb256 := UInt8.toNat_lt b
 go_enter Tryz.func250, Tryz.ntmps250
 go_wp2
 go_loopw [5, 6, 7] (fun ov fv iv wr => ∃ (k f : Nat) (out : List Str), k <= s.length /\ f <= k /\ iv = .int .i64 k /\ fv = .int .i64 f /\ wr.ownsRow w.heap.size 9 1 ov out.length (out.map vstr) /\ Hid (Pl.cutB b s = out ++ Pl.cutB b (s.drop f)) /\ Hid (b ∉ (s.drop f).take (k - f)) /\ Hid (∀ x ∈ out, x.length <= s.length) /\ out.length <= f /\ Below w.heap.size w wr) (fun _ _ iv _ => s.length - (intOf iv).toNat)
 case atStart => exact ⟨0, 0, [], by omega, by omega, rfl, rfl, QiW (Nat.le_refl _), hid rfl, hid (by simp), hid (by simp), by simp, bnew _ _⟩
 case round =>
  obtain ⟨k, f, out, hk, hf, rfl, rfl, hown, Ho, Hn, Hx, hlen, hbel⟩ := hrel;have Hown := hid hown;clear hown
  by_cases hlt : k < s.length
  ·have hltI : (k : Int) < s.length := by omega
   obtain ⟨c, hc, hc256, hck⟩ := Qd3 s k hlt;have Hc := hid hc;clear hc
   by_cases hbc : c = b
   ·have hA : ((c.toNat : Int) == (b.toNat : Int)) = true := by rw [hbc, beq_iff_eq]
    have Hs := hid (Pl.Qh8 hf hlt Hn.out (by rw [<- Hc.out, hbc]));have hr1 : 0 <= (f : Int) /\ (f : Int) <= k /\ (k : Int) <= s.length := by omega
    have Hx3 := hid (Qdd s f k);rw [List.drop_take] at Hx3;have Hbc := hid hbc;clear hbc
    go_wp2_with (at_builtin; refine Qct rfl _ _ rfl w.heap.size _ out rfl (Hown.out.alloc _) _ _ ((s.drop f).take (k - f)) rfl ?hc (by omega) (Nat.le_trans hbel.size (by simp)) fun v' w' h1 h2 h3 => ?_; case hc => rw [<- Hx3.out]; simp)
    go_roundw
    case rel =>
     refine ⟨k + 1, k + 1, _, by omega, by omega, by go_num, by go_num, h1, hid (by rw [Ho.out, Hs.out]; simp), hid (by simp), hid ?_, by simp; omega, (bal hbel _).trans h2⟩;intro x hx;rw [List.mem_append, List.mem_singleton] at hx;rcases hx with hx | rfl
     ·exact Hx.out x hx
     ·rw [List.length_take, List.length_drop]; omega
    case measure => simp only [intOf]; omega
   ·have hA : ((c.toNat : Int) == (b.toNat : Int)) = false := by
     rw [beq_eq_false_iff_ne]; intro e; apply hbc; apply UInt8.toNat_inj.1; exact Int.ofNat.inj e
    have Hbc := hid hbc;clear hbc
    go_wp2_with fail
    go_roundw
    case rel =>
     exact ⟨k + 1, f, out, by omega, by omega, by go_num, rfl, Hown.out, Ho, hid (Pl.QeD hf hlt Hn.out (by rw [<- Hc.out]; exact Hbc.out)), Hx, hlen, hbel⟩
    case measure => simp only [intOf]; omega
  ·have hks : k = s.length := by omega
   subst hks;have Hx3 := hid (Qdd s f s.length);rw [List.take_length] at Hx3
   have Hr : Hid (Pl.cutB b s = out ++ [s.drop f]) := hid (by
    rw [Ho.out, Pl.Qcx];have h := Hn.out
    rwa [List.take_of_length_le (by simp)] at h)
   have hr1 : 0 <= (f : Int) /\ (f : Int) <= s.length := by omega
   go_wp2_with (at_builtin; refine Qct rfl _ _ rfl w.heap.size _ out rfl (Hown.out.alloc _) _ _ (s.drop f) rfl ?hc (by omega) (Nat.le_trans hbel.size (by simp)) fun v' w' h1 h2 h3 => ?_; case hc => rw [<- Hx3.out]; simp)
   rw [<- Hr.out] at h1
   obtain ⟨A, c, rfl, hat⟩ := Qic h1 (by
    rw [Hr.out];intro x hx;rw [List.mem_append, List.mem_singleton] at hx;unfold big;rcases hx with hx | rfl
    ·have := Hx.out x hx; omega
    ·rw [List.length_drop]; omega) (by rw [Hr.out]; unfold big; simp; omega)
   go_ret
   exact ⟨A, c, rfl, hat, (bal hbel _).trans h2⟩
end Pm
end
section
open Go.RowKit
namespace Pl
def QbZ (i : Nat) (n last : Int) : Bool := inR last 0 900 && inR n 0 last && !(decide (n = 0) && decide (last ≠ 0)) && !(!(inR i 8 63) && decide (0 < n))
def QbQ (refs last : List Int) : Nat -> Bool := fun i => QbZ i (refs.getD i 0) (last.getD i 0)
def spaceOk (s : List Int × List Int) : Bool := decide (s.1.length = 64) && decide (s.2.length = 64) && (List.range 64).all (QbQ s.1 s.2)
theorem Qb8 {p : Nat -> Bool} {k : Nat} (h : (List.range k).all p = true) (hk : p k = true) : (List.range (k + 1)).all p = true := by
 rw [List.range_succ, List.all_append, h]; simp [hk]
theorem Qb5 {p : Nat -> Bool} {k n : Nat} (hn : k < n) (hk : p k = false) : (List.range n).all p = false := by
 rw [List.all_eq_false]; exact ⟨k, List.mem_range.2 hn, by simp [hk]⟩
end Pl
end
end Go.Proofs.YtdjkdcokjoiokaaGreatDoor

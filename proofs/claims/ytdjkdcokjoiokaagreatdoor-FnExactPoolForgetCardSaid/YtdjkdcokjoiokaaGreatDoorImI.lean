/- The program's signed records and texts of roots. -/
import Derived.Test.YtdjkdcokjoiokaaGreatDoorImH
namespace Go.Proofs.YtdjkdcokjoiokaaGreatDoor
open Go.RowKit
namespace Pm
open Pl (dec dch inR Ptr Tree Root hole ptrHole ptrOk noRoot)

theorem numPut_sum (s : Str) : Pl.numPut ((Pl.sumOf s : Nat) : Int) = dec (Pl.sumOf s) := by
  have := Pl.sumOf_le s
  have h := (Pl.nine ((Pl.sumOf s : Nat) : Int) (by omega) (by omega)).2
  rw [h]; simp

set_option maxRecDepth 100000 in
set_option maxHeartbeats 1000000 in
theorem imSigned (v : Value) (l : List Str) (base : Nat) (w : World) (hown : w.ownsRow base 9 1 v l.length (l.map vstr)) (hbase : base ≤ w.heap.size) (hx : ∀ x ∈ l, x.length ≤ 4294967296) (hl : l.length ≤ 1000) (hLb : ∀ w', Below base w w' → Lt w') :
    Calls Tryz.prog 172 #[v] w fun e w' => e = .returned (.string ⟨(Pl.signed l).toArray⟩) ∧ Below base w w' := by
  have HLb := hid hLb
  have hL := hLb w (Below.refl _ _)
  have HL := hid hL
  have Hown := hid hown
  have Hx := hid hx
  obtain ⟨A, c, hv, hat⟩ := owns_at hown (fun x hx' => Nat.le_trans (hx x hx') (by unfold big; omega)) (by unfold big; omega)
  subst hv
  have Hf1 := hid (imFieldsPut A l c w (by unfold big; omega) hat hx hL)
  have Hs := hid (fun w => imSumOf (Pl.fp l) w (by have := fp_len l; unfold big; omega))
  have Hn := hid (fun w (h : Lt w) => imNumPut ((Pl.sumOf (Pl.fp l) : Nat) : Int) w h)
  have Hdl := hid (Pl.dec_length_le 9 (Pl.sumOf (Pl.fp l)) (by have := Pl.sumOf_le (Pl.fp l); omega))
  rw [numPut_sum] at Hn
  have Hsg : Hid (Pl.signed l = (Pl.fieldsPut (l ++ [dec (Pl.sumOf (Pl.fp l))])).getD []) := hid rfl
  have Hf2 := hid (fun A c w => (show At w w.heap.size A (l ++ [dec (Pl.sumOf (Pl.fp l))]) → _ → Lt w → Calls Tryz.prog 246 #[.slice A (l.length + 1) c] w _ by have := imFieldsPut A (l ++ [dec (Pl.sumOf (Pl.fp l))]) c w (by simp [big]; omega); rw [List.length_append, List.length_singleton] at this; exact this))
  have Hfp : Hid ((Pl.fieldsPut l).getD [] = Pl.fp l) := hid rfl
  rw [optStr_eq] at Hf1 Hf2
  rw [Hfp.out] at Hf1
  rw [← Hsg.out] at Hf2
  generalize Pl.signed l = res at *
  generalize hz : Pl.sumOf (Pl.fp l) = sn at *
  generalize Pl.fp l = fpr at *
  generalize (Pl.fieldsPut l).isSome = o1 at *
  generalize hz2 : dec sn = sd at *
  generalize (Pl.fieldsPut (l ++ [sd])).isSome = o2 at *
  have Hlx : Hid (∀ x ∈ l ++ [sd], x.length ≤ 4294967296) := hid (fun x hx' => by
    rcases List.mem_append.1 hx' with hx' | hx'
    · exact hx x hx'
    · rw [List.mem_singleton.1 hx', ← hz2]; have := Hdl.out; rw [hz2] at *; omega)
  have Hll := hid (show (l ++ [sd]).length = l.length + 1 by simp)
  have Hl := hid hl
  have Hb := hid hbase
  clear hx hown hat hL hz hz2 hbase hLb
  go_enter Tryz.func172, Tryz.ntmps172
  go_wp2_with fail
  refine Hf1.out.mono ?_
  rintro e w1 ⟨rfl, hb1⟩
  have Ho1 := hid (owns_below Hown.out hb1)
  have B1 := hid (hb1.mono Hb.out)
  have S1 := hid (Nat.le_trans Hb.out hb1.size)
  have L1 := hid (HL.out.below hb1)
  clear hb1
  go_wp2_with fail
  refine (Hs.out _).mono ?_
  rintro e w1' ⟨rfl, rfl⟩
  go_wp2_with fail
  refine (Hn.out _ L1.out).mono ?_
  rintro e w2 ⟨rfl, hb2⟩
  have Ho2 := hid (owns_below Ho1.out hb2)
  have B2 := hid (B1.out.trans (hb2.mono S1.out))
  have S2 := hid (Nat.le_trans S1.out hb2.size)
  have L2 := hid (L1.out.below hb2)
  clear hb2
  go_wp2_with (at_builtin; refine wpList_app_str rfl _ _ rfl base _ l rfl (Ho2.out.alloc _) _ _ sd rfl ?hc (by have := Hl.out; omega) (Nat.le_trans S2.out (by simp)) fun v' w3 h1 h2 h3 => ?_; (case hc => simp); obtain ⟨A2, c2, hv2, hat2⟩ := owns_at h1 (fun x hx' => Nat.le_trans (Hlx.out x hx') (by unfold big; omega)) (by rw [Hll.out]; have := Hl.out; unfold big; omega); rw [Hll.out] at hv2; subst hv2; have Hat2 := hid hat2; have Hb3 := hid (B2.out.trans (((Below.refl base w2).alloc S2.out _).trans h2)); have S3 := hid h3; clear h1 h2 h3 hat2)
  refine (Hf2.out _ _ _ Hat2.out Hlx.out (HLb.out _ Hb3.out)).mono ?_
  rintro e w4 ⟨rfl, hb4⟩
  go_wp2
  go_ret
  exact ⟨rfl, Hb3.out.trans (hb4.mono S3.out)⟩

section
variable {w2 wx wy : World} {ds : Str} {tf rf : List Str} {D D' : Nat → Bool} {x x' : Nat → Value}
/-- What is kept while a root's record is put together. -/
def RpS (w2 : World) (ds : Str) (tf rf : List Str) (D : Nat → Bool) (x : Nat → Value) (wx : World) : Prop :=
  Below w2.heap.size w2 wx ∧ (D 8 = false → (D 3 = true → ∃ A, x 3 = .slice A 2 2 ∧ At wx wx.heap.size A [[114, 111, 111, 116], ds]) ∧ (D 6 = true → ∃ A c, x 6 = .slice A 3 c ∧ At wx wx.heap.size A tf) ∧ (D 7 = true → wx.ownsRow w2.heap.size 9 1 (x 7) rf.length (rf.map vstr)))
theorem RpS.start : RpS w2 ds tf rf (fun _ => false) x w2.drew := ⟨bdr (Below.refl _ _), fun _ => ⟨fun h => (by cases h), fun h => (by cases h), fun h => (by cases h)⟩⟩
theorem RpS.below (h : RpS w2 ds tf rf D x wx) (hb : Below wx.heap.size wx wy) (e8 : D' 8 = D 8) (e3 : D' 3 = D 3) (e6 : D' 6 = D 6) (e7 : D' 7 = D 7) (x3 : x' 3 = x 3) (x6 : x' 6 = x 6) (x7 : x' 7 = x 7) : RpS w2 ds tf rf D' x' wy := by
  refine ⟨btr h.1 hb, fun h8 => ⟨fun h3 => ?_, fun h6 => ?_, fun h7 => ?_⟩⟩
  · obtain ⟨A, k1, k2⟩ := (h.2 (e8 ▸ h8)).1 (e3 ▸ h3); exact ⟨A, x3.trans k1, k2.up hb⟩
  · obtain ⟨A, c, k1, k2⟩ := (h.2 (e8 ▸ h8)).2.1 (e6 ▸ h6); exact ⟨A, c, x6.trans k1, k2.up hb⟩
  · rw [x7]; exact owns_below ((h.2 (e8 ▸ h8)).2.2 (e7 ▸ h7)) hb
theorem RpS.set3 (h : RpS w2 ds tf rf D x wx) (hb : Below wx.heap.size wx wy) (e8 : D' 8 = D 8) (e6 : D' 6 = D 6) (e7 : D' 7 = D 7) (x6 : x' 6 = x 6) (x7 : x' 7 = x 7) (hn : ∃ A, x' 3 = .slice A 2 2 ∧ At wy wy.heap.size A [[114, 111, 111, 116], ds]) : RpS w2 ds tf rf D' x' wy := by
  refine ⟨btr h.1 hb, fun h8 => ⟨fun _ => hn, fun h6 => ?_, fun h7 => ?_⟩⟩
  · obtain ⟨A, c, k1, k2⟩ := (h.2 (e8 ▸ h8)).2.1 (e6 ▸ h6); exact ⟨A, c, x6.trans k1, k2.up hb⟩
  · rw [x7]; exact owns_below ((h.2 (e8 ▸ h8)).2.2 (e7 ▸ h7)) hb
theorem RpS.set6 (h : RpS w2 ds tf rf D x wx) (hb : Below wx.heap.size wx wy) (e8 : D' 8 = D 8) (e3 : D' 3 = D 3) (e7 : D' 7 = D 7) (x3 : x' 3 = x 3) (x7 : x' 7 = x 7) (hn : ∃ A c, x' 6 = .slice A 3 c ∧ At wy wy.heap.size A tf) : RpS w2 ds tf rf D' x' wy := by
  refine ⟨btr h.1 hb, fun h8 => ⟨fun h3 => ?_, fun _ => hn, fun h7 => ?_⟩⟩
  · obtain ⟨A, k1, k2⟩ := (h.2 (e8 ▸ h8)).1 (e3 ▸ h3); exact ⟨A, x3.trans k1, k2.up hb⟩
  · rw [x7]; exact owns_below ((h.2 (e8 ▸ h8)).2.2 (e7 ▸ h7)) hb
theorem RpS.set7 (h : RpS w2 ds tf rf D x wx) (hb : Below wx.heap.size wx wy) (e8 : D' 8 = D 8) (e3 : D' 3 = D 3) (e6 : D' 6 = D 6) (x3 : x' 3 = x 3) (x6 : x' 6 = x 6) (hn : wy.ownsRow w2.heap.size 9 1 (x' 7) rf.length (rf.map vstr)) : RpS w2 ds tf rf D' x' wy := by
  refine ⟨btr h.1 hb, fun h8 => ⟨fun h3 => ?_, fun h6 => ?_, fun _ => hn⟩⟩
  · obtain ⟨A, k1, k2⟩ := (h.2 (e8 ▸ h8)).1 (e3 ▸ h3); exact ⟨A, x3.trans k1, k2.up hb⟩
  · obtain ⟨A, c, k1, k2⟩ := (h.2 (e8 ▸ h8)).2.1 (e6 ▸ h6); exact ⟨A, c, x6.trans k1, k2.up hb⟩
theorem RpS.set8 (h : RpS w2 ds tf rf D x wx) (hb : Below w2.heap.size wx wy) (e8 : D' 8 = true) : RpS w2 ds tf rf D' x' wy := ⟨h.1.trans hb, fun e => (by rw [e8] at e; cases e)⟩
end

set_option maxRecDepth 100000 in
set_option maxHeartbeats 1000000 in
theorem imRootPut (r : Root) (w : World) (hL : Lt w) : Calls Tryz.prog 104 #[vroot r] w fun e w' => e = .returned (.string ⟨(Pl.rootPut r).toArray⟩) ∧ Below w.heap.size w w' := by
  have HL := hid hL
  have Hok := hid (imRootOk r)
  clear hL
  generalize hq1 : Pl.rootOk r = q1 at Hok
  cases q1
  · have Hr : Hid (Pl.rootPut r = []) := hid (by unfold Pl.rootPut; rw [if_neg (by rw [hq1]; simp)])
    clear hq1
    obtain ⟨txg, ⟨⟨pat, birth, size, sum, level⟩, depth, many⟩⟩ := r
    unfold vroot at *
    dsimp only at *
    go_enter Tryz.func104, Tryz.ntmps104
    go_wp2_with (go_at_call 171; refine (Hok.out _).mono ?_; rintro e w2 ⟨rfl, hb2⟩)
    go_ret
    exact ⟨by rw [Hr.out]; rfl, btr (bnew _ _) hb2⟩
  · have Hr : Hid (Pl.rootPut r = Pl.signed (Pl.rootFields r)) := hid (by unfold Pl.rootPut; rw [if_pos hq1])
    obtain ⟨b1, _, b3, b4⟩ := Pl.rootOk_bounds hq1
    clear hq1
    have Ht := hid (fun w h => imTree r.tree w (by unfold InI; omega) (by unfold InI; omega) h)
    have Hd1 := hid (fun w (h : Lt w) => imNumPut r.txg w h)
    have Hdl1 := hid (numPut_len r.txg)
    have Hl := hid (fields_len r)
    have htl := hid (show (Pl.treeFields r.tree).length = 3 from rfl)
    have Htl := hid (show ∀ x ∈ Pl.treeFields r.tree, x.length ≤ big from fun x hx => Nat.le_trans (Hl.out x (List.mem_cons_of_mem _ (List.mem_cons_of_mem _ hx))) (by unfold big; omega))
    have Hf : Hid (Pl.rootFields r = [[114, 111, 111, 116], Pl.numPut r.txg] ++ Pl.treeFields r.tree) := hid rfl
    have hrl := hid (show (Pl.rootFields r).length = 5 from rfl)
    have Hsg0 := hid (fun base v wx hown hb hL => imSigned v (Pl.rootFields r) base wx hown hb (fun x hx => Nat.le_trans (Hl.out x hx) (by omega)) (by rw [hrl.out]; omega) hL)
    rw [Hr.out]
    generalize Pl.signed (Pl.rootFields r) = res at *
    generalize Pl.rootFields r = rf at *
    generalize Pl.treeFields r.tree = tf at *
    generalize hds : Pl.numPut r.txg = ds at *
    obtain ⟨txg, ⟨⟨pat, birth, size, sum, level⟩, depth, many⟩⟩ := r
    unfold vroot vtree at *
    dsimp only at *
    clear b1 b3 b4 hds Hr
    go_enter Tryz.func104, Tryz.ntmps104
    go_wp2_with (go_at_call 171; refine (Hok.out _).mono ?_; rintro e w2 ⟨rfl, hb2⟩)
    have RB := hid ((Row.new w #[.int .i64 txg, .int .i64 pat, .int .i64 birth, .int .i64 size, .int .i64 sum, .int .i64 level, .int .i64 depth, .int .i64 many] 92).below hb2)
    have Hb2 := hid (btr (bnew w _) hb2)
    have HL2 := hid (HL.out.below Hb2.out)
    have Hsg := hid (Hsg0.out w2.heap.size)
    clear hb2
    refine wp_region_X (P := Tryz.prog) follows_mixed (by kernel_rfl) (fun rx => ⟨#[.agg #[.int .i64 txg, .int .i64 pat, .int .i64 birth, .int .i64 size, .int .i64 sum, .int .i64 level, .int .i64 depth, .int .i64 many], .pointer (some ⟨w.heap.size, 0, none⟩), rx 9, .agg #[.int .i64 txg, .int .i64 pat, .int .i64 birth, .int .i64 size, .int .i64 sum, .int .i64 level, .int .i64 depth, .int .i64 many], .bool true, .bool false, rx 0, rx 1, rx 2, rx 3, rx 4, rx 5, rx 6, rx 7, rx 8], []⟩) (fun j => ([undef, undef, undef, undef, undef, undef, undef, undef, undef, .string ⟨#[]⟩] : List Value).getD j undef) (fun j v wx => match j with | 0 => v = .pointer (some ⟨w.heap.size, 0, none⟩) | 1 => v = .int .i64 txg | 2 => v = .string ⟨ds.toArray⟩ | 3 => True | 4 => v = .pointer (some ⟨w.heap.size, 1, none⟩) | 5 => v = .agg #[.int .i64 pat, .int .i64 birth, .int .i64 size, .int .i64 sum, .int .i64 level, .int .i64 depth, .int .i64 many] | 6 => True | 7 => True | 8 => v = .string ⟨res.toArray⟩ | 9 => v = .string ⟨res.toArray⟩ | _ => True) (fun D x wx => RpS w2 ds tf rf D x wx) (fun wx wy => Below w2.heap.size wx wy) ?hVb ?hSb ?hopb ?hendb
    case hVb =>
      intro j v wx wy h hR
      match j, h with
      | 0, h => exact h
      | 1, h => exact h
      | 2, h => exact h
      | 4, h => exact h
      | 5, h => exact h
      | 8, h => exact h
      | 9, h => exact h
      | 3, h => exact trivial
      | 6, h => exact trivial
      | 7, h => exact trivial
      | _ + 10, _ => exact trivial
    case hSb => exact RpS.start
    case hopb =>
      intro F hF
      have Pb_0 : ∀ x v, (⟨(F x).tmps.setIfInBounds 6 v, (F x).defers⟩ : Act) = F (upd x 0 v) := by subst hF; intro x v; rfl
      have Eb_0 : ∀ x, (F x).tmps[6]?.getD undef = x 0 := by subst hF; intro x; rfl
      have Pb_1 : ∀ x v, (⟨(F x).tmps.setIfInBounds 7 v, (F x).defers⟩ : Act) = F (upd x 1 v) := by subst hF; intro x v; rfl
      have Eb_1 : ∀ x, (F x).tmps[7]?.getD undef = x 1 := by subst hF; intro x; rfl
      have Pb_2 : ∀ x v, (⟨(F x).tmps.setIfInBounds 8 v, (F x).defers⟩ : Act) = F (upd x 2 v) := by subst hF; intro x v; rfl
      have Eb_2 : ∀ x, (F x).tmps[8]?.getD undef = x 2 := by subst hF; intro x; rfl
      have Pb_3 : ∀ x v, (⟨(F x).tmps.setIfInBounds 9 v, (F x).defers⟩ : Act) = F (upd x 3 v) := by subst hF; intro x v; rfl
      have Eb_3 : ∀ x, (F x).tmps[9]?.getD undef = x 3 := by subst hF; intro x; rfl
      have Pb_4 : ∀ x v, (⟨(F x).tmps.setIfInBounds 10 v, (F x).defers⟩ : Act) = F (upd x 4 v) := by subst hF; intro x v; rfl
      have Eb_4 : ∀ x, (F x).tmps[10]?.getD undef = x 4 := by subst hF; intro x; rfl
      have Pb_5 : ∀ x v, (⟨(F x).tmps.setIfInBounds 11 v, (F x).defers⟩ : Act) = F (upd x 5 v) := by subst hF; intro x v; rfl
      have Eb_5 : ∀ x, (F x).tmps[11]?.getD undef = x 5 := by subst hF; intro x; rfl
      have Pb_6 : ∀ x v, (⟨(F x).tmps.setIfInBounds 12 v, (F x).defers⟩ : Act) = F (upd x 6 v) := by subst hF; intro x v; rfl
      have Eb_6 : ∀ x, (F x).tmps[12]?.getD undef = x 6 := by subst hF; intro x; rfl
      have Pb_7 : ∀ x v, (⟨(F x).tmps.setIfInBounds 13 v, (F x).defers⟩ : Act) = F (upd x 7 v) := by subst hF; intro x v; rfl
      have Eb_7 : ∀ x, (F x).tmps[13]?.getD undef = x 7 := by subst hF; intro x; rfl
      have Pb_8 : ∀ x v, (⟨(F x).tmps.setIfInBounds 14 v, (F x).defers⟩ : Act) = F (upd x 8 v) := by subst hF; intro x v; rfl
      have Eb_8 : ∀ x, (F x).tmps[14]?.getD undef = x 8 := by subst hF; intro x; rfl
      have Pb_9 : ∀ x v, (⟨(F x).tmps.setIfInBounds 2 v, (F x).defers⟩ : Act) = F (upd x 9 v) := by subst hF; intro x v; rfl
      have Eb_9 : ∀ x, (F x).tmps[2]?.getD undef = x 9 := by subst hF; intro x; rfl
      have Eb_e1 : ∀ x, (F x).tmps[1]?.getD undef = .pointer (some ⟨w.heap.size, 0, none⟩) := by subst hF; intro x; rfl
      clear hF
      simp only [OpAllX]
      refine ⟨?_, ?_, ?_, ?_, ?_, ?_, ?_, ?_, ?_, ?_, trivial⟩
      · intro D rx wx hS hd hu hx0 hn hni hdn K hK
        clear hu hn hdn
        simp [Deps, Region.binds] at hd
        go_simp
        exact hK _ _ (Below.refl _ _) hS rfl
      · intro D rx wx hS hd hu hx0 hn hni hdn K hK
        clear hu hn hdn
        simp [Deps, Region.binds] at hd
        have R1 := RB.out.below hS.1
        have e0 := R1.get 0 rfl
        go_simp
        exact hK _ _ (Below.refl _ _) hS rfl
      · intro D rx wx hS hd hu hx0 hn hni hdn K hK
        clear hu hn hdn
        simp [Deps, Region.binds] at hd
        go_simp
        refine (Hd1.out _ (HL.out.below (btr Hb2.out hS.1))).mono ?_
        rintro e w1 ⟨rfl, hb1⟩
        go_simp
        exact hK _ _ (hb1.mono hS.1.size) (hS.below hb1 rfl rfl rfl rfl rfl rfl rfl) rfl
      · intro D rx wx hS hd hu hx0 hn hni hdn K hK
        clear hu hn hdn
        simp [Deps, Region.binds] at hd
        go_simp
        exact hK _ _ ((bnew wx _).mono hS.1.size) (hS.set3 (bnew wx _) rfl rfl rfl rfl rfl ⟨_, rfl, at_two _ _ (by simp [big]) (Nat.le_trans Hdl1.out (by unfold big; omega))⟩) trivial
      · intro D rx wx hS hd hu hx0 hn hni hdn K hK
        clear hu hn hdn
        simp [Deps, Region.binds] at hd
        go_simp
        exact hK _ _ (Below.refl _ _) hS rfl
      · intro D rx wx hS hd hu hx0 hn hni hdn K hK
        clear hu hn hdn
        simp [Deps, Region.binds] at hd
        have R1 := RB.out.below hS.1
        have e1 := R1.get 1 rfl; have e2 := R1.get 2 rfl; have e3 := R1.get 3 rfl; have e4 := R1.get 4 rfl; have e5 := R1.get 5 rfl; have e6 := R1.get 6 rfl; have e7 := R1.get 7 rfl
        go_simp
        exact hK _ _ (Below.refl _ _) hS rfl
      · intro D rx wx hS hd hu hx0 hn hni hdn K hK
        clear hu hn hdn
        simp [Deps, Region.binds] at hd
        go_simp
        refine (Ht.out _ (HL.out.below (btr Hb2.out hS.1))).mono ?_
        rintro e w1 ⟨v, rfl, hown, hb1⟩
        go_simp
        obtain ⟨A, c, hv, hat⟩ := owns_at hown Htl.out (by rw [htl.out]; simp [big])
        rw [htl.out] at hv
        exact hK _ _ (hb1.mono hS.1.size) (hS.set6 hb1 rfl rfl rfl rfl rfl ⟨A, c, hv, hat⟩) trivial
      · intro D rx wx hS hd hu hx0 hn hni hdn K hK
        have hD3 := hdn 3 (by kernel_rfl)
        have hD6 := hdn 6 (by kernel_rfl)
        have hN8 := hn 8 (by kernel_rfl)
        clear hu hn hdn
        obtain ⟨⟨A1, ea, hat1⟩, ⟨A2, c2, eb, hat2⟩⟩ : (∃ A, rx 3 = .slice A 2 2 ∧ At wx wx.heap.size A [[114, 111, 111, 116], ds]) ∧ (∃ A c, rx 6 = .slice A 3 c ∧ At wx wx.heap.size A tf) := ⟨(hS.2 hN8).1 hD3, (hS.2 hN8).2.1 hD6⟩
        refine if_yes rfl ?_
        refine wp_grow_str _ _ rfl A1 A2 [[114, 111, 111, 116], ds] tf 2 c2 (by simp [Act.eval, Eb_3, ea]) hat1 (by simp) (by simp [Act.eval, Eb_6, eb, htl.out]) hat2 (by rw [htl.out]; omega) (by rw [htl.out]; simp) (by rw [htl.out]; simp) fun v' w' h1 h2 => ?_
        rw [← Hf.out] at h1
        have := hK v' w' (h2.mono hS.1.size) (hS.set7 h2 rfl rfl rfl rfl rfl (owns_base h1 hS.1.size)) trivial
        rw [← Pb_7] at this
        exact this
      · intro D rx wx hS hd hu hx0 hn hni hdn K hK
        have hD7 := hdn 7 (by kernel_rfl)
        clear hu hn hdn
        simp [Deps, Region.binds] at hd
        have hown := (hS.2 hni).2.2 hD7
        have hsg := hid (Hsg.out (rx 7) wx hown hS.1.size (fun w3 hb => HL2.out.below (hS.1.trans hb)))
        clear hown
        go_simp
        refine hsg.out.mono ?_
        rintro e w1 ⟨rfl, hb1⟩
        go_simp
        exact hK _ _ hb1 (hS.set8 hb1 rfl) rfl
      · intro D rx wx hS hd hu hx0 hn hni hdn K hK
        clear hu hn hdn
        simp [Deps, Region.binds] at hd
        go_simp
        exact hK _ _ (Below.refl _ _) hS rfl
    intro D rx w3 hS hdone hv
    have h9 : rx 9 = .string ⟨res.toArray⟩ := hv 9 (by decide)
    have Hb3 := hid hS.1
    clear hv hS hdone
    generalize rx 9 = v9 at *
    subst h9
    go_wp2
    go_ret
    exact ⟨rfl, btr Hb2.out Hb3.out⟩
end Pm
end Go.Proofs.YtdjkdcokjoiokaaGreatDoor

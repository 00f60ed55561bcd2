/- The reference's copies of disks. -/
import Derived.Test.YtdjkdcokjoiokaaGreatDoorSpM
import Derived.Test.YtdjkdcokjoiokaaGreatDoorCopy
namespace Go.Proofs.YtdjkdcokjoiokaaGreatDoor
open Go.RowKit
namespace Pm
/-- What is kept while a disk's copy is made: block b0 alone is written, once, with what slot 13 holds. -/
def CpS (W : World) (b0 : Nat) (g : Bool) (rx : Nat → Value) (wx : World) : Prop :=
  Touch [b0] W wx ∧ b0 < W.heap.size ∧ (rx 11 = undef → Row wx b0 #[.slice none 0 0, .slice none 0 0, .bool false]) ∧ (rx 11 ≠ undef → ∀ u v, rx 10 = .agg #[u, v, .bool g] → Row wx b0 #[u, v, .bool g])
theorem CpS.start {W : World} {b0 : Nat} {g : Bool} {rx : Nat → Value} (h : Row W b0 #[.slice none 0 0, .slice none 0 0, .bool false]) (hr : rx 11 = undef) : CpS W b0 g rx W.drew :=
  ⟨(Touch.refl _ _).drew, h.lt, fun _ => h.drew, fun hn => absurd hr hn⟩
theorem CpS.below {W : World} {b0 : Nat} {g : Bool} {rx ry : Nat → Value} {wx wy : World} (h : CpS W b0 g rx wx) (hb : Below wx.heap.size wx wy) (h11 : ry 11 = rx 11) (h10 : ry 10 = rx 10) : CpS W b0 g ry wy := by
  obtain ⟨h1, h2, h3, h4⟩ := h
  refine ⟨h1.trans (Touch.of_below hb), h2, fun h => ?_, fun h u v hu => ?_⟩
  · rw [h11] at h; exact (h3 h).below hb
  · rw [h11] at h; rw [h10] at hu; exact (h4 h u v hu).below hb
theorem CpS.size {W : World} {b0 : Nat} {g : Bool} {rx : Nat → Value} {wx : World} (h : CpS W b0 g rx wx) : W.heap.size ≤ wx.heap.size := h.1.size
theorem CpS.row {W : World} {b0 b : Nat} {g : Bool} {rx : Nat → Value} {wx : World} {cur : Array Value} (h : CpS W b0 g rx wx) (hr : Row W b cur) (hb : b ≠ b0) : Row wx b cur := hr.keep (h.1.block b hr.lt (by simpa using hb))
theorem scells_len (x : Str) : (scells x).length = Rep.size (List UInt8) := rfl
theorem wcells_len (x : Wait) : (wcells x).length = Rep.size (Int × List UInt8) := rfl
theorem scells_one {l : List Str} : ∀ u ∈ l.flatMap scells, u.oneCell' = true := by
  intro u hu; obtain ⟨x, _, hx⟩ := List.mem_flatMap.1 hu; simp [scells, vstr] at hx; subst hx; rfl
theorem wcells_one {l : List Wait} : ∀ u ∈ l.flatMap wcells, u.oneCell' = true := by
  intro u hu; obtain ⟨x, _, hx⟩ := List.mem_flatMap.1 hu; simp [wcells, vstr] at hx; rcases hx with rfl | rfl <;> rfl
theorem owns_slice {w : World} {base size n : Nat} {e : TypeId} {v : Value} {xs : List Value} (h : w.ownsRow base e size v n xs) : ∃ A c, v = .slice A n c := by
  obtain ⟨_, ⟨hv, hn⟩ | ⟨g, cap, cur, hv, _⟩⟩ := h
  · subst hn; exact ⟨none, 0, hv⟩
  · exact ⟨_, cap, hv⟩
theorem owns_newE {w : World} {base size : Nat} {e : TypeId} (hb : base ≤ w.heap.size) : (w.alloc (.cells #[] e)).ownsRow base e size (.slice (some ⟨w.heap.size, 0, none⟩) 0 0) 0 [] := by
  refine ⟨by simp, .inr ⟨w.heap.size, 0, #[], rfl, hb, heap_alloc_new w _, Nat.le_refl _, by simp [maxLen], by simp, by simp⟩⟩

set_option maxRecDepth 100000 in
set_option maxHeartbeats 1000000 in
theorem spCopy3 (A1 A2 : Option Addr) (c1 c2 : Nat) (d : Disk) (w : World) (hl1 : d.1.length ≤ 1048576) (ha1 : At w w.heap.size A1 d.1) (hl2 : d.2.1.length ≤ 1048576) (ha2 : At w w.heap.size A2 d.2.1) (hs : ∀ x ∈ d.1, x.length ≤ big) (hw : ∀ x ∈ d.2.1, InI x.1 ∧ x.2.length ≤ big) :
    Calls Tryz.prog 96 #[.agg #[.slice A1 d.1.length c1, .slice A2 d.2.1.length c2, .bool d.2.2]] w fun e w' => ∃ B1 B2 k1 k2 fp, e = .returned (.agg #[.slice B1 d.1.length k1, .slice B2 d.2.1.length k2, .bool d.2.2]) ∧ Ow.own w' [.slice B1 d.1.length k1, .slice B2 d.2.1.length k2, .bool d.2.2] d fp ∧ Fp w.heap.size w'.heap.size fp ∧ Below w.heap.size w w' := by
  have HB := hid (bal (bnew w (.cells #[.slice A1 d.1.length c1, .slice A2 d.2.1.length c2, .bool d.2.2] 90)) (.cells #[.slice none 0 0, .slice none 0 0, .bool false] 90))
  have HWb := hid ((Row.new w #[.slice A1 d.1.length c1, .slice A2 d.2.1.length c2, .bool d.2.2] 90).alloc (.cells #[.slice none 0 0, .slice none 0 0, .bool false] 90))
  have HWr := hid (Row.new (w.alloc (.cells #[.slice A1 d.1.length c1, .slice A2 d.2.1.length c2, .bool d.2.2] 90)) #[.slice none 0 0, .slice none 0 0, .bool false] 90)
  have HWz := hid (show ((w.alloc (.cells #[.slice A1 d.1.length c1, .slice A2 d.2.1.length c2, .bool d.2.2] 90)).alloc (.cells #[.slice none 0 0, .slice none 0 0, .bool false] 90)).heap.size = w.heap.size + 2 by simp)
  simp only [World.size_alloc] at HWr
  have Ha1 := hid ha1; have Ha2 := hid ha2; have Hs := hid hs; have Hw := hid hw
  have Hl1 := hid hl1; have Hl2 := hid hl2
  clear ha1 ha2 hl1 hl2 hs hw
  go_enter Tryz.func96, Tryz.ntmps96
  go_wp2
  generalize (w.alloc (.cells #[.slice A1 d.1.length c1, .slice A2 d.2.1.length c2, .bool d.2.2] 90)).alloc (.cells #[.slice none 0 0, .slice none 0 0, .bool false] 90) = W at *
  refine wp_region_X (P := Tryz.prog) follows_mixed (by kernel_rfl) (fun rx => ⟨#[.agg #[.slice A1 d.1.length c1, .slice A2 d.2.1.length c2, .bool d.2.2], .pointer (some ⟨w.heap.size, 0, none⟩), .pointer (some ⟨w.heap.size + 1, 0, none⟩), rx 0, rx 1, rx 2, rx 3, rx 4, rx 5, rx 6, rx 7, rx 8, rx 9, rx 10], []⟩) (fun j => ([undef, undef, undef, undef, undef, undef, undef, undef, undef, undef, undef, undef] : List Value).getD j undef) (fun j v wx => match j with | 0 => ∃ g, v = .slice (some ⟨g, 0, none⟩) 0 0 ∧ wx.ownsRow (w.heap.size + 2) 9 1 (.slice (some ⟨g, 0, none⟩) 0 0) 0 [] | 1 => v = .pointer (some ⟨w.heap.size, 0, none⟩) | 2 => v = .slice A1 d.1.length c1 | 3 => wx.ownsRow (w.heap.size + 2) 9 1 v d.1.length (d.1.flatMap scells) | 4 => ∃ g, v = .slice (some ⟨g, 0, none⟩) 0 0 ∧ wx.ownsRow (w.heap.size + 2) 225 2 (.slice (some ⟨g, 0, none⟩) 0 0) 0 [] | 5 => v = .pointer (some ⟨w.heap.size, 1, none⟩) | 6 => v = .slice A2 d.2.1.length c2 | 7 => wx.ownsRow (w.heap.size + 2) 225 2 v d.2.1.length (d.2.1.flatMap wcells) | 8 => v = .pointer (some ⟨w.heap.size, 2, none⟩) | 9 => v = .bool d.2.2 | 10 => ∃ B1 k1 B2 k2, v = .agg #[.slice B1 d.1.length k1, .slice B2 d.2.1.length k2, .bool d.2.2] ∧ wx.ownsRow (w.heap.size + 2) 9 1 (.slice B1 d.1.length k1) d.1.length (d.1.flatMap scells) ∧ wx.ownsRow (w.heap.size + 2) 225 2 (.slice B2 d.2.1.length k2) d.2.1.length (d.2.1.flatMap wcells) | 11 => v = .bool true | _ => True) (fun _ => CpS W (w.heap.size + 1) d.2.2) (Touch [w.heap.size + 1]) ?hVb ?hSb ?hopb ?hendb
  case hVb =>
    intro j v wx wy h hR
    match j, h with
    | 1, h => exact h
    | 2, h => exact h
    | 5, h => exact h
    | 6, h => exact h
    | 8, h => exact h
    | 9, h => exact h
    | 11, h => exact h
    | 0, h => (obtain ⟨g, h1, h2⟩ := h; exact ⟨g, h1, owns_touch h2 hR (by simp)⟩)
    | 3, h => exact owns_touch h hR (by simp)
    | 4, h => (obtain ⟨g, h1, h2⟩ := h; exact ⟨g, h1, owns_touch h2 hR (by simp)⟩)
    | 7, h => exact owns_touch h hR (by simp)
    | 10, h => (obtain ⟨B1, k1, B2, k2, h1, h4, h5⟩ := h; exact ⟨B1, k1, B2, k2, h1, owns_touch h4 hR (by simp), owns_touch h5 hR (by simp)⟩)
    | _ + 12, _ => exact trivial
  case hSb => exact CpS.start HWr.out rfl
  case hopb =>
    intro F hF
    have Pb_0 : ∀ x v, (⟨(F x).tmps.setIfInBounds 3 v, (F x).defers⟩ : Act) = F (upd x 0 v) := by subst hF; intro x v; rfl
    have Eb_0 : ∀ x, (F x).tmps[3]?.getD undef = x 0 := by subst hF; intro x; rfl
    have Pb_1 : ∀ x v, (⟨(F x).tmps.setIfInBounds 4 v, (F x).defers⟩ : Act) = F (upd x 1 v) := by subst hF; intro x v; rfl
    have Eb_1 : ∀ x, (F x).tmps[4]?.getD undef = x 1 := by subst hF; intro x; rfl
    have Pb_2 : ∀ x v, (⟨(F x).tmps.setIfInBounds 5 v, (F x).defers⟩ : Act) = F (upd x 2 v) := by subst hF; intro x v; rfl
    have Eb_2 : ∀ x, (F x).tmps[5]?.getD undef = x 2 := by subst hF; intro x; rfl
    have Pb_3 : ∀ x v, (⟨(F x).tmps.setIfInBounds 6 v, (F x).defers⟩ : Act) = F (upd x 3 v) := by subst hF; intro x v; rfl
    have Eb_3 : ∀ x, (F x).tmps[6]?.getD undef = x 3 := by subst hF; intro x; rfl
    have Pb_4 : ∀ x v, (⟨(F x).tmps.setIfInBounds 7 v, (F x).defers⟩ : Act) = F (upd x 4 v) := by subst hF; intro x v; rfl
    have Eb_4 : ∀ x, (F x).tmps[7]?.getD undef = x 4 := by subst hF; intro x; rfl
    have Pb_5 : ∀ x v, (⟨(F x).tmps.setIfInBounds 8 v, (F x).defers⟩ : Act) = F (upd x 5 v) := by subst hF; intro x v; rfl
    have Eb_5 : ∀ x, (F x).tmps[8]?.getD undef = x 5 := by subst hF; intro x; rfl
    have Pb_6 : ∀ x v, (⟨(F x).tmps.setIfInBounds 9 v, (F x).defers⟩ : Act) = F (upd x 6 v) := by subst hF; intro x v; rfl
    have Eb_6 : ∀ x, (F x).tmps[9]?.getD undef = x 6 := by subst hF; intro x; rfl
    have Pb_7 : ∀ x v, (⟨(F x).tmps.setIfInBounds 10 v, (F x).defers⟩ : Act) = F (upd x 7 v) := by subst hF; intro x v; rfl
    have Eb_7 : ∀ x, (F x).tmps[10]?.getD undef = x 7 := by subst hF; intro x; rfl
    have Pb_8 : ∀ x v, (⟨(F x).tmps.setIfInBounds 11 v, (F x).defers⟩ : Act) = F (upd x 8 v) := by subst hF; intro x v; rfl
    have Eb_8 : ∀ x, (F x).tmps[11]?.getD undef = x 8 := by subst hF; intro x; rfl
    have Pb_9 : ∀ x v, (⟨(F x).tmps.setIfInBounds 12 v, (F x).defers⟩ : Act) = F (upd x 9 v) := by subst hF; intro x v; rfl
    have Eb_9 : ∀ x, (F x).tmps[12]?.getD undef = x 9 := by subst hF; intro x; rfl
    have Pb_10 : ∀ x v, (⟨(F x).tmps.setIfInBounds 13 v, (F x).defers⟩ : Act) = F (upd x 10 v) := by subst hF; intro x v; rfl
    have Eb_10 : ∀ x, (F x).tmps[13]?.getD undef = x 10 := by subst hF; intro x; rfl
    have Eb_e1 : ∀ x, (F x).tmps[1]?.getD undef = .pointer (some ⟨w.heap.size, 0, none⟩) := by subst hF; intro x; rfl
    have Eb_e2 : ∀ x, (F x).tmps[2]?.getD undef = .pointer (some ⟨w.heap.size + 1, 0, none⟩) := by subst hF; intro x; rfl
    have Pb_11 : ∀ x v, F (upd x 11 v) = F x := by subst hF; intro x v; rfl
    have Pb_n11 : ∀ x, (⟨(F x).tmps, (F x).defers⟩ : Act) = F x := by intro x; rfl
    clear hF
    simp only [OpAllX]
    refine ⟨?_, ?_, ?_, ?_, ?_, ?_, ?_, ?_, ?_, ?_, ?_, ?_, trivial⟩
    · intro D rx wx hS hd hu hx0 hn hni hdn K hK
      clear hu hn hdn
      simp [Deps, Region.binds] at hd
      go_simp
      exact hK _ _ (Touch.of_below (bnew _ _)) (hS.below (bnew _ _) rfl rfl) ⟨_, rfl, owns_new (by have := hS.size; have := HWz.out; omega)⟩
    · intro D rx wx hS hd hu hx0 hn hni hdn K hK
      clear hu hn hdn
      simp [Deps, Region.binds] at hd
      go_simp
      exact hK _ _ (Touch.refl _ _) hS rfl
    · intro D rx wx hS hd hu hx0 hn hni hdn K hK
      clear hu hn hdn
      simp [Deps, Region.binds] at hd
      have e0 := (hS.row HWb.out (by omega)).get 0 rfl
      go_simp
      exact hK _ _ (Touch.refl _ _) hS rfl
    · intro D rx wx hS hd hu hx0 hn hni hdn K hK
      clear hu hn hdn
      obtain ⟨⟨g, e3, hown⟩, e5⟩ : (∃ g, rx 0 = .slice (some ⟨g, 0, none⟩) 0 0 ∧ wx.ownsRow (w.heap.size + 2) 9 1 (.slice (some ⟨g, 0, none⟩) 0 0) 0 []) ∧ rx 2 = .slice A1 d.1.length c1 := ⟨hd.1 rfl, hd.2.1 rfl⟩
      have hat := Ha1.out.below (HB.out.trans (hS.1.below (by have := HWz.out; omega) (by simp)))
      refine if_yes rfl ?_
      refine wp_app_new _ _ _ rfl (w.heap.size + 2) 9 _ 1 16 Tryz.underlying35 info_string rfl (by omega) g (by simp [Act.eval, Eb_0, e3]) hown A1 d.1.length c1 (d.1.flatMap scells) (by simp [Act.eval, Eb_2, e5]) (flat_len scells_len _) (fun h0 => at_flat (by decide) scells_len (fun cs x h => (str_cells h).1) hat h0) scells_one (by have := Hl1.out; omega) (by omega) (by have := hS.size; have := HWz.out; omega) fun v' w' h1 h2 => ?_
      have := hK v' w' (Touch.of_below h2) (hS.below h2 rfl rfl) h1
      rw [← Pb_3] at this
      exact this
    · intro D rx wx hS hd hu hx0 hn hni hdn K hK
      clear hu hn hdn
      simp [Deps, Region.binds] at hd
      go_simp
      exact hK _ _ (Touch.of_below (bnew _ _)) (hS.below (bnew _ _) rfl rfl) ⟨_, rfl, owns_newE (by have := hS.size; have := HWz.out; omega)⟩
    · intro D rx wx hS hd hu hx0 hn hni hdn K hK
      clear hu hn hdn
      simp [Deps, Region.binds] at hd
      go_simp
      exact hK _ _ (Touch.refl _ _) hS rfl
    · intro D rx wx hS hd hu hx0 hn hni hdn K hK
      clear hu hn hdn
      simp [Deps, Region.binds] at hd
      have e0 := (hS.row HWb.out (by omega)).get 1 rfl
      go_simp
      exact hK _ _ (Touch.refl _ _) hS rfl
    · intro D rx wx hS hd hu hx0 hn hni hdn K hK
      clear hu hn hdn
      obtain ⟨⟨g, e3, hown⟩, e5⟩ : (∃ g, rx 4 = .slice (some ⟨g, 0, none⟩) 0 0 ∧ wx.ownsRow (w.heap.size + 2) 225 2 (.slice (some ⟨g, 0, none⟩) 0 0) 0 []) ∧ rx 6 = .slice A2 d.2.1.length c2 := ⟨hd.1 rfl, hd.2.1 rfl⟩
      have hat := Ha2.out.below (HB.out.trans (hS.1.below (by have := HWz.out; omega) (by simp)))
      refine if_yes rfl ?_
      refine wp_app_new _ _ _ rfl (w.heap.size + 2) 225 _ 2 24 Tryz.underlying88 info_wait rfl (by omega) g (by simp [Act.eval, Eb_4, e3]) hown A2 d.2.1.length c2 (d.2.1.flatMap wcells) (by simp [Act.eval, Eb_6, e5]) (flat_len wcells_len _) (fun h0 => at_flat (by decide) wcells_len (fun cs x h => (wait_cells h).1) hat h0) wcells_one (by have := Hl2.out; omega) (by omega) (by have := hS.size; have := HWz.out; omega) fun v' w' h1 h2 => ?_
      have := hK v' w' (Touch.of_below h2) (hS.below h2 rfl rfl) h1
      rw [← Pb_7] at this
      exact this
    · intro D rx wx hS hd hu hx0 hn hni hdn K hK
      clear hu hn hdn
      simp [Deps, Region.binds] at hd
      go_simp
      exact hK _ _ (Touch.refl _ _) hS rfl
    · intro D rx wx hS hd hu hx0 hn hni hdn K hK
      clear hu hn hdn
      simp [Deps, Region.binds] at hd
      have e0 := (hS.row HWb.out (by omega)).get 2 rfl
      go_simp
      exact hK _ _ (Touch.refl _ _) hS rfl
    · intro D rx wx hS hd hu hx0 hn hni hdn K hK
      have hu11 := hu 11 (by kernel_rfl)
      simp only [List.getD_cons_zero, List.getD_cons_succ] at hu11
      clear hu hn hdn
      obtain ⟨h6, h10, e12⟩ : (wx.ownsRow (w.heap.size + 2) 9 1 (rx 3) d.1.length (d.1.flatMap scells)) ∧ (wx.ownsRow (w.heap.size + 2) 225 2 (rx 7) d.2.1.length (d.2.1.flatMap wcells)) ∧ rx 9 = .bool d.2.2 := ⟨hd.1 rfl, hd.2.1 rfl, hd.2.2.1 rfl⟩
      obtain ⟨B1, k1, e6⟩ := owns_slice h6
      obtain ⟨B2, k2, e10⟩ := owns_slice h10
      rw [e6] at h6
      rw [e10] at h10
      clear hd
      go_simp
      exact hK _ _ (Touch.refl _ _) ⟨hS.1, hS.2.1, hS.2.2.1, fun hn => absurd hu11 hn⟩ ⟨B1, k1, B2, k2, rfl, h6, h10⟩
    · intro D rx wx hS hd hu hx0 hn hni hdn K hK
      clear hu hn hdn
      obtain ⟨B1, k1, B2, k2, e10, h6, h10⟩ : ∃ B1 k1 B2 k2, rx 10 = .agg #[.slice B1 d.1.length k1, .slice B2 d.2.1.length k2, .bool d.2.2] ∧ wx.ownsRow (w.heap.size + 2) 9 1 (.slice B1 d.1.length k1) d.1.length (d.1.flatMap scells) ∧ wx.ownsRow (w.heap.size + 2) 225 2 (.slice B2 d.2.1.length k2) d.2.1.length (d.2.1.flatMap wcells) := hd.1 rfl
      have hr := hS.2.2.1 hx0
      have r0 := hr.get 0 rfl; have r1 := hr.get 1 rfl; have r2 := hr.get 2 rfl; have g0 := hr.free 0; have g1 := hr.free 1; have g2 := hr.free 2
      clear hd
      go_simp
      have := hK (.bool true) (((wx.setCell ⟨w.heap.size + 1, 0, none⟩ (.slice B1 d.1.length k1)).setCell ⟨w.heap.size + 1, 1, none⟩ (.slice B2 d.2.1.length k2)).setCell ⟨w.heap.size + 1, 2, none⟩ (.bool d.2.2)) ((((Touch.refl _ _).set (by simp) _ _).set (by simp) _ _).set (by simp) _ _) ⟨((hS.1.set (by simp) _ _).set (by simp) _ _).set (by simp) _ _, hS.2.1, fun h => Value.noConfusion h, fun _ u v hu => ?_⟩ rfl
      · rw [Pb_11] at this
        exact this
      · have hu' : rx 10 = .agg #[u, v, .bool d.2.2] := hu
        rw [e10] at hu'
        simp only [Value.agg.injEq, Array.mk.injEq, List.cons.injEq, and_true] at hu'
        obtain ⟨rfl, rfl⟩ := hu'
        exact ((hr.set 0 _).set 1 _).set 2 _
  intro D rx w4 hS hdone hv
  obtain ⟨B1, k1, B2, k2, e10, h6, h10⟩ := hv 10 (by decide)
  have h11 : rx 11 = .bool true := hv 11 (by decide)
  have hr := hS.2.2.2 (by rw [h11]; intro h; exact Value.noConfusion h) _ _ e10
  have hb := HB.out.trans (hS.1.below (by have := HWz.out; omega) (by simp))
  have hsz := hS.size
  have r0 := hr.get 0 rfl; have r1 := hr.get 1 rfl; have r2 := hr.get 2 rfl
  have H6 := hid h6; have H10 := hid h10; have Hb := hid hb
  clear hS hv h6 h10 hb hr
  go_wp2
  refine bodyPost_ret (v := .agg #[.slice B1 d.1.length k1, .slice B2 d.2.1.length k2, .bool d.2.2]) (by simp [results, Tryz.results96, go_sem, r0, r1, r2]) rfl ?_
  have hl1 := Hl1.out; have hl2 := Hl2.out
  obtain ⟨X1, y1, f1, ev1, o1, n1, t1⟩ := own_of_owns scells_len (by decide) (fun x hx => own_str (Hs.out x hx)) (by unfold big; omega) H6.out
  obtain ⟨X2, y2, f2, ev2, o2, n2, t2⟩ := own_of_owns wcells_len (by decide) (fun x hx => own_wait (Hw.out x hx).1 (Hw.out x hx).2) (by unfold big; omega) H10.out
  rw [← ev1] at o1
  rw [← ev2] at o2
  refine ⟨B1, B2, k1, k2, f1 ++ f2, rfl, own_disk o1 o2, ⟨List.nodup_append.2 ⟨n1, n2, fun a ha b hb e => ?_⟩, fun b hb => ?_⟩, Hb.out⟩
  · subst e
    obtain ⟨_, _, cu, hc1⟩ := t1 a ha
    obtain ⟨_, _, cv, hc2⟩ := t2 a hb
    rw [hc1] at hc2
    simp at hc2
  · rcases List.mem_append.1 hb with hb | hb
    · obtain ⟨q1, q2, _⟩ := t1 b hb; exact ⟨by omega, q2⟩
    · obtain ⟨q1, q2, _⟩ := t2 b hb; exact ⟨by omega, q2⟩
end Pm
end Go.Proofs.YtdjkdcokjoiokaaGreatDoor

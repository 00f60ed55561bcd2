/- The law: the program's PoolForget returns what the reference's returns, for all arguments. -/
import Derived.Test.YtdjkdcokjoiokaaGreatDoorImO
import Derived.Test.YtdjkdcokjoiokaaGreatDoorSpQ
import Derived.Test.YtdjkdcokjoiokaaGreatDoorMark
import Derived.Test.YtdjkdcokjoiokaaGreatDoorSz
import Derived.Test.YtdjkdcokjoiokaaGreatDoorEq
namespace Go.Proofs.YtdjkdcokjoiokaaGreatDoor
open Go.RowKit
namespace Pl
theorem sum_bound {α : Type} (f g : α → Nat) (h : ∀ x, f x ≤ 2 * g x + 1) (l : List α) : (l.map f).sum ≤ 2 * (l.map g).sum + l.length := by
  induction l with
  | nil => simp
  | cons x l ih => simp only [List.map_cons, List.sum_cons, List.length_cons]; have := h x; omega
theorem mem_sum {α : Type} {f : α → Nat} {l : List α} {x : α} (h : x ∈ l) : f x ≤ (l.map f).sum := by
  induction l with
  | nil => cases h
  | cons y l ih =>
    simp only [List.map_cons, List.sum_cons]
    rcases List.mem_cons.1 h with rfl | h
    · omega
    · have := ih h; omega
end Pl
namespace Pm
open Pl (poolForget)
theorem own_at {α : Type} [Ow α] {w : World} {A : Option Addr} {n c : Nat} {l : List α} {fp : List Nat} (h : Ow.own w [.slice A n c] l fp) : l.length ≤ big ∧ At w w.heap.size A l := by
  obtain ⟨A', c', hv, hl, ha⟩ := Ow.reads (B := w.heap.size) h (fun b hb => Ow.lt h b hb)
  simp only [List.cons.injEq, and_true] at hv
  injection hv with q1 q2 q3
  rw [q1]
  exact ⟨hl, ha⟩
theorem wt_bounds {l : Raid} (h : wtL wtDisk l ≤ 1048576) : l.length ≤ 1048576 ∧ (∀ d ∈ l, d.1.length ≤ 1048576 ∧ d.2.1.length ≤ 1048576) ∧ (l.map wtm).sum ≤ 4194304 := by
  unfold wtL at h
  have hm : ∀ d ∈ l, wtDisk d ≤ (l.map wtDisk).sum := fun d hd => Pl.mem_sum hd
  refine ⟨by omega, fun d hd => ?_, ?_⟩
  · have := hm d hd
    have e : d.1.length + d.2.1.length ≤ wtDisk d := by unfold wtDisk wtL; omega
    omega
  · have := Pl.sum_bound wtm wtDisk (fun d => by unfold wtm wtDisk wtL; omega) l
    omega
theorem kAt_one (l : Raid) (h : (l.map wtm).sum ≤ 4194304) : kAt l 1 l.length ≤ 4294967296 ∧ 0 < kAt l 1 l.length := by
  unfold kAt; rw [List.take_length]; omega
theorem wtm_forget (l : Raid) (txg : Int) : ((poolForget l txg).1.map wtm).sum ≤ (l.map wtm).sum := by
  unfold poolForget
  split
  · unfold Pl.forget
    rw [List.map_map]
    have : wtm ∘ (fun d : Pl.Disk => (Pl.wipe (Pl.clears l txg) d.1, d.2)) = wtm := by
      funext d
      simp only [Function.comp, wtm, Pl.wipe_len]
    rw [this]
    exact Nat.le_refl _
  · simp

theorem eqSame (A1 A2 : Option Addr) (l : Raid) (c1 c2 : Nat) (w : World) (hl : l.length ≤ big) (h1 : At w w.heap.size A1 l) (h2 : At w w.heap.size A2 l) :
    Calls Tryz.prog 13 #[.agg #[.slice A1 l.length c1], .agg #[.slice A2 l.length c2]] w fun e w' => e = .returned (.bool true) ∧ Below w.heap.size w w' :=
  (eqRaid A1 A2 l l c1 c2 w hl hl h1 h2).mono fun e w' ⟨k1, k2⟩ => ⟨by rw [k1]; simp, k2⟩

theorem markOne (A : Option Addr) (l : Raid) (c : Nat) (fp : List Nat) (w : World) (h : Ow.own w [.slice A l.length c] l fp) (hnd : fp.Nodup) (h1 : kAt l 1 l.length ≤ 4294967296) :
    Calls Tryz.prog 14 #[.agg #[.slice A l.length c], .int .i64 1] w fun e w' => e = .returned (.int .i64 ((kAt l 1 l.length : Nat) : Int)) ∧ Ow.own w' [.slice A l.length c] (mDisks l 1) fp ∧ Touch fp w w' := markRaid A l c 1 fp w h hnd (by omega) h1
theorem heldOne (A : Option Addr) (l : Raid) (c : Nat) (w : World) (h : At w w.heap.size A (mDisks l 1)) (h1 : kAt l 1 l.length ≤ 4294967296) (hbig : l.length ≤ big) :
    Calls Tryz.prog 15 #[.agg #[.slice A l.length c], .int .i64 1] w fun e w' => e = .returned (.int .i64 ((kAt l 1 l.length : Nat) : Int)) ∧ Below w.heap.size w w' := heldRaid A l c 1 w h (by omega) h1 hbig

set_option maxRecDepth 100000 in
set_option maxHeartbeats 4000000 in
theorem lawPoolForget (A : Option Addr) (l : Raid) (c : Nat) (txg : Int) (w : World) (hl : l.length ≤ big) (h : At w w.heap.size A l) (hL : Lt w) :
    Calls Tryz.prog 3 #[.agg #[.slice A l.length c], .int .i64 txg] w fun e w' => e = .returned (.bool true) ∧ Below w.heap.size w w' := by
  have Ha := hid h
  have HL := hid hL
  have Hl := hid hl
  have HB := hid (bnew w (.cells #[.slice A l.length c] 24))
  have Hsz := hid (szRaid A l c 1048576 _ hl (h.up HB.out) (by omega) (by unfold lim; omega))
  have RBa := hid (Row.new w #[.slice A l.length c] 24)
  clear h hL hl
  go_enter Tryz.func3, Tryz.ntmps3
  go_wp2_with fail
  generalize w.alloc (.cells #[.slice A l.length c] 24) = W0 at *
  refine Hsz.out.mono ?_
  rintro e w1 ⟨rfl, hb1⟩
  have BELa := hid (btr HB.out hb1)
  have RB0 := hid (RBa.out.below hb1)
  have b0 := RB0.out.get 0 rfl
  clear hb1 RBa Hsz HB
  by_cases hw : wtL wtDisk l ≤ 1048576
  · have hless : less 1048576 (wtL wtDisk l) = (1048576 : Int) - wtL wtDisk l := by unfold less; rw [if_neg (by omega)]
    rw [hless]
    have hge : decide ((1048576 : Int) - wtL wtDisk l < 0) = false := by rw [decide_eq_false_iff_not]; omega
    generalize (1048576 : Int) - wtL wtDisk l = left0 at *
    obtain ⟨k1, k2, k3⟩ := wt_bounds hw
    have Hk1 := hid k1; have Hk2 := hid k2
    have Hka := hid (kAt_one l k3)
    have Hkb := hid (kAt_one (poolForget l txg).1 (Nat.le_trans (wtm_forget l txg) k3))
    have Hsp := hid (fun A c w h => spPoolForget A l c txg w Hl.out h)
    have Him := hid (fun A c w h hL => imPoolForget A l c txg w Hl.out h hL)
    unfold PfPost at Hsp
    unfold IfPost at Him
    generalize poolForget l txg = pf at *
    obtain ⟨pl, pb⟩ := pf
    dsimp only at Hsp Him Hkb
    have Hpe : Hid (decide (pl = pl) = true) := hid (by simp)
    have Hle : Hid (decide (l = l) = true) := hid (by simp)
    clear hw hless k1 k2 k3
    have BEL0 := hid BELa.out
    clear BELa
    go_wp2_with fail
    refine (toRaid A l c _ Hk1.out Hk2.out (Ha.out.up BEL0.out)).mono ?_
    rintro e w2 ⟨A1, c1, f1, rfl, ho1, hf1, hb2⟩
    clear b0
    have RB1 := hid (RB0.out.below hb2)
    clear RB0
    have BEL1 := hid (btr BEL0.out hb2)
    clear BEL0
    have O1 := hid (own_at ho1).2
    clear ho1 hf1 hb2
    have b0 : _ = some (Value.slice A l.length c) := RB1.out.get 0 rfl
    go_wp2_with fail
    refine (Hsp.out A1 c1 _ O1.out).mono ?_
    rintro e w3 ⟨Aw, cw, rfl, hpl, hat, hb3⟩
    clear b0 O1
    have RB2 := hid (RB1.out.below hb3)
    clear RB1
    have BEL2 := hid (btr BEL1.out hb3)
    clear BEL1
    have Hpl := hid hpl
    have W00 := hid hat
    have SZ0 := hid (Nat.le_refl w3.heap.size)
    clear hb3 hat hpl
    have HSa := hid (show w.heap.size + 1 ≤ w3.heap.size from RB2.out.lt)
    have RB3 := hid (RB2.out.below (bnew w3 (.cells #[.slice Aw pl.length cw] 28)))
    clear RB2
    have BEL3 := hid (btr BEL2.out (bnew w3 (.cells #[.slice Aw pl.length cw] 28)))
    clear BEL2
    have W01 := hid (W00.out.below (((bnew w3 (.cells #[.slice Aw pl.length cw] 28))).mono SZ0.out))
    clear W00
    have SZ1 := hid (Nat.le_trans SZ0.out ((bnew w3 (.cells #[.slice Aw pl.length cw] 28))).size)
    clear SZ0
    have P60 := hid (Row.new w3 #[.slice Aw pl.length cw] 28)
    have HSb := hid (show w3.heap.size < (w3.alloc (.cells #[.slice Aw pl.length cw] 28)).heap.size by simp)
    have b0 : _ = some (Value.slice A l.length c) := RB3.out.get 0 rfl
    go_wp2_with fail
    generalize hp6 : w3.heap.size = p6 at *
    generalize w3.alloc (.cells #[.slice Aw pl.length cw] 28) = W3 at *
    refine (toRaid A l c _ Hk1.out Hk2.out (Ha.out.up BEL3.out)).mono ?_
    rintro e w4 ⟨A2, c2, f2, rfl, ho, hf, hb4⟩
    clear b0
    have RB4 := hid (RB3.out.below hb4)
    clear RB3
    have BEL4 := hid (btr BEL3.out hb4)
    clear BEL3
    have W02 := hid (W01.out.below ((hb4).mono SZ1.out))
    clear W01
    have P61 := hid (P60.out.below hb4)
    clear P60
    have SZ2 := hid (Nat.le_trans SZ1.out (hb4).size)
    clear SZ1
    have X0 := hid ho
    have FX := hid hf
    have HSc := hid hb4.size
    clear ho hf hb4
    have RB5 := hid (RB4.out.below (bnew w4 (.cells #[.slice A2 l.length c2] 28)))
    clear RB4
    have BEL5 := hid (btr BEL4.out (bnew w4 (.cells #[.slice A2 l.length c2] 28)))
    clear BEL4
    have W03 := hid (W02.out.below (((bnew w4 (.cells #[.slice A2 l.length c2] 28))).mono SZ2.out))
    clear W02
    have P62 := hid (P61.out.below (bnew w4 (.cells #[.slice A2 l.length c2] 28)))
    clear P61
    have X1 := hid (Ow.below X0.out (bnew w4 (.cells #[.slice A2 l.length c2] 28)) (Ow.lt X0.out))
    clear X0
    have SZ3 := hid (Nat.le_trans SZ2.out ((bnew w4 (.cells #[.slice A2 l.length c2] 28))).size)
    clear SZ2
    have P80 := hid (Row.new w4 #[.slice A2 l.length c2] 28)
    have HSd := hid (show w4.heap.size < (w4.alloc (.cells #[.slice A2 l.length c2] 28)).heap.size by simp)
    go_wp2_with fail
    generalize hp8 : w4.heap.size = p8 at *
    generalize w4.alloc (.cells #[.slice A2 l.length c2] 28) = W4 at *
    refine (Him.out A2 c2 _ (own_at X1.out).2 (HL.out.below BEL5.out)).mono ?_
    rintro e w5 ⟨Ag, cg, fg, rfl, ho, hf, hb5⟩
    have RB6 := hid (RB5.out.below hb5)
    clear RB5
    have BEL6 := hid (btr BEL5.out hb5)
    clear BEL5
    have W04 := hid (W03.out.below ((hb5).mono SZ3.out))
    clear W03
    have P63 := hid (P62.out.below hb5)
    clear P62
    have X2 := hid (Ow.below X1.out hb5 (Ow.lt X1.out))
    clear X1
    have P81 := hid (P80.out.below hb5)
    clear P80
    have SZ4 := hid (Nat.le_trans SZ3.out (hb5).size)
    clear SZ3
    have G0 := hid ho
    have FG := hid hf
    have HSe := hid hb5.size
    clear ho hf hb5
    have RB7 := hid (RB6.out.below (bnew w5 (.cells #[.slice Ag pl.length cg] 28)))
    clear RB6
    have BEL7 := hid (btr BEL6.out (bnew w5 (.cells #[.slice Ag pl.length cg] 28)))
    clear BEL6
    have W05 := hid (W04.out.below (((bnew w5 (.cells #[.slice Ag pl.length cg] 28))).mono SZ4.out))
    clear W04
    have P64 := hid (P63.out.below (bnew w5 (.cells #[.slice Ag pl.length cg] 28)))
    clear P63
    have X3 := hid (Ow.below X2.out (bnew w5 (.cells #[.slice Ag pl.length cg] 28)) (Ow.lt X2.out))
    clear X2
    have P82 := hid (P81.out.below (bnew w5 (.cells #[.slice Ag pl.length cg] 28)))
    clear P81
    have G1 := hid (Ow.below G0.out (bnew w5 (.cells #[.slice Ag pl.length cg] 28)) (Ow.lt G0.out))
    clear G0
    have SZ5 := hid (Nat.le_trans SZ4.out ((bnew w5 (.cells #[.slice Ag pl.length cg] 28))).size)
    clear SZ4
    have P90 := hid (Row.new w5 #[.slice Ag pl.length cg] 28)
    have HSf := hid (show w5.heap.size < (w5.alloc (.cells #[.slice Ag pl.length cg] 28)).heap.size by simp)
    have qP9 : _ = some (Value.slice Ag pl.length cg) := P90.out.get 0 rfl
    have qP6 : _ = some (Value.slice Aw pl.length cw) := P64.out.get 0 rfl
    go_wp2_with fail
    generalize hp9 : w5.heap.size = p9 at *
    generalize w5.alloc (.cells #[.slice Ag pl.length cg] 28) = W5 at *
    have HS : Hid (w.heap.size + 1 ≤ p6 ∧ p6 < W3.heap.size ∧ W3.heap.size ≤ p8 ∧ p8 < W4.heap.size ∧ W4.heap.size ≤ p9 ∧ p9 < W5.heap.size) := hid ⟨HSa.out, HSb.out, HSc.out, HSd.out, HSe.out, HSf.out⟩
    clear HSa HSb HSc HSd HSe HSf
    refine (eqSame Ag Aw pl cg cw _ ((own_at G1.out).1) (own_at G1.out).2 (W05.out.mono SZ5.out)).mono ?_
    rintro e w6 ⟨rfl, hb6⟩
    clear qP9 qP6
    have RB8 := hid (RB7.out.below hb6)
    clear RB7
    have BEL8 := hid (btr BEL7.out hb6)
    clear BEL7
    have W06 := hid (W05.out.below ((hb6).mono SZ5.out))
    clear W05
    have P65 := hid (P64.out.below hb6)
    clear P64
    have X4 := hid (Ow.below X3.out hb6 (Ow.lt X3.out))
    clear X3
    have P83 := hid (P82.out.below hb6)
    clear P82
    have G2 := hid (Ow.below G1.out hb6 (Ow.lt G1.out))
    clear G1
    have P91 := hid (P90.out.below hb6)
    clear P90
    have SZ6 := hid (Nat.le_trans SZ5.out (hb6).size)
    clear SZ5
    clear hb6
    have qP8 : _ = some (Value.slice A2 l.length c2) := P83.out.get 0 rfl
    have qRB : _ = some (Value.slice A l.length c) := RB8.out.get 0 rfl
    go_wp2_with fail
    clear qP8 qRB
    refine wp_region_F (P := Tryz.prog) follows_mixed (by kernel_rfl) (fun rx => ⟨#[.agg #[.slice A l.length c], .int .i64 txg, .pointer (some ⟨w.heap.size, 0, none⟩), undef, .bool false, .int .i64 left0, .pointer (some ⟨p6, 0, none⟩), .bool pb, .pointer (some ⟨p8, 0, none⟩), .pointer (some ⟨p9, 0, none⟩), .bool pb, undef, undef, undef, undef, undef, .agg #[.slice A l.length c], .int .i64 1048576, .int .i64 left0, .int .i64 left0, .bool false, .tuple #[.agg #[.slice Aw pl.length cw], .bool pb], .agg #[.slice A l.length c], .agg #[.slice A1 l.length c1], .int .i64 txg, .tuple #[.agg #[.slice Aw pl.length cw], .bool pb], .agg #[.slice Aw pl.length cw], .bool pb, .agg #[.slice A l.length c], .agg #[.slice A2 l.length c2], .tuple #[.agg #[.slice Ag pl.length cg], .bool pb], .agg #[.slice A2 l.length c2], .int .i64 txg, .tuple #[.agg #[.slice Ag pl.length cg], .bool pb], .agg #[.slice Ag pl.length cg], .bool pb, .agg #[.slice Ag pl.length cg], .agg #[.slice Aw pl.length cw], .bool true, .bool false, .bool false, .bool pb, .bool pb, .bool false, .bool false, rx 0, rx 1, rx 2, rx 3, rx 4, undef, undef, undef, undef, undef, undef, undef, undef, undef, undef, undef, undef, undef, undef, undef, undef, undef, undef, undef, undef, undef, undef, undef, undef, undef, undef, undef, undef, undef, undef, undef, undef, undef, undef, undef, undef, undef, undef, undef, undef, undef, undef, undef, undef, undef, undef, undef, undef, undef, undef, undef], []⟩) (fun j => ([undef, undef, undef, undef, undef] : List Value).getD j undef) (fun j v wx => match j with | 0 => v = .agg #[.slice A2 l.length c2] | 1 => v = .agg #[.slice A l.length c] | 2 => ∃ A3 c3, v = .agg #[.slice A3 l.length c3] ∧ At wx wx.heap.size A3 l | 3 => v = .bool true | 4 => v = .bool false | _ => True) (fun wx => Below w6.heap.size w6 wx) (fun wx wy => Below wx.heap.size wx wy) ?hVb ?hSb ?hopb ?hendb
    case hVb =>
      intro j v wx wy h hR
      match j, h with
      | 0, h => exact h
      | 1, h => exact h
      | 3, h => exact h
      | 4, h => exact h
      | 2, h => (obtain ⟨A3, c3, h1, h2⟩ := h; exact ⟨A3, c3, h1, h2.up hR⟩)
      | _ + 5, _ => exact trivial
    case hSb => exact bdr (Below.refl _ _)
    case hopb =>
      intro F hF
      have Pb_0 : ∀ x v, (⟨(F x).tmps.setIfInBounds 45 v, (F x).defers⟩ : Act) = F (upd x 0 v) := by subst hF; intro x v; rfl
      have Eb_0 : ∀ x, (F x).tmps[45]?.getD undef = x 0 := by subst hF; intro x; rfl
      have Pb_1 : ∀ x v, (⟨(F x).tmps.setIfInBounds 46 v, (F x).defers⟩ : Act) = F (upd x 1 v) := by subst hF; intro x v; rfl
      have Eb_1 : ∀ x, (F x).tmps[46]?.getD undef = x 1 := by subst hF; intro x; rfl
      have Pb_2 : ∀ x v, (⟨(F x).tmps.setIfInBounds 47 v, (F x).defers⟩ : Act) = F (upd x 2 v) := by subst hF; intro x v; rfl
      have Eb_2 : ∀ x, (F x).tmps[47]?.getD undef = x 2 := by subst hF; intro x; rfl
      have Pb_3 : ∀ x v, (⟨(F x).tmps.setIfInBounds 48 v, (F x).defers⟩ : Act) = F (upd x 3 v) := by subst hF; intro x v; rfl
      have Eb_3 : ∀ x, (F x).tmps[48]?.getD undef = x 3 := by subst hF; intro x; rfl
      have Pb_4 : ∀ x v, (⟨(F x).tmps.setIfInBounds 49 v, (F x).defers⟩ : Act) = F (upd x 4 v) := by subst hF; intro x v; rfl
      have Eb_4 : ∀ x, (F x).tmps[49]?.getD undef = x 4 := by subst hF; intro x; rfl
      have Eb_e2 : ∀ x, (F x).tmps[2]?.getD undef = .pointer (some ⟨w.heap.size, 0, none⟩) := by subst hF; intro x; rfl
      have Eb_e8 : ∀ x, (F x).tmps[8]?.getD undef = .pointer (some ⟨p8, 0, none⟩) := by subst hF; intro x; rfl
      clear hF
      simp only [OpAll]
      refine ⟨?_, ?_, ?_, ?_, ?_, trivial⟩
      · intro rx wx hS hd hu K hK
        clear hu
        simp [Deps, Region.binds] at hd
        have e0 : _ = some (Value.slice A2 l.length c2) := (P83.out.below hS).get 0 rfl
        go_simp
        exact hK _ _ (Below.refl _ _) hS rfl
      · intro rx wx hS hd hu K hK
        clear hu
        simp [Deps, Region.binds] at hd
        have e0 : _ = some (Value.slice A l.length c) := (RB8.out.below hS).get 0 rfl
        go_simp
        exact hK _ _ (Below.refl _ _) hS rfl
      · intro rx wx hS hd hu K hK
        clear hu
        simp [Deps, Region.binds] at hd
        have hT := hid (toRaid A l c wx Hk1.out Hk2.out (Ha.out.up (btr BEL8.out hS)))
        go_simp
        refine hT.out.mono ?_
        rintro e w1 ⟨A3, c3, f3, rfl, ho, hf, hb1⟩
        go_simp
        exact hK _ _ hb1 (btr hS hb1) ⟨A3, c3, rfl, (own_at ho).2⟩
      · intro rx wx hS hd hu K hK
        clear hu
        obtain ⟨A3, c3, h1, h2⟩ : ∃ A3 c3, rx 2 = .agg #[.slice A3 l.length c3] ∧ At wx wx.heap.size A3 l := hd.2.1 rfl
        have h0 : rx 0 = .agg #[.slice A2 l.length c2] := hd.1 rfl
        clear hd
        have hE := hid (eqSame A2 A3 l c2 c3 wx Hl.out (own_at (Ow.below X4.out hS (Ow.lt X4.out))).2 h2)
        clear h2
        go_simp
        refine hE.out.mono ?_
        rintro e w1 ⟨rfl, hb1⟩
        go_simp
        exact hK _ _ hb1 (btr hS hb1) rfl
      · intro rx wx hS hd hu K hK
        clear hu
        simp [Deps, Region.binds] at hd
        go_simp
        exact hK _ _ (Below.refl _ _) hS rfl
    intro rx w7 hS hv
    obtain ⟨A3, c3, v2, _⟩ := hv 2 (by decide)
    have v0 : rx 0 = .agg #[.slice A2 l.length c2] := hv 0 (by decide)
    have v1 : rx 1 = .agg #[.slice A l.length c] := hv 1 (by decide)
    have v3 : rx 3 = .bool true := hv 3 (by decide)
    have v4 : rx 4 = .bool false := hv 4 (by decide)
    rw [v0, v1, v2, v3, v4]
    have RB9 := hid (RB8.out.below hS)
    clear RB8
    have BEL9 := hid (btr BEL8.out hS)
    clear BEL8
    have W07 := hid (W06.out.below ((hS).mono SZ6.out))
    clear W06
    have P66 := hid (P65.out.below hS)
    clear P65
    have X5 := hid (Ow.below X4.out hS (Ow.lt X4.out))
    clear X4
    have P84 := hid (P83.out.below hS)
    clear P83
    have G3 := hid (Ow.below G2.out hS (Ow.lt G2.out))
    clear G2
    have P92 := hid (P91.out.below hS)
    clear P91
    have SZ7 := hid (Nat.le_trans SZ6.out (hS).size)
    clear SZ6
    clear hS hv v0 v1 v2 v3 v4
    have qP8 : _ = some (Value.slice A2 l.length c2) := P84.out.get 0 rfl
    go_wp2_with fail
    refine (markOne A2 l c2 f2 _ X5.out FX.out.1 Hka.out.1).mono ?_
    rintro e w8 ⟨rfl, hm, ht⟩
    clear qP8
    have RB10 := hid (RB9.out.keep (ht.block _ RB9.out.lt (fun hm => by have := FX.out.2 _ hm; have := HS.out; omega)))
    clear RB9
    have BEL10 := hid (BEL9.out.trans (ht.below BEL9.out.size (fun b hm => by have := FX.out.2 b hm; have := HS.out; omega)))
    clear BEL9
    have W08 := hid (W07.out.below (ht.below SZ7.out (fun b hm => by have := FX.out.2 b hm; have := HS.out; omega)))
    clear W07
    have P67 := hid (P66.out.keep (ht.block _ P66.out.lt (fun hm => by have := FX.out.2 _ hm; have := HS.out; omega)))
    clear P66
    have P85 := hid (P84.out.keep (ht.block _ P84.out.lt (fun hm => by have := FX.out.2 _ hm; have := HS.out; omega)))
    clear P84
    have G4 := hid (Ow.frame G3.out fun b hb => ht.block b (Ow.lt G3.out b hb) (fun hm => by have := FX.out.2 b hm; have := FG.out.2 b hb; have := HS.out; omega))
    clear G3
    have P93 := hid (P92.out.keep (ht.block _ P92.out.lt (fun hm => by have := FX.out.2 _ hm; have := HS.out; omega)))
    clear P92
    have SZ8 := hid (Nat.le_trans SZ7.out ht.size)
    clear SZ7
    have X6 := hid (hm)
    clear X5
    clear hm ht
    generalize hka : kAt l 1 l.length = m1 at *
    clear hka
    have hm1 : decide ((m1 : Int) < 0) = false := by rw [decide_eq_false_iff_not]; omega
    have qP9 : _ = some (Value.slice Ag pl.length cg) := P93.out.get 0 rfl
    have qP6 : _ = some (Value.slice Aw pl.length cw) := P67.out.get 0 rfl
    go_wp2_with fail
    refine (eqSame Ag Aw pl cg cw _ ((own_at G4.out).1) (own_at G4.out).2 (W08.out.mono SZ8.out)).mono ?_
    rintro e w9 ⟨rfl, hb9⟩
    clear qP9 qP6
    have RB11 := hid (RB10.out.below hb9)
    clear RB10
    have BEL11 := hid (btr BEL10.out hb9)
    clear BEL10
    have W09 := hid (W08.out.below ((hb9).mono SZ8.out))
    clear W08
    have P68 := hid (P67.out.below hb9)
    clear P67
    have X7 := hid (Ow.below X6.out hb9 (Ow.lt X6.out))
    clear X6
    have P86 := hid (P85.out.below hb9)
    clear P85
    have G5 := hid (Ow.below G4.out hb9 (Ow.lt G4.out))
    clear G4
    have P94 := hid (P93.out.below hb9)
    clear P93
    have SZ9 := hid (Nat.le_trans SZ8.out (hb9).size)
    clear SZ8
    clear hb9
    have qP9 : _ = some (Value.slice Ag pl.length cg) := P94.out.get 0 rfl
    go_wp2_with fail
    refine (markOne Ag pl cg fg _ G5.out FG.out.1 Hkb.out.1).mono ?_
    rintro e w10 ⟨rfl, hm, ht⟩
    clear qP9
    have RB12 := hid (RB11.out.keep (ht.block _ RB11.out.lt (fun hm => by have := FG.out.2 _ hm; have := HS.out; omega)))
    clear RB11
    have BEL12 := hid (BEL11.out.trans (ht.below BEL11.out.size (fun b hm => by have := FG.out.2 b hm; have := HS.out; omega)))
    clear BEL11
    have W010 := hid (W09.out.below (ht.below SZ9.out (fun b hm => by have := FG.out.2 b hm; have := HS.out; omega)))
    clear W09
    have P69 := hid (P68.out.keep (ht.block _ P68.out.lt (fun hm => by have := FG.out.2 _ hm; have := HS.out; omega)))
    clear P68
    have X8 := hid (Ow.frame X7.out fun b hb => ht.block b (Ow.lt X7.out b hb) (fun hm => by have := FG.out.2 b hm; have := FX.out.2 b hb; have := HS.out; omega))
    clear X7
    have P87 := hid (P86.out.keep (ht.block _ P86.out.lt (fun hm => by have := FG.out.2 _ hm; have := HS.out; omega)))
    clear P86
    have P95 := hid (P94.out.keep (ht.block _ P94.out.lt (fun hm => by have := FG.out.2 _ hm; have := HS.out; omega)))
    clear P94
    have SZ10 := hid (Nat.le_trans SZ9.out ht.size)
    clear SZ9
    have G6 := hid (hm)
    clear G5
    clear hm ht
    have qP9 : _ = some (Value.slice Ag pl.length cg) := P95.out.get 0 rfl
    go_wp2_with fail
    refine (heldOne Ag pl cg _ (own_at G6.out).2 Hkb.out.1 Hpl.out).mono ?_
    rintro e w11 ⟨rfl, hb11⟩
    clear qP9
    have RB13 := hid (RB12.out.below hb11)
    clear RB12
    have BEL13 := hid (btr BEL12.out hb11)
    clear BEL12
    have W011 := hid (W010.out.below ((hb11).mono SZ10.out))
    clear W010
    have P610 := hid (P69.out.below hb11)
    clear P69
    have X9 := hid (Ow.below X8.out hb11 (Ow.lt X8.out))
    clear X8
    have P88 := hid (P87.out.below hb11)
    clear P87
    have G7 := hid (Ow.below G6.out hb11 (Ow.lt G6.out))
    clear G6
    have P96 := hid (P95.out.below hb11)
    clear P95
    have SZ11 := hid (Nat.le_trans SZ10.out (hb11).size)
    clear SZ10
    clear hb11
    have Hheld := hid (fun A c w h => heldOne A pl c w h Hkb.out.1 Hpl.out)
    generalize hkb : kAt pl 1 pl.length = m2 at *
    clear hkb
    have hm2 : decide ((m2 : Int) < 0) = false := by rw [decide_eq_false_iff_not]; omega
    have qRB : _ = some (Value.slice A l.length c) := RB13.out.get 0 rfl
    go_wp2_with fail
    refine (toRaid A l c _ Hk1.out Hk2.out (Ha.out.up BEL13.out)).mono ?_
    rintro e w12 ⟨A4, c4, f4, rfl, ho, hf, hb12⟩
    clear qRB
    have RB14 := hid (RB13.out.below hb12)
    clear RB13
    have BEL14 := hid (btr BEL13.out hb12)
    clear BEL13
    have W012 := hid (W011.out.below ((hb12).mono SZ11.out))
    clear W011
    have P611 := hid (P610.out.below hb12)
    clear P610
    have X10 := hid (Ow.below X9.out hb12 (Ow.lt X9.out))
    clear X9
    have P89 := hid (P88.out.below hb12)
    clear P88
    have G8 := hid (Ow.below G7.out hb12 (Ow.lt G7.out))
    clear G7
    have P97 := hid (P96.out.below hb12)
    clear P96
    have SZ12 := hid (Nat.le_trans SZ11.out (hb12).size)
    clear SZ11
    have O4 := hid (own_at ho).2
    clear ho hf hb12
    go_wp2_with fail
    refine (Him.out A4 c4 _ O4.out (HL.out.below BEL14.out)).mono ?_
    rintro e w13 ⟨Ah, ch, fh, rfl, ho, hf, hb13⟩
    clear O4
    have RB15 := hid (RB14.out.below hb13)
    clear RB14
    have BEL15 := hid (btr BEL14.out hb13)
    clear BEL14
    have W013 := hid (W012.out.below ((hb13).mono SZ12.out))
    clear W012
    have P612 := hid (P611.out.below hb13)
    clear P611
    have X11 := hid (Ow.below X10.out hb13 (Ow.lt X10.out))
    clear X10
    have P810 := hid (P89.out.below hb13)
    clear P89
    have G9 := hid (Ow.below G8.out hb13 (Ow.lt G8.out))
    clear G8
    have P98 := hid (P97.out.below hb13)
    clear P97
    have SZ13 := hid (Nat.le_trans SZ12.out (hb13).size)
    clear SZ12
    have Hh0 := hid ho
    clear ho hf hb13
    have RB16 := hid (RB15.out.below (bnew w13 (.cells #[.slice Ah pl.length ch] 28)))
    clear RB15
    have BEL16 := hid (btr BEL15.out (bnew w13 (.cells #[.slice Ah pl.length ch] 28)))
    clear BEL15
    have W014 := hid (W013.out.below (((bnew w13 (.cells #[.slice Ah pl.length ch] 28))).mono SZ13.out))
    clear W013
    have P613 := hid (P612.out.below (bnew w13 (.cells #[.slice Ah pl.length ch] 28)))
    clear P612
    have X12 := hid (Ow.below X11.out (bnew w13 (.cells #[.slice Ah pl.length ch] 28)) (Ow.lt X11.out))
    clear X11
    have P811 := hid (P810.out.below (bnew w13 (.cells #[.slice Ah pl.length ch] 28)))
    clear P810
    have G10 := hid (Ow.below G9.out (bnew w13 (.cells #[.slice Ah pl.length ch] 28)) (Ow.lt G9.out))
    clear G9
    have P99 := hid (P98.out.below (bnew w13 (.cells #[.slice Ah pl.length ch] 28)))
    clear P98
    have Hh1 := hid (Ow.below Hh0.out (bnew w13 (.cells #[.slice Ah pl.length ch] 28)) (Ow.lt Hh0.out))
    clear Hh0
    have SZ14 := hid (Nat.le_trans SZ13.out ((bnew w13 (.cells #[.slice Ah pl.length ch] 28))).size)
    clear SZ13
    have P140 := hid (Row.new w13 #[.slice Ah pl.length ch] 28)
    have qP14 : _ = some (Value.slice Ah pl.length ch) := P140.out.get 0 rfl
    have qP6 : _ = some (Value.slice Aw pl.length cw) := P613.out.get 0 rfl
    go_wp2_with fail
    refine (eqSame Ah Aw pl ch cw _ ((own_at Hh1.out).1) (own_at Hh1.out).2 (W014.out.mono SZ14.out)).mono ?_
    rintro e w14 ⟨rfl, hb14⟩
    clear qP14 qP6
    have RB17 := hid (RB16.out.below hb14)
    clear RB16
    have BEL17 := hid (btr BEL16.out hb14)
    clear BEL16
    have W015 := hid (W014.out.below ((hb14).mono SZ14.out))
    clear W014
    have P614 := hid (P613.out.below hb14)
    clear P613
    have X13 := hid (Ow.below X12.out hb14 (Ow.lt X12.out))
    clear X12
    have P812 := hid (P811.out.below hb14)
    clear P811
    have G11 := hid (Ow.below G10.out hb14 (Ow.lt G10.out))
    clear G10
    have P910 := hid (P99.out.below hb14)
    clear P99
    have Hh2 := hid (Ow.below Hh1.out hb14 (Ow.lt Hh1.out))
    clear Hh1
    have P141 := hid (P140.out.below hb14)
    clear P140
    have SZ15 := hid (Nat.le_trans SZ14.out (hb14).size)
    clear SZ14
    clear hb14
    have qP9 : _ = some (Value.slice Ag pl.length cg) := P910.out.get 0 rfl
    go_wp2_with fail
    refine (Hheld.out Ag cg _ (own_at G11.out).2).mono ?_
    rintro e w15 ⟨rfl, hb15⟩
    clear qP9
    have RB18 := hid (RB17.out.below hb15)
    clear RB17
    have BEL18 := hid (btr BEL17.out hb15)
    clear BEL17
    have W016 := hid (W015.out.below ((hb15).mono SZ15.out))
    clear W015
    have P615 := hid (P614.out.below hb15)
    clear P614
    have X14 := hid (Ow.below X13.out hb15 (Ow.lt X13.out))
    clear X13
    have P813 := hid (P812.out.below hb15)
    clear P812
    have G12 := hid (Ow.below G11.out hb15 (Ow.lt G11.out))
    clear G11
    have P911 := hid (P910.out.below hb15)
    clear P910
    have Hh3 := hid (Ow.below Hh2.out hb15 (Ow.lt Hh2.out))
    clear Hh2
    have P142 := hid (P141.out.below hb15)
    clear P141
    have SZ16 := hid (Nat.le_trans SZ15.out (hb15).size)
    clear SZ15
    clear hb15
    go_wp2
    go_ret
    exact ⟨rfl, BEL18.out⟩
  · have hless : less 1048576 (wtL wtDisk l) < 0 := by unfold less; rw [if_pos (by omega)]; omega
    generalize less 1048576 (wtL wtDisk l) = left0 at *
    clear hw
    go_wp2
    go_ret
    exact ⟨rfl, BELa.out⟩
end Pm
end Go.Proofs.YtdjkdcokjoiokaaGreatDoor

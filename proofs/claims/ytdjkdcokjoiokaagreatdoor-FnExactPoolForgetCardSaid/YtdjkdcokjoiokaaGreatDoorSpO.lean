/- The reference's copy of a set of disks. -/
import Derived.Test.YtdjkdcokjoiokaaGreatDoorSpN
import Derived.Test.YtdjkdcokjoiokaaGreatDoorPart
namespace Go.Proofs.YtdjkdcokjoiokaaGreatDoor
open Go.RowKit
namespace Pm
theorem Part.ban {ban base hi : Nat} {w : World} {v : Value} {l : List Disk} (h : Part ban base hi w v l) : v.ownBlock ≠ some ban := by
  obtain ⟨xs, fps, h1, h2, h3, h4, h5, h6⟩ := h
  intro e; exact (h5 _ e).2 rfl
/-- What is kept while one more disk is copied: the row so far, the variable that holds it. -/
def C4 (b3 base k : Nat) (l : List Disk) (v0 : Value) (wr : World) (D : Nat → Bool) (rx : Nat → Value) (wx : World) : Prop :=
  Touch (b3 :: v0.ownBlock.toList) wr wx ∧ (D 9 = false → Part b3 base wr.heap.size wx v0 (l.take k)) ∧ (D 9 = true → Part b3 base wx.heap.size wx (rx 9) (l.take (k + 1))) ∧ (D 11 = false → Row wx b3 #[v0]) ∧ (D 11 = true → Row wx b3 #[rx 9])
section
variable {b3 base k : Nat} {l : List Disk} {v0 : Value} {wr wx wy : World} {D D' : Nat → Bool} {rx ry : Nat → Value}
theorem C4.start (h : Part b3 base wr.heap.size wr v0 (l.take k)) (h3 : Row wr b3 #[v0]) : C4 b3 base k l v0 wr (fun _ => false) rx wr.drew :=
  ⟨(Touch.refl _ _).drew, fun _ => h.below (bdr (Below.refl _ _)), fun e => absurd e (by simp), fun _ => h3.drew, fun e => absurd e (by simp)⟩
theorem C4.below (h : C4 b3 base k l v0 wr D rx wx) (hb : Below wx.heap.size wx wy) (h9 : D' 9 = D 9) (h11 : D' 11 = D 11) (hr : ry 9 = rx 9) : C4 b3 base k l v0 wr D' ry wy := by
  obtain ⟨h1, h2, h3, h4, h5⟩ := h
  refine ⟨h1.trans (Touch.of_below hb), fun e => ?_, fun e => ?_, fun e => ?_, fun e => ?_⟩
  · rw [h9] at e; exact (h2 e).below hb
  · rw [h9] at e; rw [hr]; exact ((h3 e).below hb).mono hb.size (Nat.le_refl _)
  · rw [h11] at e; exact (h4 e).below hb
  · rw [h11] at e; rw [hr]; exact (h5 e).below hb
theorem C4.belowB (h : C4 b3 base k l v0 wr D rx wx) (hf : base ≤ wr.heap.size ∧ ∀ b ∈ b3 :: v0.ownBlock.toList, base ≤ b) : Below base wr wx := h.1.below hf.1 hf.2
end
theorem own_touch {α : Type} [Ow α] {w w' : World} {cs : List Value} {x : α} {f fp : List Nat} {B : Nat} (h : Ow.own w cs x f) (hf : Fp B w.heap.size f) (ht : Touch fp w w') (hfp : ∀ b ∈ fp, b < B) : Ow.own w' cs x f :=
  Ow.frame h fun b hb => ht.block b (hf.2 b hb).2 fun hm => by have := hfp b hm; have := (hf.2 b hb).1; omega

set_option maxRecDepth 100000 in
set_option maxHeartbeats 1000000 in
theorem spCopy4 (A : Option Addr) (l : Raid) (c : Nat) (w : World) (hl : l.length ≤ 1000) (h : At w w.heap.size A l)
    (hin : ∀ d ∈ l, d.1.length ≤ 1048576 ∧ d.2.1.length ≤ 1048576 ∧ (∀ x ∈ d.1, x.length ≤ big) ∧ (∀ x ∈ d.2.1, InI x.1 ∧ x.2.length ≤ big)) :
    Calls Tryz.prog 42 #[.agg #[.slice A l.length c]] w fun e w' => ∃ A' c' fp, e = .returned (.agg #[.slice A' l.length c']) ∧ Ow.own w' [.slice A' l.length c'] l fp ∧ Fp w.heap.size w'.heap.size fp ∧ Below w.heap.size w w' := by
  have Ha := hid h; have Hin := hid hin
  have Hl := hid hl
  clear h hin
  generalize hW : (((w.alloc (.cells #[.slice A l.length c] 28)).alloc (.cells #[.slice none 0 0] 28)).alloc (.cells #[] 90)).alloc (.cells #[.slice (some ⟨w.heap.size + 1 + 1, 0, none⟩) 0 0] 28) = W
  have HB : Hid (Below w.heap.size w W) := hid (by rw [← hW]; exact bal (bal (bal (bnew _ _) _) _) _)
  have HRb : Hid (Row W w.heap.size #[.slice A l.length c]) := hid (by rw [← hW]; exact (((Row.new _ _ _).alloc _).alloc _).alloc _)
  have HRr : Hid (Row W (w.heap.size + 1) #[.slice none 0 0]) := hid (by rw [← hW]; have := ((Row.new (w.alloc (.cells #[.slice A l.length c] 28)) #[.slice none 0 0] 28).alloc (.cells #[] 90)).alloc (.cells #[.slice (some ⟨w.heap.size + 1 + 1, 0, none⟩) 0 0] 28); simpa using this)
  have HR3 : Hid (Row W (w.heap.size + 1 + 1 + 1) #[.slice (some ⟨w.heap.size + 1 + 1, 0, none⟩) 0 0]) := hid (by rw [← hW]; have := Row.new (((w.alloc (.cells #[.slice A l.length c] 28)).alloc (.cells #[.slice none 0 0] 28)).alloc (.cells #[] 90)) #[.slice (some ⟨w.heap.size + 1 + 1, 0, none⟩) 0 0] 28; simpa using this)
  have Hsz : Hid (W.heap.size = w.heap.size + 4) := hid (by rw [← hW]; simp)
  have HP : Hid (Part (w.heap.size + 1 + 1 + 1) (w.heap.size + 2) W.heap.size W (.slice (some ⟨w.heap.size + 1 + 1, 0, none⟩) 0 0) []) := hid (by
    refine Part.start ?_ (by rw [Hsz.out]; omega) (by simp [Value.ownBlock])
    have h := (owns_newE (w := (w.alloc (.cells #[.slice A l.length c] 28)).alloc (.cells #[.slice none 0 0] 28)) (base := w.heap.size + 2) (size := 3) (e := 90) (by simp)).alloc (.cells #[.slice (some ⟨w.heap.size + 1 + 1, 0, none⟩) 0 0] 28)
    rw [hW] at h
    simpa using h)
  go_enter Tryz.func42, Tryz.ntmps42
  go_wp2
  try rw [hW]
  clear hW
  generalize hb3 : w.heap.size + 1 + 1 + 1 = b3 at *
  have Hb3 := hid hb3
  clear hb3
  go_loopw [4] (fun iv wr => ∃ (k : Nat) (v0 : Value), k ≤ l.length ∧ iv = .int .i64 k ∧ Hid (Part b3 (w.heap.size + 2) wr.heap.size wr v0 (l.take k)) ∧ Hid (Row wr b3 #[v0]) ∧ Hid (Row wr w.heap.size #[.slice A l.length c]) ∧ Hid (Row wr (w.heap.size + 1) #[.slice none 0 0]) ∧ Below w.heap.size w wr) (fun iv _ => l.length - (intOf iv).toNat)
  case atStart => exact ⟨0, _, by omega, rfl, HP, HR3, HRb, HRr, HB.out⟩
  case round =>
    clear HP HR3 HRb HRr HB
    obtain ⟨k, v0, hk, rfl, HP, HR3, HRb, HRr, hbel⟩ := hrel
    have hbox := HRb.out.get 0 rfl
    by_cases hlt : k < l.length
    · obtain ⟨b, off, cs, rfl, hb, hc, hv⟩ := Ha.out.elem hlt
      obtain ⟨x, Hx⟩ : ∃ x, Hid (x = l[k]) := ⟨l[k], hid rfl⟩
      have Hx1 := hid (Hin.out _ (List.getElem_mem hlt))
      rw [← Hx.out] at hc Hx1
      obtain ⟨A1, c1, A2, c2, rfl, hx1, ha1, hx2, ha2⟩ := disk_cells hc
      have e0 := hv 0 _ rfl
      have e1 := hv 1 _ rfl
      have e2 := hv 2 _ rfl
      simp only [Rep.size, Nat.add_zero, Nat.reduceAdd] at e0 e1 e2
      have Hv := hid (And.intro e0 (And.intro e1 e2))
      have Hb := hid hb; have Ha1 := hid ha1; have Ha2 := hid ha2; have Hbel := hid hbel; have Hlt := hid hlt
      have Hfp : Hid (∀ q ∈ b3 :: v0.ownBlock.toList, q < wr.heap.size) := hid (by
        obtain ⟨xs, fps, k1, k2, k3, k4, k5, k6, k7⟩ := HP.out
        intro q hq
        rcases List.mem_cons.1 hq with rfl | hq
        · exact k7
        · exact (k5 q (by simpa using hq)).1)
      have Hfp2 : Hid (w.heap.size + 2 ≤ wr.heap.size ∧ ∀ q ∈ b3 :: v0.ownBlock.toList, w.heap.size + 2 ≤ q) := hid (by
        obtain ⟨xs, fps, k1, k2, k3, k4, k5, k6, k7⟩ := HP.out
        refine ⟨by have := Hb3.out; omega, fun q hq => ?_⟩
        rcases List.mem_cons.1 hq with rfl | hq
        · have := Hb3.out; omega
        · obtain ⟨_, ⟨rfl, _⟩ | ⟨g, cap, cur, rfl, hg, _⟩⟩ := k1
          · simp [Value.ownBlock] at hq
          · simp [Value.ownBlock] at hq; omega)
      clear hv hc hx1 hx2 ha1 ha2 e0 e1 e2 hb hbel
      have hltI : (k : Int) < l.length := by omega
      go_wp2_with fail
      refine wp_region_X (P := Tryz.prog) follows_mixed (by kernel_rfl) (fun rx => ⟨#[.agg #[.slice (some ⟨b, off, none⟩) l.length c], .pointer (some ⟨w.heap.size, 0, none⟩), .pointer (some ⟨w.heap.size + 1, 0, none⟩), .pointer (some ⟨b3, 0, none⟩), .int .i64 ↑k, .slice (some ⟨w.heap.size + 1 + 1, 0, none⟩) 0 0, .agg #[.slice (some ⟨w.heap.size + 1 + 1, 0, none⟩) 0 0], .int .i64 ↑k, .pointer (some ⟨w.heap.size, 0, none⟩), .slice (some ⟨b, off, none⟩) l.length c, .int .i64 ↑l.length, .bool true, u12, u13, rx 0, rx 1, rx 2, rx 3, rx 4, rx 5, rx 6, rx 7, rx 8, rx 9, rx 10, undef], []⟩) (fun j => ([u14, u15, u16, u17, u18, u19, u20, u21, u22, u23, u24, undef] : List Value).getD j undef) (fun j v wx => match j with | 0 => v = .pointer (some ⟨b3, 0, none⟩) | 1 => v = v0 | 2 => v = .pointer (some ⟨w.heap.size, 0, none⟩) | 3 => v = .slice (some ⟨b, off, none⟩) l.length c | 4 => v = .int .i64 (k : Int) | 5 => v = .pointer (some ⟨b, off + k * 3, none⟩) | 6 => v = .agg #[.slice A1 x.1.length c1, .slice A2 x.2.1.length c2, .bool x.2.2] | 7 => ∃ B1 B2 k1 k2 fp, v = .agg #[.slice B1 x.1.length k1, .slice B2 x.2.1.length k2, .bool x.2.2] ∧ Ow.own wx [.slice B1 x.1.length k1, .slice B2 x.2.1.length k2, .bool x.2.2] x fp ∧ Fp wr.heap.size wx.heap.size fp | 8 => ∃ gb B1 B2 k1 k2 fp, v = .slice (some ⟨gb, 0, none⟩) 1 1 ∧ wr.heap.size ≤ gb ∧ Row wx gb #[.slice B1 x.1.length k1, .slice B2 x.2.1.length k2, .bool x.2.2] ∧ Ow.own wx [.slice B1 x.1.length k1, .slice B2 x.2.1.length k2, .bool x.2.2] x fp ∧ Fp wr.heap.size wx.heap.size fp | 9 => True | 10 => v = .pointer (some ⟨b3, 0, none⟩) | 11 => True | _ => True) (fun D => C4 b3 (w.heap.size + 2) k l v0 wr D) (Touch (b3 :: v0.ownBlock.toList)) ?hVb ?hSb ?hopb ?hendb
      case hVb =>
        intro j v wx wy h hR
        match j, h with
        | 0, h => exact h
        | 1, h => exact h
        | 2, h => exact h
        | 3, h => exact h
        | 4, h => exact h
        | 5, h => exact h
        | 6, h => exact h
        | 10, h => exact h
        | 7, h => (obtain ⟨B1, B2, k1, k2, fp, h1, h2, h3⟩ := h; exact ⟨B1, B2, k1, k2, fp, h1, own_touch h2 h3 hR Hfp.out, h3.mono (Nat.le_refl _) hR.size⟩)
        | 8, h => (obtain ⟨gb, B1, B2, k1, k2, fp, h1, h4, h5, h2, h3⟩ := h; exact ⟨gb, B1, B2, k1, k2, fp, h1, h4, h5.keep (hR.block _ h5.lt fun hm => by have := Hfp.out _ hm; omega), own_touch h2 h3 hR Hfp.out, h3.mono (Nat.le_refl _) hR.size⟩)
        | 9, h => trivial
        | 11, h => trivial
        | _ + 12, _ => exact trivial
      case hSb => exact C4.start HP.out HR3.out
      case hopb =>
        intro F hF
        have Pb_0 : ∀ x v, (⟨(F x).tmps.setIfInBounds 14 v, (F x).defers⟩ : Act) = F (upd x 0 v) := by subst hF; intro x v; rfl
        have Eb_0 : ∀ x, (F x).tmps[14]?.getD undef = x 0 := by subst hF; intro x; rfl
        have Pb_1 : ∀ x v, (⟨(F x).tmps.setIfInBounds 15 v, (F x).defers⟩ : Act) = F (upd x 1 v) := by subst hF; intro x v; rfl
        have Eb_1 : ∀ x, (F x).tmps[15]?.getD undef = x 1 := by subst hF; intro x; rfl
        have Pb_2 : ∀ x v, (⟨(F x).tmps.setIfInBounds 16 v, (F x).defers⟩ : Act) = F (upd x 2 v) := by subst hF; intro x v; rfl
        have Eb_2 : ∀ x, (F x).tmps[16]?.getD undef = x 2 := by subst hF; intro x; rfl
        have Pb_3 : ∀ x v, (⟨(F x).tmps.setIfInBounds 17 v, (F x).defers⟩ : Act) = F (upd x 3 v) := by subst hF; intro x v; rfl
        have Eb_3 : ∀ x, (F x).tmps[17]?.getD undef = x 3 := by subst hF; intro x; rfl
        have Pb_4 : ∀ x v, (⟨(F x).tmps.setIfInBounds 18 v, (F x).defers⟩ : Act) = F (upd x 4 v) := by subst hF; intro x v; rfl
        have Eb_4 : ∀ x, (F x).tmps[18]?.getD undef = x 4 := by subst hF; intro x; rfl
        have Pb_5 : ∀ x v, (⟨(F x).tmps.setIfInBounds 19 v, (F x).defers⟩ : Act) = F (upd x 5 v) := by subst hF; intro x v; rfl
        have Eb_5 : ∀ x, (F x).tmps[19]?.getD undef = x 5 := by subst hF; intro x; rfl
        have Pb_6 : ∀ x v, (⟨(F x).tmps.setIfInBounds 20 v, (F x).defers⟩ : Act) = F (upd x 6 v) := by subst hF; intro x v; rfl
        have Eb_6 : ∀ x, (F x).tmps[20]?.getD undef = x 6 := by subst hF; intro x; rfl
        have Pb_7 : ∀ x v, (⟨(F x).tmps.setIfInBounds 21 v, (F x).defers⟩ : Act) = F (upd x 7 v) := by subst hF; intro x v; rfl
        have Eb_7 : ∀ x, (F x).tmps[21]?.getD undef = x 7 := by subst hF; intro x; rfl
        have Pb_8 : ∀ x v, (⟨(F x).tmps.setIfInBounds 22 v, (F x).defers⟩ : Act) = F (upd x 8 v) := by subst hF; intro x v; rfl
        have Eb_8 : ∀ x, (F x).tmps[22]?.getD undef = x 8 := by subst hF; intro x; rfl
        have Pb_9 : ∀ x v, (⟨(F x).tmps.setIfInBounds 23 v, (F x).defers⟩ : Act) = F (upd x 9 v) := by subst hF; intro x v; rfl
        have Eb_9 : ∀ x, (F x).tmps[23]?.getD undef = x 9 := by subst hF; intro x; rfl
        have Pb_10 : ∀ x v, (⟨(F x).tmps.setIfInBounds 24 v, (F x).defers⟩ : Act) = F (upd x 10 v) := by subst hF; intro x v; rfl
        have Eb_10 : ∀ x, (F x).tmps[24]?.getD undef = x 10 := by subst hF; intro x; rfl
        have Eb_e1 : ∀ x, (F x).tmps[1]?.getD undef = .pointer (some ⟨w.heap.size, 0, none⟩) := by subst hF; intro x; rfl
        have Eb_e3 : ∀ x, (F x).tmps[3]?.getD undef = .pointer (some ⟨b3, 0, none⟩) := by subst hF; intro x; rfl
        have Eb_e4 : ∀ x, (F x).tmps[4]?.getD undef = .int .i64 (k : Int) := by subst hF; intro x; rfl
        have Pb_11 : ∀ x v, F (upd x 11 v) = F x := by subst hF; intro x v; rfl
        have Pb_n11 : ∀ x, (⟨(F x).tmps, (F x).defers⟩ : Act) = F x := by intro x; rfl
        clear hF
        simp only [OpAllX]
        refine ⟨?_, ?_, ?_, ?_, ?_, ?_, ?_, ?_, ?_, ?_, ?_, ?_, trivial⟩
        · intro D rx wx hS hd hu hx0 hn hni hdn K hK
          clear hu hn hdn
          simp [Deps, Region.binds] at hd
          go_simp
          exact hK _ _ (Touch.refl _ _) hS rfl
        · intro D rx wx hS hd hu hx0 hn hni hdn K hK
          have hN11 := hn 11 (by kernel_rfl)
          clear hu hn hdn
          simp [Deps, Region.binds] at hd
          have e0 := (hS.2.2.2.1 hN11).get 0 rfl
          go_simp
          exact hK _ _ (Touch.refl _ _) hS rfl
        · intro D rx wx hS hd hu hx0 hn hni hdn K hK
          clear hu hn hdn
          simp [Deps, Region.binds] at hd
          go_simp
          exact hK _ _ (Touch.refl _ _) hS rfl
        · intro D rx wx hS hd hu hx0 hn hni hdn K hK
          clear hu hn hdn
          simp [Deps, Region.binds] at hd
          have e0 := (HRb.out.keep ((hS.belowB Hfp2.out).block _ (by omega))).get 0 rfl
          go_simp
          exact hK _ _ (Touch.refl _ _) hS rfl
        · intro D rx wx hS hd hu hx0 hn hni hdn K hK
          clear hu hn hdn
          simp [Deps, Region.binds] at hd
          go_simp
          exact hK _ _ (Touch.refl _ _) hS rfl
        · intro D rx wx hS hd hu hx0 hn hni hdn K hK
          clear hu hn hdn
          simp [Deps, Region.binds] at hd
          go_simp
          exact hK _ _ (Touch.refl _ _) hS rfl
        · intro D rx wx hS hd hu hx0 hn hni hdn K hK
          clear hu hn hdn
          simp [Deps, Region.binds] at hd
          have hbw := Hbel.out.trans ((hS.belowB Hfp2.out).mono (by omega))
          have e1 := (hbw.cell (p := ⟨b, off + k * 3, none⟩) Hb.out).trans Hv.out.1
          have e2 := (hbw.cell (p := ⟨b, off + k * 3 + 1, none⟩) Hb.out).trans Hv.out.2.1
          have e3 := (hbw.cell (p := ⟨b, off + k * 3 + 2, none⟩) Hb.out).trans Hv.out.2.2
          go_simp
          exact hK _ _ (Touch.refl _ _) hS rfl
        · intro D rx wx hS hd hu hx0 hn hni hdn K hK
          clear hu hn hdn
          simp [Deps, Region.binds] at hd
          have hbw := Hbel.out.trans ((hS.belowB Hfp2.out).mono (by omega))
          go_simp
          refine (spCopy3 A1 A2 c1 c2 x _ Hx1.out.1 (Ha1.out.up hbw) Hx1.out.2.1 (Ha2.out.up hbw) Hx1.out.2.2.1 Hx1.out.2.2.2).mono ?_
          rintro e w1 ⟨B1, B2, k1, k2, fp, rfl, ho, hf, hb1⟩
          go_simp
          exact hK _ _ (Touch.of_below hb1) (hS.below hb1 rfl rfl rfl) ⟨B1, B2, k1, k2, fp, rfl, ho, hf.mono hS.1.size (Nat.le_refl _)⟩
        · intro D rx wx hS hd hu hx0 hn hni hdn K hK
          clear hu hn hdn
          obtain ⟨B1, B2, k1, k2, fp, e7, ho, hf⟩ : ∃ B1 B2 k1 k2 fp, rx 7 = .agg #[.slice B1 x.1.length k1, .slice B2 x.2.1.length k2, .bool x.2.2] ∧ Ow.own wx [.slice B1 x.1.length k1, .slice B2 x.2.1.length k2, .bool x.2.2] x fp ∧ Fp wr.heap.size wx.heap.size fp := hd.1 rfl
          clear hd
          go_simp
          exact hK _ _ (Touch.of_below (bnew _ _)) (hS.below (bnew _ _) rfl rfl rfl) ⟨_, B1, B2, k1, k2, fp, rfl, hS.1.size, Row.new _ _ _, Ow.below ho (bnew _ _) (fun b hb => (hf.2 b hb).2), hf.mono (Nat.le_refl _) (bnew _ _).size⟩
        · intro D rx wx hS hd hu hx0 hn hni hdn K hK
          have hN11 := hn 11 (by kernel_rfl)
          clear hu hn hdn
          obtain ⟨e1, gb, B1, B2, k1, k2, fp, e8, hgb, hrow, ho, hf⟩ : rx 1 = v0 ∧ ∃ gb B1 B2 k1 k2 fp, rx 8 = .slice (some ⟨gb, 0, none⟩) 1 1 ∧ wr.heap.size ≤ gb ∧ Row wx gb #[.slice B1 x.1.length k1, .slice B2 x.2.1.length k2, .bool x.2.2] ∧ Ow.own wx [.slice B1 x.1.length k1, .slice B2 x.2.1.length k2, .bool x.2.2] x fp ∧ Fp wr.heap.size wx.heap.size fp := ⟨hd.1 rfl, hd.2.1 rfl⟩
          have hp := hS.2.1 hni
          refine if_yes rfl ?_
          refine wp_part _ _ rfl b3 (w.heap.size + 2) wr.heap.size v0 (l.take k) (by simp [Act.eval, Eb_1, e1]) hp gb _ _ _ (by simp [Act.eval, Eb_8, e8]) hrow x fp ho hf (by intro u hu; simp only [List.mem_cons, List.not_mem_nil, or_false] at hu; rcases hu with rfl | rfl | rfl <;> rfl) (by have := Hl.out; simp; omega) Hfp2.out.1 fun v' w' h1 h2 => ?_
          have htk : l.take k ++ [x] = l.take (k + 1) := by rw [List.take_succ_eq_append_getElem Hlt.out, ← Hx.out]
          rw [htk] at h1
          have ht : Touch (b3 :: v0.ownBlock.toList) wx w' := ⟨h2.os, h2.tape, h2.output, h2.size, fun q hq hm => h2.block q hq fun e => hm (List.mem_cons_of_mem _ (by rw [← e]; simp))⟩
          have hr3 := hS.2.2.2.1 hN11
          have := hK v' w' ht ⟨hS.1.trans ht, fun h => absurd h (by simp [updB]), fun _ => h1, fun _ => hr3.keep (h2.block _ hr3.lt fun e => hp.ban e.symm), fun h => absurd (hN11.symm.trans h) (by simp)⟩ trivial
          rw [← Pb_9] at this
          exact this
        · intro D rx wx hS hd hu hx0 hn hni hdn K hK
          clear hu hn hdn
          simp [Deps, Region.binds] at hd
          go_simp
          exact hK _ _ (Touch.refl _ _) hS rfl
        · intro D rx wx hS hd hu hx0 hn hni hdn K hK
          have hD9 := hdn 9 (by kernel_rfl)
          clear hu hn hdn
          have hp := hS.2.2.1 hD9
          obtain ⟨A', c', e9⟩ := hp.slice
          rw [List.length_take] at e9
          have hr := hS.2.2.2.1 hni
          have r0 := hr.get 0 rfl; have g0 := hr.free 0
          have e10 : rx 10 = .pointer (some ⟨b3, 0, none⟩) := hd.1 rfl
          clear hd
          go_simp
          have hset : Touch [b3] wx (wx.setCell ⟨b3, 0, none⟩ (rx 9)) := (Touch.refl _ _).set (by simp) _ _
          have := hK (.bool true) (wx.setCell ⟨b3, 0, none⟩ (rx 9)) (hset.mono (by simp)) ⟨hS.1.trans (hset.mono (by simp)), fun h => absurd (hD9.symm.trans h) (by simp), fun _ => (hp.touch hset).mono (by rw [heap_setCell_size]; exact Nat.le_refl _) (Nat.le_refl _), fun h => absurd h (by simp [updB]), fun _ => hr.set 0 _⟩ trivial
          rw [Pb_11, e9] at this
          exact this
      intro D rx w4 hS hdone hv
      have hp := hS.2.2.1 (hdone 9 (by decide))
      have hr := hS.2.2.2.2 (hdone 11 (by decide))
      have hbB := hS.belowB Hfp2.out
      have Hp := hid hp; have Hr := hid hr
      have HR0 := hid (HRb.out.keep (hbB.block _ (by omega)))
      have HR1 := hid (HRr.out.keep (hbB.block _ (by omega)))
      have Hb4 := hid (Hbel.out.trans (hbB.mono (by omega)))
      clear hS hv hp hr hbB
      go_wp2
      go_roundw
      case rel => exact ⟨k + 1, rx 9, by omega, by go_num, Hp, Hr, HR0, HR1, Hb4.out⟩
      case measure => simp only [intOf]; omega
    · have hk' : k = l.length := by omega
      subst hk'
      rw [List.take_length] at HP
      obtain ⟨VA, vc, rfl⟩ := HP.out.slice
      obtain ⟨fp, _, ho, hf⟩ := HP.out.own (by unfold big; omega)
      have r0 := HR3.out.get 0 rfl
      have q0 := HRr.out.get 0 rfl; have qg0 := HRr.out.free 0
      have Ho := hid ho; have Hf := hid hf; have Hbel := hid hbel
      clear ho hf hbel
      go_wp2
      refine bodyPost_ret (v := .agg #[.slice VA l.length vc]) (by simp [results, Tryz.results42, go_sem, q0]) rfl ?_
      refine ⟨VA, vc, rfl, fp, Ow.frame Ho.out fun b hb => heap_setCell_far _ _ _ _ _ ?_, ?_, ?_⟩
      · have := (Hf.out.2 b hb).1; omega
      · rw [heap_setCell_size]; exact Hf.out.mono (by omega) (Nat.le_refl _)
      · exact bset Hbel.out (by omega) _ _
end Pm
end Go.Proofs.YtdjkdcokjoiokaaGreatDoor

/- The reference's text of a root. -/
import Derived.Test.YtdjkdcokjoiokaaGreatDoorSpI
import Derived.Test.YtdjkdcokjoiokaaGreatDoorCopy
namespace Go.Proofs.YtdjkdcokjoiokaaGreatDoor
open Go.RowKit
namespace Pm
open Pl (dec dch inR Ptr Tree Root hole ptrHole ptrOk)

theorem optStr_eq (o : Option Str) : optStr o = .tuple #[.string ⟨(o.getD []).toArray⟩, .bool o.isSome] := by cases o <;> rfl

theorem at_two {w : World} {T : TypeId} (x y : Str) (hx : x.length ≤ big) (hy : y.length ≤ big) :
    At (w.alloc (.cells #[.string ⟨x.toArray⟩, .string ⟨y.toArray⟩] T)) (w.alloc (.cells #[.string ⟨x.toArray⟩, .string ⟨y.toArray⟩] T)).heap.size (some ⟨w.heap.size, 0, none⟩) [x, y] := by
  intro _
  refine ⟨w.heap.size, 0, rfl, by simp, fun i s hi => ?_⟩
  match i, hi with
  | 0, hi => simp only [List.getElem?_cons_zero, Option.some.injEq] at hi; subst hi; exact ⟨[vstr x], ⟨rfl, hx⟩, fun j u hj => by match j, hj with | 0, hj => simp at hj; subst hj; simp [vstr]⟩
  | 1, hi => simp only [List.getElem?_cons_zero, List.getElem?_cons_succ, Option.some.injEq] at hi; subst hi; exact ⟨[vstr y], ⟨rfl, hy⟩, fun j u hj => by match j, hj with | 0, hj => simp at hj; subst hj; simp [vstr, Rep.size]⟩
  | i + 2, hi => simp at hi

theorem fields_len (r : Root) : ∀ x ∈ Pl.rootFields r, x.length ≤ 60 := by
  have h1 := ptrPut_len r.tree.root
  have h2 := numPut_len r.txg
  have h3 := numPut_len r.tree.depth
  have h4 := numPut_len r.tree.many
  intro x hx
  simp only [Pl.rootFields, Pl.treeFields, List.mem_cons, List.not_mem_nil, or_false] at hx
  rcases hx with rfl | rfl | rfl | rfl | rfl <;> first | omega | simp
theorem fp_len (l : List Str) : (Pl.fp l).length ≤ 2048 := by
  unfold Pl.fp
  cases h : Pl.fieldsPut l with
  | none => simp
  | some s => exact (Pl.fieldsPut_some.1 h).2.1

set_option maxRecDepth 100000 in
set_option maxHeartbeats 1000000 in
theorem spRootPut (r : Root) (w : World) : Calls Tryz.prog 233 #[vroot r] w fun e w' => e = .returned (.string ⟨(Pl.rootPut r).toArray⟩) ∧ Below w.heap.size w w' := by
  have Hok := hid (spRootOk r)
  generalize hq1 : Pl.rootOk r = q1 at Hok
  cases q1
  · have Hr : Hid (Pl.rootPut r = []) := hid (by unfold Pl.rootPut; rw [if_neg (by rw [hq1]; simp)])
    clear hq1
    obtain ⟨txg, ⟨⟨pat, birth, size, sum, level⟩, depth, many⟩⟩ := r
    unfold vroot at *
    dsimp only at *
    go_enter Tryz.func233, Tryz.ntmps233
    go_wp2_with (go_at_call 232; refine (Hok.out _).mono ?_; rintro e w2 ⟨rfl, hb2⟩)
    go_ret
    exact ⟨by rw [Hr.out]; rfl, btr (bnew _ _) hb2⟩
  · have Hr : Hid (Pl.rootPut r = Pl.fp (Pl.rootFields r ++ [dec (Pl.sumOf (Pl.fp (Pl.rootFields r)))])) := hid (by unfold Pl.rootPut; rw [if_pos hq1]; rfl)
    obtain ⟨b1, _, b3, b4⟩ := Pl.rootOk_bounds hq1
    clear hq1
    have Ht := hid (fun w => spTree r.tree w (by omega) (by omega))
    have Hl := hid (fields_len r)
    have htl := hid (show (Pl.treeFields r.tree).length = 3 from rfl)
    have Hf : Hid (Pl.rootFields r = [[114, 111, 111, 116], dec r.txg.toNat] ++ Pl.treeFields r.tree) := hid (by unfold Pl.rootFields; rw [(Pl.nine r.txg (by omega) (by omega)).2]; rfl)
    have hrl := hid (show (Pl.rootFields r).length = 5 from rfl)
    generalize Pl.rootFields r = rf at *
    generalize hp : Pl.fp rf = fpr at *
    have hpl := fp_len rf
    rw [hp] at hpl
    have Hp := hid hp
    have Hsum := hid (Pl.sumOf_le fpr)
    have Hs := hid (fun w => spSumOf fpr w (by unfold big; omega))
    have Hd := hid (fun w => l6Dec (Pl.sumOf fpr) w (by have := Hsum.out; omega))
    have Hdl := hid (Pl.dec_length_le 9 (Pl.sumOf fpr) (by have := Hsum.out; omega))
    have Hfp1 := hid (fun A c w => spFieldsPut A rf c w (by rw [hrl.out]; unfold big; omega))
    generalize hz : dec (Pl.sumOf fpr) = sd at *
    have Hfp2 := hid (fun A c w => spFieldsPut A (rf ++ [sd]) c w (by simp [hrl.out, big]))
    rw [optStr_eq] at Hfp1 Hfp2
    have e1 : (Pl.fieldsPut rf).getD [] = fpr := hp
    have e2 : (Pl.fieldsPut (rf ++ [sd])).getD [] = Pl.rootPut r := Hr.out.symm
    rw [e1] at Hfp1
    rw [e2] at Hfp2
    clear hp hz e1 e2 Hr
    generalize Pl.sumOf fpr = sn at *
    generalize Pl.rootPut r = res at *
    generalize Pl.treeFields r.tree = tf at *
    generalize Pl.fieldsPut rf = o1 at *
    generalize Pl.fieldsPut (rf ++ [sd]) = o2 at *
    obtain ⟨txg, ⟨⟨pat, birth, size, sum, level⟩, depth, many⟩⟩ := r
    unfold vroot vtree at *
    dsimp only at *
    obtain ⟨tn, rfl⟩ := Int.eq_ofNat_of_zero_le (show 0 ≤ txg by omega)
    have Hd1 := hid (fun w => l6Dec tn w (by omega))
    have Hdl1 := hid (Pl.dec_length_le 9 tn (by omega))
    simp only [Int.toNat_natCast] at Hf
    generalize dec tn = ds at *
    clear b1 b3 b4 hpl
    go_enter Tryz.func233, Tryz.ntmps233
    go_wp2_with (go_at_call 232; refine (Hok.out _).mono ?_; rintro e w2 ⟨rfl, hb2⟩)
    have RB := hid ((Row.new w #[.int .i64 (tn : Int), .int .i64 pat, .int .i64 birth, .int .i64 size, .int .i64 sum, .int .i64 level, .int .i64 depth, .int .i64 many] 92).below hb2)
    have Hb2 := hid (btr (bnew w _) hb2)
    clear hb2
    refine wp_region_F (P := Tryz.prog) follows_mixed (by kernel_rfl) (fun rx => ⟨#[.agg #[.int .i64 ↑tn, .int .i64 pat, .int .i64 birth, .int .i64 size, .int .i64 sum, .int .i64 level, .int .i64 depth, .int .i64 many], .pointer (some ⟨w.heap.size, 0, none⟩), .string ⟨#[]⟩, rx 8, undef, undef, undef, undef, .agg #[.int .i64 ↑tn, .int .i64 pat, .int .i64 birth, .int .i64 size, .int .i64 sum, .int .i64 level, .int .i64 depth, .int .i64 many], .bool true, .bool false, rx 0, rx 1, rx 2, rx 3, rx 4, rx 5, rx 6, rx 7, undef, undef, undef, undef, undef, undef, undef, undef, undef, undef, undef, undef, undef, undef, undef, undef], []⟩) (fun j => ([undef, undef, undef, undef, undef, undef, undef, undef, undef] : List Value).getD j undef) (fun j v wx => match j with | 0 => v = .pointer (some ⟨w.heap.size, 0, none⟩) | 1 => v = .int .i64 (tn : Int) | 2 => v = .string ⟨ds.toArray⟩ | 3 => ∃ A, v = .slice A 2 2 ∧ At wx wx.heap.size A [[114, 111, 111, 116], ds] | 4 => v = .pointer (some ⟨w.heap.size, 1, none⟩) | 5 => v = .agg #[.int .i64 pat, .int .i64 birth, .int .i64 size, .int .i64 sum, .int .i64 level, .int .i64 depth, .int .i64 many] | 6 => ∃ A c, v = .slice A 3 c ∧ At wx wx.heap.size A tf | 7 => wx.ownsRow w2.heap.size 9 1 v rf.length (rf.map vstr) | 8 => wx.ownsRow w2.heap.size 9 1 v rf.length (rf.map vstr) | _ => True) (fun wx => Below w2.heap.size w2 wx) (fun wx wy => Below wx.heap.size wx wy) ?hVb ?hSb ?hopb ?hendb
    case hVb =>
      intro j v wx wy h hR
      match j, h with
      | 0, h => exact h
      | 1, h => exact h
      | 2, h => exact h
      | 4, h => exact h
      | 5, h => exact h
      | 3, h => (obtain ⟨A, h1, h2⟩ := h; exact ⟨A, h1, h2.up hR⟩)
      | 6, h => (obtain ⟨A, c, h1, h2⟩ := h; exact ⟨A, c, h1, h2.up hR⟩)
      | 7, h => exact owns_below h hR
      | 8, h => exact owns_below h hR
      | _ + 9, _ => exact trivial
    case hSb => exact bdr (Below.refl _ _)
    case hopb =>
      intro F hF
      have Pb_0 : ∀ x v, (⟨(F x).tmps.setIfInBounds 11 v, (F x).defers⟩ : Act) = F (upd x 0 v) := by subst hF; intro x v; rfl
      have Eb_0 : ∀ x, (F x).tmps[11]?.getD undef = x 0 := by subst hF; intro x; rfl
      have Pb_1 : ∀ x v, (⟨(F x).tmps.setIfInBounds 12 v, (F x).defers⟩ : Act) = F (upd x 1 v) := by subst hF; intro x v; rfl
      have Eb_1 : ∀ x, (F x).tmps[12]?.getD undef = x 1 := by subst hF; intro x; rfl
      have Pb_2 : ∀ x v, (⟨(F x).tmps.setIfInBounds 13 v, (F x).defers⟩ : Act) = F (upd x 2 v) := by subst hF; intro x v; rfl
      have Eb_2 : ∀ x, (F x).tmps[13]?.getD undef = x 2 := by subst hF; intro x; rfl
      have Pb_3 : ∀ x v, (⟨(F x).tmps.setIfInBounds 14 v, (F x).defers⟩ : Act) = F (upd x 3 v) := by subst hF; intro x v; rfl
      have Eb_3 : ∀ x, (F x).tmps[14]?.getD undef = x 3 := by subst hF; intro x; rfl
      have Pb_4 : ∀ x v, (⟨(F x).tmps.setIfInBounds 15 v, (F x).defers⟩ : Act) = F (upd x 4 v) := by subst hF; intro x v; rfl
      have Eb_4 : ∀ x, (F x).tmps[15]?.getD undef = x 4 := by subst hF; intro x; rfl
      have Pb_5 : ∀ x v, (⟨(F x).tmps.setIfInBounds 16 v, (F x).defers⟩ : Act) = F (upd x 5 v) := by subst hF; intro x v; rfl
      have Eb_5 : ∀ x, (F x).tmps[16]?.getD undef = x 5 := by subst hF; intro x; rfl
      have Pb_6 : ∀ x v, (⟨(F x).tmps.setIfInBounds 17 v, (F x).defers⟩ : Act) = F (upd x 6 v) := by subst hF; intro x v; rfl
      have Eb_6 : ∀ x, (F x).tmps[17]?.getD undef = x 6 := by subst hF; intro x; rfl
      have Pb_7 : ∀ x v, (⟨(F x).tmps.setIfInBounds 18 v, (F x).defers⟩ : Act) = F (upd x 7 v) := by subst hF; intro x v; rfl
      have Eb_7 : ∀ x, (F x).tmps[18]?.getD undef = x 7 := by subst hF; intro x; rfl
      have Pb_8 : ∀ x v, (⟨(F x).tmps.setIfInBounds 3 v, (F x).defers⟩ : Act) = F (upd x 8 v) := by subst hF; intro x v; rfl
      have Eb_8 : ∀ x, (F x).tmps[3]?.getD undef = x 8 := by subst hF; intro x; rfl
      have Eb_e1 : ∀ x, (F x).tmps[1]?.getD undef = .pointer (some ⟨w.heap.size, 0, none⟩) := by subst hF; intro x; rfl
      clear hF
      simp only [OpAll]
      refine ⟨?_, ?_, ?_, ?_, ?_, ?_, ?_, ?_, ?_, trivial⟩
      · intro rx wx hS hd hu K hK
        clear hu
        simp [Deps, Region.binds] at hd
        go_simp
        exact hK _ _ (Below.refl _ _) hS rfl
      · intro rx wx hS hd hu K hK
        clear hu
        simp [Deps, Region.binds] at hd
        have R1 := RB.out.below hS
        have e0 := R1.get 0 rfl
        go_simp
        exact hK _ _ (Below.refl _ _) hS rfl
      · intro rx wx hS hd hu K hK
        clear hu
        simp [Deps, Region.binds] at hd
        go_simp
        refine (Hd1.out _).mono ?_
        rintro e w1 ⟨rfl, hb1⟩
        go_simp
        exact hK _ _ hb1 (btr hS hb1) rfl
      · intro rx wx hS hd hu K hK
        clear hu
        simp [Deps, Region.binds] at hd
        go_simp
        exact hK _ _ (bnew _ _) (bal hS _) ⟨_, rfl, at_two _ _ (by simp [big]) (Nat.le_trans Hdl1.out (by unfold big; omega))⟩
      · intro rx wx hS hd hu K hK
        clear hu
        simp [Deps, Region.binds] at hd
        go_simp
        exact hK _ _ (Below.refl _ _) hS rfl
      · intro rx wx hS hd hu K hK
        clear hu
        simp [Deps, Region.binds] at hd
        have R1 := RB.out.below hS
        have e1 := R1.get 1 rfl; have e2 := R1.get 2 rfl; have e3 := R1.get 3 rfl; have e4 := R1.get 4 rfl; have e5 := R1.get 5 rfl; have e6 := R1.get 6 rfl; have e7 := R1.get 7 rfl
        go_simp
        exact hK _ _ (Below.refl _ _) hS rfl
      · intro rx wx hS hd hu K hK
        clear hu
        simp [Deps, Region.binds] at hd
        go_simp
        refine (Ht.out _).mono ?_
        rintro e w1 ⟨A, c, rfl, hat, hb1⟩
        go_simp
        rw [htl.out] at *
        exact hK _ _ hb1 (btr hS hb1) ⟨_, _, rfl, hat⟩
      · intro rx wx hS hd hu K hK
        clear hu
        obtain ⟨⟨A1, ea, hat1⟩, ⟨A2, c2, eb, hat2⟩⟩ : (∃ A, rx 3 = .slice A 2 2 ∧ At wx wx.heap.size A [[114, 111, 111, 116], ds]) ∧ (∃ A c, rx 6 = .slice A 3 c ∧ At wx wx.heap.size A tf) := ⟨hd.1 rfl, hd.2.1 rfl⟩
        refine if_yes rfl ?_
        refine wp_grow_str _ _ rfl A1 A2 [[114, 111, 111, 116], ds] tf 2 c2 (by simp [Act.eval, Eb_3, ea]) hat1 (by simp) (by simp [Act.eval, Eb_6, eb, htl.out]) hat2 (by rw [htl.out]; omega) (by rw [htl.out]; simp) (by rw [htl.out]; simp) fun v' w' h1 h2 => ?_
        rw [← Hf.out] at h1
        have := hK v' w' h2 (btr hS h2) (owns_base h1 hS.size)
        rw [← Pb_7] at this
        exact this
      · intro rx wx hS hd hu K hK
        clear hu
        simp [Deps, Region.binds] at hd
        go_simp
        exact hK _ _ (Below.refl _ _) hS hd.1
    intro rx w3 hS hv
    have hown : w3.ownsRow w2.heap.size 9 1 (rx 8) rf.length (rf.map vstr) := hv 8 (by decide)
    clear hv
    have hlb : ∀ x ∈ rf, x.length ≤ big := fun x hx => Nat.le_trans (Hl.out x hx) (by unfold big; omega)
    obtain ⟨A, c, h8, hat⟩ := owns_at hown hlb (by rw [hrl.out]; unfold big; omega)
    generalize rx 8 = v8 at *
    subst h8
    have Hown := hid hown; have Hat := hid hat; have HS := hid hS; have Hlb := hid hlb
    have hr5 := hrl.out
    clear hown hat hS hlb
    rw [hr5] at Hown ⊢
    have hf5 := hid (show Calls Tryz.prog 258 #[.slice A 5 c] w3 _ by have := Hfp1.out A c w3 Hat.out; rw [hr5] at this; exact this)
    have len6 : (rf ++ [sd]).length = 6 := by simp [hr5]
    go_wp2_with (first
      | (go_at_call 291; refine (Hs.out _).mono ?_; rintro e w5 ⟨rfl, rfl⟩)
      | (go_at_call 260; refine (Hd.out _).mono ?_; rintro e w5 ⟨rfl, hb5⟩)
      | (at_builtin; refine wpList_app_str rfl _ _ rfl w2.heap.size _ rf rfl (by rw [hr5]; exact (owns_below (owns_below Hown.out hb4) hb5).alloc _) _ _ sd rfl ?hc (by omega) (Nat.le_trans (Nat.le_trans HS.out.size (Nat.le_trans hb4.size hb5.size)) (bnew _ _).size) fun v' w' h1 h2 h3 => ?_; (case hc => simp); obtain ⟨A2, c2, hv6, hat2⟩ := owns_at h1 (fun x hx => by rcases List.mem_append.1 hx with hx | hx; exact Hlb.out x hx; rw [List.mem_singleton.1 hx]; exact Nat.le_trans Hdl.out (by unfold big; omega)) (by simp [hr5, big]); rw [len6] at hv6; subst hv6; have hf6 := hid (show Calls Tryz.prog 258 #[.slice A2 6 c2] w' _ by have := Hfp2.out A2 c2 w' hat2; rw [len6] at this; exact this))
      | (go_at_call 258; first | (refine hf6.out.mono ?_; rintro e w6 ⟨rfl, hb6⟩) | (refine hf5.out.mono ?_; rintro e w4 ⟨rfl, hb4⟩)))
    go_ret
    exact ⟨rfl, btr ((btr Hb2.out (btr HS.out (btr hb4 (bal hb5 _)))).trans (h2.mono Hb2.out.size)) hb6⟩
end Pm
end Go.Proofs.YtdjkdcokjoiokaaGreatDoor

/- Part 19 of seek_card: contracts, walks, laws; no condition beyond the statement's. -/
import Derived.Test.YtdjkdcokjoiokaaGreatDoorW18
set_option linter.all false
set_option maxRecDepth 100000
set_option maxHeartbeats 1000000
namespace Go.Proofs.YtdjkdcokjoiokaaGreatDoor
open Go.RowKit
namespace Pm
open Pl (dec dch inR Ptr Tree Root hole ptrHole ptrOk)
theorem Qhu (A : Option Addr) (l : List Int) (c : Nat) (w : World) (hl : l.length <= 1000000) (h : At w w.heap.size A l) (hL : Lt w) :
 Calls Tryz.prog 248 #[.slice A l.length c] w fun e w' => ∃ v, e = .returned v /\ w'.ownsRow w.heap.size 9 1 v (l.map Pl.numPut).length ((l.map Pl.numPut).map vstr) /\ Below w.heap.size w w' := by
 have HL := hid hL;have Hat := hid h;clear hL h
 go_enter Tryz.func248, Tryz.ntmps248
 go_wp2
 go_loopw [3, 8] (fun ov kv wr => ∃ (k : Nat), k <= l.length /\ kv = .int .i64 k /\ Hid (wr.ownsRow w.heap.size 9 1 ov ((l.take k).map Pl.numPut).length (((l.take k).map Pl.numPut).map vstr)) /\ Hid (Below w.heap.size w wr)) (fun _ kv _ => l.length - (intOf kv).toNat)
 case atStart => exact ⟨0, by omega, rfl, hid QiV, hid (Below.refl _ _)⟩
 case round =>
  obtain ⟨k, hk, rfl, Hown, Hbel⟩ := hrel
  by_cases hlt : k < l.length
  ·have hltI : (k : Int) < l.length := by omega
   obtain ⟨b, off, cs, rfl, hb, hc, hv⟩ := (Hat.out.up Hbel.out).elem hlt;obtain ⟨n, Hn⟩ : ∃ n, Hid (n = l[k]) := ⟨l[k], hid rfl⟩;rw [<- Hn.out] at hc;obtain ⟨rfl, hi⟩ := Qdy hc;have e0 := hv 0 _ rfl;simp only [Rep.size, Nat.add_zero, Nat.mul_one] at e0;have Hstep : Hid ((l.take (k + 1)).map Pl.numPut = (l.take k).map Pl.numPut ++ [Pl.numPut n]) := hid (by rw [List.take_succ_eq_append_getElem hlt, List.map_append, Hn.out]; rfl);have Hlen : Hid (((l.take k).map Pl.numPut).length <= 1000000) := hid (by rw [List.length_map, List.length_take]; omega);have HLr := hid (HL.out.below Hbel.out);generalize (l.take k).map Pl.numPut = out at Hown Hstep Hlen;obtain ⟨A, c2, hov⟩ := QfK Hown.out;subst hov;clear hv hc hb hi
   go_wp2_with fail
   refine (Qgy n _ HLr.out).mono ?_;rintro e w4 ⟨rfl, hb4⟩;have Hown4 := hid (QcT Hown.out hb4);have Hbel4 := hid (btr Hbel.out hb4);clear hb4 e0
   go_wp2_with (at_builtin; refine Qct rfl _ _ rfl w.heap.size _ out rfl (Hown4.out.alloc _) _ _ (Pl.numPut n) rfl ?hc (by have := Hlen.out; omega) (Nat.le_trans Hbel4.out.size (by simp)) fun v' w' h1 h2 h3 => ?_; case hc => simp)
   go_roundw
   case rel => exact ⟨k + 1, by omega, by go_num, hid (by rw [Hstep.out]; exact h1), hid ((bal Hbel4.out _).trans h2)⟩
   case measure => simp only [intOf]; omega
  ·have hk' : k = l.length := by omega
   subst hk';rw [List.take_length] at Hown
   go_wp2
   go_ret
   exact ⟨_, rfl, Hown.out, Hbel.out⟩
theorem at_one {w : World} {b : Nat} {x : Str} (hx : x.length <= big) (hb : b < w.heap.size) (hc : w.cell? ⟨b, 0, none⟩ = some (.string ⟨x.toArray⟩)) : At w w.heap.size (some ⟨b, 0, none⟩) [x] := by
 intro _;refine ⟨b, 0, rfl, hb, fun i s hi => ?_⟩
 match i, hi with
 |0, hi =>
  simp only [List.getElem?_cons_zero, Option.some.injEq] at hi;subst hi;exact ⟨[vstr x], ⟨rfl, hx⟩, fun j u hj => by match j, hj with | 0, hj => simp at hj; subst hj; simpa [vstr] using hc⟩
theorem at_ints {w : World} {b : Nat} {x y : Int} (hx : InI x) (hy : InI y) (hb : b < w.heap.size) (h0 : w.cell? ⟨b, 0, none⟩ = some (.int .i64 x)) (h1 : w.cell? ⟨b, 1, none⟩ = some (.int .i64 y)) : At w w.heap.size (some ⟨b, 0, none⟩) [x, y] := by
 intro _;refine ⟨b, 0, rfl, hb, fun i s hi => ?_⟩
 match i, hi with
 |0, hi =>
  simp only [List.getElem?_cons_zero, Option.some.injEq] at hi;subst hi;exact ⟨[.int .i64 x], ⟨rfl, hx⟩, fun j u hj => by match j, hj with | 0, hj => simp at hj; subst hj; simpa using h0⟩
 |1, hi =>
  simp only [List.getElem?_cons_zero, List.getElem?_cons_succ, Option.some.injEq] at hi;subst hi;exact ⟨[.int .i64 y], ⟨rfl, hy⟩, fun j u hj => by match j, hj with | 0, hj => simp at hj; subst hj; simpa [Rep.size] using h1⟩
theorem imTree (t : Tree) (w : World) (h1 : InI t.depth) (h2 : InI t.many) (hL : Lt w) :
 Calls Tryz.prog 173 #[vtree t] w fun e w' => ∃ v, e = .returned v /\ w'.ownsRow w.heap.size 9 1 v (Pl.QbY t).length ((Pl.QbY t).map vstr) /\ Below w.heap.size w w' := by
 have HL := hid hL;have Hpp := hid (Qgx t.root);have Hnn := hid (fun A c w h (hL : Lt w) => (show Calls Tryz.prog 248 #[.slice A 2 c] w _ from Qhu A [t.depth, t.many] c w (by simp) h hL));have hl1 := ptrPut_len t.root;have hl2 := Qd9 t.depth;have hl3 := Qd9 t.many;have Hf : Hid (Pl.QbY t = [Pl.ptrPut t.root] ++ [t.depth, t.many].map Pl.numPut) := hid rfl;rw [Hf.out]
 have Hlm := hid (show ∀ x ∈ [t.depth, t.many].map Pl.numPut, x.length <= big from fun x hx => by
  obtain ⟨n, _, rfl⟩ := List.mem_map.1 hx
  exact Nat.le_trans (Qd9 n) (by unfold big; omega))
 have Hlm2 := hid (show ([t.depth, t.many].map Pl.numPut).length = 2 from rfl);generalize [t.depth, t.many].map Pl.numPut = nm at *
 generalize Pl.ptrPut t.root = x at *
 obtain ⟨⟨pat, birth, size, sum, level⟩, depth, many⟩ := t;unfold vtree vptr at *
 dsimp only at *
 have R0 := hid (Row.new w #[.int .i64 pat, .int .i64 birth, .int .i64 size, .int .i64 sum, .int .i64 level, .int .i64 depth, .int .i64 many] 56);have Hb0 := hid (bnew w (.cells #[.int .i64 pat, .int .i64 birth, .int .i64 size, .int .i64 sum, .int .i64 level, .int .i64 depth, .int .i64 many] 56));have HI := hid (And.intro h1 h2);have Hxl := hid hl1;clear hL hl1 hl2 hl3 Hf h1 h2
 go_enter Tryz.func173, Tryz.ntmps173
 go_wp2_with fail
 generalize w.alloc (.cells #[.int .i64 pat, .int .i64 birth, .int .i64 size, .int .i64 sum, .int .i64 level, .int .i64 depth, .int .i64 many] 56) = W at *
 refine Qdf (P := Tryz.prog) follows_mixed (by kernel_rfl) (fun rx => ⟨#[.agg #[.int .i64 pat, .int .i64 birth, .int .i64 size, .int .i64 sum, .int .i64 level, .int .i64 depth, .int .i64 many], .pointer (some ⟨w.heap.size, 0, none⟩), rx 11, rx 0, rx 1, rx 2, rx 3, rx 4, rx 5, rx 6, rx 7, rx 8, rx 9, rx 10], []⟩) (fun j => ([undef, undef, undef, undef, undef, undef, undef, undef, undef, undef, undef, .slice none 0 0] : List Value).getD j undef) (fun j v wx => match j with | 0 => v = .pointer (some ⟨w.heap.size, 0, none⟩) | 1 => v = .agg #[.int .i64 pat, .int .i64 birth, .int .i64 size, .int .i64 sum, .int .i64 level] | 2 => v = .string ⟨x.toArray⟩ | 3 => ∃ b, v = .slice (some ⟨b, 0, none⟩) 1 1 /\ b < wx.heap.size /\ wx.cell? ⟨b, 0, none⟩ = some (.string ⟨x.toArray⟩) | 4 => v = .pointer (some ⟨w.heap.size, 5, none⟩) | 5 => v = .int .i64 depth | 6 => v = .pointer (some ⟨w.heap.size, 6, none⟩) | 7 => v = .int .i64 many | 8 => ∃ b, v = .slice (some ⟨b, 0, none⟩) 2 2 /\ b < wx.heap.size /\ wx.cell? ⟨b, 0, none⟩ = some (.int .i64 depth) /\ wx.cell? ⟨b, 1, none⟩ = some (.int .i64 many) | 9 => ∃ A c, v = .slice A 2 c /\ At wx wx.heap.size A nm | 10 => wx.ownsRow w.heap.size 9 1 v ([x] ++ nm).length (([x] ++ nm).map vstr) | 11 => wx.ownsRow w.heap.size 9 1 v ([x] ++ nm).length (([x] ++ nm).map vstr) | _ => True) (fun wx => Below W.heap.size W wx) (fun wx wy => Below wx.heap.size wx wy) ?hVb ?hSb ?hopb ?hendb
 case hVb =>
  intro j v wx wy h hR
  match j, h with
  |0, h => exact h
  |1, h => exact h
  |2, h => exact h
  |4, h => exact h
  |5, h => exact h
  |6, h => exact h
  |7, h => exact h
  |3, h => (let ⟨b, h1, h2, h3⟩ := h; exact ⟨b, h1, Nat.lt_of_lt_of_le h2 hR.size, Qc9 h3 hR⟩)
  |8, h => (let ⟨b, h1, h2, h3, h4⟩ := h; exact ⟨b, h1, Nat.lt_of_lt_of_le h2 hR.size, Qc9 h3 hR, Qc9 h4 hR⟩)
  |9, h => (obtain ⟨A, c, h1, h2⟩ := h; exact ⟨A, c, h1, h2.up hR⟩)
  |10, h => exact QcT h hR
  |11, h => exact QcT h hR
  |_ + 12, _ => exact trivial
 case hSb => exact bdr (Below.refl _ _)
 case hopb =>
  intro F hF;have Pb_0 : ∀ x v, (⟨(F x).tmps.setIfInBounds 3 v, (F x).defers⟩ : Act) = F (upd x 0 v) := by subst hF; intro x v; rfl
  have Eb_0 : ∀ x, (F x).tmps[3]?.getD undef = x 0 := by subst hF; intro x; rfl
  have Pb_1 : ∀ x v, (⟨(F x).tmps.setIfInBounds 4 v, (F x).defers⟩ : Act) = F (upd x 1 v) := by subst hF; intro x v; rfl
  have Eb_1 : ∀ x, (F x).tmps[4]?.getD undef = x 1 := by subst hF; intro x; rfl
  have Pb_2 : ∀ x v, (⟨(F x).tmps.setIfInBounds 5 v, (F x).defers⟩ : Act) = F (upd x 2 v) := by subst hF; intro x v; rfl
  have Eb_2 : ∀ x, (F x).tmps[5]?.getD undef = x 2 := by subst hF; intro x; rfl
  have Pb_3 : ∀ x v, (⟨(F x).tmps.setIfInBounds 6 v, (F x).defers⟩ : Act) = F (upd x 3 v) := by subst hF; intro x v; rfl
  have Eb_3 : ∀ x, (F x).tmps[6]?.getD undef = x 3 := by subst hF; intro x; rfl
  have Pb_4 : ∀ x v, (⟨(F x).tmps.setIfInBounds 7 v, (F x).defers⟩ : Act) = F (upd x 4 v) := by subst hF; intro x v; rfl
  have Eb_4 : ∀ x, (F x).tmps[7]?.getD undef = x 4 := by subst hF; intro x; rfl
  have Pb_5 : ∀ x v, (⟨(F x).tmps.setIfInBounds 8 v, (F x).defers⟩ : Act) = F (upd x 5 v) := by subst hF; intro x v; rfl
  have Eb_5 : ∀ x, (F x).tmps[8]?.getD undef = x 5 := by subst hF; intro x; rfl
  have Pb_6 : ∀ x v, (⟨(F x).tmps.setIfInBounds 9 v, (F x).defers⟩ : Act) = F (upd x 6 v) := by subst hF; intro x v; rfl
  have Eb_6 : ∀ x, (F x).tmps[9]?.getD undef = x 6 := by subst hF; intro x; rfl
  have Pb_7 : ∀ x v, (⟨(F x).tmps.setIfInBounds 10 v, (F x).defers⟩ : Act) = F (upd x 7 v) := by subst hF; intro x v; rfl
  have Eb_7 : ∀ x, (F x).tmps[10]?.getD undef = x 7 := by subst hF; intro x; rfl
  have Pb_8 : ∀ x v, (⟨(F x).tmps.setIfInBounds 11 v, (F x).defers⟩ : Act) = F (upd x 8 v) := by subst hF; intro x v; rfl
  have Eb_8 : ∀ x, (F x).tmps[11]?.getD undef = x 8 := by subst hF; intro x; rfl
  have Pb_9 : ∀ x v, (⟨(F x).tmps.setIfInBounds 12 v, (F x).defers⟩ : Act) = F (upd x 9 v) := by subst hF; intro x v; rfl
  have Eb_9 : ∀ x, (F x).tmps[12]?.getD undef = x 9 := by subst hF; intro x; rfl
  have Pb_10 : ∀ x v, (⟨(F x).tmps.setIfInBounds 13 v, (F x).defers⟩ : Act) = F (upd x 10 v) := by subst hF; intro x v; rfl
  have Eb_10 : ∀ x, (F x).tmps[13]?.getD undef = x 10 := by subst hF; intro x; rfl
  have Pb_11 : ∀ x v, (⟨(F x).tmps.setIfInBounds 2 v, (F x).defers⟩ : Act) = F (upd x 11 v) := by subst hF; intro x v; rfl
  have Eb_11 : ∀ x, (F x).tmps[2]?.getD undef = x 11 := by subst hF; intro x; rfl
  have Eb_e1 : ∀ x, (F x).tmps[1]?.getD undef = .pointer (some ⟨w.heap.size, 0, none⟩) := by subst hF; intro x; rfl
  clear hF;simp only [OpAll];refine ⟨?_, ?_, ?_, ?_, ?_, ?_, ?_, ?_, ?_, ?_, ?_, ?_, trivial⟩
  ·intro rx wx hS hd hu K hK
   clear hu;simp [Deps, Region.binds] at hd
   go_simp
   exact hK _ _ (Below.refl _ _) hS rfl
  ·intro rx wx hS hd hu K hK
   clear hu;simp [Deps, Region.binds] at hd;have R1 := R0.out.below hS;have e0 := R1.get 0 rfl; have e1 := R1.get 1 rfl; have e2 := R1.get 2 rfl; have e3 := R1.get 3 rfl; have e4 := R1.get 4 rfl
   go_simp
   exact hK _ _ (Below.refl _ _) hS rfl
  ·intro rx wx hS hd hu K hK
   clear hu;simp [Deps, Region.binds] at hd
   go_simp
   refine (Hpp.out _ (HL.out.below (btr Hb0.out hS))).mono ?_;rintro e w1 ⟨rfl, hb1⟩
   go_simp
   exact hK _ _ hb1 (btr hS hb1) rfl
  ·intro rx wx hS hd hu K hK
   clear hu;simp [Deps, Region.binds] at hd
   go_simp
   exact hK _ _ (bnew _ _) (bal hS _) ⟨_, rfl, by simp, (Row.new wx _ _).get 0 (by simp)⟩
  ·intro rx wx hS hd hu K hK
   clear hu;simp [Deps, Region.binds] at hd
   go_simp
   exact hK _ _ (Below.refl _ _) hS rfl
  ·intro rx wx hS hd hu K hK
   clear hu;simp [Deps, Region.binds] at hd;have R1 := R0.out.below hS;have e5 := R1.get 5 rfl
   go_simp
   exact hK _ _ (Below.refl _ _) hS rfl
  ·intro rx wx hS hd hu K hK
   clear hu;simp [Deps, Region.binds] at hd
   go_simp
   exact hK _ _ (Below.refl _ _) hS rfl
  ·intro rx wx hS hd hu K hK
   clear hu;simp [Deps, Region.binds] at hd;have R1 := R0.out.below hS;have e6 := R1.get 6 rfl
   go_simp
   exact hK _ _ (Below.refl _ _) hS rfl
  ·intro rx wx hS hd hu K hK
   clear hu;simp [Deps, Region.binds] at hd
   go_simp
   exact hK _ _ (bnew _ _) (bal hS _) ⟨_, rfl, by simp, (Row.new wx _ _).get 0 (by simp), (Row.new wx _ _).get 1 (by simp)⟩
  ·intro rx wx hS hd hu K hK
   clear hu;simp [Deps, Region.binds] at hd;obtain ⟨b, h1, h2, h3, h4⟩ := hd.1;have hN := hid (Hnn.out (some ⟨b, 0, none⟩) 2 wx (at_ints HI.out.1 HI.out.2 h2 h3 h4) (HL.out.below (btr Hb0.out hS)));clear hd h2 h3 h4
   go_simp
   refine hN.out.mono ?_;rintro e w1 ⟨v, rfl, hown, hb1⟩
   go_simp
   obtain ⟨A, c, hv, hat⟩ := Qic hown Hlm.out (by rw [Hlm2.out]; simp [big]);rw [Hlm2.out] at hv;exact hK _ _ hb1 (btr hS hb1) ⟨A, c, hv, hat⟩
  ·intro rx wx hS hd hu K hK
   clear hu;obtain ⟨⟨b1, ea, hb, hc⟩, ⟨A2, c2, eb, hat2⟩⟩ : (∃ b, rx 3 = .slice (some ⟨b, 0, none⟩) 1 1 /\ b < wx.heap.size /\ wx.cell? ⟨b, 0, none⟩ = some (.string ⟨x.toArray⟩)) /\ (∃ A c, rx 9 = .slice A 2 c /\ At wx wx.heap.size A nm) := ⟨hd.1 rfl, hd.2.1 rfl⟩;refine if_yes rfl ?_;refine QhP _ _ rfl (some ⟨b1, 0, none⟩) A2 [x] nm 1 c2 (by simp [Act.eval, Eb_3, ea]) (at_one (Nat.le_trans Hxl.out (by unfold big; omega)) hb hc) (by simp) (by simp [Act.eval, Eb_9, eb, Hlm2.out]) hat2 (by rw [Hlm2.out]; omega) (by rw [Hlm2.out]; simp) (by rw [Hlm2.out]; simp) fun v' w' h1 h2 => ?_
   have := hK v' w' h2 (btr hS h2) (Qlb h1 (Nat.le_trans Hb0.out.size hS.size));rw [<- Pb_10] at this;exact this
  ·intro rx wx hS hd hu K hK
   clear hu;simp [Deps, Region.binds] at hd
   go_simp
   exact hK _ _ (Below.refl _ _) hS hd.1
 intro rx w3 hS hv;have hown : w3.ownsRow w.heap.size 9 1 (rx 11) ([x] ++ nm).length (([x] ++ nm).map vstr) := hv 11 (by decide);clear hv;generalize rx 11 = v11 at *
 have Hown := hid hown;clear hown
 go_wp2
 go_ret
 exact ⟨_, rfl, Hown.out, btr Hb0.out hS⟩
end Pm
end Go.Proofs.YtdjkdcokjoiokaaGreatDoor

/- Part 37 of the proof of use_card: contracts, walks, plain laws; no condition is assumed beyond those that a statement names. -/
import Derived.Test.YtdjkdcokjoiokaaGreatDoorU36
set_option linter.all false
set_option maxRecDepth 100000
set_option maxHeartbeats 4000000
namespace Go.Proofs.YtdjkdcokjoiokaaGreatDoor
open Go.RowKit
namespace Aw
open Pm
theorem bText (s : Pm.Store) (hg : Pl.Good s) (htx : 0 <= s.2.2.1) (hin : ∀ t, ∀ p ∈ (Pl.Qai s t).1, Pm.PtrIn p) : Pl.Qbp s := by
 intro n hno hk B σ S H w cargs hB hS hl hr
 match cargs, hl with
 |[a, b], _ =>
 have h0 := hr 0 _ a rfl rfl;have h1 := hr 1 _ b rfl rfl
 obtain rfl : b = nodeV n := by
  have := Qdh (l := [dNode n]) (vs := [nodeV n]) (cs := [b]) rfl rfl (fun i d v hd hv => hr (i + 1) d v hd hv);simpa using this
 have HW := hid (AtW.mk hB hS h0);have HL := hid (hB.ltOf hS);clear hr h1 hB hS
 suffices h : Calls Tryz.prog 263 #[a, nodeV n] w fun e w' => (∃ txt, e = .returned (.tuple #[.string txt, .bool (Pl.Qay s n)])) /\ Below w.heap.size w w' by
  refine h.mono ?_;rintro e w' ⟨⟨txt, rfl⟩, hb⟩;refine ⟨_, rfl, hb, .tup _ _ rfl fun i d v hd hv => ?_⟩
  match i, hd, hv with
  |0, hd, hv => obtain rfl := Option.some.inj hd; exact .any _
  |1, hd, hv => obtain rfl := Option.some.inj hd; obtain rfl := Option.some.inj hv; exact .v _
 obtain ⟨ad, rfl⟩ : ∃ ad, a = .pointer ad := by cases h0; exact ⟨_, rfl⟩
 clear h0;have Hnn := hid hno;have Hf := hid (Qhl (s := s) hno hk);obtain ⟨kd, links, size, ⟨⟨p1, p2, p3, p4, p5⟩, depth, many⟩⟩ := n;simp only at hk;subst hk
 have Hok1 : Hid (∀ wk, Below w.heap.size w wk -> Calls Tryz.prog 309 #[.agg #[.int .i64 1, .int .i64 links, .int .i64 size, .int .i64 p1, .int .i64 p2, .int .i64 p3, .int .i64 p4, .int .i64 p5, .int .i64 depth, .int .i64 many]] wk fun e w' => e = .returned (.bool true) /\ Below wk.heap.size wk w') :=
  hid fun wk hb => (cNodeOk HW.out hb ⟨1, links, size, ⟨⟨p1, p2, p3, p4, p5⟩, depth, many⟩⟩).mono fun e w' h => ⟨by rw [h.1, Hnn.out], h.2⟩
 have Hlv : Hid (∀ wk, Below w.heap.size w wk -> Calls Tryz.prog 148 #[.pointer ad, .agg #[.int .i64 p1, .int .i64 p2, .int .i64 p3, .int .i64 p4, .int .i64 p5, .int .i64 depth, .int .i64 many]] wk fun e w' =>
  ∃ A c, e = .returned (.tuple #[.slice A (Pl.Qai s ⟨⟨p1, p2, p3, p4, p5⟩, depth, many⟩).1.length c, .bool (Pl.Qai s ⟨⟨p1, p2, p3, p4, p5⟩, depth, many⟩).2]) /\ Below wk.heap.size wk w' /\ Pm.At w' w'.heap.size A (Pl.Qai s ⟨⟨p1, p2, p3, p4, p5⟩, depth, many⟩).1) :=
  hid fun wk hb => cLeaves HW.out hb hg htx ⟨⟨p1, p2, p3, p4, p5⟩, depth, many⟩ (hin _)
 clear Hnn;unfold nodeV
 go_enter Tryz.func263, Tryz.ntmps263
 go_wp2_with fail
 refine (Hok1.out _ (bnew _ _)).mono ?_;rintro e w1 ⟨rfl, hb1⟩
 have Hbx : Hid (∀ (j : Nat) v, ([.int .i64 1, .int .i64 links, .int .i64 size, .int .i64 p1, .int .i64 p2, .int .i64 p3, .int .i64 p4, .int .i64 p5, .int .i64 depth, .int .i64 many] : List Value)[j]? = some v -> w1.cell? ⟨w.heap.size, j, none⟩ = some v) := hid fun j v hv => by
  rw [hb1.cell (by simp)];rw [cell_of_row _ _ j _ _ _ (Qc8 _ _)];exact (List.getElem?_toArray ..).trans hv
 have Hb1 := hid (btr (bnew w _) hb1);have Hsz : Hid (w.heap.size < w1.heap.size) := hid (by have := hb1.size; simp at this; omega);clear hb1;have x0 := Hbx.out 0 _ rfl;have x3 := Hbx.out 3 _ rfl;have x4 := Hbx.out 4 _ rfl;have x5 := Hbx.out 5 _ rfl;have x6 := Hbx.out 6 _ rfl;have x7 := Hbx.out 7 _ rfl;have x8 := Hbx.out 8 _ rfl;have x9 := Hbx.out 9 _ rfl
 go_wp2_with fail
 refine (Hlv.out _ Hb1.out).mono ?_;rintro e w2 ⟨A, c, rfl, hb2, hA⟩;have Hb2 := hid (btr Hb1.out hb2);have HA2 := hid hA;have y2 := (hb2.cell (p := ⟨w.heap.size, 2, none⟩) Hsz.out).trans (Hbx.out 2 _ rfl);have Hsz2 : Hid (w.heap.size < w2.heap.size) := hid (by have := hb2.size; have := Hsz.out; omega);clear x0 x3 x4 x5 x6 x7 x8 x9 Hbx Hsz Hb1 hA hb2 Hlv Hok1;cases ht : (Pl.Qae s ⟨⟨p1, p2, p3, p4, p5⟩, depth, many⟩)
 ·have hlv : Pl.Qai s ⟨⟨p1, p2, p3, p4, p5⟩, depth, many⟩ = ([], false) := by unfold Pl.Qai; rw [ht]; rfl
  have hfl : Hid (Pl.Qay s ⟨1, links, size, ⟨⟨p1, p2, p3, p4, p5⟩, depth, many⟩⟩ = false) := hid (by rw [Hf.out, ht]; rfl);clear Hf;rw [hlv]
  go_wp2
  go_ret2
  exact ⟨⟨⟨#[]⟩, by rw [hfl.out]; rfl⟩, Hb2.out⟩
 have hl2 : (Pl.Qai s ⟨⟨p1, p2, p3, p4, p5⟩, depth, many⟩).2 = true := by unfold Pl.Qai; rw [if_pos ht]
 rw [ht] at Hf;have Hho := hid (QcT ht);have Hll := hid (Qdy ht);rw [hl2];clear hl2 ht;simp only at Hf Hll;generalize (Pl.Qai s ⟨⟨p1, p2, p3, p4, p5⟩, depth, many⟩).1 = ps at HA2 Hho Hll Hf ⊢;obtain ⟨fo, hfo⟩ : ∃ fo, Hid (Pl.Qay s ⟨1, links, size, ⟨⟨p1, p2, p3, p4, p5⟩, depth, many⟩⟩ = fo) := ⟨_, hid rfl⟩;rw [hfo.out] at Hf
 go_wp2_with fail
 go_loopw [34] (fun iv wr => ∃ (k : Nat) (txt : List UInt8), k <= ps.length /\ iv = .int .i64 k /\ Hid (Bld w2.heap.size txt wr) /\ txt.length <= 12 * k /\ Hid ((List.range k).all (fun k => Pl.QaS size k ((ps.map fun p => (Pl.rd s.1 p).1).getD k [])) = true) /\ Hid (Below w2.heap.size w2 wr)) (fun iv _ => ps.length - (intOf iv).toNat)
 case atStart => exact ⟨0, [], by omega, rfl, hid (bldNew w2), by simp, hid rfl, hid (bnew _ _)⟩
 case round =>
  obtain ⟨k, txt, hkl, rfl, HB, htl, HP, Hbel⟩ := hrel
  by_cases hlt : k < ps.length
  ·have hltI : (k : Int) < ps.length := by omega
   obtain ⟨bb, off, cs, rfl, hbb, hc, hv⟩ := (HA2.out.up Hbel.out).elem hlt;obtain ⟨p, He⟩ : ∃ p, Hid (p = ps[k]) := ⟨ps[k], hid rfl⟩;rw [<- He.out] at hc;obtain ⟨rfl, hpin⟩ := hc;have Hpk := hid ((Hho.out p (by rw [He.out]; exact List.getElem_mem hlt)).1)
   have Hx : Hid ((ps.map fun p => (Pl.rd s.1 p).1).getD k [] = (Pl.rd s.1 p).1) := hid (by
    rw [List.getD_eq_getElem?_getD, List.getElem?_map, List.getElem?_eq_getElem hlt, <- He.out]; rfl)
   have Hrl := hid (Qgq s hg p);obtain ⟨q1, q2, q3, q4, q5⟩ := p;have e0 := hv 0 _ rfl;have e1 := hv 1 _ rfl;have e2 := hv 2 _ rfl;have e3 := hv 3 _ rfl;have e4 := hv 4 _ rfl;simp only [Rep.size, Nat.add_zero] at e0 e1 e2 e3 e4;clear hv hbb hpin He
   go_wp2_with fail
   refine (cRead HW.out (btr (btr Hb2.out Hbel.out) (bnew _ _)) hg ⟨q1, q2, q3, q4, q5⟩ (fun _ => Hpk.out)).mono ?_;rintro e w3 ⟨rfl, hb3⟩;have Hb3 := hid (btr Hbel.out (btr (bnew _ _) hb3));have HB3 := hid (HB.out.below (btr (bnew _ _) hb3));have z2 := (Hb3.out.cell (p := ⟨w.heap.size, 2, none⟩) Hsz2.out).trans y2;have Hfp := QfS hno rfl (k := k) (by have := Hll.out.1; simp only; omega);simp only at Hfp;have hT : Hid (Pl.QaS size k (Pl.rd s.1 ⟨q1, q2, q3, q4, q5⟩).1 = true -> (List.range (k + 1)).all (fun k => Pl.QaS size k ((ps.map fun p => (Pl.rd s.1 p).1).getD k [])) = true) := hid fun h => Pl.QbL (p := fun k => Pl.QaS size k ((ps.map fun p => (Pl.rd s.1 p).1).getD k [])) HP.out (by rw [Hx.out]; exact h)
   have hF : Hid (Pl.QaS size k (Pl.rd s.1 ⟨q1, q2, q3, q4, q5⟩).1 = false -> fo = false) := hid fun h => by
    rw [Hf.out, Bool.true_and];exact Pl.QbH (p := fun k => Pl.QaS size k ((ps.map fun p => (Pl.rd s.1 p).1).getD k [])) hlt (by rw [Hx.out]; exact h)
   clear hb3 e0 e1 e2 e3 e4 Hx HB y2;generalize (Pl.rd s.1 ⟨q1, q2, q3, q4, q5⟩).2 = rok at *
   generalize (Pl.rd s.1 ⟨q1, q2, q3, q4, q5⟩).1 = x at *
   go_wp2_with fail
   refine (QkV HW.out (btr Hb2.out Hb3.out) size k (by omega) (by omega) (by have := Hll.out; omega)).mono ?_;rintro e w4 ⟨rfl, hb4⟩;have Hb4 := hid (btr Hb3.out hb4);have HB4 := hid (HB3.out.below hb4);clear hb4 HB3 z2
   go_wp2_with fail
   refine (QkW HW.out (btr Hb2.out Hb4.out) x (Pl.Qbe size k) (by have := Hrl.out; omega)).mono ?_;rintro e w5 ⟨rfl, hb5⟩;have Hb5 := hid (btr Hb4.out hb5);have HB5 := hid (HB4.out.below hb5);clear hb5 HB4;have hpd : Pl.QaS size k x = ((Pl.fill x (Pl.Qbe size k)).2 && !(([0] : List UInt8).isSuffixOf x)) := rfl;rw [hpd] at hT hF
   have hfl : (Pl.fill x (Pl.Qbe size k)).2 = true -> (Pl.fill x (Pl.Qbe size k)).1.length <= 12 := fun h => by
    unfold Pl.fill at h ⊢;split at h
    ·rename_i hc
     rw [if_pos hc];simp only [Bool.and_eq_true, decide_eq_true_eq, Pl.inR] at hc;simp only [List.length_append, List.length_replicate];omega
    ·cases h
   clear hpd;generalize Pl.fill x (Pl.Qbe size k) = fl at *
   obtain ⟨full, fine⟩ := fl;simp only at hT hF hfl;cases fine
   ·have hff := hid (hF.out rfl)
    clear hT hF hfl
    go_wp2
    go_ret2
    exact ⟨⟨⟨#[]⟩, by rw [hfo.out, hff.out]; rfl⟩, btr Hb2.out Hb5.out⟩
   ·have hfl := hfl rfl
    go_wp2_with fail
    refine (QkX x [0] (by have := Hrl.out; omega) _).mono ?_;rintro e w6 ⟨rfl, hb6⟩;have Hb6 := hid (btr Hb5.out hb6);have HB6 := hid (HB5.out.below hb6);clear hb6 HB5;cases hsx : (([0] : List UInt8).isSuffixOf x)
    ·have hall := hid (hT.out (by rw [hsx]; rfl))
     clear hT hF
     go_wp2_with fail
     refine (bldStr HB6.out full (by have := Hll.out; omega)).mono ?_;rintro e w7 ⟨rfl, hB7, hb7⟩;have HB7 := hid hB7;have Hb7 := hid (Hb6.out.trans hb7);clear hB7 hb7
     go_wp2_with fail
     go_roundw
     case rel => exact ⟨k + 1, txt ++ full, by omega, by go_num, HB7, by simp only [List.length_append]; omega, hall, Hb7⟩
     case measure => simp only [intOf]; omega
    ·have hff := hid (hF.out (by rw [hsx]; rfl))
     clear hT hF
     go_wp2
     go_ret2
     exact ⟨⟨⟨#[]⟩, by rw [hfo.out, hff.out]; rfl⟩, btr Hb2.out Hb6.out⟩
  ·have hk' : k = ps.length := by omega
   have hff : Hid (fo = true) := hid (by rw [Hf.out, <- hk', HP.out]; rfl);have hltI : ¬ (k : Int) < ps.length := by omega
   go_wp2_with fail
   refine (bldText HB.out).mono ?_;rintro e w5 ⟨rfl, hb5⟩
   go_wp2
   go_ret2
   exact ⟨⟨_, by rw [hfo.out, hff.out]; rfl⟩, btr Hb2.out (Hbel.out.trans hb5)⟩
theorem QkJ (s : Pm.Store) (t : Pl.Tree) : ∀ p ∈ (Pl.Qai s t).1, Pm.PtrIn p := fun p hp => by
 cases ht : Pl.Qae s t
 ·unfold Pl.Qai at hp
  rw [ht] at hp;simp at hp
 ·have h := Pl.Qcl ((QcT ht p hp).1)
  unfold Pm.PtrIn Pm.InI;omega
end Aw
end Go.Proofs.YtdjkdcokjoiokaaGreatDoor
namespace Go.Proofs.YtdjkdcokjoiokaaGreatDoor
open Go.RowKit
namespace Aw
open Pm (Rep)
theorem QgN {α : Type} [Rep α] {w : World} {N : Nat} {A : Option Addr} {l : List α} (row : α -> List D) (c : Nat) (hrow : ∀ cs x, Rep.cells w N cs x -> row x = cs.map D.v /\ cs.length = Rep.size α) (h : Pm.At w N A l) :
 RelD (fun b => b < N) w (.sl false (Rep.size α) (l.map row)) (.slice A l.length c) := by
 by_cases h0 : 0 < l.length
 ·obtain ⟨b, off, rfl, hb, hc⟩ := h h0
  have key : ∀ (i j : Nat) r d, (l.map row)[i]? = some r -> r[j]? = some d -> ∃ v, d = .v v /\ w.cell? ⟨b, off + i * Rep.size α + j, none⟩ = some v := fun i j r d hr hd => by
   rw [List.getElem?_map] at hr;obtain ⟨x, hx, rfl⟩ := Option.map_eq_some_iff.1 hr;obtain ⟨cs, h1, h2⟩ := hc i x hx;rw [(hrow cs x h1).1, List.getElem?_map] at hd;obtain ⟨v, hv, rfl⟩ := Option.map_eq_some_iff.1 hd;exact ⟨v, rfl, h2 j v hv⟩
  have := RelD.sl (S := fun b => b < N) (w := w) false (Rep.size α) (l.map row) b off c (fun i j => (w.cell? ⟨b, off + i * Rep.size α + j, none⟩).getD undef) hb
   (fun r hr => by
     obtain ⟨x, hx, rfl⟩ := List.mem_map.1 hr;obtain ⟨i, hi⟩ := List.getElem?_of_mem hx;obtain ⟨cs, h1, _⟩ := hc i x hi
     rw [(hrow cs x h1).1, List.length_map, (hrow cs x h1).2])
   (fun h => by cases h)
   (fun i j r d hr hd => by obtain ⟨v, _, hv⟩ := key i j r d hr hd; rw [hv]; rfl)
   (fun i j r d hr hd => by obtain ⟨v, rfl, hv⟩ := key i j r d hr hd; rw [hv]; exact .v _)
  rwa [List.length_map] at this
 ·have : l = [] := List.eq_nil_of_length_eq_zero (by omega)
  subst this;exact .slnil _ _ _ _
theorem Qgr {w : World} {N : Nat} {A : Option Addr} {l : List Pl.Ptr} (c : Nat) (h : Pm.At w N A l) : RelD (fun b => b < N) w (dPtrs l) (.slice A l.length c) :=
 QgN rPtr c (fun cs x h => ⟨by rw [h.1]; rfl, by rw [h.1]; rfl⟩) h
theorem Qg6 {w : World} {N : Nat} {A : Option Addr} {l : List Int} (c : Nat) (h : Pm.At w N A l) : RelD (fun b => b < N) w (dInts l) (.slice A l.length c) :=
 QgN (fun n => [dI n]) c (fun cs x h => ⟨by rw [h.1]; rfl, by rw [h.1]; rfl⟩) h
theorem Qkt {w : World} {N : Nat} {A : Option Addr} {l : List (List UInt8)} (c : Nat) (h : Pm.At w N A l) : RelD (fun b => b < N) w (dStrs l) (.slice A l.length c) :=
 QgN (fun s => [dS s]) c (fun cs x h => ⟨by rw [h.1]; rfl, by rw [h.1]; rfl⟩) h
theorem QiG {w : World} {N : Nat} {s : Pm.Store} {A1 A2 A3 A4 A5 : Option Addr} (c1 c2 c3 c4 c5 : Nat) (h : Pm.StAt w N s A1 A2 A3 A4 A5) : RelD (fun b => b < N) w (dSt s) (.agg (Pm.stV s A1 A2 A3 A4 A5 c1 c2 c3 c4 c5)) := by
 refine .agg _ [_, _, _, _, _, _, _, _] rfl fun i d v hd hv => ?_
 match i, hd, hv with
 |0, hd, hv => obtain rfl := Option.some.inj hd; obtain rfl := Option.some.inj hv; exact Qkt c1 h.a1
 |1, hd, hv => obtain rfl := Option.some.inj hd; obtain rfl := Option.some.inj hv; exact Qg6 c2 h.a2
 |2, hd, hv => obtain rfl := Option.some.inj hd; obtain rfl := Option.some.inj hv; exact Qg6 c3 h.a3
 |3, hd, hv => obtain rfl := Option.some.inj hd; obtain rfl := Option.some.inj hv; exact .v _
 |4, hd, hv => obtain rfl := Option.some.inj hd; obtain rfl := Option.some.inj hv; exact Qgr c4 h.a4
 |5, hd, hv => obtain rfl := Option.some.inj hd; obtain rfl := Option.some.inj hv; exact .v _
 |6, hd, hv => obtain rfl := Option.some.inj hd; obtain rfl := Option.some.inj hv; exact Qgr c5 h.a5
 |7, hd, hv => obtain rfl := Option.some.inj hd; obtain rfl := Option.some.inj hv; exact .v _
theorem Pure.at {f : FuncId} {args : List D} {x : D} (h : Pure Tryz.prog f args x) {w : World} (hL : Pm.Lt w) (cargs : List Value) (hl : args.length = cargs.length) (hr : ∀ (i : Nat) d v, args[i]? = some d -> cargs[i]? = some v -> RelD (fun b => b < w.heap.size) w d v) :
 Calls Tryz.prog f cargs.toArray w fun e w' => ∃ v, e = .returned v /\ Below w.heap.size w w' /\ RelD (fun b => b < w'.heap.size) w' x v := by
 have hS : Sm ⟨w, nG, fun _ => False, fun b => b < w.heap.size⟩ (fun _ => none) (fun b => b < w.heap.size) [] w :=
  ⟨rfl, rfl, rfl, Nat.le_refl _, fun _ _ _ => rfl, fun _ h => h, fun b hb => ⟨hb, .inl hb⟩, fun k b hk => by simp at hk, fun k k' b hk => by simp at hk, fun k C hC => by simp at hC⟩
 refine (h ⟨w, nG, fun _ => False, fun b => b < w.heap.size⟩ (fun _ => none) (fun b => b < w.heap.size) [] w cargs ⟨rfl, fun _ hb => hb.elim, hL⟩ hS hl hr).mono fun e w' ⟨v, h1, h2, h3⟩ => ⟨v, h1, h2, h3.mono (fun b hb => ?_) fun _ _ => rfl⟩
 have := h2.size;rcases hb with hb | hb
 ·have : b < w.heap.size := hb
  omega
 ·exact hb.2
end Aw
end Go.Proofs.YtdjkdcokjoiokaaGreatDoor

/- Part 36 of seek_card: contracts, walks, laws; no condition beyond the statement's. -/
import Derived.Test.YtdjkdcokjoiokaaGreatDoorW34
import Derived.Test.YtdjkdcokjoiokaaGreatDoorW35
import Derived.Sort.Statements
import Derived.Shelf.SlSortCmp.NoneTotal
set_option linter.all false
set_option maxRecDepth 100000
set_option maxHeartbeats 16000000
namespace Go.Proofs.YtdjkdcokjoiokaaGreatDoor
section
open Go.RowKit
namespace Aw
open Pm (Rep)
structure StB (s : Pm.Store) (n : Nat) : Prop where
 l1 : s.1.length <= n
 l2 : s.2.1.1.length <= n
 l3 : s.2.1.2.length <= n
 l4 : s.2.2.2.1.length <= n
 l5 : s.2.2.2.2.2.1.length <= n
 x1 : ∀ x ∈ s.1, x.length <= Pm.big
 x2 : ∀ x ∈ s.2.1.1, Pm.InI x
 x3 : ∀ x ∈ s.2.1.2, Pm.InI x
 x4 : ∀ x ∈ s.2.2.2.1, Pm.PtrIn x
 x5 : ∀ x ∈ s.2.2.2.2.2.1, Pm.PtrIn x
 i1 : Pm.InI s.2.2.1
 i2 : Pm.InI s.2.2.2.2.1
theorem StB.less {s : Pm.Store} {n m : Nat} (h : StB s n) (h1 : s.1.length <= m) (h2 : s.2.1.1.length <= m) (h3 : s.2.1.2.length <= m) (h4 : s.2.2.2.1.length <= m) (h5 : s.2.2.2.2.2.1.length <= m) : StB s m :=
 ⟨h1, h2, h3, h4, h5, h.x1, h.x2, h.x3, h.x4, h.x5, h.i1, h.i2⟩
theorem QhJ {α : Type} [Rep α] {w : World} {N : Nat} {A : Option Addr} {l : List α} (h : Pm.At w N A l) : ∀ x ∈ l, ∃ cs, Rep.cells w N cs x := by
 intro x hx;obtain ⟨i, hi⟩ := List.getElem?_of_mem hx;obtain ⟨b, off, _, _, hc⟩ := h (List.length_pos_of_mem hx);obtain ⟨cs, h1, _⟩ := hc i x hi;exact ⟨cs, h1⟩
theorem QkF {w : World} {N : Nat} {s : Pm.Store} {A1 A2 A3 A4 A5 : Option Addr} (h : Pm.StAt w N s A1 A2 A3 A4 A5) : StB s Pm.big :=
 ⟨h.l1, h.l2, h.l3, h.l4, h.l5, fun x hx => by obtain ⟨cs, h1⟩ := QhJ h.a1 x hx; exact (Pm.QcA h1).2, fun x hx => by obtain ⟨cs, h1⟩ := QhJ h.a2 x hx; exact (Pm.Qdy h1).2,
   fun x hx => by obtain ⟨cs, h1⟩ := QhJ h.a3 x hx; exact (Pm.Qdy h1).2, fun x hx => by obtain ⟨cs, h1⟩ := QhJ h.a4 x hx; exact (Pm.Qha h1).2, fun x hx => by obtain ⟨cs, h1⟩ := QhJ h.a5 x hx; exact (Pm.Qha h1).2, h.i1, h.i2⟩
theorem Qn1 (s : Pm.Store) (hb : StB s 1048576) : Pure Tryz.prog 18 [dSt s] (dSt s) := (Qmp s hb.l1 hb.l2 hb.l3 hb.l4 hb.l5).res
theorem Qn3 (s : Pm.Store) (hb : StB s Pm.big) (q : Int) (h0 : 0 <= q) (h1 : q <= Pm.lim) : Pure Tryz.prog 16 [dSt s, dI q] (dI (Pm.less q (Pm.wtStore s))) := Qmq s hb.l1 hb.x1 hb.l2 hb.l3 hb.l4 hb.l5 q (by omega) h1
theorem QnA (s t : Pm.Store) (hs : StB s Pm.big) : Pure Tryz.prog 21 [dSt s, dSt t] (dB (decide (s = t))) := Qms s t hs.l1 hs.l2 hs.l3 hs.l4 hs.l5
theorem QkE {s : Pm.Store} (hb : StB s Pm.big) (h : Pm.wtStore s <= 1048576) : StB s 1048576 /\ Pl.Lens s := by
 unfold Pm.wtStore Pm.wtSpace Pm.wtL at h;exact ⟨hb.less (by omega) (by omega) (by omega) (by omega) (by omega), by unfold Pm.big; omega, by unfold Pm.big; omega, by omega, by omega⟩
end Aw
end
section
open Go.RowKit
namespace Aw
open Pm
def Pl.Qa5 (size : Int) (x : List (List UInt8)) (n : Nat) : List UInt8 := (List.range n).flatMap fun k => (Pl.fill (x.getD k []) (Pl.QaD size k)).1
theorem QdR (size : Int) (x : List (List UInt8)) (n : Nat) : Pl.Qa5 size x (n + 1) = Pl.Qa5 size x n ++ (Pl.fill (x.getD n []) (Pl.QaD size n)).1 := by
 unfold Pl.Qa5;rw [List.range_succ, List.flatMap_append]; simp
noncomputable def Pl.Qa9 (s : Pm.Store) (n : Pl.Node) : List UInt8 := if Pl.Qam s n = true then Pl.Qa5 n.size ((Pl.Qae s n.tree).1.map fun p => (Pl.rd s.1 p).1) (Pl.Qae s n.tree).1.length else []
theorem bTextS (s : Pm.Store) (hg : Pl.Good s) (htx : 0 <= s.2.2.1) (hin : ∀ t, ∀ p ∈ (Pl.Qae s t).1, Pm.PtrIn p) (n : Pl.Node) (hno : Pl.Qak n = true) (hk : n.kind = 1) :
 Pure Tryz.prog 263 [.pd (rSt s), dNode n] (.tup [dS (Pl.Qa9 s n), dB (Pl.Qam s n)]) := by
 intro B σ S H w cargs hB hS hl hr
 match cargs, hl with
 |[a, b], _ =>
 have h0 := hr 0 _ a rfl rfl;have h1 := hr 1 _ b rfl rfl
 obtain rfl : b = nodeV n := by
  have := Qdb (l := [dNode n]) (vs := [nodeV n]) (cs := [b]) rfl rfl (fun i d v hd hv => hr (i + 1) d v hd hv);simpa using this
 have HW := hid (AtW.mk hB hS h0);have HL := hid (hB.ltOf hS);clear hr h1 hB hS
 suffices h : Calls Tryz.prog 263 #[a, nodeV n] w fun e w' => e = .returned (.tuple #[.string ⟨(Pl.Qa9 s n).toArray⟩, .bool (Pl.Qam s n)]) /\ Below w.heap.size w w' by
  refine h.mono ?_;rintro e w' ⟨rfl, hb⟩;refine ⟨_, rfl, hb, .tup _ _ rfl fun i d v hd hv => ?_⟩
  match i, hd, hv with
  |0, hd, hv => obtain rfl := Option.some.inj hd; obtain rfl := Option.some.inj hv; exact .v _
  |1, hd, hv => obtain rfl := Option.some.inj hd; obtain rfl := Option.some.inj hv; exact .v _
 obtain ⟨ad, rfl⟩ : ∃ ad, a = .pointer ad := by cases h0; exact ⟨_, rfl⟩
 clear h0;have Hnn := hid hno;have Hf := hid (Qg2 (s := s) hno hk);have Hft : Hid (Pl.Qa9 s n = if Pl.Qam s n = true then Pl.Qa5 n.size ((Pl.Qae s n.tree).1.map fun p => (Pl.rd s.1 p).1) (Pl.Qae s n.tree).1.length else []) := hid rfl;obtain ⟨kd, links, size, ⟨⟨p1, p2, p3, p4, p5⟩, depth, many⟩⟩ := n;simp only at hk Hft;subst hk
 have Hok1 : Hid (∀ wk, Below w.heap.size w wk -> Calls Tryz.prog 309 #[.agg #[.int .i64 1, .int .i64 links, .int .i64 size, .int .i64 p1, .int .i64 p2, .int .i64 p3, .int .i64 p4, .int .i64 p5, .int .i64 depth, .int .i64 many]] wk fun e w' => e = .returned (.bool true) /\ Below wk.heap.size wk w') :=
  hid fun wk hb => (cNodeOk HW.out hb ⟨1, links, size, ⟨⟨p1, p2, p3, p4, p5⟩, depth, many⟩⟩).mono fun e w' h => ⟨by rw [h.1, Hnn.out], h.2⟩
 have Hlv : Hid (∀ wk, Below w.heap.size w wk -> Calls Tryz.prog 148 #[.pointer ad, .agg #[.int .i64 p1, .int .i64 p2, .int .i64 p3, .int .i64 p4, .int .i64 p5, .int .i64 depth, .int .i64 many]] wk fun e w' =>
  ∃ A c, e = .returned (.tuple #[.slice A (Pl.Qae s ⟨⟨p1, p2, p3, p4, p5⟩, depth, many⟩).1.length c, .bool (Pl.Qae s ⟨⟨p1, p2, p3, p4, p5⟩, depth, many⟩).2]) /\ Below wk.heap.size wk w' /\ Pm.At w' w'.heap.size A (Pl.Qae s ⟨⟨p1, p2, p3, p4, p5⟩, depth, many⟩).1) :=
  hid fun wk hb => cLeaves HW.out hb hg htx ⟨⟨p1, p2, p3, p4, p5⟩, depth, many⟩ (hin _)
 clear Hnn;unfold nodeV
 go_enter Tryz.func263, Tryz.ntmps263
 go_wp2_with fail
 refine (Hok1.out _ (bnew _ _)).mono ?_;rintro e w1 ⟨rfl, hb1⟩
 have Hbx : Hid (∀ (j : Nat) v, ([.int .i64 1, .int .i64 links, .int .i64 size, .int .i64 p1, .int .i64 p2, .int .i64 p3, .int .i64 p4, .int .i64 p5, .int .i64 depth, .int .i64 many] : List Value)[j]? = some v -> w1.cell? ⟨w.heap.size, j, none⟩ = some v) := hid fun j v hv => by
  rw [hb1.cell (by simp)];rw [cell_of_row _ _ j _ _ _ (Qck _ _)];exact (List.getElem?_toArray ..).trans hv
 have Hb1 := hid (btr (bnew w _) hb1);have Hsz : Hid (w.heap.size < w1.heap.size) := hid (by have := hb1.size; simp at this; omega);clear hb1;have x0 := Hbx.out 0 _ rfl;have x3 := Hbx.out 3 _ rfl;have x4 := Hbx.out 4 _ rfl;have x5 := Hbx.out 5 _ rfl;have x6 := Hbx.out 6 _ rfl;have x7 := Hbx.out 7 _ rfl;have x8 := Hbx.out 8 _ rfl;have x9 := Hbx.out 9 _ rfl
 go_wp2_with fail
 refine (Hlv.out _ Hb1.out).mono ?_;rintro e w2 ⟨A, c, rfl, hb2, hA⟩;have Hb2 := hid (btr Hb1.out hb2);have HA2 := hid hA;have y2 := (hb2.cell (p := ⟨w.heap.size, 2, none⟩) Hsz.out).trans (Hbx.out 2 _ rfl);have Hsz2 : Hid (w.heap.size < w2.heap.size) := hid (by have := hb2.size; have := Hsz.out; omega);clear x0 x3 x4 x5 x6 x7 x8 x9 Hbx Hsz Hb1 hA hb2 Hlv Hok1;cases ht : (Pl.Qaf s ⟨⟨p1, p2, p3, p4, p5⟩, depth, many⟩)
 ·have hlv : Pl.Qae s ⟨⟨p1, p2, p3, p4, p5⟩, depth, many⟩ = ([], false) := by unfold Pl.Qae; rw [ht]; rfl
  have hfl : Hid (Pl.Qam s ⟨1, links, size, ⟨⟨p1, p2, p3, p4, p5⟩, depth, many⟩⟩ = false) := hid (by rw [Hf.out, ht]; rfl);clear Hf;rw [hlv]
  go_wp2
  go_ret2
  exact ⟨by rw [Hft.out, hfl.out]; rfl, Hb2.out⟩
 have hl2 : (Pl.Qae s ⟨⟨p1, p2, p3, p4, p5⟩, depth, many⟩).2 = true := by unfold Pl.Qae; rw [if_pos ht]
 rw [ht] at Hf;have Hho := hid (QcK ht);have Hll := hid (Qcr ht);rw [hl2];clear hl2 ht;simp only at Hf Hll;generalize (Pl.Qae s ⟨⟨p1, p2, p3, p4, p5⟩, depth, many⟩).1 = ps at HA2 Hho Hll Hf Hft ⊢;obtain ⟨fo, hfo⟩ : ∃ fo, Hid (Pl.Qam s ⟨1, links, size, ⟨⟨p1, p2, p3, p4, p5⟩, depth, many⟩⟩ = fo) := ⟨_, hid rfl⟩;rw [hfo.out] at Hf Hft
 go_wp2_with fail
 go_loopw [34] (fun iv wr => ∃ (k : Nat) (txt : List UInt8), k <= ps.length /\ iv = .int .i64 k /\ Hid (Bld w2.heap.size txt wr) /\ txt.length <= 12 * k /\ Hid (txt = Pl.Qa5 size (ps.map fun p => (Pl.rd s.1 p).1) k) /\ Hid ((List.range k).all (fun k => Pl.QaI size k ((ps.map fun p => (Pl.rd s.1 p).1).getD k [])) = true) /\ Hid (Below w2.heap.size w2 wr)) (fun iv _ => ps.length - (intOf iv).toNat)
 case atStart => exact ⟨0, [], by omega, rfl, hid (bldNew w2), by simp, hid rfl, hid rfl, hid (bnew _ _)⟩
 case round =>
  obtain ⟨k, txt, hkl, rfl, HB, htl, HX, HP, Hbel⟩ := hrel
  by_cases hlt : k < ps.length
  ·have hltI : (k : Int) < ps.length := by omega
   obtain ⟨bb, off, cs, rfl, hbb, hc, hv⟩ := (HA2.out.up Hbel.out).elem hlt;obtain ⟨p, He⟩ : ∃ p, Hid (p = ps[k]) := ⟨ps[k], hid rfl⟩;rw [<- He.out] at hc;obtain ⟨rfl, hpin⟩ := hc;have Hpk := hid ((Hho.out p (by rw [He.out]; exact List.getElem_mem hlt)).1)
   have Hx : Hid ((ps.map fun p => (Pl.rd s.1 p).1).getD k [] = (Pl.rd s.1 p).1) := hid (by
    rw [List.getD_eq_getElem?_getD, List.getElem?_map, List.getElem?_eq_getElem hlt, <- He.out]; rfl)
   have Hrl := hid (QfF s hg p);obtain ⟨q1, q2, q3, q4, q5⟩ := p;have e0 := hv 0 _ rfl;have e1 := hv 1 _ rfl;have e2 := hv 2 _ rfl;have e3 := hv 3 _ rfl;have e4 := hv 4 _ rfl;simp only [Rep.size, Nat.add_zero] at e0 e1 e2 e3 e4;clear hv hbb hpin He
   go_wp2_with fail
   refine (cRead HW.out (btr (btr Hb2.out Hbel.out) (bnew _ _)) hg ⟨q1, q2, q3, q4, q5⟩ (fun _ => Hpk.out)).mono ?_;rintro e w3 ⟨rfl, hb3⟩;have Hb3 := hid (btr Hbel.out (btr (bnew _ _) hb3));have HB3 := hid (HB.out.below (btr (bnew _ _) hb3));have z2 := (Hb3.out.cell (p := ⟨w.heap.size, 2, none⟩) Hsz2.out).trans y2;have Hfp := QdW hno rfl (k := k) (by have := Hll.out.1; simp only; omega);simp only at Hfp;have hT : Hid (Pl.QaI size k (Pl.rd s.1 ⟨q1, q2, q3, q4, q5⟩).1 = true -> (List.range (k + 1)).all (fun k => Pl.QaI size k ((ps.map fun p => (Pl.rd s.1 p).1).getD k [])) = true) := hid fun h => Pl.Qb8 (p := fun k => Pl.QaI size k ((ps.map fun p => (Pl.rd s.1 p).1).getD k [])) HP.out (by rw [Hx.out]; exact h)
   have hF : Hid (Pl.QaI size k (Pl.rd s.1 ⟨q1, q2, q3, q4, q5⟩).1 = false -> fo = false) := hid fun h => by
    rw [Hf.out, Bool.true_and];exact Pl.Qb5 (p := fun k => Pl.QaI size k ((ps.map fun p => (Pl.rd s.1 p).1).getD k [])) hlt (by rw [Hx.out]; exact h)
   have hX : Hid (Pl.Qa5 size (ps.map fun p => (Pl.rd s.1 p).1) (k + 1) = txt ++ (Pl.fill (Pl.rd s.1 ⟨q1, q2, q3, q4, q5⟩).1 (Pl.QaD size k)).1) := hid (by rw [QdR, Hx.out, HX.out]);clear hb3 e0 e1 e2 e3 e4 Hx HB y2 HX;generalize (Pl.rd s.1 ⟨q1, q2, q3, q4, q5⟩).2 = rok at *
   generalize (Pl.rd s.1 ⟨q1, q2, q3, q4, q5⟩).1 = x at *
   go_wp2_with fail
   refine (Qkm HW.out (btr Hb2.out Hb3.out) size k (by omega) (by omega) (by have := Hll.out; omega)).mono ?_;rintro e w4 ⟨rfl, hb4⟩;have Hb4 := hid (btr Hb3.out hb4);have HB4 := hid (HB3.out.below hb4);clear hb4 HB3 z2
   go_wp2_with fail
   refine (Qkn HW.out (btr Hb2.out Hb4.out) x (Pl.QaD size k) (by have := Hrl.out; omega)).mono ?_;rintro e w5 ⟨rfl, hb5⟩;have Hb5 := hid (btr Hb4.out hb5);have HB5 := hid (HB4.out.below hb5);clear hb5 HB4;have hpd : Pl.QaI size k x = ((Pl.fill x (Pl.QaD size k)).2 && !(([0] : List UInt8).isSuffixOf x)) := rfl;rw [hpd] at hT hF
   have hfl : (Pl.fill x (Pl.QaD size k)).2 = true -> (Pl.fill x (Pl.QaD size k)).1.length <= 12 := fun h => by
    unfold Pl.fill at h ⊢;split at h
    ·rename_i hc
     rw [if_pos hc];simp only [Bool.and_eq_true, decide_eq_true_eq, Pl.inR] at hc;simp only [List.length_append, List.length_replicate];omega
    ·cases h
   clear hpd;generalize Pl.fill x (Pl.QaD size k) = fl at *
   obtain ⟨full, fine⟩ := fl;simp only at hT hF hfl hX;cases fine
   ·have hff := hid (hF.out rfl)
    clear hT hF hfl
    go_wp2
    go_ret2
    exact ⟨by rw [hfo.out, Hft.out, hff.out]; rfl, btr Hb2.out Hb5.out⟩
   ·have hfl := hfl rfl
    go_wp2_with fail
    refine (Qko x [0] (by have := Hrl.out; omega) _).mono ?_;rintro e w6 ⟨rfl, hb6⟩;have Hb6 := hid (btr Hb5.out hb6);have HB6 := hid (HB5.out.below hb6);clear hb6 HB5;cases hsx : (([0] : List UInt8).isSuffixOf x)
    ·have hall := hid (hT.out (by rw [hsx]; rfl))
     clear hT hF
     go_wp2_with fail
     refine (bldStr HB6.out full (by have := Hll.out; omega)).mono ?_;rintro e w7 ⟨rfl, hB7, hb7⟩;have HB7 := hid hB7;have Hb7 := hid (Hb6.out.trans hb7);clear hB7 hb7
     go_wp2_with fail
     go_roundw
     case rel => exact ⟨k + 1, txt ++ full, by omega, by go_num, HB7, by simp only [List.length_append]; omega, hid hX.out.symm, hall, Hb7⟩
     case measure => simp only [intOf]; omega
    ·have hff := hid (hF.out (by rw [hsx]; rfl))
     clear hT hF
     go_wp2
     go_ret2
     exact ⟨by rw [hfo.out, Hft.out, hff.out]; rfl, btr Hb2.out Hb6.out⟩
  ·have hk' : k = ps.length := by omega
   have hff : Hid (fo = true) := hid (by rw [Hf.out, <- hk', HP.out]; rfl);have hltI : ¬ (k : Int) < ps.length := by omega
   go_wp2_with fail
   refine (bldText HB.out).mono ?_;rintro e w5 ⟨rfl, hb5⟩
   go_wp2
   go_ret2
   exact ⟨by rw [hfo.out, Hft.out, hff.out, HX.out, hk']; rfl, btr Hb2.out (Hbel.out.trans hb5)⟩
end Aw
end
section
open Go.RowKit
namespace Aw
noncomputable abbrev Pl.FPx (s : Pm.Store) (x : List (List UInt8)) : List Gr.It -> List Gr.It -> Prop := Gr.FP (Pl.Qad (Pl.Qab x)) (Pl.enF (Pl.Qab x) (Pl.ents s))
theorem QnH {s : Pm.Store} {x : List (List UInt8)} {p : List (List UInt8)} {k : Nat} {L : List Gr.It} (h : Pl.FPx s x [(p, k)] L) :
 ∃ L1, L = (p, k) :: L1 /\ Pl.FPx s x ((Pl.entL s x (k : Nat)).map fun e => (p ++ [e.1], e.2.toNat)) L1 /\ Pl.Qad (Pl.Qab x) k ≠ 0 := by
 cases h with
 |file hk h =>
  cases h;refine ⟨[], rfl, ?_, by omega⟩
  have : Pl.entL s x (k : Nat) = [] := by
   unfold Pl.entL;rw [Int.toNat_natCast];rcases Qcs s ((Pl.Qab x).getD k Pl.zn) with h2 | h2
   ·have := Qh1 h2.1
    exfalso; unfold Pl.Qad at hk; rw [this] at hk; cases hk
   ·rw [h2]
  rw [this]; exact .nil
 |dir hk hc h1 h2 =>
  cases h2;refine ⟨_, by rw [List.append_nil], ?_, by omega⟩;unfold Pl.enF at hc;split at hc
  ·obtain rfl := Option.some.inj hc
   unfold Pl.entL;rw [Int.toNat_natCast];unfold Gr.kids at h1;rw [List.map_map] at h1;exact h1
  ·cases hc
theorem fp_cons {s : Pm.Store} {x : List (List UInt8)} {y : Gr.It} {r L : List Gr.It} (h : Pl.FPx s x (y :: r) L) : ∃ M R, L = M ++ R /\ Pl.FPx s x [y] M /\ Pl.FPx s x r R := by
 obtain ⟨La, Lb, h1, h2, h3⟩ := Gr.FP.split (a := [y]) h;exact ⟨La, Lb, h1, h2, h3⟩
def Pl.Sep (p q : List (List UInt8)) : Prop := ∀ u v, (∀ n ∈ u, Pl.Qai n = true) -> (∀ n ∈ v, Pl.Qai n = true) -> Op.bytesLess (Pl.Qao (p ++ u)) (Pl.Qao (q ++ v)) = true
theorem QlZ : ∀ p x y : List UInt8, Op.bytesLess (p ++ x) (p ++ y) = Op.bytesLess x y
 |[], x, y => rfl
 |a :: p, x, y => by
  have := Qdr a a (p ++ x) (p ++ y);rw [List.cons_append, List.cons_append, Bool.eq_iff_iff, this, QlZ p x y];simp
theorem bl_ext (a : List UInt8) {x : List UInt8} (h : x ≠ []) : Op.bytesLess a (a ++ x) = true := by
 have := QlZ a [] x;rw [List.append_nil] at this;rw [this];cases x with
 |nil => exact absurd rfl h
 |cons => simp [Op.bytesLess]
theorem Qhh : ∀ {a b : List UInt8}, Op.bytesLess a b = true -> (∀ c ∈ b, (47 : UInt8) < c) -> ∀ U V : List UInt8, (U = [] ∨ ∃ R, U = 47 :: R) -> Op.bytesLess (a ++ U) (b ++ V) = true
 |[], [], h, _, _, _, _ => by simp [Op.bytesLess] at h
 |[], c :: b, _, hb, U, V, hU => by
  rcases hU with rfl | ⟨R, rfl⟩
  ·simp [Op.bytesLess]
  ·rw [List.nil_append, List.cons_append, Qdr]
   exact .inl (hb c List.mem_cons_self)
 |x :: a, [], h, _, _, _, _ => by simp [Op.bytesLess] at h
 |x :: a, y :: b, h, hb, U, V, hU => by
  rw [Qdr] at h;rw [List.cons_append, List.cons_append, Qdr];rcases h with h | ⟨rfl, h⟩
  ·exact .inl h
  ·exact .inr ⟨rfl, Qhh h (fun c hc => hb c (List.mem_cons_of_mem _ hc)) U V hU⟩
theorem name_gt {x : List UInt8} (h : Pl.Qai x = true) : ∀ c ∈ x, (47 : UInt8) < c := by
 intro c hc;unfold Pl.Qai at h;simp only [Bool.and_eq_true, List.all_eq_true, decide_eq_true_eq] at h;have := (h.1.1 c hc).1;rw [UInt8.lt_iff_toNat_lt];show 47 < c.toNat;omega
theorem name_ne {x : List UInt8} (h : Pl.Qai x = true) : x ≠ [] := by rintro rfl; simp [Pl.Qai] at h
theorem Qm3 (p : List (List UInt8)) {a b : List UInt8} (h : Op.bytesLess a b = true) (hb : Pl.Qai b = true) : Pl.Sep (p ++ [a]) (p ++ [b]) := by
 intro u v _ _
 have e : ∀ (c : List UInt8) (u : List (List UInt8)), Pl.Qao (p ++ [c] ++ u) = p.flatMap (47 :: ·) ++ (47 : UInt8) :: (c ++ u.flatMap (47 :: ·)) := by
  intro c u; unfold Pl.Qao; rw [if_neg (by simp)]; simp
 rw [e, e, QlZ, Qdr];refine .inr ⟨rfl, Qhh h (name_gt hb) _ _ ?_⟩;cases u with
 |nil => exact .inl rfl
 |cons a u => exact .inr ⟨_, by rw [List.flatMap_cons, List.cons_append]⟩
theorem QhU (p u : List (List UInt8)) (hu : u ≠ []) (h : ∀ n ∈ u, Pl.Qai n = true) : Op.bytesLess (Pl.Qao p) (Pl.Qao (p ++ u)) = true := by
 obtain ⟨a, u, rfl⟩ := List.exists_cons_of_ne_nil hu;unfold Pl.Qao;rw [if_neg (show p ++ a :: u ≠ [] by simp)];split
 ·rename_i hp
  rw [hp, List.nil_append, List.flatMap_cons, List.cons_append, Qdr];refine .inr ⟨rfl, ?_⟩;have := name_ne (h a List.mem_cons_self);cases a with
  |nil => exact absurd rfl this
  |cons => simp [Op.bytesLess]
 ·rw [List.flatMap_append]
  exact bl_ext _ (by rw [List.flatMap_cons]; simp)
theorem Qjh {kind : Nat -> Nat} {en : Nat -> Option Gr.En} (hen : ∀ k es, en k = some es -> ∀ e ∈ es, Pl.Qai e.1 = true) {r L : List Gr.It} (h : Gr.FP kind en r L) (hr : ∀ x ∈ r, ∀ n ∈ x.1, Pl.Qai n = true) :
 ∀ x ∈ L, ∃ y ∈ r, ∃ u, x.1 = y.1 ++ u /\ ∀ n ∈ u, Pl.Qai n = true := by
 intro x hx;obtain ⟨y, hy, u, hu⟩ := h.pre x hx;exact ⟨y, hy, u, hu.symm, fun n hn => Qjg hen h hr x hx n (by rw [<- hu]; exact List.mem_append_right _ hn)⟩
theorem fp_asc {kind : Nat -> Nat} {en : Nat -> Option Gr.En} (hen : ∀ k es, en k = some es -> ∀ e ∈ es, Pl.Qai e.1 = true) (hes : ∀ k es, en k = some es -> es.Pairwise fun a b => Op.bytesLess a.1 b.1 = true) {r L : List Gr.It} (h : Gr.FP kind en r L) :
 (∀ x ∈ r, ∀ n ∈ x.1, Pl.Qai n = true) -> r.Pairwise (fun a b => Pl.Sep a.1 b.1) -> L.Pairwise fun a b => Op.bytesLess (Pl.Qao a.1) (Pl.Qao b.1) = true := by
 induction h with
 |nil => intro _ _; exact .nil
 |file hk h ih =>
  intro hn hp;rw [List.pairwise_cons] at hp ⊢;have hn' := fun x hx => hn x (List.mem_cons_of_mem _ hx)
  refine ⟨fun b hb => ?_, ih hn' hp.2⟩;obtain ⟨y, hy, u, hu, hun⟩ := Qjh hen h hn' b hb;have := hp.1 y hy [] u (by simp) hun;rw [List.append_nil] at this;rw [hu]; exact this
 |@dir p k es r L1 L2 hk he h1 h2 ih1 ih2 =>
  intro hn hp;rw [List.pairwise_cons] at hp ⊢;have hn' := fun x hx => hn x (List.mem_cons_of_mem _ hx)
  have hkn : ∀ x ∈ Gr.kids p es, ∀ n ∈ x.1, Pl.Qai n = true := fun x hx n hm => by
   obtain ⟨e, hem, rfl⟩ := List.mem_map.1 hx;rcases List.mem_append.1 hm with hm | hm
   ·exact hn _ List.mem_cons_self n hm
   ·rw [List.mem_singleton.1 hm]; exact hen k es he e hem
  have hkp : (Gr.kids p es).Pairwise fun a b => Pl.Sep a.1 b.1 := by
   unfold Gr.kids;rw [List.pairwise_map];exact (hes k es he).imp_of_mem fun {a b} _ hb hab => Qm3 p hab (hen k es he b hb)
  have hl : ∀ x ∈ L1, ∃ u, u ≠ [] /\ x.1 = p ++ u /\ ∀ n ∈ u, Pl.Qai n = true := fun x hx => by
   obtain ⟨y, hy, u, hu, hun⟩ := Qjh hen h1 hkn x hx;obtain ⟨e, hem, rfl⟩ := List.mem_map.1 hy;refine ⟨e.1 :: u, by simp, by rw [hu, List.append_assoc]; rfl, fun n hm => ?_⟩;rcases List.mem_cons.1 hm with rfl | hm
   ·exact hen k es he e hem
   ·exact hun n hm
  refine ⟨fun b hb => ?_, ?_⟩
  ·rcases List.mem_append.1 hb with hb | hb
   ·obtain ⟨u, hu0, hu, hun⟩ := hl b hb
    rw [hu]; exact QhU p u hu0 hun
   ·obtain ⟨y, hy, u, hu, hun⟩ := Qjh hen h2 hn' b hb
    have := hp.1 y hy [] u (by simp) hun;rw [List.append_nil] at this;rw [hu]; exact this
  ·rw [List.pairwise_append]
   refine ⟨ih1 hkn hkp, ih2 hn' hp.2, fun a ha b hb => ?_⟩;obtain ⟨u, _, hu, hun⟩ := hl a ha;obtain ⟨y, hy, v, hv, hvn⟩ := Qjh hen h2 hn' b hb;rw [hu, hv];exact hp.1 y hy u v hun hvn
theorem Ql7 {s : Pm.Store} {ns : List Pl.Node} {L : List Gr.It} (h : Gr.FP (Pl.Qad ns) (Pl.enF ns (Pl.ents s)) [([], 0)] L) :
 (∀ x ∈ L, ∀ n ∈ x.1, Pl.Qai n = true) /\ L.Pairwise fun a b => Op.bytesLess (Pl.Qao a.1) (Pl.Qao b.1) = true := by
 have hen : ∀ k es, Pl.enF ns (Pl.ents s) k = some es -> (∀ e ∈ es, Pl.Qai e.1 = true) /\ es.Pairwise fun a b => Op.bytesLess a.1 b.1 = true := fun k es he => by
  unfold Pl.enF at he;split at he;rotate_left
  ·cases he
  rename_i h2;obtain rfl := Option.some.inj he;rcases Qcs s (ns.getD k Pl.zn) with h | h;rotate_left
  ·rw [h] at h2; cases h2
  refine ⟨fun e hee => ?_, ?_⟩
  ·obtain ⟨e', he', rfl⟩ := List.mem_map.1 hee
   exact (Qjl s _ e' he').1
  ·rw [List.pairwise_map, List.pairwise_iff_getElem]
   intro i j hi hj hij;exact QlE h.2 hj hij
 exact ⟨Qjg (fun k es he => (hen k es he).1) h (by simp), fp_asc (fun k es he => (hen k es he).1) (fun k es he => (hen k es he).2) h (by simp) (List.pairwise_singleton ..)⟩
theorem QhW {α : Type} [Inhabited α] {lt : α -> α -> Bool} (hO : Go.Sort.SWO lt) {d d' : Array α} (hd : d.toList.Pairwise fun a b => lt a b = true) (hp : Go.Sort.PermIn 0 d.size d d') (hs : Go.Sort.SortedIn lt 0 d.size d') : d' = d := by
 obtain ⟨h1, _, h3⟩ := hp;have e1 : d'.extract 0 d.size = d' := by rw [<- h1]; exact Array.extract_size
 have e2 : d.extract 0 d.size = d := Array.extract_size;rw [e1, e2] at h3;apply Array.toList_inj.1;refine List.Perm.eq_of_pairwise (le := fun a b => lt b a = false) (fun a b ha hb hab hba => ?_) ?_ ?_ h3
 ·by_cases hne : a = b
  ·exact hne
  exfalso;have hb' : b ∈ d.toList := hb;have ha' : a ∈ d.toList := h3.subset ha;obtain ⟨i, hi, rfl⟩ := List.mem_iff_getElem.1 ha';obtain ⟨j, hj, rfl⟩ := List.mem_iff_getElem.1 hb';rw [List.pairwise_iff_getElem] at hd;rcases Nat.lt_trichotomy i j with h | h | h
  ·rw [hd i j hi hj h] at hba; cases hba
  ·subst h; exact hne rfl
  ·rw [hd j i hj hi h] at hab; cases hab
 ·rw [List.pairwise_iff_getElem]
  intro i j hi hj hij;have hj' : j < d'.size := by simpa using hj
  have := hs i j (Nat.zero_le _) hij (by omega);rw [getElem!_pos d' i (by omega), getElem!_pos d' j hj'] at this;exact this
 ·refine hd.imp fun {a b} hab => ?_
  cases hba : lt b a
  ·rfl
  ·have := hO.trans a b a hab hba
   rw [hO.irrefl] at this; cases this
end Aw
end
section
open Go.RowKit
namespace Aw
attribute [local irreducible] ASeq ADraw AWP Loc mget mset AStep Fg.PlanF Fg.Flts
abbrev rIt (x : Gr.It) : List D := [dS (Pl.Qao x.1), dI (x.2 : Nat)]
def Pl.fb (l : List Gr.It) : List Blk := [.row 0 [.osl 1 l.length 0 l.length, .d (.v (.slice none 0 0))], .arr l.length 2 126 (l.map rIt)]
def Pl.fg (l : List Gr.It) : List AV := [.ptr 0 0 0, .osl 1 l.length 0 l.length]
theorem QlC (l m : List Gr.It) : ∀ i C, (Pl.fb l)[i]? = some C -> ∃ C', (Pl.fb (l ++ m))[i]? = some C' /\ pin1 (Pl.fg l) i C C' := by
 intro i C hC
 match i, hC with
 |0, hC => obtain rfl := Option.some.inj hC; exact ⟨_, rfl, .inr ⟨rfl, 0, by simp [Pl.fg]⟩⟩
 |1, hC =>
  obtain rfl := Option.some.inj hC;refine ⟨_, rfl, rfl, rfl, ?_⟩;rcases m with _ | ⟨x, m⟩
  ·exact .inr ⟨by simp, by simp, 0, l.length, by simp [Pl.fg]⟩
  ·exact .inl (by simp)
theorem fg_mem (l : List Gr.It) (N : Nat) (Lx : List AV) (Hr : List Blk) (g : AV) (hg : g ∈ Pl.fg l) (ha : AV.ptr 0 0 0 ∈ Lx) : g.ren (rho [0, 1] N) ∈ Lx ++ (Pl.fb l ++ Hr).flatMap Blk.parts := by
 simp only [Pl.fg, List.mem_cons, List.not_mem_nil, or_false] at hg;rcases hg with rfl | rfl
 ·exact List.mem_append_left _ ha
 ·exact List.mem_append_right _ (by simp [Pl.fb, Blk.parts, AV.parts, AV.ren, rho])
theorem fg_mem0 (Lx : List AV) (Hx : List Blk) (g : AV) (hg : g ∈ Pl.fg []) (ha : AV.ptr 1 0 0 ∈ Lx) (hd : AV.osl 2 0 0 0 ∈ Hx.flatMap Blk.parts) (N : Nat) : g.ren (rho [1, 2] N) ∈ Lx ++ Hx.flatMap Blk.parts := by
 simp only [Pl.fg, List.mem_cons, List.not_mem_nil, or_false] at hg;rcases hg with rfl | rfl
 ·exact List.mem_append_left _ ha
 ·exact List.mem_append_right _ hd
theorem Qky (l : List Gr.It) (hl : l.length <= 1000000) (x : Gr.It) : Does Tryz.prog 274 [.d (.agg (rIt x)), .ptr 0 0 0] (Pl.fb l) (Pl.fg l) (.tup []) (Pl.fb (l ++ [x])) := by
 refine Qb9 Tryz.func274 rfl Tryz.ntmps274 Tryz.results274 rfl rfl ?hpin (fun gvs => ?_)
 case hpin => exact QlC l [x]
 simp only [parA, gslot, Nat.zero_add, Nat.reduceAdd, Pl.fb, Pl.fg];rw [List.length_append, List.length_singleton, List.map_append, List.map_cons, List.map_nil];refine QgF ?_
 (refine Qbf (Qbc ?_); (repeat (first | refine e2 (k := ?_) | fail)); refine Qbd ?_)
 refine Qbg 2 (h := ?_)
 (repeat' (first | refine e1 (k := ?_) | refine QbO Ty.h rfl Ty.h (hb := ?_) (kk := ?_) | refine stepS2 (Qbz Ty.h rfl Ty.h) (k := ?_) | refine Qbu (kk := ?_) | refine Qb0 ?_ | refine Qbc ?_ | fail))
 all_goals first
  |(show ((l.map rIt).length + 1) * 24 <= 140737488355328
    rw [List.length_map]; omega)
  |exact QgH 2 .normal (.inl rfl) rfl rfl rfl rfl rfl rfl rfl
  |(rw [List.length_map]
    exact QgH 2 .normal (.inl rfl) rfl rfl rfl rfl rfl rfl rfl)
theorem Qfe : ∀ names : List (List UInt8), Pl.QaX names = Pl.Qao names
 |[] => rfl
 |[a] => by simp [Pl.QaX, Pl.Qao, Pl.Qa4]
 |a :: b :: l => by
  have ih := Qfe (b :: l);unfold Pl.QaX Pl.Qao at ih ⊢;rw [if_neg (by simp)] at ih ⊢;have e : Pl.Qa4 47 (a :: b :: l) = a ++ 47 :: Pl.Qa4 47 (b :: l) := by simp [Pl.Qa4, List.intersperse]
  rw [e, ih, List.flatMap_cons]; rfl
theorem bWalkF (s : Pm.Store) (t : Pl.Tree) (x : List (List UInt8)) (m : List (Int × D)) (hm : Pl.Qba m (Pl.entL s x)) : ∀ (n : Nat) (L : List Gr.It) (k : Nat) (names : List (List UInt8)) (out : List Gr.It), L.length <= n -> Pl.FPx s x [(names, k)] L ->
 names.length + L.length <= 1000 -> (∀ a ∈ names, a.length <= 4) -> out.length + L.length <= 1000000 ->
 Does Tryz.prog 194 [.d (.pd (rFiles s t x m)), .d (dI k), .d (Pl.nmD names), .fn (.func 274) [.ptr 0 0 0]] (Pl.fb out) (Pl.fg out) (.tup []) (Pl.fb (out ++ L)) := by
 intro n;induction n with
 |zero =>
  intro L k names out h1 h2;obtain ⟨L1, rfl, _⟩ := QnH h2;simp at h1
 |succ n ih =>
  intro L k names out h1 h2 h3 h4 h5;obtain ⟨L1, rfl, hfd, hk0⟩ := QnH h2;simp only [List.length_cons] at h1 h3 h5;have dv := Qky out (by omega) (names, k)
  obtain ⟨dn, g0, hdn, cp, hcl⟩ : ∃ (dn : D) (g0 : Nat), Pl.nmD names = dn /\ Pure Tryz.prog 269 [dn] (dS (Pl.Qao names)) /\ Does Tryz.prog 174 [.d dn] [] [] (.osl 0 g0 0 names.length) [.arr g0 1 9 (names.map fun s => [dS s])] := by
   have cp := Qmd names (by omega) (fun a ha => by have := h4 a ha; omega);rw [Qfe] at cp
   by_cases hn : names = []
   ·subst hn
    exact ⟨_, 0, rfl, QkU cp, Qmh⟩
   ·exact ⟨tStrs names, 1, by unfold Pl.nmD; rw [if_neg hn], cp, Qmg names (by omega) hn⟩
  rw [hdn];clear hdn;obtain ⟨hE, hgt⟩ := hm (k : Nat) (by omega);refine Qb9 Tryz.func194 rfl Tryz.ntmps194 Tryz.results194 rfl rfl ?hpin (fun gvs => ?_)
  case hpin => exact QlC out _
  simp only [parA, gslot, Nat.zero_add, Nat.reduceAdd];rw [show out ++ (names, k) :: L1 = (out ++ [(names, k)]) ++ L1 by simp];clear h2 hk0;have hvm := fun (out : List Gr.It) (N : Nat) => fg_mem out N
  have hol : (out ++ [(names, k)]).length = out.length + 1 := by simp
  generalize out ++ [(names, k)] = out1 at *
  have hg : mget m (k : Nat) = some (.sl true 2 ((Pl.entL s x (k : Nat)).map rEnt)) ∨ mget m (k : Nat) = none /\ (Pl.entL s x (k : Nat)).map rEnt = [] := by
   rcases hgt with h | ⟨h1, h2⟩
   ·exact .inl h
   ·exact .inr ⟨h1, by rw [h2]; rfl⟩
  generalize Pl.entL s x (k : Nat) = es at *
  have hsp : rIt (names, k) = [dS (Pl.Qao names), dI (k : Nat)] := rfl;rw [hsp] at dv;generalize Pl.Qao names = pt at *
  clear hgt hsp;have hes : es.length <= 12 := by have := hE; unfold Pl.Qag at this; rw [Bool.and_eq_true, decide_eq_true_eq] at this; exact this.2
  refine QgF ?_;simp only [Pl.fb, Pl.fg] at dv ⊢
  (repeat' (first | refine e1 (k := ?_) | refine stepS (Qbe Tryz.call269 cp rfl) (k := ?_) | refine (Qf8 [0, 1] dv Tryz.call274 (hgl := fun g hg => hvm _ _ _ [] g hg (by simp [AV.parts, go_sem])) (k := ?_)) | refine stepS (QbF rfl) (k := ?_) | refine stepS (QeF Tryz.underlying263 Tryz.underlying3 (by kernel_rfl) rfl rfl hg) (k := ?_) | refine Qbd ?_ | refine Qbf ?_ | refine Qbc ?_ | refine Qbi ?_ | fail))
  refine Qby (fun mm st => ∃ (j : Nat) (Ld Lr : List Gr.It), j <= es.length /\ mm = es.length - j /\ Hid (L1 = Ld ++ Lr) /\ Hid (Pl.FPx s x ((es.drop j).map fun e => (names ++ [e.1], e.2.toNat)) Lr) /\
   st = ⟨39, [(21, .d (tEnts es)), (22, .d (dI es.length)), (23, .d (dI j)), (0, .d (.pd (rFiles s t x m))), (2, .d dn), (3, .fn (.func 274) [.ptr 0 0 0]), (1000000, .gh [.ptr 0 0 0, .osl 1 out.length 0 out.length] gvs)],
    [.row 0 [.osl 1 (out1 ++ Ld).length 0 (out1 ++ Ld).length, .d (.v (.slice none 0 0))], .arr (out1 ++ Ld).length 2 126 ((out1 ++ Ld).map rIt)]⟩)
   [21, 22, 23, 0, 2, 3, 1000000] 2 es.length ⟨0, [], L1, by omega, rfl, Pm.hid rfl, Pm.hid hfd, by simp [keepE, go_sem]⟩ (round := ?_)
  rintro mm st ⟨j, Ld, Lr, hj, rfl, hL, hF, rfl⟩
  (repeat (first | refine e1 (k := ?_) | refine Qbd ?_ | refine Qbf ?_ | refine Qbc ?_ | fail))
  cases q3 : decide ((j : Int) < (es.length : Int))
  ·have hje : j = es.length := by simp at q3; omega
   have hLd : L1 = Ld := by
    have h := hF.out;rw [hje, List.drop_length] at h;cases h;rw [hL.out, List.append_nil]
   clear dv hcl cp ih hvm;subst hLd
   (repeat' (first | refine Qbm (hf := ?_) | refine Qbq ?_ | refine x_then ?_ | refine x_block ?_ | fail))
   exact QgH 2 .normal (.inl rfl) rfl rfl rfl rfl rfl rfl rfl
  have hj2 : j < es.length := by simp at q3; omega
  obtain ⟨e, he⟩ : ∃ e, es[j]? = some e := ⟨_, List.getElem?_eq_getElem hj2⟩;have hr := Qbx (f := rEnt) he;have heb := ent_b hE e (List.mem_of_getElem? he);have hdr : es.drop j = e :: es.drop (j + 1) := by rw [List.drop_eq_getElem_cons hj2, (List.getElem?_eq_some_iff.1 he).2]
  have hF2 := hF.out;rw [hdr, List.map_cons] at hF2;obtain ⟨M, R, rfl, hM, hR⟩ := fp_cons hF2;obtain ⟨nmE, id⟩ := e;simp only at heb hM;obtain ⟨kid, rfl⟩ := Int.eq_ofNat_of_zero_le (show 0 <= id by omega);rw [Int.toNat_natCast] at hM;have hLl := congrArg List.length hL.out;simp only [List.length_append] at hLl
  have h4' : ∀ a ∈ names ++ [nmE], a.length <= 4 := fun a ha => by
   rcases List.mem_append.1 ha with h | h
   ·exact h4 a h
   ·rw [List.mem_singleton.1 h]; exact Qex heb.1
  have ih2 := ih M kid (names ++ [nmE]) (out1 ++ Ld) (by omega) hM (by simp; omega) h4' (by rw [List.length_append]; omega);have hnm : Pl.nmD (names ++ [nmE]) = tStrs (names ++ [nmE]) := by unfold Pl.nmD; rw [if_neg (by simp)]
  rw [hnm, List.append_assoc] at ih2
  replace hR := Pm.hid hR
  clear he hdr hF2 hF hM ih hnm dv cp h4 h4' hol;have hL2 : Hid (L1 = (Ld ++ M) ++ R) := Pm.hid (by rw [List.append_assoc]; exact hL.out);clear hL hLl hfd;generalize ho3 : out1 ++ (Ld ++ M) = o3 at *
  generalize out1 ++ Ld = o2 at *
  simp only [Pl.fb, Pl.fg] at ih2
  (repeat' (first | refine e1 (k := ?_) | refine stepS (Qbh Ty.h rfl Ty.h rfl rfl rfl (by omega) hr) (k := ?_) | refine (Qbg 2 (h := Fg.awp_drawF (id := 4) [0, 1, 2, 3, 5, 6, 7, 9] [4, 8, 10] follows_mixed (by kernel_rfl) (by kernel_rfl) (by kernel_rfl) ?_)) | refine (Fg.aw_flt (k := ?_)) | refine (Fg.aw_fltL (hl := fun H => Qjc Ty.h rfl Ty.h) (k := ?_)) | refine (Fg.aw_fltN ?_) | refine (Fg.aw_planFC (by rfl) (by kernel_rfl) rfl ?_) | refine (Fg.aw_planFN ?_) | refine (QeU [] hcl Tryz.call174 (x' := .osl 3 g0 0 names.length) (hX := fun _ h => h) (H' := [.row 0 [.osl 1 o2.length 0 o2.length, .d (.v (.slice none 0 0))], .arr o2.length 2 126 (o2.map rIt), .row 1 [], .arr g0 1 9 (names.map fun s => [dS s])]) (hH := fun _ h => h) (k := ?_)) | refine (Qjy Ty.h rfl Ty.h (hcell := ?_) (hb := ?_) (kk := ?_)) | refine (Qmj 3 [0, 1] ih2 Tryz.call194 (H' := [.row 0 [.osl 1 o3.length 0 o3.length, .d (.v (.slice none 0 0))], .arr o3.length 2 126 (o3.map rIt), .row 1 [], .arr (g0 + 1 + 1) 1 9 []]) (hH := ?_) (hargs := ?_) (hgl := ?_) (k := ?_)) | refine stepS (Qbs rfl rfl (by omega)) (k := ?_) | refine Qbu (kk := ?_) | refine Qbd ?_ | refine Qbp ?_ | refine Qbr ?_ | refine QbE ?_ | refine Qbf ?_ | refine Qbc ?_ | refine Qbl (ht := ?_) | refine Qbj ?_ | refine Qbi ?_ | refine e2 (k := ?_) | fail))
  ·intro r hr d hd
   obtain rfl := List.mem_singleton.1 hr;obtain rfl := List.mem_singleton.1 hd;rfl
  ·show ((names.map fun s => [dS s]).length + 1) * 16 <= 140737488355328
   rw [List.length_map]; omega
  ·have htk : ((names.map fun s => [dS s]) ++ [[dS nmE]]).take ((names.map fun s => [dS s]).length + [[dS nmE]].length) = (names ++ [nmE]).map fun s => [dS s] := by
    rw [List.take_of_length_le (by simp), List.map_append]; rfl
   exact congrArg (fun r => [AV.d (.pd (rFiles s t x m)), AV.d (dI (kid : Nat)), AV.d (.sl true 1 r), AV.fn (.func 274) [.ptr 0 0 0]]) htk
  ·exact fun g hg => hvm _ _ _ [_, _] g hg (by simp [AV.parts, go_sem])
  ·intro R hR; exact hR
  skip
  all_goals first
   |(refine Qbt (es.length - (j + 1)) (by omega) ⟨j + 1, Ld ++ M, R, by omega, rfl, hL2, hR, ?_⟩
     rw [ho3]
     simp [keepE, go_sem]; done)
theorem Qjs : ∀ x y : List UInt8, Op.bytesLess x y = false -> x = y ∨ Op.bytesLess y x = true
 |[], [], _ => .inl rfl
 |[], _ :: _, h => by simp [Op.bytesLess] at h
 |_ :: _, [], _ => .inr (by simp [Op.bytesLess])
 |a :: x, b :: y, h => by
  have h1 : ¬ (a < b ∨ a = b /\ Op.bytesLess x y = true) := fun h2 => by rw [(Qdr a b x y).2 h2] at h; cases h
  rw [Qdr]
  by_cases hab : a = b
  ·subst hab
   have h3 : Op.bytesLess x y = false := by
    cases h4 : Op.bytesLess x y
    ·rfl
    ·exact absurd (.inr ⟨rfl, h4⟩) h1
   rcases Qjs x y h3 with rfl | h5
   ·exact .inl rfl
   ·exact .inr (.inr ⟨rfl, h5⟩)
  ·refine .inr (.inl ?_)
   rcases UInt8.lt_or_lt_of_ne hab with h2 | h2
   ·exact absurd (.inl h2) h1
   ·exact h2
def Pl.QaY (x y : Gr.It) : Int := Lib.compareBytes (Pl.Qao x.1) (Pl.Qao y.1)
theorem ltIt (x y : Gr.It) : ltOf Pl.QaY x y = Op.bytesLess (Pl.Qao x.1) (Pl.Qao y.1) := QnI _ _
theorem swoIt : Go.Sort.SWO (ltOf Pl.QaY) where
 irrefl x := by rw [ltIt]; exact QhF _
 trans x y z h1 h2 := by rw [ltIt] at *; exact QeS h1 h2
 ntrans x y z h1 h2 := by
  rw [ltIt] at *
  cases h : Op.bytesLess (Pl.Qao x.1) (Pl.Qao z.1)
  ·rfl
  rcases Qjs _ _ h1 with e | h3
  ·rw [<- e, h] at h2; cases h2
  ·rw [QeS h3 h] at h2; cases h2
def Pl.QaU (x : Gr.It) : List Value := [.string ⟨(Pl.Qao x.1).toArray⟩, .int .i64 (x.2 : Nat)]
theorem bSort1 (x y : Gr.It) (W : World) : Calls Tryz.prog 319 #[.agg (Pl.QaU x).toArray, .agg (Pl.QaU y).toArray] W fun e w' => e = .returned (.int .i64 (Pl.QaY x y)) /\ ∃ q os', w' = Go.Sort.grow (W.drewN q) os' := by
 have hcon := fun W' => Tryz.strings_Compare ⟨(Pl.Qao x.1).toArray⟩ ⟨(Pl.Qao y.1).toArray⟩ W'
 unfold Pl.QaY Pl.QaU;simp only at hcon;generalize Lib.compareBytes (Pl.Qao x.1) (Pl.Qao y.1) = r at hcon ⊢
 go_enter Tryz.func319, Tryz.ntmps319
 go_wp2_with (go_at_call 320; refine (hcon _).mono ?_; rintro e w' ⟨rfl, rfl⟩)
 go_ret
 exact ⟨rfl, 0, _, by rw [Go.Sort.alloc_eq_grow, Go.Sort.alloc_eq_grow, Go.Sort.grow_grow]; rfl⟩
theorem below_grow (w : World) (n : Nat) (os : Array Obj) : Below w.heap.size w (Go.Sort.grow (Go.Sort.ahead w n) os) :=
 ⟨rfl, rfl, rfl, by simp [Go.Sort.grow, Go.Sort.ahead], fun k hk => by
   show (w.heap ++ os)[k]? = w.heap[k]?
   rw [Array.getElem?_append_left hk]⟩
theorem QiJ {α β : Type} {l : List α} {cs : List β} (h : l.length = cs.length) (h2 : l.length = 2) : ∃ a b, cs = [a, b] := by
 match cs, h.symm.trans h2 with
 |[a, b], _ => exact ⟨a, b, rfl⟩
theorem Qks (L : List Gr.It) (g : Nat) (hl : L.length <= 1000000) (ha : L.Pairwise fun a b => Op.bytesLess (Pl.Qao a.1) (Pl.Qao b.1) = true) :
 Does Tryz.prog 318 [.osl 0 g 0 L.length, .fn (.func 319) []] [.arr g 2 126 (L.map rIt)] [.osl 0 g 0 L.length] (.d (.tup [])) [.arr g 2 126 (L.map rIt)] := by
 refine Qki (fun i C hC => ?_) fun B σ S w cargs hB hS hl' hr => ?_
 ·match i, hC with
  |0, hC => obtain rfl := Option.some.inj hC; exact ⟨rfl, rfl, .inr ⟨rfl, rfl, 0, L.length, by simp⟩⟩
 obtain ⟨v0, v1, rfl⟩ := QiJ hl' rfl;have h0 := hr 0 _ v0 rfl rfl;have h1 := hr 1 _ v1 rfl rfl
 obtain rfl : v1 = .func (.func 319) #[] #[] := by
  cases h1 with
  |fn _ _ cs hl h =>
   have : cs = [] := List.length_eq_zero_iff.1 hl.symm;subst this; rfl
 suffices h : Calls Tryz.prog 318 #[v0, .func (.func 319) #[] #[]] w fun e w' => e = .returned (.tuple #[]) /\ Below w.heap.size w w' from
  h.mono fun e w' ⟨h1, h2⟩ => ⟨_, h1, h2, .tup [] [] rfl fun i d x hd => by simp at hd⟩
 cases h0 with
 |osl _ _ _ _ _ ho g' sz T rows hk hg h =>
  simp only [List.getElem?_cons_zero, Option.some.injEq, Blk.arr.injEq] at hk;obtain ⟨rfl, rfl, rfl, rfl⟩ := hk;obtain ⟨_, ⟨b, cap, cs, T', hb, hcap, hmax, rfl, hcs, hsz⟩ | ⟨_, hn, rfl⟩⟩ := h rfl
  ·have hblk := (hS.σUp 0 b (by simp) hb).1
   obtain ⟨_, ⟨b', cs', hb', hcs', hc⟩ | ⟨hno, _⟩⟩ := hS.blk 0 _ rfl;rotate_left
   ·rw [hb] at hno; cases hno
   rw [hb] at hb';obtain rfl := Option.some.inj hb';rw [hcs] at hcs'
   obtain ⟨rfl, rfl⟩ : cs = cs' /\ T' = 126 := by
    have := Option.some.inj hcs';injection this with e1 e2;exact ⟨e1, e2⟩
   have hH : Go.Sort.HoldsK Pl.QaU 2 w b (0 * 2) L.toArray := by
    intro j hj;rw [Go.Sort.size_flatK] at hj;have hsz2 : L.toArray.size = L.length := rfl;have hi : j / 2 < L.length := by omega
    rw [Go.Sort.get_flatK _ _ _ _ hj, getElem!_pos L.toArray (j / 2) hi];have hx : (L.map rIt)[j / 2]? = some (rIt (L[j / 2])) := by rw [List.getElem?_map, List.getElem?_eq_getElem hi]; rfl
    refine ⟨?_, frozen_of_row w b _ cs _ hcs⟩;rw [cell_of_row w b _ cs _ (0, 0) hcs];have hdm : 0 * 2 + j = j / 2 * 2 + j % 2 := by omega
    rw [hdm];show _ = some ((Pl.QaU L[j / 2])[j % 2]!);rcases (show j % 2 = 0 ∨ j % 2 = 1 by omega) with e | e
    ·rw [e]
     obtain ⟨v, h1, h2⟩ := hc _ 0 _ _ hx rfl;cases h2; exact h1
    ·rw [e]
     obtain ⟨v, h1, h2⟩ := hc _ 1 _ _ hx rfl;cases h2; exact h1
   refine (AnyQ.slices_SortFunc Tryz.laysSortFunc_Found 2 Tryz.isAgg126 Tryz.sizeOf126 Pl.QaU (fun _ => rfl) (fun x v hv => by simp [Pl.QaU] at hv; rcases hv with rfl | rfl <;> rfl) Pl.QaY swoIt 319 #[] b (0 * 2) cap L.toArray w
    Tryz.call319 (fun _ _ _ _ x y => bSort1 x y _) hH hblk (by simp; omega)).mono ?_
   rintro e w' ⟨rfl, d', n, os, hp, hs, rfl⟩;obtain rfl := QhW swoIt (ha.imp fun {a b} h => by rw [ltIt]; exact h) hp hs;refine ⟨rfl, ?_⟩;have : Go.Sort.putRowK Pl.QaU 2 (Go.Sort.ahead w n) b (0 * 2) L.toArray = Go.Sort.ahead w n := Go.Sort.putRow_self id _ b _ _ hH;unfold sortWorldK;rw [this];exact below_grow w n os
  ·have : L = [] := List.length_eq_zero_iff.1 hn
   subst this;exact (AnyF.slices_SortFunc_none Tryz.laysSortFunc_Found none 0 _ w).mono fun e w' ⟨h1, h2⟩ => ⟨h1, h2 ▸ Below.refl _ _⟩
theorem QiA : PureF Tryz.prog 321 [.d (.v (.slice none 0 0)), .fn (.func 322) []] (.tup []) := by
 intro B S w cargs hB hS hl hr;obtain ⟨v0, v1, rfl⟩ := QiJ hl rfl
 obtain rfl : v0 = .slice none 0 0 := by
  have h0 := hr 0 _ v0 rfl rfl;cases h0 with | d _ _ h => cases h; rfl
 exact (AnyF.slices_SortFunc_none Tryz.laysSortFunc_Thing none 0 v1 w).mono fun e w' ⟨h1, h2⟩ => ⟨_, h1, h2 ▸ Below.refl _ _, .tup [] [] rfl fun i d x hd => by simp at hd⟩
theorem bSort (L : List Gr.It) (hl : L.length <= 1000000) (ha : L.Pairwise fun a b => Op.bytesLess (Pl.Qao a.1) (Pl.Qao b.1) = true) : Does Tryz.prog 275 [.ptr 0 0 0] (Pl.fb L) (Pl.fg L) (.tup []) (Pl.fb L) := by
 have c1 := Qks L L.length hl ha;have c2 := QiA;refine Qb9 Tryz.func275 rfl Tryz.ntmps275 Tryz.results275 rfl rfl ?hpin (fun gvs => ?_)
 case hpin => have := QlC L []; rw [List.append_nil] at this; exact this
 simp only [parA, gslot, Nat.zero_add, Nat.reduceAdd, Pl.fb, Pl.fg];refine QgF ?_
 (repeat' (first | refine e1 (k := ?_) | refine stepS (Qeh rfl rfl) (k := ?_) | refine (QbW [1] c1 Tryz.call318 (hgl := fun g hg => ?_) (k := ?_)) | refine stepS (Qc0 Tryz.call321 c2 rfl rfl) (k := ?_) | refine Qbd ?_ | refine Qb0 ?_ | refine Qbf ?_ | refine Qbc ?_ | fail))
 all_goals first
  |(obtain rfl := List.mem_singleton.1 hg
    simp [AV.parts, AV.ren, rho, go_sem]; done)
  |exact QgH 2 .normal (.inl rfl) rfl rfl rfl rfl rfl rfl rfl
abbrev Pl.Th := Nat × Bool × List UInt8
abbrev rTh (x : Pl.Th) : List D := [dI (x.1 : Nat), dB x.2.1, dS x.2.2]
noncomputable def Pl.thg (s : Pm.Store) (x : List (List UInt8)) (k : Nat) : List Pl.Th := if Pl.Qad (Pl.Qab x) k = 0 then [] else [(k, ((Pl.Qab x).getD k Pl.zn).kind == 2, Pl.Qa9 s ((Pl.Qab x).getD k Pl.zn))]
noncomputable def Pl.ths (s : Pm.Store) (x : List (List UInt8)) (n : Nat) : List Pl.Th := (List.range n).flatMap (Pl.thg s x)
theorem QeL (s : Pm.Store) (x : List (List UInt8)) (n : Nat) : Pl.ths s x (n + 1) = Pl.ths s x n ++ Pl.thg s x n := by
 unfold Pl.ths; rw [List.range_succ, List.flatMap_append]; simp
theorem Qgi (s : Pm.Store) (x : List (List UInt8)) : ∀ n, (Pl.ths s x n).length <= n
 |0 => by simp [Pl.ths]
 |n + 1 => by
  rw [QeL, List.length_append];have := Qgi s x n;unfold Pl.thg;split
  ·simp; omega
  ·simp; omega
theorem bTextA (s : Pm.Store) (hg : Pl.Good s) (htx : 0 <= s.2.2.1) (n : Pl.Node) (hn : Pl.Qak n = true) : Pure Tryz.prog 263 [.pd (rSt s), dNode n] (.tup [dS (Pl.Qa9 s n), dB (Pl.Qam s n)]) := by
 by_cases hk : n.kind = 1
 ·exact bTextS s hg htx (Qkb s) n hn hk
 have hfo : Pl.Qam s n = false := by
  unfold Pl.Qam;have : (n.kind == 1) = false := by simpa using hk
  rw [this]; simp
 have hft : Pl.Qa9 s n = [] := by unfold Pl.Qa9; rw [hfo]; rfl
 rw [hfo, hft];have c := bNodeOk n;rw [hn] at c;obtain ⟨kd, links, size, ⟨⟨p1, p2, p3, p4, p5⟩, depth, many⟩⟩ := n;simp only at hk c ⊢;have hd : decide (kd ≠ 1) = true := decide_eq_true hk
 (refine Qbk Tryz.func263 rfl Tryz.ntmps263 Tryz.results263 rfl ?_; simp only [parE, Nat.zero_add, Nat.reduceAdd])
 (refine Qbf (Qbc ?_); (repeat (first | refine e1 (k := ?_) | refine e2 (k := ?_) | fail)); refine Qbd ?_)
 refine Qbg 0 (h := ?_)
 (repeat' (first | refine e1 (k := ?_) | refine stepS (Qbe Tryz.call309 c rfl) (k := ?_) | refine Qbd ?_ | refine Qbf ?_ | refine Qbc ?_ | refine Qbo (ht := fun q => ?_) (hf := fun q => ?_) | refine Qbj ?_ | fail))
 all_goals first
  |exact Qbn (hx := rfl)
  |(exfalso; simp at *; done)
  |(exfalso; simp at *; omega)
theorem bFlat (s : Pm.Store) (hg : Pl.Good s) (htx : 0 <= s.2.2.1) (t : Pl.Tree) (x : List (List UInt8)) (hx : Pl.TxOk x) (hx16 : x.length <= 16) (hno : ∀ k, Pl.Qad (Pl.Qab x) k ≠ 0 -> Pl.Qak ((Pl.Qab x).getD k Pl.zn) = true) (m : List (Int × D)) (hm : Pl.Qba m (Pl.entL s x)) (L : List Gr.It) (hL : Pl.FPx s x [([], 0)] L) (hl : L.length <= 144) :
 Pure Tryz.prog 203 [.pd (rFiles s t x m)] (.agg [.sl true 2 (L.map rIt), .sl true 3 ((Pl.ths s x x.length).map rTh)]) := by
 have dw := bWalkF s t x m hm L.length L 0 [] [] (Nat.le_refl _) hL (by simp; omega) (fun a ha => by simp at ha) (by simp; omega);rw [show Pl.nmD [] = .v (.slice none 0 0) by unfold Pl.nmD; rw [if_pos rfl], List.nil_append] at dw;have ds := bSort L (by omega) (Ql7 hL).2;have hgl := fg_mem0;have hkz := Qei hx;have hT : Hid (∀ k, k < x.length -> Pl.Qad (Pl.Qab x) k ≠ 0 -> Pure Tryz.prog 263 [.pd (rSt s), dNode ((Pl.Qab x).getD k Pl.zn)] (.tup [dS (Pl.Qa9 s ((Pl.Qab x).getD k Pl.zn)), dB (Pl.Qam s ((Pl.Qab x).getD k Pl.zn))])) := Pm.hid fun k _ hk => bTextA s hg htx _ (hno k hk)
 clear hL;simp only [Pl.fb, Pl.fg] at dw ds hgl
 (refine Qb2 Tryz.func203 rfl Tryz.ntmps203 Tryz.results203 rfl ?_; simp only [parE, Nat.zero_add, Nat.reduceAdd])
 (repeat' (first | refine e1 (k := ?_) | refine (Qjx 1 0 2 126 (h := ?_)) | refine stepS (Qdk rfl) (k := ?_) | refine (QbW [1, 2] dw Tryz.call194 (hgl := fun g hg => hgl _ _ g hg (by simp [AV.parts, go_sem]) (by simp [Blk.parts, AV.parts]) _) (k := ?_)) | refine (QbW [1, 2] ds Tryz.call275 (hgl := fun g hg => by simp only [List.mem_cons, List.not_mem_nil, or_false] at hg; rcases hg with rfl | rfl <;> simp [AV.parts, Blk.parts, AV.ren, rho, go_sem]) (k := ?_)) | refine stepS (QbF rfl) (k := ?_) | refine Qbd ?_ | refine Qbf ?_ | refine Qbc ?_ | refine Qbi ?_ | refine e2 (k := ?_) | fail))
 refine Qjx 1 1 3 123 (h := ?_)
 refine Qby (fun mm st => ∃ k : Nat, k <= x.length /\ mm = x.length - k /\
  st = ⟨50, [(15, .d (tNds x)), (16, .d (dI x.length)), (17, .d (dI k)), (0, .d (.pd (rFiles s t x m))), (3, .ptr 1 0 0), (2, .ptr 0 0 0)],
   [.row 0 [.d (.v (.slice none 0 0)), .d (.v (.slice none 0 0))], .row 0 [.osl 2 L.length 0 L.length, .osl 3 (Pl.ths s x k).length 0 (Pl.ths s x k).length], .arr L.length 2 126 (L.map rIt), .arr (Pl.ths s x k).length 3 123 ((Pl.ths s x k).map rTh)]⟩) [15, 16, 17, 0, 3, 2] 4 x.length ⟨0, by omega, rfl, by simp [keepE, go_sem, Pl.ths]⟩ (round := ?_)
 rintro mm st ⟨k, hk, rfl, rfl⟩;have htl := Qgi s x k
 (repeat (first | refine e1 (k := ?_) | refine Qbd ?_ | refine Qbf ?_ | refine Qbc ?_ | fail))
 cases q3 : decide ((k : Int) < (x.length : Int))
 ·have : k = x.length := by simp at q3; omega
  rw [<- this]
  (repeat' (first | refine e1 (k := ?_) | refine Qbu (kk := ?_) | refine Qbd ?_ | refine Qbf ?_ | refine Qbc ?_ | refine Qbm (hf := ?_) | refine Qbq ?_ | fail))
  refine Qbg 2 (h := ?_);refine Qbg 3 (h := ?_);refine Qbg 0 (h := ?_);refine QbA (hx := ?_);simp [List.take_of_length_le]
 have hk2 : k < x.length := by simp at q3; omega
 obtain ⟨y, hy⟩ : ∃ y, x[k]? = some y := ⟨_, List.getElem?_eq_getElem hk2⟩;have hyd : x.getD k [] = y := by rw [List.getD_eq_getElem?_getD, hy]; rfl
 have hr := Qbx (f := fun x => [Pl.ndD x]) hy;have hst := Pm.hid (QeL s x k);have hz := hkz k;rw [hyd] at hz
 by_cases hyn : y = []
 ·have hnd : Pl.ndD y = .v (.pointer none) := by unfold Pl.ndD; rw [if_pos hyn]
  simp only [hnd] at hr;have htg : Pl.ths s x (k + 1) = Pl.ths s x k := by rw [hst.out]; unfold Pl.thg; rw [if_pos (hz.2 hyn), List.append_nil]
  clear hz hyd hT hkz
  (repeat' (first | refine e1 (k := ?_) | refine stepS (Qbh Ty.h rfl Ty.h rfl rfl rfl (by omega) hr) (k := ?_) | refine stepS (QdT Tryz.underlying261 rfl) (k := ?_) | refine stepS (Qbs rfl rfl (by omega)) (k := ?_) | refine Qbd ?_ | refine Qbp ?_ | refine Qbf ?_ | refine Qbc ?_ | refine Qbl (ht := ?_) | refine Qbj ?_ | refine Qbi ?_ | refine Qbq ?_ | fail))
  all_goals first
   |(exfalso; simp at *; done)
   |(refine Qbt (x.length - (k + 1)) (by omega) ⟨k + 1, by omega, rfl, ?_⟩
     rw [htg]
     simp [keepE, go_sem]; done)
 ·have hnd : Pl.ndD y = .pd (rNode (Pl.ng y).1) := by unfold Pl.ndD; rw [if_neg hyn]
  simp only [hnd] at hr;have hnx := QcD (x := x) k;rw [hyd] at hnx
  have htg : Pl.ths s x (k + 1) = Pl.ths s x k ++ [(k, (Pl.ng y).1.kind == 2, Pl.Qa9 s (Pl.ng y).1)] := by
   rw [hst.out]; unfold Pl.thg; rw [if_neg (fun h => hyn (hz.1 h)), hnx]
  have c := hT.out k hk2 (fun h => hyn (hz.1 h));rw [hnx] at c;clear hz hyd hT hkz hst hnx hy hnd;generalize hth2 : Pl.ths s x (k + 1) = th2 at *
  generalize Pl.ths s x k = th at *
  generalize (Pl.ng y).1 = N at *
  generalize Pl.Qa9 s N = tx at *
  generalize Pl.Qam s N = fo at *
  (repeat' (first | refine f1 (k := ?_) | refine e1 (k := ?_) | refine stepS (Qbh Ty.h rfl Ty.h rfl rfl rfl (by omega) hr) (k := ?_) | refine stepS (QcJ Tryz.underlying261 rfl) (k := ?_) | refine stepD (QbF rfl) (k := ?_) | refine stepD (Qbe Tryz.call263 c rfl) (k := ?_) | refine (Fg.awp_drawF (id := 9) [] [11, 13] follows_mixed (by kernel_rfl) (by kernel_rfl) (by kernel_rfl) ?_) | refine (Fg.aw_fltN ?_) | refine (Fg.aw_planFC (by rfl) (by kernel_rfl) rfl ?_) | refine (Fg.aw_planFN ?_) | refine Qjz Ty.h rfl Ty.h (hb := ?_) (kk := ?_) | refine (Qcb (kk := ?_)) | refine stepS (Qbs rfl rfl (by omega)) (k := ?_) | refine stepD2 (Qbz Ty.h rfl Ty.h) (k := ?_) | refine Qbd ?_ | refine Qbp ?_ | refine Qbr ?_ | refine QbE ?_ | refine Qbf ?_ | refine Qbc ?_ | refine Qb1 follows_mixed (by kernel_rfl) (by kernel_rfl) ?_ | refine Qbl (ht := ?_) | refine Qbm (hf := ?_) | refine Qbj ?_ | refine Qbi ?_ | fail))
  all_goals first
   |(exfalso; simp at *; done)
   |(show ((th.map rTh).length + 1) * 40 <= 140737488355328
     rw [List.length_map]; omega)
   |(show ((th.map rTh).length + 1) * 32 <= 140737488355328
     rw [List.length_map]; omega)
   |(refine Qbt (x.length - (k + 1)) (by omega) ⟨k + 1, by omega, rfl, ?_⟩
     rw [hth2, htg]
     simp [keepE, go_sem]; done)
end Aw
end
end Go.Proofs.YtdjkdcokjoiokaaGreatDoor

/- Part 34 of the proof of bytes_card: contracts, walks, plain laws; no condition is assumed beyond those that a statement names. -/
import Derived.Test.YtdjkdcokjoiokaaGreatDoorQ32
set_option linter.all false
set_option maxRecDepth 100000
set_option maxHeartbeats 4000000
namespace Go.Proofs.YtdjkdcokjoiokaaGreatDoor
open Go.RowKit
namespace Aw
attribute [local irreducible] ASeq ADraw AWP Loc
theorem al10Cut (s : List UInt8) (hs : s.length <= Pm.big) : Pure Tryz.prog 255 [dS s] (dS (Pl.cut0 s)) := by
 simp only [Pm.big] at hs
 (refine Qbw Tryz.func255 rfl Tryz.ntmps255 Tryz.results255 rfl ?_; simp only [parE, Nat.zero_add, Nat.reduceAdd])
 (repeat' (first | refine e1 (k := ?_) | refine Qbs ?_ | refine Qbu ?_ | refine Qbr ?_ | refine Qby ?_ | fail))
 refine QbD (fun m st => ∃ r : List UInt8, r.length <= s.length /\ m = r.length /\ Hid (Pl.cut0 r = Pl.cut0 s) /\ st = ⟨20, [(0, .d (dS r))], []⟩) [0] 0 s.length ⟨s, Nat.le_refl _, rfl, Pm.hid rfl, rfl⟩ (round := ?_)
 rintro m st ⟨r, hr, rfl, hC, rfl⟩
 rcases List.eq_nil_or_concat r with rfl | ⟨l, c, rfl⟩
 ·(repeat' (first | refine e1 (k := ?_) | refine e0 (k := ?_) | refine Qbs ?_ | refine Qbu ?_ | refine Qbr ?_ | refine Qb2 (hf := ?_) | refine Qb5 ?_ | fail))
  refine Qb1 (hx := ?_)
  rw [<- hC.out]; rfl
 rw [List.concat_eq_append] at *
 have hl : (l ++ [c]).length = l.length + 1 := by simp
 have hi : (((l ++ [c]).length : Int) - 1).toNat = l.length := by omega
 have hc : (l ++ [c])[(((l ++ [c]).length : Int) - 1).toNat]? = some c := by rw [hi]; simp
 have T : Hid (((c.toNat : Nat) : Int) ≠ 0 -> Pl.cut0 s = l ++ [c]) := fun h => by rw [<- hC.out, QfJ, if_neg]; intro e; apply h; rw [beq_iff_eq] at e; rw [e]; rfl
 have F : Hid (((c.toNat : Nat) : Int) = 0 -> Pl.cut0 l = Pl.cut0 s) := fun h => by rw [<- hC.out, QfJ, if_pos]; rw [beq_iff_eq]; exact UInt8.toNat_inj.1 (by have : (0 : UInt8).toNat = 0 := rfl; omega)
 clear hC
 (repeat' (first | refine e1 (k := ?_) | refine e0 (k := ?_) | refine stepS (QcH Ty.h rfl rfl rfl (by omega) hc) (k := ?_) | refine stepS (Qez rfl rfl rfl (by omega) (by omega)) (k := ?_) | refine stepS (QbO rfl rfl (by omega)) (k := ?_) | refine Qbs ?_ | refine QbG ?_ | refine Qbu ?_ | refine Qbr ?_ | refine Qb2 (hf := ?_) | refine Qb3 (ht := fun q => ?_) (hf := fun q => ?_) | refine Qbz ?_ | refine QcP ?_ | refine Qby ?_ | refine Qb5 ?_ | refine Qfy ?_ | ((fail_if_success show ASeq _ _ _ _ ⟨_, (_, .d (.v (.bool true))) :: _, _⟩); (fail_if_success show ASeq _ _ _ _ ⟨_, (_, .d (.v (.bool false))) :: _, _⟩); refine splitS (fun q => ?_) (fun q => ?_))))
 ·simp only [beq_iff_eq, decide_eq_true_eq] at *
  refine Qb9 l.length (by omega) ⟨l, by omega, rfl, Pm.hid (F.out (by assumption)), ?_⟩
  simp [keepE, go_sem, hi]
 ·refine Qb1 (hx := ?_)
  rw [T.out (by simpa using q)]
 ·exfalso; simp at q
theorem texts_le (s : Pm.Store) (hg : Pl.Good s) (t : Pl.Tree) : ∀ x ∈ Pl.Qaa s t, x.length <= 128 := by
 intro x hx
 unfold Pl.Qaa at hx
 obtain ⟨p, _, rfl⟩ := List.mem_map.1 hx
 exact Qga s hg p
theorem Qiv (s : Pm.Store) (hg : Pl.Good s) (t : Pl.Tree) (ht : Pl.TGood t) : Pure Tryz.prog 56 [dSt s, dTree t] (.sl true 10 ((Pl.Qab s t).map rNode)) := by
 have c := Qfk s hg t ht
 have hl := texts_len s ht
 have hle := texts_le s hg t
 have hm := ht.manyHi
 have hn : Hid (Pl.Qab s t = (Pl.Qaa s t).map fun x => (Pl.ng x).1) := Pm.hid rfl
 generalize Pl.Qaa s t = l at *
 (refine Qbw Tryz.func56 rfl Tryz.ntmps56 Tryz.results56 rfl ?_; simp only [parE, Nat.zero_add, Nat.reduceAdd])
 (refine Qbu (Qbr ?_); (repeat (first | refine e1 (k := ?_) | refine e2 (k := ?_) | fail)); refine Qbs ?_)
 refine Qbv 0 (h := ?_)
 refine Qbv 1 (h := ?_)
 (repeat' (first | refine e1 (k := ?_) | refine stepS (Qbt Tryz.call116 c rfl) (k := ?_) | refine stepS2 (QbE Ty.h rfl Ty.h) (k := ?_) | refine Qbs ?_ | refine Qbu ?_ | refine Qbr ?_ | refine Qby ?_ | fail))
 refine QbD (fun m st => ∃ (k g : Nat) (out : List Pl.Node), k <= l.length /\ m = 16 - k /\ out.length = k /\ Hid (out = (l.take k).map fun x => (Pl.ng x).1) /\
  st = ⟨33, [(5, .osl 2 g 0 out.length), (6, .d (tStrs l)), (7, .d (dI k))], [.row 1 [], .row 1 [], .arr g 10 105 (out.map rNode)]⟩) [5, 6, 7] 3 16 ⟨0, 0, [], by omega, rfl, rfl, Pm.hid rfl, rfl⟩ (round := ?_)
 rintro m st ⟨k, g, out, hk, rfl, hlen, hO, rfl⟩
 (repeat (first | refine e1 (k := ?_) | refine Qbs ?_ | refine Qbu ?_ | refine Qbr ?_ | fail))
 cases q4 : decide ((k : Int) < (l.length : Int))
 ·(repeat' (first | refine e1 (k := ?_) | refine Qbs ?_ | refine Qbu ?_ | refine Qbr ?_ | refine Qb2 (hf := ?_) | refine Qb5 ?_ | fail))
  (refine Qbv 2 (h := ?_); refine Qb1 (hx := ?_))
  have : k = l.length := by simp at q4; omega
  rw [hn.out, hO.out, this, List.take_length]; simp [List.take_of_length_le]
 have hk2 : k < l.length := by simp at q4; omega
 obtain ⟨x, hx⟩ : ∃ x, l[k]? = some x := ⟨_, List.getElem?_eq_getElem hk2⟩
 have hr := QbC (f := fun s => [dS s]) hx
 have cg := Qhn x (by have := hle x (List.mem_of_getElem? hx); unfold Pm.big; omega)
 have T : Hid ((l.take (k + 1)).map (fun x => (Pl.ng x).1) = out ++ [(Pl.ng x).1]) := Pm.hid (by rw [List.take_add_one, hx, hO.out]; simp)
 clear hx hO hle hn
 generalize (Pl.ng x).1 = N at *
 obtain ⟨kind, links, size, ⟨⟨p1, p2, p3, p4, p5⟩, depth, many⟩⟩ := N
 (repeat' (first | refine e1 (k := ?_) | refine stepS (Qbt Tryz.call117 cg rfl) (k := ?_) | refine stepS (Qbx Ty.h rfl Ty.h rfl rfl rfl (by omega) hr) (k := ?_) | refine Qcr Ty.h rfl Ty.h (hb := ?_) (kk := ?_) | refine stepS (Qb7 rfl rfl (by omega)) (k := ?_) | refine stepS2 (QbE Ty.h rfl Ty.h) (k := ?_) | refine QbB (kk := ?_) | refine Qbs ?_ | refine Qb4 ?_ | refine QbG ?_ | refine Qbu ?_ | refine Qbr ?_ | refine Qb0 (ht := ?_) | refine Qbz ?_ | refine Qby ?_ | refine e2 (k := ?_) | fail))
 ·simp; omega
 ·refine Qb9 (16 - (k + 1)) (by omega) ⟨k + 1, g + 1, out ++ [⟨kind, links, size, ⟨⟨p1, p2, p3, p4, p5⟩, depth, many⟩⟩], by omega, rfl, by simp [hlen], Pm.hid T.out.symm, ?_⟩
  simp [keepE, go_sem]
theorem al11Ok (s : Pm.Store) (hg : Pl.Good s) (t : Pl.Tree) : Pure Tryz.prog 182 [dSt s, dTree t] (dB (Pl.Qa8 s t)) := by
 have c0 := al8Ok s hg t
 have hd : Hid (Pl.Qa8 s t = (Pl.Qah s t && (Pl.Qaa s t).all fun x => (x == []) || ((Pl.ng x).2 && Pl.Qah s (Pl.ng x).1.tree))) := Pm.hid rfl
 cases h0 : Pl.Qah s t
 ·rw [h0] at c0
  (refine Qbw Tryz.func182 rfl Tryz.ntmps182 Tryz.results182 rfl ?_; simp only [parE, Nat.zero_add, Nat.reduceAdd])
  (refine Qbu (Qbr ?_); (repeat (first | refine e1 (k := ?_) | refine e2 (k := ?_) | fail)); refine Qbs ?_)
  refine Qbv 0 (h := ?_)
  refine Qbv 1 (h := ?_)
  (repeat' (first | refine e1 (k := ?_) | refine stepS (Qbt Tryz.call138 c0 rfl) (k := ?_) | refine Qbs ?_ | refine Qbu ?_ | refine Qbr ?_ | refine Qb0 (ht := ?_) | fail))
  refine Qb1 (hx := ?_)
  rw [hd.out, h0]; rfl
 rw [h0] at c0
 have ht := Qcc h0
 have c := Qfk s hg t ht
 have hl := texts_len s ht
 have hle := texts_le s hg t
 have hm := ht.manyHi
 have hm0 := ht.manyLo
 have hd2 : Hid (Pl.Qa8 s t = (Pl.Qaa s t).all fun x => (x == []) || ((Pl.ng x).2 && Pl.Qah s (Pl.ng x).1.tree)) := Pm.hid (by rw [hd.out, h0]; rfl)
 clear hd h0 ht
 generalize Pl.Qaa s t = l at *
 (refine Qbw Tryz.func182 rfl Tryz.ntmps182 Tryz.results182 rfl ?_; simp only [parE, Nat.zero_add, Nat.reduceAdd])
 (refine Qbu (Qbr ?_); (repeat (first | refine e1 (k := ?_) | refine e2 (k := ?_) | fail)); refine Qbs ?_)
 refine Qbv 0 (h := ?_)
 refine Qbv 1 (h := ?_)
 (repeat' (first | refine e1 (k := ?_) | refine stepS (Qbt Tryz.call138 c0 rfl) (k := ?_) | refine stepS (Qbt Tryz.call116 c rfl) (k := ?_) | refine Qbs ?_ | refine Qbu ?_ | refine Qbr ?_ | refine Qb2 (hf := ?_) | refine Qbz ?_ | refine Qby ?_ | fail))
 refine QbD (fun m st => ∃ (k : Nat), k <= l.length /\ m = 16 - k /\ Hid ((l.take k).all (fun x => (x == []) || ((Pl.ng x).2 && Pl.Qah s (Pl.ng x).1.tree)) = true) /\
  st = ⟨43, [(5, .d (tStrs l)), (6, .d (dI k)), (2, .d (.pd (rSt s))), (3, .d (.pd (rTree t)))], [.row 1 [], .row 1 []]⟩) [5, 6, 2, 3] 2 16 ⟨0, by omega, rfl, Pm.hid rfl, rfl⟩ (round := ?_)
 rintro m st ⟨k, hk, rfl, hA, rfl⟩
 (repeat (first | refine e1 (k := ?_) | refine Qbs ?_ | refine Qbu ?_ | refine Qbr ?_ | fail))
 cases q4 : decide ((k : Int) < t.many)
 ·(repeat' (first | refine e1 (k := ?_) | refine Qbs ?_ | refine Qbu ?_ | refine Qbr ?_ | refine Qb2 (hf := ?_) | refine Qb5 ?_ | fail))
  refine Qb1 (hx := ?_)
  have : k = l.length := by simp at q4; omega
  have h := hA.out
  rw [this, List.take_of_length_le (Nat.le_refl _)] at h
  rw [hd2.out, h]
 have hk2 : k < l.length := by simp at q4; omega
 obtain ⟨x, hx⟩ : ∃ x, l[k]? = some x := ⟨_, List.getElem?_eq_getElem hk2⟩
 have hr := QbC (f := fun s => [dS s]) hx
 have cg := Qhn x (by have := hle x (List.mem_of_getElem? hx); unfold Pm.big; omega)
 have cT := al8Ok s hg (Pl.ng x).1.tree
 have T : Hid (((x == []) || ((Pl.ng x).2 && Pl.Qah s (Pl.ng x).1.tree)) = true -> (l.take (k + 1)).all (fun x => (x == []) || ((Pl.ng x).2 && Pl.Qah s (Pl.ng x).1.tree)) = true) := fun h => by rw [List.take_add_one, hx, List.all_append, hA.out]; simpa using h
 have F : Hid (((x == []) || ((Pl.ng x).2 && Pl.Qah s (Pl.ng x).1.tree)) = false -> Pl.Qa8 s t = false) := fun h => by
  rw [hd2.out, List.all_eq_false]
  exact ⟨x, List.mem_of_getElem? hx, by rw [h]; simp⟩
 clear hx hA hle hd2
 generalize Pl.Qah s (Pl.ng x).1.tree = tok at *
 generalize (Pl.ng x).2 = ok at *
 generalize (Pl.ng x).1 = N at *
 obtain ⟨kind, links, size, ⟨⟨p1, p2, p3, p4, p5⟩, depth, many⟩⟩ := N
 (repeat' (first | refine e1 (k := ?_) | refine e0 (k := ?_) | refine stepS (Qbt Tryz.call117 cg rfl) (k := ?_) | refine stepS (Qbt Tryz.call138 cT rfl) (k := ?_) | refine stepS (Qbx Ty.h rfl Ty.h rfl rfl rfl (by omega) hr) (k := ?_) | refine stepS (Qb7 rfl rfl (by omega)) (k := ?_) | refine stepS (QbL rfl rfl) (k := ?_) | refine QbB (kk := ?_) | refine Qbs ?_ | refine Qb4 ?_ | refine Qbu ?_ | refine Qbr ?_ | refine Qb0 (ht := ?_) | refine Qb3 (ht := fun q => ?_) (hf := fun q => ?_) | refine Qbz ?_ | refine Qby ?_ | refine e2 (k := ?_) | refine Qb5 ?_ | ((fail_if_success show ASeq _ _ _ _ ⟨_, (_, .d (.v (.bool true))) :: _, _⟩); (fail_if_success show ASeq _ _ _ _ ⟨_, (_, .d (.v (.bool false))) :: _, _⟩); refine splitS (fun q => ?_) (fun q => ?_))))
 all_goals clear c0 c cg cT hr
 all_goals simp only [decide_eq_true_eq] at q4
 all_goals first
  |exact Qb9 (16 - (k + 1)) (by omega) ⟨k + 1, by omega, rfl, Pm.hid (T.out (by simp_all)), rfl⟩
  |(refine Qb1 (hx := ?_); exact congrArg dB (F.out (by simp_all)).symm)
noncomputable def Pl.QaW (s : Pm.Store) (t : Pl.Tree) (k : Nat) : Pl.Node × Bool := if (k : Int) <= t.many - 1 then Pl.ng ((Pl.Qaa s t).getD k []) else (Pl.zn, false)
theorem QhA (s : Pm.Store) {t : Pl.Tree} (ht : Pl.TGood t) (k : Nat) : (Pl.QaW s t k).1 = (Pl.Qab s t).getD k Pl.zn := by
 have hl := texts_len s ht
 have := ht.manyLo
 unfold Pl.QaW Pl.Qab
 rw [List.getD_eq_getElem?_getD, List.getD_eq_getElem?_getD, List.getElem?_map]
 split
 ·rw [List.getElem?_eq_getElem (by omega)]; rfl
 ·rw [List.getElem?_eq_none (by omega)]; rfl
theorem texts_get (s : Pm.Store) {t : Pl.Tree} (ht : Pl.TGood t) {k : Nat} (hk : (k : Int) <= t.many - 1) : (Pl.Qaa s t).getD k [] = (Pl.rd s.1 ((Pl.wide s t).getD k Pl.hole)).1 := by
 have hw := Qfc s ht.hi
 have := ht.manyHi
 unfold Pl.Qaa
 rw [List.getD_eq_getElem?_getD, List.getD_eq_getElem?_getD, List.getElem?_map, List.getElem?_take, if_pos (by omega), List.getElem?_eq_getElem (by omega)]; rfl
theorem al11Get (s : Pm.Store) (hg : Pl.Good s) (t : Pl.Tree) (ht : Pl.TGood t) (k : Nat) : Pure Tryz.prog 179 [dSt s, dTree t, dI k] (.tup [dNode (Pl.QaW s t k).1, dB (Pl.QaW s t k).2]) := by
 have hm := ht.manyHi
 have hm0 := ht.manyLo
 have c0 := al6In k 0 (t.many - 1)
 by_cases h : (k : Int) <= t.many - 1
 ·have e : Pl.inR k 0 (t.many - 1) = true := by simp [Pl.inR]; omega
  rw [e] at c0
  have c1 := al8Get s hg t ht k (by omega)
  rw [<- texts_get s ht h] at c1
  have hx : Hid (Pl.QaW s t k = Pl.ng ((Pl.Qaa s t).getD k [])) := Pm.hid (by unfold Pl.QaW; rw [if_pos h])
  have c2 := Qhn ((Pl.Qaa s t).getD k []) (by
   rw [List.getD_eq_getElem?_getD]
   cases h1 : (Pl.Qaa s t)[k]? with
   |none => simp
   |some x => have := texts_le s hg t x (List.mem_of_getElem? h1); simp [Pm.big]; omega)
  generalize (Pl.Qaa s t).getD k [] = x at *
  rw [hx.out]
  clear hx h e
  generalize Pl.ng x = r at *
  obtain ⟨⟨kind, links, size, ⟨⟨p1, p2, p3, p4, p5⟩, depth, many⟩⟩, ok⟩ := r
  (refine QbN Tryz.func179 rfl Tryz.ntmps179 Tryz.results179 rfl ?_; simp only [parE, Nat.zero_add, Nat.reduceAdd])
  (refine Qbu (Qbr ?_); (repeat (first | refine e1 (k := ?_) | refine e2 (k := ?_) | fail)); refine Qbs ?_)
  refine Qbv 0 (h := ?_)
  refine Qbv 1 (h := ?_)
  (repeat' (first | refine e1 (k := ?_) | refine stepS (Qbt Tryz.call40 c0 rfl) (k := ?_) | refine stepS (Qbt Tryz.call251 c1 rfl) (k := ?_) | refine stepS (Qbt Tryz.call117 c2 rfl) (k := ?_) | refine stepS (QbO rfl rfl (by omega)) (k := ?_) | refine QbB (kk := ?_) | refine Qbs ?_ | refine Qbu ?_ | refine Qbr ?_ | refine Qb2 (hf := ?_) | refine Qbz ?_ | fail))
  refine Qbv 2 (h := ?_)
  exact QbP (hx := rfl)
 ·have e : Pl.inR k 0 (t.many - 1) = false := by simp [Pl.inR]; omega
  rw [e] at c0
  have hx : Hid (Pl.QaW s t k = (Pl.zn, false)) := Pm.hid (by unfold Pl.QaW; rw [if_neg h])
  rw [hx.out]
  (refine QbN Tryz.func179 rfl Tryz.ntmps179 Tryz.results179 rfl ?_; simp only [parE, Nat.zero_add, Nat.reduceAdd])
  (refine Qbu (Qbr ?_); (repeat (first | refine e1 (k := ?_) | refine e2 (k := ?_) | fail)); refine Qbs ?_)
  refine Qbv 0 (h := ?_)
  refine Qbv 1 (h := ?_)
  (repeat' (first | refine e1 (k := ?_) | refine stepS (Qbt Tryz.call40 c0 rfl) (k := ?_) | refine stepS (QbO rfl rfl (by omega)) (k := ?_) | refine QbB (kk := ?_) | refine Qbs ?_ | refine Qbu ?_ | refine Qbr ?_ | refine Qb0 (ht := ?_) | fail))
  refine Qbv 2 (h := ?_)
  exact QbP (hx := rfl)
def Pl.QaH (c : UInt8) : Bool := decide (97 <= c.toNat) && decide (c.toNat <= 122)
theorem QhC (s : List UInt8) : Pl.Qaj s = (s.all Pl.QaH && Pl.inR s.length 1 4) := by
 unfold Pl.Qaj Pl.inR
 rw [Bool.and_assoc]
 congr 2
 ·simp; omega
 ·simp; omega
theorem aNameOk (s : List UInt8) (hs : s.length <= Pm.big) : Pure Tryz.prog 208 [dS s] (dB (Pl.Qaj s)) := by
 simp only [Pm.big] at hs
 have hd := Pm.hid (QhC s)
 have c := al6In s.length 1 4
 (refine Qbw Tryz.func208 rfl Tryz.ntmps208 Tryz.results208 rfl ?_; simp only [parE, Nat.zero_add, Nat.reduceAdd])
 (repeat' (first | refine e1 (k := ?_) | refine Qbs ?_ | refine Qbu ?_ | refine Qbr ?_ | refine Qby ?_ | fail))
 refine QbD (fun m st => ∃ k : Nat, k <= s.length /\ m = s.length - k /\ Hid ((s.take k).all Pl.QaH = true) /\ st = ⟨23, [(3, .d (dI k)), (0, .d (dS s))], []⟩) [3, 0] 0 s.length ⟨0, by omega, rfl, Pm.hid rfl, rfl⟩ (round := ?_)
 rintro m st ⟨k, hk, rfl, hA, rfl⟩
 (repeat (first | refine e1 (k := ?_) | refine Qbs ?_ | refine Qbu ?_ | refine Qbr ?_ | fail))
 cases q3 : decide ((k : Int) < (s.length : Int))
 ·(repeat' (first | refine e1 (k := ?_) | refine stepS (Qbt Tryz.call40 c rfl) (k := ?_) | refine Qbs ?_ | refine Qbu ?_ | refine Qbr ?_ | refine Qb2 (hf := ?_) | refine Qb5 ?_ | fail))
  refine Qb1 (hx := ?_)
  have : k = s.length := by simp at q3; omega
  have h := hA.out
  rw [this, List.take_length] at h
  rw [hd.out, h]; rfl
 have hk2 : k < s.length := by simp at q3; omega
 obtain ⟨x, hx⟩ : ∃ x, s[k]? = some x := ⟨_, List.getElem?_eq_getElem hk2⟩
 have hx' : s[(k : Int).toNat]? = some x := hx
 have T : Hid (97 <= x.toNat -> x.toNat <= 122 -> (s.take (k + 1)).all Pl.QaH = true) := fun h1 h2 => by rw [List.take_add_one, hx, List.all_append, hA.out]; simp [Pl.QaH, h1, h2]
 have F : Hid ((x.toNat < 97 ∨ 122 < x.toNat) -> Pl.Qaj s = false) := fun h => by
  rw [hd.out]
  have : s.all Pl.QaH = false := by rw [List.all_eq_false]; exact ⟨x, List.mem_of_getElem? hx, by simp [Pl.QaH]; omega⟩
  rw [this]; rfl
 clear hx hA hd
 (repeat' (first | refine e1 (k := ?_) | refine e0 (k := ?_) | refine stepS (QcH Ty.h rfl rfl rfl (by omega) hx') (k := ?_) | refine stepS (Qb7 rfl rfl (by omega)) (k := ?_) | refine Qbs ?_ | refine Qb4 ?_ | refine Qbu ?_ | refine Qbr ?_ | refine Qb0 (ht := ?_) | refine Qb3 (ht := fun q => ?_) (hf := fun q => ?_) | refine Qbz ?_ | refine Qby ?_ | ((fail_if_success show ASeq _ _ _ _ ⟨_, (_, .d (.v (.bool true))) :: _, _⟩); (fail_if_success show ASeq _ _ _ _ ⟨_, (_, .d (.v (.bool false))) :: _, _⟩); refine splitS (fun q => ?_) (fun q => ?_))))
 all_goals simp only [decide_eq_true_eq, decide_eq_false_iff_not] at *
 all_goals first
  |exact Qb9 (s.length - (k + 1)) (by omega) ⟨k + 1, by omega, rfl, Pm.hid (T.out (by omega) (by omega)), rfl⟩
  |(refine Qb1 (hx := ?_); rw [F.out (by omega)])
abbrev dEnts (l : List Pl.Ent) : D := .sl false 2 (l.map rEnt)
abbrev tEnts (l : List Pl.Ent) : D := .sl true 2 (l.map rEnt)
theorem Qlj (l : List Pl.Ent) (hl : l.length <= Pm.big) (hs : ∀ e ∈ l, e.1.length <= Pm.big) : Pure Tryz.prog 305 [dEnts l] (dB (Pl.Qae l)) := by
 simp only [Pm.big] at hl
 have hd : Hid (Pl.Qae l = ((List.range l.length).all (Pl.QaF l) && decide (l.length <= 12))) := Pm.hid rfl
 (refine Qbw Tryz.func305 rfl Tryz.ntmps305 Tryz.results305 rfl ?_; simp only [parE, Nat.zero_add, Nat.reduceAdd])
 (repeat' (first | refine e1 (k := ?_) | refine Qbs ?_ | refine Qbu ?_ | refine Qbr ?_ | refine Qby ?_ | fail))
 refine QbD (fun m st => ∃ k : Nat, k <= l.length /\ m = l.length - k /\ Hid ((List.range k).all (Pl.QaF l) = true) /\ st = ⟨47, [(3, .d (dI k)), (0, .d (dEnts l))], []⟩) [3, 0] 0 l.length ⟨0, by omega, rfl, Pm.hid rfl, rfl⟩ (round := ?_)
 rintro m st ⟨k, hk, rfl, hA, rfl⟩
 (repeat (first | refine e1 (k := ?_) | refine Qbs ?_ | refine Qbu ?_ | refine Qbr ?_ | fail))
 cases q3 : decide ((k : Int) < (l.length : Int))
 ·(repeat' (first | refine e1 (k := ?_) | refine Qbs ?_ | refine Qbu ?_ | refine Qbr ?_ | refine Qb2 (hf := ?_) | refine Qb5 ?_ | fail))
  refine Qb1 (hx := ?_)
  have : k = l.length := by simp at q3; omega
  have h := hA.out
  rw [this] at h
  rw [hd.out, h]
  refine congrArg dB ?_
  simp; omega
 have hk2 : k < l.length := by simp at q3; omega
 obtain ⟨x, hx⟩ : ∃ x, l[k]? = some x := ⟨_, List.getElem?_eq_getElem hk2⟩
 have hr := QbC (f := rEnt) hx
 obtain ⟨y, hy⟩ : ∃ y, l[k - 1]? = some y := ⟨_, List.getElem?_eq_getElem (by omega)⟩
 have hr2 : Hid (0 < k -> (l.map rEnt)[((k : Int) - 1).toNat]? = some (rEnt y)) := fun h => by
  rw [show ((k : Int) - 1).toNat = k - 1 by omega, List.getElem?_map, hy]; rfl
 have he : Hid (Pl.QaF l k = (Pl.Qaj x.1 && Pl.inR x.2 1 15 && (decide (k = 0) || Op.bytesLess y.1 x.1))) := Pm.hid (by
  unfold Pl.QaF; simp only [List.getD_eq_getElem?_getD, hx, hy, Option.getD_some])
 have T : Hid (Pl.QaF l k = true -> (List.range (k + 1)).all (Pl.QaF l) = true) := fun h => Pl.QbM (p := Pl.QaF l) hA.out h
 have F : Hid (Pl.QaF l k = false -> Pl.Qae l = false) := fun h => by
  rw [hd.out, Pl.QbI (p := Pl.QaF l) hk2 h]; rfl
 have c1 := aNameOk x.1 (hs x (List.mem_of_getElem? hx))
 have c2 := al6In x.2 1 15
 rw [he.out] at T F
 clear hx hy hA hd he
 generalize Pl.Qaj x.1 = o1 at *
 generalize Pl.inR x.2 1 15 = o2 at *
 (repeat' (first | refine f1 (k := ?_) | refine e1 (k := ?_) | refine f0 (k := ?_) | refine stepD (Qbt Tryz.call208 c1 rfl) (k := ?_) | refine stepD (Qbt Tryz.call40 c2 rfl) (k := ?_) | refine stepD (Qbx Ty.h rfl Ty.h rfl rfl rfl (by omega) hr) (k := ?_) | refine stepD (Qbx Ty.h rfl Ty.h rfl rfl rfl (by simp only [decide_eq_true_eq] at *; omega) (hr2.out (by simp only [decide_eq_true_eq] at *; omega))) (k := ?_) | refine stepD (Qgi rfl rfl) (k := ?_) | refine stepS (Qb7 rfl rfl (by omega)) (k := ?_) | refine stepD (QbO rfl rfl (by omega)) (k := ?_) | refine Qbs ?_ | refine Qb4 ?_ | refine Qb6 ?_ | refine Qbu ?_ | refine Qbr ?_ | refine QbF follows_mixed (by kernel_rfl) (by kernel_rfl) ?_ | refine Qb0 (ht := ?_) | refine Qb2 (hf := ?_) | refine Qb3 (ht := fun q => ?_) (hf := fun q => ?_) | refine Qbz ?_ | refine Qby ?_ | ((fail_if_success show ADraw _ _ _ _ ⟨_, (_, .d (.v (.bool true))) :: _, _⟩); (fail_if_success show ADraw _ _ _ _ ⟨_, (_, .d (.v (.bool false))) :: _, _⟩); refine splitD (fun q => ?_) (fun q => ?_))))
 all_goals clear c1 c2 hr hr2
 all_goals simp only [decide_eq_true_eq, decide_eq_false_iff_not] at *
 all_goals first
  |(refine Qb9 (l.length - (k + 1)) (by omega) ⟨k + 1, by omega, rfl, Pm.hid (T.out ?_), rfl⟩; clear T F; simp_all; try omega)
  |(refine Qb1 (hx := ?_); rw [F.out ?_]; clear T F; simp_all; try omega)
theorem QhY {l : List Pl.Ent} (h : Pl.Qae l = true) : ∀ e ∈ l, e.1.length <= 4 := fun e he => by
 have := (ent_b h e he).1
 unfold Pl.Qaj at this
 simp at this; omega
theorem QiW {l : List Pl.Ent} (h : ∀ e ∈ l, e.1.length <= 4 /\ 0 <= e.2 /\ e.2 <= 15) : (Pl.Qal l).length <= l.length * 20 := by
 induction l with
 |nil => simp [Pl.Qal]
 |cons e l ih =>
  have h1 := h e List.mem_cons_self
  have h2 := Pl.Qb8 8 e.2.toNat (by omega)
  have ih := ih fun x hx => h x (List.mem_cons_of_mem _ hx)
  have e1 : Pl.Qal (e :: l) = Pl.Qa2 e ++ 59 :: Pl.Qal l := by simp [Pl.Qal]
  rw [e1]
  unfold Pl.Qa2
  simp; omega
theorem al12Put (l : List Pl.Ent) (h : Pl.Qae l = true) : Pure Tryz.prog 306 [dEnts l] (dS (Pl.Qal l)) := by
 have hb : ∀ e ∈ l, e.1.length <= 4 /\ 0 <= e.2 /\ e.2 <= 15 := fun e he => by have := QhY h e he; have := ent_b h e he; omega
 have hl : l.length <= 12 := by unfold Pl.Qae at h; rw [Bool.and_eq_true, decide_eq_true_eq] at h; exact h.2
 clear h
 (refine Qbw Tryz.func306 rfl Tryz.ntmps306 Tryz.results306 rfl ?_; simp only [parE, Nat.zero_add, Nat.reduceAdd])
 (repeat' (first | refine e1 (k := ?_) | refine Qbs ?_ | refine Qbu ?_ | refine Qbr ?_ | refine Qby ?_ | fail))
 refine QbD (fun m st => ∃ k : Nat, k <= l.length /\ m = l.length - k /\ st = ⟨28, [(3, .d (dS (Pl.Qal (l.take k)))), (4, .d (dI k)), (0, .d (dEnts l))], []⟩) [3, 4, 0] 0 l.length ⟨0, by omega, rfl, rfl⟩ (round := ?_)
 rintro m st ⟨k, hk, rfl, rfl⟩
 (repeat (first | refine e1 (k := ?_) | refine Qbs ?_ | refine Qbu ?_ | refine Qbr ?_ | fail))
 cases q3 : decide ((k : Int) < (l.length : Int))
 ·(repeat' (first | refine e1 (k := ?_) | refine Qbs ?_ | refine Qbu ?_ | refine Qbr ?_ | refine Qb2 (hf := ?_) | refine Qb5 ?_ | fail))
  refine Qb1 (hx := ?_)
  have : k = l.length := by simp at q3; omega
  rw [this, List.take_length]
 have hk2 : k < l.length := by simp at q3; omega
 obtain ⟨x, hx⟩ : ∃ x, l[k]? = some x := ⟨_, List.getElem?_eq_getElem hk2⟩
 have hr := QbC (f := rEnt) hx
 have hlen := QiW (l := l.take k) fun e he => hb e (List.mem_of_mem_take he)
 rw [List.length_take] at hlen
 have hxb := hb x (List.mem_of_getElem? hx)
 have T : Hid (Pl.Qal (l.take (k + 1)) = Pl.Qal (l.take k) ++ x.1 ++ [61] ++ Pl.dec x.2.toNat ++ [59]) := Pm.hid (by rw [List.take_add_one, hx]; simp [Pl.Qal, Pl.Qa2])
 have hdl := Pl.Qb8 8 x.2.toNat (by omega)
 have c := al6Dec x.2.toNat (by omega)
 rw [show ((x.2.toNat : Nat) : Int) = x.2 by omega] at c
 clear hx hb
 generalize Pl.Qal (l.take k) = out at *
 generalize Pl.dec x.2.toNat = d at *
 obtain ⟨nm, id⟩ := x
 simp only at hxb c T hr
 (repeat' (first | refine f1 (k := ?_) | refine e1 (k := ?_) | refine stepD (Qbt Tryz.call260 c rfl) (k := ?_) | refine stepD (Qbx Ty.h rfl Ty.h rfl rfl rfl (by omega) hr) (k := ?_) | refine stepD (QbV (m := [61]) rfl rfl (by first | omega | (simp; omega))) (k := ?_) | refine stepD (QbV (m := [59]) rfl rfl (by first | omega | (simp; omega))) (k := ?_) | refine stepD (QbV rfl rfl (by first | omega | (simp; omega))) (k := ?_) | refine stepS (Qb7 rfl rfl (by omega)) (k := ?_) | refine Qb4 ?_ | refine Qb6 ?_ | refine Qbu ?_ | refine Qbr ?_ | refine QbF follows_mixed (by kernel_rfl) (by kernel_rfl) ?_ | refine Qb0 (ht := ?_) | refine Qbz ?_ | refine Qby ?_ | fail))
 refine Qb9 (l.length - (k + 1)) (by omega) ⟨k + 1, by omega, rfl, ?_⟩
 simp [keepE, go_sem, T.out]
theorem QiY {x : List UInt8} {e : Pl.Ent} (h : Pl.Qa3 x = some e) : e.1.length <= x.length := by
 unfold Pl.Qa3 at h
 split at h
 ·rename_i a b hc
  obtain rfl := Option.some.inj h
  exact (QcD 61 x).2 a (by rw [hc]; simp)
 ·cases h
theorem Qjs (s : List UInt8) (hs : s.length <= 1000000000000) : Pure Tryz.prog 253 [dS s] (.tup [tEnts (Pl.eg s).1, dB (Pl.eg s).2]) := by
 have cw := al2Cut s 59 hs
 have hW := QcD 59 s
 have hne := Pl.QdE 59 s
 have hread := fun m => Qmu (s := s) (m := m)
 have hbad := fun k x => eg_bad (s := s) (k := k) (x := x)
 generalize Pl.cutB 59 s = w at *
 have hw1 : 0 < w.length := List.length_pos_iff.2 hne
 clear hne
 have hread := Pm.hid hread
 have hbad := Pm.hid hbad
 (refine Qbw Tryz.func253 rfl Tryz.ntmps253 Tryz.results253 rfl ?_; simp only [parE, Nat.zero_add, Nat.reduceAdd])
 (repeat' (first | refine e1 (k := ?_) | refine stepS (Qbt Tryz.call250 cw rfl) (k := ?_) | refine stepS2 (QbE Ty.h rfl Ty.h) (k := ?_) | refine Qbs ?_ | refine Qbu ?_ | refine Qbr ?_ | refine Qby ?_ | fail))
 refine QbD (fun m st => ∃ (k g : Nat) (out : List Pl.Ent), k + 1 <= w.length /\ m = w.length - k /\ out.length = k /\ Hid (∀ (i : Nat) e, out[i]? = some e -> ∃ x, w[i]? = some x /\ Pl.Qa3 x = some e) /\
  st = ⟨55, [(4, .osl 0 g 0 out.length), (5, .d (tStrs w)), (6, .d (dI k)), (0, .d (dS s))], [.arr g 2 251 (out.map rEnt)]⟩) [4, 5, 6, 0] 1 w.length ⟨0, 0, [], by omega, rfl, rfl, Pm.hid (by simp), rfl⟩ (round := ?_)
 rintro m st ⟨k, g, out, hk, rfl, hlen, hO, rfl⟩
 (repeat (first | refine e1 (k := ?_) | refine Qbu ?_ | refine Qbr ?_ | fail))
 cases q3 : decide ((k : Int) + 1 < (w.length : Int))
 ·have hk3 : out.length + 1 = w.length := by simp at q3; omega
  have hg := Pm.hid (hread.out out hk3 hO.out)
  have hel : ∀ e ∈ out, e.1.length <= Pm.big := fun e he => by
   obtain ⟨i, hi⟩ := List.getElem?_of_mem he
   obtain ⟨x, hx, hx2⟩ := hO.out i e hi
   have := QiY hx2
   have := hW.2 x (List.mem_of_getElem? hx)
   unfold Pm.big; omega
  have ce := (Qlj out (by unfold Pm.big; omega) hel).arg (l := [tEnts out])
  cases hE : Pl.Qae out
  ·rw [hE] at ce
   clear hread hbad hO hel
   (repeat' (first | refine e1 (k := ?_) | refine stepS (Qb7 rfl rfl (by omega)) (k := ?_) | refine Qbs ?_ | refine Qbu ?_ | refine Qbr ?_ | refine Qb3 (ht := fun q => ?_) (hf := fun q => ?_) | refine Qbz ?_ | refine Qby ?_ | refine Qb5 ?_ | fail))
   ·rw [q3] at q; cases q
   refine Qeq 0 (h := ?_)
   (repeat' (first | refine e1 (k := ?_) | refine e0 (k := ?_) | refine stepS (Qbt Tryz.call305 ce rfl) (k := ?_) | refine stepS2 (QbE Ty.h rfl Ty.h) (k := ?_) | refine Qbs ?_ | refine Qbu ?_ | refine Qbr ?_ | refine Qb0 (ht := ?_) | fail))
   (refine Qbv 1 (h := ?_); refine Qb1 (hx := ?_))
   rw [hg.out, hE]; rfl
  ·rw [hE] at ce
   have cp := (al12Put out hE).arg (l := [tEnts out])
   clear hread hbad hO hel
   generalize Pl.Qal out = t at *
   (repeat' (first | refine e1 (k := ?_) | refine stepS (Qb7 rfl rfl (by omega)) (k := ?_) | refine Qbs ?_ | refine Qbu ?_ | refine Qbr ?_ | refine Qb3 (ht := fun q => ?_) (hf := fun q => ?_) | refine Qbz ?_ | refine Qby ?_ | refine Qb5 ?_ | fail))
   ·rw [q3] at q; cases q
   refine Qeq 0 (h := ?_)
   (repeat' (first | refine e1 (k := ?_) | refine stepS (Qbt Tryz.call305 ce rfl) (k := ?_) | refine stepS (Qbt Tryz.call306 cp rfl) (k := ?_) | refine stepS (QbU rfl rfl) (k := ?_) | refine stepS2 (QbE Ty.h rfl Ty.h) (k := ?_) | refine Qbs ?_ | refine Qbu ?_ | refine Qbr ?_ | refine Qb3 (ht := fun q => ?_) (hf := fun q => ?_) | refine Qbz ?_ | fail))
   all_goals
    (first | refine Qb1 (hx := ?_) | (refine Qbv 1 (h := ?_); refine Qb1 (hx := ?_)))
    rw [hg.out, hE]
    simp_all
 have hk2 : k < w.length := by omega
 obtain ⟨x, hx⟩ : ∃ x, w[k]? = some x := ⟨_, List.getElem?_eq_getElem hk2⟩
 have hr := QbC (f := fun s => [dS s]) hx
 have hxl := hW.2 x (List.mem_of_getElem? hx)
 have cx := al2Cut x 61 (by omega)
 have hpl := (QcD 61 x).2
 have hF := Pm.hid (hbad.out k x (by simp at q3; omega) hx)
 have hT : Hid (∀ e, Pl.Qa3 x = some e -> ∀ (i : Nat) e', (out ++ [e])[i]? = some e' -> ∃ x, w[i]? = some x /\ Pl.Qa3 x = some e') := fun e he i e' hi => by
  rcases Nat.lt_or_ge i out.length with h | h
  ·rw [List.getElem?_append_left h] at hi; exact hO.out i e' hi
  ·have : i = out.length := by have := (List.getElem?_eq_some_iff.1 hi).1; simp at this; omega
   subst this
   rw [List.getElem?_append_right (Nat.le_refl _)] at hi
   simp at hi; subst hi
   rw [hlen]
   exact ⟨x, hx, he⟩
 have her : Hid (Pl.Qa3 x = match Pl.cutB 61 x with | [a, b] => some (a, ((Pl.numGet b).getD 0 : Nat)) | _ => none) := Pm.hid rfl
 clear hx hread hbad hO
 generalize Pl.cutB 61 x = p at *
 by_cases h2 : p.length = 2
 ·match p, h2 with
  |[a, b], _ =>
  have cn := aNumGet b (by have := hpl b (by simp); unfold Pm.big; omega)
  have hT2 := Pm.hid (hT.out _ her.out)
  clear hT her hF
  generalize (Pl.numGet b).getD 0 = nb at *
  (repeat' (first | refine e1 (k := ?_) | refine stepS (Qbt Tryz.call250 cx rfl) (k := ?_) | refine stepS (Qbt Tryz.call188 cn rfl) (k := ?_) | refine stepS (Qbx Ty.h rfl Ty.h rfl rfl rfl (by omega) hr) (k := ?_) | refine stepS (Qbx Ty.h rfl Ty.h rfl rfl rfl (by omega) rfl) (k := ?_) | refine Qcr Ty.h rfl Ty.h (hb := ?_) (kk := ?_) | refine stepS (Qb7 rfl rfl (by omega)) (k := ?_) | refine stepS2 (QbE Ty.h rfl Ty.h) (k := ?_) | refine Qbs ?_ | refine Qb4 ?_ | refine QbG ?_ | refine Qbu ?_ | refine Qbr ?_ | refine Qb2 (hf := ?_) | refine Qb3 (ht := fun q => ?_) (hf := fun q => ?_) | refine Qbz ?_ | refine Qby ?_ | refine Qb5 ?_ | fail))
  ·simp; omega
  rotate_left
  ·rw [q3] at q; cases q
  ·simp only [decide_eq_true_eq] at q3
   refine Qb9 (w.length - (k + 1)) (by omega) ⟨k + 1, g + 1, out ++ [(a, (nb : Int))], by omega, rfl, by simp [hlen], Pm.hid hT2.out, ?_⟩
   simp [keepE, go_sem]
 ·have hn : Pl.Qa3 x = none := by
   rw [her.out]
   split
   ·exact absurd rfl h2
   ·rfl
  have hF2 := Pm.hid (hF.out hn)
  clear hT her hF hn
  (repeat' (first | refine e1 (k := ?_) | refine stepS (Qbt Tryz.call250 cx rfl) (k := ?_) | refine stepS (Qbx Ty.h rfl Ty.h rfl rfl rfl (by omega) hr) (k := ?_) | refine stepS (Qb7 rfl rfl (by omega)) (k := ?_) | refine stepS2 (QbE Ty.h rfl Ty.h) (k := ?_) | refine Qbs ?_ | refine Qbu ?_ | refine Qbr ?_ | refine Qb3 (ht := fun q => ?_) (hf := fun q => ?_) | refine Qbz ?_ | refine Qby ?_ | refine Qb5 ?_ | fail))
  all_goals first
   |(exfalso; rw [q3] at q; cases q)
   |(exfalso; simp only [bne_eq_false_iff_eq] at *; omega)
   |((refine Qbv 1 (h := ?_); refine Qb1 (hx := ?_)); rw [hF2.out]; rfl)
end Aw
end Go.Proofs.YtdjkdcokjoiokaaGreatDoor
namespace Go.Proofs.YtdjkdcokjoiokaaGreatDoor
open Go.RowKit
namespace Aw
attribute [local irreducible] ASeq ADraw AWP Loc AStep
theorem al9Get (s : Pm.Store) (hg : Pl.Good s) (t : Pl.Tree) (ht : Pl.TGood t) : Pure Tryz.prog 252 [dSt s, dTree t] (.tup [dS (Pl.blob (Pl.Qaa s t)).1, dB (Pl.blob (Pl.Qaa s t)).2]) := by
 have c := Qfk s hg t ht
 have hl := texts_len s ht
 have hle := texts_le s hg t
 have hm := ht.manyHi
 have hm0 := ht.manyLo
 have hd : Hid (Pl.blob (Pl.Qaa s t) = if (List.range (Pl.Qaa s t).length).all (Pl.Qay (Pl.Qaa s t)) then ((Pl.Qaa s t).flatten, true) else ([], false)) := Pm.hid rfl
 generalize Pl.Qaa s t = l at *
 (refine Qbw Tryz.func252 rfl Tryz.ntmps252 Tryz.results252 rfl ?_; simp only [parE, Nat.zero_add, Nat.reduceAdd])
 (refine Qbu (Qbr ?_); (repeat (first | refine e1 (k := ?_) | refine e2 (k := ?_) | fail)); refine Qbs ?_)
 refine Qbv 0 (h := ?_)
 refine Qbv 1 (h := ?_)
 (repeat' (first | refine e1 (k := ?_) | refine stepS (Qbt Tryz.call116 c rfl) (k := ?_) | refine Qbs ?_ | refine Qbu ?_ | refine Qbr ?_ | refine Qby ?_ | fail))
 refine QbD (fun m st => ∃ (k : Nat) (out : List UInt8), k <= l.length /\ m = 16 - k /\ out.length <= 128 * k /\ Hid (out = (l.take k).flatten) /\ Hid ((List.range k).all (Pl.Qay l) = true) /\
  st = ⟨41, [(6, .d (dS out)), (7, .d (tStrs l)), (8, .d (dI k)), (3, .d (.pd (rTree t)))], [.row 1 [], .row 1 []]⟩) [6, 7, 8, 3] 2 16 ⟨0, [], by omega, rfl, by simp, Pm.hid rfl, Pm.hid rfl, rfl⟩ (round := ?_)
 rintro m st ⟨k, out, hk, rfl, hol, hO, hA, rfl⟩
 (repeat (first | refine e1 (k := ?_) | refine Qbs ?_ | refine Qbu ?_ | refine Qbr ?_ | fail))
 cases q4 : decide ((k : Int) < t.many)
 ·(repeat' (first | refine e1 (k := ?_) | refine Qbs ?_ | refine Qbu ?_ | refine Qbr ?_ | refine Qb2 (hf := ?_) | refine Qb5 ?_ | fail))
  refine Qb1 (hx := ?_)
  have : k = l.length := by simp at q4; omega
  have h := hA.out
  have ho := hO.out
  rw [this] at h
  rw [this, List.take_length] at ho
  rw [hd.out, h, ho]; rfl
 have hk2 : k < l.length := by simp at q4; omega
 obtain ⟨x, hx⟩ : ∃ x, l[k]? = some x := ⟨_, List.getElem?_eq_getElem hk2⟩
 have hr := QbC (f := fun s => [dS s]) hx
 have hxl := hle x (List.mem_of_getElem? hx)
 have he : Hid (Pl.Qay l k = (!(x == []) && (decide (k + 1 = l.length) || decide (x.length = 128)))) := Pm.hid (by unfold Pl.Qay; simp only [List.getD_eq_getElem?_getD, hx, Option.getD_some])
 have T : Hid (Pl.Qay l k = true -> (List.range (k + 1)).all (Pl.Qay l) = true) := fun h => Pl.QbM (p := Pl.Qay l) hA.out h
 have T2 : Hid ((l.take (k + 1)).flatten = out ++ x) := Pm.hid (by rw [List.take_add_one, hx, hO.out]; simp)
 have F : Hid (Pl.Qay l k = false -> Pl.blob l = ([], false)) := fun h => by
  rw [hd.out, Pl.QbI (p := Pl.Qay l) hk2 h]; rfl
 rw [he.out] at T F
 clear hx hA hO hd he hle c
 (repeat' (first | refine e1 (k := ?_) | refine e0 (k := ?_) | refine stepS (Qbx Ty.h rfl Ty.h rfl rfl rfl (by omega) hr) (k := ?_) | refine stepS (QbV rfl rfl (by omega)) (k := ?_) | refine stepS (Qb7 rfl rfl (by omega)) (k := ?_) | refine stepS (QbL rfl rfl) (k := ?_) | refine Qbs ?_ | refine Qb4 ?_ | refine QbG ?_ | refine Qbu ?_ | refine Qbr ?_ | refine Qb0 (ht := ?_) | refine Qb2 (hf := ?_) | refine Qb3 (ht := fun q => ?_) (hf := fun q => ?_) | refine Qbz ?_ | refine Qby ?_ | ((fail_if_success show ASeq _ _ _ _ ⟨_, (_, .d (.v (.bool true))) :: _, _⟩); (fail_if_success show ASeq _ _ _ _ ⟨_, (_, .d (.v (.bool false))) :: _, _⟩); refine splitS (fun q => ?_) (fun q => ?_))))
 all_goals clear hr
 all_goals simp only [decide_eq_true_eq, decide_eq_false_iff_not] at *
 all_goals generalize (x == []) = u at *
 all_goals first
  |(refine Qb9 (16 - (k + 1)) (by omega) ⟨k + 1, out ++ x, by omega, rfl, by simp; omega, Pm.hid T2.out.symm, Pm.hid (T.out ?_), rfl⟩; clear T F T2; cases u <;> simp at * <;> omega)
  |(refine Qb1 (hx := ?_); have hF : (!u && (decide (k + 1 = l.length) || decide (x.length = 128))) = false := by
     clear T F T2; cases u <;> simp at * <;> omega
    rw [F.out hF])
theorem QfU (s : Pm.Store) (hg : Pl.Good s) (n : Pl.Node) : Pure Tryz.prog 180 [dSt s, dNode n] (.tup [tEnts (Pl.ents s n).1, dB (Pl.ents s n).2]) := by
 have hd : Hid (Pl.ents s n = if Pl.Qaq n && (n.kind == 2) && Pl.Qah s n.tree && (Pl.blob (Pl.Qaa s n.tree)).2 && decide (((Pl.blob (Pl.Qaa s n.tree)).1.length : Int) = n.size) then Pl.eg (Pl.blob (Pl.Qaa s n.tree)).1 else ([], false)) := Pm.hid rfl
 have c1 := aNodeOk n
 have c2 := al8Ok s hg n.tree
 cases h1 : Pl.Qah s n.tree
 ·rw [h1] at c2 hd
  generalize Pl.Qaq n = ok at *
  (refine Qbw Tryz.func180 rfl Tryz.ntmps180 Tryz.results180 rfl ?_; simp only [parE, Nat.zero_add, Nat.reduceAdd])
  (refine Qbu (Qbr ?_); (repeat (first | refine e1 (k := ?_) | refine e2 (k := ?_) | fail)); refine Qbs ?_)
  refine Qbv 0 (h := ?_)
  refine Qbv 1 (h := ?_)
  (repeat' (first | refine e1 (k := ?_) | refine e0 (k := ?_) | refine stepS (Qbt Tryz.call190 c1 rfl) (k := ?_) | refine stepS (Qbt Tryz.call138 c2 rfl) (k := ?_) | refine stepS2 (QbE Ty.h rfl Ty.h) (k := ?_) | refine Qbs ?_ | refine Qbu ?_ | refine Qbr ?_ | refine Qb0 (ht := ?_) | ((fail_if_success show ASeq _ _ _ _ ⟨_, (_, .d (.v (.bool true))) :: _, _⟩); (fail_if_success show ASeq _ _ _ _ ⟨_, (_, .d (.v (.bool false))) :: _, _⟩); refine splitS (fun q => ?_) (fun q => ?_))))
  all_goals
   (refine Qbv 2 (h := ?_); refine Qb1 (hx := ?_))
   rw [hd.out]; simp
 have ht := Qcc h1
 have c3 := al9Get s hg n.tree ht
 have hb : (Pl.blob (Pl.Qaa s n.tree)).1.length <= 16 * 128 := by
  have hl := texts_len s ht
  have hm := ht.manyHi
  have hle := texts_le s hg n.tree
  unfold Pl.blob
  split
  ·simp only
   have : ∀ l : List (List UInt8), (∀ x ∈ l, x.length <= 128) -> l.flatten.length <= l.length * 128 := by
    intro l
    induction l with
    |nil => intro _; simp
    |cons a l ih => intro h; have := ih fun x hx => h x (List.mem_cons_of_mem _ hx); have := h a List.mem_cons_self; rw [List.flatten_cons, List.length_append, List.length_cons]; omega
   have := this _ hle
   omega
  ·simp
 have c4 := Qjs (Pl.blob (Pl.Qaa s n.tree)).1 (by omega)
 rw [h1] at c2 hd
 generalize Pl.Qaq n = ok at *
 generalize Pl.blob (Pl.Qaa s n.tree) = bb at *
 obtain ⟨tx, fine⟩ := bb
 simp only at hb c4 hd
 generalize Pl.eg tx = r at *
 obtain ⟨es, good⟩ := r
 clear h1 ht
 (refine Qbw Tryz.func180 rfl Tryz.ntmps180 Tryz.results180 rfl ?_; simp only [parE, Nat.zero_add, Nat.reduceAdd])
 (refine Qbu (Qbr ?_); (repeat (first | refine e1 (k := ?_) | refine e2 (k := ?_) | fail)); refine Qbs ?_)
 refine Qbv 0 (h := ?_)
 refine Qbv 1 (h := ?_)
 (repeat' (first | refine e1 (k := ?_) | refine e0 (k := ?_) | refine stepS (Qbt Tryz.call190 c1 rfl) (k := ?_) | refine stepS (Qbt Tryz.call138 c2 rfl) (k := ?_) | refine stepS (Qbt Tryz.call252 c3 rfl) (k := ?_) | refine stepS (Qbt Tryz.call253 c4 rfl) (k := ?_) | refine stepS2 (QbE Ty.h rfl Ty.h) (k := ?_) | refine Qbs ?_ | refine Qbu ?_ | refine Qbr ?_ | refine Qb0 (ht := ?_) | refine Qb2 (hf := ?_) | refine Qb3 (ht := fun q => ?_) (hf := fun q => ?_) | refine Qbz ?_ | ((fail_if_success show ASeq _ _ _ _ ⟨_, (_, .d (.v (.bool true))) :: _, _⟩); (fail_if_success show ASeq _ _ _ _ ⟨_, (_, .d (.v (.bool false))) :: _, _⟩); refine splitS (fun q => ?_) (fun q => ?_))))
 all_goals
  (first | refine Qb1 (hx := ?_) | (refine Qbv 2 (h := ?_); refine Qb1 (hx := ?_)))
  rw [hd.out]
  clear c1 c2 c3 c4 hd
  simp_all
theorem QnY (size : Int) (k : Nat) (h0 : 0 <= size) (h1 : size <= 2048) (hk : k <= 100) : Pure Tryz.prog 254 [dI size, dI k] (dI (Pl.long size k)) := by
 (refine Qbw Tryz.func254 rfl Tryz.ntmps254 Tryz.results254 rfl ?_; simp only [parE, Nat.zero_add, Nat.reduceAdd])
 (repeat' (first | refine e1 (k := ?_) | refine stepS (Qd7 rfl rfl (by omega)) (k := ?_) | refine stepS (QbO rfl rfl (by omega)) (k := ?_) | refine stepS (QlR rfl rfl) (k := ?_) | refine Qbs ?_ | refine Qbu ?_ | refine Qbr ?_ | fail))
 exact Qb1 (hx := rfl)
theorem al13Ok (s : Pm.Store) (hg : Pl.Good s) (n : Pl.Node) : Pure Tryz.prog 184 [dSt s, dNode n] (dB (Pl.Qax s n)) := by
 have hd : Hid (Pl.Qax s n = (Pl.Qaq n && (n.kind == 1) && Pl.Qah s n.tree && (List.range n.tree.many.toNat).all (Pl.Qa5 n.size (Pl.Qaa s n.tree)))) := Pm.hid rfl
 have c1 := aNodeOk n
 have c2 := al8Ok s hg n.tree
 by_cases hk : Pl.Qaq n = true /\ n.kind = 1 /\ Pl.Qah s n.tree = true
 rotate_left
 ·have hx : Hid (Pl.Qax s n = false) := Pm.hid (by
   rw [hd.out]
   cases h1 : Pl.Qaq n
   ·rfl
   ·cases h2 : Pl.Qah s n.tree
    ·simp
    ·have : (n.kind == 1) = false := by simpa using fun h => hk ⟨h1, h, h2⟩
     rw [this]; rfl)
  clear hd
  generalize Pl.Qaq n = ok at *
  generalize Pl.Qah s n.tree = tok at *
  (refine Qbw Tryz.func184 rfl Tryz.ntmps184 Tryz.results184 rfl ?_; simp only [parE, Nat.zero_add, Nat.reduceAdd])
  (refine Qbu (Qbr ?_); (repeat (first | refine e1 (k := ?_) | refine e2 (k := ?_) | fail)); refine Qbs ?_)
  refine Qbv 0 (h := ?_)
  refine Qbv 1 (h := ?_)
  (repeat' (first | refine e1 (k := ?_) | refine e0 (k := ?_) | refine stepS (Qbt Tryz.call190 c1 rfl) (k := ?_) | refine stepS (Qbt Tryz.call138 c2 rfl) (k := ?_) | refine Qbs ?_ | refine Qbu ?_ | refine Qbr ?_ | refine Qb0 (ht := ?_) | refine Qb3 (ht := fun q => ?_) (hf := fun q => ?_) | refine Qbz ?_ | ((fail_if_success show ASeq _ _ _ _ ⟨_, (_, .d (.v (.bool true))) :: _, _⟩); (fail_if_success show ASeq _ _ _ _ ⟨_, (_, .d (.v (.bool false))) :: _, _⟩); refine splitS (fun q => ?_) (fun q => ?_))))
  all_goals first
   |(refine Qb1 (hx := ?_); rw [hx.out]; done)
   |(exfalso; simp_all; done)
   |(exfalso; apply hk; simp_all)
 obtain ⟨h1, h2, h3⟩ := hk
 have ht := Qcc h3
 have hb := Qdr h1
 have hs := hb.size
 have c3 := Qfk s hg n.tree ht
 have hl := texts_len s ht
 have hle := texts_le s hg n.tree
 have hm := ht.manyHi
 have hm0 := ht.manyLo
 have hd2 : Hid (Pl.Qax s n = (List.range n.tree.many.toNat).all (Pl.Qa5 n.size (Pl.Qaa s n.tree))) := Pm.hid (by rw [hd.out, h1, h2, h3]; rfl)
 rw [h1] at c1
 rw [h3] at c2
 clear hd h1 h3 ht hb
 generalize Pl.Qaa s n.tree = l at *
 obtain ⟨kind, links, size, ⟨root, depth, many⟩⟩ := n
 simp only at h2 hs hl hm hm0 hd2 c1 c2 c3
 subst h2
 (refine Qbw Tryz.func184 rfl Tryz.ntmps184 Tryz.results184 rfl ?_; simp only [parE, Nat.zero_add, Nat.reduceAdd])
 (refine Qbu (Qbr ?_); (repeat (first | refine e1 (k := ?_) | refine e2 (k := ?_) | fail)); refine Qbs ?_)
 refine Qbv 0 (h := ?_)
 refine Qbv 1 (h := ?_)
 (repeat' (first | refine e1 (k := ?_) | refine stepS (Qbt Tryz.call190 c1 rfl) (k := ?_) | refine stepS (Qbt Tryz.call138 c2 rfl) (k := ?_) | refine stepS (Qbt Tryz.call116 c3 rfl) (k := ?_) | refine Qbs ?_ | refine Qbu ?_ | refine Qbr ?_ | refine Qb2 (hf := ?_) | refine Qbz ?_ | refine Qby ?_ | fail))
 refine QbD (fun m st => ∃ (k : Nat), k <= l.length /\ m = 16 - k /\ Hid ((List.range k).all (Pl.Qa5 size l) = true) /\
  st = ⟨51, [(5, .d (tStrs l)), (6, .d (dI k)), (3, .d (.pd (rNode ⟨1, links, size, ⟨root, depth, many⟩⟩)))], [.row 1 [], .row 1 []]⟩) [5, 6, 3] 2 16 ⟨0, by omega, rfl, Pm.hid rfl, rfl⟩ (round := ?_)
 rintro m st ⟨k, hk, rfl, hA, rfl⟩
 (repeat (first | refine e1 (k := ?_) | refine Qbs ?_ | refine Qbu ?_ | refine Qbr ?_ | fail))
 cases q4 : decide ((k : Int) < many)
 ·(repeat' (first | refine e1 (k := ?_) | refine Qbs ?_ | refine Qbu ?_ | refine Qbr ?_ | refine Qb2 (hf := ?_) | refine Qb5 ?_ | fail))
  refine Qb1 (hx := ?_)
  have : k = many.toNat := by simp at q4; omega
  have h := hA.out
  rw [this] at h
  rw [hd2.out, h]
 have hk2 : k < l.length := by simp at q4; omega
 obtain ⟨x, hx⟩ : ∃ x, l[k]? = some x := ⟨_, List.getElem?_eq_getElem hk2⟩
 have hr := QbC (f := fun s => [dS s]) hx
 have hxl := hle x (List.mem_of_getElem? hx)
 have he : Hid (Pl.Qa5 size l k = (decide ((x.length : Int) <= Pl.long size k) && (Pl.cut0 x == x))) := Pm.hid (by unfold Pl.Qa5; simp only [List.getD_eq_getElem?_getD, hx, Option.getD_some])
 have T : Hid (Pl.Qa5 size l k = true -> (List.range (k + 1)).all (Pl.Qa5 size l) = true) := fun h => Pl.QbM (p := Pl.Qa5 size l) hA.out h
 have F : Hid (Pl.Qa5 size l k = false -> Pl.Qax s ⟨1, links, size, ⟨root, depth, many⟩⟩ = false) := fun h => by
  rw [hd2.out, Pl.QbI (p := Pl.Qa5 size l) (by omega) h]
 rw [he.out] at T F
 have c4 := QnY size k hs.1 hs.2 (by omega)
 have c5 := al10Cut x (by unfold Pm.big; omega)
 clear hx hA hd2 he hle c1 c2 c3
 generalize Pl.cut0 x = y at *
 generalize Pl.long size k = lg at *
 (repeat' (first | refine e1 (k := ?_) | refine e0 (k := ?_) | refine stepS (Qbt Tryz.call254 c4 rfl) (k := ?_) | refine stepS (Qbt Tryz.call255 c5 rfl) (k := ?_) | refine stepS (Qbx Ty.h rfl Ty.h rfl rfl rfl (by omega) hr) (k := ?_) | refine stepS (Qb7 rfl rfl (by omega)) (k := ?_) | refine stepS (QbU rfl rfl) (k := ?_) | refine Qbs ?_ | refine Qb4 ?_ | refine Qbu ?_ | refine Qbr ?_ | refine Qb0 (ht := ?_) | refine Qb3 (ht := fun q => ?_) (hf := fun q => ?_) | refine Qbz ?_ | refine Qby ?_ | ((fail_if_success show ASeq _ _ _ _ ⟨_, (_, .d (.v (.bool true))) :: _, _⟩); (fail_if_success show ASeq _ _ _ _ ⟨_, (_, .d (.v (.bool false))) :: _, _⟩); refine splitS (fun q => ?_) (fun q => ?_))))
 all_goals clear hr c4 c5
 all_goals simp only [decide_eq_true_eq, decide_eq_false_iff_not] at *
 all_goals first
  |(refine Qb9 (16 - (k + 1)) (by omega) ⟨k + 1, by omega, rfl, Pm.hid (T.out ?_), rfl⟩; clear T F; simp_all; try omega)
  |(refine Qb1 (hx := ?_); rw [F.out ?_]; clear T F; simp_all; try omega)
end Aw
end Go.Proofs.YtdjkdcokjoiokaaGreatDoor

/- Part 36 of the proof of bytes_card: contracts, walks, plain laws; no condition is assumed beyond those that a statement names. -/
import Derived.Test.YtdjkdcokjoiokaaGreatDoorQ35
set_option linter.all false
set_option maxRecDepth 100000
set_option maxHeartbeats 8000000
namespace Go.Proofs.YtdjkdcokjoiokaaGreatDoor
open Go.RowKit
namespace Aw
attribute [local irreducible] ASeq ADraw AWP Loc AStep
def Pl.at12 (l : List Pl.Ent) (name : List UInt8) : Int := match l.findIdx? (fun e => e.1 == name) with
 |some i => (i : Int)
 |none => -1
theorem Qir {l : List Pl.Ent} {name : List UInt8} (h : l.find? (fun e => e.1 == name) = none) : Pl.at12 l name = -1 := by
 have : l.findIdx? (fun e => e.1 == name) = none := by
  rw [List.findIdx?_eq_none_iff]
  intro x hx
  have := List.find?_eq_none.1 h x hx
  simpa using this
 unfold Pl.at12; rw [this]
theorem QmO {l : List Pl.Ent} {name : List UInt8} {e : Pl.Ent} (h : l.find? (fun e => e.1 == name) = some e) : ∃ i : Nat, Pl.at12 l name = i /\ l[i]? = some e := by
 obtain ⟨h1, l1, bs, rfl, h2⟩ := List.find?_eq_some_iff_append.1 h
 refine ⟨l1.length, ?_, by simp⟩
 have : (l1 ++ e :: bs).findIdx? (fun e => e.1 == name) = some l1.length := by
  rw [List.findIdx?_eq_some_iff_getElem]
  refine ⟨by simp, by simpa using h1, fun j hj => ?_⟩
  rw [List.getElem_append_left hj]
  have := h2 l1[j] (List.getElem_mem hj)
  simpa using this
 unfold Pl.at12; rw [this]
theorem al12At (l : List Pl.Ent) (name : List UInt8) (hl : l.length <= 1000) : Pure Tryz.prog 181 [dEnts l, dS name] (dI (Pl.at12 l name)) := by
 (refine Qbw Tryz.func181 rfl Tryz.ntmps181 Tryz.results181 rfl ?_; simp only [parE, Nat.zero_add, Nat.reduceAdd])
 (repeat' (first | refine e1 (k := ?_) | refine Qbs ?_ | refine Qbu ?_ | refine Qbr ?_ | refine Qby ?_ | fail))
 refine QbD (fun m st => ∃ k : Nat, k <= l.length /\ m = l.length - k /\ Hid (∀ x ∈ l.take k, (x.1 == name) = false) /\ st = ⟨20, [(5, .d (dI k)), (0, .d (dEnts l)), (1, .d (dS name))], []⟩) [5, 0, 1] 0 l.length ⟨0, by omega, rfl, Pm.hid (by simp), rfl⟩ (round := ?_)
 rintro m st ⟨k, hk, rfl, hA, rfl⟩
 (repeat (first | refine e1 (k := ?_) | refine Qbs ?_ | refine Qbu ?_ | refine Qbr ?_ | fail))
 cases q3 : decide ((k : Int) < (l.length : Int))
 ·(repeat' (first | refine e1 (k := ?_) | refine Qbs ?_ | refine Qbu ?_ | refine Qbr ?_ | refine Qb2 (hf := ?_) | refine Qb5 ?_ | fail))
  refine Qb1 (hx := ?_)
  have : k = l.length := by simp at q3; omega
  have h := hA.out
  rw [this, List.take_length] at h
  rw [Qir (by rw [List.find?_eq_none]; intro x hx; rw [h x hx]; simp)]
 have hk2 : k < l.length := by simp at q3; omega
 obtain ⟨x, hx⟩ : ∃ x, l[k]? = some x := ⟨_, List.getElem?_eq_getElem hk2⟩
 have hr := QbC (f := rEnt) hx
 have T : Hid ((x.1 == name) = false -> ∀ y ∈ l.take (k + 1), (y.1 == name) = false) := Pm.hid fun h y hy => by
  rw [List.take_add_one, hx] at hy
  rcases List.mem_append.1 hy with hy | hy
  ·exact hA.out y hy
  ·simp at hy; subst hy; exact h
 have F : Hid ((x.1 == name) = true -> Pl.at12 l name = k) := Pm.hid fun h => by
  have : l.findIdx? (fun e => e.1 == name) = some k := by
   rw [List.findIdx?_eq_some_iff_getElem]
   refine ⟨hk2, ?_, fun j hj => ?_⟩
   ·rw [(List.getElem?_eq_some_iff.1 hx).2]; exact h
   ·have := hA.out l[j] (List.mem_iff_getElem?.2 ⟨j, by rw [List.getElem?_take, if_pos hj]; exact List.getElem?_eq_getElem (by omega)⟩)
    rw [this]; simp
  unfold Pl.at12; rw [this]
 clear hx hA
 (repeat' (first | refine e1 (k := ?_) | refine stepS (Qbx Ty.h rfl Ty.h rfl rfl rfl (by omega) hr) (k := ?_) | refine stepS (Qb7 rfl rfl (by omega)) (k := ?_) | refine stepS (QbL rfl rfl) (k := ?_) | refine Qbs ?_ | refine Qb4 ?_ | refine Qbu ?_ | refine Qbr ?_ | refine Qb0 (ht := ?_) | refine Qb3 (ht := fun q => ?_) (hf := fun q => ?_) | refine Qbz ?_ | refine Qby ?_ | fail))
 all_goals first
  |exact Qb9 (l.length - (k + 1)) (by omega) ⟨k + 1, by omega, rfl, Pm.hid (T.out (by assumption)), rfl⟩
  |(refine Qb1 (hx := ?_); rw [F.out (by assumption)])
noncomputable def Pl.Qbo (s : Pm.Store) (t : Pl.Tree) (q : List (List UInt8)) : Int := (Pl.Qa4 s (Pl.Qab s t) 0 q).getD (-1)
theorem QnX (s : Pm.Store) (hg : Pl.Good s) (t : Pl.Tree) (ht : Pl.TGood t) (q : List (List UInt8)) (hq : q.length <= 1000) : Pure Tryz.prog 114 [dSt s, dTree t, dStrs q] (dI (Pl.Qbo s t q)) := by
 have hd : Hid (Pl.Qbo s t q = (Pl.Qa4 s (Pl.Qab s t) 0 q).getD (-1)) := Pm.hid rfl
 have c1 := Pm.hid fun k => al11Get s hg t ht k
 have hnn := Pm.hid fun k => QhA s ht k
 have c2 := Pm.hid fun n => QfU s hg n
 generalize Pl.Qab s t = ns at *
 (refine Qbw Tryz.func114 rfl Tryz.ntmps114 Tryz.results114 rfl ?_; simp only [parE, Nat.zero_add, Nat.reduceAdd])
 (refine Qbu (Qbr ?_); (repeat (first | refine e1 (k := ?_) | refine e2 (k := ?_) | fail)); refine Qbs ?_)
 refine Qbv 0 (h := ?_)
 refine Qbv 1 (h := ?_)
 (repeat' (first | refine e1 (k := ?_) | refine Qbs ?_ | refine Qbu ?_ | refine Qbr ?_ | refine Qby ?_ | fail))
 refine QbD (fun m st => ∃ (k i : Nat), k <= q.length /\ m = q.length - k /\ Hid (Pl.Qa4 s ns 0 q = Pl.Qa4 s ns i (q.drop k)) /\ st = ⟨51, [(7, .d (dI i)), (8, .d (dI k)), (2, .d (dStrs q)), (3, .d (.pd (rSt s))), (4, .d (.pd (rTree t)))], [.row 1 [], .row 1 []]⟩) [7, 8, 2, 3, 4] 2 q.length ⟨0, 0, by omega, rfl, Pm.hid rfl, rfl⟩ (round := ?_)
 rintro m st ⟨k, i, hk, rfl, hF, rfl⟩
 (repeat (first | refine e1 (k := ?_) | refine Qbs ?_ | refine Qbu ?_ | refine Qbr ?_ | fail))
 cases q3 : decide ((k : Int) < (q.length : Int))
 ·(repeat' (first | refine e1 (k := ?_) | refine Qbs ?_ | refine Qbu ?_ | refine Qbr ?_ | refine Qb2 (hf := ?_) | refine Qb5 ?_ | fail))
  refine Qb1 (hx := ?_)
  have : k = q.length := by simp at q3; omega
  have h := hF.out
  rw [this, List.drop_length] at h
  rw [hd.out, h]; rfl
 have hk2 : k < q.length := by simp at q3; omega
 obtain ⟨x, hx⟩ : ∃ x, q[k]? = some x := ⟨_, List.getElem?_eq_getElem hk2⟩
 have hr := QbC (f := fun s => [dS s]) hx
 have hF2 : Hid (Pl.Qa4 s ns 0 q = match (Pl.ents s (ns.getD i Pl.zn)).1.find? (fun e => e.1 == x) with | none => none | some e => Pl.Qa4 s ns e.2 (q.drop (k + 1))) := Pm.hid (by
  rw [hF.out, Qe5 hx]; exact QdU (Pl.ents s) ns i x _)
 have c1k := c1.out i
 have hn := hnn.out i
 have hel := QjI s (ns.getD i Pl.zn)
 have heb := Qgt s (ns.getD i Pl.zn)
 have hec := Qcp s (ns.getD i Pl.zn)
 have c2k := c2.out (ns.getD i Pl.zn)
 rw [<- hn] at c2k hel heb hec hF2
 clear hx hF hn c1 c2 hnn
 generalize Pl.QaW s t i = na at *
 obtain ⟨⟨kind, links, size, ⟨⟨p1, p2, p3, p4, p5⟩, depth, many⟩⟩, nok⟩ := na
 simp only at c2k hel heb hec hF2
 generalize Pl.ents s ⟨kind, links, size, ⟨⟨p1, p2, p3, p4, p5⟩, depth, many⟩⟩ = ee at *
 obtain ⟨es, ok⟩ := ee
 simp only at hel heb hec hF2
 have c3 := (al12At es x (by omega)).arg (l := [tEnts es, dS x])
 cases hf : es.find? (fun e => e.1 == x) with
 |none =>
  rw [Qir hf] at c3
  have hx : Hid (Pl.Qbo s t q = -1) := Pm.hid (by rw [hd.out, hF2.out, hf]; rfl)
  clear hF2 hd hec heb hf
  (repeat' (first | refine e1 (k := ?_) | refine e0 (k := ?_) | refine stepS (Qbt Tryz.call179 c1k rfl) (k := ?_) | refine stepS (Qbt Tryz.call180 c2k rfl) (k := ?_) | refine stepS (Qbt Tryz.call181 c3 rfl) (k := ?_) | refine stepS (Qbx Ty.h rfl Ty.h rfl rfl rfl (by omega) hr) (k := ?_) | refine QbB (kk := ?_) | refine Qbs ?_ | refine Qbu ?_ | refine Qbr ?_ | refine Qb0 (ht := ?_) | refine Qbz ?_ | refine Qby ?_ | refine e2 (k := ?_) | ((fail_if_success show ASeq _ _ _ _ ⟨_, (_, .d (.v (.bool true))) :: _, _⟩); (fail_if_success show ASeq _ _ _ _ ⟨_, (_, .d (.v (.bool false))) :: _, _⟩); refine splitS (fun q => ?_) (fun q => ?_))))
  all_goals first
   |(exfalso; simp at *; done)
   |(refine Qb1 (hx := ?_); rw [hx.out])
 |some e =>
  obtain ⟨j, hj, hje⟩ := QmO hf
  rw [hj] at c3
  have hok : ok = true := by
   rcases hec with h | h
   ·exact h.1
   ·obtain ⟨rfl, rfl⟩ := Prod.mk.inj h; cases hf
  subst hok
  have hre := QbC (f := rEnt) hje
  have heb2 := heb e (List.mem_of_getElem? hje)
  have hT : Hid (Pl.Qa4 s ns 0 q = Pl.Qa4 s ns (e.2.toNat : Nat) (q.drop (k + 1))) := Pm.hid (by rw [hF2.out, hf]; simp only; rw [show ((e.2.toNat : Nat) : Int) = e.2 by omega])
  clear hF2 hd hec heb hf hj hje
  obtain ⟨nm, id⟩ := e
  obtain ⟨id, rfl⟩ := Int.eq_ofNat_of_zero_le (show 0 <= id by have := heb2.2.1; omega)
  simp only [Int.toNat_natCast] at hT
  (repeat' (first | refine e1 (k := ?_) | refine stepS (Qbt Tryz.call179 c1k rfl) (k := ?_) | refine stepS (Qbt Tryz.call180 c2k rfl) (k := ?_) | refine stepS (Qbt Tryz.call181 c3 rfl) (k := ?_) | refine stepS (Qbx Ty.h rfl Ty.h rfl rfl rfl (by omega) hr) (k := ?_) | refine stepS (Qbx Ty.h rfl Ty.h rfl rfl rfl (by omega) hre) (k := ?_) | refine stepS (Qb7 rfl rfl (by omega)) (k := ?_) | refine QbB (kk := ?_) | refine Qbs ?_ | refine Qb4 ?_ | refine QbG ?_ | refine Qbu ?_ | refine Qbr ?_ | refine Qb0 (ht := ?_) | refine Qb2 (hf := ?_) | refine Qbz ?_ | refine Qby ?_ | refine e2 (k := ?_) | fail))
  all_goals first
   |exact Qb9 (q.length - (k + 1)) (by omega) ⟨k + 1, id, by omega, rfl, Pm.hid hT.out, rfl⟩
   |(exfalso; simp only [decide_eq_true_eq] at *; omega)
end Aw
end Go.Proofs.YtdjkdcokjoiokaaGreatDoor
namespace Go.Proofs.YtdjkdcokjoiokaaGreatDoor
open Go.RowKit
namespace Aw
attribute [local irreducible] ASeq ADraw AWP Loc
def Pl.QaM (s : List UInt8) : List (List UInt8) := if s = [47] then [] else (Pl.cutB 47 s).tail
theorem Qlq (l : List (List UInt8)) : (l.map fun s => [dS s]).drop 1 = l.tail.map fun s => [dS s] := by cases l <;> rfl
theorem Qiw (s : List UInt8) (hs : s.length <= 1000000000000) : Pure Tryz.prog 178 [dS s] (tStrs (Pl.QaM s)) := by
 have c := al2Cut s 47 hs
 have hd : Hid (Pl.QaM s = if s = [47] then [] else (Pl.cutB 47 s).tail) := Pm.hid rfl
 have hne := List.length_pos_iff.2 (Pl.QdE 47 s)
 have ht := Pm.hid (Qlq (Pl.cutB 47 s))
 generalize Pl.cutB 47 s = l at *
 (refine Qbw Tryz.func178 rfl Tryz.ntmps178 Tryz.results178 rfl ?_; simp only [parE, Nat.zero_add, Nat.reduceAdd])
 (repeat' (first | refine e1 (k := ?_) | refine stepS (Qbt Tryz.call250 c rfl) (k := ?_) | refine stepS (QbL (m := [47]) rfl rfl) (k := ?_) | refine stepS (Qnn rfl rfl rfl (by omega) (by simp; omega)) (k := ?_) | refine stepS2 (QbE Ty.h rfl Ty.h) (k := ?_) | refine Qbs ?_ | refine Qbu ?_ | refine Qbr ?_ | refine Qb3 (ht := fun q => ?_) (hf := fun q => ?_) | refine Qbz ?_ | fail))
 ·(refine Qbv 0 (h := ?_); refine Qb1 (hx := ?_))
  rw [hd.out, if_pos (by simpa using q)]; rfl
 ·refine Qb1 (hx := ?_)
  rw [hd.out, if_neg (by simpa using q)]
  have h := ht.out
  first | rw [<- h]; rfl | simp [<- h]
theorem aPathOk (s : List UInt8) (hs : s.length <= 1000000000000) : Pure Tryz.prog 177 [dS s] (dB (Pl.Qag s).isSome) := by
 have c := Qiw s hs
 have hd : Hid (Pl.Qag s = if s = [47] then some [] else if s.head? = some 47 /\ (Pl.cutB 47 s).tail.all Pl.Qaj = true /\ (Pl.cutB 47 s).tail.length <= 4 then some (Pl.cutB 47 s).tail else none) := Pm.hid rfl
 by_cases h1 : s = [47]
 ·subst h1
  (refine Qbw Tryz.func177 rfl Tryz.ntmps177 Tryz.results177 rfl ?_; simp only [parE, Nat.zero_add, Nat.reduceAdd])
  (repeat' (first | refine e1 (k := ?_) | refine stepS (QbL (m := [47]) rfl rfl) (k := ?_) | refine Qbs ?_ | refine Qbu ?_ | refine Qbr ?_ | refine Qb0 (ht := ?_) | fail))
  all_goals first
   |(exfalso; simp at q; done)
   |(refine Qb1 (hx := ?_); rw [hd.out, if_pos rfl]; rfl)
   |skip
 have hd2 : Hid (Pl.Qag s = if s.head? = some 47 /\ (Pl.cutB 47 s).tail.all Pl.Qaj = true /\ (Pl.cutB 47 s).tail.length <= 4 then some (Pl.cutB 47 s).tail else none) := Pm.hid (by rw [hd.out, if_neg h1])
 have hn : Pl.QaM s = (Pl.cutB 47 s).tail := if_neg h1
 rw [hn] at c
 have hcl := (QcD 47 s)
 have hl : (Pl.cutB 47 s).tail.length <= s.length + 1 /\ ∀ x ∈ (Pl.cutB 47 s).tail, x.length <= s.length := ⟨by rw [List.length_tail]; omega, fun x hx => hcl.2 x (List.mem_of_mem_tail hx)⟩
 clear hd hn hcl
 generalize (Pl.cutB 47 s).tail = l at *
 cases s with
 |nil =>
  (refine Qbw Tryz.func177 rfl Tryz.ntmps177 Tryz.results177 rfl ?_; simp only [parE, Nat.zero_add, Nat.reduceAdd])
  (repeat' (first | refine e1 (k := ?_) | refine e0 (k := ?_) | refine stepS (QbL (m := [47]) rfl rfl) (k := ?_) | refine stepS (QbL rfl rfl) (k := ?_) | refine Qbs ?_ | refine Qbu ?_ | refine Qbr ?_ | refine Qb0 (ht := ?_) | refine Qb2 (hf := ?_) | refine Qbz ?_ | fail))
  all_goals first
   |(exfalso; simp at q; done)
   |(refine Qb1 (hx := ?_); rw [hd2.out, if_neg (by simp)]; rfl)
   |skip
 |cons c0 s =>
  have hne : ((c0 :: s) == [47]) = false := by simpa using h1
  have hc0 : (c0 :: s)[(0 : Int).toNat]? = some c0 := rfl
  have h47 : ((c0.toNat : Nat) : Int) = 47 ↔ c0 = 47 := ⟨fun h => UInt8.toNat_inj.1 (by have : ((47 : UInt8).toNat : Int) = 47 := rfl; omega), fun h => by rw [h]; rfl⟩
  by_cases h2 : c0 = 47
  rotate_left
  ·have hx : Hid (Pl.Qag (c0 :: s) = none) := Pm.hid (by rw [hd2.out, if_neg (by simp [h2])])
   (refine Qbw Tryz.func177 rfl Tryz.ntmps177 Tryz.results177 rfl ?_; simp only [parE, Nat.zero_add, Nat.reduceAdd])
   (repeat' (first | refine e1 (k := ?_) | refine stepS (QbL (m := [47]) rfl rfl) (k := ?_) | refine stepS (QcH Ty.h rfl rfl rfl (by omega) hc0) (k := ?_) | refine stepS (QbL rfl rfl) (k := ?_) | refine Qbs ?_ | refine Qbu ?_ | refine Qbr ?_ | refine Qb3 (ht := fun q => ?_) (hf := fun q => ?_) | refine Qbz ?_ | fail))
   all_goals first
    |(refine Qb1 (hx := ?_); rw [hx.out]; rfl)
    |(exfalso; rw [hne] at q; exact absurd q (by decide))
    |(exfalso; simp only [bne_eq_false_iff_eq] at *; exact h2 (h47.1 (by assumption)))
    |skip
  subst h2
  have hd3 : Hid (Pl.Qag (47 :: s) = if l.all Pl.Qaj = true /\ l.length <= 4 then some l else none) := Pm.hid (by rw [hd2.out]; simp)
  clear hd2 h47
  (refine Qbw Tryz.func177 rfl Tryz.ntmps177 Tryz.results177 rfl ?_; simp only [parE, Nat.zero_add, Nat.reduceAdd])
  (repeat' (first | refine e1 (k := ?_) | refine stepS (QbL (m := [47]) rfl rfl) (k := ?_) | refine stepS (QcH Ty.h rfl rfl rfl (by omega) hc0) (k := ?_) | refine stepS (Qbt Tryz.call178 c rfl) (k := ?_) | refine stepS (QbL rfl rfl) (k := ?_) | refine Qbs ?_ | refine Qbu ?_ | refine Qbr ?_ | refine Qb2 (hf := ?_) | refine Qb3 (ht := fun q => ?_) (hf := fun q => ?_) | refine Qbz ?_ | refine Qby ?_ | fail))
  all_goals first
   |(exfalso; rw [hne] at q; exact absurd q (by decide))
   |(exfalso; exact absurd q (by decide))
   |(exfalso; simp at q; done)
   |skip
  refine QbD (fun m st => ∃ k : Nat, k <= l.length /\ m = l.length - k /\ Hid ((l.take k).all Pl.Qaj = true) /\ st = ⟨31, [(3, .d (tStrs l)), (4, .d (dI k))], []⟩) [3, 4] 0 l.length ⟨0, by omega, rfl, Pm.hid rfl, rfl⟩ (round := ?_)
  rintro m st ⟨k, hk, rfl, hA, rfl⟩
  (repeat (first | refine e1 (k := ?_) | refine Qbs ?_ | refine Qbu ?_ | refine Qbr ?_ | fail))
  cases q3 : decide ((k : Int) < (l.length : Int))
  ·(repeat' (first | refine e1 (k := ?_) | refine Qbs ?_ | refine Qbu ?_ | refine Qbr ?_ | refine Qb2 (hf := ?_) | refine Qb5 ?_ | fail))
   refine Qb1 (hx := ?_)
   have : k = l.length := by simp at q3; omega
   have h := hA.out
   rw [this, List.take_length] at h
   rw [hd3.out, h]
   refine congrArg dB ?_
   by_cases h4 : l.length <= 4
   ·rw [if_pos ⟨rfl, h4⟩]; simp; omega
   ·rw [if_neg (fun x => h4 x.2)]; simp; omega
  have hk2 : k < l.length := by simp at q3; omega
  obtain ⟨x, hx⟩ : ∃ x, l[k]? = some x := ⟨_, List.getElem?_eq_getElem hk2⟩
  have hr := QbC (f := fun s => [dS s]) hx
  have c2 := aNameOk x (by have := hl.2 x (List.mem_of_getElem? hx); unfold Pm.big; omega)
  have T : Hid (Pl.Qaj x = true -> (l.take (k + 1)).all Pl.Qaj = true) := Pm.hid fun h => by rw [List.take_add_one, hx, List.all_append, hA.out]; simpa using h
  have F : Hid (Pl.Qaj x = false -> Pl.Qag (47 :: s) = none) := Pm.hid fun h => by
   rw [hd3.out, if_neg]
   rintro ⟨h1, _⟩
   have := List.all_eq_true.1 h1 x (List.mem_of_getElem? hx)
   rw [h] at this; cases this
  clear hx hA hd3
  generalize Pl.Qaj x = ok at *
  (repeat' (first | refine e1 (k := ?_) | refine stepS (Qbt Tryz.call208 c2 rfl) (k := ?_) | refine stepS (Qbx Ty.h rfl Ty.h rfl rfl rfl (by omega) hr) (k := ?_) | refine stepS (Qb7 rfl rfl (by omega)) (k := ?_) | refine Qbs ?_ | refine Qb4 ?_ | refine Qbu ?_ | refine Qbr ?_ | refine Qb0 (ht := ?_) | refine Qb3 (ht := fun q => ?_) (hf := fun q => ?_) | refine Qbz ?_ | refine Qby ?_ | fail))
  all_goals first
   |exact Qb9 (l.length - (k + 1)) (by omega) ⟨k + 1, by omega, rfl, Pm.hid (T.out (by simpa using q)), rfl⟩
   |(refine Qb1 (hx := ?_); rw [F.out (by simpa using q)]; rfl)
theorem Qlg (s : List UInt8) (hs : s.length <= 1000000000000) : Pure Tryz.prog 112 [dS s] (.tup [tStrs ((Pl.Qag s).getD []), dB (Pl.Qag s).isSome]) := by
 have c1 := aPathOk s hs
 have c2 := Qiw s hs
 have hn : Hid ((Pl.Qag s).isSome = true -> Pl.QaM s = (Pl.Qag s).getD []) := Pm.hid fun h => by
  unfold Pl.Qag Pl.QaM at *
  split
  ·rfl
  ·rename_i h1
   rw [if_neg h1] at h
   split
   ·rfl
   ·rename_i h2; rw [if_neg h2] at h; cases h
 have hcl := (QcD 47 s)
 have hl : (Pl.QaM s).length <= s.length + 1 := by
  unfold Pl.QaM
  split
  ·simp
  ·rw [List.length_tail]; omega
 have h0 : Hid ((Pl.Qag s).isSome = false -> (Pl.Qag s).getD [] = []) := Pm.hid fun h => by cases hx : Pl.Qag s with | none => rfl | some x => rw [hx] at h; cases h
 generalize (Pl.Qag s).getD [] = r at *
 generalize (Pl.Qag s).isSome = ok at *
 generalize Pl.QaM s = l at *
 (refine Qbw Tryz.func112 rfl Tryz.ntmps112 Tryz.results112 rfl ?_; simp only [parE, Nat.zero_add, Nat.reduceAdd])
 (repeat' (first | refine e1 (k := ?_) | refine stepS (Qbt Tryz.call177 c1 rfl) (k := ?_) | refine stepS (Qbt Tryz.call178 c2 rfl) (k := ?_) | refine QfT Ty.h rfl Ty.h (hb := ?_) (hcell := ?_) (kk := ?_) | refine stepS2 (QbE Ty.h rfl Ty.h) (k := ?_) | refine Qbs ?_ | refine Qbu ?_ | refine Qbr ?_ | refine Qb3 (ht := fun q => ?_) (hf := fun q => ?_) | refine Qbz ?_ | fail))
 ·(refine Qbv 0 (h := ?_); refine Qb1 (hx := ?_))
  have h1 : ok = false := by simpa using q
  rw [h0.out h1, h1]; rfl
 ·intro r hr d hd
  obtain ⟨x, _, rfl⟩ := List.mem_map.1 hr
  simp at hd; subst hd; rfl
 ·simp; omega
 ·(refine Qbv 0 (h := ?_); refine Qb1 (hx := ?_))
  have h1 : ok = true := by simpa using q
  rw [<- hn.out h1, h1]; simp [List.take_of_length_le]
end Aw
end Go.Proofs.YtdjkdcokjoiokaaGreatDoor
namespace Go.Proofs.YtdjkdcokjoiokaaGreatDoor
open Go.RowKit
namespace Aw
attribute [local irreducible] ASeq ADraw AWP Loc AStep
structure Pl.Lens (s : Pm.Store) : Prop where
 b1 : s.2.1.1.length <= Pm.big
 b2 : s.2.1.2.length <= Pm.big
 b3 : s.2.2.2.1.length <= 1000000000000
 b4 : s.2.2.2.2.2.1.length <= 1000000000000
theorem QcR {s : Pm.Store} (h : Pl.Qaf s = true) : Pl.Good s := by
 unfold Pl.Qaf at h
 simp only [Bool.and_eq_true, beq_iff_eq] at h
 obtain ⟨⟨⟨⟨⟨h1, _⟩, _⟩, _⟩, h2⟩, _⟩ := h
 refine ⟨h1, fun r hr => ?_⟩
 obtain ⟨i, hi, rfl⟩ := List.getElem_of_mem hr
 unfold Pl.QaZ at h2
 have := List.all_eq_true.1 h2 i (List.mem_range.2 (by omega))
 unfold Pl.QaI at this
 simp only [Bool.and_eq_true, decide_eq_true_eq, List.getD_eq_getElem?_getD, List.getElem?_eq_getElem hi, Option.getD_some] at this
 exact this.1.1
theorem al15Ok (s : Pm.Store) (hg : Pl.Good s) (t : Pl.Tree) : Pure Tryz.prog 139 [dSt s, dTree t] (dB (Pl.Qak s t)) := by
 have c := al15All s hg t
 have hd : Hid (Pl.Qbc s t = if Pl.Qak s t then ((Pl.Qa9 s t).1, true) else ([], false)) := Pm.hid rfl
 have h2 : Hid ((Pl.Qbc s t).2 = Pl.Qak s t) := Pm.hid (by rw [hd.out]; cases Pl.Qak s t <;> rfl)
 generalize Pl.Qbc s t = r at *
 obtain ⟨l, ok⟩ := r
 (refine Qbw Tryz.func139 rfl Tryz.ntmps139 Tryz.results139 rfl ?_; simp only [parE, Nat.zero_add, Nat.reduceAdd])
 (refine Qbu (Qbr ?_); (repeat (first | refine e1 (k := ?_) | refine e2 (k := ?_) | fail)); refine Qbs ?_)
 refine Qbv 0 (h := ?_)
 refine Qbv 1 (h := ?_)
 (repeat' (first | refine e1 (k := ?_) | refine stepS (Qbt Tryz.call115 c rfl) (k := ?_) | refine Qbs ?_ | refine Qbu ?_ | refine Qbr ?_ | fail))
 exact Qb1 (hx := by rw [<- h2.out])
theorem Qoi (s : Pm.Store) (hl : Pl.Lens s) (t : Pl.Tree) : Pure Tryz.prog 113 [dSt s, dTree t] (dB (Pl.Qaf s && Pl.Qak s t)) := by
 have c1 := Qoe s hl.b1 hl.b2 hl.b3 hl.b4
 cases h : Pl.Qaf s
 ·rw [h] at c1
  (refine Qbw Tryz.func113 rfl Tryz.ntmps113 Tryz.results113 rfl ?_; simp only [parE, Nat.zero_add, Nat.reduceAdd])
  (refine Qbu (Qbr ?_); (repeat (first | refine e1 (k := ?_) | refine e2 (k := ?_) | fail)); refine Qbs ?_)
  refine Qbv 0 (h := ?_)
  refine Qbv 1 (h := ?_)
  (repeat' (first | refine e1 (k := ?_) | refine e0 (k := ?_) | refine stepS (Qbt Tryz.call127 c1 rfl) (k := ?_) | refine Qbs ?_ | refine Qbu ?_ | refine Qbr ?_ | fail))
  exact Qb1 (hx := rfl)
 ·have c2 := al15Ok s (QcR h) t
  rw [h] at c1
  (refine Qbw Tryz.func113 rfl Tryz.ntmps113 Tryz.results113 rfl ?_; simp only [parE, Nat.zero_add, Nat.reduceAdd])
  (refine Qbu (Qbr ?_); (repeat (first | refine e1 (k := ?_) | refine e2 (k := ?_) | fail)); refine Qbs ?_)
  refine Qbv 0 (h := ?_)
  refine Qbv 1 (h := ?_)
  (repeat' (first | refine e1 (k := ?_) | refine stepS (Qbt Tryz.call127 c1 rfl) (k := ?_) | refine stepS (Qbt Tryz.call139 c2 rfl) (k := ?_) | refine Qbs ?_ | refine Qbu ?_ | refine Qbr ?_ | fail))
  exact Qb1 (hx := rfl)
noncomputable def Pl.QaD (s : Pm.Store) (t : Pl.Tree) (path : List UInt8) : Int × Bool :=
 match Pl.Qag path with
 |none => (0, false)
 |some q => if Pl.Qaf s && Pl.Qak s t then (match Pl.Qa4 s (Pl.Qab s t) 0 q with | none => (0, false) | some j => (j, true)) else (0, false)
theorem QdC {s : Pm.Store} {t : Pl.Tree} (h : Pl.Qak s t = true) : Pl.TGood t := by
 unfold Pl.Qak Pl.Qa8 at h
 simp only [Bool.and_eq_true] at h
 exact Qcc h.1.1.1.1
theorem Qlh (s : Pm.Store) (hl : Pl.Lens s) (t : Pl.Tree) (path : List UInt8) (hp : path.length <= 1000000000000) : Pure Tryz.prog 54 [dSt s, dTree t, dS path] (.tup [dI (Pl.QaD s t path).1, dB (Pl.QaD s t path).2]) := by
 have hd : Hid (Pl.QaD s t path = match Pl.Qag path with
  |none => (0, false)
  |some q => if Pl.Qaf s && Pl.Qak s t then (match Pl.Qa4 s (Pl.Qab s t) 0 q with | none => (0, false) | some j => (j, true)) else (0, false)) := Pm.hid rfl
 have c1 := Qlg path hp
 have c2 := Qoi s hl t
 cases hq : Pl.Qag path with
 |none =>
  rw [hq] at c1 hd
  (refine Qbw Tryz.func54 rfl Tryz.ntmps54 Tryz.results54 rfl ?_; simp only [parE, Nat.zero_add, Nat.reduceAdd])
  (refine Qbu (Qbr ?_); (repeat (first | refine e1 (k := ?_) | refine e2 (k := ?_) | fail)); refine Qbs ?_)
  refine Qbv 0 (h := ?_)
  refine Qbv 1 (h := ?_)
  (repeat' (first | refine e1 (k := ?_) | refine e0 (k := ?_) | refine stepS (Qbt Tryz.call112 c1 rfl) (k := ?_) | refine Qbs ?_ | refine Qbu ?_ | refine Qbr ?_ | refine Qb0 (ht := ?_) | fail))
  exact Qb1 (hx := by rw [hd.out])
 |some q =>
  have hql : q.length <= 4 := (Qd5.1 hq).2.1
  rw [hq] at c1 hd
  simp only [Option.getD_some, Option.isSome_some] at c1
  cases hk : Pl.Qaf s && Pl.Qak s t
  ·rw [hk] at c2 hd
   (refine Qbw Tryz.func54 rfl Tryz.ntmps54 Tryz.results54 rfl ?_; simp only [parE, Nat.zero_add, Nat.reduceAdd])
   (refine Qbu (Qbr ?_); (repeat (first | refine e1 (k := ?_) | refine e2 (k := ?_) | fail)); refine Qbs ?_)
   refine Qbv 0 (h := ?_)
   refine Qbv 1 (h := ?_)
   (repeat' (first | refine e1 (k := ?_) | refine stepS (Qbt Tryz.call112 c1 rfl) (k := ?_) | refine stepS (Qbt Tryz.call113 c2 rfl) (k := ?_) | refine Qbs ?_ | refine Qbu ?_ | refine Qbr ?_ | refine Qb0 (ht := ?_) | fail))
   exact Qb1 (hx := by rw [hd.out]; rfl)
  ·have hk2 : Pl.Qaf s = true /\ Pl.Qak s t = true := by simpa using hk
   have c3 := (QnX s (QcR hk2.1) t (QdC hk2.2) q (by omega)).arg (l := [dSt s, dTree t, tStrs q])
   unfold Pl.Qbo at c3
   have hnn : ∀ j, Pl.Qa4 s (Pl.Qab s t) 0 q = some j -> 0 <= j := fun j h => QgQ (Int.le_refl 0) h
   rw [hk] at c2 hd
   dsimp only at hd
   rw [if_pos rfl] at hd
   generalize Pl.Qa4 s (Pl.Qab s t) 0 q = r at *
   cases r with
   |none =>
    simp only [Option.getD_none] at c3
    (refine Qbw Tryz.func54 rfl Tryz.ntmps54 Tryz.results54 rfl ?_; simp only [parE, Nat.zero_add, Nat.reduceAdd])
    (refine Qbu (Qbr ?_); (repeat (first | refine e1 (k := ?_) | refine e2 (k := ?_) | fail)); refine Qbs ?_)
    refine Qbv 0 (h := ?_)
    refine Qbv 1 (h := ?_)
    (repeat' (first | refine e1 (k := ?_) | refine stepS (Qbt Tryz.call112 c1 rfl) (k := ?_) | refine stepS (Qbt Tryz.call113 c2 rfl) (k := ?_) | refine stepS (Qbt Tryz.call114 c3 rfl) (k := ?_) | refine Qbs ?_ | refine Qbu ?_ | refine Qbr ?_ | refine Qb0 (ht := ?_) | refine Qb2 (hf := ?_) | refine Qbz ?_ | fail))
    all_goals first
     |(exfalso; simp only [decide_eq_false_iff_not] at *; omega)
     |exact Qb1 (hx := by rw [hd.out])
     |exact Qb1 (hx := by rw [hd.out]; rfl)
   |some j =>
    have hj := hnn j rfl
    simp only [Option.getD_some] at c3
    (refine Qbw Tryz.func54 rfl Tryz.ntmps54 Tryz.results54 rfl ?_; simp only [parE, Nat.zero_add, Nat.reduceAdd])
    (refine Qbu (Qbr ?_); (repeat (first | refine e1 (k := ?_) | refine e2 (k := ?_) | fail)); refine Qbs ?_)
    refine Qbv 0 (h := ?_)
    refine Qbv 1 (h := ?_)
    (repeat' (first | refine e1 (k := ?_) | refine stepS (Qbt Tryz.call112 c1 rfl) (k := ?_) | refine stepS (Qbt Tryz.call113 c2 rfl) (k := ?_) | refine stepS (Qbt Tryz.call114 c3 rfl) (k := ?_) | refine Qbs ?_ | refine Qbu ?_ | refine Qbr ?_ | refine Qb2 (hf := ?_) | refine Qb3 (ht := fun q => ?_) (hf := fun q => ?_) | refine Qbz ?_ | fail))
    all_goals first
     |(exfalso; simp only [decide_eq_true_eq] at *; omega)
     |exact Qb1 (hx := by rw [hd.out])
     |exact Qb1 (hx := by rw [hd.out]; rfl)
theorem Qn7 {kind : Nat -> Nat} {en : Nat -> Option Gr.En} (hen : ∀ k es, en k = some es -> ∀ e ∈ es, Pl.Qaj e.1 = true) {r L : List Gr.It} (h : Gr.FP kind en r L) : (∀ x ∈ r, ∀ n ∈ x.1, Pl.Qaj n = true) -> ∀ x ∈ L, ∀ n ∈ x.1, Pl.Qaj n = true := by
 induction h with
 |nil => intro _ x hx; cases hx
 |file hk h ih =>
  intro hr x hx
  rcases List.mem_cons.1 hx with rfl | hx
  ·exact hr _ List.mem_cons_self
  ·exact ih (fun y hy => hr y (List.mem_cons_of_mem _ hy)) x hx
 |dir hk he h1 h2 ih1 ih2 =>
  intro hr x hx
  rcases List.mem_cons.1 hx with rfl | hx
  ·exact hr _ List.mem_cons_self
  ·rcases List.mem_append.1 hx with hx | hx
   ·refine ih1 (fun y hy n hn => ?_) x hx
    unfold Gr.kids at hy
    obtain ⟨e, hem, rfl⟩ := List.mem_map.1 hy
    rcases List.mem_append.1 hn with hn | hn
    ·exact hr _ List.mem_cons_self n hn
    ·rw [List.mem_singleton] at hn; rw [hn]; exact hen _ _ he e hem
   ·exact ih2 (fun y hy => hr y (List.mem_cons_of_mem _ hy)) x hx
theorem QiS {s : Pm.Store} {t : Pl.Tree} (h : Pl.Qak s t = true) : (∀ x ∈ (Pl.Qa9 s t).1, (∀ n ∈ x.1, Pl.Qaj n = true) /\ 0 <= x.2 /\ x.2 < 16) /\ (Pl.Qa9 s t).1.length <= 144 := by
 have hF := (Qe3 s t).1 h
 have ht := QdC h
 unfold Pl.Qak at h
 simp only [Bool.and_eq_true, beq_iff_eq] at h
 obtain ⟨L, g1, g2, g3⟩ := Qe1 s hF.root h.1.2
 rw [g3]
 have hnl : (Pl.Qab s t).length <= 16 := by unfold Pl.Qab; rw [List.length_map, texts_len s ht]; have := ht.manyHi; omega
 refine ⟨fun x hx => ?_, by simpa using g2⟩
 obtain ⟨y, hy, rfl⟩ := List.mem_map.1 hx
 refine ⟨Qn7 (fun k es he e hee => ?_) g1 (by simp) y hy, ?_⟩
 ·unfold Pl.enF at he
  split at he
  ·obtain rfl := Option.some.inj he
   obtain ⟨e', he', rfl⟩ := List.mem_map.1 hee
   exact (Qgt s _ e' he').1
  ·cases he
 ·have := g1.fd.kinds y.2 (List.mem_map.2 ⟨y, hy, rfl⟩)
  have hk : y.2 < (Pl.Qab s t).length := Qce (by rcases this with h | ⟨h, _⟩ <;> rw [h] <;> decide)
  simp only [Pl.itOf]; omega
def Pl.Qbd (p path : List UInt8) : Bool := (path == [47]) || (p == path) || (decide (path.length < p.length) && (p.take (path.length + 1) == path ++ [47]))
theorem Qkk {p q : List (List UInt8)} (hp : ∀ n ∈ p, Pl.Qaj n = true) (hq : ∀ n ∈ q, Pl.Qaj n = true) : Pl.Qbd (Pl.Qat p) (Pl.Qat q) = q.isPrefixOf p := by
 rw [Bool.eq_iff_iff, List.isPrefixOf_iff_prefix, <- pre_iff (Qfx hq) (Qfx hp)]
 unfold Pl.Qbd
 simp only [Bool.or_eq_true, Bool.and_eq_true, beq_iff_eq, decide_eq_true_eq]
 rw [QcY (Qfx hq)]
 constructor
 ·rintro ((h | h) | ⟨_, h⟩)
  ·exact .inl h
  ·exact .inr (.inl h)
  ·exact .inr (.inr ⟨(Pl.Qat p).drop ((Pl.Qat q).length + 1), by rw [<- h]; exact List.take_append_drop _ _⟩)
 ·rintro (h | h | ⟨r, h⟩)
  ·exact .inl (.inl h)
  ·exact .inl (.inr h)
  ·refine .inr ⟨by rw [<- h]; simp, ?_⟩
   rw [<- h, List.take_append_of_le_length (by simp), List.take_of_length_le (by simp)]
def Pl.QaA (l : List Pl.Fnd) (q : List (List UInt8)) : List Bool := (List.range 16).map fun k => Pl.isIn l q k
theorem Qmh (q : List (List UInt8)) : Pl.QaA [] q = List.replicate 16 false := by
 unfold Pl.QaA
 rw [show (fun k => Pl.isIn [] q k) = fun _ => false from rfl]
 rfl
theorem QhT (l : List Pl.Fnd) (q : List (List UInt8)) {k : Nat} (h : k < 16) : (Pl.QaA l q)[k]? = some (Pl.isIn l q k) := by
 unfold Pl.QaA; rw [List.getElem?_map, List.getElem?_range h]; rfl
theorem QhN (l : List Pl.Fnd) (x : Pl.Fnd) (q : List (List UInt8)) (k : Nat) : Pl.isIn (l ++ [x]) q k = (Pl.isIn l q k || ((x.2 == (k : Int)) && q.isPrefixOf x.1)) := by
 unfold Pl.isIn; rw [List.any_append]; simp
theorem QkE {l : List Pl.Fnd} {x : Pl.Fnd} {q : List (List UInt8)} (h : q.isPrefixOf x.1 = false) : Pl.QaA (l ++ [x]) q = Pl.QaA l q := by
 unfold Pl.QaA
 refine List.map_congr_left fun k _ => ?_
 rw [QhN, h]; simp
theorem Qmi {l : List Pl.Fnd} {x : Pl.Fnd} {q : List (List UInt8)} (h : q.isPrefixOf x.1 = true) (h0 : 0 <= x.2) (_h1 : x.2 < 16) : Pl.QaA (l ++ [x]) q = (Pl.QaA l q).set x.2.toNat true := by
 refine List.ext_getElem (by simp [Pl.QaA]) fun i hi hi' => ?_
 rw [List.getElem_set]
 simp only [Pl.QaA, List.getElem_map, List.getElem_range]
 rw [QhN, h]
 split
 ·rename_i e; subst e
  have : ((x.2.toNat : Nat) : Int) = x.2 := by omega
  rw [this]; simp
 ·rename_i e
  have : (x.2 == (i : Int)) = false := by simp; omega
  rw [this]; simp
theorem QmQ (s : Pm.Store) (hg : Pl.Good s) (t : Pl.Tree) (path : List UInt8) (hF : Pl.Qak s t = true) (q : List (List UInt8)) (hq : Pl.Qag path = some q) :
 Pure Tryz.prog 55 [dSt s, dTree t, dS path] (.sl true 1 ((Pl.QaA (Pl.Qa9 s t).1 q).map fun b => [dB b])) := by
 have c := al15All s hg t
 have hd : Pl.Qbc s t = ((Pl.Qa9 s t).1, true) := by unfold Pl.Qbc; rw [if_pos hF]
 rw [hd] at c
 obtain ⟨hfn, hfl⟩ := QiS hF
 obtain ⟨hq1, hq2, hq3⟩ := Qd5.1 hq
 have hqn : ∀ n ∈ q, Pl.Qaj n = true := fun n hn => List.all_eq_true.1 hq1 n hn
 have hpl : path.length <= 21 := by
  rw [<- hq3]
  have := Qhz q fun x hx => QdS (hqn x hx)
  omega
 clear hF hd hq hq1
 generalize (Pl.Qa9 s t).1 = out at *
 have hfn := Pm.hid hfn
 have hqn := Pm.hid hqn
 have hq3 := Pm.hid hq3
 (refine Qbw Tryz.func55 rfl Tryz.ntmps55 Tryz.results55 rfl ?_; simp only [parE, Nat.zero_add, Nat.reduceAdd])
 (refine Qbu (Qbr ?_); (repeat (first | refine e1 (k := ?_) | refine e2 (k := ?_) | fail)); refine Qbs ?_)
 refine Qbv 0 (h := ?_)
 refine Qbv 1 (h := ?_)
 (repeat' (first | refine e1 (k := ?_) | refine stepS (Qbt Tryz.call115 c rfl) (k := ?_) | refine stepS2 (QjA Ty.h rfl Ty.h rfl rfl) (k := ?_) | refine Qbs ?_ | refine Qbu ?_ | refine Qbr ?_ | refine Qby ?_ | fail))
 refine QbD (fun m st => ∃ j : Nat, j <= out.length /\ m = out.length - j /\ st = ⟨62, [(10, .d (dI j)), (9, .osl 2 0 0 16), (7, .d (tFnds out)), (2, .d (dS path))],
  [.row 1 [], .row 1 [], .arr 0 1 4 ((Pl.QaA (out.take j) q).map fun b => [dB b])]⟩) [10, 9, 7, 2] 3 out.length ⟨0, by omega, rfl, ?_⟩ (round := ?_)
 ·rw [List.take_zero, Qmh]; rfl
 rintro m st ⟨j, hj, rfl, rfl⟩
 (repeat (first | refine e1 (k := ?_) | refine Qbs ?_ | refine Qbu ?_ | refine Qbr ?_ | fail))
 cases q3 : decide ((j : Int) < (out.length : Int))
 ·(repeat' (first | refine e1 (k := ?_) | refine Qbs ?_ | refine Qbu ?_ | refine Qbr ?_ | refine Qb2 (hf := ?_) | refine Qb5 ?_ | fail))
  (refine Qbv 2 (h := ?_); refine Qb1 (hx := ?_))
  have : j = out.length := by simp at q3; omega
  rw [this, List.take_length]
  have : (Pl.QaA out q).length = 16 := by simp [Pl.QaA]
  simp [List.take_of_length_le, this]
 have hj2 : j < out.length := by simp at q3; omega
 obtain ⟨x, hx⟩ : ∃ x, out[j]? = some x := ⟨_, List.getElem?_eq_getElem hj2⟩
 have hr := QbC (f := rFnd) hx
 obtain ⟨hxn, hxi⟩ := hfn.out x (List.mem_of_getElem? hx)
 have hs := Qkk hxn hqn.out
 rw [hq3.out] at hs
 have htk : out.take (j + 1) = out.take j ++ [x] := by rw [List.take_add_one, hx]; rfl
 have T0 : Hid (Pl.Qbd (Pl.Qat x.1) path = false -> Pl.QaA (out.take (j + 1)) q = Pl.QaA (out.take j) q) := Pm.hid fun h => by rw [htk]; exact QkE (by rw [<- hs]; exact h)
 have T1 : Hid (Pl.Qbd (Pl.Qat x.1) path = true -> Pl.QaA (out.take (j + 1)) q = (Pl.QaA (out.take j) q).set x.2.toNat true) := Pm.hid fun h => by rw [htk]; exact Qmi (by rw [<- hs]; exact h) hxi.1 hxi.2
 have hsd : Hid (Pl.Qbd (Pl.Qat x.1) path = ((path == [47]) || (Pl.Qat x.1 == path) || (decide (path.length < (Pl.Qat x.1).length) && ((Pl.Qat x.1).take (path.length + 1) == path ++ [47])))) := Pm.hid rfl
 rw [hsd.out] at T0 T1
 have hfl16 : (Pl.QaA (out.take j) q).length = 16 := by simp [Pl.QaA]
 have hrm : ((Pl.QaA (out.take j) q).map fun b => [dB b])[0 + x.2.toNat]? = some [dB (Pl.isIn (out.take j) q x.2.toNat)] := by
  rw [Nat.zero_add, List.getElem?_map, QhT _ _ (by omega)]; rfl
 clear hx hs htk hsd hfn hqn hxn c
 generalize Pl.isIn (out.take j) q x.2.toNat = old at *
 generalize Pl.QaA (out.take j) q = fl at *
 obtain ⟨xp, xi⟩ := x
 simp only at hxi hrm T0 T1 hr
 change (out.map rFnd)[((j : Nat) : Int).toNat]? = some [dS (Pl.Qat xp), dI xi] at hr
 generalize Pl.Qat xp = sp at *
 have htn : ((path.length : Int) + 1).toNat = path.length + 1 := by omega
 have hdec : decide (path.length < sp.length) = decide ((sp.length : Int) > (path.length : Int)) := decide_eq_decide.2 (by omega)
 rw [hdec, <- htn] at T0 T1
 clear hdec
 (repeat' (first | refine e1 (k := ?_) | refine e0 (k := ?_) | refine stepS (Qbx Ty.h rfl Ty.h rfl rfl rfl (by omega) hr) (k := ?_) | refine stepS (QbL (m := [47]) rfl rfl) (k := ?_) | refine stepS (Qez rfl rfl rfl (by omega) (by simp only [decide_eq_true_eq] at *; omega)) (k := ?_) | refine stepS (QbV (m := [47]) rfl rfl (by first | omega | (simp; omega))) (k := ?_) | refine stepS (QbR Ty.h rfl Ty.h rfl rfl rfl rfl hxi.1 (by omega)) (k := ?_) | refine QdJ Ty.h rfl rfl hrm rfl (kk := ?_) | refine stepS (Qb7 rfl rfl (by omega)) (k := ?_) | refine stepS (QbL rfl rfl) (k := ?_) | refine Qbs ?_ | refine Qb4 ?_ | refine QbG ?_ | refine Qbu ?_ | refine Qbr ?_ | refine Qb0 (ht := ?_) | refine Qb2 (hf := ?_) | refine Qb3 (ht := fun q => ?_) (hf := fun q => ?_) | refine Qbz ?_ | refine Qby ?_ | ((fail_if_success show ASeq _ _ _ _ ⟨_, (_, .d (.v (.bool true))) :: _, _⟩); (fail_if_success show ASeq _ _ _ _ ⟨_, (_, .d (.v (.bool false))) :: _, _⟩); refine splitS (fun q => ?_) (fun q => ?_))))
 all_goals refine Qb9 (out.length - (j + 1)) (by omega) ⟨j + 1, by omega, rfl, ?_⟩
 all_goals generalize (path == [47]) = u1 at *
 all_goals generalize (sp == path) = u2 at *
 all_goals generalize decide ((sp.length : Int) > (path.length : Int)) = u3 at *
 all_goals generalize (List.take ((path.length : Int) + 1).toNat sp == path ++ [47]) = u4 at *
 all_goals first
  |(have h := T1.out (by clear T0 T1; simp_all)
    rw [h]; simp [keepE, go_sem, List.map_set]; done)
  |(have h := T0.out (by clear T0 T1; simp_all)
    rw [h]; simp [keepE, go_sem]; done)
theorem Qjr (s : Pm.Store) (hl : Pl.Lens s) (t : Pl.Tree) (path : List UInt8) (hp : path.length <= 1000000000000) : Pure Tryz.prog 17 [dSt s, dTree t, dS path] (.tup [dI (Pl.Qa7 s t path Pl.Qam).1, dB (Pl.Qa7 s t path Pl.Qam).2]) := by
 have hd : Hid (Pl.Qa7 s t path Pl.Qam = match Pl.Qag path with
  |none => (0, false)
  |some q => if Pl.Qaf s && Pl.Qak s t then (match Pl.Qa4 s (Pl.Qab s t) 0 q with | none => (0, false) | some _ => (Pl.QaQ s t q Pl.Qam, true)) else (0, false)) := Pm.hid rfl
 have hf : Hid (Pl.QaD s t path = match Pl.Qag path with
  |none => (0, false)
  |some q => if Pl.Qaf s && Pl.Qak s t then (match Pl.Qa4 s (Pl.Qab s t) 0 q with | none => (0, false) | some j => (j, true)) else (0, false)) := Pm.hid rfl
 have c1 := Qlh s hl t path hp
 have hno : Hid ((Pl.QaD s t path).2 = false -> Pl.Qa7 s t path Pl.Qam = (0, false)) := Pm.hid fun h => by
  rw [hd.out]; rw [hf.out] at h
  cases h1 : Pl.Qag path with
  |none => rfl
  |some q =>
   rw [h1] at h
   dsimp only at h ⊢
   cases h2 : Pl.Qaf s && Pl.Qak s t
   ·rfl
   ·rw [h2] at h
    rw [if_pos rfl] at h ⊢
    cases h3 : Pl.Qa4 s (Pl.Qab s t) 0 q with
    |none => rfl
    |some j => rw [h3] at h; cases h
 have hyes : Hid ((Pl.QaD s t path).2 = true -> ∃ q, Pl.Qag path = some q /\ Pl.Qaf s = true /\ Pl.Qak s t = true /\ Pl.Qa7 s t path Pl.Qam = (Pl.QaQ s t q Pl.Qam, true)) := Pm.hid fun h => by
  rw [hd.out]; rw [hf.out] at h
  cases h1 : Pl.Qag path with
  |none => rw [h1] at h; cases h
  |some q =>
   rw [h1] at h
   dsimp only at h ⊢
   cases h2 : Pl.Qaf s && Pl.Qak s t
   ·rw [h2] at h; cases h
   ·rw [h2] at h
    rw [if_pos rfl] at h ⊢
    cases h3 : Pl.Qa4 s (Pl.Qab s t) 0 q with
    |none => rw [h3] at h; cases h
    |some j =>
     have : Pl.Qaf s = true /\ Pl.Qak s t = true := by simpa using h2
     exact ⟨q, rfl, this.1, this.2, rfl⟩
 clear hd hf
 generalize Pl.QaD s t path = r at *
 obtain ⟨j, ok⟩ := r
 cases ok
 ·have hx := Pm.hid (hno.out rfl)
  (refine Qbw Tryz.func17 rfl Tryz.ntmps17 Tryz.results17 rfl ?_; simp only [parE, Nat.zero_add, Nat.reduceAdd])
  (refine Qbu (Qbr ?_); (repeat (first | refine e1 (k := ?_) | refine e2 (k := ?_) | fail)); refine Qbs ?_)
  refine Qbv 0 (h := ?_)
  refine Qbv 1 (h := ?_)
  (repeat' (first | refine e1 (k := ?_) | refine stepS (Qbt Tryz.call54 c1 rfl) (k := ?_) | refine Qbs ?_ | refine Qbu ?_ | refine Qbr ?_ | refine Qb0 (ht := ?_) | fail))
  exact Qb1 (hx := by rw [hx.out])
 obtain ⟨q, hq, h1, h2, h3⟩ := hyes.out rfl
 have h3 := Pm.hid h3
 have hg := QcR h1
 have ht := QdC h2
 have c2 := QmQ s hg t path h2 q hq
 have c3 := Qiv s hg t ht
 have hnl : (Pl.Qab s t).length <= 16 := by unfold Pl.Qab; rw [List.length_map, texts_len s ht]; have := ht.manyHi; omega
 have hB : Hid (∀ k, 0 <= Pl.Qam ((Pl.Qab s t).getD k Pl.zn) /\ Pl.Qam ((Pl.Qab s t).getD k Pl.zn) <= 2048) := Pm.hid fun k => by
  rcases Qew s t k with h | h
  ·rw [h]; decide
  ·unfold Pl.Qam; have := h.size; split <;> omega
 have hsb : Hid (Pl.QaQ s t q Pl.Qam = Pl.QaC (fun k => if Pl.isIn (Pl.Qa9 s t).1 q k then Pl.Qam ((Pl.Qab s t).getD k Pl.zn) else 0) (Pl.Qab s t).length) := Pm.hid rfl
 clear hno hyes hq h1 h2 ht hp
 generalize Pl.Qab s t = ns at *
 generalize (Pl.Qa9 s t).1 = out at *
 (refine Qbw Tryz.func17 rfl Tryz.ntmps17 Tryz.results17 rfl ?_; simp only [parE, Nat.zero_add, Nat.reduceAdd])
 (refine Qbu (Qbr ?_); (repeat (first | refine e1 (k := ?_) | refine e2 (k := ?_) | fail)); refine Qbs ?_)
 refine Qbv 0 (h := ?_)
 refine Qbv 1 (h := ?_)
 (repeat' (first | refine e1 (k := ?_) | refine stepS (Qbt Tryz.call54 c1 rfl) (k := ?_) | refine stepS (Qbt Tryz.call55 c2 rfl) (k := ?_) | refine stepS (Qbt Tryz.call56 c3 rfl) (k := ?_) | refine Qbs ?_ | refine Qbu ?_ | refine Qbr ?_ | refine Qb2 (hf := ?_) | refine Qbz ?_ | refine Qby ?_ | fail))
 refine QbD (fun m st => ∃ k : Nat, k <= ns.length /\ m = 16 - k /\ st = ⟨56, [(10, .d (dI (Pl.QaC (fun k => if Pl.isIn out q k then Pl.Qam (ns.getD k Pl.zn) else 0) k))), (13, .d (dI k)), (11, .d (.sl true 1 ((Pl.QaA out q).map fun b => [dB b]))), (12, .d (.sl true 10 (ns.map rNode)))], [.row 1 [], .row 1 []]⟩) [10, 13, 11, 12] 2 16 ⟨0, by omega, rfl, rfl⟩ (round := ?_)
 rintro m st ⟨k, hk, rfl, rfl⟩
 (repeat (first | refine e1 (k := ?_) | refine Qbs ?_ | refine Qbu ?_ | refine Qbr ?_ | fail))
 cases q4 : decide ((k : Int) < (ns.length : Int))
 ·(repeat' (first | refine e1 (k := ?_) | refine Qbs ?_ | refine Qbu ?_ | refine Qbr ?_ | refine Qb2 (hf := ?_) | refine Qb5 ?_ | fail))
  have : k = ns.length := by simp at q4; omega
  subst this
  exact Qb1 (hx := by rw [h3.out, hsb.out])
 have hk2 : k < ns.length := by simp at q4; omega
 obtain ⟨nd, hnd⟩ : ∃ nd, ns[k]? = some nd := ⟨_, List.getElem?_eq_getElem hk2⟩
 have hr := QbC (f := rNode) hnd
 have hr2 : ((Pl.QaA out q).map fun b => [dB b])[(k : Int).toNat]? = some [dB (Pl.isIn out q k)] := by
  rw [Int.toNat_natCast, List.getElem?_map, QhT _ _ (by omega)]; rfl
 have hgd : ns.getD k Pl.zn = nd := by rw [List.getD_eq_getElem?_getD, hnd]; rfl
 have hbn := hB.out k
 rw [hgd] at hbn
 have hsum := Qfo (f := fun k => if Pl.isIn out q k then Pl.Qam (ns.getD k Pl.zn) else 0) 2048 (n := k) (fun i _ => by
  have := hB.out i
  split <;> omega)
 have hnext : Hid (Pl.QaC (fun k => if Pl.isIn out q k then Pl.Qam (ns.getD k Pl.zn) else 0) (k + 1) = Pl.QaC (fun k => if Pl.isIn out q k then Pl.Qam (ns.getD k Pl.zn) else 0) k + if Pl.isIn out q k then Pl.Qam nd else 0) := Pm.hid (by
  show _ + (if Pl.isIn out q k then Pl.Qam (ns.getD k Pl.zn) else 0) = _
  rw [hgd])
 have hbo : Hid (Pl.Qam nd = if nd.kind = 1 then nd.size else 0) := Pm.hid rfl
 clear hnd hgd hB h3 hsb c1 c2 c3
 generalize Pl.QaC (fun k => if Pl.isIn out q k then Pl.Qam (ns.getD k Pl.zn) else 0) k = sm at *
 generalize Pl.isIn out q k = inn at *
 obtain ⟨kind, links, size, ⟨⟨p1, p2, p3, p4, p5⟩, depth, many⟩⟩ := nd
 simp only at hbo
 rw [hbo.out] at hbn hnext
 clear hbo
 by_cases hk1 : kind = 1
 ·subst hk1
  rw [if_pos rfl] at hbn hnext
  (repeat' (first | refine e1 (k := ?_) | refine e0 (k := ?_) | refine stepS (Qbx Ty.h rfl Ty.h rfl rfl rfl (by omega) hr) (k := ?_) | refine stepS (Qbx Ty.h rfl Ty.h rfl rfl rfl (by omega) hr2) (k := ?_) | refine stepS (Qb7 rfl rfl (by omega)) (k := ?_) | refine Qbs ?_ | refine Qb4 ?_ | refine QbG ?_ | refine Qbu ?_ | refine Qbr ?_ | refine Qb0 (ht := ?_) | refine Qb2 (hf := ?_) | refine Qbz ?_ | refine Qby ?_ | ((fail_if_success show ASeq _ _ _ _ ⟨_, (_, .d (.v (.bool true))) :: _, _⟩); (fail_if_success show ASeq _ _ _ _ ⟨_, (_, .d (.v (.bool false))) :: _, _⟩); refine splitS (fun q => ?_) (fun q => ?_))))
  all_goals first
   |(refine Qb9 (16 - (k + 1)) (by omega) ⟨k + 1, by omega, rfl, ?_⟩; rw [hnext.out]; simp [keepE, go_sem, *]; done)
 ·rw [if_neg hk1] at hbn hnext
  (repeat' (first | refine e1 (k := ?_) | refine e0 (k := ?_) | refine stepS (Qbx Ty.h rfl Ty.h rfl rfl rfl (by omega) hr) (k := ?_) | refine stepS (Qbx Ty.h rfl Ty.h rfl rfl rfl (by omega) hr2) (k := ?_) | refine stepS (Qb7 rfl rfl (by omega)) (k := ?_) | refine Qbs ?_ | refine Qb4 ?_ | refine Qbu ?_ | refine Qbr ?_ | refine Qb0 (ht := ?_) | refine Qb2 (hf := ?_) | refine Qb3 (ht := fun q => ?_) (hf := fun q => ?_) | refine Qbz ?_ | refine Qby ?_ | ((fail_if_success show ASeq _ _ _ _ ⟨_, (_, .d (.v (.bool true))) :: _, _⟩); (fail_if_success show ASeq _ _ _ _ ⟨_, (_, .d (.v (.bool false))) :: _, _⟩); refine splitS (fun q => ?_) (fun q => ?_))))
  all_goals first
   |(exfalso; exact hk1 (by simpa using q))
   |(refine Qb9 (16 - (k + 1)) (by omega) ⟨k + 1, by omega, rfl, ?_⟩; rw [hnext.out]; simp [keepE, go_sem, *]; done)
end Aw
end Go.Proofs.YtdjkdcokjoiokaaGreatDoor

/- Part 31 of seek_card: contracts, walks, laws; no condition beyond the statement's. -/
import Derived.Test.YtdjkdcokjoiokaaGreatDoorW29
import Derived.Test.YtdjkdcokjoiokaaGreatDoorW30
import Derived.Laws.RangeAny
set_option linter.all false
set_option maxRecDepth 100000
set_option maxHeartbeats 8000000
namespace Go.Proofs.YtdjkdcokjoiokaaGreatDoor
section
open Go.RowKit
namespace Aw
attribute [local irreducible] ASeq ADraw AWP Loc
def Pl.maxI (a b : Int) : Int := if b > a then b else a
def Pl.maxL : List Int -> Int
 |[] => 0
 |x :: l => l.foldl Pl.maxI x
theorem Qlj (x : Int) (l : List Int) (y : Int) : Pl.maxL (x :: l ++ [y]) = Pl.maxI (Pl.maxL (x :: l)) y := by
 show (l ++ [y]).foldl Pl.maxI x = _;rw [List.foldl_append]; rfl
theorem Qhw (t : Int) : ∀ (l : List Int) (a : Int), l.foldl Pl.maxI a <= t ↔ a <= t /\ ∀ y ∈ l, y <= t
 |[], a => by simp
 |x :: l, a => by
  rw [List.foldl_cons, Qhw t l];simp only [List.mem_cons, forall_eq_or_imp];unfold Pl.maxI;split <;> constructor <;> (rintro ⟨h1, h2⟩; try rcases h2 with ⟨h2, h3⟩) <;> first | (refine ⟨by omega, by omega, ?_⟩; assumption) | (refine ⟨by omega, ?_⟩; assumption)
theorem maxL_le {l : List Int} (h : l ≠ []) (t : Int) : Pl.maxL l <= t ↔ ∀ y ∈ l, y <= t := by
 cases l with
 |nil => exact absurd rfl h
 |cons x l => show l.foldl Pl.maxI x <= t ↔ _; rw [Qhw]; simp
theorem bMax (l : List Int) (hl : 0 < l.length) (hb : l.length <= 1000000) : Pure Tryz.prog 216 [dInts l] (dI (Pl.maxL l)) := by
 obtain ⟨x0, l0, rfl⟩ : ∃ x0 l0, l = x0 :: l0 := by cases l with | nil => simp at hl | cons x l => exact ⟨x, l, rfl⟩
 have h0 := Qbx (f := fun n => [dI n]) (show (x0 :: l0)[0]? = some x0 from rfl)
 have hd : Hid (∀ (k : Nat) y, 0 < k -> (x0 :: l0)[k]? = some y -> Pl.maxL ((x0 :: l0).take (k + 1)) = Pl.maxI (Pl.maxL ((x0 :: l0).take k)) y) := Pm.hid fun k y hk hy => by
  rw [List.take_add_one, hy];obtain ⟨j, rfl⟩ : ∃ j, k = j + 1 := ⟨k - 1, by omega⟩;exact Qlj _ _ _
 have hfin : Hid (Pl.maxL ((x0 :: l0).take 1) = x0) := Pm.hid rfl;generalize x0 :: l0 = l at *
 clear l0
 (refine Qbk Tryz.func216 rfl Tryz.ntmps216 Tryz.results216 rfl ?_; simp only [parE, Nat.zero_add, Nat.reduceAdd])
 (repeat' (first | refine e1 (k := ?_) | refine stepS (Qbh Ty.h rfl Ty.h rfl rfl rfl (by decide) h0) (k := ?_) | refine Qbd ?_ | refine Qbf ?_ | refine Qbc ?_ | refine Qbo (ht := fun q => ?_) (hf := fun q => ?_) | refine Qbj ?_ | refine Qbi ?_ | ((fail_if_success show ASeq _ _ _ _ ⟨_, (_, .d (.v (.bool true))) :: _, _⟩); (fail_if_success show ASeq _ _ _ _ ⟨_, (_, .d (.v (.bool false))) :: _, _⟩); refine splitS (fun q => ?_) (fun q => ?_))))
 all_goals try (exfalso; simp only [decide_eq_true_eq, decide_eq_false_iff_not] at *; omega)
 refine Qby (fun m st => ∃ (k : Nat) (c : Int), 0 < k /\ k <= l.length /\ m = l.length - k + 1 /\ Hid (c = Pl.maxL (l.take k)) /\
  st = ⟨25, [(0, .d (dInts l)), (3, .d (dI c)), (4, .d (dI k))], []⟩) [0, 3, 4] 0 l.length ⟨1, x0, by decide, by omega, by omega, Pm.hid hfin.out.symm, by simp [keepE, go_sem]⟩ (round := ?_)
 rintro m st ⟨k, c, hk0, hk, rfl, hc, rfl⟩
 (repeat (first | refine e1 (k := ?_) | refine Qbd ?_ | refine Qbf ?_ | refine Qbc ?_ | fail))
 cases q4 : decide ((k : Int) < (l.length : Int))
 ·(repeat' (first | refine e1 (k := ?_) | refine Qbd ?_ | refine Qbf ?_ | refine Qbc ?_ | refine Qbm (hf := ?_) | refine Qbq ?_ | fail))
  refine Qbn (hx := ?_);have : k = l.length := by simp at q4; omega
  subst this;rw [hc.out, List.take_length]
 have hk2 : k < l.length := by simp at q4; omega
 obtain ⟨y, hy⟩ : ∃ y, l[k]? = some y := ⟨_, List.getElem?_eq_getElem hk2⟩;have hr := Qbx (f := fun n => [dI n]) hy;have hstep := Pm.hid (hd.out k y hk0 hy);clear hd hy
 (repeat' (first | refine e1 (k := ?_) | refine stepS (Qbh Ty.h rfl Ty.h rfl rfl rfl (by omega) hr) (k := ?_) | refine stepS (Qls rfl rfl) (k := ?_) | refine stepS (Qbs rfl rfl (by omega)) (k := ?_) | refine Qbp ?_ | refine Qb0 ?_ | refine Qbf ?_ | refine Qbc ?_ | refine Qbl (ht := ?_) | refine Qbj ?_ | refine Qbi ?_ | fail))
 exact Qbt (l.length - (k + 1) + 1) (by omega) ⟨k + 1, Pl.maxI c y, by omega, by omega, rfl, Pm.hid (by rw [hstep.out, hc.out]), by simp [keepE, go_sem, Pl.maxI]⟩
def Pl.QaP (refs : List Int) (most : Int) (p : Pl.Ptr) : Bool := Pl.ptrOk p && !Pl.ptrHole p && decide (p.birth <= most) && !(refs.getD p.pat.toNat 0 == 0)
def Pl.QaC (m : List Int) (p : Pl.Ptr) : List Int := m.set p.pat.toNat (m.getD p.pat.toNat 0 + 1)
def Pl.cntP (refs : List Int) (most : Int) : List Pl.Ptr -> List Int -> Bool × List Int
 |[], m => (true, m)
 |p :: l, m => if Pl.QaP refs most p then Pl.cntP refs most l (Pl.QaC m p) else (false, m)
theorem QhD (m : List Int) (p : Pl.Ptr) : (Pl.QaC m p).length = m.length := by simp [Pl.QaC]
theorem Qkg {m : List Int} {M : Int} (h0 : 0 <= M) (h : ∀ y ∈ m, 0 <= y /\ y <= M) (i : Nat) : 0 <= m.getD i 0 /\ m.getD i 0 <= M := by
 rw [List.getD_eq_getElem?_getD];cases hi : m[i]? with
 |none => exact ⟨Int.le_refl _, h0⟩
 |some y => exact h y (List.mem_of_getElem? hi)
theorem Qf3 {m : List Int} {M : Int} (h0 : 0 <= M) (h : ∀ y ∈ m, 0 <= y /\ y <= M) (p : Pl.Ptr) : ∀ y ∈ Pl.QaC m p, 0 <= y /\ y <= M + 1 := by
 intro y hy;rcases List.mem_or_eq_of_mem_set hy with hy | rfl
 ·have := h y hy; omega
 ·have := Qkg h0 h p.pat.toNat; omega
theorem QdG (refs : List Int) (most : Int) : ∀ (l : List Pl.Ptr) (m : List Int) (M : Int), 0 <= M -> (∀ y ∈ m, 0 <= y /\ y <= M) -> (Pl.cntP refs most l m).2.length = m.length /\ ∀ y ∈ (Pl.cntP refs most l m).2, 0 <= y /\ y <= M + l.length
 |[], m, M, h0, h => ⟨rfl, fun y hy => by have := h y hy; simp; omega⟩
 |p :: l, m, M, h0, h => by
  unfold Pl.cntP;split
  ·obtain ⟨h1, h2⟩ := QdG refs most l (Pl.QaC m p) (M + 1) (by omega) (Qf3 h0 h p)
   exact ⟨h1.trans (QhD m p), fun y hy => by have := h2 y hy; rw [List.length_cons]; omega⟩
  ·exact ⟨rfl, fun y hy => by have := h y hy; rw [List.length_cons]; omega⟩
theorem QlK {α : Type} {l : List α} {j : Nat} {x : α} (h : l[j]? = some x) : l.drop j = x :: l.drop (j + 1) := QeQ h
theorem bCount (s : Pm.Store) (hr64 : s.2.1.1.length = 64) (l : List Pl.Ptr) (hl : l.length <= 1000000000000) (most : Int) (m0 : List Int) (hm : m0.length = 64) (hb : ∀ y ∈ m0, 0 <= y /\ y <= 1000000000000) (g : Nat) :
 Does Tryz.prog 217 [.d (dPtrs l), .d (dI most), .d (.pd (rSt s)), .ptr 0 0 0] [.row 0 [.osl 1 g 0 64], .arr g 1 3 (m0.map fun n => [dI n])] [.ptr 0 0 0, .osl 1 g 0 64]
  (.d (dB (Pl.cntP s.2.1.1 most l m0).1)) [.row 0 [.osl 1 g 0 64], .arr g 1 3 ((Pl.cntP s.2.1.1 most l m0).2.map fun n => [dI n])] := by
 have hfl := (QdG s.2.1.1 most l m0 1000000000000 (by decide) hb).1;have hc : Hid (Pl.cntP s.2.1.1 most l m0 = Pl.cntP s.2.1.1 most (l.drop 0) m0) := Pm.hid rfl;obtain ⟨res, hres⟩ : ∃ res, res = Pl.cntP s.2.1.1 most l m0 := ⟨_, rfl⟩;rw [<- hres] at hc hfl ⊢;clear hres;refine Qb9 Tryz.func217 rfl Tryz.ntmps217 Tryz.results217 rfl rfl ?hpin (fun gvs => ?_)
 case hpin =>
  intro i C hC
  match i, hC with
  |0, hC => obtain rfl := Option.some.inj hC; exact ⟨_, rfl, .inr ⟨rfl, 0, by simp⟩⟩
  |1, hC => obtain rfl := Option.some.inj hC; exact ⟨_, rfl, rfl, rfl, .inr ⟨rfl, by simp [hfl], 0, 64, by simp⟩⟩
 simp only [parA, gslot, Nat.zero_add, Nat.reduceAdd];clear hfl
 (repeat' (first | refine e1 (k := ?_) | refine Qbd ?_ | refine Qbf ?_ | refine Qbc ?_ | refine Qbi ?_ | fail))
 refine Qby (fun n st => ∃ (k : Nat) (m : List Int), k <= l.length /\ n = l.length - k /\ m.length = 64 /\ (∀ y ∈ m, 0 <= y /\ y <= 1000000000000 + (k : Int)) /\ Hid (res = Pl.cntP s.2.1.1 most (l.drop k) m) /\
  st = ⟨46, [(9, .d (dPtrs l)), (10, .d (dI l.length)), (11, .d (dI k)), (1, .d (dI most)), (2, .d (.pd (rSt s))), (3, .ptr 0 0 0), (1000000, .gh [.ptr 0 0 0, .osl 1 g 0 64] gvs)], [.row 0 [.osl 1 g 0 64], .arr g 1 3 (m.map fun n => [dI n])]⟩)
  [9, 10, 11, 1, 2, 3, 1000000] 2 l.length ⟨0, m0, by omega, rfl, hm, fun y hy => by have := hb y hy; omega, hc, by simp [keepE, go_sem]⟩ (round := ?_)
 rintro n st ⟨k, m, hk, rfl, hm2, hb2, hR, rfl⟩
 (repeat (first | refine e1 (k := ?_) | refine Qbd ?_ | refine Qbf ?_ | refine Qbc ?_ | fail))
 cases q4 : decide ((k : Int) < (l.length : Int))
 ·(repeat' (first | refine e1 (k := ?_) | refine Qbd ?_ | refine Qbf ?_ | refine Qbc ?_ | refine Qbm (hf := ?_) | refine Qbq ?_ | fail))
  have : k = l.length := by simp at q4; omega
  subst this;rw [List.drop_length] at hR;refine Qcm [6, 1000000] 2 (h := ?_);refine QbN (hx := ?_) (hH := ?_) <;> rw [hR.out] <;> rfl
 have hk2 : k < l.length := by simp at q4; omega
 obtain ⟨x, hx⟩ : ∃ x, l[k]? = some x := ⟨_, List.getElem?_eq_getElem hk2⟩;have hr := Qbx (f := rPtr) hx;rw [QlK hx] at hR;have hs1 : Hid (Pl.QaP s.2.1.1 most x = false -> res = (false, m)) := Pm.hid fun h => by rw [hR.out, Pl.cntP, if_neg (by rw [h]; simp)]
 have hs2 : Hid (Pl.QaP s.2.1.1 most x = true -> res = Pl.cntP s.2.1.1 most (l.drop (k + 1)) (Pl.QaC m x)) := Pm.hid fun h => by rw [hR.out, Pl.cntP, if_pos h]
 have c1 := bPtrOk x;have c2 := Qc6 x;have hok : Hid (Pl.QaP s.2.1.1 most x = (Pl.ptrOk x && !Pl.ptrHole x && decide (x.birth <= most) && !(s.2.1.1.getD x.pat.toNat 0 == 0))) := Pm.hid rfl
 by_cases hgood : Pl.ptrOk x = true /\ Pl.ptrHole x = false /\ x.birth <= most
 rotate_left
 ·have hbad := Pm.hid (hs1.out (by
   rw [hok.out]
   by_cases a1 : Pl.ptrOk x = true
   ·by_cases a2 : Pl.ptrHole x = false
    ·have a3 : ¬ x.birth <= most := fun a3 => hgood ⟨a1, a2, a3⟩
     simp [a3]
    ·have : Pl.ptrHole x = true := by simpa using a2
     simp [this]
   ·have : Pl.ptrOk x = false := by simpa using a1
    simp [this]))
  clear hs1 hs2 hok hR hx;generalize Pl.ptrOk x = okp at *
  generalize Pl.ptrHole x = hop at *
  (repeat' (first | refine e1 (k := ?_) | refine e0 (k := ?_) | refine stepS (Qbe Tryz.call218 c1 rfl) (k := ?_) | refine stepS (Qbe Tryz.call199 c2 rfl) (k := ?_) | refine stepS (Qbh Ty.h rfl Ty.h rfl rfl rfl (by omega) hr) (k := ?_) | refine Qbu (kk := ?_) | refine Qbd ?_ | refine Qbf ?_ | refine Qbc ?_ | refine Qbl (ht := ?_) | refine Qbj ?_ | refine Qbi ?_ | refine e2 (k := ?_) | ((fail_if_success show ASeq _ _ _ _ ⟨_, (_, .d (.v (.bool true))) :: _, _⟩); (fail_if_success show ASeq _ _ _ _ ⟨_, (_, .d (.v (.bool false))) :: _, _⟩); refine splitS (fun q => ?_) (fun q => ?_))))
  all_goals first
   |(exfalso; clear hbad; simp only [decide_eq_true_eq, decide_eq_false_iff_not] at *; simp_all; omega)
   |(exfalso; clear hbad; simp_all; done)
   |(refine Qcm [6, 1000000] 2 (h := ?_)
     refine QbN (hx := ?_) (hH := ?_) <;> rw [hbad.out] <;> done)
 obtain ⟨a1, a2, a3⟩ := hgood;have hat := Qdi a1 a2;obtain ⟨j, hj⟩ := Int.eq_ofNat_of_zero_le hat.1;have hj64 : j < 64 := by omega
 obtain ⟨rf, hrf⟩ : ∃ rf, s.2.1.1[j]? = some rf := ⟨_, List.getElem?_eq_getElem (by omega)⟩;obtain ⟨mv, hmv⟩ : ∃ mv, m[j]? = some mv := ⟨_, List.getElem?_eq_getElem (by omega)⟩;have hrr := Qbx (f := fun n => [dI n]) hrf;have hmr := Qbx (f := fun n => [dI n]) hmv;have hmb := hb2 mv (List.mem_of_getElem? hmv)
 have hok2 : Hid (Pl.QaP s.2.1.1 most x = !(rf == 0)) := Pm.hid (by
  rw [hok.out, a1, a2, decide_eq_true a3, hj, Int.toNat_natCast, List.getD_eq_getElem?_getD, hrf]; rfl)
 have hbu : Hid (Pl.QaC m x = m.set j (mv + 1)) := Pm.hid (by unfold Pl.QaC; rw [hj, Int.toNat_natCast, List.getD_eq_getElem?_getD, hmv]; rfl);have hbb := Qf3 (M := 1000000000000 + (k : Int)) (by omega) hb2 x;rw [a1] at c1;rw [a2] at c2;rw [<- hj] at hrr hmr;have hmr2 : (m.map fun n => [dI n])[0 + x.pat.toNat]? = some [dI mv] := by rw [Nat.zero_add]; exact hmr
 clear hR hok hx hrf hmv a1 a2;generalize Pl.QaP s.2.1.1 most x = ck at *
 generalize Pl.QaC m x = bm at *
 (repeat' (first | refine e1 (k := ?_) | refine e0 (k := ?_) | refine stepS (Qbe Tryz.call218 c1 rfl) (k := ?_) | refine stepS (Qbe Tryz.call199 c2 rfl) (k := ?_) | refine stepS (Qbh Ty.h rfl Ty.h rfl rfl rfl (by omega) hr) (k := ?_) | refine stepS (Qbh Ty.h rfl Ty.h rfl rfl rfl (by omega) hrr) (k := ?_) | refine stepS (Qb4 Ty.h rfl Ty.h rfl rfl rfl rfl (by omega) (by omega)) (k := ?_) | refine stepS (QbK Ty.h rfl rfl hmr2 rfl) (k := ?_) | refine stepS (Qbs rfl rfl (by omega)) (k := ?_) | refine (Qce Ty.h rfl rfl hmr2 rfl (kk := ?_)) | refine Qbu (kk := ?_) | refine Qbd ?_ | refine Qbp ?_ | refine Qb0 ?_ | refine Qbf ?_ | refine Qbc ?_ | refine Qbl (ht := ?_) | refine Qbo (ht := fun q => ?_) (hf := fun q => ?_) | refine Qbj ?_ | refine Qbi ?_ | refine e2 (k := ?_) | ((fail_if_success show ASeq _ _ _ _ ⟨_, (_, .d (.v (.bool true))) :: _, _⟩); (fail_if_success show ASeq _ _ _ _ ⟨_, (_, .d (.v (.bool false))) :: _, _⟩); refine splitS (fun q => ?_) (fun q => ?_))))
 all_goals first
  |(exfalso; simp only [decide_eq_true_eq, decide_eq_false_iff_not] at *; omega)
  |(refine Qcm [6, 1000000] 2 (h := ?_)
    refine QbN (hx := ?_) (hH := ?_) <;> rw [hs1.out (by rw [hok2.out]; simp_all)] <;> done)
  |(refine Qbt (l.length - (k + 1)) (by omega) ⟨k + 1, bm, by omega, rfl, by rw [hbu.out]; simpa using hm2, fun y hy => by have := hbb y hy; omega, Pm.hid (hs2.out (by rw [hok2.out]; simp_all)), ?_⟩
    rw [hbu.out, List.map_set]
    simp [keepE, go_sem, hj]; done)
end Aw
end
section
namespace Aw
def Pl.cntQ (refs : List Int) : List (Pl.Ptr × Int) -> List Int -> Bool × List Int
 |[], m => (true, m)
 |(p, top) :: l, m => if Pl.QaP refs top p then Pl.cntQ refs l (Pl.QaC m p) else (false, m)
theorem QlW (refs : List Int) (most : Int) : ∀ (l : List Pl.Ptr) (m : List Int), Pl.cntP refs most l m = Pl.cntQ refs (l.map fun p => (p, most)) m
 |[], m => rfl
 |p :: l, m => by unfold Pl.cntP; rw [List.map_cons, Pl.cntQ, QlW refs most l]
theorem Qf2 (refs : List Int) (l2 : List (Pl.Ptr × Int)) : ∀ (l1 : List (Pl.Ptr × Int)) (m : List Int), Pl.cntQ refs (l1 ++ l2) m = if (Pl.cntQ refs l1 m).1 then Pl.cntQ refs l2 (Pl.cntQ refs l1 m).2 else Pl.cntQ refs l1 m
 |[], m => rfl
 |(p, top) :: l, m => by
  rw [List.cons_append, Pl.cntQ, Pl.cntQ];split
  ·exact Qf2 refs l2 l _
  ·rfl
theorem Qg0 (m : List Int) (j i : Nat) (v : Int) (hj : j < m.length) : (m.set j v).getD i 0 = if j = i then v else m.getD i 0 := by
 rw [List.getD_eq_getElem?_getD, List.getD_eq_getElem?_getD];split
 ·rename_i h; subst h; rw [List.getElem?_set_self hj]; rfl
 ·rename_i h; rw [List.getElem?_set_ne h]
theorem Qkp (m : List Int) (p : Pl.Ptr) (i : Nat) : m.getD i 0 <= (Pl.QaC m p).getD i 0 := by
 unfold Pl.QaC
 by_cases hj : p.pat.toNat < m.length
 ·rw [Qg0 _ _ _ _ hj]; split
  ·rename_i h; subst h; omega
  ·exact Int.le_refl _
 ·rw [List.set_eq_of_length_le (by omega)]; exact Int.le_refl _
theorem QhB (refs : List Int) (i : Nat) : ∀ (l : List (Pl.Ptr × Int)) (m : List Int), m.getD i 0 <= (Pl.cntQ refs l m).2.getD i 0
 |[], m => Int.le_refl _
 |(p, top) :: l, m => by
  unfold Pl.cntQ;split
  ·exact Int.le_trans (Qkp m p i) (QhB refs i l _)
  ·exact Int.le_refl _
theorem QgQ {refs : List Int} : ∀ (l : List (Pl.Ptr × Int)) (m : List Int), m.length = 64 -> (∀ i, i < 64 -> 0 <= m.getD i 0 /\ m.getD i 0 <= refs.getD i 0) ->
 Pl.QaK refs l m = ((Pl.cntQ refs l m).1 && (List.range 64).all fun i => decide ((Pl.cntQ refs l m).2.getD i 0 <= refs.getD i 0))
 |[], m, _, h => by
  unfold Pl.QaK Pl.cntQ;rw [Bool.true_and, eq_comm, List.all_eq_true];intro i hi;exact decide_eq_true (h i (List.mem_range.1 hi)).2
 |(p, top) :: l, m, hm, h => by
  unfold Pl.QaK Pl.cntQ;cases hc : Pl.QaP refs top p
  ·simp only [Bool.false_eq_true, if_false, Bool.false_and]
   unfold Pl.QaP at hc
   by_cases hz : refs.getD p.pat.toNat 0 = 0
   ·by_cases h1 : (Pl.ptrOk p && !Pl.ptrHole p) = true
    ·simp only [Bool.and_eq_true, Bool.not_eq_true'] at h1
     have hp := Qdi h1.1 h1.2;have h2 := (h p.pat.toNat (by omega)).1;have : decide (m.getD p.pat.toNat 0 + 1 <= refs.getD p.pat.toNat 0) = false := decide_eq_false (by omega);rw [this]; simp
    ·have : (Pl.ptrOk p && !Pl.ptrHole p) = false := by simpa using h1
     rw [this]; rfl
   ·have hz2 : (refs.getD p.pat.toNat 0 == 0) = false := by simpa using hz
    rw [hz2, Bool.not_false, Bool.and_true] at hc;rw [hc]; rfl
  ·simp only [if_true]
   unfold Pl.QaP at hc;simp only [Bool.and_eq_true, Bool.not_eq_true'] at hc;obtain ⟨⟨⟨h1, h2⟩, h3⟩, h4⟩ := hc;have hp := Qdi h1 h2;have hb := h p.pat.toNat (by omega);have hlt : p.pat.toNat < m.length := by omega
   rw [h1, h2, h3];simp only [Bool.not_false, Bool.true_and]
   by_cases hle : m.getD p.pat.toNat 0 + 1 <= refs.getD p.pat.toNat 0
   ·rw [decide_eq_true hle, Bool.true_and]
    refine QgQ l (Pl.QaC m p) ((QhD m p).trans hm) fun i hi => ?_
    have := h i hi;unfold Pl.QaC;rw [Qg0 _ _ _ _ hlt];split
    ·rename_i e; subst e; omega
    ·exact this
   ·rw [decide_eq_false hle, Bool.false_and]
    have hbad : ((List.range 64).all fun i => decide ((Pl.cntQ refs l (Pl.QaC m p)).2.getD i 0 <= refs.getD i 0)) = false := by
     rw [List.all_eq_false];refine ⟨p.pat.toNat, List.mem_range.2 (by omega), ?_⟩;have h5 := QhB refs p.pat.toNat l (Pl.QaC m p);have h6 : (Pl.QaC m p).getD p.pat.toNat 0 = m.getD p.pat.toNat 0 + 1 := by unfold Pl.QaC; rw [Qg0 _ _ _ _ hlt, if_pos rfl]
     simp only [decide_eq_true_eq]; omega
    rw [hbad, Bool.and_false]
def Pl.owes (s : Pm.Store) : Bool :=
 (Pl.cntP s.2.1.1 (s.2.2.1 - 1) s.2.2.2.1 (List.replicate 64 0)).1 && (Pl.cntP s.2.1.1 s.2.2.2.2.1 s.2.2.2.2.2.1 (Pl.cntP s.2.1.1 (s.2.2.1 - 1) s.2.2.2.1 (List.replicate 64 0)).2).1 &&
   (List.range 64).all fun i => decide ((Pl.cntP s.2.1.1 s.2.2.2.2.1 s.2.2.2.2.2.1 (Pl.cntP s.2.1.1 (s.2.2.1 - 1) s.2.2.2.1 (List.replicate 64 0)).2).2.getD i 0 <= s.2.1.1.getD i 0)
theorem QjQ {s : Pm.Store} (h : ∀ i, i < 64 -> 0 <= s.2.1.1.getD i 0) : Pl.QaK s.2.1.1 (Pl.owed s) (List.replicate 64 0) = Pl.owes s := by
 have hz : ∀ i, i < 64 -> (List.replicate 64 (0 : Int)).getD i 0 = 0 := fun i hi => by
  rw [List.getD_eq_getElem?_getD, List.getElem?_replicate, if_pos hi]; rfl
 rw [QgQ _ _ (by simp) fun i hi => by rw [hz i hi]; exact ⟨Int.le_refl _, h i hi⟩];unfold Pl.owed Pl.owes;rw [Qf2, <- QlW, <- QlW];generalize Pl.cntP s.2.1.1 (s.2.2.1 - 1) s.2.2.2.1 (List.replicate 64 0) = r1;obtain ⟨b1, m1⟩ := r1;cases b1
 ·simp only [Bool.false_eq_true, if_false, Bool.false_and]
 ·simp only [if_true, Bool.true_and]
theorem QjE {s : Pm.Space} (h : Pl.spaceOk s = true) : ∀ i, i < 64 -> 0 <= s.1.getD i 0 := by
 intro i hi;unfold Pl.spaceOk at h;simp only [Bool.and_eq_true, List.all_eq_true] at h;have := h.2 i (List.mem_range.2 hi);unfold Pl.QbQ Pl.QbZ at this;simp only [Bool.and_eq_true] at this;have := this.1.1.2;simp [Pl.inR] at this;exact this.1
end Aw
end
section
open Go.RowKit
namespace Aw
attribute [local irreducible] ASeq ADraw AWP Loc
noncomputable def Pl.atN (l : List (List UInt8)) (k : Int) : Pl.Node × Bool := if Pl.inR k 0 ((l.length : Int) - 1) && !(l.getD k.toNat [] == []) then ((Pl.ng (l.getD k.toNat [])).1, true) else (Pl.zn, false)
theorem bNodeAt (l : List (List UInt8)) (k : Int) (hl : l.length <= 1000) : Pure Tryz.prog 262 [tNds l, dI k] (.tup [dNode (Pl.atN l k).1, dB (Pl.atN l k).2]) := by
 have hd : Hid (Pl.atN l k = if Pl.inR k 0 ((l.length : Int) - 1) && !(l.getD k.toNat [] == []) then ((Pl.ng (l.getD k.toNat [])).1, true) else (Pl.zn, false)) := Pm.hid rfl;have c1 := bIn k 0 ((l.length : Int) - 1);cases hi : Pl.inR k 0 ((l.length : Int) - 1)
 ·rw [hi] at c1 hd
  (refine Qb2 Tryz.func262 rfl Tryz.ntmps262 Tryz.results262 rfl ?_; simp only [parE, Nat.zero_add, Nat.reduceAdd])
  (repeat' (first | refine e1 (k := ?_) | refine e0 (k := ?_) | refine stepS (Qbe Tryz.call45 c1 rfl) (k := ?_) | refine stepS (QbB rfl rfl (by omega)) (k := ?_) | refine Qbu (kk := ?_) | refine Qbd ?_ | refine Qbf ?_ | refine Qbc ?_ | refine Qbl (ht := ?_) | refine e2 (k := ?_) | fail))
  (refine Qbg 0 (h := ?_); refine QbA (hx := ?_))
  rw [hd.out]; rfl
 rw [hi] at c1 hd;have hb : 0 <= k /\ k <= (l.length : Int) - 1 := by simpa [Pl.inR] using hi
 obtain ⟨j, rfl⟩ := Int.eq_ofNat_of_zero_le hb.1;obtain ⟨x, hx⟩ : ∃ x, l[j]? = some x := ⟨_, List.getElem?_eq_getElem (by omega)⟩;have hr := Qbx (f := fun x => [Pl.ndD x]) hx;have hg : l.getD ((j : Nat) : Int).toNat [] = x := by rw [Int.toNat_natCast, List.getD_eq_getElem?_getD, hx]; rfl
 rw [hg] at hd
 by_cases hn : x = []
 ·have e : Pl.ndD x = .v (.pointer none) := by unfold Pl.ndD; rw [if_pos hn]
  rw [e] at hr
  (refine Qb2 Tryz.func262 rfl Tryz.ntmps262 Tryz.results262 rfl ?_; simp only [parE, Nat.zero_add, Nat.reduceAdd])
  (repeat' (first | refine e1 (k := ?_) | refine stepS (Qbe Tryz.call45 c1 rfl) (k := ?_) | refine stepS (Qbh Ty.h rfl Ty.h rfl rfl rfl (by omega) hr) (k := ?_) | refine stepS (QdT Tryz.underlying261 rfl) (k := ?_) | refine stepS (QbB rfl rfl (by omega)) (k := ?_) | refine Qbu (kk := ?_) | refine Qbd ?_ | refine Qbf ?_ | refine Qbc ?_ | refine Qbl (ht := ?_) | refine e2 (k := ?_) | fail))
  all_goals
   (refine Qbg 0 (h := ?_); refine QbA (hx := ?_))
   rw [hd.out, hn]; rfl
 have e : Pl.ndD x = .pd (rNode (Pl.ng x).1) := by unfold Pl.ndD; rw [if_neg hn]
 rw [e] at hr;have hnb : (x == []) = false := by simpa using hn
 rw [hnb] at hd;generalize (Pl.ng x).1 = N at *
 obtain ⟨kind, links, size, ⟨⟨p1, p2, p3, p4, p5⟩, depth, many⟩⟩ := N
 (refine Qb2 Tryz.func262 rfl Tryz.ntmps262 Tryz.results262 rfl ?_; simp only [parE, Nat.zero_add, Nat.reduceAdd])
 (repeat' (first | refine e1 (k := ?_) | refine stepS (Qbe Tryz.call45 c1 rfl) (k := ?_) | refine stepS (Qbh Ty.h rfl Ty.h rfl rfl rfl (by omega) hr) (k := ?_) | refine stepS (QcJ Tryz.underlying261 rfl) (k := ?_) | refine stepS (QbF rfl) (k := ?_) | refine stepS (QbB rfl rfl (by omega)) (k := ?_) | refine Qbu (kk := ?_) | refine Qbd ?_ | refine Qbf ?_ | refine Qbc ?_ | refine Qbm (hf := ?_) | refine Qbj ?_ | refine e2 (k := ?_) | fail))
 all_goals
  (refine Qbg 0 (h := ?_); refine QbA (hx := ?_))
  rw [hd.out]; rfl
theorem QlY {l : List (List UInt8)} {k : Nat} {x : List UInt8} (hx : l[k]? = some x) (h : (List.range k).all (Pl.Qav l) = true) (hb : Pl.Qav l k = true) : (List.range (k + 1)).all (Pl.Qav l) = true := by
 rw [List.range_succ, List.all_append, h]; simpa using hb
theorem Ql9 {l : List (List UInt8)} {k : Nat} {x : List UInt8} (hx : l[k]? = some x) : (l.take (k + 1)).flatten = (l.take k).flatten ++ x := by
 rw [List.take_add_one, hx, List.flatten_append]; simp
theorem QlA {m : Nat} : ∀ {l : List (List UInt8)}, (∀ x ∈ l, x.length <= m) -> l.flatten.length <= l.length * m
 |[], _ => by simp
 |x :: l, h => by
  have := QlA fun y hy => h y (List.mem_cons_of_mem _ hy)
  have := h x List.mem_cons_self;rw [List.flatten_cons, List.length_append, List.length_cons, Nat.add_mul]; omega
noncomputable def Pl.QaO (s : Pm.Store) (n : Pl.Node) : List UInt8 × Bool := if Pl.Qaf s n.tree && (Pl.blob (Pl.Qaa s n.tree)).2 then ((Pl.blob (Pl.Qaa s n.tree)).1, decide (((Pl.blob (Pl.Qaa s n.tree)).1.length : Int) = n.size)) else ([], false)
theorem QiC (s : Pm.Store) (hg : Pl.Good s) (htx : 0 <= s.2.2.1) (n : Pl.Node) : Pure Tryz.prog 264 [.pd (rSt s), dNode n] (.tup [dS (Pl.QaO s n).1, dB (Pl.QaO s n).2]) := by
 have c1 := bLeaves s hg htx n.tree;have hd : Hid (Pl.QaO s n = if Pl.Qaf s n.tree && (Pl.blob (Pl.Qaa s n.tree)).2 then ((Pl.blob (Pl.Qaa s n.tree)).1, decide (((Pl.blob (Pl.Qaa s n.tree)).1.length : Int) = n.size)) else ([], false)) := Pm.hid rfl;cases ht : Pl.Qaf s n.tree
 ·have e : Pl.Qae s n.tree = ([], false) := by unfold Pl.Qae; rw [if_neg (by rw [ht]; simp)]
  rw [e] at c1;rw [ht] at hd
  (refine Qbk Tryz.func264 rfl Tryz.ntmps264 Tryz.results264 rfl ?_; simp only [parE, Nat.zero_add, Nat.reduceAdd])
  (refine Qbf (Qbc ?_); (repeat (first | refine e1 (k := ?_) | refine e2 (k := ?_) | fail)); refine Qbd ?_)
  refine Qbg 0 (h := ?_)
  (repeat' (first | refine e1 (k := ?_) | refine stepS (Qbe Tryz.call148 c1 rfl) (k := ?_) | refine Qbd ?_ | refine Qbf ?_ | refine Qbc ?_ | refine Qbl (ht := ?_) | fail))
  refine Qbn (hx := ?_);rw [hd.out]; rfl
 have e2 : (Pl.Qae s n.tree).2 = true := by unfold Pl.Qae; rw [if_pos ht]
 have hlen := Qcr ht;have hho := Pm.hid (QcK ht);have htx2 := Pm.hid (Qc4 ht);rw [ht, Bool.true_and] at hd;rw [e2] at c1;rw [<- hlen.1] at hlen;generalize (Pl.Qae s n.tree).1 = l at *
 have hl16 : l.length <= 16 := hlen.2;have htl : (Pl.Qaa s n.tree).length = l.length := by rw [<- htx2.out, List.length_map]
 have hle := texts_le s hg n.tree;have hgt : Hid (∀ (k : Nat) p, l[k]? = some p -> (Pl.Qaa s n.tree)[k]? = some (Pl.rd s.1 p).1) := Pm.hid fun k p hk => by rw [<- htx2.out, List.getElem?_map, hk]; rfl
 clear htx2 hlen e2 ht;generalize Pl.Qaa s n.tree = xs at *
 have hbl : Hid (Pl.blob xs = if (List.range xs.length).all (Pl.Qav xs) then (xs.flatten, true) else ([], false)) := Pm.hid rfl
 have hNo : Hid (∀ k, k < l.length -> Pl.Qav xs k = false -> Pl.QaO s n = ([], false)) := Pm.hid fun k hk h => by
  have : (List.range xs.length).all (Pl.Qav xs) = false := by rw [List.all_eq_false]; exact ⟨k, List.mem_range.2 (by omega), by rw [h]; simp⟩
  rw [hd.out, hbl.out, this]; rfl
 generalize Pl.blob xs = bl at *
 generalize hres : Pl.QaO s n = res at *
 clear hres
 (refine Qbk Tryz.func264 rfl Tryz.ntmps264 Tryz.results264 rfl ?_; simp only [parE, Nat.zero_add, Nat.reduceAdd])
 (refine Qbf (Qbc ?_); (repeat (first | refine e1 (k := ?_) | refine e2 (k := ?_) | fail)); refine Qbd ?_)
 refine Qbg 0 (h := ?_)
 (repeat' (first | refine e1 (k := ?_) | refine stepS (Qbe Tryz.call148 c1 rfl) (k := ?_) | refine Qbd ?_ | refine Qbf ?_ | refine Qbc ?_ | refine Qbm (hf := ?_) | refine Qbj ?_ | refine Qbi ?_ | fail))
 refine Qby (fun m st => ∃ (k : Nat) (acc : List UInt8), k <= l.length /\ m = l.length - k /\ acc.length <= k * 128 /\ Hid (acc = (xs.take k).flatten) /\ Hid ((List.range k).all (Pl.Qav xs) = true) /\
  st = ⟨59, [(0, .d (.pd (rSt s))), (3, .d (.pd (rNode n))), (6, .d (tPtrs l)), (22, .d (tPtrs l)), (23, .d (dI l.length)), (24, .d (dI k)), (8, .d (dS acc))], [.row 1 []]⟩) [0, 3, 6, 22, 23, 24, 8] 1 l.length
  ⟨0, [], by omega, rfl, by simp, Pm.hid (by simp), Pm.hid rfl, by simp [keepE, go_sem]⟩ (round := ?_)
 rintro m st ⟨k, acc, hk, rfl, hal, hac, hA, rfl⟩
 (repeat (first | refine e1 (k := ?_) | refine Qbd ?_ | refine Qbf ?_ | refine Qbc ?_ | fail))
 cases q4 : decide ((k : Int) < (l.length : Int))
 ·(repeat' (first | refine f1 (k := ?_) | refine Qbr ?_ | refine Qbf ?_ | refine Qb1 follows_mixed (by kernel_rfl) (by kernel_rfl) ?_ | refine Qbm (hf := ?_) | refine Qbq ?_ | fail))
  refine Qbn (hx := ?_);have : k = l.length := by simp at q4; omega
  subst this;rw [<- htl] at hA hac;rw [hd.out, hbl.out, if_pos hA.out];rw [List.take_length] at hac;rw [hac.out];simp only [Bool.true_and, if_true];rfl
 have hk2 : k < l.length := by simp at q4; omega
 obtain ⟨x, hx⟩ : ∃ x, l[k]? = some x := ⟨_, List.getElem?_eq_getElem hk2⟩;have hr := Qbx (f := rPtr) hx;obtain ⟨ho1, ho2⟩ := hho.out x (List.mem_of_getElem? hx);have c3 := bRead s hg x fun _ => ho1
 have hxk := hgt.out k x hx;have hxl := hle _ (List.mem_of_getElem? hxk);have hstep := Pm.hid (Ql9 hxk);have hball : Hid (Pl.Qav xs k = true -> (List.range (k + 1)).all (Pl.Qav xs) = true) := Pm.hid (QlY hxk hA.out)
 have hbat : Hid (Pl.Qav xs k = (!((Pl.rd s.1 x).1 == []) && (!decide ((k : Int) < (l.length : Int) - 1) || !(((Pl.rd s.1 x).1.length : Int) != 128)))) := Pm.hid (by
  unfold Pl.Qav;rw [List.getD_eq_getElem?_getD, hxk, htl];simp only [Option.getD_some];generalize (Pl.rd s.1 x).1 = y
  have a1 : decide (k + 1 = l.length) = !decide ((k : Int) < (l.length : Int) - 1) := by
   by_cases h : k + 1 = l.length
   ·rw [decide_eq_true h, decide_eq_false (by omega)]; rfl
   ·rw [decide_eq_false h, decide_eq_true (by omega)]; rfl
  have a2 : decide (y.length = 128) = !((y.length : Int) != 128) := by
   by_cases h : y.length = 128
   ·rw [decide_eq_true h, h]; rfl
   ·have h2 : ((y.length : Int) != 128) = true := by rw [bne_iff_ne]; omega
    rw [decide_eq_false h, h2]; rfl
  rw [a1, a2])
 have hbad := Pm.hid (hNo.out k hk2);clear hho hgt hA hd hbl hNo hle hxk ho1 ho2;generalize Pl.Qav xs k = bk at *
 generalize Pl.rd s.1 x = rb at *
 obtain ⟨tx, fine⟩ := rb;simp only at *
 (repeat' (first | refine e1 (k := ?_) | refine e0 (k := ?_) | refine stepS (Qbe Tryz.call223 c3 rfl) (k := ?_) | refine stepS (Qbh Ty.h rfl Ty.h rfl rfl rfl (by omega) hr) (k := ?_) | refine stepS (QbJ rfl rfl (by first | omega | (simp; omega))) (k := ?_) | refine stepS (Qbs rfl rfl (by omega)) (k := ?_) | refine stepS (QbB rfl rfl (by omega)) (k := ?_) | refine stepS (Qcj rfl rfl) (k := ?_) | refine Qbu (kk := ?_) | refine Qbd ?_ | refine Qbp ?_ | refine Qb0 ?_ | refine Qbf ?_ | refine Qbc ?_ | refine Qbl (ht := ?_) | refine Qbo (ht := fun q => ?_) (hf := fun q => ?_) | refine Qbj ?_ | refine Qbi ?_ | refine e2 (k := ?_) | ((fail_if_success show ASeq _ _ _ _ ⟨_, (_, .d (.v (.bool true))) :: _, _⟩); (fail_if_success show ASeq _ _ _ _ ⟨_, (_, .d (.v (.bool false))) :: _, _⟩); refine splitS (fun q => ?_) (fun q => ?_))))
 all_goals clear c1 c3 hr
 all_goals first
  |(refine Qbn (hx := ?_)
    rw [hbad.out (by rw [hbat.out]; clear hball hbad hbat hstep hac; simp_all)])
  |(refine Qbt (l.length - (k + 1)) (by omega) ⟨k + 1, acc ++ tx, by omega, rfl, by rw [List.length_append]; omega, Pm.hid (by rw [hstep.out, hac.out]), Pm.hid (hball.out (by rw [hbat.out]; clear hball hbad hbat hstep hac; simp_all)), by simp [keepE, go_sem]⟩)
end Aw
end
section
open Go.RowKit
namespace Aw
def Pl.NmOk (mp : List (Int × D)) (nm : List Nat) : Prop := ∀ k : Nat, (mget mp (k : Int)).getD (.v (.int .i64 0)) = .v (.int .i64 (nm.count k : Nat))
theorem QmF : Pl.NmOk [] [] := fun k => by simp [mget]
theorem Qlf {mp : List (Int × D)} {nm : List Nat} (h : Pl.NmOk mp nm) (e : Nat) : Pl.NmOk (mset mp (e : Int) (.v (.int .i64 ((nm.count e : Int) + 1)))) (nm ++ [e]) := fun k => by
 by_cases hk : e = k
 ·subst hk
  rw [Qcv];simp [List.count_append]
 ·rw [Qdv (by omega), h k]
  simp [List.count_append, List.count_singleton, hk]
noncomputable abbrev Pl.Qab (x : List (List UInt8)) : List Pl.Node := x.map fun y => (Pl.ng y).1
def Pl.TxOk (x : List (List UInt8)) : Prop := ∀ y ∈ x, y = [] ∨ NodeB (Pl.ng y).1
theorem QcD {x : List (List UInt8)} (k : Nat) : (Pl.Qab x).getD k Pl.zn = (Pl.ng (x.getD k [])).1 := by
 rw [List.getD_eq_getElem?_getD, List.getD_eq_getElem?_getD, List.getElem?_map];cases x[k]? with
 |none => simp [Qlg]
 |some y => rfl
theorem QcP {x : List (List UInt8)} (h : Pl.TxOk x) (k : Nat) : x.getD k [] = [] /\ (Pl.Qab x).getD k Pl.zn = Pl.zn ∨ x.getD k [] ≠ [] /\ k < x.length /\ NodeB ((Pl.Qab x).getD k Pl.zn) := by
 rw [QcD]
 by_cases hy : x.getD k [] = []
 ·exact .inl ⟨hy, by rw [hy, Qlg]⟩
 ·refine .inr ⟨hy, ?_, ?_⟩
  ·rcases Nat.lt_or_ge k x.length with h1 | h1
   ·exact h1
   ·exfalso; apply hy; rw [List.getD_eq_getElem?_getD, List.getElem?_eq_none h1]; rfl
  ·rcases h (x.getD k []) (by
    rw [List.getD_eq_getElem?_getD] at hy ⊢;cases hh : x[k]? with
    |none => rw [hh] at hy; exact absurd rfl hy
    |some y => exact List.mem_of_getElem? hh) with h | h
   ·exact absurd h hy
   ·exact h
theorem Qei {x : List (List UInt8)} (h : Pl.TxOk x) (k : Nat) : Pl.Qad (Pl.Qab x) k = 0 ↔ x.getD k [] = [] := by
 unfold Pl.Qad;rcases QcP h k with ⟨h1, h2⟩ | ⟨h1, _, h2⟩
 ·rw [h2]; exact ⟨fun _ => h1, fun _ => rfl⟩
 ·have := h2.kind
  exact ⟨fun h3 => by omega, fun h3 => absurd h3 h1⟩
theorem QnK {x : List (List UInt8)} (h : Pl.TxOk x) (k : Nat) : Pl.atN x (k : Int) = if Pl.Qad (Pl.Qab x) k = 0 then (Pl.zn, false) else ((Pl.Qab x).getD k Pl.zn, true) := by
 unfold Pl.atN;rw [Int.toNat_natCast]
 by_cases hk : Pl.Qad (Pl.Qab x) k = 0
 ·rw [if_pos hk, (Qei h k).1 hk]; simp
 ·rw [if_neg hk]
  have hy := fun e => hk ((Qei h k).2 e)
  rcases QcP h k with ⟨h1, _⟩ | ⟨_, h2, _⟩
  ·exact absurd h1 hy
  ·rw [if_pos, QcD]
   rw [Bool.and_eq_true];refine ⟨by simp [Pl.inR]; omega, by simpa using hy⟩
def Pl.QaW (kind : Nat -> Nat) (ch : Nat -> Option (List Nat)) (links : Nat -> Nat) (n : Nat) : Bool :=
 match Gr.bfs kind ch (1 + Gr.left kind n []) [0] [] with
 |none => false
 |some nm => (List.range n).all fun k => decide (k = 0) || decide (kind k = 0) || decide (nm.count k = links k)
theorem QmL (kind : Nat -> Nat) (n : Nat) (nm : List Nat) : Gr.left kind n nm <= n := by
 unfold Gr.left;have := List.length_filter_le (fun k => decide (kind k = 2) && decide (nm.count k = 0)) (List.range n);rw [List.length_range] at this;exact this
theorem Qke {kind : Nat -> Nat} {e : Nat} {es t nm : List Nat} (h : kind e = 0) : Gr.inner kind (e :: es) t nm = none := by
 unfold Gr.inner; rw [if_pos h]
theorem Qkc {kind : Nat -> Nat} {e : Nat} {es t nm : List Nat} (h : kind e = 1) : Gr.inner kind (e :: es) t nm = Gr.inner kind es t (nm ++ [e]) := by
 conv => lhs; unfold Gr.inner
 rw [if_neg (by omega), if_neg (by omega)]
theorem Qkd {kind : Nat -> Nat} {e : Nat} {es t nm : List Nat} (h : kind e = 2) (hc : 0 < nm.count e) : Gr.inner kind (e :: es) t nm = none := by
 unfold Gr.inner; rw [if_neg (by omega), if_pos h, if_pos hc]
theorem Ql2 {kind : Nat -> Nat} {e : Nat} {es t nm : List Nat} (h : kind e = 2) (hc : nm.count e = 0) : Gr.inner kind (e :: es) t nm = Gr.inner kind es (t ++ [e]) (nm ++ [e]) := by
 conv => lhs; unfold Gr.inner
 rw [if_neg (by omega), if_pos h, if_neg (by omega)]
def Pl.QaI (size : Int) (k : Nat) (x : List UInt8) : Bool := (Pl.fill x (Pl.QaD size k)).2 && !(([0] : List UInt8).isSuffixOf x)
theorem QdW {n : Pl.Node} (h : Pl.Qak n = true) (hk : n.kind = 1) {k : Nat} (hm : (k : Int) < n.tree.many) : (k : Int) * 12 < n.size /\ n.size <= 192 := by
 unfold Pl.Qak at h;simp only [Bool.and_eq_true, beq_iff_eq, decide_eq_true_eq] at h;obtain ⟨⟨⟨⟨⟨h1, h2⟩, _⟩, _⟩, _⟩, _⟩ := h;have he : Pl.each n.kind = 12 := by rw [hk]; rfl
 unfold Pl.Qau at h1 h2;rw [he] at h1 h2;simp only [show ¬ ((12 : Int) = 0) by decide, if_false] at h1 h2;split at h1
 ·rename_i hs
  rw [if_pos hs] at h2;simp [Pl.inR] at hs;omega
 ·omega
theorem QkY {n : Pl.Node} (h : Pl.Qak n = true) (hk : n.kind = 1) {k : Nat} (hm : (k : Int) < n.tree.many) (l : List (List UInt8)) : Pl.QaI n.size k (l.getD k []) = Pl.Qaz n.size l k := by
 obtain ⟨h1, h2⟩ := QdW h hk hm;unfold Pl.QaI Pl.Qaz Pl.fill;rw [QfI h1, QhQ, Bool.not_not]
 congr 1
 have hb : Pl.inR (Pl.long n.size k) 0 12 = true := by
  unfold Pl.inR Pl.long;simp only [Bool.and_eq_true, decide_eq_true_eq];split <;> omega
 rw [hb, Bool.true_and]
 by_cases hl : ((l.getD k []).length : Int) <= Pl.long n.size k
 ·rw [if_pos (by simpa using hl), decide_eq_true hl]
 ·rw [if_neg (by simpa using hl), decide_eq_false hl]
theorem Qg2 {s : Pm.Store} {n : Pl.Node} (h : Pl.Qak n = true) (hk : n.kind = 1) :
 Pl.Qam s n = (Pl.Qaf s n.tree && (List.range (Pl.Qae s n.tree).1.length).all fun k => Pl.QaI n.size k (((Pl.Qae s n.tree).1.map fun p => (Pl.rd s.1 p).1).getD k [])) := by
 unfold Pl.Qam;rw [h, hk];cases ht : Pl.Qaf s n.tree
 ·simp
 ·have hl := Qcr ht
  rw [Qc4 ht, hl.1];simp only [BEq.rfl, Bool.true_and];have hg := QbL ht;rw [Bool.eq_iff_iff, List.all_eq_true, List.all_eq_true];refine forall_congr' fun k => ?_
  refine imp_congr_right fun hkm => ?_
  rw [List.mem_range] at hkm;rw [QkY h hk (by omega)]
end Aw
end
section
open Go.RowKit
namespace Aw
attribute [local irreducible] ASeq ADraw AWP Loc
def Pl.Qas (x : Nat) : Bool := decide ((x : Int) < 97) || decide ((x : Int) > 122)
theorem QmT (x : Nat) (w : World) : Calls Tryz.prog 326 #[.int .i32 x] w fun e w' => e = .returned (.bool (Pl.Qas x)) /\ w = w' := by
 by_cases h1 : (x : Int) < 97
 ·have hf := Pm.hid (show Pl.Qas x = true by simp [Pl.Qas, h1])
  go_enter Tryz.func326, Tryz.ntmps326
  go_wp2
  go_ret
  exact ⟨Pm.Qb6 hf.out.symm, rfl⟩
 ·by_cases h2 : (x : Int) > 122
  ·have hf := Pm.hid (show Pl.Qas x = true by simp only [Pl.Qas, decide_eq_true h2, Bool.or_true])
   have h3 : (122 : Int) < x := h2
   go_enter Tryz.func326, Tryz.ntmps326
   go_wp2
   go_ret
   exact ⟨Pm.Qb6 (by rw [hf.out]), rfl⟩
  ·have hf := Pm.hid (show Pl.Qas x = false by simp only [Pl.Qas, decide_eq_false h1, decide_eq_false h2, Bool.or_false])
   have h3 : ¬ (122 : Int) < x := h2
   go_enter Tryz.func326, Tryz.ntmps326
   go_wp2
   go_ret
   exact ⟨Pm.Qb6 hf.out.symm, rfl⟩
theorem Qfu (s : ByteArray) : ∀ (f pos : Nat), s.size <= pos + f -> (Lib.idxFuncFrom Pl.Qas true s f pos < 0 ↔ ∀ i (h : i < s.size), pos <= i -> Pl.Qa8 s[i] = true)
 |0, pos, hf => by
  unfold Lib.idxFuncFrom;exact ⟨fun _ i h hp => by omega, fun _ => by decide⟩
 |f + 1, pos, hf => by
  unfold Lib.idxFuncFrom;split
  ·rename_i hlt
   by_cases ha : (s[pos]'hlt).toNat < 128
   ·rw [decode_ascii s pos hlt ha]
    by_cases hl : Pl.Qa8 (s[pos]'hlt) = true
    ·have hb : Pl.Qas (s[pos]'hlt).toNat = false := by
      unfold Pl.Qa8 at hl;simp only [Bool.and_eq_true, decide_eq_true_eq] at hl;unfold Pl.Qas;rw [decide_eq_false (by omega), decide_eq_false (by omega)]; rfl
     simp only [hb, Bool.false_eq_true, if_false];rw [Qfu s f (pos + 1) (by omega)];constructor
     ·intro h i hi hp
      rcases Nat.eq_or_lt_of_le hp with e | e
      ·subst e; exact hl
      ·exact h i hi e
     ·intro h i hi hp; exact h i hi (by omega)
    ·have hb : Pl.Qas (s[pos]'hlt).toNat = true := by
      unfold Pl.Qa8 at hl;unfold Pl.Qas;simp only [Bool.and_eq_true, decide_eq_true_eq] at hl
      by_cases h : (((s[pos]'hlt).toNat : Nat) : Int) < 97
      ·rw [decide_eq_true h]; rfl
      ·rw [decide_eq_true (p := ((s[pos]'hlt).toNat : Int) > 122) (by omega), Bool.or_true]
     simp only [hb, if_true];exact ⟨fun h => by omega, fun h => absurd (h pos hlt (Nat.le_refl _)) hl⟩
   ·have hd := decode_high s pos hlt (by omega)
    have hb : Pl.Qas (Utf8.decode s pos).1 = true := by
     unfold Pl.Qas;rw [decide_eq_true (p := ((Utf8.decode s pos).1 : Int) > 122) (by omega), Bool.or_true]
    simp only [hb, if_true];refine ⟨fun h => by omega, fun h => ?_⟩;have := h pos hlt (Nat.le_refl _);unfold Pl.Qa8 at this;simp only [Bool.and_eq_true, decide_eq_true_eq] at this;omega
  ·exact ⟨fun _ i h hp => by omega, fun _ => by decide⟩
theorem QgC (s : List UInt8) (hs : s.length <= 1000000) : PureF Tryz.prog 325 [.d (dS s), .fn (.func 326) []] (dI (Lib.idxFunc Pl.Qas true ⟨s.toArray⟩)) := by
 intro B S w cargs hB hS hl hr
 match cargs, hl with
 |[a, b], _ =>
  have h0 := hr 0 _ a rfl rfl;have h1 := hr 1 _ b rfl rfl;cases h0 with
  |d _ _ h0 =>
   cases h0;cases h1 with
   |fn _ _ cs hl1 _ =>
    obtain rfl : cs = [] := List.length_eq_zero_iff.1 hl1.symm;refine (Tryz.strings_IndexFunc_runes 326 #[] Tryz.call326 Pl.Qas ⟨s.toArray⟩ w (fun W x _ _ => ?_)).mono fun e w' h => ⟨_, h.1, h.2, .v _⟩
    exact (QmT x W).mono fun e w' h => ⟨h.1, 0, by rw [<- h.2]; rfl⟩
theorem QjT (s : List UInt8) : (decide (Lib.idxFunc Pl.Qas true ⟨s.toArray⟩ < 0)) = s.all Pl.Qa8 := by
 rw [Bool.eq_iff_iff, decide_eq_true_eq];unfold Lib.idxFunc;rw [Qfu _ _ 0 (by omega), List.all_eq_true];constructor
 ·intro h x hx
  obtain ⟨i, hi, rfl⟩ := List.getElem_of_mem hx;exact h i hi (Nat.zero_le _)
 ·intro h i hi _
  exact h _ (List.getElem_mem (show i < s.length from hi))
theorem bNameOk (s : List UInt8) (hs : s.length <= 1000000) : Pure Tryz.prog 284 [dS s] (dB (Pl.Qai s)) := by
 have hd : Hid (Pl.Qai s = (s.all Pl.Qa8 && Pl.inR s.length 1 4)) := Pm.hid (Qhi s);have c1 := bIn s.length 1 4;have c2 := QgC s hs;rw [<- QjT] at hd;generalize Lib.idxFunc Pl.Qas true ⟨s.toArray⟩ = ix at *
 generalize Pl.inR s.length 1 4 = o at *
 (refine Qbk Tryz.func284 rfl Tryz.ntmps284 Tryz.results284 rfl ?_; simp only [parE, Nat.zero_add, Nat.reduceAdd])
 (repeat' (first | refine e1 (k := ?_) | refine e0 (k := ?_) | refine stepS (Qbe Tryz.call45 c1 rfl) (k := ?_) | refine stepS (Qc0 Tryz.call325 c2 rfl rfl) (k := ?_) | refine Qbd ?_ | refine Qbf ?_ | refine Qbc ?_ | ((fail_if_success show ASeq _ _ _ _ ⟨_, (_, .d (.v (.bool true))) :: _, _⟩); (fail_if_success show ASeq _ _ _ _ ⟨_, (_, .d (.v (.bool false))) :: _, _⟩); refine splitS (fun q => ?_) (fun q => ?_))))
 all_goals
  refine Qbn (hx := ?_);rw [hd.out]
  simp_all
theorem Qk1 (l : List Pl.Ent) (hl : l.length <= Pm.big) (hs : ∀ e ∈ l, e.1.length <= 1000000) : Pure Tryz.prog 313 [dEnts l] (dB (Pl.Qag l)) := by
 simp only [Pm.big] at hl;have hd : Hid (Pl.Qag l = ((List.range l.length).all (Pl.Qa6 l) && decide (l.length <= 12))) := Pm.hid rfl
 (refine Qbk Tryz.func313 rfl Tryz.ntmps313 Tryz.results313 rfl ?_; simp only [parE, Nat.zero_add, Nat.reduceAdd])
 (repeat' (first | refine e1 (k := ?_) | refine Qbd ?_ | refine Qbf ?_ | refine Qbc ?_ | refine Qbi ?_ | fail))
 refine Qby (fun m st => ∃ k : Nat, k <= l.length /\ m = l.length - k /\ Hid ((List.range k).all (Pl.Qa6 l) = true) /\ st = ⟨41, [(5, .d (dEnts l)), (6, .d (dI l.length)), (7, .d (dI k)), (0, .d (dEnts l))], []⟩) [5, 6, 7, 0] 0 l.length ⟨0, by omega, rfl, Pm.hid rfl, by simp [keepE, go_sem]⟩ (round := ?_);rintro m st ⟨k, hk, rfl, hA, rfl⟩
 (repeat (first | refine e1 (k := ?_) | refine Qbd ?_ | refine Qbf ?_ | refine Qbc ?_ | fail))
 cases q3 : decide ((k : Int) < (l.length : Int))
 ·(repeat' (first | refine e1 (k := ?_) | refine Qbd ?_ | refine Qbf ?_ | refine Qbc ?_ | refine Qbm (hf := ?_) | refine Qbq ?_ | fail))
  refine Qbn (hx := ?_);have : k = l.length := by simp at q3; omega
  have h := hA.out;rw [this] at h;rw [hd.out, h];refine congrArg dB ?_;simp; omega
 have hk2 : k < l.length := by simp at q3; omega
 obtain ⟨x, hx⟩ : ∃ x, l[k]? = some x := ⟨_, List.getElem?_eq_getElem hk2⟩;have hr := Qbx (f := rEnt) hx;obtain ⟨y, hy⟩ : ∃ y, l[k - 1]? = some y := ⟨_, List.getElem?_eq_getElem (by omega)⟩
 have hr2 : Hid (0 < k -> (l.map rEnt)[((k : Int) - 1).toNat]? = some (rEnt y)) := fun h => by
  rw [show ((k : Int) - 1).toNat = k - 1 by omega, List.getElem?_map, hy]; rfl
 have he : Hid (Pl.Qa6 l k = (Pl.Qai x.1 && Pl.inR x.2 1 15 && (decide (k = 0) || Op.bytesLess y.1 x.1))) := Pm.hid (by
  unfold Pl.Qa6; simp only [List.getD_eq_getElem?_getD, hx, hy, Option.getD_some])
 have T : Hid (Pl.Qa6 l k = true -> (List.range (k + 1)).all (Pl.Qa6 l) = true) := fun h => Pl.Qb8 (p := Pl.Qa6 l) hA.out h
 have F : Hid (Pl.Qa6 l k = false -> Pl.Qag l = false) := fun h => by
  rw [hd.out, Pl.Qb5 (p := Pl.Qa6 l) hk2 h]; rfl
 have c1 := bNameOk x.1 (hs x (List.mem_of_getElem? hx));have c2 := bIn x.2 1 15;rw [he.out] at T F;clear hx hy hA hd he;generalize Pl.Qai x.1 = o1 at *
 generalize Pl.inR x.2 1 15 = o2 at *
 (repeat' (first | refine f1 (k := ?_) | refine e1 (k := ?_) | refine f0 (k := ?_) | refine stepD (Qbe Tryz.call284 c1 rfl) (k := ?_) | refine stepD (Qbe Tryz.call45 c2 rfl) (k := ?_) | refine stepS (Qbh Ty.h rfl Ty.h rfl rfl rfl (by omega) hr) (k := ?_) | refine stepD (Qbh Ty.h rfl Ty.h rfl rfl rfl (by simp only [decide_eq_true_eq] at *; omega) (hr2.out (by simp only [decide_eq_true_eq] at *; omega))) (k := ?_) | refine stepD (QfP rfl rfl) (k := ?_) | refine stepS (Qbs rfl rfl (by omega)) (k := ?_) | refine stepD (QbB rfl rfl (by omega)) (k := ?_) | refine Qbu (kk := ?_) | refine Qbd ?_ | refine Qbp ?_ | refine Qbr ?_ | refine Qbf ?_ | refine Qbc ?_ | refine Qb1 follows_mixed (by kernel_rfl) (by kernel_rfl) ?_ | refine Qbl (ht := ?_) | refine Qbm (hf := ?_) | refine Qbo (ht := fun q => ?_) (hf := fun q => ?_) | refine Qbj ?_ | refine Qbi ?_ | refine e2 (k := ?_) | ((fail_if_success show ADraw _ _ _ _ ⟨_, (_, .d (.v (.bool true))) :: _, _⟩); (fail_if_success show ADraw _ _ _ _ ⟨_, (_, .d (.v (.bool false))) :: _, _⟩); refine splitD (fun q => ?_) (fun q => ?_))))
 all_goals clear c1 c2 hr hr2
 all_goals simp only [decide_eq_true_eq, decide_eq_false_iff_not] at *
 all_goals first
  |(refine Qbt (l.length - (k + 1)) (by omega) ⟨k + 1, by omega, rfl, Pm.hid (T.out ?_), by simp [keepE, go_sem]⟩; clear T F; simp_all; try omega)
  |(refine Qbn (hx := ?_); rw [F.out ?_]; clear T F; simp_all; try omega)
theorem bCut (c : UInt8) (s : List UInt8) (hs : s.length <= 4294967280) : Pure Tryz.prog 166 [dS s, dS [c]] (.tup [dS (Lib.cut s [c]).1, dS (Lib.cut s [c]).2.1, dB (Lib.cut s [c]).2.2]) :=
 Qci (xs := [.string ⟨(Lib.cut s [c]).1.toArray⟩, .string ⟨(Lib.cut s [c]).2.1.toArray⟩, .bool (Lib.cut s [c]).2.2]) rfl fun w hL => by
  obtain ⟨m, hm⟩ := hL.maxl;refine (Tryz.strings_Cut ⟨s.toArray⟩ ⟨#[c]⟩ m w (by rw [Pm.QeJ]; omega) hm).mono fun e w' ⟨he, n, hw⟩ => ⟨?_, hw ▸ Pm.QdZ w n⟩
  rw [he]
def Pl.entE (e : Pl.Ent) : Prop := (59 : UInt8) ∉ e.1 /\ (61 : UInt8) ∉ e.1 /\ 0 <= e.2 /\ e.2 < 1000000000
theorem QlF {e : Pl.Ent} (h : Pl.entE e) : Pl.Qa0 (Pl.Qay e) = some e := by
 obtain ⟨h0, h1, h2, h3⟩ := h;unfold Pl.Qa0 Pl.Qay;rw [Pl.QbS 61 _ _ h1, Pl.Qcx 61 _ (Qeo _ (by decide))];simp only [Pl.QbG (show e.2.toNat < 1000000000 by omega), Option.getD_some];obtain ⟨a, b⟩ := e;simp only [Option.some.injEq, Prod.mk.injEq, true_and] at *
 omega
theorem Qel (rest : List UInt8) : ∀ {l : List Pl.Ent}, (∀ e ∈ l, Pl.entE e) -> Pl.cutB 59 (Pl.Qaj l ++ rest) = l.map Pl.Qay ++ Pl.cutB 59 rest
 |[], _ => rfl
 |e :: l, h => by
  have h1 : Pl.Qaj (e :: l) ++ rest = Pl.Qay e ++ 59 :: (Pl.Qaj l ++ rest) := by simp [Pl.Qaj]
  have hn : (59 : UInt8) ∉ Pl.Qay e := by
   unfold Pl.Qay;intro hm;rcases List.mem_append.1 hm with hm | hm
   ·exact (h e List.mem_cons_self).1 hm
   ·rcases List.mem_cons.1 hm with hm | hm
    ·exact absurd hm (by decide)
    ·exact Qeo _ (by decide) hm
  rw [h1, Pl.QbS 59 _ _ hn, Qel rest fun x hx => h x (List.mem_cons_of_mem _ hx)]; rfl
theorem eg_end {s : List UInt8} {out : List Pl.Ent} (hE : ∀ e ∈ out, Pl.entE e) (hs : s = Pl.Qaj out) : Pl.eg s = if Pl.Qag out = true then (out, true) else ([], false) := by
 have hc := Qel [] hE;rw [List.append_nil, <- hs] at hc
 rw [QlI (m := out) (by rw [hc]; simp [Pl.cutB]) fun i e he => ⟨Pl.Qay e, by
  rw [hc, List.getElem?_append_left (by simpa using (List.getElem?_eq_some_iff.1 he).1), List.getElem?_map, he]; rfl, QlF (hE e (List.mem_of_getElem? he))⟩]
 simp [hs]
theorem eg_pre {s one tail : List UInt8} {out p : List Pl.Ent} (hE : ∀ e ∈ out, Pl.entE e) (hs : s = Pl.Qaj out ++ (one ++ 59 :: tail)) (hn : (59 : UInt8) ∉ one) (h : Pl.QaJ s p) : ∃ e, p[out.length]? = some e /\ one = Pl.Qay e := by
 have hc := Qel (one ++ 59 :: tail) hE;rw [<- hs, <- h.2, QeO (ent_b h.1), Pl.QbS 59 _ _ hn] at hc;have hl := congrArg List.length hc;have hne := List.length_pos_iff.2 (Pl.Qi5 59 tail);simp only [List.length_append, List.length_map, List.length_cons, List.length_nil] at hl;have hi := congrArg (fun l => l[out.length]?) hc;rw [List.getElem?_append_left (by simp; omega), List.getElem?_append_right (by simp), List.getElem?_map] at hi;simp only [List.length_map, Nat.sub_self, List.getElem?_cons_zero] at hi;cases hp : p[out.length]? with
 |none => rw [hp] at hi; cases hi
 |some e => rw [hp] at hi; exact ⟨e, rfl, (Option.some.inj hi).symm⟩
theorem eg_cut0 {s rest : List UInt8} {out : List Pl.Ent} (hE : ∀ e ∈ out, Pl.entE e) (hs : s = Pl.Qaj out ++ rest) (hr : rest ≠ []) (h : (59 : UInt8) ∉ rest) : Pl.eg s = ([], false) := by
 refine Qjn fun p hp => hr ?_
 have hc := Qel rest hE;rw [<- hs, <- hp.2, QeO (ent_b hp.1), Pl.Qcx 59 _ h] at hc;have := congrArg List.getLast? hc;simpa using this.symm
structure EgStep (s rest : List UInt8) (out : List Pl.Ent) (w v : List UInt8 × List UInt8 × Bool) (g : Option Nat) : Prop where
 bad : (w.2.2 && v.2.2 && g.isSome && decide (out.length ≠ 12)) = false -> Pl.eg s = ([], false)
 good : (w.2.2 && v.2.2 && g.isSome) = true -> s = Pl.Qaj (out ++ [(v.1, ((g.getD 0 : Nat) : Int))]) ++ w.2.1 /\ Pl.entE (v.1, ((g.getD 0 : Nat) : Int)) /\ w.2.1.length < rest.length
 l1 : w.1.length <= rest.length
 l2 : w.2.1.length <= rest.length
 l3 : v.1.length <= rest.length
 l4 : v.2.1.length <= rest.length
theorem eg_next {s rest : List UInt8} {out : List Pl.Ent} (hE : ∀ e ∈ out, Pl.entE e) (hs : s = Pl.Qaj out ++ rest) (hr : rest ≠ []) :
 EgStep s rest out (Lib.cut rest [59]) (Lib.cut (Lib.cut rest [59]).1 [61]) (Pl.numGet (Lib.cut (Lib.cut rest [59]).1 [61]).2.1) := by
 have hlen : ∀ (c : UInt8) (x : List UInt8), (Lib.cut x [c]).1.length <= x.length /\ (Lib.cut x [c]).2.1.length <= x.length := fun c x => by
  by_cases h : c ∈ x
  ·obtain ⟨a, r, rfl, hn⟩ := Pl.QcF h
   rw [Pl.Qe4 hn]; simp; omega
  ·rw [Pl.QeR h]; simp
 have g1 := hlen 59 rest;have g2 := hlen 61 (Lib.cut rest [59]).1;refine ⟨?_, ?_, g1.1, g1.2, by omega, by omega⟩
 ·intro hb
  by_cases h : (59 : UInt8) ∈ rest
  ·obtain ⟨one, tail, rfl, hn⟩ := Pl.QcF h
   rw [Pl.Qe4 hn] at hb;refine Qjn fun p hp => ?_
   obtain ⟨e, he, rfl⟩ := eg_pre hE hs hn hp;have hb2 := ent_b hp.1 e (List.mem_of_getElem? he);have hle : out.length < p.length := (List.getElem?_eq_some_iff.1 he).1;have h12 : p.length <= 12 := by have := hp.1; unfold Pl.Qag at this; rw [Bool.and_eq_true, decide_eq_true_eq] at this; exact this.2
   simp only at hb;rw [show Pl.Qay e = e.1 ++ 61 :: Pl.dec e.2.toNat from rfl, Pl.Qe4 (QdA hb2.1 (by decide))] at hb;simp only [Pl.QbG (show e.2.toNat < 1000000000 by omega), Option.isSome_some, Bool.true_and, decide_eq_false_iff_not] at hb;omega
  ·exact eg_cut0 hE hs hr h
 ·intro hb
  by_cases h : (59 : UInt8) ∈ rest
  ·obtain ⟨one, tail, rfl, hn⟩ := Pl.QcF h
   rw [Pl.Qe4 hn] at hb ⊢;simp only at hb ⊢
   by_cases h6 : (61 : UInt8) ∈ one
   ·obtain ⟨a, b, rfl, hm⟩ := Pl.QcF h6
    rw [Pl.Qe4 hm] at hb ⊢;simp only [Bool.true_and] at hb ⊢;obtain ⟨n, hg⟩ := Option.isSome_iff_exists.1 hb;obtain ⟨rfl, hlt⟩ := Pl.QbP hg;rw [hg];refine ⟨?_, ⟨fun hc => hn (List.mem_append_left _ hc), hm, by simp, by simp; omega⟩, ?_⟩
    ·rw [hs]; simp [Pl.Qaj, Pl.Qay]
    ·simp; omega
   ·rw [Pl.QeR h6] at hb; simp at hb
  ·rw [Pl.QeR h] at hb; simp at hb
theorem QiD (s : List UInt8) (hs : s.length <= 1000000) : Pure Tryz.prog 265 [dS s] (.tup [tEnts (Pl.eg s).1, dB (Pl.eg s).2]) := by
 (refine Qbk Tryz.func265 rfl Tryz.ntmps265 Tryz.results265 rfl ?_; simp only [parE, Nat.zero_add, Nat.reduceAdd])
 (repeat' (first | refine e1 (k := ?_) | refine Qbd ?_ | refine Qbf ?_ | refine Qbc ?_ | refine Qbi ?_ | fail))
 refine Qd4 4 2 251 (h := ?_)
 skip
 refine Qby (fun m st => ∃ (g : Nat) (out : List Pl.Ent) (rest : List UInt8), m = rest.length /\ Hid (s = Pl.Qaj out ++ rest) /\ Hid (∀ e ∈ out, Pl.entE e) /\ rest.length <= 1000000 /\ out.length <= 12 /\ Hid (∀ e ∈ out, e.1.length <= 1000000) /\
  st = ⟨61, [(4, .osl 0 g 0 out.length), (5, .d (dS rest))], [.arr g 2 251 (out.map rEnt)]⟩) [4, 5] 1 s.length ⟨0, [], s, rfl, Pm.hid rfl, Pm.hid (by simp), hs, by simp, Pm.hid (by simp), rfl⟩ (round := ?_)
 rintro m st ⟨g, out, rest, rfl, hO, hE, hrl, hlen, hnl, rfl⟩
 (repeat (first | refine e1 (k := ?_) | refine Qbf ?_ | refine Qbc ?_ | fail))
 by_cases hr : rest = []
 ·subst hr
  have hg := Pm.hid (eg_end (s := s) hE.out (by rw [hO.out, List.append_nil]));have ce := (Qk1 out (by unfold Pm.big; omega) hnl.out).arg (l := [tEnts out]);generalize Pl.eg s = res at *
  generalize Pl.Qag out = o1 at *
  (repeat' (first | refine e1 (k := ?_) | refine stepS (QbH rfl rfl) (k := ?_) | refine Qbd ?_ | refine Qbf ?_ | refine Qbc ?_ | refine Qbm (hf := ?_) | refine Qbq ?_ | fail))
  refine QcH 0 (h := ?_)
  (repeat' (first | refine e1 (k := ?_) | refine stepS (Qbe Tryz.call313 ce rfl) (k := ?_) | refine Qbd ?_ | refine Qbf ?_ | refine Qbc ?_ | refine Qbo (ht := fun q => ?_) (hf := fun q => ?_) | refine Qbj ?_ | fail))
  ·refine Qcl 2 true 2 (h := ?_)
   refine Qbn (hx := ?_);rw [hg.out]; simp_all
  ·refine Qbn (hx := ?_)
   rw [hg.out]; simp_all
 have hne : (!(rest == ([] : List UInt8))) = true := by simpa using hr
 have st := eg_next hE.out hO.out hr;have c1 := bCut 59 rest (by omega);generalize Lib.cut rest [59] = w at *
 obtain ⟨one, tail, ok⟩ := w;have z1 : one.length <= rest.length := st.l1;have c2 := bCut 61 one (by omega);simp only at st;generalize Lib.cut one [61] = v at *
 obtain ⟨name, num, fine⟩ := v;have z2 : name.length <= rest.length := st.l3;have z3 : num.length <= rest.length := st.l4;have z4 : tail.length <= rest.length := st.l2;have c3 := bNumGet num (by unfold Pm.big; omega);have c4 := bClone name (by unfold Pm.big; omega);have F := Pm.hid st.bad;have T := Pm.hid st.good;clear st;simp only at F T c1 c2;generalize Pl.numGet num = gg at *
 generalize gg.isSome = good at *
 generalize hnv : gg.getD 0 = nv at *
 have hq : ((out.length : Int) == 12) = decide (out.length = 12) := by
  rw [Bool.eq_iff_iff]; simp; omega
 generalize Pl.eg s = res at *
 (repeat' (first | refine e1 (k := ?_) | refine e0 (k := ?_) | refine stepS (Qbe Tryz.call166 c1 rfl) (k := ?_) | refine stepS (Qbe Tryz.call166 c2 rfl) (k := ?_) | refine stepS (Qbe Tryz.call102 c3 rfl) (k := ?_) | refine stepS (Qbe Tryz.call167 c4 rfl) (k := ?_) | refine QbO Ty.h rfl Ty.h (hb := ?_) (kk := ?_) | refine stepS (QbH rfl rfl) (k := ?_) | refine stepS2 (Qbz Ty.h rfl Ty.h) (k := ?_) | refine Qbd ?_ | refine Qb0 ?_ | refine Qbf ?_ | refine Qbc ?_ | refine Qbl (ht := ?_) | refine Qbo (ht := fun q => ?_) (hf := fun q => ?_) | refine Qbj ?_ | refine QcN ?_ | refine Qbi ?_ | refine Qbq ?_ | refine Qfi ?_ | ((fail_if_success show ASeq _ _ _ _ ⟨_, (_, .d (.v (.bool true))) :: _, _⟩); (fail_if_success show ASeq _ _ _ _ ⟨_, (_, .d (.v (.bool false))) :: _, _⟩); refine splitS (fun q => ?_) (fun q => ?_))))
 all_goals first
  |exact absurd (hne.symm.trans ‹_ = false›) (by decide)
  |(refine Qcl 2 true 2 (h := ?_)
    refine Qbn (hx := ?_)
    rw [F.out (by simp_all)]; rfl)
  |(simp; omega)
  |(exfalso; simp_all; done)
  |(obtain ⟨t1, t2, t3⟩ := T.out (by simp_all)
    have h12 : out.length ≠ 12 := fun e => absurd (‹((out.length : Int) == 12) = false›) (by rw [hq]; simp [e])
    refine Qbt tail.length t3 ⟨g + 1, out ++ [(name, (nv : Int))], tail, rfl, Pm.hid t1, Pm.hid ?_, by omega, by simp only [List.length_append, List.length_cons, List.length_nil]; omega, Pm.hid ?_, ?_⟩
    ·intro e he
     rcases List.mem_append.1 he with h | h
     ·exact hE.out e h
     ·rw [List.mem_singleton.1 h]; exact t2
    ·intro e he
     rcases List.mem_append.1 he with h | h
     ·exact hnl.out e h
     ·rw [List.mem_singleton.1 h]; show name.length <= 1000000; omega
    ·simp [keepE, go_sem])
end Aw
end
end Go.Proofs.YtdjkdcokjoiokaaGreatDoor

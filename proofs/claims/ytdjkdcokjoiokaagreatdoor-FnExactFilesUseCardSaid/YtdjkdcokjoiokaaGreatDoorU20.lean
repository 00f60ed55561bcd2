/- Part 20 of the proof of use_card: contracts, walks, plain laws; no condition is assumed beyond those that a statement names. -/
import Derived.Test.YtdjkdcokjoiokaaGreatDoorU17
import Derived.Test.YtdjkdcokjoiokaaGreatDoorU19
set_option linter.all false
set_option maxRecDepth 100000
set_option maxHeartbeats 8000000
namespace Go.Proofs.YtdjkdcokjoiokaaGreatDoor
open Go.RowKit
namespace Aw
attribute [local irreducible] ASeq ADraw AWP Loc AStep
theorem Qc3 (p : Pl.Ptr) : Pure Tryz.prog 199 [dPtr p] (dB (Pl.ptrHole p)) := QbY rfl fun w _ => Pm.QfN p w
theorem bPtrOk (p : Pl.Ptr) : Pure Tryz.prog 218 [dPtr p] (dB (Pl.ptrOk p)) := QbY rfl fun w _ => Pm.imPtrOk p w
theorem bIn (a b c : Int) : Pure Tryz.prog 45 [dI a, dI b, dI c] (dB (Pl.inR a b c)) := QbY rfl fun w _ => (Pm.imIn a b c w).mono fun _ _ h => ⟨h.1, h.2 ▸ Below.refl _ _⟩
theorem bSumOf (s : List UInt8) (h : s.length <= Pm.big) : Pure Tryz.prog 247 [dS s] (dI (Pl.sumOf s : Nat)) := QbY rfl fun w _ => (Pm.imSumOf s w h).mono fun e w' h => ⟨h.1, h.2 ▸ Below.refl _ _⟩
theorem bNumGet (s : List UInt8) (hs : s.length <= Pm.big) : Pure Tryz.prog 102 [dS s] (.tup [dI ((Pl.numGet s).getD 0 : Nat), dB (Pl.numGet s).isSome]) :=
 Qc1 (xs := [.int .i64 ((Pl.numGet s).getD 0 : Nat), .bool (Pl.numGet s).isSome]) rfl fun w hL => (Pm.QjK s w hs hL).mono fun e w' h => ⟨h.1.trans (by cases Pl.numGet s <;> rfl), h.2⟩
theorem bPtrPut (p : Pl.Ptr) : Pure Tryz.prog 245 [dPtr p] (dS (Pl.ptrPut p)) := QbY rfl fun w hL => Pm.Qhd p w hL
theorem bPtrGet (s : List UInt8) (hs : s.length <= 4294967280) : Pure Tryz.prog 170 [dS s] (.tup [dPtr (Pl.pg s).1, dB (Pl.pg s).2]) := by
 refine Qc1 (xs := [Pm.vptr (Pl.pg s).1, .bool (Pl.pg s).2]) rfl fun w hL => (Pm.QnI s w hs hL).mono ?_
 rintro e w' ⟨h | h, hb⟩
 ·obtain ⟨p, hp, rfl⟩ := h
  rw [pg_is hp]; exact ⟨rfl, hb⟩
 ·rw [Qo7 h.1]; exact ⟨h.2, hb⟩
theorem Qoa (p : Pl.Ptr) (s : List UInt8) (hs : s.length <= Pm.big) : Pure Tryz.prog 286 [dPtr p, dS s] (dB (Pl.fits p s)) := by
 (refine Qbv Tryz.func286 rfl Tryz.ntmps286 Tryz.results286 rfl ?_; simp only [parE, Nat.zero_add, Nat.reduceAdd])
 (refine Qbt (Qbq ?_); (repeat (first | refine e1 (k := ?_) | refine e2 (k := ?_) | fail)); refine Qbr ?_)
 refine Qbu 0 (h := ?_)
 (repeat' (first | refine f1 (k := ?_) | refine f0 (k := ?_) | refine stepD (Qbs Tryz.call218 (bPtrOk p) rfl) (k := ?_) | refine stepD (Qbs Tryz.call199 (Qc3 p) rfl) (k := ?_) | refine stepD (Qbs Tryz.call247 (bSumOf s hs) rfl) (k := ?_) | refine Qb5 ?_ | refine Qbt ?_ | refine QbE follows_mixed (by kernel_rfl) (by kernel_rfl) ?_ | ((fail_if_success show ADraw _ _ _ _ ⟨_, (_, .d (.v (.bool true))) :: _, _⟩); (fail_if_success show ADraw _ _ _ _ ⟨_, (_, .d (.v (.bool false))) :: _, _⟩); refine splitD (fun q => ?_) (fun q => ?_))))
 all_goals exact Qb0 (hx := congrArg dB (by simp_all [Pl.fits]))
theorem bRead (s : Pm.Store) (hg : Pl.Good s) (p : Pl.Ptr) (hp : Pl.ptrHole p = false -> Pl.ptrOk p = true) : Pure Tryz.prog 223 [.pd (rSt s), dPtr p] (.tup [dS (Pl.rd s.1 p).1, dB (Pl.rd s.1 p).2]) := by
 have hd : Hid (Pl.rd s.1 p = if Pl.ptrHole p then ([], true) else if Pl.fits p (s.1.getD p.pat.toNat []) then (s.1.getD p.pat.toNat [], true) else ([], false)) := Pm.hid rfl
 (refine Qbv Tryz.func223 rfl Tryz.ntmps223 Tryz.results223 rfl ?_; simp only [parE, Nat.zero_add, Nat.reduceAdd])
 (refine Qbt (Qbq ?_); (repeat (first | refine e1 (k := ?_) | refine e2 (k := ?_) | fail)); refine Qbr ?_)
 refine Qbu 0 (h := ?_);cases h1 : Pl.ptrHole p;rotate_left
 ·(repeat' (first | refine e1 (k := ?_) | refine stepS (Qbs Tryz.call199 (h1 ▸ Qc3 p) rfl) (k := ?_) | refine Qbr ?_ | refine Qbt ?_ | refine Qbq ?_ | refine Qbz (ht := ?_) | refine Qbx ?_ | fail))
  all_goals exact Qb0 (hx := by rw [hd.out, h1]; rfl)
 ·have hat := Qdr (hp h1) h1
  have hm := hg.many;obtain ⟨x, hx⟩ : ∃ x, s.1[p.pat.toNat]? = some x := ⟨_, List.getElem?_eq_getElem (by omega)⟩;have hr : (s.1.map fun s => [dS s])[p.pat.toNat]? = some [dS x] := by rw [List.getElem?_map, hx]; rfl
  have hgd : s.1.getD p.pat.toNat [] = x := by rw [List.getD_eq_getElem?_getD, hx]; rfl
  have hxl : x.length <= Pm.big := by have := hg.row x (List.mem_of_getElem? hx); unfold Pm.big; omega
  rw [hgd, h1] at hd;clear hx hgd
  (repeat' (first | refine f1 (k := ?_) | refine e1 (k := ?_) | refine stepD (QbW rfl) (k := ?_) | refine stepS (Qbs Tryz.call199 (h1 ▸ Qc3 p) rfl) (k := ?_) | refine stepD (Qbs Tryz.call286 (Qoa p x hxl) rfl) (k := ?_) | refine stepD (Qbw Ty.h rfl Ty.h rfl rfl rfl hat.1 hr) (k := ?_) | refine Qbr ?_ | refine Qb5 ?_ | refine Qbt ?_ | refine Qbq ?_ | refine QbE follows_mixed (by kernel_rfl) (by kernel_rfl) ?_ | refine Qb1 (hf := ?_) | refine Qb2 (ht := fun q => ?_) (hf := fun q => ?_) | refine Qby ?_ | refine Qbx ?_ | fail))
  ·refine Qb0 (hx := ?_)
   rw [hd.out]; simp_all
  ·refine Qb0 (hx := ?_)
   rw [hd.out]; simp_all
theorem Qof (p : Pl.Ptr) : Pure Tryz.prog 345 [dPtr p] (dB (!Pl.ptrHole p)) := by
 (refine Qbv Tryz.func345 rfl Tryz.ntmps345 Tryz.results345 rfl ?_; simp only [parE, Nat.zero_add, Nat.reduceAdd])
 (refine Qbt (Qbq ?_); (repeat (first | refine e1 (k := ?_) | refine e2 (k := ?_) | fail)); refine Qbr ?_)
 refine Qbu 0 (h := ?_)
 (repeat' (first | refine e1 (k := ?_) | refine stepS (Qbs Tryz.call199 (Qc3 p) rfl) (k := ?_) | refine Qbr ?_ | refine Qbt ?_ | refine Qbq ?_ | fail))
 exact Qb0 (hx := rfl)
theorem bFanOf1 (p k : Pl.Ptr) : Pure Tryz.prog 272 [dPtr k, .pd (rPtr p)] (dB (decide (p.birth < k.birth))) := by
 (refine Qbv Tryz.func272 rfl Tryz.ntmps272 Tryz.results272 rfl ?_; simp only [parE, Nat.zero_add, Nat.reduceAdd])
 (refine Qbt (Qbq ?_); (repeat (first | refine e1 (k := ?_) | refine e2 (k := ?_) | fail)); refine Qbr ?_)
 refine Qbu 0 (h := ?_)
 (repeat' (first | refine e1 (k := ?_) | refine Qbr ?_ | refine Qbt ?_ | refine Qbq ?_ | fail))
 exact Qb0 (hx := rfl)
def Pl.idxP (l : List Pl.Ptr) (pr : Pl.Ptr -> Bool) : Int := match l.findIdx? pr with
 |some i => (i : Int)
 |none => -1
theorem QjL (l : List Pl.Ptr) (pr : Pl.Ptr -> Bool) : decide (Pl.idxP l pr ≥ 0) = l.any pr := by
 unfold Pl.idxP;cases h : l.findIdx? pr with
 |none =>
  rw [List.findIdx?_eq_none_iff] at h;have : l.any pr = false := by rw [List.any_eq_false]; intro x hx; rw [h x hx]; simp
  rw [this]; rfl
 |some i =>
  obtain ⟨hi, h1, _⟩ := List.findIdx?_eq_some_iff_getElem.1 h;have : l.any pr = true := List.any_eq_true.2 ⟨_, List.getElem_mem hi, h1⟩;rw [this]; simp
theorem Qlh (l : List Pl.Ptr) (hl : l.length <= 1000000) (f : FuncId) (pr : Pl.Ptr -> Bool) (hf : ∀ args w, (callFunc f args).run Tryz.prog w = .ok (.enter f args) w) (h : ∀ p ∈ l, Pure Tryz.prog f [dPtr p] (dB (pr p))) :
 PureF Tryz.prog 225 [.d (dPtrs l), .fn (.func f) []] (dI (Pl.idxP l pr)) := by
 (refine Qcc Tryz.func225 rfl Tryz.ntmps225 Tryz.results225 rfl ?_; simp only [parA, Nat.zero_add, Nat.reduceAdd])
 (repeat' (first | refine e1 (k := ?_) | refine Qbr ?_ | refine Qbt ?_ | refine Qbq ?_ | refine Qbx ?_ | fail))
 refine QbC (fun m st => ∃ k : Nat, k <= l.length /\ m = l.length - k /\ Hid (∀ x ∈ l.take k, pr x = false) /\ st = ⟨19, [(8, .d (dI k)), (7, .d (dI l.length)), (0, .d (dPtrs l)), (1, .fn (.func f) [])], []⟩) [8, 7, 0, 1] 0 l.length ⟨0, by omega, rfl, Pm.hid (by simp), rfl⟩ (round := ?_);rintro m st ⟨k, hk, rfl, hA, rfl⟩
 (repeat (first | refine e1 (k := ?_) | refine Qbr ?_ | refine Qbt ?_ | refine Qbq ?_ | fail))
 cases q3 : decide ((k : Int) < (l.length : Int))
 ·(repeat' (first | refine e1 (k := ?_) | refine Qbr ?_ | refine Qbt ?_ | refine Qbq ?_ | refine Qb1 (hf := ?_) | refine Qb3 ?_ | fail))
  refine QbO (hx := ?_);have : k = l.length := by simp at q3; omega
  have h := hA.out;rw [this, List.take_length] at h;have : l.findIdx? pr = none := List.findIdx?_eq_none_iff.2 h;unfold Pl.idxP; rw [this]
 have hk2 : k < l.length := by simp at q3; omega
 obtain ⟨x, hx⟩ : ∃ x, l[k]? = some x := ⟨_, List.getElem?_eq_getElem hk2⟩;have hr := QbB (f := rPtr) hx
 have T : Hid (pr x = false -> ∀ y ∈ l.take (k + 1), pr y = false) := Pm.hid fun h y hy => by
  rw [List.take_add_one, hx] at hy;rcases List.mem_append.1 hy with hy | hy
  ·exact hA.out y hy
  ·simp at hy; subst hy; exact h
 have F : Hid (pr x = true -> Pl.idxP l pr = k) := Pm.hid fun h => by
  have : l.findIdx? pr = some k := by
   rw [List.findIdx?_eq_some_iff_getElem];refine ⟨hk2, ?_, fun j hj => ?_⟩
   ·rw [(List.getElem?_eq_some_iff.1 hx).2]; exact h
   ·have := hA.out l[j] (List.mem_iff_getElem?.2 ⟨j, by rw [List.getElem?_take, if_pos hj]; exact List.getElem?_eq_getElem (by omega)⟩)
    rw [this]; simp
  unfold Pl.idxP; rw [this]
 have c := h x (List.mem_of_getElem? hx);clear hx hA;generalize pr x = b at *
 (repeat' (first | refine e1 (k := ?_) | refine stepS (Qbw Ty.h rfl Ty.h rfl rfl rfl (by omega) hr) (k := ?_) | refine stepS (Qc6 hf c rfl rfl) (k := ?_) | refine stepS (Qb6 rfl rfl (by omega)) (k := ?_) | refine Qbr ?_ | refine Qb4 ?_ | refine Qbt ?_ | refine Qbq ?_ | refine Qbz (ht := ?_) | refine Qb2 (ht := fun q => ?_) (hf := fun q => ?_) | refine Qby ?_ | refine Qbx ?_ | fail))
 all_goals first
  |exact Qb8 (l.length - (k + 1)) (by omega) ⟨k + 1, by omega, rfl, Pm.hid (T.out (by assumption)), rfl⟩
  |(refine QbO (hx := ?_); rw [F.out (by assumption)])
theorem Qhz (l : List Pl.Ptr) (hl : l.length <= 1000000) (f : FuncId) (pr : Pl.Ptr -> Bool) (hf : ∀ args w, (callFunc f args).run Tryz.prog w = .ok (.enter f args) w) (h : ∀ p ∈ l, Pure Tryz.prog f [dPtr p] (dB (pr p))) :
 PureF Tryz.prog 150 [.d (dPtrs l), .fn (.func f) []] (dB (l.any pr)) := by
 have c := Qlh l hl f pr hf h;have hd := Pm.hid (QjL l pr);generalize Pl.idxP l pr = i at *
 (refine Qcc Tryz.func150 rfl Tryz.ntmps150 Tryz.results150 rfl ?_; simp only [parA, Nat.zero_add, Nat.reduceAdd])
 (repeat' (first | refine e1 (k := ?_) | refine stepS (Qcv Tryz.call225 c rfl rfl) (k := ?_) | refine Qbr ?_ | refine Qbt ?_ | refine Qbq ?_ | fail))
 refine QbO (hx := ?_);rw [<- hd.out]
theorem Qlg (l : List Pl.Ptr) (hl : l.length <= 1000000) (f : FuncId) (cap : D) (pr : Pl.Ptr -> Bool) (hf : ∀ args w, (callFunc f args).run Tryz.prog w = .ok (.enter f args) w) (h : ∀ p ∈ l, Pure Tryz.prog f [dPtr p, cap] (dB (pr p))) :
 PureF Tryz.prog 225 [.d (dPtrs l), .fn (.func f) [.d cap]] (dI (Pl.idxP l pr)) := by
 (refine Qcc Tryz.func225 rfl Tryz.ntmps225 Tryz.results225 rfl ?_; simp only [parA, Nat.zero_add, Nat.reduceAdd])
 (repeat' (first | refine e1 (k := ?_) | refine Qbr ?_ | refine Qbt ?_ | refine Qbq ?_ | refine Qbx ?_ | fail))
 refine QbC (fun m st => ∃ k : Nat, k <= l.length /\ m = l.length - k /\ Hid (∀ x ∈ l.take k, pr x = false) /\ st = ⟨19, [(8, .d (dI k)), (7, .d (dI l.length)), (0, .d (dPtrs l)), (1, .fn (.func f) [.d cap])], []⟩) [8, 7, 0, 1] 0 l.length ⟨0, by omega, rfl, Pm.hid (by simp), rfl⟩ (round := ?_);rintro m st ⟨k, hk, rfl, hA, rfl⟩
 (repeat (first | refine e1 (k := ?_) | refine Qbr ?_ | refine Qbt ?_ | refine Qbq ?_ | fail))
 cases q3 : decide ((k : Int) < (l.length : Int))
 ·(repeat' (first | refine e1 (k := ?_) | refine Qbr ?_ | refine Qbt ?_ | refine Qbq ?_ | refine Qb1 (hf := ?_) | refine Qb3 ?_ | fail))
  refine QbO (hx := ?_);have : k = l.length := by simp at q3; omega
  have h := hA.out;rw [this, List.take_length] at h;have : l.findIdx? pr = none := List.findIdx?_eq_none_iff.2 h;unfold Pl.idxP; rw [this]
 have hk2 : k < l.length := by simp at q3; omega
 obtain ⟨x, hx⟩ : ∃ x, l[k]? = some x := ⟨_, List.getElem?_eq_getElem hk2⟩;have hr := QbB (f := rPtr) hx
 have T : Hid (pr x = false -> ∀ y ∈ l.take (k + 1), pr y = false) := Pm.hid fun h y hy => by
  rw [List.take_add_one, hx] at hy;rcases List.mem_append.1 hy with hy | hy
  ·exact hA.out y hy
  ·simp at hy; subst hy; exact h
 have F : Hid (pr x = true -> Pl.idxP l pr = k) := Pm.hid fun h => by
  have : l.findIdx? pr = some k := by
   rw [List.findIdx?_eq_some_iff_getElem];refine ⟨hk2, ?_, fun j hj => ?_⟩
   ·rw [(List.getElem?_eq_some_iff.1 hx).2]; exact h
   ·have := hA.out l[j] (List.mem_iff_getElem?.2 ⟨j, by rw [List.getElem?_take, if_pos hj]; exact List.getElem?_eq_getElem (by omega)⟩)
    rw [this]; simp
  unfold Pl.idxP; rw [this]
 have c := h x (List.mem_of_getElem? hx);clear hx hA;generalize pr x = b at *
 (repeat' (first | refine e1 (k := ?_) | refine stepS (Qbw Ty.h rfl Ty.h rfl rfl rfl (by omega) hr) (k := ?_) | refine stepS (Qc6 hf c rfl rfl) (k := ?_) | refine stepS (Qb6 rfl rfl (by omega)) (k := ?_) | refine Qbr ?_ | refine Qb4 ?_ | refine Qbt ?_ | refine Qbq ?_ | refine Qbz (ht := ?_) | refine Qb2 (ht := fun q => ?_) (hf := fun q => ?_) | refine Qby ?_ | refine Qbx ?_ | fail))
 all_goals first
  |exact Qb8 (l.length - (k + 1)) (by omega) ⟨k + 1, by omega, rfl, Pm.hid (T.out (by assumption)), rfl⟩
  |(refine QbO (hx := ?_); rw [F.out (by assumption)])
theorem Qhy (l : List Pl.Ptr) (hl : l.length <= 1000000) (f : FuncId) (cap : D) (pr : Pl.Ptr -> Bool) (hf : ∀ args w, (callFunc f args).run Tryz.prog w = .ok (.enter f args) w) (h : ∀ p ∈ l, Pure Tryz.prog f [dPtr p, cap] (dB (pr p))) :
 PureF Tryz.prog 150 [.d (dPtrs l), .fn (.func f) [.d cap]] (dB (l.any pr)) := by
 have c := Qlg l hl f cap pr hf h;have hd := Pm.hid (QjL l pr);generalize Pl.idxP l pr = i at *
 (refine Qcc Tryz.func150 rfl Tryz.ntmps150 Tryz.results150 rfl ?_; simp only [parA, Nat.zero_add, Nat.reduceAdd])
 (repeat' (first | refine e1 (k := ?_) | refine stepS (Qcv Tryz.call225 c rfl rfl) (k := ?_) | refine Qbr ?_ | refine Qbt ?_ | refine Qbq ?_ | fail))
 refine QbO (hx := ?_);rw [<- hd.out]
end Aw
end Go.Proofs.YtdjkdcokjoiokaaGreatDoor
namespace Go.Proofs.YtdjkdcokjoiokaaGreatDoor
open Go.RowKit
namespace Aw
def Pl.QaB (b : UInt8) (l : List (List UInt8)) : List UInt8 := (l.intersperse [b]).flatten
theorem QfJ (b : UInt8) (s : List UInt8) : Pl.QaB b (Pl.cutB b s) = s := Pl.QeH b s
theorem Qmq (b : UInt8) (l : List (List UInt8)) : Lib.join ((l.map Pl.ba).map (·.data.toList)) (Pl.ba [b]).data.toList = Pl.QaB b l := by
 have e : (l.map Pl.ba).map (·.data.toList) = l := by
  rw [List.map_map]
  conv => rhs; rw [<- List.map_id l]
  exact List.map_congr_left fun s _ => Pl.QcV s
 rw [e, Pl.QcV];unfold Lib.join Pl.QaB
 first | rfl | simp [List.intercalate]
theorem bSplit (s : List UInt8) (b : UInt8) (hs : s.length <= 4294967280) : Pure Tryz.prog 243 [dS s, dS [b]] (tStrs (Pl.cutB b s)) := by
 intro B σ S H w cargs hB hS hl hr;have hc := Qdh (l := [dS s, dS [b]]) (vs := [.string ⟨s.toArray⟩, .string ⟨#[b]⟩]) rfl hl hr;subst hc;obtain ⟨m, hm⟩ := (hB.ltOf hS).maxl;have h := Pl.QhF b s.length s (Nat.le_refl _);refine (Tryz.strings_Split (Pl.ba s) (Pl.ba [b]) m w (by rw [Pl.QeX]; omega) hm (by rw [Pl.QeX]; simp)).mono fun e w' ⟨he, hw⟩ => ?_
 rw [h.1, List.map_map] at hw;rw [h.2] at he;subst hw;refine ⟨_, he, Pm.bnew _ _, ?_⟩;have hR := Pm.Row.new w ((Pl.cutB b s).map (Value.string ∘ Pl.ba)).toArray 9;have hlen : (Pl.cutB b s).length = ((Pl.cutB b s).map fun s => [dS s]).length := by simp
 rw [hlen];refine .sl true 1 _ w.heap.size 0 _ (fun i _ => .string ⟨((Pl.cutB b s).getD i []).toArray⟩) (.inr ⟨Nat.le_refl _, by simp⟩) (fun r hr => ?_) (fun _ => Nat.le_refl _) (fun i j r d hi hj => ?_) fun i j r d hi hj => ?_
 ·obtain ⟨x, _, rfl⟩ := List.mem_map.1 hr; rfl
 all_goals
  rw [List.getElem?_map] at hi;cases hx : (Pl.cutB b s)[i]? with
  |none => rw [hx] at hi; cases hi
  |some x =>
   rw [hx] at hi;obtain rfl := Option.some.inj hi;have hj0 : j = 0 := by have := (List.getElem?_eq_some_iff.1 hj).1; simp at this; omega
   subst hj0;have hgd : (Pl.cutB b s).getD i [] = x := by rw [List.getD_eq_getElem?_getD, hx]; rfl
   rw [hgd]
   first
    |(have := hR.get i (v := .string ⟨x.toArray⟩) (by simp [hx, Pl.ba]); simpa using this; done)
    |(simp at hj; subst hj; exact .v _)
theorem Qku {S : Nat -> Prop} {w : World} {l : List (List UInt8)} {v : Value} {d : D} (h : RelD S w d v) (hd : d = .sl true 1 (l.map fun s => [dS s])) :
 (l = [] /\ ∃ a cap, v = .slice a 0 cap) ∨ ∃ bk o cap, v = .slice (some ⟨bk, o, none⟩) l.length cap /\ l.length <= cap /\ S bk /\ ∀ (j : Nat) x, l[j]? = some x -> w.cell? ⟨bk, o + j, none⟩ = some (.string ⟨x.toArray⟩) := by
 cases h <;> try (simp at hd; done)
 ·rename_i c' n a cap
  simp only [D.sl.injEq] at hd;exact .inl ⟨by simpa using hd.2.2.symm, a, cap, rfl⟩
 ·rename_i c' n l' b o cap g hb hn hcap hc hr
  simp only [D.sl.injEq] at hd;obtain ⟨rfl, rfl, rfl⟩ := hd;have hc' := hcap rfl;refine .inr ⟨b, o, cap, by simp, by simpa using hc', hb, fun j x hx => ?_⟩;have hi : (l.map fun s => [dS s])[j]? = some [dS x] := by rw [List.getElem?_map, hx]; rfl
  have h1 := hc j 0 _ _ hi rfl;have h2 := hr j 0 _ _ hi rfl;rw [Nat.mul_one, Nat.add_zero] at h1;rw [h1];generalize g j 0 = y at h2;cases h2; rfl
theorem bJoin (l : List (List UInt8)) (b : UInt8) (hn : l.length <= 140737488355328) (hlen : (Pl.QaB b l).length <= 140737488355328) : Pure Tryz.prog 300 [tStrs l, dS [b]] (dS (Pl.QaB b l)) := by
 intro B σ S H w cargs hB hS hl hr
 match cargs, hl with
 |[v, u], _ =>
  have h1 := hr 0 _ v rfl rfl;have h2 := hr 1 _ u rfl rfl;obtain rfl : u = .string ⟨#[b]⟩ := by cases h2; rfl
  rcases Qku h1 rfl with ⟨rfl, a, cap, rfl⟩ | ⟨bk, o, cap, rfl, hcap, hb, hc⟩
  ·refine (Tryz.strings_Join_none a cap (Pl.ba [b]) w).mono fun e w' ⟨he, hw⟩ => ⟨_, he, hw ▸ Below.refl _ _, .v _⟩
  ·have k := Tryz.strings_Join bk o cap (l.map Pl.ba) (Pl.ba [b]) w (fun j x hx => by
    rw [List.getElem?_map] at hx;cases hy : l[j]? with
    |none => rw [hy] at hx; cases hx
    |some y => rw [hy] at hx; obtain rfl := Option.some.inj hx; exact hc j y hy) (hS.sUp bk hb).1 (by rw [List.length_map]; exact hn) (by rw [List.length_map]; exact hcap) (by rw [Qmq]; exact hlen)
   rw [Qmq, List.length_map] at k;exact k.mono fun e w' ⟨he, hw⟩ => ⟨_, he, hw, .v _⟩
theorem Qic (b : UInt8) (l : List (List UInt8)) (m : Nat) (h : ∀ x ∈ l, x.length <= m) : (Pl.QaB b l).length <= l.length * (m + 1) := by
 induction l with
 |nil => simp [Pl.QaB]
 |cons a l ih =>
  have h1 := h a List.mem_cons_self;have ih := ih fun x hx => h x (List.mem_cons_of_mem _ hx)
  cases l with
  |nil => simp [Pl.QaB]; omega
  |cons c l =>
   have e : Pl.QaB b (a :: c :: l) = a ++ b :: Pl.QaB b (c :: l) := by simp [Pl.QaB, List.intersperse]
   rw [e, List.length_append, List.length_cons, List.length_cons, Nat.succ_mul];omega
attribute [local irreducible] ASeq ADraw AWP Loc AStep
def Pl.QaN (l : List Pl.Ptr) : List UInt8 × Bool := if l.length = 4 /\ l.any (fun p => !Pl.ptrHole p) = true /\ l.all Pl.ptrOk = true then (Pl.QaB 44 (l.map Pl.ptrPut), true) else ([], false)
theorem QhL (p : Pl.Ptr) : (Pl.ptrPut p).length <= 100 := by
 unfold Pl.ptrPut;split
 ·split
  ·decide
  ·unfold Pl.ptrText Pl.dots
   rename_i h _;have hb := Pl.Qcl h;have h1 := Pl.Qb7 8 p.pat.toNat (by omega);have h2 := Pl.Qb7 8 p.birth.toNat (by omega);have h3 := Pl.Qb7 8 p.size.toNat (by omega);have h4 := Pl.Qb7 8 p.sum.toNat (by omega);have h5 := Pl.Qb7 8 p.level.toNat (by omega);simp [List.intersperse]; omega
 ·decide
theorem bFanPut (l : List Pl.Ptr) (hl : l.length <= 1000) : Pure Tryz.prog 317 [dPtrs l] (.tup [dS (Pl.QaN l).1, dB (Pl.QaN l).2]) := by
 have c1 := Qhz l (by omega) 345 (fun p => !Pl.ptrHole p) Tryz.call345 fun p _ => Qof p
 have hd : Hid (Pl.QaN l = if l.length = 4 /\ l.any (fun p => !Pl.ptrHole p) = true /\ l.all Pl.ptrOk = true then (Pl.QaB 44 (l.map Pl.ptrPut), true) else ([], false)) := Pm.hid rfl
 by_cases h0 : l.length = 4 /\ l.any (fun p => !Pl.ptrHole p) = true
 rotate_left
 ·have hx : Hid (Pl.QaN l = ([], false)) := Pm.hid (by rw [hd.out, if_neg (fun h => h0 ⟨h.1, h.2.1⟩)])
  clear hd;generalize l.any (fun p => !Pl.ptrHole p) = any at *
  (refine Qbv Tryz.func317 rfl Tryz.ntmps317 Tryz.results317 rfl ?_; simp only [parE, Nat.zero_add, Nat.reduceAdd])
  (repeat' (first | refine e1 (k := ?_) | refine e0 (k := ?_) | refine stepS (Qcv Tryz.call150 c1 rfl rfl) (k := ?_) | refine Qbr ?_ | refine Qbt ?_ | refine Qbq ?_ | refine Qbz (ht := ?_) | refine Qb2 (ht := fun q => ?_) (hf := fun q => ?_) | refine Qby ?_ | refine Qbx ?_ | ((fail_if_success show ASeq _ _ _ _ ⟨_, (_, .d (.v (.bool true))) :: _, _⟩); (fail_if_success show ASeq _ _ _ _ ⟨_, (_, .d (.v (.bool false))) :: _, _⟩); refine splitS (fun q => ?_) (fun q => ?_))))
  all_goals first
   |(refine Qb0 (hx := ?_); rw [hx.out]; done)
   |(skip; rw [hx.out]; rfl; done)
   |(exfalso; apply h0; simp only [bne_eq_false_iff_eq] at *; refine ⟨by omega, ?_⟩; simp_all; done)
 obtain ⟨h4, hany⟩ := h0;rw [hany] at c1
 have hd2 : Hid (Pl.QaN l = if l.all Pl.ptrOk = true then (Pl.QaB 44 (l.map Pl.ptrPut), true) else ([], false)) := Pm.hid (by
  rw [hd.out]
  by_cases h : l.all Pl.ptrOk = true
  ·rw [if_pos ⟨h4, hany, h⟩, if_pos h]
  ·rw [if_neg (fun x => h x.2.2), if_neg h])
 have cj := bJoin (l.map Pl.ptrPut) 44 (by simp; omega) (by
  have := Qic 44 (l.map Pl.ptrPut) 100 (fun x hx => by obtain ⟨p, _, rfl⟩ := List.mem_map.1 hx; exact QhL p)
  rw [List.length_map] at this; omega)
 clear hd hany
 (refine Qbv Tryz.func317 rfl Tryz.ntmps317 Tryz.results317 rfl ?_; simp only [parE, Nat.zero_add, Nat.reduceAdd])
 (repeat' (first | refine e1 (k := ?_) | refine e0 (k := ?_) | refine stepS (Qcv Tryz.call150 c1 rfl rfl) (k := ?_) | refine Qbr ?_ | refine Qbt ?_ | refine Qbq ?_ | refine Qbz (ht := ?_) | refine Qb1 (hf := ?_) | refine Qby ?_ | refine Qbx ?_ | ((fail_if_success show ASeq _ _ _ _ ⟨_, (_, .d (.v (.bool true))) :: _, _⟩); (fail_if_success show ASeq _ _ _ _ ⟨_, (_, .d (.v (.bool false))) :: _, _⟩); refine splitS (fun q => ?_) (fun q => ?_))))
 ·exfalso; simp only [bne_iff_ne] at *; omega
 refine QeZ 4 1 9 (h := ?_)
 refine QbC (fun m st => ∃ (k g : Nat) (out : List (List UInt8)), k <= l.length /\ m = l.length - k /\ out.length = k /\ Hid (out = (l.take k).map Pl.ptrPut) /\ Hid ((l.take k).all Pl.ptrOk = true) /\
  st = ⟨32, [(17, .d (dI k)), (16, .d (dI l.length)), (15, .d (dPtrs l)), (4, .osl 0 g 0 out.length)], [.arr g 1 9 (out.map fun s => [dS s])]⟩) [17, 16, 15, 4] 1 l.length ⟨0, 0, [], by omega, rfl, rfl, Pm.hid rfl, Pm.hid rfl, rfl⟩ (round := ?_)
 rintro m st ⟨k, g, out, hk, rfl, hlen, hO, hA, rfl⟩
 (repeat (first | refine e1 (k := ?_) | refine Qbr ?_ | refine Qbt ?_ | refine Qbq ?_ | fail))
 cases q3 : decide ((k : Int) < (l.length : Int))
 ·have hk3 : k = l.length := by simp at q3; omega
  rw [hk3, List.take_length] at hO hA;rw [hA.out, if_pos rfl] at hd2;have ho := hO.out;rw [<- ho] at cj hd2;clear hO hA ho
  (repeat (first | refine e1 (k := ?_) | refine Qbt ?_ | refine Qbq ?_ | refine Qb1 (hf := ?_) | refine Qb3 ?_ | fail))
  refine QdR 0 (h := ?_)
  (repeat' (first | refine e1 (k := ?_) | refine stepS (Qbs Tryz.call300 cj rfl) (k := ?_) | refine Qbr ?_ | fail))
  refine Qb0 (hx := ?_);rw [hd2.out]
 have hk2 : k < l.length := by simp at q3; omega
 obtain ⟨x, hx⟩ : ∃ x, l[k]? = some x := ⟨_, List.getElem?_eq_getElem hk2⟩;have hr := QbB (f := rPtr) hx;have T1 : Hid ((l.take (k + 1)).map Pl.ptrPut = out ++ [Pl.ptrPut x]) := Pm.hid (by rw [List.take_add_one, hx, hO.out]; simp);have T2 : Hid (Pl.ptrOk x = true -> (l.take (k + 1)).all Pl.ptrOk = true) := Pm.hid fun h => by rw [List.take_add_one, hx, List.all_append, hA.out]; simpa using h
 have F : Hid (Pl.ptrOk x = false -> Pl.QaN l = ([], false)) := Pm.hid fun h => by
  rw [hd2.out, if_neg];intro h2;have := List.all_eq_true.1 h2 x (List.mem_of_getElem? hx);rw [h] at this; cases this
 have c2 := bPtrOk x;have c3 := bPtrPut x;clear hx hO hA hd2 cj c1;generalize Pl.ptrOk x = ok at *
 generalize Pl.ptrPut x = t at *
 obtain ⟨p1, p2, p3, p4, p5⟩ := x
 (repeat' (first | refine e1 (k := ?_) | refine stepS (Qbs Tryz.call218 c2 rfl) (k := ?_) | refine stepS (Qbs Tryz.call245 c3 rfl) (k := ?_) | refine stepS (Qbw Ty.h rfl Ty.h rfl rfl rfl (by omega) hr) (k := ?_) | refine Qcf Ty.h rfl Ty.h (hb := ?_) (kk := ?_) | refine stepS (Qb6 rfl rfl (by omega)) (k := ?_) | refine stepS2 (QbD Ty.h rfl Ty.h) (k := ?_) | refine QbA (kk := ?_) | refine Qbr ?_ | refine Qb4 ?_ | refine QbF ?_ | refine Qbt ?_ | refine Qbq ?_ | refine Qbz (ht := ?_) | refine Qb2 (ht := fun q => ?_) (hf := fun q => ?_) | refine Qby ?_ | refine Qbx ?_ | refine e2 (k := ?_) | fail))
 all_goals first
  |(simp; omega)
  |(refine Qb8 (l.length - (k + 1)) (by omega) ⟨k + 1, g + 1, out ++ [t], by omega, rfl, by simp [hlen], Pm.hid T1.out.symm, Pm.hid (T2.out (by simpa using q)), ?_⟩; simp [keepE, go_sem]; done)
  |(refine Qb0 (hx := ?_); rw [F.out (by simpa using q)])
  |(skip; rw [F.out (by simpa using q)]; rfl)
end Aw
end Go.Proofs.YtdjkdcokjoiokaaGreatDoor
namespace Go.Proofs.YtdjkdcokjoiokaaGreatDoor
open Go.RowKit
namespace Aw
attribute [local irreducible] ASeq ADraw AWP Loc AStep
theorem pg_put {x : List UInt8} {p : Pl.Ptr} (h : Pl.pg x = (p, true)) : Pl.ptrPut p = x /\ Pl.ptrOk p = true := by
 unfold Pl.pg at h;split at h
 ·rename_i hx
  obtain ⟨h1, _⟩ := Prod.mk.inj h;have := Classical.choose_spec hx;rw [h1] at this;exact ⟨this.2, this.1⟩
 ·obtain ⟨_, h2⟩ := Prod.mk.inj h; cases h2
theorem bFanGet (s : List UInt8) (hs : s.length <= 1000000) : Pure Tryz.prog 271 [dS s] (.tup [tPtrs (Pl.fan s).1, dB (Pl.fan s).2]) := by
 have c0 := bSplit s 44 (by omega);have hW := QcH 44 s;have hj := Pm.hid (QfJ 44 s);have hfan : Hid (Pl.fan s = if ((Pl.cutB 44 s).map Pl.pg).all (·.2) && (((Pl.cutB 44 s).map Pl.pg).length == 4) && ((Pl.cutB 44 s).map Pl.pg).any (fun q => !Pl.ptrHole q.1) then (((Pl.cutB 44 s).map Pl.pg).map (·.1), true) else ([], false)) := Pm.hid rfl;generalize Pl.cutB 44 s = l at *
 (refine Qbv Tryz.func271 rfl Tryz.ntmps271 Tryz.results271 rfl ?_; simp only [parE, Nat.zero_add, Nat.reduceAdd])
 (repeat' (first | refine e1 (k := ?_) | refine stepS (Qbs Tryz.call243 c0 rfl) (k := ?_) | refine Qbr ?_ | refine Qbt ?_ | refine Qbq ?_ | refine Qbx ?_ | fail))
 refine QeZ 4 5 54 (h := ?_)
 refine QbC (fun m st => ∃ (k g : Nat) (out : List Pl.Ptr), k <= l.length /\ m = l.length - k /\ out.length = k /\ k <= 4 /\ Hid (out = ((l.map Pl.pg).take k).map (·.1)) /\ Hid (((l.map Pl.pg).take k).all (·.2) = true) /\ Hid (out.map Pl.ptrPut = l.take k /\ out.all Pl.ptrOk = true) /\
  st = ⟨48, [(14, .d (dI k)), (13, .d (dI l.length)), (12, .d (tStrs l)), (4, .osl 0 g 0 out.length), (0, .d (dS s))], [.arr g 5 54 (out.map rPtr)]⟩) [14, 13, 12, 4, 0] 1 l.length ⟨0, 0, [], by omega, rfl, rfl, by omega, Pm.hid rfl, Pm.hid (by simp), Pm.hid ⟨rfl, rfl⟩, rfl⟩ (round := ?_)
 rintro m st ⟨k, g, out, hk, rfl, hlen, hk4, hO, hA, hP, rfl⟩
 (repeat (first | refine e1 (k := ?_) | refine Qbr ?_ | refine Qbt ?_ | refine Qbq ?_ | fail))
 cases q3 : decide ((k : Int) < (l.length : Int))
 ·have hk3 : k = l.length := by simp at q3; omega
  have c1 := (bFanPut out (by omega)).arg (l := [tPtrs out]);have hlm : (l.map Pl.pg).length = k := by rw [List.length_map, hk3]
  have ho := hO.out;rw [<- hlm, List.take_length] at ho;have ha := hA.out;rw [<- hlm, List.take_length] at ha;have hp1 := hP.out.1;rw [hk3, List.take_length] at hp1;have hany : (l.map Pl.pg).any (fun q => !Pl.ptrHole q.1) = out.any (fun p => !Pl.ptrHole p) := by rw [ho]; simp only [List.any_map]; rfl
  have hpd : Hid (Pl.QaN out = if out.length = 4 /\ out.any (fun p => !Pl.ptrHole p) = true /\ out.all Pl.ptrOk = true then (Pl.QaB 44 (out.map Pl.ptrPut), true) else ([], false)) := Pm.hid rfl
  have e2 : Pl.QaN out = if out.length = 4 /\ out.any (fun p => !Pl.ptrHole p) = true then (s, true) else ([], false) := by
   rw [hpd.out, hp1, hj.out]
   by_cases h : out.length = 4 /\ out.any (fun p => !Pl.ptrHole p) = true
   ·rw [if_pos h, if_pos ⟨h.1, h.2, hP.out.2⟩]
   ·rw [if_neg h, if_neg (fun x => h ⟨x.1, x.2.1⟩)]
  have e1 : Pl.fan s = if out.length = 4 /\ out.any (fun p => !Pl.ptrHole p) = true then (out, true) else ([], false) := by
   rw [hfan.out, ha, hany, hlm, <- hlen, <- ho]
   by_cases h : out.length = 4 /\ out.any (fun p => !Pl.ptrHole p) = true
   ·rw [if_pos h, if_pos]
    rw [h.1, h.2]; rfl
   ·rw [if_neg h, if_neg]
    intro x;simp only [Bool.and_eq_true, beq_iff_eq, true_and] at x;exact h x
  have hres : Hid (Pl.fan s = if (Pl.QaN out).2 = true /\ (Pl.QaN out).1 = s then (out, true) else ([], false)) := Pm.hid (by
   rw [e1, e2]
   by_cases h : out.length = 4 /\ out.any (fun p => !Pl.ptrHole p) = true
   ·rw [if_pos h, if_pos h, if_pos ⟨rfl, rfl⟩]
   ·rw [if_neg h, if_neg h, if_neg (by simp)])
  clear e1 e2;clear hO hA hP ho ha hp1 hany hpd hfan hj c0;generalize Pl.QaN out = r at *
  obtain ⟨again, fine⟩ := r
  (repeat (first | refine e1 (k := ?_) | refine Qbt ?_ | refine Qbq ?_ | refine Qb1 (hf := ?_) | refine Qb3 ?_ | fail))
  refine QdR 0 (h := ?_)
  (repeat' (first | refine e1 (k := ?_) | refine e0 (k := ?_) | refine stepS (Qbs Tryz.call317 c1 rfl) (k := ?_) | refine stepS (QbU rfl rfl) (k := ?_) | refine Qbr ?_ | refine Qbt ?_ | refine Qbq ?_ | refine Qbz (ht := ?_) | refine Qb2 (ht := fun q => ?_) (hf := fun q => ?_) | refine Qby ?_ | ((fail_if_success show ASeq _ _ _ _ ⟨_, (_, .d (.v (.bool true))) :: _, _⟩); (fail_if_success show ASeq _ _ _ _ ⟨_, (_, .d (.v (.bool false))) :: _, _⟩); refine splitS (fun q => ?_) (fun q => ?_))))
  all_goals first
   |(refine Qco 2 true 5 (h := ?_); refine Qb0 (hx := ?_); rw [hres.out, if_neg (by simp_all)]; rfl)
   |(refine Qco 2 true 5 (h := ?_); refine Qb0 (hx := ?_); rw [hres.out, if_neg (by simp_all)])
   |(refine Qb0 (hx := ?_); rw [hres.out, if_pos (by simp_all)])
 have hk2 : k < l.length := by simp at q3; omega
 obtain ⟨x, hx⟩ : ∃ x, l[k]? = some x := ⟨_, List.getElem?_eq_getElem hk2⟩;have hr := QbB (f := fun s => [dS s]) hx;have hx3 : x.length <= 4294967280 := by have := hW.2 x (List.mem_of_getElem? hx); omega
 obtain ⟨p, ok, hp⟩ : ∃ p ok, Pl.pg x = (p, ok) := ⟨_, _, rfl⟩;have hg := bPtrGet x hx3;rw [hp] at hg;have hl : (l.map Pl.pg)[k]? = some (p, ok) := by rw [List.getElem?_map, hx]; simp [hp]
 have hst : (l.map Pl.pg).take (k + 1) = (l.map Pl.pg).take k ++ [(p, ok)] := by rw [List.take_add_one, hl]; rfl
 have F : Hid (ok = false ∨ k = 4 -> Pl.fan s = ([], false)) := Pm.hid fun e => by
  rw [hfan.out, if_neg];intro h;simp only [Bool.and_eq_true, beq_iff_eq, List.length_map] at h;rcases e with e | e
  ·have := List.all_eq_true.1 h.1.1 _ (List.mem_of_getElem? hl)
   rw [e] at this; cases this
  ·omega
 have T1 : Hid (out ++ [p] = ((l.map Pl.pg).take (k + 1)).map (·.1)) := Pm.hid (by rw [hst, hO.out]; simp)
 have T2 : Hid (ok = true -> ((l.map Pl.pg).take (k + 1)).all (·.2) = true /\ (out ++ [p]).map Pl.ptrPut = l.take (k + 1) /\ (out ++ [p]).all Pl.ptrOk = true) := Pm.hid fun e => by
  subst e;have hpp := pg_put hp;refine ⟨by rw [hst, List.all_append, hA.out]; rfl, by rw [List.map_append, hP.out.1, List.take_add_one, hx]; simp [hpp.1], by rw [List.all_append, hP.out.2]; simp [hpp.2]⟩
 clear hx hp hl hst hO hA hP hfan hj c0;obtain ⟨p1, p2, p3, p4, p5⟩ := p
 (repeat' (first | refine e1 (k := ?_) | refine e0 (k := ?_) | refine stepS (Qbs Tryz.call170 hg rfl) (k := ?_) | refine stepS (Qbw Ty.h rfl Ty.h rfl rfl rfl (by omega) hr) (k := ?_) | refine Qcf Ty.h rfl Ty.h (hb := ?_) (kk := ?_) | refine stepS (Qb6 rfl rfl (by omega)) (k := ?_) | refine stepS2 (QbD Ty.h rfl Ty.h) (k := ?_) | refine QbA (kk := ?_) | refine Qbr ?_ | refine Qb4 ?_ | refine QbF ?_ | refine Qbt ?_ | refine Qbq ?_ | refine Qbz (ht := ?_) | refine Qb2 (ht := fun q => ?_) (hf := fun q => ?_) | refine Qby ?_ | refine Qbx ?_ | refine e2 (k := ?_) | ((fail_if_success show ASeq _ _ _ _ ⟨_, (_, .d (.v (.bool true))) :: _, _⟩); (fail_if_success show ASeq _ _ _ _ ⟨_, (_, .d (.v (.bool false))) :: _, _⟩); refine splitS (fun q => ?_) (fun q => ?_))))
 all_goals first
  |(simp; omega)
  |(refine Qb8 (l.length - (k + 1)) (by omega) ⟨k + 1, g + 1, out ++ [⟨p1, p2, p3, p4, p5⟩], by omega, rfl, by simp [hlen], ?_, Pm.hid T1.out, Pm.hid (T2.out (by simpa using ‹(!ok) = false›)).1, Pm.hid (T2.out (by simpa using ‹(!ok) = false›)).2, ?_⟩
    ·simp only [beq_eq_false_iff_ne] at *; omega
    ·simp [keepE, go_sem])
  |(refine Qco 2 true 5 (h := ?_)
    refine Qb0 (hx := ?_)
    rw [F.out (by first | exact .inl (by simpa using q) | exact .inr (by simp only [beq_iff_eq] at q; omega))]; rfl)
theorem bDepth (n : Int) : Pure Tryz.prog 222 [dI n] (dI (if n <= 1 then 0 else if n <= 4 then 1 else 2)) := by
 (refine Qbv Tryz.func222 rfl Tryz.ntmps222 Tryz.results222 rfl ?_; simp only [parE, Nat.zero_add, Nat.reduceAdd])
 (repeat' (first | refine e1 (k := ?_) | refine Qbr ?_ | refine Qbt ?_ | refine Qbq ?_ | refine Qb2 (ht := fun q => ?_) (hf := fun q => ?_) | refine Qby ?_ | refine Qbx ?_ | fail))
 all_goals exact Qb0 (hx := congrArg dI (by simp at *; split <;> (try split) <;> omega))
noncomputable def Pl.Qbk (s : Pm.Store) (p : Pl.Ptr) (level : Int) : List Pl.Ptr × Bool :=
 if Pl.ptrHole p then (List.replicate 4 Pl.hole, true) else
 if (Pl.rd s.1 p).2 = true /\ p.level = level then ((Pl.fan (Pl.rd s.1 p).1).1, (Pl.fan (Pl.rd s.1 p).1).2 && !(Pl.fan (Pl.rd s.1 p).1).1.any (fun q => decide (p.birth < q.birth))) else ([], false)
theorem QfT {s : Pm.Store} {p : Pl.Ptr} {level : Int} (h1 : Pl.ptrOk p = true) (h2 : p.birth <= s.2.2.1) : (Pl.Qbk s p level).2 = (Pl.Qak s p level).2 /\ ((Pl.Qak s p level).2 = true -> Pl.Qbk s p level = Pl.Qak s p level) := by
 unfold Pl.Qbk Pl.Qak;split
 ·exact ⟨rfl, fun _ => rfl⟩
 ·by_cases h : (Pl.rd s.1 p).2 = true /\ p.level = level
  ·rw [if_pos h, if_pos (by simp [h1, h.1, h.2, h2])]
   generalize Pl.fan (Pl.rd s.1 p).1 = r;obtain ⟨l, ok⟩ := r;simp only;cases l.any (fun q => decide (p.birth < q.birth)) <;> simp
  ·rw [if_neg h, if_neg (by simp only [Bool.and_eq_true, beq_iff_eq, decide_eq_true_eq]; intro x; exact h ⟨x.2, x.1.1.2⟩)]
   exact ⟨rfl, fun _ => rfl⟩
theorem bFanOf (s : Pm.Store) (hg : Pl.Good s) (p : Pl.Ptr) (hp : Pl.ptrHole p = false -> Pl.ptrOk p = true) (level : Int) : Pure Tryz.prog 200 [.pd (rSt s), dPtr p, dI level] (.tup [tPtrs (Pl.Qbk s p level).1, dB (Pl.Qbk s p level).2]) := by
 have hd : Hid (Pl.Qbk s p level = if Pl.ptrHole p then (List.replicate 4 Pl.hole, true) else
  if (Pl.rd s.1 p).2 = true /\ p.level = level then ((Pl.fan (Pl.rd s.1 p).1).1, (Pl.fan (Pl.rd s.1 p).1).2 && !(Pl.fan (Pl.rd s.1 p).1).1.any (fun q => decide (p.birth < q.birth))) else ([], false)) := Pm.hid rfl
 have c1 := Qc3 p;cases h1 : Pl.ptrHole p;rotate_left
 ·rw [h1] at c1 hd
  (refine Qbv Tryz.func200 rfl Tryz.ntmps200 Tryz.results200 rfl ?_; simp only [parE, Nat.zero_add, Nat.reduceAdd])
  (refine Qbt (Qbq ?_); (repeat (first | refine e1 (k := ?_) | refine e2 (k := ?_) | fail)); refine Qbr ?_)
  refine Qbu 0 (h := ?_)
  (repeat' (first | refine e1 (k := ?_) | refine stepS (Qbs Tryz.call199 c1 rfl) (k := ?_) | refine stepS2 (QjH Ty.h rfl Ty.h rfl rfl) (k := ?_) | refine Qbr ?_ | refine Qbt ?_ | refine Qbq ?_ | refine Qbz (ht := ?_) | fail))
  (refine Qbu 1 (h := ?_); refine Qb0 (hx := ?_))
  rw [hd.out]; rfl
 have c2 := bRead s hg p hp;have hlen := Qgq s hg p;rw [h1] at c1 hd;generalize Pl.rd s.1 p = r at *
 obtain ⟨tx, ok⟩ := r;simp only at hlen hd;have c3 := bFanGet tx (by omega);have hfl := Qji tx;generalize Pl.fan tx = fb at *
 obtain ⟨l, fine⟩ := fb;simp only at hfl hd;have c4 := Qhy l (by omega) 272 (.pd (rPtr p)) (fun q => decide (p.birth < q.birth)) Tryz.call272 fun q _ => bFanOf1 p q
 generalize l.any (fun q => decide (p.birth < q.birth)) = any at *
 (refine Qbv Tryz.func200 rfl Tryz.ntmps200 Tryz.results200 rfl ?_; simp only [parE, Nat.zero_add, Nat.reduceAdd])
 (refine Qbt (Qbq ?_); (repeat (first | refine e1 (k := ?_) | refine e2 (k := ?_) | fail)); refine Qbr ?_)
 refine Qbu 0 (h := ?_);have c5 := c4.arg (l := [.d (tPtrs l), .fn (.func 272) [.d (.pd (rPtr p))]])
 (repeat' (first | refine e1 (k := ?_) | refine e0 (k := ?_) | refine stepS (Qbs Tryz.call199 c1 rfl) (k := ?_) | refine stepS (Qbs Tryz.call223 c2 rfl) (k := ?_) | refine stepS (Qbs Tryz.call271 c3 rfl) (k := ?_) | refine stepS (Qdt rfl) (k := ?_) | refine stepS (Qcv Tryz.call150 c5 rfl rfl) (k := ?_) | refine Qbr ?_ | refine Qbt ?_ | refine Qbq ?_ | refine Qbz (ht := ?_) | refine Qb1 (hf := ?_) | refine Qb2 (ht := fun q => ?_) (hf := fun q => ?_) | refine Qby ?_ | ((fail_if_success show ASeq _ _ _ _ ⟨_, (_, .d (.v (.bool true))) :: _, _⟩); (fail_if_success show ASeq _ _ _ _ ⟨_, (_, .d (.v (.bool false))) :: _, _⟩); refine splitS (fun q => ?_) (fun q => ?_))))
 all_goals first
  |(refine Qco 6 true 5 (h := ?_)
    refine Qb0 (hx := ?_)
    rw [hd.out, if_neg (by simp), if_neg (by simp_all)]; rfl)
  |(refine Qb0 (hx := ?_)
    rw [hd.out, if_neg (by simp), if_pos (by simp_all)]; simp_all)
end Aw
end Go.Proofs.YtdjkdcokjoiokaaGreatDoor

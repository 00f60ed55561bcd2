/- Part 20 of seek_card: contracts, walks, laws; no condition beyond the statement's. -/
import Derived.Test.YtdjkdcokjoiokaaGreatDoorW17
import Derived.Test.YtdjkdcokjoiokaaGreatDoorW19
set_option linter.all false
set_option maxRecDepth 100000
set_option maxHeartbeats 16000000
namespace Go.Proofs.YtdjkdcokjoiokaaGreatDoor
section
open Go.RowKit
namespace Aw
attribute [local irreducible] ASeq ADraw AWP Loc AStep
theorem Qc6 (p : Pl.Ptr) : Pure Tryz.prog 199 [dPtr p] (dB (Pl.ptrHole p)) := QbI rfl fun w _ => Pm.Qft p w
theorem bPtrOk (p : Pl.Ptr) : Pure Tryz.prog 218 [dPtr p] (dB (Pl.ptrOk p)) := QbI rfl fun w _ => Pm.imPtrOk p w
theorem bIn (a b c : Int) : Pure Tryz.prog 45 [dI a, dI b, dI c] (dB (Pl.inR a b c)) := QbI rfl fun w _ => (Pm.imIn a b c w).mono fun _ _ h => ⟨h.1, h.2 ▸ Below.refl _ _⟩
theorem bSumOf (s : List UInt8) (h : s.length <= Pm.big) : Pure Tryz.prog 247 [dS s] (dI (Pl.sumOf s : Nat)) := QbI rfl fun w _ => (Pm.imSumOf s w h).mono fun e w' h => ⟨h.1, h.2 ▸ Below.refl _ _⟩
theorem bNumGet (s : List UInt8) (hs : s.length <= Pm.big) : Pure Tryz.prog 102 [dS s] (.tup [dI ((Pl.numGet s).getD 0 : Nat), dB (Pl.numGet s).isSome]) :=
 Qci (xs := [.int .i64 ((Pl.numGet s).getD 0 : Nat), .bool (Pl.numGet s).isSome]) rfl fun w hL => (Pm.Qje s w hs hL).mono fun e w' h => ⟨h.1.trans (by cases Pl.numGet s <;> rfl), h.2⟩
theorem bPtrPut (p : Pl.Ptr) : Pure Tryz.prog 245 [dPtr p] (dS (Pl.ptrPut p)) := QbI rfl fun w hL => Pm.Qgx p w hL
theorem bPtrGet (s : List UInt8) (hs : s.length <= 4294967280) : Pure Tryz.prog 170 [dS s] (.tup [dPtr (Pl.pg s).1, dB (Pl.pg s).2]) := by
 refine Qci (xs := [Pm.vptr (Pl.pg s).1, .bool (Pl.pg s).2]) rfl fun w hL => (Pm.QmS s w hs hL).mono ?_
 rintro e w' ⟨h | h, hb⟩
 ·obtain ⟨p, hp, rfl⟩ := h
  rw [pg_is hp]; exact ⟨rfl, hb⟩
 ·rw [QnE h.1]; exact ⟨h.2, hb⟩
theorem Qno (p : Pl.Ptr) (s : List UInt8) (hs : s.length <= Pm.big) : Pure Tryz.prog 286 [dPtr p, dS s] (dB (Pl.fits p s)) := by
 (refine Qbk Tryz.func286 rfl Tryz.ntmps286 Tryz.results286 rfl ?_; simp only [parE, Nat.zero_add, Nat.reduceAdd])
 (refine Qbf (Qbc ?_); (repeat (first | refine e1 (k := ?_) | refine e2 (k := ?_) | fail)); refine Qbd ?_)
 refine Qbg 0 (h := ?_)
 (repeat' (first | refine f1 (k := ?_) | refine f0 (k := ?_) | refine stepD (Qbe Tryz.call218 (bPtrOk p) rfl) (k := ?_) | refine stepD (Qbe Tryz.call199 (Qc6 p) rfl) (k := ?_) | refine stepD (Qbe Tryz.call247 (bSumOf s hs) rfl) (k := ?_) | refine Qbr ?_ | refine Qbf ?_ | refine Qb1 follows_mixed (by kernel_rfl) (by kernel_rfl) ?_ | ((fail_if_success show ADraw _ _ _ _ ⟨_, (_, .d (.v (.bool true))) :: _, _⟩); (fail_if_success show ADraw _ _ _ _ ⟨_, (_, .d (.v (.bool false))) :: _, _⟩); refine splitD (fun q => ?_) (fun q => ?_))))
 all_goals exact Qbn (hx := congrArg dB (by simp_all [Pl.fits]))
theorem bRead (s : Pm.Store) (hg : Pl.Good s) (p : Pl.Ptr) (hp : Pl.ptrHole p = false -> Pl.ptrOk p = true) : Pure Tryz.prog 223 [.pd (rSt s), dPtr p] (.tup [dS (Pl.rd s.1 p).1, dB (Pl.rd s.1 p).2]) := by
 have hd : Hid (Pl.rd s.1 p = if Pl.ptrHole p then ([], true) else if Pl.fits p (s.1.getD p.pat.toNat []) then (s.1.getD p.pat.toNat [], true) else ([], false)) := Pm.hid rfl
 (refine Qbk Tryz.func223 rfl Tryz.ntmps223 Tryz.results223 rfl ?_; simp only [parE, Nat.zero_add, Nat.reduceAdd])
 (refine Qbf (Qbc ?_); (repeat (first | refine e1 (k := ?_) | refine e2 (k := ?_) | fail)); refine Qbd ?_)
 refine Qbg 0 (h := ?_);cases h1 : Pl.ptrHole p;rotate_left
 ·(repeat' (first | refine e1 (k := ?_) | refine stepS (Qbe Tryz.call199 (h1 ▸ Qc6 p) rfl) (k := ?_) | refine Qbd ?_ | refine Qbf ?_ | refine Qbc ?_ | refine Qbl (ht := ?_) | refine Qbi ?_ | fail))
  all_goals exact Qbn (hx := by rw [hd.out, h1]; rfl)
 ·have hat := Qdi (hp h1) h1
  have hm := hg.many;obtain ⟨x, hx⟩ : ∃ x, s.1[p.pat.toNat]? = some x := ⟨_, List.getElem?_eq_getElem (by omega)⟩;have hr : (s.1.map fun s => [dS s])[p.pat.toNat]? = some [dS x] := by rw [List.getElem?_map, hx]; rfl
  have hgd : s.1.getD p.pat.toNat [] = x := by rw [List.getD_eq_getElem?_getD, hx]; rfl
  have hxl : x.length <= Pm.big := by have := hg.row x (List.mem_of_getElem? hx); unfold Pm.big; omega
  rw [hgd, h1] at hd;clear hx hgd
  (repeat' (first | refine f1 (k := ?_) | refine e1 (k := ?_) | refine stepD (QbF rfl) (k := ?_) | refine stepS (Qbe Tryz.call199 (h1 ▸ Qc6 p) rfl) (k := ?_) | refine stepD (Qbe Tryz.call286 (Qno p x hxl) rfl) (k := ?_) | refine stepD (Qbh Ty.h rfl Ty.h rfl rfl rfl hat.1 hr) (k := ?_) | refine Qbd ?_ | refine Qbr ?_ | refine Qbf ?_ | refine Qbc ?_ | refine Qb1 follows_mixed (by kernel_rfl) (by kernel_rfl) ?_ | refine Qbm (hf := ?_) | refine Qbo (ht := fun q => ?_) (hf := fun q => ?_) | refine Qbj ?_ | refine Qbi ?_ | fail))
  ·refine Qbn (hx := ?_)
   rw [hd.out]; simp_all
  ·refine Qbn (hx := ?_)
   rw [hd.out]; simp_all
theorem Qns (p : Pl.Ptr) : Pure Tryz.prog 345 [dPtr p] (dB (!Pl.ptrHole p)) := by
 (refine Qbk Tryz.func345 rfl Tryz.ntmps345 Tryz.results345 rfl ?_; simp only [parE, Nat.zero_add, Nat.reduceAdd])
 (refine Qbf (Qbc ?_); (repeat (first | refine e1 (k := ?_) | refine e2 (k := ?_) | fail)); refine Qbd ?_)
 refine Qbg 0 (h := ?_)
 (repeat' (first | refine e1 (k := ?_) | refine stepS (Qbe Tryz.call199 (Qc6 p) rfl) (k := ?_) | refine Qbd ?_ | refine Qbf ?_ | refine Qbc ?_ | fail))
 exact Qbn (hx := rfl)
theorem bFanOf1 (p k : Pl.Ptr) : Pure Tryz.prog 272 [dPtr k, .pd (rPtr p)] (dB (decide (p.birth < k.birth))) := by
 (refine Qbk Tryz.func272 rfl Tryz.ntmps272 Tryz.results272 rfl ?_; simp only [parE, Nat.zero_add, Nat.reduceAdd])
 (refine Qbf (Qbc ?_); (repeat (first | refine e1 (k := ?_) | refine e2 (k := ?_) | fail)); refine Qbd ?_)
 refine Qbg 0 (h := ?_)
 (repeat' (first | refine e1 (k := ?_) | refine Qbd ?_ | refine Qbf ?_ | refine Qbc ?_ | fail))
 exact Qbn (hx := rfl)
def Pl.idxP (l : List Pl.Ptr) (pr : Pl.Ptr -> Bool) : Int := match l.findIdx? pr with
 |some i => (i : Int)
 |none => -1
theorem Qjf (l : List Pl.Ptr) (pr : Pl.Ptr -> Bool) : decide (Pl.idxP l pr ≥ 0) = l.any pr := by
 unfold Pl.idxP;cases h : l.findIdx? pr with
 |none =>
  rw [List.findIdx?_eq_none_iff] at h;have : l.any pr = false := by rw [List.any_eq_false]; intro x hx; rw [h x hx]; simp
  rw [this]; rfl
 |some i =>
  obtain ⟨hi, h1, _⟩ := List.findIdx?_eq_some_iff_getElem.1 h;have : l.any pr = true := List.any_eq_true.2 ⟨_, List.getElem_mem hi, h1⟩;rw [this]; simp
theorem Qkx (l : List Pl.Ptr) (hl : l.length <= 1000000) (f : FuncId) (pr : Pl.Ptr -> Bool) (hf : ∀ args w, (callFunc f args).run Tryz.prog w = .ok (.enter f args) w) (h : ∀ p ∈ l, Pure Tryz.prog f [dPtr p] (dB (pr p))) :
 PureF Tryz.prog 225 [.d (dPtrs l), .fn (.func f) []] (dI (Pl.idxP l pr)) := by
 (refine Qcz Tryz.func225 rfl Tryz.ntmps225 Tryz.results225 rfl ?_; simp only [parA, Nat.zero_add, Nat.reduceAdd])
 (repeat' (first | refine e1 (k := ?_) | refine Qbd ?_ | refine Qbf ?_ | refine Qbc ?_ | refine Qbi ?_ | fail))
 refine Qby (fun m st => ∃ k : Nat, k <= l.length /\ m = l.length - k /\ Hid (∀ x ∈ l.take k, pr x = false) /\ st = ⟨19, [(8, .d (dI k)), (7, .d (dI l.length)), (0, .d (dPtrs l)), (1, .fn (.func f) [])], []⟩) [8, 7, 0, 1] 0 l.length ⟨0, by omega, rfl, Pm.hid (by simp), rfl⟩ (round := ?_);rintro m st ⟨k, hk, rfl, hA, rfl⟩
 (repeat (first | refine e1 (k := ?_) | refine Qbd ?_ | refine Qbf ?_ | refine Qbc ?_ | fail))
 cases q3 : decide ((k : Int) < (l.length : Int))
 ·(repeat' (first | refine e1 (k := ?_) | refine Qbd ?_ | refine Qbf ?_ | refine Qbc ?_ | refine Qbm (hf := ?_) | refine Qbq ?_ | fail))
  refine QbA (hx := ?_);have : k = l.length := by simp at q3; omega
  have h := hA.out;rw [this, List.take_length] at h;have : l.findIdx? pr = none := List.findIdx?_eq_none_iff.2 h;unfold Pl.idxP; rw [this]
 have hk2 : k < l.length := by simp at q3; omega
 obtain ⟨x, hx⟩ : ∃ x, l[k]? = some x := ⟨_, List.getElem?_eq_getElem hk2⟩;have hr := Qbx (f := rPtr) hx
 have T : Hid (pr x = false -> ∀ y ∈ l.take (k + 1), pr y = false) := Pm.hid fun h y hy => by
  rw [List.take_add_one, hx] at hy;rcases List.mem_append.1 hy with hy | hy
  ·exact hA.out y hy
  ·simp at hy; subst hy; exact h
 have F : Hid (pr x = true -> Pl.idxP l pr = k) := Pm.hid fun h => by
  have : l.findIdx? pr = some k := by
   rw [List.findIdx?_eq_some_iff_getElem];refine ⟨hk2, ?_, fun j hj => ?_⟩
   ·rw [(List.getElem?_eq_some_iff.1 hx).2]; exact h
   ·have := hA.out l[j] (List.mem_iff_getElem?.2 ⟨j, by rw [List.getElem?_take, if_pos hj]; exact List.getElem?_eq_getElem (by omega)⟩)
    rw [this]; simp
  unfold Pl.idxP; rw [this]
 have c := h x (List.mem_of_getElem? hx);clear hx hA;generalize pr x = b at *
 (repeat' (first | refine e1 (k := ?_) | refine stepS (Qbh Ty.h rfl Ty.h rfl rfl rfl (by omega) hr) (k := ?_) | refine stepS (Qcp hf c rfl rfl) (k := ?_) | refine stepS (Qbs rfl rfl (by omega)) (k := ?_) | refine Qbd ?_ | refine Qbp ?_ | refine Qbf ?_ | refine Qbc ?_ | refine Qbl (ht := ?_) | refine Qbo (ht := fun q => ?_) (hf := fun q => ?_) | refine Qbj ?_ | refine Qbi ?_ | fail))
 all_goals first
  |exact Qbt (l.length - (k + 1)) (by omega) ⟨k + 1, by omega, rfl, Pm.hid (T.out (by assumption)), rfl⟩
  |(refine QbA (hx := ?_); rw [F.out (by assumption)])
theorem QgE (l : List Pl.Ptr) (hl : l.length <= 1000000) (f : FuncId) (pr : Pl.Ptr -> Bool) (hf : ∀ args w, (callFunc f args).run Tryz.prog w = .ok (.enter f args) w) (h : ∀ p ∈ l, Pure Tryz.prog f [dPtr p] (dB (pr p))) :
 PureF Tryz.prog 150 [.d (dPtrs l), .fn (.func f) []] (dB (l.any pr)) := by
 have c := Qkx l hl f pr hf h;have hd := Pm.hid (Qjf l pr);generalize Pl.idxP l pr = i at *
 (refine Qcz Tryz.func150 rfl Tryz.ntmps150 Tryz.results150 rfl ?_; simp only [parA, Nat.zero_add, Nat.reduceAdd])
 (repeat' (first | refine e1 (k := ?_) | refine stepS (Qc0 Tryz.call225 c rfl rfl) (k := ?_) | refine Qbd ?_ | refine Qbf ?_ | refine Qbc ?_ | fail))
 refine QbA (hx := ?_);rw [<- hd.out]
theorem Qkw (l : List Pl.Ptr) (hl : l.length <= 1000000) (f : FuncId) (cap : D) (pr : Pl.Ptr -> Bool) (hf : ∀ args w, (callFunc f args).run Tryz.prog w = .ok (.enter f args) w) (h : ∀ p ∈ l, Pure Tryz.prog f [dPtr p, cap] (dB (pr p))) :
 PureF Tryz.prog 225 [.d (dPtrs l), .fn (.func f) [.d cap]] (dI (Pl.idxP l pr)) := by
 (refine Qcz Tryz.func225 rfl Tryz.ntmps225 Tryz.results225 rfl ?_; simp only [parA, Nat.zero_add, Nat.reduceAdd])
 (repeat' (first | refine e1 (k := ?_) | refine Qbd ?_ | refine Qbf ?_ | refine Qbc ?_ | refine Qbi ?_ | fail))
 refine Qby (fun m st => ∃ k : Nat, k <= l.length /\ m = l.length - k /\ Hid (∀ x ∈ l.take k, pr x = false) /\ st = ⟨19, [(8, .d (dI k)), (7, .d (dI l.length)), (0, .d (dPtrs l)), (1, .fn (.func f) [.d cap])], []⟩) [8, 7, 0, 1] 0 l.length ⟨0, by omega, rfl, Pm.hid (by simp), rfl⟩ (round := ?_);rintro m st ⟨k, hk, rfl, hA, rfl⟩
 (repeat (first | refine e1 (k := ?_) | refine Qbd ?_ | refine Qbf ?_ | refine Qbc ?_ | fail))
 cases q3 : decide ((k : Int) < (l.length : Int))
 ·(repeat' (first | refine e1 (k := ?_) | refine Qbd ?_ | refine Qbf ?_ | refine Qbc ?_ | refine Qbm (hf := ?_) | refine Qbq ?_ | fail))
  refine QbA (hx := ?_);have : k = l.length := by simp at q3; omega
  have h := hA.out;rw [this, List.take_length] at h;have : l.findIdx? pr = none := List.findIdx?_eq_none_iff.2 h;unfold Pl.idxP; rw [this]
 have hk2 : k < l.length := by simp at q3; omega
 obtain ⟨x, hx⟩ : ∃ x, l[k]? = some x := ⟨_, List.getElem?_eq_getElem hk2⟩;have hr := Qbx (f := rPtr) hx
 have T : Hid (pr x = false -> ∀ y ∈ l.take (k + 1), pr y = false) := Pm.hid fun h y hy => by
  rw [List.take_add_one, hx] at hy;rcases List.mem_append.1 hy with hy | hy
  ·exact hA.out y hy
  ·simp at hy; subst hy; exact h
 have F : Hid (pr x = true -> Pl.idxP l pr = k) := Pm.hid fun h => by
  have : l.findIdx? pr = some k := by
   rw [List.findIdx?_eq_some_iff_getElem];refine ⟨hk2, ?_, fun j hj => ?_⟩
   ·rw [(List.getElem?_eq_some_iff.1 hx).2]; exact h
   ·have := hA.out l[j] (List.mem_iff_getElem?.2 ⟨j, by rw [List.getElem?_take, if_pos hj]; exact List.getElem?_eq_getElem (by omega)⟩)
    rw [this]; simp
  unfold Pl.idxP; rw [this]
 have c := h x (List.mem_of_getElem? hx);clear hx hA;generalize pr x = b at *
 (repeat' (first | refine e1 (k := ?_) | refine stepS (Qbh Ty.h rfl Ty.h rfl rfl rfl (by omega) hr) (k := ?_) | refine stepS (Qcp hf c rfl rfl) (k := ?_) | refine stepS (Qbs rfl rfl (by omega)) (k := ?_) | refine Qbd ?_ | refine Qbp ?_ | refine Qbf ?_ | refine Qbc ?_ | refine Qbl (ht := ?_) | refine Qbo (ht := fun q => ?_) (hf := fun q => ?_) | refine Qbj ?_ | refine Qbi ?_ | fail))
 all_goals first
  |exact Qbt (l.length - (k + 1)) (by omega) ⟨k + 1, by omega, rfl, Pm.hid (T.out (by assumption)), rfl⟩
  |(refine QbA (hx := ?_); rw [F.out (by assumption)])
theorem QgD (l : List Pl.Ptr) (hl : l.length <= 1000000) (f : FuncId) (cap : D) (pr : Pl.Ptr -> Bool) (hf : ∀ args w, (callFunc f args).run Tryz.prog w = .ok (.enter f args) w) (h : ∀ p ∈ l, Pure Tryz.prog f [dPtr p, cap] (dB (pr p))) :
 PureF Tryz.prog 150 [.d (dPtrs l), .fn (.func f) [.d cap]] (dB (l.any pr)) := by
 have c := Qkw l hl f cap pr hf h;have hd := Pm.hid (Qjf l pr);generalize Pl.idxP l pr = i at *
 (refine Qcz Tryz.func150 rfl Tryz.ntmps150 Tryz.results150 rfl ?_; simp only [parA, Nat.zero_add, Nat.reduceAdd])
 (repeat' (first | refine e1 (k := ?_) | refine stepS (Qc0 Tryz.call225 c rfl rfl) (k := ?_) | refine Qbd ?_ | refine Qbf ?_ | refine Qbc ?_ | fail))
 refine QbA (hx := ?_);rw [<- hd.out]
end Aw
end
section
open Go.RowKit
namespace Aw
def Pl.Qa4 (b : UInt8) (l : List (List UInt8)) : List UInt8 := (l.intersperse [b]).flatten
theorem Ql1 (b : UInt8) (s : List UInt8) : Pl.Qa4 b (Pl.cutB b s) = s := Pl.Qfz b s
theorem Ql0 (b : UInt8) (l : List (List UInt8)) : Lib.join ((l.map Pl.ba).map (·.data.toList)) (Pl.ba [b]).data.toList = Pl.Qa4 b l := by
 have e : (l.map Pl.ba).map (·.data.toList) = l := by
  rw [List.map_map]
  conv => rhs; rw [<- List.map_id l]
  exact List.map_congr_left fun s _ => Pl.QcM s
 rw [e, Pl.QcM];unfold Lib.join Pl.Qa4
 first | rfl | simp [List.intercalate]
theorem bSplit (s : List UInt8) (b : UInt8) (hs : s.length <= 4294967280) : Pure Tryz.prog 243 [dS s, dS [b]] (tStrs (Pl.cutB b s)) := by
 intro B σ S H w cargs hB hS hl hr;have hc := Qdb (l := [dS s, dS [b]]) (vs := [.string ⟨s.toArray⟩, .string ⟨#[b]⟩]) rfl hl hr;subst hc;obtain ⟨m, hm⟩ := (hB.ltOf hS).maxl;have h := Pl.QgV b s.length s (Nat.le_refl _);refine (Tryz.strings_Split (Pl.ba s) (Pl.ba [b]) m w (by rw [Pl.Qe5]; omega) hm (by rw [Pl.Qe5]; simp)).mono fun e w' ⟨he, hw⟩ => ?_
 rw [h.1, List.map_map] at hw;rw [h.2] at he;subst hw;refine ⟨_, he, Pm.bnew _ _, ?_⟩;have hR := Pm.Row.new w ((Pl.cutB b s).map (Value.string ∘ Pl.ba)).toArray 9;have hlen : (Pl.cutB b s).length = ((Pl.cutB b s).map fun s => [dS s]).length := by simp
 rw [hlen];refine .sl true 1 _ w.heap.size 0 _ (fun i _ => .string ⟨((Pl.cutB b s).getD i []).toArray⟩) (.inr ⟨Nat.le_refl _, by simp⟩) (fun r hr => ?_) (fun _ => Nat.le_refl _) (fun i j r d hi hj => ?_) fun i j r d hi hj => ?_
 ·obtain ⟨x, _, rfl⟩ := List.mem_map.1 hr; rfl
 all_goals
  rw [List.getElem?_map] at hi;cases hx : (Pl.cutB b s)[i]? with
  |none => rw [hx] at hi; cases hi
  |some x =>
   rw [hx] at hi;obtain rfl := Option.some.inj hi;have hj0 : j = 0 := by have := (List.getElem?_eq_some_iff.1 hj).1; simp at this; omega
   subst hj0;have hgd : (Pl.cutB b s).getD i [] = x := by rw [List.getD_eq_getElem?_getD, hx]; rfl
   rw [hgd]
   first
    |(have := hR.get i (v := .string ⟨x.toArray⟩) (by simp [hx, Pl.ba]); simpa using this; done)
    |(simp at hj; subst hj; exact .v _)
theorem QjB {S : Nat -> Prop} {w : World} {l : List (List UInt8)} {v : Value} {d : D} (h : RelD S w d v) (hd : d = .sl true 1 (l.map fun s => [dS s])) :
 (l = [] /\ ∃ a cap, v = .slice a 0 cap) ∨ ∃ bk o cap, v = .slice (some ⟨bk, o, none⟩) l.length cap /\ l.length <= cap /\ S bk /\ ∀ (j : Nat) x, l[j]? = some x -> w.cell? ⟨bk, o + j, none⟩ = some (.string ⟨x.toArray⟩) := by
 cases h <;> try (simp at hd; done)
 ·rename_i c' n a cap
  simp only [D.sl.injEq] at hd;exact .inl ⟨by simpa using hd.2.2.symm, a, cap, rfl⟩
 ·rename_i c' n l' b o cap g hb hn hcap hc hr
  simp only [D.sl.injEq] at hd;obtain ⟨rfl, rfl, rfl⟩ := hd;have hc' := hcap rfl;refine .inr ⟨b, o, cap, by simp, by simpa using hc', hb, fun j x hx => ?_⟩;have hi : (l.map fun s => [dS s])[j]? = some [dS x] := by rw [List.getElem?_map, hx]; rfl
  have h1 := hc j 0 _ _ hi rfl;have h2 := hr j 0 _ _ hi rfl;rw [Nat.mul_one, Nat.add_zero] at h1;rw [h1];generalize g j 0 = y at h2;cases h2; rfl
theorem bJoin (l : List (List UInt8)) (b : UInt8) (hn : l.length <= 140737488355328) (hlen : (Pl.Qa4 b l).length <= 140737488355328) : Pure Tryz.prog 300 [tStrs l, dS [b]] (dS (Pl.Qa4 b l)) := by
 intro B σ S H w cargs hB hS hl hr
 match cargs, hl with
 |[v, u], _ =>
  have h1 := hr 0 _ v rfl rfl;have h2 := hr 1 _ u rfl rfl;obtain rfl : u = .string ⟨#[b]⟩ := by cases h2; rfl
  rcases QjB h1 rfl with ⟨rfl, a, cap, rfl⟩ | ⟨bk, o, cap, rfl, hcap, hb, hc⟩
  ·refine (Tryz.strings_Join_none a cap (Pl.ba [b]) w).mono fun e w' ⟨he, hw⟩ => ⟨_, he, hw ▸ Below.refl _ _, .v _⟩
  ·have k := Tryz.strings_Join bk o cap (l.map Pl.ba) (Pl.ba [b]) w (fun j x hx => by
    rw [List.getElem?_map] at hx;cases hy : l[j]? with
    |none => rw [hy] at hx; cases hx
    |some y => rw [hy] at hx; obtain rfl := Option.some.inj hx; exact hc j y hy) (hS.sUp bk hb).1 (by rw [List.length_map]; exact hn) (by rw [List.length_map]; exact hcap) (by rw [Ql0]; exact hlen)
   rw [Ql0, List.length_map] at k;exact k.mono fun e w' ⟨he, hw⟩ => ⟨_, he, hw, .v _⟩
theorem Qhr (b : UInt8) (l : List (List UInt8)) (m : Nat) (h : ∀ x ∈ l, x.length <= m) : (Pl.Qa4 b l).length <= l.length * (m + 1) := by
 induction l with
 |nil => simp [Pl.Qa4]
 |cons a l ih =>
  have h1 := h a List.mem_cons_self;have ih := ih fun x hx => h x (List.mem_cons_of_mem _ hx)
  cases l with
  |nil => simp [Pl.Qa4]; omega
  |cons c l =>
   have e : Pl.Qa4 b (a :: c :: l) = a ++ b :: Pl.Qa4 b (c :: l) := by simp [Pl.Qa4, List.intersperse]
   rw [e, List.length_append, List.length_cons, List.length_cons, Nat.succ_mul];omega
attribute [local irreducible] ASeq ADraw AWP Loc AStep
def Pl.QaE (l : List Pl.Ptr) : List UInt8 × Bool := if l.length = 4 /\ l.any (fun p => !Pl.ptrHole p) = true /\ l.all Pl.ptrOk = true then (Pl.Qa4 44 (l.map Pl.ptrPut), true) else ([], false)
theorem Qhb (p : Pl.Ptr) : (Pl.ptrPut p).length <= 100 := by
 unfold Pl.ptrPut;split
 ·split
  ·decide
  ·unfold Pl.ptrText Pl.dots
   rename_i h _;have hb := Pl.QbT h;have h1 := Pl.Qbv 8 p.pat.toNat (by omega);have h2 := Pl.Qbv 8 p.birth.toNat (by omega);have h3 := Pl.Qbv 8 p.size.toNat (by omega);have h4 := Pl.Qbv 8 p.sum.toNat (by omega);have h5 := Pl.Qbv 8 p.level.toNat (by omega);simp [List.intersperse]; omega
 ·decide
theorem bFanPut (l : List Pl.Ptr) (hl : l.length <= 1000) : Pure Tryz.prog 317 [dPtrs l] (.tup [dS (Pl.QaE l).1, dB (Pl.QaE l).2]) := by
 have c1 := QgE l (by omega) 345 (fun p => !Pl.ptrHole p) Tryz.call345 fun p _ => Qns p
 have hd : Hid (Pl.QaE l = if l.length = 4 /\ l.any (fun p => !Pl.ptrHole p) = true /\ l.all Pl.ptrOk = true then (Pl.Qa4 44 (l.map Pl.ptrPut), true) else ([], false)) := Pm.hid rfl
 by_cases h0 : l.length = 4 /\ l.any (fun p => !Pl.ptrHole p) = true
 rotate_left
 ·have hx : Hid (Pl.QaE l = ([], false)) := Pm.hid (by rw [hd.out, if_neg (fun h => h0 ⟨h.1, h.2.1⟩)])
  clear hd;generalize l.any (fun p => !Pl.ptrHole p) = any at *
  (refine Qbk Tryz.func317 rfl Tryz.ntmps317 Tryz.results317 rfl ?_; simp only [parE, Nat.zero_add, Nat.reduceAdd])
  (repeat' (first | refine e1 (k := ?_) | refine e0 (k := ?_) | refine stepS (Qc0 Tryz.call150 c1 rfl rfl) (k := ?_) | refine Qbd ?_ | refine Qbf ?_ | refine Qbc ?_ | refine Qbl (ht := ?_) | refine Qbo (ht := fun q => ?_) (hf := fun q => ?_) | refine Qbj ?_ | refine Qbi ?_ | ((fail_if_success show ASeq _ _ _ _ ⟨_, (_, .d (.v (.bool true))) :: _, _⟩); (fail_if_success show ASeq _ _ _ _ ⟨_, (_, .d (.v (.bool false))) :: _, _⟩); refine splitS (fun q => ?_) (fun q => ?_))))
  all_goals first
   |(refine Qbn (hx := ?_); rw [hx.out]; done)
   |(skip; rw [hx.out]; rfl; done)
   |(exfalso; apply h0; simp only [bne_eq_false_iff_eq] at *; refine ⟨by omega, ?_⟩; simp_all; done)
 obtain ⟨h4, hany⟩ := h0;rw [hany] at c1
 have hd2 : Hid (Pl.QaE l = if l.all Pl.ptrOk = true then (Pl.Qa4 44 (l.map Pl.ptrPut), true) else ([], false)) := Pm.hid (by
  rw [hd.out]
  by_cases h : l.all Pl.ptrOk = true
  ·rw [if_pos ⟨h4, hany, h⟩, if_pos h]
  ·rw [if_neg (fun x => h x.2.2), if_neg h])
 have cj := bJoin (l.map Pl.ptrPut) 44 (by simp; omega) (by
  have := Qhr 44 (l.map Pl.ptrPut) 100 (fun x hx => by obtain ⟨p, _, rfl⟩ := List.mem_map.1 hx; exact Qhb p)
  rw [List.length_map] at this; omega)
 clear hd hany
 (refine Qbk Tryz.func317 rfl Tryz.ntmps317 Tryz.results317 rfl ?_; simp only [parE, Nat.zero_add, Nat.reduceAdd])
 (repeat' (first | refine e1 (k := ?_) | refine e0 (k := ?_) | refine stepS (Qc0 Tryz.call150 c1 rfl rfl) (k := ?_) | refine Qbd ?_ | refine Qbf ?_ | refine Qbc ?_ | refine Qbl (ht := ?_) | refine Qbm (hf := ?_) | refine Qbj ?_ | refine Qbi ?_ | ((fail_if_success show ASeq _ _ _ _ ⟨_, (_, .d (.v (.bool true))) :: _, _⟩); (fail_if_success show ASeq _ _ _ _ ⟨_, (_, .d (.v (.bool false))) :: _, _⟩); refine splitS (fun q => ?_) (fun q => ?_))))
 ·exfalso; simp only [bne_iff_ne] at *; omega
 refine Qd4 4 1 9 (h := ?_)
 refine Qby (fun m st => ∃ (k g : Nat) (out : List (List UInt8)), k <= l.length /\ m = l.length - k /\ out.length = k /\ Hid (out = (l.take k).map Pl.ptrPut) /\ Hid ((l.take k).all Pl.ptrOk = true) /\
  st = ⟨32, [(17, .d (dI k)), (16, .d (dI l.length)), (15, .d (dPtrs l)), (4, .osl 0 g 0 out.length)], [.arr g 1 9 (out.map fun s => [dS s])]⟩) [17, 16, 15, 4] 1 l.length ⟨0, 0, [], by omega, rfl, rfl, Pm.hid rfl, Pm.hid rfl, rfl⟩ (round := ?_)
 rintro m st ⟨k, g, out, hk, rfl, hlen, hO, hA, rfl⟩
 (repeat (first | refine e1 (k := ?_) | refine Qbd ?_ | refine Qbf ?_ | refine Qbc ?_ | fail))
 cases q3 : decide ((k : Int) < (l.length : Int))
 ·have hk3 : k = l.length := by simp at q3; omega
  rw [hk3, List.take_length] at hO hA;rw [hA.out, if_pos rfl] at hd2;have ho := hO.out;rw [<- ho] at cj hd2;clear hO hA ho
  (repeat (first | refine e1 (k := ?_) | refine Qbf ?_ | refine Qbc ?_ | refine Qbm (hf := ?_) | refine Qbq ?_ | fail))
  refine QcH 0 (h := ?_)
  (repeat' (first | refine e1 (k := ?_) | refine stepS (Qbe Tryz.call300 cj rfl) (k := ?_) | refine Qbd ?_ | fail))
  refine Qbn (hx := ?_);rw [hd2.out]
 have hk2 : k < l.length := by simp at q3; omega
 obtain ⟨x, hx⟩ : ∃ x, l[k]? = some x := ⟨_, List.getElem?_eq_getElem hk2⟩;have hr := Qbx (f := rPtr) hx;have T1 : Hid ((l.take (k + 1)).map Pl.ptrPut = out ++ [Pl.ptrPut x]) := Pm.hid (by rw [List.take_add_one, hx, hO.out]; simp);have T2 : Hid (Pl.ptrOk x = true -> (l.take (k + 1)).all Pl.ptrOk = true) := Pm.hid fun h => by rw [List.take_add_one, hx, List.all_append, hA.out]; simpa using h
 have F : Hid (Pl.ptrOk x = false -> Pl.QaE l = ([], false)) := Pm.hid fun h => by
  rw [hd2.out, if_neg];intro h2;have := List.all_eq_true.1 h2 x (List.mem_of_getElem? hx);rw [h] at this; cases this
 have c2 := bPtrOk x;have c3 := bPtrPut x;clear hx hO hA hd2 cj c1;generalize Pl.ptrOk x = ok at *
 generalize Pl.ptrPut x = t at *
 obtain ⟨p1, p2, p3, p4, p5⟩ := x
 (repeat' (first | refine e1 (k := ?_) | refine stepS (Qbe Tryz.call218 c2 rfl) (k := ?_) | refine stepS (Qbe Tryz.call245 c3 rfl) (k := ?_) | refine stepS (Qbh Ty.h rfl Ty.h rfl rfl rfl (by omega) hr) (k := ?_) | refine QbO Ty.h rfl Ty.h (hb := ?_) (kk := ?_) | refine stepS (Qbs rfl rfl (by omega)) (k := ?_) | refine stepS2 (Qbz Ty.h rfl Ty.h) (k := ?_) | refine Qbu (kk := ?_) | refine Qbd ?_ | refine Qbp ?_ | refine Qb0 ?_ | refine Qbf ?_ | refine Qbc ?_ | refine Qbl (ht := ?_) | refine Qbo (ht := fun q => ?_) (hf := fun q => ?_) | refine Qbj ?_ | refine Qbi ?_ | refine e2 (k := ?_) | fail))
 all_goals first
  |(simp; omega)
  |(refine Qbt (l.length - (k + 1)) (by omega) ⟨k + 1, g + 1, out ++ [t], by omega, rfl, by simp [hlen], Pm.hid T1.out.symm, Pm.hid (T2.out (by simpa using q)), ?_⟩; simp [keepE, go_sem]; done)
  |(refine Qbn (hx := ?_); rw [F.out (by simpa using q)])
  |(skip; rw [F.out (by simpa using q)]; rfl)
end Aw
end
section
open Go.RowKit
namespace Aw
attribute [local irreducible] ASeq ADraw AWP Loc AStep
theorem pg_put {x : List UInt8} {p : Pl.Ptr} (h : Pl.pg x = (p, true)) : Pl.ptrPut p = x /\ Pl.ptrOk p = true := by
 unfold Pl.pg at h;split at h
 ·rename_i hx
  obtain ⟨h1, _⟩ := Prod.mk.inj h;have := Classical.choose_spec hx;rw [h1] at this;exact ⟨this.2, this.1⟩
 ·obtain ⟨_, h2⟩ := Prod.mk.inj h; cases h2
theorem bFanGet (s : List UInt8) (hs : s.length <= 1000000) : Pure Tryz.prog 271 [dS s] (.tup [tPtrs (Pl.fan s).1, dB (Pl.fan s).2]) := by
 have c0 := bSplit s 44 (by omega);have hW := QdF 44 s;have hj := Pm.hid (Ql1 44 s);have hfan : Hid (Pl.fan s = if ((Pl.cutB 44 s).map Pl.pg).all (·.2) && (((Pl.cutB 44 s).map Pl.pg).length == 4) && ((Pl.cutB 44 s).map Pl.pg).any (fun q => !Pl.ptrHole q.1) then (((Pl.cutB 44 s).map Pl.pg).map (·.1), true) else ([], false)) := Pm.hid rfl;generalize Pl.cutB 44 s = l at *
 (refine Qbk Tryz.func271 rfl Tryz.ntmps271 Tryz.results271 rfl ?_; simp only [parE, Nat.zero_add, Nat.reduceAdd])
 (repeat' (first | refine e1 (k := ?_) | refine stepS (Qbe Tryz.call243 c0 rfl) (k := ?_) | refine Qbd ?_ | refine Qbf ?_ | refine Qbc ?_ | refine Qbi ?_ | fail))
 refine Qd4 4 5 54 (h := ?_)
 refine Qby (fun m st => ∃ (k g : Nat) (out : List Pl.Ptr), k <= l.length /\ m = l.length - k /\ out.length = k /\ k <= 4 /\ Hid (out = ((l.map Pl.pg).take k).map (·.1)) /\ Hid (((l.map Pl.pg).take k).all (·.2) = true) /\ Hid (out.map Pl.ptrPut = l.take k /\ out.all Pl.ptrOk = true) /\
  st = ⟨48, [(14, .d (dI k)), (13, .d (dI l.length)), (12, .d (tStrs l)), (4, .osl 0 g 0 out.length), (0, .d (dS s))], [.arr g 5 54 (out.map rPtr)]⟩) [14, 13, 12, 4, 0] 1 l.length ⟨0, 0, [], by omega, rfl, rfl, by omega, Pm.hid rfl, Pm.hid (by simp), Pm.hid ⟨rfl, rfl⟩, rfl⟩ (round := ?_)
 rintro m st ⟨k, g, out, hk, rfl, hlen, hk4, hO, hA, hP, rfl⟩
 (repeat (first | refine e1 (k := ?_) | refine Qbd ?_ | refine Qbf ?_ | refine Qbc ?_ | fail))
 cases q3 : decide ((k : Int) < (l.length : Int))
 ·have hk3 : k = l.length := by simp at q3; omega
  have c1 := (bFanPut out (by omega)).arg (l := [tPtrs out]);have hlm : (l.map Pl.pg).length = k := by rw [List.length_map, hk3]
  have ho := hO.out;rw [<- hlm, List.take_length] at ho;have ha := hA.out;rw [<- hlm, List.take_length] at ha;have hp1 := hP.out.1;rw [hk3, List.take_length] at hp1;have hany : (l.map Pl.pg).any (fun q => !Pl.ptrHole q.1) = out.any (fun p => !Pl.ptrHole p) := by rw [ho]; simp only [List.any_map]; rfl
  have hpd : Hid (Pl.QaE out = if out.length = 4 /\ out.any (fun p => !Pl.ptrHole p) = true /\ out.all Pl.ptrOk = true then (Pl.Qa4 44 (out.map Pl.ptrPut), true) else ([], false)) := Pm.hid rfl
  have e2 : Pl.QaE out = if out.length = 4 /\ out.any (fun p => !Pl.ptrHole p) = true then (s, true) else ([], false) := by
   rw [hpd.out, hp1, hj.out]
   by_cases h : out.length = 4 /\ out.any (fun p => !Pl.ptrHole p) = true
   ·rw [if_pos h, if_pos ⟨h.1, h.2, hP.out.2⟩]
   ·rw [if_neg h, if_neg (fun x => h ⟨x.1, x.2.1⟩)]
  have e1 : Pl.fan s = if out.length = 4 /\ out.any (fun p => !Pl.ptrHole p) = true then (out, true) else ([], false) := by
   rw [hfan.out, ha, hany, hlm, <- hlen, <- ho]
   by_cases h : out.length = 4 /\ out.any (fun p => !Pl.ptrHole p) = true
   ·rw [if_pos h, if_pos]
    rw [h.1, h.2]; rfl
   ·rw [if_neg h, if_neg]
    intro x;simp only [Bool.and_eq_true, beq_iff_eq, true_and] at x;exact h x
  have hres : Hid (Pl.fan s = if (Pl.QaE out).2 = true /\ (Pl.QaE out).1 = s then (out, true) else ([], false)) := Pm.hid (by
   rw [e1, e2]
   by_cases h : out.length = 4 /\ out.any (fun p => !Pl.ptrHole p) = true
   ·rw [if_pos h, if_pos h, if_pos ⟨rfl, rfl⟩]
   ·rw [if_neg h, if_neg h, if_neg (by simp)])
  clear e1 e2;clear hO hA hP ho ha hp1 hany hpd hfan hj c0;generalize Pl.QaE out = r at *
  obtain ⟨again, fine⟩ := r
  (repeat (first | refine e1 (k := ?_) | refine Qbf ?_ | refine Qbc ?_ | refine Qbm (hf := ?_) | refine Qbq ?_ | fail))
  refine QcH 0 (h := ?_)
  (repeat' (first | refine e1 (k := ?_) | refine e0 (k := ?_) | refine stepS (Qbe Tryz.call317 c1 rfl) (k := ?_) | refine stepS (QbH rfl rfl) (k := ?_) | refine Qbd ?_ | refine Qbf ?_ | refine Qbc ?_ | refine Qbl (ht := ?_) | refine Qbo (ht := fun q => ?_) (hf := fun q => ?_) | refine Qbj ?_ | ((fail_if_success show ASeq _ _ _ _ ⟨_, (_, .d (.v (.bool true))) :: _, _⟩); (fail_if_success show ASeq _ _ _ _ ⟨_, (_, .d (.v (.bool false))) :: _, _⟩); refine splitS (fun q => ?_) (fun q => ?_))))
  all_goals first
   |(refine Qcl 2 true 5 (h := ?_); refine Qbn (hx := ?_); rw [hres.out, if_neg (by simp_all)]; rfl)
   |(refine Qcl 2 true 5 (h := ?_); refine Qbn (hx := ?_); rw [hres.out, if_neg (by simp_all)])
   |(refine Qbn (hx := ?_); rw [hres.out, if_pos (by simp_all)])
 have hk2 : k < l.length := by simp at q3; omega
 obtain ⟨x, hx⟩ : ∃ x, l[k]? = some x := ⟨_, List.getElem?_eq_getElem hk2⟩;have hr := Qbx (f := fun s => [dS s]) hx;have hx3 : x.length <= 4294967280 := by have := hW.2 x (List.mem_of_getElem? hx); omega
 obtain ⟨p, ok, hp⟩ : ∃ p ok, Pl.pg x = (p, ok) := ⟨_, _, rfl⟩;have hg := bPtrGet x hx3;rw [hp] at hg;have hl : (l.map Pl.pg)[k]? = some (p, ok) := by rw [List.getElem?_map, hx]; simp [hp]
 have hst : (l.map Pl.pg).take (k + 1) = (l.map Pl.pg).take k ++ [(p, ok)] := by rw [List.take_add_one, hl]; rfl
 have F : Hid (ok = false ∨ k = 4 -> Pl.fan s = ([], false)) := Pm.hid fun e => by
  rw [hfan.out, if_neg];intro h;simp only [Bool.and_eq_true, beq_iff_eq, List.length_map] at h;rcases e with e | e
  ·have := List.all_eq_true.1 h.1.1 _ (List.mem_of_getElem? hl)
   rw [e] at this; cases this
  ·omega
 have T1 : Hid (out ++ [p] = ((l.map Pl.pg).take (k + 1)).map (·.1)) := Pm.hid (by rw [hst, hO.out]; simp)
 have T2 : Hid (ok = true -> ((l.map Pl.pg).take (k + 1)).all (·.2) = true /\ (out ++ [p]).map Pl.ptrPut = l.take (k + 1) /\ (out ++ [p]).all Pl.ptrOk = true) := Pm.hid fun e => by
  subst e;have hpp := pg_put hp;refine ⟨by rw [hst, List.all_append, hA.out]; rfl, by rw [List.map_append, hP.out.1, List.take_add_one, hx]; simp [hpp.1], by rw [List.all_append, hP.out.2]; simp [hpp.2]⟩
 clear hx hp hl hst hO hA hP hfan hj c0;obtain ⟨p1, p2, p3, p4, p5⟩ := p
 (repeat' (first | refine e1 (k := ?_) | refine e0 (k := ?_) | refine stepS (Qbe Tryz.call170 hg rfl) (k := ?_) | refine stepS (Qbh Ty.h rfl Ty.h rfl rfl rfl (by omega) hr) (k := ?_) | refine QbO Ty.h rfl Ty.h (hb := ?_) (kk := ?_) | refine stepS (Qbs rfl rfl (by omega)) (k := ?_) | refine stepS2 (Qbz Ty.h rfl Ty.h) (k := ?_) | refine Qbu (kk := ?_) | refine Qbd ?_ | refine Qbp ?_ | refine Qb0 ?_ | refine Qbf ?_ | refine Qbc ?_ | refine Qbl (ht := ?_) | refine Qbo (ht := fun q => ?_) (hf := fun q => ?_) | refine Qbj ?_ | refine Qbi ?_ | refine e2 (k := ?_) | ((fail_if_success show ASeq _ _ _ _ ⟨_, (_, .d (.v (.bool true))) :: _, _⟩); (fail_if_success show ASeq _ _ _ _ ⟨_, (_, .d (.v (.bool false))) :: _, _⟩); refine splitS (fun q => ?_) (fun q => ?_))))
 all_goals first
  |(simp; omega)
  |(refine Qbt (l.length - (k + 1)) (by omega) ⟨k + 1, g + 1, out ++ [⟨p1, p2, p3, p4, p5⟩], by omega, rfl, by simp [hlen], ?_, Pm.hid T1.out, Pm.hid (T2.out (by simpa using ‹(!ok) = false›)).1, Pm.hid (T2.out (by simpa using ‹(!ok) = false›)).2, ?_⟩
    ·simp only [beq_eq_false_iff_ne] at *; omega
    ·simp [keepE, go_sem])
  |(refine Qcl 2 true 5 (h := ?_)
    refine Qbn (hx := ?_)
    rw [F.out (by first | exact .inl (by simpa using q) | exact .inr (by simp only [beq_iff_eq] at q; omega))]; rfl)
theorem bDepth (n : Int) : Pure Tryz.prog 222 [dI n] (dI (if n <= 1 then 0 else if n <= 4 then 1 else 2)) := by
 (refine Qbk Tryz.func222 rfl Tryz.ntmps222 Tryz.results222 rfl ?_; simp only [parE, Nat.zero_add, Nat.reduceAdd])
 (repeat' (first | refine e1 (k := ?_) | refine Qbd ?_ | refine Qbf ?_ | refine Qbc ?_ | refine Qbo (ht := fun q => ?_) (hf := fun q => ?_) | refine Qbj ?_ | refine Qbi ?_ | fail))
 all_goals exact Qbn (hx := congrArg dI (by simp at *; split <;> (try split) <;> omega))
noncomputable def Pl.QaT (s : Pm.Store) (p : Pl.Ptr) (level : Int) : List Pl.Ptr × Bool :=
 if Pl.ptrHole p then (List.replicate 4 Pl.hole, true) else
 if (Pl.rd s.1 p).2 = true /\ p.level = level then ((Pl.fan (Pl.rd s.1 p).1).1, (Pl.fan (Pl.rd s.1 p).1).2 && !(Pl.fan (Pl.rd s.1 p).1).1.any (fun q => decide (p.birth < q.birth))) else ([], false)
theorem Qiz {s : Pm.Store} {p : Pl.Ptr} {level : Int} (h1 : Pl.ptrOk p = true) (h2 : p.birth <= s.2.2.1) : (Pl.QaT s p level).2 = (Pl.Qan s p level).2 /\ ((Pl.Qan s p level).2 = true -> Pl.QaT s p level = Pl.Qan s p level) := by
 unfold Pl.QaT Pl.Qan;split
 ·exact ⟨rfl, fun _ => rfl⟩
 ·by_cases h : (Pl.rd s.1 p).2 = true /\ p.level = level
  ·rw [if_pos h, if_pos (by simp [h1, h.1, h.2, h2])]
   generalize Pl.fan (Pl.rd s.1 p).1 = r;obtain ⟨l, ok⟩ := r;simp only;cases l.any (fun q => decide (p.birth < q.birth)) <;> simp
  ·rw [if_neg h, if_neg (by simp only [Bool.and_eq_true, beq_iff_eq, decide_eq_true_eq]; intro x; exact h ⟨x.2, x.1.1.2⟩)]
   exact ⟨rfl, fun _ => rfl⟩
theorem bFanOf (s : Pm.Store) (hg : Pl.Good s) (p : Pl.Ptr) (hp : Pl.ptrHole p = false -> Pl.ptrOk p = true) (level : Int) : Pure Tryz.prog 200 [.pd (rSt s), dPtr p, dI level] (.tup [tPtrs (Pl.QaT s p level).1, dB (Pl.QaT s p level).2]) := by
 have hd : Hid (Pl.QaT s p level = if Pl.ptrHole p then (List.replicate 4 Pl.hole, true) else
  if (Pl.rd s.1 p).2 = true /\ p.level = level then ((Pl.fan (Pl.rd s.1 p).1).1, (Pl.fan (Pl.rd s.1 p).1).2 && !(Pl.fan (Pl.rd s.1 p).1).1.any (fun q => decide (p.birth < q.birth))) else ([], false)) := Pm.hid rfl
 have c1 := Qc6 p;cases h1 : Pl.ptrHole p;rotate_left
 ·rw [h1] at c1 hd
  (refine Qbk Tryz.func200 rfl Tryz.ntmps200 Tryz.results200 rfl ?_; simp only [parE, Nat.zero_add, Nat.reduceAdd])
  (refine Qbf (Qbc ?_); (repeat (first | refine e1 (k := ?_) | refine e2 (k := ?_) | fail)); refine Qbd ?_)
  refine Qbg 0 (h := ?_)
  (repeat' (first | refine e1 (k := ?_) | refine stepS (Qbe Tryz.call199 c1 rfl) (k := ?_) | refine stepS2 (Qlq Ty.h rfl Ty.h rfl rfl) (k := ?_) | refine Qbd ?_ | refine Qbf ?_ | refine Qbc ?_ | refine Qbl (ht := ?_) | fail))
  (refine Qbg 1 (h := ?_); refine Qbn (hx := ?_))
  rw [hd.out]; rfl
 have c2 := bRead s hg p hp;have hlen := QfF s hg p;rw [h1] at c1 hd;generalize Pl.rd s.1 p = r at *
 obtain ⟨tx, ok⟩ := r;simp only at hlen hd;have c3 := bFanGet tx (by omega);have hfl := Qiy tx;generalize Pl.fan tx = fb at *
 obtain ⟨l, fine⟩ := fb;simp only at hfl hd;have c4 := QgD l (by omega) 272 (.pd (rPtr p)) (fun q => decide (p.birth < q.birth)) Tryz.call272 fun q _ => bFanOf1 p q
 generalize l.any (fun q => decide (p.birth < q.birth)) = any at *
 (refine Qbk Tryz.func200 rfl Tryz.ntmps200 Tryz.results200 rfl ?_; simp only [parE, Nat.zero_add, Nat.reduceAdd])
 (refine Qbf (Qbc ?_); (repeat (first | refine e1 (k := ?_) | refine e2 (k := ?_) | fail)); refine Qbd ?_)
 refine Qbg 0 (h := ?_);have c5 := c4.arg (l := [.d (tPtrs l), .fn (.func 272) [.d (.pd (rPtr p))]])
 (repeat' (first | refine e1 (k := ?_) | refine e0 (k := ?_) | refine stepS (Qbe Tryz.call199 c1 rfl) (k := ?_) | refine stepS (Qbe Tryz.call223 c2 rfl) (k := ?_) | refine stepS (Qbe Tryz.call271 c3 rfl) (k := ?_) | refine stepS (Qdk rfl) (k := ?_) | refine stepS (Qc0 Tryz.call150 c5 rfl rfl) (k := ?_) | refine Qbd ?_ | refine Qbf ?_ | refine Qbc ?_ | refine Qbl (ht := ?_) | refine Qbm (hf := ?_) | refine Qbo (ht := fun q => ?_) (hf := fun q => ?_) | refine Qbj ?_ | ((fail_if_success show ASeq _ _ _ _ ⟨_, (_, .d (.v (.bool true))) :: _, _⟩); (fail_if_success show ASeq _ _ _ _ ⟨_, (_, .d (.v (.bool false))) :: _, _⟩); refine splitS (fun q => ?_) (fun q => ?_))))
 all_goals first
  |(refine Qcl 6 true 5 (h := ?_)
    refine Qbn (hx := ?_)
    rw [hd.out, if_neg (by simp), if_neg (by simp_all)]; rfl)
  |(refine Qbn (hx := ?_)
    rw [hd.out, if_neg (by simp), if_pos (by simp_all)]; simp_all)
end Aw
end
section
open Go.RowKit
namespace Aw
attribute [local irreducible] ASeq ADraw AWP Loc
theorem Qjk {s : List UInt8} (h : (Pl.fan s).2 = true) : (Pl.fan s).1.length = 4 := by
 unfold Pl.fan at h ⊢;simp only at h ⊢;split at h
 ·rename_i h'; rw [if_pos h']; simp at h'; simp [h'.1.2]
 ·cases h
theorem Qi8 {s : Pm.Store} {p : Pl.Ptr} {n : Int} (h : (Pl.Qan s p n).2 = true) (ht : 0 <= s.2.2.1) (hp : p.birth <= s.2.2.1) : (Pl.Qan s p n).1.length = 4 /\ ∀ q ∈ (Pl.Qan s p n).1, Pl.ptrOk q = true /\ q.birth <= s.2.2.1 := by
 refine ⟨?_, fun q hq => ⟨Qjv s p n q hq, ?_⟩⟩
 ·unfold Pl.Qan at h ⊢
  split
  ·simp
  ·rename_i h1
   rw [if_neg h1] at h;split at h
   ·rename_i h2
    rw [if_pos h2];split at h
    ·cases h
    ·rename_i h3; rw [if_neg h3]; exact Qjk h
   ·cases h
 ·unfold Pl.Qan at h hq
  split at hq
  ·rw [(List.mem_replicate.1 hq).2]; exact ht
  ·rename_i h1
   rw [if_neg h1] at h;split at hq
   ·rename_i h2
    rw [if_pos h2] at h;split at hq
    ·cases hq
    ·rename_i h3
     simp only [List.any_eq_true, decide_eq_true_eq, not_exists, not_and] at h3;have := h3 q hq;omega
   ·cases hq
theorem Qhx (f : Pl.Ptr -> List Pl.Ptr) : ∀ l : List Pl.Ptr, (∀ p ∈ l, (f p).length = 4) -> (l.flatMap f).length = l.length * 4
 |[], _ => rfl
 |p :: l, h => by
  have := Qhx f l fun q hq => h q (by simp [hq])
  have := h p (by simp);rw [List.flatMap_cons, List.length_append, List.length_cons]; omega
noncomputable def Pl.Qae (s : Pm.Store) (t : Pl.Tree) : List Pl.Ptr × Bool := if Pl.Qaf s t then ((Pl.Qal s t).1.take t.many.toNat, true) else ([], false)
theorem Qlx (s : Pm.Store) (many : Int) (i : Nat) (p : Pl.Ptr) (hp : p.birth <= s.2.2.1) : Pl.Qax s many i p = ((Pl.rd s.1 p).2 && (p.level == 0) && !(decide ((i : Int) ≥ many) && !Pl.ptrHole p)) := by
 unfold Pl.Qax
 by_cases h : Pl.ptrHole p = true
 ·have : p = Pl.hole := by simpa [Pl.ptrHole] using h
  subst this;have : Pl.rd s.1 Pl.hole = ([], true) := by unfold Pl.rd; rw [if_pos h]
  rw [h, this]; cases decide ((i : Int) ≥ many) <;> rfl
 ·have h' : Pl.ptrHole p = false := by simpa using h
  rw [h']
  by_cases hi : (i : Int) < many <;> simp [hp, hi] <;> omega
theorem QgP {s : Pm.Store} {t : Pl.Tree} (h : Pl.Qaf s t = true) (htx : 0 <= s.2.2.1) : t.root.birth <= s.2.2.1 := by
 unfold Pl.Qaf at h;simp only [Bool.and_eq_true] at h;obtain ⟨⟨_, h4⟩, h5⟩ := h
 by_cases hh : Pl.ptrHole t.root = true
 ·have : t.root = Pl.hole := by simpa [Pl.ptrHole] using hh
  rw [this]; exact htx
 unfold Pl.Qal at h4 h5;rcases hn : t.depth.toNat with _ | n
 ·rw [hn] at h5
  simp only [Pl.lvl, List.zipIdx_singleton, List.all_cons, List.all_nil, Bool.and_true] at h5;unfold Pl.Qax at h5;simp [hh] at h5;exact h5.1.2
 ·rw [hn] at h4
  unfold Pl.lvl at h4;split at h4
  ·rename_i h6
   simp only [List.all_cons, List.all_nil, Bool.and_true] at h6;unfold Pl.Qan at h6;rw [if_neg hh] at h6;split at h6
   ·rename_i h7; simp at h7; exact h7.1.2
   ·cases h6
  ·cases h4
theorem bLeaves (s : Pm.Store) (hg : Pl.Good s) (htx : 0 <= s.2.2.1) (t : Pl.Tree) : Pure Tryz.prog 148 [.pd (rSt s), dTree t] (.tup [tPtrs (Pl.Qae s t).1, dB (Pl.Qae s t).2]) := by
 have hd : Hid (Pl.Qae s t = if Pl.Qaf s t then ((Pl.Qal s t).1.take t.many.toNat, true) else ([], false)) := Pm.hid rfl;have hto : Hid (Pl.Qaf s t = (Pl.inR t.many 0 16 && (t.depth == (if t.many <= 1 then 0 else if t.many <= 4 then 1 else 2)) && Pl.ptrOk t.root && (Pl.Qal s t).2 && ((Pl.Qal s t).1.zipIdx.all fun q => Pl.Qax s t.many q.2 q.1))) := Pm.hid rfl
 (refine Qbk Tryz.func148 rfl Tryz.ntmps148 Tryz.results148 rfl ?_; simp only [parE, Nat.zero_add, Nat.reduceAdd])
 (refine Qbf (Qbc ?_); (repeat (first | refine e1 (k := ?_) | refine e2 (k := ?_) | fail)); refine Qbd ?_)
 refine Qbg 0 (h := ?_);cases h1 : Pl.inR t.many 0 16
 ·(repeat' (first | refine f1 (k := ?_) | refine e1 (k := ?_) | refine f0 (k := ?_) | refine stepD (Qbe Tryz.call45 (h1 ▸ bIn t.many 0 16) rfl) (k := ?_) | refine Qbd ?_ | refine Qbr ?_ | refine Qbf ?_ | refine Qbc ?_ | refine Qb1 follows_mixed (by kernel_rfl) (by kernel_rfl) ?_ | refine Qbl (ht := ?_) | fail))
  refine Qcl 4 true 5 (h := ?_);refine Qbn (hx := ?_);rw [hd.out, if_neg (by rw [hto.out, h1]; simp)]; rfl
 have c1 := h1 ▸ bIn t.many 0 16;have c2 := bDepth t.many;have hdp : (if t.many <= 1 then 0 else if t.many <= 4 then 1 else 2 : Int) = 0 ∨ (if t.many <= 1 then 0 else if t.many <= 4 then 1 else 2 : Int) = 1 ∨ (if t.many <= 1 then 0 else if t.many <= 4 then 1 else 2 : Int) = 2 := by split <;> (try split) <;> simp
 have hdm : t.many <= 4 ^ (if t.many <= 1 then 0 else if t.many <= 4 then 1 else 2 : Int).toNat := by
  simp [Pl.inR] at h1;split
  ·simpa
  ·split
   ·simpa
   ·simpa using h1.2
 generalize (if t.many <= 1 then 0 else if t.many <= 4 then 1 else 2 : Int) = dp at *
 cases h3 : Pl.ptrOk t.root
 ·(repeat' (first | refine f1 (k := ?_) | refine e1 (k := ?_) | refine f0 (k := ?_) | refine stepD (Qbe Tryz.call45 c1 rfl) (k := ?_) | refine stepD (Qbe Tryz.call222 c2 rfl) (k := ?_) | refine stepD (Qbe Tryz.call218 (h3 ▸ bPtrOk t.root) rfl) (k := ?_) | refine Qbd ?_ | refine Qbr ?_ | refine Qbf ?_ | refine Qbc ?_ | refine Qb1 follows_mixed (by kernel_rfl) (by kernel_rfl) ?_ | refine Qbl (ht := ?_) | ((fail_if_success show ADraw _ _ _ _ ⟨_, (_, .d (.v (.bool true))) :: _, _⟩); (fail_if_success show ADraw _ _ _ _ ⟨_, (_, .d (.v (.bool false))) :: _, _⟩); refine splitD (fun q => ?_) (fun q => ?_))))
  all_goals
   refine Qcl 4 true 5 (h := ?_);refine Qbn (hx := ?_);rw [hd.out, if_neg (by rw [hto.out, h3]; simp)]; rfl
 by_cases h2 : t.depth = dp
 rotate_left
 ·(repeat' (first | refine f1 (k := ?_) | refine e1 (k := ?_) | refine f0 (k := ?_) | refine stepD (Qbe Tryz.call45 c1 rfl) (k := ?_) | refine stepD (Qbe Tryz.call222 c2 rfl) (k := ?_) | refine stepD (Qbe Tryz.call218 (h3 ▸ bPtrOk t.root) rfl) (k := ?_) | refine stepD (QbF rfl) (k := ?_) | refine stepS2 (Qbz Ty.h rfl Ty.h) (k := ?_) | refine Qbd ?_ | refine Qbr ?_ | refine Qbf ?_ | refine Qbc ?_ | refine Qb1 follows_mixed (by kernel_rfl) (by kernel_rfl) ?_ | refine Qbl (ht := ?_) | refine Qbo (ht := fun q => ?_) (hf := fun q => ?_) | refine Qbj ?_ | refine Qbi ?_ | ((fail_if_success show ADraw _ _ _ _ ⟨_, (_, .d (.v (.bool true))) :: _, _⟩); (fail_if_success show ADraw _ _ _ _ ⟨_, (_, .d (.v (.bool false))) :: _, _⟩); refine splitD (fun q => ?_) (fun q => ?_))))
  all_goals first
   |(refine Qcl 4 true 5 (h := ?_)
     refine Qbn (hx := ?_)
     rw [hd.out, if_neg (by rw [hto.out]; simp [h2])]; rfl)
   |(simp at *; exact absurd ‹_› h2)
 by_cases h4 : t.root.birth <= s.2.2.1
 rotate_left
 ·have hno : Pl.Qaf s t ≠ true := fun h => h4 (QgP h htx)
  (repeat' (first | refine f1 (k := ?_) | refine e1 (k := ?_) | refine f0 (k := ?_) | refine stepD (Qbe Tryz.call45 c1 rfl) (k := ?_) | refine stepD (Qbe Tryz.call222 c2 rfl) (k := ?_) | refine stepD (Qbe Tryz.call218 (h3 ▸ bPtrOk t.root) rfl) (k := ?_) | refine stepD (QbF rfl) (k := ?_) | refine stepS2 (Qbz Ty.h rfl Ty.h) (k := ?_) | refine Qbd ?_ | refine Qbr ?_ | refine Qbf ?_ | refine Qbc ?_ | refine Qb1 follows_mixed (by kernel_rfl) (by kernel_rfl) ?_ | refine Qbl (ht := ?_) | refine Qbo (ht := fun q => ?_) (hf := fun q => ?_) | refine Qbj ?_ | refine Qbi ?_ | ((fail_if_success show ADraw _ _ _ _ ⟨_, (_, .d (.v (.bool true))) :: _, _⟩); (fail_if_success show ADraw _ _ _ _ ⟨_, (_, .d (.v (.bool false))) :: _, _⟩); refine splitD (fun q => ?_) (fun q => ?_))))
  all_goals first
   |(refine Qcl 4 true 5 (h := ?_)
     refine Qbn (hx := ?_)
     rw [hd.out, if_neg hno]; rfl)
   |(simp at *; omega)
 (repeat' (first | refine f1 (k := ?_) | refine e1 (k := ?_) | refine f0 (k := ?_) | refine stepD (Qbe Tryz.call45 c1 rfl) (k := ?_) | refine stepD (Qbe Tryz.call222 c2 rfl) (k := ?_) | refine stepD (Qbe Tryz.call218 (h3 ▸ bPtrOk t.root) rfl) (k := ?_) | refine stepD (QbF rfl) (k := ?_) | refine stepS2 (Qbz Ty.h rfl Ty.h) (k := ?_) | refine Qbd ?_ | refine Qbr ?_ | refine Qbf ?_ | refine Qbc ?_ | refine Qb1 follows_mixed (by kernel_rfl) (by kernel_rfl) ?_ | refine Qbl (ht := ?_) | refine Qbo (ht := fun q => ?_) (hf := fun q => ?_) | refine Qbj ?_ | refine Qbi ?_ | ((fail_if_success show ADraw _ _ _ _ ⟨_, (_, .d (.v (.bool true))) :: _, _⟩); (fail_if_success show ADraw _ _ _ _ ⟨_, (_, .d (.v (.bool false))) :: _, _⟩); refine splitD (fun q => ?_) (fun q => ?_))))
 ·exact absurd h2 (by simpa using q)
 ·simp at q; omega
 have hd2 : Hid (Pl.Qaf s t = ((Pl.Qal s t).2 && ((Pl.Qal s t).1.zipIdx.all fun q => Pl.Qax s t.many q.2 q.1))) := Pm.hid (by rw [hto.out, h1, h3, h2]; simp);have hlv : Hid (Pl.Qal s t = Pl.lvl s t.depth.toNat [t.root]) := Pm.hid rfl;have hmany : 0 <= t.many := by simp [Pl.inR] at h1; exact h1.1
 clear hto c1 c2 h1;obtain ⟨n0, rfl⟩ : ∃ n0 : Nat, dp = n0 := ⟨dp.toNat, by omega⟩;have hn0 : n0 <= 2 := by omega
 rw [h2] at hlv;simp only [Int.toNat_natCast] at hlv hdm;clear hdp;generalize hnl : Pl.Qae s t = res at *
 clear hnl;rw [h2];refine Qbg 1 (h := ?_)
 refine Qby (fun m st => ∃ (n : Nat) (l : List Pl.Ptr), n <= n0 /\ m = n /\ l.length = 4 ^ (n0 - n) /\ Hid (∀ p ∈ l, Pl.ptrOk p = true /\ p.birth <= s.2.2.1) /\ Hid (Pl.Qal s t = Pl.lvl s n l) /\
  st = ⟨112, [(6, .d (tPtrs l)), (7, .d (dI n)), (0, .d (.pd (rSt s))), (3, .d (.pd (rTree t)))], []⟩) [6, 7, 0, 3] 0 n0 ⟨n0, [t.root], Nat.le_refl _, rfl, by simp, Pm.hid (by simp [h3, h4]), hlv, by rw [<- h2]; rfl⟩ (round := ?_)
 clear hlv;rintro m st ⟨n, l, hn, rfl, hll, hO, hL, rfl⟩
 (repeat (first | refine e1 (k := ?_) | refine Qbd ?_ | refine Qbf ?_ | refine Qbc ?_ | fail))
 rcases m with _ | n
 ·(repeat' (first | refine e1 (k := ?_) | refine Qbd ?_ | refine Qbf ?_ | refine Qbc ?_ | refine Qbm (hf := ?_) | refine Qbi ?_ | refine Qbq ?_ | fail))
  have hl16 : l.length <= 16 := by rw [hll]; exact Nat.le_trans (Nat.pow_le_pow_right (by omega) (show n0 - 0 <= 2 by omega)) (by decide)
  have hml : t.many <= ((l.map rPtr).length : Int) := by rw [List.length_map, hll]; simpa using hdm
  have hd3 : Hid (res = if l.zipIdx.all (fun q => Pl.Qax s t.many q.2 q.1) = true then (l.take t.many.toNat, true) else ([], false)) := Pm.hid (by rw [hd.out, hd2.out, hL.out]; simp only [Pl.lvl, Bool.true_and]);clear hd hd2 hL hll hdm
  refine Qby (fun m st => ∃ (k : Nat), k <= l.length /\ m = l.length - k /\ Hid ((l.take k).zipIdx.all (fun q => Pl.Qax s t.many q.2 q.1) = true) /\
   st = ⟨112, [(74, .d (tPtrs l)), (75, .d (dI l.length)), (76, .d (dI k)), (6, .d (tPtrs l)), (0, .d (.pd (rSt s))), (3, .d (.pd (rTree t)))], []⟩) [74, 75, 76, 6, 0, 3] 0 l.length ⟨0, by omega, rfl, Pm.hid rfl, rfl⟩ (round := ?_)
  rintro m st ⟨k, hk, rfl, hA, rfl⟩
  (repeat (first | refine e1 (k := ?_) | refine Qbd ?_ | refine Qbf ?_ | refine Qbc ?_ | fail))
  cases q4 : decide ((k : Int) < (l.length : Int))
  ·(repeat' (first | refine e1 (k := ?_) | refine stepS (Qln rfl rfl rfl rfl hmany hml) (k := ?_) | refine Qbd ?_ | refine Qbf ?_ | refine Qbc ?_ | refine Qbm (hf := ?_) | refine Qbq ?_ | fail))
   refine Qbn (hx := ?_);have : k = l.length := by simp at q4; omega
   have h := hA.out;rw [this, List.take_of_length_le (Nat.le_refl _)] at h;rw [hd3.out, if_pos h];simp only;rw [<- List.map_take]
  have hk2 : k < l.length := by simp at q4; omega
  obtain ⟨x, hx⟩ : ∃ x, l[k]? = some x := ⟨_, List.getElem?_eq_getElem hk2⟩;have hr := Qbx (f := rPtr) hx;have ho := hO.out x (List.mem_of_getElem? hx);have h7 := bRead s hg x fun _ => ho.1
  have T : Hid (Pl.Qax s t.many k x = true -> (l.take (k + 1)).zipIdx.all (fun q => Pl.Qax s t.many q.2 q.1) = true) := fun e => by rw [QiH hx, hA.out, e]; rfl
  have F : Hid (Pl.Qax s t.many k x = false -> res = ([], false)) := fun e => by rw [hd3.out, QgM hx e]; rfl
  have hlf : Hid (Pl.Qax s t.many k x = ((Pl.rd s.1 x).2 && (x.level == 0) && !(decide ((k : Int) ≥ t.many) && !Pl.ptrHole x))) := Pm.hid (Qlx s t.many k x ho.2);generalize Pl.Qax s t.many k x = lf at *
  clear hx hO hA hd3 ho;generalize Pl.rd s.1 x = rb at *
  obtain ⟨tx, fine⟩ := rb;simp only at hlf
  (repeat' (first | refine e1 (k := ?_) | refine e0 (k := ?_) | refine stepS (Qbe Tryz.call223 h7 rfl) (k := ?_) | refine stepS (Qbe Tryz.call199 (Qc6 x) rfl) (k := ?_) | refine stepS (Qbh Ty.h rfl Ty.h rfl rfl rfl (by omega) hr) (k := ?_) | refine stepS (Qbs rfl rfl (by omega)) (k := ?_) | refine Qbu (kk := ?_) | refine Qbd ?_ | refine Qbp ?_ | refine Qbf ?_ | refine Qbc ?_ | refine Qbl (ht := ?_) | refine Qbm (hf := ?_) | refine Qbo (ht := fun q => ?_) (hf := fun q => ?_) | refine Qbj ?_ | refine Qbi ?_ | refine e2 (k := ?_) | ((fail_if_success show ASeq _ _ _ _ ⟨_, (_, .d (.v (.bool true))) :: _, _⟩); (fail_if_success show ASeq _ _ _ _ ⟨_, (_, .d (.v (.bool false))) :: _, _⟩); refine splitS (fun q => ?_) (fun q => ?_))))
  all_goals clear h7 hr
  all_goals first
   |(have e : lf = false := by rw [hlf.out]; clear T F hlf; simp_all
     refine Qcl 4 true 5 (h := ?_);refine Qbn (hx := ?_)
     rw [F.out e]; rfl)
   |(have e : lf = true := by rw [hlf.out]; clear T F hlf; simp_all
     exact Qbt (l.length - (k + 1)) (by omega) ⟨k + 1, by omega, rfl, Pm.hid (T.out e), rfl⟩)
 have q3 : decide (((n + 1 : Nat) : Int) > 0) = true := by simp
 rw [q3]
 (repeat' (first | refine e1 (k := ?_) | refine Qbd ?_ | refine Qbf ?_ | refine Qbc ?_ | refine Qbl (ht := ?_) | refine Qbj ?_ | refine Qbi ?_ | fail))
 refine Qd4 8 5 54 (h := ?_);have hll2 : l.length <= 4 := by rw [hll]; exact Nat.le_trans (Nat.pow_le_pow_right (by omega) (show n0 - (n + 1) <= 1 by omega)) (by decide)
 have hv : Hid (l.all (fun p => (Pl.Qan s p (n + 1 : Nat)).2) = false -> res = ([], false)) := fun e => by rw [hd.out, hd2.out, hL.out, Pl.lvl, if_neg (by rw [e]; simp)] <;> rfl
 refine Qby (fun m st => ∃ (k g : Nat) (out : List Pl.Ptr), k <= l.length /\ m = l.length - k /\ out.length = 4 * k /\ Hid (out = (l.take k).flatMap fun p => (Pl.Qan s p (n + 1 : Nat)).1) /\ Hid ((l.take k).all (fun p => (Pl.Qan s p (n + 1 : Nat)).2) = true) /\ Hid (∀ p ∈ out, Pl.ptrOk p = true /\ p.birth <= s.2.2.1) /\
  st = ⟨112, [(8, .osl 0 g 0 out.length), (54, .d (tPtrs l)), (55, .d (dI l.length)), (56, .d (dI k)), (7, .d (dI (n + 1 : Nat))), (0, .d (.pd (rSt s))), (3, .d (.pd (rTree t)))], [.arr g 5 54 (out.map rPtr)]⟩) [8, 54, 55, 56, 7, 0, 3] 1 l.length ⟨0, 0, [], by omega, rfl, by simp, Pm.hid rfl, Pm.hid rfl, Pm.hid (by simp), rfl⟩ (round := ?_)
 rintro m st ⟨k, g, out, hk, rfl, hol, hP, hA, hQ, rfl⟩
 (repeat (first | refine e1 (k := ?_) | refine Qbd ?_ | refine Qbf ?_ | refine Qbc ?_ | fail))
 cases q4 : decide ((k : Int) < (l.length : Int))
 ·(repeat' (first | refine e1 (k := ?_) | refine stepS (QbB rfl rfl (by omega)) (k := ?_) | refine Qbp ?_ | refine Qb0 ?_ | refine Qbc ?_ | refine Qbm (hf := ?_) | refine Qbq ?_ | fail))
  refine Qmi 0 (h := ?_);have : k = l.length := by simp at q4; omega
  rw [this, List.take_of_length_le (Nat.le_refl _)] at hP hA;refine Qbt n (by omega) ⟨n, out, by omega, rfl, ?_, hQ, Pm.hid (by rw [hL.out, Pl.lvl, if_pos hA.out, <- hP.out]), ?_⟩
  ·rw [hol, this, hll, show n0 - n = (n0 - (n + 1)) + 1 by omega, Nat.pow_succ]; omega
  ·simp [keepE, go_sem, List.take_of_length_le]
 have hk2 : k < l.length := by simp at q4; omega
 obtain ⟨x, hx⟩ : ∃ x, l[k]? = some x := ⟨_, List.getElem?_eq_getElem hk2⟩;have hr := Qbx (f := rPtr) hx;have ho := hO.out x (List.mem_of_getElem? hx);have hc := bFanOf s hg x (fun _ => ho.1) (n + 1 : Nat);obtain ⟨f1, f2⟩ := Qiz (level := (n + 1 : Nat)) ho.1 ho.2;have G : Hid ((Pl.Qan s x (n + 1 : Nat)).2 = true -> (Pl.Qan s x (n + 1 : Nat)).1.length = 4 /\ ∀ q ∈ (Pl.Qan s x (n + 1 : Nat)).1, Pl.ptrOk q = true /\ q.birth <= s.2.2.1) := Pm.hid fun e => Qi8 e htx ho.2
 have F : Hid ((Pl.Qan s x (n + 1 : Nat)).2 = false -> res = ([], false)) := fun e => hv.out (by
  rw [List.all_eq_false]; exact ⟨x, List.mem_of_getElem? hx, by rw [e]; simp⟩)
 have T1 : Hid ((l.take (k + 1)).flatMap (fun p => (Pl.Qan s p (n + 1 : Nat)).1) = out ++ (Pl.Qan s x (n + 1 : Nat)).1) := Pm.hid (by rw [List.take_add_one, hx, hP.out]; simp);have T2 : Hid ((Pl.Qan s x (n + 1 : Nat)).2 = true -> (l.take (k + 1)).all (fun p => (Pl.Qan s p (n + 1 : Nat)).2) = true) := fun e => by rw [List.take_add_one, hx, List.all_append, hA.out]; simpa using e
 have f2' : Hid ((Pl.Qan s x (n + 1 : Nat)).2 = true -> Pl.QaT s x (n + 1 : Nat) = Pl.Qan s x (n + 1 : Nat)) := Pm.hid f2;clear hx ho hA hP f2 hO hL hd hd2 hv;generalize Pl.QaT s x (n + 1 : Nat) = fb at *
 obtain ⟨fl, ok⟩ := fb;simp only at f1;subst f1;generalize Pl.Qan s x (n + 1 : Nat) = bb at *
 obtain ⟨bl, ok⟩ := bb;simp only at f2' T2 G F T1
 have G' : Hid (ok = true -> fl.length = 4 /\ (∀ q ∈ fl, Pl.ptrOk q = true /\ q.birth <= s.2.2.1) /\ (l.take (k + 1)).flatMap (fun p => (Pl.Qan s p (n + 1 : Nat)).1) = out ++ fl) := Pm.hid fun e => by
  obtain rfl := (Prod.mk.inj (f2'.out e)).1;exact ⟨(G.out e).1, (G.out e).2, T1.out⟩
 clear G f2' T1
 (repeat' (first | refine e1 (k := ?_) | refine stepS (Qbe Tryz.call200 hc rfl) (k := ?_) | refine stepS (Qbh Ty.h rfl Ty.h rfl rfl rfl (by omega) hr) (k := ?_) | refine QgJ Ty.h rfl Ty.h (hb := ?_) (hcell := ?_) (kk := ?_) | refine stepS (Qbs rfl rfl (by omega)) (k := ?_) | refine Qbu (kk := ?_) | refine Qbd ?_ | refine Qbp ?_ | refine Qb0 ?_ | refine Qbf ?_ | refine Qbc ?_ | refine Qbl (ht := ?_) | refine Qbo (ht := fun q => ?_) (hf := fun q => ?_) | refine Qbj ?_ | refine Qbi ?_ | refine e2 (k := ?_) | fail))
 ·refine Qcl 4 true 5 (h := ?_)
  refine Qbn (hx := ?_);rw [F.out (by simpa using ‹(!ok) = true›)]; rfl
 ·exact Qd8 fl
 ·have e : ok = true := by simpa using ‹(!ok) = false›
  have := (G'.out e).1;simp; omega
 ·have e : ok = true := by simpa using ‹(!ok) = false›
  obtain ⟨h4, h5, h6⟩ := G'.out e;refine Qbt (l.length - (k + 1)) (by omega) ⟨k + 1, g + 1, out ++ fl, by omega, rfl, by simp; omega, Pm.hid h6.symm, Pm.hid (T2.out e), Pm.hid ?_, ?_⟩
  ·intro p hp
   rcases List.mem_append.1 hp with hp | hp
   ·exact hQ.out p hp
   ·exact h5 p hp
  ·simp [keepE, go_sem]
end Aw
end
end Go.Proofs.YtdjkdcokjoiokaaGreatDoor

/- Part 39 of the proof of twins_card: contracts, walks, plain laws; no condition is assumed beyond those that a statement names. -/
import Derived.Test.YtdjkdcokjoiokaaGreatDoorV38
set_option linter.all false
set_option maxRecDepth 100000
set_option maxHeartbeats 16000000
namespace Go.Proofs.YtdjkdcokjoiokaaGreatDoor
open Go.RowKit
namespace Aw
attribute [local irreducible] ASeq ADraw AWP Loc AStep Fg.PlanF Fg.Flts
theorem QcU {P : Program} {dst : Option Tmp} {ty : TypeId} {pos : String} {after : Array Edge} {gd : Option (Nat × Bool)} {env : List (Nat × AV)} {H : List Blk} {f : FuncId} {xs : Array Operand} {tys : Array TypeId} {ds : List D} {x : D}
 (hf : ∀ args w, (callFunc f args).run P w = .ok (.enter f args) w) (h : Pure P f ds x) (hx : x.flat = true) (hd : D.weakL (xs.toList.map fun u => (aval env u).ice H 4) = ds) :
 Loc P ⟨dst, .call ⟨.value (.func f), xs, tys⟩, ty, pos, after, gd⟩ env H (.d x) none := Qfp hf (h.arg hd) hx rfl
theorem Qfx (l : List (List UInt8)) : (l.map fun s => [dS s]).all (fun r => r.all D.flat) = true := by
 rw [List.all_eq_true];intro r hr;obtain ⟨x, _, rfl⟩ := List.mem_map.1 hr;rfl
theorem Qh3 (s : Pm.Store) (hb : StB s Pm.big) (t : Pl.Tree) : Pure Tryz.prog 6 [dSt s, dTree t] (dB true) := by
 have cz := Qn4 s hb 1048576 (by decide) (by decide);unfold Pm.less at cz
 by_cases hw : Pm.wtStore s <= 1048576
 rotate_left
 ·rw [if_pos (by omega)] at cz
  clear hb hw
  (refine Qbm Tryz.func6 rfl Tryz.ntmps6 Tryz.results6 rfl ?_; simp only [parE, Nat.zero_add, Nat.reduceAdd])
  (refine Qbh (Qbe ?_); (repeat (first | refine e1 (k := ?_) | refine e2 (k := ?_) | fail)); refine Qbf ?_)
  refine Qbi 0 (h := ?_);refine Qbi 1 (h := ?_)
  (repeat' (first | refine e1 (k := ?_) | refine stepS (Qbg Tryz.call16 cz rfl) (k := ?_) | refine Qbf ?_ | refine Qbh ?_ | refine Qbe ?_ | refine Qbn (ht := ?_) | fail))
  all_goals first
   |exact Qbp (hx := rfl)
   |(exfalso; simp at *; done)
   |(exfalso; simp at *; omega)
 obtain ⟨h1, h2⟩ := QkJ hb hw;have d1 := Qne s h1.l1 h1.l2 h1.l3 h1.l4 h1.l5;have c1 := Qn2 s h1;have c2 := aToTree t;have c3 := QiL s h2 t;have d4 := dTwins s h2 hb.x2 hb.x3 t;have c4 : Pure Tryz.prog 25 [dSt s, dTree t] (.tup [tStrs (Pl.QaG s t).1, dB (Pl.QaG s t).2]) := Does.pure (ds := [dSt s, dTree t]) d4 (by simp [AV.ice, List.take_of_length_le]);have c5 := QnA s s hb;rw [decide_eq_true rfl] at c5;have c6 := aEqStrs (Pl.QaG s t).1 (Pl.QaG s t).1 (by have := QgS s t; omega);rw [decide_eq_true rfl] at c6;have d7 := Qkn s 1 h1.l1 h1.l2 h1.l3 h1.l4 h1.l5 (by decide) (by decide)
 obtain ⟨K, m1, m2, m3, m4, m5, d7⟩ : ∃ (K : Nat) (m1 m2 m3 m4 m5 : List (List D)), Does Tryz.prog 27 [.agg [.osl 0 0 0 s.1.length, .osl 1 0 0 s.2.1.1.length, .osl 2 0 0 s.2.1.2.length, .d (dI s.2.2.1), .osl 3 0 0 s.2.2.2.1.length, .d (dI s.2.2.2.2.1), .osl 4 0 0 s.2.2.2.2.2.1.length, .d (dB s.2.2.2.2.2.2)], .d (dI (1 : Nat))]
  [.arr 0 1 9 (s.1.map fun s => [dS s]), .arr 0 1 3 (s.2.1.1.map fun n => [dI n]), .arr 0 1 3 (s.2.1.2.map fun n => [dI n]), .arr 0 5 54 (s.2.2.2.1.map rPtr), .arr 0 5 54 (s.2.2.2.2.2.1.map rPtr)]
  [.osl 0 0 0 s.1.length, .osl 1 0 0 s.2.1.1.length, .osl 2 0 0 s.2.1.2.length, .osl 3 0 0 s.2.2.2.1.length, .osl 4 0 0 s.2.2.2.2.2.1.length]
  (.d (dI (K : Nat))) [.arr 0 1 9 m1, .arr 0 1 3 m2, .arr 0 1 3 m3, .arr 0 5 54 m4, .arr 0 5 54 m5] := ⟨_, _, _, _, _, _, d7⟩
 have htl := QgS s t;generalize Pl.QaG s t = R at *
 obtain ⟨R, ok⟩ := R;simp only at c3 c4 c6 d4 htl;have d8 := Qh9 R R.length 1 (by omega) (by decide) (by decide)
 have c9 := Qmt (Pl.mk (fun i => Pm.mt (1 + i)) R R.length) 1 (by decide) (by rw [QcD _ (Nat.le_refl _)]; omega) (by decide) (fun i hi => by
  rw [QcD _ (Nat.le_refl _)] at hi;unfold Pl.mk
  rw [List.getElem?_append_left (by simpa using hi), List.getElem?_map, List.getElem?_range hi]; rfl)
 rw [QcD _ (Nat.le_refl _)] at c9;have hml : (Pl.mk (fun i => Pm.mt (1 + i)) R R.length).length = R.length := QcD _ (Nat.le_refl _);rw [if_neg (by omega)] at cz;have hz : 0 <= (1048576 : Int) - Pm.wtStore s := by omega
 generalize (1048576 : Int) - Pm.wtStore s = left at *
 clear h1 h2 hb hw;generalize Pl.mk (fun i => Pm.mt (1 + i)) R R.length = M at *
 (refine Qbm Tryz.func6 rfl Tryz.ntmps6 Tryz.results6 rfl ?_; simp only [parE, Nat.zero_add, Nat.reduceAdd])
 (refine Qbh (Qbe ?_); (repeat (first | refine e1 (k := ?_) | refine e2 (k := ?_) | fail)); refine Qbf ?_)
 refine Qbi 0 (h := ?_);refine Qbi 1 (h := ?_)
 (repeat' (first | refine f1 (k := ?_) | refine e1 (k := ?_) | refine stepS (Qbg Tryz.call16 cz rfl) (k := ?_) | refine Qbf ?_ | refine Qbh ?_ | refine Qbe ?_ | refine Qb3 follows_mixed (by kernel_rfl) (by kernel_rfl) ?_ | refine Qbr (ht := fun q => ?_) (hf := fun q => ?_) | refine Qbl ?_ | fail))
 ·exfalso; simp at q; omega
 refine stepD (Qbg Tryz.call18 c1 rfl) (k := ?_)
 (repeat' (first | refine f1 (k := ?_) | refine e1 (k := ?_) | refine stepD (Qbg Tryz.call19 c2 rfl) (k := ?_) | refine stepD (Qbg Tryz.call24 c3 rfl) (k := ?_) | refine Qbt ?_ | refine Qbh ?_ | refine Qbe ?_ | fail))
 refine Qc1 [] d1 Tryz.call18 (x' := .agg [.osl 5 0 0 s.1.length, .osl 9 0 0 s.2.1.1.length, .osl 10 0 0 s.2.1.2.length, .d (dI s.2.2.1), .osl 11 0 0 s.2.2.2.1.length, .d (dI s.2.2.2.2.1), .osl 12 0 0 s.2.2.2.2.2.1.length, .d (dB s.2.2.2.2.2.2)]) (hX := fun _ h => h) (H' := [.row 1 [], .row 1 [], .row 1 [], .row 0 [.osl 5 0 0 s.1.length, .osl 9 0 0 s.2.1.1.length, .osl 10 0 0 s.2.1.2.length, .d (dI s.2.2.1), .osl 11 0 0 s.2.2.2.1.length, .d (dI s.2.2.2.2.1), .osl 12 0 0 s.2.2.2.2.2.1.length, .d (dB s.2.2.2.2.2.2)], .row 0 [.osl 5 0 0 s.1.length, .osl 9 0 0 s.2.1.1.length, .osl 10 0 0 s.2.1.2.length, .d (dI s.2.2.1), .osl 11 0 0 s.2.2.2.1.length, .d (dI s.2.2.2.2.1), .osl 12 0 0 s.2.2.2.2.2.1.length, .d (dB s.2.2.2.2.2.2)], .arr 0 1 9 (s.1.map fun s => [dS s]), .row 1 [], .row 0 [.osl 9 0 0 s.2.1.1.length, .osl 10 0 0 s.2.1.2.length], .row 0 [.osl 9 0 0 s.2.1.1.length, .osl 10 0 0 s.2.1.2.length], .arr 0 1 3 (s.2.1.1.map fun n => [dI n]), .arr 0 1 3 (s.2.1.2.map fun n => [dI n]), .arr 0 5 54 (s.2.2.2.1.map rPtr), .arr 0 5 54 (s.2.2.2.2.2.1.map rPtr)]) (hH := fun _ h => h) (k := ?_);refine QcH 3 (h := ?_);refine QcH 4 (h := ?_);refine QcH 7 (h := ?_);refine QcH 8 (h := ?_)
 (repeat' (first | refine f1 (k := ?_) | refine e1 (k := ?_) | refine stepD (Qbg Tryz.call19 c2 rfl) (k := ?_) | refine (Fg.awp_drawF (id := 7) [] [3] follows_mixed (by kernel_rfl) (by kernel_rfl) (by kernel_rfl) ?_) | refine (Fg.aw_fltN ?_) | refine (Fg.aw_planFC (by rfl) (by kernel_rfl) rfl ?_) | refine (Fg.aw_planFN ?_) | refine (Qnv (ds := [dSt s, dTree t]) d4 Tryz.call25 (hd := ?_) (hx := rfl) (hH1 := ?_) (x' := .tup [.osl 19 R.length 0 R.length, .d (dB ok)]) (hX := fun _ h => h) (H' := [.row 1 [], .row 1 [], .row 1 [], .row 1 [], .row 1 [], .arr 0 1 9 (s.1.map fun s => [dS s]), .row 1 [], .row 1 [], .row 1 [], .arr 0 1 3 (s.2.1.1.map fun n => [dI n]), .arr 0 1 3 (s.2.1.2.map fun n => [dI n]), .arr 0 5 54 (s.2.2.2.1.map rPtr), .arr 0 5 54 (s.2.2.2.2.2.1.map rPtr), .row 0 [.osl 5 0 0 s.1.length, .osl 9 0 0 s.2.1.1.length, .osl 10 0 0 s.2.1.2.length, .d (dI s.2.2.1), .osl 11 0 0 s.2.2.2.1.length, .d (dI s.2.2.2.2.1), .osl 12 0 0 s.2.2.2.2.2.1.length, .d (dB s.2.2.2.2.2.2)], .row 1 [], .row 1 [], .row 1 [], .row 1 [], .row 1 [], .arr R.length 1 9 (R.map fun s => [dS s])]) (hH := fun _ h => h) (k := ?_)) | refine stepS (QcU Tryz.call26 c6 rfl ?_) (k := ?_) | refine stepS (Qct TyBool.h rfl rfl) (k := ?_) | refine Qbw (kk := ?_) | refine Qbf ?_ | refine Qbt ?_ | refine QbJ ?_ | refine Qbh ?_ | refine Qbe ?_ | refine Qb3 follows_mixed (by kernel_rfl) (by kernel_rfl) ?_ | refine Qbr (ht := fun q => ?_) (hf := fun q => ?_) | refine Qbl ?_ | refine e2 (k := ?_) | fail))
 all_goals first
  |(show D.weakL _ = _
    simp [go_sem, AV.ice, D.weak, D.weakL, List.take_of_length_le, hml]; done)
  |(show List.all _ _ = true
    simp only [List.all_cons, Blk.flat, Qfx, List.isEmpty_nil, List.all_nil, Bool.and_self]; done)
  |(show ∀ g, _ -> _ ∈ _
    intro g hg;simp only [List.mem_cons, List.not_mem_nil, or_false] at hg
    rcases hg with rfl | rfl | rfl | rfl | rfl <;> simp [AV.parts, AV.ren, rho, go_sem])
  |(show ∀ g, _ -> _ ∈ _
    intro g hg;rw [List.mem_singleton.1 hg]
    simp [AV.parts, AV.ren, rho, go_sem])
  |(exfalso; simp at *; done)
  |(exfalso; simp at *; omega)
  |refine stepD (Qbg Tryz.call18 c1 rfl) (k := ?_)
 (repeat' (first | refine f1 (k := ?_) | refine e1 (k := ?_) | refine stepD (QcU Tryz.call21 c5 rfl ?_) (k := ?_) | refine stepS (QcU Tryz.call26 c6 rfl ?_) (k := ?_) | refine (QbZ [5, 9, 10, 11, 12] d7 Tryz.call27 (hgl := ?_) (x' := .d (dI (K : Nat))) (hX := fun _ h => h) (H' := [.row 1 [], .row 1 [], .row 1 [], .row 1 [], .row 1 [], .arr 0 1 9 m1, .row 1 [], .row 1 [], .row 1 [], .arr 0 1 3 m2, .arr 0 1 3 m3, .arr 0 5 54 m4, .arr 0 5 54 m5, .row 0 [.osl 5 0 0 s.1.length, .osl 9 0 0 s.2.1.1.length, .osl 10 0 0 s.2.1.2.length, .d (dI s.2.2.1), .osl 11 0 0 s.2.2.2.1.length, .d (dI s.2.2.2.2.1), .osl 12 0 0 s.2.2.2.2.2.1.length, .d (dB s.2.2.2.2.2.2)], .row 1 [], .row 1 [], .row 1 [], .row 1 [], .row 1 [], .arr R.length 1 9 (R.map fun s => [dS s])]) (hH := fun _ h => h) (k := ?_)) | refine (QbZ [19] d8 Tryz.call28 (hgl := ?_) (x' := .d (dI ((1 + R.length : Nat) : Int))) (hX := fun _ h => h) (H' := [.row 1 [], .row 1 [], .row 1 [], .row 1 [], .row 1 [], .arr 0 1 9 m1, .row 1 [], .row 1 [], .row 1 [], .arr 0 1 3 m2, .arr 0 1 3 m3, .arr 0 5 54 m4, .arr 0 5 54 m5, .row 0 [.osl 5 0 0 s.1.length, .osl 9 0 0 s.2.1.1.length, .osl 10 0 0 s.2.1.2.length, .d (dI s.2.2.1), .osl 11 0 0 s.2.2.2.1.length, .d (dI s.2.2.2.2.1), .osl 12 0 0 s.2.2.2.2.2.1.length, .d (dB s.2.2.2.2.2.2)], .row 1 [], .row 1 [], .row 1 [], .row 1 [], .row 1 [], .arr R.length 1 9 (M.map fun s => [dS s])]) (hH := fun _ h => h) (k := ?_)) | refine stepS (QcU Tryz.call29 c9 rfl ?_) (k := ?_) | refine stepS (Qct TyBool.h rfl rfl) (k := ?_) | refine Qbf ?_ | refine Qbt ?_ | refine Qbh ?_ | refine Qbe ?_ | refine Qb3 follows_mixed (by kernel_rfl) (by kernel_rfl) ?_ | refine Qbo (hf := ?_) | refine Qbr (ht := fun q => ?_) (hf := fun q => ?_) | refine Qbl ?_ | fail))
 all_goals first
  |(show D.weakL _ = _
    simp [go_sem, AV.ice, D.weak, D.weakL, List.take_of_length_le, hml]; done)
  |(show List.all _ _ = true
    simp only [List.all_cons, Blk.flat, Qfx, List.isEmpty_nil, List.all_nil, Bool.and_self]; done)
  |(show ∀ g, _ -> _ ∈ _
    intro g hg;simp only [List.mem_cons, List.not_mem_nil, or_false] at hg
    rcases hg with rfl | rfl | rfl | rfl | rfl <;> simp [AV.parts, AV.ren, rho, go_sem])
  |(show ∀ g, _ -> _ ∈ _
    intro g hg;rw [List.mem_singleton.1 hg]
    simp [AV.parts, AV.ren, rho, go_sem])
  |(exfalso; simp at *; done)
  |(exfalso; simp at *; omega)
  |refine stepD (Qbg Tryz.call18 c1 rfl) (k := ?_)
 (repeat' (first | refine f1 (k := ?_) | refine e1 (k := ?_) | refine stepD (Qbg Tryz.call19 c2 rfl) (k := ?_) | refine stepD (Qbg Tryz.call25 c4 rfl) (k := ?_) | refine stepS (QcU Tryz.call26 c6 rfl ?_) (k := ?_) | refine stepS (QcU Tryz.call29 c9 rfl ?_) (k := ?_) | refine stepS (Qct TyBool.h rfl rfl) (k := ?_) | refine Qbf ?_ | refine Qbt ?_ | refine Qbh ?_ | refine Qbe ?_ | refine Qbo (hf := ?_) | refine Qbr (ht := fun q => ?_) (hf := fun q => ?_) | refine Qbl ?_ | fail))
 all_goals first
  |(show D.weakL _ = _
    simp [go_sem, AV.ice, D.weak, D.weakL, List.take_of_length_le, hml]; done)
  |(show List.all _ _ = true
    simp only [List.all_cons, Blk.flat, Qfx, List.isEmpty_nil, List.all_nil, Bool.and_self]; done)
  |(show ∀ g, _ -> _ ∈ _
    intro g hg;simp only [List.mem_cons, List.not_mem_nil, or_false] at hg
    rcases hg with rfl | rfl | rfl | rfl | rfl <;> simp [AV.parts, AV.ren, rho, go_sem])
  |(show ∀ g, _ -> _ ∈ _
    intro g hg;rw [List.mem_singleton.1 hg]
    simp [AV.parts, AV.ren, rho, go_sem])
  |(exfalso; simp at *; done)
  |(exfalso; simp at *; omega)
  |exact Qbp (hx := rfl)
end Aw
end Go.Proofs.YtdjkdcokjoiokaaGreatDoor

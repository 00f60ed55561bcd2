/- Part 38 of the proof of twins_card: contracts, walks, plain laws; no condition is assumed beyond those that a statement names. -/
import Derived.Test.YtdjkdcokjoiokaaGreatDoorV37
set_option linter.all false
set_option maxRecDepth 100000
set_option maxHeartbeats 16000000
namespace Go.Proofs.YtdjkdcokjoiokaaGreatDoor
open Go.RowKit
namespace Aw
attribute [local irreducible] ASeq ADraw AWP Loc mget mset AStep Fg.PlanF Fg.Flts
def Pl.idxT (l : List Pl.Th) (pr : Pl.Th -> Bool) : Int := match l.findIdx? pr with | some i => i | none => -1
theorem QmS (l : List Pl.Th) (pr : Pl.Th -> Bool) : decide (Pl.idxT l pr ≥ 0) = l.any pr := by
 unfold Pl.idxT;cases h : l.findIdx? pr with
 |none =>
  have := List.findIdx?_eq_none_iff.1 h;have h2 : l.any pr = false := by rw [List.any_eq_false]; intro x hx; rw [this x hx]; simp
  rw [h2]; rfl
 |some i =>
  obtain ⟨hi, hp, _⟩ := List.findIdx?_eq_some_iff_getElem.1 h;have h2 : l.any pr = true := List.any_eq_true.2 ⟨_, List.getElem_mem hi, hp⟩;rw [h2]; simp
theorem Qnq (l : List Pl.Th) (hl : l.length <= 1000000) (f : FuncId) (cap : D) (pr : Pl.Th -> Bool) (hf : ∀ args w, (callFunc f args).run Tryz.prog w = .ok (.enter f args) w) (h : ∀ p ∈ l, Pure Tryz.prog f [.agg (rTh p), cap] (dB (pr p))) :
 PureF Tryz.prog 132 [.d (.sl true 3 (l.map rTh)), .fn (.func f) [.d cap]] (dI (Pl.idxT l pr)) := by
 (refine QbV Tryz.func132 rfl Tryz.ntmps132 Tryz.results132 rfl ?_; simp only [parA, Nat.zero_add, Nat.reduceAdd])
 (repeat' (first | refine e1 (k := ?_) | refine Qbf ?_ | refine Qbh ?_ | refine Qbe ?_ | refine Qbk ?_ | fail))
 refine Qb0 (fun m st => ∃ k : Nat, k <= l.length /\ m = l.length - k /\ Hid (∀ x ∈ l.take k, pr x = false) /\ st = ⟨19, [(8, .d (dI k)), (7, .d (dI l.length)), (0, .d (.sl true 3 (l.map rTh))), (1, .fn (.func f) [.d cap])], []⟩) [8, 7, 0, 1] 0 l.length ⟨0, by omega, rfl, Pm.hid (by simp), by simp [keepE, go_sem]⟩ (round := ?_);rintro m st ⟨k, hk, rfl, hA, rfl⟩
 (repeat (first | refine e1 (k := ?_) | refine Qbf ?_ | refine Qbh ?_ | refine Qbe ?_ | fail))
 cases q3 : decide ((k : Int) < (l.length : Int))
 ·(repeat' (first | refine e1 (k := ?_) | refine Qbf ?_ | refine Qbh ?_ | refine Qbe ?_ | refine Qbo (hf := ?_) | refine Qbs ?_ | fail))
  refine QbA (hx := ?_);have : k = l.length := by simp at q3; omega
  have h := hA.out;rw [this, List.take_length] at h;have : l.findIdx? pr = none := List.findIdx?_eq_none_iff.2 h;unfold Pl.idxT; rw [this]
 have hk2 : k < l.length := by simp at q3; omega
 obtain ⟨x, hx⟩ : ∃ x, l[k]? = some x := ⟨_, List.getElem?_eq_getElem hk2⟩;have hr := Qbz (f := rTh) hx
 have T : Hid (pr x = false -> ∀ y ∈ l.take (k + 1), pr y = false) := Pm.hid fun h y hy => by
  rw [List.take_add_one, hx] at hy;rcases List.mem_append.1 hy with hy | hy
  ·exact hA.out y hy
  ·simp at hy; subst hy; exact h
 have F : Hid (pr x = true -> Pl.idxT l pr = k) := Pm.hid fun h => by
  have : l.findIdx? pr = some k := by
   rw [List.findIdx?_eq_some_iff_getElem];refine ⟨hk2, ?_, fun j hj => ?_⟩
   ·rw [(List.getElem?_eq_some_iff.1 hx).2]; exact h
   ·have := hA.out l[j] (List.mem_iff_getElem?.2 ⟨j, by rw [List.getElem?_take, if_pos hj]; exact List.getElem?_eq_getElem (by omega)⟩)
    rw [this]; simp
  unfold Pl.idxT; rw [this]
 have c := h x (List.mem_of_getElem? hx);clear hx hA;generalize pr x = b at *
 (repeat' (first | refine e1 (k := ?_) | refine stepS (Qbj Ty.h rfl Ty.h rfl rfl rfl (by omega) hr) (k := ?_) | refine stepS (Qcl hf c rfl rfl) (k := ?_) | refine stepS (Qbu rfl rfl (by omega)) (k := ?_) | refine Qbf ?_ | refine Qbq ?_ | refine Qbh ?_ | refine Qbe ?_ | refine Qbn (ht := ?_) | refine Qbr (ht := fun q => ?_) (hf := fun q => ?_) | refine Qbl ?_ | refine Qbk ?_ | fail))
 all_goals first
  |exact Qbv (l.length - (k + 1)) (by omega) ⟨k + 1, by omega, rfl, Pm.hid (T.out (by assumption)), by simp [keepE, go_sem]⟩
  |(refine QbA (hx := ?_); rw [F.out (by assumption)])
theorem QiI (l : List Pl.Th) (hl : l.length <= 1000000) (f : FuncId) (cap : D) (pr : Pl.Th -> Bool) (hf : ∀ args w, (callFunc f args).run Tryz.prog w = .ok (.enter f args) w) (h : ∀ p ∈ l, Pure Tryz.prog f [.agg (rTh p), cap] (dB (pr p))) :
 PureF Tryz.prog 72 [.d (.sl true 3 (l.map rTh)), .fn (.func f) [.d cap]] (dB (l.any pr)) := by
 have c := Qnq l hl f cap pr hf h;have hd := Pm.hid (QmS l pr);generalize Pl.idxT l pr = i at *
 (refine QbV Tryz.func72 rfl Tryz.ntmps72 Tryz.results72 rfl ?_; simp only [parA, Nat.zero_add, Nat.reduceAdd])
 (repeat' (first | refine e1 (k := ?_) | refine stepS (Qch Tryz.call132 c rfl rfl) (k := ?_) | refine Qbf ?_ | refine Qbh ?_ | refine Qbe ?_ | fail))
 refine QbA (hx := ?_);rw [<- hd.out]
theorem bTwin11 (x y : Pl.Th) : Pure Tryz.prog 73 [.agg (rTh y), .pd (rTh x)] (dB (Pl.QaQ x y)) := by
 obtain ⟨i, a, u⟩ := x;obtain ⟨j, b, v⟩ := y;have hd : Hid (Pl.QaQ (i, a, u) (j, b, v) = (!b && ((j : Int) != (i : Int)) && (v == u))) := Pm.hid rfl;generalize Pl.QaQ (i, a, u) (j, b, v) = r at *
 simp only [rTh]
 (refine Qbm Tryz.func73 rfl Tryz.ntmps73 Tryz.results73 rfl ?_; simp only [parE, Nat.zero_add, Nat.reduceAdd])
 (refine Qbh (Qbe ?_); (repeat (first | refine e1 (k := ?_) | refine e2 (k := ?_) | fail)); refine Qbf ?_)
 refine Qbi 0 (h := ?_)
 (repeat' (first | refine e1 (k := ?_) | refine e0 (k := ?_) | refine stepS (Qcd rfl rfl) (k := ?_) | refine Qbf ?_ | refine Qbh ?_ | refine Qbe ?_ | ((fail_if_success show ASeq _ _ _ _ ⟨_, (_, .d (.v (.bool true))) :: _, _⟩); (fail_if_success show ASeq _ _ _ _ ⟨_, (_, .d (.v (.bool false))) :: _, _⟩); refine splitS (fun q => ?_) (fun q => ?_))))
 all_goals
  refine Qbp (hx := ?_);rw [hd.out]
  simp_all
theorem bTwin1 (N : List (List D)) (T : List Pl.Th) (hl : T.length <= 1000) (x : Pl.Th) : Pure Tryz.prog 71 [.agg [.sl true 2 N, .sl true 3 (T.map rTh)], .agg (rTh x)] (dB (Pl.QaM T x)) := by
 have c := QiI T (by omega) 73 (.pd (rTh x)) (Pl.QaQ x) Tryz.call73 fun y _ => bTwin11 x y
 change PureF _ _ _ (dB (Pl.QaM T x)) at c
 generalize Pl.QaM T x = r at *
 obtain ⟨i, a, u⟩ := x;simp only [rTh] at *
 (refine Qbm Tryz.func71 rfl Tryz.ntmps71 Tryz.results71 rfl ?_; simp only [parE, Nat.zero_add, Nat.reduceAdd])
 (refine Qbh (Qbe ?_); (repeat (first | refine e1 (k := ?_) | refine e2 (k := ?_) | fail)); refine Qbf ?_)
 refine Qbi 0 (h := ?_);refine Qbi 1 (h := ?_)
 (repeat' (first | refine e1 (k := ?_) | refine stepS (Qdk rfl) (k := ?_) | refine stepS (Qch Tryz.call72 c rfl rfl) (k := ?_) | refine Qbf ?_ | refine Qbh ?_ | refine Qbe ?_ | fail))
 exact Qbp (hx := rfl)
theorem Qnj (s : Pm.Store) (t : Pl.Tree) (f : FuncId) (c : Pure Tryz.prog 130 [dSt s, dTree t] (.tup [dFlat ([], []), dB false])) :
 Does Tryz.prog 70 [.d (dSt s), .d (dTree t), .fn (.func f) []] [] [] (.tup [.osl 3 0 0 0, .d (dB false)]) [.row 1 [], .row 1 [], .row 1 [], .arr 0 1 9 []] := by
 refine QbC Tryz.func70 rfl Tryz.ntmps70 Tryz.results70 rfl rfl ?hpin (fun gvs => ?_)
 case hpin => intro i C hC; simp at hC
 simp only [parA, gslot, Nat.zero_add, Nat.reduceAdd]
 (refine Qbh (Qbe ?_); (repeat (first | refine e1 (k := ?_) | refine e2 (k := ?_) | fail)); refine Qbf ?_)
 refine Qbi 0 (h := ?_);refine Qbi 1 (h := ?_)
 (repeat' (first | refine e1 (k := ?_) | refine stepS (Qbg Tryz.call130 c rfl) (k := ?_) | refine Qbw (kk := ?_) | refine Qbf ?_ | refine Qbh ?_ | refine Qbe ?_ | refine Qbn (ht := ?_) | refine e2 (k := ?_) | fail))
 refine Qbi 2 (h := ?_);refine Qd5 6 1 9 (h := ?_);refine Qcq [6, 7, 1000000] 4 (H' := [.row 1 [], .row 1 [], .row 1 [], .arr 0 1 9 []]) (hH := fun R hR => hR) (h := ?_);exact QbP (hx := rfl) (hH := rfl)
theorem Qmd (s : Pm.Store) (t : Pl.Tree) (Ns : List Gr.It) (T : List Pl.Th) (hF : Pl.FlatB (Ns, T)) (c : Pure Tryz.prog 130 [dSt s, dTree t] (.tup [dFlat (Ns, T), dB true])) (f : FuncId) (F : Pl.Th -> Bool)
 (hf : ∀ args w, (callFunc f args).run Tryz.prog w = .ok (.enter f args) w) (hc : ∀ x ∈ T, Pure Tryz.prog f [dFlat (Ns, T), .agg (rTh x)] (dB (F x))) :
 Does Tryz.prog 70 [.d (dSt s), .d (dTree t), .fn (.func f) []] [] [] (.tup [.osl 3 (Pl.Qa3 (Ns, T) F Ns).length 0 (Pl.Qa3 (Ns, T) F Ns).length, .d (dB true)])
  [.row 1 [], .row 1 [], .row 1 [], .arr (Pl.Qa3 (Ns, T) F Ns).length 1 9 ((Pl.Qa3 (Ns, T) F Ns).map fun s => [dS s])] := by
 have hnl : Ns.length <= 144 := hF.nl;have htl : T.length <= 16 := hF.tl
 replace hF := Pm.hid hF
 have hw := Pm.hid (QeV (Ns, T) F);have hws := Pm.hid (QfF (Ns, T) F);have hw0 : Pl.Qa3 (Ns, T) F [] = [] := rfl;generalize Pl.Qa3 (Ns, T) F = W at *
 simp only at hws;refine QbC Tryz.func70 rfl Tryz.ntmps70 Tryz.results70 rfl rfl ?hpin (fun gvs => ?_)
 case hpin => intro i C hC; simp at hC
 simp only [parA, gslot, Nat.zero_add, Nat.reduceAdd]
 (refine Qbh (Qbe ?_); (repeat (first | refine e1 (k := ?_) | refine e2 (k := ?_) | fail)); refine Qbf ?_)
 refine Qbi 0 (h := ?_);refine Qbi 1 (h := ?_)
 (repeat' (first | refine e1 (k := ?_) | refine stepS (Qbg Tryz.call130 c rfl) (k := ?_) | refine Qbw (kk := ?_) | refine Qbf ?_ | refine Qbh ?_ | refine Qbe ?_ | refine Qbo (hf := ?_) | refine Qbl ?_ | refine Qbk ?_ | refine e2 (k := ?_) | fail))
 all_goals first
  |(exfalso; simp at *; done)
  |skip
 refine Qbi 2 (h := ?_);refine Qd5 10 1 9 (h := ?_)
 refine Qb0 (fun m st => ∃ i : Nat, i <= Ns.length /\ m = Ns.length - i /\ st = ⟨52, [(25, .d (dI i)), (23, .d (.sl true 2 (Ns.map rIt))), (24, .d (dI Ns.length)), (8, .d (.pd [.sl true 2 (Ns.map rIt), .sl true 3 (T.map rTh)])), (2, .fn (.func f) []), (10, .osl 3 (W (Ns.take i)).length 0 (W (Ns.take i)).length), (1000000, .gh [] gvs)],
  [.row 1 [], .row 1 [], .row 1 [], .arr (W (Ns.take i)).length 1 9 ((W (Ns.take i)).map fun s => [dS s])]⟩) [25, 23, 24, 8, 2, 10, 1000000] 4 Ns.length ⟨0, by omega, rfl, by rw [List.take_zero, hw0]; simp [keepE, go_sem]⟩ (round := ?_)
 rintro m st ⟨i, hi, rfl, rfl⟩;have hwl := hw.out (Ns.take i);rw [List.length_take] at hwl
 (repeat (first | refine e1 (k := ?_) | refine Qbf ?_ | refine Qbh ?_ | refine Qbe ?_ | fail))
 cases q3 : decide ((i : Int) < (Ns.length : Int))
 ·have : i = Ns.length := by simp at q3; omega
  rw [this, List.take_length]
  (repeat' (first | refine e1 (k := ?_) | refine Qbf ?_ | refine Qbh ?_ | refine Qbe ?_ | refine Qbo (hf := ?_) | refine Qbs ?_ | fail))
  refine Qcq [6, 7, 1000000] 4 (H' := [.row 1 [], .row 1 [], .row 1 [], .arr (W Ns).length 1 9 ((W Ns).map fun s => [dS s])]) (hH := fun R hR => hR) (h := ?_);exact QbP (hx := rfl) (hH := rfl)
 have hi2 : i < Ns.length := by simp at q3; omega
 obtain ⟨n, hn⟩ : ∃ n, Ns[i]? = some n := ⟨_, List.getElem?_eq_getElem hi2⟩;have hr := Qbz (f := rIt) hn;obtain ⟨x, hx⟩ : ∃ x, Pl.thAt T n.2 = x := ⟨_, rfl⟩;obtain ⟨hxT, hx1⟩ := QiQ hF.out (n := n) (List.mem_of_getElem? hn);simp only [hx] at hxT hx1
 have c3 : Pure Tryz.prog 131 [.pd [.sl true 2 (Ns.map rIt), .sl true 3 (T.map rTh)], dI (n.2 : Nat)] (.pd (rTh x)) := by
  rw [<- hx1]; exact bThing (Ns.map rIt) T hF.out.asc (by omega) x hxT
 have hstep : Hid (W (Ns.take (i + 1)) = W (Ns.take i) ++ if (!x.2.1 && F x) = true then [Pl.Qan n.1] else []) := Pm.hid (by
  rw [List.take_add_one, hn, Option.toList_some, hws.out, hx])
 have c4 := hc x hxT;clear hn hx1 hw hws hw0 hxT hx hc hF;generalize hW2 : W (Ns.take (i + 1)) = W2 at *
 generalize W (Ns.take i) = W1 at *
 generalize F x = fx at *
 obtain ⟨np, nid⟩ := n;obtain ⟨xi, xf, xt⟩ := x;simp only at c3 hstep;cases xf
 ·cases fx
  ·(repeat' (first | refine f1 (k := ?_) | refine e1 (k := ?_) | refine stepS (Qbj Ty.h rfl Ty.h rfl rfl rfl (by omega) hr) (k := ?_) | refine stepS (Qbg Tryz.call131 c3 rfl) (k := ?_) | refine stepD (QbG rfl) (k := ?_) | refine stepD (Qcl hf c4 rfl rfl) (k := ?_) | refine stepS (Qbu rfl rfl (by omega)) (k := ?_) | refine Qbw (kk := ?_) | refine Qbf ?_ | refine Qbq ?_ | refine Qbt ?_ | refine Qbh ?_ | refine Qbe ?_ | refine Qb3 follows_mixed (by kernel_rfl) (by kernel_rfl) ?_ | refine Qbn (ht := ?_) | refine Qbo (hf := ?_) | refine Qbl ?_ | refine Qbk ?_ | refine e2 (k := ?_) | fail))
   all_goals first
    |(exfalso; simp at *; done)
    |(refine Qbv (Ns.length - (i + 1)) (by omega) ⟨i + 1, by omega, rfl, ?_⟩
      rw [hW2, hstep.out]
      simp [keepE, go_sem]; done)
  ·(repeat' (first | refine f1 (k := ?_) | refine e1 (k := ?_) | refine stepS (Qbj Ty.h rfl Ty.h rfl rfl rfl (by omega) hr) (k := ?_) | refine stepS (Qbg Tryz.call131 c3 rfl) (k := ?_) | refine stepD (QbG rfl) (k := ?_) | refine stepD (Qcl hf c4 rfl rfl) (k := ?_) | refine QbQ Ty.h rfl Ty.h (hb := ?_) (kk := ?_) | refine stepS (Qbu rfl rfl (by omega)) (k := ?_) | refine stepS2 (Qb2 Ty.h rfl Ty.h) (k := ?_) | refine Qbw (kk := ?_) | refine Qbf ?_ | refine Qbq ?_ | refine Qb1 ?_ | refine Qbt ?_ | refine Qbh ?_ | refine Qbe ?_ | refine Qb3 follows_mixed (by kernel_rfl) (by kernel_rfl) ?_ | refine Qbn (ht := ?_) | refine Qbl ?_ | refine Qbk ?_ | refine e2 (k := ?_) | fail))
   all_goals first
    |(exfalso; simp at *; done)
    |(show ((W1.map fun s => [dS s]).length + 1) * 16 <= 140737488355328
      rw [List.length_map]; omega)
    |(refine Qbv (Ns.length - (i + 1)) (by omega) ⟨i + 1, by omega, rfl, ?_⟩
      rw [hW2, hstep.out]
      simp [keepE, go_sem]; done)
 ·(repeat' (first | refine f1 (k := ?_) | refine e1 (k := ?_) | refine f0 (k := ?_) | refine stepS (Qbj Ty.h rfl Ty.h rfl rfl rfl (by omega) hr) (k := ?_) | refine stepS (Qbg Tryz.call131 c3 rfl) (k := ?_) | refine stepD (QbG rfl) (k := ?_) | refine stepS (Qbu rfl rfl (by omega)) (k := ?_) | refine Qbw (kk := ?_) | refine Qbf ?_ | refine Qbq ?_ | refine Qbt ?_ | refine Qbh ?_ | refine Qbe ?_ | refine Qb3 follows_mixed (by kernel_rfl) (by kernel_rfl) ?_ | refine Qbn (ht := ?_) | refine Qbo (hf := ?_) | refine Qbl ?_ | refine Qbk ?_ | refine e2 (k := ?_) | fail))
  all_goals first
   |(exfalso; simp at *; done)
   |(refine Qbv (Ns.length - (i + 1)) (by omega) ⟨i + 1, by omega, rfl, ?_⟩
     rw [hW2, hstep.out]
     simp [keepE, go_sem]; done)
end Aw
end Go.Proofs.YtdjkdcokjoiokaaGreatDoor
namespace Go.Proofs.YtdjkdcokjoiokaaGreatDoor
open Go.RowKit
namespace Aw
attribute [local irreducible] ASeq ADraw AWP Loc AStep Fg.PlanF Fg.Flts
theorem Does.pure {P : Program} {f : FuncId} {ds : List D} {x : AV} {H1 : List Blk} {y : D} (h : Does P f (ds.map .d) [] [] x H1) (hy : x.ice H1 4 = y) : Pure P f ds y := by
 subst hy;intro B σ S H w cargs hB hS hl hr;refine (h.2 _ _ S w cargs [] (hB.again hS S) hS.empty (by simpa using hl) (fun i d v hi hv => ?_) rfl (fun i d v hd => by simp at hd)).mono ?_
 ·rw [List.getElem?_map] at hi
  obtain ⟨d0, hd0, rfl⟩ := Option.map_eq_some_iff.1 hi;exact .d _ _ (hr i d0 v hd0 hv)
 rintro e w' ⟨v, σ', S', rfl, hS1, hR, _⟩;refine ⟨v, rfl, ⟨hS1.os, hS1.tape, hS1.output, hS1.size, fun k hk => hS1.keep k hk fun h => h⟩, (Qe1 hS1 (fun k C h => .inl h) 4 _ _ hR).mono (fun b hb => ?_) fun _ _ => rfl⟩;rcases hb with hb | ⟨k, hk, hb⟩
 ·obtain ⟨h1, h2⟩ := hS1.sUp b hb
  exact h2.imp id fun h => ⟨h.resolve_left fun h => h, h1⟩
 ·obtain ⟨h1, _, h2⟩ := hS1.σUp k b hk hb
  exact .inr ⟨h2.resolve_left fun h => h, h1⟩
theorem dToInts (l : List Int) (h : l.length <= 1048576) : Does Tryz.prog 118 [.d (dInts l)] [] [] (.osl 0 0 0 l.length) [.arr 0 1 3 (l.map (fun n => [dI n]))] := by
 have hb : 8 * l.length <= 281474976710656 := by omega
 have hm : l.length <= 140737488355328 := by omega
 refine QbC Tryz.func118 rfl Tryz.ntmps118 Tryz.results118 rfl rfl ?hpin (fun gvs => ?_)
 case hpin => intro i C hC; simp at hC
 simp only [parA, gslot, Nat.zero_add, Nat.reduceAdd]
 (repeat' (first | refine e1 (k := ?_) | refine stepS2 (Qcz Ty.h rfl Ty.h rfl rfl rfl hb hm) (k := ?_) | refine Qbf ?_ | refine Qbh ?_ | refine Qbe ?_ | refine Qbk ?_ | fail))
 refine Qb0 (fun m st => ∃ k : Nat, k <= l.length /\ m = l.length - k /\ st = ⟨22, [(3, .osl 0 0 0 l.length), (4, .d (dI k)), (0, .d (dInts l)), (1000000, .gh [] gvs)], [.arr 0 1 3 ((l.take k ++ List.replicate (l.length - k) 0).map (fun n => [dI n]))]⟩) [3, 4, 0, 1000000] 1 l.length ⟨0, by omega, rfl, by simp [keepE, go_sem]⟩ (round := ?_);rintro m st ⟨k, hk, rfl, rfl⟩
 (repeat (first | refine e1 (k := ?_) | refine Qbf ?_ | refine Qbh ?_ | refine Qbe ?_ | fail))
 cases q3 : decide ((k : Int) < (l.length : Int))
 ·have : k = l.length := by simp at q3; omega
  subst this
  (repeat' (first | refine e1 (k := ?_) | refine Qbf ?_ | refine Qbh ?_ | refine Qbe ?_ | refine Qbo (hf := ?_) | refine Qbs ?_ | fail))
  exact QbP (hx := rfl) (hH := by simp)
 have hk2 : k < l.length := by simp at q3; omega
 obtain ⟨x, hx⟩ : ∃ x, l[k]? = some x := ⟨_, List.getElem?_eq_getElem hk2⟩;have hr := Qbz (f := (fun n => [dI n])) hx;have hrm : ((l.take k ++ List.replicate (l.length - k) 0).map (fun n => [dI n]))[0 + (k : Int).toNat]? = some [dI 0] := by rw [Nat.zero_add, Int.toNat_natCast, List.getElem?_map, QdE hk2]; rfl
 have hf := QdD (z := 0) hx;clear hx
 (repeat' (first | refine e1 (k := ?_) | refine stepS (Qbj Ty.h rfl Ty.h rfl rfl rfl (by omega) hr) (k := ?_) | refine stepS (Qb6 Ty.h rfl Ty.h rfl rfl rfl rfl (by omega) (by omega)) (k := ?_) | refine Qci Ty.h rfl rfl hrm rfl (kk := ?_) | refine stepS (Qbu rfl rfl (by omega)) (k := ?_) | refine Qbq ?_ | refine Qb1 ?_ | refine Qbh ?_ | refine Qbe ?_ | refine Qbn (ht := ?_) | refine Qbl ?_ | refine Qbk ?_ | fail))
 refine Qbv (l.length - (k + 1)) (by omega) ⟨k + 1, by omega, rfl, ?_⟩;rw [<- hf];simp [keepE, go_sem, List.map_set]
theorem dToStrs (l : List (List UInt8)) (h : l.length <= 1048576) : Does Tryz.prog 57 [.d (dStrs l)] [] [] (.osl 0 0 0 l.length) [.arr 0 1 9 (l.map (fun s => [dS s]))] := by
 have hb : 16 * l.length <= 281474976710656 := by omega
 have hm : l.length <= 140737488355328 := by omega
 refine QbC Tryz.func57 rfl Tryz.ntmps57 Tryz.results57 rfl rfl ?hpin (fun gvs => ?_)
 case hpin => intro i C hC; simp at hC
 simp only [parA, gslot, Nat.zero_add, Nat.reduceAdd]
 (repeat' (first | refine e1 (k := ?_) | refine stepS2 (Qcz Ty.h rfl Ty.h rfl rfl rfl hb hm) (k := ?_) | refine Qbf ?_ | refine Qbh ?_ | refine Qbe ?_ | refine Qbk ?_ | fail))
 refine Qb0 (fun m st => ∃ k : Nat, k <= l.length /\ m = l.length - k /\ st = ⟨22, [(3, .osl 0 0 0 l.length), (4, .d (dI k)), (0, .d (dStrs l)), (1000000, .gh [] gvs)], [.arr 0 1 9 ((l.take k ++ List.replicate (l.length - k) []).map (fun s => [dS s]))]⟩) [3, 4, 0, 1000000] 1 l.length ⟨0, by omega, rfl, by simp [keepE, go_sem]⟩ (round := ?_);rintro m st ⟨k, hk, rfl, rfl⟩
 (repeat (first | refine e1 (k := ?_) | refine Qbf ?_ | refine Qbh ?_ | refine Qbe ?_ | fail))
 cases q3 : decide ((k : Int) < (l.length : Int))
 ·have : k = l.length := by simp at q3; omega
  subst this
  (repeat' (first | refine e1 (k := ?_) | refine Qbf ?_ | refine Qbh ?_ | refine Qbe ?_ | refine Qbo (hf := ?_) | refine Qbs ?_ | fail))
  exact QbP (hx := rfl) (hH := by simp)
 have hk2 : k < l.length := by simp at q3; omega
 obtain ⟨x, hx⟩ : ∃ x, l[k]? = some x := ⟨_, List.getElem?_eq_getElem hk2⟩;have hr := Qbz (f := (fun s => [dS s])) hx;have hrm : ((l.take k ++ List.replicate (l.length - k) []).map (fun s => [dS s]))[0 + (k : Int).toNat]? = some [dS []] := by rw [Nat.zero_add, Int.toNat_natCast, List.getElem?_map, QdE hk2]; rfl
 have hf := QdD (z := []) hx;clear hx
 (repeat' (first | refine e1 (k := ?_) | refine stepS (Qbj Ty.h rfl Ty.h rfl rfl rfl (by omega) hr) (k := ?_) | refine stepS (Qb6 Ty.h rfl Ty.h rfl rfl rfl rfl (by omega) (by omega)) (k := ?_) | refine Qci Ty.h rfl rfl hrm rfl (kk := ?_) | refine stepS (Qbu rfl rfl (by omega)) (k := ?_) | refine Qbq ?_ | refine Qb1 ?_ | refine Qbh ?_ | refine Qbe ?_ | refine Qbn (ht := ?_) | refine Qbl ?_ | refine Qbk ?_ | fail))
 refine Qbv (l.length - (k + 1)) (by omega) ⟨k + 1, by omega, rfl, ?_⟩;rw [<- hf];simp [keepE, go_sem, List.map_set]
theorem dToPtrs (l : List Pl.Ptr) (h : l.length <= 1048576) : Does Tryz.prog 59 [.d (dPtrs l)] [] [] (.osl 0 0 0 l.length) [.arr 0 5 54 (l.map rPtr)] := by
 have hb : 40 * l.length <= 281474976710656 := by omega
 have hm : l.length <= 140737488355328 := by omega
 refine QbC Tryz.func59 rfl Tryz.ntmps59 Tryz.results59 rfl rfl ?hpin (fun gvs => ?_)
 case hpin => intro i C hC; simp at hC
 simp only [parA, gslot, Nat.zero_add, Nat.reduceAdd]
 (repeat' (first | refine e1 (k := ?_) | refine stepS2 (Qcz Ty.h rfl Ty.h rfl rfl rfl hb hm) (k := ?_) | refine Qbf ?_ | refine Qbh ?_ | refine Qbe ?_ | refine Qbk ?_ | fail))
 refine Qb0 (fun m st => ∃ k : Nat, k <= l.length /\ m = l.length - k /\ st = ⟨23, [(3, .osl 0 0 0 l.length), (4, .d (dI k)), (0, .d (dPtrs l)), (1000000, .gh [] gvs)], [.arr 0 5 54 ((l.take k ++ List.replicate (l.length - k) Pl.hole).map rPtr)]⟩) [3, 4, 0, 1000000] 1 l.length ⟨0, by omega, rfl, by simp [keepE, go_sem, Pl.hole]⟩ (round := ?_);rintro m st ⟨k, hk, rfl, rfl⟩
 (repeat (first | refine e1 (k := ?_) | refine Qbf ?_ | refine Qbh ?_ | refine Qbe ?_ | fail))
 cases q3 : decide ((k : Int) < (l.length : Int))
 ·have : k = l.length := by simp at q3; omega
  subst this
  (repeat' (first | refine e1 (k := ?_) | refine Qbf ?_ | refine Qbh ?_ | refine Qbe ?_ | refine Qbo (hf := ?_) | refine Qbs ?_ | fail))
  exact QbP (hx := rfl) (hH := by simp)
 have hk2 : k < l.length := by simp at q3; omega
 obtain ⟨x, hx⟩ : ∃ x, l[k]? = some x := ⟨_, List.getElem?_eq_getElem hk2⟩;have hr := Qbz (f := rPtr) hx;have hrm : ((l.take k ++ List.replicate (l.length - k) Pl.hole).map rPtr)[0 + (k : Int).toNat]? = some (rPtr Pl.hole) := by rw [Nat.zero_add, Int.toNat_natCast, List.getElem?_map, QdE hk2]; rfl
 have hf := QdD (z := Pl.hole) hx;clear hx
 (repeat' (first | refine e1 (k := ?_) | refine stepS (Qbj Ty.h rfl Ty.h rfl rfl rfl (by omega) hr) (k := ?_) | refine stepS (Qb6 Ty.h rfl Ty.h rfl rfl rfl rfl (by omega) (by omega)) (k := ?_) | refine stepS (Qbg Tryz.call60 (aToPtr x) rfl) (k := ?_) | refine Qge Ty.h rfl rfl hrm rfl rfl rfl rfl (kk := ?_) | refine stepS (Qbu rfl rfl (by omega)) (k := ?_) | refine Qbq ?_ | refine Qb1 ?_ | refine Qbh ?_ | refine Qbe ?_ | refine Qbn (ht := ?_) | refine Qbl ?_ | refine Qbk ?_ | fail))
 refine Qbv (l.length - (k + 1)) (by omega) ⟨k + 1, by omega, rfl, ?_⟩;rw [<- hf];simp [keepE, go_sem, List.map_set]
theorem Qnf (s : Pm.Space) (h1 : s.1.length <= 1048576) (h2 : s.2.length <= 1048576) : Does Tryz.prog 58 [.d (dSpace s)] [] [] (.agg [.osl 3 0 0 s.1.length, .osl 4 0 0 s.2.length])
 [.row 1 [], .row 0 [.osl 3 0 0 s.1.length, .osl 4 0 0 s.2.length], .row 0 [.osl 3 0 0 s.1.length, .osl 4 0 0 s.2.length], .arr 0 1 3 (s.1.map fun n => [dI n]), .arr 0 1 3 (s.2.map fun n => [dI n])] := by
 have c1 := dToInts s.1 h1;have c2 := dToInts s.2 h2;refine QeI Tryz.func58 rfl Tryz.ntmps58 Tryz.results58 rfl rfl ?hpin (fun gvs => ?_)
 case hpin => intro i C hC; simp at hC
 simp only [parA, gslot, Nat.zero_add, Nat.reduceAdd]
 (refine Qbh (Qbe ?_); (repeat (first | refine e2 (k := ?_) | fail)); refine Qbf ?_)
 refine Qbi 0 (h := ?_);generalize hn1 : s.1.length = n1 at *
 generalize hn2 : s.2.length = n2 at *
 generalize s.1.map (fun n => [dI n]) = r1 at *
 generalize s.2.map (fun n => [dI n]) = r2 at *
 (repeat' (first | refine e1 (k := ?_) | refine (Qc1 [] c1 Tryz.call118 (x' := .osl 3 0 0 n1) (hX := fun _ h => h) (H' := [.row 1 [], .row 0 [.d (.v (.slice none 0 0)), .d (.v (.slice none 0 0))], .row 0 [.d (.v (.slice none 0 0)), .d (.v (.slice none 0 0))], .arr 0 1 3 r1]) (hH := fun _ h => h) (k := ?_)) | refine (Qc1 [] c2 Tryz.call118 (x' := .osl 4 0 0 n2) (hX := fun _ h => h) (H' := [.row 1 [], .row 0 [.d (.v (.slice none 0 0)), .d (.v (.slice none 0 0))], .row 0 [.osl 3 0 0 n1, .d (.v (.slice none 0 0))], .arr 0 1 3 r1, .arr 0 1 3 r2]) (hH := fun _ h => h) (k := ?_)) | refine Qbw (kk := ?_) | refine Qbf ?_ | refine Qbh ?_ | refine Qbe ?_ | refine e2 (k := ?_) | fail))
 refine Qf8 ?_;exact ⟨⟨1, 0, _, _, rfl, rfl, Ty.h, rfl⟩, rfl, rfl⟩
def Pl.cpB (s : Pm.Store) : List Blk := [.row 1 [], .row 0 [.osl 3 0 0 s.1.length, .osl 7 0 0 s.2.1.1.length, .osl 8 0 0 s.2.1.2.length, .d (dI s.2.2.1), .osl 9 0 0 s.2.2.2.1.length, .d (dI s.2.2.2.2.1), .osl 10 0 0 s.2.2.2.2.2.1.length, .d (dB s.2.2.2.2.2.2)], .row 0 [.osl 3 0 0 s.1.length, .osl 7 0 0 s.2.1.1.length, .osl 8 0 0 s.2.1.2.length, .d (dI s.2.2.1), .osl 9 0 0 s.2.2.2.1.length, .d (dI s.2.2.2.2.1), .osl 10 0 0 s.2.2.2.2.2.1.length, .d (dB s.2.2.2.2.2.2)], .arr 0 1 9 (s.1.map fun s => [dS s]), .row 1 [], .row 0 [.osl 7 0 0 s.2.1.1.length, .osl 8 0 0 s.2.1.2.length], .row 0 [.osl 7 0 0 s.2.1.1.length, .osl 8 0 0 s.2.1.2.length], .arr 0 1 3 (s.2.1.1.map fun n => [dI n]), .arr 0 1 3 (s.2.1.2.map fun n => [dI n]), .arr 0 5 54 (s.2.2.2.1.map rPtr), .arr 0 5 54 (s.2.2.2.2.2.1.map rPtr)]
def Pl.cpX (s : Pm.Store) : AV := .agg [.osl 3 0 0 s.1.length, .osl 7 0 0 s.2.1.1.length, .osl 8 0 0 s.2.1.2.length, .d (dI s.2.2.1), .osl 9 0 0 s.2.2.2.1.length, .d (dI s.2.2.2.2.1), .osl 10 0 0 s.2.2.2.2.2.1.length, .d (dB s.2.2.2.2.2.2)]
theorem Qne (s : Pm.Store) (h1 : s.1.length <= 1048576) (h2 : s.2.1.1.length <= 1048576) (h3 : s.2.1.2.length <= 1048576) (h4 : s.2.2.2.1.length <= 1048576) (h5 : s.2.2.2.2.2.1.length <= 1048576) : Does Tryz.prog 18 [.d (dSt s)] [] [] (Pl.cpX s) (Pl.cpB s) := by
 have c1 := dToStrs s.1 h1;have c2 := Qnf s.2.1 h2 h3;have c3 := dToPtrs s.2.2.2.1 h4;have c4 := dToPtrs s.2.2.2.2.2.1 h5;unfold Pl.cpX Pl.cpB;generalize s.1.map (fun s => [dS s]) = r1 at *
 generalize s.2.1.1.map (fun n => [dI n]) = r2 at *
 generalize s.2.1.2.map (fun n => [dI n]) = r3 at *
 generalize s.2.2.2.1.map rPtr = r4 at *
 generalize s.2.2.2.2.2.1.map rPtr = r5 at *
 generalize s.1.length = n1 at *
 generalize s.2.1.1.length = n2 at *
 generalize s.2.1.2.length = n3 at *
 generalize s.2.2.2.1.length = n4 at *
 generalize s.2.2.2.2.2.1.length = n5 at *
 generalize ha1 : s.2.2.1 = a1 at *
 generalize ha2 : s.2.2.2.2.1 = a2 at *
 generalize ha3 : s.2.2.2.2.2.2 = a3 at *
 subst ha1; subst ha2; subst ha3;refine QeI Tryz.func18 rfl Tryz.ntmps18 Tryz.results18 rfl rfl ?hpin (fun gvs => ?_)
 case hpin => intro i C hC; simp at hC
 simp only [parA, gslot, Nat.zero_add, Nat.reduceAdd]
 (refine Qbh (Qbe ?_); (repeat (first | refine e2 (k := ?_) | fail)); refine Qbf ?_)
 refine Qbi 0 (h := ?_)
 (repeat' (first | refine e1 (k := ?_) | refine (Qc1 [] c1 Tryz.call57 (x' := .osl 3 0 0 n1) (hX := fun _ h => h) (H' := [.row 1 [], .row 0 [.d (.v (.slice none 0 0)), .d (.v (.slice none 0 0)), .d (.v (.slice none 0 0)), .d (dI 0), .d (.v (.slice none 0 0)), .d (dI 0), .d (.v (.slice none 0 0)), .d (dB false)], .row 0 [.d (.v (.slice none 0 0)), .d (.v (.slice none 0 0)), .d (.v (.slice none 0 0)), .d (dI 0), .d (.v (.slice none 0 0)), .d (dI 0), .d (.v (.slice none 0 0)), .d (dB false)], .arr 0 1 9 r1]) (hH := fun _ h => h) (k := ?_)) | refine (Qc1 [] c2 Tryz.call58 (x' := .agg [.osl 7 0 0 n2, .osl 8 0 0 n3]) (hX := fun _ h => h) (H' := [.row 1 [], .row 0 [.d (.v (.slice none 0 0)), .d (.v (.slice none 0 0)), .d (.v (.slice none 0 0)), .d (dI 0), .d (.v (.slice none 0 0)), .d (dI 0), .d (.v (.slice none 0 0)), .d (dB false)], .row 0 [.osl 3 0 0 n1, .d (.v (.slice none 0 0)), .d (.v (.slice none 0 0)), .d (dI 0), .d (.v (.slice none 0 0)), .d (dI 0), .d (.v (.slice none 0 0)), .d (dB false)], .arr 0 1 9 r1, .row 1 [], .row 0 [.osl 7 0 0 n2, .osl 8 0 0 n3], .row 0 [.osl 7 0 0 n2, .osl 8 0 0 n3], .arr 0 1 3 r2, .arr 0 1 3 r3]) (hH := fun _ h => h) (k := ?_)) | refine (Qc1 [] c3 Tryz.call59 (x' := .osl 9 0 0 n4) (hX := fun _ h => h) (H' := [.row 1 [], .row 0 [.d (.v (.slice none 0 0)), .d (.v (.slice none 0 0)), .d (.v (.slice none 0 0)), .d (dI 0), .d (.v (.slice none 0 0)), .d (dI 0), .d (.v (.slice none 0 0)), .d (dB false)], .row 0 [.osl 3 0 0 n1, .osl 7 0 0 n2, .osl 8 0 0 n3, .d (dI s.2.2.1), .d (.v (.slice none 0 0)), .d (dI 0), .d (.v (.slice none 0 0)), .d (dB false)], .arr 0 1 9 r1, .row 1 [], .row 0 [.osl 7 0 0 n2, .osl 8 0 0 n3], .row 0 [.osl 7 0 0 n2, .osl 8 0 0 n3], .arr 0 1 3 r2, .arr 0 1 3 r3, .arr 0 5 54 r4]) (hH := fun _ h => h) (k := ?_)) | refine (Qc1 [] c4 Tryz.call59 (x' := .osl 10 0 0 n5) (hX := fun _ h => h) (H' := [.row 1 [], .row 0 [.d (.v (.slice none 0 0)), .d (.v (.slice none 0 0)), .d (.v (.slice none 0 0)), .d (dI 0), .d (.v (.slice none 0 0)), .d (dI 0), .d (.v (.slice none 0 0)), .d (dB false)], .row 0 [.osl 3 0 0 n1, .osl 7 0 0 n2, .osl 8 0 0 n3, .d (dI s.2.2.1), .osl 9 0 0 n4, .d (dI s.2.2.2.2.1), .d (.v (.slice none 0 0)), .d (dB false)], .arr 0 1 9 r1, .row 1 [], .row 0 [.osl 7 0 0 n2, .osl 8 0 0 n3], .row 0 [.osl 7 0 0 n2, .osl 8 0 0 n3], .arr 0 1 3 r2, .arr 0 1 3 r3, .arr 0 5 54 r4, .arr 0 5 54 r5]) (hH := fun _ h => h) (k := ?_)) | refine Qbw (kk := ?_) | refine Qbf ?_ | refine Qbh ?_ | refine Qbe ?_ | refine e2 (k := ?_) | fail))
 all_goals first
  |(refine Qf8 ?_
    exact ⟨⟨1, 0, _, _, rfl, rfl, Ty.h, rfl⟩, rfl, rfl⟩)
theorem QhO (k : Nat) (h0 : 0 < k) (h1 : k <= 4294967296) : Pure Tryz.prog 76 [dI k] (dS (Pm.mt k)) := QbL rfl fun w _ => Pm.markText' k w h0 h1
def Pl.mk {α : Type} (f : Nat -> α) (l : List α) (n : Nat) : List α := (List.range n).map f ++ l.drop n
theorem Qlk {α : Type} (f : Nat -> α) {l : List α} {n : Nat} (h : n < l.length) : (Pl.mk f l n).set n (f n) = Pl.mk f l (n + 1) := by
 unfold Pl.mk;rw [List.set_append_right _ _ (by simp), List.length_map, List.length_range, Nat.sub_self, List.drop_eq_getElem_cons h, List.set_cons_zero, List.range_succ, List.map_append];simp
theorem Qll {α : Type} (f : Nat -> α) {l : List α} {n : Nat} (h : n < l.length) : (Pl.mk f l n)[n]? = some l[n] := by
 unfold Pl.mk;rw [List.getElem?_append_right (by simp), List.length_map, List.length_range, Nat.sub_self, List.getElem?_drop, Nat.add_zero, List.getElem?_eq_getElem h]
theorem QcD {α : Type} (f : Nat -> α) {l : List α} {n : Nat} (h : n <= l.length) : (Pl.mk f l n).length = l.length := by unfold Pl.mk; simp; omega
theorem QhB (l : List Int) (g k : Nat) (h : l.length <= 1048576) (hk : k <= 100000000) : Does Tryz.prog 133 [.osl 0 g 0 l.length, .d (dI k)] [.arr g 1 3 (l.map fun n => [dI n])] [.osl 0 g 0 l.length] (.d (dI ((k + l.length : Nat) : Int))) [.arr g 1 3 ((Pl.mk (fun i => ((k + i : Nat) : Int)) l l.length).map fun n => [dI n])] := by
 refine QbC Tryz.func133 rfl Tryz.ntmps133 Tryz.results133 rfl rfl ?hpin (fun gvs => ?_)
 case hpin =>
  intro i C hC
  match i, hC with
  |0, hC => obtain rfl := Option.some.inj hC; exact ⟨_, rfl, rfl, rfl, .inr ⟨rfl, by rw [List.length_map, List.length_map, QcD _ (Nat.le_refl _)], 0, l.length, by simp⟩⟩
 simp only [parA, gslot, Nat.zero_add, Nat.reduceAdd]
 (repeat' (first | refine e1 (k := ?_) | refine Qbf ?_ | refine Qbh ?_ | refine Qbe ?_ | refine Qbk ?_ | fail))
 refine Qb0 (fun m st => ∃ i : Nat, i <= l.length /\ m = l.length - i /\ st = ⟨19, [(0, .osl 0 g 0 l.length), (5, .d (dI i)), (1, .d (dI ((k + i : Nat) : Int))), (1000000, .gh [.osl 0 g 0 l.length] gvs)], [.arr g 1 3 ((Pl.mk (fun i => ((k + i : Nat) : Int)) l i).map fun n => [dI n])]⟩) [0, 5, 1, 1000000] 1 l.length ⟨0, by omega, rfl, by simp [keepE, go_sem, Pl.mk]⟩ (round := ?_);rintro m st ⟨i, hi, rfl, rfl⟩
 (repeat (first | refine e1 (k := ?_) | refine Qbf ?_ | refine Qbh ?_ | refine Qbe ?_ | fail))
 cases q3 : decide ((i : Int) < (l.length : Int))
 ·have : i = l.length := by simp at q3; omega
  subst this
  (repeat' (first | refine e1 (k := ?_) | refine Qbf ?_ | refine Qbh ?_ | refine Qbe ?_ | refine Qbo (hf := ?_) | refine Qbs ?_ | fail))
  exact QbP (hx := rfl) (hH := rfl)
 have hi2 : i < l.length := by simp at q3; omega
 have hrm : ((Pl.mk (fun i => ((k + i : Nat) : Int)) l i).map (fun n => [dI n]))[0 + (i : Int).toNat]? = some [dI l[i]] := by rw [Nat.zero_add, Int.toNat_natCast, List.getElem?_map, Qll _ hi2]; rfl
 have hf := Qlk (fun i => ((k + i : Nat) : Int)) hi2;have hki : ((k + i : Nat) : Int) + 1 = ((k + (i + 1) : Nat) : Int) := by omega
 (repeat' (first | refine e1 (k := ?_) | refine stepS (Qb6 Ty.h rfl Ty.h rfl rfl rfl rfl (by omega) (by omega)) (k := ?_) | refine Qci Ty.h rfl rfl hrm rfl (kk := ?_) | refine stepS (Qbu rfl rfl (by omega)) (k := ?_) | refine Qbf ?_ | refine Qbq ?_ | refine Qb1 ?_ | refine Qbh ?_ | refine Qbe ?_ | refine Qbn (ht := ?_) | refine Qbl ?_ | refine Qbk ?_ | fail))
 refine Qbv (l.length - (i + 1)) (by omega) ⟨i + 1, by omega, rfl, ?_⟩;rw [<- hf, <- hki];simp [keepE, go_sem, List.map_set]
theorem Qh9 (l : List (List UInt8)) (g k : Nat) (h : l.length <= 1048576) (hk0 : 0 < k) (hk : k <= 100000000) : Does Tryz.prog 28 [.osl 0 g 0 l.length, .d (dI k)] [.arr g 1 9 (l.map fun s => [dS s])] [.osl 0 g 0 l.length] (.d (dI ((k + l.length : Nat) : Int))) [.arr g 1 9 ((Pl.mk (fun i => Pm.mt (k + i)) l l.length).map fun s => [dS s])] := by
 refine QbC Tryz.func28 rfl Tryz.ntmps28 Tryz.results28 rfl rfl ?hpin (fun gvs => ?_)
 case hpin =>
  intro i C hC
  match i, hC with
  |0, hC => obtain rfl := Option.some.inj hC; exact ⟨_, rfl, rfl, rfl, .inr ⟨rfl, by rw [List.length_map, List.length_map, QcD _ (Nat.le_refl _)], 0, l.length, by simp⟩⟩
 simp only [parA, gslot, Nat.zero_add]
 (repeat' (first | refine e1 (k := ?_) | refine Qbf ?_ | refine Qbh ?_ | refine Qbe ?_ | refine Qbk ?_ | fail))
 refine Qb0 (fun m st => ∃ i : Nat, i <= l.length /\ m = l.length - i /\ st = ⟨20, [(0, .osl 0 g 0 l.length), (5, .d (dI i)), (1, .d (dI ((k + i : Nat) : Int))), (1000000, .gh [.osl 0 g 0 l.length] gvs)], [.arr g 1 9 ((Pl.mk (fun i => Pm.mt (k + i)) l i).map fun s => [dS s])]⟩) [0, 5, 1, 1000000] 1 l.length ⟨0, by omega, rfl, by simp [keepE, go_sem, Pl.mk]⟩ (round := ?_);rintro m st ⟨i, hi, rfl, rfl⟩
 (repeat (first | refine e1 (k := ?_) | refine Qbf ?_ | refine Qbh ?_ | refine Qbe ?_ | fail))
 cases q3 : decide ((i : Int) < (l.length : Int))
 ·have : i = l.length := by simp at q3; omega
  subst this
  (repeat' (first | refine e1 (k := ?_) | refine Qbf ?_ | refine Qbh ?_ | refine Qbe ?_ | refine Qbo (hf := ?_) | refine Qbs ?_ | fail))
  exact QbP (hx := rfl) (hH := rfl)
 have hi2 : i < l.length := by simp at q3; omega
 have hrm : ((Pl.mk (fun i => Pm.mt (k + i)) l i).map (fun s => [dS s]))[0 + (i : Int).toNat]? = some [dS l[i]] := by rw [Nat.zero_add, Int.toNat_natCast, List.getElem?_map, Qll _ hi2]; rfl
 have hf := Qlk (fun i => Pm.mt (k + i)) hi2;have hki : ((k + i : Nat) : Int) + 1 = ((k + (i + 1) : Nat) : Int) := by omega
 have c := QhO (k + i) (by omega) (by omega)
 (repeat' (first | refine e1 (k := ?_) | refine stepS (Qbg Tryz.call76 c rfl) (k := ?_) | refine stepS (Qb6 Ty.h rfl Ty.h rfl rfl rfl rfl (by omega) (by omega)) (k := ?_) | refine Qci Ty.h rfl rfl hrm rfl (kk := ?_) | refine stepS (Qbu rfl rfl (by omega)) (k := ?_) | refine Qbf ?_ | refine Qbq ?_ | refine Qb1 ?_ | refine Qbh ?_ | refine Qbe ?_ | refine Qbn (ht := ?_) | refine Qbl ?_ | refine Qbk ?_ | fail))
 refine Qbv (l.length - (i + 1)) (by omega) ⟨i + 1, by omega, rfl, ?_⟩;rw [<- hf, <- hki];simp [keepE, go_sem, List.map_set]
def Pl.mkP (k i : Nat) : List D := [dI ((k + 5 * i : Nat) : Int), dI ((k + 5 * i + 1 : Nat) : Int), dI ((k + 5 * i + 2 : Nat) : Int), dI ((k + 5 * i + 3 : Nat) : Int), dI ((k + 5 * i + 4 : Nat) : Int)]
theorem Qm2 {α : Type} {R : List α} {i : Nat} {r : α} (h : i < R.length) : (R.set (i : Int).toNat r)[(i : Int).toNat]? = some r := by
 rw [Int.toNat_natCast, List.getElem?_set_self h]
theorem QhA (l : List Pl.Ptr) (g k : Nat) (h : l.length <= 1048576) (hk : k <= 100000000) : Does Tryz.prog 75 [.osl 0 g 0 l.length, .d (dI k)] [.arr g 5 54 (l.map rPtr)] [.osl 0 g 0 l.length] (.d (dI ((k + 5 * l.length : Nat) : Int))) [.arr g 5 54 (Pl.mk (Pl.mkP k) (l.map rPtr) l.length)] := by
 have hml : (l.map rPtr).length = l.length := List.length_map ..;refine QbC Tryz.func75 rfl Tryz.ntmps75 Tryz.results75 rfl rfl ?hpin (fun gvs => ?_)
 case hpin =>
  intro i C hC
  match i, hC with
  |0, hC => obtain rfl := Option.some.inj hC; exact ⟨_, rfl, rfl, rfl, .inr ⟨rfl, by rw [QcD _ (by omega)], 0, l.length, by simp⟩⟩
 simp only [parA, gslot, Nat.zero_add]
 (repeat' (first | refine e1 (k := ?_) | refine Qbf ?_ | refine Qbh ?_ | refine Qbe ?_ | refine Qbk ?_ | fail))
 refine Qb0 (fun m st => ∃ i : Nat, i <= l.length /\ m = l.length - i /\ st = ⟨48, [(0, .osl 0 g 0 l.length), (5, .d (dI i)), (1, .d (dI ((k + 5 * i : Nat) : Int))), (1000000, .gh [.osl 0 g 0 l.length] gvs)], [.arr g 5 54 (Pl.mk (Pl.mkP k) (l.map rPtr) i)]⟩) [0, 5, 1, 1000000] 1 l.length ⟨0, by omega, rfl, by simp [keepE, go_sem, Pl.mk]⟩ (round := ?_);rintro m st ⟨i, hi, rfl, rfl⟩
 (repeat (first | refine e1 (k := ?_) | refine Qbf ?_ | refine Qbh ?_ | refine Qbe ?_ | fail))
 cases q3 : decide ((i : Int) < (l.length : Int))
 ·have : i = l.length := by simp at q3; omega
  subst this
  (repeat' (first | refine e1 (k := ?_) | refine Qbf ?_ | refine Qbh ?_ | refine Qbe ?_ | refine Qbo (hf := ?_) | refine Qbs ?_ | fail))
  exact QbP (hx := rfl) (hH := rfl)
 have hi2 : i < (l.map rPtr).length := by simp at q3; omega
 have hlen := QcD (Pl.mkP k) (l := l.map rPtr) (n := i) (by omega);obtain ⟨p, hp⟩ : ∃ p, l[i]? = some p := ⟨_, List.getElem?_eq_getElem (by omega)⟩;have hrm : (Pl.mk (Pl.mkP k) (l.map rPtr) i)[i]? = some (rPtr p) := by rw [Qll (Pl.mkP k) hi2, <- List.getElem?_eq_getElem, List.getElem?_map, hp]; rfl
 have hf := Qlk (Pl.mkP k) hi2;generalize Pl.mk (Pl.mkP k) (l.map rPtr) i = R at *
 have hrm0 : R[(i : Int).toNat]? = some (rPtr p) := by rw [Int.toNat_natCast]; exact hrm
 have hki : ((k + 5 * i : Nat) : Int) + 1 + 1 + 1 + 1 + 1 = ((k + 5 * (i + 1) : Nat) : Int) := by omega
 clear hrm hp
 (repeat' (first | refine e1 (k := ?_) | refine stepS (Qb6 Ty.h rfl Ty.h rfl rfl rfl rfl (by omega) (by omega)) (k := ?_) | refine Qci Ty.h rfl rfl hrm0 rfl (kk := ?_) | refine Qci Ty.h rfl rfl (Qm2 (by (try simp only [List.length_set]); omega)) rfl (kk := ?_) | refine stepS (Qbu rfl rfl (by omega)) (k := ?_) | refine Qbf ?_ | refine Qbq ?_ | refine Qb1 ?_ | refine Qbh ?_ | refine Qbe ?_ | refine Qbn (ht := ?_) | refine Qbl ?_ | refine Qbk ?_ | fail))
 refine Qbv (l.length - (i + 1)) (by omega) ⟨i + 1, by omega, rfl, ?_⟩;rw [<- hf, <- hki];simp [keepE, go_sem, Pl.mkP, Int.add_assoc]
theorem Qko (a b : List Int) (g1 g2 k : Nat) (h1 : a.length <= 1048576) (h2 : b.length <= 1048576) (hk : k <= 50000000) : Does Tryz.prog 74 [.agg [.osl 0 g1 0 a.length, .osl 1 g2 0 b.length], .d (dI k)] [.arr g1 1 3 (a.map fun n => [dI n]), .arr g2 1 3 (b.map fun n => [dI n])]
 [.osl 0 g1 0 a.length, .osl 1 g2 0 b.length] (.d (dI ((k + a.length + b.length : Nat) : Int))) [.arr g1 1 3 ((Pl.mk (fun i => ((k + i : Nat) : Int)) a a.length).map fun n => [dI n]), .arr g2 1 3 ((Pl.mk (fun i => ((k + a.length + i : Nat) : Int)) b b.length).map fun n => [dI n])] := by
 have c1 := QhB a g1 k h1 (by omega);have c2 := QhB b g2 (k + a.length) h2 (by omega);refine QbC Tryz.func74 rfl Tryz.ntmps74 Tryz.results74 rfl rfl ?hpin (fun gvs => ?_)
 case hpin =>
  intro i C hC
  match i, hC with
  |0, hC => obtain rfl := Option.some.inj hC; exact ⟨_, rfl, rfl, rfl, .inr ⟨rfl, by rw [List.length_map, List.length_map, QcD _ (Nat.le_refl _)], 0, a.length, by simp⟩⟩
  |1, hC => obtain rfl := Option.some.inj hC; exact ⟨_, rfl, rfl, rfl, .inr ⟨rfl, by rw [List.length_map, List.length_map, QcD _ (Nat.le_refl _)], 0, b.length, by simp⟩⟩
 simp only [parA, gslot, Nat.zero_add, Nat.reduceAdd]
 (refine Qbh (Qbe ?_); (repeat (first | refine e1 (k := ?_) | refine e2 (k := ?_) | fail)); refine Qbf ?_)
 (repeat' (first | refine e1 (k := ?_) | refine (QbZ [0] c1 Tryz.call133 (hgl := fun g hg => by rw [List.mem_singleton.1 hg]; simp [AV.parts, AV.ren, rho, go_sem]) (k := ?_)) | refine (QbZ [1] c2 Tryz.call133 (hgl := fun g hg => by rw [List.mem_singleton.1 hg]; simp [AV.parts, AV.ren, rho, go_sem]) (k := ?_)) | refine Qbf ?_ | refine Qbh ?_ | refine Qbe ?_ | fail))
 refine Qcq [4, 1000000] 2 (h := ?_);exact QbP (hx := rfl) (hH := rfl)
def Pl.mkB (s : Pm.Store) (gs : Nat -> Nat) (k : Nat) : List Blk := [.arr (gs 0) 1 9 ((Pl.mk (fun i => Pm.mt (k + i)) s.1 s.1.length).map fun s => [dS s]),
 .arr (gs 1) 1 3 ((Pl.mk (fun i => ((k + s.1.length + i : Nat) : Int)) s.2.1.1 s.2.1.1.length).map fun n => [dI n]), .arr (gs 2) 1 3 ((Pl.mk (fun i => ((k + s.1.length + s.2.1.1.length + i : Nat) : Int)) s.2.1.2 s.2.1.2.length).map fun n => [dI n]),
 .arr (gs 3) 5 54 (Pl.mk (Pl.mkP (k + s.1.length + s.2.1.1.length + s.2.1.2.length)) (s.2.2.2.1.map rPtr) s.2.2.2.1.length), .arr (gs 4) 5 54 (Pl.mk (Pl.mkP (k + s.1.length + s.2.1.1.length + s.2.1.2.length + 5 * s.2.2.2.1.length)) (s.2.2.2.2.2.1.map rPtr) s.2.2.2.2.2.1.length)]
theorem Qkn (s : Pm.Store) (k : Nat) (h1 : s.1.length <= 1048576) (h2 : s.2.1.1.length <= 1048576) (h3 : s.2.1.2.length <= 1048576) (h4 : s.2.2.2.1.length <= 1048576) (h5 : s.2.2.2.2.2.1.length <= 1048576) (hk0 : 0 < k) (hk : k <= 1000) :
 Does Tryz.prog 27 [.agg [.osl 0 0 0 s.1.length, .osl 1 0 0 s.2.1.1.length, .osl 2 0 0 s.2.1.2.length, .d (dI s.2.2.1), .osl 3 0 0 s.2.2.2.1.length, .d (dI s.2.2.2.2.1), .osl 4 0 0 s.2.2.2.2.2.1.length, .d (dB s.2.2.2.2.2.2)], .d (dI k)]
  [.arr 0 1 9 (s.1.map fun s => [dS s]), .arr 0 1 3 (s.2.1.1.map fun n => [dI n]), .arr 0 1 3 (s.2.1.2.map fun n => [dI n]), .arr 0 5 54 (s.2.2.2.1.map rPtr), .arr 0 5 54 (s.2.2.2.2.2.1.map rPtr)]
  [.osl 0 0 0 s.1.length, .osl 1 0 0 s.2.1.1.length, .osl 2 0 0 s.2.1.2.length, .osl 3 0 0 s.2.2.2.1.length, .osl 4 0 0 s.2.2.2.2.2.1.length]
  (.d (dI ((k + s.1.length + s.2.1.1.length + s.2.1.2.length + 5 * s.2.2.2.1.length + 5 * s.2.2.2.2.2.1.length : Nat) : Int))) (Pl.mkB s (fun _ => 0) k) := by
 have c1 := Qh9 s.1 0 k h1 hk0 (by omega);have c2 := Qko s.2.1.1 s.2.1.2 0 0 (k + s.1.length) h2 h3 (by omega);have c3 := QhA s.2.2.2.1 0 (k + s.1.length + s.2.1.1.length + s.2.1.2.length) h4 (by omega);have c4 := QhA s.2.2.2.2.2.1 0 (k + s.1.length + s.2.1.1.length + s.2.1.2.length + 5 * s.2.2.2.1.length) h5 (by omega);refine QbC Tryz.func27 rfl Tryz.ntmps27 Tryz.results27 rfl rfl ?hpin (fun gvs => ?_)
 case hpin =>
  intro i C hC
  match i, hC with
  |0, hC => obtain rfl := Option.some.inj hC; exact ⟨_, rfl, rfl, rfl, .inr ⟨rfl, by rw [List.length_map, List.length_map, QcD _ (Nat.le_refl _)], 0, s.1.length, by simp⟩⟩
  |1, hC => obtain rfl := Option.some.inj hC; exact ⟨_, rfl, rfl, rfl, .inr ⟨rfl, by rw [List.length_map, List.length_map, QcD _ (Nat.le_refl _)], 0, s.2.1.1.length, by simp⟩⟩
  |2, hC => obtain rfl := Option.some.inj hC; exact ⟨_, rfl, rfl, rfl, .inr ⟨rfl, by rw [List.length_map, List.length_map, QcD _ (Nat.le_refl _)], 0, s.2.1.2.length, by simp⟩⟩
  |3, hC => obtain rfl := Option.some.inj hC; exact ⟨_, rfl, rfl, rfl, .inr ⟨rfl, by rw [QcD _ (by rw [List.length_map]; exact Nat.le_refl _)], 0, s.2.2.2.1.length, by simp⟩⟩
  |4, hC => obtain rfl := Option.some.inj hC; exact ⟨_, rfl, rfl, rfl, .inr ⟨rfl, by rw [QcD _ (by rw [List.length_map]; exact Nat.le_refl _)], 0, s.2.2.2.2.2.1.length, by simp⟩⟩
 simp only [parA, gslot, Nat.zero_add, Nat.reduceAdd]
 (refine Qbh (Qbe ?_); (repeat (first | refine e1 (k := ?_) | refine e2 (k := ?_) | fail)); refine Qbf ?_)
 (repeat' (first | refine e1 (k := ?_) | refine (QbZ [0] c1 Tryz.call28 (hgl := fun g hg => by rw [List.mem_singleton.1 hg]; simp [AV.parts, AV.ren, rho, go_sem]) (k := ?_)) | refine (QbZ [1, 2] c2 Tryz.call74 (hgl := fun g hg => by simp only [List.mem_cons, List.not_mem_nil, or_false] at hg; rcases hg with rfl | rfl <;> simp [AV.parts, AV.ren, rho, go_sem]) (k := ?_)) | refine (QbZ [3] c3 Tryz.call75 (hgl := fun g hg => by rw [List.mem_singleton.1 hg]; simp [AV.parts, AV.ren, rho, go_sem]) (k := ?_)) | refine (QbZ [4] c4 Tryz.call75 (hgl := fun g hg => by rw [List.mem_singleton.1 hg]; simp [AV.parts, AV.ren, rho, go_sem]) (k := ?_)) | refine Qbf ?_ | refine Qbh ?_ | refine Qbe ?_ | fail))
 refine Qcq [4, 1000000] 5 (h := ?_);exact QbP (hx := rfl) (hH := rfl)
theorem Qmt (l : List (List UInt8)) (k : Nat) (hk0 : 0 < k) (hl : l.length <= 1000000) (hk : k <= 100000000) (hm : ∀ i, i < l.length -> l[i]? = some (Pm.mt (k + i))) : Pure Tryz.prog 29 [dStrs l, dI k] (dI ((k + l.length : Nat) : Int)) := by
 (refine Qbm Tryz.func29 rfl Tryz.ntmps29 Tryz.results29 rfl ?_; simp only [parE, Nat.zero_add, Nat.reduceAdd])
 (repeat (first | refine e1 (k := ?_) | refine Qbf ?_ | refine Qbh ?_ | refine Qbe ?_ | refine Qbk ?_ | fail))
 refine Qb0 (fun m st => ∃ i : Nat, i <= l.length /\ m = l.length - i /\ st = ⟨22, [(0, .d (dStrs l)), (5, .d (dI i)), (1, .d (dI ((k + i : Nat) : Int)))], []⟩) [0, 5, 1] 0 l.length ⟨0, by omega, rfl, by simp [keepE, go_sem]⟩ (round := ?_);rintro m st ⟨i, hi, rfl, rfl⟩
 (repeat (first | refine e1 (k := ?_) | refine Qbf ?_ | refine Qbh ?_ | refine Qbe ?_ | fail))
 cases q3 : decide ((i : Int) < (l.length : Int))
 ·have : i = l.length := by simp at q3; omega
  subst this
  (repeat' (first | refine e1 (k := ?_) | refine Qbf ?_ | refine Qbh ?_ | refine Qbe ?_ | refine Qbo (hf := ?_) | refine Qbs ?_ | fail))
  exact Qbp (hx := rfl)
 have hi2 : i < l.length := by simp at q3; omega
 have hr := Qbz (f := fun s => [dS s]) (hm i hi2);have c := QhO (k + i) (by omega) (by omega);have hki : ((k + i : Nat) : Int) + 1 = ((k + (i + 1) : Nat) : Int) := by omega
 (repeat' (first | refine f1 (k := ?_) | refine e1 (k := ?_) | refine stepD (Qbg Tryz.call76 c rfl) (k := ?_) | refine stepD (Qbj Ty.h rfl Ty.h rfl rfl rfl (by omega) hr) (k := ?_) | refine stepS (Qbu rfl rfl (by omega)) (k := ?_) | refine stepD (QbI rfl rfl) (k := ?_) | refine Qbf ?_ | refine Qbq ?_ | refine Qb1 ?_ | refine Qbt ?_ | refine Qbh ?_ | refine Qbe ?_ | refine Qb3 follows_mixed (by kernel_rfl) (by kernel_rfl) ?_ | refine Qbn (ht := ?_) | refine Qbr (ht := fun q => ?_) (hf := fun q => ?_) | refine Qbl ?_ | refine Qbk ?_ | fail))
 all_goals first
  |(exfalso; simp at *; done)
  |(refine Qbv (l.length - (i + 1)) (by omega) ⟨i + 1, by omega, rfl, ?_⟩
    rw [<- hki]
    simp [keepE, go_sem]; done)
theorem QkH {s : Pm.Store} {x : List (List UInt8)} {k : Nat} : ∀ y ∈ Pl.thg s x k, y.1 = k := by
 intro y hy;unfold Pl.thg at hy;split at hy
 ·cases hy
 ·rw [List.mem_singleton.1 hy]
theorem ths_lt {s : Pm.Store} {x : List (List UInt8)} {n : Nat} : ∀ y ∈ Pl.ths s x n, y.1 < n := by
 intro y hy;unfold Pl.ths at hy;obtain ⟨k, hk, hy⟩ := List.mem_flatMap.1 hy;rw [QkH y hy];exact List.mem_range.1 hk
theorem QkG (s : Pm.Store) (x : List (List UInt8)) : ∀ n, (Pl.ths s x n).Pairwise fun a b => a.1 < b.1
 |0 => .nil
 |n + 1 => by
  rw [QeK, List.pairwise_append];refine ⟨QkG s x n, ?_, fun a ha b hb => by rw [QkH b hb]; exact ths_lt a ha⟩;unfold Pl.thg;split
  ·exact .nil
  ·exact List.pairwise_singleton ..
theorem flatB {s : Pm.Store} {t : Pl.Tree} (h : Pl.Qar s t = true) : Pl.FlatB (Pl.QaI s t) := by
 obtain ⟨L, hL, hll, hfd⟩ := Qdo h;have hF := (Qd0 s t).1 h;obtain ⟨htx, hx16, _⟩ := QeL hF.tab;rw [QdV hfd];refine ⟨QkG _ _ _, fun n hn => ?_, hll, by have := Qgk s (Pl.Qaa s t) (Pl.Qaa s t).length; simp only; omega⟩
 have hk : Pl.Qad (Pl.Qab (Pl.Qaa s t)) n.2 ≠ 0 := by
  rcases hL.fd.kinds n.2 (List.mem_map.2 ⟨n, hn, rfl⟩) with h | ⟨h, _⟩ <;> rw [h] <;> decide
 have hlt := Qce hk;rw [List.length_map] at hlt;refine ⟨(n.2, ((Pl.Qab (Pl.Qaa s t)).getD n.2 Pl.zn).kind == 2, Pl.QaB s ((Pl.Qab (Pl.Qaa s t)).getD n.2 Pl.zn)), ?_, rfl⟩;refine List.mem_flatMap.2 ⟨n.2, List.mem_range.2 hlt, ?_⟩;unfold Pl.thg; rw [if_neg hk]; exact List.mem_singleton.2 rfl
noncomputable def Pl.QaG (s : Pm.Store) (t : Pl.Tree) : List (List UInt8) × Bool := if Pl.Qah s && Pl.Qar s t then (Pl.Qa3 (Pl.QaI s t) (Pl.QaM (Pl.QaI s t).2) (Pl.QaI s t).1, true) else ([], false)
theorem QgS (s : Pm.Store) (t : Pl.Tree) : (Pl.QaG s t).1.length <= 144 := by
 unfold Pl.QaG;split
 ·rename_i h
  rw [Bool.and_eq_true] at h;have := QeV (Pl.QaI s t) (Pl.QaM (Pl.QaI s t).2) (Pl.QaI s t).1;have := (flatB h.2).nl;simp only; omega
 ·exact Nat.zero_le _
theorem QiL (s : Pm.Store) (hl : Pl.Lens s) (t : Pl.Tree) : Pure Tryz.prog 24 [dSt s, dTree t] (.tup [tStrs (Pl.QaG s t).1, dB (Pl.QaG s t).2]) := by
 have c := aFlatOf s hl t;unfold Pl.QaG
 by_cases h : (Pl.Qah s && Pl.Qar s t) = true
 ·rw [if_pos h] at c ⊢
  rw [Bool.and_eq_true] at h;exact Qmq s t _ _ (flatB h.2) c
 ·rw [if_neg h] at c ⊢
  exact Qn1 s t c
theorem dTwins0 (s : Pm.Store) (t : Pl.Tree) (R : List (List UInt8)) (ok : Bool) (c : Does Tryz.prog 70 [.d (dSt s), .d (dTree t), .fn (.func 71) []] [] [] (.tup [.osl 3 R.length 0 R.length, .d (dB ok)]) [.row 1 [], .row 1 [], .row 1 [], .arr R.length 1 9 (R.map fun s => [dS s])]) :
 Does Tryz.prog 25 [.d (dSt s), .d (dTree t)] [] [] (.tup [.osl 5 R.length 0 R.length, .d (dB ok)]) [.row 1 [], .row 1 [], .row 1 [], .row 1 [], .row 1 [], .arr R.length 1 9 (R.map fun s => [dS s])] := by
 generalize R.map (fun s => [dS s]) = r at *
 generalize R.length = n at *
 refine QbC Tryz.func25 rfl Tryz.ntmps25 Tryz.results25 rfl rfl ?hpin (fun gvs => ?_)
 case hpin => intro i C hC; simp at hC
 simp only [parA, gslot, Nat.zero_add, Nat.reduceAdd]
 (refine Qbh (Qbe ?_); (repeat (first | refine e1 (k := ?_) | refine e2 (k := ?_) | fail)); refine Qbf ?_)
 refine Qbi 0 (h := ?_);refine Qbi 1 (h := ?_)
 (repeat' (first | refine e1 (k := ?_) | refine (Qc1 [] c Tryz.call70 (x' := .tup [.osl 5 n 0 n, .d (dB ok)]) (hX := fun _ h => h) (H' := [.row 1 [], .row 1 [], .row 1 [], .row 1 [], .row 1 [], .arr n 1 9 r]) (hH := fun _ h => h) (k := ?_)) | refine Qbf ?_ | refine Qbh ?_ | refine Qbe ?_ | fail))
 all_goals first
  |exact QbP (hx := rfl) (hH := rfl)
theorem dTwins (s : Pm.Store) (hl : Pl.Lens s) (i1 : ∀ n ∈ s.2.1.1, Pm.InI n) (i2 : ∀ n ∈ s.2.1.2, Pm.InI n) (t : Pl.Tree) :
 Does Tryz.prog 25 [.d (dSt s), .d (dTree t)] [] [] (.tup [.osl 5 (Pl.QaG s t).1.length 0 (Pl.QaG s t).1.length, .d (dB (Pl.QaG s t).2)])
  [.row 1 [], .row 1 [], .row 1 [], .row 1 [], .row 1 [], .arr (Pl.QaG s t).1.length 1 9 ((Pl.QaG s t).1.map fun s => [dS s])] := by
 refine dTwins0 s t _ _ ?_;have c := bFlatOf s hl i1 i2 t;unfold Pl.QaG
 by_cases h : (Pl.Qah s && Pl.Qar s t) = true
 ·rw [if_pos h] at c ⊢
  rw [Bool.and_eq_true] at h;have hB := flatB h.2;have htl : (Pl.QaI s t).2.length <= 1000 := Nat.le_trans hB.tl (by decide);exact Qmd s t _ _ hB c 71 (Pl.QaM (Pl.QaI s t).2) Tryz.call71 fun x _ => bTwin1 _ (Pl.QaI s t).2 htl x
 ·rw [if_neg h] at c ⊢
  exact Qnj s t 71 c
end Aw
end Go.Proofs.YtdjkdcokjoiokaaGreatDoor

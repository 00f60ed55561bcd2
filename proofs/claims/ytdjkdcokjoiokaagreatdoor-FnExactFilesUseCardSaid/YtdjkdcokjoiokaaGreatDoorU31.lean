/- Part 31 of the proof of use_card: contracts, walks, plain laws; no condition is assumed beyond those that a statement names. -/
import Derived.Test.YtdjkdcokjoiokaaGreatDoorU30
set_option linter.all false
set_option maxRecDepth 100000
set_option maxHeartbeats 8000000
namespace Go.Proofs.YtdjkdcokjoiokaaGreatDoor
open Go.RowKit
namespace Aw
attribute [local irreducible] ASeq ADraw AWP Loc AStep Fg.PlanF Fg.Flts
abbrev tFnds (l : List Pl.Fnd) : D := .sl true 2 (l.map rFnd)
noncomputable def Pl.Qbc (s : Pm.Store) (t : Pl.Tree) : List Pl.Fnd × Bool := if Pl.Qal s t then ((Pl.Qa9 s t).1, true) else ([], false)
def Pl.cnt (out : List Pl.Fnd) (N : Nat) : List Int := (List.range N).map fun k => ((Pl.many out k : Nat) : Int)
theorem cnt_nil (N : Nat) : Pl.cnt [] N = List.replicate N 0 := by
 refine List.ext_getElem (by simp [Pl.cnt]) fun i hi hi' => by simp [Pl.cnt, Pl.many]
theorem QmO (out : List Pl.Fnd) {N k : Nat} (h : k < N) : (Pl.cnt out N)[k]? = some ((Pl.many out k : Nat) : Int) := by
 unfold Pl.cnt; rw [List.getElem?_map, List.getElem?_range h]; rfl
theorem QnW (out : List Pl.Fnd) (x : Pl.Fnd) {N : Nat} (h0 : 0 <= x.2) (_h : x.2 < N) : Pl.cnt (out ++ [x]) N = (Pl.cnt out N).set x.2.toNat (((Pl.many out x.2.toNat : Nat) : Int) + 1) := by
 refine List.ext_getElem (by simp [Pl.cnt]) fun i hi hi' => ?_
 rw [List.getElem_set];simp only [Pl.cnt, List.getElem_map, List.getElem_range];unfold Pl.many;rw [List.map_append, List.count_append];split
 ·rename_i e; subst e
  have : ((x.2.toNat : Nat) : Int) = x.2 := by omega
  rw [this]; simp
 ·rename_i e
  have : (x.2 == (i : Int)) = false := by simp; omega
  simp [List.count_cons, this]
theorem many_le (out : List Pl.Fnd) (k : Nat) : Pl.many out k <= out.length := by
 unfold Pl.many;refine Nat.le_trans (List.count_le_length) (by simp)
theorem al15All (s : Pm.Store) (hg : Pl.Good s) (t : Pl.Tree) : Pure Tryz.prog 115 [dSt s, dTree t] (.tup [tFnds (Pl.Qbc s t).1, dB (Pl.Qbc s t).2]) := by
 have hd : Hid (Pl.Qbc s t = if Pl.Qal s t then ((Pl.Qa9 s t).1, true) else ([], false)) := Pm.hid rfl;have hf : Hid (Pl.Qal s t = (Pl.Qa5 s t && ((Pl.Qab s t).getD 0 Pl.zn).kind == 2 && (Pl.Qa9 s t).2 && (List.range (Pl.Qab s t).length).all (Pl.Qav s (Pl.Qab s t) (Pl.Qa9 s t).1))) := Pm.hid rfl;have c0 := al11Ok s hg t;cases h0 : Pl.Qa5 s t
 ·rw [h0] at c0
  have hx : Hid (Pl.Qbc s t = ([], false)) := Pm.hid (by rw [hd.out, hf.out, h0]; rfl)
  (refine Qbv Tryz.func115 rfl Tryz.ntmps115 Tryz.results115 rfl ?_; simp only [parE, Nat.zero_add, Nat.reduceAdd])
  (refine Qbt (Qbq ?_); (repeat (first | refine e1 (k := ?_) | refine e2 (k := ?_) | fail)); refine Qbr ?_)
  refine Qbu 0 (h := ?_);refine Qbu 1 (h := ?_)
  (repeat' (first | refine e1 (k := ?_) | refine stepS (Qbs Tryz.call182 c0 rfl) (k := ?_) | refine stepS2 (QbD Ty.h rfl Ty.h) (k := ?_) | refine Qbr ?_ | refine Qbt ?_ | refine Qbq ?_ | refine Qbz (ht := ?_) | fail))
  (refine Qbu 2 (h := ?_); refine Qb0 (hx := ?_))
  rw [hx.out]; rfl
 rw [h0] at c0 hf;have ht : Pl.TGood t := QbS (by unfold Pl.Qa5 at h0; rw [Bool.and_eq_true] at h0; exact h0.1);have c1 := Qi8 s hg t ht;have hnl : (Pl.Qab s t).length <= 16 := by unfold Pl.Qab; rw [List.length_map, texts_len s ht]; have := ht.manyHi; omega
 have hids : Hid (((Pl.Qab s t).getD 0 Pl.zn).kind = 2 -> (Pl.Qa9 s t).2 = true -> (Pl.Qa9 s t).1.length <= 144 /\ ∀ x ∈ (Pl.Qa9 s t).1, 0 <= x.2 /\ x.2 < (Pl.Qab s t).length) := Pm.hid fun h1 h2 => by
  obtain ⟨L, g1, g2, g3⟩ := QeA s h1 h2;rw [g3];refine ⟨by simpa using g2, fun x hx => ?_⟩;obtain ⟨y, hy, rfl⟩ := List.mem_map.1 hx;have := g1.fd.kinds y.2 (List.mem_map.2 ⟨y, hy, rfl⟩);have hk : y.2 < (Pl.Qab s t).length := Qce (by rcases this with h | ⟨h, _⟩ <;> rw [h] <;> decide);simp only [Pl.itOf]; omega
 have W := Qop s hg (Pl.Qab s t) hnl 145 [] 0 [] 0 (by simp) (by simp) (by simp) (by intro x hx; cases hx);have hfd : Hid (Pl.Qa9 s t = Pl.wk (Pl.Qab s t) (Pl.ents s) 145 ([], 0) []) := Pm.hid rfl;rw [<- hfd.out] at W;rw [show Pl.Qat [] = [47] from rfl] at W
 have hB : ∀ n ∈ Pl.Qab s t, n = Pl.zn ∨ NodeB n := fun n hn => by
  unfold Pl.Qab at hn;obtain ⟨x, _, rfl⟩ := List.mem_map.1 hn;rcases QiQ x with h | h
  ·exact .inr h
  ·exact .inl h
 have hB := Pm.hid hB;have c13 := Pm.hid fun n => al13Ok s hg n
 have hnf : Hid (∀ out k nd, (Pl.Qab s t)[k]? = some nd -> Pl.Qav s (Pl.Qab s t) out k = ((nd.kind == 0 || ((Pl.many out k : Int) == nd.links)) && (!(nd.kind == 1) || Pl.Qay s nd))) := Pm.hid fun out k nd h => by
  unfold Pl.Qav; rw [List.getD_eq_getElem?_getD, h]; rfl
 clear h0 ht hfd;generalize Pl.Qa9 s t = fo at *
 generalize Pl.Qab s t = ns at *
 obtain ⟨out, ok⟩ := fo;simp only [List.map_nil, List.length_nil, Nat.sub_zero, Nat.zero_add] at W;simp only at hd hf hids;have hnm : (ns.map rNode).length = ns.length := List.length_map ..
 by_cases h2 : (ns.getD 0 Pl.zn).kind = 2
 rotate_left
 ·have hx : Hid (Pl.Qbc s t = ([], false)) := Pm.hid (by
   rw [hd.out, hf.out];have : ((ns.getD 0 Pl.zn).kind == 2) = false := by simpa using h2
   rw [this]; rfl)
  cases ns with
  |nil =>
   (refine Qbv Tryz.func115 rfl Tryz.ntmps115 Tryz.results115 rfl ?_; simp only [parE, Nat.zero_add, Nat.reduceAdd])
   (refine Qbt (Qbq ?_); (repeat (first | refine e1 (k := ?_) | refine e2 (k := ?_) | fail)); refine Qbr ?_)
   refine Qbu 0 (h := ?_);refine Qbu 1 (h := ?_)
   (repeat' (first | refine e1 (k := ?_) | refine e0 (k := ?_) | refine stepS (Qbs Tryz.call182 c0 rfl) (k := ?_) | refine stepS (Qbs Tryz.call56 c1 rfl) (k := ?_) | refine stepS2 (QbD Ty.h rfl Ty.h) (k := ?_) | refine Qbr ?_ | refine Qbt ?_ | refine Qbq ?_ | refine Qbz (ht := ?_) | refine Qb1 (hf := ?_) | refine Qby ?_ | fail))
   (refine Qbu 2 (h := ?_); refine Qb0 (hx := ?_))
   rw [hx.out]; rfl
  |cons n0 ns =>
   have hr : ((n0 :: ns).map rNode)[((0 : Nat) : Int).toNat]? = some (rNode n0) := rfl;have h2 : ¬ n0.kind = 2 := h2
   (refine Qbv Tryz.func115 rfl Tryz.ntmps115 Tryz.results115 rfl ?_; simp only [parE, Nat.zero_add, Nat.reduceAdd])
   (refine Qbt (Qbq ?_); (repeat (first | refine e1 (k := ?_) | refine e2 (k := ?_) | fail)); refine Qbr ?_)
   refine Qbu 0 (h := ?_);refine Qbu 1 (h := ?_)
   (repeat' (first | refine e1 (k := ?_) | refine stepS (Qbs Tryz.call182 c0 rfl) (k := ?_) | refine stepS (Qbs Tryz.call56 c1 rfl) (k := ?_) | refine stepS (Qbw Ty.h rfl Ty.h rfl rfl rfl (by omega) hr) (k := ?_) | refine stepS2 (QbD Ty.h rfl Ty.h) (k := ?_) | refine Qbr ?_ | refine Qbt ?_ | refine Qbq ?_ | refine Qb1 (hf := ?_) | refine Qb2 (ht := fun q => ?_) (hf := fun q => ?_) | refine Qby ?_ | fail))
   all_goals first
    |(exfalso; simp at q; omega)
    |((refine Qbu 2 (h := ?_); refine Qb0 (hx := ?_)); rw [hx.out]; rfl)
 have hlen0 : 0 < ns.length := by
  cases ns with
  |nil => exact absurd h2 (by decide)
  |cons n0 ns => simp
 obtain ⟨n0, hn0⟩ : ∃ n0, ns[0]? = some n0 := ⟨_, List.getElem?_eq_getElem hlen0⟩;have hk0 : n0.kind = 2 := by rw [List.getD_eq_getElem?_getD, hn0] at h2; exact h2
 have hr0 : (ns.map rNode)[(0 : Int).toNat]? = some (rNode n0) := by show (ns.map rNode)[0]? = _; rw [List.getElem?_map, hn0]; rfl
 have h2b : ((ns.getD 0 Pl.zn).kind == 2) = true := by simpa using h2
 cases ok
 ·have hx : Hid (Pl.Qbc s t = ([], false)) := Pm.hid (by rw [hd.out, hf.out, h2b]; rfl)
  clear hB hnf hids hf hd
  (refine Qbv Tryz.func115 rfl Tryz.ntmps115 Tryz.results115 rfl ?_; simp only [parE, Nat.zero_add, Nat.reduceAdd])
  (refine Qbt (Qbq ?_); (repeat (first | refine e1 (k := ?_) | refine e2 (k := ?_) | fail)); refine Qbr ?_)
  refine Qbu 0 (h := ?_);refine Qbu 1 (h := ?_)
  (repeat' (first | refine e1 (k := ?_) | refine e0 (k := ?_) | refine stepS (Qbs Tryz.call182 c0 rfl) (k := ?_) | refine stepS (Qbs Tryz.call56 c1 rfl) (k := ?_) | refine stepS (Qbw Ty.h rfl Ty.h rfl rfl rfl (by omega) hr0) (k := ?_) | refine (Qke [2] W Tryz.call183 (k := ?_)) | refine stepS2 (QbD Ty.h rfl Ty.h) (k := ?_) | refine Qbr ?_ | refine Qbt ?_ | refine Qbq ?_ | refine Qbz (ht := ?_) | refine Qb1 (hf := ?_) | refine Qb2 (ht := fun q => ?_) (hf := fun q => ?_) | refine Qby ?_ | ((fail_if_success show ASeq _ _ _ _ ⟨_, (_, .d (.v (.bool true))) :: _, _⟩); (fail_if_success show ASeq _ _ _ _ ⟨_, (_, .d (.v (.bool false))) :: _, _⟩); refine splitS (fun q => ?_) (fun q => ?_))))
  all_goals first
   |(exfalso; simp at q; omega)
   |(exfalso; simp only [beq_iff_eq] at q; omega)
   |((refine Qbu 3 (h := ?_); refine Qb0 (hx := ?_)); rw [hx.out]; rfl)
 obtain ⟨hol, hid⟩ := hids.out h2 rfl;have hf2 : Hid (Pl.Qal s t = (List.range ns.length).all (Pl.Qav s ns out)) := Pm.hid (by rw [hf.out, h2b]; rfl);clear hids hf;have hid := Pm.hid hid
 (refine Qbv Tryz.func115 rfl Tryz.ntmps115 Tryz.results115 rfl ?_; simp only [parE, Nat.zero_add, Nat.reduceAdd])
 (refine Qbt (Qbq ?_); (repeat (first | refine e1 (k := ?_) | refine e2 (k := ?_) | fail)); refine Qbr ?_)
 refine Qbu 0 (h := ?_);refine Qbu 1 (h := ?_)
 (repeat' (first | refine e1 (k := ?_) | refine e0 (k := ?_) | refine stepS (Qbs Tryz.call182 c0 rfl) (k := ?_) | refine stepS (Qbs Tryz.call56 c1 rfl) (k := ?_) | refine stepS (Qbw Ty.h rfl Ty.h rfl rfl rfl (by omega) hr0) (k := ?_) | refine (Qke [2] W Tryz.call183 (k := ?_)) | refine stepS2 (Qdu Ty.h rfl Ty.h rfl rfl rfl (by simp; omega) (by omega)) (k := ?_) | refine stepS2 (QbD Ty.h rfl Ty.h) (k := ?_) | refine Qbr ?_ | refine Qbt ?_ | refine Qbq ?_ | refine Qbz (ht := ?_) | refine Qb1 (hf := ?_) | refine Qb2 (ht := fun q => ?_) (hf := fun q => ?_) | refine Qby ?_ | refine Qbx ?_ | ((fail_if_success show ASeq _ _ _ _ ⟨_, (_, .d (.v (.bool true))) :: _, _⟩); (fail_if_success show ASeq _ _ _ _ ⟨_, (_, .d (.v (.bool false))) :: _, _⟩); refine splitS (fun q => ?_) (fun q => ?_))))
 all_goals first
  |(exfalso; simp only [beq_iff_eq] at q; omega)
  |(exfalso; simp at q; omega)
  |skip
 refine Qbu 2 (h := ?_)
 refine QbC (fun m st => ∃ j : Nat, j <= out.length /\ m = out.length - j /\ st = ⟨110, [(10, .d (dI j)), (9, .osl 3 0 0 ns.length), (7, .d (tFnds out)), (6, .d (.sl true 10 (ns.map rNode))), (2, .d (.pd (rSt s)))],
  [.row 1 [], .row 1 [], .arr (out.length + 1) 2 126 [], .arr 0 1 3 ((Pl.cnt (out.take j) ns.length).map fun n => [dI n])]⟩) [10, 9, 7, 6, 2] 4 out.length ⟨0, by omega, rfl, ?_⟩ (round := ?_)
 ·simp [keepE, go_sem, cnt_nil, List.take_of_length_le]
 rintro m st ⟨j, hj, rfl, rfl⟩
 (repeat (first | refine e1 (k := ?_) | refine Qbr ?_ | refine Qbt ?_ | refine Qbq ?_ | fail))
 cases q3 : decide ((j : Int) < (out.length : Int));rotate_left
 ·have hj2 : j < out.length := by simp at q3; omega
  obtain ⟨x, hx⟩ : ∃ x, out[j]? = some x := ⟨_, List.getElem?_eq_getElem hj2⟩;have hr := QbB (f := rFnd) hx;have hxi := hid.out x (List.mem_of_getElem? hx)
  have hrm : ((Pl.cnt (out.take j) ns.length).map fun n => [dI n])[0 + x.2.toNat]? = some [dI ((Pl.many (out.take j) x.2.toNat : Nat) : Int)] := by
   rw [Nat.zero_add, List.getElem?_map, QmO _ (by omega)]; rfl
  have hml := many_le (out.take j) x.2.toNat;rw [List.length_take] at hml
  have T : Hid (Pl.cnt (out.take (j + 1)) ns.length = (Pl.cnt (out.take j) ns.length).set x.2.toNat (((Pl.many (out.take j) x.2.toNat : Nat) : Int) + 1)) := Pm.hid (by
   rw [List.take_add_one, hx]; exact QnW _ x hxi.1 hxi.2)
  clear hx hf2 hd hB hnf c0 c1 W;generalize Pl.many (out.take j) x.2.toNat = c at *
  generalize Pl.cnt (out.take j) ns.length = cl at *
  obtain ⟨xp, xi⟩ := x;simp only at hxi hrm T hr
  (repeat' (first | refine f1 (k := ?_) | refine e1 (k := ?_) | refine (Fg.awp_drawF (id := 13) [] [16] follows_mixed (by kernel_rfl) (by kernel_rfl) (by kernel_rfl) ?_) | refine (Fg.aw_fltN ?_) | refine (Fg.aw_planFC (by rfl) (by kernel_rfl) rfl ?_) | refine (Fg.aw_planFN ?_) | refine stepD (Qbw Ty.h rfl Ty.h rfl rfl rfl (by omega) hr) (k := ?_) | refine stepD (QbQ Ty.h rfl Ty.h rfl rfl rfl rfl hxi.1 hxi.2) (k := ?_) | refine stepD (QbX Ty.h rfl rfl hrm rfl) (k := ?_) | refine Qgg Ty.h rfl rfl hrm rfl (kk := ?_) | refine stepD (Qb6 rfl rfl (by omega)) (k := ?_) | refine stepS (Qb6 rfl rfl (by omega)) (k := ?_) | refine Qb4 ?_ | refine Qb5 ?_ | refine Qcb ?_ | refine Qbt ?_ | refine Qbq ?_ | refine Qbz (ht := ?_) | refine Qby ?_ | refine Qbx ?_ | fail))
  refine Qb8 (out.length - (j + 1)) (by omega) ⟨j + 1, by omega, rfl, ?_⟩;simp [keepE, go_sem, T.out, List.map_set]
 have hj2 : j = out.length := by simp at q3; omega
 subst hj2;rw [List.take_length]
 (repeat' (first | refine e1 (k := ?_) | refine Qbr ?_ | refine Qbt ?_ | refine Qbq ?_ | refine Qb1 (hf := ?_) | refine Qbx ?_ | refine Qb3 ?_ | fail))
 refine QbC (fun m st => ∃ k : Nat, k <= ns.length /\ m = 16 - k /\ Hid ((List.range k).all (Pl.Qav s ns out) = true) /\ st = ⟨110, [(11, .d (dI k)), (9, .osl 3 0 0 ns.length), (7, .d (tFnds out)), (6, .d (.sl true 10 (ns.map rNode))), (2, .d (.pd (rSt s)))],
  [.row 1 [], .row 1 [], .arr (out.length + 1) 2 126 [], .arr 0 1 3 ((Pl.cnt out ns.length).map fun n => [dI n])]⟩) [11, 9, 7, 6, 2] 4 16 ⟨0, by omega, rfl, Pm.hid rfl, rfl⟩ (round := ?_)
 rintro m st ⟨k, hk, rfl, hA, rfl⟩
 (repeat (first | refine e1 (k := ?_) | refine Qbr ?_ | refine Qbt ?_ | refine Qbq ?_ | fail))
 cases q4 : decide ((k : Int) < (ns.length : Int))
 ·(repeat' (first | refine e1 (k := ?_) | refine Qbr ?_ | refine Qbt ?_ | refine Qbq ?_ | refine Qb1 (hf := ?_) | refine Qb3 ?_ | fail))
  refine Qb0 (hx := ?_);have : k = ns.length := by simp at q4; omega
  have h := hA.out;rw [this] at h;rw [hd.out, hf2.out, h]; rfl
 have hk2 : k < ns.length := by simp at q4; omega
 obtain ⟨nd, hnd⟩ : ∃ nd, ns[k]? = some nd := ⟨_, List.getElem?_eq_getElem hk2⟩;have hr := QbB (f := rNode) hnd
 have hrm : ((Pl.cnt out ns.length).map fun n => [dI n])[0 + (k : Int).toNat]? = some [dI ((Pl.many out k : Nat) : Int)] := by
  rw [Nat.zero_add, Int.toNat_natCast, List.getElem?_map, QmO _ hk2]; rfl
 have he := hnf.out out k nd hnd;have T : Hid (Pl.Qav s ns out k = true -> (List.range (k + 1)).all (Pl.Qav s ns out) = true) := fun h => Pl.QbL (p := Pl.Qav s ns out) hA.out h
 have F : Hid (Pl.Qav s ns out k = false -> Pl.Qbc s t = ([], false)) := fun h => by
  rw [hd.out, hf2.out, Pl.QbH (p := Pl.Qav s ns out) hk2 h]; rfl
 rw [he] at T F;have c4 := c13.out nd;clear hnd hA hd hf2 he hnf hB W c0 c1 c13;generalize Pl.many out k = c at *
 generalize Pl.Qay s nd = fok at *
 obtain ⟨kind, links, size, ⟨⟨p1, p2, p3, p4, p5⟩, depth, many⟩⟩ := nd;simp only at T F;have hki : (0 : Int) <= k /\ (k : Int) < ns.length := by omega
 (repeat' (first | refine f1 (k := ?_) | refine e1 (k := ?_) | refine f0 (k := ?_) | refine stepD (Qbs Tryz.call184 c4 rfl) (k := ?_) | refine stepD (Qbw Ty.h rfl Ty.h rfl rfl rfl (by omega) hr) (k := ?_) | refine stepD (QbQ Ty.h rfl Ty.h rfl rfl rfl rfl hki.1 hki.2) (k := ?_) | refine stepD (QbX Ty.h rfl rfl hrm rfl) (k := ?_) | refine stepS (Qb6 rfl rfl (by omega)) (k := ?_) | refine stepS2 (QbD Ty.h rfl Ty.h) (k := ?_) | refine Qbr ?_ | refine Qb4 ?_ | refine Qb5 ?_ | refine Qbt ?_ | refine Qbq ?_ | refine QbE follows_mixed (by kernel_rfl) (by kernel_rfl) ?_ | refine Qbz (ht := ?_) | refine Qb1 (hf := ?_) | refine Qb2 (ht := fun q => ?_) (hf := fun q => ?_) | refine Qby ?_ | refine Qbx ?_ | ((fail_if_success show ADraw _ _ _ _ ⟨_, (_, .d (.v (.bool true))) :: _, _⟩); (fail_if_success show ADraw _ _ _ _ ⟨_, (_, .d (.v (.bool false))) :: _, _⟩); refine splitD (fun q => ?_) (fun q => ?_))))
 all_goals clear c4 hr hrm
 all_goals first
  |(refine Qb8 (16 - (k + 1)) (by omega) ⟨k + 1, by omega, rfl, Pm.hid (T.out ?_), rfl⟩; clear T F; simp_all; done)
  |(refine Qbu 4 (h := ?_)
    refine Qb0 (hx := ?_);have hz := F.out (by clear T F; simp_all)
    rw [hz]; rfl)
end Aw
end Go.Proofs.YtdjkdcokjoiokaaGreatDoor
namespace Go.Proofs.YtdjkdcokjoiokaaGreatDoor
open Go.RowKit
namespace Aw
attribute [local irreducible] ASeq ADraw AWP Loc AStep
def Pl.at12 (l : List Pl.Ent) (name : List UInt8) : Int := match l.findIdx? (fun e => e.1 == name) with
 |some i => (i : Int)
 |none => -1
theorem Qi4 {l : List Pl.Ent} {name : List UInt8} (h : l.find? (fun e => e.1 == name) = none) : Pl.at12 l name = -1 := by
 have : l.findIdx? (fun e => e.1 == name) = none := by
  rw [List.findIdx?_eq_none_iff];intro x hx;have := List.find?_eq_none.1 h x hx;simpa using this
 unfold Pl.at12; rw [this]
theorem Qnb {l : List Pl.Ent} {name : List UInt8} {e : Pl.Ent} (h : l.find? (fun e => e.1 == name) = some e) : ∃ i : Nat, Pl.at12 l name = i /\ l[i]? = some e := by
 obtain ⟨h1, l1, bs, rfl, h2⟩ := List.find?_eq_some_iff_append.1 h;refine ⟨l1.length, ?_, by simp⟩
 have : (l1 ++ e :: bs).findIdx? (fun e => e.1 == name) = some l1.length := by
  rw [List.findIdx?_eq_some_iff_getElem];refine ⟨by simp, by simpa using h1, fun j hj => ?_⟩;rw [List.getElem_append_left hj];have := h2 l1[j] (List.getElem_mem hj);simpa using this
 unfold Pl.at12; rw [this]
theorem al12At (l : List Pl.Ent) (name : List UInt8) (hl : l.length <= 1000) : Pure Tryz.prog 181 [dEnts l, dS name] (dI (Pl.at12 l name)) := by
 (refine Qbv Tryz.func181 rfl Tryz.ntmps181 Tryz.results181 rfl ?_; simp only [parE, Nat.zero_add, Nat.reduceAdd])
 (repeat' (first | refine e1 (k := ?_) | refine Qbr ?_ | refine Qbt ?_ | refine Qbq ?_ | refine Qbx ?_ | fail))
 refine QbC (fun m st => ∃ k : Nat, k <= l.length /\ m = l.length - k /\ Hid (∀ x ∈ l.take k, (x.1 == name) = false) /\ st = ⟨20, [(5, .d (dI k)), (0, .d (dEnts l)), (1, .d (dS name))], []⟩) [5, 0, 1] 0 l.length ⟨0, by omega, rfl, Pm.hid (by simp), rfl⟩ (round := ?_);rintro m st ⟨k, hk, rfl, hA, rfl⟩
 (repeat (first | refine e1 (k := ?_) | refine Qbr ?_ | refine Qbt ?_ | refine Qbq ?_ | fail))
 cases q3 : decide ((k : Int) < (l.length : Int))
 ·(repeat' (first | refine e1 (k := ?_) | refine Qbr ?_ | refine Qbt ?_ | refine Qbq ?_ | refine Qb1 (hf := ?_) | refine Qb3 ?_ | fail))
  refine Qb0 (hx := ?_);have : k = l.length := by simp at q3; omega
  have h := hA.out;rw [this, List.take_length] at h;rw [Qi4 (by rw [List.find?_eq_none]; intro x hx; rw [h x hx]; simp)]
 have hk2 : k < l.length := by simp at q3; omega
 obtain ⟨x, hx⟩ : ∃ x, l[k]? = some x := ⟨_, List.getElem?_eq_getElem hk2⟩;have hr := QbB (f := rEnt) hx
 have T : Hid ((x.1 == name) = false -> ∀ y ∈ l.take (k + 1), (y.1 == name) = false) := Pm.hid fun h y hy => by
  rw [List.take_add_one, hx] at hy;rcases List.mem_append.1 hy with hy | hy
  ·exact hA.out y hy
  ·simp at hy; subst hy; exact h
 have F : Hid ((x.1 == name) = true -> Pl.at12 l name = k) := Pm.hid fun h => by
  have : l.findIdx? (fun e => e.1 == name) = some k := by
   rw [List.findIdx?_eq_some_iff_getElem];refine ⟨hk2, ?_, fun j hj => ?_⟩
   ·rw [(List.getElem?_eq_some_iff.1 hx).2]; exact h
   ·have := hA.out l[j] (List.mem_iff_getElem?.2 ⟨j, by rw [List.getElem?_take, if_pos hj]; exact List.getElem?_eq_getElem (by omega)⟩)
    rw [this]; simp
  unfold Pl.at12; rw [this]
 clear hx hA
 (repeat' (first | refine e1 (k := ?_) | refine stepS (Qbw Ty.h rfl Ty.h rfl rfl rfl (by omega) hr) (k := ?_) | refine stepS (Qb6 rfl rfl (by omega)) (k := ?_) | refine stepS (QbK rfl rfl) (k := ?_) | refine Qbr ?_ | refine Qb4 ?_ | refine Qbt ?_ | refine Qbq ?_ | refine Qbz (ht := ?_) | refine Qb2 (ht := fun q => ?_) (hf := fun q => ?_) | refine Qby ?_ | refine Qbx ?_ | fail))
 all_goals first
  |exact Qb8 (l.length - (k + 1)) (by omega) ⟨k + 1, by omega, rfl, Pm.hid (T.out (by assumption)), rfl⟩
  |(refine Qb0 (hx := ?_); rw [F.out (by assumption)])
noncomputable def Pl.Qbn (s : Pm.Store) (t : Pl.Tree) (q : List (List UInt8)) : Int := (Pl.Qa4 s (Pl.Qab s t) 0 q).getD (-1)
theorem Qoq (s : Pm.Store) (hg : Pl.Good s) (t : Pl.Tree) (ht : Pl.TGood t) (q : List (List UInt8)) (hq : q.length <= 1000) : Pure Tryz.prog 114 [dSt s, dTree t, dStrs q] (dI (Pl.Qbn s t q)) := by
 have hd : Hid (Pl.Qbn s t q = (Pl.Qa4 s (Pl.Qab s t) 0 q).getD (-1)) := Pm.hid rfl;have c1 := Pm.hid fun k => al11Get s hg t ht k
 have hnn := Pm.hid fun k => QhR s ht k
 have c2 := Pm.hid fun n => Qgj s hg n
 generalize Pl.Qab s t = ns at *
 (refine Qbv Tryz.func114 rfl Tryz.ntmps114 Tryz.results114 rfl ?_; simp only [parE, Nat.zero_add, Nat.reduceAdd])
 (refine Qbt (Qbq ?_); (repeat (first | refine e1 (k := ?_) | refine e2 (k := ?_) | fail)); refine Qbr ?_)
 refine Qbu 0 (h := ?_);refine Qbu 1 (h := ?_)
 (repeat' (first | refine e1 (k := ?_) | refine Qbr ?_ | refine Qbt ?_ | refine Qbq ?_ | refine Qbx ?_ | fail))
 refine QbC (fun m st => ∃ (k i : Nat), k <= q.length /\ m = q.length - k /\ Hid (Pl.Qa4 s ns 0 q = Pl.Qa4 s ns i (q.drop k)) /\ st = ⟨51, [(7, .d (dI i)), (8, .d (dI k)), (2, .d (dStrs q)), (3, .d (.pd (rSt s))), (4, .d (.pd (rTree t)))], [.row 1 [], .row 1 []]⟩) [7, 8, 2, 3, 4] 2 q.length ⟨0, 0, by omega, rfl, Pm.hid rfl, rfl⟩ (round := ?_);rintro m st ⟨k, i, hk, rfl, hF, rfl⟩
 (repeat (first | refine e1 (k := ?_) | refine Qbr ?_ | refine Qbt ?_ | refine Qbq ?_ | fail))
 cases q3 : decide ((k : Int) < (q.length : Int))
 ·(repeat' (first | refine e1 (k := ?_) | refine Qbr ?_ | refine Qbt ?_ | refine Qbq ?_ | refine Qb1 (hf := ?_) | refine Qb3 ?_ | fail))
  refine Qb0 (hx := ?_);have : k = q.length := by simp at q3; omega
  have h := hF.out;rw [this, List.drop_length] at h;rw [hd.out, h]; rfl
 have hk2 : k < q.length := by simp at q3; omega
 obtain ⟨x, hx⟩ : ∃ x, q[k]? = some x := ⟨_, List.getElem?_eq_getElem hk2⟩;have hr := QbB (f := fun s => [dS s]) hx
 have hF2 : Hid (Pl.Qa4 s ns 0 q = match (Pl.ents s (ns.getD i Pl.zn)).1.find? (fun e => e.1 == x) with | none => none | some e => Pl.Qa4 s ns e.2 (q.drop (k + 1))) := Pm.hid (by
  rw [hF.out, QeD hx]; exact Qed (Pl.ents s) ns i x _)
 have c1k := c1.out i;have hn := hnn.out i;have hel := QjP s (ns.getD i Pl.zn);have heb := QgA s (ns.getD i Pl.zn);have hec := Qcs s (ns.getD i Pl.zn);have c2k := c2.out (ns.getD i Pl.zn);rw [<- hn] at c2k hel heb hec hF2;clear hx hF hn c1 c2 hnn;generalize Pl.QaW s t i = na at *
 obtain ⟨⟨kind, links, size, ⟨⟨p1, p2, p3, p4, p5⟩, depth, many⟩⟩, nok⟩ := na;simp only at c2k hel heb hec hF2;generalize Pl.ents s ⟨kind, links, size, ⟨⟨p1, p2, p3, p4, p5⟩, depth, many⟩⟩ = ee at *
 obtain ⟨es, ok⟩ := ee;simp only at hel heb hec hF2;have c3 := (al12At es x (by omega)).arg (l := [tEnts es, dS x]);cases hf : es.find? (fun e => e.1 == x) with
 |none =>
  rw [Qi4 hf] at c3;have hx : Hid (Pl.Qbn s t q = -1) := Pm.hid (by rw [hd.out, hF2.out, hf]; rfl);clear hF2 hd hec heb hf
  (repeat' (first | refine e1 (k := ?_) | refine e0 (k := ?_) | refine stepS (Qbs Tryz.call179 c1k rfl) (k := ?_) | refine stepS (Qbs Tryz.call180 c2k rfl) (k := ?_) | refine stepS (Qbs Tryz.call181 c3 rfl) (k := ?_) | refine stepS (Qbw Ty.h rfl Ty.h rfl rfl rfl (by omega) hr) (k := ?_) | refine QbA (kk := ?_) | refine Qbr ?_ | refine Qbt ?_ | refine Qbq ?_ | refine Qbz (ht := ?_) | refine Qby ?_ | refine Qbx ?_ | refine e2 (k := ?_) | ((fail_if_success show ASeq _ _ _ _ ⟨_, (_, .d (.v (.bool true))) :: _, _⟩); (fail_if_success show ASeq _ _ _ _ ⟨_, (_, .d (.v (.bool false))) :: _, _⟩); refine splitS (fun q => ?_) (fun q => ?_))))
  all_goals first
   |(exfalso; simp at *; done)
   |(refine Qb0 (hx := ?_); rw [hx.out])
 |some e =>
  obtain ⟨j, hj, hje⟩ := Qnb hf;rw [hj] at c3
  have hok : ok = true := by
   rcases hec with h | h
   ·exact h.1
   ·obtain ⟨rfl, rfl⟩ := Prod.mk.inj h; cases hf
  subst hok;have hre := QbB (f := rEnt) hje;have heb2 := heb e (List.mem_of_getElem? hje);have hT : Hid (Pl.Qa4 s ns 0 q = Pl.Qa4 s ns (e.2.toNat : Nat) (q.drop (k + 1))) := Pm.hid (by rw [hF2.out, hf]; simp only; rw [show ((e.2.toNat : Nat) : Int) = e.2 by omega]);clear hF2 hd hec heb hf hj hje;obtain ⟨nm, id⟩ := e;obtain ⟨id, rfl⟩ := Int.eq_ofNat_of_zero_le (show 0 <= id by have := heb2.2.1; omega);simp only [Int.toNat_natCast] at hT
  (repeat' (first | refine e1 (k := ?_) | refine stepS (Qbs Tryz.call179 c1k rfl) (k := ?_) | refine stepS (Qbs Tryz.call180 c2k rfl) (k := ?_) | refine stepS (Qbs Tryz.call181 c3 rfl) (k := ?_) | refine stepS (Qbw Ty.h rfl Ty.h rfl rfl rfl (by omega) hr) (k := ?_) | refine stepS (Qbw Ty.h rfl Ty.h rfl rfl rfl (by omega) hre) (k := ?_) | refine stepS (Qb6 rfl rfl (by omega)) (k := ?_) | refine QbA (kk := ?_) | refine Qbr ?_ | refine Qb4 ?_ | refine QbF ?_ | refine Qbt ?_ | refine Qbq ?_ | refine Qbz (ht := ?_) | refine Qb1 (hf := ?_) | refine Qby ?_ | refine Qbx ?_ | refine e2 (k := ?_) | fail))
  all_goals first
   |exact Qb8 (q.length - (k + 1)) (by omega) ⟨k + 1, id, by omega, rfl, Pm.hid hT.out, rfl⟩
   |(exfalso; simp only [decide_eq_true_eq] at *; omega)
end Aw
end Go.Proofs.YtdjkdcokjoiokaaGreatDoor
namespace Go.Proofs.YtdjkdcokjoiokaaGreatDoor
open Go.RowKit
namespace Aw
attribute [local irreducible] ASeq ADraw AWP Loc
def Pl.QaM (s : List UInt8) : List (List UInt8) := if s = [47] then [] else (Pl.cutB 47 s).tail
theorem Ql7 (l : List (List UInt8)) : (l.map fun s => [dS s]).drop 1 = l.tail.map fun s => [dS s] := by cases l <;> rfl
theorem Qi9 (s : List UInt8) (hs : s.length <= 1000000000000) : Pure Tryz.prog 178 [dS s] (tStrs (Pl.QaM s)) := by
 have c := al2Cut s 47 hs;have hd : Hid (Pl.QaM s = if s = [47] then [] else (Pl.cutB 47 s).tail) := Pm.hid rfl;have hne := List.length_pos_iff.2 (Pl.QdL 47 s);have ht := Pm.hid (Ql7 (Pl.cutB 47 s));generalize Pl.cutB 47 s = l at *
 (refine Qbv Tryz.func178 rfl Tryz.ntmps178 Tryz.results178 rfl ?_; simp only [parE, Nat.zero_add, Nat.reduceAdd])
 (repeat' (first | refine e1 (k := ?_) | refine stepS (Qbs Tryz.call250 c rfl) (k := ?_) | refine stepS (QbK (m := [47]) rfl rfl) (k := ?_) | refine stepS (Qfp rfl rfl rfl (by omega) (by simp; omega)) (k := ?_) | refine stepS2 (QbD Ty.h rfl Ty.h) (k := ?_) | refine Qbr ?_ | refine Qbt ?_ | refine Qbq ?_ | refine Qb2 (ht := fun q => ?_) (hf := fun q => ?_) | refine Qby ?_ | fail))
 ·(refine Qbu 0 (h := ?_); refine Qb0 (hx := ?_))
  rw [hd.out, if_pos (by simpa using q)]; rfl
 ·refine Qb0 (hx := ?_)
  rw [hd.out, if_neg (by simpa using q)];have h := ht.out
  first | rw [<- h]; rfl | simp [<- h]
theorem aPathOk (s : List UInt8) (hs : s.length <= 1000000000000) : Pure Tryz.prog 177 [dS s] (dB (Pl.Qah s).isSome) := by
 have c := Qi9 s hs;have hd : Hid (Pl.Qah s = if s = [47] then some [] else if s.head? = some 47 /\ (Pl.cutB 47 s).tail.all Pl.Qaj = true /\ (Pl.cutB 47 s).tail.length <= 4 then some (Pl.cutB 47 s).tail else none) := Pm.hid rfl
 by_cases h1 : s = [47]
 ·subst h1
  (refine Qbv Tryz.func177 rfl Tryz.ntmps177 Tryz.results177 rfl ?_; simp only [parE, Nat.zero_add, Nat.reduceAdd])
  (repeat' (first | refine e1 (k := ?_) | refine stepS (QbK (m := [47]) rfl rfl) (k := ?_) | refine Qbr ?_ | refine Qbt ?_ | refine Qbq ?_ | refine Qbz (ht := ?_) | fail))
  all_goals first
   |(exfalso; simp at q; done)
   |(refine Qb0 (hx := ?_); rw [hd.out, if_pos rfl]; rfl)
   |skip
 have hd2 : Hid (Pl.Qah s = if s.head? = some 47 /\ (Pl.cutB 47 s).tail.all Pl.Qaj = true /\ (Pl.cutB 47 s).tail.length <= 4 then some (Pl.cutB 47 s).tail else none) := Pm.hid (by rw [hd.out, if_neg h1]);have hn : Pl.QaM s = (Pl.cutB 47 s).tail := if_neg h1;rw [hn] at c;have hcl := (QcH 47 s);have hl : (Pl.cutB 47 s).tail.length <= s.length + 1 /\ ∀ x ∈ (Pl.cutB 47 s).tail, x.length <= s.length := ⟨by rw [List.length_tail]; omega, fun x hx => hcl.2 x (List.mem_of_mem_tail hx)⟩;clear hd hn hcl;generalize (Pl.cutB 47 s).tail = l at *
 cases s with
 |nil =>
  (refine Qbv Tryz.func177 rfl Tryz.ntmps177 Tryz.results177 rfl ?_; simp only [parE, Nat.zero_add, Nat.reduceAdd])
  (repeat' (first | refine e1 (k := ?_) | refine e0 (k := ?_) | refine stepS (QbK (m := [47]) rfl rfl) (k := ?_) | refine stepS (QbK rfl rfl) (k := ?_) | refine Qbr ?_ | refine Qbt ?_ | refine Qbq ?_ | refine Qbz (ht := ?_) | refine Qb1 (hf := ?_) | refine Qby ?_ | fail))
  all_goals first
   |(exfalso; simp at q; done)
   |(refine Qb0 (hx := ?_); rw [hd2.out, if_neg (by simp)]; rfl)
   |skip
 |cons c0 s =>
  have hne : ((c0 :: s) == [47]) = false := by simpa using h1
  have hc0 : (c0 :: s)[(0 : Int).toNat]? = some c0 := rfl;have h47 : ((c0.toNat : Nat) : Int) = 47 ↔ c0 = 47 := ⟨fun h => UInt8.toNat_inj.1 (by have : ((47 : UInt8).toNat : Int) = 47 := rfl; omega), fun h => by rw [h]; rfl⟩
  by_cases h2 : c0 = 47
  rotate_left
  ·have hx : Hid (Pl.Qah (c0 :: s) = none) := Pm.hid (by rw [hd2.out, if_neg (by simp [h2])])
   (refine Qbv Tryz.func177 rfl Tryz.ntmps177 Tryz.results177 rfl ?_; simp only [parE, Nat.zero_add, Nat.reduceAdd])
   (repeat' (first | refine e1 (k := ?_) | refine stepS (QbK (m := [47]) rfl rfl) (k := ?_) | refine stepS (QcK Ty.h rfl rfl rfl (by omega) hc0) (k := ?_) | refine stepS (QbK rfl rfl) (k := ?_) | refine Qbr ?_ | refine Qbt ?_ | refine Qbq ?_ | refine Qb2 (ht := fun q => ?_) (hf := fun q => ?_) | refine Qby ?_ | fail))
   all_goals first
    |(refine Qb0 (hx := ?_); rw [hx.out]; rfl)
    |(exfalso; rw [hne] at q; exact absurd q (by decide))
    |(exfalso; simp only [bne_eq_false_iff_eq] at *; exact h2 (h47.1 (by assumption)))
    |skip
  subst h2;have hd3 : Hid (Pl.Qah (47 :: s) = if l.all Pl.Qaj = true /\ l.length <= 4 then some l else none) := Pm.hid (by rw [hd2.out]; simp);clear hd2 h47
  (refine Qbv Tryz.func177 rfl Tryz.ntmps177 Tryz.results177 rfl ?_; simp only [parE, Nat.zero_add, Nat.reduceAdd])
  (repeat' (first | refine e1 (k := ?_) | refine stepS (QbK (m := [47]) rfl rfl) (k := ?_) | refine stepS (QcK Ty.h rfl rfl rfl (by omega) hc0) (k := ?_) | refine stepS (Qbs Tryz.call178 c rfl) (k := ?_) | refine stepS (QbK rfl rfl) (k := ?_) | refine Qbr ?_ | refine Qbt ?_ | refine Qbq ?_ | refine Qb1 (hf := ?_) | refine Qb2 (ht := fun q => ?_) (hf := fun q => ?_) | refine Qby ?_ | refine Qbx ?_ | fail))
  all_goals first
   |(exfalso; rw [hne] at q; exact absurd q (by decide))
   |(exfalso; exact absurd q (by decide))
   |(exfalso; simp at q; done)
   |skip
  refine QbC (fun m st => ∃ k : Nat, k <= l.length /\ m = l.length - k /\ Hid ((l.take k).all Pl.Qaj = true) /\ st = ⟨31, [(3, .d (tStrs l)), (4, .d (dI k))], []⟩) [3, 4] 0 l.length ⟨0, by omega, rfl, Pm.hid rfl, rfl⟩ (round := ?_);rintro m st ⟨k, hk, rfl, hA, rfl⟩
  (repeat (first | refine e1 (k := ?_) | refine Qbr ?_ | refine Qbt ?_ | refine Qbq ?_ | fail))
  cases q3 : decide ((k : Int) < (l.length : Int))
  ·(repeat' (first | refine e1 (k := ?_) | refine Qbr ?_ | refine Qbt ?_ | refine Qbq ?_ | refine Qb1 (hf := ?_) | refine Qb3 ?_ | fail))
   refine Qb0 (hx := ?_);have : k = l.length := by simp at q3; omega
   have h := hA.out;rw [this, List.take_length] at h;rw [hd3.out, h];refine congrArg dB ?_
   by_cases h4 : l.length <= 4
   ·rw [if_pos ⟨rfl, h4⟩]; simp; omega
   ·rw [if_neg (fun x => h4 x.2)]; simp; omega
  have hk2 : k < l.length := by simp at q3; omega
  obtain ⟨x, hx⟩ : ∃ x, l[k]? = some x := ⟨_, List.getElem?_eq_getElem hk2⟩;have hr := QbB (f := fun s => [dS s]) hx;have c2 := aNameOk x (by have := hl.2 x (List.mem_of_getElem? hx); unfold Pm.big; omega);have T : Hid (Pl.Qaj x = true -> (l.take (k + 1)).all Pl.Qaj = true) := Pm.hid fun h => by rw [List.take_add_one, hx, List.all_append, hA.out]; simpa using h
  have F : Hid (Pl.Qaj x = false -> Pl.Qah (47 :: s) = none) := Pm.hid fun h => by
   rw [hd3.out, if_neg];rintro ⟨h1, _⟩;have := List.all_eq_true.1 h1 x (List.mem_of_getElem? hx);rw [h] at this; cases this
  clear hx hA hd3;generalize Pl.Qaj x = ok at *
  (repeat' (first | refine e1 (k := ?_) | refine stepS (Qbs Tryz.call208 c2 rfl) (k := ?_) | refine stepS (Qbw Ty.h rfl Ty.h rfl rfl rfl (by omega) hr) (k := ?_) | refine stepS (Qb6 rfl rfl (by omega)) (k := ?_) | refine Qbr ?_ | refine Qb4 ?_ | refine Qbt ?_ | refine Qbq ?_ | refine Qbz (ht := ?_) | refine Qb2 (ht := fun q => ?_) (hf := fun q => ?_) | refine Qby ?_ | refine Qbx ?_ | fail))
  all_goals first
   |exact Qb8 (l.length - (k + 1)) (by omega) ⟨k + 1, by omega, rfl, Pm.hid (T.out (by simpa using q)), rfl⟩
   |(refine Qb0 (hx := ?_); rw [F.out (by simpa using q)]; rfl)
theorem Qlr (s : List UInt8) (hs : s.length <= 1000000000000) : Pure Tryz.prog 112 [dS s] (.tup [tStrs ((Pl.Qah s).getD []), dB (Pl.Qah s).isSome]) := by
 have c1 := aPathOk s hs;have c2 := Qi9 s hs
 have hn : Hid ((Pl.Qah s).isSome = true -> Pl.QaM s = (Pl.Qah s).getD []) := Pm.hid fun h => by
  unfold Pl.Qah Pl.QaM at *
  split
  ·rfl
  ·rename_i h1
   rw [if_neg h1] at h;split
   ·rfl
   ·rename_i h2; rw [if_neg h2] at h; cases h
 have hcl := (QcH 47 s)
 have hl : (Pl.QaM s).length <= s.length + 1 := by
  unfold Pl.QaM;split
  ·simp
  ·rw [List.length_tail]; omega
 have h0 : Hid ((Pl.Qah s).isSome = false -> (Pl.Qah s).getD [] = []) := Pm.hid fun h => by cases hx : Pl.Qah s with | none => rfl | some x => rw [hx] at h; cases h
 generalize (Pl.Qah s).getD [] = r at *
 generalize (Pl.Qah s).isSome = ok at *
 generalize Pl.QaM s = l at *
 (refine Qbv Tryz.func112 rfl Tryz.ntmps112 Tryz.results112 rfl ?_; simp only [parE, Nat.zero_add, Nat.reduceAdd])
 (repeat' (first | refine e1 (k := ?_) | refine stepS (Qbs Tryz.call177 c1 rfl) (k := ?_) | refine stepS (Qbs Tryz.call178 c2 rfl) (k := ?_) | refine Qd5 Ty.h rfl Ty.h (hb := ?_) (hcell := ?_) (kk := ?_) | refine stepS2 (QbD Ty.h rfl Ty.h) (k := ?_) | refine Qbr ?_ | refine Qbt ?_ | refine Qbq ?_ | refine Qb2 (ht := fun q => ?_) (hf := fun q => ?_) | refine Qby ?_ | fail))
 ·(refine Qbu 0 (h := ?_); refine Qb0 (hx := ?_))
  have h1 : ok = false := by simpa using q
  rw [h0.out h1, h1]; rfl
 ·intro r hr d hd
  obtain ⟨x, _, rfl⟩ := List.mem_map.1 hr;simp at hd; subst hd; rfl
 ·simp; omega
 ·(refine Qbu 0 (h := ?_); refine Qb0 (hx := ?_))
  have h1 : ok = true := by simpa using q
  rw [<- hn.out h1, h1]; simp [List.take_of_length_le]
end Aw
end Go.Proofs.YtdjkdcokjoiokaaGreatDoor
namespace Go.Proofs.YtdjkdcokjoiokaaGreatDoor
open Go.RowKit
namespace Aw
attribute [local irreducible] ASeq ADraw AWP Loc AStep
structure Pl.Lens (s : Pm.Store) : Prop where
 b1 : s.2.1.1.length <= Pm.big
 b2 : s.2.1.2.length <= Pm.big
 b3 : s.2.2.2.1.length <= 1000000000000
 b4 : s.2.2.2.2.2.1.length <= 1000000000000
theorem QcR {s : Pm.Store} (h : Pl.Qag s = true) : Pl.Good s := by
 unfold Pl.Qag at h;simp only [Bool.and_eq_true, beq_iff_eq] at h;obtain ⟨⟨⟨⟨⟨h1, _⟩, _⟩, _⟩, h2⟩, _⟩ := h;refine ⟨h1, fun r hr => ?_⟩;obtain ⟨i, hi, rfl⟩ := List.getElem_of_mem hr;unfold Pl.QaZ at h2;have := List.all_eq_true.1 h2 i (List.mem_range.2 (by omega));unfold Pl.QaI at this;simp only [Bool.and_eq_true, decide_eq_true_eq, List.getD_eq_getElem?_getD, List.getElem?_eq_getElem hi, Option.getD_some] at this;exact this.1.1
theorem al15Ok (s : Pm.Store) (hg : Pl.Good s) (t : Pl.Tree) : Pure Tryz.prog 139 [dSt s, dTree t] (dB (Pl.Qal s t)) := by
 have c := al15All s hg t;have hd : Hid (Pl.Qbc s t = if Pl.Qal s t then ((Pl.Qa9 s t).1, true) else ([], false)) := Pm.hid rfl;have h2 : Hid ((Pl.Qbc s t).2 = Pl.Qal s t) := Pm.hid (by rw [hd.out]; cases Pl.Qal s t <;> rfl);generalize Pl.Qbc s t = r at *
 obtain ⟨l, ok⟩ := r
 (refine Qbv Tryz.func139 rfl Tryz.ntmps139 Tryz.results139 rfl ?_; simp only [parE, Nat.zero_add, Nat.reduceAdd])
 (refine Qbt (Qbq ?_); (repeat (first | refine e1 (k := ?_) | refine e2 (k := ?_) | fail)); refine Qbr ?_)
 refine Qbu 0 (h := ?_);refine Qbu 1 (h := ?_)
 (repeat' (first | refine e1 (k := ?_) | refine stepS (Qbs Tryz.call115 c rfl) (k := ?_) | refine Qbr ?_ | refine Qbt ?_ | refine Qbq ?_ | fail))
 exact Qb0 (hx := by rw [<- h2.out])
theorem Qo1 (s : Pm.Store) (hl : Pl.Lens s) (t : Pl.Tree) : Pure Tryz.prog 113 [dSt s, dTree t] (dB (Pl.Qag s && Pl.Qal s t)) := by
 have c1 := Qox s hl.b1 hl.b2 hl.b3 hl.b4;cases h : Pl.Qag s
 ·rw [h] at c1
  (refine Qbv Tryz.func113 rfl Tryz.ntmps113 Tryz.results113 rfl ?_; simp only [parE, Nat.zero_add, Nat.reduceAdd])
  (refine Qbt (Qbq ?_); (repeat (first | refine e1 (k := ?_) | refine e2 (k := ?_) | fail)); refine Qbr ?_)
  refine Qbu 0 (h := ?_);refine Qbu 1 (h := ?_)
  (repeat' (first | refine e1 (k := ?_) | refine e0 (k := ?_) | refine stepS (Qbs Tryz.call127 c1 rfl) (k := ?_) | refine Qbr ?_ | refine Qbt ?_ | refine Qbq ?_ | fail))
  exact Qb0 (hx := rfl)
 ·have c2 := al15Ok s (QcR h) t
  rw [h] at c1
  (refine Qbv Tryz.func113 rfl Tryz.ntmps113 Tryz.results113 rfl ?_; simp only [parE, Nat.zero_add, Nat.reduceAdd])
  (refine Qbt (Qbq ?_); (repeat (first | refine e1 (k := ?_) | refine e2 (k := ?_) | fail)); refine Qbr ?_)
  refine Qbu 0 (h := ?_);refine Qbu 1 (h := ?_)
  (repeat' (first | refine e1 (k := ?_) | refine stepS (Qbs Tryz.call127 c1 rfl) (k := ?_) | refine stepS (Qbs Tryz.call139 c2 rfl) (k := ?_) | refine Qbr ?_ | refine Qbt ?_ | refine Qbq ?_ | fail))
  exact Qb0 (hx := rfl)
noncomputable def Pl.QaD (s : Pm.Store) (t : Pl.Tree) (path : List UInt8) : Int × Bool :=
 match Pl.Qah path with
 |none => (0, false)
 |some q => if Pl.Qag s && Pl.Qal s t then (match Pl.Qa4 s (Pl.Qab s t) 0 q with | none => (0, false) | some j => (j, true)) else (0, false)
theorem QdJ {s : Pm.Store} {t : Pl.Tree} (h : Pl.Qal s t = true) : Pl.TGood t := by
 unfold Pl.Qal Pl.Qa5 at h;simp only [Bool.and_eq_true] at h;exact QbS h.1.1.1.1
theorem Qls (s : Pm.Store) (hl : Pl.Lens s) (t : Pl.Tree) (path : List UInt8) (hp : path.length <= 1000000000000) : Pure Tryz.prog 54 [dSt s, dTree t, dS path] (.tup [dI (Pl.QaD s t path).1, dB (Pl.QaD s t path).2]) := by
 have hd : Hid (Pl.QaD s t path = match Pl.Qah path with
  |none => (0, false)
  |some q => if Pl.Qag s && Pl.Qal s t then (match Pl.Qa4 s (Pl.Qab s t) 0 q with | none => (0, false) | some j => (j, true)) else (0, false)) := Pm.hid rfl
 have c1 := Qlr path hp;have c2 := Qo1 s hl t;cases hq : Pl.Qah path with
 |none =>
  rw [hq] at c1 hd
  (refine Qbv Tryz.func54 rfl Tryz.ntmps54 Tryz.results54 rfl ?_; simp only [parE, Nat.zero_add, Nat.reduceAdd])
  (refine Qbt (Qbq ?_); (repeat (first | refine e1 (k := ?_) | refine e2 (k := ?_) | fail)); refine Qbr ?_)
  refine Qbu 0 (h := ?_);refine Qbu 1 (h := ?_)
  (repeat' (first | refine e1 (k := ?_) | refine e0 (k := ?_) | refine stepS (Qbs Tryz.call112 c1 rfl) (k := ?_) | refine Qbr ?_ | refine Qbt ?_ | refine Qbq ?_ | refine Qbz (ht := ?_) | fail))
  exact Qb0 (hx := by rw [hd.out])
 |some q =>
  have hql : q.length <= 4 := (QdA.1 hq).2.1;rw [hq] at c1 hd;simp only [Option.getD_some, Option.isSome_some] at c1;cases hk : Pl.Qag s && Pl.Qal s t
  ·rw [hk] at c2 hd
   (refine Qbv Tryz.func54 rfl Tryz.ntmps54 Tryz.results54 rfl ?_; simp only [parE, Nat.zero_add, Nat.reduceAdd])
   (refine Qbt (Qbq ?_); (repeat (first | refine e1 (k := ?_) | refine e2 (k := ?_) | fail)); refine Qbr ?_)
   refine Qbu 0 (h := ?_);refine Qbu 1 (h := ?_)
   (repeat' (first | refine e1 (k := ?_) | refine stepS (Qbs Tryz.call112 c1 rfl) (k := ?_) | refine stepS (Qbs Tryz.call113 c2 rfl) (k := ?_) | refine Qbr ?_ | refine Qbt ?_ | refine Qbq ?_ | refine Qbz (ht := ?_) | fail))
   exact Qb0 (hx := by rw [hd.out]; rfl)
  ·have hk2 : Pl.Qag s = true /\ Pl.Qal s t = true := by simpa using hk
   have c3 := (Qoq s (QcR hk2.1) t (QdJ hk2.2) q (by omega)).arg (l := [dSt s, dTree t, tStrs q]);unfold Pl.Qbn at c3;have hnn : ∀ j, Pl.Qa4 s (Pl.Qab s t) 0 q = some j -> 0 <= j := fun j h => Qhi (Int.le_refl 0) h
   rw [hk] at c2 hd;dsimp only at hd;rw [if_pos rfl] at hd;generalize Pl.Qa4 s (Pl.Qab s t) 0 q = r at *
   cases r with
   |none =>
    simp only [Option.getD_none] at c3
    (refine Qbv Tryz.func54 rfl Tryz.ntmps54 Tryz.results54 rfl ?_; simp only [parE, Nat.zero_add, Nat.reduceAdd])
    (refine Qbt (Qbq ?_); (repeat (first | refine e1 (k := ?_) | refine e2 (k := ?_) | fail)); refine Qbr ?_)
    refine Qbu 0 (h := ?_);refine Qbu 1 (h := ?_)
    (repeat' (first | refine e1 (k := ?_) | refine stepS (Qbs Tryz.call112 c1 rfl) (k := ?_) | refine stepS (Qbs Tryz.call113 c2 rfl) (k := ?_) | refine stepS (Qbs Tryz.call114 c3 rfl) (k := ?_) | refine Qbr ?_ | refine Qbt ?_ | refine Qbq ?_ | refine Qbz (ht := ?_) | refine Qb1 (hf := ?_) | refine Qby ?_ | fail))
    all_goals first
     |(exfalso; simp only [decide_eq_false_iff_not] at *; omega)
     |exact Qb0 (hx := by rw [hd.out])
     |exact Qb0 (hx := by rw [hd.out]; rfl)
   |some j =>
    have hj := hnn j rfl;simp only [Option.getD_some] at c3
    (refine Qbv Tryz.func54 rfl Tryz.ntmps54 Tryz.results54 rfl ?_; simp only [parE, Nat.zero_add, Nat.reduceAdd])
    (refine Qbt (Qbq ?_); (repeat (first | refine e1 (k := ?_) | refine e2 (k := ?_) | fail)); refine Qbr ?_)
    refine Qbu 0 (h := ?_);refine Qbu 1 (h := ?_)
    (repeat' (first | refine e1 (k := ?_) | refine stepS (Qbs Tryz.call112 c1 rfl) (k := ?_) | refine stepS (Qbs Tryz.call113 c2 rfl) (k := ?_) | refine stepS (Qbs Tryz.call114 c3 rfl) (k := ?_) | refine Qbr ?_ | refine Qbt ?_ | refine Qbq ?_ | refine Qb1 (hf := ?_) | refine Qb2 (ht := fun q => ?_) (hf := fun q => ?_) | refine Qby ?_ | fail))
    all_goals first
     |(exfalso; simp only [decide_eq_true_eq] at *; omega)
     |exact Qb0 (hx := by rw [hd.out])
     |exact Qb0 (hx := by rw [hd.out]; rfl)
theorem QnQ {kind : Nat -> Nat} {en : Nat -> Option Gr.En} (hen : ∀ k es, en k = some es -> ∀ e ∈ es, Pl.Qaj e.1 = true) {r L : List Gr.It} (h : Gr.FP kind en r L) : (∀ x ∈ r, ∀ n ∈ x.1, Pl.Qaj n = true) -> ∀ x ∈ L, ∀ n ∈ x.1, Pl.Qaj n = true := by
 induction h with
 |nil => intro _ x hx; cases hx
 |file hk h ih =>
  intro hr x hx;rcases List.mem_cons.1 hx with rfl | hx
  ·exact hr _ List.mem_cons_self
  ·exact ih (fun y hy => hr y (List.mem_cons_of_mem _ hy)) x hx
 |dir hk he h1 h2 ih1 ih2 =>
  intro hr x hx;rcases List.mem_cons.1 hx with rfl | hx
  ·exact hr _ List.mem_cons_self
  ·rcases List.mem_append.1 hx with hx | hx
   ·refine ih1 (fun y hy n hn => ?_) x hx
    unfold Gr.kids at hy;obtain ⟨e, hem, rfl⟩ := List.mem_map.1 hy;rcases List.mem_append.1 hn with hn | hn
    ·exact hr _ List.mem_cons_self n hn
    ·rw [List.mem_singleton] at hn; rw [hn]; exact hen _ _ he e hem
   ·exact ih2 (fun y hy => hr y (List.mem_cons_of_mem _ hy)) x hx
theorem Qjg {s : Pm.Store} {t : Pl.Tree} (h : Pl.Qal s t = true) : (∀ x ∈ (Pl.Qa9 s t).1, (∀ n ∈ x.1, Pl.Qaj n = true) /\ 0 <= x.2 /\ x.2 < 16) /\ (Pl.Qa9 s t).1.length <= 144 := by
 have hF := (QdI s t).1 h;have ht := QdJ h;unfold Pl.Qal at h;simp only [Bool.and_eq_true, beq_iff_eq] at h;obtain ⟨L, g1, g2, g3⟩ := QeA s hF.root h.1.2;rw [g3];have hnl : (Pl.Qab s t).length <= 16 := by unfold Pl.Qab; rw [List.length_map, texts_len s ht]; have := ht.manyHi; omega
 refine ⟨fun x hx => ?_, by simpa using g2⟩;obtain ⟨y, hy, rfl⟩ := List.mem_map.1 hx;refine ⟨QnQ (fun k es he e hee => ?_) g1 (by simp) y hy, ?_⟩
 ·unfold Pl.enF at he
  split at he
  ·obtain rfl := Option.some.inj he
   obtain ⟨e', he', rfl⟩ := List.mem_map.1 hee;exact (QgA s _ e' he').1
  ·cases he
 ·have := g1.fd.kinds y.2 (List.mem_map.2 ⟨y, hy, rfl⟩)
  have hk : y.2 < (Pl.Qab s t).length := Qce (by rcases this with h | ⟨h, _⟩ <;> rw [h] <;> decide);simp only [Pl.itOf]; omega
def Pl.Qbd (p path : List UInt8) : Bool := (path == [47]) || (p == path) || (decide (path.length < p.length) && (p.take (path.length + 1) == path ++ [47]))
theorem Qkv {p q : List (List UInt8)} (hp : ∀ n ∈ p, Pl.Qaj n = true) (hq : ∀ n ∈ q, Pl.Qaj n = true) : Pl.Qbd (Pl.Qat p) (Pl.Qat q) = q.isPrefixOf p := by
 rw [Bool.eq_iff_iff, List.isPrefixOf_iff_prefix, <- pre_iff (QfB hq) (QfB hp)];unfold Pl.Qbd;simp only [Bool.or_eq_true, Bool.and_eq_true, beq_iff_eq, decide_eq_true_eq];rw [QcY (QfB hq)];constructor
 ·rintro ((h | h) | ⟨_, h⟩)
  ·exact .inl h
  ·exact .inr (.inl h)
  ·exact .inr (.inr ⟨(Pl.Qat p).drop ((Pl.Qat q).length + 1), by rw [<- h]; exact List.take_append_drop _ _⟩)
 ·rintro (h | h | ⟨r, h⟩)
  ·exact .inl (.inl h)
  ·exact .inl (.inr h)
  ·refine .inr ⟨by rw [<- h]; simp, ?_⟩
   rw [<- h, List.take_append_of_le_length (by simp), List.take_of_length_le (by simp)]
def Pl.QaA (l : List Pl.Fnd) (q : List (List UInt8)) : List Bool := (List.range 16).map fun k => Pl.isIn l q k
theorem Qmy (q : List (List UInt8)) : Pl.QaA [] q = List.replicate 16 false := by
 unfold Pl.QaA;rw [show (fun k => Pl.isIn [] q k) = fun _ => false from rfl];rfl
theorem Qik (l : List Pl.Fnd) (q : List (List UInt8)) {k : Nat} (h : k < 16) : (Pl.QaA l q)[k]? = some (Pl.isIn l q k) := by
 unfold Pl.QaA; rw [List.getElem?_map, List.getElem?_range h]; rfl
theorem Qie (l : List Pl.Fnd) (x : Pl.Fnd) (q : List (List UInt8)) (k : Nat) : Pl.isIn (l ++ [x]) q k = (Pl.isIn l q k || ((x.2 == (k : Int)) && q.isPrefixOf x.1)) := by
 unfold Pl.isIn; rw [List.any_append]; simp
theorem QkQ {l : List Pl.Fnd} {x : Pl.Fnd} {q : List (List UInt8)} (h : q.isPrefixOf x.1 = false) : Pl.QaA (l ++ [x]) q = Pl.QaA l q := by
 unfold Pl.QaA;refine List.map_congr_left fun k _ => ?_
 rw [Qie, h]; simp
theorem Qmz {l : List Pl.Fnd} {x : Pl.Fnd} {q : List (List UInt8)} (h : q.isPrefixOf x.1 = true) (h0 : 0 <= x.2) (_h1 : x.2 < 16) : Pl.QaA (l ++ [x]) q = (Pl.QaA l q).set x.2.toNat true := by
 refine List.ext_getElem (by simp [Pl.QaA]) fun i hi hi' => ?_
 rw [List.getElem_set];simp only [Pl.QaA, List.getElem_map, List.getElem_range];rw [Qie, h];split
 ·rename_i e; subst e
  have : ((x.2.toNat : Nat) : Int) = x.2 := by omega
  rw [this]; simp
 ·rename_i e
  have : (x.2 == (i : Int)) = false := by simp; omega
  rw [this]; simp
theorem Qnd (s : Pm.Store) (hg : Pl.Good s) (t : Pl.Tree) (path : List UInt8) (hF : Pl.Qal s t = true) (q : List (List UInt8)) (hq : Pl.Qah path = some q) :
 Pure Tryz.prog 55 [dSt s, dTree t, dS path] (.sl true 1 ((Pl.QaA (Pl.Qa9 s t).1 q).map fun b => [dB b])) := by
 have c := al15All s hg t;have hd : Pl.Qbc s t = ((Pl.Qa9 s t).1, true) := by unfold Pl.Qbc; rw [if_pos hF]
 rw [hd] at c;obtain ⟨hfn, hfl⟩ := Qjg hF;obtain ⟨hq1, hq2, hq3⟩ := QdA.1 hq;have hqn : ∀ n ∈ q, Pl.Qaj n = true := fun n hn => List.all_eq_true.1 hq1 n hn
 have hpl : path.length <= 21 := by
  rw [<- hq3];have := QhG q fun x hx => Qeb (hqn x hx)
  omega
 clear hF hd hq hq1;generalize (Pl.Qa9 s t).1 = out at *
 have hfn := Pm.hid hfn;have hqn := Pm.hid hqn;have hq3 := Pm.hid hq3
 (refine Qbv Tryz.func55 rfl Tryz.ntmps55 Tryz.results55 rfl ?_; simp only [parE, Nat.zero_add, Nat.reduceAdd])
 (refine Qbt (Qbq ?_); (repeat (first | refine e1 (k := ?_) | refine e2 (k := ?_) | fail)); refine Qbr ?_)
 refine Qbu 0 (h := ?_);refine Qbu 1 (h := ?_)
 (repeat' (first | refine e1 (k := ?_) | refine stepS (Qbs Tryz.call115 c rfl) (k := ?_) | refine stepS2 (QjH Ty.h rfl Ty.h rfl rfl) (k := ?_) | refine Qbr ?_ | refine Qbt ?_ | refine Qbq ?_ | refine Qbx ?_ | fail))
 refine QbC (fun m st => ∃ j : Nat, j <= out.length /\ m = out.length - j /\ st = ⟨62, [(10, .d (dI j)), (9, .osl 2 0 0 16), (7, .d (tFnds out)), (2, .d (dS path))],
  [.row 1 [], .row 1 [], .arr 0 1 4 ((Pl.QaA (out.take j) q).map fun b => [dB b])]⟩) [10, 9, 7, 2] 3 out.length ⟨0, by omega, rfl, ?_⟩ (round := ?_)
 ·rw [List.take_zero, Qmy]; rfl
 rintro m st ⟨j, hj, rfl, rfl⟩
 (repeat (first | refine e1 (k := ?_) | refine Qbr ?_ | refine Qbt ?_ | refine Qbq ?_ | fail))
 cases q3 : decide ((j : Int) < (out.length : Int))
 ·(repeat' (first | refine e1 (k := ?_) | refine Qbr ?_ | refine Qbt ?_ | refine Qbq ?_ | refine Qb1 (hf := ?_) | refine Qb3 ?_ | fail))
  (refine Qbu 2 (h := ?_); refine Qb0 (hx := ?_))
  have : j = out.length := by simp at q3; omega
  rw [this, List.take_length];have : (Pl.QaA out q).length = 16 := by simp [Pl.QaA]
  simp [List.take_of_length_le, this]
 have hj2 : j < out.length := by simp at q3; omega
 obtain ⟨x, hx⟩ : ∃ x, out[j]? = some x := ⟨_, List.getElem?_eq_getElem hj2⟩;have hr := QbB (f := rFnd) hx;obtain ⟨hxn, hxi⟩ := hfn.out x (List.mem_of_getElem? hx);have hs := Qkv hxn hqn.out;rw [hq3.out] at hs;have htk : out.take (j + 1) = out.take j ++ [x] := by rw [List.take_add_one, hx]; rfl
 have T0 : Hid (Pl.Qbd (Pl.Qat x.1) path = false -> Pl.QaA (out.take (j + 1)) q = Pl.QaA (out.take j) q) := Pm.hid fun h => by rw [htk]; exact QkQ (by rw [<- hs]; exact h)
 have T1 : Hid (Pl.Qbd (Pl.Qat x.1) path = true -> Pl.QaA (out.take (j + 1)) q = (Pl.QaA (out.take j) q).set x.2.toNat true) := Pm.hid fun h => by rw [htk]; exact Qmz (by rw [<- hs]; exact h) hxi.1 hxi.2
 have hsd : Hid (Pl.Qbd (Pl.Qat x.1) path = ((path == [47]) || (Pl.Qat x.1 == path) || (decide (path.length < (Pl.Qat x.1).length) && ((Pl.Qat x.1).take (path.length + 1) == path ++ [47])))) := Pm.hid rfl;rw [hsd.out] at T0 T1;have hfl16 : (Pl.QaA (out.take j) q).length = 16 := by simp [Pl.QaA]
 have hrm : ((Pl.QaA (out.take j) q).map fun b => [dB b])[0 + x.2.toNat]? = some [dB (Pl.isIn (out.take j) q x.2.toNat)] := by
  rw [Nat.zero_add, List.getElem?_map, Qik _ _ (by omega)]; rfl
 clear hx hs htk hsd hfn hqn hxn c;generalize Pl.isIn (out.take j) q x.2.toNat = old at *
 generalize Pl.QaA (out.take j) q = fl at *
 obtain ⟨xp, xi⟩ := x;simp only at hxi hrm T0 T1 hr
 change (out.map rFnd)[((j : Nat) : Int).toNat]? = some [dS (Pl.Qat xp), dI xi] at hr
 generalize Pl.Qat xp = sp at *
 have htn : ((path.length : Int) + 1).toNat = path.length + 1 := by omega
 have hdec : decide (path.length < sp.length) = decide ((sp.length : Int) > (path.length : Int)) := decide_eq_decide.2 (by omega);rw [hdec, <- htn] at T0 T1;clear hdec
 (repeat' (first | refine e1 (k := ?_) | refine e0 (k := ?_) | refine stepS (Qbw Ty.h rfl Ty.h rfl rfl rfl (by omega) hr) (k := ?_) | refine stepS (QbK (m := [47]) rfl rfl) (k := ?_) | refine stepS (Qe7 rfl rfl rfl (by omega) (by simp only [decide_eq_true_eq] at *; omega)) (k := ?_) | refine stepS (QbV (m := [47]) rfl rfl (by first | omega | (simp; omega))) (k := ?_) | refine stepS (QbQ Ty.h rfl Ty.h rfl rfl rfl rfl hxi.1 (by omega)) (k := ?_) | refine QdQ Ty.h rfl rfl hrm rfl (kk := ?_) | refine stepS (Qb6 rfl rfl (by omega)) (k := ?_) | refine stepS (QbK rfl rfl) (k := ?_) | refine Qbr ?_ | refine Qb4 ?_ | refine QbF ?_ | refine Qbt ?_ | refine Qbq ?_ | refine Qbz (ht := ?_) | refine Qb1 (hf := ?_) | refine Qb2 (ht := fun q => ?_) (hf := fun q => ?_) | refine Qby ?_ | refine Qbx ?_ | ((fail_if_success show ASeq _ _ _ _ ⟨_, (_, .d (.v (.bool true))) :: _, _⟩); (fail_if_success show ASeq _ _ _ _ ⟨_, (_, .d (.v (.bool false))) :: _, _⟩); refine splitS (fun q => ?_) (fun q => ?_))))
 all_goals refine Qb8 (out.length - (j + 1)) (by omega) ⟨j + 1, by omega, rfl, ?_⟩
 all_goals generalize (path == [47]) = u1 at *
 all_goals generalize (sp == path) = u2 at *
 all_goals generalize decide ((sp.length : Int) > (path.length : Int)) = u3 at *
 all_goals generalize (List.take ((path.length : Int) + 1).toNat sp == path ++ [47]) = u4 at *
 all_goals first
  |(have h := T1.out (by clear T0 T1; simp_all)
    rw [h]; simp [keepE, go_sem, List.map_set]; done)
  |(have h := T0.out (by clear T0 T1; simp_all)
    rw [h]; simp [keepE, go_sem]; done)
end Aw
end Go.Proofs.YtdjkdcokjoiokaaGreatDoor

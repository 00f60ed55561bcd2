/- Part 34 of seek_card: contracts, walks, laws; no condition beyond the statement's. -/
import Derived.Test.YtdjkdcokjoiokaaGreatDoorW32
import Derived.Test.YtdjkdcokjoiokaaGreatDoorW33
set_option linter.all false
set_option maxRecDepth 100000
set_option maxHeartbeats 16000000
namespace Go.Proofs.YtdjkdcokjoiokaaGreatDoor
section
open Go.RowKit
namespace Aw
attribute [local irreducible] ASeq ADraw AWP Loc mget mset AStep Fg.PlanF Fg.Flts
noncomputable def Pl.nmD (names : List (List UInt8)) : D := if names = [] then .v (.slice none 0 0) else tStrs names
theorem QkU {P : Program} {f : FuncId} {c : Bool} {n : Nat} {x : D} (h : Pure P f [.sl c n []] x) : Pure P f [.v (.slice none 0 0)] x := by
 intro B σ S H w cargs hB hS hl hr;refine h B σ S H w cargs hB hS hl fun i d v hd hv => ?_
 match i, hd with
 |0, hd =>
  obtain rfl := Option.some.inj hd;have := hr 0 _ v rfl hv;cases this;exact .slnil _ _ _ _
end Aw
end
section
open Go.RowKit
namespace Aw
attribute [local irreducible] ASeq ADraw AWP Loc
def Pl.QaH (refs : List Int) (i : Nat) (r : List UInt8) : Bool := decide (r.length <= 128) && ((r == []) == (refs.getD i 0 == 0))
theorem QjK {s : Pm.Store} (h : s.2.1.2.length = 64) : Pl.QaN s = (((List.range 64).all fun i => Pl.QaH s.2.1.1 i (s.1.getD i [])) && decide (Pl.maxL s.2.1.2 <= s.2.2.1)) := by
 have hne : s.2.1.2 ≠ [] := fun e => by rw [e] at h; cases h
 rw [Bool.eq_iff_iff];unfold Pl.QaN Pl.QaB Pl.QaH;simp only [Bool.and_eq_true, List.all_eq_true, decide_eq_true_eq, List.mem_range];rw [maxL_le hne];constructor
 ·intro hh
  refine ⟨fun i hi => (hh i hi).1, fun y hy => ?_⟩;obtain ⟨i, hi, rfl⟩ := List.getElem_of_mem hy;have := (hh i (by omega)).2
  rwa [List.getD_eq_getElem?_getD, List.getElem?_eq_getElem hi] at this
 ·rintro ⟨h1, h2⟩ i hi
  refine ⟨h1 i hi, ?_⟩;rw [List.getD_eq_getElem?_getD, List.getElem?_eq_getElem (by omega)];exact h2 _ (List.getElem_mem _)
theorem Qnl (s : Pm.Store) (b1 : s.2.1.1.length <= Pm.big) (b2 : s.2.1.2.length <= Pm.big) (b3 : s.2.2.2.1.length <= 1000000000000) (b4 : s.2.2.2.2.2.1.length <= 1000000000000) (i1 : ∀ n ∈ s.2.1.1, Pm.InI n) (i2 : ∀ n ∈ s.2.1.2, Pm.InI n) :
 Pure Tryz.prog 146 [dSt s] (dB (Pl.Qah s)) := by
 have hd : Hid (Pl.Qah s = ((s.1.length == 64) && Pl.spaceOk s.2.1 && Pl.inR s.2.2.1 1 900 && Pl.inR s.2.2.2.2.1 0 (s.2.2.1 - 1) && Pl.QaN s && Pl.QaK s.2.1.1 (Pl.owed s) (List.replicate 64 0))) := Pm.hid rfl;have cS := Qnm s.2.1 b1 b2 i1 i2;have cT := bIn s.2.2.1 1 900;have cK := bIn s.2.2.2.2.1 0 (s.2.2.1 - 1)
 by_cases hlen : s.1.length = 64
 rotate_left
 ·have hf : Pl.Qah s = false := by rw [hd.out, beq_eq_false_iff_ne.2 hlen]; rfl
  (refine Qbk Tryz.func146 rfl Tryz.ntmps146 Tryz.results146 rfl ?_; simp only [parE, Nat.zero_add, Nat.reduceAdd])
  (refine Qbf (Qbc ?_); (repeat (first | refine e1 (k := ?_) | refine e2 (k := ?_) | fail)); refine Qbd ?_)
  refine Qbg 0 (h := ?_);have hne : ((s.1.length : Int) != 64) = true := by rw [bne_iff_ne]; omega
  (repeat' (first | refine f1 (k := ?_) | refine e1 (k := ?_) | refine f0 (k := ?_) | refine Qbd ?_ | refine Qbr ?_ | refine Qbf ?_ | refine Qbc ?_ | refine Qb1 follows_mixed (by kernel_rfl) (by kernel_rfl) ?_ | refine Qbl (ht := ?_) | ((fail_if_success show ADraw _ _ _ _ ⟨_, (_, .d (.v (.bool true))) :: _, _⟩); (fail_if_success show ADraw _ _ _ _ ⟨_, (_, .d (.v (.bool false))) :: _, _⟩); refine splitD (fun q => ?_) (fun q => ?_))))
  all_goals first
   |(refine Qbn (hx := ?_); rw [hf])
   |(exfalso; simp_all; done)
 have hne : ((s.1.length : Int) != 64) = false := by rw [hlen]; rfl
 cases hsp : Pl.spaceOk s.2.1
 ·have hf : Pl.Qah s = false := by rw [hd.out, hsp]; simp
  rw [hsp] at cS
  (refine Qbk Tryz.func146 rfl Tryz.ntmps146 Tryz.results146 rfl ?_; simp only [parE, Nat.zero_add, Nat.reduceAdd])
  (refine Qbf (Qbc ?_); (repeat (first | refine e1 (k := ?_) | refine e2 (k := ?_) | fail)); refine Qbd ?_)
  refine Qbg 0 (h := ?_)
  (repeat' (first | refine f1 (k := ?_) | refine e1 (k := ?_) | refine f0 (k := ?_) | refine stepD (Qbe Tryz.call215 cS rfl) (k := ?_) | refine Qbd ?_ | refine Qbr ?_ | refine Qbf ?_ | refine Qbc ?_ | refine Qb1 follows_mixed (by kernel_rfl) (by kernel_rfl) ?_ | refine Qbl (ht := ?_) | ((fail_if_success show ADraw _ _ _ _ ⟨_, (_, .d (.v (.bool true))) :: _, _⟩); (fail_if_success show ADraw _ _ _ _ ⟨_, (_, .d (.v (.bool false))) :: _, _⟩); refine splitD (fun q => ?_) (fun q => ?_))))
  all_goals first
   |(refine Qbn (hx := ?_); rw [hf])
   |(exfalso; simp_all; done)
 cases hT : Pl.inR s.2.2.1 1 900
 ·have hf : Pl.Qah s = false := by rw [hd.out, hT]; simp
  rw [hT] at cT;rw [hsp] at cS
  (refine Qbk Tryz.func146 rfl Tryz.ntmps146 Tryz.results146 rfl ?_; simp only [parE, Nat.zero_add, Nat.reduceAdd])
  (refine Qbf (Qbc ?_); (repeat (first | refine e1 (k := ?_) | refine e2 (k := ?_) | fail)); refine Qbd ?_)
  refine Qbg 0 (h := ?_)
  (repeat' (first | refine f1 (k := ?_) | refine e1 (k := ?_) | refine f0 (k := ?_) | refine stepD (Qbe Tryz.call215 cS rfl) (k := ?_) | refine stepD (Qbe Tryz.call45 cT rfl) (k := ?_) | refine Qbd ?_ | refine Qbr ?_ | refine Qbf ?_ | refine Qbc ?_ | refine Qb1 follows_mixed (by kernel_rfl) (by kernel_rfl) ?_ | refine Qbl (ht := ?_) | ((fail_if_success show ADraw _ _ _ _ ⟨_, (_, .d (.v (.bool true))) :: _, _⟩); (fail_if_success show ADraw _ _ _ _ ⟨_, (_, .d (.v (.bool false))) :: _, _⟩); refine splitD (fun q => ?_) (fun q => ?_))))
  all_goals first
   |(refine Qbn (hx := ?_); rw [hf])
   |(exfalso; simp_all; done)
 have hTb : 1 <= s.2.2.1 /\ s.2.2.1 <= 900 := by simpa [Pl.inR] using hT
 cases hK : Pl.inR s.2.2.2.2.1 0 (s.2.2.1 - 1)
 ·have hf : Pl.Qah s = false := by rw [hd.out, hK]; simp
  rw [hT] at cT;rw [hsp] at cS;rw [hK] at cK
  (refine Qbk Tryz.func146 rfl Tryz.ntmps146 Tryz.results146 rfl ?_; simp only [parE, Nat.zero_add, Nat.reduceAdd])
  (refine Qbf (Qbc ?_); (repeat (first | refine e1 (k := ?_) | refine e2 (k := ?_) | fail)); refine Qbd ?_)
  refine Qbg 0 (h := ?_)
  (repeat' (first | refine f1 (k := ?_) | refine e1 (k := ?_) | refine f0 (k := ?_) | refine stepD (Qbe Tryz.call215 cS rfl) (k := ?_) | refine stepD (Qbe Tryz.call45 cT rfl) (k := ?_) | refine stepD (Qbe Tryz.call45 cK rfl) (k := ?_) | refine stepD (QbB rfl rfl (by omega)) (k := ?_) | refine Qbd ?_ | refine Qbr ?_ | refine Qbf ?_ | refine Qbc ?_ | refine Qb1 follows_mixed (by kernel_rfl) (by kernel_rfl) ?_ | refine Qbl (ht := ?_) | ((fail_if_success show ADraw _ _ _ _ ⟨_, (_, .d (.v (.bool true))) :: _, _⟩); (fail_if_success show ADraw _ _ _ _ ⟨_, (_, .d (.v (.bool false))) :: _, _⟩); refine splitD (fun q => ?_) (fun q => ?_))))
  all_goals first
   |(refine Qbn (hx := ?_); rw [hf])
   |(exfalso; simp_all; done)
 have hsp1 : s.2.1.1.length = 64 /\ s.2.1.2.length = 64 := by simp [Pl.spaceOk] at hsp; exact hsp.1
 have cM := bMax s.2.1.2 (by omega) (by omega)
 have hd2 : Hid (Pl.Qah s = (((List.range 64).all fun i => Pl.QaH s.2.1.1 i (s.1.getD i [])) && decide (Pl.maxL s.2.1.2 <= s.2.2.1) && Pl.owes s)) := Pm.hid (by
  rw [hd.out, hlen, hsp, hT, hK, QjK hsp1.2, QjQ (QjE hsp)]; rfl)
 rw [hT] at cT;rw [hsp] at cS;rw [hK] at cK;clear hd hsp hT hK;have hrow : Hid (∀ k, Pl.QaH s.2.1.1 k (s.1.getD k []) = (decide ((s.1.getD k []).length <= 128) && ((s.1.getD k [] == []) == (s.2.1.1.getD k 0 == 0)))) := Pm.hid fun k => rfl
 have hrf : Hid (∀ k, k < 64 -> Pl.QaH s.2.1.1 k (s.1.getD k []) = false -> Pl.Qah s = false) := Pm.hid fun k hk h => by
  rw [hd2.out, Pl.Qb5 hk h]; rfl
 have how : Hid (Pl.owes s = ((Pl.cntP s.2.1.1 (s.2.2.1 - 1) s.2.2.2.1 (List.replicate 64 0)).1 && (Pl.cntP s.2.1.1 s.2.2.2.2.1 s.2.2.2.2.2.1 (Pl.cntP s.2.1.1 (s.2.2.1 - 1) s.2.2.2.1 (List.replicate 64 0)).2).1 &&
  (List.range 64).all fun i => decide ((Pl.cntP s.2.1.1 s.2.2.2.2.1 s.2.2.2.2.2.1 (Pl.cntP s.2.1.1 (s.2.2.1 - 1) s.2.2.2.1 (List.replicate 64 0)).2).2.getD i 0 <= s.2.1.1.getD i 0))) := Pm.hid rfl
 have fa1 := QdG s.2.1.1 (s.2.2.1 - 1) s.2.2.2.1 (List.replicate 64 0) 0 (by decide) (fun y hy => by rw [(List.mem_replicate.1 hy).2]; decide);have dd1 := bCount s hsp1.1 s.2.2.2.1 b3 (s.2.2.1 - 1) (List.replicate 64 0) (by simp) (fun y hy => by rw [(List.mem_replicate.1 hy).2]; decide) 0;generalize Pl.cntP s.2.1.1 (s.2.2.1 - 1) s.2.2.2.1 (List.replicate 64 0) = r1 at *
 obtain ⟨o1, m1⟩ := r1;simp only at fa1 how;have fa2 := QdG s.2.1.1 s.2.2.2.2.1 s.2.2.2.2.2.1 m1 1000000000000 (by decide) (fun y hy => by have := fa1.2 y hy; omega);have dd2 := bCount s hsp1.1 s.2.2.2.2.2.1 b4 s.2.2.2.2.1 m1 (by simpa using fa1.1) (fun y hy => by have := fa1.2 y hy; omega) 0;generalize Pl.cntP s.2.1.1 s.2.2.2.2.1 s.2.2.2.2.2.1 m1 = r2 at *
 obtain ⟨o2, m2⟩ := r2;simp only at fa2 how;generalize Pl.maxL s.2.1.2 = mx at *
 generalize hst : Pl.Qah s = res at *
 clear hst b1 b2 i1 i2
 (refine Qbk Tryz.func146 rfl Tryz.ntmps146 Tryz.results146 rfl ?_; simp only [parE, Nat.zero_add, Nat.reduceAdd])
 (refine Qbf (Qbc ?_); (repeat (first | refine e1 (k := ?_) | refine e2 (k := ?_) | fail)); refine Qbd ?_)
 refine Qbg 0 (h := ?_)
 (repeat' (first | refine f1 (k := ?_) | refine e1 (k := ?_) | refine f0 (k := ?_) | refine stepD (Qbe Tryz.call215 cS rfl) (k := ?_) | refine stepD (Qbe Tryz.call45 cT rfl) (k := ?_) | refine stepD (Qbe Tryz.call45 cK rfl) (k := ?_) | refine stepD (QbB rfl rfl (by omega)) (k := ?_) | refine stepD (Qbe Tryz.call216 cM rfl) (k := ?_) | refine Qbd ?_ | refine Qbr ?_ | refine Qbf ?_ | refine Qbc ?_ | refine Qb1 follows_mixed (by kernel_rfl) (by kernel_rfl) ?_ | refine Qbl (ht := ?_) | refine Qbo (ht := fun q => ?_) (hf := fun q => ?_) | refine Qbj ?_ | refine Qbi ?_ | ((fail_if_success show ADraw _ _ _ _ ⟨_, (_, .d (.v (.bool true))) :: _, _⟩); (fail_if_success show ADraw _ _ _ _ ⟨_, (_, .d (.v (.bool false))) :: _, _⟩); refine splitD (fun q => ?_) (fun q => ?_))))
 all_goals first
  |(exfalso; clear hrow how hrf hd2 dd1 dd2; simp_all; done)
  |(refine Qbn (hx := ?_)
    rw [hd2.out, decide_eq_false (by clear hrow how hrf hd2 dd1 dd2; simp at *; omega), Bool.and_false, Bool.false_and]; done)
  |skip
 have hmx : decide (mx <= s.2.2.1) = true := decide_eq_true (by clear hrow how hrf hd2 dd1 dd2; simp at *; omega)
 refine Qby (fun m st => ∃ k : Nat, k <= 64 /\ m = 64 - k /\ Hid ((List.range k).all (fun i => Pl.QaH s.2.1.1 i (s.1.getD i [])) = true) /\
  st = ⟨102, [(1, .d (.pd (rSt s))), (44, .d (dStrs s.1)), (45, .d (dI s.1.length)), (46, .d (dI k))], []⟩) [1, 44, 45, 46] 0 64 ⟨0, by omega, rfl, Pm.hid rfl, by simp [keepE, go_sem]⟩ (round := ?_)
 rintro m st ⟨k, hk, rfl, hA, rfl⟩
 (repeat (first | refine e1 (k := ?_) | refine Qbd ?_ | refine Qbf ?_ | refine Qbc ?_ | fail))
 cases q3 : decide ((k : Int) < (s.1.length : Int));rotate_left
 ·have hk2 : k < 64 := by simp at q3; omega
  obtain ⟨r, hr0⟩ : ∃ r, s.1[k]? = some r := ⟨_, List.getElem?_eq_getElem (by omega)⟩;obtain ⟨rf, hf0⟩ : ∃ rf, s.2.1.1[k]? = some rf := ⟨_, List.getElem?_eq_getElem (by omega)⟩;have hr := Qbx (f := fun s => [dS s]) hr0;have hf := Qbx (f := fun n => [dI n]) hf0;have hbad := Pm.hid (hrf.out k hk2);have hgood : Hid (Pl.QaH s.2.1.1 k (s.1.getD k []) = true -> (List.range (k + 1)).all (fun i => Pl.QaH s.2.1.1 i (s.1.getD i [])) = true) := Pm.hid fun h => Pl.Qb8 hA.out h
  have hro : Hid (Pl.QaH s.2.1.1 k (s.1.getD k []) = (!decide ((r.length : Int) > 128) && ((r == []) == (rf == 0)))) := Pm.hid (by
   rw [hrow.out k];simp only [List.getD_eq_getElem?_getD, hr0, hf0, Option.getD_some]
   have : decide (r.length <= 128) = !decide ((r.length : Int) > 128) := by
    by_cases h : r.length <= 128
    ·rw [decide_eq_true h, decide_eq_false (by omega)]; rfl
    ·rw [decide_eq_false h, decide_eq_true (by omega)]; rfl
   rw [this])
  clear hrow how hrf hd2 dd1 dd2 hr0 hf0 hA fa1 fa2;generalize Pl.QaH s.2.1.1 k (s.1.getD k []) = ro at *
  (repeat' (first | refine e1 (k := ?_) | refine e0 (k := ?_) | refine stepS (Qbh Ty.h rfl Ty.h rfl rfl rfl (by omega) hr) (k := ?_) | refine stepS (Qbh Ty.h rfl Ty.h rfl rfl rfl (by omega) hf) (k := ?_) | refine stepS (Qcq Tryz.underlying4 rfl rfl) (k := ?_) | refine stepS (Qbs rfl rfl (by omega)) (k := ?_) | refine stepS (Qcj rfl rfl) (k := ?_) | refine Qbd ?_ | refine Qbp ?_ | refine Qbf ?_ | refine Qbc ?_ | refine Qbl (ht := ?_) | refine Qbo (ht := fun q => ?_) (hf := fun q => ?_) | refine Qbj ?_ | refine Qbi ?_ | ((fail_if_success show ASeq _ _ _ _ ⟨_, (_, .d (.v (.bool true))) :: _, _⟩); (fail_if_success show ASeq _ _ _ _ ⟨_, (_, .d (.v (.bool false))) :: _, _⟩); refine splitS (fun q => ?_) (fun q => ?_))))
  all_goals clear hr hf
  all_goals first
   |(exfalso; omega)
   |(refine Qbn (hx := ?_)
     rw [hbad.out (by rw [hro.out]; clear hbad hgood hro; simp_all)]; done)
   |exact Qbt (64 - (k + 1)) (by omega) ⟨k + 1, by omega, rfl, Pm.hid (hgood.out (by rw [hro.out]; clear hbad hgood hro; simp_all)), by simp [keepE, go_sem]⟩
 have hk64 : k = 64 := by simp at q3; omega
 subst hk64
 have hd3 : Hid (res = Pl.owes s) := Pm.hid (by
  rw [hd2.out, hA.out, hmx]; rfl)
 clear hrow hrf hd2 hA;simp only [List.map_replicate] at dd1;simp only at dd1 dd2
 have hgl1 : ∀ (L : List AV) (B : Blk) (g : AV), g ∈ [AV.ptr 0 0 0, AV.osl 1 0 0 64] -> AV.ptr 1 0 0 ∈ L -> B.parts = [] -> g.ren (rho [1, 0] 2) ∈ L ++ [B, Blk.row 0 [.osl 0 0 0 64]].flatMap Blk.parts := fun L B g hg hL hB => by
  simp only [List.mem_cons, List.not_mem_nil, or_false] at hg;rcases hg with rfl | rfl
  ·exact List.mem_append_left _ hL
  ·refine List.mem_append_right _ ?_
   rw [List.flatMap_cons, hB];simp [Blk.parts, AV.parts, AV.ren, rho]
 (repeat' (first | refine e1 (k := ?_) | refine e0 (k := ?_) | refine stepS (Qgr rfl rfl) (k := ?_) | refine stepS (QbB rfl rfl (by omega)) (k := ?_) | refine (Qf8 [1, 0] dd1 Tryz.call217 (hgl := fun g hg => hgl1 _ _ g hg (by simp [AV.parts, go_sem]) rfl) (k := ?_)) | refine (Qf8 [1, 0] dd2 Tryz.call217 (hgl := fun g hg => hgl1 _ _ g hg (by simp [AV.parts, go_sem]) rfl) (k := ?_)) | refine stepS2 (Qlq Ty.h rfl Ty.h rfl rfl) (k := ?_) | refine Qbu (kk := ?_) | refine Qbd ?_ | refine Qbf ?_ | refine Qbc ?_ | refine Qbl (ht := ?_) | refine Qbm (hf := ?_) | refine Qbo (ht := fun q => ?_) (hf := fun q => ?_) | refine Qbj ?_ | refine Qbi ?_ | refine e2 (k := ?_) | refine Qbq ?_ | ((fail_if_success show ASeq _ _ _ _ ⟨_, (_, .d (.v (.bool true))) :: _, _⟩); (fail_if_success show ASeq _ _ _ _ ⟨_, (_, .d (.v (.bool false))) :: _, _⟩); refine splitS (fun q => ?_) (fun q => ?_))))
 ·refine Qbn (hx := ?_)
  rw [hd3.out, how.out, (by simpa using q : o1 = false)]; rfl
 ·refine Qbn (hx := ?_)
  rw [hd3.out, how.out, (by simpa using q : o2 = false), Bool.and_false]; rfl
 have hm2 : m2.length = 64 := by rw [fa2.1, fa1.1]; simp
 have hd4 : Hid (res = (List.range 64).all fun i => decide (m2.getD i 0 <= s.2.1.1.getD i 0)) := Pm.hid (by
  rw [hd3.out, how.out];clear hd3 how dd1 dd2
  simp_all)
 clear hd3 how dd1 dd2 fa1 fa2 cS cT cK cM
 refine Qby (fun m st => ∃ k : Nat, k <= 64 /\ m = 64 - k /\ Hid ((List.range k).all (fun i => decide (m2.getD i 0 <= s.2.1.1.getD i 0)) = true) /\
  st = ⟨102, [(1, .d (.pd (rSt s))), (86, .osl 0 0 0 64), (87, .d (dI 64)), (88, .d (dI k))], [.arr 0 1 3 (m2.map fun n => [dI n])]⟩) [1, 86, 87, 88] 1 64 ⟨0, by omega, rfl, Pm.hid rfl, by simp [keepE, go_sem]⟩ (round := ?_)
 rintro m st ⟨k, hk, rfl, hA, rfl⟩
 (repeat (first | refine e1 (k := ?_) | refine Qbd ?_ | refine Qbf ?_ | refine Qbc ?_ | fail))
 cases q5 : decide ((k : Int) < 64)
 ·(repeat' (first | refine e1 (k := ?_) | refine Qbd ?_ | refine Qbf ?_ | refine Qbc ?_ | refine Qbm (hf := ?_) | refine Qbq ?_ | fail))
  refine Qbn (hx := ?_);have : k = 64 := by simp at q5; omega
  subst this;rw [hd4.out, hA.out]
 have hk2 : k < 64 := by simp at q5; omega
 obtain ⟨mv, hmv⟩ : ∃ mv, m2[k]? = some mv := ⟨_, List.getElem?_eq_getElem (by omega)⟩;obtain ⟨rf, hf0⟩ : ∃ rf, s.2.1.1[k]? = some rf := ⟨_, List.getElem?_eq_getElem (by omega)⟩;have hmr := Qbx (f := fun n => [dI n]) hmv;have hf := Qbx (f := fun n => [dI n]) hf0;have hmr2 : (m2.map fun n => [dI n])[0 + ((k : Nat) : Int).toNat]? = some [dI mv] := by rw [Nat.zero_add]; exact hmr
 have hbad : Hid (decide (mv > rf) = true -> res = false) := Pm.hid fun h => by
  rw [hd4.out];refine Pl.Qb5 hk2 ?_;simp only [List.getD_eq_getElem?_getD, hmv, hf0, Option.getD_some];exact decide_eq_false (by simp at h; omega)
 have hgood : Hid (decide (mv > rf) = false -> (List.range (k + 1)).all (fun i => decide (m2.getD i 0 <= s.2.1.1.getD i 0)) = true) := Pm.hid fun h => Pl.Qb8 hA.out (by
  simp only [List.getD_eq_getElem?_getD, hmv, hf0, Option.getD_some]
  exact decide_eq_true (by simp at h; omega))
 clear hd4 hA hmv hf0
 (repeat' (first | refine e1 (k := ?_) | refine stepS (Qb4 Ty.h rfl Ty.h rfl rfl rfl rfl (by omega) (by omega)) (k := ?_) | refine stepS (QbK Ty.h rfl rfl hmr2 rfl) (k := ?_) | refine stepS (Qbh Ty.h rfl Ty.h rfl rfl rfl (by omega) hf) (k := ?_) | refine stepS (Qbs rfl rfl (by omega)) (k := ?_) | refine Qbd ?_ | refine Qbp ?_ | refine Qbf ?_ | refine Qbc ?_ | refine Qbl (ht := ?_) | refine Qbo (ht := fun q => ?_) (hf := fun q => ?_) | refine Qbj ?_ | refine Qbi ?_ | fail))
 all_goals first
  |(refine Qbn (hx := ?_)
    rw [hbad.out (by assumption)]; done)
  |exact Qbt (64 - (k + 1)) (by omega) ⟨k + 1, by omega, rfl, Pm.hid (hgood.out (by assumption)), by simp [keepE, go_sem]⟩
end Aw
end
section
open Go.RowKit
namespace Aw
attribute [local irreducible] ASeq ADraw AWP Loc mget mset
def Pl.Qbb (s : Pm.Store) : Prop := ∀ n, Pl.Qak n = true -> n.kind = 1 -> Pure Tryz.prog 263 [.pd (rSt s), dNode n] (.tup [.any, dB (Pl.Qam s n)])
noncomputable def Pl.inD (s : Pm.Store) (t : Pl.Tree) : D := if Pl.Qah s then Pl.QaS s t else .tup [.v (.pointer none), dB false]
theorem Qnr (s : Pm.Store) (t : Pl.Tree) (cS : Pure Tryz.prog 146 [dSt s] (dB (Pl.Qah s))) (hg : Pl.Qah s = true -> Pl.Good s /\ 0 <= s.2.2.1) (hT : Pl.Qah s = true -> Pl.Qbb s) :
 Pure Tryz.prog 119 [dSt s, dTree t] (Pl.inD s t) := by
 unfold Pl.inD;cases h : Pl.Qah s
 ·rw [h] at cS
  rw [if_neg (by simp)]
  (refine Qbk Tryz.func119 rfl Tryz.ntmps119 Tryz.results119 rfl ?_; simp only [parE, Nat.zero_add, Nat.reduceAdd])
  (refine Qbf (Qbc ?_); (repeat (first | refine e1 (k := ?_) | refine e2 (k := ?_) | fail)); refine Qbd ?_)
  refine Qbg 0 (h := ?_);refine Qbg 1 (h := ?_)
  (repeat' (first | refine e1 (k := ?_) | refine stepS (Qbe Tryz.call146 cS rfl) (k := ?_) | refine Qbd ?_ | refine Qbf ?_ | refine Qbc ?_ | refine Qbl (ht := ?_) | fail))
  exact Qbn (hx := rfl)
 ·rw [h] at cS
  rw [if_pos rfl];have c := Qkt s (hg h).1 (hg h).2 t (hT h);obtain ⟨a, b, hab⟩ : ∃ a b, Pl.QaS s t = .tup [a, b] := by unfold Pl.QaS; split <;> exact ⟨_, _, rfl⟩
  rw [hab] at c ⊢;clear hab hg hT
  (refine Qbk Tryz.func119 rfl Tryz.ntmps119 Tryz.results119 rfl ?_; simp only [parE, Nat.zero_add, Nat.reduceAdd])
  (refine Qbf (Qbc ?_); (repeat (first | refine e1 (k := ?_) | refine e2 (k := ?_) | fail)); refine Qbd ?_)
  refine Qbg 0 (h := ?_);refine Qbg 1 (h := ?_)
  (repeat' (first | refine e1 (k := ?_) | refine stepS (Qbe Tryz.call146 cS rfl) (k := ?_) | refine stepS (Qbe Tryz.call192 c rfl) (k := ?_) | refine Qbd ?_ | refine Qbf ?_ | refine Qbc ?_ | refine Qbm (hf := ?_) | refine Qbj ?_ | fail))
  exact Qbn (hx := rfl)
end Aw
end
section
open Go.RowKit
namespace Aw
theorem QjM {S : Nat -> Prop} {w : World} {b : Bool} {l : List Pl.Ptr} {v : Value} (h : RelD S w (.sl b 5 (l.map rPtr)) v) (hS : ∀ b, S b -> b < w.heap.size) (hx : ∀ x ∈ l, Pm.PtrIn x) :
 ∃ A c, v = .slice A l.length c /\ Pm.At w w.heap.size A l := by
 generalize hr : l.map rPtr = rows at h;cases h with
 |slnil a cap =>
  have : l = [] := by simpa using hr
  subst this;exact ⟨_, _, rfl, fun h => absurd h (by simp)⟩
 |sl _ _ _ bb o cap g hb hn hcap hc hrr =>
  subst hr;refine ⟨_, _, by rw [List.length_map], fun _ => ⟨bb, o, rfl, hS bb hb, fun i x hi => ⟨Pm.ptrL x, ⟨rfl, hx x (List.mem_of_getElem? hi)⟩, fun j v hj => ?_⟩⟩⟩;have h1 : (l.map rPtr)[i]? = some (rPtr x) := by rw [List.getElem?_map, hi]; rfl
  have key : ∀ (j : Nat) u, (rPtr x)[j]? = some (.v u) -> w.cell? ⟨bb, o + i * 5 + j, none⟩ = some u := fun j u hu => by
   have h2 := hc i j _ _ h1 hu;have h3 := hrr i j _ _ h1 hu;generalize g i j = y at *
   cases h3;exact h2
  match j, hj with
  |0, hj => obtain rfl := Option.some.inj hj; exact key 0 _ rfl
  |1, hj => obtain rfl := Option.some.inj hj; exact key 1 _ rfl
  |2, hj => obtain rfl := Option.some.inj hj; exact key 2 _ rfl
  |3, hj => obtain rfl := Option.some.inj hj; exact key 3 _ rfl
  |4, hj => obtain rfl := Option.some.inj hj; exact key 4 _ rfl
structure AtW (B : Bs) (σ : Sg) (S : Nat -> Prop) (H : List Blk) (w : World) (s : Pm.Store) (a : Value) : Prop where
 gd : Gd B
 sm : Sm B σ S H w
 st : RelD S w (.pd (rSt s)) a
theorem AtW.call {B : Bs} {σ : Sg} {S : Nat -> Prop} {H : List Blk} {w wk : World} {s : Pm.Store} {a : Value} (h : AtW B σ S H w s a) (hb : Below w.heap.size w wk) {f : FuncId} {args : List D} (vs : List Value) {x : D} (hp : Pure Tryz.prog f (.pd (rSt s) :: args) x) (ha : args = vs.map D.ofV) :
 Calls Tryz.prog f (a :: vs).toArray wk fun e w' => ∃ v, e = .returned v /\ Below wk.heap.size wk w' /\ RelD (fun b => b < w'.heap.size) w' x v := by
 have hs := h.sm.below hb;subst ha;refine (hp B σ _ H wk (a :: vs) h.gd hs.1 (by simp) fun i d v hd hv => ?_).mono fun e w' ⟨v, h1, h2, h3⟩ => ⟨v, h1, h2, h3.mono (fun b hb => ?_) fun _ _ => rfl⟩
 ·match i, hd, hv with
  |0, hd, hv =>
   obtain rfl := Option.some.inj hd;obtain rfl := Option.some.inj hv;exact h.st.mono (fun b hb => .inl hb) fun b hb' => hb.block b ((h.sm.sUp b hb').1)
  |i + 1, hd, hv =>
   rw [List.getElem?_cons_succ] at hd hv;rw [List.getElem?_map, hv] at hd;obtain rfl := Option.some.inj hd;exact D.ofV_rel _ _ _
 ·have := h2.size
  rcases hb with hb | hb
  ·have := (hs.1.sUp b hb).1; omega
  ·exact hb.2
theorem AtW.call0 {B : Bs} {σ : Sg} {S : Nat -> Prop} {H : List Blk} {w wk : World} {s : Pm.Store} {a : Value} (h : AtW B σ S H w s a) (hb : Below w.heap.size w wk) {f : FuncId} {args : List D} (vs : List Value) {x : D} (hp : Pure Tryz.prog f args x) (ha : args = vs.map D.ofV) :
 Calls Tryz.prog f vs.toArray wk fun e w' => ∃ v, e = .returned v /\ Below wk.heap.size wk w' /\ RelD (fun b => b < w'.heap.size) w' x v := by
 have hs := h.sm.below hb;subst ha;refine (hp B σ _ H wk vs h.gd hs.1 (by simp) fun i d v hd hv => ?_).mono fun e w' ⟨v, h1, h2, h3⟩ => ⟨v, h1, h2, h3.mono (fun b hb => ?_) fun _ _ => rfl⟩
 ·rw [List.getElem?_map, hv] at hd
  obtain rfl := Option.some.inj hd;exact D.ofV_rel _ _ _
 ·have := h2.size
  rcases hb with hb | hb
  ·have := (hs.1.sUp b hb).1; omega
  ·exact hb.2
theorem rel_v {S : Nat -> Prop} {w : World} {x v : Value} (h : RelD S w (.v x) v) : v = x := by cases h; rfl
theorem Qgm {S : Nat -> Prop} {w : World} {x y : D} {v : Value} (h : RelD S w (.tup [x, y]) v) : ∃ a b, v = .tuple #[a, b] /\ RelD S w x a /\ RelD S w y b := by
 cases h with
 |tup _ cs hl h =>
  match cs, hl with
  |[a, b], _ => exact ⟨a, b, rfl, h 0 _ _ rfl rfl, h 1 _ _ rfl rfl⟩
variable {B : Bs} {σ : Sg} {S : Nat -> Prop} {H : List Blk} {w wk : World} {s : Pm.Store} {a : Value}
def nodeV (n : Pl.Node) : Value := .agg #[.int .i64 n.kind, .int .i64 n.links, .int .i64 n.size, .int .i64 n.tree.root.pat, .int .i64 n.tree.root.birth, .int .i64 n.tree.root.size, .int .i64 n.tree.root.sum, .int .i64 n.tree.root.level, .int .i64 n.tree.depth, .int .i64 n.tree.many]
theorem cNodeOk (h : AtW B σ S H w s a) (hb : Below w.heap.size w wk) (n : Pl.Node) : Calls Tryz.prog 309 #[nodeV n] wk fun e w' => e = .returned (.bool (Pl.Qak n)) /\ Below wk.heap.size wk w' :=
 (h.call0 hb [nodeV n] (bNodeOk n) rfl).mono fun _ _ ⟨_, h1, h2, h3⟩ => ⟨by rw [h1, rel_v h3], h2⟩
theorem cLeaves (h : AtW B σ S H w s a) (hb : Below w.heap.size w wk) (hg : Pl.Good s) (htx : 0 <= s.2.2.1) (t : Pl.Tree) (hin : ∀ p ∈ (Pl.Qae s t).1, Pm.PtrIn p) : Calls Tryz.prog 148 #[a, .agg (Pm.treeL t).toArray] wk fun e w' =>
 ∃ A c, e = .returned (.tuple #[.slice A (Pl.Qae s t).1.length c, .bool (Pl.Qae s t).2]) /\ Below wk.heap.size wk w' /\ Pm.At w' w'.heap.size A (Pl.Qae s t).1 :=
 (h.call hb [.agg (Pm.treeL t).toArray] (bLeaves s hg htx t) rfl).mono fun _ _ ⟨_, h1, h2, h3⟩ => by
   obtain ⟨x, y, rfl, hx, hy⟩ := Qgm h3;obtain ⟨A, c, rfl, hA⟩ := QjM hx (fun _ hb => hb) hin;exact ⟨A, c, by rw [h1, rel_v hy], h2, hA⟩
theorem cRead (h : AtW B σ S H w s a) (hb : Below w.heap.size w wk) (hg : Pl.Good s) (p : Pl.Ptr) (hp : Pl.ptrHole p = false -> Pl.ptrOk p = true) : Calls Tryz.prog 223 #[a, .agg (Pm.ptrL p).toArray] wk fun e w' =>
 e = .returned (.tuple #[.string ⟨(Pl.rd s.1 p).1.toArray⟩, .bool (Pl.rd s.1 p).2]) /\ Below wk.heap.size wk w' :=
 (h.call hb [.agg (Pm.ptrL p).toArray] (bRead s hg p hp) rfl).mono fun _ _ ⟨_, h1, h2, h3⟩ => by
   obtain ⟨x, y, rfl, hx, hy⟩ := Qgm h3;exact ⟨by rw [h1, rel_v hx, rel_v hy], h2⟩
theorem Qkm (h : AtW B σ S H w s a) (hb : Below w.heap.size w wk) (size : Int) (k : Nat) (h0 : 0 <= size) (h1 : size <= 2048) (hk : k <= 100) : Calls Tryz.prog 311 #[.int .i64 size, .int .i64 k] wk fun e w' => e = .returned (.int .i64 (Pl.QaD size k)) /\ Below wk.heap.size wk w' :=
 (h.call0 hb [.int .i64 size, .int .i64 k] (Qku size k h0 h1 hk) rfl).mono fun _ _ ⟨_, h1, h2, h3⟩ => ⟨by rw [h1, rel_v h3], h2⟩
theorem Qkn (h : AtW B σ S H w s a) (hb : Below w.heap.size w wk) (x : List UInt8) (n : Int) (hx : x.length <= 1000000) : Calls Tryz.prog 310 #[.string ⟨x.toArray⟩, .int .i64 n] wk fun e w' =>
 e = .returned (.tuple #[.string ⟨(Pl.fill x n).1.toArray⟩, .bool (Pl.fill x n).2]) /\ Below wk.heap.size wk w' :=
 (h.call0 hb [.string ⟨x.toArray⟩, .int .i64 n] (Qkv x n hx) rfl).mono fun _ _ ⟨_, h1, h2, h3⟩ => by
   obtain ⟨y, z, rfl, hy, hz⟩ := Qgm h3;exact ⟨by rw [h1, rel_v hy, rel_v hz], h2⟩
theorem Qko (x p : List UInt8) (hx : x.length <= 1000000) (wk : World) : Calls Tryz.prog 312 #[.string ⟨x.toArray⟩, .string ⟨p.toArray⟩] wk fun e w' => e = .returned (.bool (p.isSuffixOf x)) /\ Below wk.heap.size wk w' :=
 (Tryz.strings_HasSuffix ⟨x.toArray⟩ ⟨p.toArray⟩ wk (by rw [Pm.QeJ]; omega)).mono fun e w' h => ⟨h.1, h.2 ▸ Below.refl _ _⟩
theorem Qhy (s : Pm.Store) (t : Pl.Tree) : (Pl.QaR s t && Pl.QaV s (Pl.Qaa s t)) = Pl.Qaq s t := by
 rw [Bool.eq_iff_iff, Qdz];have hnl : (Pl.Qac s t).length = (Pl.Qaa s t).length := by unfold Pl.Qac; rw [List.length_map]
 rw [Bool.and_eq_true];unfold Pl.QaR Pl.QaV Pl.QaW Pl.chF;rw [Bool.and_eq_true, Bool.and_eq_true, decide_eq_true_eq, List.all_eq_true]
 have hk2 : ∀ k, Pl.Qad (Pl.Qac s t) k = 2 ↔ ((Pl.Qac s t).getD k Pl.zn).kind = 2 := fun k => by
  have := Qch (nsOk s t) k;unfold Pl.Qad; omega
 have hk1 : ∀ k, Pl.Qad (Pl.Qac s t) k = 1 ↔ ((Pl.Qac s t).getD k Pl.zn).kind = 1 := fun k => by
  have := Qch (nsOk s t) k;unfold Pl.Qad; omega
 show ((Pl.Qa2 s t = true /\ Pl.Qad (Pl.Qac s t) 0 = 2) /\ ∀ k ∈ List.range (Pl.Qaa s t).length, Pl.Qap s (Pl.Qaa s t) k = true) /\ _ ↔ _;rw [<- hnl];constructor
 ·rintro ⟨⟨⟨h1, h2⟩, h3⟩, h4⟩
  have hG : ∀ k, Pl.Qad (Pl.Qac s t) k ≠ 0 -> Pl.Qap s (Pl.Qaa s t) k = true := fun k hk => h3 k (List.mem_range.2 (Qca hk))
  refine ⟨h1, (hk2 0).1 h2, fun k hk => ?_, fun k hk => ?_, ?_⟩
  ·have h := hG k (by rw [(hk1 k).2 hk]; decide)
   have e : Pl.Qad (Pl.Qab (Pl.Qaa s t)) k = 1 := (hk1 k).2 hk;unfold Pl.Qap at h;rw [e] at h;show Pl.Qam s ((Pl.Qab (Pl.Qaa s t)).getD k Pl.zn) = true;generalize (Pl.Qab (Pl.Qaa s t)).getD k Pl.zn = N at h ⊢;simpa using h
  ·have h := hG k (by rw [(hk2 k).2 hk]; decide)
   have e : Pl.Qad (Pl.Qab (Pl.Qaa s t)) k = 2 := (hk2 k).2 hk;unfold Pl.Qap at h;rw [e] at h;show (Pl.ents s ((Pl.Qab (Pl.Qaa s t)).getD k Pl.zn)).2 = true;generalize (Pl.Qab (Pl.Qaa s t)).getD k Pl.zn = N at h ⊢;simpa using h
  ·cases hb : Gr.bfs (Pl.Qad (Pl.Qab (Pl.Qaa s t))) (Gr.chOf (Pl.enF (Pl.Qab (Pl.Qaa s t)) (Pl.ents s))) (1 + Gr.left (Pl.Qad (Pl.Qab (Pl.Qaa s t))) (Pl.Qac s t).length []) [0] [] with
   |none => rw [hb] at h4; cases h4
   |some nm =>
    rw [hb] at h4;simp only [List.all_eq_true, List.mem_range] at h4;refine ⟨nm, hb, fun k hk0 hk => ?_⟩;have := h4 k (Qca hk);rw [Bool.or_eq_true, Bool.or_eq_true, decide_eq_true_eq, decide_eq_true_eq, decide_eq_true_eq] at this;rcases this with (h | h) | h
    ·exact absurd h hk0
    ·exact absurd h hk
    ·exact h
 ·rintro ⟨h1, h2, h3, h4, nm, h5, h6⟩
  refine ⟨⟨⟨h1, (hk2 0).2 h2⟩, fun k _ => ?_⟩, ?_⟩
  ·unfold Pl.Qap
   have hc := Qch (nsOk s t) k;rcases hc with hc | hc | hc
   ·have e : Pl.Qad (Pl.Qab (Pl.Qaa s t)) k = 0 := by show ((Pl.Qac s t).getD k Pl.zn).kind.toNat = 0; rw [hc]; rfl
    rw [e]; rfl
   ·have e : Pl.Qad (Pl.Qab (Pl.Qaa s t)) k = 1 := (hk1 k).2 hc
    have this : Pl.Qam s ((Pl.Qab (Pl.Qaa s t)).getD k Pl.zn) = true := h3 k hc;rw [e];generalize (Pl.Qab (Pl.Qaa s t)).getD k Pl.zn = N at this ⊢;simpa using this
   ·have e : Pl.Qad (Pl.Qab (Pl.Qaa s t)) k = 2 := (hk2 k).2 hc
    have this : (Pl.ents s ((Pl.Qab (Pl.Qaa s t)).getD k Pl.zn)).2 = true := h4 k hc;rw [e];generalize (Pl.Qab (Pl.Qaa s t)).getD k Pl.zn = N at this ⊢;simpa using this
  ·rw [show Gr.bfs (Pl.Qad (Pl.Qab (Pl.Qaa s t))) (Gr.chOf (Pl.enF (Pl.Qab (Pl.Qaa s t)) (Pl.ents s))) (1 + Gr.left (Pl.Qad (Pl.Qab (Pl.Qaa s t))) (Pl.Qac s t).length []) [0] [] = some nm from h5]
   simp only [List.all_eq_true, List.mem_range];intro k _;rw [Bool.or_eq_true, Bool.or_eq_true, decide_eq_true_eq, decide_eq_true_eq, decide_eq_true_eq]
   by_cases hk0 : k = 0
   ·exact .inl (.inl hk0)
   ·by_cases hk : Pl.Qad (Pl.Qab (Pl.Qaa s t)) k = 0
    ·exact .inl (.inr hk)
    ·exact .inr (h6 k hk0 hk)
end Aw
end
section
open Go.RowKit
namespace Aw
open Pm
theorem Qkb (s : Pm.Store) (t : Pl.Tree) : ∀ p ∈ (Pl.Qae s t).1, Pm.PtrIn p := fun p hp => by
 cases ht : Pl.Qaf s t
 ·unfold Pl.Qae at hp
  rw [ht] at hp;simp at hp
 ·have h := Pl.QbT ((QcK ht p hp).1)
  unfold Pm.PtrIn Pm.InI;omega
end Aw
end
section
open Go.RowKit
namespace Aw
open Pm (Rep)
theorem Qgk {α : Type} [Rep α] {w : World} {N : Nat} {A : Option Addr} {l : List α} (row : α -> List D) (c : Nat) (hrow : ∀ cs x, Rep.cells w N cs x -> row x = cs.map D.v /\ cs.length = Rep.size α) (h : Pm.At w N A l) :
 RelD (fun b => b < N) w (.sl false (Rep.size α) (l.map row)) (.slice A l.length c) := by
 by_cases h0 : 0 < l.length
 ·obtain ⟨b, off, rfl, hb, hc⟩ := h h0
  have key : ∀ (i j : Nat) r d, (l.map row)[i]? = some r -> r[j]? = some d -> ∃ v, d = .v v /\ w.cell? ⟨b, off + i * Rep.size α + j, none⟩ = some v := fun i j r d hr hd => by
   rw [List.getElem?_map] at hr;obtain ⟨x, hx, rfl⟩ := Option.map_eq_some_iff.1 hr;obtain ⟨cs, h1, h2⟩ := hc i x hx;rw [(hrow cs x h1).1, List.getElem?_map] at hd;obtain ⟨v, hv, rfl⟩ := Option.map_eq_some_iff.1 hd;exact ⟨v, rfl, h2 j v hv⟩
  have := RelD.sl (S := fun b => b < N) (w := w) false (Rep.size α) (l.map row) b off c (fun i j => (w.cell? ⟨b, off + i * Rep.size α + j, none⟩).getD undef) hb
   (fun r hr => by
     obtain ⟨x, hx, rfl⟩ := List.mem_map.1 hr;obtain ⟨i, hi⟩ := List.getElem?_of_mem hx;obtain ⟨cs, h1, _⟩ := hc i x hi
     rw [(hrow cs x h1).1, List.length_map, (hrow cs x h1).2])
   (fun h => by cases h)
   (fun i j r d hr hd => by obtain ⟨v, _, hv⟩ := key i j r d hr hd; rw [hv]; rfl)
   (fun i j r d hr hd => by obtain ⟨v, rfl, hv⟩ := key i j r d hr hd; rw [hv]; exact .v _)
  rwa [List.length_map] at this
 ·have : l = [] := List.eq_nil_of_length_eq_zero (by omega)
  subst this;exact .slnil _ _ _ _
theorem QfG {w : World} {N : Nat} {A : Option Addr} {l : List Pl.Ptr} (c : Nat) (h : Pm.At w N A l) : RelD (fun b => b < N) w (dPtrs l) (.slice A l.length c) :=
 Qgk rPtr c (fun cs x h => ⟨by rw [h.1]; rfl, by rw [h.1]; rfl⟩) h
theorem QfW {w : World} {N : Nat} {A : Option Addr} {l : List Int} (c : Nat) (h : Pm.At w N A l) : RelD (fun b => b < N) w (dInts l) (.slice A l.length c) :=
 Qgk (fun n => [dI n]) c (fun cs x h => ⟨by rw [h.1]; rfl, by rw [h.1]; rfl⟩) h
theorem QjA {w : World} {N : Nat} {A : Option Addr} {l : List (List UInt8)} (c : Nat) (h : Pm.At w N A l) : RelD (fun b => b < N) w (dStrs l) (.slice A l.length c) :=
 Qgk (fun s => [dS s]) c (fun cs x h => ⟨by rw [h.1]; rfl, by rw [h.1]; rfl⟩) h
theorem QhR {w : World} {N : Nat} {s : Pm.Store} {A1 A2 A3 A4 A5 : Option Addr} (c1 c2 c3 c4 c5 : Nat) (h : Pm.StAt w N s A1 A2 A3 A4 A5) : RelD (fun b => b < N) w (dSt s) (.agg (Pm.stV s A1 A2 A3 A4 A5 c1 c2 c3 c4 c5)) := by
 refine .agg _ [_, _, _, _, _, _, _, _] rfl fun i d v hd hv => ?_
 match i, hd, hv with
 |0, hd, hv => obtain rfl := Option.some.inj hd; obtain rfl := Option.some.inj hv; exact QjA c1 h.a1
 |1, hd, hv => obtain rfl := Option.some.inj hd; obtain rfl := Option.some.inj hv; exact QfW c2 h.a2
 |2, hd, hv => obtain rfl := Option.some.inj hd; obtain rfl := Option.some.inj hv; exact QfW c3 h.a3
 |3, hd, hv => obtain rfl := Option.some.inj hd; obtain rfl := Option.some.inj hv; exact .v _
 |4, hd, hv => obtain rfl := Option.some.inj hd; obtain rfl := Option.some.inj hv; exact QfG c4 h.a4
 |5, hd, hv => obtain rfl := Option.some.inj hd; obtain rfl := Option.some.inj hv; exact .v _
 |6, hd, hv => obtain rfl := Option.some.inj hd; obtain rfl := Option.some.inj hv; exact QfG c5 h.a5
 |7, hd, hv => obtain rfl := Option.some.inj hd; obtain rfl := Option.some.inj hv; exact .v _
theorem Pure.at {f : FuncId} {args : List D} {x : D} (h : Pure Tryz.prog f args x) {w : World} (hL : Pm.Lt w) (cargs : List Value) (hl : args.length = cargs.length) (hr : ∀ (i : Nat) d v, args[i]? = some d -> cargs[i]? = some v -> RelD (fun b => b < w.heap.size) w d v) :
 Calls Tryz.prog f cargs.toArray w fun e w' => ∃ v, e = .returned v /\ Below w.heap.size w w' /\ RelD (fun b => b < w'.heap.size) w' x v := by
 have hS : Sm ⟨w, nG, fun _ => False, fun b => b < w.heap.size⟩ (fun _ => none) (fun b => b < w.heap.size) [] w :=
  ⟨rfl, rfl, rfl, Nat.le_refl _, fun _ _ _ => rfl, fun _ h => h, fun b hb => ⟨hb, .inl hb⟩, fun k b hk => by simp at hk, fun k k' b hk => by simp at hk, fun k C hC => by simp at hC⟩
 refine (h ⟨w, nG, fun _ => False, fun b => b < w.heap.size⟩ (fun _ => none) (fun b => b < w.heap.size) [] w cargs ⟨rfl, fun _ hb => hb.elim, hL⟩ hS hl hr).mono fun e w' ⟨v, h1, h2, h3⟩ => ⟨v, h1, h2, h3.mono (fun b hb => ?_) fun _ _ => rfl⟩
 have := h2.size;rcases hb with hb | hb
 ·have : b < w.heap.size := hb
  omega
 ·exact hb.2
end Aw
end
end Go.Proofs.YtdjkdcokjoiokaaGreatDoor

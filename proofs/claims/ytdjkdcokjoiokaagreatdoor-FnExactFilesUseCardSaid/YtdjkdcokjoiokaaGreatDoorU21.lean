/- Part 21 of the proof of use_card: contracts, walks, plain laws; no condition is assumed beyond those that a statement names. -/
import Derived.Test.YtdjkdcokjoiokaaGreatDoorU20
set_option linter.all false
set_option maxRecDepth 100000
set_option maxHeartbeats 16000000
namespace Go.Proofs.YtdjkdcokjoiokaaGreatDoor
open Go.RowKit
namespace Aw
attribute [local irreducible] ASeq ADraw AWP Loc
theorem QjO {s : List UInt8} (h : (Pl.fan s).2 = true) : (Pl.fan s).1.length = 4 := by
 unfold Pl.fan at h ⊢;simp only at h ⊢;split at h
 ·rename_i h'; rw [if_pos h']; simp at h'; simp [h'.1.2]
 ·cases h
theorem Qgc {s : Pm.Store} {p : Pl.Ptr} {n : Int} (h : (Pl.Qak s p n).2 = true) (ht : 0 <= s.2.2.1) (hp : p.birth <= s.2.2.1) : (Pl.Qak s p n).1.length = 4 /\ ∀ q ∈ (Pl.Qak s p n).1, Pl.ptrOk q = true /\ q.birth <= s.2.2.1 := by
 refine ⟨?_, fun q hq => ⟨Qka s p n q hq, ?_⟩⟩
 ·unfold Pl.Qak at h ⊢
  split
  ·simp
  ·rename_i h1
   rw [if_neg h1] at h;split at h
   ·rename_i h2
    rw [if_pos h2];split at h
    ·cases h
    ·rename_i h3; rw [if_neg h3]; exact QjO h
   ·cases h
 ·unfold Pl.Qak at h hq
  split at hq
  ·rw [(List.mem_replicate.1 hq).2]; exact ht
  ·rename_i h1
   rw [if_neg h1] at h;split at hq
   ·rename_i h2
    rw [if_pos h2] at h;split at hq
    ·cases hq
    ·rename_i h3
     simp only [List.any_eq_true, decide_eq_true_eq, not_exists, not_and] at h3;have := h3 q hq;omega
   ·cases hq
theorem Qij (f : Pl.Ptr -> List Pl.Ptr) : ∀ l : List Pl.Ptr, (∀ p ∈ l, (f p).length = 4) -> (l.flatMap f).length = l.length * 4
 |[], _ => rfl
 |p :: l, h => by
  have := Qij f l fun q hq => h q (by simp [hq])
  have := h p (by simp);rw [List.flatMap_cons, List.length_append, List.length_cons]; omega
noncomputable def Pl.Qai (s : Pm.Store) (t : Pl.Tree) : List Pl.Ptr × Bool := if Pl.Qae s t then ((Pl.Qan s t).1.take t.many.toNat, true) else ([], false)
theorem Qmo (s : Pm.Store) (many : Int) (i : Nat) (p : Pl.Ptr) (hp : p.birth <= s.2.2.1) : Pl.Qaw s many i p = ((Pl.rd s.1 p).2 && (p.level == 0) && !(decide ((i : Int) ≥ many) && !Pl.ptrHole p)) := by
 unfold Pl.Qaw
 by_cases h : Pl.ptrHole p = true
 ·have : p = Pl.hole := by simpa [Pl.ptrHole] using h
  subst this;have : Pl.rd s.1 Pl.hole = ([], true) := by unfold Pl.rd; rw [if_pos h]
  rw [h, this]; cases decide ((i : Int) ≥ many) <;> rfl
 ·have h' : Pl.ptrHole p = false := by simpa using h
  rw [h']
  by_cases hi : (i : Int) < many <;> simp [hp, hi] <;> omega
theorem Qfd {s : Pm.Store} {t : Pl.Tree} (h : Pl.Qae s t = true) (htx : 0 <= s.2.2.1) : t.root.birth <= s.2.2.1 := by
 unfold Pl.Qae at h;simp only [Bool.and_eq_true] at h;obtain ⟨⟨_, h4⟩, h5⟩ := h
 by_cases hh : Pl.ptrHole t.root = true
 ·have : t.root = Pl.hole := by simpa [Pl.ptrHole] using hh
  rw [this]; exact htx
 unfold Pl.Qan at h4 h5;rcases hn : t.depth.toNat with _ | n
 ·rw [hn] at h5
  simp only [Pl.lvl, List.zipIdx_singleton, List.all_cons, List.all_nil, Bool.and_true] at h5;unfold Pl.Qaw at h5;simp [hh] at h5;exact h5.1.2
 ·rw [hn] at h4
  unfold Pl.lvl at h4;split at h4
  ·rename_i h6
   simp only [List.all_cons, List.all_nil, Bool.and_true] at h6;unfold Pl.Qak at h6;rw [if_neg hh] at h6;split at h6
   ·rename_i h7; simp at h7; exact h7.1.2
   ·cases h6
  ·cases h4
theorem bLeaves (s : Pm.Store) (hg : Pl.Good s) (htx : 0 <= s.2.2.1) (t : Pl.Tree) : Pure Tryz.prog 148 [.pd (rSt s), dTree t] (.tup [tPtrs (Pl.Qai s t).1, dB (Pl.Qai s t).2]) := by
 have hd : Hid (Pl.Qai s t = if Pl.Qae s t then ((Pl.Qan s t).1.take t.many.toNat, true) else ([], false)) := Pm.hid rfl;have hto : Hid (Pl.Qae s t = (Pl.inR t.many 0 16 && (t.depth == (if t.many <= 1 then 0 else if t.many <= 4 then 1 else 2)) && Pl.ptrOk t.root && (Pl.Qan s t).2 && ((Pl.Qan s t).1.zipIdx.all fun q => Pl.Qaw s t.many q.2 q.1))) := Pm.hid rfl
 (refine Qbv Tryz.func148 rfl Tryz.ntmps148 Tryz.results148 rfl ?_; simp only [parE, Nat.zero_add, Nat.reduceAdd])
 (refine Qbt (Qbq ?_); (repeat (first | refine e1 (k := ?_) | refine e2 (k := ?_) | fail)); refine Qbr ?_)
 refine Qbu 0 (h := ?_);cases h1 : Pl.inR t.many 0 16
 ·(repeat' (first | refine f1 (k := ?_) | refine e1 (k := ?_) | refine f0 (k := ?_) | refine stepD (Qbs Tryz.call45 (h1 ▸ bIn t.many 0 16) rfl) (k := ?_) | refine Qbr ?_ | refine Qb5 ?_ | refine Qbt ?_ | refine Qbq ?_ | refine QbE follows_mixed (by kernel_rfl) (by kernel_rfl) ?_ | refine Qbz (ht := ?_) | fail))
  refine Qco 4 true 5 (h := ?_);refine Qb0 (hx := ?_);rw [hd.out, if_neg (by rw [hto.out, h1]; simp)]; rfl
 have c1 := h1 ▸ bIn t.many 0 16;have c2 := bDepth t.many;have hdp : (if t.many <= 1 then 0 else if t.many <= 4 then 1 else 2 : Int) = 0 ∨ (if t.many <= 1 then 0 else if t.many <= 4 then 1 else 2 : Int) = 1 ∨ (if t.many <= 1 then 0 else if t.many <= 4 then 1 else 2 : Int) = 2 := by split <;> (try split) <;> simp
 have hdm : t.many <= 4 ^ (if t.many <= 1 then 0 else if t.many <= 4 then 1 else 2 : Int).toNat := by
  simp [Pl.inR] at h1;split
  ·simpa
  ·split
   ·simpa
   ·simpa using h1.2
 generalize (if t.many <= 1 then 0 else if t.many <= 4 then 1 else 2 : Int) = dp at *
 cases h3 : Pl.ptrOk t.root
 ·(repeat' (first | refine f1 (k := ?_) | refine e1 (k := ?_) | refine f0 (k := ?_) | refine stepD (Qbs Tryz.call45 c1 rfl) (k := ?_) | refine stepD (Qbs Tryz.call222 c2 rfl) (k := ?_) | refine stepD (Qbs Tryz.call218 (h3 ▸ bPtrOk t.root) rfl) (k := ?_) | refine Qbr ?_ | refine Qb5 ?_ | refine Qbt ?_ | refine Qbq ?_ | refine QbE follows_mixed (by kernel_rfl) (by kernel_rfl) ?_ | refine Qbz (ht := ?_) | ((fail_if_success show ADraw _ _ _ _ ⟨_, (_, .d (.v (.bool true))) :: _, _⟩); (fail_if_success show ADraw _ _ _ _ ⟨_, (_, .d (.v (.bool false))) :: _, _⟩); refine splitD (fun q => ?_) (fun q => ?_))))
  all_goals
   refine Qco 4 true 5 (h := ?_);refine Qb0 (hx := ?_);rw [hd.out, if_neg (by rw [hto.out, h3]; simp)]; rfl
 by_cases h2 : t.depth = dp
 rotate_left
 ·(repeat' (first | refine f1 (k := ?_) | refine e1 (k := ?_) | refine f0 (k := ?_) | refine stepD (Qbs Tryz.call45 c1 rfl) (k := ?_) | refine stepD (Qbs Tryz.call222 c2 rfl) (k := ?_) | refine stepD (Qbs Tryz.call218 (h3 ▸ bPtrOk t.root) rfl) (k := ?_) | refine stepD (QbW rfl) (k := ?_) | refine stepS2 (QbD Ty.h rfl Ty.h) (k := ?_) | refine Qbr ?_ | refine Qb5 ?_ | refine Qbt ?_ | refine Qbq ?_ | refine QbE follows_mixed (by kernel_rfl) (by kernel_rfl) ?_ | refine Qbz (ht := ?_) | refine Qb2 (ht := fun q => ?_) (hf := fun q => ?_) | refine Qby ?_ | refine Qbx ?_ | ((fail_if_success show ADraw _ _ _ _ ⟨_, (_, .d (.v (.bool true))) :: _, _⟩); (fail_if_success show ADraw _ _ _ _ ⟨_, (_, .d (.v (.bool false))) :: _, _⟩); refine splitD (fun q => ?_) (fun q => ?_))))
  all_goals first
   |(refine Qco 4 true 5 (h := ?_)
     refine Qb0 (hx := ?_)
     rw [hd.out, if_neg (by rw [hto.out]; simp [h2])]; rfl)
   |(simp at *; exact absurd ‹_› h2)
 by_cases h4 : t.root.birth <= s.2.2.1
 rotate_left
 ·have hno : Pl.Qae s t ≠ true := fun h => h4 (Qfd h htx)
  (repeat' (first | refine f1 (k := ?_) | refine e1 (k := ?_) | refine f0 (k := ?_) | refine stepD (Qbs Tryz.call45 c1 rfl) (k := ?_) | refine stepD (Qbs Tryz.call222 c2 rfl) (k := ?_) | refine stepD (Qbs Tryz.call218 (h3 ▸ bPtrOk t.root) rfl) (k := ?_) | refine stepD (QbW rfl) (k := ?_) | refine stepS2 (QbD Ty.h rfl Ty.h) (k := ?_) | refine Qbr ?_ | refine Qb5 ?_ | refine Qbt ?_ | refine Qbq ?_ | refine QbE follows_mixed (by kernel_rfl) (by kernel_rfl) ?_ | refine Qbz (ht := ?_) | refine Qb2 (ht := fun q => ?_) (hf := fun q => ?_) | refine Qby ?_ | refine Qbx ?_ | ((fail_if_success show ADraw _ _ _ _ ⟨_, (_, .d (.v (.bool true))) :: _, _⟩); (fail_if_success show ADraw _ _ _ _ ⟨_, (_, .d (.v (.bool false))) :: _, _⟩); refine splitD (fun q => ?_) (fun q => ?_))))
  all_goals first
   |(refine Qco 4 true 5 (h := ?_)
     refine Qb0 (hx := ?_)
     rw [hd.out, if_neg hno]; rfl)
   |(simp at *; omega)
 (repeat' (first | refine f1 (k := ?_) | refine e1 (k := ?_) | refine f0 (k := ?_) | refine stepD (Qbs Tryz.call45 c1 rfl) (k := ?_) | refine stepD (Qbs Tryz.call222 c2 rfl) (k := ?_) | refine stepD (Qbs Tryz.call218 (h3 ▸ bPtrOk t.root) rfl) (k := ?_) | refine stepD (QbW rfl) (k := ?_) | refine stepS2 (QbD Ty.h rfl Ty.h) (k := ?_) | refine Qbr ?_ | refine Qb5 ?_ | refine Qbt ?_ | refine Qbq ?_ | refine QbE follows_mixed (by kernel_rfl) (by kernel_rfl) ?_ | refine Qbz (ht := ?_) | refine Qb2 (ht := fun q => ?_) (hf := fun q => ?_) | refine Qby ?_ | refine Qbx ?_ | ((fail_if_success show ADraw _ _ _ _ ⟨_, (_, .d (.v (.bool true))) :: _, _⟩); (fail_if_success show ADraw _ _ _ _ ⟨_, (_, .d (.v (.bool false))) :: _, _⟩); refine splitD (fun q => ?_) (fun q => ?_))))
 ·exact absurd h2 (by simpa using q)
 ·simp at q; omega
 have hd2 : Hid (Pl.Qae s t = ((Pl.Qan s t).2 && ((Pl.Qan s t).1.zipIdx.all fun q => Pl.Qaw s t.many q.2 q.1))) := Pm.hid (by rw [hto.out, h1, h3, h2]; simp);have hlv : Hid (Pl.Qan s t = Pl.lvl s t.depth.toNat [t.root]) := Pm.hid rfl;have hmany : 0 <= t.many := by simp [Pl.inR] at h1; exact h1.1
 clear hto c1 c2 h1;obtain ⟨n0, rfl⟩ : ∃ n0 : Nat, dp = n0 := ⟨dp.toNat, by omega⟩;have hn0 : n0 <= 2 := by omega
 rw [h2] at hlv;simp only [Int.toNat_natCast] at hlv hdm;clear hdp;generalize hnl : Pl.Qai s t = res at *
 clear hnl;rw [h2];refine Qbu 1 (h := ?_)
 refine QbC (fun m st => ∃ (n : Nat) (l : List Pl.Ptr), n <= n0 /\ m = n /\ l.length = 4 ^ (n0 - n) /\ Hid (∀ p ∈ l, Pl.ptrOk p = true /\ p.birth <= s.2.2.1) /\ Hid (Pl.Qan s t = Pl.lvl s n l) /\
  st = ⟨112, [(6, .d (tPtrs l)), (7, .d (dI n)), (0, .d (.pd (rSt s))), (3, .d (.pd (rTree t)))], []⟩) [6, 7, 0, 3] 0 n0 ⟨n0, [t.root], Nat.le_refl _, rfl, by simp, Pm.hid (by simp [h3, h4]), hlv, by rw [<- h2]; rfl⟩ (round := ?_)
 clear hlv;rintro m st ⟨n, l, hn, rfl, hll, hO, hL, rfl⟩
 (repeat (first | refine e1 (k := ?_) | refine Qbr ?_ | refine Qbt ?_ | refine Qbq ?_ | fail))
 rcases m with _ | n
 ·(repeat' (first | refine e1 (k := ?_) | refine Qbr ?_ | refine Qbt ?_ | refine Qbq ?_ | refine Qb1 (hf := ?_) | refine Qbx ?_ | refine Qb3 ?_ | fail))
  have hl16 : l.length <= 16 := by rw [hll]; exact Nat.le_trans (Nat.pow_le_pow_right (by omega) (show n0 - 0 <= 2 by omega)) (by decide)
  have hml : t.many <= ((l.map rPtr).length : Int) := by rw [List.length_map, hll]; simpa using hdm
  have hd3 : Hid (res = if l.zipIdx.all (fun q => Pl.Qaw s t.many q.2 q.1) = true then (l.take t.many.toNat, true) else ([], false)) := Pm.hid (by rw [hd.out, hd2.out, hL.out]; simp only [Pl.lvl, Bool.true_and]);clear hd hd2 hL hll hdm
  refine QbC (fun m st => ∃ (k : Nat), k <= l.length /\ m = l.length - k /\ Hid ((l.take k).zipIdx.all (fun q => Pl.Qaw s t.many q.2 q.1) = true) /\
   st = ⟨112, [(74, .d (tPtrs l)), (75, .d (dI l.length)), (76, .d (dI k)), (6, .d (tPtrs l)), (0, .d (.pd (rSt s))), (3, .d (.pd (rTree t)))], []⟩) [74, 75, 76, 6, 0, 3] 0 l.length ⟨0, by omega, rfl, Pm.hid rfl, rfl⟩ (round := ?_)
  rintro m st ⟨k, hk, rfl, hA, rfl⟩
  (repeat (first | refine e1 (k := ?_) | refine Qbr ?_ | refine Qbt ?_ | refine Qbq ?_ | fail))
  cases q4 : decide ((k : Int) < (l.length : Int))
  ·(repeat' (first | refine e1 (k := ?_) | refine stepS (Qmf rfl rfl rfl rfl hmany hml) (k := ?_) | refine Qbr ?_ | refine Qbt ?_ | refine Qbq ?_ | refine Qb1 (hf := ?_) | refine Qb3 ?_ | fail))
   refine Qb0 (hx := ?_);have : k = l.length := by simp at q4; omega
   have h := hA.out;rw [this, List.take_of_length_le (Nat.le_refl _)] at h;rw [hd3.out, if_pos h];simp only;rw [<- List.map_take]
  have hk2 : k < l.length := by simp at q4; omega
  obtain ⟨x, hx⟩ : ∃ x, l[k]? = some x := ⟨_, List.getElem?_eq_getElem hk2⟩;have hr := QbB (f := rPtr) hx;have ho := hO.out x (List.mem_of_getElem? hx);have h7 := bRead s hg x fun _ => ho.1
  have T : Hid (Pl.Qaw s t.many k x = true -> (l.take (k + 1)).zipIdx.all (fun q => Pl.Qaw s t.many q.2 q.1) = true) := fun e => by rw [Qjy hx, hA.out, e]; rfl
  have F : Hid (Pl.Qaw s t.many k x = false -> res = ([], false)) := fun e => by rw [hd3.out, Qh5 hx e]; rfl
  have hlf : Hid (Pl.Qaw s t.many k x = ((Pl.rd s.1 x).2 && (x.level == 0) && !(decide ((k : Int) ≥ t.many) && !Pl.ptrHole x))) := Pm.hid (Qmo s t.many k x ho.2);generalize Pl.Qaw s t.many k x = lf at *
  clear hx hO hA hd3 ho;generalize Pl.rd s.1 x = rb at *
  obtain ⟨tx, fine⟩ := rb;simp only at hlf
  (repeat' (first | refine e1 (k := ?_) | refine e0 (k := ?_) | refine stepS (Qbs Tryz.call223 h7 rfl) (k := ?_) | refine stepS (Qbs Tryz.call199 (Qc3 x) rfl) (k := ?_) | refine stepS (Qbw Ty.h rfl Ty.h rfl rfl rfl (by omega) hr) (k := ?_) | refine stepS (Qb6 rfl rfl (by omega)) (k := ?_) | refine QbA (kk := ?_) | refine Qbr ?_ | refine Qb4 ?_ | refine Qbt ?_ | refine Qbq ?_ | refine Qbz (ht := ?_) | refine Qb1 (hf := ?_) | refine Qb2 (ht := fun q => ?_) (hf := fun q => ?_) | refine Qby ?_ | refine Qbx ?_ | refine e2 (k := ?_) | ((fail_if_success show ASeq _ _ _ _ ⟨_, (_, .d (.v (.bool true))) :: _, _⟩); (fail_if_success show ASeq _ _ _ _ ⟨_, (_, .d (.v (.bool false))) :: _, _⟩); refine splitS (fun q => ?_) (fun q => ?_))))
  all_goals clear h7 hr
  all_goals first
   |(have e : lf = false := by rw [hlf.out]; clear T F hlf; simp_all
     refine Qco 4 true 5 (h := ?_);refine Qb0 (hx := ?_)
     rw [F.out e]; rfl)
   |(have e : lf = true := by rw [hlf.out]; clear T F hlf; simp_all
     exact Qb8 (l.length - (k + 1)) (by omega) ⟨k + 1, by omega, rfl, Pm.hid (T.out e), rfl⟩)
 have q3 : decide (((n + 1 : Nat) : Int) > 0) = true := by simp
 rw [q3]
 (repeat' (first | refine e1 (k := ?_) | refine Qbr ?_ | refine Qbt ?_ | refine Qbq ?_ | refine Qbz (ht := ?_) | refine Qby ?_ | refine Qbx ?_ | fail))
 refine QeZ 8 5 54 (h := ?_);have hll2 : l.length <= 4 := by rw [hll]; exact Nat.le_trans (Nat.pow_le_pow_right (by omega) (show n0 - (n + 1) <= 1 by omega)) (by decide)
 have hv : Hid (l.all (fun p => (Pl.Qak s p (n + 1 : Nat)).2) = false -> res = ([], false)) := fun e => by rw [hd.out, hd2.out, hL.out, Pl.lvl, if_neg (by rw [e]; simp)] <;> rfl
 refine QbC (fun m st => ∃ (k g : Nat) (out : List Pl.Ptr), k <= l.length /\ m = l.length - k /\ out.length = 4 * k /\ Hid (out = (l.take k).flatMap fun p => (Pl.Qak s p (n + 1 : Nat)).1) /\ Hid ((l.take k).all (fun p => (Pl.Qak s p (n + 1 : Nat)).2) = true) /\ Hid (∀ p ∈ out, Pl.ptrOk p = true /\ p.birth <= s.2.2.1) /\
  st = ⟨112, [(8, .osl 0 g 0 out.length), (54, .d (tPtrs l)), (55, .d (dI l.length)), (56, .d (dI k)), (7, .d (dI (n + 1 : Nat))), (0, .d (.pd (rSt s))), (3, .d (.pd (rTree t)))], [.arr g 5 54 (out.map rPtr)]⟩) [8, 54, 55, 56, 7, 0, 3] 1 l.length ⟨0, 0, [], by omega, rfl, by simp, Pm.hid rfl, Pm.hid rfl, Pm.hid (by simp), rfl⟩ (round := ?_)
 rintro m st ⟨k, g, out, hk, rfl, hol, hP, hA, hQ, rfl⟩
 (repeat (first | refine e1 (k := ?_) | refine Qbr ?_ | refine Qbt ?_ | refine Qbq ?_ | fail))
 cases q4 : decide ((k : Int) < (l.length : Int))
 ·(repeat' (first | refine e1 (k := ?_) | refine stepS (QbN rfl rfl (by omega)) (k := ?_) | refine Qb4 ?_ | refine QbF ?_ | refine Qbq ?_ | refine Qb1 (hf := ?_) | refine Qb3 ?_ | fail))
  refine Qgh 0 (h := ?_);have : k = l.length := by simp at q4; omega
  rw [this, List.take_of_length_le (Nat.le_refl _)] at hP hA;refine Qb8 n (by omega) ⟨n, out, by omega, rfl, ?_, hQ, Pm.hid (by rw [hL.out, Pl.lvl, if_pos hA.out, <- hP.out]), ?_⟩
  ·rw [hol, this, hll, show n0 - n = (n0 - (n + 1)) + 1 by omega, Nat.pow_succ]; omega
  ·simp [keepE, go_sem, List.take_of_length_le]
 have hk2 : k < l.length := by simp at q4; omega
 obtain ⟨x, hx⟩ : ∃ x, l[k]? = some x := ⟨_, List.getElem?_eq_getElem hk2⟩;have hr := QbB (f := rPtr) hx;have ho := hO.out x (List.mem_of_getElem? hx);have hc := bFanOf s hg x (fun _ => ho.1) (n + 1 : Nat);obtain ⟨f1, f2⟩ := QfT (level := (n + 1 : Nat)) ho.1 ho.2;have G : Hid ((Pl.Qak s x (n + 1 : Nat)).2 = true -> (Pl.Qak s x (n + 1 : Nat)).1.length = 4 /\ ∀ q ∈ (Pl.Qak s x (n + 1 : Nat)).1, Pl.ptrOk q = true /\ q.birth <= s.2.2.1) := Pm.hid fun e => Qgc e htx ho.2
 have F : Hid ((Pl.Qak s x (n + 1 : Nat)).2 = false -> res = ([], false)) := fun e => hv.out (by
  rw [List.all_eq_false]; exact ⟨x, List.mem_of_getElem? hx, by rw [e]; simp⟩)
 have T1 : Hid ((l.take (k + 1)).flatMap (fun p => (Pl.Qak s p (n + 1 : Nat)).1) = out ++ (Pl.Qak s x (n + 1 : Nat)).1) := Pm.hid (by rw [List.take_add_one, hx, hP.out]; simp);have T2 : Hid ((Pl.Qak s x (n + 1 : Nat)).2 = true -> (l.take (k + 1)).all (fun p => (Pl.Qak s p (n + 1 : Nat)).2) = true) := fun e => by rw [List.take_add_one, hx, List.all_append, hA.out]; simpa using e
 have f2' : Hid ((Pl.Qak s x (n + 1 : Nat)).2 = true -> Pl.Qbk s x (n + 1 : Nat) = Pl.Qak s x (n + 1 : Nat)) := Pm.hid f2;clear hx ho hA hP f2 hO hL hd hd2 hv;generalize Pl.Qbk s x (n + 1 : Nat) = fb at *
 obtain ⟨fl, ok⟩ := fb;simp only at f1;subst f1;generalize Pl.Qak s x (n + 1 : Nat) = bb at *
 obtain ⟨bl, ok⟩ := bb;simp only at f2' T2 G F T1
 have G' : Hid (ok = true -> fl.length = 4 /\ (∀ q ∈ fl, Pl.ptrOk q = true /\ q.birth <= s.2.2.1) /\ (l.take (k + 1)).flatMap (fun p => (Pl.Qak s p (n + 1 : Nat)).1) = out ++ fl) := Pm.hid fun e => by
  obtain rfl := (Prod.mk.inj (f2'.out e)).1;exact ⟨(G.out e).1, (G.out e).2, T1.out⟩
 clear G f2' T1
 (repeat' (first | refine e1 (k := ?_) | refine stepS (Qbs Tryz.call200 hc rfl) (k := ?_) | refine stepS (Qbw Ty.h rfl Ty.h rfl rfl rfl (by omega) hr) (k := ?_) | refine Qd5 Ty.h rfl Ty.h (hb := ?_) (hcell := ?_) (kk := ?_) | refine stepS (Qb6 rfl rfl (by omega)) (k := ?_) | refine QbA (kk := ?_) | refine Qbr ?_ | refine Qb4 ?_ | refine QbF ?_ | refine Qbt ?_ | refine Qbq ?_ | refine Qbz (ht := ?_) | refine Qb2 (ht := fun q => ?_) (hf := fun q => ?_) | refine Qby ?_ | refine Qbx ?_ | refine e2 (k := ?_) | fail))
 ·refine Qco 4 true 5 (h := ?_)
  refine Qb0 (hx := ?_);rw [F.out (by simpa using ‹(!ok) = true›)]; rfl
 ·exact Qcr fl
 ·have e : ok = true := by simpa using ‹(!ok) = false›
  have := (G'.out e).1;simp; omega
 ·have e : ok = true := by simpa using ‹(!ok) = false›
  obtain ⟨h4, h5, h6⟩ := G'.out e;refine Qb8 (l.length - (k + 1)) (by omega) ⟨k + 1, g + 1, out ++ fl, by omega, rfl, by simp; omega, Pm.hid h6.symm, Pm.hid (T2.out e), Pm.hid ?_, ?_⟩
  ·intro p hp
   rcases List.mem_append.1 hp with hp | hp
   ·exact hQ.out p hp
   ·exact h5 p hp
  ·simp [keepE, go_sem]
end Aw
end Go.Proofs.YtdjkdcokjoiokaaGreatDoor

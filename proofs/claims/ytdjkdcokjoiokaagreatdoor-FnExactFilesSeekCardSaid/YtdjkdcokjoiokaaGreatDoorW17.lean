/- Part 17 of seek_card: contracts, walks, laws; no condition beyond the statement's. -/
import Derived.Test.YtdjkdcokjoiokaaGreatDoorW16
set_option linter.all false
set_option maxRecDepth 100000
set_option maxHeartbeats 4000000
namespace Go.Proofs.YtdjkdcokjoiokaaGreatDoor
section
open Go.RowKit
namespace Aw
attribute [local irreducible] ASeq ADraw AWP Loc
theorem Qiu : Pl.ptrOk Pl.hole = true := by decide
theorem pg_ok (s : List UInt8) : Pl.ptrOk (Pl.pg s).1 = true := by
 unfold Pl.pg;split
 ·rename_i h; exact (Classical.choose_spec h).1
 ·exact Qiu
theorem fan_ok (s : List UInt8) : ∀ p ∈ (Pl.fan s).1, Pl.ptrOk p = true := by
 unfold Pl.fan;simp only;split
 ·intro p hp
  simp at hp;obtain ⟨a, _, rfl⟩ := hp;exact pg_ok a
 ·simp
theorem Qjv (s : Pm.Store) (q : Pl.Ptr) (n : Int) : ∀ p ∈ (Pl.Qan s q n).1, Pl.ptrOk p = true := by
 unfold Pl.Qan;split
 ·intro p hp; rw [(List.mem_replicate.1 hp).2]; exact Qiu
 ·split
  ·split
   ·simp
   ·exact fan_ok _
  ·simp
theorem QnG (s : Pm.Store) : ∀ (n : Nat) (l : List Pl.Ptr), (∀ p ∈ l, Pl.ptrOk p = true) -> ∀ p ∈ (Pl.lvl s n l).1, Pl.ptrOk p = true
 |0, l, h => by simpa [Pl.lvl] using h
 |n + 1, l, h => by
  unfold Pl.lvl;split
  ·refine QnG s n _ fun p hp => ?_
   obtain ⟨q, _, hq⟩ := List.mem_flatMap.1 hp;exact Qjv s q _ p hq
  ·simp
structure Pl.TGood (t : Pl.Tree) : Prop where
 lo : 0 <= t.depth
 hi : t.depth <= 2
 root : Pl.ptrOk t.root = true
 manyLo : 0 <= t.many
 manyHi : t.many <= 16
theorem Qfp (s : Pm.Store) {t : Pl.Tree} (h : Pl.ptrOk t.root = true) : ∀ p ∈ (Pl.Qal s t).1, Pl.ptrOk p = true := QnG s _ _ (by simpa using h)
theorem Qez (s : Pm.Store) {t : Pl.Tree} (h1 : t.depth <= 2) : (Pl.Qal s t).1.length <= 16 := by
 refine Nat.le_trans (Qll s _ _) ?_;simp only [List.length_singleton, Nat.one_mul];exact Nat.le_trans (Nat.pow_le_pow_right (by omega) (show t.depth.toNat <= 2 by omega)) (by decide)
noncomputable def Pl.wide (s : Pm.Store) (t : Pl.Tree) : List Pl.Ptr := (Pl.Qal s t).1 ++ List.replicate (16 - (Pl.Qal s t).1.length) Pl.hole
theorem QiI (s : Pm.Store) {t : Pl.Tree} (h1 : t.depth <= 2) : (Pl.wide s t).length = 16 := by
 have := Qez s h1;simp [Pl.wide]; omega
theorem wide_ok (s : Pm.Store) {t : Pl.Tree} (h : Pl.ptrOk t.root = true) : ∀ p ∈ Pl.wide s t, Pl.ptrOk p = true := by
 intro p hp;rcases List.mem_append.1 hp with hp | hp
 ·exact Qfp s h p hp
 ·rw [(List.mem_replicate.1 hp).2]; exact Qiu
theorem al8Wide (s : Pm.Store) (hg : Pl.Good s) (t : Pl.Tree) (ht : Pl.TGood t) : Pure Tryz.prog 185 [dSt s, dTree t] (tPtrs (Pl.wide s t)) := by
 (refine Qbk Tryz.func185 rfl Tryz.ntmps185 Tryz.results185 rfl ?_; simp only [parE, Nat.zero_add, Nat.reduceAdd])
 (refine Qbf (Qbc ?_); (repeat (first | refine e1 (k := ?_) | refine e2 (k := ?_) | fail)); refine Qbd ?_)
 refine Qbg 0 (h := ?_);refine Qbg 1 (h := ?_);have hc := QhM s hg t ht.lo ht.hi;have hl := Qez s ht.hi;have hw : Hid (Pl.wide s t = (Pl.Qal s t).1 ++ List.replicate (16 - (Pl.Qal s t).1.length) Pl.hole) := Pm.hid rfl;generalize Pl.Qal s t = lb at *
 obtain ⟨l, ok⟩ := lb;simp only at hl hw;have hh := Qj3 (16 - l.length) (by omega);have e : ((16 - l.length : Nat) : Int) = 16 - (l.length : Int) := by omega
 rw [e] at hh
 (repeat' (first | refine e1 (k := ?_) | refine stepS (Qbe Tryz.call211 hc rfl) (k := ?_) | refine stepS (Qbe Tryz.call196 hh rfl) (k := ?_) | refine QgJ Ty.h rfl Ty.h (hb := ?_) (hcell := ?_) (kk := ?_) | refine stepS (QbB rfl rfl (by omega)) (k := ?_) | refine stepS2 (Qbz Ty.h rfl Ty.h) (k := ?_) | refine Qbd ?_ | refine Qbf ?_ | refine Qbc ?_ | fail))
 ·exact Qd8 l
 ·simp; omega
 ·exact Qd8 _
 ·simp; omega
 (refine Qbg 2 (h := ?_); refine Qbn (hx := ?_))
 rw [hw.out]; simp [List.take_of_length_le]
noncomputable def Pl.Qaa (s : Pm.Store) (t : Pl.Tree) : List (List UInt8) := ((Pl.wide s t).take t.many.toNat).map fun p => (Pl.rd s.1 p).1
abbrev rSt (s : Pm.Store) : List D := [dStrs s.1, dInts s.2.1.1, dInts s.2.1.2, dI s.2.2.1, dPtrs s.2.2.2.1, dI s.2.2.2.2.1, dPtrs s.2.2.2.2.2.1, dB s.2.2.2.2.2.2]
abbrev rTree (t : Pl.Tree) : List D := [dI t.root.pat, dI t.root.birth, dI t.root.size, dI t.root.sum, dI t.root.level, dI t.depth, dI t.many]
theorem Qeu (s : Pm.Store) (hg : Pl.Good s) (t : Pl.Tree) (ht : Pl.TGood t) : Pure Tryz.prog 116 [dSt s, dTree t] (tStrs (Pl.Qaa s t)) := by
 (refine Qbk Tryz.func116 rfl Tryz.ntmps116 Tryz.results116 rfl ?_; simp only [parE, Nat.zero_add, Nat.reduceAdd])
 (refine Qbf (Qbc ?_); (repeat (first | refine e1 (k := ?_) | refine e2 (k := ?_) | fail)); refine Qbd ?_)
 refine Qbg 0 (h := ?_);refine Qbg 1 (h := ?_);have hc := al8Wide s hg t ht;have hl := QiI s ht.hi;have ho := wide_ok s ht.root;have h2 : Hid (Pl.Qaa s t = ((Pl.wide s t).take t.many.toNat).map fun p => (Pl.rd s.1 p).1) := Pm.hid rfl;have hm0 := ht.manyLo;have hm1 := ht.manyHi;generalize Pl.wide s t = l at *
 (repeat' (first | refine e1 (k := ?_) | refine stepS (Qbe Tryz.call185 hc rfl) (k := ?_) | refine stepS2 (Qbz Ty.h rfl Ty.h) (k := ?_) | refine Qbd ?_ | refine Qbf ?_ | refine Qbc ?_ | refine Qbi ?_ | fail))
 refine Qby (fun m st => ∃ (k g : Nat) (out : List (List UInt8)), k <= t.many.toNat /\ m = 16 - k /\ out.length = k /\ Hid (out = (l.take k).map fun p => (Pl.rd s.1 p).1) /\
  st = ⟨34, [(5, .osl 2 g 0 out.length), (6, .d (tPtrs l)), (7, .d (dI k)), (2, .d (.pd (rSt s))), (3, .d (.pd (rTree t)))], [.row 1 [], .row 1 [], .arr g 1 9 (out.map fun s => [dS s])]⟩) [5, 6, 7, 2, 3] 3 16 ⟨0, 0, [], by omega, rfl, rfl, Pm.hid rfl, rfl⟩ (round := ?_)
 rintro m st ⟨k, g, out, hk, rfl, hlen, hO, rfl⟩
 (repeat (first | refine e1 (k := ?_) | refine Qbd ?_ | refine Qbf ?_ | refine Qbc ?_ | fail))
 cases q4 : decide ((k : Int) < t.many)
 ·(repeat' (first | refine e1 (k := ?_) | refine Qbd ?_ | refine Qbf ?_ | refine Qbc ?_ | refine Qbm (hf := ?_) | refine Qbq ?_ | fail))
  (refine Qbg 2 (h := ?_); refine Qbn (hx := ?_))
  have : k = t.many.toNat := by simp at q4; omega
  rw [h2.out, <- this, <- hO.out]; simp [List.take_of_length_le]
 have hk2 : k < l.length := by simp at q4; omega
 obtain ⟨x, hx⟩ : ∃ x, l[k]? = some x := ⟨_, List.getElem?_eq_getElem hk2⟩;have hr := Qbx (f := rPtr) hx;have h7 := al7R s hg x fun _ => ho x (List.mem_of_getElem? hx)
 have T : Hid ((l.take (k + 1)).map (fun p => (Pl.rd s.1 p).1) = out ++ [(Pl.rd s.1 x).1]) := Pm.hid (by rw [List.take_add_one, hx, hO.out]; simp);clear hx
 (repeat' (first | refine f1 (k := ?_) | refine e1 (k := ?_) | refine stepD (Qbe Tryz.call186 h7 rfl) (k := ?_) | refine stepD (Qbh Ty.h rfl Ty.h rfl rfl rfl (by omega) hr) (k := ?_) | refine QbO Ty.h rfl Ty.h (hb := ?_) (kk := ?_) | refine stepS (Qbs rfl rfl (by omega)) (k := ?_) | refine stepS2 (Qbz Ty.h rfl Ty.h) (k := ?_) | refine Qbp ?_ | refine Qb0 ?_ | refine Qbr ?_ | refine Qbf ?_ | refine Qbc ?_ | refine Qb1 follows_mixed (by kernel_rfl) (by kernel_rfl) ?_ | refine Qbl (ht := ?_) | refine Qbj ?_ | refine Qbi ?_ | fail))
 ·simp; omega
 ·simp at q4
  refine Qbt (16 - (k + 1)) (by omega) ⟨k + 1, g + 1, out ++ [(Pl.rd s.1 x).1], by omega, rfl, by simp [hlen], Pm.hid T.out.symm, ?_⟩;simp [keepE, go_sem]
noncomputable def Pl.Qax (s : Pm.Store) (many : Int) (i : Nat) (p : Pl.Ptr) : Bool :=
 Pl.ptrHole p || ((Pl.rd s.1 p).2 && (p.level == 0) && decide (p.birth <= s.2.2.1) && decide ((i : Int) < many))
noncomputable def Pl.Qaf (s : Pm.Store) (t : Pl.Tree) : Bool :=
 Pl.inR t.many 0 16 && (t.depth == (if t.many <= 1 then 0 else if t.many <= 4 then 1 else 2)) && Pl.ptrOk t.root && (Pl.Qal s t).2 && ((Pl.Qal s t).1.zipIdx.all fun q => Pl.Qax s t.many q.2 q.1)
theorem QbL {s : Pm.Store} {t : Pl.Tree} (h : Pl.Qaf s t = true) : Pl.TGood t := by
 unfold Pl.Qaf at h;simp only [Bool.and_eq_true, beq_iff_eq] at h;obtain ⟨⟨⟨⟨h1, h2⟩, h3⟩, _⟩, _⟩ := h;simp [Pl.inR] at h1;refine ⟨?_, ?_, h3, h1.1, h1.2⟩ <;> rw [h2] <;> split <;> (try split) <;> decide
theorem QiH {α : Type} {f : α × Nat -> Bool} {l : List α} {k : Nat} {x : α} (hx : l[k]? = some x) : (l.take (k + 1)).zipIdx.all f = ((l.take k).zipIdx.all f && f (x, k)) := by
 have hk : k < l.length := (List.getElem?_eq_some_iff.1 hx).1;rw [List.take_add_one, hx, List.zipIdx_append, List.all_append];simp [Nat.min_eq_left (Nat.le_of_lt hk)]
theorem QgM {α : Type} {f : α × Nat -> Bool} {l : List α} {k : Nat} {x : α} (hx : l[k]? = some x) (h : f (x, k) = false) : l.zipIdx.all f = false := by
 rw [List.all_eq_false];exact ⟨(x, k), List.mk_mem_zipIdx_iff_getElem?.2 hx, by simp [h]⟩
theorem al8Ok (s : Pm.Store) (hg : Pl.Good s) (t : Pl.Tree) : Pure Tryz.prog 138 [dSt s, dTree t] (dB (Pl.Qaf s t)) := by
 have hd : Hid (Pl.Qaf s t = (Pl.inR t.many 0 16 && (t.depth == (if t.many <= 1 then 0 else if t.many <= 4 then 1 else 2)) && Pl.ptrOk t.root && (Pl.Qal s t).2 && ((Pl.Qal s t).1.zipIdx.all fun q => Pl.Qax s t.many q.2 q.1))) := Pm.hid rfl
 (refine Qbk Tryz.func138 rfl Tryz.ntmps138 Tryz.results138 rfl ?_; simp only [parE, Nat.zero_add, Nat.reduceAdd])
 (refine Qbf (Qbc ?_); (repeat (first | refine e1 (k := ?_) | refine e2 (k := ?_) | fail)); refine Qbd ?_)
 refine Qbg 0 (h := ?_);refine Qbg 1 (h := ?_);cases h1 : Pl.inR t.many 0 16
 ·(repeat' (first | refine f1 (k := ?_) | refine e1 (k := ?_) | refine f0 (k := ?_) | refine stepD (Qbe Tryz.call40 (h1 ▸ al6In t.many 0 16) rfl) (k := ?_) | refine Qbd ?_ | refine Qbr ?_ | refine Qbf ?_ | refine Qbc ?_ | refine Qb1 follows_mixed (by kernel_rfl) (by kernel_rfl) ?_ | refine Qbl (ht := ?_) | fail))
  refine Qbn (hx := ?_);rw [hd.out, h1]; rfl
 have c1 := h1 ▸ al6In t.many 0 16;have c2 := Qj4 t.many;have hdp : (if t.many <= 1 then 0 else if t.many <= 4 then 1 else 2 : Int) = 0 ∨ (if t.many <= 1 then 0 else if t.many <= 4 then 1 else 2 : Int) = 1 ∨ (if t.many <= 1 then 0 else if t.many <= 4 then 1 else 2 : Int) = 2 := by split <;> (try split) <;> simp
 generalize (if t.many <= 1 then 0 else if t.many <= 4 then 1 else 2 : Int) = dp at *
 cases h3 : Pl.ptrOk t.root
 ·(repeat' (first | refine f1 (k := ?_) | refine e1 (k := ?_) | refine f0 (k := ?_) | refine stepD (Qbe Tryz.call40 c1 rfl) (k := ?_) | refine stepD (Qbe Tryz.call210 c2 rfl) (k := ?_) | refine stepD (Qbe Tryz.call197 (h3 ▸ aPtrOk t.root) rfl) (k := ?_) | refine Qbd ?_ | refine Qbr ?_ | refine Qbf ?_ | refine Qbc ?_ | refine Qb1 follows_mixed (by kernel_rfl) (by kernel_rfl) ?_ | refine Qbl (ht := ?_) | ((fail_if_success show ADraw _ _ _ _ ⟨_, (_, .d (.v (.bool true))) :: _, _⟩); (fail_if_success show ADraw _ _ _ _ ⟨_, (_, .d (.v (.bool false))) :: _, _⟩); refine splitD (fun q => ?_) (fun q => ?_))))
  all_goals
   refine Qbn (hx := ?_);rw [hd.out, h3]; simp
 by_cases h2 : t.depth = dp
 rotate_left
 ·(repeat' (first | refine f1 (k := ?_) | refine e1 (k := ?_) | refine f0 (k := ?_) | refine stepD (Qbe Tryz.call40 c1 rfl) (k := ?_) | refine stepD (Qbe Tryz.call210 c2 rfl) (k := ?_) | refine stepD (Qbe Tryz.call197 (h3 ▸ aPtrOk t.root) rfl) (k := ?_) | refine Qbd ?_ | refine Qbr ?_ | refine Qbf ?_ | refine Qbc ?_ | refine Qb1 follows_mixed (by kernel_rfl) (by kernel_rfl) ?_ | refine Qbl (ht := ?_) | refine Qbm (hf := ?_) | refine Qbj ?_ | ((fail_if_success show ADraw _ _ _ _ ⟨_, (_, .d (.v (.bool true))) :: _, _⟩); (fail_if_success show ADraw _ _ _ _ ⟨_, (_, .d (.v (.bool false))) :: _, _⟩); refine splitD (fun q => ?_) (fun q => ?_))))
  ·refine Qbn (hx := ?_)
   rw [hd.out]; simp [h2]
  ·simp at q; exact absurd q h2
 have hdo : t.depth <= 2 /\ 0 <= t.depth := by omega
 have c3 := QhM s hg t hdo.2 hdo.1;have hll := Qez s hdo.1;have hlo := Qfp s h3;have hd2 : Hid (Pl.Qaf s t = ((Pl.Qal s t).2 && ((Pl.Qal s t).1.zipIdx.all fun q => Pl.Qax s t.many q.2 q.1))) := Pm.hid (by rw [hd.out, h1, h3, h2]; simp);clear hd;generalize Pl.Qal s t = lb at *
 obtain ⟨l, ok⟩ := lb;simp only at hll hlo hd2
 (repeat' (first | refine f1 (k := ?_) | refine e1 (k := ?_) | refine f0 (k := ?_) | refine stepD (Qbe Tryz.call40 c1 rfl) (k := ?_) | refine stepD (Qbe Tryz.call210 c2 rfl) (k := ?_) | refine stepD (Qbe Tryz.call197 (h3 ▸ aPtrOk t.root) rfl) (k := ?_) | refine stepS (Qbe Tryz.call211 c3 rfl) (k := ?_) | refine Qbd ?_ | refine Qbr ?_ | refine Qbf ?_ | refine Qbc ?_ | refine Qb1 follows_mixed (by kernel_rfl) (by kernel_rfl) ?_ | refine Qbl (ht := ?_) | refine Qbm (hf := ?_) | refine Qbo (ht := fun q => ?_) (hf := fun q => ?_) | refine Qbj ?_ | refine Qbi ?_ | ((fail_if_success show ADraw _ _ _ _ ⟨_, (_, .d (.v (.bool true))) :: _, _⟩); (fail_if_success show ADraw _ _ _ _ ⟨_, (_, .d (.v (.bool false))) :: _, _⟩); refine splitD (fun q => ?_) (fun q => ?_))))
 ·simp at q; exact absurd h2 q
 ·refine Qbn (hx := ?_)
  rw [hd2.out]; simp at q; simp [q]
 have hok : ok = true := by simpa using q
 subst hok
 refine Qby (fun m st => ∃ (k : Nat), k <= l.length /\ m = 16 - k /\ Hid ((l.take k).zipIdx.all (fun q => Pl.Qax s t.many q.2 q.1) = true) /\
  st = ⟨75, [(5, .d (tPtrs l)), (7, .d (dI k)), (2, .d (.pd (rSt s))), (3, .d (.pd (rTree t)))], []⟩) [5, 7, 2, 3] 0 16 ⟨0, by omega, rfl, Pm.hid rfl, rfl⟩ (round := ?_)
 rintro m st ⟨k, hk, rfl, hA, rfl⟩
 (repeat (first | refine e1 (k := ?_) | refine Qbd ?_ | refine Qbf ?_ | refine Qbc ?_ | fail))
 cases q4 : decide ((k : Int) < (l.length : Int))
 ·(repeat' (first | refine e1 (k := ?_) | refine Qbd ?_ | refine Qbf ?_ | refine Qbc ?_ | refine Qbm (hf := ?_) | refine Qbq ?_ | fail))
  refine Qbn (hx := ?_);have : k = l.length := by simp at q4; omega
  have h := hA.out;rw [this, List.take_of_length_le (Nat.le_refl _)] at h;rw [hd2.out, h]; rfl
 have hk2 : k < l.length := by simp at q4; omega
 obtain ⟨x, hx⟩ : ∃ x, l[k]? = some x := ⟨_, List.getElem?_eq_getElem hk2⟩;have hr := Qbx (f := rPtr) hx;have h7 := al7R s hg x fun _ => hlo x (List.mem_of_getElem? hx)
 have T : Hid (Pl.Qax s t.many k x = true -> (l.take (k + 1)).zipIdx.all (fun q => Pl.Qax s t.many q.2 q.1) = true) := fun e => by rw [QiH hx, hA.out, e]; rfl
 have F : Hid (Pl.Qax s t.many k x = false -> Pl.Qaf s t = false) := fun e => by rw [hd2.out, QgM hx e]; rfl
 have hlf : Hid (Pl.Qax s t.many k x = (Pl.ptrHole x || ((Pl.rd s.1 x).2 && (x.level == 0) && decide (x.birth <= s.2.2.1) && decide ((k : Int) < t.many)))) := Pm.hid rfl;clear hx;generalize Pl.rd s.1 x = rb at *
 obtain ⟨tx, fine⟩ := rb
 (repeat' (first | refine e1 (k := ?_) | refine e0 (k := ?_) | refine stepS (Qbe Tryz.call186 h7 rfl) (k := ?_) | refine stepS (Qbe Tryz.call123 (Qcc x) rfl) (k := ?_) | refine stepS (Qbh Ty.h rfl Ty.h rfl rfl rfl (by omega) hr) (k := ?_) | refine stepS (Qbs rfl rfl (by omega)) (k := ?_) | refine Qbu (kk := ?_) | refine Qbd ?_ | refine Qbp ?_ | refine Qbf ?_ | refine Qbc ?_ | refine Qbl (ht := ?_) | refine Qbo (ht := fun q => ?_) (hf := fun q => ?_) | refine Qbj ?_ | refine Qbi ?_ | refine e2 (k := ?_) | refine Qbq ?_ | ((fail_if_success show ASeq _ _ _ _ ⟨_, (_, .d (.v (.bool true))) :: _, _⟩); (fail_if_success show ASeq _ _ _ _ ⟨_, (_, .d (.v (.bool false))) :: _, _⟩); refine splitS (fun q => ?_) (fun q => ?_))))
 all_goals clear c1 c2 c3 h7 hr hlo hA hd2
 all_goals simp only at hlf
 all_goals first
  |(refine Qbt (16 - (k + 1)) (by omega) ⟨k + 1, by omega, rfl, Pm.hid (T.out ?_), rfl⟩; rw [hlf.out]; clear T F hlf; simp_all; try omega)
  |(refine Qbn (hx := ?_); rw [F.out ?_]; rw [hlf.out]; clear T F hlf; simp_all; try omega)
end Aw
end
section
open Go.RowKit
namespace Aw
theorem Qf7 {P : Program} {ops : Array Oper} {K : St -> Prop} {n : Nat} {env : List (Nat × AV)} {H H' : List Blk} {ty : TypeId} {pos : String} {after : Array Edge} {gd : Option (Nat × Bool)} {T T0 : TypeId} {F : TyF} {u v : Operand} {k g i j sz : Nat} {rows : List (List D)} {r : List D} {x : D}
 (hT : tyf P T = some F) (hu : aval env u = .ept k g i j) (hk : H[k]? = some (.arr g sz T0 rows)) (hr : rows[i]? = some r) (hv : aval env v = .d x) (hj : Nat.blt j r.length = true := by rfl) (hone : x.cell = true := by rfl) (hsz : F.size = 1 := by rfl)
 (hw : awanted ops env ⟨none, .store T u v, ty, pos, after, gd⟩ = some true := by rfl) (hg : gdOk ops n ⟨none, .store T u v, ty, pos, after, gd⟩ = true := by rfl)
 (hH : ∀ R : List Blk -> Prop, R H' -> R (H.set k (.arr g sz T0 (rows.set i (r.set j x)))) := by intro R hR; simp only [List.set_cons_zero, List.set_cons_succ, Nat.zero_add]; exact hR)
 (kk : K ⟨n, env, H'⟩) : AStep P ops ⟨none, .store T u v, ty, pos, after, gd⟩ K ⟨n, env, H⟩ :=
 ⟨_, _, QfY hT hu hk hr (by simpa using hj) hv hone hsz, hw, rfl, hg, by have := hH (fun r => r = H') rfl; rw [this]; exact kk⟩
theorem Qce {P : Program} {ops : Array Oper} {Q : Exit -> St -> Prop} {l : List Oper} {n : Nat} {env : List (Nat × AV)} {H H' : List Blk} {ty : TypeId} {pos : String} {after : Array Edge} {gd : Option (Nat × Bool)} {T T0 : TypeId} {F : TyF} {u v : Operand} {k g i j sz : Nat} {rows : List (List D)} {r : List D} {x : D}
 (hT : tyf P T = some F) (hu : aval env u = .ept k g i j) (hk : H[k]? = some (.arr g sz T0 rows)) (hr : rows[i]? = some r) (hv : aval env v = .d x) (hj : Nat.blt j r.length = true := by rfl) (hone : x.cell = true := by rfl) (hsz : F.size = 1 := by rfl)
 (hw : awanted ops env ⟨none, .store T u v, ty, pos, after, gd⟩ = some true := by rfl) (hg : gdOk ops n ⟨none, .store T u v, ty, pos, after, gd⟩ = true := by rfl)
 (hH : ∀ R : List Blk -> Prop, R H' -> R (H.set k (.arr g sz T0 (rows.set i (r.set j x)))) := by intro R hR; simp only [List.set_cons_zero, List.set_cons_succ, Nat.zero_add]; exact hR)
 (kk : ASeq P ops Q l ⟨n, env, H'⟩) : ASeq P ops Q (⟨none, .store T u v, ty, pos, after, gd⟩ :: l) ⟨n, env, H⟩ :=
 QgI (QfY hT hu hk hr (by simpa using hj) hv hone hsz) hw hg (by have := hH (fun r => r = H') rfl; rw [this]; exact kk)
attribute [local irreducible] ASeq ADraw AWP Loc AStep Fg.PlanF Fg.Flts
def Pl.QaB (refs last : List Int) (txg : Int) (i : Nat) (r : List UInt8) : Bool := decide (r.length <= 128) && ((r == []) == (refs.getD i 0 == 0)) && decide (last.getD i 0 <= txg)
def Pl.QaN (s : Pm.Store) : Bool := (List.range 64).all fun i => Pl.QaB s.2.1.1 s.2.1.2 s.2.2.1 i (s.1.getD i [])
def Pl.QaK (refs : List Int) : List (Pl.Ptr × Int) -> List Int -> Bool
 |[], _ => true
 |(p, top) :: r, many => Pl.ptrOk p && !Pl.ptrHole p && decide (p.birth <= top) && decide (many.getD p.pat.toNat 0 + 1 <= refs.getD p.pat.toNat 0) && Pl.QaK refs r (many.set p.pat.toNat (many.getD p.pat.toNat 0 + 1))
def Pl.owed (s : Pm.Store) : List (Pl.Ptr × Int) := s.2.2.2.1.map (fun p => (p, s.2.2.1 - 1)) ++ s.2.2.2.2.2.1.map (fun p => (p, s.2.2.2.2.1))
def Pl.Qah (s : Pm.Store) : Bool := (s.1.length == 64) && Pl.spaceOk s.2.1 && Pl.inR s.2.2.1 1 900 && Pl.inR s.2.2.2.2.1 0 (s.2.2.1 - 1) && Pl.QaN s && Pl.QaK s.2.1.1 (Pl.owed s) (List.replicate 64 0)
theorem QeQ {α : Type} {l : List α} {j : Nat} {x : α} (h : l[j]? = some x) : l.drop j = x :: l.drop (j + 1) := by
 obtain ⟨h1, rfl⟩ := List.getElem?_eq_some_iff.1 h;exact List.drop_eq_getElem_cons h1
theorem Qn5 (s : Pm.Store) (b1 : s.2.1.1.length <= Pm.big) (b2 : s.2.1.2.length <= Pm.big) (b3 : s.2.2.2.1.length <= 1000000000000) (b4 : s.2.2.2.2.2.1.length <= 1000000000000) :
 Pure Tryz.prog 127 [dSt s] (dB (Pl.Qah s)) := by
 have hd : Hid (Pl.Qah s = ((s.1.length == 64) && Pl.spaceOk s.2.1 && Pl.inR s.2.2.1 1 900 && Pl.inR s.2.2.2.2.1 0 (s.2.2.1 - 1) && Pl.QaN s && Pl.QaK s.2.1.1 (Pl.owed s) (List.replicate 64 0))) := Pm.hid rfl;have cS := Qn6 s.2.1 b1 b2
 (refine Qbk Tryz.func127 rfl Tryz.ntmps127 Tryz.results127 rfl ?_; simp only [parE, Nat.zero_add, Nat.reduceAdd])
 (refine Qbf (Qbc ?_); (repeat (first | refine e1 (k := ?_) | refine e2 (k := ?_) | fail)); refine Qbd ?_)
 refine Qbg 0 (h := ?_);cases hT : Pl.inR s.2.2.1 1 900
 ·(repeat' (first | refine e1 (k := ?_) | refine e0 (k := ?_) | refine stepS (Qbe Tryz.call201 cS rfl) (k := ?_) | refine stepS (Qbe Tryz.call40 (hT ▸ al6In s.2.2.1 1 900) rfl) (k := ?_) | refine Qbd ?_ | refine Qbf ?_ | refine Qbc ?_ | refine Qbl (ht := ?_) | ((fail_if_success show ASeq _ _ _ _ ⟨_, (_, .d (.v (.bool true))) :: _, _⟩); (fail_if_success show ASeq _ _ _ _ ⟨_, (_, .d (.v (.bool false))) :: _, _⟩); refine splitS (fun q => ?_) (fun q => ?_))))
  all_goals
   refine Qbn (hx := ?_);rw [hd.out, hT]; simp
 have hTb : 1 <= s.2.2.1 /\ s.2.2.1 <= 900 := by simpa [Pl.inR] using hT
 cases hK : Pl.inR s.2.2.2.2.1 0 (s.2.2.1 - 1)
 ·(repeat' (first | refine e1 (k := ?_) | refine e0 (k := ?_) | refine stepS (Qbe Tryz.call201 cS rfl) (k := ?_) | refine stepS (Qbe Tryz.call40 (hT ▸ al6In s.2.2.1 1 900) rfl) (k := ?_) | refine stepS (Qbe Tryz.call40 (hK ▸ al6In _ _ _) rfl) (k := ?_) | refine stepS (QbB rfl rfl (by omega)) (k := ?_) | refine Qbd ?_ | refine Qbf ?_ | refine Qbc ?_ | refine Qbl (ht := ?_) | ((fail_if_success show ASeq _ _ _ _ ⟨_, (_, .d (.v (.bool true))) :: _, _⟩); (fail_if_success show ASeq _ _ _ _ ⟨_, (_, .d (.v (.bool false))) :: _, _⟩); refine splitS (fun q => ?_) (fun q => ?_))))
  all_goals
   refine Qbn (hx := ?_);rw [hd.out, hK]; simp
 (repeat' (first | refine e1 (k := ?_) | refine e0 (k := ?_) | refine stepS (Qbe Tryz.call201 cS rfl) (k := ?_) | refine stepS (Qbe Tryz.call40 (hT ▸ al6In s.2.2.1 1 900) rfl) (k := ?_) | refine stepS (Qbe Tryz.call40 (hK ▸ al6In _ _ _) rfl) (k := ?_) | refine stepS (QbB rfl rfl (by omega)) (k := ?_) | refine Qbd ?_ | refine Qbf ?_ | refine Qbc ?_ | refine Qbl (ht := ?_) | refine Qbm (hf := ?_) | refine Qbj ?_ | refine Qbi ?_ | ((fail_if_success show ASeq _ _ _ _ ⟨_, (_, .d (.v (.bool true))) :: _, _⟩); (fail_if_success show ASeq _ _ _ _ ⟨_, (_, .d (.v (.bool false))) :: _, _⟩); refine splitS (fun q => ?_) (fun q => ?_))))
 ·refine Qbn (hx := ?_)
  rw [hd.out, (by simp at q ⊢; omega : (s.1.length == 64) = false)]; rfl
 ·refine Qbn (hx := ?_)
  rw [hd.out, (by simpa using q : Pl.spaceOk s.2.1 = false)]; simp
 rename_i q1;have hlen : s.1.length = 64 := by simp at q1; omega
 have hsp : Pl.spaceOk s.2.1 = true := by simpa using q
 have hd2 : Hid (Pl.Qah s = (Pl.QaN s && Pl.QaK s.2.1.1 (Pl.owed s) (List.replicate 64 0))) := Pm.hid (by rw [hd.out, hT, hK, hsp, hlen]; rfl);clear hd cS;have hsp1 : s.2.1.1.length = 64 /\ s.2.1.2.length = 64 := by simp [Pl.spaceOk] at hsp; exact hsp.1
 have hrow : Hid (Pl.QaN s = (List.range 64).all fun i => Pl.QaB s.2.1.1 s.2.1.2 s.2.2.1 i (s.1.getD i [])) := Pm.hid rfl;refine Qby (fun m st => ∃ k : Nat, k <= 64 /\ m = 64 - k /\ Hid ((List.range k).all (fun i => Pl.QaB s.2.1.1 s.2.1.2 s.2.2.1 i (s.1.getD i [])) = true) /\ st = ⟨144, [(3, .d (dI k)), (1, .d (.pd (rSt s)))], []⟩) [3, 1] 0 64 ⟨0, by omega, rfl, Pm.hid rfl, rfl⟩ (round := ?_);rintro m st ⟨k, hk, rfl, hA, rfl⟩
 (repeat (first | refine e1 (k := ?_) | refine Qbd ?_ | refine Qbf ?_ | refine Qbc ?_ | fail))
 cases q3 : decide ((k : Int) < 64);rotate_left
 ·have hk2 : k < 64 := by simp at q3; omega
  obtain ⟨x, hx⟩ : ∃ x, s.1[k]? = some x := ⟨_, List.getElem?_eq_getElem (by omega)⟩;obtain ⟨a, ha⟩ : ∃ x, s.2.1.1[k]? = some x := ⟨_, List.getElem?_eq_getElem (by omega)⟩;obtain ⟨b, hb⟩ : ∃ x, s.2.1.2[k]? = some x := ⟨_, List.getElem?_eq_getElem (by omega)⟩;have hr := Qbx (f := fun s => [dS s]) hx;have hra := Qbx (f := fun n => [dI n]) ha;have hrb := Qbx (f := fun n => [dI n]) hb
  have e : Hid (Pl.QaB s.2.1.1 s.2.1.2 s.2.2.1 k (s.1.getD k []) = (decide (x.length <= 128) && ((x == []) == (a == 0)) && decide (b <= s.2.2.1))) := Pm.hid (by
   unfold Pl.QaB; simp only [List.getD_eq_getElem?_getD, hx, ha, hb, Option.getD_some])
  have T : Hid (Pl.QaB s.2.1.1 s.2.1.2 s.2.2.1 k (s.1.getD k []) = true -> (List.range (k + 1)).all (fun i => Pl.QaB s.2.1.1 s.2.1.2 s.2.2.1 i (s.1.getD i [])) = true) := fun h => Pl.Qb8 (p := fun i => Pl.QaB s.2.1.1 s.2.1.2 s.2.2.1 i (s.1.getD i [])) hA.out h
  have F : Hid (Pl.QaB s.2.1.1 s.2.1.2 s.2.2.1 k (s.1.getD k []) = false -> Pl.Qah s = false) := fun h => by
   rw [hd2.out, hrow.out, Pl.Qb5 (p := fun i => Pl.QaB s.2.1.1 s.2.1.2 s.2.2.1 i (s.1.getD i [])) hk2 h]; rfl
  rw [e.out] at T F;clear hx ha hb e hsp hd2 hrow hA
  (repeat' (first | refine f1 (k := ?_) | refine e1 (k := ?_) | refine f0 (k := ?_) | refine stepD (Qbh Ty.h rfl Ty.h rfl rfl rfl (by omega) hr) (k := ?_) | refine stepD (Qbh Ty.h rfl Ty.h rfl rfl rfl (by omega) hra) (k := ?_) | refine stepD (Qbh Ty.h rfl Ty.h rfl rfl rfl (by omega) hrb) (k := ?_) | refine stepS (Qbs rfl rfl (by omega)) (k := ?_) | refine stepD (Qcj rfl rfl) (k := ?_) | refine stepD (Qcq TyBool.h rfl rfl) (k := ?_) | refine Qbd ?_ | refine Qbp ?_ | refine Qbr ?_ | refine Qbf ?_ | refine Qbc ?_ | refine Qb1 follows_mixed (by kernel_rfl) (by kernel_rfl) ?_ | refine Qbl (ht := ?_) | refine Qbo (ht := fun q => ?_) (hf := fun q => ?_) | refine Qbj ?_ | refine Qbi ?_ | ((fail_if_success show ADraw _ _ _ _ ⟨_, (_, .d (.v (.bool true))) :: _, _⟩); (fail_if_success show ADraw _ _ _ _ ⟨_, (_, .d (.v (.bool false))) :: _, _⟩); refine splitD (fun q => ?_) (fun q => ?_))))
  all_goals clear hr hra hrb
  all_goals simp only [decide_eq_true_eq, decide_eq_false_iff_not] at *
  all_goals first
   |(refine Qbt (64 - (k + 1)) (by omega) ⟨k + 1, by omega, rfl, Pm.hid (T.out ?_), rfl⟩; clear T F; generalize (x == []) = u at *; generalize (a == 0) = v at *; cases u <;> cases v <;> simp at * <;> omega)
   |(refine Qbn (hx := ?_); rw [F.out ?_]; clear T F; generalize (x == []) = u at *; generalize (a == 0) = v at *; cases u <;> cases v <;> simp at * <;> omega)
 have hk3 : k = 64 := by simp at q3; omega
 have hd3 : Hid (Pl.Qah s = Pl.QaK s.2.1.1 (Pl.owed s) (List.replicate 64 0)) := Pm.hid (by
  have h := hA.out;rw [hk3] at h
  rw [hd2.out, hrow.out, h]; rfl)
 have how : Hid (Pl.owed s = s.2.2.2.1.map (fun p => (p, s.2.2.1 - 1)) ++ s.2.2.2.2.2.1.map (fun p => (p, s.2.2.2.2.1))) := Pm.hid rfl
 have hbig : Hid (∀ (i : Nat) (n : Int), s.2.1.1[i]? = some n -> n <= 900) := fun i n h => by
  have hi : i < 64 := by have := (List.getElem?_eq_some_iff.1 h).1; omega
  have h2 : Pl.QbQ s.2.1.1 s.2.1.2 i = true := by
   simp [Pl.spaceOk] at hsp; exact hsp.2 i hi
  simp [Pl.QbQ, Pl.QbZ, Pl.inR, List.getD_eq_getElem?_getD, h] at h2;omega
 clear hA hd2 hrow hsp;have hol : (Pl.owed s).length = s.2.2.2.1.length + s.2.2.2.2.2.1.length := by rw [how.out]; simp
 (repeat' (first | refine e1 (k := ?_) | refine stepS2 (Qlq Ty.h rfl Ty.h rfl rfl) (k := ?_) | refine Qbd ?_ | refine Qbf ?_ | refine Qbc ?_ | refine Qbm (hf := ?_) | refine Qbi ?_ | refine Qbq ?_ | fail))
 refine Qby (fun m st => ∃ (k : Nat) (many : List Int), k <= (Pl.owed s).length /\ m = (Pl.owed s).length - k /\ many.length = 64 /\ Hid (∀ n ∈ many, 0 <= n /\ n <= 900) /\ Hid (Pl.Qah s = Pl.QaK s.2.1.1 ((Pl.owed s).drop k) many) /\
  st = ⟨144, [(5, .d (dI k)), (4, .osl 0 0 0 64), (1, .d (.pd (rSt s)))], [.arr 0 1 3 (many.map fun n => [dI n])]⟩) [5, 4, 1] 1 (Pl.owed s).length ⟨0, List.replicate 64 0, by omega, rfl, by simp, Pm.hid (by intro n hn; rw [(List.mem_replicate.1 hn).2]; decide), Pm.hid hd3.out, rfl⟩ (round := ?_)
 clear hd3 hk3 q3;rintro m st ⟨j, many, hj, rfl, hml, hmb, hD, rfl⟩
 (repeat' (first | refine e1 (k := ?_) | refine stepS (Qbs rfl rfl (by omega)) (k := ?_) | refine stepS (QbB rfl rfl (by omega)) (k := ?_) | refine Qbu (kk := ?_) | refine Qbd ?_ | refine Qbf ?_ | refine Qbc ?_ | refine Qbo (ht := fun q => ?_) (hf := fun q => ?_) | refine Qbj ?_ | refine Qbi ?_ | refine e2 (k := ?_) | refine Qbq ?_ | fail))
 rotate_right
 ·refine Qbn (hx := ?_)
  have : j = (Pl.owed s).length := by simp at q; omega
  rw [hD.out, this, List.drop_length]; rfl
 ·have hj2 : j < s.2.2.2.1.length := by simp at q; omega
  obtain ⟨x, hx⟩ : ∃ x, s.2.2.2.1[j]? = some x := ⟨_, List.getElem?_eq_getElem hj2⟩;have hr := Qbx (f := rPtr) hx;have hit : (Pl.owed s)[j]? = some (x, s.2.2.1 - 1) := by rw [how.out, List.getElem?_append_left (by simpa using hj2), List.getElem?_map, hx]; rfl
  have hjl := (List.getElem?_eq_some_iff.1 hit).1;have hst := hD.out;rw [QeQ hit, Pl.QaK] at hst;have hD2 := Pm.hid hst;clear hst hD hit how hx;cases p1 : Pl.ptrOk x
  ·(repeat' (first | refine e1 (k := ?_) | refine e0 (k := ?_) | refine stepS (Qbe Tryz.call197 (p1 ▸ aPtrOk x) rfl) (k := ?_) | refine stepS (Qbh Ty.h rfl Ty.h rfl rfl rfl (by omega) hr) (k := ?_) | refine Qbu (kk := ?_) | refine Qbd ?_ | refine Qbf ?_ | refine Qbc ?_ | refine Qbl (ht := ?_) | fail))
   refine Qbn (hx := ?_);rw [hD2.out, p1]; rfl
  cases p2 : Pl.ptrHole x;rotate_left
  ·(repeat' (first | refine e1 (k := ?_) | refine e0 (k := ?_) | refine stepS (Qbe Tryz.call197 (p1 ▸ aPtrOk x) rfl) (k := ?_) | refine stepS (Qbe Tryz.call123 (p2 ▸ Qcc x) rfl) (k := ?_) | refine stepS (Qbh Ty.h rfl Ty.h rfl rfl rfl (by omega) hr) (k := ?_) | refine Qbu (kk := ?_) | refine Qbd ?_ | refine Qbf ?_ | refine Qbc ?_ | refine Qbl (ht := ?_) | fail))
   refine Qbn (hx := ?_);rw [hD2.out, p1, p2]; rfl
  have hat := Qdi p1 p2;obtain ⟨n, hn⟩ : ∃ n, many[x.pat.toNat]? = some n := ⟨_, List.getElem?_eq_getElem (by omega)⟩;obtain ⟨a, ha⟩ : ∃ n, s.2.1.1[x.pat.toNat]? = some n := ⟨_, List.getElem?_eq_getElem (by omega)⟩;have hnb := hmb.out n (List.mem_of_getElem? hn);have hab := hbig.out _ a ha;have hrm : (many.map fun n => [dI n])[0 + x.pat.toNat]? = some [dI n] := by rw [Nat.zero_add, List.getElem?_map, hn]; rfl
  have hrm2 : ((many.map fun n => [dI n]).set x.pat.toNat [dI (n + 1)])[0 + x.pat.toNat]? = some [dI (n + 1)] := by rw [Nat.zero_add]; exact List.getElem?_set_self (by simp; omega)
  have hra : (s.2.1.1.map fun n => [dI n])[x.pat.toNat]? = some [dI a] := by rw [List.getElem?_map, ha]; rfl
  have hst := hD2.out;simp only [List.getD_eq_getElem?_getD, hn, ha, Option.getD_some, p1, p2, Bool.not_false, Bool.true_and, Bool.and_true] at hst;have hD3 := Pm.hid hst;clear hst hD2 ha hn hbig
  (repeat' (first | refine f1 (k := ?_) | refine e1 (k := ?_) | refine stepS (Qbe Tryz.call197 (p1 ▸ aPtrOk x) rfl) (k := ?_) | refine stepS (Qbe Tryz.call123 (p2 ▸ Qcc x) rfl) (k := ?_) | refine stepS (Qbh Ty.h rfl Ty.h rfl rfl rfl (by omega) hr) (k := ?_) | refine (Fg.awp_drawF (id := 20) [] [10] follows_mixed (by kernel_rfl) (by kernel_rfl) (by kernel_rfl) ?_) | refine (Fg.aw_fltN ?_) | refine (Fg.aw_planFC (by rfl) (by kernel_rfl) rfl ?_) | refine (Fg.aw_planFN ?_) | refine stepD (Qb4 Ty.h rfl Ty.h rfl rfl rfl rfl hat.1 hat.2) (k := ?_) | refine stepD (QbK Ty.h rfl rfl hrm rfl) (k := ?_) | refine stepD (QbK (r := [dI (n + 1)]) Ty.h rfl rfl hrm2 rfl) (k := ?_) | refine Qf7 Ty.h rfl rfl hrm rfl (kk := ?_) | refine stepD (Qbh Ty.h rfl Ty.h rfl rfl rfl hat.1 hra) (k := ?_) | refine stepD (Qbs rfl rfl (by omega)) (k := ?_) | refine stepS (Qbs rfl rfl (by omega)) (k := ?_) | refine Qbu (kk := ?_) | refine Qbd ?_ | refine Qbp ?_ | refine Qbr ?_ | refine QbE ?_ | refine Qbf ?_ | refine Qbc ?_ | refine Qb1 follows_mixed (by kernel_rfl) (by kernel_rfl) ?_ | refine Qbo (ht := fun q => ?_) (hf := fun q => ?_) | refine Qbj ?_ | fail))
  all_goals clear hT hTb hK q1 hlen hsp1 hk hol hr hra hrm hrm2
  all_goals simp only [decide_eq_true_eq, decide_eq_false_iff_not] at *
  ·refine Qbn (hx := ?_)
   rw [hD3.out, decide_eq_false (by omega)]; rfl
  ·refine Qbn (hx := ?_)
   rw [hD3.out, decide_eq_false (p := n + 1 <= a) (by omega)]; simp
  ·refine Qbt ((Pl.owed s).length - (j + 1)) (by omega) ⟨j + 1, many.set x.pat.toNat (n + 1), by omega, rfl, by simp [hml], Pm.hid fun y hy => ?_, Pm.hid (by rw [hD3.out, decide_eq_true (by omega), decide_eq_true (by omega)]; rfl), ?_⟩
   ·rcases List.mem_or_eq_of_mem_set hy with hy | rfl
    ·exact hmb.out y hy
    ·omega
   ·simp [keepE, go_sem, List.map_set]
 ·have hj3 : s.2.2.2.1.length <= j /\ j - s.2.2.2.1.length < s.2.2.2.2.2.1.length := by simp at q; rename_i qq; simp at qq; omega
  obtain ⟨x, hx⟩ : ∃ x, s.2.2.2.2.2.1[j - s.2.2.2.1.length]? = some x := ⟨_, List.getElem?_eq_getElem hj3.2⟩
  have hr : (s.2.2.2.2.2.1.map rPtr)[((j : Int) - (s.2.2.2.1.length : Int)).toNat]? = some (rPtr x) := by
   rw [show ((j : Int) - (s.2.2.2.1.length : Int)).toNat = j - s.2.2.2.1.length by omega, List.getElem?_map, hx]; rfl
  have hit : (Pl.owed s)[j]? = some (x, s.2.2.2.2.1) := by rw [how.out, List.getElem?_append_right (by simpa using hj3.1), List.length_map, List.getElem?_map, hx]; rfl
  have hjl := (List.getElem?_eq_some_iff.1 hit).1;have hst := hD.out;rw [QeQ hit, Pl.QaK] at hst;have hD2 := Pm.hid hst;clear hst hD hit how hx;cases p1 : Pl.ptrOk x
  ·(repeat' (first | refine e1 (k := ?_) | refine e0 (k := ?_) | refine stepS (Qbe Tryz.call197 (p1 ▸ aPtrOk x) rfl) (k := ?_) | refine stepS (Qbh Ty.h rfl Ty.h rfl rfl rfl (by omega) hr) (k := ?_) | refine Qbu (kk := ?_) | refine Qbd ?_ | refine Qbf ?_ | refine Qbc ?_ | refine Qbl (ht := ?_) | fail))
   refine Qbn (hx := ?_);rw [hD2.out, p1]; rfl
  cases p2 : Pl.ptrHole x;rotate_left
  ·(repeat' (first | refine e1 (k := ?_) | refine e0 (k := ?_) | refine stepS (Qbe Tryz.call197 (p1 ▸ aPtrOk x) rfl) (k := ?_) | refine stepS (Qbe Tryz.call123 (p2 ▸ Qcc x) rfl) (k := ?_) | refine stepS (Qbh Ty.h rfl Ty.h rfl rfl rfl (by omega) hr) (k := ?_) | refine Qbu (kk := ?_) | refine Qbd ?_ | refine Qbf ?_ | refine Qbc ?_ | refine Qbl (ht := ?_) | fail))
   refine Qbn (hx := ?_);rw [hD2.out, p1, p2]; rfl
  have hat := Qdi p1 p2;obtain ⟨n, hn⟩ : ∃ n, many[x.pat.toNat]? = some n := ⟨_, List.getElem?_eq_getElem (by omega)⟩;obtain ⟨a, ha⟩ : ∃ n, s.2.1.1[x.pat.toNat]? = some n := ⟨_, List.getElem?_eq_getElem (by omega)⟩;have hnb := hmb.out n (List.mem_of_getElem? hn);have hab := hbig.out _ a ha;have hrm : (many.map fun n => [dI n])[0 + x.pat.toNat]? = some [dI n] := by rw [Nat.zero_add, List.getElem?_map, hn]; rfl
  have hrm2 : ((many.map fun n => [dI n]).set x.pat.toNat [dI (n + 1)])[0 + x.pat.toNat]? = some [dI (n + 1)] := by rw [Nat.zero_add]; exact List.getElem?_set_self (by simp; omega)
  have hra : (s.2.1.1.map fun n => [dI n])[x.pat.toNat]? = some [dI a] := by rw [List.getElem?_map, ha]; rfl
  have hst := hD2.out;simp only [List.getD_eq_getElem?_getD, hn, ha, Option.getD_some, p1, p2, Bool.not_false, Bool.true_and, Bool.and_true] at hst;have hD3 := Pm.hid hst;clear hst hD2 ha hn hbig
  (repeat' (first | refine f1 (k := ?_) | refine e1 (k := ?_) | refine stepS (Qbe Tryz.call197 (p1 ▸ aPtrOk x) rfl) (k := ?_) | refine stepS (Qbe Tryz.call123 (p2 ▸ Qcc x) rfl) (k := ?_) | refine stepS (Qbh Ty.h rfl Ty.h rfl rfl rfl (by omega) hr) (k := ?_) | refine (Fg.awp_drawF (id := 20) [] [10] follows_mixed (by kernel_rfl) (by kernel_rfl) (by kernel_rfl) ?_) | refine (Fg.aw_fltN ?_) | refine (Fg.aw_planFC (by rfl) (by kernel_rfl) rfl ?_) | refine (Fg.aw_planFN ?_) | refine stepD (Qb4 Ty.h rfl Ty.h rfl rfl rfl rfl hat.1 hat.2) (k := ?_) | refine stepD (QbK Ty.h rfl rfl hrm rfl) (k := ?_) | refine stepD (QbK (r := [dI (n + 1)]) Ty.h rfl rfl hrm2 rfl) (k := ?_) | refine Qf7 Ty.h rfl rfl hrm rfl (kk := ?_) | refine stepD (Qbh Ty.h rfl Ty.h rfl rfl rfl hat.1 hra) (k := ?_) | refine stepD (Qbs rfl rfl (by omega)) (k := ?_) | refine stepS (Qbs rfl rfl (by omega)) (k := ?_) | refine Qbu (kk := ?_) | refine Qbd ?_ | refine Qbp ?_ | refine Qbr ?_ | refine QbE ?_ | refine Qbf ?_ | refine Qbc ?_ | refine Qb1 follows_mixed (by kernel_rfl) (by kernel_rfl) ?_ | refine Qbo (ht := fun q => ?_) (hf := fun q => ?_) | refine Qbj ?_ | fail))
  all_goals clear hT hTb hK q1 hlen hsp1 hk hol hr hra hrm hrm2
  all_goals simp only [decide_eq_true_eq, decide_eq_false_iff_not] at *
  ·refine Qbn (hx := ?_)
   rw [hD3.out, decide_eq_false (by omega)]; rfl
  ·refine Qbn (hx := ?_)
   rw [hD3.out, decide_eq_false (p := n + 1 <= a) (by omega)]; simp
  ·refine Qbt ((Pl.owed s).length - (j + 1)) (by omega) ⟨j + 1, many.set x.pat.toNat (n + 1), by omega, rfl, by simp [hml], Pm.hid fun y hy => ?_, Pm.hid (by rw [hD3.out, decide_eq_true (by omega), decide_eq_true (by omega)]; rfl), ?_⟩
   ·rcases List.mem_or_eq_of_mem_set hy with hy | rfl
    ·exact hmb.out y hy
    ·omega
   ·simp [keepE, go_sem, List.map_set]
end Aw
end
section
open Go.RowKit
namespace Aw
attribute [local irreducible] ASeq ADraw AWP Loc
def Pl.each (kind : Int) : Int := if kind = 1 then 12 else if kind = 2 then 128 else 0
theorem Qn0 (kind : Int) : Pure Tryz.prog 307 [dI kind] (dI (Pl.each kind)) := by
 (refine Qbk Tryz.func307 rfl Tryz.ntmps307 Tryz.results307 rfl ?_; simp only [parE, Nat.zero_add, Nat.reduceAdd])
 (repeat' (first | refine e1 (k := ?_) | refine Qbd ?_ | refine Qbf ?_ | refine Qbc ?_ | refine Qbo (ht := fun q => ?_) (hf := fun q => ?_) | refine Qbj ?_ | refine Qbi ?_ | fail))
 all_goals exact Qbn (hx := congrArg dI (by simp_all [Pl.each]))
theorem Qk2 (size each : Int) (h0 : 0 <= size) (h1 : size <= 1000000000000) (h2 : 0 < each) (h3 : each <= 1000000000000) : Pure Tryz.prog 308 [dI size, dI each] (dI ((size + each - 1) / each)) := by
 (refine Qbk Tryz.func308 rfl Tryz.ntmps308 Tryz.results308 rfl ?_; simp only [parE, Nat.zero_add, Nat.reduceAdd])
 (repeat' (first | refine e1 (k := ?_) | refine stepS (Qij rfl rfl (by omega) (by omega)) (k := ?_) | refine stepS (Qbs rfl rfl (by omega)) (k := ?_) | refine stepS (QbB rfl rfl (by omega)) (k := ?_) | refine Qbd ?_ | refine Qbf ?_ | refine Qbc ?_ | fail))
 exact Qbn (hx := rfl)
def Pl.Qau (kind size : Int) : Int := if Pl.each kind = 0 then -1 else if Pl.inR size 0 (16 * Pl.each kind) then (size + Pl.each kind - 1) / Pl.each kind else -1
theorem QfZ (kind : Int) : Pl.each kind = 0 ∨ Pl.each kind = 12 ∨ Pl.each kind = 128 := by unfold Pl.each; split <;> (try split) <;> simp
theorem QiF (kind size : Int) : Pure Tryz.prog 259 [dI kind, dI size] (dI (Pl.Qau kind size)) := by
 have hd : Hid (Pl.Qau kind size = if Pl.each kind = 0 then -1 else if Pl.inR size 0 (16 * Pl.each kind) then (size + Pl.each kind - 1) / Pl.each kind else -1) := Pm.hid rfl;have c := Qn0 kind;have he := QfZ kind;generalize Pl.each kind = e at *
 (refine Qbk Tryz.func259 rfl Tryz.ntmps259 Tryz.results259 rfl ?_; simp only [parE, Nat.zero_add, Nat.reduceAdd])
 by_cases h0 : e = 0
 ·subst h0
  (repeat' (first | refine e1 (k := ?_) | refine e0 (k := ?_) | refine stepS (Qbe Tryz.call307 c rfl) (k := ?_) | refine Qbd ?_ | refine Qbf ?_ | refine Qbc ?_ | refine Qbl (ht := ?_) | fail))
  refine Qbn (hx := ?_);rw [hd.out]; simp
 have heb : e = 12 ∨ e = 128 := by omega
 cases hR : Pl.inR size 0 (16 * e)
 ·(repeat' (first | refine e1 (k := ?_) | refine e0 (k := ?_) | refine stepS (Qbe Tryz.call307 c rfl) (k := ?_) | refine stepS (Qdw rfl rfl (by omega)) (k := ?_) | refine stepS (Qbe Tryz.call40 (hR ▸ al6In size 0 (16 * e)) rfl) (k := ?_) | refine Qbd ?_ | refine Qbf ?_ | refine Qbc ?_ | refine Qbl (ht := ?_) | ((fail_if_success show ASeq _ _ _ _ ⟨_, (_, .d (.v (.bool true))) :: _, _⟩); (fail_if_success show ASeq _ _ _ _ ⟨_, (_, .d (.v (.bool false))) :: _, _⟩); refine splitS (fun q => ?_) (fun q => ?_))))
  all_goals
   refine Qbn (hx := ?_);rw [hd.out, hR]; simp
 have hb : 0 <= size /\ size <= 16 * e := by simpa [Pl.inR] using hR
 (repeat' (first | refine e1 (k := ?_) | refine e0 (k := ?_) | refine stepS (Qbe Tryz.call307 c rfl) (k := ?_) | refine stepS (Qdw rfl rfl (by omega)) (k := ?_) | refine stepS (Qbe Tryz.call40 (hR ▸ al6In size 0 (16 * e)) rfl) (k := ?_) | refine stepS (Qbe Tryz.call308 (Qk2 size e hb.1 (by omega) (by omega) (by omega)) rfl) (k := ?_) | refine Qbd ?_ | refine Qbf ?_ | refine Qbc ?_ | refine Qbl (ht := ?_) | refine Qbm (hf := ?_) | refine Qbj ?_ | ((fail_if_success show ASeq _ _ _ _ ⟨_, (_, .d (.v (.bool true))) :: _, _⟩); (fail_if_success show ASeq _ _ _ _ ⟨_, (_, .d (.v (.bool false))) :: _, _⟩); refine splitS (fun q => ?_) (fun q => ?_))))
 ·simp at q; exact absurd q h0
 ·refine Qbn (hx := ?_)
  rw [hd.out, hR]; simp [h0]
structure Pl.Node where
 kind : Int
 links : Int
 size : Int
 tree : Pl.Tree
 deriving DecidableEq
abbrev rNode (n : Pl.Node) : List D := [dI n.kind, dI n.links, dI n.size, dI n.tree.root.pat, dI n.tree.root.birth, dI n.tree.root.size, dI n.tree.root.sum, dI n.tree.root.level, dI n.tree.depth, dI n.tree.many]
abbrev dNode (n : Pl.Node) : D := .agg (rNode n)
def Pl.QaF (n : Int) : Int := if n <= 1 then 0 else if n <= 4 then 1 else 2
def Pl.Qak (n : Pl.Node) : Bool := decide (0 <= Pl.Qau n.kind n.size) && (n.tree.many == Pl.Qau n.kind n.size) && (n.tree.depth == Pl.QaF (Pl.Qau n.kind n.size)) && Pl.ptrOk n.tree.root &&
 Pl.inR n.links 1 (if n.kind = 2 then 1 else 9) && (Pl.ptrHole n.tree.root || (n.tree.root.level == n.tree.depth))
theorem aNodeOk (n : Pl.Node) : Pure Tryz.prog 190 [dNode n] (dB (Pl.Qak n)) := by
 have hd : Hid (Pl.Qak n = (decide (0 <= Pl.Qau n.kind n.size) && (n.tree.many == Pl.Qau n.kind n.size) && (n.tree.depth == Pl.QaF (Pl.Qau n.kind n.size)) && Pl.ptrOk n.tree.root &&
  Pl.inR n.links 1 (if n.kind = 2 then 1 else 9) && (Pl.ptrHole n.tree.root || (n.tree.root.level == n.tree.depth)))) := Pm.hid rfl
 have c1 := QiF n.kind n.size;generalize Pl.Qau n.kind n.size = pc at *
 have c2 : Pure Tryz.prog 210 [dI pc] (dI (Pl.QaF pc)) := Qj4 pc;generalize Pl.QaF pc = dp at *
 have c3 := aPtrOk n.tree.root;have c4 := Qcc n.tree.root;generalize Pl.ptrOk n.tree.root = ok at *
 generalize Pl.ptrHole n.tree.root = ho at *
 (refine Qbk Tryz.func190 rfl Tryz.ntmps190 Tryz.results190 rfl ?_; simp only [parE, Nat.zero_add, Nat.reduceAdd])
 (refine Qbf (Qbc ?_); (repeat (first | refine e1 (k := ?_) | refine e2 (k := ?_) | fail)); refine Qbd ?_)
 refine Qbg 0 (h := ?_)
 (repeat' (first | refine f1 (k := ?_) | refine e1 (k := ?_) | refine f0 (k := ?_) | refine e0 (k := ?_) | refine stepS (Qbe Tryz.call259 c1 rfl) (k := ?_) | refine stepD (Qbe Tryz.call210 c2 rfl) (k := ?_) | refine stepD (Qbe Tryz.call197 c3 rfl) (k := ?_) | refine stepS (Qbe Tryz.call123 c4 rfl) (k := ?_) | refine stepS (Qbe Tryz.call40 (al6In _ _ _) rfl) (k := ?_) | refine Qbd ?_ | refine Qbr ?_ | refine Qbf ?_ | refine Qbc ?_ | refine Qb1 follows_mixed (by kernel_rfl) (by kernel_rfl) ?_ | refine Qbl (ht := ?_) | refine Qbo (ht := fun q => ?_) (hf := fun q => ?_) | refine Qbj ?_ | ((fail_if_success show ASeq _ _ _ _ ⟨_, (_, .d (.v (.bool true))) :: _, _⟩); (fail_if_success show ASeq _ _ _ _ ⟨_, (_, .d (.v (.bool false))) :: _, _⟩); refine splitS (fun q => ?_) (fun q => ?_)) | ((fail_if_success show ADraw _ _ _ _ ⟨_, (_, .d (.v (.bool true))) :: _, _⟩); (fail_if_success show ADraw _ _ _ _ ⟨_, (_, .d (.v (.bool false))) :: _, _⟩); refine splitD (fun q => ?_) (fun q => ?_))))
 all_goals
  refine Qbn (hx := ?_);refine congrArg dB ?_;rw [hd.out];clear c1 c2 c3 c4 hd
  simp_all
 intros
 omega
end Aw
end
section
open Go.RowKit
namespace Aw
theorem al6Dec (k : Nat) (h : k <= 4294967296) : Pure Tryz.prog 260 [dI k] (dS (Pl.dec k)) := QbI rfl fun w _ => Pm.l6Dec k w h
theorem aPtrPut (p : Pl.Ptr) : Pure Tryz.prog 261 [dPtr p] (dS (Pl.ptrPut p)) := QbI rfl fun w _ => Pm.Qmz p w
theorem aNumGet (s : List UInt8) (hs : s.length <= Pm.big) : Pure Tryz.prog 188 [dS s] (.tup [dI ((Pl.numGet s).getD 0 : Nat), dB (Pl.numGet s).isSome]) :=
 Qci (xs := [.int .i64 ((Pl.numGet s).getD 0 : Nat), .bool (Pl.numGet s).isSome]) rfl fun w _ => (Pm.QiM s w hs).mono fun e w' h => ⟨h.1.trans (by cases Pl.numGet s <;> rfl), h.2 ▸ Below.refl _ _⟩
theorem at_strs {S : Nat -> Prop} {w : World} {c : Bool} {l : List (List UInt8)} {v : Value} {d : D} (h : RelD S w d v) (hd : d = .sl c 1 (l.map fun s => [dS s])) (hS : ∀ b, S b -> b < w.heap.size) (hl : ∀ s ∈ l, s.length <= Pm.big) :
 ∃ A cap, v = .slice A l.length cap /\ Pm.At w w.heap.size A l := by
 cases h <;> try (simp at hd; done)
 ·rename_i c' n a cap
  simp only [D.sl.injEq] at hd;have : l = [] := by simpa using hd.2.2.symm
  subst this;exact ⟨a, cap, rfl, fun h => absurd h (by simp)⟩
 ·rename_i c' n l' b o cap g hb hn hcap hc hr
  simp only [D.sl.injEq] at hd;obtain ⟨_, rfl, rfl⟩ := hd;refine ⟨some ⟨b, o, none⟩, cap, by simp, fun _ => ⟨b, o, rfl, hS b hb, fun i x hx => ⟨[Pm.vstr x], ⟨rfl, hl x (List.mem_of_getElem? hx)⟩, fun j u hu => ?_⟩⟩⟩;have hi : (l.map fun s => [dS s])[i]? = some [dS x] := by rw [List.getElem?_map, hx]; rfl
  cases j with
  |succ j => simp at hu
  |zero =>
   simp at hu;subst hu;have h1 := hc i 0 _ _ hi rfl;have h2 := hr i 0 _ _ hi rfl;rw [show Pm.Rep.size (List UInt8) = 1 from rfl];rw [h1];generalize g i 0 = y at h2;cases h2;rfl
theorem Qge (l : List (List UInt8)) (h1 : l.length <= Pm.big) (h2 : ∀ s ∈ l, s.length <= Pm.big) : Pure Tryz.prog 258 [dStrs l] (.tup [dS ((Pl.Qb7 l).getD []), dB (Pl.Qb7 l).isSome]) := by
 intro B σ S H w cargs hB hS hl hr
 match cargs, hl with
 |[v], _ =>
  obtain ⟨A, cap, rfl, hA⟩ := at_strs (hr 0 _ v rfl rfl) rfl (fun b hb => (hS.sUp b hb).1) h2;refine (Pm.QhV A l cap w h1 hA).mono ?_;rintro e w' ⟨rfl, hb⟩;refine ⟨_, rfl, hb, ?_⟩
  cases Pl.Qb7 l <;> exact .tup _ [.string _, .bool _] rfl fun i d x hd hx => by
   match i, hd, hx with
   |0, hd, hx => simp at hd hx; subst hd; subst hx; exact .v _
   |1, hd, hx => simp at hd hx; subst hd; subst hx; exact .v _
end Aw
end
section
open Go.RowKit
namespace Aw
attribute [local irreducible] ASeq ADraw AWP Loc
noncomputable def Pl.rg (s : List UInt8) : List (List UInt8) × Bool := open Classical in if h : ∃ l, Pl.IsRec s l then (Classical.choose h, true) else ([], false)
theorem rg_is {s : List UInt8} {l : List (List UInt8)} (h : Pl.IsRec s l) : Pl.rg s = (l, true) := by
 unfold Pl.rg;have hx : ∃ p, Pl.IsRec s p := ⟨l, h⟩;rw [dif_pos hx, Pl.QeG (Classical.choose_spec hx) h]
theorem Qfb {s : List UInt8} (h : ∀ l, ¬ Pl.IsRec s l) : Pl.rg s = ([], false) := by
 unfold Pl.rg;rw [dif_neg (fun ⟨p, hp⟩ => h p hp)]
theorem al1Num (s : List UInt8) (hs : s.length <= Pm.big) : Pure Tryz.prog 257 [dS s] (.tup [dI ((Pl.l1num s).1 : Nat), dI ((Pl.l1num s).2 : Nat)]) :=
 Qci (xs := [.int .i64 ((Pl.l1num s).1 : Nat), .int .i64 ((Pl.l1num s).2 : Nat)]) rfl fun w _ => (Pm.spL1Num s w hs).mono fun e w' h => ⟨h.1, h.2 ▸ Below.refl _ _⟩
end Aw
end
end Go.Proofs.YtdjkdcokjoiokaaGreatDoor

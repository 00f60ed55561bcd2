/- Part 38 of seek_card: contracts, walks, laws; no condition beyond the statement's. -/
import Derived.Test.YtdjkdcokjoiokaaGreatDoorW37
set_option linter.all false
set_option maxRecDepth 100000
set_option maxHeartbeats 4000000
namespace Go.Proofs.YtdjkdcokjoiokaaGreatDoor
open Go.RowKit
namespace Aw
attribute [local irreducible] ASeq ADraw AWP Loc AStep Fg.PlanF Fg.Flts
theorem Does.pure {P : Program} {f : FuncId} {ds : List D} {x : AV} {H1 : List Blk} {y : D} (h : Does P f (ds.map .d) [] [] x H1) (hy : x.ice H1 4 = y) : Pure P f ds y := by
 subst hy;intro B σ S H w cargs hB hS hl hr;refine (h.2 _ _ S w cargs [] (hB.again hS S) hS.empty (by simpa using hl) (fun i d v hi hv => ?_) rfl (fun i d v hd => by simp at hd)).mono ?_
 ·rw [List.getElem?_map] at hi
  obtain ⟨d0, hd0, rfl⟩ := Option.map_eq_some_iff.1 hi;exact .d _ _ (hr i d0 v hd0 hv)
 rintro e w' ⟨v, σ', S', rfl, hS1, hR, _⟩;refine ⟨v, rfl, ⟨hS1.os, hS1.tape, hS1.output, hS1.size, fun k hk => hS1.keep k hk fun h => h⟩, (Qe1 hS1 (fun k C h => .inl h) 4 _ _ hR).mono (fun b hb => ?_) fun _ _ => rfl⟩;rcases hb with hb | ⟨k, hk, hb⟩
 ·obtain ⟨h1, h2⟩ := hS1.sUp b hb
  exact h2.imp id fun h => ⟨h.resolve_left fun h => h, h1⟩
 ·obtain ⟨h1, _, h2⟩ := hS1.σUp k b hk hb
  exact .inr ⟨h2.resolve_left fun h => h, h1⟩
theorem dToInts (l : List Int) (h : l.length <= 1048576) : Does Tryz.prog 118 [.d (dInts l)] [] [] (.osl 0 0 0 l.length) [.arr 0 1 3 (l.map (fun n => [dI n]))] := by
 have hb : 8 * l.length <= 281474976710656 := by omega
 have hm : l.length <= 140737488355328 := by omega
 refine Qb9 Tryz.func118 rfl Tryz.ntmps118 Tryz.results118 rfl rfl ?hpin (fun gvs => ?_)
 case hpin => intro i C hC; simp at hC
 simp only [parA, gslot, Nat.zero_add, Nat.reduceAdd]
 (repeat' (first | refine e1 (k := ?_) | refine stepS2 (Qcw Ty.h rfl Ty.h rfl rfl rfl hb hm) (k := ?_) | refine Qbd ?_ | refine Qbf ?_ | refine Qbc ?_ | refine Qbi ?_ | fail))
 refine Qby (fun m st => ∃ k : Nat, k <= l.length /\ m = l.length - k /\ st = ⟨22, [(3, .osl 0 0 0 l.length), (4, .d (dI k)), (0, .d (dInts l)), (1000000, .gh [] gvs)], [.arr 0 1 3 ((l.take k ++ List.replicate (l.length - k) 0).map (fun n => [dI n]))]⟩) [3, 4, 0, 1000000] 1 l.length ⟨0, by omega, rfl, by simp [keepE, go_sem]⟩ (round := ?_);rintro m st ⟨k, hk, rfl, rfl⟩
 (repeat (first | refine e1 (k := ?_) | refine Qbd ?_ | refine Qbf ?_ | refine Qbc ?_ | fail))
 cases q3 : decide ((k : Int) < (l.length : Int))
 ·have : k = l.length := by simp at q3; omega
  subst this
  (repeat' (first | refine e1 (k := ?_) | refine Qbd ?_ | refine Qbf ?_ | refine Qbc ?_ | refine Qbm (hf := ?_) | refine Qbq ?_ | fail))
  exact QbN (hx := rfl) (hH := by simp)
 have hk2 : k < l.length := by simp at q3; omega
 obtain ⟨x, hx⟩ : ∃ x, l[k]? = some x := ⟨_, List.getElem?_eq_getElem hk2⟩;have hr := Qbx (f := (fun n => [dI n])) hx;have hrm : ((l.take k ++ List.replicate (l.length - k) 0).map (fun n => [dI n]))[0 + (k : Int).toNat]? = some [dI 0] := by rw [Nat.zero_add, Int.toNat_natCast, List.getElem?_map, QdE hk2]; rfl
 have hf := QdD (z := 0) hx;clear hx
 (repeat' (first | refine e1 (k := ?_) | refine stepS (Qbh Ty.h rfl Ty.h rfl rfl rfl (by omega) hr) (k := ?_) | refine stepS (Qb4 Ty.h rfl Ty.h rfl rfl rfl rfl (by omega) (by omega)) (k := ?_) | refine Qce Ty.h rfl rfl hrm rfl (kk := ?_) | refine stepS (Qbs rfl rfl (by omega)) (k := ?_) | refine Qbp ?_ | refine Qb0 ?_ | refine Qbf ?_ | refine Qbc ?_ | refine Qbl (ht := ?_) | refine Qbj ?_ | refine Qbi ?_ | fail))
 refine Qbt (l.length - (k + 1)) (by omega) ⟨k + 1, by omega, rfl, ?_⟩;rw [<- hf];simp [keepE, go_sem, List.map_set]
theorem dToStrs (l : List (List UInt8)) (h : l.length <= 1048576) : Does Tryz.prog 57 [.d (dStrs l)] [] [] (.osl 0 0 0 l.length) [.arr 0 1 9 (l.map (fun s => [dS s]))] := by
 have hb : 16 * l.length <= 281474976710656 := by omega
 have hm : l.length <= 140737488355328 := by omega
 refine Qb9 Tryz.func57 rfl Tryz.ntmps57 Tryz.results57 rfl rfl ?hpin (fun gvs => ?_)
 case hpin => intro i C hC; simp at hC
 simp only [parA, gslot, Nat.zero_add, Nat.reduceAdd]
 (repeat' (first | refine e1 (k := ?_) | refine stepS2 (Qcw Ty.h rfl Ty.h rfl rfl rfl hb hm) (k := ?_) | refine Qbd ?_ | refine Qbf ?_ | refine Qbc ?_ | refine Qbi ?_ | fail))
 refine Qby (fun m st => ∃ k : Nat, k <= l.length /\ m = l.length - k /\ st = ⟨22, [(3, .osl 0 0 0 l.length), (4, .d (dI k)), (0, .d (dStrs l)), (1000000, .gh [] gvs)], [.arr 0 1 9 ((l.take k ++ List.replicate (l.length - k) []).map (fun s => [dS s]))]⟩) [3, 4, 0, 1000000] 1 l.length ⟨0, by omega, rfl, by simp [keepE, go_sem]⟩ (round := ?_);rintro m st ⟨k, hk, rfl, rfl⟩
 (repeat (first | refine e1 (k := ?_) | refine Qbd ?_ | refine Qbf ?_ | refine Qbc ?_ | fail))
 cases q3 : decide ((k : Int) < (l.length : Int))
 ·have : k = l.length := by simp at q3; omega
  subst this
  (repeat' (first | refine e1 (k := ?_) | refine Qbd ?_ | refine Qbf ?_ | refine Qbc ?_ | refine Qbm (hf := ?_) | refine Qbq ?_ | fail))
  exact QbN (hx := rfl) (hH := by simp)
 have hk2 : k < l.length := by simp at q3; omega
 obtain ⟨x, hx⟩ : ∃ x, l[k]? = some x := ⟨_, List.getElem?_eq_getElem hk2⟩;have hr := Qbx (f := (fun s => [dS s])) hx;have hrm : ((l.take k ++ List.replicate (l.length - k) []).map (fun s => [dS s]))[0 + (k : Int).toNat]? = some [dS []] := by rw [Nat.zero_add, Int.toNat_natCast, List.getElem?_map, QdE hk2]; rfl
 have hf := QdD (z := []) hx;clear hx
 (repeat' (first | refine e1 (k := ?_) | refine stepS (Qbh Ty.h rfl Ty.h rfl rfl rfl (by omega) hr) (k := ?_) | refine stepS (Qb4 Ty.h rfl Ty.h rfl rfl rfl rfl (by omega) (by omega)) (k := ?_) | refine Qce Ty.h rfl rfl hrm rfl (kk := ?_) | refine stepS (Qbs rfl rfl (by omega)) (k := ?_) | refine Qbp ?_ | refine Qb0 ?_ | refine Qbf ?_ | refine Qbc ?_ | refine Qbl (ht := ?_) | refine Qbj ?_ | refine Qbi ?_ | fail))
 refine Qbt (l.length - (k + 1)) (by omega) ⟨k + 1, by omega, rfl, ?_⟩;rw [<- hf];simp [keepE, go_sem, List.map_set]
theorem dToPtrs (l : List Pl.Ptr) (h : l.length <= 1048576) : Does Tryz.prog 59 [.d (dPtrs l)] [] [] (.osl 0 0 0 l.length) [.arr 0 5 54 (l.map rPtr)] := by
 have hb : 40 * l.length <= 281474976710656 := by omega
 have hm : l.length <= 140737488355328 := by omega
 refine Qb9 Tryz.func59 rfl Tryz.ntmps59 Tryz.results59 rfl rfl ?hpin (fun gvs => ?_)
 case hpin => intro i C hC; simp at hC
 simp only [parA, gslot, Nat.zero_add, Nat.reduceAdd]
 (repeat' (first | refine e1 (k := ?_) | refine stepS2 (Qcw Ty.h rfl Ty.h rfl rfl rfl hb hm) (k := ?_) | refine Qbd ?_ | refine Qbf ?_ | refine Qbc ?_ | refine Qbi ?_ | fail))
 refine Qby (fun m st => ∃ k : Nat, k <= l.length /\ m = l.length - k /\ st = ⟨23, [(3, .osl 0 0 0 l.length), (4, .d (dI k)), (0, .d (dPtrs l)), (1000000, .gh [] gvs)], [.arr 0 5 54 ((l.take k ++ List.replicate (l.length - k) Pl.hole).map rPtr)]⟩) [3, 4, 0, 1000000] 1 l.length ⟨0, by omega, rfl, by simp [keepE, go_sem, Pl.hole]⟩ (round := ?_);rintro m st ⟨k, hk, rfl, rfl⟩
 (repeat (first | refine e1 (k := ?_) | refine Qbd ?_ | refine Qbf ?_ | refine Qbc ?_ | fail))
 cases q3 : decide ((k : Int) < (l.length : Int))
 ·have : k = l.length := by simp at q3; omega
  subst this
  (repeat' (first | refine e1 (k := ?_) | refine Qbd ?_ | refine Qbf ?_ | refine Qbc ?_ | refine Qbm (hf := ?_) | refine Qbq ?_ | fail))
  exact QbN (hx := rfl) (hH := by simp)
 have hk2 : k < l.length := by simp at q3; omega
 obtain ⟨x, hx⟩ : ∃ x, l[k]? = some x := ⟨_, List.getElem?_eq_getElem hk2⟩;have hr := Qbx (f := rPtr) hx;have hrm : ((l.take k ++ List.replicate (l.length - k) Pl.hole).map rPtr)[0 + (k : Int).toNat]? = some (rPtr Pl.hole) := by rw [Nat.zero_add, Int.toNat_natCast, List.getElem?_map, QdE hk2]; rfl
 have hf := QdD (z := Pl.hole) hx;clear hx
 (repeat' (first | refine e1 (k := ?_) | refine stepS (Qbh Ty.h rfl Ty.h rfl rfl rfl (by omega) hr) (k := ?_) | refine stepS (Qb4 Ty.h rfl Ty.h rfl rfl rfl rfl (by omega) (by omega)) (k := ?_) | refine stepS (Qbe Tryz.call60 (aToPtr x) rfl) (k := ?_) | refine Qgd Ty.h rfl rfl hrm rfl rfl rfl rfl (kk := ?_) | refine stepS (Qbs rfl rfl (by omega)) (k := ?_) | refine Qbp ?_ | refine Qb0 ?_ | refine Qbf ?_ | refine Qbc ?_ | refine Qbl (ht := ?_) | refine Qbj ?_ | refine Qbi ?_ | fail))
 refine Qbt (l.length - (k + 1)) (by omega) ⟨k + 1, by omega, rfl, ?_⟩;rw [<- hf];simp [keepE, go_sem, List.map_set]
theorem Qnh (s : Pm.Space) (h1 : s.1.length <= 1048576) (h2 : s.2.length <= 1048576) : Does Tryz.prog 58 [.d (dSpace s)] [] [] (.agg [.osl 3 0 0 s.1.length, .osl 4 0 0 s.2.length])
 [.row 1 [], .row 0 [.osl 3 0 0 s.1.length, .osl 4 0 0 s.2.length], .row 0 [.osl 3 0 0 s.1.length, .osl 4 0 0 s.2.length], .arr 0 1 3 (s.1.map fun n => [dI n]), .arr 0 1 3 (s.2.map fun n => [dI n])] := by
 have c1 := dToInts s.1 h1;have c2 := dToInts s.2 h2;refine QeI Tryz.func58 rfl Tryz.ntmps58 Tryz.results58 rfl rfl ?hpin (fun gvs => ?_)
 case hpin => intro i C hC; simp at hC
 simp only [parA, gslot, Nat.zero_add, Nat.reduceAdd]
 (refine Qbf (Qbc ?_); (repeat (first | refine e2 (k := ?_) | fail)); refine Qbd ?_)
 refine Qbg 0 (h := ?_);generalize hn1 : s.1.length = n1 at *
 generalize hn2 : s.2.length = n2 at *
 generalize s.1.map (fun n => [dI n]) = r1 at *
 generalize s.2.map (fun n => [dI n]) = r2 at *
 (repeat' (first | refine e1 (k := ?_) | refine (Qcy [] c1 Tryz.call118 (x' := .osl 3 0 0 n1) (hX := fun _ h => h) (H' := [.row 1 [], .row 0 [.d (.v (.slice none 0 0)), .d (.v (.slice none 0 0))], .row 0 [.d (.v (.slice none 0 0)), .d (.v (.slice none 0 0))], .arr 0 1 3 r1]) (hH := fun _ h => h) (k := ?_)) | refine (Qcy [] c2 Tryz.call118 (x' := .osl 4 0 0 n2) (hX := fun _ h => h) (H' := [.row 1 [], .row 0 [.d (.v (.slice none 0 0)), .d (.v (.slice none 0 0))], .row 0 [.osl 3 0 0 n1, .d (.v (.slice none 0 0))], .arr 0 1 3 r1, .arr 0 1 3 r2]) (hH := fun _ h => h) (k := ?_)) | refine Qbu (kk := ?_) | refine Qbd ?_ | refine Qbf ?_ | refine Qbc ?_ | refine e2 (k := ?_) | fail))
 refine Qf6 ?_;exact ⟨⟨1, 0, _, _, rfl, rfl, Ty.h, rfl⟩, rfl, rfl⟩
def Pl.cpB (s : Pm.Store) : List Blk := [.row 1 [], .row 0 [.osl 3 0 0 s.1.length, .osl 7 0 0 s.2.1.1.length, .osl 8 0 0 s.2.1.2.length, .d (dI s.2.2.1), .osl 9 0 0 s.2.2.2.1.length, .d (dI s.2.2.2.2.1), .osl 10 0 0 s.2.2.2.2.2.1.length, .d (dB s.2.2.2.2.2.2)], .row 0 [.osl 3 0 0 s.1.length, .osl 7 0 0 s.2.1.1.length, .osl 8 0 0 s.2.1.2.length, .d (dI s.2.2.1), .osl 9 0 0 s.2.2.2.1.length, .d (dI s.2.2.2.2.1), .osl 10 0 0 s.2.2.2.2.2.1.length, .d (dB s.2.2.2.2.2.2)], .arr 0 1 9 (s.1.map fun s => [dS s]), .row 1 [], .row 0 [.osl 7 0 0 s.2.1.1.length, .osl 8 0 0 s.2.1.2.length], .row 0 [.osl 7 0 0 s.2.1.1.length, .osl 8 0 0 s.2.1.2.length], .arr 0 1 3 (s.2.1.1.map fun n => [dI n]), .arr 0 1 3 (s.2.1.2.map fun n => [dI n]), .arr 0 5 54 (s.2.2.2.1.map rPtr), .arr 0 5 54 (s.2.2.2.2.2.1.map rPtr)]
def Pl.cpX (s : Pm.Store) : AV := .agg [.osl 3 0 0 s.1.length, .osl 7 0 0 s.2.1.1.length, .osl 8 0 0 s.2.1.2.length, .d (dI s.2.2.1), .osl 9 0 0 s.2.2.2.1.length, .d (dI s.2.2.2.2.1), .osl 10 0 0 s.2.2.2.2.2.1.length, .d (dB s.2.2.2.2.2.2)]
theorem Qng (s : Pm.Store) (h1 : s.1.length <= 1048576) (h2 : s.2.1.1.length <= 1048576) (h3 : s.2.1.2.length <= 1048576) (h4 : s.2.2.2.1.length <= 1048576) (h5 : s.2.2.2.2.2.1.length <= 1048576) : Does Tryz.prog 18 [.d (dSt s)] [] [] (Pl.cpX s) (Pl.cpB s) := by
 have c1 := dToStrs s.1 h1;have c2 := Qnh s.2.1 h2 h3;have c3 := dToPtrs s.2.2.2.1 h4;have c4 := dToPtrs s.2.2.2.2.2.1 h5;unfold Pl.cpX Pl.cpB;generalize s.1.map (fun s => [dS s]) = r1 at *
 generalize s.2.1.1.map (fun n => [dI n]) = r2 at *
 generalize s.2.1.2.map (fun n => [dI n]) = r3 at *
 generalize s.2.2.2.1.map rPtr = r4 at *
 generalize s.2.2.2.2.2.1.map rPtr = r5 at *
 generalize s.1.length = n1 at *
 generalize s.2.1.1.length = n2 at *
 generalize s.2.1.2.length = n3 at *
 generalize s.2.2.2.1.length = n4 at *
 generalize s.2.2.2.2.2.1.length = n5 at *
 generalize ha1 : s.2.2.1 = a1 at *
 generalize ha2 : s.2.2.2.2.1 = a2 at *
 generalize ha3 : s.2.2.2.2.2.2 = a3 at *
 subst ha1; subst ha2; subst ha3;refine QeI Tryz.func18 rfl Tryz.ntmps18 Tryz.results18 rfl rfl ?hpin (fun gvs => ?_)
 case hpin => intro i C hC; simp at hC
 simp only [parA, gslot, Nat.zero_add, Nat.reduceAdd]
 (refine Qbf (Qbc ?_); (repeat (first | refine e2 (k := ?_) | fail)); refine Qbd ?_)
 refine Qbg 0 (h := ?_)
 (repeat' (first | refine e1 (k := ?_) | refine (Qcy [] c1 Tryz.call57 (x' := .osl 3 0 0 n1) (hX := fun _ h => h) (H' := [.row 1 [], .row 0 [.d (.v (.slice none 0 0)), .d (.v (.slice none 0 0)), .d (.v (.slice none 0 0)), .d (dI 0), .d (.v (.slice none 0 0)), .d (dI 0), .d (.v (.slice none 0 0)), .d (dB false)], .row 0 [.d (.v (.slice none 0 0)), .d (.v (.slice none 0 0)), .d (.v (.slice none 0 0)), .d (dI 0), .d (.v (.slice none 0 0)), .d (dI 0), .d (.v (.slice none 0 0)), .d (dB false)], .arr 0 1 9 r1]) (hH := fun _ h => h) (k := ?_)) | refine (Qcy [] c2 Tryz.call58 (x' := .agg [.osl 7 0 0 n2, .osl 8 0 0 n3]) (hX := fun _ h => h) (H' := [.row 1 [], .row 0 [.d (.v (.slice none 0 0)), .d (.v (.slice none 0 0)), .d (.v (.slice none 0 0)), .d (dI 0), .d (.v (.slice none 0 0)), .d (dI 0), .d (.v (.slice none 0 0)), .d (dB false)], .row 0 [.osl 3 0 0 n1, .d (.v (.slice none 0 0)), .d (.v (.slice none 0 0)), .d (dI 0), .d (.v (.slice none 0 0)), .d (dI 0), .d (.v (.slice none 0 0)), .d (dB false)], .arr 0 1 9 r1, .row 1 [], .row 0 [.osl 7 0 0 n2, .osl 8 0 0 n3], .row 0 [.osl 7 0 0 n2, .osl 8 0 0 n3], .arr 0 1 3 r2, .arr 0 1 3 r3]) (hH := fun _ h => h) (k := ?_)) | refine (Qcy [] c3 Tryz.call59 (x' := .osl 9 0 0 n4) (hX := fun _ h => h) (H' := [.row 1 [], .row 0 [.d (.v (.slice none 0 0)), .d (.v (.slice none 0 0)), .d (.v (.slice none 0 0)), .d (dI 0), .d (.v (.slice none 0 0)), .d (dI 0), .d (.v (.slice none 0 0)), .d (dB false)], .row 0 [.osl 3 0 0 n1, .osl 7 0 0 n2, .osl 8 0 0 n3, .d (dI s.2.2.1), .d (.v (.slice none 0 0)), .d (dI 0), .d (.v (.slice none 0 0)), .d (dB false)], .arr 0 1 9 r1, .row 1 [], .row 0 [.osl 7 0 0 n2, .osl 8 0 0 n3], .row 0 [.osl 7 0 0 n2, .osl 8 0 0 n3], .arr 0 1 3 r2, .arr 0 1 3 r3, .arr 0 5 54 r4]) (hH := fun _ h => h) (k := ?_)) | refine (Qcy [] c4 Tryz.call59 (x' := .osl 10 0 0 n5) (hX := fun _ h => h) (H' := [.row 1 [], .row 0 [.d (.v (.slice none 0 0)), .d (.v (.slice none 0 0)), .d (.v (.slice none 0 0)), .d (dI 0), .d (.v (.slice none 0 0)), .d (dI 0), .d (.v (.slice none 0 0)), .d (dB false)], .row 0 [.osl 3 0 0 n1, .osl 7 0 0 n2, .osl 8 0 0 n3, .d (dI s.2.2.1), .osl 9 0 0 n4, .d (dI s.2.2.2.2.1), .d (.v (.slice none 0 0)), .d (dB false)], .arr 0 1 9 r1, .row 1 [], .row 0 [.osl 7 0 0 n2, .osl 8 0 0 n3], .row 0 [.osl 7 0 0 n2, .osl 8 0 0 n3], .arr 0 1 3 r2, .arr 0 1 3 r3, .arr 0 5 54 r4, .arr 0 5 54 r5]) (hH := fun _ h => h) (k := ?_)) | refine Qbu (kk := ?_) | refine Qbd ?_ | refine Qbf ?_ | refine Qbc ?_ | refine e2 (k := ?_) | fail))
 all_goals first
  |(refine Qf6 ?_
    exact ⟨⟨1, 0, _, _, rfl, rfl, Ty.h, rfl⟩, rfl, rfl⟩)
theorem QhK (k : Nat) (h0 : 0 < k) (h1 : k <= 4294967296) : Pure Tryz.prog 76 [dI k] (dS (Pm.mt k)) := QbI rfl fun w _ => Pm.markText' k w h0 h1
def Pl.mk {α : Type} (f : Nat -> α) (l : List α) (n : Nat) : List α := (List.range n).map f ++ l.drop n
theorem Qlh {α : Type} (f : Nat -> α) {l : List α} {n : Nat} (h : n < l.length) : (Pl.mk f l n).set n (f n) = Pl.mk f l (n + 1) := by
 unfold Pl.mk;rw [List.set_append_right _ _ (by simp), List.length_map, List.length_range, Nat.sub_self, List.drop_eq_getElem_cons h, List.set_cons_zero, List.range_succ, List.map_append];simp
theorem Qli {α : Type} (f : Nat -> α) {l : List α} {n : Nat} (h : n < l.length) : (Pl.mk f l n)[n]? = some l[n] := by
 unfold Pl.mk;rw [List.getElem?_append_right (by simp), List.length_map, List.length_range, Nat.sub_self, List.getElem?_drop, Nat.add_zero, List.getElem?_eq_getElem h]
theorem QcE {α : Type} (f : Nat -> α) {l : List α} {n : Nat} (h : n <= l.length) : (Pl.mk f l n).length = l.length := by unfold Pl.mk; simp; omega
theorem Qh7 (l : List Int) (g k : Nat) (h : l.length <= 1048576) (hk : k <= 100000000) : Does Tryz.prog 133 [.osl 0 g 0 l.length, .d (dI k)] [.arr g 1 3 (l.map fun n => [dI n])] [.osl 0 g 0 l.length] (.d (dI ((k + l.length : Nat) : Int))) [.arr g 1 3 ((Pl.mk (fun i => ((k + i : Nat) : Int)) l l.length).map fun n => [dI n])] := by
 refine Qb9 Tryz.func133 rfl Tryz.ntmps133 Tryz.results133 rfl rfl ?hpin (fun gvs => ?_)
 case hpin =>
  intro i C hC
  match i, hC with
  |0, hC => obtain rfl := Option.some.inj hC; exact ⟨_, rfl, rfl, rfl, .inr ⟨rfl, by rw [List.length_map, List.length_map, QcE _ (Nat.le_refl _)], 0, l.length, by simp⟩⟩
 simp only [parA, gslot, Nat.zero_add, Nat.reduceAdd]
 (repeat' (first | refine e1 (k := ?_) | refine Qbd ?_ | refine Qbf ?_ | refine Qbc ?_ | refine Qbi ?_ | fail))
 refine Qby (fun m st => ∃ i : Nat, i <= l.length /\ m = l.length - i /\ st = ⟨19, [(0, .osl 0 g 0 l.length), (5, .d (dI i)), (1, .d (dI ((k + i : Nat) : Int))), (1000000, .gh [.osl 0 g 0 l.length] gvs)], [.arr g 1 3 ((Pl.mk (fun i => ((k + i : Nat) : Int)) l i).map fun n => [dI n])]⟩) [0, 5, 1, 1000000] 1 l.length ⟨0, by omega, rfl, by simp [keepE, go_sem, Pl.mk]⟩ (round := ?_);rintro m st ⟨i, hi, rfl, rfl⟩
 (repeat (first | refine e1 (k := ?_) | refine Qbd ?_ | refine Qbf ?_ | refine Qbc ?_ | fail))
 cases q3 : decide ((i : Int) < (l.length : Int))
 ·have : i = l.length := by simp at q3; omega
  subst this
  (repeat' (first | refine e1 (k := ?_) | refine Qbd ?_ | refine Qbf ?_ | refine Qbc ?_ | refine Qbm (hf := ?_) | refine Qbq ?_ | fail))
  exact QbN (hx := rfl) (hH := rfl)
 have hi2 : i < l.length := by simp at q3; omega
 have hrm : ((Pl.mk (fun i => ((k + i : Nat) : Int)) l i).map (fun n => [dI n]))[0 + (i : Int).toNat]? = some [dI l[i]] := by rw [Nat.zero_add, Int.toNat_natCast, List.getElem?_map, Qli _ hi2]; rfl
 have hf := Qlh (fun i => ((k + i : Nat) : Int)) hi2;have hki : ((k + i : Nat) : Int) + 1 = ((k + (i + 1) : Nat) : Int) := by omega
 (repeat' (first | refine e1 (k := ?_) | refine stepS (Qb4 Ty.h rfl Ty.h rfl rfl rfl rfl (by omega) (by omega)) (k := ?_) | refine Qce Ty.h rfl rfl hrm rfl (kk := ?_) | refine stepS (Qbs rfl rfl (by omega)) (k := ?_) | refine Qbd ?_ | refine Qbp ?_ | refine Qb0 ?_ | refine Qbf ?_ | refine Qbc ?_ | refine Qbl (ht := ?_) | refine Qbj ?_ | refine Qbi ?_ | fail))
 refine Qbt (l.length - (i + 1)) (by omega) ⟨i + 1, by omega, rfl, ?_⟩;rw [<- hf, <- hki];simp [keepE, go_sem, List.map_set]
theorem Qh5 (l : List (List UInt8)) (g k : Nat) (h : l.length <= 1048576) (hk0 : 0 < k) (hk : k <= 100000000) : Does Tryz.prog 28 [.osl 0 g 0 l.length, .d (dI k)] [.arr g 1 9 (l.map fun s => [dS s])] [.osl 0 g 0 l.length] (.d (dI ((k + l.length : Nat) : Int))) [.arr g 1 9 ((Pl.mk (fun i => Pm.mt (k + i)) l l.length).map fun s => [dS s])] := by
 refine Qb9 Tryz.func28 rfl Tryz.ntmps28 Tryz.results28 rfl rfl ?hpin (fun gvs => ?_)
 case hpin =>
  intro i C hC
  match i, hC with
  |0, hC => obtain rfl := Option.some.inj hC; exact ⟨_, rfl, rfl, rfl, .inr ⟨rfl, by rw [List.length_map, List.length_map, QcE _ (Nat.le_refl _)], 0, l.length, by simp⟩⟩
 simp only [parA, gslot, Nat.zero_add]
 (repeat' (first | refine e1 (k := ?_) | refine Qbd ?_ | refine Qbf ?_ | refine Qbc ?_ | refine Qbi ?_ | fail))
 refine Qby (fun m st => ∃ i : Nat, i <= l.length /\ m = l.length - i /\ st = ⟨20, [(0, .osl 0 g 0 l.length), (5, .d (dI i)), (1, .d (dI ((k + i : Nat) : Int))), (1000000, .gh [.osl 0 g 0 l.length] gvs)], [.arr g 1 9 ((Pl.mk (fun i => Pm.mt (k + i)) l i).map fun s => [dS s])]⟩) [0, 5, 1, 1000000] 1 l.length ⟨0, by omega, rfl, by simp [keepE, go_sem, Pl.mk]⟩ (round := ?_);rintro m st ⟨i, hi, rfl, rfl⟩
 (repeat (first | refine e1 (k := ?_) | refine Qbd ?_ | refine Qbf ?_ | refine Qbc ?_ | fail))
 cases q3 : decide ((i : Int) < (l.length : Int))
 ·have : i = l.length := by simp at q3; omega
  subst this
  (repeat' (first | refine e1 (k := ?_) | refine Qbd ?_ | refine Qbf ?_ | refine Qbc ?_ | refine Qbm (hf := ?_) | refine Qbq ?_ | fail))
  exact QbN (hx := rfl) (hH := rfl)
 have hi2 : i < l.length := by simp at q3; omega
 have hrm : ((Pl.mk (fun i => Pm.mt (k + i)) l i).map (fun s => [dS s]))[0 + (i : Int).toNat]? = some [dS l[i]] := by rw [Nat.zero_add, Int.toNat_natCast, List.getElem?_map, Qli _ hi2]; rfl
 have hf := Qlh (fun i => Pm.mt (k + i)) hi2;have hki : ((k + i : Nat) : Int) + 1 = ((k + (i + 1) : Nat) : Int) := by omega
 have c := QhK (k + i) (by omega) (by omega)
 (repeat' (first | refine e1 (k := ?_) | refine stepS (Qbe Tryz.call76 c rfl) (k := ?_) | refine stepS (Qb4 Ty.h rfl Ty.h rfl rfl rfl rfl (by omega) (by omega)) (k := ?_) | refine Qce Ty.h rfl rfl hrm rfl (kk := ?_) | refine stepS (Qbs rfl rfl (by omega)) (k := ?_) | refine Qbd ?_ | refine Qbp ?_ | refine Qb0 ?_ | refine Qbf ?_ | refine Qbc ?_ | refine Qbl (ht := ?_) | refine Qbj ?_ | refine Qbi ?_ | fail))
 refine Qbt (l.length - (i + 1)) (by omega) ⟨i + 1, by omega, rfl, ?_⟩;rw [<- hf, <- hki];simp [keepE, go_sem, List.map_set]
def Pl.mkP (k i : Nat) : List D := [dI ((k + 5 * i : Nat) : Int), dI ((k + 5 * i + 1 : Nat) : Int), dI ((k + 5 * i + 2 : Nat) : Int), dI ((k + 5 * i + 3 : Nat) : Int), dI ((k + 5 * i + 4 : Nat) : Int)]
theorem Qm1 {α : Type} {R : List α} {i : Nat} {r : α} (h : i < R.length) : (R.set (i : Int).toNat r)[(i : Int).toNat]? = some r := by
 rw [Int.toNat_natCast, List.getElem?_set_self h]
theorem Qh6 (l : List Pl.Ptr) (g k : Nat) (h : l.length <= 1048576) (hk : k <= 100000000) : Does Tryz.prog 75 [.osl 0 g 0 l.length, .d (dI k)] [.arr g 5 54 (l.map rPtr)] [.osl 0 g 0 l.length] (.d (dI ((k + 5 * l.length : Nat) : Int))) [.arr g 5 54 (Pl.mk (Pl.mkP k) (l.map rPtr) l.length)] := by
 have hml : (l.map rPtr).length = l.length := List.length_map ..;refine Qb9 Tryz.func75 rfl Tryz.ntmps75 Tryz.results75 rfl rfl ?hpin (fun gvs => ?_)
 case hpin =>
  intro i C hC
  match i, hC with
  |0, hC => obtain rfl := Option.some.inj hC; exact ⟨_, rfl, rfl, rfl, .inr ⟨rfl, by rw [QcE _ (by omega)], 0, l.length, by simp⟩⟩
 simp only [parA, gslot, Nat.zero_add]
 (repeat' (first | refine e1 (k := ?_) | refine Qbd ?_ | refine Qbf ?_ | refine Qbc ?_ | refine Qbi ?_ | fail))
 refine Qby (fun m st => ∃ i : Nat, i <= l.length /\ m = l.length - i /\ st = ⟨48, [(0, .osl 0 g 0 l.length), (5, .d (dI i)), (1, .d (dI ((k + 5 * i : Nat) : Int))), (1000000, .gh [.osl 0 g 0 l.length] gvs)], [.arr g 5 54 (Pl.mk (Pl.mkP k) (l.map rPtr) i)]⟩) [0, 5, 1, 1000000] 1 l.length ⟨0, by omega, rfl, by simp [keepE, go_sem, Pl.mk]⟩ (round := ?_);rintro m st ⟨i, hi, rfl, rfl⟩
 (repeat (first | refine e1 (k := ?_) | refine Qbd ?_ | refine Qbf ?_ | refine Qbc ?_ | fail))
 cases q3 : decide ((i : Int) < (l.length : Int))
 ·have : i = l.length := by simp at q3; omega
  subst this
  (repeat' (first | refine e1 (k := ?_) | refine Qbd ?_ | refine Qbf ?_ | refine Qbc ?_ | refine Qbm (hf := ?_) | refine Qbq ?_ | fail))
  exact QbN (hx := rfl) (hH := rfl)
 have hi2 : i < (l.map rPtr).length := by simp at q3; omega
 have hlen := QcE (Pl.mkP k) (l := l.map rPtr) (n := i) (by omega);obtain ⟨p, hp⟩ : ∃ p, l[i]? = some p := ⟨_, List.getElem?_eq_getElem (by omega)⟩;have hrm : (Pl.mk (Pl.mkP k) (l.map rPtr) i)[i]? = some (rPtr p) := by rw [Qli (Pl.mkP k) hi2, <- List.getElem?_eq_getElem, List.getElem?_map, hp]; rfl
 have hf := Qlh (Pl.mkP k) hi2;generalize Pl.mk (Pl.mkP k) (l.map rPtr) i = R at *
 have hrm0 : R[(i : Int).toNat]? = some (rPtr p) := by rw [Int.toNat_natCast]; exact hrm
 have hki : ((k + 5 * i : Nat) : Int) + 1 + 1 + 1 + 1 + 1 = ((k + 5 * (i + 1) : Nat) : Int) := by omega
 clear hrm hp
 (repeat' (first | refine e1 (k := ?_) | refine stepS (Qb4 Ty.h rfl Ty.h rfl rfl rfl rfl (by omega) (by omega)) (k := ?_) | refine Qce Ty.h rfl rfl hrm0 rfl (kk := ?_) | refine Qce Ty.h rfl rfl (Qm1 (by (try simp only [List.length_set]); omega)) rfl (kk := ?_) | refine stepS (Qbs rfl rfl (by omega)) (k := ?_) | refine Qbd ?_ | refine Qbp ?_ | refine Qb0 ?_ | refine Qbf ?_ | refine Qbc ?_ | refine Qbl (ht := ?_) | refine Qbj ?_ | refine Qbi ?_ | fail))
 refine Qbt (l.length - (i + 1)) (by omega) ⟨i + 1, by omega, rfl, ?_⟩;rw [<- hf, <- hki];simp [keepE, go_sem, Pl.mkP, Int.add_assoc]
theorem Qkk (a b : List Int) (g1 g2 k : Nat) (h1 : a.length <= 1048576) (h2 : b.length <= 1048576) (hk : k <= 50000000) : Does Tryz.prog 74 [.agg [.osl 0 g1 0 a.length, .osl 1 g2 0 b.length], .d (dI k)] [.arr g1 1 3 (a.map fun n => [dI n]), .arr g2 1 3 (b.map fun n => [dI n])]
 [.osl 0 g1 0 a.length, .osl 1 g2 0 b.length] (.d (dI ((k + a.length + b.length : Nat) : Int))) [.arr g1 1 3 ((Pl.mk (fun i => ((k + i : Nat) : Int)) a a.length).map fun n => [dI n]), .arr g2 1 3 ((Pl.mk (fun i => ((k + a.length + i : Nat) : Int)) b b.length).map fun n => [dI n])] := by
 have c1 := Qh7 a g1 k h1 (by omega);have c2 := Qh7 b g2 (k + a.length) h2 (by omega);refine Qb9 Tryz.func74 rfl Tryz.ntmps74 Tryz.results74 rfl rfl ?hpin (fun gvs => ?_)
 case hpin =>
  intro i C hC
  match i, hC with
  |0, hC => obtain rfl := Option.some.inj hC; exact ⟨_, rfl, rfl, rfl, .inr ⟨rfl, by rw [List.length_map, List.length_map, QcE _ (Nat.le_refl _)], 0, a.length, by simp⟩⟩
  |1, hC => obtain rfl := Option.some.inj hC; exact ⟨_, rfl, rfl, rfl, .inr ⟨rfl, by rw [List.length_map, List.length_map, QcE _ (Nat.le_refl _)], 0, b.length, by simp⟩⟩
 simp only [parA, gslot, Nat.zero_add, Nat.reduceAdd]
 (refine Qbf (Qbc ?_); (repeat (first | refine e1 (k := ?_) | refine e2 (k := ?_) | fail)); refine Qbd ?_)
 (repeat' (first | refine e1 (k := ?_) | refine (QbW [0] c1 Tryz.call133 (hgl := fun g hg => by rw [List.mem_singleton.1 hg]; simp [AV.parts, AV.ren, rho, go_sem]) (k := ?_)) | refine (QbW [1] c2 Tryz.call133 (hgl := fun g hg => by rw [List.mem_singleton.1 hg]; simp [AV.parts, AV.ren, rho, go_sem]) (k := ?_)) | refine Qbd ?_ | refine Qbf ?_ | refine Qbc ?_ | fail))
 refine Qcm [4, 1000000] 2 (h := ?_);exact QbN (hx := rfl) (hH := rfl)
def Pl.mkB (s : Pm.Store) (gs : Nat -> Nat) (k : Nat) : List Blk := [.arr (gs 0) 1 9 ((Pl.mk (fun i => Pm.mt (k + i)) s.1 s.1.length).map fun s => [dS s]),
 .arr (gs 1) 1 3 ((Pl.mk (fun i => ((k + s.1.length + i : Nat) : Int)) s.2.1.1 s.2.1.1.length).map fun n => [dI n]), .arr (gs 2) 1 3 ((Pl.mk (fun i => ((k + s.1.length + s.2.1.1.length + i : Nat) : Int)) s.2.1.2 s.2.1.2.length).map fun n => [dI n]),
 .arr (gs 3) 5 54 (Pl.mk (Pl.mkP (k + s.1.length + s.2.1.1.length + s.2.1.2.length)) (s.2.2.2.1.map rPtr) s.2.2.2.1.length), .arr (gs 4) 5 54 (Pl.mk (Pl.mkP (k + s.1.length + s.2.1.1.length + s.2.1.2.length + 5 * s.2.2.2.1.length)) (s.2.2.2.2.2.1.map rPtr) s.2.2.2.2.2.1.length)]
theorem Qkj (s : Pm.Store) (k : Nat) (h1 : s.1.length <= 1048576) (h2 : s.2.1.1.length <= 1048576) (h3 : s.2.1.2.length <= 1048576) (h4 : s.2.2.2.1.length <= 1048576) (h5 : s.2.2.2.2.2.1.length <= 1048576) (hk0 : 0 < k) (hk : k <= 1000) :
 Does Tryz.prog 27 [.agg [.osl 0 0 0 s.1.length, .osl 1 0 0 s.2.1.1.length, .osl 2 0 0 s.2.1.2.length, .d (dI s.2.2.1), .osl 3 0 0 s.2.2.2.1.length, .d (dI s.2.2.2.2.1), .osl 4 0 0 s.2.2.2.2.2.1.length, .d (dB s.2.2.2.2.2.2)], .d (dI k)]
  [.arr 0 1 9 (s.1.map fun s => [dS s]), .arr 0 1 3 (s.2.1.1.map fun n => [dI n]), .arr 0 1 3 (s.2.1.2.map fun n => [dI n]), .arr 0 5 54 (s.2.2.2.1.map rPtr), .arr 0 5 54 (s.2.2.2.2.2.1.map rPtr)]
  [.osl 0 0 0 s.1.length, .osl 1 0 0 s.2.1.1.length, .osl 2 0 0 s.2.1.2.length, .osl 3 0 0 s.2.2.2.1.length, .osl 4 0 0 s.2.2.2.2.2.1.length]
  (.d (dI ((k + s.1.length + s.2.1.1.length + s.2.1.2.length + 5 * s.2.2.2.1.length + 5 * s.2.2.2.2.2.1.length : Nat) : Int))) (Pl.mkB s (fun _ => 0) k) := by
 have c1 := Qh5 s.1 0 k h1 hk0 (by omega);have c2 := Qkk s.2.1.1 s.2.1.2 0 0 (k + s.1.length) h2 h3 (by omega);have c3 := Qh6 s.2.2.2.1 0 (k + s.1.length + s.2.1.1.length + s.2.1.2.length) h4 (by omega);have c4 := Qh6 s.2.2.2.2.2.1 0 (k + s.1.length + s.2.1.1.length + s.2.1.2.length + 5 * s.2.2.2.1.length) h5 (by omega);refine Qb9 Tryz.func27 rfl Tryz.ntmps27 Tryz.results27 rfl rfl ?hpin (fun gvs => ?_)
 case hpin =>
  intro i C hC
  match i, hC with
  |0, hC => obtain rfl := Option.some.inj hC; exact ⟨_, rfl, rfl, rfl, .inr ⟨rfl, by rw [List.length_map, List.length_map, QcE _ (Nat.le_refl _)], 0, s.1.length, by simp⟩⟩
  |1, hC => obtain rfl := Option.some.inj hC; exact ⟨_, rfl, rfl, rfl, .inr ⟨rfl, by rw [List.length_map, List.length_map, QcE _ (Nat.le_refl _)], 0, s.2.1.1.length, by simp⟩⟩
  |2, hC => obtain rfl := Option.some.inj hC; exact ⟨_, rfl, rfl, rfl, .inr ⟨rfl, by rw [List.length_map, List.length_map, QcE _ (Nat.le_refl _)], 0, s.2.1.2.length, by simp⟩⟩
  |3, hC => obtain rfl := Option.some.inj hC; exact ⟨_, rfl, rfl, rfl, .inr ⟨rfl, by rw [QcE _ (by rw [List.length_map]; exact Nat.le_refl _)], 0, s.2.2.2.1.length, by simp⟩⟩
  |4, hC => obtain rfl := Option.some.inj hC; exact ⟨_, rfl, rfl, rfl, .inr ⟨rfl, by rw [QcE _ (by rw [List.length_map]; exact Nat.le_refl _)], 0, s.2.2.2.2.2.1.length, by simp⟩⟩
 simp only [parA, gslot, Nat.zero_add, Nat.reduceAdd]
 (refine Qbf (Qbc ?_); (repeat (first | refine e1 (k := ?_) | refine e2 (k := ?_) | fail)); refine Qbd ?_)
 (repeat' (first | refine e1 (k := ?_) | refine (QbW [0] c1 Tryz.call28 (hgl := fun g hg => by rw [List.mem_singleton.1 hg]; simp [AV.parts, AV.ren, rho, go_sem]) (k := ?_)) | refine (QbW [1, 2] c2 Tryz.call74 (hgl := fun g hg => by simp only [List.mem_cons, List.not_mem_nil, or_false] at hg; rcases hg with rfl | rfl <;> simp [AV.parts, AV.ren, rho, go_sem]) (k := ?_)) | refine (QbW [3] c3 Tryz.call75 (hgl := fun g hg => by rw [List.mem_singleton.1 hg]; simp [AV.parts, AV.ren, rho, go_sem]) (k := ?_)) | refine (QbW [4] c4 Tryz.call75 (hgl := fun g hg => by rw [List.mem_singleton.1 hg]; simp [AV.parts, AV.ren, rho, go_sem]) (k := ?_)) | refine Qbd ?_ | refine Qbf ?_ | refine Qbc ?_ | fail))
 refine Qcm [4, 1000000] 5 (h := ?_);exact QbN (hx := rfl) (hH := rfl)
theorem Qmr (l : List (List UInt8)) (k : Nat) (hk0 : 0 < k) (hl : l.length <= 1000000) (hk : k <= 100000000) (hm : ∀ i, i < l.length -> l[i]? = some (Pm.mt (k + i))) : Pure Tryz.prog 29 [dStrs l, dI k] (dI ((k + l.length : Nat) : Int)) := by
 (refine Qbk Tryz.func29 rfl Tryz.ntmps29 Tryz.results29 rfl ?_; simp only [parE, Nat.zero_add, Nat.reduceAdd])
 (repeat (first | refine e1 (k := ?_) | refine Qbd ?_ | refine Qbf ?_ | refine Qbc ?_ | refine Qbi ?_ | fail))
 refine Qby (fun m st => ∃ i : Nat, i <= l.length /\ m = l.length - i /\ st = ⟨22, [(0, .d (dStrs l)), (5, .d (dI i)), (1, .d (dI ((k + i : Nat) : Int)))], []⟩) [0, 5, 1] 0 l.length ⟨0, by omega, rfl, by simp [keepE, go_sem]⟩ (round := ?_);rintro m st ⟨i, hi, rfl, rfl⟩
 (repeat (first | refine e1 (k := ?_) | refine Qbd ?_ | refine Qbf ?_ | refine Qbc ?_ | fail))
 cases q3 : decide ((i : Int) < (l.length : Int))
 ·have : i = l.length := by simp at q3; omega
  subst this
  (repeat' (first | refine e1 (k := ?_) | refine Qbd ?_ | refine Qbf ?_ | refine Qbc ?_ | refine Qbm (hf := ?_) | refine Qbq ?_ | fail))
  exact Qbn (hx := rfl)
 have hi2 : i < l.length := by simp at q3; omega
 have hr := Qbx (f := fun s => [dS s]) (hm i hi2);have c := QhK (k + i) (by omega) (by omega);have hki : ((k + i : Nat) : Int) + 1 = ((k + (i + 1) : Nat) : Int) := by omega
 (repeat' (first | refine f1 (k := ?_) | refine e1 (k := ?_) | refine stepD (Qbe Tryz.call76 c rfl) (k := ?_) | refine stepD (Qbh Ty.h rfl Ty.h rfl rfl rfl (by omega) hr) (k := ?_) | refine stepS (Qbs rfl rfl (by omega)) (k := ?_) | refine stepD (QbH rfl rfl) (k := ?_) | refine Qbd ?_ | refine Qbp ?_ | refine Qb0 ?_ | refine Qbr ?_ | refine Qbf ?_ | refine Qbc ?_ | refine Qb1 follows_mixed (by kernel_rfl) (by kernel_rfl) ?_ | refine Qbl (ht := ?_) | refine Qbo (ht := fun q => ?_) (hf := fun q => ?_) | refine Qbj ?_ | refine Qbi ?_ | fail))
 all_goals first
  |(exfalso; simp at *; done)
  |(refine Qbt (l.length - (i + 1)) (by omega) ⟨i + 1, by omega, rfl, ?_⟩
    rw [<- hki]
    simp [keepE, go_sem]; done)
theorem QkC {s : Pm.Store} {x : List (List UInt8)} {k : Nat} : ∀ y ∈ Pl.thg s x k, y.1 = k := by
 intro y hy;unfold Pl.thg at hy;split at hy
 ·cases hy
 ·rw [List.mem_singleton.1 hy]
theorem ths_lt {s : Pm.Store} {x : List (List UInt8)} {n : Nat} : ∀ y ∈ Pl.ths s x n, y.1 < n := by
 intro y hy;unfold Pl.ths at hy;obtain ⟨k, hk, hy⟩ := List.mem_flatMap.1 hy;rw [QkC y hy];exact List.mem_range.1 hk
theorem QkB (s : Pm.Store) (x : List (List UInt8)) : ∀ n, (Pl.ths s x n).Pairwise fun a b => a.1 < b.1
 |0 => .nil
 |n + 1 => by
  rw [QeL, List.pairwise_append];refine ⟨QkB s x n, ?_, fun a ha b hb => by rw [QkC b hb]; exact ths_lt a ha⟩;unfold Pl.thg;split
  ·exact .nil
  ·exact List.pairwise_singleton ..
theorem flatB {s : Pm.Store} {t : Pl.Tree} (h : Pl.Qaq s t = true) : Pl.FlatB (Pl.QaM s t) := by
 obtain ⟨L, hL, hll, hfd⟩ := Qc5 h;have hF := (Qdz s t).1 h;obtain ⟨htx, hx16, _⟩ := QeM hF.tab;rw [Qdn hfd];refine ⟨QkB _ _ _, fun n hn => ?_, hll, by have := Qgi s (Pl.Qaa s t) (Pl.Qaa s t).length; simp only; omega⟩
 have hk : Pl.Qad (Pl.Qab (Pl.Qaa s t)) n.2 ≠ 0 := by
  rcases hL.fd.kinds n.2 (List.mem_map.2 ⟨n, hn, rfl⟩) with h | ⟨h, _⟩ <;> rw [h] <;> decide
 have hlt := Qca hk;rw [List.length_map] at hlt;refine ⟨(n.2, ((Pl.Qab (Pl.Qaa s t)).getD n.2 Pl.zn).kind == 2, Pl.Qa9 s ((Pl.Qab (Pl.Qaa s t)).getD n.2 Pl.zn)), ?_, rfl⟩;refine List.mem_flatMap.2 ⟨n.2, List.mem_range.2 hlt, ?_⟩;unfold Pl.thg; rw [if_neg hk]; exact List.mem_singleton.2 rfl
theorem QcU {P : Program} {dst : Option Tmp} {ty : TypeId} {pos : String} {after : Array Edge} {gd : Option (Nat × Bool)} {env : List (Nat × AV)} {H : List Blk} {f : FuncId} {xs : Array Operand} {tys : Array TypeId} {ds : List D} {x : D}
 (hf : ∀ args w, (callFunc f args).run P w = .ok (.enter f args) w) (h : Pure P f ds x) (hx : x.flat = true) (hd : D.weakL (xs.toList.map fun u => (aval env u).ice H 4) = ds) :
 Loc P ⟨dst, .call ⟨.value (.func f), xs, tys⟩, ty, pos, after, gd⟩ env H (.d x) none := Qfo hf (h.arg hd) hx rfl
theorem Qfw (l : List (List UInt8)) : (l.map fun s => [dS s]).all (fun r => r.all D.flat) = true := by
 rw [List.all_eq_true];intro r hr;obtain ⟨x, _, rfl⟩ := List.mem_map.1 hr;rfl
theorem Qmf (s t : List UInt8) (hs : s.length <= 1000000) : Pure Tryz.prog 79 [dS s, dS t] (dB (Lib.contains s t)) :=
 QbI (vs := [.string ⟨s.toArray⟩, .string ⟨t.toArray⟩]) rfl fun w hL => by
  obtain ⟨m, hm⟩ := hL.maxl;exact (Tryz.strings_Contains ⟨s.toArray⟩ ⟨t.toArray⟩ m w (by rw [Pm.QeJ]; omega) hm).mono fun e w' h => ⟨h.1, h.2 ▸ Below.refl _ _⟩
theorem occ_eq {s t : List UInt8} {k : Nat} : (((s.take (k + t.length)).drop k) == t) = Lib.occAt s t k := by
 rw [List.drop_take, Nat.add_sub_cancel_left, Bool.eq_iff_iff, beq_iff_eq];unfold Lib.occAt;rw [List.isPrefixOf_iff_prefix, List.prefix_iff_eq_take];exact eq_comm
theorem has_not {s t : List UInt8} {k : Nat} (h : Lib.NoOcc s t k) (hk : s.length < k + t.length) : Lib.contains s t = false := by
 unfold Lib.contains
 by_cases ht : t = []
 ·subst ht
  have h0 := h 0 (by simp at hk; omega);unfold Lib.occAt at h0;simp at h0
 ·rw [Lib.index_past ht h hk]; rfl
theorem has_yes {s t : List UInt8} {k : Nat} (h : Lib.NoOcc s t k) (hk : k + t.length <= s.length) (ho : Lib.occAt s t k = true) : Lib.contains s t = true := by
 unfold Lib.contains;rw [Lib.index_hit h (by omega) ho];exact decide_eq_true (Int.natCast_nonneg k)
theorem al33Has (s t : List UInt8) (hs : s.length <= 1000000) (ht : t.length <= 1000000000) : Pure Tryz.prog 77 [dS s, dS t] (dB (Lib.contains s t)) := by
 obtain ⟨r, hr⟩ : ∃ r, Lib.contains s t = r := ⟨_, rfl⟩;rw [hr]
 (refine Qbk Tryz.func77 rfl Tryz.ntmps77 Tryz.results77 rfl ?_; simp only [parE, Nat.zero_add, Nat.reduceAdd])
 (repeat' (first | refine e1 (k := ?_) | refine Qbd ?_ | refine Qbf ?_ | refine Qbc ?_ | refine Qbi ?_ | fail))
 refine Qby (fun m st => ∃ k : Nat, k <= s.length + 1 /\ m = s.length + 1 - k /\ Hid (Lib.NoOcc s t k) /\ st = ⟨24, [(5, .d (dI k)), (0, .d (dS s)), (1, .d (dS t))], []⟩) [5, 0, 1] 0 (s.length + 1) ⟨0, by omega, rfl, Pm.hid (Lib.NoOcc.zero s t), by simp [keepE, go_sem]⟩ (round := ?_);rintro m st ⟨k, hk, rfl, hA, rfl⟩
 by_cases hle : k + t.length <= s.length
 rotate_left
 ·have hf := has_not hA.out (by omega)
  rw [hr] at hf; subst hf;clear hA hr
  (repeat' (first | refine e1 (k := ?_) | refine stepS (Qbs rfl rfl (by omega)) (k := ?_) | refine Qbd ?_ | refine Qbf ?_ | refine Qbc ?_ | refine Qbo (ht := fun q => ?_) (hf := fun q => ?_) | refine Qbj ?_ | refine Qbi ?_ | refine Qbq ?_ | fail))
  all_goals first
   |exact Qbn (hx := rfl)
   |(exfalso; simp at *; omega)
 have hy := Pm.hid fun ho => has_yes hA.out hle ho
 have hn := Pm.hid fun ho => Lib.NoOcc.succ hA.out (i := k) ho
 have ho : Hid (((s.take ((k : Int) + (t.length : Int)).toNat).drop (k : Int).toNat == t) = Lib.occAt s t k) := Pm.hid (by
  rw [<- Int.natCast_add, Int.toNat_natCast, Int.toNat_natCast]; exact occ_eq)
 rw [hr] at hy;clear hA hr;generalize Lib.occAt s t k = b at *
 (repeat' (first | refine e1 (k := ?_) | refine stepS (Qey rfl rfl rfl rfl (by omega) (by omega) (by omega)) (k := ?_) | refine stepS (Qbs rfl rfl (by omega)) (k := ?_) | refine stepS (Qcj rfl rfl) (k := ?_) | refine Qbd ?_ | refine Qbp ?_ | refine Qbf ?_ | refine Qbc ?_ | refine Qbo (ht := fun q => ?_) (hf := fun q => ?_) | refine Qbj ?_ | refine Qbi ?_ | refine Qbq ?_ | fail))
 all_goals first
  |(exfalso; simp at *; done)
  |(exfalso; simp at *; omega)
  |exact Qbt (s.length + 1 - (k + 1)) (by omega) ⟨k + 1, by omega, rfl, Pm.hid (hn.out (ho.out.symm.trans q)), by simp [keepE, go_sem]⟩
  |(refine Qbn (hx := ?_); rw [hy.out (ho.out.symm.trans q)])
theorem Qna (s : List UInt8) (n : Int) : (Pl.fill s n).1.length <= 12 := by
 unfold Pl.fill;split
 ·rename_i h
  unfold Pl.inR at h;simp only [Bool.and_eq_true, decide_eq_true_eq] at h;simp only [List.length_append, List.length_replicate]; omega
 ·exact Nat.zero_le _
theorem QfH (size : Int) (x : List (List UInt8)) : ∀ n, (Pl.Qa5 size x n).length <= 12 * n
 |0 => by simp [Pl.Qa5]
 |n + 1 => by
  rw [QdR, List.length_append];have := QfH size x n;have := Qna (x.getD n []) (Pl.QaD size n);omega
theorem Ql5 (s : Pm.Store) (n : Pl.Node) : (Pl.Qa9 s n).length <= 192 := by
 unfold Pl.Qa9;split
 ·rename_i h
  unfold Pl.Qam at h;simp only [Bool.and_eq_true] at h;have := Qcr h.1.2;have := QfH n.size ((Pl.Qae s n.tree).1.map fun p => (Pl.rd s.1 p).1) (Pl.Qae s n.tree).1.length;omega
 ·exact Nat.zero_le _
theorem Qmy {s : Pm.Store} {x : List (List UInt8)} {n : Nat} : ∀ y ∈ Pl.ths s x n, y.2.2.length <= 192 := by
 intro y hy;unfold Pl.ths at hy;obtain ⟨k, hk, hy⟩ := List.mem_flatMap.1 hy;unfold Pl.thg at hy;split at hy
 ·cases hy
 ·rw [List.mem_singleton.1 hy]; exact Ql5 ..
end Aw
end Go.Proofs.YtdjkdcokjoiokaaGreatDoor

/- Part 24 of seek_card: contracts, walks, laws; no condition beyond the statement's. -/
import Derived.Test.YtdjkdcokjoiokaaGreatDoorW22
import Derived.Test.YtdjkdcokjoiokaaGreatDoorW23
set_option linter.all false
set_option maxRecDepth 100000
set_option maxHeartbeats 4000000
namespace Go.Proofs.YtdjkdcokjoiokaaGreatDoor
section
open Go.RowKit
namespace Aw
attribute [local irreducible] ASeq ADraw AWP Loc
theorem Qnm (s : Pm.Space) (h1 : s.1.length <= Pm.big) (h2 : s.2.length <= Pm.big) (h3 : ∀ n ∈ s.1, Pm.InI n) (h4 : ∀ n ∈ s.2, Pm.InI n) : Pure Tryz.prog 215 [dSpace s] (dB (Pl.spaceOk s)) := by
 intro B σ S H w cargs hB hS hl hr;obtain ⟨v, rfl⟩ := Qie hl;have hv := hr 0 _ v rfl rfl;cases hv with
 |agg _ cs hl2 hc =>
  obtain ⟨x, y, rfl⟩ : ∃ x y, cs = [x, y] := by
   match cs, hl2 with
   |[x, y], _ => exact ⟨x, y, rfl⟩
  obtain ⟨A1, c1, rfl, ha1⟩ := QfV (hc 0 _ x rfl rfl) hS.lt h3;obtain ⟨A2, c2, rfl, ha2⟩ := QfV (hc 1 _ y rfl rfl) hS.lt h4;refine (Pm.Ql3 A1 A2 c1 c2 s w h1 ha1 h2 ha2).mono ?_;rintro e w' ⟨rfl, hb⟩;exact ⟨_, rfl, hb, .v _⟩
end Aw
end
section
open Go.RowKit
namespace Aw
attribute [local irreducible] ASeq ADraw AWP Loc AStep Fg.PlanF Fg.Flts
theorem Qnp (n : Pl.Node) : Pure Tryz.prog 328 [dNode n] (dS (Pl.Qa1 n)) := by
 have hd : Hid (Pl.Qa1 n = if Pl.Qak n then Pl.fp (Pl.Qar n) else []) := Pm.hid rfl;have c1 := bNodeOk n
 (refine Qbk Tryz.func328 rfl Tryz.ntmps328 Tryz.results328 rfl ?_; simp only [parE, Nat.zero_add, Nat.reduceAdd])
 (refine Qbf (Qbc ?_); (repeat (first | refine e1 (k := ?_) | refine e2 (k := ?_) | fail)); refine Qbd ?_)
 refine Qbg 0 (h := ?_);cases h1 : Pl.Qak n
 ·rw [h1] at c1
  (repeat' (first | refine e1 (k := ?_) | refine stepS (Qbe Tryz.call309 c1 rfl) (k := ?_) | refine Qbd ?_ | refine Qbf ?_ | refine Qbc ?_ | refine Qbl (ht := ?_) | fail))
  refine Qbn (hx := ?_);rw [hd.out, h1]; rfl
 rw [h1] at c1;have hb := QcI h1
 have hL : ∀ x ∈ Pl.Qar n, x.length <= 4294967296 := by
  intro x hx;have hdl : ∀ k, k <= 4294967296 -> (Pl.dec k).length <= 4294967296 := fun k hk => Nat.le_trans (Pl.Qbv 10 k (by omega)) (by decide)
  have h1 := hb.kind;have h2 := hb.links;have h3 := hb.size;have h4 := hb.depth;have h5 := hb.many;simp only [Pl.Qar, List.mem_cons, List.not_mem_nil, or_false] at hx;rcases hx with rfl | rfl | rfl | rfl | rfl | rfl | rfl
  ·exact hdl _ (by omega)
  ·exact hdl _ (by omega)
  ·exact hdl _ (by omega)
  ·exact Nat.le_trans (Pm.ptrPut_len _) (by decide)
  ·exact hdl _ (by omega)
  ·exact hdl _ (by omega)
  ·decide
 have c5 := (Qkz (Pl.Qar n) (by simp [Pl.Qar, Pm.big]) hL).arg (l := [tStrs (Pl.Qar n)]);rw [<- Qef hb] at c5;have hk := hb.kind;have hk2 := hb.links;have hk3 := hb.size;have hk4 := hb.depth;have hk5 := hb.many
 have c2 := Qme [n.kind, n.links, n.size] (by simp) (by
  intro x hx;simp only [List.mem_cons, List.not_mem_nil, or_false] at hx;unfold Pm.InI
  rcases hx with rfl | rfl | rfl <;> omega)
 have c3 := Qi9 n.tree (by unfold Pm.InI; omega) (by unfold Pm.InI; omega);simp only [List.map_cons, List.map_nil, List.length_cons, List.length_nil, Nat.zero_add, Nat.reduceAdd] at c2;simp only [Pl.QbY] at c3;simp only [Pl.QbY, List.map_cons, List.map_nil, List.cons_append, List.nil_append] at c5
 (repeat' (first | refine f1 (k := ?_) | refine e1 (k := ?_) | refine stepS (Qbe Tryz.call309 c1 rfl) (k := ?_) | refine stepD (Qbe Tryz.call173 c3 rfl) (k := ?_) | refine (Fg.awp_drawF (id := 3) [8, 9, 12] [7, 11, 13] follows_mixed (by kernel_rfl) (by kernel_rfl) (by kernel_rfl) ?_) | refine (Fg.aw_flt (k := ?_)) | refine (Fg.aw_fltL (hl := fun H => Qjc Ty.h rfl Ty.h) (k := ?_)) | refine (Fg.aw_fltN ?_) | refine (Fg.aw_planFC (by rfl) (by kernel_rfl) rfl ?_) | refine (Fg.aw_planFN ?_) | refine (QeU [1] c2 Tryz.call248 (k := ?_)) | refine (Qjy Ty.h rfl Ty.h (hcell := ?_) (hb := ?_) (kk := ?_)) | refine stepD (Qfo Tryz.call246 c5 rfl) (k := ?_) | refine stepD2 (Qbz Ty.h rfl Ty.h) (k := ?_) | refine Qbd ?_ | refine Qbr ?_ | refine QbE ?_ | refine Qbf ?_ | refine Qbc ?_ | refine Qbm (hf := ?_) | refine Qbj ?_ | fail))
 ·intro r hr d hd
  simp only [List.map_cons, List.map_nil, List.mem_cons, List.not_mem_nil, or_false] at hr;rcases hr with rfl | rfl | rfl <;> (obtain rfl := List.mem_singleton.1 hd; rfl)
 ·simp
 ·intro r hr d hd
  obtain rfl := List.mem_singleton.1 hr;obtain rfl := List.mem_singleton.1 hd;rfl
 ·simp
 ·refine Qbn (hx := ?_)
  rw [hd.out, h1, if_pos rfl, <- Qef hb]; rfl
end Aw
end
section
open Go.RowKit
namespace Aw
attribute [local irreducible] ASeq ADraw AWP Loc
theorem bTreeOf (x y z : List UInt8) (hx : x.length <= 2048) (hy : y.length <= 2048) (hz : z.length <= 2048) :
 Pure Tryz.prog 103 [tStrs [x, y, z]] (.tup [dTree ⟨(Pl.pg x).1, ((Pl.numGet y).getD 0 : Nat), ((Pl.numGet z).getD 0 : Nat)⟩, dB ((Pl.pg x).2 && (Pl.numGet y).isSome && (Pl.numGet z).isSome)]) := by
 have c1 := bPtrGet x (by omega);have c2 := bNumGet y (by unfold Pm.big; omega);have c3 := bNumGet z (by unfold Pm.big; omega);generalize (Pl.numGet y).getD 0 = n1 at *
 generalize (Pl.numGet z).getD 0 = n2 at *
 generalize (Pl.numGet y).isSome = o1 at *
 generalize (Pl.numGet z).isSome = o2 at *
 generalize Pl.pg x = pp at *
 obtain ⟨⟨p1, p2, p3, p4, p5⟩, okp⟩ := pp
 (refine Qb2 Tryz.func103 rfl Tryz.ntmps103 Tryz.results103 rfl ?_; simp only [parE, Nat.zero_add, Nat.reduceAdd])
 (repeat' (first | refine e1 (k := ?_) | refine e0 (k := ?_) | refine stepS (Qbe Tryz.call170 c1 rfl) (k := ?_) | refine stepS (Qbe Tryz.call102 c2 rfl) (k := ?_) | refine stepS (Qbe Tryz.call102 c3 rfl) (k := ?_) | refine stepS (Qbh Ty.h rfl Ty.h rfl rfl rfl (by omega) rfl) (k := ?_) | refine Qbu (kk := ?_) | refine Qbd ?_ | refine Qbf ?_ | refine Qbc ?_ | refine e2 (k := ?_) | ((fail_if_success show ASeq _ _ _ _ ⟨_, (_, .d (.v (.bool true))) :: _, _⟩); (fail_if_success show ASeq _ _ _ _ ⟨_, (_, .d (.v (.bool false))) :: _, _⟩); refine splitS (fun q => ?_) (fun q => ?_))))
 all_goals
  (refine Qbg 0 (h := ?_); refine QbA (hx := ?_))
  simp_all
theorem Qnq (s : List UInt8) (hs : s.length <= Pm.big) : Pure Tryz.prog 287 [dS s] (.tup [dNode (Pl.ng s).1, dB (Pl.ng s).2]) := by
 have c := Qk0 s hs;rcases QiR s with ⟨hr, hok⟩ | h0;rotate_left
 ·have hn : Hid (Pl.ng s = (Pl.zn, false)) := Pm.hid (QeN (.inl (by rw [h0])))
  rw [h0] at c
  (refine Qb2 Tryz.func287 rfl Tryz.ntmps287 Tryz.results287 rfl ?_; simp only [parE, Nat.zero_add, Nat.reduceAdd])
  (repeat' (first | refine e1 (k := ?_) | refine e0 (k := ?_) | refine stepS (Qbe Tryz.call101 c rfl) (k := ?_) | refine Qbu (kk := ?_) | refine Qbd ?_ | refine Qbf ?_ | refine Qbc ?_ | refine Qbl (ht := ?_) | refine e2 (k := ?_) | fail))
  (refine Qbg 0 (h := ?_); refine QbA (hx := ?_))
  rw [hn.out]; rfl
 by_cases h7 : (Pl.rg s).1.length = 7
 rotate_left
 ·have hn : Hid (Pl.ng s = (Pl.zn, false)) := Pm.hid (QeN (.inr h7))
  rw [hok] at c;generalize (Pl.rg s).1 = l at *
  clear hr hok
  (refine Qb2 Tryz.func287 rfl Tryz.ntmps287 Tryz.results287 rfl ?_; simp only [parE, Nat.zero_add, Nat.reduceAdd])
  (repeat' (first | refine e1 (k := ?_) | refine stepS (Qbe Tryz.call101 c rfl) (k := ?_) | refine Qbu (kk := ?_) | refine Qbd ?_ | refine Qbf ?_ | refine Qbc ?_ | refine Qbo (ht := fun q => ?_) (hf := fun q => ?_) | refine Qbj ?_ | refine e2 (k := ?_) | fail))
  all_goals first
   |(exfalso; simp only [bne_eq_false_iff_eq] at *; omega)
   |((refine Qbg 0 (h := ?_); refine QbA (hx := ?_)); rw [hn.out]; rfl)
 rw [hok] at c;generalize (Pl.rg s).1 = l at *
 match l, h7 with
 |[y1, y2, y3, y4, y5, y6, y7], _ =>
 have hl := QkR hr;have hg := Pm.hid (QnF hr);have cn : ∀ x ∈ [y1, y2, y3, y4, y5, y6, y7], Pure Tryz.prog 102 [dS x] (.tup [dI ((Pl.numGet x).getD 0 : Nat), dB (Pl.numGet x).isSome]) := fun x hx => bNumGet x (by have := hl x hx; unfold Pm.big; omega)
 have c1 := cn y1 (by simp);have c2 := cn y2 (by simp);have c3 := cn y3 (by simp);have hno : ∀ P : Prop, (∀ p, Pl.QaG s p -> P) -> ¬ P -> Pl.ng s = (Pl.zn, false) := fun P h hn => QiX fun p hp => hn (h p hp)
 have f1 : Hid ((Pl.numGet y1).isSome = false -> Pl.ng s = (Pl.zn, false)) := Pm.hid fun e => hno ((Pl.numGet y1).isSome = true) (fun p hp => by rw [(QcC hr hp).1]; rfl) (by rw [e]; simp)
 have f2 : Hid ((Pl.numGet y2).isSome = false -> Pl.ng s = (Pl.zn, false)) := Pm.hid fun e => hno ((Pl.numGet y2).isSome = true) (fun p hp => by rw [(QcC hr hp).2.1]; rfl) (by rw [e]; simp)
 have f3 : Hid ((Pl.numGet y3).isSome = false -> Pl.ng s = (Pl.zn, false)) := Pm.hid fun e => hno ((Pl.numGet y3).isSome = true) (fun p hp => by rw [(QcC hr hp).2.2.1]; rfl) (by rw [e]; simp)
 have f5 : Hid (((Pl.pg y4).2 && (Pl.numGet y5).isSome && (Pl.numGet y6).isSome) = false -> Pl.ng s = (Pl.zn, false)) := Pm.hid fun e => hno (((Pl.pg y4).2 && (Pl.numGet y5).isSome && (Pl.numGet y6).isSome) = true) (fun p hp => by rw [(QcC hr hp).2.2.2.1, (QcC hr hp).2.2.2.2.1, (QcC hr hp).2.2.2.2.2]; rfl) (by rw [e]; simp)
 have cp := Qnp (Pl.Qa7 y1 y2 y3 y4 y5 y6);have t1 := bTreeOf y4 y5 y6 (hl y4 (by simp)) (hl y5 (by simp)) (hl y6 (by simp));obtain ⟨N, hN⟩ : ∃ N, N = Pl.Qa7 y1 y2 y3 y4 y5 y6 := ⟨_, rfl⟩;rw [<- hN] at cp hg;unfold Pl.Qa7 at hN;clear cn hl hr hok hno;generalize (Pl.numGet y1).isSome = o1 at *
 generalize (Pl.numGet y2).isSome = o2 at *
 generalize (Pl.numGet y3).isSome = o3 at *
 generalize ((Pl.pg y4).2 && (Pl.numGet y5).isSome && (Pl.numGet y6).isSome) = o5 at *
 generalize (Pl.numGet y1).getD 0 = n1 at *
 generalize (Pl.numGet y2).getD 0 = n2 at *
 generalize (Pl.numGet y3).getD 0 = n3 at *
 generalize (Pl.numGet y5).getD 0 = n5 at *
 generalize (Pl.numGet y6).getD 0 = n6 at *
 generalize (Pl.pg y4).1 = pp at *
 obtain ⟨p1, p2, p3, p4, p5⟩ := pp;generalize Pl.Qa1 N = t at *
 generalize Pl.ng s = res at *
 subst hN
 (refine Qb2 Tryz.func287 rfl Tryz.ntmps287 Tryz.results287 rfl ?_; simp only [parE, Nat.zero_add, Nat.reduceAdd])
 (repeat' (first | refine e1 (k := ?_) | refine stepS (Qbe Tryz.call101 c rfl) (k := ?_) | refine stepS2 (QmJ Ty.h rfl Ty.h) (k := ?_) | refine stepS (Qin Ty.h rfl rfl rfl) (k := ?_) | refine Qbd ?_ | refine Qbf ?_ | refine Qbc ?_ | refine Qbm (hf := ?_) | refine Qbj ?_ | refine Qbi ?_ | refine e2 (k := ?_) | fail))
 refine Qby (fun m st => ∃ k a b d : Int, ((m = 3 /\ k = 0 /\ a = 0 /\ b = 0 /\ d = 0) ∨ (m = 2 /\ o1 = true /\ k = 1 /\ a = n1 /\ b = 0 /\ d = 0) ∨ (m = 1 /\ o1 = true /\ o2 = true /\ k = 2 /\ a = n1 /\ b = n2 /\ d = 0) ∨ (m = 0 /\ o1 = true /\ o2 = true /\ o3 = true /\ k = 3 /\ a = n1 /\ b = n2 /\ d = n3)) /\
  st = ⟨63, [(0, .d (dS s)), (4, .d (tStrs [y1, y2, y3, y4, y5, y6, y7])), (6, .ptr 1 0 0), (25, .rsl 2 0 3), (26, .d (dI 3)), (27, .d (dI k)), (2, .ptr 0 0 0)],
   [.row 0 [.d (dI 0), .d (dI 0), .d (dI 0), .d (dI 0), .d (dI 0), .d (dI 0), .d (dI 0), .d (dI 0), .d (dI 0), .d (dI 0)], .row 0 [.d (dI a), .d (dI b), .d (dI d), .d (dI 0), .d (dI 0), .d (dI 0), .d (dI 0), .d (dI 0), .d (dI 0), .d (dI 0)], .row 0 [.ptr 1 0 0, .ptr 1 0 1, .ptr 1 0 2]]⟩) [0, 4, 6, 25, 26, 27, 2] 3 3 ⟨0, 0, 0, 0, .inl ⟨rfl, rfl, rfl, rfl, rfl⟩, rfl⟩ (round := ?_)
 rintro m st ⟨k, a, b, d, hcase, rfl⟩;rcases hcase with ⟨rfl, rfl, rfl, rfl, rfl⟩ | ⟨rfl, r1, rfl, rfl, rfl, rfl⟩ | ⟨rfl, r1, r2, rfl, rfl, rfl, rfl⟩ | ⟨rfl, r1, r2, r3, rfl, rfl, rfl, rfl⟩
 ·(repeat' (first | refine e1 (k := ?_) | refine stepS (Qbe Tryz.call102 c1 rfl) (k := ?_) | refine stepS (Qbh Ty.h rfl Ty.h rfl rfl rfl (by decide) rfl) (k := ?_) | refine stepS (Qdl Ty.h rfl Ty.h rfl rfl rfl rfl (by decide) (by decide)) (k := ?_) | refine stepS (Qeh rfl rfl) (k := ?_) | refine stepS (Qbs rfl rfl (by omega)) (k := ?_) | refine Qbu (kk := ?_) | refine Qbd ?_ | refine Qbp ?_ | refine Qbf ?_ | refine Qbc ?_ | refine Qbl (ht := ?_) | refine Qbo (ht := fun q => ?_) (hf := fun q => ?_) | refine Qbj ?_ | refine Qbi ?_ | fail))
  ·(refine Qbg 0 (h := ?_); refine QbA (hx := ?_))
   rw [f1.out (by simp_all)]; rfl
  ·exact Qbt 2 (by decide) ⟨1, n1, 0, 0, .inr (.inl ⟨rfl, by simp_all, rfl, rfl, rfl, rfl⟩), by simp [keepE, go_sem]⟩
 ·(repeat' (first | refine e1 (k := ?_) | refine stepS (Qbe Tryz.call102 c2 rfl) (k := ?_) | refine stepS (Qbh Ty.h rfl Ty.h rfl rfl rfl (by decide) rfl) (k := ?_) | refine stepS (Qdl Ty.h rfl Ty.h rfl rfl rfl rfl (by decide) (by decide)) (k := ?_) | refine stepS (Qeh rfl rfl) (k := ?_) | refine stepS (Qbs rfl rfl (by omega)) (k := ?_) | refine Qbu (kk := ?_) | refine Qbd ?_ | refine Qbp ?_ | refine Qbf ?_ | refine Qbc ?_ | refine Qbl (ht := ?_) | refine Qbo (ht := fun q => ?_) (hf := fun q => ?_) | refine Qbj ?_ | refine Qbi ?_ | fail))
  ·(refine Qbg 0 (h := ?_); refine QbA (hx := ?_))
   rw [f2.out (by simp_all)]; rfl
  ·exact Qbt 1 (by decide) ⟨2, n1, n2, 0, .inr (.inr (.inl ⟨rfl, r1, by simp_all, rfl, rfl, rfl, rfl⟩)), by simp [keepE, go_sem]⟩
 ·(repeat' (first | refine e1 (k := ?_) | refine stepS (Qbe Tryz.call102 c3 rfl) (k := ?_) | refine stepS (Qbh Ty.h rfl Ty.h rfl rfl rfl (by decide) rfl) (k := ?_) | refine stepS (Qdl Ty.h rfl Ty.h rfl rfl rfl rfl (by decide) (by decide)) (k := ?_) | refine stepS (Qeh rfl rfl) (k := ?_) | refine stepS (Qbs rfl rfl (by omega)) (k := ?_) | refine Qbu (kk := ?_) | refine Qbd ?_ | refine Qbp ?_ | refine Qbf ?_ | refine Qbc ?_ | refine Qbl (ht := ?_) | refine Qbo (ht := fun q => ?_) (hf := fun q => ?_) | refine Qbj ?_ | refine Qbi ?_ | fail))
  ·(refine Qbg 0 (h := ?_); refine QbA (hx := ?_))
   rw [f3.out (by simp_all)]; rfl
  ·exact Qbt 0 (by decide) ⟨3, n1, n2, n3, .inr (.inr (.inr ⟨rfl, r1, r2, by simp_all, rfl, rfl, rfl, rfl⟩)), by simp [keepE, go_sem]⟩
 ·(repeat' (first | refine e1 (k := ?_) | refine e0 (k := ?_) | refine stepS (Qlm rfl rfl rfl rfl (by decide) (by decide) (by simp)) (k := ?_) | refine stepS (Qbe Tryz.call103 t1 rfl) (k := ?_) | refine stepS (Qbe Tryz.call328 cp rfl) (k := ?_) | refine stepS (QbH rfl rfl) (k := ?_) | refine Qbu (kk := ?_) | refine Qbd ?_ | refine Qbf ?_ | refine Qbc ?_ | refine Qbl (ht := ?_) | refine Qbm (hf := ?_) | refine Qbo (ht := fun q => ?_) (hf := fun q => ?_) | refine Qbj ?_ | refine Qbq ?_ | ((fail_if_success show ASeq _ _ _ _ ⟨_, (_, .d (.v (.bool true))) :: _, _⟩); (fail_if_success show ASeq _ _ _ _ ⟨_, (_, .d (.v (.bool false))) :: _, _⟩); refine splitS (fun q => ?_) (fun q => ?_))))
  ·(refine Qbg 0 (h := ?_); refine QbA (hx := ?_))
   rw [f5.out (by simp_all)]; rfl
  ·(refine Qbg 0 (h := ?_); refine QbA (hx := ?_))
   rw [hg.out, if_neg (by simpa using q)]; rfl
  ·(refine Qbg 0 (h := ?_); refine QbA (hx := ?_))
   rw [hg.out, if_pos (by simpa using q)]
end Aw
end
section
namespace Aw
theorem Qkq {s : Pm.Store} {p : Pl.Ptr} {n : Int} (h : (Pl.Qan s p n).2 = true) : (Pl.Qan s p n).1.length = 4 := by
 unfold Pl.Qan at h ⊢;split
 ·simp
 ·rename_i h1
  rw [if_neg h1] at h;split at h
  ·rename_i h2
   rw [if_pos h2];split at h
   ·cases h
   ·rename_i h3; rw [if_neg h3]; exact Qjk h
  ·cases h
theorem Qja (s : Pm.Store) : ∀ (n : Nat) (l : List Pl.Ptr), (Pl.lvl s n l).2 = true -> (Pl.lvl s n l).1.length = l.length * 4 ^ n
 |0, l, _ => by simp [Pl.lvl]
 |n + 1, l, h => by
  unfold Pl.lvl at h ⊢;split at h
  ·rename_i h1
   rw [if_pos h1, Qja s n _ h, Qhx _ l fun p hp => Qkq (List.all_eq_true.1 h1 p hp)];rw [Nat.pow_succ, Nat.mul_assoc, Nat.mul_comm 4]
  ·cases h
theorem Qc3 {s : Pm.Store} {t : Pl.Tree} (h : Pl.Qaf s t = true) : t.many.toNat <= (Pl.Qal s t).1.length /\ (∀ p ∈ (Pl.Qal s t).1, Pl.ptrHole p = true ∨ (Pl.rd s.1 p).2 = true) /\ Pl.ptrOk t.root = true := by
 unfold Pl.Qaf at h;simp only [Bool.and_eq_true, beq_iff_eq] at h;obtain ⟨⟨⟨⟨h1, h2⟩, h3⟩, h4⟩, h5⟩ := h;refine ⟨?_, fun p hp => ?_, h3⟩
 ·have := Qja s t.depth.toNat [t.root] h4
  unfold Pl.Qal;rw [this, h2];simp [Pl.inR] at h1;split
  ·simp; omega
  ·split
   ·simp; omega
   ·simp; omega
 ·obtain ⟨i, hi, rfl⟩ := List.getElem_of_mem hp
  rw [List.all_eq_true] at h5;have := h5 ((Pl.Qal s t).1[i], i) (List.mk_mem_zipIdx_iff_getElem?.2 (List.getElem?_eq_getElem hi));unfold Pl.Qax at this;simp only [Bool.or_eq_true, Bool.and_eq_true] at this;rcases this with h | h
  ·exact .inl h
  ·exact .inr h.1.1.1
theorem Qc4 {s : Pm.Store} {t : Pl.Tree} (h : Pl.Qaf s t = true) : (Pl.Qae s t).1.map (fun p => (Pl.rd s.1 p).1) = Pl.Qaa s t := by
 unfold Pl.Qae Pl.Qaa Pl.wide;rw [if_pos h, List.take_append_of_le_length (Qc3 h).1]
theorem rd_hole {rows : List (List UInt8)} {p : Pl.Ptr} (h : Pl.ptrHole p = true) : Pl.rd rows p = ([], true) := by unfold Pl.rd; rw [if_pos h]
theorem QcK {s : Pm.Store} {t : Pl.Tree} (h : Pl.Qaf s t = true) : ∀ p ∈ (Pl.Qae s t).1, Pl.ptrOk p = true /\ ((Pl.rd s.1 p).1 = [] ↔ Pl.ptrHole p = true) := by
 intro p hp
 have hp' : p ∈ (Pl.Qal s t).1 := by
  unfold Pl.Qae at hp;rw [if_pos h] at hp;exact List.mem_of_mem_take hp
 have hok := Qfp s (Qc3 h).2.2 p hp';refine ⟨hok, fun e => ?_, fun e => by rw [rd_hole e]⟩;rcases (Qc3 h).2.1 p hp' with h1 | h1
 ·exact h1
 ·by_cases hh : Pl.ptrHole p = true
  ·exact hh
  ·exfalso
   unfold Pl.rd at e h1;rw [if_neg hh] at e h1;split at h1
   ·rename_i hf
    rw [if_pos hf] at e;simp only at e;rw [e] at hf;unfold Pl.fits at hf;simp only [Bool.and_eq_true, beq_iff_eq] at hf;have hs : p.size = 0 := by simpa using hf.1.2
    have hok2 := hok;unfold Pl.ptrOk at hok2;simp [hh] at hok2;omega
   ·cases h1
theorem Qcr {s : Pm.Store} {t : Pl.Tree} (h : Pl.Qaf s t = true) : (Pl.Qae s t).1.length = t.many.toNat /\ t.many.toNat <= 16 := by
 have h1 := (Qc3 h).1;have h2 := QbL h;have := h2.manyHi;unfold Pl.Qae;rw [if_pos h];refine ⟨by simp; omega, by omega⟩
noncomputable def Pl.ndD (x : List UInt8) : D := if x = [] then .v (.pointer none) else .pd (rNode (Pl.ng x).1)
noncomputable abbrev tNds (l : List (List UInt8)) : D := .sl true 1 (l.map fun x => [Pl.ndD x])
theorem Qlg : Pl.ng [] = (Pl.zn, false) := QiX fun p hp => QkQ hp.2 rfl
theorem QgN {α : Type} {p : α -> Bool} {l : List α} {k : Nat} {x : α} (hx : l[k]? = some x) (h : (l.take k).all p = true) (hp : p x = true) : (l.take (k + 1)).all p = true := by
 rw [List.take_add_one, hx, List.all_append, h]; simpa using hp
theorem QhL {α : Type} {p : α -> Bool} {l : List α} {k : Nat} {x : α} (hx : l[k]? = some x) (hp : p x = false) : l.all p = false := by
 rw [List.all_eq_false]; exact ⟨x, List.mem_of_getElem? hx, by rw [hp]; simp⟩
end Aw
end
end Go.Proofs.YtdjkdcokjoiokaaGreatDoor

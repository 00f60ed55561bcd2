/- Part 40 of the proof of use_card: contracts, walks, plain laws; no condition is assumed beyond those that a statement names. -/
import Derived.Test.YtdjkdcokjoiokaaGreatDoorU25
import Derived.Test.YtdjkdcokjoiokaaGreatDoorU31
import Derived.Test.YtdjkdcokjoiokaaGreatDoorU38
set_option linter.all false
set_option maxRecDepth 100000
set_option maxHeartbeats 8000000
namespace Go.Proofs.YtdjkdcokjoiokaaGreatDoor
open Go.RowKit
namespace Aw
attribute [local irreducible] ASeq ADraw AWP Loc AStep
theorem tree_zn (s : Pm.Store) : Pl.Qae s Pl.zn.tree = true := by
 unfold Pl.Qae Pl.Qan;show (_ && _ && Pl.ptrOk Pl.hole && (Pl.lvl s 0 [Pl.hole]).2 && _) = true;simp [Pl.lvl, QfP, Pl.Qaw, Pl.ptrHole, Pl.inR, Pl.zn]
theorem QkA {s : Pm.Store} {t : Pl.Tree} (h : Pl.Qal s t = true) : ∀ nd ∈ Pl.Qab s t, Pl.Qae s nd.tree = true := by
 intro nd hn;have hF := ((QdI s t).1 h).tab;unfold Pl.Qa5 at hF;rw [Bool.and_eq_true, List.all_eq_true] at hF;unfold Pl.Qab at hn;obtain ⟨x, hx, rfl⟩ := List.mem_map.1 hn;have := hF.2 x hx;rw [Bool.or_eq_true, Bool.and_eq_true] at this;rcases this with h1 | h1
 ·have : x = [] := by simpa using h1
  subst this;rw [QjC]; exact tree_zn s
 ·exact h1.2
theorem al8All (s : Pm.Store) (hg : Pl.Good s) (htx : 0 <= s.2.2.1) (t : Pl.Tree) (hok : Pl.Qae s t = true) : Pure Tryz.prog 65 [dSt s, dTree t] (tPtrs (Pl.allT s t)) := by
 have ht := QbS hok;obtain ⟨e1, e2, e3, e4, _⟩ := QhC (Qgp hok htx);have hall : Hid ([] ++ Pl.allL s [t.root] = Pl.allT s t) := Pm.hid (by unfold Pl.allT Pl.allL; rw [e1]; simp);have hlen := Qfv (s := s) ht.hi;have hL : Hid (Pl.SubL s [t.root]) := Pm.hid fun p hp => by rw [List.mem_singleton.1 hp]; exact ⟨e2, e3⟩
 have hm0 : Pl.todo [t.root] <= 21 := by
  have h1 := QgK (n := t.root.level.toNat) (m := 2) (by have := ht.hi; omega);have h2 : Pl.wgt 2 = 21 := rfl;have h3 : Pl.todo [t.root] = Pl.wgt t.root.level.toNat + 0 := rfl;omega
 generalize Pl.allT s t = all at *
 clear e1 e2 e3 e4 hok ht
 (refine Qbv Tryz.func65 rfl Tryz.ntmps65 Tryz.results65 rfl ?_; simp only [parE, Nat.zero_add, Nat.reduceAdd])
 (refine Qbt (Qbq ?_); (repeat (first | refine e1 (k := ?_) | refine e2 (k := ?_) | fail)); refine Qbr ?_)
 refine Qbu 0 (h := ?_);refine Qbu 1 (h := ?_)
 (repeat' (first | refine e1 (k := ?_) | refine stepS2 (QbD Ty.h rfl Ty.h) (k := ?_) | refine Qbr ?_ | refine Qbt ?_ | refine Qbq ?_ | refine Qbx ?_ | fail))
 refine Qbu 3 (h := ?_)
 refine QbC (fun m st => ∃ (g : Nat) (out l : List Pl.Ptr), m = Pl.todo l /\ Hid (out ++ Pl.allL s l = all) /\ Hid (Pl.SubL s l) /\ Pl.todo l <= 21 /\
  st = ⟨47, [(5, .osl 2 g 0 out.length), (6, .d (tPtrs l)), (2, .d (.pd (rSt s)))], [.row 1 [], .row 1 [], .arr g 5 54 (out.map rPtr)]⟩) [5, 6, 2] 3 (Pl.todo [t.root]) ⟨0, [], [t.root], rfl, hall, hL, hm0, by simp [keepE, go_sem]⟩ (round := ?_)
 rintro m st ⟨g, out, l, rfl, hO, hS, hm, rfl⟩;have hol : out.length <= 21 := by have := congrArg List.length hO.out; rw [List.length_append] at this; omega
 have hll := Qjz l
 (repeat (first | refine e1 (k := ?_) | refine Qbr ?_ | refine Qbt ?_ | refine Qbq ?_ | fail))
 cases l with
 |nil =>
  (repeat' (first | refine e1 (k := ?_) | refine Qbr ?_ | refine Qbt ?_ | refine Qbq ?_ | refine Qb1 (hf := ?_) | refine Qb3 ?_ | fail))
  all_goals first
   |(exfalso; simp at *; done)
   |skip
  (refine Qbu 2 (h := ?_); refine Qb0 (hx := ?_))
  have h := hO.out;rw [show Pl.allL s [] = [] from rfl, List.append_nil] at h;rw [<- h]; simp [List.take_of_length_le]
 |cons p l =>
  have hp := hS.out p (by simp);have hSl : Hid (Pl.SubL s l) := Pm.hid fun q hq => hS.out q (by simp [hq])
  have hr : ((p :: l).map rPtr)[(0 : Int).toNat]? = some (rPtr p) := rfl;have ch := Qck p;have hlt : Pl.todo l < Pl.todo (p :: l) := by rw [Qf0]; have := Ql0 p.level.toNat; omega
  have hll2 := Qjz l;cases hh : Pl.ptrHole p;rotate_left
  ·rw [hh] at ch
   have hO2 : Hid (out ++ Pl.allL s l = all) := Pm.hid (by rw [<- hO.out, Qoo hh])
   (repeat' (first | refine e1 (k := ?_) | refine stepS (Qbs Tryz.call123 ch rfl) (k := ?_) | refine stepS (Qbw Ty.h rfl Ty.h rfl rfl rfl (by omega) hr) (k := ?_) | refine stepS (Qfp rfl rfl rfl (by omega) (by first | (simp; done) | (simp; omega))) (k := ?_) | refine Qd5 Ty.h rfl Ty.h (hb := ?_) (hcell := ?_) (kk := ?_) | refine stepS2 (QbD Ty.h rfl Ty.h) (k := ?_) | refine QbA (kk := ?_) | refine Qbr ?_ | refine Qbt ?_ | refine Qbq ?_ | refine Qbz (ht := ?_) | refine Qb2 (ht := fun q => ?_) (hf := fun q => ?_) | refine Qby ?_ | refine Qc0 ?_ | refine Qbx ?_ | refine e2 (k := ?_) | refine Qb3 ?_ | refine Qlw ?_ | refine QiB ?_ | fail))
   all_goals first
    |exact Qcr l
    |(simp; omega)
    |(exfalso; simp at *; done)
    |skip
   refine Qgh 4 (h := ?_);refine Qb8 (Pl.todo l) hlt ⟨g, out, l, rfl, hO2, hSl, by omega, ?_⟩;simp [keepE, go_sem, List.take_of_length_le]
  ·rw [hh] at ch
   have hob := Qkm s hg p p.level
   by_cases h0 : p.level = 0
   ·have hO2 : Hid ((out ++ [p]) ++ Pl.allL s l = all) := Pm.hid (by rw [<- hO.out, Qon hh h0, List.append_assoc]; rfl)
    have hd0 : decide (p.level > 0) = false := by rw [h0]; rfl
    (repeat' (first | refine e1 (k := ?_) | refine stepS (Qbs Tryz.call123 ch rfl) (k := ?_) | refine stepS (Qbw Ty.h rfl Ty.h rfl rfl rfl (by omega) hr) (k := ?_) | refine stepS (Qfp rfl rfl rfl (by omega) (by first | (simp; done) | (simp; omega))) (k := ?_) | refine Qd5 Ty.h rfl Ty.h (hb := ?_) (hcell := ?_) (kk := ?_) | refine Qcf Ty.h rfl Ty.h (hb := ?_) (kk := ?_) | refine stepS2 (QbD Ty.h rfl Ty.h) (k := ?_) | refine QbA (kk := ?_) | refine Qbr ?_ | refine Qbt ?_ | refine Qbq ?_ | refine Qb1 (hf := ?_) | refine Qb2 (ht := fun q => ?_) (hf := fun q => ?_) | refine Qby ?_ | refine Qc0 ?_ | refine Qbx ?_ | refine e2 (k := ?_) | refine Qb3 ?_ | refine QdC ?_ | fail))
    all_goals first
     |exact Qcr l
     |(simp; omega)
     |(exfalso; simp at *; done)
     |(exfalso; simp at *; omega)
     |skip
    refine Qgh 4 (h := ?_);refine Qb8 (Pl.todo l) hlt ⟨g + 1, out ++ [p], l, rfl, hO2, hSl, by omega, ?_⟩;simp [keepE, go_sem, List.take_of_length_le]
   ·obtain ⟨k1, k2, k3⟩ := Qom (l := l) hh (by omega) hp.1
    have hO2 : Hid ((out ++ [p]) ++ Pl.allL s ((Pl.Qak s p p.level).1 ++ l) = all) := Pm.hid (by rw [<- hO.out, k1, List.append_assoc]; rfl);have hSn : Hid (Pl.SubL s ((Pl.Qak s p p.level).1 ++ l)) := Pm.hid fun q hq => (List.mem_append.1 hq).elim (k2 q) (hSl.out q)
    have hbl := Qdj s p p.level;clear k1 k2;generalize Pl.Qak s p p.level = bb at *
    obtain ⟨bl, bok⟩ := bb;simp only at hO2 hSn hbl k3
    (repeat' (first | refine e1 (k := ?_) | refine stepS (Qbs Tryz.call123 ch rfl) (k := ?_) | refine stepS (Qbs Tryz.call124 hob rfl) (k := ?_) | refine stepS (Qbw Ty.h rfl Ty.h rfl rfl rfl (by omega) hr) (k := ?_) | refine stepS (Qfp rfl rfl rfl (by omega) (by first | (simp; done) | (simp; omega))) (k := ?_) | refine Qd5 Ty.h rfl Ty.h (hb := ?_) (hcell := ?_) (kk := ?_) | refine Qcf Ty.h rfl Ty.h (hb := ?_) (kk := ?_) | refine stepS2 (QbD Ty.h rfl Ty.h) (k := ?_) | refine QbA (kk := ?_) | refine Qbr ?_ | refine Qbt ?_ | refine Qbq ?_ | refine Qb1 (hf := ?_) | refine Qb2 (ht := fun q => ?_) (hf := fun q => ?_) | refine Qby ?_ | refine Qc0 ?_ | refine Qbx ?_ | refine e2 (k := ?_) | refine Qb3 ?_ | refine QdC ?_ | fail))
    all_goals first
     |exact Qcr l
     |exact Qcr bl
     |(simp; omega)
     |(exfalso; simp at *; done)
     |(exfalso; simp at *; omega)
     |skip
    refine QdR 4 (h := ?_)
    (repeat' (first | refine e1 (k := ?_) | refine Qd5 Ty.h rfl Ty.h (hb := ?_) (hcell := ?_) (kk := ?_) | refine QbF ?_ | refine Qc0 ?_ | refine QdC ?_ | fail))
    ·intro r hr
     exact Qcr l r (by simpa [List.take_of_length_le] using hr)
    ·simp; omega
    ·refine Qgh 6 (h := ?_)
     refine Qb8 (Pl.todo (bl ++ l)) k3 ⟨g + 1, out ++ [p], bl ++ l, rfl, hO2, hSn, by omega, ?_⟩;simp [keepE, go_sem, List.take_of_length_le]
theorem Qni (s : Pm.Store) (hl : Pl.Lens s) (t : Pl.Tree) (path : List UInt8) (hp : path.length <= 1000000000000) : Pure Tryz.prog 22 [dSt s, dTree t, dS path] (.tup [dI (Pl.Qa8 s t path (Pl.Qas s)).1, dB (Pl.Qa8 s t path (Pl.Qas s)).2]) := by
 have hd : Hid (Pl.Qa8 s t path (Pl.Qas s) = match Pl.Qah path with
  |none => (0, false)
  |some q => if Pl.Qag s && Pl.Qal s t then (match Pl.Qa4 s (Pl.Qab s t) 0 q with | none => (0, false) | some _ => (Pl.QaQ s t q (Pl.Qas s), true)) else (0, false)) := Pm.hid rfl
 have hf : Hid (Pl.QaD s t path = match Pl.Qah path with
  |none => (0, false)
  |some q => if Pl.Qag s && Pl.Qal s t then (match Pl.Qa4 s (Pl.Qab s t) 0 q with | none => (0, false) | some j => (j, true)) else (0, false)) := Pm.hid rfl
 have c1 := Qls s hl t path hp
 have hno : Hid ((Pl.QaD s t path).2 = false -> Pl.Qa8 s t path (Pl.Qas s) = (0, false)) := Pm.hid fun h => by
  rw [hd.out]; rw [hf.out] at h;cases h1 : Pl.Qah path with
  |none => rfl
  |some q =>
   rw [h1] at h;dsimp only at h ⊢;cases h2 : Pl.Qag s && Pl.Qal s t
   ·rfl
   ·rw [h2] at h
    rw [if_pos rfl] at h ⊢;cases h3 : Pl.Qa4 s (Pl.Qab s t) 0 q with
    |none => rfl
    |some j => rw [h3] at h; cases h
 have hyes : Hid ((Pl.QaD s t path).2 = true -> ∃ q, Pl.Qah path = some q /\ Pl.Qag s = true /\ Pl.Qal s t = true /\ Pl.Qa8 s t path (Pl.Qas s) = (Pl.QaQ s t q (Pl.Qas s), true)) := Pm.hid fun h => by
  rw [hd.out]; rw [hf.out] at h;cases h1 : Pl.Qah path with
  |none => rw [h1] at h; cases h
  |some q =>
   rw [h1] at h;dsimp only at h ⊢;cases h2 : Pl.Qag s && Pl.Qal s t
   ·rw [h2] at h; cases h
   ·rw [h2] at h
    rw [if_pos rfl] at h ⊢;cases h3 : Pl.Qa4 s (Pl.Qab s t) 0 q with
    |none => rw [h3] at h; cases h
    |some j =>
     have : Pl.Qag s = true /\ Pl.Qal s t = true := by simpa using h2
     exact ⟨q, rfl, this.1, this.2, rfl⟩
 clear hd hf;generalize Pl.QaD s t path = r at *
 obtain ⟨j, ok⟩ := r;cases ok
 ·have hx := Pm.hid (hno.out rfl)
  (refine Qbv Tryz.func22 rfl Tryz.ntmps22 Tryz.results22 rfl ?_; simp only [parE, Nat.zero_add, Nat.reduceAdd])
  (refine Qbt (Qbq ?_); (repeat (first | refine e1 (k := ?_) | refine e2 (k := ?_) | fail)); refine Qbr ?_)
  refine Qbu 0 (h := ?_);refine Qbu 1 (h := ?_)
  (repeat' (first | refine e1 (k := ?_) | refine stepS (Qbs Tryz.call54 c1 rfl) (k := ?_) | refine Qbr ?_ | refine Qbt ?_ | refine Qbq ?_ | refine Qbz (ht := ?_) | fail))
  exact Qb0 (hx := by rw [hx.out])
 obtain ⟨q, hq, h1, h2, h3⟩ := hyes.out rfl;have h3 := Pm.hid h3;have hg := QcR h1;have ht := QdJ h2;have c2 := Qnd s hg t path h2 q hq;have c3 := Qi8 s hg t ht;have hnl : (Pl.Qab s t).length <= 16 := by unfold Pl.Qab; rw [List.length_map, texts_len s ht]; have := ht.manyHi; omega
 have hgt : ∀ nd ∈ Pl.Qab s t, Pl.Qae s nd.tree = true := QkA h2;have htx : 0 <= s.2.2.1 := Qf3 h1
 have hB : Hid (∀ k, 0 <= Pl.Qas s ((Pl.Qab s t).getD k Pl.zn) /\ Pl.Qas s ((Pl.Qab s t).getD k Pl.zn) <= 2048) := Pm.hid fun k => by
  have h : ((Pl.Qab s t).getD k Pl.zn).tree.depth <= 2 := by
   rcases Qe4 s t k with h | _
   ·rw [h]; decide
   ·rw [List.getD_eq_getElem?_getD]
    cases hk : (Pl.Qab s t)[k]? with
    |none => decide
    |some nd => exact (QbS (hgt nd (List.mem_of_getElem? hk))).hi
  have := Qfv (s := s) h;unfold Pl.Qas;omega
 have hsb : Hid (Pl.QaQ s t q (Pl.Qas s) = Pl.QaC (fun k => if Pl.isIn (Pl.Qa9 s t).1 q k then Pl.Qas s ((Pl.Qab s t).getD k Pl.zn) else 0) (Pl.Qab s t).length) := Pm.hid rfl;clear hno hyes hq h1 h2 ht hp;generalize Pl.Qab s t = ns at *
 generalize (Pl.Qa9 s t).1 = out at *
 (refine Qbv Tryz.func22 rfl Tryz.ntmps22 Tryz.results22 rfl ?_; simp only [parE, Nat.zero_add, Nat.reduceAdd])
 (refine Qbt (Qbq ?_); (repeat (first | refine e1 (k := ?_) | refine e2 (k := ?_) | fail)); refine Qbr ?_)
 refine Qbu 0 (h := ?_);refine Qbu 1 (h := ?_)
 (repeat' (first | refine e1 (k := ?_) | refine stepS (Qbs Tryz.call54 c1 rfl) (k := ?_) | refine stepS (Qbs Tryz.call55 c2 rfl) (k := ?_) | refine stepS (Qbs Tryz.call56 c3 rfl) (k := ?_) | refine Qbr ?_ | refine Qbt ?_ | refine Qbq ?_ | refine Qb1 (hf := ?_) | refine Qby ?_ | refine Qbx ?_ | fail))
 refine QbC (fun m st => ∃ k : Nat, k <= ns.length /\ m = 16 - k /\ st = ⟨51, [(10, .d (dI (Pl.QaC (fun k => if Pl.isIn out q k then Pl.Qas s (ns.getD k Pl.zn) else 0) k))), (13, .d (dI k)), (11, .d (.sl true 1 ((Pl.QaA out q).map fun b => [dB b]))), (12, .d (.sl true 10 (ns.map rNode))), (3, .d (.pd (rSt s)))], [.row 1 [], .row 1 []]⟩) [10, 13, 11, 12, 3] 2 16 ⟨0, by omega, rfl, rfl⟩ (round := ?_);rintro m st ⟨k, hk, rfl, rfl⟩
 (repeat (first | refine e1 (k := ?_) | refine Qbr ?_ | refine Qbt ?_ | refine Qbq ?_ | fail))
 cases q4 : decide ((k : Int) < (ns.length : Int))
 ·(repeat' (first | refine e1 (k := ?_) | refine Qbr ?_ | refine Qbt ?_ | refine Qbq ?_ | refine Qb1 (hf := ?_) | refine Qb3 ?_ | fail))
  have : k = ns.length := by simp at q4; omega
  subst this;exact Qb0 (hx := by rw [h3.out, hsb.out])
 have hk2 : k < ns.length := by simp at q4; omega
 obtain ⟨nd, hnd⟩ : ∃ nd, ns[k]? = some nd := ⟨_, List.getElem?_eq_getElem hk2⟩;have hr := QbB (f := rNode) hnd
 have hr2 : ((Pl.QaA out q).map fun b => [dB b])[(k : Int).toNat]? = some [dB (Pl.isIn out q k)] := by
  rw [Int.toNat_natCast, List.getElem?_map, Qik _ _ (by omega)]; rfl
 have hgd : ns.getD k Pl.zn = nd := by rw [List.getD_eq_getElem?_getD, hnd]; rfl
 have hbn := hB.out k;rw [hgd] at hbn
 have hsum := Qf1 (f := fun k => if Pl.isIn out q k then Pl.Qas s (ns.getD k Pl.zn) else 0) 2048 (n := k) (fun i _ => by
  have := hB.out i
  split <;> omega)
 have hnext : Hid (Pl.QaC (fun k => if Pl.isIn out q k then Pl.Qas s (ns.getD k Pl.zn) else 0) (k + 1) = Pl.QaC (fun k => if Pl.isIn out q k then Pl.Qas s (ns.getD k Pl.zn) else 0) k + if Pl.isIn out q k then Pl.Qas s nd else 0) := Pm.hid (by
  show _ + (if Pl.isIn out q k then Pl.Qas s (ns.getD k Pl.zn) else 0) = _
  rw [hgd])
 have c5 := al8All s hg htx nd.tree (hgt nd (List.mem_of_getElem? hnd));have hbo : Hid (Pl.Qas s nd = ((Pl.allT s nd.tree).length : Nat)) := Pm.hid rfl;rw [hbo.out] at hbn hnext;generalize Pl.allT s nd.tree = al at *
 clear hgt hbo;clear hnd hgd hB h3 hsb c1 c2 c3;generalize Pl.QaC (fun k => if Pl.isIn out q k then Pl.Qas s (ns.getD k Pl.zn) else 0) k = sm at *
 generalize Pl.isIn out q k = inn at *
 obtain ⟨kind, links, size, ⟨⟨p1, p2, p3, p4, p5⟩, depth, many⟩⟩ := nd;simp only at c5
 (repeat' (first | refine f1 (k := ?_) | refine e1 (k := ?_) | refine stepD (Qbw Ty.h rfl Ty.h rfl rfl rfl (by omega) hr) (k := ?_) | refine stepS (Qbw Ty.h rfl Ty.h rfl rfl rfl (by omega) hr2) (k := ?_) | refine stepD (Qbs Tryz.call65 c5 rfl) (k := ?_) | refine stepD (Qb6 rfl rfl (by omega)) (k := ?_) | refine stepS (Qb6 rfl rfl (by omega)) (k := ?_) | refine Qbr ?_ | refine Qb4 ?_ | refine Qb5 ?_ | refine Qbt ?_ | refine Qbq ?_ | refine QbE follows_mixed (by kernel_rfl) (by kernel_rfl) ?_ | refine Qbz (ht := ?_) | refine Qb2 (ht := fun q => ?_) (hf := fun q => ?_) | refine Qby ?_ | refine Qbx ?_ | fail))
 all_goals
  refine Qb8 (16 - (k + 1)) (by omega) ⟨k + 1, by omega, rfl, ?_⟩;rw [hnext.out];simp [keepE, go_sem, *]
end Aw
end Go.Proofs.YtdjkdcokjoiokaaGreatDoor

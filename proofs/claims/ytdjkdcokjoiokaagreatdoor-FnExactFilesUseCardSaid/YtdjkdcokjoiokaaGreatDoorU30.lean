/- Part 30 of the proof of use_card: contracts, walks, plain laws; no condition is assumed beyond those that a statement names. -/
import Derived.Test.YtdjkdcokjoiokaaGreatDoorU26
set_option linter.all false
set_option maxRecDepth 100000
set_option maxHeartbeats 8000000
namespace Go.Proofs.YtdjkdcokjoiokaaGreatDoor
open Go.RowKit
namespace Aw
attribute [local irreducible] ASeq ADraw AWP Loc
theorem Qio {l : List Pl.Ent} (h : Pl.Qaf l = true) : ∀ e ∈ l, e.1.length <= 4 := fun e he => by
 have := (ent_b h e he).1;unfold Pl.Qaj at this;simp at this; omega
theorem Qjj {l : List Pl.Ent} (h : ∀ e ∈ l, e.1.length <= 4 /\ 0 <= e.2 /\ e.2 <= 15) : (Pl.Qam l).length <= l.length * 20 := by
 induction l with
 |nil => simp [Pl.Qam]
 |cons e l ih =>
  have h1 := h e List.mem_cons_self;have h2 := Pl.Qb7 8 e.2.toNat (by omega);have ih := ih fun x hx => h x (List.mem_cons_of_mem _ hx)
  have e1 : Pl.Qam (e :: l) = Pl.Qa2 e ++ 59 :: Pl.Qam l := by simp [Pl.Qam]
  rw [e1];unfold Pl.Qa2;simp; omega
theorem al12Put (l : List Pl.Ent) (h : Pl.Qaf l = true) : Pure Tryz.prog 306 [dEnts l] (dS (Pl.Qam l)) := by
 have hb : ∀ e ∈ l, e.1.length <= 4 /\ 0 <= e.2 /\ e.2 <= 15 := fun e he => by have := Qio h e he; have := ent_b h e he; omega
 have hl : l.length <= 12 := by unfold Pl.Qaf at h; rw [Bool.and_eq_true, decide_eq_true_eq] at h; exact h.2
 clear h
 (refine Qbv Tryz.func306 rfl Tryz.ntmps306 Tryz.results306 rfl ?_; simp only [parE, Nat.zero_add, Nat.reduceAdd])
 (repeat' (first | refine e1 (k := ?_) | refine Qbr ?_ | refine Qbt ?_ | refine Qbq ?_ | refine Qbx ?_ | fail))
 refine QbC (fun m st => ∃ k : Nat, k <= l.length /\ m = l.length - k /\ st = ⟨28, [(3, .d (dS (Pl.Qam (l.take k)))), (4, .d (dI k)), (0, .d (dEnts l))], []⟩) [3, 4, 0] 0 l.length ⟨0, by omega, rfl, rfl⟩ (round := ?_);rintro m st ⟨k, hk, rfl, rfl⟩
 (repeat (first | refine e1 (k := ?_) | refine Qbr ?_ | refine Qbt ?_ | refine Qbq ?_ | fail))
 cases q3 : decide ((k : Int) < (l.length : Int))
 ·(repeat' (first | refine e1 (k := ?_) | refine Qbr ?_ | refine Qbt ?_ | refine Qbq ?_ | refine Qb1 (hf := ?_) | refine Qb3 ?_ | fail))
  refine Qb0 (hx := ?_);have : k = l.length := by simp at q3; omega
  rw [this, List.take_length]
 have hk2 : k < l.length := by simp at q3; omega
 obtain ⟨x, hx⟩ : ∃ x, l[k]? = some x := ⟨_, List.getElem?_eq_getElem hk2⟩;have hr := QbB (f := rEnt) hx;have hlen := Qjj (l := l.take k) fun e he => hb e (List.mem_of_mem_take he)
 rw [List.length_take] at hlen;have hxb := hb x (List.mem_of_getElem? hx);have T : Hid (Pl.Qam (l.take (k + 1)) = Pl.Qam (l.take k) ++ x.1 ++ [61] ++ Pl.dec x.2.toNat ++ [59]) := Pm.hid (by rw [List.take_add_one, hx]; simp [Pl.Qam, Pl.Qa2]);have hdl := Pl.Qb7 8 x.2.toNat (by omega);have c := al6Dec x.2.toNat (by omega);rw [show ((x.2.toNat : Nat) : Int) = x.2 by omega] at c;clear hx hb;generalize Pl.Qam (l.take k) = out at *
 generalize Pl.dec x.2.toNat = d at *
 obtain ⟨nm, id⟩ := x;simp only at hxb c T hr
 (repeat' (first | refine f1 (k := ?_) | refine e1 (k := ?_) | refine stepD (Qbs Tryz.call260 c rfl) (k := ?_) | refine stepD (Qbw Ty.h rfl Ty.h rfl rfl rfl (by omega) hr) (k := ?_) | refine stepD (QbV (m := [61]) rfl rfl (by first | omega | (simp; omega))) (k := ?_) | refine stepD (QbV (m := [59]) rfl rfl (by first | omega | (simp; omega))) (k := ?_) | refine stepD (QbV rfl rfl (by first | omega | (simp; omega))) (k := ?_) | refine stepS (Qb6 rfl rfl (by omega)) (k := ?_) | refine Qb4 ?_ | refine Qb5 ?_ | refine Qbt ?_ | refine Qbq ?_ | refine QbE follows_mixed (by kernel_rfl) (by kernel_rfl) ?_ | refine Qbz (ht := ?_) | refine Qby ?_ | refine Qbx ?_ | fail))
 refine Qb8 (l.length - (k + 1)) (by omega) ⟨k + 1, by omega, rfl, ?_⟩;simp [keepE, go_sem, T.out]
theorem Qjl {x : List UInt8} {e : Pl.Ent} (h : Pl.Qa3 x = some e) : e.1.length <= x.length := by
 unfold Pl.Qa3 at h;split at h
 ·rename_i a b hc
  obtain rfl := Option.some.inj h;exact (QcH 61 x).2 a (by rw [hc]; simp)
 ·cases h
theorem Qjx (s : List UInt8) (hs : s.length <= 1000000000000) : Pure Tryz.prog 253 [dS s] (.tup [tEnts (Pl.eg s).1, dB (Pl.eg s).2]) := by
 have cw := al2Cut s 59 hs;have hW := QcH 59 s;have hne := Pl.QdL 59 s;have hread := fun m => QmB (s := s) (m := m)
 have hbad := fun k x => eg_bad (s := s) (k := k) (x := x)
 generalize Pl.cutB 59 s = w at *
 have hw1 : 0 < w.length := List.length_pos_iff.2 hne;clear hne;have hread := Pm.hid hread;have hbad := Pm.hid hbad
 (refine Qbv Tryz.func253 rfl Tryz.ntmps253 Tryz.results253 rfl ?_; simp only [parE, Nat.zero_add, Nat.reduceAdd])
 (repeat' (first | refine e1 (k := ?_) | refine stepS (Qbs Tryz.call250 cw rfl) (k := ?_) | refine stepS2 (QbD Ty.h rfl Ty.h) (k := ?_) | refine Qbr ?_ | refine Qbt ?_ | refine Qbq ?_ | refine Qbx ?_ | fail))
 refine QbC (fun m st => ∃ (k g : Nat) (out : List Pl.Ent), k + 1 <= w.length /\ m = w.length - k /\ out.length = k /\ Hid (∀ (i : Nat) e, out[i]? = some e -> ∃ x, w[i]? = some x /\ Pl.Qa3 x = some e) /\
  st = ⟨55, [(4, .osl 0 g 0 out.length), (5, .d (tStrs w)), (6, .d (dI k)), (0, .d (dS s))], [.arr g 2 251 (out.map rEnt)]⟩) [4, 5, 6, 0] 1 w.length ⟨0, 0, [], by omega, rfl, rfl, Pm.hid (by simp), rfl⟩ (round := ?_)
 rintro m st ⟨k, g, out, hk, rfl, hlen, hO, rfl⟩
 (repeat (first | refine e1 (k := ?_) | refine Qbt ?_ | refine Qbq ?_ | fail))
 cases q3 : decide ((k : Int) + 1 < (w.length : Int))
 ·have hk3 : out.length + 1 = w.length := by simp at q3; omega
  have hg := Pm.hid (hread.out out hk3 hO.out)
  have hel : ∀ e ∈ out, e.1.length <= Pm.big := fun e he => by
   obtain ⟨i, hi⟩ := List.getElem?_of_mem he;obtain ⟨x, hx, hx2⟩ := hO.out i e hi;have := Qjl hx2;have := hW.2 x (List.mem_of_getElem? hx);unfold Pm.big; omega
  have ce := (Qlu out (by unfold Pm.big; omega) hel).arg (l := [tEnts out]);cases hE : Pl.Qaf out
  ·rw [hE] at ce
   clear hread hbad hO hel
   (repeat' (first | refine e1 (k := ?_) | refine stepS (Qb6 rfl rfl (by omega)) (k := ?_) | refine Qbr ?_ | refine Qbt ?_ | refine Qbq ?_ | refine Qb2 (ht := fun q => ?_) (hf := fun q => ?_) | refine Qby ?_ | refine Qbx ?_ | refine Qb3 ?_ | fail))
   ·rw [q3] at q; cases q
   refine QdR 0 (h := ?_)
   (repeat' (first | refine e1 (k := ?_) | refine e0 (k := ?_) | refine stepS (Qbs Tryz.call305 ce rfl) (k := ?_) | refine stepS2 (QbD Ty.h rfl Ty.h) (k := ?_) | refine Qbr ?_ | refine Qbt ?_ | refine Qbq ?_ | refine Qbz (ht := ?_) | fail))
   (refine Qbu 1 (h := ?_); refine Qb0 (hx := ?_))
   rw [hg.out, hE]; rfl
  ·rw [hE] at ce
   have cp := (al12Put out hE).arg (l := [tEnts out]);clear hread hbad hO hel;generalize Pl.Qam out = t at *
   (repeat' (first | refine e1 (k := ?_) | refine stepS (Qb6 rfl rfl (by omega)) (k := ?_) | refine Qbr ?_ | refine Qbt ?_ | refine Qbq ?_ | refine Qb2 (ht := fun q => ?_) (hf := fun q => ?_) | refine Qby ?_ | refine Qbx ?_ | refine Qb3 ?_ | fail))
   ·rw [q3] at q; cases q
   refine QdR 0 (h := ?_)
   (repeat' (first | refine e1 (k := ?_) | refine stepS (Qbs Tryz.call305 ce rfl) (k := ?_) | refine stepS (Qbs Tryz.call306 cp rfl) (k := ?_) | refine stepS (QbU rfl rfl) (k := ?_) | refine stepS2 (QbD Ty.h rfl Ty.h) (k := ?_) | refine Qbr ?_ | refine Qbt ?_ | refine Qbq ?_ | refine Qb2 (ht := fun q => ?_) (hf := fun q => ?_) | refine Qby ?_ | fail))
   all_goals
    (first | refine Qb0 (hx := ?_) | (refine Qbu 1 (h := ?_); refine Qb0 (hx := ?_)))
    rw [hg.out, hE]
    simp_all
 have hk2 : k < w.length := by omega
 obtain ⟨x, hx⟩ : ∃ x, w[k]? = some x := ⟨_, List.getElem?_eq_getElem hk2⟩;have hr := QbB (f := fun s => [dS s]) hx;have hxl := hW.2 x (List.mem_of_getElem? hx);have cx := al2Cut x 61 (by omega);have hpl := (QcH 61 x).2;have hF := Pm.hid (hbad.out k x (by simp at q3; omega) hx)
 have hT : Hid (∀ e, Pl.Qa3 x = some e -> ∀ (i : Nat) e', (out ++ [e])[i]? = some e' -> ∃ x, w[i]? = some x /\ Pl.Qa3 x = some e') := fun e he i e' hi => by
  rcases Nat.lt_or_ge i out.length with h | h
  ·rw [List.getElem?_append_left h] at hi; exact hO.out i e' hi
  ·have : i = out.length := by have := (List.getElem?_eq_some_iff.1 hi).1; simp at this; omega
   subst this;rw [List.getElem?_append_right (Nat.le_refl _)] at hi;simp at hi; subst hi;rw [hlen];exact ⟨x, hx, he⟩
 have her : Hid (Pl.Qa3 x = match Pl.cutB 61 x with | [a, b] => some (a, ((Pl.numGet b).getD 0 : Nat)) | _ => none) := Pm.hid rfl;clear hx hread hbad hO;generalize Pl.cutB 61 x = p at *
 by_cases h2 : p.length = 2
 ·match p, h2 with
  |[a, b], _ =>
  have cn := aNumGet b (by have := hpl b (by simp); unfold Pm.big; omega);have hT2 := Pm.hid (hT.out _ her.out);clear hT her hF;generalize (Pl.numGet b).getD 0 = nb at *
  (repeat' (first | refine e1 (k := ?_) | refine stepS (Qbs Tryz.call250 cx rfl) (k := ?_) | refine stepS (Qbs Tryz.call188 cn rfl) (k := ?_) | refine stepS (Qbw Ty.h rfl Ty.h rfl rfl rfl (by omega) hr) (k := ?_) | refine stepS (Qbw Ty.h rfl Ty.h rfl rfl rfl (by omega) rfl) (k := ?_) | refine Qcf Ty.h rfl Ty.h (hb := ?_) (kk := ?_) | refine stepS (Qb6 rfl rfl (by omega)) (k := ?_) | refine stepS2 (QbD Ty.h rfl Ty.h) (k := ?_) | refine Qbr ?_ | refine Qb4 ?_ | refine QbF ?_ | refine Qbt ?_ | refine Qbq ?_ | refine Qb1 (hf := ?_) | refine Qb2 (ht := fun q => ?_) (hf := fun q => ?_) | refine Qby ?_ | refine Qbx ?_ | refine Qb3 ?_ | fail))
  ·simp; omega
  rotate_left
  ·rw [q3] at q; cases q
  ·simp only [decide_eq_true_eq] at q3
   refine Qb8 (w.length - (k + 1)) (by omega) ⟨k + 1, g + 1, out ++ [(a, (nb : Int))], by omega, rfl, by simp [hlen], Pm.hid hT2.out, ?_⟩;simp [keepE, go_sem]
 ·have hn : Pl.Qa3 x = none := by
   rw [her.out];split
   ·exact absurd rfl h2
   ·rfl
  have hF2 := Pm.hid (hF.out hn);clear hT her hF hn
  (repeat' (first | refine e1 (k := ?_) | refine stepS (Qbs Tryz.call250 cx rfl) (k := ?_) | refine stepS (Qbw Ty.h rfl Ty.h rfl rfl rfl (by omega) hr) (k := ?_) | refine stepS (Qb6 rfl rfl (by omega)) (k := ?_) | refine stepS2 (QbD Ty.h rfl Ty.h) (k := ?_) | refine Qbr ?_ | refine Qbt ?_ | refine Qbq ?_ | refine Qb2 (ht := fun q => ?_) (hf := fun q => ?_) | refine Qby ?_ | refine Qbx ?_ | refine Qb3 ?_ | fail))
  all_goals first
   |(exfalso; rw [q3] at q; cases q)
   |(exfalso; simp only [bne_eq_false_iff_eq] at *; omega)
   |((refine Qbu 1 (h := ?_); refine Qb0 (hx := ?_)); rw [hF2.out]; rfl)
end Aw
end Go.Proofs.YtdjkdcokjoiokaaGreatDoor
namespace Go.Proofs.YtdjkdcokjoiokaaGreatDoor
open Go.RowKit
namespace Aw
attribute [local irreducible] ASeq ADraw AWP Loc AStep
theorem al9Get (s : Pm.Store) (hg : Pl.Good s) (t : Pl.Tree) (ht : Pl.TGood t) : Pure Tryz.prog 252 [dSt s, dTree t] (.tup [dS (Pl.blob (Pl.Qaa s t)).1, dB (Pl.blob (Pl.Qaa s t)).2]) := by
 have c := Qfw s hg t ht;have hl := texts_len s ht;have hle := texts_le s hg t;have hm := ht.manyHi;have hm0 := ht.manyLo;have hd : Hid (Pl.blob (Pl.Qaa s t) = if (List.range (Pl.Qaa s t).length).all (Pl.Qaz (Pl.Qaa s t)) then ((Pl.Qaa s t).flatten, true) else ([], false)) := Pm.hid rfl;generalize Pl.Qaa s t = l at *
 (refine Qbv Tryz.func252 rfl Tryz.ntmps252 Tryz.results252 rfl ?_; simp only [parE, Nat.zero_add, Nat.reduceAdd])
 (refine Qbt (Qbq ?_); (repeat (first | refine e1 (k := ?_) | refine e2 (k := ?_) | fail)); refine Qbr ?_)
 refine Qbu 0 (h := ?_);refine Qbu 1 (h := ?_)
 (repeat' (first | refine e1 (k := ?_) | refine stepS (Qbs Tryz.call116 c rfl) (k := ?_) | refine Qbr ?_ | refine Qbt ?_ | refine Qbq ?_ | refine Qbx ?_ | fail))
 refine QbC (fun m st => ∃ (k : Nat) (out : List UInt8), k <= l.length /\ m = 16 - k /\ out.length <= 128 * k /\ Hid (out = (l.take k).flatten) /\ Hid ((List.range k).all (Pl.Qaz l) = true) /\
  st = ⟨41, [(6, .d (dS out)), (7, .d (tStrs l)), (8, .d (dI k)), (3, .d (.pd (rTree t)))], [.row 1 [], .row 1 []]⟩) [6, 7, 8, 3] 2 16 ⟨0, [], by omega, rfl, by simp, Pm.hid rfl, Pm.hid rfl, rfl⟩ (round := ?_)
 rintro m st ⟨k, out, hk, rfl, hol, hO, hA, rfl⟩
 (repeat (first | refine e1 (k := ?_) | refine Qbr ?_ | refine Qbt ?_ | refine Qbq ?_ | fail))
 cases q4 : decide ((k : Int) < t.many)
 ·(repeat' (first | refine e1 (k := ?_) | refine Qbr ?_ | refine Qbt ?_ | refine Qbq ?_ | refine Qb1 (hf := ?_) | refine Qb3 ?_ | fail))
  refine Qb0 (hx := ?_);have : k = l.length := by simp at q4; omega
  have h := hA.out;have ho := hO.out;rw [this] at h;rw [this, List.take_length] at ho;rw [hd.out, h, ho]; rfl
 have hk2 : k < l.length := by simp at q4; omega
 obtain ⟨x, hx⟩ : ∃ x, l[k]? = some x := ⟨_, List.getElem?_eq_getElem hk2⟩;have hr := QbB (f := fun s => [dS s]) hx;have hxl := hle x (List.mem_of_getElem? hx);have he : Hid (Pl.Qaz l k = (!(x == []) && (decide (k + 1 = l.length) || decide (x.length = 128)))) := Pm.hid (by unfold Pl.Qaz; simp only [List.getD_eq_getElem?_getD, hx, Option.getD_some]);have T : Hid (Pl.Qaz l k = true -> (List.range (k + 1)).all (Pl.Qaz l) = true) := fun h => Pl.QbL (p := Pl.Qaz l) hA.out h
 have T2 : Hid ((l.take (k + 1)).flatten = out ++ x) := Pm.hid (by rw [List.take_add_one, hx, hO.out]; simp)
 have F : Hid (Pl.Qaz l k = false -> Pl.blob l = ([], false)) := fun h => by
  rw [hd.out, Pl.QbH (p := Pl.Qaz l) hk2 h]; rfl
 rw [he.out] at T F;clear hx hA hO hd he hle c
 (repeat' (first | refine e1 (k := ?_) | refine e0 (k := ?_) | refine stepS (Qbw Ty.h rfl Ty.h rfl rfl rfl (by omega) hr) (k := ?_) | refine stepS (QbV rfl rfl (by omega)) (k := ?_) | refine stepS (Qb6 rfl rfl (by omega)) (k := ?_) | refine stepS (QbK rfl rfl) (k := ?_) | refine Qbr ?_ | refine Qb4 ?_ | refine QbF ?_ | refine Qbt ?_ | refine Qbq ?_ | refine Qbz (ht := ?_) | refine Qb1 (hf := ?_) | refine Qb2 (ht := fun q => ?_) (hf := fun q => ?_) | refine Qby ?_ | refine Qbx ?_ | ((fail_if_success show ASeq _ _ _ _ ⟨_, (_, .d (.v (.bool true))) :: _, _⟩); (fail_if_success show ASeq _ _ _ _ ⟨_, (_, .d (.v (.bool false))) :: _, _⟩); refine splitS (fun q => ?_) (fun q => ?_))))
 all_goals clear hr
 all_goals simp only [decide_eq_true_eq, decide_eq_false_iff_not] at *
 all_goals generalize (x == []) = u at *
 all_goals first
  |(refine Qb8 (16 - (k + 1)) (by omega) ⟨k + 1, out ++ x, by omega, rfl, by simp; omega, Pm.hid T2.out.symm, Pm.hid (T.out ?_), rfl⟩; clear T F T2; cases u <;> simp at * <;> omega)
  |(refine Qb0 (hx := ?_); have hF : (!u && (decide (k + 1 = l.length) || decide (x.length = 128))) = false := by
     clear T F T2; cases u <;> simp at * <;> omega
    rw [F.out hF])
theorem Qgj (s : Pm.Store) (hg : Pl.Good s) (n : Pl.Node) : Pure Tryz.prog 180 [dSt s, dNode n] (.tup [tEnts (Pl.ents s n).1, dB (Pl.ents s n).2]) := by
 have hd : Hid (Pl.ents s n = if Pl.Qap n && (n.kind == 2) && Pl.Qae s n.tree && (Pl.blob (Pl.Qaa s n.tree)).2 && decide (((Pl.blob (Pl.Qaa s n.tree)).1.length : Int) = n.size) then Pl.eg (Pl.blob (Pl.Qaa s n.tree)).1 else ([], false)) := Pm.hid rfl;have c1 := aNodeOk n;have c2 := al8Ok s hg n.tree;cases h1 : Pl.Qae s n.tree
 ·rw [h1] at c2 hd
  generalize Pl.Qap n = ok at *
  (refine Qbv Tryz.func180 rfl Tryz.ntmps180 Tryz.results180 rfl ?_; simp only [parE, Nat.zero_add, Nat.reduceAdd])
  (refine Qbt (Qbq ?_); (repeat (first | refine e1 (k := ?_) | refine e2 (k := ?_) | fail)); refine Qbr ?_)
  refine Qbu 0 (h := ?_);refine Qbu 1 (h := ?_)
  (repeat' (first | refine e1 (k := ?_) | refine e0 (k := ?_) | refine stepS (Qbs Tryz.call190 c1 rfl) (k := ?_) | refine stepS (Qbs Tryz.call138 c2 rfl) (k := ?_) | refine stepS2 (QbD Ty.h rfl Ty.h) (k := ?_) | refine Qbr ?_ | refine Qbt ?_ | refine Qbq ?_ | refine Qbz (ht := ?_) | ((fail_if_success show ASeq _ _ _ _ ⟨_, (_, .d (.v (.bool true))) :: _, _⟩); (fail_if_success show ASeq _ _ _ _ ⟨_, (_, .d (.v (.bool false))) :: _, _⟩); refine splitS (fun q => ?_) (fun q => ?_))))
  all_goals
   (refine Qbu 2 (h := ?_); refine Qb0 (hx := ?_))
   rw [hd.out]; simp
 have ht := QbS h1;have c3 := al9Get s hg n.tree ht
 have hb : (Pl.blob (Pl.Qaa s n.tree)).1.length <= 16 * 128 := by
  have hl := texts_len s ht;have hm := ht.manyHi;have hle := texts_le s hg n.tree;unfold Pl.blob;split
  ·simp only
   have : ∀ l : List (List UInt8), (∀ x ∈ l, x.length <= 128) -> l.flatten.length <= l.length * 128 := by
    intro l;induction l with
    |nil => intro _; simp
    |cons a l ih => intro h; have := ih fun x hx => h x (List.mem_cons_of_mem _ hx); have := h a List.mem_cons_self; rw [List.flatten_cons, List.length_append, List.length_cons]; omega
   have := this _ hle;omega
  ·simp
 have c4 := Qjx (Pl.blob (Pl.Qaa s n.tree)).1 (by omega);rw [h1] at c2 hd;generalize Pl.Qap n = ok at *
 generalize Pl.blob (Pl.Qaa s n.tree) = bb at *
 obtain ⟨tx, fine⟩ := bb;simp only at hb c4 hd;generalize Pl.eg tx = r at *
 obtain ⟨es, good⟩ := r;clear h1 ht
 (refine Qbv Tryz.func180 rfl Tryz.ntmps180 Tryz.results180 rfl ?_; simp only [parE, Nat.zero_add, Nat.reduceAdd])
 (refine Qbt (Qbq ?_); (repeat (first | refine e1 (k := ?_) | refine e2 (k := ?_) | fail)); refine Qbr ?_)
 refine Qbu 0 (h := ?_);refine Qbu 1 (h := ?_)
 (repeat' (first | refine e1 (k := ?_) | refine e0 (k := ?_) | refine stepS (Qbs Tryz.call190 c1 rfl) (k := ?_) | refine stepS (Qbs Tryz.call138 c2 rfl) (k := ?_) | refine stepS (Qbs Tryz.call252 c3 rfl) (k := ?_) | refine stepS (Qbs Tryz.call253 c4 rfl) (k := ?_) | refine stepS2 (QbD Ty.h rfl Ty.h) (k := ?_) | refine Qbr ?_ | refine Qbt ?_ | refine Qbq ?_ | refine Qbz (ht := ?_) | refine Qb1 (hf := ?_) | refine Qb2 (ht := fun q => ?_) (hf := fun q => ?_) | refine Qby ?_ | ((fail_if_success show ASeq _ _ _ _ ⟨_, (_, .d (.v (.bool true))) :: _, _⟩); (fail_if_success show ASeq _ _ _ _ ⟨_, (_, .d (.v (.bool false))) :: _, _⟩); refine splitS (fun q => ?_) (fun q => ?_))))
 all_goals
  (first | refine Qb0 (hx := ?_) | (refine Qbu 2 (h := ?_); refine Qb0 (hx := ?_)))
  rw [hd.out];clear c1 c2 c3 c4 hd
  simp_all
theorem Qor (size : Int) (k : Nat) (h0 : 0 <= size) (h1 : size <= 2048) (hk : k <= 100) : Pure Tryz.prog 254 [dI size, dI k] (dI (Pl.long size k)) := by
 (refine Qbv Tryz.func254 rfl Tryz.ntmps254 Tryz.results254 rfl ?_; simp only [parE, Nat.zero_add, Nat.reduceAdd])
 (repeat' (first | refine e1 (k := ?_) | refine stepS (QdD rfl rfl (by omega)) (k := ?_) | refine stepS (QbN rfl rfl (by omega)) (k := ?_) | refine stepS (Qmi rfl rfl) (k := ?_) | refine Qbr ?_ | refine Qbt ?_ | refine Qbq ?_ | fail))
 exact Qb0 (hx := rfl)
theorem al13Ok (s : Pm.Store) (hg : Pl.Good s) (n : Pl.Node) : Pure Tryz.prog 184 [dSt s, dNode n] (dB (Pl.Qay s n)) := by
 have hd : Hid (Pl.Qay s n = (Pl.Qap n && (n.kind == 1) && Pl.Qae s n.tree && (List.range n.tree.many.toNat).all (Pl.Qa6 n.size (Pl.Qaa s n.tree)))) := Pm.hid rfl;have c1 := aNodeOk n;have c2 := al8Ok s hg n.tree
 by_cases hk : Pl.Qap n = true /\ n.kind = 1 /\ Pl.Qae s n.tree = true
 rotate_left
 ·have hx : Hid (Pl.Qay s n = false) := Pm.hid (by
   rw [hd.out];cases h1 : Pl.Qap n
   ·rfl
   ·cases h2 : Pl.Qae s n.tree
    ·simp
    ·have : (n.kind == 1) = false := by simpa using fun h => hk ⟨h1, h, h2⟩
     rw [this]; rfl)
  clear hd;generalize Pl.Qap n = ok at *
  generalize Pl.Qae s n.tree = tok at *
  (refine Qbv Tryz.func184 rfl Tryz.ntmps184 Tryz.results184 rfl ?_; simp only [parE, Nat.zero_add, Nat.reduceAdd])
  (refine Qbt (Qbq ?_); (repeat (first | refine e1 (k := ?_) | refine e2 (k := ?_) | fail)); refine Qbr ?_)
  refine Qbu 0 (h := ?_);refine Qbu 1 (h := ?_)
  (repeat' (first | refine e1 (k := ?_) | refine e0 (k := ?_) | refine stepS (Qbs Tryz.call190 c1 rfl) (k := ?_) | refine stepS (Qbs Tryz.call138 c2 rfl) (k := ?_) | refine Qbr ?_ | refine Qbt ?_ | refine Qbq ?_ | refine Qbz (ht := ?_) | refine Qb2 (ht := fun q => ?_) (hf := fun q => ?_) | refine Qby ?_ | ((fail_if_success show ASeq _ _ _ _ ⟨_, (_, .d (.v (.bool true))) :: _, _⟩); (fail_if_success show ASeq _ _ _ _ ⟨_, (_, .d (.v (.bool false))) :: _, _⟩); refine splitS (fun q => ?_) (fun q => ?_))))
  all_goals first
   |(refine Qb0 (hx := ?_); rw [hx.out]; done)
   |(exfalso; simp_all; done)
   |(exfalso; apply hk; simp_all)
 obtain ⟨h1, h2, h3⟩ := hk;have ht := QbS h3;have hb := Qds h1;have hs := hb.size;have c3 := Qfw s hg n.tree ht;have hl := texts_len s ht;have hle := texts_le s hg n.tree;have hm := ht.manyHi;have hm0 := ht.manyLo;have hd2 : Hid (Pl.Qay s n = (List.range n.tree.many.toNat).all (Pl.Qa6 n.size (Pl.Qaa s n.tree))) := Pm.hid (by rw [hd.out, h1, h2, h3]; rfl);rw [h1] at c1;rw [h3] at c2;clear hd h1 h3 ht hb;generalize Pl.Qaa s n.tree = l at *
 obtain ⟨kind, links, size, ⟨root, depth, many⟩⟩ := n;simp only at h2 hs hl hm hm0 hd2 c1 c2 c3;subst h2
 (refine Qbv Tryz.func184 rfl Tryz.ntmps184 Tryz.results184 rfl ?_; simp only [parE, Nat.zero_add, Nat.reduceAdd])
 (refine Qbt (Qbq ?_); (repeat (first | refine e1 (k := ?_) | refine e2 (k := ?_) | fail)); refine Qbr ?_)
 refine Qbu 0 (h := ?_);refine Qbu 1 (h := ?_)
 (repeat' (first | refine e1 (k := ?_) | refine stepS (Qbs Tryz.call190 c1 rfl) (k := ?_) | refine stepS (Qbs Tryz.call138 c2 rfl) (k := ?_) | refine stepS (Qbs Tryz.call116 c3 rfl) (k := ?_) | refine Qbr ?_ | refine Qbt ?_ | refine Qbq ?_ | refine Qb1 (hf := ?_) | refine Qby ?_ | refine Qbx ?_ | fail))
 refine QbC (fun m st => ∃ (k : Nat), k <= l.length /\ m = 16 - k /\ Hid ((List.range k).all (Pl.Qa6 size l) = true) /\
  st = ⟨51, [(5, .d (tStrs l)), (6, .d (dI k)), (3, .d (.pd (rNode ⟨1, links, size, ⟨root, depth, many⟩⟩)))], [.row 1 [], .row 1 []]⟩) [5, 6, 3] 2 16 ⟨0, by omega, rfl, Pm.hid rfl, rfl⟩ (round := ?_)
 rintro m st ⟨k, hk, rfl, hA, rfl⟩
 (repeat (first | refine e1 (k := ?_) | refine Qbr ?_ | refine Qbt ?_ | refine Qbq ?_ | fail))
 cases q4 : decide ((k : Int) < many)
 ·(repeat' (first | refine e1 (k := ?_) | refine Qbr ?_ | refine Qbt ?_ | refine Qbq ?_ | refine Qb1 (hf := ?_) | refine Qb3 ?_ | fail))
  refine Qb0 (hx := ?_);have : k = many.toNat := by simp at q4; omega
  have h := hA.out;rw [this] at h;rw [hd2.out, h]
 have hk2 : k < l.length := by simp at q4; omega
 obtain ⟨x, hx⟩ : ∃ x, l[k]? = some x := ⟨_, List.getElem?_eq_getElem hk2⟩;have hr := QbB (f := fun s => [dS s]) hx;have hxl := hle x (List.mem_of_getElem? hx);have he : Hid (Pl.Qa6 size l k = (decide ((x.length : Int) <= Pl.long size k) && (Pl.cut0 x == x))) := Pm.hid (by unfold Pl.Qa6; simp only [List.getD_eq_getElem?_getD, hx, Option.getD_some]);have T : Hid (Pl.Qa6 size l k = true -> (List.range (k + 1)).all (Pl.Qa6 size l) = true) := fun h => Pl.QbL (p := Pl.Qa6 size l) hA.out h
 have F : Hid (Pl.Qa6 size l k = false -> Pl.Qay s ⟨1, links, size, ⟨root, depth, many⟩⟩ = false) := fun h => by
  rw [hd2.out, Pl.QbH (p := Pl.Qa6 size l) (by omega) h]
 rw [he.out] at T F;have c4 := Qor size k hs.1 hs.2 (by omega);have c5 := al10Cut x (by unfold Pm.big; omega);clear hx hA hd2 he hle c1 c2 c3;generalize Pl.cut0 x = y at *
 generalize Pl.long size k = lg at *
 (repeat' (first | refine e1 (k := ?_) | refine e0 (k := ?_) | refine stepS (Qbs Tryz.call254 c4 rfl) (k := ?_) | refine stepS (Qbs Tryz.call255 c5 rfl) (k := ?_) | refine stepS (Qbw Ty.h rfl Ty.h rfl rfl rfl (by omega) hr) (k := ?_) | refine stepS (Qb6 rfl rfl (by omega)) (k := ?_) | refine stepS (QbU rfl rfl) (k := ?_) | refine Qbr ?_ | refine Qb4 ?_ | refine Qbt ?_ | refine Qbq ?_ | refine Qbz (ht := ?_) | refine Qb2 (ht := fun q => ?_) (hf := fun q => ?_) | refine Qby ?_ | refine Qbx ?_ | ((fail_if_success show ASeq _ _ _ _ ⟨_, (_, .d (.v (.bool true))) :: _, _⟩); (fail_if_success show ASeq _ _ _ _ ⟨_, (_, .d (.v (.bool false))) :: _, _⟩); refine splitS (fun q => ?_) (fun q => ?_))))
 all_goals clear hr c4 c5
 all_goals simp only [decide_eq_true_eq, decide_eq_false_iff_not] at *
 all_goals first
  |(refine Qb8 (16 - (k + 1)) (by omega) ⟨k + 1, by omega, rfl, Pm.hid (T.out ?_), rfl⟩; clear T F; simp_all; try omega)
  |(refine Qb0 (hx := ?_); rw [F.out ?_]; clear T F; simp_all; try omega)
end Aw
end Go.Proofs.YtdjkdcokjoiokaaGreatDoor
namespace Go.Proofs.YtdjkdcokjoiokaaGreatDoor
open Go.RowKit
namespace Aw
attribute [local irreducible] ASeq ADraw AWP Loc AStep Fg.PlanF Fg.Flts
theorem QhG : ∀ (p : List (List UInt8)), (∀ x ∈ p, x.length <= 4) -> (Pl.Qat p).length <= 5 * p.length + 1 := by
 intro p h
 have hf : ∀ p : List (List UInt8), (∀ x ∈ p, x.length <= 4) -> (p.flatMap (47 :: ·)).length <= 5 * p.length := by
  intro p;induction p with
  |nil => intro _; simp
  |cons a l ih =>
   intro h;have := ih fun x hx => h x (List.mem_cons_of_mem _ hx)
   have := h a List.mem_cons_self;rw [List.flatMap_cons, List.length_append, List.length_cons, List.length_cons]; omega
 unfold Pl.Qat;split
 ·simp
 ·have := hf p h; omega
theorem QjP (s : Pm.Store) (n : Pl.Node) : (Pl.ents s n).1.length <= 12 := by
 rcases Qcs s n with h | h
 ·have := h.2
  unfold Pl.Qaf at this;rw [Bool.and_eq_true, decide_eq_true_eq] at this;exact this.2
 ·rw [h]; decide
theorem Qeb {x : List UInt8} (h : Pl.Qaj x = true) : x.length <= 4 := by
 unfold Pl.Qaj at h;simp at h; omega
theorem Qlx (ns : List Pl.Node) (E : Pl.Node -> List Pl.Ent × Bool) : ∀ (n : Nat) (x : Pl.Fnd) (out : List Pl.Fnd), (Pl.wk ns E n x out).2 = true -> (Pl.wk ns E n x out).1.length <= 144
 |0, x, out, h => by cases h
 |n + 1, x, out, h => by
  have hf : ∀ (l : List Pl.Ent) (r : List Pl.Fnd × Bool), (r.2 = true -> r.1.length <= 144) -> (Pl.wks ns E n x.1 l r).2 = true -> (Pl.wks ns E n x.1 l r).1.length <= 144 := by
   intro l;induction l with
   |nil => intro r hr h; exact hr h
   |cons e l ih =>
    rintro ⟨o, b⟩ hr h;cases b
    ·rw [Qfa] at h; cases h
    ·rw [Qdo] at h ⊢
     exact ih _ (Qlx ns E n _ o) h
  unfold Pl.wk at h ⊢;split at h
  ·cases h
  ·rename_i hc
   rw [if_neg hc];split at h
   ·rename_i hk
    rw [if_pos hk];have := not_or.1 hc;simp; omega
   ·rename_i hk
    rw [if_neg hk];refine hf _ _ (fun _ => ?_) h;have := not_or.1 hc;simp; omega
theorem Qop (s : Pm.Store) (hg : Pl.Good s) (ns : List Pl.Node) (hns : ns.length <= 16) : ∀ (n : Nat) (p : List (List UInt8)) (id : Int) (out : List Pl.Fnd) (g : Nat), 145 <= out.length + n -> out.length <= 144 -> p.length <= out.length -> (∀ x ∈ p, Pl.Qaj x = true) ->
 Does Tryz.prog 183 [.d (dSt s), .d (.sl true 10 (ns.map rNode)), .d (.agg [dS (Pl.Qat p), dI id]), .osl 0 g 0 out.length] [.arr g 2 126 (out.map rFnd)] []
  (.tup [.osl 0 (g + ((Pl.wk ns (Pl.ents s) n (p, id) out).1.length - out.length)) 0 (Pl.wk ns (Pl.ents s) n (p, id) out).1.length, .d (dB (Pl.wk ns (Pl.ents s) n (p, id) out).2)])
  [.arr (g + ((Pl.wk ns (Pl.ents s) n (p, id) out).1.length - out.length)) 2 126 ((Pl.wk ns (Pl.ents s) n (p, id) out).1.map rFnd)] := by
 intro n;induction n with
 |zero => intro p id out g h1 h2; omega
 |succ n ih =>
  intro p id out g h1 h2 h3 hp;have hwl := (Qly ns (Pl.ents s) (n + 1) (p, id) out).2 (by omega)
  have hw : Hid (Pl.wk ns (Pl.ents s) (n + 1) (p, id) out = if 144 < out.length + 1 ∨ Pl.inR id 0 (ns.length - 1) = false ∨ (ns.getD id.toNat Pl.zn).kind = 0 then (out ++ [(p, id)], false) else
   if (ns.getD id.toNat Pl.zn).kind = 1 then (out ++ [(p, id)], true) else Pl.wks ns (Pl.ents s) n p (Pl.ents s (ns.getD id.toNat Pl.zn)).1 (out ++ [(p, id)], (Pl.ents s (ns.getD id.toNat Pl.zn)).2)) := Pm.hid rfl
  have hspl := QhG p fun x hx => Qeb (hp x hx)
  have hnl : (ns.map rNode).length = ns.length := List.length_map ..;have hol : (out.map rFnd).length = out.length := List.length_map ..;have c1 := al6In id 0 (ns.length - 1);refine Qca Tryz.func183 rfl Tryz.ntmps183 Tryz.results183 rfl rfl ?hpin (fun gvs => ?_)
  case hpin =>
   intro i C hC
   match i, hC with
   |0, hC => obtain rfl := Option.some.inj hC; exact ⟨_, rfl, rfl, rfl, .inl (by omega)⟩
  simp only [parA, gslot, Nat.zero_add, Nat.reduceAdd]
  by_cases h144 : out.length = 144
  ·have hw2 : Hid (Pl.wk ns (Pl.ents s) (n + 1) (p, id) out = (out ++ [(p, id)], false)) := Pm.hid (by rw [hw.out, if_pos (.inl (by omega))])
   rw [hw2.out];clear hw hw2 ih hwl
   (refine Qbt (Qbq ?_); (repeat (first | refine e1 (k := ?_) | refine e2 (k := ?_) | fail)); refine Qbr ?_)
   refine Qbu 1 (h := ?_);refine Qbu 2 (h := ?_)
   (repeat' (first | refine e1 (k := ?_) | refine e0 (k := ?_) | refine stepS (Qbs Tryz.call40 c1 rfl) (k := ?_) | refine stepS (QbN rfl rfl (by omega)) (k := ?_) | refine Qcf Ty.h rfl Ty.h (hb := ?_) (kk := ?_) | refine stepS2 (QbD Ty.h rfl Ty.h) (k := ?_) | refine Qbr ?_ | refine Qbt ?_ | refine Qbq ?_ | refine Qbz (ht := ?_) | ((fail_if_success show ASeq _ _ _ _ ⟨_, (_, .d (.v (.bool true))) :: _, _⟩); (fail_if_success show ASeq _ _ _ _ ⟨_, (_, .d (.v (.bool false))) :: _, _⟩); refine splitS (fun q => ?_) (fun q => ?_))))
   all_goals first
    |(exfalso; simp only [decide_eq_false_iff_not] at *; omega)
    |(simp; omega)
    |(refine QcF [8, 9, 1000000] 1 (h := ?_); refine QcW (hx := ?_) (hH := ?_) <;> simp <;> done)
  have h2' : out.length < 144 := by omega
  cases hR : Pl.inR id 0 (ns.length - 1)
  ·have hw2 : Hid (Pl.wk ns (Pl.ents s) (n + 1) (p, id) out = (out ++ [(p, id)], false)) := Pm.hid (by rw [hw.out, if_pos (.inr (.inl hR))])
   rw [hw2.out];rw [hR] at c1;clear hw hw2 ih hwl
   (refine Qbt (Qbq ?_); (repeat (first | refine e1 (k := ?_) | refine e2 (k := ?_) | fail)); refine Qbr ?_)
   refine Qbu 1 (h := ?_);refine Qbu 2 (h := ?_)
   (repeat' (first | refine e1 (k := ?_) | refine e0 (k := ?_) | refine stepS (Qbs Tryz.call40 c1 rfl) (k := ?_) | refine stepS (QbN rfl rfl (by omega)) (k := ?_) | refine Qcf Ty.h rfl Ty.h (hb := ?_) (kk := ?_) | refine stepS2 (QbD Ty.h rfl Ty.h) (k := ?_) | refine Qbr ?_ | refine Qbt ?_ | refine Qbq ?_ | refine Qbz (ht := ?_) | ((fail_if_success show ASeq _ _ _ _ ⟨_, (_, .d (.v (.bool true))) :: _, _⟩); (fail_if_success show ASeq _ _ _ _ ⟨_, (_, .d (.v (.bool false))) :: _, _⟩); refine splitS (fun q => ?_) (fun q => ?_))))
   all_goals first
    |(exfalso; simp only [decide_eq_true_eq] at *; omega)
    |(simp; omega)
    |(refine QcF [8, 9, 1000000] 1 (h := ?_); refine QcW (hx := ?_) (hH := ?_) <;> simp <;> done)
  rw [hR] at c1;have hid : 0 <= id /\ id < ns.length := by simp [Pl.inR] at hR; omega
  obtain ⟨nd, hnd⟩ : ∃ nd, ns[id.toNat]? = some nd := ⟨_, List.getElem?_eq_getElem (by omega)⟩;have hgd : ns.getD id.toNat Pl.zn = nd := by rw [List.getD_eq_getElem?_getD, hnd]; rfl
  have hr : (ns.map rNode)[id.toNat]? = some (rNode nd) := by rw [List.getElem?_map, hnd]; rfl
  rw [hgd] at hw
  have hc : ¬ (144 < out.length + 1 ∨ Pl.inR id 0 (ns.length - 1) = false ∨ nd.kind = 0) ∨ nd.kind = 0 := by
   by_cases h0 : nd.kind = 0
   ·exact .inr h0
   ·exact .inl (by rw [hR]; simp [h0]; omega)
  clear hgd hnd
  by_cases hk0 : nd.kind = 0
  ·have hw2 : Hid (Pl.wk ns (Pl.ents s) (n + 1) (p, id) out = (out ++ [(p, id)], false)) := Pm.hid (by rw [hw.out, if_pos (.inr (.inr hk0))])
   rw [hw2.out];clear hw hw2 ih hwl hc
   (refine Qbt (Qbq ?_); (repeat (first | refine e1 (k := ?_) | refine e2 (k := ?_) | fail)); refine Qbr ?_)
   refine Qbu 1 (h := ?_);refine Qbu 2 (h := ?_)
   (repeat' (first | refine f1 (k := ?_) | refine e1 (k := ?_) | refine e0 (k := ?_) | refine stepS (Qbs Tryz.call40 c1 rfl) (k := ?_) | refine stepS (QbN rfl rfl (by omega)) (k := ?_) | refine stepD (Qbw Ty.h rfl Ty.h rfl rfl rfl hid.1 hr) (k := ?_) | refine stepS (Qbw Ty.h rfl Ty.h rfl rfl rfl hid.1 hr) (k := ?_) | refine Qcf Ty.h rfl Ty.h (hb := ?_) (kk := ?_) | refine stepS2 (QbD Ty.h rfl Ty.h) (k := ?_) | refine Qbr ?_ | refine Qbt ?_ | refine Qbq ?_ | refine QbE follows_mixed (by kernel_rfl) (by kernel_rfl) ?_ | refine Qbz (ht := ?_) | refine Qb2 (ht := fun q => ?_) (hf := fun q => ?_) | refine Qby ?_ | ((fail_if_success show ASeq _ _ _ _ ⟨_, (_, .d (.v (.bool true))) :: _, _⟩); (fail_if_success show ASeq _ _ _ _ ⟨_, (_, .d (.v (.bool false))) :: _, _⟩); refine splitS (fun q => ?_) (fun q => ?_))))
   all_goals first
    |(exfalso; simp only [decide_eq_true_eq] at *; omega)
    |(exfalso; simp only [beq_eq_false_iff_ne] at *; omega)
    |(simp; omega)
    |(refine QcF [8, 9, 1000000] 1 (h := ?_); refine QcW (hx := ?_) (hH := ?_) <;> simp <;> done)
  have hc := hc.resolve_right hk0
  by_cases hk1 : nd.kind = 1
  ·have hw2 : Hid (Pl.wk ns (Pl.ents s) (n + 1) (p, id) out = (out ++ [(p, id)], true)) := Pm.hid (by rw [hw.out, if_neg hc, if_pos hk1])
   rw [hw2.out];clear hw hw2 ih hwl hc
   (refine Qbt (Qbq ?_); (repeat (first | refine e1 (k := ?_) | refine e2 (k := ?_) | fail)); refine Qbr ?_)
   refine Qbu 1 (h := ?_);refine Qbu 2 (h := ?_)
   (repeat' (first | refine f1 (k := ?_) | refine e1 (k := ?_) | refine e0 (k := ?_) | refine stepS (Qbs Tryz.call40 c1 rfl) (k := ?_) | refine stepS (QbN rfl rfl (by omega)) (k := ?_) | refine stepD (Qbw Ty.h rfl Ty.h rfl rfl rfl hid.1 hr) (k := ?_) | refine stepS (Qbw Ty.h rfl Ty.h rfl rfl rfl hid.1 hr) (k := ?_) | refine Qcf Ty.h rfl Ty.h (hb := ?_) (kk := ?_) | refine stepS2 (QbD Ty.h rfl Ty.h) (k := ?_) | refine Qbr ?_ | refine Qbt ?_ | refine Qbq ?_ | refine QbE follows_mixed (by kernel_rfl) (by kernel_rfl) ?_ | refine Qbz (ht := ?_) | refine Qb2 (ht := fun q => ?_) (hf := fun q => ?_) | refine Qby ?_ | ((fail_if_success show ASeq _ _ _ _ ⟨_, (_, .d (.v (.bool true))) :: _, _⟩); (fail_if_success show ASeq _ _ _ _ ⟨_, (_, .d (.v (.bool false))) :: _, _⟩); refine splitS (fun q => ?_) (fun q => ?_))))
   all_goals first
    |(exfalso; simp only [decide_eq_true_eq] at *; omega)
    |(exfalso; simp only [beq_eq_false_iff_ne, beq_iff_eq] at *; omega)
    |(simp; omega)
    |(refine QcF [8, 9, 1000000] 1 (h := ?_); refine QcW (hx := ?_) (hH := ?_) <;> simp <;> done)
  have hw2 : Hid (Pl.wk ns (Pl.ents s) (n + 1) (p, id) out = Pl.wks ns (Pl.ents s) n p (Pl.ents s nd).1 (out ++ [(p, id)], (Pl.ents s nd).2)) := Pm.hid (by rw [hw.out, if_neg hc, if_neg hk1]);have c2 := Qgj s hg nd;have heb := QgA s nd;have hes := QjP s nd;clear hw hc;generalize Pl.ents s nd = ee at *
  obtain ⟨es, ok0⟩ := ee;simp only at hw2 heb hes;obtain ⟨kind, links, size, ⟨⟨p1, p2, p3, p4, p5⟩, depth, many⟩⟩ := nd;simp only at hk0 hk1
  (refine Qbt (Qbq ?_); (repeat (first | refine e1 (k := ?_) | refine e2 (k := ?_) | fail)); refine Qbr ?_)
  refine Qbu 1 (h := ?_);refine Qbu 2 (h := ?_)
  (repeat' (first | refine f1 (k := ?_) | refine e1 (k := ?_) | refine e0 (k := ?_) | refine stepS (Qbs Tryz.call40 c1 rfl) (k := ?_) | refine stepD (Qbs Tryz.call180 c2 rfl) (k := ?_) | refine stepS (QbN rfl rfl (by omega)) (k := ?_) | refine stepD (Qbw Ty.h rfl Ty.h rfl rfl rfl hid.1 hr) (k := ?_) | refine stepS (Qbw Ty.h rfl Ty.h rfl rfl rfl hid.1 hr) (k := ?_) | refine Qcf Ty.h rfl Ty.h (hb := ?_) (kk := ?_) | refine stepS2 (QbD Ty.h rfl Ty.h) (k := ?_) | refine Qbr ?_ | refine Qb5 ?_ | refine Qbt ?_ | refine Qbq ?_ | refine QbE follows_mixed (by kernel_rfl) (by kernel_rfl) ?_ | refine Qbz (ht := ?_) | refine Qb2 (ht := fun q => ?_) (hf := fun q => ?_) | refine Qby ?_ | refine Qbx ?_ | ((fail_if_success show ASeq _ _ _ _ ⟨_, (_, .d (.v (.bool true))) :: _, _⟩); (fail_if_success show ASeq _ _ _ _ ⟨_, (_, .d (.v (.bool false))) :: _, _⟩); refine splitS (fun q => ?_) (fun q => ?_))))
  all_goals first
   |(exfalso; simp only [decide_eq_true_eq] at *; omega)
   |(exfalso; simp only [beq_eq_false_iff_ne, beq_iff_eq] at *; omega)
   |(simp; omega)
   |skip
  generalize hsp : Pl.Qat p = sp at hspl
  refine QbC (fun m st => ∃ (k gg : Nat) (o : List Pl.Fnd) (b : Bool), k <= es.length /\ m = es.length - k /\ out.length + 1 <= o.length /\ gg = g + (o.length - out.length) /\ Hid (Pl.wk ns (Pl.ents s) (n + 1) (p, id) out = Pl.wks ns (Pl.ents s) n p (es.drop k) (o, b)) /\
   (b = true -> o.length <= 144) /\ st = ⟨101, [(3, .osl 0 gg 0 o.length), (10, .d (tEnts es)), (11, .d (dB b)), (12, .d (dI k)), (1, .d (.sl true 10 (ns.map rNode))), (4, .d (.pd (rSt s))), (6, .d (.pd [dS sp, dI id])), (1000000, .gh [] gvs)], [.arr gg 2 126 (o.map rFnd), .row 1 [], .row 1 []]⟩)
   [3, 10, 11, 12, 1, 4, 6, 1000000] 3 es.length ⟨0, g + 1, out ++ [(p, id)], ok0, by omega, rfl, by simp, by simp, Pm.hid hw2.out, fun _ => by simp; omega, ?_⟩ (round := ?_)
  ·rw [<- hsp]; simp [keepE, go_sem]
  rintro m st ⟨k, gg, o, b, hk, rfl, hol2, hgg, hW, hb, rfl⟩
  by_cases hkb : k < es.length /\ b = true
  rotate_left
  ·have hw3 : Hid (Pl.wk ns (Pl.ents s) (n + 1) (p, id) out = (o, b)) := Pm.hid (by
    rw [hW.out]
    by_cases hb2 : b = true
    ·have hk2 : k = es.length := by have : ¬ k < es.length := fun h => hkb ⟨h, hb2⟩; omega
     rw [hk2, List.drop_length]; rfl
    ·have : b = false := by simpa using hb2
     rw [this, Qfa])
   clear hW hw2 ih hwl
   (repeat' (first | refine f1 (k := ?_) | refine e1 (k := ?_) | refine e0 (k := ?_) | refine Qbr ?_ | refine Qbt ?_ | refine Qbq ?_ | refine QbE follows_mixed (by kernel_rfl) (by kernel_rfl) ?_ | refine Qb1 (hf := ?_) | refine Qb2 (ht := fun q => ?_) (hf := fun q => ?_) | refine Qby ?_ | refine Qbx ?_ | refine Qb3 ?_ | ((fail_if_success show ASeq _ _ _ _ ⟨_, (_, .d (.v (.bool true))) :: _, _⟩); (fail_if_success show ASeq _ _ _ _ ⟨_, (_, .d (.v (.bool false))) :: _, _⟩); refine splitS (fun q => ?_) (fun q => ?_))))
   all_goals first
    |(exfalso; simp only [decide_eq_true_eq] at *; exact hkb ⟨by omega, by assumption⟩)
    |(refine QcF [8, 9, 1000000] 1 (h := ?_); refine QcW (hx := ?_) (hH := ?_) <;> rw [hw3.out, hgg]; done)
  obtain ⟨hk2, rfl⟩ := hkb;have hb := hb rfl;obtain ⟨e, he⟩ : ∃ e, es[k]? = some e := ⟨_, List.getElem?_eq_getElem hk2⟩;have hre := QbB (f := rEnt) he;have hen := (heb e (List.mem_of_getElem? he)).1
  have IH := ih (p ++ [e.1]) e.2 o gg (by omega) hb (by simp; omega) (fun x hx => by
   rcases List.mem_append.1 hx with hx | hx
   ·exact hp x hx
   ·rw [List.mem_singleton] at hx; rw [hx]; exact hen)
  have hP := QfB hp;have hroot : Hid (sp = [47] ↔ p = []) := Pm.hid (by rw [<- hsp]; exact QcY hP);have hsn : Pl.Qat (p ++ [e.1]) = if p = [] then [47] ++ e.1 else sp ++ [47] ++ e.1 := by rw [Qkw, hsp]; split <;> simp
  have hstep : Hid (Pl.wk ns (Pl.ents s) (n + 1) (p, id) out = Pl.wks ns (Pl.ents s) n p (es.drop (k + 1)) (Pl.wk ns (Pl.ents s) n (p ++ [e.1], e.2) o)) := Pm.hid (by rw [hW.out, QeD he, Qdo]);have hlen := (Qly ns (Pl.ents s) n (p ++ [e.1], e.2) o).1;have htrue := Qlx ns (Pl.ents s) n (p ++ [e.1], e.2) o;have hnl4 := Qeb hen;rw [hsn] at IH;clear ih hW hw2 hwl he heb hsn hsp hp;generalize Pl.wk ns (Pl.ents s) n (p ++ [e.1], e.2) o = r at *
  obtain ⟨o', b'⟩ := r;obtain ⟨nm, eid⟩ := e;simp only at IH hlen htrue hnl4 hstep hre
  by_cases hp0 : p = []
  ·rw [if_pos hp0] at IH
   have hsp2 : sp = [47] := hroot.out.2 hp0;subst hsp2
   (repeat' (first | refine f1 (k := ?_) | refine e1 (k := ?_) | refine e0 (k := ?_) | refine (Fg.awp_drawF (id := 13) [] [10] follows_mixed (by kernel_rfl) (by kernel_rfl) (by kernel_rfl) ?_) | refine (Fg.aw_fltN ?_) | refine (Fg.aw_planFC (by rfl) (by kernel_rfl) rfl ?_) | refine (Fg.aw_planFN ?_) | refine stepD (Qbw Ty.h rfl Ty.h rfl rfl rfl (by omega) hre) (k := ?_) | refine stepS (Qbw Ty.h rfl Ty.h rfl rfl rfl (by omega) hre) (k := ?_) | refine stepD (QbV (l := [47]) (m := [47]) rfl rfl (by first | omega | (simp; omega))) (k := ?_) | refine stepS (QbV (l := [47]) rfl rfl (by first | omega | (simp; omega))) (k := ?_) | refine stepD (QbV rfl rfl (by first | omega | (simp; omega))) (k := ?_) | refine (Qfu [0] IH Tryz.call183 (k := ?_)) | refine stepS (Qb6 rfl rfl (by omega)) (k := ?_) | refine stepS (QbK rfl rfl) (k := ?_) | refine Qbr ?_ | refine Qb4 ?_ | refine Qb5 ?_ | refine Qcb ?_ | refine Qbt ?_ | refine Qbq ?_ | refine QbE follows_mixed (by kernel_rfl) (by kernel_rfl) ?_ | refine Qbz (ht := ?_) | refine Qb1 (hf := ?_) | refine Qby ?_ | refine Qbx ?_ | refine Qb3 ?_ | ((fail_if_success show ASeq _ _ _ _ ⟨_, (_, .d (.v (.bool true))) :: _, _⟩); (fail_if_success show ASeq _ _ _ _ ⟨_, (_, .d (.v (.bool false))) :: _, _⟩); refine splitS (fun q => ?_) (fun q => ?_))))
   all_goals first
    |(refine Qb8 (es.length - (k + 1)) (by omega) ⟨k + 1, gg + (o'.length - o.length), o', b', by omega, rfl, by omega, by omega, Pm.hid hstep.out, htrue, ?_⟩; simp [keepE, go_sem]; done)
    |(exfalso; simp at q; done)
    |(exfalso; simp only [decide_eq_false_iff_not] at *; omega)
    |(exfalso; simp_all; done)
  ·rw [if_neg hp0] at IH
   have hsp2 : ¬ sp = [47] := fun h => hp0 (hroot.out.1 h)
   (repeat' (first | refine f1 (k := ?_) | refine e1 (k := ?_) | refine e0 (k := ?_) | refine (Fg.awp_drawF (id := 13) [] [10] follows_mixed (by kernel_rfl) (by kernel_rfl) (by kernel_rfl) ?_) | refine (Fg.aw_fltN ?_) | refine (Fg.aw_planFC (by rfl) (by kernel_rfl) rfl ?_) | refine (Fg.aw_planFN ?_) | refine stepD (Qbw Ty.h rfl Ty.h rfl rfl rfl (by omega) hre) (k := ?_) | refine stepS (Qbw Ty.h rfl Ty.h rfl rfl rfl (by omega) hre) (k := ?_) | refine stepD (QbV (m := [47]) rfl rfl (by first | omega | (simp; omega))) (k := ?_) | refine stepS (QbV (l := [47]) rfl rfl (by first | omega | (simp; omega))) (k := ?_) | refine stepD (QbV rfl rfl (by first | omega | (simp; omega))) (k := ?_) | refine stepS (QbK (m := [47]) rfl rfl) (k := ?_) | refine (Qfu [0] IH Tryz.call183 (k := ?_)) | refine stepS (Qb6 rfl rfl (by omega)) (k := ?_) | refine Qbr ?_ | refine Qb4 ?_ | refine Qb5 ?_ | refine Qcb ?_ | refine Qbt ?_ | refine Qbq ?_ | refine QbE follows_mixed (by kernel_rfl) (by kernel_rfl) ?_ | refine Qbz (ht := ?_) | refine Qb1 (hf := ?_) | refine Qb2 (ht := fun q => ?_) (hf := fun q => ?_) | refine Qby ?_ | refine Qbx ?_ | refine Qb3 ?_ | ((fail_if_success show ASeq _ _ _ _ ⟨_, (_, .d (.v (.bool true))) :: _, _⟩); (fail_if_success show ASeq _ _ _ _ ⟨_, (_, .d (.v (.bool false))) :: _, _⟩); refine splitS (fun q => ?_) (fun q => ?_))))
   all_goals first
    |(refine Qb8 (es.length - (k + 1)) (by omega) ⟨k + 1, gg + (o'.length - o.length), o', b', by omega, rfl, by omega, by omega, Pm.hid hstep.out, htrue, ?_⟩; simp [keepE, go_sem]; done)
    |(exfalso; simp at q; done)
    |(exfalso; simp only [decide_eq_false_iff_not] at *; omega)
    |(exfalso; simp_all; done)
end Aw
end Go.Proofs.YtdjkdcokjoiokaaGreatDoor
namespace Go.Proofs.YtdjkdcokjoiokaaGreatDoor
namespace Aw
def Pl.Qbo (E : Pl.Node -> List Pl.Ent × Bool) (ns : List Pl.Node) : Int -> List (List UInt8) -> Option Int
 |i, [] => some i
 |i, n :: q => match (E (ns.getD i.toNat Pl.zn)).1.find? (fun e => e.1 == n) with
  |none => none
  |some e => Pl.Qbo E ns e.2 q
theorem Qil (E : Pl.Node -> List Pl.Ent × Bool) (ns : List Pl.Node) (i : Int) : Pl.Qbo E ns i [] = some i := rfl
theorem Qed (E : Pl.Node -> List Pl.Ent × Bool) (ns : List Pl.Node) (i : Int) (n : List UInt8) (q : List (List UInt8)) : Pl.Qbo E ns i (n :: q) = match (E (ns.getD i.toNat Pl.zn)).1.find? (fun e => e.1 == n) with
 |none => none
 |some e => Pl.Qbo E ns e.2 q := rfl
noncomputable def Pl.Qa4 (s : Pm.Store) (ns : List Pl.Node) : Int -> List (List UInt8) -> Option Int := Pl.Qbo (Pl.ents s) ns
def Pl.isIn (out : List Pl.Fnd) (q : List (List UInt8)) (k : Nat) : Bool := out.any fun x => (x.2 == (k : Int)) && q.isPrefixOf x.1
noncomputable def Pl.QaQ (s : Pm.Store) (t : Pl.Tree) (q : List (List UInt8)) (f : Pl.Node -> Int) : Int :=
 Pl.QaC (fun k => if Pl.isIn (Pl.Qa9 s t).1 q k then f ((Pl.Qab s t).getD k Pl.zn) else 0) (Pl.Qab s t).length
noncomputable def Pl.Qa8 (s : Pm.Store) (t : Pl.Tree) (path : List UInt8) (f : Pl.Node -> Int) : Int × Bool :=
 match Pl.Qah path with
 |none => (0, false)
 |some q => if Pl.Qag s && Pl.Qal s t then (match Pl.Qa4 s (Pl.Qab s t) 0 q with | none => (0, false) | some _ => (Pl.QaQ s t q f, true)) else (0, false)
theorem Qhi {s : Pm.Store} {ns : List Pl.Node} : ∀ {q : List (List UInt8)} {i j : Int}, 0 <= i -> Pl.Qa4 s ns i q = some j -> 0 <= j
 |[], i, j, h, hf => by unfold Pl.Qa4 at hf; rw [Qil] at hf; have := Option.some.inj hf; omega
 |n :: q, i, j, h, hf => by
  unfold Pl.Qa4 at hf;rw [Qed] at hf;split at hf
  ·cases hf
  ·rename_i e he
   exact Qhi (by have := QgA s _ e (List.mem_of_find?_eq_some he); omega) hf
theorem Qg8 {s : Pm.Store} {ns : List Pl.Node} (hN : Pl.NsOk ns (Pl.ents s)) : ∀ {q : List (List UInt8)} {i j : Int}, Pl.Qa4 s ns i q = some j -> Gr.find (Pl.Qad ns) (Pl.enF ns (Pl.ents s)) i.toNat q = some j.toNat
 |[], i, j, hf => by unfold Pl.Qa4 at hf; rw [Qil] at hf; obtain rfl := Option.some.inj hf; rfl
 |n :: q, i, j, hf => by
  unfold Pl.Qa4 at hf;rw [Qed] at hf;split at hf
  ·cases hf
  ·rename_i e he
   have hE : (Pl.ents s (ns.getD i.toNat Pl.zn)).2 = true := by
    rcases Qcs s (ns.getD i.toNat Pl.zn) with h | h
    ·exact h.1
    ·rw [h] at he; cases he
   have hk := QfV hE;unfold Gr.find;rw [if_pos (by unfold Pl.Qad; rw [hk]; rfl)];have h1 : Pl.enF ns (Pl.ents s) i.toNat = some ((Pl.ents s (ns.getD i.toNat Pl.zn)).1.map fun e => (e.1, e.2.toNat)) := by unfold Pl.enF; rw [if_pos hE]
   rw [h1, Option.getD_some, List.find?_map];have h2 : ((fun e : List UInt8 × Nat => e.1 == n) ∘ fun e : Pl.Ent => (e.1, e.2.toNat)) = fun e : Pl.Ent => e.1 == n := rfl
   rw [h2, he];exact Qg8 hN hf
theorem QmA (s : Pm.Store) (ns : List Pl.Node) : ∀ k es, Pl.enF ns (Pl.ents s) k = some es -> (es.map (·.1)).Nodup := by
 intro k es h;unfold Pl.enF at h;split at h
 ·rename_i hE
  obtain rfl := Option.some.inj h;rcases Qcs s (ns.getD k Pl.zn) with h | h
  ·rw [List.map_map]; exact Qm5 h.2
  ·rw [h] at hE; cases hE
 ·cases h
theorem Ql9 {s : Pm.Store} {t : Pl.Tree} {q : List (List UInt8)} {j : Int} (hF : Pl.Files s t) (hj : Pl.Qa4 s (Pl.Qab s t) 0 q = some j) :
 ∃ M, Gr.FD (Pl.Qad (Pl.Qab s t)) (Gr.chOf (Pl.enF (Pl.Qab s t) (Pl.ents s))) [j.toNat] M /\
   ∀ f : Pl.Node -> Int, Pl.QaQ s t q f = Pl.QaC (fun k => if k ∈ M then f ((Pl.Qab s t).getD k Pl.zn) else 0) (Pl.Qab s t).length := by
 have hOk := (QdI s t).2 hF;unfold Pl.Qal at hOk;simp only [Bool.and_eq_true, beq_iff_eq] at hOk;obtain ⟨L, g1, g2, g3⟩ := QeA s hF.root hOk.1.2;obtain ⟨M, hM, hi⟩ := Gr.QkR (p := []) (QmA s _) g1 (Qg8 (nsOk s t) hj);refine ⟨M, hM, fun f => ?_⟩;unfold Pl.QaQ;rw [g3];refine Qeo fun k _ => ?_
 have : Pl.isIn (L.map Pl.itOf) q k = true ↔ k ∈ M := by
  rw [<- hi k];unfold Pl.isIn;rw [List.any_map, List.any_eq_true];simp only [Function.comp, Pl.itOf, Bool.and_eq_true, beq_iff_eq, List.isPrefixOf_iff_prefix, List.nil_append];constructor
  ·rintro ⟨x, hx, h1, h2⟩; exact ⟨x, hx, by omega, h2⟩
  ·rintro ⟨x, hx, h1, h2⟩; exact ⟨x, hx, by omega, h2⟩
 by_cases hm : k ∈ M
 ·rw [if_pos (this.2 hm), if_pos hm]
 ·rw [if_neg (fun h => hm (this.1 h)), if_neg hm]
end Aw
end Go.Proofs.YtdjkdcokjoiokaaGreatDoor

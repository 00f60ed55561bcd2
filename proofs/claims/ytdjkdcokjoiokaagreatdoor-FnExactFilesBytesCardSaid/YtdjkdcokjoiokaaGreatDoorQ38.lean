/- Part 38 of the proof of bytes_card: contracts, walks, plain laws; no condition is assumed beyond those that a statement names. -/
import Derived.Test.YtdjkdcokjoiokaaGreatDoorQ37
set_option linter.all false
set_option maxRecDepth 100000
set_option maxHeartbeats 8000000
namespace Go.Proofs.YtdjkdcokjoiokaaGreatDoor
open Go.RowKit
namespace Aw
attribute [local irreducible] ASeq ADraw AWP Loc
theorem bCut (c : UInt8) (s : List UInt8) (hs : s.length <= 4294967280) : Pure Tryz.prog 166 [dS s, dS [c]] (.tup [dS (Lib.cut s [c]).1, dS (Lib.cut s [c]).2.1, dB (Lib.cut s [c]).2.2]) :=
 Qcz (xs := [.string ⟨(Lib.cut s [c]).1.toArray⟩, .string ⟨(Lib.cut s [c]).2.1.toArray⟩, .bool (Lib.cut s [c]).2.2]) rfl fun w hL => by
  obtain ⟨m, hm⟩ := hL.maxl
  refine (Tryz.strings_Cut ⟨s.toArray⟩ ⟨#[c]⟩ m w (by rw [Pm.QfQ]; omega) hm).mono fun e w' ⟨he, n, hw⟩ => ⟨?_, hw ▸ Pm.Qep w n⟩
  rw [he]
def Pl.entE (e : Pl.Ent) : Prop := (59 : UInt8) ∉ e.1 /\ (61 : UInt8) ∉ e.1 /\ 0 <= e.2 /\ e.2 < 1000000000
theorem Qmq {e : Pl.Ent} (h : Pl.entE e) : Pl.Qa3 (Pl.Qa2 e) = some e := by
 obtain ⟨h0, h1, h2, h3⟩ := h
 unfold Pl.Qa3 Pl.Qa2
 rw [Pl.Qci 61 _ _ h1, Pl.Qc7 61 _ (Qe8 _ (by decide))]
 simp only [Pl.QbT (show e.2.toNat < 1000000000 by omega), Option.getD_some]
 obtain ⟨a, b⟩ := e
 simp only [Option.some.injEq, Prod.mk.injEq, true_and] at *
 omega
theorem Qe4 (rest : List UInt8) : ∀ {l : List Pl.Ent}, (∀ e ∈ l, Pl.entE e) -> Pl.cutB 59 (Pl.Qal l ++ rest) = l.map Pl.Qa2 ++ Pl.cutB 59 rest
 |[], _ => rfl
 |e :: l, h => by
  have h1 : Pl.Qal (e :: l) ++ rest = Pl.Qa2 e ++ 59 :: (Pl.Qal l ++ rest) := by simp [Pl.Qal]
  have hn : (59 : UInt8) ∉ Pl.Qa2 e := by
   unfold Pl.Qa2
   intro hm
   rcases List.mem_append.1 hm with hm | hm
   ·exact (h e List.mem_cons_self).1 hm
   ·rcases List.mem_cons.1 hm with hm | hm
    ·exact absurd hm (by decide)
    ·exact Qe8 _ (by decide) hm
  rw [h1, Pl.Qci 59 _ _ hn, Qe4 rest fun x hx => h x (List.mem_cons_of_mem _ hx)]; rfl
theorem eg_end {s : List UInt8} {out : List Pl.Ent} (hE : ∀ e ∈ out, Pl.entE e) (hs : s = Pl.Qal out) : Pl.eg s = if Pl.Qae out = true then (out, true) else ([], false) := by
 have hc := Qe4 [] hE
 rw [List.append_nil, <- hs] at hc
 rw [Qmu (m := out) (by rw [hc]; simp [Pl.cutB]) fun i e he => ⟨Pl.Qa2 e, by
  rw [hc, List.getElem?_append_left (by simpa using (List.getElem?_eq_some_iff.1 he).1), List.getElem?_map, he]; rfl, Qmq (hE e (List.mem_of_getElem? he))⟩]
 simp [hs]
theorem eg_pre {s one tail : List UInt8} {out p : List Pl.Ent} (hE : ∀ e ∈ out, Pl.entE e) (hs : s = Pl.Qal out ++ (one ++ 59 :: tail)) (hn : (59 : UInt8) ∉ one) (h : Pl.QaU s p) : ∃ e, p[out.length]? = some e /\ one = Pl.Qa2 e := by
 have hc := Qe4 (one ++ 59 :: tail) hE
 rw [<- hs, <- h.2, Qfg (ent_b h.1), Pl.Qci 59 _ _ hn] at hc
 have hl := congrArg List.length hc
 have hne := List.length_pos_iff.2 (Pl.QdE 59 tail)
 simp only [List.length_append, List.length_map, List.length_cons, List.length_nil] at hl
 have hi := congrArg (fun l => l[out.length]?) hc
 rw [List.getElem?_append_left (by simp; omega), List.getElem?_append_right (by simp), List.getElem?_map] at hi
 simp only [List.length_map, Nat.sub_self, List.getElem?_cons_zero] at hi
 cases hp : p[out.length]? with
 |none => rw [hp] at hi; cases hi
 |some e => rw [hp] at hi; exact ⟨e, rfl, (Option.some.inj hi).symm⟩
theorem eg_cut0 {s rest : List UInt8} {out : List Pl.Ent} (hE : ∀ e ∈ out, Pl.entE e) (hs : s = Pl.Qal out ++ rest) (hr : rest ≠ []) (h : (59 : UInt8) ∉ rest) : Pl.eg s = ([], false) := by
 refine QjL fun p hp => hr ?_
 have hc := Qe4 rest hE
 rw [<- hs, <- hp.2, Qfg (ent_b hp.1), Pl.Qc7 59 _ h] at hc
 have := congrArg List.getLast? hc
 simpa using this.symm
structure EgStep (s rest : List UInt8) (out : List Pl.Ent) (w v : List UInt8 × List UInt8 × Bool) (g : Option Nat) : Prop where
 bad : (w.2.2 && v.2.2 && g.isSome && decide (out.length ≠ 12)) = false -> Pl.eg s = ([], false)
 good : (w.2.2 && v.2.2 && g.isSome) = true -> s = Pl.Qal (out ++ [(v.1, ((g.getD 0 : Nat) : Int))]) ++ w.2.1 /\ Pl.entE (v.1, ((g.getD 0 : Nat) : Int)) /\ w.2.1.length < rest.length
 l1 : w.1.length <= rest.length
 l2 : w.2.1.length <= rest.length
 l3 : v.1.length <= rest.length
 l4 : v.2.1.length <= rest.length
theorem eg_next {s rest : List UInt8} {out : List Pl.Ent} (hE : ∀ e ∈ out, Pl.entE e) (hs : s = Pl.Qal out ++ rest) (hr : rest ≠ []) :
 EgStep s rest out (Lib.cut rest [59]) (Lib.cut (Lib.cut rest [59]).1 [61]) (Pl.numGet (Lib.cut (Lib.cut rest [59]).1 [61]).2.1) := by
 have hlen : ∀ (c : UInt8) (x : List UInt8), (Lib.cut x [c]).1.length <= x.length /\ (Lib.cut x [c]).2.1.length <= x.length := fun c x => by
  by_cases h : c ∈ x
  ·obtain ⟨a, r, rfl, hn⟩ := Pl.QcN h
   rw [Pl.QeN hn]; simp; omega
  ·rw [Pl.Qfi h]; simp
 have g1 := hlen 59 rest
 have g2 := hlen 61 (Lib.cut rest [59]).1
 refine ⟨?_, ?_, g1.1, g1.2, by omega, by omega⟩
 ·intro hb
  by_cases h : (59 : UInt8) ∈ rest
  ·obtain ⟨one, tail, rfl, hn⟩ := Pl.QcN h
   rw [Pl.QeN hn] at hb
   refine QjL fun p hp => ?_
   obtain ⟨e, he, rfl⟩ := eg_pre hE hs hn hp
   have hb2 := ent_b hp.1 e (List.mem_of_getElem? he)
   have hle : out.length < p.length := (List.getElem?_eq_some_iff.1 he).1
   have h12 : p.length <= 12 := by have := hp.1; unfold Pl.Qae at this; rw [Bool.and_eq_true, decide_eq_true_eq] at this; exact this.2
   simp only at hb
   rw [show Pl.Qa2 e = e.1 ++ 61 :: Pl.dec e.2.toNat from rfl, Pl.QeN (QdR hb2.1 (by decide))] at hb
   simp only [Pl.QbT (show e.2.toNat < 1000000000 by omega), Option.isSome_some, Bool.true_and, decide_eq_false_iff_not] at hb
   omega
  ·exact eg_cut0 hE hs hr h
 ·intro hb
  by_cases h : (59 : UInt8) ∈ rest
  ·obtain ⟨one, tail, rfl, hn⟩ := Pl.QcN h
   rw [Pl.QeN hn] at hb ⊢
   simp only at hb ⊢
   by_cases h6 : (61 : UInt8) ∈ one
   ·obtain ⟨a, b, rfl, hm⟩ := Pl.QcN h6
    rw [Pl.QeN hm] at hb ⊢
    simp only [Bool.true_and] at hb ⊢
    obtain ⟨n, hg⟩ := Option.isSome_iff_exists.1 hb
    obtain ⟨rfl, hlt⟩ := Pl.Qcd hg
    rw [hg]
    refine ⟨?_, ⟨fun hc => hn (List.mem_append_left _ hc), hm, by simp, by simp; omega⟩, ?_⟩
    ·rw [hs]; simp [Pl.Qal, Pl.Qa2]
    ·simp; omega
   ·rw [Pl.Qfi h6] at hb; simp at hb
  ·rw [Pl.Qfi h] at hb; simp at hb
theorem Qjm (s : List UInt8) (hs : s.length <= 1000000) : Pure Tryz.prog 265 [dS s] (.tup [tEnts (Pl.eg s).1, dB (Pl.eg s).2]) := by
 (refine Qbw Tryz.func265 rfl Tryz.ntmps265 Tryz.results265 rfl ?_; simp only [parE, Nat.zero_add, Nat.reduceAdd])
 (repeat' (first | refine e1 (k := ?_) | refine Qbs ?_ | refine Qbu ?_ | refine Qbr ?_ | refine Qby ?_ | fail))
 refine QeQ 4 2 251 (h := ?_)
 skip
 refine QbD (fun m st => ∃ (g : Nat) (out : List Pl.Ent) (rest : List UInt8), m = rest.length /\ Hid (s = Pl.Qal out ++ rest) /\ Hid (∀ e ∈ out, Pl.entE e) /\ rest.length <= 1000000 /\ out.length <= 12 /\ Hid (∀ e ∈ out, e.1.length <= 1000000) /\
  st = ⟨61, [(4, .osl 0 g 0 out.length), (5, .d (dS rest))], [.arr g 2 251 (out.map rEnt)]⟩) [4, 5] 1 s.length ⟨0, [], s, rfl, Pm.hid rfl, Pm.hid (by simp), hs, by simp, Pm.hid (by simp), rfl⟩ (round := ?_)
 rintro m st ⟨g, out, rest, rfl, hO, hE, hrl, hlen, hnl, rfl⟩
 (repeat (first | refine e1 (k := ?_) | refine Qbu ?_ | refine Qbr ?_ | fail))
 by_cases hr : rest = []
 ·subst hr
  have hg := Pm.hid (eg_end (s := s) hE.out (by rw [hO.out, List.append_nil]))
  have ce := (Qla out (by unfold Pm.big; omega) hnl.out).arg (l := [tEnts out])
  generalize Pl.eg s = res at *
  generalize Pl.Qae out = o1 at *
  (repeat' (first | refine e1 (k := ?_) | refine stepS (QbU rfl rfl) (k := ?_) | refine Qbs ?_ | refine Qbu ?_ | refine Qbr ?_ | refine Qb2 (hf := ?_) | refine Qb5 ?_ | fail))
  refine Qeq 0 (h := ?_)
  (repeat' (first | refine e1 (k := ?_) | refine stepS (Qbt Tryz.call313 ce rfl) (k := ?_) | refine Qbs ?_ | refine Qbu ?_ | refine Qbr ?_ | refine Qb3 (ht := fun q => ?_) (hf := fun q => ?_) | refine Qbz ?_ | fail))
  ·refine Qcm 2 true 2 (h := ?_)
   refine Qb1 (hx := ?_)
   rw [hg.out]; simp_all
  ·refine Qb1 (hx := ?_)
   rw [hg.out]; simp_all
 have hne : (!(rest == ([] : List UInt8))) = true := by simpa using hr
 have st := eg_next hE.out hO.out hr
 have c1 := bCut 59 rest (by omega)
 generalize Lib.cut rest [59] = w at *
 obtain ⟨one, tail, ok⟩ := w
 have z1 : one.length <= rest.length := st.l1
 have c2 := bCut 61 one (by omega)
 simp only at st
 generalize Lib.cut one [61] = v at *
 obtain ⟨name, num, fine⟩ := v
 have z2 : name.length <= rest.length := st.l3
 have z3 : num.length <= rest.length := st.l4
 have z4 : tail.length <= rest.length := st.l2
 have c3 := bNumGet num (by unfold Pm.big; omega)
 have c4 := bClone name (by unfold Pm.big; omega)
 have F := Pm.hid st.bad
 have T := Pm.hid st.good
 clear st
 simp only at F T c1 c2
 generalize Pl.numGet num = gg at *
 generalize gg.isSome = good at *
 generalize hnv : gg.getD 0 = nv at *
 have hq : ((out.length : Int) == 12) = decide (out.length = 12) := by
  rw [Bool.eq_iff_iff]; simp; omega
 generalize Pl.eg s = res at *
 (repeat' (first | refine e1 (k := ?_) | refine e0 (k := ?_) | refine stepS (Qbt Tryz.call166 c1 rfl) (k := ?_) | refine stepS (Qbt Tryz.call166 c2 rfl) (k := ?_) | refine stepS (Qbt Tryz.call102 c3 rfl) (k := ?_) | refine stepS (Qbt Tryz.call167 c4 rfl) (k := ?_) | refine Qcr Ty.h rfl Ty.h (hb := ?_) (kk := ?_) | refine stepS (QbU rfl rfl) (k := ?_) | refine stepS2 (QbE Ty.h rfl Ty.h) (k := ?_) | refine Qbs ?_ | refine QbG ?_ | refine Qbu ?_ | refine Qbr ?_ | refine Qb0 (ht := ?_) | refine Qb3 (ht := fun q => ?_) (hf := fun q => ?_) | refine Qbz ?_ | refine QcP ?_ | refine Qby ?_ | refine Qb5 ?_ | refine Qfy ?_ | ((fail_if_success show ASeq _ _ _ _ ⟨_, (_, .d (.v (.bool true))) :: _, _⟩); (fail_if_success show ASeq _ _ _ _ ⟨_, (_, .d (.v (.bool false))) :: _, _⟩); refine splitS (fun q => ?_) (fun q => ?_))))
 all_goals first
  |exact absurd (hne.symm.trans ‹_ = false›) (by decide)
  |(refine Qcm 2 true 2 (h := ?_)
    refine Qb1 (hx := ?_)
    rw [F.out (by simp_all)]; rfl)
  |(simp; omega)
  |(exfalso; simp_all; done)
  |(obtain ⟨t1, t2, t3⟩ := T.out (by simp_all)
    have h12 : out.length ≠ 12 := fun e => absurd (‹((out.length : Int) == 12) = false›) (by rw [hq]; simp [e])
    refine Qb9 tail.length t3 ⟨g + 1, out ++ [(name, (nv : Int))], tail, rfl, Pm.hid t1, Pm.hid ?_, by omega, by simp only [List.length_append, List.length_cons, List.length_nil]; omega, Pm.hid ?_, ?_⟩
    ·intro e he
     rcases List.mem_append.1 he with h | h
     ·exact hE.out e h
     ·rw [List.mem_singleton.1 h]; exact t2
    ·intro e he
     rcases List.mem_append.1 he with h | h
     ·exact hnl.out e h
     ·rw [List.mem_singleton.1 h]; show name.length <= 1000000; omega
    ·simp [keepE, go_sem])
def Pl.idxS (l : List (List UInt8)) (pr : List UInt8 -> Bool) : Int := match l.findIdx? pr with
 |some i => (i : Int)
 |none => -1
theorem Qn1 (l : List (List UInt8)) (pr : List UInt8 -> Bool) : decide (Pl.idxS l pr ≥ 0) = l.any pr := by
 unfold Pl.idxS
 cases h : l.findIdx? pr with
 |none =>
  rw [List.findIdx?_eq_none_iff] at h
  have : l.any pr = false := by rw [List.any_eq_false]; intro x hx; rw [h x hx]; simp
  rw [this]; rfl
 |some i =>
  obtain ⟨hi, h1, _⟩ := List.findIdx?_eq_some_iff_getElem.1 h
  have : l.any pr = true := List.any_eq_true.2 ⟨_, List.getElem_mem hi, h1⟩
  rw [this]; simp
theorem QkV (l : List (List UInt8)) (hl : l.length <= 1000000) (f : FuncId) (pr : List UInt8 -> Bool) (hf : ∀ args w, (callFunc f args).run Tryz.prog w = .ok (.enter f args) w) (h : ∀ p ∈ l, Pure Tryz.prog f [dS p] (dB (pr p))) :
 PureF Tryz.prog 365 [.d (tStrs l), .fn (.func f) []] (dI (Pl.idxS l pr)) := by
 (refine Qcb Tryz.func365 rfl Tryz.ntmps365 Tryz.results365 rfl ?_; simp only [parA, Nat.zero_add, Nat.reduceAdd])
 (repeat' (first | refine e1 (k := ?_) | refine Qbs ?_ | refine Qbu ?_ | refine Qbr ?_ | refine Qby ?_ | fail))
 refine QbD (fun m st => ∃ k : Nat, k <= l.length /\ m = l.length - k /\ Hid (∀ x ∈ l.take k, pr x = false) /\ st = ⟨19, [(8, .d (dI k)), (7, .d (dI l.length)), (0, .d (tStrs l)), (1, .fn (.func f) [])], []⟩) [8, 7, 0, 1] 0 l.length ⟨0, by omega, rfl, Pm.hid (by simp), by simp [keepE, go_sem]⟩ (round := ?_)
 rintro m st ⟨k, hk, rfl, hA, rfl⟩
 (repeat (first | refine e1 (k := ?_) | refine Qbs ?_ | refine Qbu ?_ | refine Qbr ?_ | fail))
 cases q3 : decide ((k : Int) < (l.length : Int))
 ·(repeat' (first | refine e1 (k := ?_) | refine Qbs ?_ | refine Qbu ?_ | refine Qbr ?_ | refine Qb2 (hf := ?_) | refine Qb5 ?_ | fail))
  refine QbP (hx := ?_)
  have : k = l.length := by simp at q3; omega
  have h := hA.out
  rw [this, List.take_length] at h
  have : l.findIdx? pr = none := List.findIdx?_eq_none_iff.2 h
  unfold Pl.idxS; rw [this]
 have hk2 : k < l.length := by simp at q3; omega
 obtain ⟨x, hx⟩ : ∃ x, l[k]? = some x := ⟨_, List.getElem?_eq_getElem hk2⟩
 have hr := QbC (f := fun s => [dS s]) hx
 have T : Hid (pr x = false -> ∀ y ∈ l.take (k + 1), pr y = false) := Pm.hid fun h y hy => by
  rw [List.take_add_one, hx] at hy
  rcases List.mem_append.1 hy with hy | hy
  ·exact hA.out y hy
  ·simp at hy; subst hy; exact h
 have F : Hid (pr x = true -> Pl.idxS l pr = k) := Pm.hid fun h => by
  have : l.findIdx? pr = some k := by
   rw [List.findIdx?_eq_some_iff_getElem]
   refine ⟨hk2, ?_, fun j hj => ?_⟩
   ·rw [(List.getElem?_eq_some_iff.1 hx).2]; exact h
   ·have := hA.out l[j] (List.mem_iff_getElem?.2 ⟨j, by rw [List.getElem?_take, if_pos hj]; exact List.getElem?_eq_getElem (by omega)⟩)
    rw [this]; simp
  unfold Pl.idxS; rw [this]
 have c := h x (List.mem_of_getElem? hx)
 clear hx hA
 generalize pr x = b at *
 (repeat' (first | refine e1 (k := ?_) | refine stepS (Qbx Ty.h rfl Ty.h rfl rfl rfl (by omega) hr) (k := ?_) | refine stepS (Qc3 hf c rfl rfl) (k := ?_) | refine stepS (Qb7 rfl rfl (by omega)) (k := ?_) | refine Qbs ?_ | refine Qb4 ?_ | refine Qbu ?_ | refine Qbr ?_ | refine Qb0 (ht := ?_) | refine Qb3 (ht := fun q => ?_) (hf := fun q => ?_) | refine Qbz ?_ | refine Qby ?_ | fail))
 all_goals first
  |exact Qb9 (l.length - (k + 1)) (by omega) ⟨k + 1, by omega, rfl, Pm.hid (T.out (by assumption)), by simp [keepE, go_sem]⟩
  |(refine QbP (hx := ?_); rw [F.out (by assumption)])
theorem Qhg (l : List (List UInt8)) (hl : l.length <= 1000000) (f : FuncId) (pr : List UInt8 -> Bool) (hf : ∀ args w, (callFunc f args).run Tryz.prog w = .ok (.enter f args) w) (h : ∀ p ∈ l, Pure Tryz.prog f [dS p] (dB (pr p))) :
 PureF Tryz.prog 341 [.d (tStrs l), .fn (.func f) []] (dB (l.any pr)) := by
 have c := QkV l hl f pr hf h
 have hd := Pm.hid (Qn1 l pr)
 generalize Pl.idxS l pr = i at *
 (refine Qcb Tryz.func341 rfl Tryz.ntmps341 Tryz.results341 rfl ?_; simp only [parA, Nat.zero_add, Nat.reduceAdd])
 (repeat' (first | refine e1 (k := ?_) | refine stepS (Qcu Tryz.call365 c rfl rfl) (k := ?_) | refine Qbs ?_ | refine Qbu ?_ | refine Qbr ?_ | fail))
 refine QbP (hx := ?_)
 rw [<- hd.out]
theorem QnJ (s : List UInt8) (hs : s.length <= 1000000) : Pure Tryz.prog 342 [dS s] (dB (!Pl.Qaj s)) := by
 have c := bNameOk s hs
 (refine Qbw Tryz.func342 rfl Tryz.ntmps342 Tryz.results342 rfl ?_; simp only [parE, Nat.zero_add, Nat.reduceAdd])
 (repeat' (first | refine e1 (k := ?_) | refine stepS (Qbt Tryz.call284 c rfl) (k := ?_) | refine Qbs ?_ | refine Qbu ?_ | refine Qbr ?_ | fail))
 exact Qb1 (hx := rfl)
def Pl.Qbj (l : List (List UInt8)) : List UInt8 := 47 :: Pl.QaB 47 l
theorem Qim (l : List (List UInt8)) (hl : l.length <= 1000000) (hs : ∀ x ∈ l, x.length <= 1000000) : Pure Tryz.prog 269 [tStrs l] (dS (Pl.Qbj l)) := by
 have hj := QhL 47 l 1000000 hs
 have hjl : (Pl.QaB 47 l).length <= 140737488355328 := by
  refine Nat.le_trans hj ?_
  have := Nat.mul_le_mul_right (1000000 + 1) hl
  omega
 have c := bJoin l 47 (by omega) hjl
 clear hj
 unfold Pl.Qbj
 generalize Pl.QaB 47 l = j at *
 (refine Qbw Tryz.func269 rfl Tryz.ntmps269 Tryz.results269 rfl ?_; simp only [parE, Nat.zero_add, Nat.reduceAdd])
 (repeat' (first | refine e1 (k := ?_) | refine stepS (Qbt Tryz.call300 c rfl) (k := ?_) | refine stepS (QbV (l := [47]) rfl rfl (by simp; omega)) (k := ?_) | refine Qbs ?_ | refine Qbu ?_ | refine Qbr ?_ | fail))
 exact Qb1 (hx := rfl)
def Pl.QaT (l : List (List UInt8)) : List UInt8 × Bool := if decide (l.length <= 4) && l.all Pl.Qaj then (Pl.Qbj l, true) else ([], false)
theorem any_not (l : List (List UInt8)) : (l.any fun s => !Pl.Qaj s) = !l.all Pl.Qaj := by
 induction l with
 |nil => rfl
 |cons a l ih => simp [ih]
theorem bPathOf (l : List (List UInt8)) (hl : l.length <= 1000000) (hs : ∀ x ∈ l, x.length <= 1000000) : Pure Tryz.prog 315 [tStrs l] (.tup [dS (Pl.QaT l).1, dB (Pl.QaT l).2]) := by
 have c1 := Qhg l hl 342 (fun s => !Pl.Qaj s) Tryz.call342 fun p hp => QnJ p (hs p hp)
 have c2 := Qim l hl hs
 rw [any_not] at c1
 have hd : Hid (Pl.QaT l = if decide (l.length <= 4) && l.all Pl.Qaj then (Pl.Qbj l, true) else ([], false)) := Pm.hid rfl
 generalize Pl.QaT l = res at *
 generalize l.all Pl.Qaj = o at *
 generalize Pl.Qbj l = t at *
 have g1 : Hid (l.length <= 4 -> o = true -> res = (t, true)) := Pm.hid fun h1 h2 => by rw [hd.out, h2, decide_eq_true h1]; rfl
 have g2 : Hid (¬ l.length <= 4 -> res = ([], false)) := Pm.hid fun h1 => by rw [hd.out, decide_eq_false h1]; rfl
 have g3 : Hid (o = false -> res = ([], false)) := Pm.hid fun h2 => by rw [hd.out, h2, Bool.and_false]; rfl
 clear hd
 (refine Qbw Tryz.func315 rfl Tryz.ntmps315 Tryz.results315 rfl ?_; simp only [parE, Nat.zero_add, Nat.reduceAdd])
 (repeat' (first | refine e1 (k := ?_) | refine e0 (k := ?_) | refine stepS (Qcu Tryz.call341 c1 rfl rfl) (k := ?_) | refine stepS (Qbt Tryz.call269 c2 rfl) (k := ?_) | refine Qbs ?_ | refine Qbu ?_ | refine Qbr ?_ | refine Qb0 (ht := ?_) | refine Qb3 (ht := fun q => ?_) (hf := fun q => ?_) | refine Qbz ?_ | ((fail_if_success show ASeq _ _ _ _ ⟨_, (_, .d (.v (.bool true))) :: _, _⟩); (fail_if_success show ASeq _ _ _ _ ⟨_, (_, .d (.v (.bool false))) :: _, _⟩); refine splitS (fun q => ?_) (fun q => ?_))))
 all_goals
  refine Qb1 (hx := ?_)
  simp only [decide_eq_true_eq, decide_eq_false_iff_not, Bool.not_eq_true', Bool.not_eq_false'] at *
  first
   |(rw [g2.out (by omega)]; done)
   |(rw [g2.out (by omega)]; rfl)
   |(rw [g3.out (by assumption)]; done)
   |(rw [g3.out (by assumption)]; rfl)
   |(rw [g1.out (by omega) (by assumption)]; done)
   |(rw [g1.out (by omega) (by assumption)]; rfl)
theorem Qin (s : List UInt8) (hs : s.length <= 1000000000000) : Pure Tryz.prog 364 [dS s, dS [47]] (dB (decide (s.head? = some 47))) := by
 cases s with
 |nil =>
  (refine Qbw Tryz.func364 rfl Tryz.ntmps364 Tryz.results364 rfl ?_; simp only [parE, Nat.zero_add, Nat.reduceAdd])
  (repeat' (first | refine e1 (k := ?_) | refine e0 (k := ?_) | refine Qbs ?_ | refine Qbu ?_ | refine Qbr ?_ | fail))
  exact Qb1 (hx := rfl)
 |cons c r =>
  have hd : Hid (decide ((c :: r).head? = some 47) = ((c :: r).take 1 == [47])) := Pm.hid (by rw [Bool.eq_iff_iff]; simp)
  (refine Qbw Tryz.func364 rfl Tryz.ntmps364 Tryz.results364 rfl ?_; simp only [parE, Nat.zero_add, Nat.reduceAdd])
  (repeat' (first | refine e1 (k := ?_) | refine e0 (k := ?_) | refine stepS (Qez rfl rfl rfl (by simp) (by simp only [List.length_cons]; simp; omega)) (k := ?_) | refine stepS (QbL (m := [47]) rfl rfl) (k := ?_) | refine Qbs ?_ | refine Qbu ?_ | refine Qbr ?_ | ((fail_if_success show ASeq _ _ _ _ ⟨_, (_, .d (.v (.bool true))) :: _, _⟩); (fail_if_success show ASeq _ _ _ _ ⟨_, (_, .d (.v (.bool false))) :: _, _⟩); refine splitS (fun q => ?_) (fun q => ?_))))
  all_goals first
   |(exfalso; simp at *; omega)
   |(refine Qb1 (hx := ?_)
     rw [hd.out]
     simp_all)
theorem Qjn (s : List UInt8) (hs : s.length <= 1000000000000) : Pure Tryz.prog 340 [dS s, dS [47]] (.tup [dS (if s.head? = some 47 then s.drop 1 else s), dB (decide (s.head? = some 47))]) := by
 have c := Qin s hs
 have h1 : s.head? = some 47 -> 1 <= s.length := fun h => by cases s with | nil => cases h | cons a r => simp
 by_cases h : s.head? = some 47
 ·have h1 := h1 h
  rw [decide_eq_true h] at *
  rw [if_pos h]
  (refine Qbw Tryz.func340 rfl Tryz.ntmps340 Tryz.results340 rfl ?_; simp only [parE, Nat.zero_add, Nat.reduceAdd])
  (repeat' (first | refine e1 (k := ?_) | refine stepS (Qbt Tryz.call364 c rfl) (k := ?_) | refine stepS (Qey rfl rfl rfl (by simp) (by simp; omega)) (k := ?_) | refine Qbs ?_ | refine Qbu ?_ | refine Qbr ?_ | refine Qb2 (hf := ?_) | refine Qbz ?_ | fail))
  exact Qb1 (hx := rfl)
 ·rw [decide_eq_false h] at *
  rw [if_neg h]
  (refine Qbw Tryz.func340 rfl Tryz.ntmps340 Tryz.results340 rfl ?_; simp only [parE, Nat.zero_add, Nat.reduceAdd])
  (repeat' (first | refine e1 (k := ?_) | refine stepS (Qbt Tryz.call364 c rfl) (k := ?_) | refine Qbs ?_ | refine Qbu ?_ | refine Qbr ?_ | refine Qb0 (ht := ?_) | fail))
  exact Qb1 (hx := rfl)
theorem Qlb (s : List UInt8) (hs : s.length <= 1000000000000) : Pure Tryz.prog 314 [dS s, dS [47]] (.tup [dS (if s.head? = some 47 then s.drop 1 else s), dB (decide (s.head? = some 47))]) := by
 have c := Qjn s hs
 generalize (if s.head? = some 47 then s.drop 1 else s) = r at *
 (refine Qbw Tryz.func314 rfl Tryz.ntmps314 Tryz.results314 rfl ?_; simp only [parE, Nat.zero_add, Nat.reduceAdd])
 (repeat' (first | refine e1 (k := ?_) | refine stepS (Qbt Tryz.call340 c rfl) (k := ?_) | refine Qbs ?_ | refine Qbu ?_ | refine Qbr ?_ | fail))
 exact Qb1 (hx := rfl)
theorem Qk8 (b : UInt8) (l : List (List UInt8)) (m : Nat) (h : ∀ x ∈ l, x.length <= m) (hn : l ≠ []) : (Pl.QaB b l).length + 1 <= l.length * (m + 1) := by
 induction l with
 |nil => exact absurd rfl hn
 |cons a l ih =>
  have h1 := h a List.mem_cons_self
  cases l with
  |nil => simp [Pl.QaB]; omega
  |cons c l =>
   have ih := ih (fun x hx => h x (List.mem_cons_of_mem _ hx)) (by simp)
   have e : Pl.QaB b (a :: c :: l) = a ++ b :: Pl.QaB b (c :: l) := by simp [Pl.QaB, List.intersperse]
   rw [e, List.length_append, List.length_cons, List.length_cons, Nat.succ_mul]
   omega
theorem Qh5 {s : List UInt8} (h : 20 < s.length) : Pl.Qag s = none := by
 unfold Pl.Qag
 rw [if_neg (by rintro rfl; simp at h), if_neg]
 rintro ⟨h1, h2, h3⟩
 cases s with
 |nil => cases h1
 |cons c r =>
  obtain rfl : c = 47 := by simpa using h1
  rw [QcA, List.tail_cons] at h2 h3
  have := Qk8 47 (Pl.cutB 47 r) 4 (fun x hx => by
   have := List.all_eq_true.1 h2 x hx
   unfold Pl.Qaj at this
   simp only [Bool.and_eq_true, decide_eq_true_eq] at this
   omega) (Pl.QdE 47 r)
  rw [Qf7] at this
  simp only [List.length_cons] at h
  omega
theorem Qg8 (r : List UInt8) : Pl.Qag (47 :: r) = if r = [] then some [] else if (Pl.QaT (Pl.cutB 47 r)).2 then some (Pl.cutB 47 r) else none := by
 unfold Pl.Qag Pl.QaT
 rw [QcA, List.tail_cons]
 by_cases h : r = []
 ·subst h; rfl
 ·rw [if_neg (by simpa using h), if_neg h]
  by_cases h2 : (decide ((Pl.cutB 47 r).length <= 4) && (Pl.cutB 47 r).all Pl.Qaj) = true
  ·rw [if_pos h2, if_pos rfl]
   rw [Bool.and_eq_true, decide_eq_true_eq] at h2
   rw [if_pos ⟨rfl, h2.2, h2.1⟩]
  ·rw [if_neg h2]
   rw [Bool.and_eq_true, decide_eq_true_eq] at h2
   have h3 : ¬ ((47 :: r).head? = some 47 /\ (Pl.cutB 47 r).all Pl.Qaj = true /\ (Pl.cutB 47 r).length <= 4) := fun x => h2 ⟨x.2.2, x.2.1⟩
   rw [if_neg h3]; rfl
theorem QkU (s : List UInt8) (hs : s.length <= 1000000000000) : Pure Tryz.prog 267 [dS s] (.tup [tStrs ((Pl.Qag s).getD []), dB (Pl.Qag s).isSome]) := by
 have c1 := Qlb s hs
 by_cases h47 : s.head? = some 47
 rotate_left
 ·have hx : Hid (Pl.Qag s = none) := Pm.hid (by unfold Pl.Qag; rw [if_neg (by rintro rfl; exact h47 rfl), if_neg (fun x => h47 x.1)])
  have hs47 : (s == [47]) = false := by
   rw [beq_eq_false_iff_ne]; rintro rfl; exact h47 rfl
  rw [decide_eq_false h47, if_neg h47] at c1
  generalize Pl.Qag s = res at *
  (refine Qbw Tryz.func267 rfl Tryz.ntmps267 Tryz.results267 rfl ?_; simp only [parE, Nat.zero_add, Nat.reduceAdd])
  (repeat' (first | refine e1 (k := ?_) | refine e0 (k := ?_) | refine stepS (QbL (m := [47]) rfl rfl) (k := ?_) | refine stepS (Qbt Tryz.call314 c1 rfl) (k := ?_) | refine Qbs ?_ | refine Qbu ?_ | refine Qbr ?_ | refine Qb0 (ht := ?_) | refine Qb3 (ht := fun q => ?_) (hf := fun q => ?_) | refine Qbz ?_ | fail))
  all_goals first
   |(exfalso; simp_all; done)
   |(refine Qcm 2 true 1 (h := ?_)
     refine Qb1 (hx := ?_)
     first | (rw [hx.out]; done) | (rw [hx.out]; rfl))
 obtain ⟨r, rfl⟩ : ∃ r, s = 47 :: r := by
  cases s with
  |nil => cases h47
  |cons c r => exact ⟨r, by rw [show c = 47 by simpa using h47]⟩
 rw [decide_eq_true h47, if_pos h47] at c1
 simp only [List.drop_succ_cons, List.drop_zero] at c1
 have hd := Pm.hid (Qg8 r)
 by_cases h20 : (47 :: r).length <= 20
 rotate_left
 ·have hx := Pm.hid (Qh5 (s := 47 :: r) (by omega))
  have hne : r ≠ [] := by rintro rfl; simp at h20
  generalize Pl.Qag (47 :: r) = res at *
  clear hd
  (refine Qbw Tryz.func267 rfl Tryz.ntmps267 Tryz.results267 rfl ?_; simp only [parE, Nat.zero_add, Nat.reduceAdd])
  (repeat' (first | refine e1 (k := ?_) | refine stepS (QbL (m := [47]) rfl rfl) (k := ?_) | refine stepS (Qbt Tryz.call314 c1 rfl) (k := ?_) | refine Qbs ?_ | refine Qbu ?_ | refine Qbr ?_ | refine Qb3 (ht := fun q => ?_) (hf := fun q => ?_) | refine Qbz ?_ | fail))
  all_goals first
   |(exfalso; simp_all; done)
   |(exfalso; simp at *; omega)
   |(refine Qcm 2 true 1 (h := ?_)
     refine Qb1 (hx := ?_)
     first | (rw [hx.out]; done) | (rw [hx.out]; rfl))
 have hrl : r.length <= 19 := by simp only [List.length_cons] at h20; omega
 have c2 := bSplit r 47 (by omega)
 have hcl := QcD 47 r
 have c3 := bPathOf (Pl.cutB 47 r) (by omega) (fun x hx => by have := hcl.2 x hx; omega)
 have ht : Hid ((Pl.QaT (Pl.cutB 47 r)).2 = true -> (Pl.QaT (Pl.cutB 47 r)).1 = 47 :: r) := Pm.hid fun h => by
  unfold Pl.QaT at h ⊢
  split at h
  ·rename_i h2; rw [if_pos h2]; show 47 :: Pl.QaB 47 _ = _; rw [Qf7]
  ·cases h
 clear hcl
 generalize Pl.Qag (47 :: r) = res at *
 generalize Pl.cutB 47 r = l at *
 generalize Pl.QaT l = po at *
 obtain ⟨again, fine⟩ := po
 simp only at ht hd c3
 have hrs : ((47 :: r) == [47]) = decide (r = []) := by rw [Bool.eq_iff_iff]; simp
 cases fine
 all_goals
  (refine Qbw Tryz.func267 rfl Tryz.ntmps267 Tryz.results267 rfl ?_; simp only [parE, Nat.zero_add, Nat.reduceAdd])
  (repeat' (first | refine e1 (k := ?_) | refine e0 (k := ?_) | refine stepS (QbL (l := 47 :: r) (m := [47]) rfl rfl) (k := ?_) | refine stepS (Qbt Tryz.call314 c1 rfl) (k := ?_) | refine stepS (Qbt Tryz.call243 c2 rfl) (k := ?_) | refine stepS (Qbt Tryz.call315 c3 rfl) (k := ?_) | refine stepS (QbU (m := 47 :: r) rfl rfl) (k := ?_) | refine Qbs ?_ | refine Qbu ?_ | refine Qbr ?_ | refine Qb0 (ht := ?_) | refine Qb3 (ht := fun q => ?_) (hf := fun q => ?_) | refine Qbz ?_ | fail))
 all_goals first
  |(exfalso; simp at *; omega)
  |(refine Qcm 2 true 1 (h := ?_)
    refine Qb1 (hx := ?_)
    first
     |(exfalso; have h9 := ht.out rfl; clear ht; simp_all; done)
     |(have h9 := hd.out; clear hd ht; simp_all; done)
     |(have h9 := hd.out; clear hd ht; simp_all; rfl))
  |(refine Qb1 (hx := ?_)
    have h9 := hd.out
    clear hd ht
    first | (simp_all; done) | (simp_all; rfl))
theorem Qot : ∀ a b : List UInt8, decide (Lib.compareBytes a b < 0) = Op.bytesLess a b
 |[], [] => by simp [Lib.compareBytes, Op.bytesLess]
 |[], _ :: _ => by simp [Lib.compareBytes, Op.bytesLess]
 |_ :: _, [] => by simp [Lib.compareBytes, Op.bytesLess]
 |a :: x, b :: y => by
  have ih := Qot x y
  unfold Lib.compareBytes Op.bytesLess
  by_cases h : a < b
  ·simp [h]
  ·by_cases h2 : b < a
   ·have : a ≠ b := by rintro rfl; exact h h2
    simp [h, h2, this]
   ·have : a = b := UInt8.le_antisymm (UInt8.not_lt.1 h2) (UInt8.not_lt.1 h)
    subst this
    simp only [h, if_false, BEq.rfl, Bool.true_and, decide_false, Bool.false_or]
    exact ih
theorem Qou : ∀ a b : List UInt8, (Lib.compareBytes a b == 0) = (a == b)
 |[], [] => by simp [Lib.compareBytes]
 |[], _ :: _ => by simp [Lib.compareBytes]
 |_ :: _, [] => by simp [Lib.compareBytes]
 |a :: x, b :: y => by
  have ih := Qou x y
  unfold Lib.compareBytes
  by_cases h : a < b
  ·have : a ≠ b := by rintro rfl; exact absurd h (UInt8.lt_irrefl _)
   simp [h, this]
  ·by_cases h2 : b < a
   ·have : a ≠ b := by rintro rfl; exact h h2
    simp [h, h2, this]
   ·have : a = b := UInt8.le_antisymm (UInt8.not_lt.1 h2) (UInt8.not_lt.1 h)
    subst this
    simp only [h, if_false, ih]
    rw [Bool.eq_iff_iff]; simp
theorem QnP (a b : List UInt8) : Pure Tryz.prog 320 [dS a, dS b] (dI (Lib.compareBytes a b)) :=
 QbY rfl fun w _ => (Tryz.strings_Compare ⟨a.toArray⟩ ⟨b.toArray⟩ w).mono fun e w' h => ⟨h.1, h.2 ▸ Below.refl _ _⟩
theorem QmH (e : Pl.Ent) (n : List UInt8) : Pure Tryz.prog 344 [.agg (rEnt e), dS n] (dI (Lib.compareBytes e.1 n)) := by
 have c := QnP e.1 n
 generalize Lib.compareBytes e.1 n = r at *
 (refine Qbw Tryz.func344 rfl Tryz.ntmps344 Tryz.results344 rfl ?_; simp only [parE, Nat.zero_add, Nat.reduceAdd])
 (refine Qbu (Qbr ?_); (repeat (first | refine e1 (k := ?_) | refine e2 (k := ?_) | fail)); refine Qbs ?_)
 refine Qbv 0 (h := ?_)
 (repeat' (first | refine e1 (k := ?_) | refine stepS (Qbt Tryz.call320 c rfl) (k := ?_) | refine Qbs ?_ | refine Qbu ?_ | refine Qbr ?_ | fail))
 exact Qb1 (hx := rfl)
def Pl.lowB (l : List Pl.Ent) (n : List UInt8) : Nat := (l.takeWhile fun e => Op.bytesLess e.1 n).length
def Pl.QaE (l : List Pl.Ent) (n : List UInt8) : Bool := match l[Pl.lowB l n]? with
 |some e => e.1 == n
 |none => false
theorem QeU {α : Type} (p : α -> Bool) : ∀ (l : List α) (i : Nat), i <= l.length -> (∀ k (h : k < l.length), k < i -> p l[k] = true) -> (∀ h : i < l.length, p l[i] = false) -> (l.takeWhile p).length = i
 |[], i, hi, _, _ => by simp at hi; subst hi; rfl
 |a :: l, 0, _, _, h2 => by
  have := h2 (by simp)
  simp at this
  simp [List.takeWhile, this]
 |a :: l, i + 1, hi, h1, h2 => by
  have h := h1 0 (by simp) (by omega)
  simp only [List.getElem_cons_zero] at h
  rw [List.takeWhile_cons, if_pos h, List.length_cons, QeU p l i (by simpa using hi) (fun k hk hki => h1 (k + 1) (by simpa using hk) (by omega)) (fun hh => h2 (by simpa using hh))]
theorem Qd2 {α : Type} (p : α -> Bool) : ∀ (l : List α), (∀ k (h : k < l.length), k < (l.takeWhile p).length -> p l[k] = true) /\ (∀ e, l[(l.takeWhile p).length]? = some e -> p e = false)
 |[] => ⟨fun k h => by simp at h, fun e h => by simp at h⟩
 |a :: l => by
  obtain ⟨h1, h2⟩ := Qd2 p l
  rw [List.takeWhile_cons]
  by_cases h : p a = true
  ·rw [if_pos h]
   refine ⟨fun k hk hki => ?_, fun e he => ?_⟩
   ·cases k with
    |zero => exact h
    |succ k => exact h1 k (by simpa using hk) (by simpa using hki)
   ·rw [List.length_cons, List.getElem?_cons_succ] at he; exact h2 e he
  ·rw [if_neg h]
   refine ⟨fun k hk hki => by simp at hki, fun e he => ?_⟩
   simp only [List.length_nil, List.getElem?_cons_zero, Option.some.injEq] at he
   subst he; simpa using h
theorem QjK {l : List Pl.Ent} (h : Pl.Qae l = true) (n : List UInt8) {i j : Nat} (hi : i < l.length) (hj : j < l.length) (hij : i <= j) (hl : Op.bytesLess l[j].1 n = true) : Op.bytesLess l[i].1 n = true := by
 rcases Nat.eq_or_lt_of_le hij with e | e
 ·subst e; exact hl
 ·exact Qhe (QgV h hj e) hl
theorem QiZ {l : List Pl.Ent} (h : Pl.Qae l = true) (n : List UInt8) : l.find? (fun e => e.1 == n) = if Pl.QaE l n then l[Pl.lowB l n]? else none := by
 unfold Pl.QaE
 obtain ⟨hlow, hat⟩ := Qd2 (fun e : Pl.Ent => Op.bytesLess e.1 n) l
 rw [show (l.takeWhile fun e => Op.bytesLess e.1 n).length = Pl.lowB l n from rfl] at hlow hat
 cases he : l[Pl.lowB l n]? with
 |none =>
  simp only [Bool.false_eq_true, if_false]
  rw [List.find?_eq_none]
  intro x hx
  obtain ⟨k, hk, rfl⟩ := List.getElem_of_mem hx
  have := hlow k hk (by have := List.getElem?_eq_none_iff.1 he; omega)
  simp only [beq_iff_eq]
  intro e; rw [e, QdI] at this; cases this
 |some e =>
  have hb := hat e he
  obtain ⟨hlt, hge⟩ := List.getElem?_eq_some_iff.1 he
  simp only
  by_cases hn : e.1 = n
  ·rw [if_pos (by simpa using hn), List.find?_eq_some_iff_getElem]
   refine ⟨by simpa using hn, _, hlt, hge, fun j hj => ?_⟩
   have := hlow j (by omega) hj
   simp only [Bool.not_eq_true', beq_eq_false_iff_ne]
   intro e2; rw [e2, QdI] at this; cases this
  ·rw [if_neg (by simpa using hn), List.find?_eq_none]
   intro x hx
   obtain ⟨k, hk, rfl⟩ := List.getElem_of_mem hx
   simp only [beq_iff_eq]
   intro e2
   rcases Nat.lt_trichotomy k (Pl.lowB l n) with h1 | h1 | h1
   ·have := hlow k hk h1
    rw [e2, QdI] at this; cases this
   ·subst h1; rw [hge] at e2; exact hn e2
   ·have := QgV h hk h1
    rw [hge, e2, hb] at this; cases this
theorem Qlc (l : List Pl.Ent) (n : List UInt8) (hE : Pl.Qae l = true) (f : FuncId) (hf : ∀ args w, (callFunc f args).run Tryz.prog w = .ok (.enter f args) w) (h : ∀ e ∈ l, Pure Tryz.prog f [.agg (rEnt e), dS n] (dI (Lib.compareBytes e.1 n))) :
 PureF Tryz.prog 343 [.d (dEnts l), .d (dS n), .fn (.func f) []] (.tup [dI (Pl.lowB l n), dB (Pl.QaE l n)]) := by
 have hl : l.length <= 12 := by have := hE; unfold Pl.Qae at this; rw [Bool.and_eq_true, decide_eq_true_eq] at this; exact this.2
 have hEd := Pm.hid hE
 clear hE
 (refine Qcb Tryz.func343 rfl Tryz.ntmps343 Tryz.results343 rfl ?_; simp only [parA, Nat.zero_add, Nat.reduceAdd])
 (repeat' (first | refine e1 (k := ?_) | refine Qbs ?_ | refine Qbu ?_ | refine Qbr ?_ | refine Qby ?_ | fail))
 refine QbD (fun m st => ∃ i j : Nat, i <= j /\ j <= l.length /\ m = j - i /\ Hid (∀ k (h : k < l.length), k < i -> Op.bytesLess l[k].1 n = true) /\ Hid (∀ k (h : k < l.length), j <= k -> Op.bytesLess l[k].1 n = false) /\
  st = ⟨49, [(9, .d (dI i)), (10, .d (dI j)), (8, .d (dI l.length)), (0, .d (dEnts l)), (1, .d (dS n)), (2, .fn (.func f) [])], []⟩) [9, 10, 8, 0, 1, 2] 0 l.length ⟨0, l.length, by omega, by omega, by omega, Pm.hid fun _ _ h => by omega, Pm.hid fun _ _ h => by omega, by simp [keepE, go_sem]⟩ (round := ?_)
 rintro m st ⟨i, j, hij, hj, rfl, hA, hB, rfl⟩
 (repeat (first | refine e1 (k := ?_) | refine Qbs ?_ | refine Qbu ?_ | refine Qbr ?_ | fail))
 by_cases q3 : i < j
 rotate_left
 ·have e : i = j := by omega
  subst e
  have hlow : Hid (Pl.lowB l n = i) := Pm.hid (QeU _ l i hj (fun k hk hki => hA.out k hk hki) (fun hh => hB.out i hh (Nat.le_refl _)))
  by_cases q4 : i < l.length
  ·obtain ⟨x, hx⟩ : ∃ x, l[i]? = some x := ⟨_, List.getElem?_eq_getElem q4⟩
   have hr := QbC (f := rEnt) hx
   have c := h x (List.mem_of_getElem? hx)
   have hit : Hid (Pl.QaE l n = (x.1 == n)) := Pm.hid (by unfold Pl.QaE; rw [hlow.out, hx])
   rw [<- Qou] at hit
   clear hx hA hB hEd
   generalize Lib.compareBytes x.1 n = r at *
   generalize Pl.QaE l n = hh at *
   generalize Pl.lowB l n = lo at *
   (repeat' (first | refine e1 (k := ?_) | refine e0 (k := ?_) | refine stepS (Qbx Ty.h rfl Ty.h rfl rfl rfl (by omega) hr) (k := ?_) | refine stepS (Qc3 hf c rfl rfl) (k := ?_) | refine stepS (Qb7 rfl rfl (by omega)) (k := ?_) | refine Qbs ?_ | refine Qbu ?_ | refine Qbr ?_ | refine Qb3 (ht := fun q => ?_) (hf := fun q => ?_) | refine Qbz ?_ | refine QcP ?_ | refine Qby ?_ | refine Qb5 ?_ | ((fail_if_success show ASeq _ _ _ _ ⟨_, (_, .d (.v (.bool true))) :: _, _⟩); (fail_if_success show ASeq _ _ _ _ ⟨_, (_, .d (.v (.bool false))) :: _, _⟩); refine splitS (fun q => ?_) (fun q => ?_))))
   all_goals first
    |(exfalso; simp only [decide_eq_true_eq, decide_eq_false_iff_not] at *; omega)
    |(refine QbP (hx := ?_)
      rw [hlow.out, hit.out])
  ·have hit : Hid (Pl.QaE l n = false) := Pm.hid (by unfold Pl.QaE; rw [hlow.out, List.getElem?_eq_none_iff.2 (by omega)])
   clear hA hB hEd
   generalize Pl.QaE l n = hh at *
   generalize Pl.lowB l n = lo at *
   (repeat' (first | refine e1 (k := ?_) | refine e0 (k := ?_) | refine stepS (Qb7 rfl rfl (by omega)) (k := ?_) | refine Qbs ?_ | refine Qbu ?_ | refine Qbr ?_ | refine Qb3 (ht := fun q => ?_) (hf := fun q => ?_) | refine Qbz ?_ | refine QcP ?_ | refine Qby ?_ | refine Qb5 ?_ | ((fail_if_success show ASeq _ _ _ _ ⟨_, (_, .d (.v (.bool true))) :: _, _⟩); (fail_if_success show ASeq _ _ _ _ ⟨_, (_, .d (.v (.bool false))) :: _, _⟩); refine splitS (fun q => ?_) (fun q => ?_))))
   all_goals first
    |(exfalso; simp only [decide_eq_true_eq, decide_eq_false_iff_not] at *; omega)
    |(refine QbP (hx := ?_)
      rw [hlow.out, hit.out])
 have hm : (i + j) / 2 < l.length := by omega
 obtain ⟨x, hx⟩ : ∃ x, l[(i + j) / 2]? = some x := ⟨_, List.getElem?_eq_getElem hm⟩
 have hxe : l[(i + j) / 2] = x := (List.getElem?_eq_some_iff.1 hx).2
 have hr := QbC (f := rEnt) hx
 have c := h x (List.mem_of_getElem? hx)
 have hlt := Pm.hid (Qot x.1 n)
 have T : Hid (Op.bytesLess x.1 n = true -> ∀ k (h : k < l.length), k < (i + j) / 2 + 1 -> Op.bytesLess l[k].1 n = true) := Pm.hid fun hb k hk hki => QjK hEd.out n hk hm (by omega) (by rw [hxe]; exact hb)
 have F : Hid (Op.bytesLess x.1 n = false -> ∀ k (h : k < l.length), (i + j) / 2 <= k -> Op.bytesLess l[k].1 n = false) := Pm.hid fun hb k hk hki => by
  cases hv : Op.bytesLess l[k].1 n with
  |false => rfl
  |true => have := QjK hEd.out n hm hk hki hv; rw [hxe, hb] at this; cases this
 generalize hmv : (i + j) / 2 = mm at *
 have hmi : (((i : Int) + j) / 2) = (mm : Int) := by omega
 clear hx hxe hEd
 generalize Op.bytesLess x.1 n = b at *
 generalize Lib.compareBytes x.1 n = r at *
 (repeat' (first | refine e1 (k := ?_) | refine e0 (k := ?_) | refine stepS (QhH (D1 := .int .i64) (k' := .u64) (m := (i : Int) + j) (by kernel_rfl) (by kernel_rfl) rfl rfl (by rw [IntKind.wrap_u64]; omega)) (k := ?_) | refine stepS (Qno rfl rfl (by omega)) (k := ?_) | refine stepS (QhH (D1 := .int .u64) (k' := .i64) (m := (mm : Int)) (by kernel_rfl) (by kernel_rfl) rfl rfl (by rw [hmi, IntKind.wrap_i64]; omega)) (k := ?_) | refine stepS (Qbx Ty.h rfl Ty.h rfl rfl rfl (by omega) hr) (k := ?_) | refine stepS (Qc3 hf c rfl rfl) (k := ?_) | refine stepS (Qb7 rfl rfl (by omega)) (k := ?_) | refine Qbs ?_ | refine QbG ?_ | refine Qbu ?_ | refine Qbr ?_ | refine Qb3 (ht := fun q => ?_) (hf := fun q => ?_) | refine Qbz ?_ | refine QcP ?_ | refine Qby ?_ | refine Qb5 ?_ | refine Qfy ?_ | ((fail_if_success show ASeq _ _ _ _ ⟨_, (_, .d (.v (.bool true))) :: _, _⟩); (fail_if_success show ASeq _ _ _ _ ⟨_, (_, .d (.v (.bool false))) :: _, _⟩); refine splitS (fun q => ?_) (fun q => ?_))))
 all_goals first
  |(exfalso; simp only [decide_eq_true_eq, decide_eq_false_iff_not] at *; omega)
  |(have hb := hlt.out.symm.trans ‹decide (r < 0) = true›
    exact Qb9 (j - (mm + 1)) (by omega) ⟨mm + 1, j, by omega, hj, by omega, Pm.hid (T.out hb), hB, by simp [keepE, go_sem]⟩)
  |(have hb := hlt.out.symm.trans ‹decide (r < 0) = false›
    exact Qb9 (mm - i) (by omega) ⟨i, mm, by omega, by omega, by omega, hA, Pm.hid (F.out hb), by simp [keepE, go_sem]⟩)
theorem QjV (l : List Pl.Ent) (n : List UInt8) (hE : Pl.Qae l = true) : Pure Tryz.prog 316 [dEnts l, dS n] (.tup [dI (Pl.lowB l n), dB (Pl.QaE l n)]) := by
 have c := Qlc l n hE 344 Tryz.call344 fun e _ => QmH e n
 clear hE
 generalize Pl.lowB l n = lo at *
 generalize Pl.QaE l n = hh at *
 (refine Qbw Tryz.func316 rfl Tryz.ntmps316 Tryz.results316 rfl ?_; simp only [parE, Nat.zero_add, Nat.reduceAdd])
 (repeat' (first | refine e1 (k := ?_) | refine stepS (Qcu Tryz.call343 c rfl rfl) (k := ?_) | refine Qbs ?_ | refine Qbu ?_ | refine Qbr ?_ | fail))
 exact Qb1 (hx := rfl)
end Aw
end Go.Proofs.YtdjkdcokjoiokaaGreatDoor

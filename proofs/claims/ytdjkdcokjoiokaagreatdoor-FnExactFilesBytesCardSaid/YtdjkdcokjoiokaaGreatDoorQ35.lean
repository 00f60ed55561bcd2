/- Part 35 of the proof of bytes_card: contracts, walks, plain laws; no condition is assumed beyond those that a statement names. -/
import Derived.Test.YtdjkdcokjoiokaaGreatDoorQ34
set_option linter.all false
set_option maxRecDepth 100000
set_option maxHeartbeats 8000000
namespace Go.Proofs.YtdjkdcokjoiokaaGreatDoor
open Go.RowKit
namespace Aw
attribute [local irreducible] ASeq ADraw AWP Loc AStep Fg.PlanF Fg.Flts
theorem Qhz : ∀ (p : List (List UInt8)), (∀ x ∈ p, x.length <= 4) -> (Pl.Qat p).length <= 5 * p.length + 1 := by
 intro p h
 have hf : ∀ p : List (List UInt8), (∀ x ∈ p, x.length <= 4) -> (p.flatMap (47 :: ·)).length <= 5 * p.length := by
  intro p
  induction p with
  |nil => intro _; simp
  |cons a l ih =>
   intro h
   have := ih fun x hx => h x (List.mem_cons_of_mem _ hx)
   have := h a List.mem_cons_self
   rw [List.flatMap_cons, List.length_append, List.length_cons, List.length_cons]; omega
 unfold Pl.Qat
 split
 ·simp
 ·have := hf p h; omega
theorem QjI (s : Pm.Store) (n : Pl.Node) : (Pl.ents s n).1.length <= 12 := by
 rcases Qcp s n with h | h
 ·have := h.2
  unfold Pl.Qae at this
  rw [Bool.and_eq_true, decide_eq_true_eq] at this
  exact this.2
 ·rw [h]; decide
theorem QdS {x : List UInt8} (h : Pl.Qaj x = true) : x.length <= 4 := by
 unfold Pl.Qaj at h
 simp at h; omega
theorem Qll (ns : List Pl.Node) (E : Pl.Node -> List Pl.Ent × Bool) : ∀ (n : Nat) (x : Pl.Fnd) (out : List Pl.Fnd), (Pl.wk ns E n x out).2 = true -> (Pl.wk ns E n x out).1.length <= 144
 |0, x, out, h => by cases h
 |n + 1, x, out, h => by
  have hf : ∀ (l : List Pl.Ent) (r : List Pl.Fnd × Bool), (r.2 = true -> r.1.length <= 144) -> (Pl.wks ns E n x.1 l r).2 = true -> (Pl.wks ns E n x.1 l r).1.length <= 144 := by
   intro l
   induction l with
   |nil => intro r hr h; exact hr h
   |cons e l ih =>
    rintro ⟨o, b⟩ hr h
    cases b
    ·rw [QeR] at h; cases h
    ·rw [Qdn] at h ⊢
     exact ih _ (Qll ns E n _ o) h
  unfold Pl.wk at h ⊢
  split at h
  ·cases h
  ·rename_i hc
   rw [if_neg hc]
   split at h
   ·rename_i hk
    rw [if_pos hk]
    have := not_or.1 hc
    simp; omega
   ·rename_i hk
    rw [if_neg hk]
    refine hf _ _ (fun _ => ?_) h
    have := not_or.1 hc
    simp; omega
theorem QnW (s : Pm.Store) (hg : Pl.Good s) (ns : List Pl.Node) (hns : ns.length <= 16) : ∀ (n : Nat) (p : List (List UInt8)) (id : Int) (out : List Pl.Fnd) (g : Nat), 145 <= out.length + n -> out.length <= 144 -> p.length <= out.length -> (∀ x ∈ p, Pl.Qaj x = true) ->
 Does Tryz.prog 183 [.d (dSt s), .d (.sl true 10 (ns.map rNode)), .d (.agg [dS (Pl.Qat p), dI id]), .osl 0 g 0 out.length] [.arr g 2 126 (out.map rFnd)] []
  (.tup [.osl 0 (g + ((Pl.wk ns (Pl.ents s) n (p, id) out).1.length - out.length)) 0 (Pl.wk ns (Pl.ents s) n (p, id) out).1.length, .d (dB (Pl.wk ns (Pl.ents s) n (p, id) out).2)])
  [.arr (g + ((Pl.wk ns (Pl.ents s) n (p, id) out).1.length - out.length)) 2 126 ((Pl.wk ns (Pl.ents s) n (p, id) out).1.map rFnd)] := by
 intro n
 induction n with
 |zero => intro p id out g h1 h2; omega
 |succ n ih =>
  intro p id out g h1 h2 h3 hp
  have hwl := (Qlm ns (Pl.ents s) (n + 1) (p, id) out).2 (by omega)
  have hw : Hid (Pl.wk ns (Pl.ents s) (n + 1) (p, id) out = if 144 < out.length + 1 ∨ Pl.inR id 0 (ns.length - 1) = false ∨ (ns.getD id.toNat Pl.zn).kind = 0 then (out ++ [(p, id)], false) else
   if (ns.getD id.toNat Pl.zn).kind = 1 then (out ++ [(p, id)], true) else Pl.wks ns (Pl.ents s) n p (Pl.ents s (ns.getD id.toNat Pl.zn)).1 (out ++ [(p, id)], (Pl.ents s (ns.getD id.toNat Pl.zn)).2)) := Pm.hid rfl
  have hspl := Qhz p fun x hx => QdS (hp x hx)
  have hnl : (ns.map rNode).length = ns.length := List.length_map ..
  have hol : (out.map rFnd).length = out.length := List.length_map ..
  have c1 := al6In id 0 (ns.length - 1)
  refine Qc4 Tryz.func183 rfl Tryz.ntmps183 Tryz.results183 rfl rfl ?hpin (fun gvs => ?_)
  case hpin =>
   intro i C hC
   match i, hC with
   |0, hC => obtain rfl := Option.some.inj hC; exact ⟨_, rfl, rfl, rfl, .inl (by omega)⟩
  simp only [parA, gslot, Nat.zero_add, Nat.reduceAdd]
  by_cases h144 : out.length = 144
  ·have hw2 : Hid (Pl.wk ns (Pl.ents s) (n + 1) (p, id) out = (out ++ [(p, id)], false)) := Pm.hid (by rw [hw.out, if_pos (.inl (by omega))])
   rw [hw2.out]
   clear hw hw2 ih hwl
   (refine Qbu (Qbr ?_); (repeat (first | refine e1 (k := ?_) | refine e2 (k := ?_) | fail)); refine Qbs ?_)
   refine Qbv 1 (h := ?_)
   refine Qbv 2 (h := ?_)
   (repeat' (first | refine e1 (k := ?_) | refine e0 (k := ?_) | refine stepS (Qbt Tryz.call40 c1 rfl) (k := ?_) | refine stepS (QbO rfl rfl (by omega)) (k := ?_) | refine Qcr Ty.h rfl Ty.h (hb := ?_) (kk := ?_) | refine stepS2 (QbE Ty.h rfl Ty.h) (k := ?_) | refine Qbs ?_ | refine Qbu ?_ | refine Qbr ?_ | refine Qb0 (ht := ?_) | ((fail_if_success show ASeq _ _ _ _ ⟨_, (_, .d (.v (.bool true))) :: _, _⟩); (fail_if_success show ASeq _ _ _ _ ⟨_, (_, .d (.v (.bool false))) :: _, _⟩); refine splitS (fun q => ?_) (fun q => ?_))))
   all_goals first
    |(exfalso; simp only [decide_eq_false_iff_not] at *; omega)
    |(simp; omega)
    |(refine QcQ [8, 9, 1000000] 1 (h := ?_); refine QcW (hx := ?_) (hH := ?_) <;> simp <;> done)
  have h2' : out.length < 144 := by omega
  cases hR : Pl.inR id 0 (ns.length - 1)
  ·have hw2 : Hid (Pl.wk ns (Pl.ents s) (n + 1) (p, id) out = (out ++ [(p, id)], false)) := Pm.hid (by rw [hw.out, if_pos (.inr (.inl hR))])
   rw [hw2.out]
   rw [hR] at c1
   clear hw hw2 ih hwl
   (refine Qbu (Qbr ?_); (repeat (first | refine e1 (k := ?_) | refine e2 (k := ?_) | fail)); refine Qbs ?_)
   refine Qbv 1 (h := ?_)
   refine Qbv 2 (h := ?_)
   (repeat' (first | refine e1 (k := ?_) | refine e0 (k := ?_) | refine stepS (Qbt Tryz.call40 c1 rfl) (k := ?_) | refine stepS (QbO rfl rfl (by omega)) (k := ?_) | refine Qcr Ty.h rfl Ty.h (hb := ?_) (kk := ?_) | refine stepS2 (QbE Ty.h rfl Ty.h) (k := ?_) | refine Qbs ?_ | refine Qbu ?_ | refine Qbr ?_ | refine Qb0 (ht := ?_) | ((fail_if_success show ASeq _ _ _ _ ⟨_, (_, .d (.v (.bool true))) :: _, _⟩); (fail_if_success show ASeq _ _ _ _ ⟨_, (_, .d (.v (.bool false))) :: _, _⟩); refine splitS (fun q => ?_) (fun q => ?_))))
   all_goals first
    |(exfalso; simp only [decide_eq_true_eq] at *; omega)
    |(simp; omega)
    |(refine QcQ [8, 9, 1000000] 1 (h := ?_); refine QcW (hx := ?_) (hH := ?_) <;> simp <;> done)
  rw [hR] at c1
  have hid : 0 <= id /\ id < ns.length := by simp [Pl.inR] at hR; omega
  obtain ⟨nd, hnd⟩ : ∃ nd, ns[id.toNat]? = some nd := ⟨_, List.getElem?_eq_getElem (by omega)⟩
  have hgd : ns.getD id.toNat Pl.zn = nd := by rw [List.getD_eq_getElem?_getD, hnd]; rfl
  have hr : (ns.map rNode)[id.toNat]? = some (rNode nd) := by rw [List.getElem?_map, hnd]; rfl
  rw [hgd] at hw
  have hc : ¬ (144 < out.length + 1 ∨ Pl.inR id 0 (ns.length - 1) = false ∨ nd.kind = 0) ∨ nd.kind = 0 := by
   by_cases h0 : nd.kind = 0
   ·exact .inr h0
   ·exact .inl (by rw [hR]; simp [h0]; omega)
  clear hgd hnd
  by_cases hk0 : nd.kind = 0
  ·have hw2 : Hid (Pl.wk ns (Pl.ents s) (n + 1) (p, id) out = (out ++ [(p, id)], false)) := Pm.hid (by rw [hw.out, if_pos (.inr (.inr hk0))])
   rw [hw2.out]
   clear hw hw2 ih hwl hc
   (refine Qbu (Qbr ?_); (repeat (first | refine e1 (k := ?_) | refine e2 (k := ?_) | fail)); refine Qbs ?_)
   refine Qbv 1 (h := ?_)
   refine Qbv 2 (h := ?_)
   (repeat' (first | refine f1 (k := ?_) | refine e1 (k := ?_) | refine e0 (k := ?_) | refine stepS (Qbt Tryz.call40 c1 rfl) (k := ?_) | refine stepS (QbO rfl rfl (by omega)) (k := ?_) | refine stepD (Qbx Ty.h rfl Ty.h rfl rfl rfl hid.1 hr) (k := ?_) | refine stepS (Qbx Ty.h rfl Ty.h rfl rfl rfl hid.1 hr) (k := ?_) | refine Qcr Ty.h rfl Ty.h (hb := ?_) (kk := ?_) | refine stepS2 (QbE Ty.h rfl Ty.h) (k := ?_) | refine Qbs ?_ | refine Qbu ?_ | refine Qbr ?_ | refine QbF follows_mixed (by kernel_rfl) (by kernel_rfl) ?_ | refine Qb0 (ht := ?_) | refine Qb3 (ht := fun q => ?_) (hf := fun q => ?_) | refine Qbz ?_ | ((fail_if_success show ASeq _ _ _ _ ⟨_, (_, .d (.v (.bool true))) :: _, _⟩); (fail_if_success show ASeq _ _ _ _ ⟨_, (_, .d (.v (.bool false))) :: _, _⟩); refine splitS (fun q => ?_) (fun q => ?_))))
   all_goals first
    |(exfalso; simp only [decide_eq_true_eq] at *; omega)
    |(exfalso; simp only [beq_eq_false_iff_ne] at *; omega)
    |(simp; omega)
    |(refine QcQ [8, 9, 1000000] 1 (h := ?_); refine QcW (hx := ?_) (hH := ?_) <;> simp <;> done)
  have hc := hc.resolve_right hk0
  by_cases hk1 : nd.kind = 1
  ·have hw2 : Hid (Pl.wk ns (Pl.ents s) (n + 1) (p, id) out = (out ++ [(p, id)], true)) := Pm.hid (by rw [hw.out, if_neg hc, if_pos hk1])
   rw [hw2.out]
   clear hw hw2 ih hwl hc
   (refine Qbu (Qbr ?_); (repeat (first | refine e1 (k := ?_) | refine e2 (k := ?_) | fail)); refine Qbs ?_)
   refine Qbv 1 (h := ?_)
   refine Qbv 2 (h := ?_)
   (repeat' (first | refine f1 (k := ?_) | refine e1 (k := ?_) | refine e0 (k := ?_) | refine stepS (Qbt Tryz.call40 c1 rfl) (k := ?_) | refine stepS (QbO rfl rfl (by omega)) (k := ?_) | refine stepD (Qbx Ty.h rfl Ty.h rfl rfl rfl hid.1 hr) (k := ?_) | refine stepS (Qbx Ty.h rfl Ty.h rfl rfl rfl hid.1 hr) (k := ?_) | refine Qcr Ty.h rfl Ty.h (hb := ?_) (kk := ?_) | refine stepS2 (QbE Ty.h rfl Ty.h) (k := ?_) | refine Qbs ?_ | refine Qbu ?_ | refine Qbr ?_ | refine QbF follows_mixed (by kernel_rfl) (by kernel_rfl) ?_ | refine Qb0 (ht := ?_) | refine Qb3 (ht := fun q => ?_) (hf := fun q => ?_) | refine Qbz ?_ | ((fail_if_success show ASeq _ _ _ _ ⟨_, (_, .d (.v (.bool true))) :: _, _⟩); (fail_if_success show ASeq _ _ _ _ ⟨_, (_, .d (.v (.bool false))) :: _, _⟩); refine splitS (fun q => ?_) (fun q => ?_))))
   all_goals first
    |(exfalso; simp only [decide_eq_true_eq] at *; omega)
    |(exfalso; simp only [beq_eq_false_iff_ne, beq_iff_eq] at *; omega)
    |(simp; omega)
    |(refine QcQ [8, 9, 1000000] 1 (h := ?_); refine QcW (hx := ?_) (hH := ?_) <;> simp <;> done)
  have hw2 : Hid (Pl.wk ns (Pl.ents s) (n + 1) (p, id) out = Pl.wks ns (Pl.ents s) n p (Pl.ents s nd).1 (out ++ [(p, id)], (Pl.ents s nd).2)) := Pm.hid (by rw [hw.out, if_neg hc, if_neg hk1])
  have c2 := QfU s hg nd
  have heb := Qgt s nd
  have hes := QjI s nd
  clear hw hc
  generalize Pl.ents s nd = ee at *
  obtain ⟨es, ok0⟩ := ee
  simp only at hw2 heb hes
  obtain ⟨kind, links, size, ⟨⟨p1, p2, p3, p4, p5⟩, depth, many⟩⟩ := nd
  simp only at hk0 hk1
  (refine Qbu (Qbr ?_); (repeat (first | refine e1 (k := ?_) | refine e2 (k := ?_) | fail)); refine Qbs ?_)
  refine Qbv 1 (h := ?_)
  refine Qbv 2 (h := ?_)
  (repeat' (first | refine f1 (k := ?_) | refine e1 (k := ?_) | refine e0 (k := ?_) | refine stepS (Qbt Tryz.call40 c1 rfl) (k := ?_) | refine stepD (Qbt Tryz.call180 c2 rfl) (k := ?_) | refine stepS (QbO rfl rfl (by omega)) (k := ?_) | refine stepD (Qbx Ty.h rfl Ty.h rfl rfl rfl hid.1 hr) (k := ?_) | refine stepS (Qbx Ty.h rfl Ty.h rfl rfl rfl hid.1 hr) (k := ?_) | refine Qcr Ty.h rfl Ty.h (hb := ?_) (kk := ?_) | refine stepS2 (QbE Ty.h rfl Ty.h) (k := ?_) | refine Qbs ?_ | refine Qb6 ?_ | refine Qbu ?_ | refine Qbr ?_ | refine QbF follows_mixed (by kernel_rfl) (by kernel_rfl) ?_ | refine Qb0 (ht := ?_) | refine Qb3 (ht := fun q => ?_) (hf := fun q => ?_) | refine Qbz ?_ | refine Qby ?_ | ((fail_if_success show ASeq _ _ _ _ ⟨_, (_, .d (.v (.bool true))) :: _, _⟩); (fail_if_success show ASeq _ _ _ _ ⟨_, (_, .d (.v (.bool false))) :: _, _⟩); refine splitS (fun q => ?_) (fun q => ?_))))
  all_goals first
   |(exfalso; simp only [decide_eq_true_eq] at *; omega)
   |(exfalso; simp only [beq_eq_false_iff_ne, beq_iff_eq] at *; omega)
   |(simp; omega)
   |skip
  generalize hsp : Pl.Qat p = sp at hspl
  refine QbD (fun m st => ∃ (k gg : Nat) (o : List Pl.Fnd) (b : Bool), k <= es.length /\ m = es.length - k /\ out.length + 1 <= o.length /\ gg = g + (o.length - out.length) /\ Hid (Pl.wk ns (Pl.ents s) (n + 1) (p, id) out = Pl.wks ns (Pl.ents s) n p (es.drop k) (o, b)) /\
   (b = true -> o.length <= 144) /\ st = ⟨101, [(3, .osl 0 gg 0 o.length), (10, .d (tEnts es)), (11, .d (dB b)), (12, .d (dI k)), (1, .d (.sl true 10 (ns.map rNode))), (4, .d (.pd (rSt s))), (6, .d (.pd [dS sp, dI id])), (1000000, .gh [] gvs)], [.arr gg 2 126 (o.map rFnd), .row 1 [], .row 1 []]⟩)
   [3, 10, 11, 12, 1, 4, 6, 1000000] 3 es.length ⟨0, g + 1, out ++ [(p, id)], ok0, by omega, rfl, by simp, by simp, Pm.hid hw2.out, fun _ => by simp; omega, ?_⟩ (round := ?_)
  ·rw [<- hsp]; simp [keepE, go_sem]
  rintro m st ⟨k, gg, o, b, hk, rfl, hol2, hgg, hW, hb, rfl⟩
  by_cases hkb : k < es.length /\ b = true
  rotate_left
  ·have hw3 : Hid (Pl.wk ns (Pl.ents s) (n + 1) (p, id) out = (o, b)) := Pm.hid (by
    rw [hW.out]
    by_cases hb2 : b = true
    ·have hk2 : k = es.length := by have : ¬ k < es.length := fun h => hkb ⟨h, hb2⟩; omega
     rw [hk2, List.drop_length]; rfl
    ·have : b = false := by simpa using hb2
     rw [this, QeR])
   clear hW hw2 ih hwl
   (repeat' (first | refine f1 (k := ?_) | refine e1 (k := ?_) | refine e0 (k := ?_) | refine Qbs ?_ | refine Qbu ?_ | refine Qbr ?_ | refine QbF follows_mixed (by kernel_rfl) (by kernel_rfl) ?_ | refine Qb2 (hf := ?_) | refine Qb3 (ht := fun q => ?_) (hf := fun q => ?_) | refine Qbz ?_ | refine Qby ?_ | refine Qb5 ?_ | ((fail_if_success show ASeq _ _ _ _ ⟨_, (_, .d (.v (.bool true))) :: _, _⟩); (fail_if_success show ASeq _ _ _ _ ⟨_, (_, .d (.v (.bool false))) :: _, _⟩); refine splitS (fun q => ?_) (fun q => ?_))))
   all_goals first
    |(exfalso; simp only [decide_eq_true_eq] at *; exact hkb ⟨by omega, by assumption⟩)
    |(refine QcQ [8, 9, 1000000] 1 (h := ?_); refine QcW (hx := ?_) (hH := ?_) <;> rw [hw3.out, hgg]; done)
  obtain ⟨hk2, rfl⟩ := hkb
  have hb := hb rfl
  obtain ⟨e, he⟩ : ∃ e, es[k]? = some e := ⟨_, List.getElem?_eq_getElem hk2⟩
  have hre := QbC (f := rEnt) he
  have hen := (heb e (List.mem_of_getElem? he)).1
  have IH := ih (p ++ [e.1]) e.2 o gg (by omega) hb (by simp; omega) (fun x hx => by
   rcases List.mem_append.1 hx with hx | hx
   ·exact hp x hx
   ·rw [List.mem_singleton] at hx; rw [hx]; exact hen)
  have hP := Qfx hp
  have hroot : Hid (sp = [47] ↔ p = []) := Pm.hid (by rw [<- hsp]; exact QcY hP)
  have hsn : Pl.Qat (p ++ [e.1]) = if p = [] then [47] ++ e.1 else sp ++ [47] ++ e.1 := by rw [Qkl, hsp]; split <;> simp
  have hstep : Hid (Pl.wk ns (Pl.ents s) (n + 1) (p, id) out = Pl.wks ns (Pl.ents s) n p (es.drop (k + 1)) (Pl.wk ns (Pl.ents s) n (p ++ [e.1], e.2) o)) := Pm.hid (by rw [hW.out, Qe5 he, Qdn])
  have hlen := (Qlm ns (Pl.ents s) n (p ++ [e.1], e.2) o).1
  have htrue := Qll ns (Pl.ents s) n (p ++ [e.1], e.2) o
  have hnl4 := QdS hen
  rw [hsn] at IH
  clear ih hW hw2 hwl he heb hsn hsp hp
  generalize Pl.wk ns (Pl.ents s) n (p ++ [e.1], e.2) o = r at *
  obtain ⟨o', b'⟩ := r
  obtain ⟨nm, eid⟩ := e
  simp only at IH hlen htrue hnl4 hstep hre
  by_cases hp0 : p = []
  ·rw [if_pos hp0] at IH
   have hsp2 : sp = [47] := hroot.out.2 hp0
   subst hsp2
   (repeat' (first | refine f1 (k := ?_) | refine e1 (k := ?_) | refine e0 (k := ?_) | refine (Fg.awp_drawF (id := 13) [] [10] follows_mixed (by kernel_rfl) (by kernel_rfl) (by kernel_rfl) ?_) | refine (Fg.aw_fltN ?_) | refine (Fg.aw_planFC (by rfl) (by kernel_rfl) rfl ?_) | refine (Fg.aw_planFN ?_) | refine stepD (Qbx Ty.h rfl Ty.h rfl rfl rfl (by omega) hre) (k := ?_) | refine stepS (Qbx Ty.h rfl Ty.h rfl rfl rfl (by omega) hre) (k := ?_) | refine stepD (QbV (l := [47]) (m := [47]) rfl rfl (by first | omega | (simp; omega))) (k := ?_) | refine stepS (QbV (l := [47]) rfl rfl (by first | omega | (simp; omega))) (k := ?_) | refine stepD (QbV rfl rfl (by first | omega | (simp; omega))) (k := ?_) | refine (Qfj [0] IH Tryz.call183 (k := ?_)) | refine stepS (Qb7 rfl rfl (by omega)) (k := ?_) | refine stepS (QbL rfl rfl) (k := ?_) | refine Qbs ?_ | refine Qb4 ?_ | refine Qb6 ?_ | refine Qca ?_ | refine Qbu ?_ | refine Qbr ?_ | refine QbF follows_mixed (by kernel_rfl) (by kernel_rfl) ?_ | refine Qb0 (ht := ?_) | refine Qb2 (hf := ?_) | refine Qbz ?_ | refine Qby ?_ | refine Qb5 ?_ | ((fail_if_success show ASeq _ _ _ _ ⟨_, (_, .d (.v (.bool true))) :: _, _⟩); (fail_if_success show ASeq _ _ _ _ ⟨_, (_, .d (.v (.bool false))) :: _, _⟩); refine splitS (fun q => ?_) (fun q => ?_))))
   all_goals first
    |(refine Qb9 (es.length - (k + 1)) (by omega) ⟨k + 1, gg + (o'.length - o.length), o', b', by omega, rfl, by omega, by omega, Pm.hid hstep.out, htrue, ?_⟩; simp [keepE, go_sem]; done)
    |(exfalso; simp at q; done)
    |(exfalso; simp only [decide_eq_false_iff_not] at *; omega)
    |(exfalso; simp_all; done)
  ·rw [if_neg hp0] at IH
   have hsp2 : ¬ sp = [47] := fun h => hp0 (hroot.out.1 h)
   (repeat' (first | refine f1 (k := ?_) | refine e1 (k := ?_) | refine e0 (k := ?_) | refine (Fg.awp_drawF (id := 13) [] [10] follows_mixed (by kernel_rfl) (by kernel_rfl) (by kernel_rfl) ?_) | refine (Fg.aw_fltN ?_) | refine (Fg.aw_planFC (by rfl) (by kernel_rfl) rfl ?_) | refine (Fg.aw_planFN ?_) | refine stepD (Qbx Ty.h rfl Ty.h rfl rfl rfl (by omega) hre) (k := ?_) | refine stepS (Qbx Ty.h rfl Ty.h rfl rfl rfl (by omega) hre) (k := ?_) | refine stepD (QbV (m := [47]) rfl rfl (by first | omega | (simp; omega))) (k := ?_) | refine stepS (QbV (l := [47]) rfl rfl (by first | omega | (simp; omega))) (k := ?_) | refine stepD (QbV rfl rfl (by first | omega | (simp; omega))) (k := ?_) | refine stepS (QbL (m := [47]) rfl rfl) (k := ?_) | refine (Qfj [0] IH Tryz.call183 (k := ?_)) | refine stepS (Qb7 rfl rfl (by omega)) (k := ?_) | refine Qbs ?_ | refine Qb4 ?_ | refine Qb6 ?_ | refine Qca ?_ | refine Qbu ?_ | refine Qbr ?_ | refine QbF follows_mixed (by kernel_rfl) (by kernel_rfl) ?_ | refine Qb0 (ht := ?_) | refine Qb2 (hf := ?_) | refine Qb3 (ht := fun q => ?_) (hf := fun q => ?_) | refine Qbz ?_ | refine Qby ?_ | refine Qb5 ?_ | ((fail_if_success show ASeq _ _ _ _ ⟨_, (_, .d (.v (.bool true))) :: _, _⟩); (fail_if_success show ASeq _ _ _ _ ⟨_, (_, .d (.v (.bool false))) :: _, _⟩); refine splitS (fun q => ?_) (fun q => ?_))))
   all_goals first
    |(refine Qb9 (es.length - (k + 1)) (by omega) ⟨k + 1, gg + (o'.length - o.length), o', b', by omega, rfl, by omega, by omega, Pm.hid hstep.out, htrue, ?_⟩; simp [keepE, go_sem]; done)
    |(exfalso; simp at q; done)
    |(exfalso; simp only [decide_eq_false_iff_not] at *; omega)
    |(exfalso; simp_all; done)
end Aw
end Go.Proofs.YtdjkdcokjoiokaaGreatDoor
namespace Go.Proofs.YtdjkdcokjoiokaaGreatDoor
namespace Aw
def Pl.Qbp (E : Pl.Node -> List Pl.Ent × Bool) (ns : List Pl.Node) : Int -> List (List UInt8) -> Option Int
 |i, [] => some i
 |i, n :: q => match (E (ns.getD i.toNat Pl.zn)).1.find? (fun e => e.1 == n) with
  |none => none
  |some e => Pl.Qbp E ns e.2 q
theorem QhU (E : Pl.Node -> List Pl.Ent × Bool) (ns : List Pl.Node) (i : Int) : Pl.Qbp E ns i [] = some i := rfl
theorem QdU (E : Pl.Node -> List Pl.Ent × Bool) (ns : List Pl.Node) (i : Int) (n : List UInt8) (q : List (List UInt8)) : Pl.Qbp E ns i (n :: q) = match (E (ns.getD i.toNat Pl.zn)).1.find? (fun e => e.1 == n) with
 |none => none
 |some e => Pl.Qbp E ns e.2 q := rfl
noncomputable def Pl.Qa4 (s : Pm.Store) (ns : List Pl.Node) : Int -> List (List UInt8) -> Option Int := Pl.Qbp (Pl.ents s) ns
def Pl.isIn (out : List Pl.Fnd) (q : List (List UInt8)) (k : Nat) : Bool := out.any fun x => (x.2 == (k : Int)) && q.isPrefixOf x.1
noncomputable def Pl.QaQ (s : Pm.Store) (t : Pl.Tree) (q : List (List UInt8)) (f : Pl.Node -> Int) : Int :=
 Pl.QaC (fun k => if Pl.isIn (Pl.Qa9 s t).1 q k then f ((Pl.Qab s t).getD k Pl.zn) else 0) (Pl.Qab s t).length
noncomputable def Pl.Qa7 (s : Pm.Store) (t : Pl.Tree) (path : List UInt8) (f : Pl.Node -> Int) : Int × Bool :=
 match Pl.Qag path with
 |none => (0, false)
 |some q => if Pl.Qaf s && Pl.Qak s t then (match Pl.Qa4 s (Pl.Qab s t) 0 q with | none => (0, false) | some _ => (Pl.QaQ s t q f, true)) else (0, false)
def Pl.Qam (n : Pl.Node) : Int := if n.kind = 1 then n.size else 0
theorem QgQ {s : Pm.Store} {ns : List Pl.Node} : ∀ {q : List (List UInt8)} {i j : Int}, 0 <= i -> Pl.Qa4 s ns i q = some j -> 0 <= j
 |[], i, j, h, hf => by unfold Pl.Qa4 at hf; rw [QhU] at hf; have := Option.some.inj hf; omega
 |n :: q, i, j, h, hf => by
  unfold Pl.Qa4 at hf
  rw [QdU] at hf
  split at hf
  ·cases hf
  ·rename_i e he
   exact QgQ (by have := Qgt s _ e (List.mem_of_find?_eq_some he); omega) hf
theorem Qgr {s : Pm.Store} {ns : List Pl.Node} (hN : Pl.NsOk ns (Pl.ents s)) : ∀ {q : List (List UInt8)} {i j : Int}, Pl.Qa4 s ns i q = some j -> Gr.find (Pl.Qad ns) (Pl.enF ns (Pl.ents s)) i.toNat q = some j.toNat
 |[], i, j, hf => by unfold Pl.Qa4 at hf; rw [QhU] at hf; obtain rfl := Option.some.inj hf; rfl
 |n :: q, i, j, hf => by
  unfold Pl.Qa4 at hf
  rw [QdU] at hf
  split at hf
  ·cases hf
  ·rename_i e he
   have hE : (Pl.ents s (ns.getD i.toNat Pl.zn)).2 = true := by
    rcases Qcp s (ns.getD i.toNat Pl.zn) with h | h
    ·exact h.1
    ·rw [h] at he; cases he
   have hk := QfH hE
   unfold Gr.find
   rw [if_pos (by unfold Pl.Qad; rw [hk]; rfl)]
   have h1 : Pl.enF ns (Pl.ents s) i.toNat = some ((Pl.ents s (ns.getD i.toNat Pl.zn)).1.map fun e => (e.1, e.2.toNat)) := by unfold Pl.enF; rw [if_pos hE]
   rw [h1, Option.getD_some, List.find?_map]
   have h2 : ((fun e : List UInt8 × Nat => e.1 == n) ∘ fun e : Pl.Ent => (e.1, e.2.toNat)) = fun e : Pl.Ent => e.1 == n := rfl
   rw [h2, he]
   exact Qgr hN hf
theorem Qmt (s : Pm.Store) (ns : List Pl.Node) : ∀ k es, Pl.enF ns (Pl.ents s) k = some es -> (es.map (·.1)).Nodup := by
 intro k es h
 unfold Pl.enF at h
 split at h
 ·rename_i hE
  obtain rfl := Option.some.inj h
  rcases Qcp s (ns.getD k Pl.zn) with h | h
  ·rw [List.map_map]; exact Qmo h.2
  ·rw [h] at hE; cases hE
 ·cases h
theorem Qls {s : Pm.Store} {t : Pl.Tree} {q : List (List UInt8)} {j : Int} (hF : Pl.Files s t) (hj : Pl.Qa4 s (Pl.Qab s t) 0 q = some j) :
 ∃ M, Gr.FD (Pl.Qad (Pl.Qab s t)) (Gr.chOf (Pl.enF (Pl.Qab s t) (Pl.ents s))) [j.toNat] M /\
   ∀ f : Pl.Node -> Int, Pl.QaQ s t q f = Pl.QaC (fun k => if k ∈ M then f ((Pl.Qab s t).getD k Pl.zn) else 0) (Pl.Qab s t).length := by
 have hOk := (Qe3 s t).2 hF
 unfold Pl.Qak at hOk
 simp only [Bool.and_eq_true, beq_iff_eq] at hOk
 obtain ⟨L, g1, g2, g3⟩ := Qe1 s hF.root hOk.1.2
 obtain ⟨M, hM, hi⟩ := Gr.QkF (p := []) (Qmt s _) g1 (Qgr (nsOk s t) hj)
 refine ⟨M, hM, fun f => ?_⟩
 unfold Pl.QaQ
 rw [g3]
 refine Qef fun k _ => ?_
 have : Pl.isIn (L.map Pl.itOf) q k = true ↔ k ∈ M := by
  rw [<- hi k]
  unfold Pl.isIn
  rw [List.any_map, List.any_eq_true]
  simp only [Function.comp, Pl.itOf, Bool.and_eq_true, beq_iff_eq, List.isPrefixOf_iff_prefix, List.nil_append]
  constructor
  ·rintro ⟨x, hx, h1, h2⟩; exact ⟨x, hx, by omega, h2⟩
  ·rintro ⟨x, hx, h1, h2⟩; exact ⟨x, hx, by omega, h2⟩
 by_cases hm : k ∈ M
 ·rw [if_pos (this.2 hm), if_pos hm]
 ·rw [if_neg (fun h => hm (this.1 h)), if_neg hm]
end Aw
end Go.Proofs.YtdjkdcokjoiokaaGreatDoor
namespace Go.Proofs.YtdjkdcokjoiokaaGreatDoor
open Go.RowKit
namespace Aw
attribute [local irreducible] ASeq ADraw AWP Loc AStep Fg.PlanF Fg.Flts
abbrev tFnds (l : List Pl.Fnd) : D := .sl true 2 (l.map rFnd)
noncomputable def Pl.Qbc (s : Pm.Store) (t : Pl.Tree) : List Pl.Fnd × Bool := if Pl.Qak s t then ((Pl.Qa9 s t).1, true) else ([], false)
def Pl.cnt (out : List Pl.Fnd) (N : Nat) : List Int := (List.range N).map fun k => ((Pl.many out k : Nat) : Int)
theorem cnt_nil (N : Nat) : Pl.cnt [] N = List.replicate N 0 := by
 refine List.ext_getElem (by simp [Pl.cnt]) fun i hi hi' => by simp [Pl.cnt, Pl.many]
theorem Qm7 (out : List Pl.Fnd) {N k : Nat} (h : k < N) : (Pl.cnt out N)[k]? = some ((Pl.many out k : Nat) : Int) := by
 unfold Pl.cnt; rw [List.getElem?_map, List.getElem?_range h]; rfl
theorem QnD (out : List Pl.Fnd) (x : Pl.Fnd) {N : Nat} (h0 : 0 <= x.2) (_h : x.2 < N) : Pl.cnt (out ++ [x]) N = (Pl.cnt out N).set x.2.toNat (((Pl.many out x.2.toNat : Nat) : Int) + 1) := by
 refine List.ext_getElem (by simp [Pl.cnt]) fun i hi hi' => ?_
 rw [List.getElem_set]
 simp only [Pl.cnt, List.getElem_map, List.getElem_range]
 unfold Pl.many
 rw [List.map_append, List.count_append]
 split
 ·rename_i e; subst e
  have : ((x.2.toNat : Nat) : Int) = x.2 := by omega
  rw [this]; simp
 ·rename_i e
  have : (x.2 == (i : Int)) = false := by simp; omega
  simp [List.count_cons, this]
theorem many_le (out : List Pl.Fnd) (k : Nat) : Pl.many out k <= out.length := by
 unfold Pl.many
 refine Nat.le_trans (List.count_le_length) (by simp)
theorem al15All (s : Pm.Store) (hg : Pl.Good s) (t : Pl.Tree) : Pure Tryz.prog 115 [dSt s, dTree t] (.tup [tFnds (Pl.Qbc s t).1, dB (Pl.Qbc s t).2]) := by
 have hd : Hid (Pl.Qbc s t = if Pl.Qak s t then ((Pl.Qa9 s t).1, true) else ([], false)) := Pm.hid rfl
 have hf : Hid (Pl.Qak s t = (Pl.Qa8 s t && ((Pl.Qab s t).getD 0 Pl.zn).kind == 2 && (Pl.Qa9 s t).2 && (List.range (Pl.Qab s t).length).all (Pl.Qav s (Pl.Qab s t) (Pl.Qa9 s t).1))) := Pm.hid rfl
 have c0 := al11Ok s hg t
 cases h0 : Pl.Qa8 s t
 ·rw [h0] at c0
  have hx : Hid (Pl.Qbc s t = ([], false)) := Pm.hid (by rw [hd.out, hf.out, h0]; rfl)
  (refine Qbw Tryz.func115 rfl Tryz.ntmps115 Tryz.results115 rfl ?_; simp only [parE, Nat.zero_add, Nat.reduceAdd])
  (refine Qbu (Qbr ?_); (repeat (first | refine e1 (k := ?_) | refine e2 (k := ?_) | fail)); refine Qbs ?_)
  refine Qbv 0 (h := ?_)
  refine Qbv 1 (h := ?_)
  (repeat' (first | refine e1 (k := ?_) | refine stepS (Qbt Tryz.call182 c0 rfl) (k := ?_) | refine stepS2 (QbE Ty.h rfl Ty.h) (k := ?_) | refine Qbs ?_ | refine Qbu ?_ | refine Qbr ?_ | refine Qb0 (ht := ?_) | fail))
  (refine Qbv 2 (h := ?_); refine Qb1 (hx := ?_))
  rw [hx.out]; rfl
 rw [h0] at c0 hf
 have ht : Pl.TGood t := Qcc (by unfold Pl.Qa8 at h0; rw [Bool.and_eq_true] at h0; exact h0.1)
 have c1 := Qiv s hg t ht
 have hnl : (Pl.Qab s t).length <= 16 := by unfold Pl.Qab; rw [List.length_map, texts_len s ht]; have := ht.manyHi; omega
 have hids : Hid (((Pl.Qab s t).getD 0 Pl.zn).kind = 2 -> (Pl.Qa9 s t).2 = true -> (Pl.Qa9 s t).1.length <= 144 /\ ∀ x ∈ (Pl.Qa9 s t).1, 0 <= x.2 /\ x.2 < (Pl.Qab s t).length) := Pm.hid fun h1 h2 => by
  obtain ⟨L, g1, g2, g3⟩ := Qe1 s h1 h2
  rw [g3]
  refine ⟨by simpa using g2, fun x hx => ?_⟩
  obtain ⟨y, hy, rfl⟩ := List.mem_map.1 hx
  have := g1.fd.kinds y.2 (List.mem_map.2 ⟨y, hy, rfl⟩)
  have hk : y.2 < (Pl.Qab s t).length := Qce (by rcases this with h | ⟨h, _⟩ <;> rw [h] <;> decide)
  simp only [Pl.itOf]; omega
 have W := QnW s hg (Pl.Qab s t) hnl 145 [] 0 [] 0 (by simp) (by simp) (by simp) (by intro x hx; cases hx)
 have hfd : Hid (Pl.Qa9 s t = Pl.wk (Pl.Qab s t) (Pl.ents s) 145 ([], 0) []) := Pm.hid rfl
 rw [<- hfd.out] at W
 rw [show Pl.Qat [] = [47] from rfl] at W
 have hB : ∀ n ∈ Pl.Qab s t, n = Pl.zn ∨ NodeB n := fun n hn => by
  unfold Pl.Qab at hn
  obtain ⟨x, _, rfl⟩ := List.mem_map.1 hn
  rcases QiB x with h | h
  ·exact .inr h
  ·exact .inl h
 have hB := Pm.hid hB
 have c13 := Pm.hid fun n => al13Ok s hg n
 have hnf : Hid (∀ out k nd, (Pl.Qab s t)[k]? = some nd -> Pl.Qav s (Pl.Qab s t) out k = ((nd.kind == 0 || ((Pl.many out k : Int) == nd.links)) && (!(nd.kind == 1) || Pl.Qax s nd))) := Pm.hid fun out k nd h => by
  unfold Pl.Qav; rw [List.getD_eq_getElem?_getD, h]; rfl
 clear h0 ht hfd
 generalize Pl.Qa9 s t = fo at *
 generalize Pl.Qab s t = ns at *
 obtain ⟨out, ok⟩ := fo
 simp only [List.map_nil, List.length_nil, Nat.sub_zero, Nat.zero_add] at W
 simp only at hd hf hids
 have hnm : (ns.map rNode).length = ns.length := List.length_map ..
 by_cases h2 : (ns.getD 0 Pl.zn).kind = 2
 rotate_left
 ·have hx : Hid (Pl.Qbc s t = ([], false)) := Pm.hid (by
   rw [hd.out, hf.out]
   have : ((ns.getD 0 Pl.zn).kind == 2) = false := by simpa using h2
   rw [this]; rfl)
  cases ns with
  |nil =>
   (refine Qbw Tryz.func115 rfl Tryz.ntmps115 Tryz.results115 rfl ?_; simp only [parE, Nat.zero_add, Nat.reduceAdd])
   (refine Qbu (Qbr ?_); (repeat (first | refine e1 (k := ?_) | refine e2 (k := ?_) | fail)); refine Qbs ?_)
   refine Qbv 0 (h := ?_)
   refine Qbv 1 (h := ?_)
   (repeat' (first | refine e1 (k := ?_) | refine e0 (k := ?_) | refine stepS (Qbt Tryz.call182 c0 rfl) (k := ?_) | refine stepS (Qbt Tryz.call56 c1 rfl) (k := ?_) | refine stepS2 (QbE Ty.h rfl Ty.h) (k := ?_) | refine Qbs ?_ | refine Qbu ?_ | refine Qbr ?_ | refine Qb0 (ht := ?_) | refine Qb2 (hf := ?_) | refine Qbz ?_ | fail))
   (refine Qbv 2 (h := ?_); refine Qb1 (hx := ?_))
   rw [hx.out]; rfl
  |cons n0 ns =>
   have hr : ((n0 :: ns).map rNode)[((0 : Nat) : Int).toNat]? = some (rNode n0) := rfl
   have h2 : ¬ n0.kind = 2 := h2
   (refine Qbw Tryz.func115 rfl Tryz.ntmps115 Tryz.results115 rfl ?_; simp only [parE, Nat.zero_add, Nat.reduceAdd])
   (refine Qbu (Qbr ?_); (repeat (first | refine e1 (k := ?_) | refine e2 (k := ?_) | fail)); refine Qbs ?_)
   refine Qbv 0 (h := ?_)
   refine Qbv 1 (h := ?_)
   (repeat' (first | refine e1 (k := ?_) | refine stepS (Qbt Tryz.call182 c0 rfl) (k := ?_) | refine stepS (Qbt Tryz.call56 c1 rfl) (k := ?_) | refine stepS (Qbx Ty.h rfl Ty.h rfl rfl rfl (by omega) hr) (k := ?_) | refine stepS2 (QbE Ty.h rfl Ty.h) (k := ?_) | refine Qbs ?_ | refine Qbu ?_ | refine Qbr ?_ | refine Qb2 (hf := ?_) | refine Qb3 (ht := fun q => ?_) (hf := fun q => ?_) | refine Qbz ?_ | fail))
   all_goals first
    |(exfalso; simp at q; omega)
    |((refine Qbv 2 (h := ?_); refine Qb1 (hx := ?_)); rw [hx.out]; rfl)
 have hlen0 : 0 < ns.length := by
  cases ns with
  |nil => exact absurd h2 (by decide)
  |cons n0 ns => simp
 obtain ⟨n0, hn0⟩ : ∃ n0, ns[0]? = some n0 := ⟨_, List.getElem?_eq_getElem hlen0⟩
 have hk0 : n0.kind = 2 := by rw [List.getD_eq_getElem?_getD, hn0] at h2; exact h2
 have hr0 : (ns.map rNode)[(0 : Int).toNat]? = some (rNode n0) := by show (ns.map rNode)[0]? = _; rw [List.getElem?_map, hn0]; rfl
 have h2b : ((ns.getD 0 Pl.zn).kind == 2) = true := by simpa using h2
 cases ok
 ·have hx : Hid (Pl.Qbc s t = ([], false)) := Pm.hid (by rw [hd.out, hf.out, h2b]; rfl)
  clear hB hnf hids hf hd
  (refine Qbw Tryz.func115 rfl Tryz.ntmps115 Tryz.results115 rfl ?_; simp only [parE, Nat.zero_add, Nat.reduceAdd])
  (refine Qbu (Qbr ?_); (repeat (first | refine e1 (k := ?_) | refine e2 (k := ?_) | fail)); refine Qbs ?_)
  refine Qbv 0 (h := ?_)
  refine Qbv 1 (h := ?_)
  (repeat' (first | refine e1 (k := ?_) | refine e0 (k := ?_) | refine stepS (Qbt Tryz.call182 c0 rfl) (k := ?_) | refine stepS (Qbt Tryz.call56 c1 rfl) (k := ?_) | refine stepS (Qbx Ty.h rfl Ty.h rfl rfl rfl (by omega) hr0) (k := ?_) | refine (QjX [2] W Tryz.call183 (k := ?_)) | refine stepS2 (QbE Ty.h rfl Ty.h) (k := ?_) | refine Qbs ?_ | refine Qbu ?_ | refine Qbr ?_ | refine Qb0 (ht := ?_) | refine Qb2 (hf := ?_) | refine Qb3 (ht := fun q => ?_) (hf := fun q => ?_) | refine Qbz ?_ | ((fail_if_success show ASeq _ _ _ _ ⟨_, (_, .d (.v (.bool true))) :: _, _⟩); (fail_if_success show ASeq _ _ _ _ ⟨_, (_, .d (.v (.bool false))) :: _, _⟩); refine splitS (fun q => ?_) (fun q => ?_))))
  all_goals first
   |(exfalso; simp at q; omega)
   |(exfalso; simp only [beq_iff_eq] at q; omega)
   |((refine Qbv 3 (h := ?_); refine Qb1 (hx := ?_)); rw [hx.out]; rfl)
 obtain ⟨hol, hid⟩ := hids.out h2 rfl
 have hf2 : Hid (Pl.Qak s t = (List.range ns.length).all (Pl.Qav s ns out)) := Pm.hid (by rw [hf.out, h2b]; rfl)
 clear hids hf
 have hid := Pm.hid hid
 (refine Qbw Tryz.func115 rfl Tryz.ntmps115 Tryz.results115 rfl ?_; simp only [parE, Nat.zero_add, Nat.reduceAdd])
 (refine Qbu (Qbr ?_); (repeat (first | refine e1 (k := ?_) | refine e2 (k := ?_) | fail)); refine Qbs ?_)
 refine Qbv 0 (h := ?_)
 refine Qbv 1 (h := ?_)
 (repeat' (first | refine e1 (k := ?_) | refine e0 (k := ?_) | refine stepS (Qbt Tryz.call182 c0 rfl) (k := ?_) | refine stepS (Qbt Tryz.call56 c1 rfl) (k := ?_) | refine stepS (Qbx Ty.h rfl Ty.h rfl rfl rfl (by omega) hr0) (k := ?_) | refine (QjX [2] W Tryz.call183 (k := ?_)) | refine stepS2 (Qds Ty.h rfl Ty.h rfl rfl rfl (by simp; omega) (by omega)) (k := ?_) | refine stepS2 (QbE Ty.h rfl Ty.h) (k := ?_) | refine Qbs ?_ | refine Qbu ?_ | refine Qbr ?_ | refine Qb0 (ht := ?_) | refine Qb2 (hf := ?_) | refine Qb3 (ht := fun q => ?_) (hf := fun q => ?_) | refine Qbz ?_ | refine Qby ?_ | ((fail_if_success show ASeq _ _ _ _ ⟨_, (_, .d (.v (.bool true))) :: _, _⟩); (fail_if_success show ASeq _ _ _ _ ⟨_, (_, .d (.v (.bool false))) :: _, _⟩); refine splitS (fun q => ?_) (fun q => ?_))))
 all_goals first
  |(exfalso; simp only [beq_iff_eq] at q; omega)
  |(exfalso; simp at q; omega)
  |skip
 refine Qbv 2 (h := ?_)
 refine QbD (fun m st => ∃ j : Nat, j <= out.length /\ m = out.length - j /\ st = ⟨110, [(10, .d (dI j)), (9, .osl 3 0 0 ns.length), (7, .d (tFnds out)), (6, .d (.sl true 10 (ns.map rNode))), (2, .d (.pd (rSt s)))],
  [.row 1 [], .row 1 [], .arr (out.length + 1) 2 126 [], .arr 0 1 3 ((Pl.cnt (out.take j) ns.length).map fun n => [dI n])]⟩) [10, 9, 7, 6, 2] 4 out.length ⟨0, by omega, rfl, ?_⟩ (round := ?_)
 ·simp [keepE, go_sem, cnt_nil, List.take_of_length_le]
 rintro m st ⟨j, hj, rfl, rfl⟩
 (repeat (first | refine e1 (k := ?_) | refine Qbs ?_ | refine Qbu ?_ | refine Qbr ?_ | fail))
 cases q3 : decide ((j : Int) < (out.length : Int))
 rotate_left
 ·have hj2 : j < out.length := by simp at q3; omega
  obtain ⟨x, hx⟩ : ∃ x, out[j]? = some x := ⟨_, List.getElem?_eq_getElem hj2⟩
  have hr := QbC (f := rFnd) hx
  have hxi := hid.out x (List.mem_of_getElem? hx)
  have hrm : ((Pl.cnt (out.take j) ns.length).map fun n => [dI n])[0 + x.2.toNat]? = some [dI ((Pl.many (out.take j) x.2.toNat : Nat) : Int)] := by
   rw [Nat.zero_add, List.getElem?_map, Qm7 _ (by omega)]; rfl
  have hml := many_le (out.take j) x.2.toNat
  rw [List.length_take] at hml
  have T : Hid (Pl.cnt (out.take (j + 1)) ns.length = (Pl.cnt (out.take j) ns.length).set x.2.toNat (((Pl.many (out.take j) x.2.toNat : Nat) : Int) + 1)) := Pm.hid (by
   rw [List.take_add_one, hx]; exact QnD _ x hxi.1 hxi.2)
  clear hx hf2 hd hB hnf c0 c1 W
  generalize Pl.many (out.take j) x.2.toNat = c at *
  generalize Pl.cnt (out.take j) ns.length = cl at *
  obtain ⟨xp, xi⟩ := x
  simp only at hxi hrm T hr
  (repeat' (first | refine f1 (k := ?_) | refine e1 (k := ?_) | refine (Fg.awp_drawF (id := 13) [] [16] follows_mixed (by kernel_rfl) (by kernel_rfl) (by kernel_rfl) ?_) | refine (Fg.aw_fltN ?_) | refine (Fg.aw_planFC (by rfl) (by kernel_rfl) rfl ?_) | refine (Fg.aw_planFN ?_) | refine stepD (Qbx Ty.h rfl Ty.h rfl rfl rfl (by omega) hr) (k := ?_) | refine stepD (QbR Ty.h rfl Ty.h rfl rfl rfl rfl hxi.1 hxi.2) (k := ?_) | refine stepD (QbX Ty.h rfl rfl hrm rfl) (k := ?_) | refine QfR Ty.h rfl rfl hrm rfl (kk := ?_) | refine stepD (Qb7 rfl rfl (by omega)) (k := ?_) | refine stepS (Qb7 rfl rfl (by omega)) (k := ?_) | refine Qb4 ?_ | refine Qb6 ?_ | refine Qca ?_ | refine Qbu ?_ | refine Qbr ?_ | refine Qb0 (ht := ?_) | refine Qbz ?_ | refine Qby ?_ | fail))
  refine Qb9 (out.length - (j + 1)) (by omega) ⟨j + 1, by omega, rfl, ?_⟩
  simp [keepE, go_sem, T.out, List.map_set]
 have hj2 : j = out.length := by simp at q3; omega
 subst hj2
 rw [List.take_length]
 (repeat' (first | refine e1 (k := ?_) | refine Qbs ?_ | refine Qbu ?_ | refine Qbr ?_ | refine Qb2 (hf := ?_) | refine Qby ?_ | refine Qb5 ?_ | fail))
 refine QbD (fun m st => ∃ k : Nat, k <= ns.length /\ m = 16 - k /\ Hid ((List.range k).all (Pl.Qav s ns out) = true) /\ st = ⟨110, [(11, .d (dI k)), (9, .osl 3 0 0 ns.length), (7, .d (tFnds out)), (6, .d (.sl true 10 (ns.map rNode))), (2, .d (.pd (rSt s)))],
  [.row 1 [], .row 1 [], .arr (out.length + 1) 2 126 [], .arr 0 1 3 ((Pl.cnt out ns.length).map fun n => [dI n])]⟩) [11, 9, 7, 6, 2] 4 16 ⟨0, by omega, rfl, Pm.hid rfl, rfl⟩ (round := ?_)
 rintro m st ⟨k, hk, rfl, hA, rfl⟩
 (repeat (first | refine e1 (k := ?_) | refine Qbs ?_ | refine Qbu ?_ | refine Qbr ?_ | fail))
 cases q4 : decide ((k : Int) < (ns.length : Int))
 ·(repeat' (first | refine e1 (k := ?_) | refine Qbs ?_ | refine Qbu ?_ | refine Qbr ?_ | refine Qb2 (hf := ?_) | refine Qb5 ?_ | fail))
  refine Qb1 (hx := ?_)
  have : k = ns.length := by simp at q4; omega
  have h := hA.out
  rw [this] at h
  rw [hd.out, hf2.out, h]; rfl
 have hk2 : k < ns.length := by simp at q4; omega
 obtain ⟨nd, hnd⟩ : ∃ nd, ns[k]? = some nd := ⟨_, List.getElem?_eq_getElem hk2⟩
 have hr := QbC (f := rNode) hnd
 have hrm : ((Pl.cnt out ns.length).map fun n => [dI n])[0 + (k : Int).toNat]? = some [dI ((Pl.many out k : Nat) : Int)] := by
  rw [Nat.zero_add, Int.toNat_natCast, List.getElem?_map, Qm7 _ hk2]; rfl
 have he := hnf.out out k nd hnd
 have T : Hid (Pl.Qav s ns out k = true -> (List.range (k + 1)).all (Pl.Qav s ns out) = true) := fun h => Pl.QbM (p := Pl.Qav s ns out) hA.out h
 have F : Hid (Pl.Qav s ns out k = false -> Pl.Qbc s t = ([], false)) := fun h => by
  rw [hd.out, hf2.out, Pl.QbI (p := Pl.Qav s ns out) hk2 h]; rfl
 rw [he] at T F
 have c4 := c13.out nd
 clear hnd hA hd hf2 he hnf hB W c0 c1 c13
 generalize Pl.many out k = c at *
 generalize Pl.Qax s nd = fok at *
 obtain ⟨kind, links, size, ⟨⟨p1, p2, p3, p4, p5⟩, depth, many⟩⟩ := nd
 simp only at T F
 have hki : (0 : Int) <= k /\ (k : Int) < ns.length := by omega
 (repeat' (first | refine f1 (k := ?_) | refine e1 (k := ?_) | refine f0 (k := ?_) | refine stepD (Qbt Tryz.call184 c4 rfl) (k := ?_) | refine stepD (Qbx Ty.h rfl Ty.h rfl rfl rfl (by omega) hr) (k := ?_) | refine stepD (QbR Ty.h rfl Ty.h rfl rfl rfl rfl hki.1 hki.2) (k := ?_) | refine stepD (QbX Ty.h rfl rfl hrm rfl) (k := ?_) | refine stepS (Qb7 rfl rfl (by omega)) (k := ?_) | refine stepS2 (QbE Ty.h rfl Ty.h) (k := ?_) | refine Qbs ?_ | refine Qb4 ?_ | refine Qb6 ?_ | refine Qbu ?_ | refine Qbr ?_ | refine QbF follows_mixed (by kernel_rfl) (by kernel_rfl) ?_ | refine Qb0 (ht := ?_) | refine Qb2 (hf := ?_) | refine Qb3 (ht := fun q => ?_) (hf := fun q => ?_) | refine Qbz ?_ | refine Qby ?_ | ((fail_if_success show ADraw _ _ _ _ ⟨_, (_, .d (.v (.bool true))) :: _, _⟩); (fail_if_success show ADraw _ _ _ _ ⟨_, (_, .d (.v (.bool false))) :: _, _⟩); refine splitD (fun q => ?_) (fun q => ?_))))
 all_goals clear c4 hr hrm
 all_goals first
  |(refine Qb9 (16 - (k + 1)) (by omega) ⟨k + 1, by omega, rfl, Pm.hid (T.out ?_), rfl⟩; clear T F; simp_all; done)
  |(refine Qbv 4 (h := ?_)
    refine Qb1 (hx := ?_)
    have hz := F.out (by clear T F; simp_all)
    rw [hz]; rfl)
end Aw
end Go.Proofs.YtdjkdcokjoiokaaGreatDoor

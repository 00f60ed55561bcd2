/- Part 34 of the proof of use_card: contracts, walks, plain laws; no condition is assumed beyond those that a statement names. -/
import Derived.Test.YtdjkdcokjoiokaaGreatDoorU33
set_option linter.all false
set_option maxRecDepth 100000
set_option maxHeartbeats 16000000
namespace Go.Proofs.YtdjkdcokjoiokaaGreatDoor
open Go.RowKit
namespace Aw
attribute [local irreducible] ASeq ADraw AWP Loc mget mset AStep Fg.PlanF Fg.Flts
theorem bLinked (s : Pm.Store) (t : Pl.Tree) (x : List (List UInt8)) (hx16 : x.length <= 16) (hx : Pl.TxOk x) (m : List (Int × D)) (L : Int -> List Pl.Ent) (hm : Pl.Qbm m L) (ch : Nat -> Option (List Nat)) (hch : ∀ k : Nat, (ch k).getD [] = (L k).map fun e => e.2.toNat) :
 Pure Tryz.prog 266 [.pd (rFiles s t x m)] (dB (Pl.Qbl (Pl.Qad (Pl.Qac x)) ch (Pl.Qa1 (Pl.Qac x)) x.length)) := by
 have hlk : ∀ k, Pl.Qad (Pl.Qac x) k = 2 -> k < x.length := fun k hk => by
  have := Qce (ns := Pl.Qac x) (k := k) (by omega); rwa [List.length_map] at this
 obtain ⟨kind, hkind⟩ : ∃ kind, kind = Pl.Qad (Pl.Qac x) := ⟨_, rfl⟩;obtain ⟨res, hres⟩ : ∃ res, res = Pl.Qbl kind ch (Pl.Qa1 (Pl.Qac x)) x.length := ⟨_, rfl⟩;rw [<- hkind] at hlk ⊢;rw [<- hres];have hB0 : Hid (Gr.bfs kind ch (1 + Gr.left kind x.length []) [0] [] = none -> res = false) := Pm.hid fun h => by rw [hres, Pl.Qbl, h]
 have hB1 : Hid (∀ nm, Gr.bfs kind ch (1 + Gr.left kind x.length []) [0] [] = some nm -> res = (List.range x.length).all fun k => decide (k = 0) || decide (kind k = 0) || decide (nm.count k = Pl.Qa1 (Pl.Qac x) k)) := Pm.hid fun nm h => by rw [hres, Pl.Qbl, h]
 clear hres;have hll := QnB kind x.length [];obtain ⟨F0, hF0⟩ : ∃ F0, F0 = 1 + Gr.left kind x.length [] := ⟨_, rfl⟩;have hF17 : F0 <= 17 := by omega
 rw [<- hF0] at hB0 hB1;have hhk := Pm.hid hkind
 replace hlk := Pm.hid hlk
 replace hF0 := Pm.hid hF0
 (refine Qbv Tryz.func266 rfl Tryz.ntmps266 Tryz.results266 rfl ?_; simp only [parE, Nat.zero_add, Nat.reduceAdd])
 (repeat' (first | refine e1 (k := ?_) | refine stepS2 (Qc5) (k := ?_) | refine stepS2 (QbD Ty.h rfl Ty.h) (k := ?_) | refine Qbr ?_ | refine Qbt ?_ | refine Qbq ?_ | refine Qbx ?_ | fail))
 refine QbC (fun mm st => ∃ (g : Nat) (pre todo nm : List Nat) (mp : List (Int × D)), Hid (Gr.bfs kind ch F0 [0] [] = Gr.bfs kind ch mm todo nm) /\ Hid (todo.length + Gr.left kind x.length nm <= mm) /\ Hid (nm.length + 12 * mm <= 12 * F0) /\ Hid (Pl.NmOk mp nm) /\
  (todo ≠ [] /\ st = ⟨89, [(0, .d (.pd (rFiles s t x m))), (3, .mp 0 0), (4, .osl 1 g pre.length todo.length)], [.mp 0 (imap mp), .arr g 1 3 ((pre ++ todo).map fun n => [dI (n : Nat)])]⟩ ∨
   todo = [] /\ st = ⟨89, [(0, .d (.pd (rFiles s t x m))), (3, .mp 0 0), (4, .d (.sl false 1 []))], [.mp 0 (imap mp), .arr g 1 3 (pre.map fun n => [dI (n : Nat)])]⟩)) [0, 3, 4] 2 F0
  ⟨0, [], [0], [], [], Pm.hid rfl, Pm.hid (by rw [hF0.out]; simp), Pm.hid (by simp), Pm.hid Qn6, .inl ⟨by simp, by simp [keepE, go_sem, imap]⟩⟩ (round := ?_)
 rintro mm st ⟨g, pre, todo, nm, mp, hR, hlf, hnl, hN, hst⟩;rcases hst with ⟨hne, rfl⟩ | ⟨rfl, rfl⟩;rotate_left
 ·have hn2 : Gr.bfs kind ch F0 [0] [] = some nm := by rw [hR.out]; unfold Gr.bfs; rfl
  have hr1 := Pm.hid (hB1.out nm hn2);clear hB0 hB1 hR hlf hn2 hm hch hlk hF0;have hcb : ∀ k, (nm.count k : Nat) <= nm.length := fun k => List.count_le_length
  (repeat' (first | refine e1 (k := ?_) | refine stepS (QbW rfl) (k := ?_) | refine Qbr ?_ | refine Qbt ?_ | refine Qbq ?_ | refine Qb1 (hf := ?_) | refine Qbx ?_ | refine Qb3 ?_ | fail))
  refine QbC (fun mm st => ∃ k, k <= x.length /\ mm = x.length - k /\ Hid ((List.range k).all (fun k => decide (k = 0) || decide (kind k = 0) || decide (nm.count k = Pl.Qa1 (Pl.Qac x) k)) = true) /\
   st = ⟨89, [(65, .d (tNds x)), (66, .d (dI x.length)), (67, .d (dI k)), (3, .mp 0 0)], [.mp 0 (imap mp)]⟩) [65, 66, 67, 3] 1 x.length ⟨0, by omega, rfl, Pm.hid rfl, by simp [keepE, go_sem]⟩ (round := ?_)
  rintro m2 st ⟨k, hk, rfl, hA, rfl⟩
  (repeat (first | refine e1 (k := ?_) | refine Qbr ?_ | refine Qbt ?_ | refine Qbq ?_ | fail))
  cases q3 : decide ((k : Int) < (x.length : Int))
  ·(repeat' (first | refine e1 (k := ?_) | refine Qbr ?_ | refine Qbt ?_ | refine Qbq ?_ | refine Qb1 (hf := ?_) | refine Qb3 ?_ | fail))
   refine Qb0 (hx := ?_);have : k = x.length := by simp at q3; omega
   rw [hr1.out, <- this, hA.out]
  have hk2 : k < x.length := by simp at q3; omega
  obtain ⟨y, hy⟩ : ∃ y, x[k]? = some y := ⟨_, List.getElem?_eq_getElem hk2⟩;have hyd : x.getD k [] = y := by rw [List.getD_eq_getElem?_getD, hy]; rfl
  have hr := QbB (f := fun x => [Pl.ndD x]) hy;have T : Hid ((decide (k = 0) || decide (kind k = 0) || decide (nm.count k = Pl.Qa1 (Pl.Qac x) k)) = true -> (List.range (k + 1)).all (fun k => decide (k = 0) || decide (kind k = 0) || decide (nm.count k = Pl.Qa1 (Pl.Qac x) k)) = true) := fun h => Pl.QbL (p := fun k => decide (k = 0) || decide (kind k = 0) || decide (nm.count k = Pl.Qa1 (Pl.Qac x) k)) hA.out h
  have F : Hid ((decide (k = 0) || decide (kind k = 0) || decide (nm.count k = Pl.Qa1 (Pl.Qac x) k)) = false -> res = false) := fun h => by
   rw [hr1.out, Pl.QbH (p := fun k => decide (k = 0) || decide (kind k = 0) || decide (nm.count k = Pl.Qa1 (Pl.Qac x) k)) hk2 h]
  have hlook := hN.out k;have hkz := QfI hx k;have hnx := QcB (x := x) k;rw [hyd] at hkz hnx;rw [<- hkind] at hkz;rcases QcA hx k with ⟨h1, _⟩ | ⟨h1, _, hnb⟩
  ·rw [hyd] at h1
   have e : Pl.ndD y = .v (.pointer none) := by unfold Pl.ndD; rw [if_pos h1]
   rw [e] at hr;have ht := Pm.hid (T.out (by rw [decide_eq_true (p := kind k = 0) (hkz.2 h1)]; simp));clear T F hA hr1 hkz hnx hyd hy hx
   (repeat' (first | refine f1 (k := ?_) | refine e1 (k := ?_) | refine f0 (k := ?_) | refine stepS (Qbw Ty.h rfl Ty.h rfl rfl rfl (by omega) hr) (k := ?_) | refine stepD (QhV Tryz.underlying261 rfl) (k := ?_) | refine stepS (Qb6 rfl rfl (by omega)) (k := ?_) | refine Qbr ?_ | refine Qb4 ?_ | refine Qb5 ?_ | refine Qbt ?_ | refine Qbq ?_ | refine QbE follows_mixed (by kernel_rfl) (by kernel_rfl) ?_ | refine Qbz (ht := ?_) | refine Qb1 (hf := ?_) | refine Qby ?_ | refine Qbx ?_ | fail))
   all_goals first
    |(exfalso; simp at *; done)
    |exact Qb8 (x.length - (k + 1)) (by omega) ⟨k + 1, by omega, rfl, ht, by simp [keepE, go_sem]⟩
  ·rw [hyd] at h1
   have e : Pl.ndD y = .pd (rNode (Pl.ng y).1) := by unfold Pl.ndD; rw [if_neg h1]
   rw [e] at hr;rw [hnx] at hnb;have hlink : Pl.Qa1 (Pl.Qac x) k = (Pl.ng y).1.links.toNat := by unfold Pl.Qa1; rw [hnx]
   have hkn : ¬ kind k = 0 := fun h => h1 (hkz.1 h)
   rw [hlink, decide_eq_false hkn] at T F;have hlb := hnb.links;clear hA hr1 hkz hnx hyd hy hx e hlink hnb;generalize (Pl.ng y).1 = N at *
   obtain ⟨kd, links, size, ⟨⟨p1, p2, p3, p4, p5⟩, depth, many⟩⟩ := N;simp only at T F hlb;obtain ⟨lk, rfl⟩ := Int.eq_ofNat_of_zero_le (show 0 <= links by omega);rw [Int.toNat_natCast] at T F;generalize List.count k nm = cn at *
   (repeat' (first | refine f1 (k := ?_) | refine e1 (k := ?_) | refine f0 (k := ?_) | refine stepS (Qbw Ty.h rfl Ty.h rfl rfl rfl (by omega) hr) (k := ?_) | refine stepD (QgV Tryz.underlying261 rfl) (k := ?_) | refine stepD (QbW rfl) (k := ?_) | refine stepD (Qcn Tryz.underlying345 Tryz.underlying3 (z := .int .i64 0) (by kernel_rfl) rfl rfl rfl hlook) (k := ?_) | refine stepS (Qb6 rfl rfl (by omega)) (k := ?_) | refine Qbr ?_ | refine Qb4 ?_ | refine Qb5 ?_ | refine Qbt ?_ | refine Qbq ?_ | refine QbE follows_mixed (by kernel_rfl) (by kernel_rfl) ?_ | refine Qbz (ht := ?_) | refine Qb1 (hf := ?_) | refine Qb2 (ht := fun q => ?_) (hf := fun q => ?_) | refine Qby ?_ | refine Qbx ?_ | ((fail_if_success show ADraw _ _ _ _ ⟨_, (_, .d (.v (.bool true))) :: _, _⟩); (fail_if_success show ADraw _ _ _ _ ⟨_, (_, .d (.v (.bool false))) :: _, _⟩); refine splitD (fun q => ?_) (fun q => ?_))))
   all_goals first
    |(have h9 : ((decide (k = 0) || false || decide (cn = lk)) = false) := by
       rw [decide_eq_false (show ¬ k = 0 by clear T F hlook hr hN hnl hhk; simp at *; omega), decide_eq_false (show ¬ cn = lk by clear T F hlook hr hN hnl hhk; simp at *; omega)]; rfl
      refine Qb0 (hx := ?_)
      rw [F.out h9]; done)
    |(have h9 : ((decide (k = 0) || false || decide (cn = lk)) = true) := by
       by_cases hk0 : k = 0
       ·rw [decide_eq_true hk0]; rfl
       ·rw [decide_eq_true (show cn = lk by clear T F hlook hr hN hnl hhk; simp at *; omega)]; simp
      exact Qb8 (x.length - (k + 1)) (by omega) ⟨k + 1, by omega, rfl, Pm.hid (T.out h9), by simp [keepE, go_sem]⟩)
 obtain ⟨f, td, rfl⟩ := List.exists_cons_of_ne_nil hne;obtain ⟨m0, rfl⟩ : ∃ m0, mm = m0 + 1 := ⟨mm - 1, by have := hlf.out; simp only [List.length_cons] at this; omega⟩;have hfr : ((pre ++ f :: td).map fun n => [dI (n : Nat)])[pre.length + ((0 : Int)).toNat]? = some [dI (f : Nat)] := by simp
 obtain ⟨hE, hg⟩ := hm (f : Nat) (by omega);have hcf := hch f;generalize L (f : Nat) = es at *
 have hst : Gr.bfs kind ch F0 [0] [] = match Gr.inner kind (es.map fun e => e.2.toNat) td nm with | none => none | some (t', nm') => Gr.bfs kind ch m0 t' nm' := by
  rw [hR.out, <- hcf]
  conv => lhs; unfold Gr.bfs
  rfl
 replace hst := Pm.hid hst
 have hes : es.length <= 12 := by unfold Pl.Qaf at hE; rw [Bool.and_eq_true, decide_eq_true_eq] at hE; exact hE.2
 have hids := Pm.hid (ent_b hE);have hll0 := Pm.hid hll;have hlf2 := Pm.hid (show td.length + Gr.left kind x.length nm <= m0 by have := hlf.out; simp only [List.length_cons] at this; omega)
 have hbnd : nm.length <= 204 /\ td.length <= 17 := by
  have := hnl.out; have := hlf2.out; omega
 clear hE hcf hB1 hR hm hch hlf hne hll
 have hg : mget m (f : Nat) = some (.sl true 2 (es.map rEnt)) ∨ mget m (f : Nat) = none /\ es.map rEnt = [] := by
  rcases hg with h | ⟨h1, h2⟩
  ·exact .inl h
  ·exact .inr ⟨h1, by rw [h2]; rfl⟩
 (repeat' (first | refine f1 (k := ?_) | refine e1 (k := ?_) | refine stepD (QbW rfl) (k := ?_) | refine stepS (QbW rfl) (k := ?_) | refine stepD (QbQ Ty.h rfl Ty.h rfl rfl rfl rfl (by omega) (by omega)) (k := ?_) | refine stepD (QbX Ty.h rfl rfl hfr rfl) (k := ?_) | refine stepD (Qfj Tryz.underlying263 Tryz.underlying3 (by kernel_rfl) rfl rfl hg) (k := ?_) | refine Qbr ?_ | refine Qb5 ?_ | refine Qbt ?_ | refine Qbq ?_ | refine QbE follows_mixed (by kernel_rfl) (by kernel_rfl) ?_ | refine Qb2 (ht := fun q => ?_) (hf := fun q => ?_) | refine Qby ?_ | refine Qbx ?_ | refine Qb3 ?_ | fail))
 rotate_left
 ·exfalso; simp at *
 clear hfr hg
 refine QbC (fun m2 st => ∃ (j g : Nat) (pre t2 nm2 : List Nat) (mp : List (Int × D)), j <= es.length /\ m2 = es.length - j /\ Hid (Gr.inner kind (es.map fun e => e.2.toNat) td nm = Gr.inner kind ((es.drop j).map fun e => e.2.toNat) t2 nm2) /\ nm2.length = nm.length + j /\ t2.length <= td.length + j /\ Hid (Pl.NmOk mp nm2) /\
  st = ⟨89, [(25, .d (tEnts es)), (26, .d (dI es.length)), (27, .d (dI j)), (0, .d (.pd (rFiles s t x m))), (3, .mp 0 0), (4, .osl 1 g pre.length (t2.length + 1))], [.mp 0 (imap mp), .arr g 1 3 ((pre ++ f :: t2).map fun n => [dI (n : Nat)])]⟩) [25, 26, 27, 0, 3, 4] 2 es.length ⟨0, g, pre, td, nm, mp, by omega, rfl, Pm.hid rfl, rfl, by omega, hN, by simp [keepE, go_sem]⟩ (round := ?_)
 clear hN;rintro m2 st ⟨j, g, pre, t2, nm2, mp, hj, rfl, hI, hn2, ht2, hN, rfl⟩
 (repeat (first | refine e1 (k := ?_) | refine Qbr ?_ | refine Qbt ?_ | refine Qbq ?_ | fail))
 cases q3 : decide ((j : Int) < (es.length : Int))
 ·have hje : j = es.length := by simp at q3; omega
  have hin : Gr.inner kind (es.map fun e => e.2.toNat) td nm = some (t2, nm2) := by rw [hI.out, hje, List.drop_length]; rfl
  have hlf3 := Pm.hid (Gr.Qec hlk.out hin);have hst2 : Hid (Gr.bfs kind ch F0 [0] [] = Gr.bfs kind ch m0 t2 nm2) := Pm.hid (by rw [hst.out, hin]);clear hst hin hI;cases t2 with
  |nil =>
   have hrw : ((pre ++ [f]).map fun n => [dI (n : Nat)]) = (pre ++ f :: []).map fun n => [dI (n : Nat)] := rfl
   (repeat' (first | refine e1 (k := ?_) | refine stepS (QkF rfl rfl rfl rfl rfl (by omega) (by simp)) (k := ?_) | refine Qb4 ?_ | refine Qbq ?_ | refine Qb1 (hf := ?_) | refine Qb3 ?_ | fail))
   refine Qb8 m0 (by omega) ⟨g, pre ++ [f], [], nm2, mp, hst2, Pm.hid ?_, Pm.hid ?_, hN, .inr ⟨rfl, ?_⟩⟩
   ·have := hlf3.out; have := hlf2.out; omega
   ·have := hnl.out; omega
   ·simp [keepE, go_sem]
  |cons a t3 =>
   (repeat' (first | refine e1 (k := ?_) | refine stepS (Qmh rfl rfl rfl rfl rfl (by omega) (by simp; omega)) (k := ?_) | refine Qb4 ?_ | refine Qbq ?_ | refine Qb1 (hf := ?_) | refine Qb3 ?_ | fail))
   refine Qb8 m0 (by omega) ⟨g, pre ++ [f], a :: t3, nm2, mp, hst2, Pm.hid ?_, Pm.hid ?_, hN, .inl ⟨by simp, ?_⟩⟩
   ·have := hlf3.out; have := hlf2.out; omega
   ·have := hnl.out; omega
   ·simp [keepE, go_sem]
 have hj2 : j < es.length := by simp at q3; omega
 obtain ⟨e, he⟩ : ∃ e, es[j]? = some e := ⟨_, List.getElem?_eq_getElem hj2⟩;have hr := QbB (f := rEnt) he;have heb := (hids.out e (List.mem_of_getElem? he)).2;have hdr : es.drop j = e :: es.drop (j + 1) := by rw [List.drop_eq_getElem_cons hj2, (List.getElem?_eq_some_iff.1 he).2]
 replace hI := hI.out
 rw [hdr, List.map_cons] at hI;obtain ⟨nmE, id⟩ := e;simp only at heb hI;obtain ⟨kid, rfl⟩ := Int.eq_ofNat_of_zero_le (show 0 <= id by omega);rw [Int.toNat_natCast] at hI
 replace hI := Pm.hid hI
 have c1 := bNodeAt x (kid : Int) (by omega);rw [QoE hx kid, <- hkind] at c1;have hlook := hN.out kid;have hcb : nm2.count kid <= nm2.length := List.count_le_length;have hNs := Pm.hid (Qma hN.out kid);clear he hdr hN
 by_cases hk0 : kind kid = 0
 ·rw [if_pos hk0] at c1
  have hbad := Pm.hid (hB0.out (by rw [hst.out, hI.out, QkN hk0]));clear hst hI hNs
  (repeat' (first | refine f1 (k := ?_) | refine e1 (k := ?_) | refine stepS (Qbw Ty.h rfl Ty.h rfl rfl rfl (by omega) hr) (k := ?_) | refine (Qbu 2 (h := Fg.awp_drawF (id := 8) [0, 1, 2, 3, 4, 5, 6, 7, 8, 9] [11] follows_mixed (by kernel_rfl) (by kernel_rfl) (by kernel_rfl) ?_)) | refine (Fg.aw_flt (k := ?_)) | refine (Fg.aw_fltL (hl := fun H => QbW rfl) (k := ?_)) | refine (Fg.aw_fltL (hl := fun H => Qbs Tryz.call262 c1 rfl) (k := ?_)) | refine (Fg.aw_fltN ?_) | refine (Fg.aw_planFC (by rfl) (by kernel_rfl) rfl ?_) | refine (Fg.aw_planFN ?_) | refine (Qdl (kk := ?_)) | refine QbA (kk := ?_) | refine Qbr ?_ | refine Qb5 ?_ | refine Qcb ?_ | refine Qbt ?_ | refine Qbq ?_ | refine Qbz (ht := ?_) | refine Qby ?_ | refine Qbx ?_ | refine e2 (k := ?_) | refine f2 (k := ?_) | fail))
  refine Qb0 (hx := ?_);rw [hbad.out]
 rw [if_neg hk0] at c1;have hkN : kind kid = ((Pl.Qac x).getD kid Pl.zn).kind.toNat := by rw [hkind]; rfl
 have hNB : NodeB ((Pl.Qac x).getD kid Pl.zn) := by
  rcases QcA hx kid with ⟨_, h2⟩ | ⟨_, _, h2⟩
  ·rw [h2] at hkN; exact absurd hkN hk0
  ·exact h2
 have hNk := hNB.kind;clear hNB;generalize (Pl.Qac x).getD kid Pl.zn = N at *
 obtain ⟨kd, links, size, ⟨⟨p1, p2, p3, p4, p5⟩, depth, many⟩⟩ := N;simp only at hNk hkN c1;generalize hcn : List.count kid nm2 = cn at *
 have hlook2 : (mget (mset mp (kid : Int) (dI ((cn : Int) + 1))) (kid : Int)).getD (.v (.int .i64 0)) = dI ((cn : Int) + 1) := by rw [Qcu]; rfl
 rcases hNk with rfl | rfl
 ·have hk1 : kind kid = 1 := hkN
  have hI2 := hI.out;rw [QkL hk1] at hI2
  replace hI2 := Pm.hid hI2
  clear hI
  (repeat' (first | refine f1 (k := ?_) | refine e1 (k := ?_) | refine stepS (Qbw Ty.h rfl Ty.h rfl rfl rfl (by omega) hr) (k := ?_) | refine (Qbu 2 (h := Fg.awp_drawF (id := 8) [0, 1, 2, 3, 4, 5, 6, 7, 8, 9] [11] follows_mixed (by kernel_rfl) (by kernel_rfl) (by kernel_rfl) ?_)) | refine (Fg.aw_flt (k := ?_)) | refine (Fg.aw_fltL (hl := fun H => QbW rfl) (k := ?_)) | refine (Fg.aw_fltL (hl := fun H => Qbs Tryz.call262 c1 rfl) (k := ?_)) | refine (Fg.aw_fltN ?_) | refine (Fg.aw_planFC (by rfl) (by kernel_rfl) rfl ?_) | refine (Fg.aw_planFN ?_) | refine (Qdl (kk := ?_)) | refine stepS (Qcn Tryz.underlying345 Tryz.underlying3 (z := .int .i64 0) (by kernel_rfl) rfl rfl rfl hlook) (k := ?_) | refine stepS (Qb6 rfl rfl (by omega)) (k := ?_) | refine (QeM Tryz.underlying345 Tryz.underlying3 (kk := ?_)) | refine QbA (kk := ?_) | refine Qbr ?_ | refine Qb4 ?_ | refine Qb5 ?_ | refine Qcb ?_ | refine Qbt ?_ | refine Qbq ?_ | refine Qbz (ht := ?_) | refine Qb1 (hf := ?_) | refine Qby ?_ | refine Qbx ?_ | refine e2 (k := ?_) | refine f2 (k := ?_) | fail))
  all_goals first
   |(exfalso; simp at *; done)
   |refine Qb8 (es.length - (j + 1)) (by omega) ⟨j + 1, g, pre, t2, nm2 ++ [kid], _, by omega, rfl, hI2, by simp; omega, by omega, hNs, by simp [keepE, go_sem]⟩
 have hk2 : kind kid = 2 := hkN
 by_cases hc0 : cn = 0
 rotate_left
 ·have hbad := Pm.hid (hB0.out (by rw [hst.out, hI.out, QkM hk2 (by omega)]))
  clear hst hI hNs
  (repeat' (first | refine f1 (k := ?_) | refine e1 (k := ?_) | refine stepS (Qbw Ty.h rfl Ty.h rfl rfl rfl (by omega) hr) (k := ?_) | refine (Qbu 2 (h := Fg.awp_drawF (id := 8) [0, 1, 2, 3, 4, 5, 6, 7, 8, 9] [11] follows_mixed (by kernel_rfl) (by kernel_rfl) (by kernel_rfl) ?_)) | refine (Fg.aw_flt (k := ?_)) | refine (Fg.aw_fltL (hl := fun H => QbW rfl) (k := ?_)) | refine (Fg.aw_fltL (hl := fun H => Qbs Tryz.call262 c1 rfl) (k := ?_)) | refine (Fg.aw_fltN ?_) | refine (Fg.aw_planFC (by rfl) (by kernel_rfl) rfl ?_) | refine (Fg.aw_planFN ?_) | refine (Qdl (kk := ?_)) | refine stepS (Qcn Tryz.underlying345 Tryz.underlying3 (z := .int .i64 0) (by kernel_rfl) rfl rfl rfl hlook) (k := ?_) | refine stepS (Qb6 rfl rfl (by omega)) (k := ?_) | refine (QeM Tryz.underlying345 Tryz.underlying3 (kk := ?_)) | refine stepS (Qcn Tryz.underlying345 Tryz.underlying3 (z := .int .i64 0) (by kernel_rfl) rfl rfl rfl hlook2) (k := ?_) | refine stepS2 (QbD Ty.h rfl Ty.h) (k := ?_) | refine QbA (kk := ?_) | refine Qbr ?_ | refine Qb5 ?_ | refine Qcb ?_ | refine Qbt ?_ | refine Qbq ?_ | refine Qbz (ht := ?_) | refine Qb1 (hf := ?_) | refine Qb2 (ht := fun q => ?_) (hf := fun q => ?_) | refine Qby ?_ | refine Qbx ?_ | refine e2 (k := ?_) | refine f2 (k := ?_) | fail))
  all_goals first
   |(exfalso; simp only [decide_eq_true_eq, decide_eq_false_iff_not] at *; omega)
   |(refine Qb0 (hx := ?_)
     rw [hbad.out]; done)
 have hI2 := hI.out;rw [Qmr hk2 (by omega)] at hI2
 replace hI2 := Pm.hid hI2
 clear hI
 (repeat' (first | refine f1 (k := ?_) | refine e1 (k := ?_) | refine stepS (Qbw Ty.h rfl Ty.h rfl rfl rfl (by omega) hr) (k := ?_) | refine (Qbu 2 (h := Fg.awp_drawF (id := 8) [0, 1, 2, 3, 4, 5, 6, 7, 8, 9] [11] follows_mixed (by kernel_rfl) (by kernel_rfl) (by kernel_rfl) ?_)) | refine (Fg.aw_flt (k := ?_)) | refine (Fg.aw_fltL (hl := fun H => QbW rfl) (k := ?_)) | refine (Fg.aw_fltL (hl := fun H => Qbs Tryz.call262 c1 rfl) (k := ?_)) | refine (Fg.aw_fltN ?_) | refine (Fg.aw_planFC (by rfl) (by kernel_rfl) rfl ?_) | refine (Fg.aw_planFN ?_) | refine (Qdl (kk := ?_)) | refine stepS (Qcn Tryz.underlying345 Tryz.underlying3 (z := .int .i64 0) (by kernel_rfl) rfl rfl rfl hlook) (k := ?_) | refine stepS (Qb6 rfl rfl (by omega)) (k := ?_) | refine (QeM Tryz.underlying345 Tryz.underlying3 (kk := ?_)) | refine stepS (Qcn Tryz.underlying345 Tryz.underlying3 (z := .int .i64 0) (by kernel_rfl) rfl rfl rfl hlook2) (k := ?_) | refine (aw_appO (newrows := [[dI (kid : Nat)]]) rfl (hol := ?_) (hx := QlE rfl rfl rfl (by decide) ?_) (hnp := ?_) (hb := ?_) (hm := ?_) (k1 := ?_) (k2 := ?_)) | refine stepS2 (QbD Ty.h rfl Ty.h) (k := ?_) | refine QbA (kk := ?_) | refine Qbr ?_ | refine Qb4 ?_ | refine QbF ?_ | refine Qb5 ?_ | refine Qcb ?_ | refine Qbt ?_ | refine Qbq ?_ | refine Qbz (ht := ?_) | refine Qb1 (hf := ?_) | refine Qb2 (ht := fun q => ?_) (hf := fun q => ?_) | refine Qby ?_ | refine Qbx ?_ | refine e2 (k := ?_) | refine f2 (k := ?_) | fail))
 all_goals first
  |(exfalso; simp only [decide_eq_true_eq] at *; omega)
  |(simp; done)
  |(simp; omega)
  |(intro r hr d hd
    obtain rfl := List.mem_singleton.1 hr;obtain rfl := List.mem_singleton.1 hd
    rfl)
  |(refine Qb8 (es.length - (j + 1)) (by omega) ⟨j + 1, g + 1, pre, t2 ++ [kid], nm2 ++ [kid], _, by omega, rfl, hI2, by simp; omega, by simp; omega, hNs, ?_⟩; simp [keepE, go_sem]; done)
  |(refine Qb8 (es.length - (j + 1)) (by omega) ⟨j + 1, g + 1, [], t2 ++ [kid], nm2 ++ [kid], _, by omega, rfl, hI2, by simp; omega, by simp; omega, hNs, ?_⟩; simp [keepE, go_sem]; done)
end Aw
end Go.Proofs.YtdjkdcokjoiokaaGreatDoor
namespace Go.Proofs.YtdjkdcokjoiokaaGreatDoor
open Go.RowKit
namespace Aw
attribute [local irreducible] ASeq ADraw AWP Loc mget mset
noncomputable def Pl.entL (s : Pm.Store) (x : List (List UInt8)) (i : Int) : List Pl.Ent := (Pl.ents s ((Pl.Qac x).getD i.toNat Pl.zn)).1
noncomputable def Pl.dirM (s : Pm.Store) (x : List (List UInt8)) : Nat -> List (Int × D)
 |0 => []
 |k + 1 => if Pl.Qad (Pl.Qac x) k = 2 then mset (Pl.dirM s x k) (k : Nat) (tEnts (Pl.entL s x (k : Nat))) else Pl.dirM s x k
theorem QjT (s : Pm.Store) (x : List (List UInt8)) : ∀ (k j : Nat), mget (Pl.dirM s x k) (j : Int) = if j < k /\ Pl.Qad (Pl.Qac x) j = 2 then some (tEnts (Pl.entL s x (j : Nat))) else none
 |0, j => by rw [if_neg (by omega)]; simp [Pl.dirM, mget]
 |k + 1, j => by
  have ih := QjT s x k j;unfold Pl.dirM
  by_cases hk : Pl.Qad (Pl.Qac x) k = 2
  ·rw [if_pos hk]
   by_cases hj : k = j
   ·subst hj; rw [Qcu, if_pos ⟨by omega, hk⟩]
   ·rw [QcS (by omega), ih]
    by_cases h2 : j < k /\ Pl.Qad (Pl.Qac x) j = 2
    ·rw [if_pos h2, if_pos ⟨by omega, h2.2⟩]
    ·rw [if_neg h2, if_neg (fun h => h2 ⟨by omega, h.2⟩)]
  ·rw [if_neg hk, ih]
   by_cases h2 : j < k /\ Pl.Qad (Pl.Qac x) j = 2
   ·rw [if_pos h2, if_pos ⟨by omega, h2.2⟩]
   ·rw [if_neg h2, if_neg]
    rintro ⟨h3, h4⟩
    by_cases hj : j = k
    ·subst hj; exact hk h4
    ·exact h2 ⟨by omega, h4⟩
theorem Qm6 (s : Pm.Store) (x : List (List UInt8)) (i : Int) : Pl.Qaf (Pl.entL s x i) = true := by
 unfold Pl.entL;rcases Qcs s ((Pl.Qac x).getD i.toNat Pl.zn) with h | h
 ·exact h.2
 ·rw [h]; rfl
theorem QmG (s : Pm.Store) (x : List (List UInt8)) : Pl.Qbm (Pl.dirM s x x.length) (Pl.entL s x) := fun n hn => by
 refine ⟨Qm6 s x n, ?_⟩;obtain ⟨j, rfl⟩ := Int.eq_ofNat_of_zero_le hn;rw [QjT]
 by_cases h : Pl.Qad (Pl.Qac x) j = 2
 ·have := Qce (ns := Pl.Qac x) (k := j) (by omega)
  rw [List.length_map] at this;rw [if_pos ⟨this, h⟩]; exact .inl rfl
 ·rw [if_neg (fun g => h g.2)]
  refine .inr ⟨rfl, ?_⟩;unfold Pl.entL;rw [Int.toNat_natCast];rcases Qcs s ((Pl.Qac x).getD j Pl.zn) with h2 | h2
  ·have := QfV h2.1
   exfalso; apply h; unfold Pl.Qad; rw [this]; rfl
  ·rw [h2]
noncomputable def Pl.Qaq (s : Pm.Store) (x : List (List UInt8)) (k : Nat) : Bool :=
 decide (Pl.Qad (Pl.Qac x) k = 0) || (decide (Pl.Qad (Pl.Qac x) k = 1) && Pl.Qay s ((Pl.Qac x).getD k Pl.zn)) || (decide (Pl.Qad (Pl.Qac x) k = 2) && (Pl.ents s ((Pl.Qac x).getD k Pl.zn)).2)
noncomputable def Pl.QaL (s : Pm.Store) (t : Pl.Tree) : Bool := Pl.Qa5 s t && decide (Pl.Qad (Pl.Qac (Pl.Qaa s t)) 0 = 2) && (List.range (Pl.Qaa s t).length).all (Pl.Qaq s (Pl.Qaa s t))
noncomputable def Pl.chF (s : Pm.Store) (x : List (List UInt8)) : Nat -> Option (List Nat) := Gr.chOf (Pl.enF (Pl.Qac x) (Pl.ents s))
noncomputable def Pl.Qba (s : Pm.Store) (x : List (List UInt8)) : Bool := Pl.Qbl (Pl.Qad (Pl.Qac x)) (Pl.chF s x) (Pl.Qa1 (Pl.Qac x)) x.length
noncomputable def Pl.Qbi (s : Pm.Store) (t : Pl.Tree) : D :=
 if Pl.QaL s t then .tup [.pd (rFiles s t (Pl.Qaa s t) (Pl.dirM s (Pl.Qaa s t) (Pl.Qaa s t).length)), dB (Pl.Qba s (Pl.Qaa s t))] else .tup [.v (.pointer none), dB false]
theorem QmQ (s : Pm.Store) (x : List (List UInt8)) (k : Nat) : (Pl.chF s x k).getD [] = (Pl.entL s x (k : Nat)).map fun e => e.2.toNat := by
 unfold Pl.chF Gr.chOf Pl.enF Pl.entL;rw [Int.toNat_natCast];rcases Qcs s ((Pl.Qac x).getD k Pl.zn) with h | h
 ·rw [if_pos h.1]; simp
 ·rw [h]; simp
theorem Qj0 {s : Pm.Store} {t : Pl.Tree} (h : Pl.Qa5 s t = true) : Pl.TxOk (Pl.Qaa s t) /\ (Pl.Qaa s t).length <= 16 /\ ∀ k, Pl.Qad (Pl.Qac (Pl.Qaa s t)) k ≠ 0 -> Pl.Qap ((Pl.Qac (Pl.Qaa s t)).getD k Pl.zn) = true := by
 unfold Pl.Qa5 at h;rw [Bool.and_eq_true, List.all_eq_true] at h;have ht := QbS h.1
 have hN : ∀ y ∈ Pl.Qaa s t, y = [] ∨ Pl.Qap (Pl.ng y).1 = true := fun y hy => by
  have := h.2 y hy;rw [Bool.or_eq_true, Bool.and_eq_true] at this;rcases this with h | h
  ·exact .inl (by simpa using h)
  ·rcases QjD y with g | g
   ·exact .inr g.1.1
   ·rw [g] at h; cases h.1
 refine ⟨fun y hy => (hN y hy).imp id fun g => Qds g, ?_, fun k hk => ?_⟩
 ·rw [texts_len s ht]; have := ht.manyHi; omega
 ·rw [QcB]
  have hlt : k < (Pl.Qaa s t).length := by
   have := Qce hk; rwa [List.length_map] at this
  have hm : (Pl.Qaa s t).getD k [] ∈ Pl.Qaa s t := by
   rw [List.getD_eq_getElem?_getD, List.getElem?_eq_getElem hlt]; exact List.getElem_mem hlt
  rcases hN _ hm with g | g
  ·exfalso; apply hk; unfold Pl.Qad; rw [QcB, g, QjC]; rfl
  ·exact g
theorem Qmv (s : Pm.Store) (hg : Pl.Good s) (n : Pl.Node) : (Pl.Qbb s n).1.length <= 1000000 := by
 unfold Pl.Qbb;split
 ·rename_i h
  rw [Bool.and_eq_true] at h;unfold Pl.blob;split
  ·have ht := QbS h.1
   have := Qmx (m := 128) (l := Pl.Qaa s n.tree) fun y hy => by
    unfold Pl.Qaa at hy;obtain ⟨p, _, rfl⟩ := List.mem_map.1 hy;exact Qgq s hg p
   have h2 := texts_len s ht;have h3 := ht.manyHi;have : (Pl.Qaa s n.tree).length <= 1000 := by omega
   have := Nat.mul_le_mul_right 128 this;simp only; omega
  ·simp
 ·simp
theorem QkT {s : Pm.Store} {n : Pl.Node} (h1 : Pl.Qap n = true) (h2 : n.kind = 2) : Pl.ents s n = if (Pl.Qbb s n).2 = true then Pl.eg (Pl.Qbb s n).1 else ([], false) := by
 unfold Pl.ents Pl.Qbb;rw [h1, h2];cases hA : Pl.Qae s n.tree <;> cases hB : (Pl.blob (Pl.Qaa s n.tree)).2 <;> simp
theorem Qlb (s : Pm.Store) (hg : Pl.Good s) (htx : 0 <= s.2.2.1) (t : Pl.Tree) (hT : ∀ n, Pl.Qap n = true -> n.kind = 1 -> Pure Tryz.prog 263 [.pd (rSt s), dNode n] (.tup [.any, dB (Pl.Qay s n)])) :
 Pure Tryz.prog 192 [.pd (rSt s), dTree t] (Pl.Qbi s t) := by
 have c1 := bNodes s hg htx t;have hd : Hid (Pl.Qbi s t = if Pl.QaL s t then .tup [.pd (rFiles s t (Pl.Qaa s t) (Pl.dirM s (Pl.Qaa s t) (Pl.Qaa s t).length)), dB (Pl.Qba s (Pl.Qaa s t))] else .tup [.v (.pointer none), dB false]) := Pm.hid rfl;have hr : Hid (Pl.QaL s t = (Pl.Qa5 s t && decide (Pl.Qad (Pl.Qac (Pl.Qaa s t)) 0 = 2) && (List.range (Pl.Qaa s t).length).all (Pl.Qaq s (Pl.Qaa s t)))) := Pm.hid rfl;generalize Pl.Qbi s t = res at *
 cases htab : Pl.Qa5 s t
 ·rw [htab] at c1 hr
  have hbad := Pm.hid (hd.out.trans (if_neg (by rw [hr.out]; simp)));simp only [Bool.false_eq_true, if_false] at c1
  (refine Qbv Tryz.func192 rfl Tryz.ntmps192 Tryz.results192 rfl ?_; simp only [parE, Nat.zero_add, Nat.reduceAdd])
  (refine Qbt (Qbq ?_); (repeat (first | refine e1 (k := ?_) | refine e2 (k := ?_) | fail)); refine Qbr ?_)
  refine Qbu 0 (h := ?_)
  (repeat' (first | refine e1 (k := ?_) | refine stepS (Qbs Tryz.call226 c1 rfl) (k := ?_) | refine Qbr ?_ | refine Qbt ?_ | refine Qbq ?_ | refine Qbz (ht := ?_) | fail))
  refine Qb0 (hx := ?_);rw [hbad.out]
 obtain ⟨hx, hx16, hnok⟩ := Qj0 htab;rw [htab] at c1 hr;simp only [if_true] at c1;generalize Pl.Qaa s t = x at *
 have c0 := bNodeAt x 0 (by omega);rw [show Pl.atN x 0 = _ from QoE hx 0] at c0
 by_cases h02 : Pl.Qad (Pl.Qac x) 0 = 2
 rotate_left
 ·have hbad := Pm.hid (hd.out.trans (if_neg (by rw [hr.out, decide_eq_false h02]; simp)))
  by_cases h00 : Pl.Qad (Pl.Qac x) 0 = 0
  ·rw [if_pos h00] at c0
   simp only at c0;clear hd hr hT
   (refine Qbv Tryz.func192 rfl Tryz.ntmps192 Tryz.results192 rfl ?_; simp only [parE, Nat.zero_add, Nat.reduceAdd])
   (refine Qbt (Qbq ?_); (repeat (first | refine e1 (k := ?_) | refine e2 (k := ?_) | fail)); refine Qbr ?_)
   refine Qbu 0 (h := ?_)
   (repeat' (first | refine e1 (k := ?_) | refine e0 (k := ?_) | refine stepS (Qbs Tryz.call226 c1 rfl) (k := ?_) | refine stepS (Qbs Tryz.call262 c0 rfl) (k := ?_) | refine stepS2 (Qc5) (k := ?_) | refine QbA (kk := ?_) | refine Qbr ?_ | refine Qbt ?_ | refine Qbq ?_ | refine Qbz (ht := ?_) | refine Qb1 (hf := ?_) | refine Qby ?_ | refine e2 (k := ?_) | fail))
   all_goals first
    |(refine Qb0 (hx := ?_)
      rw [hbad.out]; done)
  ·rw [if_neg h00] at c0
   have hk1 : ((Pl.Qac x).getD 0 Pl.zn).kind ≠ 2 := fun h => h02 (by unfold Pl.Qad; rw [h]; rfl)
   generalize (Pl.Qac x).getD 0 Pl.zn = N at *
   obtain ⟨kd, links, size, ⟨⟨p1, p2, p3, p4, p5⟩, depth, many⟩⟩ := N;simp only at c0 hk1;have hk2 : (kd == 2) = false := by simpa using hk1
   clear hd hr hT
   (refine Qbv Tryz.func192 rfl Tryz.ntmps192 Tryz.results192 rfl ?_; simp only [parE, Nat.zero_add, Nat.reduceAdd])
   (refine Qbt (Qbq ?_); (repeat (first | refine e1 (k := ?_) | refine e2 (k := ?_) | fail)); refine Qbr ?_)
   refine Qbu 0 (h := ?_)
   (repeat' (first | refine e1 (k := ?_) | refine stepS (Qbs Tryz.call226 c1 rfl) (k := ?_) | refine stepS (Qbs Tryz.call262 c0 rfl) (k := ?_) | refine stepS2 (Qc5) (k := ?_) | refine QbA (kk := ?_) | refine Qbr ?_ | refine Qbt ?_ | refine Qbq ?_ | refine Qb1 (hf := ?_) | refine Qb2 (ht := fun q => ?_) (hf := fun q => ?_) | refine Qby ?_ | refine Qbx ?_ | refine e2 (k := ?_) | fail))
   all_goals first
    |(refine Qb0 (hx := ?_)
      rw [hbad.out]; done)
    |(exfalso; simp_all; done)
 rw [if_neg (by omega)] at c0
 have hk0 : ((Pl.Qac x).getD 0 Pl.zn).kind = 2 := by
  rcases QcA hx 0 with ⟨_, h⟩ | ⟨_, _, h⟩
  ·unfold Pl.Qad at h02; rw [h] at h02; cases h02
  ·have := h.kind; unfold Pl.Qad at h02; omega
 have hG : Hid ((List.range x.length).all (Pl.Qaq s x) = true -> res = .tup [.pd (rFiles s t x (Pl.dirM s x x.length)), dB (Pl.Qba s x)]) := Pm.hid fun h => hd.out.trans (if_pos (by rw [hr.out, decide_eq_true h02, h]; rfl))
 have hB : Hid ((List.range x.length).all (Pl.Qaq s x) = false -> res = .tup [.v (.pointer none), dB false]) := Pm.hid fun h => hd.out.trans (if_neg (by rw [hr.out, h]; simp))
 have c9 := bLinked s t x hx16 hx _ _ (QmG s x) (Pl.chF s x) (fun k => QmQ s x k);rw [show Pl.Qbl (Pl.Qad (Pl.Qac x)) (Pl.chF s x) (Pl.Qa1 (Pl.Qac x)) x.length = Pl.Qba s x from rfl] at c9;clear hd hr;generalize hN0 : (Pl.Qac x).getD 0 Pl.zn = N at c0 hk0;obtain ⟨kd, links, size, ⟨⟨p1, p2, p3, p4, p5⟩, depth, many⟩⟩ := N;simp only at c0 hk0;subst hk0;clear hN0
 (refine Qbv Tryz.func192 rfl Tryz.ntmps192 Tryz.results192 rfl ?_; simp only [parE, Nat.zero_add, Nat.reduceAdd])
 (refine Qbt (Qbq ?_); (repeat (first | refine e1 (k := ?_) | refine e2 (k := ?_) | fail)); refine Qbr ?_)
 refine Qbu 0 (h := ?_)
 (repeat' (first | refine e1 (k := ?_) | refine stepS (Qbs Tryz.call226 c1 rfl) (k := ?_) | refine stepS (Qbs Tryz.call262 c0 rfl) (k := ?_) | refine stepS2 (Qc5) (k := ?_) | refine QbA (kk := ?_) | refine Qbr ?_ | refine Qbt ?_ | refine Qbq ?_ | refine Qb1 (hf := ?_) | refine Qby ?_ | refine Qbx ?_ | refine e2 (k := ?_) | fail))
 refine QbC (fun mm st => ∃ k : Nat, k <= x.length /\ mm = x.length - k /\ Hid ((List.range k).all (Pl.Qaq s x) = true) /\
  st = ⟨98, [(45, .d (tNds x)), (46, .d (dI x.length)), (47, .d (dI k)), (0, .d (.pd (rSt s))), (8, .ptr 2 0 0)],
   [.row 1 [], .mp 0 (imap (Pl.dirM s x k)), .row 0 [.d (.pd (rSt s)), .d (dI t.root.pat), .d (dI t.root.birth), .d (dI t.root.size), .d (dI t.root.sum), .d (dI t.root.level), .d (dI t.depth), .d (dI t.many), .d (tNds x), .mp 1 0]]⟩)
  [45, 46, 47, 0, 8] 3 x.length ⟨0, by omega, rfl, Pm.hid rfl, by simp [keepE, go_sem, Pl.dirM, imap]⟩ (round := ?_)
 rintro mm st ⟨k, hk, rfl, hA, rfl⟩
 (repeat (first | refine e1 (k := ?_) | refine Qbr ?_ | refine Qbt ?_ | refine Qbq ?_ | fail))
 cases q3 : decide ((k : Int) < (x.length : Int))
 ·have hk3 : k = x.length := by simp at q3; omega
  have hyes := Pm.hid (hG.out (by rw [<- hk3]; exact hA.out));clear hG hB hA;rw [<- hk3] at hyes c9;refine Qbu 1 (h := ?_);refine Qbu 2 (h := ?_)
  (repeat' (first | refine e1 (k := ?_) | refine stepS (Qbs Tryz.call266 c9 rfl) (k := ?_) | refine Qbr ?_ | refine Qbt ?_ | refine Qbq ?_ | refine Qb1 (hf := ?_) | refine Qb3 ?_ | fail))
  refine Qb0 (hx := ?_);rw [hyes.out]
 have hk2 : k < x.length := by simp at q3; omega
 obtain ⟨y, hy⟩ : ∃ y, x[k]? = some y := ⟨_, List.getElem?_eq_getElem hk2⟩;have hyd : x.getD k [] = y := by rw [List.getD_eq_getElem?_getD, hy]; rfl
 have hr := QbB (f := fun x => [Pl.ndD x]) hy;have T : Hid (Pl.Qaq s x k = true -> (List.range (k + 1)).all (Pl.Qaq s x) = true) := fun h => Pl.QbL (p := Pl.Qaq s x) hA.out h
 have F : Hid (Pl.Qaq s x k = false -> res = .tup [.v (.pointer none), dB false]) := fun h => hB.out (Pl.QbH (p := Pl.Qaq s x) hk2 h)
 have hdm : Hid (Pl.dirM s x (k + 1) = if Pl.Qad (Pl.Qac x) k = 2 then mset (Pl.dirM s x k) (k : Nat) (tEnts (Pl.entL s x (k : Nat))) else Pl.dirM s x k) := Pm.hid (by conv => lhs; unfold Pl.dirM);have hgd : Hid (Pl.Qaq s x k = (decide (Pl.Qad (Pl.Qac x) k = 0) || (decide (Pl.Qad (Pl.Qac x) k = 1) && Pl.Qay s ((Pl.Qac x).getD k Pl.zn)) || (decide (Pl.Qad (Pl.Qac x) k = 2) && (Pl.ents s ((Pl.Qac x).getD k Pl.zn)).2))) := Pm.hid rfl;have hnx := QcB (x := x) k;rw [hyd] at hnx;clear hG hB hA c0 c1 c9;rcases QcA hx k with ⟨h1, h2⟩ | ⟨h1, _, hnb⟩
 ·rw [hyd] at h1
  have e : Pl.ndD y = .v (.pointer none) := by unfold Pl.ndD; rw [if_pos h1]
  rw [e] at hr;have hk0 : Pl.Qad (Pl.Qac x) k = 0 := by unfold Pl.Qad; rw [h2]; rfl
  have ht := Pm.hid (T.out (by rw [hgd.out, hk0]; rfl));have hdm2 : Hid (Pl.dirM s x (k + 1) = Pl.dirM s x k) := Pm.hid (by rw [hdm.out, if_neg (by omega)]);clear T F hdm hgd hnx hyd hy hx hT hnok
  (repeat' (first | refine e1 (k := ?_) | refine stepS (Qbw Ty.h rfl Ty.h rfl rfl rfl (by omega) hr) (k := ?_) | refine stepS (QfH Tryz.underlying261 rfl) (k := ?_) | refine stepS (Qb6 rfl rfl (by omega)) (k := ?_) | refine Qbr ?_ | refine Qb4 ?_ | refine Qbt ?_ | refine Qbq ?_ | refine Qbz (ht := ?_) | refine Qby ?_ | refine Qbx ?_ | refine Qb3 ?_ | fail))
  all_goals first
   |(exfalso; simp at *; done)
   |(refine Qb8 (x.length - (k + 1)) (by omega) ⟨k + 1, by omega, rfl, ht, ?_⟩
     rw [hdm2.out]
     simp [keepE, go_sem]; done)
 rw [hyd] at h1;have e : Pl.ndD y = .pd (rNode (Pl.ng y).1) := by unfold Pl.ndD; rw [if_neg h1]
 rw [e] at hr;have hkN : Pl.Qad (Pl.Qac x) k = (Pl.ng y).1.kind.toNat := by unfold Pl.Qad; rw [hnx]
 have hne0 : Pl.Qad (Pl.Qac x) k ≠ 0 := by rw [hkN, <- hnx]; have := hnb.kind; omega
 have hno := hnok k hne0;have hel : Hid (Pl.entL s x (k : Nat) = (Pl.ents s (Pl.ng y).1).1) := Pm.hid (by unfold Pl.entL; rw [Int.toNat_natCast, hnx]);rw [hnx] at hnb hgd hno;have hkd := hnb.kind;clear hnx hyd hy e hnok hnb;generalize (Pl.ng y).1 = N at *
 rcases hkd with hkd | hkd
 ·have hk1 : Pl.Qad (Pl.Qac x) k = 1 := by rw [hkN, hkd]; rfl
  have c2 := hT N hno hkd;have hgf : Pl.Qaq s x k = Pl.Qay s N := by rw [hgd.out, hk1]; simp
  rw [hgf] at T F;have hdm2 : Hid (Pl.dirM s x (k + 1) = Pl.dirM s x k) := Pm.hid (by rw [hdm.out, if_neg (by omega)]);clear hgf hgd hdm hel hT hx;generalize Pl.Qay s N = fo at *
  obtain ⟨kd, links, size, ⟨⟨p1, p2, p3, p4, p5⟩, depth, many⟩⟩ := N;simp only at hkd;subst hkd
  (repeat' (first | refine e1 (k := ?_) | refine stepS (Qbw Ty.h rfl Ty.h rfl rfl rfl (by omega) hr) (k := ?_) | refine stepS (QdF Tryz.underlying261 rfl) (k := ?_) | refine stepS (QbW rfl) (k := ?_) | refine stepS (Qbs Tryz.call263 c2 rfl) (k := ?_) | refine stepS (Qb6 rfl rfl (by omega)) (k := ?_) | refine Qbr ?_ | refine Qb4 ?_ | refine Qbt ?_ | refine Qbq ?_ | refine Qbz (ht := ?_) | refine Qb1 (hf := ?_) | refine Qb2 (ht := fun q => ?_) (hf := fun q => ?_) | refine Qby ?_ | refine Qc0 ?_ | refine Qbx ?_ | refine Qb3 ?_ | fail))
  all_goals first
   |(exfalso; simp at *; done)
   |(refine Qb8 (x.length - (k + 1)) (by omega) ⟨k + 1, by omega, rfl, Pm.hid (T.out (by simp_all)), ?_⟩
     rw [hdm2.out]
     simp [keepE, go_sem]; done)
   |(refine Qb0 (hx := ?_)
     rw [F.out (by simp_all)]; done)
 ·have hk2' : Pl.Qad (Pl.Qac x) k = 2 := by rw [hkN, hkd]; rfl
  have c3 := Qjt s hg htx N;have c4 := Qju (Pl.Qbb s N).1 (Qmv s hg N);have hgf : Pl.Qaq s x k = (Pl.ents s N).2 := by rw [hgd.out, hk2']; simp
  rw [hgf] at T F;have hen := QkT (s := s) hno hkd;have hdm2 : Hid (Pl.dirM s x (k + 1) = mset (Pl.dirM s x k) (k : Nat) (tEnts (Pl.ents s N).1)) := Pm.hid (by rw [hdm.out, if_pos hk2', hel.out]);rw [hen] at T F hdm2;clear hgf hgd hdm hel hT hx hen;generalize Pl.Qbb s N = ft at *
  obtain ⟨ftext, fine⟩ := ft;simp only at c3 c4 T F hdm2;generalize Pl.eg ftext = eg at *
  obtain ⟨list, good⟩ := eg;simp only at c4 T F hdm2;obtain ⟨kd, links, size, ⟨⟨p1, p2, p3, p4, p5⟩, depth, many⟩⟩ := N;simp only at hkd;subst hkd;cases fine
  all_goals simp only [Bool.false_eq_true, if_false, if_true] at T F hdm2
  all_goals
   (repeat' (first | refine e1 (k := ?_) | refine e0 (k := ?_) | refine stepS (Qbw Ty.h rfl Ty.h rfl rfl rfl (by omega) hr) (k := ?_) | refine stepS (QdF Tryz.underlying261 rfl) (k := ?_) | refine stepS (QbW rfl) (k := ?_) | refine stepS (Qfq rfl rfl) (k := ?_) | refine stepS (Qbs Tryz.call264 c3 rfl) (k := ?_) | refine stepS (Qbs Tryz.call265 c4 rfl) (k := ?_) | refine (QeM Tryz.underlying263 Tryz.underlying3 (kk := ?_)) | refine stepS (Qb6 rfl rfl (by omega)) (k := ?_) | refine Qbr ?_ | refine Qb4 ?_ | refine QbF ?_ | refine Qbt ?_ | refine Qbq ?_ | refine Qbz (ht := ?_) | refine Qb1 (hf := ?_) | refine Qb2 (ht := fun q => ?_) (hf := fun q => ?_) | refine Qby ?_ | refine Qbx ?_ | fail))
  all_goals first
   |(exfalso; simp at *; done)
   |(refine Qb8 (x.length - (k + 1)) (by omega) ⟨k + 1, by omega, rfl, Pm.hid (T.out (by simp_all)), ?_⟩
     rw [hdm2.out]
     simp [keepE, go_sem]; done)
   |(refine Qb0 (hx := ?_)
     rw [F.out (by simp_all)]; done)
end Aw
end Go.Proofs.YtdjkdcokjoiokaaGreatDoor
namespace Go.Proofs.YtdjkdcokjoiokaaGreatDoor
open Go.RowKit
namespace Aw
def Pl.QaJ (out : List Nat) (k : Nat) : List Nat := if k ∈ out then out else out ++ [k]
def Pl.Qao (out L : List Nat) : List Nat := L.foldl Pl.QaJ out
theorem Qdp (out L : List Nat) (k : Nat) : Pl.Qao out (k :: L) = Pl.Qao (Pl.QaJ out k) L := rfl
theorem Qkp (out L M : List Nat) : Pl.Qao out (L ++ M) = Pl.Qao (Pl.Qao out L) M := List.foldl_append ..
theorem Qfy (out : List Nat) (k : Nat) : out.length <= (Pl.QaJ out k).length /\ (Pl.QaJ out k).length <= out.length + 1 /\ ((Pl.QaJ out k).length = out.length -> Pl.QaJ out k = out) := by
 unfold Pl.QaJ;split
 ·exact ⟨Nat.le_refl _, Nat.le_succ _, fun _ => rfl⟩
 ·refine ⟨by simp, by simp, fun h => by simp at h⟩
theorem QdV : ∀ (L out : List Nat), out.length <= (Pl.Qao out L).length /\ (Pl.Qao out L).length <= out.length + L.length /\ ((Pl.Qao out L).length = out.length -> Pl.Qao out L = out)
 |[], out => ⟨Nat.le_refl _, Nat.le_refl _, fun _ => rfl⟩
 |k :: L, out => by
  obtain ⟨h1, h2, h3⟩ := Qfy out k;obtain ⟨g1, g2, g3⟩ := QdV L (Pl.QaJ out k);rw [Qdp];refine ⟨by omega, by simp only [List.length_cons]; omega, fun h => ?_⟩;rw [g3 (by omega), h3 (by omega)]
theorem Ql1 (out : List Nat) (k j : Nat) : j ∈ Pl.QaJ out k ↔ j ∈ out ∨ j = k := by
 unfold Pl.QaJ;split
 ·rename_i h; exact ⟨.inl, fun h2 => h2.elim id (by rintro rfl; exact h)⟩
 ·simp
theorem QeO : ∀ (L out : List Nat) (j : Nat), j ∈ Pl.Qao out L ↔ j ∈ out ∨ j ∈ L
 |[], out, j => by simp [Pl.Qao]
 |k :: L, out, j => by rw [Qdp, QeO L, Ql1, List.mem_cons, or_assoc]
theorem QiD {out : List Nat} (h : out.Nodup) (k : Nat) : (Pl.QaJ out k).Nodup := by
 unfold Pl.QaJ;split
 ·exact h
 ·rename_i hk
  rw [List.nodup_append];exact ⟨h, by simp, fun a ha b hb => by rw [List.mem_singleton.1 hb]; rintro rfl; exact hk ha⟩
theorem Qfb : ∀ {L out : List Nat}, out.Nodup -> (Pl.Qao out L).Nodup
 |[], _, h => h
 |k :: L, _, h => by rw [Qdp]; exact Qfb (QiD h k)
noncomputable def Pl.Qbh (out : List Nat) : List (Int × D) := out.foldl (fun m k => mset m (k : Nat) (dB true)) []
theorem Qkz (out : List Nat) (k : Nat) : Pl.Qbh (out ++ [k]) = mset (Pl.Qbh out) (k : Nat) (dB true) := by
 unfold Pl.Qbh; rw [List.foldl_append]; rfl
theorem seenG : ∀ (out : List Nat) (m : List (Int × D)) (k : Nat), mget (out.foldl (fun m k => mset m (k : Nat) (dB true)) m) (k : Int) = if k ∈ out then some (dB true) else mget m (k : Int)
 |[], m, k => by simp
 |j :: out, m, k => by
  rw [List.foldl_cons, seenG out]
  by_cases hk : k ∈ out
  ·rw [if_pos hk, if_pos (List.mem_cons_of_mem _ hk)]
  ·rw [if_neg hk]
   by_cases hj : j = k
   ·subst hj; rw [Qcu, if_pos List.mem_cons_self]
   ·rw [QcS (by omega), if_neg (fun h => by rcases List.mem_cons.1 h with h | h; exact hj h.symm; exact hk h)]
theorem QlH (out : List Nat) (k : Nat) : (mget (Pl.Qbh out) (k : Int)).getD (.v (.bool false)) = dB (decide (k ∈ out)) := by
 unfold Pl.Qbh;rw [seenG]
 by_cases h : k ∈ out
 ·rw [if_pos h, decide_eq_true h]; rfl
 ·rw [if_neg h, decide_eq_false h]; simp [mget]
theorem Qm1 {s : Pm.Store} {x : List (List UInt8)} {k : Nat} {L : List Nat} (h : Gr.FD (Pl.Qad (Pl.Qac x)) (Pl.chF s x) [k] L) :
 ∃ L1, L = k :: L1 /\ Gr.FD (Pl.Qad (Pl.Qac x)) (Pl.chF s x) ((Pl.entL s x (k : Nat)).map fun e => e.2.toNat) L1 /\ Pl.Qad (Pl.Qac x) k ≠ 0 := by
 cases h with
 |file hk h =>
  cases h;refine ⟨[], rfl, ?_, by omega⟩
  have : Pl.entL s x (k : Nat) = [] := by
   unfold Pl.entL;rw [Int.toNat_natCast];rcases Qcs s ((Pl.Qac x).getD k Pl.zn) with h2 | h2
   ·have := QfV h2.1
    exfalso; unfold Pl.Qad at hk; rw [this] at hk; cases hk
   ·rw [h2]
  rw [this]; exact .nil
 |dir hk hc h1 h2 =>
  cases h2;refine ⟨_, by rw [List.append_nil], ?_, by omega⟩;have := QmQ s x k;rw [hc] at this;simp only [Option.getD_some] at this;rw [<- this]; exact h1
theorem Qm3 {kind : Nat -> Nat} {ch : Nat -> Option (List Nat)} {k : Nat} {es L : List Nat} (h : Gr.FD kind ch (k :: es) L) : ∃ M R, L = M ++ R /\ Gr.FD kind ch [k] M /\ Gr.FD kind ch es R := by
 cases h with
 |file hk h => exact ⟨[k], _, rfl, .file hk .nil, h⟩
 |dir hk hc h1 h2 => exact ⟨_, _, rfl, by have := Gr.FD.dir hk hc h1 .nil; simpa using this, h2⟩
end Aw
end Go.Proofs.YtdjkdcokjoiokaaGreatDoor
namespace Go.Proofs.YtdjkdcokjoiokaaGreatDoor
open Go.RowKit
namespace Aw
attribute [local irreducible] ASeq ADraw AWP Loc mget mset AStep Fg.PlanF Fg.Flts
theorem QmY : Does Tryz.prog 174 [.d (.v (.slice none 0 0))] [] [] (.osl 0 0 0 0) [.arr 0 1 9 []] := by
 refine Qca Tryz.func174 rfl Tryz.ntmps174 Tryz.results174 rfl rfl ?hpin (fun gvs => ?_)
 case hpin => intro i C hC; simp at hC
 simp only [parA, gslot, Nat.zero_add, Nat.reduceAdd]
 (repeat' (first | refine e1 (k := ?_) | refine stepS (QkE Tryz.underlying35 rfl) (k := ?_) | refine Qbr ?_ | refine Qbt ?_ | refine Qbq ?_ | refine Qbz (ht := ?_) | fail))
 refine QeZ 2 1 9 (h := ?_);refine QcF [2, 1000000] 1 (H' := [.arr 0 1 9 []]) (hH := fun R hR => hR) (h := ?_);exact QcW (hx := rfl) (hH := rfl)
theorem QmX (l : List (List UInt8)) (hl : l.length <= 1000000) (hn : l ≠ []) : Does Tryz.prog 174 [.d (tStrs l)] [] [] (.osl 0 1 0 l.length) [.arr 1 1 9 (l.map fun s => [dS s])] := by
 refine Qca Tryz.func174 rfl Tryz.ntmps174 Tryz.results174 rfl rfl ?hpin (fun gvs => ?_)
 case hpin => intro i C hC; simp at hC
 simp only [parA, gslot, Nat.zero_add, Nat.reduceAdd];obtain ⟨a, l, rfl⟩ := List.exists_cons_of_ne_nil hn
 (repeat' (first | refine e1 (k := ?_) | refine stepS (QiS Tryz.underlying35 rfl) (k := ?_) | refine (Qd5 Ty.h rfl Ty.h (hcell := ?_) (hb := ?_) (kk := ?_)) | refine stepS2 (QbD Ty.h rfl Ty.h) (k := ?_) | refine Qbr ?_ | refine Qbt ?_ | refine Qbq ?_ | refine Qb1 (hf := ?_) | refine Qby ?_ | fail))
 ·intro r hr d hd
  obtain ⟨y, _, rfl⟩ := List.mem_map.1 hr;obtain rfl := List.mem_singleton.1 hd;rfl
 ·show (0 + ((a :: l).map fun s => [dS s]).length) * 16 <= 140737488355328
  rw [List.length_map]; omega
 ·refine QcF [2, 1000000] 1 (H' := [.arr 1 1 9 ((a :: l).map fun s => [dS s])]) (hH := fun R hR => hR) (h := ?_)
  exact QcW (hx := rfl) (hH := rfl)
noncomputable def Pl.vb (x : List (List UInt8)) (out : List Nat) : List Blk :=
 [.row 0 [.mp 2 0], .row 0 [.osl 3 out.length 0 out.length], .mp 0 (imap (Pl.Qbh out)), .arr out.length 10 105 (out.map fun k => rNode ((Pl.Qac x).getD k Pl.zn))]
def Pl.vg (out : List Nat) : List AV := [.ptr 0 0 0, .ptr 1 0 0, .mp 2 0, .osl 3 out.length 0 out.length]
theorem Qo5 (x : List (List UInt8)) (out out' : List Nat) (h1 : out.length <= out'.length) (h2 : out'.length = out.length -> out' = out) : ∀ i C, (Pl.vb x out)[i]? = some C -> ∃ C', (Pl.vb x out')[i]? = some C' /\ pin1 (Pl.vg out) i C C' := by
 intro i C hC
 match i, hC with
 |0, hC => obtain rfl := Option.some.inj hC; exact ⟨_, rfl, .inr ⟨rfl, 0, by simp [Pl.vg]⟩⟩
 |1, hC => obtain rfl := Option.some.inj hC; exact ⟨_, rfl, .inr ⟨rfl, 0, by simp [Pl.vg]⟩⟩
 |2, hC => obtain rfl := Option.some.inj hC; exact ⟨_, rfl, .inr ⟨rfl, by simp [Pl.vg]⟩⟩
 |3, hC =>
  obtain rfl := Option.some.inj hC;refine ⟨_, rfl, rfl, rfl, ?_⟩;rcases Nat.eq_or_lt_of_le h1 with e | e
  ·exact .inr ⟨e, by simp [e], 0, out.length, by simp [Pl.vg]⟩
  ·exact .inl e
theorem bVisit (s : Pm.Store) (t : Pl.Tree) (x : List (List UInt8)) (hx : Pl.TxOk x) (m : List (Int × D)) (p : List UInt8) (out : List Nat) (ho : out.length <= 1000000) (k : Nat) (hk : Pl.Qad (Pl.Qac x) k ≠ 0) :
 Does Tryz.prog 195 [.d (.agg [dS p, dI k]), .ptr 0 0 0, .ptr 1 0 0, .d (.pd [.pd (rFiles s t x m)])] (Pl.vb x out) (Pl.vg out) (.tup []) (Pl.vb x (Pl.QaJ out k)) := by
 have hvl := Qfy out k;refine Qca Tryz.func195 rfl Tryz.ntmps195 Tryz.results195 rfl rfl ?hpin (fun gvs => ?_)
 case hpin => exact Qo5 x out _ hvl.1 hvl.2.2
 simp only [parA, gslot, Nat.zero_add, Nat.reduceAdd, Pl.vb, Pl.vg];have hlook := QlH out k;refine Qd3 ?_
 (refine Qbt (Qbq ?_); (repeat (first | refine e2 (k := ?_) | fail)); refine Qbr ?_)
 refine Qbu 4 (h := ?_)
 by_cases hm : k ∈ out
 ·rw [decide_eq_true hm] at hlook
  have hv : Pl.QaJ out k = out := by unfold Pl.QaJ; rw [if_pos hm]
  rw [hv]
  (repeat' (first | refine e1 (k := ?_) | refine stepS (Qcn Tryz.underlying87 Tryz.underlying3 (z := .bool false) (by kernel_rfl) rfl rfl rfl hlook) (k := ?_) | refine Qbr ?_ | refine Qbt ?_ | refine Qbq ?_ | refine Qb1 (hf := ?_) | refine Qby ?_ | fail))
  all_goals first
   |(exfalso; simp at *; done)
   |exact Qd4 4 .normal (.inl rfl) rfl rfl rfl rfl rfl rfl rfl
 ·rw [decide_eq_false hm] at hlook
  have hv : Pl.QaJ out k = out ++ [k] := by unfold Pl.QaJ; rw [if_neg hm]
  rw [hv, Qkz, List.length_append, List.length_singleton]
  obtain ⟨hy1, hy2, hnb⟩ : x.getD k [] ≠ [] /\ k < x.length /\ NodeB ((Pl.Qac x).getD k Pl.zn) := by
   rcases QcA hx k with ⟨_, h⟩ | h
   ·exfalso; apply hk; unfold Pl.Qad; rw [h]; rfl
   ·exact h
  obtain ⟨y, hy⟩ : ∃ y, x[k]? = some y := ⟨_, List.getElem?_eq_getElem hy2⟩;have hyd : x.getD k [] = y := by rw [List.getD_eq_getElem?_getD, hy]; rfl
  have hr := QbB (f := fun x => [Pl.ndD x]) hy;have hnx := QcB (x := x) k;rw [hyd] at hnx hy1;have e : Pl.ndD y = .pd (rNode (Pl.ng y).1) := by unfold Pl.ndD; rw [if_neg hy1]
  rw [e] at hr;rw [List.map_append, List.map_cons, List.map_nil, hnx];generalize (Pl.ng y).1 = N at *
  clear hvl hx hk hm hv hnb hyd hy hnx hy1 e
  (repeat' (first | refine f1 (k := ?_) | refine e1 (k := ?_) | refine stepS (Qcn Tryz.underlying87 Tryz.underlying3 (z := .bool false) (by kernel_rfl) rfl rfl rfl hlook) (k := ?_) | refine (QeM Tryz.underlying87 Tryz.underlying3 (kk := ?_)) | refine stepD (QbW rfl) (k := ?_) | refine stepD (Qbw Ty.h rfl Ty.h rfl rfl rfl (by omega) hr) (k := ?_) | refine (Fg.awp_drawF (id := 3) [] [12, 13] follows_mixed (by kernel_rfl) (by kernel_rfl) (by kernel_rfl) ?_) | refine (Fg.aw_fltN ?_) | refine (Fg.aw_planFC (by rfl) (by kernel_rfl) rfl ?_) | refine (Fg.aw_planFN ?_) | refine Qok Ty.h rfl Ty.h (hb := ?_) (kk := ?_) | refine (Qdl (kk := ?_)) | refine stepD2 (QbD Ty.h rfl Ty.h) (k := ?_) | refine Qbr ?_ | refine Qcb ?_ | refine Qbt ?_ | refine Qbq ?_ | refine Qbz (ht := ?_) | fail))
  all_goals first
   |(exfalso; simp at *; done)
   |(show ((out.map fun k => rNode ((Pl.Qac x).getD k Pl.zn)).length + 1) * 80 <= 140737488355328
     rw [List.length_map]; omega)
   |(rw [List.length_map]
     exact Qd4 4 .normal (.inl rfl) rfl rfl rfl rfl rfl rfl rfl)
end Aw
end Go.Proofs.YtdjkdcokjoiokaaGreatDoor

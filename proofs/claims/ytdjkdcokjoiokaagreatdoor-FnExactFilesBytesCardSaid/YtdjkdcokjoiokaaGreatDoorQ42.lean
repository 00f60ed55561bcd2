/- Part 42 of the proof of bytes_card: contracts, walks, plain laws; no condition is assumed beyond those that a statement names. -/
import Derived.Test.YtdjkdcokjoiokaaGreatDoorQ40
import Derived.Test.YtdjkdcokjoiokaaGreatDoorQ41
set_option linter.all false
set_option maxRecDepth 100000
set_option maxHeartbeats 16000000
namespace Go.Proofs.YtdjkdcokjoiokaaGreatDoor
open Go.RowKit
namespace Aw
attribute [local irreducible] ASeq ADraw AWP Loc mget mset AStep Fg.PlanF Fg.Flts
noncomputable def Pl.nmD (names : List (List UInt8)) : D := if names = [] then .v (.slice none 0 0) else tStrs names
theorem Ql6 {P : Program} {f : FuncId} {c : Bool} {n : Nat} {x : D} (h : Pure P f [.sl c n []] x) : Pure P f [.v (.slice none 0 0)] x := by
 intro B σ S H w cargs hB hS hl hr
 refine h B σ S H w cargs hB hS hl fun i d v hd hv => ?_
 match i, hd with
 |0, hd =>
  obtain rfl := Option.some.inj hd
  have := hr 0 _ v rfl hv
  cases this
  exact .slnil _ _ _ _
theorem vg_mem (x : List (List UInt8)) (out : List Nat) (N : Nat) (Lx : List AV) (Hr : List Blk) (g : AV) (hg : g ∈ Pl.vg out) (ha : AV.ptr 0 0 0 ∈ Lx) (hb : AV.ptr 1 0 0 ∈ Lx) : g.ren (rho [0, 1, 2, 3] N) ∈ Lx ++ (Pl.vb x out ++ Hr).flatMap Blk.parts := by
 simp only [Pl.vg, List.mem_cons, List.not_mem_nil, or_false] at hg
 rcases hg with rfl | rfl | rfl | rfl
 ·exact List.mem_append_left _ ha
 ·exact List.mem_append_left _ hb
 ·exact List.mem_append_right _ (by simp [Pl.vb, Blk.parts, AV.parts, AV.ren, rho])
 ·exact List.mem_append_right _ (by simp [Pl.vb, Blk.parts, AV.parts, AV.ren, rho])
theorem bWalk (s : Pm.Store) (t : Pl.Tree) (x : List (List UInt8)) (hx : Pl.TxOk x) (m : List (Int × D)) (hm : Pl.Qbn m (Pl.entL s x)) : ∀ (n : Nat) (L : List Nat) (k : Nat) (names : List (List UInt8)) (out : List Nat), L.length <= n -> Gr.FD (Pl.Qad (Pl.Qac x)) (Pl.chF s x) [k] L ->
 names.length + L.length <= 1000 -> (∀ a ∈ names, a.length <= 4) -> out.length + L.length <= 1000000 ->
 Does Tryz.prog 194 [.d (.pd (rFiles s t x m)), .d (dI k), .d (Pl.nmD names), .fn (.func 195) [.ptr 0 0 0, .ptr 1 0 0, .d (.pd [.pd (rFiles s t x m)])]] (Pl.vb x out) (Pl.vg out) (.tup []) (Pl.vb x (Pl.Qan out L)) := by
 intro n
 induction n with
 |zero =>
  intro L k names out h1 h2
  obtain ⟨L1, rfl, _⟩ := Qmk h2
  simp at h1
 |succ n ih =>
  intro L k names out h1 h2 h3 h4 h5
  obtain ⟨L1, rfl, hfd, hk0⟩ := Qmk h2
  simp only [List.length_cons] at h1 h3 h5
  have hvl := QdL (k :: L1) out
  have dv := bVisit s t x hx m (Pl.Qbj names) out (by omega) k hk0
  obtain ⟨dn, g0, hdn, cp, hcl⟩ : ∃ (dn : D) (g0 : Nat), Pl.nmD names = dn /\ Pure Tryz.prog 269 [dn] (dS (Pl.Qbj names)) /\ Does Tryz.prog 174 [.d dn] [] [] (.osl 0 g0 0 names.length) [.arr g0 1 9 (names.map fun s => [dS s])] := by
   have cp := Qim names (by omega) (fun a ha => by have := h4 a ha; omega)
   by_cases hn : names = []
   ·subst hn
    exact ⟨_, 0, rfl, Ql6 cp, QmJ⟩
   ·exact ⟨tStrs names, 1, by unfold Pl.nmD; rw [if_neg hn], cp, QmI names (by omega) hn⟩
  rw [hdn]
  clear hdn
  obtain ⟨hE, hgt⟩ := hm (k : Nat) (by omega)
  have hle := Qfm out k
  refine Qc4 Tryz.func194 rfl Tryz.ntmps194 Tryz.results194 rfl rfl ?hpin (fun gvs => ?_)
  case hpin => exact Qom x out _ hvl.1 hvl.2.2
  simp only [parA, gslot, Nat.zero_add, Nat.reduceAdd]
  rw [Qdo]
  clear hvl h2 hk0
  have hvm := fun (out : List Nat) (N : Nat) => vg_mem x out N
  generalize Pl.QaJ out k = out1 at *
  have hg : mget m (k : Nat) = some (.sl true 2 ((Pl.entL s x (k : Nat)).map rEnt)) ∨ mget m (k : Nat) = none /\ (Pl.entL s x (k : Nat)).map rEnt = [] := by
   rcases hgt with h | ⟨h1, h2⟩
   ·exact .inl h
   ·exact .inr ⟨h1, by rw [h2]; rfl⟩
  generalize Pl.entL s x (k : Nat) = es at *
  generalize Pl.Qbj names = pt at *
  clear hgt
  have hes : es.length <= 12 := by have := hE; unfold Pl.Qae at this; rw [Bool.and_eq_true, decide_eq_true_eq] at this; exact this.2
  refine QjW ?_
  simp only [Pl.vb, Pl.vg] at dv ⊢
  (repeat' (first | refine e1 (k := ?_) | refine stepS (Qbt Tryz.call269 cp rfl) (k := ?_) | refine (QfS [0, 1, 2, 3] dv Tryz.call195 (hgl := fun g hg => hvm _ _ _ [] g hg (by simp [AV.parts, go_sem]) (by simp [AV.parts, go_sem])) (k := ?_)) | refine stepS (QbW rfl) (k := ?_) | refine stepS (QeZ Tryz.underlying263 Tryz.underlying3 (by kernel_rfl) rfl rfl hg) (k := ?_) | refine Qbs ?_ | refine Qbu ?_ | refine Qbr ?_ | refine Qby ?_ | fail))
  refine QbD (fun mm st => ∃ (j : Nat) (Ld Lr : List Nat), j <= es.length /\ mm = es.length - j /\ Hid (L1 = Ld ++ Lr) /\ Hid (Gr.FD (Pl.Qad (Pl.Qac x)) (Pl.chF s x) ((es.drop j).map fun e => e.2.toNat) Lr) /\
   st = ⟨39, [(21, .d (tEnts es)), (22, .d (dI es.length)), (23, .d (dI j)), (0, .d (.pd (rFiles s t x m))), (2, .d dn), (3, .fn (.func 195) [.ptr 0 0 0, .ptr 1 0 0, .d (.pd [.pd (rFiles s t x m)])]), (1000000, .gh [.ptr 0 0 0, .ptr 1 0 0, .mp 2 0, .osl 3 out.length 0 out.length] gvs)],
    [.row 0 [.mp 2 0], .row 0 [.osl 3 (Pl.Qan out1 Ld).length 0 (Pl.Qan out1 Ld).length], .mp 0 (imap (Pl.Qbh (Pl.Qan out1 Ld))), .arr (Pl.Qan out1 Ld).length 10 105 ((Pl.Qan out1 Ld).map fun k => rNode ((Pl.Qac x).getD k Pl.zn))]⟩)
   [21, 22, 23, 0, 2, 3, 1000000] 4 es.length ⟨0, [], L1, by omega, rfl, Pm.hid rfl, Pm.hid hfd, by simp [keepE, go_sem, Pl.Qan]⟩ (round := ?_)
  rintro mm st ⟨j, Ld, Lr, hj, rfl, hL, hF, rfl⟩
  (repeat (first | refine e1 (k := ?_) | refine Qbs ?_ | refine Qbu ?_ | refine Qbr ?_ | fail))
  cases q3 : decide ((j : Int) < (es.length : Int))
  ·have hje : j = es.length := by simp at q3; omega
   have hLd : L1 = Ld := by
    have h := hF.out
    rw [hje, List.drop_length] at h
    cases h
    rw [hL.out, List.append_nil]
   clear dv hcl cp ih hvm
   subst hLd
   (repeat' (first | refine Qb2 (hf := ?_) | refine Qb5 ?_ | refine x_then ?_ | refine x_block ?_ | fail))
   exact Qjp 4 .normal (.inl rfl) rfl rfl rfl rfl rfl rfl rfl
  have hj2 : j < es.length := by simp at q3; omega
  obtain ⟨e, he⟩ : ∃ e, es[j]? = some e := ⟨_, List.getElem?_eq_getElem hj2⟩
  have hr := QbC (f := rEnt) he
  have heb := ent_b hE e (List.mem_of_getElem? he)
  have hdr : es.drop j = e :: es.drop (j + 1) := by rw [List.drop_eq_getElem_cons hj2, (List.getElem?_eq_some_iff.1 he).2]
  have hF2 := hF.out
  rw [hdr, List.map_cons] at hF2
  obtain ⟨M, R, rfl, hM, hR⟩ := Qmm hF2
  obtain ⟨nmE, id⟩ := e
  simp only at heb hM
  obtain ⟨kid, rfl⟩ := Int.eq_ofNat_of_zero_le (show 0 <= id by omega)
  rw [Int.toNat_natCast] at hM
  have hLl := congrArg List.length hL.out
  simp only [List.length_append] at hLl
  have hvl := QdL Ld out1
  have h4' : ∀ a ∈ names ++ [nmE], a.length <= 4 := fun a ha => by
   rcases List.mem_append.1 ha with h | h
   ·exact h4 a h
   ·rw [List.mem_singleton.1 h]; exact QdS heb.1
  have ih2 := ih M kid (names ++ [nmE]) (Pl.Qan out1 Ld) (by omega) hM (by simp; omega) h4' (by omega)
  have hnm : Pl.nmD (names ++ [nmE]) = tStrs (names ++ [nmE]) := by unfold Pl.nmD; rw [if_neg (by simp)]
  rw [hnm, <- Qkg] at ih2
  replace hR := Pm.hid hR
  clear he hdr hF2 hF hM ih hnm dv cp hvl h4 h4'
  have hL2 : Hid (L1 = (Ld ++ M) ++ R) := Pm.hid (by rw [List.append_assoc]; exact hL.out)
  clear hL hLl hfd
  generalize ho3 : Pl.Qan out1 (Ld ++ M) = o3 at *
  generalize Pl.Qan out1 Ld = o2 at *
  simp only [Pl.vb, Pl.vg] at ih2
  (repeat' (first | refine e1 (k := ?_) | refine stepS (Qbx Ty.h rfl Ty.h rfl rfl rfl (by omega) hr) (k := ?_) | refine (Qbv 4 (h := Fg.awp_drawF (id := 4) [0, 1, 2, 3, 5, 6, 7, 9] [4, 8, 10] follows_mixed (by kernel_rfl) (by kernel_rfl) (by kernel_rfl) ?_)) | refine (Fg.aw_flt (k := ?_)) | refine (Fg.aw_fltL (hl := fun H => QjB Ty.h rfl Ty.h) (k := ?_)) | refine (Fg.aw_fltN ?_) | refine (Fg.aw_planFC (by rfl) (by kernel_rfl) rfl ?_) | refine (Fg.aw_planFN ?_) | refine (Qfj [] hcl Tryz.call174 (x' := .osl 5 g0 0 names.length) (hX := fun _ h => h) (H' := [.row 0 [.mp 2 0], .row 0 [.osl 3 o2.length 0 o2.length], .mp 0 (imap (Pl.Qbh o2)), .arr o2.length 10 105 (o2.map fun k => rNode ((Pl.Qac x).getD k Pl.zn)), .row 1 [], .arr g0 1 9 (names.map fun s => [dS s])]) (hH := fun _ h => h) (k := ?_)) | refine (QjY Ty.h rfl Ty.h (hcell := ?_) (hb := ?_) (kk := ?_)) | refine (QmM 5 [0, 1, 2, 3] ih2 Tryz.call194 (H' := [.row 0 [.mp 2 0], .row 0 [.osl 3 o3.length 0 o3.length], .mp 0 (imap (Pl.Qbh o3)), .arr o3.length 10 105 (o3.map fun k => rNode ((Pl.Qac x).getD k Pl.zn)), .row 1 [], .arr (g0 + 1 + 1) 1 9 []]) (hH := ?_) (hargs := ?_) (hgl := ?_) (k := ?_)) | refine stepS (Qb7 rfl rfl (by omega)) (k := ?_) | refine QbB (kk := ?_) | refine Qbs ?_ | refine Qb4 ?_ | refine Qb6 ?_ | refine Qca ?_ | refine Qbu ?_ | refine Qbr ?_ | refine Qb0 (ht := ?_) | refine Qbz ?_ | refine Qby ?_ | refine e2 (k := ?_) | fail))
  ·intro r hr d hd
   obtain rfl := List.mem_singleton.1 hr
   obtain rfl := List.mem_singleton.1 hd
   rfl
  ·show ((names.map fun s => [dS s]).length + 1) * 16 <= 140737488355328
   rw [List.length_map]; omega
  ·have htk : ((names.map fun s => [dS s]) ++ [[dS nmE]]).take ((names.map fun s => [dS s]).length + [[dS nmE]].length) = (names ++ [nmE]).map fun s => [dS s] := by
    rw [List.take_of_length_le (by simp), List.map_append]; rfl
   exact congrArg (fun r => [AV.d (.pd (rFiles s t x m)), AV.d (dI (kid : Nat)), AV.d (.sl true 1 r), AV.fn (.func 195) [.ptr 0 0 0, .ptr 1 0 0, .d (.pd [.pd (rFiles s t x m)])]]) htk
  ·exact fun g hg => hvm _ _ _ [_, _] g hg (by simp [AV.parts, go_sem]) (by simp [AV.parts, go_sem])
  ·intro R hR; exact hR
  skip
  all_goals first
   |(refine Qb9 (es.length - (j + 1)) (by omega) ⟨j + 1, Ld ++ M, R, by omega, rfl, hL2, hR, ?_⟩
     rw [ho3]
     simp [keepE, go_sem]; done)
noncomputable def Pl.Qaz (s : Pm.Store) (x : List (List UInt8)) (p : List UInt8) : Int := match Pl.Qag p with | none => -1 | some q => (Pl.QaX (Pl.entL s x) 0 q).getD (-1)
noncomputable abbrev Pl.rowsOf (x : List (List UInt8)) (M : List Nat) : List (List D) := M.map fun k => rNode ((Pl.Qac x).getD k Pl.zn)
theorem QgD {P : Program} {dst : Option Tmp} {ty : TypeId} {pos : String} {after : Array Edge} {gd : Option (Nat × Bool)} {env : List (Nat × AV)} {H : List Blk} {fn : Fn} {u1 u2 u3 : Operand} {a b c : AV} (h1 : aval env u1 = a) (h2 : aval env u2 = b) (h3 : aval env u3 = c) :
 Loc P ⟨dst, .makeFunc fn #[] #[u1, u2, u3], ty, pos, after, gd⟩ env H (.fn fn [a, b, c]) none := by
 subst h1; subst h2; subst h3; exact Qd8
theorem vg_mem0 (Lx : List AV) (Hx : List Blk) (g : AV) (hg : g ∈ Pl.vg []) (ha : AV.ptr 4 0 0 ∈ Lx) (hb : AV.ptr 1 0 0 ∈ Lx) (hc : AV.mp 3 0 ∈ Hx.flatMap Blk.parts) (hd : AV.osl 2 0 0 0 ∈ Hx.flatMap Blk.parts) (N : Nat) : g.ren (rho [4, 1, 3, 2] N) ∈ Lx ++ Hx.flatMap Blk.parts := by
 simp only [Pl.vg, List.mem_cons, List.not_mem_nil, or_false] at hg
 rcases hg with rfl | rfl | rfl | rfl
 ·exact List.mem_append_left _ ha
 ·exact List.mem_append_left _ hb
 ·exact List.mem_append_right _ hc
 ·exact List.mem_append_right _ hd
theorem QnQ (s : Pm.Store) (t : Pl.Tree) (x : List (List UInt8)) (m : List (Int × D)) (hm : Pl.Qbn m (Pl.entL s x)) (p : List UInt8) (hp : p.length <= 1000000000000) (hat : Pl.Qaz s x p < 0) :
 Pure Tryz.prog 120 [.pd (rFiles s t x m), dS p] (.tup [.sl true 10 [], dB false]) := by
 have c : Pure Tryz.prog 193 [.pd (rFiles s t x m), dS p] (dI (Pl.Qaz s x p)) := by unfold Pl.Qaz; exact bPath s t x m _ hm p hp
 generalize Pl.Qaz s x p = at_ at *
 (refine Qbw Tryz.func120 rfl Tryz.ntmps120 Tryz.results120 rfl ?_; simp only [parE, Nat.zero_add, Nat.reduceAdd])
 (refine Qbu (Qbr ?_); (repeat (first | refine e1 (k := ?_) | refine e2 (k := ?_) | fail)); refine Qbs ?_)
 refine Qbv 0 (h := ?_)
 (repeat' (first | refine e1 (k := ?_) | refine stepS (Qbt Tryz.call193 c rfl) (k := ?_) | refine stepS2 (Qc2) (k := ?_) | refine QbB (kk := ?_) | refine Qbs ?_ | refine Qbu ?_ | refine Qbr ?_ | refine Qb3 (ht := fun q => ?_) (hf := fun q => ?_) | refine Qbz ?_ | refine e2 (k := ?_) | fail))
 all_goals first
  |(exfalso; simp only [decide_eq_false_iff_not] at *; omega)
  |(refine Qcm 4 true 10 (h := ?_)
    exact Qb1 (hx := rfl))
theorem QmK (s : Pm.Store) (t : Pl.Tree) (x : List (List UInt8)) (hx : Pl.TxOk x) (m : List (Int × D)) (hm : Pl.Qbn m (Pl.entL s x)) (p : List UInt8) (hp : p.length <= 1000000000000) (j : Nat) (hat : Pl.Qaz s x p = j) (L : List Nat) (hL : L.length <= 1000) (hfd : Gr.FD (Pl.Qad (Pl.Qac x)) (Pl.chF s x) [j] L) :
 Pure Tryz.prog 120 [.pd (rFiles s t x m), dS p] (.tup [.sl true 10 (Pl.rowsOf x (Pl.Qan [] L)), dB true]) := by
 have c : Pure Tryz.prog 193 [.pd (rFiles s t x m), dS p] (dI (Pl.Qaz s x p)) := by unfold Pl.Qaz; exact bPath s t x m _ hm p hp
 rw [hat] at c
 have dw := bWalk s t x hx m hm L.length L j [] [] (Nat.le_refl _) hfd (by simpa using hL) (fun a ha => by simp at ha) (by simp; omega)
 have hgl := vg_mem0
 rw [show Pl.nmD [] = .v (.slice none 0 0) by unfold Pl.nmD; rw [if_pos rfl]] at dw
 generalize Pl.Qan [] L = M at *
 clear hfd hL
 simp only [Pl.vb, Pl.vg] at dw
 (refine Qbw Tryz.func120 rfl Tryz.ntmps120 Tryz.results120 rfl ?_; simp only [parE, Nat.zero_add, Nat.reduceAdd])
 (refine Qbu (Qbr ?_); (repeat (first | refine e1 (k := ?_) | refine e2 (k := ?_) | fail)); refine Qbs ?_)
 refine Qbv 0 (h := ?_)
 (repeat' (first | refine e1 (k := ?_) | refine stepS (Qbt Tryz.call193 c rfl) (k := ?_) | refine stepS2 (Qc2) (k := ?_) | refine (QnS 1 0 10 105 (h := ?_)) | refine stepS (QgD rfl rfl rfl) (k := ?_) | refine (QmN [4, 1, 3, 2] dw Tryz.call194 (hgl := fun g hg => hgl _ _ g hg (by simp [AV.parts, go_sem]) (by simp [AV.parts, go_sem]) (by simp [Blk.parts, AV.parts]) (by simp [Blk.parts, AV.parts]) _) (k := ?_)) | refine QbB (kk := ?_) | refine Qbs ?_ | refine Qbu ?_ | refine Qbr ?_ | refine Qb2 (hf := ?_) | refine Qbz ?_ | refine e2 (k := ?_) | fail))
 all_goals first
  |(exfalso; simp only [decide_eq_true_eq] at *; omega)
  |skip
 refine QcQ [4, 5] 3 (h := ?_)
 refine Qbv 2 (h := ?_)
 refine Qb1 (hx := ?_)
 rw [List.take_of_length_le (by simp)]
end Aw
end Go.Proofs.YtdjkdcokjoiokaaGreatDoor
namespace Go.Proofs.YtdjkdcokjoiokaaGreatDoor
open Go.RowKit
namespace Aw
attribute [local irreducible] ASeq ADraw AWP Loc
def Pl.QaR (refs : List Int) (i : Nat) (r : List UInt8) : Bool := decide (r.length <= 128) && ((r == []) == (refs.getD i 0 == 0))
theorem Qkp {s : Pm.Store} (h : s.2.1.2.length = 64) : Pl.QaZ s = (((List.range 64).all fun i => Pl.QaR s.2.1.1 i (s.1.getD i [])) && decide (Pl.maxL s.2.1.2 <= s.2.2.1)) := by
 have hne : s.2.1.2 ≠ [] := fun e => by rw [e] at h; cases h
 rw [Bool.eq_iff_iff]
 unfold Pl.QaZ Pl.QaI Pl.QaR
 simp only [Bool.and_eq_true, List.all_eq_true, decide_eq_true_eq, List.mem_range]
 rw [maxL_le hne]
 constructor
 ·intro hh
  refine ⟨fun i hi => (hh i hi).1, fun y hy => ?_⟩
  obtain ⟨i, hi, rfl⟩ := List.getElem_of_mem hy
  have := (hh i (by omega)).2
  rwa [List.getD_eq_getElem?_getD, List.getElem?_eq_getElem hi] at this
 ·rintro ⟨h1, h2⟩ i hi
  refine ⟨h1 i hi, ?_⟩
  rw [List.getD_eq_getElem?_getD, List.getElem?_eq_getElem (by omega)]
  exact h2 _ (List.getElem_mem _)
theorem QnF (s : Pm.Store) (b1 : s.2.1.1.length <= Pm.big) (b2 : s.2.1.2.length <= Pm.big) (b3 : s.2.2.2.1.length <= 1000000000000) (b4 : s.2.2.2.2.2.1.length <= 1000000000000) (i1 : ∀ n ∈ s.2.1.1, Pm.InI n) (i2 : ∀ n ∈ s.2.1.2, Pm.InI n) :
 Pure Tryz.prog 146 [dSt s] (dB (Pl.Qaf s)) := by
 have hd : Hid (Pl.Qaf s = ((s.1.length == 64) && Pl.spaceOk s.2.1 && Pl.inR s.2.2.1 1 900 && Pl.inR s.2.2.2.2.1 0 (s.2.2.1 - 1) && Pl.QaZ s && Pl.QaY s.2.1.1 (Pl.owed s) (List.replicate 64 0))) := Pm.hid rfl
 have cS := QnG s.2.1 b1 b2 i1 i2
 have cT := bIn s.2.2.1 1 900
 have cK := bIn s.2.2.2.2.1 0 (s.2.2.1 - 1)
 by_cases hlen : s.1.length = 64
 rotate_left
 ·have hf : Pl.Qaf s = false := by rw [hd.out, beq_eq_false_iff_ne.2 hlen]; rfl
  (refine Qbw Tryz.func146 rfl Tryz.ntmps146 Tryz.results146 rfl ?_; simp only [parE, Nat.zero_add, Nat.reduceAdd])
  (refine Qbu (Qbr ?_); (repeat (first | refine e1 (k := ?_) | refine e2 (k := ?_) | fail)); refine Qbs ?_)
  refine Qbv 0 (h := ?_)
  have hne : ((s.1.length : Int) != 64) = true := by rw [bne_iff_ne]; omega
  (repeat' (first | refine f1 (k := ?_) | refine e1 (k := ?_) | refine f0 (k := ?_) | refine Qbs ?_ | refine Qb6 ?_ | refine Qbu ?_ | refine Qbr ?_ | refine QbF follows_mixed (by kernel_rfl) (by kernel_rfl) ?_ | refine Qb0 (ht := ?_) | ((fail_if_success show ADraw _ _ _ _ ⟨_, (_, .d (.v (.bool true))) :: _, _⟩); (fail_if_success show ADraw _ _ _ _ ⟨_, (_, .d (.v (.bool false))) :: _, _⟩); refine splitD (fun q => ?_) (fun q => ?_))))
  all_goals first
   |(refine Qb1 (hx := ?_); rw [hf])
   |(exfalso; simp_all; done)
 have hne : ((s.1.length : Int) != 64) = false := by rw [hlen]; rfl
 cases hsp : Pl.spaceOk s.2.1
 ·have hf : Pl.Qaf s = false := by rw [hd.out, hsp]; simp
  rw [hsp] at cS
  (refine Qbw Tryz.func146 rfl Tryz.ntmps146 Tryz.results146 rfl ?_; simp only [parE, Nat.zero_add, Nat.reduceAdd])
  (refine Qbu (Qbr ?_); (repeat (first | refine e1 (k := ?_) | refine e2 (k := ?_) | fail)); refine Qbs ?_)
  refine Qbv 0 (h := ?_)
  (repeat' (first | refine f1 (k := ?_) | refine e1 (k := ?_) | refine f0 (k := ?_) | refine stepD (Qbt Tryz.call215 cS rfl) (k := ?_) | refine Qbs ?_ | refine Qb6 ?_ | refine Qbu ?_ | refine Qbr ?_ | refine QbF follows_mixed (by kernel_rfl) (by kernel_rfl) ?_ | refine Qb0 (ht := ?_) | ((fail_if_success show ADraw _ _ _ _ ⟨_, (_, .d (.v (.bool true))) :: _, _⟩); (fail_if_success show ADraw _ _ _ _ ⟨_, (_, .d (.v (.bool false))) :: _, _⟩); refine splitD (fun q => ?_) (fun q => ?_))))
  all_goals first
   |(refine Qb1 (hx := ?_); rw [hf])
   |(exfalso; simp_all; done)
 cases hT : Pl.inR s.2.2.1 1 900
 ·have hf : Pl.Qaf s = false := by rw [hd.out, hT]; simp
  rw [hT] at cT
  rw [hsp] at cS
  (refine Qbw Tryz.func146 rfl Tryz.ntmps146 Tryz.results146 rfl ?_; simp only [parE, Nat.zero_add, Nat.reduceAdd])
  (refine Qbu (Qbr ?_); (repeat (first | refine e1 (k := ?_) | refine e2 (k := ?_) | fail)); refine Qbs ?_)
  refine Qbv 0 (h := ?_)
  (repeat' (first | refine f1 (k := ?_) | refine e1 (k := ?_) | refine f0 (k := ?_) | refine stepD (Qbt Tryz.call215 cS rfl) (k := ?_) | refine stepD (Qbt Tryz.call45 cT rfl) (k := ?_) | refine Qbs ?_ | refine Qb6 ?_ | refine Qbu ?_ | refine Qbr ?_ | refine QbF follows_mixed (by kernel_rfl) (by kernel_rfl) ?_ | refine Qb0 (ht := ?_) | ((fail_if_success show ADraw _ _ _ _ ⟨_, (_, .d (.v (.bool true))) :: _, _⟩); (fail_if_success show ADraw _ _ _ _ ⟨_, (_, .d (.v (.bool false))) :: _, _⟩); refine splitD (fun q => ?_) (fun q => ?_))))
  all_goals first
   |(refine Qb1 (hx := ?_); rw [hf])
   |(exfalso; simp_all; done)
 have hTb : 1 <= s.2.2.1 /\ s.2.2.1 <= 900 := by simpa [Pl.inR] using hT
 cases hK : Pl.inR s.2.2.2.2.1 0 (s.2.2.1 - 1)
 ·have hf : Pl.Qaf s = false := by rw [hd.out, hK]; simp
  rw [hT] at cT
  rw [hsp] at cS
  rw [hK] at cK
  (refine Qbw Tryz.func146 rfl Tryz.ntmps146 Tryz.results146 rfl ?_; simp only [parE, Nat.zero_add, Nat.reduceAdd])
  (refine Qbu (Qbr ?_); (repeat (first | refine e1 (k := ?_) | refine e2 (k := ?_) | fail)); refine Qbs ?_)
  refine Qbv 0 (h := ?_)
  (repeat' (first | refine f1 (k := ?_) | refine e1 (k := ?_) | refine f0 (k := ?_) | refine stepD (Qbt Tryz.call215 cS rfl) (k := ?_) | refine stepD (Qbt Tryz.call45 cT rfl) (k := ?_) | refine stepD (Qbt Tryz.call45 cK rfl) (k := ?_) | refine stepD (QbO rfl rfl (by omega)) (k := ?_) | refine Qbs ?_ | refine Qb6 ?_ | refine Qbu ?_ | refine Qbr ?_ | refine QbF follows_mixed (by kernel_rfl) (by kernel_rfl) ?_ | refine Qb0 (ht := ?_) | ((fail_if_success show ADraw _ _ _ _ ⟨_, (_, .d (.v (.bool true))) :: _, _⟩); (fail_if_success show ADraw _ _ _ _ ⟨_, (_, .d (.v (.bool false))) :: _, _⟩); refine splitD (fun q => ?_) (fun q => ?_))))
  all_goals first
   |(refine Qb1 (hx := ?_); rw [hf])
   |(exfalso; simp_all; done)
 have hsp1 : s.2.1.1.length = 64 /\ s.2.1.2.length = 64 := by simp [Pl.spaceOk] at hsp; exact hsp.1
 have cM := bMax s.2.1.2 (by omega) (by omega)
 have hd2 : Hid (Pl.Qaf s = (((List.range 64).all fun i => Pl.QaR s.2.1.1 i (s.1.getD i [])) && decide (Pl.maxL s.2.1.2 <= s.2.2.1) && Pl.owes s)) := Pm.hid (by
  rw [hd.out, hlen, hsp, hT, hK, Qkp hsp1.2, Qkw (Qkm hsp)]; rfl)
 rw [hT] at cT
 rw [hsp] at cS
 rw [hK] at cK
 clear hd hsp hT hK
 have hrow : Hid (∀ k, Pl.QaR s.2.1.1 k (s.1.getD k []) = (decide ((s.1.getD k []).length <= 128) && ((s.1.getD k [] == []) == (s.2.1.1.getD k 0 == 0)))) := Pm.hid fun k => rfl
 have hrf : Hid (∀ k, k < 64 -> Pl.QaR s.2.1.1 k (s.1.getD k []) = false -> Pl.Qaf s = false) := Pm.hid fun k hk h => by
  rw [hd2.out, Pl.QbI hk h]; rfl
 have how : Hid (Pl.owes s = ((Pl.cntP s.2.1.1 (s.2.2.1 - 1) s.2.2.2.1 (List.replicate 64 0)).1 && (Pl.cntP s.2.1.1 s.2.2.2.2.1 s.2.2.2.2.2.1 (Pl.cntP s.2.1.1 (s.2.2.1 - 1) s.2.2.2.1 (List.replicate 64 0)).2).1 &&
  (List.range 64).all fun i => decide ((Pl.cntP s.2.1.1 s.2.2.2.2.1 s.2.2.2.2.2.1 (Pl.cntP s.2.1.1 (s.2.2.1 - 1) s.2.2.2.1 (List.replicate 64 0)).2).2.getD i 0 <= s.2.1.1.getD i 0))) := Pm.hid rfl
 have fa1 := QdV s.2.1.1 (s.2.2.1 - 1) s.2.2.2.1 (List.replicate 64 0) 0 (by decide) (fun y hy => by rw [(List.mem_replicate.1 hy).2]; decide)
 have dd1 := bCount s hsp1.1 s.2.2.2.1 b3 (s.2.2.1 - 1) (List.replicate 64 0) (by simp) (fun y hy => by rw [(List.mem_replicate.1 hy).2]; decide) 0
 generalize Pl.cntP s.2.1.1 (s.2.2.1 - 1) s.2.2.2.1 (List.replicate 64 0) = r1 at *
 obtain ⟨o1, m1⟩ := r1
 simp only at fa1 how
 have fa2 := QdV s.2.1.1 s.2.2.2.2.1 s.2.2.2.2.2.1 m1 1000000000000 (by decide) (fun y hy => by have := fa1.2 y hy; omega)
 have dd2 := bCount s hsp1.1 s.2.2.2.2.2.1 b4 s.2.2.2.2.1 m1 (by simpa using fa1.1) (fun y hy => by have := fa1.2 y hy; omega) 0
 generalize Pl.cntP s.2.1.1 s.2.2.2.2.1 s.2.2.2.2.2.1 m1 = r2 at *
 obtain ⟨o2, m2⟩ := r2
 simp only at fa2 how
 generalize Pl.maxL s.2.1.2 = mx at *
 generalize hst : Pl.Qaf s = res at *
 clear hst b1 b2 i1 i2
 (refine Qbw Tryz.func146 rfl Tryz.ntmps146 Tryz.results146 rfl ?_; simp only [parE, Nat.zero_add, Nat.reduceAdd])
 (refine Qbu (Qbr ?_); (repeat (first | refine e1 (k := ?_) | refine e2 (k := ?_) | fail)); refine Qbs ?_)
 refine Qbv 0 (h := ?_)
 (repeat' (first | refine f1 (k := ?_) | refine e1 (k := ?_) | refine f0 (k := ?_) | refine stepD (Qbt Tryz.call215 cS rfl) (k := ?_) | refine stepD (Qbt Tryz.call45 cT rfl) (k := ?_) | refine stepD (Qbt Tryz.call45 cK rfl) (k := ?_) | refine stepD (QbO rfl rfl (by omega)) (k := ?_) | refine stepD (Qbt Tryz.call216 cM rfl) (k := ?_) | refine Qbs ?_ | refine Qb6 ?_ | refine Qbu ?_ | refine Qbr ?_ | refine QbF follows_mixed (by kernel_rfl) (by kernel_rfl) ?_ | refine Qb0 (ht := ?_) | refine Qb3 (ht := fun q => ?_) (hf := fun q => ?_) | refine Qbz ?_ | refine Qby ?_ | ((fail_if_success show ADraw _ _ _ _ ⟨_, (_, .d (.v (.bool true))) :: _, _⟩); (fail_if_success show ADraw _ _ _ _ ⟨_, (_, .d (.v (.bool false))) :: _, _⟩); refine splitD (fun q => ?_) (fun q => ?_))))
 all_goals first
  |(exfalso; clear hrow how hrf hd2 dd1 dd2; simp_all; done)
  |(refine Qb1 (hx := ?_)
    rw [hd2.out, decide_eq_false (by clear hrow how hrf hd2 dd1 dd2; simp at *; omega), Bool.and_false, Bool.false_and]; done)
  |skip
 have hmx : decide (mx <= s.2.2.1) = true := decide_eq_true (by clear hrow how hrf hd2 dd1 dd2; simp at *; omega)
 refine QbD (fun m st => ∃ k : Nat, k <= 64 /\ m = 64 - k /\ Hid ((List.range k).all (fun i => Pl.QaR s.2.1.1 i (s.1.getD i [])) = true) /\
  st = ⟨102, [(1, .d (.pd (rSt s))), (44, .d (dStrs s.1)), (45, .d (dI s.1.length)), (46, .d (dI k))], []⟩) [1, 44, 45, 46] 0 64 ⟨0, by omega, rfl, Pm.hid rfl, by simp [keepE, go_sem]⟩ (round := ?_)
 rintro m st ⟨k, hk, rfl, hA, rfl⟩
 (repeat (first | refine e1 (k := ?_) | refine Qbs ?_ | refine Qbu ?_ | refine Qbr ?_ | fail))
 cases q3 : decide ((k : Int) < (s.1.length : Int))
 rotate_left
 ·have hk2 : k < 64 := by simp at q3; omega
  obtain ⟨r, hr0⟩ : ∃ r, s.1[k]? = some r := ⟨_, List.getElem?_eq_getElem (by omega)⟩
  obtain ⟨rf, hf0⟩ : ∃ rf, s.2.1.1[k]? = some rf := ⟨_, List.getElem?_eq_getElem (by omega)⟩
  have hr := QbC (f := fun s => [dS s]) hr0
  have hf := QbC (f := fun n => [dI n]) hf0
  have hbad := Pm.hid (hrf.out k hk2)
  have hgood : Hid (Pl.QaR s.2.1.1 k (s.1.getD k []) = true -> (List.range (k + 1)).all (fun i => Pl.QaR s.2.1.1 i (s.1.getD i [])) = true) := Pm.hid fun h => Pl.QbM hA.out h
  have hro : Hid (Pl.QaR s.2.1.1 k (s.1.getD k []) = (!decide ((r.length : Int) > 128) && ((r == []) == (rf == 0)))) := Pm.hid (by
   rw [hrow.out k]
   simp only [List.getD_eq_getElem?_getD, hr0, hf0, Option.getD_some]
   have : decide (r.length <= 128) = !decide ((r.length : Int) > 128) := by
    by_cases h : r.length <= 128
    ·rw [decide_eq_true h, decide_eq_false (by omega)]; rfl
    ·rw [decide_eq_false h, decide_eq_true (by omega)]; rfl
   rw [this])
  clear hrow how hrf hd2 dd1 dd2 hr0 hf0 hA fa1 fa2
  generalize Pl.QaR s.2.1.1 k (s.1.getD k []) = ro at *
  (repeat' (first | refine e1 (k := ?_) | refine e0 (k := ?_) | refine stepS (Qbx Ty.h rfl Ty.h rfl rfl rfl (by omega) hr) (k := ?_) | refine stepS (Qbx Ty.h rfl Ty.h rfl rfl rfl (by omega) hf) (k := ?_) | refine stepS (Qdu Tryz.underlying4 rfl rfl) (k := ?_) | refine stepS (Qb7 rfl rfl (by omega)) (k := ?_) | refine stepS (QbL rfl rfl) (k := ?_) | refine Qbs ?_ | refine Qb4 ?_ | refine Qbu ?_ | refine Qbr ?_ | refine Qb0 (ht := ?_) | refine Qb3 (ht := fun q => ?_) (hf := fun q => ?_) | refine Qbz ?_ | refine Qby ?_ | ((fail_if_success show ASeq _ _ _ _ ⟨_, (_, .d (.v (.bool true))) :: _, _⟩); (fail_if_success show ASeq _ _ _ _ ⟨_, (_, .d (.v (.bool false))) :: _, _⟩); refine splitS (fun q => ?_) (fun q => ?_))))
  all_goals clear hr hf
  all_goals first
   |(exfalso; omega)
   |(refine Qb1 (hx := ?_)
     rw [hbad.out (by rw [hro.out]; clear hbad hgood hro; simp_all)]; done)
   |exact Qb9 (64 - (k + 1)) (by omega) ⟨k + 1, by omega, rfl, Pm.hid (hgood.out (by rw [hro.out]; clear hbad hgood hro; simp_all)), by simp [keepE, go_sem]⟩
 have hk64 : k = 64 := by simp at q3; omega
 subst hk64
 have hd3 : Hid (res = Pl.owes s) := Pm.hid (by
  rw [hd2.out, hA.out, hmx]; rfl)
 clear hrow hrf hd2 hA
 simp only [List.map_replicate] at dd1
 simp only at dd1 dd2
 have hgl1 : ∀ (L : List AV) (B : Blk) (g : AV), g ∈ [AV.ptr 0 0 0, AV.osl 1 0 0 64] -> AV.ptr 1 0 0 ∈ L -> B.parts = [] -> g.ren (rho [1, 0] 2) ∈ L ++ [B, Blk.row 0 [.osl 0 0 0 64]].flatMap Blk.parts := fun L B g hg hL hB => by
  simp only [List.mem_cons, List.not_mem_nil, or_false] at hg
  rcases hg with rfl | rfl
  ·exact List.mem_append_left _ hL
  ·refine List.mem_append_right _ ?_
   rw [List.flatMap_cons, hB]
   simp [Blk.parts, AV.parts, AV.ren, rho]
 (repeat' (first | refine e1 (k := ?_) | refine e0 (k := ?_) | refine stepS (QgE rfl rfl) (k := ?_) | refine stepS (QbO rfl rfl (by omega)) (k := ?_) | refine (QfS [1, 0] dd1 Tryz.call217 (hgl := fun g hg => hgl1 _ _ g hg (by simp [AV.parts, go_sem]) rfl) (k := ?_)) | refine (QfS [1, 0] dd2 Tryz.call217 (hgl := fun g hg => hgl1 _ _ g hg (by simp [AV.parts, go_sem]) rfl) (k := ?_)) | refine stepS2 (QjA Ty.h rfl Ty.h rfl rfl) (k := ?_) | refine QbB (kk := ?_) | refine Qbs ?_ | refine Qbu ?_ | refine Qbr ?_ | refine Qb0 (ht := ?_) | refine Qb2 (hf := ?_) | refine Qb3 (ht := fun q => ?_) (hf := fun q => ?_) | refine Qbz ?_ | refine Qby ?_ | refine e2 (k := ?_) | refine Qb5 ?_ | ((fail_if_success show ASeq _ _ _ _ ⟨_, (_, .d (.v (.bool true))) :: _, _⟩); (fail_if_success show ASeq _ _ _ _ ⟨_, (_, .d (.v (.bool false))) :: _, _⟩); refine splitS (fun q => ?_) (fun q => ?_))))
 ·refine Qb1 (hx := ?_)
  rw [hd3.out, how.out, (by simpa using q : o1 = false)]; rfl
 ·refine Qb1 (hx := ?_)
  rw [hd3.out, how.out, (by simpa using q : o2 = false), Bool.and_false]; rfl
 have hm2 : m2.length = 64 := by rw [fa2.1, fa1.1]; simp
 have hd4 : Hid (res = (List.range 64).all fun i => decide (m2.getD i 0 <= s.2.1.1.getD i 0)) := Pm.hid (by
  rw [hd3.out, how.out]
  clear hd3 how dd1 dd2
  simp_all)
 clear hd3 how dd1 dd2 fa1 fa2 cS cT cK cM
 refine QbD (fun m st => ∃ k : Nat, k <= 64 /\ m = 64 - k /\ Hid ((List.range k).all (fun i => decide (m2.getD i 0 <= s.2.1.1.getD i 0)) = true) /\
  st = ⟨102, [(1, .d (.pd (rSt s))), (86, .osl 0 0 0 64), (87, .d (dI 64)), (88, .d (dI k))], [.arr 0 1 3 (m2.map fun n => [dI n])]⟩) [1, 86, 87, 88] 1 64 ⟨0, by omega, rfl, Pm.hid rfl, by simp [keepE, go_sem]⟩ (round := ?_)
 rintro m st ⟨k, hk, rfl, hA, rfl⟩
 (repeat (first | refine e1 (k := ?_) | refine Qbs ?_ | refine Qbu ?_ | refine Qbr ?_ | fail))
 cases q5 : decide ((k : Int) < 64)
 ·(repeat' (first | refine e1 (k := ?_) | refine Qbs ?_ | refine Qbu ?_ | refine Qbr ?_ | refine Qb2 (hf := ?_) | refine Qb5 ?_ | fail))
  refine Qb1 (hx := ?_)
  have : k = 64 := by simp at q5; omega
  subst this
  rw [hd4.out, hA.out]
 have hk2 : k < 64 := by simp at q5; omega
 obtain ⟨mv, hmv⟩ : ∃ mv, m2[k]? = some mv := ⟨_, List.getElem?_eq_getElem (by omega)⟩
 obtain ⟨rf, hf0⟩ : ∃ rf, s.2.1.1[k]? = some rf := ⟨_, List.getElem?_eq_getElem (by omega)⟩
 have hmr := QbC (f := fun n => [dI n]) hmv
 have hf := QbC (f := fun n => [dI n]) hf0
 have hmr2 : (m2.map fun n => [dI n])[0 + ((k : Nat) : Int).toNat]? = some [dI mv] := by rw [Nat.zero_add]; exact hmr
 have hbad : Hid (decide (mv > rf) = true -> res = false) := Pm.hid fun h => by
  rw [hd4.out]
  refine Pl.QbI hk2 ?_
  simp only [List.getD_eq_getElem?_getD, hmv, hf0, Option.getD_some]
  exact decide_eq_false (by simp at h; omega)
 have hgood : Hid (decide (mv > rf) = false -> (List.range (k + 1)).all (fun i => decide (m2.getD i 0 <= s.2.1.1.getD i 0)) = true) := Pm.hid fun h => Pl.QbM hA.out (by
  simp only [List.getD_eq_getElem?_getD, hmv, hf0, Option.getD_some]
  exact decide_eq_true (by simp at h; omega))
 clear hd4 hA hmv hf0
 (repeat' (first | refine e1 (k := ?_) | refine stepS (QbR Ty.h rfl Ty.h rfl rfl rfl rfl (by omega) (by omega)) (k := ?_) | refine stepS (QbX Ty.h rfl rfl hmr2 rfl) (k := ?_) | refine stepS (Qbx Ty.h rfl Ty.h rfl rfl rfl (by omega) hf) (k := ?_) | refine stepS (Qb7 rfl rfl (by omega)) (k := ?_) | refine Qbs ?_ | refine Qb4 ?_ | refine Qbu ?_ | refine Qbr ?_ | refine Qb0 (ht := ?_) | refine Qb3 (ht := fun q => ?_) (hf := fun q => ?_) | refine Qbz ?_ | refine Qby ?_ | fail))
 all_goals first
  |(refine Qb1 (hx := ?_)
    rw [hbad.out (by assumption)]; done)
  |exact Qb9 (64 - (k + 1)) (by omega) ⟨k + 1, by omega, rfl, Pm.hid (hgood.out (by assumption)), by simp [keepE, go_sem]⟩
end Aw
end Go.Proofs.YtdjkdcokjoiokaaGreatDoor
namespace Go.Proofs.YtdjkdcokjoiokaaGreatDoor
open Go.RowKit
namespace Aw
attribute [local irreducible] ASeq ADraw AWP Loc mget mset
def Pl.Qbq (s : Pm.Store) : Prop := ∀ n, Pl.Qaq n = true -> n.kind = 1 -> Pure Tryz.prog 263 [.pd (rSt s), dNode n] (.tup [.any, dB (Pl.Qax s n)])
noncomputable def Pl.inD (s : Pm.Store) (t : Pl.Tree) : D := if Pl.Qaf s then Pl.Qbi s t else .tup [.v (.pointer none), dB false]
theorem QnM (s : Pm.Store) (t : Pl.Tree) (cS : Pure Tryz.prog 146 [dSt s] (dB (Pl.Qaf s))) (hg : Pl.Qaf s = true -> Pl.Good s /\ 0 <= s.2.2.1) (hT : Pl.Qaf s = true -> Pl.Qbq s) :
 Pure Tryz.prog 119 [dSt s, dTree t] (Pl.inD s t) := by
 unfold Pl.inD
 cases h : Pl.Qaf s
 ·rw [h] at cS
  rw [if_neg (by simp)]
  (refine Qbw Tryz.func119 rfl Tryz.ntmps119 Tryz.results119 rfl ?_; simp only [parE, Nat.zero_add, Nat.reduceAdd])
  (refine Qbu (Qbr ?_); (repeat (first | refine e1 (k := ?_) | refine e2 (k := ?_) | fail)); refine Qbs ?_)
  refine Qbv 0 (h := ?_)
  refine Qbv 1 (h := ?_)
  (repeat' (first | refine e1 (k := ?_) | refine stepS (Qbt Tryz.call146 cS rfl) (k := ?_) | refine Qbs ?_ | refine Qbu ?_ | refine Qbr ?_ | refine Qb0 (ht := ?_) | fail))
  exact Qb1 (hx := rfl)
 ·rw [h] at cS
  rw [if_pos rfl]
  have c := QkR s (hg h).1 (hg h).2 t (hT h)
  obtain ⟨a, b, hab⟩ : ∃ a b, Pl.Qbi s t = .tup [a, b] := by unfold Pl.Qbi; split <;> exact ⟨_, _, rfl⟩
  rw [hab] at c ⊢
  clear hab hg hT
  (refine Qbw Tryz.func119 rfl Tryz.ntmps119 Tryz.results119 rfl ?_; simp only [parE, Nat.zero_add, Nat.reduceAdd])
  (refine Qbu (Qbr ?_); (repeat (first | refine e1 (k := ?_) | refine e2 (k := ?_) | fail)); refine Qbs ?_)
  refine Qbv 0 (h := ?_)
  refine Qbv 1 (h := ?_)
  (repeat' (first | refine e1 (k := ?_) | refine stepS (Qbt Tryz.call146 cS rfl) (k := ?_) | refine stepS (Qbt Tryz.call192 c rfl) (k := ?_) | refine Qbs ?_ | refine Qbu ?_ | refine Qbr ?_ | refine Qb2 (hf := ?_) | refine Qbz ?_ | fail))
  exact Qb1 (hx := rfl)
def Pl.QaV (F : Pl.Node -> Int) (N : List Pl.Node) : Int := (N.map F).sum
noncomputable def Pl.sumP (s : Pm.Store) (t : Pl.Tree) (p : List UInt8) (F : Pl.Node -> Int) (M : List Nat) : Int × Bool :=
 if Pl.Qaf s && Pl.QaL s t && Pl.Qba s (Pl.Qaa s t) then (if Pl.Qaz s (Pl.Qaa s t) p < 0 then (0, false) else (Pl.QaV F (M.map fun k => (Pl.Qac (Pl.Qaa s t)).getD k Pl.zn), true)) else (0, false)
theorem bSum (s : Pm.Store) (t : Pl.Tree) (p : List UInt8) (hp : p.length <= 1000000000000) (cS : Pure Tryz.prog 146 [dSt s] (dB (Pl.Qaf s))) (hg : Pl.Qaf s = true -> Pl.Good s /\ 0 <= s.2.2.1) (hT : Pl.Qaf s = true -> Pl.Qbq s)
 (f : FuncId) (F : Pl.Node -> Int) (hf : ∀ args w, (callFunc f args).run Tryz.prog w = .ok (.enter f args) w) (hF : ∀ n, Pure Tryz.prog f [dNode n] (dI (F n))) (hFb : ∀ n, NodeB n -> 0 <= F n /\ F n <= 1000000)
 (L : List Nat) (hL : Pl.Qaf s = true -> Pl.QaL s t = true -> Pl.Qba s (Pl.Qaa s t) = true -> ¬ Pl.Qaz s (Pl.Qaa s t) p < 0 -> L.length <= 1000 /\ Gr.FD (Pl.Qad (Pl.Qac (Pl.Qaa s t))) (Pl.chF s (Pl.Qaa s t)) [(Pl.Qaz s (Pl.Qaa s t) p).toNat] L) :
 PureF Tryz.prog 61 [.d (dSt s), .d (dTree t), .d (dS p), .fn (.func f) []] (.tup [dI (Pl.sumP s t p F (Pl.Qan [] L)).1, dB (Pl.sumP s t p F (Pl.Qan [] L)).2]) := by
 have c1 := QnM s t cS hg hT
 have hd : Hid (Pl.sumP s t p F (Pl.Qan [] L) = if Pl.Qaf s && Pl.QaL s t && Pl.Qba s (Pl.Qaa s t) then (if Pl.Qaz s (Pl.Qaa s t) p < 0 then (0, false) else (Pl.QaV F ((Pl.Qan [] L).map fun k => (Pl.Qac (Pl.Qaa s t)).getD k Pl.zn), true)) else (0, false)) := Pm.hid rfl
 generalize Pl.sumP s t p F (Pl.Qan [] L) = res at *
 by_cases hok : (Pl.Qaf s && Pl.QaL s t && Pl.Qba s (Pl.Qaa s t)) = true
 rotate_left
 ·have hbad := Pm.hid (hd.out.trans (if_neg hok))
  obtain ⟨a, ha⟩ : ∃ a, Pl.inD s t = .tup [a, dB false] := by
   unfold Pl.inD Pl.Qbi
   simp only [Bool.and_eq_true, not_and] at hok
   split
   ·split
    ·rename_i h1 h2
     have := hok ⟨h1, h2⟩
     exact ⟨_, by rw [show Pl.Qba s (Pl.Qaa s t) = false by simpa using this]⟩
    ·exact ⟨_, rfl⟩
   ·exact ⟨_, rfl⟩
  rw [ha] at c1
  (refine Qcb Tryz.func61 rfl Tryz.ntmps61 Tryz.results61 rfl ?_; simp only [parA, Nat.zero_add, Nat.reduceAdd])
  (refine Qbu (Qbr ?_); (repeat (first | refine e1 (k := ?_) | refine e2 (k := ?_) | fail)); refine Qbs ?_)
  refine Qbv 0 (h := ?_)
  refine Qbv 1 (h := ?_)
  (repeat' (first | refine e1 (k := ?_) | refine stepS (Qbt Tryz.call119 c1 rfl) (k := ?_) | refine Qbs ?_ | refine Qbu ?_ | refine Qbr ?_ | refine Qb0 (ht := ?_) | fail))
  refine QbP (hx := ?_)
  rw [hbad.out]
 have hok' := hok
 rw [Bool.and_eq_true, Bool.and_eq_true] at hok'
 obtain ⟨⟨h1, h2⟩, h3⟩ := hok'
 have hin : Pl.inD s t = .tup [.pd (rFiles s t (Pl.Qaa s t) (Pl.dirM s (Pl.Qaa s t) (Pl.Qaa s t).length)), dB true] := by
  unfold Pl.inD Pl.Qbi
  rw [if_pos h1, if_pos h2, h3]
 rw [hin] at c1
 have htab : Pl.Qa8 s t = true := by unfold Pl.QaL at h2; rw [Bool.and_eq_true, Bool.and_eq_true] at h2; exact h2.1.1
 obtain ⟨hx, hx16, _⟩ := Qju htab
 have hm := Qmz s (Pl.Qaa s t)
 have hL := hL h1 h2 h3
 have hd2 := hd.out.trans (if_pos hok)
 clear hin hok htab h1 h2 h3 hd cS hg hT
 generalize Pl.Qaa s t = x at *
 generalize Pl.dirM s x x.length = m at *
 obtain ⟨N, fine, c2, hr, hNb, hNl⟩ : ∃ (N : List Pl.Node) (fine : Bool), Pure Tryz.prog 120 [.pd (rFiles s t x m), dS p] (.tup [.sl true 10 (N.map rNode), dB fine]) /\ res = (Pl.QaV F N, fine) /\ (∀ n ∈ N, 0 <= F n /\ F n <= 1000000) /\ N.length <= 1000 := by
  by_cases hneg : Pl.Qaz s x p < 0
  ·exact ⟨[], false, QnQ s t x m hm p hp hneg, by rw [hd2, if_pos hneg]; rfl, fun n hn => by simp at hn, by simp⟩
  ·obtain ⟨hL1, hL2⟩ := hL hneg
   obtain ⟨j, hj⟩ := Int.eq_ofNat_of_zero_le (show 0 <= Pl.Qaz s x p by omega)
   rw [hj, Int.toNat_natCast] at hL2
   refine ⟨(Pl.Qan [] L).map fun k => (Pl.Qac x).getD k Pl.zn, true, ?_, by rw [hd2, if_neg hneg], ?_, ?_⟩
   ·have := QmK s t x hx m hm p hp j hj L hL1 hL2
    rw [List.map_map]; exact this
   ·intro n hn
    obtain ⟨k, hk, rfl⟩ := List.mem_map.1 hn
    rw [QeG] at hk
    have hk := hk.resolve_left (by simp)
    have hkd := hL2.kinds k hk
    rcases Qc8 hx k with ⟨_, h⟩ | ⟨_, _, h⟩
    ·exfalso; unfold Pl.Qad at hkd; rw [h] at hkd; rcases hkd with h | h
     ·cases h
     ·cases h.1
    ·exact hFb _ h
   ·rw [List.length_map]; have := (QdL L []).2.1; simp at this; omega
 clear hd2 hL hm hx hFb hx16
 subst hr
 have hNb := Pm.hid hNb
 (refine Qcb Tryz.func61 rfl Tryz.ntmps61 Tryz.results61 rfl ?_; simp only [parA, Nat.zero_add, Nat.reduceAdd])
 (refine Qbu (Qbr ?_); (repeat (first | refine e1 (k := ?_) | refine e2 (k := ?_) | fail)); refine Qbs ?_)
 refine Qbv 0 (h := ?_)
 refine Qbv 1 (h := ?_)
 (repeat' (first | refine e1 (k := ?_) | refine stepS (Qbt Tryz.call119 c1 rfl) (k := ?_) | refine stepS (Qbt Tryz.call120 c2 rfl) (k := ?_) | refine Qbs ?_ | refine Qbu ?_ | refine Qbr ?_ | refine Qb2 (hf := ?_) | refine Qbz ?_ | refine Qby ?_ | fail))
 refine QbD (fun mm st => ∃ k : Nat, k <= N.length /\ mm = N.length - k /\ 0 <= Pl.QaV F (N.take k) /\ Pl.QaV F (N.take k) <= k * 1000000 /\
  st = ⟨45, [(31, .d (.sl true 10 (N.map rNode))), (32, .d (dI N.length)), (33, .d (dI k)), (14, .d (dI (Pl.QaV F (N.take k)))), (3, .fn (.func f) []), (13, .d (dB fine))], []⟩) [31, 32, 33, 14, 3, 13] 0 N.length ⟨0, by omega, rfl, by simp [Pl.QaV], by simp [Pl.QaV], by simp [keepE, go_sem, Pl.QaV]⟩ (round := ?_)
 rintro mm st ⟨k, hk, rfl, hs1, hs2, rfl⟩
 (repeat (first | refine e1 (k := ?_) | refine Qbs ?_ | refine Qbu ?_ | refine Qbr ?_ | fail))
 cases q3 : decide ((k : Int) < (N.length : Int))
 ·(repeat' (first | refine e1 (k := ?_) | refine Qbs ?_ | refine Qbu ?_ | refine Qbr ?_ | refine Qb2 (hf := ?_) | refine Qb5 ?_ | fail))
  refine QbP (hx := ?_)
  have : k = N.length := by simp at q3; omega
  rw [this, List.take_length]
 have hk2 : k < N.length := by simp at q3; omega
 obtain ⟨y, hy⟩ : ∃ y, N[k]? = some y := ⟨_, List.getElem?_eq_getElem hk2⟩
 have hr := QbC (f := rNode) hy
 have hyb := hNb.out y (List.mem_of_getElem? hy)
 have hstep : Hid (Pl.QaV F (N.take (k + 1)) = Pl.QaV F (N.take k) + F y) := Pm.hid (by
  unfold Pl.QaV
  rw [List.take_add_one, hy]; simp)
 have c := hF y
 clear hy hNb
 generalize hs : Pl.QaV F (N.take (k + 1)) = s2 at *
 generalize Pl.QaV F (N.take k) = s1 at *
 generalize F y = fy at *
 (repeat' (first | refine e1 (k := ?_) | refine stepS (Qbx Ty.h rfl Ty.h rfl rfl rfl (by omega) hr) (k := ?_) | refine stepS (Qc3 hf c rfl rfl) (k := ?_) | refine stepS (Qb7 rfl rfl (by omega)) (k := ?_) | refine QbB (kk := ?_) | refine Qbs ?_ | refine Qb4 ?_ | refine QbG ?_ | refine Qbu ?_ | refine Qbr ?_ | refine Qb0 (ht := ?_) | refine Qbz ?_ | refine Qby ?_ | refine e2 (k := ?_) | fail))
 refine Qb9 (N.length - (k + 1)) (by omega) ⟨k + 1, by omega, rfl, ?_, ?_, ?_⟩
 ·rw [hs, hstep.out]; omega
 ·rw [hs, hstep.out]; omega
 ·rw [hs, hstep.out]; simp [keepE, go_sem]
theorem bBytes1 (n : Pl.Node) : Pure Tryz.prog 62 [dNode n] (dI (if n.kind = 2 then 0 else n.size)) := by
 obtain ⟨kd, links, size, ⟨⟨p1, p2, p3, p4, p5⟩, depth, many⟩⟩ := n
 simp only
 (refine Qbw Tryz.func62 rfl Tryz.ntmps62 Tryz.results62 rfl ?_; simp only [parE, Nat.zero_add, Nat.reduceAdd])
 (refine Qbu (Qbr ?_); (repeat (first | refine e1 (k := ?_) | refine e2 (k := ?_) | fail)); refine Qbs ?_)
 refine Qbv 0 (h := ?_)
 (repeat' (first | refine e1 (k := ?_) | refine Qbs ?_ | refine Qbu ?_ | refine Qbr ?_ | refine Qb3 (ht := fun q => ?_) (hf := fun q => ?_) | refine Qbz ?_ | fail))
 all_goals
  refine Qb1 (hx := ?_)
  simp_all
theorem Qio (s : Pm.Store) (t : Pl.Tree) (p : List UInt8) (r : Int × Bool) (c : PureF Tryz.prog 61 [.d (dSt s), .d (dTree t), .d (dS p), .fn (.func 62) []] (.tup [dI r.1, dB r.2])) :
 Pure Tryz.prog 20 [dSt s, dTree t, dS p] (.tup [dI r.1, dB r.2]) := by
 obtain ⟨a, b⟩ := r
 simp only at c ⊢
 (refine Qbw Tryz.func20 rfl Tryz.ntmps20 Tryz.results20 rfl ?_; simp only [parE, Nat.zero_add, Nat.reduceAdd])
 (refine Qbu (Qbr ?_); (repeat (first | refine e1 (k := ?_) | refine e2 (k := ?_) | fail)); refine Qbs ?_)
 refine Qbv 0 (h := ?_)
 refine Qbv 1 (h := ?_)
 (repeat' (first | refine e1 (k := ?_) | refine stepS (Qcu Tryz.call61 c rfl rfl) (k := ?_) | refine Qbs ?_ | refine Qbu ?_ | refine Qbr ?_ | fail))
 exact Qb1 (hx := rfl)
end Aw
end Go.Proofs.YtdjkdcokjoiokaaGreatDoor

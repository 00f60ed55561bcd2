/- Part 36 of the proof of use_card: contracts, walks, plain laws; no condition is assumed beyond those that a statement names. -/
import Derived.Test.YtdjkdcokjoiokaaGreatDoorU34
import Derived.Test.YtdjkdcokjoiokaaGreatDoorU35
set_option linter.all false
set_option maxRecDepth 100000
set_option maxHeartbeats 16000000
namespace Go.Proofs.YtdjkdcokjoiokaaGreatDoor
open Go.RowKit
namespace Aw
attribute [local irreducible] ASeq ADraw AWP Loc mget mset AStep Fg.PlanF Fg.Flts
noncomputable def Pl.nmD (names : List (List UInt8)) : D := if names = [] then .v (.slice none 0 0) else tStrs names
theorem QlO {P : Program} {f : FuncId} {c : Bool} {n : Nat} {x : D} (h : Pure P f [.sl c n []] x) : Pure P f [.v (.slice none 0 0)] x := by
 intro B σ S H w cargs hB hS hl hr;refine h B σ S H w cargs hB hS hl fun i d v hd hv => ?_
 match i, hd with
 |0, hd =>
  obtain rfl := Option.some.inj hd;have := hr 0 _ v rfl hv;cases this;exact .slnil _ _ _ _
theorem vg_mem (x : List (List UInt8)) (out : List Nat) (N : Nat) (Lx : List AV) (Hr : List Blk) (g : AV) (hg : g ∈ Pl.vg out) (ha : AV.ptr 0 0 0 ∈ Lx) (hb : AV.ptr 1 0 0 ∈ Lx) : g.ren (rho [0, 1, 2, 3] N) ∈ Lx ++ (Pl.vb x out ++ Hr).flatMap Blk.parts := by
 simp only [Pl.vg, List.mem_cons, List.not_mem_nil, or_false] at hg;rcases hg with rfl | rfl | rfl | rfl
 ·exact List.mem_append_left _ ha
 ·exact List.mem_append_left _ hb
 ·exact List.mem_append_right _ (by simp [Pl.vb, Blk.parts, AV.parts, AV.ren, rho])
 ·exact List.mem_append_right _ (by simp [Pl.vb, Blk.parts, AV.parts, AV.ren, rho])
theorem bWalk (s : Pm.Store) (t : Pl.Tree) (x : List (List UInt8)) (hx : Pl.TxOk x) (m : List (Int × D)) (hm : Pl.Qbm m (Pl.entL s x)) : ∀ (n : Nat) (L : List Nat) (k : Nat) (names : List (List UInt8)) (out : List Nat), L.length <= n -> Gr.FD (Pl.Qad (Pl.Qac x)) (Pl.chF s x) [k] L ->
 names.length + L.length <= 1000 -> (∀ a ∈ names, a.length <= 4) -> out.length + L.length <= 1000000 ->
 Does Tryz.prog 194 [.d (.pd (rFiles s t x m)), .d (dI k), .d (Pl.nmD names), .fn (.func 195) [.ptr 0 0 0, .ptr 1 0 0, .d (.pd [.pd (rFiles s t x m)])]] (Pl.vb x out) (Pl.vg out) (.tup []) (Pl.vb x (Pl.Qao out L)) := by
 intro n;induction n with
 |zero =>
  intro L k names out h1 h2;obtain ⟨L1, rfl, _⟩ := Qm1 h2;simp at h1
 |succ n ih =>
  intro L k names out h1 h2 h3 h4 h5;obtain ⟨L1, rfl, hfd, hk0⟩ := Qm1 h2;simp only [List.length_cons] at h1 h3 h5;have hvl := QdV (k :: L1) out;have dv := bVisit s t x hx m (Pl.Qbj names) out (by omega) k hk0
  obtain ⟨dn, g0, hdn, cp, hcl⟩ : ∃ (dn : D) (g0 : Nat), Pl.nmD names = dn /\ Pure Tryz.prog 269 [dn] (dS (Pl.Qbj names)) /\ Does Tryz.prog 174 [.d dn] [] [] (.osl 0 g0 0 names.length) [.arr g0 1 9 (names.map fun s => [dS s])] := by
   have cp := Qiz names (by omega) (fun a ha => by have := h4 a ha; omega)
   by_cases hn : names = []
   ·subst hn
    exact ⟨_, 0, rfl, QlO cp, QmY⟩
   ·exact ⟨tStrs names, 1, by unfold Pl.nmD; rw [if_neg hn], cp, QmX names (by omega) hn⟩
  rw [hdn];clear hdn;obtain ⟨hE, hgt⟩ := hm (k : Nat) (by omega);have hle := Qfy out k;refine Qca Tryz.func194 rfl Tryz.ntmps194 Tryz.results194 rfl rfl ?hpin (fun gvs => ?_)
  case hpin => exact Qo5 x out _ hvl.1 hvl.2.2
  simp only [parA, gslot, Nat.zero_add, Nat.reduceAdd];rw [Qdp];clear hvl h2 hk0;have hvm := fun (out : List Nat) (N : Nat) => vg_mem x out N
  generalize Pl.QaJ out k = out1 at *
  have hg : mget m (k : Nat) = some (.sl true 2 ((Pl.entL s x (k : Nat)).map rEnt)) ∨ mget m (k : Nat) = none /\ (Pl.entL s x (k : Nat)).map rEnt = [] := by
   rcases hgt with h | ⟨h1, h2⟩
   ·exact .inl h
   ·exact .inr ⟨h1, by rw [h2]; rfl⟩
  generalize Pl.entL s x (k : Nat) = es at *
  generalize Pl.Qbj names = pt at *
  clear hgt;have hes : es.length <= 12 := by have := hE; unfold Pl.Qaf at this; rw [Bool.and_eq_true, decide_eq_true_eq] at this; exact this.2
  refine Qd3 ?_;simp only [Pl.vb, Pl.vg] at dv ⊢
  (repeat' (first | refine e1 (k := ?_) | refine stepS (Qbs Tryz.call269 cp rfl) (k := ?_) | refine (QdS [0, 1, 2, 3] dv Tryz.call195 (hgl := fun g hg => hvm _ _ _ [] g hg (by simp [AV.parts, go_sem]) (by simp [AV.parts, go_sem])) (k := ?_)) | refine stepS (QbW rfl) (k := ?_) | refine stepS (Qfj Tryz.underlying263 Tryz.underlying3 (by kernel_rfl) rfl rfl hg) (k := ?_) | refine Qbr ?_ | refine Qbt ?_ | refine Qbq ?_ | refine Qbx ?_ | fail))
  refine QbC (fun mm st => ∃ (j : Nat) (Ld Lr : List Nat), j <= es.length /\ mm = es.length - j /\ Hid (L1 = Ld ++ Lr) /\ Hid (Gr.FD (Pl.Qad (Pl.Qac x)) (Pl.chF s x) ((es.drop j).map fun e => e.2.toNat) Lr) /\
   st = ⟨39, [(21, .d (tEnts es)), (22, .d (dI es.length)), (23, .d (dI j)), (0, .d (.pd (rFiles s t x m))), (2, .d dn), (3, .fn (.func 195) [.ptr 0 0 0, .ptr 1 0 0, .d (.pd [.pd (rFiles s t x m)])]), (1000000, .gh [.ptr 0 0 0, .ptr 1 0 0, .mp 2 0, .osl 3 out.length 0 out.length] gvs)],
    [.row 0 [.mp 2 0], .row 0 [.osl 3 (Pl.Qao out1 Ld).length 0 (Pl.Qao out1 Ld).length], .mp 0 (imap (Pl.Qbh (Pl.Qao out1 Ld))), .arr (Pl.Qao out1 Ld).length 10 105 ((Pl.Qao out1 Ld).map fun k => rNode ((Pl.Qac x).getD k Pl.zn))]⟩)
   [21, 22, 23, 0, 2, 3, 1000000] 4 es.length ⟨0, [], L1, by omega, rfl, Pm.hid rfl, Pm.hid hfd, by simp [keepE, go_sem, Pl.Qao]⟩ (round := ?_)
  rintro mm st ⟨j, Ld, Lr, hj, rfl, hL, hF, rfl⟩
  (repeat (first | refine e1 (k := ?_) | refine Qbr ?_ | refine Qbt ?_ | refine Qbq ?_ | fail))
  cases q3 : decide ((j : Int) < (es.length : Int))
  ·have hje : j = es.length := by simp at q3; omega
   have hLd : L1 = Ld := by
    have h := hF.out;rw [hje, List.drop_length] at h;cases h;rw [hL.out, List.append_nil]
   clear dv hcl cp ih hvm;subst hLd
   (repeat' (first | refine Qb1 (hf := ?_) | refine Qb3 ?_ | refine Qlw ?_ | refine QiB ?_ | fail))
   exact Qd4 4 .normal (.inl rfl) rfl rfl rfl rfl rfl rfl rfl
  have hj2 : j < es.length := by simp at q3; omega
  obtain ⟨e, he⟩ : ∃ e, es[j]? = some e := ⟨_, List.getElem?_eq_getElem hj2⟩;have hr := QbB (f := rEnt) he;have heb := ent_b hE e (List.mem_of_getElem? he);have hdr : es.drop j = e :: es.drop (j + 1) := by rw [List.drop_eq_getElem_cons hj2, (List.getElem?_eq_some_iff.1 he).2]
  have hF2 := hF.out;rw [hdr, List.map_cons] at hF2;obtain ⟨M, R, rfl, hM, hR⟩ := Qm3 hF2;obtain ⟨nmE, id⟩ := e;simp only at heb hM;obtain ⟨kid, rfl⟩ := Int.eq_ofNat_of_zero_le (show 0 <= id by omega);rw [Int.toNat_natCast] at hM;have hLl := congrArg List.length hL.out;simp only [List.length_append] at hLl;have hvl := QdV Ld out1
  have h4' : ∀ a ∈ names ++ [nmE], a.length <= 4 := fun a ha => by
   rcases List.mem_append.1 ha with h | h
   ·exact h4 a h
   ·rw [List.mem_singleton.1 h]; exact Qeb heb.1
  have ih2 := ih M kid (names ++ [nmE]) (Pl.Qao out1 Ld) (by omega) hM (by simp; omega) h4' (by omega);have hnm : Pl.nmD (names ++ [nmE]) = tStrs (names ++ [nmE]) := by unfold Pl.nmD; rw [if_neg (by simp)]
  rw [hnm, <- Qkp] at ih2
  replace hR := Pm.hid hR
  clear he hdr hF2 hF hM ih hnm dv cp hvl h4 h4';have hL2 : Hid (L1 = (Ld ++ M) ++ R) := Pm.hid (by rw [List.append_assoc]; exact hL.out);clear hL hLl hfd;generalize ho3 : Pl.Qao out1 (Ld ++ M) = o3 at *
  generalize Pl.Qao out1 Ld = o2 at *
  simp only [Pl.vb, Pl.vg] at ih2
  (repeat' (first | refine e1 (k := ?_) | refine stepS (Qbw Ty.h rfl Ty.h rfl rfl rfl (by omega) hr) (k := ?_) | refine (Qbu 4 (h := Fg.awp_drawF (id := 4) [0, 1, 2, 3, 5, 6, 7, 9] [4, 8, 10] follows_mixed (by kernel_rfl) (by kernel_rfl) (by kernel_rfl) ?_)) | refine (Fg.aw_flt (k := ?_)) | refine (Fg.aw_fltL (hl := fun H => QjI Ty.h rfl Ty.h) (k := ?_)) | refine (Fg.aw_fltN ?_) | refine (Fg.aw_planFC (by rfl) (by kernel_rfl) rfl ?_) | refine (Fg.aw_planFN ?_) | refine (Qfu [] hcl Tryz.call174 (x' := .osl 5 g0 0 names.length) (hX := fun _ h => h) (H' := [.row 0 [.mp 2 0], .row 0 [.osl 3 o2.length 0 o2.length], .mp 0 (imap (Pl.Qbh o2)), .arr o2.length 10 105 (o2.map fun k => rNode ((Pl.Qac x).getD k Pl.zn)), .row 1 [], .arr g0 1 9 (names.map fun s => [dS s])]) (hH := fun _ h => h) (k := ?_)) | refine (Qkf Ty.h rfl Ty.h (hcell := ?_) (hb := ?_) (kk := ?_)) | refine (Qna 5 [0, 1, 2, 3] ih2 Tryz.call194 (H' := [.row 0 [.mp 2 0], .row 0 [.osl 3 o3.length 0 o3.length], .mp 0 (imap (Pl.Qbh o3)), .arr o3.length 10 105 (o3.map fun k => rNode ((Pl.Qac x).getD k Pl.zn)), .row 1 [], .arr (g0 + 1 + 1) 1 9 []]) (hH := ?_) (hargs := ?_) (hgl := ?_) (k := ?_)) | refine stepS (Qb6 rfl rfl (by omega)) (k := ?_) | refine QbA (kk := ?_) | refine Qbr ?_ | refine Qb4 ?_ | refine Qb5 ?_ | refine Qcb ?_ | refine Qbt ?_ | refine Qbq ?_ | refine Qbz (ht := ?_) | refine Qby ?_ | refine Qbx ?_ | refine e2 (k := ?_) | fail))
  ·intro r hr d hd
   obtain rfl := List.mem_singleton.1 hr;obtain rfl := List.mem_singleton.1 hd;rfl
  ·show ((names.map fun s => [dS s]).length + 1) * 16 <= 140737488355328
   rw [List.length_map]; omega
  ·have htk : ((names.map fun s => [dS s]) ++ [[dS nmE]]).take ((names.map fun s => [dS s]).length + [[dS nmE]].length) = (names ++ [nmE]).map fun s => [dS s] := by
    rw [List.take_of_length_le (by simp), List.map_append]; rfl
   exact congrArg (fun r => [AV.d (.pd (rFiles s t x m)), AV.d (dI (kid : Nat)), AV.d (.sl true 1 r), AV.fn (.func 195) [.ptr 0 0 0, .ptr 1 0 0, .d (.pd [.pd (rFiles s t x m)])]]) htk
  ·exact fun g hg => hvm _ _ _ [_, _] g hg (by simp [AV.parts, go_sem]) (by simp [AV.parts, go_sem])
  ·intro R hR; exact hR
  skip
  all_goals first
   |(refine Qb8 (es.length - (j + 1)) (by omega) ⟨j + 1, Ld ++ M, R, by omega, rfl, hL2, hR, ?_⟩
     rw [ho3]
     simp [keepE, go_sem]; done)
noncomputable def Pl.Qa0 (s : Pm.Store) (x : List (List UInt8)) (p : List UInt8) : Int := match Pl.Qah p with | none => -1 | some q => (Pl.QaX (Pl.entL s x) 0 q).getD (-1)
noncomputable abbrev Pl.rowsOf (x : List (List UInt8)) (M : List Nat) : List (List D) := M.map fun k => rNode ((Pl.Qac x).getD k Pl.zn)
theorem QgW {P : Program} {dst : Option Tmp} {ty : TypeId} {pos : String} {after : Array Edge} {gd : Option (Nat × Bool)} {env : List (Nat × AV)} {H : List Blk} {fn : Fn} {u1 u2 u3 : Operand} {a b c : AV} (h1 : aval env u1 = a) (h2 : aval env u2 = b) (h3 : aval env u3 = c) :
 Loc P ⟨dst, .makeFunc fn #[] #[u1, u2, u3], ty, pos, after, gd⟩ env H (.fn fn [a, b, c]) none := by
 subst h1; subst h2; subst h3; exact QdE
theorem vg_mem0 (Lx : List AV) (Hx : List Blk) (g : AV) (hg : g ∈ Pl.vg []) (ha : AV.ptr 4 0 0 ∈ Lx) (hb : AV.ptr 1 0 0 ∈ Lx) (hc : AV.mp 3 0 ∈ Hx.flatMap Blk.parts) (hd : AV.osl 2 0 0 0 ∈ Hx.flatMap Blk.parts) (N : Nat) : g.ren (rho [4, 1, 3, 2] N) ∈ Lx ++ Hx.flatMap Blk.parts := by
 simp only [Pl.vg, List.mem_cons, List.not_mem_nil, or_false] at hg;rcases hg with rfl | rfl | rfl | rfl
 ·exact List.mem_append_left _ ha
 ·exact List.mem_append_left _ hb
 ·exact List.mem_append_right _ hc
 ·exact List.mem_append_right _ hd
theorem Qoi (s : Pm.Store) (t : Pl.Tree) (x : List (List UInt8)) (m : List (Int × D)) (hm : Pl.Qbm m (Pl.entL s x)) (p : List UInt8) (hp : p.length <= 1000000000000) (hat : Pl.Qa0 s x p < 0) :
 Pure Tryz.prog 120 [.pd (rFiles s t x m), dS p] (.tup [.sl true 10 [], dB false]) := by
 have c : Pure Tryz.prog 193 [.pd (rFiles s t x m), dS p] (dI (Pl.Qa0 s x p)) := by unfold Pl.Qa0; exact bPath s t x m _ hm p hp
 generalize Pl.Qa0 s x p = at_ at *
 (refine Qbv Tryz.func120 rfl Tryz.ntmps120 Tryz.results120 rfl ?_; simp only [parE, Nat.zero_add, Nat.reduceAdd])
 (refine Qbt (Qbq ?_); (repeat (first | refine e1 (k := ?_) | refine e2 (k := ?_) | fail)); refine Qbr ?_)
 refine Qbu 0 (h := ?_)
 (repeat' (first | refine e1 (k := ?_) | refine stepS (Qbs Tryz.call193 c rfl) (k := ?_) | refine stepS2 (Qc5) (k := ?_) | refine QbA (kk := ?_) | refine Qbr ?_ | refine Qbt ?_ | refine Qbq ?_ | refine Qb2 (ht := fun q => ?_) (hf := fun q => ?_) | refine Qby ?_ | refine e2 (k := ?_) | fail))
 all_goals first
  |(exfalso; simp only [decide_eq_false_iff_not] at *; omega)
  |(refine Qco 4 true 10 (h := ?_)
    exact Qb0 (hx := rfl))
theorem QmZ (s : Pm.Store) (t : Pl.Tree) (x : List (List UInt8)) (hx : Pl.TxOk x) (m : List (Int × D)) (hm : Pl.Qbm m (Pl.entL s x)) (p : List UInt8) (hp : p.length <= 1000000000000) (j : Nat) (hat : Pl.Qa0 s x p = j) (L : List Nat) (hL : L.length <= 1000) (hfd : Gr.FD (Pl.Qad (Pl.Qac x)) (Pl.chF s x) [j] L) :
 Pure Tryz.prog 120 [.pd (rFiles s t x m), dS p] (.tup [.sl true 10 (Pl.rowsOf x (Pl.Qao [] L)), dB true]) := by
 have c : Pure Tryz.prog 193 [.pd (rFiles s t x m), dS p] (dI (Pl.Qa0 s x p)) := by unfold Pl.Qa0; exact bPath s t x m _ hm p hp
 rw [hat] at c;have dw := bWalk s t x hx m hm L.length L j [] [] (Nat.le_refl _) hfd (by simpa using hL) (fun a ha => by simp at ha) (by simp; omega);have hgl := vg_mem0;rw [show Pl.nmD [] = .v (.slice none 0 0) by unfold Pl.nmD; rw [if_pos rfl]] at dw;generalize Pl.Qao [] L = M at *
 clear hfd hL;simp only [Pl.vb, Pl.vg] at dw
 (refine Qbv Tryz.func120 rfl Tryz.ntmps120 Tryz.results120 rfl ?_; simp only [parE, Nat.zero_add, Nat.reduceAdd])
 (refine Qbt (Qbq ?_); (repeat (first | refine e1 (k := ?_) | refine e2 (k := ?_) | fail)); refine Qbr ?_)
 refine Qbu 0 (h := ?_)
 (repeat' (first | refine e1 (k := ?_) | refine stepS (Qbs Tryz.call193 c rfl) (k := ?_) | refine stepS2 (Qc5) (k := ?_) | refine (Qkd 1 0 10 105 (h := ?_)) | refine stepS (QgW rfl rfl rfl) (k := ?_) | refine (Qgi [4, 1, 3, 2] dw Tryz.call194 (hgl := fun g hg => hgl _ _ g hg (by simp [AV.parts, go_sem]) (by simp [AV.parts, go_sem]) (by simp [Blk.parts, AV.parts]) (by simp [Blk.parts, AV.parts]) _) (k := ?_)) | refine QbA (kk := ?_) | refine Qbr ?_ | refine Qbt ?_ | refine Qbq ?_ | refine Qb1 (hf := ?_) | refine Qby ?_ | refine e2 (k := ?_) | fail))
 all_goals first
  |(exfalso; simp only [decide_eq_true_eq] at *; omega)
  |skip
 refine QcF [4, 5] 3 (h := ?_);refine Qbu 2 (h := ?_);refine Qb0 (hx := ?_);rw [List.take_of_length_le (by simp)]
end Aw
end Go.Proofs.YtdjkdcokjoiokaaGreatDoor
namespace Go.Proofs.YtdjkdcokjoiokaaGreatDoor
open Go.RowKit
namespace Aw
attribute [local irreducible] ASeq ADraw AWP Loc
def Pl.QaR (refs : List Int) (i : Nat) (r : List UInt8) : Bool := decide (r.length <= 128) && ((r == []) == (refs.getD i 0 == 0))
theorem Qk0 {s : Pm.Store} (h : s.2.1.2.length = 64) : Pl.QaZ s = (((List.range 64).all fun i => Pl.QaR s.2.1.1 i (s.1.getD i [])) && decide (Pl.maxL s.2.1.2 <= s.2.2.1)) := by
 have hne : s.2.1.2 ≠ [] := fun e => by rw [e] at h; cases h
 rw [Bool.eq_iff_iff];unfold Pl.QaZ Pl.QaI Pl.QaR;simp only [Bool.and_eq_true, List.all_eq_true, decide_eq_true_eq, List.mem_range];rw [maxL_le hne];constructor
 ·intro hh
  refine ⟨fun i hi => (hh i hi).1, fun y hy => ?_⟩;obtain ⟨i, hi, rfl⟩ := List.getElem_of_mem hy;have := (hh i (by omega)).2
  rwa [List.getD_eq_getElem?_getD, List.getElem?_eq_getElem hi] at this
 ·rintro ⟨h1, h2⟩ i hi
  refine ⟨h1 i hi, ?_⟩;rw [List.getD_eq_getElem?_getD, List.getElem?_eq_getElem (by omega)];exact h2 _ (List.getElem_mem _)
theorem QnX (s : Pm.Store) (b1 : s.2.1.1.length <= Pm.big) (b2 : s.2.1.2.length <= Pm.big) (b3 : s.2.2.2.1.length <= 1000000000000) (b4 : s.2.2.2.2.2.1.length <= 1000000000000) (i1 : ∀ n ∈ s.2.1.1, Pm.InI n) (i2 : ∀ n ∈ s.2.1.2, Pm.InI n) :
 Pure Tryz.prog 146 [dSt s] (dB (Pl.Qag s)) := by
 have hd : Hid (Pl.Qag s = ((s.1.length == 64) && Pl.spaceOk s.2.1 && Pl.inR s.2.2.1 1 900 && Pl.inR s.2.2.2.2.1 0 (s.2.2.1 - 1) && Pl.QaZ s && Pl.QaY s.2.1.1 (Pl.owed s) (List.replicate 64 0))) := Pm.hid rfl;have cS := QnY s.2.1 b1 b2 i1 i2;have cT := bIn s.2.2.1 1 900;have cK := bIn s.2.2.2.2.1 0 (s.2.2.1 - 1)
 by_cases hlen : s.1.length = 64
 rotate_left
 ·have hf : Pl.Qag s = false := by rw [hd.out, beq_eq_false_iff_ne.2 hlen]; rfl
  (refine Qbv Tryz.func146 rfl Tryz.ntmps146 Tryz.results146 rfl ?_; simp only [parE, Nat.zero_add, Nat.reduceAdd])
  (refine Qbt (Qbq ?_); (repeat (first | refine e1 (k := ?_) | refine e2 (k := ?_) | fail)); refine Qbr ?_)
  refine Qbu 0 (h := ?_);have hne : ((s.1.length : Int) != 64) = true := by rw [bne_iff_ne]; omega
  (repeat' (first | refine f1 (k := ?_) | refine e1 (k := ?_) | refine f0 (k := ?_) | refine Qbr ?_ | refine Qb5 ?_ | refine Qbt ?_ | refine Qbq ?_ | refine QbE follows_mixed (by kernel_rfl) (by kernel_rfl) ?_ | refine Qbz (ht := ?_) | ((fail_if_success show ADraw _ _ _ _ ⟨_, (_, .d (.v (.bool true))) :: _, _⟩); (fail_if_success show ADraw _ _ _ _ ⟨_, (_, .d (.v (.bool false))) :: _, _⟩); refine splitD (fun q => ?_) (fun q => ?_))))
  all_goals first
   |(refine Qb0 (hx := ?_); rw [hf])
   |(exfalso; simp_all; done)
 have hne : ((s.1.length : Int) != 64) = false := by rw [hlen]; rfl
 cases hsp : Pl.spaceOk s.2.1
 ·have hf : Pl.Qag s = false := by rw [hd.out, hsp]; simp
  rw [hsp] at cS
  (refine Qbv Tryz.func146 rfl Tryz.ntmps146 Tryz.results146 rfl ?_; simp only [parE, Nat.zero_add, Nat.reduceAdd])
  (refine Qbt (Qbq ?_); (repeat (first | refine e1 (k := ?_) | refine e2 (k := ?_) | fail)); refine Qbr ?_)
  refine Qbu 0 (h := ?_)
  (repeat' (first | refine f1 (k := ?_) | refine e1 (k := ?_) | refine f0 (k := ?_) | refine stepD (Qbs Tryz.call215 cS rfl) (k := ?_) | refine Qbr ?_ | refine Qb5 ?_ | refine Qbt ?_ | refine Qbq ?_ | refine QbE follows_mixed (by kernel_rfl) (by kernel_rfl) ?_ | refine Qbz (ht := ?_) | ((fail_if_success show ADraw _ _ _ _ ⟨_, (_, .d (.v (.bool true))) :: _, _⟩); (fail_if_success show ADraw _ _ _ _ ⟨_, (_, .d (.v (.bool false))) :: _, _⟩); refine splitD (fun q => ?_) (fun q => ?_))))
  all_goals first
   |(refine Qb0 (hx := ?_); rw [hf])
   |(exfalso; simp_all; done)
 cases hT : Pl.inR s.2.2.1 1 900
 ·have hf : Pl.Qag s = false := by rw [hd.out, hT]; simp
  rw [hT] at cT;rw [hsp] at cS
  (refine Qbv Tryz.func146 rfl Tryz.ntmps146 Tryz.results146 rfl ?_; simp only [parE, Nat.zero_add, Nat.reduceAdd])
  (refine Qbt (Qbq ?_); (repeat (first | refine e1 (k := ?_) | refine e2 (k := ?_) | fail)); refine Qbr ?_)
  refine Qbu 0 (h := ?_)
  (repeat' (first | refine f1 (k := ?_) | refine e1 (k := ?_) | refine f0 (k := ?_) | refine stepD (Qbs Tryz.call215 cS rfl) (k := ?_) | refine stepD (Qbs Tryz.call45 cT rfl) (k := ?_) | refine Qbr ?_ | refine Qb5 ?_ | refine Qbt ?_ | refine Qbq ?_ | refine QbE follows_mixed (by kernel_rfl) (by kernel_rfl) ?_ | refine Qbz (ht := ?_) | ((fail_if_success show ADraw _ _ _ _ ⟨_, (_, .d (.v (.bool true))) :: _, _⟩); (fail_if_success show ADraw _ _ _ _ ⟨_, (_, .d (.v (.bool false))) :: _, _⟩); refine splitD (fun q => ?_) (fun q => ?_))))
  all_goals first
   |(refine Qb0 (hx := ?_); rw [hf])
   |(exfalso; simp_all; done)
 have hTb : 1 <= s.2.2.1 /\ s.2.2.1 <= 900 := by simpa [Pl.inR] using hT
 cases hK : Pl.inR s.2.2.2.2.1 0 (s.2.2.1 - 1)
 ·have hf : Pl.Qag s = false := by rw [hd.out, hK]; simp
  rw [hT] at cT;rw [hsp] at cS;rw [hK] at cK
  (refine Qbv Tryz.func146 rfl Tryz.ntmps146 Tryz.results146 rfl ?_; simp only [parE, Nat.zero_add, Nat.reduceAdd])
  (refine Qbt (Qbq ?_); (repeat (first | refine e1 (k := ?_) | refine e2 (k := ?_) | fail)); refine Qbr ?_)
  refine Qbu 0 (h := ?_)
  (repeat' (first | refine f1 (k := ?_) | refine e1 (k := ?_) | refine f0 (k := ?_) | refine stepD (Qbs Tryz.call215 cS rfl) (k := ?_) | refine stepD (Qbs Tryz.call45 cT rfl) (k := ?_) | refine stepD (Qbs Tryz.call45 cK rfl) (k := ?_) | refine stepD (QbN rfl rfl (by omega)) (k := ?_) | refine Qbr ?_ | refine Qb5 ?_ | refine Qbt ?_ | refine Qbq ?_ | refine QbE follows_mixed (by kernel_rfl) (by kernel_rfl) ?_ | refine Qbz (ht := ?_) | ((fail_if_success show ADraw _ _ _ _ ⟨_, (_, .d (.v (.bool true))) :: _, _⟩); (fail_if_success show ADraw _ _ _ _ ⟨_, (_, .d (.v (.bool false))) :: _, _⟩); refine splitD (fun q => ?_) (fun q => ?_))))
  all_goals first
   |(refine Qb0 (hx := ?_); rw [hf])
   |(exfalso; simp_all; done)
 have hsp1 : s.2.1.1.length = 64 /\ s.2.1.2.length = 64 := by simp [Pl.spaceOk] at hsp; exact hsp.1
 have cM := bMax s.2.1.2 (by omega) (by omega)
 have hd2 : Hid (Pl.Qag s = (((List.range 64).all fun i => Pl.QaR s.2.1.1 i (s.1.getD i [])) && decide (Pl.maxL s.2.1.2 <= s.2.2.1) && Pl.owes s)) := Pm.hid (by
  rw [hd.out, hlen, hsp, hT, hK, Qk0 hsp1.2, Qk7 (Qkx hsp)]; rfl)
 rw [hT] at cT;rw [hsp] at cS;rw [hK] at cK;clear hd hsp hT hK;have hrow : Hid (∀ k, Pl.QaR s.2.1.1 k (s.1.getD k []) = (decide ((s.1.getD k []).length <= 128) && ((s.1.getD k [] == []) == (s.2.1.1.getD k 0 == 0)))) := Pm.hid fun k => rfl
 have hrf : Hid (∀ k, k < 64 -> Pl.QaR s.2.1.1 k (s.1.getD k []) = false -> Pl.Qag s = false) := Pm.hid fun k hk h => by
  rw [hd2.out, Pl.QbH hk h]; rfl
 have how : Hid (Pl.owes s = ((Pl.cntP s.2.1.1 (s.2.2.1 - 1) s.2.2.2.1 (List.replicate 64 0)).1 && (Pl.cntP s.2.1.1 s.2.2.2.2.1 s.2.2.2.2.2.1 (Pl.cntP s.2.1.1 (s.2.2.1 - 1) s.2.2.2.1 (List.replicate 64 0)).2).1 &&
  (List.range 64).all fun i => decide ((Pl.cntP s.2.1.1 s.2.2.2.2.1 s.2.2.2.2.2.1 (Pl.cntP s.2.1.1 (s.2.2.1 - 1) s.2.2.2.1 (List.replicate 64 0)).2).2.getD i 0 <= s.2.1.1.getD i 0))) := Pm.hid rfl
 have fa1 := Qee s.2.1.1 (s.2.2.1 - 1) s.2.2.2.1 (List.replicate 64 0) 0 (by decide) (fun y hy => by rw [(List.mem_replicate.1 hy).2]; decide);have dd1 := bCount s hsp1.1 s.2.2.2.1 b3 (s.2.2.1 - 1) (List.replicate 64 0) (by simp) (fun y hy => by rw [(List.mem_replicate.1 hy).2]; decide) 0;generalize Pl.cntP s.2.1.1 (s.2.2.1 - 1) s.2.2.2.1 (List.replicate 64 0) = r1 at *
 obtain ⟨o1, m1⟩ := r1;simp only at fa1 how;have fa2 := Qee s.2.1.1 s.2.2.2.2.1 s.2.2.2.2.2.1 m1 1000000000000 (by decide) (fun y hy => by have := fa1.2 y hy; omega);have dd2 := bCount s hsp1.1 s.2.2.2.2.2.1 b4 s.2.2.2.2.1 m1 (by simpa using fa1.1) (fun y hy => by have := fa1.2 y hy; omega) 0;generalize Pl.cntP s.2.1.1 s.2.2.2.2.1 s.2.2.2.2.2.1 m1 = r2 at *
 obtain ⟨o2, m2⟩ := r2;simp only at fa2 how;generalize Pl.maxL s.2.1.2 = mx at *
 generalize hst : Pl.Qag s = res at *
 clear hst b1 b2 i1 i2
 (refine Qbv Tryz.func146 rfl Tryz.ntmps146 Tryz.results146 rfl ?_; simp only [parE, Nat.zero_add, Nat.reduceAdd])
 (refine Qbt (Qbq ?_); (repeat (first | refine e1 (k := ?_) | refine e2 (k := ?_) | fail)); refine Qbr ?_)
 refine Qbu 0 (h := ?_)
 (repeat' (first | refine f1 (k := ?_) | refine e1 (k := ?_) | refine f0 (k := ?_) | refine stepD (Qbs Tryz.call215 cS rfl) (k := ?_) | refine stepD (Qbs Tryz.call45 cT rfl) (k := ?_) | refine stepD (Qbs Tryz.call45 cK rfl) (k := ?_) | refine stepD (QbN rfl rfl (by omega)) (k := ?_) | refine stepD (Qbs Tryz.call216 cM rfl) (k := ?_) | refine Qbr ?_ | refine Qb5 ?_ | refine Qbt ?_ | refine Qbq ?_ | refine QbE follows_mixed (by kernel_rfl) (by kernel_rfl) ?_ | refine Qbz (ht := ?_) | refine Qb2 (ht := fun q => ?_) (hf := fun q => ?_) | refine Qby ?_ | refine Qbx ?_ | ((fail_if_success show ADraw _ _ _ _ ⟨_, (_, .d (.v (.bool true))) :: _, _⟩); (fail_if_success show ADraw _ _ _ _ ⟨_, (_, .d (.v (.bool false))) :: _, _⟩); refine splitD (fun q => ?_) (fun q => ?_))))
 all_goals first
  |(exfalso; clear hrow how hrf hd2 dd1 dd2; simp_all; done)
  |(refine Qb0 (hx := ?_)
    rw [hd2.out, decide_eq_false (by clear hrow how hrf hd2 dd1 dd2; simp at *; omega), Bool.and_false, Bool.false_and]; done)
  |skip
 have hmx : decide (mx <= s.2.2.1) = true := decide_eq_true (by clear hrow how hrf hd2 dd1 dd2; simp at *; omega)
 refine QbC (fun m st => ∃ k : Nat, k <= 64 /\ m = 64 - k /\ Hid ((List.range k).all (fun i => Pl.QaR s.2.1.1 i (s.1.getD i [])) = true) /\
  st = ⟨102, [(1, .d (.pd (rSt s))), (44, .d (dStrs s.1)), (45, .d (dI s.1.length)), (46, .d (dI k))], []⟩) [1, 44, 45, 46] 0 64 ⟨0, by omega, rfl, Pm.hid rfl, by simp [keepE, go_sem]⟩ (round := ?_)
 rintro m st ⟨k, hk, rfl, hA, rfl⟩
 (repeat (first | refine e1 (k := ?_) | refine Qbr ?_ | refine Qbt ?_ | refine Qbq ?_ | fail))
 cases q3 : decide ((k : Int) < (s.1.length : Int));rotate_left
 ·have hk2 : k < 64 := by simp at q3; omega
  obtain ⟨r, hr0⟩ : ∃ r, s.1[k]? = some r := ⟨_, List.getElem?_eq_getElem (by omega)⟩;obtain ⟨rf, hf0⟩ : ∃ rf, s.2.1.1[k]? = some rf := ⟨_, List.getElem?_eq_getElem (by omega)⟩;have hr := QbB (f := fun s => [dS s]) hr0;have hf := QbB (f := fun n => [dI n]) hf0;have hbad := Pm.hid (hrf.out k hk2);have hgood : Hid (Pl.QaR s.2.1.1 k (s.1.getD k []) = true -> (List.range (k + 1)).all (fun i => Pl.QaR s.2.1.1 i (s.1.getD i [])) = true) := Pm.hid fun h => Pl.QbL hA.out h
  have hro : Hid (Pl.QaR s.2.1.1 k (s.1.getD k []) = (!decide ((r.length : Int) > 128) && ((r == []) == (rf == 0)))) := Pm.hid (by
   rw [hrow.out k];simp only [List.getD_eq_getElem?_getD, hr0, hf0, Option.getD_some]
   have : decide (r.length <= 128) = !decide ((r.length : Int) > 128) := by
    by_cases h : r.length <= 128
    ·rw [decide_eq_true h, decide_eq_false (by omega)]; rfl
    ·rw [decide_eq_false h, decide_eq_true (by omega)]; rfl
   rw [this])
  clear hrow how hrf hd2 dd1 dd2 hr0 hf0 hA fa1 fa2;generalize Pl.QaR s.2.1.1 k (s.1.getD k []) = ro at *
  (repeat' (first | refine e1 (k := ?_) | refine e0 (k := ?_) | refine stepS (Qbw Ty.h rfl Ty.h rfl rfl rfl (by omega) hr) (k := ?_) | refine stepS (Qbw Ty.h rfl Ty.h rfl rfl rfl (by omega) hf) (k := ?_) | refine stepS (Qdw Tryz.underlying4 rfl rfl) (k := ?_) | refine stepS (Qb6 rfl rfl (by omega)) (k := ?_) | refine stepS (QbK rfl rfl) (k := ?_) | refine Qbr ?_ | refine Qb4 ?_ | refine Qbt ?_ | refine Qbq ?_ | refine Qbz (ht := ?_) | refine Qb2 (ht := fun q => ?_) (hf := fun q => ?_) | refine Qby ?_ | refine Qbx ?_ | ((fail_if_success show ASeq _ _ _ _ ⟨_, (_, .d (.v (.bool true))) :: _, _⟩); (fail_if_success show ASeq _ _ _ _ ⟨_, (_, .d (.v (.bool false))) :: _, _⟩); refine splitS (fun q => ?_) (fun q => ?_))))
  all_goals clear hr hf
  all_goals first
   |(exfalso; omega)
   |(refine Qb0 (hx := ?_)
     rw [hbad.out (by rw [hro.out]; clear hbad hgood hro; simp_all)]; done)
   |exact Qb8 (64 - (k + 1)) (by omega) ⟨k + 1, by omega, rfl, Pm.hid (hgood.out (by rw [hro.out]; clear hbad hgood hro; simp_all)), by simp [keepE, go_sem]⟩
 have hk64 : k = 64 := by simp at q3; omega
 subst hk64
 have hd3 : Hid (res = Pl.owes s) := Pm.hid (by
  rw [hd2.out, hA.out, hmx]; rfl)
 clear hrow hrf hd2 hA;simp only [List.map_replicate] at dd1;simp only at dd1 dd2
 have hgl1 : ∀ (L : List AV) (B : Blk) (g : AV), g ∈ [AV.ptr 0 0 0, AV.osl 1 0 0 64] -> AV.ptr 1 0 0 ∈ L -> B.parts = [] -> g.ren (rho [1, 0] 2) ∈ L ++ [B, Blk.row 0 [.osl 0 0 0 64]].flatMap Blk.parts := fun L B g hg hL hB => by
  simp only [List.mem_cons, List.not_mem_nil, or_false] at hg;rcases hg with rfl | rfl
  ·exact List.mem_append_left _ hL
  ·refine List.mem_append_right _ ?_
   rw [List.flatMap_cons, hB];simp [Blk.parts, AV.parts, AV.ren, rho]
 (repeat' (first | refine e1 (k := ?_) | refine e0 (k := ?_) | refine stepS (QgX rfl rfl) (k := ?_) | refine stepS (QbN rfl rfl (by omega)) (k := ?_) | refine (QdS [1, 0] dd1 Tryz.call217 (hgl := fun g hg => hgl1 _ _ g hg (by simp [AV.parts, go_sem]) rfl) (k := ?_)) | refine (QdS [1, 0] dd2 Tryz.call217 (hgl := fun g hg => hgl1 _ _ g hg (by simp [AV.parts, go_sem]) rfl) (k := ?_)) | refine stepS2 (QjH Ty.h rfl Ty.h rfl rfl) (k := ?_) | refine QbA (kk := ?_) | refine Qbr ?_ | refine Qbt ?_ | refine Qbq ?_ | refine Qbz (ht := ?_) | refine Qb1 (hf := ?_) | refine Qb2 (ht := fun q => ?_) (hf := fun q => ?_) | refine Qby ?_ | refine Qbx ?_ | refine e2 (k := ?_) | refine Qb3 ?_ | ((fail_if_success show ASeq _ _ _ _ ⟨_, (_, .d (.v (.bool true))) :: _, _⟩); (fail_if_success show ASeq _ _ _ _ ⟨_, (_, .d (.v (.bool false))) :: _, _⟩); refine splitS (fun q => ?_) (fun q => ?_))))
 ·refine Qb0 (hx := ?_)
  rw [hd3.out, how.out, (by simpa using q : o1 = false)]; rfl
 ·refine Qb0 (hx := ?_)
  rw [hd3.out, how.out, (by simpa using q : o2 = false), Bool.and_false]; rfl
 have hm2 : m2.length = 64 := by rw [fa2.1, fa1.1]; simp
 have hd4 : Hid (res = (List.range 64).all fun i => decide (m2.getD i 0 <= s.2.1.1.getD i 0)) := Pm.hid (by
  rw [hd3.out, how.out];clear hd3 how dd1 dd2
  simp_all)
 clear hd3 how dd1 dd2 fa1 fa2 cS cT cK cM
 refine QbC (fun m st => ∃ k : Nat, k <= 64 /\ m = 64 - k /\ Hid ((List.range k).all (fun i => decide (m2.getD i 0 <= s.2.1.1.getD i 0)) = true) /\
  st = ⟨102, [(1, .d (.pd (rSt s))), (86, .osl 0 0 0 64), (87, .d (dI 64)), (88, .d (dI k))], [.arr 0 1 3 (m2.map fun n => [dI n])]⟩) [1, 86, 87, 88] 1 64 ⟨0, by omega, rfl, Pm.hid rfl, by simp [keepE, go_sem]⟩ (round := ?_)
 rintro m st ⟨k, hk, rfl, hA, rfl⟩
 (repeat (first | refine e1 (k := ?_) | refine Qbr ?_ | refine Qbt ?_ | refine Qbq ?_ | fail))
 cases q5 : decide ((k : Int) < 64)
 ·(repeat' (first | refine e1 (k := ?_) | refine Qbr ?_ | refine Qbt ?_ | refine Qbq ?_ | refine Qb1 (hf := ?_) | refine Qb3 ?_ | fail))
  refine Qb0 (hx := ?_);have : k = 64 := by simp at q5; omega
  subst this;rw [hd4.out, hA.out]
 have hk2 : k < 64 := by simp at q5; omega
 obtain ⟨mv, hmv⟩ : ∃ mv, m2[k]? = some mv := ⟨_, List.getElem?_eq_getElem (by omega)⟩;obtain ⟨rf, hf0⟩ : ∃ rf, s.2.1.1[k]? = some rf := ⟨_, List.getElem?_eq_getElem (by omega)⟩;have hmr := QbB (f := fun n => [dI n]) hmv;have hf := QbB (f := fun n => [dI n]) hf0;have hmr2 : (m2.map fun n => [dI n])[0 + ((k : Nat) : Int).toNat]? = some [dI mv] := by rw [Nat.zero_add]; exact hmr
 have hbad : Hid (decide (mv > rf) = true -> res = false) := Pm.hid fun h => by
  rw [hd4.out];refine Pl.QbH hk2 ?_;simp only [List.getD_eq_getElem?_getD, hmv, hf0, Option.getD_some];exact decide_eq_false (by simp at h; omega)
 have hgood : Hid (decide (mv > rf) = false -> (List.range (k + 1)).all (fun i => decide (m2.getD i 0 <= s.2.1.1.getD i 0)) = true) := Pm.hid fun h => Pl.QbL hA.out (by
  simp only [List.getD_eq_getElem?_getD, hmv, hf0, Option.getD_some]
  exact decide_eq_true (by simp at h; omega))
 clear hd4 hA hmv hf0
 (repeat' (first | refine e1 (k := ?_) | refine stepS (QbQ Ty.h rfl Ty.h rfl rfl rfl rfl (by omega) (by omega)) (k := ?_) | refine stepS (QbX Ty.h rfl rfl hmr2 rfl) (k := ?_) | refine stepS (Qbw Ty.h rfl Ty.h rfl rfl rfl (by omega) hf) (k := ?_) | refine stepS (Qb6 rfl rfl (by omega)) (k := ?_) | refine Qbr ?_ | refine Qb4 ?_ | refine Qbt ?_ | refine Qbq ?_ | refine Qbz (ht := ?_) | refine Qb2 (ht := fun q => ?_) (hf := fun q => ?_) | refine Qby ?_ | refine Qbx ?_ | fail))
 all_goals first
  |(refine Qb0 (hx := ?_)
    rw [hbad.out (by assumption)]; done)
  |exact Qb8 (64 - (k + 1)) (by omega) ⟨k + 1, by omega, rfl, Pm.hid (hgood.out (by assumption)), by simp [keepE, go_sem]⟩
end Aw
end Go.Proofs.YtdjkdcokjoiokaaGreatDoor
namespace Go.Proofs.YtdjkdcokjoiokaaGreatDoor
open Go.RowKit
namespace Aw
attribute [local irreducible] ASeq ADraw AWP Loc mget mset
def Pl.Qbp (s : Pm.Store) : Prop := ∀ n, Pl.Qap n = true -> n.kind = 1 -> Pure Tryz.prog 263 [.pd (rSt s), dNode n] (.tup [.any, dB (Pl.Qay s n)])
noncomputable def Pl.inD (s : Pm.Store) (t : Pl.Tree) : D := if Pl.Qag s then Pl.Qbi s t else .tup [.v (.pointer none), dB false]
theorem Qoe (s : Pm.Store) (t : Pl.Tree) (cS : Pure Tryz.prog 146 [dSt s] (dB (Pl.Qag s))) (hg : Pl.Qag s = true -> Pl.Good s /\ 0 <= s.2.2.1) (hT : Pl.Qag s = true -> Pl.Qbp s) :
 Pure Tryz.prog 119 [dSt s, dTree t] (Pl.inD s t) := by
 unfold Pl.inD;cases h : Pl.Qag s
 ·rw [h] at cS
  rw [if_neg (by simp)]
  (refine Qbv Tryz.func119 rfl Tryz.ntmps119 Tryz.results119 rfl ?_; simp only [parE, Nat.zero_add, Nat.reduceAdd])
  (refine Qbt (Qbq ?_); (repeat (first | refine e1 (k := ?_) | refine e2 (k := ?_) | fail)); refine Qbr ?_)
  refine Qbu 0 (h := ?_);refine Qbu 1 (h := ?_)
  (repeat' (first | refine e1 (k := ?_) | refine stepS (Qbs Tryz.call146 cS rfl) (k := ?_) | refine Qbr ?_ | refine Qbt ?_ | refine Qbq ?_ | refine Qbz (ht := ?_) | fail))
  exact Qb0 (hx := rfl)
 ·rw [h] at cS
  rw [if_pos rfl];have c := Qlb s (hg h).1 (hg h).2 t (hT h);obtain ⟨a, b, hab⟩ : ∃ a b, Pl.Qbi s t = .tup [a, b] := by unfold Pl.Qbi; split <;> exact ⟨_, _, rfl⟩
  rw [hab] at c ⊢;clear hab hg hT
  (refine Qbv Tryz.func119 rfl Tryz.ntmps119 Tryz.results119 rfl ?_; simp only [parE, Nat.zero_add, Nat.reduceAdd])
  (refine Qbt (Qbq ?_); (repeat (first | refine e1 (k := ?_) | refine e2 (k := ?_) | fail)); refine Qbr ?_)
  refine Qbu 0 (h := ?_);refine Qbu 1 (h := ?_)
  (repeat' (first | refine e1 (k := ?_) | refine stepS (Qbs Tryz.call146 cS rfl) (k := ?_) | refine stepS (Qbs Tryz.call192 c rfl) (k := ?_) | refine Qbr ?_ | refine Qbt ?_ | refine Qbq ?_ | refine Qb1 (hf := ?_) | refine Qby ?_ | fail))
  exact Qb0 (hx := rfl)
def Pl.QaV (F : Pl.Node -> Int) (N : List Pl.Node) : Int := (N.map F).sum
noncomputable def Pl.sumP (s : Pm.Store) (t : Pl.Tree) (p : List UInt8) (F : Pl.Node -> Int) (M : List Nat) : Int × Bool :=
 if Pl.Qag s && Pl.QaL s t && Pl.Qba s (Pl.Qaa s t) then (if Pl.Qa0 s (Pl.Qaa s t) p < 0 then (0, false) else (Pl.QaV F (M.map fun k => (Pl.Qac (Pl.Qaa s t)).getD k Pl.zn), true)) else (0, false)
end Aw
end Go.Proofs.YtdjkdcokjoiokaaGreatDoor
namespace Go.Proofs.YtdjkdcokjoiokaaGreatDoor
open Go.RowKit
namespace Aw
theorem Qk2 {S : Nat -> Prop} {w : World} {b : Bool} {l : List Pl.Ptr} {v : Value} (h : RelD S w (.sl b 5 (l.map rPtr)) v) (hS : ∀ b, S b -> b < w.heap.size) (hx : ∀ x ∈ l, Pm.PtrIn x) :
 ∃ A c, v = .slice A l.length c /\ Pm.At w w.heap.size A l := by
 generalize hr : l.map rPtr = rows at h;cases h with
 |slnil a cap =>
  have : l = [] := by simpa using hr
  subst this;exact ⟨_, _, rfl, fun h => absurd h (by simp)⟩
 |sl _ _ _ bb o cap g hb hn hcap hc hrr =>
  subst hr;refine ⟨_, _, by rw [List.length_map], fun _ => ⟨bb, o, rfl, hS bb hb, fun i x hi => ⟨Pm.ptrL x, ⟨rfl, hx x (List.mem_of_getElem? hi)⟩, fun j v hj => ?_⟩⟩⟩;have h1 : (l.map rPtr)[i]? = some (rPtr x) := by rw [List.getElem?_map, hi]; rfl
  have key : ∀ (j : Nat) u, (rPtr x)[j]? = some (.v u) -> w.cell? ⟨bb, o + i * 5 + j, none⟩ = some u := fun j u hu => by
   have h2 := hc i j _ _ h1 hu;have h3 := hrr i j _ _ h1 hu;generalize g i j = y at *
   cases h3;exact h2
  match j, hj with
  |0, hj => obtain rfl := Option.some.inj hj; exact key 0 _ rfl
  |1, hj => obtain rfl := Option.some.inj hj; exact key 1 _ rfl
  |2, hj => obtain rfl := Option.some.inj hj; exact key 2 _ rfl
  |3, hj => obtain rfl := Option.some.inj hj; exact key 3 _ rfl
  |4, hj => obtain rfl := Option.some.inj hj; exact key 4 _ rfl
structure AtW (B : Bs) (σ : Sg) (S : Nat -> Prop) (H : List Blk) (w : World) (s : Pm.Store) (a : Value) : Prop where
 gd : Gd B
 sm : Sm B σ S H w
 st : RelD S w (.pd (rSt s)) a
theorem AtW.call {B : Bs} {σ : Sg} {S : Nat -> Prop} {H : List Blk} {w wk : World} {s : Pm.Store} {a : Value} (h : AtW B σ S H w s a) (hb : Below w.heap.size w wk) {f : FuncId} {args : List D} (vs : List Value) {x : D} (hp : Pure Tryz.prog f (.pd (rSt s) :: args) x) (ha : args = vs.map D.ofV) :
 Calls Tryz.prog f (a :: vs).toArray wk fun e w' => ∃ v, e = .returned v /\ Below wk.heap.size wk w' /\ RelD (fun b => b < w'.heap.size) w' x v := by
 have hs := h.sm.below hb;subst ha;refine (hp B σ _ H wk (a :: vs) h.gd hs.1 (by simp) fun i d v hd hv => ?_).mono fun e w' ⟨v, h1, h2, h3⟩ => ⟨v, h1, h2, h3.mono (fun b hb => ?_) fun _ _ => rfl⟩
 ·match i, hd, hv with
  |0, hd, hv =>
   obtain rfl := Option.some.inj hd;obtain rfl := Option.some.inj hv;exact h.st.mono (fun b hb => .inl hb) fun b hb' => hb.block b ((h.sm.sUp b hb').1)
  |i + 1, hd, hv =>
   rw [List.getElem?_cons_succ] at hd hv;rw [List.getElem?_map, hv] at hd;obtain rfl := Option.some.inj hd;exact D.ofV_rel _ _ _
 ·have := h2.size
  rcases hb with hb | hb
  ·have := (hs.1.sUp b hb).1; omega
  ·exact hb.2
theorem AtW.call0 {B : Bs} {σ : Sg} {S : Nat -> Prop} {H : List Blk} {w wk : World} {s : Pm.Store} {a : Value} (h : AtW B σ S H w s a) (hb : Below w.heap.size w wk) {f : FuncId} {args : List D} (vs : List Value) {x : D} (hp : Pure Tryz.prog f args x) (ha : args = vs.map D.ofV) :
 Calls Tryz.prog f vs.toArray wk fun e w' => ∃ v, e = .returned v /\ Below wk.heap.size wk w' /\ RelD (fun b => b < w'.heap.size) w' x v := by
 have hs := h.sm.below hb;subst ha;refine (hp B σ _ H wk vs h.gd hs.1 (by simp) fun i d v hd hv => ?_).mono fun e w' ⟨v, h1, h2, h3⟩ => ⟨v, h1, h2, h3.mono (fun b hb => ?_) fun _ _ => rfl⟩
 ·rw [List.getElem?_map, hv] at hd
  obtain rfl := Option.some.inj hd;exact D.ofV_rel _ _ _
 ·have := h2.size
  rcases hb with hb | hb
  ·have := (hs.1.sUp b hb).1; omega
  ·exact hb.2
theorem rel_v {S : Nat -> Prop} {w : World} {x v : Value} (h : RelD S w (.v x) v) : v = x := by cases h; rfl
theorem QgP {S : Nat -> Prop} {w : World} {x y : D} {v : Value} (h : RelD S w (.tup [x, y]) v) : ∃ a b, v = .tuple #[a, b] /\ RelD S w x a /\ RelD S w y b := by
 cases h with
 |tup _ cs hl h =>
  match cs, hl with
  |[a, b], _ => exact ⟨a, b, rfl, h 0 _ _ rfl rfl, h 1 _ _ rfl rfl⟩
variable {B : Bs} {σ : Sg} {S : Nat -> Prop} {H : List Blk} {w wk : World} {s : Pm.Store} {a : Value}
def nodeV (n : Pl.Node) : Value := .agg #[.int .i64 n.kind, .int .i64 n.links, .int .i64 n.size, .int .i64 n.tree.root.pat, .int .i64 n.tree.root.birth, .int .i64 n.tree.root.size, .int .i64 n.tree.root.sum, .int .i64 n.tree.root.level, .int .i64 n.tree.depth, .int .i64 n.tree.many]
theorem cNodeOk (h : AtW B σ S H w s a) (hb : Below w.heap.size w wk) (n : Pl.Node) : Calls Tryz.prog 309 #[nodeV n] wk fun e w' => e = .returned (.bool (Pl.Qap n)) /\ Below wk.heap.size wk w' :=
 (h.call0 hb [nodeV n] (bNodeOk n) rfl).mono fun _ _ ⟨_, h1, h2, h3⟩ => ⟨by rw [h1, rel_v h3], h2⟩
theorem cLeaves (h : AtW B σ S H w s a) (hb : Below w.heap.size w wk) (hg : Pl.Good s) (htx : 0 <= s.2.2.1) (t : Pl.Tree) (hin : ∀ p ∈ (Pl.Qai s t).1, Pm.PtrIn p) : Calls Tryz.prog 148 #[a, .agg (Pm.treeL t).toArray] wk fun e w' =>
 ∃ A c, e = .returned (.tuple #[.slice A (Pl.Qai s t).1.length c, .bool (Pl.Qai s t).2]) /\ Below wk.heap.size wk w' /\ Pm.At w' w'.heap.size A (Pl.Qai s t).1 :=
 (h.call hb [.agg (Pm.treeL t).toArray] (bLeaves s hg htx t) rfl).mono fun _ _ ⟨_, h1, h2, h3⟩ => by
   obtain ⟨x, y, rfl, hx, hy⟩ := QgP h3;obtain ⟨A, c, rfl, hA⟩ := Qk2 hx (fun _ hb => hb) hin;exact ⟨A, c, by rw [h1, rel_v hy], h2, hA⟩
theorem cRead (h : AtW B σ S H w s a) (hb : Below w.heap.size w wk) (hg : Pl.Good s) (p : Pl.Ptr) (hp : Pl.ptrHole p = false -> Pl.ptrOk p = true) : Calls Tryz.prog 223 #[a, .agg (Pm.ptrL p).toArray] wk fun e w' =>
 e = .returned (.tuple #[.string ⟨(Pl.rd s.1 p).1.toArray⟩, .bool (Pl.rd s.1 p).2]) /\ Below wk.heap.size wk w' :=
 (h.call hb [.agg (Pm.ptrL p).toArray] (bRead s hg p hp) rfl).mono fun _ _ ⟨_, h1, h2, h3⟩ => by
   obtain ⟨x, y, rfl, hx, hy⟩ := QgP h3;exact ⟨by rw [h1, rel_v hx, rel_v hy], h2⟩
theorem QkV (h : AtW B σ S H w s a) (hb : Below w.heap.size w wk) (size : Int) (k : Nat) (h0 : 0 <= size) (h1 : size <= 2048) (hk : k <= 100) : Calls Tryz.prog 311 #[.int .i64 size, .int .i64 k] wk fun e w' => e = .returned (.int .i64 (Pl.Qbe size k)) /\ Below wk.heap.size wk w' :=
 (h.call0 hb [.int .i64 size, .int .i64 k] (Qlc size k h0 h1 hk) rfl).mono fun _ _ ⟨_, h1, h2, h3⟩ => ⟨by rw [h1, rel_v h3], h2⟩
theorem QkW (h : AtW B σ S H w s a) (hb : Below w.heap.size w wk) (x : List UInt8) (n : Int) (hx : x.length <= 1000000) : Calls Tryz.prog 310 #[.string ⟨x.toArray⟩, .int .i64 n] wk fun e w' =>
 e = .returned (.tuple #[.string ⟨(Pl.fill x n).1.toArray⟩, .bool (Pl.fill x n).2]) /\ Below wk.heap.size wk w' :=
 (h.call0 hb [.string ⟨x.toArray⟩, .int .i64 n] (Qld x n hx) rfl).mono fun _ _ ⟨_, h1, h2, h3⟩ => by
   obtain ⟨y, z, rfl, hy, hz⟩ := QgP h3;exact ⟨by rw [h1, rel_v hy, rel_v hz], h2⟩
theorem QkX (x p : List UInt8) (hx : x.length <= 1000000) (wk : World) : Calls Tryz.prog 312 #[.string ⟨x.toArray⟩, .string ⟨p.toArray⟩] wk fun e w' => e = .returned (.bool (p.isSuffixOf x)) /\ Below wk.heap.size wk w' :=
 (Tryz.strings_HasSuffix ⟨x.toArray⟩ ⟨p.toArray⟩ wk (by rw [Pm.Qge]; omega)).mono fun e w' h => ⟨h.1, h.2 ▸ Below.refl _ _⟩
theorem Qim (s : Pm.Store) (t : Pl.Tree) : (Pl.QaL s t && Pl.Qba s (Pl.Qaa s t)) = Pl.Qal s t := by
 rw [Bool.eq_iff_iff, QdI];have hnl : (Pl.Qab s t).length = (Pl.Qaa s t).length := by unfold Pl.Qab; rw [List.length_map]
 rw [Bool.and_eq_true];unfold Pl.QaL Pl.Qba Pl.Qbl Pl.chF;rw [Bool.and_eq_true, Bool.and_eq_true, decide_eq_true_eq, List.all_eq_true]
 have hk2 : ∀ k, Pl.Qad (Pl.Qab s t) k = 2 ↔ ((Pl.Qab s t).getD k Pl.zn).kind = 2 := fun k => by
  have := Qcz (nsOk s t) k;unfold Pl.Qad; omega
 have hk1 : ∀ k, Pl.Qad (Pl.Qab s t) k = 1 ↔ ((Pl.Qab s t).getD k Pl.zn).kind = 1 := fun k => by
  have := Qcz (nsOk s t) k;unfold Pl.Qad; omega
 show ((Pl.Qa5 s t = true /\ Pl.Qad (Pl.Qab s t) 0 = 2) /\ ∀ k ∈ List.range (Pl.Qaa s t).length, Pl.Qaq s (Pl.Qaa s t) k = true) /\ _ ↔ _;rw [<- hnl];constructor
 ·rintro ⟨⟨⟨h1, h2⟩, h3⟩, h4⟩
  have hG : ∀ k, Pl.Qad (Pl.Qab s t) k ≠ 0 -> Pl.Qaq s (Pl.Qaa s t) k = true := fun k hk => h3 k (List.mem_range.2 (Qce hk))
  refine ⟨h1, (hk2 0).1 h2, fun k hk => ?_, fun k hk => ?_, ?_⟩
  ·have h := hG k (by rw [(hk1 k).2 hk]; decide)
   have e : Pl.Qad (Pl.Qac (Pl.Qaa s t)) k = 1 := (hk1 k).2 hk;unfold Pl.Qaq at h;rw [e] at h;show Pl.Qay s ((Pl.Qac (Pl.Qaa s t)).getD k Pl.zn) = true;generalize (Pl.Qac (Pl.Qaa s t)).getD k Pl.zn = N at h ⊢;simpa using h
  ·have h := hG k (by rw [(hk2 k).2 hk]; decide)
   have e : Pl.Qad (Pl.Qac (Pl.Qaa s t)) k = 2 := (hk2 k).2 hk;unfold Pl.Qaq at h;rw [e] at h;show (Pl.ents s ((Pl.Qac (Pl.Qaa s t)).getD k Pl.zn)).2 = true;generalize (Pl.Qac (Pl.Qaa s t)).getD k Pl.zn = N at h ⊢;simpa using h
  ·cases hb : Gr.bfs (Pl.Qad (Pl.Qac (Pl.Qaa s t))) (Gr.chOf (Pl.enF (Pl.Qac (Pl.Qaa s t)) (Pl.ents s))) (1 + Gr.left (Pl.Qad (Pl.Qac (Pl.Qaa s t))) (Pl.Qab s t).length []) [0] [] with
   |none => rw [hb] at h4; cases h4
   |some nm =>
    rw [hb] at h4;simp only [List.all_eq_true, List.mem_range] at h4;refine ⟨nm, hb, fun k hk0 hk => ?_⟩;have := h4 k (Qce hk);rw [Bool.or_eq_true, Bool.or_eq_true, decide_eq_true_eq, decide_eq_true_eq, decide_eq_true_eq] at this;rcases this with (h | h) | h
    ·exact absurd h hk0
    ·exact absurd h hk
    ·exact h
 ·rintro ⟨h1, h2, h3, h4, nm, h5, h6⟩
  refine ⟨⟨⟨h1, (hk2 0).2 h2⟩, fun k _ => ?_⟩, ?_⟩
  ·unfold Pl.Qaq
   have hc := Qcz (nsOk s t) k;rcases hc with hc | hc | hc
   ·have e : Pl.Qad (Pl.Qac (Pl.Qaa s t)) k = 0 := by show ((Pl.Qab s t).getD k Pl.zn).kind.toNat = 0; rw [hc]; rfl
    rw [e]; rfl
   ·have e : Pl.Qad (Pl.Qac (Pl.Qaa s t)) k = 1 := (hk1 k).2 hc
    have this : Pl.Qay s ((Pl.Qac (Pl.Qaa s t)).getD k Pl.zn) = true := h3 k hc;rw [e];generalize (Pl.Qac (Pl.Qaa s t)).getD k Pl.zn = N at this ⊢;simpa using this
   ·have e : Pl.Qad (Pl.Qac (Pl.Qaa s t)) k = 2 := (hk2 k).2 hc
    have this : (Pl.ents s ((Pl.Qac (Pl.Qaa s t)).getD k Pl.zn)).2 = true := h4 k hc;rw [e];generalize (Pl.Qac (Pl.Qaa s t)).getD k Pl.zn = N at this ⊢;simpa using this
  ·rw [show Gr.bfs (Pl.Qad (Pl.Qac (Pl.Qaa s t))) (Gr.chOf (Pl.enF (Pl.Qac (Pl.Qaa s t)) (Pl.ents s))) (1 + Gr.left (Pl.Qad (Pl.Qac (Pl.Qaa s t))) (Pl.Qab s t).length []) [0] [] = some nm from h5]
   simp only [List.all_eq_true, List.mem_range];intro k _;rw [Bool.or_eq_true, Bool.or_eq_true, decide_eq_true_eq, decide_eq_true_eq, decide_eq_true_eq]
   by_cases hk0 : k = 0
   ·exact .inl (.inl hk0)
   ·by_cases hk : Pl.Qad (Pl.Qac (Pl.Qaa s t)) k = 0
    ·exact .inl (.inr hk)
    ·exact .inr (h6 k hk0 hk)
theorem QlU (s : Pm.Store) (t : Pl.Tree) (p : List UInt8) : Pl.Qa0 s (Pl.Qaa s t) p = match Pl.Qah p with | none => -1 | some q => (Pl.Qa4 s (Pl.Qab s t) 0 q).getD (-1) := by
 unfold Pl.Qa0;cases Pl.Qah p with
 |none => rfl
 |some q =>
  simp only;unfold Pl.Qa4;rw [<- Qjh];rfl
theorem Qj1 (F : Nat -> Int) (n : Nat) : ∀ (m : Nat) (V : List Nat), V.length = m -> V.Nodup -> (∀ k ∈ V, k < n) -> (V.map F).sum = Pl.QaC (fun k => if k ∈ V then F k else 0) n
 |0, V, hm, _, _ => by
  obtain rfl := List.length_eq_zero_iff.1 hm
  have : ∀ n, Pl.QaC (fun k => if k ∈ ([] : List Nat) then F k else 0) n = 0 := fun n => by
   induction n with
   |zero => rfl
   |succ n ih => unfold Pl.QaC; rw [ih]; simp
  rw [this]; rfl
 |m + 1, V, hm, hV, hlt => by
  rcases List.eq_nil_or_concat V with rfl | ⟨W, a, rfl⟩
  ·simp at hm
  ·rw [List.concat_eq_append] at *
   rw [List.nodup_append] at hV;have ha : a ∉ W := fun h => hV.2.2 a h a (by simp) rfl
   rw [QhA ha, if_pos (hlt a (by simp)), List.map_append, List.sum_append, Qj1 F n m W (by simpa using hm) hV.1 (fun k hk => hlt k (by simp [hk]))];simp
theorem QoA {kind : Nat -> Nat} {ch : Nat -> Option (List Nat)} : ∀ {es L : List Nat} {e : Nat}, Gr.FD kind ch es L -> e ∈ es -> ∃ M, Gr.FD kind ch [e] M /\ M.length <= L.length
 |[], _, _, _, h => by cases h
 |k :: es, L, e, h, hm => by
  obtain ⟨M, R, rfl, h1, h2⟩ := Qm3 h;rcases List.mem_cons.1 hm with rfl | hm
  ·exact ⟨M, h1, by simp⟩
  ·obtain ⟨M', g1, g2⟩ := QoA h2 hm
   exact ⟨M', g1, by simp; omega⟩
theorem QjM {s : Pm.Store} {x : List (List UInt8)} : ∀ {q : List (List UInt8)} {i j : Int} {L : List Nat}, 0 <= i -> Gr.FD (Pl.Qad (Pl.Qac x)) (Pl.chF s x) [i.toNat] L -> Pl.QaX (Pl.entL s x) i q = some j -> ∃ M, Gr.FD (Pl.Qad (Pl.Qac x)) (Pl.chF s x) [j.toNat] M /\ M.length <= L.length
 |[], i, j, L, _, h, hf => by rw [Qm0] at hf; obtain rfl := Option.some.inj hf; exact ⟨L, h, Nat.le_refl _⟩
 |n :: q, i, j, L, hi, h, hf => by
  rw [QeT] at hf;obtain ⟨L1, rfl, h1, _⟩ := Qm1 h;rw [show ((i.toNat : Nat) : Int) = i by omega] at h1;cases he : (Pl.entL s x i).find? (fun e => e.1 == n) with
  |none => rw [he] at hf; cases hf
  |some e =>
   rw [he] at hf;have hm := List.mem_of_find?_eq_some he;obtain ⟨M, g1, g2⟩ := QoA h1 (List.mem_map.2 ⟨e, hm, rfl⟩);have hb := ent_b (Qm6 s x i) e hm;obtain ⟨M', g3, g4⟩ := QjM (by omega) g1 hf;exact ⟨M', g3, by simp; omega⟩
theorem Qnu (s : Pm.Store) (t : Pl.Tree) (p : List UInt8) (F G : Pl.Node -> Int) (hFG : ∀ n : Pl.Node, n.kind = 1 ∨ n.kind = 2 -> F n = G n) : ∃ L : List Nat,
 (Pl.Qag s = true -> Pl.QaL s t = true -> Pl.Qba s (Pl.Qaa s t) = true -> ¬ Pl.Qa0 s (Pl.Qaa s t) p < 0 -> L.length <= 1000 /\ Gr.FD (Pl.Qad (Pl.Qac (Pl.Qaa s t))) (Pl.chF s (Pl.Qaa s t)) [(Pl.Qa0 s (Pl.Qaa s t) p).toNat] L) /\
 Pl.sumP s t p F (Pl.Qao [] L) = Pl.Qa8 s t p G := by
 unfold Pl.sumP Pl.Qa8;have hl := Qim s t;rw [Bool.and_assoc, hl];have hp := QlU s t p;cases hq : Pl.Qah p with
 |none =>
  rw [hq] at hp;have hp : Pl.Qa0 s (Pl.Qaa s t) p = -1 := hp;refine ⟨[], fun _ _ _ h => absurd (by rw [hp]; decide) h, ?_⟩;rw [hp]; simp
 |some q =>
  rw [hq] at hp;have hp : Pl.Qa0 s (Pl.Qaa s t) p = (Pl.Qa4 s (Pl.Qab s t) 0 q).getD (-1) := hp;simp only
  by_cases hF : (Pl.Qag s && Pl.Qal s t) = true
  rotate_left
  ·refine ⟨[], fun h1 h2 h3 _ => absurd (by rw [h1, <- hl, h2, h3]; rfl) hF, ?_⟩
   rw [if_neg hF, if_neg hF]
  have hF0 := hF;rw [Bool.and_eq_true] at hF;have hFi := (QdI s t).1 hF.2;cases hj : Pl.Qa4 s (Pl.Qab s t) 0 q with
  |none =>
   rw [hj] at hp;have hp : Pl.Qa0 s (Pl.Qaa s t) p = -1 := hp;refine ⟨[], fun _ _ _ h => absurd (by rw [hp]; decide) h, ?_⟩;rw [if_pos hF0, if_pos hF0, if_pos (by rw [hp]; decide)]
  |some j =>
   rw [hj] at hp;have hp : Pl.Qa0 s (Pl.Qaa s t) p = j := hp;rw [hp];have hj0 := Qhi (Int.le_refl 0) hj;obtain ⟨M, hM, hs⟩ := Ql9 hFi hj;refine ⟨M, fun _ _ _ _ => ⟨?_, ?_⟩, ?_⟩
   ·have hOk := hF.2
    unfold Pl.Qal at hOk;simp only [Bool.and_eq_true, beq_iff_eq] at hOk;obtain ⟨L, g1, g2, g3⟩ := QeA s hFi.root hOk.1.2;have hj' := hj;unfold Pl.Qa4 at hj';rw [<- Qjh] at hj';obtain ⟨M', g4, g5⟩ := QjM (s := s) (x := Pl.Qaa s t) (i := 0) (L := L.map Prod.snd) (Int.le_refl 0) (show Gr.FD (Pl.Qad (Pl.Qab s t)) (Gr.chOf (Pl.enF (Pl.Qab s t) (Pl.ents s))) [0] _ from g1.fd) hj';rw [<- g4.unique hM] at g5;rw [List.length_map] at g5;omega
   ·exact hM
   ·rw [if_pos hF0, if_pos hF0, if_neg (by omega), hs]
    congr 1
    have hV : (Pl.Qao [] M).Nodup := Qfb List.nodup_nil;have hmem : ∀ k, k ∈ Pl.Qao [] M ↔ k ∈ M := fun k => by rw [QeO]; simp
    have hlt : ∀ k ∈ Pl.Qao [] M, k < (Pl.Qab s t).length := fun k hk => by
     rcases hM.kinds k ((hmem k).1 hk) with h | h
     ·exact Qce (by omega)
     ·exact Qce (by omega)
    unfold Pl.QaV;rw [List.map_map, Qj1 _ (Pl.Qab s t).length _ _ rfl hV hlt];refine Qeo fun k _ => ?_
    simp only [hmem, Function.comp]
    by_cases hk : k ∈ M
    ·rw [if_pos hk, if_pos hk]
     have hkd := hM.kinds k hk;show F ((Pl.Qab s t).getD k Pl.zn) = G ((Pl.Qab s t).getD k Pl.zn);have hc := Qcz (nsOk s t) k;unfold Pl.Qad at hkd;rcases hc with h | h | h
     ·rw [h] at hkd; rcases hkd with h | h
      ·cases h
      ·cases h.1
     ·exact hFG _ (.inl h)
     ·exact hFG _ (.inr h)
    ·rw [if_neg hk, if_neg hk]
end Aw
end Go.Proofs.YtdjkdcokjoiokaaGreatDoor

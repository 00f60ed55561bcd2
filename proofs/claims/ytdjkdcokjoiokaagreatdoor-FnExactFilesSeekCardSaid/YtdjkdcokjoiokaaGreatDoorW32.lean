/- Part 32 of seek_card: contracts, walks, laws; no condition beyond the statement's. -/
import Derived.Test.YtdjkdcokjoiokaaGreatDoorW31
set_option linter.all false
set_option maxRecDepth 100000
set_option maxHeartbeats 16000000
namespace Go.Proofs.YtdjkdcokjoiokaaGreatDoor
section
open Go.RowKit
namespace Aw
attribute [local irreducible] ASeq ADraw AWP Loc
def Pl.QaX (l : List (List UInt8)) : List UInt8 := 47 :: Pl.Qa4 47 l
theorem Qmd (l : List (List UInt8)) (hl : l.length <= 1000000) (hs : ∀ x ∈ l, x.length <= 1000000) : Pure Tryz.prog 269 [tStrs l] (dS (Pl.QaX l)) := by
 have hj := Qhr 47 l 1000000 hs
 have hjl : (Pl.Qa4 47 l).length <= 140737488355328 := by
  refine Nat.le_trans hj ?_;have := Nat.mul_le_mul_right (1000000 + 1) hl;omega
 have c := bJoin l 47 (by omega) hjl;clear hj;unfold Pl.QaX;generalize Pl.Qa4 47 l = j at *
 (refine Qbk Tryz.func269 rfl Tryz.ntmps269 Tryz.results269 rfl ?_; simp only [parE, Nat.zero_add, Nat.reduceAdd])
 (repeat' (first | refine e1 (k := ?_) | refine stepS (Qbe Tryz.call300 c rfl) (k := ?_) | refine stepS (QbJ (l := [47]) rfl rfl (by simp; omega)) (k := ?_) | refine Qbd ?_ | refine Qbf ?_ | refine Qbc ?_ | fail))
 exact Qbn (hx := rfl)
theorem QnI : ∀ a b : List UInt8, decide (Lib.compareBytes a b < 0) = Op.bytesLess a b
 |[], [] => by simp [Lib.compareBytes, Op.bytesLess]
 |[], _ :: _ => by simp [Lib.compareBytes, Op.bytesLess]
 |_ :: _, [] => by simp [Lib.compareBytes, Op.bytesLess]
 |a :: x, b :: y => by
  have ih := QnI x y;unfold Lib.compareBytes Op.bytesLess
  by_cases h : a < b
  ·simp [h]
  ·by_cases h2 : b < a
   ·have : a ≠ b := by rintro rfl; exact h h2
    simp [h, h2, this]
   ·have : a = b := UInt8.le_antisymm (UInt8.not_lt.1 h2) (UInt8.not_lt.1 h)
    subst this;simp only [h, if_false, BEq.rfl, Bool.true_and, decide_false, Bool.false_or];exact ih
noncomputable abbrev rFiles (s : Pm.Store) (t : Pl.Tree) (x : List (List UInt8)) (m : List (Int × D)) : List D :=
 [.pd (rSt s), dI t.root.pat, dI t.root.birth, dI t.root.size, dI t.root.sum, dI t.root.level, dI t.depth, dI t.many, tNds x, .mp (imap m)]
def Pl.Qba (m : List (Int × D)) (L : Int -> List Pl.Ent) : Prop :=
 ∀ n, 0 <= n -> Pl.Qag (L n) = true /\ (mget m n = some (tEnts (L n)) ∨ mget m n = none /\ L n = [])
section
variable {P : Program} {dst : Option Tmp} {ty : TypeId} {pos : String} {after : Array Edge} {gd : Option (Nat × Bool)} {env : List (Nat × AV)} {H : List Blk} {T kt et : TypeId} {z : Value}
end
attribute [local irreducible] mget
end Aw
end
section
open Go.RowKit
namespace Aw
attribute [local irreducible] ASeq ADraw AWP Loc mget mset AStep Fg.PlanF Fg.Flts
theorem bLinked (s : Pm.Store) (t : Pl.Tree) (x : List (List UInt8)) (hx16 : x.length <= 16) (hx : Pl.TxOk x) (m : List (Int × D)) (L : Int -> List Pl.Ent) (hm : Pl.Qba m L) (ch : Nat -> Option (List Nat)) (hch : ∀ k : Nat, (ch k).getD [] = (L k).map fun e => e.2.toNat) :
 Pure Tryz.prog 266 [.pd (rFiles s t x m)] (dB (Pl.QaW (Pl.Qad (Pl.Qab x)) ch (Pl.Qaw (Pl.Qab x)) x.length)) := by
 have hlk : ∀ k, Pl.Qad (Pl.Qab x) k = 2 -> k < x.length := fun k hk => by
  have := Qca (ns := Pl.Qab x) (k := k) (by omega); rwa [List.length_map] at this
 obtain ⟨kind, hkind⟩ : ∃ kind, kind = Pl.Qad (Pl.Qab x) := ⟨_, rfl⟩;obtain ⟨res, hres⟩ : ∃ res, res = Pl.QaW kind ch (Pl.Qaw (Pl.Qab x)) x.length := ⟨_, rfl⟩;rw [<- hkind] at hlk ⊢;rw [<- hres];have hB0 : Hid (Gr.bfs kind ch (1 + Gr.left kind x.length []) [0] [] = none -> res = false) := Pm.hid fun h => by rw [hres, Pl.QaW, h]
 have hB1 : Hid (∀ nm, Gr.bfs kind ch (1 + Gr.left kind x.length []) [0] [] = some nm -> res = (List.range x.length).all fun k => decide (k = 0) || decide (kind k = 0) || decide (nm.count k = Pl.Qaw (Pl.Qab x) k)) := Pm.hid fun nm h => by rw [hres, Pl.QaW, h]
 clear hres;have hll := QmL kind x.length [];obtain ⟨F0, hF0⟩ : ∃ F0, F0 = 1 + Gr.left kind x.length [] := ⟨_, rfl⟩;have hF17 : F0 <= 17 := by omega
 rw [<- hF0] at hB0 hB1;have hhk := Pm.hid hkind
 replace hlk := Pm.hid hlk
 replace hF0 := Pm.hid hF0
 (refine Qbk Tryz.func266 rfl Tryz.ntmps266 Tryz.results266 rfl ?_; simp only [parE, Nat.zero_add, Nat.reduceAdd])
 (repeat' (first | refine e1 (k := ?_) | refine stepS2 (Qdj) (k := ?_) | refine stepS2 (Qbz Ty.h rfl Ty.h) (k := ?_) | refine Qbd ?_ | refine Qbf ?_ | refine Qbc ?_ | refine Qbi ?_ | fail))
 refine Qby (fun mm st => ∃ (g : Nat) (pre todo nm : List Nat) (mp : List (Int × D)), Hid (Gr.bfs kind ch F0 [0] [] = Gr.bfs kind ch mm todo nm) /\ Hid (todo.length + Gr.left kind x.length nm <= mm) /\ Hid (nm.length + 12 * mm <= 12 * F0) /\ Hid (Pl.NmOk mp nm) /\
  (todo ≠ [] /\ st = ⟨89, [(0, .d (.pd (rFiles s t x m))), (3, .mp 0 0), (4, .osl 1 g pre.length todo.length)], [.mp 0 (imap mp), .arr g 1 3 ((pre ++ todo).map fun n => [dI (n : Nat)])]⟩ ∨
   todo = [] /\ st = ⟨89, [(0, .d (.pd (rFiles s t x m))), (3, .mp 0 0), (4, .d (.sl false 1 []))], [.mp 0 (imap mp), .arr g 1 3 (pre.map fun n => [dI (n : Nat)])]⟩)) [0, 3, 4] 2 F0
  ⟨0, [], [0], [], [], Pm.hid rfl, Pm.hid (by rw [hF0.out]; simp), Pm.hid (by simp), Pm.hid QmF, .inl ⟨by simp, by simp [keepE, go_sem, imap]⟩⟩ (round := ?_)
 rintro mm st ⟨g, pre, todo, nm, mp, hR, hlf, hnl, hN, hst⟩;rcases hst with ⟨hne, rfl⟩ | ⟨rfl, rfl⟩;rotate_left
 ·have hn2 : Gr.bfs kind ch F0 [0] [] = some nm := by rw [hR.out]; unfold Gr.bfs; rfl
  have hr1 := Pm.hid (hB1.out nm hn2);clear hB0 hB1 hR hlf hn2 hm hch hlk hF0;have hcb : ∀ k, (nm.count k : Nat) <= nm.length := fun k => List.count_le_length
  (repeat' (first | refine e1 (k := ?_) | refine stepS (QbF rfl) (k := ?_) | refine Qbd ?_ | refine Qbf ?_ | refine Qbc ?_ | refine Qbm (hf := ?_) | refine Qbi ?_ | refine Qbq ?_ | fail))
  refine Qby (fun mm st => ∃ k, k <= x.length /\ mm = x.length - k /\ Hid ((List.range k).all (fun k => decide (k = 0) || decide (kind k = 0) || decide (nm.count k = Pl.Qaw (Pl.Qab x) k)) = true) /\
   st = ⟨89, [(65, .d (tNds x)), (66, .d (dI x.length)), (67, .d (dI k)), (3, .mp 0 0)], [.mp 0 (imap mp)]⟩) [65, 66, 67, 3] 1 x.length ⟨0, by omega, rfl, Pm.hid rfl, by simp [keepE, go_sem]⟩ (round := ?_)
  rintro m2 st ⟨k, hk, rfl, hA, rfl⟩
  (repeat (first | refine e1 (k := ?_) | refine Qbd ?_ | refine Qbf ?_ | refine Qbc ?_ | fail))
  cases q3 : decide ((k : Int) < (x.length : Int))
  ·(repeat' (first | refine e1 (k := ?_) | refine Qbd ?_ | refine Qbf ?_ | refine Qbc ?_ | refine Qbm (hf := ?_) | refine Qbq ?_ | fail))
   refine Qbn (hx := ?_);have : k = x.length := by simp at q3; omega
   rw [hr1.out, <- this, hA.out]
  have hk2 : k < x.length := by simp at q3; omega
  obtain ⟨y, hy⟩ : ∃ y, x[k]? = some y := ⟨_, List.getElem?_eq_getElem hk2⟩;have hyd : x.getD k [] = y := by rw [List.getD_eq_getElem?_getD, hy]; rfl
  have hr := Qbx (f := fun x => [Pl.ndD x]) hy;have T : Hid ((decide (k = 0) || decide (kind k = 0) || decide (nm.count k = Pl.Qaw (Pl.Qab x) k)) = true -> (List.range (k + 1)).all (fun k => decide (k = 0) || decide (kind k = 0) || decide (nm.count k = Pl.Qaw (Pl.Qab x) k)) = true) := fun h => Pl.Qb8 (p := fun k => decide (k = 0) || decide (kind k = 0) || decide (nm.count k = Pl.Qaw (Pl.Qab x) k)) hA.out h
  have F : Hid ((decide (k = 0) || decide (kind k = 0) || decide (nm.count k = Pl.Qaw (Pl.Qab x) k)) = false -> res = false) := fun h => by
   rw [hr1.out, Pl.Qb5 (p := fun k => decide (k = 0) || decide (kind k = 0) || decide (nm.count k = Pl.Qaw (Pl.Qab x) k)) hk2 h]
  have hlook := hN.out k;have hkz := Qei hx k;have hnx := QcD (x := x) k;rw [hyd] at hkz hnx;rw [<- hkind] at hkz;rcases QcP hx k with ⟨h1, _⟩ | ⟨h1, _, hnb⟩
  ·rw [hyd] at h1
   have e : Pl.ndD y = .v (.pointer none) := by unfold Pl.ndD; rw [if_pos h1]
   rw [e] at hr;have ht := Pm.hid (T.out (by rw [decide_eq_true (p := kind k = 0) (hkz.2 h1)]; simp));clear T F hA hr1 hkz hnx hyd hy hx
   (repeat' (first | refine f1 (k := ?_) | refine e1 (k := ?_) | refine f0 (k := ?_) | refine stepS (Qbh Ty.h rfl Ty.h rfl rfl rfl (by omega) hr) (k := ?_) | refine stepD (Qhl Tryz.underlying261 rfl) (k := ?_) | refine stepS (Qbs rfl rfl (by omega)) (k := ?_) | refine Qbd ?_ | refine Qbp ?_ | refine Qbr ?_ | refine Qbf ?_ | refine Qbc ?_ | refine Qb1 follows_mixed (by kernel_rfl) (by kernel_rfl) ?_ | refine Qbl (ht := ?_) | refine Qbm (hf := ?_) | refine Qbj ?_ | refine Qbi ?_ | fail))
   all_goals first
    |(exfalso; simp at *; done)
    |exact Qbt (x.length - (k + 1)) (by omega) ⟨k + 1, by omega, rfl, ht, by simp [keepE, go_sem]⟩
  ·rw [hyd] at h1
   have e : Pl.ndD y = .pd (rNode (Pl.ng y).1) := by unfold Pl.ndD; rw [if_neg h1]
   rw [e] at hr;rw [hnx] at hnb;have hlink : Pl.Qaw (Pl.Qab x) k = (Pl.ng y).1.links.toNat := by unfold Pl.Qaw; rw [hnx]
   have hkn : ¬ kind k = 0 := fun h => h1 (hkz.1 h)
   rw [hlink, decide_eq_false hkn] at T F;have hlb := hnb.links;clear hA hr1 hkz hnx hyd hy hx e hlink hnb;generalize (Pl.ng y).1 = N at *
   obtain ⟨kd, links, size, ⟨⟨p1, p2, p3, p4, p5⟩, depth, many⟩⟩ := N;simp only at T F hlb;obtain ⟨lk, rfl⟩ := Int.eq_ofNat_of_zero_le (show 0 <= links by omega);rw [Int.toNat_natCast] at T F;generalize List.count k nm = cn at *
   (repeat' (first | refine f1 (k := ?_) | refine e1 (k := ?_) | refine f0 (k := ?_) | refine stepS (Qbh Ty.h rfl Ty.h rfl rfl rfl (by omega) hr) (k := ?_) | refine stepD (Qgq Tryz.underlying261 rfl) (k := ?_) | refine stepD (QbF rfl) (k := ?_) | refine stepD (Qco Tryz.underlying345 Tryz.underlying3 (z := .int .i64 0) (by kernel_rfl) rfl rfl rfl hlook) (k := ?_) | refine stepS (Qbs rfl rfl (by omega)) (k := ?_) | refine Qbd ?_ | refine Qbp ?_ | refine Qbr ?_ | refine Qbf ?_ | refine Qbc ?_ | refine Qb1 follows_mixed (by kernel_rfl) (by kernel_rfl) ?_ | refine Qbl (ht := ?_) | refine Qbm (hf := ?_) | refine Qbo (ht := fun q => ?_) (hf := fun q => ?_) | refine Qbj ?_ | refine Qbi ?_ | ((fail_if_success show ADraw _ _ _ _ ⟨_, (_, .d (.v (.bool true))) :: _, _⟩); (fail_if_success show ADraw _ _ _ _ ⟨_, (_, .d (.v (.bool false))) :: _, _⟩); refine splitD (fun q => ?_) (fun q => ?_))))
   all_goals first
    |(have h9 : ((decide (k = 0) || false || decide (cn = lk)) = false) := by
       rw [decide_eq_false (show ¬ k = 0 by clear T F hlook hr hN hnl hhk; simp at *; omega), decide_eq_false (show ¬ cn = lk by clear T F hlook hr hN hnl hhk; simp at *; omega)]; rfl
      refine Qbn (hx := ?_)
      rw [F.out h9]; done)
    |(have h9 : ((decide (k = 0) || false || decide (cn = lk)) = true) := by
       by_cases hk0 : k = 0
       ·rw [decide_eq_true hk0]; rfl
       ·rw [decide_eq_true (show cn = lk by clear T F hlook hr hN hnl hhk; simp at *; omega)]; simp
      exact Qbt (x.length - (k + 1)) (by omega) ⟨k + 1, by omega, rfl, Pm.hid (T.out h9), by simp [keepE, go_sem]⟩)
 obtain ⟨f, td, rfl⟩ := List.exists_cons_of_ne_nil hne;obtain ⟨m0, rfl⟩ : ∃ m0, mm = m0 + 1 := ⟨mm - 1, by have := hlf.out; simp only [List.length_cons] at this; omega⟩;have hfr : ((pre ++ f :: td).map fun n => [dI (n : Nat)])[pre.length + ((0 : Int)).toNat]? = some [dI (f : Nat)] := by simp
 obtain ⟨hE, hg⟩ := hm (f : Nat) (by omega);have hcf := hch f;generalize L (f : Nat) = es at *
 have hst : Gr.bfs kind ch F0 [0] [] = match Gr.inner kind (es.map fun e => e.2.toNat) td nm with | none => none | some (t', nm') => Gr.bfs kind ch m0 t' nm' := by
  rw [hR.out, <- hcf]
  conv => lhs; unfold Gr.bfs
  rfl
 replace hst := Pm.hid hst
 have hes : es.length <= 12 := by unfold Pl.Qag at hE; rw [Bool.and_eq_true, decide_eq_true_eq] at hE; exact hE.2
 have hids := Pm.hid (ent_b hE);have hll0 := Pm.hid hll;have hlf2 := Pm.hid (show td.length + Gr.left kind x.length nm <= m0 by have := hlf.out; simp only [List.length_cons] at this; omega)
 have hbnd : nm.length <= 204 /\ td.length <= 17 := by
  have := hnl.out; have := hlf2.out; omega
 clear hE hcf hB1 hR hm hch hlf hne hll
 have hg : mget m (f : Nat) = some (.sl true 2 (es.map rEnt)) ∨ mget m (f : Nat) = none /\ es.map rEnt = [] := by
  rcases hg with h | ⟨h1, h2⟩
  ·exact .inl h
  ·exact .inr ⟨h1, by rw [h2]; rfl⟩
 (repeat' (first | refine f1 (k := ?_) | refine e1 (k := ?_) | refine stepD (QbF rfl) (k := ?_) | refine stepS (QbF rfl) (k := ?_) | refine stepD (Qb4 Ty.h rfl Ty.h rfl rfl rfl rfl (by omega) (by omega)) (k := ?_) | refine stepD (QbK Ty.h rfl rfl hfr rfl) (k := ?_) | refine stepD (QeF Tryz.underlying263 Tryz.underlying3 (by kernel_rfl) rfl rfl hg) (k := ?_) | refine Qbd ?_ | refine Qbr ?_ | refine Qbf ?_ | refine Qbc ?_ | refine Qb1 follows_mixed (by kernel_rfl) (by kernel_rfl) ?_ | refine Qbo (ht := fun q => ?_) (hf := fun q => ?_) | refine Qbj ?_ | refine Qbi ?_ | refine Qbq ?_ | fail))
 rotate_left
 ·exfalso; simp at *
 clear hfr hg
 refine Qby (fun m2 st => ∃ (j g : Nat) (pre t2 nm2 : List Nat) (mp : List (Int × D)), j <= es.length /\ m2 = es.length - j /\ Hid (Gr.inner kind (es.map fun e => e.2.toNat) td nm = Gr.inner kind ((es.drop j).map fun e => e.2.toNat) t2 nm2) /\ nm2.length = nm.length + j /\ t2.length <= td.length + j /\ Hid (Pl.NmOk mp nm2) /\
  st = ⟨89, [(25, .d (tEnts es)), (26, .d (dI es.length)), (27, .d (dI j)), (0, .d (.pd (rFiles s t x m))), (3, .mp 0 0), (4, .osl 1 g pre.length (t2.length + 1))], [.mp 0 (imap mp), .arr g 1 3 ((pre ++ f :: t2).map fun n => [dI (n : Nat)])]⟩) [25, 26, 27, 0, 3, 4] 2 es.length ⟨0, g, pre, td, nm, mp, by omega, rfl, Pm.hid rfl, rfl, by omega, hN, by simp [keepE, go_sem]⟩ (round := ?_)
 clear hN;rintro m2 st ⟨j, g, pre, t2, nm2, mp, hj, rfl, hI, hn2, ht2, hN, rfl⟩
 (repeat (first | refine e1 (k := ?_) | refine Qbd ?_ | refine Qbf ?_ | refine Qbc ?_ | fail))
 cases q3 : decide ((j : Int) < (es.length : Int))
 ·have hje : j = es.length := by simp at q3; omega
  have hin : Gr.inner kind (es.map fun e => e.2.toNat) td nm = some (t2, nm2) := by rw [hI.out, hje, List.drop_length]; rfl
  have hlf3 := Pm.hid (Gr.QdC hlk.out hin);have hst2 : Hid (Gr.bfs kind ch F0 [0] [] = Gr.bfs kind ch m0 t2 nm2) := Pm.hid (by rw [hst.out, hin]);clear hst hin hI;cases t2 with
  |nil =>
   have hrw : ((pre ++ [f]).map fun n => [dI (n : Nat)]) = (pre ++ f :: []).map fun n => [dI (n : Nat)] := rfl
   (repeat' (first | refine e1 (k := ?_) | refine stepS (QjX rfl rfl rfl rfl rfl (by omega) (by simp)) (k := ?_) | refine Qbp ?_ | refine Qbc ?_ | refine Qbm (hf := ?_) | refine Qbq ?_ | fail))
   refine Qbt m0 (by omega) ⟨g, pre ++ [f], [], nm2, mp, hst2, Pm.hid ?_, Pm.hid ?_, hN, .inr ⟨rfl, ?_⟩⟩
   ·have := hlf3.out; have := hlf2.out; omega
   ·have := hnl.out; omega
   ·simp [keepE, go_sem]
  |cons a t3 =>
   (repeat' (first | refine e1 (k := ?_) | refine stepS (Qlp rfl rfl rfl rfl rfl (by omega) (by simp; omega)) (k := ?_) | refine Qbp ?_ | refine Qbc ?_ | refine Qbm (hf := ?_) | refine Qbq ?_ | fail))
   refine Qbt m0 (by omega) ⟨g, pre ++ [f], a :: t3, nm2, mp, hst2, Pm.hid ?_, Pm.hid ?_, hN, .inl ⟨by simp, ?_⟩⟩
   ·have := hlf3.out; have := hlf2.out; omega
   ·have := hnl.out; omega
   ·simp [keepE, go_sem]
 have hj2 : j < es.length := by simp at q3; omega
 obtain ⟨e, he⟩ : ∃ e, es[j]? = some e := ⟨_, List.getElem?_eq_getElem hj2⟩;have hr := Qbx (f := rEnt) he;have heb := (hids.out e (List.mem_of_getElem? he)).2;have hdr : es.drop j = e :: es.drop (j + 1) := by rw [List.drop_eq_getElem_cons hj2, (List.getElem?_eq_some_iff.1 he).2]
 replace hI := hI.out
 rw [hdr, List.map_cons] at hI;obtain ⟨nmE, id⟩ := e;simp only at heb hI;obtain ⟨kid, rfl⟩ := Int.eq_ofNat_of_zero_le (show 0 <= id by omega);rw [Int.toNat_natCast] at hI
 replace hI := Pm.hid hI
 have c1 := bNodeAt x (kid : Int) (by omega);rw [QnK hx kid, <- hkind] at c1;have hlook := hN.out kid;have hcb : nm2.count kid <= nm2.length := List.count_le_length;have hNs := Pm.hid (Qlf hN.out kid);clear he hdr hN
 by_cases hk0 : kind kid = 0
 ·rw [if_pos hk0] at c1
  have hbad := Pm.hid (hB0.out (by rw [hst.out, hI.out, Qke hk0]));clear hst hI hNs
  (repeat' (first | refine f1 (k := ?_) | refine e1 (k := ?_) | refine stepS (Qbh Ty.h rfl Ty.h rfl rfl rfl (by omega) hr) (k := ?_) | refine (Qbg 2 (h := Fg.awp_drawF (id := 8) [0, 1, 2, 3, 4, 5, 6, 7, 8, 9] [11] follows_mixed (by kernel_rfl) (by kernel_rfl) (by kernel_rfl) ?_)) | refine (Fg.aw_flt (k := ?_)) | refine (Fg.aw_fltL (hl := fun H => QbF rfl) (k := ?_)) | refine (Fg.aw_fltL (hl := fun H => Qbe Tryz.call262 c1 rfl) (k := ?_)) | refine (Fg.aw_fltN ?_) | refine (Fg.aw_planFC (by rfl) (by kernel_rfl) rfl ?_) | refine (Fg.aw_planFN ?_) | refine (Qcb (kk := ?_)) | refine Qbu (kk := ?_) | refine Qbd ?_ | refine Qbr ?_ | refine QbE ?_ | refine Qbf ?_ | refine Qbc ?_ | refine Qbl (ht := ?_) | refine Qbj ?_ | refine Qbi ?_ | refine e2 (k := ?_) | refine f2 (k := ?_) | fail))
  refine Qbn (hx := ?_);rw [hbad.out]
 rw [if_neg hk0] at c1;have hkN : kind kid = ((Pl.Qab x).getD kid Pl.zn).kind.toNat := by rw [hkind]; rfl
 have hNB : NodeB ((Pl.Qab x).getD kid Pl.zn) := by
  rcases QcP hx kid with ⟨_, h2⟩ | ⟨_, _, h2⟩
  ·rw [h2] at hkN; exact absurd hkN hk0
  ·exact h2
 have hNk := hNB.kind;clear hNB;generalize (Pl.Qab x).getD kid Pl.zn = N at *
 obtain ⟨kd, links, size, ⟨⟨p1, p2, p3, p4, p5⟩, depth, many⟩⟩ := N;simp only at hNk hkN c1;generalize hcn : List.count kid nm2 = cn at *
 have hlook2 : (mget (mset mp (kid : Int) (dI ((cn : Int) + 1))) (kid : Int)).getD (.v (.int .i64 0)) = dI ((cn : Int) + 1) := by rw [Qcv]; rfl
 rcases hNk with rfl | rfl
 ·have hk1 : kind kid = 1 := hkN
  have hI2 := hI.out;rw [Qkc hk1] at hI2
  replace hI2 := Pm.hid hI2
  clear hI
  (repeat' (first | refine f1 (k := ?_) | refine e1 (k := ?_) | refine stepS (Qbh Ty.h rfl Ty.h rfl rfl rfl (by omega) hr) (k := ?_) | refine (Qbg 2 (h := Fg.awp_drawF (id := 8) [0, 1, 2, 3, 4, 5, 6, 7, 8, 9] [11] follows_mixed (by kernel_rfl) (by kernel_rfl) (by kernel_rfl) ?_)) | refine (Fg.aw_flt (k := ?_)) | refine (Fg.aw_fltL (hl := fun H => QbF rfl) (k := ?_)) | refine (Fg.aw_fltL (hl := fun H => Qbe Tryz.call262 c1 rfl) (k := ?_)) | refine (Fg.aw_fltN ?_) | refine (Fg.aw_planFC (by rfl) (by kernel_rfl) rfl ?_) | refine (Fg.aw_planFN ?_) | refine (Qcb (kk := ?_)) | refine stepS (Qco Tryz.underlying345 Tryz.underlying3 (z := .int .i64 0) (by kernel_rfl) rfl rfl rfl hlook) (k := ?_) | refine stepS (Qbs rfl rfl (by omega)) (k := ?_) | refine (QeT Tryz.underlying345 Tryz.underlying3 (kk := ?_)) | refine Qbu (kk := ?_) | refine Qbd ?_ | refine Qbp ?_ | refine Qbr ?_ | refine QbE ?_ | refine Qbf ?_ | refine Qbc ?_ | refine Qbl (ht := ?_) | refine Qbm (hf := ?_) | refine Qbj ?_ | refine Qbi ?_ | refine e2 (k := ?_) | refine f2 (k := ?_) | fail))
  all_goals first
   |(exfalso; simp at *; done)
   |refine Qbt (es.length - (j + 1)) (by omega) ⟨j + 1, g, pre, t2, nm2 ++ [kid], _, by omega, rfl, hI2, by simp; omega, by omega, hNs, by simp [keepE, go_sem]⟩
 have hk2 : kind kid = 2 := hkN
 by_cases hc0 : cn = 0
 rotate_left
 ·have hbad := Pm.hid (hB0.out (by rw [hst.out, hI.out, Qkd hk2 (by omega)]))
  clear hst hI hNs
  (repeat' (first | refine f1 (k := ?_) | refine e1 (k := ?_) | refine stepS (Qbh Ty.h rfl Ty.h rfl rfl rfl (by omega) hr) (k := ?_) | refine (Qbg 2 (h := Fg.awp_drawF (id := 8) [0, 1, 2, 3, 4, 5, 6, 7, 8, 9] [11] follows_mixed (by kernel_rfl) (by kernel_rfl) (by kernel_rfl) ?_)) | refine (Fg.aw_flt (k := ?_)) | refine (Fg.aw_fltL (hl := fun H => QbF rfl) (k := ?_)) | refine (Fg.aw_fltL (hl := fun H => Qbe Tryz.call262 c1 rfl) (k := ?_)) | refine (Fg.aw_fltN ?_) | refine (Fg.aw_planFC (by rfl) (by kernel_rfl) rfl ?_) | refine (Fg.aw_planFN ?_) | refine (Qcb (kk := ?_)) | refine stepS (Qco Tryz.underlying345 Tryz.underlying3 (z := .int .i64 0) (by kernel_rfl) rfl rfl rfl hlook) (k := ?_) | refine stepS (Qbs rfl rfl (by omega)) (k := ?_) | refine (QeT Tryz.underlying345 Tryz.underlying3 (kk := ?_)) | refine stepS (Qco Tryz.underlying345 Tryz.underlying3 (z := .int .i64 0) (by kernel_rfl) rfl rfl rfl hlook2) (k := ?_) | refine stepS2 (Qbz Ty.h rfl Ty.h) (k := ?_) | refine Qbu (kk := ?_) | refine Qbd ?_ | refine Qbr ?_ | refine QbE ?_ | refine Qbf ?_ | refine Qbc ?_ | refine Qbl (ht := ?_) | refine Qbm (hf := ?_) | refine Qbo (ht := fun q => ?_) (hf := fun q => ?_) | refine Qbj ?_ | refine Qbi ?_ | refine e2 (k := ?_) | refine f2 (k := ?_) | fail))
  all_goals first
   |(exfalso; simp only [decide_eq_true_eq, decide_eq_false_iff_not] at *; omega)
   |(refine Qbn (hx := ?_)
     rw [hbad.out]; done)
 have hI2 := hI.out;rw [Ql2 hk2 (by omega)] at hI2
 replace hI2 := Pm.hid hI2
 clear hI
 (repeat' (first | refine f1 (k := ?_) | refine e1 (k := ?_) | refine stepS (Qbh Ty.h rfl Ty.h rfl rfl rfl (by omega) hr) (k := ?_) | refine (Qbg 2 (h := Fg.awp_drawF (id := 8) [0, 1, 2, 3, 4, 5, 6, 7, 8, 9] [11] follows_mixed (by kernel_rfl) (by kernel_rfl) (by kernel_rfl) ?_)) | refine (Fg.aw_flt (k := ?_)) | refine (Fg.aw_fltL (hl := fun H => QbF rfl) (k := ?_)) | refine (Fg.aw_fltL (hl := fun H => Qbe Tryz.call262 c1 rfl) (k := ?_)) | refine (Fg.aw_fltN ?_) | refine (Fg.aw_planFC (by rfl) (by kernel_rfl) rfl ?_) | refine (Fg.aw_planFN ?_) | refine (Qcb (kk := ?_)) | refine stepS (Qco Tryz.underlying345 Tryz.underlying3 (z := .int .i64 0) (by kernel_rfl) rfl rfl rfl hlook) (k := ?_) | refine stepS (Qbs rfl rfl (by omega)) (k := ?_) | refine (QeT Tryz.underlying345 Tryz.underlying3 (kk := ?_)) | refine stepS (Qco Tryz.underlying345 Tryz.underlying3 (z := .int .i64 0) (by kernel_rfl) rfl rfl rfl hlook2) (k := ?_) | refine (aw_appO (newrows := [[dI (kid : Nat)]]) rfl (hol := ?_) (hx := QkH rfl rfl rfl (by decide) ?_) (hnp := ?_) (hb := ?_) (hm := ?_) (k1 := ?_) (k2 := ?_)) | refine stepS2 (Qbz Ty.h rfl Ty.h) (k := ?_) | refine Qbu (kk := ?_) | refine Qbd ?_ | refine Qbp ?_ | refine Qb0 ?_ | refine Qbr ?_ | refine QbE ?_ | refine Qbf ?_ | refine Qbc ?_ | refine Qbl (ht := ?_) | refine Qbm (hf := ?_) | refine Qbo (ht := fun q => ?_) (hf := fun q => ?_) | refine Qbj ?_ | refine Qbi ?_ | refine e2 (k := ?_) | refine f2 (k := ?_) | fail))
 all_goals first
  |(exfalso; simp only [decide_eq_true_eq] at *; omega)
  |(simp; done)
  |(simp; omega)
  |(intro r hr d hd
    obtain rfl := List.mem_singleton.1 hr;obtain rfl := List.mem_singleton.1 hd
    rfl)
  |(refine Qbt (es.length - (j + 1)) (by omega) ⟨j + 1, g + 1, pre, t2 ++ [kid], nm2 ++ [kid], _, by omega, rfl, hI2, by simp; omega, by simp; omega, hNs, ?_⟩; simp [keepE, go_sem]; done)
  |(refine Qbt (es.length - (j + 1)) (by omega) ⟨j + 1, g + 1, [], t2 ++ [kid], nm2 ++ [kid], _, by omega, rfl, hI2, by simp; omega, by simp; omega, hNs, ?_⟩; simp [keepE, go_sem]; done)
end Aw
end
section
open Go.RowKit
namespace Aw
attribute [local irreducible] ASeq ADraw AWP Loc mget mset
noncomputable def Pl.entL (s : Pm.Store) (x : List (List UInt8)) (i : Int) : List Pl.Ent := (Pl.ents s ((Pl.Qab x).getD i.toNat Pl.zn)).1
noncomputable def Pl.dirM (s : Pm.Store) (x : List (List UInt8)) : Nat -> List (Int × D)
 |0 => []
 |k + 1 => if Pl.Qad (Pl.Qab x) k = 2 then mset (Pl.dirM s x k) (k : Nat) (tEnts (Pl.entL s x (k : Nat))) else Pl.dirM s x k
theorem Qjo (s : Pm.Store) (x : List (List UInt8)) : ∀ (k j : Nat), mget (Pl.dirM s x k) (j : Int) = if j < k /\ Pl.Qad (Pl.Qab x) j = 2 then some (tEnts (Pl.entL s x (j : Nat))) else none
 |0, j => by rw [if_neg (by omega)]; simp [Pl.dirM, mget]
 |k + 1, j => by
  have ih := Qjo s x k j;unfold Pl.dirM
  by_cases hk : Pl.Qad (Pl.Qab x) k = 2
  ·rw [if_pos hk]
   by_cases hj : k = j
   ·subst hj; rw [Qcv, if_pos ⟨by omega, hk⟩]
   ·rw [Qdv (by omega), ih]
    by_cases h2 : j < k /\ Pl.Qad (Pl.Qab x) j = 2
    ·rw [if_pos h2, if_pos ⟨by omega, h2.2⟩]
    ·rw [if_neg h2, if_neg (fun h => h2 ⟨by omega, h.2⟩)]
  ·rw [if_neg hk, ih]
   by_cases h2 : j < k /\ Pl.Qad (Pl.Qab x) j = 2
   ·rw [if_pos h2, if_pos ⟨by omega, h2.2⟩]
   ·rw [if_neg h2, if_neg]
    rintro ⟨h3, h4⟩
    by_cases hj : j = k
    ·subst hj; exact hk h4
    ·exact h2 ⟨by omega, h4⟩
theorem entL_ok (s : Pm.Store) (x : List (List UInt8)) (i : Int) : Pl.Qag (Pl.entL s x i) = true := by
 unfold Pl.entL;rcases Qcs s ((Pl.Qab x).getD i.toNat Pl.zn) with h | h
 ·exact h.2
 ·rw [h]; rfl
theorem QlN (s : Pm.Store) (x : List (List UInt8)) : Pl.Qba (Pl.dirM s x x.length) (Pl.entL s x) := fun n hn => by
 refine ⟨entL_ok s x n, ?_⟩;obtain ⟨j, rfl⟩ := Int.eq_ofNat_of_zero_le hn;rw [Qjo]
 by_cases h : Pl.Qad (Pl.Qab x) j = 2
 ·have := Qca (ns := Pl.Qab x) (k := j) (by omega)
  rw [List.length_map] at this;rw [if_pos ⟨this, h⟩]; exact .inl rfl
 ·rw [if_neg (fun g => h g.2)]
  refine .inr ⟨rfl, ?_⟩;unfold Pl.entL;rw [Int.toNat_natCast];rcases Qcs s ((Pl.Qab x).getD j Pl.zn) with h2 | h2
  ·have := Qh1 h2.1
   exfalso; apply h; unfold Pl.Qad; rw [this]; rfl
  ·rw [h2]
noncomputable def Pl.Qap (s : Pm.Store) (x : List (List UInt8)) (k : Nat) : Bool :=
 decide (Pl.Qad (Pl.Qab x) k = 0) || (decide (Pl.Qad (Pl.Qab x) k = 1) && Pl.Qam s ((Pl.Qab x).getD k Pl.zn)) || (decide (Pl.Qad (Pl.Qab x) k = 2) && (Pl.ents s ((Pl.Qab x).getD k Pl.zn)).2)
noncomputable def Pl.QaR (s : Pm.Store) (t : Pl.Tree) : Bool := Pl.Qa2 s t && decide (Pl.Qad (Pl.Qab (Pl.Qaa s t)) 0 = 2) && (List.range (Pl.Qaa s t).length).all (Pl.Qap s (Pl.Qaa s t))
noncomputable def Pl.chF (s : Pm.Store) (x : List (List UInt8)) : Nat -> Option (List Nat) := Gr.chOf (Pl.enF (Pl.Qab x) (Pl.ents s))
noncomputable def Pl.QaV (s : Pm.Store) (x : List (List UInt8)) : Bool := Pl.QaW (Pl.Qad (Pl.Qab x)) (Pl.chF s x) (Pl.Qaw (Pl.Qab x)) x.length
noncomputable def Pl.QaS (s : Pm.Store) (t : Pl.Tree) : D :=
 if Pl.QaR s t then .tup [.pd (rFiles s t (Pl.Qaa s t) (Pl.dirM s (Pl.Qaa s t) (Pl.Qaa s t).length)), dB (Pl.QaV s (Pl.Qaa s t))] else .tup [.v (.pointer none), dB false]
theorem chF_ids (s : Pm.Store) (x : List (List UInt8)) (k : Nat) : (Pl.chF s x k).getD [] = (Pl.entL s x (k : Nat)).map fun e => e.2.toNat := by
 unfold Pl.chF Gr.chOf Pl.enF Pl.entL;rw [Int.toNat_natCast];rcases Qcs s ((Pl.Qab x).getD k Pl.zn) with h | h
 ·rw [if_pos h.1]; simp
 ·rw [h]; simp
theorem QeM {s : Pm.Store} {t : Pl.Tree} (h : Pl.Qa2 s t = true) : Pl.TxOk (Pl.Qaa s t) /\ (Pl.Qaa s t).length <= 16 /\ ∀ k, Pl.Qad (Pl.Qab (Pl.Qaa s t)) k ≠ 0 -> Pl.Qak ((Pl.Qab (Pl.Qaa s t)).getD k Pl.zn) = true := by
 unfold Pl.Qa2 at h;rw [Bool.and_eq_true, List.all_eq_true] at h;have ht := QbL h.1
 have hN : ∀ y ∈ Pl.Qaa s t, y = [] ∨ Pl.Qak (Pl.ng y).1 = true := fun y hy => by
  have := h.2 y hy;rw [Bool.or_eq_true, Bool.and_eq_true] at this;rcases this with h | h
  ·exact .inl (by simpa using h)
  ·rcases QiY y with g | g
   ·exact .inr g.1.1
   ·rw [g] at h; cases h.1
 refine ⟨fun y hy => (hN y hy).imp id fun g => QcI g, ?_, fun k hk => ?_⟩
 ·rw [texts_len s ht]; have := ht.manyHi; omega
 ·rw [QcD]
  have hlt : k < (Pl.Qaa s t).length := by
   have := Qca hk; rwa [List.length_map] at this
  have hm : (Pl.Qaa s t).getD k [] ∈ Pl.Qaa s t := by
   rw [List.getD_eq_getElem?_getD, List.getElem?_eq_getElem hlt]; exact List.getElem_mem hlt
  rcases hN _ hm with g | g
  ·exfalso; apply hk; unfold Pl.Qad; rw [QcD, g, Qlg]; rfl
  ·exact g
theorem Ql8 (s : Pm.Store) (hg : Pl.Good s) (n : Pl.Node) : (Pl.QaO s n).1.length <= 1000000 := by
 unfold Pl.QaO;split
 ·rename_i h
  rw [Bool.and_eq_true] at h;unfold Pl.blob;split
  ·have ht := QbL h.1
   have := QlA (m := 128) (l := Pl.Qaa s n.tree) fun y hy => by
    unfold Pl.Qaa at hy;obtain ⟨p, _, rfl⟩ := List.mem_map.1 hy;exact QfF s hg p
   have h2 := texts_len s ht;have h3 := ht.manyHi;have : (Pl.Qaa s n.tree).length <= 1000 := by omega
   have := Nat.mul_le_mul_right 128 this;simp only; omega
  ·simp
 ·simp
theorem Qkh {s : Pm.Store} {n : Pl.Node} (h1 : Pl.Qak n = true) (h2 : n.kind = 2) : Pl.ents s n = if (Pl.QaO s n).2 = true then Pl.eg (Pl.QaO s n).1 else ([], false) := by
 unfold Pl.ents Pl.QaO;rw [h1, h2];cases hA : Pl.Qaf s n.tree <;> cases hB : (Pl.blob (Pl.Qaa s n.tree)).2 <;> simp
theorem Qkt (s : Pm.Store) (hg : Pl.Good s) (htx : 0 <= s.2.2.1) (t : Pl.Tree) (hT : ∀ n, Pl.Qak n = true -> n.kind = 1 -> Pure Tryz.prog 263 [.pd (rSt s), dNode n] (.tup [.any, dB (Pl.Qam s n)])) :
 Pure Tryz.prog 192 [.pd (rSt s), dTree t] (Pl.QaS s t) := by
 have c1 := bNodes s hg htx t;have hd : Hid (Pl.QaS s t = if Pl.QaR s t then .tup [.pd (rFiles s t (Pl.Qaa s t) (Pl.dirM s (Pl.Qaa s t) (Pl.Qaa s t).length)), dB (Pl.QaV s (Pl.Qaa s t))] else .tup [.v (.pointer none), dB false]) := Pm.hid rfl;have hr : Hid (Pl.QaR s t = (Pl.Qa2 s t && decide (Pl.Qad (Pl.Qab (Pl.Qaa s t)) 0 = 2) && (List.range (Pl.Qaa s t).length).all (Pl.Qap s (Pl.Qaa s t)))) := Pm.hid rfl;generalize Pl.QaS s t = res at *
 cases htab : Pl.Qa2 s t
 ·rw [htab] at c1 hr
  have hbad := Pm.hid (hd.out.trans (if_neg (by rw [hr.out]; simp)));simp only [Bool.false_eq_true, if_false] at c1
  (refine Qbk Tryz.func192 rfl Tryz.ntmps192 Tryz.results192 rfl ?_; simp only [parE, Nat.zero_add, Nat.reduceAdd])
  (refine Qbf (Qbc ?_); (repeat (first | refine e1 (k := ?_) | refine e2 (k := ?_) | fail)); refine Qbd ?_)
  refine Qbg 0 (h := ?_)
  (repeat' (first | refine e1 (k := ?_) | refine stepS (Qbe Tryz.call226 c1 rfl) (k := ?_) | refine Qbd ?_ | refine Qbf ?_ | refine Qbc ?_ | refine Qbl (ht := ?_) | fail))
  refine Qbn (hx := ?_);rw [hbad.out]
 obtain ⟨hx, hx16, hnok⟩ := QeM htab;rw [htab] at c1 hr;simp only [if_true] at c1;generalize Pl.Qaa s t = x at *
 have c0 := bNodeAt x 0 (by omega);rw [show Pl.atN x 0 = _ from QnK hx 0] at c0
 by_cases h02 : Pl.Qad (Pl.Qab x) 0 = 2
 rotate_left
 ·have hbad := Pm.hid (hd.out.trans (if_neg (by rw [hr.out, decide_eq_false h02]; simp)))
  by_cases h00 : Pl.Qad (Pl.Qab x) 0 = 0
  ·rw [if_pos h00] at c0
   simp only at c0;clear hd hr hT
   (refine Qbk Tryz.func192 rfl Tryz.ntmps192 Tryz.results192 rfl ?_; simp only [parE, Nat.zero_add, Nat.reduceAdd])
   (refine Qbf (Qbc ?_); (repeat (first | refine e1 (k := ?_) | refine e2 (k := ?_) | fail)); refine Qbd ?_)
   refine Qbg 0 (h := ?_)
   (repeat' (first | refine e1 (k := ?_) | refine e0 (k := ?_) | refine stepS (Qbe Tryz.call226 c1 rfl) (k := ?_) | refine stepS (Qbe Tryz.call262 c0 rfl) (k := ?_) | refine stepS2 (Qdj) (k := ?_) | refine Qbu (kk := ?_) | refine Qbd ?_ | refine Qbf ?_ | refine Qbc ?_ | refine Qbl (ht := ?_) | refine Qbm (hf := ?_) | refine Qbj ?_ | refine e2 (k := ?_) | fail))
   all_goals first
    |(refine Qbn (hx := ?_)
      rw [hbad.out]; done)
  ·rw [if_neg h00] at c0
   have hk1 : ((Pl.Qab x).getD 0 Pl.zn).kind ≠ 2 := fun h => h02 (by unfold Pl.Qad; rw [h]; rfl)
   generalize (Pl.Qab x).getD 0 Pl.zn = N at *
   obtain ⟨kd, links, size, ⟨⟨p1, p2, p3, p4, p5⟩, depth, many⟩⟩ := N;simp only at c0 hk1;have hk2 : (kd == 2) = false := by simpa using hk1
   clear hd hr hT
   (refine Qbk Tryz.func192 rfl Tryz.ntmps192 Tryz.results192 rfl ?_; simp only [parE, Nat.zero_add, Nat.reduceAdd])
   (refine Qbf (Qbc ?_); (repeat (first | refine e1 (k := ?_) | refine e2 (k := ?_) | fail)); refine Qbd ?_)
   refine Qbg 0 (h := ?_)
   (repeat' (first | refine e1 (k := ?_) | refine stepS (Qbe Tryz.call226 c1 rfl) (k := ?_) | refine stepS (Qbe Tryz.call262 c0 rfl) (k := ?_) | refine stepS2 (Qdj) (k := ?_) | refine Qbu (kk := ?_) | refine Qbd ?_ | refine Qbf ?_ | refine Qbc ?_ | refine Qbm (hf := ?_) | refine Qbo (ht := fun q => ?_) (hf := fun q => ?_) | refine Qbj ?_ | refine Qbi ?_ | refine e2 (k := ?_) | fail))
   all_goals first
    |(refine Qbn (hx := ?_)
      rw [hbad.out]; done)
    |(exfalso; simp_all; done)
 rw [if_neg (by omega)] at c0
 have hk0 : ((Pl.Qab x).getD 0 Pl.zn).kind = 2 := by
  rcases QcP hx 0 with ⟨_, h⟩ | ⟨_, _, h⟩
  ·unfold Pl.Qad at h02; rw [h] at h02; cases h02
  ·have := h.kind; unfold Pl.Qad at h02; omega
 have hG : Hid ((List.range x.length).all (Pl.Qap s x) = true -> res = .tup [.pd (rFiles s t x (Pl.dirM s x x.length)), dB (Pl.QaV s x)]) := Pm.hid fun h => hd.out.trans (if_pos (by rw [hr.out, decide_eq_true h02, h]; rfl))
 have hB : Hid ((List.range x.length).all (Pl.Qap s x) = false -> res = .tup [.v (.pointer none), dB false]) := Pm.hid fun h => hd.out.trans (if_neg (by rw [hr.out, h]; simp))
 have c9 := bLinked s t x hx16 hx _ _ (QlN s x) (Pl.chF s x) (fun k => chF_ids s x k);rw [show Pl.QaW (Pl.Qad (Pl.Qab x)) (Pl.chF s x) (Pl.Qaw (Pl.Qab x)) x.length = Pl.QaV s x from rfl] at c9;clear hd hr;generalize hN0 : (Pl.Qab x).getD 0 Pl.zn = N at c0 hk0;obtain ⟨kd, links, size, ⟨⟨p1, p2, p3, p4, p5⟩, depth, many⟩⟩ := N;simp only at c0 hk0;subst hk0;clear hN0
 (refine Qbk Tryz.func192 rfl Tryz.ntmps192 Tryz.results192 rfl ?_; simp only [parE, Nat.zero_add, Nat.reduceAdd])
 (refine Qbf (Qbc ?_); (repeat (first | refine e1 (k := ?_) | refine e2 (k := ?_) | fail)); refine Qbd ?_)
 refine Qbg 0 (h := ?_)
 (repeat' (first | refine e1 (k := ?_) | refine stepS (Qbe Tryz.call226 c1 rfl) (k := ?_) | refine stepS (Qbe Tryz.call262 c0 rfl) (k := ?_) | refine stepS2 (Qdj) (k := ?_) | refine Qbu (kk := ?_) | refine Qbd ?_ | refine Qbf ?_ | refine Qbc ?_ | refine Qbm (hf := ?_) | refine Qbj ?_ | refine Qbi ?_ | refine e2 (k := ?_) | fail))
 refine Qby (fun mm st => ∃ k : Nat, k <= x.length /\ mm = x.length - k /\ Hid ((List.range k).all (Pl.Qap s x) = true) /\
  st = ⟨98, [(45, .d (tNds x)), (46, .d (dI x.length)), (47, .d (dI k)), (0, .d (.pd (rSt s))), (8, .ptr 2 0 0)],
   [.row 1 [], .mp 0 (imap (Pl.dirM s x k)), .row 0 [.d (.pd (rSt s)), .d (dI t.root.pat), .d (dI t.root.birth), .d (dI t.root.size), .d (dI t.root.sum), .d (dI t.root.level), .d (dI t.depth), .d (dI t.many), .d (tNds x), .mp 1 0]]⟩)
  [45, 46, 47, 0, 8] 3 x.length ⟨0, by omega, rfl, Pm.hid rfl, by simp [keepE, go_sem, Pl.dirM, imap]⟩ (round := ?_)
 rintro mm st ⟨k, hk, rfl, hA, rfl⟩
 (repeat (first | refine e1 (k := ?_) | refine Qbd ?_ | refine Qbf ?_ | refine Qbc ?_ | fail))
 cases q3 : decide ((k : Int) < (x.length : Int))
 ·have hk3 : k = x.length := by simp at q3; omega
  have hyes := Pm.hid (hG.out (by rw [<- hk3]; exact hA.out));clear hG hB hA;rw [<- hk3] at hyes c9;refine Qbg 1 (h := ?_);refine Qbg 2 (h := ?_)
  (repeat' (first | refine e1 (k := ?_) | refine stepS (Qbe Tryz.call266 c9 rfl) (k := ?_) | refine Qbd ?_ | refine Qbf ?_ | refine Qbc ?_ | refine Qbm (hf := ?_) | refine Qbq ?_ | fail))
  refine Qbn (hx := ?_);rw [hyes.out]
 have hk2 : k < x.length := by simp at q3; omega
 obtain ⟨y, hy⟩ : ∃ y, x[k]? = some y := ⟨_, List.getElem?_eq_getElem hk2⟩;have hyd : x.getD k [] = y := by rw [List.getD_eq_getElem?_getD, hy]; rfl
 have hr := Qbx (f := fun x => [Pl.ndD x]) hy;have T : Hid (Pl.Qap s x k = true -> (List.range (k + 1)).all (Pl.Qap s x) = true) := fun h => Pl.Qb8 (p := Pl.Qap s x) hA.out h
 have F : Hid (Pl.Qap s x k = false -> res = .tup [.v (.pointer none), dB false]) := fun h => hB.out (Pl.Qb5 (p := Pl.Qap s x) hk2 h)
 have hdm : Hid (Pl.dirM s x (k + 1) = if Pl.Qad (Pl.Qab x) k = 2 then mset (Pl.dirM s x k) (k : Nat) (tEnts (Pl.entL s x (k : Nat))) else Pl.dirM s x k) := Pm.hid (by conv => lhs; unfold Pl.dirM);have hgd : Hid (Pl.Qap s x k = (decide (Pl.Qad (Pl.Qab x) k = 0) || (decide (Pl.Qad (Pl.Qab x) k = 1) && Pl.Qam s ((Pl.Qab x).getD k Pl.zn)) || (decide (Pl.Qad (Pl.Qab x) k = 2) && (Pl.ents s ((Pl.Qab x).getD k Pl.zn)).2))) := Pm.hid rfl;have hnx := QcD (x := x) k;rw [hyd] at hnx;clear hG hB hA c0 c1 c9;rcases QcP hx k with ⟨h1, h2⟩ | ⟨h1, _, hnb⟩
 ·rw [hyd] at h1
  have e : Pl.ndD y = .v (.pointer none) := by unfold Pl.ndD; rw [if_pos h1]
  rw [e] at hr;have hk0 : Pl.Qad (Pl.Qab x) k = 0 := by unfold Pl.Qad; rw [h2]; rfl
  have ht := Pm.hid (T.out (by rw [hgd.out, hk0]; rfl));have hdm2 : Hid (Pl.dirM s x (k + 1) = Pl.dirM s x k) := Pm.hid (by rw [hdm.out, if_neg (by omega)]);clear T F hdm hgd hnx hyd hy hx hT hnok
  (repeat' (first | refine e1 (k := ?_) | refine stepS (Qbh Ty.h rfl Ty.h rfl rfl rfl (by omega) hr) (k := ?_) | refine stepS (QdT Tryz.underlying261 rfl) (k := ?_) | refine stepS (Qbs rfl rfl (by omega)) (k := ?_) | refine Qbd ?_ | refine Qbp ?_ | refine Qbf ?_ | refine Qbc ?_ | refine Qbl (ht := ?_) | refine Qbj ?_ | refine Qbi ?_ | refine Qbq ?_ | fail))
  all_goals first
   |(exfalso; simp at *; done)
   |(refine Qbt (x.length - (k + 1)) (by omega) ⟨k + 1, by omega, rfl, ht, ?_⟩
     rw [hdm2.out]
     simp [keepE, go_sem]; done)
 rw [hyd] at h1;have e : Pl.ndD y = .pd (rNode (Pl.ng y).1) := by unfold Pl.ndD; rw [if_neg h1]
 rw [e] at hr;have hkN : Pl.Qad (Pl.Qab x) k = (Pl.ng y).1.kind.toNat := by unfold Pl.Qad; rw [hnx]
 have hne0 : Pl.Qad (Pl.Qab x) k ≠ 0 := by rw [hkN, <- hnx]; have := hnb.kind; omega
 have hno := hnok k hne0;have hel : Hid (Pl.entL s x (k : Nat) = (Pl.ents s (Pl.ng y).1).1) := Pm.hid (by unfold Pl.entL; rw [Int.toNat_natCast, hnx]);rw [hnx] at hnb hgd hno;have hkd := hnb.kind;clear hnx hyd hy e hnok hnb;generalize (Pl.ng y).1 = N at *
 rcases hkd with hkd | hkd
 ·have hk1 : Pl.Qad (Pl.Qab x) k = 1 := by rw [hkN, hkd]; rfl
  have c2 := hT N hno hkd;have hgf : Pl.Qap s x k = Pl.Qam s N := by rw [hgd.out, hk1]; simp
  rw [hgf] at T F;have hdm2 : Hid (Pl.dirM s x (k + 1) = Pl.dirM s x k) := Pm.hid (by rw [hdm.out, if_neg (by omega)]);clear hgf hgd hdm hel hT hx;generalize Pl.Qam s N = fo at *
  obtain ⟨kd, links, size, ⟨⟨p1, p2, p3, p4, p5⟩, depth, many⟩⟩ := N;simp only at hkd;subst hkd
  (repeat' (first | refine e1 (k := ?_) | refine stepS (Qbh Ty.h rfl Ty.h rfl rfl rfl (by omega) hr) (k := ?_) | refine stepS (QcJ Tryz.underlying261 rfl) (k := ?_) | refine stepS (QbF rfl) (k := ?_) | refine stepS (Qbe Tryz.call263 c2 rfl) (k := ?_) | refine stepS (Qbs rfl rfl (by omega)) (k := ?_) | refine Qbd ?_ | refine Qbp ?_ | refine Qbf ?_ | refine Qbc ?_ | refine Qbl (ht := ?_) | refine Qbm (hf := ?_) | refine Qbo (ht := fun q => ?_) (hf := fun q => ?_) | refine Qbj ?_ | refine QcN ?_ | refine Qbi ?_ | refine Qbq ?_ | fail))
  all_goals first
   |(exfalso; simp at *; done)
   |(refine Qbt (x.length - (k + 1)) (by omega) ⟨k + 1, by omega, rfl, Pm.hid (T.out (by simp_all)), ?_⟩
     rw [hdm2.out]
     simp [keepE, go_sem]; done)
   |(refine Qbn (hx := ?_)
     rw [F.out (by simp_all)]; done)
 ·have hk2' : Pl.Qad (Pl.Qab x) k = 2 := by rw [hkN, hkd]; rfl
  have c3 := QiC s hg htx N;have c4 := QiD (Pl.QaO s N).1 (Ql8 s hg N);have hgf : Pl.Qap s x k = (Pl.ents s N).2 := by rw [hgd.out, hk2']; simp
  rw [hgf] at T F;have hen := Qkh (s := s) hno hkd;have hdm2 : Hid (Pl.dirM s x (k + 1) = mset (Pl.dirM s x k) (k : Nat) (tEnts (Pl.ents s N).1)) := Pm.hid (by rw [hdm.out, if_pos hk2', hel.out]);rw [hen] at T F hdm2;clear hgf hgd hdm hel hT hx hen;generalize Pl.QaO s N = ft at *
  obtain ⟨ftext, fine⟩ := ft;simp only at c3 c4 T F hdm2;generalize Pl.eg ftext = eg at *
  obtain ⟨list, good⟩ := eg;simp only at c4 T F hdm2;obtain ⟨kd, links, size, ⟨⟨p1, p2, p3, p4, p5⟩, depth, many⟩⟩ := N;simp only at hkd;subst hkd;cases fine
  all_goals simp only [Bool.false_eq_true, if_false, if_true] at T F hdm2
  all_goals
   (repeat' (first | refine e1 (k := ?_) | refine e0 (k := ?_) | refine stepS (Qbh Ty.h rfl Ty.h rfl rfl rfl (by omega) hr) (k := ?_) | refine stepS (QcJ Tryz.underlying261 rfl) (k := ?_) | refine stepS (QbF rfl) (k := ?_) | refine stepS (Qeh rfl rfl) (k := ?_) | refine stepS (Qbe Tryz.call264 c3 rfl) (k := ?_) | refine stepS (Qbe Tryz.call265 c4 rfl) (k := ?_) | refine (QeT Tryz.underlying263 Tryz.underlying3 (kk := ?_)) | refine stepS (Qbs rfl rfl (by omega)) (k := ?_) | refine Qbd ?_ | refine Qbp ?_ | refine Qb0 ?_ | refine Qbf ?_ | refine Qbc ?_ | refine Qbl (ht := ?_) | refine Qbm (hf := ?_) | refine Qbo (ht := fun q => ?_) (hf := fun q => ?_) | refine Qbj ?_ | refine Qbi ?_ | fail))
  all_goals first
   |(exfalso; simp at *; done)
   |(refine Qbt (x.length - (k + 1)) (by omega) ⟨k + 1, by omega, rfl, Pm.hid (T.out (by simp_all)), ?_⟩
     rw [hdm2.out]
     simp [keepE, go_sem]; done)
   |(refine Qbn (hx := ?_)
     rw [F.out (by simp_all)]; done)
end Aw
end
section
open Go.RowKit
namespace Aw
attribute [local irreducible] ASeq ADraw AWP Loc mget mset AStep Fg.PlanF Fg.Flts
theorem Qmh : Does Tryz.prog 174 [.d (.v (.slice none 0 0))] [] [] (.osl 0 0 0 0) [.arr 0 1 9 []] := by
 refine Qb9 Tryz.func174 rfl Tryz.ntmps174 Tryz.results174 rfl rfl ?hpin (fun gvs => ?_)
 case hpin => intro i C hC; simp at hC
 simp only [parA, gslot, Nat.zero_add, Nat.reduceAdd]
 (repeat' (first | refine e1 (k := ?_) | refine stepS (QjW Tryz.underlying35 rfl) (k := ?_) | refine Qbd ?_ | refine Qbf ?_ | refine Qbc ?_ | refine Qbl (ht := ?_) | fail))
 refine Qd4 2 1 9 (h := ?_);refine Qcm [2, 1000000] 1 (H' := [.arr 0 1 9 []]) (hH := fun R hR => hR) (h := ?_);exact QbN (hx := rfl) (hH := rfl)
theorem Qmg (l : List (List UInt8)) (hl : l.length <= 1000000) (hn : l ≠ []) : Does Tryz.prog 174 [.d (tStrs l)] [] [] (.osl 0 1 0 l.length) [.arr 1 1 9 (l.map fun s => [dS s])] := by
 refine Qb9 Tryz.func174 rfl Tryz.ntmps174 Tryz.results174 rfl rfl ?hpin (fun gvs => ?_)
 case hpin => intro i C hC; simp at hC
 simp only [parA, gslot, Nat.zero_add, Nat.reduceAdd];obtain ⟨a, l, rfl⟩ := List.exists_cons_of_ne_nil hn
 (repeat' (first | refine e1 (k := ?_) | refine stepS (Qii Tryz.underlying35 rfl) (k := ?_) | refine (QgJ Ty.h rfl Ty.h (hcell := ?_) (hb := ?_) (kk := ?_)) | refine stepS2 (Qbz Ty.h rfl Ty.h) (k := ?_) | refine Qbd ?_ | refine Qbf ?_ | refine Qbc ?_ | refine Qbm (hf := ?_) | refine Qbj ?_ | fail))
 ·intro r hr d hd
  obtain ⟨y, _, rfl⟩ := List.mem_map.1 hr;obtain rfl := List.mem_singleton.1 hd;rfl
 ·show (0 + ((a :: l).map fun s => [dS s]).length) * 16 <= 140737488355328
  rw [List.length_map]; omega
 ·refine Qcm [2, 1000000] 1 (H' := [.arr 1 1 9 ((a :: l).map fun s => [dS s])]) (hH := fun R hR => hR) (h := ?_)
  exact QbN (hx := rfl) (hH := rfl)
end Aw
end
end Go.Proofs.YtdjkdcokjoiokaaGreatDoor

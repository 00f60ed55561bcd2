/- Part 40 of the proof of bytes_card: contracts, walks, plain laws; no condition is assumed beyond those that a statement names. -/
import Derived.Test.YtdjkdcokjoiokaaGreatDoorQ39
set_option linter.all false
set_option maxRecDepth 100000
set_option maxHeartbeats 8000000
namespace Go.Proofs.YtdjkdcokjoiokaaGreatDoor
open Go.RowKit
namespace Aw
def Pl.QaJ (out : List Nat) (k : Nat) : List Nat := if k ∈ out then out else out ++ [k]
def Pl.Qan (out L : List Nat) : List Nat := L.foldl Pl.QaJ out
theorem Qdo (out L : List Nat) (k : Nat) : Pl.Qan out (k :: L) = Pl.Qan (Pl.QaJ out k) L := rfl
theorem Qkg (out L M : List Nat) : Pl.Qan out (L ++ M) = Pl.Qan (Pl.Qan out L) M := List.foldl_append ..
theorem Qfm (out : List Nat) (k : Nat) : out.length <= (Pl.QaJ out k).length /\ (Pl.QaJ out k).length <= out.length + 1 /\ ((Pl.QaJ out k).length = out.length -> Pl.QaJ out k = out) := by
 unfold Pl.QaJ
 split
 ·exact ⟨Nat.le_refl _, Nat.le_succ _, fun _ => rfl⟩
 ·refine ⟨by simp, by simp, fun h => by simp at h⟩
theorem QdL : ∀ (L out : List Nat), out.length <= (Pl.Qan out L).length /\ (Pl.Qan out L).length <= out.length + L.length /\ ((Pl.Qan out L).length = out.length -> Pl.Qan out L = out)
 |[], out => ⟨Nat.le_refl _, Nat.le_refl _, fun _ => rfl⟩
 |k :: L, out => by
  obtain ⟨h1, h2, h3⟩ := Qfm out k
  obtain ⟨g1, g2, g3⟩ := QdL L (Pl.QaJ out k)
  rw [Qdo]
  refine ⟨by omega, by simp only [List.length_cons]; omega, fun h => ?_⟩
  rw [g3 (by omega), h3 (by omega)]
theorem Qlo (out : List Nat) (k j : Nat) : j ∈ Pl.QaJ out k ↔ j ∈ out ∨ j = k := by
 unfold Pl.QaJ
 split
 ·rename_i h; exact ⟨.inl, fun h2 => h2.elim id (by rintro rfl; exact h)⟩
 ·simp
theorem QeG : ∀ (L out : List Nat) (j : Nat), j ∈ Pl.Qan out L ↔ j ∈ out ∨ j ∈ L
 |[], out, j => by simp [Pl.Qan]
 |k :: L, out, j => by rw [Qdo, QeG L, Qlo, List.mem_cons, or_assoc]
theorem Qiz {out : List Nat} (h : out.Nodup) (k : Nat) : (Pl.QaJ out k).Nodup := by
 unfold Pl.QaJ
 split
 ·exact h
 ·rename_i hk
  rw [List.nodup_append]
  exact ⟨h, by simp, fun a ha b hb => by rw [List.mem_singleton.1 hb]; rintro rfl; exact hk ha⟩
theorem QeS : ∀ {L out : List Nat}, out.Nodup -> (Pl.Qan out L).Nodup
 |[], _, h => h
 |k :: L, _, h => by rw [Qdo]; exact QeS (Qiz h k)
noncomputable def Pl.Qbh (out : List Nat) : List (Int × D) := out.foldl (fun m k => mset m (k : Nat) (dB true)) []
theorem Qko (out : List Nat) (k : Nat) : Pl.Qbh (out ++ [k]) = mset (Pl.Qbh out) (k : Nat) (dB true) := by
 unfold Pl.Qbh; rw [List.foldl_append]; rfl
theorem seenG : ∀ (out : List Nat) (m : List (Int × D)) (k : Nat), mget (out.foldl (fun m k => mset m (k : Nat) (dB true)) m) (k : Int) = if k ∈ out then some (dB true) else mget m (k : Int)
 |[], m, k => by simp
 |j :: out, m, k => by
  rw [List.foldl_cons, seenG out]
  by_cases hk : k ∈ out
  ·rw [if_pos hk, if_pos (List.mem_cons_of_mem _ hk)]
  ·rw [if_neg hk]
   by_cases hj : j = k
   ·subst hj; rw [Qct, if_pos List.mem_cons_self]
   ·rw [QcS (by omega), if_neg (fun h => by rcases List.mem_cons.1 h with h | h; exact hj h.symm; exact hk h)]
theorem Qlz (out : List Nat) (k : Nat) : (mget (Pl.Qbh out) (k : Int)).getD (.v (.bool false)) = dB (decide (k ∈ out)) := by
 unfold Pl.Qbh
 rw [seenG]
 by_cases h : k ∈ out
 ·rw [if_pos h, decide_eq_true h]; rfl
 ·rw [if_neg h, decide_eq_false h]; simp [mget]
theorem Qmk {s : Pm.Store} {x : List (List UInt8)} {k : Nat} {L : List Nat} (h : Gr.FD (Pl.Qad (Pl.Qac x)) (Pl.chF s x) [k] L) :
 ∃ L1, L = k :: L1 /\ Gr.FD (Pl.Qad (Pl.Qac x)) (Pl.chF s x) ((Pl.entL s x (k : Nat)).map fun e => e.2.toNat) L1 /\ Pl.Qad (Pl.Qac x) k ≠ 0 := by
 cases h with
 |file hk h =>
  cases h
  refine ⟨[], rfl, ?_, by omega⟩
  have : Pl.entL s x (k : Nat) = [] := by
   unfold Pl.entL
   rw [Int.toNat_natCast]
   rcases Qcp s ((Pl.Qac x).getD k Pl.zn) with h2 | h2
   ·have := QfH h2.1
    exfalso; unfold Pl.Qad at hk; rw [this] at hk; cases hk
   ·rw [h2]
  rw [this]; exact .nil
 |dir hk hc h1 h2 =>
  cases h2
  refine ⟨_, by rw [List.append_nil], ?_, by omega⟩
  have := Qm9 s x k
  rw [hc] at this
  simp only [Option.getD_some] at this
  rw [<- this]; exact h1
theorem Qmm {kind : Nat -> Nat} {ch : Nat -> Option (List Nat)} {k : Nat} {es L : List Nat} (h : Gr.FD kind ch (k :: es) L) : ∃ M R, L = M ++ R /\ Gr.FD kind ch [k] M /\ Gr.FD kind ch es R := by
 cases h with
 |file hk h => exact ⟨[k], _, rfl, .file hk .nil, h⟩
 |dir hk hc h1 h2 => exact ⟨_, _, rfl, by have := Gr.FD.dir hk hc h1 .nil; simpa using this, h2⟩
end Aw
end Go.Proofs.YtdjkdcokjoiokaaGreatDoor
namespace Go.Proofs.YtdjkdcokjoiokaaGreatDoor
open Go.RowKit
namespace Aw
attribute [local irreducible] ASeq ADraw AWP Loc mget mset AStep Fg.PlanF Fg.Flts
theorem QmJ : Does Tryz.prog 174 [.d (.v (.slice none 0 0))] [] [] (.osl 0 0 0 0) [.arr 0 1 9 []] := by
 refine Qc4 Tryz.func174 rfl Tryz.ntmps174 Tryz.results174 rfl rfl ?hpin (fun gvs => ?_)
 case hpin => intro i C hC; simp at hC
 simp only [parA, gslot, Nat.zero_add, Nat.reduceAdd]
 (repeat' (first | refine e1 (k := ?_) | refine stepS (Qk2 Tryz.underlying35 rfl) (k := ?_) | refine Qbs ?_ | refine Qbu ?_ | refine Qbr ?_ | refine Qb0 (ht := ?_) | fail))
 refine QeQ 2 1 9 (h := ?_)
 refine QcQ [2, 1000000] 1 (H' := [.arr 0 1 9 []]) (hH := fun R hR => hR) (h := ?_)
 exact QcW (hx := rfl) (hH := rfl)
theorem QmI (l : List (List UInt8)) (hl : l.length <= 1000000) (hn : l ≠ []) : Does Tryz.prog 174 [.d (tStrs l)] [] [] (.osl 0 1 0 l.length) [.arr 1 1 9 (l.map fun s => [dS s])] := by
 refine Qc4 Tryz.func174 rfl Tryz.ntmps174 Tryz.results174 rfl rfl ?hpin (fun gvs => ?_)
 case hpin => intro i C hC; simp at hC
 simp only [parA, gslot, Nat.zero_add, Nat.reduceAdd]
 obtain ⟨a, l, rfl⟩ := List.exists_cons_of_ne_nil hn
 (repeat' (first | refine e1 (k := ?_) | refine stepS (QiD Tryz.underlying35 rfl) (k := ?_) | refine (QfT Ty.h rfl Ty.h (hcell := ?_) (hb := ?_) (kk := ?_)) | refine stepS2 (QbE Ty.h rfl Ty.h) (k := ?_) | refine Qbs ?_ | refine Qbu ?_ | refine Qbr ?_ | refine Qb2 (hf := ?_) | refine Qbz ?_ | fail))
 ·intro r hr d hd
  obtain ⟨y, _, rfl⟩ := List.mem_map.1 hr
  obtain rfl := List.mem_singleton.1 hd
  rfl
 ·show (0 + ((a :: l).map fun s => [dS s]).length) * 16 <= 140737488355328
  rw [List.length_map]; omega
 ·refine QcQ [2, 1000000] 1 (H' := [.arr 1 1 9 ((a :: l).map fun s => [dS s])]) (hH := fun R hR => hR) (h := ?_)
  exact QcW (hx := rfl) (hH := rfl)
noncomputable def Pl.vb (x : List (List UInt8)) (out : List Nat) : List Blk :=
 [.row 0 [.mp 2 0], .row 0 [.osl 3 out.length 0 out.length], .mp 0 (imap (Pl.Qbh out)), .arr out.length 10 105 (out.map fun k => rNode ((Pl.Qac x).getD k Pl.zn))]
def Pl.vg (out : List Nat) : List AV := [.ptr 0 0 0, .ptr 1 0 0, .mp 2 0, .osl 3 out.length 0 out.length]
theorem Qom (x : List (List UInt8)) (out out' : List Nat) (h1 : out.length <= out'.length) (h2 : out'.length = out.length -> out' = out) : ∀ i C, (Pl.vb x out)[i]? = some C -> ∃ C', (Pl.vb x out')[i]? = some C' /\ pin1 (Pl.vg out) i C C' := by
 intro i C hC
 match i, hC with
 |0, hC => obtain rfl := Option.some.inj hC; exact ⟨_, rfl, .inr ⟨rfl, 0, by simp [Pl.vg]⟩⟩
 |1, hC => obtain rfl := Option.some.inj hC; exact ⟨_, rfl, .inr ⟨rfl, 0, by simp [Pl.vg]⟩⟩
 |2, hC => obtain rfl := Option.some.inj hC; exact ⟨_, rfl, .inr ⟨rfl, by simp [Pl.vg]⟩⟩
 |3, hC =>
  obtain rfl := Option.some.inj hC
  refine ⟨_, rfl, rfl, rfl, ?_⟩
  rcases Nat.eq_or_lt_of_le h1 with e | e
  ·exact .inr ⟨e, by simp [e], 0, out.length, by simp [Pl.vg]⟩
  ·exact .inl e
theorem bVisit (s : Pm.Store) (t : Pl.Tree) (x : List (List UInt8)) (hx : Pl.TxOk x) (m : List (Int × D)) (p : List UInt8) (out : List Nat) (ho : out.length <= 1000000) (k : Nat) (hk : Pl.Qad (Pl.Qac x) k ≠ 0) :
 Does Tryz.prog 195 [.d (.agg [dS p, dI k]), .ptr 0 0 0, .ptr 1 0 0, .d (.pd [.pd (rFiles s t x m)])] (Pl.vb x out) (Pl.vg out) (.tup []) (Pl.vb x (Pl.QaJ out k)) := by
 have hvl := Qfm out k
 refine Qc4 Tryz.func195 rfl Tryz.ntmps195 Tryz.results195 rfl rfl ?hpin (fun gvs => ?_)
 case hpin => exact Qom x out _ hvl.1 hvl.2.2
 simp only [parA, gslot, Nat.zero_add, Nat.reduceAdd, Pl.vb, Pl.vg]
 have hlook := Qlz out k
 refine QjW ?_
 (refine Qbu (Qbr ?_); (repeat (first | refine e2 (k := ?_) | fail)); refine Qbs ?_)
 refine Qbv 4 (h := ?_)
 by_cases hm : k ∈ out
 ·rw [decide_eq_true hm] at hlook
  have hv : Pl.QaJ out k = out := by unfold Pl.QaJ; rw [if_pos hm]
  rw [hv]
  (repeat' (first | refine e1 (k := ?_) | refine stepS (Qcl Tryz.underlying87 Tryz.underlying3 (z := .bool false) (by kernel_rfl) rfl rfl rfl hlook) (k := ?_) | refine Qbs ?_ | refine Qbu ?_ | refine Qbr ?_ | refine Qb2 (hf := ?_) | refine Qbz ?_ | fail))
  all_goals first
   |(exfalso; simp at *; done)
   |exact Qjp 4 .normal (.inl rfl) rfl rfl rfl rfl rfl rfl rfl
 ·rw [decide_eq_false hm] at hlook
  have hv : Pl.QaJ out k = out ++ [k] := by unfold Pl.QaJ; rw [if_neg hm]
  rw [hv, Qko, List.length_append, List.length_singleton]
  obtain ⟨hy1, hy2, hnb⟩ : x.getD k [] ≠ [] /\ k < x.length /\ NodeB ((Pl.Qac x).getD k Pl.zn) := by
   rcases Qc8 hx k with ⟨_, h⟩ | h
   ·exfalso; apply hk; unfold Pl.Qad; rw [h]; rfl
   ·exact h
  obtain ⟨y, hy⟩ : ∃ y, x[k]? = some y := ⟨_, List.getElem?_eq_getElem hy2⟩
  have hyd : x.getD k [] = y := by rw [List.getD_eq_getElem?_getD, hy]; rfl
  have hr := QbC (f := fun x => [Pl.ndD x]) hy
  have hnx := QcM (x := x) k
  rw [hyd] at hnx hy1
  have e : Pl.ndD y = .pd (rNode (Pl.ng y).1) := by unfold Pl.ndD; rw [if_neg hy1]
  rw [e] at hr
  rw [List.map_append, List.map_cons, List.map_nil, hnx]
  generalize (Pl.ng y).1 = N at *
  clear hvl hx hk hm hv hnb hyd hy hnx hy1 e
  (repeat' (first | refine f1 (k := ?_) | refine e1 (k := ?_) | refine stepS (Qcl Tryz.underlying87 Tryz.underlying3 (z := .bool false) (by kernel_rfl) rfl rfl rfl hlook) (k := ?_) | refine (QeE Tryz.underlying87 Tryz.underlying3 (kk := ?_)) | refine stepD (QbW rfl) (k := ?_) | refine stepD (Qbx Ty.h rfl Ty.h rfl rfl rfl (by omega) hr) (k := ?_) | refine (Fg.awp_drawF (id := 3) [] [12, 13] follows_mixed (by kernel_rfl) (by kernel_rfl) (by kernel_rfl) ?_) | refine (Fg.aw_fltN ?_) | refine (Fg.aw_planFC (by rfl) (by kernel_rfl) rfl ?_) | refine (Fg.aw_planFN ?_) | refine QnT Ty.h rfl Ty.h (hb := ?_) (kk := ?_) | refine (Qdk (kk := ?_)) | refine stepD2 (QbE Ty.h rfl Ty.h) (k := ?_) | refine Qbs ?_ | refine Qca ?_ | refine Qbu ?_ | refine Qbr ?_ | refine Qb0 (ht := ?_) | fail))
  all_goals first
   |(exfalso; simp at *; done)
   |(show ((out.map fun k => rNode ((Pl.Qac x).getD k Pl.zn)).length + 1) * 80 <= 140737488355328
     rw [List.length_map]; omega)
   |(rw [List.length_map]
     exact Qjp 4 .normal (.inl rfl) rfl rfl rfl rfl rfl rfl rfl)
end Aw
end Go.Proofs.YtdjkdcokjoiokaaGreatDoor

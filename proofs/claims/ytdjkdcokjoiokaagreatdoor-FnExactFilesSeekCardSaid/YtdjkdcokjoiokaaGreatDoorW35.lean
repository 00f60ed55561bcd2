/- Part 35 of seek_card: contracts, walks, laws; no condition beyond the statement's. -/
import Derived.Test.YtdjkdcokjoiokaaGreatDoorW20
set_option linter.all false
set_option maxRecDepth 100000
set_option maxHeartbeats 4000000
namespace Go.Proofs.YtdjkdcokjoiokaaGreatDoor
section
open Go.RowKit
namespace Aw
attribute [local irreducible] ASeq ADraw AWP Loc
def setL (r : List D) : Nat -> List D -> List D
 |_, [] => r
 |j, x :: l => setL (r.set j x) (j + 1) l
theorem QiO : ∀ (l r : List D) (j i : Nat), j + l.length <= r.length -> (setL r j l)[i]? = if j <= i /\ i < j + l.length then l[i - j]? else r[i]?
 |[], r, j, i, _ => by unfold setL; rw [if_neg (by simp)]
 |x :: l, r, j, i, h => by
  simp only [List.length_cons] at h ⊢;show (setL (r.set j x) (j + 1) l)[i]? = _;rw [QiO l (r.set j x) (j + 1) i (by rw [List.length_set]; omega)]
  by_cases h1 : i = j
  ·subst h1
   rw [if_neg (by omega), if_pos (by omega), List.getElem?_set_self (by omega), Nat.sub_self]; rfl
  ·by_cases h2 : j + 1 <= i /\ i < j + 1 + l.length
   ·rw [if_pos h2, if_pos (by omega), show i - j = (i - (j + 1)) + 1 by omega, List.getElem?_cons_succ]
   ·rw [if_neg h2, if_neg (by omega), List.getElem?_set_ne (fun e => h1 e.symm)]
theorem Qm2 (l r : List D) (h : l.length = r.length) : setL r 0 l = l := by
 apply List.ext_getElem?;intro i;rw [QiO l r 0 i (by omega)]
 by_cases hi : i < l.length
 ·rw [if_pos (by omega), Nat.sub_zero]
 ·rw [if_neg (by omega), List.getElem?_eq_none (by omega), List.getElem?_eq_none (by omega)]
theorem QgU {P : Program} {B : Bs} {S : Nat -> Prop} {k g b i sz : Nat} {T0 : TypeId} : ∀ (l : List D) (vs : List Value) {σ : Sg} {H : List Blk} {w : World} {rows : List (List D)} {r : List D} (j : Nat), Sm B σ S H w -> σ k = some b -> H[k]? = some (.arr g sz T0 rows) -> rows[i]? = some r -> vs.length = l.length ->
 (∀ (q : Nat) x, l[q]? = some x -> ∃ v, vs[q]? = some v /\ RelD S w x v /\ v.oneCell' = true) -> j + l.length <= r.length ->
 ∃ w', (storeCells ⟨b, i * sz, none⟩ vs j).run P w = .ok () w' /\ Sm B σ S (H.set k (.arr g sz T0 (rows.set i (setL r j l)))) w' /\ Ev σ S H w σ S (H.set k (.arr g sz T0 (rows.set i (setL r j l)))) w'
 |[], [], σ, H, w, rows, r, j, hS, _, hk, hr, _, _, _ => by
  have h1 : rows.set i r = rows := by
   apply List.ext_getElem?;intro q
   by_cases hq : q = i
   ·subst hq; rw [List.getElem?_set_self (List.getElem?_eq_some_iff.1 hr).1, hr]
   ·rw [List.getElem?_set_ne (fun e => hq e.symm)]
  have h2 : H.set k (.arr g sz T0 rows) = H := by
   apply List.ext_getElem?;intro q
   by_cases hq : q = k
   ·subst hq; rw [List.getElem?_set_self (List.getElem?_eq_some_iff.1 hk).1, hk]
   ·rw [List.getElem?_set_ne (fun e => hq e.symm)]
  exact ⟨w, rfl, by unfold setL; rw [h1, h2]; exact hS, by unfold setL; rw [h1, h2]; exact Ev.refl σ S H w⟩
 |[], v :: vs, _, _, _, _, _, _, _, _, _, _, hl, _, _ => by simp at hl
 |x :: l, [], _, _, _, _, _, _, _, _, _, _, hl, _, _ => by simp at hl
 |x :: l, v :: vs, σ, H, w, rows, r, j, hS, hb, hk, hr, hl, hrel, hlen => by
  obtain ⟨v', hv', hx, ho⟩ := hrel 0 x rfl;simp at hv'; subst hv';have hj : j < r.length := by simp at hlen; omega
  have hkl : k < H.length := (List.getElem?_eq_some_iff.1 hk).1;have hil : i < rows.length := (List.getElem?_eq_some_iff.1 hr).1;obtain ⟨_, hbk⟩ := hS.blk k _ hk;rcases hbk with ⟨b', cs, hb', hc, hrl⟩ | ⟨hb', _⟩;rotate_left
  ·rw [hb] at hb'; cases hb'
  rw [hb] at hb'; obtain rfl := Option.some.inj hb';obtain ⟨c, hcc, _⟩ := hrl i j r _ hr (List.getElem?_eq_getElem hj);have hcell : w.cell? ⟨b, i * sz + j, none⟩ = some c := by rw [cell_of_row w b _ cs T0 (0, 0) hc]; exact hcc
  have hfr : w.frozen? ⟨b, i * sz + j, none⟩ = false := frozen_of_row w b _ cs T0 hc;obtain ⟨h4, h5⟩ := hS.setArr hb hk hr hj hx
  obtain ⟨w', h6, h7, h8⟩ := QgU l vs (rows := rows.set i (r.set j x)) (r := r.set j x) (j + 1) h4 hb (List.getElem?_set_self hkl) (List.getElem?_set_self hil) (by simpa using hl)
   (fun q y hy => by
     obtain ⟨u, hu, hru, hou⟩ := hrel (q + 1) y (by simpa using hy)
     exact ⟨u, by simpa using hu, hru.mono (fun _ h => h) h5.same, hou⟩) (by rw [List.length_set]; simp at hlen; omega)
  simp only [List.set_set] at h7 h8;refine ⟨w', ?_, h7, ?_⟩
  ·unfold storeCells
   rw [Sem.run_bind];have : (⟨b, i * sz, none⟩ : Addr).add j = ⟨b, i * sz + j, none⟩ := Qcg b _ j;rw [this, QeY hcell hfr ho, Result.andThen_ok];exact h6
  ·have := h5.trans h8
   exact this
theorem Qgd {P : Program} {ops : Array Oper} {Q : Exit -> St -> Prop} {l : List Oper} {n : Nat} {env : List (Nat × AV)} {H H' : List Blk} {ty : TypeId} {pos : String} {after : Array Edge} {gd : Option (Nat × Bool)} {T T0 : TypeId} {F : TyF} {u v : Operand} {k g i sz : Nat} {rows : List (List D)} {r : List D} {ds : List D}
 (hT : tyf P T = some F) (hu : aval env u = .ept k g i 0) (hk : H[k]? = some (.arr g sz T0 rows)) (hr : rows[i]? = some r) (hv : aval env v = .d (.agg ds)) (hrl : ds.length = r.length) (hsz : ds.length = F.size) (hone : ds.all D.cell = true)
 (hw : awanted ops env ⟨none, .store T u v, ty, pos, after, gd⟩ = some true := by rfl) (hg : gdOk ops n ⟨none, .store T u v, ty, pos, after, gd⟩ = true := by rfl)
 (hH : ∀ R : List Blk -> Prop, R H' -> R (H.set k (.arr g sz T0 (rows.set i ds))) := by intro R hR; simp only [List.set_cons_zero, List.set_cons_succ, Nat.zero_add, Nat.reduceAdd]; exact hR)
 (kk : ASeq P ops Q l ⟨n, env, H'⟩) : ASeq P ops Q (⟨none, .store T u v, ty, pos, after, gd⟩ :: l) ⟨n, env, H⟩ := by
 have := hH (fun r => r = H') rfl;subst this;refine QgI (x := .d (.v undef)) ?_ hw hg kk;intro B σ S a w hB hS hop K Q kk;have h1 := hop u (by simp [Op.operands]);have h2 := hop v (by simp [Op.operands]);rw [hu] at h1;rw [hv] at h2;generalize hx : a.eval u = y at h1;generalize hy : a.eval v = z at h2;cases h1 with
 |ept _ _ _ _ _ _ g' sz' T' rows' hk' hg hh =>
  rw [hk] at hk';obtain ⟨rfl, rfl, rfl, rfl⟩ : g = g' /\ sz = sz' /\ T0 = T' /\ rows = rows' := by injection (Option.some.inj hk') with h1 h2 h3 h4; exact ⟨h1, h2, h3, h4⟩
  obtain ⟨b, hb, rfl⟩ := hh rfl;cases h2 with
  |d _ _ h2 =>
   cases h2 with
   |agg _ cs hl hc =>
    obtain ⟨w', h3, h4, h5⟩ := QgU (P := P) ds cs (r := r) 0 hS hb hk hr hl.symm (fun q x hq => by
     obtain ⟨c, hcq⟩ : ∃ c, cs[q]? = some c := ⟨_, List.getElem?_eq_getElem (by rw [<- hl]; exact (List.getElem?_eq_some_iff.1 hq).1)⟩;have hr := hc q x c hq hcq
     exact ⟨c, hcq, hr, D.cell_one hr (List.all_eq_true.1 hone x (List.mem_of_getElem? hq))⟩) (by omega)
    rw [Qm2 ds r hrl] at h4 h5
    have hrun : (execOp a.eval ⟨none, .store T u v, ty, pos, after, gd⟩).run P w = .ok .skip w' := by
     simp only [execOp, Instr.storeAt, Instr.sureAddr, hx, hy, storeVar, Sem.run_bind, Sem.run_pure, Result.andThen_ok, Qcu hT];have hcells : (Value.agg cs.toArray).cells = cs.toArray := rfl;rw [hcells, if_neg (by rw [<- hsz, hl]; simp)];simp only [Nat.add_zero];rw [h3]; rfl
    unfold Oper.wp;rw [hrun];exact kk undef w' σ S h4 (.d _ _ (.v _)) h5
theorem QdD {α : Type} {l : List α} {z x : α} {k : Nat} (hx : l[k]? = some x) : (l.take k ++ List.replicate (l.length - k) z).set k x = l.take (k + 1) ++ List.replicate (l.length - (k + 1)) z := by
 have hk : k < l.length := (List.getElem?_eq_some_iff.1 hx).1;rw [show l.length - k = (l.length - (k + 1)) + 1 by omega, List.replicate_succ, List.take_add_one, hx, List.set_append_right _ _ (by simp; omega)];simp [Nat.min_eq_left (Nat.le_of_lt hk)]
theorem QdE {α : Type} {l : List α} {z : α} {k : Nat} (hk : k < l.length) : (l.take k ++ List.replicate (l.length - k) z)[k]? = some z := by
 rw [List.getElem?_append_right (by simp; omega), List.length_take, Nat.min_eq_left (Nat.le_of_lt hk), Nat.sub_self, List.getElem?_replicate, if_pos (by omega)]
theorem aToInts (l : List Int) (h : l.length <= 1048576) : Pure Tryz.prog 118 [dInts l] (tInts l) := by
 have hb : 8 * l.length <= 281474976710656 := by omega
 have hm : l.length <= 140737488355328 := by omega
 (refine Qbk Tryz.func118 rfl Tryz.ntmps118 Tryz.results118 rfl ?_; simp only [parE, Nat.zero_add, Nat.reduceAdd])
 (repeat' (first | refine e1 (k := ?_) | refine stepS2 (Qcw Ty.h rfl Ty.h rfl rfl rfl hb hm) (k := ?_) | refine Qbd ?_ | refine Qbf ?_ | refine Qbc ?_ | refine Qbi ?_ | fail))
 refine Qby (fun m st => ∃ k : Nat, k <= l.length /\ m = l.length - k /\ st = ⟨22, [(3, .osl 0 0 0 l.length), (4, .d (dI k)), (0, .d (dInts l))], [.arr 0 1 3 ((l.take k ++ List.replicate (l.length - k) 0).map (fun n => [dI n]))]⟩) [3, 4, 0] 1 l.length ⟨0, by omega, rfl, by simp [keepE, go_sem]⟩ (round := ?_);rintro m st ⟨k, hk, rfl, rfl⟩
 (repeat (first | refine e1 (k := ?_) | refine Qbd ?_ | refine Qbf ?_ | refine Qbc ?_ | fail))
 cases q3 : decide ((k : Int) < (l.length : Int))
 ·have : k = l.length := by simp at q3; omega
  subst this
  (repeat' (first | refine e1 (k := ?_) | refine Qbd ?_ | refine Qbf ?_ | refine Qbc ?_ | refine Qbm (hf := ?_) | refine Qbq ?_ | fail))
  (refine Qbg 0 (h := ?_); refine Qbn (hx := ?_))
  simp [List.take_of_length_le]
 have hk2 : k < l.length := by simp at q3; omega
 obtain ⟨x, hx⟩ : ∃ x, l[k]? = some x := ⟨_, List.getElem?_eq_getElem hk2⟩;have hr := Qbx (f := (fun n => [dI n])) hx;have hrm : ((l.take k ++ List.replicate (l.length - k) 0).map (fun n => [dI n]))[0 + (k : Int).toNat]? = some [dI 0] := by rw [Nat.zero_add, Int.toNat_natCast, List.getElem?_map, QdE hk2]; rfl
 have hf := QdD (z := 0) hx;clear hx
 (repeat' (first | refine e1 (k := ?_) | refine stepS (Qbh Ty.h rfl Ty.h rfl rfl rfl (by omega) hr) (k := ?_) | refine stepS (Qb4 Ty.h rfl Ty.h rfl rfl rfl rfl (by omega) (by omega)) (k := ?_) | refine Qce Ty.h rfl rfl hrm rfl (kk := ?_) | refine stepS (Qbs rfl rfl (by omega)) (k := ?_) | refine Qbp ?_ | refine Qb0 ?_ | refine Qbf ?_ | refine Qbc ?_ | refine Qbl (ht := ?_) | refine Qbj ?_ | refine Qbi ?_ | fail))
 refine Qbt (l.length - (k + 1)) (by omega) ⟨k + 1, by omega, rfl, ?_⟩;rw [<- hf];simp [keepE, go_sem, List.map_set]
theorem aToStrs (l : List (List UInt8)) (h : l.length <= 1048576) : Pure Tryz.prog 57 [dStrs l] (tStrs l) := by
 have hb : 16 * l.length <= 281474976710656 := by omega
 have hm : l.length <= 140737488355328 := by omega
 (refine Qbk Tryz.func57 rfl Tryz.ntmps57 Tryz.results57 rfl ?_; simp only [parE, Nat.zero_add, Nat.reduceAdd])
 (repeat' (first | refine e1 (k := ?_) | refine stepS2 (Qcw Ty.h rfl Ty.h rfl rfl rfl hb hm) (k := ?_) | refine Qbd ?_ | refine Qbf ?_ | refine Qbc ?_ | refine Qbi ?_ | fail))
 refine Qby (fun m st => ∃ k : Nat, k <= l.length /\ m = l.length - k /\ st = ⟨22, [(3, .osl 0 0 0 l.length), (4, .d (dI k)), (0, .d (dStrs l))], [.arr 0 1 9 ((l.take k ++ List.replicate (l.length - k) []).map (fun s => [dS s]))]⟩) [3, 4, 0] 1 l.length ⟨0, by omega, rfl, by simp [keepE, go_sem]⟩ (round := ?_);rintro m st ⟨k, hk, rfl, rfl⟩
 (repeat (first | refine e1 (k := ?_) | refine Qbd ?_ | refine Qbf ?_ | refine Qbc ?_ | fail))
 cases q3 : decide ((k : Int) < (l.length : Int))
 ·have : k = l.length := by simp at q3; omega
  subst this
  (repeat' (first | refine e1 (k := ?_) | refine Qbd ?_ | refine Qbf ?_ | refine Qbc ?_ | refine Qbm (hf := ?_) | refine Qbq ?_ | fail))
  (refine Qbg 0 (h := ?_); refine Qbn (hx := ?_))
  simp [List.take_of_length_le]
 have hk2 : k < l.length := by simp at q3; omega
 obtain ⟨x, hx⟩ : ∃ x, l[k]? = some x := ⟨_, List.getElem?_eq_getElem hk2⟩;have hr := Qbx (f := (fun s => [dS s])) hx;have hrm : ((l.take k ++ List.replicate (l.length - k) []).map (fun s => [dS s]))[0 + (k : Int).toNat]? = some [dS []] := by rw [Nat.zero_add, Int.toNat_natCast, List.getElem?_map, QdE hk2]; rfl
 have hf := QdD (z := []) hx;clear hx
 (repeat' (first | refine e1 (k := ?_) | refine stepS (Qbh Ty.h rfl Ty.h rfl rfl rfl (by omega) hr) (k := ?_) | refine stepS (Qb4 Ty.h rfl Ty.h rfl rfl rfl rfl (by omega) (by omega)) (k := ?_) | refine Qce Ty.h rfl rfl hrm rfl (kk := ?_) | refine stepS (Qbs rfl rfl (by omega)) (k := ?_) | refine Qbp ?_ | refine Qb0 ?_ | refine Qbf ?_ | refine Qbc ?_ | refine Qbl (ht := ?_) | refine Qbj ?_ | refine Qbi ?_ | fail))
 refine Qbt (l.length - (k + 1)) (by omega) ⟨k + 1, by omega, rfl, ?_⟩;rw [<- hf];simp [keepE, go_sem, List.map_set]
theorem aToPtr (p : Pl.Ptr) : Pure Tryz.prog 60 [dPtr p] (dPtr p) := by
 (refine Qb2 Tryz.func60 rfl Tryz.ntmps60 Tryz.results60 rfl ?_; simp only [parE, Nat.zero_add, Nat.reduceAdd])
 (refine Qbf (Qbc ?_); (repeat (first | refine e2 (k := ?_) | fail)); refine Qbd ?_)
 refine Qbg 0 (h := ?_)
 (repeat' (first | refine e1 (k := ?_) | refine Qbu (kk := ?_) | refine Qbd ?_ | refine Qbf ?_ | refine Qbc ?_ | refine e2 (k := ?_) | fail))
 (refine Qbg 1 (h := ?_); refine QbA (hx := ?_))
 rfl
theorem aToPtrs (l : List Pl.Ptr) (h : l.length <= 1048576) : Pure Tryz.prog 59 [dPtrs l] (tPtrs l) := by
 have hb : 40 * l.length <= 281474976710656 := by omega
 have hm : l.length <= 140737488355328 := by omega
 (refine Qbk Tryz.func59 rfl Tryz.ntmps59 Tryz.results59 rfl ?_; simp only [parE, Nat.zero_add, Nat.reduceAdd])
 (repeat' (first | refine e1 (k := ?_) | refine stepS2 (Qcw Ty.h rfl Ty.h rfl rfl rfl hb hm) (k := ?_) | refine Qbd ?_ | refine Qbf ?_ | refine Qbc ?_ | refine Qbi ?_ | fail))
 refine Qby (fun m st => ∃ k : Nat, k <= l.length /\ m = l.length - k /\ st = ⟨23, [(3, .osl 0 0 0 l.length), (4, .d (dI k)), (0, .d (dPtrs l))], [.arr 0 5 54 ((l.take k ++ List.replicate (l.length - k) Pl.hole).map rPtr)]⟩) [3, 4, 0] 1 l.length ⟨0, by omega, rfl, by simp [keepE, go_sem, Pl.hole]⟩ (round := ?_);rintro m st ⟨k, hk, rfl, rfl⟩
 (repeat (first | refine e1 (k := ?_) | refine Qbd ?_ | refine Qbf ?_ | refine Qbc ?_ | fail))
 cases q3 : decide ((k : Int) < (l.length : Int))
 ·have : k = l.length := by simp at q3; omega
  subst this
  (repeat' (first | refine e1 (k := ?_) | refine Qbd ?_ | refine Qbf ?_ | refine Qbc ?_ | refine Qbm (hf := ?_) | refine Qbq ?_ | fail))
  (refine Qbg 0 (h := ?_); refine Qbn (hx := ?_))
  simp [List.take_of_length_le]
 have hk2 : k < l.length := by simp at q3; omega
 obtain ⟨x, hx⟩ : ∃ x, l[k]? = some x := ⟨_, List.getElem?_eq_getElem hk2⟩;have hr := Qbx (f := rPtr) hx;have hrm : ((l.take k ++ List.replicate (l.length - k) Pl.hole).map rPtr)[0 + (k : Int).toNat]? = some (rPtr Pl.hole) := by rw [Nat.zero_add, Int.toNat_natCast, List.getElem?_map, QdE hk2]; rfl
 have hf := QdD (z := Pl.hole) hx;clear hx
 (repeat' (first | refine e1 (k := ?_) | refine stepS (Qbh Ty.h rfl Ty.h rfl rfl rfl (by omega) hr) (k := ?_) | refine stepS (Qb4 Ty.h rfl Ty.h rfl rfl rfl rfl (by omega) (by omega)) (k := ?_) | refine stepS (Qbe Tryz.call60 (aToPtr x) rfl) (k := ?_) | refine Qgd Ty.h rfl rfl hrm rfl rfl rfl rfl (kk := ?_) | refine stepS (Qbs rfl rfl (by omega)) (k := ?_) | refine Qbp ?_ | refine Qb0 ?_ | refine Qbf ?_ | refine Qbc ?_ | refine Qbl (ht := ?_) | refine Qbj ?_ | refine Qbi ?_ | fail))
 refine Qbt (l.length - (k + 1)) (by omega) ⟨k + 1, by omega, rfl, ?_⟩;rw [<- hf];simp [keepE, go_sem, List.map_set]
theorem aToTree (t : Pl.Tree) : Pure Tryz.prog 19 [dTree t] (dTree t) := by
 have c := aToPtr t.root
 (refine Qb2 Tryz.func19 rfl Tryz.ntmps19 Tryz.results19 rfl ?_; simp only [parE, Nat.zero_add, Nat.reduceAdd])
 (refine Qbf (Qbc ?_); (repeat (first | refine e2 (k := ?_) | fail)); refine Qbd ?_)
 refine Qbg 0 (h := ?_)
 (repeat' (first | refine e1 (k := ?_) | refine stepS (Qbe Tryz.call60 c rfl) (k := ?_) | refine Qbu (kk := ?_) | refine Qbd ?_ | refine Qbf ?_ | refine Qbc ?_ | refine e2 (k := ?_) | fail))
 (refine Qbg 1 (h := ?_); refine QbA (hx := ?_))
 rfl
theorem Qn2 (s : Pm.Space) (h1 : s.1.length <= 1048576) (h2 : s.2.length <= 1048576) : Pure Tryz.prog 58 [dSpace s] (.agg [tInts s.1, tInts s.2]) := by
 have c1 := aToInts s.1 h1;have c2 := aToInts s.2 h2
 (refine Qb2 Tryz.func58 rfl Tryz.ntmps58 Tryz.results58 rfl ?_; simp only [parE, Nat.zero_add, Nat.reduceAdd])
 (refine Qbf (Qbc ?_); (repeat (first | refine e2 (k := ?_) | fail)); refine Qbd ?_)
 refine Qbg 0 (h := ?_)
 (repeat' (first | refine e1 (k := ?_) | refine stepS (Qbe Tryz.call118 c1 rfl) (k := ?_) | refine stepS (Qbe Tryz.call118 c2 rfl) (k := ?_) | refine Qbu (kk := ?_) | refine Qbd ?_ | refine Qbf ?_ | refine Qbc ?_ | refine e2 (k := ?_) | fail))
 (refine Qbg 1 (h := ?_); refine QbA (hx := ?_))
 rfl
abbrev tSt (s : Pm.Store) : D := .agg [tStrs s.1, tInts s.2.1.1, tInts s.2.1.2, dI s.2.2.1, tPtrs s.2.2.2.1, dI s.2.2.2.2.1, tPtrs s.2.2.2.2.2.1, dB s.2.2.2.2.2.2]
theorem Qmp (s : Pm.Store) (h1 : s.1.length <= 1048576) (h2 : s.2.1.1.length <= 1048576) (h3 : s.2.1.2.length <= 1048576) (h4 : s.2.2.2.1.length <= 1048576) (h5 : s.2.2.2.2.2.1.length <= 1048576) : Pure Tryz.prog 18 [dSt s] (tSt s) := by
 have c1 := aToStrs s.1 h1;have c2 := Qn2 s.2.1 h2 h3;have c3 := aToPtrs s.2.2.2.1 h4;have c4 := aToPtrs s.2.2.2.2.2.1 h5
 (refine Qb2 Tryz.func18 rfl Tryz.ntmps18 Tryz.results18 rfl ?_; simp only [parE, Nat.zero_add, Nat.reduceAdd])
 (refine Qbf (Qbc ?_); (repeat (first | refine e2 (k := ?_) | fail)); refine Qbd ?_)
 refine Qbg 0 (h := ?_)
 (repeat' (first | refine e1 (k := ?_) | refine stepS (Qbe Tryz.call57 c1 rfl) (k := ?_) | refine stepS (Qbe Tryz.call58 c2 rfl) (k := ?_) | refine stepS (Qbe Tryz.call59 c3 rfl) (k := ?_) | refine stepS (Qbe Tryz.call59 c4 rfl) (k := ?_) | refine Qbu (kk := ?_) | refine Qbd ?_ | refine Qbf ?_ | refine Qbc ?_ | refine e2 (k := ?_) | fail))
 (refine Qbg 1 (h := ?_); refine QbA (hx := ?_))
 rfl
theorem aEqInts (l m : List Int) (hl : l.length <= 140737488355328) : Pure Tryz.prog 121 [dInts l, dInts m] (dB (decide (l = m))) := by
 (refine Qbk Tryz.func121 rfl Tryz.ntmps121 Tryz.results121 rfl ?_; simp only [parE, Nat.zero_add, Nat.reduceAdd])
 by_cases hlm : l.length = m.length
 rotate_left
 ·have hd : decide (l = m) = false := decide_eq_false fun e => hlm (by rw [e])
  rw [hd]
  (repeat' (first | refine e1 (k := ?_) | refine Qbd ?_ | refine Qbf ?_ | refine Qbc ?_ | refine Qbo (ht := fun q => ?_) (hf := fun q => ?_) | refine Qbj ?_ | refine Qbi ?_ | fail))
  all_goals first
   |exact Qbn (hx := rfl)
   |(exfalso; simp at *; omega)
 (repeat' (first | refine e1 (k := ?_) | refine Qbd ?_ | refine Qbf ?_ | refine Qbc ?_ | refine Qbo (ht := fun q => ?_) (hf := fun q => ?_) | refine Qbj ?_ | refine Qbi ?_ | fail))
 ·exfalso; simp at q; omega
 refine Qby (fun i st => ∃ k : Nat, k <= l.length /\ i = l.length - k /\ l.take k = m.take k /\ st = ⟨26, [(5, .d (dI k)), (0, .d (dInts l)), (1, .d (dInts m))], []⟩) [5, 0, 1] 0 l.length ⟨0, by omega, rfl, rfl, by simp [keepE, go_sem]⟩ (round := ?_);rintro i st ⟨k, hk, rfl, he, rfl⟩
 (repeat (first | refine e1 (k := ?_) | refine Qbd ?_ | refine Qbf ?_ | refine Qbc ?_ | fail))
 cases q3 : decide ((k : Int) < (l.length : Int))
 ·have : k = l.length := by simp at q3; omega
  rw [this, List.take_length, hlm, List.take_length] at he;rw [decide_eq_true he]
  (repeat' (first | refine e1 (k := ?_) | refine Qbd ?_ | refine Qbf ?_ | refine Qbc ?_ | refine Qbm (hf := ?_) | refine Qbq ?_ | fail))
  exact Qbn (hx := rfl)
 have hk2 : k < l.length := by simp at q3; omega
 obtain ⟨x, hx⟩ : ∃ x, l[k]? = some x := ⟨_, List.getElem?_eq_getElem hk2⟩;obtain ⟨y, hy⟩ : ∃ y, m[k]? = some y := ⟨_, List.getElem?_eq_getElem (by omega)⟩;have hr := Qbx (f := (fun n => [dI n])) hx;have hr2 := Qbx (f := (fun n => [dI n])) hy;have hn : x = y -> l.take (k + 1) = m.take (k + 1) := fun e => by rw [List.take_add_one, List.take_add_one, hx, hy, he, e]
 have hd : x ≠ y -> decide (l = m) = false := fun e => decide_eq_false fun e2 => e (by rw [e2, hy] at hx; exact (Option.some.inj hx).symm)
 clear hx hy
 by_cases hxy : x = y
 ·have hN := Pm.hid (hn hxy)
  clear hn;subst hxy;clear hd
  (repeat' (first | refine f1 (k := ?_) | refine e1 (k := ?_) | refine stepD (Qbh Ty.h rfl Ty.h rfl rfl rfl (by omega) hr) (k := ?_) | refine stepD (Qbh Ty.h rfl Ty.h rfl rfl rfl (by omega) hr2) (k := ?_) | refine stepS (Qbs rfl rfl (by omega)) (k := ?_) | refine Qbd ?_ | refine Qbp ?_ | refine Qbr ?_ | refine Qbf ?_ | refine Qbc ?_ | refine Qb1 follows_mixed (by kernel_rfl) (by kernel_rfl) ?_ | refine Qbl (ht := ?_) | refine Qbo (ht := fun q => ?_) (hf := fun q => ?_) | refine Qbj ?_ | refine Qbi ?_ | fail))
  all_goals first
   |(exfalso; simp at *; done)
   |(refine Qbt (l.length - (k + 1)) (by omega) ⟨k + 1, by omega, rfl, hN.out, ?_⟩
     simp [keepE, go_sem]; done)
 ·have hd := Pm.hid (hd hxy)
  
  rw [hd.out]
  (repeat' (first | refine f1 (k := ?_) | refine e1 (k := ?_) | refine stepD (Qbh Ty.h rfl Ty.h rfl rfl rfl (by omega) hr) (k := ?_) | refine stepD (Qbh Ty.h rfl Ty.h rfl rfl rfl (by omega) hr2) (k := ?_) | refine stepS (Qbs rfl rfl (by omega)) (k := ?_) | refine Qbd ?_ | refine Qbp ?_ | refine Qbr ?_ | refine Qbf ?_ | refine Qbc ?_ | refine Qb1 follows_mixed (by kernel_rfl) (by kernel_rfl) ?_ | refine Qbl (ht := ?_) | refine Qbo (ht := fun q => ?_) (hf := fun q => ?_) | refine Qbj ?_ | refine Qbi ?_ | fail))
  all_goals first
   |exact Qbn (hx := rfl)
   |(exfalso; simp at *; exact hxy (by assumption))
theorem aEqStrs (l m : List (List UInt8)) (hl : l.length <= 140737488355328) : Pure Tryz.prog 26 [dStrs l, dStrs m] (dB (decide (l = m))) := by
 (refine Qbk Tryz.func26 rfl Tryz.ntmps26 Tryz.results26 rfl ?_; simp only [parE, Nat.zero_add, Nat.reduceAdd])
 by_cases hlm : l.length = m.length
 rotate_left
 ·have hd : decide (l = m) = false := decide_eq_false fun e => hlm (by rw [e])
  rw [hd]
  (repeat' (first | refine e1 (k := ?_) | refine Qbd ?_ | refine Qbf ?_ | refine Qbc ?_ | refine Qbo (ht := fun q => ?_) (hf := fun q => ?_) | refine Qbj ?_ | refine Qbi ?_ | fail))
  all_goals first
   |exact Qbn (hx := rfl)
   |(exfalso; simp at *; omega)
 (repeat' (first | refine e1 (k := ?_) | refine Qbd ?_ | refine Qbf ?_ | refine Qbc ?_ | refine Qbo (ht := fun q => ?_) (hf := fun q => ?_) | refine Qbj ?_ | refine Qbi ?_ | fail))
 ·exfalso; simp at q; omega
 refine Qby (fun i st => ∃ k : Nat, k <= l.length /\ i = l.length - k /\ l.take k = m.take k /\ st = ⟨26, [(5, .d (dI k)), (0, .d (dStrs l)), (1, .d (dStrs m))], []⟩) [5, 0, 1] 0 l.length ⟨0, by omega, rfl, rfl, by simp [keepE, go_sem]⟩ (round := ?_);rintro i st ⟨k, hk, rfl, he, rfl⟩
 (repeat (first | refine e1 (k := ?_) | refine Qbd ?_ | refine Qbf ?_ | refine Qbc ?_ | fail))
 cases q3 : decide ((k : Int) < (l.length : Int))
 ·have : k = l.length := by simp at q3; omega
  rw [this, List.take_length, hlm, List.take_length] at he;rw [decide_eq_true he]
  (repeat' (first | refine e1 (k := ?_) | refine Qbd ?_ | refine Qbf ?_ | refine Qbc ?_ | refine Qbm (hf := ?_) | refine Qbq ?_ | fail))
  exact Qbn (hx := rfl)
 have hk2 : k < l.length := by simp at q3; omega
 obtain ⟨x, hx⟩ : ∃ x, l[k]? = some x := ⟨_, List.getElem?_eq_getElem hk2⟩;obtain ⟨y, hy⟩ : ∃ y, m[k]? = some y := ⟨_, List.getElem?_eq_getElem (by omega)⟩;have hr := Qbx (f := (fun s => [dS s])) hx;have hr2 := Qbx (f := (fun s => [dS s])) hy;have hn : x = y -> l.take (k + 1) = m.take (k + 1) := fun e => by rw [List.take_add_one, List.take_add_one, hx, hy, he, e]
 have hd : x ≠ y -> decide (l = m) = false := fun e => decide_eq_false fun e2 => e (by rw [e2, hy] at hx; exact (Option.some.inj hx).symm)
 clear hx hy
 by_cases hxy : x = y
 ·have hN := Pm.hid (hn hxy)
  clear hn;subst hxy;clear hd
  (repeat' (first | refine f1 (k := ?_) | refine e1 (k := ?_) | refine stepD (Qbh Ty.h rfl Ty.h rfl rfl rfl (by omega) hr) (k := ?_) | refine stepD (Qbh Ty.h rfl Ty.h rfl rfl rfl (by omega) hr2) (k := ?_) | refine stepS (Qbs rfl rfl (by omega)) (k := ?_) | refine stepD (QbH rfl rfl) (k := ?_) | refine Qbd ?_ | refine Qbp ?_ | refine Qbr ?_ | refine Qbf ?_ | refine Qbc ?_ | refine Qb1 follows_mixed (by kernel_rfl) (by kernel_rfl) ?_ | refine Qbl (ht := ?_) | refine Qbo (ht := fun q => ?_) (hf := fun q => ?_) | refine Qbj ?_ | refine Qbi ?_ | fail))
  all_goals first
   |(exfalso; simp at *; done)
   |(refine Qbt (l.length - (k + 1)) (by omega) ⟨k + 1, by omega, rfl, hN.out, ?_⟩
     simp [keepE, go_sem]; done)
 ·have hd := Pm.hid (hd hxy)
  
  rw [hd.out]
  (repeat' (first | refine f1 (k := ?_) | refine e1 (k := ?_) | refine stepD (Qbh Ty.h rfl Ty.h rfl rfl rfl (by omega) hr) (k := ?_) | refine stepD (Qbh Ty.h rfl Ty.h rfl rfl rfl (by omega) hr2) (k := ?_) | refine stepS (Qbs rfl rfl (by omega)) (k := ?_) | refine stepD (QbH rfl rfl) (k := ?_) | refine Qbd ?_ | refine Qbp ?_ | refine Qbr ?_ | refine Qbf ?_ | refine Qbc ?_ | refine Qb1 follows_mixed (by kernel_rfl) (by kernel_rfl) ?_ | refine Qbl (ht := ?_) | refine Qbo (ht := fun q => ?_) (hf := fun q => ?_) | refine Qbj ?_ | refine Qbi ?_ | fail))
  all_goals first
   |exact Qbn (hx := rfl)
   |(exfalso; simp at *; exact hxy (by assumption))
theorem aEqPtr (x y : Pl.Ptr) : Pure Tryz.prog 122 [dPtr x, dPtr y] (dB (decide (x = y))) := by
 obtain ⟨a1, a2, a3, a4, a5⟩ := x;obtain ⟨b1, b2, b3, b4, b5⟩ := y
 have hd : Hid (decide ((⟨a1, a2, a3, a4, a5⟩ : Pl.Ptr) = ⟨b1, b2, b3, b4, b5⟩) = (decide (a1 = b1) && decide (a2 = b2) && decide (a3 = b3) && decide (a4 = b4) && decide (a5 = b5))) := Pm.hid (by
  rw [Bool.eq_iff_iff]; simp [and_assoc])
 (refine Qbk Tryz.func122 rfl Tryz.ntmps122 Tryz.results122 rfl ?_; simp only [parE, Nat.zero_add, Nat.reduceAdd])
 (refine Qbf (Qbc ?_); (repeat (first | refine e1 (k := ?_) | refine e2 (k := ?_) | fail)); refine Qbd ?_)
 refine Qbg 0 (h := ?_);refine Qbg 1 (h := ?_)
 (repeat' (first | refine e1 (k := ?_) | refine Qbd ?_ | refine Qbf ?_ | refine Qbc ?_ | refine Qbo (ht := fun q => ?_) (hf := fun q => ?_) | refine Qbj ?_ | fail))
 all_goals
  refine Qbn (hx := ?_);rw [hd.out]
  simp_all
theorem aEqPtrs (l m : List Pl.Ptr) (hl : l.length <= 140737488355328) : Pure Tryz.prog 64 [dPtrs l, dPtrs m] (dB (decide (l = m))) := by
 (refine Qbk Tryz.func64 rfl Tryz.ntmps64 Tryz.results64 rfl ?_; simp only [parE, Nat.zero_add, Nat.reduceAdd])
 by_cases hlm : l.length = m.length
 rotate_left
 ·have hd : decide (l = m) = false := decide_eq_false fun e => hlm (by rw [e])
  rw [hd]
  (repeat' (first | refine e1 (k := ?_) | refine Qbd ?_ | refine Qbf ?_ | refine Qbc ?_ | refine Qbo (ht := fun q => ?_) (hf := fun q => ?_) | refine Qbj ?_ | refine Qbi ?_ | fail))
  all_goals first
   |exact Qbn (hx := rfl)
   |(exfalso; simp at *; omega)
 (repeat' (first | refine e1 (k := ?_) | refine Qbd ?_ | refine Qbf ?_ | refine Qbc ?_ | refine Qbo (ht := fun q => ?_) (hf := fun q => ?_) | refine Qbj ?_ | refine Qbi ?_ | fail))
 ·exfalso; simp at q; omega
 refine Qby (fun i st => ∃ k : Nat, k <= l.length /\ i = l.length - k /\ l.take k = m.take k /\ st = ⟨27, [(5, .d (dI k)), (0, .d (dPtrs l)), (1, .d (dPtrs m))], []⟩) [5, 0, 1] 0 l.length ⟨0, by omega, rfl, rfl, by simp [keepE, go_sem]⟩ (round := ?_);rintro i st ⟨k, hk, rfl, he, rfl⟩
 (repeat (first | refine e1 (k := ?_) | refine Qbd ?_ | refine Qbf ?_ | refine Qbc ?_ | fail))
 cases q3 : decide ((k : Int) < (l.length : Int))
 ·have : k = l.length := by simp at q3; omega
  rw [this, List.take_length, hlm, List.take_length] at he;rw [decide_eq_true he]
  (repeat' (first | refine e1 (k := ?_) | refine Qbd ?_ | refine Qbf ?_ | refine Qbc ?_ | refine Qbm (hf := ?_) | refine Qbq ?_ | fail))
  exact Qbn (hx := rfl)
 have hk2 : k < l.length := by simp at q3; omega
 obtain ⟨x, hx⟩ : ∃ x, l[k]? = some x := ⟨_, List.getElem?_eq_getElem hk2⟩;obtain ⟨y, hy⟩ : ∃ y, m[k]? = some y := ⟨_, List.getElem?_eq_getElem (by omega)⟩;have hr := Qbx (f := rPtr) hx;have hr2 := Qbx (f := rPtr) hy;have hn : x = y -> l.take (k + 1) = m.take (k + 1) := fun e => by rw [List.take_add_one, List.take_add_one, hx, hy, he, e]
 have hd : x ≠ y -> decide (l = m) = false := fun e => decide_eq_false fun e2 => e (by rw [e2, hy] at hx; exact (Option.some.inj hx).symm)
 clear hx hy
 by_cases hxy : x = y
 ·have hN := Pm.hid (hn hxy)
  clear hn;subst hxy;have c := aEqPtr x x; rw [decide_eq_true rfl] at c
  (repeat' (first | refine f1 (k := ?_) | refine e1 (k := ?_) | refine stepD (Qbh Ty.h rfl Ty.h rfl rfl rfl (by omega) hr) (k := ?_) | refine stepD (Qbh Ty.h rfl Ty.h rfl rfl rfl (by omega) hr2) (k := ?_) | refine stepD (Qbe Tryz.call122 c rfl) (k := ?_) | refine stepS (Qbs rfl rfl (by omega)) (k := ?_) | refine Qbp ?_ | refine Qbr ?_ | refine Qbf ?_ | refine Qbc ?_ | refine Qb1 follows_mixed (by kernel_rfl) (by kernel_rfl) ?_ | refine Qbl (ht := ?_) | refine Qbm (hf := ?_) | refine Qbj ?_ | refine Qbi ?_ | fail))
  all_goals first
   |(exfalso; simp at *; done)
   |(refine Qbt (l.length - (k + 1)) (by omega) ⟨k + 1, by omega, rfl, hN.out, ?_⟩
     simp [keepE, go_sem]; done)
 ·have hd := Pm.hid (hd hxy)
  have c := aEqPtr x y; rw [decide_eq_false hxy] at c;rw [hd.out]
  (repeat' (first | refine f1 (k := ?_) | refine e1 (k := ?_) | refine stepD (Qbh Ty.h rfl Ty.h rfl rfl rfl (by omega) hr) (k := ?_) | refine stepD (Qbh Ty.h rfl Ty.h rfl rfl rfl (by omega) hr2) (k := ?_) | refine stepD (Qbe Tryz.call122 c rfl) (k := ?_) | refine Qbd ?_ | refine Qbr ?_ | refine Qbf ?_ | refine Qbc ?_ | refine Qb1 follows_mixed (by kernel_rfl) (by kernel_rfl) ?_ | refine Qbl (ht := ?_) | refine Qbj ?_ | refine Qbi ?_ | fail))
  all_goals first
   |exact Qbn (hx := rfl)
   |(exfalso; simp at *; exact hxy (by assumption))
theorem QnB (x y : Pm.Space) (h1 : x.1.length <= 140737488355328) (h2 : x.2.length <= 140737488355328) : Pure Tryz.prog 63 [dSpace x, dSpace y] (dB (decide (x = y))) := by
 obtain ⟨a1, a2⟩ := x;obtain ⟨b1, b2⟩ := y;have hd : Hid (decide (((a1, a2) : Pm.Space) = (b1, b2)) = (decide (a1 = b1) && decide (a2 = b2))) := Pm.hid (by rw [Bool.eq_iff_iff]; simp);have c1 := aEqInts a1 b1 h1;have c2 := aEqInts a2 b2 h2;generalize decide (a1 = b1) = u1 at *
 generalize decide (a2 = b2) = u2 at *
 (refine Qbk Tryz.func63 rfl Tryz.ntmps63 Tryz.results63 rfl ?_; simp only [parE, Nat.zero_add, Nat.reduceAdd])
 (refine Qbf (Qbc ?_); (repeat (first | refine e1 (k := ?_) | refine e2 (k := ?_) | fail)); refine Qbd ?_)
 refine Qbg 0 (h := ?_);refine Qbg 1 (h := ?_)
 (repeat' (first | refine e1 (k := ?_) | refine stepS (Qbe Tryz.call121 c1 rfl) (k := ?_) | refine stepS (Qbe Tryz.call121 c2 rfl) (k := ?_) | refine Qbd ?_ | refine Qbf ?_ | refine Qbc ?_ | refine Qbo (ht := fun q => ?_) (hf := fun q => ?_) | refine Qbj ?_ | fail))
 all_goals
  refine Qbn (hx := ?_);rw [hd.out]
  simp_all
theorem Qms (x y : Pm.Store) (h1 : x.1.length <= 140737488355328) (h2 : x.2.1.1.length <= 140737488355328) (h3 : x.2.1.2.length <= 140737488355328) (h4 : x.2.2.2.1.length <= 140737488355328) (h5 : x.2.2.2.2.2.1.length <= 140737488355328) : Pure Tryz.prog 21 [dSt x, dSt y] (dB (decide (x = y))) := by
 obtain ⟨a1, a2, a3, a4, a5, a6, a7⟩ := x;obtain ⟨b1, b2, b3, b4, b5, b6, b7⟩ := y
 have hd : Hid (decide (((a1, a2, a3, a4, a5, a6, a7) : Pm.Store) = (b1, b2, b3, b4, b5, b6, b7)) = (decide (a1 = b1) && decide (a2 = b2) && decide (a3 = b3) && decide (a4 = b4) && decide (a5 = b5) && decide (a6 = b6) && decide (a7 = b7))) := Pm.hid (by
  rw [Bool.eq_iff_iff]; simp [and_assoc])
 have c1 := aEqStrs a1 b1 h1;have c2 := QnB a2 b2 h2 h3;have c3 := aEqPtrs a4 b4 h4;have c4 := aEqPtrs a6 b6 h5;generalize decide (a1 = b1) = u1 at *
 generalize decide (a2 = b2) = u2 at *
 generalize decide (a4 = b4) = u4 at *
 generalize decide (a6 = b6) = u6 at *
 (refine Qbk Tryz.func21 rfl Tryz.ntmps21 Tryz.results21 rfl ?_; simp only [parE, Nat.zero_add, Nat.reduceAdd])
 (refine Qbf (Qbc ?_); (repeat (first | refine e1 (k := ?_) | refine e2 (k := ?_) | fail)); refine Qbd ?_)
 refine Qbg 0 (h := ?_);refine Qbg 1 (h := ?_)
 (repeat' (first | refine e1 (k := ?_) | refine stepS (Qbe Tryz.call26 c1 rfl) (k := ?_) | refine stepS (Qbe Tryz.call63 c2 rfl) (k := ?_) | refine stepS (Qbe Tryz.call64 c3 rfl) (k := ?_) | refine stepS (Qbe Tryz.call64 c4 rfl) (k := ?_) | refine stepS (Qcq TyBool.h rfl rfl) (k := ?_) | refine Qbd ?_ | refine Qbf ?_ | refine Qbc ?_ | refine Qbo (ht := fun q => ?_) (hf := fun q => ?_) | refine Qbj ?_ | fail))
 all_goals
  refine Qbn (hx := ?_);rw [hd.out]
  simp_all
theorem less3 {u : Int} (h : -1 <= u) (a b : Nat) : Pm.less (Pm.less u a) b = Pm.less u (a + b) /\ (Pm.less u a < 0 -> Pm.less u (a + b) = -1) /\ -1 <= Pm.less u a /\ Pm.less u a <= u := by
 have hab : ((a + b : Nat) : Int) = a + b := by omega
 unfold Pm.less;rw [hab]
 by_cases h1 : u < a
 ·rw [if_pos h1, if_pos (show (-1 : Int) < b by omega), if_pos (by omega)]; omega
 ·rw [if_neg h1]
  by_cases h2 : u - a < b
  ·rw [if_pos h2, if_pos (by omega)]; omega
  ·rw [if_neg h2, if_neg (by omega)]; omega
theorem Qlw {u : Int} (h : -1 <= u) (a : Nat) : Pm.less u a < 0 -> Pm.less u a = -1 := fun h2 => by have := less3 h a 0; omega
theorem aSzInts (l : List Int) (hl : l.length <= 140737488355328) (u : Int) (h0 : -1 <= u) (h1 : u <= 1048576) : Pure Tryz.prog 111 [dInts l, dI u] (dI (Pm.less u l.length)) := by
 (refine Qbk Tryz.func111 rfl Tryz.ntmps111 Tryz.results111 rfl ?_; simp only [parE, Nat.zero_add, Nat.reduceAdd])
 (repeat' (first | refine e1 (k := ?_) | refine stepS (QbB rfl rfl (by omega)) (k := ?_) | refine Qbd ?_ | refine Qbf ?_ | refine Qbc ?_ | refine Qbo (ht := fun q => ?_) (hf := fun q => ?_) | refine Qbj ?_ | fail))
 all_goals
  refine Qbn (hx := ?_);simp only [decide_eq_true_eq, decide_eq_false_iff_not] at q;unfold Pm.less
 ·rw [if_pos (by omega)]
 ·rw [if_neg (by omega)]
theorem aSzPtrs (l : List Pl.Ptr) (hl : l.length <= 140737488355328) (u : Int) (h0 : -1 <= u) (h1 : u <= 1048576) : Pure Tryz.prog 53 [dPtrs l, dI u] (dI (Pm.less u l.length)) := by
 (refine Qbk Tryz.func53 rfl Tryz.ntmps53 Tryz.results53 rfl ?_; simp only [parE, Nat.zero_add, Nat.reduceAdd])
 (repeat' (first | refine e1 (k := ?_) | refine stepS (QbB rfl rfl (by omega)) (k := ?_) | refine Qbd ?_ | refine Qbf ?_ | refine Qbc ?_ | refine Qbo (ht := fun q => ?_) (hf := fun q => ?_) | refine Qbj ?_ | fail))
 all_goals
  refine Qbn (hx := ?_);simp only [decide_eq_true_eq, decide_eq_false_iff_not] at q;unfold Pm.less
 ·rw [if_pos (by omega)]
 ·rw [if_neg (by omega)]
theorem aSzStrs (l : List (List UInt8)) (hl : l.length <= 140737488355328) (hx : ∀ x ∈ l, x.length <= 140737488355328) (u : Int) (h0 : -1 <= u) (h1 : u <= 1048576) : Pure Tryz.prog 51 [dStrs l, dI u] (dI (Pm.less u (Pm.wtL Pm.wtS l))) := by
 have hw : Pm.wtL Pm.wtS l = l.length + (l.map Pm.wtS).sum := rfl
 have hsum : ∀ k, ((l.take k).map Pm.wtS).sum <= (l.map Pm.wtS).sum := fun k => by
  conv => rhs; rw [<- List.take_append_drop k l, List.map_append, List.sum_append]
  omega
 have hbad : ∀ k, u - l.length - ((l.take k).map Pm.wtS).sum < 0 -> Pm.less u (Pm.wtL Pm.wtS l) = -1 := fun k h => by
  have := hsum k;unfold Pm.less; rw [if_pos (by rw [hw]; omega)]
 have hgood : 0 <= u - l.length - (l.map Pm.wtS).sum -> Pm.less u (Pm.wtL Pm.wtS l) = u - l.length - (l.map Pm.wtS).sum := fun h => by
  unfold Pm.less; rw [if_neg (by rw [hw]; omega), hw]; omega
 replace hx := Pm.hid hx
 replace hbad := Pm.hid hbad
 replace hgood := Pm.hid hgood
 clear hsum hw;generalize Pm.less u (Pm.wtL Pm.wtS l) = res at *
 (refine Qbk Tryz.func51 rfl Tryz.ntmps51 Tryz.results51 rfl ?_; simp only [parE, Nat.zero_add, Nat.reduceAdd])
 cases q1 : decide (u - l.length < 0);rotate_left
 ·have := hbad.out 0 (by simp at q1 ⊢; omega)
  rw [this]
  (repeat' (first | refine e1 (k := ?_) | refine stepS (QbB rfl rfl (by omega)) (k := ?_) | refine Qbd ?_ | refine Qbf ?_ | refine Qbc ?_ | refine Qbo (ht := fun q => ?_) (hf := fun q => ?_) | refine Qbj ?_ | refine Qbi ?_ | fail))
  all_goals first
   |exact Qbn (hx := rfl)
   |(exfalso; simp at *; omega)
 simp only [decide_eq_false_iff_not] at q1
 (repeat' (first | refine e1 (k := ?_) | refine stepS (QbB rfl rfl (by omega)) (k := ?_) | refine Qbd ?_ | refine Qbf ?_ | refine Qbc ?_ | refine Qbo (ht := fun q => ?_) (hf := fun q => ?_) | refine Qbj ?_ | refine Qbi ?_ | fail))
 ·exfalso; simp only [decide_eq_true_eq] at q; omega
 refine Qby (fun i st => ∃ k : Nat, k <= l.length /\ i = l.length - k /\ 0 <= u - l.length - ((l.take k).map Pm.wtS).sum /\ st = ⟨28, [(1, .d (dI (u - l.length - ((l.take k).map Pm.wtS).sum))), (5, .d (dI k)), (0, .d (dStrs l))], []⟩) [1, 5, 0] 0 l.length ⟨0, by omega, rfl, by simp; omega, by simp [keepE, go_sem]⟩ (round := ?_);rintro i st ⟨k, hk, rfl, hnn, rfl⟩
 (repeat (first | refine e1 (k := ?_) | refine Qbd ?_ | refine Qbf ?_ | refine Qbc ?_ | fail))
 cases q3 : decide ((k : Int) < (l.length : Int))
 ·have : k = l.length := by simp at q3; omega
  rw [this, List.take_length] at hnn ⊢;rw [hgood.out hnn]
  (repeat' (first | refine e1 (k := ?_) | refine Qbd ?_ | refine Qbf ?_ | refine Qbc ?_ | refine Qbm (hf := ?_) | refine Qbq ?_ | fail))
  exact Qbn (hx := rfl)
 have hk2 : k < l.length := by simp at q3; omega
 obtain ⟨x, hxk⟩ : ∃ x, l[k]? = some x := ⟨_, List.getElem?_eq_getElem hk2⟩;have hr := Qbx (f := fun s => [dS s]) hxk;have hxl := hx.out x (List.mem_of_getElem? hxk);have hs : ((l.take (k + 1)).map Pm.wtS).sum = ((l.take k).map Pm.wtS).sum + x.length := by rw [List.take_add_one, hxk]; simp [Pm.wtS]
 have hb := Pm.hid (hbad.out (k + 1));clear hxk hx hbad hgood q1;generalize ((l.take k).map Pm.wtS).sum = sk at *
 (repeat' (first | refine e1 (k := ?_) | refine stepS (Qbh Ty.h rfl Ty.h rfl rfl rfl (by omega) hr) (k := ?_) | refine stepS (Qbs rfl rfl (by omega)) (k := ?_) | refine stepS (QbB rfl rfl (by omega)) (k := ?_) | refine Qbd ?_ | refine Qbp ?_ | refine Qbf ?_ | refine Qbc ?_ | refine Qbl (ht := ?_) | refine Qbo (ht := fun q => ?_) (hf := fun q => ?_) | refine Qbj ?_ | refine Qbi ?_ | fail))
 ·simp only [decide_eq_true_eq] at q
  rw [hb.out (by rw [hs]; omega)];exact Qbn (hx := rfl)
 ·simp only [decide_eq_false_iff_not] at q
  refine Qbt (l.length - (k + 1)) (by omega) ⟨k + 1, by omega, rfl, by rw [hs]; omega, ?_⟩;rw [hs];simp [keepE, go_sem];omega
theorem Qn4 (x : Pm.Space) (h1 : x.1.length <= 140737488355328) (h2 : x.2.length <= 140737488355328) (u : Int) (h0 : -1 <= u) (h3 : u <= 1048576) : Pure Tryz.prog 52 [dSpace x, dI u] (dI (Pm.less u (Pm.wtSpace x))) := by
 have e := less3 h0 x.1.length x.2.length;have c1 := aSzInts x.1 h1 u h0 h3;have c2 := aSzInts x.2 h2 _ e.2.2.1 (by omega);rw [e.1] at c2;have f1 := Pm.hid e.2.1;have f2 := Pm.hid (Qlw h0 (x.1.length + x.2.length));show Pure _ _ _ (dI (Pm.less u (x.1.length + x.2.length)));generalize Pm.less u (x.1.length + x.2.length) = m2 at *
 generalize Pm.less u x.1.length = m1 at *
 (refine Qbk Tryz.func52 rfl Tryz.ntmps52 Tryz.results52 rfl ?_; simp only [parE, Nat.zero_add, Nat.reduceAdd])
 (refine Qbf (Qbc ?_); (repeat (first | refine e1 (k := ?_) | refine e2 (k := ?_) | fail)); refine Qbd ?_)
 refine Qbg 0 (h := ?_)
 (repeat' (first | refine e1 (k := ?_) | refine stepS (Qbe Tryz.call111 c1 rfl) (k := ?_) | refine stepS (Qbe Tryz.call111 c2 rfl) (k := ?_) | refine Qbd ?_ | refine Qbf ?_ | refine Qbc ?_ | refine Qbo (ht := fun q => ?_) (hf := fun q => ?_) | refine Qbj ?_ | fail))
 all_goals
  refine Qbn (hx := ?_);simp only [decide_eq_true_eq, decide_eq_false_iff_not] at q
  first
   |rfl
   |exact (congrArg (fun n : Int => dI n) (f1.out q)).symm
   |exact (congrArg (fun n : Int => dI n) (f2.out q)).symm
theorem Qmq (s : Pm.Store) (h1 : s.1.length <= 140737488355328) (hx : ∀ x ∈ s.1, x.length <= 140737488355328) (h2 : s.2.1.1.length <= 140737488355328) (h3 : s.2.1.2.length <= 140737488355328) (h4 : s.2.2.2.1.length <= 140737488355328) (h5 : s.2.2.2.2.2.1.length <= 140737488355328) (u : Int) (h0 : -1 <= u) (h6 : u <= 1048576) : Pure Tryz.prog 16 [dSt s, dI u] (dI (Pm.less u (Pm.wtStore s))) := by
 have c1 := aSzStrs s.1 h1 hx u h0 h6;have hw : Pm.wtStore s = Pm.wtL Pm.wtS s.1 + Pm.wtSpace s.2.1 + s.2.2.2.1.length + s.2.2.2.2.2.1.length := rfl;rw [hw];generalize Pm.wtL Pm.wtS s.1 = w1 at *
 have e1 := less3 h0 w1 (Pm.wtSpace s.2.1);have c2 := Qn4 s.2.1 h2 h3 _ e1.2.2.1 (by omega);rw [e1.1] at c2;generalize Pm.wtSpace s.2.1 = w2 at *
 have e2 := less3 h0 (w1 + w2) s.2.2.2.1.length;have c3 := aSzPtrs s.2.2.2.1 h4 _ e2.2.2.1 (by omega);rw [e2.1] at c3;have e3 := less3 h0 (w1 + w2 + s.2.2.2.1.length) s.2.2.2.2.2.1.length;have c4 := aSzPtrs s.2.2.2.2.2.1 h5 _ e3.2.2.1 (by omega);rw [e3.1] at c4;have g1 := less3 h0 w1 (w2 + s.2.2.2.1.length + s.2.2.2.2.2.1.length);have g2 := less3 h0 (w1 + w2) (s.2.2.2.1.length + s.2.2.2.2.2.1.length);rw [show w1 + (w2 + s.2.2.2.1.length + s.2.2.2.2.2.1.length) = w1 + w2 + s.2.2.2.1.length + s.2.2.2.2.2.1.length by omega] at g1;rw [show w1 + w2 + (s.2.2.2.1.length + s.2.2.2.2.2.1.length) = w1 + w2 + s.2.2.2.1.length + s.2.2.2.2.2.1.length by omega] at g2;have f1 := Pm.hid g1.2.1;have f2 := Pm.hid g2.2.1;have f3 := Pm.hid e3.2.1;have f4 := Pm.hid (Qlw h0 (w1 + w2 + s.2.2.2.1.length + s.2.2.2.2.2.1.length));clear e1 e2 e3 g1 g2 hw hx;generalize Pm.less u (w1 + w2 + s.2.2.2.1.length + s.2.2.2.2.2.1.length) = m4 at *
 generalize Pm.less u (w1 + w2 + s.2.2.2.1.length) = m3 at *
 generalize Pm.less u (w1 + w2) = m2 at *
 generalize Pm.less u w1 = m1 at *
 (refine Qbk Tryz.func16 rfl Tryz.ntmps16 Tryz.results16 rfl ?_; simp only [parE, Nat.zero_add, Nat.reduceAdd])
 (refine Qbf (Qbc ?_); (repeat (first | refine e1 (k := ?_) | refine e2 (k := ?_) | fail)); refine Qbd ?_)
 refine Qbg 0 (h := ?_)
 (repeat' (first | refine e1 (k := ?_) | refine stepS (Qbe Tryz.call51 c1 rfl) (k := ?_) | refine stepS (Qbe Tryz.call52 c2 rfl) (k := ?_) | refine stepS (Qbe Tryz.call53 c3 rfl) (k := ?_) | refine stepS (Qbe Tryz.call53 c4 rfl) (k := ?_) | refine Qbd ?_ | refine Qbf ?_ | refine Qbc ?_ | refine Qbo (ht := fun q => ?_) (hf := fun q => ?_) | refine Qbj ?_ | fail))
 all_goals
  refine Qbn (hx := ?_);simp only [decide_eq_true_eq, decide_eq_false_iff_not] at q
  first
   |rfl
   |exact (congrArg (fun n : Int => dI n) (f1.out q)).symm
   |exact (congrArg (fun n : Int => dI n) (f2.out q)).symm
   |exact (congrArg (fun n : Int => dI n) (f3.out q)).symm
   |exact (congrArg (fun n : Int => dI n) (f4.out q)).symm
end Aw
end
section
namespace Aw
theorem QhT {s : Pm.Store} (h : Pl.Qah s = true) : 0 <= s.2.2.1 := by
 unfold Pl.Qah at h;simp only [Bool.and_eq_true, Pl.inR, decide_eq_true_eq] at h;omega
end Aw
end
end Go.Proofs.YtdjkdcokjoiokaaGreatDoor

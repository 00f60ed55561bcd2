/- Part 11 of the proof of bytes_card: contracts, walks, plain laws; no condition is assumed beyond those that a statement names. -/
import Derived.Test.YtdjkdcokjoiokaaGreatDoorQ10
set_option linter.all false
namespace Go.Proofs.YtdjkdcokjoiokaaGreatDoor
open Go.RowKit
namespace Aw
def memN : List Nat -> Nat -> Bool
 |[], _ => false
 |m :: r, i => bif Nat.beq m i then true else memN r i
theorem QgB : ∀ {l : List Nat} {i : Nat}, memN l i = true ↔ i ∈ l
 |[], i => by simp [memN]
 |m :: r, i => by
  unfold memN
  cases h : Nat.beq m i with
  |true => have := Nat.eq_of_beq_eq_true h; subst this; simp
  |false =>
   have : m ≠ i := fun e => by subst e; simp at h
   simp only [cond_false, List.mem_cons]
   rw [QgB]
   exact ⟨.inr, fun h => h.resolve_left (fun e => this e.symm)⟩
def opT (o : Oper) : List Nat := o.op.operands.toList.filterMap fun | .tmp t => some t | _ => none
def quietB (ops : List Oper) (fl : List Nat) (q : Nat) : Bool := ops.zipIdx.all fun (p, j) => memN fl j || !(p.dst == some q)
def Quiet (ops : List Oper) (fl : List Nat) (q : Nat) : Prop := ∀ (j : Nat) p, ops[j]? = some p -> memN fl j = false -> p.dst ≠ some q
def ascN : List Nat -> Bool
 |[] => true
 |f :: r => r.all (Nat.blt f) && ascN r
def float1 (ops : List Oper) (fl : List Nat) (n f : Nat) : Bool :=
 match ops[f]? with
 |none => false
 |some o => match o.dst, o.guard with
  |some t, none => Nat.blt t n && !(opT o).elem t && (opT o).all (quietB ops fl) && ops.zipIdx.all fun (p, j) => bif Nat.blt j f then !(names ops p).elem t else Nat.beq j f || !(p.dst == some t)
  |_, _ => false
def floatOk (ops : List Oper) (fl : List Nat) (n : Nat) : Bool := ascN fl && fl.all (float1 ops fl n)
structure FlSt (ops : List Oper) (fl : List Nat) (n f : Nat) (o : Oper) (t : Nat) : Prop where
 op : ops[f]? = some o
 dst : o.dst = some t
 guard : o.guard = none
 lt : t < n
 own : Operand.tmp t ∉ o.op.operands
 quiet : ∀ q, Operand.tmp q ∈ o.op.operands -> Quiet ops fl q
 before : ∀ (j : Nat) p, j < f -> ops[j]? = some p -> t ∉ names ops p
 sole : ∀ (j : Nat) p, j ≠ f -> ops[j]? = some p -> p.dst ≠ some t
theorem QgA {o : Oper} {t : Nat} (h : Operand.tmp t ∈ o.op.operands) : t ∈ opT o := List.mem_filterMap.2 ⟨.tmp t, Array.mem_toList_iff.2 h, rfl⟩
theorem Qi5 {ops : List Oper} {fl : List Nat} {q : Nat} (h : quietB ops fl q = true) : Quiet ops fl q := by
 intro j p hp hm e
 unfold quietB at h
 rw [List.all_eq_true] at h
 have := h (p, j) (List.mk_mem_zipIdx_iff_getElem?.2 hp)
 simp [hm, e] at this
theorem QfD {ops : List Oper} {fl : List Nat} {n f : Nat} (h : float1 ops fl n f = true) : ∃ o t, FlSt ops fl n f o t := by
 unfold float1 at h
 split at h
 ·cases h
 rename_i o ho
 split at h
 rotate_left
 ·cases h
 rename_i t ht hg
 simp only [Bool.and_eq_true, Bool.not_eq_true', List.all_eq_true] at h
 obtain ⟨⟨⟨h1, h2⟩, h3⟩, h4⟩ := h
 have hown : t ∉ opT o := fun hm => by rw [List.elem_eq_true_of_mem hm] at h2; cases h2
 have hz : ∀ (j : Nat) p, ops[j]? = some p -> (p, j) ∈ ops.zipIdx := fun j p hp => List.mk_mem_zipIdx_iff_getElem?.2 hp
 have key : ∀ (j : Nat) p, j < f -> ops[j]? = some p -> t ∉ names ops p := fun j p hj hp hm => by
  have := h4 (p, j) (hz j p hp)
  have hb : Nat.blt j f = true := by simpa using hj
  simp only [hb, cond_true, Bool.not_eq_true'] at this
  rw [List.elem_eq_true_of_mem hm] at this; cases this
 refine ⟨o, t, ho, ht, hg, by simpa using h1, fun hm => hown (QgA hm), fun q hq => Qi5 (h3 q (QgA hq)), key, fun j p hj hp e => ?_⟩
 rcases Nat.lt_or_ge j f with hlt | hge
 ·exact key j p hlt hp (by simp [names, e])
 ·have := h4 (p, j) (hz j p hp)
  have hb : Nat.blt j f = false := by
   cases hb : Nat.blt j f
   ·rfl
   ·have : j < f := by simpa using hb
    omega
  have hq : Nat.beq j f = false := by
   cases hq : Nat.beq j f
   ·rfl
   ·exact absurd (Nat.eq_of_beq_eq_true hq) hj
  simp [hb, hq, e] at this
def barOkF (ops : List Oper) (fl : List Nat) (m : Nat) : Bool :=
 let b := befs ops []
 !memN fl m && ((List.range m).all fun j => memN fl j || (b.getD m 0).testBit j) && ((List.range ops.length).all fun i => Nat.ble i m || memN fl i || (b.getD i 0).testBit m)
theorem QfP {ops : List Oper} {fl : List Nat} {m : Nat} (h : barOkF ops fl m = true) : memN fl m = false /\ (∀ j, j < m -> memN fl j = false -> ((befs ops []).getD m 0).testBit j = true) /\
 ∀ i, i < ops.length -> m < i -> memN fl i = false -> ((befs ops []).getD i 0).testBit m = true := by
 unfold barOkF at h
 simp only [Bool.and_eq_true, List.all_eq_true, List.mem_range, Bool.not_eq_true'] at h
 obtain ⟨⟨h0, h1⟩, h2⟩ := h
 refine ⟨h0, fun j hj hm => ?_, fun i hi hm hf => ?_⟩
 ·have := h1 j hj
  rw [hm] at this; simpa using this
 ·have := h2 i hi
  rw [hf] at this
  simp only [Bool.or_false] at this
  rcases Bool.or_eq_true_iff.1 this with h2 | h2
  ·have : i <= m := by simpa using h2
   omega
  ·exact h2
def dum : Oper := ⟨none, .move (.const undef), 0, "", #[], none⟩
def segF (fl : List Nat) (e : Nat) : Nat -> List Oper -> List Oper
 |_, [] => []
 |i, o :: l => bif Nat.ble e i then [] else bif memN fl i then segF fl e (i + 1) l else o :: segF fl e (i + 1) l
def segD (fl : List Nat) (e : Nat) : Nat -> List Oper -> List Oper
 |_, [] => []
 |i, o :: l => bif Nat.ble e i then [] else (bif memN fl i then dum else o) :: segD fl e (i + 1) l
theorem Qeu (fl : List Nat) (e : Nat) : ∀ (l : List Oper) (i : Nat), (segD fl e i l).length = min (e - i) l.length
 |[], i => by simp [segD]
 |o :: l, i => by
  unfold segD
  cases h : Nat.ble e i with
  |true =>
   have : e <= i := by simpa using h
   simp; omega
  |false =>
   have : ¬ e <= i := fun h2 => by have := Nat.ble_eq_true_of_le h2; rw [h] at this; cases this
   simp only [cond_false, List.length_cons, Qeu fl e l (i + 1)]
   omega
theorem Qg5 (fl : List Nat) (e : Nat) : ∀ (l : List Oper) (i k : Nat) (o : Oper), (segD fl e i l)[k]? = some o -> (memN fl (i + k) = true /\ o = dum) ∨ (memN fl (i + k) = false /\ l[k]? = some o)
 |[], i, k, o, h => by simp [segD] at h
 |p :: l, i, k, o, h => by
  unfold segD at h
  cases hb : Nat.ble e i with
  |true => rw [hb] at h; simp at h
  |false =>
   rw [hb] at h
   simp only [cond_false] at h
   cases k with
   |zero =>
    simp only [List.getElem?_cons_zero, Option.some.injEq] at h
    cases hm : memN fl i with
    |true => rw [hm] at h; exact .inl ⟨by simpa using hm, h.symm⟩
    |false => rw [hm] at h; exact .inr ⟨by simpa using hm, by simpa using h⟩
   |succ k =>
    simp only [List.getElem?_cons_succ] at h ⊢
    have := Qg5 fl e l (i + 1) k o h
    rw [show i + 1 + k = i + (k + 1) by omega] at this
    exact this
theorem Qgx {P : Program} {opsA : Array Oper} {o : Oper} {l : List Oper} {s : St} {x : AV} {b : Option Blk} {st : Nat -> St} {xv : Nat -> AV} {nb : Nat -> Option Blk} (h : Step1 P opsA o s x b) (hc : Chain P opsA l st xv nb) (h0 : st 0 = s.next o x b) :
 Chain P opsA (o :: l) (fun i => match i with | 0 => s | i + 1 => st i) (fun i => match i with | 0 => x | i + 1 => xv i) (fun i => match i with | 0 => b | i + 1 => nb i) :=
 ⟨fun i o' ho => by
   match i, ho with
   |0, ho => simp at ho; subst ho; exact ⟨h, h0⟩
   |i + 1, ho => exact hc.step i o' (by simpa using ho)⟩
theorem ADraw.chainF {P : Program} {opsA : Array Oper} {K : St -> Prop} (fl : List Nat) (e : Nat) : ∀ (l : List Oper) (i : Nat) (s : St), ADraw P opsA K (segF fl e i l) s ->
 ∃ st xv nb, Chain P opsA (segD fl e i l) st xv nb /\ st 0 = s /\ K (st (segD fl e i l).length) /\ ∀ k, memN fl (i + k) = true -> nb k = none
 |[], i, s, h => ⟨fun _ => s, fun _ => .d .any, fun _ => none, ⟨fun i o ho => by simp [segD] at ho⟩, rfl, h, fun _ _ => rfl⟩
 |o :: l, i, s, h => by
  unfold segF at h
  unfold segD
  cases hb : Nat.ble e i with
  |true =>
   rw [hb] at h
   exact ⟨fun _ => s, fun _ => .d .any, fun _ => none, ⟨fun i o ho => by simp at ho⟩, rfl, h, fun _ _ => rfl⟩
  |false =>
   rw [hb] at h
   simp only [cond_false] at h ⊢
   cases hm : memN fl i with
   |true =>
    rw [hm] at h
    simp only [cond_true] at h ⊢
    obtain ⟨st, xv, nb, hc, h0, hK, hn⟩ := ADraw.chainF fl e l (i + 1) s h
    refine ⟨_, _, _, Qgx (x := aval s.env (.const undef)) (b := none) ⟨rfl, .inr ⟨rfl, Qj9⟩⟩ hc (by rw [h0]; simp [St.next, putE, dum]), rfl, hK, fun k hk => ?_⟩
    match k, hk with
    |0, _ => rfl
    |k + 1, hk => exact hn k (by rw [show i + 1 + k = i + (k + 1) by omega]; exact hk)
   |false =>
    rw [hm] at h
    simp only [cond_false] at h ⊢
    obtain ⟨x, b, hs, h⟩ := h
    obtain ⟨st, xv, nb, hc, h0, hK, hn⟩ := ADraw.chainF fl e l (i + 1) _ h
    refine ⟨_, _, _, Qgx hs hc h0, rfl, hK, fun k hk => ?_⟩
    match k, hk with
    |0, hk => simp only [Nat.add_zero] at hk; rw [hm] at hk; cases hk
    |k + 1, hk => exact hn k (by rw [show i + 1 + k = i + (k + 1) by omega]; exact hk)
theorem Loc.env {P : Program} {o : Oper} {env env' : List (Nat × AV)} {H : List Blk} {x : AV} {nb : Option Blk} (h : Loc P o env H x nb) (he : ∀ q, Operand.tmp q ∈ o.op.operands -> look env' q = look env q) : Loc P o env' H x nb := by
 intro B σ S H' a w hB hS hop
 refine h B σ S H' a w hB hS fun u hu => ?_
 have := hop u hu
 cases u with
 |tmp q => simp only [aval] at this ⊢; rw [<- he q hu]; exact this
 |_ => exact this
section
variable {P : Program} {ops : List Oper} {fl : List Nat} {n : Nat} {envF : List (Nat × AV)} {fx : List (Nat × Nat × D)} {B : Bs}
end
section
variable {P : Program} {ops : List Oper} {K : List (Nat × AV) -> Prop} {f : Nat} {r : List Nat} {env : List (Nat × AV)} {d : Tmp} {op : Op} {ty : TypeId} {pos : String} {after : Array Edge} {gd : Option (Nat × Bool)} {x : D}
end
theorem Qnr {P : Program} {o : Oper} {env : List (Nat × AV)} {H : List Blk} {sz len : Nat} {T : TypeId} {rows : List (List D)} (hlen : rows.length = len) (hsz : ∀ r ∈ rows, r.length = sz)
 (h : ∀ (σ : Sg) (S : Nat -> Prop) (H' : List Blk) (a : Act) (w : World), (∀ u ∈ o.op.operands, Rel σ S H' w (aval env u) (a.eval u)) ->
   ∃ cs, (execOp a.eval o).run P w = .ok (.value (.slice (some ⟨w.heap.size, 0, none⟩) len len)) (w.alloc (.cells cs T)) /\ cs.size = len * sz /\ len <= maxLen /\
     ∀ (i j : Nat) r d, rows[i]? = some r -> r[j]? = some d -> ∃ v, cs[i * sz + j]? = some v /\ RelD S w d v) : Loc P o env H (.d (.sl true sz rows)) none := by
 intro B σ S H' a w _ hS hop hag hk K Q k
 obtain ⟨cs, h1, hcs, hm, h2⟩ := h σ S H' a w hop
 have hb : Below w.heap.size w (w.alloc (.cells cs T)) := Pm.bnew w _
 obtain ⟨h3, h4⟩ := hS.below hb
 subst hlen
 refine QdX h1 (k _ _ _ _ h3 (.d _ _ (.sl true sz rows w.heap.size 0 rows.length (fun i j => cs.getD (i * sz + j) undef) ?_ hsz (fun _ => Nat.le_refl _) (fun i j r d hi hj => ?_) fun i j r d hi hj => ?_)) h4)
 ·exact .inr ⟨Nat.le_refl _, by rw [World.size_alloc]; omega⟩
 ·obtain ⟨v, hv, _⟩ := h2 i j r d hi hj
  simp only [World.cell?, Qc6]
  rw [Nat.zero_add, Array.getD_eq_getD_getElem?, hv]
  simpa using hv
 ·obtain ⟨v, hv, hr⟩ := h2 i j r d hi hj
  rw [Array.getD_eq_getD_getElem?, hv]
  exact hr.mono h4.s h4.same
theorem QjB {P : Program} {dst : Option Tmp} {ty : TypeId} {pos : String} {after : Array Edge} {gd : Option (Nat × Bool)} {env : List (Nat × AV)} {H : List Blk} {T e : TypeId} {F E : TyF} {n : Nat} {parts : Array (Nat × Operand)} {rows : List (List D)} (hT : tyf P T = some F) (he : F.elem = some e) (hE : tyf P e = some E)
 (hz : E.zero.length = E.size := by rfl) (hc : ∀ R : Option (List (List D)) -> Prop, R (some rows) -> R ((fillA (fun i => some (i * E.size, E.size)) env (List.replicate n (E.zero.map fun v => AV.d (.v v))).flatten parts.toList).bind (chunk E.size n)) := by
   intro R hR; simp only [go_sem, chunk, Option.bind_some, List.replicate_succ, List.replicate_zero, List.flatten_cons, List.flatten_nil, List.append_nil, List.cons_append, List.nil_append, Nat.zero_mul, Nat.reduceMul, Nat.reduceEqDiff, Nat.reduceAdd, Nat.reduceLT, Nat.reduceLeDiff, ↓reduceIte, reduceCtorEq, List.take_nil, List.drop_nil]; exact hR)
 (hm : Nat.ble (n * E.size) 16777216 = true := by rfl) (hn : Nat.ble n 16777216 = true := by rfl) : Loc P ⟨dst, .buildSlice T n parts, ty, pos, after, gd⟩ env H (.d (.sl true E.size rows)) none := by
 have h := hc (fun r => r = some rows) rfl
 obtain ⟨res, h1, h2⟩ := Option.bind_eq_some_iff.1 h
 obtain ⟨hrl, hrs, hrg⟩ := QeB h2
 exact Qnr hrl hrs (Qed hT he hE hz h1 h2 (Nat.le_of_ble_eq_true hm) (Nat.le_of_ble_eq_true hn))
end Aw
end Go.Proofs.YtdjkdcokjoiokaaGreatDoor

/- Part 5 of the proof of bytes_card: contracts, walks, plain laws; no condition is assumed beyond those that a statement names. -/
import Derived.Test.YtdjkdcokjoiokaaGreatDoorQ04
import Derived.Deep.LoopGhost
set_option linter.all false
namespace Go.Proofs.YtdjkdcokjoiokaaGreatDoor
open Go.RowKit
namespace Aw
variable {P : Program}
theorem QdX {o : Oper} {a : Act} {w w' : World} {K : Act -> World -> Prop} {Q : Exit -> Act -> World -> Prop} {y : Value}
 (h : (execOp a.eval o).run P w = .ok (.value y) w') (k : K (a.put o.dst y) w') : o.wp P a w K Q := by
 unfold Oper.wp; rw [h]; exact k
theorem QbS {o : Oper} {env : List (Nat × AV)} {H : List Blk} {x : AV}
 (h : ∀ (σ : Sg) (S : Nat -> Prop) (H' : List Blk) (a : Act) (w : World), (∀ k C, H'[k]? = some C -> BlkOk σ S H' w k C) -> (∀ u ∈ o.op.operands, Rel σ S H' w (aval env u) (a.eval u)) -> Agree H H' ->
   ∃ v, (execOp a.eval o).run P w = .ok (.value v) w /\ Rel σ S H' w x v) : Loc P o env H x none := by
 intro B σ S H' a w _ hS hop hag _ K Q k
 obtain ⟨v, h1, h2⟩ := h σ S H' a w hS.blk hop hag
 exact QdX h1 (k v w σ S hS h2 (Ev.refl _ _ _ _))
theorem QlP {o : Oper} {env : List (Nat × AV)} {H : List Blk} {cells : List AV}
 (h : ∀ (σ : Sg) (S : Nat -> Prop) (H' : List Blk) (a : Act) (w : World), (∀ u ∈ o.op.operands, Rel σ S H' w (aval env u) (a.eval u)) ->
   ∃ cs T, (execOp a.eval o).run P w = .ok (.value (.pointer (some ⟨w.heap.size, 0, none⟩))) (w.alloc (.cells cs T)) /\ ∀ (j : Nat) x, cells[j]? = some x -> ∃ v, cs[j]? = some v /\ Rel σ S H' w x v) :
 Loc P o env H (.ptr H.length 0 0) (some (.row 0 cells)) := by
 intro B σ S H' a w _ hS hop hag hk K Q k
 have hκ := hk _ rfl
 obtain ⟨cs, T, h1, h2⟩ := h σ S H' a w hop
 obtain ⟨h3, h4⟩ := hS.fillRow (T := T) hκ h2
 have hl : H.length < H'.length := (List.getElem?_eq_some_iff.1 hκ).1
 refine QdX h1 (k _ _ _ _ h3 (.ptr _ 0 0 _ rfl 0 cells (List.getElem?_set_self hl) (Nat.le_refl _) fun _ => ⟨_, QbH _ _ _, rfl⟩) h4)
theorem QlU {o : Oper} {env : List (Nat × AV)} {H : List Blk} {sz len : Nat} {T : TypeId} {rows : List (List D)} (hlen : rows.length = len) (hsz : ∀ r ∈ rows, r.length = sz)
 (h : ∀ (σ : Sg) (S : Nat -> Prop) (H' : List Blk) (a : Act) (w : World), (∀ u ∈ o.op.operands, Rel σ S H' w (aval env u) (a.eval u)) ->
   ∃ cs, (execOp a.eval o).run P w = .ok (.value (.slice (some ⟨w.heap.size, 0, none⟩) len len)) (w.alloc (.cells cs T)) /\ cs.size = len * sz /\ len <= maxLen /\
     ∀ (i j : Nat) r d, rows[i]? = some r -> r[j]? = some d -> ∃ v, cs[i * sz + j]? = some v /\ RelD S w d v) :
 Loc P o env H (.osl H.length 0 0 len) (some (.arr 0 sz T rows)) := by
 intro B σ S H' a w _ hS hop hag hk K Q k
 have hκ := hk _ rfl
 obtain ⟨cs, h1, hcs, hm, h2⟩ := h σ S H' a w hop
 obtain ⟨h3, h4⟩ := hS.fillArr (g := 0) (T := T) hκ hsz h2
 have hl : H.length < H'.length := (List.getElem?_eq_some_iff.1 hκ).1
 refine QdX h1 (k _ _ _ _ h3 (.osl _ 0 0 len _ rfl 0 sz T rows (List.getElem?_set_self hl) (Nat.le_refl _) fun _ => ⟨by omega, .inl ⟨w.heap.size, len, cs, T, QbH _ _ _, Nat.le_refl _, hm, by simp, Qc6 _ _, by simpa using hcs⟩⟩) h4)
def D.vals : List D -> Option (List Value)
 |[] => some []
 |.v x :: r => (D.vals r).map (x :: ·)
 |_ => none
def AV.conc : AV -> Option Value
 |.d (.v x) => some x
 |.d (.agg l) => (D.vals l).map fun vs => .agg vs.toArray
 |.fn f [] => some (.func f #[] #[])
 |_ => none
theorem D.vals_rel {S : Nat -> Prop} {w : World} : ∀ {l : List D} {vs cs : List Value}, D.vals l = some vs -> l.length = cs.length -> (∀ (i : Nat) d x, l[i]? = some d -> cs[i]? = some x -> RelD S w d x) -> cs = vs
 |[], vs, cs, h, hl, _ => by
  simp [D.vals] at h; subst h
  exact List.eq_nil_of_length_eq_zero (by simpa using hl.symm)
 |d :: r, vs, [], h, hl, _ => by simp at hl
 |d :: r, vs, c :: cs, h, hl, hr => by
  cases d with
  |v x =>
   simp only [D.vals] at h
   cases hv : D.vals r with
   |none => rw [hv] at h; cases h
   |some vs' =>
    rw [hv] at h; obtain rfl := Option.some.inj h
    have h0 := hr 0 _ c rfl rfl
    cases h0
    have h3 := D.vals_rel (cs := cs) hv (by simpa using hl) fun i d x hd hx => hr (i + 1) d x (by simpa using hd) (by simpa using hx)
    rw [h3]
  |_ => simp [D.vals] at h
theorem AV.conc_rel {σ : Sg} {S : Nat -> Prop} {H : List Blk} {w : World} {x : AV} {v y : Value} (h : Rel σ S H w x v) (hc : x.conc = some y) : v = y := by
 cases h with
 |d d v h =>
  cases h with
  |v x => simpa [AV.conc] using hc
  |agg l cs hl hr =>
   simp only [AV.conc] at hc
   cases hv : D.vals l with
   |none => rw [hv] at hc; cases hc
   |some vs =>
    rw [hv] at hc; obtain rfl := Option.some.inj hc
    rw [D.vals_rel hv hl hr]
  |_ => simp [AV.conc] at hc
 |fn f l cs hl hr =>
  cases l with
  |nil =>
   simp [AV.conc] at hc; subst hc
   have h3 : cs = [] := List.eq_nil_of_length_eq_zero (by simpa using hl.symm)
   rw [h3]
  |cons => simp [AV.conc] at hc
 |_ => simp [AV.conc] at hc
section
variable {dst : Option Tmp} {ty : TypeId} {pos : String} {after : Array Edge} {gd : Option (Nat × Bool)} {env : List (Nat × AV)} {H : List Blk}
theorem Qj9 {u : Operand} : Loc P ⟨dst, .move u, ty, pos, after, gd⟩ env H (aval env u) none :=
 QbS fun σ S H' a w _ hop _ => ⟨a.eval u, rfl, hop u (by simp [Op.operands])⟩
theorem Qk6 {u : Operand} : Loc P ⟨dst, .assign u, ty, pos, after, gd⟩ env H (aval env u) none :=
 QbS fun σ S H' a w _ hop _ => ⟨a.eval u, rfl, hop u (by simp [Op.operands])⟩
theorem Qnp {c x y : Operand} {b : Bool} {X Y : AV} (hc : aval env c = .d (.v (.bool b))) (hx : aval env x = X) (hy : aval env y = Y) :
 Loc P ⟨dst, .pick c x y, ty, pos, after, gd⟩ env H (bif b then X else Y) none :=
 QbS fun σ S H' a w _ hop _ => by
  have h := hop c (by simp [Op.operands])
  rw [hc] at h
  have hb : a.eval c = .bool b := AV.conc_rel h rfl
  refine ⟨if b then a.eval x else a.eval y, by simp [execOp, hb, asBool], ?_⟩
  cases b
  ·rw [<- hy]; exact hop y (by simp [Op.operands])
  ·rw [<- hx]; exact hop x (by simp [Op.operands])
theorem loc_un {op : UnOp} {T : TypeId} {x : Operand} {X z : Value} (hx : (aval env x).conc = some X)
 (h : ∀ (R : Result Value -> Prop) w, R (.ok z w) -> R ((Op.unary op X).run P w)) :
 Loc P ⟨dst, .unOp op T x, ty, pos, after, gd⟩ env H (.d (.v z)) none :=
 QbS fun σ S H' a w _ hop _ => by
  have h1 := AV.conc_rel (hop x (by simp [Op.operands])) hx
  refine ⟨z, ?_, .d _ _ (.v _)⟩
  have := h (fun r => r = .ok z w) w rfl
  simp only [execOp, h1]
  rw [Sem.run_bind, this]; rfl
theorem loc_not {T : TypeId} {x : Operand} {b : Bool} (hx : aval env x = .d (.v (.bool b))) : Loc P ⟨dst, .unOp .not T x, ty, pos, after, gd⟩ env H (.d (.v (.bool !b))) none :=
 loc_un (X := .bool b) (by rw [hx]; rfl) fun R w h => h
structure TyF where
 agg : Bool
 size : Nat
 bytes : Nat
 zero : List Value
 elem : Option TypeId
 fields : List (Nat × Nat)
 places : Option (List (Nat × Nat))
 str : Bool
def tyf (P : Program) (T : TypeId) : Option TyF :=
 match P.underlying T, P.info? T with
 |some d, some i => match i.zero with
  |some z => some
   { agg := match d with | .struct _ | .array _ _ => true | _ => false
     size := i.size, bytes := i.bytes, zero := z.cells.toList
     elem := match d with | .slice e => some e | _ => none
     fields := match d with | .struct fs => fs.toList.map fun f => (f.offset, ((P.info? f.type).map (·.size)).getD 0) | _ => []
     places := match d with | .struct fs => fs.toList.mapM fun f => (P.info? f.type).map fun i => (f.offset, i.size) | _ => none
     str := match d with | .string => true | _ => false }
  |none => none
 |_, _ => none
theorem Qcw {T : TypeId} {F : TyF} (h : tyf P T = some F) : ∃ d i z, P.underlying T = some d /\ P.info? T = some i /\ i.zero = some z /\ i.size = F.size /\ i.bytes = F.bytes /\ z.cells.toList = F.zero /\
 (match d with | .struct _ | .array _ _ => true | _ => false) = F.agg /\ (match d with | .slice e => some e | _ => none) = F.elem /\
 (match d with | .struct fs => fs.toList.map fun f => (f.offset, ((P.info? f.type).map (·.size)).getD 0) | _ => []) = F.fields /\
 (match d with | .struct fs => fs.toList.mapM fun f => (P.info? f.type).map fun i => (f.offset, i.size) | _ => none) = F.places /\
 (match d with | .string => true | _ => false) = F.str := by
 unfold tyf at h
 cases hd : P.underlying T with
 |none => rw [hd] at h; cases h
 |some d =>
  cases hi : P.info? T with
  |none => rw [hd, hi] at h; cases h
  |some i =>
   rw [hd, hi] at h
   simp only at h
   cases hz : i.zero with
   |none => rw [hz] at h; cases h
   |some z =>
    rw [hz] at h
    simp only [Option.some.injEq] at h
    subst h
    exact ⟨d, i, z, rfl, rfl, hz, rfl, rfl, rfl, rfl, rfl, rfl, rfl, rfl⟩
theorem Qcf {T e : TypeId} {F : TyF} (h : tyf P T = some F) (he : F.elem = some e) : P.underlying T = some (.slice e) := by
 obtain ⟨d, i, z, hd, _, _, _, _, _, _, h1, _⟩ := Qcw h
 rw [he] at h1
 cases d with
 |slice e' => simp at h1; subst h1; exact hd
 |_ => simp at h1
theorem Qd1 {T : TypeId} {F : TyF} (h : tyf P T = some F) (he : F.str = true) : P.underlying T = some .string := by
 obtain ⟨d, i, z, hd, _, _, _, _, _, _, _, _, _, h1⟩ := Qcw h
 rw [he] at h1
 cases d <;> first | exact hd | simp at h1
theorem Qhq {T : TypeId} {F : TyF} (h : tyf P T = some F) (w : World) : (isAgg T).run P w = .ok F.agg w := by
 obtain ⟨d, i, z, hd, _, _, _, _, _, ha, _⟩ := Qcw h
 unfold isAgg
 rw [Sem.run_bind, run_underlying hd]
 rw [<- ha]
 cases d <;> rfl
theorem Qc0 {T : TypeId} {F : TyF} (h : tyf P T = some F) (w : World) : (sizeOf T).run P w = .ok F.size w := by
 obtain ⟨d, i, z, _, hi, _, hs, _⟩ := Qcw h
 simp [sizeOf, typeInfo, hi, hs]
theorem QmY {T : TypeId} {F : TyF} (h : tyf P T = some F) (w : World) : ∃ z, (zeroValue T).run P w = .ok z w /\ z.cells.toList = F.zero := by
 obtain ⟨d, i, z, _, hi, hz, _, _, hzz, _⟩ := Qcw h
 exact ⟨z, by simp [zeroValue, typeInfo, hi, hz], hzz⟩
theorem Qcx (b o j : Nat) : (⟨b, o, none⟩ : Addr).add j = ⟨b, o + j, none⟩ := by unfold Addr.add; split <;> simp_all
theorem Qdp {T : TypeId} {F : TyF} (hT : tyf P T = some F) {w : World} {b o : Nat} {vs : List Value} (hvs : ∀ (j : Nat) v, vs[j]? = some v -> w.cell? ⟨b, o + j, none⟩ = some v) :
 (F.agg = true -> vs.length = F.size -> (loadVar T ⟨b, o, none⟩).run P w = .ok (.agg vs.toArray) w) /\ (F.agg = false -> ∀ v, vs[0]? = some v -> (loadVar T ⟨b, o, none⟩).run P w = .ok v w) := by
 constructor
 ·intro ha hl
  have hc := run_loadCells_list (P := P) w ⟨b, o, none⟩ vs fun j v hv => by rw [Qcx]; exact hvs j v hv
  rw [hl] at hc
  simp [loadVar, Qhq hT, Qc0 hT, ha, hc]
 ·intro ha v hv
  have := hvs 0 v hv
  simp at this
  simp [loadVar, Qhq hT, ha, this]
def allD : List AV -> Option (List D)
 |[] => some []
 |.d x :: r => (allD r).map (x :: ·)
 |_ => none
theorem QdK : ∀ {l : List AV} {ds : List D}, allD l = some ds -> l = ds.map AV.d
 |[], ds, h => by simp [allD] at h; subst h; rfl
 |x :: r, ds, h => by
  cases x with
  |d y =>
   simp only [allD] at h
   cases hr : allD r with
   |none => rw [hr] at h; cases h
   |some ds' => rw [hr] at h; obtain rfl := Option.some.inj h; rw [QdK hr]; rfl
  |_ => simp [allD] at h
def AV.mk (l : List AV) : AV := match allD l with | some ds => .d (.agg ds) | none => .agg l
theorem AV.mk_rel {σ : Sg} {S : Nat -> Prop} {w : World} {l : List AV} {cs : List Value} (hl : l.length = cs.length) (h : ∀ (i : Nat) d x, l[i]? = some d -> cs[i]? = some x -> Rel σ S H w d x) : Rel σ S H w (AV.mk l) (.agg cs.toArray) := by
 unfold AV.mk
 cases hd : allD l with
 |none => exact .agg l cs hl h
 |some ds =>
  have he := QdK hd
  subst he
  refine .d _ _ (.agg ds cs (by simpa using hl) fun i d x hi hx => ?_)
  have := h i (.d d) x (by rw [List.getElem?_map, hi]; rfl) hx
  cases this; assumption
def ldA (F : TyF) (cells : List AV) : Option AV := bif F.agg then (bif Nat.ble F.size cells.length then some (AV.mk (cells.take F.size)) else none) else cells.head?
def ldD (F : TyF) (cells : List D) : Option D := bif F.agg then (bif Nat.ble F.size cells.length then some (.agg (cells.take F.size)) else none) else cells.head?
theorem QiK {T : TypeId} {F : TyF} (hT : tyf P T = some F) {S : Nat -> Prop} {w : World} {b o : Nat} {cells : List D} {x : D} (hx : ldD F cells = some x)
 (hc : ∀ (j : Nat) d, cells[j]? = some d -> ∃ v, w.cell? ⟨b, o + j, none⟩ = some v /\ RelD S w d v) : ∃ v, (loadVar T ⟨b, o, none⟩).run P w = .ok v w /\ RelD S w x v := by
 have hg : ∀ n, n <= cells.length -> ∃ vs : List Value, vs.length = n /\ ∀ (j : Nat) v, vs[j]? = some v -> w.cell? ⟨b, o + j, none⟩ = some v /\ ∃ d, cells[j]? = some d /\ RelD S w d v := by
  intro n
  induction n with
  |zero => exact fun _ => ⟨[], rfl, fun j v h => by simp at h⟩
  |succ n ih =>
   intro hn
   obtain ⟨vs, hl, h⟩ := ih (by omega)
   obtain ⟨v, hv, hr⟩ := hc n _ (List.getElem?_eq_getElem (by omega))
   refine ⟨vs ++ [v], by simp [hl], fun j u hu => ?_⟩
   by_cases hj : j < vs.length
   ·rw [List.getElem?_append_left hj] at hu; exact h j u hu
   ·have : j = n := by have := (List.getElem?_eq_some_iff.1 hu).1; simp at this; omega
    subst this
    rw [List.getElem?_append_right (by omega)] at hu
    simp [hl] at hu; subst hu
    exact ⟨hv, _, List.getElem?_eq_getElem (by omega), hr⟩
 unfold ldD at hx
 cases ha : F.agg with
 |true =>
  rw [ha] at hx
  simp only [cond_true] at hx
  cases hb : Nat.ble F.size cells.length with
  |false => rw [hb] at hx; cases hx
  |true =>
   rw [hb] at hx
   obtain rfl := Option.some.inj hx
   obtain ⟨vs, hl, hvs⟩ := hg F.size (by simpa using hb)
   refine ⟨_, (Qdp hT fun j v hv => (hvs j v hv).1).1 ha hl, .agg _ vs (by have : F.size <= cells.length := by simpa using hb
                                                                           rw [List.length_take]; omega) fun i d x hd hxx => ?_⟩
   obtain ⟨_, d', hd', hr⟩ := hvs i x hxx
   rw [List.getElem?_take] at hd
   split at hd
   ·rw [hd'] at hd; obtain rfl := Option.some.inj hd; exact hr
   ·cases hd
 |false =>
  rw [ha] at hx
  simp only [cond_false] at hx
  cases cells with
  |nil => cases hx
  |cons d r =>
   simp at hx; subst hx
   obtain ⟨vs, hl, hvs⟩ := hg 1 (by simp)
   match vs, hl with
   |[v], _ =>
    obtain ⟨_, d', hd', hr⟩ := hvs 0 v rfl
    simp at hd'; subst hd'
    exact ⟨v, (Qdp hT fun j v hv => (hvs j v hv).1).2 ha v rfl, hr⟩
theorem ldA_run {T : TypeId} {F : TyF} (hT : tyf P T = some F) {σ : Sg} {S : Nat -> Prop} {w : World} {b o : Nat} {cells : List AV} {x : AV} (hx : ldA F cells = some x)
 (hc : ∀ (j : Nat) d, cells[j]? = some d -> ∃ v, w.cell? ⟨b, o + j, none⟩ = some v /\ Rel σ S H w d v) : ∃ v, (loadVar T ⟨b, o, none⟩).run P w = .ok v w /\ Rel σ S H w x v := by
 have hg : ∀ n, n <= cells.length -> ∃ vs : List Value, vs.length = n /\ ∀ (j : Nat) v, vs[j]? = some v -> w.cell? ⟨b, o + j, none⟩ = some v /\ ∃ d, cells[j]? = some d /\ Rel σ S H w d v := by
  intro n
  induction n with
  |zero => exact fun _ => ⟨[], rfl, fun j v h => by simp at h⟩
  |succ n ih =>
   intro hn
   obtain ⟨vs, hl, h⟩ := ih (by omega)
   obtain ⟨v, hv, hr⟩ := hc n _ (List.getElem?_eq_getElem (by omega))
   refine ⟨vs ++ [v], by simp [hl], fun j u hu => ?_⟩
   by_cases hj : j < vs.length
   ·rw [List.getElem?_append_left hj] at hu; exact h j u hu
   ·have : j = n := by have := (List.getElem?_eq_some_iff.1 hu).1; simp at this; omega
    subst this
    rw [List.getElem?_append_right (by omega)] at hu
    simp [hl] at hu; subst hu
    exact ⟨hv, _, List.getElem?_eq_getElem (by omega), hr⟩
 unfold ldA at hx
 cases ha : F.agg with
 |true =>
  rw [ha] at hx
  simp only [cond_true] at hx
  cases hb : Nat.ble F.size cells.length with
  |false => rw [hb] at hx; cases hx
  |true =>
   rw [hb] at hx
   obtain rfl := Option.some.inj hx
   obtain ⟨vs, hl, hvs⟩ := hg F.size (by simpa using hb)
   refine ⟨_, (Qdp hT fun j v hv => (hvs j v hv).1).1 ha hl, AV.mk_rel (by have : F.size <= cells.length := by simpa using hb
                                                                           rw [List.length_take]; omega) fun i d x hd hxx => ?_⟩
   obtain ⟨_, d', hd', hr⟩ := hvs i x hxx
   rw [List.getElem?_take] at hd
   split at hd
   ·rw [hd'] at hd; obtain rfl := Option.some.inj hd; exact hr
   ·cases hd
 |false =>
  rw [ha] at hx
  simp only [cond_false] at hx
  cases cells with
  |nil => cases hx
  |cons d r =>
   simp at hx; subst hx
   obtain ⟨vs, hl, hvs⟩ := hg 1 (by simp)
   match vs, hl with
   |[v], _ =>
    obtain ⟨_, d', hd', hr⟩ := hvs 0 v rfl
    simp at hd'; subst hd'
    exact ⟨v, (Qdp hT fun j v hv => (hvs j v hv).1).2 ha v rfl, hr⟩
theorem QiF {T : TypeId} {F : TyF} {u : Operand} {cells : List D} {x : D} (hT : tyf P T = some F) (hu : aval env u = .d (.pd cells)) (hx : ldD F cells = some x) :
 Loc P ⟨dst, .load T u, ty, pos, after, gd⟩ env H (.d x) none :=
 QbS fun σ S H' a w _ hop _ => by
  have h := hop u (by simp [Op.operands])
  rw [hu] at h
  generalize hv : a.eval u = v at h
  cases h with
  |d _ _ h =>
   cases h with
   |pd l b o g hS hc hr =>
    obtain ⟨y, h1, h2⟩ := QiK hT hx fun j d hd => ⟨g j, hc j d hd, hr j d hd⟩
    exact ⟨y, by simp [execOp, Instr.loadAt, Instr.sureAddr, hv, h1], .d _ _ h2⟩
theorem QhF {T : TypeId} {F : TyF} {u : Operand} {k g o : Nat} {cells : List AV} {x : AV} (hT : tyf P T = some F) (hu : aval env u = .ptr k g o) (hk : H[k]? = some (.row g cells))
 (hx : ldA F (cells.drop o) = some x) : Loc P ⟨dst, .load T u, ty, pos, after, gd⟩ env H x none :=
 QbS fun σ S H' a w hB hop hag => by
  have h := hop u (by simp [Op.operands])
  rw [hu] at h
  generalize hv : a.eval u = v at h
  cases h with
  |ptr _ _ _ _ _ g' cells' hk' hg hh =>
   have hke : H'[k]? = some (.row g cells) := by
    rcases hag k _ hk with h | h
    ·exact h
    ·rw [hk'] at h; cases h
   rw [hk'] at hke
   obtain ⟨rfl, rfl⟩ : g' = g /\ cells' = cells := by injection (Option.some.inj hke) with h1 h2; exact ⟨h1, h2⟩
   obtain ⟨b, hb, rfl⟩ := hh rfl
   rcases hB k _ hk' with ⟨b', cs, T', hb', hc, hr⟩ | ⟨hb', _⟩
   rotate_left
   ·rw [hb] at hb'; cases hb'
   rw [hb] at hb'; obtain rfl := Option.some.inj hb'
   obtain ⟨y, h1, h2⟩ := ldA_run (b := b) (o := o) hT hx fun j d hd => by
    rw [List.getElem?_drop] at hd
    obtain ⟨u, hu, hr'⟩ := hr _ d hd
    exact ⟨u, by rw [cell_of_row w b _ cs T' (0, 0) hc]; exact hu, hr'⟩
   exact ⟨y, by simp [execOp, Instr.loadAt, Instr.sureAddr, hv, h1], h2⟩
theorem QbX {T T0 : TypeId} {F : TyF} {u : Operand} {k g i j sz : Nat} {rows : List (List D)} {r : List D} {x : D} (hT : tyf P T = some F) (hu : aval env u = .ept k g i j) (hk : H[k]? = some (.arr g sz T0 rows))
 (hr : rows[i]? = some r) (hx : ldD F (r.drop j) = some x) : Loc P ⟨dst, .load T u, ty, pos, after, gd⟩ env H (.d x) none :=
 QbS fun σ S H' a w hB hop hag => by
  have h := hop u (by simp [Op.operands])
  rw [hu] at h
  generalize hv : a.eval u = v at h
  cases h with
  |ept _ _ _ _ _ _ g' sz' T' rows' hk' hg hh =>
   have hke : H'[k]? = some (.arr g sz T0 rows) := by
    rcases hag k _ hk with h | h
    ·exact h
    ·rw [hk'] at h; cases h
   rw [hk'] at hke
   obtain ⟨rfl, rfl, rfl, rfl⟩ : g' = g /\ sz' = sz /\ T' = T0 /\ rows' = rows := by injection (Option.some.inj hke) with h1 h2 h3 h4; exact ⟨h1, h2, h3, h4⟩
   obtain ⟨b, hb, rfl⟩ := hh rfl
   obtain ⟨_, hbk⟩ := hB k _ hk'
   rcases hbk with ⟨b', cs, hb', hc, hrel⟩ | ⟨hb', _⟩
   rotate_left
   ·rw [hb] at hb'; cases hb'
   rw [hb] at hb'; obtain rfl := Option.some.inj hb'
   obtain ⟨y, h1, h2⟩ := QiK (b := b) (o := i * sz' + j) hT hx fun q d hd => by
    rw [List.getElem?_drop] at hd
    obtain ⟨u, hu, hr'⟩ := hrel i _ r d hr hd
    exact ⟨u, by rw [cell_of_row w b _ cs T' (0, 0) hc, Nat.add_assoc]; exact hu, hr'⟩
   exact ⟨y, by simp [execOp, Instr.loadAt, Instr.sureAddr, hv, h1], .d _ _ h2⟩
theorem Qeh {T : TypeId} {F : TyF} (hT : tyf P T = some F) {f o n : Nat} (hf : F.fields[f]? = some (o, n)) (hn : 0 < n) (b q : Nat) (w : World) :
 (Instr.fieldAt T (.pointer (some ⟨b, q, none⟩)) f).run P w = .ok (.pointer (some ⟨b, q + o, none⟩)) w := by
 obtain ⟨d, i, z, hd, hi, hz, _, _, _, _, _, hfs, _⟩ := Qcw hT
 cases d with
 |struct fs =>
  simp only at hfs
  rw [<- hfs, List.getElem?_map] at hf
  cases hx : fs.toList[f]? with
  |none => rw [hx] at hf; cases hf
  |some fld =>
   rw [hx] at hf
   simp only [Option.map_some, Option.some.injEq, Prod.mk.injEq] at hf
   obtain ⟨rfl, hs⟩ := hf
   have hx' : fs[f]? = some fld := by simpa using hx
   cases hfi : P.info? fld.type with
   |none => rw [hfi] at hs; simp at hs; omega
   |some fi =>
    rw [hfi] at hs; simp at hs
    simp [Instr.fieldAt, run_underlying hd, hx', Instr.sureAddr, fieldPlace, sizeOf, typeInfo, hfi, hs, Qcx, show n ≠ 0 by omega]
 |_ => simp only at hfs; rw [<- hfs] at hf; simp at hf
theorem QhG {T : TypeId} {F : TyF} {u : Operand} {f o n : Nat} {cells : List D} (hT : tyf P T = some F) (hu : aval env u = .d (.pd cells)) (hf : F.fields[f]? = some (o, n)) (hn : Nat.blt 0 n = true) :
 Loc P ⟨dst, .fieldAddr T u f, ty, pos, after, gd⟩ env H (.d (.pd (cells.drop o))) none :=
 QbS fun σ S H' a w _ hop _ => by
  have h := hop u (by simp [Op.operands])
  rw [hu] at h
  generalize hv : a.eval u = v at h
  cases h with
  |d _ _ h =>
   cases h with
   |pd l b q g hS hc hr =>
    refine ⟨_, (by simp [execOp, hv, Qeh hT hf (by simpa using hn)] : (execOp a.eval ⟨dst, .fieldAddr T u f, ty, pos, after, gd⟩).run P w = .ok (.value (.pointer (some ⟨b, q + o, none⟩))) w), .d _ _ (.pd _ b (q + o) (fun j => g (o + j)) hS (fun j d hd => ?_) fun j d hd => ?_)⟩
    ·rw [List.getElem?_drop] at hd; rw [Nat.add_assoc]; exact hc _ d hd
    ·rw [List.getElem?_drop] at hd; exact hr _ d hd
theorem QgG {T : TypeId} {F : TyF} {u : Operand} {f o n k g q : Nat} (hT : tyf P T = some F) (hu : aval env u = .ptr k g q) {cells : List AV} (hk : H[k]? = some (.row g cells)) (hf : F.fields[f]? = some (o, n)) (hn : Nat.blt 0 n = true) :
 Loc P ⟨dst, .fieldAddr T u f, ty, pos, after, gd⟩ env H (.ptr k g (q + o)) none :=
 QbS fun σ S H' a w _ hop hag => by
  have h := hop u (by simp [Op.operands])
  rw [hu] at h
  generalize hv : a.eval u = v at h
  cases h with
  |ptr _ _ _ _ _ g' cells' hk' hg hh =>
   have hke : H'[k]? = some (.row g cells) := by
    rcases hag k _ hk with h | h
    ·exact h
    ·rw [hk'] at h; cases h
   rw [hk'] at hke
   obtain ⟨rfl, rfl⟩ : g' = g /\ cells' = cells := by injection (Option.some.inj hke) with h1 h2; exact ⟨h1, h2⟩
   obtain ⟨b, hb, rfl⟩ := hh rfl
   refine ⟨_, (by simp [execOp, hv, Qeh hT hf (by simpa using hn)] : (execOp a.eval ⟨dst, .fieldAddr T u f, ty, pos, after, gd⟩).run P w = .ok (.value (.pointer (some ⟨b, q + o, none⟩))) w), .ptr _ _ _ _ rfl g' cells' hk' hg fun _ => ⟨b, hb, rfl⟩⟩
theorem QgH {T T0 : TypeId} {F : TyF} {u : Operand} {f o n k g i q sz : Nat} {rows : List (List D)} (hT : tyf P T = some F) (hu : aval env u = .ept k g i q) (hk : H[k]? = some (.arr g sz T0 rows)) (hf : F.fields[f]? = some (o, n)) (hn : Nat.blt 0 n = true) :
 Loc P ⟨dst, .fieldAddr T u f, ty, pos, after, gd⟩ env H (.ept k g i (q + o)) none :=
 QbS fun σ S H' a w _ hop hag => by
  have h := hop u (by simp [Op.operands])
  rw [hu] at h
  generalize hv : a.eval u = v at h
  cases h with
  |ept _ _ _ _ _ _ g' sz' T' rows' hk' hg hh =>
   have hke : H'[k]? = some (.arr g sz T0 rows) := by
    rcases hag k _ hk with h | h
    ·exact h
    ·rw [hk'] at h; cases h
   rw [hk'] at hke
   obtain ⟨rfl, rfl, rfl, rfl⟩ : g' = g /\ sz' = sz /\ T' = T0 /\ rows' = rows := by injection (Option.some.inj hke) with h1 h2 h3 h4; exact ⟨h1, h2, h3, h4⟩
   obtain ⟨b, hb, rfl⟩ := hh rfl
   refine ⟨_, (by simp [execOp, hv, Qeh hT hf (by simpa using hn)] : (execOp a.eval ⟨dst, .fieldAddr T u f, ty, pos, after, gd⟩).run P w = .ok (.value (.pointer (some ⟨b, i * sz' + q + o, none⟩))) w), .ept _ _ _ _ _ rfl g' sz' T' rows' hk' hg fun _ => ⟨b, hb, by simp [Nat.add_assoc]⟩⟩
theorem Qeg {T e : TypeId} {F E : TyF} (hT : tyf P T = some F) (he : F.elem = some e) (hE : tyf P e = some E) {κ : IntKind} {i : Int} {b o len cap : Nat} (h0 : 0 <= i) (h1 : i < len) (w : World) :
 (Instr.indexAt T (.slice (some ⟨b, o, none⟩) len cap) (.int κ i)).run P w = .ok (.pointer (some ⟨b, o + i.toNat * E.size, none⟩)) w := by
 obtain ⟨d, inf, z, hd, _, _, _, _, _, _, hel, _⟩ := Qcw hT
 rw [he] at hel
 cases d with
 |slice e' =>
  simp at hel
  subst hel
  simp [Instr.indexAt, asIntOf, run_underlying hd, h0, h1, Qc0 hE, Qcx]
 |_ => simp at hel
theorem Qbx {T e : TypeId} {F E : TyF} {u v : Operand} {κ : IntKind} {i : Int} {n : Nat} {c : Bool} {rows : List (List D)} {r : List D} (hT : tyf P T = some F) (he : F.elem = some e) (hE : tyf P e = some E)
 (hn : E.size = n) (hu : aval env u = .d (.sl c n rows)) (hv : aval env v = .d (.v (.int κ i))) (h0 : 0 <= i) (hr : rows[i.toNat]? = some r) :
 Loc P ⟨dst, .indexAddr T u v, ty, pos, after, gd⟩ env H (.d (.pd r)) none :=
 QbS fun σ S H' a w _ hop _ => by
  subst hn
  have h := hop u (by simp [Op.operands])
  have h' := AV.conc_rel (hop v (by simp [Op.operands])) (y := .int κ i) (by rw [hv]; rfl)
  rw [hu] at h
  generalize hx : a.eval u = x at h
  cases h with
  |d _ _ h =>
   cases h with
   |slnil => simp at hr
   |sl _ _ _ b o cap g hS hlen hcap hc hrel =>
    have hlt : i.toNat < rows.length := (List.getElem?_eq_some_iff.1 hr).1
    refine ⟨_, by simp only [execOp, hx, h', Sem.run_bind, Qeg hT he hE (len := rows.length) (cap := cap) (b := b) (o := o) h0 (by omega) w]; rfl, .d _ _ (.pd r b _ (fun j => g i.toNat j) hS (fun j d hd => ?_) fun j d hd => hrel _ j r d hr hd)⟩
    exact hc _ j r d hr hd
theorem QbR {T e T0 : TypeId} {F E : TyF} {u v : Operand} {κ : IntKind} {i : Int} {k g sz off len : Nat} {rows : List (List D)} (hT : tyf P T = some F) (he : F.elem = some e) (hE : tyf P e = some E)
 (hn : E.size = sz) (hu : aval env u = .osl k g off len) (hk : H[k]? = some (.arr g sz T0 rows)) (hv : aval env v = .d (.v (.int κ i))) (h0 : 0 <= i) (h1 : i < len) :
 Loc P ⟨dst, .indexAddr T u v, ty, pos, after, gd⟩ env H (.ept k g (off + i.toNat) 0) none :=
 QbS fun σ S H' a w _ hop hag => by
  subst hn
  have h := hop u (by simp [Op.operands])
  have h' := AV.conc_rel (hop v (by simp [Op.operands])) (y := .int κ i) (by rw [hv]; rfl)
  rw [hu] at h
  generalize hx : a.eval u = x at h
  cases h with
  |osl _ _ _ _ _ _ g' sz' T' rows' hk' hg hh =>
   have hke : H'[k]? = some (.arr g E.size T0 rows) := by
    rcases hag k _ hk with h | h
    ·exact h
    ·rw [hk'] at h; cases h
   rw [hk'] at hke
   obtain ⟨rfl, rfl, rfl, rfl⟩ : g' = g /\ sz' = E.size /\ T' = T0 /\ rows' = rows := by injection (Option.some.inj hke) with h1 h2 h3 h4; exact ⟨h1, h2, h3, h4⟩
   obtain ⟨_, hh⟩ := hh rfl
   rcases hh with ⟨b, cap, cs, T', hb, hl, hm, rfl, hc, hs⟩ | ⟨hb, rfl, rfl⟩
   ·exact ⟨_, by simp only [execOp, hx, h', Sem.run_bind, Qeg hT he hE h0 h1 w]; rfl, .ept _ _ _ _ _ rfl g' E.size _ rows' hk' hg fun _ => ⟨b, hb, by simp [Nat.add_mul]⟩⟩
   ·omega
end
variable {P : Program}
def D.cells : D -> Option (List D)
 |.agg l => some l
 |.v x => bif x.oneCell' then some [.v x] else none
 |.sl c n l => some [.sl c n l]
 |.pd l => some [.pd l]
 |.mp l => some [.mp l]
 |_ => none
def AV.cells : AV -> Option (List AV)
 |.d x => x.cells.map (·.map AV.d)
 |.agg l => some l
 |.tup _ => none
 |.gh _ _ => none
 |x => some [x]
theorem QcK {v : Value} (h : v.oneCell' = true) : v.cells = #[v] := by cases v <;> simp_all [Value.oneCell', Value.cells]
theorem D.cells_rel {S : Nat -> Prop} {w : World} {x : D} {v : Value} {l : List D} (h : RelD S w x v) (hc : x.cells = some l) : v.cells.size = l.length /\ ∀ (j : Nat) d, l[j]? = some d -> ∃ u, v.cells[j]? = some u /\ RelD S w d u := by
 have single : ∀ {y : D} {u : Value}, RelD S w y u -> u.cells = #[u] -> l = [y] -> u.cells.size = l.length /\ ∀ (j : Nat) d, l[j]? = some d -> ∃ u', u.cells[j]? = some u' /\ RelD S w d u' := by
  intro y u hy hu hl
  subst hl
  rw [hu]
  refine ⟨rfl, fun j d hd => ?_⟩
  cases j with
  |zero => simp at hd; subst hd; exact ⟨u, rfl, hy⟩
  |succ j => simp at hd
 cases h with
 |any => simp [D.cells] at hc
 |v _ =>
  simp only [D.cells] at hc
  cases ho : v.oneCell' with
  |false => rw [ho] at hc; cases hc
  |true =>
   rw [ho] at hc
   exact single (.v v) (QcK ho) (Option.some.inj hc).symm
 |agg l' cs hl hr =>
  obtain rfl := Option.some.inj hc
  refine ⟨by simp [Value.cells, hl], fun j d hd => ?_⟩
  have hj : j < cs.length := by rw [<- hl]; exact (List.getElem?_eq_some_iff.1 hd).1
  exact ⟨cs[j], by simp [Value.cells, hj], hr j d _ hd (List.getElem?_eq_getElem hj)⟩
 |tup => simp [D.cells] at hc
 |pd l' b o g hS hcc hr => exact single (.pd l' b o g hS hcc hr) rfl (Option.some.inj hc).symm
 |slnil c n a cap => exact single (.slnil c n a cap) rfl (Option.some.inj hc).symm
 |sl c n l' b o cap g hS hn hcap hcc hr => exact single (.sl c n l' b o cap g hS hn hcap hcc hr) rfl (Option.some.inj hc).symm
 |mp l' b es clock hS hb hl hk hr => exact single (.mp l' b es clock hS hb hl hk hr) rfl (Option.some.inj hc).symm
theorem AV.cells_rel {σ : Sg} {S : Nat -> Prop} {H : List Blk} {w : World} {x : AV} {v : Value} {l : List AV} (h : Rel σ S H w x v) (hc : x.cells = some l) : v.cells.size = l.length /\ ∀ (j : Nat) d, l[j]? = some d -> ∃ u, v.cells[j]? = some u /\ Rel σ S H w d u := by
 have single : v.cells = #[v] -> l = [x] -> v.cells.size = l.length /\ ∀ (j : Nat) d, l[j]? = some d -> ∃ u', v.cells[j]? = some u' /\ Rel σ S H w d u' := by
  intro hu hl
  subst hl
  rw [hu]
  refine ⟨rfl, fun j d hd => ?_⟩
  cases j with
  |zero => simp at hd; subst hd; exact ⟨v, rfl, h⟩
  |succ j => simp at hd
 have h' := h
 cases h with
 |d x v h =>
  simp only [AV.cells] at hc
  cases hx : x.cells with
  |none => rw [hx] at hc; cases hc
  |some ds =>
   rw [hx] at hc
   obtain rfl := Option.some.inj hc
   obtain ⟨h1, h2⟩ := D.cells_rel h hx
   refine ⟨by rw [h1, List.length_map], fun j d hd => ?_⟩
   rw [List.getElem?_map] at hd
   cases hj : ds[j]? with
   |none => rw [hj] at hd; cases hd
   |some y =>
    rw [hj] at hd; obtain rfl := Option.some.inj hd
    obtain ⟨u, hu, hr⟩ := h2 j y hj
    exact ⟨u, hu, .d _ _ hr⟩
 |agg l' cs hl hr =>
  obtain rfl := Option.some.inj hc
  refine ⟨by simp [Value.cells, hl], fun j d hd => ?_⟩
  have hj : j < cs.length := by rw [<- hl]; exact (List.getElem?_eq_some_iff.1 hd).1
  exact ⟨cs[j], by simp [Value.cells, hj], hr j d _ hd (List.getElem?_eq_getElem hj)⟩
 |tup => simp [AV.cells] at hc
 |gh => simp [AV.cells] at hc
 |ptr k g o v ho => exact single (QcK ho) (Option.some.inj hc).symm
 |ept k g i j v ho => exact single (QcK ho) (Option.some.inj hc).symm
 |osl k g off len v ho => exact single (QcK ho) (Option.some.inj hc).symm
 |rsl k g n v ho => exact single (QcK ho) (Option.some.inj hc).symm
 |mp k g v ho => exact single (QcK ho) (Option.some.inj hc).symm
 |fn f l' cs hl hr => exact single rfl (Option.some.inj hc).symm
section
variable {dst : Option Tmp} {ty : TypeId} {pos : String} {after : Array Edge} {gd : Option (Nat × Bool)} {env : List (Nat × AV)} {H : List Blk}
theorem loc_box {T : TypeId} {u : Operand} {l : List AV} (hc : (aval env u).cells = some l) : Loc P ⟨dst, .box T u, ty, pos, after, gd⟩ env H (.ptr H.length 0 0) (some (.row 0 l)) :=
 QlP fun σ S H' a w hop => by
  obtain ⟨_, h2⟩ := AV.cells_rel (hop u (by simp [Op.operands])) hc
  exact ⟨(a.eval u).cells, T, by simp [execOp, Instr.box, newVar, newRow], h2⟩
theorem QlV {T : TypeId} {F : TyF} (hT : tyf P T = some F) : Loc P ⟨dst, .alloc T, ty, pos, after, gd⟩ env H (.ptr H.length 0 0) (some (.row 0 (F.zero.map fun v => .d (.v v)))) :=
 QlP fun σ S H' a w _ => by
  obtain ⟨z, h1, h2⟩ := QmY hT w
  refine ⟨z.cells, T, by simp [execOp, Instr.alloc, newVar, newRow, h1], fun j x hx => ?_⟩
  rw [List.getElem?_map, <- h2] at hx
  cases hj : z.cells.toList[j]? with
  |none => rw [hj] at hx; cases hx
  |some v =>
   rw [hj] at hx; obtain rfl := Option.some.inj hx
   exact ⟨v, by simpa using hj, .d _ _ (.v _)⟩
def setAt (cells : List AV) (o : Nat) : List AV -> List AV
 |[] => cells
 |x :: r => setAt (cells.set o x) (o + 1) r
def fillA (pl : Nat -> Option (Nat × Nat)) (env : List (Nat × AV)) : List AV -> List (Nat × Operand) -> Option (List AV)
 |cells, [] => some cells
 |cells, (i, u) :: r => match pl i, (aval env u).cells with
  |some (o, n), some l => bif Nat.beq l.length n && Nat.ble (o + l.length) cells.length then fillA pl env (setAt cells o l) r else none
  |_, _ => none
theorem Qfq : ∀ (l : List AV) (cells : List AV) (o : Nat), (setAt cells o l).length = cells.length
 |[], _, _ => rfl
 |x :: r, cells, o => by simp only [setAt]; rw [Qfq r, List.length_set]
theorem Qly {R : AV -> Value -> Prop} : ∀ (l : List AV) (vs : List Value) (cells : List AV) (cs : Array Value) (o k : Nat), vs.length = l.length -> (∀ (j : Nat) x, l[j]? = some x -> ∃ v, vs[j]? = some v /\ R x v) ->
 cells.length = cs.size -> (∀ (j : Nat) x, cells[j]? = some x -> ∃ v, cs[j]? = some v /\ R x v) -> o + l.length <= cells.length ->
 ((vs.zipIdx k).foldl (fun cs (c, j) => cs.setIfInBounds (o - k + j) c) cs).size = cells.length /\
 ∀ (j : Nat) x, (setAt cells o l)[j]? = some x -> k <= o -> ∃ v, ((vs.zipIdx k).foldl (fun cs (c, j) => cs.setIfInBounds (o - k + j) c) cs)[j]? = some v /\ R x v := by
 intro l
 induction l with
 |nil =>
  intro vs cells cs o k hl _ hs hc _
  have : vs = [] := List.eq_nil_of_length_eq_zero (by simpa using hl)
  subst this
  exact ⟨hs.symm, fun j x hx _ => hc j x hx⟩
 |cons y r ih =>
  intro vs cells cs o k hl hv hs hc ho
  match vs, hl with
  |v :: vs, hl =>
   obtain ⟨v', hv', hr⟩ := hv 0 y rfl
   simp at hv'; subst hv'
   by_cases hk : k <= o
   ·have h2 : o - k + k = o := by omega
    have hstep : (((v :: vs).zipIdx k).foldl (fun cs (c, j) => cs.setIfInBounds (o - k + j) c) cs) = ((vs.zipIdx (k + 1)).foldl (fun cs (c, j) => cs.setIfInBounds (o + 1 - (k + 1) + j) c) (cs.setIfInBounds o v)) := by
     simp only [List.zipIdx_cons, List.foldl_cons, h2]
     have : o + 1 - (k + 1) = o - k := by omega
     rw [this]
    rw [hstep]
    have hlen : o < cells.length := by simp at ho; omega
    have := ih vs (cells.set o y) (cs.setIfInBounds o v) (o + 1) (k + 1) (by simpa using hl) (fun j x hx => by simpa using hv (j + 1) x (by simpa using hx)) (by simpa using hs) (fun j x hx => ?_) (by simp at ho ⊢; omega)
    ·exact ⟨by rw [this.1, List.length_set], fun j x hx _ => this.2 j x hx (by omega)⟩
    ·by_cases hj : j = o
     ·subst hj
      rw [List.getElem?_set_self hlen] at hx
      obtain rfl := Option.some.inj hx
      exact ⟨v, by rw [Array.getElem?_setIfInBounds_self_of_lt (by omega)], hr⟩
     ·rw [List.getElem?_set_ne (fun e => hj e.symm)] at hx
      obtain ⟨u, hu, hru⟩ := hc j x hx
      exact ⟨u, by rw [Array.getElem?_setIfInBounds_ne (fun e => hj e.symm)]; exact hu, hru⟩
   ·refine ⟨?_, fun j x _ h => absurd h hk⟩
    clear ih hv hr
    have : ∀ (l : List (Value × Nat)) (cs : Array Value), (l.foldl (fun cs (c, j) => cs.setIfInBounds (o - k + j) c) cs).size = cs.size := by
     intro l
     induction l with
     |nil => intro cs; rfl
     |cons p l ih => intro cs; rw [List.foldl_cons, ih]; simp
    rw [this, hs]
theorem QjG {pl : Nat -> Option (Nat × Nat)} {σ : Sg} {S : Nat -> Prop} {H' : List Blk} {a : Act} {w : World} :
 ∀ (parts : List (Nat × Operand)) (cells : List AV) (cs : Array Value) (res : List AV), (∀ p ∈ parts, Rel σ S H' w (aval env p.2) (a.eval p.2)) -> fillA pl env cells parts = some res -> cells.length = cs.size ->
   (∀ (j : Nat) x, cells[j]? = some x -> ∃ v, cs[j]? = some v /\ Rel σ S H' w x v) ->
   ∃ cs', Instr.fill pl cs (parts.map fun p => (p.1, a.eval p.2)) = some cs' /\ cs'.size = res.length /\ ∀ (j : Nat) x, res[j]? = some x -> ∃ v, cs'[j]? = some v /\ Rel σ S H' w x v := by
 intro parts
 induction parts with
 |nil =>
  intro cells cs res _ h hl hc
  simp only [fillA, Option.some.injEq] at h
  subst h
  exact ⟨cs, rfl, hl.symm, hc⟩
 |cons p r ih =>
  obtain ⟨i, u⟩ := p
  intro cells cs res hop h hl hc
  simp only [fillA] at h
  cases hf : pl i with
  |none => rw [hf] at h; cases h
  |some on =>
   obtain ⟨o, n⟩ := on
   rw [hf] at h
   cases hcl : (aval env u).cells with
   |none => rw [hcl] at h; cases h
   |some l =>
    rw [hcl] at h
    simp only at h
    cases hb : (Nat.beq l.length n && Nat.ble (o + l.length) cells.length) with
    |false => rw [hb] at h; cases h
    |true =>
     rw [hb] at h
     simp only [cond_true] at h
     obtain ⟨hb1, hb2⟩ := Bool.and_eq_true_iff.1 hb
     have hn : l.length = n := Nat.eq_of_beq_eq_true hb1
     have ho : o + l.length <= cells.length := Nat.le_of_ble_eq_true hb2
     obtain ⟨h1, h2⟩ := AV.cells_rel (hop (i, u) List.mem_cons_self) hcl
     have hset := Qly (R := Rel σ S H' w) l (a.eval u).cells.toList cells cs o 0 (by simpa using h1) (fun j x hx => by simpa using h2 j x hx) hl hc ho
     simp only [Nat.sub_zero, Nat.zero_le, forall_const] at hset
     obtain ⟨cs', h3, h4, h5⟩ := ih (setAt cells o l) _ res (fun p hp => hop p (List.mem_cons_of_mem _ hp)) h (by rw [Qfq]; exact hset.1.symm) (fun j x hx => hset.2 j x hx)
     refine ⟨cs', ?_, h4, h5⟩
     simp only [List.map_cons, Instr.fill, hf]
     rw [if_neg (by simp only [Bool.or_eq_true, decide_eq_true_eq, not_or]; exact ⟨by rw [h1]; simpa using hn, by rw [h1]; omega⟩)]
     rw [<- h3]
     congr 1
     rw [<- Array.foldl_toList, Array.toList_zipIdx]
theorem QlT {T : TypeId} {F : TyF} {pl : List (Nat × Nat)} {parts : Array (Nat × Operand)} {res : List AV} (hT : tyf P T = some F) (hpl : F.places = some pl) (hr : fillA (fun i => pl[i]?) env (F.zero.map fun v => .d (.v v)) parts.toList = some res) :
 Loc P ⟨dst, .build T parts, ty, pos, after, gd⟩ env H (AV.mk res) none :=
 QbS fun σ S H' a w _ hop _ => by
  obtain ⟨d, inf, z, hd, hi, hz, _, _, hzz, _, _, _, hfs, _⟩ := Qcw hT
  rw [hpl] at hfs
  cases d with
  |struct fs =>
   simp only at hfs
   obtain ⟨cs', h1, h2, h3⟩ := QjG (env := env) (σ := σ) (S := S) (H' := H') (a := a) (w := w) (pl := fun i => pl[i]?) parts.toList _ z.cells res
    (fun p hp => hop p.2 (by simp only [Op.operands]; exact List.mem_toArray.2 (List.mem_map.2 ⟨p, hp, rfl⟩))) hr (by rw [<- hzz]; simp) (fun j x hx => by
      rw [List.getElem?_map, <- hzz] at hx
      cases hj : z.cells.toList[j]? with
      |none => rw [hj] at hx; cases hx
      |some v =>
       rw [hj] at hx; obtain rfl := Option.some.inj hx
       exact ⟨v, by simpa using hj, .d _ _ (.v _)⟩)
   refine ⟨.agg cs', ?_, ?_⟩
   ·have hb : P.built T (parts.map fun (i, x) => (i, a.eval x)).toList = some cs' := by
     unfold Program.built
     simp only [hi, hd, hz, hfs]
     rw [<- h1]
     simp
    simp only [execOp, Sem.run_bind, run_build w T _ cs' hb]; rfl
   ·have := AV.mk_rel (σ := σ) (S := S) (H := H') (w := w) (l := res) (cs := cs'.toList) (by simpa using h2.symm) (fun i d x hd hx => by
     obtain ⟨v, hv, hr⟩ := h3 i d hd
     have : cs'[i]? = some x := by simpa using hx
     rw [hv] at this; obtain rfl := Option.some.inj this; exact hr)
    simpa using this
  |_ => cases hfs
end
end Aw
end Go.Proofs.YtdjkdcokjoiokaaGreatDoor

/- Part 5 of seek_card: contracts, walks, laws; no condition beyond the statement's. -/
import Derived.Test.YtdjkdcokjoiokaaGreatDoorW04
import Derived.Deep.LoopGhost
import Derived.Laws.StructEq
set_option linter.all false
namespace Go.Proofs.YtdjkdcokjoiokaaGreatDoor
open Go.RowKit
namespace Aw
variable {P : Program}
def D.cells : D -> Option (List D)
 |.agg l => some l
 |.v x => bif x.oneCell' then some [.v x] else none
 |.sl c n l => some [.sl c n l]
 |.pd l => some [.pd l]
 |.mp l => some [.mp l]
 |_ => none
def AV.cells : AV -> Option (List AV)
 |.d x => x.cells.map (·.map AV.d)
 |.agg l => some l
 |.tup _ => none
 |.gh _ _ => none
 |x => some [x]
theorem QcB {v : Value} (h : v.oneCell' = true) : v.cells = #[v] := by cases v <;> simp_all [Value.oneCell', Value.cells]
theorem D.cells_rel {S : Nat -> Prop} {w : World} {x : D} {v : Value} {l : List D} (h : RelD S w x v) (hc : x.cells = some l) : v.cells.size = l.length /\ ∀ (j : Nat) d, l[j]? = some d -> ∃ u, v.cells[j]? = some u /\ RelD S w d u := by
 have single : ∀ {y : D} {u : Value}, RelD S w y u -> u.cells = #[u] -> l = [y] -> u.cells.size = l.length /\ ∀ (j : Nat) d, l[j]? = some d -> ∃ u', u.cells[j]? = some u' /\ RelD S w d u' := by
  intro y u hy hu hl;subst hl;rw [hu];refine ⟨rfl, fun j d hd => ?_⟩;cases j with
  |zero => simp at hd; subst hd; exact ⟨u, rfl, hy⟩
  |succ j => simp at hd
 cases h with
 |any => simp [D.cells] at hc
 |v _ =>
  simp only [D.cells] at hc;cases ho : v.oneCell' with
  |false => rw [ho] at hc; cases hc
  |true =>
   rw [ho] at hc;exact single (.v v) (QcB ho) (Option.some.inj hc).symm
 |agg l' cs hl hr =>
  obtain rfl := Option.some.inj hc;refine ⟨by simp [Value.cells, hl], fun j d hd => ?_⟩;have hj : j < cs.length := by rw [<- hl]; exact (List.getElem?_eq_some_iff.1 hd).1
  exact ⟨cs[j], by simp [Value.cells, hj], hr j d _ hd (List.getElem?_eq_getElem hj)⟩
 |tup => simp [D.cells] at hc
 |pd l' b o g hS hcc hr => exact single (.pd l' b o g hS hcc hr) rfl (Option.some.inj hc).symm
 |slnil c n a cap => exact single (.slnil c n a cap) rfl (Option.some.inj hc).symm
 |sl c n l' b o cap g hS hn hcap hcc hr => exact single (.sl c n l' b o cap g hS hn hcap hcc hr) rfl (Option.some.inj hc).symm
 |mp l' b es clock hS hb hl hk hr => exact single (.mp l' b es clock hS hb hl hk hr) rfl (Option.some.inj hc).symm
theorem AV.cells_rel {σ : Sg} {S : Nat -> Prop} {H : List Blk} {w : World} {x : AV} {v : Value} {l : List AV} (h : Rel σ S H w x v) (hc : x.cells = some l) : v.cells.size = l.length /\ ∀ (j : Nat) d, l[j]? = some d -> ∃ u, v.cells[j]? = some u /\ Rel σ S H w d u := by
 have single : v.cells = #[v] -> l = [x] -> v.cells.size = l.length /\ ∀ (j : Nat) d, l[j]? = some d -> ∃ u', v.cells[j]? = some u' /\ Rel σ S H w d u' := by
  intro hu hl;subst hl;rw [hu];refine ⟨rfl, fun j d hd => ?_⟩;cases j with
  |zero => simp at hd; subst hd; exact ⟨v, rfl, h⟩
  |succ j => simp at hd
 have h' := h;cases h with
 |d x v h =>
  simp only [AV.cells] at hc;cases hx : x.cells with
  |none => rw [hx] at hc; cases hc
  |some ds =>
   rw [hx] at hc;obtain rfl := Option.some.inj hc;obtain ⟨h1, h2⟩ := D.cells_rel h hx;refine ⟨by rw [h1, List.length_map], fun j d hd => ?_⟩;rw [List.getElem?_map] at hd;cases hj : ds[j]? with
   |none => rw [hj] at hd; cases hd
   |some y =>
    rw [hj] at hd; obtain rfl := Option.some.inj hd;obtain ⟨u, hu, hr⟩ := h2 j y hj;exact ⟨u, hu, .d _ _ hr⟩
 |agg l' cs hl hr =>
  obtain rfl := Option.some.inj hc;refine ⟨by simp [Value.cells, hl], fun j d hd => ?_⟩;have hj : j < cs.length := by rw [<- hl]; exact (List.getElem?_eq_some_iff.1 hd).1
  exact ⟨cs[j], by simp [Value.cells, hj], hr j d _ hd (List.getElem?_eq_getElem hj)⟩
 |tup => simp [AV.cells] at hc
 |gh => simp [AV.cells] at hc
 |ptr k g o v ho => exact single (QcB ho) (Option.some.inj hc).symm
 |ept k g i j v ho => exact single (QcB ho) (Option.some.inj hc).symm
 |osl k g off len v ho => exact single (QcB ho) (Option.some.inj hc).symm
 |rsl k g n v ho => exact single (QcB ho) (Option.some.inj hc).symm
 |mp k g v ho => exact single (QcB ho) (Option.some.inj hc).symm
 |fn f l' cs hl hr => exact single rfl (Option.some.inj hc).symm
section
variable {dst : Option Tmp} {ty : TypeId} {pos : String} {after : Array Edge} {gd : Option (Nat × Bool)} {env : List (Nat × AV)} {H : List Blk}
theorem loc_box {T : TypeId} {u : Operand} {l : List AV} (hc : (aval env u).cells = some l) : Loc P ⟨dst, .box T u, ty, pos, after, gd⟩ env H (.ptr H.length 0 0) (some (.row 0 l)) :=
 Qlo fun σ S H' a w hop => by
  obtain ⟨_, h2⟩ := AV.cells_rel (hop u (by simp [Op.operands])) hc;exact ⟨(a.eval u).cells, T, by simp [execOp, Instr.box, newVar, newRow], h2⟩
theorem Qlv {T : TypeId} {F : TyF} (hT : tyf P T = some F) : Loc P ⟨dst, .alloc T, ty, pos, after, gd⟩ env H (.ptr H.length 0 0) (some (.row 0 (F.zero.map fun v => .d (.v v)))) :=
 Qlo fun σ S H' a w _ => by
  obtain ⟨z, h1, h2⟩ := Qmw hT w;refine ⟨z.cells, T, by simp [execOp, Instr.alloc, newVar, newRow, h1], fun j x hx => ?_⟩;rw [List.getElem?_map, <- h2] at hx;cases hj : z.cells.toList[j]? with
  |none => rw [hj] at hx; cases hx
  |some v =>
   rw [hj] at hx; obtain rfl := Option.some.inj hx;exact ⟨v, by simpa using hj, .d _ _ (.v _)⟩
def setAt (cells : List AV) (o : Nat) : List AV -> List AV
 |[] => cells
 |x :: r => setAt (cells.set o x) (o + 1) r
def fillA (pl : Nat -> Option (Nat × Nat)) (env : List (Nat × AV)) : List AV -> List (Nat × Operand) -> Option (List AV)
 |cells, [] => some cells
 |cells, (i, u) :: r => match pl i, (aval env u).cells with
  |some (o, n), some l => bif Nat.beq l.length n && Nat.ble (o + l.length) cells.length then fillA pl env (setAt cells o l) r else none
  |_, _ => none
theorem QeZ : ∀ (l : List AV) (cells : List AV) (o : Nat), (setAt cells o l).length = cells.length
 |[], _, _ => rfl
 |x :: r, cells, o => by simp only [setAt]; rw [QeZ r, List.length_set]
theorem QkK {R : AV -> Value -> Prop} : ∀ (l : List AV) (vs : List Value) (cells : List AV) (cs : Array Value) (o k : Nat), vs.length = l.length -> (∀ (j : Nat) x, l[j]? = some x -> ∃ v, vs[j]? = some v /\ R x v) ->
 cells.length = cs.size -> (∀ (j : Nat) x, cells[j]? = some x -> ∃ v, cs[j]? = some v /\ R x v) -> o + l.length <= cells.length ->
 ((vs.zipIdx k).foldl (fun cs (c, j) => cs.setIfInBounds (o - k + j) c) cs).size = cells.length /\
 ∀ (j : Nat) x, (setAt cells o l)[j]? = some x -> k <= o -> ∃ v, ((vs.zipIdx k).foldl (fun cs (c, j) => cs.setIfInBounds (o - k + j) c) cs)[j]? = some v /\ R x v := by
 intro l;induction l with
 |nil =>
  intro vs cells cs o k hl _ hs hc _;have : vs = [] := List.eq_nil_of_length_eq_zero (by simpa using hl);subst this;exact ⟨hs.symm, fun j x hx _ => hc j x hx⟩
 |cons y r ih =>
  intro vs cells cs o k hl hv hs hc ho
  match vs, hl with
  |v :: vs, hl =>
   obtain ⟨v', hv', hr⟩ := hv 0 y rfl;simp at hv'; subst hv'
   by_cases hk : k <= o
   ·have h2 : o - k + k = o := by omega
    have hstep : (((v :: vs).zipIdx k).foldl (fun cs (c, j) => cs.setIfInBounds (o - k + j) c) cs) = ((vs.zipIdx (k + 1)).foldl (fun cs (c, j) => cs.setIfInBounds (o + 1 - (k + 1) + j) c) (cs.setIfInBounds o v)) := by
     simp only [List.zipIdx_cons, List.foldl_cons, h2];have : o + 1 - (k + 1) = o - k := by omega
     rw [this]
    rw [hstep];have hlen : o < cells.length := by simp at ho; omega
    have := ih vs (cells.set o y) (cs.setIfInBounds o v) (o + 1) (k + 1) (by simpa using hl) (fun j x hx => by simpa using hv (j + 1) x (by simpa using hx)) (by simpa using hs) (fun j x hx => ?_) (by simp at ho ⊢; omega)
    ·exact ⟨by rw [this.1, List.length_set], fun j x hx _ => this.2 j x hx (by omega)⟩
    ·by_cases hj : j = o
     ·subst hj
      rw [List.getElem?_set_self hlen] at hx;obtain rfl := Option.some.inj hx;exact ⟨v, by rw [Array.getElem?_setIfInBounds_self_of_lt (by omega)], hr⟩
     ·rw [List.getElem?_set_ne (fun e => hj e.symm)] at hx
      obtain ⟨u, hu, hru⟩ := hc j x hx;exact ⟨u, by rw [Array.getElem?_setIfInBounds_ne (fun e => hj e.symm)]; exact hu, hru⟩
   ·refine ⟨?_, fun j x _ h => absurd h hk⟩
    clear ih hv hr
    have : ∀ (l : List (Value × Nat)) (cs : Array Value), (l.foldl (fun cs (c, j) => cs.setIfInBounds (o - k + j) c) cs).size = cs.size := by
     intro l;induction l with
     |nil => intro cs; rfl
     |cons p l ih => intro cs; rw [List.foldl_cons, ih]; simp
    rw [this, hs]
theorem Qjj {pl : Nat -> Option (Nat × Nat)} {σ : Sg} {S : Nat -> Prop} {H' : List Blk} {a : Act} {w : World} :
 ∀ (parts : List (Nat × Operand)) (cells : List AV) (cs : Array Value) (res : List AV), (∀ p ∈ parts, Rel σ S H' w (aval env p.2) (a.eval p.2)) -> fillA pl env cells parts = some res -> cells.length = cs.size ->
   (∀ (j : Nat) x, cells[j]? = some x -> ∃ v, cs[j]? = some v /\ Rel σ S H' w x v) ->
   ∃ cs', Instr.fill pl cs (parts.map fun p => (p.1, a.eval p.2)) = some cs' /\ cs'.size = res.length /\ ∀ (j : Nat) x, res[j]? = some x -> ∃ v, cs'[j]? = some v /\ Rel σ S H' w x v := by
 intro parts;induction parts with
 |nil =>
  intro cells cs res _ h hl hc;simp only [fillA, Option.some.injEq] at h;subst h;exact ⟨cs, rfl, hl.symm, hc⟩
 |cons p r ih =>
  obtain ⟨i, u⟩ := p;intro cells cs res hop h hl hc;simp only [fillA] at h;cases hf : pl i with
  |none => rw [hf] at h; cases h
  |some on =>
   obtain ⟨o, n⟩ := on;rw [hf] at h;cases hcl : (aval env u).cells with
   |none => rw [hcl] at h; cases h
   |some l =>
    rw [hcl] at h;simp only at h;cases hb : (Nat.beq l.length n && Nat.ble (o + l.length) cells.length) with
    |false => rw [hb] at h; cases h
    |true =>
     rw [hb] at h;simp only [cond_true] at h;obtain ⟨hb1, hb2⟩ := Bool.and_eq_true_iff.1 hb;have hn : l.length = n := Nat.eq_of_beq_eq_true hb1;have ho : o + l.length <= cells.length := Nat.le_of_ble_eq_true hb2;obtain ⟨h1, h2⟩ := AV.cells_rel (hop (i, u) List.mem_cons_self) hcl;have hset := QkK (R := Rel σ S H' w) l (a.eval u).cells.toList cells cs o 0 (by simpa using h1) (fun j x hx => by simpa using h2 j x hx) hl hc ho;simp only [Nat.sub_zero, Nat.zero_le, forall_const] at hset;obtain ⟨cs', h3, h4, h5⟩ := ih (setAt cells o l) _ res (fun p hp => hop p (List.mem_cons_of_mem _ hp)) h (by rw [QeZ]; exact hset.1.symm) (fun j x hx => hset.2 j x hx);refine ⟨cs', ?_, h4, h5⟩;simp only [List.map_cons, Instr.fill, hf];rw [if_neg (by simp only [Bool.or_eq_true, decide_eq_true_eq, not_or]; exact ⟨by rw [h1]; simpa using hn, by rw [h1]; omega⟩)];rw [<- h3]
     congr 1
     rw [<- Array.foldl_toList, Array.toList_zipIdx]
theorem Qlt {T : TypeId} {F : TyF} {pl : List (Nat × Nat)} {parts : Array (Nat × Operand)} {res : List AV} (hT : tyf P T = some F) (hpl : F.places = some pl) (hr : fillA (fun i => pl[i]?) env (F.zero.map fun v => .d (.v v)) parts.toList = some res) :
 Loc P ⟨dst, .build T parts, ty, pos, after, gd⟩ env H (AV.mk res) none :=
 QbD fun σ S H' a w _ hop _ => by
  obtain ⟨d, inf, z, hd, hi, hz, _, _, hzz, _, _, _, hfs, _⟩ := Qcf hT;rw [hpl] at hfs;cases d with
  |struct fs =>
   simp only at hfs
   obtain ⟨cs', h1, h2, h3⟩ := Qjj (env := env) (σ := σ) (S := S) (H' := H') (a := a) (w := w) (pl := fun i => pl[i]?) parts.toList _ z.cells res
    (fun p hp => hop p.2 (by simp only [Op.operands]; exact List.mem_toArray.2 (List.mem_map.2 ⟨p, hp, rfl⟩))) hr (by rw [<- hzz]; simp) (fun j x hx => by
      rw [List.getElem?_map, <- hzz] at hx;cases hj : z.cells.toList[j]? with
      |none => rw [hj] at hx; cases hx
      |some v =>
       rw [hj] at hx; obtain rfl := Option.some.inj hx
       exact ⟨v, by simpa using hj, .d _ _ (.v _)⟩)
   refine ⟨.agg cs', ?_, ?_⟩
   ·have hb : P.built T (parts.map fun (i, x) => (i, a.eval x)).toList = some cs' := by
     unfold Program.built;simp only [hi, hd, hz, hfs];rw [<- h1];simp
    simp only [execOp, Sem.run_bind, run_build w T _ cs' hb]; rfl
   ·have := AV.mk_rel (σ := σ) (S := S) (H := H') (w := w) (l := res) (cs := cs'.toList) (by simpa using h2.symm) (fun i d x hd hx => by
     obtain ⟨v, hv, hr⟩ := h3 i d hd;have : cs'[i]? = some x := by simpa using hx
     rw [hv] at this; obtain rfl := Option.some.inj this; exact hr)
    simpa using this
  |_ => cases hfs
end
variable {P : Program}
section
variable {dst : Option Tmp} {ty : TypeId} {pos : String} {after : Array Edge} {gd : Option (Nat × Bool)} {env : List (Nat × AV)} {H : List Blk}
theorem Qgu {u : Operand} {l : List D} {i : Nat} {x : D} (hu : aval env u = .d (.tup l)) (hx : l[i]? = some x) : Loc P ⟨dst, .extract u i, ty, pos, after, gd⟩ env H (.d x) none :=
 QbD fun σ S H' a w _ hop _ => by
  have h := hop u (by simp [Op.operands]);rw [hu] at h;generalize hv : a.eval u = v at h;cases h with
  |d _ _ h =>
   cases h with
   |tup _ cs hl hr =>
    have hi : i < cs.length := by rw [<- hl]; exact (List.getElem?_eq_some_iff.1 hx).1
    exact ⟨cs[i], by simp [execOp, Instr.extract, hv, hi], .d _ _ (hr i x _ hx (List.getElem?_eq_getElem hi))⟩
theorem Qip {u : Operand} {l : List AV} {i : Nat} {x : AV} (hu : aval env u = .tup l) (hx : l[i]? = some x) : Loc P ⟨dst, .extract u i, ty, pos, after, gd⟩ env H x none :=
 QbD fun σ S H' a w _ hop _ => by
  have h := hop u (by simp [Op.operands]);rw [hu] at h;generalize hv : a.eval u = v at h;cases h with
  |tup _ cs hl hr =>
   have hi : i < cs.length := by rw [<- hl]; exact (List.getElem?_eq_some_iff.1 hx).1
   exact ⟨cs[i], by simp [execOp, Instr.extract, hv, hi], hr i x _ hx (List.getElem?_eq_getElem hi)⟩
theorem QjZ {u : Operand} {T e : TypeId} {F : TyF} {c : Bool} {n : Nat} {rows : List (List D)} (hT : tyf P T = some F) (he : F.elem = some e) (hu : aval env u = .d (.sl c n rows)) :
 Loc P ⟨dst, .call ⟨.builtin .len, #[u], #[T]⟩, ty, pos, after, gd⟩ env H (.d (.v (.int .i64 rows.length))) none :=
 QbD fun σ S H' a w _ hop _ => by
  have h := hop u (by simp [Op.operands, Call.operands]);rw [hu] at h;generalize hv : a.eval u = v at h;cases h with
  |d _ _ h => cases h <;> exact ⟨_, by simp [execOp, resolve, invoke, builtin, Builtin.len_, hv, goInt, run_underlying (QbX hT he)]; try rfl, .d _ _ (.v _)⟩
theorem Qio {u : Operand} {T e : TypeId} {F : TyF} {k g off len sz : Nat} {T0 : TypeId} {rows : List (List D)} (hT : tyf P T = some F) (he : F.elem = some e) (hu : aval env u = .osl k g off len) (hk : H[k]? = some (.arr g sz T0 rows)) :
 Loc P ⟨dst, .call ⟨.builtin .len, #[u], #[T]⟩, ty, pos, after, gd⟩ env H (.d (.v (.int .i64 len))) none :=
 QbD fun σ S H' a w _ hop hag => by
  have h := hop u (by simp [Op.operands, Call.operands]);rw [hu] at h;generalize hv : a.eval u = v at h;cases h with
  |osl _ _ _ _ _ _ g' sz' T' rows' hk' hg hh =>
   have hke : H'[k]? = some (.arr g sz T0 rows) := by
    rcases hag k _ hk with h | h
    ·exact h
    ·rw [hk'] at h; cases h
   rw [hk'] at hke;obtain ⟨rfl, rfl, rfl, rfl⟩ : g' = g /\ sz' = sz /\ T' = T0 /\ rows' = rows := by injection (Option.some.inj hke) with h1 h2 h3 h4; exact ⟨h1, h2, h3, h4⟩
   obtain ⟨_, hh⟩ := hh rfl;rcases hh with ⟨b, cap, cs, T', hb, hl, hm, rfl, hc, hs⟩ | ⟨hb, rfl, rfl⟩ <;> exact ⟨_, by simp [execOp, resolve, invoke, builtin, Builtin.len_, hv, goInt, run_underlying (QbX hT he)]; try rfl, .d _ _ (.v _)⟩
theorem Qim {u : Operand} {T : TypeId} {F : TyF} {s : ByteArray} (hT : tyf P T = some F) (he : F.str = true) (hu : aval env u = .d (.v (.string s))) :
 Loc P ⟨dst, .call ⟨.builtin .len, #[u], #[T]⟩, ty, pos, after, gd⟩ env H (.d (.v (.int .i64 s.size))) none :=
 QbD fun σ S H' a w _ hop _ => by
  have h := AV.conc_rel (hop u (by simp [Op.operands, Call.operands])) (y := .string s) (by rw [hu]; rfl);exact ⟨_, by simp [execOp, resolve, invoke, builtin, Builtin.len_, h, goInt, run_underlying (Qds hT he)]; try rfl, .d _ _ (.v _)⟩
end
def Pure (P : Program) (f : FuncId) (args : List D) (x : D) : Prop :=
 ∀ (B : Bs) (σ : Sg) (S : Nat -> Prop) (H : List Blk) (w : World) (cargs : List Value), Gd B -> Sm B σ S H w -> args.length = cargs.length -> (∀ (i : Nat) d v, args[i]? = some d -> cargs[i]? = some v -> RelD S w d v) ->
   Calls P f cargs.toArray w fun e w' => ∃ v, e = .returned v /\ Below w.heap.size w w' /\ RelD (fun b => S b ∨ w.heap.size <= b /\ b < w'.heap.size) w' x v
theorem Sm.below {B : Bs} {σ : Sg} {S : Nat -> Prop} {H : List Blk} {w w' : World} (h : Sm B σ S H w) (hb : Below w.heap.size w w') :
 Sm B σ (fun b => S b ∨ w.heap.size <= b /\ b < w'.heap.size) H w' /\ Ev σ S H w σ (fun b => S b ∨ w.heap.size <= b /\ b < w'.heap.size) H w' := by
 have hlt : ∀ k C b, H[k]? = some C -> σ k = some b -> b < w.heap.size := fun k C b hC hb => (h.σUp k b (List.getElem?_eq_some_iff.1 hC).1 hb).1
 have e0 : Ev σ S H w σ S H w' := Ev.more (fun b hS => hb.block b (h.sUp b hS).1) (fun k C hC _ => ⟨hC, rfl, fun b hbb => hb.block b (hlt k C b hC hbb)⟩);have e : Ev σ S H w σ (fun b => S b ∨ w.heap.size <= b /\ b < w'.heap.size) H w' := ⟨fun b hS => .inl hS, e0.same, e0.row, e0.arr, e0.mp⟩
 refine ⟨⟨hb.os.trans h.os, hb.tape.trans h.tape, hb.output.trans h.output, Nat.le_trans h.size hb.size, fun b hlt hn => (hb.block b (by have := h.size; omega)).trans (h.keep b hlt hn), fun b hS => .inl (h.sLo b hS), fun b hS => ?_,
  fun k b hk hbb => ?_, h.inj, fun k C hC => (h.blk k C hC).mono e rfl fun b hbb => hb.block b (hlt k C b hC hbb)⟩, e⟩
 ·rcases hS with hS | ⟨h1, h2⟩
  ·obtain ⟨h3, h4⟩ := h.sUp b hS
   exact ⟨by have := hb.size; omega, h4⟩
  ·exact ⟨h2, .inr (.inr (by have := h.size; omega))⟩
 ·obtain ⟨h1, h2, h3⟩ := h.σUp k b hk hbb
  refine ⟨by have := hb.size; omega, fun hS => ?_, h3⟩;rcases hS with hS | ⟨h4, _⟩
  ·exact h2 hS
  ·omega
theorem QhZ {σ : Sg} {S : Nat -> Prop} {H : List Blk} {w : World} {env : List (Nat × AV)} {a : Act} {xs : List Operand} {ds : List D} (hd : allD (xs.map (aval env)) = some ds)
 (h : ∀ u ∈ xs, Rel σ S H w (aval env u) (a.eval u)) : ds.length = (xs.map a.eval).length /\ ∀ (i : Nat) d v, ds[i]? = some d -> (xs.map a.eval)[i]? = some v -> RelD S w d v := by
 have he := Qd5 hd;have hlen : ds.length = xs.length := by have := congrArg List.length he; simpa using this.symm
 refine ⟨by simp [hlen], fun i d v hi hv => ?_⟩;rw [List.getElem?_map] at hv;cases hx : xs[i]? with
 |none => rw [hx] at hv; cases hv
 |some u =>
  rw [hx] at hv; obtain rfl := Option.some.inj hv;have h1 := h u (List.mem_of_getElem? hx);have h2 : (xs.map (aval env))[i]? = (ds.map AV.d)[i]? := by rw [he]
  rw [List.getElem?_map, List.getElem?_map, hx, hi] at h2;simp only [Option.map_some, Option.some.injEq] at h2;rw [h2] at h1;cases h1; assumption
theorem Qbe {dst : Option Tmp} {ty : TypeId} {pos : String} {after : Array Edge} {gd : Option (Nat × Bool)} {env : List (Nat × AV)} {H : List Blk} {f : FuncId} {xs : Array Operand} {tys : Array TypeId} {ds : List D} {x : D}
 (hf : ∀ args w, (callFunc f args).run P w = .ok (.enter f args) w) (h : Pure P f ds x) (hd : allD (xs.toList.map (aval env)) = some ds) :
 Loc P ⟨dst, .call ⟨.value (.func f), xs, tys⟩, ty, pos, after, gd⟩ env H (.d x) none := by
 intro B σ S H' a w hB hS hop _ _ K Q k;obtain ⟨h1, h2⟩ := QhZ (a := a) hd fun u hu => hop u (by simp only [Op.operands, Call.operands]; exact Array.mem_append_right _ (Array.mem_toList_iff.1 hu))
 have hrun : (execOp a.eval ⟨dst, .call ⟨.value (.func f), xs, tys⟩, ty, pos, after, gd⟩).run P w = .ok (.enter f (xs.toList.map a.eval).toArray) w := by
  have : execOp a.eval ⟨dst, .call ⟨.value (.func f), xs, tys⟩, ty, pos, after, gd⟩ = callFunc f (#[] ++ xs.map a.eval ++ #[]) := rfl;rw [this, hf]
  congr 2
  apply Array.ext';simp
 unfold Oper.wp;rw [hrun, Oper.upon_enter];refine (h B σ S H' w _ hB hS h1 h2).mono ?_;rintro e w' ⟨v, rfl, hb, hr⟩;obtain ⟨h3, h4⟩ := hS.below hb;exact k v w' σ _ h3 (.d _ _ hr) h4
def ASeq (P : Program) (ops : Array Oper) (Q : Exit -> St -> Prop) (l : List Oper) (s : St) : Prop := ∀ B, Gd B -> ∀ σ S a w, SmA B σ S s a w -> wpList P ops (Lift B Q) l a w
theorem Qb0 {ops : Array Oper} {Q : Exit -> St -> Prop} {s : St} (h : Q .normal s) : ASeq P ops Q [] s := fun _ _ σ S _ _ hA => ⟨s, σ, S, h, hA⟩
theorem SmA.next {B : Bs} {σ σ' : Sg} {S S' : Nat -> Prop} {s : St} {a : Act} {w w' : World} {o : Oper} {x : AV} {nb : Option Blk} {v : Value} (h : SmA B σ S s a w) (hd : dstOk s.n o.dst = true)
 (hS : Sm B σ' S' (s.H ++ nb.toList) w') (hR : Rel σ' S' (s.H ++ nb.toList) w' x v) (hev : Ev σ S s.H w σ' S' (s.H ++ nb.toList) w') : SmA B σ' S' (s.next o x nb) (a.put o.dst v) w' := by
 refine ⟨hS, by cases hdd : o.dst <;> exact h.defers, ?_, fun t => ?_⟩
 ·cases hdd : o.dst
  ·exact h.size
  ·simp only [Act.put, Array.size_setIfInBounds]; exact h.size
 ·show Rel _ _ _ _ (look (putE s.env o.dst x) t) _
  cases hdd : o.dst with
  |none => exact (h.env t).mono hev
  |some d =>
   rw [hdd] at hd;have hlt : d < a.tmps.size := by rw [h.size]; simpa [dstOk] using hd
   by_cases hdt : d = t
   ·subst hdt
    have : (a.put (some d) v).tmps.getD d undef = v := by
     simp only [Act.put];rw [Array.getD_eq_getD_getElem?, Array.getElem?_setIfInBounds_self_of_lt hlt]; rfl
    rw [this];show Rel _ _ _ _ (look ((d, x) :: s.env) d) _;rw [QbM]; exact hR
   ·have : (a.put (some d) v).tmps.getD t undef = a.tmps.getD t undef := by
     simp only [Act.put];rw [Array.getD_eq_getD_getElem?, Array.getElem?_setIfInBounds_ne hdt, <- Array.getD_eq_getD_getElem?]
    rw [this];show Rel _ _ _ _ (look ((d, x) :: s.env) t) _;rw [QbU hdt];exact (h.env t).mono hev
theorem Qeb {ops : Array Oper} {o : Oper} {B : Bs} {σ : Sg} {S : Nat -> Prop} {s : St} {a : Act} {w : World} {b : Bool} (h : SmA B σ S s a w) (hw : awanted ops s.env o = some b)
 (hg : ∀ j want d, o.guard = some (j, want) -> (ops[j]?).bind (·.dst) = some d -> d < s.n) : Region.wanted o (yielded ops a.tmps) = b :=
 Qe6 hw fun j want d hgu hd => ⟨by rw [h.size]; exact hg j want d hgu hd, h.env d⟩
def gdOk (ops : Array Oper) (n : Nat) (o : Oper) : Bool :=
 match o.guard with
 |none => true
 |some (j, _) => match (ops[j]?).bind (·.dst) with
  |some d => Nat.blt d n
  |none => true
theorem QcX {ops : Array Oper} {n : Nat} {o : Oper} (h : gdOk ops n o = true) : ∀ j want d, o.guard = some (j, want) -> (ops[j]?).bind (·.dst) = some d -> d < n := by
 intro j want d hg hd;unfold gdOk at h;rw [hg] at h;simp only [hd] at h;simpa using h
theorem Qj1 {ops : Array Oper} {Q : Exit -> St -> Prop} {o : Oper} {l : List Oper} {s : St} {x : AV} {nb : Option Blk} (hl : Loc P o s.env s.H x nb) (hd : dstOk s.n o.dst = true) (hg : gdOk ops s.n o = true)
 (hw : awanted ops s.env o = some true) (h : ASeq P ops Q l (s.next o x nb)) : ASeq P ops Q (o :: l) s := by
 intro B hB σ S a w hA;unfold wpList;rw [if_pos (Qeb hA hw (QcX hg))];refine .inl ?_;cases nb with
 |none =>
  refine hl B σ S s.H a w hB hA.sm (fun u _ => Qc7 fun t _ => hA.env t) (fun k C hC => .inl hC) (fun C hC => by cases hC) _ _ fun v w' σ' S' h1 h2 h3 => ?_
  exact h B hB σ' S' _ w' (hA.next (nb := none) hd (by simpa [setNb] using h1) (by simpa [setNb] using h2) (by simpa [setNb] using h3))
 |some C =>
  obtain ⟨h4, h5⟩ := hA.sm.keepPlace
  refine hl B _ S (s.H ++ [Blk.none]) a w hB h4 (fun u _ => Qc7 fun t _ => (hA.env t).mono h5) (fun k C hC => .inl (by rw [List.getElem?_append_left (List.getElem?_eq_some_iff.1 hC).1]; exact hC))
   (fun C _ => by rw [List.getElem?_append_right (Nat.le_refl _)]; simp) _ _ fun v w' σ' S' h1 h2 h3 => ?_
  have hset : setNb (s.H ++ [Blk.none]) s.H.length (some C) = s.H ++ [C] := by
   simp only [setNb];rw [List.set_append_right _ _ (Nat.le_refl _)]; simp
  rw [hset] at h1 h2 h3;refine h B hB σ' S' _ w' (hA.next (nb := some C) hd (by simpa using h1) (by simpa using h2) ?_)
  have h6 : Ev σ S s.H w σ' S' (s.H ++ [C]) w' :=
   ⟨fun b hb => h3.s b (h5.s b hb), fun b hb => h3.same b (h5.s b hb), fun k g cells hk => by
     obtain ⟨g1, c1, e1, e2, e3⟩ := h5.row k g cells hk;obtain ⟨g2, c2, e4, e5, e6⟩ := h3.row k g1 c1 e1;exact ⟨g2, c2, e4, by omega, fun e b hb => e6 (by omega) b (e3 (by omega) b hb)⟩,
    fun k g sz T rows hk => by
     obtain ⟨g1, c1, e1, e2, e3⟩ := h5.arr k g sz T rows hk;obtain ⟨g2, c2, e4, e5, e6⟩ := h3.arr k g1 sz T c1 e1;refine ⟨g2, c2, e4, by omega, fun e => ?_⟩;obtain ⟨f1, f2, f3⟩ := e3 (by omega);obtain ⟨f4, f5, f6⟩ := e6 (by omega);refine ⟨f4.trans f1, by omega, fun b cs T hb hc => ?_⟩;obtain ⟨cs1, g3, g4⟩ := f3 b cs T hb hc;obtain ⟨cs2, g5, g6⟩ := f6 b cs1 T (f1.trans hb) g3;exact ⟨cs2, g5, by omega⟩,
    fun k g l hk => by
     obtain ⟨g1, c1, e1, e2, e3⟩ := h5.mp k g l hk;obtain ⟨g2, c2, e4, e5, e6⟩ := h3.mp k g1 c1 e1
     exact ⟨g2, c2, e4, by omega, fun e b hb => e6 (by omega) b (e3 (by omega) b hb)⟩⟩
  simpa using h6
theorem Qml {ops : Array Oper} {Q : Exit -> St -> Prop} {o : Oper} {l : List Oper} {s : St} (hw : awanted ops s.env o = some false) (hd : dstOk s.n o.dst = true) (hg : gdOk ops s.n o = true)
 (h : ASeq P ops Q l (s.next o (.d (.v undef)) none)) : ASeq P ops Q (o :: l) s := by
 intro B hB σ S a w hA;unfold wpList;rw [if_neg (by rw [Qeb hA hw (QcX hg)]; simp)];exact h B hB σ S _ w (hA.next (nb := none) hd (by simpa using hA.sm) (.d _ _ (.v _)) (by simpa using Ev.refl σ S s.H w))
theorem Qbc {id : Nat} {l : List Oper} {Q : Exit -> St -> Prop} {s : St} (h : ASeq P l.toArray Q l s) : AWP P (.region id l.toArray false) Q s :=
 fun B hB σ S a w hA => wp_region_lit (h B hB σ S a w hA)
theorem QhO {ops : Array Oper} {K : St -> Prop} {o : Oper} {l : List Oper} {s : St} {x : AV} {nb : Option Blk} (hl : Loc P o s.env s.H x nb) (hd : dstOk s.n o.dst = true)
 (hw : awanted ops s.env o = some true) (h : ADraw P ops K l (s.next o x nb)) : ADraw P ops K (o :: l) s := ⟨x, nb, ⟨hd, .inr ⟨hw, hl⟩⟩, h⟩
theorem Qk3 {ops : Array Oper} {K : St -> Prop} {o : Oper} {l : List Oper} {s : St} (hw : awanted ops s.env o = some false) (hd : dstOk s.n o.dst = true)
 (h : ADraw P ops K l (s.next o (.d (.v undef)) none)) : ADraw P ops K (o :: l) s := ⟨_, _, ⟨hd, .inl ⟨hw, rfl, rfl⟩⟩, h⟩
def thenA (K : St -> Prop) (Q : Exit -> St -> Prop) : Exit -> St -> Prop
 |.normal, s => K s
 |e, s => Q e s
def blockA (id : Nat) (Q : Exit -> St -> Prop) : Exit -> St -> Prop
 |.exit id', s => if id' = id then Q .normal s else Q (.exit id') s
 |e, s => Q e s
theorem awp_seq {x y : Code} {Q : Exit -> St -> Prop} {s : St} (h : ∀ K : St -> Prop, (∀ s, AWP P y Q s -> K s) -> AWP P x (thenA K Q) s) : AWP P (.seq x y) Q s := by
 intro B hB σ S a w hA;refine wp_seq (wp_mono (h (AWP P y Q) (fun _ h => h) B hB σ S a w hA) ?_);rintro e a w ⟨s', σ', S', hq, hA'⟩;cases e with
 |normal => exact hq B hB σ' S' a w hA'
 |_ => exact ⟨s', σ', S', hq, hA'⟩
theorem Qbj {Q : Exit -> St -> Prop} {s : St} (h : Q .normal s) : AWP P .skip Q s := fun _ _ σ S _ _ hA => wp_skip ⟨s, σ, S, h, hA⟩
theorem Qbq {id : Nat} {Q : Exit -> St -> Prop} {s : St} (h : Q (.exit id) s) : AWP P (.exit id) Q s := fun _ _ σ S _ _ hA => wp_exit ⟨s, σ, S, h, hA⟩
theorem Qf6 {Q : Exit -> St -> Prop} {s : St} (h : Q .ret s) : AWP P .ret Q s := fun _ _ σ S _ _ hA => wp_ret ⟨s, σ, S, h, hA⟩
theorem QgG {c : Operand} {x y : Code} {b : Bool} {Q : Exit -> St -> Prop} {s : St} (hc : aval s.env c = .d (.v (.bool b))) (ht : b = true -> AWP P x Q s) (hf : b = false -> AWP P y Q s) : AWP P (.cond c x y) Q s := by
 intro B hB σ S a w hA;have h := AV.conc_rel (Qc7 (u := c) fun t _ => hA.env t) (y := .bool b) (by rw [hc]; rfl);exact wp_cond_split h (fun e => ht e B hB σ S a w hA) (fun e => hf e B hB σ S a w hA)
theorem Qbi {id : Nat} {c : Code} {Q : Exit -> St -> Prop} {s : St} (h : AWP P c (blockA id Q) s) : AWP P (.block id c) Q s := by
 intro B hB σ S a w hA;refine wp_block (wp_mono (h B hB σ S a w hA) ?_);rintro e a w ⟨s', σ', S', hq, hA'⟩;cases e with
 |exit id' =>
  simp only [blockA] at hq;simp only [Exit.inBlock];split
  ·rename_i h; rw [if_pos h] at hq; exact ⟨s', σ', S', hq, hA'⟩
  ·rename_i h; rw [if_neg h] at hq; exact ⟨s', σ', S', hq, hA'⟩
 |_ => exact ⟨s', σ', S', hq, hA'⟩
def Weak (s s' : St) : Prop := ∀ B σ S a w, SmA B σ S s a w -> ∃ σ' S', SmA B σ' S' s' a w
theorem Weak.trans {s s' s'' : St} (h : Weak s s') (h' : Weak s' s'') : Weak s s'' := fun B σ S a w hA => let ⟨σ', S', h1⟩ := h B σ S a w hA; h' B σ' S' a w h1
theorem Qet {c : Code} {Q : Exit -> St -> Prop} {s s' : St} (h : Weak s s') (hc : AWP P c Q s') : AWP P c Q s := fun B hB σ S a w hA => let ⟨σ', S', h1⟩ := h B σ S a w hA; hc B hB σ' S' a w h1
theorem Qnu {c : Code} {Q : Exit -> St -> Prop} {s s0 : St} (I : Nat -> St -> Prop) (n0 : Nat) (hw : Weak s s0) (h0 : I n0 s0)
 (round : ∀ n s, I n s -> AWP P c (thenA (fun s' => ∃ s1 n1, Weak s' s1 /\ n1 < n /\ I n1 s1) Q) s) : AWP P (.loop c) Q s := by
 intro B hB σ S a w hA;obtain ⟨σ0, S0, hA0⟩ := hw B σ S a w hA;refine wp_loop_ghost (fun n a w => ∃ s σ S, I n s /\ SmA B σ S s a w) n0 ⟨s0, σ0, S0, h0, hA0⟩ ?_;rintro n a w ⟨s, σ, S, hI, hA⟩;refine wp_mono (round n s hI B hB σ S a w hA) ?_;rintro e a w ⟨s', σ', S', hq, hA'⟩;cases e with
 |normal =>
  obtain ⟨s1, n1, h1, h2, h3⟩ := hq;obtain ⟨σ2, S2, hA2⟩ := h1 B σ' S' a w hA';exact ⟨n1, h2, s1, σ2, S2, h3, hA2⟩
 |_ => exact ⟨s', σ', S', hq, hA'⟩
def keepE (env : List (Nat × AV)) : List Nat -> List (Nat × AV)
 |[] => []
 |t :: r => (t, look env t) :: keepE env r
theorem QfO (env : List (Nat × AV)) : ∀ (ts : List Nat) (t : Nat), look (keepE env ts) t = look env t ∨ look (keepE env ts) t = .d .any
 |[], _ => .inr rfl
 |u :: r, t => by
  by_cases h : u = t
  ·subst h; exact .inl (QbM _ _ _)
  ·have : look (keepE env (u :: r)) t = look (keepE env r) t := QbU h _ _
   rw [this]; exact QfO env r t
def envLt (m : Nat) : List (Nat × AV) -> Bool
 |[] => true
 |(_, x) :: r => x.lt m && envLt m r
theorem QfX {m : Nat} : ∀ {env : List (Nat × AV)} (_ : envLt m env = true) (t : Nat), (look env t).lt m = true
 |[], _, _ => rfl
 |(u, x) :: r, h, t => by
  simp only [envLt, Bool.and_eq_true] at h
  by_cases hu : u = t
  ·subst hu; rw [QbM]; exact h.1
  ·rw [QbU hu]; exact QfX h.2 t
theorem Qea (ts : List Nat) (m : Nat) {n : Nat} {env env' : List (Nat × AV)} {H H' : List Blk} (he : keepE env ts = env') (hH : H.take m = H') (h1 : envLt m env' = true) (h2 : H'.all (Blk.lt m) = true) : Weak ⟨n, env, H⟩ ⟨n, env', H'⟩ := by
 subst he; subst hH;intro B σ S a w hA;obtain ⟨h3, h4⟩ := hA.sm.drop m h2;refine ⟨σ, S, h3, hA.defers, hA.size, fun t => ?_⟩;rcases QfO env ts t with h | h
 ·have := QfX h1 t
  simp only at this ⊢;rw [h] at this ⊢;exact h4 _ _ (hA.env t) this
 ·simp only; rw [h]; exact .d _ _ (.any _)
def frzE (k : Nat) (C : Blk) : List (Nat × AV) -> List (Nat × AV)
 |[] => []
 |(t, x) :: r => (t, x.frz k C) :: frzE k C r
theorem Qfm (k : Nat) (C : Blk) : ∀ (env : List (Nat × AV)) (t : Nat), look (frzE k C env) t = (look env t).frz k C
 |[], _ => rfl
 |(u, x) :: r, t => by
  by_cases h : u = t
  ·subst h; rw [QbM]; exact QbM _ _ _
  ·rw [QbU h]
   have : look (frzE k C ((u, x) :: r)) t = look (frzE k C r) t := QbU h _ _;rw [this]; exact Qfm k C r t
theorem QdO (k : Nat) {C : Blk} {n : Nat} {env : List (Nat × AV)} {H : List Blk} (hC : H[k]? = some C) : Weak ⟨n, env, H⟩ ⟨n, frzE k C env, (H.set k C.dead).map (Blk.frz k C)⟩ := by
 intro B σ S a w hA;obtain ⟨σ', S', h1, h2⟩ := hA.sm.freeze hC;exact ⟨σ', S', h1, hA.defers, hA.size, fun t => by simp only; rw [Qfm]; exact h2 _ _ (hA.env t)⟩
def parE : Nat -> List D -> List (Nat × AV)
 |_, [] => []
 |i, d :: r => (i, .d d) :: parE (i + 1) r
theorem Qfl : ∀ (l : List D) (i t : Nat), (∃ d, i <= t /\ l[t - i]? = some d /\ look (parE i l) t = .d d) ∨ look (parE i l) t = .d .any
 |[], _, _ => .inr rfl
 |d :: r, i, t => by
  by_cases h : i = t
  ·subst h; exact .inl ⟨d, Nat.le_refl _, by simp, QbM _ _ _⟩
  ·have hl : look (parE i (d :: r)) t = look (parE (i + 1) r) t := QbU h _ _
   rw [hl];rcases Qfl r (i + 1) t with ⟨d', h1, h2, h3⟩ | h
   ·refine .inl ⟨d', by omega, ?_, h3⟩
    have : t - i = (t - (i + 1)) + 1 := by omega
    rw [this, List.getElem?_cons_succ]; exact h2
   ·exact .inr h
def rvA (env : List (Nat × AV)) : ResultVar -> AV
 |.tmp t => look env t
 |.cell _ _ => .tup []
def rvV (tmps : Array Value) : ResultVar -> Value
 |.tmp t => tmps.getD t undef
 |.cell _ _ => undef
def rvS (tmps : Array Value) : ResultVar -> Sem Value
 |.tmp t => pure (tmps.getD t undef)
 |.cell a t => do loadVar t (<- asAddr (tmps.getD a undef))
theorem QcQ (fn : Func) (tmps : Array Value) : results fn tmps = (do
 let vs <- fn.results.mapM (rvS tmps)
 pure (if h : vs.size = 1 then vs[0] else .tuple vs)) := by
 unfold results;rfl
def resD (env : List (Nat × AV)) : List ResultVar -> Option D
 |[.tmp t] => match look env t with
  |.d x => some x
  |_ => none
 |rs => (allD (rs.map (rvA env))).map .tup
def EndD (rs : List ResultVar) (x : D) : Exit -> St -> Prop
 |.normal, s | .ret, s => resD s.env rs = some x
 |_, _ => False
theorem QeB (tmps : Array Value) (w : World) : ∀ (rs : List ResultVar) (env : List (Nat × AV)) (ds : List D), allD (rs.map (rvA env)) = some ds ->
 (rs.mapM (rvS tmps)).run P w = .ok (rs.map (rvV tmps)) w
 |[], _, _, _ => by simp
 |.tmp t :: rs, env, ds, h => by
  simp only [List.map_cons, rvA] at h;cases hl : look env t with
  |d x =>
   rw [hl] at h;simp only [allD] at h;cases hr : allD (rs.map (rvA env)) with
   |none => rw [hr] at h; cases h
   |some ds' =>
    have ih := QeB tmps w rs env ds' hr;rw [List.mapM_cons, Sem.run_bind];show ((Sem.pure (tmps.getD t undef)).run P w).andThen _ = _;rw [Sem.run_pure', Result.andThen_ok, Sem.run_bind, ih, Result.andThen_ok, Sem.run_pure];rfl
  |_ => rw [hl] at h; simp [allD] at h
 |.cell _ _ :: rs, env, ds, h => by simp [allD, rvA] at h
theorem Qbk {f : FuncId} {fn : Func} {c : Code} {args : List D} {x : D} {n : Nat} {rs : List ResultVar} (hf : P.funcs[f]? = some fn) (hb : fn.body = some c) (hn : fn.ntmps = n) (hrs : fn.results = rs.toArray) (hle : Nat.ble args.length n = true)
 (h : AWP P c (EndD rs x) ⟨n, parE 0 args, []⟩) : Pure P f args x := by
 have hlen : args.length <= n := Nat.le_of_ble_eq_true hle;intro B σ S H w cargs hB hS hl hr;refine calls_of_wp hf hb ?_;have hG := hB
 have hA : SmA ⟨w, B.G, fun _ => False, S⟩ (fun _ => none) S ⟨n, parE 0 args, []⟩ { tmps := cargs.toArray ++ Array.replicate (fn.ntmps - cargs.toArray.size) undef, defers := [] } w := by
  refine ⟨⟨rfl, rfl, rfl, Nat.le_refl _, fun _ _ _ => rfl, fun _ h => h, fun b hb => ⟨(hS.sUp b hb).1, .inl hb⟩, fun k b hk => by simp at hk, fun k k' b hk => by simp at hk, fun k C hC => by simp at hC⟩, rfl, ?_, fun t => ?_⟩
  ·simp [hn]; omega
  ·rcases Qfl args 0 t with ⟨d, _, h2, h3⟩ | h
   ·simp only
    rw [h3];have ht : t < cargs.length := by rw [<- hl]; exact (List.getElem?_eq_some_iff.1 h2).1
    have : (cargs.toArray ++ Array.replicate (fn.ntmps - cargs.toArray.size) undef).getD t undef = cargs[t] := by
     rw [Array.getD_eq_getD_getElem?, Array.getElem?_append_left (by simpa using ht)];simp [ht]
    rw [this];exact .d _ _ (hr t d _ (by simpa using h2) (List.getElem?_eq_getElem ht))
   ·simp only
    rw [h]; exact .d _ _ (.any _)
 have hB' : Gd ⟨w, B.G, fun _ => False, S⟩ := hB.again hS S;refine wp_mono (h _ hB' _ _ _ _ hA) ?_;rintro e a w' ⟨s', σ', S', hq, hA'⟩
 have fin : resD s'.env rs = some x -> a.defers = [] /\ ∃ v, (results fn a.tmps).run P w' = .ok v w' /\ ∃ v', Ending.returned v = .returned v' /\ Below w.heap.size w w' /\ RelD (fun b => S b ∨ w.heap.size <= b /\ b < w'.heap.size) w' x v' := by
  intro hx;have hbel : Below w.heap.size w w' := ⟨hA'.sm.os, hA'.sm.tape, hA'.sm.output, hA'.sm.size, fun k hk => hA'.sm.keep k hk fun h => h⟩
  have hup : ∀ d v, RelD S' w' d v -> RelD (fun b => S b ∨ w.heap.size <= b /\ b < w'.heap.size) w' d v := fun d v h => h.mono (fun b hb => by
   obtain ⟨h1, h2⟩ := hA'.sm.sUp b hb;rcases h2 with h2 | h2 | h2
   ·exact .inl h2
   ·exact h2.elim
   ·exact .inr ⟨h2, h1⟩) fun _ _ => rfl
  refine ⟨hA'.defers, ?_⟩
  have gen : ∀ ds, allD (rs.map (rvA s'.env)) = some ds -> (fn.results.mapM (rvS a.tmps)).run P w' = .ok (rs.map (rvV a.tmps)).toArray w' := fun ds hds => by
   rw [hrs, Array.mapM_eq_mapM_toList, Sem.run_map, QeB a.tmps w' rs s'.env ds hds]; rfl
  have rel : ∀ ds, allD (rs.map (rvA s'.env)) = some ds -> ∀ (i : Nat) d v, ds[i]? = some d -> (rs.map (rvV a.tmps))[i]? = some v -> RelD S' w' d v := by
   intro ds hds i d v hd hv;have he := Qd5 hds;have h2 := congrArg (fun l => l[i]?) he;simp only [List.getElem?_map, hd] at h2 hv;cases hri : rs[i]? with
   |none => rw [hri] at hv; cases hv
   |some r =>
    rw [hri] at hv h2;cases r with
    |tmp t =>
     simp only [Option.map_some, Option.some.injEq, rvA, rvV] at hv h2;subst hv;have := hA'.env t;rw [h2] at this;cases this; assumption
    |cell _ _ => simp [rvA] at h2
  have hlen' : ∀ ds, allD (rs.map (rvA s'.env)) = some ds -> ds.length = (rs.map (rvV a.tmps)).length := fun ds hds => by
   have := congrArg List.length (Qd5 hds);simpa using this.symm
  rw [QcQ]
  by_cases h1 : rs.length = 1
  ·match rs, h1 with
   |[.tmp t], _ =>
    simp only [resD] at hx;cases hlk : look s'.env t with
    |d y =>
     rw [hlk] at hx; obtain rfl := Option.some.inj hx;have hds : allD ([ResultVar.tmp t].map (rvA s'.env)) = some [y] := by simp [hlk, allD, rvA]
     refine ⟨a.tmps.getD t undef, ?_, _, rfl, hbel, hup _ _ (rel _ hds 0 y _ rfl rfl)⟩;rw [Sem.run_bind, gen _ hds];rfl
    |_ => rw [hlk] at hx; cases hx
   |[.cell _ _], _ => simp [resD, allD, rvA] at hx
  ·have hx' : (allD (rs.map (rvA s'.env))).map D.tup = some x := by
    unfold resD at hx;split at hx
    ·simp at h1
    ·exact hx
   cases hds : allD (rs.map (rvA s'.env)) with
   |none => rw [hds] at hx'; cases hx'
   |some ds =>
    rw [hds] at hx'; obtain rfl := Option.some.inj hx';refine ⟨.tuple (rs.map (rvV a.tmps)).toArray, ?_, _, rfl, hbel, .tup ds _ (hlen' ds hds) fun i d v hd hv => hup _ _ (rel _ hds i d v hd hv)⟩;rw [Sem.run_bind, gen _ hds];simp [h1]
 cases e with
 |normal => exact fin hq
 |ret => exact fin hq
 |_ => exact hq.elim
variable {P : Program}
class Ty (P : Program) (T : TypeId) (F : outParam TyF) : Prop where
 h : tyf P T = some F
class TyBool (P : Program) (T : TypeId) : Prop where
 h : P.underlying T = some .bool
def cmpI (op : BinOp) (a b : Int) : Option Bool :=
 match op with
 |.eql => some (a == b)
 |.neq => some (a != b)
 |.lss => some (decide (a < b))
 |.leq => some (decide (a <= b))
 |.gtr => some (decide (a > b))
 |.geq => some (decide (a ≥ b))
 |_ => none
theorem Qd6 (l : List UInt8) : (⟨l.toArray⟩ : ByteArray).size = l.length := by show l.toArray.size = _; simp
theorem loop_go (b : ByteArray) : ∀ (n i : Nat) (r : List UInt8), n = b.size - i -> ByteArray.toList.loop b i r = r.reverse ++ b.data.toList.drop i := by
 intro n;induction n with
 |zero =>
  intro i r h;unfold ByteArray.toList.loop;rw [if_neg (by omega)];have : b.data.toList.length <= i := by simp only [Array.length_toList]; have : b.data.size = b.size := rfl; omega
  rw [List.drop_of_length_le this]; simp
 |succ n ih =>
  intro i r h;unfold ByteArray.toList.loop;have hi : i < b.size := by omega
  rw [if_pos hi, ih (i + 1) _ (by omega)];have hil : i < b.data.toList.length := by simp only [Array.length_toList]; exact hi
  rw [List.drop_eq_getElem_cons hil]
  have hg : b.get! i = b.data.toList[i] := by
   show b.data[i]! = _;have : i < b.data.size := hi;rw [getElem!_pos b.data i this]; simp
  simp [hg]
theorem Qgj (l : List UInt8) : (⟨l.toArray⟩ : ByteArray).toList = l := by
 unfold ByteArray.toList;rw [loop_go _ _ 0 [] rfl]; simp
section
variable {dst : Option Tmp} {ty : TypeId} {pos : String} {after : Array Edge} {gd : Option (Nat × Bool)} {env : List (Nat × AV)} {H : List Blk}
theorem loc_bin' {op : BinOp} {T T' : TypeId} {x y : Operand} {X Y z : Value} (hx : (aval env x).conc = some X) (hy : (aval env y).conc = some Y)
 (h : ∀ w, (do eqGuard op T x y X Y; binOp op T X Y : Sem Value).run P w = .ok z w) :
 Loc P ⟨dst, .binOp op T x y T', ty, pos, after, gd⟩ env H (.d (.v z)) none :=
 QbD fun σ S H' a w _ hop _ => by
  have h1 := AV.conc_rel (hop x (by simp [Op.operands])) hx;have h2 := AV.conc_rel (hop y (by simp [Op.operands])) hy;refine ⟨z, ?_, .d _ _ (.v _)⟩;simp only [execOp, h1, h2];rw [Sem.run_bind, h w]; rfl
theorem QcW (op : BinOp) (T : TypeId) (x y : Operand) (k k' : IntKind) (a b : Int) (w : World) : (eqGuard op T x y (.int k a) (.int k' b)).run P w = .ok () w := by
 unfold eqGuard; cases op <;> rfl
theorem Qej (op : BinOp) (T : TypeId) (x y : Operand) (a b : ByteArray) (w : World) : (eqGuard op T x y (.string a) (.string b)).run P w = .ok () w := by
 unfold eqGuard; cases op <;> rfl
theorem Qkf (op : BinOp) (T : TypeId) (x y : Operand) (a b : Bool) (w : World) : (eqGuard op T x y (.bool a) (.bool b)).run P w = .ok () w := by
 unfold eqGuard; cases op <;> rfl
theorem loc_cmp {op : BinOp} {T T' : TypeId} {x y : Operand} {k : IntKind} {a b : Int} {r : Bool} (hx : aval env x = .d (.v (.int k a))) (hy : aval env y = .d (.v (.int k b))) (hr : cmpI op a b = some r) :
 Loc P ⟨dst, .binOp op T x y T', ty, pos, after, gd⟩ env H (.d (.v (.bool r))) none :=
 loc_bin' (X := .int k a) (Y := .int k b) (by rw [hx]; rfl) (by rw [hy]; rfl) fun w => by
  rw [Sem.run_bind, QcW, Result.andThen_ok];cases op <;> simp only [cmpI, Option.some.injEq] at hr <;> first | (subst hr; show (if k ≠ k then _ else Op.intCmp _ a b).run P w = _; rw [if_neg (by simp)]; rfl) | cases hr
theorem Qbs {T T' : TypeId} {x y : Operand} {a b : Int} (hx : aval env x = .d (.v (.int .i64 a))) (hy : aval env y = .d (.v (.int .i64 b))) (h : -9223372036854775808 <= a + b /\ a + b <= 9223372036854775807) :
 Loc P ⟨dst, .binOp .add T x y T', ty, pos, after, gd⟩ env H (.d (.v (.int .i64 (a + b)))) none :=
 loc_bin' (X := .int .i64 a) (Y := .int .i64 b) (by rw [hx]; rfl) (by rw [hy]; rfl) fun w => by
  rw [Sem.run_bind, QcW, Result.andThen_ok];simp [binOp, Op.intArith, Pm.Qev (a + b) h.1 h.2]
theorem QbB {T T' : TypeId} {x y : Operand} {a b : Int} (hx : aval env x = .d (.v (.int .i64 a))) (hy : aval env y = .d (.v (.int .i64 b))) (h : -9223372036854775808 <= a - b /\ a - b <= 9223372036854775807) :
 Loc P ⟨dst, .binOp .sub T x y T', ty, pos, after, gd⟩ env H (.d (.v (.int .i64 (a - b)))) none :=
 loc_bin' (X := .int .i64 a) (Y := .int .i64 b) (by rw [hx]; rfl) (by rw [hy]; rfl) fun w => by
  rw [Sem.run_bind, QcW, Result.andThen_ok];simp [binOp, Op.intArith, Pm.Qev (a - b) h.1 h.2]
theorem Qdw {T T' : TypeId} {x y : Operand} {a b : Int} (hx : aval env x = .d (.v (.int .i64 a))) (hy : aval env y = .d (.v (.int .i64 b))) (h : -9223372036854775808 <= a * b /\ a * b <= 9223372036854775807) :
 Loc P ⟨dst, .binOp .mul T x y T', ty, pos, after, gd⟩ env H (.d (.v (.int .i64 (a * b)))) none :=
 loc_bin' (X := .int .i64 a) (Y := .int .i64 b) (by rw [hx]; rfl) (by rw [hy]; rfl) fun w => by
  rw [Sem.run_bind, QcW, Result.andThen_ok];simp [binOp, Op.intArith, Pm.Qev (a * b) h.1 h.2]
theorem Qij {T T' : TypeId} {x y : Operand} {a b : Int} (hx : aval env x = .d (.v (.int .i64 a))) (hy : aval env y = .d (.v (.int .i64 b))) (ha : 0 <= a /\ a <= 9223372036854775807) (hb : 0 < b) :
 Loc P ⟨dst, .binOp .quo T x y T', ty, pos, after, gd⟩ env H (.d (.v (.int .i64 (a / b)))) none :=
 loc_bin' (X := .int .i64 a) (Y := .int .i64 b) (by rw [hx]; rfl) (by rw [hy]; rfl) fun w => by
  rw [Sem.run_bind, QcW, Result.andThen_ok];have h1 : a.tdiv b = a / b := Int.tdiv_eq_ediv_of_nonneg ha.1;have h2 : 0 <= a / b := Int.ediv_nonneg ha.1 (by omega);have h3 : a / b <= a := Int.ediv_le_self b ha.1;simp [binOp, Op.intDiv, show b ≠ 0 by omega, h1, Pm.Qev (a / b) (by omega) (by omega)]
theorem Qcj {T T' : TypeId} {x y : Operand} {l m : List UInt8} (hx : aval env x = .d (.v (.string ⟨l.toArray⟩))) (hy : aval env y = .d (.v (.string ⟨m.toArray⟩))) :
 Loc P ⟨dst, .binOp .eql T x y T', ty, pos, after, gd⟩ env H (.d (.v (.bool (l == m)))) none :=
 loc_bin' (X := .string ⟨l.toArray⟩) (Y := .string ⟨m.toArray⟩) (by rw [hx]; rfl) (by rw [hy]; rfl) fun w => by
  rw [Sem.run_bind, Qej, Result.andThen_ok];simp only [binOp, Op.stringOp, Qgj]; rfl
theorem QbH {T T' : TypeId} {x y : Operand} {l m : List UInt8} (hx : aval env x = .d (.v (.string ⟨l.toArray⟩))) (hy : aval env y = .d (.v (.string ⟨m.toArray⟩))) :
 Loc P ⟨dst, .binOp .neq T x y T', ty, pos, after, gd⟩ env H (.d (.v (.bool !(l == m)))) none :=
 loc_bin' (X := .string ⟨l.toArray⟩) (Y := .string ⟨m.toArray⟩) (by rw [hx]; rfl) (by rw [hy]; rfl) fun w => by
  rw [Sem.run_bind, Qej, Result.andThen_ok];simp only [binOp, Op.stringOp, Qgj]; rfl
theorem QfP {T T' : TypeId} {x y : Operand} {l m : List UInt8} (hx : aval env x = .d (.v (.string ⟨l.toArray⟩))) (hy : aval env y = .d (.v (.string ⟨m.toArray⟩))) :
 Loc P ⟨dst, .binOp .geq T x y T', ty, pos, after, gd⟩ env H (.d (.v (.bool !(Op.bytesLess l m)))) none :=
 loc_bin' (X := .string ⟨l.toArray⟩) (Y := .string ⟨m.toArray⟩) (by rw [hx]; rfl) (by rw [hy]; rfl) fun w => by
  rw [Sem.run_bind, Qej, Result.andThen_ok];simp only [binOp, Op.stringOp, Qgj]; rfl
theorem QbJ {T T' : TypeId} {x y : Operand} {l m : List UInt8} (hx : aval env x = .d (.v (.string ⟨l.toArray⟩))) (hy : aval env y = .d (.v (.string ⟨m.toArray⟩))) (h : l.length + m.length <= 9223372036854775807) :
 Loc P ⟨dst, .binOp .add T x y T', ty, pos, after, gd⟩ env H (.d (.v (.string ⟨(l ++ m).toArray⟩))) none :=
 loc_bin' (X := .string ⟨l.toArray⟩) (Y := .string ⟨m.toArray⟩) (by rw [hx]; rfl) (by rw [hy]; rfl) fun w => by
  rw [Sem.run_bind, Qej, Result.andThen_ok];exact Pm.Qcn l m h w
theorem Qcq {T T' : TypeId} {x y : Operand} {l m : Bool} (hT : P.underlying T = some .bool) (hx : aval env x = .d (.v (.bool l))) (hy : aval env y = .d (.v (.bool m))) :
 Loc P ⟨dst, .binOp .neq T x y T', ty, pos, after, gd⟩ env H (.d (.v (.bool !(l == m)))) none :=
 loc_bin' (X := .bool l) (Y := .bool m) (by rw [hx]; rfl) (by rw [hy]; rfl) fun w => by
  rw [Sem.run_bind, Qkf, Result.andThen_ok];show (Op.equalIn (9999 + 1) T (.bool l) (.bool m) >>= fun b => pure (Value.bool !b)).run P w = _;rw [Sem.run_bind, run_equalIn_bool' w 9999 T l m hT]; rfl
theorem QdB {T : TypeId} {F : TyF} {x y : Operand} {l : List UInt8} {κ : IntKind} {i : Int} {c : UInt8} (hT : tyf P T = some F) (hs : F.str = true) (hx : aval env x = .d (.v (.string ⟨l.toArray⟩))) (hy : aval env y = .d (.v (.int κ i))) (h0 : 0 <= i) (hc : l[i.toNat]? = some c) :
 Loc P ⟨dst, .index T x y, ty, pos, after, gd⟩ env H (.d (.v (.int .u8 c.toNat))) none :=
 QbD fun σ S H' a w _ hop _ => by
  have h1 := AV.conc_rel (hop x (by simp [Op.operands])) (y := .string ⟨l.toArray⟩) (by rw [hx]; rfl);have h2 := AV.conc_rel (hop y (by simp [Op.operands])) (y := .int κ i) (by rw [hy]; rfl);have hlt : i.toNat < l.length := (List.getElem?_eq_some_iff.1 hc).1
  have hb : (⟨l.toArray⟩ : ByteArray)[i.toNat]? = some c := by
   have hsz : i.toNat < (⟨l.toArray⟩ : ByteArray).size := by rw [Qd6]; exact hlt
   rw [getElem?_pos (⟨l.toArray⟩ : ByteArray) i.toNat hsz]
   congr 1
   show l.toArray[i.toNat] = c;have := (List.getElem?_eq_some_iff.1 hc).2;simpa using this
  exact ⟨_, by simp [execOp, h1, h2, Instr.index, asIntOf, run_underlying (Qds hT hs), h0, hb]; try rfl, .d _ _ (.v _)⟩
end
section
variable {ops : Array Oper} {Q : Exit -> St -> Prop} {K : St -> Prop} {l : List Oper} {n : Nat} {env : List (Nat × AV)} {H : List Blk} {d : Tmp} {op : Op} {ty : TypeId} {pos : String} {after : Array Edge} {gd : Option (Nat × Bool)} {x : AV} {C : Blk}
theorem s1 (hl : Loc P ⟨some d, op, ty, pos, after, gd⟩ env H x none) (hd : Nat.blt d n = true) (hg : gdOk ops n ⟨some d, op, ty, pos, after, gd⟩ = true) (hw : awanted ops env ⟨some d, op, ty, pos, after, gd⟩ = some true)
 (h : ASeq P ops Q l ⟨n, (d, x) :: env, H⟩) : ASeq P ops Q (⟨some d, op, ty, pos, after, gd⟩ :: l) ⟨n, env, H⟩ :=
 Qj1 hl hd hg hw (by simpa [St.next, putE] using h)
theorem s2 (hl : Loc P ⟨some d, op, ty, pos, after, gd⟩ env H x (some C)) (hd : Nat.blt d n = true) (hg : gdOk ops n ⟨some d, op, ty, pos, after, gd⟩ = true) (hw : awanted ops env ⟨some d, op, ty, pos, after, gd⟩ = some true)
 (h : ASeq P ops Q l ⟨n, (d, x) :: env, H ++ [C]⟩) : ASeq P ops Q (⟨some d, op, ty, pos, after, gd⟩ :: l) ⟨n, env, H⟩ :=
 Qj1 hl hd hg hw (by simpa [St.next, putE] using h)
theorem s0 (hw : awanted ops env ⟨some d, op, ty, pos, after, gd⟩ = some false) (hd : Nat.blt d n = true) (hg : gdOk ops n ⟨some d, op, ty, pos, after, gd⟩ = true)
 (h : ASeq P ops Q l ⟨n, (d, .d (.v undef)) :: env, H⟩) : ASeq P ops Q (⟨some d, op, ty, pos, after, gd⟩ :: l) ⟨n, env, H⟩ :=
 Qml hw hd hg (by simpa [St.next, putE] using h)
theorem d1 (hl : Loc P ⟨some d, op, ty, pos, after, gd⟩ env H x none) (hd : Nat.blt d n = true) (hw : awanted ops env ⟨some d, op, ty, pos, after, gd⟩ = some true)
 (h : ADraw P ops K l ⟨n, (d, x) :: env, H⟩) : ADraw P ops K (⟨some d, op, ty, pos, after, gd⟩ :: l) ⟨n, env, H⟩ :=
 QhO hl hd hw (by simpa [St.next, putE] using h)
theorem d2 (hl : Loc P ⟨some d, op, ty, pos, after, gd⟩ env H x (some C)) (hd : Nat.blt d n = true) (hw : awanted ops env ⟨some d, op, ty, pos, after, gd⟩ = some true)
 (h : ADraw P ops K l ⟨n, (d, x) :: env, H ++ [C]⟩) : ADraw P ops K (⟨some d, op, ty, pos, after, gd⟩ :: l) ⟨n, env, H⟩ :=
 QhO hl hd hw (by simpa [St.next, putE] using h)
theorem d0 (hw : awanted ops env ⟨some d, op, ty, pos, after, gd⟩ = some false) (hd : Nat.blt d n = true)
 (h : ADraw P ops K l ⟨n, (d, .d (.v undef)) :: env, H⟩) : ADraw P ops K (⟨some d, op, ty, pos, after, gd⟩ :: l) ⟨n, env, H⟩ :=
 Qk3 hw hd (by simpa [St.next, putE] using h)
end
def D.conc : D -> Option Value
 |.v x => some x
 |.agg l => (D.vals l).map fun vs => .agg vs.toArray
 |_ => none
def concL : List D -> Option (List Value)
 |[] => some []
 |d :: r => match d.conc, concL r with
  |some x, some xs => some (x :: xs)
  |_, _ => none
theorem Qdb {S : Nat -> Prop} {w : World} : ∀ {l : List D} {vs cs : List Value}, concL l = some vs -> l.length = cs.length -> (∀ (i : Nat) d v, l[i]? = some d -> cs[i]? = some v -> RelD S w d v) -> cs = vs
 |[], vs, cs, h, hl, _ => by
  simp [concL] at h; subst h;exact List.eq_nil_of_length_eq_zero (by simpa using hl.symm)
 |d :: r, vs, [], h, hl, _ => by simp at hl
 |d :: r, vs, c :: cs, h, hl, hr => by
  simp only [concL] at h;cases hd : d.conc with
  |none => rw [hd] at h; cases h
  |some x =>
   cases hv : concL r with
   |none => rw [hd, hv] at h; cases h
   |some xs =>
    rw [hd, hv] at h; obtain rfl := Option.some.inj h;have h0 := AV.conc_rel (σ := fun _ => none) (H := []) (.d _ _ (hr 0 d c rfl rfl)) (y := x) (by cases d <;> simp_all [D.conc, AV.conc]);subst h0;have h3 := Qdb (cs := cs) hv (by simpa using hl) fun i d x hd hx => hr (i + 1) d x (by simpa using hd) (by simpa using hx)
    rw [h3]
theorem QbI {f : FuncId} {args : List D} {vs : List Value} {x : Value} (ha : concL args = some vs)
 (h : ∀ w, Pm.Lt w -> Calls P f vs.toArray w fun e w' => e = .returned x /\ Below w.heap.size w w') : Pure P f args (D.ofV x) := by
 intro B σ S H w cargs hB hS hl hr;obtain rfl := Qdb ha hl hr;refine (h w (hB.ltOf hS)).mono ?_;rintro e w' ⟨rfl, hb⟩;exact ⟨x, rfl, hb, D.ofV_rel _ _ _⟩
end Aw
end Go.Proofs.YtdjkdcokjoiokaaGreatDoor

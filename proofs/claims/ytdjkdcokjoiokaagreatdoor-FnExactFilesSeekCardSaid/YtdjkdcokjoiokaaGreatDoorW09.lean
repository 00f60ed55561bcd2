/- Part 9 of seek_card: contracts, walks, laws; no condition beyond the statement's. -/
import Derived.Test.YtdjkdcokjoiokaaGreatDoorW08
import Derived.Laws.DeepStrings4
set_option linter.all false
namespace Go.Proofs.YtdjkdcokjoiokaaGreatDoor
open Go.RowKit
namespace Aw
variable {P : Program}
section
variable {dst : Option Tmp} {ty : TypeId} {pos : String} {after : Array Edge} {gd : Option (Nat × Bool)} {env : List (Nat × AV)} {H : List Blk}
theorem Qey {T : TypeId} {F : TyF} {u x y : Operand} {l : List UInt8} {κ κ' : IntKind} {i j : Int} [hT : Ty P T F] (hs : F.str = true) (hu : aval env u = .d (.v (.string ⟨l.toArray⟩))) (hx : aval env x = .d (.v (.int κ i))) (hy : aval env y = .d (.v (.int κ' j)))
 (h0 : 0 <= i) (h1 : i <= j) (h2 : j <= l.length) : Loc P ⟨dst, .slice T u (some x) (some y) none, ty, pos, after, gd⟩ env H (.d (.v (.string ⟨((l.take j.toNat).drop i.toNat).toArray⟩))) none :=
 QbD fun σ S H' a w _ hop _ => by
  have a1 := AV.conc_rel (hop u (by simp [Op.operands])) (y := .string ⟨l.toArray⟩) (by rw [hu]; rfl);have a2 := AV.conc_rel (hop x (by simp [Op.operands])) (y := .int κ i) (by rw [hx]; rfl);have a3 := AV.conc_rel (hop y (by simp [Op.operands])) (y := .int κ' j) (by rw [hy]; rfl);refine ⟨.string ⟨((l.take j.toNat).drop i.toNat).toArray⟩, ?_, .d _ _ (.v _)⟩;simp only [execOp, Option.map_some, Option.map_none, a1, a2, a3, Sem.run_bind, run_sliceAt_string _ _ _ _ _ _ (Qds hT.h hs), run_slice_string_if w T _ _ _ _ _ (Qds hT.h hs), Qd6];rw [if_pos ⟨by omega, h2⟩, if_pos ⟨h0, h1⟩, Pm.Qdd]; rfl
theorem Qfn {T : TypeId} {F : TyF} {u x : Operand} {l : List UInt8} {κ : IntKind} {i : Int} [hT : Ty P T F] (hs : F.str = true) (hu : aval env u = .d (.v (.string ⟨l.toArray⟩))) (hx : aval env x = .d (.v (.int κ i)))
 (h0 : 0 <= i) (h1 : i <= l.length) : Loc P ⟨dst, .slice T u (some x) none none, ty, pos, after, gd⟩ env H (.d (.v (.string ⟨(l.drop i.toNat).toArray⟩))) none :=
 QbD fun σ S H' a w _ hop _ => by
  have a1 := AV.conc_rel (hop u (by simp [Op.operands])) (y := .string ⟨l.toArray⟩) (by rw [hu]; rfl);have a2 := AV.conc_rel (hop x (by simp [Op.operands])) (y := .int κ i) (by rw [hx]; rfl);refine ⟨.string ⟨(l.drop i.toNat).toArray⟩, ?_, .d _ _ (.v _)⟩;simp only [execOp, Option.map_some, Option.map_none, a1, a2, Sem.run_bind, run_sliceAt_string _ _ _ _ _ _ (Qds hT.h hs)];rw [run_slice_string_l w T _ (Qds hT.h hs) _ _ h0 (by rw [Qd6]; exact h1), Qd6, Pm.Qdd, List.take_length]; rfl
theorem Qhk {T : TypeId} {F : TyF} {u y : Operand} {l : List UInt8} {κ' : IntKind} {j : Int} [hT : Ty P T F] (hs : F.str = true) (hu : aval env u = .d (.v (.string ⟨l.toArray⟩))) (hy : aval env y = .d (.v (.int κ' j)))
 (h0 : 0 <= j) (h2 : j <= l.length) : Loc P ⟨dst, .slice T u none (some y) none, ty, pos, after, gd⟩ env H (.d (.v (.string ⟨(l.take j.toNat).toArray⟩))) none :=
 QbD fun σ S H' a w _ hop _ => by
  have a1 := AV.conc_rel (hop u (by simp [Op.operands])) (y := .string ⟨l.toArray⟩) (by rw [hu]; rfl);have a3 := AV.conc_rel (hop y (by simp [Op.operands])) (y := .int κ' j) (by rw [hy]; rfl);refine ⟨.string ⟨(l.take j.toNat).toArray⟩, ?_, .d _ _ (.v _)⟩;simp only [execOp, Option.map_some, Option.map_none, a1, a3, Sem.run_bind, run_sliceAt_string _ _ _ _ _ _ (Qds hT.h hs)];rw [run_slice_string_h w T _ (Qds hT.h hs) _ _ h0 (by rw [Qd6]; exact h2), Pm.Qdd, List.drop_zero]; rfl
theorem Qg6 {T e : TypeId} (h : P.underlying T = some (.slice e)) : P.elem T = e := by unfold Program.elem; rw [h]
theorem QiU {S : Nat -> Prop} {w : World} {n l h : Nat} {rows : List (List D)} {a : Option Addr} {len cap : Nat} (hr : RelD S w (.sl true n rows) (.slice a len cap)) (h1 : l <= h) (h2 : h <= rows.length) :
 h <= cap /\ len = rows.length /\ RelD S w (.sl true n ((rows.take h).drop l)) (sliced a l h cap n) := by
 cases hr with
 |slnil =>
  have : l = 0 /\ h = 0 := by simp at h2; omega
  obtain ⟨rfl, rfl⟩ := this;simp only [sliced, List.take_nil, List.drop_nil, Nat.sub_self, Nat.sub_zero];exact ⟨by omega, rfl, .slnil _ _ _ _⟩
 |sl _ _ _ b o cap g hS hn hcap hc hrr =>
  have hc' := hcap rfl;refine ⟨by omega, rfl, ?_⟩;unfold sliced
  by_cases hm : cap = l
  ·rw [if_pos hm]
   have : ((rows.take h).drop l) = [] := by rw [List.drop_eq_nil_iff, List.length_take]; omega
   rw [this, show h - l = 0 by omega];exact .slnil _ _ _ _
  ·rw [if_neg hm]
   have hlen : ((rows.take h).drop l).length = h - l := by rw [List.length_drop, List.length_take]; omega
   have hget : ∀ (i : Nat) r, ((rows.take h).drop l)[i]? = some r -> rows[l + i]? = some r := fun i r hr => by
    rw [List.getElem?_drop, List.getElem?_take] at hr;split at hr
    ·exact hr
    ·cases hr
   have := RelD.sl (S := S) (w := w) true n ((rows.take h).drop l) b (o + l * n) (cap - l) (fun i j => g (l + i) j) hS (fun r hr => hn r (List.mem_of_mem_take (List.mem_of_mem_drop hr))) (fun _ => by omega)
    (fun i j r d hi hj => by have := hc (l + i) j r d (hget i r hi) hj; rw [<- this]; congr 2; rw [Nat.add_mul]; omega) (fun i j r d hi hj => hrr (l + i) j r d (hget i r hi) hj)
   rw [hlen] at this;simp only [Option.map_some, Qcg]; exact this
theorem Qlm {T e : TypeId} {F E : TyF} {u x y : Operand} {rows : List (List D)} {κ κ' : IntKind} {i j : Int} [hT : Ty P T F] (he : F.elem = some e) [hE : Ty P e E] (hu : aval env u = .d (.sl true E.size rows)) (hx : aval env x = .d (.v (.int κ i))) (hy : aval env y = .d (.v (.int κ' j)))
 (h0 : 0 <= i) (h1 : i <= j) (h2 : j <= rows.length) : Loc P ⟨dst, .slice T u (some x) (some y) none, ty, pos, after, gd⟩ env H (.d (.sl true E.size ((rows.take j.toNat).drop i.toNat))) none :=
 QbD fun σ S H' a w _ hop _ => by
  have a1 := hop u (by simp [Op.operands]);have a2 := AV.conc_rel (hop x (by simp [Op.operands])) (y := .int κ i) (by rw [hx]; rfl);have a3 := AV.conc_rel (hop y (by simp [Op.operands])) (y := .int κ' j) (by rw [hy]; rfl);rw [hu] at a1;generalize hv : a.eval u = v at a1;have hT' := QbX hT.h he;have hel := Qg6 hT';have hT'' : P.underlying T = some (.slice (P.elem T)) := by rw [hel]; exact hT'
  obtain ⟨ad, len, cap, rfl⟩ : ∃ ad len cap, v = .slice ad len cap := by cases a1 with | d _ _ h => cases h <;> exact ⟨_, _, _, rfl⟩
  have hr : RelD S w (.sl true E.size rows) (.slice ad len cap) := by cases a1; assumption
  obtain ⟨b1, b2, b3⟩ := QiU hr (l := i.toNat) (h := j.toNat) (by omega) (by omega);refine ⟨_, ?_, .d _ _ b3⟩;simp only [execOp, Option.map_some, Option.map_none, hv, a2, a3, Sem.run_bind, run_sliceAt_slice _ _ _ _ _ _ hT''];rw [run_slice_lh w T ad len cap hT'' _ _ _ _ h0 h1 (by omega), hel, Qcu hE.h]; rfl
theorem Qls {x y : Operand} {t1 t2 : TypeId} {κ κ' : IntKind} {i j : Int} (hx : aval env x = .d (.v (.int κ i))) (hy : aval env y = .d (.v (.int κ' j))) : Loc P ⟨dst, .call ⟨.builtin .max, #[x, y], #[t1, t2]⟩, ty, pos, after, gd⟩ env H (.d (.v (.int κ (if j > i then j else i)))) none :=
 QbD fun σ S H' a w _ hop _ => by
  have a2 := AV.conc_rel (hop x (by simp [Op.operands, Call.operands])) (y := .int κ i) (by rw [hx]; rfl);have a3 := AV.conc_rel (hop y (by simp [Op.operands, Call.operands])) (y := .int κ' j) (by rw [hy]; rfl);exact ⟨_, by simp only [execOp, resolve, invoke, builtin, Sem.run_bind, Sem.run_pure, Result.andThen_ok, List.map_toArray, List.map_cons, List.map_nil, a2, a3, run_max_int2], .d _ _ (.v _)⟩
theorem Qlr {x y : Operand} {t1 t2 : TypeId} {κ κ' : IntKind} {i j : Int} (hx : aval env x = .d (.v (.int κ i))) (hy : aval env y = .d (.v (.int κ' j))) : Loc P ⟨dst, .call ⟨.builtin .min, #[x, y], #[t1, t2]⟩, ty, pos, after, gd⟩ env H (.d (.v (.int κ (if j < i then j else i)))) none :=
 QbD fun σ S H' a w _ hop _ => by
  have a2 := AV.conc_rel (hop x (by simp [Op.operands, Call.operands])) (y := .int κ i) (by rw [hx]; rfl);have a3 := AV.conc_rel (hop y (by simp [Op.operands, Call.operands])) (y := .int κ' j) (by rw [hy]; rfl);exact ⟨_, by simp only [execOp, resolve, invoke, builtin, Sem.run_bind, Sem.run_pure, Result.andThen_ok, List.map_toArray, List.map_cons, List.map_nil, a2, a3, run_min_int2], .d _ _ (.v _)⟩
end
theorem Qci {f : FuncId} {args : List D} {vs : List Value} {xs : List Value} (ha : concL args = some vs)
 (h : ∀ w, Pm.Lt w -> Calls P f vs.toArray w fun e w' => e = .returned (.tuple xs.toArray) /\ Below w.heap.size w w') : Pure P f args (.tup (xs.map D.ofV)) := by
 intro B σ S H w cargs hB hS hl hr;obtain rfl := Qdb ha hl hr;refine (h w (hB.ltOf hS)).mono ?_;rintro e w' ⟨rfl, hb⟩;refine ⟨_, rfl, hb, .tup _ _ (by simp) fun i d v hd hv => ?_⟩;rw [List.getElem?_map, hv] at hd;obtain rfl := Option.some.inj hd;exact D.ofV_rel _ _ _
variable {P : Program}
def rvC (P : Program) (env : List (Nat × AV)) : ResultVar -> Option D
 |.tmp t => match look env t with
  |.d x => some x
  |_ => none
 |.cell t T => match look env t with
  |.d (.pd cells) => (tyf P T).bind fun F => ldD F cells
  |_ => none
def allO : List (Option D) -> Option (List D)
 |[] => some []
 |some x :: l => (allO l).map (x :: ·)
 |none :: _ => none
def resC (P : Program) (env : List (Nat × AV)) : List ResultVar -> Option D
 |[r] => rvC P env r
 |rs => (allO (rs.map (rvC P env))).map .tup
def EndC (P : Program) (rs : List ResultVar) (x : D) : Exit -> St -> Prop
 |.normal, s | .ret, s => resC P s.env rs = some x
 |_, _ => False
attribute [go_sem] rvC allO resC
theorem QgL : ∀ {l : List (Option D)} {ds : List D}, allO l = some ds -> l = ds.map some
 |[], ds, h => by obtain rfl := Option.some.inj h; rfl
 |some x :: l, ds, h => by
  obtain ⟨ds', h1, rfl⟩ := Option.map_eq_some_iff.1 h;rw [QgL h1]; rfl
 |none :: _, _, h => by cases h
theorem rvC_run {σ : Sg} {S : Nat -> Prop} {H : List Blk} {n : Nat} {env : List (Nat × AV)} {B : Bs} {a : Act} {w : World} (hA : SmA B σ S ⟨n, env, H⟩ a w) {r : ResultVar} {x : D} (hx : rvC P env r = some x) :
 ∃ v, (rvS a.tmps r).run P w = .ok v w /\ RelD S w x v := by
 cases r with
 |tmp t =>
  simp only [rvC] at hx;split at hx
  ·rename_i y hy
   obtain rfl := Option.some.inj hx;refine ⟨a.tmps.getD t undef, Sem.run_pure' .., ?_⟩;have := hA.env t;rw [hy] at this;cases this; assumption
  ·cases hx
 |cell t T =>
  simp only [rvC] at hx;split at hx
  ·rename_i cells hy
   obtain ⟨F, hF, hx⟩ := Option.bind_eq_some_iff.1 hx;have := hA.env t;rw [hy] at this;cases this with
   |d _ _ h =>
    generalize hv : a.tmps.getD t undef = pv at h;cases h with
    |pd _ b o g hS hc hr =>
     obtain ⟨v, h1, h2⟩ := Qiq hF (b := b) (o := o) (w := w) (S := S) hx fun j d hd => ⟨g j, hc j d hd, hr j d hd⟩
     refine ⟨v, ?_, h2⟩;show (do loadVar T (<- asAddr (a.tmps.getD t undef)) : Sem Value).run P w = _;rw [hv];exact h1
  ·cases hx
theorem Qee {σ : Sg} {S : Nat -> Prop} {H : List Blk} {n : Nat} {env : List (Nat × AV)} {B : Bs} {a : Act} {w : World} (hA : SmA B σ S ⟨n, env, H⟩ a w) : ∀ (rs : List ResultVar) (ds : List D), allO (rs.map (rvC P env)) = some ds ->
 ∃ vs, (rs.mapM (rvS a.tmps)).run P w = .ok vs w /\ vs.length = ds.length /\ ∀ (i : Nat) d v, ds[i]? = some d -> vs[i]? = some v -> RelD S w d v
 |[], ds, h => by obtain rfl := Option.some.inj h; exact ⟨[], by simp, rfl, fun i d v hd => by simp at hd⟩
 |r :: rs, ds, h => by
  rw [List.map_cons] at h;cases hr : rvC P env r with
  |none => rw [hr] at h; cases h
  |some x =>
   rw [hr] at h;obtain ⟨ds', h1, rfl⟩ := Option.map_eq_some_iff.1 h;obtain ⟨v, h2, h3⟩ := rvC_run hA hr;obtain ⟨vs, h4, h5, h6⟩ := Qee hA rs ds' h1;refine ⟨v :: vs, ?_, by simp [h5], fun i d u hd hu => ?_⟩
   ·rw [List.mapM_cons, Sem.run_bind, h2, Result.andThen_ok, Sem.run_bind, h4, Result.andThen_ok, Sem.run_pure]
   ·cases i with
    |zero => simp at hd hu; subst hd; subst hu; exact h3
    |succ i => exact h6 i d u (by simpa using hd) (by simpa using hu)
theorem Qb2 {f : FuncId} {fn : Func} {c : Code} {args : List D} {x : D} {n : Nat} {rs : List ResultVar} (hf : P.funcs[f]? = some fn) (hb : fn.body = some c) (hn : fn.ntmps = n) (hrs : fn.results = rs.toArray) (hle : Nat.ble args.length n = true)
 (h : AWP P c (EndC P rs x) ⟨n, parE 0 args, []⟩) : Pure P f args x := by
 have hlen : args.length <= n := Nat.le_of_ble_eq_true hle;intro B σ S H w cargs hB hS hl hr;refine calls_of_wp hf hb ?_
 have hA : SmA ⟨w, B.G, fun _ => False, S⟩ (fun _ => none) S ⟨n, parE 0 args, []⟩ { tmps := cargs.toArray ++ Array.replicate (fn.ntmps - cargs.toArray.size) undef, defers := [] } w := by
  refine ⟨⟨rfl, rfl, rfl, Nat.le_refl _, fun _ _ _ => rfl, fun _ h => h, fun b hb => ⟨(hS.sUp b hb).1, .inl hb⟩, fun k b hk => by simp at hk, fun k k' b hk => by simp at hk, fun k C hC => by simp at hC⟩, rfl, ?_, fun t => ?_⟩
  ·simp [hn]; omega
  ·rcases Qfl args 0 t with ⟨d, _, h2, h3⟩ | h
   ·simp only
    rw [h3];have ht : t < cargs.length := by rw [<- hl]; exact (List.getElem?_eq_some_iff.1 h2).1
    have : (cargs.toArray ++ Array.replicate (fn.ntmps - cargs.toArray.size) undef).getD t undef = cargs[t] := by
     rw [Array.getD_eq_getD_getElem?, Array.getElem?_append_left (by simpa using ht)];simp [ht]
    rw [this];exact .d _ _ (hr t d _ (by simpa using h2) (List.getElem?_eq_getElem ht))
   ·simp only
    rw [h]; exact .d _ _ (.any _)
 have hB' : Gd ⟨w, B.G, fun _ => False, S⟩ := hB.again hS S;refine wp_mono (h _ hB' _ _ _ _ hA) ?_;rintro e a w' ⟨s', σ', S', hq, hA'⟩
 have fin : resC P s'.env rs = some x -> a.defers = [] /\ ∃ v, (results fn a.tmps).run P w' = .ok v w' /\ ∃ v', Ending.returned v = .returned v' /\ Below w.heap.size w w' /\ RelD (fun b => S b ∨ w.heap.size <= b /\ b < w'.heap.size) w' x v' := by
  intro hx;have hbel : Below w.heap.size w w' := ⟨hA'.sm.os, hA'.sm.tape, hA'.sm.output, hA'.sm.size, fun k hk => hA'.sm.keep k hk fun h => h⟩
  have hup : ∀ d v, RelD S' w' d v -> RelD (fun b => S b ∨ w.heap.size <= b /\ b < w'.heap.size) w' d v := fun d v h => h.mono (fun b hb => by
   obtain ⟨h1, h2⟩ := hA'.sm.sUp b hb;rcases h2 with h2 | h2 | h2
   ·exact .inl h2
   ·exact h2.elim
   ·exact .inr ⟨h2, h1⟩) fun _ _ => rfl
  refine ⟨hA'.defers, ?_⟩;obtain ⟨n', env', H'⟩ := s'
  have gen : ∀ vs, (rs.mapM (rvS a.tmps)).run P w' = .ok vs w' -> (fn.results.mapM (rvS a.tmps)).run P w' = .ok vs.toArray w' := fun vs h => by
   rw [hrs, Array.mapM_eq_mapM_toList, Sem.run_map, h]; rfl
  rw [QcQ]
  by_cases h1 : rs.length = 1
  ·match rs, h1 with
   |[r], _ =>
    obtain ⟨vs, g1, g2, g3⟩ := Qee (P := P) hA' [r] [x] (by
     have hx : rvC P env' r = some x := hx
     simp [allO, hx])
    match vs, g2 with
    |[v], _ =>
     refine ⟨v, ?_, _, rfl, hbel, hup _ _ (g3 0 x v rfl rfl)⟩;rw [Sem.run_bind, gen _ g1];rfl
  ·have hx' : (allO (rs.map (rvC P env'))).map D.tup = some x := by
    unfold resC at hx;split at hx
    ·simp at h1
    ·exact hx
   obtain ⟨ds, hds, rfl⟩ := Option.map_eq_some_iff.1 hx';obtain ⟨vs, g1, g2, g3⟩ := Qee (P := P) hA' rs ds hds;have hvl : vs.length = rs.length := by have := congrArg List.length (QgL hds); simp at this; omega
   refine ⟨.tuple vs.toArray, ?_, _, rfl, hbel, .tup ds vs (by omega) fun i d v hd hv => hup _ _ (g3 i d v hd hv)⟩;rw [Sem.run_bind, gen _ g1];simp [hvl, h1]
 cases e with
 |normal => exact fin hq
 |ret => exact fin hq
 |_ => exact hq.elim
theorem QbA {Q : Exit -> St -> Prop} {n : Nat} {env : List (Nat × AV)} {H : List Blk} {rs : List ResultVar} {x y : D} (hq : Q .ret ⟨n, env, H⟩ = (resC P env rs = some x) := by rfl)
 (h : ∀ R : Option D -> Prop, R (some y) -> R (resC P env rs) := by intro R hR; simp only [go_sem, Nat.reduceEqDiff, Nat.reduceAdd, Nat.reduceLT, Nat.reduceLeDiff, ↓reduceIte, reduceCtorEq]; exact hR) (hx : y = x) : AWP P .ret Q ⟨n, env, H⟩ :=
 Qf6 (by rw [hq]; exact hx ▸ h (fun r => r = some y) rfl)
theorem Qmk {ops : Array Oper} {Q : Exit -> St -> Prop} {l : List Oper} {s s' : St} (h : Weak s s') (hc : ASeq P ops Q l s') : ASeq P ops Q l s := fun B hB σ S a w hA => let ⟨σ', S', h1⟩ := h B σ S a w hA; hc B hB σ' S' a w h1
theorem QgR {α β : Type} (f : α -> β) (l : List α) : List.take l.length (List.map f l) = List.map f l := List.take_of_length_le (by simp)
theorem QcH (k : Nat) {C : Blk} {ops : Array Oper} {Q : Exit -> St -> Prop} {l : List Oper} {n : Nat} {env env' : List (Nat × AV)} {H H' : List Blk} (hC : H[k]? = some C := by rfl)
 (he : ∀ R : List (Nat × AV) -> Prop, R env' -> R (frzE k C env) := by intro R hR; simp only [frzE, AV.frz, AV.frzL, Blk.gen, Blk.iceP, Blk.iceS, Blk.iceM, AV.data, beq_self_eq_true, Nat.reduceBEq, Bool.and_self, Bool.and_true, Bool.true_and, Bool.false_and, Bool.and_false, cond_true, cond_false, List.drop_zero, List.drop_succ_cons, List.map_cons, List.map_nil, QgR]; exact hR)
 (hh : ∀ R : List Blk -> Prop, R H' -> R ((H.set k C.dead).map (Blk.frz k C)) := by intro R hR; simp only [Blk.dead, Blk.frz, AV.frz, AV.frzL, Blk.gen, Blk.iceP, Blk.iceS, Blk.iceM, AV.data, List.set_cons_zero, List.set_cons_succ, List.map_cons, List.map_nil, Nat.zero_add, beq_self_eq_true, Nat.reduceBEq, Bool.and_self, Bool.and_true, Bool.true_and, Bool.false_and, Bool.and_false, cond_true, cond_false, List.drop_zero, List.drop_succ_cons]; exact hR)
 (h : ASeq P ops Q l ⟨n, env', H'⟩) : ASeq P ops Q l ⟨n, env, H⟩ := by
 have h1 := he (fun r => r = env') rfl;have h2 := hh (fun r => r = H') rfl;subst h1; subst h2;exact Qmk (QdO k hC) h
def AStep (P : Program) (ops : Array Oper) (o : Oper) (K : St -> Prop) (s : St) : Prop :=
 ∃ x H', Eff P o s.env s.H x H' /\ awanted ops s.env o = some true /\ dstOk s.n o.dst = true /\ gdOk ops s.n o = true /\ K ⟨s.n, putE s.env o.dst x, H'⟩
section
variable {P : Program} {ops : List Oper} {B : Bs}
end
variable {P : Program}
section
variable {ops : Array Oper} {Q : Exit -> St -> Prop} {K : St -> Prop} {l : List Oper} {n : Nat} {env : List (Nat × AV)} {H H' : List Blk} {d : Tmp} {op : Op} {ty : TypeId} {pos : String} {after : Array Edge} {gd : Option (Nat × Bool)} {x x' : AV}
theorem Qcy (ks : List Nat) {f : FuncId} {xs : Array Operand} {tys : Array TypeId} {args : List AV} {H0 H1 : List Blk} (h : Does P f args H0 [] x H1) (hf : ∀ args w, (callFunc f args).run P w = .ok (.enter f args) w)
 (hargs : xs.toList.map (aval env) = AV.renL (rho ks H.length) args := by rfl) (hks : ks.map (fun k => H[k]?) = (H0.map (Blk.ren (rho ks H.length))).map some := by rfl) (hnd : ks.Nodup := by decide)
 (hla : AV.ltL H0.length args = true := by rfl) (hlH : H0.all (Blk.lt H0.length) = true := by rfl)
 (hX : ∀ R : AV -> Prop, R x' -> R (x.ren (rho ks H.length)) := by intro R hR; simp only [AV.ren, AV.renL, rho, List.getElem?_cons_zero, List.getElem?_cons_succ]; exact hR)
 (hH : ∀ R : List Blk -> Prop, R H' -> R (place (rho ks H.length) H ks H1 ++ (H1.drop ks.length).map (Blk.ren (rho ks H.length))) := by intro R hR; simp only [place, Blk.ren, AV.ren, AV.renL, List.map_cons, List.map_nil, List.set_cons_zero, List.set_cons_succ, List.drop_succ_cons, List.drop_zero, List.drop_nil, List.append_nil, List.length_cons, List.length_nil, Nat.reduceAdd, Nat.zero_add]; exact hR)
 (hw : awanted ops env ⟨some d, .call ⟨.value (.func f), xs, tys⟩, ty, pos, after, gd⟩ = some true := by rfl) (hd : Nat.blt d n = true := by rfl) (hg : gdOk ops n ⟨some d, .call ⟨.value (.func f), xs, tys⟩, ty, pos, after, gd⟩ = true := by rfl)
 (k : ASeq P ops Q l ⟨n, (d, x') :: env, H'⟩) : ASeq P ops Q (⟨some d, .call ⟨.value (.func f), xs, tys⟩, ty, pos, after, gd⟩ :: l) ⟨n, env, H⟩ := by
 refine QhI (QeP ks h (Qer hf) hargs hks hnd hla rfl hlH (fun g hg => by cases hg)) hw hd hg ?_;have h1 := hX (fun r => r = x') rfl;have h2 := hH (fun r => r = H') rfl;rw [h1, h2]; exact k
theorem QeU (ks : List Nat) {f : FuncId} {xs : Array Operand} {tys : Array TypeId} {args : List AV} {H0 H1 : List Blk} (h : Does P f args H0 [] x H1) (hf : ∀ args w, (callFunc f args).run P w = .ok (.enter f args) w)
 (hargs : xs.toList.map (aval env) = AV.renL (rho ks H.length) args := by rfl) (hks : ks.map (fun k => H[k]?) = (H0.map (Blk.ren (rho ks H.length))).map some := by rfl) (hnd : ks.Nodup := by decide)
 (hla : AV.ltL H0.length args = true := by rfl) (hlH : H0.all (Blk.lt H0.length) = true := by rfl)
 (hX : ∀ R : AV -> Prop, R x' -> R (x.ren (rho ks H.length)) := by intro R hR; simp only [AV.ren, AV.renL, rho, List.getElem?_cons_zero, List.getElem?_cons_succ]; exact hR)
 (hH : ∀ R : List Blk -> Prop, R H' -> R (place (rho ks H.length) H ks H1 ++ (H1.drop ks.length).map (Blk.ren (rho ks H.length))) := by intro R hR; simp only [place, Blk.ren, AV.ren, AV.renL, List.map_cons, List.map_nil, List.set_cons_zero, List.set_cons_succ, List.drop_succ_cons, List.drop_zero, List.drop_nil, List.append_nil, List.length_cons, List.length_nil, Nat.reduceAdd, Nat.zero_add]; exact hR)
 (hw : awanted ops env ⟨some d, .call ⟨.value (.func f), xs, tys⟩, ty, pos, after, gd⟩ = some true := by rfl) (hd : Nat.blt d n = true := by rfl) (hg : gdOk ops n ⟨some d, .call ⟨.value (.func f), xs, tys⟩, ty, pos, after, gd⟩ = true := by rfl)
 (k : K ⟨n, (d, x') :: env, H'⟩) : AStep P ops ⟨some d, .call ⟨.value (.func f), xs, tys⟩, ty, pos, after, gd⟩ K ⟨n, env, H⟩ := by
 refine ⟨_, _, QeP ks h (Qer hf) hargs hks hnd hla rfl hlH (fun g hg => by cases hg), hw, hd, hg, ?_⟩;have h1 := hX (fun r => r = x') rfl;have h2 := hH (fun r => r = H') rfl;rw [h1, h2]; exact k
theorem Qcm (ts : List Nat) (m : Nat) {c : Code} {Q : Exit -> St -> Prop} {env' : List (Nat × AV)}
 (he : ∀ R : List (Nat × AV) -> Prop, R env' -> R (keepE env ts) := by intro R hR; simp only [keepE, go_sem, Nat.reduceEqDiff, Nat.reduceAdd, Nat.reduceLT, Nat.reduceLeDiff, ↓reduceIte, reduceCtorEq]; exact hR)
 (hH : ∀ R : List Blk -> Prop, R H' -> R (H.take m) := by intro R hR; simp only [List.take_succ_cons, List.take_zero]; exact hR)
 (h1 : envLt m env' = true := by rfl) (h2 : H'.all (Blk.lt m) = true := by rfl) (h : AWP P c Q ⟨n, env', H'⟩) : AWP P c Q ⟨n, env, H⟩ := by
 have e1 := he (fun r => r = env') rfl;have e2 := hH (fun r => r = H') rfl;exact Qet (Qea ts m e1 e2 h1 h2) h
theorem QbN {Q : Exit -> St -> Prop} {rs : List ResultVar} {H1 : List Blk} {gl : List AV} {gvs : List Value} {y : AV} (hq : Q .ret ⟨n, env, H⟩ = (resA env rs = some x /\ H = H1 /\ look env gslot = .gh gl gvs) := by rfl)
 (h : ∀ R : Option AV -> Prop, R (some y) -> R (resA env rs) := by intro R hR; simp only [resA, allR, go_sem, Nat.reduceEqDiff, Nat.reduceAdd, Nat.reduceLT, Nat.reduceLeDiff, ↓reduceIte, reduceCtorEq]; exact hR)
 (hg : look env gslot = .gh gl gvs := by rfl) (hx : y = x) (hH : H = H1) : AWP P .ret Q ⟨n, env, H⟩ :=
 Qf6 (by rw [hq]; exact ⟨hx ▸ h (fun r => r = some y) rfl, hH, hg⟩)
end
variable {P : Program}
section
variable {dst : Option Tmp} {ty : TypeId} {pos : String} {after : Array Edge} {gd : Option (Nat × Bool)} {env : List (Nat × AV)} {H : List Blk}
theorem QbF {u : Operand} {cells : List D} (hu : aval env u = .d (.pd cells)) : Loc P ⟨dst, .nilCheck u, ty, pos, after, gd⟩ env H (.d (.pd cells)) none :=
 QbD fun σ S H' a w _ hop _ => by
  have a1 := hop u (by simp [Op.operands]);rw [hu] at a1;generalize hv : a.eval u = v at a1;cases a1 with
  |d _ _ h =>
   cases h with
   |pd _ b o g hS hc hr => exact ⟨_, by simp [execOp, hv], .d _ _ (.pd _ b o g hS hc hr)⟩
theorem Qeh {u : Operand} {k g o : Nat} {cells : List AV} (hu : aval env u = .ptr k g o) (hk : H[k]? = some (.row g cells)) : Loc P ⟨dst, .nilCheck u, ty, pos, after, gd⟩ env H (.ptr k g o) none :=
 QbD fun σ S H' a w _ hop hag => by
  have a1 := hop u (by simp [Op.operands]);rw [hu] at a1;generalize hv : a.eval u = v at a1;cases a1 with
  |ptr _ _ _ _ ho g' cells' hk' hg h =>
   have hgg : g' = g := by
    rcases hag k _ hk with h1 | h1
    ·rw [h1] at hk'; injection (Option.some.inj hk') with h2 h3; exact h2.symm
    ·rw [h1] at hk'; cases hk'
   obtain ⟨b, hb, rfl⟩ := h hgg;exact ⟨_, by simp [execOp, hv], .ptr _ _ _ _ ho g' cells' hk' hg h⟩
theorem QeE {fn : Fn} {xs : Array Operand} : Loc P ⟨dst, .makeFunc fn #[] xs, ty, pos, after, gd⟩ env H (.fn fn (xs.toList.map (aval env))) none :=
 QbD fun σ S H' a w _ hop _ => by
  refine ⟨.func fn #[] (xs.map a.eval), by simp [execOp, Instr.makeFunc], ?_⟩;have : xs.map a.eval = (xs.toList.map a.eval).toArray := by apply Array.ext'; simp
  rw [this];refine .fn _ _ _ (by simp) fun i d x hd hx => ?_
  rw [List.getElem?_map] at hd hx;cases hi : xs.toList[i]? with
  |none => rw [hi] at hd; cases hd
  |some u =>
   rw [hi] at hd hx;obtain rfl := Option.some.inj hd; obtain rfl := Option.some.inj hx;exact hop u (by simp only [Op.operands, Array.empty_append]; exact Array.mem_toList_iff.1 (List.mem_of_getElem? hi))
theorem Qln {T e : TypeId} {F E : TyF} {u y z : Operand} {rows : List (List D)} {κ κ' : IntKind} {j : Int} [hT : Ty P T F] (he : F.elem = some e) [hE : Ty P e E] (hu : aval env u = .d (.sl true E.size rows)) (hy : aval env y = .d (.v (.int κ j))) (hz : aval env z = .d (.v (.int κ' j)))
 (h0 : 0 <= j) (h2 : j <= rows.length) : Loc P ⟨dst, .slice T u none (some y) (some z), ty, pos, after, gd⟩ env H (.d (.sl true E.size (rows.take j.toNat))) none :=
 QbD fun σ S H' a w _ hop _ => by
  have a1 := hop u (by simp [Op.operands]);have a2 := AV.conc_rel (hop y (by simp [Op.operands])) (y := .int κ j) (by rw [hy]; rfl);have a3 := AV.conc_rel (hop z (by simp [Op.operands])) (y := .int κ' j) (by rw [hz]; rfl);rw [hu] at a1;generalize hv : a.eval u = v at a1;have hT' := QbX hT.h he;have hel := Qg6 hT';have hT'' : P.underlying T = some (.slice (P.elem T)) := by rw [hel]; exact hT'
  obtain ⟨ad, len, cap, rfl⟩ : ∃ ad len cap, v = .slice ad len cap := by cases a1 with | d _ _ h => cases h <;> exact ⟨_, _, _, rfl⟩
  have hr : RelD S w (.sl true E.size rows) (.slice ad len cap) := by cases a1; assumption
  have hcap : j.toNat <= cap := by
   obtain ⟨b1, b2, b3⟩ := QiU hr (l := 0) (h := j.toNat) (by omega) (by omega);exact b1
  have hres : RelD S w (.sl true E.size (rows.take j.toNat)) (sliced ad 0 j.toNat j.toNat E.size) := by
   unfold sliced;cases hr with
   |slnil =>
    have : j.toNat = 0 := by simp at h2; omega
    rw [this]; simp only [List.take_nil, Nat.sub_zero]; exact .slnil _ _ _ _
   |sl _ _ _ b o cap g hS hn hc2 hc hrr =>
    by_cases hm : j.toNat = 0
    ·rw [hm]; simp only [List.take_zero, Nat.sub_zero]; exact .slnil _ _ _ _
    ·rw [if_neg hm]
     have hlen : (rows.take j.toNat).length = j.toNat := by rw [List.length_take]; omega
     have hget : ∀ (i : Nat) r, (rows.take j.toNat)[i]? = some r -> rows[i]? = some r := fun i r hr => by
      rw [List.getElem?_take] at hr;split at hr
      ·exact hr
      ·cases hr
     have := RelD.sl (S := S) (w := w) true E.size (rows.take j.toNat) b o j.toNat g hS (fun r hr => hn r (List.mem_of_mem_take hr)) (fun _ => by omega)
      (fun i j r d hi hj => hc i j r d (hget i r hi) hj) (fun i j r d hi hj => hrr i j r d (hget i r hi) hj)
     rw [hlen] at this;simp only [Option.map_some, Qcg, Nat.zero_mul, Nat.add_zero, Nat.sub_zero]; exact this
  refine ⟨_, ?_, .d _ _ hres⟩;simp only [execOp, Option.map_some, Option.map_none, hv, a2, a3, Sem.run_bind, run_sliceAt_slice _ _ _ _ _ _ hT''];rw [run_slice_hm w T ad len cap hT'' _ _ _ _ h0 (Int.le_refl _) (by omega), hel, Qcu hE.h]; rfl
end
theorem Qcl (t : Nat) (b : Bool) (m : Nat) {c : Code} {Q : Exit -> St -> Prop} {n : Nat} {env : List (Nat × AV)} {H : List Blk} (ht : look env t = .d (.v (.slice none 0 0)) := by rfl)
 (h : AWP P c Q ⟨n, (t, .d (.sl b m [])) :: env, H⟩) : AWP P c Q ⟨n, env, H⟩ := by
 refine Qet ?_ h;intro B σ S a w hA;refine ⟨σ, S, hA.sm, hA.defers, hA.size, fun u => ?_⟩
 by_cases hu : t = u
 ·subst hu
  show Rel _ _ _ _ (look ((t, _) :: env) t) _;rw [QbM];have := AV.conc_rel (hA.env t) (y := .slice none 0 0) (by show (look env t).conc = _; rw [ht]; rfl);rw [this]; exact .d _ _ (.slnil _ _ _ _)
 ·show Rel _ _ _ _ (look ((t, _) :: env) u) _
  rw [QbU hu];exact hA.env u
def PureF (P : Program) (f : FuncId) (args : List AV) (x : D) : Prop :=
 ∀ (B : Bs) (S : Nat -> Prop) (w : World) (cargs : List Value), Gd B -> Sm B (fun _ => none) S [] w -> args.length = cargs.length -> (∀ (i : Nat) d v, args[i]? = some d -> cargs[i]? = some v -> Rel (fun _ => none) S [] w d v) ->
   Calls P f cargs.toArray w fun e w' => ∃ v, e = .returned v /\ Below w.heap.size w w' /\ RelD (fun b => S b ∨ w.heap.size <= b /\ b < w'.heap.size) w' x v
theorem Sm.empty {B : Bs} {σ : Sg} {S : Nat -> Prop} {H : List Blk} {w : World} (hS : Sm B σ S H w) : Sm ⟨w, B.G, fun _ => False, S⟩ (fun _ => none) S [] w :=
 ⟨rfl, rfl, rfl, Nat.le_refl _, fun _ _ _ => rfl, fun _ h => h, fun b hb => ⟨(hS.sUp b hb).1, .inl hb⟩, fun k b hk => by simp at hk, fun k k' b hk => by simp at hk, fun k C hC => by simp at hC⟩
theorem Qcz {f : FuncId} {fn : Func} {c : Code} {args : List AV} {x : D} {n : Nat} {rs : List ResultVar} (hf : P.funcs[f]? = some fn) (hb : fn.body = some c) (hn : fn.ntmps = n) (hrs : fn.results = rs.toArray) (hle : Nat.ble args.length n = true)
 (h : AWP P c (EndC P rs x) ⟨n, parA 0 args, []⟩) : PureF P f args x := by
 have hlen : args.length <= n := Nat.le_of_ble_eq_true hle;intro B S w cargs hB hS hl hr;refine calls_of_wp hf hb ?_
 have hA : SmA ⟨w, B.G, fun _ => False, S⟩ (fun _ => none) S ⟨n, parA 0 args, []⟩ { tmps := cargs.toArray ++ Array.replicate (fn.ntmps - cargs.toArray.size) undef, defers := [] } w := by
  refine ⟨hS.empty, rfl, ?_, fun t => ?_⟩
  ·simp [hn]; omega
  ·rcases Qeg args 0 t with ⟨d, _, h2, h3⟩ | h
   ·simp only
    rw [h3];have ht : t < cargs.length := by rw [<- hl]; exact (List.getElem?_eq_some_iff.1 h2).1
    have : (cargs.toArray ++ Array.replicate (fn.ntmps - cargs.toArray.size) undef).getD t undef = cargs[t] := by
     rw [Array.getD_eq_getD_getElem?, Array.getElem?_append_left (by simpa using ht)];simp [ht]
    rw [this];exact hr t d _ (by simpa using h2) (List.getElem?_eq_getElem ht)
   ·simp only
    rw [h]; exact .d _ _ (.any _)
 have hB' : Gd ⟨w, B.G, fun _ => False, S⟩ := hB.again hS S;refine wp_mono (h _ hB' _ _ _ _ hA) ?_;rintro e a w' ⟨s', σ', S', hq, hA'⟩
 have fin : resC P s'.env rs = some x -> a.defers = [] /\ ∃ v, (results fn a.tmps).run P w' = .ok v w' /\ ∃ v', Ending.returned v = .returned v' /\ Below w.heap.size w w' /\ RelD (fun b => S b ∨ w.heap.size <= b /\ b < w'.heap.size) w' x v' := by
  intro hx;have hbel : Below w.heap.size w w' := ⟨hA'.sm.os, hA'.sm.tape, hA'.sm.output, hA'.sm.size, fun k hk => hA'.sm.keep k hk fun h => h⟩
  have hup : ∀ d v, RelD S' w' d v -> RelD (fun b => S b ∨ w.heap.size <= b /\ b < w'.heap.size) w' d v := fun d v h => h.mono (fun b hb => by
   obtain ⟨h1, h2⟩ := hA'.sm.sUp b hb;rcases h2 with h2 | h2 | h2
   ·exact .inl h2
   ·exact h2.elim
   ·exact .inr ⟨h2, h1⟩) fun _ _ => rfl
  refine ⟨hA'.defers, ?_⟩;obtain ⟨n', env', H'⟩ := s'
  have gen : ∀ vs, (rs.mapM (rvS a.tmps)).run P w' = .ok vs w' -> (fn.results.mapM (rvS a.tmps)).run P w' = .ok vs.toArray w' := fun vs h => by
   rw [hrs, Array.mapM_eq_mapM_toList, Sem.run_map, h]; rfl
  rw [QcQ]
  by_cases h1 : rs.length = 1
  ·match rs, h1 with
   |[r], _ =>
    obtain ⟨vs, g1, g2, g3⟩ := Qee (P := P) hA' [r] [x] (by
     have hx : rvC P env' r = some x := hx
     simp [allO, hx])
    match vs, g2 with
    |[v], _ =>
     refine ⟨v, ?_, _, rfl, hbel, hup _ _ (g3 0 x v rfl rfl)⟩;rw [Sem.run_bind, gen _ g1];rfl
  ·have hx' : (allO (rs.map (rvC P env'))).map D.tup = some x := by
    unfold resC at hx;split at hx
    ·simp at h1
    ·exact hx
   obtain ⟨ds, hds, rfl⟩ := Option.map_eq_some_iff.1 hx';obtain ⟨vs, g1, g2, g3⟩ := Qee (P := P) hA' rs ds hds;have hvl : vs.length = rs.length := by have := congrArg List.length (QgL hds); simp at this; omega
   refine ⟨.tuple vs.toArray, ?_, _, rfl, hbel, .tup ds vs (by omega) fun i d v hd hv => hup _ _ (g3 i d v hd hv)⟩;rw [Sem.run_bind, gen _ g1];simp [hvl, h1]
 cases e with
 |normal => exact fin hq
 |ret => exact fin hq
 |_ => exact hq.elim
def AV.pureA : AV -> Bool
 |.d _ => true
 |.fn _ l => (allD l).isSome
 |_ => false
theorem QkP {σ σ' : Sg} {S : Nat -> Prop} {H H' : List Blk} {w : World} {x : AV} {v : Value} (h : Rel σ S H w x v) (hx : x.pureA = true) : Rel σ' S H' w x v := by
 cases h with
 |d x v h => exact .d _ _ h
 |fn f l cs hl hr =>
  obtain ⟨ds, hds⟩ := Option.isSome_iff_exists.1 hx;have he := Qd5 hds;refine .fn f l cs hl fun i d x hd hxx => ?_
  have h1 := hr i d x hd hxx;rw [he, List.getElem?_map] at hd;cases hdi : ds[i]? with
  |none => rw [hdi] at hd; cases hd
  |some d' =>
   rw [hdi] at hd;obtain rfl := Option.some.inj hd;cases h1; exact .d _ _ (by assumption)
 |_ => cases hx
section
variable {dst : Option Tmp} {ty : TypeId} {pos : String} {after : Array Edge} {gd : Option (Nat × Bool)} {env : List (Nat × AV)} {H : List Blk}
theorem Qc0 {f : FuncId} {xs : Array Operand} {tys : Array TypeId} {args : List AV} {x : D}
 (hf : ∀ args w, (callFunc f args).run P w = .ok (.enter f args) w) (h : PureF P f args x) (hargs : xs.toList.map (aval env) = args) (hp : args.all AV.pureA = true) :
 Loc P ⟨dst, .call ⟨.value (.func f), xs, tys⟩, ty, pos, after, gd⟩ env H (.d x) none := by
 intro B σ S H' a w hB hS hop _ _ K Q k;obtain ⟨cargs, h1, h2, h3⟩ := Qer (P := P) (dst := dst) (ty := ty) (pos := pos) (after := after) (gd := gd) (tys := tys) hf σ S H' w a hop;unfold Oper.wp;rw [h1, Oper.upon_enter];rw [hargs] at h2 h3;refine (h _ S w cargs (hB.again hS S) hS.empty h2 fun i d v hd hv => QkP (h3 i d v hd hv) (List.all_eq_true.1 hp d (List.mem_of_getElem? hd))).mono ?_;rintro e w' ⟨v, rfl, hb, hr⟩;obtain ⟨h3, h4⟩ := hS.below hb;exact k v w' σ _ h3 (.d _ _ hr) h4
theorem Qcp {f : FuncId} {t : Tmp} {caps : List AV} {xs : Array Operand} {tys : Array TypeId} {ds : List D} {x : D}
 (hf : ∀ args w, (callFunc f args).run P w = .ok (.enter f args) w) (h : Pure P f ds x) (ht : look env t = .fn (.func f) caps) (hd : allD (xs.toList.map (aval env) ++ caps) = some ds) :
 Loc P ⟨dst, .call ⟨.value (.tmp t), xs, tys⟩, ty, pos, after, gd⟩ env H (.d x) none := by
 intro B σ S H' a w hB hS hop _ _ K Q k;obtain ⟨cargs, h1, h2, h3⟩ := Qjr (P := P) (dst := dst) (ty := ty) (pos := pos) (after := after) (gd := gd) (tys := tys) hf ht σ S H' w a hop;unfold Oper.wp;rw [h1, Oper.upon_enter];have he := Qd5 hd;rw [he] at h2 h3;refine (h B σ S H' w cargs hB hS (by simpa using h2) fun i d v hdi hv => ?_).mono ?_
 ·have := h3 i (.d d) v (by rw [List.getElem?_map, hdi]; rfl) hv
  cases this; assumption
 rintro e w' ⟨v, rfl, hb, hr⟩;obtain ⟨h3, h4⟩ := hS.below hb;exact k v w' σ _ h3 (.d _ _ hr) h4
end
variable {P : Program}
section
variable {dst : Option Tmp} {ty : TypeId} {pos : String} {after : Array Edge} {gd : Option (Nat × Bool)} {env : List (Nat × AV)} {H : List Blk}
theorem Qdk {fn : Fn} {u : Operand} {x : AV} (hu : aval env u = x) : Loc P ⟨dst, .makeFunc fn #[] #[u], ty, pos, after, gd⟩ env H (.fn fn [x]) none := by
 have := QeE (P := P) (dst := dst) (ty := ty) (pos := pos) (after := after) (gd := gd) (env := env) (H := H) (fn := fn) (xs := #[u]);simpa [hu] using this
theorem Qgr {fn : Fn} {u u' : Operand} {x x' : AV} (hu : aval env u = x) (hu' : aval env u' = x') : Loc P ⟨dst, .makeFunc fn #[] #[u, u'], ty, pos, after, gd⟩ env H (.fn fn [x, x']) none := by
 have := QeE (P := P) (dst := dst) (ty := ty) (pos := pos) (after := after) (gd := gd) (env := env) (H := H) (fn := fn) (xs := #[u, u']);simpa [hu, hu'] using this
end
def AV.weak1 : AV -> AV
 |.d x => .d x.weak
 |x => x
theorem PureF.arg {f : FuncId} {l l' : List AV} {x : D} (h : PureF P f l' x) (ha : l.map AV.weak1 = l' := by rfl) : PureF P f l x := by
 intro B S w cargs hB hS hl hr;subst ha;refine h B S w cargs hB hS (by simpa using hl) fun i d v hd hv => ?_
 rw [List.getElem?_map] at hd;obtain ⟨d0, h1, rfl⟩ := Option.map_eq_some_iff.1 hd;have h2 := hr i d0 v h1 hv;cases h2 with
 |d x v h => exact .d _ _ h.weak
 |agg l cs hl h => exact .agg l cs hl h
 |tup l cs hl h => exact .tup l cs hl h
 |ptr => exact hr i _ _ h1 hv
 |fn f l cs hl h => exact .fn f l cs hl h
 |_ => exact hr i _ _ h1 hv
section
variable {P : Program} {ops : Array Oper} {K : St -> Prop} {n : Nat} {env : List (Nat × AV)} {H H' : List Blk} {d : Tmp} {ty : TypeId} {pos : String} {after : Array Edge} {gd : Option (Nat × Bool)}
theorem Qjz {T e : TypeId} {F E : TyF} {s x : Operand} {k g len k2 g2 : Nat} {T2 : TypeId} {rows : List (List D)} {r : List D} (hT : tyf P T = some F) (he : F.elem = some e) (hE : tyf P e = some E) (hz : E.zero.length = E.size := by rfl) (hpos : Nat.blt 0 E.size = true := by rfl)
 (hs : aval env s = .osl k g 0 len := by rfl) (hk : H[k]? = some (.arr g E.size e rows) := by rfl) (hlen : len = rows.length := by first | rfl | simp)
 (hx : aval env x = .osl k2 g2 0 1 := by rfl) (hk2 : H[k2]? = some (.arr g2 E.size T2 [r]) := by rfl) (hcell : r.all D.cell = true := by rfl)
 (hb : (rows.length + 1) * E.bytes <= 140737488355328)
 (hw : awanted ops env ⟨some d, .call ⟨.builtin .append, #[s, x], #[T, T]⟩, ty, pos, after, gd⟩ = some true := by rfl) (hd : Nat.blt d n = true := by rfl) (hg : gdOk ops n ⟨some d, .call ⟨.builtin .append, #[s, x], #[T, T]⟩, ty, pos, after, gd⟩ = true := by rfl)
 (hH : ∀ R : List Blk -> Prop, R H' -> R (H.set k (.arr (g + 1) E.size e (rows ++ [r]))) := by intro R hR; simp only [List.set_cons_zero, List.set_cons_succ, Nat.zero_add, Nat.reduceAdd]; exact hR)
 (hby : Nat.blt 0 E.bytes = true := by rfl)
 (kk : K ⟨n, (d, .osl k (g + 1) 0 (rows.length + 1)) :: env, H'⟩) : AStep P ops ⟨some d, .call ⟨.builtin .append, #[s, x], #[T, T]⟩, ty, pos, after, gd⟩ K ⟨n, env, H⟩ := by
 have hby' : 0 < E.bytes := by simpa using hby
 have hmul : rows.length + 1 <= (rows.length + 1) * E.bytes := Nat.le_mul_of_pos_right _ hby';refine ⟨_, _, Qg8 (newrows := [r]) hT he hE hz (by simpa using hpos) hs hk hlen (QkG hx hk2 rfl (cells1 r hcell)) (by simpa using hb) (by simp; omega), hw, hd, hg, ?_⟩;have := hH (fun r => r = H') rfl;rw [this]; simpa [putE] using kk
theorem Qjy {T e : TypeId} {F E : TyF} {s x : Operand} {k g len : Nat} {c : Bool} {rows newrows : List (List D)} (hT : tyf P T = some F) (he : F.elem = some e) (hE : tyf P e = some E) (hz : E.zero.length = E.size := by rfl) (hpos : Nat.blt 0 E.size = true := by rfl)
 (hs : aval env s = .osl k g 0 len := by rfl) (hk : H[k]? = some (.arr g E.size e rows) := by rfl) (hlen : len = rows.length := by first | rfl | simp)
 (hx : aval env x = .d (.sl c E.size newrows) := by rfl) (hcell : ∀ r ∈ newrows, ∀ d ∈ r, d.cell = true)
 (hb : (rows.length + newrows.length) * E.bytes <= 140737488355328)
 (hw : awanted ops env ⟨some d, .call ⟨.builtin .append, #[s, x], #[T, T]⟩, ty, pos, after, gd⟩ = some true := by rfl) (hd : Nat.blt d n = true := by rfl) (hg : gdOk ops n ⟨some d, .call ⟨.builtin .append, #[s, x], #[T, T]⟩, ty, pos, after, gd⟩ = true := by rfl)
 (hH : ∀ R : List Blk -> Prop, R H' -> R (H.set k (.arr (g + 1) E.size e (rows ++ newrows))) := by intro R hR; simp only [List.set_cons_zero, List.set_cons_succ, Nat.zero_add, Nat.reduceAdd]; exact hR)
 (hby : Nat.blt 0 E.bytes = true := by rfl)
 (kk : K ⟨n, (d, .osl k (g + 1) 0 (rows.length + newrows.length)) :: env, H'⟩) : AStep P ops ⟨some d, .call ⟨.builtin .append, #[s, x], #[T, T]⟩, ty, pos, after, gd⟩ K ⟨n, env, H⟩ := by
 have hby' : 0 < E.bytes := by simpa using hby
 have hmul : rows.length + newrows.length <= (rows.length + newrows.length) * E.bytes := Nat.le_mul_of_pos_right _ hby';refine ⟨_, _, Qg8 (newrows := newrows) hT he hE hz (by simpa using hpos) hs hk hlen (QnD hx hcell) hb (by omega), hw, hd, hg, ?_⟩;have := hH (fun r => r = H') rfl;rw [this]; simpa [putE] using kk
end
def memN : List Nat -> Nat -> Bool
 |[], _ => false
 |m :: r, i => bif Nat.beq m i then true else memN r i
theorem Qgp : ∀ {l : List Nat} {i : Nat}, memN l i = true ↔ i ∈ l
 |[], i => by simp [memN]
 |m :: r, i => by
  unfold memN;cases h : Nat.beq m i with
  |true => have := Nat.eq_of_beq_eq_true h; subst this; simp
  |false =>
   have : m ≠ i := fun e => by subst e; simp at h
   simp only [cond_false, List.mem_cons];rw [Qgp];exact ⟨.inr, fun h => h.resolve_left (fun e => this e.symm)⟩
def opT (o : Oper) : List Nat := o.op.operands.toList.filterMap fun | .tmp t => some t | _ => none
def quietB (ops : List Oper) (fl : List Nat) (q : Nat) : Bool := ops.zipIdx.all fun (p, j) => memN fl j || !(p.dst == some q)
def Quiet (ops : List Oper) (fl : List Nat) (q : Nat) : Prop := ∀ (j : Nat) p, ops[j]? = some p -> memN fl j = false -> p.dst ≠ some q
def ascN : List Nat -> Bool
 |[] => true
 |f :: r => r.all (Nat.blt f) && ascN r
def float1 (ops : List Oper) (fl : List Nat) (n f : Nat) : Bool :=
 match ops[f]? with
 |none => false
 |some o => match o.dst, o.guard with
  |some t, none => Nat.blt t n && !(opT o).elem t && (opT o).all (quietB ops fl) && ops.zipIdx.all fun (p, j) => bif Nat.blt j f then !(names ops p).elem t else Nat.beq j f || !(p.dst == some t)
  |_, _ => false
def floatOk (ops : List Oper) (fl : List Nat) (n : Nat) : Bool := ascN fl && fl.all (float1 ops fl n)
structure FlSt (ops : List Oper) (fl : List Nat) (n f : Nat) (o : Oper) (t : Nat) : Prop where
 op : ops[f]? = some o
 dst : o.dst = some t
 guard : o.guard = none
 lt : t < n
 own : Operand.tmp t ∉ o.op.operands
 quiet : ∀ q, Operand.tmp q ∈ o.op.operands -> Quiet ops fl q
 before : ∀ (j : Nat) p, j < f -> ops[j]? = some p -> t ∉ names ops p
 sole : ∀ (j : Nat) p, j ≠ f -> ops[j]? = some p -> p.dst ≠ some t
theorem Qgo {o : Oper} {t : Nat} (h : Operand.tmp t ∈ o.op.operands) : t ∈ opT o := List.mem_filterMap.2 ⟨.tmp t, Array.mem_toList_iff.2 h, rfl⟩
theorem Qia {ops : List Oper} {fl : List Nat} {q : Nat} (h : quietB ops fl q = true) : Quiet ops fl q := by
 intro j p hp hm e;unfold quietB at h;rw [List.all_eq_true] at h;have := h (p, j) (List.mk_mem_zipIdx_iff_getElem?.2 hp);simp [hm, e] at this
theorem Qfv {ops : List Oper} {fl : List Nat} {n f : Nat} (h : float1 ops fl n f = true) : ∃ o t, FlSt ops fl n f o t := by
 unfold float1 at h;split at h
 ·cases h
 rename_i o ho;split at h;rotate_left
 ·cases h
 rename_i t ht hg;simp only [Bool.and_eq_true, Bool.not_eq_true', List.all_eq_true] at h;obtain ⟨⟨⟨h1, h2⟩, h3⟩, h4⟩ := h;have hown : t ∉ opT o := fun hm => by rw [List.elem_eq_true_of_mem hm] at h2; cases h2
 have hz : ∀ (j : Nat) p, ops[j]? = some p -> (p, j) ∈ ops.zipIdx := fun j p hp => List.mk_mem_zipIdx_iff_getElem?.2 hp
 have key : ∀ (j : Nat) p, j < f -> ops[j]? = some p -> t ∉ names ops p := fun j p hj hp hm => by
  have := h4 (p, j) (hz j p hp);have hb : Nat.blt j f = true := by simpa using hj
  simp only [hb, cond_true, Bool.not_eq_true'] at this;rw [List.elem_eq_true_of_mem hm] at this; cases this
 refine ⟨o, t, ho, ht, hg, by simpa using h1, fun hm => hown (Qgo hm), fun q hq => Qia (h3 q (Qgo hq)), key, fun j p hj hp e => ?_⟩;rcases Nat.lt_or_ge j f with hlt | hge
 ·exact key j p hlt hp (by simp [names, e])
 ·have := h4 (p, j) (hz j p hp)
  have hb : Nat.blt j f = false := by
   cases hb : Nat.blt j f
   ·rfl
   ·have : j < f := by simpa using hb
    omega
  have hq : Nat.beq j f = false := by
   cases hq : Nat.beq j f
   ·rfl
   ·exact absurd (Nat.eq_of_beq_eq_true hq) hj
  simp [hb, hq, e] at this
def barOkF (ops : List Oper) (fl : List Nat) (m : Nat) : Bool :=
 let b := befs ops []
 !memN fl m && ((List.range m).all fun j => memN fl j || (b.getD m 0).testBit j) && ((List.range ops.length).all fun i => Nat.ble i m || memN fl i || (b.getD i 0).testBit m)
theorem Qf5 {ops : List Oper} {fl : List Nat} {m : Nat} (h : barOkF ops fl m = true) : memN fl m = false /\ (∀ j, j < m -> memN fl j = false -> ((befs ops []).getD m 0).testBit j = true) /\
 ∀ i, i < ops.length -> m < i -> memN fl i = false -> ((befs ops []).getD i 0).testBit m = true := by
 unfold barOkF at h;simp only [Bool.and_eq_true, List.all_eq_true, List.mem_range, Bool.not_eq_true'] at h;obtain ⟨⟨h0, h1⟩, h2⟩ := h;refine ⟨h0, fun j hj hm => ?_, fun i hi hm hf => ?_⟩
 ·have := h1 j hj
  rw [hm] at this; simpa using this
 ·have := h2 i hi
  rw [hf] at this;simp only [Bool.or_false] at this;rcases Bool.or_eq_true_iff.1 this with h2 | h2
  ·have : i <= m := by simpa using h2
   omega
  ·exact h2
def dum : Oper := ⟨none, .move (.const undef), 0, "", #[], none⟩
def segF (fl : List Nat) (e : Nat) : Nat -> List Oper -> List Oper
 |_, [] => []
 |i, o :: l => bif Nat.ble e i then [] else bif memN fl i then segF fl e (i + 1) l else o :: segF fl e (i + 1) l
def segD (fl : List Nat) (e : Nat) : Nat -> List Oper -> List Oper
 |_, [] => []
 |i, o :: l => bif Nat.ble e i then [] else (bif memN fl i then dum else o) :: segD fl e (i + 1) l
theorem Qed (fl : List Nat) (e : Nat) : ∀ (l : List Oper) (i : Nat), (segD fl e i l).length = min (e - i) l.length
 |[], i => by simp [segD]
 |o :: l, i => by
  unfold segD;cases h : Nat.ble e i with
  |true =>
   have : e <= i := by simpa using h
   simp; omega
  |false =>
   have : ¬ e <= i := fun h2 => by have := Nat.ble_eq_true_of_le h2; rw [h] at this; cases this
   simp only [cond_false, List.length_cons, Qed fl e l (i + 1)];omega
theorem Qgl (fl : List Nat) (e : Nat) : ∀ (l : List Oper) (i k : Nat) (o : Oper), (segD fl e i l)[k]? = some o -> (memN fl (i + k) = true /\ o = dum) ∨ (memN fl (i + k) = false /\ l[k]? = some o)
 |[], i, k, o, h => by simp [segD] at h
 |p :: l, i, k, o, h => by
  unfold segD at h;cases hb : Nat.ble e i with
  |true => rw [hb] at h; simp at h
  |false =>
   rw [hb] at h;simp only [cond_false] at h;cases k with
   |zero =>
    simp only [List.getElem?_cons_zero, Option.some.injEq] at h;cases hm : memN fl i with
    |true => rw [hm] at h; exact .inl ⟨by simpa using hm, h.symm⟩
    |false => rw [hm] at h; exact .inr ⟨by simpa using hm, by simpa using h⟩
   |succ k =>
    simp only [List.getElem?_cons_succ] at h ⊢;have := Qgl fl e l (i + 1) k o h;rw [show i + 1 + k = i + (k + 1) by omega] at this;exact this
theorem Qgb {P : Program} {opsA : Array Oper} {o : Oper} {l : List Oper} {s : St} {x : AV} {b : Option Blk} {st : Nat -> St} {xv : Nat -> AV} {nb : Nat -> Option Blk} (h : Step1 P opsA o s x b) (hc : Chain P opsA l st xv nb) (h0 : st 0 = s.next o x b) :
 Chain P opsA (o :: l) (fun i => match i with | 0 => s | i + 1 => st i) (fun i => match i with | 0 => x | i + 1 => xv i) (fun i => match i with | 0 => b | i + 1 => nb i) :=
 ⟨fun i o' ho => by
   match i, ho with
   |0, ho => simp at ho; subst ho; exact ⟨h, h0⟩
   |i + 1, ho => exact hc.step i o' (by simpa using ho)⟩
theorem ADraw.chainF {P : Program} {opsA : Array Oper} {K : St -> Prop} (fl : List Nat) (e : Nat) : ∀ (l : List Oper) (i : Nat) (s : St), ADraw P opsA K (segF fl e i l) s ->
 ∃ st xv nb, Chain P opsA (segD fl e i l) st xv nb /\ st 0 = s /\ K (st (segD fl e i l).length) /\ ∀ k, memN fl (i + k) = true -> nb k = none
 |[], i, s, h => ⟨fun _ => s, fun _ => .d .any, fun _ => none, ⟨fun i o ho => by simp [segD] at ho⟩, rfl, h, fun _ _ => rfl⟩
 |o :: l, i, s, h => by
  unfold segF at h;unfold segD;cases hb : Nat.ble e i with
  |true =>
   rw [hb] at h;exact ⟨fun _ => s, fun _ => .d .any, fun _ => none, ⟨fun i o ho => by simp at ho⟩, rfl, h, fun _ _ => rfl⟩
  |false =>
   rw [hb] at h;simp only [cond_false] at h ⊢;cases hm : memN fl i with
   |true =>
    rw [hm] at h;simp only [cond_true] at h ⊢;obtain ⟨st, xv, nb, hc, h0, hK, hn⟩ := ADraw.chainF fl e l (i + 1) s h;refine ⟨_, _, _, Qgb (x := aval s.env (.const undef)) (b := none) ⟨rfl, .inr ⟨rfl, Qjb⟩⟩ hc (by rw [h0]; simp [St.next, putE, dum]), rfl, hK, fun k hk => ?_⟩
    match k, hk with
    |0, _ => rfl
    |k + 1, hk => exact hn k (by rw [show i + 1 + k = i + (k + 1) by omega]; exact hk)
   |false =>
    rw [hm] at h;simp only [cond_false] at h ⊢;obtain ⟨x, b, hs, h⟩ := h;obtain ⟨st, xv, nb, hc, h0, hK, hn⟩ := ADraw.chainF fl e l (i + 1) _ h;refine ⟨_, _, _, Qgb hs hc h0, rfl, hK, fun k hk => ?_⟩
    match k, hk with
    |0, hk => simp only [Nat.add_zero] at hk; rw [hm] at hk; cases hk
    |k + 1, hk => exact hn k (by rw [show i + 1 + k = i + (k + 1) by omega]; exact hk)
theorem Loc.env {P : Program} {o : Oper} {env env' : List (Nat × AV)} {H : List Blk} {x : AV} {nb : Option Blk} (h : Loc P o env H x nb) (he : ∀ q, Operand.tmp q ∈ o.op.operands -> look env' q = look env q) : Loc P o env' H x nb := by
 intro B σ S H' a w hB hS hop;refine h B σ S H' a w hB hS fun u hu => ?_
 have := hop u hu;cases u with
 |tmp q => simp only [aval] at this ⊢; rw [<- he q hu]; exact this
 |_ => exact this
section
variable {P : Program} {ops : List Oper} {fl : List Nat} {n : Nat} {envF : List (Nat × AV)} {fx : List (Nat × Nat × D)} {B : Bs}
end
section
variable {P : Program} {ops : List Oper} {K : List (Nat × AV) -> Prop} {f : Nat} {r : List Nat} {env : List (Nat × AV)} {d : Tmp} {op : Op} {ty : TypeId} {pos : String} {after : Array Edge} {gd : Option (Nat × Bool)} {x : D}
end
theorem QmK {P : Program} {o : Oper} {env : List (Nat × AV)} {H : List Blk} {sz len : Nat} {T : TypeId} {rows : List (List D)} (hlen : rows.length = len) (hsz : ∀ r ∈ rows, r.length = sz)
 (h : ∀ (σ : Sg) (S : Nat -> Prop) (H' : List Blk) (a : Act) (w : World), (∀ u ∈ o.op.operands, Rel σ S H' w (aval env u) (a.eval u)) ->
   ∃ cs, (execOp a.eval o).run P w = .ok (.value (.slice (some ⟨w.heap.size, 0, none⟩) len len)) (w.alloc (.cells cs T)) /\ cs.size = len * sz /\ len <= maxLen /\
     ∀ (i j : Nat) r d, rows[i]? = some r -> r[j]? = some d -> ∃ v, cs[i * sz + j]? = some v /\ RelD S w d v) : Loc P o env H (.d (.sl true sz rows)) none := by
 intro B σ S H' a w _ hS hop hag hk K Q k;obtain ⟨cs, h1, hcs, hm, h2⟩ := h σ S H' a w hop;have hb : Below w.heap.size w (w.alloc (.cells cs T)) := Pm.bnew w _;obtain ⟨h3, h4⟩ := hS.below hb;subst hlen;refine QdI h1 (k _ _ _ _ h3 (.d _ _ (.sl true sz rows w.heap.size 0 rows.length (fun i j => cs.getD (i * sz + j) undef) ?_ hsz (fun _ => Nat.le_refl _) (fun i j r d hi hj => ?_) fun i j r d hi hj => ?_)) h4)
 ·exact .inr ⟨Nat.le_refl _, by rw [World.size_alloc]; omega⟩
 ·obtain ⟨v, hv, _⟩ := h2 i j r d hi hj
  simp only [World.cell?, Qck];rw [Nat.zero_add, Array.getD_eq_getD_getElem?, hv];simpa using hv
 ·obtain ⟨v, hv, hr⟩ := h2 i j r d hi hj
  rw [Array.getD_eq_getD_getElem?, hv];exact hr.mono h4.s h4.same
theorem Qjc {P : Program} {dst : Option Tmp} {ty : TypeId} {pos : String} {after : Array Edge} {gd : Option (Nat × Bool)} {env : List (Nat × AV)} {H : List Blk} {T e : TypeId} {F E : TyF} {n : Nat} {parts : Array (Nat × Operand)} {rows : List (List D)} (hT : tyf P T = some F) (he : F.elem = some e) (hE : tyf P e = some E)
 (hz : E.zero.length = E.size := by rfl) (hc : ∀ R : Option (List (List D)) -> Prop, R (some rows) -> R ((fillA (fun i => some (i * E.size, E.size)) env (List.replicate n (E.zero.map fun v => AV.d (.v v))).flatten parts.toList).bind (chunk E.size n)) := by
   intro R hR; simp only [go_sem, chunk, Option.bind_some, List.replicate_succ, List.replicate_zero, List.flatten_cons, List.flatten_nil, List.append_nil, List.cons_append, List.nil_append, Nat.zero_mul, Nat.reduceMul, Nat.reduceEqDiff, Nat.reduceAdd, Nat.reduceLT, Nat.reduceLeDiff, ↓reduceIte, reduceCtorEq, List.take_nil, List.drop_nil]; exact hR)
 (hm : Nat.ble (n * E.size) 16777216 = true := by rfl) (hn : Nat.ble n 16777216 = true := by rfl) : Loc P ⟨dst, .buildSlice T n parts, ty, pos, after, gd⟩ env H (.d (.sl true E.size rows)) none := by
 have h := hc (fun r => r = some rows) rfl;obtain ⟨res, h1, h2⟩ := Option.bind_eq_some_iff.1 h;obtain ⟨hrl, hrs, hrg⟩ := Qeq h2;exact QmK hrl hrs (QdN hT he hE hz h1 h2 (Nat.le_of_ble_eq_true hm) (Nat.le_of_ble_eq_true hn))
end Aw
end Go.Proofs.YtdjkdcokjoiokaaGreatDoor

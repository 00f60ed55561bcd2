/- Part 6 of seek_card: contracts, walks, laws; no condition beyond the statement's. -/
import Derived.Test.YtdjkdcokjoiokaaGreatDoorW05
set_option linter.all false
namespace Go.Proofs.YtdjkdcokjoiokaaGreatDoor
open Go.RowKit
namespace Aw
variable {P : Program}
theorem tyf_of {T : TypeId} {F : TyF} [h : Ty P T F] : tyf P T = some F := h.h
def evPick (X Y : AV) : AV -> Option (AV × Option Blk)
 |.d (.v (.bool b)) => some (bif b then X else Y, none)
 |_ => none
def evNot : AV -> Option (AV × Option Blk)
 |.d (.v (.bool b)) => some (.d (.v (.bool !b)), none)
 |_ => none
def evLoad (H : List Blk) (F : TyF) : AV -> Option (AV × Option Blk)
 |.d (.pd cells) => (ldD F cells).map fun x => (.d x, none)
 |.ptr k g o => match H[k]? with
  |some (.row g' cells) => if g' = g then (ldA F (cells.drop o)).map fun x => (x, none) else none
  |_ => none
 |.ept k g i j => match H[k]? with
  |some (.arr g' _ _ rows) => if g' = g then (rows[i]?.bind fun r => ldD F (r.drop j)).map fun x => (.d x, none) else none
  |_ => none
 |_ => none
def evField (H : List Blk) (o : Nat) : AV -> Option (AV × Option Blk)
 |.d (.pd cells) => some (.d (.pd (cells.drop o)), none)
 |.ptr k g q => match H[k]? with
  |some (.row g' _) => if g' = g then some (.ptr k g (q + o), none) else none
  |_ => none
 |.ept k g i q => match H[k]? with
  |some (.arr g' _ _ _) => if g' = g then some (.ept k g i (q + o), none) else none
  |_ => none
 |_ => none
def Qg3 (H : List Blk) (x : AV) : Option (Nat × Nat) -> Option (AV × Option Blk)
 |some (o, n) => bif Nat.blt 0 n then evField H o x else none
 |none => none
def evBin (op : BinOp) : AV -> AV -> Option (AV × Option Blk)
 |.d (.v (.int k a)), .d (.v (.int k' b)) => bif decide (k = k') then (cmpI op a b).map fun r => (.d (.v (.bool r)), none) else none
 |_, _ => none
def evLen (H : List Blk) (F : TyF) : AV -> Option (AV × Option Blk)
 |.d (.sl _ _ rows) => bif F.elem.isSome then some (.d (.v (.int .i64 (rows.length : Nat))), none) else none
 |.osl k g _ len => match H[k]? with
  |some (.arr g' _ _ _) => bif F.elem.isSome then (if g' = g then some (.d (.v (.int .i64 (len : Nat))), none) else none) else none
  |_ => none
 |.d (.v (.slice none 0 0)) => bif F.elem.isSome then some (.d (.v (.int .i64 0)), none) else none
 |.d (.v (.string s)) => bif F.str then some (.d (.v (.int .i64 (s.size : Nat))), none) else none
 |_ => none
def Qfy (i : Nat) : AV -> Option (AV × Option Blk)
 |.d (.tup l) => l[i]?.map fun x => (.d x, none)
 |.tup l => l[i]?.map fun x => (x, none)
 |_ => none
def evCall (P : Program) (env : List (Nat × AV)) (H : List Blk) : Callee -> List Operand -> List TypeId -> Option (AV × Option Blk)
 |.builtin .len, [u], [T] => (tyf P T).bind fun F => evLen H F (aval env u)
 |_, _, _ => none
def evOp (P : Program) (env : List (Nat × AV)) (H : List Blk) : Op -> Option (AV × Option Blk)
 |.move u => some (aval env u, none)
 |.assign u => some (aval env u, none)
 |.pick c x y => evPick (aval env x) (aval env y) (aval env c)
 |.unOp .not _ u => evNot (aval env u)
 |.load T u => (tyf P T).bind fun F => evLoad H F (aval env u)
 |.fieldAddr T u f => (tyf P T).bind fun F => Qg3 H (aval env u) F.fields[f]?
 |.binOp op _ x y _ => evBin op (aval env x) (aval env y)
 |.box _ u => (aval env u).cells.map fun l => (.ptr H.length 0 0, some (.row 0 l))
 |.alloc T => (tyf P T).map fun F => (.ptr H.length 0 0, some (.row 0 (F.zero.map fun v => .d (.v v))))
 |.build T parts => (tyf P T).bind fun F => F.places.bind fun pl => (fillA (fun i => pl[i]?) env (F.zero.map fun v => .d (.v v)) parts.toList).map fun res => (AV.mk res, none)
 |.extract u i => Qfy i (aval env u)
 |.call c => evCall P env H c.callee c.args.toList c.argTypes.toList
 |_ => none
theorem Qh0 {dst : Option Tmp} {op : Op} {ty : TypeId} {pos : String} {after : Array Edge} {gd : Option (Nat × Bool)} {env : List (Nat × AV)} {H : List Blk} {x : AV} {nb : Option Blk}
 (h : evOp P env H op = some (x, nb)) : Loc P ⟨dst, op, ty, pos, after, gd⟩ env H x nb := by
 unfold evOp at h;split at h
 ·simp only [Option.some.injEq, Prod.mk.injEq] at h; obtain ⟨rfl, rfl⟩ := h; exact Qjb
 ·simp only [Option.some.injEq, Prod.mk.injEq] at h; obtain ⟨rfl, rfl⟩ := h; exact Qka
 ·unfold evPick at h
  split at h
  ·simp only [Option.some.injEq, Prod.mk.injEq] at h; obtain ⟨rfl, rfl⟩ := h
   exact QmI (by assumption) rfl rfl
  ·cases h
 ·unfold evNot at h
  split at h
  ·simp only [Option.some.injEq, Prod.mk.injEq] at h; obtain ⟨rfl, rfl⟩ := h
   exact loc_not (by assumption)
  ·cases h
 ·rename_i T u
  obtain ⟨F, hF, h⟩ := Option.bind_eq_some_iff.1 h;unfold evLoad at h;split at h
  ·obtain ⟨y, hy, h⟩ := Option.map_eq_some_iff.1 h
   simp only [Prod.mk.injEq] at h; obtain ⟨rfl, rfl⟩ := h;exact Qil hF (by assumption) hy
  ·split at h
   ·rename_i hk
    split at h;rotate_left
    ·cases h
    rename_i hg;subst hg;obtain ⟨y, hy, h⟩ := Option.map_eq_some_iff.1 h;simp only [Prod.mk.injEq] at h; obtain ⟨rfl, rfl⟩ := h;exact Qhm hF (by assumption) hk hy
   ·cases h
  ·split at h
   ·rename_i hk
    split at h;rotate_left
    ·cases h
    rename_i hg;subst hg;obtain ⟨y, hy, h⟩ := Option.map_eq_some_iff.1 h;simp only [Prod.mk.injEq] at h; obtain ⟨rfl, rfl⟩ := h;obtain ⟨r, hr, hy⟩ := Option.bind_eq_some_iff.1 hy;exact QbK hF (by assumption) hk hr hy
   ·cases h
  ·cases h
 ·rename_i T u f
  obtain ⟨F, hF, h⟩ := Option.bind_eq_some_iff.1 h;unfold Qg3 at h;split at h
  ·rename_i o n hf
   cases hn : Nat.blt 0 n with
   |false => rw [hn] at h; cases h
   |true =>
    rw [hn] at h;simp only [cond_true] at h;unfold evField at h;split at h
    ·simp only [Option.some.injEq, Prod.mk.injEq] at h; obtain ⟨rfl, rfl⟩ := h
     exact Qhn hF (by assumption) hf hn
    ·split at h
     ·rename_i hk
      split at h;rotate_left
      ·cases h
      rename_i hg;subst hg;simp only [Option.some.injEq, Prod.mk.injEq] at h; obtain ⟨rfl, rfl⟩ := h;exact Qgs hF (by assumption) hk hf hn
     ·cases h
    ·split at h
     ·rename_i hk
      split at h;rotate_left
      ·cases h
      rename_i hg;subst hg;simp only [Option.some.injEq, Prod.mk.injEq] at h; obtain ⟨rfl, rfl⟩ := h;exact Qgt hF (by assumption) hk hf hn
     ·cases h
    ·cases h
  ·cases h
 ·unfold evBin at h
  split at h
  ·rename_i k a k' b hx hy
   cases hk : decide (k = k') with
   |false => rw [hk] at h; cases h
   |true =>
    rw [hk] at h;obtain ⟨r, hr, h⟩ := Option.map_eq_some_iff.1 h;simp only [Prod.mk.injEq] at h; obtain ⟨rfl, rfl⟩ := h;have := of_decide_eq_true hk;subst this;exact loc_cmp hx hy hr
  ·cases h
 ·obtain ⟨l, hl, h⟩ := Option.map_eq_some_iff.1 h
  simp only [Prod.mk.injEq] at h; obtain ⟨rfl, rfl⟩ := h;exact loc_box hl
 ·obtain ⟨F, hF, h⟩ := Option.map_eq_some_iff.1 h
  simp only [Prod.mk.injEq] at h; obtain ⟨rfl, rfl⟩ := h;exact Qlv hF
 ·obtain ⟨F, hF, h⟩ := Option.bind_eq_some_iff.1 h
  obtain ⟨pl, hpl, h⟩ := Option.bind_eq_some_iff.1 h;obtain ⟨res, hr, h⟩ := Option.map_eq_some_iff.1 h;simp only [Prod.mk.injEq] at h; obtain ⟨rfl, rfl⟩ := h;exact Qlt hF hpl hr
 ·unfold Qfy at h
  split at h
  ·obtain ⟨y, hy, h⟩ := Option.map_eq_some_iff.1 h
   simp only [Prod.mk.injEq] at h; obtain ⟨rfl, rfl⟩ := h;exact Qgu (by assumption) hy
  ·obtain ⟨y, hy, h⟩ := Option.map_eq_some_iff.1 h
   simp only [Prod.mk.injEq] at h; obtain ⟨rfl, rfl⟩ := h;exact Qip (by assumption) hy
  ·cases h
 ·rename_i c
  obtain ⟨callee, args, tys⟩ := c;simp only at h;unfold evCall at h;split at h;rotate_left
  ·cases h
  rename_i u T ha hT;obtain rfl : args = #[u] := Array.toList_inj.1 ha;obtain rfl : tys = #[T] := Array.toList_inj.1 hT;obtain ⟨F, hF, h⟩ := Option.bind_eq_some_iff.1 h;unfold evLen at h;split at h
  ·rename_i hu
   cases he : F.elem with
   |none => rw [he] at h; cases h
   |some e =>
    rw [he] at h;simp only [Option.isSome_some, cond_true, Option.some.injEq, Prod.mk.injEq] at h; obtain ⟨rfl, rfl⟩ := h;exact QjZ hF he hu
  ·rename_i hu
   split at h
   ·rename_i hk
    cases he : F.elem with
    |none => rw [he] at h; cases h
    |some e =>
     rw [he] at h;simp only [Option.isSome_some, cond_true] at h;split at h;rotate_left
     ·cases h
     rename_i hg;subst hg;simp only [Option.some.injEq, Prod.mk.injEq] at h; obtain ⟨rfl, rfl⟩ := h;exact Qio hF he hu hk
   ·cases h
  ·rename_i hu
   cases he : F.elem with
   |none => rw [he] at h; cases h
   |some e =>
    rw [he] at h;simp only [Option.isSome_some, cond_true, Option.some.injEq, Prod.mk.injEq] at h; obtain ⟨rfl, rfl⟩ := h
    exact QbD fun σ S H' a w _ hop _ => by
     have h := AV.conc_rel (hop u (by simp [Op.operands, Call.operands])) (y := .slice none 0 0) (by rw [hu]; rfl);exact ⟨_, by simp [execOp, resolve, invoke, builtin, Builtin.len_, h, goInt, run_underlying (QbX hF he)]; try rfl, .d _ _ (.v _)⟩
  ·rename_i hu
   cases he : F.str with
   |false => rw [he] at h; cases h
   |true =>
    rw [he] at h;simp only [cond_true, Option.some.injEq, Prod.mk.injEq] at h; obtain ⟨rfl, rfl⟩ := h;exact Qim hF he hu
  ·cases h
 ·cases h
theorem natBeq (n m : Nat) : Nat.beq n m = decide (n = m) := by
 cases h : Nat.beq n m
 ·exact (decide_eq_false fun e => by subst e; simp at h).symm
 ·exact (decide_eq_true (Nat.eq_of_beq_eq_true h)).symm
theorem natBle (n m : Nat) : Nat.ble n m = decide (n <= m) := by
 cases h : Nat.ble n m
 ·exact (decide_eq_false fun e => by simp [Nat.ble_eq_true_of_le e] at h).symm
 ·exact (decide_eq_true (Nat.le_of_ble_eq_true h)).symm
theorem natBlt (n m : Nat) : Nat.blt n m = decide (n < m) := natBle _ _
attribute [go_sem] evOp evPick evNot evLoad evField Qg3 evBin evLen Qfy evCall aval look D.ofV tyf_of Option.bind_some Option.map_some ldD ldA AV.mk allD cond_true cond_false List.take_succ_cons List.take_zero List.drop_succ_cons List.drop_zero List.head?_cons List.map_cons List.map_nil List.length_cons List.length_nil List.getElem?_cons_zero List.getElem?_cons_succ Nat.zero_add cmpI AV.cells D.cells Value.oneCell' fillA setAt natBeq natBle natBlt decide_true decide_false Bool.not_true Bool.not_false Option.isSome_some List.set_cons_zero List.set_cons_succ Bool.and_self Bool.and_true Bool.true_and List.length_map resD rvA List.size_toArray Qd6
section
variable {ops : Array Oper} {Q : Exit -> St -> Prop} {K : St -> Prop} {l : List Oper} {n : Nat} {env : List (Nat × AV)} {H H' : List Blk} {d : Tmp} {op : Op} {ty : TypeId} {pos : String} {after : Array Edge} {gd : Option (Nat × Bool)} {x : AV} {C : Blk}
theorem e1 (hw : awanted ops env ⟨some d, op, ty, pos, after, gd⟩ = some true := by rfl) (h : ∀ R : Option (AV × Option Blk) -> Prop, R (some (x, none)) -> R (evOp P env H op) := by intro R hR; simp only [go_sem, Nat.reduceEqDiff, Nat.reduceAdd, Nat.reduceLT, Nat.reduceLeDiff, ↓reduceIte, reduceCtorEq]; exact hR)
 (hd : Nat.blt d n = true := by rfl) (hg : gdOk ops n ⟨some d, op, ty, pos, after, gd⟩ = true := by rfl)
 (k : ASeq P ops Q l ⟨n, (d, x) :: env, H⟩) : ASeq P ops Q (⟨some d, op, ty, pos, after, gd⟩ :: l) ⟨n, env, H⟩ := s1 (Qh0 (h (fun r => r = some (x, none)) rfl)) hd hg hw k
theorem e2 (hw : awanted ops env ⟨some d, op, ty, pos, after, gd⟩ = some true := by rfl) (h : ∀ R : Option (AV × Option Blk) -> Prop, R (some (x, some C)) -> R (evOp P env H op) := by intro R hR; simp only [go_sem, Nat.reduceEqDiff, Nat.reduceAdd, Nat.reduceLT, Nat.reduceLeDiff, ↓reduceIte, reduceCtorEq]; exact hR)
 (hd : Nat.blt d n = true := by rfl) (hg : gdOk ops n ⟨some d, op, ty, pos, after, gd⟩ = true := by rfl)
 (hH : ∀ R : List Blk -> Prop, R H' -> R (H ++ [C]) := by intro R hR; simp only [List.cons_append, List.nil_append]; exact hR)
 (k : ASeq P ops Q l ⟨n, (d, x) :: env, H'⟩) : ASeq P ops Q (⟨some d, op, ty, pos, after, gd⟩ :: l) ⟨n, env, H⟩ := s2 (Qh0 (h (fun r => r = some (x, some C)) rfl)) hd hg hw (by have := hH (fun r => r = H') rfl; rw [this]; exact k)
theorem e0 (hw : awanted ops env ⟨some d, op, ty, pos, after, gd⟩ = some false := by rfl) (hd : Nat.blt d n = true := by rfl) (hg : gdOk ops n ⟨some d, op, ty, pos, after, gd⟩ = true := by rfl)
 (k : ASeq P ops Q l ⟨n, (d, .d (.v undef)) :: env, H⟩) : ASeq P ops Q (⟨some d, op, ty, pos, after, gd⟩ :: l) ⟨n, env, H⟩ := s0 hw hd hg k
theorem f1 (hw : awanted ops env ⟨some d, op, ty, pos, after, gd⟩ = some true := by rfl) (h : ∀ R : Option (AV × Option Blk) -> Prop, R (some (x, none)) -> R (evOp P env H op) := by intro R hR; simp only [go_sem, Nat.reduceEqDiff, Nat.reduceAdd, Nat.reduceLT, Nat.reduceLeDiff, ↓reduceIte, reduceCtorEq]; exact hR)
 (hd : Nat.blt d n = true := by rfl)
 (k : ADraw P ops K l ⟨n, (d, x) :: env, H⟩) : ADraw P ops K (⟨some d, op, ty, pos, after, gd⟩ :: l) ⟨n, env, H⟩ := d1 (Qh0 (h (fun r => r = some (x, none)) rfl)) hd hw k
theorem f2 (hw : awanted ops env ⟨some d, op, ty, pos, after, gd⟩ = some true := by rfl) (h : ∀ R : Option (AV × Option Blk) -> Prop, R (some (x, some C)) -> R (evOp P env H op) := by intro R hR; simp only [go_sem, Nat.reduceEqDiff, Nat.reduceAdd, Nat.reduceLT, Nat.reduceLeDiff, ↓reduceIte, reduceCtorEq]; exact hR)
 (hd : Nat.blt d n = true := by rfl)
 (hH : ∀ R : List Blk -> Prop, R H' -> R (H ++ [C]) := by intro R hR; simp only [List.cons_append, List.nil_append]; exact hR)
 (k : ADraw P ops K l ⟨n, (d, x) :: env, H'⟩) : ADraw P ops K (⟨some d, op, ty, pos, after, gd⟩ :: l) ⟨n, env, H⟩ := d2 (Qh0 (h (fun r => r = some (x, some C)) rfl)) hd hw (by have := hH (fun r => r = H') rfl; rw [this]; exact k)
theorem f0 (hw : awanted ops env ⟨some d, op, ty, pos, after, gd⟩ = some false := by rfl) (hd : Nat.blt d n = true := by rfl)
 (k : ADraw P ops K l ⟨n, (d, .d (.v undef)) :: env, H⟩) : ADraw P ops K (⟨some d, op, ty, pos, after, gd⟩ :: l) ⟨n, env, H⟩ := d0 hw hd k
theorem stepS (hl : Loc P ⟨some d, op, ty, pos, after, gd⟩ env H x none) (hw : awanted ops env ⟨some d, op, ty, pos, after, gd⟩ = some true := by rfl) (hd : Nat.blt d n = true := by rfl) (hg : gdOk ops n ⟨some d, op, ty, pos, after, gd⟩ = true := by rfl)
 (k : ASeq P ops Q l ⟨n, (d, x) :: env, H⟩) : ASeq P ops Q (⟨some d, op, ty, pos, after, gd⟩ :: l) ⟨n, env, H⟩ := s1 hl hd hg hw k
theorem stepD (hl : Loc P ⟨some d, op, ty, pos, after, gd⟩ env H x none) (hd : Nat.blt d n = true := by rfl) (hw : awanted ops env ⟨some d, op, ty, pos, after, gd⟩ = some true := by rfl)
 (k : ADraw P ops K l ⟨n, (d, x) :: env, H⟩) : ADraw P ops K (⟨some d, op, ty, pos, after, gd⟩ :: l) ⟨n, env, H⟩ := d1 hl hd hw k
end
theorem Qbd {ops : Array Oper} {Q : Exit -> St -> Prop} {y : Code} {s : St} (h : AWP P y Q s) : ASeq P ops (thenA (AWP P y Q) Q) [] s := Qb0 h
theorem Qbr {ops : Array Oper} {Q : Exit -> St -> Prop} {y : Code} {s : St} (h : AWP P y Q s) : ADraw P ops (thenA (AWP P y Q) Q .normal) [] s := h
theorem Qbf {x y : Code} {Q : Exit -> St -> Prop} {s : St} (h : AWP P x (thenA (AWP P y Q) Q) s) : AWP P (.seq x y) Q s := awp_seq fun K hK => fun B hB σ S a w hA => by
 refine wp_mono (h B hB σ S a w hA) ?_;rintro e a w ⟨s', σ', S', hq, hA'⟩;cases e with
 |normal => exact ⟨s', σ', S', hK _ hq, hA'⟩
 |_ => exact ⟨s', σ', S', hq, hA'⟩
theorem Qbg (k : Nat) {C : Blk} {c : Code} {Q : Exit -> St -> Prop} {n : Nat} {env env' : List (Nat × AV)} {H H' : List Blk} (hC : H[k]? = some C := by rfl)
 (he : ∀ R : List (Nat × AV) -> Prop, R env' -> R (frzE k C env) := by intro R hR; simp only [frzE, AV.frz, AV.frzL, Blk.gen, Blk.iceP, Blk.iceS, Blk.iceM, AV.data, beq_self_eq_true, Nat.reduceBEq, Bool.and_self, Bool.and_true, Bool.true_and, Bool.false_and, Bool.and_false, cond_true, cond_false, List.drop_zero, List.drop_succ_cons, List.map_cons, List.map_nil]; exact hR)
 (hh : ∀ R : List Blk -> Prop, R H' -> R ((H.set k C.dead).map (Blk.frz k C)) := by intro R hR; simp only [Blk.dead, Blk.frz, AV.frz, AV.frzL, Blk.gen, Blk.iceP, Blk.iceS, Blk.iceM, AV.data, List.set_cons_zero, List.set_cons_succ, List.map_cons, List.map_nil, Nat.zero_add, beq_self_eq_true, Nat.reduceBEq, Bool.and_self, Bool.and_true, Bool.true_and, Bool.false_and, Bool.and_false, cond_true, cond_false, List.drop_zero, List.drop_succ_cons]; exact hR)
 (h : AWP P c Q ⟨n, env', H'⟩) : AWP P c Q ⟨n, env, H⟩ := by
 have h1 := he (fun r => r = env') rfl;have h2 := hh (fun r => r = H') rfl;subst h1; subst h2;exact Qet (QdO k hC) h
theorem Qbn {Q : Exit -> St -> Prop} {n : Nat} {env : List (Nat × AV)} {H : List Blk} {rs : List ResultVar} {x y : D} (hq : Q .ret ⟨n, env, H⟩ = (resD env rs = some x) := by rfl)
 (h : ∀ R : Option D -> Prop, R (some y) -> R (resD env rs) := by intro R hR; simp only [go_sem, Nat.reduceEqDiff, Nat.reduceAdd, Nat.reduceLT, Nat.reduceLeDiff, ↓reduceIte, reduceCtorEq]; exact hR) (hx : y = x) : AWP P .ret Q ⟨n, env, H⟩ :=
 Qf6 (by rw [hq]; exact hx ▸ h (fun r => r = some y) rfl)
theorem QcN {K : St -> Prop} {Q : Exit -> St -> Prop} {s : St} (h : K s) : thenA K Q .normal s := h
theorem Qbp {ops : Array Oper} {K : St -> Prop} {Q : Exit -> St -> Prop} {s : St} (h : K s) : ASeq P ops (thenA K Q) [] s := Qb0 h
theorem QbE {ops : Array Oper} {K : St -> Prop} {s : St} (h : K s) : ADraw P ops K [] s := h
def Back (I : Nat -> St -> Prop) (_ts : List Nat) (_m n : Nat) (s : St) : Prop := ∃ s1 n1, Weak s s1 /\ n1 < n /\ I n1 s1
theorem Qby (I : Nat -> St -> Prop) (ts : List Nat) (m : Nat) (n0 : Nat) {c : Code} {Q : Exit -> St -> Prop} {n : Nat} {env : List (Nat × AV)} {H : List Blk}
 (h0 : I n0 ⟨n, keepE env ts, H.take m⟩) (h1 : envLt m (keepE env ts) = true := by rfl) (h2 : (H.take m).all (Blk.lt m) = true := by rfl)
 (round : ∀ n s, I n s -> AWP P c (thenA (Back I ts m n) Q) s) : AWP P (.loop c) Q ⟨n, env, H⟩ := by
 refine Qnu I n0 (Qea ts m rfl rfl h1 h2) h0 fun n s hI => ?_
 intro B hB σ S a w hA;refine wp_mono (round n s hI B hB σ S a w hA) ?_;rintro e a w ⟨s', σ', S', hq, hA'⟩;cases e with
 |normal =>
  exact ⟨s', σ', S', hq, hA'⟩
 |_ => exact ⟨s', σ', S', hq, hA'⟩
theorem Qbt {I : Nat -> St -> Prop} {ts : List Nat} {m n : Nat} {s : St} (n1 : Nat) (h1 : n1 < n) (h2 : I n1 ⟨s.n, keepE s.env ts, s.H.take m⟩) (h3 : envLt m (keepE s.env ts) = true := by rfl) (h4 : (s.H.take m).all (Blk.lt m) = true := by rfl) :
 Back I ts m n s := ⟨_, n1, Qea ts m rfl rfl h3 h4, h1, h2⟩
theorem Qmi (k : Nat) {C : Blk} {I : Nat -> St -> Prop} {ts : List Nat} {m n N : Nat} {env env' : List (Nat × AV)} {H H' : List Blk} (hC : H[k]? = some C := by rfl)
 (he : ∀ R : List (Nat × AV) -> Prop, R env' -> R (frzE k C env) := by intro R hR; simp only [frzE, AV.frz, AV.frzL, Blk.gen, Blk.iceP, Blk.iceS, Blk.iceM, AV.data, beq_self_eq_true, Nat.reduceBEq, Bool.and_self, Bool.and_true, Bool.true_and, Bool.false_and, Bool.and_false, cond_true, cond_false, List.drop_zero, List.drop_succ_cons, List.map_cons, List.map_nil]; exact hR)
 (hh : ∀ R : List Blk -> Prop, R H' -> R ((H.set k C.dead).map (Blk.frz k C)) := by intro R hR; simp only [Blk.dead, Blk.frz, AV.frz, AV.frzL, Blk.gen, Blk.iceP, Blk.iceS, Blk.iceM, AV.data, List.set_cons_zero, List.set_cons_succ, List.map_cons, List.map_nil, Nat.zero_add, beq_self_eq_true, Nat.reduceBEq, Bool.and_self, Bool.and_true, Bool.true_and, Bool.false_and, Bool.and_false, cond_true, cond_false, List.drop_zero, List.drop_succ_cons]; exact hR)
 (h : Back I ts m n ⟨N, env', H'⟩) : Back I ts m n ⟨N, env, H⟩ := by
 have h1 := he (fun r => r = env') rfl;have h2 := hh (fun r => r = H') rfl;subst h1; subst h2;obtain ⟨s1, n1, h3, h4, h5⟩ := h;exact ⟨s1, n1, (QdO k hC).trans h3, h4, h5⟩
theorem Qbo {c : Operand} {X Y : Code} {b : Bool} {Q : Exit -> St -> Prop} {n : Nat} {env : List (Nat × AV)} {H : List Blk}
 (hc : ∀ R : AV -> Prop, R (.d (.v (.bool b))) -> R (aval env c) := by intro R hR; simp only [go_sem, Nat.reduceEqDiff, Nat.reduceAdd, Nat.reduceLT, Nat.reduceLeDiff, ↓reduceIte, reduceCtorEq]; exact hR)
 (ht : b = true -> AWP P X Q ⟨n, env, H⟩) (hf : b = false -> AWP P Y Q ⟨n, env, H⟩) : AWP P (.cond c X Y) Q ⟨n, env, H⟩ :=
 QgG (hc (fun r => r = .d (.v (.bool b))) rfl) ht hf
theorem Qbl {c : Operand} {X Y : Code} {Q : Exit -> St -> Prop} {n : Nat} {env : List (Nat × AV)} {H : List Blk}
 (hc : aval env c = .d (.v (.bool true)) := by rfl) (ht : AWP P X Q ⟨n, env, H⟩) : AWP P (.cond c X Y) Q ⟨n, env, H⟩ := QgG hc (fun _ => ht) (fun e => by cases e)
theorem Qbm {c : Operand} {X Y : Code} {Q : Exit -> St -> Prop} {n : Nat} {env : List (Nat × AV)} {H : List Blk}
 (hc : aval env c = .d (.v (.bool false)) := by rfl) (hf : AWP P Y Q ⟨n, env, H⟩) : AWP P (.cond c X Y) Q ⟨n, env, H⟩ := QgG hc (fun e => by cases e) (fun _ => hf)
theorem x_then {K : St -> Prop} {Q : Exit -> St -> Prop} {id : Nat} {s : St} (h : Q (.exit id) s) : thenA K Q (.exit id) s := h
theorem x_block {Q : Exit -> St -> Prop} {id : Nat} {s : St} (h : Q .normal s) : blockA id Q (.exit id) s := by simpa [blockA] using h
theorem Qfi {Q : Exit -> St -> Prop} {id : Nat} {s : St} (h : Q .normal s) : blockA id Q .normal s := h
theorem splitD {ops : Array Oper} {K : St -> Prop} {l : List Oper} {n : Nat} {env : List (Nat × AV)} {H : List Blk} {d : Tmp} {b : Bool}
 (ht : b = true -> ADraw P ops K l ⟨n, (d, .d (.v (.bool true))) :: env, H⟩) (hf : b = false -> ADraw P ops K l ⟨n, (d, .d (.v (.bool false))) :: env, H⟩) : ADraw P ops K l ⟨n, (d, .d (.v (.bool b))) :: env, H⟩ := by
 cases b
 ·exact hf rfl
 ·exact ht rfl
theorem splitS {ops : Array Oper} {Q : Exit -> St -> Prop} {l : List Oper} {n : Nat} {env : List (Nat × AV)} {H : List Blk} {d : Tmp} {b : Bool}
 (ht : b = true -> ASeq P ops Q l ⟨n, (d, .d (.v (.bool true))) :: env, H⟩) (hf : b = false -> ASeq P ops Q l ⟨n, (d, .d (.v (.bool false))) :: env, H⟩) : ASeq P ops Q l ⟨n, (d, .d (.v (.bool b))) :: env, H⟩ := by
 cases b
 ·exact hf rfl
 ·exact ht rfl
theorem Ev.trans {σ σ1 σ2 : Sg} {S S1 S2 : Nat -> Prop} {H H1 H2 : List Blk} {w w1 w2 : World} (a : Ev σ S H w σ1 S1 H1 w1) (b : Ev σ1 S1 H1 w1 σ2 S2 H2 w2) : Ev σ S H w σ2 S2 H2 w2 :=
 ⟨fun x hx => b.s x (a.s x hx), fun x hx => (b.same x (a.s x hx)).trans (a.same x hx), fun k g cells hk => by
   obtain ⟨g1, c1, e1, e2, e3⟩ := a.row k g cells hk;obtain ⟨g2, c2, e4, e5, e6⟩ := b.row k g1 c1 e1;exact ⟨g2, c2, e4, by omega, fun e b hb => e6 (by omega) b (e3 (by omega) b hb)⟩,
  fun k g sz T rows hk => by
   obtain ⟨g1, c1, e1, e2, e3⟩ := a.arr k g sz T rows hk;obtain ⟨g2, c2, e4, e5, e6⟩ := b.arr k g1 sz T c1 e1;refine ⟨g2, c2, e4, by omega, fun e => ?_⟩;obtain ⟨f1, f2, f3⟩ := e3 (by omega);obtain ⟨f4, f5, f6⟩ := e6 (by omega);refine ⟨f4.trans f1, by omega, fun b cs T hb hc => ?_⟩;obtain ⟨cs1, g3, g4⟩ := f3 b cs T hb hc;obtain ⟨cs2, g5, g6⟩ := f6 b cs1 T (f1.trans hb) g3;exact ⟨cs2, g5, by omega⟩,
  fun k g l hk => by
   obtain ⟨g1, c1, e1, e2, e3⟩ := a.mp k g l hk;obtain ⟨g2, c2, e4, e5, e6⟩ := b.mp k g1 c1 e1
   exact ⟨g2, c2, e4, by omega, fun e b hb => e6 (by omega) b (e3 (by omega) b hb)⟩⟩
def Eff (P : Program) (o : Oper) (env : List (Nat × AV)) (H : List Blk) (x : AV) (H' : List Blk) : Prop :=
 ∀ B σ S a w, Gd B -> Sm B σ S H w -> (∀ u ∈ o.op.operands, Rel σ S H w (aval env u) (a.eval u)) ->
   ∀ (K : Act -> World -> Prop) (Q : Exit -> Act -> World -> Prop), (∀ v w' σ' S', Sm B σ' S' H' w' -> Rel σ' S' H' w' x v -> Ev σ S H w σ' S' H' w' -> K (a.put o.dst v) w') -> o.wp P a w K Q
theorem SmA.next' {B : Bs} {σ σ' : Sg} {S S' : Nat -> Prop} {n : Nat} {env : List (Nat × AV)} {H H' : List Blk} {a : Act} {w w' : World} {dst : Option Tmp} {x : AV} {v : Value} (h : SmA B σ S ⟨n, env, H⟩ a w) (hd : dstOk n dst = true)
 (hS : Sm B σ' S' H' w') (hR : Rel σ' S' H' w' x v) (hev : Ev σ S H w σ' S' H' w') : SmA B σ' S' ⟨n, putE env dst x, H'⟩ (a.put dst v) w' := by
 refine ⟨hS, by cases dst <;> exact h.defers, ?_, fun t => ?_⟩
 ·cases dst
  ·exact h.size
  ·simp only [Act.put, Array.size_setIfInBounds]; exact h.size
 ·show Rel _ _ _ _ (look (putE env dst x) t) _
  cases hdd : dst with
  |none => exact (h.env t).mono hev
  |some d =>
   rw [hdd] at hd;have hlt : d < a.tmps.size := by rw [h.size]; simpa [dstOk] using hd
   by_cases hdt : d = t
   ·subst hdt
    have : (a.put (some d) v).tmps.getD d undef = v := by
     simp only [Act.put];rw [Array.getD_eq_getD_getElem?, Array.getElem?_setIfInBounds_self_of_lt hlt]; rfl
    rw [this];show Rel _ _ _ _ (look ((d, x) :: env) d) _;rw [QbM]; exact hR
   ·have : (a.put (some d) v).tmps.getD t undef = a.tmps.getD t undef := by
     simp only [Act.put];rw [Array.getD_eq_getD_getElem?, Array.getElem?_setIfInBounds_ne hdt, <- Array.getD_eq_getD_getElem?]
    rw [this];show Rel _ _ _ _ (look ((d, x) :: env) t) _;rw [QbU hdt];exact (h.env t).mono hev
theorem Qj2 {P : Program} {ops : Array Oper} {Q : Exit -> St -> Prop} {o : Oper} {l : List Oper} {n : Nat} {env : List (Nat × AV)} {H H' : List Blk} {x : AV} (hl : Eff P o env H x H') (hd : dstOk n o.dst = true) (hg : gdOk ops n o = true)
 (hw : awanted ops env o = some true) (h : ASeq P ops Q l ⟨n, putE env o.dst x, H'⟩) : ASeq P ops Q (o :: l) ⟨n, env, H⟩ := by
 intro B hB σ S a w hA;unfold wpList;rw [if_pos (Qeb hA hw (QcX hg))];exact .inl (hl B σ S a w hB hA.sm (fun u _ => Qc7 fun t _ => hA.env t) _ _ fun v w' σ' S' h1 h2 h3 => h B hB σ' S' _ w' (hA.next' hd h1 h2 h3))
theorem QhI {P : Program} {ops : Array Oper} {Q : Exit -> St -> Prop} {l : List Oper} {n : Nat} {env : List (Nat × AV)} {H H' : List Blk} {d : Tmp} {op : Op} {ty : TypeId} {pos : String} {after : Array Edge} {gd : Option (Nat × Bool)} {x : AV}
 (hl : Eff P ⟨some d, op, ty, pos, after, gd⟩ env H x H') (hw : awanted ops env ⟨some d, op, ty, pos, after, gd⟩ = some true := by rfl) (hd : Nat.blt d n = true := by rfl) (hg : gdOk ops n ⟨some d, op, ty, pos, after, gd⟩ = true := by rfl)
 (k : ASeq P ops Q l ⟨n, (d, x) :: env, H'⟩) : ASeq P ops Q (⟨some d, op, ty, pos, after, gd⟩ :: l) ⟨n, env, H⟩ := Qj2 hl hd hg hw k
theorem QgI {P : Program} {ops : Array Oper} {Q : Exit -> St -> Prop} {l : List Oper} {n : Nat} {env : List (Nat × AV)} {H H' : List Blk} {op : Op} {ty : TypeId} {pos : String} {after : Array Edge} {gd : Option (Nat × Bool)} {x : AV}
 (hl : Eff P ⟨none, op, ty, pos, after, gd⟩ env H x H') (hw : awanted ops env ⟨none, op, ty, pos, after, gd⟩ = some true := by rfl) (hg : gdOk ops n ⟨none, op, ty, pos, after, gd⟩ = true := by rfl)
 (k : ASeq P ops Q l ⟨n, env, H'⟩) : ASeq P ops Q (⟨none, op, ty, pos, after, gd⟩ :: l) ⟨n, env, H⟩ := Qj2 hl rfl hg hw k
theorem QeY {P : Program} {w : World} {a : Addr} {v c : Value} (hc : w.cell? a = some c) (hf : w.frozen? a = false) (ho : v.oneCell' = true) : (store a v).run P w = .ok () (w.setCell a v) := by
 rw [run_store P w a v .plain ho, hc, hf]; rfl
theorem QgT {P : Program} {B : Bs} {S : Nat -> Prop} {k g b : Nat} : ∀ (l : List AV) (vs : List Value) {σ : Sg} {H : List Blk} {w : World} {cells : List AV} {o : Nat} (i : Nat), Sm B σ S H w -> σ k = some b -> H[k]? = some (.row g cells) -> vs.length = l.length ->
 (∀ (j : Nat) x, l[j]? = some x -> ∃ v, vs[j]? = some v /\ Rel σ S H w x v /\ v.oneCell' = true) -> o + i + l.length <= cells.length ->
 ∃ w', (storeCells ⟨b, o, none⟩ vs i).run P w = .ok () w' /\ Sm B σ S (H.set k (.row g (setAt cells (o + i) l))) w' /\ Ev σ S H w σ S (H.set k (.row g (setAt cells (o + i) l))) w'
 |[], [], σ, H, w, cells, o, i, hS, _, hk, _, _, _ => by
  have hset : H.set k (.row g cells) = H := by
   apply List.ext_getElem?;intro j
   by_cases hj : j = k
   ·subst hj; rw [List.getElem?_set_self (List.getElem?_eq_some_iff.1 hk).1, hk]
   ·rw [List.getElem?_set_ne (fun e => hj e.symm)]
  exact ⟨w, rfl, by simpa [setAt, hset] using hS, by simpa [setAt, hset] using Ev.refl σ S H w⟩
 |[], v :: vs, _, _, _, _, _, _, _, _, _, hl, _, _ => by simp at hl
 |x :: l, [], _, _, _, _, _, _, _, _, _, hl, _, _ => by simp at hl
 |x :: l, v :: vs, σ, H, w, cells, o, i, hS, hb, hk, hl, hr, hlen => by
  obtain ⟨v', hv', hx, ho⟩ := hr 0 x rfl;simp at hv'; subst hv';have hlt : o + i < cells.length := by simp at hlen; omega
  have hkl : k < H.length := (List.getElem?_eq_some_iff.1 hk).1;rcases hS.blk k _ hk with ⟨b', cs, T, hb', hc, hrel⟩ | ⟨hb', _⟩;rotate_left
  ·rw [hb] at hb'; cases hb'
  rw [hb] at hb'; obtain rfl := Option.some.inj hb';obtain ⟨c, hcc, _⟩ := hrel (o + i) _ (List.getElem?_eq_getElem hlt);have hcell : w.cell? ⟨b, o + i, none⟩ = some c := by rw [cell_of_row w b (o + i) cs T (0, 0) hc]; exact hcc
  have hfr : w.frozen? ⟨b, o + i, none⟩ = false := frozen_of_row w b (o + i) cs T hc;obtain ⟨h1, h2⟩ := hS.setRow hb hk hx hlt
  obtain ⟨w', h3, h4, h5⟩ := QgT l vs (cells := cells.set (o + i) x) (o := o) (i + 1) h1 hb (List.getElem?_set_self hkl) (by simpa using hl)
   (fun j y hy => by
     obtain ⟨u, hu, hru, hou⟩ := hr (j + 1) y (by simpa using hy)
     exact ⟨u, by simpa using hu, hru.mono h2, hou⟩) (by rw [List.length_set]; simp at hlen; omega)
  refine ⟨w', ?_, ?_, ?_⟩
  ·unfold storeCells
   rw [Sem.run_bind];have : (⟨b, o, none⟩ : Addr).add i = ⟨b, o + i, none⟩ := Qcg b o i;rw [this, QeY hcell hfr ho, Result.andThen_ok];exact h3
  ·simp only [List.set_set] at h4
   simpa [setAt, Nat.add_assoc] using h4
  ·simp only [List.set_set] at h5
   have := h2.trans h5;simpa [setAt, Nat.add_assoc] using this
def AV.one : AV -> Bool
 |.d x => x.cell
 |.agg _ | .tup _ | .gh _ _ => false
 |_ => true
theorem AV.one_rel {σ : Sg} {S : Nat -> Prop} {H : List Blk} {w : World} {x : AV} {v : Value} (h : Rel σ S H w x v) (ho : x.one = true) : v.oneCell' = true := by
 cases h with
 |d d v h => exact D.cell_one h ho
 |agg => cases ho
 |tup => cases ho
 |gh => cases ho
 |fn => rfl
 |_ => assumption
theorem Qh3 {P : Program} {T : TypeId} {F : TyF} {u v : Operand} {k g o : Nat} {cells l : List AV} {ty : TypeId} {pos : String} {after : Array Edge} {gd : Option (Nat × Bool)} {env : List (Nat × AV)} {H : List Blk}
 (hT : tyf P T = some F) (hu : aval env u = .ptr k g o) (hk : H[k]? = some (.row g cells)) (hv : (aval env v).cells = some l) (hone : l.all AV.one = true) (hsz : l.length = F.size) (hlen : o + l.length <= cells.length) :
 Eff P ⟨none, .store T u v, ty, pos, after, gd⟩ env H (.d (.v undef)) (H.set k (.row g (setAt cells o l))) := by
 intro B σ S a w hB hS hop K Q kk;have h1 := hop u (by simp [Op.operands]);rw [hu] at h1;generalize hx : a.eval u = x at h1;cases h1 with
 |ptr _ _ _ _ _ g' cells' hk' hg hh =>
  rw [hk] at hk';obtain ⟨rfl, rfl⟩ : g = g' /\ cells = cells' := by injection (Option.some.inj hk') with h1 h2; exact ⟨h1, h2⟩
  obtain ⟨b, hb, rfl⟩ := hh rfl;obtain ⟨hs1, hs2⟩ := AV.cells_rel (hop v (by simp [Op.operands])) hv
  obtain ⟨w', h3, h4, h5⟩ := QgT (P := P) l (a.eval v).cells.toList (o := o) 0 hS hb hk (by simpa using hs1) (fun j y hy => by
   obtain ⟨c, hc, hr⟩ := hs2 j y hy
   exact ⟨c, by simpa using hc, hr, AV.one_rel hr (List.all_eq_true.1 hone y (List.mem_of_getElem? hy))⟩) (by simpa using hlen)
  have hrun : (execOp a.eval ⟨none, .store T u v, ty, pos, after, gd⟩).run P w = .ok .skip w' := by
   simp only [execOp, Instr.storeAt, Instr.sureAddr, hx, storeVar, Sem.run_bind, Sem.run_pure, Result.andThen_ok, Qcu hT];rw [if_neg (by rw [hs1, hsz]; simp)];rw [h3]; rfl
  unfold Oper.wp;rw [hrun];exact kk undef w' σ S (by simpa using h4) (.d _ _ (.v _)) (by simpa using h5)
theorem QfY {P : Program} {T T0 : TypeId} {F : TyF} {u v : Operand} {k g i j sz : Nat} {rows : List (List D)} {r : List D} {x : D} {ty : TypeId} {pos : String} {after : Array Edge} {gd : Option (Nat × Bool)} {env : List (Nat × AV)} {H : List Blk}
 (hT : tyf P T = some F) (hu : aval env u = .ept k g i j) (hk : H[k]? = some (.arr g sz T0 rows)) (hr : rows[i]? = some r) (hj : j < r.length) (hv : aval env v = .d x) (hone : x.cell = true) (hsz : F.size = 1) :
 Eff P ⟨none, .store T u v, ty, pos, after, gd⟩ env H (.d (.v undef)) (H.set k (.arr g sz T0 (rows.set i (r.set j x)))) := by
 intro B σ S a w hB hS hop K Q kk;have h1 := hop u (by simp [Op.operands]);have h2 := hop v (by simp [Op.operands]);rw [hu] at h1;rw [hv] at h2;generalize hx : a.eval u = y at h1;cases h2 with
 |d _ _ h2 =>
  have ho := D.cell_one h2 hone;cases h1 with
  |ept _ _ _ _ _ _ g' sz' T' rows' hk' hg hh =>
   rw [hk] at hk';obtain ⟨rfl, rfl, rfl, rfl⟩ : g = g' /\ sz = sz' /\ T0 = T' /\ rows = rows' := by injection (Option.some.inj hk') with h1 h2 h3 h4; exact ⟨h1, h2, h3, h4⟩
   obtain ⟨b, hb, rfl⟩ := hh rfl;obtain ⟨_, hbk⟩ := hS.blk k _ hk;rcases hbk with ⟨b', cs, hb', hc, hrel⟩ | ⟨hb', _⟩;rotate_left
   ·rw [hb] at hb'; cases hb'
   rw [hb] at hb'; obtain rfl := Option.some.inj hb';obtain ⟨c, hcc, _⟩ := hrel i j r _ hr (List.getElem?_eq_getElem hj);have hcell : w.cell? ⟨b, i * sz + j, none⟩ = some c := by rw [cell_of_row w b _ cs T0 (0, 0) hc]; exact hcc
   have hfr : w.frozen? ⟨b, i * sz + j, none⟩ = false := frozen_of_row w b _ cs T0 hc;obtain ⟨h4, h5⟩ := hS.setArr hb hk hr hj h2
   have hrun : (execOp a.eval ⟨none, .store T u v, ty, pos, after, gd⟩).run P w = .ok .skip (w.setCell ⟨b, i * sz + j, none⟩ (a.eval v)) := by
    simp only [execOp, Instr.storeAt, Instr.sureAddr, hx, storeVar, Sem.run_bind, Sem.run_pure, Result.andThen_ok, Qcu hT];rw [QcB ho, if_neg (by rw [hsz]; simp)];simp only [storeCells, Sem.run_bind, Sem.run_pure, Result.andThen_ok];have hz : (⟨b, i * sz + j, none⟩ : Addr).add 0 = ⟨b, i * sz + j, none⟩ := Qcg _ _ 0;rw [hz, QeY hcell hfr ho]; rfl
   unfold Oper.wp;rw [hrun];exact kk undef _ σ S h4 (.d _ _ (.v _)) h5
end Aw
end Go.Proofs.YtdjkdcokjoiokaaGreatDoor

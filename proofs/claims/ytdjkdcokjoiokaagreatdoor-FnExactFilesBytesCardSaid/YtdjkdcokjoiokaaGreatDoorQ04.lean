/- Part 4 of the proof of bytes_card: contracts, walks, plain laws; no condition is assumed beyond those that a statement names. -/
import Derived.Test.YtdjkdcokjoiokaaGreatDoorQ02
import Derived.Test.YtdjkdcokjoiokaaGreatDoorQ03
set_option linter.all false
namespace Go.Proofs.YtdjkdcokjoiokaaGreatDoor
open Go.RowKit
namespace Aw
def nG : Nat := (max (max 3 0) (max 1 2)) + 1
structure Gd (B : Bs) : Prop where
 g : B.G = nG
 own : ∀ b, B.own b -> nG <= b
 lt : Pm.Lt B.w0
theorem Lt.size {w : World} (h : Pm.Lt w) : nG <= w.heap.size := by
 obtain ⟨m, h1⟩ := h.maxl
 obtain ⟨_, _, h2⟩ := h.syn
 obtain ⟨_, _, h3⟩ := h.ran
 have h1 := Pm.Qhc h1; have h2 := Pm.Qhc h2; have h3 := Pm.Qhc h3
 have h4 : 3 < w.heap.size := by
  have ht := h.tab
  unfold Lib.TabIs World.var? at ht
  rw [show Program.globalNamed Tryz.prog "internal/strconv.uint64pow10" = some 3 from by kernel_rfl] at ht
  rcases Nat.lt_or_ge 3 w.heap.size with hlt | hge
  ·exact hlt
  ·simp only [Option.bind_some] at ht; rw [Array.getElem?_eq_none hge] at ht; cases ht
 unfold nG; omega
theorem Lt.low {w w' : World} (h : Pm.Lt w) (hb : ∀ b, b < nG -> w'.heap[b]? = w.heap[b]?) : Pm.Lt w' := by
 refine ⟨?_, ?_, ?_, ?_⟩
 ·have ht := h.tab
  unfold Lib.TabIs World.var? at *
  rw [show Program.globalNamed Tryz.prog "internal/strconv.uint64pow10" = some 3 from by kernel_rfl] at *
  simp only [Option.bind_some] at ht ⊢
  rw [hb _ (by unfold nG; omega)]; exact ht
 ·obtain ⟨m, e⟩ := h.maxl; exact ⟨m, (QdF (hb _ (by unfold nG; omega))).trans e⟩
 ·obtain ⟨t, p, e⟩ := h.syn; exact ⟨t, p, (QdF (hb _ (by unfold nG; omega))).trans e⟩
 ·obtain ⟨t, p, e⟩ := h.ran; exact ⟨t, p, (QdF (hb _ (by unfold nG; omega))).trans e⟩
theorem Gd.ltOf {B : Bs} (h : Gd B) {σ : Sg} {S : Nat -> Prop} {H : List Blk} {w : World} (hS : Sm B σ S H w) : Pm.Lt w :=
 Lt.low h.lt fun b hb => hS.keep b (by have := Lt.size h.lt; omega) fun ho => by have := h.own b ho; omega
theorem Gd.again {B : Bs} (h : Gd B) {σ : Sg} {S : Nat -> Prop} {H : List Blk} {w : World} (hS : Sm B σ S H w) (S' : Nat -> Prop) : Gd ⟨w, B.G, fun _ => False, S'⟩ :=
 ⟨h.g, fun _ hb => hb.elim, h.ltOf hS⟩
structure St where
 n : Nat
 env : List (Nat × AV)
 H : List Blk
def look : List (Nat × AV) -> Nat -> AV
 |[], _ => .d .any
 |(t, x) :: r, u => bif Nat.beq t u then x else look r u
theorem QbZ (t : Nat) (x : AV) (r : List (Nat × AV)) : look ((t, x) :: r) t = x := by simp [look]
theorem Qck {t u : Nat} (h : t ≠ u) (x : AV) (r : List (Nat × AV)) : look ((t, x) :: r) u = look r u := by
 have : Nat.beq t u = false := by
  cases hb : Nat.beq t u
  ·rfl
  ·exact absurd (Nat.eq_of_beq_eq_true hb) h
 simp [look, this]
def D.ofV : Value -> D
 |.agg cs => .agg (cs.toList.map .v)
 |x => .v x
theorem D.ofV_rel (S : Nat -> Prop) (w : World) (v : Value) : RelD S w (D.ofV v) v := by
 cases v <;> first | exact .v _ | skip
 rename_i cs
 have := RelD.agg (S := S) (w := w) (cs.toList.map .v) cs.toList (by simp) (fun i d x hd hx => by
  rw [List.getElem?_map, hx] at hd
  obtain rfl := Option.some.inj hd
  exact .v _)
 exact this
def aval (env : List (Nat × AV)) : Operand -> AV
 |.tmp t => look env t
 |.const v => .d (D.ofV v)
 |.global g => .d (.v (.pointer (some ⟨g, 0, none⟩)))
 |.func f => .fn (.func f) []
structure SmA (B : Bs) (σ : Sg) (S : Nat -> Prop) (s : St) (a : Act) (w : World) : Prop where
 sm : Sm B σ S s.H w
 defers : a.defers = []
 size : a.tmps.size = s.n
 env : ∀ t, Rel σ S s.H w (look s.env t) (a.tmps.getD t undef)
theorem QcF {σ : Sg} {S : Nat -> Prop} {H : List Blk} {w : World} {env : List (Nat × AV)} {a : Act} {u : Operand}
 (h : ∀ t, u = .tmp t -> Rel σ S H w (look env t) (a.tmps.getD t undef)) : Rel σ S H w (aval env u) (a.eval u) := by
 cases u with
 |tmp t => exact h t rfl
 |const v => exact .d _ _ (D.ofV_rel _ _ _)
 |global g => exact .d _ _ (.v _)
 |func f => exact .fn _ [] [] rfl fun i d x hd => by simp at hd
def Agree (H H' : List Blk) : Prop := ∀ (k : Nat) (C : Blk), H[k]? = some C -> H'[k]? = some C ∨ H'[k]? = some Blk.none
def setNb (H : List Blk) (κ : Nat) : Option Blk -> List Blk
 |some C => H.set κ C
 |none => H
def Loc (P : Program) (o : Oper) (env : List (Nat × AV)) (H : List Blk) (x : AV) (nb : Option Blk) : Prop :=
 ∀ B σ S H' a w, Gd B -> Sm B σ S H' w -> (∀ u ∈ o.op.operands, Rel σ S H' w (aval env u) (a.eval u)) -> Agree H H' -> (∀ C, nb = some C -> H'[H.length]? = some Blk.none) ->
   ∀ (K : Act -> World -> Prop) (Q : Exit -> Act -> World -> Prop),
     (∀ v w' σ' S', Sm B σ' S' (setNb H' H.length nb) w' -> Rel σ' S' (setNb H' H.length nb) w' x v -> Ev σ S H' w σ' S' (setNb H' H.length nb) w' -> K (a.put o.dst v) w') -> o.wp P a w K Q
def dstOk (n : Nat) : Option Tmp -> Bool
 |some d => Nat.blt d n
 |none => true
def putE (env : List (Nat × AV)) : Option Tmp -> AV -> List (Nat × AV)
 |some d, x => (d, x) :: env
 |none, _ => env
def yl : Value -> Option Bool
 |.bool b => some b
 |_ => none
def awanted (ops : Array Oper) (env : List (Nat × AV)) (o : Oper) : Option Bool :=
 match o.guard with
 |none => some true
 |some (j, want) =>
  match (ops[j]?).bind (·.dst) with
  |some d => match look env d with
   |.d (.v x) => some (yl x == some want)
   |_ => none
  |none => none
theorem QeP {ops : Array Oper} {env : List (Nat × AV)} {o : Oper} {b : Bool} {σ : Sg} {S : Nat -> Prop} {H : List Blk} {w : World} {a : Act} (hw : awanted ops env o = some b)
 (h : ∀ j want d, o.guard = some (j, want) -> (ops[j]?).bind (·.dst) = some d -> d < a.tmps.size /\ Rel σ S H w (look env d) (a.tmps.getD d undef)) : Region.wanted o (yielded ops a.tmps) = b := by
 unfold awanted at hw
 unfold Region.wanted
 cases hg : o.guard with
 |none => rw [hg] at hw; exact Option.some.inj hw
 |some p =>
  obtain ⟨j, want⟩ := p
  rw [hg] at hw
  simp only at hw ⊢
  cases hd : (ops[j]?).bind (·.dst) with
  |none => rw [hd] at hw; cases hw
  |some d =>
   rw [hd] at hw
   obtain ⟨hlt, hr⟩ := h j want d hg hd
   simp only at hw
   cases hl : look env d with
   |d y =>
    rw [hl] at hw hr
    cases y with
    |v x =>
     obtain rfl := Option.some.inj hw
     cases hr with
     |d _ _ hr =>
      cases hr
      have hget : a.tmps[d]? = some (a.tmps.getD d undef) := by
       rw [Array.getD_eq_getD_getElem?, Array.getElem?_eq_getElem hlt]; rfl
      have : yielded ops a.tmps j = yl (a.tmps.getD d undef) := by
       unfold yielded
       rw [hd]
       simp only [Option.bind_some, hget]
       cases a.tmps.getD d undef <;> rfl
      rw [this]
    |_ => cases hw
   |_ => rw [hl] at hw; cases hw
def Step1 (P : Program) (ops : Array Oper) (o : Oper) (s : St) (x : AV) (nb : Option Blk) : Prop :=
 dstOk s.n o.dst = true /\ ((awanted ops s.env o = some false /\ x = .d (.v undef) /\ nb = none) ∨ (awanted ops s.env o = some true /\ Loc P o s.env s.H x nb))
def St.next (s : St) (o : Oper) (x : AV) (nb : Option Blk) : St := ⟨s.n, putE s.env o.dst x, s.H ++ nb.toList⟩
def ADraw (P : Program) (ops : Array Oper) (K : St -> Prop) : List Oper -> St -> Prop
 |[], s => K s
 |o :: l, s => ∃ x nb, Step1 P ops o s x nb /\ ADraw P ops K l (s.next o x nb)
def backB (ops : Array Oper) : Bool := (List.range ops.size).all fun i => ((ops[i]?).map (·.after.all fun e => decide (e.on < i) || !Region.binds .any e)).getD true
theorem ready_all {ops : Array Oper} {listed : Array Bool} (hb : backB ops = true) (hsz : listed.size = ops.size) (hr : Region.ready .any ops listed = []) : ∀ i, i < ops.size -> listed.getD i false = true := by
 intro i
 induction i using Nat.strongRecOn with
 |_ i ih =>
  intro hi
  rcases Bool.eq_false_or_eq_true (listed.getD i false) with h | h
  ·exact h
  exfalso
  have hm : i ∈ Region.ready .any ops listed := by
   rw [mem_ready]
   obtain ⟨o, ho⟩ : ∃ o, ops[i]? = some o := ⟨_, Array.getElem?_eq_getElem hi⟩
   have hl : listed.getD i true = false := by
    rw [Array.getD_eq_getD_getElem?, Array.getElem?_eq_getElem (by omega)] at h ⊢
    simpa using h
   refine ⟨hl, o, ho, fun e he hbd => ?_⟩
   have hb' := List.all_eq_true.1 hb i (List.mem_range.2 hi)
   rw [ho] at hb'
   simp only [Option.map_some, Option.getD_some, Array.all_eq_true_iff_forall_mem] at hb'
   have hlt : e.on < i := by simpa [hbd] using hb' e he
   exact ih _ hlt (by omega)
  rw [hr] at hm
  cases hm
theorem Qg2 {P : Program} {id : Nat} {ops : Array Oper} {Q : Exit -> Act -> World -> Prop} {a : Act} {w : World} (hm : P.follows .mixedOrders = true) (hb : backB ops = true)
 (J : (Nat -> Bool) -> Act -> World -> Prop) (h0 : J (fun _ => false) a { w with drawn := w.drawn + 1 })
 (hop : ∀ (E : Nat -> Bool) i o, ops[i]? = some o -> ∀ a w, J E a w -> E i = false -> (∀ j, ops.size <= j -> E j = false) -> (∀ j o', E j = true -> ops[j]? = some o' -> ∀ e ∈ o'.after, Region.binds .any e = true -> E e.on = true) ->
   (∀ e ∈ o.after, Region.binds .any e = true -> E e.on = true) -> ∀ K, (∀ a' w', J (fun j => E j || decide (j = i)) a' w' -> K a' w') -> wpOp P ops Q i K a w)
 (hend : ∀ E a w, J E a w -> (∀ i, i < ops.size -> E i = true) -> (∀ j, ops.size <= j -> E j = false) -> Q .normal a w) : (Code.region id ops true).wp P Q a w := by
 refine wp_region_any hm ?_
 have hE : ∀ (listed : Array Bool) j, listed.size = ops.size -> ops.size <= j -> listed.getD j false = false := fun listed j hs hj => by
  rw [Array.getD_eq_getD_getElem?, Array.getElem?_eq_none (by omega)]; rfl
 have key : ∀ (fuel : Nat) (listed : Array Bool) (a : Act) (w : World), listed.size = ops.size -> (ops.size <= fuel + (listed.toList.countP (fun b => b))) -> J (fun j => listed.getD j false) a w ->
  (∀ j o', listed.getD j false = true -> ops[j]? = some o' -> ∀ e ∈ o'.after, Region.binds .any e = true -> listed.getD e.on false = true) -> wpAny P .any ops Q fuel listed a w := by
  intro fuel
  induction fuel with
  |zero =>
   intro listed a w hsz hf hJ hcl
   have hall : ∀ i, i < ops.size -> listed.getD i false = true := by
    have hc : listed.toList.countP (fun b => b) = listed.toList.length := by
     have h1 := List.countP_le_length (p := fun b => b) (l := listed.toList)
     have h2 : listed.toList.length = ops.size := by rw [Array.length_toList]; exact hsz
     omega
    rw [List.countP_eq_length] at hc
    intro i hi
    have hi' : i < listed.toList.length := by simp; omega
    have := hc _ (List.getElem_mem hi')
    rw [Array.getD_eq_getD_getElem?, Array.getElem?_eq_getElem (by omega)]
    simpa using this
   have hr : Region.ready .any ops listed = [] := by
    cases hr : Region.ready .any ops listed with
    |nil => rfl
    |cons i r =>
     exfalso
     have hi : i ∈ Region.ready .any ops listed := by rw [hr]; exact List.mem_cons_self
     rw [mem_ready] at hi
     obtain ⟨h1, o, ho, _⟩ := hi
     have hlt : i < ops.size := (Array.getElem?_eq_some_iff.1 ho).1
     have := hall i hlt
     rw [Array.getD_eq_getD_getElem?, Array.getElem?_eq_getElem (by omega)] at h1 this
     simp at h1 this
     rw [h1] at this; cases this
   exact ⟨hr, hend _ a w hJ hall (fun j hj => hE listed j hsz hj)⟩
  |succ fuel ih =>
   intro listed a w hsz hf hJ hcl
   refine ⟨fun hr => hend _ a w hJ (fun i hi => ready_all hb hsz hr i hi) (fun j hj => hE listed j hsz hj), fun i hi => ?_⟩
   rw [mem_ready] at hi
   obtain ⟨h1, o, ho, hdep⟩ := hi
   have hlt : i < ops.size := (Array.getElem?_eq_some_iff.1 ho).1
   have hli : listed[i]'(by omega) = false := by
    rw [Array.getD_eq_getD_getElem?, Array.getElem?_eq_getElem (by omega)] at h1
    simpa using h1
   have hlf : listed.getD i false = false := by
    rw [Array.getD_eq_getD_getElem?, Array.getElem?_eq_getElem (by omega)]
    simpa using hli
   have hset : ∀ j, (listed.setIfInBounds i true).getD j false = (listed.getD j false || decide (j = i)) := fun j => by
    by_cases hji : j = i
    ·subst hji
     rw [Array.getD_eq_getD_getElem?, Array.getElem?_setIfInBounds_self_of_lt (by omega)]; simp
    ·rw [Array.getD_eq_getD_getElem?, Array.getElem?_setIfInBounds_ne (fun e => hji e.symm), <- Array.getD_eq_getD_getElem?]; simp [hji]
   refine hop _ i o ho a w hJ hlf (fun j hj => hE listed j hsz hj) hcl (fun e he hbd => hdep e he hbd) _ fun a' w' hJ' => ?_
   refine ih _ _ _ (by rw [Array.size_setIfInBounds]; exact hsz) ?_ (by simpa only [hset] using hJ') (fun j o' hj ho' e he hbd => ?_)
   ·have : (listed.setIfInBounds i true).toList.countP (fun b => b) = listed.toList.countP (fun b => b) + 1 := by
     rw [Array.toList_setIfInBounds, List.countP_set (by simp; omega)]
     have h2 : listed.toList[i]'(by simp; omega) = false := by simpa using hli
     rw [h2]; simp
    omega
   ·rw [hset] at hj ⊢
    rcases Bool.or_eq_true_iff.1 hj with h | h
    ·rw [hcl j o' h ho' e he hbd]; rfl
    ·obtain rfl := of_decide_eq_true h
     rw [ho] at ho'; obtain rfl := Option.some.inj ho'
     rw [hdep e he hbd]; rfl
 refine key ops.size (Array.replicate ops.size false) a _ (by simp) (by omega) ?_ (fun j o' hj => ?_)
 ·have : (fun j => (Array.replicate ops.size false).getD j false) = fun _ => false := funext fun j => by
   rw [Array.getD_eq_getD_getElem?, Array.getElem?_replicate]; split <;> rfl
  rw [this]; exact h0
 ·exfalso
  rw [Array.getD_eq_getD_getElem?, Array.getElem?_replicate] at hj
  split at hj <;> simp at hj
def mask (acc : List Nat) : List Edge -> Nat
 |[] => 0
 |e :: r => (bif Region.binds .any e then 2 ^ e.on ||| acc.getD e.on 0 else 0) ||| mask acc r
def befs : List Oper -> List Nat -> List Nat
 |[], acc => acc
 |o :: l, acc => befs l (acc ++ [mask acc o.after.toList])
def names (ops : List Oper) (o : Oper) : List Nat :=
 o.dst.toList ++ (o.op.operands.toList.filterMap fun | .tmp t => some t | _ => none) ++
 (match o.guard with
  |some (g, _) => ((ops[g]?).bind (·.dst)).toList
  |none => [])
def tmpOk (ops : List Oper) : Bool :=
 let b := befs ops []
 ops.zipIdx.all fun (o, i) => (names ops o).all fun t => ops.zipIdx.all fun (p, j) => !(p.dst == some t) || j == i || (bif Nat.blt j i then (b.getD i 0).testBit j else (b.getD j 0).testBit i)
def drawOk (ops : Array Oper) : Bool := backB ops && tmpOk ops.toList
def Closed (ops : List Oper) (E : Nat -> Bool) : Prop := ∀ (j : Nat) o, E j = true -> ops[j]? = some o -> ∀ e ∈ o.after, Region.binds .any e = true -> E e.on = true
theorem QhD {acc : List Nat} {E : Nat -> Bool} (hacc : ∀ (i j : Nat), E i = true -> (acc.getD i 0).testBit j = true -> E j = true) :
 ∀ (l : List Edge), (∀ e ∈ l, Region.binds .any e = true -> E e.on = true) -> ∀ j, (mask acc l).testBit j = true -> E j = true
 |[], _, j, h => by simp [mask] at h
 |e :: r, hl, j, h => by
  simp only [mask, Nat.testBit_or, Bool.or_eq_true] at h
  rcases h with h | h
  ·cases hb : Region.binds .any e with
   |false => rw [hb] at h; simp at h
   |true =>
    rw [hb] at h
    simp only [cond_true, Nat.testBit_or, Bool.or_eq_true] at h
    have he := hl e List.mem_cons_self hb
    rcases h with h | h
    ·rw [Nat.testBit_two_pow] at h
     rw [<- of_decide_eq_true h]; exact he
    ·exact hacc _ _ he h
  ·exact QhD hacc r (fun e he => hl e (List.mem_cons_of_mem _ he)) j h
theorem Qik {E : Nat -> Bool} : ∀ (l pre : List Oper) (acc : List Nat), acc.length = pre.length -> Closed (pre ++ l) E -> (∀ (i j : Nat), i < pre.length -> E i = true -> (acc.getD i 0).testBit j = true -> E j = true) ->
 ∀ (i j : Nat), E i = true -> ((befs l acc).getD i 0).testBit j = true -> E j = true
 |[], pre, acc, hl, _, h, i, j, hi, hj => by
  by_cases hlt : i < pre.length
  ·exact h i j hlt hi hj
  ·simp only [befs] at hj
   rw [List.getD_eq_getElem?_getD, List.getElem?_eq_none (by omega)] at hj
   simp at hj
 |o :: l, pre, acc, hl, hc, h, i, j, hi, hj => by
  simp only [befs] at hj
  have hacc : ∀ (i j : Nat), E i = true -> (acc.getD i 0).testBit j = true -> E j = true := fun i j hi hj => by
   by_cases hlt : i < pre.length
   ·exact h i j hlt hi hj
   ·rw [List.getD_eq_getElem?_getD, List.getElem?_eq_none (by omega)] at hj
    simp at hj
  refine Qik l (pre ++ [o]) (acc ++ [mask acc o.after.toList]) (by simp [hl]) (by simpa using hc) (fun i j hlt hi hj => ?_) i j hi hj
  by_cases hlt' : i < pre.length
  ·rw [List.getD_eq_getElem?_getD, List.getElem?_append_left (by omega), <- List.getD_eq_getElem?_getD] at hj
   exact h i j hlt' hi hj
  ·have hie : i = pre.length := by simp at hlt; omega
   subst hie
   rw [List.getD_eq_getElem?_getD, List.getElem?_append_right (by omega)] at hj
   simp only [hl, Nat.sub_self, List.getElem?_cons_zero, Option.getD_some] at hj
   refine QhD hacc _ (fun e he hb => ?_) j hj
   exact hc _ o hi (by rw [List.getElem?_append_right (Nat.le_refl _)]; simp) e (Array.mem_toList_iff.1 he) hb
theorem Qfl {ops : List Oper} {E : Nat -> Bool} (hc : Closed ops E) {i j : Nat} (hi : E i = true) (hj : ((befs ops []).getD i 0).testBit j = true) : E j = true :=
 Qik ops [] [] rfl (by simpa using hc) (fun i j h => by simp at h) i j hi hj
theorem Qdl {ops : List Oper} {E : Nat -> Bool} (hc : Closed ops E) {i j : Nat} {o : Oper} (ho : ops[i]? = some o) (hi : ∀ e ∈ o.after, Region.binds .any e = true -> E e.on = true)
 (hj : ((befs ops []).getD i 0).testBit j = true) (hne : j ≠ i) : E j = true := by
 have hc' : Closed ops (fun k => E k || decide (k = i)) := fun k o' hk ho' e he hb => by
  rcases Bool.or_eq_true_iff.1 hk with h | h
  ·show (E e.on || _) = true
   rw [hc k o' h ho' e he hb]; rfl
  ·obtain rfl := of_decide_eq_true h
   rw [ho] at ho'; obtain rfl := Option.some.inj ho'
   show (E e.on || _) = true
   rw [hi e he hb]; rfl
 have := Qfl hc' (i := i) (by simp) hj
 simpa [hne] using this
structure Chain (P : Program) (ops : Array Oper) (l : List Oper) (st : Nat -> St) (xv : Nat -> AV) (nb : Nat -> Option Blk) : Prop where
 step : ∀ (i : Nat) o, l[i]? = some o -> Step1 P ops o (st i) (xv i) (nb i) /\ st (i + 1) = (st i).next o (xv i) (nb i)
def maskB (b : Bool) : Option Blk -> List Blk
 |some C => [bif b then C else .none]
 |none => []
theorem Qk0 (x : Option Blk) : maskB true x = x.toList := by cases x <;> rfl
theorem QlL (b : Bool) (x : Option Blk) : (maskB b x).length = x.toList.length := by cases x <;> rfl
section
variable {P : Program} {ops : Array Oper} {l : List Oper} {st : Nat -> St} {xv : Nat -> AV} {nb : Nat -> Option Blk}
def HE (H0 : List Blk) (nb : Nat -> Option Blk) (n : Nat) (E : Nat -> Bool) : List Blk := H0 ++ (List.range n).flatMap fun i => maskB (E i) (nb i)
theorem Chain.heap (h : Chain P ops l st xv nb) : ∀ i, i <= l.length -> (st i).H = (st 0).H ++ (List.range i).flatMap fun j => (nb j).toList
 |0, _ => by simp
 |i + 1, hi => by
  have ho : l[i]? = some l[i] := List.getElem?_eq_getElem (by omega)
  rw [(h.step i _ ho).2]
  show (st i).H ++ (nb i).toList = _
  rw [Chain.heap h i (by omega), List.range_succ, List.flatMap_append, List.append_assoc]
  simp
theorem Chain.n (h : Chain P ops l st xv nb) : ∀ i, i <= l.length -> (st i).n = (st 0).n
 |0, _ => rfl
 |i + 1, hi => by
  have ho : l[i]? = some l[i] := List.getElem?_eq_getElem (by omega)
  rw [(h.step i _ ho).2]
  exact Chain.n h i (by omega)
theorem HE_none (H0 : List Blk) (nb : Nat -> Option Blk) (n : Nat) (E : Nat -> Bool) : (HE H0 nb n E).length = H0.length + ((List.range n).flatMap fun j => (nb j).toList).length := by
 unfold HE
 rw [List.length_append]
 congr 1
 induction n with
 |zero => rfl
 |succ n ih => rw [List.range_succ, List.flatMap_append, List.flatMap_append, List.length_append, List.length_append, ih]; simp [QlL]
theorem Qke (H0 : List Blk) (nb : Nat -> Option Blk) (n i : Nat) (E : Nat -> Bool) (hi : i < n) :
 HE H0 nb n E = HE H0 nb i E ++ (maskB (E i) (nb i) ++ ((List.range (n - i - 1)).map (· + (i + 1))).flatMap fun j => maskB (E j) (nb j)) := by
 unfold HE
 have : List.range n = List.range i ++ (i :: (List.range (n - i - 1)).map (· + (i + 1))) := by
  have h1 : n = i + (1 + (n - i - 1)) := by omega
  conv => lhs; rw [h1, List.range_add, List.range_add]
  simp [Function.comp_def, Nat.add_comm, Nat.add_left_comm]
 rw [this, List.flatMap_append, List.flatMap_cons]
 simp [List.append_assoc]
theorem Qkf {H0 : List Blk} {n i : Nat} {E : Nat -> Bool} (hi : i < n) (hE : E i = false) {C : Blk} (hC : nb i = some C) :
 (HE H0 nb n E)[(HE H0 nb i E).length]? = some Blk.none /\ (HE H0 nb n E).set (HE H0 nb i E).length C = HE H0 nb n (fun j => E j || decide (j = i)) := by
 have hs := Qke H0 nb n i E hi
 have hs' := Qke H0 nb n i (fun j => E j || decide (j = i)) hi
 have e1 : HE H0 nb i (fun j => E j || decide (j = i)) = HE H0 nb i E := by
  unfold HE
  congr 1
  apply congrArg List.flatten
  apply List.map_congr_left
  intro j hj
  have := List.mem_range.1 hj
  simp [show j ≠ i by omega]
 have e2 : (((List.range (n - i - 1)).map (· + (i + 1))).flatMap fun j => maskB (E j || decide (j = i)) (nb j)) = ((List.range (n - i - 1)).map (· + (i + 1))).flatMap fun j => maskB (E j) (nb j) := by
  apply congrArg List.flatten
  apply List.map_congr_left
  intro j hj
  obtain ⟨k, _, rfl⟩ := List.mem_map.1 hj
  simp [show k + (i + 1) ≠ i by omega]
 constructor
 ·rw [hs, List.getElem?_append_right (Nat.le_refl _), hC, hE]
  simp [maskB]
 ·rw [hs, hs', e1, e2, hC, hE, List.set_append_right _ _ (Nat.le_refl _)]
  simp [maskB]
theorem Qlk {H0 : List Blk} {n i : Nat} {E : Nat -> Bool} (hC : nb i = none) : HE H0 nb n E = HE H0 nb n (fun j => E j || decide (j = i)) := by
 unfold HE
 congr 1
 apply congrArg List.flatten
 apply List.map_congr_left
 intro j hj
 by_cases hji : j = i
 ·subst hji; rw [hC]; rfl
 ·simp [hji]
theorem HE_all {H0 : List Blk} {n : Nat} {E : Nat -> Bool} (h : ∀ i, i < n -> E i = true) : HE H0 nb n E = H0 ++ (List.range n).flatMap fun j => (nb j).toList := by
 unfold HE
 congr 1
 apply congrArg List.flatten
 apply List.map_congr_left
 intro j hj
 rw [h j (List.mem_range.1 hj), Qk0]
theorem Qol {H0 : List Blk} {n i : Nat} {E : Nat -> Bool} (hi : i <= n) : Agree (H0 ++ (List.range i).flatMap fun j => (nb j).toList) (HE H0 nb n E) := by
 have key : ∀ (l : List Nat) (L : List Blk) (k : Nat) (C : Blk), (l.flatMap fun j => (nb j).toList)[k]? = some C ->
  ((l.flatMap fun j => maskB (E j) (nb j)) ++ L)[k]? = some C ∨ ((l.flatMap fun j => maskB (E j) (nb j)) ++ L)[k]? = some Blk.none := by
  intro l
  induction l with
  |nil => intro L k C h; simp at h
  |cons j l ih =>
   intro L k C h
   rw [List.flatMap_cons] at h
   rw [List.flatMap_cons, List.append_assoc]
   cases hn : nb j with
   |none => rw [hn] at h; simpa [maskB] using ih L k C (by simpa using h)
   |some D =>
    rw [hn] at h
    cases k with
    |zero =>
     simp at h
     subst h
     cases hE : E j <;> simp [maskB]
    |succ k => simpa [maskB] using ih L k C (by simpa using h)
 intro k C hC
 unfold HE
 by_cases hk : k < H0.length
 ·rw [List.getElem?_append_left hk] at hC
  rw [List.getElem?_append_left hk]
  exact .inl hC
 ·rw [List.getElem?_append_right (by omega)] at hC
  rw [List.getElem?_append_right (by omega)]
  have hsp : List.range n = List.range i ++ (List.range (n - i)).map (i + ·) := by
   rw [<- List.range_add]; congr 1; omega
  rw [hsp, List.flatMap_append]
  exact key _ _ _ _ hC
theorem Chain.slot (h : Chain P ops l st xv nb) : ∀ i, i <= l.length -> ∀ t,
 (∃ j o, j < i /\ l[j]? = some o /\ o.dst = some t /\ (∀ j' o', j' < i -> l[j']? = some o' -> o'.dst = some t -> j' <= j) /\ look (st i).env t = xv j) ∨
 ((∀ j o, j < i -> l[j]? = some o -> o.dst ≠ some t) /\ look (st i).env t = look (st 0).env t)
 |0, _, t => .inr ⟨fun j o hj => by omega, rfl⟩
 |i + 1, hi, t => by
  have ho : l[i]? = some l[i] := List.getElem?_eq_getElem (by omega)
  have hst := (h.step i _ ho).2
  by_cases hd : l[i].dst = some t
  ·refine .inl ⟨i, _, by omega, ho, hd, fun j' o' hj' _ _ => by omega, ?_⟩
   rw [hst]
   show look (putE (st i).env l[i].dst (xv i)) t = _
   rw [hd]; exact QbZ _ _ _
  ·have hlk : look (st (i + 1)).env t = look (st i).env t := by
    rw [hst]
    show look (putE (st i).env l[i].dst (xv i)) t = _
    cases hd' : l[i].dst with
    |none => rfl
    |some d => exact Qck (fun e => hd (by rw [hd', e])) _ _
   rcases Chain.slot h i (by omega) t with ⟨j, o, h1, h2, h3, h4, h5⟩ | ⟨h1, h2⟩
   ·refine .inl ⟨j, o, by omega, h2, h3, fun j' o' hj' ho' hd' => ?_, hlk.trans h5⟩
    by_cases hji : j' = i
    ·subst hji; rw [ho] at ho'; obtain rfl := Option.some.inj ho'; exact absurd hd' hd
    ·exact h4 j' o' (by omega) ho' hd'
   ·refine .inr ⟨fun j o hj ho' => ?_, hlk.trans h2⟩
    by_cases hji : j = i
    ·subst hji; rw [ho] at ho'; obtain rfl := Option.some.inj ho'; exact hd
    ·exact h1 j o (by omega) ho'
end
def Lift (B : Bs) (Q : Exit -> St -> Prop) : Exit -> Act -> World -> Prop := fun e a w => ∃ s σ S, Q e s /\ SmA B σ S s a w
def AWP (P : Program) (c : Code) (Q : Exit -> St -> Prop) (s : St) : Prop := ∀ B, Gd B -> ∀ σ S a w, SmA B σ S s a w -> c.wp P (Lift B Q) a w
theorem QcG {ops : List Oper} (h : tmpOk ops = true) {i j : Nat} {o p : Oper} {t : Nat} (ho : ops[i]? = some o) (hp : ops[j]? = some p) (ht : t ∈ names ops o) (hd : p.dst = some t) (hne : j ≠ i) :
 (j < i -> ((befs ops []).getD i 0).testBit j = true) /\ (i < j -> ((befs ops []).getD j 0).testBit i = true) := by
 unfold tmpOk at h
 simp only [List.all_eq_true] at h
 have hm : ∀ (k : Nat) (q : Oper), ops[k]? = some q -> (q, k) ∈ ops.zipIdx := fun k q hq => List.mk_mem_zipIdx_iff_getElem?.2 hq
 have := h (o, i) (hm i o ho) t ht (p, j) (hm j p hp)
 simp only [hd, beq_self_eq_true, Bool.not_true, Bool.false_or, Bool.or_eq_true, beq_iff_eq, hne, false_or] at this
 constructor
 ·intro hlt
  have hb : Nat.blt j i = true := by simpa using hlt
  rw [hb] at this; exact this
 ·intro hlt
  have hb : Nat.blt j i = false := by
   cases hb : Nat.blt j i
   ·rfl
   ·have : j < i := by simpa using hb
    omega
  rw [hb] at this; exact this
end Aw
end Go.Proofs.YtdjkdcokjoiokaaGreatDoor

/- Part 4 of seek_card: contracts, walks, laws; no condition beyond the statement's. -/
import Derived.Test.YtdjkdcokjoiokaaGreatDoorW02
import Derived.Test.YtdjkdcokjoiokaaGreatDoorW03
set_option linter.all false
namespace Go.Proofs.YtdjkdcokjoiokaaGreatDoor
open Go.RowKit
namespace Aw
def nG : Nat := (max (max 3 0) (max 1 2)) + 1
structure Gd (B : Bs) : Prop where
 g : B.G = nG
 own : ∀ b, B.own b -> nG <= b
 lt : Pm.Lt B.w0
theorem Lt.size {w : World} (h : Pm.Lt w) : nG <= w.heap.size := by
 obtain ⟨m, h1⟩ := h.maxl;obtain ⟨_, _, h2⟩ := h.syn;obtain ⟨_, _, h3⟩ := h.ran;have h1 := Pm.QgB h1; have h2 := Pm.QgB h2; have h3 := Pm.QgB h3
 have h4 : 3 < w.heap.size := by
  have ht := h.tab;unfold Lib.TabIs World.var? at ht;rw [show Program.globalNamed Tryz.prog "internal/strconv.uint64pow10" = some 3 from by kernel_rfl] at ht;rcases Nat.lt_or_ge 3 w.heap.size with hlt | hge
  ·exact hlt
  ·simp only [Option.bind_some] at ht; rw [Array.getElem?_eq_none hge] at ht; cases ht
 unfold nG; omega
theorem Lt.low {w w' : World} (h : Pm.Lt w) (hb : ∀ b, b < nG -> w'.heap[b]? = w.heap[b]?) : Pm.Lt w' := by
 refine ⟨?_, ?_, ?_, ?_⟩
 ·have ht := h.tab
  unfold Lib.TabIs World.var? at *
  rw [show Program.globalNamed Tryz.prog "internal/strconv.uint64pow10" = some 3 from by kernel_rfl] at *
  simp only [Option.bind_some] at ht ⊢;rw [hb _ (by unfold nG; omega)]; exact ht
 ·obtain ⟨m, e⟩ := h.maxl; exact ⟨m, (Qd1 (hb _ (by unfold nG; omega))).trans e⟩
 ·obtain ⟨t, p, e⟩ := h.syn; exact ⟨t, p, (Qd1 (hb _ (by unfold nG; omega))).trans e⟩
 ·obtain ⟨t, p, e⟩ := h.ran; exact ⟨t, p, (Qd1 (hb _ (by unfold nG; omega))).trans e⟩
theorem Gd.ltOf {B : Bs} (h : Gd B) {σ : Sg} {S : Nat -> Prop} {H : List Blk} {w : World} (hS : Sm B σ S H w) : Pm.Lt w :=
 Lt.low h.lt fun b hb => hS.keep b (by have := Lt.size h.lt; omega) fun ho => by have := h.own b ho; omega
theorem Gd.again {B : Bs} (h : Gd B) {σ : Sg} {S : Nat -> Prop} {H : List Blk} {w : World} (hS : Sm B σ S H w) (S' : Nat -> Prop) : Gd ⟨w, B.G, fun _ => False, S'⟩ :=
 ⟨h.g, fun _ hb => hb.elim, h.ltOf hS⟩
structure St where
 n : Nat
 env : List (Nat × AV)
 H : List Blk
def look : List (Nat × AV) -> Nat -> AV
 |[], _ => .d .any
 |(t, x) :: r, u => bif Nat.beq t u then x else look r u
theorem QbM (t : Nat) (x : AV) (r : List (Nat × AV)) : look ((t, x) :: r) t = x := by simp [look]
theorem QbU {t u : Nat} (h : t ≠ u) (x : AV) (r : List (Nat × AV)) : look ((t, x) :: r) u = look r u := by
 have : Nat.beq t u = false := by
  cases hb : Nat.beq t u
  ·rfl
  ·exact absurd (Nat.eq_of_beq_eq_true hb) h
 simp [look, this]
def D.ofV : Value -> D
 |.agg cs => .agg (cs.toList.map .v)
 |x => .v x
theorem D.ofV_rel (S : Nat -> Prop) (w : World) (v : Value) : RelD S w (D.ofV v) v := by
 cases v <;> first | exact .v _ | skip
 rename_i cs
 have := RelD.agg (S := S) (w := w) (cs.toList.map .v) cs.toList (by simp) (fun i d x hd hx => by
  rw [List.getElem?_map, hx] at hd;obtain rfl := Option.some.inj hd
  exact .v _)
 exact this
def aval (env : List (Nat × AV)) : Operand -> AV
 |.tmp t => look env t
 |.const v => .d (D.ofV v)
 |.global g => .d (.v (.pointer (some ⟨g, 0, none⟩)))
 |.func f => .fn (.func f) []
structure SmA (B : Bs) (σ : Sg) (S : Nat -> Prop) (s : St) (a : Act) (w : World) : Prop where
 sm : Sm B σ S s.H w
 defers : a.defers = []
 size : a.tmps.size = s.n
 env : ∀ t, Rel σ S s.H w (look s.env t) (a.tmps.getD t undef)
theorem Qc7 {σ : Sg} {S : Nat -> Prop} {H : List Blk} {w : World} {env : List (Nat × AV)} {a : Act} {u : Operand}
 (h : ∀ t, u = .tmp t -> Rel σ S H w (look env t) (a.tmps.getD t undef)) : Rel σ S H w (aval env u) (a.eval u) := by
 cases u with
 |tmp t => exact h t rfl
 |const v => exact .d _ _ (D.ofV_rel _ _ _)
 |global g => exact .d _ _ (.v _)
 |func f => exact .fn _ [] [] rfl fun i d x hd => by simp at hd
def Agree (H H' : List Blk) : Prop := ∀ (k : Nat) (C : Blk), H[k]? = some C -> H'[k]? = some C ∨ H'[k]? = some Blk.none
def setNb (H : List Blk) (κ : Nat) : Option Blk -> List Blk
 |some C => H.set κ C
 |none => H
def Loc (P : Program) (o : Oper) (env : List (Nat × AV)) (H : List Blk) (x : AV) (nb : Option Blk) : Prop :=
 ∀ B σ S H' a w, Gd B -> Sm B σ S H' w -> (∀ u ∈ o.op.operands, Rel σ S H' w (aval env u) (a.eval u)) -> Agree H H' -> (∀ C, nb = some C -> H'[H.length]? = some Blk.none) ->
   ∀ (K : Act -> World -> Prop) (Q : Exit -> Act -> World -> Prop),
     (∀ v w' σ' S', Sm B σ' S' (setNb H' H.length nb) w' -> Rel σ' S' (setNb H' H.length nb) w' x v -> Ev σ S H' w σ' S' (setNb H' H.length nb) w' -> K (a.put o.dst v) w') -> o.wp P a w K Q
def dstOk (n : Nat) : Option Tmp -> Bool
 |some d => Nat.blt d n
 |none => true
def putE (env : List (Nat × AV)) : Option Tmp -> AV -> List (Nat × AV)
 |some d, x => (d, x) :: env
 |none, _ => env
def yl : Value -> Option Bool
 |.bool b => some b
 |_ => none
def awanted (ops : Array Oper) (env : List (Nat × AV)) (o : Oper) : Option Bool :=
 match o.guard with
 |none => some true
 |some (j, want) =>
  match (ops[j]?).bind (·.dst) with
  |some d => match look env d with
   |.d (.v x) => some (yl x == some want)
   |_ => none
  |none => none
theorem Qe6 {ops : Array Oper} {env : List (Nat × AV)} {o : Oper} {b : Bool} {σ : Sg} {S : Nat -> Prop} {H : List Blk} {w : World} {a : Act} (hw : awanted ops env o = some b)
 (h : ∀ j want d, o.guard = some (j, want) -> (ops[j]?).bind (·.dst) = some d -> d < a.tmps.size /\ Rel σ S H w (look env d) (a.tmps.getD d undef)) : Region.wanted o (yielded ops a.tmps) = b := by
 unfold awanted at hw;unfold Region.wanted;cases hg : o.guard with
 |none => rw [hg] at hw; exact Option.some.inj hw
 |some p =>
  obtain ⟨j, want⟩ := p;rw [hg] at hw;simp only at hw ⊢;cases hd : (ops[j]?).bind (·.dst) with
  |none => rw [hd] at hw; cases hw
  |some d =>
   rw [hd] at hw;obtain ⟨hlt, hr⟩ := h j want d hg hd;simp only at hw;cases hl : look env d with
   |d y =>
    rw [hl] at hw hr;cases y with
    |v x =>
     obtain rfl := Option.some.inj hw;cases hr with
     |d _ _ hr =>
      cases hr
      have hget : a.tmps[d]? = some (a.tmps.getD d undef) := by
       rw [Array.getD_eq_getD_getElem?, Array.getElem?_eq_getElem hlt]; rfl
      have : yielded ops a.tmps j = yl (a.tmps.getD d undef) := by
       unfold yielded;rw [hd];simp only [Option.bind_some, hget];cases a.tmps.getD d undef <;> rfl
      rw [this]
    |_ => cases hw
   |_ => rw [hl] at hw; cases hw
def Step1 (P : Program) (ops : Array Oper) (o : Oper) (s : St) (x : AV) (nb : Option Blk) : Prop :=
 dstOk s.n o.dst = true /\ ((awanted ops s.env o = some false /\ x = .d (.v undef) /\ nb = none) ∨ (awanted ops s.env o = some true /\ Loc P o s.env s.H x nb))
def St.next (s : St) (o : Oper) (x : AV) (nb : Option Blk) : St := ⟨s.n, putE s.env o.dst x, s.H ++ nb.toList⟩
def ADraw (P : Program) (ops : Array Oper) (K : St -> Prop) : List Oper -> St -> Prop
 |[], s => K s
 |o :: l, s => ∃ x nb, Step1 P ops o s x nb /\ ADraw P ops K l (s.next o x nb)
def backB (ops : Array Oper) : Bool := (List.range ops.size).all fun i => ((ops[i]?).map (·.after.all fun e => decide (e.on < i) || !Region.binds .any e)).getD true
theorem ready_all {ops : Array Oper} {listed : Array Bool} (hb : backB ops = true) (hsz : listed.size = ops.size) (hr : Region.ready .any ops listed = []) : ∀ i, i < ops.size -> listed.getD i false = true := by
 intro i;induction i using Nat.strongRecOn with
 |_ i ih =>
  intro hi;rcases Bool.eq_false_or_eq_true (listed.getD i false) with h | h
  ·exact h
  exfalso
  have hm : i ∈ Region.ready .any ops listed := by
   rw [mem_ready];obtain ⟨o, ho⟩ : ∃ o, ops[i]? = some o := ⟨_, Array.getElem?_eq_getElem hi⟩
   have hl : listed.getD i true = false := by
    rw [Array.getD_eq_getD_getElem?, Array.getElem?_eq_getElem (by omega)] at h ⊢;simpa using h
   refine ⟨hl, o, ho, fun e he hbd => ?_⟩;have hb' := List.all_eq_true.1 hb i (List.mem_range.2 hi);rw [ho] at hb';simp only [Option.map_some, Option.getD_some, Array.all_eq_true_iff_forall_mem] at hb';have hlt : e.on < i := by simpa [hbd] using hb' e he
   exact ih _ hlt (by omega)
  rw [hr] at hm;cases hm
theorem Qgh {P : Program} {id : Nat} {ops : Array Oper} {Q : Exit -> Act -> World -> Prop} {a : Act} {w : World} (hm : P.follows .mixedOrders = true) (hb : backB ops = true)
 (J : (Nat -> Bool) -> Act -> World -> Prop) (h0 : J (fun _ => false) a { w with drawn := w.drawn + 1 })
 (hop : ∀ (E : Nat -> Bool) i o, ops[i]? = some o -> ∀ a w, J E a w -> E i = false -> (∀ j, ops.size <= j -> E j = false) -> (∀ j o', E j = true -> ops[j]? = some o' -> ∀ e ∈ o'.after, Region.binds .any e = true -> E e.on = true) ->
   (∀ e ∈ o.after, Region.binds .any e = true -> E e.on = true) -> ∀ K, (∀ a' w', J (fun j => E j || decide (j = i)) a' w' -> K a' w') -> wpOp P ops Q i K a w)
 (hend : ∀ E a w, J E a w -> (∀ i, i < ops.size -> E i = true) -> (∀ j, ops.size <= j -> E j = false) -> Q .normal a w) : (Code.region id ops true).wp P Q a w := by
 refine wp_region_any hm ?_
 have hE : ∀ (listed : Array Bool) j, listed.size = ops.size -> ops.size <= j -> listed.getD j false = false := fun listed j hs hj => by
  rw [Array.getD_eq_getD_getElem?, Array.getElem?_eq_none (by omega)]; rfl
 have key : ∀ (fuel : Nat) (listed : Array Bool) (a : Act) (w : World), listed.size = ops.size -> (ops.size <= fuel + (listed.toList.countP (fun b => b))) -> J (fun j => listed.getD j false) a w ->
  (∀ j o', listed.getD j false = true -> ops[j]? = some o' -> ∀ e ∈ o'.after, Region.binds .any e = true -> listed.getD e.on false = true) -> wpAny P .any ops Q fuel listed a w := by
  intro fuel;induction fuel with
  |zero =>
   intro listed a w hsz hf hJ hcl
   have hall : ∀ i, i < ops.size -> listed.getD i false = true := by
    have hc : listed.toList.countP (fun b => b) = listed.toList.length := by
     have h1 := List.countP_le_length (p := fun b => b) (l := listed.toList);have h2 : listed.toList.length = ops.size := by rw [Array.length_toList]; exact hsz
     omega
    rw [List.countP_eq_length] at hc;intro i hi;have hi' : i < listed.toList.length := by simp; omega
    have := hc _ (List.getElem_mem hi');rw [Array.getD_eq_getD_getElem?, Array.getElem?_eq_getElem (by omega)];simpa using this
   have hr : Region.ready .any ops listed = [] := by
    cases hr : Region.ready .any ops listed with
    |nil => rfl
    |cons i r =>
     exfalso;have hi : i ∈ Region.ready .any ops listed := by rw [hr]; exact List.mem_cons_self
     rw [mem_ready] at hi;obtain ⟨h1, o, ho, _⟩ := hi;have hlt : i < ops.size := (Array.getElem?_eq_some_iff.1 ho).1;have := hall i hlt;rw [Array.getD_eq_getD_getElem?, Array.getElem?_eq_getElem (by omega)] at h1 this;simp at h1 this;rw [h1] at this; cases this
   exact ⟨hr, hend _ a w hJ hall (fun j hj => hE listed j hsz hj)⟩
  |succ fuel ih =>
   intro listed a w hsz hf hJ hcl;refine ⟨fun hr => hend _ a w hJ (fun i hi => ready_all hb hsz hr i hi) (fun j hj => hE listed j hsz hj), fun i hi => ?_⟩;rw [mem_ready] at hi;obtain ⟨h1, o, ho, hdep⟩ := hi;have hlt : i < ops.size := (Array.getElem?_eq_some_iff.1 ho).1
   have hli : listed[i]'(by omega) = false := by
    rw [Array.getD_eq_getD_getElem?, Array.getElem?_eq_getElem (by omega)] at h1;simpa using h1
   have hlf : listed.getD i false = false := by
    rw [Array.getD_eq_getD_getElem?, Array.getElem?_eq_getElem (by omega)];simpa using hli
   have hset : ∀ j, (listed.setIfInBounds i true).getD j false = (listed.getD j false || decide (j = i)) := fun j => by
    by_cases hji : j = i
    ·subst hji
     rw [Array.getD_eq_getD_getElem?, Array.getElem?_setIfInBounds_self_of_lt (by omega)]; simp
    ·rw [Array.getD_eq_getD_getElem?, Array.getElem?_setIfInBounds_ne (fun e => hji e.symm), <- Array.getD_eq_getD_getElem?]; simp [hji]
   refine hop _ i o ho a w hJ hlf (fun j hj => hE listed j hsz hj) hcl (fun e he hbd => hdep e he hbd) _ fun a' w' hJ' => ?_
   refine ih _ _ _ (by rw [Array.size_setIfInBounds]; exact hsz) ?_ (by simpa only [hset] using hJ') (fun j o' hj ho' e he hbd => ?_)
   ·have : (listed.setIfInBounds i true).toList.countP (fun b => b) = listed.toList.countP (fun b => b) + 1 := by
     rw [Array.toList_setIfInBounds, List.countP_set (by simp; omega)];have h2 : listed.toList[i]'(by simp; omega) = false := by simpa using hli
     rw [h2]; simp
    omega
   ·rw [hset] at hj ⊢
    rcases Bool.or_eq_true_iff.1 hj with h | h
    ·rw [hcl j o' h ho' e he hbd]; rfl
    ·obtain rfl := of_decide_eq_true h
     rw [ho] at ho'; obtain rfl := Option.some.inj ho';rw [hdep e he hbd]; rfl
 refine key ops.size (Array.replicate ops.size false) a _ (by simp) (by omega) ?_ (fun j o' hj => ?_)
 ·have : (fun j => (Array.replicate ops.size false).getD j false) = fun _ => false := funext fun j => by
   rw [Array.getD_eq_getD_getElem?, Array.getElem?_replicate]; split <;> rfl
  rw [this]; exact h0
 ·exfalso
  rw [Array.getD_eq_getD_getElem?, Array.getElem?_replicate] at hj;split at hj <;> simp at hj
def mask (acc : List Nat) : List Edge -> Nat
 |[] => 0
 |e :: r => (bif Region.binds .any e then 2 ^ e.on ||| acc.getD e.on 0 else 0) ||| mask acc r
def befs : List Oper -> List Nat -> List Nat
 |[], acc => acc
 |o :: l, acc => befs l (acc ++ [mask acc o.after.toList])
def names (ops : List Oper) (o : Oper) : List Nat :=
 o.dst.toList ++ (o.op.operands.toList.filterMap fun | .tmp t => some t | _ => none) ++
 (match o.guard with
  |some (g, _) => ((ops[g]?).bind (·.dst)).toList
  |none => [])
def tmpOk (ops : List Oper) : Bool :=
 let b := befs ops []
 ops.zipIdx.all fun (o, i) => (names ops o).all fun t => ops.zipIdx.all fun (p, j) => !(p.dst == some t) || j == i || (bif Nat.blt j i then (b.getD i 0).testBit j else (b.getD j 0).testBit i)
def drawOk (ops : Array Oper) : Bool := backB ops && tmpOk ops.toList
def Closed (ops : List Oper) (E : Nat -> Bool) : Prop := ∀ (j : Nat) o, E j = true -> ops[j]? = some o -> ∀ e ∈ o.after, Region.binds .any e = true -> E e.on = true
theorem Qhj {acc : List Nat} {E : Nat -> Bool} (hacc : ∀ (i j : Nat), E i = true -> (acc.getD i 0).testBit j = true -> E j = true) :
 ∀ (l : List Edge), (∀ e ∈ l, Region.binds .any e = true -> E e.on = true) -> ∀ j, (mask acc l).testBit j = true -> E j = true
 |[], _, j, h => by simp [mask] at h
 |e :: r, hl, j, h => by
  simp only [mask, Nat.testBit_or, Bool.or_eq_true] at h;rcases h with h | h
  ·cases hb : Region.binds .any e with
   |false => rw [hb] at h; simp at h
   |true =>
    rw [hb] at h;simp only [cond_true, Nat.testBit_or, Bool.or_eq_true] at h;have he := hl e List.mem_cons_self hb;rcases h with h | h
    ·rw [Nat.testBit_two_pow] at h
     rw [<- of_decide_eq_true h]; exact he
    ·exact hacc _ _ he h
  ·exact Qhj hacc r (fun e he => hl e (List.mem_cons_of_mem _ he)) j h
theorem QhH {E : Nat -> Bool} : ∀ (l pre : List Oper) (acc : List Nat), acc.length = pre.length -> Closed (pre ++ l) E -> (∀ (i j : Nat), i < pre.length -> E i = true -> (acc.getD i 0).testBit j = true -> E j = true) ->
 ∀ (i j : Nat), E i = true -> ((befs l acc).getD i 0).testBit j = true -> E j = true
 |[], pre, acc, hl, _, h, i, j, hi, hj => by
  by_cases hlt : i < pre.length
  ·exact h i j hlt hi hj
  ·simp only [befs] at hj
   rw [List.getD_eq_getElem?_getD, List.getElem?_eq_none (by omega)] at hj;simp at hj
 |o :: l, pre, acc, hl, hc, h, i, j, hi, hj => by
  simp only [befs] at hj
  have hacc : ∀ (i j : Nat), E i = true -> (acc.getD i 0).testBit j = true -> E j = true := fun i j hi hj => by
   by_cases hlt : i < pre.length
   ·exact h i j hlt hi hj
   ·rw [List.getD_eq_getElem?_getD, List.getElem?_eq_none (by omega)] at hj
    simp at hj
  refine QhH l (pre ++ [o]) (acc ++ [mask acc o.after.toList]) (by simp [hl]) (by simpa using hc) (fun i j hlt hi hj => ?_) i j hi hj
  by_cases hlt' : i < pre.length
  ·rw [List.getD_eq_getElem?_getD, List.getElem?_append_left (by omega), <- List.getD_eq_getElem?_getD] at hj
   exact h i j hlt' hi hj
  ·have hie : i = pre.length := by simp at hlt; omega
   subst hie;rw [List.getD_eq_getElem?_getD, List.getElem?_append_right (by omega)] at hj;simp only [hl, Nat.sub_self, List.getElem?_cons_zero, Option.getD_some] at hj;refine Qhj hacc _ (fun e he hb => ?_) j hj;exact hc _ o hi (by rw [List.getElem?_append_right (Nat.le_refl _)]; simp) e (Array.mem_toList_iff.1 he) hb
theorem QeV {ops : List Oper} {E : Nat -> Bool} (hc : Closed ops E) {i j : Nat} (hi : E i = true) (hj : ((befs ops []).getD i 0).testBit j = true) : E j = true :=
 QhH ops [] [] rfl (by simpa using hc) (fun i j h => by simp at h) i j hi hj
theorem Qde {ops : List Oper} {E : Nat -> Bool} (hc : Closed ops E) {i j : Nat} {o : Oper} (ho : ops[i]? = some o) (hi : ∀ e ∈ o.after, Region.binds .any e = true -> E e.on = true)
 (hj : ((befs ops []).getD i 0).testBit j = true) (hne : j ≠ i) : E j = true := by
 have hc' : Closed ops (fun k => E k || decide (k = i)) := fun k o' hk ho' e he hb => by
  rcases Bool.or_eq_true_iff.1 hk with h | h
  ·show (E e.on || _) = true
   rw [hc k o' h ho' e he hb]; rfl
  ·obtain rfl := of_decide_eq_true h
   rw [ho] at ho'; obtain rfl := Option.some.inj ho';show (E e.on || _) = true;rw [hi e he hb]; rfl
 have := QeV hc' (i := i) (by simp) hj;simpa [hne] using this
structure Chain (P : Program) (ops : Array Oper) (l : List Oper) (st : Nat -> St) (xv : Nat -> AV) (nb : Nat -> Option Blk) : Prop where
 step : ∀ (i : Nat) o, l[i]? = some o -> Step1 P ops o (st i) (xv i) (nb i) /\ st (i + 1) = (st i).next o (xv i) (nb i)
def maskB (b : Bool) : Option Blk -> List Blk
 |some C => [bif b then C else .none]
 |none => []
theorem QjU (x : Option Blk) : maskB true x = x.toList := by cases x <;> rfl
theorem Qlk (b : Bool) (x : Option Blk) : (maskB b x).length = x.toList.length := by cases x <;> rfl
section
variable {P : Program} {ops : Array Oper} {l : List Oper} {st : Nat -> St} {xv : Nat -> AV} {nb : Nat -> Option Blk}
def HE (H0 : List Blk) (nb : Nat -> Option Blk) (n : Nat) (E : Nat -> Bool) : List Blk := H0 ++ (List.range n).flatMap fun i => maskB (E i) (nb i)
theorem Chain.heap (h : Chain P ops l st xv nb) : ∀ i, i <= l.length -> (st i).H = (st 0).H ++ (List.range i).flatMap fun j => (nb j).toList
 |0, _ => by simp
 |i + 1, hi => by
  have ho : l[i]? = some l[i] := List.getElem?_eq_getElem (by omega);rw [(h.step i _ ho).2];show (st i).H ++ (nb i).toList = _;rw [Chain.heap h i (by omega), List.range_succ, List.flatMap_append, List.append_assoc];simp
theorem Chain.n (h : Chain P ops l st xv nb) : ∀ i, i <= l.length -> (st i).n = (st 0).n
 |0, _ => rfl
 |i + 1, hi => by
  have ho : l[i]? = some l[i] := List.getElem?_eq_getElem (by omega);rw [(h.step i _ ho).2];exact Chain.n h i (by omega)
theorem HE_none (H0 : List Blk) (nb : Nat -> Option Blk) (n : Nat) (E : Nat -> Bool) : (HE H0 nb n E).length = H0.length + ((List.range n).flatMap fun j => (nb j).toList).length := by
 unfold HE;rw [List.length_append]
 congr 1
 induction n with
 |zero => rfl
 |succ n ih => rw [List.range_succ, List.flatMap_append, List.flatMap_append, List.length_append, List.length_append, ih]; simp [Qlk]
theorem Qj7 (H0 : List Blk) (nb : Nat -> Option Blk) (n i : Nat) (E : Nat -> Bool) (hi : i < n) :
 HE H0 nb n E = HE H0 nb i E ++ (maskB (E i) (nb i) ++ ((List.range (n - i - 1)).map (· + (i + 1))).flatMap fun j => maskB (E j) (nb j)) := by
 unfold HE
 have : List.range n = List.range i ++ (i :: (List.range (n - i - 1)).map (· + (i + 1))) := by
  have h1 : n = i + (1 + (n - i - 1)) := by omega
  conv => lhs; rw [h1, List.range_add, List.range_add]
  simp [Function.comp_def, Nat.add_comm, Nat.add_left_comm]
 rw [this, List.flatMap_append, List.flatMap_cons];simp [List.append_assoc]
theorem Qj8 {H0 : List Blk} {n i : Nat} {E : Nat -> Bool} (hi : i < n) (hE : E i = false) {C : Blk} (hC : nb i = some C) :
 (HE H0 nb n E)[(HE H0 nb i E).length]? = some Blk.none /\ (HE H0 nb n E).set (HE H0 nb i E).length C = HE H0 nb n (fun j => E j || decide (j = i)) := by
 have hs := Qj7 H0 nb n i E hi;have hs' := Qj7 H0 nb n i (fun j => E j || decide (j = i)) hi
 have e1 : HE H0 nb i (fun j => E j || decide (j = i)) = HE H0 nb i E := by
  unfold HE
  congr 1
  apply congrArg List.flatten;apply List.map_congr_left;intro j hj;have := List.mem_range.1 hj;simp [show j ≠ i by omega]
 have e2 : (((List.range (n - i - 1)).map (· + (i + 1))).flatMap fun j => maskB (E j || decide (j = i)) (nb j)) = ((List.range (n - i - 1)).map (· + (i + 1))).flatMap fun j => maskB (E j) (nb j) := by
  apply congrArg List.flatten;apply List.map_congr_left;intro j hj;obtain ⟨k, _, rfl⟩ := List.mem_map.1 hj;simp [show k + (i + 1) ≠ i by omega]
 constructor
 ·rw [hs, List.getElem?_append_right (Nat.le_refl _), hC, hE]
  simp [maskB]
 ·rw [hs, hs', e1, e2, hC, hE, List.set_append_right _ _ (Nat.le_refl _)]
  simp [maskB]
theorem Qk7 {H0 : List Blk} {n i : Nat} {E : Nat -> Bool} (hC : nb i = none) : HE H0 nb n E = HE H0 nb n (fun j => E j || decide (j = i)) := by
 unfold HE
 congr 1
 apply congrArg List.flatten;apply List.map_congr_left;intro j hj
 by_cases hji : j = i
 ·subst hji; rw [hC]; rfl
 ·simp [hji]
theorem HE_all {H0 : List Blk} {n : Nat} {E : Nat -> Bool} (h : ∀ i, i < n -> E i = true) : HE H0 nb n E = H0 ++ (List.range n).flatMap fun j => (nb j).toList := by
 unfold HE
 congr 1
 apply congrArg List.flatten;apply List.map_congr_left;intro j hj;rw [h j (List.mem_range.1 hj), QjU]
theorem QnC {H0 : List Blk} {n i : Nat} {E : Nat -> Bool} (hi : i <= n) : Agree (H0 ++ (List.range i).flatMap fun j => (nb j).toList) (HE H0 nb n E) := by
 have key : ∀ (l : List Nat) (L : List Blk) (k : Nat) (C : Blk), (l.flatMap fun j => (nb j).toList)[k]? = some C ->
  ((l.flatMap fun j => maskB (E j) (nb j)) ++ L)[k]? = some C ∨ ((l.flatMap fun j => maskB (E j) (nb j)) ++ L)[k]? = some Blk.none := by
  intro l;induction l with
  |nil => intro L k C h; simp at h
  |cons j l ih =>
   intro L k C h;rw [List.flatMap_cons] at h;rw [List.flatMap_cons, List.append_assoc];cases hn : nb j with
   |none => rw [hn] at h; simpa [maskB] using ih L k C (by simpa using h)
   |some D =>
    rw [hn] at h;cases k with
    |zero =>
     simp at h;subst h;cases hE : E j <;> simp [maskB]
    |succ k => simpa [maskB] using ih L k C (by simpa using h)
 intro k C hC;unfold HE
 by_cases hk : k < H0.length
 ·rw [List.getElem?_append_left hk] at hC
  rw [List.getElem?_append_left hk];exact .inl hC
 ·rw [List.getElem?_append_right (by omega)] at hC
  rw [List.getElem?_append_right (by omega)]
  have hsp : List.range n = List.range i ++ (List.range (n - i)).map (i + ·) := by
   rw [<- List.range_add]; congr 1; omega
  rw [hsp, List.flatMap_append];exact key _ _ _ _ hC
theorem Chain.slot (h : Chain P ops l st xv nb) : ∀ i, i <= l.length -> ∀ t,
 (∃ j o, j < i /\ l[j]? = some o /\ o.dst = some t /\ (∀ j' o', j' < i -> l[j']? = some o' -> o'.dst = some t -> j' <= j) /\ look (st i).env t = xv j) ∨
 ((∀ j o, j < i -> l[j]? = some o -> o.dst ≠ some t) /\ look (st i).env t = look (st 0).env t)
 |0, _, t => .inr ⟨fun j o hj => by omega, rfl⟩
 |i + 1, hi, t => by
  have ho : l[i]? = some l[i] := List.getElem?_eq_getElem (by omega);have hst := (h.step i _ ho).2
  by_cases hd : l[i].dst = some t
  ·refine .inl ⟨i, _, by omega, ho, hd, fun j' o' hj' _ _ => by omega, ?_⟩
   rw [hst];show look (putE (st i).env l[i].dst (xv i)) t = _;rw [hd]; exact QbM _ _ _
  ·have hlk : look (st (i + 1)).env t = look (st i).env t := by
    rw [hst];show look (putE (st i).env l[i].dst (xv i)) t = _;cases hd' : l[i].dst with
    |none => rfl
    |some d => exact QbU (fun e => hd (by rw [hd', e])) _ _
   rcases Chain.slot h i (by omega) t with ⟨j, o, h1, h2, h3, h4, h5⟩ | ⟨h1, h2⟩
   ·refine .inl ⟨j, o, by omega, h2, h3, fun j' o' hj' ho' hd' => ?_, hlk.trans h5⟩
    by_cases hji : j' = i
    ·subst hji; rw [ho] at ho'; obtain rfl := Option.some.inj ho'; exact absurd hd' hd
    ·exact h4 j' o' (by omega) ho' hd'
   ·refine .inr ⟨fun j o hj ho' => ?_, hlk.trans h2⟩
    by_cases hji : j = i
    ·subst hji; rw [ho] at ho'; obtain rfl := Option.some.inj ho'; exact hd
    ·exact h1 j o (by omega) ho'
end
def Lift (B : Bs) (Q : Exit -> St -> Prop) : Exit -> Act -> World -> Prop := fun e a w => ∃ s σ S, Q e s /\ SmA B σ S s a w
def AWP (P : Program) (c : Code) (Q : Exit -> St -> Prop) (s : St) : Prop := ∀ B, Gd B -> ∀ σ S a w, SmA B σ S s a w -> c.wp P (Lift B Q) a w
theorem Qc8 {ops : List Oper} (h : tmpOk ops = true) {i j : Nat} {o p : Oper} {t : Nat} (ho : ops[i]? = some o) (hp : ops[j]? = some p) (ht : t ∈ names ops o) (hd : p.dst = some t) (hne : j ≠ i) :
 (j < i -> ((befs ops []).getD i 0).testBit j = true) /\ (i < j -> ((befs ops []).getD j 0).testBit i = true) := by
 unfold tmpOk at h;simp only [List.all_eq_true] at h;have hm : ∀ (k : Nat) (q : Oper), ops[k]? = some q -> (q, k) ∈ ops.zipIdx := fun k q hq => List.mk_mem_zipIdx_iff_getElem?.2 hq
 have := h (o, i) (hm i o ho) t ht (p, j) (hm j p hp);simp only [hd, beq_self_eq_true, Bool.not_true, Bool.false_or, Bool.or_eq_true, beq_iff_eq, hne, false_or] at this;constructor
 ·intro hlt
  have hb : Nat.blt j i = true := by simpa using hlt
  rw [hb] at this; exact this
 ·intro hlt
  have hb : Nat.blt j i = false := by
   cases hb : Nat.blt j i
   ·rfl
   ·have : j < i := by simpa using hb
    omega
  rw [hb] at this; exact this
variable {P : Program}
theorem QdI {o : Oper} {a : Act} {w w' : World} {K : Act -> World -> Prop} {Q : Exit -> Act -> World -> Prop} {y : Value}
 (h : (execOp a.eval o).run P w = .ok (.value y) w') (k : K (a.put o.dst y) w') : o.wp P a w K Q := by
 unfold Oper.wp; rw [h]; exact k
theorem QbD {o : Oper} {env : List (Nat × AV)} {H : List Blk} {x : AV}
 (h : ∀ (σ : Sg) (S : Nat -> Prop) (H' : List Blk) (a : Act) (w : World), (∀ k C, H'[k]? = some C -> BlkOk σ S H' w k C) -> (∀ u ∈ o.op.operands, Rel σ S H' w (aval env u) (a.eval u)) -> Agree H H' ->
   ∃ v, (execOp a.eval o).run P w = .ok (.value v) w /\ Rel σ S H' w x v) : Loc P o env H x none := by
 intro B σ S H' a w _ hS hop hag _ K Q k;obtain ⟨v, h1, h2⟩ := h σ S H' a w hS.blk hop hag;exact QdI h1 (k v w σ S hS h2 (Ev.refl _ _ _ _))
theorem Qlo {o : Oper} {env : List (Nat × AV)} {H : List Blk} {cells : List AV}
 (h : ∀ (σ : Sg) (S : Nat -> Prop) (H' : List Blk) (a : Act) (w : World), (∀ u ∈ o.op.operands, Rel σ S H' w (aval env u) (a.eval u)) ->
   ∃ cs T, (execOp a.eval o).run P w = .ok (.value (.pointer (some ⟨w.heap.size, 0, none⟩))) (w.alloc (.cells cs T)) /\ ∀ (j : Nat) x, cells[j]? = some x -> ∃ v, cs[j]? = some v /\ Rel σ S H' w x v) :
 Loc P o env H (.ptr H.length 0 0) (some (.row 0 cells)) := by
 intro B σ S H' a w _ hS hop hag hk K Q k;have hκ := hk _ rfl;obtain ⟨cs, T, h1, h2⟩ := h σ S H' a w hop;obtain ⟨h3, h4⟩ := hS.fillRow (T := T) hκ h2;have hl : H.length < H'.length := (List.getElem?_eq_some_iff.1 hκ).1;refine QdI h1 (k _ _ _ _ h3 (.ptr _ 0 0 _ rfl 0 cells (List.getElem?_set_self hl) (Nat.le_refl _) fun _ => ⟨_, Qb3 _ _ _, rfl⟩) h4)
theorem Qlu {o : Oper} {env : List (Nat × AV)} {H : List Blk} {sz len : Nat} {T : TypeId} {rows : List (List D)} (hlen : rows.length = len) (hsz : ∀ r ∈ rows, r.length = sz)
 (h : ∀ (σ : Sg) (S : Nat -> Prop) (H' : List Blk) (a : Act) (w : World), (∀ u ∈ o.op.operands, Rel σ S H' w (aval env u) (a.eval u)) ->
   ∃ cs, (execOp a.eval o).run P w = .ok (.value (.slice (some ⟨w.heap.size, 0, none⟩) len len)) (w.alloc (.cells cs T)) /\ cs.size = len * sz /\ len <= maxLen /\
     ∀ (i j : Nat) r d, rows[i]? = some r -> r[j]? = some d -> ∃ v, cs[i * sz + j]? = some v /\ RelD S w d v) :
 Loc P o env H (.osl H.length 0 0 len) (some (.arr 0 sz T rows)) := by
 intro B σ S H' a w _ hS hop hag hk K Q k;have hκ := hk _ rfl;obtain ⟨cs, h1, hcs, hm, h2⟩ := h σ S H' a w hop;obtain ⟨h3, h4⟩ := hS.fillArr (g := 0) (T := T) hκ hsz h2;have hl : H.length < H'.length := (List.getElem?_eq_some_iff.1 hκ).1;refine QdI h1 (k _ _ _ _ h3 (.osl _ 0 0 len _ rfl 0 sz T rows (List.getElem?_set_self hl) (Nat.le_refl _) fun _ => ⟨by omega, .inl ⟨w.heap.size, len, cs, T, Qb3 _ _ _, Nat.le_refl _, hm, by simp, Qck _ _, by simpa using hcs⟩⟩) h4)
def D.vals : List D -> Option (List Value)
 |[] => some []
 |.v x :: r => (D.vals r).map (x :: ·)
 |_ => none
def AV.conc : AV -> Option Value
 |.d (.v x) => some x
 |.d (.agg l) => (D.vals l).map fun vs => .agg vs.toArray
 |.fn f [] => some (.func f #[] #[])
 |_ => none
theorem D.vals_rel {S : Nat -> Prop} {w : World} : ∀ {l : List D} {vs cs : List Value}, D.vals l = some vs -> l.length = cs.length -> (∀ (i : Nat) d x, l[i]? = some d -> cs[i]? = some x -> RelD S w d x) -> cs = vs
 |[], vs, cs, h, hl, _ => by
  simp [D.vals] at h; subst h;exact List.eq_nil_of_length_eq_zero (by simpa using hl.symm)
 |d :: r, vs, [], h, hl, _ => by simp at hl
 |d :: r, vs, c :: cs, h, hl, hr => by
  cases d with
  |v x =>
   simp only [D.vals] at h;cases hv : D.vals r with
   |none => rw [hv] at h; cases h
   |some vs' =>
    rw [hv] at h; obtain rfl := Option.some.inj h;have h0 := hr 0 _ c rfl rfl;cases h0;have h3 := D.vals_rel (cs := cs) hv (by simpa using hl) fun i d x hd hx => hr (i + 1) d x (by simpa using hd) (by simpa using hx)
    rw [h3]
  |_ => simp [D.vals] at h
theorem AV.conc_rel {σ : Sg} {S : Nat -> Prop} {H : List Blk} {w : World} {x : AV} {v y : Value} (h : Rel σ S H w x v) (hc : x.conc = some y) : v = y := by
 cases h with
 |d d v h =>
  cases h with
  |v x => simpa [AV.conc] using hc
  |agg l cs hl hr =>
   simp only [AV.conc] at hc;cases hv : D.vals l with
   |none => rw [hv] at hc; cases hc
   |some vs =>
    rw [hv] at hc; obtain rfl := Option.some.inj hc;rw [D.vals_rel hv hl hr]
  |_ => simp [AV.conc] at hc
 |fn f l cs hl hr =>
  cases l with
  |nil =>
   simp [AV.conc] at hc; subst hc;have h3 : cs = [] := List.eq_nil_of_length_eq_zero (by simpa using hl.symm);rw [h3]
  |cons => simp [AV.conc] at hc
 |_ => simp [AV.conc] at hc
section
variable {dst : Option Tmp} {ty : TypeId} {pos : String} {after : Array Edge} {gd : Option (Nat × Bool)} {env : List (Nat × AV)} {H : List Blk}
theorem Qjb {u : Operand} : Loc P ⟨dst, .move u, ty, pos, after, gd⟩ env H (aval env u) none :=
 QbD fun σ S H' a w _ hop _ => ⟨a.eval u, rfl, hop u (by simp [Op.operands])⟩
theorem Qka {u : Operand} : Loc P ⟨dst, .assign u, ty, pos, after, gd⟩ env H (aval env u) none :=
 QbD fun σ S H' a w _ hop _ => ⟨a.eval u, rfl, hop u (by simp [Op.operands])⟩
theorem QmI {c x y : Operand} {b : Bool} {X Y : AV} (hc : aval env c = .d (.v (.bool b))) (hx : aval env x = X) (hy : aval env y = Y) :
 Loc P ⟨dst, .pick c x y, ty, pos, after, gd⟩ env H (bif b then X else Y) none :=
 QbD fun σ S H' a w _ hop _ => by
  have h := hop c (by simp [Op.operands]);rw [hc] at h;have hb : a.eval c = .bool b := AV.conc_rel h rfl;refine ⟨if b then a.eval x else a.eval y, by simp [execOp, hb, asBool], ?_⟩;cases b
  ·rw [<- hy]; exact hop y (by simp [Op.operands])
  ·rw [<- hx]; exact hop x (by simp [Op.operands])
theorem loc_un {op : UnOp} {T : TypeId} {x : Operand} {X z : Value} (hx : (aval env x).conc = some X)
 (h : ∀ (R : Result Value -> Prop) w, R (.ok z w) -> R ((Op.unary op X).run P w)) :
 Loc P ⟨dst, .unOp op T x, ty, pos, after, gd⟩ env H (.d (.v z)) none :=
 QbD fun σ S H' a w _ hop _ => by
  have h1 := AV.conc_rel (hop x (by simp [Op.operands])) hx;refine ⟨z, ?_, .d _ _ (.v _)⟩;have := h (fun r => r = .ok z w) w rfl;simp only [execOp, h1];rw [Sem.run_bind, this]; rfl
theorem loc_not {T : TypeId} {x : Operand} {b : Bool} (hx : aval env x = .d (.v (.bool b))) : Loc P ⟨dst, .unOp .not T x, ty, pos, after, gd⟩ env H (.d (.v (.bool !b))) none :=
 loc_un (X := .bool b) (by rw [hx]; rfl) fun R w h => h
structure TyF where
 agg : Bool
 size : Nat
 bytes : Nat
 zero : List Value
 elem : Option TypeId
 fields : List (Nat × Nat)
 places : Option (List (Nat × Nat))
 str : Bool
def tyf (P : Program) (T : TypeId) : Option TyF :=
 match P.underlying T, P.info? T with
 |some d, some i => match i.zero with
  |some z => some
   { agg := match d with | .struct _ | .array _ _ => true | _ => false
     size := i.size, bytes := i.bytes, zero := z.cells.toList
     elem := match d with | .slice e => some e | _ => none
     fields := match d with | .struct fs => fs.toList.map fun f => (f.offset, ((P.info? f.type).map (·.size)).getD 0) | _ => []
     places := match d with | .struct fs => fs.toList.mapM fun f => (P.info? f.type).map fun i => (f.offset, i.size) | _ => none
     str := match d with | .string => true | _ => false }
  |none => none
 |_, _ => none
theorem Qcf {T : TypeId} {F : TyF} (h : tyf P T = some F) : ∃ d i z, P.underlying T = some d /\ P.info? T = some i /\ i.zero = some z /\ i.size = F.size /\ i.bytes = F.bytes /\ z.cells.toList = F.zero /\
 (match d with | .struct _ | .array _ _ => true | _ => false) = F.agg /\ (match d with | .slice e => some e | _ => none) = F.elem /\
 (match d with | .struct fs => fs.toList.map fun f => (f.offset, ((P.info? f.type).map (·.size)).getD 0) | _ => []) = F.fields /\
 (match d with | .struct fs => fs.toList.mapM fun f => (P.info? f.type).map fun i => (f.offset, i.size) | _ => none) = F.places /\
 (match d with | .string => true | _ => false) = F.str := by
 unfold tyf at h;cases hd : P.underlying T with
 |none => rw [hd] at h; cases h
 |some d =>
  cases hi : P.info? T with
  |none => rw [hd, hi] at h; cases h
  |some i =>
   rw [hd, hi] at h;simp only at h;cases hz : i.zero with
   |none => rw [hz] at h; cases h
   |some z =>
    rw [hz] at h;simp only [Option.some.injEq] at h;subst h;exact ⟨d, i, z, rfl, rfl, hz, rfl, rfl, rfl, rfl, rfl, rfl, rfl, rfl⟩
theorem QbX {T e : TypeId} {F : TyF} (h : tyf P T = some F) (he : F.elem = some e) : P.underlying T = some (.slice e) := by
 obtain ⟨d, i, z, hd, _, _, _, _, _, _, h1, _⟩ := Qcf h;rw [he] at h1;cases d with
 |slice e' => simp at h1; subst h1; exact hd
 |_ => simp at h1
theorem Qds {T : TypeId} {F : TyF} (h : tyf P T = some F) (he : F.str = true) : P.underlying T = some .string := by
 obtain ⟨d, i, z, hd, _, _, _, _, _, _, _, _, _, h1⟩ := Qcf h;rw [he] at h1;cases d <;> first | exact hd | simp at h1
theorem QgO {T : TypeId} {F : TyF} (h : tyf P T = some F) (w : World) : (isAgg T).run P w = .ok F.agg w := by
 obtain ⟨d, i, z, hd, _, _, _, _, _, ha, _⟩ := Qcf h;unfold isAgg;rw [Sem.run_bind, run_underlying hd];rw [<- ha];cases d <;> rfl
theorem Qcu {T : TypeId} {F : TyF} (h : tyf P T = some F) (w : World) : (sizeOf T).run P w = .ok F.size w := by
 obtain ⟨d, i, z, _, hi, _, hs, _⟩ := Qcf h;simp [sizeOf, typeInfo, hi, hs]
theorem Qmw {T : TypeId} {F : TyF} (h : tyf P T = some F) (w : World) : ∃ z, (zeroValue T).run P w = .ok z w /\ z.cells.toList = F.zero := by
 obtain ⟨d, i, z, _, hi, hz, _, _, hzz, _⟩ := Qcf h;exact ⟨z, by simp [zeroValue, typeInfo, hi, hz], hzz⟩
theorem Qcg (b o j : Nat) : (⟨b, o, none⟩ : Addr).add j = ⟨b, o + j, none⟩ := by unfold Addr.add; split <;> simp_all
theorem Qdh {T : TypeId} {F : TyF} (hT : tyf P T = some F) {w : World} {b o : Nat} {vs : List Value} (hvs : ∀ (j : Nat) v, vs[j]? = some v -> w.cell? ⟨b, o + j, none⟩ = some v) :
 (F.agg = true -> vs.length = F.size -> (loadVar T ⟨b, o, none⟩).run P w = .ok (.agg vs.toArray) w) /\ (F.agg = false -> ∀ v, vs[0]? = some v -> (loadVar T ⟨b, o, none⟩).run P w = .ok v w) := by
 constructor
 ·intro ha hl
  have hc := run_loadCells_list (P := P) w ⟨b, o, none⟩ vs fun j v hv => by rw [Qcg]; exact hvs j v hv
  rw [hl] at hc;simp [loadVar, QgO hT, Qcu hT, ha, hc]
 ·intro ha v hv
  have := hvs 0 v hv;simp at this;simp [loadVar, QgO hT, ha, this]
def allD : List AV -> Option (List D)
 |[] => some []
 |.d x :: r => (allD r).map (x :: ·)
 |_ => none
theorem Qd5 : ∀ {l : List AV} {ds : List D}, allD l = some ds -> l = ds.map AV.d
 |[], ds, h => by simp [allD] at h; subst h; rfl
 |x :: r, ds, h => by
  cases x with
  |d y =>
   simp only [allD] at h;cases hr : allD r with
   |none => rw [hr] at h; cases h
   |some ds' => rw [hr] at h; obtain rfl := Option.some.inj h; rw [Qd5 hr]; rfl
  |_ => simp [allD] at h
def AV.mk (l : List AV) : AV := match allD l with | some ds => .d (.agg ds) | none => .agg l
theorem AV.mk_rel {σ : Sg} {S : Nat -> Prop} {w : World} {l : List AV} {cs : List Value} (hl : l.length = cs.length) (h : ∀ (i : Nat) d x, l[i]? = some d -> cs[i]? = some x -> Rel σ S H w d x) : Rel σ S H w (AV.mk l) (.agg cs.toArray) := by
 unfold AV.mk;cases hd : allD l with
 |none => exact .agg l cs hl h
 |some ds =>
  have he := Qd5 hd;subst he;refine .d _ _ (.agg ds cs (by simpa using hl) fun i d x hi hx => ?_);have := h i (.d d) x (by rw [List.getElem?_map, hi]; rfl) hx;cases this; assumption
def ldA (F : TyF) (cells : List AV) : Option AV := bif F.agg then (bif Nat.ble F.size cells.length then some (AV.mk (cells.take F.size)) else none) else cells.head?
def ldD (F : TyF) (cells : List D) : Option D := bif F.agg then (bif Nat.ble F.size cells.length then some (.agg (cells.take F.size)) else none) else cells.head?
theorem Qiq {T : TypeId} {F : TyF} (hT : tyf P T = some F) {S : Nat -> Prop} {w : World} {b o : Nat} {cells : List D} {x : D} (hx : ldD F cells = some x)
 (hc : ∀ (j : Nat) d, cells[j]? = some d -> ∃ v, w.cell? ⟨b, o + j, none⟩ = some v /\ RelD S w d v) : ∃ v, (loadVar T ⟨b, o, none⟩).run P w = .ok v w /\ RelD S w x v := by
 have hg : ∀ n, n <= cells.length -> ∃ vs : List Value, vs.length = n /\ ∀ (j : Nat) v, vs[j]? = some v -> w.cell? ⟨b, o + j, none⟩ = some v /\ ∃ d, cells[j]? = some d /\ RelD S w d v := by
  intro n;induction n with
  |zero => exact fun _ => ⟨[], rfl, fun j v h => by simp at h⟩
  |succ n ih =>
   intro hn;obtain ⟨vs, hl, h⟩ := ih (by omega);obtain ⟨v, hv, hr⟩ := hc n _ (List.getElem?_eq_getElem (by omega));refine ⟨vs ++ [v], by simp [hl], fun j u hu => ?_⟩
   by_cases hj : j < vs.length
   ·rw [List.getElem?_append_left hj] at hu; exact h j u hu
   ·have : j = n := by have := (List.getElem?_eq_some_iff.1 hu).1; simp at this; omega
    subst this;rw [List.getElem?_append_right (by omega)] at hu;simp [hl] at hu; subst hu;exact ⟨hv, _, List.getElem?_eq_getElem (by omega), hr⟩
 unfold ldD at hx;cases ha : F.agg with
 |true =>
  rw [ha] at hx;simp only [cond_true] at hx;cases hb : Nat.ble F.size cells.length with
  |false => rw [hb] at hx; cases hx
  |true =>
   rw [hb] at hx;obtain rfl := Option.some.inj hx;obtain ⟨vs, hl, hvs⟩ := hg F.size (by simpa using hb)
   refine ⟨_, (Qdh hT fun j v hv => (hvs j v hv).1).1 ha hl, .agg _ vs (by have : F.size <= cells.length := by simpa using hb
                                                                           rw [List.length_take]; omega) fun i d x hd hxx => ?_⟩
   obtain ⟨_, d', hd', hr⟩ := hvs i x hxx;rw [List.getElem?_take] at hd;split at hd
   ·rw [hd'] at hd; obtain rfl := Option.some.inj hd; exact hr
   ·cases hd
 |false =>
  rw [ha] at hx;simp only [cond_false] at hx;cases cells with
  |nil => cases hx
  |cons d r =>
   simp at hx; subst hx;obtain ⟨vs, hl, hvs⟩ := hg 1 (by simp)
   match vs, hl with
   |[v], _ =>
    obtain ⟨_, d', hd', hr⟩ := hvs 0 v rfl;simp at hd'; subst hd';exact ⟨v, (Qdh hT fun j v hv => (hvs j v hv).1).2 ha v rfl, hr⟩
theorem Qly {T : TypeId} {F : TyF} (hT : tyf P T = some F) {σ : Sg} {S : Nat -> Prop} {w : World} {b o : Nat} {cells : List AV} {x : AV} (hx : ldA F cells = some x)
 (hc : ∀ (j : Nat) d, cells[j]? = some d -> ∃ v, w.cell? ⟨b, o + j, none⟩ = some v /\ Rel σ S H w d v) : ∃ v, (loadVar T ⟨b, o, none⟩).run P w = .ok v w /\ Rel σ S H w x v := by
 have hg : ∀ n, n <= cells.length -> ∃ vs : List Value, vs.length = n /\ ∀ (j : Nat) v, vs[j]? = some v -> w.cell? ⟨b, o + j, none⟩ = some v /\ ∃ d, cells[j]? = some d /\ Rel σ S H w d v := by
  intro n;induction n with
  |zero => exact fun _ => ⟨[], rfl, fun j v h => by simp at h⟩
  |succ n ih =>
   intro hn;obtain ⟨vs, hl, h⟩ := ih (by omega);obtain ⟨v, hv, hr⟩ := hc n _ (List.getElem?_eq_getElem (by omega));refine ⟨vs ++ [v], by simp [hl], fun j u hu => ?_⟩
   by_cases hj : j < vs.length
   ·rw [List.getElem?_append_left hj] at hu; exact h j u hu
   ·have : j = n := by have := (List.getElem?_eq_some_iff.1 hu).1; simp at this; omega
    subst this;rw [List.getElem?_append_right (by omega)] at hu;simp [hl] at hu; subst hu;exact ⟨hv, _, List.getElem?_eq_getElem (by omega), hr⟩
 unfold ldA at hx;cases ha : F.agg with
 |true =>
  rw [ha] at hx;simp only [cond_true] at hx;cases hb : Nat.ble F.size cells.length with
  |false => rw [hb] at hx; cases hx
  |true =>
   rw [hb] at hx;obtain rfl := Option.some.inj hx;obtain ⟨vs, hl, hvs⟩ := hg F.size (by simpa using hb)
   refine ⟨_, (Qdh hT fun j v hv => (hvs j v hv).1).1 ha hl, AV.mk_rel (by have : F.size <= cells.length := by simpa using hb
                                                                           rw [List.length_take]; omega) fun i d x hd hxx => ?_⟩
   obtain ⟨_, d', hd', hr⟩ := hvs i x hxx;rw [List.getElem?_take] at hd;split at hd
   ·rw [hd'] at hd; obtain rfl := Option.some.inj hd; exact hr
   ·cases hd
 |false =>
  rw [ha] at hx;simp only [cond_false] at hx;cases cells with
  |nil => cases hx
  |cons d r =>
   simp at hx; subst hx;obtain ⟨vs, hl, hvs⟩ := hg 1 (by simp)
   match vs, hl with
   |[v], _ =>
    obtain ⟨_, d', hd', hr⟩ := hvs 0 v rfl;simp at hd'; subst hd';exact ⟨v, (Qdh hT fun j v hv => (hvs j v hv).1).2 ha v rfl, hr⟩
theorem Qil {T : TypeId} {F : TyF} {u : Operand} {cells : List D} {x : D} (hT : tyf P T = some F) (hu : aval env u = .d (.pd cells)) (hx : ldD F cells = some x) :
 Loc P ⟨dst, .load T u, ty, pos, after, gd⟩ env H (.d x) none :=
 QbD fun σ S H' a w _ hop _ => by
  have h := hop u (by simp [Op.operands]);rw [hu] at h;generalize hv : a.eval u = v at h;cases h with
  |d _ _ h =>
   cases h with
   |pd l b o g hS hc hr =>
    obtain ⟨y, h1, h2⟩ := Qiq hT hx fun j d hd => ⟨g j, hc j d hd, hr j d hd⟩
    exact ⟨y, by simp [execOp, Instr.loadAt, Instr.sureAddr, hv, h1], .d _ _ h2⟩
theorem Qhm {T : TypeId} {F : TyF} {u : Operand} {k g o : Nat} {cells : List AV} {x : AV} (hT : tyf P T = some F) (hu : aval env u = .ptr k g o) (hk : H[k]? = some (.row g cells))
 (hx : ldA F (cells.drop o) = some x) : Loc P ⟨dst, .load T u, ty, pos, after, gd⟩ env H x none :=
 QbD fun σ S H' a w hB hop hag => by
  have h := hop u (by simp [Op.operands]);rw [hu] at h;generalize hv : a.eval u = v at h;cases h with
  |ptr _ _ _ _ _ g' cells' hk' hg hh =>
   have hke : H'[k]? = some (.row g cells) := by
    rcases hag k _ hk with h | h
    ·exact h
    ·rw [hk'] at h; cases h
   rw [hk'] at hke;obtain ⟨rfl, rfl⟩ : g' = g /\ cells' = cells := by injection (Option.some.inj hke) with h1 h2; exact ⟨h1, h2⟩
   obtain ⟨b, hb, rfl⟩ := hh rfl;rcases hB k _ hk' with ⟨b', cs, T', hb', hc, hr⟩ | ⟨hb', _⟩;rotate_left
   ·rw [hb] at hb'; cases hb'
   rw [hb] at hb'; obtain rfl := Option.some.inj hb'
   obtain ⟨y, h1, h2⟩ := Qly (b := b) (o := o) hT hx fun j d hd => by
    rw [List.getElem?_drop] at hd;obtain ⟨u, hu, hr'⟩ := hr _ d hd;exact ⟨u, by rw [cell_of_row w b _ cs T' (0, 0) hc]; exact hu, hr'⟩
   exact ⟨y, by simp [execOp, Instr.loadAt, Instr.sureAddr, hv, h1], h2⟩
theorem QbK {T T0 : TypeId} {F : TyF} {u : Operand} {k g i j sz : Nat} {rows : List (List D)} {r : List D} {x : D} (hT : tyf P T = some F) (hu : aval env u = .ept k g i j) (hk : H[k]? = some (.arr g sz T0 rows))
 (hr : rows[i]? = some r) (hx : ldD F (r.drop j) = some x) : Loc P ⟨dst, .load T u, ty, pos, after, gd⟩ env H (.d x) none :=
 QbD fun σ S H' a w hB hop hag => by
  have h := hop u (by simp [Op.operands]);rw [hu] at h;generalize hv : a.eval u = v at h;cases h with
  |ept _ _ _ _ _ _ g' sz' T' rows' hk' hg hh =>
   have hke : H'[k]? = some (.arr g sz T0 rows) := by
    rcases hag k _ hk with h | h
    ·exact h
    ·rw [hk'] at h; cases h
   rw [hk'] at hke;obtain ⟨rfl, rfl, rfl, rfl⟩ : g' = g /\ sz' = sz /\ T' = T0 /\ rows' = rows := by injection (Option.some.inj hke) with h1 h2 h3 h4; exact ⟨h1, h2, h3, h4⟩
   obtain ⟨b, hb, rfl⟩ := hh rfl;obtain ⟨_, hbk⟩ := hB k _ hk';rcases hbk with ⟨b', cs, hb', hc, hrel⟩ | ⟨hb', _⟩;rotate_left
   ·rw [hb] at hb'; cases hb'
   rw [hb] at hb'; obtain rfl := Option.some.inj hb'
   obtain ⟨y, h1, h2⟩ := Qiq (b := b) (o := i * sz' + j) hT hx fun q d hd => by
    rw [List.getElem?_drop] at hd;obtain ⟨u, hu, hr'⟩ := hrel i _ r d hr hd;exact ⟨u, by rw [cell_of_row w b _ cs T' (0, 0) hc, Nat.add_assoc]; exact hu, hr'⟩
   exact ⟨y, by simp [execOp, Instr.loadAt, Instr.sureAddr, hv, h1], .d _ _ h2⟩
theorem QdQ {T : TypeId} {F : TyF} (hT : tyf P T = some F) {f o n : Nat} (hf : F.fields[f]? = some (o, n)) (hn : 0 < n) (b q : Nat) (w : World) :
 (Instr.fieldAt T (.pointer (some ⟨b, q, none⟩)) f).run P w = .ok (.pointer (some ⟨b, q + o, none⟩)) w := by
 obtain ⟨d, i, z, hd, hi, hz, _, _, _, _, _, hfs, _⟩ := Qcf hT;cases d with
 |struct fs =>
  simp only at hfs;rw [<- hfs, List.getElem?_map] at hf;cases hx : fs.toList[f]? with
  |none => rw [hx] at hf; cases hf
  |some fld =>
   rw [hx] at hf;simp only [Option.map_some, Option.some.injEq, Prod.mk.injEq] at hf;obtain ⟨rfl, hs⟩ := hf;have hx' : fs[f]? = some fld := by simpa using hx
   cases hfi : P.info? fld.type with
   |none => rw [hfi] at hs; simp at hs; omega
   |some fi =>
    rw [hfi] at hs; simp at hs;simp [Instr.fieldAt, run_underlying hd, hx', Instr.sureAddr, fieldPlace, sizeOf, typeInfo, hfi, hs, Qcg, show n ≠ 0 by omega]
 |_ => simp only at hfs; rw [<- hfs] at hf; simp at hf
theorem Qhn {T : TypeId} {F : TyF} {u : Operand} {f o n : Nat} {cells : List D} (hT : tyf P T = some F) (hu : aval env u = .d (.pd cells)) (hf : F.fields[f]? = some (o, n)) (hn : Nat.blt 0 n = true) :
 Loc P ⟨dst, .fieldAddr T u f, ty, pos, after, gd⟩ env H (.d (.pd (cells.drop o))) none :=
 QbD fun σ S H' a w _ hop _ => by
  have h := hop u (by simp [Op.operands]);rw [hu] at h;generalize hv : a.eval u = v at h;cases h with
  |d _ _ h =>
   cases h with
   |pd l b q g hS hc hr =>
    refine ⟨_, (by simp [execOp, hv, QdQ hT hf (by simpa using hn)] : (execOp a.eval ⟨dst, .fieldAddr T u f, ty, pos, after, gd⟩).run P w = .ok (.value (.pointer (some ⟨b, q + o, none⟩))) w), .d _ _ (.pd _ b (q + o) (fun j => g (o + j)) hS (fun j d hd => ?_) fun j d hd => ?_)⟩
    ·rw [List.getElem?_drop] at hd; rw [Nat.add_assoc]; exact hc _ d hd
    ·rw [List.getElem?_drop] at hd; exact hr _ d hd
theorem Qgs {T : TypeId} {F : TyF} {u : Operand} {f o n k g q : Nat} (hT : tyf P T = some F) (hu : aval env u = .ptr k g q) {cells : List AV} (hk : H[k]? = some (.row g cells)) (hf : F.fields[f]? = some (o, n)) (hn : Nat.blt 0 n = true) :
 Loc P ⟨dst, .fieldAddr T u f, ty, pos, after, gd⟩ env H (.ptr k g (q + o)) none :=
 QbD fun σ S H' a w _ hop hag => by
  have h := hop u (by simp [Op.operands]);rw [hu] at h;generalize hv : a.eval u = v at h;cases h with
  |ptr _ _ _ _ _ g' cells' hk' hg hh =>
   have hke : H'[k]? = some (.row g cells) := by
    rcases hag k _ hk with h | h
    ·exact h
    ·rw [hk'] at h; cases h
   rw [hk'] at hke;obtain ⟨rfl, rfl⟩ : g' = g /\ cells' = cells := by injection (Option.some.inj hke) with h1 h2; exact ⟨h1, h2⟩
   obtain ⟨b, hb, rfl⟩ := hh rfl;refine ⟨_, (by simp [execOp, hv, QdQ hT hf (by simpa using hn)] : (execOp a.eval ⟨dst, .fieldAddr T u f, ty, pos, after, gd⟩).run P w = .ok (.value (.pointer (some ⟨b, q + o, none⟩))) w), .ptr _ _ _ _ rfl g' cells' hk' hg fun _ => ⟨b, hb, rfl⟩⟩
theorem Qgt {T T0 : TypeId} {F : TyF} {u : Operand} {f o n k g i q sz : Nat} {rows : List (List D)} (hT : tyf P T = some F) (hu : aval env u = .ept k g i q) (hk : H[k]? = some (.arr g sz T0 rows)) (hf : F.fields[f]? = some (o, n)) (hn : Nat.blt 0 n = true) :
 Loc P ⟨dst, .fieldAddr T u f, ty, pos, after, gd⟩ env H (.ept k g i (q + o)) none :=
 QbD fun σ S H' a w _ hop hag => by
  have h := hop u (by simp [Op.operands]);rw [hu] at h;generalize hv : a.eval u = v at h;cases h with
  |ept _ _ _ _ _ _ g' sz' T' rows' hk' hg hh =>
   have hke : H'[k]? = some (.arr g sz T0 rows) := by
    rcases hag k _ hk with h | h
    ·exact h
    ·rw [hk'] at h; cases h
   rw [hk'] at hke;obtain ⟨rfl, rfl, rfl, rfl⟩ : g' = g /\ sz' = sz /\ T' = T0 /\ rows' = rows := by injection (Option.some.inj hke) with h1 h2 h3 h4; exact ⟨h1, h2, h3, h4⟩
   obtain ⟨b, hb, rfl⟩ := hh rfl;refine ⟨_, (by simp [execOp, hv, QdQ hT hf (by simpa using hn)] : (execOp a.eval ⟨dst, .fieldAddr T u f, ty, pos, after, gd⟩).run P w = .ok (.value (.pointer (some ⟨b, i * sz' + q + o, none⟩))) w), .ept _ _ _ _ _ rfl g' sz' T' rows' hk' hg fun _ => ⟨b, hb, by simp [Nat.add_assoc]⟩⟩
theorem QdP {T e : TypeId} {F E : TyF} (hT : tyf P T = some F) (he : F.elem = some e) (hE : tyf P e = some E) {κ : IntKind} {i : Int} {b o len cap : Nat} (h0 : 0 <= i) (h1 : i < len) (w : World) :
 (Instr.indexAt T (.slice (some ⟨b, o, none⟩) len cap) (.int κ i)).run P w = .ok (.pointer (some ⟨b, o + i.toNat * E.size, none⟩)) w := by
 obtain ⟨d, inf, z, hd, _, _, _, _, _, _, hel, _⟩ := Qcf hT;rw [he] at hel;cases d with
 |slice e' =>
  simp at hel;subst hel;simp [Instr.indexAt, asIntOf, run_underlying hd, h0, h1, Qcu hE, Qcg]
 |_ => simp at hel
theorem Qbh {T e : TypeId} {F E : TyF} {u v : Operand} {κ : IntKind} {i : Int} {n : Nat} {c : Bool} {rows : List (List D)} {r : List D} (hT : tyf P T = some F) (he : F.elem = some e) (hE : tyf P e = some E)
 (hn : E.size = n) (hu : aval env u = .d (.sl c n rows)) (hv : aval env v = .d (.v (.int κ i))) (h0 : 0 <= i) (hr : rows[i.toNat]? = some r) :
 Loc P ⟨dst, .indexAddr T u v, ty, pos, after, gd⟩ env H (.d (.pd r)) none :=
 QbD fun σ S H' a w _ hop _ => by
  subst hn;have h := hop u (by simp [Op.operands]);have h' := AV.conc_rel (hop v (by simp [Op.operands])) (y := .int κ i) (by rw [hv]; rfl);rw [hu] at h;generalize hx : a.eval u = x at h;cases h with
  |d _ _ h =>
   cases h with
   |slnil => simp at hr
   |sl _ _ _ b o cap g hS hlen hcap hc hrel =>
    have hlt : i.toNat < rows.length := (List.getElem?_eq_some_iff.1 hr).1;refine ⟨_, by simp only [execOp, hx, h', Sem.run_bind, QdP hT he hE (len := rows.length) (cap := cap) (b := b) (o := o) h0 (by omega) w]; rfl, .d _ _ (.pd r b _ (fun j => g i.toNat j) hS (fun j d hd => ?_) fun j d hd => hrel _ j r d hr hd)⟩;exact hc _ j r d hr hd
theorem Qb4 {T e T0 : TypeId} {F E : TyF} {u v : Operand} {κ : IntKind} {i : Int} {k g sz off len : Nat} {rows : List (List D)} (hT : tyf P T = some F) (he : F.elem = some e) (hE : tyf P e = some E)
 (hn : E.size = sz) (hu : aval env u = .osl k g off len) (hk : H[k]? = some (.arr g sz T0 rows)) (hv : aval env v = .d (.v (.int κ i))) (h0 : 0 <= i) (h1 : i < len) :
 Loc P ⟨dst, .indexAddr T u v, ty, pos, after, gd⟩ env H (.ept k g (off + i.toNat) 0) none :=
 QbD fun σ S H' a w _ hop hag => by
  subst hn;have h := hop u (by simp [Op.operands]);have h' := AV.conc_rel (hop v (by simp [Op.operands])) (y := .int κ i) (by rw [hv]; rfl);rw [hu] at h;generalize hx : a.eval u = x at h;cases h with
  |osl _ _ _ _ _ _ g' sz' T' rows' hk' hg hh =>
   have hke : H'[k]? = some (.arr g E.size T0 rows) := by
    rcases hag k _ hk with h | h
    ·exact h
    ·rw [hk'] at h; cases h
   rw [hk'] at hke;obtain ⟨rfl, rfl, rfl, rfl⟩ : g' = g /\ sz' = E.size /\ T' = T0 /\ rows' = rows := by injection (Option.some.inj hke) with h1 h2 h3 h4; exact ⟨h1, h2, h3, h4⟩
   obtain ⟨_, hh⟩ := hh rfl;rcases hh with ⟨b, cap, cs, T', hb, hl, hm, rfl, hc, hs⟩ | ⟨hb, rfl, rfl⟩
   ·exact ⟨_, by simp only [execOp, hx, h', Sem.run_bind, QdP hT he hE h0 h1 w]; rfl, .ept _ _ _ _ _ rfl g' E.size _ rows' hk' hg fun _ => ⟨b, hb, by simp [Nat.add_mul]⟩⟩
   ·omega
end
end Aw
end Go.Proofs.YtdjkdcokjoiokaaGreatDoor

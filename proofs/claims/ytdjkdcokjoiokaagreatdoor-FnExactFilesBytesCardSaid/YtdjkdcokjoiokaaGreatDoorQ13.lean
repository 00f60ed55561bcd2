/- Part 13 of the proof of bytes_card: contracts, walks, plain laws; no condition is assumed beyond those that a statement names. -/
import Derived.Test.YtdjkdcokjoiokaaGreatDoorQ03
import Derived.Orders
import Derived.KernelRfl
import Derived.ArgAppend
set_option linter.all false
namespace Go.Proofs.YtdjkdcokjoiokaaGreatDoor
open Go.RowKit
namespace Pm
def Row (w : World) (b : Nat) (cur : Array Value) : Prop := ∃ T, w.heap[b]? = some (.cells cur T (0, 0))
section
variable {w w' : World} {b : Nat} {cur : Array Value}
theorem Row.lt (h : Row w b cur) : b < w.heap.size := by
 obtain ⟨T, h⟩ := h
 rcases Nat.lt_or_ge b w.heap.size with hlt | hge
 ·exact hlt
 ·rw [Array.getElem?_eq_none hge] at h; cases h
theorem Row.cell (h : Row w b cur) (i : Nat) : w.cell? ⟨b, i, none⟩ = cur[i]? := by obtain ⟨T, h⟩ := h; simp [World.cell?, h]
theorem Row.free (h : Row w b cur) (i : Nat) : w.frozen? ⟨b, i, none⟩ = false := by obtain ⟨T, h⟩ := h; simp [World.frozen?, h]
theorem Row.keep (h : Row w b cur) (hk : w'.heap[b]? = w.heap[b]?) : Row w' b cur := by obtain ⟨T, h⟩ := h; exact ⟨T, hk.trans h⟩
theorem Row.get (h : Row w b cur) (i : Nat) {v : Value} (hv : cur[i]? = some v) : w.cell? ⟨b, i, none⟩ = some v := (h.cell i).trans hv
theorem Row.below (h : Row w b cur) (hb : Below w.heap.size w w') : Row w' b cur := h.keep (hb.block _ h.lt)
theorem Row.alloc (h : Row w b cur) (o : Obj) : Row (w.alloc o) b cur := h.below (bnew w o)
theorem Row.far (h : Row w b cur) {b' : Nat} (hb : b ≠ b') (i : Nat) (v : Value) : Row (w.setCell ⟨b', i, none⟩ v) b cur := h.keep (Below.heap_setCell w ⟨b', i, none⟩ v b hb)
theorem Row.drew (h : Row w b cur) : Row w.drew b cur := h
theorem Row.set (h : Row w b cur) (i : Nat) (v : Value) : Row (w.setCell ⟨b, i, none⟩ v) b (cur.setIfInBounds i v) := by
 obtain ⟨T, h⟩ := h
 exact ⟨T, by simp [World.setCell, Array.getElem?_modify, h]⟩
theorem Row.new (w : World) (cur : Array Value) (T : TypeId) : Row (w.alloc (.cells cur T)) w.heap.size cur := ⟨T, heap_alloc_new w _⟩
theorem Row.of_owns {base : Nat} {e : TypeId} {size n cap : Nat} {g : Nat} {xs : List Value} (h : w.ownsRow base e size (.slice (some ⟨g, 0, none⟩) n cap) n xs) :
 ∃ cur, Row w g cur /\ base <= g /\ n <= cap /\ cur.size = cap * size /\ cur.toList.take (n * size) = xs := by
 obtain ⟨_, h | ⟨g', cap', cur, hv, hg, hh, hn, _, hs, ht⟩⟩ := h
 ·simp at h
 ·injection hv with h1 h2 h3
  injection h1 with h1
  injection h1 with h1
  subst h1; subst h3
  exact ⟨cur, ⟨e, hh⟩, hg, hn, hs, ht⟩
end
class Ow (α : Type) extends Rep α where
 own : World -> List Value -> α -> List Nat -> Prop
 olen : ∀ {w : World} {cs : List Value} {a : α} {fp : List Nat}, own w cs a fp -> cs.length = size
 frame : ∀ {w w' : World} {cs : List Value} {a : α} {fp : List Nat}, own w cs a fp -> (∀ b ∈ fp, w'.heap[b]? = w.heap[b]?) -> own w' cs a fp
 reads : ∀ {w : World} {cs : List Value} {a : α} {fp : List Nat} {B : Nat}, own w cs a fp -> (∀ b ∈ fp, b < B) -> cells w B cs a
 lt : ∀ {w : World} {cs : List Value} {a : α} {fp : List Nat}, own w cs a fp -> ∀ b ∈ fp, b < w.heap.size
instance : Ow Int where
 own _ cs n fp := (cs = [.int .i64 n] /\ InI n) /\ fp = []
 olen h := by rw [h.1.1]; rfl
 frame h _ := h
 reads h _ := h.1
 lt h := by rw [h.2]; simp
instance : Ow Bool where
 own _ cs b fp := cs = [.bool b] /\ fp = []
 olen h := by rw [h.1]; rfl
 frame h _ := h
 reads h _ := h.1
 lt h := by rw [h.2]; simp
instance : Ow (List UInt8) where
 own _ cs s fp := (cs = [vstr s] /\ s.length <= big) /\ fp = []
 olen h := by rw [h.1.1]; rfl
 frame h _ := h
 reads h _ := h.1
 lt h := by rw [h.2]; simp
instance {α β : Type} [Ow α] [Ow β] : Ow (α × β) where
 own w cs x fp := ∃ c d f g, cs = c ++ d /\ fp = f ++ g /\ Ow.own w c x.1 f /\ Ow.own w d x.2 g
 olen h := by obtain ⟨c, d, f, g, rfl, rfl, h1, h2⟩ := h; rw [List.length_append, Ow.olen h1, Ow.olen h2]; rfl
 frame h hk := by
  obtain ⟨c, d, f, g, rfl, rfl, h1, h2⟩ := h
  exact ⟨c, d, f, g, rfl, rfl, Ow.frame h1 fun b hb => hk b (List.mem_append_left _ hb), Ow.frame h2 fun b hb => hk b (List.mem_append_right _ hb)⟩
 reads h hk := by
  obtain ⟨c, d, f, g, rfl, rfl, h1, h2⟩ := h
  exact ⟨c, d, rfl, Ow.reads h1 fun b hb => hk b (List.mem_append_left _ hb), Ow.reads h2 fun b hb => hk b (List.mem_append_right _ hb)⟩
 lt h := by
  obtain ⟨c, d, f, g, rfl, rfl, h1, h2⟩ := h
  intro b hb
  rcases List.mem_append.1 hb with hb | hb
  ·exact Ow.lt h1 b hb
  ·exact Ow.lt h2 b hb
def Els {α : Type} [Ow α] (w : World) (cur : Array Value) (l : List α) (fps : List (List Nat)) : Prop :=
 fps.length = l.length /\ ∀ (i : Nat) (x : α), l[i]? = some x -> ∃ cs f, fps[i]? = some f /\ Ow.own w cs x f /\ ∀ (j : Nat) (v : Value), cs[j]? = some v -> cur[i * Rep.size α + j]? = some v
section
variable {α : Type} [Ow α] {w w' : World} {cur cur' : Array Value} {l : List α} {fps : List (List Nat)}
theorem Els.frame (h : Els w cur l fps) (hk : ∀ b ∈ fps.flatten, w'.heap[b]? = w.heap[b]?) : Els w' cur l fps :=
 ⟨h.1, fun i x hx => by
   obtain ⟨cs, f, h1, h2, h3⟩ := h.2 i x hx
   exact ⟨cs, f, h1, Ow.frame h2 fun b hb => hk b (List.mem_flatten.2 ⟨f, List.mem_of_getElem? h1, hb⟩), h3⟩⟩
end
instance (priority := low) {α : Type} [Ow α] : Ow (List α) where
 own w cs l fp := (l = [] /\ fp = [] /\ ∃ A c, cs = [.slice A 0 c]) ∨
  ∃ b c cur fps, cs = [.slice (some ⟨b, 0, none⟩) l.length c] /\ l.length <= big /\ l.length <= c /\ Row w b cur /\ l.length * Rep.size α <= cur.size /\ Els w cur l fps /\ fp = b :: fps.flatten
 olen h := by
  rcases h with ⟨_, _, _, _, rfl⟩ | ⟨_, _, _, _, rfl, _⟩ <;> rfl
 frame h hk := by
  rcases h with h | ⟨b, c, cur, fps, h1, h2, h3, h4, h5, h6, rfl⟩
  ·exact .inl h
  ·exact .inr ⟨b, c, cur, fps, h1, h2, h3, h4.keep (hk b List.mem_cons_self), h5, h6.frame fun x hx => hk x (List.mem_cons_of_mem _ hx), rfl⟩
 reads h hk := by
  rcases h with ⟨rfl, _, A, c, rfl⟩ | ⟨b, c, cur, fps, rfl, h2, h3, h4, h5, h6, rfl⟩
  ·exact ⟨A, c, rfl, by simp, At.nil⟩
  ·refine ⟨_, c, rfl, h2, fun _ => ⟨b, 0, rfl, hk b List.mem_cons_self, fun i x hx => ?_⟩⟩
   obtain ⟨cs, f, g1, g2, g3⟩ := h6.2 i x hx
   exact ⟨cs, Ow.reads g2 fun y hy => hk y (List.mem_cons_of_mem _ (List.mem_flatten.2 ⟨f, List.mem_of_getElem? g1, hy⟩)), fun j v hv => by rw [Nat.zero_add, h4.cell]; exact g3 j v hv⟩
 lt {w cs l fp} h := by
  rcases h with ⟨_, rfl, _⟩ | ⟨b, c, cur, fps, h1, h2, h3, h4, h5, h6, rfl⟩
  ·simp
  ·intro x hx
   rcases List.mem_cons.1 hx with rfl | hx
   ·exact h4.lt
   ·obtain ⟨f, hf, hx⟩ := List.mem_flatten.1 hx
    obtain ⟨i, hi, rfl⟩ := List.getElem_of_mem hf
    have hi' : i < l.length := by rw [<- h6.1]; exact hi
    obtain ⟨cs, f, g1, g2, _⟩ := h6.2 i _ (List.getElem?_eq_getElem hi')
    rw [List.getElem?_eq_getElem hi] at g1
    injection g1 with g1
    rw [g1] at hx
    exact Ow.lt g2 x hx
section
variable {fp fp' : List Nat} {w w1 w2 : World}
end
section
variable {α : Type} [Ow α] {w w' : World} {cur cur' : Array Value} {l : List α} {fps : List (List Nat)}
end
theorem Qi7 {w : World} {base : Nat} {e : TypeId} {v : Value} {l : List Str} (h : w.ownsRow base e 1 v l.length (l.map vstr)) (hb : ∀ s ∈ l, s.length <= big) (hl : l.length <= big) :
 ∃ A c, v = .slice A l.length c /\ At w w.heap.size A l := by
 obtain ⟨h1, ⟨hv, hn⟩ | ⟨g, cap, cur, hv, hg, hh, hn, hm, hs, ht⟩⟩ := h
 ·refine ⟨none, 0, by rw [hv, hn], ?_⟩
  have : l = [] := List.eq_nil_of_length_eq_zero hn
  subst this; exact At.nil
 ·refine ⟨_, cap, hv, fun _ => ⟨g, 0, rfl, ?_, fun i x hx => ⟨[vstr x], ⟨rfl, hb x (List.mem_of_getElem? hx)⟩, fun j u hj => ?_⟩⟩⟩
  ·rcases Nat.lt_or_ge g w.heap.size with hlt | hge
   ·exact hlt
   ·rw [Array.getElem?_eq_none hge] at hh; cases hh
  ·have hi : i < l.length := (List.getElem?_eq_some_iff.1 hx).1
   match j, hj with
   |0, hj =>
    simp only [List.getElem?_cons_zero, Option.some.injEq] at hj
    have hc : w.cell? ⟨g, i, none⟩ = cur[i]? := by simp [World.cell?, hh]
    have : (cur.toList.take (l.length * 1))[i]? = some (vstr x) := by rw [ht, List.getElem?_map, hx]; rfl
    rw [List.getElem?_take_of_lt (by omega)] at this
    simp only [Rep.size, Nat.mul_one, Nat.zero_add, Nat.add_zero]
    rw [hc, <- hj]
    simpa using this
theorem Qnj {w : World} {base : Nat} {e : TypeId} {size n n' c : Nat} {A : Option Addr} {xs : List Value} (h : w.ownsRow base e size (.slice A n' c) n xs) : n <= c := by
 obtain ⟨h1, ⟨hv, hn⟩ | ⟨g, cap, cur, hv, hg, hh, hn, hm⟩⟩ := h
 ·omega
 ·injection hv with h1 h2 h3; omega
theorem Qj4 {w : World} {base : Nat} {e : TypeId} (hb : base <= w.heap.size) : (w.alloc (.cells #[] e)).ownsRow base e 1 (.slice (some ⟨w.heap.size, 0, none⟩) 0 0) 0 [] :=
 ⟨rfl, .inr ⟨w.heap.size, 0, #[], rfl, hb, heap_alloc_new w _, Nat.le_refl _, Nat.zero_le _, rfl, rfl⟩⟩
end Pm
end Go.Proofs.YtdjkdcokjoiokaaGreatDoor
namespace Go.Proofs.YtdjkdcokjoiokaaGreatDoor
namespace Pl
abbrev Wait := Int × Str
abbrev Disk := List Str × List Wait × Bool
open Classical in
noncomputable def later (s : Str) (txg : Int) : Bool := decide (∃ r, IsRoot s r /\ txg < r.txg)
end Pl
end Go.Proofs.YtdjkdcokjoiokaaGreatDoor
namespace Go.Proofs.YtdjkdcokjoiokaaGreatDoor
namespace Pm
def upd (x : Nat -> Value) (i : Nat) (v : Value) : Nat -> Value := fun j => if j = i then v else x j
def backB (ops : Array Oper) : Bool := (List.range ops.size).all fun i => ((ops[i]?).map (·.after.all fun e => decide (e.on < i))).getD true
theorem ready_all {ops : Array Oper} {listed : Array Bool} (hb : backB ops = true) (hsz : listed.size = ops.size) (hr : Region.ready .any ops listed = []) : ∀ i, i < ops.size -> listed.getD i false = true := by
 intro i
 induction i using Nat.strongRecOn with
 |_ i ih =>
  intro hi
  rcases Bool.eq_false_or_eq_true (listed.getD i false) with h | h
  ·exact h
  exfalso
  have hm : i ∈ Region.ready .any ops listed := by
   rw [mem_ready]
   obtain ⟨o, ho⟩ : ∃ o, ops[i]? = some o := ⟨_, Array.getElem?_eq_getElem hi⟩
   have hl : listed.getD i true = false := by
    rw [Array.getD_eq_getD_getElem?, Array.getElem?_eq_getElem (by omega)] at h ⊢
    simpa using h
   refine ⟨hl, o, ho, fun e he _ => ?_⟩
   have hb' := List.all_eq_true.1 hb i (List.mem_range.2 hi)
   rw [ho] at hb'
   simp only [Option.map_some, Option.getD_some, Array.all_eq_true_iff_forall_mem] at hb'
   have hlt : e.on < i := by simpa using hb' e he
   exact ih _ hlt (by omega)
  rw [hr] at hm
  cases hm
def waitsB (ops : Array Oper) (i j : Nat) : Bool := ((ops[j]?).map (·.after.any fun e => Region.binds .any e && e.on == i)).getD false
theorem Qg0 {P : Program} {id : Nat} {ops : Array Oper} {Q : Exit -> Act -> World -> Prop} {w : World} (hm : P.follows .mixedOrders = true) (hb : backB ops = true)
 (F : (Nat -> Value) -> Act) (V : Nat -> Value -> World -> Prop) (S : World -> Prop) (R : World -> World -> Prop) (x0 : Nat -> Value)
 (hV : ∀ j v w w', V j v w -> R w w' -> V j v w') (hS0 : S { w with drawn := w.drawn + 1 })
 (hop : ∀ i o, ops[i]? = some o -> ∀ x w, S w -> (∀ e ∈ o.after, Region.binds .any e = true -> V e.on (x e.on) w) -> (∀ j, waitsB ops i j = true -> x j = x0 j) -> ∀ K, (∀ v w', R w w' -> S w' -> V i v w' -> K (F (upd x i v)) w') -> wpOp P ops Q i K (F x) w)
 (hend : ∀ x w', S w' -> (∀ i, i < ops.size -> V i (x i) w') -> Q .normal (F x) w') : (Code.region id ops true).wp P Q (F x0) w := by
 refine wp_region_any hm ?_
 have key : ∀ (fuel : Nat) (listed : Array Bool) (x : Nat -> Value) (w : World), listed.size = ops.size -> (ops.size <= fuel + (listed.toList.countP (fun b => b))) -> S w -> (∀ i, listed.getD i false = true -> V i (x i) w) ->
  (∀ i, listed.getD i false = false -> x i = x0 i) -> (∀ i j, listed.getD j false = true -> waitsB ops i j = true -> listed.getD i false = true) -> wpAny P .any ops Q fuel listed (F x) w := by
  intro fuel
  induction fuel with
  |zero =>
   intro listed x w hsz hf hS hx hu hw
   have hall : ∀ i, i < ops.size -> listed.getD i false = true := by
    have hc : listed.toList.countP (fun b => b) = listed.toList.length := by
     have h1 := List.countP_le_length (p := fun b => b) (l := listed.toList)
     have h2 : listed.toList.length = ops.size := by rw [Array.length_toList]; exact hsz
     omega
    rw [List.countP_eq_length] at hc
    intro i hi
    have hi' : i < listed.toList.length := by simp; omega
    have := hc _ (List.getElem_mem hi')
    rw [Array.getD_eq_getD_getElem?, Array.getElem?_eq_getElem (by omega)]
    simpa using this
   have hr : Region.ready .any ops listed = [] := by
    cases hr : Region.ready .any ops listed with
    |nil => rfl
    |cons i r =>
     exfalso
     have hi : i ∈ Region.ready .any ops listed := by rw [hr]; exact List.mem_cons_self
     rw [mem_ready] at hi
     obtain ⟨h1, o, ho, _⟩ := hi
     have hlt : i < ops.size := (Array.getElem?_eq_some_iff.1 ho).1
     have := hall i hlt
     rw [Array.getD_eq_getD_getElem?, Array.getElem?_eq_getElem (by omega)] at h1 this
     simp at h1 this
     rw [h1] at this; cases this
   exact ⟨hr, hend x w hS fun i hi => hx i (hall i hi)⟩
  |succ fuel ih =>
   intro listed x w hsz hf hS hx hu hw
   refine ⟨fun hr => hend x w hS fun i hi => hx i (ready_all hb hsz hr i hi), fun i hi => ?_⟩
   rw [mem_ready] at hi
   obtain ⟨h1, o, ho, hdep⟩ := hi
   have hlt : i < ops.size := (Array.getElem?_eq_some_iff.1 ho).1
   have hli : listed[i]'(by omega) = false := by
    rw [Array.getD_eq_getD_getElem?, Array.getElem?_eq_getElem (by omega)] at h1
    simpa using h1
   have hlf : listed.getD i false = false := by
    rw [Array.getD_eq_getD_getElem?, Array.getElem?_eq_getElem (by omega)]
    simpa using hli
   refine hop i o ho x w hS (fun e he hbd => hx _ (hdep e he hbd)) (fun j hj => hu j ?_) _ fun v w' hR hS' hv => ?_
   ·rcases Bool.eq_false_or_eq_true (listed.getD j false) with h | h
    ·have := hw i j h hj; rw [hlf] at this; cases this
    ·exact h
   refine ih _ _ _ (by rw [Array.size_setIfInBounds]; exact hsz) ?_ hS' (fun j hj => ?_) (fun j hj => ?_) (fun a b hb' hab => ?_)
   ·have : (listed.setIfInBounds i true).toList.countP (fun b => b) = listed.toList.countP (fun b => b) + 1 := by
     rw [Array.toList_setIfInBounds, List.countP_set (by simp; omega)]
     have h2 : listed.toList[i]'(by simp; omega) = false := by simpa using hli
     rw [h2]; simp
    omega
   ·by_cases hji : j = i
    ·subst hji; unfold upd; rw [if_pos rfl]; exact hv
    ·unfold upd
     rw [if_neg hji]
     rw [getD_set_ne false (fun e => hji e.symm)] at hj
     exact hV _ _ _ _ (hx j hj) hR
   ·have hji : j ≠ i := by
     intro e
     rw [e, Array.getD_eq_getD_getElem?, Array.getElem?_setIfInBounds_self_of_lt (by omega)] at hj
     simp at hj
    unfold upd
    rw [if_neg hji]
    rw [getD_set_ne false (fun e => hji e.symm)] at hj
    exact hu j hj
   ·by_cases hbi : b = i
    ·subst hbi
     have hab' := hab
     unfold waitsB at hab'
     rw [ho] at hab'
     simp only [Option.map_some, Option.getD_some, Array.any_eq_true', Bool.and_eq_true, beq_iff_eq] at hab'
     obtain ⟨e, he, hbd, hon⟩ := hab'
     have := hdep e he hbd
     rw [hon] at this
     exact getD_set_true this
    ·rw [getD_set_ne false (fun e => hbi e.symm)] at hb'
     exact getD_set_true (hw a b hb' hab)
 refine key ops.size (Array.replicate ops.size false) x0 _ (by simp) (by omega) hS0 (fun i hi => ?_) (fun i _ => rfl) (fun i j hj _ => ?_)
 ·exfalso
  rw [Array.getD_eq_getD_getElem?, Array.getElem?_replicate] at hi
  split at hi <;> simp at hi
 ·exfalso
  rw [Array.getD_eq_getD_getElem?, Array.getElem?_replicate] at hj
  split at hj <;> simp at hj
def Deps (V : Nat -> Value -> World -> Prop) (x : Nat -> Value) (w : World) : List Edge -> Prop
 |[] => True
 |e :: r => (Region.binds .any e = true -> V e.on (x e.on) w) /\ Deps V x w r
theorem Deps.of {V : Nat -> Value -> World -> Prop} {x : Nat -> Value} {w : World} : ∀ {l : List Edge}, (∀ e ∈ l, Region.binds .any e = true -> V e.on (x e.on) w) -> Deps V x w l
 |[], _ => trivial
 |e :: _, h => ⟨h e List.mem_cons_self, Deps.of fun e' he => h e' (List.mem_cons_of_mem _ he)⟩
def OpPart (P : Program) (ops : Array Oper) (Q : Exit -> Act -> World -> Prop) (F : (Nat -> Value) -> Act) (V : Nat -> Value -> World -> Prop) (S : World -> Prop) (R : World -> World -> Prop) (x0 : Nat -> Value) (i : Nat) (o : Oper) : Prop :=
 ∀ x w, S w -> Deps V x w o.after.toList -> (∀ j, waitsB ops i j = true -> x j = x0 j) -> ∀ K : Act -> World -> Prop, (∀ v w', R w w' -> S w' -> V i v w' -> K (F (upd x i v)) w') ->
   if Region.wanted o (yielded ops (F x).tmps) then o.wp P (F x) w K Q else K ((F x).put o.dst undef) w
def OpAll (P : Program) (ops : Array Oper) (Q : Exit -> Act -> World -> Prop) (F : (Nat -> Value) -> Act) (V : Nat -> Value -> World -> Prop) (S : World -> Prop) (R : World -> World -> Prop) (x0 : Nat -> Value) : Nat -> List Oper -> Prop
 |_, [] => True
 |i, o :: r => OpPart P ops Q F V S R x0 i o /\ OpAll P ops Q F V S R x0 (i + 1) r
theorem OpAll.get {P : Program} {ops : Array Oper} {Q : Exit -> Act -> World -> Prop} {F : (Nat -> Value) -> Act} {V : Nat -> Value -> World -> Prop} {S : World -> Prop} {R : World -> World -> Prop} {x0 : Nat -> Value} :
 ∀ {l : List Oper} {k : Nat}, OpAll P ops Q F V S R x0 k l -> ∀ i o, l[i]? = some o -> OpPart P ops Q F V S R x0 (k + i) o
 |[], _, _, i, o, h => by simp at h
 |p :: r, k, h, 0, o, ho => by simp at ho; subst ho; exact h.1
 |p :: r, k, h, i + 1, o, ho => by
  have := OpAll.get h.2 i o (by simpa using ho)
  rwa [show k + 1 + i = k + (i + 1) from by omega] at this
theorem Qg1 {P : Program} {id : Nat} {l : List Oper} {Q : Exit -> Act -> World -> Prop} {w : World} (hm : P.follows .mixedOrders = true) (hb : backB l.toArray = true)
 (F : (Nat -> Value) -> Act) (V : Nat -> Value -> World -> Prop) (S : World -> Prop) (R : World -> World -> Prop) (x0 : Nat -> Value)
 (hV : ∀ j v w w', V j v w -> R w w' -> V j v w') (hS0 : S w.drew)
 (hop : OpAll P l.toArray Q F V S R x0 0 l)
 (hend : ∀ x w', S w' -> (∀ i, i < l.length -> V i (x i) w') -> Q .normal (F x) w') : (Code.region id l.toArray true).wp P Q (F x0) w := by
 refine Qg0 hm hb F V S R x0 hV hS0 (fun i o ho x w hS hd hu K hK => ?_) (fun x w' hS' hv => hend x w' hS' fun i hi => hv i (by simpa using hi))
 have hp := OpAll.get hop i o (by simpa using ho)
 rw [Nat.zero_add] at hp
 have := hp x w hS (Deps.of fun e he hbd => hd e (Array.mem_toList_iff.1 he) hbd) hu K hK
 unfold wpOp
 rw [ho]
 simp only
 split
 ·rename_i hw; rw [if_pos hw] at this; exact .inl this
 ·rename_i hw; rw [if_neg hw] at this; exact this
theorem Qdm {P : Program} {id : Nat} {l : List Oper} {Q : Exit -> Act -> World -> Prop} {w : World} (hm : P.follows .mixedOrders = true) (hb : backB l.toArray = true)
 (F0 : (Nat -> Value) -> Act) (x0 : Nat -> Value) (V : Nat -> Value -> World -> Prop) (S : World -> Prop) (R : World -> World -> Prop)
 (hV : ∀ j v w w', V j v w -> R w w' -> V j v w') (hS0 : S w.drew)
 (hop : ∀ F, F = F0 -> OpAll P l.toArray Q F V S R x0 0 l)
 (hend : ∀ x w', S w' -> (∀ i, i < l.length -> V i (x i) w') -> Q .normal (F0 x) w') : (Code.region id l.toArray true).wp P Q (F0 x0) w :=
 Qg1 hm hb F0 V S R x0 hV hS0 (hop F0 rfl) hend
end Pm
end Go.Proofs.YtdjkdcokjoiokaaGreatDoor
namespace Go.Proofs.YtdjkdcokjoiokaaGreatDoor
open Go.RowKit
namespace Pm
theorem QiQ {w w' : World} {base : Nat} {e : TypeId} {size n : Nat} {v : Value} {xs : List Value} (hown : w.ownsRow base e size v n xs) (hb : base <= w.heap.size) (hg : w.grownBy w' v.ownBlock) : Below base w w' :=
 (Below.refl _ _).grown hg hb fun k hk => by
   obtain ⟨_, ⟨rfl, _⟩ | ⟨g, cap, cur, rfl, hbg, _⟩⟩ := hown
   ·simp [Value.ownBlock] at hk
   ·simp [Value.ownBlock] at hk; omega
theorem QfZ {P : Program} {w : World} {ops : Array Oper} {rest : List Oper} {o : Oper} {a : Act} {Q : Exit -> Act -> World -> Prop} (hgd : o.guard = none) (s x : Operand) (t : TypeId)
 (ho : o.op = .call { callee := .builtin .append, args := #[s, x], argTypes := #[t, t] })
 (base : Nat) (e : TypeId) (z : Value) (size bytes : Nat) (ht : P.underlying t = some (.slice e)) (hinfo : (P.info? e).map (fun i => (i.zero, i.size, i.bytes)) = some (some z, size, bytes)) (hzs : z.cells.size = size) (hsz : 0 < size)
 (v : Value) (n : Nat) (xs : List Value) (hs : a.eval s = v) (hown : w.ownsRow base e size v n xs)
 (b c : Nat) (news : List Value) (hx : a.eval x = .slice (some ⟨b, 0, none⟩) 1 c) (hl : news.length = size) (hnews : ∀ j u, news[j]? = some u -> w.cell? ⟨b, j, none⟩ = some u) (h1 : ∀ u ∈ news, u.oneCell' = true)
 (hbytes : (n + 1) * bytes <= 140737488355328) (hby : 0 < bytes) (hbase : base <= w.heap.size)
 (h : ∀ v' w', w'.ownsRow base e size v' (n + 1) (xs ++ news) -> Below base w w' -> base <= w'.heap.size -> wpList P ops Q rest (a.put o.dst v') w') : wpList P ops Q (o :: rest) a w := by
 obtain ⟨i, hi, hz, hs1, hs2⟩ := info_parts hinfo
 refine wpList_append_own w hgd s x t ho base e i z size bytes ht hi hz hs1 hs2 hzs hsz v n xs hs hown ⟨b, 0, none⟩ 1 c news hx (by omega) (fun j u hj => ?_) h1 ?_ hbytes hbase fun v' w' h2 h3 _ => ?_
 ·have := hnews j u hj
  by_cases h0 : j = 0
  ·subst h0; simpa [Addr.add] using this
  ·simpa [Addr.add, h0] using this
 ·unfold maxLen
  have : (n + 1) * 1 <= (n + 1) * bytes := Nat.mul_le_mul_left _ hby
  omega
 ·exact h v' w' h2 (QiQ hown hbase h3) (Nat.le_trans hbase h3.size)
theorem infoS : (Tryz.prog.info? 9).map (fun i => (i.zero, i.size, i.bytes)) = some (some (.string ⟨#[]⟩), 1, 16) := by kernel_rfl
theorem Qc5 {w : World} {ops : Array Oper} {rest : List Oper} {o : Oper} {a : Act} {Q : Exit -> Act -> World -> Prop} (hgd : o.guard = none) (s x : Operand)
 (ho : o.op = .call { callee := .builtin .append, args := #[s, x], argTypes := #[35, 35] })
 (base : Nat) (v : Value) (l : List Str) (hs : a.eval s = v) (hown : w.ownsRow base 9 1 v l.length (l.map vstr))
 (b c : Nat) (y : Str) (hx : a.eval x = .slice (some ⟨b, 0, none⟩) 1 c) (hc : w.cell? ⟨b, 0, none⟩ = some (.string ⟨y.toArray⟩)) (hbytes : l.length < 8000000000000) (hbase : base <= w.heap.size)
 (h : ∀ v' w', w'.ownsRow base 9 1 v' (l ++ [y]).length ((l ++ [y]).map vstr) -> Below base w w' -> base <= w'.heap.size -> wpList Tryz.prog ops Q rest (a.put o.dst v') w') : wpList Tryz.prog ops Q (o :: rest) a w := by
 refine QfZ hgd s x _ ho base _ _ 1 16 Tryz.underlying35 infoS rfl (by omega) v _ _ hs hown b c [vstr y] hx rfl (fun j u hj => ?_) (fun u hu => ?_) (by omega) (by omega) hbase fun v' w' h1 h2 h3 => h v' w' (by simpa using h1) h2 h3
 ·match j, hj with
  |0, hj =>
   simp only [List.getElem?_cons_zero, Option.some.injEq] at hj
   rw [<- hj]; exact hc
 ·simp only [List.mem_singleton] at hu
  subst hu; rfl
theorem infoI : (Tryz.prog.info? 3).map (fun i => (i.zero, i.size, i.bytes)) = some (some (.int .i64 0), 1, 8) := by kernel_rfl
def vnat (n : Nat) : Value := .int .i64 (n : Int)
theorem QfV {w : World} {ops : Array Oper} {rest : List Oper} {o : Oper} {a : Act} {Q : Exit -> Act -> World -> Prop} (hgd : o.guard = none) (s x : Operand)
 (ho : o.op = .call { callee := .builtin .append, args := #[s, x], argTypes := #[36, 36] })
 (base : Nat) (v : Value) (l : List Nat) (hs : a.eval s = v) (hown : w.ownsRow base 3 1 v l.length (l.map vnat))
 (b c : Nat) (y : Nat) (hx : a.eval x = .slice (some ⟨b, 0, none⟩) 1 c) (hc : w.cell? ⟨b, 0, none⟩ = some (.int .i64 (y : Int))) (hbytes : l.length < 8000000000000) (hbase : base <= w.heap.size)
 (h : ∀ v' w', w'.ownsRow base 3 1 v' (l ++ [y]).length ((l ++ [y]).map vnat) -> Below base w w' -> base <= w'.heap.size -> wpList Tryz.prog ops Q rest (a.put o.dst v') w') : wpList Tryz.prog ops Q (o :: rest) a w := by
 refine QfZ hgd s x _ ho base _ _ 1 8 Tryz.underlying36 infoI rfl (by omega) v _ _ hs hown b c [vnat y] hx rfl (fun j u hj => ?_) (fun u hu => ?_) (by omega) (by omega) hbase fun v' w' h1 h2 h3 => h v' w' (by simpa using h1) h2 h3
 ·match j, hj with
  |0, hj =>
   simp only [List.getElem?_cons_zero, Option.some.injEq] at hj
   rw [<- hj]; exact hc
 ·simp only [List.mem_singleton] at hu
  subst hu; rfl
theorem QlD {w : World} {base : Nat} (hb : base <= w.heap.size) : (w.alloc (.cells #[] 3)).ownsRow base 3 1 (.slice (some ⟨w.heap.size, 0, none⟩) 0 0) 0 [] := Qj4 hb
theorem Qge {w : World} {base : Nat} {e : TypeId} {v : Value} {l : List Value} (h : w.ownsRow base e 1 v l.length l) (hl : 0 < l.length) : ∃ g c, v = .slice (some ⟨g, 0, none⟩) l.length c /\ base <= g /\ g < w.heap.size /\ ∀ (i : Nat) (x : Value), l[i]? = some x -> w.cell? ⟨g, i, none⟩ = some x := by
 obtain ⟨_, ⟨_, hn⟩ | ⟨g, cap, _, rfl, _⟩⟩ := id h
 ·omega
 ·obtain ⟨cur, hr, hbg, _, _, ht⟩ := Row.of_owns h
  refine ⟨g, cap, rfl, hbg, hr.lt, fun i x hx => hr.get i ?_⟩
  have : (cur.toList.take (l.length * 1))[i]? = some x := by rw [ht]; exact hx
  rw [List.getElem?_take] at this
  split at this
  ·simpa using this
  ·cases this
theorem Qhl {w : World} {B : Nat} {A : Option Addr} {l : List Str} (h : At w B A l) (hl : 0 < l.length) : ∃ b off, A = some ⟨b, off, none⟩ /\ b < B /\ ∀ (j : Nat) (u : Value), (l.map vstr)[j]? = some u -> w.cell? ⟨b, off + j, none⟩ = some u := by
 obtain ⟨b, off, rfl, hb, hc⟩ := h hl
 refine ⟨b, off, rfl, hb, fun j u hj => ?_⟩
 rw [List.getElem?_map] at hj
 cases hx : l[j]? with
 |none => rw [hx] at hj; cases hj
 |some x =>
  rw [hx] at hj
  simp only [Option.map_some, Option.some.injEq] at hj
  subst hj
  obtain ⟨cs, h1, h2⟩ := hc j x hx
  obtain ⟨rfl, _⟩ := QcJ h1
  have := h2 0 _ rfl
  simpa [Rep.size, vstr] using this
theorem Qdb {w w' : World} {base : Nat} {e : TypeId} {size n : Nat} {v : Value} {xs : List Value} (h : w.ownsRow base e size v n xs) (hb : Below w.heap.size w w') : w'.ownsRow base e size v n xs := by
 obtain ⟨h1, ⟨hv, hn⟩ | ⟨g, cap, cur, hv, hg, hh, hr⟩⟩ := h
 ·exact ⟨h1, .inl ⟨hv, hn⟩⟩
 ·refine ⟨h1, .inr ⟨g, cap, cur, hv, hg, ?_, hr⟩⟩
  have hlt : g < w.heap.size := by
   rcases Nat.lt_or_ge g w.heap.size with hlt | hge
   ·exact hlt
   ·rw [Array.getElem?_eq_none hge] at hh; cases hh
  rw [hb.block g hlt]; exact hh
theorem QlE {w : World} {base base' : Nat} {e : TypeId} {size n : Nat} {v : Value} {xs : List Value} (h : w.ownsRow base e size v n xs) (hb : base' <= base) : w.ownsRow base' e size v n xs := by
 obtain ⟨h1, ⟨hv, hn⟩ | ⟨g, cap, cur, hv, hg, hh, hr⟩⟩ := h
 ·exact ⟨h1, .inl ⟨hv, hn⟩⟩
 ·exact ⟨h1, .inr ⟨g, cap, cur, hv, Nat.le_trans hb hg, hh, hr⟩⟩
theorem Qiy {w : World} {o : Oper} {a : Act} {K : Act -> World -> Prop} {Q : Exit -> Act -> World -> Prop} (s x : Operand)
 (ho : o.op = .call { callee := .builtin .append, args := #[s, x], argTypes := #[35, 35] })
 (A A2 : Option Addr) (l l2 : List Str) (c c2 : Nat) (hs : a.eval s = .slice A l.length c) (hat : At w w.heap.size A l) (hl : 0 < l.length)
 (hx : a.eval x = .slice A2 l2.length c2) (hat2 : At w w.heap.size A2 l2) (hl2 : 0 < l2.length) (hfull : c < l.length + l2.length) (hbytes : l.length + l2.length < 8000000000000)
 (h : ∀ v' w', w'.ownsRow w.heap.size 9 1 v' (l ++ l2).length ((l ++ l2).map vstr) -> Below w.heap.size w w' -> K (a.put o.dst v') w') : o.wp Tryz.prog a w K Q := by
 obtain ⟨b, off, rfl, _, hc⟩ := Qhl hat hl
 obtain ⟨b2, off2, rfl, _, hc2⟩ := Qhl hat2 hl2
 obtain ⟨i, hi, hz, hs1, hs2⟩ := info_parts infoS
 obtain ⟨v', w', hr, h2, h3⟩ := run_append_arg_grows (P := Tryz.prog) w 35 o.type 9 i (.string ⟨#[]⟩) 1 16 Tryz.underlying35 hi hz hs1 hs2 rfl (by omega) ⟨b, off, none⟩ l.length c (l.map vstr) (by simp)
  (fun j u hj => by rw [Addr.add_lit]; exact hc j u hj) ⟨b2, off2, none⟩ l2.length c2 (l2.map vstr) (by simp) (fun j u hj => by rw [Addr.add_lit]; exact hc2 j u hj) hfull (by simp only [maxLen]; omega) (by omega)
 unfold Oper.wp execOp
 simp only [ho, resolve, invoke, builtin, Sem.run_bind, Sem.run_pure, Result.andThen_ok, List.map_toArray, List.map_cons, List.map_nil, hs, hx, hr]
 exact h v' w' (by simpa using h2) ((Below.refl _ _).grown h3 (Nat.le_refl _) fun k hk => by cases hk)
end Pm
end Go.Proofs.YtdjkdcokjoiokaaGreatDoor

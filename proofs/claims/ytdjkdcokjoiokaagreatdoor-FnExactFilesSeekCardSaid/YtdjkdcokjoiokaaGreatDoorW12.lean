/- Part 12 of seek_card: contracts, walks, laws; no condition beyond the statement's. -/
import Derived.Test.YtdjkdcokjoiokaaGreatDoorW03
import Derived.Orders
import Derived.KernelRfl
import Derived.ArgAppend
import Derived.Shelf.SlicesQ.IndexFunc
import Derived.Shelf.Strings.Builder1
import Derived.Shelf.Strings.Builder2
import Derived.Shelf.Strings.OnBuilder
import Derived.Shelf.Small.Bits
import Derived.Shelf.Small.Strs
import Derived.Shelf.Strings.BuilderF
import Derived.Shelf.Strconv.Atoi
import Derived.Shelf.Strconv.Itoa0
import Derived.Shelf.Strconv.Itoa1
import Derived.Shelf.LaysM
import Derived.Shelf.Strconv.Itoa2
import Derived.Shelf.Strconv.Itoa3
import Derived.Shelf.Strconv.AtoiErrFast
import Derived.Shelf.Strconv.ParseIntEmpty
import Derived.Shelf.Strconv.AtoiFail
import Derived.Shelf.Strconv.Clone
import Derived.Shelf.Strconv.SyntaxError
import Derived.Shelf.LaysC
import Derived.Shelf.Strconv.ToError
import Derived.Shelf.Strconv.Lower
import Derived.Shelf.Strconv.ParseUint10
import Derived.Shelf.Strconv.ParseUint10Empty
import Derived.Shelf.Strconv.ParseUint10Any
import Derived.Shelf.Strconv.ParseInt10
import Derived.Shelf.Strconv.AtoiLong
import Derived.Shelf.Strconv.AtoiInnerAll
import Derived.Shelf.Strconv.RangeError
import Derived.Shelf.Strconv.ToErrorRange
import Derived.Shelf.Strconv.AtoiAll
import Derived.Shelf.Strings.Search1
import Derived.Shelf.Strings.Search2
import Derived.Shelf.Strings.Search3
import Derived.Shelf.Strings.Cut
import Derived.Shelf.Strings.Count
import Derived.Shelf.Strings.Shaped
import Derived.Shelf.GgClosure.StringsIndexFunc
import Derived.Ground.GgwProg
import Derived.Shelf.GgClosure.StringsIndexFuncTop
import Derived.Shelf.GgClosure.StringsRunes
import Derived.Shelf.Strings.Prefix
import Derived.Shelf.Strings.Split
import Derived.Shelf.Bits.Mul64
import Derived.Shelf.Strings.Repeat
import Derived.Shelf.Unicode.DecodeSlow
import Derived.Shelf.Unicode.DecodeAny
import Derived.Ground.SlgnProg
import Derived.Shelf.SlicesE.Clone
set_option linter.all false
namespace Go.Proofs.YtdjkdcokjoiokaaGreatDoor
section
namespace Pm
def upd (x : Nat -> Value) (i : Nat) (v : Value) : Nat -> Value := fun j => if j = i then v else x j
def backB (ops : Array Oper) : Bool := (List.range ops.size).all fun i => ((ops[i]?).map (·.after.all fun e => decide (e.on < i))).getD true
theorem ready_all {ops : Array Oper} {listed : Array Bool} (hb : backB ops = true) (hsz : listed.size = ops.size) (hr : Region.ready .any ops listed = []) : ∀ i, i < ops.size -> listed.getD i false = true := by
 intro i;induction i using Nat.strongRecOn with
 |_ i ih =>
  intro hi;rcases Bool.eq_false_or_eq_true (listed.getD i false) with h | h
  ·exact h
  exfalso
  have hm : i ∈ Region.ready .any ops listed := by
   rw [mem_ready];obtain ⟨o, ho⟩ : ∃ o, ops[i]? = some o := ⟨_, Array.getElem?_eq_getElem hi⟩
   have hl : listed.getD i true = false := by
    rw [Array.getD_eq_getD_getElem?, Array.getElem?_eq_getElem (by omega)] at h ⊢;simpa using h
   refine ⟨hl, o, ho, fun e he _ => ?_⟩;have hb' := List.all_eq_true.1 hb i (List.mem_range.2 hi);rw [ho] at hb';simp only [Option.map_some, Option.getD_some, Array.all_eq_true_iff_forall_mem] at hb';have hlt : e.on < i := by simpa using hb' e he
   exact ih _ hlt (by omega)
  rw [hr] at hm;cases hm
def waitsB (ops : Array Oper) (i j : Nat) : Bool := ((ops[j]?).map (·.after.any fun e => Region.binds .any e && e.on == i)).getD false
theorem Qgf {P : Program} {id : Nat} {ops : Array Oper} {Q : Exit -> Act -> World -> Prop} {w : World} (hm : P.follows .mixedOrders = true) (hb : backB ops = true)
 (F : (Nat -> Value) -> Act) (V : Nat -> Value -> World -> Prop) (S : World -> Prop) (R : World -> World -> Prop) (x0 : Nat -> Value)
 (hV : ∀ j v w w', V j v w -> R w w' -> V j v w') (hS0 : S { w with drawn := w.drawn + 1 })
 (hop : ∀ i o, ops[i]? = some o -> ∀ x w, S w -> (∀ e ∈ o.after, Region.binds .any e = true -> V e.on (x e.on) w) -> (∀ j, waitsB ops i j = true -> x j = x0 j) -> ∀ K, (∀ v w', R w w' -> S w' -> V i v w' -> K (F (upd x i v)) w') -> wpOp P ops Q i K (F x) w)
 (hend : ∀ x w', S w' -> (∀ i, i < ops.size -> V i (x i) w') -> Q .normal (F x) w') : (Code.region id ops true).wp P Q (F x0) w := by
 refine wp_region_any hm ?_
 have key : ∀ (fuel : Nat) (listed : Array Bool) (x : Nat -> Value) (w : World), listed.size = ops.size -> (ops.size <= fuel + (listed.toList.countP (fun b => b))) -> S w -> (∀ i, listed.getD i false = true -> V i (x i) w) ->
  (∀ i, listed.getD i false = false -> x i = x0 i) -> (∀ i j, listed.getD j false = true -> waitsB ops i j = true -> listed.getD i false = true) -> wpAny P .any ops Q fuel listed (F x) w := by
  intro fuel;induction fuel with
  |zero =>
   intro listed x w hsz hf hS hx hu hw
   have hall : ∀ i, i < ops.size -> listed.getD i false = true := by
    have hc : listed.toList.countP (fun b => b) = listed.toList.length := by
     have h1 := List.countP_le_length (p := fun b => b) (l := listed.toList);have h2 : listed.toList.length = ops.size := by rw [Array.length_toList]; exact hsz
     omega
    rw [List.countP_eq_length] at hc;intro i hi;have hi' : i < listed.toList.length := by simp; omega
    have := hc _ (List.getElem_mem hi');rw [Array.getD_eq_getD_getElem?, Array.getElem?_eq_getElem (by omega)];simpa using this
   have hr : Region.ready .any ops listed = [] := by
    cases hr : Region.ready .any ops listed with
    |nil => rfl
    |cons i r =>
     exfalso;have hi : i ∈ Region.ready .any ops listed := by rw [hr]; exact List.mem_cons_self
     rw [mem_ready] at hi;obtain ⟨h1, o, ho, _⟩ := hi;have hlt : i < ops.size := (Array.getElem?_eq_some_iff.1 ho).1;have := hall i hlt;rw [Array.getD_eq_getD_getElem?, Array.getElem?_eq_getElem (by omega)] at h1 this;simp at h1 this;rw [h1] at this; cases this
   exact ⟨hr, hend x w hS fun i hi => hx i (hall i hi)⟩
  |succ fuel ih =>
   intro listed x w hsz hf hS hx hu hw;refine ⟨fun hr => hend x w hS fun i hi => hx i (ready_all hb hsz hr i hi), fun i hi => ?_⟩;rw [mem_ready] at hi;obtain ⟨h1, o, ho, hdep⟩ := hi;have hlt : i < ops.size := (Array.getElem?_eq_some_iff.1 ho).1
   have hli : listed[i]'(by omega) = false := by
    rw [Array.getD_eq_getD_getElem?, Array.getElem?_eq_getElem (by omega)] at h1;simpa using h1
   have hlf : listed.getD i false = false := by
    rw [Array.getD_eq_getD_getElem?, Array.getElem?_eq_getElem (by omega)];simpa using hli
   refine hop i o ho x w hS (fun e he hbd => hx _ (hdep e he hbd)) (fun j hj => hu j ?_) _ fun v w' hR hS' hv => ?_
   ·rcases Bool.eq_false_or_eq_true (listed.getD j false) with h | h
    ·have := hw i j h hj; rw [hlf] at this; cases this
    ·exact h
   refine ih _ _ _ (by rw [Array.size_setIfInBounds]; exact hsz) ?_ hS' (fun j hj => ?_) (fun j hj => ?_) (fun a b hb' hab => ?_)
   ·have : (listed.setIfInBounds i true).toList.countP (fun b => b) = listed.toList.countP (fun b => b) + 1 := by
     rw [Array.toList_setIfInBounds, List.countP_set (by simp; omega)];have h2 : listed.toList[i]'(by simp; omega) = false := by simpa using hli
     rw [h2]; simp
    omega
   ·by_cases hji : j = i
    ·subst hji; unfold upd; rw [if_pos rfl]; exact hv
    ·unfold upd
     rw [if_neg hji];rw [getD_set_ne false (fun e => hji e.symm)] at hj;exact hV _ _ _ _ (hx j hj) hR
   ·have hji : j ≠ i := by
     intro e;rw [e, Array.getD_eq_getD_getElem?, Array.getElem?_setIfInBounds_self_of_lt (by omega)] at hj;simp at hj
    unfold upd;rw [if_neg hji];rw [getD_set_ne false (fun e => hji e.symm)] at hj;exact hu j hj
   ·by_cases hbi : b = i
    ·subst hbi
     have hab' := hab;unfold waitsB at hab';rw [ho] at hab';simp only [Option.map_some, Option.getD_some, Array.any_eq_true', Bool.and_eq_true, beq_iff_eq] at hab';obtain ⟨e, he, hbd, hon⟩ := hab';have := hdep e he hbd;rw [hon] at this;exact getD_set_true this
    ·rw [getD_set_ne false (fun e => hbi e.symm)] at hb'
     exact getD_set_true (hw a b hb' hab)
 refine key ops.size (Array.replicate ops.size false) x0 _ (by simp) (by omega) hS0 (fun i hi => ?_) (fun i _ => rfl) (fun i j hj _ => ?_)
 ·exfalso
  rw [Array.getD_eq_getD_getElem?, Array.getElem?_replicate] at hi;split at hi <;> simp at hi
 ·exfalso
  rw [Array.getD_eq_getD_getElem?, Array.getElem?_replicate] at hj;split at hj <;> simp at hj
def Deps (V : Nat -> Value -> World -> Prop) (x : Nat -> Value) (w : World) : List Edge -> Prop
 |[] => True
 |e :: r => (Region.binds .any e = true -> V e.on (x e.on) w) /\ Deps V x w r
theorem Deps.of {V : Nat -> Value -> World -> Prop} {x : Nat -> Value} {w : World} : ∀ {l : List Edge}, (∀ e ∈ l, Region.binds .any e = true -> V e.on (x e.on) w) -> Deps V x w l
 |[], _ => trivial
 |e :: _, h => ⟨h e List.mem_cons_self, Deps.of fun e' he => h e' (List.mem_cons_of_mem _ he)⟩
def OpPart (P : Program) (ops : Array Oper) (Q : Exit -> Act -> World -> Prop) (F : (Nat -> Value) -> Act) (V : Nat -> Value -> World -> Prop) (S : World -> Prop) (R : World -> World -> Prop) (x0 : Nat -> Value) (i : Nat) (o : Oper) : Prop :=
 ∀ x w, S w -> Deps V x w o.after.toList -> (∀ j, waitsB ops i j = true -> x j = x0 j) -> ∀ K : Act -> World -> Prop, (∀ v w', R w w' -> S w' -> V i v w' -> K (F (upd x i v)) w') ->
   if Region.wanted o (yielded ops (F x).tmps) then o.wp P (F x) w K Q else K ((F x).put o.dst undef) w
def OpAll (P : Program) (ops : Array Oper) (Q : Exit -> Act -> World -> Prop) (F : (Nat -> Value) -> Act) (V : Nat -> Value -> World -> Prop) (S : World -> Prop) (R : World -> World -> Prop) (x0 : Nat -> Value) : Nat -> List Oper -> Prop
 |_, [] => True
 |i, o :: r => OpPart P ops Q F V S R x0 i o /\ OpAll P ops Q F V S R x0 (i + 1) r
theorem OpAll.get {P : Program} {ops : Array Oper} {Q : Exit -> Act -> World -> Prop} {F : (Nat -> Value) -> Act} {V : Nat -> Value -> World -> Prop} {S : World -> Prop} {R : World -> World -> Prop} {x0 : Nat -> Value} :
 ∀ {l : List Oper} {k : Nat}, OpAll P ops Q F V S R x0 k l -> ∀ i o, l[i]? = some o -> OpPart P ops Q F V S R x0 (k + i) o
 |[], _, _, i, o, h => by simp at h
 |p :: r, k, h, 0, o, ho => by simp at ho; subst ho; exact h.1
 |p :: r, k, h, i + 1, o, ho => by
  have := OpAll.get h.2 i o (by simpa using ho)
  rwa [show k + 1 + i = k + (i + 1) from by omega] at this
theorem Qgg {P : Program} {id : Nat} {l : List Oper} {Q : Exit -> Act -> World -> Prop} {w : World} (hm : P.follows .mixedOrders = true) (hb : backB l.toArray = true)
 (F : (Nat -> Value) -> Act) (V : Nat -> Value -> World -> Prop) (S : World -> Prop) (R : World -> World -> Prop) (x0 : Nat -> Value)
 (hV : ∀ j v w w', V j v w -> R w w' -> V j v w') (hS0 : S w.drew)
 (hop : OpAll P l.toArray Q F V S R x0 0 l)
 (hend : ∀ x w', S w' -> (∀ i, i < l.length -> V i (x i) w') -> Q .normal (F x) w') : (Code.region id l.toArray true).wp P Q (F x0) w := by
 refine Qgf hm hb F V S R x0 hV hS0 (fun i o ho x w hS hd hu K hK => ?_) (fun x w' hS' hv => hend x w' hS' fun i hi => hv i (by simpa using hi));have hp := OpAll.get hop i o (by simpa using ho);rw [Nat.zero_add] at hp;have := hp x w hS (Deps.of fun e he hbd => hd e (Array.mem_toList_iff.1 he) hbd) hu K hK;unfold wpOp;rw [ho];simp only;split
 ·rename_i hw; rw [if_pos hw] at this; exact .inl this
 ·rename_i hw; rw [if_neg hw] at this; exact this
theorem Qdf {P : Program} {id : Nat} {l : List Oper} {Q : Exit -> Act -> World -> Prop} {w : World} (hm : P.follows .mixedOrders = true) (hb : backB l.toArray = true)
 (F0 : (Nat -> Value) -> Act) (x0 : Nat -> Value) (V : Nat -> Value -> World -> Prop) (S : World -> Prop) (R : World -> World -> Prop)
 (hV : ∀ j v w w', V j v w -> R w w' -> V j v w') (hS0 : S w.drew)
 (hop : ∀ F, F = F0 -> OpAll P l.toArray Q F V S R x0 0 l)
 (hend : ∀ x w', S w' -> (∀ i, i < l.length -> V i (x i) w') -> Q .normal (F0 x) w') : (Code.region id l.toArray true).wp P Q (F0 x0) w :=
 Qgg hm hb F0 V S R x0 hV hS0 (hop F0 rfl) hend
end Pm
end
section
open Go.RowKit
namespace Pm
theorem Qiw {w w' : World} {base : Nat} {e : TypeId} {size n : Nat} {v : Value} {xs : List Value} (hown : w.ownsRow base e size v n xs) (hb : base <= w.heap.size) (hg : w.grownBy w' v.ownBlock) : Below base w w' :=
 (Below.refl _ _).grown hg hb fun k hk => by
   obtain ⟨_, ⟨rfl, _⟩ | ⟨g, cap, cur, rfl, hbg, _⟩⟩ := hown
   ·simp [Value.ownBlock] at hk
   ·simp [Value.ownBlock] at hk; omega
theorem QfD {P : Program} {w : World} {ops : Array Oper} {rest : List Oper} {o : Oper} {a : Act} {Q : Exit -> Act -> World -> Prop} (hgd : o.guard = none) (s x : Operand) (t : TypeId)
 (ho : o.op = .call { callee := .builtin .append, args := #[s, x], argTypes := #[t, t] })
 (base : Nat) (e : TypeId) (z : Value) (size bytes : Nat) (ht : P.underlying t = some (.slice e)) (hinfo : (P.info? e).map (fun i => (i.zero, i.size, i.bytes)) = some (some z, size, bytes)) (hzs : z.cells.size = size) (hsz : 0 < size)
 (v : Value) (n : Nat) (xs : List Value) (hs : a.eval s = v) (hown : w.ownsRow base e size v n xs)
 (b c : Nat) (news : List Value) (hx : a.eval x = .slice (some ⟨b, 0, none⟩) 1 c) (hl : news.length = size) (hnews : ∀ j u, news[j]? = some u -> w.cell? ⟨b, j, none⟩ = some u) (h1 : ∀ u ∈ news, u.oneCell' = true)
 (hbytes : (n + 1) * bytes <= 140737488355328) (hby : 0 < bytes) (hbase : base <= w.heap.size)
 (h : ∀ v' w', w'.ownsRow base e size v' (n + 1) (xs ++ news) -> Below base w w' -> base <= w'.heap.size -> wpList P ops Q rest (a.put o.dst v') w') : wpList P ops Q (o :: rest) a w := by
 obtain ⟨i, hi, hz, hs1, hs2⟩ := info_parts hinfo;refine wpList_append_own w hgd s x t ho base e i z size bytes ht hi hz hs1 hs2 hzs hsz v n xs hs hown ⟨b, 0, none⟩ 1 c news hx (by omega) (fun j u hj => ?_) h1 ?_ hbytes hbase fun v' w' h2 h3 _ => ?_
 ·have := hnews j u hj
  by_cases h0 : j = 0
  ·subst h0; simpa [Addr.add] using this
  ·simpa [Addr.add, h0] using this
 ·unfold maxLen
  have : (n + 1) * 1 <= (n + 1) * bytes := Nat.mul_le_mul_left _ hby;omega
 ·exact h v' w' h2 (Qiw hown hbase h3) (Nat.le_trans hbase h3.size)
theorem infoS : (Tryz.prog.info? 9).map (fun i => (i.zero, i.size, i.bytes)) = some (some (.string ⟨#[]⟩), 1, 16) := by kernel_rfl
theorem Qct {w : World} {ops : Array Oper} {rest : List Oper} {o : Oper} {a : Act} {Q : Exit -> Act -> World -> Prop} (hgd : o.guard = none) (s x : Operand)
 (ho : o.op = .call { callee := .builtin .append, args := #[s, x], argTypes := #[35, 35] })
 (base : Nat) (v : Value) (l : List Str) (hs : a.eval s = v) (hown : w.ownsRow base 9 1 v l.length (l.map vstr))
 (b c : Nat) (y : Str) (hx : a.eval x = .slice (some ⟨b, 0, none⟩) 1 c) (hc : w.cell? ⟨b, 0, none⟩ = some (.string ⟨y.toArray⟩)) (hbytes : l.length < 8000000000000) (hbase : base <= w.heap.size)
 (h : ∀ v' w', w'.ownsRow base 9 1 v' (l ++ [y]).length ((l ++ [y]).map vstr) -> Below base w w' -> base <= w'.heap.size -> wpList Tryz.prog ops Q rest (a.put o.dst v') w') : wpList Tryz.prog ops Q (o :: rest) a w := by
 refine QfD hgd s x _ ho base _ _ 1 16 Tryz.underlying35 infoS rfl (by omega) v _ _ hs hown b c [vstr y] hx rfl (fun j u hj => ?_) (fun u hu => ?_) (by omega) (by omega) hbase fun v' w' h1 h2 h3 => h v' w' (by simpa using h1) h2 h3
 ·match j, hj with
  |0, hj =>
   simp only [List.getElem?_cons_zero, Option.some.injEq] at hj;rw [<- hj]; exact hc
 ·simp only [List.mem_singleton] at hu
  subst hu; rfl
theorem infoI : (Tryz.prog.info? 3).map (fun i => (i.zero, i.size, i.bytes)) = some (some (.int .i64 0), 1, 8) := by kernel_rfl
def vnat (n : Nat) : Value := .int .i64 (n : Int)
theorem Qf9 {w : World} {ops : Array Oper} {rest : List Oper} {o : Oper} {a : Act} {Q : Exit -> Act -> World -> Prop} (hgd : o.guard = none) (s x : Operand)
 (ho : o.op = .call { callee := .builtin .append, args := #[s, x], argTypes := #[36, 36] })
 (base : Nat) (v : Value) (l : List Nat) (hs : a.eval s = v) (hown : w.ownsRow base 3 1 v l.length (l.map vnat))
 (b c : Nat) (y : Nat) (hx : a.eval x = .slice (some ⟨b, 0, none⟩) 1 c) (hc : w.cell? ⟨b, 0, none⟩ = some (.int .i64 (y : Int))) (hbytes : l.length < 8000000000000) (hbase : base <= w.heap.size)
 (h : ∀ v' w', w'.ownsRow base 3 1 v' (l ++ [y]).length ((l ++ [y]).map vnat) -> Below base w w' -> base <= w'.heap.size -> wpList Tryz.prog ops Q rest (a.put o.dst v') w') : wpList Tryz.prog ops Q (o :: rest) a w := by
 refine QfD hgd s x _ ho base _ _ 1 8 Tryz.underlying36 infoI rfl (by omega) v _ _ hs hown b c [vnat y] hx rfl (fun j u hj => ?_) (fun u hu => ?_) (by omega) (by omega) hbase fun v' w' h1 h2 h3 => h v' w' (by simpa using h1) h2 h3
 ·match j, hj with
  |0, hj =>
   simp only [List.getElem?_cons_zero, Option.some.injEq] at hj;rw [<- hj]; exact hc
 ·simp only [List.mem_singleton] at hu
  subst hu; rfl
theorem Qla {w : World} {base : Nat} (hb : base <= w.heap.size) : (w.alloc (.cells #[] 3)).ownsRow base 3 1 (.slice (some ⟨w.heap.size, 0, none⟩) 0 0) 0 [] := QiW hb
theorem QfL {w : World} {base : Nat} {e : TypeId} {v : Value} {l : List Value} (h : w.ownsRow base e 1 v l.length l) (hl : 0 < l.length) : ∃ g c, v = .slice (some ⟨g, 0, none⟩) l.length c /\ base <= g /\ g < w.heap.size /\ ∀ (i : Nat) (x : Value), l[i]? = some x -> w.cell? ⟨g, i, none⟩ = some x := by
 obtain ⟨_, ⟨_, hn⟩ | ⟨g, cap, _, rfl, _⟩⟩ := id h
 ·omega
 ·obtain ⟨cur, hr, hbg, _, _, ht⟩ := Row.of_owns h
  refine ⟨g, cap, rfl, hbg, hr.lt, fun i x hx => hr.get i ?_⟩;have : (cur.toList.take (l.length * 1))[i]? = some x := by rw [ht]; exact hx
  rw [List.getElem?_take] at this;split at this
  ·simpa using this
  ·cases this
theorem QgK {w : World} {B : Nat} {A : Option Addr} {l : List Str} (h : At w B A l) (hl : 0 < l.length) : ∃ b off, A = some ⟨b, off, none⟩ /\ b < B /\ ∀ (j : Nat) (u : Value), (l.map vstr)[j]? = some u -> w.cell? ⟨b, off + j, none⟩ = some u := by
 obtain ⟨b, off, rfl, hb, hc⟩ := h hl;refine ⟨b, off, rfl, hb, fun j u hj => ?_⟩;rw [List.getElem?_map] at hj;cases hx : l[j]? with
 |none => rw [hx] at hj; cases hj
 |some x =>
  rw [hx] at hj;simp only [Option.map_some, Option.some.injEq] at hj;subst hj;obtain ⟨cs, h1, h2⟩ := hc j x hx;obtain ⟨rfl, _⟩ := QcA h1;have := h2 0 _ rfl;simpa [Rep.size, vstr] using this
theorem QcT {w w' : World} {base : Nat} {e : TypeId} {size n : Nat} {v : Value} {xs : List Value} (h : w.ownsRow base e size v n xs) (hb : Below w.heap.size w w') : w'.ownsRow base e size v n xs := by
 obtain ⟨h1, ⟨hv, hn⟩ | ⟨g, cap, cur, hv, hg, hh, hr⟩⟩ := h
 ·exact ⟨h1, .inl ⟨hv, hn⟩⟩
 ·refine ⟨h1, .inr ⟨g, cap, cur, hv, hg, ?_, hr⟩⟩
  have hlt : g < w.heap.size := by
   rcases Nat.lt_or_ge g w.heap.size with hlt | hge
   ·exact hlt
   ·rw [Array.getElem?_eq_none hge] at hh; cases hh
  rw [hb.block g hlt]; exact hh
theorem Qlb {w : World} {base base' : Nat} {e : TypeId} {size n : Nat} {v : Value} {xs : List Value} (h : w.ownsRow base e size v n xs) (hb : base' <= base) : w.ownsRow base' e size v n xs := by
 obtain ⟨h1, ⟨hv, hn⟩ | ⟨g, cap, cur, hv, hg, hh, hr⟩⟩ := h
 ·exact ⟨h1, .inl ⟨hv, hn⟩⟩
 ·exact ⟨h1, .inr ⟨g, cap, cur, hv, Nat.le_trans hb hg, hh, hr⟩⟩
theorem QhP {w : World} {o : Oper} {a : Act} {K : Act -> World -> Prop} {Q : Exit -> Act -> World -> Prop} (s x : Operand)
 (ho : o.op = .call { callee := .builtin .append, args := #[s, x], argTypes := #[35, 35] })
 (A A2 : Option Addr) (l l2 : List Str) (c c2 : Nat) (hs : a.eval s = .slice A l.length c) (hat : At w w.heap.size A l) (hl : 0 < l.length)
 (hx : a.eval x = .slice A2 l2.length c2) (hat2 : At w w.heap.size A2 l2) (hl2 : 0 < l2.length) (hfull : c < l.length + l2.length) (hbytes : l.length + l2.length < 8000000000000)
 (h : ∀ v' w', w'.ownsRow w.heap.size 9 1 v' (l ++ l2).length ((l ++ l2).map vstr) -> Below w.heap.size w w' -> K (a.put o.dst v') w') : o.wp Tryz.prog a w K Q := by
 obtain ⟨b, off, rfl, _, hc⟩ := QgK hat hl;obtain ⟨b2, off2, rfl, _, hc2⟩ := QgK hat2 hl2;obtain ⟨i, hi, hz, hs1, hs2⟩ := info_parts infoS
 obtain ⟨v', w', hr, h2, h3⟩ := run_append_arg_grows (P := Tryz.prog) w 35 o.type 9 i (.string ⟨#[]⟩) 1 16 Tryz.underlying35 hi hz hs1 hs2 rfl (by omega) ⟨b, off, none⟩ l.length c (l.map vstr) (by simp)
  (fun j u hj => by rw [Addr.add_lit]; exact hc j u hj) ⟨b2, off2, none⟩ l2.length c2 (l2.map vstr) (by simp) (fun j u hj => by rw [Addr.add_lit]; exact hc2 j u hj) hfull (by simp only [maxLen]; omega) (by omega)
 unfold Oper.wp execOp;simp only [ho, resolve, invoke, builtin, Sem.run_bind, Sem.run_pure, Result.andThen_ok, List.map_toArray, List.map_cons, List.map_nil, hs, hx, hr];exact h v' w' (by simpa using h2) ((Below.refl _ _).grown h3 (Nat.le_refl _) fun k hk => by cases hk)
end Pm
end
end Go.Proofs.YtdjkdcokjoiokaaGreatDoor
namespace Go.Proofs
open Go.Shelf
def Tryz.lays170_ren : Go.Shelf.Ren := ⟨fun | 170 => 303 | n => n, fun | 70 => 336 | 3 => 3 | 0 => 0 | 72 => 338 | 37 => 197 | 5 => 5 | n => n, fun | n => n⟩
theorem Tryz.lays170 : Go.Proofs.Lays.n170 Tryz.prog Tryz.lays170_ren := {
 mixed := by kernel_rfl
 f170 := Tryz.func303.trans (congrArg some (by kernel_rfl))
 t0 := Tryz.underlying0
 a0 := Tryz.isAgg0
 z0 := Tryz.sizeOf0
 v0 := Tryz.zeroValue0
 t3 := Tryz.underlying3
 a3 := Tryz.isAgg3
 z3 := Tryz.sizeOf3
 v3 := Tryz.zeroValue3
 t37 := Tryz.underlying197
 a37 := Tryz.isAgg197
 z37 := Tryz.sizeOf197
 v37 := Tryz.zeroValue197
 t70 := Tryz.underlying336
 a70 := Tryz.isAgg336
 z70 := Tryz.sizeOf336
 v70 := Tryz.zeroValue336
 t72 := Tryz.underlying338
 a72 := Tryz.isAgg338
 z72 := Tryz.sizeOf338
 v72 := Tryz.zeroValue338 }
open Go.RowKit in
theorem Tryz.Builder_Len (B b : Nat) (bs : List Value) (w : World) (h : Lib.IsBuilder 338 5 B b bs w) :
 Calls Tryz.prog 303 #[.pointer (some ⟨b, 0, none⟩)] w fun e w' => e = .returned (.int .i64 bs.length) /\ w' = w := Any.Builder_Len Tryz.lays170 B b bs w h
def Tryz.lays169_ren : Go.Shelf.Ren := ⟨fun | 169 => 304 | n => n, fun | 70 => 336 | 9 => 9 | 0 => 0 | 72 => 338 | 37 => 197 | 127 => 326 | 3 => 3 | 5 => 5 | n => n, fun | n => n⟩
theorem Tryz.lays169 : Go.Proofs.Lays.n169 Tryz.prog Tryz.lays169_ren := {
 mixed := by kernel_rfl
 f169 := Tryz.func304.trans (congrArg some (by kernel_rfl))
 t0 := Tryz.underlying0
 a0 := Tryz.isAgg0
 z0 := Tryz.sizeOf0
 v0 := Tryz.zeroValue0
 t3 := Tryz.underlying3
 a3 := Tryz.isAgg3
 z3 := Tryz.sizeOf3
 v3 := Tryz.zeroValue3
 t9 := Tryz.underlying9
 a9 := Tryz.isAgg9
 z9 := Tryz.sizeOf9
 v9 := Tryz.zeroValue9
 t37 := Tryz.underlying197
 a37 := Tryz.isAgg197
 z37 := Tryz.sizeOf197
 v37 := Tryz.zeroValue197
 t70 := Tryz.underlying336
 a70 := Tryz.isAgg336
 z70 := Tryz.sizeOf336
 v70 := Tryz.zeroValue336
 t72 := Tryz.underlying338
 a72 := Tryz.isAgg338
 z72 := Tryz.sizeOf338
 v72 := Tryz.zeroValue338
 t127 := Tryz.underlying326
 a127 := Tryz.isAgg326
 z127 := Tryz.sizeOf326
 v127 := Tryz.zeroValue326 }
theorem Tryz.Builder_Extra_169 : Builder.Extra Tryz.prog Tryz.lays169_ren := {
 sizeBuilder := by kernel_rfl
 liesBuilder := by kernel_rfl
 t5 := Tryz.underlying5
 a5 := Tryz.isAgg5
 z5 := Tryz.sizeOf5
 v5 := Tryz.zeroValue5
 infoByte := by kernel_rfl
 cellsByte := by kernel_rfl
 sizeByte := by kernel_rfl
 neB5 := by decide }
open Go.RowKit in
theorem Tryz.Builder_String_any (B b : Nat) (l : List UInt8) (w : World) (h : Lib.IsBuilder 338 5 B b (Lib.byteCells l) w) (hBw : B <= w.heap.size) :
 Calls Tryz.prog 304 #[.pointer (some ⟨b, 0, none⟩)] w fun e w' => e = .returned (.string ⟨l.toArray⟩) /\ Below B w w' := Any.Builder_String_any Tryz.lays169 Tryz.Builder_Extra_169 B b l w h hBw
def Tryz.lays156_ren : Go.Shelf.Ren := ⟨fun | 156 => 300 | 165 => 335 | 166 => 301 | 169 => 304 | 240 => 336 | 241 => 360 | 276 => 361 | 277 => 390 | n => n, fun | 31 => 35 | 9 => 9 | 3 => 3 | 4 => 4 | 0 => 0 | 20 => 20 | 72 => 338 | 76 => 233 | 70 => 336 | 37 => 197 | 75 => 232 | 127 => 326 | 164 => 387 | 5 => 5 | 80 => 341 | n => n, fun | n => n⟩
theorem Tryz.lays156 : Go.Proofs.Lays.n156 Tryz.prog Tryz.lays156_ren := {
 mixed := by kernel_rfl
 f156 := Tryz.func300.trans (congrArg some (by kernel_rfl))
 f165 := Tryz.func335.trans (congrArg some (by kernel_rfl))
 f166 := Tryz.func301.trans (congrArg some (by kernel_rfl))
 f169 := Tryz.func304.trans (congrArg some (by kernel_rfl))
 f240 := Tryz.func336.trans (congrArg some (by kernel_rfl))
 f241 := Tryz.func360.trans (congrArg some (by kernel_rfl))
 f276 := Tryz.func361.trans (congrArg some (by kernel_rfl))
 f277 := Tryz.func390.trans (congrArg some (by kernel_rfl))
 t0 := Tryz.underlying0
 a0 := Tryz.isAgg0
 z0 := Tryz.sizeOf0
 v0 := Tryz.zeroValue0
 t3 := Tryz.underlying3
 a3 := Tryz.isAgg3
 z3 := Tryz.sizeOf3
 v3 := Tryz.zeroValue3
 t4 := Tryz.underlying4
 a4 := Tryz.isAgg4
 z4 := Tryz.sizeOf4
 v4 := Tryz.zeroValue4
 t9 := Tryz.underlying9
 a9 := Tryz.isAgg9
 z9 := Tryz.sizeOf9
 v9 := Tryz.zeroValue9
 t20 := Tryz.underlying20
 a20 := Tryz.isAgg20
 z20 := Tryz.sizeOf20
 v20 := Tryz.zeroValue20
 t31 := Tryz.underlying35
 a31 := Tryz.isAgg35
 z31 := Tryz.sizeOf35
 v31 := Tryz.zeroValue35
 t37 := Tryz.underlying197
 a37 := Tryz.isAgg197
 z37 := Tryz.sizeOf197
 v37 := Tryz.zeroValue197
 t70 := Tryz.underlying336
 a70 := Tryz.isAgg336
 z70 := Tryz.sizeOf336
 v70 := Tryz.zeroValue336
 t72 := Tryz.underlying338
 a72 := Tryz.isAgg338
 z72 := Tryz.sizeOf338
 v72 := Tryz.zeroValue338
 t75 := Tryz.underlying232
 a75 := Tryz.isAgg232
 z75 := Tryz.sizeOf232
 v75 := Tryz.zeroValue232
 t76 := Tryz.underlying233
 a76 := Tryz.isAgg233
 z76 := Tryz.sizeOf233
 v76 := Tryz.zeroValue233
 t127 := Tryz.underlying326
 a127 := Tryz.isAgg326
 z127 := Tryz.sizeOf326
 v127 := Tryz.zeroValue326
 t164 := Tryz.underlying387
 a164 := Tryz.isAgg387
 z164 := Tryz.sizeOf387
 v164 := Tryz.zeroValue387 }
theorem Tryz.Builder_Extra_156 : Builder.Extra Tryz.prog Tryz.lays156_ren := {
 sizeBuilder := by kernel_rfl
 liesBuilder := by kernel_rfl
 t5 := Tryz.underlying5
 a5 := Tryz.isAgg5
 z5 := Tryz.sizeOf5
 v5 := Tryz.zeroValue5
 infoByte := by kernel_rfl
 cellsByte := by kernel_rfl
 sizeByte := by kernel_rfl
 neB5 := by decide }
open Go.RowKit in
theorem Tryz.strings_Join_none (a : Option Addr) (c : Nat) (sep : ByteArray) (w : World) :
 Calls Tryz.prog 300 #[.slice a 0 c, .string sep] w fun e w' => e = .returned (.string ⟨#[]⟩) /\ w' = w := Any.strings_Join_none Tryz.lays156 Tryz.Builder_Extra_156 a c sep w
open Go.RowKit in
theorem Tryz.strings_Join (bk o c : Nat) (xs : List ByteArray) (sep : ByteArray) (w : World) (hcells : ∀ (j : Nat) x, xs[j]? = some x -> w.cell? ⟨bk, o + j, none⟩ = some (.string x)) (hbk : bk < w.heap.size) (hN : xs.length <= 140737488355328) (hcap : xs.length <= c) (hlen : (Lib.join (xs.map (·.data.toList)) sep.data.toList).length <= 140737488355328) :
 Calls Tryz.prog 300 #[.slice (some ⟨bk, o, none⟩) xs.length c, .string sep] w fun e w' => e = .returned (.string ⟨(Lib.join (xs.map (·.data.toList)) sep.data.toList).toArray⟩) /\ Below w.heap.size w w' := Any.strings_Join Tryz.lays156 Tryz.Builder_Extra_156 bk o c xs sep w hcells hbk hN hcap hlen
def Tryz.laysM171_ren : Go.Shelf.Ren := ⟨fun | 171 => 242 | 243 => 298 | 246 => 332 | 283 => 353 | 284 => 354 | 285 => 355 | 286 => 356 | 129 => 375 | 317 => 385 | 318 => 386 | 319 => 387 | 320 => 388 | 337 => 401 | 338 => 402 | n => n, fun | 3 => 3 | 9 => 9 | 2 => 2 | 4 => 4 | 171 => 380 | 0 => 0 | 53 => 359 | 37 => 197 | 5 => 5 | 173 => 383 | 212 => 406 | 51 => 353 | 20 => 20 | 213 => 407 | 46 => 320 | 232 => 426 | 233 => 427 | n => n, fun | 17 => 3 | 18 => 6 | 19 => 7 | n => n⟩
theorem Tryz.laysM171 : Go.Proofs.LaysM.n171 Tryz.prog Tryz.laysM171_ren := {
 mixed := by kernel_rfl
 f129 := Tryz.func375.trans (congrArg some (by kernel_rfl))
 f171 := Tryz.func242.trans (congrArg some (by kernel_rfl))
 f243 := Tryz.func298.trans (congrArg some (by kernel_rfl))
 f246 := Tryz.func332.trans (congrArg some (by kernel_rfl))
 f283 := Tryz.func353.trans (congrArg some (by kernel_rfl))
 f284 := Tryz.func354.trans (congrArg some (by kernel_rfl))
 f285 := Tryz.func355.trans (congrArg some (by kernel_rfl))
 f286 := Tryz.func356.trans (congrArg some (by kernel_rfl))
 f317 := Tryz.func385.trans (congrArg some (by kernel_rfl))
 f318 := Tryz.func386.trans (congrArg some (by kernel_rfl))
 f319 := Tryz.func387.trans (congrArg some (by kernel_rfl))
 f320 := Tryz.func388.trans (congrArg some (by kernel_rfl))
 f337 := Tryz.func401.trans (congrArg some (by kernel_rfl))
 f338 := Tryz.func402.trans (congrArg some (by kernel_rfl))
 t0 := Tryz.underlying0
 a0 := Tryz.isAgg0
 z0 := Tryz.sizeOf0
 v0 := Tryz.zeroValue0
 t2 := Tryz.underlying2
 a2 := Tryz.isAgg2
 z2 := Tryz.sizeOf2
 v2 := Tryz.zeroValue2
 t3 := Tryz.underlying3
 a3 := Tryz.isAgg3
 z3 := Tryz.sizeOf3
 v3 := Tryz.zeroValue3
 t4 := Tryz.underlying4
 a4 := Tryz.isAgg4
 z4 := Tryz.sizeOf4
 v4 := Tryz.zeroValue4
 t5 := Tryz.underlying5
 a5 := Tryz.isAgg5
 z5 := Tryz.sizeOf5
 v5 := Tryz.zeroValue5
 t9 := Tryz.underlying9
 a9 := Tryz.isAgg9
 z9 := Tryz.sizeOf9
 v9 := Tryz.zeroValue9
 t20 := Tryz.underlying20
 a20 := Tryz.isAgg20
 z20 := Tryz.sizeOf20
 v20 := Tryz.zeroValue20
 t37 := Tryz.underlying197
 a37 := Tryz.isAgg197
 z37 := Tryz.sizeOf197
 v37 := Tryz.zeroValue197
 t46 := Tryz.underlying320
 a46 := Tryz.isAgg320
 z46 := Tryz.sizeOf320
 v46 := Tryz.zeroValue320
 t51 := Tryz.underlying353
 a51 := Tryz.isAgg353
 z51 := Tryz.sizeOf353
 v51 := Tryz.zeroValue353
 t53 := Tryz.underlying359
 a53 := Tryz.isAgg359
 z53 := Tryz.sizeOf359
 v53 := Tryz.zeroValue359
 t171 := Tryz.underlying380
 a171 := Tryz.isAgg380
 z171 := Tryz.sizeOf380
 v171 := Tryz.zeroValue380
 t173 := Tryz.underlying383
 a173 := Tryz.isAgg383
 z173 := Tryz.sizeOf383
 v173 := Tryz.zeroValue383
 t212 := Tryz.underlying406
 a212 := Tryz.isAgg406
 z212 := Tryz.sizeOf406
 v212 := Tryz.zeroValue406
 t213 := Tryz.underlying407
 a213 := Tryz.isAgg407
 z213 := Tryz.sizeOf407
 t232 := Tryz.underlying426
 a232 := Tryz.isAgg426
 z232 := Tryz.sizeOf426
 v232 := Tryz.zeroValue426
 t233 := Tryz.underlying427
 a233 := Tryz.isAgg427
 z233 := Tryz.sizeOf427
 v233 := Tryz.zeroValue427
 g17 := by kernel_rfl
 g18 := by kernel_rfl
 g19 := by kernel_rfl
 i0 := by kernel_rfl
 i2 := by kernel_rfl
 i3 := by kernel_rfl
 i4 := by kernel_rfl
 i5 := by kernel_rfl
 i9 := by kernel_rfl
 i20 := by kernel_rfl
 i37 := by kernel_rfl
 i46 := by kernel_rfl
 i51 := by kernel_rfl
 i53 := by kernel_rfl
 i171 := by kernel_rfl
 i173 := by kernel_rfl
 i212 := by kernel_rfl
 i232 := by kernel_rfl
 i233 := by kernel_rfl
 m17 := by kernel_rfl
 m18 := by kernel_rfl
 m19 := by kernel_rfl }
open Go.RowKit Go.Sort Go.Lib in
theorem Tryz.strconv_Itoa (n : Int) (h0 : -9223372036854775808 <= n) (h1 : n <= 9223372036854775807) (w : World) (htab : Lib.TabIs Tryz.prog w "internal/strconv.uint64pow10" .u64 Lib.pow10Tab) :
 Calls Tryz.prog 242 #[.int .i64 n] w fun e w' => e = .returned (.string ⟨(Lib.itoa n).toArray⟩) /\ ∃ k os, w' = grow (w.drewN k) os := Any.strconv_Itoa Tryz.laysM171 n h0 h1 w htab
def Tryz.laysM316_ren : Go.Shelf.Ren := ⟨fun | 316 => 239 | n => n, fun | 9 => 9 | 3 => 3 | 4 => 4 | 37 => 197 | 0 => 0 | 127 => 326 | 5 => 5 | n => n, fun | n => n⟩
theorem Tryz.laysM316 : Go.Proofs.LaysM.n316 Tryz.prog Tryz.laysM316_ren := {
 mixed := by kernel_rfl
 f316 := Tryz.func239.trans (congrArg some (by kernel_rfl))
 t0 := Tryz.underlying0
 a0 := Tryz.isAgg0
 z0 := Tryz.sizeOf0
 v0 := Tryz.zeroValue0
 t3 := Tryz.underlying3
 a3 := Tryz.isAgg3
 z3 := Tryz.sizeOf3
 v3 := Tryz.zeroValue3
 t4 := Tryz.underlying4
 a4 := Tryz.isAgg4
 z4 := Tryz.sizeOf4
 v4 := Tryz.zeroValue4
 t9 := Tryz.underlying9
 a9 := Tryz.isAgg9
 z9 := Tryz.sizeOf9
 v9 := Tryz.zeroValue9
 t37 := Tryz.underlying197
 a37 := Tryz.isAgg197
 z37 := Tryz.sizeOf197
 v37 := Tryz.zeroValue197
 t127 := Tryz.underlying326
 a127 := Tryz.isAgg326
 z127 := Tryz.sizeOf326
 v127 := Tryz.zeroValue326
 t5 := Tryz.underlying5
 a5 := Tryz.isAgg5
 z5 := Tryz.sizeOf5
 v5 := Tryz.zeroValue5
 i0 := by kernel_rfl
 i3 := by kernel_rfl
 i4 := by kernel_rfl
 i5 := by kernel_rfl
 i9 := by kernel_rfl
 i37 := by kernel_rfl
 i127 := by kernel_rfl }
open Go.RowKit in
theorem Tryz.stringslite_Clone (s : ByteArray) (w : World) (hlim : s.size <= 281474976710656) :
 Calls Tryz.prog 239 #[.string s] w fun e w' => e = .returned (.string s) /\ Below w.heap.size w w' := Any.stringslite_Clone Tryz.laysM316 s w hlim
def Tryz.laysC172_ren : Go.Shelf.Ren := ⟨fun | 172 => 168 | 244 => 240 | 245 => 241 | 247 => 293 | 279 => 294 | 280 => 295 | 281 => 296 | 282 => 297 | 287 => 330 | 316 => 239 | 171 => 242 | 205 => 331 | 321 => 351 | 322 => 352 | 243 => 298 | 246 => 332 | 283 => 353 | 284 => 354 | 285 => 355 | 286 => 356 | 129 => 375 | 317 => 385 | 318 => 386 | 319 => 387 | 320 => 388 | 337 => 401 | 338 => 402 | n => n, fun | 9 => 9 | 3 => 3 | 75 => 232 | 76 => 233 | 4 => 4 | 5 => 5 | 167 => 327 | 37 => 197 | 0 => 0 | 85 => 328 | 2 => 2 | 168 => 330 | 53 => 359 | 175 => 360 | 46 => 320 | 210 => 363 | 127 => 326 | 145 => 379 | 143 => 377 | 21 => 21 | 171 => 380 | 173 => 383 | 212 => 406 | 51 => 353 | 20 => 20 | 213 => 407 | 232 => 426 | 233 => 427 | 80 => 341 | n => n, fun | 15 => 1 | 16 => 2 | 17 => 3 | 18 => 6 | 19 => 7 | n => n⟩
theorem Tryz.laysC172 : Go.Proofs.LaysC.n172 Tryz.prog Tryz.laysC172_ren := {
 mixed := by kernel_rfl
 f129 := Tryz.func375.trans (congrArg some (by kernel_rfl))
 f171 := Tryz.func242.trans (congrArg some (by kernel_rfl))
 f172 := Tryz.func168.trans (congrArg some (by kernel_rfl))
 f205 := Tryz.func331.trans (congrArg some (by kernel_rfl))
 f243 := Tryz.func298.trans (congrArg some (by kernel_rfl))
 f244 := Tryz.func240.trans (congrArg some (by kernel_rfl))
 f245 := Tryz.func241.trans (congrArg some (by kernel_rfl))
 f246 := Tryz.func332.trans (congrArg some (by kernel_rfl))
 f247 := Tryz.func293.trans (congrArg some (by kernel_rfl))
 f279 := Tryz.func294.trans (congrArg some (by kernel_rfl))
 f280 := Tryz.func295.trans (congrArg some (by kernel_rfl))
 f281 := Tryz.func296.trans (congrArg some (by kernel_rfl))
 f282 := Tryz.func297.trans (congrArg some (by kernel_rfl))
 f283 := Tryz.func353.trans (congrArg some (by kernel_rfl))
 f284 := Tryz.func354.trans (congrArg some (by kernel_rfl))
 f285 := Tryz.func355.trans (congrArg some (by kernel_rfl))
 f286 := Tryz.func356.trans (congrArg some (by kernel_rfl))
 f287 := Tryz.func330.trans (congrArg some (by kernel_rfl))
 f316 := Tryz.func239.trans (congrArg some (by kernel_rfl))
 f317 := Tryz.func385.trans (congrArg some (by kernel_rfl))
 f318 := Tryz.func386.trans (congrArg some (by kernel_rfl))
 f319 := Tryz.func387.trans (congrArg some (by kernel_rfl))
 f320 := Tryz.func388.trans (congrArg some (by kernel_rfl))
 f321 := Tryz.func351.trans (congrArg some (by kernel_rfl))
 f322 := Tryz.func352.trans (congrArg some (by kernel_rfl))
 f337 := Tryz.func401.trans (congrArg some (by kernel_rfl))
 f338 := Tryz.func402.trans (congrArg some (by kernel_rfl))
 t0 := Tryz.underlying0
 a0 := Tryz.isAgg0
 z0 := Tryz.sizeOf0
 v0 := Tryz.zeroValue0
 t2 := Tryz.underlying2
 a2 := Tryz.isAgg2
 z2 := Tryz.sizeOf2
 v2 := Tryz.zeroValue2
 t3 := Tryz.underlying3
 a3 := Tryz.isAgg3
 z3 := Tryz.sizeOf3
 v3 := Tryz.zeroValue3
 t4 := Tryz.underlying4
 a4 := Tryz.isAgg4
 z4 := Tryz.sizeOf4
 v4 := Tryz.zeroValue4
 t5 := Tryz.underlying5
 a5 := Tryz.isAgg5
 z5 := Tryz.sizeOf5
 v5 := Tryz.zeroValue5
 t9 := Tryz.underlying9
 a9 := Tryz.isAgg9
 z9 := Tryz.sizeOf9
 v9 := Tryz.zeroValue9
 t20 := Tryz.underlying20
 a20 := Tryz.isAgg20
 z20 := Tryz.sizeOf20
 v20 := Tryz.zeroValue20
 t21 := Tryz.underlying21
 a21 := Tryz.isAgg21
 z21 := Tryz.sizeOf21
 v21 := Tryz.zeroValue21
 t37 := Tryz.underlying197
 a37 := Tryz.isAgg197
 z37 := Tryz.sizeOf197
 v37 := Tryz.zeroValue197
 t46 := Tryz.underlying320
 a46 := Tryz.isAgg320
 z46 := Tryz.sizeOf320
 v46 := Tryz.zeroValue320
 t51 := Tryz.underlying353
 a51 := Tryz.isAgg353
 z51 := Tryz.sizeOf353
 v51 := Tryz.zeroValue353
 t53 := Tryz.underlying359
 a53 := Tryz.isAgg359
 z53 := Tryz.sizeOf359
 v53 := Tryz.zeroValue359
 t75 := Tryz.underlying232
 a75 := Tryz.isAgg232
 z75 := Tryz.sizeOf232
 v75 := Tryz.zeroValue232
 t76 := Tryz.underlying233
 a76 := Tryz.isAgg233
 z76 := Tryz.sizeOf233
 v76 := Tryz.zeroValue233
 t85 := Tryz.underlying328
 a85 := Tryz.isAgg328
 z85 := Tryz.sizeOf328
 v85 := Tryz.zeroValue328
 t127 := Tryz.underlying326
 a127 := Tryz.isAgg326
 z127 := Tryz.sizeOf326
 v127 := Tryz.zeroValue326
 t143 := Tryz.underlying377
 a143 := Tryz.isAgg377
 z143 := Tryz.sizeOf377
 v143 := Tryz.zeroValue377
 t145 := Tryz.underlying379
 a145 := Tryz.isAgg379
 z145 := Tryz.sizeOf379
 v145 := Tryz.zeroValue379
 t167 := Tryz.underlying327
 a167 := Tryz.isAgg327
 z167 := Tryz.sizeOf327
 v167 := Tryz.zeroValue327
 t168 := Tryz.underlying330
 a168 := Tryz.isAgg330
 z168 := Tryz.sizeOf330
 v168 := Tryz.zeroValue330
 t171 := Tryz.underlying380
 a171 := Tryz.isAgg380
 z171 := Tryz.sizeOf380
 v171 := Tryz.zeroValue380
 t173 := Tryz.underlying383
 a173 := Tryz.isAgg383
 z173 := Tryz.sizeOf383
 v173 := Tryz.zeroValue383
 t175 := Tryz.underlying360
 a175 := Tryz.isAgg360
 z175 := Tryz.sizeOf360
 v175 := Tryz.zeroValue360
 t210 := Tryz.underlying363
 a210 := Tryz.isAgg363
 z210 := Tryz.sizeOf363
 v210 := Tryz.zeroValue363
 t212 := Tryz.underlying406
 a212 := Tryz.isAgg406
 z212 := Tryz.sizeOf406
 v212 := Tryz.zeroValue406
 t213 := Tryz.underlying407
 a213 := Tryz.isAgg407
 z213 := Tryz.sizeOf407
 t232 := Tryz.underlying426
 a232 := Tryz.isAgg426
 z232 := Tryz.sizeOf426
 v232 := Tryz.zeroValue426
 t233 := Tryz.underlying427
 a233 := Tryz.isAgg427
 z233 := Tryz.sizeOf427
 v233 := Tryz.zeroValue427
 g15 := by kernel_rfl
 g16 := by kernel_rfl
 g17 := by kernel_rfl
 g18 := by kernel_rfl
 g19 := by kernel_rfl
 t80 := Tryz.underlying341
 a80 := Tryz.isAgg341
 z80 := Tryz.sizeOf341
 v80 := Tryz.zeroValue341
 i0 := by kernel_rfl
 i2 := by kernel_rfl
 i3 := by kernel_rfl
 i4 := by kernel_rfl
 i5 := by kernel_rfl
 i9 := by kernel_rfl
 i20 := by kernel_rfl
 i21 := by kernel_rfl
 i37 := by kernel_rfl
 i46 := by kernel_rfl
 i51 := by kernel_rfl
 i53 := by kernel_rfl
 i75 := by kernel_rfl
 i76 := by kernel_rfl
 i80 := by kernel_rfl
 i85 := by kernel_rfl
 i127 := by kernel_rfl
 i143 := by kernel_rfl
 i145 := by kernel_rfl
 i167 := by kernel_rfl
 i168 := by kernel_rfl
 i171 := by kernel_rfl
 i173 := by kernel_rfl
 i175 := by kernel_rfl
 i210 := by kernel_rfl
 i212 := by kernel_rfl
 i232 := by kernel_rfl
 i233 := by kernel_rfl
 m15 := by kernel_rfl
 m16 := by kernel_rfl
 m17 := by kernel_rfl
 m18 := by kernel_rfl
 m19 := by kernel_rfl
 c0 := by kernel_rfl
 c2 := by kernel_rfl
 c3 := by kernel_rfl
 c4 := by kernel_rfl
 c5 := by kernel_rfl
 c9 := by kernel_rfl
 c20 := by kernel_rfl
 c21 := by kernel_rfl
 c37 := by kernel_rfl
 c46 := by kernel_rfl
 c51 := by kernel_rfl
 c53 := by kernel_rfl
 c75 := by kernel_rfl
 c76 := by kernel_rfl
 c80 := by kernel_rfl
 c85 := by kernel_rfl
 c127 := by kernel_rfl
 c143 := by kernel_rfl
 c145 := by kernel_rfl
 c167 := by kernel_rfl
 c168 := by kernel_rfl
 c171 := by kernel_rfl
 c173 := by kernel_rfl
 c175 := by kernel_rfl
 c210 := by kernel_rfl
 c212 := by kernel_rfl
 c213 := by kernel_rfl
 c232 := by kernel_rfl
 c233 := by kernel_rfl }
open Go.RowKit in
theorem Tryz.strconv_Atoi_ok (s : ByteArray) (hmax : s.size <= 9223372036854775806) (v : Int) (h : Lib.atoiAll s.data.toList = .ok v) (w : World) :
 Calls Tryz.prog 168 #[.string s] w fun e w' => e = .returned (.tuple #[.int .i64 v, .nilIface]) /\ (w' = w ∨ ∃ t, w' = Lib.bytesWorld w 5 t) := Any.strconv_Atoi_ok Tryz.laysC172 s hmax v h w
open Go.RowKit in
theorem Tryz.strconv_Atoi_syntax (s : ByteArray) (hlim : s.size <= 281474976710656) (h : Lib.atoiAll s.data.toList = Lib.atoiAll []) (ev : Value) (w : World) (hv : w.cell? ⟨1, 0, none⟩ = some ev) (hev : ev = .nilIface ∨ ∃ te pe, ev = .iface te pe) :
 Calls Tryz.prog 168 #[.string s] w fun e w' => ∃ N, e = .returned (.tuple #[.int .i64 (0), .iface 330 (.pointer (some ⟨N, 0, none⟩))]) /\ w.heap.size <= N /\ w'.heap[N]? = some (.cells #[.string ⟨#[65, 116, 111, 105]⟩, .string s, ev] 363 (0, 0)) /\ Below w.heap.size w w' := Any.strconv_Atoi_syntax Tryz.laysC172 s hlim h ev w hv hev
open Go.RowKit in
theorem Tryz.strconv_Atoi_range (s : ByteArray) (hlim : s.size <= 281474976710656) (h : Lib.atoiAll s.data.toList = .range) (ev : Value) (w : World) (hv : w.cell? ⟨2, 0, none⟩ = some ev) (hev : ev = .nilIface ∨ ∃ te pe, ev = .iface te pe) :
 Calls Tryz.prog 168 #[.string s] w fun e w' => ∃ N, e = .returned (.tuple #[.int .i64 (Lib.atoiSat s.data.toList), .iface 330 (.pointer (some ⟨N, 0, none⟩))]) /\ w.heap.size <= N /\ w'.heap[N]? = some (.cells #[.string ⟨#[65, 116, 111, 105]⟩, .string s, ev] 363 (0, 0)) /\ Below w.heap.size w w' := Any.strconv_Atoi_range Tryz.laysC172 s hlim h ev w hv hev
def Tryz.lays145_ren : Go.Shelf.Ren := ⟨fun | 145 => 166 | 220 => 238 | 219 => 207 | 217 => 277 | 225 => 278 | 224 => 279 | 267 => 280 | 266 => 323 | 314 => 324 | n => n, fun | 9 => 9 | 4 => 4 | 59 => 228 | 3 => 3 | 5 => 5 | 46 => 320 | 146 => 354 | 51 => 353 | n => n, fun | 1 => 0 | n => n⟩
theorem Tryz.lays145 : Go.Proofs.Lays.n145 Tryz.prog Tryz.lays145_ren := {
 mixed := by kernel_rfl
 f145 := Tryz.func166.trans (congrArg some (by kernel_rfl))
 f217 := Tryz.func277.trans (congrArg some (by kernel_rfl))
 f219 := Tryz.func207.trans (congrArg some (by kernel_rfl))
 f220 := Tryz.func238.trans (congrArg some (by kernel_rfl))
 f224 := Tryz.func279.trans (congrArg some (by kernel_rfl))
 f225 := Tryz.func278.trans (congrArg some (by kernel_rfl))
 f266 := Tryz.func323.trans (congrArg some (by kernel_rfl))
 f267 := Tryz.func280.trans (congrArg some (by kernel_rfl))
 f314 := Tryz.func324.trans (congrArg some (by kernel_rfl))
 t3 := Tryz.underlying3
 a3 := Tryz.isAgg3
 z3 := Tryz.sizeOf3
 v3 := Tryz.zeroValue3
 t4 := Tryz.underlying4
 a4 := Tryz.isAgg4
 z4 := Tryz.sizeOf4
 v4 := Tryz.zeroValue4
 t5 := Tryz.underlying5
 a5 := Tryz.isAgg5
 z5 := Tryz.sizeOf5
 v5 := Tryz.zeroValue5
 t9 := Tryz.underlying9
 a9 := Tryz.isAgg9
 z9 := Tryz.sizeOf9
 v9 := Tryz.zeroValue9
 t46 := Tryz.underlying320
 a46 := Tryz.isAgg320
 z46 := Tryz.sizeOf320
 v46 := Tryz.zeroValue320
 t51 := Tryz.underlying353
 a51 := Tryz.isAgg353
 z51 := Tryz.sizeOf353
 v51 := Tryz.zeroValue353
 t59 := Tryz.underlying228
 a59 := Tryz.isAgg228
 z59 := Tryz.sizeOf228
 v59 := Tryz.zeroValue228
 t146 := Tryz.underlying354
 a146 := Tryz.isAgg354
 z146 := Tryz.sizeOf354
 v146 := Tryz.zeroValue354
 g1 := by kernel_rfl }
open Go.RowKit Go.Lib in
theorem Tryz.strings_Cut (s sep : ByteArray) (m : Int) (w : World) (hs : s.size < 4294967281) (hm : w.cell? ⟨0, 0, none⟩ = some (.int .i64 m)) :
 Calls Tryz.prog 166 #[.string s, .string sep] w fun e w' => e = .returned (.tuple #[.string ⟨(Lib.cut s.data.toList sep.data.toList).1.toArray⟩, .string ⟨(Lib.cut s.data.toList sep.data.toList).2.1.toArray⟩, .bool (Lib.cut s.data.toList sep.data.toList).2.2]) /\ ∃ n, w' = w.drewN n := Any.strings_Cut Tryz.lays145 s sep m w hs hm
def Tryz.lays146_ren : Go.Shelf.Ren := ⟨fun | 146 => 243 | 221 => 299 | 268 => 333 | 138 => 334 | 143 => 134 | 195 => 357 | 197 => 358 | 218 => 359 | 219 => 207 | 260 => 389 | 217 => 277 | 225 => 278 | 224 => 279 | 267 => 280 | 266 => 323 | 314 => 324 | n => n, fun | 9 => 9 | 31 => 35 | 3 => 3 | 4 => 4 | 0 => 0 | 105 => 385 | 21 => 21 | 5 => 5 | 46 => 320 | 119 => 419 | 139 => 422 | 138 => 421 | 146 => 354 | 51 => 353 | n => n, fun | 1 => 0 | 3 => 4 | 4 => 5 | n => n⟩
theorem Tryz.lays146 : Go.Proofs.Lays.n146 Tryz.prog Tryz.lays146_ren := {
 mixed := by kernel_rfl
 f138 := Tryz.func334.trans (congrArg some (by kernel_rfl))
 f143 := Tryz.func134.trans (congrArg some (by kernel_rfl))
 f146 := Tryz.func243.trans (congrArg some (by kernel_rfl))
 f195 := Tryz.func357.trans (congrArg some (by kernel_rfl))
 f197 := Tryz.func358.trans (congrArg some (by kernel_rfl))
 f217 := Tryz.func277.trans (congrArg some (by kernel_rfl))
 f218 := Tryz.func359.trans (congrArg some (by kernel_rfl))
 f219 := Tryz.func207.trans (congrArg some (by kernel_rfl))
 f221 := Tryz.func299.trans (congrArg some (by kernel_rfl))
 f224 := Tryz.func279.trans (congrArg some (by kernel_rfl))
 f225 := Tryz.func278.trans (congrArg some (by kernel_rfl))
 f260 := Tryz.func389.trans (congrArg some (by kernel_rfl))
 f266 := Tryz.func323.trans (congrArg some (by kernel_rfl))
 f267 := Tryz.func280.trans (congrArg some (by kernel_rfl))
 f268 := Tryz.func333.trans (congrArg some (by kernel_rfl))
 f314 := Tryz.func324.trans (congrArg some (by kernel_rfl))
 t0 := Tryz.underlying0
 a0 := Tryz.isAgg0
 z0 := Tryz.sizeOf0
 v0 := Tryz.zeroValue0
 t3 := Tryz.underlying3
 a3 := Tryz.isAgg3
 z3 := Tryz.sizeOf3
 v3 := Tryz.zeroValue3
 t4 := Tryz.underlying4
 a4 := Tryz.isAgg4
 z4 := Tryz.sizeOf4
 v4 := Tryz.zeroValue4
 t5 := Tryz.underlying5
 a5 := Tryz.isAgg5
 z5 := Tryz.sizeOf5
 v5 := Tryz.zeroValue5
 t9 := Tryz.underlying9
 a9 := Tryz.isAgg9
 z9 := Tryz.sizeOf9
 v9 := Tryz.zeroValue9
 t21 := Tryz.underlying21
 a21 := Tryz.isAgg21
 z21 := Tryz.sizeOf21
 v21 := Tryz.zeroValue21
 t31 := Tryz.underlying35
 a31 := Tryz.isAgg35
 z31 := Tryz.sizeOf35
 v31 := Tryz.zeroValue35
 t46 := Tryz.underlying320
 a46 := Tryz.isAgg320
 z46 := Tryz.sizeOf320
 v46 := Tryz.zeroValue320
 t51 := Tryz.underlying353
 a51 := Tryz.isAgg353
 z51 := Tryz.sizeOf353
 v51 := Tryz.zeroValue353
 t105 := Tryz.underlying385
 a105 := Tryz.isAgg385
 z105 := Tryz.sizeOf385
 v105 := Tryz.zeroValue385
 t119 := Tryz.underlying419
 a119 := Tryz.isAgg419
 z119 := Tryz.sizeOf419
 t138 := Tryz.underlying421
 a138 := Tryz.isAgg421
 z138 := Tryz.sizeOf421
 v138 := Tryz.zeroValue421
 t139 := Tryz.underlying422
 a139 := Tryz.isAgg422
 z139 := Tryz.sizeOf422
 v139 := Tryz.zeroValue422
 t146 := Tryz.underlying354
 a146 := Tryz.isAgg354
 z146 := Tryz.sizeOf354
 v146 := Tryz.zeroValue354
 g1 := by kernel_rfl
 g3 := by kernel_rfl
 g4 := by kernel_rfl }
open Go.RowKit Go.Lib in
theorem Tryz.strings_Split (s sep : ByteArray) (m : Int) (w : World) (hs : s.size < 4294967281) (hm : w.cell? ⟨0, 0, none⟩ = some (.int .i64 m)) (h1 : 1 <= sep.size) :
 Calls Tryz.prog 243 #[.string s, .string sep] w fun e w' =>
  e = .returned (.slice (some ⟨w.heap.size, 0, none⟩) (Lib.countB s sep + 1) (Lib.countB s sep + 1)) /\ w' = w.alloc (.cells ((Lib.splitB sep 0 (Lib.countB s sep) s).map Value.string).toArray 9) := Any.strings_Split Tryz.lays146 (by kernel_rfl) s sep m w hs hm h1
def Tryz.laysB_ren : Go.Shelf.Ren := ⟨fun | 167 => 302 | n => Tryz.lays156_ren.f n, Tryz.lays156_ren.t, Tryz.lays156_ren.g⟩
theorem Tryz.lays166 : Lays.n166 Tryz.prog Tryz.lays156_ren := { Tryz.lays156 with }
theorem Tryz.lays167 : Lays.n167 Tryz.prog Tryz.laysB_ren := {
 mixed := by kernel_rfl
 f167 := Tryz.func302.trans (congrArg some (by kernel_rfl))
 f240 := Tryz.lays156.f240
 f276 := Tryz.lays156.f276
 t0 := Tryz.lays156.t0
 a0 := Tryz.lays156.a0
 z0 := Tryz.lays156.z0
 v0 := Tryz.lays156.v0
 t4 := Tryz.lays156.t4
 a4 := Tryz.lays156.a4
 z4 := Tryz.lays156.z4
 v4 := Tryz.lays156.v4
 t5 := Tryz.Builder_Extra_156.t5
 a5 := Tryz.Builder_Extra_156.a5
 z5 := Tryz.Builder_Extra_156.z5
 v5 := Tryz.Builder_Extra_156.v5
 t9 := Tryz.lays156.t9
 a9 := Tryz.lays156.a9
 z9 := Tryz.lays156.z9
 v9 := Tryz.lays156.v9
 t20 := Tryz.lays156.t20
 a20 := Tryz.lays156.a20
 z20 := Tryz.lays156.z20
 v20 := Tryz.lays156.v20
 t37 := Tryz.lays156.t37
 a37 := Tryz.lays156.a37
 z37 := Tryz.lays156.z37
 v37 := Tryz.lays156.v37
 t70 := Tryz.lays156.t70
 a70 := Tryz.lays156.a70
 z70 := Tryz.lays156.z70
 v70 := Tryz.lays156.v70
 t72 := Tryz.lays156.t72
 a72 := Tryz.lays156.a72
 z72 := Tryz.lays156.z72
 v72 := Tryz.lays156.v72
 t75 := Tryz.lays156.t75
 a75 := Tryz.lays156.a75
 z75 := Tryz.lays156.z75
 v75 := Tryz.lays156.v75
 t164 := Tryz.lays156.t164
 a164 := Tryz.lays156.a164
 z164 := Tryz.lays156.z164
 v164 := Tryz.lays156.v164 }
theorem Tryz.Builder_Extra_B : Builder.Extra Tryz.prog Tryz.laysB_ren := {
 sizeBuilder := by kernel_rfl
 liesBuilder := by kernel_rfl
 t5 := Tryz.Builder_Extra_156.t5
 a5 := Tryz.Builder_Extra_156.a5
 z5 := Tryz.Builder_Extra_156.z5
 v5 := Tryz.Builder_Extra_156.v5
 infoByte := by kernel_rfl
 cellsByte := by kernel_rfl
 sizeByte := by kernel_rfl
 neB5 := by decide }
open Go.RowKit in
theorem Tryz.Builder_WriteString (B b : Nat) (bs : List Value) (s : ByteArray) (w : World) (h : Lib.IsBuilder 338 5 B b bs w) (hlen : bs.length + s.size <= 140737488355328) (hBw : B <= w.heap.size) :
 Calls Tryz.prog 301 #[.pointer (some ⟨b, 0, none⟩), .string s] w fun e w' => e = .returned (.tuple #[.int .i64 s.size, .nilIface]) /\ (Lib.BuilderAt 338 5 B b (.pointer (some ⟨b, 0, none⟩)) (bs ++ Lib.strCells s) w' /\ Below B w w') :=
 Any.Builder_WriteString Tryz.lays166 Tryz.Builder_Extra_156 B b bs s w h hlen hBw
open Go.RowKit in
theorem Tryz.Builder_WriteByte (B b : Nat) (bs : List Value) (c : Int) (w : World) (h : Lib.IsBuilder 338 5 B b bs w) (hlen : bs.length + 1 <= 140737488355328) (hBw : B <= w.heap.size) :
 Calls Tryz.prog 302 #[.pointer (some ⟨b, 0, none⟩), .int .u8 c] w fun e w' => e = .returned .nilIface /\ (Lib.BuilderAt 338 5 B b (.pointer (some ⟨b, 0, none⟩)) (bs ++ [.int .u8 c]) w' /\ Below B w w') :=
 Any.Builder_WriteByte Tryz.lays167 Tryz.Builder_Extra_B B b bs c w h hlen hBw
end Go.Proofs
namespace Go.Proofs.YtdjkdcokjoiokaaGreatDoor
open Go.RowKit
namespace Pm
theorem run_mk {P : Program} (t e : TypeId) (z : Value) (size bytes : Nat) (ht : P.underlying t = some (.slice e)) (hinfo : (P.info? e).map (fun i => (i.zero, i.size, i.bytes)) = some (some z, size, bytes))
 (n : Nat) (hbytes : bytes * n <= 281474976710656) (h63 : n <= 9223372036854775807) (w : World) :
 (Instr.makeSlice t (.int .i64 (n : Int)) (.int .i64 (n : Int))).run P w = .ok (.slice (some ⟨w.heap.size, 0, none⟩) n n) (w.alloc (.cells (madeCells z.cells (n * size)) e)) := by
 obtain ⟨i, hi, hzz⟩ := Option.map_eq_some_iff.1 hinfo;simp only [Prod.mk.injEq] at hzz;obtain ⟨hz, hs, hb⟩ := hzz
 have hb' : (i.bytes : Int) * (n : Int) <= 281474976710656 := by
  rw [hb];have h : ((bytes * n : Nat) : Int) <= 281474976710656 := by omega
  rwa [Int.natCast_mul] at h
 have hr := run_make (P := P) w t e i z ht hi hz .i64 .i64 n n (by omega) (Int.le_refl _) hb' (by omega);simp only [Int.toNat_natCast, hs] at hr;exact hr
theorem if_yes {c : Prop} [Decidable c] {a b : Prop} (hc : c) (h : a) : if c then a else b := by rw [if_pos hc]; exact h
end Pm
end Go.Proofs.YtdjkdcokjoiokaaGreatDoor

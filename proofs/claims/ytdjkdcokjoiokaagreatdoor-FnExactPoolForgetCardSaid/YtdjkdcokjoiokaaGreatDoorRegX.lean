/- A region that draws its order, walked operation by operation, each once, whatever the order: each operation leaves a value of which something is known that no later step undoes. Nothing of the program is used. -/
import Derived.Orders
import Derived.WalkKit
import Derived.KernelRfl
namespace Go.Proofs.YtdjkdcokjoiokaaGreatDoor
namespace Pm

def upd (x : Nat → Value) (i : Nat) (v : Value) : Nat → Value := fun j => if j = i then v else x j

/-- Every edge leads back. -/
def backB (ops : Array Oper) : Bool := (List.range ops.size).all fun i => ((ops[i]?).map (·.after.all fun e => decide (e.on < i))).getD true

theorem ready_all {ops : Array Oper} {listed : Array Bool} (hb : backB ops = true) (hsz : listed.size = ops.size) (hr : Region.ready .any ops listed = []) : ∀ i, i < ops.size → listed.getD i false = true := by
  intro i
  induction i using Nat.strongRecOn with
  | _ i ih =>
    intro hi
    rcases Bool.eq_false_or_eq_true (listed.getD i false) with h | h
    · exact h
    exfalso
    have hm : i ∈ Region.ready .any ops listed := by
      rw [mem_ready]
      obtain ⟨o, ho⟩ : ∃ o, ops[i]? = some o := ⟨_, Array.getElem?_eq_getElem hi⟩
      have hl : listed.getD i true = false := by
        rw [Array.getD_eq_getD_getElem?, Array.getElem?_eq_getElem (by omega)] at h ⊢
        simpa using h
      refine ⟨hl, o, ho, fun e he _ => ?_⟩
      have hb' := List.all_eq_true.1 hb i (List.mem_range.2 hi)
      rw [ho] at hb'
      simp only [Option.map_some, Option.getD_some, Array.all_eq_true_iff_forall_mem] at hb'
      have hlt : e.on < i := by simpa using hb' e he
      exact ih _ hlt (by omega)
    rw [hr] at hm
    cases hm

/-- Operation j waits for operation i. -/
def waitsB (ops : Array Oper) (i j : Nat) : Bool := ((ops[j]?).map (·.after.any fun e => Region.binds .any e && e.on == i)).getD false

theorem wp_region_rel {P : Program} {id : Nat} {ops : Array Oper} {Q : Exit → Act → World → Prop} {w : World} (hm : P.follows .mixedOrders = true) (hb : backB ops = true)
    (F : (Nat → Value) → Act) (V : Nat → Value → World → Prop) (S : World → Prop) (R : World → World → Prop) (x0 : Nat → Value)
    (hV : ∀ j v w w', V j v w → R w w' → V j v w') (hS0 : S { w with drawn := w.drawn + 1 })
    (hop : ∀ i o, ops[i]? = some o → ∀ x w, S w → (∀ e ∈ o.after, Region.binds .any e = true → V e.on (x e.on) w) → (∀ j, waitsB ops i j = true → x j = x0 j) → ∀ K, (∀ v w', R w w' → S w' → V i v w' → K (F (upd x i v)) w') → wpOp P ops Q i K (F x) w)
    (hend : ∀ x w', S w' → (∀ i, i < ops.size → V i (x i) w') → Q .normal (F x) w') : (Code.region id ops true).wp P Q (F x0) w := by
  refine wp_region_any hm ?_
  have key : ∀ (fuel : Nat) (listed : Array Bool) (x : Nat → Value) (w : World), listed.size = ops.size → (ops.size ≤ fuel + (listed.toList.countP (fun b => b))) → S w → (∀ i, listed.getD i false = true → V i (x i) w) →
      (∀ i, listed.getD i false = false → x i = x0 i) → (∀ i j, listed.getD j false = true → waitsB ops i j = true → listed.getD i false = true) → wpAny P .any ops Q fuel listed (F x) w := by
    intro fuel
    induction fuel with
    | zero =>
      intro listed x w hsz hf hS hx hu hw
      have hall : ∀ i, i < ops.size → listed.getD i false = true := by
        have hc : listed.toList.countP (fun b => b) = listed.toList.length := by
          have h1 := List.countP_le_length (p := fun b => b) (l := listed.toList)
          have h2 : listed.toList.length = ops.size := by rw [Array.length_toList]; exact hsz
          omega
        rw [List.countP_eq_length] at hc
        intro i hi
        have hi' : i < listed.toList.length := by simp; omega
        have := hc _ (List.getElem_mem hi')
        rw [Array.getD_eq_getD_getElem?, Array.getElem?_eq_getElem (by omega)]
        simpa using this
      have hr : Region.ready .any ops listed = [] := by
        cases hr : Region.ready .any ops listed with
        | nil => rfl
        | cons i r =>
          exfalso
          have hi : i ∈ Region.ready .any ops listed := by rw [hr]; exact List.mem_cons_self
          rw [mem_ready] at hi
          obtain ⟨h1, o, ho, _⟩ := hi
          have hlt : i < ops.size := (Array.getElem?_eq_some_iff.1 ho).1
          have := hall i hlt
          rw [Array.getD_eq_getD_getElem?, Array.getElem?_eq_getElem (by omega)] at h1 this
          simp at h1 this
          rw [h1] at this; cases this
      exact ⟨hr, hend x w hS fun i hi => hx i (hall i hi)⟩
    | succ fuel ih =>
      intro listed x w hsz hf hS hx hu hw
      refine ⟨fun hr => hend x w hS fun i hi => hx i (ready_all hb hsz hr i hi), fun i hi => ?_⟩
      rw [mem_ready] at hi
      obtain ⟨h1, o, ho, hdep⟩ := hi
      have hlt : i < ops.size := (Array.getElem?_eq_some_iff.1 ho).1
      have hli : listed[i]'(by omega) = false := by
        rw [Array.getD_eq_getD_getElem?, Array.getElem?_eq_getElem (by omega)] at h1
        simpa using h1
      have hlf : listed.getD i false = false := by
        rw [Array.getD_eq_getD_getElem?, Array.getElem?_eq_getElem (by omega)]
        simpa using hli
      refine hop i o ho x w hS (fun e he hbd => hx _ (hdep e he hbd)) (fun j hj => hu j ?_) _ fun v w' hR hS' hv => ?_
      · rcases Bool.eq_false_or_eq_true (listed.getD j false) with h | h
        · have := hw i j h hj; rw [hlf] at this; cases this
        · exact h
      refine ih _ _ _ (by rw [Array.size_setIfInBounds]; exact hsz) ?_ hS' (fun j hj => ?_) (fun j hj => ?_) (fun a b hb' hab => ?_)
      · have : (listed.setIfInBounds i true).toList.countP (fun b => b) = listed.toList.countP (fun b => b) + 1 := by
          rw [Array.toList_setIfInBounds, List.countP_set (by simp; omega)]
          have h2 : listed.toList[i]'(by simp; omega) = false := by simpa using hli
          rw [h2]; simp
        omega
      · by_cases hji : j = i
        · subst hji; unfold upd; rw [if_pos rfl]; exact hv
        · unfold upd
          rw [if_neg hji]
          rw [getD_set_ne false (fun e => hji e.symm)] at hj
          exact hV _ _ _ _ (hx j hj) hR
      · have hji : j ≠ i := by
          intro e
          rw [e, Array.getD_eq_getD_getElem?, Array.getElem?_setIfInBounds_self_of_lt (by omega)] at hj
          simp at hj
        unfold upd
        rw [if_neg hji]
        rw [getD_set_ne false (fun e => hji e.symm)] at hj
        exact hu j hj
      · by_cases hbi : b = i
        · subst hbi
          have hab' := hab
          unfold waitsB at hab'
          rw [ho] at hab'
          simp only [Option.map_some, Option.getD_some, Array.any_eq_true', Bool.and_eq_true, beq_iff_eq] at hab'
          obtain ⟨e, he, hbd, hon⟩ := hab'
          have := hdep e he hbd
          rw [hon] at this
          exact getD_set_true this
        · rw [getD_set_ne false (fun e => hbi e.symm)] at hb'
          exact getD_set_true (hw a b hb' hab)
  refine key ops.size (Array.replicate ops.size false) x0 _ (by simp) (by omega) hS0 (fun i hi => ?_) (fun i _ => rfl) (fun i j hj _ => ?_)
  · exfalso
    rw [Array.getD_eq_getD_getElem?, Array.getElem?_replicate] at hi
    split at hi <;> simp at hi
  · exfalso
    rw [Array.getD_eq_getD_getElem?, Array.getElem?_replicate] at hj
    split at hj <;> simp at hj

/-- What an operation may lean on: of each operation ahead of it, what is known of its value. -/
def Deps (V : Nat → Value → World → Prop) (x : Nat → Value) (w : World) : List Edge → Prop
  | [] => True
  | e :: r => (Region.binds .any e = true → V e.on (x e.on) w) ∧ Deps V x w r
theorem Deps.of {V : Nat → Value → World → Prop} {x : Nat → Value} {w : World} : ∀ {l : List Edge}, (∀ e ∈ l, Region.binds .any e = true → V e.on (x e.on) w) → Deps V x w l
  | [], _ => trivial
  | e :: _, h => ⟨h e List.mem_cons_self, Deps.of fun e' he => h e' (List.mem_cons_of_mem _ he)⟩
/-- One operation's part. -/
def OpPart (P : Program) (ops : Array Oper) (Q : Exit → Act → World → Prop) (F : (Nat → Value) → Act) (V : Nat → Value → World → Prop) (S : World → Prop) (R : World → World → Prop) (x0 : Nat → Value) (i : Nat) (o : Oper) : Prop :=
  ∀ x w, S w → Deps V x w o.after.toList → (∀ j, waitsB ops i j = true → x j = x0 j) → ∀ K : Act → World → Prop, (∀ v w', R w w' → S w' → V i v w' → K (F (upd x i v)) w') →
    if Region.wanted o (yielded ops (F x).tmps) then o.wp P (F x) w K Q else K ((F x).put o.dst undef) w
def OpAll (P : Program) (ops : Array Oper) (Q : Exit → Act → World → Prop) (F : (Nat → Value) → Act) (V : Nat → Value → World → Prop) (S : World → Prop) (R : World → World → Prop) (x0 : Nat → Value) : Nat → List Oper → Prop
  | _, [] => True
  | i, o :: r => OpPart P ops Q F V S R x0 i o ∧ OpAll P ops Q F V S R x0 (i + 1) r
theorem OpAll.get {P : Program} {ops : Array Oper} {Q : Exit → Act → World → Prop} {F : (Nat → Value) → Act} {V : Nat → Value → World → Prop} {S : World → Prop} {R : World → World → Prop} {x0 : Nat → Value} :
    ∀ {l : List Oper} {k : Nat}, OpAll P ops Q F V S R x0 k l → ∀ i o, l[i]? = some o → OpPart P ops Q F V S R x0 (k + i) o
  | [], _, _, i, o, h => by simp at h
  | p :: r, k, h, 0, o, ho => by simp at ho; subst ho; exact h.1
  | p :: r, k, h, i + 1, o, ho => by
    have := OpAll.get h.2 i o (by simpa using ho)
    rwa [show k + 1 + i = k + (i + 1) from by omega] at this

theorem wp_region_ops {P : Program} {id : Nat} {l : List Oper} {Q : Exit → Act → World → Prop} {w : World} (hm : P.follows .mixedOrders = true) (hb : backB l.toArray = true)
    (F : (Nat → Value) → Act) (V : Nat → Value → World → Prop) (S : World → Prop) (R : World → World → Prop) (x0 : Nat → Value)
    (hV : ∀ j v w w', V j v w → R w w' → V j v w') (hS0 : S w.drew)
    (hop : OpAll P l.toArray Q F V S R x0 0 l)
    (hend : ∀ x w', S w' → (∀ i, i < l.length → V i (x i) w') → Q .normal (F x) w') : (Code.region id l.toArray true).wp P Q (F x0) w := by
  refine wp_region_rel hm hb F V S R x0 hV hS0 (fun i o ho x w hS hd hu K hK => ?_) (fun x w' hS' hv => hend x w' hS' fun i hi => hv i (by simpa using hi))
  have hp := OpAll.get hop i o (by simpa using ho)
  rw [Nat.zero_add] at hp
  have := hp x w hS (Deps.of fun e he hbd => hd e (Array.mem_toList_iff.1 he) hbd) hu K hK
  unfold wpOp
  rw [ho]
  simp only
  split
  · rename_i hw; rw [if_pos hw] at this; exact .inl this
  · rename_i hw; rw [if_neg hw] at this; exact this

theorem wp_region_F {P : Program} {id : Nat} {l : List Oper} {Q : Exit → Act → World → Prop} {w : World} (hm : P.follows .mixedOrders = true) (hb : backB l.toArray = true)
    (F0 : (Nat → Value) → Act) (x0 : Nat → Value) (V : Nat → Value → World → Prop) (S : World → Prop) (R : World → World → Prop)
    (hV : ∀ j v w w', V j v w → R w w' → V j v w') (hS0 : S w.drew)
    (hop : ∀ F, F = F0 → OpAll P l.toArray Q F V S R x0 0 l)
    (hend : ∀ x w', S w' → (∀ i, i < l.length → V i (x i) w') → Q .normal (F0 x) w') : (Code.region id l.toArray true).wp P Q (F0 x0) w :=
  wp_region_ops hm hb F0 V S R x0 hV hS0 (hop F0 rfl) hend
end Pm
end Go.Proofs.YtdjkdcokjoiokaaGreatDoor

/- A region that draws its order, walked operation by operation: what is kept may speak of all values that are there. -/
namespace Go.Proofs.YtdjkdcokjoiokaaGreatDoor
namespace Pm
def updB (D : Nat → Bool) (i : Nat) : Nat → Bool := fun j => if j = i then true else D j
theorem wp_region_relX {P : Program} {id : Nat} {ops : Array Oper} {Q : Exit → Act → World → Prop} {w : World} (hm : P.follows .mixedOrders = true) (hb : backB ops = true)
    (F : (Nat → Value) → Act) (V : Nat → Value → World → Prop) (S : (Nat → Bool) → (Nat → Value) → World → Prop) (R : World → World → Prop) (x0 : Nat → Value)
    (hV : ∀ j v w w', V j v w → R w w' → V j v w') (hS0 : S (fun _ => false) x0 { w with drawn := w.drawn + 1 })
    (hop : ∀ i o, ops[i]? = some o → ∀ D x w, S D x w → (∀ e ∈ o.after, Region.binds .any e = true → V e.on (x e.on) w) → (∀ j, waitsB ops i j = true → x j = x0 j) → x i = x0 i → (∀ j, waitsB ops i j = true → D j = false) → D i = false → (∀ j, waitsB ops j i = true → D j = true) → ∀ K, (∀ v w', R w w' → S (updB D i) (upd x i v) w' → V i v w' → K (F (upd x i v)) w') → wpOp P ops Q i K (F x) w)
    (hend : ∀ D x w', S D x w' → (∀ i, i < ops.size → D i = true) → (∀ i, i < ops.size → V i (x i) w') → Q .normal (F x) w') : (Code.region id ops true).wp P Q (F x0) w := by
  refine wp_region_any hm ?_
  have key : ∀ (fuel : Nat) (listed : Array Bool) (x : Nat → Value) (w : World), listed.size = ops.size → (ops.size ≤ fuel + (listed.toList.countP (fun b => b))) → S (fun j => listed.getD j false) x w → (∀ i, listed.getD i false = true → V i (x i) w) →
      (∀ i, listed.getD i false = false → x i = x0 i) → (∀ i j, listed.getD j false = true → waitsB ops i j = true → listed.getD i false = true) → wpAny P .any ops Q fuel listed (F x) w := by
    intro fuel
    induction fuel with
    | zero =>
      intro listed x w hsz hf hS hx hu hw
      have hall : ∀ i, i < ops.size → listed.getD i false = true := by
        have hc : listed.toList.countP (fun b => b) = listed.toList.length := by
          have h1 := List.countP_le_length (p := fun b => b) (l := listed.toList)
          have h2 : listed.toList.length = ops.size := by rw [Array.length_toList]; exact hsz
          omega
        rw [List.countP_eq_length] at hc
        intro i hi
        have hi' : i < listed.toList.length := by simp; omega
        have := hc _ (List.getElem_mem hi')
        rw [Array.getD_eq_getD_getElem?, Array.getElem?_eq_getElem (by omega)]
        simpa using this
      have hr : Region.ready .any ops listed = [] := by
        cases hr : Region.ready .any ops listed with
        | nil => rfl
        | cons i r =>
          exfalso
          have hi : i ∈ Region.ready .any ops listed := by rw [hr]; exact List.mem_cons_self
          rw [mem_ready] at hi
          obtain ⟨h1, o, ho, _⟩ := hi
          have hlt : i < ops.size := (Array.getElem?_eq_some_iff.1 ho).1
          have := hall i hlt
          rw [Array.getD_eq_getD_getElem?, Array.getElem?_eq_getElem (by omega)] at h1 this
          simp at h1 this
          rw [h1] at this; cases this
      exact ⟨hr, hend _ x w hS hall fun i hi => hx i (hall i hi)⟩
    | succ fuel ih =>
      intro listed x w hsz hf hS hx hu hw
      refine ⟨fun hr => hend _ x w hS (fun i hi => ready_all hb hsz hr i hi) fun i hi => hx i (ready_all hb hsz hr i hi), fun i hi => ?_⟩
      rw [mem_ready] at hi
      obtain ⟨h1, o, ho, hdep⟩ := hi
      have hlt : i < ops.size := (Array.getElem?_eq_some_iff.1 ho).1
      have hli : listed[i]'(by omega) = false := by
        rw [Array.getD_eq_getD_getElem?, Array.getElem?_eq_getElem (by omega)] at h1
        simpa using h1
      have hlf : listed.getD i false = false := by
        rw [Array.getD_eq_getD_getElem?, Array.getElem?_eq_getElem (by omega)]
        simpa using hli
      refine hop i o ho _ x w hS (fun e he hbd => hx _ (hdep e he hbd)) (fun j hj => hu j ?_) (hu i hlf) (fun j hj => ?_) hlf (fun j hj => ?_) _ fun v w' hR hS' hv => ?_
      · rcases Bool.eq_false_or_eq_true (listed.getD j false) with h | h
        · have := hw i j h hj; rw [hlf] at this; cases this
        · exact h
      · rcases Bool.eq_false_or_eq_true (listed.getD j false) with h | h
        · have := hw i j h hj; rw [hlf] at this; cases this
        · exact h
      · unfold waitsB at hj
        rw [ho] at hj
        simp only [Option.map_some, Option.getD_some, Array.any_eq_true', Bool.and_eq_true, beq_iff_eq] at hj
        obtain ⟨e, he, hbd, hon⟩ := hj
        have := hdep e he hbd
        rw [hon] at this
        exact this
      have hD : updB (fun j => listed.getD j false) i = fun j => (listed.setIfInBounds i true).getD j false := by
        funext j
        unfold updB
        by_cases hji : j = i
        · subst hji
          rw [if_pos rfl, Array.getD_eq_getD_getElem?, Array.getElem?_setIfInBounds_self_of_lt (by omega)]; rfl
        · rw [if_neg hji]
          simp only [Array.getD_eq_getD_getElem?]
          rw [Array.getElem?_setIfInBounds_ne (fun e => hji e.symm)]
      rw [hD] at hS'
      refine ih _ _ _ (by rw [Array.size_setIfInBounds]; exact hsz) ?_ hS' (fun j hj => ?_) (fun j hj => ?_) (fun a b hb' hab => ?_)
      · have : (listed.setIfInBounds i true).toList.countP (fun b => b) = listed.toList.countP (fun b => b) + 1 := by
          rw [Array.toList_setIfInBounds, List.countP_set (by simp; omega)]
          have h2 : listed.toList[i]'(by simp; omega) = false := by simpa using hli
          rw [h2]; simp
        omega
      · by_cases hji : j = i
        · subst hji; unfold upd; rw [if_pos rfl]; exact hv
        · unfold upd
          rw [if_neg hji]
          rw [getD_set_ne false (fun e => hji e.symm)] at hj
          exact hV _ _ _ _ (hx j hj) hR
      · have hji : j ≠ i := by
          intro e
          rw [e, Array.getD_eq_getD_getElem?, Array.getElem?_setIfInBounds_self_of_lt (by omega)] at hj
          simp at hj
        unfold upd
        rw [if_neg hji]
        rw [getD_set_ne false (fun e => hji e.symm)] at hj
        exact hu j hj
      · by_cases hbi : b = i
        · subst hbi
          have hab' := hab
          unfold waitsB at hab'
          rw [ho] at hab'
          simp only [Option.map_some, Option.getD_some, Array.any_eq_true', Bool.and_eq_true, beq_iff_eq] at hab'
          obtain ⟨e, he, hbd, hon⟩ := hab'
          have := hdep e he hbd
          rw [hon] at this
          exact getD_set_true this
        · rw [getD_set_ne false (fun e => hbi e.symm)] at hb'
          exact getD_set_true (hw a b hb' hab)
  have h0 : (fun j => (Array.replicate ops.size false).getD j false) = fun _ => false := by
    funext j
    rw [Array.getD_eq_getD_getElem?, Array.getElem?_replicate]
    split <;> rfl
  rw [← h0] at hS0
  refine key ops.size (Array.replicate ops.size false) x0 _ (by simp) (by omega) hS0 (fun i hi => ?_) (fun i _ => rfl) (fun i j hj _ => ?_)
  · exfalso
    rw [Array.getD_eq_getD_getElem?, Array.getElem?_replicate] at hi
    split at hi <;> simp at hi
  · exfalso
    rw [Array.getD_eq_getD_getElem?, Array.getElem?_replicate] at hj
    split at hj <;> simp at hj

/-- One operation's part. -/
def OpPartX (P : Program) (ops : Array Oper) (Q : Exit → Act → World → Prop) (F : (Nat → Value) → Act) (V : Nat → Value → World → Prop) (S : (Nat → Bool) → (Nat → Value) → World → Prop) (R : World → World → Prop) (x0 : Nat → Value) (i : Nat) (o : Oper) : Prop :=
  ∀ D x w, S D x w → Deps V x w o.after.toList → (∀ j, waitsB ops i j = true → x j = x0 j) → x i = x0 i → (∀ j, waitsB ops i j = true → D j = false) → D i = false → (∀ j, waitsB ops j i = true → D j = true) → ∀ K : Act → World → Prop, (∀ v w', R w w' → S (updB D i) (upd x i v) w' → V i v w' → K (F (upd x i v)) w') →
    if Region.wanted o (yielded ops (F x).tmps) then o.wp P (F x) w K Q else K ((F x).put o.dst undef) w
def OpAllX (P : Program) (ops : Array Oper) (Q : Exit → Act → World → Prop) (F : (Nat → Value) → Act) (V : Nat → Value → World → Prop) (S : (Nat → Bool) → (Nat → Value) → World → Prop) (R : World → World → Prop) (x0 : Nat → Value) : Nat → List Oper → Prop
  | _, [] => True
  | i, o :: r => OpPartX P ops Q F V S R x0 i o ∧ OpAllX P ops Q F V S R x0 (i + 1) r
theorem OpAllX.get {P : Program} {ops : Array Oper} {Q : Exit → Act → World → Prop} {F : (Nat → Value) → Act} {V : Nat → Value → World → Prop} {S : (Nat → Bool) → (Nat → Value) → World → Prop} {R : World → World → Prop} {x0 : Nat → Value} :
    ∀ {l : List Oper} {k : Nat}, OpAllX P ops Q F V S R x0 k l → ∀ i o, l[i]? = some o → OpPartX P ops Q F V S R x0 (k + i) o
  | [], _, _, i, o, h => by simp at h
  | p :: r, k, h, 0, o, ho => by simp at ho; subst ho; exact h.1
  | p :: r, k, h, i + 1, o, ho => by
    have := OpAllX.get h.2 i o (by simpa using ho)
    rwa [show k + 1 + i = k + (i + 1) from by omega] at this

theorem wp_region_opsX {P : Program} {id : Nat} {l : List Oper} {Q : Exit → Act → World → Prop} {w : World} (hm : P.follows .mixedOrders = true) (hb : backB l.toArray = true)
    (F : (Nat → Value) → Act) (V : Nat → Value → World → Prop) (S : (Nat → Bool) → (Nat → Value) → World → Prop) (R : World → World → Prop) (x0 : Nat → Value)
    (hV : ∀ j v w w', V j v w → R w w' → V j v w') (hS0 : S (fun _ => false) x0 w.drew)
    (hop : OpAllX P l.toArray Q F V S R x0 0 l)
    (hend : ∀ D x w', S D x w' → (∀ i, i < l.length → D i = true) → (∀ i, i < l.length → V i (x i) w') → Q .normal (F x) w') : (Code.region id l.toArray true).wp P Q (F x0) w := by
  refine wp_region_relX hm hb F V S R x0 hV hS0 (fun i o ho D x w hS hd hu hi hn hni hdn K hK => ?_) (fun D x w' hS' hall hv => hend D x w' hS' (fun i hi => hall i (by simpa using hi)) fun i hi => hv i (by simpa using hi))
  have hp := OpAllX.get hop i o (by simpa using ho)
  rw [Nat.zero_add] at hp
  have := hp D x w hS (Deps.of fun e he hbd => hd e (Array.mem_toList_iff.1 he) hbd) hu hi hn hni hdn K hK
  unfold wpOp
  rw [ho]
  simp only
  split
  · rename_i hw; rw [if_pos hw] at this; exact .inl this
  · rename_i hw; rw [if_neg hw] at this; exact this

theorem wp_region_X {P : Program} {id : Nat} {l : List Oper} {Q : Exit → Act → World → Prop} {w : World} (hm : P.follows .mixedOrders = true) (hb : backB l.toArray = true)
    (F0 : (Nat → Value) → Act) (x0 : Nat → Value) (V : Nat → Value → World → Prop) (S : (Nat → Bool) → (Nat → Value) → World → Prop) (R : World → World → Prop)
    (hV : ∀ j v w w', V j v w → R w w' → V j v w') (hS0 : S (fun _ => false) x0 w.drew)
    (hop : ∀ F, F = F0 → OpAllX P l.toArray Q F V S R x0 0 l)
    (hend : ∀ D x w', S D x w' → (∀ i, i < l.length → D i = true) → (∀ i, i < l.length → V i (x i) w') → Q .normal (F0 x) w') : (Code.region id l.toArray true).wp P Q (F0 x0) w :=
  wp_region_opsX hm hb F0 V S R x0 hV hS0 (hop F0 rfl) hend
end Pm
end Go.Proofs.YtdjkdcokjoiokaaGreatDoor

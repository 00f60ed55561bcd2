/- Rows copied by append onto an empty slice. -/
import Derived.Test.YtdjkdcokjoiokaaGreatDoorApp
import Derived.Test.YtdjkdcokjoiokaaGreatDoorTo
import Derived.Test.YtdjkdcokjoiokaaGreatDoorRegX
namespace Go.Proofs.YtdjkdcokjoiokaaGreatDoor
open Go.RowKit
namespace Pm
theorem if_yes {c : Prop} [Decidable c] {a b : Prop} (hc : c) (h : a) : if c then a else b := by rw [if_pos hc]; exact h
/-- 'append([]T{}, xs...)': a row of the call's own. -/
theorem wp_app_new {P : Program} {w : World} {o : Oper} {a : Act} {K : Act → World → Prop} {Q : Exit → Act → World → Prop} (s x : Operand) (t : TypeId)
    (ho : o.op = .call { callee := .builtin .append, args := #[s, x], argTypes := #[t, t] })
    (base : Nat) (e : TypeId) (z : Value) (size bytes : Nat) (ht : P.underlying t = some (.slice e)) (hinfo : (P.info? e).map (fun i => (i.zero, i.size, i.bytes)) = some (some z, size, bytes)) (hzs : z.cells.size = size) (hsz : 0 < size)
    (g : Nat) (hs : a.eval s = .slice (some ⟨g, 0, none⟩) 0 0) (hown : w.ownsRow base e size (.slice (some ⟨g, 0, none⟩) 0 0) 0 [])
    (A : Option Addr) (m c : Nat) (news : List Value) (hx : a.eval x = .slice A m c) (hl : news.length = m * size) (hc : 0 < m → ∃ b off, A = some ⟨b, off, none⟩ ∧ ∀ j u, news[j]? = some u → w.cell? ⟨b, off + j, none⟩ = some u) (h1 : ∀ u ∈ news, u.oneCell' = true)
    (hbytes : m * bytes ≤ 140737488355328) (hby : 0 < bytes) (hbase : base ≤ w.heap.size)
    (h : ∀ v' w', w'.ownsRow base e size v' m news → Below w.heap.size w w' → K (a.put o.dst v') w') : o.wp P a w K Q := by
  obtain ⟨i, hi, hz, hs1, hs2⟩ := info_parts hinfo
  rcases Nat.eq_zero_or_pos m with h0 | h0
  · subst h0
    have hn : news = [] := List.eq_nil_of_length_eq_zero (by simpa using hl)
    subst hn
    have hr : (Builtin.append_ #[t, t] o.type #[.slice (some ⟨g, 0, none⟩) 0 0, .slice A 0 c]).run P w = .ok (.slice (some ⟨g, 0, none⟩) 0 0) w := by
      cases A with
      | none => simp [Builtin.append_, run_underlying ht, sizeOf, typeInfo, hi, Builtin.lenOf, Builtin.firstCells, storeCells]
      | some ad => exact run_append_room_cells (P := P) w t o.type e i ht hi g 0 0 0 ad 0 c [] (by simp) (by simp) (by simp) (by omega) (by simp) (by simp)
    unfold Oper.wp execOp
    simp only [ho, resolve, invoke, builtin, Sem.run_bind, Sem.run_pure, Result.andThen_ok, List.map_toArray, List.map_cons, List.map_nil, hs, hx, hr]
    exact h _ _ hown (Below.refl _ _)
  · obtain ⟨b, off, rfl, hcc⟩ := hc h0
    have hmax : m ≤ maxLen := by
      unfold maxLen
      have : m * 1 ≤ m * bytes := Nat.mul_le_mul_left _ hby
      omega
    obtain ⟨v', w', hr, h2, h3⟩ := run_append_arg_grows (P := P) w t o.type e i z size bytes ht hi hz hs1 hs2 hzs hsz ⟨g, 0, none⟩ 0 0 [] (by simp) (by simp) ⟨b, off, none⟩ m c news hl (fun j u hj => by rw [Addr.add_lit]; exact hcc j u hj) (by omega) (by omega) (by simpa using hbytes)
    unfold Oper.wp execOp
    simp only [ho, resolve, invoke, builtin, Sem.run_bind, Sem.run_pure, Result.andThen_ok, List.map_toArray, List.map_cons, List.map_nil, hs, hx, hr]
    exact h v' w' (owns_base (by simpa using h2) hbase) ((Below.refl _ _).grown h3 (Nat.le_refl _) fun k hk => by cases hk)

theorem flat_index {α : Type} {f : α → List Value} {n : Nat} (hn : 0 < n) (hf : ∀ x, (f x).length = n) : ∀ (l : List α) (i j : Nat), j < n → (l.flatMap f)[i * n + j]? = (l[i]?).bind fun x => (f x)[j]?
  | [], i, j, _ => by simp
  | x :: l, 0, j, hj => by
    rw [List.flatMap_cons, Nat.zero_mul, Nat.zero_add, List.getElem?_append_left (by rw [hf]; exact hj)]; rfl
  | x :: l, i + 1, j, hj => by
    rw [List.flatMap_cons, List.getElem?_append_right (by rw [hf, Nat.succ_mul]; omega), hf, Nat.succ_mul, show i * n + n + j - n = i * n + j by omega, flat_index hn hf l i j hj]; rfl
/-- The cells of a row, of elements that are their cells. -/
theorem at_flat {α : Type} [Rep α] {w : World} {B : Nat} {A : Option Addr} {l : List α} {f : α → List Value} (hn : 0 < Rep.size α) (hf : ∀ x, (f x).length = Rep.size α) (hc : ∀ cs x, Rep.cells w B cs x → cs = f x) (h : At w B A l) (hl : 0 < l.length) :
    ∃ b off, A = some ⟨b, off, none⟩ ∧ ∀ (j : Nat) (u : Value), (l.flatMap f)[j]? = some u → w.cell? ⟨b, off + j, none⟩ = some u := by
  obtain ⟨b, off, rfl, _, hcc⟩ := h hl
  refine ⟨b, off, rfl, fun j u hj => ?_⟩
  have hd : j = (j / Rep.size α) * Rep.size α + j % Rep.size α := by rw [Nat.mul_comm]; exact (Nat.div_add_mod _ _).symm
  rw [hd, flat_index hn hf _ _ _ (Nat.mod_lt _ hn)] at hj
  cases hx : l[j / Rep.size α]? with
  | none => rw [hx] at hj; cases hj
  | some x =>
    rw [hx] at hj
    obtain ⟨cs, h1, h2⟩ := hcc _ x hx
    rw [hc cs x h1] at h2
    have := h2 _ u hj
    rw [hd, ← Nat.add_assoc]; exact this
theorem flat_len {α : Type} {f : α → List Value} {n : Nat} (hf : ∀ x, (f x).length = n) (l : List α) : (l.flatMap f).length = l.length * n := by
  induction l with
  | nil => simp
  | cons x l ih => rw [List.flatMap_cons, List.length_append, hf, ih, List.length_cons, Nat.succ_mul]; omega
/-- What the append laws leave, as something owned. -/
theorem own_of_owns {α : Type} [Ow α] {w : World} {base : Nat} {e : TypeId} {v : Value} {l : List α} {f : α → List Value} (hf : ∀ x, (f x).length = Rep.size α) (hn : 0 < Rep.size α) (hx : ∀ x ∈ l, Ow.own w (f x) x []) (hl : l.length ≤ big)
    (h : w.ownsRow base e (Rep.size α) v l.length (l.flatMap f)) :
    ∃ A c fp, v = .slice A l.length c ∧ Ow.own w [.slice A l.length c] l fp ∧ fp.Nodup ∧ ∀ b ∈ fp, base ≤ b ∧ b < w.heap.size ∧ ∃ cur, w.heap[b]? = some (.cells cur e (0, 0)) := by
  obtain ⟨h1, ⟨hv, hn0⟩ | ⟨g, cap, cur, hv, hg, hh, hnc, hm, hs, ht⟩⟩ := h
  · have : l = [] := List.eq_nil_of_length_eq_zero hn0
    subst this
    exact ⟨none, 0, [], hv, own_nil, List.nodup_nil, by simp⟩
  · have hrow : Row w g cur := ⟨e, hh⟩
    have hels : Els w cur l (List.replicate l.length []) := ⟨by simp, fun i x hi => by
      have hil : i < l.length := (List.getElem?_eq_some_iff.1 hi).1
      refine ⟨f x, [], by rw [List.getElem?_replicate, if_pos hil], hx x (List.mem_of_getElem? hi), fun j u hj => ?_⟩
      have hjn : j < Rep.size α := by rw [← hf x]; exact (List.getElem?_eq_some_iff.1 hj).1
      have h2 : (cur.toList.take (l.length * Rep.size α))[i * Rep.size α + j]? = some u := by rw [ht, flat_index hn hf _ _ _ hjn, hi]; exact hj
      rw [List.getElem?_take] at h2
      split at h2
      · simpa using h2
      · cases h2⟩
    have hfl : (List.replicate l.length ([] : List Nat)).flatten = [] := flat_nil fun f hf => (List.mem_replicate.1 hf).2
    have := own_list hl hnc hrow (by rw [hs]; exact Nat.mul_le_mul_right _ hnc) hels
    rw [hfl] at this
    refine ⟨_, cap, _, hv, this, by simp, fun b hb => ?_⟩
    rw [List.mem_singleton] at hb
    subst hb
    exact ⟨hg, hrow.lt, cur, hh⟩
/-- A row of the call's own stays where another block is written. -/
theorem owns_touch {w w' : World} {fp : List Nat} {base : Nat} {e : TypeId} {size n : Nat} {v : Value} {xs : List Value} (h : w.ownsRow base e size v n xs) (ht : Touch fp w w') (hf : ∀ b ∈ fp, b < base) : w'.ownsRow base e size v n xs := by
  obtain ⟨h1, ⟨hv, hn⟩ | ⟨g, cap, cur, hv, hg, hh, hr⟩⟩ := h
  · exact ⟨h1, .inl ⟨hv, hn⟩⟩
  · have hrow : Row w g cur := ⟨e, hh⟩
    exact ⟨h1, .inr ⟨g, cap, cur, hv, hg, (ht.block g hrow.lt fun hm => by have := hf g hm; omega).trans hh, hr⟩⟩
def wcells (x : Wait) : List Value := [.int .i64 x.1, vstr x.2]
def scells (x : Str) : List Value := [vstr x]
theorem flat_scells (l : List Str) : l.flatMap scells = l.map vstr := by induction l with | nil => rfl | cons x l ih => rw [List.flatMap_cons, ih]; rfl
end Pm
end Go.Proofs.YtdjkdcokjoiokaaGreatDoor

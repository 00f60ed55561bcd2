/- What a value owns: the blocks that it leads to, each a row of its own, all different. Nothing of the program is used; nothing is assumed. -/
import Derived.Test.YtdjkdcokjoiokaaGreatDoorMem
import Derived.Test.YtdjkdcokjoiokaaGreatDoorPlainB
namespace Go.Proofs.YtdjkdcokjoiokaaGreatDoor
open Go.RowKit
namespace Pm

/-- Block b is a row of just these cells, none frozen. -/
def Row (w : World) (b : Nat) (cur : Array Value) : Prop := ∃ T, w.heap[b]? = some (.cells cur T (0, 0))
section
variable {w w' : World} {b : Nat} {cur : Array Value}
theorem Row.lt (h : Row w b cur) : b < w.heap.size := by
  obtain ⟨T, h⟩ := h
  rcases Nat.lt_or_ge b w.heap.size with hlt | hge
  · exact hlt
  · rw [Array.getElem?_eq_none hge] at h; cases h
theorem Row.cell (h : Row w b cur) (i : Nat) : w.cell? ⟨b, i, none⟩ = cur[i]? := by obtain ⟨T, h⟩ := h; simp [World.cell?, h]
theorem Row.free (h : Row w b cur) (i : Nat) : w.frozen? ⟨b, i, none⟩ = false := by obtain ⟨T, h⟩ := h; simp [World.frozen?, h]
theorem Row.at_ (h : Row w b cur) {i : Nat} (hi : i < cur.size) : ∃ v, w.cell? ⟨b, i, none⟩ = some v := ⟨_, (h.cell i).trans (Array.getElem?_eq_getElem hi)⟩
theorem Row.keep (h : Row w b cur) (hk : w'.heap[b]? = w.heap[b]?) : Row w' b cur := by obtain ⟨T, h⟩ := h; exact ⟨T, hk.trans h⟩
theorem Row.get (h : Row w b cur) (i : Nat) {v : Value} (hv : cur[i]? = some v) : w.cell? ⟨b, i, none⟩ = some v := (h.cell i).trans hv
theorem Row.below (h : Row w b cur) (hb : Below w.heap.size w w') : Row w' b cur := h.keep (hb.block _ h.lt)
theorem Row.alloc (h : Row w b cur) (o : Obj) : Row (w.alloc o) b cur := h.below (bnew w o)
theorem Row.far (h : Row w b cur) {b' : Nat} (hb : b ≠ b') (i : Nat) (v : Value) : Row (w.setCell ⟨b', i, none⟩ v) b cur := h.keep (Below.heap_setCell w ⟨b', i, none⟩ v b hb)
theorem Row.drew (h : Row w b cur) : Row w.drew b cur := h
theorem Row.set (h : Row w b cur) (i : Nat) (v : Value) : Row (w.setCell ⟨b, i, none⟩ v) b (cur.setIfInBounds i v) := by
  obtain ⟨T, h⟩ := h
  exact ⟨T, by simp [World.setCell, Array.getElem?_modify, h]⟩
theorem Row.new (w : World) (cur : Array Value) (T : TypeId) : Row (w.alloc (.cells cur T)) w.heap.size cur := ⟨T, heap_alloc_new w _⟩
theorem Row.of_owns {base : Nat} {e : TypeId} {size n cap : Nat} {g : Nat} {xs : List Value} (h : w.ownsRow base e size (.slice (some ⟨g, 0, none⟩) n cap) n xs) :
    ∃ cur, Row w g cur ∧ base ≤ g ∧ n ≤ cap ∧ cur.size = cap * size ∧ cur.toList.take (n * size) = xs := by
  obtain ⟨_, h | ⟨g', cap', cur, hv, hg, hh, hn, _, hs, ht⟩⟩ := h
  · simp at h
  · injection hv with h1 h2 h3
    injection h1 with h1
    injection h1 with h1
    subst h1; subst h3
    exact ⟨cur, ⟨e, hh⟩, hg, hn, hs, ht⟩
end
theorem heap_setCell_far (w : World) (b i : Nat) (v : Value) (k : Nat) (h : k ≠ b) : (w.setCell ⟨b, i, none⟩ v).heap[k]? = w.heap[k]? := Below.heap_setCell w ⟨b, i, none⟩ v k h
theorem heap_setCell_size (w : World) (a : Addr) (v : Value) : (w.setCell a v).heap.size = w.heap.size := by simp [World.setCell]

/-- Blocks of a footprint: all different, from lo on, below hi. -/
def Fp (lo hi : Nat) (fp : List Nat) : Prop := fp.Nodup ∧ ∀ b ∈ fp, lo ≤ b ∧ b < hi
theorem Fp.nil {lo hi : Nat} : Fp lo hi [] := ⟨List.nodup_nil, by simp⟩
theorem Fp.mono {lo hi lo' hi' : Nat} {f : List Nat} (h : Fp lo hi f) (h1 : lo' ≤ lo) (h2 : hi ≤ hi') : Fp lo' hi' f := ⟨h.1, fun b hb => by have := h.2 b hb; omega⟩
theorem Fp.append {lo mid hi : Nat} {f g : List Nat} (h : Fp lo mid f) (k : Fp mid hi g) (h1 : lo ≤ mid) (h2 : mid ≤ hi) : Fp lo hi (f ++ g) := by
  refine ⟨List.nodup_append.2 ⟨h.1, k.1, fun a ha b hb e => ?_⟩, fun b hb => ?_⟩
  · have := h.2 a ha; have := k.2 b hb; omega
  · rcases List.mem_append.1 hb with hb | hb
    · have := h.2 b hb; omega
    · have := k.2 b hb; omega
theorem Fp.cons {lo mid hi b : Nat} {f : List Nat} (hb : lo ≤ b ∧ b < mid) (k : Fp mid hi f) (h2 : mid ≤ hi) : Fp lo hi (b :: f) := by
  have : Fp lo mid [b] := ⟨by simp, by simp; exact hb⟩
  exact this.append k (by omega) h2
theorem Fp.one {lo hi b : Nat} (h : lo ≤ b ∧ b < hi) : Fp lo hi [b] := ⟨by simp, by simp; exact h⟩

class Ow (α : Type) extends Rep α where
  own : World → List Value → α → List Nat → Prop
  olen : ∀ {w : World} {cs : List Value} {a : α} {fp : List Nat}, own w cs a fp → cs.length = size
  frame : ∀ {w w' : World} {cs : List Value} {a : α} {fp : List Nat}, own w cs a fp → (∀ b ∈ fp, w'.heap[b]? = w.heap[b]?) → own w' cs a fp
  reads : ∀ {w : World} {cs : List Value} {a : α} {fp : List Nat} {B : Nat}, own w cs a fp → (∀ b ∈ fp, b < B) → cells w B cs a
  lt : ∀ {w : World} {cs : List Value} {a : α} {fp : List Nat}, own w cs a fp → ∀ b ∈ fp, b < w.heap.size

instance : Ow Int where
  own _ cs n fp := (cs = [.int .i64 n] ∧ InI n) ∧ fp = []
  olen h := by rw [h.1.1]; rfl
  frame h _ := h
  reads h _ := h.1
  lt h := by rw [h.2]; simp
instance : Ow Bool where
  own _ cs b fp := cs = [.bool b] ∧ fp = []
  olen h := by rw [h.1]; rfl
  frame h _ := h
  reads h _ := h.1
  lt h := by rw [h.2]; simp
instance : Ow (List UInt8) where
  own _ cs s fp := (cs = [vstr s] ∧ s.length ≤ big) ∧ fp = []
  olen h := by rw [h.1.1]; rfl
  frame h _ := h
  reads h _ := h.1
  lt h := by rw [h.2]; simp
instance {α β : Type} [Ow α] [Ow β] : Ow (α × β) where
  own w cs x fp := ∃ c d f g, cs = c ++ d ∧ fp = f ++ g ∧ Ow.own w c x.1 f ∧ Ow.own w d x.2 g
  olen h := by obtain ⟨c, d, f, g, rfl, rfl, h1, h2⟩ := h; rw [List.length_append, Ow.olen h1, Ow.olen h2]; rfl
  frame h hk := by
    obtain ⟨c, d, f, g, rfl, rfl, h1, h2⟩ := h
    exact ⟨c, d, f, g, rfl, rfl, Ow.frame h1 fun b hb => hk b (List.mem_append_left _ hb), Ow.frame h2 fun b hb => hk b (List.mem_append_right _ hb)⟩
  reads h hk := by
    obtain ⟨c, d, f, g, rfl, rfl, h1, h2⟩ := h
    exact ⟨c, d, rfl, Ow.reads h1 fun b hb => hk b (List.mem_append_left _ hb), Ow.reads h2 fun b hb => hk b (List.mem_append_right _ hb)⟩
  lt h := by
    obtain ⟨c, d, f, g, rfl, rfl, h1, h2⟩ := h
    intro b hb
    rcases List.mem_append.1 hb with hb | hb
    · exact Ow.lt h1 b hb
    · exact Ow.lt h2 b hb

/-- The row 'cur' begins with the elements of l, which own fps. -/
def Els {α : Type} [Ow α] (w : World) (cur : Array Value) (l : List α) (fps : List (List Nat)) : Prop :=
  fps.length = l.length ∧ ∀ (i : Nat) (x : α), l[i]? = some x → ∃ cs f, fps[i]? = some f ∧ Ow.own w cs x f ∧ ∀ (j : Nat) (v : Value), cs[j]? = some v → cur[i * Rep.size α + j]? = some v
section
variable {α : Type} [Ow α] {w w' : World} {cur cur' : Array Value} {l : List α} {fps : List (List Nat)}
theorem Els.nil : Els w cur ([] : List α) [] := ⟨rfl, by simp⟩
theorem Els.frame (h : Els w cur l fps) (hk : ∀ b ∈ fps.flatten, w'.heap[b]? = w.heap[b]?) : Els w' cur l fps :=
  ⟨h.1, fun i x hx => by
    obtain ⟨cs, f, h1, h2, h3⟩ := h.2 i x hx
    exact ⟨cs, f, h1, Ow.frame h2 fun b hb => hk b (List.mem_flatten.2 ⟨f, List.mem_of_getElem? h1, hb⟩), h3⟩⟩
theorem Els.row (h : Els w cur l fps) (hc : ∀ i, i < l.length * Rep.size α → cur'[i]? = cur[i]?) : Els w cur' l fps :=
  ⟨h.1, fun i x hx => by
    obtain ⟨cs, f, h1, h2, h3⟩ := h.2 i x hx
    refine ⟨cs, f, h1, h2, fun j v hv => ?_⟩
    have hi : i < l.length := (List.getElem?_eq_some_iff.1 hx).1
    have hj : j < Rep.size α := by rw [← Ow.olen h2]; exact (List.getElem?_eq_some_iff.1 hv).1
    have : i * Rep.size α + j < l.length * Rep.size α := by
      calc i * Rep.size α + j < i * Rep.size α + Rep.size α := by omega
        _ = (i + 1) * Rep.size α := by rw [Nat.succ_mul]
        _ ≤ l.length * Rep.size α := Nat.mul_le_mul_right _ hi
    rw [hc _ this]; exact h3 j v hv⟩
theorem Els.snoc (h : Els w cur l fps) {x : α} {cs : List Value} {f : List Nat} (hx : Ow.own w cs x f) (hc : ∀ (j : Nat) (v : Value), cs[j]? = some v → cur[l.length * Rep.size α + j]? = some v) : Els w cur (l ++ [x]) (fps ++ [f]) := by
  refine ⟨by simp [h.1], fun i y hy => ?_⟩
  by_cases hi : i < l.length
  · rw [List.getElem?_append_left hi] at hy
    obtain ⟨cs', f', h1, h2, h3⟩ := h.2 i y hy
    exact ⟨cs', f', by rw [List.getElem?_append_left (by rw [h.1]; exact hi)]; exact h1, h2, h3⟩
  · rw [List.getElem?_append_right (by omega)] at hy
    have hi' : i = l.length := by
      have := (List.getElem?_eq_some_iff.1 hy).1
      simp at this; omega
    subst hi'
    simp only [Nat.sub_self, List.getElem?_cons_zero, Option.some.injEq] at hy
    subst hy
    exact ⟨cs, f, by rw [List.getElem?_append_right (by have := h.1; omega), h.1]; simp, hx, hc⟩
/-- Element k: its cells in the row, what it owns. -/
theorem Els.get (h : Els w cur l fps) {k : Nat} (hk : k < l.length) : ∃ cs f, fps[k]? = some f ∧ Ow.own w cs l[k] f ∧ ∀ (j : Nat) (v : Value), cs[j]? = some v → cur[k * Rep.size α + j]? = some v := h.2 k _ (List.getElem?_eq_getElem hk)
end

instance (priority := low) {α : Type} [Ow α] : Ow (List α) where
  own w cs l fp := (l = [] ∧ fp = [] ∧ ∃ A c, cs = [.slice A 0 c]) ∨
    ∃ b c cur fps, cs = [.slice (some ⟨b, 0, none⟩) l.length c] ∧ l.length ≤ big ∧ l.length ≤ c ∧ Row w b cur ∧ l.length * Rep.size α ≤ cur.size ∧ Els w cur l fps ∧ fp = b :: fps.flatten
  olen h := by
    rcases h with ⟨_, _, _, _, rfl⟩ | ⟨_, _, _, _, rfl, _⟩ <;> rfl
  frame h hk := by
    rcases h with h | ⟨b, c, cur, fps, h1, h2, h3, h4, h5, h6, rfl⟩
    · exact .inl h
    · exact .inr ⟨b, c, cur, fps, h1, h2, h3, h4.keep (hk b List.mem_cons_self), h5, h6.frame fun x hx => hk x (List.mem_cons_of_mem _ hx), rfl⟩
  reads h hk := by
    rcases h with ⟨rfl, _, A, c, rfl⟩ | ⟨b, c, cur, fps, rfl, h2, h3, h4, h5, h6, rfl⟩
    · exact ⟨A, c, rfl, by simp, At.nil⟩
    · refine ⟨_, c, rfl, h2, fun _ => ⟨b, 0, rfl, hk b List.mem_cons_self, fun i x hx => ?_⟩⟩
      obtain ⟨cs, f, g1, g2, g3⟩ := h6.2 i x hx
      exact ⟨cs, Ow.reads g2 fun y hy => hk y (List.mem_cons_of_mem _ (List.mem_flatten.2 ⟨f, List.mem_of_getElem? g1, hy⟩)), fun j v hv => by rw [Nat.zero_add, h4.cell]; exact g3 j v hv⟩

  lt {w cs l fp} h := by
    rcases h with ⟨_, rfl, _⟩ | ⟨b, c, cur, fps, h1, h2, h3, h4, h5, h6, rfl⟩
    · simp
    · intro x hx
      rcases List.mem_cons.1 hx with rfl | hx
      · exact h4.lt
      · obtain ⟨f, hf, hx⟩ := List.mem_flatten.1 hx
        obtain ⟨i, hi, rfl⟩ := List.getElem_of_mem hf
        have hi' : i < l.length := by rw [← h6.1]; exact hi
        obtain ⟨cs, f, g1, g2, _⟩ := h6.2 i _ (List.getElem?_eq_getElem hi')
        rw [List.getElem?_eq_getElem hi] at g1
        injection g1 with g1
        rw [g1] at hx
        exact Ow.lt g2 x hx

/-- A slice that is made and filled. -/
theorem own_list {α : Type} [Ow α] {w : World} {b c : Nat} {cur : Array Value} {l : List α} {fps : List (List Nat)} (h1 : l.length ≤ big) (h2 : l.length ≤ c) (h3 : Row w b cur) (h4 : l.length * Rep.size α ≤ cur.size) (h5 : Els w cur l fps) :
    Ow.own w [.slice (some ⟨b, 0, none⟩) l.length c] l (b :: fps.flatten) := .inr ⟨b, c, cur, fps, rfl, h1, h2, h3, h4, h5, rfl⟩
theorem own_nil {α : Type} [Ow α] {w : World} {A : Option Addr} {c : Nat} : Ow.own w [.slice A 0 c] ([] : List α) [] := .inl ⟨rfl, rfl, A, c, rfl⟩
theorem Ow.below {α : Type} [Ow α] {w w' : World} {B : Nat} {cs : List Value} {a : α} {fp : List Nat} (h : Ow.own w cs a fp) (hb : Below B w w') (hf : ∀ b ∈ fp, b < B) : Ow.own w' cs a fp :=
  Ow.frame h fun b hm => hb.block b (hf b hm)
theorem own_wait {w : World} {x : Wait} (h1 : InI x.1) (h2 : x.2.length ≤ big) : Ow.own w [.int .i64 x.1, vstr x.2] x [] := ⟨[_], [_], [], [], rfl, rfl, ⟨⟨rfl, h1⟩, rfl⟩, ⟨⟨rfl, h2⟩, rfl⟩⟩
theorem own_str {w : World} {s : Str} (h2 : s.length ≤ big) : Ow.own w [vstr s] s [] := ⟨⟨rfl, h2⟩, rfl⟩
theorem own_disk {w : World} {d : Disk} {v1 v2 : Value} {f g : List Nat} (h1 : Ow.own w [v1] d.1 f) (h2 : Ow.own w [v2] d.2.1 g) : Ow.own w [v1, v2, .bool d.2.2] d (f ++ g) :=
  ⟨[_], [_, _], f, g, rfl, rfl, h1, [_], [_], g, [], rfl, by simp, h2, rfl, rfl⟩


/-- Of the old blocks those of fp alone may have been written. -/
structure Touch (fp : List Nat) (w w' : World) : Prop where
  os : w'.os = w.os
  tape : w'.tape = w.tape
  output : w'.output = w.output
  size : w.heap.size ≤ w'.heap.size
  block : ∀ k, k < w.heap.size → k ∉ fp → w'.heap[k]? = w.heap[k]?
section
variable {fp fp' : List Nat} {w w1 w2 : World}
theorem Touch.refl (fp : List Nat) (w : World) : Touch fp w w := ⟨rfl, rfl, rfl, Nat.le_refl _, fun _ _ _ => rfl⟩
theorem Touch.trans (h : Touch fp w w1) (k : Touch fp w1 w2) : Touch fp w w2 :=
  ⟨k.os.trans h.os, k.tape.trans h.tape, k.output.trans h.output, Nat.le_trans h.size k.size, fun b hb hn => (k.block b (Nat.lt_of_lt_of_le hb h.size) hn).trans (h.block b hb hn)⟩
theorem Touch.mono (h : Touch fp w w1) (hs : ∀ b ∈ fp, b ∈ fp') : Touch fp' w w1 := ⟨h.os, h.tape, h.output, h.size, fun b hb hn => h.block b hb fun hm => hn (hs b hm)⟩
theorem Touch.of_below (h : Below w.heap.size w w1) : Touch fp w w1 := ⟨h.os, h.tape, h.output, h.size, fun b hb _ => h.block b hb⟩
theorem Touch.below (h : Touch fp w w1) {B : Nat} (hB : B ≤ w.heap.size) (hf : ∀ b ∈ fp, B ≤ b) : Below B w w1 :=
  ⟨h.os, h.tape, h.output, h.size, fun b hb => h.block b (by omega) fun hm => by have := hf b hm; omega⟩
theorem Touch.set (h : Touch fp w w1) {b : Nat} (hb : b ∈ fp) (i : Nat) (v : Value) : Touch fp w (w1.setCell ⟨b, i, none⟩ v) :=
  ⟨h.os, h.tape, h.output, by rw [heap_setCell_size]; exact h.size, fun k hk hn => (heap_setCell_far w1 b i v k (fun e => hn (e ▸ hb))).trans (h.block k hk hn)⟩
theorem Touch.drew (h : Touch fp w w1) : Touch fp w w1.drew := ⟨h.os, h.tape, h.output, h.size, h.block⟩
theorem Touch.drewN (h : Touch fp w w1) (n : Nat) : Touch fp w (w1.drewN n) := ⟨h.os, h.tape, h.output, h.size, h.block⟩
end

section
variable {α : Type} [Ow α] {w w' : World} {cur cur' : Array Value} {l : List α} {fps : List (List Nat)}
/-- One element turned. -/
theorem Els.update (h : Els w cur l fps) {k : Nat} (hk : k < l.length) {x' : α} {cs' : List Value} {f : List Nat} (hf : fps[k]? = some f) (ho : Ow.own w' cs' x' f)
    (hc : ∀ (j : Nat) (v : Value), cs'[j]? = some v → cur'[k * Rep.size α + j]? = some v)
    (hother : ∀ i j, i ≠ k → j < Rep.size α → cur'[i * Rep.size α + j]? = cur[i * Rep.size α + j]?)
    (hfr : ∀ i f', i ≠ k → fps[i]? = some f' → ∀ b ∈ f', w'.heap[b]? = w.heap[b]?) : Els w' cur' (l.set k x') fps := by
  refine ⟨by rw [List.length_set]; exact h.1, fun i y hy => ?_⟩
  by_cases hi : i = k
  · subst hi
    rw [List.getElem?_set_self hk] at hy
    injection hy with hy
    subst hy
    exact ⟨cs', f, hf, ho, hc⟩
  · rw [List.getElem?_set_ne (fun e => hi e.symm)] at hy
    obtain ⟨cs, g, h1, h2, h3⟩ := h.2 i y hy
    refine ⟨cs, g, h1, Ow.frame h2 (hfr i g hi h1), fun j v hv => ?_⟩
    rw [hother i j hi (by rw [← Ow.olen h2]; exact (List.getElem?_eq_some_iff.1 hv).1)]
    exact h3 j v hv
end
theorem own_list_inv {α : Type} [Ow α] {w : World} {cs : List Value} {l : List α} {fp : List Nat} (h : Ow.own w cs l fp) : ∃ A c, cs = [.slice A l.length c] := by
  rcases h with ⟨rfl, _, A, c, rfl⟩ | ⟨b, c, cur, fps, rfl, _⟩
  · exact ⟨A, c, rfl⟩
  · exact ⟨_, c, rfl⟩
theorem own_row {α : Type} [Ow α] {w : World} {A : Option Addr} {c n : Nat} {l : List α} {fp : List Nat} (h : Ow.own w [.slice A n c] l fp) (hl : 0 < l.length) :
    ∃ b cur fps, A = some ⟨b, 0, none⟩ ∧ n = l.length ∧ l.length ≤ big ∧ l.length ≤ c ∧ Row w b cur ∧ l.length * Rep.size α ≤ cur.size ∧ Els w cur l fps ∧ fp = b :: fps.flatten := by
  rcases h with ⟨rfl, _⟩ | ⟨b, c', cur, fps, hv, h1, h2, h3, h4, h5, h6⟩
  · simp at hl
  · simp only [List.cons.injEq, and_true] at hv
    injection hv with e1 e2 e3
    subst e3
    exact ⟨b, cur, fps, e1, e2, h1, h2, h3, h4, h5, h6⟩
theorem own_nil_iff {α : Type} [Ow α] {w : World} {A : Option Addr} {c : Nat} {fp : List Nat} (h : Ow.own w [.slice A 0 c] ([] : List α) fp) : fp = [] ∨ ∃ b cur, A = some ⟨b, 0, none⟩ ∧ Row w b cur ∧ fp = [b] := by
  rcases h with ⟨_, rfl, _⟩ | ⟨b, c', cur, fps, hv, h1, h2, h3, h4, h5, h6⟩
  · exact .inl rfl
  · simp only [List.cons.injEq, and_true] at hv
    injection hv with e1 _ _
    refine .inr ⟨b, cur, e1, h3, ?_⟩
    have : fps = [] := List.eq_nil_of_length_eq_zero h5.1
    rw [h6, this]; rfl
theorem own_disk_inv {w : World} {cs : List Value} {d : Disk} {fp : List Nat} (h : Ow.own w cs d fp) :
    ∃ A1 c1 A2 c2 f1 f2, cs = [.slice A1 d.1.length c1, .slice A2 d.2.1.length c2, .bool d.2.2] ∧ fp = f1 ++ f2 ∧ Ow.own w [.slice A1 d.1.length c1] d.1 f1 ∧ Ow.own w [.slice A2 d.2.1.length c2] d.2.1 f2 := by
  obtain ⟨c, e, f, g, rfl, rfl, h1, c', e', f', g', rfl, rfl, h2, rfl, rfl⟩ := h
  obtain ⟨A1, c1, rfl⟩ := own_list_inv h1
  obtain ⟨A2, c2, rfl⟩ := own_list_inv h2
  exact ⟨A1, c1, A2, c2, f, f', rfl, by simp, h1, h2⟩
theorem own_wait_inv {w : World} {cs : List Value} {x : Wait} {fp : List Nat} (h : Ow.own w cs x fp) : cs = [.int .i64 x.1, vstr x.2] ∧ fp = [] ∧ InI x.1 ∧ x.2.length ≤ big := by
  obtain ⟨c, e, f, g, rfl, rfl, ⟨⟨rfl, h1⟩, rfl⟩, ⟨⟨rfl, h2⟩, rfl⟩⟩ := h
  exact ⟨rfl, rfl, h1, h2⟩
theorem own_str_inv {w : World} {cs : List Value} {x : Str} {fp : List Nat} (h : Ow.own w cs x fp) : cs = [vstr x] ∧ fp = [] ∧ x.length ≤ big := by
  obtain ⟨⟨rfl, h1⟩, rfl⟩ := h
  exact ⟨rfl, rfl, h1⟩

theorem flat_nil {fps : List (List Nat)} (h : ∀ f ∈ fps, f = []) : fps.flatten = [] := by
  rw [List.flatten_eq_nil_iff]; exact h
theorem els_strs {w : World} {cur : Array Value} {l : List Str} {fps : List (List Nat)} (h : Els w cur l fps) : fps.flatten = [] := flat_nil fun f hf => by
  obtain ⟨i, hi, rfl⟩ := List.getElem_of_mem hf
  obtain ⟨cs, f, h1, h2, _⟩ := h.get (k := i) (by rw [← h.1]; exact hi)
  rw [List.getElem?_eq_getElem hi] at h1
  injection h1 with h1
  rw [h1]; exact (own_str_inv h2).2.1
theorem els_waits {w : World} {cur : Array Value} {l : List Wait} {fps : List (List Nat)} (h : Els w cur l fps) : fps.flatten = [] := flat_nil fun f hf => by
  obtain ⟨i, hi, rfl⟩ := List.getElem_of_mem hf
  obtain ⟨cs, f, h1, h2, _⟩ := h.get (k := i) (by rw [← h.1]; exact hi)
  rw [List.getElem?_eq_getElem hi] at h1
  injection h1 with h1
  rw [h1]; exact (own_wait_inv h2).2.1
theorem flat_get {fps : List (List Nat)} (h : fps.flatten = []) {k : Nat} (hk : k < fps.length) : fps[k]? = some [] := by
  rw [List.getElem?_eq_getElem hk, List.flatten_eq_nil_iff.1 h _ (List.getElem_mem hk)]
theorem flat_get' {fps : List (List Nat)} (h : fps.flatten = []) {k : Nat} {f : List Nat} (hk : fps[k]? = some f) : f = [] :=
  List.flatten_eq_nil_iff.1 h _ (List.mem_of_getElem? hk)

theorem flat_disj {fps : List (List Nat)} (h : fps.flatten.Nodup) {i j : Nat} {f g : List Nat} (hf : fps[i]? = some f) (hg : fps[j]? = some g) (hij : i ≠ j) : ∀ b ∈ g, b ∉ f := by
  have h' := (List.pairwise_flatten.1 h).2
  rw [List.pairwise_iff_getElem] at h'
  obtain ⟨hi, rfl⟩ := List.getElem?_eq_some_iff.1 hf
  obtain ⟨hj, rfl⟩ := List.getElem?_eq_some_iff.1 hg
  intro b hb hb'
  rcases Nat.lt_or_ge i j with hlt | hge
  · exact h' i j hi hj hlt b hb' b hb rfl
  · exact h' j i hj hi (by omega) b hb b hb' rfl
theorem flat_nodup {fps : List (List Nat)} (h : fps.flatten.Nodup) {i : Nat} {f : List Nat} (hf : fps[i]? = some f) : f.Nodup := (List.pairwise_flatten.1 h).1 f (List.mem_of_getElem? hf)
theorem mem_flat {fps : List (List Nat)} {i : Nat} {f : List Nat} (hf : fps[i]? = some f) {b : Nat} (hb : b ∈ f) : b ∈ fps.flatten := List.mem_flatten.2 ⟨f, List.mem_of_getElem? hf, hb⟩

/-- What the append laws leave, as data. -/
theorem owns_at {w : World} {base : Nat} {e : TypeId} {v : Value} {l : List Str} (h : w.ownsRow base e 1 v l.length (l.map vstr)) (hb : ∀ s ∈ l, s.length ≤ big) (hl : l.length ≤ big) :
    ∃ A c, v = .slice A l.length c ∧ At w w.heap.size A l := by
  obtain ⟨h1, ⟨hv, hn⟩ | ⟨g, cap, cur, hv, hg, hh, hn, hm, hs, ht⟩⟩ := h
  · refine ⟨none, 0, by rw [hv, hn], ?_⟩
    have : l = [] := List.eq_nil_of_length_eq_zero hn
    subst this; exact At.nil
  · refine ⟨_, cap, hv, fun _ => ⟨g, 0, rfl, ?_, fun i x hx => ⟨[vstr x], ⟨rfl, hb x (List.mem_of_getElem? hx)⟩, fun j u hj => ?_⟩⟩⟩
    · rcases Nat.lt_or_ge g w.heap.size with hlt | hge
      · exact hlt
      · rw [Array.getElem?_eq_none hge] at hh; cases hh
    · have hi : i < l.length := (List.getElem?_eq_some_iff.1 hx).1
      match j, hj with
      | 0, hj =>
        simp only [List.getElem?_cons_zero, Option.some.injEq] at hj
        have hc : w.cell? ⟨g, i, none⟩ = cur[i]? := by simp [World.cell?, hh]
        have : (cur.toList.take (l.length * 1))[i]? = some (vstr x) := by rw [ht, List.getElem?_map, hx]; rfl
        rw [List.getElem?_take_of_lt (by omega)] at this
        simp only [Rep.size, Nat.mul_one, Nat.zero_add, Nat.add_zero]
        rw [hc, ← hj]
        simpa using this
theorem owns_cap {w : World} {base : Nat} {e : TypeId} {size n n' c : Nat} {A : Option Addr} {xs : List Value} (h : w.ownsRow base e size (.slice A n' c) n xs) : n ≤ c := by
  obtain ⟨h1, ⟨hv, hn⟩ | ⟨g, cap, cur, hv, hg, hh, hn, hm⟩⟩ := h
  · omega
  · injection hv with h1 h2 h3; omega
theorem owns_new {w : World} {base : Nat} {e : TypeId} (hb : base ≤ w.heap.size) : (w.alloc (.cells #[] e)).ownsRow base e 1 (.slice (some ⟨w.heap.size, 0, none⟩) 0 0) 0 [] :=
  ⟨rfl, .inr ⟨w.heap.size, 0, #[], rfl, hb, heap_alloc_new w _, Nat.le_refl _, Nat.zero_le _, rfl, rfl⟩⟩

end Pm
end Go.Proofs.YtdjkdcokjoiokaaGreatDoor

/- Clearing rows of a set of disks: what it comes to, and one cell's clearing. No program's step is in sight. -/
namespace Go.Proofs.YtdjkdcokjoiokaaGreatDoor
open Go.RowKit
namespace Pl
theorem wipe_len (p : Nat → Bool) (l : List Str) : (wipe p l).length = l.length := by simp [wipe]
theorem wipe_get (p : Nat → Bool) (l : List Str) (i : Nat) : (wipe p l)[i]? = l[i]?.map fun x => if p i then [] else x := by
  unfold wipe
  rw [List.getElem?_map]
  by_cases hi : i < l.length
  · rw [List.getElem?_range hi, List.getElem?_eq_getElem hi]
    simp [List.getD_eq_getElem?_getD, List.getElem?_eq_getElem hi]
  · rw [List.getElem?_eq_none (by simp; omega), List.getElem?_eq_none (by omega)]; rfl
theorem wipe_congr {p q : Nat → Bool} (h : ∀ i, p i = q i) (l : List Str) : wipe p l = wipe q l := by
  have : p = q := funext h
  rw [this]
theorem wipe_none {p : Nat → Bool} (h : ∀ i, p i = false) (l : List Str) : wipe p l = l := by
  apply List.ext_getElem?
  intro i
  rw [wipe_get, h]; simp
theorem wipe_set (p : Nat → Bool) (l : List Str) (k : Nat) : (wipe p l).set k [] = wipe (fun j => p j || decide (j = k)) l := by
  apply List.ext_getElem?
  intro i
  by_cases hi : k = i
  · subst hi
    by_cases hk : k < l.length
    · rw [List.getElem?_set_self (by rw [wipe_len]; exact hk), wipe_get, List.getElem?_eq_getElem hk]; simp
    · rw [List.getElem?_eq_none (by rw [List.length_set, wipe_len]; omega), List.getElem?_eq_none (by rw [wipe_len]; omega)]
  · rw [List.getElem?_set_ne hi, wipe_get, wipe_get]
    have : decide (i = k) = false := by rw [decide_eq_false_iff_not]; omega
    rw [this, Bool.or_false]
/-- The rows ahead of k are cleared. -/
noncomputable def wipK (r : Raid) (txg : Int) (k : Nat) : Raid := r.map fun d => (wipe (fun j => decide (j < k) && clears r txg j) d.1, d.2)
def clr (k : Nat) (d : Disk) : Disk := (d.1.set k [], d.2)
theorem wipK_len (r : Raid) (txg : Int) (k : Nat) : (wipK r txg k).length = r.length := by simp [wipK]
theorem wipK_zero (r : Raid) (txg : Int) : wipK r txg 0 = r := by
  unfold wipK
  conv => rhs; rw [← List.map_id r]
  apply List.map_congr_left
  intro d _
  rw [wipe_none (by simp)]; rfl
theorem wipK_skip {r : Raid} {txg : Int} {k : Nat} (h : clears r txg k = false) : wipK r txg (k + 1) = wipK r txg k := by
  unfold wipK
  apply List.map_congr_left
  intro d _
  rw [wipe_congr]
  intro i
  by_cases hi : i = k
  · subst hi; simp [h]
  · have : decide (i < k + 1) = decide (i < k) := by rw [decide_eq_decide]; omega
    rw [this]
theorem wipK_clear {r : Raid} {txg : Int} {k : Nat} (h : clears r txg k = true) : wipK r txg (k + 1) = (wipK r txg k).map (clr k) := by
  unfold wipK
  rw [List.map_map]
  apply List.map_congr_left
  intro d _
  simp only [Function.comp, clr]
  rw [wipe_set]
  congr 1
  apply wipe_congr
  intro i
  by_cases hi : i = k
  · subst hi; simp [h]
  · have : decide (i < k + 1) = decide (i < k) := by rw [decide_eq_decide]; omega
    simp [this, hi]
theorem wipK_end (r : Raid) (txg : Int) : wipK r txg 8 = forget r txg := by
  unfold wipK forget
  apply List.map_congr_left
  intro d _
  rw [wipe_congr]
  intro i
  by_cases hi : i < 8
  · simp [hi]
  · have : clears r txg i = false := by
      unfold clears
      rw [decide_eq_false (show ¬ i < 4 by omega), decide_eq_false (show ¬ i < 8 by omega)]; simp
    simp [this]
theorem later_wipK (r : Raid) (txg : Int) (k : Nat) : rowLater (wipK r txg k) k txg = rowLater r k txg := by
  unfold rowLater wipK
  rw [List.any_map]
  congr 1
  funext d
  simp only [Function.comp, List.getD_eq_getElem?_getD, wipe_get]
  simp
theorem clears_low {r : Raid} {txg : Int} {k : Nat} (h : k < 4) : clears r txg k = rowLater r k txg := by
  unfold clears
  rw [decide_eq_true h, decide_eq_false (show ¬ 4 ≤ k by omega)]; simp
theorem clears_high {r : Raid} {txg : Int} {k : Nat} (h : 4 ≤ k) (h8 : k < 8) : clears r txg k = true := by
  unfold clears
  rw [decide_eq_true h, decide_eq_true h8]; simp
theorem wipK_mem {r : Raid} {txg : Int} {k : Nat} {d : Disk} (h : d ∈ wipK r txg k) : ∃ e ∈ r, d.1.length = e.1.length ∧ d.2 = e.2 := by
  obtain ⟨e, he, rfl⟩ := List.mem_map.1 h
  exact ⟨e, he, wipe_len _ _, rfl⟩
theorem part_set {l : Raid} {f : Disk → Disk} {i : Nat} (hi : i < l.length) : ((l.take i).map f ++ l.drop i).set i (f l[i]) = (l.take (i + 1)).map f ++ l.drop (i + 1) := by
  rw [List.set_append_right _ _ (by simp; omega)]
  have : i - ((l.take i).map f).length = 0 := by simp; omega
  rw [this, List.drop_eq_getElem_cons hi, List.set_cons_zero, List.take_succ_eq_append_getElem hi, List.map_append, List.append_assoc]; rfl
theorem part_get {l : Raid} {f : Disk → Disk} {i : Nat} (hi : i < l.length) : ((l.take i).map f ++ l.drop i)[i]? = some l[i] := by
  rw [List.getElem?_append_right (by simp; omega)]
  have : i - ((l.take i).map f).length = 0 := by simp; omega
  rw [this, List.getElem?_drop, Nat.add_zero, List.getElem?_eq_getElem hi]
end Pl
namespace Pm
open Pl (clr)
/-- One cell of one disk is written. -/
theorem own_cell {w : World} {A : Option Addr} {n c : Nat} {r : Raid} {fp : List Nat} (ho : Ow.own w [.slice A n c] r fp) (hnd : fp.Nodup) {i k : Nat} {d : Disk} (hi : r[i]? = some d) (hk : k < d.1.length) :
    ∃ b g c1, A = some ⟨b, 0, none⟩ ∧ n = r.length ∧ b ∈ fp ∧ g ∈ fp ∧ w.cell? ⟨b, i * 3, none⟩ = some (.slice (some ⟨g, 0, none⟩) d.1.length c1) ∧ (∃ v, w.cell? ⟨g, k, none⟩ = some v) ∧ w.frozen? ⟨g, k, none⟩ = false ∧
      ∀ s : Str, s.length ≤ big → Ow.own (w.setCell ⟨g, k, none⟩ (vstr s)) [.slice A n c] (r.set i (d.1.set k s, d.2)) fp := by
  have hil : i < r.length := (List.getElem?_eq_some_iff.1 hi).1
  obtain ⟨b, cur, fps, rfl, rfl, h1, h2, h3, h4, h5, rfl⟩ := own_row ho (by omega)
  obtain ⟨cs, f, e1, e2, e3⟩ := h5.2 i d hi
  obtain ⟨A1, c1, A2, c2, f1, f2, rfl, rfl, o1, o2⟩ := own_disk_inv e2
  obtain ⟨g, curg, fpsg, rfl, _, k1, k2, k3, k4, k5, rfl⟩ := own_row o1 (by omega)
  have hgf : g ∈ (g :: fpsg.flatten) ++ f2 := by simp
  have hgm : g ∈ fps.flatten := mem_flat e1 hgf
  have hnd' := List.nodup_cons.1 hnd
  have hbg : b ≠ g := fun e => hnd'.1 (e ▸ hgm)
  have hfn := flat_nodup hnd'.2 e1
  rw [List.cons_append, List.nodup_cons] at hfn
  have hksz : k < curg.size := by
    have h : d.1.length * 1 ≤ curg.size := k4
    omega
  refine ⟨b, g, c1, rfl, rfl, by simp, List.mem_cons_of_mem _ hgm, ?_, k3.at_ hksz, k3.free k, fun s hs => ?_⟩
  · rw [h3.cell]; exact e3 0 _ rfl
  · have hrow' : Row (w.setCell ⟨g, k, none⟩ (vstr s)) b cur := h3.far hbg k _
    have hrg : Row (w.setCell ⟨g, k, none⟩ (vstr s)) g (curg.setIfInBounds k (vstr s)) := k3.set k _
    obtain ⟨cs', f', q1, q2, _⟩ := k5.get hk
    have hstr := (own_str_inv q2).2.1
    subst hstr
    have helg : Els (w.setCell ⟨g, k, none⟩ (vstr s)) (curg.setIfInBounds k (vstr s)) (d.1.set k s) fpsg :=
      k5.update hk q1 (own_str hs) (fun j v hj => by
        match j, hj with
        | 0, hj =>
          simp only [List.getElem?_cons_zero, Option.some.injEq] at hj
          simp only [Rep.size, Nat.mul_one, Nat.add_zero]
          rw [Array.getElem?_setIfInBounds_self_of_lt hksz, hj]) (fun p q hp hq => by
        simp only [Rep.size] at hq ⊢
        rw [Array.getElem?_setIfInBounds_ne (by omega)]) (fun p f'' hp hf'' => by
        have h0 := flat_get' (els_strs k5) hf''
        rw [h0]; simp)
    have o1' : Ow.own (w.setCell ⟨g, k, none⟩ (vstr s)) [.slice (some ⟨g, 0, none⟩) d.1.length c1] (d.1.set k s) (g :: fpsg.flatten) := by
      have := own_list (l := d.1.set k s) (by rw [List.length_set]; exact k1) (by rw [List.length_set]; exact k2) hrg (by rw [List.length_set]; simpa using k4) helg
      rw [List.length_set] at this; exact this
    have o2' : Ow.own (w.setCell ⟨g, k, none⟩ (vstr s)) [.slice A2 d.2.1.length c2] d.2.1 f2 := Ow.frame o2 fun q hq => heap_setCell_far _ _ _ _ _ fun e => hfn.1 (List.mem_append_right _ (e ▸ hq))
    have od := own_disk (d := (d.1.set k s, d.2)) o1' o2'
    have hels := h5.update (w' := w.setCell ⟨g, k, none⟩ (vstr s)) (cur' := cur) hil e1 od e3 (fun _ _ _ _ => rfl) (fun p f'' hp hf'' q hq => heap_setCell_far _ _ _ _ _ fun e => by
      have := flat_disj hnd'.2 e1 hf'' (fun e => hp e.symm) q hq
      rw [e] at this
      exact this hgf)
    have := own_list (l := r.set i (d.1.set k s, d.2)) (by rw [List.length_set]; exact h1) (by rw [List.length_set]; exact h2) hrow' (by rw [List.length_set]; exact h4) hels
    rw [List.length_set] at this
    exact this
end Pm
end Go.Proofs.YtdjkdcokjoiokaaGreatDoor

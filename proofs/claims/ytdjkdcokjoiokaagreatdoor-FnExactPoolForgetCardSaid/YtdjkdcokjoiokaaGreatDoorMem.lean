/- How the program's values read as plain data: ints, strings, bools, pairs, slices of such, at every depth. Nothing of the program is used; nothing is assumed. -/
import Derived.Below
import Derived.Laws.OwnMore
import Derived.Deep.Draws
import Derived.Laws.Rows
import Derived.Laws.Concat
import Derived.IntWalk
namespace Go.Proofs.YtdjkdcokjoiokaaGreatDoor
open Go.RowKit
namespace Pm

/-- A text as a value. -/
def vstr (s : List UInt8) : Value := .string ⟨s.toArray⟩

theorem ba_append (a b : List UInt8) : ((⟨a.toArray⟩ : ByteArray) ++ (⟨b.toArray⟩ : ByteArray)) = ⟨(a ++ b).toArray⟩ := by
  apply ByteArray.ext
  show (_ : ByteArray).data = _
  rw [ByteArray.data_append]; simp
theorem ba_extract (s : List UInt8) (a b : Nat) : (⟨s.toArray⟩ : ByteArray).extract a b = ⟨((s.take b).drop a).toArray⟩ := by
  apply ByteArray.ext
  rw [ByteArray.data_extract]
  apply Array.toList_inj.1
  simp only [Array.toList_extract, List.extract_eq_take_drop, List.drop_take]
/-- A text's byte, as the walk spells it. -/
theorem byte_at (s : List UInt8) (k : Nat) (h : k < s.length) : ∃ c : UInt8, c = s[k] ∧ c.toNat < 256 ∧ ∀ h' : k < (⟨s.toArray⟩ : ByteArray).size, (⟨s.toArray⟩ : ByteArray)[k]'h' = c :=
  ⟨s[k], rfl, UInt8.toNat_lt _, fun h' => by
    show s.toArray[k]'(by simpa using h) = s[k]
    simp⟩
theorem str_add {P : Program} (a b : List UInt8) (h : a.length + b.length ≤ 9223372036854775807) (w : World) : (Op.stringOp .add (⟨a.toArray⟩ : ByteArray) (⟨b.toArray⟩ : ByteArray)).run P w = .ok (.string ⟨(a ++ b).toArray⟩) w := by
  have hs : (⟨a.toArray⟩ : ByteArray).size + (⟨b.toArray⟩ : ByteArray).size ≤ 9223372036854775807 := by
    show a.toArray.size + b.toArray.size ≤ _
    simpa using h
  have := run_string_add_sum (P := P) (w := w) ⟨a.toArray⟩ ⟨b.toArray⟩ hs
  rw [this, ba_append]
theorem wrap_in (n : Int) (h0 : -9223372036854775808 ≤ n) (h1 : n ≤ 9223372036854775807) : IntKind.i64.wrap n = n := by rw [IntKind.wrap_i64]; omega
theorem wrap_u8 (n : Int) (h0 : 0 ≤ n) (h1 : n ≤ 255) : IntKind.u8.wrap n = n := by rw [IntKind.wrap_u8]; omega
theorem tmod_in (n m : Int) (h0 : 0 ≤ n) : n.tmod m = n % m := Int.tmod_eq_emod_of_nonneg h0
/-- The cells 'cs' stand for 'a'; all that they lead to lies below block B. -/
class Rep (α : Type) where
  size : Nat
  cells : World → Nat → List Value → α → Prop
  len : ∀ {w : World} {B : Nat} {cs : List Value} {a : α}, cells w B cs a → cs.length = size
  keep : ∀ {w w' : World} {B B' : Nat} {cs : List Value} {a : α}, cells w B cs a → B ≤ B' → (∀ p : Addr, p.block < B → w'.cell? p = w.cell? p) → cells w' B' cs a

def InI (n : Int) : Prop := -9223372036854775808 ≤ n ∧ n ≤ 9223372036854775807
/-- The bound of lengths: what a process can hold. -/
def big : Nat := 140737488355328

instance : Rep Int where
  size := 1
  cells _ _ cs n := cs = [.int .i64 n] ∧ InI n
  len h := by rw [h.1]; rfl
  keep h _ _ := h
instance : Rep Bool where
  size := 1
  cells _ _ cs b := cs = [.bool b]
  len h := by rw [h]; rfl
  keep h _ _ := h
instance instStr : Rep (List UInt8) where
  size := 1
  cells _ _ cs s := cs = [vstr s] ∧ s.length ≤ big
  len h := by rw [h.1]; rfl
  keep h _ _ := h
instance instPair {α β : Type} [Rep α] [Rep β] : Rep (α × β) where
  size := Rep.size α + Rep.size β
  cells w B cs x := ∃ c d, cs = c ++ d ∧ Rep.cells w B c x.1 ∧ Rep.cells w B d x.2
  len h := by obtain ⟨c, d, rfl, h1, h2⟩ := h; rw [List.length_append, Rep.len h1, Rep.len h2]
  keep h hB hk := by obtain ⟨c, d, rfl, h1, h2⟩ := h; exact ⟨c, d, rfl, Rep.keep h1 hB hk, Rep.keep h2 hB hk⟩

/-- The elements lie from address A on. -/
def At {α : Type} [Rep α] (w : World) (B : Nat) (A : Option Addr) (l : List α) : Prop :=
  0 < l.length → ∃ b off, A = some ⟨b, off, none⟩ ∧ b < B ∧ ∀ (i : Nat) (x : α), l[i]? = some x → ∃ cs, Rep.cells w B cs x ∧ ∀ (j : Nat) (v : Value), cs[j]? = some v → w.cell? ⟨b, off + i * Rep.size α + j, none⟩ = some v

theorem At.keep {α : Type} [Rep α] {w w' : World} {B B' : Nat} {A : Option Addr} {l : List α} (h : At w B A l) (hB : B ≤ B') (hk : ∀ p : Addr, p.block < B → w'.cell? p = w.cell? p) : At w' B' A l := by
  intro hl
  obtain ⟨b, off, h1, h2, h3⟩ := h hl
  refine ⟨b, off, h1, by omega, fun i x hx => ?_⟩
  obtain ⟨cs, h4, h5⟩ := h3 i x hx
  exact ⟨cs, Rep.keep h4 hB hk, fun j v hv => (hk _ h2).trans (h5 j v hv)⟩
theorem At.nil {α : Type} [Rep α] {w : World} {B : Nat} {A : Option Addr} : At w B A ([] : List α) := fun h => absurd h (by simp)

instance (priority := low) instList {α : Type} [Rep α] : Rep (List α) where
  size := 1
  cells w B cs l := ∃ A c, cs = [.slice A l.length c] ∧ l.length ≤ big ∧ At w B A l
  len h := by obtain ⟨_, _, rfl, _⟩ := h; rfl
  keep h hB hk := by obtain ⟨A, c, h1, h2, h3⟩ := h; exact ⟨A, c, h1, h2, h3.keep hB hk⟩


theorem At.below {α : Type} [Rep α] {w w' : World} {B : Nat} {A : Option Addr} {l : List α} (h : At w B A l) (hb : Below B w w') : At w' B A l := h.keep (Nat.le_refl _) fun _ hp => hb.cell hp
theorem At.mono {α : Type} [Rep α] {w : World} {B B' : Nat} {A : Option Addr} {l : List α} (h : At w B A l) (hB : B ≤ B') : At w B' A l := h.keep hB fun _ _ => rfl
theorem Rep.below {α : Type} [Rep α] {w w' : World} {B : Nat} {cs : List Value} {a : α} (h : Rep.cells w B cs a) (hb : Below B w w') : Rep.cells w' B cs a := Rep.keep h (Nat.le_refl _) fun _ hp => hb.cell hp
theorem Rep.mono {α : Type} [Rep α] {w : World} {B B' : Nat} {cs : List Value} {a : α} (h : Rep.cells w B cs a) (hB : B ≤ B') : Rep.cells w B' cs a := Rep.keep h hB fun _ _ => rfl

/-- In a round: the address, and the cells of element k. -/
theorem At.elem {α : Type} [Rep α] {w : World} {B : Nat} {A : Option Addr} {l : List α} (h : At w B A l) {k : Nat} (hk : k < l.length) :
    ∃ b off cs, A = some ⟨b, off, none⟩ ∧ b < B ∧ Rep.cells w B cs l[k] ∧ ∀ (j : Nat) (v : Value), cs[j]? = some v → w.cell? ⟨b, off + k * Rep.size α + j, none⟩ = some v := by
  obtain ⟨b, off, h1, h2, h3⟩ := h (by omega)
  obtain ⟨cs, h4, h5⟩ := h3 k _ (List.getElem?_eq_getElem hk)
  exact ⟨b, off, cs, h1, h2, h4, h5⟩

abbrev Str := List UInt8
abbrev Wait := Int × Str
abbrev Disk := List Str × List Wait × Bool
abbrev Raid := List Disk

theorem str_cells {w : World} {B : Nat} {cs : List Value} {s : Str} (h : Rep.cells w B cs s) : cs = [vstr s] ∧ s.length ≤ big := h
theorem int_cells {w : World} {B : Nat} {cs : List Value} {n : Int} (h : Rep.cells w B cs n) : cs = [.int .i64 n] ∧ InI n := h
theorem bool_cells {w : World} {B : Nat} {cs : List Value} {b : Bool} (h : Rep.cells w B cs b) : cs = [.bool b] := h
theorem list_cells {α : Type} [Rep α] {w : World} {B : Nat} {cs : List Value} {l : List α} (h : Rep.cells w B cs l) : ∃ A c, cs = [.slice A l.length c] ∧ l.length ≤ big ∧ At w B A l := h
theorem wait_cells {w : World} {B : Nat} {cs : List Value} {x : Wait} (h : Rep.cells w B cs x) : cs = [.int .i64 x.1, vstr x.2] ∧ InI x.1 ∧ x.2.length ≤ big := by
  obtain ⟨c, d, rfl, h1, h2⟩ := h
  obtain ⟨rfl, h3⟩ := h1
  obtain ⟨rfl, h4⟩ := h2
  exact ⟨rfl, h3, h4⟩
theorem disk_cells {w : World} {B : Nat} {cs : List Value} {d : Disk} (h : Rep.cells w B cs d) :
    ∃ A1 c1 A2 c2, cs = [.slice A1 d.1.length c1, .slice A2 d.2.1.length c2, .bool d.2.2] ∧ d.1.length ≤ big ∧ At w B A1 d.1 ∧ d.2.1.length ≤ big ∧ At w B A2 d.2.1 := by
  obtain ⟨c, e, rfl, h1, f, g, rfl, h2, h3⟩ := h
  obtain ⟨A1, c1, rfl, h4, h5⟩ := h1
  obtain ⟨A2, c2, rfl, h6, h7⟩ := h2
  cases h3
  exact ⟨A1, c1, A2, c2, rfl, h4, h5, h6, h7⟩
theorem mk_wait {w : World} {B : Nat} {x : Wait} (h1 : InI x.1) (h2 : x.2.length ≤ big) : Rep.cells w B [.int .i64 x.1, vstr x.2] x := ⟨[_], [_], rfl, ⟨rfl, h1⟩, ⟨rfl, h2⟩⟩
theorem mk_disk {w : World} {B : Nat} {d : Disk} {A1 A2 : Option Addr} {c1 c2 : Nat} (h1 : d.1.length ≤ big) (h2 : At w B A1 d.1) (h3 : d.2.1.length ≤ big) (h4 : At w B A2 d.2.1) :
    Rep.cells w B [.slice A1 d.1.length c1, .slice A2 d.2.1.length c2, .bool d.2.2] d :=
  ⟨[_], [_, _], rfl, ⟨A1, c1, rfl, h1, h2⟩, [_], [_], rfl, ⟨A2, c2, rfl, h3, h4⟩, rfl⟩

theorem bal {w w1 : World} (h : Below w.heap.size w w1) (o : Obj) : Below w.heap.size w (w1.alloc o) := h.alloc h.size o
theorem bnew (w : World) (o : Obj) : Below w.heap.size w (w.alloc o) := bal (Below.refl _ _) o
theorem btr {w w1 w2 : World} (h : Below w.heap.size w w1) (k : Below w1.heap.size w1 w2) : Below w.heap.size w w2 := h.trans (k.mono h.size)
theorem bset {w w1 : World} (h : Below w.heap.size w w1) {b : Nat} (hb : w.heap.size ≤ b) (i : Nat) (v : Value) : Below w.heap.size w (w1.setCell ⟨b, i, none⟩ v) := h.setCell hb v
theorem bdr {w w1 : World} (h : Below w.heap.size w w1) : Below w.heap.size w w1.drew := h.drew
theorem bdrN {w w1 : World} (h : Below w.heap.size w w1) (n : Nat) : Below w.heap.size w (w1.drewN n) := ⟨h.os, h.tape, h.output, h.size, h.block⟩
theorem hid {p : Prop} (h : p) : Hid p := h
/-- What lay there when the call began reads so still, in every later world. -/
theorem At.up {α : Type} [Rep α] {w w' : World} {A : Option Addr} {l : List α} (h : At w w.heap.size A l) (hb : Below w.heap.size w w') : At w' w'.heap.size A l := (h.below hb).mono hb.size
theorem Rep.up {α : Type} [Rep α] {w w' : World} {cs : List Value} {a : α} (h : Rep.cells w w.heap.size cs a) (hb : Below w.heap.size w w') : Rep.cells w' w'.heap.size cs a := Rep.mono (Rep.below h hb) hb.size
/-- What a call leaves of old cells, as two rules of the walk. -/
theorem bcell {W w1 : World} (hb : Below W.heap.size W w1) : (∀ b o, b < W.heap.size → w1.cell? ⟨b, o, none⟩ = W.cell? ⟨b, o, none⟩) ∧ (∀ b o, b < W.heap.size → w1.frozen? ⟨b, o, none⟩ = W.frozen? ⟨b, o, none⟩) :=
  ⟨fun b o h => hb.cell (p := ⟨b, o, none⟩) h, fun b o h => hb.frozen (p := ⟨b, o, none⟩) h⟩
theorem ret_int {k : IntKind} {a b : Int} (h : a = b) : Ending.returned (.int k a) = .returned (.int k b) := by rw [h]
theorem ret_bool {a b : Bool} (h : a = b) : Ending.returned (.bool a) = .returned (.bool b) := by rw [h]

end Pm
end Go.Proofs.YtdjkdcokjoiokaaGreatDoor

/- Part 1 of seek_card: contracts, walks, laws; no condition beyond the statement's. -/
import Derived.WalkKit
import Derived.Orders
import Derived.KernelRfl
import Derived.Below
import Derived.Laws.AppendOwn
set_option linter.all false
namespace Go.Proofs.YtdjkdcokjoiokaaGreatDoor
open Go.RowKit
namespace Aw
inductive D where
 |v (x : Value)
 |agg (l : List D)
 |tup (l : List D)
 |pd (l : List D)
 |sl (c : Bool) (n : Nat) (l : List (List D))
 |mp (l : List (Value × D))
 |any
inductive RelD (S : Nat -> Prop) (w : World) : D -> Value -> Prop
 |any (x : Value) : RelD S w .any x
 |v (x : Value) : RelD S w (.v x) x
 |agg (l : List D) (cs : List Value) (hl : l.length = cs.length) (h : ∀ (i : Nat) d x, l[i]? = some d -> cs[i]? = some x -> RelD S w d x) : RelD S w (.agg l) (.agg cs.toArray)
 |tup (l : List D) (cs : List Value) (hl : l.length = cs.length) (h : ∀ (i : Nat) d x, l[i]? = some d -> cs[i]? = some x -> RelD S w d x) : RelD S w (.tup l) (.tuple cs.toArray)
 |pd (l : List D) (b o : Nat) (g : Nat -> Value) (hS : S b) (hc : ∀ (j : Nat) d, l[j]? = some d -> w.cell? ⟨b, o + j, none⟩ = some (g j))
   (h : ∀ (j : Nat) d, l[j]? = some d -> RelD S w d (g j)) : RelD S w (.pd l) (.pointer (some ⟨b, o, none⟩))
 |slnil (c : Bool) (n : Nat) (a : Option Addr) (cap : Nat) : RelD S w (.sl c n []) (.slice a 0 cap)
 |sl (c : Bool) (n : Nat) (l : List (List D)) (b o cap : Nat) (g : Nat -> Nat -> Value) (hS : S b)
   (hn : ∀ r ∈ l, r.length = n) (hcap : c = true -> l.length <= cap)
   (hc : ∀ (i j : Nat) r d, l[i]? = some r -> r[j]? = some d -> w.cell? ⟨b, o + i * n + j, none⟩ = some (g i j))
   (h : ∀ (i j : Nat) r d, l[i]? = some r -> r[j]? = some d -> RelD S w d (g i j)) : RelD S w (.sl c n l) (.slice (some ⟨b, o, none⟩) l.length cap)
 |mp (l : List (Value × D)) (b : Nat) (es : Array MapEntry) (clock : Nat) (hS : S b) (hb : w.heap[b]? = some (.map es clock)) (hl : es.size = l.length)
   (hk : ∀ (i : Nat) k d e, l[i]? = some (k, d) -> es[i]? = some e -> e.key = k)
   (h : ∀ (i : Nat) k d e, l[i]? = some (k, d) -> es[i]? = some e -> RelD S w d e.val) : RelD S w (.mp l) (.map (some b))
theorem Qd1 {w w' : World} {b o : Nat} (h : w'.heap[b]? = w.heap[b]?) : w'.cell? ⟨b, o, none⟩ = w.cell? ⟨b, o, none⟩ := by
 simp only [World.cell?, h]
theorem RelD.mono {S S' : Nat -> Prop} {w w' : World} {d : D} {x : Value} (h : RelD S w d x) (hS : ∀ b, S b -> S' b) (hw : ∀ b, S b -> w'.heap[b]? = w.heap[b]?) : RelD S' w' d x := by
 induction h with
 |any x => exact .any x
 |v x => exact .v x
 |agg l cs hl h ih => exact .agg l cs hl ih
 |tup l cs hl h ih => exact .tup l cs hl ih
 |pd l b o g hb hc h ih => exact .pd l b o g (hS b hb) (fun j d hj => (Qd1 (hw b hb)).trans (hc j d hj)) ih
 |slnil c n a cap => exact .slnil c n a cap
 |sl c n l b o cap g hb hn hcap hc h ih => exact .sl c n l b o cap g (hS b hb) hn hcap (fun i j r d hi hj => (Qd1 (hw b hb)).trans (hc i j r d hi hj)) ih
 |mp l b es clock hb hm hl hk h ih => exact .mp l b es clock (hS b hb) ((hw b hb).trans hm) hl hk ih
inductive AV where
 |d (x : D)
 |agg (l : List AV)
 |tup (l : List AV)
 |ptr (k g o : Nat)
 |ept (k g i j : Nat)
 |osl (k g off len : Nat)
 |rsl (k g n : Nat)
 |fn (f : Fn) (cap : List AV)
 |gh (l : List AV) (vs : List Value)
 |mp (k g : Nat)
inductive Blk where
 |none
 |row (g : Nat) (cells : List AV)
 |arr (g sz : Nat) (T : TypeId) (rows : List (List D))
 |mp (g : Nat) (l : List (Value × D))
abbrev Sg := Nat -> Option Nat
def OSl (σ : Sg) (w : World) (k sz rn off len : Nat) (v : Value) : Prop :=
 off + len <= rn /\ (
 (∃ b cap cs T, σ k = some b /\ len <= cap /\ cap <= maxLen /\ v = .slice (some ⟨b, off * sz, none⟩) len cap /\ w.heap[b]? = some (.cells cs T (0, 0)) /\ cs.size = (off + cap) * sz) ∨
 (σ k = none /\ len = 0 /\ v = .slice none 0 0))
inductive Rel (σ : Sg) (S : Nat -> Prop) (H : List Blk) (w : World) : AV -> Value -> Prop
 |d (x : D) (v : Value) (h : RelD S w x v) : Rel σ S H w (.d x) v
 |agg (l : List AV) (cs : List Value) (hl : l.length = cs.length) (h : ∀ (i : Nat) d x, l[i]? = some d -> cs[i]? = some x -> Rel σ S H w d x) : Rel σ S H w (.agg l) (.agg cs.toArray)
 |tup (l : List AV) (cs : List Value) (hl : l.length = cs.length) (h : ∀ (i : Nat) d x, l[i]? = some d -> cs[i]? = some x -> Rel σ S H w d x) : Rel σ S H w (.tup l) (.tuple cs.toArray)
 |ptr (k g o : Nat) (v : Value) (ho : v.oneCell' = true) (g' : Nat) (cells : List AV) (hk : H[k]? = some (.row g' cells)) (hg : g <= g')
   (h : g' = g -> ∃ b, σ k = some b /\ v = .pointer (some ⟨b, o, none⟩)) : Rel σ S H w (.ptr k g o) v
 |ept (k g i j : Nat) (v : Value) (ho : v.oneCell' = true) (g' sz : Nat) (T : TypeId) (rows : List (List D)) (hk : H[k]? = some (.arr g' sz T rows)) (hg : g <= g')
   (h : g' = g -> ∃ b, σ k = some b /\ v = .pointer (some ⟨b, i * sz + j, none⟩)) : Rel σ S H w (.ept k g i j) v
 |osl (k g off len : Nat) (v : Value) (ho : v.oneCell' = true) (g' sz : Nat) (T : TypeId) (rows : List (List D)) (hk : H[k]? = some (.arr g' sz T rows)) (hg : g <= g')
   (h : g' = g -> OSl σ w k sz rows.length off len v) : Rel σ S H w (.osl k g off len) v
 |rsl (k g n : Nat) (v : Value) (ho : v.oneCell' = true) (g' : Nat) (cells : List AV) (hk : H[k]? = some (.row g' cells)) (hg : g <= g')
   (h : g' = g -> ∃ b, σ k = some b /\ v = .slice (some ⟨b, 0, none⟩) n n) : Rel σ S H w (.rsl k g n) v
 |fn (f : Fn) (l : List AV) (cs : List Value) (hl : l.length = cs.length) (h : ∀ (i : Nat) d x, l[i]? = some d -> cs[i]? = some x -> Rel σ S H w d x) : Rel σ S H w (.fn f l) (.func f #[] cs.toArray)
 |gh (l : List AV) (cs : List Value) (u : Value) (hl : l.length = cs.length) (h : ∀ (i : Nat) d x, l[i]? = some d -> cs[i]? = some x -> Rel σ S H w d x) : Rel σ S H w (.gh l cs) u
 |mp (k g : Nat) (v : Value) (ho : v.oneCell' = true) (g' : Nat) (l : List (Value × D)) (hk : H[k]? = some (.mp g' l)) (hg : g <= g') (h : g' = g -> ∃ b, σ k = some b /\ v = .map (some b)) : Rel σ S H w (.mp k g) v
structure Ev (σ : Sg) (S : Nat -> Prop) (H : List Blk) (w : World) (σ' : Sg) (S' : Nat -> Prop) (H' : List Blk) (w' : World) : Prop where
 s : ∀ b, S b -> S' b
 same : ∀ b, S b -> w'.heap[b]? = w.heap[b]?
 row : ∀ k g cells, H[k]? = some (.row g cells) -> ∃ g' cells', H'[k]? = some (.row g' cells') /\ g <= g' /\ (g' = g -> ∀ b, σ k = some b -> σ' k = some b)
 arr : ∀ k g sz T rows, H[k]? = some (.arr g sz T rows) -> ∃ g' rows', H'[k]? = some (.arr g' sz T rows') /\ g <= g' /\ (g' = g -> σ' k = σ k /\ rows'.length = rows.length /\
  ∀ b cs T, σ k = some b -> w.heap[b]? = some (.cells cs T (0, 0)) -> ∃ cs', w'.heap[b]? = some (.cells cs' T (0, 0)) /\ cs'.size = cs.size)
 mp : ∀ k g l, H[k]? = some (.mp g l) -> ∃ g' l', H'[k]? = some (.mp g' l') /\ g <= g' /\ (g' = g -> ∀ b, σ k = some b -> σ' k = some b)
theorem Rel.mono {σ : Sg} {S : Nat -> Prop} {H : List Blk} {w : World} {σ' : Sg} {S' : Nat -> Prop} {H' : List Blk} {w' : World} {x : AV} {v : Value}
 (h : Rel σ S H w x v) (e : Ev σ S H w σ' S' H' w') : Rel σ' S' H' w' x v := by
 induction h with
 |d x v h => exact .d x v (h.mono e.s e.same)
 |agg l cs hl h ih => exact .agg l cs hl ih
 |tup l cs hl h ih => exact .tup l cs hl ih
 |ptr k g o v ho g' cells hk hg h =>
  obtain ⟨g2, cells2, h1, h2, h3⟩ := e.row k g' cells hk;refine .ptr k g o v ho g2 cells2 h1 (by omega) fun hg2 => ?_
  obtain ⟨b, hb, hv⟩ := h (by omega);exact ⟨b, h3 (by omega) b hb, hv⟩
 |rsl k g n v ho g' cells hk hg h =>
  obtain ⟨g2, cells2, h1, h2, h3⟩ := e.row k g' cells hk;refine .rsl k g n v ho g2 cells2 h1 (by omega) fun hg2 => ?_
  obtain ⟨b, hb, hv⟩ := h (by omega);exact ⟨b, h3 (by omega) b hb, hv⟩
 |ept k g i j v ho g' sz T rows hk hg h =>
  obtain ⟨g2, rows2, h1, h2, h3⟩ := e.arr k g' sz T rows hk;refine .ept k g i j v ho g2 sz T rows2 h1 (by omega) fun hg2 => ?_
  obtain ⟨b, hb, hv⟩ := h (by omega);exact ⟨b, (h3 (by omega)).1.trans hb, hv⟩
 |osl k g off len v ho g' sz T rows hk hg h =>
  obtain ⟨g2, rows2, h1, h2, h3⟩ := e.arr k g' sz T rows hk;refine .osl k g off len v ho g2 sz T rows2 h1 (by omega) fun hg2 => ?_
  obtain ⟨h4, h6, h5⟩ := h3 (by omega);obtain ⟨h7, h⟩ := h (by omega);refine ⟨by omega, ?_⟩;rcases h with ⟨b, cap, cs, T, hb, hl, hm, hv, hc, hs⟩ | ⟨hb, hl, hv⟩
  ·obtain ⟨cs', h8, h9⟩ := h5 b cs T hb hc
   exact .inl ⟨b, cap, cs', T, h4.trans hb, hl, hm, hv, h8, by omega⟩
  ·exact .inr ⟨h4.trans hb, hl, hv⟩
 |fn f l cs hl h ih => exact .fn f l cs hl ih
 |gh l cs u hl h ih => exact .gh l cs u hl ih
 |mp k g v ho g' l hk hg h =>
  obtain ⟨g2, l2, h1, h2, h3⟩ := e.mp k g' l hk;refine .mp k g v ho g2 l2 h1 (by omega) fun hg2 => ?_
  obtain ⟨b, hb, hv⟩ := h (by omega);exact ⟨b, h3 (by omega) b hb, hv⟩
theorem Ev.refl (σ : Sg) (S : Nat -> Prop) (H : List Blk) (w : World) : Ev σ S H w σ S H w :=
 ⟨fun _ h => h, fun _ _ => rfl, fun k g cells h => ⟨g, cells, h, Nat.le_refl _, fun _ b hb => hb⟩, fun k g sz T rows h => ⟨g, rows, h, Nat.le_refl _, fun _ => ⟨rfl, rfl, fun b cs T _ hc => ⟨cs, hc, rfl⟩⟩⟩, fun k g l h => ⟨g, l, h, Nat.le_refl _, fun _ b hb => hb⟩⟩
structure Bs where
 w0 : World
 G : Nat
 own : Nat -> Prop
 S : Nat -> Prop
def RowOk (σ : Sg) (S : Nat -> Prop) (H : List Blk) (w : World) (k : Nat) (cells : List AV) : Prop :=
 (∃ b cs T, σ k = some b /\ w.heap[b]? = some (.cells cs T (0, 0)) /\ ∀ (j : Nat) x, cells[j]? = some x -> ∃ v, cs[j]? = some v /\ Rel σ S H w x v) ∨ (σ k = none /\ cells = [])
def ArrOk (σ : Sg) (S : Nat -> Prop) (w : World) (k sz : Nat) (T : TypeId) (rows : List (List D)) : Prop :=
 (∀ r ∈ rows, r.length = sz) /\
 ((∃ b cs, σ k = some b /\ w.heap[b]? = some (.cells cs T (0, 0)) /\ ∀ (i j : Nat) r d, rows[i]? = some r -> r[j]? = some d -> ∃ v, cs[i * sz + j]? = some v /\ RelD S w d v) ∨ (σ k = none /\ rows = []))
def MpOk (σ : Sg) (S : Nat -> Prop) (w : World) (k : Nat) (l : List (Value × D)) : Prop :=
 (∃ b es clock, σ k = some b /\ w.heap[b]? = some (.map es clock) /\ (es.size = l.length /\ clock = l.length /\ ∀ (i : Nat) e, es[i]? = some e -> e.born = i) /\ ∀ (i : Nat) key d, l[i]? = some (key, d) -> ∃ e, es[i]? = some e /\ e.key = key /\ RelD S w d e.val) ∨ (σ k = none /\ l = [])
def BlkOk (σ : Sg) (S : Nat -> Prop) (H : List Blk) (w : World) (k : Nat) : Blk -> Prop
 |.none => σ k = .none
 |.row _ cells => RowOk σ S H w k cells
 |.arr _ sz T rows => ArrOk σ S w k sz T rows
 |.mp _ l => MpOk σ S w k l
structure Sm (B : Bs) (σ : Sg) (S : Nat -> Prop) (H : List Blk) (w : World) : Prop where
 os : w.os = B.w0.os
 tape : w.tape = B.w0.tape
 output : w.output = B.w0.output
 size : B.w0.heap.size <= w.heap.size
 keep : ∀ b, b < B.w0.heap.size -> ¬ B.own b -> w.heap[b]? = B.w0.heap[b]?
 sLo : ∀ b, B.S b -> S b
 sUp : ∀ b, S b -> b < w.heap.size /\ (B.S b ∨ B.own b ∨ B.w0.heap.size <= b)
 σUp : ∀ k b, k < H.length -> σ k = some b -> b < w.heap.size /\ ¬ S b /\ (B.own b ∨ B.w0.heap.size <= b)
 inj : ∀ k k' b, k < H.length -> k' < H.length -> σ k = some b -> σ k' = some b -> k = k'
 blk : ∀ k B, H[k]? = some B -> BlkOk σ S H w k B
theorem RowOk.mono {σ σ' : Sg} {S S' : Nat -> Prop} {H H' : List Blk} {w w' : World} {k : Nat} {cells : List AV} (h : RowOk σ S H w k cells) (e : Ev σ S H w σ' S' H' w') (hσ : σ' k = σ k)
 (hw : ∀ b, σ k = some b -> w'.heap[b]? = w.heap[b]?) : RowOk σ' S' H' w' k cells := by
 rcases h with ⟨b, cs, T, hb, hc, hr⟩ | ⟨hb, hc⟩
 ·refine .inl ⟨b, cs, T, hσ.trans hb, (hw b hb).trans hc, fun j x hx => ?_⟩
  obtain ⟨v, hv, hx'⟩ := hr j x hx;exact ⟨v, hv, hx'.mono e⟩
 ·exact .inr ⟨hσ.trans hb, hc⟩
theorem ArrOk.mono {σ σ' : Sg} {S S' : Nat -> Prop} {w w' : World} {k sz : Nat} {T : TypeId} {rows : List (List D)} (h : ArrOk σ S w k sz T rows) (hS : ∀ b, S b -> S' b) (hSw : ∀ b, S b -> w'.heap[b]? = w.heap[b]?) (hσ : σ' k = σ k)
 (hw : ∀ b, σ k = some b -> w'.heap[b]? = w.heap[b]?) : ArrOk σ' S' w' k sz T rows := by
 refine ⟨h.1, ?_⟩;rcases h.2 with ⟨b, cs, hb, hc, hr⟩ | ⟨hb, hc⟩
 ·refine .inl ⟨b, cs, hσ.trans hb, (hw b hb).trans hc, fun i j r x hr' hx => ?_⟩
  obtain ⟨v, hv, hx'⟩ := hr i j r x hr' hx;exact ⟨v, hv, hx'.mono hS hSw⟩
 ·exact .inr ⟨hσ.trans hb, hc⟩
theorem MpOk.mono {σ σ' : Sg} {S S' : Nat -> Prop} {w w' : World} {k : Nat} {l : List (Value × D)} (h : MpOk σ S w k l) (hS : ∀ b, S b -> S' b) (hSw : ∀ b, S b -> w'.heap[b]? = w.heap[b]?) (hσ : σ' k = σ k)
 (hw : ∀ b, σ k = some b -> w'.heap[b]? = w.heap[b]?) : MpOk σ' S' w' k l := by
 rcases h with ⟨b, es, clock, hb, hm, hl, hr⟩ | ⟨hb, hc⟩
 ·refine .inl ⟨b, es, clock, hσ.trans hb, (hw b hb).trans hm, hl, fun i key d hi => ?_⟩
  obtain ⟨e, he, hk, hd⟩ := hr i key d hi;exact ⟨e, he, hk, hd.mono hS hSw⟩
 ·exact .inr ⟨hσ.trans hb, hc⟩
theorem BlkOk.mono {σ σ' : Sg} {S S' : Nat -> Prop} {H H' : List Blk} {w w' : World} {k : Nat} {B : Blk} (h : BlkOk σ S H w k B) (e : Ev σ S H w σ' S' H' w') (hσ : σ' k = σ k)
 (hw : ∀ b, σ k = some b -> w'.heap[b]? = w.heap[b]?) : BlkOk σ' S' H' w' k B := by
 cases B with
 |none => exact hσ.trans h
 |row g cells => exact RowOk.mono h e hσ hw
 |arr g sz T rows => exact ArrOk.mono h e.s e.same hσ hw
 |mp g l => exact MpOk.mono h e.s e.same hσ hw
theorem Ev.more {σ σ' : Sg} {S : Nat -> Prop} {H H' : List Blk} {w w' : World} (hs : ∀ b, S b -> w'.heap[b]? = w.heap[b]?)
 (hH : ∀ k B, H[k]? = some B -> B ≠ .none -> H'[k]? = some B /\ σ' k = σ k /\ ∀ b, σ k = some b -> w'.heap[b]? = w.heap[b]?) : Ev σ S H w σ' S H' w' := by
 refine ⟨fun _ h => h, hs, fun k g cells h => ?_, fun k g sz T rows h => ?_, fun k g l h => ?_⟩
 ·obtain ⟨h1, h2, _⟩ := hH k _ h (by simp)
  exact ⟨g, cells, h1, Nat.le_refl _, fun _ b hb => h2.trans hb⟩
 ·obtain ⟨h1, h2, h3⟩ := hH k _ h (by simp)
  exact ⟨g, rows, h1, Nat.le_refl _, fun _ => ⟨h2, rfl, fun b cs T hb hc => ⟨cs, (h3 b hb).trans hc, rfl⟩⟩⟩
 ·obtain ⟨h1, h2, _⟩ := hH k _ h (by simp)
  exact ⟨g, l, h1, Nat.le_refl _, fun _ b hb => h2.trans hb⟩
def upS (σ : Sg) (k : Nat) (b : Option Nat) : Sg := fun j => if j = k then b else σ j
theorem Qb3 (σ : Sg) (k : Nat) (b : Option Nat) : upS σ k b k = b := by simp [upS]
theorem QbC {σ : Sg} {k j : Nat} {b : Option Nat} (h : j ≠ k) : upS σ k b j = σ j := by simp [upS, h]
theorem Sm.sameHeap {B : Bs} {σ : Sg} {S : Nat -> Prop} {H : List Blk} {w w' : World} (h : Sm B σ S H w) (hh : w'.heap = w.heap) (h1 : w'.os = w.os) (h2 : w'.tape = w.tape) (h3 : w'.output = w.output) :
 Sm B σ S H w' /\ Ev σ S H w σ S H w' := by
 have e : Ev σ S H w σ S H w' := Ev.more (fun b _ => by rw [hh]) (fun k B hB _ => ⟨hB, rfl, fun b _ => by rw [hh]⟩)
 refine ⟨⟨h1.trans h.os, h2.trans h.tape, h3.trans h.output, by rw [hh]; exact h.size, fun b hb hn => by rw [hh]; exact h.keep b hb hn, h.sLo, fun b hb => by rw [hh]; exact h.sUp b hb,
  fun k b hk hb => by rw [hh]; exact h.σUp k b hk hb, h.inj, fun k B hB => (h.blk k B hB).mono e rfl fun b _ => by rw [hh]⟩, e⟩
theorem Sm.keepPlace {B : Bs} {σ : Sg} {S : Nat -> Prop} {H : List Blk} {w : World} (h : Sm B σ S H w) :
 Sm B (upS σ H.length none) S (H ++ [.none]) w /\ Ev σ S H w (upS σ H.length none) S (H ++ [.none]) w := by
 have hlt : ∀ k B, H[k]? = some B -> k < H.length := fun k B hB => (List.getElem?_eq_some_iff.1 hB).1
 have e : Ev σ S H w (upS σ H.length none) S (H ++ [.none]) w := Ev.more (fun b _ => rfl) (fun k B hB _ =>
  ⟨by rw [List.getElem?_append_left (hlt k B hB)]; exact hB, QbC (by have := hlt k B hB; omega), fun b _ => rfl⟩)
 refine ⟨⟨h.os, h.tape, h.output, h.size, h.keep, h.sLo, h.sUp, fun k b hk hb => ?_, fun k k' b hk hk' hb hb' => ?_, fun k C hC => ?_⟩, e⟩
 ·by_cases hkl : k = H.length
  ·rw [hkl, Qb3] at hb; cases hb
  ·rw [QbC hkl] at hb; simp at hk; exact h.σUp k b (by omega) hb
 ·by_cases hkl : k = H.length
  ·rw [hkl, Qb3] at hb; cases hb
  ·by_cases hkl' : k' = H.length
   ·rw [hkl', Qb3] at hb'; cases hb'
   ·rw [QbC hkl] at hb; rw [QbC hkl'] at hb'; simp at hk hk'
    exact h.inj k k' b (by omega) (by omega) hb hb'
 ·by_cases hkl : k < H.length
  ·rw [List.getElem?_append_left hkl] at hC
   exact (h.blk k C hC).mono e (QbC (by omega)) fun b _ => rfl
  ·have hk : k = H.length := by
    have := (List.getElem?_eq_some_iff.1 hC).1;simp at this; omega
   subst hk;rw [List.getElem?_append_right (Nat.le_refl _)] at hC;simp at hC;subst hC;exact Qb3 _ _ _
def Lat : Blk -> Blk -> Prop
 |.none, _ => True
 |.row g _, .row g' _ => g < g'
 |.arr g sz T _, .arr g' sz' T' _ => g < g' /\ sz' = sz /\ T' = T
 |.mp g _, .mp g' _ => g < g'
 |_, _ => False
theorem Sm.fill {B : Bs} {σ : Sg} {S : Nat -> Prop} {H : List Blk} {w : World} {κ : Nat} {o : Obj} {C0 C : Blk} (h : Sm B σ S H w) (hκ : H[κ]? = some C0) (hL : Lat C0 C)
 (hC : Ev σ S H w (upS σ κ (some w.heap.size)) S (H.set κ C) (w.alloc o) -> BlkOk (upS σ κ (some w.heap.size)) S (H.set κ C) (w.alloc o) κ C) :
 Sm B (upS σ κ (some w.heap.size)) S (H.set κ C) (w.alloc o) /\ Ev σ S H w (upS σ κ (some w.heap.size)) S (H.set κ C) (w.alloc o) := by
 have hκl : κ < H.length := (List.getElem?_eq_some_iff.1 hκ).1;have hold : ∀ b, b < w.heap.size -> (w.alloc o).heap[b]? = w.heap[b]? := fun b hb => Below.heap_alloc w o b hb
 have hsz : (w.alloc o).heap.size = w.heap.size + 1 := World.size_alloc _ _
 have e : Ev σ S H w (upS σ κ (some w.heap.size)) S (H.set κ C) (w.alloc o) := by
  have hk : ∀ j D, H[j]? = some D -> j ≠ κ -> (H.set κ C)[j]? = some D /\ upS σ κ (some w.heap.size) j = σ j /\ ∀ b, σ j = some b -> (w.alloc o).heap[b]? = w.heap[b]? := fun j D hD hj =>
   ⟨(List.getElem?_set_ne hj.symm).trans hD, QbC hj, fun b hb => hold b (h.σUp j b (List.getElem?_eq_some_iff.1 hD).1 hb).1⟩
  refine ⟨fun _ h => h, fun b hb => hold b (h.sUp b hb).1, fun k g cells hD => ?_, fun k g sz T rows hD => ?_, fun k g l hD => ?_⟩
  ·by_cases hj : k = κ
   ·subst hj; rw [hκ] at hD; obtain rfl := Option.some.inj hD
    cases C with
    |row g' cells' => exact ⟨g', cells', List.getElem?_set_self hκl, Nat.le_of_lt hL, fun e => absurd hL (by rw [e]; exact Nat.lt_irrefl _)⟩
    |_ => exact hL.elim
   ·obtain ⟨h1, h2, h3⟩ := hk k _ hD hj
    exact ⟨g, cells, h1, Nat.le_refl _, fun _ b hb => h2.trans hb⟩
  ·by_cases hj : k = κ
   ·subst hj; rw [hκ] at hD; obtain rfl := Option.some.inj hD
    cases C with
    |arr g' sz' T' rows' =>
     obtain ⟨h1, rfl, rfl⟩ := hL;exact ⟨g', rows', List.getElem?_set_self hκl, Nat.le_of_lt h1, fun e => absurd h1 (by rw [e]; exact Nat.lt_irrefl _)⟩
    |_ => exact hL.elim
   ·obtain ⟨h1, h2, h3⟩ := hk k _ hD hj
    exact ⟨g, rows, h1, Nat.le_refl _, fun _ => ⟨h2, rfl, fun b cs T hb hc => ⟨cs, (h3 b hb).trans hc, rfl⟩⟩⟩
  ·by_cases hj : k = κ
   ·subst hj; rw [hκ] at hD; obtain rfl := Option.some.inj hD
    cases C with
    |mp g' l' => exact ⟨g', l', List.getElem?_set_self hκl, Nat.le_of_lt hL, fun e => absurd hL (by rw [e]; exact Nat.lt_irrefl _)⟩
    |_ => exact hL.elim
   ·obtain ⟨h1, h2, h3⟩ := hk k _ hD hj
    exact ⟨g, l, h1, Nat.le_refl _, fun _ b hb => h2.trans hb⟩
 refine ⟨⟨h.os, h.tape, h.output, by rw [hsz]; have := h.size; omega, fun b hb hn => (hold b (by have := h.size; omega)).trans (h.keep b hb hn), h.sLo,
  fun b hb => ⟨by rw [hsz]; have := (h.sUp b hb).1; omega, (h.sUp b hb).2⟩, fun k b hk hb => ?_, fun k k' b hk hk' hb hb' => ?_, fun k D hD => ?_⟩, e⟩
 ·rw [List.length_set] at hk
  by_cases hkκ : k = κ
  ·rw [hkκ, Qb3] at hb
   have hb' := Option.some.inj hb;subst hb';exact ⟨by omega, fun hS => by have := (h.sUp _ hS).1; omega, .inr h.size⟩
  ·rw [QbC hkκ] at hb
   obtain ⟨h1, h2, h3⟩ := h.σUp k b hk hb;exact ⟨by omega, h2, h3⟩
 ·rw [List.length_set] at hk hk'
  by_cases hkκ : k = κ
  ·by_cases hkκ' : k' = κ
   ·rw [hkκ, hkκ']
   ·rw [hkκ, Qb3] at hb; rw [QbC hkκ'] at hb'
    have := (h.σUp k' b hk' hb').1;have := Option.some.inj hb;omega
  ·by_cases hkκ' : k' = κ
   ·rw [hkκ', Qb3] at hb'; rw [QbC hkκ] at hb
    have := (h.σUp k b hk hb).1;have := Option.some.inj hb';omega
   ·rw [QbC hkκ] at hb; rw [QbC hkκ'] at hb'
    exact h.inj k k' b hk hk' hb hb'
 ·by_cases hkκ : k = κ
  ·subst hkκ
   rw [List.getElem?_set_self hκl] at hD;have := Option.some.inj hD;subst this;exact hC e
  ·rw [List.getElem?_set_ne (fun e => hkκ e.symm)] at hD
   have hkl : k < H.length := (List.getElem?_eq_some_iff.1 hD).1;exact (h.blk k D hD).mono e (QbC hkκ) fun b hb => hold b (h.σUp k b hkl hb).1
theorem Qck (w : World) (o : Obj) : (w.alloc o).heap[w.heap.size]? = some o := heap_alloc_new w o
theorem Sm.fillRow {B : Bs} {σ : Sg} {S : Nat -> Prop} {H : List Blk} {w : World} {κ : Nat} {cs : Array Value} {T : TypeId} {cells : List AV} (h : Sm B σ S H w) (hκ : H[κ]? = some .none)
 (hr : ∀ (j : Nat) x, cells[j]? = some x -> ∃ v, cs[j]? = some v /\ Rel σ S H w x v) :
 Sm B (upS σ κ (some w.heap.size)) S (H.set κ (.row 0 cells)) (w.alloc (.cells cs T)) /\ Ev σ S H w (upS σ κ (some w.heap.size)) S (H.set κ (.row 0 cells)) (w.alloc (.cells cs T)) :=
 h.fill hκ trivial fun e => .inl ⟨_, cs, T, Qb3 _ _ _, Qck _ _, fun j x hx => let ⟨v, h1, h2⟩ := hr j x hx; ⟨v, h1, h2.mono e⟩⟩
theorem Sm.fillArr {B : Bs} {σ : Sg} {S : Nat -> Prop} {H : List Blk} {w : World} {κ g sz : Nat} {cs : Array Value} {T : TypeId} {rows : List (List D)} (h : Sm B σ S H w) (hκ : H[κ]? = some .none)
 (hsz : ∀ r ∈ rows, r.length = sz) (hr : ∀ (i j : Nat) r d, rows[i]? = some r -> r[j]? = some d -> ∃ v, cs[i * sz + j]? = some v /\ RelD S w d v) :
 Sm B (upS σ κ (some w.heap.size)) S (H.set κ (.arr g sz T rows)) (w.alloc (.cells cs T)) /\ Ev σ S H w (upS σ κ (some w.heap.size)) S (H.set κ (.arr g sz T rows)) (w.alloc (.cells cs T)) :=
 h.fill hκ trivial fun e => ⟨hsz, .inl ⟨_, cs, Qb3 _ _ _, Qck _ _, fun i j r x hr' hx => let ⟨v, h1, h2⟩ := hr i j r x hr' hx; ⟨v, h1, h2.mono e.s e.same⟩⟩⟩
def Kin : Blk -> Blk -> Prop
 |.row g _, .row g' _ => g <= g'
 |.arr g sz T rows, .arr g' sz' T' rows' => g <= g' /\ sz' = sz /\ T' = T /\ (g' = g -> rows'.length = rows.length)
 |.mp g _, .mp g' _ => g <= g'
 |_, _ => False
theorem Ev.turn {σ : Sg} {S : Nat -> Prop} {H : List Blk} {w w' : World} {k b : Nat} {C C' : Blk} (hb : σ k = some b) (hnS : ¬ S b) (hinj : ∀ k' b', H[k']? ≠ none -> σ k' = some b' -> k' ≠ k -> b' ≠ b)
 (hC : H[k]? = some C) (hK : Kin C C')
 (hw : ∀ j, j ≠ b -> w'.heap[j]? = w.heap[j]?) (hcells : ∀ cs T, w.heap[b]? = some (.cells cs T (0, 0)) -> ∃ cs', w'.heap[b]? = some (.cells cs' T (0, 0)) /\ cs'.size = cs.size) :
 Ev σ S H w σ S (H.set k C') w' := by
 have hkl : k < H.length := (List.getElem?_eq_some_iff.1 hC).1;refine ⟨fun _ h => h, fun b' hb' => hw b' fun e => hnS (e ▸ hb'), fun j g cells h => ?_, fun j g sz T rows h => ?_, fun j g l h => ?_⟩
 ·by_cases hj : j = k
  ·subst hj
   rw [hC] at h;obtain rfl := Option.some.inj h;cases C' with
   |row g' cells' => exact ⟨g', cells', List.getElem?_set_self hkl, hK, fun _ b hb => hb⟩
   |_ => exact hK.elim
  ·exact ⟨g, cells, (List.getElem?_set_ne (fun e => hj e.symm)).trans h, Nat.le_refl _, fun _ b hb => hb⟩
 ·by_cases hj : j = k
  ·subst hj
   rw [hC] at h;obtain rfl := Option.some.inj h;cases C' with
   |arr g' sz' T' rows' =>
    obtain ⟨h1, rfl, rfl, h4⟩ := hK;refine ⟨g', rows', List.getElem?_set_self hkl, h1, fun hg => ⟨rfl, h4 hg, fun b' cs T hb' hc => ?_⟩⟩;rw [hb] at hb';obtain rfl := Option.some.inj hb';exact hcells cs T hc
   |_ => exact hK.elim
  ·exact ⟨g, rows, (List.getElem?_set_ne (fun e => hj e.symm)).trans h, Nat.le_refl _, fun _ => ⟨rfl, rfl, fun b' cs T hb' hc => ⟨cs, (hw b' (hinj j b' (by rw [h]; simp) hb' hj)).trans hc, rfl⟩⟩⟩
 ·by_cases hj : j = k
  ·subst hj
   rw [hC] at h;obtain rfl := Option.some.inj h;cases C' with
   |mp g' l' => exact ⟨g', l', List.getElem?_set_self hkl, hK, fun _ b hb => hb⟩
   |_ => exact hK.elim
  ·exact ⟨g, l, (List.getElem?_set_ne (fun e => hj e.symm)).trans h, Nat.le_refl _, fun _ b hb => hb⟩
theorem Sm.turn {B : Bs} {σ : Sg} {S : Nat -> Prop} {H : List Blk} {w w' : World} {k b : Nat} {C C' : Blk} (h : Sm B σ S H w) (hb : σ k = some b)
 (hC : H[k]? = some C) (hK : Kin C C') (h1 : w'.os = w.os) (h2 : w'.tape = w.tape) (h3 : w'.output = w.output) (hsz : w'.heap.size = w.heap.size)
 (hw : ∀ j, j ≠ b -> w'.heap[j]? = w.heap[j]?) (hcells : ∀ cs T, w.heap[b]? = some (.cells cs T (0, 0)) -> ∃ cs', w'.heap[b]? = some (.cells cs' T (0, 0)) /\ cs'.size = cs.size)
 (hC' : Ev σ S H w σ S (H.set k C') w' -> BlkOk σ S (H.set k C') w' k C') :
 Sm B σ S (H.set k C') w' /\ Ev σ S H w σ S (H.set k C') w' := by
 have hkl : k < H.length := (List.getElem?_eq_some_iff.1 hC).1;obtain ⟨hb1, hb2, hb3⟩ := h.σUp k b hkl hb
 have hinj : ∀ k' b', H[k']? ≠ none -> σ k' = some b' -> k' ≠ k -> b' ≠ b := fun k' b' hk' hb' hne e => by
  subst e
  have hkl' : k' < H.length := by
   rcases Nat.lt_or_ge k' H.length with h | h
   ·exact h
   ·exact absurd (List.getElem?_eq_none h) hk'
  exact hne (h.inj k' k b' hkl' hkl hb' hb)
 have e := Ev.turn hb hb2 hinj hC hK hw hcells
 refine ⟨⟨h1.trans h.os, h2.trans h.tape, h3.trans h.output, by rw [hsz]; exact h.size, fun j hj hn => ?_, h.sLo, fun j hj => by rw [hsz]; exact h.sUp j hj,
  fun k' b' hk' hb' => by rw [hsz]; rw [List.length_set] at hk'; exact h.σUp k' b' hk' hb', fun k' k'' b' hk' hk'' => by rw [List.length_set] at hk' hk''; exact h.inj k' k'' b' hk' hk'', fun j D hD => ?_⟩, e⟩
 ·refine (hw j fun e => ?_).trans (h.keep j hj hn)
  subst e;rcases hb3 with h | h
  ·exact hn h
  ·omega
 ·by_cases hj : j = k
  ·subst hj
   rw [List.getElem?_set_self hkl] at hD;have := Option.some.inj hD;subst this;exact hC' e
  ·rw [List.getElem?_set_ne (fun e => hj e.symm)] at hD
   exact (h.blk j D hD).mono e rfl fun b' hb' => hw b' (hinj j b' (by rw [hD]; simp) hb' hj)
theorem Sm.setRow {B : Bs} {σ : Sg} {S : Nat -> Prop} {H : List Blk} {w : World} {k g o b : Nat} {cells : List AV} {x : AV} {v : Value} (h : Sm B σ S H w) (hb : σ k = some b)
 (hC : H[k]? = some (.row g cells)) (hx : Rel σ S H w x v) (ho : o < cells.length) :
 Sm B σ S (H.set k (.row g (cells.set o x))) (w.setCell ⟨b, o, none⟩ v) /\ Ev σ S H w σ S (H.set k (.row g (cells.set o x))) (w.setCell ⟨b, o, none⟩ v) := by
 have hbk := h.blk k _ hC;rcases hbk with ⟨b', cs, T, hb', hc, hr⟩ | ⟨hb', _⟩;rotate_left
 ·rw [hb] at hb'; cases hb'
 rw [hb] at hb';have := Option.some.inj hb';subst this
 refine h.turn (C' := .row g (cells.set o x)) hb hC (Nat.le_refl _) rfl rfl rfl (by simp [World.setCell]) (fun j hj => heap_setCell_other w _ j v hj)
  (fun cs' T' hc' => ?_) (fun e => .inl ⟨b, cs.setIfInBounds o v, T, hb, heap_setCell_same w b o cs T v hc, fun j y hy => ?_⟩)
 ·rw [hc] at hc'
  have h1 := Option.some.inj hc';injection h1 with h2 h3;subst h2; subst h3;exact ⟨_, heap_setCell_same w b o cs T v hc, by simp⟩
 ·obtain ⟨u, hu, _⟩ := hr o _ (List.getElem?_eq_getElem ho)
  have hos : o < cs.size := (Array.getElem?_eq_some_iff.1 hu).1
  by_cases hj : j = o
  ·subst hj
   rw [List.getElem?_set_self ho] at hy;have := Option.some.inj hy;subst this;exact ⟨v, by rw [Array.getElem?_setIfInBounds_self_of_lt hos], hx.mono e⟩
  ·rw [List.getElem?_set_ne (fun e => hj e.symm)] at hy
   obtain ⟨u', hu', hr'⟩ := hr j y hy;exact ⟨u', by rw [Array.getElem?_setIfInBounds_ne (fun e => hj e.symm)]; exact hu', hr'.mono e⟩
theorem Qih {i i' n j j' : Nat} (hj : j < n) (hj' : j' < n) (h : i * n + j = i' * n + j') : i = i' /\ j = j' := by
 have h1 : (i * n + j) / n = i := by rw [Nat.mul_comm, Nat.mul_add_div (by omega), Nat.div_eq_of_lt hj]; omega
 have h2 : (i' * n + j') / n = i' := by rw [Nat.mul_comm, Nat.mul_add_div (by omega), Nat.div_eq_of_lt hj']; omega
 have : i = i' := by rw [<- h1, <- h2, h]
 subst this;exact ⟨rfl, by omega⟩
theorem Sm.setArr {B : Bs} {σ : Sg} {S : Nat -> Prop} {H : List Blk} {w : World} {k g sz i j b : Nat} {T : TypeId} {rows : List (List D)} {r : List D} {x : D} {v : Value} (h : Sm B σ S H w) (hb : σ k = some b)
 (hC : H[k]? = some (.arr g sz T rows)) (hr : rows[i]? = some r) (hj : j < r.length) (hx : RelD S w x v) :
 Sm B σ S (H.set k (.arr g sz T (rows.set i (r.set j x)))) (w.setCell ⟨b, i * sz + j, none⟩ v) /\ Ev σ S H w σ S (H.set k (.arr g sz T (rows.set i (r.set j x)))) (w.setCell ⟨b, i * sz + j, none⟩ v) := by
 obtain ⟨hlen, hbk⟩ := h.blk k _ hC;have hil : i < rows.length := (List.getElem?_eq_some_iff.1 hr).1;have hrs : r.length = sz := hlen r (List.mem_of_getElem? hr);rcases hbk with ⟨b', cs, hb', hc, hrel⟩ | ⟨hb', _⟩;rotate_left
 ·rw [hb] at hb'; cases hb'
 rw [hb] at hb';have := Option.some.inj hb';subst this
 refine h.turn (C' := .arr g sz T (rows.set i (r.set j x))) hb hC ⟨Nat.le_refl _, rfl, rfl, fun _ => List.length_set ..⟩ rfl rfl rfl (by simp [World.setCell]) (fun j hj => heap_setCell_other w _ j v hj)
  (fun cs' T' hc' => ?_) (fun e => ⟨fun r' hr' => ?_, .inl ⟨b, cs.setIfInBounds (i * sz + j) v, hb, heap_setCell_same w b _ cs T v hc, fun i' j' r' y hr' hy => ?_⟩⟩)
 ·rw [hc] at hc'
  have h1 := Option.some.inj hc';injection h1 with h2 h3;subst h2; subst h3;exact ⟨_, heap_setCell_same w b _ cs T v hc, by simp⟩
 ·rcases List.mem_or_eq_of_mem_set hr' with h | h
  ·exact hlen r' h
  ·rw [h, List.length_set]; exact hrs
 ·obtain ⟨u, hu, _⟩ := hrel i j r _ hr (List.getElem?_eq_getElem hj)
  have hos : i * sz + j < cs.size := (Array.getElem?_eq_some_iff.1 hu).1
  by_cases hii : i' = i
  ·subst hii
   rw [List.getElem?_set_self hil] at hr';have := Option.some.inj hr';subst this
   by_cases hjj : j' = j
   ·subst hjj
    rw [List.getElem?_set_self hj] at hy;have := Option.some.inj hy;subst this;exact ⟨v, by rw [Array.getElem?_setIfInBounds_self_of_lt hos], hx.mono e.s e.same⟩
   ·rw [List.getElem?_set_ne (fun e => hjj e.symm)] at hy
    obtain ⟨u', hu', hr''⟩ := hrel i' j' r y hr hy;exact ⟨u', by rw [Array.getElem?_setIfInBounds_ne (by omega)]; exact hu', hr''.mono e.s e.same⟩
  ·rw [List.getElem?_set_ne (fun e => hii e.symm)] at hr'
   obtain ⟨u', hu', hr''⟩ := hrel i' j' r' y hr' hy;have hj' : j' < r'.length := (List.getElem?_eq_some_iff.1 hy).1;have hrs' : r'.length = sz := hlen r' (List.mem_of_getElem? hr');exact ⟨u', by rw [Array.getElem?_setIfInBounds_ne fun e => hii (Qih (by omega) (by omega) e).1.symm]; exact hu', hr''.mono e.s e.same⟩
def D.cell : D -> Bool
 |.v x => x.oneCell'
 |.pd _ | .sl _ _ _ | .mp _ => true
 |_ => false
theorem D.cell_one {S : Nat -> Prop} {w : World} {d : D} {x : Value} (h : RelD S w d x) (hc : d.cell = true) : x.oneCell' = true := by
 cases h <;> simp_all [D.cell, Value.oneCell']
def Flat (sz : Nat) (rows : List (List D)) (R : D -> Value -> Prop) (xs : List Value) : Prop :=
 xs.length = rows.length * sz /\ (∀ r ∈ rows, r.length = sz) /\ ∀ (i j : Nat) r d, rows[i]? = some r -> r[j]? = some d -> ∃ u, xs[i * sz + j]? = some u /\ R d u
theorem Flat.append {sz : Nat} {r1 r2 : List (List D)} {R : D -> Value -> Prop} {x1 x2 : List Value} (h1 : Flat sz r1 R x1) (h2 : Flat sz r2 R x2) : Flat sz (r1 ++ r2) R (x1 ++ x2) := by
 refine ⟨by rw [List.length_append, List.length_append, h1.1, h2.1, Nat.add_mul], fun r hr => ?_, fun i j r d hi hj => ?_⟩
 ·rcases List.mem_append.1 hr with h | h
  ·exact h1.2.1 r h
  ·exact h2.2.1 r h
 ·by_cases hi' : i < r1.length
  ·rw [List.getElem?_append_left hi'] at hi
   obtain ⟨u, hu, hr⟩ := h1.2.2 i j r d hi hj;exact ⟨u, by rw [List.getElem?_append_left (List.getElem?_eq_some_iff.1 hu).1]; exact hu, hr⟩
  ·rw [List.getElem?_append_right (by omega)] at hi
   obtain ⟨u, hu, hr⟩ := h2.2.2 (i - r1.length) j r d hi hj
   have he : i * sz + j - x1.length = (i - r1.length) * sz + j := by
    have h3 : i * sz = r1.length * sz + (i - r1.length) * sz := by rw [<- Nat.add_mul]; congr 1; omega
    rw [h1.1]; omega
   exact ⟨u, by rw [List.getElem?_append_right (by have := Nat.mul_le_mul_right sz (show r1.length <= i by omega); rw [h1.1]; omega), he]; exact hu, hr⟩
theorem Flat.of_cells {sz n : Nat} {rows : List (List D)} {R : D -> Value -> Prop} {cs : Array Value} (hlen : ∀ r ∈ rows, r.length = sz) (hn : rows.length * sz <= cs.size)
 (h : ∀ (i j : Nat) r d, rows[i]? = some r -> r[j]? = some d -> ∃ v, cs[i * sz + j]? = some v /\ R d v) (hnl : n = rows.length) : Flat sz rows R (cs.toList.take (n * sz)) := by
 subst hnl;refine ⟨by simp; omega, hlen, fun i j r d hi hj => ?_⟩;obtain ⟨v, hv, hr⟩ := h i j r d hi hj;have hil : i < rows.length := (List.getElem?_eq_some_iff.1 hi).1;have hjl : j < sz := by have := (List.getElem?_eq_some_iff.1 hj).1; rw [hlen r (List.mem_of_getElem? hi)] at this; exact this
 have hlt : i * sz + j < rows.length * sz := by
  have h2 : (i + 1) * sz <= rows.length * sz := Nat.mul_le_mul_right sz (by omega);rw [Nat.add_mul] at h2; omega
 exact ⟨v, by rw [List.getElem?_take, if_pos hlt]; simpa using hv, hr⟩
theorem Sm.append {B : Bs} {σ : Sg} {S : Nat -> Prop} {H : List Blk} {w : World} {k g sz : Nat} {T : TypeId} {rows newrows : List (List D)} {v : Value} {P : Program} {t ty : TypeId} {i : TypeInfo} {z : Value}
 (h : Sm B σ S H w) (hC : H[k]? = some (.arr g sz T rows)) (hv : OSl σ w k sz rows.length 0 rows.length v) (hsz : 0 < sz)
 (ht : P.underlying t = some (.slice T)) (hi : P.info? T = some i) (hz : i.zero = some z) (hsize : i.size = sz) (hzs : z.cells.size = sz)
 {a : Addr} {c : Nat} {news : List Value} (hnews : ∀ j u, news[j]? = some u -> w.cell? (a.add j) = some u) (h1 : ∀ u ∈ news, u.oneCell' = true)
 (hfl : Flat sz newrows (RelD S w) news) (hbytes : (rows.length + newrows.length) * i.bytes <= 140737488355328) (hmax : rows.length + newrows.length <= 140737488355328) :
 ∃ v' w' σ', (Builtin.append_ #[t, t] ty #[v, .slice (some a) newrows.length c]).run P w = .ok v' w' /\ Sm B σ' S (H.set k (.arr (g + 1) sz T (rows ++ newrows))) w' /\
   Ev σ S H w σ' S (H.set k (.arr (g + 1) sz T (rows ++ newrows))) w' /\ OSl σ' w' k sz (rows.length + newrows.length) 0 (rows.length + newrows.length) v' := by
 subst hsize;have hkl : k < H.length := (List.getElem?_eq_some_iff.1 hC).1;obtain ⟨hlen, hbk⟩ := h.blk k _ hC
 have grown : ∀ (xs : List Value) (old : Nat), Flat i.size rows (RelD S w) xs -> old < rows.length + newrows.length -> ∃ σ',
  Sm B σ' S (H.set k (.arr (g + 1) i.size T (rows ++ newrows))) (w.drew.alloc (.cells (xs.toArray ++ news.toArray ++ Builtin.zeroCells z.cells (grownCap w (rows.length + newrows.length) old T - (rows.length + newrows.length))) T)) /\
  Ev σ S H w σ' S (H.set k (.arr (g + 1) i.size T (rows ++ newrows))) (w.drew.alloc (.cells (xs.toArray ++ news.toArray ++ Builtin.zeroCells z.cells (grownCap w (rows.length + newrows.length) old T - (rows.length + newrows.length))) T)) /\
  OSl σ' (w.drew.alloc (.cells (xs.toArray ++ news.toArray ++ Builtin.zeroCells z.cells (grownCap w (rows.length + newrows.length) old T - (rows.length + newrows.length))) T)) k i.size (rows.length + newrows.length) 0 (rows.length + newrows.length)
   (.slice (some ⟨w.heap.size, 0, none⟩) (rows.length + newrows.length) (grownCap w (rows.length + newrows.length) old T)) := by
  intro xs old hxs hold;have hge := grownCap_ge w (rows.length + newrows.length) old T;have hcm : grownCap w (rows.length + newrows.length) old T <= maxLen := grownCap_le_maxLen w (rows.length + newrows.length) old T (by unfold maxLen; omega);generalize grownCap w (rows.length + newrows.length) old T = cap at *
  obtain ⟨hd, hed⟩ := h.sameHeap (w' := w.drew) rfl rfl rfl rfl;have hall := (hxs.append hfl)
  have hcs : (xs.toArray ++ news.toArray ++ Builtin.zeroCells z.cells (cap - (rows.length + newrows.length))).size = cap * i.size := by
   rw [Array.size_append, Array.size_append, size_zeroCells, hzs];simp only [List.size_toArray];have := hall.1;rw [List.length_append, List.length_append] at this;rw [this, <- Nat.add_mul]; congr 1; omega
  have hget : ∀ (j : Nat) u, (xs ++ news)[j]? = some u -> (xs.toArray ++ news.toArray ++ Builtin.zeroCells z.cells (cap - (rows.length + newrows.length)))[j]? = some u := by
   intro j u hu;have hjl : j < (xs ++ news).length := (List.getElem?_eq_some_iff.1 hu).1;rw [List.length_append] at hjl;rw [Array.getElem?_append_left (by simpa using hjl)];simpa using hu
  generalize xs.toArray ++ news.toArray ++ Builtin.zeroCells z.cells (cap - (rows.length + newrows.length)) = cs at *
  have hf := hd.fill (κ := k) (o := .cells cs T) (C := .arr (g + 1) i.size T (rows ++ newrows)) hC ⟨by omega, rfl, rfl⟩ (fun e => ⟨hall.2.1, .inl ⟨w.heap.size, cs, Qb3 _ _ _, Qck w.drew _, fun a b r d ha hb => ?_⟩⟩)
  ·refine ⟨_, hf.1, ?_, by omega, .inl ⟨w.heap.size, cap, cs, T, Qb3 _ _ _, hge, hcm, by simp, Qck w.drew _, by simpa using hcs⟩⟩
   exact ⟨hf.2.s, hf.2.same, hf.2.row, hf.2.arr, hf.2.mp⟩
  ·obtain ⟨u, hu, hr⟩ := hall.2.2 a b r d ha hb
   exact ⟨u, hget _ _ hu, hr.mono (fun _ h => h) e.same⟩
 rcases hv.2 with ⟨b, cap, cs, T', hb, hl, hcm, rfl, hc, hs⟩ | ⟨hb, hl, rfl⟩
 ·rcases hbk with ⟨b', cs', hb', hc', hrel⟩ | ⟨hb', _⟩
  rotate_left
  ·rw [hb] at hb'; cases hb'
  rw [hb] at hb'; obtain rfl := Option.some.inj hb';rw [hc] at hc';obtain ⟨rfl, rfl⟩ : cs = cs' /\ T' = T := by injection (Option.some.inj hc') with h1 h2; exact ⟨h1, h2⟩
  simp only [Nat.zero_add, Nat.zero_mul] at hs ⊢;have hle : rows.length * i.size <= cs.size := by rw [hs]; exact Nat.mul_le_mul_right _ hl
  have hxs := Flat.of_cells (n := rows.length) hlen hle hrel rfl
  by_cases hroom : rows.length + newrows.length <= cap
  ·have hfit : rows.length * i.size + news.length <= cs.size := by rw [hfl.1, hs, <- Nat.add_mul]; exact Nat.mul_le_mul_right _ hroom
   have hr := run_append_room (P := P) w t ty T' i ht hi b rows.length cap cs hc a newrows.length c news hfl.1 hnews h1 hroom hfit
   have hsz' : (cs.toList.take (rows.length * i.size) ++ news ++ cs.toList.drop (rows.length * i.size + news.length)).toArray.size = cs.size := by
    simp only [List.size_toArray, List.length_append, List.length_take, List.length_drop, Array.length_toList]; omega
   have hall := hxs.append hfl
   have hget : ∀ (j : Nat) u, (cs.toList.take (rows.length * i.size) ++ news)[j]? = some u -> (cs.toList.take (rows.length * i.size) ++ news ++ cs.toList.drop (rows.length * i.size + news.length)).toArray[j]? = some u := by
    intro j u hu;rw [List.getElem?_toArray, List.getElem?_append_left (List.getElem?_eq_some_iff.1 hu).1]; exact hu
   generalize (cs.toList.take (rows.length * i.size) ++ news ++ cs.toList.drop (rows.length * i.size + news.length)).toArray = cs2 at *
   have ht := h.turn (w' := w.setRow b cs2) (C' := .arr (g + 1) i.size T' (rows ++ newrows)) hb hC ⟨by omega, rfl, rfl, fun e => by omega⟩ rfl rfl rfl (size_setRow _ _ _) (fun j hj => setRow_other w b j _ hj)
    (fun cs0 T0 h0 => by
      rw [hc] at h0;obtain ⟨rfl, rfl⟩ : cs = cs0 /\ T' = T0 := by injection (Option.some.inj h0) with h1 h2; exact ⟨h1, h2⟩
      exact ⟨_, setRow_heap w b cs _ T' _ hc, hsz'⟩)
    (fun e => ⟨hall.2.1, .inl ⟨b, cs2, hb, setRow_heap w b cs _ T' _ hc, fun a b r d ha hb => ?_⟩⟩)
   ·exact ⟨_, _, σ, hr, ht.1, ht.2, by omega, .inl ⟨b, cap, cs2, T', hb, hroom, hcm, by simp, setRow_heap w b cs _ T' _ hc, by simpa [hsz'] using hs⟩⟩
   ·obtain ⟨u, hu, hr⟩ := hall.2.2 a b r d ha hb
    exact ⟨u, hget _ _ hu, hr.mono (fun _ h => h) e.same⟩
  ·have holds : ∀ j u, (cs.toList.take (rows.length * i.size))[j]? = some u -> w.cell? ((⟨b, 0, none⟩ : Addr).add j) = some u := by
    intro j u hu;have hadd : (⟨b, 0, none⟩ : Addr).add j = ⟨b, j, none⟩ := by unfold Addr.add; split <;> simp_all
    rw [hadd, cell_of_row w b j cs T' (0, 0) hc];rw [List.getElem?_take] at hu;split at hu
    ·simpa using hu
    ·cases hu
   have hr := run_append_grow (P := P) w t ty T' i z ht hi hz ⟨b, 0, none⟩ rows.length cap _ hxs.1 holds a newrows.length c news hfl.1 hnews (by omega) (by omega) (growslice_fits (by omega) hbytes);obtain ⟨σ', h2, h3, h4⟩ := grown _ cap hxs (by omega);exact ⟨_, _, σ', hr, h2, h3, h4⟩
 ·have hrows : rows = [] := List.eq_nil_of_length_eq_zero hl
  subst hrows
  by_cases hm : newrows = []
  ·subst hm
   have hn : news = [] := List.eq_nil_of_length_eq_zero (by simpa using hfl.1);subst hn
   have e : Ev σ S H w σ S (H.set k (.arr (g + 1) i.size T ([] ++ []))) w := by
    refine ⟨fun _ h => h, fun _ _ => rfl, fun j g' cells hD => ?_, fun j g' sz' T' rows' hD => ?_, fun j g' l hD => ?_⟩
    ·have hj : j ≠ k := fun e => by subst e; rw [hC] at hD; simp at hD
     exact ⟨g', cells, (List.getElem?_set_ne hj.symm).trans hD, Nat.le_refl _, fun _ b hb => hb⟩
    ·by_cases hj : j = k
     ·subst hj; rw [hC] at hD; injection (Option.some.inj hD) with e1 e2 e3 e4
      subst e1; subst e2; subst e3;exact ⟨g + 1, [], List.getElem?_set_self hkl, by omega, fun e => by omega⟩
     ·exact ⟨g', rows', (List.getElem?_set_ne (fun e => hj e.symm)).trans hD, Nat.le_refl _, fun _ => ⟨rfl, rfl, fun b cs T _ hc => ⟨cs, hc, rfl⟩⟩⟩
    ·have hj : j ≠ k := fun e => by subst e; rw [hC] at hD; simp at hD
     exact ⟨g', l, (List.getElem?_set_ne hj.symm).trans hD, Nat.le_refl _, fun _ b hb => hb⟩
   refine ⟨.slice none 0 0, w, σ, ?_, ⟨h.os, h.tape, h.output, h.size, h.keep, h.sLo, h.sUp, fun k' b hk => h.σUp k' b (by simpa using hk), fun k1 k2 b h1 h2 => h.inj k1 k2 b (by simpa using h1) (by simpa using h2), fun j D hD => ?_⟩, e, by simp, .inr ⟨hb, by simp, rfl⟩⟩
   ·simp [Builtin.append_, run_underlying ht, sizeOf, typeInfo, hi, Builtin.lenOf, Builtin.firstCells, loadCells, loadCellsFrom]
   ·by_cases hj : j = k
    ·subst hj
     rw [List.getElem?_set_self hkl] at hD;obtain rfl := Option.some.inj hD;exact ⟨fun r hr => by simp at hr, .inr ⟨hb, rfl⟩⟩
    ·rw [List.getElem?_set_ne (fun e => hj e.symm)] at hD
     exact (h.blk j D hD).mono e rfl fun b _ => rfl
  ·have hpos : 0 < newrows.length := List.length_pos_iff.2 hm
   simp only [List.length_nil, Nat.zero_add, List.nil_append] at *
   have hr := run_append_nil (P := P) w t ty T i z ht hi hz a newrows.length c news hfl.1 hnews hpos (by omega) (by omega);obtain ⟨σ', h2, h3, h4⟩ := grown [] 0 ⟨by simp, fun r hr => by simp at hr, fun i j r d hi => by simp at hi⟩ hpos;simp only [List.nil_append, Array.empty_append] at h2 h3 h4;exact ⟨_, _, σ', hr, h2, h3, h4⟩
end Aw
end Go.Proofs.YtdjkdcokjoiokaaGreatDoor

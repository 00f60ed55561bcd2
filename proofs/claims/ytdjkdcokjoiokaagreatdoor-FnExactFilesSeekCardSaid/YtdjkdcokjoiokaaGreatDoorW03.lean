/- Part 3 of seek_card: contracts, walks, laws; no condition beyond the statement's. -/
import Derived.Below
import Derived.Laws.OwnMore
import Derived.Deep.Draws
import Derived.Laws.Rows
import Derived.Laws.Concat
import Derived.IntWalk
import Derived.Test.YtdjkdcokjoiokaaGreatDoorProg
import Derived.Lib.LaidTab
import Derived.Lib.ItoaNum
import Derived.WalkKit
import Derived.WalkSpells
import Derived.WalkLawsBesides
import Derived.Lib.AtoiAll
import Derived.Lib.IndexMore
import Derived.Lib.IndexLaws
import Derived.Lib.IndexBytes
import Derived.Lib.CountLaws
import Derived.Lib.Split
import Derived.Lib.Join
set_option linter.all false
namespace Go.Proofs.YtdjkdcokjoiokaaGreatDoor
section
open Go.RowKit
namespace Pm
def vstr (s : List UInt8) : Value := .string ⟨s.toArray⟩
theorem Qes (a b : List UInt8) : ((⟨a.toArray⟩ : ByteArray) ++ (⟨b.toArray⟩ : ByteArray)) = ⟨(a ++ b).toArray⟩ := by
 apply ByteArray.ext;show (_ : ByteArray).data = _;rw [ByteArray.data_append]; simp
theorem Qdd (s : List UInt8) (a b : Nat) : (⟨s.toArray⟩ : ByteArray).extract a b = ⟨((s.take b).drop a).toArray⟩ := by
 apply ByteArray.ext;rw [ByteArray.data_extract];apply Array.toList_inj.1;simp only [Array.toList_extract, List.extract_eq_take_drop, List.drop_take]
theorem Qd3 (s : List UInt8) (k : Nat) (h : k < s.length) : ∃ c : UInt8, c = s[k] /\ c.toNat < 256 /\ ∀ h' : k < (⟨s.toArray⟩ : ByteArray).size, (⟨s.toArray⟩ : ByteArray)[k]'h' = c :=
 ⟨s[k], rfl, UInt8.toNat_lt _, fun h' => by
   show s.toArray[k]'(by simpa using h) = s[k]
   simp⟩
theorem Qcn {P : Program} (a b : List UInt8) (h : a.length + b.length <= 9223372036854775807) (w : World) : (Op.stringOp .add (⟨a.toArray⟩ : ByteArray) (⟨b.toArray⟩ : ByteArray)).run P w = .ok (.string ⟨(a ++ b).toArray⟩) w := by
 have hs : (⟨a.toArray⟩ : ByteArray).size + (⟨b.toArray⟩ : ByteArray).size <= 9223372036854775807 := by
  show a.toArray.size + b.toArray.size <= _;simpa using h
 have := run_string_add_sum (P := P) (w := w) ⟨a.toArray⟩ ⟨b.toArray⟩ hs;rw [this, Qes]
theorem Qev (n : Int) (h0 : -9223372036854775808 <= n) (h1 : n <= 9223372036854775807) : IntKind.i64.wrap n = n := by rw [IntKind.wrap_i64]; omega
theorem wrap_u8 (n : Int) (h0 : 0 <= n) (h1 : n <= 255) : IntKind.u8.wrap n = n := by rw [IntKind.wrap_u8]; omega
theorem tmod_in (n m : Int) (h0 : 0 <= n) : n.tmod m = n % m := Int.tmod_eq_emod_of_nonneg h0
class Rep (α : Type) where
 size : Nat
 cells : World -> Nat -> List Value -> α -> Prop
 len : ∀ {w : World} {B : Nat} {cs : List Value} {a : α}, cells w B cs a -> cs.length = size
 keep : ∀ {w w' : World} {B B' : Nat} {cs : List Value} {a : α}, cells w B cs a -> B <= B' -> (∀ p : Addr, p.block < B -> w'.cell? p = w.cell? p) -> cells w' B' cs a
def InI (n : Int) : Prop := -9223372036854775808 <= n /\ n <= 9223372036854775807
def big : Nat := 140737488355328
instance : Rep Int where
 size := 1
 cells _ _ cs n := cs = [.int .i64 n] /\ InI n
 len h := by rw [h.1]; rfl
 keep h _ _ := h
instance : Rep Bool where
 size := 1
 cells _ _ cs b := cs = [.bool b]
 len h := by rw [h]; rfl
 keep h _ _ := h
instance instStr : Rep (List UInt8) where
 size := 1
 cells _ _ cs s := cs = [vstr s] /\ s.length <= big
 len h := by rw [h.1]; rfl
 keep h _ _ := h
instance instPair {α β : Type} [Rep α] [Rep β] : Rep (α × β) where
 size := Rep.size α + Rep.size β
 cells w B cs x := ∃ c d, cs = c ++ d /\ Rep.cells w B c x.1 /\ Rep.cells w B d x.2
 len h := by obtain ⟨c, d, rfl, h1, h2⟩ := h; rw [List.length_append, Rep.len h1, Rep.len h2]
 keep h hB hk := by obtain ⟨c, d, rfl, h1, h2⟩ := h; exact ⟨c, d, rfl, Rep.keep h1 hB hk, Rep.keep h2 hB hk⟩
def At {α : Type} [Rep α] (w : World) (B : Nat) (A : Option Addr) (l : List α) : Prop :=
 0 < l.length -> ∃ b off, A = some ⟨b, off, none⟩ /\ b < B /\ ∀ (i : Nat) (x : α), l[i]? = some x -> ∃ cs, Rep.cells w B cs x /\ ∀ (j : Nat) (v : Value), cs[j]? = some v -> w.cell? ⟨b, off + i * Rep.size α + j, none⟩ = some v
theorem At.keep {α : Type} [Rep α] {w w' : World} {B B' : Nat} {A : Option Addr} {l : List α} (h : At w B A l) (hB : B <= B') (hk : ∀ p : Addr, p.block < B -> w'.cell? p = w.cell? p) : At w' B' A l := by
 intro hl;obtain ⟨b, off, h1, h2, h3⟩ := h hl;refine ⟨b, off, h1, by omega, fun i x hx => ?_⟩;obtain ⟨cs, h4, h5⟩ := h3 i x hx;exact ⟨cs, Rep.keep h4 hB hk, fun j v hv => (hk _ h2).trans (h5 j v hv)⟩
theorem At.nil {α : Type} [Rep α] {w : World} {B : Nat} {A : Option Addr} : At w B A ([] : List α) := fun h => absurd h (by simp)
instance (priority := low) instList {α : Type} [Rep α] : Rep (List α) where
 size := 1
 cells w B cs l := ∃ A c, cs = [.slice A l.length c] /\ l.length <= big /\ At w B A l
 len h := by obtain ⟨_, _, rfl, _⟩ := h; rfl
 keep h hB hk := by obtain ⟨A, c, h1, h2, h3⟩ := h; exact ⟨A, c, h1, h2, h3.keep hB hk⟩
theorem At.below {α : Type} [Rep α] {w w' : World} {B : Nat} {A : Option Addr} {l : List α} (h : At w B A l) (hb : Below B w w') : At w' B A l := h.keep (Nat.le_refl _) fun _ hp => hb.cell hp
theorem At.mono {α : Type} [Rep α] {w : World} {B B' : Nat} {A : Option Addr} {l : List α} (h : At w B A l) (hB : B <= B') : At w B' A l := h.keep hB fun _ _ => rfl
theorem At.elem {α : Type} [Rep α] {w : World} {B : Nat} {A : Option Addr} {l : List α} (h : At w B A l) {k : Nat} (hk : k < l.length) :
 ∃ b off cs, A = some ⟨b, off, none⟩ /\ b < B /\ Rep.cells w B cs l[k] /\ ∀ (j : Nat) (v : Value), cs[j]? = some v -> w.cell? ⟨b, off + k * Rep.size α + j, none⟩ = some v := by
 obtain ⟨b, off, h1, h2, h3⟩ := h (by omega);obtain ⟨cs, h4, h5⟩ := h3 k _ (List.getElem?_eq_getElem hk);exact ⟨b, off, cs, h1, h2, h4, h5⟩
abbrev Str := List UInt8
abbrev Wait := Int × Str
abbrev Disk := List Str × List Wait × Bool
theorem QcA {w : World} {B : Nat} {cs : List Value} {s : Str} (h : Rep.cells w B cs s) : cs = [vstr s] /\ s.length <= big := h
theorem Qdy {w : World} {B : Nat} {cs : List Value} {n : Int} (h : Rep.cells w B cs n) : cs = [.int .i64 n] /\ InI n := h
theorem bal {w w1 : World} (h : Below w.heap.size w w1) (o : Obj) : Below w.heap.size w (w1.alloc o) := h.alloc h.size o
theorem bnew (w : World) (o : Obj) : Below w.heap.size w (w.alloc o) := bal (Below.refl _ _) o
theorem btr {w w1 w2 : World} (h : Below w.heap.size w w1) (k : Below w1.heap.size w1 w2) : Below w.heap.size w w2 := h.trans (k.mono h.size)
theorem bset {w w1 : World} (h : Below w.heap.size w w1) {b : Nat} (hb : w.heap.size <= b) (i : Nat) (v : Value) : Below w.heap.size w (w1.setCell ⟨b, i, none⟩ v) := h.setCell hb v
theorem bdr {w w1 : World} (h : Below w.heap.size w w1) : Below w.heap.size w w1.drew := h.drew
theorem bdrN {w w1 : World} (h : Below w.heap.size w w1) (n : Nat) : Below w.heap.size w (w1.drewN n) := ⟨h.os, h.tape, h.output, h.size, h.block⟩
theorem hid {p : Prop} (h : p) : Hid p := h
theorem At.up {α : Type} [Rep α] {w w' : World} {A : Option Addr} {l : List α} (h : At w w.heap.size A l) (hb : Below w.heap.size w w') : At w' w'.heap.size A l := (h.below hb).mono hb.size
theorem QkO {k : IntKind} {a b : Int} (h : a = b) : Ending.returned (.int k a) = .returned (.int k b) := by rw [h]
theorem Qb6 {a b : Bool} (h : a = b) : Ending.returned (.bool a) = .returned (.bool b) := by rw [h]
theorem QgB {w : World} {b o : Nat} {v : Value} (h : w.cell? ⟨b, o, none⟩ = some v) : b < w.heap.size := by
 rcases Nat.lt_or_ge b w.heap.size with hlt | hge
 ·exact hlt
 ·simp [World.cell?, Array.getElem?_eq_none hge] at h
theorem Qc9 {w w' : World} {b o : Nat} {v : Value} (h : w.cell? ⟨b, o, none⟩ = some v) (hb : Below w.heap.size w w') : w'.cell? ⟨b, o, none⟩ = some v := (hb.cell (p := ⟨b, o, none⟩) (QgB h)).trans h
theorem QkD {P : Program} {w w' : World} {name : String} {k : IntKind} {zs : List Int} (h : Lib.TabIs P w name k zs) (hb : Below w.heap.size w w') : Lib.TabIs P w' name k zs := by
 unfold Lib.TabIs World.var? at *
 cases hg : P.globalNamed name with
 |none => rw [hg] at h; cases h
 |some g =>
  rw [hg] at h;simp only [Option.bind_some] at h ⊢
  have hlt : g < w.heap.size := by
   rcases Nat.lt_or_ge g w.heap.size with hlt | hge
   ·exact hlt
   ·rw [Array.getElem?_eq_none hge] at h; cases h
  rw [hb.block g hlt]; exact h
structure Lt (w : World) : Prop where
 tab : Lib.TabIs Tryz.prog w "internal/strconv.uint64pow10" .u64 Lib.pow10Tab
 maxl : ∃ m, w.cell? ⟨0, 0, none⟩ = some (.int .i64 m)
 syn : ∃ te pe, w.cell? ⟨1, 0, none⟩ = some (.iface te pe)
 ran : ∃ te pe, w.cell? ⟨2, 0, none⟩ = some (.iface te pe)
theorem Lt.below {w w' : World} (h : Lt w) (hb : Below w.heap.size w w') : Lt w' :=
 ⟨QkD h.tab hb, let ⟨m, e⟩ := h.maxl; ⟨m, Qc9 e hb⟩, let ⟨t, p, e⟩ := h.syn; ⟨t, p, Qc9 e hb⟩, let ⟨t, p, e⟩ := h.ran; ⟨t, p, Qc9 e hb⟩⟩
def lim : Int := 1048576
def wtS (s : Str) : Nat := s.length
def wtL {α : Type} (f : α -> Nat) (l : List α) : Nat := l.length + (l.map f).sum
def less (l : Int) (n : Nat) : Int := if l < n then -1 else l - n
end Pm
end
section
namespace Pl
abbrev Str := List UInt8
def dec (n : Nat) : Str := Lib.decDigits n
def dch (n : Nat) : UInt8 := UInt8.ofNat (48 + n)
def isDig (c : UInt8) : Bool := decide (48 <= c.toNat) && decide (c.toNat <= 57)
def dgt (c : UInt8) : Nat := c.toNat - 48
def val (s : Str) : Nat := s.foldl (fun a c => a * 10 + dgt c) 0
def canon (s : Str) : Bool := decide (s ≠ []) && decide (s.length <= 9) && s.all isDig && (decide (s.length <= 1) || decide (s.head? ≠ some 48))
theorem QbV {n : Nat} (h : n < 10) : dec n = [dch n] := Lib.decDigits_one h
theorem Qd0 {n : Nat} (h : ¬ n < 10) : dec n = dec (n / 10) ++ [dch (n % 10)] := by
 show Lib.decDigits n = _; rw [Lib.decDigits, dif_neg h]; rfl
theorem Qda {n : Nat} (h : n < 10) : (dch n).toNat = 48 + n := by
 unfold dch; rw [UInt8.toNat_ofNat_of_lt' (by show 48 + n < 256; omega)]
theorem QlR {n : Nat} (h : n < 10) : dgt (dch n) = n := by unfold dgt; rw [Qda h]; omega
theorem Qc1 (c : UInt8) : isDig c = true ↔ 48 <= c.toNat /\ c.toNat <= 57 := by simp [isDig]
theorem Qht {n : Nat} (h : n < 10) : isDig (dch n) = true := by rw [Qc1, Qda h]; omega
theorem QlS {c : UInt8} (h : isDig c = true) : dch (dgt c) = c := by
 have h' := (Qc1 c).1 h;apply UInt8.toNat_inj.1;rw [Qda (by unfold dgt; omega)]; unfold dgt; omega
theorem QlQ {c : UInt8} (h : isDig c = true) : dgt c < 10 := by have := (Qc1 c).1 h; unfold dgt; omega
theorem QeK (s : Str) (c : UInt8) : val (s ++ [c]) = val s * 10 + dgt c := by simp [val]
theorem QiN {p : Str -> Prop} (h0 : p []) (h1 : ∀ s c, p s -> p (s ++ [c])) (s : Str) : p s := by
 have key : ∀ n, ∀ s : Str, s.length = n -> p s := by
  intro n;induction n with
  |zero => intro s hs; rw [List.eq_nil_of_length_eq_zero hs]; exact h0
  |succ n ih =>
   intro s hs;have hne : s ≠ [] := by intro e; subst e; simp at hs
   rw [<- List.dropLast_concat_getLast hne];exact h1 _ _ (ih _ (by simp; omega))
 exact key _ s rfl
theorem QeX (n : Nat) : val (dec n) = n := by
 induction n using Nat.strongRecOn with
 |_ n ih =>
  by_cases h : n < 10
  ·rw [QbV h]; simp [val, QlR h]
  ·rw [Qd0 h, QeK, ih (n / 10) (by omega), QlR (by omega)]; omega
theorem Qc2 {m n : Nat} (h : dec m = dec n) : m = n := by rw [<- QeX m, <- QeX n, h]
theorem QcZ (n : Nat) : dec n ≠ [] := by
 by_cases h : n < 10
 ·rw [QbV h]; simp
 ·rw [Qd0 h]; simp
theorem QdY (n : Nat) : (dec n).all isDig = true := by
 induction n using Nat.strongRecOn with
 |_ n ih =>
  by_cases h : n < 10
  ·rw [QbV h]; simp [Qht h]
  ·rw [Qd0 h, List.all_append, ih (n / 10) (by omega)]; simp [Qht (show n % 10 < 10 by omega)]
theorem Qnf (n : Nat) (h0 : n ≠ 0) : (dec n).head? ≠ some 48 := by
 induction n using Nat.strongRecOn with
 |_ n ih =>
  by_cases h : n < 10
  ·rw [QbV h]
   simp only [List.head?_cons, ne_eq, Option.some.injEq];intro e;have := congrArg UInt8.toNat e;rw [Qda h] at this;simp at this; omega
  ·rw [Qd0 h]
   have := ih (n / 10) (by omega) (by omega);have hne := QcZ (n / 10);cases hd : dec (n / 10) with
   |nil => exact absurd hd hne
   |cons a b => rw [hd] at this; simpa using this
theorem Qbv (k n : Nat) (h : n < 10 ^ (k + 1)) : (dec n).length <= k + 1 := by
 induction k generalizing n with
 |zero => rw [QbV (by simpa using h)]; simp
 |succ k ih =>
  by_cases hn : n < 10
  ·rw [QbV hn]; simp
  ·rw [Qd0 hn]
   have := ih (n / 10) (by rw [Nat.pow_succ] at h; omega);simp; omega
theorem Qd2 (s : Str) : canon s = true ↔ s ≠ [] /\ s.length <= 9 /\ s.all isDig = true /\ (s.length <= 1 ∨ s.head? ≠ some 48) := by
 simp only [canon, Bool.and_eq_true, Bool.or_eq_true, decide_eq_true_eq, and_assoc]
theorem QhC {n : Nat} (h : n < 1000000000) : canon (dec n) = true := by
 rw [Qd2];refine ⟨QcZ n, Qbv 8 n (by simpa using h), QdY n, ?_⟩
 by_cases h0 : n = 0
 ·left; subst h0; rw [QbV (by omega)]; simp
 ·right; exact Qnf n h0
theorem QkA (s : Str) (h : s.all isDig = true) : val s < 10 ^ s.length := by
 induction s using QiN with
 |h0 => simp [val]
 |h1 s c ih =>
  rw [List.all_append] at h;simp only [Bool.and_eq_true, List.all_cons, List.all_nil, Bool.and_true] at h;rw [QeK, List.length_append, List.length_singleton, Nat.pow_succ];have := ih h.1; have := QlQ h.2; omega
theorem dec_val (s : Str) (hne : s ≠ []) (h : s.all isDig = true) (hz : s.length <= 1 ∨ s.head? ≠ some 48) : dec (val s) = s := by
 induction s using QiN with
 |h0 => exact absurd rfl hne
 |h1 s c ih =>
  rw [List.all_append] at h;simp only [Bool.and_eq_true, List.all_cons, List.all_nil, Bool.and_true] at h;have hc := QlQ h.2;rw [QeK]
  by_cases hs : s = []
  ·subst hs
   rw [QbV (by simp [val]; exact hc)];simp [val, QlS h.2]
  ·have hz' : s.length <= 1 ∨ s.head? ≠ some 48 := by
    right;rcases hz with hz | hz
    ·have : s.length = 0 := by simp only [List.length_append, List.length_singleton] at hz; omega
     exact absurd (List.eq_nil_of_length_eq_zero this) hs
    ·cases s with
     |nil => exact absurd rfl hs
     |cons a b => simpa using hz
   have hi := ih hs h.1 hz'
   have hpos : val s ≠ 0 := by
    intro e;rw [e, QbV (by omega)] at hi;rcases hz with hz | hz
    ·have : s.length = 0 := by simp only [List.length_append, List.length_singleton] at hz; omega
     exact hs (List.eq_nil_of_length_eq_zero this)
    ·rw [<- hi] at hz
     exact hz (by simp; rfl)
   rw [Qd0 (by omega), show (val s * 10 + dgt c) / 10 = val s by omega, show (val s * 10 + dgt c) % 10 = dgt c by omega, hi, QlS h.2]
theorem Qen {s : Str} (h : canon s = true) : dec (val s) = s := by
 obtain ⟨h1, _, h3, h4⟩ := (Qd2 s).1 h;exact dec_val s h1 h3 h4
theorem Qe8 {s : Str} (h : canon s = true) : val s < 1000000000 := by
 obtain ⟨_, h2, h3, _⟩ := (Qd2 s).1 h;have := QkA s h3;exact Nat.lt_of_lt_of_le this (Nat.le_trans (Nat.pow_le_pow_right (by omega) h2) (by decide))
def numPut (n : Int) : Str := if 0 <= n /\ n <= 999999999 then dec n.toNat else []
def numGet (s : Str) : Option Nat := if canon s then some (val s) else none
theorem QbG {n : Nat} (h : n < 1000000000) : numGet (dec n) = some n := by simp [numGet, QhC h, QeX]
theorem QbP {s : Str} {n : Nat} (h : numGet s = some n) : s = dec n /\ n < 1000000000 := by
 unfold numGet at h;split at h
 ·rename_i hc; injection h with h; subst h; exact ⟨(Qen hc).symm, Qe8 hc⟩
 ·cases h
theorem Qff {s : Str} (h : numGet s = none) (n : Nat) (hn : n < 1000000000) : s ≠ dec n := by
 intro e; subst e; rw [QbG hn] at h; cases h
def item (s : Str) : Str := dec s.length ++ (58 :: s)
def enc (l : List Str) : Str := l.flatMap item
theorem QlG : enc [] = [] := rfl
theorem Qdp (x : Str) (l : List Str) : enc (x :: l) = item x ++ enc l := rfl
theorem QcY (a b : List Str) : enc (a ++ b) = enc a ++ enc b := by simp [enc]
theorem Qe2 (x : Str) : enc [x] = item x := by simp [enc]
theorem QhA : ∀ {a b x y : Str}, a.all isDig = true -> b.all isDig = true -> a ++ 58 :: x = b ++ 58 :: y -> a = b /\ x = y
 |[], [], x, y, _, _, h => by simpa using h
 |[], c :: b, x, y, _, hb, h => by
  simp only [List.nil_append, List.cons_append, List.cons.injEq] at h;simp only [List.all_cons, Bool.and_eq_true] at hb;rw [<- h.1] at hb; exact absurd hb.1 (by decide)
 |c :: a, [], x, y, ha, _, h => by
  simp only [List.nil_append, List.cons_append, List.cons.injEq] at h;simp only [List.all_cons, Bool.and_eq_true] at ha;rw [h.1] at ha; exact absurd ha.1 (by decide)
 |c :: a, d :: b, x, y, ha, hb, h => by
  simp only [List.cons_append, List.cons.injEq] at h;simp only [List.all_cons, Bool.and_eq_true] at ha hb;obtain ⟨h1, h2⟩ := QhA ha.2 hb.2 h.2;exact ⟨by rw [h.1, h1], h2⟩
theorem QmQ {a b x y : Str} (h : item a ++ x = item b ++ y) : a = b /\ x = y := by
 unfold item at h;simp only [List.append_assoc, List.cons_append] at h;obtain ⟨h1, h2⟩ := QhA (QdY _) (QdY _) h;have hl := Qc2 h1;exact List.append_inj h2 hl
theorem QdU (s : Str) : item s ≠ [] := by unfold item; simp
theorem Qe3 : ∀ {a b : List Str} {r : Str}, enc b = enc a ++ r -> ∃ c, b = a ++ c /\ enc c = r
 |[], b, r, h => ⟨b, rfl, by simpa [QlG] using h⟩
 |x :: a, [], r, h => by
  rw [QlG, Qdp, List.append_assoc] at h;exact absurd (List.append_eq_nil_iff.1 h.symm).1 (QdU x)
 |x :: a, y :: b, r, h => by
  rw [Qdp, Qdp, List.append_assoc] at h;obtain ⟨h1, h2⟩ := QmQ h;obtain ⟨c, h3, h4⟩ := Qe3 h2;exact ⟨c, by rw [h1, h3]; rfl, h4⟩
theorem QlH {a b : List Str} (h : enc a = enc b) : a = b := by
 obtain ⟨c, h1, h2⟩ := Qe3 (a := b) (b := a) (r := []) (by simpa using h);cases c with
 |nil => simpa using h1
 |cons x c => rw [Qdp] at h2; exact absurd (List.append_eq_nil_iff.1 h2).1 (QdU x)
theorem Qg5 (l : List Str) (k : Nat) (h : k < l.length) : enc (l.take (k + 1)) = enc (l.take k) ++ item l[k] := by
 rw [List.take_succ_eq_append_getElem h, QcY, Qe2]
theorem Qi4 (l : List Str) (k : Nat) : (enc (l.take k)).length <= (enc l).length := by
 conv => rhs; rw [<- List.take_append_drop k l, QcY]
 simp
theorem Qfq (x : Str) : (item x).length = (dec x.length).length + 1 + x.length := by unfold item; simp; omega
def Qb7 (l : List Str) : Option Str := if l.length <= 60 /\ (enc l).length <= 2048 then some (enc l) else none
def IsRec (s : Str) (l : List Str) : Prop := l.length <= 60 /\ s.length <= 2048 /\ enc l = s
theorem QeG {s : Str} {a b : List Str} (ha : IsRec s a) (hb : IsRec s b) : a = b := QlH (ha.2.2.trans hb.2.2.symm)
theorem QdK {l : List Str} {s : Str} : Qb7 l = some s ↔ IsRec s l := by
 unfold Qb7 IsRec;constructor
 ·intro h
  split at h
  ·rename_i hc; injection h with h; subst h; exact ⟨hc.1, hc.2, rfl⟩
  ·cases h
 ·rintro ⟨h1, h2, rfl⟩
  rw [if_pos ⟨h1, h2⟩]
theorem QcL {l : List Str} {k : Nat} (h : 2048 < (enc (l.take k)).length) : Qb7 l = none := by
 unfold Qb7;rw [if_neg];have := Qi4 l k;omega
theorem QfC {l : List Str} {k : Nat} (hk : k < l.length) (h : 2048 < l[k].length) : Qb7 l = none := by
 refine QcL (k := k + 1) ?_;rw [Qg5 l k hk, List.length_append, Qfq];omega
theorem QdL {l : List Str} (h : 60 < l.length) : Qb7 l = none := by unfold Qb7; rw [if_neg]; omega
theorem QeH {l : List Str} (h : l.length <= 60) (h2 : (enc l).length <= 2048) : Qb7 l = some (enc l) := by unfold Qb7; rw [if_pos ⟨h, h2⟩]
theorem Qgn {s r : Str} {out l : List Str} (h : IsRec s l) (e : s = enc out ++ r) : ∃ c, l = out ++ c /\ enc c = r := by
 exact Qe3 (a := out) (b := l) (r := r) (by rw [h.2.2, e])
def digs (s : Str) : Str := (s.takeWhile isDig).take 9
def l1num (s : Str) : Nat × Nat := if 1 < (digs s).length /\ s.head? = some 48 then (0, 1) else (val (digs s), (digs s).length)
theorem QgA (s : Str) : (digs s).all isDig = true := by
 rw [List.all_eq_true];intro x hx;have := List.all_takeWhile (p := isDig) (l := s);rw [List.all_eq_true] at this;exact this x (List.mem_of_mem_take hx)
theorem Qg9 (s : Str) : (digs s).length <= 9 := by unfold digs; rw [List.length_take]; omega
theorem Qdq (s : Str) : digs s = s.take (digs s).length := by
 unfold digs;rw [List.length_take];have h : s.takeWhile isDig <+: s := List.takeWhile_prefix _;have h2 : (s.takeWhile isDig).take 9 <+: s := (List.take_prefix _ _).trans h;rw [List.prefix_iff_eq_take.1 h2]; simp
theorem QlO {d r : Str} (hd : d.all isDig = true) (hl : d.length <= 9) (hr : ∀ c, r.head? = some c -> isDig c = false) : digs (d ++ r) = d := by
 unfold digs
 have h1 : (d ++ r).takeWhile isDig = d := by
  rw [List.takeWhile_append_of_pos (by rw [List.all_eq_true] at hd; exact hd)];cases r with
  |nil => simp
  |cons c r => rw [List.takeWhile_cons_of_neg (by simpa using hr c rfl)]; simp
 rw [h1, List.take_of_length_le hl]
theorem QlP (s : Str) (h : 0 < (digs s).length) : (digs s).head? = s.head? := by
 rw [Qdq s];cases s with
 |nil => simp
 |cons a b =>
  have : (digs (a :: b)).length = (digs (a :: b)).length - 1 + 1 := by omega
  rw [this]; rfl
theorem Qem {s : Str} {k : Nat} (hk : k <= s.length) (hall : (s.take k).all isDig = true) (h9 : k <= 9) (hx : k = 9 ∨ ∀ c, s[k]? = some c -> isDig c = false) : digs s = s.take k := by
 have hlen : (s.take k).length = k := by rw [List.length_take]; omega
 rcases hx with rfl | hx
 ·unfold digs
  have h1 : s.takeWhile isDig = s.take 9 ++ (s.drop 9).takeWhile isDig := by
   conv => lhs; rw [<- List.take_append_drop 9 s]
   rw [List.takeWhile_append_of_pos (by rw [List.all_eq_true] at hall; exact hall)]
  rw [h1, List.take_append_of_le_length (by omega), List.take_of_length_le (by omega)]
 ·have := QlO (d := s.take k) (r := s.drop k) hall (by omega) (by intro c hc; rw [List.head?_drop] at hc; exact hx c hc)
  rwa [List.take_append_drop] at this
theorem Qmv (s : Str) (k : Nat) (h : k < s.length) : val (s.take (k + 1)) = val (s.take k) * 10 + dgt s[k] := by
 rw [List.take_succ_eq_append_getElem h, QeK]
theorem QmO (s : Str) : (l1num s).2 <= 9 /\ (l1num s).2 <= s.length := by
 have h1 := Qg9 s;have h2 : (digs s).length <= s.length := by rw [Qdq s, List.length_take]; omega
 unfold l1num;split
 ·rename_i h; simp only; omega
 ·exact ⟨h1, h2⟩
theorem QmN (s : Str) : (l1num s).1 < 1000000000 := by
 unfold l1num;split
 ·simp
 ·exact Nat.lt_of_lt_of_le (QkA _ (QgA s)) (Nat.le_trans (Nat.pow_le_pow_right (by omega) (Qg9 s)) (by decide))
theorem Qhq {n : Nat} {r : Str} (h : n < 1000000000) (hr : ∀ c, r.head? = some c -> isDig c = false) : l1num (dec n ++ r) = (n, (dec n).length) := by
 obtain ⟨h1, h2, h3, h4⟩ := (Qd2 _).1 (QhC h);have hd : digs (dec n ++ r) = dec n := QlO h3 h2 hr;unfold l1num;rw [hd, if_neg, QeX];rintro ⟨ha, hb⟩;rcases h4 with h4 | h4
 ·omega
 ·cases hc : dec n with
  |nil => exact h1 hc
  |cons a b => rw [hc] at hb h4; exact h4 (by simpa using hb)
theorem QfR {s : Str} {n k : Nat} (h : l1num s = (n, k)) (hk : 0 < k) (hend : ∀ c, s[k]? = some c -> isDig c = false) : s.take k = dec n /\ n < 1000000000 := by
 unfold l1num at h;split at h
 ·rename_i hc
  injection h with h1 h2;subst h1; subst h2;exfalso;have hp := Qdq s
  have h1 : s[1]? = (digs s)[1]? := by
   have := List.getElem?_take_of_lt (l := s) (show 1 < (digs s).length by omega); rw [<- hp] at this; exact this.symm
  have h2 : (digs s)[1]? = some ((digs s)[1]'(by omega)) := List.getElem?_eq_getElem _;have h3 := hend _ (h1.trans h2);have h4 := List.all_eq_true.1 (QgA s) _ (List.getElem_mem (show 1 < (digs s).length by omega));rw [h4] at h3; cases h3
 ·rename_i hc
  injection h with h1 h2;subst h1; subst h2
  have hz : (digs s).length <= 1 ∨ (digs s).head? ≠ some 48 := by
   rw [QlP s hk]
   by_cases h1 : (digs s).length <= 1
   ·exact .inl h1
   ·right; intro e; exact hc ⟨by omega, e⟩
  have hcan : canon (digs s) = true := by
   rw [Qd2];exact ⟨by intro e; rw [e] at hk; simp at hk, Qg9 s, QgA s, hz⟩
  rw [<- Qdq s];exact ⟨(Qen hcan).symm, Qe8 hcan⟩
theorem Qhf (s : Str) : numGet s = if (l1num s).2 = 0 ∨ (l1num s).2 ≠ s.length then none else some (l1num s).1 := by
 cases h : numGet s with
 |some n =>
  obtain ⟨h1, h2⟩ := QbP h;have h3 := Qhq (r := []) h2 (by simp);rw [List.append_nil, <- h1] at h3;rw [h3, if_neg];intro hh;have : (dec n).length ≠ 0 := by have := QcZ n; intro e; exact this (List.eq_nil_of_length_eq_zero e)
  rw [<- h1] at this;simp only at hh;omega
 |none =>
  split
  ·rfl
  ·rename_i hh
   exfalso
   have hb := QfR (s := s) (n := (l1num s).1) (k := (l1num s).2) rfl (by omega) (by
    intro c hc
    rw [List.getElem?_eq_none (by omega)] at hc; cases hc)
   rw [List.take_of_length_le (by omega)] at hb;exact Qff h _ hb.2 hb.1
theorem Qfc {r : Str} {c : List Str} (hc : enc c = r) (hr : r ≠ []) : ∃ x c', c = x :: c' /\ r = dec x.length ++ 58 :: (x ++ enc c') := by
 cases c with
 |nil => exact absurd hc.symm hr
 |cons x c' => exact ⟨x, c', rfl, by rw [<- hc, Qdp]; unfold item; simp⟩
theorem Qep : ∀ c : UInt8, (some (58 : UInt8)) = some c -> isDig c = false := by
 intro c h; injection h with h; subst h; decide
theorem l1_step {r : Str} {n k : Nat} (h : l1num r = (n, k)) (hk : 0 < k) (hc : r[k]? = some 58) (hn : n <= r.length - k - 1) :
 r = item ((r.drop (k + 1)).take n) ++ r.drop (k + 1 + n) := by
 obtain ⟨h1, _⟩ := QfR h hk (by intro c h'; rw [hc] at h'; exact Qep c h')
 have hlt : k < r.length := by
  rcases Nat.lt_or_ge k r.length with h' | h'
  ·exact h'
  ·rw [List.getElem?_eq_none h'] at hc; cases hc
 have hlen : ((r.drop (k + 1)).take n).length = n := by rw [List.length_take, List.length_drop]; omega
 unfold item;rw [hlen, <- h1, List.append_assoc, List.cons_append, <- List.drop_drop (i := n) (j := k + 1), List.take_append_drop]
 have : r.drop k = 58 :: r.drop (k + 1) := by
  rw [List.drop_eq_getElem_cons hlt];rw [List.getElem?_eq_getElem hlt] at hc;injection hc with hc; rw [hc]
 rw [<- this, List.take_append_drop]
theorem l1_fail {r : Str} {c : List Str} {n k : Nat} (hs : r.length <= 2048) (hr : r ≠ []) (h : l1num r = (n, k)) (hf : k = 0 ∨ r[k]? ≠ some 58 ∨ r.length - k - 1 < n) : enc c ≠ r := by
 intro hc;obtain ⟨x, c', _, e⟩ := Qfc hc hr;have hx : x.length <= r.length := by rw [e]; simp; omega
 have h1 := Qhq (n := x.length) (r := 58 :: (x ++ enc c')) (by omega) (by intro c h; exact Qep c h);rw [<- e, h] at h1;injection h1 with h1 h2;have hne := QcZ x.length;have hlen : (dec x.length).length ≠ 0 := fun e => hne (List.eq_nil_of_length_eq_zero e)
 rcases hf with hf | hf | hf
 ·omega
 ·apply hf; rw [h2, e, List.getElem?_append_right (Nat.le_refl _)]; simp
 ·have : r.length = k + 1 + (x.length + (enc c').length) := by rw [e, h2]; simp; omega
  omega
theorem Qni {num tail : Str} {n : Nat} (h : numGet num = some n) (hn : n <= tail.length) : num ++ 58 :: tail = item (tail.take n) ++ tail.drop n := by
 obtain ⟨h1, _⟩ := QbP h;unfold item;rw [List.length_take, Nat.min_eq_left hn, List.append_assoc, List.cons_append, List.take_append_drop, h1]
theorem Qnj {num tail : Str} {c : List Str} (hs : (num ++ 58 :: tail).length <= 2048) (hnum : (58 : UInt8) ∉ num) (hf : numGet num = none ∨ ∃ n, numGet num = some n /\ tail.length < n) : enc c ≠ num ++ 58 :: tail := by
 intro hc;obtain ⟨x, c', _, e⟩ := Qfc hc (by simp)
 have hx : x.length <= 2048 := by
  have := congrArg List.length e;simp only [List.length_append, List.length_cons] at this hs;omega
 have hnum' : (58 : UInt8) ∉ dec x.length := by
  intro hm;have := List.all_eq_true.1 (QdY x.length) _ hm;exact absurd this (by decide)
 have key : ∀ {a b x y : Str}, (58 : UInt8) ∉ a -> (58 : UInt8) ∉ b -> a ++ 58 :: x = b ++ 58 :: y -> a = b /\ x = y := by
  intro a;induction a with
  |nil =>
   intro b x y _ hb h;cases b with
   |nil => simpa using h
   |cons c b => simp only [List.nil_append, List.cons_append, List.cons.injEq] at h; rw [<- h.1] at hb; simp at hb
  |cons c a ih =>
   intro b x y ha hb h;cases b with
   |nil => simp only [List.nil_append, List.cons_append, List.cons.injEq] at h; rw [h.1] at ha; simp at ha
   |cons d b =>
    simp only [List.cons_append, List.cons.injEq] at h;obtain ⟨h1, h2⟩ := ih (fun hm => ha (List.mem_cons_of_mem _ hm)) (fun hm => hb (List.mem_cons_of_mem _ hm)) h.2;exact ⟨by rw [h.1, h1], h2⟩
 obtain ⟨h1, h2⟩ := key hnum hnum' e;rcases hf with hf | ⟨n, hf, hlt⟩
 ·exact Qff hf x.length (by omega) h1
 ·obtain ⟨h3, _⟩ := QbP hf
  have := Qc2 (h3.symm.trans h1);rw [h2] at hlt; simp at hlt; omega
theorem Qhg {r : Str} {c : List Str} (hr : r ≠ []) (h : (58 : UInt8) ∉ r) : enc c ≠ r := by
 intro hc;obtain ⟨x, c', _, e⟩ := Qfc hc hr;rw [e] at h; simp at h
theorem QkT {s : Str} {out : List Str} {k n m : Nat} (hs : s.length <= 2048) (hk : k < s.length) (ho : s = enc out ++ s.drop k) (h : l1num (s.drop k) = (n, m)) (hf : m = 0 ∨ (s.drop k)[m]? ≠ some 58 ∨ (s.drop k).length - m - 1 < n) : ∀ l, ¬ IsRec s l := by
 intro l hl;obtain ⟨c, _, hc⟩ := Qgn hl ho;refine l1_fail (r := s.drop k) (by rw [List.length_drop]; omega) (fun e => ?_) h hf hc;have := congrArg List.length e;rw [List.length_drop] at this; simp at this; omega
theorem QkS {s : Str} {out : List Str} {k n m : Nat} (ho : s = enc out ++ s.drop k) (h : l1num (s.drop k) = (n, m)) (hm : 0 < m) (hc : (s.drop k)[m]? = some 58) (hn : n <= (s.drop k).length - m - 1) :
 s = enc (out ++ [((s.drop (k + m + 1)).take n)]) ++ s.drop (k + m + 1 + n) := by
 have h1 := l1_step h hm hc hn;rw [List.drop_drop, List.drop_drop] at h1;rw [QcY, Qe2, List.append_assoc, show k + m + 1 = k + (m + 1) from by omega, show k + (m + 1) + n = k + (m + 1 + n) from by omega, <- h1];exact ho
def sumStep (p : Nat × Nat) (c : UInt8) : Nat × Nat := ((p.1 + c.toNat + 1) % 9973, (p.2 + (p.1 + c.toNat + 1) % 9973) % 9973)
def sum2 (s : Str) : Nat × Nat := s.foldl sumStep (1, 0)
def sumOf (s : Str) : Nat := (sum2 s).1 * 9973 + (sum2 s).2
theorem QgS (s : Str) (c : UInt8) : sum2 (s ++ [c]) = sumStep (sum2 s) c := by simp [sum2]
structure Ptr where
 pat : Int
 birth : Int
 size : Int
 sum : Int
 level : Int
 deriving DecidableEq
def hole : Ptr := ⟨0, 0, 0, 0, 0⟩
def ptrHole (p : Ptr) : Bool := decide (p = hole)
def rowOk (n : Int) : Bool := decide (8 <= n) && decide (n <= 63)
def ptrOk (p : Ptr) : Bool := ptrHole p || (rowOk p.pat && (decide (1 <= p.birth) && decide (p.birth <= 900)) && (decide (1 <= p.size) && decide (p.size <= 128)) && (decide (0 <= p.sum) && decide (p.sum <= 99460728)) && (decide (0 <= p.level) && decide (p.level <= 2)))
def dots (l : List Str) : Str := (l.intersperse [46]).flatten
def ptrText (p : Ptr) : Str := dots [dec p.pat.toNat, dec p.birth.toNat, dec p.size.toNat, dec p.sum.toNat, dec p.level.toNat]
def ptrPut (p : Ptr) : Str := if ptrOk p then (if ptrHole p then [45] else ptrText p) else []
theorem QbT {p : Ptr} (h : ptrOk p = true) : (0 <= p.pat /\ p.pat <= 63) /\ (0 <= p.birth /\ p.birth <= 900) /\ (0 <= p.size /\ p.size <= 128) /\ (0 <= p.sum /\ p.sum <= 99460728) /\ (0 <= p.level /\ p.level <= 2) := by
 unfold ptrOk ptrHole rowOk at h;simp only [Bool.or_eq_true, Bool.and_eq_true, decide_eq_true_eq] at h;rcases h with rfl | h
 ·decide
 ·omega
theorem nine (n : Int) (h0 : 0 <= n) (h1 : n <= 999999999) : n.toNat < 1000000000 /\ numPut n = dec n.toNat := ⟨by omega, by unfold numPut; rw [if_pos ⟨h0, h1⟩]⟩
def cutB (b : UInt8) : Str -> List Str
 |[] => [[]]
 |c :: r => if c = b then [] :: cutB b r else
  match cutB b r with
  |h :: t => (c :: h) :: t
  |[] => [[c]]
theorem Qi5 (b : UInt8) : ∀ s : Str, cutB b s ≠ []
 |[] => by simp [cutB]
 |c :: r => by
  unfold cutB;split
  ·simp
  ·split <;> simp
theorem QbS (b : UInt8) : ∀ (a r : Str), b ∉ a -> cutB b (a ++ b :: r) = a :: cutB b r
 |[], r, _ => by simp [cutB]
 |c :: a, r, h => by
  have hc : c ≠ b := fun e => h (by rw [e]; exact List.mem_cons_self)
  rw [List.cons_append, cutB, if_neg hc, QbS b a r (fun hm => h (List.mem_cons_of_mem _ hm))]
theorem Qcx (b : UInt8) : ∀ (a : Str), b ∉ a -> cutB b a = [a]
 |[], _ => by simp [cutB]
 |c :: a, h => by
  have hc : c ≠ b := fun e => h (by rw [e]; exact List.mem_cons_self)
  rw [cutB, if_neg hc, Qcx b a (fun hm => h (List.mem_cons_of_mem _ hm))]
theorem Qfz (b : UInt8) : ∀ s : Str, ((cutB b s).intersperse [b]).flatten = s
 |[] => by simp [cutB]
 |c :: r => by
  have ih := Qfz b r;have hne := Qi5 b r;unfold cutB;split
  ·rename_i h
   cases hd : cutB b r with
   |nil => exact absurd hd hne
   |cons x y => rw [hd] at ih; simp only [List.intersperse_cons_cons, List.flatten_cons, List.nil_append]; rw [ih, h]; rfl
  ·cases hd : cutB b r with
   |nil => exact absurd hd hne
   |cons x y =>
    rw [hd] at ih;cases y with
    |nil => simp at ih ⊢; exact ih
    |cons z y => simp only [List.intersperse_cons_cons, List.flatten_cons] at ih ⊢; rw [<- ih]; simp
theorem QcG (n : Nat) : (46 : UInt8) ∉ dec n := by
 intro hm;have := List.all_eq_true.1 (QdY n) _ hm;exact absurd this (by decide)
theorem Qne (a b c d e : Nat) : cutB 46 (dots [dec a, dec b, dec c, dec d, dec e]) = [dec a, dec b, dec c, dec d, dec e] := by
 have : dots [dec a, dec b, dec c, dec d, dec e] = dec a ++ 46 :: (dec b ++ 46 :: (dec c ++ 46 :: (dec d ++ 46 :: dec e))) := by simp [dots]
 rw [this, QbS _ _ _ (QcG _), QbS _ _ _ (QcG _), QbS _ _ _ (QcG _), QbS _ _ _ (QcG _), Qcx _ _ (QcG _)]
theorem QlM {s : Str} {l : List Str} (h : cutB 46 s = l) : dots l = s := by unfold dots; rw [<- h, Qfz]
def IsPtr (s : Str) (p : Ptr) : Prop := ptrOk p = true /\ ptrPut p = s
theorem QfT : IsPtr [45] hole := ⟨by decide, by decide⟩
theorem Qfd (p : Ptr) : cutB 46 (ptrText p) = [dec p.pat.toNat, dec p.birth.toNat, dec p.size.toNat, dec p.sum.toNat, dec p.level.toNat] := Qne _ _ _ _ _
theorem QjO (p : Ptr) : ptrText p ≠ [45] := by
 intro e;have := Qfd p;rw [e, show cutB 46 [45] = [[45]] from by decide] at this;simp at this
theorem QfS {s : Str} {p : Ptr} (h : IsPtr s p) (hs : s ≠ [45]) : ptrHole p = false /\ s = ptrText p /\ cutB 46 s = [dec p.pat.toNat, dec p.birth.toNat, dec p.size.toNat, dec p.sum.toNat, dec p.level.toNat] := by
 obtain ⟨h1, h2⟩ := h;unfold ptrPut at h2;rw [if_pos h1] at h2;split at h2
 ·exact absurd h2.symm hs
 ·rename_i hh
  exact ⟨by simpa using hh, h2.symm, by rw [<- h2]; exact Qfd p⟩
theorem Qdx {p : Ptr} (h : IsPtr [45] p) : p = hole := by
 obtain ⟨h1, h2⟩ := h;unfold ptrPut at h2;rw [if_pos h1] at h2;split at h2
 ·rename_i hh; simpa [ptrHole] using hh
 ·exact absurd h2 (QjO p)
theorem QcV {s : Str} {p : Ptr} (h : IsPtr s p) (hs : s ≠ [45]) :
 cutB 46 s = [dec p.pat.toNat, dec p.birth.toNat, dec p.size.toNat, dec p.sum.toNat, dec p.level.toNat] /\
 p.pat.toNat < 1000000000 /\ p.birth.toNat < 1000000000 /\ p.size.toNat < 1000000000 /\ p.sum.toNat < 1000000000 /\ p.level.toNat < 1000000000 /\
 p = ⟨p.pat.toNat, p.birth.toNat, p.size.toNat, p.sum.toNat, p.level.toNat⟩ := by
 obtain ⟨_, _, h3⟩ := QfS h hs;have hb := QbT h.1;refine ⟨h3, by omega, by omega, by omega, by omega, by omega, ?_⟩;cases p;simp only [Ptr.mk.injEq] at *
 omega
theorem Qhs {s : Str} {p q : Ptr} (hp : IsPtr s p) (hq : IsPtr s q) : p = q := by
 by_cases hs : s = [45]
 ·subst hs; rw [Qdx hp, Qdx hq]
 ·obtain ⟨a1, _, _, _, _, _, a2⟩ := QcV hp hs
  obtain ⟨b1, _, _, _, _, _, b2⟩ := QcV hq hs;rw [a1] at b1;simp only [List.cons.injEq, and_true] at b1;rw [a2, b2, Qc2 b1.1, Qc2 b1.2.1, Qc2 b1.2.2.1, Qc2 b1.2.2.2.1, Qc2 b1.2.2.2.2]
theorem QjN {s : Str} {a b c d e : Nat} (h : cutB 46 s = [dec a, dec b, dec c, dec d, dec e]) : ptrText ⟨a, b, c, d, e⟩ = s := by
 rw [<- QlM h]; rfl
theorem QkW {s : Str} (hs : s ≠ [45]) (h : (cutB 46 s).length ≠ 5) : ∀ p, ¬ IsPtr s p := fun p hp => h (by rw [(QcV hp hs).1]; rfl)
theorem QkV {s : Str} {k : Nat} (hs : s ≠ [45]) (hk : k < (cutB 46 s).length) (h : numGet (cutB 46 s)[k] = none) : ∀ p, ¬ IsPtr s p := by
 intro p hp;obtain ⟨h1, h2, h3, h4, h5, h6, _⟩ := QcV hp hs
 have key : ∀ x ∈ cutB 46 s, ∃ n, numGet x = some n := by
  rw [h1];intro x hx;simp only [List.mem_cons, List.not_mem_nil, or_false] at hx;rcases hx with rfl | rfl | rfl | rfl | rfl
  ·exact ⟨_, QbG h2⟩
  ·exact ⟨_, QbG h3⟩
  ·exact ⟨_, QbG h4⟩
  ·exact ⟨_, QbG h5⟩
  ·exact ⟨_, QbG h6⟩
 obtain ⟨n, hn⟩ := key _ (List.getElem_mem hk);rw [h] at hn; cases hn
theorem QiS {s : Str} {p : Ptr} {a b c d e : Nat} (hs : s ≠ [45]) (h : cutB 46 s = [dec a, dec b, dec c, dec d, dec e]) (hp : IsPtr s p) : p = ⟨a, b, c, d, e⟩ := by
 obtain ⟨h1, _, _, _, _, _, h2⟩ := QcV hp hs;rw [h] at h1;simp only [List.cons.injEq, and_true] at h1;rw [h2, Qc2 h1.1, Qc2 h1.2.1, Qc2 h1.2.2.1, Qc2 h1.2.2.2.1, Qc2 h1.2.2.2.2]
theorem ptr_bad {s : Str} {a b c d e : Nat} (hs : s ≠ [45]) (h : cutB 46 s = [dec a, dec b, dec c, dec d, dec e]) (hb : ptrOk ⟨a, b, c, d, e⟩ = false ∨ ptrHole ⟨a, b, c, d, e⟩ = true) : ∀ p, ¬ IsPtr s p := by
 intro p hp;have e1 := QiS hs h hp;rcases hb with hb | hb
 ·rw [<- e1, hp.1] at hb; cases hb
 ·rw [<- e1, (QfS hp hs).1] at hb; cases hb
theorem QmB {s : Str} {a b c d e : Nat} (h : cutB 46 s = [dec a, dec b, dec c, dec d, dec e]) (h1 : ptrOk ⟨a, b, c, d, e⟩ = true) (h2 : ptrHole ⟨a, b, c, d, e⟩ = false) : IsPtr s ⟨a, b, c, d, e⟩ := by
 refine ⟨h1, ?_⟩;unfold ptrPut;rw [if_pos h1, h2, QjN h];rfl
structure Tree where
 root : Ptr
 depth : Int
 many : Int
 deriving DecidableEq
structure Root where
 txg : Int
 tree : Tree
 deriving DecidableEq
def inR (n a b : Int) : Bool := decide (a <= n) && decide (n <= b)
def rootOk (r : Root) : Bool := inR r.txg 1 900 && ptrOk r.tree.root && inR r.tree.depth 0 2 && inR r.tree.many 1 16
def QbY (t : Tree) : List Str := [ptrPut t.root, numPut t.depth, numPut t.many]
def fp (l : List Str) : Str := (Qb7 l).getD []
def signed (f : List Str) : Str := fp (f ++ [dec (sumOf (fp f))])
def QjL (r : Root) : List Str := [114, 111, 111, 116] :: numPut r.txg :: QbY r.tree
def rootPut (r : Root) : Str := if rootOk r then signed (QjL r) else []
def IsRoot (s : Str) (r : Root) : Prop := rootOk r = true /\ rootPut r = s /\ s ≠ []
theorem fp_some {l : List Str} {s : Str} (h : fp l = s) (hs : s ≠ []) : IsRec s l := by
 unfold fp at h;cases hf : Qb7 l with
 |none => rw [hf] at h; exact absurd h.symm hs
 |some t => rw [hf] at h; have ht : t = s := h; rw [ht] at hf; exact QdK.1 hf
theorem QfJ : ∀ (l : Str) (acc k : Nat), l.all isDig = true -> acc < 10 ^ k -> k + l.length <= 18 -> Lib.parseUint10 acc l = .ok (l.foldl (fun a c => a * 10 + dgt c) acc)
 |[], acc, k, _, _, _ => rfl
 |c :: r, acc, k, h, ha, hk => by
  simp only [List.all_cons, Bool.and_eq_true] at h;simp only [List.length_cons] at hk;have hc := (Qc1 c).1 h.1;have hd := QlQ h.1;have hp : 10 ^ k <= 10 ^ 17 := Nat.pow_le_pow_right (by omega) (by omega);have h17 : (10 : Nat) ^ 17 = 100000000000000000 := by decide
  have e : c.toNat - 48 = dgt c := rfl;rw [Lib.parseUint10, if_pos hc, if_neg (by omega), e, if_neg (by omega), List.foldl_cons];exact QfJ r _ (k + 1) h.2 (by rw [Nat.pow_succ]; omega) (by omega)
theorem Qj0 (n : Nat) (h : n < 1000000000) : Lib.atoiAll (dec n) = .ok (n : Int) := by
 have h9 := Qbv 8 n (by simpa using h);have hall := QdY n;have hv := QeX n;have hne := QcZ n;cases hd : dec n with
 |nil => exact absurd hd hne
 |cons c r =>
  rw [hd] at h9 hall hv;have hcr := hall;simp only [List.all_cons, Bool.and_eq_true] at hcr;have hc := (Qc1 c).1 hcr.1;unfold Lib.atoiAll Lib.parseMag;simp only;rw [if_neg (show ¬ (c.toNat = 43 ∨ c.toNat = 45) by omega), if_neg (by simp), QfJ (c :: r) 0 0 hall (by simp) (by omega)];have : List.foldl (fun a c => a * 10 + dgt c) 0 (c :: r) = n := hv;rw [this];simp only;rw [if_neg (by omega), if_neg (by omega), if_neg (by omega)]
theorem QfM {v : Int} {s : Str} (h : numPut v = s) (hs : s ≠ []) : 0 <= v /\ v <= 999999999 /\ s = dec v.toNat := by
 unfold numPut at h;split at h
 ·rename_i hc; exact ⟨hc.1, hc.2, h.symm⟩
 ·exact absurd h.symm hs
theorem Qle {s : Str} {v : Int} (h : Lib.atoiAll s = .ok v) : numGet s = if numPut v = s then some v.toNat else none := by
 have hs : s ≠ [] := by rintro rfl; cases h
 by_cases hp : numPut v = s
 ·obtain ⟨h0, h1, rfl⟩ := QfM hp hs
  rw [if_pos hp, QbG (by omega)]
 ·rw [if_neg hp]
  cases hg : numGet s with
  |none => rfl
  |some n =>
   obtain ⟨rfl, hn⟩ := QbP hg;rw [Qj0 n hn] at h;injection h with h;subst h;exact absurd (by unfold numPut; rw [if_pos (by omega)]; simp) hp
theorem QjS {s : Str} (h : ∀ v, Lib.atoiAll s ≠ .ok v) : numGet s = none := by
 cases hg : numGet s with
 |none => rfl
 |some n =>
  obtain ⟨rfl, hn⟩ := QbP hg;exact absurd (Qj0 n hn) (h _)
theorem Qif {s : Str} (h : 9 < s.length) : numGet s = none := by
 cases hg : numGet s with
 |none => rfl
 |some n =>
  obtain ⟨rfl, hn⟩ := QbP hg;have := Qbv 8 n (by simpa using hn);omega
theorem Qgz {l : Str} {c : UInt8} (h : c ∉ l) : Lib.index l [c] = -1 := by
 rw [Lib.index_one];induction l with
 |nil => rfl
 |cons b l ih =>
  have hb : (b == c) = false := by rw [beq_eq_false_iff_ne]; rintro rfl; exact h List.mem_cons_self
  unfold Lib.indexByte;rw [hb, ih fun hm => h (List.mem_cons_of_mem _ hm)]; rfl
theorem Qit : ∀ {a r : Str} {c : UInt8}, c ∉ a -> Lib.index (a ++ c :: r) [c] = a.length
 |[], r, c, _ => by rw [Lib.index_one]; simp [Lib.indexByte]
 |b :: a, r, c, h => by
  have hb : (b == c) = false := by rw [beq_eq_false_iff_ne]; rintro rfl; exact h List.mem_cons_self
  have ih := Qit (r := r) (fun hm => h (List.mem_cons_of_mem _ hm));rw [Lib.index_one] at ih ⊢;rw [List.cons_append, Lib.indexByte, hb, ih];have h1 : ((a.length : Int) == -1) = false := by rw [beq_eq_false_iff_ne]; omega
  rw [h1]; simp
theorem QcF {c : UInt8} : ∀ {l : Str}, c ∈ l -> ∃ a r, l = a ++ c :: r /\ c ∉ a
 |b :: l, h => by
  by_cases hb : c = b
  ·subst hb; exact ⟨[], l, rfl, by simp⟩
  ·obtain ⟨a, r, rfl, ha⟩ := QcF (List.mem_of_ne_of_mem hb h)
   exact ⟨b :: a, r, rfl, by simp [hb, ha]⟩
theorem Qe4 {a r : Str} {c : UInt8} (h : c ∉ a) : Lib.cut (a ++ c :: r) [c] = (a, r, true) := by
 unfold Lib.cut;rw [Qit h, if_pos (by omega)];simp
theorem QeR {s : Str} {c : UInt8} (h : c ∉ s) : Lib.cut s [c] = (s, [], false) := by
 unfold Lib.cut;rw [Qgz h, if_neg (by omega)]
def ba (s : Str) : ByteArray := ⟨s.toArray⟩
theorem QcM (s : Str) : (ba s).data.toList = s := by simp [ba]
theorem QnJ (s : Str) (a b : Nat) : (ba s).extract a b = ba ((s.take b).drop a) := by
 apply ByteArray.ext;unfold ba;rw [ByteArray.data_extract];apply Array.toList_inj.1;simp only [Array.toList_extract, List.extract_eq_take_drop, List.drop_take]
theorem Qe5 (s : Str) : (ba s).size = s.length := by show s.toArray.size = _; simp
theorem QgV (c : UInt8) : ∀ (n : Nat) (s : Str), s.length <= n -> Lib.splitB (ba [c]) 0 (Lib.countB (ba s) (ba [c])) (ba s) = (cutB c s).map ba /\ Lib.countB (ba s) (ba [c]) + 1 = (cutB c s).length := by
 intro n;induction n with
 |zero =>
  intro s hs;have : s = [] := List.eq_nil_of_length_eq_zero (by omega);subst this;have hm : Lib.indexB (ba []) (ba [c]) = -1 := by unfold Lib.indexB; rw [QcM, QcM]; exact Qgz (by simp)
  rw [Lib.countB_miss _ _ hm, Lib.splitB_zero, Qcx c [] (by simp)];exact ⟨rfl, rfl⟩
 |succ n ih =>
  intro s hs
  by_cases hm : c ∈ s
  ·obtain ⟨a, r, rfl, ha⟩ := QcF hm
   have hi : Lib.indexB (ba (a ++ c :: r)) (ba [c]) = a.length := by unfold Lib.indexB; rw [QcM, QcM]; exact Qit ha
   have h1 : (ba [c]).size = 1 := by rw [Qe5]; rfl
   have hr : (ba (a ++ c :: r)).extract (a.length + (ba [c]).size) (ba (a ++ c :: r)).size = ba r := by
    rw [QnJ, h1, Qe5, List.take_length, List.drop_append, List.drop_of_length_le (by omega)];simp
   have h0 : (ba (a ++ c :: r)).extract 0 (a.length + 0) = ba a := by rw [QnJ]; simp
   obtain ⟨i1, i2⟩ := ih r (by simp at hs; omega);rw [Lib.countB_hit _ _ a.length (by omega) hi, hr, QbS c a r ha, Nat.add_comm 1, Lib.splitB_hit _ _ _ _ _ hi, hr, h0, i1];exact ⟨rfl, by rw [List.length_cons, <- i2]⟩
  ·have hi : Lib.indexB (ba s) (ba [c]) = -1 := by unfold Lib.indexB; rw [QcM, QcM]; exact Qgz hm
   rw [Lib.countB_miss _ _ hi, Lib.splitB_zero, Qcx c s hm];exact ⟨rfl, rfl⟩
theorem Qlz (l : List Str) : Lib.join ((l.map ba).map (·.data.toList)) (ba [46]).data.toList = dots l := by
 rw [List.map_map, QcM];have : (fun x : ByteArray => x.data.toList) ∘ ba = id := by funext s; exact QcM s
 rw [this, List.map_id];rfl
theorem QmW {s rest : Str} {out : List Str} (ho : s = enc out ++ rest) (hr : rest ≠ []) (h : 60 <= out.length) : ∀ l, ¬ IsRec s l := by
 intro l hl;obtain ⟨c, rfl, hc⟩ := Qgn hl ho;have : c ≠ [] := by rintro rfl; exact hr hc.symm
 have h1 := hl.1;have h2 : 0 < c.length := List.length_pos_iff.2 this;rw [List.length_append] at h1;omega
theorem Qix {s rest : Str} {out : List Str} (ho : s = enc out ++ rest) (hr : rest ≠ []) (h : (58 : UInt8) ∉ rest) : ∀ l, ¬ IsRec s l := by
 intro l hl;obtain ⟨c, rfl, hc⟩ := Qgn hl ho;exact Qhg hr h hc
theorem Ql4 {s num tail : Str} {out : List Str} (hs : s.length <= 2048) (ho : s = enc out ++ (num ++ 58 :: tail)) (hn : (58 : UInt8) ∉ num) (hf : numGet num = none ∨ ∃ n, numGet num = some n /\ tail.length < n) : ∀ l, ¬ IsRec s l := by
 intro l hl;obtain ⟨c, rfl, hc⟩ := Qgn hl ho;refine Qnj ?_ hn hf hc;rw [ho, List.length_append] at hs;omega
theorem QmV {s num tail : Str} {out : List Str} {n : Nat} (ho : s = enc out ++ (num ++ 58 :: tail)) (h : numGet num = some n) (hn : n <= tail.length) : s = enc (out ++ [tail.take n]) ++ tail.drop n := by
 rw [ho, Qni h hn, QcY, Qe2, List.append_assoc]
end Pl
end
section
open Go.RowKit
namespace Pm
def Row (w : World) (b : Nat) (cur : Array Value) : Prop := ∃ T, w.heap[b]? = some (.cells cur T (0, 0))
section
variable {w w' : World} {b : Nat} {cur : Array Value}
theorem Row.lt (h : Row w b cur) : b < w.heap.size := by
 obtain ⟨T, h⟩ := h;rcases Nat.lt_or_ge b w.heap.size with hlt | hge
 ·exact hlt
 ·rw [Array.getElem?_eq_none hge] at h; cases h
theorem Row.cell (h : Row w b cur) (i : Nat) : w.cell? ⟨b, i, none⟩ = cur[i]? := by obtain ⟨T, h⟩ := h; simp [World.cell?, h]
theorem Row.free (h : Row w b cur) (i : Nat) : w.frozen? ⟨b, i, none⟩ = false := by obtain ⟨T, h⟩ := h; simp [World.frozen?, h]
theorem Row.keep (h : Row w b cur) (hk : w'.heap[b]? = w.heap[b]?) : Row w' b cur := by obtain ⟨T, h⟩ := h; exact ⟨T, hk.trans h⟩
theorem Row.get (h : Row w b cur) (i : Nat) {v : Value} (hv : cur[i]? = some v) : w.cell? ⟨b, i, none⟩ = some v := (h.cell i).trans hv
theorem Row.below (h : Row w b cur) (hb : Below w.heap.size w w') : Row w' b cur := h.keep (hb.block _ h.lt)
theorem Row.alloc (h : Row w b cur) (o : Obj) : Row (w.alloc o) b cur := h.below (bnew w o)
theorem Row.far (h : Row w b cur) {b' : Nat} (hb : b ≠ b') (i : Nat) (v : Value) : Row (w.setCell ⟨b', i, none⟩ v) b cur := h.keep (Below.heap_setCell w ⟨b', i, none⟩ v b hb)
theorem Row.drew (h : Row w b cur) : Row w.drew b cur := h
theorem Row.set (h : Row w b cur) (i : Nat) (v : Value) : Row (w.setCell ⟨b, i, none⟩ v) b (cur.setIfInBounds i v) := by
 obtain ⟨T, h⟩ := h;exact ⟨T, by simp [World.setCell, Array.getElem?_modify, h]⟩
theorem Row.new (w : World) (cur : Array Value) (T : TypeId) : Row (w.alloc (.cells cur T)) w.heap.size cur := ⟨T, heap_alloc_new w _⟩
theorem Row.of_owns {base : Nat} {e : TypeId} {size n cap : Nat} {g : Nat} {xs : List Value} (h : w.ownsRow base e size (.slice (some ⟨g, 0, none⟩) n cap) n xs) :
 ∃ cur, Row w g cur /\ base <= g /\ n <= cap /\ cur.size = cap * size /\ cur.toList.take (n * size) = xs := by
 obtain ⟨_, h | ⟨g', cap', cur, hv, hg, hh, hn, _, hs, ht⟩⟩ := h
 ·simp at h
 ·injection hv with h1 h2 h3
  injection h1 with h1;injection h1 with h1;subst h1; subst h3;exact ⟨cur, ⟨e, hh⟩, hg, hn, hs, ht⟩
end
class Ow (α : Type) extends Rep α where
 own : World -> List Value -> α -> List Nat -> Prop
 olen : ∀ {w : World} {cs : List Value} {a : α} {fp : List Nat}, own w cs a fp -> cs.length = size
 frame : ∀ {w w' : World} {cs : List Value} {a : α} {fp : List Nat}, own w cs a fp -> (∀ b ∈ fp, w'.heap[b]? = w.heap[b]?) -> own w' cs a fp
 reads : ∀ {w : World} {cs : List Value} {a : α} {fp : List Nat} {B : Nat}, own w cs a fp -> (∀ b ∈ fp, b < B) -> cells w B cs a
 lt : ∀ {w : World} {cs : List Value} {a : α} {fp : List Nat}, own w cs a fp -> ∀ b ∈ fp, b < w.heap.size
instance : Ow Int where
 own _ cs n fp := (cs = [.int .i64 n] /\ InI n) /\ fp = []
 olen h := by rw [h.1.1]; rfl
 frame h _ := h
 reads h _ := h.1
 lt h := by rw [h.2]; simp
instance : Ow Bool where
 own _ cs b fp := cs = [.bool b] /\ fp = []
 olen h := by rw [h.1]; rfl
 frame h _ := h
 reads h _ := h.1
 lt h := by rw [h.2]; simp
instance : Ow (List UInt8) where
 own _ cs s fp := (cs = [vstr s] /\ s.length <= big) /\ fp = []
 olen h := by rw [h.1.1]; rfl
 frame h _ := h
 reads h _ := h.1
 lt h := by rw [h.2]; simp
instance {α β : Type} [Ow α] [Ow β] : Ow (α × β) where
 own w cs x fp := ∃ c d f g, cs = c ++ d /\ fp = f ++ g /\ Ow.own w c x.1 f /\ Ow.own w d x.2 g
 olen h := by obtain ⟨c, d, f, g, rfl, rfl, h1, h2⟩ := h; rw [List.length_append, Ow.olen h1, Ow.olen h2]; rfl
 frame h hk := by
  obtain ⟨c, d, f, g, rfl, rfl, h1, h2⟩ := h;exact ⟨c, d, f, g, rfl, rfl, Ow.frame h1 fun b hb => hk b (List.mem_append_left _ hb), Ow.frame h2 fun b hb => hk b (List.mem_append_right _ hb)⟩
 reads h hk := by
  obtain ⟨c, d, f, g, rfl, rfl, h1, h2⟩ := h;exact ⟨c, d, rfl, Ow.reads h1 fun b hb => hk b (List.mem_append_left _ hb), Ow.reads h2 fun b hb => hk b (List.mem_append_right _ hb)⟩
 lt h := by
  obtain ⟨c, d, f, g, rfl, rfl, h1, h2⟩ := h;intro b hb;rcases List.mem_append.1 hb with hb | hb
  ·exact Ow.lt h1 b hb
  ·exact Ow.lt h2 b hb
def Els {α : Type} [Ow α] (w : World) (cur : Array Value) (l : List α) (fps : List (List Nat)) : Prop :=
 fps.length = l.length /\ ∀ (i : Nat) (x : α), l[i]? = some x -> ∃ cs f, fps[i]? = some f /\ Ow.own w cs x f /\ ∀ (j : Nat) (v : Value), cs[j]? = some v -> cur[i * Rep.size α + j]? = some v
section
variable {α : Type} [Ow α] {w w' : World} {cur cur' : Array Value} {l : List α} {fps : List (List Nat)}
theorem Els.frame (h : Els w cur l fps) (hk : ∀ b ∈ fps.flatten, w'.heap[b]? = w.heap[b]?) : Els w' cur l fps :=
 ⟨h.1, fun i x hx => by
   obtain ⟨cs, f, h1, h2, h3⟩ := h.2 i x hx
   exact ⟨cs, f, h1, Ow.frame h2 fun b hb => hk b (List.mem_flatten.2 ⟨f, List.mem_of_getElem? h1, hb⟩), h3⟩⟩
end
instance (priority := low) {α : Type} [Ow α] : Ow (List α) where
 own w cs l fp := (l = [] /\ fp = [] /\ ∃ A c, cs = [.slice A 0 c]) ∨
  ∃ b c cur fps, cs = [.slice (some ⟨b, 0, none⟩) l.length c] /\ l.length <= big /\ l.length <= c /\ Row w b cur /\ l.length * Rep.size α <= cur.size /\ Els w cur l fps /\ fp = b :: fps.flatten
 olen h := by
  rcases h with ⟨_, _, _, _, rfl⟩ | ⟨_, _, _, _, rfl, _⟩ <;> rfl
 frame h hk := by
  rcases h with h | ⟨b, c, cur, fps, h1, h2, h3, h4, h5, h6, rfl⟩
  ·exact .inl h
  ·exact .inr ⟨b, c, cur, fps, h1, h2, h3, h4.keep (hk b List.mem_cons_self), h5, h6.frame fun x hx => hk x (List.mem_cons_of_mem _ hx), rfl⟩
 reads h hk := by
  rcases h with ⟨rfl, _, A, c, rfl⟩ | ⟨b, c, cur, fps, rfl, h2, h3, h4, h5, h6, rfl⟩
  ·exact ⟨A, c, rfl, by simp, At.nil⟩
  ·refine ⟨_, c, rfl, h2, fun _ => ⟨b, 0, rfl, hk b List.mem_cons_self, fun i x hx => ?_⟩⟩
   obtain ⟨cs, f, g1, g2, g3⟩ := h6.2 i x hx;exact ⟨cs, Ow.reads g2 fun y hy => hk y (List.mem_cons_of_mem _ (List.mem_flatten.2 ⟨f, List.mem_of_getElem? g1, hy⟩)), fun j v hv => by rw [Nat.zero_add, h4.cell]; exact g3 j v hv⟩
 lt {w cs l fp} h := by
  rcases h with ⟨_, rfl, _⟩ | ⟨b, c, cur, fps, h1, h2, h3, h4, h5, h6, rfl⟩
  ·simp
  ·intro x hx
   rcases List.mem_cons.1 hx with rfl | hx
   ·exact h4.lt
   ·obtain ⟨f, hf, hx⟩ := List.mem_flatten.1 hx
    obtain ⟨i, hi, rfl⟩ := List.getElem_of_mem hf;have hi' : i < l.length := by rw [<- h6.1]; exact hi
    obtain ⟨cs, f, g1, g2, _⟩ := h6.2 i _ (List.getElem?_eq_getElem hi');rw [List.getElem?_eq_getElem hi] at g1;injection g1 with g1;rw [g1] at hx;exact Ow.lt g2 x hx
section
variable {fp fp' : List Nat} {w w1 w2 : World}
end
section
variable {α : Type} [Ow α] {w w' : World} {cur cur' : Array Value} {l : List α} {fps : List (List Nat)}
end
theorem Qic {w : World} {base : Nat} {e : TypeId} {v : Value} {l : List Str} (h : w.ownsRow base e 1 v l.length (l.map vstr)) (hb : ∀ s ∈ l, s.length <= big) (hl : l.length <= big) :
 ∃ A c, v = .slice A l.length c /\ At w w.heap.size A l := by
 obtain ⟨h1, ⟨hv, hn⟩ | ⟨g, cap, cur, hv, hg, hh, hn, hm, hs, ht⟩⟩ := h
 ·refine ⟨none, 0, by rw [hv, hn], ?_⟩
  have : l = [] := List.eq_nil_of_length_eq_zero hn;subst this; exact At.nil
 ·refine ⟨_, cap, hv, fun _ => ⟨g, 0, rfl, ?_, fun i x hx => ⟨[vstr x], ⟨rfl, hb x (List.mem_of_getElem? hx)⟩, fun j u hj => ?_⟩⟩⟩
  ·rcases Nat.lt_or_ge g w.heap.size with hlt | hge
   ·exact hlt
   ·rw [Array.getElem?_eq_none hge] at hh; cases hh
  ·have hi : i < l.length := (List.getElem?_eq_some_iff.1 hx).1
   match j, hj with
   |0, hj =>
    simp only [List.getElem?_cons_zero, Option.some.injEq] at hj;have hc : w.cell? ⟨g, i, none⟩ = cur[i]? := by simp [World.cell?, hh]
    have : (cur.toList.take (l.length * 1))[i]? = some (vstr x) := by rw [ht, List.getElem?_map, hx]; rfl
    rw [List.getElem?_take_of_lt (by omega)] at this;simp only [Rep.size, Nat.mul_one, Nat.zero_add, Nat.add_zero];rw [hc, <- hj];simpa using this
theorem QmC {w : World} {base : Nat} {e : TypeId} {size n n' c : Nat} {A : Option Addr} {xs : List Value} (h : w.ownsRow base e size (.slice A n' c) n xs) : n <= c := by
 obtain ⟨h1, ⟨hv, hn⟩ | ⟨g, cap, cur, hv, hg, hh, hn, hm⟩⟩ := h
 ·omega
 ·injection hv with h1 h2 h3; omega
theorem QiW {w : World} {base : Nat} {e : TypeId} (hb : base <= w.heap.size) : (w.alloc (.cells #[] e)).ownsRow base e 1 (.slice (some ⟨w.heap.size, 0, none⟩) 0 0) 0 [] :=
 ⟨rfl, .inr ⟨w.heap.size, 0, #[], rfl, hb, heap_alloc_new w _, Nat.le_refl _, Nat.zero_le _, rfl, rfl⟩⟩
end Pm
end
section
namespace Pl
abbrev Wait := Int × Str
abbrev Disk := List Str × List Wait × Bool
open Classical in
noncomputable def later (s : Str) (txg : Int) : Bool := decide (∃ r, IsRoot s r /\ txg < r.txg)
end Pl
end
end Go.Proofs.YtdjkdcokjoiokaaGreatDoor

/- Plain facts on the texts of the pool: decimal numerals, records of fields, pointers, roots. No program is in sight here: nothing is assumed. -/
import Derived.Lib.ItoaNum
import Derived.Lib.AtoiAll
import Derived.Lib.IndexMore
import Derived.Lib.IndexLaws
import Derived.Lib.IndexBytes
import Derived.Lib.CountLaws
import Derived.Lib.Split
import Derived.Lib.Join
namespace Go.Proofs.YtdjkdcokjoiokaaGreatDoor
namespace Pl

abbrev Str := List UInt8
def dec (n : Nat) : Str := Lib.decDigits n
/-- The character of a digit. -/
def dch (n : Nat) : UInt8 := UInt8.ofNat (48 + n)

def isDig (c : UInt8) : Bool := decide (48 ≤ c.toNat) && decide (c.toNat ≤ 57)
def dgt (c : UInt8) : Nat := c.toNat - 48
def val (s : Str) : Nat := s.foldl (fun a c => a * 10 + dgt c) 0
/-- A numeral as it is written: digits, one to nine, none in vain ahead. -/
def canon (s : Str) : Bool := decide (s ≠ []) && decide (s.length ≤ 9) && s.all isDig && (decide (s.length ≤ 1) || decide (s.head? ≠ some 48))

theorem dec_small {n : Nat} (h : n < 10) : dec n = [dch n] := Lib.decDigits_one h
theorem dec_big {n : Nat} (h : ¬ n < 10) : dec n = dec (n / 10) ++ [dch (n % 10)] := by
  show Lib.decDigits n = _; rw [Lib.decDigits, dif_neg h]; rfl

theorem dch_toNat {n : Nat} (h : n < 10) : (dch n).toNat = 48 + n := by
  unfold dch; rw [UInt8.toNat_ofNat_of_lt' (by show 48 + n < 256; omega)]
theorem dgt_dch {n : Nat} (h : n < 10) : dgt (dch n) = n := by unfold dgt; rw [dch_toNat h]; omega
theorem isDig_iff (c : UInt8) : isDig c = true ↔ 48 ≤ c.toNat ∧ c.toNat ≤ 57 := by simp [isDig]
theorem isDig_dch {n : Nat} (h : n < 10) : isDig (dch n) = true := by rw [isDig_iff, dch_toNat h]; omega
theorem dch_dgt {c : UInt8} (h : isDig c = true) : dch (dgt c) = c := by
  have h' := (isDig_iff c).1 h
  apply UInt8.toNat_inj.1
  rw [dch_toNat (by unfold dgt; omega)]; unfold dgt; omega
theorem dgt_lt {c : UInt8} (h : isDig c = true) : dgt c < 10 := by have := (isDig_iff c).1 h; unfold dgt; omega

theorem val_snoc (s : Str) (c : UInt8) : val (s ++ [c]) = val s * 10 + dgt c := by simp [val]

theorem snoc_ind {p : Str → Prop} (h0 : p []) (h1 : ∀ s c, p s → p (s ++ [c])) (s : Str) : p s := by
  have key : ∀ n, ∀ s : Str, s.length = n → p s := by
    intro n
    induction n with
    | zero => intro s hs; rw [List.eq_nil_of_length_eq_zero hs]; exact h0
    | succ n ih =>
      intro s hs
      have hne : s ≠ [] := by intro e; subst e; simp at hs
      rw [← List.dropLast_concat_getLast hne]
      exact h1 _ _ (ih _ (by simp; omega))
  exact key _ s rfl

theorem val_dec (n : Nat) : val (dec n) = n := by
  induction n using Nat.strongRecOn with
  | _ n ih =>
    by_cases h : n < 10
    · rw [dec_small h]; simp [val, dgt_dch h]
    · rw [dec_big h, val_snoc, ih (n / 10) (by omega), dgt_dch (by omega)]; omega

theorem dec_inj {m n : Nat} (h : dec m = dec n) : m = n := by rw [← val_dec m, ← val_dec n, h]

theorem dec_ne_nil (n : Nat) : dec n ≠ [] := by
  by_cases h : n < 10
  · rw [dec_small h]; simp
  · rw [dec_big h]; simp

theorem dec_all (n : Nat) : (dec n).all isDig = true := by
  induction n using Nat.strongRecOn with
  | _ n ih =>
    by_cases h : n < 10
    · rw [dec_small h]; simp [isDig_dch h]
    · rw [dec_big h, List.all_append, ih (n / 10) (by omega)]; simp [isDig_dch (show n % 10 < 10 by omega)]

theorem dec_head (n : Nat) (h0 : n ≠ 0) : (dec n).head? ≠ some 48 := by
  induction n using Nat.strongRecOn with
  | _ n ih =>
    by_cases h : n < 10
    · rw [dec_small h]
      simp only [List.head?_cons, ne_eq, Option.some.injEq]
      intro e
      have := congrArg UInt8.toNat e
      rw [dch_toNat h] at this
      simp at this; omega
    · rw [dec_big h]
      have := ih (n / 10) (by omega) (by omega)
      have hne := dec_ne_nil (n / 10)
      cases hd : dec (n / 10) with
      | nil => exact absurd hd hne
      | cons a b => rw [hd] at this; simpa using this

theorem dec_length_le (k n : Nat) (h : n < 10 ^ (k + 1)) : (dec n).length ≤ k + 1 := by
  induction k generalizing n with
  | zero => rw [dec_small (by simpa using h)]; simp
  | succ k ih =>
    by_cases hn : n < 10
    · rw [dec_small hn]; simp
    · rw [dec_big hn]
      have := ih (n / 10) (by rw [Nat.pow_succ] at h; omega)
      simp; omega

theorem canon_iff (s : Str) : canon s = true ↔ s ≠ [] ∧ s.length ≤ 9 ∧ s.all isDig = true ∧ (s.length ≤ 1 ∨ s.head? ≠ some 48) := by
  simp only [canon, Bool.and_eq_true, Bool.or_eq_true, decide_eq_true_eq, and_assoc]

theorem canon_dec {n : Nat} (h : n < 1000000000) : canon (dec n) = true := by
  rw [canon_iff]
  refine ⟨dec_ne_nil n, dec_length_le 8 n (by simpa using h), dec_all n, ?_⟩
  by_cases h0 : n = 0
  · left; subst h0; rw [dec_small (by omega)]; simp
  · right; exact dec_head n h0

theorem val_lt (s : Str) (h : s.all isDig = true) : val s < 10 ^ s.length := by
  induction s using snoc_ind with
  | h0 => simp [val]
  | h1 s c ih =>
    rw [List.all_append] at h
    simp only [Bool.and_eq_true, List.all_cons, List.all_nil, Bool.and_true] at h
    rw [val_snoc, List.length_append, List.length_singleton, Nat.pow_succ]
    have := ih h.1; have := dgt_lt h.2; omega

/-- Digits, none in vain ahead, are the numeral of their number. -/
theorem dec_val (s : Str) (hne : s ≠ []) (h : s.all isDig = true) (hz : s.length ≤ 1 ∨ s.head? ≠ some 48) : dec (val s) = s := by
  induction s using snoc_ind with
  | h0 => exact absurd rfl hne
  | h1 s c ih =>
    rw [List.all_append] at h
    simp only [Bool.and_eq_true, List.all_cons, List.all_nil, Bool.and_true] at h
    have hc := dgt_lt h.2
    rw [val_snoc]
    by_cases hs : s = []
    · subst hs
      rw [dec_small (by simp [val]; exact hc)]
      simp [val, dch_dgt h.2]
    · have hz' : s.length ≤ 1 ∨ s.head? ≠ some 48 := by
        right
        rcases hz with hz | hz
        · have : s.length = 0 := by simp only [List.length_append, List.length_singleton] at hz; omega
          exact absurd (List.eq_nil_of_length_eq_zero this) hs
        · cases s with
          | nil => exact absurd rfl hs
          | cons a b => simpa using hz
      have hi := ih hs h.1 hz'
      have hpos : val s ≠ 0 := by
        intro e
        rw [e, dec_small (by omega)] at hi
        rcases hz with hz | hz
        · have : s.length = 0 := by simp only [List.length_append, List.length_singleton] at hz; omega
          exact hs (List.eq_nil_of_length_eq_zero this)
        · rw [← hi] at hz
          exact hz (by simp; rfl)
      rw [dec_big (by omega), show (val s * 10 + dgt c) / 10 = val s by omega, show (val s * 10 + dgt c) % 10 = dgt c by omega, hi, dch_dgt h.2]

theorem dec_val_canon {s : Str} (h : canon s = true) : dec (val s) = s := by
  obtain ⟨h1, _, h3, h4⟩ := (canon_iff s).1 h
  exact dec_val s h1 h3 h4

theorem val_canon_lt {s : Str} (h : canon s = true) : val s < 1000000000 := by
  obtain ⟨_, h2, h3, _⟩ := (canon_iff s).1 h
  have := val_lt s h3
  exact Nat.lt_of_lt_of_le this (Nat.le_trans (Nat.pow_le_pow_right (by omega) h2) (by decide))

/-- A text is a numeral of at most nine digits just where it is written for a number. -/
theorem canon_iff_dec (s : Str) : canon s = true ↔ ∃ n, n < 1000000000 ∧ s = dec n :=
  ⟨fun h => ⟨val s, val_canon_lt h, (dec_val_canon h).symm⟩, fun ⟨n, hn, e⟩ => by rw [e]; exact canon_dec hn⟩

/-! ### NumPut, NumGet -/
def numPut (n : Int) : Str := if 0 ≤ n ∧ n ≤ 999999999 then dec n.toNat else []
def numGet (s : Str) : Option Nat := if canon s then some (val s) else none

theorem numGet_dec {n : Nat} (h : n < 1000000000) : numGet (dec n) = some n := by simp [numGet, canon_dec h, val_dec]
theorem numGet_some {s : Str} {n : Nat} (h : numGet s = some n) : s = dec n ∧ n < 1000000000 := by
  unfold numGet at h
  split at h
  · rename_i hc; injection h with h; subst h; exact ⟨(dec_val_canon hc).symm, val_canon_lt hc⟩
  · cases h
theorem numGet_none {s : Str} (h : numGet s = none) (n : Nat) (hn : n < 1000000000) : s ≠ dec n := by
  intro e; subst e; rw [numGet_dec hn] at h; cases h

/-! ### Records -/
def item (s : Str) : Str := dec s.length ++ (58 :: s)
def enc (l : List Str) : Str := l.flatMap item
theorem enc_nil : enc [] = [] := rfl
theorem enc_cons (x : Str) (l : List Str) : enc (x :: l) = item x ++ enc l := rfl
theorem enc_append (a b : List Str) : enc (a ++ b) = enc a ++ enc b := by simp [enc]
theorem enc_single (x : Str) : enc [x] = item x := by simp [enc]

/-- A numeral, a colon, the rest: all three can be told. -/
theorem colon_inj : ∀ {a b x y : Str}, a.all isDig = true → b.all isDig = true → a ++ 58 :: x = b ++ 58 :: y → a = b ∧ x = y
  | [], [], x, y, _, _, h => by simpa using h
  | [], c :: b, x, y, _, hb, h => by
    simp only [List.nil_append, List.cons_append, List.cons.injEq] at h
    simp only [List.all_cons, Bool.and_eq_true] at hb
    rw [← h.1] at hb; exact absurd hb.1 (by decide)
  | c :: a, [], x, y, ha, _, h => by
    simp only [List.nil_append, List.cons_append, List.cons.injEq] at h
    simp only [List.all_cons, Bool.and_eq_true] at ha
    rw [h.1] at ha; exact absurd ha.1 (by decide)
  | c :: a, d :: b, x, y, ha, hb, h => by
    simp only [List.cons_append, List.cons.injEq] at h
    simp only [List.all_cons, Bool.and_eq_true] at ha hb
    obtain ⟨h1, h2⟩ := colon_inj ha.2 hb.2 h.2
    exact ⟨by rw [h.1, h1], h2⟩

theorem item_inj {a b x y : Str} (h : item a ++ x = item b ++ y) : a = b ∧ x = y := by
  unfold item at h
  simp only [List.append_assoc, List.cons_append] at h
  obtain ⟨h1, h2⟩ := colon_inj (dec_all _) (dec_all _) h
  have hl := dec_inj h1
  exact List.append_inj h2 hl

theorem item_ne_nil (s : Str) : item s ≠ [] := by unfold item; simp

theorem enc_prefix : ∀ {a b : List Str} {r : Str}, enc b = enc a ++ r → ∃ c, b = a ++ c ∧ enc c = r
  | [], b, r, h => ⟨b, rfl, by simpa [enc_nil] using h⟩
  | x :: a, [], r, h => by
    rw [enc_nil, enc_cons, List.append_assoc] at h
    exact absurd (List.append_eq_nil_iff.1 h.symm).1 (item_ne_nil x)
  | x :: a, y :: b, r, h => by
    rw [enc_cons, enc_cons, List.append_assoc] at h
    obtain ⟨h1, h2⟩ := item_inj h
    obtain ⟨c, h3, h4⟩ := enc_prefix h2
    exact ⟨c, by rw [h1, h3]; rfl, h4⟩

theorem enc_inj {a b : List Str} (h : enc a = enc b) : a = b := by
  obtain ⟨c, h1, h2⟩ := enc_prefix (a := b) (b := a) (r := []) (by simpa using h)
  cases c with
  | nil => simpa using h1
  | cons x c => rw [enc_cons] at h2; exact absurd (List.append_eq_nil_iff.1 h2).1 (item_ne_nil x)

theorem enc_take (l : List Str) (k : Nat) (h : k < l.length) : enc (l.take (k + 1)) = enc (l.take k) ++ item l[k] := by
  rw [List.take_succ_eq_append_getElem h, enc_append, enc_single]
theorem enc_take_le (l : List Str) (k : Nat) : (enc (l.take k)).length ≤ (enc l).length := by
  conv => rhs; rw [← List.take_append_drop k l, enc_append]
  simp
theorem item_length (x : Str) : (item x).length = (dec x.length).length + 1 + x.length := by unfold item; simp; omega
def fieldsPut (l : List Str) : Option Str := if l.length ≤ 60 ∧ (enc l).length ≤ 2048 then some (enc l) else none
/-- What a text is the record of. -/
def IsRec (s : Str) (l : List Str) : Prop := l.length ≤ 60 ∧ s.length ≤ 2048 ∧ enc l = s
theorem isRec_unique {s : Str} {a b : List Str} (ha : IsRec s a) (hb : IsRec s b) : a = b := enc_inj (ha.2.2.trans hb.2.2.symm)
theorem fieldsPut_some {l : List Str} {s : Str} : fieldsPut l = some s ↔ IsRec s l := by
  unfold fieldsPut IsRec
  constructor
  · intro h
    split at h
    · rename_i hc; injection h with h; subst h; exact ⟨hc.1, hc.2, rfl⟩
    · cases h
  · rintro ⟨h1, h2, rfl⟩
    rw [if_pos ⟨h1, h2⟩]

theorem fieldsPut_long {l : List Str} {k : Nat} (h : 2048 < (enc (l.take k)).length) : fieldsPut l = none := by
  unfold fieldsPut
  rw [if_neg]
  have := enc_take_le l k
  omega
theorem fieldsPut_wide {l : List Str} {k : Nat} (hk : k < l.length) (h : 2048 < l[k].length) : fieldsPut l = none := by
  refine fieldsPut_long (k := k + 1) ?_
  rw [enc_take l k hk, List.length_append, item_length]
  omega
theorem fieldsPut_many {l : List Str} (h : 60 < l.length) : fieldsPut l = none := by unfold fieldsPut; rw [if_neg]; omega
theorem fieldsPut_ok {l : List Str} (h : l.length ≤ 60) (h2 : (enc l).length ≤ 2048) : fieldsPut l = some (enc l) := by unfold fieldsPut; rw [if_pos ⟨h, h2⟩]
/-- One field is told from what stands ahead of the rest. -/
theorem rec_cut {s r : Str} {out l : List Str} (h : IsRec s l) (e : s = enc out ++ r) : ∃ c, l = out ++ c ∧ enc c = r := by
  exact enc_prefix (a := out) (b := l) (r := r) (by rw [h.2.2, e])


/-! ### The reference's way to read a numeral at the beginning of a text -/
def digs (s : Str) : Str := (s.takeWhile isDig).take 9
def l1num (s : Str) : Nat × Nat := if 1 < (digs s).length ∧ s.head? = some 48 then (0, 1) else (val (digs s), (digs s).length)

theorem digs_all (s : Str) : (digs s).all isDig = true := by
  rw [List.all_eq_true]
  intro x hx
  have := List.all_takeWhile (p := isDig) (l := s)
  rw [List.all_eq_true] at this
  exact this x (List.mem_of_mem_take hx)
theorem digs_len (s : Str) : (digs s).length ≤ 9 := by unfold digs; rw [List.length_take]; omega
theorem digs_prefix (s : Str) : digs s = s.take (digs s).length := by
  unfold digs
  rw [List.length_take]
  have h : s.takeWhile isDig <+: s := List.takeWhile_prefix _
  have h2 : (s.takeWhile isDig).take 9 <+: s := (List.take_prefix _ _).trans h
  rw [List.prefix_iff_eq_take.1 h2]; simp
theorem digs_of {d r : Str} (hd : d.all isDig = true) (hl : d.length ≤ 9) (hr : ∀ c, r.head? = some c → isDig c = false) : digs (d ++ r) = d := by
  unfold digs
  have h1 : (d ++ r).takeWhile isDig = d := by
    rw [List.takeWhile_append_of_pos (by rw [List.all_eq_true] at hd; exact hd)]
    cases r with
    | nil => simp
    | cons c r => rw [List.takeWhile_cons_of_neg (by simpa using hr c rfl)]; simp
  rw [h1, List.take_of_length_le hl]
theorem digs_head (s : Str) (h : 0 < (digs s).length) : (digs s).head? = s.head? := by
  rw [digs_prefix s]
  cases s with
  | nil => simp
  | cons a b =>
    have : (digs (a :: b)).length = (digs (a :: b)).length - 1 + 1 := by omega
    rw [this]; rfl

theorem digs_exit {s : Str} {k : Nat} (hk : k ≤ s.length) (hall : (s.take k).all isDig = true) (h9 : k ≤ 9) (hx : k = 9 ∨ ∀ c, s[k]? = some c → isDig c = false) : digs s = s.take k := by
  have hlen : (s.take k).length = k := by rw [List.length_take]; omega
  rcases hx with rfl | hx
  · unfold digs
    have h1 : s.takeWhile isDig = s.take 9 ++ (s.drop 9).takeWhile isDig := by
      conv => lhs; rw [← List.take_append_drop 9 s]
      rw [List.takeWhile_append_of_pos (by rw [List.all_eq_true] at hall; exact hall)]
    rw [h1, List.take_append_of_le_length (by omega), List.take_of_length_le (by omega)]
  · have := digs_of (d := s.take k) (r := s.drop k) hall (by omega) (by intro c hc; rw [List.head?_drop] at hc; exact hx c hc)
    rwa [List.take_append_drop] at this
theorem val_take (s : Str) (k : Nat) (h : k < s.length) : val (s.take (k + 1)) = val (s.take k) * 10 + dgt s[k] := by
  rw [List.take_succ_eq_append_getElem h, val_snoc]
theorem l1num_le (s : Str) : (l1num s).2 ≤ 9 ∧ (l1num s).2 ≤ s.length := by
  have h1 := digs_len s
  have h2 : (digs s).length ≤ s.length := by rw [digs_prefix s, List.length_take]; omega
  unfold l1num
  split
  · rename_i h; simp only; omega
  · exact ⟨h1, h2⟩

theorem l1num_lt (s : Str) : (l1num s).1 < 1000000000 := by
  unfold l1num
  split
  · simp
  · exact Nat.lt_of_lt_of_le (val_lt _ (digs_all s)) (Nat.le_trans (Nat.pow_le_pow_right (by omega) (digs_len s)) (by decide))
/-- A numeral in front of what is no digit is read whole. -/
theorem l1num_dec {n : Nat} {r : Str} (h : n < 1000000000) (hr : ∀ c, r.head? = some c → isDig c = false) : l1num (dec n ++ r) = (n, (dec n).length) := by
  obtain ⟨h1, h2, h3, h4⟩ := (canon_iff _).1 (canon_dec h)
  have hd : digs (dec n ++ r) = dec n := digs_of h3 h2 hr
  unfold l1num
  rw [hd, if_neg, val_dec]
  rintro ⟨ha, hb⟩
  rcases h4 with h4 | h4
  · omega
  · cases hc : dec n with
    | nil => exact h1 hc
    | cons a b => rw [hc] at hb h4; exact h4 (by simpa using hb)

/-- What is read as a numeral and ends at what is no digit is one as it is written. -/
theorem l1num_back {s : Str} {n k : Nat} (h : l1num s = (n, k)) (hk : 0 < k) (hend : ∀ c, s[k]? = some c → isDig c = false) : s.take k = dec n ∧ n < 1000000000 := by
  unfold l1num at h
  split at h
  · rename_i hc
    injection h with h1 h2
    subst h1; subst h2
    exfalso
    have hp := digs_prefix s
    have h1 : s[1]? = (digs s)[1]? := by
      have := List.getElem?_take_of_lt (l := s) (show 1 < (digs s).length by omega); rw [← hp] at this; exact this.symm
    have h2 : (digs s)[1]? = some ((digs s)[1]'(by omega)) := List.getElem?_eq_getElem _
    have h3 := hend _ (h1.trans h2)
    have h4 := List.all_eq_true.1 (digs_all s) _ (List.getElem_mem (show 1 < (digs s).length by omega))
    rw [h4] at h3; cases h3
  · rename_i hc
    injection h with h1 h2
    subst h1; subst h2
    have hz : (digs s).length ≤ 1 ∨ (digs s).head? ≠ some 48 := by
      rw [digs_head s hk]
      by_cases h1 : (digs s).length ≤ 1
      · exact .inl h1
      · right; intro e; exact hc ⟨by omega, e⟩
    have hcan : canon (digs s) = true := by
      rw [canon_iff]
      exact ⟨by intro e; rw [e] at hk; simp at hk, digs_len s, digs_all s, hz⟩
    rw [← digs_prefix s]
    exact ⟨(dec_val_canon hcan).symm, val_canon_lt hcan⟩

/-- The reference's NumGet. -/
theorem numGet_l1num (s : Str) : numGet s = if (l1num s).2 = 0 ∨ (l1num s).2 ≠ s.length then none else some (l1num s).1 := by
  cases h : numGet s with
  | some n =>
    obtain ⟨h1, h2⟩ := numGet_some h
    have h3 := l1num_dec (r := []) h2 (by simp)
    rw [List.append_nil, ← h1] at h3
    rw [h3, if_neg]
    intro hh
    have : (dec n).length ≠ 0 := by have := dec_ne_nil n; intro e; exact this (List.eq_nil_of_length_eq_zero e)
    rw [← h1] at this
    simp only at hh
    omega
  | none =>
    split
    · rfl
    · rename_i hh
      exfalso
      have hb := l1num_back (s := s) (n := (l1num s).1) (k := (l1num s).2) rfl (by omega) (by
        intro c hc
        rw [List.getElem?_eq_none (by omega)] at hc; cases hc)
      rw [List.take_of_length_le (by omega)] at hb
      exact numGet_none h _ hb.2 hb.1

/-! ### One field at the beginning of a text, as either reader finds it -/
/-- A text that is not empty and begins with no field is no record's rest. -/
theorem rest_item {r : Str} {c : List Str} (hc : enc c = r) (hr : r ≠ []) : ∃ x c', c = x :: c' ∧ r = dec x.length ++ 58 :: (x ++ enc c') := by
  cases c with
  | nil => exact absurd hc.symm hr
  | cons x c' => exact ⟨x, c', rfl, by rw [← hc, enc_cons]; unfold item; simp⟩

theorem colon_not_dig : ∀ c : UInt8, (some (58 : UInt8)) = some c → isDig c = false := by
  intro c h; injection h with h; subst h; decide

/-- The reference's step: the numeral, the colon, so many bytes. -/
theorem l1_step {r : Str} {n k : Nat} (h : l1num r = (n, k)) (hk : 0 < k) (hc : r[k]? = some 58) (hn : n ≤ r.length - k - 1) :
    r = item ((r.drop (k + 1)).take n) ++ r.drop (k + 1 + n) := by
  obtain ⟨h1, _⟩ := l1num_back h hk (by intro c h'; rw [hc] at h'; exact colon_not_dig c h')
  have hlt : k < r.length := by
    rcases Nat.lt_or_ge k r.length with h' | h'
    · exact h'
    · rw [List.getElem?_eq_none h'] at hc; cases hc
  have hlen : ((r.drop (k + 1)).take n).length = n := by rw [List.length_take, List.length_drop]; omega
  unfold item
  rw [hlen, ← h1, List.append_assoc, List.cons_append, ← List.drop_drop (i := n) (j := k + 1), List.take_append_drop]
  have : r.drop k = 58 :: r.drop (k + 1) := by
    rw [List.drop_eq_getElem_cons hlt]
    rw [List.getElem?_eq_getElem hlt] at hc
    injection hc with hc; rw [hc]
  rw [← this, List.take_append_drop]

/-- Where the reference's step fails no record is left. -/
theorem l1_fail {r : Str} {c : List Str} {n k : Nat} (hs : r.length ≤ 2048) (hr : r ≠ []) (h : l1num r = (n, k)) (hf : k = 0 ∨ r[k]? ≠ some 58 ∨ r.length - k - 1 < n) : enc c ≠ r := by
  intro hc
  obtain ⟨x, c', _, e⟩ := rest_item hc hr
  have hx : x.length ≤ r.length := by rw [e]; simp; omega
  have h1 := l1num_dec (n := x.length) (r := 58 :: (x ++ enc c')) (by omega) (by intro c h; exact colon_not_dig c h)
  rw [← e, h] at h1
  injection h1 with h1 h2
  have hne := dec_ne_nil x.length
  have hlen : (dec x.length).length ≠ 0 := fun e => hne (List.eq_nil_of_length_eq_zero e)
  rcases hf with hf | hf | hf
  · omega
  · apply hf; rw [h2, e, List.getElem?_append_right (Nat.le_refl _)]; simp
  · have : r.length = k + 1 + (x.length + (enc c').length) := by rw [e, h2]; simp; omega
    omega

/-- The program's step: what stands ahead of the first colon is a numeral. -/
theorem cut_step {num tail : Str} {n : Nat} (h : numGet num = some n) (hn : n ≤ tail.length) : num ++ 58 :: tail = item (tail.take n) ++ tail.drop n := by
  obtain ⟨h1, _⟩ := numGet_some h
  unfold item
  rw [List.length_take, Nat.min_eq_left hn, List.append_assoc, List.cons_append, List.take_append_drop, h1]
theorem cut_fail {num tail : Str} {c : List Str} (hs : (num ++ 58 :: tail).length ≤ 2048) (hnum : (58 : UInt8) ∉ num) (hf : numGet num = none ∨ ∃ n, numGet num = some n ∧ tail.length < n) : enc c ≠ num ++ 58 :: tail := by
  intro hc
  obtain ⟨x, c', _, e⟩ := rest_item hc (by simp)
  have hx : x.length ≤ 2048 := by
    have := congrArg List.length e
    simp only [List.length_append, List.length_cons] at this hs
    omega
  have hnum' : (58 : UInt8) ∉ dec x.length := by
    intro hm
    have := List.all_eq_true.1 (dec_all x.length) _ hm
    exact absurd this (by decide)
  have key : ∀ {a b x y : Str}, (58 : UInt8) ∉ a → (58 : UInt8) ∉ b → a ++ 58 :: x = b ++ 58 :: y → a = b ∧ x = y := by
    intro a
    induction a with
    | nil =>
      intro b x y _ hb h
      cases b with
      | nil => simpa using h
      | cons c b => simp only [List.nil_append, List.cons_append, List.cons.injEq] at h; rw [← h.1] at hb; simp at hb
    | cons c a ih =>
      intro b x y ha hb h
      cases b with
      | nil => simp only [List.nil_append, List.cons_append, List.cons.injEq] at h; rw [h.1] at ha; simp at ha
      | cons d b =>
        simp only [List.cons_append, List.cons.injEq] at h
        obtain ⟨h1, h2⟩ := ih (fun hm => ha (List.mem_cons_of_mem _ hm)) (fun hm => hb (List.mem_cons_of_mem _ hm)) h.2
        exact ⟨by rw [h.1, h1], h2⟩
  obtain ⟨h1, h2⟩ := key hnum hnum' e
  rcases hf with hf | ⟨n, hf, hlt⟩
  · exact numGet_none hf x.length (by omega) h1
  · obtain ⟨h3, _⟩ := numGet_some hf
    have := dec_inj (h3.symm.trans h1)
    rw [h2] at hlt; simp at hlt; omega
theorem nocolon_fail {r : Str} {c : List Str} (hr : r ≠ []) (h : (58 : UInt8) ∉ r) : enc c ≠ r := by
  intro hc
  obtain ⟨x, c', _, e⟩ := rest_item hc hr
  rw [e] at h; simp at h

/-- Reading on from a place in a text. -/
theorem read_fail {s : Str} {out : List Str} {k n m : Nat} (hs : s.length ≤ 2048) (hk : k < s.length) (ho : s = enc out ++ s.drop k) (h : l1num (s.drop k) = (n, m)) (hf : m = 0 ∨ (s.drop k)[m]? ≠ some 58 ∨ (s.drop k).length - m - 1 < n) : ∀ l, ¬ IsRec s l := by
  intro l hl
  obtain ⟨c, _, hc⟩ := rec_cut hl ho
  refine l1_fail (r := s.drop k) (by rw [List.length_drop]; omega) (fun e => ?_) h hf hc
  have := congrArg List.length e
  rw [List.length_drop] at this; simp at this; omega
theorem read_step {s : Str} {out : List Str} {k n m : Nat} (ho : s = enc out ++ s.drop k) (h : l1num (s.drop k) = (n, m)) (hm : 0 < m) (hc : (s.drop k)[m]? = some 58) (hn : n ≤ (s.drop k).length - m - 1) :
    s = enc (out ++ [((s.drop (k + m + 1)).take n)]) ++ s.drop (k + m + 1 + n) := by
  have h1 := l1_step h hm hc hn
  rw [List.drop_drop, List.drop_drop] at h1
  rw [enc_append, enc_single, List.append_assoc, show k + m + 1 = k + (m + 1) from by omega, show k + (m + 1) + n = k + (m + 1 + n) from by omega, ← h1]
  exact ho

/-! ### The checksum -/
def sumStep (p : Nat × Nat) (c : UInt8) : Nat × Nat := ((p.1 + c.toNat + 1) % 9973, (p.2 + (p.1 + c.toNat + 1) % 9973) % 9973)
def sum2 (s : Str) : Nat × Nat := s.foldl sumStep (1, 0)
def sumOf (s : Str) : Nat := (sum2 s).1 * 9973 + (sum2 s).2
theorem sum2_snoc (s : Str) (c : UInt8) : sum2 (s ++ [c]) = sumStep (sum2 s) c := by simp [sum2]
theorem sum2_lt (s : Str) : (sum2 s).1 < 9973 ∧ (sum2 s).2 < 9973 := by
  induction s using snoc_ind with
  | h0 => simp [sum2]
  | h1 s c _ => rw [sum2_snoc]; exact ⟨Nat.mod_lt _ (by omega), Nat.mod_lt _ (by omega)⟩
theorem sumOf_le (s : Str) : sumOf s ≤ 99460728 := by have := sum2_lt s; unfold sumOf; omega

/-! ### Pointers -/
structure Ptr where
  pat : Int
  birth : Int
  size : Int
  sum : Int
  level : Int
  deriving DecidableEq
def hole : Ptr := ⟨0, 0, 0, 0, 0⟩
def ptrHole (p : Ptr) : Bool := decide (p = hole)
def rowOk (n : Int) : Bool := decide (8 ≤ n) && decide (n ≤ 63)
def ptrOk (p : Ptr) : Bool := ptrHole p || (rowOk p.pat && (decide (1 ≤ p.birth) && decide (p.birth ≤ 900)) && (decide (1 ≤ p.size) && decide (p.size ≤ 128)) && (decide (0 ≤ p.sum) && decide (p.sum ≤ 99460728)) && (decide (0 ≤ p.level) && decide (p.level ≤ 2)))
def dots (l : List Str) : Str := (l.intersperse [46]).flatten
def ptrText (p : Ptr) : Str := dots [dec p.pat.toNat, dec p.birth.toNat, dec p.size.toNat, dec p.sum.toNat, dec p.level.toNat]
def ptrPut (p : Ptr) : Str := if ptrOk p then (if ptrHole p then [45] else ptrText p) else []

theorem ptrOk_bounds {p : Ptr} (h : ptrOk p = true) : (0 ≤ p.pat ∧ p.pat ≤ 63) ∧ (0 ≤ p.birth ∧ p.birth ≤ 900) ∧ (0 ≤ p.size ∧ p.size ≤ 128) ∧ (0 ≤ p.sum ∧ p.sum ≤ 99460728) ∧ (0 ≤ p.level ∧ p.level ≤ 2) := by
  unfold ptrOk ptrHole rowOk at h
  simp only [Bool.or_eq_true, Bool.and_eq_true, decide_eq_true_eq] at h
  rcases h with rfl | h
  · decide
  · omega


theorem nine (n : Int) (h0 : 0 ≤ n) (h1 : n ≤ 999999999) : n.toNat < 1000000000 ∧ numPut n = dec n.toNat := ⟨by omega, by unfold numPut; rw [if_pos ⟨h0, h1⟩]⟩

/-! ### A text cut at a byte -/
def cutB (b : UInt8) : Str → List Str
  | [] => [[]]
  | c :: r => if c = b then [] :: cutB b r else
    match cutB b r with
    | h :: t => (c :: h) :: t
    | [] => [[c]]
theorem cutB_ne (b : UInt8) : ∀ s : Str, cutB b s ≠ []
  | [] => by simp [cutB]
  | c :: r => by
    unfold cutB
    split
    · simp
    · split <;> simp
theorem cutB_hit (b : UInt8) : ∀ (a r : Str), b ∉ a → cutB b (a ++ b :: r) = a :: cutB b r
  | [], r, _ => by simp [cutB]
  | c :: a, r, h => by
    have hc : c ≠ b := fun e => h (by rw [e]; exact List.mem_cons_self)
    rw [List.cons_append, cutB, if_neg hc, cutB_hit b a r (fun hm => h (List.mem_cons_of_mem _ hm))]
theorem cutB_one (b : UInt8) : ∀ (a : Str), b ∉ a → cutB b a = [a]
  | [], _ => by simp [cutB]
  | c :: a, h => by
    have hc : c ≠ b := fun e => h (by rw [e]; exact List.mem_cons_self)
    rw [cutB, if_neg hc, cutB_one b a (fun hm => h (List.mem_cons_of_mem _ hm))]
theorem cutB_join (b : UInt8) : ∀ s : Str, ((cutB b s).intersperse [b]).flatten = s
  | [] => by simp [cutB]
  | c :: r => by
    have ih := cutB_join b r
    have hne := cutB_ne b r
    unfold cutB
    split
    · rename_i h
      cases hd : cutB b r with
      | nil => exact absurd hd hne
      | cons x y => rw [hd] at ih; simp only [List.intersperse_cons_cons, List.flatten_cons, List.nil_append]; rw [ih, h]; rfl
    · cases hd : cutB b r with
      | nil => exact absurd hd hne
      | cons x y =>
        rw [hd] at ih
        cases y with
        | nil => simp at ih ⊢; exact ih
        | cons z y => simp only [List.intersperse_cons_cons, List.flatten_cons] at ih ⊢; rw [← ih]; simp
theorem dot_not_dec (n : Nat) : (46 : UInt8) ∉ dec n := by
  intro hm
  have := List.all_eq_true.1 (dec_all n) _ hm
  exact absurd this (by decide)
theorem dots_cut (a b c d e : Nat) : cutB 46 (dots [dec a, dec b, dec c, dec d, dec e]) = [dec a, dec b, dec c, dec d, dec e] := by
  have : dots [dec a, dec b, dec c, dec d, dec e] = dec a ++ 46 :: (dec b ++ 46 :: (dec c ++ 46 :: (dec d ++ 46 :: dec e))) := by simp [dots]
  rw [this, cutB_hit _ _ _ (dot_not_dec _), cutB_hit _ _ _ (dot_not_dec _), cutB_hit _ _ _ (dot_not_dec _), cutB_hit _ _ _ (dot_not_dec _), cutB_one _ _ (dot_not_dec _)]
theorem dots_back {s : Str} {l : List Str} (h : cutB 46 s = l) : dots l = s := by unfold dots; rw [← h, cutB_join]

/-! ### PtrGet -/
/-- What a text is the text of. -/
def IsPtr (s : Str) (p : Ptr) : Prop := ptrOk p = true ∧ ptrPut p = s
theorem isPtr_hole : IsPtr [45] hole := ⟨by decide, by decide⟩
theorem ptrText_cut (p : Ptr) : cutB 46 (ptrText p) = [dec p.pat.toNat, dec p.birth.toNat, dec p.size.toNat, dec p.sum.toNat, dec p.level.toNat] := dots_cut _ _ _ _ _
theorem ptrText_ne (p : Ptr) : ptrText p ≠ [45] := by
  intro e
  have := ptrText_cut p
  rw [e, show cutB 46 [45] = [[45]] from by decide] at this
  simp at this
theorem isPtr_text {s : Str} {p : Ptr} (h : IsPtr s p) (hs : s ≠ [45]) : ptrHole p = false ∧ s = ptrText p ∧ cutB 46 s = [dec p.pat.toNat, dec p.birth.toNat, dec p.size.toNat, dec p.sum.toNat, dec p.level.toNat] := by
  obtain ⟨h1, h2⟩ := h
  unfold ptrPut at h2
  rw [if_pos h1] at h2
  split at h2
  · exact absurd h2.symm hs
  · rename_i hh
    exact ⟨by simpa using hh, h2.symm, by rw [← h2]; exact ptrText_cut p⟩
theorem isPtr_hole_only {p : Ptr} (h : IsPtr [45] p) : p = hole := by
  obtain ⟨h1, h2⟩ := h
  unfold ptrPut at h2
  rw [if_pos h1] at h2
  split at h2
  · rename_i hh; simpa [ptrHole] using hh
  · exact absurd h2 (ptrText_ne p)
/-- The five numbers of a pointer's text read back. -/
theorem isPtr_nums {s : Str} {p : Ptr} (h : IsPtr s p) (hs : s ≠ [45]) :
    cutB 46 s = [dec p.pat.toNat, dec p.birth.toNat, dec p.size.toNat, dec p.sum.toNat, dec p.level.toNat] ∧
    p.pat.toNat < 1000000000 ∧ p.birth.toNat < 1000000000 ∧ p.size.toNat < 1000000000 ∧ p.sum.toNat < 1000000000 ∧ p.level.toNat < 1000000000 ∧
    p = ⟨p.pat.toNat, p.birth.toNat, p.size.toNat, p.sum.toNat, p.level.toNat⟩ := by
  obtain ⟨_, _, h3⟩ := isPtr_text h hs
  have hb := ptrOk_bounds h.1
  refine ⟨h3, by omega, by omega, by omega, by omega, by omega, ?_⟩
  cases p
  simp only [Ptr.mk.injEq] at *
  omega
theorem isPtr_unique {s : Str} {p q : Ptr} (hp : IsPtr s p) (hq : IsPtr s q) : p = q := by
  by_cases hs : s = [45]
  · subst hs; rw [isPtr_hole_only hp, isPtr_hole_only hq]
  · obtain ⟨a1, _, _, _, _, _, a2⟩ := isPtr_nums hp hs
    obtain ⟨b1, _, _, _, _, _, b2⟩ := isPtr_nums hq hs
    rw [a1] at b1
    simp only [List.cons.injEq, and_true] at b1
    rw [a2, b2, dec_inj b1.1, dec_inj b1.2.1, dec_inj b1.2.2.1, dec_inj b1.2.2.2.1, dec_inj b1.2.2.2.2]
/-- Five numerals with points between are the pointer's text, if it is one. -/
theorem ptr_of_cut {s : Str} {a b c d e : Nat} (h : cutB 46 s = [dec a, dec b, dec c, dec d, dec e]) : ptrText ⟨a, b, c, d, e⟩ = s := by
  rw [← dots_back h]; rfl
theorem ptr_len {s : Str} (hs : s ≠ [45]) (h : (cutB 46 s).length ≠ 5) : ∀ p, ¬ IsPtr s p := fun p hp => h (by rw [(isPtr_nums hp hs).1]; rfl)
theorem ptr_num {s : Str} {k : Nat} (hs : s ≠ [45]) (hk : k < (cutB 46 s).length) (h : numGet (cutB 46 s)[k] = none) : ∀ p, ¬ IsPtr s p := by
  intro p hp
  obtain ⟨h1, h2, h3, h4, h5, h6, _⟩ := isPtr_nums hp hs
  have key : ∀ x ∈ cutB 46 s, ∃ n, numGet x = some n := by
    rw [h1]
    intro x hx
    simp only [List.mem_cons, List.not_mem_nil, or_false] at hx
    rcases hx with rfl | rfl | rfl | rfl | rfl
    · exact ⟨_, numGet_dec h2⟩
    · exact ⟨_, numGet_dec h3⟩
    · exact ⟨_, numGet_dec h4⟩
    · exact ⟨_, numGet_dec h5⟩
    · exact ⟨_, numGet_dec h6⟩
  obtain ⟨n, hn⟩ := key _ (List.getElem_mem hk)
  rw [h] at hn; cases hn
theorem ptr_same {s : Str} {p : Ptr} {a b c d e : Nat} (hs : s ≠ [45]) (h : cutB 46 s = [dec a, dec b, dec c, dec d, dec e]) (hp : IsPtr s p) : p = ⟨a, b, c, d, e⟩ := by
  obtain ⟨h1, _, _, _, _, _, h2⟩ := isPtr_nums hp hs
  rw [h] at h1
  simp only [List.cons.injEq, and_true] at h1
  rw [h2, dec_inj h1.1, dec_inj h1.2.1, dec_inj h1.2.2.1, dec_inj h1.2.2.2.1, dec_inj h1.2.2.2.2]
theorem ptr_bad {s : Str} {a b c d e : Nat} (hs : s ≠ [45]) (h : cutB 46 s = [dec a, dec b, dec c, dec d, dec e]) (hb : ptrOk ⟨a, b, c, d, e⟩ = false ∨ ptrHole ⟨a, b, c, d, e⟩ = true) : ∀ p, ¬ IsPtr s p := by
  intro p hp
  have e1 := ptr_same hs h hp
  rcases hb with hb | hb
  · rw [← e1, hp.1] at hb; cases hb
  · rw [← e1, (isPtr_text hp hs).1] at hb; cases hb
theorem ptr_good {s : Str} {a b c d e : Nat} (h : cutB 46 s = [dec a, dec b, dec c, dec d, dec e]) (h1 : ptrOk ⟨a, b, c, d, e⟩ = true) (h2 : ptrHole ⟨a, b, c, d, e⟩ = false) : IsPtr s ⟨a, b, c, d, e⟩ := by
  refine ⟨h1, ?_⟩
  unfold ptrPut
  rw [if_pos h1, h2, ptr_of_cut h]
  rfl
theorem ptrPut_ne (p : Ptr) (h : ptrOk p = true) : ptrPut p ≠ [] := by
  unfold ptrPut
  rw [if_pos h]
  split
  · simp
  · intro e
    have := ptrText_cut p
    rw [e] at this; simp [cutB] at this

/-! ### Trees, roots -/
structure Tree where
  root : Ptr
  depth : Int
  many : Int
  deriving DecidableEq
structure Root where
  txg : Int
  tree : Tree
  deriving DecidableEq
def inR (n a b : Int) : Bool := decide (a ≤ n) && decide (n ≤ b)
def rootOk (r : Root) : Bool := inR r.txg 1 900 && ptrOk r.tree.root && inR r.tree.depth 0 2 && inR r.tree.many 1 16
def treeFields (t : Tree) : List Str := [ptrPut t.root, numPut t.depth, numPut t.many]
def fp (l : List Str) : Str := (fieldsPut l).getD []
def signed (f : List Str) : Str := fp (f ++ [dec (sumOf (fp f))])
def rootFields (r : Root) : List Str := [114, 111, 111, 116] :: numPut r.txg :: treeFields r.tree
def rootPut (r : Root) : Str := if rootOk r then signed (rootFields r) else []
def IsRoot (s : Str) (r : Root) : Prop := rootOk r = true ∧ rootPut r = s ∧ s ≠ []
theorem rootOk_bounds {r : Root} (h : rootOk r = true) : (1 ≤ r.txg ∧ r.txg ≤ 900) ∧ ptrOk r.tree.root = true ∧ (0 ≤ r.tree.depth ∧ r.tree.depth ≤ 2) ∧ (1 ≤ r.tree.many ∧ r.tree.many ≤ 16) := by
  unfold rootOk inR at h
  simp only [Bool.and_eq_true, decide_eq_true_eq] at h
  exact ⟨h.1.1.1, h.1.1.2, h.1.2, h.2⟩
theorem fp_some {l : List Str} {s : Str} (h : fp l = s) (hs : s ≠ []) : IsRec s l := by
  unfold fp at h
  cases hf : fieldsPut l with
  | none => rw [hf] at h; exact absurd h.symm hs
  | some t => rw [hf] at h; have ht : t = s := h; rw [ht] at hf; exact fieldsPut_some.1 hf
/-- What the fields of a root's text are. -/
theorem isRoot_fields {s : Str} {r : Root} {w : List Str} (h : IsRoot s r) (hw : IsRec s w) :
    w = [[114, 111, 111, 116], dec r.txg.toNat, ptrPut r.tree.root, dec r.tree.depth.toNat, dec r.tree.many.toNat, dec (sumOf (fp (rootFields r)))] ∧
    r.txg.toNat < 1000000000 ∧ r.tree.depth.toNat < 1000000000 ∧ r.tree.many.toNat < 1000000000 ∧ IsPtr (ptrPut r.tree.root) r.tree.root ∧
    r = ⟨r.txg.toNat, r.tree.root, r.tree.depth.toNat, r.tree.many.toNat⟩ := by
  obtain ⟨h1, h2, h3⟩ := h
  obtain ⟨b1, b2, b3, b4⟩ := rootOk_bounds h1
  unfold rootPut at h2
  rw [if_pos h1] at h2
  have hr := fp_some h2 h3
  have := isRec_unique hw hr
  refine ⟨?_, by omega, by omega, by omega, ⟨b2, rfl⟩, ?_⟩
  · rw [this]
    unfold rootFields treeFields
    rw [(nine r.txg (by omega) (by omega)).2, (nine r.tree.depth (by omega) (by omega)).2, (nine r.tree.many (by omega) (by omega)).2]
    rfl
  · obtain ⟨txg, root, depth, many⟩ := r
    simp only at b1 b3 b4
    have e1 : (txg.toNat : Int) = txg := by omega
    have e2 : (depth.toNat : Int) = depth := by omega
    have e3 : (many.toNat : Int) = many := by omega
    simp only [e1, e2, e3]
theorem isRec_len {s : Str} {w : List Str} (hw : IsRec s w) (h : w.length = 6) : s ≠ [] := by
  intro e
  rw [← hw.2.2] at e
  cases w with
  | nil => simp at h
  | cons x w => rw [enc_cons] at e; exact item_ne_nil x (List.append_eq_nil_iff.1 e).1

end Pl
end Go.Proofs.YtdjkdcokjoiokaaGreatDoor

/- The plain law of PoolForget: what a set of disks reads as without anything later than a group. No program is in sight. -/
namespace Go.Proofs.YtdjkdcokjoiokaaGreatDoor
namespace Pl
abbrev Wait := Int × Str
abbrev Disk := List Str × List Wait × Bool
abbrev Raid := List Disk
def cellOk (g : Bool) (s : Str) : Bool := decide (s.length ≤ 200) && (!g || decide (s = []))
def waitOk (x : Wait) : Bool := inR x.1 0 63 && decide (x.2.length ≤ 200)
def diskOk (d : Disk) : Bool := decide (d.1.length = 64) && decide (d.2.1.length ≤ 120) && d.1.all (cellOk d.2.2) && !(d.2.2 && decide (0 < d.2.1.length)) && d.2.1.all waitOk
def raidOk (r : Raid) : Bool := decide (r.length = 3) && r.all diskOk
def waits (d : Disk) : Bool := decide (0 < d.2.1.length)
def still (r : Raid) : Bool := raidOk r && !(r.any waits)
open Classical in
/-- Is the text that of a root of a later group? -/
noncomputable def later (s : Str) (txg : Int) : Bool := decide (∃ r, IsRoot s r ∧ txg < r.txg)
noncomputable def rowLater (r : Raid) (row : Nat) (txg : Int) : Bool := r.any fun d => later (d.1.getD row []) txg
/-- Is the row cleared? -/
noncomputable def clears (r : Raid) (txg : Int) (row : Nat) : Bool := (decide (row < 4) && rowLater r row txg) || (decide (4 ≤ row) && decide (row < 8))
def wipe (p : Nat → Bool) (l : List Str) : List Str := (List.range l.length).map fun i => if p i then [] else l.getD i []
noncomputable def forget (r : Raid) (txg : Int) : Raid := r.map fun d => (wipe (clears r txg) d.1, d.2)
noncomputable def poolForget (r : Raid) (txg : Int) : Raid × Bool := if still r && inR txg 1 900 then (forget r txg, true) else ([], false)
end Pl
end Go.Proofs.YtdjkdcokjoiokaaGreatDoor

/- Plain facts on what the program's own reading and writing of texts leans on: numerals as the library reads them, texts cut, split and joined. No program is in sight here: nothing is assumed. -/
namespace Go.Proofs.YtdjkdcokjoiokaaGreatDoor
namespace Pl

theorem parse_digs : ∀ (l : Str) (acc k : Nat), l.all isDig = true → acc < 10 ^ k → k + l.length ≤ 18 → Lib.parseUint10 acc l = .ok (l.foldl (fun a c => a * 10 + dgt c) acc)
  | [], acc, k, _, _, _ => rfl
  | c :: r, acc, k, h, ha, hk => by
    simp only [List.all_cons, Bool.and_eq_true] at h
    simp only [List.length_cons] at hk
    have hc := (isDig_iff c).1 h.1
    have hd := dgt_lt h.1
    have hp : 10 ^ k ≤ 10 ^ 17 := Nat.pow_le_pow_right (by omega) (by omega)
    have h17 : (10 : Nat) ^ 17 = 100000000000000000 := by decide
    have e : c.toNat - 48 = dgt c := rfl
    rw [Lib.parseUint10, if_pos hc, if_neg (by omega), e, if_neg (by omega), List.foldl_cons]
    exact parse_digs r _ (k + 1) h.2 (by rw [Nat.pow_succ]; omega) (by omega)

theorem atoi_dec (n : Nat) (h : n < 1000000000) : Lib.atoiAll (dec n) = .ok (n : Int) := by
  have h9 := dec_length_le 8 n (by simpa using h)
  have hall := dec_all n
  have hv := val_dec n
  have hne := dec_ne_nil n
  cases hd : dec n with
  | nil => exact absurd hd hne
  | cons c r =>
    rw [hd] at h9 hall hv
    have hcr := hall
    simp only [List.all_cons, Bool.and_eq_true] at hcr
    have hc := (isDig_iff c).1 hcr.1
    unfold Lib.atoiAll Lib.parseMag
    simp only
    rw [if_neg (show ¬ (c.toNat = 43 ∨ c.toNat = 45) by omega), if_neg (by simp), parse_digs (c :: r) 0 0 hall (by simp) (by omega)]
    have : List.foldl (fun a c => a * 10 + dgt c) 0 (c :: r) = n := hv
    rw [this]
    simp only
    rw [if_neg (by omega), if_neg (by omega), if_neg (by omega)]

theorem numPut_dec {v : Int} {s : Str} (h : numPut v = s) (hs : s ≠ []) : 0 ≤ v ∧ v ≤ 999999999 ∧ s = dec v.toNat := by
  unfold numPut at h
  split at h
  · rename_i hc; exact ⟨hc.1, hc.2, h.symm⟩
  · exact absurd h.symm hs

/-- How the program reads a numeral: what the library makes of it must be written alike. -/
theorem numGet_ok {s : Str} {v : Int} (h : Lib.atoiAll s = .ok v) : numGet s = if numPut v = s then some v.toNat else none := by
  have hs : s ≠ [] := by rintro rfl; cases h
  by_cases hp : numPut v = s
  · obtain ⟨h0, h1, rfl⟩ := numPut_dec hp hs
    rw [if_pos hp, numGet_dec (by omega)]
  · rw [if_neg hp]
    cases hg : numGet s with
    | none => rfl
    | some n =>
      obtain ⟨rfl, hn⟩ := numGet_some hg
      rw [atoi_dec n hn] at h
      injection h with h
      subst h
      exact absurd (by unfold numPut; rw [if_pos (by omega)]; simp) hp
theorem numGet_bad {s : Str} (h : ∀ v, Lib.atoiAll s ≠ .ok v) : numGet s = none := by
  cases hg : numGet s with
  | none => rfl
  | some n =>
    obtain ⟨rfl, hn⟩ := numGet_some hg
    exact absurd (atoi_dec n hn) (h _)
theorem numGet_long {s : Str} (h : 9 < s.length) : numGet s = none := by
  cases hg : numGet s with
  | none => rfl
  | some n =>
    obtain ⟨rfl, hn⟩ := numGet_some hg
    have := dec_length_le 8 n (by simpa using hn)
    omega

/-! ### one byte sought -/
theorem idx_miss {l : Str} {c : UInt8} (h : c ∉ l) : Lib.index l [c] = -1 := by
  rw [Lib.index_one]
  induction l with
  | nil => rfl
  | cons b l ih =>
    have hb : (b == c) = false := by rw [beq_eq_false_iff_ne]; rintro rfl; exact h List.mem_cons_self
    unfold Lib.indexByte
    rw [hb, ih fun hm => h (List.mem_cons_of_mem _ hm)]; rfl
theorem idx_hit : ∀ {a r : Str} {c : UInt8}, c ∉ a → Lib.index (a ++ c :: r) [c] = a.length
  | [], r, c, _ => by rw [Lib.index_one]; simp [Lib.indexByte]
  | b :: a, r, c, h => by
    have hb : (b == c) = false := by rw [beq_eq_false_iff_ne]; rintro rfl; exact h List.mem_cons_self
    have ih := idx_hit (r := r) (fun hm => h (List.mem_cons_of_mem _ hm))
    rw [Lib.index_one] at ih ⊢
    rw [List.cons_append, Lib.indexByte, hb, ih]
    have h1 : ((a.length : Int) == -1) = false := by rw [beq_eq_false_iff_ne]; omega
    rw [h1]; simp
theorem mem_parts {c : UInt8} : ∀ {l : Str}, c ∈ l → ∃ a r, l = a ++ c :: r ∧ c ∉ a
  | b :: l, h => by
    by_cases hb : c = b
    · subst hb; exact ⟨[], l, rfl, by simp⟩
    · obtain ⟨a, r, rfl, ha⟩ := mem_parts (List.mem_of_ne_of_mem hb h)
      exact ⟨b :: a, r, rfl, by simp [hb, ha]⟩

theorem cut_hit {a r : Str} {c : UInt8} (h : c ∉ a) : Lib.cut (a ++ c :: r) [c] = (a, r, true) := by
  unfold Lib.cut
  rw [idx_hit h, if_pos (by omega)]
  simp
theorem cut_miss {s : Str} {c : UInt8} (h : c ∉ s) : Lib.cut s [c] = (s, [], false) := by
  unfold Lib.cut
  rw [idx_miss h, if_neg (by omega)]

def ba (s : Str) : ByteArray := ⟨s.toArray⟩
theorem ba_list (s : Str) : (ba s).data.toList = s := by simp [ba]
theorem ba_ext (s : Str) (a b : Nat) : (ba s).extract a b = ba ((s.take b).drop a) := by
  apply ByteArray.ext
  unfold ba
  rw [ByteArray.data_extract]
  apply Array.toList_inj.1
  simp only [Array.toList_extract, List.extract_eq_take_drop, List.drop_take]
theorem ba_size (s : Str) : (ba s).size = s.length := by show s.toArray.size = _; simp

theorem split_all (c : UInt8) : ∀ (n : Nat) (s : Str), s.length ≤ n → Lib.splitB (ba [c]) 0 (Lib.countB (ba s) (ba [c])) (ba s) = (cutB c s).map ba ∧ Lib.countB (ba s) (ba [c]) + 1 = (cutB c s).length := by
  intro n
  induction n with
  | zero =>
    intro s hs
    have : s = [] := List.eq_nil_of_length_eq_zero (by omega)
    subst this
    have hm : Lib.indexB (ba []) (ba [c]) = -1 := by unfold Lib.indexB; rw [ba_list, ba_list]; exact idx_miss (by simp)
    rw [Lib.countB_miss _ _ hm, Lib.splitB_zero, cutB_one c [] (by simp)]
    exact ⟨rfl, rfl⟩
  | succ n ih =>
    intro s hs
    by_cases hm : c ∈ s
    · obtain ⟨a, r, rfl, ha⟩ := mem_parts hm
      have hi : Lib.indexB (ba (a ++ c :: r)) (ba [c]) = a.length := by unfold Lib.indexB; rw [ba_list, ba_list]; exact idx_hit ha
      have h1 : (ba [c]).size = 1 := by rw [ba_size]; rfl
      have hr : (ba (a ++ c :: r)).extract (a.length + (ba [c]).size) (ba (a ++ c :: r)).size = ba r := by
        rw [ba_ext, h1, ba_size, List.take_length, List.drop_append, List.drop_of_length_le (by omega)]
        simp
      have h0 : (ba (a ++ c :: r)).extract 0 (a.length + 0) = ba a := by rw [ba_ext]; simp
      obtain ⟨i1, i2⟩ := ih r (by simp at hs; omega)
      rw [Lib.countB_hit _ _ a.length (by omega) hi, hr, cutB_hit c a r ha, Nat.add_comm 1, Lib.splitB_hit _ _ _ _ _ hi, hr, h0, i1]
      exact ⟨rfl, by rw [List.length_cons, ← i2]⟩
    · have hi : Lib.indexB (ba s) (ba [c]) = -1 := by unfold Lib.indexB; rw [ba_list, ba_list]; exact idx_miss hm
      rw [Lib.countB_miss _ _ hi, Lib.splitB_zero, cutB_one c s hm]
      exact ⟨rfl, rfl⟩
theorem join_dots (l : List Str) : Lib.join ((l.map ba).map (·.data.toList)) (ba [46]).data.toList = dots l := by
  rw [List.map_map, ba_list]
  have : (fun x : ByteArray => x.data.toList) ∘ ba = id := by funext s; exact ba_list s
  rw [this, List.map_id]
  rfl

/-! ### records, read field by field -/
theorem get_many {s rest : Str} {out : List Str} (ho : s = enc out ++ rest) (hr : rest ≠ []) (h : 60 ≤ out.length) : ∀ l, ¬ IsRec s l := by
  intro l hl
  obtain ⟨c, rfl, hc⟩ := rec_cut hl ho
  have : c ≠ [] := by rintro rfl; exact hr hc.symm
  have h1 := hl.1
  have h2 : 0 < c.length := List.length_pos_iff.2 this
  rw [List.length_append] at h1
  omega
theorem get_nocolon {s rest : Str} {out : List Str} (ho : s = enc out ++ rest) (hr : rest ≠ []) (h : (58 : UInt8) ∉ rest) : ∀ l, ¬ IsRec s l := by
  intro l hl
  obtain ⟨c, rfl, hc⟩ := rec_cut hl ho
  exact nocolon_fail hr h hc
theorem get_num {s num tail : Str} {out : List Str} (hs : s.length ≤ 2048) (ho : s = enc out ++ (num ++ 58 :: tail)) (hn : (58 : UInt8) ∉ num) (hf : numGet num = none ∨ ∃ n, numGet num = some n ∧ tail.length < n) : ∀ l, ¬ IsRec s l := by
  intro l hl
  obtain ⟨c, rfl, hc⟩ := rec_cut hl ho
  refine cut_fail ?_ hn hf hc
  rw [ho, List.length_append] at hs
  omega
theorem get_step {s num tail : Str} {out : List Str} {n : Nat} (ho : s = enc out ++ (num ++ 58 :: tail)) (h : numGet num = some n) (hn : n ≤ tail.length) : s = enc (out ++ [tail.take n]) ++ tail.drop n := by
  rw [ho, cut_step h hn, enc_append, enc_single, List.append_assoc]
end Pl
end Go.Proofs.YtdjkdcokjoiokaaGreatDoor

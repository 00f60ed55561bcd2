/- Part 2 of seek_card: contracts, walks, laws; no condition beyond the statement's. -/
import Derived.Test.YtdjkdcokjoiokaaGreatDoorW01
set_option linter.all false
namespace Go.Proofs.YtdjkdcokjoiokaaGreatDoor
open Go.RowKit
namespace Aw
def AV.data : AV -> D
 |.d x => x
 |_ => .any
theorem Rel.data {σ : Sg} {S : Nat -> Prop} {H : List Blk} {w : World} {x : AV} {v : Value} (h : Rel σ S H w x v) : RelD S w x.data v := by
 cases h <;> first | assumption | exact .any _
def Blk.gen : Blk -> Nat
 |.none => 0
 |.row g _ => g
 |.arr g _ _ _ => g
 |.mp g _ => g
def Blk.dead : Blk -> Blk
 |.none => .none
 |.row g _ => .row (g + 1) []
 |.arr g sz T _ => .arr (g + 1) sz T []
 |.mp g _ => .mp (g + 1) []
def Blk.iceP (o : Nat) : Blk -> AV
 |.row _ cells => .d (.pd ((cells.drop o).map AV.data))
 |_ => .d .any
def Blk.iceS (off len : Nat) : Blk -> AV
 |.arr _ sz _ rows => .d (.sl true sz ((rows.drop off).take len))
 |_ => .d .any
def Blk.iceM : Blk -> AV
 |.mp _ l => .d (.mp l)
 |_ => .d .any
mutual
def AV.frz (k : Nat) (C : Blk) : AV -> AV
 |.d x => .d x
 |.agg l => .agg (AV.frzL k C l)
 |.tup l => .tup (AV.frzL k C l)
 |.ptr k' g o => bif k' == k && g == C.gen then C.iceP o else .ptr k' g o
 |.ept k' g i j => bif k' == k && g == C.gen then .d .any else .ept k' g i j
 |.osl k' g off len => bif k' == k && g == C.gen then C.iceS off len else .osl k' g off len
 |.rsl k' g n => bif k' == k && g == C.gen then .d .any else .rsl k' g n
 |.fn f l => .fn f (AV.frzL k C l)
 |.gh l cs => .gh (AV.frzL k C l) cs
 |.mp k' g => bif k' == k && g == C.gen then C.iceM else .mp k' g
def AV.frzL (k : Nat) (C : Blk) : List AV -> List AV
 |[] => []
 |x :: r => AV.frz k C x :: AV.frzL k C r
end
theorem AV.frzL_get (k : Nat) (C : Blk) : ∀ (l : List AV) (i : Nat), (AV.frzL k C l)[i]? = l[i]?.map (AV.frz k C)
 |[], i => by simp [AV.frzL]
 |x :: r, 0 => by simp [AV.frzL]
 |x :: r, i + 1 => by simp only [AV.frzL, List.getElem?_cons_succ]; exact AV.frzL_get k C r i
theorem AV.frzL_len (k : Nat) (C : Blk) : ∀ (l : List AV), (AV.frzL k C l).length = l.length
 |[] => rfl
 |x :: r => by simp only [AV.frzL, List.length_cons]; rw [AV.frzL_len k C r]
def Blk.frz (k : Nat) (C : Blk) : Blk -> Blk
 |.row g cells => .row g (AV.frzL k C cells)
 |x => x
theorem Sm.freeze {B : Bs} {σ : Sg} {S : Nat -> Prop} {H : List Blk} {w : World} {k : Nat} {C : Blk} (h : Sm B σ S H w) (hC : H[k]? = some C) :
 ∃ σ' S', Sm B σ' S' ((H.set k C.dead).map (Blk.frz k C)) w /\ ∀ x v, Rel σ S H w x v -> Rel σ' S' ((H.set k C.dead).map (Blk.frz k C)) w (x.frz k C) v := by
 have hkl : k < H.length := (List.getElem?_eq_some_iff.1 hC).1;have hbk := h.blk k C hC;have hS : ∀ b, S b -> (S b ∨ σ k = some b) := fun _ h => .inl h
 have hget : ∀ j D, H[j]? = some D -> j ≠ k -> ((H.set k C.dead).map (Blk.frz k C))[j]? = some (Blk.frz k C D) := fun j D hD hj => by
  rw [List.getElem?_map, List.getElem?_set_ne hj.symm, hD]; rfl
 have hgk : ((H.set k C.dead).map (Blk.frz k C))[k]? = some C.dead := by
  rw [List.getElem?_map, List.getElem?_set_self hkl];cases C <;> rfl
 have hrel : ∀ x v, Rel σ S H w x v -> Rel (upS σ k none) (fun b => S b ∨ σ k = some b) ((H.set k C.dead).map (Blk.frz k C)) w (x.frz k C) v := by
  intro x v hx;induction hx with
  |d x v h => exact .d x v (h.mono hS fun _ _ => rfl)
  |agg l cs hl h ih =>
   refine .agg _ cs (by rw [AV.frzL_len]; exact hl) fun i d x hd hx => ?_
   rw [AV.frzL_get] at hd;cases hli : l[i]? with
   |none => rw [hli] at hd; cases hd
   |some y => rw [hli] at hd; obtain rfl := Option.some.inj hd; exact ih i y x hli hx
  |tup l cs hl h ih =>
   refine .tup _ cs (by rw [AV.frzL_len]; exact hl) fun i d x hd hx => ?_
   rw [AV.frzL_get] at hd;cases hli : l[i]? with
   |none => rw [hli] at hd; cases hd
   |some y => rw [hli] at hd; obtain rfl := Option.some.inj hd; exact ih i y x hli hx
  |gh l cs u hl h ih =>
   refine .gh _ cs u (by rw [AV.frzL_len]; exact hl) fun i d x hd hx => ?_
   rw [AV.frzL_get] at hd;cases hli : l[i]? with
   |none => rw [hli] at hd; cases hd
   |some y => rw [hli] at hd; obtain rfl := Option.some.inj hd; exact ih i y x hli hx
  |fn f l cs hl h ih =>
   refine .fn f _ cs (by rw [AV.frzL_len]; exact hl) fun i d x hd hx => ?_
   rw [AV.frzL_get] at hd;cases hli : l[i]? with
   |none => rw [hli] at hd; cases hd
   |some y => rw [hli] at hd; obtain rfl := Option.some.inj hd; exact ih i y x hli hx
  |ptr k' g o v ho g' cells hk hg hh =>
   simp only [AV.frz]
   by_cases hkk : k' = k
   ·subst hkk
    rw [hC] at hk;obtain rfl := Option.some.inj hk
    by_cases hgg : g = g'
    ·subst hgg
     simp only [Blk.gen, beq_self_eq_true, Bool.and_self, cond_true, Blk.iceP];obtain ⟨b, hb, rfl⟩ := hh rfl;rcases hbk with ⟨b', cs, T, hb', hc, hr⟩ | ⟨hb', _⟩;rotate_left
     ·rw [hb] at hb'; cases hb'
     rw [hb] at hb'; obtain rfl := Option.some.inj hb'
     have key : ∀ (j : Nat) d, ((cells.drop o).map AV.data)[j]? = some d -> ∃ u, cs[o + j]? = some u /\ RelD S w d u := by
      intro j d hd;rw [List.getElem?_map, List.getElem?_drop] at hd;cases hx : cells[o + j]? with
      |none => rw [hx] at hd; cases hd
      |some y =>
       rw [hx] at hd; obtain rfl := Option.some.inj hd;obtain ⟨u, hu, hr'⟩ := hr _ y hx;exact ⟨u, hu, hr'.data⟩
     refine .d _ _ (.pd _ b o (fun j => (cs[o + j]?).getD undef) (.inr hb) (fun j d hd => ?_) fun j d hd => ?_)
     ·obtain ⟨u, hu, _⟩ := key j d hd
      rw [cell_of_row w b (o + j) cs T (0, 0) hc, hu]; rfl
     ·obtain ⟨u, hu, hr'⟩ := key j d hd
      rw [hu]; exact hr'.mono hS fun _ _ => rfl
    ·have : (g == Blk.gen (.row g' cells)) = false := by simp [Blk.gen, hgg]
     rw [this, Bool.and_false, cond_false];exact .ptr k' g o v ho (g' + 1) [] hgk (by omega) fun e => by omega
   ·have : (k' == k) = false := by simp [hkk]
    rw [this, Bool.false_and, cond_false];refine .ptr k' g o v ho g' _ (hget k' _ hk hkk) hg fun e => ?_
    rw [QbC hkk]; exact hh e
  |rsl k' g n v ho g' cells hk hg hh =>
   simp only [AV.frz]
   by_cases hkk : k' = k
   ·subst hkk
    rw [hC] at hk;obtain rfl := Option.some.inj hk
    by_cases hgg : g = g'
    ·subst hgg
     simp only [Blk.gen, beq_self_eq_true, Bool.and_self, cond_true];exact .d _ _ (.any _)
    ·have : (g == Blk.gen (.row g' cells)) = false := by simp [Blk.gen, hgg]
     rw [this, Bool.and_false, cond_false];exact .rsl k' g n v ho (g' + 1) [] hgk (by omega) fun e => by omega
   ·have : (k' == k) = false := by simp [hkk]
    rw [this, Bool.false_and, cond_false];refine .rsl k' g n v ho g' _ (hget k' _ hk hkk) hg fun e => ?_
    rw [QbC hkk]; exact hh e
  |ept k' g i j v ho g' sz T rows hk hg hh =>
   simp only [AV.frz]
   by_cases hkk : k' = k
   ·subst hkk
    rw [hC] at hk;obtain rfl := Option.some.inj hk
    by_cases hgg : g = g'
    ·subst hgg
     simp only [Blk.gen, beq_self_eq_true, Bool.and_self, cond_true];exact .d _ _ (.any _)
    ·have : (g == Blk.gen (.arr g' sz T rows)) = false := by simp [Blk.gen, hgg]
     rw [this, Bool.and_false, cond_false];exact .ept k' g i j v ho (g' + 1) sz T [] hgk (by omega) fun e => by omega
   ·have : (k' == k) = false := by simp [hkk]
    rw [this, Bool.false_and, cond_false];refine .ept k' g i j v ho g' sz T rows (hget k' _ hk hkk) hg fun e => ?_
    rw [QbC hkk]; exact hh e
  |osl k' g off len v ho g' sz T rows hk hg hh =>
   simp only [AV.frz]
   by_cases hkk : k' = k
   ·subst hkk
    rw [hC] at hk;obtain rfl := Option.some.inj hk
    by_cases hgg : g = g'
    ·subst hgg
     simp only [Blk.gen, beq_self_eq_true, Bool.and_self, cond_true, Blk.iceS];obtain ⟨hbound, hv⟩ := hh rfl;rcases hv with ⟨b, cap, cs, T', hb, hl, hcm, rfl, hc, hs⟩ | ⟨hb, rfl, rfl⟩
     ·obtain ⟨hlen, hbk⟩ := hbk
      rcases hbk with ⟨b', cs', hb', hc', hr⟩ | ⟨hb', _⟩;rotate_left
      ·rw [hb] at hb'; cases hb'
      rw [hb] at hb'; obtain rfl := Option.some.inj hb';have hln : ((rows.drop off).take len).length = len := by rw [List.length_take, List.length_drop]; omega
      have hmem : ∀ (i : Nat) r, ((rows.drop off).take len)[i]? = some r -> rows[off + i]? = some r := fun i r hi => by
       rw [List.getElem?_take] at hi;split at hi
       ·rwa [List.getElem?_drop] at hi
       ·cases hi
      have key : ∀ (i j : Nat) r d, ((rows.drop off).take len)[i]? = some r -> r[j]? = some d -> ∃ u, cs'[off * sz + i * sz + j]? = some u /\ RelD S w d u := by
       intro i j r d hi hj;obtain ⟨u, hu, hr'⟩ := hr _ j r d (hmem i r hi) hj;exact ⟨u, by rw [<- Nat.add_mul]; exact hu, hr'⟩
      have hfin : RelD (fun b => S b ∨ σ k' = some b) w (.sl true sz ((rows.drop off).take len)) (.slice (some ⟨b, off * sz, none⟩) ((rows.drop off).take len).length cap) := by
       refine .sl true sz _ b (off * sz) cap (fun i j => (cs'[off * sz + i * sz + j]?).getD undef) (.inr hb) (fun r hr' => ?_) (fun _ => by omega) (fun i j r d hi hj => ?_) fun i j r d hi hj => ?_
       ·exact hlen r (List.mem_of_mem_drop (List.mem_of_mem_take hr'))
       ·obtain ⟨u, hu, _⟩ := key i j r d hi hj
        rw [cell_of_row w b _ cs' T (0, 0) hc', hu]; rfl
       ·obtain ⟨u, hu, hr'⟩ := key i j r d hi hj
        rw [hu]; exact hr'.mono hS fun _ _ => rfl
      rw [hln] at hfin;exact .d _ _ hfin
     ·simp only [List.take_zero]
      exact .d _ _ (.slnil true sz none 0)
    ·have : (g == Blk.gen (.arr g' sz T rows)) = false := by simp [Blk.gen, hgg]
     rw [this, Bool.and_false, cond_false];exact .osl k' g off len v ho (g' + 1) sz T [] hgk (by omega) fun e => by omega
   ·have : (k' == k) = false := by simp [hkk]
    rw [this, Bool.false_and, cond_false];refine .osl k' g off len v ho g' sz T rows (hget k' _ hk hkk) hg fun e => ?_
    unfold OSl;rw [QbC hkk]; exact hh e
  |mp k' g v ho g' l hk hg hh =>
   simp only [AV.frz]
   by_cases hkk : k' = k
   ·subst hkk
    rw [hC] at hk;obtain rfl := Option.some.inj hk
    by_cases hgg : g = g'
    ·subst hgg
     simp only [Blk.gen, beq_self_eq_true, Bool.and_self, cond_true, Blk.iceM];obtain ⟨b, hb, rfl⟩ := hh rfl;rcases hbk with ⟨b', es, clock, hb', hc, hl, hr⟩ | ⟨hb', _⟩;rotate_left
     ·rw [hb] at hb'; cases hb'
     rw [hb] at hb'; obtain rfl := Option.some.inj hb';refine .d _ _ (.mp l b es clock (.inr hb) hc hl.1 (fun i key d e hi he => ?_) fun i key d e hi he => ?_)
     ·obtain ⟨e', he', hk', _⟩ := hr i key d hi
      rw [he] at he'; obtain rfl := Option.some.inj he'; exact hk'
     ·obtain ⟨e', he', _, hd'⟩ := hr i key d hi
      rw [he] at he'; obtain rfl := Option.some.inj he'; exact hd'.mono hS fun _ _ => rfl
    ·have : (g == Blk.gen (.mp g' l)) = false := by simp [Blk.gen, hgg]
     rw [this, Bool.and_false, cond_false];exact .mp k' g v ho (g' + 1) [] hgk (by omega) fun e => by omega
   ·have : (k' == k) = false := by simp [hkk]
    rw [this, Bool.false_and, cond_false];refine .mp k' g v ho g' l (hget k' _ hk hkk) hg fun e => ?_
    rw [QbC hkk]; exact hh e
 refine ⟨_, _, ⟨h.os, h.tape, h.output, h.size, h.keep, fun b hb => .inl (h.sLo b hb), fun b hb => ?_, fun j b hj hb => ?_, fun j j' b hj hj' hb hb' => ?_, fun j D hD => ?_⟩, hrel⟩
 ·rcases hb with hb | hb
  ·exact h.sUp b hb
  ·obtain ⟨h1, _, h3⟩ := h.σUp k b hkl hb
   exact ⟨h1, .inr h3⟩
 ·rw [List.length_map, List.length_set] at hj
  by_cases hjk : j = k
  ·rw [hjk, Qb3] at hb; cases hb
  ·rw [QbC hjk] at hb
   obtain ⟨h1, h2, h3⟩ := h.σUp j b hj hb;refine ⟨h1, fun hh => ?_, h3⟩;rcases hh with hh | hh
   ·exact h2 hh
   ·exact hjk (h.inj j k b hj hkl hb hh)
 ·rw [List.length_map, List.length_set] at hj hj'
  by_cases hjk : j = k
  ·rw [hjk, Qb3] at hb; cases hb
  ·by_cases hjk' : j' = k
   ·rw [hjk', Qb3] at hb'; cases hb'
   ·rw [QbC hjk] at hb; rw [QbC hjk'] at hb'
    exact h.inj j j' b hj hj' hb hb'
 ·by_cases hjk : j = k
  ·subst hjk
   rw [hgk] at hD;obtain rfl := Option.some.inj hD;cases C with
   |none => exact Qb3 _ _ _
   |row g cells => exact .inr ⟨Qb3 _ _ _, rfl⟩
   |arr g sz T rows => exact ⟨fun r hr => by simp at hr, .inr ⟨Qb3 _ _ _, rfl⟩⟩
   |mp g l => exact .inr ⟨Qb3 _ _ _, rfl⟩
  ·rw [List.getElem?_map, List.getElem?_set_ne (fun e => hjk e.symm)] at hD
   cases hE : H[j]? with
   |none => rw [hE] at hD; cases hD
   |some E =>
    rw [hE] at hD; obtain rfl := Option.some.inj hD;have hbj := h.blk j E hE;cases E with
    |none => exact (QbC hjk).trans hbj
    |row g cells =>
     rcases hbj with ⟨b, cs, T, hb, hc, hr⟩ | ⟨hb, rfl⟩
     ·refine .inl ⟨b, cs, T, (QbC hjk).trans hb, hc, fun i x hx => ?_⟩
      rw [AV.frzL_get] at hx;cases hy : cells[i]? with
      |none => rw [hy] at hx; cases hx
      |some y =>
       rw [hy] at hx; obtain rfl := Option.some.inj hx;obtain ⟨u, hu, hr'⟩ := hr i y hy;exact ⟨u, hu, hrel _ _ hr'⟩
     ·exact .inr ⟨(QbC hjk).trans hb, rfl⟩
    |arr g sz T rows => exact ArrOk.mono hbj hS (fun _ _ => rfl) (QbC hjk) fun _ _ => rfl
    |mp g l => exact MpOk.mono hbj hS (fun _ _ => rfl) (QbC hjk) fun _ _ => rfl
mutual
def AV.lt (m : Nat) : AV -> Bool
 |.d _ => true
 |.agg l => AV.ltL m l
 |.tup l => AV.ltL m l
 |.ptr k _ _ => Nat.blt k m
 |.ept k _ _ _ => Nat.blt k m
 |.osl k _ _ _ => Nat.blt k m
 |.rsl k _ _ => Nat.blt k m
 |.fn _ l => AV.ltL m l
 |.gh l _ => AV.ltL m l
 |.mp k _ => Nat.blt k m
def AV.ltL (m : Nat) : List AV -> Bool
 |[] => true
 |x :: r => AV.lt m x && AV.ltL m r
end
theorem AV.ltL_get {m : Nat} : ∀ {l : List AV} {i : Nat} {x : AV}, AV.ltL m l = true -> l[i]? = some x -> x.lt m = true
 |[], i, x, _, h => by simp at h
 |y :: r, 0, x, hl, h => by simp only [AV.ltL, Bool.and_eq_true] at hl; simp at h; subst h; exact hl.1
 |y :: r, i + 1, x, hl, h => by simp only [AV.ltL, Bool.and_eq_true] at hl; exact AV.ltL_get hl.2 (by simpa using h)
def Blk.lt (m : Nat) : Blk -> Bool
 |.row _ cells => AV.ltL m cells
 |_ => true
theorem Sm.drop {B : Bs} {σ : Sg} {S : Nat -> Prop} {H : List Blk} {w : World} (h : Sm B σ S H w) (m : Nat) (hm : (H.take m).all (Blk.lt m) = true) :
 Sm B σ S (H.take m) w /\ ∀ x v, Rel σ S H w x v -> x.lt m = true -> Rel σ S (H.take m) w x v := by
 have hk : ∀ k C, H[k]? = some C -> Nat.blt k m = true -> (H.take m)[k]? = some C := fun k C hC hlt => by
  rw [List.getElem?_take, if_pos (by simpa using hlt)]; exact hC
 have hrel : ∀ x v, Rel σ S H w x v -> x.lt m = true -> Rel σ S (H.take m) w x v := by
  intro x v hx;induction hx with
  |d x v h => exact fun _ => .d x v h
  |agg l cs hl h ih => exact fun hb => .agg l cs hl fun i d x hd hx => ih i d x hd hx (AV.ltL_get hb hd)
  |tup l cs hl h ih => exact fun hb => .tup l cs hl fun i d x hd hx => ih i d x hd hx (AV.ltL_get hb hd)
  |fn f l cs hl h ih => exact fun hb => .fn f l cs hl fun i d x hd hx => ih i d x hd hx (AV.ltL_get hb hd)
  |gh l cs u hl h ih => exact fun hb => .gh l cs u hl fun i d x hd hx => ih i d x hd hx (AV.ltL_get hb hd)
  |ptr k g o v ho g' cells hC hg hh => exact fun hb => .ptr k g o v ho g' cells (hk k _ hC hb) hg hh
  |rsl k g n v ho g' cells hC hg hh => exact fun hb => .rsl k g n v ho g' cells (hk k _ hC hb) hg hh
  |ept k g i j v ho g' sz T rows hC hg hh => exact fun hb => .ept k g i j v ho g' sz T rows (hk k _ hC hb) hg hh
  |osl k g off len v ho g' sz T rows hC hg hh => exact fun hb => .osl k g off len v ho g' sz T rows (hk k _ hC hb) hg hh
  |mp k g v ho g' l hC hg hh => exact fun hb => .mp k g v ho g' l (hk k _ hC hb) hg hh
 refine ⟨⟨h.os, h.tape, h.output, h.size, h.keep, h.sLo, h.sUp, fun k b hk' => h.σUp k b (by rw [List.length_take] at hk'; omega), fun k k' b hk' hk'' => h.inj k k' b (by rw [List.length_take] at hk'; omega) (by rw [List.length_take] at hk''; omega), fun k C hC => ?_⟩, hrel⟩;have hC2 := hC;rw [List.getElem?_take] at hC;split at hC
 ·have hb := h.blk k C hC
  have hlt := List.all_eq_true.1 hm C (List.mem_of_getElem? hC2);cases C with
  |none => exact hb
  |row g cells =>
   rcases hb with ⟨b, cs, T, hb, hc, hr⟩ | hb
   ·exact .inl ⟨b, cs, T, hb, hc, fun j x hx => let ⟨u, hu, hr'⟩ := hr j x hx; ⟨u, hu, hrel x u hr' (AV.ltL_get hlt hx)⟩⟩
   ·exact .inr hb
  |arr g sz T rows => exact hb
  |mp g l => exact hb
 ·cases hC
theorem Sm.virt {B : Bs} {σ : Sg} {S : Nat -> Prop} {H : List Blk} {w : World} (h : Sm B σ S H w) (sz : Nat) (T : TypeId) :
 Sm B (upS σ H.length none) S (H ++ [.arr 0 sz T []]) w /\ Ev σ S H w (upS σ H.length none) S (H ++ [.arr 0 sz T []]) w /\
  Rel (upS σ H.length none) S (H ++ [.arr 0 sz T []]) w (.osl H.length 0 0 0) (.slice none 0 0) := by
 have hlt : ∀ k B, H[k]? = some B -> k < H.length := fun k B hB => (List.getElem?_eq_some_iff.1 hB).1
 have e : Ev σ S H w (upS σ H.length none) S (H ++ [.arr 0 sz T []]) w := Ev.more (fun b _ => rfl) (fun k B hB _ =>
  ⟨by rw [List.getElem?_append_left (hlt k B hB)]; exact hB, QbC (by have := hlt k B hB; omega), fun b _ => rfl⟩)
 have hnew : (H ++ [Blk.arr 0 sz T []])[H.length]? = some (.arr 0 sz T []) := by rw [List.getElem?_append_right (Nat.le_refl _)]; simp
 refine ⟨⟨h.os, h.tape, h.output, h.size, h.keep, h.sLo, h.sUp, fun k b hk hb => ?_, fun k k' b hk hk' hb hb' => ?_, fun k C hC => ?_⟩, e, .osl _ 0 0 0 _ rfl 0 sz T [] hnew (Nat.le_refl _) fun _ => ⟨by simp, .inr ⟨Qb3 _ _ _, rfl, rfl⟩⟩⟩
 ·by_cases hkl : k = H.length
  ·rw [hkl, Qb3] at hb; cases hb
  ·rw [QbC hkl] at hb; simp at hk; exact h.σUp k b (by omega) hb
 ·by_cases hkl : k = H.length
  ·rw [hkl, Qb3] at hb; cases hb
  ·by_cases hkl' : k' = H.length
   ·rw [hkl', Qb3] at hb'; cases hb'
   ·rw [QbC hkl] at hb; rw [QbC hkl'] at hb'; simp at hk hk'
    exact h.inj k k' b (by omega) (by omega) hb hb'
 ·by_cases hkl : k < H.length
  ·rw [List.getElem?_append_left hkl] at hC
   exact (h.blk k C hC).mono e (QbC (by omega)) fun b _ => rfl
  ·have hk : k = H.length := by
    have := (List.getElem?_eq_some_iff.1 hC).1;simp at this; omega
   subst hk;rw [hnew] at hC;obtain rfl := Option.some.inj hC;exact ⟨fun r hr => by simp at hr, .inr ⟨Qb3 _ _ _, rfl⟩⟩
end Aw
end Go.Proofs.YtdjkdcokjoiokaaGreatDoor

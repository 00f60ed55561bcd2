/- Part 26 of the proof of bytes_card: contracts, walks, plain laws; no condition is assumed beyond those that a statement names. -/
import Derived.Test.YtdjkdcokjoiokaaGreatDoorQ19
set_option linter.all false
set_option maxRecDepth 100000
set_option maxHeartbeats 4000000
namespace Go.Proofs.YtdjkdcokjoiokaaGreatDoor
open Go.RowKit
namespace Aw
attribute [local irreducible] ASeq ADraw AWP Loc
noncomputable def Pl.rg (s : List UInt8) : List (List UInt8) × Bool := open Classical in if h : ∃ l, Pl.IsRec s l then (Classical.choose h, true) else ([], false)
theorem rg_is {s : List UInt8} {l : List (List UInt8)} (h : Pl.IsRec s l) : Pl.rg s = (l, true) := by
 unfold Pl.rg
 have hx : ∃ p, Pl.IsRec s p := ⟨l, h⟩
 rw [dif_pos hx, Pl.Qfa (Classical.choose_spec hx) h]
theorem Qfs {s : List UInt8} (h : ∀ l, ¬ Pl.IsRec s l) : Pl.rg s = ([], false) := by
 unfold Pl.rg
 rw [dif_neg (fun ⟨p, hp⟩ => h p hp)]
theorem al1Num (s : List UInt8) (hs : s.length <= Pm.big) : Pure Tryz.prog 257 [dS s] (.tup [dI ((Pl.l1num s).1 : Nat), dI ((Pl.l1num s).2 : Nat)]) :=
 Qcz (xs := [.int .i64 ((Pl.l1num s).1 : Nat), .int .i64 ((Pl.l1num s).2 : Nat)]) rfl fun w _ => (Pm.spL1Num s w hs).mono fun e w' h => ⟨h.1, h.2 ▸ Below.refl _ _⟩
end Aw
end Go.Proofs.YtdjkdcokjoiokaaGreatDoor
namespace Go.Proofs.YtdjkdcokjoiokaaGreatDoor
open Go.RowKit
namespace Aw
def Pl.zn : Pl.Node := ⟨0, 0, 0, ⟨Pl.hole, 0, 0⟩⟩
theorem Ql9 (kind size : Int) : Pl.Qaw kind size <= 16 := by
 unfold Pl.Qaw
 have he := Qgv kind
 generalize Pl.each kind = e at *
 split
 ·decide
 ·split
  ·rename_i h1 h2
   have hb : 0 <= size /\ size <= 16 * e := by simpa [Pl.inR] using h2
   rcases he with rfl | rfl | rfl
   ·exact absurd rfl h1
   ·omega
   ·omega
  ·decide
structure NodeB (n : Pl.Node) : Prop where
 kind : n.kind = 1 ∨ n.kind = 2
 links : 1 <= n.links /\ n.links <= 9
 size : 0 <= n.size /\ n.size <= 2048
 ptr : Pl.ptrOk n.tree.root = true
 depth : 0 <= n.tree.depth /\ n.tree.depth <= 2
 many : 0 <= n.tree.many /\ n.tree.many <= 16
 one : n.kind = 2 -> n.links = 1
theorem Qdr {n : Pl.Node} (h : Pl.Qaq n = true) : NodeB n := by
 unfold Pl.Qaq at h
 simp only [Bool.and_eq_true, beq_iff_eq, decide_eq_true_eq] at h
 obtain ⟨⟨⟨⟨⟨h1, h2⟩, h3⟩, h4⟩, h5⟩, h6⟩ := h
 have hp := Ql9 n.kind n.size
 have hk : n.kind = 1 ∨ n.kind = 2 := by
  by_cases k1 : n.kind = 1
  ·exact .inl k1
  ·by_cases k2 : n.kind = 2
   ·exact .inr k2
   ·have : Pl.each n.kind = 0 := by unfold Pl.each; rw [if_neg k1, if_neg k2]
    unfold Pl.Qaw at h1; rw [if_pos this] at h1; exact absurd h1 (by decide)
 have hs : 0 <= n.size /\ n.size <= 2048 := by
  have he : Pl.each n.kind ≠ 0 := by rcases hk with k | k <;> rw [k] <;> decide
  have he2 : Pl.each n.kind <= 128 := by rcases hk with k | k <;> rw [k] <;> decide
  unfold Pl.Qaw at h1
  rw [if_neg he] at h1
  split at h1
  ·rename_i h
   have hb : 0 <= n.size /\ n.size <= 16 * Pl.each n.kind := by simpa [Pl.inR] using h
   omega
  ·exact absurd h1 (by decide)
 have hd : 0 <= n.tree.depth /\ n.tree.depth <= 2 := by rw [h3]; unfold Pl.QaO; split <;> (try split) <;> decide
 have hl : 1 <= n.links /\ n.links <= (if n.kind = 2 then 1 else 9) := by simpa [Pl.inR] using h5
 refine ⟨hk, ?_, hs, h4, hd, by omega, fun e => ?_⟩
 ·split at hl <;> omega
 ·rw [if_pos e] at hl; omega
def Pl.Qas (n : Pl.Node) : List (List UInt8) := [Pl.dec n.kind.toNat, Pl.dec n.links.toNat, Pl.dec n.size.toNat, Pl.ptrPut n.tree.root, Pl.dec n.tree.depth.toNat, Pl.dec n.tree.many.toNat, [101, 110, 100]]
def Pl.Qa6 (n : Pl.Node) : List UInt8 := if Pl.Qaq n then Pl.fp (Pl.Qas n) else []
def Pl.QaP (s : List UInt8) (n : Pl.Node) : Prop := Pl.Qaq n = true /\ Pl.IsRec s (Pl.Qas n)
theorem Qgo {s : List UInt8} {n : Pl.Node} (hs : s ≠ []) : Pl.QaP s n ↔ Pl.Qa6 n = s := by
 constructor
 ·rintro ⟨h1, h2⟩
  unfold Pl.Qa6 Pl.fp
  rw [if_pos h1, Pl.Qea.2 h2]; rfl
 ·intro h
  unfold Pl.Qa6 at h
  split at h
  ·rename_i h1; exact ⟨h1, Pl.fp_some h hs⟩
  ·exact absurd h.symm hs
noncomputable def Pl.ng (s : List UInt8) : Pl.Node × Bool := open Classical in if h : ∃ n, Pl.QaP s n then (Classical.choose h, true) else (Pl.zn, false)
noncomputable def Pl.QaG (a b c d e f : List UInt8) : Pl.Node := ⟨((Pl.numGet a).getD 0 : Nat), ((Pl.numGet b).getD 0 : Nat), ((Pl.numGet c).getD 0 : Nat), ⟨(Pl.pg d).1, ((Pl.numGet e).getD 0 : Nat), ((Pl.numGet f).getD 0 : Nat)⟩⟩
theorem QcL {s a b c d e f g : List UInt8} {n : Pl.Node} (hr : Pl.IsRec s [a, b, c, d, e, f, g]) (h : Pl.QaP s n) :
 Pl.numGet a = some n.kind.toNat /\ Pl.numGet b = some n.links.toNat /\ Pl.numGet c = some n.size.toNat /\ Pl.pg d = (n.tree.root, true) /\ Pl.numGet e = some n.tree.depth.toNat /\ Pl.numGet f = some n.tree.many.toNat := by
 have hb := Qdr h.1
 have he := Pl.Qfa hr h.2
 simp only [Pl.Qas, List.cons.injEq] at he
 obtain ⟨rfl, rfl, rfl, rfl, rfl, rfl, _⟩ := he
 have h1 := hb.kind
 have h2 := hb.links
 have h3 := hb.size
 have h4 := hb.depth
 have h5 := hb.many
 exact ⟨Pl.QbT (by omega), Pl.QbT (by omega), Pl.QbT (by omega), pg_is ⟨hb.ptr, rfl⟩, Pl.QbT (by omega), Pl.QbT (by omega)⟩
theorem Qfw {s a b c d e f g : List UInt8} {n : Pl.Node} (hr : Pl.IsRec s [a, b, c, d, e, f, g]) (h : Pl.QaP s n) : n = Pl.QaG a b c d e f := by
 have hb := Qdr h.1
 have h1 := hb.kind
 have h2 := hb.links
 have h3 := hb.size
 have h4 := hb.depth
 have h5 := hb.many
 obtain ⟨q1, q2, q3, q4, q5, q6⟩ := QcL hr h
 unfold Pl.QaG
 rw [q1, q2, q3, q4, q5, q6]
 obtain ⟨kind, links, size, root, depth, many⟩ := n
 simp only [Option.getD_some, Pl.Node.mk.injEq, Pl.Tree.mk.injEq, true_and] at *
 refine ⟨?_, ?_, ?_, ?_, ?_⟩ <;> omega
theorem QgJ {s : List UInt8} {m n : Pl.Node} (hm : Pl.QaP s m) (hn : Pl.QaP s n) : m = n :=
 (Qfw hm.2 hm).trans (Qfw hm.2 hn).symm
theorem ng_is {s : List UInt8} {n : Pl.Node} (h : Pl.QaP s n) : Pl.ng s = (n, true) := by
 unfold Pl.ng
 have hx : ∃ p, Pl.QaP s p := ⟨n, h⟩
 rw [dif_pos hx, QgJ (Classical.choose_spec hx) h]
theorem Qj5 {s : List UInt8} (h : ∀ p, ¬ Pl.QaP s p) : Pl.ng s = (Pl.zn, false) := by
 unfold Pl.ng
 rw [dif_neg (fun ⟨p, hp⟩ => h p hp)]
theorem Qj6 (s : List UInt8) : Pl.QaP s (Pl.ng s).1 /\ (Pl.ng s).2 = true ∨ Pl.ng s = (Pl.zn, false) := by
 unfold Pl.ng
 split
 ·rename_i h; exact .inl ⟨Classical.choose_spec h, rfl⟩
 ·exact .inr rfl
theorem Ql2 {s : List UInt8} {x : List UInt8} {l : List (List UInt8)} (h : Pl.IsRec s (x :: l)) : s ≠ [] := by
 rintro rfl
 have := h.2.2
 rw [Pl.Qdz] at this
 exact Pl.Qek x (List.append_eq_nil_iff.1 this).1
theorem Qoq {s a b c d e f g : List UInt8} (hr : Pl.IsRec s [a, b, c, d, e, f, g]) : Pl.ng s = if Pl.Qa6 (Pl.QaG a b c d e f) = s then (Pl.QaG a b c d e f, true) else (Pl.zn, false) := by
 have hs := Ql2 hr
 split
 ·rename_i h; exact ng_is ((Qgo hs).2 h)
 ·rename_i h
  refine Qj5 fun p hp => h ?_
  rw [<- Qfw hr hp]
  exact (Qgo hs).1 hp
theorem Qfe {s : List UInt8} (h : (Pl.rg s).2 = false ∨ (Pl.rg s).1.length ≠ 7) : Pl.ng s = (Pl.zn, false) := by
 refine Qj5 fun p hp => ?_
 rw [rg_is hp.2] at h
 rcases h with h | h
 ·cases h
 ·exact h rfl
theorem Qj0 (s : List UInt8) : Pl.IsRec s (Pl.rg s).1 /\ (Pl.rg s).2 = true ∨ Pl.rg s = ([], false) := by
 unfold Pl.rg
 split
 ·rename_i h; exact .inl ⟨Classical.choose_spec h, rfl⟩
 ·exact .inr rfl
theorem QiB (s : List UInt8) : NodeB (Pl.ng s).1 ∨ (Pl.ng s).1 = Pl.zn := by
 rcases Qj6 s with h | h
 ·exact .inl (Qdr h.1.1)
 ·exact .inr (by rw [h])
def Pl.cut0 (s : List UInt8) : List UInt8 := (s.reverse.dropWhile (· == 0)).reverse
theorem QjP : Pl.cut0 [] = [] := rfl
theorem QfJ (s : List UInt8) (c : UInt8) : Pl.cut0 (s ++ [c]) = if c == 0 then Pl.cut0 s else s ++ [c] := by
 unfold Pl.cut0
 rw [List.reverse_append, List.reverse_singleton, List.singleton_append, List.dropWhile_cons]
 split
 ·rfl
 ·simp
theorem Qm6 (s : List UInt8) : Pl.cut0 s = s ↔ s.getLast? ≠ some 0 := by
 rcases List.eq_nil_or_concat s with rfl | ⟨l, c, rfl⟩
 ·simp [QjP]
 ·rw [List.concat_eq_append, QfJ]
  by_cases h : c = 0
  ·subst h
   simp only [beq_self_eq_true, if_true, List.getLast?_append, List.getLast?_singleton, Option.some_or, ne_eq, not_true_eq_false, iff_false]
   intro h
   have h1 : (Pl.cut0 l).length <= l.length := by unfold Pl.cut0; rw [List.length_reverse]; exact Nat.le_trans (List.dropWhile_sublist _).length_le (by simp)
   rw [h] at h1; simp at h1; omega
  ·simp [h]
abbrev Pl.Ent := List UInt8 × Int
abbrev rEnt (e : Pl.Ent) : List D := [dS e.1, dI e.2]
def Pl.Qaj (s : List UInt8) : Bool := s.all (fun c => decide (97 <= c.toNat) && decide (c.toNat <= 122)) && decide (1 <= s.length) && decide (s.length <= 4)
def Pl.QaF (l : List Pl.Ent) (i : Nat) : Bool := Pl.Qaj (l.getD i ([], 0)).1 && Pl.inR (l.getD i ([], 0)).2 1 15 && (decide (i = 0) || Op.bytesLess (l.getD (i - 1) ([], 0)).1 (l.getD i ([], 0)).1)
def Pl.Qae (l : List Pl.Ent) : Bool := (List.range l.length).all (Pl.QaF l) && decide (l.length <= 12)
def Pl.Qa2 (e : Pl.Ent) : List UInt8 := e.1 ++ 61 :: Pl.dec e.2.toNat
def Pl.Qal (l : List Pl.Ent) : List UInt8 := l.flatMap fun e => Pl.Qa2 e ++ [59]
def Pl.QaU (s : List UInt8) (l : List Pl.Ent) : Prop := Pl.Qae l = true /\ Pl.Qal l = s
noncomputable def Pl.eg (s : List UInt8) : List Pl.Ent × Bool := open Classical in if h : ∃ l, Pl.QaU s l then (Classical.choose h, true) else ([], false)
def Pl.Qa3 (x : List UInt8) : Option Pl.Ent := match Pl.cutB 61 x with
 |[a, b] => some (a, ((Pl.numGet b).getD 0 : Nat))
 |_ => none
theorem ent_b {l : List Pl.Ent} (h : Pl.Qae l = true) : ∀ e ∈ l, Pl.Qaj e.1 = true /\ 1 <= e.2 /\ e.2 <= 15 := by
 intro e he
 unfold Pl.Qae at h
 rw [Bool.and_eq_true, List.all_eq_true] at h
 obtain ⟨i, hi, rfl⟩ := List.getElem_of_mem he
 have := h.1 i (List.mem_range.2 hi)
 unfold Pl.QaF at this
 rw [List.getD_eq_getElem?_getD, List.getElem?_eq_getElem hi] at this
 simp only [Option.getD_some, Bool.and_eq_true] at this
 refine ⟨this.1.1, ?_⟩
 have h2 := this.1.2
 simp [Pl.inR] at h2; omega
theorem QdR {s : List UInt8} {c : UInt8} (h : Pl.Qaj s = true) (hc : c.toNat < 97) : c ∉ s := by
 intro hm
 unfold Pl.Qaj at h
 simp only [Bool.and_eq_true, List.all_eq_true, decide_eq_true_eq] at h
 have := (h.1.1 c hm).1
 omega
theorem Qe8 (n : Nat) {c : UInt8} (hc : 57 < c.toNat) : c ∉ Pl.dec n := by
 intro hm
 have := List.all_eq_true.1 (Pl.Qeo n) c hm
 have := (Pl.Qc9 c).1 this
 omega
theorem QiX {e : Pl.Ent} (h1 : Pl.Qaj e.1 = true) (h2 : 1 <= e.2 /\ e.2 <= 15) : Pl.Qa3 (Pl.Qa2 e) = some e := by
 unfold Pl.Qa3 Pl.Qa2
 rw [Pl.Qci 61 _ _ (QdR h1 (by decide)), Pl.Qc7 61 _ (Qe8 _ (by decide))]
 simp only [Pl.QbT (show e.2.toNat < 1000000000 by omega), Option.getD_some]
 obtain ⟨a, b⟩ := e
 simp only [Option.some.injEq, Prod.mk.injEq, true_and] at *
 omega
theorem Qfg : ∀ {l : List Pl.Ent}, (∀ e ∈ l, Pl.Qaj e.1 = true /\ 1 <= e.2 /\ e.2 <= 15) -> Pl.cutB 59 (Pl.Qal l) = l.map Pl.Qa2 ++ [[]]
 |[], _ => rfl
 |e :: l, h => by
  have h1 : Pl.Qal (e :: l) = Pl.Qa2 e ++ 59 :: Pl.Qal l := by simp [Pl.Qal]
  have hn : (59 : UInt8) ∉ Pl.Qa2 e := by
   unfold Pl.Qa2
   intro hm
   rcases List.mem_append.1 hm with hm | hm
   ·exact QdR (h e List.mem_cons_self).1 (by decide) hm
   ·rcases List.mem_cons.1 hm with hm | hm
    ·exact absurd hm (by decide)
    ·exact Qe8 _ (by decide) hm
  rw [h1, Pl.Qci 59 _ _ hn, Qfg fun x hx => h x (List.mem_cons_of_mem _ hx)]; rfl
theorem Qel {s : List UInt8} {l : List Pl.Ent} (h : Pl.QaU s l) : (Pl.cutB 59 s).length = l.length + 1 /\ ∀ (i : Nat) e, l[i]? = some e -> ∃ x, (Pl.cutB 59 s)[i]? = some x /\ Pl.Qa3 x = some e := by
 have hb := ent_b h.1
 rw [<- h.2, Qfg hb]
 refine ⟨by simp, fun i e he => ⟨Pl.Qa2 e, ?_, ?_⟩⟩
 ·rw [List.getElem?_append_left (by simpa using (List.getElem?_eq_some_iff.1 he).1), List.getElem?_map, he]; rfl
 ·have := hb e (List.mem_of_getElem? he); exact QiX this.1 this.2
theorem QfA {s : List UInt8} {l m : List Pl.Ent} (h : Pl.QaU s l) (hm : m.length + 1 = (Pl.cutB 59 s).length) (hr : ∀ (i : Nat) e, m[i]? = some e -> ∃ x, (Pl.cutB 59 s)[i]? = some x /\ Pl.Qa3 x = some e) : m = l := by
 obtain ⟨h1, h2⟩ := Qel h
 refine List.ext_getElem (by omega) fun i hi hi' => ?_
 obtain ⟨x, hx, hx2⟩ := hr i _ (List.getElem?_eq_getElem hi)
 obtain ⟨y, hy, hy2⟩ := h2 i _ (List.getElem?_eq_getElem hi')
 rw [hx] at hy
 obtain rfl := Option.some.inj hy
 rw [hx2] at hy2
 exact Option.some.inj hy2
theorem QgK {s : List UInt8} {l m : List Pl.Ent} (h : Pl.QaU s l) (hm : Pl.QaU s m) : m = l := by
 obtain ⟨h1, h2⟩ := Qel hm
 exact QfA h (by omega) h2
theorem eg_is {s : List UInt8} {l : List Pl.Ent} (h : Pl.QaU s l) : Pl.eg s = (l, true) := by
 unfold Pl.eg
 have hx : ∃ p, Pl.QaU s p := ⟨l, h⟩
 rw [dif_pos hx, QgK h (Classical.choose_spec hx)]
theorem QjL {s : List UInt8} (h : ∀ p, ¬ Pl.QaU s p) : Pl.eg s = ([], false) := by
 unfold Pl.eg
 rw [dif_neg (fun ⟨p, hp⟩ => h p hp)]
theorem Qn8 (s : List UInt8) : Pl.QaU s (Pl.eg s).1 /\ (Pl.eg s).2 = true ∨ Pl.eg s = ([], false) := by
 unfold Pl.eg
 split
 ·rename_i h; exact .inl ⟨Classical.choose_spec h, rfl⟩
 ·exact .inr rfl
theorem Qmu {s : List UInt8} {m : List Pl.Ent} (hm : m.length + 1 = (Pl.cutB 59 s).length) (hr : ∀ (i : Nat) e, m[i]? = some e -> ∃ x, (Pl.cutB 59 s)[i]? = some x /\ Pl.Qa3 x = some e) :
 Pl.eg s = if Pl.Qae m = true /\ Pl.Qal m = s then (m, true) else ([], false) := by
 split
 ·rename_i h; exact eg_is h
 ·rename_i h
  refine QjL fun p hp => h ?_
  rw [QfA hp hm hr]; exact hp
theorem eg_bad {s : List UInt8} {k : Nat} {x : List UInt8} (hk : k + 1 < (Pl.cutB 59 s).length) (hx : (Pl.cutB 59 s)[k]? = some x) (h : Pl.Qa3 x = none) : Pl.eg s = ([], false) := by
 refine QjL fun p hp => ?_
 obtain ⟨h1, h2⟩ := Qel hp
 obtain ⟨y, hy, hy2⟩ := h2 k _ (List.getElem?_eq_getElem (show k < p.length by omega))
 rw [hx] at hy
 obtain rfl := Option.some.inj hy
 rw [h] at hy2; cases hy2
end Aw
end Go.Proofs.YtdjkdcokjoiokaaGreatDoor
namespace Go.Proofs.YtdjkdcokjoiokaaGreatDoor
open Go.RowKit
namespace Aw
attribute [local irreducible] ASeq ADraw AWP Loc
theorem Qli (s : List UInt8) (hs : s.length <= Pm.big) : Pure Tryz.prog 187 [dS s] (.tup [tStrs (Pl.rg s).1, dB (Pl.rg s).2]) := by
 simp only [Pm.big] at hs
 (refine Qbw Tryz.func187 rfl Tryz.ntmps187 Tryz.results187 rfl ?_; simp only [parE, Nat.zero_add, Nat.reduceAdd])
 (repeat' (first | refine e1 (k := ?_) | refine stepS2 (QbE Ty.h rfl Ty.h) (k := ?_) | refine Qbs ?_ | refine Qbu ?_ | refine Qbr ?_ | refine Qby ?_ | fail))
 refine QbD (fun m st => ∃ (k g : Nat) (out : List (List UInt8)), k <= s.length /\ m = s.length - k /\ Hid (s = Pl.enc out ++ s.drop k) /\ Hid (∀ x ∈ out, x.length <= 2048) /\ out.length <= k /\
  st = ⟨92, [(4, .osl 0 g 0 out.length), (5, .d (dI k)), (0, .d (dS s))], [.arr g 1 9 (out.map fun s => [dS s])]⟩) [4, 5, 0] 1 s.length ⟨0, 0, [], by omega, rfl, Pm.hid rfl, Pm.hid (by simp), by simp, rfl⟩ (round := ?_)
 rintro m st ⟨k, g, out, hk, rfl, hO, hX, hlen, rfl⟩
 by_cases h20 : s.length <= 2048 /\ k < s.length
 rotate_left
 ·have hA : ∀ x ∈ out, x.length <= Pm.big := fun x hx => by have := hX.out x hx; unfold Pm.big; omega
  have c := (Qgz out (by unfold Pm.big; omega) hA).arg (l := [tStrs out])
  have hr : Hid (Pl.rg s = if (Pl.QbK out).isSome = true /\ (Pl.QbK out).getD [] = s then (out, true) else ([], false)) := by
   refine Pm.hid ?_
   split
   ·rename_i h
    obtain ⟨t, ht⟩ := Option.isSome_iff_exists.1 h.1
    rw [ht] at h
    exact rg_is (by rw [<- Pl.Qea, ht]; exact congrArg some h.2)
   ·rename_i h
    refine Qfs fun l hl => h ?_
    have hk2 : k = s.length := by have := hl.2.1; omega
    have ho := hO.out
    rw [hk2, List.drop_length, List.append_nil] at ho
    have : l = out := Pl.Qms (hl.2.2.trans ho)
    subst this
    rw [Pl.Qea.2 hl]; exact ⟨rfl, rfl⟩
  generalize (Pl.QbK out).getD [] = t at *
  generalize (Pl.QbK out).isSome = ok at *
  clear hA hX hO
  (repeat' (first | refine e1 (k := ?_) | refine e0 (k := ?_) | refine Qbs ?_ | refine Qbu ?_ | refine Qbr ?_ | refine Qb2 (hf := ?_) | refine Qb3 (ht := fun q => ?_) (hf := fun q => ?_) | refine Qbz ?_ | refine QcP ?_ | refine Qby ?_ | refine Qb5 ?_ | ((fail_if_success show ASeq _ _ _ _ ⟨_, (_, .d (.v (.bool true))) :: _, _⟩); (fail_if_success show ASeq _ _ _ _ ⟨_, (_, .d (.v (.bool false))) :: _, _⟩); refine splitS (fun q => ?_) (fun q => ?_))))
  ·exfalso; simp at *; omega
  all_goals
   refine Qeq 0 (h := ?_)
   (repeat' (first | refine e1 (k := ?_) | refine e0 (k := ?_) | refine stepS (Qbt Tryz.call258 c rfl) (k := ?_) | refine stepS (QbU rfl rfl) (k := ?_) | refine stepS2 (QbE Ty.h rfl Ty.h) (k := ?_) | refine Qbs ?_ | refine Qbu ?_ | refine Qbr ?_ | refine Qb0 (ht := ?_) | refine Qb3 (ht := fun q => ?_) (hf := fun q => ?_) | refine Qbz ?_ | ((fail_if_success show ASeq _ _ _ _ ⟨_, (_, .d (.v (.bool true))) :: _, _⟩); (fail_if_success show ASeq _ _ _ _ ⟨_, (_, .d (.v (.bool false))) :: _, _⟩); refine splitS (fun q => ?_) (fun q => ?_))))
   all_goals
    (first | refine Qb1 (hx := ?_) | (refine Qbv 1 (h := ?_); refine Qb1 (hx := ?_)))
    rw [hr.out]
    simp_all
 obtain ⟨h20, hlt⟩ := h20
 obtain ⟨n, m, hq⟩ : ∃ n m, Pl.l1num (s.drop k) = (n, m) := ⟨_, _, rfl⟩
 have c := al1Num (s.drop k) (by rw [List.length_drop]; unfold Pm.big; omega)
 have hle := Pl.Qnv (s.drop k)
 have hn9 := Pl.Qnu (s.drop k)
 rw [hq] at c hle hn9
 simp only [List.length_drop] at hle hn9
 obtain ⟨b, hb⟩ : ∃ b, b = (s.drop k).getD m 0 := ⟨_, rfl⟩
 have hb1 : k + m < s.length -> (s.drop k)[m]? = some b := fun h => by rw [hb, List.getD_eq_getElem?_getD, List.getElem?_eq_getElem (by rw [List.length_drop]; omega)]; rfl
 have hb2 : Hid (k + m < s.length -> s[((k : Int) + (m : Int)).toNat]? = some b) := fun h => by
  have := hb1 h
  rw [List.getElem?_drop] at this
  exact this
 have hb3 : ((b.toNat : Nat) : Int) = 58 ↔ b = 58 := ⟨fun h => UInt8.toNat_inj.1 (by have : ((58 : UInt8).toNat : Int) = 58 := rfl; omega), fun h => by rw [h]; rfl⟩
 have F : Hid ((m = 0 ∨ s.length <= k + m ∨ ((b.toNat : Nat) : Int) ≠ 58 ∨ s.length - k - m - 1 < n) -> Pl.rg s = ([], false)) := fun h => by
  refine Qfs (Pl.Ql5 h20 hlt hO.out hq ?_)
  by_cases h1 : m = 0
  ·exact .inl h1
  by_cases h2 : s.length <= k + m
  ·exact .inr (.inl (by rw [List.getElem?_eq_none (by rw [List.length_drop]; omega)]; simp))
  refine .inr ?_
  rw [hb1 (by omega), List.length_drop]
  by_cases h3 : b = 58
  ·exact .inr (by have h4 := hb3.2 h3; omega)
  ·exact .inl (by simpa using h3)
 have T : Hid (0 < m -> k + m < s.length -> ((b.toNat : Nat) : Int) = 58 -> n <= s.length - k - m - 1 -> s = Pl.enc (out ++ [(s.drop (k + m + 1)).take n]) ++ s.drop (k + m + 1 + n)) := fun h1 h2 h3 h4 => by
  exact Pl.Ql4 hO.out hq h1 (by rw [hb1 h2, hb3.1 h3]) (by rw [List.length_drop]; omega)
 clear hO hq hb hb1 hb3
 (repeat' (first | refine e1 (k := ?_) | refine e0 (k := ?_) | refine stepS (Qbt Tryz.call257 c rfl) (k := ?_) | refine stepS (Qey rfl rfl rfl (by omega) (by omega)) (k := ?_) | refine stepS (QcH Ty.h rfl rfl rfl (by omega) (hb2.out (by simp only [decide_eq_true_eq, decide_eq_false_iff_not, beq_eq_false_iff_ne] at *; omega))) (k := ?_) | refine stepS (Qgj rfl rfl rfl rfl (by omega) (by omega) (by simp only [decide_eq_true_eq, decide_eq_false_iff_not, beq_eq_false_iff_ne] at *; omega)) (k := ?_) | refine Qcr Ty.h rfl Ty.h (hb := ?_) (kk := ?_) | refine stepS (Qb7 rfl rfl (by omega)) (k := ?_) | refine stepS (QbO rfl rfl (by omega)) (k := ?_) | refine stepS2 (QbE Ty.h rfl Ty.h) (k := ?_) | refine Qbs ?_ | refine QbG ?_ | refine Qbu ?_ | refine Qbr ?_ | refine Qb0 (ht := ?_) | refine Qb2 (hf := ?_) | refine Qb3 (ht := fun q => ?_) (hf := fun q => ?_) | refine Qbz ?_ | refine QcP ?_ | refine Qby ?_ | refine Qb5 ?_ | refine Qfy ?_ | ((fail_if_success show ASeq _ _ _ _ ⟨_, (_, .d (.v (.bool true))) :: _, _⟩); (fail_if_success show ASeq _ _ _ _ ⟨_, (_, .d (.v (.bool false))) :: _, _⟩); refine splitS (fun q => ?_) (fun q => ?_))))
 all_goals first
  |(exfalso; simp only [decide_eq_true_eq, decide_eq_false_iff_not, beq_eq_false_iff_ne] at *; omega)
  |(simp; omega)
  |((refine Qbv 1 (h := ?_); refine Qb1 (hx := ?_)); rw [F.out (by simp at *; omega)]; rfl)
  |skip
 have e1 : 0 < m /\ k + m < s.length /\ ((b.toNat : Nat) : Int) = 58 /\ n <= s.length - k - m - 1 := by simp only [decide_eq_true_eq, decide_eq_false_iff_not, beq_eq_false_iff_ne, bne_eq_false_iff_eq] at *; omega
 obtain ⟨e1, e2, e3, e4⟩ := e1
 refine Qb9 (s.length - (k + m + 1 + n)) (by omega) ⟨k + m + 1 + n, g + 1, out ++ [(s.drop (k + m + 1)).take n], by omega, rfl, Pm.hid (T.out e1 e2 e3 e4), Pm.hid ?_, by simp; omega, ?_⟩
 ·intro x hx
  rcases List.mem_append.1 hx with hx | hx
  ·exact hX.out x hx
  ·rw [List.mem_singleton] at hx; subst hx
   rw [List.length_take, List.length_drop]; omega
 ·have t1 : ((k : Int) + (m : Int) + 1).toNat = k + m + 1 := by omega
  have t2 : ((k : Int) + (m : Int) + 1 + (n : Int)).toNat = k + m + 1 + n := by omega
  have t3 : k + m + 1 + n - (k + m + 1) = n := by omega
  simp [keepE, go_sem, t1, t2, t3, List.drop_take]
theorem ptrPut_len (p : Pl.Ptr) : (Pl.ptrPut p).length <= Pm.big := by
 unfold Pl.ptrPut
 split
 ·split
  ·decide
  ·unfold Pl.ptrText Pl.dots
   rename_i h _
   have hb := Pl.Qcj h
   have h1 := Pl.Qb8 8 p.pat.toNat (by omega)
   have h2 := Pl.Qb8 8 p.birth.toNat (by omega)
   have h3 := Pl.Qb8 8 p.size.toNat (by omega)
   have h4 := Pl.Qb8 8 p.sum.toNat (by omega)
   have h5 := Pl.Qb8 8 p.level.toNat (by omega)
   simp [List.intersperse, Pm.big]; omega
 ·decide
theorem Qoh (n : Pl.Node) : Pure Tryz.prog 191 [dNode n] (dS (Pl.Qa6 n)) := by
 have c := aNodeOk n
 have hd : Hid (Pl.Qa6 n = if Pl.Qaq n then Pl.fp (Pl.Qas n) else []) := Pm.hid rfl
 cases h : Pl.Qaq n
 ·rw [h] at c
  (refine Qbw Tryz.func191 rfl Tryz.ntmps191 Tryz.results191 rfl ?_; simp only [parE, Nat.zero_add, Nat.reduceAdd])
  (refine Qbu (Qbr ?_); (repeat (first | refine e1 (k := ?_) | refine e2 (k := ?_) | fail)); refine Qbs ?_)
  refine Qbv 0 (h := ?_)
  (repeat' (first | refine e1 (k := ?_) | refine stepS (Qbt Tryz.call190 c rfl) (k := ?_) | refine Qbs ?_ | refine Qbu ?_ | refine Qbr ?_ | refine Qb0 (ht := ?_) | fail))
  refine Qb1 (hx := ?_)
  rw [hd.out, h]; rfl
 ·rw [h] at c
  have hb := Qdr h
  have h1 := hb.kind
  have h2 := hb.links
  have h3 := hb.size
  have h4 := hb.depth
  have h5 := hb.many
  obtain ⟨kind, links, size, ⟨root, depth, many⟩⟩ := n
  simp only at h1 h2 h3 h4 h5
  obtain ⟨kind, rfl⟩ := Int.eq_ofNat_of_zero_le (show 0 <= kind by omega)
  obtain ⟨links, rfl⟩ := Int.eq_ofNat_of_zero_le (show 0 <= links by omega)
  obtain ⟨size, rfl⟩ := Int.eq_ofNat_of_zero_le h3.1
  obtain ⟨depth, rfl⟩ := Int.eq_ofNat_of_zero_le h4.1
  obtain ⟨many, rfl⟩ := Int.eq_ofNat_of_zero_le h5.1
  have e : Hid (Pl.Qa6 ⟨kind, links, size, ⟨root, depth, many⟩⟩ = (Pl.QbK [Pl.dec kind, Pl.dec links, Pl.dec size, Pl.ptrPut root, Pl.dec depth, Pl.dec many, [101, 110, 100]]).getD []) := Pm.hid (by rw [hd.out, h]; rfl)
  have c1 := al6Dec kind (by omega)
  have c2 := al6Dec links (by omega)
  have c3 := al6Dec size (by omega)
  have c4 := al6Dec depth (by omega)
  have c5 := al6Dec many (by omega)
  have hl : ∀ k, k <= 4294967296 -> (Pl.dec k).length <= Pm.big := fun k hk => Nat.le_trans (Pl.Qb8 10 k (by omega)) (by decide)
  have cp := (Qgz [Pl.dec kind, Pl.dec links, Pl.dec size, Pl.ptrPut root, Pl.dec depth, Pl.dec many, [101, 110, 100]] (by simp [Pm.big]) (by
   intro x hx
   simp only [List.mem_cons, List.not_mem_nil, or_false] at hx
   rcases hx with rfl | rfl | rfl | rfl | rfl | rfl | rfl
   ·exact hl _ (by omega)
   ·exact hl _ (by omega)
   ·exact hl _ (by omega)
   ·exact ptrPut_len root
   ·exact hl _ (by omega)
   ·exact hl _ (by omega)
   ·decide)).arg (l := [tStrs [Pl.dec kind, Pl.dec links, Pl.dec size, Pl.ptrPut root, Pl.dec depth, Pl.dec many, [101, 110, 100]]])
  have c6 := aPtrPut root
  clear hd hb h h1 h2 h3 h4 h5 hl
  generalize Pl.QbK [Pl.dec kind, Pl.dec links, Pl.dec size, Pl.ptrPut root, Pl.dec depth, Pl.dec many, [101, 110, 100]] = r at *
  generalize Pl.ptrPut root = rt at *
  generalize Pl.dec kind = d1 at *
  generalize Pl.dec links = d2 at *
  generalize Pl.dec size = d3 at *
  generalize Pl.dec depth = d4 at *
  generalize Pl.dec many = d5 at *
  (refine Qbw Tryz.func191 rfl Tryz.ntmps191 Tryz.results191 rfl ?_; simp only [parE, Nat.zero_add, Nat.reduceAdd])
  (refine Qbu (Qbr ?_); (repeat (first | refine e1 (k := ?_) | refine e2 (k := ?_) | fail)); refine Qbs ?_)
  refine Qbv 0 (h := ?_)
  (repeat' (first | refine f1 (k := ?_) | refine e1 (k := ?_) | refine stepS (Qbt Tryz.call190 c rfl) (k := ?_) | refine stepD (Qbt Tryz.call260 c1 rfl) (k := ?_) | refine stepD (Qbt Tryz.call260 c2 rfl) (k := ?_) | refine stepD (Qbt Tryz.call260 c3 rfl) (k := ?_) | refine stepD (Qbt Tryz.call260 c4 rfl) (k := ?_) | refine stepD (Qbt Tryz.call260 c5 rfl) (k := ?_) | refine stepD (Qbt Tryz.call261 c6 rfl) (k := ?_) | refine stepD (QhI Tryz.call258 cp rfl) (k := ?_) | refine stepD2 (QbE Ty.h rfl Ty.h) (k := ?_) | refine Qbs ?_ | refine Qb6 ?_ | refine Qbu ?_ | refine Qbr ?_ | refine QbF follows_mixed (by kernel_rfl) (by kernel_rfl) ?_ | refine Qb2 (hf := ?_) | refine Qbz ?_ | fail))
  exact Qb1 (hx := by rw [e.out])
theorem Ql3 {s : List UInt8} {l : List (List UInt8)} (h : Pl.IsRec s l) : ∀ x ∈ l, x.length <= 2048 := by
 intro x hx
 obtain ⟨a, b, rfl⟩ := List.append_of_mem hx
 have h1 := h.2.1
 rw [<- h.2.2, Pl.Qdf, Pl.Qdz, List.length_append, List.length_append, Pl.Qf8] at h1
 omega
theorem Qhn (s : List UInt8) (hs : s.length <= Pm.big) : Pure Tryz.prog 117 [dS s] (.tup [dNode (Pl.ng s).1, dB (Pl.ng s).2]) := by
 have c := Qli s hs
 rcases Qj0 s with ⟨hr, hok⟩ | h0
 rotate_left
 ·have hn : Hid (Pl.ng s = (Pl.zn, false)) := Pm.hid (Qfe (.inl (by rw [h0])))
  rw [h0] at c
  (refine QbN Tryz.func117 rfl Tryz.ntmps117 Tryz.results117 rfl ?_; simp only [parE, Nat.zero_add, Nat.reduceAdd])
  (repeat' (first | refine e1 (k := ?_) | refine e0 (k := ?_) | refine stepS (Qbt Tryz.call187 c rfl) (k := ?_) | refine QbB (kk := ?_) | refine Qbs ?_ | refine Qbu ?_ | refine Qbr ?_ | refine Qb0 (ht := ?_) | refine e2 (k := ?_) | fail))
  (refine Qbv 0 (h := ?_); refine QbP (hx := ?_))
  rw [hn.out]; rfl
 by_cases h7 : (Pl.rg s).1.length = 7
 rotate_left
 ·have hn : Hid (Pl.ng s = (Pl.zn, false)) := Pm.hid (Qfe (.inr h7))
  rw [hok] at c
  generalize (Pl.rg s).1 = l at *
  clear hr hok
  (refine QbN Tryz.func117 rfl Tryz.ntmps117 Tryz.results117 rfl ?_; simp only [parE, Nat.zero_add, Nat.reduceAdd])
  (repeat' (first | refine e1 (k := ?_) | refine stepS (Qbt Tryz.call187 c rfl) (k := ?_) | refine QbB (kk := ?_) | refine Qbs ?_ | refine Qbu ?_ | refine Qbr ?_ | refine Qb3 (ht := fun q => ?_) (hf := fun q => ?_) | refine Qbz ?_ | refine e2 (k := ?_) | fail))
  all_goals first
   |(exfalso; simp only [bne_eq_false_iff_eq] at *; omega)
   |((refine Qbv 0 (h := ?_); refine QbP (hx := ?_)); rw [hn.out]; rfl)
 rw [hok] at c
 generalize (Pl.rg s).1 = l at *
 match l, h7 with
 |[x1, x2, x3, x4, x5, x6, x7], _ =>
 have hl := Ql3 hr
 have hg := Pm.hid (Qoq hr)
 have cn : ∀ x ∈ [x1, x2, x3, x4, x5, x6, x7], Pure Tryz.prog 188 [dS x] (.tup [dI ((Pl.numGet x).getD 0 : Nat), dB (Pl.numGet x).isSome]) := fun x hx => aNumGet x (by have := hl x hx; unfold Pm.big; omega)
 have c1 := cn x1 (by simp)
 have c2 := cn x2 (by simp)
 have c3 := cn x3 (by simp)
 have c5 := cn x5 (by simp)
 have c6 := cn x6 (by simp)
 have c4 := aPtrGet x4 (by have := hl x4 (by simp); omega)
 have ck := aNodeOk (Pl.QaG x1 x2 x3 x4 x5 x6)
 have cp := Qoh (Pl.QaG x1 x2 x3 x4 x5 x6)
 have hp : Hid (Pl.Qaq (Pl.QaG x1 x2 x3 x4 x5 x6) = false -> ¬ Pl.Qa6 (Pl.QaG x1 x2 x3 x4 x5 x6) = s) := fun h e => by
  unfold Pl.Qa6 at e
  rw [h] at e
  exact Ql2 hr e.symm
 obtain ⟨N, hN⟩ : ∃ N, N = Pl.QaG x1 x2 x3 x4 x5 x6 := ⟨_, rfl⟩
 rw [<- hN] at ck cp hg hp
 unfold Pl.QaG at hN
 clear cn hl hr hok
 generalize (Pl.numGet x1).getD 0 = n1 at *
 generalize (Pl.numGet x2).getD 0 = n2 at *
 generalize (Pl.numGet x3).getD 0 = n3 at *
 generalize (Pl.numGet x5).getD 0 = n5 at *
 generalize (Pl.numGet x6).getD 0 = n6 at *
 generalize (Pl.pg x4).1 = pp at *
 obtain ⟨p1, p2, p3, p4, p5⟩ := pp
 generalize Pl.Qaq N = ok at *
 generalize Pl.Qa6 N = t at *
 subst hN
 (refine QbN Tryz.func117 rfl Tryz.ntmps117 Tryz.results117 rfl ?_; simp only [parE, Nat.zero_add, Nat.reduceAdd])
 (repeat' (first | refine e1 (k := ?_) | refine e0 (k := ?_) | refine stepS (Qbt Tryz.call187 c rfl) (k := ?_) | refine stepS (Qbt Tryz.call188 c1 rfl) (k := ?_) | refine stepS (Qbt Tryz.call188 c2 rfl) (k := ?_) | refine stepS (Qbt Tryz.call188 c3 rfl) (k := ?_) | refine stepS (Qbt Tryz.call188 c5 rfl) (k := ?_) | refine stepS (Qbt Tryz.call188 c6 rfl) (k := ?_) | refine stepS (Qbt Tryz.call189 c4 rfl) (k := ?_) | refine stepS (Qbt Tryz.call190 ck rfl) (k := ?_) | refine stepS (Qbt Tryz.call191 cp rfl) (k := ?_) | refine stepS (Qbx Ty.h rfl Ty.h rfl rfl rfl (by omega) rfl) (k := ?_) | refine stepS (QbU rfl rfl) (k := ?_) | refine QbB (kk := ?_) | refine Qbs ?_ | refine Qbu ?_ | refine Qbr ?_ | refine Qb0 (ht := ?_) | refine Qb2 (hf := ?_) | refine Qb3 (ht := fun q => ?_) (hf := fun q => ?_) | refine Qbz ?_ | refine e2 (k := ?_) | ((fail_if_success show ASeq _ _ _ _ ⟨_, (_, .d (.v (.bool true))) :: _, _⟩); (fail_if_success show ASeq _ _ _ _ ⟨_, (_, .d (.v (.bool false))) :: _, _⟩); refine splitS (fun q => ?_) (fun q => ?_))))
 ·(refine Qbv 0 (h := ?_); refine QbP (hx := ?_))
  rw [hg.out, if_neg (hp.out (by simpa using q))]; rfl
 ·(refine Qbv 0 (h := ?_); refine QbP (hx := ?_))
  rw [hg.out, if_neg (by simpa using q)]; rfl
 ·(refine Qbv 0 (h := ?_); refine QbP (hx := ?_))
  rw [hg.out, if_pos (by simpa using q)]
end Aw
end Go.Proofs.YtdjkdcokjoiokaaGreatDoor
namespace Go.Proofs.YtdjkdcokjoiokaaGreatDoor
namespace Gr
inductive FD (kind : Nat -> Nat) (ch : Nat -> Option (List Nat)) : List Nat -> List Nat -> Prop
 |nil : FD kind ch [] []
 |file {k : Nat} {es L : List Nat} : kind k = 1 -> FD kind ch es L -> FD kind ch (k :: es) (k :: L)
 |dir {k : Nat} {cs es L1 L2 : List Nat} : kind k = 2 -> ch k = some cs -> FD kind ch cs L1 -> FD kind ch es L2 -> FD kind ch (k :: es) (k :: (L1 ++ L2))
inductive TD (kind : Nat -> Nat) (ch : Nat -> Option (List Nat)) : List Nat -> List Nat -> Prop
 |nil : TD kind ch [] []
 |cons {f : Nat} {es t L1 L2 : List Nat} : kind f = 2 -> ch f = some es -> FD kind ch es L1 -> TD kind ch t L2 -> TD kind ch (f :: t) (L1 ++ L2)
variable {kind : Nat -> Nat} {ch : Nat -> Option (List Nat)}
theorem FD.unique {es L : List Nat} (h : FD kind ch es L) : ∀ {M : List Nat}, FD kind ch es M -> M = L := by
 induction h with
 |nil => intro M hm; cases hm; rfl
 |file hk h ih =>
  intro M hm
  cases hm with
  |file hk' h' => rw [ih h']
  |dir hk' hc' h1' h2' => rw [hk] at hk'; cases hk'
 |dir hk hc h1 h2 ih1 ih2 =>
  intro M hm
  cases hm with
  |file hk' h' => rw [hk] at hk'; cases hk'
  |dir hk' hc' h1' h2' =>
   rw [hc] at hc'; obtain rfl := Option.some.inj hc'
   rw [ih1 h1', ih2 h2']
theorem FD.kinds {es L : List Nat} (h : FD kind ch es L) : ∀ k ∈ L, kind k = 1 ∨ kind k = 2 /\ (ch k).isSome = true := by
 induction h with
 |nil => intro k hk; cases hk
 |file hk h ih =>
  intro k hm
  rcases List.mem_cons.1 hm with rfl | hm
  ·exact .inl hk
  ·exact ih k hm
 |dir hk hc h1 h2 ih1 ih2 =>
  intro k hm
  rcases List.mem_cons.1 hm with rfl | hm
  ·exact .inr ⟨hk, by rw [hc]; rfl⟩
  ·rcases List.mem_append.1 hm with hm | hm
   ·exact ih1 k hm
   ·exact ih2 k hm
theorem TD.snoc {t L cs L1 : List Nat} {f : Nat} (h : TD kind ch t L) (hk : kind f = 2) (hc : ch f = some cs) (h1 : FD kind ch cs L1) : TD kind ch (t ++ [f]) (L ++ L1) := by
 induction h with
 |nil => have := TD.cons hk hc h1 .nil; simpa using this
 |cons hk' hc' h1' h2' ih => have := TD.cons hk' hc' h1' ih; simpa [List.append_assoc] using this
theorem TD.unsnoc {f : Nat} : ∀ {t L : List Nat}, TD kind ch (t ++ [f]) L -> ∃ cs L1 L2, L = L2 ++ L1 /\ kind f = 2 /\ ch f = some cs /\ FD kind ch cs L1 /\ TD kind ch t L2
 |[], L, h => by
  cases h with
  |cons hk hc h1 h2 => cases h2; exact ⟨_, _, [], by simp, hk, hc, h1, .nil⟩
 |g :: t, L, h => by
  cases h with
  |cons hk hc h1 h2 =>
   obtain ⟨cs, L1, L2, rfl, hk', hc', h1', h2'⟩ := TD.unsnoc h2
   exact ⟨cs, L1, _, (List.append_assoc ..).symm, hk', hc', h1', .cons hk hc h1 h2'⟩
def inner (kind : Nat -> Nat) : List Nat -> List Nat -> List Nat -> Option (List Nat × List Nat)
 |[], t, nm => some (t, nm)
 |e :: es, t, nm => if kind e = 0 then none else if kind e = 2 then (if 0 < nm.count e then none else inner kind es (t ++ [e]) (nm ++ [e])) else inner kind es t (nm ++ [e])
def bfs (kind : Nat -> Nat) (ch : Nat -> Option (List Nat)) : Nat -> List Nat -> List Nat -> Option (List Nat)
 |_, [], nm => some nm
 |0, _ :: _, _ => none
 |n + 1, f :: t, nm => match inner kind ((ch f).getD []) t nm with
  |none => none
  |some (t', nm') => bfs kind ch n t' nm'
def left (kind : Nat -> Nat) (m : Nat) (nm : List Nat) : Nat := ((List.range m).filter fun k => decide (kind k = 2) && decide (nm.count k = 0)).length
theorem Qdy {p q : Nat -> Bool} (h : ∀ k, q k = true -> p k = true) : ∀ l : List Nat, (l.filter q).length <= (l.filter p).length
 |[] => by simp
 |a :: l => by
  have ih := Qdy h l
  rw [List.filter_cons, List.filter_cons]
  cases hq : q a
  ·cases hp : p a <;> simp <;> omega
  ·rw [h a hq]; simp; exact ih
theorem Qe2 {p q : Nat -> Bool} {e : Nat} (h : ∀ k, q k = true -> p k = true) (hp : p e = true) (hq : q e = false) : ∀ l : List Nat, e ∈ l -> (l.filter q).length < (l.filter p).length
 |[], hm => by cases hm
 |a :: l, hm => by
  rw [List.filter_cons, List.filter_cons]
  rcases List.mem_cons.1 hm with rfl | hm
  ·rw [hp, hq]
   have := Qdy h l
   simp; omega
  ·have ih := Qe2 h hp hq l hm
   cases hq' : q a
   ·cases hp' : p a <;> simp <;> omega
   ·rw [h a hq']; simp; exact ih
theorem left_le {m e : Nat} {nm : List Nat} : left kind m (nm ++ [e]) <= left kind m nm := by
 unfold left
 refine Qdy (fun k hk => ?_) _
 simp only [Bool.and_eq_true, decide_eq_true_eq, List.count_append] at *
 omega
theorem left_lt {m e : Nat} {nm : List Nat} (hm : e < m) (hk : kind e = 2) (h0 : nm.count e = 0) : left kind m (nm ++ [e]) < left kind m nm := by
 unfold left
 refine Qe2 (fun k hk => ?_) ?_ ?_ _ (List.mem_range.2 hm)
 ·simp only [Bool.and_eq_true, decide_eq_true_eq, List.count_append] at *
  omega
 ·simp [hk, h0]
 ·simp [List.count_append]
theorem QdT {m : Nat} (hm : ∀ k, kind k = 2 -> k < m) : ∀ {es t nm t' nm' : List Nat}, inner kind es t nm = some (t', nm') -> t'.length + left kind m nm' <= t.length + left kind m nm
 |[], t, nm, t', nm', h => by simp only [inner, Option.some.injEq, Prod.mk.injEq] at h; obtain ⟨rfl, rfl⟩ := h; exact Nat.le_refl _
 |e :: es, t, nm, t', nm', h => by
  unfold inner at h
  split at h
  ·cases h
  ·split at h
   ·rename_i hk
    split at h
    ·cases h
    ·rename_i h0
     have := QdT hm h
     have := left_lt (hm e hk) hk (show nm.count e = 0 by omega)
     rw [List.length_append, List.length_singleton] at *
     omega
   ·have := QdT hm h
    have := left_le (kind := kind) (m := m) (e := e) (nm := nm)
    omega
theorem QeJ : ∀ {es t nm t' nm' : List Nat}, inner kind es t nm = some (t', nm') -> (∀ k ∈ t, kind k = 2) -> ∀ k ∈ t', kind k = 2
 |[], t, nm, t', nm', h, ht => by simp only [inner, Option.some.injEq, Prod.mk.injEq] at h; obtain ⟨rfl, rfl⟩ := h; exact ht
 |e :: es, t, nm, t', nm', h, ht => by
  unfold inner at h
  split at h
  ·cases h
  ·split at h
   ·rename_i hk
    split at h
    ·cases h
    ·refine QeJ h fun k hm => ?_
     rcases List.mem_append.1 hm with hm | hm
     ·exact ht k hm
     ·rw [List.mem_singleton] at hm; rw [hm]; exact hk
   ·exact QeJ h ht
theorem QiL {L0 : List Nat} (hone : ∀ k, kind k = 2 -> L0.count k <= 1) {es L1 : List Nat} (h : FD kind ch es L1) : ∀ {t nm L : List Nat}, TD kind ch t L ->
 (∀ k, nm.count k + L1.count k + L.count k <= L0.count k) -> ∃ t' nm' L', inner kind es t nm = some (t', nm') /\ TD kind ch t' L' /\ ∀ k, nm'.count k + L'.count k = nm.count k + L1.count k + L.count k := by
 induction h with
 |nil => intro t nm L ht hc; exact ⟨t, nm, L, rfl, ht, fun k => by simp⟩
 |@file e es L1 hk h ih =>
  intro t nm L ht hc
  obtain ⟨t', nm', L', h1, h2, h3⟩ := ih (nm := nm ++ [e]) ht fun k => by
   have := hc k
   simp only [List.count_append, List.count_cons, List.count_nil] at *
   omega
  refine ⟨t', nm', L', ?_, h2, fun k => ?_⟩
  ·unfold inner; rw [if_neg (by omega), if_neg (by omega)]; exact h1
  ·rw [h3 k]; simp only [List.count_append, List.count_cons, List.count_nil]; omega
 |@dir e cs es L1 L2 hk hc h1 h2 ih1 ih2 =>
  intro t nm L ht hcn
  obtain ⟨t', nm', L', g1, g2, g3⟩ := ih2 (nm := nm ++ [e]) (ht.snoc hk hc h1) fun k => by
   have := hcn k
   simp only [List.count_append, List.count_cons, List.count_nil] at *
   omega
  refine ⟨t', nm', L', ?_, g2, fun k => ?_⟩
  ·unfold inner
   have h1 := hcn e
   have h2 := hone e hk
   simp only [List.count_append, List.count_cons, beq_self_eq_true, if_true] at h1
   rw [if_neg (by omega), if_pos hk, if_neg (by omega)]; exact g1
  ·rw [g3 k]; simp only [List.count_append, List.count_cons, List.count_nil]; omega
theorem QmF {m : Nat} (hm : ∀ k, kind k = 2 -> k < m) {L0 : List Nat} (hone : ∀ k, kind k = 2 -> L0.count k <= 1) : ∀ {n : Nat} {t nm L : List Nat}, TD kind ch t L -> t.length + left kind m nm <= n ->
 (∀ k, nm.count k + L.count k <= L0.count k) -> ∃ nm', bfs kind ch n t nm = some nm' /\ ∀ k, nm'.count k = nm.count k + L.count k := by
 intro n
 induction n with
 |zero =>
  intro t nm L ht hn hc
  cases ht with
  |nil => exact ⟨nm, rfl, fun k => by simp⟩
  |cons _ _ _ _ => simp at hn
 |succ n ih =>
  intro t nm L ht hn hc
  cases ht with
  |nil => exact ⟨nm, rfl, fun k => by simp⟩
  |@cons f es t L1 L2 hk hcf h1 h2 =>
   obtain ⟨t', nm', L', g1, g2, g3⟩ := QiL hone h1 (nm := nm) h2 fun k => by
    have := hc k
    simp only [List.count_append] at *
    omega
   have hl := QdT hm g1
   obtain ⟨nm2, k1, k2⟩ := ih (nm := nm') g2 (by rw [List.length_cons] at hn; omega) fun k => by
    have h1 := hc k
    have h2 := g3 k
    simp only [List.count_append] at *
    omega
   refine ⟨nm2, ?_, fun k => ?_⟩
   ·unfold bfs; rw [hcf, Option.getD_some, g1]; exact k1
   ·rw [k2 k, g3 k, List.count_append]; omega
theorem Qem : ∀ {es t nm t' nm' L' : List Nat}, inner kind es t nm = some (t', nm') -> TD kind ch t' L' -> (∀ e ∈ es, kind e <= 2) ->
 ∃ L1 L, FD kind ch es L1 /\ TD kind ch t L /\ ∀ k, nm'.count k + L'.count k = nm.count k + L1.count k + L.count k
 |[], t, nm, t', nm', L', h, ht, _ => by
  simp only [inner, Option.some.injEq, Prod.mk.injEq] at h; obtain ⟨rfl, rfl⟩ := h
  exact ⟨[], L', .nil, ht, fun k => by simp⟩
 |e :: es, t, nm, t', nm', L', h, ht, h2 => by
  unfold inner at h
  split at h
  ·cases h
  rename_i h0
  split at h
  ·rename_i hk
   split at h
   ·cases h
   obtain ⟨L1, L, g1, g2, g3⟩ := Qem h ht fun x hx => h2 x (List.mem_cons_of_mem _ hx)
   obtain ⟨cs, M1, M2, rfl, hk', hc', k1, k2⟩ := g2.unsnoc
   refine ⟨_, M2, .dir hk hc' k1 g1, k2, fun k => ?_⟩
   rw [g3 k]; simp only [List.count_append, List.count_cons, List.count_nil]; omega
  ·rename_i hk
   obtain ⟨L1, L, g1, g2, g3⟩ := Qem h ht fun x hx => h2 x (List.mem_cons_of_mem _ hx)
   have := h2 e List.mem_cons_self
   refine ⟨_, L, .file (by omega) g1, g2, fun k => ?_⟩
   rw [g3 k]; simp only [List.count_append, List.count_cons, List.count_nil]; omega
theorem Qml (hle : ∀ k, kind k <= 2) (hch : ∀ k, kind k = 2 -> ∃ cs, ch k = some cs) : ∀ {n : Nat} {t nm nm' : List Nat}, bfs kind ch n t nm = some nm' -> (∀ k ∈ t, kind k = 2) ->
 ∃ L, TD kind ch t L /\ ∀ k, nm'.count k = nm.count k + L.count k := by
 intro n
 induction n with
 |zero =>
  intro t nm nm' h ht
  cases t with
  |nil => simp only [bfs, Option.some.injEq] at h; subst h; exact ⟨[], .nil, fun k => by simp⟩
  |cons f t => cases h
 |succ n ih =>
  intro t nm nm' h ht
  cases t with
  |nil => simp only [bfs, Option.some.injEq] at h; subst h; exact ⟨[], .nil, fun k => by simp⟩
  |cons f t =>
   have hf := ht f List.mem_cons_self
   obtain ⟨cs, hc⟩ := hch f hf
   unfold bfs at h
   rw [hc, Option.getD_some] at h
   split at h
   ·cases h
   rename_i t1 nm1 hi
   obtain ⟨L', g1, g2⟩ := ih h (QeJ hi fun k hk => ht k (List.mem_cons_of_mem _ hk))
   obtain ⟨L1, L, k1, k2, k3⟩ := Qem hi g1 fun e _ => hle e
   refine ⟨_, .cons hf hc k1 k2, fun k => ?_⟩
   rw [g2 k, k3 k, List.count_append]; omega
theorem Qgk : ∀ (m : Nat) (L : List Nat), (∀ k ∈ L, k < m) -> L.length = ((List.range m).map fun k => L.count k).sum
 |m, [], _ => by
  have : ((List.range m).map fun k => ([] : List Nat).count k) = (List.range m).map fun _ => 0 := List.map_congr_left fun k _ => by simp
  rw [this]
  induction m with
  |zero => rfl
  |succ m ih => rw [List.range_succ, List.map_append, List.sum_append, <- ih (fun k h => by cases h) (List.map_congr_left fun k _ => by simp)]; rfl
 |m, a :: L, h => by
  have ih := Qgk m L fun k hk => h k (List.mem_cons_of_mem _ hk)
  have ha := h a List.mem_cons_self
  have key : ∀ n, ((List.range n).map fun k => (a :: L).count k).sum = ((List.range n).map fun k => L.count k).sum + if a < n then 1 else 0 := by
   intro n
   induction n with
   |zero => rfl
   |succ n ihn =>
    rw [List.range_succ, List.map_append, List.sum_append, List.map_append, List.sum_append, ihn]
    simp only [List.map_cons, List.map_nil, List.sum_cons, List.sum_nil, List.count_cons]
    by_cases h1 : a = n
    ·subst h1; simp; omega
    ·have : (a == n) = false := by simpa using h1
     rw [this]
     by_cases h2 : a < n
     ·rw [if_pos h2, if_pos (show a < n + 1 by omega)]; simp; omega
     ·rw [if_neg h2, if_neg (show ¬ a < n + 1 by omega)]; simp
  rw [key m, if_pos ha, <- ih]; rfl
theorem Qon (c : Nat) (f : Nat -> Nat) : ∀ (m : Nat), (∀ k, k < m -> f k <= c) -> ((List.range m).map f).sum <= m * c
 |0, _ => by simp
 |m + 1, h => by
  have := Qon c f m fun k hk => h k (by omega)
  have := h m (by omega)
  rw [List.range_succ, List.map_append, List.sum_append, Nat.succ_mul]
  simp; omega
end Gr
end Go.Proofs.YtdjkdcokjoiokaaGreatDoor

/- Part 21 of seek_card: contracts, walks, laws; no condition beyond the statement's. -/
import Derived.Test.YtdjkdcokjoiokaaGreatDoorW17
set_option linter.all false
set_option maxRecDepth 100000
set_option maxHeartbeats 4000000
namespace Go.Proofs.YtdjkdcokjoiokaaGreatDoor
section
open Go.RowKit
namespace Aw
def Pl.zn : Pl.Node := ⟨0, 0, 0, ⟨Pl.hole, 0, 0⟩⟩
theorem QkX (kind size : Int) : Pl.Qau kind size <= 16 := by
 unfold Pl.Qau;have he := QfZ kind;generalize Pl.each kind = e at *
 split
 ·decide
 ·split
  ·rename_i h1 h2
   have hb : 0 <= size /\ size <= 16 * e := by simpa [Pl.inR] using h2
   rcases he with rfl | rfl | rfl
   ·exact absurd rfl h1
   ·omega
   ·omega
  ·decide
structure NodeB (n : Pl.Node) : Prop where
 kind : n.kind = 1 ∨ n.kind = 2
 links : 1 <= n.links /\ n.links <= 9
 size : 0 <= n.size /\ n.size <= 2048
 ptr : Pl.ptrOk n.tree.root = true
 depth : 0 <= n.tree.depth /\ n.tree.depth <= 2
 many : 0 <= n.tree.many /\ n.tree.many <= 16
 one : n.kind = 2 -> n.links = 1
theorem QcI {n : Pl.Node} (h : Pl.Qak n = true) : NodeB n := by
 unfold Pl.Qak at h;simp only [Bool.and_eq_true, beq_iff_eq, decide_eq_true_eq] at h;obtain ⟨⟨⟨⟨⟨h1, h2⟩, h3⟩, h4⟩, h5⟩, h6⟩ := h;have hp := QkX n.kind n.size
 have hk : n.kind = 1 ∨ n.kind = 2 := by
  by_cases k1 : n.kind = 1
  ·exact .inl k1
  ·by_cases k2 : n.kind = 2
   ·exact .inr k2
   ·have : Pl.each n.kind = 0 := by unfold Pl.each; rw [if_neg k1, if_neg k2]
    unfold Pl.Qau at h1; rw [if_pos this] at h1; exact absurd h1 (by decide)
 have hs : 0 <= n.size /\ n.size <= 2048 := by
  have he : Pl.each n.kind ≠ 0 := by rcases hk with k | k <;> rw [k] <;> decide
  have he2 : Pl.each n.kind <= 128 := by rcases hk with k | k <;> rw [k] <;> decide
  unfold Pl.Qau at h1;rw [if_neg he] at h1;split at h1
  ·rename_i h
   have hb : 0 <= n.size /\ n.size <= 16 * Pl.each n.kind := by simpa [Pl.inR] using h
   omega
  ·exact absurd h1 (by decide)
 have hd : 0 <= n.tree.depth /\ n.tree.depth <= 2 := by rw [h3]; unfold Pl.QaF; split <;> (try split) <;> decide
 have hl : 1 <= n.links /\ n.links <= (if n.kind = 2 then 1 else 9) := by simpa [Pl.inR] using h5
 refine ⟨hk, ?_, hs, h4, hd, by omega, fun e => ?_⟩
 ·split at hl <;> omega
 ·rw [if_pos e] at hl; omega
def Pl.Qar (n : Pl.Node) : List (List UInt8) := [Pl.dec n.kind.toNat, Pl.dec n.links.toNat, Pl.dec n.size.toNat, Pl.ptrPut n.tree.root, Pl.dec n.tree.depth.toNat, Pl.dec n.tree.many.toNat, [101, 110, 100]]
def Pl.Qa1 (n : Pl.Node) : List UInt8 := if Pl.Qak n then Pl.fp (Pl.Qar n) else []
def Pl.QaG (s : List UInt8) (n : Pl.Node) : Prop := Pl.Qak n = true /\ Pl.IsRec s (Pl.Qar n)
theorem QfU {s : List UInt8} {n : Pl.Node} (hs : s ≠ []) : Pl.QaG s n ↔ Pl.Qa1 n = s := by
 constructor
 ·rintro ⟨h1, h2⟩
  unfold Pl.Qa1 Pl.fp;rw [if_pos h1, Pl.QdK.2 h2]; rfl
 ·intro h
  unfold Pl.Qa1 at h;split at h
  ·rename_i h1; exact ⟨h1, Pl.fp_some h hs⟩
  ·exact absurd h.symm hs
noncomputable def Pl.ng (s : List UInt8) : Pl.Node × Bool := open Classical in if h : ∃ n, Pl.QaG s n then (Classical.choose h, true) else (Pl.zn, false)
noncomputable def Pl.Qa7 (a b c d e f : List UInt8) : Pl.Node := ⟨((Pl.numGet a).getD 0 : Nat), ((Pl.numGet b).getD 0 : Nat), ((Pl.numGet c).getD 0 : Nat), ⟨(Pl.pg d).1, ((Pl.numGet e).getD 0 : Nat), ((Pl.numGet f).getD 0 : Nat)⟩⟩
theorem QcC {s a b c d e f g : List UInt8} {n : Pl.Node} (hr : Pl.IsRec s [a, b, c, d, e, f, g]) (h : Pl.QaG s n) :
 Pl.numGet a = some n.kind.toNat /\ Pl.numGet b = some n.links.toNat /\ Pl.numGet c = some n.size.toNat /\ Pl.pg d = (n.tree.root, true) /\ Pl.numGet e = some n.tree.depth.toNat /\ Pl.numGet f = some n.tree.many.toNat := by
 have hb := QcI h.1;have he := Pl.QeG hr h.2;simp only [Pl.Qar, List.cons.injEq] at he;obtain ⟨rfl, rfl, rfl, rfl, rfl, rfl, _⟩ := he;have h1 := hb.kind;have h2 := hb.links;have h3 := hb.size;have h4 := hb.depth;have h5 := hb.many;exact ⟨Pl.QbG (by omega), Pl.QbG (by omega), Pl.QbG (by omega), pg_is ⟨hb.ptr, rfl⟩, Pl.QbG (by omega), Pl.QbG (by omega)⟩
theorem Qfh {s a b c d e f g : List UInt8} {n : Pl.Node} (hr : Pl.IsRec s [a, b, c, d, e, f, g]) (h : Pl.QaG s n) : n = Pl.Qa7 a b c d e f := by
 have hb := QcI h.1;have h1 := hb.kind;have h2 := hb.links;have h3 := hb.size;have h4 := hb.depth;have h5 := hb.many;obtain ⟨q1, q2, q3, q4, q5, q6⟩ := QcC hr h;unfold Pl.Qa7;rw [q1, q2, q3, q4, q5, q6];obtain ⟨kind, links, size, root, depth, many⟩ := n;simp only [Option.getD_some, Pl.Node.mk.injEq, Pl.Tree.mk.injEq, true_and] at *
 refine ⟨?_, ?_, ?_, ?_, ?_⟩ <;> omega
theorem Qgv {s : List UInt8} {m n : Pl.Node} (hm : Pl.QaG s m) (hn : Pl.QaG s n) : m = n :=
 (Qfh hm.2 hm).trans (Qfh hm.2 hn).symm
theorem ng_is {s : List UInt8} {n : Pl.Node} (h : Pl.QaG s n) : Pl.ng s = (n, true) := by
 unfold Pl.ng;have hx : ∃ p, Pl.QaG s p := ⟨n, h⟩;rw [dif_pos hx, Qgv (Classical.choose_spec hx) h]
theorem QiX {s : List UInt8} (h : ∀ p, ¬ Pl.QaG s p) : Pl.ng s = (Pl.zn, false) := by
 unfold Pl.ng;rw [dif_neg (fun ⟨p, hp⟩ => h p hp)]
theorem QiY (s : List UInt8) : Pl.QaG s (Pl.ng s).1 /\ (Pl.ng s).2 = true ∨ Pl.ng s = (Pl.zn, false) := by
 unfold Pl.ng;split
 ·rename_i h; exact .inl ⟨Classical.choose_spec h, rfl⟩
 ·exact .inr rfl
theorem QkQ {s : List UInt8} {x : List UInt8} {l : List (List UInt8)} (h : Pl.IsRec s (x :: l)) : s ≠ [] := by
 rintro rfl;have := h.2.2;rw [Pl.Qdp] at this;exact Pl.QdU x (List.append_eq_nil_iff.1 this).1
theorem QnF {s a b c d e f g : List UInt8} (hr : Pl.IsRec s [a, b, c, d, e, f, g]) : Pl.ng s = if Pl.Qa1 (Pl.Qa7 a b c d e f) = s then (Pl.Qa7 a b c d e f, true) else (Pl.zn, false) := by
 have hs := QkQ hr;split
 ·rename_i h; exact ng_is ((QfU hs).2 h)
 ·rename_i h
  refine QiX fun p hp => h ?_
  rw [<- Qfh hr hp];exact (QfU hs).1 hp
theorem QeN {s : List UInt8} (h : (Pl.rg s).2 = false ∨ (Pl.rg s).1.length ≠ 7) : Pl.ng s = (Pl.zn, false) := by
 refine QiX fun p hp => ?_
 rw [rg_is hp.2] at h;rcases h with h | h
 ·cases h
 ·exact h rfl
theorem QiR (s : List UInt8) : Pl.IsRec s (Pl.rg s).1 /\ (Pl.rg s).2 = true ∨ Pl.rg s = ([], false) := by
 unfold Pl.rg;split
 ·rename_i h; exact .inl ⟨Classical.choose_spec h, rfl⟩
 ·exact .inr rfl
theorem Qig (s : List UInt8) : NodeB (Pl.ng s).1 ∨ (Pl.ng s).1 = Pl.zn := by
 rcases QiY s with h | h
 ·exact .inl (QcI h.1.1)
 ·exact .inr (by rw [h])
def Pl.cut0 (s : List UInt8) : List UInt8 := (s.reverse.dropWhile (· == 0)).reverse
theorem Qjq : Pl.cut0 [] = [] := rfl
theorem Qf0 (s : List UInt8) (c : UInt8) : Pl.cut0 (s ++ [c]) = if c == 0 then Pl.cut0 s else s ++ [c] := by
 unfold Pl.cut0;rw [List.reverse_append, List.reverse_singleton, List.singleton_append, List.dropWhile_cons];split
 ·rfl
 ·simp
theorem QlU (s : List UInt8) : Pl.cut0 s = s ↔ s.getLast? ≠ some 0 := by
 rcases List.eq_nil_or_concat s with rfl | ⟨l, c, rfl⟩
 ·simp [Qjq]
 ·rw [List.concat_eq_append, Qf0]
  by_cases h : c = 0
  ·subst h
   simp only [beq_self_eq_true, if_true, List.getLast?_append, List.getLast?_singleton, Option.some_or, ne_eq, not_true_eq_false, iff_false];intro h;have h1 : (Pl.cut0 l).length <= l.length := by unfold Pl.cut0; rw [List.length_reverse]; exact Nat.le_trans (List.dropWhile_sublist _).length_le (by simp)
   rw [h] at h1; simp at h1; omega
  ·simp [h]
abbrev Pl.Ent := List UInt8 × Int
abbrev rEnt (e : Pl.Ent) : List D := [dS e.1, dI e.2]
def Pl.Qai (s : List UInt8) : Bool := s.all (fun c => decide (97 <= c.toNat) && decide (c.toNat <= 122)) && decide (1 <= s.length) && decide (s.length <= 4)
def Pl.Qa6 (l : List Pl.Ent) (i : Nat) : Bool := Pl.Qai (l.getD i ([], 0)).1 && Pl.inR (l.getD i ([], 0)).2 1 15 && (decide (i = 0) || Op.bytesLess (l.getD (i - 1) ([], 0)).1 (l.getD i ([], 0)).1)
def Pl.Qag (l : List Pl.Ent) : Bool := (List.range l.length).all (Pl.Qa6 l) && decide (l.length <= 12)
def Pl.Qay (e : Pl.Ent) : List UInt8 := e.1 ++ 61 :: Pl.dec e.2.toNat
def Pl.Qaj (l : List Pl.Ent) : List UInt8 := l.flatMap fun e => Pl.Qay e ++ [59]
def Pl.QaJ (s : List UInt8) (l : List Pl.Ent) : Prop := Pl.Qag l = true /\ Pl.Qaj l = s
noncomputable def Pl.eg (s : List UInt8) : List Pl.Ent × Bool := open Classical in if h : ∃ l, Pl.QaJ s l then (Classical.choose h, true) else ([], false)
def Pl.Qa0 (x : List UInt8) : Option Pl.Ent := match Pl.cutB 61 x with
 |[a, b] => some (a, ((Pl.numGet b).getD 0 : Nat))
 |_ => none
theorem ent_b {l : List Pl.Ent} (h : Pl.Qag l = true) : ∀ e ∈ l, Pl.Qai e.1 = true /\ 1 <= e.2 /\ e.2 <= 15 := by
 intro e he;unfold Pl.Qag at h;rw [Bool.and_eq_true, List.all_eq_true] at h;obtain ⟨i, hi, rfl⟩ := List.getElem_of_mem he;have := h.1 i (List.mem_range.2 hi);unfold Pl.Qa6 at this;rw [List.getD_eq_getElem?_getD, List.getElem?_eq_getElem hi] at this;simp only [Option.getD_some, Bool.and_eq_true] at this;refine ⟨this.1.1, ?_⟩;have h2 := this.1.2;simp [Pl.inR] at h2; omega
theorem QdA {s : List UInt8} {c : UInt8} (h : Pl.Qai s = true) (hc : c.toNat < 97) : c ∉ s := by
 intro hm;unfold Pl.Qai at h;simp only [Bool.and_eq_true, List.all_eq_true, decide_eq_true_eq] at h;have := (h.1.1 c hm).1;omega
theorem Qeo (n : Nat) {c : UInt8} (hc : 57 < c.toNat) : c ∉ Pl.dec n := by
 intro hm;have := List.all_eq_true.1 (Pl.QdY n) c hm;have := (Pl.Qc1 c).1 this;omega
theorem Qi2 {e : Pl.Ent} (h1 : Pl.Qai e.1 = true) (h2 : 1 <= e.2 /\ e.2 <= 15) : Pl.Qa0 (Pl.Qay e) = some e := by
 unfold Pl.Qa0 Pl.Qay;rw [Pl.QbS 61 _ _ (QdA h1 (by decide)), Pl.Qcx 61 _ (Qeo _ (by decide))];simp only [Pl.QbG (show e.2.toNat < 1000000000 by omega), Option.getD_some];obtain ⟨a, b⟩ := e;simp only [Option.some.injEq, Prod.mk.injEq, true_and] at *
 omega
theorem QeO : ∀ {l : List Pl.Ent}, (∀ e ∈ l, Pl.Qai e.1 = true /\ 1 <= e.2 /\ e.2 <= 15) -> Pl.cutB 59 (Pl.Qaj l) = l.map Pl.Qay ++ [[]]
 |[], _ => rfl
 |e :: l, h => by
  have h1 : Pl.Qaj (e :: l) = Pl.Qay e ++ 59 :: Pl.Qaj l := by simp [Pl.Qaj]
  have hn : (59 : UInt8) ∉ Pl.Qay e := by
   unfold Pl.Qay;intro hm;rcases List.mem_append.1 hm with hm | hm
   ·exact QdA (h e List.mem_cons_self).1 (by decide) hm
   ·rcases List.mem_cons.1 hm with hm | hm
    ·exact absurd hm (by decide)
    ·exact Qeo _ (by decide) hm
  rw [h1, Pl.QbS 59 _ _ hn, QeO fun x hx => h x (List.mem_cons_of_mem _ hx)]; rfl
theorem QdV {s : List UInt8} {l : List Pl.Ent} (h : Pl.QaJ s l) : (Pl.cutB 59 s).length = l.length + 1 /\ ∀ (i : Nat) e, l[i]? = some e -> ∃ x, (Pl.cutB 59 s)[i]? = some x /\ Pl.Qa0 x = some e := by
 have hb := ent_b h.1;rw [<- h.2, QeO hb];refine ⟨by simp, fun i e he => ⟨Pl.Qay e, ?_, ?_⟩⟩
 ·rw [List.getElem?_append_left (by simpa using (List.getElem?_eq_some_iff.1 he).1), List.getElem?_map, he]; rfl
 ·have := hb e (List.mem_of_getElem? he); exact Qi2 this.1 this.2
theorem Qfs {s : List UInt8} {l m : List Pl.Ent} (h : Pl.QaJ s l) (hm : m.length + 1 = (Pl.cutB 59 s).length) (hr : ∀ (i : Nat) e, m[i]? = some e -> ∃ x, (Pl.cutB 59 s)[i]? = some x /\ Pl.Qa0 x = some e) : m = l := by
 obtain ⟨h1, h2⟩ := QdV h;refine List.ext_getElem (by omega) fun i hi hi' => ?_
 obtain ⟨x, hx, hx2⟩ := hr i _ (List.getElem?_eq_getElem hi);obtain ⟨y, hy, hy2⟩ := h2 i _ (List.getElem?_eq_getElem hi');rw [hx] at hy;obtain rfl := Option.some.inj hy;rw [hx2] at hy2;exact Option.some.inj hy2
theorem Qgw {s : List UInt8} {l m : List Pl.Ent} (h : Pl.QaJ s l) (hm : Pl.QaJ s m) : m = l := by
 obtain ⟨h1, h2⟩ := QdV hm;exact Qfs h (by omega) h2
theorem eg_is {s : List UInt8} {l : List Pl.Ent} (h : Pl.QaJ s l) : Pl.eg s = (l, true) := by
 unfold Pl.eg;have hx : ∃ p, Pl.QaJ s p := ⟨l, h⟩;rw [dif_pos hx, Qgw h (Classical.choose_spec hx)]
theorem Qjn {s : List UInt8} (h : ∀ p, ¬ Pl.QaJ s p) : Pl.eg s = ([], false) := by
 unfold Pl.eg;rw [dif_neg (fun ⟨p, hp⟩ => h p hp)]
theorem Qnc (s : List UInt8) : Pl.QaJ s (Pl.eg s).1 /\ (Pl.eg s).2 = true ∨ Pl.eg s = ([], false) := by
 unfold Pl.eg;split
 ·rename_i h; exact .inl ⟨Classical.choose_spec h, rfl⟩
 ·exact .inr rfl
theorem QlI {s : List UInt8} {m : List Pl.Ent} (hm : m.length + 1 = (Pl.cutB 59 s).length) (hr : ∀ (i : Nat) e, m[i]? = some e -> ∃ x, (Pl.cutB 59 s)[i]? = some x /\ Pl.Qa0 x = some e) :
 Pl.eg s = if Pl.Qag m = true /\ Pl.Qaj m = s then (m, true) else ([], false) := by
 split
 ·rename_i h; exact eg_is h
 ·rename_i h
  refine Qjn fun p hp => h ?_
  rw [Qfs hp hm hr]; exact hp
theorem eg_bad {s : List UInt8} {k : Nat} {x : List UInt8} (hk : k + 1 < (Pl.cutB 59 s).length) (hx : (Pl.cutB 59 s)[k]? = some x) (h : Pl.Qa0 x = none) : Pl.eg s = ([], false) := by
 refine Qjn fun p hp => ?_
 obtain ⟨h1, h2⟩ := QdV hp;obtain ⟨y, hy, hy2⟩ := h2 k _ (List.getElem?_eq_getElem (show k < p.length by omega));rw [hx] at hy;obtain rfl := Option.some.inj hy;rw [h] at hy2; cases hy2
end Aw
end
section
open Go.RowKit
namespace Aw
attribute [local irreducible] ASeq ADraw AWP Loc
theorem Qk5 (s : List UInt8) (hs : s.length <= Pm.big) : Pure Tryz.prog 187 [dS s] (.tup [tStrs (Pl.rg s).1, dB (Pl.rg s).2]) := by
 simp only [Pm.big] at hs
 (refine Qbk Tryz.func187 rfl Tryz.ntmps187 Tryz.results187 rfl ?_; simp only [parE, Nat.zero_add, Nat.reduceAdd])
 (repeat' (first | refine e1 (k := ?_) | refine stepS2 (Qbz Ty.h rfl Ty.h) (k := ?_) | refine Qbd ?_ | refine Qbf ?_ | refine Qbc ?_ | refine Qbi ?_ | fail))
 refine Qby (fun m st => ∃ (k g : Nat) (out : List (List UInt8)), k <= s.length /\ m = s.length - k /\ Hid (s = Pl.enc out ++ s.drop k) /\ Hid (∀ x ∈ out, x.length <= 2048) /\ out.length <= k /\
  st = ⟨92, [(4, .osl 0 g 0 out.length), (5, .d (dI k)), (0, .d (dS s))], [.arr g 1 9 (out.map fun s => [dS s])]⟩) [4, 5, 0] 1 s.length ⟨0, 0, [], by omega, rfl, Pm.hid rfl, Pm.hid (by simp), by simp, rfl⟩ (round := ?_)
 rintro m st ⟨k, g, out, hk, rfl, hO, hX, hlen, rfl⟩
 by_cases h20 : s.length <= 2048 /\ k < s.length
 rotate_left
 ·have hA : ∀ x ∈ out, x.length <= Pm.big := fun x hx => by have := hX.out x hx; unfold Pm.big; omega
  have c := (Qge out (by unfold Pm.big; omega) hA).arg (l := [tStrs out])
  have hr : Hid (Pl.rg s = if (Pl.Qb7 out).isSome = true /\ (Pl.Qb7 out).getD [] = s then (out, true) else ([], false)) := by
   refine Pm.hid ?_;split
   ·rename_i h
    obtain ⟨t, ht⟩ := Option.isSome_iff_exists.1 h.1;rw [ht] at h;exact rg_is (by rw [<- Pl.QdK, ht]; exact congrArg some h.2)
   ·rename_i h
    refine Qfb fun l hl => h ?_
    have hk2 : k = s.length := by have := hl.2.1; omega
    have ho := hO.out;rw [hk2, List.drop_length, List.append_nil] at ho;have : l = out := Pl.QlH (hl.2.2.trans ho);subst this;rw [Pl.QdK.2 hl]; exact ⟨rfl, rfl⟩
  generalize (Pl.Qb7 out).getD [] = t at *
  generalize (Pl.Qb7 out).isSome = ok at *
  clear hA hX hO
  (repeat' (first | refine e1 (k := ?_) | refine e0 (k := ?_) | refine Qbd ?_ | refine Qbf ?_ | refine Qbc ?_ | refine Qbm (hf := ?_) | refine Qbo (ht := fun q => ?_) (hf := fun q => ?_) | refine Qbj ?_ | refine QcN ?_ | refine Qbi ?_ | refine Qbq ?_ | ((fail_if_success show ASeq _ _ _ _ ⟨_, (_, .d (.v (.bool true))) :: _, _⟩); (fail_if_success show ASeq _ _ _ _ ⟨_, (_, .d (.v (.bool false))) :: _, _⟩); refine splitS (fun q => ?_) (fun q => ?_))))
  ·exfalso; simp at *; omega
  all_goals
   refine QcH 0 (h := ?_)
   (repeat' (first | refine e1 (k := ?_) | refine e0 (k := ?_) | refine stepS (Qbe Tryz.call258 c rfl) (k := ?_) | refine stepS (QbH rfl rfl) (k := ?_) | refine stepS2 (Qbz Ty.h rfl Ty.h) (k := ?_) | refine Qbd ?_ | refine Qbf ?_ | refine Qbc ?_ | refine Qbl (ht := ?_) | refine Qbo (ht := fun q => ?_) (hf := fun q => ?_) | refine Qbj ?_ | ((fail_if_success show ASeq _ _ _ _ ⟨_, (_, .d (.v (.bool true))) :: _, _⟩); (fail_if_success show ASeq _ _ _ _ ⟨_, (_, .d (.v (.bool false))) :: _, _⟩); refine splitS (fun q => ?_) (fun q => ?_))))
   all_goals
    (first | refine Qbn (hx := ?_) | (refine Qbg 1 (h := ?_); refine Qbn (hx := ?_)))
    rw [hr.out]
    simp_all
 obtain ⟨h20, hlt⟩ := h20;obtain ⟨n, m, hq⟩ : ∃ n m, Pl.l1num (s.drop k) = (n, m) := ⟨_, _, rfl⟩;have c := al1Num (s.drop k) (by rw [List.length_drop]; unfold Pm.big; omega);have hle := Pl.QmO (s.drop k);have hn9 := Pl.QmN (s.drop k);rw [hq] at c hle hn9;simp only [List.length_drop] at hle hn9;obtain ⟨b, hb⟩ : ∃ b, b = (s.drop k).getD m 0 := ⟨_, rfl⟩;have hb1 : k + m < s.length -> (s.drop k)[m]? = some b := fun h => by rw [hb, List.getD_eq_getElem?_getD, List.getElem?_eq_getElem (by rw [List.length_drop]; omega)]; rfl
 have hb2 : Hid (k + m < s.length -> s[((k : Int) + (m : Int)).toNat]? = some b) := fun h => by
  have := hb1 h;rw [List.getElem?_drop] at this;exact this
 have hb3 : ((b.toNat : Nat) : Int) = 58 ↔ b = 58 := ⟨fun h => UInt8.toNat_inj.1 (by have : ((58 : UInt8).toNat : Int) = 58 := rfl; omega), fun h => by rw [h]; rfl⟩
 have F : Hid ((m = 0 ∨ s.length <= k + m ∨ ((b.toNat : Nat) : Int) ≠ 58 ∨ s.length - k - m - 1 < n) -> Pl.rg s = ([], false)) := fun h => by
  refine Qfb (Pl.QkT h20 hlt hO.out hq ?_)
  by_cases h1 : m = 0
  ·exact .inl h1
  by_cases h2 : s.length <= k + m
  ·exact .inr (.inl (by rw [List.getElem?_eq_none (by rw [List.length_drop]; omega)]; simp))
  refine .inr ?_;rw [hb1 (by omega), List.length_drop]
  by_cases h3 : b = 58
  ·exact .inr (by have h4 := hb3.2 h3; omega)
  ·exact .inl (by simpa using h3)
 have T : Hid (0 < m -> k + m < s.length -> ((b.toNat : Nat) : Int) = 58 -> n <= s.length - k - m - 1 -> s = Pl.enc (out ++ [(s.drop (k + m + 1)).take n]) ++ s.drop (k + m + 1 + n)) := fun h1 h2 h3 h4 => by
  exact Pl.QkS hO.out hq h1 (by rw [hb1 h2, hb3.1 h3]) (by rw [List.length_drop]; omega)
 clear hO hq hb hb1 hb3
 (repeat' (first | refine e1 (k := ?_) | refine e0 (k := ?_) | refine stepS (Qbe Tryz.call257 c rfl) (k := ?_) | refine stepS (Qfn rfl rfl rfl (by omega) (by omega)) (k := ?_) | refine stepS (QdB Ty.h rfl rfl rfl (by omega) (hb2.out (by simp only [decide_eq_true_eq, decide_eq_false_iff_not, beq_eq_false_iff_ne] at *; omega))) (k := ?_) | refine stepS (Qey rfl rfl rfl rfl (by omega) (by omega) (by simp only [decide_eq_true_eq, decide_eq_false_iff_not, beq_eq_false_iff_ne] at *; omega)) (k := ?_) | refine QbO Ty.h rfl Ty.h (hb := ?_) (kk := ?_) | refine stepS (Qbs rfl rfl (by omega)) (k := ?_) | refine stepS (QbB rfl rfl (by omega)) (k := ?_) | refine stepS2 (Qbz Ty.h rfl Ty.h) (k := ?_) | refine Qbd ?_ | refine Qb0 ?_ | refine Qbf ?_ | refine Qbc ?_ | refine Qbl (ht := ?_) | refine Qbm (hf := ?_) | refine Qbo (ht := fun q => ?_) (hf := fun q => ?_) | refine Qbj ?_ | refine QcN ?_ | refine Qbi ?_ | refine Qbq ?_ | refine Qfi ?_ | ((fail_if_success show ASeq _ _ _ _ ⟨_, (_, .d (.v (.bool true))) :: _, _⟩); (fail_if_success show ASeq _ _ _ _ ⟨_, (_, .d (.v (.bool false))) :: _, _⟩); refine splitS (fun q => ?_) (fun q => ?_))))
 all_goals first
  |(exfalso; simp only [decide_eq_true_eq, decide_eq_false_iff_not, beq_eq_false_iff_ne] at *; omega)
  |(simp; omega)
  |((refine Qbg 1 (h := ?_); refine Qbn (hx := ?_)); rw [F.out (by simp at *; omega)]; rfl)
  |skip
 have e1 : 0 < m /\ k + m < s.length /\ ((b.toNat : Nat) : Int) = 58 /\ n <= s.length - k - m - 1 := by simp only [decide_eq_true_eq, decide_eq_false_iff_not, beq_eq_false_iff_ne, bne_eq_false_iff_eq] at *; omega
 obtain ⟨e1, e2, e3, e4⟩ := e1;refine Qbt (s.length - (k + m + 1 + n)) (by omega) ⟨k + m + 1 + n, g + 1, out ++ [(s.drop (k + m + 1)).take n], by omega, rfl, Pm.hid (T.out e1 e2 e3 e4), Pm.hid ?_, by simp; omega, ?_⟩
 ·intro x hx
  rcases List.mem_append.1 hx with hx | hx
  ·exact hX.out x hx
  ·rw [List.mem_singleton] at hx; subst hx
   rw [List.length_take, List.length_drop]; omega
 ·have t1 : ((k : Int) + (m : Int) + 1).toNat = k + m + 1 := by omega
  have t2 : ((k : Int) + (m : Int) + 1 + (n : Int)).toNat = k + m + 1 + n := by omega
  have t3 : k + m + 1 + n - (k + m + 1) = n := by omega
  simp [keepE, go_sem, t1, t2, t3, List.drop_take]
theorem ptrPut_len (p : Pl.Ptr) : (Pl.ptrPut p).length <= Pm.big := by
 unfold Pl.ptrPut;split
 ·split
  ·decide
  ·unfold Pl.ptrText Pl.dots
   rename_i h _;have hb := Pl.QbT h;have h1 := Pl.Qbv 8 p.pat.toNat (by omega);have h2 := Pl.Qbv 8 p.birth.toNat (by omega);have h3 := Pl.Qbv 8 p.size.toNat (by omega);have h4 := Pl.Qbv 8 p.sum.toNat (by omega);have h5 := Pl.Qbv 8 p.level.toNat (by omega);simp [List.intersperse, Pm.big]; omega
 ·decide
theorem Qn9 (n : Pl.Node) : Pure Tryz.prog 191 [dNode n] (dS (Pl.Qa1 n)) := by
 have c := aNodeOk n;have hd : Hid (Pl.Qa1 n = if Pl.Qak n then Pl.fp (Pl.Qar n) else []) := Pm.hid rfl;cases h : Pl.Qak n
 ·rw [h] at c
  (refine Qbk Tryz.func191 rfl Tryz.ntmps191 Tryz.results191 rfl ?_; simp only [parE, Nat.zero_add, Nat.reduceAdd])
  (refine Qbf (Qbc ?_); (repeat (first | refine e1 (k := ?_) | refine e2 (k := ?_) | fail)); refine Qbd ?_)
  refine Qbg 0 (h := ?_)
  (repeat' (first | refine e1 (k := ?_) | refine stepS (Qbe Tryz.call190 c rfl) (k := ?_) | refine Qbd ?_ | refine Qbf ?_ | refine Qbc ?_ | refine Qbl (ht := ?_) | fail))
  refine Qbn (hx := ?_);rw [hd.out, h]; rfl
 ·rw [h] at c
  have hb := QcI h;have h1 := hb.kind;have h2 := hb.links;have h3 := hb.size;have h4 := hb.depth;have h5 := hb.many;obtain ⟨kind, links, size, ⟨root, depth, many⟩⟩ := n;simp only at h1 h2 h3 h4 h5;obtain ⟨kind, rfl⟩ := Int.eq_ofNat_of_zero_le (show 0 <= kind by omega);obtain ⟨links, rfl⟩ := Int.eq_ofNat_of_zero_le (show 0 <= links by omega);obtain ⟨size, rfl⟩ := Int.eq_ofNat_of_zero_le h3.1;obtain ⟨depth, rfl⟩ := Int.eq_ofNat_of_zero_le h4.1;obtain ⟨many, rfl⟩ := Int.eq_ofNat_of_zero_le h5.1;have e : Hid (Pl.Qa1 ⟨kind, links, size, ⟨root, depth, many⟩⟩ = (Pl.Qb7 [Pl.dec kind, Pl.dec links, Pl.dec size, Pl.ptrPut root, Pl.dec depth, Pl.dec many, [101, 110, 100]]).getD []) := Pm.hid (by rw [hd.out, h]; rfl);have c1 := al6Dec kind (by omega);have c2 := al6Dec links (by omega);have c3 := al6Dec size (by omega);have c4 := al6Dec depth (by omega);have c5 := al6Dec many (by omega);have hl : ∀ k, k <= 4294967296 -> (Pl.dec k).length <= Pm.big := fun k hk => Nat.le_trans (Pl.Qbv 10 k (by omega)) (by decide)
  have cp := (Qge [Pl.dec kind, Pl.dec links, Pl.dec size, Pl.ptrPut root, Pl.dec depth, Pl.dec many, [101, 110, 100]] (by simp [Pm.big]) (by
   intro x hx;simp only [List.mem_cons, List.not_mem_nil, or_false] at hx;rcases hx with rfl | rfl | rfl | rfl | rfl | rfl | rfl
   ·exact hl _ (by omega)
   ·exact hl _ (by omega)
   ·exact hl _ (by omega)
   ·exact ptrPut_len root
   ·exact hl _ (by omega)
   ·exact hl _ (by omega)
   ·decide)).arg (l := [tStrs [Pl.dec kind, Pl.dec links, Pl.dec size, Pl.ptrPut root, Pl.dec depth, Pl.dec many, [101, 110, 100]]])
  have c6 := aPtrPut root;clear hd hb h h1 h2 h3 h4 h5 hl;generalize Pl.Qb7 [Pl.dec kind, Pl.dec links, Pl.dec size, Pl.ptrPut root, Pl.dec depth, Pl.dec many, [101, 110, 100]] = r at *
  generalize Pl.ptrPut root = rt at *
  generalize Pl.dec kind = d1 at *
  generalize Pl.dec links = d2 at *
  generalize Pl.dec size = d3 at *
  generalize Pl.dec depth = d4 at *
  generalize Pl.dec many = d5 at *
  (refine Qbk Tryz.func191 rfl Tryz.ntmps191 Tryz.results191 rfl ?_; simp only [parE, Nat.zero_add, Nat.reduceAdd])
  (refine Qbf (Qbc ?_); (repeat (first | refine e1 (k := ?_) | refine e2 (k := ?_) | fail)); refine Qbd ?_)
  refine Qbg 0 (h := ?_)
  (repeat' (first | refine f1 (k := ?_) | refine e1 (k := ?_) | refine stepS (Qbe Tryz.call190 c rfl) (k := ?_) | refine stepD (Qbe Tryz.call260 c1 rfl) (k := ?_) | refine stepD (Qbe Tryz.call260 c2 rfl) (k := ?_) | refine stepD (Qbe Tryz.call260 c3 rfl) (k := ?_) | refine stepD (Qbe Tryz.call260 c4 rfl) (k := ?_) | refine stepD (Qbe Tryz.call260 c5 rfl) (k := ?_) | refine stepD (Qbe Tryz.call261 c6 rfl) (k := ?_) | refine stepD (Qfo Tryz.call258 cp rfl) (k := ?_) | refine stepD2 (Qbz Ty.h rfl Ty.h) (k := ?_) | refine Qbd ?_ | refine Qbr ?_ | refine Qbf ?_ | refine Qbc ?_ | refine Qb1 follows_mixed (by kernel_rfl) (by kernel_rfl) ?_ | refine Qbm (hf := ?_) | refine Qbj ?_ | fail))
  exact Qbn (hx := by rw [e.out])
theorem QkR {s : List UInt8} {l : List (List UInt8)} (h : Pl.IsRec s l) : ∀ x ∈ l, x.length <= 2048 := by
 intro x hx;obtain ⟨a, b, rfl⟩ := List.append_of_mem hx;have h1 := h.2.1;rw [<- h.2.2, Pl.QcY, Pl.Qdp, List.length_append, List.length_append, Pl.Qfq] at h1;omega
theorem Qj6 (s : List UInt8) (hs : s.length <= Pm.big) : Pure Tryz.prog 117 [dS s] (.tup [dNode (Pl.ng s).1, dB (Pl.ng s).2]) := by
 have c := Qk5 s hs;rcases QiR s with ⟨hr, hok⟩ | h0;rotate_left
 ·have hn : Hid (Pl.ng s = (Pl.zn, false)) := Pm.hid (QeN (.inl (by rw [h0])))
  rw [h0] at c
  (refine Qb2 Tryz.func117 rfl Tryz.ntmps117 Tryz.results117 rfl ?_; simp only [parE, Nat.zero_add, Nat.reduceAdd])
  (repeat' (first | refine e1 (k := ?_) | refine e0 (k := ?_) | refine stepS (Qbe Tryz.call187 c rfl) (k := ?_) | refine Qbu (kk := ?_) | refine Qbd ?_ | refine Qbf ?_ | refine Qbc ?_ | refine Qbl (ht := ?_) | refine e2 (k := ?_) | fail))
  (refine Qbg 0 (h := ?_); refine QbA (hx := ?_))
  rw [hn.out]; rfl
 by_cases h7 : (Pl.rg s).1.length = 7
 rotate_left
 ·have hn : Hid (Pl.ng s = (Pl.zn, false)) := Pm.hid (QeN (.inr h7))
  rw [hok] at c;generalize (Pl.rg s).1 = l at *
  clear hr hok
  (refine Qb2 Tryz.func117 rfl Tryz.ntmps117 Tryz.results117 rfl ?_; simp only [parE, Nat.zero_add, Nat.reduceAdd])
  (repeat' (first | refine e1 (k := ?_) | refine stepS (Qbe Tryz.call187 c rfl) (k := ?_) | refine Qbu (kk := ?_) | refine Qbd ?_ | refine Qbf ?_ | refine Qbc ?_ | refine Qbo (ht := fun q => ?_) (hf := fun q => ?_) | refine Qbj ?_ | refine e2 (k := ?_) | fail))
  all_goals first
   |(exfalso; simp only [bne_eq_false_iff_eq] at *; omega)
   |((refine Qbg 0 (h := ?_); refine QbA (hx := ?_)); rw [hn.out]; rfl)
 rw [hok] at c;generalize (Pl.rg s).1 = l at *
 match l, h7 with
 |[x1, x2, x3, x4, x5, x6, x7], _ =>
 have hl := QkR hr;have hg := Pm.hid (QnF hr);have cn : ∀ x ∈ [x1, x2, x3, x4, x5, x6, x7], Pure Tryz.prog 188 [dS x] (.tup [dI ((Pl.numGet x).getD 0 : Nat), dB (Pl.numGet x).isSome]) := fun x hx => aNumGet x (by have := hl x hx; unfold Pm.big; omega)
 have c1 := cn x1 (by simp);have c2 := cn x2 (by simp);have c3 := cn x3 (by simp);have c5 := cn x5 (by simp);have c6 := cn x6 (by simp);have c4 := aPtrGet x4 (by have := hl x4 (by simp); omega);have ck := aNodeOk (Pl.Qa7 x1 x2 x3 x4 x5 x6);have cp := Qn9 (Pl.Qa7 x1 x2 x3 x4 x5 x6)
 have hp : Hid (Pl.Qak (Pl.Qa7 x1 x2 x3 x4 x5 x6) = false -> ¬ Pl.Qa1 (Pl.Qa7 x1 x2 x3 x4 x5 x6) = s) := fun h e => by
  unfold Pl.Qa1 at e;rw [h] at e;exact QkQ hr e.symm
 obtain ⟨N, hN⟩ : ∃ N, N = Pl.Qa7 x1 x2 x3 x4 x5 x6 := ⟨_, rfl⟩;rw [<- hN] at ck cp hg hp;unfold Pl.Qa7 at hN;clear cn hl hr hok;generalize (Pl.numGet x1).getD 0 = n1 at *
 generalize (Pl.numGet x2).getD 0 = n2 at *
 generalize (Pl.numGet x3).getD 0 = n3 at *
 generalize (Pl.numGet x5).getD 0 = n5 at *
 generalize (Pl.numGet x6).getD 0 = n6 at *
 generalize (Pl.pg x4).1 = pp at *
 obtain ⟨p1, p2, p3, p4, p5⟩ := pp;generalize Pl.Qak N = ok at *
 generalize Pl.Qa1 N = t at *
 subst hN
 (refine Qb2 Tryz.func117 rfl Tryz.ntmps117 Tryz.results117 rfl ?_; simp only [parE, Nat.zero_add, Nat.reduceAdd])
 (repeat' (first | refine e1 (k := ?_) | refine e0 (k := ?_) | refine stepS (Qbe Tryz.call187 c rfl) (k := ?_) | refine stepS (Qbe Tryz.call188 c1 rfl) (k := ?_) | refine stepS (Qbe Tryz.call188 c2 rfl) (k := ?_) | refine stepS (Qbe Tryz.call188 c3 rfl) (k := ?_) | refine stepS (Qbe Tryz.call188 c5 rfl) (k := ?_) | refine stepS (Qbe Tryz.call188 c6 rfl) (k := ?_) | refine stepS (Qbe Tryz.call189 c4 rfl) (k := ?_) | refine stepS (Qbe Tryz.call190 ck rfl) (k := ?_) | refine stepS (Qbe Tryz.call191 cp rfl) (k := ?_) | refine stepS (Qbh Ty.h rfl Ty.h rfl rfl rfl (by omega) rfl) (k := ?_) | refine stepS (QbH rfl rfl) (k := ?_) | refine Qbu (kk := ?_) | refine Qbd ?_ | refine Qbf ?_ | refine Qbc ?_ | refine Qbl (ht := ?_) | refine Qbm (hf := ?_) | refine Qbo (ht := fun q => ?_) (hf := fun q => ?_) | refine Qbj ?_ | refine e2 (k := ?_) | ((fail_if_success show ASeq _ _ _ _ ⟨_, (_, .d (.v (.bool true))) :: _, _⟩); (fail_if_success show ASeq _ _ _ _ ⟨_, (_, .d (.v (.bool false))) :: _, _⟩); refine splitS (fun q => ?_) (fun q => ?_))))
 ·(refine Qbg 0 (h := ?_); refine QbA (hx := ?_))
  rw [hg.out, if_neg (hp.out (by simpa using q))]; rfl
 ·(refine Qbg 0 (h := ?_); refine QbA (hx := ?_))
  rw [hg.out, if_neg (by simpa using q)]; rfl
 ·(refine Qbg 0 (h := ?_); refine QbA (hx := ?_))
  rw [hg.out, if_pos (by simpa using q)]
end Aw
end
section
namespace Gr
inductive FD (kind : Nat -> Nat) (ch : Nat -> Option (List Nat)) : List Nat -> List Nat -> Prop
 |nil : FD kind ch [] []
 |file {k : Nat} {es L : List Nat} : kind k = 1 -> FD kind ch es L -> FD kind ch (k :: es) (k :: L)
 |dir {k : Nat} {cs es L1 L2 : List Nat} : kind k = 2 -> ch k = some cs -> FD kind ch cs L1 -> FD kind ch es L2 -> FD kind ch (k :: es) (k :: (L1 ++ L2))
inductive TD (kind : Nat -> Nat) (ch : Nat -> Option (List Nat)) : List Nat -> List Nat -> Prop
 |nil : TD kind ch [] []
 |cons {f : Nat} {es t L1 L2 : List Nat} : kind f = 2 -> ch f = some es -> FD kind ch es L1 -> TD kind ch t L2 -> TD kind ch (f :: t) (L1 ++ L2)
variable {kind : Nat -> Nat} {ch : Nat -> Option (List Nat)}
theorem FD.kinds {es L : List Nat} (h : FD kind ch es L) : ∀ k ∈ L, kind k = 1 ∨ kind k = 2 /\ (ch k).isSome = true := by
 induction h with
 |nil => intro k hk; cases hk
 |file hk h ih =>
  intro k hm;rcases List.mem_cons.1 hm with rfl | hm
  ·exact .inl hk
  ·exact ih k hm
 |dir hk hc h1 h2 ih1 ih2 =>
  intro k hm;rcases List.mem_cons.1 hm with rfl | hm
  ·exact .inr ⟨hk, by rw [hc]; rfl⟩
  ·rcases List.mem_append.1 hm with hm | hm
   ·exact ih1 k hm
   ·exact ih2 k hm
theorem TD.snoc {t L cs L1 : List Nat} {f : Nat} (h : TD kind ch t L) (hk : kind f = 2) (hc : ch f = some cs) (h1 : FD kind ch cs L1) : TD kind ch (t ++ [f]) (L ++ L1) := by
 induction h with
 |nil => have := TD.cons hk hc h1 .nil; simpa using this
 |cons hk' hc' h1' h2' ih => have := TD.cons hk' hc' h1' ih; simpa [List.append_assoc] using this
theorem TD.unsnoc {f : Nat} : ∀ {t L : List Nat}, TD kind ch (t ++ [f]) L -> ∃ cs L1 L2, L = L2 ++ L1 /\ kind f = 2 /\ ch f = some cs /\ FD kind ch cs L1 /\ TD kind ch t L2
 |[], L, h => by
  cases h with
  |cons hk hc h1 h2 => cases h2; exact ⟨_, _, [], by simp, hk, hc, h1, .nil⟩
 |g :: t, L, h => by
  cases h with
  |cons hk hc h1 h2 =>
   obtain ⟨cs, L1, L2, rfl, hk', hc', h1', h2'⟩ := TD.unsnoc h2;exact ⟨cs, L1, _, (List.append_assoc ..).symm, hk', hc', h1', .cons hk hc h1 h2'⟩
def inner (kind : Nat -> Nat) : List Nat -> List Nat -> List Nat -> Option (List Nat × List Nat)
 |[], t, nm => some (t, nm)
 |e :: es, t, nm => if kind e = 0 then none else if kind e = 2 then (if 0 < nm.count e then none else inner kind es (t ++ [e]) (nm ++ [e])) else inner kind es t (nm ++ [e])
def bfs (kind : Nat -> Nat) (ch : Nat -> Option (List Nat)) : Nat -> List Nat -> List Nat -> Option (List Nat)
 |_, [], nm => some nm
 |0, _ :: _, _ => none
 |n + 1, f :: t, nm => match inner kind ((ch f).getD []) t nm with
  |none => none
  |some (t', nm') => bfs kind ch n t' nm'
def left (kind : Nat -> Nat) (m : Nat) (nm : List Nat) : Nat := ((List.range m).filter fun k => decide (kind k = 2) && decide (nm.count k = 0)).length
theorem Qdo {p q : Nat -> Bool} (h : ∀ k, q k = true -> p k = true) : ∀ l : List Nat, (l.filter q).length <= (l.filter p).length
 |[] => by simp
 |a :: l => by
  have ih := Qdo h l;rw [List.filter_cons, List.filter_cons];cases hq : q a
  ·cases hp : p a <;> simp <;> omega
  ·rw [h a hq]; simp; exact ih
theorem Qek {p q : Nat -> Bool} {e : Nat} (h : ∀ k, q k = true -> p k = true) (hp : p e = true) (hq : q e = false) : ∀ l : List Nat, e ∈ l -> (l.filter q).length < (l.filter p).length
 |[], hm => by cases hm
 |a :: l, hm => by
  rw [List.filter_cons, List.filter_cons];rcases List.mem_cons.1 hm with rfl | hm
  ·rw [hp, hq]
   have := Qdo h l;simp; omega
  ·have ih := Qek h hp hq l hm
   cases hq' : q a
   ·cases hp' : p a <;> simp <;> omega
   ·rw [h a hq']; simp; exact ih
theorem left_le {m e : Nat} {nm : List Nat} : left kind m (nm ++ [e]) <= left kind m nm := by
 unfold left;refine Qdo (fun k hk => ?_) _;simp only [Bool.and_eq_true, decide_eq_true_eq, List.count_append] at *
 omega
theorem left_lt {m e : Nat} {nm : List Nat} (hm : e < m) (hk : kind e = 2) (h0 : nm.count e = 0) : left kind m (nm ++ [e]) < left kind m nm := by
 unfold left;refine Qek (fun k hk => ?_) ?_ ?_ _ (List.mem_range.2 hm)
 ·simp only [Bool.and_eq_true, decide_eq_true_eq, List.count_append] at *
  omega
 ·simp [hk, h0]
 ·simp [List.count_append]
theorem QdC {m : Nat} (hm : ∀ k, kind k = 2 -> k < m) : ∀ {es t nm t' nm' : List Nat}, inner kind es t nm = some (t', nm') -> t'.length + left kind m nm' <= t.length + left kind m nm
 |[], t, nm, t', nm', h => by simp only [inner, Option.some.injEq, Prod.mk.injEq] at h; obtain ⟨rfl, rfl⟩ := h; exact Nat.le_refl _
 |e :: es, t, nm, t', nm', h => by
  unfold inner at h;split at h
  ·cases h
  ·split at h
   ·rename_i hk
    split at h
    ·cases h
    ·rename_i h0
     have := QdC hm h;have := left_lt (hm e hk) hk (show nm.count e = 0 by omega);rw [List.length_append, List.length_singleton] at *
     omega
   ·have := QdC hm h
    have := left_le (kind := kind) (m := m) (e := e) (nm := nm);omega
theorem Qe0 : ∀ {es t nm t' nm' : List Nat}, inner kind es t nm = some (t', nm') -> (∀ k ∈ t, kind k = 2) -> ∀ k ∈ t', kind k = 2
 |[], t, nm, t', nm', h, ht => by simp only [inner, Option.some.injEq, Prod.mk.injEq] at h; obtain ⟨rfl, rfl⟩ := h; exact ht
 |e :: es, t, nm, t', nm', h, ht => by
  unfold inner at h;split at h
  ·cases h
  ·split at h
   ·rename_i hk
    split at h
    ·cases h
    ·refine Qe0 h fun k hm => ?_
     rcases List.mem_append.1 hm with hm | hm
     ·exact ht k hm
     ·rw [List.mem_singleton] at hm; rw [hm]; exact hk
   ·exact Qe0 h ht
theorem Qir {L0 : List Nat} (hone : ∀ k, kind k = 2 -> L0.count k <= 1) {es L1 : List Nat} (h : FD kind ch es L1) : ∀ {t nm L : List Nat}, TD kind ch t L ->
 (∀ k, nm.count k + L1.count k + L.count k <= L0.count k) -> ∃ t' nm' L', inner kind es t nm = some (t', nm') /\ TD kind ch t' L' /\ ∀ k, nm'.count k + L'.count k = nm.count k + L1.count k + L.count k := by
 induction h with
 |nil => intro t nm L ht hc; exact ⟨t, nm, L, rfl, ht, fun k => by simp⟩
 |@file e es L1 hk h ih =>
  intro t nm L ht hc
  obtain ⟨t', nm', L', h1, h2, h3⟩ := ih (nm := nm ++ [e]) ht fun k => by
   have := hc k;simp only [List.count_append, List.count_cons, List.count_nil] at *
   omega
  refine ⟨t', nm', L', ?_, h2, fun k => ?_⟩
  ·unfold inner; rw [if_neg (by omega), if_neg (by omega)]; exact h1
  ·rw [h3 k]; simp only [List.count_append, List.count_cons, List.count_nil]; omega
 |@dir e cs es L1 L2 hk hc h1 h2 ih1 ih2 =>
  intro t nm L ht hcn
  obtain ⟨t', nm', L', g1, g2, g3⟩ := ih2 (nm := nm ++ [e]) (ht.snoc hk hc h1) fun k => by
   have := hcn k;simp only [List.count_append, List.count_cons, List.count_nil] at *
   omega
  refine ⟨t', nm', L', ?_, g2, fun k => ?_⟩
  ·unfold inner
   have h1 := hcn e;have h2 := hone e hk;simp only [List.count_append, List.count_cons, beq_self_eq_true, if_true] at h1;rw [if_neg (by omega), if_pos hk, if_neg (by omega)]; exact g1
  ·rw [g3 k]; simp only [List.count_append, List.count_cons, List.count_nil]; omega
theorem Qma {m : Nat} (hm : ∀ k, kind k = 2 -> k < m) {L0 : List Nat} (hone : ∀ k, kind k = 2 -> L0.count k <= 1) : ∀ {n : Nat} {t nm L : List Nat}, TD kind ch t L -> t.length + left kind m nm <= n ->
 (∀ k, nm.count k + L.count k <= L0.count k) -> ∃ nm', bfs kind ch n t nm = some nm' /\ ∀ k, nm'.count k = nm.count k + L.count k := by
 intro n;induction n with
 |zero =>
  intro t nm L ht hn hc;cases ht with
  |nil => exact ⟨nm, rfl, fun k => by simp⟩
  |cons _ _ _ _ => simp at hn
 |succ n ih =>
  intro t nm L ht hn hc;cases ht with
  |nil => exact ⟨nm, rfl, fun k => by simp⟩
  |@cons f es t L1 L2 hk hcf h1 h2 =>
   obtain ⟨t', nm', L', g1, g2, g3⟩ := Qir hone h1 (nm := nm) h2 fun k => by
    have := hc k;simp only [List.count_append] at *
    omega
   have hl := QdC hm g1
   obtain ⟨nm2, k1, k2⟩ := ih (nm := nm') g2 (by rw [List.length_cons] at hn; omega) fun k => by
    have h1 := hc k;have h2 := g3 k;simp only [List.count_append] at *
    omega
   refine ⟨nm2, ?_, fun k => ?_⟩
   ·unfold bfs; rw [hcf, Option.getD_some, g1]; exact k1
   ·rw [k2 k, g3 k, List.count_append]; omega
theorem QdX : ∀ {es t nm t' nm' L' : List Nat}, inner kind es t nm = some (t', nm') -> TD kind ch t' L' -> (∀ e ∈ es, kind e <= 2) ->
 ∃ L1 L, FD kind ch es L1 /\ TD kind ch t L /\ ∀ k, nm'.count k + L'.count k = nm.count k + L1.count k + L.count k
 |[], t, nm, t', nm', L', h, ht, _ => by
  simp only [inner, Option.some.injEq, Prod.mk.injEq] at h; obtain ⟨rfl, rfl⟩ := h;exact ⟨[], L', .nil, ht, fun k => by simp⟩
 |e :: es, t, nm, t', nm', L', h, ht, h2 => by
  unfold inner at h;split at h
  ·cases h
  rename_i h0;split at h
  ·rename_i hk
   split at h
   ·cases h
   obtain ⟨L1, L, g1, g2, g3⟩ := QdX h ht fun x hx => h2 x (List.mem_cons_of_mem _ hx)
   obtain ⟨cs, M1, M2, rfl, hk', hc', k1, k2⟩ := g2.unsnoc;refine ⟨_, M2, .dir hk hc' k1 g1, k2, fun k => ?_⟩;rw [g3 k]; simp only [List.count_append, List.count_cons, List.count_nil]; omega
  ·rename_i hk
   obtain ⟨L1, L, g1, g2, g3⟩ := QdX h ht fun x hx => h2 x (List.mem_cons_of_mem _ hx)
   have := h2 e List.mem_cons_self;refine ⟨_, L, .file (by omega) g1, g2, fun k => ?_⟩;rw [g3 k]; simp only [List.count_append, List.count_cons, List.count_nil]; omega
theorem QlB (hle : ∀ k, kind k <= 2) (hch : ∀ k, kind k = 2 -> ∃ cs, ch k = some cs) : ∀ {n : Nat} {t nm nm' : List Nat}, bfs kind ch n t nm = some nm' -> (∀ k ∈ t, kind k = 2) ->
 ∃ L, TD kind ch t L /\ ∀ k, nm'.count k = nm.count k + L.count k := by
 intro n;induction n with
 |zero =>
  intro t nm nm' h ht;cases t with
  |nil => simp only [bfs, Option.some.injEq] at h; subst h; exact ⟨[], .nil, fun k => by simp⟩
  |cons f t => cases h
 |succ n ih =>
  intro t nm nm' h ht;cases t with
  |nil => simp only [bfs, Option.some.injEq] at h; subst h; exact ⟨[], .nil, fun k => by simp⟩
  |cons f t =>
   have hf := ht f List.mem_cons_self;obtain ⟨cs, hc⟩ := hch f hf;unfold bfs at h;rw [hc, Option.getD_some] at h;split at h
   ·cases h
   rename_i t1 nm1 hi;obtain ⟨L', g1, g2⟩ := ih h (Qe0 hi fun k hk => ht k (List.mem_cons_of_mem _ hk));obtain ⟨L1, L, k1, k2, k3⟩ := QdX hi g1 fun e _ => hle e
   refine ⟨_, .cons hf hc k1 k2, fun k => ?_⟩;rw [g2 k, k3 k, List.count_append]; omega
theorem QfQ : ∀ (m : Nat) (L : List Nat), (∀ k ∈ L, k < m) -> L.length = ((List.range m).map fun k => L.count k).sum
 |m, [], _ => by
  have : ((List.range m).map fun k => ([] : List Nat).count k) = (List.range m).map fun _ => 0 := List.map_congr_left fun k _ => by simp
  rw [this];induction m with
  |zero => rfl
  |succ m ih => rw [List.range_succ, List.map_append, List.sum_append, <- ih (fun k h => by cases h) (List.map_congr_left fun k _ => by simp)]; rfl
 |m, a :: L, h => by
  have ih := QfQ m L fun k hk => h k (List.mem_cons_of_mem _ hk)
  have ha := h a List.mem_cons_self
  have key : ∀ n, ((List.range n).map fun k => (a :: L).count k).sum = ((List.range n).map fun k => L.count k).sum + if a < n then 1 else 0 := by
   intro n;induction n with
   |zero => rfl
   |succ n ihn =>
    rw [List.range_succ, List.map_append, List.sum_append, List.map_append, List.sum_append, ihn];simp only [List.map_cons, List.map_nil, List.sum_cons, List.sum_nil, List.count_cons]
    by_cases h1 : a = n
    ·subst h1; simp; omega
    ·have : (a == n) = false := by simpa using h1
     rw [this]
     by_cases h2 : a < n
     ·rw [if_pos h2, if_pos (show a < n + 1 by omega)]; simp; omega
     ·rw [if_neg h2, if_neg (show ¬ a < n + 1 by omega)]; simp
  rw [key m, if_pos ha, <- ih]; rfl
theorem sum_le (c : Nat) (f : Nat -> Nat) : ∀ (m : Nat), (∀ k, k < m -> f k <= c) -> ((List.range m).map f).sum <= m * c
 |0, _ => by simp
 |m + 1, h => by
  have := sum_le c f m fun k hk => h k (by omega)
  have := h m (by omega);rw [List.range_succ, List.map_append, List.sum_append, Nat.succ_mul];simp; omega
variable {kind : Nat -> Nat} {ch : Nat -> Option (List Nat)}
theorem FD.ne0 (h0 : ∀ k cs, ch k = some cs -> ∀ e ∈ cs, e ≠ 0) {es L : List Nat} (h : FD kind ch es L) : (∀ e ∈ es, e ≠ 0) -> 0 ∉ L := by
 induction h with
 |nil => intro _ h; cases h
 |file hk h ih =>
  intro he hm;rcases List.mem_cons.1 hm with e | hm
  ·exact he _ List.mem_cons_self e.symm
  ·exact ih (fun e h => he e (List.mem_cons_of_mem _ h)) hm
 |dir hk hc h1 h2 ih1 ih2 =>
  intro he hm;rcases List.mem_cons.1 hm with e | hm
  ·exact he _ List.mem_cons_self e.symm
  ·rcases List.mem_append.1 hm with hm | hm
   ·exact ih1 (h0 _ _ hc) hm
   ·exact ih2 (fun e h => he e (List.mem_cons_of_mem _ h)) hm
structure Nodes (kind : Nat -> Nat) (ch : Nat -> Option (List Nat)) (links : Nat -> Nat) (m : Nat) : Prop where
 root : kind 0 = 2
 le : ∀ k, kind k <= 2
 lt : ∀ k, kind k ≠ 0 -> k < m
 m16 : m <= 16
 lnk : ∀ k, kind k ≠ 0 -> 1 <= links k /\ links k <= 9
 one : ∀ k, kind k = 2 -> links k = 1
 ne0 : ∀ k cs, ch k = some cs -> ∀ e ∈ cs, e ≠ 0
theorem Qmx {links : Nat -> Nat} {m : Nat} (hn : Nodes kind ch links m) :
 (∃ L, FD kind ch [0] L /\ L.length <= 144 /\ ∀ k, kind k ≠ 0 -> L.count k = links k) ↔
 ((∀ k, kind k = 2 -> ∃ cs, ch k = some cs) /\ ∃ nm, bfs kind ch (1 + left kind m []) [0] [] = some nm /\ ∀ k, k ≠ 0 -> kind k ≠ 0 -> nm.count k = links k) := by
 constructor
 ·rintro ⟨L, h, hl, hc⟩
  cases h with
  |file hk _ => rw [hn.root] at hk; cases hk
  |@dir k cs es L1 L2 hk hcs h1 h2 =>
   cases h2;rw [List.append_nil] at hc;have hcc : ∀ k, k ≠ 0 -> (0 :: L1).count k = L1.count k := fun k hk => by rw [List.count_cons]; simp; exact fun e => hk e.symm
   refine ⟨fun k hk => ?_, ?_⟩
   ·have hkm : k ∈ 0 :: L1 := List.count_pos_iff.1 (by rw [hc k (by omega), hn.one k hk]; decide)
    rcases List.mem_cons.1 hkm with rfl | hkm
    ·exact ⟨cs, hcs⟩
    ·rcases h1.kinds k hkm with h | ⟨_, h⟩
     ·omega
     ·exact Option.isSome_iff_exists.1 h
   ·have hone : ∀ k, kind k = 2 -> L1.count k <= 1 := fun k hk => by
     have h1 := hc k (by omega);rw [hn.one k hk, List.count_cons] at h1;omega
    obtain ⟨nm, g1, g2⟩ := Qma (ch := ch) (m := m) (fun k hk => hn.lt k (by omega)) hone (n := 1 + left kind m []) (nm := []) (.cons hk hcs h1 .nil) (by simp) fun k => by simp
    refine ⟨nm, g1, fun k hk0 hk => ?_⟩;rw [g2 k];have := hc k hk;rw [hcc k hk0] at this;simpa using this
 ·rintro ⟨hch, nm, hb, hc⟩
  obtain ⟨L, ht, hL⟩ := QlB hn.le hch hb (by simp [hn.root]);cases ht with
  |@cons f es t L1 L2 hk hcs h1 h2 =>
   cases h2;have hz := h1.ne0 hn.ne0 (hn.ne0 _ _ hcs)
   have hcount : ∀ k, kind k ≠ 0 -> (0 :: (L1 ++ [])).count k = links k := fun k hk' => by
    by_cases h0 : k = 0
    ·subst h0
     rw [List.count_cons, List.append_nil, List.count_eq_zero_of_not_mem hz, hn.one 0 hn.root]; rfl
    ·rw [List.count_cons]
     have := hL k;rw [hc k h0 hk'] at this;have h2 : (0 == k) = false := by simpa using fun e => h0 e.symm
     rw [h2]; simpa using this.symm
   have hfd : FD kind ch [0] (0 :: (L1 ++ [])) := .dir hk hcs h1 .nil;refine ⟨_, hfd, ?_, hcount⟩;have hlt : ∀ k ∈ 0 :: (L1 ++ []), k < m := fun k hk => hn.lt k (by rcases hfd.kinds k hk with h | ⟨h, _⟩ <;> omega)
   rw [QfQ m _ hlt];refine Nat.le_trans (sum_le 9 _ m fun k hk => ?_) (by have := hn.m16; omega)
   by_cases hk0 : kind k = 0
   ·rw [List.count_eq_zero_of_not_mem]
    ·omega
    ·intro hm; rcases hfd.kinds k hm with h | ⟨h, _⟩ <;> omega
   ·rw [hcount k hk0]; exact (hn.lnk k hk0).2
abbrev It := List (List UInt8) × Nat
abbrev En := List (List UInt8 × Nat)
def kids (p : List (List UInt8)) (es : En) : List It := es.map fun e => (p ++ [e.1], e.2)
inductive FP (kind : Nat -> Nat) (en : Nat -> Option En) : List It -> List It -> Prop
 |nil : FP kind en [] []
 |file {p : List (List UInt8)} {k : Nat} {r L : List It} : kind k = 1 -> FP kind en r L -> FP kind en ((p, k) :: r) ((p, k) :: L)
 |dir {p : List (List UInt8)} {k : Nat} {es : En} {r L1 L2 : List It} : kind k = 2 -> en k = some es -> FP kind en (kids p es) L1 -> FP kind en r L2 -> FP kind en ((p, k) :: r) ((p, k) :: (L1 ++ L2))
variable {en : Nat -> Option En}
def chOf (en : Nat -> Option En) (k : Nat) : Option (List Nat) := (en k).map (·.map (·.2))
theorem Qjd (p : List (List UInt8)) (es : En) : (kids p es).map (·.2) = es.map (·.2) := by simp [kids]
theorem FP.fd {r L : List It} (h : FP kind en r L) : FD kind (chOf en) (r.map (·.2)) (L.map (·.2)) := by
 induction h with
 |nil => exact .nil
 |file hk h ih => exact .file hk ih
 |dir hk he h1 h2 ih1 ih2 =>
  rw [Qjd] at ih1;have := FD.dir hk (by unfold chOf; rw [he]; rfl) ih1 ih2;simpa using this
theorem QmY {ks M : List Nat} (h : FD kind (chOf en) ks M) : ∀ {r : List It}, r.map (·.2) = ks -> ∃ L, FP kind en r L /\ L.map (·.2) = M := by
 induction h with
 |nil => intro r hr; rw [List.map_eq_nil_iff] at hr; subst hr; exact ⟨[], .nil, rfl⟩
 |file hk h ih =>
  intro r hr
  match r, hr with
  |(p, k) :: r, hr =>
   simp only [List.map_cons, List.cons.injEq] at hr;obtain ⟨rfl, hr2⟩ := hr;obtain ⟨L, h1, h2⟩ := ih hr2;exact ⟨_, .file hk h1, by simp [h2]⟩
 |dir hk hc h1 h2 ih1 ih2 =>
  intro r hr
  match r, hr with
  |(p, k) :: r, hr =>
   simp only [List.map_cons, List.cons.injEq] at hr;obtain ⟨rfl, hr2⟩ := hr;unfold chOf at hc;obtain ⟨es, he, rfl⟩ := Option.map_eq_some_iff.1 hc;obtain ⟨La, g1, g2⟩ := ih1 (Qjd p es);obtain ⟨Lb, g3, g4⟩ := ih2 hr2;exact ⟨_, .dir hk he g1 g3, by simp [g2, g4]⟩
theorem FP.pre {r L : List It} (h : FP kind en r L) : ∀ x ∈ L, ∃ y ∈ r, y.1 <+: x.1 := by
 induction h with
 |nil => intro x hx; cases hx
 |file hk h ih =>
  intro x hx;rcases List.mem_cons.1 hx with rfl | hx
  ·exact ⟨_, List.mem_cons_self, List.prefix_refl _⟩
  ·obtain ⟨y, hy, h⟩ := ih x hx; exact ⟨y, List.mem_cons_of_mem _ hy, h⟩
 |dir hk he h1 h2 ih1 ih2 =>
  intro x hx;rcases List.mem_cons.1 hx with rfl | hx
  ·exact ⟨_, List.mem_cons_self, List.prefix_refl _⟩
  ·rcases List.mem_append.1 hx with hx | hx
   ·obtain ⟨y, hy, h⟩ := ih1 x hx
    unfold kids at hy;obtain ⟨e, _, rfl⟩ := List.mem_map.1 hy;exact ⟨_, List.mem_cons_self, List.IsPrefix.trans (List.prefix_append _ _) h⟩
   ·obtain ⟨y, hy, h⟩ := ih2 x hx; exact ⟨y, List.mem_cons_of_mem _ hy, h⟩
theorem FP.split : ∀ {a b L : List It}, FP kind en (a ++ b) L -> ∃ La Lb, L = La ++ Lb /\ FP kind en a La /\ FP kind en b Lb
 |[], b, L, h => ⟨[], L, rfl, .nil, h⟩
 |(p, k) :: a, b, L, h => by
  cases h with
  |file hk h =>
   obtain ⟨La, Lb, rfl, h1, h2⟩ := h.split;exact ⟨_, Lb, (List.cons_append ..).symm, .file hk h1, h2⟩
  |dir hk he h1 h2 =>
   obtain ⟨La, Lb, rfl, h3, h4⟩ := h2.split;exact ⟨_, Lb, by simp, .dir hk he h1 h3, h4⟩
end Gr
end
end Go.Proofs.YtdjkdcokjoiokaaGreatDoor

/- Part 26 of the proof of use_card: contracts, walks, plain laws; no condition is assumed beyond those that a statement names. -/
import Derived.Test.YtdjkdcokjoiokaaGreatDoorU22
set_option linter.all false
set_option maxRecDepth 100000
set_option maxHeartbeats 4000000
namespace Go.Proofs.YtdjkdcokjoiokaaGreatDoor
namespace Aw
noncomputable def Pl.Qa5 (s : Pm.Store) (t : Pl.Tree) : Bool := Pl.Qae s t && (Pl.Qaa s t).all fun x => (x == []) || ((Pl.ng x).2 && Pl.Qae s (Pl.ng x).1.tree)
noncomputable def Pl.Qab (s : Pm.Store) (t : Pl.Tree) : List Pl.Node := (Pl.Qaa s t).map fun x => (Pl.ng x).1
def Pl.Qaz (l : List (List UInt8)) (k : Nat) : Bool := !(l.getD k [] == []) && (decide (k + 1 = l.length) || decide ((l.getD k []).length = 128))
def Pl.blob (l : List (List UInt8)) : List UInt8 × Bool := if (List.range l.length).all (Pl.Qaz l) then (l.flatten, true) else ([], false)
noncomputable def Pl.ents (s : Pm.Store) (n : Pl.Node) : List Pl.Ent × Bool :=
 if Pl.Qap n && (n.kind == 2) && Pl.Qae s n.tree && (Pl.blob (Pl.Qaa s n.tree)).2 && decide (((Pl.blob (Pl.Qaa s n.tree)).1.length : Int) = n.size) then Pl.eg (Pl.blob (Pl.Qaa s n.tree)).1 else ([], false)
def Pl.long (size : Int) (k : Nat) : Int := if size - k * 12 < 12 then size - k * 12 else 12
def Pl.Qa6 (size : Int) (l : List (List UInt8)) (k : Nat) : Bool := decide (((l.getD k []).length : Int) <= Pl.long size k) && (Pl.cut0 (l.getD k []) == l.getD k [])
noncomputable def Pl.Qay (s : Pm.Store) (n : Pl.Node) : Bool :=
 Pl.Qap n && (n.kind == 1) && Pl.Qae s n.tree && (List.range n.tree.many.toNat).all (Pl.Qa6 n.size (Pl.Qaa s n.tree))
abbrev Pl.Fnd := List (List UInt8) × Int
def Pl.Qat (p : List (List UInt8)) : List UInt8 := if p = [] then [47] else p.flatMap (47 :: ·)
abbrev rFnd (x : Pl.Fnd) : List D := [dS (Pl.Qat x.1), dI x.2]
noncomputable def Pl.wk (ns : List Pl.Node) (E : Pl.Node -> List Pl.Ent × Bool) : Nat -> Pl.Fnd -> List Pl.Fnd -> List Pl.Fnd × Bool
 |0, _, out => (out, false)
 |n + 1, at', out =>
  if 144 < out.length + 1 ∨ Pl.inR at'.2 0 (ns.length - 1) = false ∨ (ns.getD at'.2.toNat Pl.zn).kind = 0 then (out ++ [at'], false) else
  if (ns.getD at'.2.toNat Pl.zn).kind = 1 then (out ++ [at'], true) else
  (E (ns.getD at'.2.toNat Pl.zn)).1.foldl (fun r e => if r.2 then Pl.wk ns E n (at'.1 ++ [e.1], e.2) r.1 else r) (out ++ [at'], (E (ns.getD at'.2.toNat Pl.zn)).2)
noncomputable def Pl.wks (ns : List Pl.Node) (E : Pl.Node -> List Pl.Ent × Bool) (n : Nat) (p : List (List UInt8)) (l : List Pl.Ent) (r : List Pl.Fnd × Bool) : List Pl.Fnd × Bool :=
 l.foldl (fun r e => if r.2 then Pl.wk ns E n (p ++ [e.1], e.2) r.1 else r) r
theorem Qfa (ns : List Pl.Node) (E : Pl.Node -> List Pl.Ent × Bool) (n : Nat) (p : List (List UInt8)) : ∀ (l : List Pl.Ent) (out : List Pl.Fnd), Pl.wks ns E n p l (out, false) = (out, false)
 |[], _ => rfl
 |e :: l, out => by unfold Pl.wks; rw [List.foldl_cons]; exact Qfa ns E n p l out
theorem Qdo (ns : List Pl.Node) (E : Pl.Node -> List Pl.Ent × Bool) (n : Nat) (p : List (List UInt8)) (e : Pl.Ent) (l : List Pl.Ent) (out : List Pl.Fnd) : Pl.wks ns E n p (e :: l) (out, true) = Pl.wks ns E n p l (Pl.wk ns E n (p ++ [e.1], e.2) out) := by
 unfold Pl.wks; rw [List.foldl_cons]; rfl
theorem Qly (ns : List Pl.Node) (E : Pl.Node -> List Pl.Ent × Bool) : ∀ (n : Nat) (x : Pl.Fnd) (out : List Pl.Fnd), out.length <= (Pl.wk ns E n x out).1.length /\ (0 < n -> out.length < (Pl.wk ns E n x out).1.length)
 |0, x, out => ⟨Nat.le_refl _, fun h => absurd h (by decide)⟩
 |n + 1, x, out => by
  have hf : ∀ (l : List Pl.Ent) (r : List Pl.Fnd × Bool), r.1.length <= (Pl.wks ns E n x.1 l r).1.length := by
   intro l;induction l with
   |nil => intro r; exact Nat.le_refl _
   |cons e l ih =>
    rintro ⟨o, b⟩;cases b
    ·rw [Qfa]; exact Nat.le_refl _
    ·rw [Qdo]; exact Nat.le_trans (Qly ns E n _ o).1 (ih _)
  have h : out.length < (Pl.wk ns E (n + 1) x out).1.length := by
   unfold Pl.wk;split
   ·simp
   ·split
    ·simp
    ·exact Nat.lt_of_lt_of_le (by simp) (hf _ _)
  exact ⟨by omega, fun _ => h⟩
def Pl.Qad (ns : List Pl.Node) (k : Nat) : Nat := (ns.getD k Pl.zn).kind.toNat
noncomputable def Pl.enF (ns : List Pl.Node) (E : Pl.Node -> List Pl.Ent × Bool) (k : Nat) : Option Gr.En := if (E (ns.getD k Pl.zn)).2 then some ((E (ns.getD k Pl.zn)).1.map fun e => (e.1, e.2.toNat)) else none
structure Pl.NsOk (ns : List Pl.Node) (E : Pl.Node -> List Pl.Ent × Bool) : Prop where
 kind : ∀ n ∈ ns, n.kind = 0 ∨ n.kind = 1 ∨ n.kind = 2
 ids : ∀ n, ∀ e ∈ (E n).1, 0 <= e.2
theorem Qcz {ns : List Pl.Node} {E : Pl.Node -> List Pl.Ent × Bool} (h : Pl.NsOk ns E) (k : Nat) : (ns.getD k Pl.zn).kind = 0 ∨ (ns.getD k Pl.zn).kind = 1 ∨ (ns.getD k Pl.zn).kind = 2 := by
 rw [List.getD_eq_getElem?_getD];cases hk : ns[k]? with
 |none => exact .inl rfl
 |some n => exact h.kind n (List.mem_of_getElem? hk)
theorem Qce {ns : List Pl.Node} {k : Nat} (h : Pl.Qad ns k ≠ 0) : k < ns.length := by
 rcases Nat.lt_or_ge k ns.length with h1 | h1
 ·exact h1
 ·exfalso; apply h
  unfold Pl.Qad;rw [List.getD_eq_getElem?_getD, List.getElem?_eq_none h1]; rfl
def Pl.itOf (x : Gr.It) : Pl.Fnd := (x.1, (x.2 : Int))
theorem Qnl {ns : List Pl.Node} {E : Pl.Node -> List Pl.Ent × Bool} (hN : Pl.NsOk ns E) {r L : List Gr.It} (h : Gr.FP (Pl.Qad ns) (Pl.enF ns E) r L) :
 ∀ (n : Nat) (p : List (List UInt8)) (l : List Pl.Ent) (out : List Pl.Fnd), (∀ e ∈ l, 0 <= e.2) -> r = l.map (fun e => (p ++ [e.1], e.2.toNat)) -> out.length + L.length <= 144 -> 145 <= out.length + n -> Pl.wks ns E n p l (out, true) = (out ++ L.map Pl.itOf, true) := by
 induction h with
 |nil =>
  intro n p l out h0 hr _ _;cases l with
  |nil => simp [Pl.wks]
  |cons e l => cases hr
 |@file p' k r L hk h ih =>
  intro n p l out h0 hr hl hn;cases l with
  |nil => cases hr
  |cons e l =>
   simp only [List.map_cons, List.cons.injEq, Prod.mk.injEq] at hr;obtain ⟨⟨rfl, rfl⟩, rfl⟩ := hr;have he := h0 e List.mem_cons_self;rw [List.length_cons] at hl;obtain ⟨n, rfl⟩ : ∃ m, n = m + 1 := ⟨n - 1, by omega⟩;have hlt := Qce (k := e.2.toNat) (ns := ns) (by omega);have hkind : (ns.getD e.2.toNat Pl.zn).kind = 1 := by unfold Pl.Qad at hk; omega
   have hw : Pl.wk ns E (n + 1) (p ++ [e.1], e.2) out = (out ++ [(p ++ [e.1], e.2)], true) := by
    unfold Pl.wk;rw [if_neg, if_pos hkind];simp only [Pl.inR, hkind];simp; omega
   rw [Qdo, hw, ih (n + 1) p l _ (fun e h => h0 e (List.mem_cons_of_mem _ h)) rfl (by simp; omega) (by simp; omega)];simp [Pl.itOf]; omega
 |@dir p' k es r L1 L2 hk hes h1 h2 ih1 ih2 =>
  intro n p l out h0 hr hl hn;cases l with
  |nil => cases hr
  |cons e l =>
   simp only [List.map_cons, List.cons.injEq, Prod.mk.injEq] at hr;obtain ⟨⟨rfl, rfl⟩, rfl⟩ := hr;have he := h0 e List.mem_cons_self;rw [List.length_cons, List.length_append] at hl;obtain ⟨n, rfl⟩ : ∃ m, n = m + 1 := ⟨n - 1, by omega⟩;have hlt := Qce (k := e.2.toNat) (ns := ns) (by omega);have hkind : (ns.getD e.2.toNat Pl.zn).kind = 2 := by unfold Pl.Qad at hk; omega
   unfold Pl.enF at hes;split at hes;rotate_left
   ·cases hes
   rename_i hE;obtain rfl := Option.some.inj hes
   have hw : Pl.wk ns E (n + 1) (p ++ [e.1], e.2) out = Pl.wks ns E n (p ++ [e.1]) (E (ns.getD e.2.toNat Pl.zn)).1 (out ++ [(p ++ [e.1], e.2)], true) := by
    rw [<- hE]
    conv => lhs; unfold Pl.wk
    rw [if_neg, if_neg]
    ·rfl
    ·rw [hkind]; decide
    ·simp only [Pl.inR, hkind]
     simp; omega
   rw [Qdo, hw, ih1 n (p ++ [e.1]) _ _ (hN.ids _) (by simp [Gr.kids]) (by simp; omega) (by simp; omega), ih2 (n + 1) p l _ (fun e h => h0 e (List.mem_cons_of_mem _ h)) rfl (by simp; omega) (by simp; omega)];simp [Pl.itOf]; omega
theorem QnO {ns : List Pl.Node} {E : Pl.Node -> List Pl.Ent × Bool} (hN : Pl.NsOk ns E) : ∀ (n : Nat) (l : List Pl.Ent) (p : List (List UInt8)) (out : List Pl.Fnd), (∀ e ∈ l, 0 <= e.2) -> (Pl.wks ns E n p l (out, true)).2 = true ->
 ∃ L, Gr.FP (Pl.Qad ns) (Pl.enF ns E) (l.map fun e => (p ++ [e.1], e.2.toNat)) L /\ Pl.wks ns E n p l (out, true) = (out ++ L.map Pl.itOf, true) /\ (out.length <= 144 -> out.length + L.length <= 144) := by
 intro n;induction n with
 |zero =>
  intro l p out h0 h;cases l with
  |nil => exact ⟨[], .nil, by simp [Pl.wks], by simp⟩
  |cons e l => rw [Qdo] at h; unfold Pl.wk at h; rw [Qfa] at h; cases h
 |succ n ihn =>
  intro l;induction l with
  |nil => intro p out h0 h; exact ⟨[], .nil, by simp [Pl.wks], by simp⟩
  |cons e l ihl =>
   intro p out h0 h;have he := h0 e List.mem_cons_self;rw [Qdo] at h ⊢
   have hw : ∃ M, Gr.FP (Pl.Qad ns) (Pl.enF ns E) [(p ++ [e.1], e.2.toNat)] M /\ Pl.wk ns E (n + 1) (p ++ [e.1], e.2) out = (out ++ M.map Pl.itOf, true) /\ out.length + M.length <= 144 := by
    have hb : (Pl.wk ns E (n + 1) (p ++ [e.1], e.2) out).2 = true := by
     cases hx : Pl.wk ns E (n + 1) (p ++ [e.1], e.2) out with
     |mk o b =>
      cases b
      ·rw [hx, Qfa] at h; cases h
      ·rfl
    unfold Pl.wk at hb ⊢;split at hb
    ·cases hb
    rename_i hc;rw [if_neg hc];simp only [not_or] at hc;obtain ⟨c1, c2, c3⟩ := hc;split at hb
    ·rename_i hk
     rw [if_pos hk];refine ⟨[(p ++ [e.1], e.2.toNat)], .file (by unfold Pl.Qad; rw [hk]; rfl) .nil, ?_, by simp; omega⟩;simp [Pl.itOf]; omega
    ·rename_i hk
     rw [if_neg hk]
     have hk2 : (ns.getD e.2.toNat Pl.zn).kind = 2 := by
      have c3' : ¬ (ns.getD e.2.toNat Pl.zn).kind = 0 := c3;have hk' : ¬ (ns.getD e.2.toNat Pl.zn).kind = 1 := hk;rcases Qcz hN e.2.toNat with h | h | h <;> omega
     generalize hEe : E (ns.getD e.2.toNat Pl.zn) = Ee at hb ⊢;obtain ⟨es, ok⟩ := Ee;cases ok
     ·change (Pl.wks ns E n (p ++ [e.1]) es (out ++ [(p ++ [e.1], e.2)], false)).2 = true at hb
      rw [Qfa] at hb; cases hb
     ·obtain ⟨L1, g1, g2, g3⟩ := ihn es (p ++ [e.1]) (out ++ [(p ++ [e.1], e.2)]) (fun x hx => hN.ids (ns.getD e.2.toNat Pl.zn) x (by rw [hEe]; exact hx)) hb
      have g3 := g3 (by simp; omega);refine ⟨(p ++ [e.1], e.2.toNat) :: (L1 ++ []), .dir (es := es.map fun e => (e.1, e.2.toNat)) (by unfold Pl.Qad; rw [hk2]; rfl) ?_ ?_ .nil, ?_, ?_⟩
      ·unfold Pl.enF; rw [hEe]; rfl
      ·unfold Gr.kids; rw [List.map_map]; exact g1
      ·refine Eq.trans g2 ?_
       simp [Pl.itOf]; omega
      ·simp at g3 ⊢; omega
   obtain ⟨M, m1, m2, m3⟩ := hw;rw [m2] at h ⊢;obtain ⟨L, g1, g2, g3⟩ := ihl p _ (fun e h => h0 e (List.mem_cons_of_mem _ h)) h;have g3 := g3 (by simp; omega);refine ⟨M ++ L, ?_, by rw [g2]; simp, fun _ => by simp at g3 ⊢; omega⟩;cases m1 with
   |file hk hz => cases hz; exact .file hk g1
   |dir hk he h1 hz => cases hz; rw [List.append_nil]; exact .dir hk he h1 g1
def Pl.Qah (s : List UInt8) : Option (List (List UInt8)) :=
 if s = [47] then some [] else if s.head? = some 47 /\ (Pl.cutB 47 s).tail.all Pl.Qaj = true /\ (Pl.cutB 47 s).tail.length <= 4 then some (Pl.cutB 47 s).tail else none
theorem QcD (b : UInt8) (r : List UInt8) : Pl.cutB b (b :: r) = [] :: Pl.cutB b r := Pl.Qcj b [] r (by simp)
theorem QjV (b : UInt8) (r : List UInt8) : ∀ a : List UInt8, Pl.cutB b (a ++ b :: r) = Pl.cutB b a ++ Pl.cutB b r
 |[] => by rw [List.nil_append, QcD]; rfl
 |c :: a => by
  have ih := QjV b r a
  by_cases h : c = b
  ·subst h; rw [List.cons_append, QcD, QcD, ih]; rfl
  ·have hc : ∀ s, Pl.cutB b (c :: s) = match Pl.cutB b s with | x :: l => (c :: x) :: l | [] => [[c]] := fun s => by
    conv => lhs; unfold Pl.cutB
    rw [if_neg (by simpa using h)];cases Pl.cutB b s <;> rfl
   rw [List.cons_append, hc, hc, ih];cases hx : Pl.cutB b a with
   |nil => exact absurd hx (Pl.QdL b a)
   |cons x l => rfl
theorem QhH : ∀ (p : List (List UInt8)), (∀ n ∈ p, (47 : UInt8) ∉ n) -> Pl.cutB 47 (p.flatMap (47 :: ·)) = [] :: p
 |[], _ => rfl
 |n :: q, h => by
  have ih := QhH q fun x hx => h x (List.mem_cons_of_mem _ hx)
  rw [List.flatMap_cons, List.cons_append, QcD]
  congr 1
  cases q with
  |nil => rw [List.flatMap_nil, List.append_nil]; exact Pl.Qc9 47 n (h n List.mem_cons_self)
  |cons m q =>
   rw [List.flatMap_cons, List.cons_append] at ih ⊢;rw [QcD] at ih;rw [Pl.Qcj 47 n _ (h n List.mem_cons_self), List.tail_eq_of_cons_eq ih]
def Pl.Qbf (p : List (List UInt8)) : Prop := ∀ n ∈ p, (47 : UInt8) ∉ n /\ n ≠ []
theorem QfB {p : List (List UInt8)} (h : ∀ n ∈ p, Pl.Qaj n = true) : Pl.Qbf p := fun n hn => ⟨Qea (h n hn) (by decide), by
 rintro rfl; have := h [] hn; simp [Pl.Qaj] at this⟩
theorem QcZ {p : List (List UInt8)} (h : Pl.Qbf p) (hp : p ≠ []) : Pl.cutB 47 (Pl.Qat p) = [] :: p := by
 unfold Pl.Qat;rw [if_neg hp];exact QhH p fun n hn => (h n hn).1
theorem QcY {p : List (List UInt8)} (h : Pl.Qbf p) : Pl.Qat p = [47] ↔ p = [] := by
 constructor
 ·intro hs
  cases p with
  |nil => rfl
  |cons n q =>
   have h1 := QcZ h (by simp);rw [hs] at h1;have h2 : Pl.cutB 47 [47] = [[], []] := by decide
   rw [h2] at h1;simp only [List.cons.injEq, true_and] at h1;exact absurd h1.1.symm (h n List.mem_cons_self).2
 ·rintro rfl; rfl
theorem QlF {p q : List (List UInt8)} (hp : Pl.Qbf p) (hq : Pl.Qbf q) (h : Pl.Qat p = Pl.Qat q) : p = q := by
 by_cases h1 : p = []
 ·subst h1
  exact ((QcY hq).1 h.symm).symm
 ·by_cases h2 : q = []
  ·subst h2; exact (QcY hp).1 h
  ·have := QcZ hp h1
   rw [h, QcZ hq h2] at this;simpa using this.symm
theorem Qkw (p : List (List UInt8)) (n : List UInt8) : Pl.Qat (p ++ [n]) = if p = [] then 47 :: n else Pl.Qat p ++ 47 :: n := by
 unfold Pl.Qat;rw [if_neg (by simp), List.flatMap_append];split
 ·rename_i h; subst h; simp
 ·simp
theorem QdA {s : List UInt8} {p : List (List UInt8)} : Pl.Qah s = some p ↔ (p.all Pl.Qaj = true /\ p.length <= 4 /\ Pl.Qat p = s) := by
 unfold Pl.Qah;constructor
 ·intro h
  split at h
  ·rename_i hs; obtain rfl := Option.some.inj h; exact ⟨rfl, by simp, hs.symm⟩
  ·split at h
   ·rename_i hs
    obtain rfl := Option.some.inj h;refine ⟨hs.2.1, hs.2.2, ?_⟩;cases s with
    |nil => cases hs.1
    |cons c r =>
     obtain rfl : c = 47 := by simpa using hs.1
     rw [QcD, List.tail_cons];unfold Pl.Qat;rw [if_neg (Pl.QdL 47 r)];have hj := Pl.QeH 47 r
     have hg : ∀ l : List (List UInt8), l ≠ [] -> l.flatMap (47 :: ·) = 47 :: (l.intersperse [47]).flatten := by
      intro l;induction l with
      |nil => intro h; exact absurd rfl h
      |cons a l ih =>
       intro _;cases l with
       |nil => simp
       |cons b l =>
        rw [List.flatMap_cons, ih (by simp)];simp [List.intersperse]
     rw [hg _ (Pl.QdL 47 r), hj]
   ·cases h
 ·rintro ⟨h1, h2, rfl⟩
  have hP := QfB fun n hn => List.all_eq_true.1 h1 n hn
  by_cases hp : p = []
  ·subst hp; rfl
  ·have hh : (Pl.Qat p).head? = some 47 := by
    unfold Pl.Qat;rw [if_neg hp];cases p with
    |nil => exact absurd rfl hp
    |cons n q => rfl
   rw [if_neg (fun e => hp ((QcY hP).1 e)), QcZ hP hp, List.tail_cons, if_pos ⟨hh, h1, h2⟩]
theorem pre_iff {q p : List (List UInt8)} (hq : Pl.Qbf q) (hp : Pl.Qbf p) : (q = [] ∨ Pl.Qat p = Pl.Qat q ∨ Pl.Qat q ++ [47] <+: Pl.Qat p) ↔ q <+: p := by
 constructor
 ·rintro (rfl | h | ⟨r, h⟩)
  ·exact List.nil_prefix
  ·rw [QlF hp hq h]; exact List.prefix_refl _
  ·by_cases h0 : q = []
   ·rw [h0]; exact List.nil_prefix
   ·have h1 : p ≠ [] := by
     rintro rfl;have := congrArg List.length h;rw [show Pl.Qat [] = [47] from rfl] at this;simp at this;have h2 : Pl.Qat q = [] := List.eq_nil_of_length_eq_zero (by omega);unfold Pl.Qat at h2;rw [if_neg h0] at h2;cases q with
     |nil => exact h0 rfl
     |cons n q => cases h2
    have h2 := QcZ hp h1;rw [<- h, List.append_assoc, List.singleton_append, QjV, QcZ hq h0] at h2;simp only [List.cons_append, List.cons.injEq, true_and] at h2;exact ⟨_, h2⟩
 ·rintro ⟨r, rfl⟩
  by_cases h0 : q = []
  ·exact .inl h0
  ·by_cases h1 : r = []
   ·subst h1; rw [List.append_nil]; exact .inr (.inl rfl)
   ·refine .inr (.inr ?_)
    unfold Pl.Qat;rw [if_neg h0, if_neg (by simp [h0]), List.flatMap_append];cases r with
    |nil => exact absurd rfl h1
    |cons n r => exact ⟨n ++ r.flatMap (47 :: ·), by simp⟩
def Pl.QaC (f : Nat -> Int) : Nat -> Int
 |0 => 0
 |n + 1 => Pl.QaC f n + f n
theorem Qeo {f g : Nat -> Int} : ∀ {n : Nat}, (∀ k, k < n -> f k = g k) -> Pl.QaC f n = Pl.QaC g n
 |0, _ => rfl
 |n + 1, h => by unfold Pl.QaC; rw [Qeo fun k hk => h k (by omega), h n (by omega)]
theorem QhA {f : Nat -> Int} {l : List Nat} {k : Nat} (hl : k ∉ l) : ∀ {n : Nat}, Pl.QaC (fun i => if i ∈ l ++ [k] then f i else 0) n = Pl.QaC (fun i => if i ∈ l then f i else 0) n + if k < n then f k else 0
 |0 => by simp [Pl.QaC]
 |n + 1 => by
  have ih := QhA (f := f) hl (n := n);show Pl.QaC (fun i => if i ∈ l ++ [k] then f i else 0) n + (if n ∈ l ++ [k] then f n else 0) = Pl.QaC (fun i => if i ∈ l then f i else 0) n + (if n ∈ l then f n else 0) + _;rw [ih]
  by_cases h : n = k
  ·subst h
   have e1 : (if n ∈ l ++ [n] then f n else 0) = f n := if_pos (by simp);have e2 : (if n ∈ l then f n else 0) = 0 := if_neg hl;have e3 : (if n < n then f n else 0) = 0 := if_neg (Nat.lt_irrefl n);have e4 : (if n < n + 1 then f n else 0) = f n := if_pos (Nat.lt_succ_self n);rw [e1, e2, e3, e4]
  ·have e1 : (if n ∈ l ++ [k] then f n else 0) = (if n ∈ l then f n else 0) := by
    have : n ∈ l ++ [k] ↔ n ∈ l := by simp [h]
    by_cases hm : n ∈ l
    ·rw [if_pos hm, if_pos (this.2 hm)]
    ·rw [if_neg hm, if_neg (fun x => hm (this.1 x))]
   have e2 : (if k < n + 1 then f k else 0) = (if k < n then f k else 0) := by
    by_cases h2 : k < n
    ·rw [if_pos h2, if_pos (by omega)]
    ·rw [if_neg h2, if_neg (by omega)]
   rw [e1, e2]; omega
theorem Qf1 {f : Nat -> Int} (c : Int) : ∀ {n : Nat}, (∀ k, k < n -> 0 <= f k /\ f k <= c) -> 0 <= Pl.QaC f n /\ Pl.QaC f n <= n * c
 |0, _ => by simp [Pl.QaC]
 |n + 1, h => by
  have := Qf1 c (n := n) fun k hk => h k (by omega)
  have := h n (by omega);unfold Pl.QaC;rw [Int.natCast_succ, Int.add_mul];omega
theorem QdP : ∀ x : List UInt8, Op.bytesLess x x = false
 |[] => rfl
 |a :: x => by simp [Op.bytesLess, QdP x]
theorem bl_cons (a b : UInt8) (x y : List UInt8) : Op.bytesLess (a :: x) (b :: y) = true ↔ a < b ∨ a = b /\ Op.bytesLess x y = true := by simp [Op.bytesLess]
theorem Qhv : ∀ {x y z : List UInt8}, Op.bytesLess x y = true -> Op.bytesLess y z = true -> Op.bytesLess x z = true
 |[], [], _, h, _ => by simp [Op.bytesLess] at h
 |[], _ :: _, [], _, h => by simp [Op.bytesLess] at h
 |[], _ :: _, _ :: _, _, _ => by simp [Op.bytesLess]
 |_ :: _, [], _, h, _ => by simp [Op.bytesLess] at h
 |_ :: _, _ :: _, [], _, h => by simp [Op.bytesLess] at h
 |a :: x, b :: y, c :: z, h1, h2 => by
  rw [bl_cons] at *
  rcases h1 with h1 | ⟨rfl, h1⟩
  ·rcases h2 with h2 | ⟨rfl, h2⟩
   ·exact .inl (UInt8.lt_trans h1 h2)
   ·exact .inl h1
  ·rcases h2 with h2 | ⟨rfl, h2⟩
   ·exact .inl h2
   ·exact .inr ⟨rfl, Qhv h1 h2⟩
theorem QjQ {l : List Pl.Ent} (h : Pl.Qaf l = true) {i : Nat} (hi : i + 1 < l.length) : Op.bytesLess (l[i]'(by omega)).1 (l[i + 1]).1 = true := by
 unfold Pl.Qaf at h;rw [Bool.and_eq_true, List.all_eq_true] at h;have := h.1 (i + 1) (List.mem_range.2 hi);unfold Pl.QaF at this;simp only [List.getD_eq_getElem?_getD, List.getElem?_eq_getElem hi, Nat.add_sub_cancel, List.getElem?_eq_getElem (show i < l.length by omega), Option.getD_some, Bool.and_eq_true, Bool.or_eq_true, decide_eq_true_eq] at this;rcases this.2 with h | h
 ·omega
 ·exact h
theorem Qhn {l : List Pl.Ent} (h : Pl.Qaf l = true) {i : Nat} : ∀ {j : Nat} (hj : j < l.length) (hij : i < j), Op.bytesLess (l[i]'(by omega)).1 (l[j]).1 = true
 |j + 1, hj, hij => by
  by_cases hi : i = j
  ·subst hi; exact QjQ h hj
  ·exact Qhv (Qhn h (show j < l.length by omega) (by omega)) (QjQ h hj)
theorem Qm5 {l : List Pl.Ent} (h : Pl.Qaf l = true) : (l.map (·.1)).Nodup := by
 rw [List.nodup_iff_pairwise_ne, List.pairwise_iff_getElem];intro i j hi hj hij e;simp only [List.getElem_map] at *
 have := Qhn h (show j < l.length by simpa using hj) hij;rw [e, QdP] at this;cases this
theorem Qcs (s : Pm.Store) (n : Pl.Node) : (Pl.ents s n).2 = true /\ Pl.Qaf (Pl.ents s n).1 = true ∨ Pl.ents s n = ([], false) := by
 unfold Pl.ents;split
 ·rcases QnR (Pl.blob (Pl.Qaa s n.tree)).1 with h | h
  ·exact .inl ⟨h.2, h.1.1⟩
  ·exact .inr h
 ·exact .inr rfl
theorem QgA (s : Pm.Store) (n : Pl.Node) : ∀ e ∈ (Pl.ents s n).1, Pl.Qaj e.1 = true /\ 1 <= e.2 /\ e.2 <= 15 := by
 rcases Qcs s n with h | h
 ·exact ent_b h.2
 ·rw [h]; intro e he; cases he
theorem QfV {s : Pm.Store} {n : Pl.Node} (h : (Pl.ents s n).2 = true) : n.kind = 2 := by
 unfold Pl.ents at h;split at h
 ·rename_i h1; simp only [Bool.and_eq_true, beq_iff_eq] at h1; exact h1.1.1.1.2
 ·cases h
theorem Qe4 (s : Pm.Store) (t : Pl.Tree) (k : Nat) : (Pl.Qab s t).getD k Pl.zn = Pl.zn ∨ NodeB ((Pl.Qab s t).getD k Pl.zn) := by
 rw [List.getD_eq_getElem?_getD];cases h : (Pl.Qab s t)[k]? with
 |none => exact .inl rfl
 |some n =>
  have hm := List.mem_of_getElem? h;unfold Pl.Qab at hm;obtain ⟨x, _, rfl⟩ := List.mem_map.1 hm;rcases QiQ x with h | h
  ·exact .inr h
  ·exact .inl h
theorem nsOk (s : Pm.Store) (t : Pl.Tree) : Pl.NsOk (Pl.Qab s t) (Pl.ents s) := by
 refine ⟨fun n hn => ?_, fun n e he => by have := QgA s n e he; omega⟩;unfold Pl.Qab at hn;obtain ⟨x, _, rfl⟩ := List.mem_map.1 hn;rcases QiQ x with h | h
 ·exact .inr h.kind
 ·rw [h]; exact .inl rfl
def Pl.Qa1 (ns : List Pl.Node) (k : Nat) : Nat := (ns.getD k Pl.zn).links.toNat
theorem texts_len (s : Pm.Store) {t : Pl.Tree} (h : Pl.TGood t) : (Pl.Qaa s t).length = t.many.toNat := by
 unfold Pl.Qaa;rw [List.length_map, List.length_take, Qfm s h.hi];have := h.manyHi;omega
theorem graph (s : Pm.Store) {t : Pl.Tree} (ht : Pl.TGood t) (h0 : ((Pl.Qab s t).getD 0 Pl.zn).kind = 2) :
 Gr.Nodes (Pl.Qad (Pl.Qab s t)) (Gr.chOf (Pl.enF (Pl.Qab s t) (Pl.ents s))) (Pl.Qa1 (Pl.Qab s t)) (Pl.Qab s t).length := by
 have hb : ∀ k, Pl.Qad (Pl.Qab s t) k ≠ 0 -> NodeB ((Pl.Qab s t).getD k Pl.zn) := fun k hk => by
  rcases Qe4 s t k with h | h
  ·unfold Pl.Qad at hk; rw [h] at hk; exact absurd rfl hk
  ·exact h
 refine ⟨by unfold Pl.Qad; rw [h0]; rfl, fun k => ?_, fun k hk => Qce hk, ?_, fun k hk => ?_, fun k hk => ?_, fun k cs hc e he => ?_⟩
 ·unfold Pl.Qad
  rcases Qe4 s t k with h | h
  ·rw [h]; decide
  ·have := h.kind; omega
 ·unfold Pl.Qab; rw [List.length_map, texts_len s ht]; have := ht.manyHi; omega
 ·have := (hb k hk).links; unfold Pl.Qa1; omega
 ·have h := hb k (by omega)
  have := h.one (by unfold Pl.Qad at hk; omega);unfold Pl.Qa1; omega
 ·unfold Gr.chOf Pl.enF at hc
  split at hc
  ·simp only [Option.map_some, Option.some.injEq] at hc
   subst hc;rw [List.map_map] at he;obtain ⟨x, hx, rfl⟩ := List.mem_map.1 he;have := QgA s _ x hx;simp only [Function.comp]; omega
  ·cases hc
noncomputable def Pl.Qa9 (s : Pm.Store) (t : Pl.Tree) : List Pl.Fnd × Bool := Pl.wk (Pl.Qab s t) (Pl.ents s) 145 ([], 0) []
def Pl.many (out : List Pl.Fnd) (k : Nat) : Nat := (out.map (·.2)).count (k : Int)
noncomputable def Pl.Qav (s : Pm.Store) (ns : List Pl.Node) (out : List Pl.Fnd) (k : Nat) : Bool :=
 ((ns.getD k Pl.zn).kind == 0 || ((Pl.many out k : Int) == (ns.getD k Pl.zn).links)) && (!((ns.getD k Pl.zn).kind == 1) || Pl.Qay s (ns.getD k Pl.zn))
noncomputable def Pl.Qal (s : Pm.Store) (t : Pl.Tree) : Bool :=
 Pl.Qa5 s t && ((Pl.Qab s t).getD 0 Pl.zn).kind == 2 && (Pl.Qa9 s t).2 && (List.range (Pl.Qab s t).length).all (Pl.Qav s (Pl.Qab s t) (Pl.Qa9 s t).1)
structure Pl.Files (s : Pm.Store) (t : Pl.Tree) : Prop where
 tab : Pl.Qa5 s t = true
 root : ((Pl.Qab s t).getD 0 Pl.zn).kind = 2
 file : ∀ k, ((Pl.Qab s t).getD k Pl.zn).kind = 1 -> Pl.Qay s ((Pl.Qab s t).getD k Pl.zn) = true
 dir : ∀ k, ((Pl.Qab s t).getD k Pl.zn).kind = 2 -> (Pl.ents s ((Pl.Qab s t).getD k Pl.zn)).2 = true
 linked : ∃ nm, Gr.bfs (Pl.Qad (Pl.Qab s t)) (Gr.chOf (Pl.enF (Pl.Qab s t) (Pl.ents s))) (1 + Gr.left (Pl.Qad (Pl.Qab s t)) (Pl.Qab s t).length []) [0] [] = some nm /\
  ∀ k, k ≠ 0 -> Pl.Qad (Pl.Qab s t) k ≠ 0 -> nm.count k = Pl.Qa1 (Pl.Qab s t) k
theorem Qgw (L : List Gr.It) (k : Nat) : Pl.many (L.map Pl.itOf) k = (L.map (·.2)).count k := by
 unfold Pl.many;rw [List.map_map];induction L with
 |nil => rfl
 |cons x L ih =>
  simp only [List.map_cons, List.count_cons, ih, Function.comp, Pl.itOf]
  congr 1
  by_cases h : x.2 = k
  ·subst h; simp
  ·have h1 : (x.2 == k) = false := by simpa using h
   have h2 : ((x.2 : Int) == (k : Int)) = false := by simp; omega
   rw [h1, h2]
theorem Qmu (s : Pm.Store) {t : Pl.Tree} (h0 : ((Pl.Qab s t).getD 0 Pl.zn).kind = 2) (L : List Gr.It) :
 (Pl.Qa9 s t = (L.map Pl.itOf, true) /\ L.length <= 144 /\ Gr.FP (Pl.Qad (Pl.Qab s t)) (Pl.enF (Pl.Qab s t) (Pl.ents s)) [([], 0)] L) ↔
 (Gr.FP (Pl.Qad (Pl.Qab s t)) (Pl.enF (Pl.Qab s t) (Pl.ents s)) [([], 0)] L /\ L.length <= 144) := by
 constructor
 ·rintro ⟨_, h2, h3⟩; exact ⟨h3, h2⟩
 ·rintro ⟨h3, h2⟩
  refine ⟨?_, h2, h3⟩;have hN := nsOk s t;have hlt : 0 < (Pl.Qab s t).length := Qce (k := 0) (by unfold Pl.Qad; rw [h0]; decide);cases h3 with
  |file hk _ => unfold Pl.Qad at hk; rw [h0] at hk; cases hk
  |@dir _ _ es _ L1 L2 hk hes h1 h4 =>
   cases h4;unfold Pl.enF at hes;split at hes;rotate_left
   ·cases hes
   rename_i hE;obtain rfl := Option.some.inj hes;rw [List.append_nil] at h2 ⊢;rw [List.length_cons] at h2;have := Qnl hN h1 144 [] (Pl.ents s ((Pl.Qab s t).getD 0 Pl.zn)).1 [([], 0)] (hN.ids _) (by simp [Gr.kids]) (by simp; omega) (by simp);unfold Pl.Qa9 Pl.wk;rw [if_neg, if_neg]
   ·rw [<- hE] at this
    refine Eq.trans this ?_;rw [hE]; rfl
   ·show ¬ ((Pl.Qab s t).getD 0 Pl.zn).kind = 1
    rw [h0]; decide
   ·show ¬ (144 < 1 ∨ Pl.inR 0 0 _ = false ∨ ((Pl.Qab s t).getD 0 Pl.zn).kind = 0)
    rw [h0];simp only [Pl.inR];simp; omega
theorem QeA (s : Pm.Store) {t : Pl.Tree} (h0 : ((Pl.Qab s t).getD 0 Pl.zn).kind = 2) (h : (Pl.Qa9 s t).2 = true) :
 ∃ L, Gr.FP (Pl.Qad (Pl.Qab s t)) (Pl.enF (Pl.Qab s t) (Pl.ents s)) [([], 0)] L /\ L.length <= 144 /\ Pl.Qa9 s t = (L.map Pl.itOf, true) := by
 have hN := nsOk s t;unfold Pl.Qa9 Pl.wk at h ⊢;split at h
 ·cases h
 rename_i hc;rw [if_neg hc];split at h
 ·rename_i hk; change ((Pl.Qab s t).getD 0 Pl.zn).kind = 1 at hk; rw [h0] at hk; cases hk
 rename_i hk;rw [if_neg hk]
 change (Pl.wks (Pl.Qab s t) (Pl.ents s) 144 [] (Pl.ents s ((Pl.Qab s t).getD 0 Pl.zn)).1 ([([], 0)], (Pl.ents s ((Pl.Qab s t).getD 0 Pl.zn)).2)).2 = true at h
 change ∃ L, _ /\ _ /\ Pl.wks (Pl.Qab s t) (Pl.ents s) 144 [] (Pl.ents s ((Pl.Qab s t).getD 0 Pl.zn)).1 ([([], 0)], (Pl.ents s ((Pl.Qab s t).getD 0 Pl.zn)).2) = _
 have hE : (Pl.ents s ((Pl.Qab s t).getD 0 Pl.zn)).2 = true := by
  cases hE : (Pl.ents s ((Pl.Qab s t).getD 0 Pl.zn)).2
  ·rw [hE, Qfa] at h; cases h
  ·rfl
 rw [hE] at h ⊢;obtain ⟨L, g1, g2, g3⟩ := QnO hN 144 _ [] [([], 0)] (hN.ids _) h;have g3 := g3 (by simp);refine ⟨([], 0) :: (L ++ []), .dir (es := (Pl.ents s ((Pl.Qab s t).getD 0 Pl.zn)).1.map fun e => (e.1, e.2.toNat)) (by unfold Pl.Qad; rw [h0]; rfl) ?_ ?_ .nil, ?_, ?_⟩
 ·unfold Pl.enF; rw [if_pos hE]
 ·unfold Gr.kids; rw [List.map_map]; exact g1
 ·simp at g3 ⊢; omega
 ·rw [g2]; simp [Pl.itOf]
theorem QdI (s : Pm.Store) (t : Pl.Tree) : Pl.Qal s t = true ↔ Pl.Files s t := by
 unfold Pl.Qal;simp only [Bool.and_eq_true, beq_iff_eq, List.all_eq_true, List.mem_range];have key : ∀ (h1 : Pl.Qa5 s t = true) (h2 : ((Pl.Qab s t).getD 0 Pl.zn).kind = 2), _ := fun h1 h2 => Gr.Qns (graph s (QbS (by unfold Pl.Qa5 at h1; rw [Bool.and_eq_true] at h1; exact h1.1)) h2)
 have hk2 : ∀ k, Pl.Qad (Pl.Qab s t) k = 2 ↔ ((Pl.Qab s t).getD k Pl.zn).kind = 2 := fun k => by
  have := Qcz (nsOk s t) k;unfold Pl.Qad; omega
 have hch : ∀ k, (∃ cs, Gr.chOf (Pl.enF (Pl.Qab s t) (Pl.ents s)) k = some cs) ↔ (Pl.ents s ((Pl.Qab s t).getD k Pl.zn)).2 = true := fun k => by
  unfold Gr.chOf Pl.enF;split <;> simp_all
 constructor
 ·rintro ⟨⟨⟨h1, h2⟩, h3⟩, h4⟩
  obtain ⟨L, g1, g2, g3⟩ := QeA s h2 h3;rw [g3] at h4
  have hcount : ∀ k, Pl.Qad (Pl.Qab s t) k ≠ 0 -> (L.map (·.2)).count k = Pl.Qa1 (Pl.Qab s t) k := fun k hk => by
   have := h4 k (Qce hk);unfold Pl.Qav at this;simp only [Bool.and_eq_true, Bool.or_eq_true, beq_iff_eq] at this;rw [Qgw] at this;unfold Pl.Qad at hk;unfold Pl.Qa1;rcases this.1 with h | h
   ·rw [h] at hk; exact absurd rfl hk
   ·omega
  obtain ⟨k1, k2⟩ := (key h1 h2).1 ⟨_, g1.fd, by simpa using g2, hcount⟩;refine ⟨h1, h2, fun k hk => ?_, fun k hk => (hch k).1 (k1 k ((hk2 k).2 hk)), k2⟩;have := h4 k (Qce (by unfold Pl.Qad; rw [hk]; decide));unfold Pl.Qav at this;rw [hk] at this;simpa using (Bool.and_eq_true _ _ ▸ this).2
 ·rintro ⟨h1, h2, h3, h4, h5⟩
  obtain ⟨M, m1, m2, m3⟩ := (key h1 h2).2 ⟨fun k hk => (hch k).2 (h4 k ((hk2 k).1 hk)), h5⟩;obtain ⟨L, g1, rfl⟩ := Gr.QnP m1 (r := [([], 0)]) rfl;obtain ⟨q1, _, _⟩ := (Qmu s h2 L).2 ⟨g1, by simpa using m2⟩;rw [q1];refine ⟨⟨⟨h1, h2⟩, rfl⟩, fun k hk => ?_⟩;unfold Pl.Qav;rw [Qgw]
  by_cases h0 : ((Pl.Qab s t).getD k Pl.zn).kind = 0
  ·rw [h0]; rfl
  ·have hkc := Qcz (nsOk s t) k
   have := m3 k (by unfold Pl.Qad; omega);rw [this]
   have hB : NodeB ((Pl.Qab s t).getD k Pl.zn) := by
    rcases Qe4 s t k with h | h
    ·rw [h] at h0; exact absurd rfl h0
    ·exact h
   have hl := hB.links;have e1 : ((Pl.Qa1 (Pl.Qab s t) k : Int) == ((Pl.Qab s t).getD k Pl.zn).links) = true := beq_iff_eq.2 (by unfold Pl.Qa1; omega);rw [e1]
   by_cases hk1 : ((Pl.Qab s t).getD k Pl.zn).kind = 1
   ·rw [h3 k hk1]; simp
   ·have : (((Pl.Qab s t).getD k Pl.zn).kind == 1) = false := by simpa using hk1
    rw [this]; simp
end Aw
end Go.Proofs.YtdjkdcokjoiokaaGreatDoor
namespace Go.Proofs.YtdjkdcokjoiokaaGreatDoor
open Go.RowKit
namespace Aw
attribute [local irreducible] ASeq ADraw AWP Loc
theorem al10Cut (s : List UInt8) (hs : s.length <= Pm.big) : Pure Tryz.prog 255 [dS s] (dS (Pl.cut0 s)) := by
 simp only [Pm.big] at hs
 (refine Qbv Tryz.func255 rfl Tryz.ntmps255 Tryz.results255 rfl ?_; simp only [parE, Nat.zero_add, Nat.reduceAdd])
 (repeat' (first | refine e1 (k := ?_) | refine Qbr ?_ | refine Qbt ?_ | refine Qbq ?_ | refine Qbx ?_ | fail))
 refine QbC (fun m st => ∃ r : List UInt8, r.length <= s.length /\ m = r.length /\ Hid (Pl.cut0 r = Pl.cut0 s) /\ st = ⟨20, [(0, .d (dS r))], []⟩) [0] 0 s.length ⟨s, Nat.le_refl _, rfl, Pm.hid rfl, rfl⟩ (round := ?_);rintro m st ⟨r, hr, rfl, hC, rfl⟩;rcases List.eq_nil_or_concat r with rfl | ⟨l, c, rfl⟩
 ·(repeat' (first | refine e1 (k := ?_) | refine e0 (k := ?_) | refine Qbr ?_ | refine Qbt ?_ | refine Qbq ?_ | refine Qb1 (hf := ?_) | refine Qb3 ?_ | fail))
  refine Qb0 (hx := ?_);rw [<- hC.out]; rfl
 rw [List.concat_eq_append] at *
 have hl : (l ++ [c]).length = l.length + 1 := by simp
 have hi : (((l ++ [c]).length : Int) - 1).toNat = l.length := by omega
 have hc : (l ++ [c])[(((l ++ [c]).length : Int) - 1).toNat]? = some c := by rw [hi]; simp
 have T : Hid (((c.toNat : Nat) : Int) ≠ 0 -> Pl.cut0 s = l ++ [c]) := fun h => by rw [<- hC.out, QfX, if_neg]; intro e; apply h; rw [beq_iff_eq] at e; rw [e]; rfl
 have F : Hid (((c.toNat : Nat) : Int) = 0 -> Pl.cut0 l = Pl.cut0 s) := fun h => by rw [<- hC.out, QfX, if_pos]; rw [beq_iff_eq]; exact UInt8.toNat_inj.1 (by have : (0 : UInt8).toNat = 0 := rfl; omega)
 clear hC
 (repeat' (first | refine e1 (k := ?_) | refine e0 (k := ?_) | refine stepS (QcK Ty.h rfl rfl rfl (by omega) hc) (k := ?_) | refine stepS (Qe7 rfl rfl rfl (by omega) (by omega)) (k := ?_) | refine stepS (QbN rfl rfl (by omega)) (k := ?_) | refine Qbr ?_ | refine QbF ?_ | refine Qbt ?_ | refine Qbq ?_ | refine Qb1 (hf := ?_) | refine Qb2 (ht := fun q => ?_) (hf := fun q => ?_) | refine Qby ?_ | refine Qc0 ?_ | refine Qbx ?_ | refine Qb3 ?_ | refine QdC ?_ | ((fail_if_success show ASeq _ _ _ _ ⟨_, (_, .d (.v (.bool true))) :: _, _⟩); (fail_if_success show ASeq _ _ _ _ ⟨_, (_, .d (.v (.bool false))) :: _, _⟩); refine splitS (fun q => ?_) (fun q => ?_))))
 ·simp only [beq_iff_eq, decide_eq_true_eq] at *
  refine Qb8 l.length (by omega) ⟨l, by omega, rfl, Pm.hid (F.out (by assumption)), ?_⟩;simp [keepE, go_sem, hi]
 ·refine Qb0 (hx := ?_)
  rw [T.out (by simpa using q)]
 ·exfalso; simp at q
theorem texts_le (s : Pm.Store) (hg : Pl.Good s) (t : Pl.Tree) : ∀ x ∈ Pl.Qaa s t, x.length <= 128 := by
 intro x hx;unfold Pl.Qaa at hx;obtain ⟨p, _, rfl⟩ := List.mem_map.1 hx;exact Qgq s hg p
theorem Qi8 (s : Pm.Store) (hg : Pl.Good s) (t : Pl.Tree) (ht : Pl.TGood t) : Pure Tryz.prog 56 [dSt s, dTree t] (.sl true 10 ((Pl.Qab s t).map rNode)) := by
 have c := Qfw s hg t ht;have hl := texts_len s ht;have hle := texts_le s hg t;have hm := ht.manyHi;have hn : Hid (Pl.Qab s t = (Pl.Qaa s t).map fun x => (Pl.ng x).1) := Pm.hid rfl;generalize Pl.Qaa s t = l at *
 (refine Qbv Tryz.func56 rfl Tryz.ntmps56 Tryz.results56 rfl ?_; simp only [parE, Nat.zero_add, Nat.reduceAdd])
 (refine Qbt (Qbq ?_); (repeat (first | refine e1 (k := ?_) | refine e2 (k := ?_) | fail)); refine Qbr ?_)
 refine Qbu 0 (h := ?_);refine Qbu 1 (h := ?_)
 (repeat' (first | refine e1 (k := ?_) | refine stepS (Qbs Tryz.call116 c rfl) (k := ?_) | refine stepS2 (QbD Ty.h rfl Ty.h) (k := ?_) | refine Qbr ?_ | refine Qbt ?_ | refine Qbq ?_ | refine Qbx ?_ | fail))
 refine QbC (fun m st => ∃ (k g : Nat) (out : List Pl.Node), k <= l.length /\ m = 16 - k /\ out.length = k /\ Hid (out = (l.take k).map fun x => (Pl.ng x).1) /\
  st = ⟨33, [(5, .osl 2 g 0 out.length), (6, .d (tStrs l)), (7, .d (dI k))], [.row 1 [], .row 1 [], .arr g 10 105 (out.map rNode)]⟩) [5, 6, 7] 3 16 ⟨0, 0, [], by omega, rfl, rfl, Pm.hid rfl, rfl⟩ (round := ?_)
 rintro m st ⟨k, g, out, hk, rfl, hlen, hO, rfl⟩
 (repeat (first | refine e1 (k := ?_) | refine Qbr ?_ | refine Qbt ?_ | refine Qbq ?_ | fail))
 cases q4 : decide ((k : Int) < (l.length : Int))
 ·(repeat' (first | refine e1 (k := ?_) | refine Qbr ?_ | refine Qbt ?_ | refine Qbq ?_ | refine Qb1 (hf := ?_) | refine Qb3 ?_ | fail))
  (refine Qbu 2 (h := ?_); refine Qb0 (hx := ?_))
  have : k = l.length := by simp at q4; omega
  rw [hn.out, hO.out, this, List.take_length]; simp [List.take_of_length_le]
 have hk2 : k < l.length := by simp at q4; omega
 obtain ⟨x, hx⟩ : ∃ x, l[k]? = some x := ⟨_, List.getElem?_eq_getElem hk2⟩;have hr := QbB (f := fun s => [dS s]) hx;have cg := Qh4 x (by have := hle x (List.mem_of_getElem? hx); unfold Pm.big; omega);have T : Hid ((l.take (k + 1)).map (fun x => (Pl.ng x).1) = out ++ [(Pl.ng x).1]) := Pm.hid (by rw [List.take_add_one, hx, hO.out]; simp);clear hx hO hle hn;generalize (Pl.ng x).1 = N at *
 obtain ⟨kind, links, size, ⟨⟨p1, p2, p3, p4, p5⟩, depth, many⟩⟩ := N
 (repeat' (first | refine e1 (k := ?_) | refine stepS (Qbs Tryz.call117 cg rfl) (k := ?_) | refine stepS (Qbw Ty.h rfl Ty.h rfl rfl rfl (by omega) hr) (k := ?_) | refine Qcf Ty.h rfl Ty.h (hb := ?_) (kk := ?_) | refine stepS (Qb6 rfl rfl (by omega)) (k := ?_) | refine stepS2 (QbD Ty.h rfl Ty.h) (k := ?_) | refine QbA (kk := ?_) | refine Qbr ?_ | refine Qb4 ?_ | refine QbF ?_ | refine Qbt ?_ | refine Qbq ?_ | refine Qbz (ht := ?_) | refine Qby ?_ | refine Qbx ?_ | refine e2 (k := ?_) | fail))
 ·simp; omega
 ·refine Qb8 (16 - (k + 1)) (by omega) ⟨k + 1, g + 1, out ++ [⟨kind, links, size, ⟨⟨p1, p2, p3, p4, p5⟩, depth, many⟩⟩], by omega, rfl, by simp [hlen], Pm.hid T.out.symm, ?_⟩
  simp [keepE, go_sem]
theorem al11Ok (s : Pm.Store) (hg : Pl.Good s) (t : Pl.Tree) : Pure Tryz.prog 182 [dSt s, dTree t] (dB (Pl.Qa5 s t)) := by
 have c0 := al8Ok s hg t;have hd : Hid (Pl.Qa5 s t = (Pl.Qae s t && (Pl.Qaa s t).all fun x => (x == []) || ((Pl.ng x).2 && Pl.Qae s (Pl.ng x).1.tree))) := Pm.hid rfl;cases h0 : Pl.Qae s t
 ·rw [h0] at c0
  (refine Qbv Tryz.func182 rfl Tryz.ntmps182 Tryz.results182 rfl ?_; simp only [parE, Nat.zero_add, Nat.reduceAdd])
  (refine Qbt (Qbq ?_); (repeat (first | refine e1 (k := ?_) | refine e2 (k := ?_) | fail)); refine Qbr ?_)
  refine Qbu 0 (h := ?_);refine Qbu 1 (h := ?_)
  (repeat' (first | refine e1 (k := ?_) | refine stepS (Qbs Tryz.call138 c0 rfl) (k := ?_) | refine Qbr ?_ | refine Qbt ?_ | refine Qbq ?_ | refine Qbz (ht := ?_) | fail))
  refine Qb0 (hx := ?_);rw [hd.out, h0]; rfl
 rw [h0] at c0;have ht := QbS h0;have c := Qfw s hg t ht;have hl := texts_len s ht;have hle := texts_le s hg t;have hm := ht.manyHi;have hm0 := ht.manyLo;have hd2 : Hid (Pl.Qa5 s t = (Pl.Qaa s t).all fun x => (x == []) || ((Pl.ng x).2 && Pl.Qae s (Pl.ng x).1.tree)) := Pm.hid (by rw [hd.out, h0]; rfl);clear hd h0 ht;generalize Pl.Qaa s t = l at *
 (refine Qbv Tryz.func182 rfl Tryz.ntmps182 Tryz.results182 rfl ?_; simp only [parE, Nat.zero_add, Nat.reduceAdd])
 (refine Qbt (Qbq ?_); (repeat (first | refine e1 (k := ?_) | refine e2 (k := ?_) | fail)); refine Qbr ?_)
 refine Qbu 0 (h := ?_);refine Qbu 1 (h := ?_)
 (repeat' (first | refine e1 (k := ?_) | refine stepS (Qbs Tryz.call138 c0 rfl) (k := ?_) | refine stepS (Qbs Tryz.call116 c rfl) (k := ?_) | refine Qbr ?_ | refine Qbt ?_ | refine Qbq ?_ | refine Qb1 (hf := ?_) | refine Qby ?_ | refine Qbx ?_ | fail))
 refine QbC (fun m st => ∃ (k : Nat), k <= l.length /\ m = 16 - k /\ Hid ((l.take k).all (fun x => (x == []) || ((Pl.ng x).2 && Pl.Qae s (Pl.ng x).1.tree)) = true) /\
  st = ⟨43, [(5, .d (tStrs l)), (6, .d (dI k)), (2, .d (.pd (rSt s))), (3, .d (.pd (rTree t)))], [.row 1 [], .row 1 []]⟩) [5, 6, 2, 3] 2 16 ⟨0, by omega, rfl, Pm.hid rfl, rfl⟩ (round := ?_)
 rintro m st ⟨k, hk, rfl, hA, rfl⟩
 (repeat (first | refine e1 (k := ?_) | refine Qbr ?_ | refine Qbt ?_ | refine Qbq ?_ | fail))
 cases q4 : decide ((k : Int) < t.many)
 ·(repeat' (first | refine e1 (k := ?_) | refine Qbr ?_ | refine Qbt ?_ | refine Qbq ?_ | refine Qb1 (hf := ?_) | refine Qb3 ?_ | fail))
  refine Qb0 (hx := ?_);have : k = l.length := by simp at q4; omega
  have h := hA.out;rw [this, List.take_of_length_le (Nat.le_refl _)] at h;rw [hd2.out, h]
 have hk2 : k < l.length := by simp at q4; omega
 obtain ⟨x, hx⟩ : ∃ x, l[k]? = some x := ⟨_, List.getElem?_eq_getElem hk2⟩;have hr := QbB (f := fun s => [dS s]) hx;have cg := Qh4 x (by have := hle x (List.mem_of_getElem? hx); unfold Pm.big; omega);have cT := al8Ok s hg (Pl.ng x).1.tree;have T : Hid (((x == []) || ((Pl.ng x).2 && Pl.Qae s (Pl.ng x).1.tree)) = true -> (l.take (k + 1)).all (fun x => (x == []) || ((Pl.ng x).2 && Pl.Qae s (Pl.ng x).1.tree)) = true) := fun h => by rw [List.take_add_one, hx, List.all_append, hA.out]; simpa using h
 have F : Hid (((x == []) || ((Pl.ng x).2 && Pl.Qae s (Pl.ng x).1.tree)) = false -> Pl.Qa5 s t = false) := fun h => by
  rw [hd2.out, List.all_eq_false];exact ⟨x, List.mem_of_getElem? hx, by rw [h]; simp⟩
 clear hx hA hle hd2;generalize Pl.Qae s (Pl.ng x).1.tree = tok at *
 generalize (Pl.ng x).2 = ok at *
 generalize (Pl.ng x).1 = N at *
 obtain ⟨kind, links, size, ⟨⟨p1, p2, p3, p4, p5⟩, depth, many⟩⟩ := N
 (repeat' (first | refine e1 (k := ?_) | refine e0 (k := ?_) | refine stepS (Qbs Tryz.call117 cg rfl) (k := ?_) | refine stepS (Qbs Tryz.call138 cT rfl) (k := ?_) | refine stepS (Qbw Ty.h rfl Ty.h rfl rfl rfl (by omega) hr) (k := ?_) | refine stepS (Qb6 rfl rfl (by omega)) (k := ?_) | refine stepS (QbK rfl rfl) (k := ?_) | refine QbA (kk := ?_) | refine Qbr ?_ | refine Qb4 ?_ | refine Qbt ?_ | refine Qbq ?_ | refine Qbz (ht := ?_) | refine Qb2 (ht := fun q => ?_) (hf := fun q => ?_) | refine Qby ?_ | refine Qbx ?_ | refine e2 (k := ?_) | refine Qb3 ?_ | ((fail_if_success show ASeq _ _ _ _ ⟨_, (_, .d (.v (.bool true))) :: _, _⟩); (fail_if_success show ASeq _ _ _ _ ⟨_, (_, .d (.v (.bool false))) :: _, _⟩); refine splitS (fun q => ?_) (fun q => ?_))))
 all_goals clear c0 c cg cT hr
 all_goals simp only [decide_eq_true_eq] at q4
 all_goals first
  |exact Qb8 (16 - (k + 1)) (by omega) ⟨k + 1, by omega, rfl, Pm.hid (T.out (by simp_all)), rfl⟩
  |(refine Qb0 (hx := ?_); exact congrArg dB (F.out (by simp_all)).symm)
noncomputable def Pl.QaW (s : Pm.Store) (t : Pl.Tree) (k : Nat) : Pl.Node × Bool := if (k : Int) <= t.many - 1 then Pl.ng ((Pl.Qaa s t).getD k []) else (Pl.zn, false)
theorem QhR (s : Pm.Store) {t : Pl.Tree} (ht : Pl.TGood t) (k : Nat) : (Pl.QaW s t k).1 = (Pl.Qab s t).getD k Pl.zn := by
 have hl := texts_len s ht;have := ht.manyLo;unfold Pl.QaW Pl.Qab;rw [List.getD_eq_getElem?_getD, List.getD_eq_getElem?_getD, List.getElem?_map];split
 ·rw [List.getElem?_eq_getElem (by omega)]; rfl
 ·rw [List.getElem?_eq_none (by omega)]; rfl
theorem texts_get (s : Pm.Store) {t : Pl.Tree} (ht : Pl.TGood t) {k : Nat} (hk : (k : Int) <= t.many - 1) : (Pl.Qaa s t).getD k [] = (Pl.rd s.1 ((Pl.wide s t).getD k Pl.hole)).1 := by
 have hw := Qfm s ht.hi;have := ht.manyHi;unfold Pl.Qaa;rw [List.getD_eq_getElem?_getD, List.getD_eq_getElem?_getD, List.getElem?_map, List.getElem?_take, if_pos (by omega), List.getElem?_eq_getElem (by omega)]; rfl
theorem al11Get (s : Pm.Store) (hg : Pl.Good s) (t : Pl.Tree) (ht : Pl.TGood t) (k : Nat) : Pure Tryz.prog 179 [dSt s, dTree t, dI k] (.tup [dNode (Pl.QaW s t k).1, dB (Pl.QaW s t k).2]) := by
 have hm := ht.manyHi;have hm0 := ht.manyLo;have c0 := al6In k 0 (t.many - 1)
 by_cases h : (k : Int) <= t.many - 1
 ·have e : Pl.inR k 0 (t.many - 1) = true := by simp [Pl.inR]; omega
  rw [e] at c0;have c1 := al8Get s hg t ht k (by omega);rw [<- texts_get s ht h] at c1;have hx : Hid (Pl.QaW s t k = Pl.ng ((Pl.Qaa s t).getD k [])) := Pm.hid (by unfold Pl.QaW; rw [if_pos h])
  have c2 := Qh4 ((Pl.Qaa s t).getD k []) (by
   rw [List.getD_eq_getElem?_getD];cases h1 : (Pl.Qaa s t)[k]? with
   |none => simp
   |some x => have := texts_le s hg t x (List.mem_of_getElem? h1); simp [Pm.big]; omega)
  generalize (Pl.Qaa s t).getD k [] = x at *
  rw [hx.out];clear hx h e;generalize Pl.ng x = r at *
  obtain ⟨⟨kind, links, size, ⟨⟨p1, p2, p3, p4, p5⟩, depth, many⟩⟩, ok⟩ := r
  (refine QbM Tryz.func179 rfl Tryz.ntmps179 Tryz.results179 rfl ?_; simp only [parE, Nat.zero_add, Nat.reduceAdd])
  (refine Qbt (Qbq ?_); (repeat (first | refine e1 (k := ?_) | refine e2 (k := ?_) | fail)); refine Qbr ?_)
  refine Qbu 0 (h := ?_);refine Qbu 1 (h := ?_)
  (repeat' (first | refine e1 (k := ?_) | refine stepS (Qbs Tryz.call40 c0 rfl) (k := ?_) | refine stepS (Qbs Tryz.call251 c1 rfl) (k := ?_) | refine stepS (Qbs Tryz.call117 c2 rfl) (k := ?_) | refine stepS (QbN rfl rfl (by omega)) (k := ?_) | refine QbA (kk := ?_) | refine Qbr ?_ | refine Qbt ?_ | refine Qbq ?_ | refine Qb1 (hf := ?_) | refine Qby ?_ | fail))
  refine Qbu 2 (h := ?_);exact QbO (hx := rfl)
 ·have e : Pl.inR k 0 (t.many - 1) = false := by simp [Pl.inR]; omega
  rw [e] at c0;have hx : Hid (Pl.QaW s t k = (Pl.zn, false)) := Pm.hid (by unfold Pl.QaW; rw [if_neg h]);rw [hx.out]
  (refine QbM Tryz.func179 rfl Tryz.ntmps179 Tryz.results179 rfl ?_; simp only [parE, Nat.zero_add, Nat.reduceAdd])
  (refine Qbt (Qbq ?_); (repeat (first | refine e1 (k := ?_) | refine e2 (k := ?_) | fail)); refine Qbr ?_)
  refine Qbu 0 (h := ?_);refine Qbu 1 (h := ?_)
  (repeat' (first | refine e1 (k := ?_) | refine stepS (Qbs Tryz.call40 c0 rfl) (k := ?_) | refine stepS (QbN rfl rfl (by omega)) (k := ?_) | refine QbA (kk := ?_) | refine Qbr ?_ | refine Qbt ?_ | refine Qbq ?_ | refine Qbz (ht := ?_) | fail))
  refine Qbu 2 (h := ?_);exact QbO (hx := rfl)
def Pl.QaH (c : UInt8) : Bool := decide (97 <= c.toNat) && decide (c.toNat <= 122)
theorem QhT (s : List UInt8) : Pl.Qaj s = (s.all Pl.QaH && Pl.inR s.length 1 4) := by
 unfold Pl.Qaj Pl.inR;rw [Bool.and_assoc]
 congr 2
 ·simp; omega
 ·simp; omega
theorem aNameOk (s : List UInt8) (hs : s.length <= Pm.big) : Pure Tryz.prog 208 [dS s] (dB (Pl.Qaj s)) := by
 simp only [Pm.big] at hs;have hd := Pm.hid (QhT s);have c := al6In s.length 1 4
 (refine Qbv Tryz.func208 rfl Tryz.ntmps208 Tryz.results208 rfl ?_; simp only [parE, Nat.zero_add, Nat.reduceAdd])
 (repeat' (first | refine e1 (k := ?_) | refine Qbr ?_ | refine Qbt ?_ | refine Qbq ?_ | refine Qbx ?_ | fail))
 refine QbC (fun m st => ∃ k : Nat, k <= s.length /\ m = s.length - k /\ Hid ((s.take k).all Pl.QaH = true) /\ st = ⟨23, [(3, .d (dI k)), (0, .d (dS s))], []⟩) [3, 0] 0 s.length ⟨0, by omega, rfl, Pm.hid rfl, rfl⟩ (round := ?_);rintro m st ⟨k, hk, rfl, hA, rfl⟩
 (repeat (first | refine e1 (k := ?_) | refine Qbr ?_ | refine Qbt ?_ | refine Qbq ?_ | fail))
 cases q3 : decide ((k : Int) < (s.length : Int))
 ·(repeat' (first | refine e1 (k := ?_) | refine stepS (Qbs Tryz.call40 c rfl) (k := ?_) | refine Qbr ?_ | refine Qbt ?_ | refine Qbq ?_ | refine Qb1 (hf := ?_) | refine Qb3 ?_ | fail))
  refine Qb0 (hx := ?_);have : k = s.length := by simp at q3; omega
  have h := hA.out;rw [this, List.take_length] at h;rw [hd.out, h]; rfl
 have hk2 : k < s.length := by simp at q3; omega
 obtain ⟨x, hx⟩ : ∃ x, s[k]? = some x := ⟨_, List.getElem?_eq_getElem hk2⟩;have hx' : s[(k : Int).toNat]? = some x := hx;have T : Hid (97 <= x.toNat -> x.toNat <= 122 -> (s.take (k + 1)).all Pl.QaH = true) := fun h1 h2 => by rw [List.take_add_one, hx, List.all_append, hA.out]; simp [Pl.QaH, h1, h2]
 have F : Hid ((x.toNat < 97 ∨ 122 < x.toNat) -> Pl.Qaj s = false) := fun h => by
  rw [hd.out];have : s.all Pl.QaH = false := by rw [List.all_eq_false]; exact ⟨x, List.mem_of_getElem? hx, by simp [Pl.QaH]; omega⟩
  rw [this]; rfl
 clear hx hA hd
 (repeat' (first | refine e1 (k := ?_) | refine e0 (k := ?_) | refine stepS (QcK Ty.h rfl rfl rfl (by omega) hx') (k := ?_) | refine stepS (Qb6 rfl rfl (by omega)) (k := ?_) | refine Qbr ?_ | refine Qb4 ?_ | refine Qbt ?_ | refine Qbq ?_ | refine Qbz (ht := ?_) | refine Qb2 (ht := fun q => ?_) (hf := fun q => ?_) | refine Qby ?_ | refine Qbx ?_ | ((fail_if_success show ASeq _ _ _ _ ⟨_, (_, .d (.v (.bool true))) :: _, _⟩); (fail_if_success show ASeq _ _ _ _ ⟨_, (_, .d (.v (.bool false))) :: _, _⟩); refine splitS (fun q => ?_) (fun q => ?_))))
 all_goals simp only [decide_eq_true_eq, decide_eq_false_iff_not] at *
 all_goals first
  |exact Qb8 (s.length - (k + 1)) (by omega) ⟨k + 1, by omega, rfl, Pm.hid (T.out (by omega) (by omega)), rfl⟩
  |(refine Qb0 (hx := ?_); rw [F.out (by omega)])
abbrev dEnts (l : List Pl.Ent) : D := .sl false 2 (l.map rEnt)
abbrev tEnts (l : List Pl.Ent) : D := .sl true 2 (l.map rEnt)
theorem Qlu (l : List Pl.Ent) (hl : l.length <= Pm.big) (hs : ∀ e ∈ l, e.1.length <= Pm.big) : Pure Tryz.prog 305 [dEnts l] (dB (Pl.Qaf l)) := by
 simp only [Pm.big] at hl;have hd : Hid (Pl.Qaf l = ((List.range l.length).all (Pl.QaF l) && decide (l.length <= 12))) := Pm.hid rfl
 (refine Qbv Tryz.func305 rfl Tryz.ntmps305 Tryz.results305 rfl ?_; simp only [parE, Nat.zero_add, Nat.reduceAdd])
 (repeat' (first | refine e1 (k := ?_) | refine Qbr ?_ | refine Qbt ?_ | refine Qbq ?_ | refine Qbx ?_ | fail))
 refine QbC (fun m st => ∃ k : Nat, k <= l.length /\ m = l.length - k /\ Hid ((List.range k).all (Pl.QaF l) = true) /\ st = ⟨47, [(3, .d (dI k)), (0, .d (dEnts l))], []⟩) [3, 0] 0 l.length ⟨0, by omega, rfl, Pm.hid rfl, rfl⟩ (round := ?_);rintro m st ⟨k, hk, rfl, hA, rfl⟩
 (repeat (first | refine e1 (k := ?_) | refine Qbr ?_ | refine Qbt ?_ | refine Qbq ?_ | fail))
 cases q3 : decide ((k : Int) < (l.length : Int))
 ·(repeat' (first | refine e1 (k := ?_) | refine Qbr ?_ | refine Qbt ?_ | refine Qbq ?_ | refine Qb1 (hf := ?_) | refine Qb3 ?_ | fail))
  refine Qb0 (hx := ?_);have : k = l.length := by simp at q3; omega
  have h := hA.out;rw [this] at h;rw [hd.out, h];refine congrArg dB ?_;simp; omega
 have hk2 : k < l.length := by simp at q3; omega
 obtain ⟨x, hx⟩ : ∃ x, l[k]? = some x := ⟨_, List.getElem?_eq_getElem hk2⟩;have hr := QbB (f := rEnt) hx;obtain ⟨y, hy⟩ : ∃ y, l[k - 1]? = some y := ⟨_, List.getElem?_eq_getElem (by omega)⟩
 have hr2 : Hid (0 < k -> (l.map rEnt)[((k : Int) - 1).toNat]? = some (rEnt y)) := fun h => by
  rw [show ((k : Int) - 1).toNat = k - 1 by omega, List.getElem?_map, hy]; rfl
 have he : Hid (Pl.QaF l k = (Pl.Qaj x.1 && Pl.inR x.2 1 15 && (decide (k = 0) || Op.bytesLess y.1 x.1))) := Pm.hid (by
  unfold Pl.QaF; simp only [List.getD_eq_getElem?_getD, hx, hy, Option.getD_some])
 have T : Hid (Pl.QaF l k = true -> (List.range (k + 1)).all (Pl.QaF l) = true) := fun h => Pl.QbL (p := Pl.QaF l) hA.out h
 have F : Hid (Pl.QaF l k = false -> Pl.Qaf l = false) := fun h => by
  rw [hd.out, Pl.QbH (p := Pl.QaF l) hk2 h]; rfl
 have c1 := aNameOk x.1 (hs x (List.mem_of_getElem? hx));have c2 := al6In x.2 1 15;rw [he.out] at T F;clear hx hy hA hd he;generalize Pl.Qaj x.1 = o1 at *
 generalize Pl.inR x.2 1 15 = o2 at *
 (repeat' (first | refine f1 (k := ?_) | refine e1 (k := ?_) | refine f0 (k := ?_) | refine stepD (Qbs Tryz.call208 c1 rfl) (k := ?_) | refine stepD (Qbs Tryz.call40 c2 rfl) (k := ?_) | refine stepD (Qbw Ty.h rfl Ty.h rfl rfl rfl (by omega) hr) (k := ?_) | refine stepD (Qbw Ty.h rfl Ty.h rfl rfl rfl (by simp only [decide_eq_true_eq] at *; omega) (hr2.out (by simp only [decide_eq_true_eq] at *; omega))) (k := ?_) | refine stepD (Qgy rfl rfl) (k := ?_) | refine stepS (Qb6 rfl rfl (by omega)) (k := ?_) | refine stepD (QbN rfl rfl (by omega)) (k := ?_) | refine Qbr ?_ | refine Qb4 ?_ | refine Qb5 ?_ | refine Qbt ?_ | refine Qbq ?_ | refine QbE follows_mixed (by kernel_rfl) (by kernel_rfl) ?_ | refine Qbz (ht := ?_) | refine Qb1 (hf := ?_) | refine Qb2 (ht := fun q => ?_) (hf := fun q => ?_) | refine Qby ?_ | refine Qbx ?_ | ((fail_if_success show ADraw _ _ _ _ ⟨_, (_, .d (.v (.bool true))) :: _, _⟩); (fail_if_success show ADraw _ _ _ _ ⟨_, (_, .d (.v (.bool false))) :: _, _⟩); refine splitD (fun q => ?_) (fun q => ?_))))
 all_goals clear c1 c2 hr hr2
 all_goals simp only [decide_eq_true_eq, decide_eq_false_iff_not] at *
 all_goals first
  |(refine Qb8 (l.length - (k + 1)) (by omega) ⟨k + 1, by omega, rfl, Pm.hid (T.out ?_), rfl⟩; clear T F; simp_all; try omega)
  |(refine Qb0 (hx := ?_); rw [F.out ?_]; clear T F; simp_all; try omega)
end Aw
end Go.Proofs.YtdjkdcokjoiokaaGreatDoor

/- Part 25 of seek_card: contracts, walks, laws; no condition beyond the statement's. -/
import Derived.Test.YtdjkdcokjoiokaaGreatDoorW21
set_option linter.all false
set_option maxRecDepth 100000
set_option maxHeartbeats 4000000
namespace Go.Proofs.YtdjkdcokjoiokaaGreatDoor
section
namespace Aw
noncomputable def Pl.Qa2 (s : Pm.Store) (t : Pl.Tree) : Bool := Pl.Qaf s t && (Pl.Qaa s t).all fun x => (x == []) || ((Pl.ng x).2 && Pl.Qaf s (Pl.ng x).1.tree)
noncomputable def Pl.Qac (s : Pm.Store) (t : Pl.Tree) : List Pl.Node := (Pl.Qaa s t).map fun x => (Pl.ng x).1
def Pl.Qav (l : List (List UInt8)) (k : Nat) : Bool := !(l.getD k [] == []) && (decide (k + 1 = l.length) || decide ((l.getD k []).length = 128))
def Pl.blob (l : List (List UInt8)) : List UInt8 × Bool := if (List.range l.length).all (Pl.Qav l) then (l.flatten, true) else ([], false)
noncomputable def Pl.ents (s : Pm.Store) (n : Pl.Node) : List Pl.Ent × Bool :=
 if Pl.Qak n && (n.kind == 2) && Pl.Qaf s n.tree && (Pl.blob (Pl.Qaa s n.tree)).2 && decide (((Pl.blob (Pl.Qaa s n.tree)).1.length : Int) = n.size) then Pl.eg (Pl.blob (Pl.Qaa s n.tree)).1 else ([], false)
def Pl.long (size : Int) (k : Nat) : Int := if size - k * 12 < 12 then size - k * 12 else 12
def Pl.Qaz (size : Int) (l : List (List UInt8)) (k : Nat) : Bool := decide (((l.getD k []).length : Int) <= Pl.long size k) && (Pl.cut0 (l.getD k []) == l.getD k [])
noncomputable def Pl.Qam (s : Pm.Store) (n : Pl.Node) : Bool :=
 Pl.Qak n && (n.kind == 1) && Pl.Qaf s n.tree && (List.range n.tree.many.toNat).all (Pl.Qaz n.size (Pl.Qaa s n.tree))
abbrev Pl.Fnd := List (List UInt8) × Int
def Pl.Qao (p : List (List UInt8)) : List UInt8 := if p = [] then [47] else p.flatMap (47 :: ·)
abbrev rFnd (x : Pl.Fnd) : List D := [dS (Pl.Qao x.1), dI x.2]
noncomputable def Pl.wk (ns : List Pl.Node) (E : Pl.Node -> List Pl.Ent × Bool) : Nat -> Pl.Fnd -> List Pl.Fnd -> List Pl.Fnd × Bool
 |0, _, out => (out, false)
 |n + 1, at', out =>
  if 144 < out.length + 1 ∨ Pl.inR at'.2 0 (ns.length - 1) = false ∨ (ns.getD at'.2.toNat Pl.zn).kind = 0 then (out ++ [at'], false) else
  if (ns.getD at'.2.toNat Pl.zn).kind = 1 then (out ++ [at'], true) else
  (E (ns.getD at'.2.toNat Pl.zn)).1.foldl (fun r e => if r.2 then Pl.wk ns E n (at'.1 ++ [e.1], e.2) r.1 else r) (out ++ [at'], (E (ns.getD at'.2.toNat Pl.zn)).2)
noncomputable def Pl.wks (ns : List Pl.Node) (E : Pl.Node -> List Pl.Ent × Bool) (n : Nat) (p : List (List UInt8)) (l : List Pl.Ent) (r : List Pl.Fnd × Bool) : List Pl.Fnd × Bool :=
 l.foldl (fun r e => if r.2 then Pl.wk ns E n (p ++ [e.1], e.2) r.1 else r) r
theorem Qe7 (ns : List Pl.Node) (E : Pl.Node -> List Pl.Ent × Bool) (n : Nat) (p : List (List UInt8)) : ∀ (l : List Pl.Ent) (out : List Pl.Fnd), Pl.wks ns E n p l (out, false) = (out, false)
 |[], _ => rfl
 |e :: l, out => by unfold Pl.wks; rw [List.foldl_cons]; exact Qe7 ns E n p l out
theorem Qdg (ns : List Pl.Node) (E : Pl.Node -> List Pl.Ent × Bool) (n : Nat) (p : List (List UInt8)) (e : Pl.Ent) (l : List Pl.Ent) (out : List Pl.Fnd) : Pl.wks ns E n p (e :: l) (out, true) = Pl.wks ns E n p l (Pl.wk ns E n (p ++ [e.1], e.2) out) := by
 unfold Pl.wks; rw [List.foldl_cons]; rfl
theorem Qk9 (ns : List Pl.Node) (E : Pl.Node -> List Pl.Ent × Bool) : ∀ (n : Nat) (x : Pl.Fnd) (out : List Pl.Fnd), out.length <= (Pl.wk ns E n x out).1.length /\ (0 < n -> out.length < (Pl.wk ns E n x out).1.length)
 |0, x, out => ⟨Nat.le_refl _, fun h => absurd h (by decide)⟩
 |n + 1, x, out => by
  have hf : ∀ (l : List Pl.Ent) (r : List Pl.Fnd × Bool), r.1.length <= (Pl.wks ns E n x.1 l r).1.length := by
   intro l;induction l with
   |nil => intro r; exact Nat.le_refl _
   |cons e l ih =>
    rintro ⟨o, b⟩;cases b
    ·rw [Qe7]; exact Nat.le_refl _
    ·rw [Qdg]; exact Nat.le_trans (Qk9 ns E n _ o).1 (ih _)
  have h : out.length < (Pl.wk ns E (n + 1) x out).1.length := by
   unfold Pl.wk;split
   ·simp
   ·split
    ·simp
    ·exact Nat.lt_of_lt_of_le (by simp) (hf _ _)
  exact ⟨by omega, fun _ => h⟩
def Pl.Qad (ns : List Pl.Node) (k : Nat) : Nat := (ns.getD k Pl.zn).kind.toNat
noncomputable def Pl.enF (ns : List Pl.Node) (E : Pl.Node -> List Pl.Ent × Bool) (k : Nat) : Option Gr.En := if (E (ns.getD k Pl.zn)).2 then some ((E (ns.getD k Pl.zn)).1.map fun e => (e.1, e.2.toNat)) else none
structure Pl.NsOk (ns : List Pl.Node) (E : Pl.Node -> List Pl.Ent × Bool) : Prop where
 kind : ∀ n ∈ ns, n.kind = 0 ∨ n.kind = 1 ∨ n.kind = 2
 ids : ∀ n, ∀ e ∈ (E n).1, 0 <= e.2
theorem Qch {ns : List Pl.Node} {E : Pl.Node -> List Pl.Ent × Bool} (h : Pl.NsOk ns E) (k : Nat) : (ns.getD k Pl.zn).kind = 0 ∨ (ns.getD k Pl.zn).kind = 1 ∨ (ns.getD k Pl.zn).kind = 2 := by
 rw [List.getD_eq_getElem?_getD];cases hk : ns[k]? with
 |none => exact .inl rfl
 |some n => exact h.kind n (List.mem_of_getElem? hk)
theorem Qca {ns : List Pl.Node} {k : Nat} (h : Pl.Qad ns k ≠ 0) : k < ns.length := by
 rcases Nat.lt_or_ge k ns.length with h1 | h1
 ·exact h1
 ·exfalso; apply h
  unfold Pl.Qad;rw [List.getD_eq_getElem?_getD, List.getElem?_eq_none h1]; rfl
def Pl.itOf (x : Gr.It) : Pl.Fnd := (x.1, (x.2 : Int))
theorem Qmu {ns : List Pl.Node} {E : Pl.Node -> List Pl.Ent × Bool} (hN : Pl.NsOk ns E) {r L : List Gr.It} (h : Gr.FP (Pl.Qad ns) (Pl.enF ns E) r L) :
 ∀ (n : Nat) (p : List (List UInt8)) (l : List Pl.Ent) (out : List Pl.Fnd), (∀ e ∈ l, 0 <= e.2) -> r = l.map (fun e => (p ++ [e.1], e.2.toNat)) -> out.length + L.length <= 144 -> 145 <= out.length + n -> Pl.wks ns E n p l (out, true) = (out ++ L.map Pl.itOf, true) := by
 induction h with
 |nil =>
  intro n p l out h0 hr _ _;cases l with
  |nil => simp [Pl.wks]
  |cons e l => cases hr
 |@file p' k r L hk h ih =>
  intro n p l out h0 hr hl hn;cases l with
  |nil => cases hr
  |cons e l =>
   simp only [List.map_cons, List.cons.injEq, Prod.mk.injEq] at hr;obtain ⟨⟨rfl, rfl⟩, rfl⟩ := hr;have he := h0 e List.mem_cons_self;rw [List.length_cons] at hl;obtain ⟨n, rfl⟩ : ∃ m, n = m + 1 := ⟨n - 1, by omega⟩;have hlt := Qca (k := e.2.toNat) (ns := ns) (by omega);have hkind : (ns.getD e.2.toNat Pl.zn).kind = 1 := by unfold Pl.Qad at hk; omega
   have hw : Pl.wk ns E (n + 1) (p ++ [e.1], e.2) out = (out ++ [(p ++ [e.1], e.2)], true) := by
    unfold Pl.wk;rw [if_neg, if_pos hkind];simp only [Pl.inR, hkind];simp; omega
   rw [Qdg, hw, ih (n + 1) p l _ (fun e h => h0 e (List.mem_cons_of_mem _ h)) rfl (by simp; omega) (by simp; omega)];simp [Pl.itOf]; omega
 |@dir p' k es r L1 L2 hk hes h1 h2 ih1 ih2 =>
  intro n p l out h0 hr hl hn;cases l with
  |nil => cases hr
  |cons e l =>
   simp only [List.map_cons, List.cons.injEq, Prod.mk.injEq] at hr;obtain ⟨⟨rfl, rfl⟩, rfl⟩ := hr;have he := h0 e List.mem_cons_self;rw [List.length_cons, List.length_append] at hl;obtain ⟨n, rfl⟩ : ∃ m, n = m + 1 := ⟨n - 1, by omega⟩;have hlt := Qca (k := e.2.toNat) (ns := ns) (by omega);have hkind : (ns.getD e.2.toNat Pl.zn).kind = 2 := by unfold Pl.Qad at hk; omega
   unfold Pl.enF at hes;split at hes;rotate_left
   ·cases hes
   rename_i hE;obtain rfl := Option.some.inj hes
   have hw : Pl.wk ns E (n + 1) (p ++ [e.1], e.2) out = Pl.wks ns E n (p ++ [e.1]) (E (ns.getD e.2.toNat Pl.zn)).1 (out ++ [(p ++ [e.1], e.2)], true) := by
    rw [<- hE]
    conv => lhs; unfold Pl.wk
    rw [if_neg, if_neg]
    ·rfl
    ·rw [hkind]; decide
    ·simp only [Pl.inR, hkind]
     simp; omega
   rw [Qdg, hw, ih1 n (p ++ [e.1]) _ _ (hN.ids _) (by simp [Gr.kids]) (by simp; omega) (by simp; omega), ih2 (n + 1) p l _ (fun e h => h0 e (List.mem_cons_of_mem _ h)) rfl (by simp; omega) (by simp; omega)];simp [Pl.itOf]; omega
theorem QmX {ns : List Pl.Node} {E : Pl.Node -> List Pl.Ent × Bool} (hN : Pl.NsOk ns E) : ∀ (n : Nat) (l : List Pl.Ent) (p : List (List UInt8)) (out : List Pl.Fnd), (∀ e ∈ l, 0 <= e.2) -> (Pl.wks ns E n p l (out, true)).2 = true ->
 ∃ L, Gr.FP (Pl.Qad ns) (Pl.enF ns E) (l.map fun e => (p ++ [e.1], e.2.toNat)) L /\ Pl.wks ns E n p l (out, true) = (out ++ L.map Pl.itOf, true) /\ (out.length <= 144 -> out.length + L.length <= 144) := by
 intro n;induction n with
 |zero =>
  intro l p out h0 h;cases l with
  |nil => exact ⟨[], .nil, by simp [Pl.wks], by simp⟩
  |cons e l => rw [Qdg] at h; unfold Pl.wk at h; rw [Qe7] at h; cases h
 |succ n ihn =>
  intro l;induction l with
  |nil => intro p out h0 h; exact ⟨[], .nil, by simp [Pl.wks], by simp⟩
  |cons e l ihl =>
   intro p out h0 h;have he := h0 e List.mem_cons_self;rw [Qdg] at h ⊢
   have hw : ∃ M, Gr.FP (Pl.Qad ns) (Pl.enF ns E) [(p ++ [e.1], e.2.toNat)] M /\ Pl.wk ns E (n + 1) (p ++ [e.1], e.2) out = (out ++ M.map Pl.itOf, true) /\ out.length + M.length <= 144 := by
    have hb : (Pl.wk ns E (n + 1) (p ++ [e.1], e.2) out).2 = true := by
     cases hx : Pl.wk ns E (n + 1) (p ++ [e.1], e.2) out with
     |mk o b =>
      cases b
      ·rw [hx, Qe7] at h; cases h
      ·rfl
    unfold Pl.wk at hb ⊢;split at hb
    ·cases hb
    rename_i hc;rw [if_neg hc];simp only [not_or] at hc;obtain ⟨c1, c2, c3⟩ := hc;split at hb
    ·rename_i hk
     rw [if_pos hk];refine ⟨[(p ++ [e.1], e.2.toNat)], .file (by unfold Pl.Qad; rw [hk]; rfl) .nil, ?_, by simp; omega⟩;simp [Pl.itOf]; omega
    ·rename_i hk
     rw [if_neg hk]
     have hk2 : (ns.getD e.2.toNat Pl.zn).kind = 2 := by
      have c3' : ¬ (ns.getD e.2.toNat Pl.zn).kind = 0 := c3;have hk' : ¬ (ns.getD e.2.toNat Pl.zn).kind = 1 := hk;rcases Qch hN e.2.toNat with h | h | h <;> omega
     generalize hEe : E (ns.getD e.2.toNat Pl.zn) = Ee at hb ⊢;obtain ⟨es, ok⟩ := Ee;cases ok
     ·change (Pl.wks ns E n (p ++ [e.1]) es (out ++ [(p ++ [e.1], e.2)], false)).2 = true at hb
      rw [Qe7] at hb; cases hb
     ·obtain ⟨L1, g1, g2, g3⟩ := ihn es (p ++ [e.1]) (out ++ [(p ++ [e.1], e.2)]) (fun x hx => hN.ids (ns.getD e.2.toNat Pl.zn) x (by rw [hEe]; exact hx)) hb
      have g3 := g3 (by simp; omega);refine ⟨(p ++ [e.1], e.2.toNat) :: (L1 ++ []), .dir (es := es.map fun e => (e.1, e.2.toNat)) (by unfold Pl.Qad; rw [hk2]; rfl) ?_ ?_ .nil, ?_, ?_⟩
      ·unfold Pl.enF; rw [hEe]; rfl
      ·unfold Gr.kids; rw [List.map_map]; exact g1
      ·refine Eq.trans g2 ?_
       simp [Pl.itOf]; omega
      ·simp at g3 ⊢; omega
   obtain ⟨M, m1, m2, m3⟩ := hw;rw [m2] at h ⊢;obtain ⟨L, g1, g2, g3⟩ := ihl p _ (fun e h => h0 e (List.mem_cons_of_mem _ h)) h;have g3 := g3 (by simp; omega);refine ⟨M ++ L, ?_, by rw [g2]; simp, fun _ => by simp at g3 ⊢; omega⟩;cases m1 with
   |file hk hz => cases hz; exact .file hk g1
   |dir hk he h1 hz => cases hz; rw [List.append_nil]; exact .dir hk he h1 g1
theorem Qh9 (b : UInt8) (r : List UInt8) : Pl.cutB b (b :: r) = [] :: Pl.cutB b r := Pl.QbS b [] r (by simp)
theorem QgW : ∀ (p : List (List UInt8)), (∀ n ∈ p, (47 : UInt8) ∉ n) -> Pl.cutB 47 (p.flatMap (47 :: ·)) = [] :: p
 |[], _ => rfl
 |n :: q, h => by
  have ih := QgW q fun x hx => h x (List.mem_cons_of_mem _ hx)
  rw [List.flatMap_cons, List.cons_append, Qh9]
  congr 1
  cases q with
  |nil => rw [List.flatMap_nil, List.append_nil]; exact Pl.Qcx 47 n (h n List.mem_cons_self)
  |cons m q =>
   rw [List.flatMap_cons, List.cons_append] at ih ⊢;rw [Qh9] at ih;rw [Pl.QbS 47 n _ (h n List.mem_cons_self), List.tail_eq_of_cons_eq ih]
def Pl.QaZ (p : List (List UInt8)) : Prop := ∀ n ∈ p, (47 : UInt8) ∉ n /\ n ≠ []
theorem names_p {p : List (List UInt8)} (h : ∀ n ∈ p, Pl.Qai n = true) : Pl.QaZ p := fun n hn => ⟨QdA (h n hn) (by decide), by
 rintro rfl; have := h [] hn; simp [Pl.Qai] at this⟩
theorem QkJ {p : List (List UInt8)} (h : Pl.QaZ p) (hp : p ≠ []) : Pl.cutB 47 (Pl.Qao p) = [] :: p := by
 unfold Pl.Qao;rw [if_neg hp];exact QgW p fun n hn => (h n hn).1
theorem QjD {p : List (List UInt8)} (h : Pl.QaZ p) : Pl.Qao p = [47] ↔ p = [] := by
 constructor
 ·intro hs
  cases p with
  |nil => rfl
  |cons n q =>
   have h1 := QkJ h (by simp);rw [hs] at h1;have h2 : Pl.cutB 47 [47] = [[], []] := by decide
   rw [h2] at h1;simp only [List.cons.injEq, true_and] at h1;exact absurd h1.1.symm (h n List.mem_cons_self).2
 ·rintro rfl; rfl
theorem QjC (p : List (List UInt8)) (n : List UInt8) : Pl.Qao (p ++ [n]) = if p = [] then 47 :: n else Pl.Qao p ++ 47 :: n := by
 unfold Pl.Qao;rw [if_neg (by simp), List.flatMap_append];split
 ·rename_i h; subst h; simp
 ·simp
theorem QhF : ∀ x : List UInt8, Op.bytesLess x x = false
 |[] => rfl
 |a :: x => by simp [Op.bytesLess, QhF x]
theorem Qdr (a b : UInt8) (x y : List UInt8) : Op.bytesLess (a :: x) (b :: y) = true ↔ a < b ∨ a = b /\ Op.bytesLess x y = true := by simp [Op.bytesLess]
theorem QeS : ∀ {x y z : List UInt8}, Op.bytesLess x y = true -> Op.bytesLess y z = true -> Op.bytesLess x z = true
 |[], [], _, h, _ => by simp [Op.bytesLess] at h
 |[], _ :: _, [], _, h => by simp [Op.bytesLess] at h
 |[], _ :: _, _ :: _, _, _ => by simp [Op.bytesLess]
 |_ :: _, [], _, h, _ => by simp [Op.bytesLess] at h
 |_ :: _, _ :: _, [], _, h => by simp [Op.bytesLess] at h
 |a :: x, b :: y, c :: z, h1, h2 => by
  rw [Qdr] at *
  rcases h1 with h1 | ⟨rfl, h1⟩
  ·rcases h2 with h2 | ⟨rfl, h2⟩
   ·exact .inl (UInt8.lt_trans h1 h2)
   ·exact .inl h1
  ·rcases h2 with h2 | ⟨rfl, h2⟩
   ·exact .inl h2
   ·exact .inr ⟨rfl, QeS h1 h2⟩
theorem Qjm {l : List Pl.Ent} (h : Pl.Qag l = true) {i : Nat} (hi : i + 1 < l.length) : Op.bytesLess (l[i]'(by omega)).1 (l[i + 1]).1 = true := by
 unfold Pl.Qag at h;rw [Bool.and_eq_true, List.all_eq_true] at h;have := h.1 (i + 1) (List.mem_range.2 hi);unfold Pl.Qa6 at this;simp only [List.getD_eq_getElem?_getD, List.getElem?_eq_getElem hi, Nat.add_sub_cancel, List.getElem?_eq_getElem (show i < l.length by omega), Option.getD_some, Bool.and_eq_true, Bool.or_eq_true, decide_eq_true_eq] at this;rcases this.2 with h | h
 ·omega
 ·exact h
theorem QlE {l : List Pl.Ent} (h : Pl.Qag l = true) {i : Nat} : ∀ {j : Nat} (hj : j < l.length) (hij : i < j), Op.bytesLess (l[i]'(by omega)).1 (l[j]).1 = true
 |j + 1, hj, hij => by
  by_cases hi : i = j
  ·subst hi; exact Qjm h hj
  ·exact QeS (QlE h (show j < l.length by omega) (by omega)) (Qjm h hj)
theorem Qcs (s : Pm.Store) (n : Pl.Node) : (Pl.ents s n).2 = true /\ Pl.Qag (Pl.ents s n).1 = true ∨ Pl.ents s n = ([], false) := by
 unfold Pl.ents;split
 ·rcases Qnc (Pl.blob (Pl.Qaa s n.tree)).1 with h | h
  ·exact .inl ⟨h.2, h.1.1⟩
  ·exact .inr h
 ·exact .inr rfl
theorem Qjl (s : Pm.Store) (n : Pl.Node) : ∀ e ∈ (Pl.ents s n).1, Pl.Qai e.1 = true /\ 1 <= e.2 /\ e.2 <= 15 := by
 rcases Qcs s n with h | h
 ·exact ent_b h.2
 ·rw [h]; intro e he; cases he
theorem Qh1 {s : Pm.Store} {n : Pl.Node} (h : (Pl.ents s n).2 = true) : n.kind = 2 := by
 unfold Pl.ents at h;split at h
 ·rename_i h1; simp only [Bool.and_eq_true, beq_iff_eq] at h1; exact h1.1.1.1.2
 ·cases h
theorem Qfg (s : Pm.Store) (t : Pl.Tree) (k : Nat) : (Pl.Qac s t).getD k Pl.zn = Pl.zn ∨ NodeB ((Pl.Qac s t).getD k Pl.zn) := by
 rw [List.getD_eq_getElem?_getD];cases h : (Pl.Qac s t)[k]? with
 |none => exact .inl rfl
 |some n =>
  have hm := List.mem_of_getElem? h;unfold Pl.Qac at hm;obtain ⟨x, _, rfl⟩ := List.mem_map.1 hm;rcases Qig x with h | h
  ·exact .inr h
  ·exact .inl h
theorem nsOk (s : Pm.Store) (t : Pl.Tree) : Pl.NsOk (Pl.Qac s t) (Pl.ents s) := by
 refine ⟨fun n hn => ?_, fun n e he => by have := Qjl s n e he; omega⟩;unfold Pl.Qac at hn;obtain ⟨x, _, rfl⟩ := List.mem_map.1 hn;rcases Qig x with h | h
 ·exact .inr h.kind
 ·rw [h]; exact .inl rfl
def Pl.Qaw (ns : List Pl.Node) (k : Nat) : Nat := (ns.getD k Pl.zn).links.toNat
theorem texts_len (s : Pm.Store) {t : Pl.Tree} (h : Pl.TGood t) : (Pl.Qaa s t).length = t.many.toNat := by
 unfold Pl.Qaa;rw [List.length_map, List.length_take, QiI s h.hi];have := h.manyHi;omega
theorem graph (s : Pm.Store) {t : Pl.Tree} (ht : Pl.TGood t) (h0 : ((Pl.Qac s t).getD 0 Pl.zn).kind = 2) :
 Gr.Nodes (Pl.Qad (Pl.Qac s t)) (Gr.chOf (Pl.enF (Pl.Qac s t) (Pl.ents s))) (Pl.Qaw (Pl.Qac s t)) (Pl.Qac s t).length := by
 have hb : ∀ k, Pl.Qad (Pl.Qac s t) k ≠ 0 -> NodeB ((Pl.Qac s t).getD k Pl.zn) := fun k hk => by
  rcases Qfg s t k with h | h
  ·unfold Pl.Qad at hk; rw [h] at hk; exact absurd rfl hk
  ·exact h
 refine ⟨by unfold Pl.Qad; rw [h0]; rfl, fun k => ?_, fun k hk => Qca hk, ?_, fun k hk => ?_, fun k hk => ?_, fun k cs hc e he => ?_⟩
 ·unfold Pl.Qad
  rcases Qfg s t k with h | h
  ·rw [h]; decide
  ·have := h.kind; omega
 ·unfold Pl.Qac; rw [List.length_map, texts_len s ht]; have := ht.manyHi; omega
 ·have := (hb k hk).links; unfold Pl.Qaw; omega
 ·have h := hb k (by omega)
  have := h.one (by unfold Pl.Qad at hk; omega);unfold Pl.Qaw; omega
 ·unfold Gr.chOf Pl.enF at hc
  split at hc
  ·simp only [Option.map_some, Option.some.injEq] at hc
   subst hc;rw [List.map_map] at he;obtain ⟨x, hx, rfl⟩ := List.mem_map.1 he;have := Qjl s _ x hx;simp only [Function.comp]; omega
  ·cases hc
noncomputable def Pl.QaA (s : Pm.Store) (t : Pl.Tree) : List Pl.Fnd × Bool := Pl.wk (Pl.Qac s t) (Pl.ents s) 145 ([], 0) []
def Pl.many (out : List Pl.Fnd) (k : Nat) : Nat := (out.map (·.2)).count (k : Int)
noncomputable def Pl.Qat (s : Pm.Store) (ns : List Pl.Node) (out : List Pl.Fnd) (k : Nat) : Bool :=
 ((ns.getD k Pl.zn).kind == 0 || ((Pl.many out k : Int) == (ns.getD k Pl.zn).links)) && (!((ns.getD k Pl.zn).kind == 1) || Pl.Qam s (ns.getD k Pl.zn))
noncomputable def Pl.Qaq (s : Pm.Store) (t : Pl.Tree) : Bool :=
 Pl.Qa2 s t && ((Pl.Qac s t).getD 0 Pl.zn).kind == 2 && (Pl.QaA s t).2 && (List.range (Pl.Qac s t).length).all (Pl.Qat s (Pl.Qac s t) (Pl.QaA s t).1)
structure Pl.Files (s : Pm.Store) (t : Pl.Tree) : Prop where
 tab : Pl.Qa2 s t = true
 root : ((Pl.Qac s t).getD 0 Pl.zn).kind = 2
 file : ∀ k, ((Pl.Qac s t).getD k Pl.zn).kind = 1 -> Pl.Qam s ((Pl.Qac s t).getD k Pl.zn) = true
 dir : ∀ k, ((Pl.Qac s t).getD k Pl.zn).kind = 2 -> (Pl.ents s ((Pl.Qac s t).getD k Pl.zn)).2 = true
 linked : ∃ nm, Gr.bfs (Pl.Qad (Pl.Qac s t)) (Gr.chOf (Pl.enF (Pl.Qac s t) (Pl.ents s))) (1 + Gr.left (Pl.Qad (Pl.Qac s t)) (Pl.Qac s t).length []) [0] [] = some nm /\
  ∀ k, k ≠ 0 -> Pl.Qad (Pl.Qac s t) k ≠ 0 -> nm.count k = Pl.Qaw (Pl.Qac s t) k
theorem QfN (L : List Gr.It) (k : Nat) : Pl.many (L.map Pl.itOf) k = (L.map (·.2)).count k := by
 unfold Pl.many;rw [List.map_map];induction L with
 |nil => rfl
 |cons x L ih =>
  simp only [List.map_cons, List.count_cons, ih, Function.comp, Pl.itOf]
  congr 1
  by_cases h : x.2 = k
  ·subst h; simp
  ·have h1 : (x.2 == k) = false := by simpa using h
   have h2 : ((x.2 : Int) == (k : Int)) = false := by simp; omega
   rw [h1, h2]
theorem Ql6 (s : Pm.Store) {t : Pl.Tree} (h0 : ((Pl.Qac s t).getD 0 Pl.zn).kind = 2) (L : List Gr.It) :
 (Pl.QaA s t = (L.map Pl.itOf, true) /\ L.length <= 144 /\ Gr.FP (Pl.Qad (Pl.Qac s t)) (Pl.enF (Pl.Qac s t) (Pl.ents s)) [([], 0)] L) ↔
 (Gr.FP (Pl.Qad (Pl.Qac s t)) (Pl.enF (Pl.Qac s t) (Pl.ents s)) [([], 0)] L /\ L.length <= 144) := by
 constructor
 ·rintro ⟨_, h2, h3⟩; exact ⟨h3, h2⟩
 ·rintro ⟨h3, h2⟩
  refine ⟨?_, h2, h3⟩;have hN := nsOk s t;have hlt : 0 < (Pl.Qac s t).length := Qca (k := 0) (by unfold Pl.Qad; rw [h0]; decide);cases h3 with
  |file hk _ => unfold Pl.Qad at hk; rw [h0] at hk; cases hk
  |@dir _ _ es _ L1 L2 hk hes h1 h4 =>
   cases h4;unfold Pl.enF at hes;split at hes;rotate_left
   ·cases hes
   rename_i hE;obtain rfl := Option.some.inj hes;rw [List.append_nil] at h2 ⊢;rw [List.length_cons] at h2;have := Qmu hN h1 144 [] (Pl.ents s ((Pl.Qac s t).getD 0 Pl.zn)).1 [([], 0)] (hN.ids _) (by simp [Gr.kids]) (by simp; omega) (by simp);unfold Pl.QaA Pl.wk;rw [if_neg, if_neg]
   ·rw [<- hE] at this
    refine Eq.trans this ?_;rw [hE]; rfl
   ·show ¬ ((Pl.Qac s t).getD 0 Pl.zn).kind = 1
    rw [h0]; decide
   ·show ¬ (144 < 1 ∨ Pl.inR 0 0 _ = false ∨ ((Pl.Qac s t).getD 0 Pl.zn).kind = 0)
    rw [h0];simp only [Pl.inR];simp; omega
theorem Qg1 (s : Pm.Store) {t : Pl.Tree} (h0 : ((Pl.Qac s t).getD 0 Pl.zn).kind = 2) (h : (Pl.QaA s t).2 = true) :
 ∃ L, Gr.FP (Pl.Qad (Pl.Qac s t)) (Pl.enF (Pl.Qac s t) (Pl.ents s)) [([], 0)] L /\ L.length <= 144 /\ Pl.QaA s t = (L.map Pl.itOf, true) := by
 have hN := nsOk s t;unfold Pl.QaA Pl.wk at h ⊢;split at h
 ·cases h
 rename_i hc;rw [if_neg hc];split at h
 ·rename_i hk; change ((Pl.Qac s t).getD 0 Pl.zn).kind = 1 at hk; rw [h0] at hk; cases hk
 rename_i hk;rw [if_neg hk]
 change (Pl.wks (Pl.Qac s t) (Pl.ents s) 144 [] (Pl.ents s ((Pl.Qac s t).getD 0 Pl.zn)).1 ([([], 0)], (Pl.ents s ((Pl.Qac s t).getD 0 Pl.zn)).2)).2 = true at h
 change ∃ L, _ /\ _ /\ Pl.wks (Pl.Qac s t) (Pl.ents s) 144 [] (Pl.ents s ((Pl.Qac s t).getD 0 Pl.zn)).1 ([([], 0)], (Pl.ents s ((Pl.Qac s t).getD 0 Pl.zn)).2) = _
 have hE : (Pl.ents s ((Pl.Qac s t).getD 0 Pl.zn)).2 = true := by
  cases hE : (Pl.ents s ((Pl.Qac s t).getD 0 Pl.zn)).2
  ·rw [hE, Qe7] at h; cases h
  ·rfl
 rw [hE] at h ⊢;obtain ⟨L, g1, g2, g3⟩ := QmX hN 144 _ [] [([], 0)] (hN.ids _) h;have g3 := g3 (by simp);refine ⟨([], 0) :: (L ++ []), .dir (es := (Pl.ents s ((Pl.Qac s t).getD 0 Pl.zn)).1.map fun e => (e.1, e.2.toNat)) (by unfold Pl.Qad; rw [h0]; rfl) ?_ ?_ .nil, ?_, ?_⟩
 ·unfold Pl.enF; rw [if_pos hE]
 ·unfold Gr.kids; rw [List.map_map]; exact g1
 ·simp at g3 ⊢; omega
 ·rw [g2]; simp [Pl.itOf]
theorem Qdz (s : Pm.Store) (t : Pl.Tree) : Pl.Qaq s t = true ↔ Pl.Files s t := by
 unfold Pl.Qaq;simp only [Bool.and_eq_true, beq_iff_eq, List.all_eq_true, List.mem_range];have key : ∀ (h1 : Pl.Qa2 s t = true) (h2 : ((Pl.Qac s t).getD 0 Pl.zn).kind = 2), _ := fun h1 h2 => Gr.Qmx (graph s (QbL (by unfold Pl.Qa2 at h1; rw [Bool.and_eq_true] at h1; exact h1.1)) h2)
 have hk2 : ∀ k, Pl.Qad (Pl.Qac s t) k = 2 ↔ ((Pl.Qac s t).getD k Pl.zn).kind = 2 := fun k => by
  have := Qch (nsOk s t) k;unfold Pl.Qad; omega
 have hch : ∀ k, (∃ cs, Gr.chOf (Pl.enF (Pl.Qac s t) (Pl.ents s)) k = some cs) ↔ (Pl.ents s ((Pl.Qac s t).getD k Pl.zn)).2 = true := fun k => by
  unfold Gr.chOf Pl.enF;split <;> simp_all
 constructor
 ·rintro ⟨⟨⟨h1, h2⟩, h3⟩, h4⟩
  obtain ⟨L, g1, g2, g3⟩ := Qg1 s h2 h3;rw [g3] at h4
  have hcount : ∀ k, Pl.Qad (Pl.Qac s t) k ≠ 0 -> (L.map (·.2)).count k = Pl.Qaw (Pl.Qac s t) k := fun k hk => by
   have := h4 k (Qca hk);unfold Pl.Qat at this;simp only [Bool.and_eq_true, Bool.or_eq_true, beq_iff_eq] at this;rw [QfN] at this;unfold Pl.Qad at hk;unfold Pl.Qaw;rcases this.1 with h | h
   ·rw [h] at hk; exact absurd rfl hk
   ·omega
  obtain ⟨k1, k2⟩ := (key h1 h2).1 ⟨_, g1.fd, by simpa using g2, hcount⟩;refine ⟨h1, h2, fun k hk => ?_, fun k hk => (hch k).1 (k1 k ((hk2 k).2 hk)), k2⟩;have := h4 k (Qca (by unfold Pl.Qad; rw [hk]; decide));unfold Pl.Qat at this;rw [hk] at this;simpa using (Bool.and_eq_true _ _ ▸ this).2
 ·rintro ⟨h1, h2, h3, h4, h5⟩
  obtain ⟨M, m1, m2, m3⟩ := (key h1 h2).2 ⟨fun k hk => (hch k).2 (h4 k ((hk2 k).1 hk)), h5⟩;obtain ⟨L, g1, rfl⟩ := Gr.QmY m1 (r := [([], 0)]) rfl;obtain ⟨q1, _, _⟩ := (Ql6 s h2 L).2 ⟨g1, by simpa using m2⟩;rw [q1];refine ⟨⟨⟨h1, h2⟩, rfl⟩, fun k hk => ?_⟩;unfold Pl.Qat;rw [QfN]
  by_cases h0 : ((Pl.Qac s t).getD k Pl.zn).kind = 0
  ·rw [h0]; rfl
  ·have hkc := Qch (nsOk s t) k
   have := m3 k (by unfold Pl.Qad; omega);rw [this]
   have hB : NodeB ((Pl.Qac s t).getD k Pl.zn) := by
    rcases Qfg s t k with h | h
    ·rw [h] at h0; exact absurd rfl h0
    ·exact h
   have hl := hB.links;have e1 : ((Pl.Qaw (Pl.Qac s t) k : Int) == ((Pl.Qac s t).getD k Pl.zn).links) = true := beq_iff_eq.2 (by unfold Pl.Qaw; omega);rw [e1]
   by_cases hk1 : ((Pl.Qac s t).getD k Pl.zn).kind = 1
   ·rw [h3 k hk1]; simp
   ·have : (((Pl.Qac s t).getD k Pl.zn).kind == 1) = false := by simpa using hk1
    rw [this]; simp
end Aw
end
section
open Go.RowKit
namespace Aw
attribute [local irreducible] ASeq ADraw AWP Loc
theorem al10Cut (s : List UInt8) (hs : s.length <= Pm.big) : Pure Tryz.prog 255 [dS s] (dS (Pl.cut0 s)) := by
 simp only [Pm.big] at hs
 (refine Qbk Tryz.func255 rfl Tryz.ntmps255 Tryz.results255 rfl ?_; simp only [parE, Nat.zero_add, Nat.reduceAdd])
 (repeat' (first | refine e1 (k := ?_) | refine Qbd ?_ | refine Qbf ?_ | refine Qbc ?_ | refine Qbi ?_ | fail))
 refine Qby (fun m st => ∃ r : List UInt8, r.length <= s.length /\ m = r.length /\ Hid (Pl.cut0 r = Pl.cut0 s) /\ st = ⟨20, [(0, .d (dS r))], []⟩) [0] 0 s.length ⟨s, Nat.le_refl _, rfl, Pm.hid rfl, rfl⟩ (round := ?_);rintro m st ⟨r, hr, rfl, hC, rfl⟩;rcases List.eq_nil_or_concat r with rfl | ⟨l, c, rfl⟩
 ·(repeat' (first | refine e1 (k := ?_) | refine e0 (k := ?_) | refine Qbd ?_ | refine Qbf ?_ | refine Qbc ?_ | refine Qbm (hf := ?_) | refine Qbq ?_ | fail))
  refine Qbn (hx := ?_);rw [<- hC.out]; rfl
 rw [List.concat_eq_append] at *
 have hl : (l ++ [c]).length = l.length + 1 := by simp
 have hi : (((l ++ [c]).length : Int) - 1).toNat = l.length := by omega
 have hc : (l ++ [c])[(((l ++ [c]).length : Int) - 1).toNat]? = some c := by rw [hi]; simp
 have T : Hid (((c.toNat : Nat) : Int) ≠ 0 -> Pl.cut0 s = l ++ [c]) := fun h => by rw [<- hC.out, Qf0, if_neg]; intro e; apply h; rw [beq_iff_eq] at e; rw [e]; rfl
 have F : Hid (((c.toNat : Nat) : Int) = 0 -> Pl.cut0 l = Pl.cut0 s) := fun h => by rw [<- hC.out, Qf0, if_pos]; rw [beq_iff_eq]; exact UInt8.toNat_inj.1 (by have : (0 : UInt8).toNat = 0 := rfl; omega)
 clear hC
 (repeat' (first | refine e1 (k := ?_) | refine e0 (k := ?_) | refine stepS (QdB Ty.h rfl rfl rfl (by omega) hc) (k := ?_) | refine stepS (Qhk rfl rfl rfl (by omega) (by omega)) (k := ?_) | refine stepS (QbB rfl rfl (by omega)) (k := ?_) | refine Qbd ?_ | refine Qb0 ?_ | refine Qbf ?_ | refine Qbc ?_ | refine Qbm (hf := ?_) | refine Qbo (ht := fun q => ?_) (hf := fun q => ?_) | refine Qbj ?_ | refine QcN ?_ | refine Qbi ?_ | refine Qbq ?_ | refine Qfi ?_ | ((fail_if_success show ASeq _ _ _ _ ⟨_, (_, .d (.v (.bool true))) :: _, _⟩); (fail_if_success show ASeq _ _ _ _ ⟨_, (_, .d (.v (.bool false))) :: _, _⟩); refine splitS (fun q => ?_) (fun q => ?_))))
 ·simp only [beq_iff_eq, decide_eq_true_eq] at *
  refine Qbt l.length (by omega) ⟨l, by omega, rfl, Pm.hid (F.out (by assumption)), ?_⟩;simp [keepE, go_sem, hi]
 ·refine Qbn (hx := ?_)
  rw [T.out (by simpa using q)]
 ·exfalso; simp at q
theorem texts_le (s : Pm.Store) (hg : Pl.Good s) (t : Pl.Tree) : ∀ x ∈ Pl.Qaa s t, x.length <= 128 := by
 intro x hx;unfold Pl.Qaa at hx;obtain ⟨p, _, rfl⟩ := List.mem_map.1 hx;exact QfF s hg p
theorem QhN (s : Pm.Store) (hg : Pl.Good s) (t : Pl.Tree) (ht : Pl.TGood t) : Pure Tryz.prog 56 [dSt s, dTree t] (.sl true 10 ((Pl.Qac s t).map rNode)) := by
 have c := Qeu s hg t ht;have hl := texts_len s ht;have hle := texts_le s hg t;have hm := ht.manyHi;have hn : Hid (Pl.Qac s t = (Pl.Qaa s t).map fun x => (Pl.ng x).1) := Pm.hid rfl;generalize Pl.Qaa s t = l at *
 (refine Qbk Tryz.func56 rfl Tryz.ntmps56 Tryz.results56 rfl ?_; simp only [parE, Nat.zero_add, Nat.reduceAdd])
 (refine Qbf (Qbc ?_); (repeat (first | refine e1 (k := ?_) | refine e2 (k := ?_) | fail)); refine Qbd ?_)
 refine Qbg 0 (h := ?_);refine Qbg 1 (h := ?_)
 (repeat' (first | refine e1 (k := ?_) | refine stepS (Qbe Tryz.call116 c rfl) (k := ?_) | refine stepS2 (Qbz Ty.h rfl Ty.h) (k := ?_) | refine Qbd ?_ | refine Qbf ?_ | refine Qbc ?_ | refine Qbi ?_ | fail))
 refine Qby (fun m st => ∃ (k g : Nat) (out : List Pl.Node), k <= l.length /\ m = 16 - k /\ out.length = k /\ Hid (out = (l.take k).map fun x => (Pl.ng x).1) /\
  st = ⟨33, [(5, .osl 2 g 0 out.length), (6, .d (tStrs l)), (7, .d (dI k))], [.row 1 [], .row 1 [], .arr g 10 105 (out.map rNode)]⟩) [5, 6, 7] 3 16 ⟨0, 0, [], by omega, rfl, rfl, Pm.hid rfl, rfl⟩ (round := ?_)
 rintro m st ⟨k, g, out, hk, rfl, hlen, hO, rfl⟩
 (repeat (first | refine e1 (k := ?_) | refine Qbd ?_ | refine Qbf ?_ | refine Qbc ?_ | fail))
 cases q4 : decide ((k : Int) < (l.length : Int))
 ·(repeat' (first | refine e1 (k := ?_) | refine Qbd ?_ | refine Qbf ?_ | refine Qbc ?_ | refine Qbm (hf := ?_) | refine Qbq ?_ | fail))
  (refine Qbg 2 (h := ?_); refine Qbn (hx := ?_))
  have : k = l.length := by simp at q4; omega
  rw [hn.out, hO.out, this, List.take_length]; simp [List.take_of_length_le]
 have hk2 : k < l.length := by simp at q4; omega
 obtain ⟨x, hx⟩ : ∃ x, l[k]? = some x := ⟨_, List.getElem?_eq_getElem hk2⟩;have hr := Qbx (f := fun s => [dS s]) hx;have cg := Qj6 x (by have := hle x (List.mem_of_getElem? hx); unfold Pm.big; omega);have T : Hid ((l.take (k + 1)).map (fun x => (Pl.ng x).1) = out ++ [(Pl.ng x).1]) := Pm.hid (by rw [List.take_add_one, hx, hO.out]; simp);clear hx hO hle hn;generalize (Pl.ng x).1 = N at *
 obtain ⟨kind, links, size, ⟨⟨p1, p2, p3, p4, p5⟩, depth, many⟩⟩ := N
 (repeat' (first | refine e1 (k := ?_) | refine stepS (Qbe Tryz.call117 cg rfl) (k := ?_) | refine stepS (Qbh Ty.h rfl Ty.h rfl rfl rfl (by omega) hr) (k := ?_) | refine QbO Ty.h rfl Ty.h (hb := ?_) (kk := ?_) | refine stepS (Qbs rfl rfl (by omega)) (k := ?_) | refine stepS2 (Qbz Ty.h rfl Ty.h) (k := ?_) | refine Qbu (kk := ?_) | refine Qbd ?_ | refine Qbp ?_ | refine Qb0 ?_ | refine Qbf ?_ | refine Qbc ?_ | refine Qbl (ht := ?_) | refine Qbj ?_ | refine Qbi ?_ | refine e2 (k := ?_) | fail))
 ·simp; omega
 ·refine Qbt (16 - (k + 1)) (by omega) ⟨k + 1, g + 1, out ++ [⟨kind, links, size, ⟨⟨p1, p2, p3, p4, p5⟩, depth, many⟩⟩], by omega, rfl, by simp [hlen], Pm.hid T.out.symm, ?_⟩
  simp [keepE, go_sem]
theorem al11Ok (s : Pm.Store) (hg : Pl.Good s) (t : Pl.Tree) : Pure Tryz.prog 182 [dSt s, dTree t] (dB (Pl.Qa2 s t)) := by
 have c0 := al8Ok s hg t;have hd : Hid (Pl.Qa2 s t = (Pl.Qaf s t && (Pl.Qaa s t).all fun x => (x == []) || ((Pl.ng x).2 && Pl.Qaf s (Pl.ng x).1.tree))) := Pm.hid rfl;cases h0 : Pl.Qaf s t
 ·rw [h0] at c0
  (refine Qbk Tryz.func182 rfl Tryz.ntmps182 Tryz.results182 rfl ?_; simp only [parE, Nat.zero_add, Nat.reduceAdd])
  (refine Qbf (Qbc ?_); (repeat (first | refine e1 (k := ?_) | refine e2 (k := ?_) | fail)); refine Qbd ?_)
  refine Qbg 0 (h := ?_);refine Qbg 1 (h := ?_)
  (repeat' (first | refine e1 (k := ?_) | refine stepS (Qbe Tryz.call138 c0 rfl) (k := ?_) | refine Qbd ?_ | refine Qbf ?_ | refine Qbc ?_ | refine Qbl (ht := ?_) | fail))
  refine Qbn (hx := ?_);rw [hd.out, h0]; rfl
 rw [h0] at c0;have ht := QbL h0;have c := Qeu s hg t ht;have hl := texts_len s ht;have hle := texts_le s hg t;have hm := ht.manyHi;have hm0 := ht.manyLo;have hd2 : Hid (Pl.Qa2 s t = (Pl.Qaa s t).all fun x => (x == []) || ((Pl.ng x).2 && Pl.Qaf s (Pl.ng x).1.tree)) := Pm.hid (by rw [hd.out, h0]; rfl);clear hd h0 ht;generalize Pl.Qaa s t = l at *
 (refine Qbk Tryz.func182 rfl Tryz.ntmps182 Tryz.results182 rfl ?_; simp only [parE, Nat.zero_add, Nat.reduceAdd])
 (refine Qbf (Qbc ?_); (repeat (first | refine e1 (k := ?_) | refine e2 (k := ?_) | fail)); refine Qbd ?_)
 refine Qbg 0 (h := ?_);refine Qbg 1 (h := ?_)
 (repeat' (first | refine e1 (k := ?_) | refine stepS (Qbe Tryz.call138 c0 rfl) (k := ?_) | refine stepS (Qbe Tryz.call116 c rfl) (k := ?_) | refine Qbd ?_ | refine Qbf ?_ | refine Qbc ?_ | refine Qbm (hf := ?_) | refine Qbj ?_ | refine Qbi ?_ | fail))
 refine Qby (fun m st => ∃ (k : Nat), k <= l.length /\ m = 16 - k /\ Hid ((l.take k).all (fun x => (x == []) || ((Pl.ng x).2 && Pl.Qaf s (Pl.ng x).1.tree)) = true) /\
  st = ⟨43, [(5, .d (tStrs l)), (6, .d (dI k)), (2, .d (.pd (rSt s))), (3, .d (.pd (rTree t)))], [.row 1 [], .row 1 []]⟩) [5, 6, 2, 3] 2 16 ⟨0, by omega, rfl, Pm.hid rfl, rfl⟩ (round := ?_)
 rintro m st ⟨k, hk, rfl, hA, rfl⟩
 (repeat (first | refine e1 (k := ?_) | refine Qbd ?_ | refine Qbf ?_ | refine Qbc ?_ | fail))
 cases q4 : decide ((k : Int) < t.many)
 ·(repeat' (first | refine e1 (k := ?_) | refine Qbd ?_ | refine Qbf ?_ | refine Qbc ?_ | refine Qbm (hf := ?_) | refine Qbq ?_ | fail))
  refine Qbn (hx := ?_);have : k = l.length := by simp at q4; omega
  have h := hA.out;rw [this, List.take_of_length_le (Nat.le_refl _)] at h;rw [hd2.out, h]
 have hk2 : k < l.length := by simp at q4; omega
 obtain ⟨x, hx⟩ : ∃ x, l[k]? = some x := ⟨_, List.getElem?_eq_getElem hk2⟩;have hr := Qbx (f := fun s => [dS s]) hx;have cg := Qj6 x (by have := hle x (List.mem_of_getElem? hx); unfold Pm.big; omega);have cT := al8Ok s hg (Pl.ng x).1.tree;have T : Hid (((x == []) || ((Pl.ng x).2 && Pl.Qaf s (Pl.ng x).1.tree)) = true -> (l.take (k + 1)).all (fun x => (x == []) || ((Pl.ng x).2 && Pl.Qaf s (Pl.ng x).1.tree)) = true) := fun h => by rw [List.take_add_one, hx, List.all_append, hA.out]; simpa using h
 have F : Hid (((x == []) || ((Pl.ng x).2 && Pl.Qaf s (Pl.ng x).1.tree)) = false -> Pl.Qa2 s t = false) := fun h => by
  rw [hd2.out, List.all_eq_false];exact ⟨x, List.mem_of_getElem? hx, by rw [h]; simp⟩
 clear hx hA hle hd2;generalize Pl.Qaf s (Pl.ng x).1.tree = tok at *
 generalize (Pl.ng x).2 = ok at *
 generalize (Pl.ng x).1 = N at *
 obtain ⟨kind, links, size, ⟨⟨p1, p2, p3, p4, p5⟩, depth, many⟩⟩ := N
 (repeat' (first | refine e1 (k := ?_) | refine e0 (k := ?_) | refine stepS (Qbe Tryz.call117 cg rfl) (k := ?_) | refine stepS (Qbe Tryz.call138 cT rfl) (k := ?_) | refine stepS (Qbh Ty.h rfl Ty.h rfl rfl rfl (by omega) hr) (k := ?_) | refine stepS (Qbs rfl rfl (by omega)) (k := ?_) | refine stepS (Qcj rfl rfl) (k := ?_) | refine Qbu (kk := ?_) | refine Qbd ?_ | refine Qbp ?_ | refine Qbf ?_ | refine Qbc ?_ | refine Qbl (ht := ?_) | refine Qbo (ht := fun q => ?_) (hf := fun q => ?_) | refine Qbj ?_ | refine Qbi ?_ | refine e2 (k := ?_) | refine Qbq ?_ | ((fail_if_success show ASeq _ _ _ _ ⟨_, (_, .d (.v (.bool true))) :: _, _⟩); (fail_if_success show ASeq _ _ _ _ ⟨_, (_, .d (.v (.bool false))) :: _, _⟩); refine splitS (fun q => ?_) (fun q => ?_))))
 all_goals clear c0 c cg cT hr
 all_goals simp only [decide_eq_true_eq] at q4
 all_goals first
  |exact Qbt (16 - (k + 1)) (by omega) ⟨k + 1, by omega, rfl, Pm.hid (T.out (by simp_all)), rfl⟩
  |(refine Qbn (hx := ?_); exact congrArg dB (F.out (by simp_all)).symm)
def Pl.Qa8 (c : UInt8) : Bool := decide (97 <= c.toNat) && decide (c.toNat <= 122)
theorem Qhi (s : List UInt8) : Pl.Qai s = (s.all Pl.Qa8 && Pl.inR s.length 1 4) := by
 unfold Pl.Qai Pl.inR;rw [Bool.and_assoc]
 congr 2
 ·simp; omega
 ·simp; omega
theorem aNameOk (s : List UInt8) (hs : s.length <= Pm.big) : Pure Tryz.prog 208 [dS s] (dB (Pl.Qai s)) := by
 simp only [Pm.big] at hs;have hd := Pm.hid (Qhi s);have c := al6In s.length 1 4
 (refine Qbk Tryz.func208 rfl Tryz.ntmps208 Tryz.results208 rfl ?_; simp only [parE, Nat.zero_add, Nat.reduceAdd])
 (repeat' (first | refine e1 (k := ?_) | refine Qbd ?_ | refine Qbf ?_ | refine Qbc ?_ | refine Qbi ?_ | fail))
 refine Qby (fun m st => ∃ k : Nat, k <= s.length /\ m = s.length - k /\ Hid ((s.take k).all Pl.Qa8 = true) /\ st = ⟨23, [(3, .d (dI k)), (0, .d (dS s))], []⟩) [3, 0] 0 s.length ⟨0, by omega, rfl, Pm.hid rfl, rfl⟩ (round := ?_);rintro m st ⟨k, hk, rfl, hA, rfl⟩
 (repeat (first | refine e1 (k := ?_) | refine Qbd ?_ | refine Qbf ?_ | refine Qbc ?_ | fail))
 cases q3 : decide ((k : Int) < (s.length : Int))
 ·(repeat' (first | refine e1 (k := ?_) | refine stepS (Qbe Tryz.call40 c rfl) (k := ?_) | refine Qbd ?_ | refine Qbf ?_ | refine Qbc ?_ | refine Qbm (hf := ?_) | refine Qbq ?_ | fail))
  refine Qbn (hx := ?_);have : k = s.length := by simp at q3; omega
  have h := hA.out;rw [this, List.take_length] at h;rw [hd.out, h]; rfl
 have hk2 : k < s.length := by simp at q3; omega
 obtain ⟨x, hx⟩ : ∃ x, s[k]? = some x := ⟨_, List.getElem?_eq_getElem hk2⟩;have hx' : s[(k : Int).toNat]? = some x := hx;have T : Hid (97 <= x.toNat -> x.toNat <= 122 -> (s.take (k + 1)).all Pl.Qa8 = true) := fun h1 h2 => by rw [List.take_add_one, hx, List.all_append, hA.out]; simp [Pl.Qa8, h1, h2]
 have F : Hid ((x.toNat < 97 ∨ 122 < x.toNat) -> Pl.Qai s = false) := fun h => by
  rw [hd.out];have : s.all Pl.Qa8 = false := by rw [List.all_eq_false]; exact ⟨x, List.mem_of_getElem? hx, by simp [Pl.Qa8]; omega⟩
  rw [this]; rfl
 clear hx hA hd
 (repeat' (first | refine e1 (k := ?_) | refine e0 (k := ?_) | refine stepS (QdB Ty.h rfl rfl rfl (by omega) hx') (k := ?_) | refine stepS (Qbs rfl rfl (by omega)) (k := ?_) | refine Qbd ?_ | refine Qbp ?_ | refine Qbf ?_ | refine Qbc ?_ | refine Qbl (ht := ?_) | refine Qbo (ht := fun q => ?_) (hf := fun q => ?_) | refine Qbj ?_ | refine Qbi ?_ | ((fail_if_success show ASeq _ _ _ _ ⟨_, (_, .d (.v (.bool true))) :: _, _⟩); (fail_if_success show ASeq _ _ _ _ ⟨_, (_, .d (.v (.bool false))) :: _, _⟩); refine splitS (fun q => ?_) (fun q => ?_))))
 all_goals simp only [decide_eq_true_eq, decide_eq_false_iff_not] at *
 all_goals first
  |exact Qbt (s.length - (k + 1)) (by omega) ⟨k + 1, by omega, rfl, Pm.hid (T.out (by omega) (by omega)), rfl⟩
  |(refine Qbn (hx := ?_); rw [F.out (by omega)])
abbrev dEnts (l : List Pl.Ent) : D := .sl false 2 (l.map rEnt)
abbrev tEnts (l : List Pl.Ent) : D := .sl true 2 (l.map rEnt)
theorem Qk6 (l : List Pl.Ent) (hl : l.length <= Pm.big) (hs : ∀ e ∈ l, e.1.length <= Pm.big) : Pure Tryz.prog 305 [dEnts l] (dB (Pl.Qag l)) := by
 simp only [Pm.big] at hl;have hd : Hid (Pl.Qag l = ((List.range l.length).all (Pl.Qa6 l) && decide (l.length <= 12))) := Pm.hid rfl
 (refine Qbk Tryz.func305 rfl Tryz.ntmps305 Tryz.results305 rfl ?_; simp only [parE, Nat.zero_add, Nat.reduceAdd])
 (repeat' (first | refine e1 (k := ?_) | refine Qbd ?_ | refine Qbf ?_ | refine Qbc ?_ | refine Qbi ?_ | fail))
 refine Qby (fun m st => ∃ k : Nat, k <= l.length /\ m = l.length - k /\ Hid ((List.range k).all (Pl.Qa6 l) = true) /\ st = ⟨47, [(3, .d (dI k)), (0, .d (dEnts l))], []⟩) [3, 0] 0 l.length ⟨0, by omega, rfl, Pm.hid rfl, rfl⟩ (round := ?_);rintro m st ⟨k, hk, rfl, hA, rfl⟩
 (repeat (first | refine e1 (k := ?_) | refine Qbd ?_ | refine Qbf ?_ | refine Qbc ?_ | fail))
 cases q3 : decide ((k : Int) < (l.length : Int))
 ·(repeat' (first | refine e1 (k := ?_) | refine Qbd ?_ | refine Qbf ?_ | refine Qbc ?_ | refine Qbm (hf := ?_) | refine Qbq ?_ | fail))
  refine Qbn (hx := ?_);have : k = l.length := by simp at q3; omega
  have h := hA.out;rw [this] at h;rw [hd.out, h];refine congrArg dB ?_;simp; omega
 have hk2 : k < l.length := by simp at q3; omega
 obtain ⟨x, hx⟩ : ∃ x, l[k]? = some x := ⟨_, List.getElem?_eq_getElem hk2⟩;have hr := Qbx (f := rEnt) hx;obtain ⟨y, hy⟩ : ∃ y, l[k - 1]? = some y := ⟨_, List.getElem?_eq_getElem (by omega)⟩
 have hr2 : Hid (0 < k -> (l.map rEnt)[((k : Int) - 1).toNat]? = some (rEnt y)) := fun h => by
  rw [show ((k : Int) - 1).toNat = k - 1 by omega, List.getElem?_map, hy]; rfl
 have he : Hid (Pl.Qa6 l k = (Pl.Qai x.1 && Pl.inR x.2 1 15 && (decide (k = 0) || Op.bytesLess y.1 x.1))) := Pm.hid (by
  unfold Pl.Qa6; simp only [List.getD_eq_getElem?_getD, hx, hy, Option.getD_some])
 have T : Hid (Pl.Qa6 l k = true -> (List.range (k + 1)).all (Pl.Qa6 l) = true) := fun h => Pl.Qb8 (p := Pl.Qa6 l) hA.out h
 have F : Hid (Pl.Qa6 l k = false -> Pl.Qag l = false) := fun h => by
  rw [hd.out, Pl.Qb5 (p := Pl.Qa6 l) hk2 h]; rfl
 have c1 := aNameOk x.1 (hs x (List.mem_of_getElem? hx));have c2 := al6In x.2 1 15;rw [he.out] at T F;clear hx hy hA hd he;generalize Pl.Qai x.1 = o1 at *
 generalize Pl.inR x.2 1 15 = o2 at *
 (repeat' (first | refine f1 (k := ?_) | refine e1 (k := ?_) | refine f0 (k := ?_) | refine stepD (Qbe Tryz.call208 c1 rfl) (k := ?_) | refine stepD (Qbe Tryz.call40 c2 rfl) (k := ?_) | refine stepD (Qbh Ty.h rfl Ty.h rfl rfl rfl (by omega) hr) (k := ?_) | refine stepD (Qbh Ty.h rfl Ty.h rfl rfl rfl (by simp only [decide_eq_true_eq] at *; omega) (hr2.out (by simp only [decide_eq_true_eq] at *; omega))) (k := ?_) | refine stepD (QfP rfl rfl) (k := ?_) | refine stepS (Qbs rfl rfl (by omega)) (k := ?_) | refine stepD (QbB rfl rfl (by omega)) (k := ?_) | refine Qbd ?_ | refine Qbp ?_ | refine Qbr ?_ | refine Qbf ?_ | refine Qbc ?_ | refine Qb1 follows_mixed (by kernel_rfl) (by kernel_rfl) ?_ | refine Qbl (ht := ?_) | refine Qbm (hf := ?_) | refine Qbo (ht := fun q => ?_) (hf := fun q => ?_) | refine Qbj ?_ | refine Qbi ?_ | ((fail_if_success show ADraw _ _ _ _ ⟨_, (_, .d (.v (.bool true))) :: _, _⟩); (fail_if_success show ADraw _ _ _ _ ⟨_, (_, .d (.v (.bool false))) :: _, _⟩); refine splitD (fun q => ?_) (fun q => ?_))))
 all_goals clear c1 c2 hr hr2
 all_goals simp only [decide_eq_true_eq, decide_eq_false_iff_not] at *
 all_goals first
  |(refine Qbt (l.length - (k + 1)) (by omega) ⟨k + 1, by omega, rfl, Pm.hid (T.out ?_), rfl⟩; clear T F; simp_all; try omega)
  |(refine Qbn (hx := ?_); rw [F.out ?_]; clear T F; simp_all; try omega)
theorem Qh2 {l : List Pl.Ent} (h : Pl.Qag l = true) : ∀ e ∈ l, e.1.length <= 4 := fun e he => by
 have := (ent_b h e he).1;unfold Pl.Qai at this;simp at this; omega
theorem Qi1 {l : List Pl.Ent} (h : ∀ e ∈ l, e.1.length <= 4 /\ 0 <= e.2 /\ e.2 <= 15) : (Pl.Qaj l).length <= l.length * 20 := by
 induction l with
 |nil => simp [Pl.Qaj]
 |cons e l ih =>
  have h1 := h e List.mem_cons_self;have h2 := Pl.Qbv 8 e.2.toNat (by omega);have ih := ih fun x hx => h x (List.mem_cons_of_mem _ hx)
  have e1 : Pl.Qaj (e :: l) = Pl.Qay e ++ 59 :: Pl.Qaj l := by simp [Pl.Qaj]
  rw [e1];unfold Pl.Qay;simp; omega
theorem al12Put (l : List Pl.Ent) (h : Pl.Qag l = true) : Pure Tryz.prog 306 [dEnts l] (dS (Pl.Qaj l)) := by
 have hb : ∀ e ∈ l, e.1.length <= 4 /\ 0 <= e.2 /\ e.2 <= 15 := fun e he => by have := Qh2 h e he; have := ent_b h e he; omega
 have hl : l.length <= 12 := by unfold Pl.Qag at h; rw [Bool.and_eq_true, decide_eq_true_eq] at h; exact h.2
 clear h
 (refine Qbk Tryz.func306 rfl Tryz.ntmps306 Tryz.results306 rfl ?_; simp only [parE, Nat.zero_add, Nat.reduceAdd])
 (repeat' (first | refine e1 (k := ?_) | refine Qbd ?_ | refine Qbf ?_ | refine Qbc ?_ | refine Qbi ?_ | fail))
 refine Qby (fun m st => ∃ k : Nat, k <= l.length /\ m = l.length - k /\ st = ⟨28, [(3, .d (dS (Pl.Qaj (l.take k)))), (4, .d (dI k)), (0, .d (dEnts l))], []⟩) [3, 4, 0] 0 l.length ⟨0, by omega, rfl, rfl⟩ (round := ?_);rintro m st ⟨k, hk, rfl, rfl⟩
 (repeat (first | refine e1 (k := ?_) | refine Qbd ?_ | refine Qbf ?_ | refine Qbc ?_ | fail))
 cases q3 : decide ((k : Int) < (l.length : Int))
 ·(repeat' (first | refine e1 (k := ?_) | refine Qbd ?_ | refine Qbf ?_ | refine Qbc ?_ | refine Qbm (hf := ?_) | refine Qbq ?_ | fail))
  refine Qbn (hx := ?_);have : k = l.length := by simp at q3; omega
  rw [this, List.take_length]
 have hk2 : k < l.length := by simp at q3; omega
 obtain ⟨x, hx⟩ : ∃ x, l[k]? = some x := ⟨_, List.getElem?_eq_getElem hk2⟩;have hr := Qbx (f := rEnt) hx;have hlen := Qi1 (l := l.take k) fun e he => hb e (List.mem_of_mem_take he)
 rw [List.length_take] at hlen;have hxb := hb x (List.mem_of_getElem? hx);have T : Hid (Pl.Qaj (l.take (k + 1)) = Pl.Qaj (l.take k) ++ x.1 ++ [61] ++ Pl.dec x.2.toNat ++ [59]) := Pm.hid (by rw [List.take_add_one, hx]; simp [Pl.Qaj, Pl.Qay]);have hdl := Pl.Qbv 8 x.2.toNat (by omega);have c := al6Dec x.2.toNat (by omega);rw [show ((x.2.toNat : Nat) : Int) = x.2 by omega] at c;clear hx hb;generalize Pl.Qaj (l.take k) = out at *
 generalize Pl.dec x.2.toNat = d at *
 obtain ⟨nm, id⟩ := x;simp only at hxb c T hr
 (repeat' (first | refine f1 (k := ?_) | refine e1 (k := ?_) | refine stepD (Qbe Tryz.call260 c rfl) (k := ?_) | refine stepD (Qbh Ty.h rfl Ty.h rfl rfl rfl (by omega) hr) (k := ?_) | refine stepD (QbJ (m := [61]) rfl rfl (by first | omega | (simp; omega))) (k := ?_) | refine stepD (QbJ (m := [59]) rfl rfl (by first | omega | (simp; omega))) (k := ?_) | refine stepD (QbJ rfl rfl (by first | omega | (simp; omega))) (k := ?_) | refine stepS (Qbs rfl rfl (by omega)) (k := ?_) | refine Qbp ?_ | refine Qbr ?_ | refine Qbf ?_ | refine Qbc ?_ | refine Qb1 follows_mixed (by kernel_rfl) (by kernel_rfl) ?_ | refine Qbl (ht := ?_) | refine Qbj ?_ | refine Qbi ?_ | fail))
 refine Qbt (l.length - (k + 1)) (by omega) ⟨k + 1, by omega, rfl, ?_⟩;simp [keepE, go_sem, T.out]
theorem Qi3 {x : List UInt8} {e : Pl.Ent} (h : Pl.Qa0 x = some e) : e.1.length <= x.length := by
 unfold Pl.Qa0 at h;split at h
 ·rename_i a b hc
  obtain rfl := Option.some.inj h;exact (QdF 61 x).2 a (by rw [hc]; simp)
 ·cases h
theorem QiG (s : List UInt8) (hs : s.length <= 1000000000000) : Pure Tryz.prog 253 [dS s] (.tup [tEnts (Pl.eg s).1, dB (Pl.eg s).2]) := by
 have cw := al2Cut s 59 hs;have hW := QdF 59 s;have hne := Pl.Qi5 59 s;have hread := fun m => QlI (s := s) (m := m)
 have hbad := fun k x => eg_bad (s := s) (k := k) (x := x)
 generalize Pl.cutB 59 s = w at *
 have hw1 : 0 < w.length := List.length_pos_iff.2 hne;clear hne;have hread := Pm.hid hread;have hbad := Pm.hid hbad
 (refine Qbk Tryz.func253 rfl Tryz.ntmps253 Tryz.results253 rfl ?_; simp only [parE, Nat.zero_add, Nat.reduceAdd])
 (repeat' (first | refine e1 (k := ?_) | refine stepS (Qbe Tryz.call250 cw rfl) (k := ?_) | refine stepS2 (Qbz Ty.h rfl Ty.h) (k := ?_) | refine Qbd ?_ | refine Qbf ?_ | refine Qbc ?_ | refine Qbi ?_ | fail))
 refine Qby (fun m st => ∃ (k g : Nat) (out : List Pl.Ent), k + 1 <= w.length /\ m = w.length - k /\ out.length = k /\ Hid (∀ (i : Nat) e, out[i]? = some e -> ∃ x, w[i]? = some x /\ Pl.Qa0 x = some e) /\
  st = ⟨55, [(4, .osl 0 g 0 out.length), (5, .d (tStrs w)), (6, .d (dI k)), (0, .d (dS s))], [.arr g 2 251 (out.map rEnt)]⟩) [4, 5, 6, 0] 1 w.length ⟨0, 0, [], by omega, rfl, rfl, Pm.hid (by simp), rfl⟩ (round := ?_)
 rintro m st ⟨k, g, out, hk, rfl, hlen, hO, rfl⟩
 (repeat (first | refine e1 (k := ?_) | refine Qbf ?_ | refine Qbc ?_ | fail))
 cases q3 : decide ((k : Int) + 1 < (w.length : Int))
 ·have hk3 : out.length + 1 = w.length := by simp at q3; omega
  have hg := Pm.hid (hread.out out hk3 hO.out)
  have hel : ∀ e ∈ out, e.1.length <= Pm.big := fun e he => by
   obtain ⟨i, hi⟩ := List.getElem?_of_mem he;obtain ⟨x, hx, hx2⟩ := hO.out i e hi;have := Qi3 hx2;have := hW.2 x (List.mem_of_getElem? hx);unfold Pm.big; omega
  have ce := (Qk6 out (by unfold Pm.big; omega) hel).arg (l := [tEnts out]);cases hE : Pl.Qag out
  ·rw [hE] at ce
   clear hread hbad hO hel
   (repeat' (first | refine e1 (k := ?_) | refine stepS (Qbs rfl rfl (by omega)) (k := ?_) | refine Qbd ?_ | refine Qbf ?_ | refine Qbc ?_ | refine Qbo (ht := fun q => ?_) (hf := fun q => ?_) | refine Qbj ?_ | refine Qbi ?_ | refine Qbq ?_ | fail))
   ·rw [q3] at q; cases q
   refine QcH 0 (h := ?_)
   (repeat' (first | refine e1 (k := ?_) | refine e0 (k := ?_) | refine stepS (Qbe Tryz.call305 ce rfl) (k := ?_) | refine stepS2 (Qbz Ty.h rfl Ty.h) (k := ?_) | refine Qbd ?_ | refine Qbf ?_ | refine Qbc ?_ | refine Qbl (ht := ?_) | fail))
   (refine Qbg 1 (h := ?_); refine Qbn (hx := ?_))
   rw [hg.out, hE]; rfl
  ·rw [hE] at ce
   have cp := (al12Put out hE).arg (l := [tEnts out]);clear hread hbad hO hel;generalize Pl.Qaj out = t at *
   (repeat' (first | refine e1 (k := ?_) | refine stepS (Qbs rfl rfl (by omega)) (k := ?_) | refine Qbd ?_ | refine Qbf ?_ | refine Qbc ?_ | refine Qbo (ht := fun q => ?_) (hf := fun q => ?_) | refine Qbj ?_ | refine Qbi ?_ | refine Qbq ?_ | fail))
   ·rw [q3] at q; cases q
   refine QcH 0 (h := ?_)
   (repeat' (first | refine e1 (k := ?_) | refine stepS (Qbe Tryz.call305 ce rfl) (k := ?_) | refine stepS (Qbe Tryz.call306 cp rfl) (k := ?_) | refine stepS (QbH rfl rfl) (k := ?_) | refine stepS2 (Qbz Ty.h rfl Ty.h) (k := ?_) | refine Qbd ?_ | refine Qbf ?_ | refine Qbc ?_ | refine Qbo (ht := fun q => ?_) (hf := fun q => ?_) | refine Qbj ?_ | fail))
   all_goals
    (first | refine Qbn (hx := ?_) | (refine Qbg 1 (h := ?_); refine Qbn (hx := ?_)))
    rw [hg.out, hE]
    simp_all
 have hk2 : k < w.length := by omega
 obtain ⟨x, hx⟩ : ∃ x, w[k]? = some x := ⟨_, List.getElem?_eq_getElem hk2⟩;have hr := Qbx (f := fun s => [dS s]) hx;have hxl := hW.2 x (List.mem_of_getElem? hx);have cx := al2Cut x 61 (by omega);have hpl := (QdF 61 x).2;have hF := Pm.hid (hbad.out k x (by simp at q3; omega) hx)
 have hT : Hid (∀ e, Pl.Qa0 x = some e -> ∀ (i : Nat) e', (out ++ [e])[i]? = some e' -> ∃ x, w[i]? = some x /\ Pl.Qa0 x = some e') := fun e he i e' hi => by
  rcases Nat.lt_or_ge i out.length with h | h
  ·rw [List.getElem?_append_left h] at hi; exact hO.out i e' hi
  ·have : i = out.length := by have := (List.getElem?_eq_some_iff.1 hi).1; simp at this; omega
   subst this;rw [List.getElem?_append_right (Nat.le_refl _)] at hi;simp at hi; subst hi;rw [hlen];exact ⟨x, hx, he⟩
 have her : Hid (Pl.Qa0 x = match Pl.cutB 61 x with | [a, b] => some (a, ((Pl.numGet b).getD 0 : Nat)) | _ => none) := Pm.hid rfl;clear hx hread hbad hO;generalize Pl.cutB 61 x = p at *
 by_cases h2 : p.length = 2
 ·match p, h2 with
  |[a, b], _ =>
  have cn := aNumGet b (by have := hpl b (by simp); unfold Pm.big; omega);have hT2 := Pm.hid (hT.out _ her.out);clear hT her hF;generalize (Pl.numGet b).getD 0 = nb at *
  (repeat' (first | refine e1 (k := ?_) | refine stepS (Qbe Tryz.call250 cx rfl) (k := ?_) | refine stepS (Qbe Tryz.call188 cn rfl) (k := ?_) | refine stepS (Qbh Ty.h rfl Ty.h rfl rfl rfl (by omega) hr) (k := ?_) | refine stepS (Qbh Ty.h rfl Ty.h rfl rfl rfl (by omega) rfl) (k := ?_) | refine QbO Ty.h rfl Ty.h (hb := ?_) (kk := ?_) | refine stepS (Qbs rfl rfl (by omega)) (k := ?_) | refine stepS2 (Qbz Ty.h rfl Ty.h) (k := ?_) | refine Qbd ?_ | refine Qbp ?_ | refine Qb0 ?_ | refine Qbf ?_ | refine Qbc ?_ | refine Qbm (hf := ?_) | refine Qbo (ht := fun q => ?_) (hf := fun q => ?_) | refine Qbj ?_ | refine Qbi ?_ | refine Qbq ?_ | fail))
  ·simp; omega
  rotate_left
  ·rw [q3] at q; cases q
  ·simp only [decide_eq_true_eq] at q3
   refine Qbt (w.length - (k + 1)) (by omega) ⟨k + 1, g + 1, out ++ [(a, (nb : Int))], by omega, rfl, by simp [hlen], Pm.hid hT2.out, ?_⟩;simp [keepE, go_sem]
 ·have hn : Pl.Qa0 x = none := by
   rw [her.out];split
   ·exact absurd rfl h2
   ·rfl
  have hF2 := Pm.hid (hF.out hn);clear hT her hF hn
  (repeat' (first | refine e1 (k := ?_) | refine stepS (Qbe Tryz.call250 cx rfl) (k := ?_) | refine stepS (Qbh Ty.h rfl Ty.h rfl rfl rfl (by omega) hr) (k := ?_) | refine stepS (Qbs rfl rfl (by omega)) (k := ?_) | refine stepS2 (Qbz Ty.h rfl Ty.h) (k := ?_) | refine Qbd ?_ | refine Qbf ?_ | refine Qbc ?_ | refine Qbo (ht := fun q => ?_) (hf := fun q => ?_) | refine Qbj ?_ | refine Qbi ?_ | refine Qbq ?_ | fail))
  all_goals first
   |(exfalso; rw [q3] at q; cases q)
   |(exfalso; simp only [bne_eq_false_iff_eq] at *; omega)
   |((refine Qbg 1 (h := ?_); refine Qbn (hx := ?_)); rw [hF2.out]; rfl)
end Aw
end
end Go.Proofs.YtdjkdcokjoiokaaGreatDoor

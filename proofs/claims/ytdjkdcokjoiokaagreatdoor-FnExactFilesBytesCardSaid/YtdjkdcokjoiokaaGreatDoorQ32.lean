/- Part 32 of the proof of bytes_card: contracts, walks, plain laws; no condition is assumed beyond those that a statement names. -/
import Derived.Test.YtdjkdcokjoiokaaGreatDoorQ26
set_option linter.all false
namespace Go.Proofs.YtdjkdcokjoiokaaGreatDoor
namespace Gr
variable {kind : Nat -> Nat} {ch : Nat -> Option (List Nat)}
theorem FD.ne0 (h0 : ∀ k cs, ch k = some cs -> ∀ e ∈ cs, e ≠ 0) {es L : List Nat} (h : FD kind ch es L) : (∀ e ∈ es, e ≠ 0) -> 0 ∉ L := by
 induction h with
 |nil => intro _ h; cases h
 |file hk h ih =>
  intro he hm
  rcases List.mem_cons.1 hm with e | hm
  ·exact he _ List.mem_cons_self e.symm
  ·exact ih (fun e h => he e (List.mem_cons_of_mem _ h)) hm
 |dir hk hc h1 h2 ih1 ih2 =>
  intro he hm
  rcases List.mem_cons.1 hm with e | hm
  ·exact he _ List.mem_cons_self e.symm
  ·rcases List.mem_append.1 hm with hm | hm
   ·exact ih1 (h0 _ _ hc) hm
   ·exact ih2 (fun e h => he e (List.mem_cons_of_mem _ h)) hm
structure Nodes (kind : Nat -> Nat) (ch : Nat -> Option (List Nat)) (links : Nat -> Nat) (m : Nat) : Prop where
 root : kind 0 = 2
 le : ∀ k, kind k <= 2
 lt : ∀ k, kind k ≠ 0 -> k < m
 m16 : m <= 16
 lnk : ∀ k, kind k ≠ 0 -> 1 <= links k /\ links k <= 9
 one : ∀ k, kind k = 2 -> links k = 1
 ne0 : ∀ k cs, ch k = some cs -> ∀ e ∈ cs, e ≠ 0
theorem QmZ {links : Nat -> Nat} {m : Nat} (hn : Nodes kind ch links m) :
 (∃ L, FD kind ch [0] L /\ L.length <= 144 /\ ∀ k, kind k ≠ 0 -> L.count k = links k) ↔
 ((∀ k, kind k = 2 -> ∃ cs, ch k = some cs) /\ ∃ nm, bfs kind ch (1 + left kind m []) [0] [] = some nm /\ ∀ k, k ≠ 0 -> kind k ≠ 0 -> nm.count k = links k) := by
 constructor
 ·rintro ⟨L, h, hl, hc⟩
  cases h with
  |file hk _ => rw [hn.root] at hk; cases hk
  |@dir k cs es L1 L2 hk hcs h1 h2 =>
   cases h2
   rw [List.append_nil] at hc
   have hcc : ∀ k, k ≠ 0 -> (0 :: L1).count k = L1.count k := fun k hk => by rw [List.count_cons]; simp; exact fun e => hk e.symm
   refine ⟨fun k hk => ?_, ?_⟩
   ·have hkm : k ∈ 0 :: L1 := List.count_pos_iff.1 (by rw [hc k (by omega), hn.one k hk]; decide)
    rcases List.mem_cons.1 hkm with rfl | hkm
    ·exact ⟨cs, hcs⟩
    ·rcases h1.kinds k hkm with h | ⟨_, h⟩
     ·omega
     ·exact Option.isSome_iff_exists.1 h
   ·have hone : ∀ k, kind k = 2 -> L1.count k <= 1 := fun k hk => by
     have h1 := hc k (by omega)
     rw [hn.one k hk, List.count_cons] at h1
     omega
    obtain ⟨nm, g1, g2⟩ := QmF (ch := ch) (m := m) (fun k hk => hn.lt k (by omega)) hone (n := 1 + left kind m []) (nm := []) (.cons hk hcs h1 .nil) (by simp) fun k => by simp
    refine ⟨nm, g1, fun k hk0 hk => ?_⟩
    rw [g2 k]
    have := hc k hk
    rw [hcc k hk0] at this
    simpa using this
 ·rintro ⟨hch, nm, hb, hc⟩
  obtain ⟨L, ht, hL⟩ := Qml hn.le hch hb (by simp [hn.root])
  cases ht with
  |@cons f es t L1 L2 hk hcs h1 h2 =>
   cases h2
   have hz := h1.ne0 hn.ne0 (hn.ne0 _ _ hcs)
   have hcount : ∀ k, kind k ≠ 0 -> (0 :: (L1 ++ [])).count k = links k := fun k hk' => by
    by_cases h0 : k = 0
    ·subst h0
     rw [List.count_cons, List.append_nil, List.count_eq_zero_of_not_mem hz, hn.one 0 hn.root]; rfl
    ·rw [List.count_cons]
     have := hL k
     rw [hc k h0 hk'] at this
     have h2 : (0 == k) = false := by simpa using fun e => h0 e.symm
     rw [h2]; simpa using this.symm
   have hfd : FD kind ch [0] (0 :: (L1 ++ [])) := .dir hk hcs h1 .nil
   refine ⟨_, hfd, ?_, hcount⟩
   have hlt : ∀ k ∈ 0 :: (L1 ++ []), k < m := fun k hk => hn.lt k (by rcases hfd.kinds k hk with h | ⟨h, _⟩ <;> omega)
   rw [Qgk m _ hlt]
   refine Nat.le_trans (Qon 9 _ m fun k hk => ?_) (by have := hn.m16; omega)
   by_cases hk0 : kind k = 0
   ·rw [List.count_eq_zero_of_not_mem]
    ·omega
    ·intro hm; rcases hfd.kinds k hm with h | ⟨h, _⟩ <;> omega
   ·rw [hcount k hk0]; exact (hn.lnk k hk0).2
abbrev It := List (List UInt8) × Nat
abbrev En := List (List UInt8 × Nat)
def kids (p : List (List UInt8)) (es : En) : List It := es.map fun e => (p ++ [e.1], e.2)
inductive FP (kind : Nat -> Nat) (en : Nat -> Option En) : List It -> List It -> Prop
 |nil : FP kind en [] []
 |file {p : List (List UInt8)} {k : Nat} {r L : List It} : kind k = 1 -> FP kind en r L -> FP kind en ((p, k) :: r) ((p, k) :: L)
 |dir {p : List (List UInt8)} {k : Nat} {es : En} {r L1 L2 : List It} : kind k = 2 -> en k = some es -> FP kind en (kids p es) L1 -> FP kind en r L2 -> FP kind en ((p, k) :: r) ((p, k) :: (L1 ++ L2))
variable {en : Nat -> Option En}
def chOf (en : Nat -> Option En) (k : Nat) : Option (List Nat) := (en k).map (·.map (·.2))
theorem QjC (p : List (List UInt8)) (es : En) : (kids p es).map (·.2) = es.map (·.2) := by simp [kids]
theorem FP.fd {r L : List It} (h : FP kind en r L) : FD kind (chOf en) (r.map (·.2)) (L.map (·.2)) := by
 induction h with
 |nil => exact .nil
 |file hk h ih => exact .file hk ih
 |dir hk he h1 h2 ih1 ih2 =>
  rw [QjC] at ih1
  have := FD.dir hk (by unfold chOf; rw [he]; rfl) ih1 ih2
  simpa using this
theorem Qn6 {ks M : List Nat} (h : FD kind (chOf en) ks M) : ∀ {r : List It}, r.map (·.2) = ks -> ∃ L, FP kind en r L /\ L.map (·.2) = M := by
 induction h with
 |nil => intro r hr; rw [List.map_eq_nil_iff] at hr; subst hr; exact ⟨[], .nil, rfl⟩
 |file hk h ih =>
  intro r hr
  match r, hr with
  |(p, k) :: r, hr =>
   simp only [List.map_cons, List.cons.injEq] at hr
   obtain ⟨rfl, hr2⟩ := hr
   obtain ⟨L, h1, h2⟩ := ih hr2
   exact ⟨_, .file hk h1, by simp [h2]⟩
 |dir hk hc h1 h2 ih1 ih2 =>
  intro r hr
  match r, hr with
  |(p, k) :: r, hr =>
   simp only [List.map_cons, List.cons.injEq] at hr
   obtain ⟨rfl, hr2⟩ := hr
   unfold chOf at hc
   obtain ⟨es, he, rfl⟩ := Option.map_eq_some_iff.1 hc
   obtain ⟨La, g1, g2⟩ := ih1 (QjC p es)
   obtain ⟨Lb, g3, g4⟩ := ih2 hr2
   exact ⟨_, .dir hk he g1 g3, by simp [g2, g4]⟩
theorem FP.pre {r L : List It} (h : FP kind en r L) : ∀ x ∈ L, ∃ y ∈ r, y.1 <+: x.1 := by
 induction h with
 |nil => intro x hx; cases hx
 |file hk h ih =>
  intro x hx
  rcases List.mem_cons.1 hx with rfl | hx
  ·exact ⟨_, List.mem_cons_self, List.prefix_refl _⟩
  ·obtain ⟨y, hy, h⟩ := ih x hx; exact ⟨y, List.mem_cons_of_mem _ hy, h⟩
 |dir hk he h1 h2 ih1 ih2 =>
  intro x hx
  rcases List.mem_cons.1 hx with rfl | hx
  ·exact ⟨_, List.mem_cons_self, List.prefix_refl _⟩
  ·rcases List.mem_append.1 hx with hx | hx
   ·obtain ⟨y, hy, h⟩ := ih1 x hx
    unfold kids at hy
    obtain ⟨e, _, rfl⟩ := List.mem_map.1 hy
    exact ⟨_, List.mem_cons_self, List.IsPrefix.trans (List.prefix_append _ _) h⟩
   ·obtain ⟨y, hy, h⟩ := ih2 x hx; exact ⟨y, List.mem_cons_of_mem _ hy, h⟩
theorem FP.split : ∀ {a b L : List It}, FP kind en (a ++ b) L -> ∃ La Lb, L = La ++ Lb /\ FP kind en a La /\ FP kind en b Lb
 |[], b, L, h => ⟨[], L, rfl, .nil, h⟩
 |(p, k) :: a, b, L, h => by
  cases h with
  |file hk h =>
   obtain ⟨La, Lb, rfl, h1, h2⟩ := h.split
   exact ⟨_, Lb, (List.cons_append ..).symm, .file hk h1, h2⟩
  |dir hk he h1 h2 =>
   obtain ⟨La, Lb, rfl, h3, h4⟩ := h2.split
   exact ⟨_, Lb, by simp, .dir hk he h1 h3, h4⟩
def find (kind : Nat -> Nat) (en : Nat -> Option En) : Nat -> List (List UInt8) -> Option Nat
 |k, [] => some k
 |k, n :: q => if kind k = 2 then ((en k).getD []).find? (fun e => e.1 == n) |>.bind fun e => find kind en e.2 q else none
theorem pre_ne {α : Type} {p x q : List α} {a b : α} (h1 : p ++ [a] <+: x) (h2 : p ++ b :: q <+: x) : a = b := by
 obtain ⟨r, rfl⟩ := h1
 obtain ⟨s, hs⟩ := h2
 rw [List.append_assoc, List.append_assoc] at hs
 have := List.append_cancel_left hs
 simp at this
 exact this.1.symm
theorem QkF {q : List (List UInt8)} : ∀ {p : List (List UInt8)} {k j : Nat} {L : List It}, (∀ k es, en k = some es -> (es.map (·.1)).Nodup) -> FP kind en [(p, k)] L -> find kind en k q = some j ->
 ∃ M, FD kind (chOf en) [j] M /\ ∀ i, (∃ x ∈ L, x.2 = i /\ p ++ q <+: x.1) ↔ i ∈ M := by
 induction q with
 |nil =>
  intro p k j L hnd h hf
  simp only [find, Option.some.injEq] at hf
  subst hf
  refine ⟨_, h.fd, fun i => ?_⟩
  rw [List.append_nil, List.mem_map]
  constructor
  ·rintro ⟨x, hx, rfl, _⟩; exact ⟨x, hx, rfl⟩
  ·rintro ⟨x, hx, rfl⟩
   obtain ⟨y, hy, hp⟩ := h.pre x hx
   rw [List.mem_singleton] at hy; subst hy
   exact ⟨x, hx, rfl, hp⟩
 |cons n q ih =>
  intro p k j L hnd h hf
  unfold find at hf
  split at hf
  rotate_left
  ·cases hf
  obtain ⟨e, he, hf⟩ := Option.bind_eq_some_iff.1 hf
  cases h with
  |file hk' h => omega
  |@dir _ _ es _ L1 L2 hk' hes h1 h2 =>
   cases h2
   rw [hes, Option.getD_some] at he
   have hn := List.find?_some he
   simp only [beq_iff_eq] at hn
   obtain ⟨es1, es2, rfl⟩ := List.append_of_mem (List.mem_of_find?_eq_some he)
   have hnd' := hnd k _ hes
   have hk3 : kids p (es1 ++ e :: es2) = kids p es1 ++ ([(p ++ [e.1], e.2)] ++ kids p es2) := by simp [kids]
   rw [hk3] at h1
   obtain ⟨La, Lr, rfl, g1, g2⟩ := h1.split
   obtain ⟨Le, Lb, rfl, g3, g4⟩ := g2.split
   obtain ⟨M, hM, hi⟩ := ih hnd g3 hf
   refine ⟨M, hM, fun i => ?_⟩
   rw [<- hi i]
   have hno : ∀ es' : En, e.1 ∉ es'.map (·.1) -> ∀ L', FP kind en (kids p es') L' -> ∀ x ∈ L', ¬ p ++ n :: q <+: x.1 := by
    intro es' hne L' hL' x hx hp
    obtain ⟨y, hy, hyp⟩ := hL'.pre x hx
    unfold kids at hy
    obtain ⟨e', he', rfl⟩ := List.mem_map.1 hy
    have := pre_ne hyp hp
    exact hne (List.mem_map.2 ⟨e', he', by rw [this, hn]⟩)
   rw [List.map_append, List.map_cons, List.nodup_append] at hnd'
   obtain ⟨_, hnd2, hdis⟩ := hnd'
   have hna : e.1 ∉ es1.map (·.1) := fun h => hdis _ h _ List.mem_cons_self rfl
   have hnb : e.1 ∉ es2.map (·.1) := (List.nodup_cons.1 hnd2).1
   constructor
   ·rintro ⟨x, hx, rfl, hp⟩
    rw [List.append_nil] at hx
    rcases List.mem_cons.1 hx with rfl | hx
    ·exfalso
     obtain ⟨s, hs⟩ := hp
     have := congrArg List.length hs
     simp at this
    ·rcases List.mem_append.1 hx with hx | hx
     ·exact absurd hp (hno _ hna _ g1 x hx)
     ·rcases List.mem_append.1 hx with hx | hx
      ·exact ⟨x, hx, rfl, by rw [List.append_assoc, List.singleton_append, hn]; exact hp⟩
      ·exact absurd hp (hno _ hnb _ g4 x hx)
   ·rintro ⟨x, hx, rfl, hp⟩
    rw [List.append_assoc, List.singleton_append, hn] at hp
    exact ⟨x, by simp [hx], rfl, hp⟩
end Gr
end Go.Proofs.YtdjkdcokjoiokaaGreatDoor
namespace Go.Proofs.YtdjkdcokjoiokaaGreatDoor
namespace Aw
noncomputable def Pl.Qa8 (s : Pm.Store) (t : Pl.Tree) : Bool := Pl.Qah s t && (Pl.Qaa s t).all fun x => (x == []) || ((Pl.ng x).2 && Pl.Qah s (Pl.ng x).1.tree)
noncomputable def Pl.Qab (s : Pm.Store) (t : Pl.Tree) : List Pl.Node := (Pl.Qaa s t).map fun x => (Pl.ng x).1
def Pl.Qay (l : List (List UInt8)) (k : Nat) : Bool := !(l.getD k [] == []) && (decide (k + 1 = l.length) || decide ((l.getD k []).length = 128))
def Pl.blob (l : List (List UInt8)) : List UInt8 × Bool := if (List.range l.length).all (Pl.Qay l) then (l.flatten, true) else ([], false)
noncomputable def Pl.ents (s : Pm.Store) (n : Pl.Node) : List Pl.Ent × Bool :=
 if Pl.Qaq n && (n.kind == 2) && Pl.Qah s n.tree && (Pl.blob (Pl.Qaa s n.tree)).2 && decide (((Pl.blob (Pl.Qaa s n.tree)).1.length : Int) = n.size) then Pl.eg (Pl.blob (Pl.Qaa s n.tree)).1 else ([], false)
def Pl.long (size : Int) (k : Nat) : Int := if size - k * 12 < 12 then size - k * 12 else 12
def Pl.Qa5 (size : Int) (l : List (List UInt8)) (k : Nat) : Bool := decide (((l.getD k []).length : Int) <= Pl.long size k) && (Pl.cut0 (l.getD k []) == l.getD k [])
noncomputable def Pl.Qax (s : Pm.Store) (n : Pl.Node) : Bool :=
 Pl.Qaq n && (n.kind == 1) && Pl.Qah s n.tree && (List.range n.tree.many.toNat).all (Pl.Qa5 n.size (Pl.Qaa s n.tree))
abbrev Pl.Fnd := List (List UInt8) × Int
def Pl.Qat (p : List (List UInt8)) : List UInt8 := if p = [] then [47] else p.flatMap (47 :: ·)
abbrev rFnd (x : Pl.Fnd) : List D := [dS (Pl.Qat x.1), dI x.2]
noncomputable def Pl.wk (ns : List Pl.Node) (E : Pl.Node -> List Pl.Ent × Bool) : Nat -> Pl.Fnd -> List Pl.Fnd -> List Pl.Fnd × Bool
 |0, _, out => (out, false)
 |n + 1, at', out =>
  if 144 < out.length + 1 ∨ Pl.inR at'.2 0 (ns.length - 1) = false ∨ (ns.getD at'.2.toNat Pl.zn).kind = 0 then (out ++ [at'], false) else
  if (ns.getD at'.2.toNat Pl.zn).kind = 1 then (out ++ [at'], true) else
  (E (ns.getD at'.2.toNat Pl.zn)).1.foldl (fun r e => if r.2 then Pl.wk ns E n (at'.1 ++ [e.1], e.2) r.1 else r) (out ++ [at'], (E (ns.getD at'.2.toNat Pl.zn)).2)
noncomputable def Pl.wks (ns : List Pl.Node) (E : Pl.Node -> List Pl.Ent × Bool) (n : Nat) (p : List (List UInt8)) (l : List Pl.Ent) (r : List Pl.Fnd × Bool) : List Pl.Fnd × Bool :=
 l.foldl (fun r e => if r.2 then Pl.wk ns E n (p ++ [e.1], e.2) r.1 else r) r
theorem QeR (ns : List Pl.Node) (E : Pl.Node -> List Pl.Ent × Bool) (n : Nat) (p : List (List UInt8)) : ∀ (l : List Pl.Ent) (out : List Pl.Fnd), Pl.wks ns E n p l (out, false) = (out, false)
 |[], _ => rfl
 |e :: l, out => by unfold Pl.wks; rw [List.foldl_cons]; exact QeR ns E n p l out
theorem Qdn (ns : List Pl.Node) (E : Pl.Node -> List Pl.Ent × Bool) (n : Nat) (p : List (List UInt8)) (e : Pl.Ent) (l : List Pl.Ent) (out : List Pl.Fnd) : Pl.wks ns E n p (e :: l) (out, true) = Pl.wks ns E n p l (Pl.wk ns E n (p ++ [e.1], e.2) out) := by
 unfold Pl.wks; rw [List.foldl_cons]; rfl
theorem Qlm (ns : List Pl.Node) (E : Pl.Node -> List Pl.Ent × Bool) : ∀ (n : Nat) (x : Pl.Fnd) (out : List Pl.Fnd), out.length <= (Pl.wk ns E n x out).1.length /\ (0 < n -> out.length < (Pl.wk ns E n x out).1.length)
 |0, x, out => ⟨Nat.le_refl _, fun h => absurd h (by decide)⟩
 |n + 1, x, out => by
  have hf : ∀ (l : List Pl.Ent) (r : List Pl.Fnd × Bool), r.1.length <= (Pl.wks ns E n x.1 l r).1.length := by
   intro l
   induction l with
   |nil => intro r; exact Nat.le_refl _
   |cons e l ih =>
    rintro ⟨o, b⟩
    cases b
    ·rw [QeR]; exact Nat.le_refl _
    ·rw [Qdn]; exact Nat.le_trans (Qlm ns E n _ o).1 (ih _)
  have h : out.length < (Pl.wk ns E (n + 1) x out).1.length := by
   unfold Pl.wk
   split
   ·simp
   ·split
    ·simp
    ·exact Nat.lt_of_lt_of_le (by simp) (hf _ _)
  exact ⟨by omega, fun _ => h⟩
def Pl.Qad (ns : List Pl.Node) (k : Nat) : Nat := (ns.getD k Pl.zn).kind.toNat
noncomputable def Pl.enF (ns : List Pl.Node) (E : Pl.Node -> List Pl.Ent × Bool) (k : Nat) : Option Gr.En := if (E (ns.getD k Pl.zn)).2 then some ((E (ns.getD k Pl.zn)).1.map fun e => (e.1, e.2.toNat)) else none
structure Pl.NsOk (ns : List Pl.Node) (E : Pl.Node -> List Pl.Ent × Bool) : Prop where
 kind : ∀ n ∈ ns, n.kind = 0 ∨ n.kind = 1 ∨ n.kind = 2
 ids : ∀ n, ∀ e ∈ (E n).1, 0 <= e.2
theorem Qcy {ns : List Pl.Node} {E : Pl.Node -> List Pl.Ent × Bool} (h : Pl.NsOk ns E) (k : Nat) : (ns.getD k Pl.zn).kind = 0 ∨ (ns.getD k Pl.zn).kind = 1 ∨ (ns.getD k Pl.zn).kind = 2 := by
 rw [List.getD_eq_getElem?_getD]
 cases hk : ns[k]? with
 |none => exact .inl rfl
 |some n => exact h.kind n (List.mem_of_getElem? hk)
theorem Qce {ns : List Pl.Node} {k : Nat} (h : Pl.Qad ns k ≠ 0) : k < ns.length := by
 rcases Nat.lt_or_ge k ns.length with h1 | h1
 ·exact h1
 ·exfalso; apply h
  unfold Pl.Qad
  rw [List.getD_eq_getElem?_getD, List.getElem?_eq_none h1]; rfl
def Pl.itOf (x : Gr.It) : Pl.Fnd := (x.1, (x.2 : Int))
theorem QmV {ns : List Pl.Node} {E : Pl.Node -> List Pl.Ent × Bool} (hN : Pl.NsOk ns E) {r L : List Gr.It} (h : Gr.FP (Pl.Qad ns) (Pl.enF ns E) r L) :
 ∀ (n : Nat) (p : List (List UInt8)) (l : List Pl.Ent) (out : List Pl.Fnd), (∀ e ∈ l, 0 <= e.2) -> r = l.map (fun e => (p ++ [e.1], e.2.toNat)) -> out.length + L.length <= 144 -> 145 <= out.length + n -> Pl.wks ns E n p l (out, true) = (out ++ L.map Pl.itOf, true) := by
 induction h with
 |nil =>
  intro n p l out h0 hr _ _
  cases l with
  |nil => simp [Pl.wks]
  |cons e l => cases hr
 |@file p' k r L hk h ih =>
  intro n p l out h0 hr hl hn
  cases l with
  |nil => cases hr
  |cons e l =>
   simp only [List.map_cons, List.cons.injEq, Prod.mk.injEq] at hr
   obtain ⟨⟨rfl, rfl⟩, rfl⟩ := hr
   have he := h0 e List.mem_cons_self
   rw [List.length_cons] at hl
   obtain ⟨n, rfl⟩ : ∃ m, n = m + 1 := ⟨n - 1, by omega⟩
   have hlt := Qce (k := e.2.toNat) (ns := ns) (by omega)
   have hkind : (ns.getD e.2.toNat Pl.zn).kind = 1 := by unfold Pl.Qad at hk; omega
   have hw : Pl.wk ns E (n + 1) (p ++ [e.1], e.2) out = (out ++ [(p ++ [e.1], e.2)], true) := by
    unfold Pl.wk
    rw [if_neg, if_pos hkind]
    simp only [Pl.inR, hkind]
    simp; omega
   rw [Qdn, hw, ih (n + 1) p l _ (fun e h => h0 e (List.mem_cons_of_mem _ h)) rfl (by simp; omega) (by simp; omega)]
   simp [Pl.itOf]; omega
 |@dir p' k es r L1 L2 hk hes h1 h2 ih1 ih2 =>
  intro n p l out h0 hr hl hn
  cases l with
  |nil => cases hr
  |cons e l =>
   simp only [List.map_cons, List.cons.injEq, Prod.mk.injEq] at hr
   obtain ⟨⟨rfl, rfl⟩, rfl⟩ := hr
   have he := h0 e List.mem_cons_self
   rw [List.length_cons, List.length_append] at hl
   obtain ⟨n, rfl⟩ : ∃ m, n = m + 1 := ⟨n - 1, by omega⟩
   have hlt := Qce (k := e.2.toNat) (ns := ns) (by omega)
   have hkind : (ns.getD e.2.toNat Pl.zn).kind = 2 := by unfold Pl.Qad at hk; omega
   unfold Pl.enF at hes
   split at hes
   rotate_left
   ·cases hes
   rename_i hE
   obtain rfl := Option.some.inj hes
   have hw : Pl.wk ns E (n + 1) (p ++ [e.1], e.2) out = Pl.wks ns E n (p ++ [e.1]) (E (ns.getD e.2.toNat Pl.zn)).1 (out ++ [(p ++ [e.1], e.2)], true) := by
    rw [<- hE]
    conv => lhs; unfold Pl.wk
    rw [if_neg, if_neg]
    ·rfl
    ·rw [hkind]; decide
    ·simp only [Pl.inR, hkind]
     simp; omega
   rw [Qdn, hw, ih1 n (p ++ [e.1]) _ _ (hN.ids _) (by simp [Gr.kids]) (by simp; omega) (by simp; omega), ih2 (n + 1) p l _ (fun e h => h0 e (List.mem_cons_of_mem _ h)) rfl (by simp; omega) (by simp; omega)]
   simp [Pl.itOf]; omega
theorem Qn5 {ns : List Pl.Node} {E : Pl.Node -> List Pl.Ent × Bool} (hN : Pl.NsOk ns E) : ∀ (n : Nat) (l : List Pl.Ent) (p : List (List UInt8)) (out : List Pl.Fnd), (∀ e ∈ l, 0 <= e.2) -> (Pl.wks ns E n p l (out, true)).2 = true ->
 ∃ L, Gr.FP (Pl.Qad ns) (Pl.enF ns E) (l.map fun e => (p ++ [e.1], e.2.toNat)) L /\ Pl.wks ns E n p l (out, true) = (out ++ L.map Pl.itOf, true) /\ (out.length <= 144 -> out.length + L.length <= 144) := by
 intro n
 induction n with
 |zero =>
  intro l p out h0 h
  cases l with
  |nil => exact ⟨[], .nil, by simp [Pl.wks], by simp⟩
  |cons e l => rw [Qdn] at h; unfold Pl.wk at h; rw [QeR] at h; cases h
 |succ n ihn =>
  intro l
  induction l with
  |nil => intro p out h0 h; exact ⟨[], .nil, by simp [Pl.wks], by simp⟩
  |cons e l ihl =>
   intro p out h0 h
   have he := h0 e List.mem_cons_self
   rw [Qdn] at h ⊢
   have hw : ∃ M, Gr.FP (Pl.Qad ns) (Pl.enF ns E) [(p ++ [e.1], e.2.toNat)] M /\ Pl.wk ns E (n + 1) (p ++ [e.1], e.2) out = (out ++ M.map Pl.itOf, true) /\ out.length + M.length <= 144 := by
    have hb : (Pl.wk ns E (n + 1) (p ++ [e.1], e.2) out).2 = true := by
     cases hx : Pl.wk ns E (n + 1) (p ++ [e.1], e.2) out with
     |mk o b =>
      cases b
      ·rw [hx, QeR] at h; cases h
      ·rfl
    unfold Pl.wk at hb ⊢
    split at hb
    ·cases hb
    rename_i hc
    rw [if_neg hc]
    simp only [not_or] at hc
    obtain ⟨c1, c2, c3⟩ := hc
    split at hb
    ·rename_i hk
     rw [if_pos hk]
     refine ⟨[(p ++ [e.1], e.2.toNat)], .file (by unfold Pl.Qad; rw [hk]; rfl) .nil, ?_, by simp; omega⟩
     simp [Pl.itOf]; omega
    ·rename_i hk
     rw [if_neg hk]
     have hk2 : (ns.getD e.2.toNat Pl.zn).kind = 2 := by
      have c3' : ¬ (ns.getD e.2.toNat Pl.zn).kind = 0 := c3
      have hk' : ¬ (ns.getD e.2.toNat Pl.zn).kind = 1 := hk
      rcases Qcy hN e.2.toNat with h | h | h <;> omega
     generalize hEe : E (ns.getD e.2.toNat Pl.zn) = Ee at hb ⊢
     obtain ⟨es, ok⟩ := Ee
     cases ok
     ·change (Pl.wks ns E n (p ++ [e.1]) es (out ++ [(p ++ [e.1], e.2)], false)).2 = true at hb
      rw [QeR] at hb; cases hb
     ·obtain ⟨L1, g1, g2, g3⟩ := ihn es (p ++ [e.1]) (out ++ [(p ++ [e.1], e.2)]) (fun x hx => hN.ids (ns.getD e.2.toNat Pl.zn) x (by rw [hEe]; exact hx)) hb
      have g3 := g3 (by simp; omega)
      refine ⟨(p ++ [e.1], e.2.toNat) :: (L1 ++ []), .dir (es := es.map fun e => (e.1, e.2.toNat)) (by unfold Pl.Qad; rw [hk2]; rfl) ?_ ?_ .nil, ?_, ?_⟩
      ·unfold Pl.enF; rw [hEe]; rfl
      ·unfold Gr.kids; rw [List.map_map]; exact g1
      ·refine Eq.trans g2 ?_
       simp [Pl.itOf]; omega
      ·simp at g3 ⊢; omega
   obtain ⟨M, m1, m2, m3⟩ := hw
   rw [m2] at h ⊢
   obtain ⟨L, g1, g2, g3⟩ := ihl p _ (fun e h => h0 e (List.mem_cons_of_mem _ h)) h
   have g3 := g3 (by simp; omega)
   refine ⟨M ++ L, ?_, by rw [g2]; simp, fun _ => by simp at g3 ⊢; omega⟩
   cases m1 with
   |file hk hz => cases hz; exact .file hk g1
   |dir hk he h1 hz => cases hz; rw [List.append_nil]; exact .dir hk he h1 g1
def Pl.Qag (s : List UInt8) : Option (List (List UInt8)) :=
 if s = [47] then some [] else if s.head? = some 47 /\ (Pl.cutB 47 s).tail.all Pl.Qaj = true /\ (Pl.cutB 47 s).tail.length <= 4 then some (Pl.cutB 47 s).tail else none
theorem QcA (b : UInt8) (r : List UInt8) : Pl.cutB b (b :: r) = [] :: Pl.cutB b r := Pl.Qci b [] r (by simp)
theorem QjO (b : UInt8) (r : List UInt8) : ∀ a : List UInt8, Pl.cutB b (a ++ b :: r) = Pl.cutB b a ++ Pl.cutB b r
 |[] => by rw [List.nil_append, QcA]; rfl
 |c :: a => by
  have ih := QjO b r a
  by_cases h : c = b
  ·subst h; rw [List.cons_append, QcA, QcA, ih]; rfl
  ·have hc : ∀ s, Pl.cutB b (c :: s) = match Pl.cutB b s with | x :: l => (c :: x) :: l | [] => [[c]] := fun s => by
    conv => lhs; unfold Pl.cutB
    rw [if_neg (by simpa using h)]
    cases Pl.cutB b s <;> rfl
   rw [List.cons_append, hc, hc, ih]
   cases hx : Pl.cutB b a with
   |nil => exact absurd hx (Pl.QdE b a)
   |cons x l => rfl
theorem Qh0 : ∀ (p : List (List UInt8)), (∀ n ∈ p, (47 : UInt8) ∉ n) -> Pl.cutB 47 (p.flatMap (47 :: ·)) = [] :: p
 |[], _ => rfl
 |n :: q, h => by
  have ih := Qh0 q fun x hx => h x (List.mem_cons_of_mem _ hx)
  rw [List.flatMap_cons, List.cons_append, QcA]
  congr 1
  cases q with
  |nil => rw [List.flatMap_nil, List.append_nil]; exact Pl.Qc7 47 n (h n List.mem_cons_self)
  |cons m q =>
   rw [List.flatMap_cons, List.cons_append] at ih ⊢
   rw [QcA] at ih
   rw [Pl.Qci 47 n _ (h n List.mem_cons_self), List.tail_eq_of_cons_eq ih]
def Pl.Qbf (p : List (List UInt8)) : Prop := ∀ n ∈ p, (47 : UInt8) ∉ n /\ n ≠ []
theorem Qfx {p : List (List UInt8)} (h : ∀ n ∈ p, Pl.Qaj n = true) : Pl.Qbf p := fun n hn => ⟨QdR (h n hn) (by decide), by
 rintro rfl; have := h [] hn; simp [Pl.Qaj] at this⟩
theorem QcZ {p : List (List UInt8)} (h : Pl.Qbf p) (hp : p ≠ []) : Pl.cutB 47 (Pl.Qat p) = [] :: p := by
 unfold Pl.Qat
 rw [if_neg hp]
 exact Qh0 p fun n hn => (h n hn).1
theorem QcY {p : List (List UInt8)} (h : Pl.Qbf p) : Pl.Qat p = [47] ↔ p = [] := by
 constructor
 ·intro hs
  cases p with
  |nil => rfl
  |cons n q =>
   have h1 := QcZ h (by simp)
   rw [hs] at h1
   have h2 : Pl.cutB 47 [47] = [[], []] := by decide
   rw [h2] at h1
   simp only [List.cons.injEq, true_and] at h1
   exact absurd h1.1.symm (h n List.mem_cons_self).2
 ·rintro rfl; rfl
theorem Qlx {p q : List (List UInt8)} (hp : Pl.Qbf p) (hq : Pl.Qbf q) (h : Pl.Qat p = Pl.Qat q) : p = q := by
 by_cases h1 : p = []
 ·subst h1
  exact ((QcY hq).1 h.symm).symm
 ·by_cases h2 : q = []
  ·subst h2; exact (QcY hp).1 h
  ·have := QcZ hp h1
   rw [h, QcZ hq h2] at this
   simpa using this.symm
theorem Qkl (p : List (List UInt8)) (n : List UInt8) : Pl.Qat (p ++ [n]) = if p = [] then 47 :: n else Pl.Qat p ++ 47 :: n := by
 unfold Pl.Qat
 rw [if_neg (by simp), List.flatMap_append]
 split
 ·rename_i h; subst h; simp
 ·simp
theorem Qd5 {s : List UInt8} {p : List (List UInt8)} : Pl.Qag s = some p ↔ (p.all Pl.Qaj = true /\ p.length <= 4 /\ Pl.Qat p = s) := by
 unfold Pl.Qag
 constructor
 ·intro h
  split at h
  ·rename_i hs; obtain rfl := Option.some.inj h; exact ⟨rfl, by simp, hs.symm⟩
  ·split at h
   ·rename_i hs
    obtain rfl := Option.some.inj h
    refine ⟨hs.2.1, hs.2.2, ?_⟩
    cases s with
    |nil => cases hs.1
    |cons c r =>
     obtain rfl : c = 47 := by simpa using hs.1
     rw [QcA, List.tail_cons]
     unfold Pl.Qat
     rw [if_neg (Pl.QdE 47 r)]
     have hj := Pl.Qe9 47 r
     have hg : ∀ l : List (List UInt8), l ≠ [] -> l.flatMap (47 :: ·) = 47 :: (l.intersperse [47]).flatten := by
      intro l
      induction l with
      |nil => intro h; exact absurd rfl h
      |cons a l ih =>
       intro _
       cases l with
       |nil => simp
       |cons b l =>
        rw [List.flatMap_cons, ih (by simp)]
        simp [List.intersperse]
     rw [hg _ (Pl.QdE 47 r), hj]
   ·cases h
 ·rintro ⟨h1, h2, rfl⟩
  have hP := Qfx fun n hn => List.all_eq_true.1 h1 n hn
  by_cases hp : p = []
  ·subst hp; rfl
  ·have hh : (Pl.Qat p).head? = some 47 := by
    unfold Pl.Qat
    rw [if_neg hp]
    cases p with
    |nil => exact absurd rfl hp
    |cons n q => rfl
   rw [if_neg (fun e => hp ((QcY hP).1 e)), QcZ hP hp, List.tail_cons, if_pos ⟨hh, h1, h2⟩]
theorem pre_iff {q p : List (List UInt8)} (hq : Pl.Qbf q) (hp : Pl.Qbf p) : (q = [] ∨ Pl.Qat p = Pl.Qat q ∨ Pl.Qat q ++ [47] <+: Pl.Qat p) ↔ q <+: p := by
 constructor
 ·rintro (rfl | h | ⟨r, h⟩)
  ·exact List.nil_prefix
  ·rw [Qlx hp hq h]; exact List.prefix_refl _
  ·by_cases h0 : q = []
   ·rw [h0]; exact List.nil_prefix
   ·have h1 : p ≠ [] := by
     rintro rfl
     have := congrArg List.length h
     rw [show Pl.Qat [] = [47] from rfl] at this
     simp at this
     have h2 : Pl.Qat q = [] := List.eq_nil_of_length_eq_zero (by omega)
     unfold Pl.Qat at h2
     rw [if_neg h0] at h2
     cases q with
     |nil => exact h0 rfl
     |cons n q => cases h2
    have h2 := QcZ hp h1
    rw [<- h, List.append_assoc, List.singleton_append, QjO, QcZ hq h0] at h2
    simp only [List.cons_append, List.cons.injEq, true_and] at h2
    exact ⟨_, h2⟩
 ·rintro ⟨r, rfl⟩
  by_cases h0 : q = []
  ·exact .inl h0
  ·by_cases h1 : r = []
   ·subst h1; rw [List.append_nil]; exact .inr (.inl rfl)
   ·refine .inr (.inr ?_)
    unfold Pl.Qat
    rw [if_neg h0, if_neg (by simp [h0]), List.flatMap_append]
    cases r with
    |nil => exact absurd rfl h1
    |cons n r => exact ⟨n ++ r.flatMap (47 :: ·), by simp⟩
def Pl.QaC (f : Nat -> Int) : Nat -> Int
 |0 => 0
 |n + 1 => Pl.QaC f n + f n
theorem Qef {f g : Nat -> Int} : ∀ {n : Nat}, (∀ k, k < n -> f k = g k) -> Pl.QaC f n = Pl.QaC g n
 |0, _ => rfl
 |n + 1, h => by unfold Pl.QaC; rw [Qef fun k hk => h k (by omega), h n (by omega)]
theorem Qhu {f : Nat -> Int} {l : List Nat} {k : Nat} (hl : k ∉ l) : ∀ {n : Nat}, Pl.QaC (fun i => if i ∈ l ++ [k] then f i else 0) n = Pl.QaC (fun i => if i ∈ l then f i else 0) n + if k < n then f k else 0
 |0 => by simp [Pl.QaC]
 |n + 1 => by
  have ih := Qhu (f := f) hl (n := n)
  show Pl.QaC (fun i => if i ∈ l ++ [k] then f i else 0) n + (if n ∈ l ++ [k] then f n else 0) = Pl.QaC (fun i => if i ∈ l then f i else 0) n + (if n ∈ l then f n else 0) + _
  rw [ih]
  by_cases h : n = k
  ·subst h
   have e1 : (if n ∈ l ++ [n] then f n else 0) = f n := if_pos (by simp)
   have e2 : (if n ∈ l then f n else 0) = 0 := if_neg hl
   have e3 : (if n < n then f n else 0) = 0 := if_neg (Nat.lt_irrefl n)
   have e4 : (if n < n + 1 then f n else 0) = f n := if_pos (Nat.lt_succ_self n)
   rw [e1, e2, e3, e4]
  ·have e1 : (if n ∈ l ++ [k] then f n else 0) = (if n ∈ l then f n else 0) := by
    have : n ∈ l ++ [k] ↔ n ∈ l := by simp [h]
    by_cases hm : n ∈ l
    ·rw [if_pos hm, if_pos (this.2 hm)]
    ·rw [if_neg hm, if_neg (fun x => hm (this.1 x))]
   have e2 : (if k < n + 1 then f k else 0) = (if k < n then f k else 0) := by
    by_cases h2 : k < n
    ·rw [if_pos h2, if_pos (by omega)]
    ·rw [if_neg h2, if_neg (by omega)]
   rw [e1, e2]; omega
theorem Qfo {f : Nat -> Int} (c : Int) : ∀ {n : Nat}, (∀ k, k < n -> 0 <= f k /\ f k <= c) -> 0 <= Pl.QaC f n /\ Pl.QaC f n <= n * c
 |0, _ => by simp [Pl.QaC]
 |n + 1, h => by
  have := Qfo c (n := n) fun k hk => h k (by omega)
  have := h n (by omega)
  unfold Pl.QaC
  rw [Int.natCast_succ, Int.add_mul]
  omega
theorem QdI : ∀ x : List UInt8, Op.bytesLess x x = false
 |[] => rfl
 |a :: x => by simp [Op.bytesLess, QdI x]
theorem bl_cons (a b : UInt8) (x y : List UInt8) : Op.bytesLess (a :: x) (b :: y) = true ↔ a < b ∨ a = b /\ Op.bytesLess x y = true := by simp [Op.bytesLess]
theorem Qhe : ∀ {x y z : List UInt8}, Op.bytesLess x y = true -> Op.bytesLess y z = true -> Op.bytesLess x z = true
 |[], [], _, h, _ => by simp [Op.bytesLess] at h
 |[], _ :: _, [], _, h => by simp [Op.bytesLess] at h
 |[], _ :: _, _ :: _, _, _ => by simp [Op.bytesLess]
 |_ :: _, [], _, h, _ => by simp [Op.bytesLess] at h
 |_ :: _, _ :: _, [], _, h => by simp [Op.bytesLess] at h
 |a :: x, b :: y, c :: z, h1, h2 => by
  rw [bl_cons] at *
  rcases h1 with h1 | ⟨rfl, h1⟩
  ·rcases h2 with h2 | ⟨rfl, h2⟩
   ·exact .inl (UInt8.lt_trans h1 h2)
   ·exact .inl h1
  ·rcases h2 with h2 | ⟨rfl, h2⟩
   ·exact .inl h2
   ·exact .inr ⟨rfl, Qhe h1 h2⟩
theorem QjJ {l : List Pl.Ent} (h : Pl.Qae l = true) {i : Nat} (hi : i + 1 < l.length) : Op.bytesLess (l[i]'(by omega)).1 (l[i + 1]).1 = true := by
 unfold Pl.Qae at h
 rw [Bool.and_eq_true, List.all_eq_true] at h
 have := h.1 (i + 1) (List.mem_range.2 hi)
 unfold Pl.QaF at this
 simp only [List.getD_eq_getElem?_getD, List.getElem?_eq_getElem hi, Nat.add_sub_cancel, List.getElem?_eq_getElem (show i < l.length by omega), Option.getD_some, Bool.and_eq_true, Bool.or_eq_true, decide_eq_true_eq] at this
 rcases this.2 with h | h
 ·omega
 ·exact h
theorem QgV {l : List Pl.Ent} (h : Pl.Qae l = true) {i : Nat} : ∀ {j : Nat} (hj : j < l.length) (hij : i < j), Op.bytesLess (l[i]'(by omega)).1 (l[j]).1 = true
 |j + 1, hj, hij => by
  by_cases hi : i = j
  ·subst hi; exact QjJ h hj
  ·exact Qhe (QgV h (show j < l.length by omega) (by omega)) (QjJ h hj)
theorem Qmo {l : List Pl.Ent} (h : Pl.Qae l = true) : (l.map (·.1)).Nodup := by
 rw [List.nodup_iff_pairwise_ne, List.pairwise_iff_getElem]
 intro i j hi hj hij e
 simp only [List.getElem_map] at *
 have := QgV h (show j < l.length by simpa using hj) hij
 rw [e, QdI] at this
 cases this
theorem Qcp (s : Pm.Store) (n : Pl.Node) : (Pl.ents s n).2 = true /\ Pl.Qae (Pl.ents s n).1 = true ∨ Pl.ents s n = ([], false) := by
 unfold Pl.ents
 split
 ·rcases Qn8 (Pl.blob (Pl.Qaa s n.tree)).1 with h | h
  ·exact .inl ⟨h.2, h.1.1⟩
  ·exact .inr h
 ·exact .inr rfl
theorem Qgt (s : Pm.Store) (n : Pl.Node) : ∀ e ∈ (Pl.ents s n).1, Pl.Qaj e.1 = true /\ 1 <= e.2 /\ e.2 <= 15 := by
 rcases Qcp s n with h | h
 ·exact ent_b h.2
 ·rw [h]; intro e he; cases he
theorem QfH {s : Pm.Store} {n : Pl.Node} (h : (Pl.ents s n).2 = true) : n.kind = 2 := by
 unfold Pl.ents at h
 split at h
 ·rename_i h1; simp only [Bool.and_eq_true, beq_iff_eq] at h1; exact h1.1.1.1.2
 ·cases h
theorem Qew (s : Pm.Store) (t : Pl.Tree) (k : Nat) : (Pl.Qab s t).getD k Pl.zn = Pl.zn ∨ NodeB ((Pl.Qab s t).getD k Pl.zn) := by
 rw [List.getD_eq_getElem?_getD]
 cases h : (Pl.Qab s t)[k]? with
 |none => exact .inl rfl
 |some n =>
  have hm := List.mem_of_getElem? h
  unfold Pl.Qab at hm
  obtain ⟨x, _, rfl⟩ := List.mem_map.1 hm
  rcases QiB x with h | h
  ·exact .inr h
  ·exact .inl h
theorem nsOk (s : Pm.Store) (t : Pl.Tree) : Pl.NsOk (Pl.Qab s t) (Pl.ents s) := by
 refine ⟨fun n hn => ?_, fun n e he => by have := Qgt s n e he; omega⟩
 unfold Pl.Qab at hn
 obtain ⟨x, _, rfl⟩ := List.mem_map.1 hn
 rcases QiB x with h | h
 ·exact .inr h.kind
 ·rw [h]; exact .inl rfl
def Pl.Qa0 (ns : List Pl.Node) (k : Nat) : Nat := (ns.getD k Pl.zn).links.toNat
theorem texts_len (s : Pm.Store) {t : Pl.Tree} (h : Pl.TGood t) : (Pl.Qaa s t).length = t.many.toNat := by
 unfold Pl.Qaa
 rw [List.length_map, List.length_take, Qfc s h.hi]
 have := h.manyHi
 omega
theorem graph (s : Pm.Store) {t : Pl.Tree} (ht : Pl.TGood t) (h0 : ((Pl.Qab s t).getD 0 Pl.zn).kind = 2) :
 Gr.Nodes (Pl.Qad (Pl.Qab s t)) (Gr.chOf (Pl.enF (Pl.Qab s t) (Pl.ents s))) (Pl.Qa0 (Pl.Qab s t)) (Pl.Qab s t).length := by
 have hb : ∀ k, Pl.Qad (Pl.Qab s t) k ≠ 0 -> NodeB ((Pl.Qab s t).getD k Pl.zn) := fun k hk => by
  rcases Qew s t k with h | h
  ·unfold Pl.Qad at hk; rw [h] at hk; exact absurd rfl hk
  ·exact h
 refine ⟨by unfold Pl.Qad; rw [h0]; rfl, fun k => ?_, fun k hk => Qce hk, ?_, fun k hk => ?_, fun k hk => ?_, fun k cs hc e he => ?_⟩
 ·unfold Pl.Qad
  rcases Qew s t k with h | h
  ·rw [h]; decide
  ·have := h.kind; omega
 ·unfold Pl.Qab; rw [List.length_map, texts_len s ht]; have := ht.manyHi; omega
 ·have := (hb k hk).links; unfold Pl.Qa0; omega
 ·have h := hb k (by omega)
  have := h.one (by unfold Pl.Qad at hk; omega)
  unfold Pl.Qa0; omega
 ·unfold Gr.chOf Pl.enF at hc
  split at hc
  ·simp only [Option.map_some, Option.some.injEq] at hc
   subst hc
   rw [List.map_map] at he
   obtain ⟨x, hx, rfl⟩ := List.mem_map.1 he
   have := Qgt s _ x hx
   simp only [Function.comp]; omega
  ·cases hc
noncomputable def Pl.Qa9 (s : Pm.Store) (t : Pl.Tree) : List Pl.Fnd × Bool := Pl.wk (Pl.Qab s t) (Pl.ents s) 145 ([], 0) []
def Pl.many (out : List Pl.Fnd) (k : Nat) : Nat := (out.map (·.2)).count (k : Int)
noncomputable def Pl.Qav (s : Pm.Store) (ns : List Pl.Node) (out : List Pl.Fnd) (k : Nat) : Bool :=
 ((ns.getD k Pl.zn).kind == 0 || ((Pl.many out k : Int) == (ns.getD k Pl.zn).links)) && (!((ns.getD k Pl.zn).kind == 1) || Pl.Qax s (ns.getD k Pl.zn))
noncomputable def Pl.Qak (s : Pm.Store) (t : Pl.Tree) : Bool :=
 Pl.Qa8 s t && ((Pl.Qab s t).getD 0 Pl.zn).kind == 2 && (Pl.Qa9 s t).2 && (List.range (Pl.Qab s t).length).all (Pl.Qav s (Pl.Qab s t) (Pl.Qa9 s t).1)
structure Pl.Files (s : Pm.Store) (t : Pl.Tree) : Prop where
 tab : Pl.Qa8 s t = true
 root : ((Pl.Qab s t).getD 0 Pl.zn).kind = 2
 file : ∀ k, ((Pl.Qab s t).getD k Pl.zn).kind = 1 -> Pl.Qax s ((Pl.Qab s t).getD k Pl.zn) = true
 dir : ∀ k, ((Pl.Qab s t).getD k Pl.zn).kind = 2 -> (Pl.ents s ((Pl.Qab s t).getD k Pl.zn)).2 = true
 linked : ∃ nm, Gr.bfs (Pl.Qad (Pl.Qab s t)) (Gr.chOf (Pl.enF (Pl.Qab s t) (Pl.ents s))) (1 + Gr.left (Pl.Qad (Pl.Qab s t)) (Pl.Qab s t).length []) [0] [] = some nm /\
  ∀ k, k ≠ 0 -> Pl.Qad (Pl.Qab s t) k ≠ 0 -> nm.count k = Pl.Qa0 (Pl.Qab s t) k
theorem Qgg (L : List Gr.It) (k : Nat) : Pl.many (L.map Pl.itOf) k = (L.map (·.2)).count k := by
 unfold Pl.many
 rw [List.map_map]
 induction L with
 |nil => rfl
 |cons x L ih =>
  simp only [List.map_cons, List.count_cons, ih, Function.comp, Pl.itOf]
  congr 1
  by_cases h : x.2 = k
  ·subst h; simp
  ·have h1 : (x.2 == k) = false := by simpa using h
   have h2 : ((x.2 : Int) == (k : Int)) = false := by simp; omega
   rw [h1, h2]
theorem Qmd (s : Pm.Store) {t : Pl.Tree} (h0 : ((Pl.Qab s t).getD 0 Pl.zn).kind = 2) (L : List Gr.It) :
 (Pl.Qa9 s t = (L.map Pl.itOf, true) /\ L.length <= 144 /\ Gr.FP (Pl.Qad (Pl.Qab s t)) (Pl.enF (Pl.Qab s t) (Pl.ents s)) [([], 0)] L) ↔
 (Gr.FP (Pl.Qad (Pl.Qab s t)) (Pl.enF (Pl.Qab s t) (Pl.ents s)) [([], 0)] L /\ L.length <= 144) := by
 constructor
 ·rintro ⟨_, h2, h3⟩; exact ⟨h3, h2⟩
 ·rintro ⟨h3, h2⟩
  refine ⟨?_, h2, h3⟩
  have hN := nsOk s t
  have hlt : 0 < (Pl.Qab s t).length := Qce (k := 0) (by unfold Pl.Qad; rw [h0]; decide)
  cases h3 with
  |file hk _ => unfold Pl.Qad at hk; rw [h0] at hk; cases hk
  |@dir _ _ es _ L1 L2 hk hes h1 h4 =>
   cases h4
   unfold Pl.enF at hes
   split at hes
   rotate_left
   ·cases hes
   rename_i hE
   obtain rfl := Option.some.inj hes
   rw [List.append_nil] at h2 ⊢
   rw [List.length_cons] at h2
   have := QmV hN h1 144 [] (Pl.ents s ((Pl.Qab s t).getD 0 Pl.zn)).1 [([], 0)] (hN.ids _) (by simp [Gr.kids]) (by simp; omega) (by simp)
   unfold Pl.Qa9 Pl.wk
   rw [if_neg, if_neg]
   ·rw [<- hE] at this
    refine Eq.trans this ?_
    rw [hE]; rfl
   ·show ¬ ((Pl.Qab s t).getD 0 Pl.zn).kind = 1
    rw [h0]; decide
   ·show ¬ (144 < 1 ∨ Pl.inR 0 0 _ = false ∨ ((Pl.Qab s t).getD 0 Pl.zn).kind = 0)
    rw [h0]
    simp only [Pl.inR]
    simp; omega
theorem Qe1 (s : Pm.Store) {t : Pl.Tree} (h0 : ((Pl.Qab s t).getD 0 Pl.zn).kind = 2) (h : (Pl.Qa9 s t).2 = true) :
 ∃ L, Gr.FP (Pl.Qad (Pl.Qab s t)) (Pl.enF (Pl.Qab s t) (Pl.ents s)) [([], 0)] L /\ L.length <= 144 /\ Pl.Qa9 s t = (L.map Pl.itOf, true) := by
 have hN := nsOk s t
 unfold Pl.Qa9 Pl.wk at h ⊢
 split at h
 ·cases h
 rename_i hc
 rw [if_neg hc]
 split at h
 ·rename_i hk; change ((Pl.Qab s t).getD 0 Pl.zn).kind = 1 at hk; rw [h0] at hk; cases hk
 rename_i hk
 rw [if_neg hk]
 change (Pl.wks (Pl.Qab s t) (Pl.ents s) 144 [] (Pl.ents s ((Pl.Qab s t).getD 0 Pl.zn)).1 ([([], 0)], (Pl.ents s ((Pl.Qab s t).getD 0 Pl.zn)).2)).2 = true at h
 change ∃ L, _ /\ _ /\ Pl.wks (Pl.Qab s t) (Pl.ents s) 144 [] (Pl.ents s ((Pl.Qab s t).getD 0 Pl.zn)).1 ([([], 0)], (Pl.ents s ((Pl.Qab s t).getD 0 Pl.zn)).2) = _
 have hE : (Pl.ents s ((Pl.Qab s t).getD 0 Pl.zn)).2 = true := by
  cases hE : (Pl.ents s ((Pl.Qab s t).getD 0 Pl.zn)).2
  ·rw [hE, QeR] at h; cases h
  ·rfl
 rw [hE] at h ⊢
 obtain ⟨L, g1, g2, g3⟩ := Qn5 hN 144 _ [] [([], 0)] (hN.ids _) h
 have g3 := g3 (by simp)
 refine ⟨([], 0) :: (L ++ []), .dir (es := (Pl.ents s ((Pl.Qab s t).getD 0 Pl.zn)).1.map fun e => (e.1, e.2.toNat)) (by unfold Pl.Qad; rw [h0]; rfl) ?_ ?_ .nil, ?_, ?_⟩
 ·unfold Pl.enF; rw [if_pos hE]
 ·unfold Gr.kids; rw [List.map_map]; exact g1
 ·simp at g3 ⊢; omega
 ·rw [g2]; simp [Pl.itOf]
theorem Qe3 (s : Pm.Store) (t : Pl.Tree) : Pl.Qak s t = true ↔ Pl.Files s t := by
 unfold Pl.Qak
 simp only [Bool.and_eq_true, beq_iff_eq, List.all_eq_true, List.mem_range]
 have key : ∀ (h1 : Pl.Qa8 s t = true) (h2 : ((Pl.Qab s t).getD 0 Pl.zn).kind = 2), _ := fun h1 h2 => Gr.QmZ (graph s (Qcc (by unfold Pl.Qa8 at h1; rw [Bool.and_eq_true] at h1; exact h1.1)) h2)
 have hk2 : ∀ k, Pl.Qad (Pl.Qab s t) k = 2 ↔ ((Pl.Qab s t).getD k Pl.zn).kind = 2 := fun k => by
  have := Qcy (nsOk s t) k
  unfold Pl.Qad; omega
 have hch : ∀ k, (∃ cs, Gr.chOf (Pl.enF (Pl.Qab s t) (Pl.ents s)) k = some cs) ↔ (Pl.ents s ((Pl.Qab s t).getD k Pl.zn)).2 = true := fun k => by
  unfold Gr.chOf Pl.enF
  split <;> simp_all
 constructor
 ·rintro ⟨⟨⟨h1, h2⟩, h3⟩, h4⟩
  obtain ⟨L, g1, g2, g3⟩ := Qe1 s h2 h3
  rw [g3] at h4
  have hcount : ∀ k, Pl.Qad (Pl.Qab s t) k ≠ 0 -> (L.map (·.2)).count k = Pl.Qa0 (Pl.Qab s t) k := fun k hk => by
   have := h4 k (Qce hk)
   unfold Pl.Qav at this
   simp only [Bool.and_eq_true, Bool.or_eq_true, beq_iff_eq] at this
   rw [Qgg] at this
   unfold Pl.Qad at hk
   unfold Pl.Qa0
   rcases this.1 with h | h
   ·rw [h] at hk; exact absurd rfl hk
   ·omega
  obtain ⟨k1, k2⟩ := (key h1 h2).1 ⟨_, g1.fd, by simpa using g2, hcount⟩
  refine ⟨h1, h2, fun k hk => ?_, fun k hk => (hch k).1 (k1 k ((hk2 k).2 hk)), k2⟩
  have := h4 k (Qce (by unfold Pl.Qad; rw [hk]; decide))
  unfold Pl.Qav at this
  rw [hk] at this
  simpa using (Bool.and_eq_true _ _ ▸ this).2
 ·rintro ⟨h1, h2, h3, h4, h5⟩
  obtain ⟨M, m1, m2, m3⟩ := (key h1 h2).2 ⟨fun k hk => (hch k).2 (h4 k ((hk2 k).1 hk)), h5⟩
  obtain ⟨L, g1, rfl⟩ := Gr.Qn6 m1 (r := [([], 0)]) rfl
  obtain ⟨q1, _, _⟩ := (Qmd s h2 L).2 ⟨g1, by simpa using m2⟩
  rw [q1]
  refine ⟨⟨⟨h1, h2⟩, rfl⟩, fun k hk => ?_⟩
  unfold Pl.Qav
  rw [Qgg]
  by_cases h0 : ((Pl.Qab s t).getD k Pl.zn).kind = 0
  ·rw [h0]; rfl
  ·have hkc := Qcy (nsOk s t) k
   have := m3 k (by unfold Pl.Qad; omega)
   rw [this]
   have hB : NodeB ((Pl.Qab s t).getD k Pl.zn) := by
    rcases Qew s t k with h | h
    ·rw [h] at h0; exact absurd rfl h0
    ·exact h
   have hl := hB.links
   have e1 : ((Pl.Qa0 (Pl.Qab s t) k : Int) == ((Pl.Qab s t).getD k Pl.zn).links) = true := beq_iff_eq.2 (by unfold Pl.Qa0; omega)
   rw [e1]
   by_cases hk1 : ((Pl.Qab s t).getD k Pl.zn).kind = 1
   ·rw [h3 k hk1]; simp
   ·have : (((Pl.Qab s t).getD k Pl.zn).kind == 1) = false := by simpa using hk1
    rw [this]; simp
end Aw
end Go.Proofs.YtdjkdcokjoiokaaGreatDoor

/- Part 43 of the proof of bytes_card: contracts, walks, plain laws; no condition is assumed beyond those that a statement names. -/
import Derived.Test.YtdjkdcokjoiokaaGreatDoorQ42
set_option linter.all false
set_option maxRecDepth 100000
set_option maxHeartbeats 4000000
namespace Go.Proofs.YtdjkdcokjoiokaaGreatDoor
open Go.RowKit
namespace Aw
theorem Qkr {S : Nat -> Prop} {w : World} {b : Bool} {l : List Pl.Ptr} {v : Value} (h : RelD S w (.sl b 5 (l.map rPtr)) v) (hS : ∀ b, S b -> b < w.heap.size) (hx : ∀ x ∈ l, Pm.PtrIn x) :
 ∃ A c, v = .slice A l.length c /\ Pm.At w w.heap.size A l := by
 generalize hr : l.map rPtr = rows at h
 cases h with
 |slnil a cap =>
  have : l = [] := by simpa using hr
  subst this
  exact ⟨_, _, rfl, fun h => absurd h (by simp)⟩
 |sl _ _ _ bb o cap g hb hn hcap hc hrr =>
  subst hr
  refine ⟨_, _, by rw [List.length_map], fun _ => ⟨bb, o, rfl, hS bb hb, fun i x hi => ⟨Pm.ptrL x, ⟨rfl, hx x (List.mem_of_getElem? hi)⟩, fun j v hj => ?_⟩⟩⟩
  have h1 : (l.map rPtr)[i]? = some (rPtr x) := by rw [List.getElem?_map, hi]; rfl
  have key : ∀ (j : Nat) u, (rPtr x)[j]? = some (.v u) -> w.cell? ⟨bb, o + i * 5 + j, none⟩ = some u := fun j u hu => by
   have h2 := hc i j _ _ h1 hu
   have h3 := hrr i j _ _ h1 hu
   generalize g i j = y at *
   cases h3
   exact h2
  match j, hj with
  |0, hj => obtain rfl := Option.some.inj hj; exact key 0 _ rfl
  |1, hj => obtain rfl := Option.some.inj hj; exact key 1 _ rfl
  |2, hj => obtain rfl := Option.some.inj hj; exact key 2 _ rfl
  |3, hj => obtain rfl := Option.some.inj hj; exact key 3 _ rfl
  |4, hj => obtain rfl := Option.some.inj hj; exact key 4 _ rfl
structure AtW (B : Bs) (σ : Sg) (S : Nat -> Prop) (H : List Blk) (w : World) (s : Pm.Store) (a : Value) : Prop where
 gd : Gd B
 sm : Sm B σ S H w
 st : RelD S w (.pd (rSt s)) a
theorem AtW.call {B : Bs} {σ : Sg} {S : Nat -> Prop} {H : List Blk} {w wk : World} {s : Pm.Store} {a : Value} (h : AtW B σ S H w s a) (hb : Below w.heap.size w wk) {f : FuncId} {args : List D} (vs : List Value) {x : D} (hp : Pure Tryz.prog f (.pd (rSt s) :: args) x) (ha : args = vs.map D.ofV) :
 Calls Tryz.prog f (a :: vs).toArray wk fun e w' => ∃ v, e = .returned v /\ Below wk.heap.size wk w' /\ RelD (fun b => b < w'.heap.size) w' x v := by
 have hs := h.sm.below hb
 subst ha
 refine (hp B σ _ H wk (a :: vs) h.gd hs.1 (by simp) fun i d v hd hv => ?_).mono fun e w' ⟨v, h1, h2, h3⟩ => ⟨v, h1, h2, h3.mono (fun b hb => ?_) fun _ _ => rfl⟩
 ·match i, hd, hv with
  |0, hd, hv =>
   obtain rfl := Option.some.inj hd
   obtain rfl := Option.some.inj hv
   exact h.st.mono (fun b hb => .inl hb) fun b hb' => hb.block b ((h.sm.sUp b hb').1)
  |i + 1, hd, hv =>
   rw [List.getElem?_cons_succ] at hd hv
   rw [List.getElem?_map, hv] at hd
   obtain rfl := Option.some.inj hd
   exact D.ofV_rel _ _ _
 ·have := h2.size
  rcases hb with hb | hb
  ·have := (hs.1.sUp b hb).1; omega
  ·exact hb.2
theorem AtW.call0 {B : Bs} {σ : Sg} {S : Nat -> Prop} {H : List Blk} {w wk : World} {s : Pm.Store} {a : Value} (h : AtW B σ S H w s a) (hb : Below w.heap.size w wk) {f : FuncId} {args : List D} (vs : List Value) {x : D} (hp : Pure Tryz.prog f args x) (ha : args = vs.map D.ofV) :
 Calls Tryz.prog f vs.toArray wk fun e w' => ∃ v, e = .returned v /\ Below wk.heap.size wk w' /\ RelD (fun b => b < w'.heap.size) w' x v := by
 have hs := h.sm.below hb
 subst ha
 refine (hp B σ _ H wk vs h.gd hs.1 (by simp) fun i d v hd hv => ?_).mono fun e w' ⟨v, h1, h2, h3⟩ => ⟨v, h1, h2, h3.mono (fun b hb => ?_) fun _ _ => rfl⟩
 ·rw [List.getElem?_map, hv] at hd
  obtain rfl := Option.some.inj hd
  exact D.ofV_rel _ _ _
 ·have := h2.size
  rcases hb with hb | hb
  ·have := (hs.1.sUp b hb).1; omega
  ·exact hb.2
theorem rel_v {S : Nat -> Prop} {w : World} {x v : Value} (h : RelD S w (.v x) v) : v = x := by cases h; rfl
theorem Qg6 {S : Nat -> Prop} {w : World} {x y : D} {v : Value} (h : RelD S w (.tup [x, y]) v) : ∃ a b, v = .tuple #[a, b] /\ RelD S w x a /\ RelD S w y b := by
 cases h with
 |tup _ cs hl h =>
  match cs, hl with
  |[a, b], _ => exact ⟨a, b, rfl, h 0 _ _ rfl rfl, h 1 _ _ rfl rfl⟩
variable {B : Bs} {σ : Sg} {S : Nat -> Prop} {H : List Blk} {w wk : World} {s : Pm.Store} {a : Value}
def nodeV (n : Pl.Node) : Value := .agg #[.int .i64 n.kind, .int .i64 n.links, .int .i64 n.size, .int .i64 n.tree.root.pat, .int .i64 n.tree.root.birth, .int .i64 n.tree.root.size, .int .i64 n.tree.root.sum, .int .i64 n.tree.root.level, .int .i64 n.tree.depth, .int .i64 n.tree.many]
theorem cNodeOk (h : AtW B σ S H w s a) (hb : Below w.heap.size w wk) (n : Pl.Node) : Calls Tryz.prog 309 #[nodeV n] wk fun e w' => e = .returned (.bool (Pl.Qaq n)) /\ Below wk.heap.size wk w' :=
 (h.call0 hb [nodeV n] (bNodeOk n) rfl).mono fun _ _ ⟨_, h1, h2, h3⟩ => ⟨by rw [h1, rel_v h3], h2⟩
theorem cLeaves (h : AtW B σ S H w s a) (hb : Below w.heap.size w wk) (hg : Pl.Good s) (htx : 0 <= s.2.2.1) (t : Pl.Tree) (hin : ∀ p ∈ (Pl.Qai s t).1, Pm.PtrIn p) : Calls Tryz.prog 148 #[a, .agg (Pm.treeL t).toArray] wk fun e w' =>
 ∃ A c, e = .returned (.tuple #[.slice A (Pl.Qai s t).1.length c, .bool (Pl.Qai s t).2]) /\ Below wk.heap.size wk w' /\ Pm.At w' w'.heap.size A (Pl.Qai s t).1 :=
 (h.call hb [.agg (Pm.treeL t).toArray] (bLeaves s hg htx t) rfl).mono fun _ _ ⟨_, h1, h2, h3⟩ => by
   obtain ⟨x, y, rfl, hx, hy⟩ := Qg6 h3
   obtain ⟨A, c, rfl, hA⟩ := Qkr hx (fun _ hb => hb) hin
   exact ⟨A, c, by rw [h1, rel_v hy], h2, hA⟩
theorem cRead (h : AtW B σ S H w s a) (hb : Below w.heap.size w wk) (hg : Pl.Good s) (p : Pl.Ptr) (hp : Pl.ptrHole p = false -> Pl.ptrOk p = true) : Calls Tryz.prog 223 #[a, .agg (Pm.ptrL p).toArray] wk fun e w' =>
 e = .returned (.tuple #[.string ⟨(Pl.rd s.1 p).1.toArray⟩, .bool (Pl.rd s.1 p).2]) /\ Below wk.heap.size wk w' :=
 (h.call hb [.agg (Pm.ptrL p).toArray] (bRead s hg p hp) rfl).mono fun _ _ ⟨_, h1, h2, h3⟩ => by
   obtain ⟨x, y, rfl, hx, hy⟩ := Qg6 h3
   exact ⟨by rw [h1, rel_v hx, rel_v hy], h2⟩
theorem QkI (h : AtW B σ S H w s a) (hb : Below w.heap.size w wk) (size : Int) (k : Nat) (h0 : 0 <= size) (h1 : size <= 2048) (hk : k <= 100) : Calls Tryz.prog 311 #[.int .i64 size, .int .i64 k] wk fun e w' => e = .returned (.int .i64 (Pl.Qbe size k)) /\ Below wk.heap.size wk w' :=
 (h.call0 hb [.int .i64 size, .int .i64 k] (QkS size k h0 h1 hk) rfl).mono fun _ _ ⟨_, h1, h2, h3⟩ => ⟨by rw [h1, rel_v h3], h2⟩
theorem QkJ (h : AtW B σ S H w s a) (hb : Below w.heap.size w wk) (x : List UInt8) (n : Int) (hx : x.length <= 1000000) : Calls Tryz.prog 310 #[.string ⟨x.toArray⟩, .int .i64 n] wk fun e w' =>
 e = .returned (.tuple #[.string ⟨(Pl.fill x n).1.toArray⟩, .bool (Pl.fill x n).2]) /\ Below wk.heap.size wk w' :=
 (h.call0 hb [.string ⟨x.toArray⟩, .int .i64 n] (QkT x n hx) rfl).mono fun _ _ ⟨_, h1, h2, h3⟩ => by
   obtain ⟨y, z, rfl, hy, hz⟩ := Qg6 h3
   exact ⟨by rw [h1, rel_v hy, rel_v hz], h2⟩
theorem QkK (x p : List UInt8) (hx : x.length <= 1000000) (wk : World) : Calls Tryz.prog 312 #[.string ⟨x.toArray⟩, .string ⟨p.toArray⟩] wk fun e w' => e = .returned (.bool (p.isSuffixOf x)) /\ Below wk.heap.size wk w' :=
 (Tryz.strings_HasSuffix ⟨x.toArray⟩ ⟨p.toArray⟩ wk (by rw [Pm.QfQ]; omega)).mono fun e w' h => ⟨h.1, h.2 ▸ Below.refl _ _⟩
theorem QhV (s : Pm.Store) (t : Pl.Tree) : (Pl.QaL s t && Pl.Qba s (Pl.Qaa s t)) = Pl.Qak s t := by
 rw [Bool.eq_iff_iff, Qe3]
 have hnl : (Pl.Qab s t).length = (Pl.Qaa s t).length := by unfold Pl.Qab; rw [List.length_map]
 rw [Bool.and_eq_true]
 unfold Pl.QaL Pl.Qba Pl.Qbm Pl.chF
 rw [Bool.and_eq_true, Bool.and_eq_true, decide_eq_true_eq, List.all_eq_true]
 have hk2 : ∀ k, Pl.Qad (Pl.Qab s t) k = 2 ↔ ((Pl.Qab s t).getD k Pl.zn).kind = 2 := fun k => by
  have := Qcy (nsOk s t) k
  unfold Pl.Qad; omega
 have hk1 : ∀ k, Pl.Qad (Pl.Qab s t) k = 1 ↔ ((Pl.Qab s t).getD k Pl.zn).kind = 1 := fun k => by
  have := Qcy (nsOk s t) k
  unfold Pl.Qad; omega
 show ((Pl.Qa8 s t = true /\ Pl.Qad (Pl.Qab s t) 0 = 2) /\ ∀ k ∈ List.range (Pl.Qaa s t).length, Pl.Qar s (Pl.Qaa s t) k = true) /\ _ ↔ _
 rw [<- hnl]
 constructor
 ·rintro ⟨⟨⟨h1, h2⟩, h3⟩, h4⟩
  have hG : ∀ k, Pl.Qad (Pl.Qab s t) k ≠ 0 -> Pl.Qar s (Pl.Qaa s t) k = true := fun k hk => h3 k (List.mem_range.2 (Qce hk))
  refine ⟨h1, (hk2 0).1 h2, fun k hk => ?_, fun k hk => ?_, ?_⟩
  ·have h := hG k (by rw [(hk1 k).2 hk]; decide)
   have e : Pl.Qad (Pl.Qac (Pl.Qaa s t)) k = 1 := (hk1 k).2 hk
   unfold Pl.Qar at h
   rw [e] at h
   show Pl.Qax s ((Pl.Qac (Pl.Qaa s t)).getD k Pl.zn) = true
   generalize (Pl.Qac (Pl.Qaa s t)).getD k Pl.zn = N at h ⊢
   simpa using h
  ·have h := hG k (by rw [(hk2 k).2 hk]; decide)
   have e : Pl.Qad (Pl.Qac (Pl.Qaa s t)) k = 2 := (hk2 k).2 hk
   unfold Pl.Qar at h
   rw [e] at h
   show (Pl.ents s ((Pl.Qac (Pl.Qaa s t)).getD k Pl.zn)).2 = true
   generalize (Pl.Qac (Pl.Qaa s t)).getD k Pl.zn = N at h ⊢
   simpa using h
  ·cases hb : Gr.bfs (Pl.Qad (Pl.Qac (Pl.Qaa s t))) (Gr.chOf (Pl.enF (Pl.Qac (Pl.Qaa s t)) (Pl.ents s))) (1 + Gr.left (Pl.Qad (Pl.Qac (Pl.Qaa s t))) (Pl.Qab s t).length []) [0] [] with
   |none => rw [hb] at h4; cases h4
   |some nm =>
    rw [hb] at h4
    simp only [List.all_eq_true, List.mem_range] at h4
    refine ⟨nm, hb, fun k hk0 hk => ?_⟩
    have := h4 k (Qce hk)
    rw [Bool.or_eq_true, Bool.or_eq_true, decide_eq_true_eq, decide_eq_true_eq, decide_eq_true_eq] at this
    rcases this with (h | h) | h
    ·exact absurd h hk0
    ·exact absurd h hk
    ·exact h
 ·rintro ⟨h1, h2, h3, h4, nm, h5, h6⟩
  refine ⟨⟨⟨h1, (hk2 0).2 h2⟩, fun k _ => ?_⟩, ?_⟩
  ·unfold Pl.Qar
   have hc := Qcy (nsOk s t) k
   rcases hc with hc | hc | hc
   ·have e : Pl.Qad (Pl.Qac (Pl.Qaa s t)) k = 0 := by show ((Pl.Qab s t).getD k Pl.zn).kind.toNat = 0; rw [hc]; rfl
    rw [e]; rfl
   ·have e : Pl.Qad (Pl.Qac (Pl.Qaa s t)) k = 1 := (hk1 k).2 hc
    have this : Pl.Qax s ((Pl.Qac (Pl.Qaa s t)).getD k Pl.zn) = true := h3 k hc
    rw [e]
    generalize (Pl.Qac (Pl.Qaa s t)).getD k Pl.zn = N at this ⊢
    simpa using this
   ·have e : Pl.Qad (Pl.Qac (Pl.Qaa s t)) k = 2 := (hk2 k).2 hc
    have this : (Pl.ents s ((Pl.Qac (Pl.Qaa s t)).getD k Pl.zn)).2 = true := h4 k hc
    rw [e]
    generalize (Pl.Qac (Pl.Qaa s t)).getD k Pl.zn = N at this ⊢
    simpa using this
  ·rw [show Gr.bfs (Pl.Qad (Pl.Qac (Pl.Qaa s t))) (Gr.chOf (Pl.enF (Pl.Qac (Pl.Qaa s t)) (Pl.ents s))) (1 + Gr.left (Pl.Qad (Pl.Qac (Pl.Qaa s t))) (Pl.Qab s t).length []) [0] [] = some nm from h5]
   simp only [List.all_eq_true, List.mem_range]
   intro k _
   rw [Bool.or_eq_true, Bool.or_eq_true, decide_eq_true_eq, decide_eq_true_eq, decide_eq_true_eq]
   by_cases hk0 : k = 0
   ·exact .inl (.inl hk0)
   ·by_cases hk : Pl.Qad (Pl.Qac (Pl.Qaa s t)) k = 0
    ·exact .inl (.inr hk)
    ·exact .inr (h6 k hk0 hk)
theorem QlC (s : Pm.Store) (t : Pl.Tree) (p : List UInt8) : Pl.Qaz s (Pl.Qaa s t) p = match Pl.Qag p with | none => -1 | some q => (Pl.Qa4 s (Pl.Qab s t) 0 q).getD (-1) := by
 unfold Pl.Qaz
 cases Pl.Qag p with
 |none => rfl
 |some q =>
  simp only
  unfold Pl.Qa4
  rw [<- QiT]
  rfl
theorem Qjv (F : Nat -> Int) (n : Nat) : ∀ (m : Nat) (V : List Nat), V.length = m -> V.Nodup -> (∀ k ∈ V, k < n) -> (V.map F).sum = Pl.QaC (fun k => if k ∈ V then F k else 0) n
 |0, V, hm, _, _ => by
  obtain rfl := List.length_eq_zero_iff.1 hm
  have : ∀ n, Pl.QaC (fun k => if k ∈ ([] : List Nat) then F k else 0) n = 0 := fun n => by
   induction n with
   |zero => rfl
   |succ n ih => unfold Pl.QaC; rw [ih]; simp
  rw [this]; rfl
 |m + 1, V, hm, hV, hlt => by
  rcases List.eq_nil_or_concat V with rfl | ⟨W, a, rfl⟩
  ·simp at hm
  ·rw [List.concat_eq_append] at *
   rw [List.nodup_append] at hV
   have ha : a ∉ W := fun h => hV.2.2 a h a (by simp) rfl
   rw [Qhu ha, if_pos (hlt a (by simp)), List.map_append, List.sum_append, Qjv F n m W (by simpa using hm) hV.1 (fun k hk => hlt k (by simp [hk]))]
   simp
theorem Qos {kind : Nat -> Nat} {ch : Nat -> Option (List Nat)} : ∀ {es L : List Nat} {e : Nat}, Gr.FD kind ch es L -> e ∈ es -> ∃ M, Gr.FD kind ch [e] M /\ M.length <= L.length
 |[], _, _, _, h => by cases h
 |k :: es, L, e, h, hm => by
  obtain ⟨M, R, rfl, h1, h2⟩ := Qmm h
  rcases List.mem_cons.1 hm with rfl | hm
  ·exact ⟨M, h1, by simp⟩
  ·obtain ⟨M', g1, g2⟩ := Qos h2 hm
   exact ⟨M', g1, by simp; omega⟩
theorem QjF {s : Pm.Store} {x : List (List UInt8)} : ∀ {q : List (List UInt8)} {i j : Int} {L : List Nat}, 0 <= i -> Gr.FD (Pl.Qad (Pl.Qac x)) (Pl.chF s x) [i.toNat] L -> Pl.QaX (Pl.entL s x) i q = some j -> ∃ M, Gr.FD (Pl.Qad (Pl.Qac x)) (Pl.chF s x) [j.toNat] M /\ M.length <= L.length
 |[], i, j, L, _, h, hf => by rw [Qmj] at hf; obtain rfl := Option.some.inj hf; exact ⟨L, h, Nat.le_refl _⟩
 |n :: q, i, j, L, hi, h, hf => by
  rw [QeK] at hf
  obtain ⟨L1, rfl, h1, _⟩ := Qmk h
  rw [show ((i.toNat : Nat) : Int) = i by omega] at h1
  cases he : (Pl.entL s x i).find? (fun e => e.1 == n) with
  |none => rw [he] at hf; cases hf
  |some e =>
   rw [he] at hf
   have hm := List.mem_of_find?_eq_some he
   obtain ⟨M, g1, g2⟩ := Qos h1 (List.mem_map.2 ⟨e, hm, rfl⟩)
   have hb := ent_b (Qmp s x i) e hm
   obtain ⟨M', g3, g4⟩ := QjF (by omega) g1 hf
   exact ⟨M', g3, by simp; omega⟩
def Pl.Qbl (n : Pl.Node) : Int := if n.kind = 2 then 0 else n.size
theorem Qna (s : Pm.Store) (t : Pl.Tree) (p : List UInt8) (F G : Pl.Node -> Int) (hFG : ∀ n : Pl.Node, n.kind = 1 ∨ n.kind = 2 -> F n = G n) : ∃ L : List Nat,
 (Pl.Qaf s = true -> Pl.QaL s t = true -> Pl.Qba s (Pl.Qaa s t) = true -> ¬ Pl.Qaz s (Pl.Qaa s t) p < 0 -> L.length <= 1000 /\ Gr.FD (Pl.Qad (Pl.Qac (Pl.Qaa s t))) (Pl.chF s (Pl.Qaa s t)) [(Pl.Qaz s (Pl.Qaa s t) p).toNat] L) /\
 Pl.sumP s t p F (Pl.Qan [] L) = Pl.Qa7 s t p G := by
 unfold Pl.sumP Pl.Qa7
 have hl := QhV s t
 rw [Bool.and_assoc, hl]
 have hp := QlC s t p
 cases hq : Pl.Qag p with
 |none =>
  rw [hq] at hp
  have hp : Pl.Qaz s (Pl.Qaa s t) p = -1 := hp
  refine ⟨[], fun _ _ _ h => absurd (by rw [hp]; decide) h, ?_⟩
  rw [hp]; simp
 |some q =>
  rw [hq] at hp
  have hp : Pl.Qaz s (Pl.Qaa s t) p = (Pl.Qa4 s (Pl.Qab s t) 0 q).getD (-1) := hp
  simp only
  by_cases hF : (Pl.Qaf s && Pl.Qak s t) = true
  rotate_left
  ·refine ⟨[], fun h1 h2 h3 _ => absurd (by rw [h1, <- hl, h2, h3]; rfl) hF, ?_⟩
   rw [if_neg hF, if_neg hF]
  have hF0 := hF
  rw [Bool.and_eq_true] at hF
  have hFi := (Qe3 s t).1 hF.2
  cases hj : Pl.Qa4 s (Pl.Qab s t) 0 q with
  |none =>
   rw [hj] at hp
   have hp : Pl.Qaz s (Pl.Qaa s t) p = -1 := hp
   refine ⟨[], fun _ _ _ h => absurd (by rw [hp]; decide) h, ?_⟩
   rw [if_pos hF0, if_pos hF0, if_pos (by rw [hp]; decide)]
  |some j =>
   rw [hj] at hp
   have hp : Pl.Qaz s (Pl.Qaa s t) p = j := hp
   rw [hp]
   have hj0 := QgQ (Int.le_refl 0) hj
   obtain ⟨M, hM, hs⟩ := Qls hFi hj
   refine ⟨M, fun _ _ _ _ => ⟨?_, ?_⟩, ?_⟩
   ·have hOk := hF.2
    unfold Pl.Qak at hOk
    simp only [Bool.and_eq_true, beq_iff_eq] at hOk
    obtain ⟨L, g1, g2, g3⟩ := Qe1 s hFi.root hOk.1.2
    have hj' := hj
    unfold Pl.Qa4 at hj'
    rw [<- QiT] at hj'
    obtain ⟨M', g4, g5⟩ := QjF (s := s) (x := Pl.Qaa s t) (i := 0) (L := L.map Prod.snd) (Int.le_refl 0) (show Gr.FD (Pl.Qad (Pl.Qab s t)) (Gr.chOf (Pl.enF (Pl.Qab s t) (Pl.ents s))) [0] _ from g1.fd) hj'
    rw [<- g4.unique hM] at g5
    rw [List.length_map] at g5
    omega
   ·exact hM
   ·rw [if_pos hF0, if_pos hF0, if_neg (by omega), hs]
    congr 1
    have hV : (Pl.Qan [] M).Nodup := QeS List.nodup_nil
    have hmem : ∀ k, k ∈ Pl.Qan [] M ↔ k ∈ M := fun k => by rw [QeG]; simp
    have hlt : ∀ k ∈ Pl.Qan [] M, k < (Pl.Qab s t).length := fun k hk => by
     rcases hM.kinds k ((hmem k).1 hk) with h | h
     ·exact Qce (by omega)
     ·exact Qce (by omega)
    unfold Pl.QaV
    rw [List.map_map, Qjv _ (Pl.Qab s t).length _ _ rfl hV hlt]
    refine Qef fun k _ => ?_
    simp only [hmem, Function.comp]
    by_cases hk : k ∈ M
    ·rw [if_pos hk, if_pos hk]
     have hkd := hM.kinds k hk
     show F ((Pl.Qab s t).getD k Pl.zn) = G ((Pl.Qab s t).getD k Pl.zn)
     have hc := Qcy (nsOk s t) k
     unfold Pl.Qad at hkd
     rcases hc with h | h | h
     ·rw [h] at hkd; rcases hkd with h | h
      ·cases h
      ·cases h.1
     ·exact hFG _ (.inl h)
     ·exact hFG _ (.inr h)
    ·rw [if_neg hk, if_neg hk]
theorem QnE (n : Pl.Node) (h : n.kind = 1 ∨ n.kind = 2) : Pl.Qbl n = Pl.Qam n := by
 unfold Pl.Qbl Pl.Qam
 rcases h with h | h <;> rw [h] <;> rfl
end Aw
end Go.Proofs.YtdjkdcokjoiokaaGreatDoor
namespace Go.Proofs.YtdjkdcokjoiokaaGreatDoor
open Go.RowKit
namespace Aw
open Pm
theorem bText (s : Pm.Store) (hg : Pl.Good s) (htx : 0 <= s.2.2.1) (hin : ∀ t, ∀ p ∈ (Pl.Qai s t).1, Pm.PtrIn p) : Pl.Qbq s := by
 intro n hno hk B σ S H w cargs hB hS hl hr
 match cargs, hl with
 |[a, b], _ =>
 have h0 := hr 0 _ a rfl rfl
 have h1 := hr 1 _ b rfl rfl
 obtain rfl : b = nodeV n := by
  have := Qdh (l := [dNode n]) (vs := [nodeV n]) (cs := [b]) rfl rfl (fun i d v hd hv => hr (i + 1) d v hd hv)
  simpa using this
 have HW := hid (AtW.mk hB hS h0)
 have HL := hid (hB.ltOf hS)
 clear hr h1 hB hS
 suffices h : Calls Tryz.prog 263 #[a, nodeV n] w fun e w' => (∃ txt, e = .returned (.tuple #[.string txt, .bool (Pl.Qax s n)])) /\ Below w.heap.size w w' by
  refine h.mono ?_
  rintro e w' ⟨⟨txt, rfl⟩, hb⟩
  refine ⟨_, rfl, hb, .tup _ _ rfl fun i d v hd hv => ?_⟩
  match i, hd, hv with
  |0, hd, hv => obtain rfl := Option.some.inj hd; exact .any _
  |1, hd, hv => obtain rfl := Option.some.inj hd; obtain rfl := Option.some.inj hv; exact .v _
 obtain ⟨ad, rfl⟩ : ∃ ad, a = .pointer ad := by cases h0; exact ⟨_, rfl⟩
 clear h0
 have Hnn := hid hno
 have Hf := hid (QgT (s := s) hno hk)
 obtain ⟨kd, links, size, ⟨⟨p1, p2, p3, p4, p5⟩, depth, many⟩⟩ := n
 simp only at hk
 subst hk
 have Hok1 : Hid (∀ wk, Below w.heap.size w wk -> Calls Tryz.prog 309 #[.agg #[.int .i64 1, .int .i64 links, .int .i64 size, .int .i64 p1, .int .i64 p2, .int .i64 p3, .int .i64 p4, .int .i64 p5, .int .i64 depth, .int .i64 many]] wk fun e w' => e = .returned (.bool true) /\ Below wk.heap.size wk w') :=
  hid fun wk hb => (cNodeOk HW.out hb ⟨1, links, size, ⟨⟨p1, p2, p3, p4, p5⟩, depth, many⟩⟩).mono fun e w' h => ⟨by rw [h.1, Hnn.out], h.2⟩
 have Hlv : Hid (∀ wk, Below w.heap.size w wk -> Calls Tryz.prog 148 #[.pointer ad, .agg #[.int .i64 p1, .int .i64 p2, .int .i64 p3, .int .i64 p4, .int .i64 p5, .int .i64 depth, .int .i64 many]] wk fun e w' =>
  ∃ A c, e = .returned (.tuple #[.slice A (Pl.Qai s ⟨⟨p1, p2, p3, p4, p5⟩, depth, many⟩).1.length c, .bool (Pl.Qai s ⟨⟨p1, p2, p3, p4, p5⟩, depth, many⟩).2]) /\ Below wk.heap.size wk w' /\ Pm.At w' w'.heap.size A (Pl.Qai s ⟨⟨p1, p2, p3, p4, p5⟩, depth, many⟩).1) :=
  hid fun wk hb => cLeaves HW.out hb hg htx ⟨⟨p1, p2, p3, p4, p5⟩, depth, many⟩ (hin _)
 clear Hnn
 unfold nodeV
 go_enter Tryz.func263, Tryz.ntmps263
 go_wp2_with fail
 refine (Hok1.out _ (bnew _ _)).mono ?_
 rintro e w1 ⟨rfl, hb1⟩
 have Hbx : Hid (∀ (j : Nat) v, ([.int .i64 1, .int .i64 links, .int .i64 size, .int .i64 p1, .int .i64 p2, .int .i64 p3, .int .i64 p4, .int .i64 p5, .int .i64 depth, .int .i64 many] : List Value)[j]? = some v -> w1.cell? ⟨w.heap.size, j, none⟩ = some v) := hid fun j v hv => by
  rw [hb1.cell (by simp)]
  rw [cell_of_row _ _ j _ _ _ (Qc6 _ _)]
  exact (List.getElem?_toArray ..).trans hv
 have Hb1 := hid (btr (bnew w _) hb1)
 have Hsz : Hid (w.heap.size < w1.heap.size) := hid (by have := hb1.size; simp at this; omega)
 clear hb1
 have x0 := Hbx.out 0 _ rfl
 have x3 := Hbx.out 3 _ rfl
 have x4 := Hbx.out 4 _ rfl
 have x5 := Hbx.out 5 _ rfl
 have x6 := Hbx.out 6 _ rfl
 have x7 := Hbx.out 7 _ rfl
 have x8 := Hbx.out 8 _ rfl
 have x9 := Hbx.out 9 _ rfl
 go_wp2_with fail
 refine (Hlv.out _ Hb1.out).mono ?_
 rintro e w2 ⟨A, c, rfl, hb2, hA⟩
 have Hb2 := hid (btr Hb1.out hb2)
 have HA2 := hid hA
 have y2 := (hb2.cell (p := ⟨w.heap.size, 2, none⟩) Hsz.out).trans (Hbx.out 2 _ rfl)
 have Hsz2 : Hid (w.heap.size < w2.heap.size) := hid (by have := hb2.size; have := Hsz.out; omega)
 clear x0 x3 x4 x5 x6 x7 x8 x9 Hbx Hsz Hb1 hA hb2 Hlv Hok1
 cases ht : (Pl.Qah s ⟨⟨p1, p2, p3, p4, p5⟩, depth, many⟩)
 ·have hlv : Pl.Qai s ⟨⟨p1, p2, p3, p4, p5⟩, depth, many⟩ = ([], false) := by unfold Pl.Qai; rw [ht]; rfl
  have hfl : Hid (Pl.Qax s ⟨1, links, size, ⟨⟨p1, p2, p3, p4, p5⟩, depth, many⟩⟩ = false) := hid (by rw [Hf.out, ht]; rfl)
  clear Hf
  rw [hlv]
  go_wp2
  go_ret2
  exact ⟨⟨⟨#[]⟩, by rw [hfl.out]; rfl⟩, Hb2.out⟩
 have hl2 : (Pl.Qai s ⟨⟨p1, p2, p3, p4, p5⟩, depth, many⟩).2 = true := by unfold Pl.Qai; rw [if_pos ht]
 rw [ht] at Hf
 have Hho := hid (QcT ht)
 have Hll := hid (Qdw ht)
 rw [hl2]
 clear hl2 ht
 simp only at Hf Hll
 generalize (Pl.Qai s ⟨⟨p1, p2, p3, p4, p5⟩, depth, many⟩).1 = ps at HA2 Hho Hll Hf ⊢
 obtain ⟨fo, hfo⟩ : ∃ fo, Hid (Pl.Qax s ⟨1, links, size, ⟨⟨p1, p2, p3, p4, p5⟩, depth, many⟩⟩ = fo) := ⟨_, hid rfl⟩
 rw [hfo.out] at Hf
 go_wp2_with fail
 go_loopw [34] (fun iv wr => ∃ (k : Nat) (txt : List UInt8), k <= ps.length /\ iv = .int .i64 k /\ Hid (Bld w2.heap.size txt wr) /\ txt.length <= 12 * k /\ Hid ((List.range k).all (fun k => Pl.QaS size k ((ps.map fun p => (Pl.rd s.1 p).1).getD k [])) = true) /\ Hid (Below w2.heap.size w2 wr)) (fun iv _ => ps.length - (intOf iv).toNat)
 case atStart => exact ⟨0, [], by omega, rfl, hid (bldNew w2), by simp, hid rfl, hid (bnew _ _)⟩
 case round =>
  obtain ⟨k, txt, hkl, rfl, HB, htl, HP, Hbel⟩ := hrel
  by_cases hlt : k < ps.length
  ·have hltI : (k : Int) < ps.length := by omega
   obtain ⟨bb, off, cs, rfl, hbb, hc, hv⟩ := (HA2.out.up Hbel.out).elem hlt
   obtain ⟨p, He⟩ : ∃ p, Hid (p = ps[k]) := ⟨ps[k], hid rfl⟩
   rw [<- He.out] at hc
   obtain ⟨rfl, hpin⟩ := hc
   have Hpk := hid ((Hho.out p (by rw [He.out]; exact List.getElem_mem hlt)).1)
   have Hx : Hid ((ps.map fun p => (Pl.rd s.1 p).1).getD k [] = (Pl.rd s.1 p).1) := hid (by
    rw [List.getD_eq_getElem?_getD, List.getElem?_map, List.getElem?_eq_getElem hlt, <- He.out]; rfl)
   have Hrl := hid (Qga s hg p)
   obtain ⟨q1, q2, q3, q4, q5⟩ := p
   have e0 := hv 0 _ rfl
   have e1 := hv 1 _ rfl
   have e2 := hv 2 _ rfl
   have e3 := hv 3 _ rfl
   have e4 := hv 4 _ rfl
   simp only [Rep.size, Nat.add_zero] at e0 e1 e2 e3 e4
   clear hv hbb hpin He
   go_wp2_with fail
   refine (cRead HW.out (btr (btr Hb2.out Hbel.out) (bnew _ _)) hg ⟨q1, q2, q3, q4, q5⟩ (fun _ => Hpk.out)).mono ?_
   rintro e w3 ⟨rfl, hb3⟩
   have Hb3 := hid (btr Hbel.out (btr (bnew _ _) hb3))
   have HB3 := hid (HB.out.below (btr (bnew _ _) hb3))
   have z2 := (Hb3.out.cell (p := ⟨w.heap.size, 2, none⟩) Hsz2.out).trans y2
   have Hfp := QfF hno rfl (k := k) (by have := Hll.out.1; simp only; omega)
   simp only at Hfp
   have hT : Hid (Pl.QaS size k (Pl.rd s.1 ⟨q1, q2, q3, q4, q5⟩).1 = true -> (List.range (k + 1)).all (fun k => Pl.QaS size k ((ps.map fun p => (Pl.rd s.1 p).1).getD k [])) = true) := hid fun h => Pl.QbM (p := fun k => Pl.QaS size k ((ps.map fun p => (Pl.rd s.1 p).1).getD k [])) HP.out (by rw [Hx.out]; exact h)
   have hF : Hid (Pl.QaS size k (Pl.rd s.1 ⟨q1, q2, q3, q4, q5⟩).1 = false -> fo = false) := hid fun h => by
    rw [Hf.out, Bool.true_and]
    exact Pl.QbI (p := fun k => Pl.QaS size k ((ps.map fun p => (Pl.rd s.1 p).1).getD k [])) hlt (by rw [Hx.out]; exact h)
   clear hb3 e0 e1 e2 e3 e4 Hx HB y2
   generalize (Pl.rd s.1 ⟨q1, q2, q3, q4, q5⟩).2 = rok at *
   generalize (Pl.rd s.1 ⟨q1, q2, q3, q4, q5⟩).1 = x at *
   go_wp2_with fail
   refine (QkI HW.out (btr Hb2.out Hb3.out) size k (by omega) (by omega) (by have := Hll.out; omega)).mono ?_
   rintro e w4 ⟨rfl, hb4⟩
   have Hb4 := hid (btr Hb3.out hb4)
   have HB4 := hid (HB3.out.below hb4)
   clear hb4 HB3 z2
   go_wp2_with fail
   refine (QkJ HW.out (btr Hb2.out Hb4.out) x (Pl.Qbe size k) (by have := Hrl.out; omega)).mono ?_
   rintro e w5 ⟨rfl, hb5⟩
   have Hb5 := hid (btr Hb4.out hb5)
   have HB5 := hid (HB4.out.below hb5)
   clear hb5 HB4
   have hpd : Pl.QaS size k x = ((Pl.fill x (Pl.Qbe size k)).2 && !(([0] : List UInt8).isSuffixOf x)) := rfl
   rw [hpd] at hT hF
   have hfl : (Pl.fill x (Pl.Qbe size k)).2 = true -> (Pl.fill x (Pl.Qbe size k)).1.length <= 12 := fun h => by
    unfold Pl.fill at h ⊢
    split at h
    ·rename_i hc
     rw [if_pos hc]
     simp only [Bool.and_eq_true, decide_eq_true_eq, Pl.inR] at hc
     simp only [List.length_append, List.length_replicate]
     omega
    ·cases h
   clear hpd
   generalize Pl.fill x (Pl.Qbe size k) = fl at *
   obtain ⟨full, fine⟩ := fl
   simp only at hT hF hfl
   cases fine
   ·have hff := hid (hF.out rfl)
    clear hT hF hfl
    go_wp2
    go_ret2
    exact ⟨⟨⟨#[]⟩, by rw [hfo.out, hff.out]; rfl⟩, btr Hb2.out Hb5.out⟩
   ·have hfl := hfl rfl
    go_wp2_with fail
    refine (QkK x [0] (by have := Hrl.out; omega) _).mono ?_
    rintro e w6 ⟨rfl, hb6⟩
    have Hb6 := hid (btr Hb5.out hb6)
    have HB6 := hid (HB5.out.below hb6)
    clear hb6 HB5
    cases hsx : (([0] : List UInt8).isSuffixOf x)
    ·have hall := hid (hT.out (by rw [hsx]; rfl))
     clear hT hF
     go_wp2_with fail
     refine (bldStr HB6.out full (by have := Hll.out; omega)).mono ?_
     rintro e w7 ⟨rfl, hB7, hb7⟩
     have HB7 := hid hB7
     have Hb7 := hid (Hb6.out.trans hb7)
     clear hB7 hb7
     go_wp2_with fail
     go_roundw
     case rel => exact ⟨k + 1, txt ++ full, by omega, by go_num, HB7, by simp only [List.length_append]; omega, hall, Hb7⟩
     case measure => simp only [intOf]; omega
    ·have hff := hid (hF.out (by rw [hsx]; rfl))
     clear hT hF
     go_wp2
     go_ret2
     exact ⟨⟨⟨#[]⟩, by rw [hfo.out, hff.out]; rfl⟩, btr Hb2.out Hb6.out⟩
  ·have hk' : k = ps.length := by omega
   have hff : Hid (fo = true) := hid (by rw [Hf.out, <- hk', HP.out]; rfl)
   have hltI : ¬ (k : Int) < ps.length := by omega
   go_wp2_with fail
   refine (bldText HB.out).mono ?_
   rintro e w5 ⟨rfl, hb5⟩
   go_wp2
   go_ret2
   exact ⟨⟨_, by rw [hfo.out, hff.out]; rfl⟩, btr Hb2.out (Hbel.out.trans hb5)⟩
theorem Qk7 (s : Pm.Store) (t : Pl.Tree) : ∀ p ∈ (Pl.Qai s t).1, Pm.PtrIn p := fun p hp => by
 cases ht : Pl.Qah s t
 ·unfold Pl.Qai at hp
  rw [ht] at hp
  simp at hp
 ·have h := Pl.Qcj ((QcT ht p hp).1)
  unfold Pm.PtrIn Pm.InI
  omega
theorem Qjl (s : Pm.Store) (hl : Pl.Lens s) (i1 : ∀ n ∈ s.2.1.1, Pm.InI n) (i2 : ∀ n ∈ s.2.1.2, Pm.InI n) (t : Pl.Tree) (p : List UInt8) (hp : p.length <= 1000000000000) :
 Pure Tryz.prog 20 [dSt s, dTree t, dS p] (.tup [dI (Pl.Qa7 s t p Pl.Qam).1, dB (Pl.Qa7 s t p Pl.Qam).2]) := by
 obtain ⟨L, hL, hs⟩ := Qna s t p Pl.Qbl Pl.Qam QnE
 rw [<- hs]
 have hg : Pl.Qaf s = true -> Pl.Good s /\ 0 <= s.2.2.1 := fun h => ⟨QcR h, by
  unfold Pl.Qaf at h
  simp only [Bool.and_eq_true, Pl.inR, decide_eq_true_eq] at h
  omega⟩
 refine Qio s t p _ (bSum s t p hp (QnF s hl.b1 hl.b2 hl.b3 hl.b4 i1 i2) hg (fun h => bText s (hg h).1 (hg h).2 (Qk7 s)) _ Pl.Qbl Tryz.call62 (fun n => bBytes1 n) (fun n hn => ?_) L hL)
 have h1 := hn.size
 unfold Pl.Qbl
 split <;> omega
end Aw
end Go.Proofs.YtdjkdcokjoiokaaGreatDoor
namespace Go.Proofs.YtdjkdcokjoiokaaGreatDoor
open Go.RowKit
namespace Aw
open Pm (Rep)
theorem Qg4 {α : Type} [Rep α] {w : World} {N : Nat} {A : Option Addr} {l : List α} (row : α -> List D) (c : Nat) (hrow : ∀ cs x, Rep.cells w N cs x -> row x = cs.map D.v /\ cs.length = Rep.size α) (h : Pm.At w N A l) :
 RelD (fun b => b < N) w (.sl false (Rep.size α) (l.map row)) (.slice A l.length c) := by
 by_cases h0 : 0 < l.length
 ·obtain ⟨b, off, rfl, hb, hc⟩ := h h0
  have key : ∀ (i j : Nat) r d, (l.map row)[i]? = some r -> r[j]? = some d -> ∃ v, d = .v v /\ w.cell? ⟨b, off + i * Rep.size α + j, none⟩ = some v := fun i j r d hr hd => by
   rw [List.getElem?_map] at hr
   obtain ⟨x, hx, rfl⟩ := Option.map_eq_some_iff.1 hr
   obtain ⟨cs, h1, h2⟩ := hc i x hx
   rw [(hrow cs x h1).1, List.getElem?_map] at hd
   obtain ⟨v, hv, rfl⟩ := Option.map_eq_some_iff.1 hd
   exact ⟨v, rfl, h2 j v hv⟩
  have := RelD.sl (S := fun b => b < N) (w := w) false (Rep.size α) (l.map row) b off c (fun i j => (w.cell? ⟨b, off + i * Rep.size α + j, none⟩).getD undef) hb
   (fun r hr => by
     obtain ⟨x, hx, rfl⟩ := List.mem_map.1 hr
     obtain ⟨i, hi⟩ := List.getElem?_of_mem hx
     obtain ⟨cs, h1, _⟩ := hc i x hi
     rw [(hrow cs x h1).1, List.length_map, (hrow cs x h1).2])
   (fun h => by cases h)
   (fun i j r d hr hd => by obtain ⟨v, _, hv⟩ := key i j r d hr hd; rw [hv]; rfl)
   (fun i j r d hr hd => by obtain ⟨v, rfl, hv⟩ := key i j r d hr hd; rw [hv]; exact .v _)
  rwa [List.length_map] at this
 ·have : l = [] := List.eq_nil_of_length_eq_zero (by omega)
  subst this
  exact .slnil _ _ _ _
theorem Qgb {w : World} {N : Nat} {A : Option Addr} {l : List Pl.Ptr} (c : Nat) (h : Pm.At w N A l) : RelD (fun b => b < N) w (dPtrs l) (.slice A l.length c) :=
 Qg4 rPtr c (fun cs x h => ⟨by rw [h.1]; rfl, by rw [h.1]; rfl⟩) h
theorem Qgq {w : World} {N : Nat} {A : Option Addr} {l : List Int} (c : Nat) (h : Pm.At w N A l) : RelD (fun b => b < N) w (dInts l) (.slice A l.length c) :=
 Qg4 (fun n => [dI n]) c (fun cs x h => ⟨by rw [h.1]; rfl, by rw [h.1]; rfl⟩) h
theorem Qki {w : World} {N : Nat} {A : Option Addr} {l : List (List UInt8)} (c : Nat) (h : Pm.At w N A l) : RelD (fun b => b < N) w (dStrs l) (.slice A l.length c) :=
 Qg4 (fun s => [dS s]) c (fun cs x h => ⟨by rw [h.1]; rfl, by rw [h.1]; rfl⟩) h
theorem Qi1 {w : World} {N : Nat} {s : Pm.Store} {A1 A2 A3 A4 A5 : Option Addr} (c1 c2 c3 c4 c5 : Nat) (h : Pm.StAt w N s A1 A2 A3 A4 A5) : RelD (fun b => b < N) w (dSt s) (.agg (Pm.stV s A1 A2 A3 A4 A5 c1 c2 c3 c4 c5)) := by
 refine .agg _ [_, _, _, _, _, _, _, _] rfl fun i d v hd hv => ?_
 match i, hd, hv with
 |0, hd, hv => obtain rfl := Option.some.inj hd; obtain rfl := Option.some.inj hv; exact Qki c1 h.a1
 |1, hd, hv => obtain rfl := Option.some.inj hd; obtain rfl := Option.some.inj hv; exact Qgq c2 h.a2
 |2, hd, hv => obtain rfl := Option.some.inj hd; obtain rfl := Option.some.inj hv; exact Qgq c3 h.a3
 |3, hd, hv => obtain rfl := Option.some.inj hd; obtain rfl := Option.some.inj hv; exact .v _
 |4, hd, hv => obtain rfl := Option.some.inj hd; obtain rfl := Option.some.inj hv; exact Qgb c4 h.a4
 |5, hd, hv => obtain rfl := Option.some.inj hd; obtain rfl := Option.some.inj hv; exact .v _
 |6, hd, hv => obtain rfl := Option.some.inj hd; obtain rfl := Option.some.inj hv; exact Qgb c5 h.a5
 |7, hd, hv => obtain rfl := Option.some.inj hd; obtain rfl := Option.some.inj hv; exact .v _
theorem Pure.at {f : FuncId} {args : List D} {x : D} (h : Pure Tryz.prog f args x) {w : World} (hL : Pm.Lt w) (cargs : List Value) (hl : args.length = cargs.length) (hr : ∀ (i : Nat) d v, args[i]? = some d -> cargs[i]? = some v -> RelD (fun b => b < w.heap.size) w d v) :
 Calls Tryz.prog f cargs.toArray w fun e w' => ∃ v, e = .returned v /\ Below w.heap.size w w' /\ RelD (fun b => b < w'.heap.size) w' x v := by
 have hS : Sm ⟨w, nG, fun _ => False, fun b => b < w.heap.size⟩ (fun _ => none) (fun b => b < w.heap.size) [] w :=
  ⟨rfl, rfl, rfl, Nat.le_refl _, fun _ _ _ => rfl, fun _ h => h, fun b hb => ⟨hb, .inl hb⟩, fun k b hk => by simp at hk, fun k k' b hk => by simp at hk, fun k C hC => by simp at hC⟩
 refine (h ⟨w, nG, fun _ => False, fun b => b < w.heap.size⟩ (fun _ => none) (fun b => b < w.heap.size) [] w cargs ⟨rfl, fun _ hb => hb.elim, hL⟩ hS hl hr).mono fun e w' ⟨v, h1, h2, h3⟩ => ⟨v, h1, h2, h3.mono (fun b hb => ?_) fun _ _ => rfl⟩
 have := h2.size
 rcases hb with hb | hb
 ·have : b < w.heap.size := hb
  omega
 ·exact hb.2
end Aw
end Go.Proofs.YtdjkdcokjoiokaaGreatDoor

/- Part 10 of seek_card: contracts, walks, laws; no condition beyond the statement's. -/
import Derived.Test.YtdjkdcokjoiokaaGreatDoorW09
set_option linter.all false
namespace Go.Proofs.YtdjkdcokjoiokaaGreatDoor
section
open Go.RowKit
namespace Aw
namespace Fg
def Flts (P : Program) (ops : List Oper) (K : List (Nat × AV) -> Prop) : List Nat -> List (Nat × AV) -> Prop
 |[], env => K env
 |f :: r, env => ∃ o x, ops[f]? = some o /\ (∀ H, Loc P o env H x none) /\ Flts P ops K r (putE env o.dst x)
def PlanF (P : Program) (ops : List Oper) (fl : List Nat) (Q : St -> Prop) : List Nat -> Nat -> St -> Prop
 |[], off, s => ADraw P ops.toArray Q (segF fl ops.length off (ops.drop off)) s
 |m :: ms, off, s => Nat.ble off m = true /\ barOkF ops fl m = true /\ ∃ o, ops[m]? = some o /\ ADraw P ops.toArray (AStep P ops.toArray o (PlanF P ops fl Q ms (m + 1))) (segF fl m off (ops.drop off)) s
def PlanEndF (P : Program) (ops : List Oper) (fl : List Nat) (Q : St -> Prop) (off : Nat) : List Nat -> St -> Prop
 |[], s => Q s
 |m :: ms, s => off <= m /\ barOkF ops fl m = true /\ ∃ o, ops[m]? = some o /\ AStep P ops.toArray o (PlanF P ops fl Q ms (m + 1)) s
def segE (ops : List Oper) (fl : List Nat) (off : Nat) : List Nat -> List Oper
 |[] => segD fl ops.length off (ops.drop off)
 |m :: _ => segD fl m off (ops.drop off)
structure Fx (P : Program) (ops : List Oper) (fl : List Nat) (n : Nat) (env : List (Nat × AV)) (fx : List (Nat × Nat × AV)) : Prop where
 ok : ∀ f t x, (f, t, x) ∈ fx -> memN fl f = true /\ ∃ o, FlSt ops fl n f o t /\ look env t = x /\ ∀ H, Loc P o env H x none
 all : ∀ f, memN fl f = true -> ∃ t x, (f, t, x) ∈ fx
theorem flts_build {P : Program} {ops : List Oper} {fl : List Nat} {n : Nat} {K : List (Nat × AV) -> Prop} : ∀ (r : List Nat) (env : List (Nat × AV)), Flts P ops K r env -> (∀ f ∈ r, float1 ops fl n f = true) -> ascN r = true ->
 ∃ (env' : List (Nat × AV)) (fx : List (Nat × Nat × AV)), K env' /\ (∀ f t x, (f, t, x) ∈ fx -> f ∈ r /\ ∃ o, FlSt ops fl n f o t /\ look env' t = x /\ ∀ H, Loc P o env' H x none) /\ (∀ f ∈ r, ∃ t x, (f, t, x) ∈ fx) /\
   ∀ q, (∀ f ∈ r, ∀ o, ops[f]? = some o -> o.dst ≠ some q) -> look env' q = look env q
 |[], env, h, _, _ => ⟨env, [], h, fun f t x hm => by simp at hm, fun f hf => by simp at hf, fun _ _ => rfl⟩
 |f :: r, env, ⟨o, x, ho, hl, hk⟩, h1, ha => by
  simp only [ascN, Bool.and_eq_true, List.all_eq_true] at ha;obtain ⟨env', fx, hK, hfx, hall, hq⟩ := flts_build (fl := fl) (n := n) r _ hk (fun g hg => h1 g (List.mem_cons_of_mem _ hg)) ha.2;obtain ⟨o', t, hf⟩ := Qfv (h1 f List.mem_cons_self);have := hf.op;rw [ho] at this;obtain rfl := Option.some.inj this;rw [hf.dst] at hq;have hlater : ∀ g ∈ r, f < g := fun g hg => by simpa using ha.1 g hg
  have hqt : look env' t = x := by
   rw [hq t fun g hg p hp => hf.sole g p (by have := hlater g hg; omega) hp];exact QbM _ _ _
  refine ⟨env', (f, t, x) :: fx, hK, fun g u y hm => ?_, fun g hg => ?_, fun q hne => ?_⟩
  ·rcases List.mem_cons.1 hm with e | hm
   ·simp only [Prod.mk.injEq] at e
    obtain ⟨rfl, rfl, rfl⟩ := e;refine ⟨List.mem_cons_self, o, hf, hqt, fun H => (hl H).env fun q hq' => ?_⟩;have hqn : q ∈ names ops o := List.mem_append_left _ (List.mem_append_right _ (Qgo hq'));rw [hq q fun g hg p hp e => ?_]
    ·refine QbU (fun e => hf.own ?_) _ _
     rw [e]; exact hq'
    ·obtain ⟨p', u, hg'⟩ := Qfv (h1 g (List.mem_cons_of_mem _ hg))
     have := hg'.op;rw [hp] at this;obtain rfl := Option.some.inj this;have hu := hg'.dst;rw [e] at hu;obtain rfl := Option.some.inj hu;exact hg'.before _ _ (hlater g hg) ho hqn
   ·obtain ⟨h2, h3⟩ := hfx g u y hm
    exact ⟨List.mem_cons_of_mem _ h2, h3⟩
  ·rcases List.mem_cons.1 hg with rfl | hg
   ·exact ⟨t, x, List.mem_cons_self⟩
   ·obtain ⟨u, y, hm⟩ := hall g hg
    exact ⟨u, y, List.mem_cons_of_mem _ hm⟩
  ·rw [hq q fun g hg => hne g (List.mem_cons_of_mem _ hg)]
   exact QbU (fun e => hne f List.mem_cons_self o ho (by rw [hf.dst, e])) _ _
section
variable {P : Program} {ops : List Oper} {fl : List Nat} {n : Nat} {envF : List (Nat × AV)} {fx : List (Nat × Nat × AV)} {B : Bs}
def PhF (fx : List (Nat × Nat × AV)) (B : Bs) (F : Nat -> Bool) (l : List Oper) (s : St) (xv : Nat -> AV) (nb : Nat -> Option Blk) (E : Nat -> Bool) (a : Act) (w : World) : Prop :=
 ∃ σ S, Sm B σ S (HE s.H nb l.length E) w /\ a.defers = [] /\ a.tmps.size = s.n /\ (∀ f t x, (f, t, x) ∈ fx -> F f = true -> Rel σ S (HE s.H nb l.length E) w x (a.tmps.getD t undef)) /\ ∀ t, (∀ f x, (f, t, x) ∉ fx) ->
   (∃ i o, E i = true /\ l[i]? = some o /\ o.dst = some t /\ (∀ j o', E j = true -> l[j]? = some o' -> o'.dst = some t -> j <= i) /\ Rel σ S (HE s.H nb l.length E) w (xv i) (a.tmps.getD t undef)) ∨
   ((∀ j o, E j = true -> l[j]? = some o -> o.dst ≠ some t) /\ Rel σ S (HE s.H nb l.length E) w (look s.env t) (a.tmps.getD t undef))
def SmF (fx : List (Nat × Nat × AV)) (B : Bs) (F : Nat -> Bool) (σ : Sg) (S : Nat -> Prop) (s : St) (a : Act) (w : World) : Prop :=
 Sm B σ S s.H w /\ a.defers = [] /\ a.tmps.size = s.n /\ (∀ f t x, (f, t, x) ∈ fx -> F f = true -> Rel σ S s.H w x (a.tmps.getD t undef)) /\ ∀ t, (∀ f x, (f, t, x) ∉ fx) -> Rel σ S s.H w (look s.env t) (a.tmps.getD t undef)
theorem PhF.start {F : Nat -> Bool} {l : List Oper} {s : St} {xv : Nat -> AV} {nb : Nat -> Option Blk} {E : Nat -> Bool} {a : Act} {w : World} {σ : Sg} {S : Nat -> Prop} (hA : SmF fx B F σ S s a w) (hE : ∀ j o, l[j]? = some o -> E j = true -> o.dst = none /\ nb j = none) : PhF fx B F l s xv nb E a w := by
 obtain ⟨hsm, hdf, hsz, hfl, henv⟩ := hA
 have key : ∀ m, ∃ σ', Sm B σ' S (HE s.H nb m (fun _ => false)) w /\ Ev σ S s.H w σ' S (HE s.H nb m (fun _ => false)) w := by
  intro m;induction m with
  |zero => exact ⟨σ, by simpa [HE] using hsm, by simpa [HE] using Ev.refl σ S s.H w⟩
  |succ m ih =>
   obtain ⟨σ', h1, h2⟩ := ih
   have hsucc : HE s.H nb (m + 1) (fun _ => false) = HE s.H nb m (fun _ => false) ++ maskB false (nb m) := by
    unfold HE;rw [List.range_succ, List.flatMap_append, List.append_assoc]; simp
   rw [hsucc];cases hnb : nb m with
   |none => exact ⟨σ', by simpa [maskB] using h1, by simpa [maskB] using h2⟩
   |some C =>
    obtain ⟨h3, h4⟩ := h1.keepPlace;exact ⟨_, by simpa [maskB] using h3, by simpa [maskB] using h2.trans h4⟩
 obtain ⟨σ', h1, h2⟩ := key l.length
 have e : HE s.H nb l.length E = HE s.H nb l.length (fun _ => false) := by
  unfold HE
  congr 1
  apply congrArg List.flatten;apply List.map_congr_left;intro j hj;have hj := List.mem_range.1 hj;cases hEj : E j with
  |false => rfl
  |true => rw [(hE j _ (List.getElem?_eq_getElem hj) hEj).2]; rfl
 rw [<- e] at h1 h2;exact ⟨σ', S, h1, hdf, hsz, fun f t x hm hF => (hfl f t x hm hF).mono h2, fun t ht => .inr ⟨fun j o hj ho => by rw [(hE j o ho hj).1]; simp, (henv t ht).mono h2⟩⟩
theorem PhF.done {F : Nat -> Bool} {l : List Oper} {s : St} {st : Nat -> St} {xv : Nat -> AV} {nb : Nat -> Option Blk} {E : Nat -> Bool} {a : Act} {w : World} (hch : Chain P ops.toArray l st xv nb) (h0 : st 0 = s)
 (h : PhF fx B F l s xv nb E a w) (hall : ∀ i, i < l.length -> E i = true) : ∃ σ S, SmF fx B F σ S (st l.length) a w := by
 obtain ⟨σ, S, h1, h2, h3, h6, h4⟩ := h;have hn := hch.n;have hheap := hch.heap
 have hH : (st l.length).H = HE s.H nb l.length E := by
  rw [hheap _ (Nat.le_refl _), h0, <- HE_all (nb := nb) (E := E) (fun i hi => hall i hi)]
 refine ⟨σ, S, by rw [hH]; exact h1, h2, by rw [hn _ (Nat.le_refl _), h0]; exact h3, by rw [hH]; exact h6, fun t ht => ?_⟩;rw [hH];have hEi : ∀ (j : Nat) o, l[j]? = some o -> E j = true := fun j o ho => hall j (List.getElem?_eq_some_iff.1 ho).1
 have hlt : ∀ (j : Nat) o, l[j]? = some o -> j < l.length := fun j o ho => (List.getElem?_eq_some_iff.1 ho).1
 rcases hch.slot l.length (Nat.le_refl _) t with ⟨j, o, g1, g2, g3, g4, g5⟩ | ⟨g1, g2⟩
 ·rw [g5]
  rcases h4 t ht with ⟨i, o', k1, k2, k3, k4, k5⟩ | ⟨k1, _⟩
  ·have e1 := k4 j o (hEi j o g2) g2 g3
   have e2 := g4 i o' (hlt i o' k2) k2 k3;obtain rfl : i = j := by omega
   exact k5
  ·exact absurd g3 (k1 j o (hEi j o g2) g2)
 ·rw [g2, h0]
  rcases h4 t ht with ⟨i, o', k1, k2, k3, _⟩ | ⟨_, k5⟩
  ·exact absurd k3 (g1 i o' (hlt i o' k2) k2)
  ·exact k5
theorem put_same {a : Act} {t n : Nat} {v : Value} (h3 : a.tmps.size = n) (ht : t < n) : (a.put (some t) v).tmps.getD t undef = v := by
 have hlt : t < a.tmps.size := by omega
 simp only [Act.put];rw [Array.getD_eq_getD_getElem?, Array.getElem?_setIfInBounds_self_of_lt hlt]; rfl
theorem put_other {a : Act} {t : Nat} {d : Option Tmp} {v : Value} (h : d ≠ some t) : (a.put d v).tmps.getD t undef = a.tmps.getD t undef := by
 cases hd' : d with
 |none => rfl
 |some d' =>
  have : d' ≠ t := fun e => h (by rw [hd', e])
  simp only [Act.put];rw [Array.getD_eq_getD_getElem?, Array.getElem?_setIfInBounds_ne this, <- Array.getD_eq_getD_getElem?]
theorem slot_fx {F : Nat -> Bool} {i : Nat} {o : Oper} {t : Nat} (hX : Fx P ops fl n envF fx) (htmp : tmpOk ops = true) (ho : ops[i]? = some o) (hi : memN fl i = false) (hcl : Closed ops F) (hedge : ∀ e ∈ o.after, Region.binds .any e = true -> F e.on = true)
 (ht : t ∈ names ops o) {f : Nat} {x : AV} (hm : (f, t, x) ∈ fx) : F f = true := by
 obtain ⟨h1, p, hf, _, _⟩ := hX.ok f t x hm;have hne : f ≠ i := fun e => by subst e; rw [hi] at h1; cases h1
 rcases Nat.lt_or_ge f i with hlt | hge
 ·exact Qde hcl ho hedge ((Qc8 htmp ho hf.op ht hf.dst hne).1 hlt) hne
 ·exact absurd ht (hf.before i o (by omega) ho)
theorem PhF.step {F : Nat -> Bool} {off i : Nat} {l : List Oper} {s : St} {st : Nat -> St} {xv : Nat -> AV} {nb : Nat -> Option Blk} {E : Nat -> Bool} {a : Act} {w : World} {o : Oper} {K : Act -> World -> Prop} {Q : Exit -> Act -> World -> Prop} (hB : Gd B)
 (hX : Fx P ops fl n envF fx) (htmp : tmpOk ops = true) (hgd : ∀ (i : Nat) (o : Oper) (j : Nat) (want : Bool), ops[i]? = some o -> o.guard = some (j, want) -> ∀ p, ops[j]? = some p -> ∀ d, p.dst = some d -> Nat.blt d s.n = true)
 (hch : Chain P ops.toArray l st xv nb) (h0 : st 0 = s) (hlget : ∀ (j : Nat) o, l[j]? = some o -> (o = dum /\ memN fl (off + j) = true) ∨ (ops[off + j]? = some o /\ memN fl (off + j) = false)) (hqs : ∀ t, Quiet ops fl t -> look s.env t = look envF t)
 (hEF : ∀ (j : Nat), memN fl (off + j) = false -> E j = F (off + j))
 (hil : i < l.length) (ho : ops[off + i]? = some o) (hio : memN fl (off + i) = false) (hol : l[i]? = some o)
 (hcl : Closed ops F) (hedge : ∀ e ∈ o.after, Region.binds .any e = true -> F e.on = true) (hFi : F (off + i) = false) (h : PhF fx B F l s xv nb E a w)
 (hK : ∀ a' w', PhF fx B F l s xv nb (fun j => E j || decide (j = i)) a' w' -> K a' w') : wpOp P ops.toArray Q (off + i) K a w := by
 obtain ⟨σ, S, h1, h2, h3, h6, h4⟩ := h;have hn := hch.n;have hheap := hch.heap;have ho2 : ops.toArray[off + i]? = some o := by simpa using ho
 obtain ⟨⟨hdst, hstep⟩, hnext⟩ := hch.step i o hol;have hHi : (st i).H = s.H ++ (List.range i).flatMap fun j => (nb j).toList := by rw [hheap i (by omega), h0]
 have hHlen : (st i).H.length = (HE s.H nb i E).length := by rw [hHi, HE_none, List.length_append]
 have hEi : E i = false := by rw [hEF i hio]; exact hFi
 have hld : ∀ (j : Nat) p t, l[j]? = some p -> p.dst = some t -> ops[off + j]? = some p /\ memN fl (off + j) = false := fun j p t hp hd => by
  rcases hlget j p hp with ⟨rfl, _⟩ | h
  ·cases hd
  ·exact h
 have hqfx : ∀ f t x, (f, t, x) ∈ fx -> Quiet ops fl t := fun f t x hm j p hp hj e => by
  obtain ⟨h5, p', hf, _⟩ := hX.ok f t x hm;exact hf.sole j p (fun e => by subst e; rw [hj] at h5; cases h5) hp e
 have hslot : ∀ t, t ∈ names ops o -> Rel σ S (HE s.H nb l.length E) w (look (st i).env t) (a.tmps.getD t undef) := by
  intro t ht
  by_cases hfx : ∃ f x, (f, t, x) ∈ fx
  ·obtain ⟨f, x, hm⟩ := hfx
   have hFf := slot_fx hX htmp ho hio hcl hedge ht hm;obtain ⟨_, p, hf, hlk, _⟩ := hX.ok f t x hm
   have : look (st i).env t = x := by
    rcases hch.slot i (by omega) t with ⟨j, p', g1, g2, g3, g4, g5⟩ | ⟨g1, g2⟩
    ·obtain ⟨g6, g7⟩ := hld j p' t g2 g3
     exact absurd g3 (hqfx f t x hm _ _ g6 g7)
    ·rw [g2, h0, hqs t (hqfx f t x hm), hlk]
   rw [this];exact h6 f t x hm hFf
  have hnf : ∀ f x, (f, t, x) ∉ fx := fun f x hm => hfx ⟨f, x, hm⟩
  rcases hch.slot i (by omega) t with ⟨j, p, g1, g2, g3, g4, g5⟩ | ⟨g1, g2⟩
  ·rw [g5]
   obtain ⟨g7, g8⟩ := hld j p t g2 g3;have hEj : F (off + j) = true := Qde hcl ho hedge ((Qc8 htmp ho g7 ht g3 (by omega)).1 (by omega)) (by omega);rw [<- hEF j g8] at hEj;rcases h4 t hnf with ⟨i', o', k1, k2, k3, k4, k5⟩ | ⟨k1, _⟩
   ·obtain ⟨k7, k8⟩ := hld i' o' t k2 k3
    have hne : i' ≠ i := fun e => by subst e; rw [hEi] at k1; cases k1
    have hlt : i' < i := by
     rcases Nat.lt_or_ge i' i with h | h
     ·exact h
     ·rw [hEF i' k8] at k1
      have := QeV hcl k1 ((Qc8 htmp ho k7 ht k3 (by omega)).2 (by omega));rw [hFi] at this; cases this
    have e1 := k4 j p hEj g2 g3;have e2 := g4 i' o' hlt k2 k3;obtain rfl : i' = j := by omega
    exact k5
   ·exact absurd g3 (k1 j p hEj g2)
  ·rw [g2, h0]
   rcases h4 t hnf with ⟨i', o', k1, k2, k3, _⟩ | ⟨_, k5⟩
   ·obtain ⟨k7, k8⟩ := hld i' o' t k2 k3
    have hne : i' ≠ i := fun e => by subst e; rw [hEi] at k1; cases k1
    exfalso;rcases Nat.lt_or_ge i' i with h | h
    ·exact g1 i' o' h k2 k3
    ·rw [hEF i' k8] at k1
     have := QeV hcl k1 ((Qc8 htmp ho k7 ht k3 (by omega)).2 (by omega));rw [hFi] at this; cases this
   ·exact k5
 have fin : ∀ v w' σ' S', Sm B σ' S' (setNb (HE s.H nb l.length E) (st i).H.length (nb i)) w' -> Rel σ' S' (setNb (HE s.H nb l.length E) (st i).H.length (nb i)) w' (xv i) v ->
  Ev σ S (HE s.H nb l.length E) w σ' S' (setNb (HE s.H nb l.length E) (st i).H.length (nb i)) w' -> K (a.put o.dst v) w' := by
  intro v w' σ' S' hS hR hev
  have hset : setNb (HE s.H nb l.length E) (st i).H.length (nb i) = HE s.H nb l.length (fun j => E j || decide (j = i)) := by
   cases hnb : nb i with
   |none => exact Qk7 hnb
   |some C => rw [hHlen]; exact (Qj8 hil hEi hnb).2
  rw [hset] at hS hR hev;refine hK _ _ ⟨σ', S', hS, ?_, ?_, fun f t x hm hF => ?_, fun t hnf => ?_⟩
  ·cases hd : o.dst <;> exact h2
  ·cases hd : o.dst
   ·exact h3
   ·simp only [Act.put, Array.size_setIfInBounds]; exact h3
  ·rw [put_other fun e => hqfx f t x hm _ _ ho hio e]
   exact (h6 f t x hm hF).mono hev
  ·by_cases hd : o.dst = some t
   ·have htn : t ∈ names ops o := by simp [names, hd]
    refine .inl ⟨i, o, by simp, hol, hd, fun j o' hj hoj hdj => ?_, ?_⟩
    ·rcases Bool.or_eq_true_iff.1 hj with hj | hj
     ·rcases Nat.lt_or_ge i j with hlt | hge
      ·obtain ⟨k7, k8⟩ := hld j o' t hoj hdj
       rw [hEF j k8] at hj;have := QeV hcl hj ((Qc8 htmp ho k7 htn hdj (by omega)).2 (by omega));rw [hFi] at this; cases this
      ·exact hge
     ·have := of_decide_eq_true hj; omega
    ·rw [hd, put_same h3 ?_]
     ·exact hR
     ·rw [hd] at hdst
      have := (hn i (by omega)).symm;rw [h0] at this;rw [this];simpa [dstOk] using hdst
   ·rw [put_other hd]
    rcases h4 t hnf with ⟨i', o', k1, k2, k3, k4, k5⟩ | ⟨k1, k5⟩
    ·refine .inl ⟨i', o', by simp only; rw [k1]; rfl, k2, k3, fun j o'' hj hoj hdj => ?_, k5.mono hev⟩
     rcases Bool.or_eq_true_iff.1 hj with hj | hj
     ·exact k4 j o'' hj hoj hdj
     ·obtain rfl := of_decide_eq_true hj
      rw [hol] at hoj; obtain rfl := Option.some.inj hoj;exact absurd hdj hd
    ·refine .inr ⟨fun j o' hj hoj => ?_, k5.mono hev⟩
     rcases Bool.or_eq_true_iff.1 hj with hj | hj
     ·exact k1 j o' hj hoj
     ·obtain rfl := of_decide_eq_true hj
      rw [hol] at hoj; obtain rfl := Option.some.inj hoj;exact hd
 have hw : ∀ b, awanted ops.toArray (st i).env o = some b -> Region.wanted o (yielded ops.toArray a.tmps) = b := by
  intro b hb;refine Qe6 (σ := σ) (S := S) (H := HE s.H nb l.length E) (w := w) hb fun j want d hg hd => ?_
  have hd' : (ops[j]?).bind (·.dst) = some d := by simpa using hd
  have hdn : d ∈ names ops o := by
   unfold names;rw [hg];simp only [hd'];simp
  refine ⟨?_, hslot d hdn⟩
  obtain ⟨p, hp, hpd⟩ : ∃ p, ops[j]? = some p /\ p.dst = some d := by
   cases hp : ops[j]? with
   |none => rw [hp] at hd'; cases hd'
   |some p => rw [hp] at hd'; exact ⟨p, rfl, hd'⟩
  have hgj := hgd (off + i) o j want ho (by rw [hg]) p hp d hpd;rw [h3];simpa [dstOk] using hgj
 unfold wpOp;rw [ho2];simp only;rcases hstep with ⟨hwf, hx, hnb⟩ | ⟨hwt, hloc⟩
 ·rw [if_neg (by rw [hw _ hwf]; simp)]
  have := fin undef w σ S;rw [hnb, hx] at this;exact this h1 (.d _ _ (.v _)) (Ev.refl _ _ _ _)
 ·rw [if_pos (hw _ hwt)]
  refine .inl (hloc B σ S _ a w hB h1 (fun u hu => Qc7 fun t ht => hslot t ?_) ?_ (fun C hC => ?_) K _ fin)
  ·subst ht
   unfold names;refine List.mem_append_left _ (List.mem_append_right _ ?_);exact List.mem_filterMap.2 ⟨.tmp t, Array.mem_toList_iff.2 hu, rfl⟩
  ·rw [hHi]; exact QnC (by omega)
  ·rw [hHlen]; exact (Qj8 hil hEi hC).1
theorem PhF.float {F : Nat -> Bool} {off f : Nat} {l : List Oper} {s : St} {xv : Nat -> AV} {nb : Nat -> Option Blk} {E : Nat -> Bool} {a : Act} {w : World} {o : Oper} {K : Act -> World -> Prop} {Q : Exit -> Act -> World -> Prop} (hB : Gd B)
 (hX : Fx P ops fl n envF fx) (htmp : tmpOk ops = true) (hns : s.n = n)
 (hlget : ∀ (j : Nat) o, l[j]? = some o -> (o = dum /\ memN fl (off + j) = true) ∨ (ops[off + j]? = some o /\ memN fl (off + j) = false)) (hqs : ∀ t, Quiet ops fl t -> look s.env t = look envF t)
 (ho : ops[f]? = some o) (hff : memN fl f = true)
 (hcl : Closed ops F) (hedge : ∀ e ∈ o.after, Region.binds .any e = true -> F e.on = true) (h : PhF fx B F l s xv nb E a w)
 (hK : ∀ a' w', PhF fx B (fun j => F j || decide (j = f)) l s xv nb E a' w' -> K a' w') : wpOp P ops.toArray Q f K a w := by
 obtain ⟨σ, S, h1, h2, h3, h6, h4⟩ := h;obtain ⟨t, x, hm⟩ := hX.all f hff;obtain ⟨_, o', hf, hlk, hloc⟩ := hX.ok f t x hm;have := hf.op;rw [ho] at this;obtain rfl := Option.some.inj this;have ho2 : ops.toArray[f]? = some o := by simpa using ho
 unfold wpOp;rw [ho2];simp only;rw [if_pos (by simp [Region.wanted, hf.guard])];refine .inl (hloc (HE s.H nb l.length E) B σ S _ a w hB h1 (fun u hu => Qc7 fun q hq => ?_) (fun k C hC => .inl hC) (fun C hC => by cases hC) K _ fun v w' σ' S' hS hR hev => hK _ _ ⟨σ', S', hS, ?_, ?_, fun g u y hg hF => ?_, fun u hnf => ?_⟩)
 ·subst hq
  have hqq := hf.quiet q hu;have hqn : q ∈ names ops o := List.mem_append_left _ (List.mem_append_right _ (Qgo hu))
  by_cases hfx : ∃ g y, (g, q, y) ∈ fx
  ·obtain ⟨g, y, hg⟩ := hfx
   obtain ⟨hg1, p, hgf, hglk, _⟩ := hX.ok g q y hg;rw [hglk]
   have hne : g ≠ f := fun e => by
    subst e;have := hgf.op;rw [ho] at this;obtain rfl := Option.some.inj this;have hd := hgf.dst;exact hgf.own hu
   refine h6 g q y hg ?_;rcases Nat.lt_or_ge g f with hlt | hge
   ·exact Qde hcl ho hedge ((Qc8 htmp ho hgf.op hqn hgf.dst hne).1 hlt) hne
   ·exact absurd hqn (hgf.before f o (by omega) ho)
  ·rw [<- hqs q hqq]
   rcases h4 q (fun g y hg => hfx ⟨g, y, hg⟩) with ⟨i', o', k1, k2, k3, k4, k5⟩ | ⟨_, k5⟩
   ·rcases hlget i' o' k2 with ⟨rfl, _⟩ | ⟨g1, g2⟩
    ·cases k3
    ·exact absurd k3 (hqq _ _ g1 g2)
   ·exact k5
 ·cases hd : o.dst <;> exact h2
 ·cases hd : o.dst
  ·exact h3
  ·simp only [Act.put, Array.size_setIfInBounds]; exact h3
 ·by_cases hgf : g = f
  ·subst hgf
   obtain ⟨_, p, hgf, hglk, _⟩ := hX.ok g u y hg;have := hgf.op;rw [ho] at this;obtain rfl := Option.some.inj this;have hu := hgf.dst;rw [hf.dst] at hu;obtain rfl := Option.some.inj hu;have hxy : x = y := hlk.symm.trans hglk;subst hxy;rw [hf.dst, put_same h3 (by rw [hns]; exact hf.lt)];exact hR
  ·have hFg : F g = true := by
    rcases Bool.or_eq_true_iff.1 hF with hF | hF
    ·exact hF
    ·exact absurd (of_decide_eq_true hF) hgf
   obtain ⟨_, p, hgs, _⟩ := hX.ok g u y hg;rw [put_other fun e => hgs.sole f o (fun e => hgf e.symm) ho e];exact (h6 g u y hg hFg).mono hev
 ·have hd : o.dst ≠ some u := fun e => by
   rw [hf.dst] at e;obtain rfl := Option.some.inj e;exact hnf f x hm
  rw [put_other hd];rcases h4 u hnf with ⟨i', o', k1, k2, k3, k4, k5⟩ | ⟨k1, k5⟩
  ·exact .inl ⟨i', o', k1, k2, k3, k4, k5.mono hev⟩
  ·exact .inr ⟨k1, k5.mono hev⟩
theorem planF_chain {Q : St -> Prop} : ∀ (ms : List Nat) (off : Nat) (s : St), PlanF P ops fl Q ms off s ->
 ∃ st xv nb, Chain P ops.toArray (segE ops fl off ms) st xv nb /\ st 0 = s /\ PlanEndF P ops fl Q off ms (st (segE ops fl off ms).length) /\ ∀ k, memN fl (off + k) = true -> nb k = none
 |[], off, s, h => ADraw.chainF fl ops.length (ops.drop off) off s h
 |m :: ms, off, s, ⟨h1, h2, o, ho, h⟩ => by
  obtain ⟨st, xv, nb, hc, h0, hK, hn⟩ := ADraw.chainF fl m (ops.drop off) off s h;exact ⟨st, xv, nb, hc, h0, ⟨Nat.le_of_ble_eq_true h1, h2, o, ho, hK⟩, hn⟩
theorem segE_get {off : Nat} {ms : List Nat} {j : Nat} {o : Oper} (h : (segE ops fl off ms)[j]? = some o) : (o = dum /\ memN fl (off + j) = true) ∨ (ops[off + j]? = some o /\ memN fl (off + j) = false) := by
 cases ms with
 |nil =>
  rcases Qgl fl _ _ _ _ _ h with ⟨h1, h2⟩ | ⟨h1, h2⟩
  ·exact .inl ⟨h2, h1⟩
  ·rw [List.getElem?_drop] at h2; exact .inr ⟨h2, h1⟩
 |cons m ms =>
  rcases Qgl fl _ _ _ _ _ h with ⟨h1, h2⟩ | ⟨h1, h2⟩
  ·exact .inl ⟨h2, h1⟩
  ·rw [List.getElem?_drop] at h2; exact .inr ⟨h2, h1⟩
end
theorem awp_drawF0 (fl ms : List Nat) {P : Program} {id : Nat} {ops : List Oper} {Q : Exit -> St -> Prop} {s : St} (hm : P.follows .mixedOrders = true) (hok : drawOk ops.toArray = true) (hgok : ops.all (gdOk ops.toArray s.n) = true)
 (hfo : floatOk ops fl s.n = true) (h : Flts P ops (fun env => PlanF P ops fl (Q .normal) ms 0 ⟨s.n, env, s.H⟩) fl s.env) : AWP P (.region id ops.toArray true) Q s := by
 intro B hB σ S a w hA;obtain ⟨hback, htmp⟩ : backB ops.toArray = true /\ tmpOk ops = true := by simpa [drawOk] using hok
 have hgd : ∀ (n : Nat), n = s.n -> ∀ (i : Nat) (o : Oper) (j : Nat) (want : Bool), ops[i]? = some o -> o.guard = some (j, want) -> ∀ p, ops[j]? = some p -> ∀ d, p.dst = some d -> Nat.blt d n = true := fun n hn i o j want ho hg p hp d hd => by
  have h1 := List.all_eq_true.1 hgok o (List.mem_of_getElem? ho);have := QcX h1 j want d hg (by simp [hp, hd]);rw [hn]; simpa using this
 obtain ⟨hasc, hfl⟩ : ascN fl = true /\ ∀ f ∈ fl, float1 ops fl s.n f = true := by
  unfold floatOk at hfo;simpa only [Bool.and_eq_true, List.all_eq_true] using hfo
 obtain ⟨envF, fx, hplan, hfx, hall, hq⟩ := flts_build (fl := fl) (n := s.n) fl s.env h hfl hasc;have hX : Fx P ops fl s.n envF fx := ⟨fun f t x hm => by obtain ⟨h1, h2⟩ := hfx f t x hm; exact ⟨Qgp.2 h1, h2⟩, fun f hf => hall f (Qgp.1 hf)⟩
 have hqfx : ∀ f t x, (f, t, x) ∈ fx -> Quiet ops fl t := fun f t x hm j p hp hj e => by
  obtain ⟨h5, p', hf, _⟩ := hX.ok f t x hm;exact hf.sole j p (fun e => by subst e; rw [hj] at h5; cases h5) hp e
 refine Qgh hm hback (fun E a w => ∃ ms off s1 st xv nb, s1.n = s.n /\ Chain P ops.toArray (segE ops fl off ms) st xv nb /\ st 0 = s1 /\ PlanEndF P ops fl (Q .normal) off ms (st (segE ops fl off ms).length) /\ (∀ k, memN fl (off + k) = true -> nb k = none) /\
  (∀ t, Quiet ops fl t -> look s1.env t = look envF t) /\
  (∀ j, j < off -> memN fl j = false -> E j = true) /\ (∀ j, off + (segE ops fl off ms).length <= j -> memN fl j = false -> E j = false) /\ PhF fx B E (segE ops fl off ms) s1 xv nb (fun j => E (off + j) || memN fl (off + j)) a w) ?h0 ?hop ?hend
 case h0 =>
  obtain ⟨st, xv, nb, hc, h0, hK, hn⟩ := planF_chain ms 0 _ hplan;obtain ⟨h3, h4⟩ := hA.sm.sameHeap (w' := { w with drawn := w.drawn + 1 }) rfl rfl rfl rfl;refine ⟨ms, 0, ⟨s.n, envF, s.H⟩, st, xv, nb, rfl, hc, h0, hK, hn, fun t _ => rfl, fun j hj => by omega, fun j _ _ => rfl, PhF.start (σ := σ) (S := S) ⟨h3, hA.defers, hA.size, fun f t x _ hF => absurd hF (by simp), fun t ht => ?_⟩ fun j o ho hE => ?_⟩
  ·have : look envF t = look s.env t := hq t fun f hf o ho e => by
    obtain ⟨u, x, hm⟩ := hall f hf;obtain ⟨_, o', hfs, _⟩ := hfx f u x hm;have := hfs.op;rw [ho] at this;obtain rfl := Option.some.inj this;have hu := hfs.dst;rw [e] at hu;obtain rfl := Option.some.inj hu;exact ht f x hm
   show Rel _ _ _ _ (look envF t) _;rw [this];exact (hA.env t).mono h4
  ·simp only [Bool.false_or] at hE
   rcases segE_get ho with ⟨rfl, _⟩ | ⟨_, h2⟩
   ·exact ⟨rfl, hn j hE⟩
   ·rw [h2] at hE; cases hE
 case hop =>
  intro E i o ho a w hJ hEi hnone hcl hedge K hKK;have ho' : ops[i]? = some o := by simpa using ho
  have hilo : i < ops.length := (List.getElem?_eq_some_iff.1 ho').1;have hcl' : Closed ops E := fun j o' hj hoj => hcl j o' hj (by simpa using hoj)
  obtain ⟨ms, off, s1, st, xv, nb, hn1, hc, h0, hK, hnn, hqs, hlo, hhi, hPh⟩ := hJ;cases hfi : memN fl i with
  |true =>
   refine PhF.float (off := off) hB hX htmp hn1 (fun j o h => segE_get h) hqs ho' hfi hcl' hedge hPh fun a' w' hP' => hKK a' w' ⟨ms, off, s1, st, xv, nb, hn1, hc, h0, hK, hnn, hqs, fun j hj hm => by show (E j || _) = true; rw [hlo j hj hm]; rfl, fun j hj hm => ?_, ?_⟩
   ·show (E j || _) = false
    rw [hhi j hj hm]; exact decide_eq_false (fun e => by subst e; rw [hfi] at hm; cases hm)
   ·have e : (fun j => (E (off + j) || decide (off + j = i)) || memN fl (off + j)) = fun j => E (off + j) || memN fl (off + j) := funext fun j => by
     by_cases h : off + j = i
     ·rw [h, hfi]; simp
     ·simp [h]
    show PhF fx B (fun j => E j || decide (j = i)) (segE ops fl off ms) s1 xv nb (fun j => (E (off + j) || decide (off + j = i)) || memN fl (off + j)) a' w';rw [e]; exact hP'
  |false =>
  have hoi : off <= i := by
   rcases Nat.lt_or_ge i off with h | h
   ·rw [hlo i h hfi] at hEi; cases hEi
   ·exact h
  obtain ⟨k, rfl⟩ : ∃ k, i = off + k := ⟨i - off, by omega⟩
  by_cases hk : k < (segE ops fl off ms).length
  ·have hol : (segE ops fl off ms)[k]? = some o := by
    rcases segE_get (List.getElem?_eq_getElem hk) with ⟨_, h2⟩ | ⟨h1, _⟩
    ·rw [hfi] at h2; cases h2
    ·rw [ho'] at h1
     rw [List.getElem?_eq_getElem hk, <- Option.some.inj h1]
   refine PhF.step (fl := fl) (n := s.n) (envF := envF) hB hX htmp (hgd s1.n hn1) hc h0 (fun j o h => segE_get h) hqs (fun j h => by simp [h]) hk ho' hfi hol hcl' hedge hEi hPh fun a' w' hP' => ?_
   have e : (fun j => (E (off + j) || decide (off + j = off + k)) || memN fl (off + j)) = fun j => (E (off + j) || memN fl (off + j)) || decide (j = k) := funext fun j => by
    by_cases h : j = k
    ·subst h; simp
    ·have : ¬ off + j = off + k := by omega
     simp [h, this]
   refine hKK a' w' ⟨ms, off, s1, st, xv, nb, hn1, hc, h0, hK, hnn, hqs, fun j hj hm => by show (E j || _) = true; rw [hlo j hj hm]; rfl, fun j hj hm => ?_, ?_⟩
   ·show (E j || _) = false; rw [hhi j hj hm]; exact decide_eq_false (by omega)
   ·show PhF fx B (fun j => E j || decide (j = off + k)) (segE ops fl off ms) s1 xv nb (fun j => (E (off + j) || decide (off + j = off + k)) || memN fl (off + j)) a' w'
    rw [e];obtain ⟨σ1, S1, g1, g2, g3, g4, g5⟩ := hP';refine ⟨σ1, S1, g1, g2, g3, fun f t x hm hF => g4 f t x hm ?_, g5⟩;rcases Bool.or_eq_true_iff.1 hF with hF | hF
    ·exact hF
    ·have e1 := of_decide_eq_true hF
     have := (hX.ok f t x hm).1;rw [e1, hfi] at this; cases this
  ·cases ms with
   |nil =>
    have hlen := Qed fl ops.length (ops.drop off) off;simp only [segE, List.length_drop] at hk hlen;omega
   |cons m ms =>
    obtain ⟨hom, hbar, om, hom2, x, H', heff, hwt, hdst, hgdo, hplan⟩ := hK;obtain ⟨hmf, hb1, hb2⟩ := Qf5 hbar;have hmlt : m < ops.length := (List.getElem?_eq_some_iff.1 hom2).1
    have hlen : (segE ops fl off (m :: ms)).length = m - off := by
     have := Qed fl m (ops.drop off) off;simp only [segE, List.length_drop] at this ⊢;omega
    have him : off + k = m := by
     rcases Nat.lt_or_ge m (off + k) with h | h
     ·have := Qde hcl' ho' hedge (hb2 _ hilo h hfi) (by omega)
      rw [hhi m (by omega) hmf] at this; cases this
     ·omega
    rw [him] at ho' hEi ho hKK ⊢;rw [hom2] at ho'; obtain rfl := Option.some.inj ho';have hall : ∀ j, j < m -> memN fl j = false -> E j = true := fun j hj hjf => Qde hcl' hom2 hedge (hb1 j hj hjf) (by omega)
    obtain ⟨σ1, S1, g1, g2, g3, g4, g5⟩ := PhF.done hc h0 hPh fun j hj => by
     cases hf : memN fl (off + j) with
     |true => simp
     |false => rw [hall (off + j) (by omega) hf]; rfl
    have hn2 : (st (segE ops fl off (m :: ms)).length).n = s.n := by rw [hc.n _ (Nat.le_refl _), h0, hn1]
    have hqs2 : ∀ t, Quiet ops fl t -> look (st (segE ops fl off (m :: ms)).length).env t = look envF t := fun t ht => by
     rcases hc.slot _ (Nat.le_refl _) t with ⟨j, p, k1, k2, k3, k4, k5⟩ | ⟨k1, k2⟩
     ·rcases segE_get k2 with ⟨rfl, _⟩ | ⟨k6, k7⟩
      ·cases k3
      ·exact absurd k3 (ht _ _ k6 k7)
     ·rw [k2, h0]; exact hqs t ht
    have hslot : ∀ t, t ∈ names ops om -> Rel σ1 S1 (st (segE ops fl off (m :: ms)).length).H w (look (st (segE ops fl off (m :: ms)).length).env t) (a.tmps.getD t undef) := fun t ht => by
     by_cases hfx : ∃ f x, (f, t, x) ∈ fx
     ·obtain ⟨f, x, hm⟩ := hfx
      have hFf := slot_fx hX htmp hom2 hmf hcl' hedge ht hm;obtain ⟨_, p, hf, hlk, _⟩ := hX.ok f t x hm;rw [hqs2 t (hqfx f t x hm), hlk];exact g4 f t x hm hFf
     ·exact g5 t fun f x hm => hfx ⟨f, x, hm⟩
    unfold wpOp;rw [ho];simp only;rw [if_pos ?hwant]
    case hwant =>
     refine Qe6 (σ := σ1) (S := S1) (H := (st (segE ops fl off (m :: ms)).length).H) (w := w) hwt fun j want d hg hd => ⟨?_, hslot d ?_⟩
     ·rw [g3]; exact QcX hgdo j want d hg hd
     ·unfold names
      rw [hg];have hd' : (ops[j]?).bind (·.dst) = some d := by simpa using hd
      simp only [hd'];simp
    refine .inl (heff B σ1 S1 a w hB g1 (fun u hu => Qc7 fun t ht => hslot t ?_) K _ fun v w' σ' S' hS hR hev => ?_)
    ·subst ht
     unfold names;refine List.mem_append_left _ (List.mem_append_right _ ?_);exact List.mem_filterMap.2 ⟨.tmp t, Array.mem_toList_iff.2 hu, rfl⟩
    obtain ⟨st2, xv2, nb2, hc2, h02, hK2, hnn2⟩ := planF_chain ms (m + 1) _ hplan
    have hA2 : SmF fx B (fun j => E j || decide (j = m)) σ' S' ⟨(st (segE ops fl off (m :: ms)).length).n, putE (st (segE ops fl off (m :: ms)).length).env om.dst x, H'⟩ (a.put om.dst v) w' := by
     refine ⟨hS, ?_, ?_, fun f t y hm hF => ?_, fun t hnf => ?_⟩
     ·cases hd : om.dst <;> exact g2
     ·cases hd : om.dst
      ·exact g3
      ·simp only [Act.put, Array.size_setIfInBounds]; exact g3
     ·have hEf : E f = true := by
       rcases Bool.or_eq_true_iff.1 hF with hF | hF
       ·exact hF
       ·have e1 := of_decide_eq_true hF
        have := (hX.ok f t y hm).1;rw [e1, hmf] at this; cases this
      rw [put_other fun e => hqfx f t y hm _ _ hom2 hmf e];exact (g4 f t y hm hEf).mono hev
     ·show Rel _ _ _ _ (look (putE _ om.dst x) t) _
      by_cases hd : om.dst = some t
      ·rw [hd] at hdst ⊢
       rw [put_same g3 (by simpa [dstOk] using hdst)];show Rel _ _ _ _ (look ((t, x) :: _) t) _;rw [QbM]; exact hR
      ·rw [put_other hd]
       have : look (putE (st (segE ops fl off (m :: ms)).length).env om.dst x) t = look (st (segE ops fl off (m :: ms)).length).env t := by
        cases hd' : om.dst with
        |none => rfl
        |some d => exact QbU (fun e => hd (by rw [hd', e])) _ _
       rw [this];exact (g5 t hnf).mono hev
    refine hKK _ _ ⟨ms, m + 1, (⟨(st (segE ops fl off (m :: ms)).length).n, putE (st (segE ops fl off (m :: ms)).length).env om.dst x, H'⟩ : St), st2, xv2, nb2, hn2, hc2, h02, hK2, hnn2, fun t ht => ?_, fun j hj hjf => ?_, fun j hj hjf => ?_, PhF.start hA2 fun j o hj hE => ?_⟩
    ·rw [<- hqs2 t ht]
     cases hd' : om.dst with
     |none => rfl
     |some d => exact QbU (fun e => ht _ _ hom2 hmf (by rw [hd', e])) _ _
    ·by_cases hjm : j = m
     ·subst hjm; simp
     ·show (E j || _) = true; rw [hall j (by omega) hjf]; rfl
    ·show (E j || _) = false; rw [hhi j (by omega) hjf]; exact decide_eq_false (by omega)
    ·rcases segE_get hj with ⟨rfl, h2⟩ | ⟨_, h2⟩
     ·exact ⟨rfl, hnn2 j h2⟩
     ·rw [h2, Bool.or_false] at hE
      have hE : (E (m + 1 + j) || decide (m + 1 + j = m)) = true := hE;rw [hhi (m + 1 + j) (by omega) h2] at hE;have : m + 1 + j ≠ m := by omega
      simp [this] at hE
 case hend =>
  rintro E a w ⟨ms, off, s1, st, xv, nb, hn1, hc, h0, hK, hnn, hqs, hlo, hhi, hPh⟩ hall hnone;have hall' : ∀ i, i < ops.length -> E i = true := fun i hi => hall i (by simpa using hi)
  cases ms with
  |nil =>
   obtain ⟨σ1, S1, g1, g2, g3, g4, g5⟩ := PhF.done hc h0 hPh fun j hj => by
    have hlen := Qed fl ops.length (ops.drop off) off;simp only [segE, List.length_drop] at hj hlen;show (E (off + j) || _) = true;rw [hall' (off + j) (by omega)]; rfl
   refine ⟨_, σ1, S1, hK, g1, g2, g3, fun t => ?_⟩
   by_cases hfx : ∃ f x, (f, t, x) ∈ fx
   ·obtain ⟨f, x, hm⟩ := hfx
    obtain ⟨_, p, hf, hlk, _⟩ := hX.ok f t x hm
    have : look (st (segE ops fl off []).length).env t = x := by
     rw [<- hlk, <- hqs t (hqfx f t x hm)];rcases hc.slot _ (Nat.le_refl _) t with ⟨j, p', k1, k2, k3, k4, k5⟩ | ⟨k1, k2⟩
     ·rcases segE_get k2 with ⟨rfl, _⟩ | ⟨k6, k7⟩
      ·cases k3
      ·exact absurd k3 (hqfx f t x hm _ _ k6 k7)
     ·rw [k2, h0]
    rw [this];exact g4 f t x hm (hall' f (List.getElem?_eq_some_iff.1 hf.op).1)
   ·exact g5 t fun f x hm => hfx ⟨f, x, hm⟩
  |cons m ms =>
   obtain ⟨hom, hbar, om, hom2, _⟩ := hK;have hmlt : m < ops.length := (List.getElem?_eq_some_iff.1 hom2).1
   have hlen : (segE ops fl off (m :: ms)).length = m - off := by
    have := Qed fl m (ops.drop off) off;simp only [segE, List.length_drop] at this ⊢;omega
   have h1 := hall' m hmlt;rw [hhi m (by omega) (Qf5 hbar).1] at h1; cases h1
theorem awp_drawF (fl ms : List Nat) {P : Program} {id : Nat} {ops : List Oper} {Q : Exit -> St -> Prop} {n : Nat} {env : List (Nat × AV)} {H : List Blk} (hm : P.follows .mixedOrders = true) (hok : drawOk ops.toArray = true) (hgok : ops.all (gdOk ops.toArray n) = true)
 (hfo : floatOk ops fl n = true) (h : Flts P ops (fun env => PlanF P ops fl (Q .normal) ms 0 ⟨n, env, H⟩) fl env) : AWP P (.region id ops.toArray true) Q ⟨n, env, H⟩ := awp_drawF0 fl ms hm hok hgok hfo h
section
variable {P : Program} {ops : List Oper} {K : List (Nat × AV) -> Prop} {f : Nat} {r : List Nat} {env : List (Nat × AV)} {d : Tmp} {op : Op} {ty : TypeId} {pos : String} {after : Array Edge} {gd : Option (Nat × Bool)} {x : AV}
theorem aw_flt (ho : ops[f]? = some ⟨some d, op, ty, pos, after, gd⟩ := by rfl) (h : ∀ H : List Blk, ∀ R : Option (AV × Option Blk) -> Prop, R (some (x, none)) -> R (evOp P env H op) := by intro H R hR; simp only [go_sem, Nat.reduceEqDiff, Nat.reduceAdd, Nat.reduceLT, Nat.reduceLeDiff, ↓reduceIte, reduceCtorEq]; exact hR)
 (k : Flts P ops K r ((d, x) :: env)) : Flts P ops K (f :: r) env := ⟨_, x, ho, fun H => Qh0 (h H (fun q => q = some (x, none)) rfl), k⟩
theorem aw_fltL (ho : ops[f]? = some ⟨some d, op, ty, pos, after, gd⟩ := by rfl) (hl : ∀ H, Loc P ⟨some d, op, ty, pos, after, gd⟩ env H x none) (k : Flts P ops K r ((d, x) :: env)) : Flts P ops K (f :: r) env := ⟨_, x, ho, hl, k⟩
theorem aw_fltN (k : K env) : Flts P ops K [] env := k
theorem aw_planFN {ops : List Oper} {fl : List Nat} {Q : St -> Prop} {off : Nat} {s : St} (h : ADraw P ops.toArray Q (segF fl ops.length off (ops.drop off)) s) : PlanF P ops fl Q [] off s := h
theorem aw_planFC {ops : List Oper} {fl : List Nat} {Q : St -> Prop} {off m : Nat} {ms : List Nat} {s : St} {o : Oper} (h1 : Nat.ble off m = true) (h2 : barOkF ops fl m = true) (ho : ops[m]? = some o) (h : ADraw P ops.toArray (AStep P ops.toArray o (PlanF P ops fl Q ms (m + 1))) (segF fl m off (ops.drop off)) s) : PlanF P ops fl Q (m :: ms) off s :=
 ⟨h1, h2, o, ho, h⟩
end
end Fg
theorem QiP (n : Nat) : ∀ (l : List Oper) (i : Nat), i + l.length = n -> segF [] n i l = l
 |[], _, _ => rfl
 |o :: l, i, h => by
  simp only [List.length_cons] at h
  have hb : Nat.ble n i = false := by
   cases hb : Nat.ble n i with
   |false => rfl
   |true => have := Nat.le_of_ble_eq_true hb; omega
  unfold segF;rw [hb, QiP n l (i + 1) (by omega)]; rfl
theorem Qb1 {P : Program} {id : Nat} {ops : List Oper} {Q : Exit -> St -> Prop} {s : St} (hm : P.follows .mixedOrders = true) (hok : drawOk ops.toArray = true) (hgok : ops.all (gdOk ops.toArray s.n) = true)
 (h : ADraw P ops.toArray (Q .normal) ops s) : AWP P (.region id ops.toArray true) Q s :=
 Fg.awp_drawF0 [] [] hm hok hgok rfl (by
  show ADraw P ops.toArray (Q .normal) (segF [] ops.length 0 (ops.drop 0)) _
  rw [List.drop_zero, QiP _ ops 0 (by omega)]; exact h)
theorem QgF {P : Program} {c : Code} {Q : Exit -> St -> Prop} {s : St} (h : AWP P c (fun e s => ∃ s', Weak s s' /\ Q e s') s) : AWP P c Q s := by
 intro B hB σ S a w hA;refine wp_mono (h B hB σ S a w hA) ?_;rintro e a w ⟨s', σ', S', ⟨s'', hw, hq⟩, hA'⟩;obtain ⟨σ2, S2, h2⟩ := hw B σ' S' a w hA';exact ⟨s'', σ2, S2, hq, h2⟩
theorem QgH (m : Nat) {rs : List ResultVar} {x : AV} {H1 : List Blk} {gl : List AV} {gvs : List Value} {n : Nat} {env env' : List (Nat × AV)} {H H' : List Blk} (e : Exit) (he : e = .normal ∨ e = .ret) (hk : keepE env [gslot] = env') (hH : H.take m = H') (h1 : envLt m env' = true) (h2 : H'.all (Blk.lt m) = true)
 (h3 : resA env' rs = some x) (h4 : H' = H1) (h5 : look env' gslot = .gh gl gvs) : ∃ s', Weak ⟨n, env, H⟩ s' /\ EndA rs x H1 gl gvs e s' :=
 ⟨_, Qea [gslot] m hk hH h1 h2, by rcases he with rfl | rfl <;> exact ⟨h3, h4, h5⟩⟩
end Aw
end
section
namespace Aw
instance TB_4 : TyBool Tryz.prog 4 := ⟨by kernel_rfl⟩
instance T_3 : Ty Tryz.prog 3 ⟨false, 1, 8, [.int .i64 0], none, [], none, false⟩ := ⟨by kernel_rfl⟩
instance T_4 : Ty Tryz.prog 4 ⟨false, 1, 1, [.bool false], none, [], none, false⟩ := ⟨by kernel_rfl⟩
instance T_9 : Ty Tryz.prog 9 ⟨false, 1, 16, [.string ⟨#[]⟩], none, [], none, true⟩ := ⟨by kernel_rfl⟩
instance T_35 : Ty Tryz.prog 35 ⟨false, 1, 24, [.slice none 0 0], some 9, [], none, false⟩ := ⟨by kernel_rfl⟩
instance T_36 : Ty Tryz.prog 36 ⟨false, 1, 24, [.slice none 0 0], some 3, [], none, false⟩ := ⟨by kernel_rfl⟩
instance T_38 : Ty Tryz.prog 38 ⟨true, 2, 48, [.slice none 0 0, .slice none 0 0], none, [(0, 1), (1, 1)], some [(0, 1), (1, 1)], false⟩ := ⟨by kernel_rfl⟩
instance T_39 : Ty Tryz.prog 39 ⟨false, 1, 24, [.slice none 0 0], some 43, [], none, false⟩ := ⟨by kernel_rfl⟩
instance T_41 : Ty Tryz.prog 41 ⟨true, 8, 144, [.slice none 0 0, .slice none 0 0, .slice none 0 0, .int .i64 0, .slice none 0 0, .int .i64 0, .slice none 0 0, .bool false], none, [(0, 1), (1, 2), (3, 1), (4, 1), (5, 1), (6, 1), (7, 1)], some [(0, 1), (1, 2), (3, 1), (4, 1), (5, 1), (6, 1), (7, 1)], false⟩ := ⟨by kernel_rfl⟩
instance T_43 : Ty Tryz.prog 43 ⟨true, 5, 40, [.int .i64 0, .int .i64 0, .int .i64 0, .int .i64 0, .int .i64 0], none, [(0, 1), (1, 1), (2, 1), (3, 1), (4, 1)], some [(0, 1), (1, 1), (2, 1), (3, 1), (4, 1)], false⟩ := ⟨by kernel_rfl⟩
instance T_45 : Ty Tryz.prog 45 ⟨true, 7, 56, [.int .i64 0, .int .i64 0, .int .i64 0, .int .i64 0, .int .i64 0, .int .i64 0, .int .i64 0], none, [(0, 5), (5, 1), (6, 1)], some [(0, 5), (5, 1), (6, 1)], false⟩ := ⟨by kernel_rfl⟩
instance T_49 : Ty Tryz.prog 49 ⟨true, 2, 48, [.slice none 0 0, .slice none 0 0], none, [(0, 1), (1, 1)], some [(0, 1), (1, 1)], false⟩ := ⟨by kernel_rfl⟩
instance T_50 : Ty Tryz.prog 50 ⟨false, 1, 24, [.slice none 0 0], some 54, [], none, false⟩ := ⟨by kernel_rfl⟩
instance T_52 : Ty Tryz.prog 52 ⟨true, 8, 144, [.slice none 0 0, .slice none 0 0, .slice none 0 0, .int .i64 0, .slice none 0 0, .int .i64 0, .slice none 0 0, .bool false], none, [(0, 1), (1, 2), (3, 1), (4, 1), (5, 1), (6, 1), (7, 1)], some [(0, 1), (1, 2), (3, 1), (4, 1), (5, 1), (6, 1), (7, 1)], false⟩ := ⟨by kernel_rfl⟩
instance T_54 : Ty Tryz.prog 54 ⟨true, 5, 40, [.int .i64 0, .int .i64 0, .int .i64 0, .int .i64 0, .int .i64 0], none, [(0, 1), (1, 1), (2, 1), (3, 1), (4, 1)], some [(0, 1), (1, 1), (2, 1), (3, 1), (4, 1)], false⟩ := ⟨by kernel_rfl⟩
instance T_56 : Ty Tryz.prog 56 ⟨true, 7, 56, [.int .i64 0, .int .i64 0, .int .i64 0, .int .i64 0, .int .i64 0, .int .i64 0, .int .i64 0], none, [(0, 5), (5, 1), (6, 1)], some [(0, 5), (5, 1), (6, 1)], false⟩ := ⟨by kernel_rfl⟩
instance T_102 : Ty Tryz.prog 102 ⟨false, 1, 24, [.slice none 0 0], some 105, [], none, false⟩ := ⟨by kernel_rfl⟩
instance T_105 : Ty Tryz.prog 105 ⟨true, 10, 80, [.int .i64 0, .int .i64 0, .int .i64 0, .int .i64 0, .int .i64 0, .int .i64 0, .int .i64 0, .int .i64 0, .int .i64 0, .int .i64 0], none, [(0, 1), (1, 1), (2, 1), (3, 7)], some [(0, 1), (1, 1), (2, 1), (3, 7)], false⟩ := ⟨by kernel_rfl⟩
instance T_116 : Ty Tryz.prog 116 ⟨false, 1, 24, [.slice none 0 0], some 126, [], none, false⟩ := ⟨by kernel_rfl⟩
instance T_117 : Ty Tryz.prog 117 ⟨false, 1, 24, [.slice none 0 0], some 123, [], none, false⟩ := ⟨by kernel_rfl⟩
instance T_119 : Ty Tryz.prog 119 ⟨true, 2, 48, [.slice none 0 0, .slice none 0 0], none, [(0, 1), (1, 1)], some [(0, 1), (1, 1)], false⟩ := ⟨by kernel_rfl⟩
instance T_123 : Ty Tryz.prog 123 ⟨true, 3, 32, [.int .i64 0, .bool false, .string ⟨#[]⟩], none, [(0, 1), (1, 1), (2, 1)], some [(0, 1), (1, 1), (2, 1)], false⟩ := ⟨by kernel_rfl⟩
instance T_126 : Ty Tryz.prog 126 ⟨true, 2, 24, [.string ⟨#[]⟩, .int .i64 0], none, [(0, 1), (1, 1)], some [(0, 1), (1, 1)], false⟩ := ⟨by kernel_rfl⟩
instance T_189 : Ty Tryz.prog 189 ⟨false, 1, 8, [.pointer none], none, [], none, false⟩ := ⟨by kernel_rfl⟩
instance T_246 : Ty Tryz.prog 246 ⟨false, 1, 24, [.slice none 0 0], some 251, [], none, false⟩ := ⟨by kernel_rfl⟩
instance T_251 : Ty Tryz.prog 251 ⟨true, 2, 24, [.string ⟨#[]⟩, .int .i64 0], none, [(0, 1), (1, 1)], some [(0, 1), (1, 1)], false⟩ := ⟨by kernel_rfl⟩
instance T_261 : Ty Tryz.prog 261 ⟨false, 1, 8, [.pointer none], none, [], none, false⟩ := ⟨by kernel_rfl⟩
instance T_262 : Ty Tryz.prog 262 ⟨false, 1, 24, [.slice none 0 0], some 261, [], none, false⟩ := ⟨by kernel_rfl⟩
instance T_263 : Ty Tryz.prog 263 ⟨false, 1, 8, [.map none], none, [], none, false⟩ := ⟨by kernel_rfl⟩
instance T_265 : Ty Tryz.prog 265 ⟨true, 10, 96, [.pointer none, .int .i64 0, .int .i64 0, .int .i64 0, .int .i64 0, .int .i64 0, .int .i64 0, .int .i64 0, .slice none 0 0, .map none], none, [(0, 1), (1, 7), (8, 1), (9, 1)], some [(0, 1), (1, 7), (8, 1), (9, 1)], false⟩ := ⟨by kernel_rfl⟩
instance T_303 : Ty Tryz.prog 303 ⟨false, 1, 24, [.slice none 0 0], some 305, [], none, false⟩ := ⟨by kernel_rfl⟩
instance T_305 : Ty Tryz.prog 305 ⟨false, 1, 8, [.pointer none], none, [], none, false⟩ := ⟨by kernel_rfl⟩
end Aw
end
end Go.Proofs.YtdjkdcokjoiokaaGreatDoor

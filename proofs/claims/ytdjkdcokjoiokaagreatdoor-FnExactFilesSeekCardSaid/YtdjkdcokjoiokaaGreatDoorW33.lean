/- Part 33 of seek_card: contracts, walks, laws; no condition beyond the statement's. -/
import Derived.Test.YtdjkdcokjoiokaaGreatDoorW28
set_option linter.all false
namespace Go.Proofs.YtdjkdcokjoiokaaGreatDoor
open Go.RowKit
namespace Aw
theorem Sm.freezeE {B : Bs} {σ : Sg} {S : Nat -> Prop} {H : List Blk} {w : World} {k : Nat} {C : Blk} (h : Sm B σ S H w) (hC : H[k]? = some C) :
 ∃ σ' S', Sm B σ' S' ((H.set k C.dead).map (Blk.frz k C)) w /\ (∀ x v, Rel σ S H w x v -> Rel σ' S' ((H.set k C.dead).map (Blk.frz k C)) w (x.frz k C) v) /\ Ev σ S H w σ' S' ((H.set k C.dead).map (Blk.frz k C)) w := by
 have hkl : k < H.length := (List.getElem?_eq_some_iff.1 hC).1;have hbk := h.blk k C hC;have hS : ∀ b, S b -> (S b ∨ σ k = some b) := fun _ h => .inl h
 have hget : ∀ j D, H[j]? = some D -> j ≠ k -> ((H.set k C.dead).map (Blk.frz k C))[j]? = some (Blk.frz k C D) := fun j D hD hj => by
  rw [List.getElem?_map, List.getElem?_set_ne hj.symm, hD]; rfl
 have hgk : ((H.set k C.dead).map (Blk.frz k C))[k]? = some C.dead := by
  rw [List.getElem?_map, List.getElem?_set_self hkl];cases C <;> rfl
 have hrel : ∀ x v, Rel σ S H w x v -> Rel (upS σ k none) (fun b => S b ∨ σ k = some b) ((H.set k C.dead).map (Blk.frz k C)) w (x.frz k C) v := by
  intro x v hx;induction hx with
  |d x v h => exact .d x v (h.mono hS fun _ _ => rfl)
  |agg l cs hl h ih =>
   refine .agg _ cs (by rw [AV.frzL_len]; exact hl) fun i d x hd hx => ?_
   rw [AV.frzL_get] at hd;cases hli : l[i]? with
   |none => rw [hli] at hd; cases hd
   |some y => rw [hli] at hd; obtain rfl := Option.some.inj hd; exact ih i y x hli hx
  |tup l cs hl h ih =>
   refine .tup _ cs (by rw [AV.frzL_len]; exact hl) fun i d x hd hx => ?_
   rw [AV.frzL_get] at hd;cases hli : l[i]? with
   |none => rw [hli] at hd; cases hd
   |some y => rw [hli] at hd; obtain rfl := Option.some.inj hd; exact ih i y x hli hx
  |gh l cs u hl h ih =>
   refine .gh _ cs u (by rw [AV.frzL_len]; exact hl) fun i d x hd hx => ?_
   rw [AV.frzL_get] at hd;cases hli : l[i]? with
   |none => rw [hli] at hd; cases hd
   |some y => rw [hli] at hd; obtain rfl := Option.some.inj hd; exact ih i y x hli hx
  |fn f l cs hl h ih =>
   refine .fn f _ cs (by rw [AV.frzL_len]; exact hl) fun i d x hd hx => ?_
   rw [AV.frzL_get] at hd;cases hli : l[i]? with
   |none => rw [hli] at hd; cases hd
   |some y => rw [hli] at hd; obtain rfl := Option.some.inj hd; exact ih i y x hli hx
  |ptr k' g o v ho g' cells hk hg hh =>
   simp only [AV.frz]
   by_cases hkk : k' = k
   ·subst hkk
    rw [hC] at hk;obtain rfl := Option.some.inj hk
    by_cases hgg : g = g'
    ·subst hgg
     simp only [Blk.gen, beq_self_eq_true, Bool.and_self, cond_true, Blk.iceP];obtain ⟨b, hb, rfl⟩ := hh rfl;rcases hbk with ⟨b', cs, T, hb', hc, hr⟩ | ⟨hb', _⟩;rotate_left
     ·rw [hb] at hb'; cases hb'
     rw [hb] at hb'; obtain rfl := Option.some.inj hb'
     have key : ∀ (j : Nat) d, ((cells.drop o).map AV.data)[j]? = some d -> ∃ u, cs[o + j]? = some u /\ RelD S w d u := by
      intro j d hd;rw [List.getElem?_map, List.getElem?_drop] at hd;cases hx : cells[o + j]? with
      |none => rw [hx] at hd; cases hd
      |some y =>
       rw [hx] at hd; obtain rfl := Option.some.inj hd;obtain ⟨u, hu, hr'⟩ := hr _ y hx;exact ⟨u, hu, hr'.data⟩
     refine .d _ _ (.pd _ b o (fun j => (cs[o + j]?).getD undef) (.inr hb) (fun j d hd => ?_) fun j d hd => ?_)
     ·obtain ⟨u, hu, _⟩ := key j d hd
      rw [cell_of_row w b (o + j) cs T (0, 0) hc, hu]; rfl
     ·obtain ⟨u, hu, hr'⟩ := key j d hd
      rw [hu]; exact hr'.mono hS fun _ _ => rfl
    ·have : (g == Blk.gen (.row g' cells)) = false := by simp [Blk.gen, hgg]
     rw [this, Bool.and_false, cond_false];exact .ptr k' g o v ho (g' + 1) [] hgk (by omega) fun e => by omega
   ·have : (k' == k) = false := by simp [hkk]
    rw [this, Bool.false_and, cond_false];refine .ptr k' g o v ho g' _ (hget k' _ hk hkk) hg fun e => ?_
    rw [QbC hkk]; exact hh e
  |rsl k' g n v ho g' cells hk hg hh =>
   simp only [AV.frz]
   by_cases hkk : k' = k
   ·subst hkk
    rw [hC] at hk;obtain rfl := Option.some.inj hk
    by_cases hgg : g = g'
    ·subst hgg
     simp only [Blk.gen, beq_self_eq_true, Bool.and_self, cond_true];exact .d _ _ (.any _)
    ·have : (g == Blk.gen (.row g' cells)) = false := by simp [Blk.gen, hgg]
     rw [this, Bool.and_false, cond_false];exact .rsl k' g n v ho (g' + 1) [] hgk (by omega) fun e => by omega
   ·have : (k' == k) = false := by simp [hkk]
    rw [this, Bool.false_and, cond_false];refine .rsl k' g n v ho g' _ (hget k' _ hk hkk) hg fun e => ?_
    rw [QbC hkk]; exact hh e
  |ept k' g i j v ho g' sz T rows hk hg hh =>
   simp only [AV.frz]
   by_cases hkk : k' = k
   ·subst hkk
    rw [hC] at hk;obtain rfl := Option.some.inj hk
    by_cases hgg : g = g'
    ·subst hgg
     simp only [Blk.gen, beq_self_eq_true, Bool.and_self, cond_true];exact .d _ _ (.any _)
    ·have : (g == Blk.gen (.arr g' sz T rows)) = false := by simp [Blk.gen, hgg]
     rw [this, Bool.and_false, cond_false];exact .ept k' g i j v ho (g' + 1) sz T [] hgk (by omega) fun e => by omega
   ·have : (k' == k) = false := by simp [hkk]
    rw [this, Bool.false_and, cond_false];refine .ept k' g i j v ho g' sz T rows (hget k' _ hk hkk) hg fun e => ?_
    rw [QbC hkk]; exact hh e
  |osl k' g off len v ho g' sz T rows hk hg hh =>
   simp only [AV.frz]
   by_cases hkk : k' = k
   ·subst hkk
    rw [hC] at hk;obtain rfl := Option.some.inj hk
    by_cases hgg : g = g'
    ·subst hgg
     simp only [Blk.gen, beq_self_eq_true, Bool.and_self, cond_true, Blk.iceS];obtain ⟨hbound, hv⟩ := hh rfl;rcases hv with ⟨b, cap, cs, T', hb, hl, hcm, rfl, hc, hs⟩ | ⟨hb, rfl, rfl⟩
     ·obtain ⟨hlen, hbk⟩ := hbk
      rcases hbk with ⟨b', cs', hb', hc', hr⟩ | ⟨hb', _⟩;rotate_left
      ·rw [hb] at hb'; cases hb'
      rw [hb] at hb'; obtain rfl := Option.some.inj hb';have hln : ((rows.drop off).take len).length = len := by rw [List.length_take, List.length_drop]; omega
      have hmem : ∀ (i : Nat) r, ((rows.drop off).take len)[i]? = some r -> rows[off + i]? = some r := fun i r hi => by
       rw [List.getElem?_take] at hi;split at hi
       ·rwa [List.getElem?_drop] at hi
       ·cases hi
      have key : ∀ (i j : Nat) r d, ((rows.drop off).take len)[i]? = some r -> r[j]? = some d -> ∃ u, cs'[off * sz + i * sz + j]? = some u /\ RelD S w d u := by
       intro i j r d hi hj;obtain ⟨u, hu, hr'⟩ := hr _ j r d (hmem i r hi) hj;exact ⟨u, by rw [<- Nat.add_mul]; exact hu, hr'⟩
      have hfin : RelD (fun b => S b ∨ σ k' = some b) w (.sl true sz ((rows.drop off).take len)) (.slice (some ⟨b, off * sz, none⟩) ((rows.drop off).take len).length cap) := by
       refine .sl true sz _ b (off * sz) cap (fun i j => (cs'[off * sz + i * sz + j]?).getD undef) (.inr hb) (fun r hr' => ?_) (fun _ => by omega) (fun i j r d hi hj => ?_) fun i j r d hi hj => ?_
       ·exact hlen r (List.mem_of_mem_drop (List.mem_of_mem_take hr'))
       ·obtain ⟨u, hu, _⟩ := key i j r d hi hj
        rw [cell_of_row w b _ cs' T (0, 0) hc', hu]; rfl
       ·obtain ⟨u, hu, hr'⟩ := key i j r d hi hj
        rw [hu]; exact hr'.mono hS fun _ _ => rfl
      rw [hln] at hfin;exact .d _ _ hfin
     ·simp only [List.take_zero]
      exact .d _ _ (.slnil true sz none 0)
    ·have : (g == Blk.gen (.arr g' sz T rows)) = false := by simp [Blk.gen, hgg]
     rw [this, Bool.and_false, cond_false];exact .osl k' g off len v ho (g' + 1) sz T [] hgk (by omega) fun e => by omega
   ·have : (k' == k) = false := by simp [hkk]
    rw [this, Bool.false_and, cond_false];refine .osl k' g off len v ho g' sz T rows (hget k' _ hk hkk) hg fun e => ?_
    unfold OSl;rw [QbC hkk]; exact hh e
  |mp k' g v ho g' l hk hg hh =>
   simp only [AV.frz]
   by_cases hkk : k' = k
   ·subst hkk
    rw [hC] at hk;obtain rfl := Option.some.inj hk
    by_cases hgg : g = g'
    ·subst hgg
     simp only [Blk.gen, beq_self_eq_true, Bool.and_self, cond_true, Blk.iceM];obtain ⟨b, hb, rfl⟩ := hh rfl;rcases hbk with ⟨b', es, clock, hb', hc, hl, hr⟩ | ⟨hb', _⟩;rotate_left
     ·rw [hb] at hb'; cases hb'
     rw [hb] at hb'; obtain rfl := Option.some.inj hb';refine .d _ _ (.mp l b es clock (.inr hb) hc hl.1 (fun i key d e hi he => ?_) fun i key d e hi he => ?_)
     ·obtain ⟨e', he', hk', _⟩ := hr i key d hi
      rw [he] at he'; obtain rfl := Option.some.inj he'; exact hk'
     ·obtain ⟨e', he', _, hd'⟩ := hr i key d hi
      rw [he] at he'; obtain rfl := Option.some.inj he'; exact hd'.mono hS fun _ _ => rfl
    ·have : (g == Blk.gen (.mp g' l)) = false := by simp [Blk.gen, hgg]
     rw [this, Bool.and_false, cond_false];exact .mp k' g v ho (g' + 1) [] hgk (by omega) fun e => by omega
   ·have : (k' == k) = false := by simp [hkk]
    rw [this, Bool.false_and, cond_false];refine .mp k' g v ho g' l (hget k' _ hk hkk) hg fun e => ?_
    rw [QbC hkk]; exact hh e
 have hev : Ev σ S H w (upS σ k none) (fun b => S b ∨ σ k = some b) ((H.set k C.dead).map (Blk.frz k C)) w := by
  refine ⟨hS, fun _ _ => rfl, fun j g cells hj => ?_, fun j g sz T rows hj => ?_, fun j g l hj => ?_⟩
  ·by_cases hjk : j = k
   ·subst hjk
    rw [hC] at hj; obtain rfl := Option.some.inj hj;exact ⟨g + 1, [], hgk, by omega, fun e => by omega⟩
   ·exact ⟨g, _, hget j _ hj hjk, Nat.le_refl _, fun _ b hb => by rw [QbC hjk]; exact hb⟩
  ·by_cases hjk : j = k
   ·subst hjk
    rw [hC] at hj; obtain rfl := Option.some.inj hj;exact ⟨g + 1, [], hgk, by omega, fun e => by omega⟩
   ·exact ⟨g, rows, hget j _ hj hjk, Nat.le_refl _, fun _ => ⟨by rw [QbC hjk], rfl, fun b cs T hb hc => ⟨cs, hc, rfl⟩⟩⟩
  ·by_cases hjk : j = k
   ·subst hjk
    rw [hC] at hj; obtain rfl := Option.some.inj hj;exact ⟨g + 1, [], hgk, by omega, fun e => by omega⟩
   ·exact ⟨g, l, hget j _ hj hjk, Nat.le_refl _, fun _ b hb => by rw [QbC hjk]; exact hb⟩
 refine ⟨_, _, ⟨h.os, h.tape, h.output, h.size, h.keep, fun b hb => .inl (h.sLo b hb), fun b hb => ?_, fun j b hj hb => ?_, fun j j' b hj hj' hb hb' => ?_, fun j D hD => ?_⟩, hrel, hev⟩
 ·rcases hb with hb | hb
  ·exact h.sUp b hb
  ·obtain ⟨h1, _, h3⟩ := h.σUp k b hkl hb
   exact ⟨h1, .inr h3⟩
 ·rw [List.length_map, List.length_set] at hj
  by_cases hjk : j = k
  ·rw [hjk, Qb3] at hb; cases hb
  ·rw [QbC hjk] at hb
   obtain ⟨h1, h2, h3⟩ := h.σUp j b hj hb;refine ⟨h1, fun hh => ?_, h3⟩;rcases hh with hh | hh
   ·exact h2 hh
   ·exact hjk (h.inj j k b hj hkl hb hh)
 ·rw [List.length_map, List.length_set] at hj hj'
  by_cases hjk : j = k
  ·rw [hjk, Qb3] at hb; cases hb
  ·by_cases hjk' : j' = k
   ·rw [hjk', Qb3] at hb'; cases hb'
   ·rw [QbC hjk] at hb; rw [QbC hjk'] at hb'
    exact h.inj j j' b hj hj' hb hb'
 ·by_cases hjk : j = k
  ·subst hjk
   rw [hgk] at hD;obtain rfl := Option.some.inj hD;cases C with
   |none => exact Qb3 _ _ _
   |row g cells => exact .inr ⟨Qb3 _ _ _, rfl⟩
   |arr g sz T rows => exact ⟨fun r hr => by simp at hr, .inr ⟨Qb3 _ _ _, rfl⟩⟩
   |mp g l => exact .inr ⟨Qb3 _ _ _, rfl⟩
  ·rw [List.getElem?_map, List.getElem?_set_ne (fun e => hjk e.symm)] at hD
   cases hE : H[j]? with
   |none => rw [hE] at hD; cases hD
   |some E =>
    rw [hE] at hD; obtain rfl := Option.some.inj hD;have hbj := h.blk j E hE;cases E with
    |none => exact (QbC hjk).trans hbj
    |row g cells =>
     rcases hbj with ⟨b, cs, T, hb, hc, hr⟩ | ⟨hb, rfl⟩
     ·refine .inl ⟨b, cs, T, (QbC hjk).trans hb, hc, fun i x hx => ?_⟩
      rw [AV.frzL_get] at hx;cases hy : cells[i]? with
      |none => rw [hy] at hx; cases hx
      |some y =>
       rw [hy] at hx; obtain rfl := Option.some.inj hx;obtain ⟨u, hu, hr'⟩ := hr i y hy;exact ⟨u, hu, hrel _ _ hr'⟩
     ·exact .inr ⟨(QbC hjk).trans hb, rfl⟩
    |arr g sz T rows => exact ArrOk.mono hbj hS (fun _ _ => rfl) (QbC hjk) fun _ _ => rfl
    |mp g l => exact MpOk.mono hbj hS (fun _ _ => rfl) (QbC hjk) fun _ _ => rfl
theorem eff_frz {P : Program} {o : Oper} {env : List (Nat × AV)} {H : List Blk} {x : AV} {H' : List Blk} (k : Nat) {C : Blk} (hC : H[k]? = some C) (h : Eff P o (frzE k C env) ((H.set k C.dead).map (Blk.frz k C)) x H') : Eff P o env H x H' := by
 intro B σ S a w hB hS hop K Q kk;obtain ⟨σ1, S1, h1, h2, h3⟩ := hS.freezeE hC;refine h B σ1 S1 a w hB h1 (fun u hu => ?_) K Q fun v w' σ' S' g1 g2 g3 => kk v w' σ' S' g1 g2 (h3.trans g3)
 have := h2 _ _ (hop u hu);cases u with
 |tmp t => simp only [aval] at this ⊢; rw [Qfm]; exact this
 |_ => exact this
theorem Qmj {P : Program} {ops : Array Oper} {K : St -> Prop} {n : Nat} {env env1 : List (Nat × AV)} {H Hf H' : List Blk} {d : Tmp} {ty : TypeId} {pos : String} {after : Array Edge} {gd : Option (Nat × Bool)} {x x' : AV} {gl : List AV} (kf : Nat) {C : Blk} (ks : List Nat) {f : FuncId} {xs : Array Operand} {tys : Array TypeId} {args : List AV} {H0 H1 : List Blk} (h : Does P f args H0 gl x H1) (hf : ∀ args w, (callFunc f args).run P w = .ok (.enter f args) w)
 (hC : H[kf]? = some C := by rfl)
 (he : ∀ R : List (Nat × AV) -> Prop, R env1 -> R (frzE kf C env) := by intro R hR; simp only [frzE, AV.frz, AV.frzL, Blk.gen, Blk.iceP, Blk.iceS, Blk.iceM, AV.data, beq_self_eq_true, Nat.reduceBEq, Bool.and_self, Bool.and_true, Bool.true_and, Bool.false_and, Bool.and_false, cond_true, cond_false, List.drop_zero, List.drop_succ_cons, List.map_cons, List.map_nil]; exact hR)
 (hh : ∀ R : List Blk -> Prop, R Hf -> R ((H.set kf C.dead).map (Blk.frz kf C)) := by intro R hR; simp only [Blk.dead, Blk.frz, AV.frz, AV.frzL, Blk.gen, Blk.iceP, Blk.iceS, Blk.iceM, AV.data, List.set_cons_zero, List.set_cons_succ, List.map_cons, List.map_nil, Nat.zero_add, beq_self_eq_true, Nat.reduceBEq, Bool.and_self, Bool.and_true, Bool.true_and, Bool.false_and, Bool.and_false, cond_true, cond_false, List.drop_zero, List.drop_succ_cons]; exact hR)
 (hargs : xs.toList.map (aval env1) = AV.renL (rho ks Hf.length) args := by rfl) (hks : ks.map (fun k => Hf[k]?) = (H0.map (Blk.ren (rho ks Hf.length))).map some := by rfl) (hnd : ks.Nodup := by decide)
 (hla : AV.ltL H0.length args = true := by rfl) (hlg : AV.ltL H0.length gl = true := by rfl) (hlH : H0.all (Blk.lt H0.length) = true := by rfl) (hgl : ∀ g ∈ gl, g.ren (rho ks Hf.length) ∈ (xs.toList.map (aval env1)).flatMap AV.parts ++ Hf.flatMap Blk.parts)
 (hX : ∀ R : AV -> Prop, R x' -> R (x.ren (rho ks Hf.length)) := by intro R hR; simp only [AV.ren, AV.renL, rho, List.getElem?_cons_zero, List.getElem?_cons_succ]; exact hR)
 (hH : ∀ R : List Blk -> Prop, R H' -> R (place (rho ks Hf.length) Hf ks H1 ++ (H1.drop ks.length).map (Blk.ren (rho ks Hf.length))) := by intro R hR; simp only [place, Blk.ren, AV.ren, AV.renL, rho, List.getElem?_cons_zero, List.getElem?_cons_succ, List.map_cons, List.map_nil, List.set_cons_zero, List.set_cons_succ, List.drop_succ_cons, List.drop_zero, List.drop_nil, List.append_nil, List.length_cons, List.length_nil, Nat.reduceAdd, Nat.zero_add]; exact hR)
 (hw : awanted ops env ⟨some d, .call ⟨.value (.func f), xs, tys⟩, ty, pos, after, gd⟩ = some true := by rfl) (hd : Nat.blt d n = true := by rfl) (hg : gdOk ops n ⟨some d, .call ⟨.value (.func f), xs, tys⟩, ty, pos, after, gd⟩ = true := by rfl)
 (k : K ⟨n, (d, x') :: env, H'⟩) : AStep P ops ⟨some d, .call ⟨.value (.func f), xs, tys⟩, ty, pos, after, gd⟩ K ⟨n, env, H⟩ := by
 have e1 := he (fun r => r = env1) rfl;have e2 := hh (fun r => r = Hf) rfl;subst e1; subst e2;exact ⟨x', H', eff_frz kf hC (Qh4 ks h hf hargs hks hnd hla hlg hlH hgl hX hH), hw, hd, hg, k⟩
variable {P : Program}
theorem Qki {f : FuncId} {args gl : List AV} {H0 : List Blk} {d : D} (hpin : ∀ i C, H0[i]? = some C -> pin1 gl i C C)
 (h : ∀ (B : Bs) (σ : Sg) (S : Nat -> Prop) (w : World) (cargs : List Value), Gd B -> Sm B σ S H0 w -> args.length = cargs.length -> (∀ (i : Nat) d v, args[i]? = some d -> cargs[i]? = some v -> Rel σ S H0 w d v) ->
   Calls P f cargs.toArray w fun e w' => ∃ v, e = .returned v /\ Below w.heap.size w w' /\ RelD (fun b => S b ∨ w.heap.size <= b /\ b < w'.heap.size) w' d v) : Does P f args H0 gl (.d d) H0 := by
 refine ⟨fun i C hC => ⟨C, hC, hpin i C hC⟩, fun B σ S w cargs gvs hB hS hl hr hgl hgr => ?_⟩;refine (h B σ S w cargs hB hS hl hr).mono ?_;rintro e w' ⟨v, rfl, hb, hv⟩;obtain ⟨h3, h4⟩ := hS.below hb;exact ⟨v, σ, _, rfl, h3, .d _ _ hv, fun i d v hd hv => (hgr i d v hd hv).mono h4⟩
def AV.flat1 : AV -> Bool
 |.d x => x.flat
 |.osl _ _ _ _ => true
 |_ => false
def AV.flatA : AV -> Bool
 |.tup l => l.all AV.flat1
 |x => x.flat1
def Blk.flat : Blk -> Bool
 |.arr _ _ _ rows => rows.all fun r => r.all D.flat
 |.row _ cells => cells.isEmpty
 |.none => true
 |_ => false
theorem Qji {σ σ' : Sg} {S S' : Nat -> Prop} {H H' : List Blk} {w : World} {m : Nat} (hm : ∀ i C, H[i]? = some C -> H'[i + m]? = some C /\ σ' (i + m) = σ i) {x : AV} {v : Value} (h : Rel σ S H w x v) (hx : x.flat1 = true) : Rel σ' S' H' w (x.ren (· + m)) v := by
 cases h with
 |d _ _ h => exact .d _ _ (h.flat hx)
 |osl k g off len v ho g' sz T rows hk hg h =>
  obtain ⟨h1, h2⟩ := hm k _ hk;refine .osl (k + m) g off len v ho g' sz T rows h1 hg fun e => ?_
  have := h e;unfold OSl at this ⊢; rw [h2]; exact this
 |_ => cases hx
theorem QmZ {σ σ' : Sg} {S S' : Nat -> Prop} {H H' : List Blk} {w : World} {m : Nat} (hm : ∀ i C, H[i]? = some C -> H'[i + m]? = some C /\ σ' (i + m) = σ i) {x : AV} {v : Value} (h : Rel σ S H w x v) (hx : x.flatA = true) : Rel σ' S' H' w (x.ren (· + m)) v := by
 cases x with
 |tup l =>
  cases h with
  |tup _ cs hl hr =>
   refine .tup _ cs (by rw [AV.renL_len]; exact hl) fun i d x hd hxx => ?_
   obtain ⟨d0, h1, rfl⟩ := QcR hd;exact Qji hm (hr i d0 x h1 hxx) (List.all_eq_true.1 hx d0 (List.mem_of_getElem? h1))
 |_ => exact Qji hm h hx
theorem Qnd {dst : Option Tmp} {ty : TypeId} {pos : String} {after : Array Edge} {gd : Option (Nat × Bool)} {env : List (Nat × AV)} {H H1 : List Blk} {f : FuncId} {xs : Array Operand} {tys : Array TypeId} {ds : List D} {x : AV}
 (h : Does P f (ds.map .d) [] [] x H1) (hf : ∀ args w, (callFunc f args).run P w = .ok (.enter f args) w) (hd : D.weakL (xs.toList.map fun u => (aval env u).ice H 4) = ds) (hx : x.flatA = true) (hH1 : H1.all Blk.flat = true) :
 Eff P ⟨dst, .call ⟨.value (.func f), xs, tys⟩, ty, pos, after, gd⟩ env H (x.ren (· + H.length)) (H ++ H1) := by
 intro B σ S a w hB hS hop K Q kk
 have hrun : (execOp a.eval ⟨dst, .call ⟨.value (.func f), xs, tys⟩, ty, pos, after, gd⟩).run P w = .ok (.enter f (xs.toList.map a.eval).toArray) w := by
  have : execOp a.eval ⟨dst, .call ⟨.value (.func f), xs, tys⟩, ty, pos, after, gd⟩ = callFunc f (#[] ++ xs.map a.eval ++ #[]) := rfl;rw [this, hf]
  congr 2
  apply Array.ext';simp
 unfold Oper.wp;rw [hrun, Oper.upon_enter]
 let S2 : Nat -> Prop := fun b => S b ∨ ∃ k, k < H.length /\ σ k = some b
 have hB' : Gd ⟨w, B.G, fun _ => False, S2⟩ := hB.again hS S2
 have hS' : Sm ⟨w, B.G, fun _ => False, S2⟩ (fun _ => none) S2 [] w := by
  refine ⟨rfl, rfl, rfl, Nat.le_refl _, fun _ _ _ => rfl, fun _ h => h, fun b hb => ⟨?_, .inl hb⟩, fun k b hk => by simp at hk, fun k k' b hk => by simp at hk, fun k C hC => by simp at hC⟩;rcases hb with hb | ⟨k, hk, hb⟩
  ·exact (hS.sUp b hb).1
  ·exact (hS.σUp k b hk hb).1
 subst hd;refine (h.2 _ _ S2 w (xs.toList.map a.eval) [] hB' hS' (by simp [D.weakL_len]) (fun i d v hi hv => ?_) rfl (fun i d v hd => by simp at hd)).mono ?_
 ·rw [List.getElem?_map, D.weakL_get, List.getElem?_map] at hi
  rw [List.getElem?_map] at hv;cases hx : xs.toList[i]? with
  |none => rw [hx] at hv; cases hv
  |some u =>
   rw [hx] at hi hv;obtain rfl := Option.some.inj hi; obtain rfl := Option.some.inj hv;exact .d _ _ (Qe1 hS (fun k C h => .inl h) 4 _ _ (hop u (by simp only [Op.operands, Call.operands]; exact Array.mem_append_right _ (Array.mem_toList_iff.1 (List.mem_of_getElem? hx))))).weak
 rintro e w' ⟨v, σ', S', rfl, hS1, hR, _⟩;have hb : Below w.heap.size w w' := ⟨hS1.os, hS1.tape, hS1.output, hS1.size, fun k hk => hS1.keep k hk fun h => h⟩;have hlt : ∀ k b, k < H.length -> σ k = some b -> b < w.heap.size := fun k b hk hb => (hS.σUp k b hk hb).1
 let σ2 : Sg := fun k => if k < H.length then σ k else σ' (k - H.length)
 have h2a : ∀ k, k < H.length -> σ2 k = σ k := fun k hk => if_pos hk
 have h2b : ∀ k, ¬ k < H.length -> σ2 k = σ' (k - H.length) := fun k hk => if_neg hk
 have e0 : Ev σ S H w σ2 S (H ++ H1) w' := Ev.more (fun b hb2 => hb.block b (hS.sUp b hb2).1) fun k C hC _ => by
  have hk := (List.getElem?_eq_some_iff.1 hC).1;exact ⟨by rw [List.getElem?_append_left hk]; exact hC, h2a k hk, fun b hbb => hb.block b (hlt k b hk hbb)⟩
 have hm : ∀ i C, H1[i]? = some C -> (H ++ H1)[i + H.length]? = some C /\ σ2 (i + H.length) = σ' i := fun i C hC =>
  ⟨by rw [List.getElem?_append_right (by omega), Nat.add_sub_cancel]; exact hC, by rw [h2b _ (by omega), Nat.add_sub_cancel]⟩
 have hnew : ∀ k b, k < H1.length -> σ' k = some b -> b < w'.heap.size /\ ¬ S2 b /\ w.heap.size <= b := fun k b hk hbb => by
  obtain ⟨g1, g2, g3⟩ := hS1.σUp k b hk hbb;exact ⟨g1, fun h => g2 (hS1.sLo b h), g3.resolve_left fun h => h⟩
 refine kk v w' σ2 S ⟨hb.os.trans hS.os, hb.tape.trans hS.tape, hb.output.trans hS.output, Nat.le_trans hS.size hb.size, fun b hlt hn => (hb.block b (by have := hS.size; omega)).trans (hS.keep b hlt hn), hS.sLo,
  fun b hb2 => ⟨by have := (hS.sUp b hb2).1; have := hb.size; omega, (hS.sUp b hb2).2⟩, fun k b hk hbb => ?_, fun k k' b hk hk' h1 h2 => ?_, fun k C hC => ?_⟩ (QmZ hm hR hx) e0
 ·by_cases hkl : k < H.length
  ·rw [h2a k hkl] at hbb
   obtain ⟨g1, g2⟩ := hS.σUp k b hkl hbb;exact ⟨by have := hb.size; omega, g2⟩
  ·rw [h2b k hkl] at hbb
   obtain ⟨g1, g2, g3⟩ := hnew _ b (by simp at hk; omega) hbb;exact ⟨g1, fun h => g2 (.inl h), .inr (by have := hS.size; omega)⟩
 ·by_cases hkl : k < H.length
  ·rw [h2a k hkl] at h1
   have := hlt k b hkl h1
   by_cases hkl' : k' < H.length
   ·rw [h2a k' hkl'] at h2; exact hS.inj k k' b hkl hkl' h1 h2
   ·rw [h2b k' hkl'] at h2
    have := (hnew _ b (by simp at hk'; omega) h2).2.2; omega
  ·rw [h2b k hkl] at h1
   by_cases hkl' : k' < H.length
   ·rw [h2a k' hkl'] at h2
    have := hlt k' b hkl' h2;have := (hnew _ b (by simp at hk; omega) h1).2.2; omega
   ·rw [h2b k' hkl'] at h2
    have := hS1.inj _ _ b (by simp at hk; omega) (by simp at hk'; omega) h1 h2;omega
 ·by_cases hkl : k < H.length
  ·rw [List.getElem?_append_left hkl] at hC
   exact (hS.blk k C hC).mono e0 (h2a k hkl) fun b hbb => hb.block b (hlt k b hkl hbb)
  ·rw [List.getElem?_append_right (by omega)] at hC
   have hfl := List.all_eq_true.1 hH1 C (List.mem_of_getElem? hC);have hbk := hS1.blk _ C hC;cases C with
   |arr g sz T rows =>
    obtain ⟨g1, g2⟩ := hbk;refine ⟨g1, ?_⟩;rw [<- h2b k hkl] at g2;rcases g2 with ⟨b, cs, hb1, hc, hr⟩ | g2
    ·refine .inl ⟨b, cs, hb1, hc, fun i j r d hi hj => ?_⟩
     obtain ⟨u, hu, hd⟩ := hr i j r d hi hj;exact ⟨u, hu, hd.flat (List.all_eq_true.1 (List.all_eq_true.1 hfl r (List.mem_of_getElem? hi)) d (List.mem_of_getElem? hj))⟩
    ·exact .inr g2
   |row g cells =>
    obtain rfl : cells = [] := List.isEmpty_iff.1 hfl;rcases hbk with ⟨b, cs, T, hb1, hc, _⟩ | ⟨hb1, _⟩
    ·exact .inl ⟨b, cs, T, (h2b k hkl).trans hb1, hc, fun j x hx => by simp at hx⟩
    ·exact .inr ⟨(h2b k hkl).trans hb1, rfl⟩
   |none => exact (h2b k hkl).trans hbk
   |mp g l => cases hfl
section
variable {ops : Array Oper} {Q : Exit -> St -> Prop} {K : St -> Prop} {l : List Oper} {n : Nat} {env : List (Nat × AV)} {H H' H1 : List Blk} {d : Tmp} {ty : TypeId} {pos : String} {after : Array Edge} {gd : Option (Nat × Bool)} {x x' : AV} {f : FuncId} {xs : Array Operand} {tys : Array TypeId} {ds : List D}
theorem Qnv (h : Does P f (ds.map .d) [] [] x H1) (hf : ∀ args w, (callFunc f args).run P w = .ok (.enter f args) w) (hd : D.weakL (xs.toList.map fun u => (aval env u).ice H 4) = ds) (hx : x.flatA = true) (hH1 : H1.all Blk.flat = true)
 (hX : ∀ R : AV -> Prop, R x' -> R (x.ren (· + H.length)) := by intro R hR; simp only [AV.ren, AV.renL, List.length_cons, List.length_nil, Nat.reduceAdd, Nat.zero_add]; exact hR) (hH : ∀ R : List Blk -> Prop, R H' -> R (H ++ H1) := by intro R hR; simp only [List.cons_append, List.nil_append]; exact hR)
 (hw : awanted ops env ⟨some d, .call ⟨.value (.func f), xs, tys⟩, ty, pos, after, gd⟩ = some true := by rfl) (hdn : Nat.blt d n = true := by rfl) (hg : gdOk ops n ⟨some d, .call ⟨.value (.func f), xs, tys⟩, ty, pos, after, gd⟩ = true := by rfl)
 (k : K ⟨n, (d, x') :: env, H'⟩) : AStep P ops ⟨some d, .call ⟨.value (.func f), xs, tys⟩, ty, pos, after, gd⟩ K ⟨n, env, H⟩ := by
 have h1 := hX (fun r => r = x') rfl;have h2 := hH (fun r => r = H') rfl;subst h1; subst h2;exact ⟨_, _, Qnd h hf hd hx hH1, hw, hdn, hg, k⟩
end
def EndO (P : Program) (t : Nat) (T : TypeId) (x : AV) (H1 : List Blk) (gl : List AV) (gvs : List Value) : Exit -> St -> Prop
 |.normal, s | .ret, s => (∃ k g cells F, look s.env t = .ptr k g 0 /\ s.H[k]? = some (.row g cells) /\ tyf P T = some F /\ ldA F cells = some x) /\ s.H = H1 /\ look s.env gslot = .gh gl gvs
 |_, _ => False
theorem QeI {f : FuncId} {fn : Func} {c : Code} {args gl : List AV} {H0 H1 : List Blk} {x : AV} {n t : Nat} {T : TypeId} (hf : P.funcs[f]? = some fn) (hb : fn.body = some c) (hn : fn.ntmps = n) (hrs : fn.results = #[.cell t T]) (hle : Nat.ble args.length n = true)
 (hn2 : Nat.ble n gslot = true) (hpin : ∀ i C, H0[i]? = some C -> ∃ C', H1[i]? = some C' /\ pin1 gl i C C')
 (h : ∀ gvs, AWP P c (EndO P t T x H1 gl gvs) ⟨n, (gslot, .gh gl gvs) :: parA 0 args, H0⟩) : Does P f args H0 gl x H1 := by
 have hlen : args.length <= n := Nat.le_of_ble_eq_true hle;have hn2 : n <= gslot := Nat.le_of_ble_eq_true hn2;refine ⟨hpin, ?_⟩;intro B σ S w cargs gvs hB hS hl hr hgl hgr;refine calls_of_wp hf hb ?_
 have hA : SmA B σ S ⟨n, (gslot, .gh gl gvs) :: parA 0 args, H0⟩ { tmps := cargs.toArray ++ Array.replicate (fn.ntmps - cargs.toArray.size) undef, defers := [] } w := by
  refine ⟨hS, rfl, ?_, fun t => ?_⟩
  ·simp [hn]; omega
  ·by_cases ht : gslot = t
   ·subst ht
    show Rel σ S H0 w (look ((gslot, .gh gl gvs) :: parA 0 args) gslot) _;rw [QbM];exact .gh _ _ _ hgl hgr
   show Rel σ S H0 w (look ((gslot, .gh gl gvs) :: parA 0 args) t) _;rw [QbU ht];rcases Qeg args 0 t with ⟨d, _, h2, h3⟩ | h
   ·rw [h3]
    have ht : t < cargs.length := by rw [<- hl]; exact (List.getElem?_eq_some_iff.1 h2).1
    have : (cargs.toArray ++ Array.replicate (fn.ntmps - cargs.toArray.size) undef).getD t undef = cargs[t] := by
     rw [Array.getD_eq_getD_getElem?, Array.getElem?_append_left (by simpa using ht)];simp [ht]
    show Rel σ S H0 w d ((cargs.toArray ++ Array.replicate (fn.ntmps - cargs.toArray.size) undef).getD t undef);rw [this];exact hr t d _ (by simpa using h2) (List.getElem?_eq_getElem ht)
   ·rw [h]; exact .d _ _ (.any _)
 refine wp_mono (h gvs _ hB _ _ _ _ hA) ?_;rintro e a w' ⟨s', σ', S', hq, hA'⟩
 have fin : ((∃ k g cells F, look s'.env t = .ptr k g 0 /\ s'.H[k]? = some (.row g cells) /\ tyf P T = some F /\ ldA F cells = some x) /\ s'.H = H1 /\ look s'.env gslot = .gh gl gvs) -> a.defers = [] /\ ∃ v, (results fn a.tmps).run P w' = .ok v w' /\ ∃ v' σ' S', Ending.returned v = .returned v' /\ Sm B σ' S' H1 w' /\ Rel σ' S' H1 w' x v' /\
  ∀ (i : Nat) d v, gl[i]? = some d -> gvs[i]? = some v -> Rel σ' S' H1 w' d v := by
  rintro ⟨⟨k, g, cells, F, hx, hk, hT, hld⟩, hH, hg⟩;refine ⟨hA'.defers, ?_⟩;have hgh := hA'.env gslot;rw [hg] at hgh;have ht := hA'.env t;rw [hx] at ht;have hsm := hA'.sm;rw [hH] at hsm hgh ht hk;generalize hv : a.tmps.getD t undef = tv at ht;cases ht with
  |ptr _ _ _ _ _ g' cells' hk' hgg hh =>
   rw [hk] at hk';injection (Option.some.inj hk') with e1 e2;subst e1; subst e2;obtain ⟨b, hb, rfl⟩ := hh rfl;rcases hsm.blk k _ hk with ⟨b', cs, T', hb', hc, hr⟩ | ⟨hb', _⟩;rotate_left
   ·rw [hb] at hb'; cases hb'
   rw [hb] at hb'; obtain rfl := Option.some.inj hb'
   obtain ⟨y, h1, h2⟩ := Qly (b := b) (o := 0) (w := w') (S := S') (σ := σ') (H := H1) hT hld fun j d hd => by
    obtain ⟨u, hu, hr'⟩ := hr _ d hd;exact ⟨u, by rw [Nat.zero_add, cell_of_row w' b _ cs T' (0, 0) hc]; exact hu, hr'⟩
   refine ⟨y, ?_, y, σ', S', rfl, hsm, h2, ?_⟩
   ·rw [QcQ, hrs, Sem.run_bind, Array.mapM_eq_mapM_toList, Sem.run_map]
    have : ([ResultVar.cell t T].mapM (rvS a.tmps)).run P w' = .ok [y] w' := by
     rw [List.mapM_cons, Sem.run_bind];show ((do loadVar T (<- asAddr (a.tmps.getD t undef)) : Sem Value).run P w').andThen _ = _;rw [hv];have : (do loadVar T (<- asAddr (.pointer (some ⟨b, 0, none⟩))) : Sem Value).run P w' = .ok y w' := h1;rw [this, Result.andThen_ok];simp
    rw [this]; rfl
   ·cases hgh with
    |gh _ _ _ h1 h2 => exact h2
 cases e with
 |normal => exact fin hq
 |ret => exact fin hq
 |_ => exact hq.elim
end Aw
end Go.Proofs.YtdjkdcokjoiokaaGreatDoor

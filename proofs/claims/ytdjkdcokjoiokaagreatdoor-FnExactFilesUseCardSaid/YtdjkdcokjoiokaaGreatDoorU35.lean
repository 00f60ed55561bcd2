/- Part 35 of the proof of use_card: contracts, walks, plain laws; no condition is assumed beyond those that a statement names. -/
import Derived.Test.YtdjkdcokjoiokaaGreatDoorU28
set_option linter.all false
namespace Go.Proofs.YtdjkdcokjoiokaaGreatDoor
open Go.RowKit
namespace Aw
theorem Sm.freezeE {B : Bs} {σ : Sg} {S : Nat -> Prop} {H : List Blk} {w : World} {k : Nat} {C : Blk} (h : Sm B σ S H w) (hC : H[k]? = some C) :
 ∃ σ' S', Sm B σ' S' ((H.set k C.dead).map (Blk.frz k C)) w /\ (∀ x v, Rel σ S H w x v -> Rel σ' S' ((H.set k C.dead).map (Blk.frz k C)) w (x.frz k C) v) /\ Ev σ S H w σ' S' ((H.set k C.dead).map (Blk.frz k C)) w := by
 have hkl : k < H.length := (List.getElem?_eq_some_iff.1 hC).1;have hbk := h.blk k C hC;have hS : ∀ b, S b -> (S b ∨ σ k = some b) := fun _ h => .inl h
 have hget : ∀ j D, H[j]? = some D -> j ≠ k -> ((H.set k C.dead).map (Blk.frz k C))[j]? = some (Blk.frz k C D) := fun j D hD hj => by
  rw [List.getElem?_map, List.getElem?_set_ne hj.symm, hD]; rfl
 have hgk : ((H.set k C.dead).map (Blk.frz k C))[k]? = some C.dead := by
  rw [List.getElem?_map, List.getElem?_set_self hkl];cases C <;> rfl
 have hrel : ∀ x v, Rel σ S H w x v -> Rel (upS σ k none) (fun b => S b ∨ σ k = some b) ((H.set k C.dead).map (Blk.frz k C)) w (x.frz k C) v := by
  intro x v hx;induction hx with
  |d x v h => exact .d x v (h.mono hS fun _ _ => rfl)
  |agg l cs hl h ih =>
   refine .agg _ cs (by rw [AV.frzL_len]; exact hl) fun i d x hd hx => ?_
   rw [AV.frzL_get] at hd;cases hli : l[i]? with
   |none => rw [hli] at hd; cases hd
   |some y => rw [hli] at hd; obtain rfl := Option.some.inj hd; exact ih i y x hli hx
  |tup l cs hl h ih =>
   refine .tup _ cs (by rw [AV.frzL_len]; exact hl) fun i d x hd hx => ?_
   rw [AV.frzL_get] at hd;cases hli : l[i]? with
   |none => rw [hli] at hd; cases hd
   |some y => rw [hli] at hd; obtain rfl := Option.some.inj hd; exact ih i y x hli hx
  |gh l cs u hl h ih =>
   refine .gh _ cs u (by rw [AV.frzL_len]; exact hl) fun i d x hd hx => ?_
   rw [AV.frzL_get] at hd;cases hli : l[i]? with
   |none => rw [hli] at hd; cases hd
   |some y => rw [hli] at hd; obtain rfl := Option.some.inj hd; exact ih i y x hli hx
  |fn f l cs hl h ih =>
   refine .fn f _ cs (by rw [AV.frzL_len]; exact hl) fun i d x hd hx => ?_
   rw [AV.frzL_get] at hd;cases hli : l[i]? with
   |none => rw [hli] at hd; cases hd
   |some y => rw [hli] at hd; obtain rfl := Option.some.inj hd; exact ih i y x hli hx
  |ptr k' g o v ho g' cells hk hg hh =>
   simp only [AV.frz]
   by_cases hkk : k' = k
   ·subst hkk
    rw [hC] at hk;obtain rfl := Option.some.inj hk
    by_cases hgg : g = g'
    ·subst hgg
     simp only [Blk.gen, beq_self_eq_true, Bool.and_self, cond_true, Blk.iceP];obtain ⟨b, hb, rfl⟩ := hh rfl;rcases hbk with ⟨b', cs, T, hb', hc, hr⟩ | ⟨hb', _⟩;rotate_left
     ·rw [hb] at hb'; cases hb'
     rw [hb] at hb'; obtain rfl := Option.some.inj hb'
     have key : ∀ (j : Nat) d, ((cells.drop o).map AV.data)[j]? = some d -> ∃ u, cs[o + j]? = some u /\ RelD S w d u := by
      intro j d hd;rw [List.getElem?_map, List.getElem?_drop] at hd;cases hx : cells[o + j]? with
      |none => rw [hx] at hd; cases hd
      |some y =>
       rw [hx] at hd; obtain rfl := Option.some.inj hd;obtain ⟨u, hu, hr'⟩ := hr _ y hx;exact ⟨u, hu, hr'.data⟩
     refine .d _ _ (.pd _ b o (fun j => (cs[o + j]?).getD undef) (.inr hb) (fun j d hd => ?_) fun j d hd => ?_)
     ·obtain ⟨u, hu, _⟩ := key j d hd
      rw [cell_of_row w b (o + j) cs T (0, 0) hc, hu]; rfl
     ·obtain ⟨u, hu, hr'⟩ := key j d hd
      rw [hu]; exact hr'.mono hS fun _ _ => rfl
    ·have : (g == Blk.gen (.row g' cells)) = false := by simp [Blk.gen, hgg]
     rw [this, Bool.and_false, cond_false];exact .ptr k' g o v ho (g' + 1) [] hgk (by omega) fun e => by omega
   ·have : (k' == k) = false := by simp [hkk]
    rw [this, Bool.false_and, cond_false];refine .ptr k' g o v ho g' _ (hget k' _ hk hkk) hg fun e => ?_
    rw [QbP hkk]; exact hh e
  |rsl k' g n v ho g' cells hk hg hh =>
   simp only [AV.frz]
   by_cases hkk : k' = k
   ·subst hkk
    rw [hC] at hk;obtain rfl := Option.some.inj hk
    by_cases hgg : g = g'
    ·subst hgg
     simp only [Blk.gen, beq_self_eq_true, Bool.and_self, cond_true];exact .d _ _ (.any _)
    ·have : (g == Blk.gen (.row g' cells)) = false := by simp [Blk.gen, hgg]
     rw [this, Bool.and_false, cond_false];exact .rsl k' g n v ho (g' + 1) [] hgk (by omega) fun e => by omega
   ·have : (k' == k) = false := by simp [hkk]
    rw [this, Bool.false_and, cond_false];refine .rsl k' g n v ho g' _ (hget k' _ hk hkk) hg fun e => ?_
    rw [QbP hkk]; exact hh e
  |ept k' g i j v ho g' sz T rows hk hg hh =>
   simp only [AV.frz]
   by_cases hkk : k' = k
   ·subst hkk
    rw [hC] at hk;obtain rfl := Option.some.inj hk
    by_cases hgg : g = g'
    ·subst hgg
     simp only [Blk.gen, beq_self_eq_true, Bool.and_self, cond_true];exact .d _ _ (.any _)
    ·have : (g == Blk.gen (.arr g' sz T rows)) = false := by simp [Blk.gen, hgg]
     rw [this, Bool.and_false, cond_false];exact .ept k' g i j v ho (g' + 1) sz T [] hgk (by omega) fun e => by omega
   ·have : (k' == k) = false := by simp [hkk]
    rw [this, Bool.false_and, cond_false];refine .ept k' g i j v ho g' sz T rows (hget k' _ hk hkk) hg fun e => ?_
    rw [QbP hkk]; exact hh e
  |osl k' g off len v ho g' sz T rows hk hg hh =>
   simp only [AV.frz]
   by_cases hkk : k' = k
   ·subst hkk
    rw [hC] at hk;obtain rfl := Option.some.inj hk
    by_cases hgg : g = g'
    ·subst hgg
     simp only [Blk.gen, beq_self_eq_true, Bool.and_self, cond_true, Blk.iceS];obtain ⟨hbound, hv⟩ := hh rfl;rcases hv with ⟨b, cap, cs, T', hb, hl, hcm, rfl, hc, hs⟩ | ⟨hb, rfl, rfl⟩
     ·obtain ⟨hlen, hbk⟩ := hbk
      rcases hbk with ⟨b', cs', hb', hc', hr⟩ | ⟨hb', _⟩;rotate_left
      ·rw [hb] at hb'; cases hb'
      rw [hb] at hb'; obtain rfl := Option.some.inj hb';have hln : ((rows.drop off).take len).length = len := by rw [List.length_take, List.length_drop]; omega
      have hmem : ∀ (i : Nat) r, ((rows.drop off).take len)[i]? = some r -> rows[off + i]? = some r := fun i r hi => by
       rw [List.getElem?_take] at hi;split at hi
       ·rwa [List.getElem?_drop] at hi
       ·cases hi
      have key : ∀ (i j : Nat) r d, ((rows.drop off).take len)[i]? = some r -> r[j]? = some d -> ∃ u, cs'[off * sz + i * sz + j]? = some u /\ RelD S w d u := by
       intro i j r d hi hj;obtain ⟨u, hu, hr'⟩ := hr _ j r d (hmem i r hi) hj;exact ⟨u, by rw [<- Nat.add_mul]; exact hu, hr'⟩
      have hfin : RelD (fun b => S b ∨ σ k' = some b) w (.sl true sz ((rows.drop off).take len)) (.slice (some ⟨b, off * sz, none⟩) ((rows.drop off).take len).length cap) := by
       refine .sl true sz _ b (off * sz) cap (fun i j => (cs'[off * sz + i * sz + j]?).getD undef) (.inr hb) (fun r hr' => ?_) (fun _ => by omega) (fun i j r d hi hj => ?_) fun i j r d hi hj => ?_
       ·exact hlen r (List.mem_of_mem_drop (List.mem_of_mem_take hr'))
       ·obtain ⟨u, hu, _⟩ := key i j r d hi hj
        rw [cell_of_row w b _ cs' T (0, 0) hc', hu]; rfl
       ·obtain ⟨u, hu, hr'⟩ := key i j r d hi hj
        rw [hu]; exact hr'.mono hS fun _ _ => rfl
      rw [hln] at hfin;exact .d _ _ hfin
     ·simp only [List.take_zero]
      exact .d _ _ (.slnil true sz none 0)
    ·have : (g == Blk.gen (.arr g' sz T rows)) = false := by simp [Blk.gen, hgg]
     rw [this, Bool.and_false, cond_false];exact .osl k' g off len v ho (g' + 1) sz T [] hgk (by omega) fun e => by omega
   ·have : (k' == k) = false := by simp [hkk]
    rw [this, Bool.false_and, cond_false];refine .osl k' g off len v ho g' sz T rows (hget k' _ hk hkk) hg fun e => ?_
    unfold OSl;rw [QbP hkk]; exact hh e
  |mp k' g v ho g' l hk hg hh =>
   simp only [AV.frz]
   by_cases hkk : k' = k
   ·subst hkk
    rw [hC] at hk;obtain rfl := Option.some.inj hk
    by_cases hgg : g = g'
    ·subst hgg
     simp only [Blk.gen, beq_self_eq_true, Bool.and_self, cond_true, Blk.iceM];obtain ⟨b, hb, rfl⟩ := hh rfl;rcases hbk with ⟨b', es, clock, hb', hc, hl, hr⟩ | ⟨hb', _⟩;rotate_left
     ·rw [hb] at hb'; cases hb'
     rw [hb] at hb'; obtain rfl := Option.some.inj hb';refine .d _ _ (.mp l b es clock (.inr hb) hc hl.1 (fun i key d e hi he => ?_) fun i key d e hi he => ?_)
     ·obtain ⟨e', he', hk', _⟩ := hr i key d hi
      rw [he] at he'; obtain rfl := Option.some.inj he'; exact hk'
     ·obtain ⟨e', he', _, hd'⟩ := hr i key d hi
      rw [he] at he'; obtain rfl := Option.some.inj he'; exact hd'.mono hS fun _ _ => rfl
    ·have : (g == Blk.gen (.mp g' l)) = false := by simp [Blk.gen, hgg]
     rw [this, Bool.and_false, cond_false];exact .mp k' g v ho (g' + 1) [] hgk (by omega) fun e => by omega
   ·have : (k' == k) = false := by simp [hkk]
    rw [this, Bool.false_and, cond_false];refine .mp k' g v ho g' l (hget k' _ hk hkk) hg fun e => ?_
    rw [QbP hkk]; exact hh e
 have hev : Ev σ S H w (upS σ k none) (fun b => S b ∨ σ k = some b) ((H.set k C.dead).map (Blk.frz k C)) w := by
  refine ⟨hS, fun _ _ => rfl, fun j g cells hj => ?_, fun j g sz T rows hj => ?_, fun j g l hj => ?_⟩
  ·by_cases hjk : j = k
   ·subst hjk
    rw [hC] at hj; obtain rfl := Option.some.inj hj;exact ⟨g + 1, [], hgk, by omega, fun e => by omega⟩
   ·exact ⟨g, _, hget j _ hj hjk, Nat.le_refl _, fun _ b hb => by rw [QbP hjk]; exact hb⟩
  ·by_cases hjk : j = k
   ·subst hjk
    rw [hC] at hj; obtain rfl := Option.some.inj hj;exact ⟨g + 1, [], hgk, by omega, fun e => by omega⟩
   ·exact ⟨g, rows, hget j _ hj hjk, Nat.le_refl _, fun _ => ⟨by rw [QbP hjk], rfl, fun b cs T hb hc => ⟨cs, hc, rfl⟩⟩⟩
  ·by_cases hjk : j = k
   ·subst hjk
    rw [hC] at hj; obtain rfl := Option.some.inj hj;exact ⟨g + 1, [], hgk, by omega, fun e => by omega⟩
   ·exact ⟨g, l, hget j _ hj hjk, Nat.le_refl _, fun _ b hb => by rw [QbP hjk]; exact hb⟩
 refine ⟨_, _, ⟨h.os, h.tape, h.output, h.size, h.keep, fun b hb => .inl (h.sLo b hb), fun b hb => ?_, fun j b hj hb => ?_, fun j j' b hj hj' hb hb' => ?_, fun j D hD => ?_⟩, hrel, hev⟩
 ·rcases hb with hb | hb
  ·exact h.sUp b hb
  ·obtain ⟨h1, _, h3⟩ := h.σUp k b hkl hb
   exact ⟨h1, .inr h3⟩
 ·rw [List.length_map, List.length_set] at hj
  by_cases hjk : j = k
  ·rw [hjk, QbG] at hb; cases hb
  ·rw [QbP hjk] at hb
   obtain ⟨h1, h2, h3⟩ := h.σUp j b hj hb;refine ⟨h1, fun hh => ?_, h3⟩;rcases hh with hh | hh
   ·exact h2 hh
   ·exact hjk (h.inj j k b hj hkl hb hh)
 ·rw [List.length_map, List.length_set] at hj hj'
  by_cases hjk : j = k
  ·rw [hjk, QbG] at hb; cases hb
  ·by_cases hjk' : j' = k
   ·rw [hjk', QbG] at hb'; cases hb'
   ·rw [QbP hjk] at hb; rw [QbP hjk'] at hb'
    exact h.inj j j' b hj hj' hb hb'
 ·by_cases hjk : j = k
  ·subst hjk
   rw [hgk] at hD;obtain rfl := Option.some.inj hD;cases C with
   |none => exact QbG _ _ _
   |row g cells => exact .inr ⟨QbG _ _ _, rfl⟩
   |arr g sz T rows => exact ⟨fun r hr => by simp at hr, .inr ⟨QbG _ _ _, rfl⟩⟩
   |mp g l => exact .inr ⟨QbG _ _ _, rfl⟩
  ·rw [List.getElem?_map, List.getElem?_set_ne (fun e => hjk e.symm)] at hD
   cases hE : H[j]? with
   |none => rw [hE] at hD; cases hD
   |some E =>
    rw [hE] at hD; obtain rfl := Option.some.inj hD;have hbj := h.blk j E hE;cases E with
    |none => exact (QbP hjk).trans hbj
    |row g cells =>
     rcases hbj with ⟨b, cs, T, hb, hc, hr⟩ | ⟨hb, rfl⟩
     ·refine .inl ⟨b, cs, T, (QbP hjk).trans hb, hc, fun i x hx => ?_⟩
      rw [AV.frzL_get] at hx;cases hy : cells[i]? with
      |none => rw [hy] at hx; cases hx
      |some y =>
       rw [hy] at hx; obtain rfl := Option.some.inj hx;obtain ⟨u, hu, hr'⟩ := hr i y hy;exact ⟨u, hu, hrel _ _ hr'⟩
     ·exact .inr ⟨(QbP hjk).trans hb, rfl⟩
    |arr g sz T rows => exact ArrOk.mono hbj hS (fun _ _ => rfl) (QbP hjk) fun _ _ => rfl
    |mp g l => exact MpOk.mono hbj hS (fun _ _ => rfl) (QbP hjk) fun _ _ => rfl
theorem eff_frz {P : Program} {o : Oper} {env : List (Nat × AV)} {H : List Blk} {x : AV} {H' : List Blk} (k : Nat) {C : Blk} (hC : H[k]? = some C) (h : Eff P o (frzE k C env) ((H.set k C.dead).map (Blk.frz k C)) x H') : Eff P o env H x H' := by
 intro B σ S a w hB hS hop K Q kk;obtain ⟨σ1, S1, h1, h2, h3⟩ := hS.freezeE hC;refine h B σ1 S1 a w hB h1 (fun u hu => ?_) K Q fun v w' σ' S' g1 g2 g3 => kk v w' σ' S' g1 g2 (h3.trans g3)
 have := h2 _ _ (hop u hu);cases u with
 |tmp t => simp only [aval] at this ⊢; rw [QfG]; exact this
 |_ => exact this
theorem Qna {P : Program} {ops : Array Oper} {K : St -> Prop} {n : Nat} {env env1 : List (Nat × AV)} {H Hf H' : List Blk} {d : Tmp} {ty : TypeId} {pos : String} {after : Array Edge} {gd : Option (Nat × Bool)} {x x' : AV} {gl : List AV} (kf : Nat) {C : Blk} (ks : List Nat) {f : FuncId} {xs : Array Operand} {tys : Array TypeId} {args : List AV} {H0 H1 : List Blk} (h : Does P f args H0 gl x H1) (hf : ∀ args w, (callFunc f args).run P w = .ok (.enter f args) w)
 (hC : H[kf]? = some C := by rfl)
 (he : ∀ R : List (Nat × AV) -> Prop, R env1 -> R (frzE kf C env) := by intro R hR; simp only [frzE, AV.frz, AV.frzL, Blk.gen, Blk.iceP, Blk.iceS, Blk.iceM, AV.data, beq_self_eq_true, Nat.reduceBEq, Bool.and_self, Bool.and_true, Bool.true_and, Bool.false_and, Bool.and_false, cond_true, cond_false, List.drop_zero, List.drop_succ_cons, List.map_cons, List.map_nil]; exact hR)
 (hh : ∀ R : List Blk -> Prop, R Hf -> R ((H.set kf C.dead).map (Blk.frz kf C)) := by intro R hR; simp only [Blk.dead, Blk.frz, AV.frz, AV.frzL, Blk.gen, Blk.iceP, Blk.iceS, Blk.iceM, AV.data, List.set_cons_zero, List.set_cons_succ, List.map_cons, List.map_nil, Nat.zero_add, beq_self_eq_true, Nat.reduceBEq, Bool.and_self, Bool.and_true, Bool.true_and, Bool.false_and, Bool.and_false, cond_true, cond_false, List.drop_zero, List.drop_succ_cons]; exact hR)
 (hargs : xs.toList.map (aval env1) = AV.renL (rho ks Hf.length) args := by rfl) (hks : ks.map (fun k => Hf[k]?) = (H0.map (Blk.ren (rho ks Hf.length))).map some := by rfl) (hnd : ks.Nodup := by decide)
 (hla : AV.ltL H0.length args = true := by rfl) (hlg : AV.ltL H0.length gl = true := by rfl) (hlH : H0.all (Blk.lt H0.length) = true := by rfl) (hgl : ∀ g ∈ gl, g.ren (rho ks Hf.length) ∈ (xs.toList.map (aval env1)).flatMap AV.parts ++ Hf.flatMap Blk.parts)
 (hX : ∀ R : AV -> Prop, R x' -> R (x.ren (rho ks Hf.length)) := by intro R hR; simp only [AV.ren, AV.renL, rho, List.getElem?_cons_zero, List.getElem?_cons_succ]; exact hR)
 (hH : ∀ R : List Blk -> Prop, R H' -> R (place (rho ks Hf.length) Hf ks H1 ++ (H1.drop ks.length).map (Blk.ren (rho ks Hf.length))) := by intro R hR; simp only [place, Blk.ren, AV.ren, AV.renL, rho, List.getElem?_cons_zero, List.getElem?_cons_succ, List.map_cons, List.map_nil, List.set_cons_zero, List.set_cons_succ, List.drop_succ_cons, List.drop_zero, List.drop_nil, List.append_nil, List.length_cons, List.length_nil, Nat.reduceAdd, Nat.zero_add]; exact hR)
 (hw : awanted ops env ⟨some d, .call ⟨.value (.func f), xs, tys⟩, ty, pos, after, gd⟩ = some true := by rfl) (hd : Nat.blt d n = true := by rfl) (hg : gdOk ops n ⟨some d, .call ⟨.value (.func f), xs, tys⟩, ty, pos, after, gd⟩ = true := by rfl)
 (k : K ⟨n, (d, x') :: env, H'⟩) : AStep P ops ⟨some d, .call ⟨.value (.func f), xs, tys⟩, ty, pos, after, gd⟩ K ⟨n, env, H⟩ := by
 have e1 := he (fun r => r = env1) rfl;have e2 := hh (fun r => r = Hf) rfl;subst e1; subst e2;exact ⟨x', H', eff_frz kf hC (Qiq ks h hf hargs hks hnd hla hlg hlH hgl hX hH), hw, hd, hg, k⟩
end Aw
end Go.Proofs.YtdjkdcokjoiokaaGreatDoor

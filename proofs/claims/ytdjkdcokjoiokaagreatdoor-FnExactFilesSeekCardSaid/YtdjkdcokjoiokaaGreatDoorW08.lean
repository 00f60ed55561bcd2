/- Part 8 of seek_card: contracts, walks, laws; no condition beyond the statement's. -/
import Derived.Test.YtdjkdcokjoiokaaGreatDoorW07
set_option linter.all false
namespace Go.Proofs.YtdjkdcokjoiokaaGreatDoor
open Go.RowKit
namespace Aw
variable {P : Program}
mutual
def D.weak : D -> D
 |.sl _ n l => .sl false n l
 |.agg l => .agg (D.weakL l)
 |.tup l => .tup (D.weakL l)
 |.pd l => .pd (D.weakL l)
 |x => x
def D.weakL : List D -> List D
 |[] => []
 |x :: r => D.weak x :: D.weakL r
end
theorem D.weakL_get : ∀ (l : List D) (i : Nat), (D.weakL l)[i]? = l[i]?.map D.weak
 |[], i => by simp [D.weakL]
 |x :: r, 0 => by simp [D.weakL]
 |x :: r, i + 1 => by simp only [D.weakL, List.getElem?_cons_succ]; exact D.weakL_get r i
theorem D.weakL_len : ∀ (l : List D), (D.weakL l).length = l.length
 |[] => rfl
 |x :: r => by simp only [D.weakL, List.length_cons]; rw [D.weakL_len r]
theorem QcO {l : List D} {i : Nat} {d : D} (h : (D.weakL l)[i]? = some d) : ∃ d0, l[i]? = some d0 /\ d = d0.weak := by
 rw [D.weakL_get] at h;obtain ⟨d0, h1, h2⟩ := Option.map_eq_some_iff.1 h;exact ⟨d0, h1, h2.symm⟩
theorem RelD.weak {S : Nat -> Prop} {w : World} {d : D} {x : Value} (h : RelD S w d x) : RelD S w d.weak x := by
 induction h with
 |any x => exact .any x
 |v x => exact .v x
 |agg l cs hl h ih => exact .agg _ cs (by rw [D.weakL_len]; exact hl) fun i d x hd hx => by obtain ⟨d0, h1, rfl⟩ := QcO hd; exact ih i d0 x h1 hx
 |tup l cs hl h ih => exact .tup _ cs (by rw [D.weakL_len]; exact hl) fun i d x hd hx => by obtain ⟨d0, h1, rfl⟩ := QcO hd; exact ih i d0 x h1 hx
 |pd l b o g hb hc h ih =>
  exact .pd _ b o g hb (fun j d hj => by obtain ⟨d0, h1, rfl⟩ := QcO hj; exact hc j d0 h1) (fun j d hj => by obtain ⟨d0, h1, rfl⟩ := QcO hj; exact ih j d0 h1)
 |slnil c n a cap => exact .slnil false n a cap
 |sl c n l b o cap g hb hn hcap hc h ih => exact .sl false n l b o cap g hb hn (fun h => by cases h) hc h
 |mp l b es clock hb hm hl hk h ih => exact .mp l b es clock hb hm hl hk h
theorem Pure.arg {f : FuncId} {l l' : List D} {x : D} (h : Pure P f l' x) (ha : D.weakL l = l' := by rfl) : Pure P f l x := by
 intro B σ S H w cargs hB hS hl hr;subst ha;exact h B σ S H w cargs hB hS (by rw [D.weakL_len]; exact hl) fun i d v hd hv => by obtain ⟨d0, h1, rfl⟩ := QcO hd; exact (hr i d0 v h1 hv).weak
theorem Pure.res {f : FuncId} {l : List D} {x y : D} (h : Pure P f l x) (hx : x.weak = y := by rfl) : Pure P f l y := by
 intro B σ S H w cargs hB hS hl hr;refine (h B σ S H w cargs hB hS hl hr).mono ?_;rintro e w' ⟨v, h1, h2, h3⟩;exact ⟨v, h1, h2, hx ▸ h3.weak⟩
mutual
def AV.ren (ρ : Nat -> Nat) : AV -> AV
 |.d x => .d x
 |.agg l => .agg (AV.renL ρ l)
 |.tup l => .tup (AV.renL ρ l)
 |.ptr k g o => .ptr (ρ k) g o
 |.ept k g i j => .ept (ρ k) g i j
 |.osl k g off len => .osl (ρ k) g off len
 |.rsl k g n => .rsl (ρ k) g n
 |.fn f l => .fn f (AV.renL ρ l)
 |.gh l vs => .gh (AV.renL ρ l) vs
 |.mp k g => .mp (ρ k) g
def AV.renL (ρ : Nat -> Nat) : List AV -> List AV
 |[] => []
 |x :: r => AV.ren ρ x :: AV.renL ρ r
end
theorem AV.renL_get (ρ : Nat -> Nat) : ∀ (l : List AV) (i : Nat), (AV.renL ρ l)[i]? = l[i]?.map (AV.ren ρ)
 |[], i => by simp [AV.renL]
 |x :: r, 0 => by simp [AV.renL]
 |x :: r, i + 1 => by simp only [AV.renL, List.getElem?_cons_succ]; exact AV.renL_get ρ r i
theorem AV.renL_len (ρ : Nat -> Nat) : ∀ (l : List AV), (AV.renL ρ l).length = l.length
 |[] => rfl
 |x :: r => by simp only [AV.renL, List.length_cons]; rw [AV.renL_len ρ r]
theorem QcR {ρ : Nat -> Nat} {l : List AV} {i : Nat} {d : AV} (h : (AV.renL ρ l)[i]? = some d) : ∃ d0, l[i]? = some d0 /\ d = d0.ren ρ := by
 rw [AV.renL_get] at h;obtain ⟨d0, h1, h2⟩ := Option.map_eq_some_iff.1 h;exact ⟨d0, h1, h2.symm⟩
def Blk.ren (ρ : Nat -> Nat) : Blk -> Blk
 |.row g cells => .row g (AV.renL ρ cells)
 |x => x
theorem Rel.up {σ σ' : Sg} {S : Nat -> Prop} {H H' : List Blk} {w : World} {ρ : Nat -> Nat} (hm : ∀ i C, H[i]? = some C -> H'[ρ i]? = some (C.ren ρ) /\ σ' (ρ i) = σ i) {x : AV} {v : Value} (h : Rel σ S H w x v) :
 Rel σ' S H' w (x.ren ρ) v := by
 induction h with
 |d x v h => exact .d x v h
 |agg l cs hl h ih => exact .agg _ cs (by rw [AV.renL_len]; exact hl) fun i d x hd hx => by obtain ⟨d0, h1, rfl⟩ := QcR hd; exact ih i d0 x h1 hx
 |tup l cs hl h ih => exact .tup _ cs (by rw [AV.renL_len]; exact hl) fun i d x hd hx => by obtain ⟨d0, h1, rfl⟩ := QcR hd; exact ih i d0 x h1 hx
 |fn f l cs hl h ih => exact .fn f _ cs (by rw [AV.renL_len]; exact hl) fun i d x hd hx => by obtain ⟨d0, h1, rfl⟩ := QcR hd; exact ih i d0 x h1 hx
 |gh l cs u hl h ih => exact .gh _ cs u (by rw [AV.renL_len]; exact hl) fun i d x hd hx => by obtain ⟨d0, h1, rfl⟩ := QcR hd; exact ih i d0 x h1 hx
 |ptr k g o v ho g' cells hk hg h =>
  obtain ⟨h1, h2⟩ := hm k _ hk;exact .ptr (ρ k) g o v ho g' _ h1 hg fun e => by rw [h2]; exact h e
 |rsl k g n v ho g' cells hk hg h =>
  obtain ⟨h1, h2⟩ := hm k _ hk;exact .rsl (ρ k) g n v ho g' _ h1 hg fun e => by rw [h2]; exact h e
 |ept k g i j v ho g' sz T rows hk hg h =>
  obtain ⟨h1, h2⟩ := hm k _ hk;exact .ept (ρ k) g i j v ho g' sz T rows h1 hg fun e => by rw [h2]; exact h e
 |osl k g off len v ho g' sz T rows hk hg h =>
  obtain ⟨h1, h2⟩ := hm k _ hk;refine .osl (ρ k) g off len v ho g' sz T rows h1 hg fun e => ?_
  unfold OSl; rw [h2]; exact h e
 |mp k g v ho g' l hk hg h =>
  obtain ⟨h1, h2⟩ := hm k _ hk;exact .mp (ρ k) g v ho g' _ h1 hg fun e => by rw [h2]; exact h e
theorem Rel.down {σ σ' : Sg} {S : Nat -> Prop} {H H' : List Blk} {w : World} {ρ : Nat -> Nat} {m : Nat} (hm : ∀ i, i < m -> ∃ C, H[i]? = some C /\ H'[ρ i]? = some (C.ren ρ) /\ σ' (ρ i) = σ i) {y : AV} {v : Value} (h : Rel σ' S H' w y v) :
 ∀ x : AV, y = x.ren ρ -> x.lt m = true -> Rel σ S H w x v := by
 have lst : ∀ {l0 : List AV} {cs : List Value}, (AV.renL ρ l0).length = cs.length -> AV.ltL m l0 = true -> (∀ (i : Nat) d x, (AV.renL ρ l0)[i]? = some d -> cs[i]? = some x -> ∀ z : AV, d = z.ren ρ -> z.lt m = true -> Rel σ S H w z x) ->
  l0.length = cs.length /\ ∀ (i : Nat) d x, l0[i]? = some d -> cs[i]? = some x -> Rel σ S H w d x := by
  intro l0 cs hl hlt ih;refine ⟨by rw [<- AV.renL_len ρ]; exact hl, fun i d x hd hx => ih i (d.ren ρ) x (by rw [AV.renL_get, hd]; rfl) hx d rfl (AV.ltL_get hlt hd)⟩
 induction h with
 |d y v h => intro x e hl; cases x <;> simp only [AV.ren, reduceCtorEq, AV.d.injEq] at e; subst e; exact .d _ _ h
 |agg l cs hl h ih =>
  intro x e hlt; cases x <;> simp only [AV.ren, reduceCtorEq, AV.agg.injEq] at e; subst e;obtain ⟨h1, h2⟩ := lst hl (by simpa [AV.lt] using hlt) ih;exact .agg _ cs h1 h2
 |tup l cs hl h ih =>
  intro x e hlt; cases x <;> simp only [AV.ren, reduceCtorEq, AV.tup.injEq] at e; subst e;obtain ⟨h1, h2⟩ := lst hl (by simpa [AV.lt] using hlt) ih;exact .tup _ cs h1 h2
 |fn f l cs hl h ih =>
  intro x e hlt; cases x <;> simp only [AV.ren, reduceCtorEq, AV.fn.injEq] at e; obtain ⟨rfl, rfl⟩ := e;obtain ⟨h1, h2⟩ := lst hl (by simpa [AV.lt] using hlt) ih;exact .fn _ _ cs h1 h2
 |gh l cs u hl h ih =>
  intro x e hlt; cases x <;> simp only [AV.ren, reduceCtorEq, AV.gh.injEq] at e; obtain ⟨rfl, rfl⟩ := e;obtain ⟨h1, h2⟩ := lst hl (by simpa [AV.lt] using hlt) ih;exact .gh _ _ u h1 h2
 |ptr k g o v ho g' cells hk hg h =>
  intro x e hlt; cases x <;> simp only [AV.ren, reduceCtorEq, AV.ptr.injEq] at e; obtain ⟨rfl, rfl, rfl⟩ := e;obtain ⟨C, h1, h2, h3⟩ := hm _ (by simpa [AV.lt] using hlt);rw [hk] at h2; cases C <;> simp only [Blk.ren, reduceCtorEq, Option.some.injEq, Blk.row.injEq] at h2;obtain ⟨rfl, rfl⟩ := h2;exact .ptr _ _ _ v ho _ _ h1 hg fun e => by rw [<- h3]; exact h e
 |rsl k g n v ho g' cells hk hg h =>
  intro x e hlt; cases x <;> simp only [AV.ren, reduceCtorEq, AV.rsl.injEq] at e; obtain ⟨rfl, rfl, rfl⟩ := e;obtain ⟨C, h1, h2, h3⟩ := hm _ (by simpa [AV.lt] using hlt);rw [hk] at h2; cases C <;> simp only [Blk.ren, reduceCtorEq, Option.some.injEq, Blk.row.injEq] at h2;obtain ⟨rfl, rfl⟩ := h2;exact .rsl _ _ _ v ho _ _ h1 hg fun e => by rw [<- h3]; exact h e
 |ept k g i j v ho g' sz T rows hk hg h =>
  intro x e hlt; cases x <;> simp only [AV.ren, reduceCtorEq, AV.ept.injEq] at e; obtain ⟨rfl, rfl, rfl, rfl⟩ := e;obtain ⟨C, h1, h2, h3⟩ := hm _ (by simpa [AV.lt] using hlt);rw [hk] at h2; cases C <;> simp only [Blk.ren, reduceCtorEq, Option.some.injEq, Blk.arr.injEq] at h2;obtain ⟨rfl, rfl, rfl, rfl⟩ := h2;exact .ept _ _ _ _ v ho _ _ _ _ h1 hg fun e => by rw [<- h3]; exact h e
 |osl k g off len v ho g' sz T rows hk hg h =>
  intro x e hlt; cases x <;> simp only [AV.ren, reduceCtorEq, AV.osl.injEq] at e; obtain ⟨rfl, rfl, rfl, rfl⟩ := e;obtain ⟨C, h1, h2, h3⟩ := hm _ (by simpa [AV.lt] using hlt);rw [hk] at h2; cases C <;> simp only [Blk.ren, reduceCtorEq, Option.some.injEq, Blk.arr.injEq] at h2;obtain ⟨rfl, rfl, rfl, rfl⟩ := h2;refine .osl _ _ _ _ v ho _ _ _ _ h1 hg fun e => ?_
  have := h e; unfold OSl at this; rw [h3] at this; exact this
 |mp k g v ho g' l hk hg h =>
  intro x e hlt; cases x <;> simp only [AV.ren, reduceCtorEq, AV.mp.injEq] at e; obtain ⟨rfl, rfl⟩ := e;obtain ⟨C, h1, h2, h3⟩ := hm _ (by simpa [AV.lt] using hlt);rw [hk] at h2; cases C <;> simp only [Blk.ren, reduceCtorEq, Option.some.injEq, Blk.mp.injEq] at h2;obtain ⟨rfl, rfl⟩ := h2;exact .mp _ _ v ho _ _ h1 hg fun e => by rw [<- h3]; exact h e
def pin1 (gl : List AV) (i : Nat) : Blk -> Blk -> Prop
 |.none, _ => True
 |.row g _, .row g' _ => g < g' ∨ (g = g' /\ ∃ o, AV.ptr i g o ∈ gl)
 |.arr g sz T rows, .arr g' sz' T' rows' => sz' = sz /\ T' = T /\ (g < g' ∨ (g = g' /\ rows'.length = rows.length /\ ∃ off len, AV.osl i g off len ∈ gl))
 |.mp g _, .mp g' _ => g < g' ∨ (g = g' /\ AV.mp i g ∈ gl)
 |_, _ => False
def Does (P : Program) (f : FuncId) (args : List AV) (H0 : List Blk) (gl : List AV) (x : AV) (H1 : List Blk) : Prop :=
 (∀ i C, H0[i]? = some C -> ∃ C', H1[i]? = some C' /\ pin1 gl i C C') /\
 ∀ (B : Bs) (σ : Sg) (S : Nat -> Prop) (w : World) (cargs gvs : List Value), Gd B -> Sm B σ S H0 w -> args.length = cargs.length -> (∀ (i : Nat) d v, args[i]? = some d -> cargs[i]? = some v -> Rel σ S H0 w d v) ->
   gl.length = gvs.length -> (∀ (i : Nat) d v, gl[i]? = some d -> gvs[i]? = some v -> Rel σ S H0 w d v) ->
   Calls P f cargs.toArray w fun e w' => ∃ v σ' S', e = .returned v /\ Sm B σ' S' H1 w' /\ Rel σ' S' H1 w' x v /\ ∀ (i : Nat) d v, gl[i]? = some d -> gvs[i]? = some v -> Rel σ' S' H1 w' d v
def rho (ks : List Nat) (m i : Nat) : Nat := match ks[i]? with
 |some k => k
 |none => m + (i - ks.length)
def place (ρ : Nat -> Nat) : List Blk -> List Nat -> List Blk -> List Blk
 |H, [], _ => H
 |H, _ :: _, [] => H
 |H, k :: ks, C :: Cs => place ρ (H.set k (C.ren ρ)) ks Cs
theorem QcS (ρ : Nat -> Nat) : ∀ (ks : List Nat) (H Cs : List Blk), (place ρ H ks Cs).length = H.length
 |[], H, Cs => by cases Cs <;> rfl
 |_ :: _, H, [] => rfl
 |k :: ks, H, C :: Cs => by simp only [place]; rw [QcS ρ ks]; simp
theorem QdS (ρ : Nat -> Nat) : ∀ (ks : List Nat) (H Cs : List Blk) (k : Nat), k ∉ ks -> (place ρ H ks Cs)[k]? = H[k]?
 |[], H, Cs, _, _ => by cases Cs <;> rfl
 |_ :: _, H, [], _, _ => rfl
 |k :: ks, H, C :: Cs, j, hj => by
  simp only [place];rw [QdS ρ ks _ Cs j (fun h => hj (List.mem_cons_of_mem _ h)), List.getElem?_set_ne (fun e => hj (by rw [e]; exact List.mem_cons_self))]
theorem QiT (ρ : Nat -> Nat) : ∀ (ks : List Nat) (H Cs : List Blk) (i k : Nat) (C : Blk), ks.Nodup -> ks[i]? = some k -> Cs[i]? = some C -> k < H.length -> (place ρ H ks Cs)[k]? = some (C.ren ρ)
 |[], _, _, i, k, C, _, h, _, _ => by simp at h
 |_ :: _, _, [], i, k, C, _, _, h, _ => by simp at h
 |k0 :: ks, H, C0 :: Cs, 0, k, C, hn, h1, h2, hk => by
  simp at h1 h2; subst h1; subst h2;simp only [place];rw [QdS ρ ks _ Cs _ (List.nodup_cons.1 hn).1, List.getElem?_set_self hk]
 |k0 :: ks, H, C0 :: Cs, i + 1, k, C, hn, h1, h2, hk => by
  simp only [place];exact QiT ρ ks _ Cs i k C (List.nodup_cons.1 hn).2 (by simpa using h1) (by simpa using h2) (by simpa using hk)
def AV.parts : AV -> List AV
 |.agg l => .agg l :: l
 |.tup l => .tup l :: l
 |.fn f l => .fn f l :: l
 |x => [x]
def Blk.parts : Blk -> List AV
 |.row _ cells => cells.flatMap AV.parts
 |_ => []
theorem Qhc {σ : Sg} {S : Nat -> Prop} {H : List Blk} {w : World} {x y : AV} {v : Value} (h : Rel σ S H w x v) (hy : y ∈ x.parts) : ∃ u, Rel σ S H w y u := by
 have lst : ∀ {l : List AV} {cs : List Value}, l.length = cs.length -> (∀ (i : Nat) d x, l[i]? = some d -> cs[i]? = some x -> Rel σ S H w d x) -> ∀ y ∈ l, ∃ u, Rel σ S H w y u := by
  intro l cs hl hr y hy;obtain ⟨i, hi⟩ := List.mem_iff_getElem?.1 hy;have : i < cs.length := by rw [<- hl]; exact (List.getElem?_eq_some_iff.1 hi).1
  exact ⟨_, hr i y _ hi (List.getElem?_eq_getElem this)⟩
 have h0 := h
 cases h <;> simp only [AV.parts, List.mem_cons, List.not_mem_nil, or_false] at hy <;> first
  |(subst hy; exact ⟨_, h0⟩)
  |(rcases hy with rfl | hy; exact ⟨_, h0⟩; exact lst (by assumption) (by assumption) y hy)
theorem QhE {σ : Sg} {S : Nat -> Prop} {H : List Blk} {w : World} {k : Nat} {C : Blk} {y : AV} (h : BlkOk σ S H w k C) (hy : y ∈ C.parts) : ∃ u, Rel σ S H w y u := by
 cases C <;> simp only [Blk.parts, List.not_mem_nil, List.mem_flatMap] at hy;obtain ⟨x, hx, hy⟩ := hy;rcases h with ⟨b, cs, T, _, _, hr⟩ | ⟨_, rfl⟩
 ·obtain ⟨i, hi⟩ := List.mem_iff_getElem?.1 hx
  obtain ⟨v, _, hv⟩ := hr i x hi;exact Qhc hv hy
 ·simp at hx
theorem QeP {o : Oper} {env : List (Nat × AV)} {H H0 H1 : List Blk} {f : FuncId} {args gl avs : List AV} {x : AV} (ks : List Nat) (h : Does P f args H0 gl x H1)
 (hcall : ∀ (σ : Sg) (S : Nat -> Prop) (H : List Blk) (w : World) (a : Act), (∀ u ∈ o.op.operands, Rel σ S H w (aval env u) (a.eval u)) -> ∃ cargs : List Value, (execOp a.eval o).run P w = .ok (.enter f cargs.toArray) w /\
   avs.length = cargs.length /\ ∀ (i : Nat) d v, avs[i]? = some d -> cargs[i]? = some v -> Rel σ S H w d v)
 (hargs : avs = AV.renL (rho ks H.length) args) (hks : ks.map (fun k => H[k]?) = (H0.map (Blk.ren (rho ks H.length))).map some) (hnd : ks.Nodup)
 (hla : AV.ltL H0.length args = true) (hlg : AV.ltL H0.length gl = true) (hlH : H0.all (Blk.lt H0.length) = true)
 (hgl : ∀ g ∈ gl, g.ren (rho ks H.length) ∈ avs.flatMap AV.parts ++ H.flatMap Blk.parts) :
 Eff P o env H (x.ren (rho ks H.length)) (place (rho ks H.length) H ks H1 ++ (H1.drop ks.length).map (Blk.ren (rho ks H.length))) := by
 obtain ⟨hpin, hrun⟩ := h;intro B σ S a w hB hS hop K Q kk;generalize hρ : rho ks H.length = ρ at *
 have hlen : ks.length = H0.length := by have := congrArg List.length hks; simpa using this
 have hlen1 : H0.length <= H1.length := by
  rcases Nat.eq_zero_or_pos H0.length with h0 | h0
  ·omega
  ·obtain ⟨C', h1, _⟩ := hpin (H0.length - 1) _ (List.getElem?_eq_getElem (by omega))
   have := (List.getElem?_eq_some_iff.1 h1).1; omega
 have hρk : ∀ i, i < H0.length -> ∃ k, ks[i]? = some k /\ ρ i = k := fun i hi => by
  have : i < ks.length := by omega
  exact ⟨ks[i], List.getElem?_eq_getElem this, by rw [<- hρ]; unfold rho; rw [List.getElem?_eq_getElem this]⟩
 have hρn : ∀ i, H0.length <= i -> ρ i = H.length + (i - H0.length) := fun i hi => by
  rw [<- hρ]; unfold rho; rw [List.getElem?_eq_none (by omega), hlen]
 have hk : ∀ i C, H0[i]? = some C -> ∃ k, ks[i]? = some k /\ ρ i = k /\ H[k]? = some (C.ren ρ) := fun i C hC => by
  obtain ⟨k, h1, h2⟩ := hρk i (List.getElem?_eq_some_iff.1 hC).1;refine ⟨k, h1, h2, ?_⟩;have := congrArg (fun l => l[i]?) hks;simp only [List.getElem?_map, h1, hC, Option.map_some] at this;exact Option.some.inj this
 have hkH : ∀ i k, ks[i]? = some k -> k < H.length /\ i < H0.length := fun i k hi => by
  have hi0 : i < H0.length := by have := (List.getElem?_eq_some_iff.1 hi).1; omega
  obtain ⟨k', h1, _, h3⟩ := hk i _ (List.getElem?_eq_getElem hi0);rw [hi] at h1; obtain rfl := Option.some.inj h1;exact ⟨(List.getElem?_eq_some_iff.1 h3).1, hi0⟩
 let own : Nat -> Prop := fun b => ∃ k ∈ ks, σ k = some b
 have hown : ∀ b, own b -> b < w.heap.size /\ ¬ S b /\ (B.own b ∨ B.w0.heap.size <= b) := fun b ⟨k, hkm, hb⟩ => by
  obtain ⟨i, hi⟩ := List.mem_iff_getElem?.1 hkm;exact hS.σUp k b (hkH i k hi).1 hb
 have hB' : Gd ⟨w, B.G, own, S⟩ := ⟨hB.g, fun b hb => by
  rcases (hown b hb).2.2 with h | h
  ·exact hB.own b h
  ·have := Lt.size hB.lt; omega, hB.ltOf hS⟩
 have hm0 : ∀ i, i < H0.length -> ∃ C, H0[i]? = some C /\ H[ρ i]? = some (C.ren ρ) /\ σ (ρ i) = (fun i => σ (ρ i)) i := fun i hi => by
  obtain ⟨k, h1, h2, h3⟩ := hk i _ (List.getElem?_eq_getElem hi);exact ⟨_, List.getElem?_eq_getElem hi, by rw [h2]; exact h3, rfl⟩
 have hinj : ∀ i j k, ks[i]? = some k -> ks[j]? = some k -> i = j := fun i j k hi hj => by
  have h1 := (List.getElem?_eq_some_iff.1 hi); have h2 := (List.getElem?_eq_some_iff.1 hj);obtain ⟨hi', e1⟩ := h1; obtain ⟨hj', e2⟩ := h2;have hp := List.pairwise_iff_getElem.1 hnd;rcases Nat.lt_trichotomy i j with h | h | h
  ·exact absurd (e1.trans e2.symm) (hp i j hi' hj' h)
  ·exact h
  ·exact absurd (e2.trans e1.symm) (hp j i hj' hi' h)
 have hS0 : Sm ⟨w, B.G, own, S⟩ (fun i => σ (ρ i)) S H0 w := by
  refine ⟨rfl, rfl, rfl, Nat.le_refl _, fun _ _ _ => rfl, fun _ h => h, fun b hb => ⟨(hS.sUp b hb).1, .inl hb⟩, fun i b hi hb => ?_, fun i j b hi hj hb hb' => ?_, fun i C hC => ?_⟩
  ·obtain ⟨k, h1, h2⟩ := hρk i hi
   have hb' : σ k = some b := by rw [<- h2]; exact hb
   obtain ⟨h3, h4, _⟩ := hS.σUp k b (hkH i k h1).1 hb';exact ⟨h3, h4, .inl ⟨k, List.mem_of_getElem? h1, hb'⟩⟩
  ·obtain ⟨k, h1, h2⟩ := hρk i hi
   obtain ⟨k', h1', h2'⟩ := hρk j hj;simp only [h2, h2'] at hb hb';have := hS.inj k k' b (hkH i k h1).1 (hkH j k' h1').1 hb hb';subst this;exact hinj i j k h1 h1'
  ·obtain ⟨k, h1, h2, h3⟩ := hk i C hC
   have hb := hS.blk k _ h3;have hlt := List.all_eq_true.1 hlH C (List.mem_of_getElem? hC);cases C with
   |none => show σ (ρ i) = none; rw [h2]; exact hb
   |row g cells =>
    rcases hb with ⟨b, cs, T, hb, hc, hr⟩ | ⟨hb, hc⟩
    ·refine .inl ⟨b, cs, T, by show σ (ρ i) = some b; rw [h2]; exact hb, hc, fun j y hy => ?_⟩
     obtain ⟨u, hu, hr'⟩ := hr j (y.ren ρ) (by rw [AV.renL_get, hy]; rfl);exact ⟨u, hu, hr'.down hm0 y rfl (AV.ltL_get hlt hy)⟩
    ·refine .inr ⟨by show σ (ρ i) = none; rw [h2]; exact hb, ?_⟩
     cases cells with
     |nil => rfl
     |cons => simp [AV.renL] at hc
   |arr g sz T rows =>
    refine ⟨hb.1, ?_⟩;show (∃ b cs, σ (ρ i) = some b /\ _) ∨ (σ (ρ i) = none /\ _);rw [h2]; exact hb.2
   |mp g l => show (∃ b es clock, σ (ρ i) = some b /\ _) ∨ (σ (ρ i) = none /\ _); rw [h2]; exact hb
 obtain ⟨cargs, hc1, hc2, hc3⟩ := hcall σ S H w a hop
 have havs : ∀ y ∈ avs.flatMap AV.parts ++ H.flatMap Blk.parts, ∃ u, Rel σ S H w y u := by
  intro y hy;rcases List.mem_append.1 hy with hy | hy
  ·obtain ⟨z, hz, hy⟩ := List.mem_flatMap.1 hy
   obtain ⟨i, hi⟩ := List.mem_iff_getElem?.1 hz;have : i < cargs.length := by rw [<- hc2]; exact (List.getElem?_eq_some_iff.1 hi).1
   exact Qhc (hc3 i z _ hi (List.getElem?_eq_getElem this)) hy
  ·obtain ⟨C, hC, hy⟩ := List.mem_flatMap.1 hy
   obtain ⟨k, hk'⟩ := List.mem_iff_getElem?.1 hC;exact QhE (hS.blk k C hk') hy
 obtain ⟨gvs, hg1, hg2⟩ : ∃ gvs : List Value, gl.length = gvs.length /\ ∀ (i : Nat) d v, gl[i]? = some d -> gvs[i]? = some v -> Rel (fun i => σ (ρ i)) S H0 w d v := by
  have : ∀ (l : List AV), (∀ g ∈ l, g ∈ gl) -> ∃ gvs : List Value, l.length = gvs.length /\ ∀ (i : Nat) d v, l[i]? = some d -> gvs[i]? = some v -> Rel (fun i => σ (ρ i)) S H0 w d v := by
   intro l;induction l with
   |nil => intro _; exact ⟨[], rfl, fun i d v h => by simp at h⟩
   |cons g r ih =>
    intro hm;obtain ⟨gvs, h1, h2⟩ := ih fun g hg => hm g (List.mem_cons_of_mem _ hg)
    have hg := hm g List.mem_cons_self;obtain ⟨u, hu⟩ := havs _ (hgl g hg);obtain ⟨j, hj⟩ := List.mem_iff_getElem?.1 hg;refine ⟨u :: gvs, by simp [h1], fun i d v hd hv => ?_⟩;cases i with
    |zero => simp at hd hv; subst hd; subst hv; exact hu.down hm0 _ rfl (AV.ltL_get hlg hj)
    |succ i => exact h2 i d v (by simpa using hd) (by simpa using hv)
  exact this gl fun _ h => h
 unfold Oper.wp;rw [hc1, Oper.upon_enter];refine (hrun ⟨w, B.G, own, S⟩ (fun i => σ (ρ i)) S w cargs gvs hB' hS0 (by rw [<- hc2, hargs, AV.renL_len]) (fun i d v hd hv => ?_) hg1 hg2).mono ?_
 ·exact (hc3 i (d.ren ρ) v (by rw [hargs, AV.renL_get, hd]; rfl) hv).down hm0 d rfl (AV.ltL_get hla hd)
 rintro e w' ⟨v, σ1, S1, rfl, hS1, hR1, hG1⟩;generalize hH' : place ρ H ks H1 ++ (H1.drop ks.length).map (Blk.ren ρ) = H' at kk ⊢;have hH'len : H'.length = H.length + (H1.length - H0.length) := by rw [<- hH']; simp [QcS, hlen]
 let σ' : Sg := fun k => match ks.idxOf? k with
  |some i => σ1 i
  |none => if k < H.length then σ k else σ1 (H0.length + (k - H.length))
 have hidx : ∀ i k, ks[i]? = some k -> ks.idxOf? k = some i := fun i k hi => by
  have hex : ∃ j, ks.idxOf? k = some j := by
   cases hx : ks.idxOf? k with
   |some j => exact ⟨j, rfl⟩
   |none => rw [List.idxOf?_eq_none_iff] at hx; exact absurd (List.mem_of_getElem? hi) hx
  obtain ⟨j, hj⟩ := hex
  have : ks[j]? = some k := by
   have := List.findIdx?_eq_some_iff_getElem.1 (show ks.findIdx? (· == k) = some j from hj);obtain ⟨h1, h2, _⟩ := this;rw [List.getElem?_eq_getElem h1, eq_of_beq h2]
  rw [hj, hinj j i k this hi]
 have hidn : ∀ k, k ∉ ks -> ks.idxOf? k = none := fun k hk => List.idxOf?_eq_none_iff.2 hk
 have hσk : ∀ i, i < H0.length -> σ' (ρ i) = σ1 i := fun i hi => by
  obtain ⟨k, h1, h2⟩ := hρk i hi;show (match ks.idxOf? (ρ i) with | some i => σ1 i | none => _) = _;rw [h2, hidx i k h1]
 have hσn : ∀ i, H0.length <= i -> σ' (ρ i) = σ1 i := fun i hi => by
  have hnot : ρ i ∉ ks := fun hm => by
   obtain ⟨j, hj⟩ := List.mem_iff_getElem?.1 hm;have := (hkH j _ hj).1;rw [hρn i hi] at this; omega
  show (match ks.idxOf? (ρ i) with | some i => σ1 i | none => _) = _;rw [hidn _ hnot];simp only;rw [hρn i hi, if_neg (by omega)]
  congr 1; omega
 have hσ1 : ∀ i, σ' (ρ i) = σ1 i := fun i => by
  rcases Nat.lt_or_ge i H0.length with hi | hi
  ·exact hσk i hi
  ·exact hσn i hi
 have hσo : ∀ k, k < H.length -> k ∉ ks -> σ' k = σ k := fun k hk hn => by
  show (match ks.idxOf? k with | some i => σ1 i | none => _) = _;rw [hidn k hn]; simp only; rw [if_pos hk]
 have hm1 : ∀ i C, H1[i]? = some C -> H'[ρ i]? = some (C.ren ρ) /\ σ' (ρ i) = σ1 i := fun i C hC => by
  refine ⟨?_, hσ1 i⟩;rcases Nat.lt_or_ge i H0.length with hi | hi
  ·obtain ⟨k, h1, h2⟩ := hρk i hi
   rw [h2, <- hH', List.getElem?_append_left (by rw [QcS]; exact (hkH i k h1).1)];exact QiT ρ ks H H1 i k C hnd h1 hC (hkH i k h1).1
  ·rw [hρn i hi, <- hH', List.getElem?_append_right (by rw [QcS]; omega), QcS, List.getElem?_map, List.getElem?_drop, hlen]
   have : H0.length + (H.length + (i - H0.length) - H.length) = i := by omega
   rw [this, hC]; rfl
 have hother : ∀ k C, k < H.length -> k ∉ ks -> (H'[k]? = some C ↔ H[k]? = some C) := fun k C hk hn => by
  rw [<- hH', List.getElem?_append_left (by rw [QcS]; exact hk), QdS ρ ks H H1 k hn]
 have hkeep : ∀ b, b < w.heap.size -> ¬ own b -> w'.heap[b]? = w.heap[b]? := hS1.keep
 have hnown : ∀ k b, k < H.length -> k ∉ ks -> σ k = some b -> ¬ own b := fun k b hk hn hb ⟨k', hk', hb'⟩ => by
  obtain ⟨i, hi⟩ := List.mem_iff_getElem?.1 hk';have := hS.inj k k' b hk (hkH i k' hi).1 hb hb';subst this; exact hn hk'
 have hgp : ∀ {i : Nat} {d : AV}, d ∈ gl -> ∃ u, Rel (fun i => σ (ρ i)) S H0 w d u /\ Rel σ1 S1 H1 w' d u := fun {i d} hd => by
  obtain ⟨j, hj⟩ := List.mem_iff_getElem?.1 hd;have hlt : j < gvs.length := by rw [<- hg1]; exact (List.getElem?_eq_some_iff.1 hj).1
  exact ⟨gvs[j], hg2 j d _ hj (List.getElem?_eq_getElem hlt), hG1 j d _ hj (List.getElem?_eq_getElem hlt)⟩
 have hev : Ev σ S H w σ' S1 H' w' := by
  have base : ∀ k C, H[k]? = some C -> (k ∉ ks /\ H'[k]? = some C /\ σ' k = σ k /\ ∀ b, σ k = some b -> w'.heap[b]? = w.heap[b]?) ∨
   ∃ i C0 C1, ρ i = k /\ H0[i]? = some C0 /\ C = C0.ren ρ /\ H1[i]? = some C1 /\ pin1 gl i C0 C1 /\ H'[k]? = some (C1.ren ρ) /\ σ' k = σ1 i := fun k C hC => by
   have hkl := (List.getElem?_eq_some_iff.1 hC).1
   by_cases hm : k ∈ ks
   ·obtain ⟨i, hi⟩ := List.mem_iff_getElem?.1 hm
    have hi0 := (hkH i k hi).2;obtain ⟨k', h1, h2, h3⟩ := hk i _ (List.getElem?_eq_getElem hi0);rw [hi] at h1; obtain rfl := Option.some.inj h1;obtain ⟨C1, h4, h5⟩ := hpin i _ (List.getElem?_eq_getElem hi0);rw [hC] at h3;obtain ⟨h6, h7⟩ := hm1 i C1 h4;rw [h2] at h6 h7;exact .inr ⟨i, _, C1, h2, List.getElem?_eq_getElem hi0, Option.some.inj h3, h4, h5, h6, h7⟩
   ·exact .inl ⟨hm, (hother k C hkl hm).2 hC, hσo k hkl hm, fun b hb => hkeep b (hS.σUp k b hkl hb).1 (hnown k b hkl hm hb)⟩
  refine ⟨hS1.sLo, fun b hb => hkeep b (hS.sUp b hb).1 fun ho => (hown b ho).2.1 hb, fun k g cells hC => ?_, fun k g sz T rows hC => ?_, fun k g l hC => ?_⟩
  ·rcases base k _ hC with ⟨_, h1, h2, _⟩ | ⟨i, C0, C1, h1, h2, h3, h4, h5, h6, h7⟩
   ·exact ⟨g, cells, h1, Nat.le_refl _, fun _ b hb => h2.trans hb⟩
   ·cases C0 <;> simp only [Blk.ren, reduceCtorEq, Blk.row.injEq] at h3
    obtain ⟨rfl, rfl⟩ := h3;cases C1 <;> simp only [pin1] at h5;rename_i g' cells';refine ⟨g', _, h6, by omega, fun e b hb => ?_⟩;subst e;rcases h5 with h5 | ⟨_, o, h5⟩
    ·omega
    ·obtain ⟨u, hu, hu'⟩ := hgp (i := 0) h5
     cases hu with
     |ptr _ _ _ _ ho g2 c2 hk2 hg2 hh2 =>
      cases hu' with
      |ptr _ _ _ _ ho3 g3 c3 hk3 hg3 hh3 =>
       rw [h2] at hk2; rw [h4] at hk3;simp only [Option.some.injEq, Blk.row.injEq] at hk2 hk3;obtain ⟨b1, e1, e2⟩ := hh2 hk2.1.symm;obtain ⟨b2, e3, e4⟩ := hh3 hk3.1.symm;rw [h7, e3];rw [e2] at e4;simp only [Value.pointer.injEq, Option.some.injEq, Addr.mk.injEq] at e4;simp only [h1] at e1;rw [hb] at e1; rw [<- e4.1, e1]
  ·rcases base k _ hC with ⟨_, h1, h2, h3⟩ | ⟨i, C0, C1, h1, h2, h3, h4, h5, h6, h7⟩
   ·exact ⟨g, rows, h1, Nat.le_refl _, fun _ => ⟨h2, rfl, fun b cs T' hb hc => ⟨cs, (h3 b hb).trans hc, rfl⟩⟩⟩
   ·cases C0 <;> simp only [Blk.ren, reduceCtorEq, Blk.arr.injEq] at h3
    obtain ⟨rfl, rfl, rfl, rfl⟩ := h3;cases C1 <;> simp only [pin1] at h5;rename_i g' sz' T' rows';obtain ⟨rfl, rfl, h5⟩ := h5;refine ⟨g', rows', h6, by omega, fun e => ?_⟩;subst e;rcases h5 with h5 | ⟨_, h8, off, len, h5⟩
    ·omega
    ·obtain ⟨u, hu, hu'⟩ := hgp (i := 0) h5
     cases hu with
     |osl _ _ _ _ _ ho g2 s2 t2 c2 hk2 hg2 hh2 =>
      cases hu' with
      |osl _ _ _ _ _ ho3 g3 s3 t3 c3 hk3 hg3 hh3 =>
       rw [h2] at hk2; rw [h4] at hk3;simp only [Option.some.injEq, Blk.arr.injEq] at hk2 hk3;obtain ⟨_, e1⟩ := hh2 hk2.1.symm;obtain ⟨_, e2⟩ := hh3 hk3.1.symm;simp only [h1] at e1;obtain ⟨q1, q2, q3, q4⟩ := hk2;obtain ⟨p1, p2, p3, p4⟩ := hk3;subst q2; subst p2;rw [h7];rcases e1 with ⟨b1, cap1, cs1, T1, a1, a2, a3, a4, a5, a6⟩ | ⟨a1, a2, a3⟩ <;> rcases e2 with ⟨b2, cap2, cs2, T2, d1, d2, d3, d4, d5, d6⟩ | ⟨d1, d2, d3⟩
       ·rw [a4] at d4
        simp only [Value.slice.injEq, Option.some.injEq, Addr.mk.injEq] at d4;obtain ⟨⟨f1, _⟩, _, f2⟩ := d4;subst f1; subst f2;refine ⟨d1.trans a1.symm, h8, fun b cs T hb hc => ?_⟩;rw [a1] at hb; obtain rfl := Option.some.inj hb;rw [a5] at hc;simp only [Option.some.injEq, Obj.cells.injEq] at hc;obtain ⟨rfl, rfl, _⟩ := hc;have hb1 := hS1.blk i _ h4;have hb0 := hS.blk k _ hC;rcases hb1.2 with ⟨b3, cs3, k1, k2, _⟩ | ⟨k1, _⟩;rotate_left
        ·rw [d1] at k1; cases k1
        rcases hb0.2 with ⟨b4, cs4, m1, m2, _⟩ | ⟨m1, _⟩;rotate_left
        ·rw [a1] at m1; cases m1
        rw [d1] at k1; obtain rfl := Option.some.inj k1;rw [a1] at m1; obtain rfl := Option.some.inj m1;rw [d5] at k2; rw [a5] at m2;simp only [Option.some.injEq, Obj.cells.injEq] at k2 m2;obtain ⟨_, rfl, _⟩ := k2;obtain ⟨_, rfl, _⟩ := m2;exact ⟨cs2, d5, by omega⟩
       ·rw [a4] at d3; simp at d3
       ·rw [a3] at d4; simp at d4
       ·exact ⟨d1.trans a1.symm, h8, fun b cs T hb => by rw [a1] at hb; cases hb⟩
  ·rcases base k _ hC with ⟨_, h1, h2, _⟩ | ⟨i, C0, C1, h1, h2, h3, h4, h5, h6, h7⟩
   ·exact ⟨g, l, h1, Nat.le_refl _, fun _ b hb => h2.trans hb⟩
   ·cases C0 <;> simp only [Blk.ren, reduceCtorEq, Blk.mp.injEq] at h3
    obtain ⟨rfl, rfl⟩ := h3;cases C1 <;> simp only [pin1] at h5;rename_i g' l';refine ⟨g', _, h6, by omega, fun e b hb => ?_⟩;subst e;rcases h5 with h5 | ⟨_, h5⟩
    ·omega
    ·obtain ⟨u, hu, hu'⟩ := hgp (i := 0) h5
     cases hu with
     |mp _ _ _ ho g2 c2 hk2 hg2 hh2 =>
      cases hu' with
      |mp _ _ _ ho3 g3 c3 hk3 hg3 hh3 =>
       rw [h2] at hk2; rw [h4] at hk3;simp only [Option.some.injEq, Blk.mp.injEq] at hk2 hk3;obtain ⟨b1, e1, e2⟩ := hh2 hk2.1.symm;obtain ⟨b2, e3, e4⟩ := hh3 hk3.1.symm;rw [h7, e3];rw [e2] at e4;simp only [Value.map.injEq, Option.some.injEq] at e4;simp only [h1] at e1;rw [hb] at e1; rw [<- e4, e1]
 have hsz := hS1.size;have hsz0 := hS.size
 have hcase : ∀ k, k < H'.length -> (k < H.length /\ k ∉ ks) ∨ ∃ i, i < H1.length /\ ρ i = k := fun k hk' => by
  by_cases hkl : k < H.length
  ·by_cases hm : k ∈ ks
   ·obtain ⟨i, hi⟩ := List.mem_iff_getElem?.1 hm
    have hi0 := (hkH i k hi).2;obtain ⟨k', h1, h2⟩ := hρk i hi0;rw [hi] at h1; obtain rfl := Option.some.inj h1;exact .inr ⟨i, by omega, h2⟩
   ·exact .inl ⟨hkl, hm⟩
  ·refine .inr ⟨H0.length + (k - H.length), by omega, ?_⟩
   rw [hρn _ (by omega)]; omega
 have hup1 : ∀ i b, i < H1.length -> σ1 i = some b -> b < w'.heap.size /\ ¬ S1 b /\ (own b ∨ w.heap.size <= b) := fun i b hi hb => hS1.σUp i b hi hb
 have hoS1 : ∀ k b, k < H.length -> k ∉ ks -> σ k = some b -> ¬ S1 b := fun k b hk hn hb hs => by
  obtain ⟨h1, h2, _⟩ := hS.σUp k b hk hb;rcases (hS1.sUp b hs).2 with h | h | h
  ·exact h2 h
  ·exact hnown k b hk hn hb h
  ·have : w.heap.size <= b := h
   omega
 refine kk v w' σ' S1 ?_ (hR1.up hm1) hev;refine ⟨hS1.os.trans hS.os, hS1.tape.trans hS.tape, hS1.output.trans hS.output, Nat.le_trans hS.size hS1.size, fun b hb hn => ?_, fun b hb => hS1.sLo b (hS.sLo b hb), fun b hb => ?_, fun k b hk' hb => ?_, fun k k' b hk1 hk2 hb hb' => ?_, fun k C hC => ?_⟩
 ·refine (hkeep b (by omega) fun ho => ?_).trans (hS.keep b hb hn)
  rcases (hown b ho).2.2 with h | h
  ·exact hn h
  ·omega
 ·obtain ⟨h1, h2⟩ := hS1.sUp b hb
  refine ⟨h1, ?_⟩;rcases h2 with h2 | h2 | h2
  ·exact (hS.sUp b h2).2
  ·exact .inr (hown b h2).2.2
  ·exact .inr (.inr (by have : w.heap.size <= b := h2; omega))
 ·rcases hcase k hk' with ⟨h1, h2⟩ | ⟨i, h1, rfl⟩
  ·rw [hσo k h1 h2] at hb
   obtain ⟨h3, _, h5⟩ := hS.σUp k b h1 hb;exact ⟨by have : w.heap.size <= w'.heap.size := hsz; omega, hoS1 k b h1 h2 hb, h5⟩
  ·rw [hσ1] at hb
   obtain ⟨h3, h4, h5⟩ := hup1 i b h1 hb;refine ⟨h3, h4, ?_⟩;rcases h5 with h5 | h5
   ·exact (hown b h5).2.2
   ·exact .inr (by omega)
 ·have cross : ∀ k i b, k < H.length -> k ∉ ks -> i < H1.length -> σ k = some b -> σ1 i = some b -> False := fun k i b h1 h2 h3 h4 h5 => by
   rcases (hup1 i b h3 h5).2.2 with h | h
   ·exact hnown k b h1 h2 h4 h
   ·have := (hS.σUp k b h1 h4).1; omega
  rcases hcase k hk1 with ⟨h1, h2⟩ | ⟨i, h1, rfl⟩ <;> rcases hcase k' hk2 with ⟨h3, h4⟩ | ⟨j, h3, rfl⟩
  ·rw [hσo k h1 h2] at hb; rw [hσo k' h3 h4] at hb'
   exact hS.inj k k' b h1 h3 hb hb'
  ·rw [hσo k h1 h2] at hb; rw [hσ1] at hb'
   exact (cross k j b h1 h2 h3 hb hb').elim
  ·rw [hσ1] at hb; rw [hσo k' h3 h4] at hb'
   exact (cross k' i b h3 h4 h1 hb' hb).elim
  ·rw [hσ1] at hb hb'
   rw [hS1.inj i j b h1 h3 hb hb']
 ·rcases hcase k (List.getElem?_eq_some_iff.1 hC).1 with ⟨h1, h2⟩ | ⟨i, h1, rfl⟩
  ·exact (hS.blk k C ((hother k C h1 h2).1 hC)).mono hev (hσo k h1 h2) fun b hb => hkeep b (hS.σUp k b h1 hb).1 (hnown k b h1 h2 hb)
  ·obtain ⟨h3, h4⟩ := hm1 i _ (List.getElem?_eq_getElem h1)
   rw [h3] at hC; obtain rfl := Option.some.inj hC;have hb := hS1.blk i _ (List.getElem?_eq_getElem h1);generalize H1[i] = C1 at *
   cases C1 with
   |none => exact h4.trans hb
   |row g cells =>
    rcases hb with ⟨b, cs, T, hb, hc, hr⟩ | ⟨hb, rfl⟩
    ·refine .inl ⟨b, cs, T, h4.trans hb, hc, fun j y hy => ?_⟩
     obtain ⟨y0, hy0, rfl⟩ := QcR hy;obtain ⟨u, hu, hr'⟩ := hr j y0 hy0;exact ⟨u, hu, hr'.up hm1⟩
    ·exact .inr ⟨h4.trans hb, rfl⟩
   |arr g sz T rows =>
    refine ⟨hb.1, ?_⟩;rw [h4]; exact hb.2
   |mp g l => show (∃ b es clock, σ' (ρ i) = some b /\ _) ∨ (σ' (ρ i) = none /\ _); rw [h4]; exact hb
def parA : Nat -> List AV -> List (Nat × AV)
 |_, [] => []
 |i, d :: r => (i, d) :: parA (i + 1) r
theorem Qeg : ∀ (l : List AV) (i t : Nat), (∃ d, i <= t /\ l[t - i]? = some d /\ look (parA i l) t = d) ∨ look (parA i l) t = .d .any
 |[], _, _ => .inr rfl
 |d :: r, i, t => by
  by_cases h : i = t
  ·subst h; exact .inl ⟨d, Nat.le_refl _, by simp, QbM _ _ _⟩
  ·have hl : look (parA i (d :: r)) t = look (parA (i + 1) r) t := QbU h _ _
   rw [hl];rcases Qeg r (i + 1) t with ⟨d', h1, h2, h3⟩ | h
   ·refine .inl ⟨d', by omega, ?_, h3⟩
    have : t - i = (t - (i + 1)) + 1 := by omega
    rw [this, List.getElem?_cons_succ]; exact h2
   ·exact .inr h
def allR (env : List (Nat × AV)) : List ResultVar -> Option (List AV)
 |[] => some []
 |.tmp t :: r => (allR env r).map (look env t :: ·)
 |.cell _ _ :: _ => none
def resA (env : List (Nat × AV)) : List ResultVar -> Option AV
 |[.tmp t] => some (look env t)
 |rs => (allR env rs).map .tup
abbrev gslot : Nat := 1000000
def EndA (rs : List ResultVar) (x : AV) (H1 : List Blk) (gl : List AV) (gvs : List Value) : Exit -> St -> Prop
 |.normal, s | .ret, s => resA s.env rs = some x /\ s.H = H1 /\ look s.env gslot = .gh gl gvs
 |_, _ => False
theorem Qdt (tmps : Array Value) (w : World) : ∀ (rs : List ResultVar) (env : List (Nat × AV)) (ds : List AV), allR env rs = some ds ->
 (rs.mapM (rvS tmps)).run P w = .ok (rs.map (rvV tmps)) w /\ ds.length = rs.length /\ ∀ (i : Nat) d v, ds[i]? = some d -> (rs.map (rvV tmps))[i]? = some v -> ∃ t, d = look env t /\ v = tmps.getD t undef
 |[], _, ds, h => by obtain rfl := Option.some.inj h; exact ⟨by simp, rfl, fun i d v hd => by simp at hd⟩
 |.tmp t :: rs, env, ds, h => by
  obtain ⟨ds', h1, rfl⟩ := Option.map_eq_some_iff.1 h;obtain ⟨h2, h3, h4⟩ := Qdt tmps w rs env ds' h1;refine ⟨?_, by simp [h3], fun i d v hd hv => ?_⟩
  ·rw [List.mapM_cons, Sem.run_bind]
   show ((Sem.pure (tmps.getD t undef)).run P w).andThen _ = _;rw [Sem.run_pure', Result.andThen_ok, Sem.run_bind, h2, Result.andThen_ok, Sem.run_pure];rfl
  ·cases i with
   |zero => simp [rvV] at hd hv; subst hd; subst hv; exact ⟨t, rfl, by simp⟩
   |succ i => exact h4 i d v (by simpa using hd) (by simpa using hv)
 |.cell _ _ :: rs, env, ds, h => by simp [allR] at h
theorem Qb9 {f : FuncId} {fn : Func} {c : Code} {args gl : List AV} {H0 H1 : List Blk} {x : AV} {n : Nat} {rs : List ResultVar} (hf : P.funcs[f]? = some fn) (hb : fn.body = some c) (hn : fn.ntmps = n) (hrs : fn.results = rs.toArray) (hle : Nat.ble args.length n = true)
 (hn2 : Nat.ble n gslot = true) (hpin : ∀ i C, H0[i]? = some C -> ∃ C', H1[i]? = some C' /\ pin1 gl i C C')
 (h : ∀ gvs, AWP P c (EndA rs x H1 gl gvs) ⟨n, (gslot, .gh gl gvs) :: parA 0 args, H0⟩) : Does P f args H0 gl x H1 := by
 have hlen : args.length <= n := Nat.le_of_ble_eq_true hle;have hn2 : n <= gslot := Nat.le_of_ble_eq_true hn2;refine ⟨hpin, ?_⟩;intro B σ S w cargs gvs hB hS hl hr hgl hgr;refine calls_of_wp hf hb ?_
 have hA : SmA B σ S ⟨n, (gslot, .gh gl gvs) :: parA 0 args, H0⟩ { tmps := cargs.toArray ++ Array.replicate (fn.ntmps - cargs.toArray.size) undef, defers := [] } w := by
  refine ⟨hS, rfl, ?_, fun t => ?_⟩
  ·simp [hn]; omega
  ·by_cases ht : gslot = t
   ·subst ht
    show Rel σ S H0 w (look ((gslot, .gh gl gvs) :: parA 0 args) gslot) _;rw [QbM];exact .gh _ _ _ hgl hgr
   show Rel σ S H0 w (look ((gslot, .gh gl gvs) :: parA 0 args) t) _;rw [QbU ht];rcases Qeg args 0 t with ⟨d, _, h2, h3⟩ | h
   ·rw [h3]
    have ht : t < cargs.length := by rw [<- hl]; exact (List.getElem?_eq_some_iff.1 h2).1
    have : (cargs.toArray ++ Array.replicate (fn.ntmps - cargs.toArray.size) undef).getD t undef = cargs[t] := by
     rw [Array.getD_eq_getD_getElem?, Array.getElem?_append_left (by simpa using ht)];simp [ht]
    show Rel σ S H0 w d ((cargs.toArray ++ Array.replicate (fn.ntmps - cargs.toArray.size) undef).getD t undef);rw [this];exact hr t d _ (by simpa using h2) (List.getElem?_eq_getElem ht)
   ·rw [h]; exact .d _ _ (.any _)
 refine wp_mono (h gvs _ hB _ _ _ _ hA) ?_;rintro e a w' ⟨s', σ', S', hq, hA'⟩
 have fin : resA s'.env rs = some x /\ s'.H = H1 /\ look s'.env gslot = .gh gl gvs -> a.defers = [] /\ ∃ v, (results fn a.tmps).run P w' = .ok v w' /\ ∃ v' σ' S', Ending.returned v = .returned v' /\ Sm B σ' S' H1 w' /\ Rel σ' S' H1 w' x v' /\
  ∀ (i : Nat) d v, gl[i]? = some d -> gvs[i]? = some v -> Rel σ' S' H1 w' d v := by
  rintro ⟨hx, hH, hg⟩;refine ⟨hA'.defers, ?_⟩
  have hgh : ∀ (i : Nat) d v, gl[i]? = some d -> gvs[i]? = some v -> Rel σ' S' s'.H w' d v := by
   have := hA'.env gslot;rw [hg] at this;cases this with
   |gh _ _ _ h1 h2 => exact h2
  rw [hH] at hgh;have hsm := hA'.sm;rw [hH] at hsm;have henv := hA'.env;rw [hH] at henv
  have gen : ∀ ds, allR s'.env rs = some ds -> (fn.results.mapM (rvS a.tmps)).run P w' = .ok (rs.map (rvV a.tmps)).toArray w' := fun ds hds => by
   rw [hrs, Array.mapM_eq_mapM_toList, Sem.run_map, (Qdt a.tmps w' rs s'.env ds hds).1]; rfl
  rw [QcQ]
  by_cases h1 : rs.length = 1
  ·match rs, h1 with
   |[.tmp t], _ =>
    obtain rfl := Option.some.inj hx;refine ⟨a.tmps.getD t undef, ?_, _, σ', S', rfl, hsm, henv t, hgh⟩;rw [Sem.run_bind, gen [look s'.env t] rfl];rfl
   |[.cell _ _], _ => simp [resA, allR] at hx
  ·have hx' : (allR s'.env rs).map AV.tup = some x := by
    unfold resA at hx;split at hx
    ·simp at h1
    ·exact hx
   obtain ⟨ds, hds, rfl⟩ := Option.map_eq_some_iff.1 hx';obtain ⟨_, h3, h4⟩ := Qdt (P := P) a.tmps w' rs s'.env ds hds;refine ⟨.tuple (rs.map (rvV a.tmps)).toArray, ?_, _, σ', S', rfl, hsm, .tup ds _ (by simp [h3]) fun i d v hd hv => ?_, hgh⟩
   ·rw [Sem.run_bind, gen _ hds]
    simp [h1]
   ·obtain ⟨t, rfl, rfl⟩ := h4 i d v hd hv
    exact henv t
 cases e with
 |normal => exact fin hq
 |ret => exact fin hq
 |_ => exact hq.elim
theorem Qer {dst : Option Tmp} {ty : TypeId} {pos : String} {after : Array Edge} {gd : Option (Nat × Bool)} {env : List (Nat × AV)} {f : FuncId} {xs : Array Operand} {tys : Array TypeId}
 (hf : ∀ args w, (callFunc f args).run P w = .ok (.enter f args) w) (σ : Sg) (S : Nat -> Prop) (H : List Blk) (w : World) (a : Act) (hop : ∀ u ∈ (⟨dst, .call ⟨.value (.func f), xs, tys⟩, ty, pos, after, gd⟩ : Oper).op.operands, Rel σ S H w (aval env u) (a.eval u)) :
 ∃ cargs : List Value, (execOp a.eval ⟨dst, .call ⟨.value (.func f), xs, tys⟩, ty, pos, after, gd⟩).run P w = .ok (.enter f cargs.toArray) w /\
   (xs.toList.map (aval env)).length = cargs.length /\ ∀ (i : Nat) d v, (xs.toList.map (aval env))[i]? = some d -> cargs[i]? = some v -> Rel σ S H w d v := by
 refine ⟨xs.toList.map a.eval, ?_, by simp, fun i d v hd hv => ?_⟩
 ·have : execOp a.eval ⟨dst, .call ⟨.value (.func f), xs, tys⟩, ty, pos, after, gd⟩ = callFunc f (#[] ++ xs.map a.eval ++ #[]) := rfl
  rw [this, hf]
  congr 2
  apply Array.ext';simp
 ·rw [List.getElem?_map] at hd hv
  cases hx : xs.toList[i]? with
  |none => rw [hx] at hd; cases hd
  |some u =>
   rw [hx] at hd hv;obtain rfl := Option.some.inj hd; obtain rfl := Option.some.inj hv;exact hop u (by simp only [Op.operands, Call.operands]; exact Array.mem_append_right _ (Array.mem_toList_iff.1 (List.mem_of_getElem? hx)))
theorem Qjr {dst : Option Tmp} {ty : TypeId} {pos : String} {after : Array Edge} {gd : Option (Nat × Bool)} {env : List (Nat × AV)} {f : FuncId} {t : Tmp} {caps : List AV} {xs : Array Operand} {tys : Array TypeId}
 (hf : ∀ args w, (callFunc f args).run P w = .ok (.enter f args) w) (ht : look env t = .fn (.func f) caps) (σ : Sg) (S : Nat -> Prop) (H : List Blk) (w : World) (a : Act)
 (hop : ∀ u ∈ (⟨dst, .call ⟨.value (.tmp t), xs, tys⟩, ty, pos, after, gd⟩ : Oper).op.operands, Rel σ S H w (aval env u) (a.eval u)) :
 ∃ cargs : List Value, (execOp a.eval ⟨dst, .call ⟨.value (.tmp t), xs, tys⟩, ty, pos, after, gd⟩).run P w = .ok (.enter f cargs.toArray) w /\
   (xs.toList.map (aval env) ++ caps).length = cargs.length /\ ∀ (i : Nat) d v, (xs.toList.map (aval env) ++ caps)[i]? = some d -> cargs[i]? = some v -> Rel σ S H w d v := by
 have h1 := hop (.tmp t) (by simp [Op.operands, Call.operands]);have h2 : ∀ u ∈ xs.toList, Rel σ S H w (aval env u) (a.eval u) := fun u hu => hop u (by simp only [Op.operands, Call.operands]; exact Array.mem_append_right _ (Array.mem_toList_iff.1 hu))
 change Rel σ S H w (look env t) (a.eval (.tmp t)) at h1
 rw [ht] at h1;generalize hv : a.eval (.tmp t) = v0 at h1;cases h1 with
 |fn _ _ cs hl hr =>
  refine ⟨xs.toList.map a.eval ++ cs, ?_, by simp [hl], fun i d v hd hv => ?_⟩
  ·have : execOp a.eval ⟨dst, .call ⟨.value (.tmp t), xs, tys⟩, ty, pos, after, gd⟩ = callFunc f (#[] ++ xs.map a.eval ++ cs.toArray) := by
    show (do let d <- Deferred.ofValue (a.eval (.tmp t)) (xs.map a.eval); invoke d.target d.args : Sem Next) = _;rw [hv]; rfl
   rw [this, hf]
   congr 2
   apply Array.ext';simp
  ·by_cases hi : i < xs.toList.length
   ·rw [List.getElem?_append_left (by simpa using hi)] at hd hv
    rw [List.getElem?_map] at hd hv;cases hx : xs.toList[i]? with
    |none => rw [hx] at hd; cases hd
    |some u =>
     rw [hx] at hd hv;obtain rfl := Option.some.inj hd; obtain rfl := Option.some.inj hv;exact h2 u (List.mem_of_getElem? hx)
   ·rw [List.getElem?_append_right (by simpa using hi)] at hd hv
    simp only [List.length_map] at hd hv;exact hr _ d v hd hv
def AV.ice (H : List Blk) : Nat -> AV -> D
 |0, _ => .any
 |_ + 1, .d x => x
 |n + 1, .agg l => .agg (l.map (AV.ice H n))
 |n + 1, .tup l => .tup (l.map (AV.ice H n))
 |n + 1, .ptr k g o => match H[k]? with
  |some (.row g' cells) => if g = g' then .pd ((cells.drop o).map (AV.ice H n)) else .any
  |_ => .any
 |_ + 1, .osl k g off len => match H[k]? with
  |some (.arr g' sz _ rows) => if g = g' then .sl true sz ((rows.drop off).take len) else .any
  |_ => .any
 |_ + 1, .mp k g => match H[k]? with
  |some (.mp g' l) => if g = g' then .mp l else .any
  |_ => .any
 |_ + 1, _ => .any
mutual
def D.flat : D -> Bool
 |.v _ => true
 |.any => true
 |.agg l => D.flatL l
 |.tup l => D.flatL l
 |_ => false
def D.flatL : List D -> Bool
 |[] => true
 |x :: r => D.flat x && D.flatL r
end
theorem D.flatL_get : ∀ {l : List D} {i : Nat} {x : D}, D.flatL l = true -> l[i]? = some x -> x.flat = true
 |[], i, x, _, h => by simp at h
 |y :: r, 0, x, hl, h => by simp only [D.flatL, Bool.and_eq_true] at hl; simp at h; subst h; exact hl.1
 |y :: r, i + 1, x, hl, h => by simp only [D.flatL, Bool.and_eq_true] at hl; exact D.flatL_get hl.2 (by simpa using h)
theorem RelD.flat {S S' : Nat -> Prop} {w w' : World} {d : D} {x : Value} (h : RelD S w d x) : d.flat = true -> RelD S' w' d x := by
 induction h with
 |any x => exact fun _ => .any x
 |v x => exact fun _ => .v x
 |agg l cs hl h ih => exact fun hf => .agg l cs hl fun i d x hd hx => ih i d x hd hx (D.flatL_get (by simpa [D.flat] using hf) hd)
 |tup l cs hl h ih => exact fun hf => .tup l cs hl fun i d x hd hx => ih i d x hd hx (D.flatL_get (by simpa [D.flat] using hf) hd)
 |_ => intro hf; simp [D.flat] at hf
theorem Qe1 {B : Bs} {σ : Sg} {S : Nat -> Prop} {H H' : List Blk} {w : World} (hS : Sm B σ S H' w) (hag : Agree H H') : ∀ (n : Nat) (x : AV) (v : Value), Rel σ S H' w x v -> RelD (fun b => S b ∨ ∃ k, k < H'.length /\ σ k = some b) w (x.ice H n) v
 |0, x, v, _ => .any v
 |n + 1, x, v, hR => by
  have hin : ∀ k C b, H'[k]? = some C -> σ k = some b -> (S b ∨ ∃ k, k < H'.length /\ σ k = some b) := fun k C b hk hb => .inr ⟨k, (List.getElem?_eq_some_iff.1 hk).1, hb⟩
  cases hR with
  |d x v h => exact h.mono (fun b hb => .inl hb) fun _ _ => rfl
  |agg l cs hl h =>
   refine .agg _ cs (by simpa using hl) fun i d x hd hx => ?_
   rw [List.getElem?_map] at hd;obtain ⟨y, hy, rfl⟩ := Option.map_eq_some_iff.1 hd;exact Qe1 hS hag n y x (h i y x hy hx)
  |tup l cs hl h =>
   refine .tup _ cs (by simpa using hl) fun i d x hd hx => ?_
   rw [List.getElem?_map] at hd;obtain ⟨y, hy, rfl⟩ := Option.map_eq_some_iff.1 hd;exact Qe1 hS hag n y x (h i y x hy hx)
  |fn f l cs hl h => exact .any _
  |gh l cs u hl h => exact .any _
  |ept k g i j v ho g' sz T rows hk hg hh => exact .any _
  |rsl k g n v ho g' cells hk hg hh => exact .any _
  |ptr k g o v ho g' cells hk hg hh =>
   simp only [AV.ice];split;rotate_left
   ·exact .any _
   rename_i g2 cells2 hk2;split;rotate_left
   ·exact .any _
   rename_i e; subst e
   have e2 : cells2 = cells /\ g' = g := by
    rcases hag k _ hk2 with h | h <;> rw [hk] at h <;> simp at h;exact ⟨h.2.symm, h.1⟩
   obtain ⟨rfl, rfl⟩ := e2;obtain ⟨b, hb, rfl⟩ := hh rfl;rcases hS.blk k _ hk with ⟨b', cs, T, hb', hc, hr⟩ | ⟨hb', _⟩;rotate_left
   ·rw [hb] at hb'; cases hb'
   rw [hb] at hb'; obtain rfl := Option.some.inj hb'
   have key : ∀ (j : Nat) d, ((cells2.drop o).map (AV.ice H n))[j]? = some d -> ∃ u, cs[o + j]? = some u /\ RelD (fun b => S b ∨ ∃ k, k < H'.length /\ σ k = some b) w d u := by
    intro j d hd;rw [List.getElem?_map, List.getElem?_drop] at hd;obtain ⟨y, hy, rfl⟩ := Option.map_eq_some_iff.1 hd;obtain ⟨u, hu, hr'⟩ := hr _ y hy;exact ⟨u, hu, Qe1 hS hag n y u hr'⟩
   refine .pd _ b o (fun j => (cs[o + j]?).getD undef) (hin k _ b hk hb) (fun j d hd => ?_) fun j d hd => ?_
   ·obtain ⟨u, hu, _⟩ := key j d hd
    rw [cell_of_row w b (o + j) cs T (0, 0) hc, hu]; rfl
   ·obtain ⟨u, hu, hr'⟩ := key j d hd
    rw [hu]; exact hr'
  |osl k g off len v ho g' sz T rows hk hg hh =>
   simp only [AV.ice];split;rotate_left
   ·exact .any _
   rename_i g2 sz2 T2 rows2 hk2;split;rotate_left
   ·exact .any _
   rename_i e; subst e
   have e2 : g' = g /\ sz = sz2 /\ T = T2 /\ rows = rows2 := by
    rcases hag k _ hk2 with h | h <;> rw [hk] at h <;> simp at h;exact h
   obtain ⟨rfl, rfl, rfl, rfl⟩ := e2;obtain ⟨hle, hh⟩ := hh rfl;have hblk := hS.blk k _ hk;rcases hh with ⟨b, cap, cs, T', hb, hcl, hcm, rfl, hc, hsz⟩ | ⟨hb, rfl, rfl⟩
   ·obtain ⟨hall, hblk⟩ := hblk
    rcases hblk with ⟨b', cs', hb', hc', hr⟩ | ⟨hb', _⟩;rotate_left
    ·rw [hb] at hb'; cases hb'
    rw [hb] at hb'; obtain rfl := Option.some.inj hb';have hlen : ((rows.drop off).take len).length = len := by rw [List.length_take, List.length_drop]; omega
    have key : ∀ (i j : Nat) r d, ((rows.drop off).take len)[i]? = some r -> r[j]? = some d -> ∃ u, cs'[off * sz + i * sz + j]? = some u /\ RelD S w d u := by
     intro i j r d hi hj;rw [List.getElem?_take] at hi;split at hi
     ·rw [List.getElem?_drop] at hi
      obtain ⟨u, hu, hd⟩ := hr _ j r d hi hj;exact ⟨u, by rw [<- hu]; congr 1; rw [Nat.add_mul], hd⟩
     ·cases hi
    have hfin : RelD (fun b => S b ∨ ∃ k, k < H'.length /\ σ k = some b) w (.sl true sz ((rows.drop off).take len)) (.slice (some ⟨b, off * sz, none⟩) ((rows.drop off).take len).length cap) := by
     refine .sl true sz _ b (off * sz) cap (fun i j => (cs'[off * sz + i * sz + j]?).getD undef) (hin k _ b hk hb) (fun r hr' => ?_) (fun _ => by omega) (fun i j r d hi hj => ?_) fun i j r d hi hj => ?_
     ·exact hall r (List.mem_of_mem_drop (List.mem_of_mem_take hr'))
     ·obtain ⟨u, hu, _⟩ := key i j r d hi hj
      rw [cell_of_row w b (off * sz + i * sz + j) cs' T (0, 0) hc', hu]; rfl
     ·obtain ⟨u, hu, hd⟩ := key i j r d hi hj
      rw [hu]; exact hd.mono (fun _ h => .inl h) fun _ _ => rfl
    rw [hlen] at hfin; exact hfin
   ·simp only [List.take_zero]; exact .slnil _ _ _ _
  |mp k g v ho g' l hk hg hh =>
   simp only [AV.ice];split;rotate_left
   ·exact .any _
   rename_i g2 l2 hk2;split;rotate_left
   ·exact .any _
   rename_i e; subst e
   have e2 : g' = g /\ l = l2 := by
    rcases hag k _ hk2 with h | h <;> rw [hk] at h <;> simp at h;exact h
   obtain ⟨rfl, rfl⟩ := e2;obtain ⟨b, hb, rfl⟩ := hh rfl;rcases hS.blk k _ hk with ⟨b', es, clock, hb', hc, hl, hr⟩ | ⟨hb', _⟩;rotate_left
   ·rw [hb] at hb'; cases hb'
   rw [hb] at hb'; obtain rfl := Option.some.inj hb';refine .mp l b es clock (hin k _ b hk hb) hc hl.1 (fun i key d e hi he => ?_) fun i key d e hi he => ?_
   ·obtain ⟨e', he', hk', _⟩ := hr i key d hi
    rw [he] at he'; obtain rfl := Option.some.inj he'; exact hk'
   ·obtain ⟨e', he', _, hd⟩ := hr i key d hi
    rw [he] at he'; obtain rfl := Option.some.inj he'; exact hd.mono (fun _ h => .inl h) fun _ _ => rfl
theorem Qfo {dst : Option Tmp} {ty : TypeId} {pos : String} {after : Array Edge} {gd : Option (Nat × Bool)} {env : List (Nat × AV)} {H : List Blk} {f : FuncId} {xs : Array Operand} {tys : Array TypeId} {ds : List D} {x : D}
 (hf : ∀ args w, (callFunc f args).run P w = .ok (.enter f args) w) (h : Pure P f ds x) (hx : x.flat = true) (hd : ds = xs.toList.map fun u => (aval env u).ice H 4 := by rfl) :
 Loc P ⟨dst, .call ⟨.value (.func f), xs, tys⟩, ty, pos, after, gd⟩ env H (.d x) none := by
 intro B σ S H' a w hB hS hop hag _ K Q k
 have hrun : (execOp a.eval ⟨dst, .call ⟨.value (.func f), xs, tys⟩, ty, pos, after, gd⟩).run P w = .ok (.enter f (xs.toList.map a.eval).toArray) w := by
  have : execOp a.eval ⟨dst, .call ⟨.value (.func f), xs, tys⟩, ty, pos, after, gd⟩ = callFunc f (#[] ++ xs.map a.eval ++ #[]) := rfl;rw [this, hf]
  congr 2
  apply Array.ext';simp
 unfold Oper.wp;rw [hrun, Oper.upon_enter]
 let S2 : Nat -> Prop := fun b => S b ∨ ∃ k, k < H'.length /\ σ k = some b
 have hB' : Gd ⟨w, B.G, fun _ => False, S2⟩ := hB.again hS S2
 have hS' : Sm ⟨w, B.G, fun _ => False, S2⟩ (fun _ => none) S2 [] w := by
  refine ⟨rfl, rfl, rfl, Nat.le_refl _, fun _ _ _ => rfl, fun _ h => h, fun b hb => ⟨?_, .inl hb⟩, fun k b hk => by simp at hk, fun k k' b hk => by simp at hk, fun k C hC => by simp at hC⟩;rcases hb with hb | ⟨k, hk, hb⟩
  ·exact (hS.sUp b hb).1
  ·exact (hS.σUp k b hk hb).1
 refine (h _ _ S2 [] w (xs.toList.map a.eval) hB' hS' (by rw [hd]; simp) fun i d v hi hv => ?_).mono ?_
 ·rw [hd] at hi
  rw [List.getElem?_map] at hi hv;cases hx : xs.toList[i]? with
  |none => rw [hx] at hv; cases hv
  |some u =>
   rw [hx] at hi hv;obtain rfl := Option.some.inj hi; obtain rfl := Option.some.inj hv;exact Qe1 hS hag 4 _ _ (hop u (by simp only [Op.operands, Call.operands]; exact Array.mem_append_right _ (Array.mem_toList_iff.1 (List.mem_of_getElem? hx))))
 rintro e w' ⟨v, rfl, hb, hr⟩;obtain ⟨h3, h4⟩ := hS.below hb;exact k v w' σ _ h3 (.d _ _ (hr.flat hx)) h4
end Aw
end Go.Proofs.YtdjkdcokjoiokaaGreatDoor

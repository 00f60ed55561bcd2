/- Part 42 of seek_card: contracts, walks, laws; no condition beyond the statement's. -/
import Derived.Test.YtdjkdcokjoiokaaGreatDoorW03
import Derived.ChangeArms
import Derived.ChangeOld
import Derived.ChangeShapes
import Derived.WideShapes
import Derived.Deep.MidRow
import GoSem.ClaimJoined
import GoSem.Claim
import Derived.SizedLaws
import Derived.Shelf.Vars
import Derived.Lib.LaidU8
set_option linter.all false
namespace Go.Proofs.YtdjkdcokjoiokaaGreatDoor
open Go.RowKit Go.ChangeShapes Go.WideShapes
namespace Pm
def Opens (α : Type) [Rep α] (P : Program) (t : TypeId) : Prop :=
 ∀ {H : Type} (enc : TypeId × Value -> H) (W : World) (sp : Nat -> Bool) (held : Bool) (fuel : Nat) (cs : List Value) (x : DataW H × List MemPlace),
   DataW.trod enc P W 0 sp held fuel t cs = some x -> (DataW.weights P t x.1).all (· <= reachBytes) = true -> ∃ a : α, Rep.cells W W.heap.size cs a
theorem Qcd {P : Program} {t : TypeId} (ht : P.underlying t = some (.int .i64)) : Opens Int P t := by
 intro H enc W sp held fuel cs x h _;obtain ⟨n, rfl, rfl, hw⟩ := DataW.trod_int ht h;refine ⟨n, rfl, ?_⟩;simp only [Lit.wf, Bool.and_eq_true, decide_eq_true_eq] at hw;have h1 : IntKind.i64.min = -9223372036854775808 := by decide
 have h2 : IntKind.i64.max = 9223372036854775807 := by decide
 rw [h1, h2] at hw;exact hw
theorem QjR {P : Program} {t : TypeId} (ht : P.underlying t = some .bool) : Opens Bool P t := by
 intro H enc W sp held fuel cs x h _;obtain ⟨b, rfl, rfl⟩ := DataW.trod_bool ht h;exact ⟨b, rfl⟩
theorem QgZ {n : Nat} (h : n <= reachBytes) : n <= big := by unfold reachBytes at h; unfold big; omega
theorem Qhd {P : Program} {t : TypeId} (ht : P.underlying t = some .string) : Opens Str P t := by
 intro H enc W sp held fuel cs x h hz;obtain ⟨s, rfl, rfl, _⟩ := DataW.trod_string ht h;refine ⟨s.data.toList, ?_, ?_⟩
 ·show [Value.string s] = [Value.string ⟨s.data.toList.toArray⟩]
  rw [Array.toArray_toList]
 ·simp only [DataW.weights, List.all_cons, List.all_nil, Bool.and_true, decide_eq_true_eq] at hz
  exact QgZ hz
theorem Qi6 {α : Type} {p : Nat -> α -> Prop} (n : Nat) (h : ∀ i, i < n -> ∃ a, p i a) : ∃ l : List α, l.length = n /\ ∀ i x, l[i]? = some x -> p i x := by
 induction n with
 |zero => exact ⟨[], rfl, fun i x hx => by simp at hx⟩
 |succ n ih =>
  obtain ⟨l, hl, hp⟩ := ih fun i hi => h i (by omega)
  obtain ⟨a, ha⟩ := h n (by omega);refine ⟨l ++ [a], by simp [hl], fun i x hx => ?_⟩;rcases Nat.lt_or_ge i l.length with hlt | hge
  ·rw [List.getElem?_append_left hlt] at hx; exact hp i x hx
  ·rw [List.getElem?_append_right hge] at hx
   have e : i = n := by
    rcases Nat.lt_or_ge (i - l.length) 1 with h1 | h1
    ·omega
    ·rw [List.getElem?_eq_none (by simpa using h1)] at hx; cases hx
   subst e;rw [hl, Nat.sub_self] at hx;cases hx;exact ha
theorem QdH {H : Type} {P : Program} {e : TypeId} : ∀ {l : List (DataW H)} {i : Nat} {d : DataW H}, (DataW.weightsAll P e l).all (· <= reachBytes) = true -> l[i]? = some d -> (DataW.weights P e d).all (· <= reachBytes) = true
 |[], i, d, _, h => by simp at h
 |x :: r, 0, d, h, hd => by
  simp only [DataW.weightsAll, List.all_append, Bool.and_eq_true] at h;simp at hd; subst hd; exact h.1
 |x :: r, i + 1, d, h, hd => by
  simp only [DataW.weightsAll, List.all_append, Bool.and_eq_true] at h;exact QdH (i := i) h.2 (by simpa using hd)
theorem Qew {α : Type} [Rep α] {P : Program} {t e : TypeId} (ht : P.underlying t = some (.slice e)) (hb : 0 < P.bytesOf e) (hc : P.cellsOf e = Rep.size α) (hp : 0 < Rep.size α) (h : Opens α P e) : Opens (List α) P t := by
 intro H enc W sp held fuel cs x hx hz;rcases DataW.trod_slice ht hx with ⟨rfl, rfl⟩ | ⟨a, len, cap, elems, rest, n, rfl, rfl, rfl, hba, hlc, hcm, hel, hels, hsp1, hsp2⟩
 ·exact ⟨[], none, 0, rfl, by simp, At.nil⟩
 ·simp only [DataW.weights, ht, List.all_cons, List.all_append, Bool.and_eq_true, decide_eq_true_eq, List.length_map] at hz
  obtain ⟨z1, z2, _⟩ := hz
  have hlen : len <= big := QgZ (Nat.le_trans (by
   have : elems.length * 1 <= (elems.length + rest.length) * P.bytesOf e := Nat.mul_le_mul (Nat.le_add_right _ _) hb
   omega) z1)
  have hE : ∀ i, i < len -> ∃ cs y, W.cells? 0 (a.add (i * P.cellsOf e)) (P.cellsOf e) = some cs /\ DataW.trod enc P W 0 sp held n e cs = some y /\ elems[i]? = some y := by
   intro i hi;have h1 := hels i hi;rw [List.getElem?_eq_getElem (by omega)] at h1;obtain ⟨cs, h2, h3⟩ := Option.bind_eq_some_iff.1 h1;exact ⟨cs, _, h2, h3, List.getElem?_eq_getElem (by omega)⟩
  obtain ⟨l, hl, hall⟩ := Qi6 (p := fun i (x : α) => ∃ cs, Rep.cells W W.heap.size cs x /\ W.cells? 0 (a.add (i * P.cellsOf e)) (P.cellsOf e) = some cs) len fun i hi => by
   obtain ⟨cs, y, h2, h3, h4⟩ := hE i hi;obtain ⟨x, hx⟩ := h enc W sp held n cs y h3 (QdH (i := i) z2 (by rw [List.getElem?_map, h4]; rfl));exact ⟨x, cs, hx, h2⟩
  subst hl;refine ⟨l, some a, cap, rfl, hlen, fun hpos => ?_⟩;obtain ⟨b, off, spot⟩ := a
  have h0 : spot = none /\ b < W.heap.size := by
   obtain ⟨cs, y, h2, _⟩ := hE 0 hpos;rw [Nat.zero_mul] at h2;have hblk := World.cells?_block h2 (by omega);obtain ⟨_, hln, hcell⟩ := World.cells?_some h2;have hc0 := hcell 0 (by omega);rw [List.getElem?_eq_getElem (by omega)] at hc0;have := World.cell?_spot hc0;exact ⟨by simpa [Addr.add] using this, by simpa [Addr.add] using hblk⟩
  obtain ⟨rfl, hbl⟩ := h0;refine ⟨b, off, rfl, hbl, fun i x hi => ?_⟩;obtain ⟨cs, hr, hcs⟩ := hall i x hi;refine ⟨cs, hr, fun j v hj => ?_⟩;obtain ⟨_, hln, hcell⟩ := World.cells?_some hcs
  have hjl : j < P.cellsOf e := by
   rw [<- hln];rcases Nat.lt_or_ge j cs.length with h1 | h1
   ·exact h1
   ·rw [List.getElem?_eq_none h1] at hj; cases hj
  have := hcell j hjl;rw [Addr.add_mid, Addr.add_mid, hj, hc] at this;exact this
theorem Qld {α β : Type} [Rep α] [Rep β] {P : Program} {t : TypeId} {f g : Field} (ht : P.underlying t = some (.struct #[f, g])) (h0 : f.offset = 0) (h1 : g.offset = Rep.size α)
 (hf : P.cellsOf f.type = Rep.size α) (hg : P.cellsOf g.type = Rep.size β) (hc : P.cellsOf t = Rep.size α + Rep.size β) (ha : Opens α P f.type) (hb : Opens β P g.type) : Opens (α × β) P t := by
 intro H enc W sp held fuel cs x hx hz;obtain ⟨xs, n, rfl, rfl, hl, hxl, hall⟩ := DataW.trod_struct ht hx
 match xs, hxl with
 |[y, z], _ =>
  have e0 := hall 0 f rfl;have e1 := hall 1 g rfl;simp only [DataW.weights, ht, List.map_cons, List.map_nil, DataW.weightsEach, List.append_nil, List.all_append, Bool.and_eq_true] at hz;rw [h0, List.drop_zero, hf] at e0;rw [h1, hg] at e1;obtain ⟨a, ra⟩ := ha enc W sp held n _ y e0 hz.1;obtain ⟨b, rb⟩ := hb enc W sp held n _ z e1 hz.2;refine ⟨(a, b), _, _, ?_, ra, rb⟩;have e : (cs.drop (Rep.size α)).take (Rep.size β) = cs.drop (Rep.size α) := List.take_of_length_le (by rw [List.length_drop]; omega);rw [e, List.take_append_drop]
theorem Qid {α β γ : Type} [Rep α] [Rep β] [Rep γ] {P : Program} {t : TypeId} {f g k : Field} (ht : P.underlying t = some (.struct #[f, g, k])) (h0 : f.offset = 0) (h1 : g.offset = Rep.size α) (h2 : k.offset = Rep.size α + Rep.size β)
 (hf : P.cellsOf f.type = Rep.size α) (hg : P.cellsOf g.type = Rep.size β) (hk : P.cellsOf k.type = Rep.size γ) (hc : P.cellsOf t = Rep.size α + Rep.size β + Rep.size γ) (ha : Opens α P f.type) (hb : Opens β P g.type) (hd : Opens γ P k.type) : Opens (α × β × γ) P t := by
 intro H enc W sp held fuel cs x hx hz;obtain ⟨xs, n, rfl, rfl, hl, hxl, hall⟩ := DataW.trod_struct ht hx
 match xs, hxl with
 |[y, z, u], _ =>
  have e0 := hall 0 f rfl;have e1 := hall 1 g rfl;have e2 := hall 2 k rfl;simp only [DataW.weights, ht, List.map_cons, List.map_nil, DataW.weightsEach, List.append_nil, List.all_append, Bool.and_eq_true] at hz;rw [h0, List.drop_zero, hf] at e0;rw [h1, hg] at e1;rw [h2, hk] at e2;obtain ⟨a, ra⟩ := ha enc W sp held n _ y e0 hz.1;obtain ⟨b, rb⟩ := hb enc W sp held n _ z e1 hz.2.1;obtain ⟨c, rc⟩ := hd enc W sp held n _ u e2 hz.2.2;refine ⟨(a, b, c), _, _, ?_, ra, _, _, rfl, rb, rc⟩
  have e : (cs.drop (Rep.size α + Rep.size β)).take (Rep.size γ) = (cs.drop (Rep.size α)).drop (Rep.size β) := by
   rw [List.take_of_length_le (by rw [List.length_drop]; omega), List.drop_drop]
  rw [e, List.take_append_drop, List.take_append_drop]
theorem QgY {H : Type} {enc : TypeId × Value -> H} {a : Assume} {C : Checked} {os : Os} {f : FuncId} {fn : Func} {s : ChangeSpec} {conds : List PathCond} {apart fresh handsOn again : Bool} {X : World -> Array Value -> Prop}
 (hX : ∀ (w w' : World) (args : Array Value), w.heap = w'.heap -> X w args -> X w' args)
 (own : ownKnob C.prog.godebug = none) (started : os.Started) (noInit : C.prog.inits.idxOf? f = none) (hfn : C.prog.funcs[f]? = some fn)
 (witness : ∃ (w : World) (tape : Tape) (i : Input), w.os = os /\ (w.forCall tape i).Shaped C.prog /\ i.vars = [] /\ Input.okWide C.prog (w.forCall tape i) .any w.heap.size f i /\
   ((s.pre enc C.prog fn conds apart (w.forCall tape i).memory i.args /\ X (w.forCall tape i).memory i.args) /\ sizedMet enc C.prog fn (OpenSpec.ofChange s) apart (w.forCall tape i).memory i.args) /\ a.holds C.prog (lone (Frame.enter C.prog f i.args .normal) [] (w.forCall tape i)))
 (contract : ∀ (W : World) (base : Nat) (args : Array Value) (ds gs : List (DataW H)) (before : List MemPlace),
   (∀ (j : Nat) t v, fn.params[j]? = some t -> args[j]? = some v -> Value.okWide C.prog W .any base t v) ->
   DataW.Whole enc C.prog fn.params.toList s.vars apart W args.toList ds gs before ->
   (DataW.weightsEach C.prog (fn.params.toList ++ s.plain.varTypes C.prog) (ds ++ gs)).all (· <= reachBytes) = true -> X W args -> W.ShapedOpen C.prog ->
   Calls C.prog f args W fun e W' => ∃ v, e = .returned v /\ s.post enc C.prog fn apart fresh handsOn again W args v W') :
 ReturnsInHanded a C os f .any (fun w args => (s.pre enc C.prog fn conds apart w args /\ X w args) /\ sizedMet enc C.prog fn (OpenSpec.ofChange s) apart w args) (s.post enc C.prog fn apart fresh handsOn again) := by
 refine returnsInHanded_of_calls own started noInit witness ?_;intro w tape i _ hsh _ hok hpre _;obtain ⟨_, _, _, fn', hfn', _, _, _, _, hval⟩ := hok;have e : fn' = fn := Option.some.inj (hfn'.symm.trans hfn);subst e;obtain ⟨⟨⟨ds, gs, before, hw, hc⟩, hx⟩, hz⟩ := hpre;have hw' := DataW.Whole.of_heap (w' := w.forCall tape i) (by rfl) hw;refine (contract (w.forCall tape i) w.heap.size i.args ds gs before hval hw' (hz.weights hw) (hX _ _ _ (by rfl) hx) hsh).mono fun e W' ⟨v, he, hp⟩ => ?_
 subst he;exact ChangeSpec.post_blind hp
theorem QdJ {P : Program} {w : World} {n nm : String} {d : DataW Unit} {g : Nat} {ti : TypeId} {ms : Array (String × TypeId)} (h : Lib.VarReads P w n (.iface nm d))
 (hg : P.globalNamed n = some g) (ht : (P.globals[g]?).map (·.type) = some ti) (hi : P.underlying ti = some (.interface ms)) : ∃ te pe, w.cell? ⟨g, 0, none⟩ = some (.iface te pe) := by
 obtain ⟨g', t', cs, fuel, p, h1, h2, h3, h4⟩ := h;obtain rfl := Option.some.inj (hg.symm.trans h1);obtain rfl := Option.some.inj (ht.symm.trans h2);obtain ⟨_, u, v, e, _, _⟩ := iface_of_trod hi h4;refine ⟨u, v, ?_⟩;have := World.var?_cell hg h3 0;have e2 : cs[0]? = some (.iface u v) := by rw [<- Array.getElem?_toList, e]; rfl
 rw [e2] at this;simpa using this
end Pm
end Go.Proofs.YtdjkdcokjoiokaaGreatDoor

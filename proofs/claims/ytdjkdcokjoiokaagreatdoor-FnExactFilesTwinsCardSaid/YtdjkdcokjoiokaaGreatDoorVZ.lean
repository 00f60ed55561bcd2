/- Part 45 of the proof of twins_card: contracts, walks, plain laws; no condition is assumed beyond those that a statement names. -/
import Derived.Test.YtdjkdcokjoiokaaGreatDoorV39
import Derived.Test.YtdjkdcokjoiokaaGreatDoorV41
import Derived.Test.YtdjkdcokjoiokaaGreatDoorV43
import Derived.Test.YtdjkdcokjoiokaaGreatDoorV44
import Derived.Test.YtdjkdcokjoiokaaGreatDoorCards
import Derived.Test.YtdjkdcokjoiokaaGreatDoorTie
import Derived.ChangeMaps5
set_option linter.all false
set_option maxRecDepth 100000
set_option maxHeartbeats 1000000
namespace Go.Proofs.YtdjkdcokjoiokaaGreatDoor
open Go.ChangeShapes Go.WideShapes Go.RowKit
theorem QgR (os : Os) (started : os.Started) (H : Type) (enc : TypeId × Value -> H) :
 ReturnsInHanded {} Tryz.checked os 6 .any (fun w args => (Rows.fnExactFilesTwinsSpec.pre enc Tryz.prog Tryz.f6 [] false w args /\ laidMetH Tryz.prog Pm.theLaid w) /\ sizedMet enc Tryz.prog Tryz.f6 (OpenSpec.ofChange Rows.fnExactFilesTwinsSpec) false w args)
  (Rows.fnExactFilesTwinsSpec.post enc Tryz.prog Tryz.f6 false true false false) := by
 refine Pm.Qhc (C := Tryz.checked) (X := fun w _ => laidMetH Tryz.prog Pm.theLaid w) (fun _ _ _ hh h => h.of_heap hh) rowOwn started (by kernel_rfl) Tryz.func6
  (ChangeSpec.witness_at (enc := enc) (C := Tryz.checked) (os := os) (X := fun w _ => laidMetH Tryz.prog Pm.theLaid w) false (Pm.Qhs os) #[.agg #[.slice none 0 0, .slice none 0 0, .slice none 0 0, .int .i64 0, .slice none 0 0, .int .i64 0, .slice none 0 0, .bool false], .agg #[.int .i64 0, .int .i64 0, .int .i64 0, .int .i64 0, .int .i64 0, .int .i64 0, .int .i64 0]] 8 rfl (by kernel_rfl) (by kernel_rfl) (by kernel_rfl) (by kernel_rfl) (by kernel_rfl) (Pm.QmK os _)) ?_
 intro W base args ds gs before hval0 hW hz hL hS;have hval : ∀ (j : Nat) t v, Tryz.f6.params[j]? = some t -> args[j]? = some v -> Value.okWide Tryz.prog W .any base t v := hval0;have hW' := hW;obtain ⟨p, q, hA0, hV0, rfl, hfz, hnd⟩ := hW;have hA : DataW.TrodAll enc Tryz.prog W 0 (fun _ => true) true Tryz.f6.params.toList args.toList ds p := hA0;have hZ : (DataW.weightsEach Tryz.prog (Tryz.f6.params.toList ++ Rows.fnExactFilesTwinsSpec.plain.varTypes Tryz.prog) (ds ++ gs)).all (· <= reachBytes) = true := hz;rw [Tryz.params6] at hA hval hZ;obtain ⟨v0, v1, d0, d1, p0, p1, rfl, rfl, rfl, h0, h1⟩ := trodAll_two hA
 obtain ⟨rfl, rfl⟩ : gs = [] /\ q = [] := by
  cases gs with
  |nil => exact ⟨rfl, hV0⟩
  |cons g r => exact absurd hV0 (by intro h; cases h)
 simp only [List.cons_append, List.nil_append, DataW.weightsEach, List.all_append, Bool.and_eq_true] at hZ;obtain ⟨HZ0, HZ1, _⟩ := hZ;obtain ⟨cs0, rfl, _⟩ := okWide_struct Tryz.underlying41 (hval 0 41 v0 rfl rfl);obtain ⟨x0, hx0⟩ := (by obtain ⟨fuel, hf⟩ := h0; exact Pm.opStore enc W _ _ fuel _ _ hf HZ0 : ∃ x : Pm.Store, Pm.Rep.cells W W.heap.size cs0.toList x);obtain ⟨A1_0, A2_0, A3_0, A4_0, A5_0, c1_0, c2_0, c3_0, c4_0, c5_0, hcs0, hst0⟩ := Pm.QhZ hx0;obtain rfl := Array.toList_inj.1 hcs0;obtain ⟨cs1, rfl, _⟩ := okWide_struct Tryz.underlying45 (hval 1 45 v1 rfl rfl);obtain ⟨x1, hx1⟩ := (by obtain ⟨fuel, hf⟩ := h1; exact Pm.opTree enc W _ _ fuel _ _ hf HZ1 : ∃ x : Pl.Tree, Pm.Rep.cells W W.heap.size cs1.toList x);have hcs1 := (Pm.QjH hx1).1;obtain rfl : cs1 = (Pm.treeL x1).toArray := Array.toList_inj.1 hcs1;have hlt0 : ∀ x ∈ p0, x.block < W.heap.size := fun x hx => hW'.lt x (by simp [hx])
 have hlt1 : ∀ x ∈ p1, x.block < W.heap.size := fun x hx => hW'.lt x (by simp [hx])
 have hLt := Pm.QjZ hL hS;simp only [List.append_nil] at hW'
 refine ((Aw.Qh3 x0 (Aw.QkK hst0) x1).at hLt [_, _] rfl fun i d v hd hv => by
  match i, hd, hv with
  |0, hd, hv => obtain rfl := Option.some.inj hd; obtain rfl := Option.some.inj hv; exact Aw.QhY c1_0 c2_0 c3_0 c4_0 c5_0 hst0
  |1, hd, hv => obtain rfl := Option.some.inj hd; obtain rfl := Option.some.inj hv; exact Aw.D.ofV_rel _ _ (.agg (Pm.treeL x1).toArray)).mono fun e W' ⟨v, he, hb, hv⟩ => ?_
 obtain rfl := Aw.rel_v hv;subst he;have e1 : Rows.fnExactFilesTwinsSpec.fn H ([d0, d1] ++ []) = { results := [.lit (.bool true)], args := [d0, d1] } := by simp [Rows.fnExactFilesTwinsSpec]
 refine ⟨_, rfl, _, _, _, [], p0 ++ p1, [], hW', ?_, ?_, ?_, hb.frame _, fun h => by cases h⟩
 ·rw [e1]; exact trodAll_mk1 (shut_bool Tryz.underlying4 true)
 ·rw [e1]; exact trodAll_mk2 (Below.trod Qew (by kernel_rfl) (of_decide_eq_true (by kernel_rfl)) h0 hb hlt0) (Below.trod Qew (by kernel_rfl) (of_decide_eq_true (by kernel_rfl)) h1 hb hlt1)
 ·rw [e1]; rfl
theorem QhU : Rows.FnExactFilesTwinsSaid :=
 OpenClaim.holds_of_wide 6 Tryz.f6 rfl rfl rfl rfl rfl rfl rfl ⟨rfl, rfl, rfl, rfl, rfl⟩ rfl rfl rfl rfl rfl twinsFn Tryz.func6 QjG
  (of_decide_eq_true (by kernel_rfl)) (by unfold Func.isWrapper; rw [if_neg (of_decide_eq_false (by kernel_rfl))]; exact ⟨rfl, rfl⟩)
  (fun os started H enc _ => QgR os started H enc)
theorem twins_card : Rows.FnExactFilesTwinsCardSaid :=
 Claim7.holds_tied_plain_at .later [] [.data, .data, .data, .data, .sentinel, .sentinel, .pinned] true (true, "9e55266720f0307eba4dad16c2714600fad779fc7b1280a4826d96d4a6371e59") true
  QhU (fun _ h => by cases h) QkD (fun _ h => by cases h) fnExactFilesTwins_row_tie rfl ⟨rfl, rfl⟩ rowMain rfl
  (fun f fn hf hfn => by
    obtain rfl : f = 6 := Option.some.inj (twinsFn.symm.trans hf) |>.symm;obtain rfl : fn = Tryz.f6 := (Option.some.inj (Tryz.func6.symm.trans hfn)).symm
    exact ⟨Qm5.symm, fun j t ht => by
     rw [Tryz.params6] at ht
     match j, ht with
     |0, ht => obtain rfl := Option.some.inj ht; exact QhW
     |1, ht => obtain rfl := Option.some.inj ht; exact QhV
     |j + 2, ht => simp at ht⟩)
  QkF
#print axioms twins_card
end Go.Proofs.YtdjkdcokjoiokaaGreatDoor

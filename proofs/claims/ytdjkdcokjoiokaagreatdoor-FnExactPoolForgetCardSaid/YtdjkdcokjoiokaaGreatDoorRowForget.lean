/- THE ROW of laws.FnExactPoolForget, and its card. -/
import Derived.Test.YtdjkdcokjoiokaaGreatDoorFactsForget
import Derived.Test.YtdjkdcokjoiokaaGreatDoorReach
import Derived.Test.YtdjkdcokjoiokaaGreatDoorLaw
import Derived.Test.YtdjkdcokjoiokaaGreatDoorCards
import Derived.Test.YtdjkdcokjoiokaaGreatDoorTie
import Derived.SevenTiedAt
namespace Go.Proofs.YtdjkdcokjoiokaaGreatDoor
open Go.ChangeShapes Go.WideShapes Go.RowKit

set_option maxRecDepth 100000 in
theorem forget_lifted (os : Os) (started : os.Started) (H : Type) (enc : TypeId × Value → H) :
    ReturnsInHanded {} Tryz.checked os 3 .any (fun w args => (Rows.fnExactPoolForgetSpec.pre enc Tryz.prog Tryz.f3 [] false w args ∧ laidMetH Tryz.prog Pm.theLaid w) ∧ sizedMet enc Tryz.prog Tryz.f3 (OpenSpec.ofChange Rows.fnExactPoolForgetSpec) false w args)
      (Rows.fnExactPoolForgetSpec.post enc Tryz.prog Tryz.f3 false true false false) := by
  refine Pm.returns_both (C := Tryz.checked) (X := fun w _ => laidMetH Tryz.prog Pm.theLaid w) (fun _ _ _ hh h => h.of_heap hh) rowOwn started (by kernel_rfl) Tryz.func3
    (ChangeSpec.witness_at (enc := enc) (C := Tryz.checked) (os := os) (X := fun w _ => laidMetH Tryz.prog Pm.theLaid w) false (Pm.laidWorld os) #[.agg #[.slice none 0 0], .int .i64 0] 8 rfl (by kernel_rfl) (by kernel_rfl) (by kernel_rfl) (by kernel_rfl) (by kernel_rfl) (Pm.laid_met os _)) ?_
  intro W base args ds gs before hval0 hW hz hL hS
  have hval : ∀ (j : Nat) t v, Tryz.f3.params[j]? = some t → args[j]? = some v → Value.okWide Tryz.prog W .any base t v := hval0
  have hW' := hW
  obtain ⟨p, q, hA0, hV0, rfl, hfz, hnd⟩ := hW
  have hA : DataW.TrodAll enc Tryz.prog W 0 (fun _ => true) true Tryz.f3.params.toList args.toList ds p := hA0
  have hZ : (DataW.weightsEach Tryz.prog (Tryz.f3.params.toList ++ Rows.fnExactPoolForgetSpec.plain.varTypes Tryz.prog) (ds ++ gs)).all (· ≤ reachBytes) = true := hz
  rw [Tryz.params3] at hA hval hZ
  obtain ⟨v0, v1, d0, d1, p0, p1, rfl, rfl, rfl, h0, h1⟩ := trodAll_two hA
  obtain ⟨txg, rfl, rfl, rfl, hwn⟩ := open_int Tryz.underlying3 (hval 1 3 v1 rfl rfl) h1
  have h0k := h0
  obtain ⟨cs0, rfl, _⟩ := okWide_struct Tryz.underlying24 (hval 0 24 v0 rfl rfl)
  obtain ⟨rfl, rfl⟩ : gs = [] ∧ q = [] := by
    cases gs with
    | nil => exact ⟨rfl, hV0⟩
    | cons g r => exact absurd hV0 (by intro h; cases h)
  simp only [List.cons_append, List.nil_append, DataW.weightsEach, List.all_append, Bool.and_eq_true] at hZ
  obtain ⟨l, hl⟩ := (by obtain ⟨fuel, hf⟩ := h0; exact Pm.opRaid enc W _ _ fuel _ _ hf hZ.1 : ∃ l : List Pm.Disk, Pm.Rep.cells W W.heap.size cs0.toList l)
  obtain ⟨A, c, hcs, hll, hat⟩ := Pm.list_cells hl
  have hcs' : cs0 = #[.slice A l.length c] := Array.toList_inj.1 hcs
  subst hcs'
  have hlt : ∀ x ∈ p0, x.block < W.heap.size := fun x hx => hW'.lt x (by simp [hx])
  have hLt := Pm.lt_of_laid hL hS
  simp only [List.append_nil] at hW'
  refine (Pm.lawPoolForget A l c txg W hll hat hLt).mono fun e W' ⟨he, hb⟩ => ?_
  subst he
  have e1 : Rows.fnExactPoolForgetSpec.fn H ([d0, .lit (.int .i64 txg)] ++ []) = { results := [.lit (.bool true)], args := [d0, .lit (.int .i64 txg)] } := by simp [Rows.fnExactPoolForgetSpec]
  refine ⟨_, rfl, _, _, _, [], p0 ++ [], [], hW', ?_, ?_, ?_, hb.frame _, fun h => by cases h⟩
  · rw [e1]; exact trodAll_mk1 (shut_bool Tryz.underlying4 true)
  · rw [e1]; exact trodAll_mk2 (Below.trod rowLaidOut (by kernel_rfl) (of_decide_eq_true (by kernel_rfl)) h0k hb hlt) (shut_int Tryz.underlying3 hwn)
  · rw [e1]; rfl

theorem forget_holds : Rows.FnExactPoolForgetSaid :=
  OpenClaim.holds_of_wide 3 Tryz.f3 rfl rfl rfl rfl rfl rfl rfl ⟨rfl, rfl, rfl, rfl, rfl⟩ rfl rfl rfl rfl rfl forgetFn Tryz.func3 forgetFacts
    (of_decide_eq_true (by kernel_rfl)) (by unfold Func.isWrapper; rw [if_neg (of_decide_eq_false (by kernel_rfl))]; exact ⟨rfl, rfl⟩)
    (fun os started H enc _ => forget_lifted os started H enc)

theorem forget_card : Rows.FnExactPoolForgetCardSaid :=
  Claim7.holds_tied_plain_at .later [] [.data, .data, .data, .data, .sentinel, .sentinel, .pinned] true (true, "9e55266720f0307eba4dad16c2714600fad779fc7b1280a4826d96d4a6371e59") true
    forget_holds (fun _ h => by cases h) forgetText (fun _ h => by cases h) fnExactPoolForget_row_tie rfl ⟨rfl, rfl⟩ rowMain rfl
    (fun f fn hf hfn => by
      obtain rfl : f = 3 := Option.some.inj (forgetFn.symm.trans hf) |>.symm
      obtain rfl : fn = Tryz.f3 := (Option.some.inj (Tryz.func3.symm.trans hfn)).symm
      exact ⟨rowLooks.symm, fun j t ht => by
        rw [Tryz.params3] at ht
        have h3 : t = 24 ∨ t = 3 := by
          rcases j with _ | _ | j
          · left; simpa using ht.symm
          · right; simpa using ht.symm
          · simp at ht
        rcases h3 with rfl | rfl
        · exact forgetWants0
        · exact forgetWants1⟩)
    forgetGoes
#print axioms forget_card
end Go.Proofs.YtdjkdcokjoiokaaGreatDoor

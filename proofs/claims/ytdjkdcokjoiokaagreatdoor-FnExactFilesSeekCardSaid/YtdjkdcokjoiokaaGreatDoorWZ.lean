/- Part 45 of seek_card: contracts, walks, laws; no condition beyond the statement's. -/
import Derived.Test.YtdjkdcokjoiokaaGreatDoorW39
import Derived.Test.YtdjkdcokjoiokaaGreatDoorW41
import Derived.Test.YtdjkdcokjoiokaaGreatDoorW43
import Derived.Test.YtdjkdcokjoiokaaGreatDoorW44
import Derived.Test.YtdjkdcokjoiokaaGreatDoorCards
import Derived.Test.YtdjkdcokjoiokaaGreatDoorTie
import Derived.ChangeMaps5
set_option linter.all false
set_option maxRecDepth 100000
set_option maxHeartbeats 1000000
namespace Go.Proofs.YtdjkdcokjoiokaaGreatDoor
open Go.ChangeShapes Go.WideShapes Go.RowKit
theorem QhX (os : Os) (started : os.Started) (H : Type) (enc : TypeId × Value -> H) :
 ReturnsInHanded {} Tryz.checked os 7 .any (fun w args => (Rows.fnExactFilesSeekSpec.pre enc Tryz.prog Tryz.f7 [] false w args /\ laidMetH Tryz.prog Pm.theLaid w) /\ sizedMet enc Tryz.prog Tryz.f7 (OpenSpec.ofChange Rows.fnExactFilesSeekSpec) false w args)
  (Rows.fnExactFilesSeekSpec.post enc Tryz.prog Tryz.f7 false true false false) := by
 refine Pm.QgY (C := Tryz.checked) (X := fun w _ => laidMetH Tryz.prog Pm.theLaid w) (fun _ _ _ hh h => h.of_heap hh) rowOwn started (by kernel_rfl) Tryz.func7
  (ChangeSpec.witness_at (enc := enc) (C := Tryz.checked) (os := os) (X := fun w _ => laidMetH Tryz.prog Pm.theLaid w) false (Pm.Qhp os) #[.agg #[.slice none 0 0, .slice none 0 0, .slice none 0 0, .int .i64 0, .slice none 0 0, .int .i64 0, .slice none 0 0, .bool false], .agg #[.int .i64 0, .int .i64 0, .int .i64 0, .int .i64 0, .int .i64 0, .int .i64 0, .int .i64 0], .string ⟨#[]⟩] 8 rfl (by kernel_rfl) (by kernel_rfl) (by kernel_rfl) (by kernel_rfl) (by kernel_rfl) (Pm.QmM os _)) ?_
 intro W base args ds gs before hval0 hW hz hL hS;have hval : ∀ (j : Nat) t v, Tryz.f7.params[j]? = some t -> args[j]? = some v -> Value.okWide Tryz.prog W .any base t v := hval0;have hW' := hW;obtain ⟨p, q, hA0, hV0, rfl, hfz, hnd⟩ := hW;have hA : DataW.TrodAll enc Tryz.prog W 0 (fun _ => true) true Tryz.f7.params.toList args.toList ds p := hA0;have hZ : (DataW.weightsEach Tryz.prog (Tryz.f7.params.toList ++ Rows.fnExactFilesSeekSpec.plain.varTypes Tryz.prog) (ds ++ gs)).all (· <= reachBytes) = true := hz;rw [Tryz.params7] at hA hval hZ;obtain ⟨v0, v1, v2, d0, d1, d2, p0, p1, p2, rfl, rfl, rfl, h0, h1, h2⟩ := trodAll_three hA
 obtain ⟨rfl, rfl⟩ : gs = [] /\ q = [] := by
  cases gs with
  |nil => exact ⟨rfl, hV0⟩
  |cons g r => exact absurd hV0 (by intro h; cases h)
 simp only [List.cons_append, List.nil_append, DataW.weightsEach, List.all_append, Bool.and_eq_true] at hZ;obtain ⟨HZ0, HZ1, HZ2, _⟩ := hZ;obtain ⟨cs0, rfl, _⟩ := okWide_struct Tryz.underlying41 (hval 0 41 v0 rfl rfl);obtain ⟨x0, hx0⟩ := (by obtain ⟨fuel, hf⟩ := h0; exact Pm.opStore enc W _ _ fuel _ _ hf HZ0 : ∃ x : Pm.Store, Pm.Rep.cells W W.heap.size cs0.toList x);obtain ⟨A1_0, A2_0, A3_0, A4_0, A5_0, c1_0, c2_0, c3_0, c4_0, c5_0, hcs0, hst0⟩ := Pm.QhS hx0;obtain rfl := Array.toList_inj.1 hcs0;obtain ⟨cs1, rfl, _⟩ := okWide_struct Tryz.underlying45 (hval 1 45 v1 rfl rfl);obtain ⟨x1, hx1⟩ := (by obtain ⟨fuel, hf⟩ := h1; exact Pm.opTree enc W _ _ fuel _ _ hf HZ1 : ∃ x : Pl.Tree, Pm.Rep.cells W W.heap.size cs1.toList x);have hcs1 := (Pm.Qj9 hx1).1;obtain rfl : cs1 = (Pm.treeL x1).toArray := Array.toList_inj.1 hcs1;obtain ⟨x2, hx2⟩ := (by obtain ⟨fuel, hf⟩ := h2; exact Pm.Qhd Tryz.underlying9 enc W _ _ fuel _ _ hf HZ2 : ∃ x : List UInt8, Pm.Rep.cells W W.heap.size (Value.cells v2).toList x);obtain ⟨s2, rfl⟩ := okWide_string Tryz.underlying9 (hval 2 9 v2 rfl rfl);have hcs2 : [Value.string s2] = [Pm.vstr x2] := (Pm.QcA hx2).1;obtain rfl : s2 = ⟨x2.toArray⟩ := by simpa [Pm.vstr] using hcs2
 have hlt0 : ∀ x ∈ p0, x.block < W.heap.size := fun x hx => hW'.lt x (by simp [hx])
 have hlt1 : ∀ x ∈ p1, x.block < W.heap.size := fun x hx => hW'.lt x (by simp [hx])
 have hlt2 : ∀ x ∈ p2, x.block < W.heap.size := fun x hx => hW'.lt x (by simp [hx])
 have hLt := Pm.QjV hL hS;simp only [List.append_nil] at hW'
 refine ((Aw.Qi0 x0 (Aw.QkF hst0) x1 x2 (Pm.QcA hx2).2).at hLt [_, _, _] rfl fun i d v hd hv => by
  match i, hd, hv with
  |0, hd, hv => obtain rfl := Option.some.inj hd; obtain rfl := Option.some.inj hv; exact Aw.QhR c1_0 c2_0 c3_0 c4_0 c5_0 hst0
  |1, hd, hv => obtain rfl := Option.some.inj hd; obtain rfl := Option.some.inj hv; exact Aw.D.ofV_rel _ _ (.agg (Pm.treeL x1).toArray)
  |2, hd, hv => obtain rfl := Option.some.inj hd; obtain rfl := Option.some.inj hv; exact .v _).mono fun e W' ⟨v, he, hb, hv⟩ => ?_
 obtain rfl := Aw.rel_v hv;subst he;have e1 : Rows.fnExactFilesSeekSpec.fn H ([d0, d1, d2] ++ []) = { results := [.lit (.bool true)], args := [d0, d1, d2] } := by simp [Rows.fnExactFilesSeekSpec]
 refine ⟨_, rfl, _, _, _, [], p0 ++ (p1 ++ p2), [], hW', ?_, ?_, ?_, hb.frame _, fun h => by cases h⟩
 ·rw [e1]; exact trodAll_mk1 (shut_bool Tryz.underlying4 true)
 ·rw [e1]; exact trodAll_mk3 (Below.trod Qd7 (by kernel_rfl) (of_decide_eq_true (by kernel_rfl)) h0 hb hlt0) (Below.trod Qd7 (by kernel_rfl) (of_decide_eq_true (by kernel_rfl)) h1 hb hlt1) (Below.trod Qd7 (by kernel_rfl) (of_decide_eq_true (by kernel_rfl)) h2 hb hlt2)
 ·rw [e1]; rfl
theorem QjG : Rows.FnExactFilesSeekSaid :=
 OpenClaim.holds_of_wide 7 Tryz.f7 rfl rfl rfl rfl rfl rfl rfl ⟨rfl, rfl, rfl, rfl, rfl⟩ rfl rfl rfl rfl rfl seekFn Tryz.func7 QkN
  (of_decide_eq_true (by kernel_rfl)) (by unfold Func.isWrapper; rw [if_neg (of_decide_eq_false (by kernel_rfl))]; exact ⟨rfl, rfl⟩)
  (fun os started H enc _ => QhX os started H enc)
theorem seek_card : Rows.FnExactFilesSeekCardSaid :=
 Claim7.holds_tied_plain_at .later [] [.data, .data, .data, .data, .sentinel, .sentinel, .pinned] true (true, "9e55266720f0307eba4dad16c2714600fad779fc7b1280a4826d96d4a6371e59") true
  QjG (fun _ h => by cases h) Qm4 (fun _ h => by cases h) fnExactFilesSeek_row_tie rfl ⟨rfl, rfl⟩ rowMain rfl
  (fun f fn hf hfn => by
    obtain rfl : f = 7 := Option.some.inj (seekFn.symm.trans hf) |>.symm;obtain rfl : fn = Tryz.f7 := (Option.some.inj (Tryz.func7.symm.trans hfn)).symm
    exact ⟨Qm7.symm, fun j t ht => by
     rw [Tryz.params7] at ht
     match j, ht with
     |0, ht => obtain rfl := Option.some.inj ht; exact QjJ
     |1, ht => obtain rfl := Option.some.inj ht; exact QjI
     |2, ht => obtain rfl := Option.some.inj ht; exact QjH
     |j + 3, ht => simp at ht⟩)
  Qm6
#print axioms seek_card
end Go.Proofs.YtdjkdcokjoiokaaGreatDoor

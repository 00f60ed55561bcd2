/- Part 44 of seek_card: contracts, walks, laws; no condition beyond the statement's. -/
import Derived.Test.YtdjkdcokjoiokaaGreatDoorW11
import Derived.Test.YtdjkdcokjoiokaaGreatDoorW42
import Derived.Test.YtdjkdcokjoiokaaGreatDoorRows
set_option linter.all false
namespace Go.Proofs.YtdjkdcokjoiokaaGreatDoor
open Go.RowKit Go.ChangeShapes Go.WideShapes
namespace Pm
theorem QmE {a0 a1 a2 a3 a4 : Type} [Rep a0] [Rep a1] [Rep a2] [Rep a3] [Rep a4] {P : Program} {t : TypeId} {f0 f1 f2 f3 f4 : Field} (ht : P.underlying t = some (.struct #[f0, f1, f2, f3, f4]))
 (o0 : f0.offset = 0) (o1 : f1.offset = Rep.size a0) (o2 : f2.offset = Rep.size a0 + Rep.size a1) (o3 : f3.offset = Rep.size a0 + Rep.size a1 + Rep.size a2) (o4 : f4.offset = Rep.size a0 + Rep.size a1 + Rep.size a2 + Rep.size a3)
 (c0 : P.cellsOf f0.type = Rep.size a0) (c1 : P.cellsOf f1.type = Rep.size a1) (c2 : P.cellsOf f2.type = Rep.size a2) (c3 : P.cellsOf f3.type = Rep.size a3) (c4 : P.cellsOf f4.type = Rep.size a4) (hc : P.cellsOf t = Rep.size a0 + Rep.size a1 + Rep.size a2 + Rep.size a3 + Rep.size a4)
 (h0 : Opens a0 P f0.type) (h1 : Opens a1 P f1.type) (h2 : Opens a2 P f2.type) (h3 : Opens a3 P f3.type) (h4 : Opens a4 P f4.type) : Opens (a0 × a1 × a2 × a3 × a4) P t := by
 intro H enc W sp held fuel cs x hx hz;obtain ⟨xs, n, rfl, rfl, hl, hxl, hall⟩ := DataW.trod_struct ht hx
 match xs, hxl with
 |[y0, y1, y2, y3, y4], _ =>
  have e0 := hall 0 f0 rfl;have e1 := hall 1 f1 rfl;have e2 := hall 2 f2 rfl;have e3 := hall 3 f3 rfl;have e4 := hall 4 f4 rfl;simp only [DataW.weights, ht, List.map_cons, List.map_nil, DataW.weightsEach, List.append_nil, List.all_append, Bool.and_eq_true] at hz;rw [o0, List.drop_zero, c0] at e0;rw [o1, c1] at e1;rw [o2, c2] at e2;rw [o3, c3] at e3;rw [o4, c4] at e4;obtain ⟨b0, r0⟩ := h0 enc W sp held n _ y0 e0 hz.1;obtain ⟨b1, r1⟩ := h1 enc W sp held n _ y1 e1 hz.2.1;obtain ⟨b2, r2⟩ := h2 enc W sp held n _ y2 e2 hz.2.2.1;obtain ⟨b3, r3⟩ := h3 enc W sp held n _ y3 e3 hz.2.2.2.1;obtain ⟨b4, r4⟩ := h4 enc W sp held n _ y4 e4 hz.2.2.2.2;refine ⟨(b0, b1, b2, b3, b4), _, _, ?_, r0, ⟨_, _, rfl, r1, ⟨_, _, rfl, r2, ⟨_, _, rfl, r3, r4⟩⟩⟩⟩;have z : ∀ (k m : Nat), (cs.drop k).take m ++ cs.drop (k + m) = cs.drop k := fun k m => by rw [<- List.drop_drop, List.take_append_drop]
  rw [List.take_of_length_le (l := cs.drop (Rep.size a0 + Rep.size a1 + Rep.size a2 + Rep.size a3)) (by rw [List.length_drop]; omega), z, z, z, List.take_append_drop]
theorem QmD {a0 a1 a2 a3 a4 a5 a6 : Type} [Rep a0] [Rep a1] [Rep a2] [Rep a3] [Rep a4] [Rep a5] [Rep a6] {P : Program} {t : TypeId} {f0 f1 f2 f3 f4 f5 f6 : Field} (ht : P.underlying t = some (.struct #[f0, f1, f2, f3, f4, f5, f6]))
 (o0 : f0.offset = 0) (o1 : f1.offset = Rep.size a0) (o2 : f2.offset = Rep.size a0 + Rep.size a1) (o3 : f3.offset = Rep.size a0 + Rep.size a1 + Rep.size a2) (o4 : f4.offset = Rep.size a0 + Rep.size a1 + Rep.size a2 + Rep.size a3) (o5 : f5.offset = Rep.size a0 + Rep.size a1 + Rep.size a2 + Rep.size a3 + Rep.size a4) (o6 : f6.offset = Rep.size a0 + Rep.size a1 + Rep.size a2 + Rep.size a3 + Rep.size a4 + Rep.size a5)
 (c0 : P.cellsOf f0.type = Rep.size a0) (c1 : P.cellsOf f1.type = Rep.size a1) (c2 : P.cellsOf f2.type = Rep.size a2) (c3 : P.cellsOf f3.type = Rep.size a3) (c4 : P.cellsOf f4.type = Rep.size a4) (c5 : P.cellsOf f5.type = Rep.size a5) (c6 : P.cellsOf f6.type = Rep.size a6) (hc : P.cellsOf t = Rep.size a0 + Rep.size a1 + Rep.size a2 + Rep.size a3 + Rep.size a4 + Rep.size a5 + Rep.size a6)
 (h0 : Opens a0 P f0.type) (h1 : Opens a1 P f1.type) (h2 : Opens a2 P f2.type) (h3 : Opens a3 P f3.type) (h4 : Opens a4 P f4.type) (h5 : Opens a5 P f5.type) (h6 : Opens a6 P f6.type) : Opens (a0 × a1 × a2 × a3 × a4 × a5 × a6) P t := by
 intro H enc W sp held fuel cs x hx hz;obtain ⟨xs, n, rfl, rfl, hl, hxl, hall⟩ := DataW.trod_struct ht hx
 match xs, hxl with
 |[y0, y1, y2, y3, y4, y5, y6], _ =>
  have e0 := hall 0 f0 rfl;have e1 := hall 1 f1 rfl;have e2 := hall 2 f2 rfl;have e3 := hall 3 f3 rfl;have e4 := hall 4 f4 rfl;have e5 := hall 5 f5 rfl;have e6 := hall 6 f6 rfl;simp only [DataW.weights, ht, List.map_cons, List.map_nil, DataW.weightsEach, List.append_nil, List.all_append, Bool.and_eq_true] at hz;rw [o0, List.drop_zero, c0] at e0;rw [o1, c1] at e1;rw [o2, c2] at e2;rw [o3, c3] at e3;rw [o4, c4] at e4;rw [o5, c5] at e5;rw [o6, c6] at e6;obtain ⟨b0, r0⟩ := h0 enc W sp held n _ y0 e0 hz.1;obtain ⟨b1, r1⟩ := h1 enc W sp held n _ y1 e1 hz.2.1;obtain ⟨b2, r2⟩ := h2 enc W sp held n _ y2 e2 hz.2.2.1;obtain ⟨b3, r3⟩ := h3 enc W sp held n _ y3 e3 hz.2.2.2.1;obtain ⟨b4, r4⟩ := h4 enc W sp held n _ y4 e4 hz.2.2.2.2.1;obtain ⟨b5, r5⟩ := h5 enc W sp held n _ y5 e5 hz.2.2.2.2.2.1;obtain ⟨b6, r6⟩ := h6 enc W sp held n _ y6 e6 hz.2.2.2.2.2.2;refine ⟨(b0, b1, b2, b3, b4, b5, b6), _, _, ?_, r0, ⟨_, _, rfl, r1, ⟨_, _, rfl, r2, ⟨_, _, rfl, r3, ⟨_, _, rfl, r4, ⟨_, _, rfl, r5, r6⟩⟩⟩⟩⟩⟩;have z : ∀ (k m : Nat), (cs.drop k).take m ++ cs.drop (k + m) = cs.drop k := fun k m => by rw [<- List.drop_drop, List.take_append_drop]
  rw [List.take_of_length_le (l := cs.drop (Rep.size a0 + Rep.size a1 + Rep.size a2 + Rep.size a3 + Rep.size a4 + Rep.size a5)) (by rw [List.length_drop]; omega), z, z, z, z, z, List.take_append_drop]
theorem Qhe {α β : Type} [Rep α] [Rep β] {P : Program} {t : TypeId} (g : α -> β) (hg : ∀ (W : World) (B : Nat) (cs : List Value) (a : α), Rep.cells W B cs a -> Rep.cells W B cs (g a)) (h : Opens α P t) : Opens β P t := by
 intro H enc W sp held fuel cs x hx hz;obtain ⟨a, r⟩ := h enc W sp held fuel cs x hx hz;exact ⟨g a, hg _ _ _ _ r⟩
theorem opPtr : Opens Pl.Ptr Tryz.prog 43 :=
 Qhe (α := Int × Int × Int × Int × Int) (fun x => ⟨x.1, x.2.1, x.2.2.1, x.2.2.2.1, x.2.2.2.2⟩) (fun W B cs a h => by
  obtain ⟨_, _, rfl, ⟨rfl, i1⟩, _, _, rfl, ⟨rfl, i2⟩, _, _, rfl, ⟨rfl, i3⟩, _, _, rfl, ⟨rfl, i4⟩, rfl, i5⟩ := h
  exact ⟨rfl, i1, i2, i3, i4, i5⟩)
  (QmE Tryz.underlying43 rfl rfl rfl rfl rfl (by kernel_rfl) (by kernel_rfl) (by kernel_rfl) (by kernel_rfl) (by kernel_rfl) (by kernel_rfl) (Qcd Tryz.underlying3) (Qcd Tryz.underlying3) (Qcd Tryz.underlying3) (Qcd Tryz.underlying3) (Qcd Tryz.underlying3))
theorem opTree : Opens Pl.Tree Tryz.prog 45 :=
 Qhe (α := Pl.Ptr × Int × Int) (fun x => ⟨x.1, x.2.1, x.2.2⟩) (fun W B cs a h => by
  obtain ⟨_, _, rfl, ⟨rfl, i1⟩, _, _, rfl, ⟨rfl, i2⟩, rfl, i3⟩ := h
  exact ⟨rfl, i1, i2, i3⟩)
  (Qid Tryz.underlying45 rfl rfl rfl (by kernel_rfl) (by kernel_rfl) (by kernel_rfl) (by kernel_rfl) opPtr (Qcd Tryz.underlying3) (Qcd Tryz.underlying3))
theorem opInts : Opens (List Int) Tryz.prog 36 := Qew Tryz.underlying36 (of_decide_eq_true (by kernel_rfl)) (by kernel_rfl) (by decide) (Qcd Tryz.underlying3)
theorem opPtrs : Opens (List Pl.Ptr) Tryz.prog 39 := Qew Tryz.underlying39 (of_decide_eq_true (by kernel_rfl)) (by kernel_rfl) (by decide) opPtr
theorem opSpace : Opens Space Tryz.prog 38 := Qld Tryz.underlying38 rfl rfl (by kernel_rfl) (by kernel_rfl) (by kernel_rfl) opInts opInts
theorem opRows : Opens (List Str) Tryz.prog 35 := Qew Tryz.underlying35 (of_decide_eq_true (by kernel_rfl)) (by kernel_rfl) (by decide) (Qhd Tryz.underlying9)
theorem opStore : Opens Store Tryz.prog 41 :=
 QmD Tryz.underlying41 rfl rfl rfl rfl rfl rfl rfl (by kernel_rfl) (by kernel_rfl) (by kernel_rfl) (by kernel_rfl) (by kernel_rfl) (by kernel_rfl) (by kernel_rfl) (by kernel_rfl) opRows opSpace (Qcd Tryz.underlying3) opPtrs (Qcd Tryz.underlying3) opPtrs (QjR Tryz.underlying4)
end Pm
end Go.Proofs.YtdjkdcokjoiokaaGreatDoor

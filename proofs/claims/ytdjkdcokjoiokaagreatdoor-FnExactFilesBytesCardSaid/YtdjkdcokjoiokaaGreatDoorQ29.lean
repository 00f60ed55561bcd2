/- Part 29 of the proof of bytes_card: contracts, walks, plain laws; no condition is assumed beyond those that a statement names. -/
import Derived.Test.YtdjkdcokjoiokaaGreatDoorQ27
import Derived.Test.YtdjkdcokjoiokaaGreatDoorQ28
set_option linter.all false
namespace Go.Proofs.YtdjkdcokjoiokaaGreatDoor
open Go.RowKit
namespace Aw
attribute [local irreducible] ASeq ADraw AWP Loc
theorem QnG (s : Pm.Space) (h1 : s.1.length <= Pm.big) (h2 : s.2.length <= Pm.big) (h3 : ∀ n ∈ s.1, Pm.InI n) (h4 : ∀ n ∈ s.2, Pm.InI n) : Pure Tryz.prog 215 [dSpace s] (dB (Pl.spaceOk s)) := by
 intro B σ S H w cargs hB hS hl hr
 obtain ⟨v, rfl⟩ := Qi9 hl
 have hv := hr 0 _ v rfl rfl
 cases hv with
 |agg _ cs hl2 hc =>
  obtain ⟨x, y, rfl⟩ : ∃ x y, cs = [x, y] := by
   match cs, hl2 with
   |[x, y], _ => exact ⟨x, y, rfl⟩
  obtain ⟨A1, c1, rfl, ha1⟩ := Qgp (hc 0 _ x rfl rfl) hS.lt h3
  obtain ⟨A2, c2, rfl, ha2⟩ := Qgp (hc 1 _ y rfl rfl) hS.lt h4
  refine (Pm.Qmb A1 A2 c1 c2 s w h1 ha1 h2 ha2).mono ?_
  rintro e w' ⟨rfl, hb⟩
  exact ⟨_, rfl, hb, .v _⟩
end Aw
end Go.Proofs.YtdjkdcokjoiokaaGreatDoor

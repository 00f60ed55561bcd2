/- Part 21 of the proof of bytes_card: contracts, walks, plain laws; no condition is assumed beyond those that a statement names. -/
import Derived.Test.YtdjkdcokjoiokaaGreatDoorQ17
import Derived.Test.YtdjkdcokjoiokaaGreatDoorQ20
import Derived.Deep.AppendLies
set_option linter.all false
namespace Go.Proofs.YtdjkdcokjoiokaaGreatDoor
open Go.RowKit
namespace Pm
open Pl (dec dch inR Ptr Tree Root hole ptrHole ptrOk)
theorem QlF (o : Option Str) : optStr o = .tuple #[.string ⟨(o.getD []).toArray⟩, .bool o.isSome] := by cases o <;> rfl
end Pm
end Go.Proofs.YtdjkdcokjoiokaaGreatDoor
namespace Go.Proofs.YtdjkdcokjoiokaaGreatDoor
open Go.RowKit
namespace Pm
theorem Qgd {w : World} {base size n : Nat} {e : TypeId} {v : Value} {xs : List Value} (h : w.ownsRow base e size v n xs) : ∃ A c, v = .slice A n c := by
 obtain ⟨_, ⟨hv, hn⟩ | ⟨g, cap, cur, hv, _⟩⟩ := h
 ·subst hn; exact ⟨none, 0, hv⟩
 ·exact ⟨_, cap, hv⟩
section
variable {b3 base k : Nat} {l : List Disk} {v0 : Value} {wr wx wy : World} {D D' : Nat -> Bool} {rx ry : Nat -> Value}
end
end Pm
end Go.Proofs.YtdjkdcokjoiokaaGreatDoor

/- Part 43 of seek_card: contracts, walks, laws; no condition beyond the statement's. -/
import Derived.Test.YtdjkdcokjoiokaaGreatDoorW42
import Derived.Test.YtdjkdcokjoiokaaGreatDoorRows
import Derived.ProofKit
import Derived.LaidHandle
import Derived.Stop.LaidErr
import Derived.Deep.DeepLaidRun
import Derived.MakeChecks
set_option linter.all false
namespace Go.Proofs.YtdjkdcokjoiokaaGreatDoor
open Go.RowKit Go.ChangeShapes Go.WideShapes
namespace Pm
def theLaid : List (String × DataW Unit) := [("math/bits.deBruijn32tab", Rows.laid_math_bits_deBruijn32tab), ("math/bits.deBruijn64tab", Rows.laid_math_bits_deBruijn64tab), ("internal/strconv.uint64pow10", Rows.laid_internal_strconv_uint64pow10), ("unicode/utf8.acceptRanges", Rows.laid_unicode_utf8_acceptRanges), ("strconv.ErrRange", Rows.laid_strconv_ErrRange), ("strconv.ErrSyntax", Rows.laid_strconv_ErrSyntax), ("unicode/utf8.first", Rows.laid_unicode_utf8_first)]
theorem laidH (W : World) : laidMetH Tryz.prog theLaid W = laidMet Tryz.prog theLaid W := Go.MakeChecks.laidMetH_plain _ _ _ (by kernel_rfl)
theorem QjV {W : World} (h : laidMetH Tryz.prog theLaid W) (hs : W.ShapedOpen Tryz.prog) : Lt W := by
 rw [laidH] at h;refine ⟨?_, ?_, ?_, ?_⟩
 ·exact Lib.tabIs_of_head (n := 20) (t := 406) (e := 359) (g := 3) (by kernel_rfl) (by kernel_rfl) (by kernel_rfl) (by kernel_rfl) (by kernel_rfl) (by kernel_rfl) h.tail.tail
 ·exact cell_of_shapedOpen_int (t := 3) (zero := #[.int .i64 0]) hs (of_decide_eq_true (by kernel_rfl)) (by kernel_rfl) rfl (by kernel_rfl) (by kernel_rfl) Tryz.underlying3
 ·exact QdJ (ti := 232) (Lib.laidMet.reads h (.tail _ (.tail _ (.tail _ (.tail _ (.tail _ (.head _))))))) (by kernel_rfl) (by kernel_rfl) Tryz.underlying232
 ·exact QdJ (ti := 232) (Lib.laidMet.reads h (.tail _ (.tail _ (.tail _ (.tail _ (.head _)))))) (by kernel_rfl) (by kernel_rfl) Tryz.underlying232
def Qi7 : DataW Unit -> List Value
 |.lit (.int k n) => [.int k n]
 |.agg [.lit (.int k n), .lit (.int k' m)] => [.int k n, .int k' m]
 |_ => []
def Qdc : DataW Unit -> List Value
 |.agg l => l.flatMap Qi7
 |_ => []
noncomputable def Qhp (os : Os) : World :=
 let N := (World.settled Tryz.prog os).heap.size
 let w0 := World.holding Tryz.prog os ⟨#[.cells #[.string ⟨#[118, 97, 108, 117, 101, 32, 111, 117, 116, 32, 111, 102, 32, 114, 97, 110, 103, 101]⟩] 379, .cells #[.string ⟨#[105, 110, 118, 97, 108, 105, 100, 32, 115, 121, 110, 116, 97, 120]⟩] 379], #[], []⟩
 let put (h : Array Obj) (g : Nat) (cs : Array Value) : Array Obj := h.modify g fun
  |.cells _ t frozen => .cells cs t frozen
  |o => o
 { w0 with heap := put (put (put (put (put (put (put w0.heap 6 (Qdc Rows.laid_math_bits_deBruijn32tab).toArray) 7 (Qdc Rows.laid_math_bits_deBruijn64tab).toArray) 3 (Qdc Rows.laid_internal_strconv_uint64pow10).toArray)
    5 (Qdc Rows.laid_unicode_utf8_acceptRanges).toArray) 4 (Qdc Rows.laid_unicode_utf8_first).toArray) 2 #[.iface 377 (.pointer (some ⟨N, 0, none⟩))]) 1 #[.iface 377 (.pointer (some ⟨N + 1, 0, none⟩))] }
theorem QmM (os : Os) (args : Array Value) : laidMetH Tryz.prog theLaid ((Qhp os).forCall (fun _ _ => 0) ⟨#[], args, []⟩).memory := by
 rw [laidH];exact laidMet_of_run3 12 (by kernel_rfl) (by kernel_rfl) (by kernel_rfl)
end Pm
end Go.Proofs.YtdjkdcokjoiokaaGreatDoor

/- What the rows share: the variables off the row's cell 'laid'; a world that meets it; the arguments' types, opened. -/
import Derived.Test.YtdjkdcokjoiokaaGreatDoorOpen
import Derived.Test.YtdjkdcokjoiokaaGreatDoorLaid
import Derived.Test.YtdjkdcokjoiokaaGreatDoorRows
import Derived.ProofKit
import Derived.LaidHandle
import Derived.Stop.LaidErr
import Derived.Deep.DeepLaidRun
import Derived.MakeChecks
namespace Go.Proofs.YtdjkdcokjoiokaaGreatDoor
open Go.RowKit Go.ChangeShapes Go.WideShapes
namespace Pm

theorem opWait : Opens Wait Tryz.prog 296 := opens_two Tryz.underlying296 rfl rfl (by kernel_rfl) (by kernel_rfl) (by kernel_rfl) (opens_int Tryz.underlying3) (opens_str Tryz.underlying9)
theorem opStrs : Opens (List Str) Tryz.prog 35 := opens_list Tryz.underlying35 (of_decide_eq_true (by kernel_rfl)) (by kernel_rfl) (by decide) (opens_str Tryz.underlying9)
theorem opWaits : Opens (List Wait) Tryz.prog 152 := opens_list Tryz.underlying152 (of_decide_eq_true (by kernel_rfl)) (by kernel_rfl) (by decide) opWait
theorem opDisk : Opens Disk Tryz.prog 154 := opens_three Tryz.underlying154 rfl rfl rfl (by kernel_rfl) (by kernel_rfl) (by kernel_rfl) (by kernel_rfl) opStrs opWaits (opens_bool Tryz.underlying4)
theorem opDisks : Opens (List Disk) Tryz.prog 22 := opens_list Tryz.underlying22 (of_decide_eq_true (by kernel_rfl)) (by kernel_rfl) (by decide) opDisk
theorem opRaid : Opens (List Disk) Tryz.prog 24 := opens_one Tryz.underlying24 rfl (by kernel_rfl) opDisks

/-- The list, as every row has it. -/
def theLaid : List (String × DataW Unit) := [("math/bits.deBruijn32tab", Rows.laid_math_bits_deBruijn32tab), ("math/bits.deBruijn64tab", Rows.laid_math_bits_deBruijn64tab), ("internal/strconv.uint64pow10", Rows.laid_internal_strconv_uint64pow10), ("unicode/utf8.acceptRanges", Rows.laid_unicode_utf8_acceptRanges), ("strconv.ErrRange", Rows.laid_strconv_ErrRange), ("strconv.ErrSyntax", Rows.laid_strconv_ErrSyntax), ("unicode/utf8.first", Rows.laid_unicode_utf8_first)]

theorem laidH (W : World) : laidMetH Tryz.prog theLaid W = laidMet Tryz.prog theLaid W := Go.MakeChecks.laidMetH_plain _ _ _ (by kernel_rfl)

/-- WHAT THE ROW GIVES THE WALK. -/
theorem lt_of_laid {W : World} (h : laidMetH Tryz.prog theLaid W) (hs : W.ShapedOpen Tryz.prog) : Lt W := by
  rw [laidH] at h
  refine ⟨?_, ?_, ?_, ?_⟩
  · exact Lib.tabIs_of_head (n := 20) (t := 406) (e := 359) (g := 3) (by kernel_rfl) (by kernel_rfl) (by kernel_rfl) (by kernel_rfl) (by kernel_rfl) (by kernel_rfl) h.tail.tail
  · exact cell_of_shapedOpen_int (t := 3) (zero := #[.int .i64 0]) hs (of_decide_eq_true (by kernel_rfl)) (by kernel_rfl) rfl (by kernel_rfl) (by kernel_rfl) Tryz.underlying3
  · exact iface_of_reads (ti := 232) (Lib.laidMet.reads h (.tail _ (.tail _ (.tail _ (.tail _ (.tail _ (.head _))))))) (by kernel_rfl) (by kernel_rfl) Tryz.underlying232
  · exact iface_of_reads (ti := 232) (Lib.laidMet.reads h (.tail _ (.tail _ (.tail _ (.tail _ (.head _)))))) (by kernel_rfl) (by kernel_rfl) Tryz.underlying232

/-- A literal datum's cells. -/
def cellsOfInts : DataW Unit → List Value
  | .lit (.int k n) => [.int k n]
  | .agg [.lit (.int k n), .lit (.int k' m)] => [.int k n, .int k' m]
  | _ => []
def cellsOfTab : DataW Unit → List Value
  | .agg l => l.flatMap cellsOfInts
  | _ => []

/-- A world that meets the row's list. -/
noncomputable def laidWorld (os : Os) : World :=
  let N := (World.settled Tryz.prog os).heap.size
  let w0 := World.holding Tryz.prog os ⟨#[.cells #[.string ⟨#[118, 97, 108, 117, 101, 32, 111, 117, 116, 32, 111, 102, 32, 114, 97, 110, 103, 101]⟩] 379, .cells #[.string ⟨#[105, 110, 118, 97, 108, 105, 100, 32, 115, 121, 110, 116, 97, 120]⟩] 379], #[], []⟩
  let put (h : Array Obj) (g : Nat) (cs : Array Value) : Array Obj := h.modify g fun
    | .cells _ t frozen => .cells cs t frozen
    | o => o
  { w0 with heap := put (put (put (put (put (put (put w0.heap 6 (cellsOfTab Rows.laid_math_bits_deBruijn32tab).toArray) 7 (cellsOfTab Rows.laid_math_bits_deBruijn64tab).toArray) 3 (cellsOfTab Rows.laid_internal_strconv_uint64pow10).toArray)
      5 (cellsOfTab Rows.laid_unicode_utf8_acceptRanges).toArray) 4 (cellsOfTab Rows.laid_unicode_utf8_first).toArray) 2 #[.iface 377 (.pointer (some ⟨N, 0, none⟩))]) 1 #[.iface 377 (.pointer (some ⟨N + 1, 0, none⟩))] }
theorem laid_met (os : Os) (args : Array Value) : laidMetH Tryz.prog theLaid ((laidWorld os).forCall (fun _ _ => 0) ⟨#[], args, []⟩).memory := by
  rw [laidH]
  exact laidMet_of_run3 12 (by kernel_rfl) (by kernel_rfl) (by kernel_rfl)
end Pm
end Go.Proofs.YtdjkdcokjoiokaaGreatDoor

/- Of parts_card; no condition. -/
import Derived.Test.YtilenknaajikpaaGreatDoorP05
import Derived.Test.YtilenknaajikpaaGreatDoorRows
import Derived.ProofKit
import Derived.LaidHandle
import Derived.Stop.LaidErr
import Derived.Deep.DeepLaidRun
import Derived.MakeChecks
set_option linter.all false
open Go.Lib.laidMet renaming reads->A2
open Go.MakeChecks renaming laidMetH_plain->A3
open Go.Proofs.Tryz renaming prog->A0,underlying192->A1
namespace Go.Proofs.YtilenknaajikpaaGreatDoor
noncomputable section
open Go.RowKit Go.ChangeShapes Go.WideShapes
namespace Pm
def theLaid:List (String×DataW Unit):=[("math/bits.deBruijn32tab",Rows.laid_math_bits_deBruijn32tab),("math/bits.deBruijn64tab",Rows.laid_math_bits_deBruijn64tab),("internal/strconv.uint64pow10",Rows.laid_internal_strconv_uint64pow10),("unicode/utf8.acceptRanges",Rows.laid_unicode_utf8_acceptRanges),("strconv.ErrRange",Rows.laid_strconv_ErrRange),("strconv.ErrSyntax",Rows.laid_strconv_ErrSyntax),("unicode/utf8.first",Rows.laid_unicode_utf8_first)]
def laidH(W:World):laidMetH A0 theLaid W=laidMet A0 theLaid W:=A3 _ _ _ (by kernel_rfl)
def QpH{W:World}(h:laidMetH A0 theLaid W)(hs:W.ShapedOpen A0):Lt W:=by
 rw[laidH] at h;refine⟨?_,?_,?_,?_⟩
 ·exact Lib.tabIs_of_head (n:=20) (t:=286) (e:=255) (g:=5) (by kernel_rfl) (by kernel_rfl) (by kernel_rfl) (by kernel_rfl) (by kernel_rfl) (by kernel_rfl) h.tail.tail
 ·exact cell_of_shapedOpen_int (t:=3) (zero:= #[.int .i64 0]) hs (of_decide_eq_true (by kernel_rfl)) (by kernel_rfl) rfl (by kernel_rfl) (by kernel_rfl) Tryz.underlying3
 ·exact QgG (ti:=192) (A2 h (.tail _ (.tail _ (.tail _ (.tail _ (.tail _ (.head _))))))) (by kernel_rfl) (by kernel_rfl) A1
 ·exact QgG (ti:=192) (A2 h (.tail _ (.tail _ (.tail _ (.tail _ (.head _)))))) (by kernel_rfl) (by kernel_rfl) A1
def QnK:DataW Unit->List Value
 |.lit (.int k n)=>[.int k n]
 |.agg [.lit (.int k n),.lit (.int k' m)]=>[.int k n,.int k' m]
 |_=>[]
def Qf8:DataW Unit->List Value
 |.agg l=>l.flatMap QnK
 |_=>[]
def Qmh(os:Os):World:=
 let N:=(World.settled A0 os).heap.size
 let w0:=World.holding A0 os ⟨#[.cells #[.string ⟨#[118,97,108,117,101,32,111,117,116,32,111,102,32,114,97,110,103,101]⟩] 279,.cells #[.string ⟨#[105,110,118,97,108,105,100,32,115,121,110,116,97,120]⟩] 279], #[],[]⟩
 let put (h:Array Obj) (g:Nat) (cs:Array Value):Array Obj:=h.modify g fun
  |.cells _ t frozen=> .cells cs t frozen
  |o=>o
 {w0 with heap:=put (put (put (put (put (put (put w0.heap 6 (Qf8 Rows.laid_math_bits_deBruijn32tab).toArray) 7 (Qf8 Rows.laid_math_bits_deBruijn64tab).toArray) 5 (Qf8 Rows.laid_internal_strconv_uint64pow10).toArray)
   2 (Qf8 Rows.laid_unicode_utf8_acceptRanges).toArray) 1 (Qf8 Rows.laid_unicode_utf8_first).toArray) 4 #[.iface 277 (.pointer (some ⟨N,0,none⟩))]) 3 #[.iface 277 (.pointer (some ⟨N+1,0,none⟩))]}
def QtV(os:Os)(args:Array Value):laidMetH A0 theLaid ((Qmh os).forCall (fun _ _=>0) ⟨#[],args,[]⟩).memory:=by
 rw[laidH];exact laidMet_of_run3 12 (by kernel_rfl) (by kernel_rfl) (by kernel_rfl)

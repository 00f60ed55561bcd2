/- Of fby_card; no condition. -/
import Derived.Test.YtfmnpmhadmcdkaaGreatDoorT07
import Derived.Test.YtfmnpmhadmcdkaaGreatDoorRows
import Derived.ProofKit
import Derived.LaidHandle
import Derived.Stop.LaidErr
import Derived.Deep.DeepLaidRun
import Derived.MakeChecks
set_option linter.all false
open Go.Lib.laidMet renaming reads->A2
open Go.MakeChecks renaming laidMetH_plain->A3
open Go.Proofs.Tryz renaming prog->A0,underlying130->A1
namespace Go.Proofs.YtfmnpmhadmcdkaaGreatDoor
noncomputable section
open Go.RowKit Go.ChangeShapes Go.WideShapes
namespace Pm
def theLaid:List (String×DataW Unit):=[("math/bits.deBruijn32tab",Rows.laid_math_bits_deBruijn32tab),("math/bits.deBruijn64tab",Rows.laid_math_bits_deBruijn64tab),("internal/strconv.uint64pow10",Rows.laid_internal_strconv_uint64pow10),("unicode/utf8.acceptRanges",Rows.laid_unicode_utf8_acceptRanges),("strconv.ErrRange",Rows.laid_strconv_ErrRange),("strconv.ErrSyntax",Rows.laid_strconv_ErrSyntax),("unicode/utf8.first",Rows.laid_unicode_utf8_first)]
def laidH(W:World):laidMetH A0 theLaid W=laidMet A0 theLaid W:=A3 _ _ _ (by kernel_rfl)
def QoD{W:World}(h:laidMetH A0 theLaid W)(hs:W.ShapedOpen A0):Lt W:=by
 rw[laidH] at h;refine⟨?_,?_,?_,?_⟩
 ·exact Lib.tabIs_of_head (n:=20) (t:=336) (e:=271) (g:=5) (by kernel_rfl) (by kernel_rfl) (by kernel_rfl) (by kernel_rfl) (by kernel_rfl) (by kernel_rfl) h.tail.tail
 ·exact cell_of_shapedOpen_int (t:=3) (zero:= #[.int .i64 0]) hs (of_decide_eq_true (by kernel_rfl)) (by kernel_rfl) rfl (by kernel_rfl) (by kernel_rfl) Tryz.underlying3
 ·exact Qgh (ti:=130) (A2 h (.tail _ (.tail _ (.tail _ (.tail _ (.tail _ (.head _))))))) (by kernel_rfl) (by kernel_rfl) A1
 ·exact Qgh (ti:=130) (A2 h (.tail _ (.tail _ (.tail _ (.tail _ (.head _)))))) (by kernel_rfl) (by kernel_rfl) A1
def QmW:DataW Unit->List Value
 |.lit (.int k n)=>[.int k n]
 |.agg [.lit (.int k n),.lit (.int k' m)]=>[.int k n,.int k' m]
 |_=>[]
def Qfl:DataW Unit->List Value
 |.agg l=>l.flatMap QmW
 |_=>[]
def Ql0(os:Os):World:=
 let N:=(World.settled A0 os).heap.size
 let w0:=World.holding A0 os ⟨#[.cells #[.string ⟨#[118,97,108,117,101,32,111,117,116,32,111,102,32,114,97,110,103,101]⟩] 330,.cells #[.string ⟨#[105,110,118,97,108,105,100,32,115,121,110,116,97,120]⟩] 330], #[],[]⟩
 let put (h:Array Obj) (g:Nat) (cs:Array Value):Array Obj:=h.modify g fun
  |.cells _ t frozen=> .cells cs t frozen
  |o=>o
 {w0 with heap:=put (put (put (put (put (put (put w0.heap 6 (Qfl Rows.laid_math_bits_deBruijn32tab).toArray) 7 (Qfl Rows.laid_math_bits_deBruijn64tab).toArray) 5 (Qfl Rows.laid_internal_strconv_uint64pow10).toArray)
   4 (Qfl Rows.laid_unicode_utf8_acceptRanges).toArray) 3 (Qfl Rows.laid_unicode_utf8_first).toArray) 2 #[.iface 328 (.pointer (some ⟨N,0,none⟩))]) 1 #[.iface 328 (.pointer (some ⟨N+1,0,none⟩))]}
def QsS(os:Os)(args:Array Value):laidMetH A0 theLaid ((Ql0 os).forCall (fun _ _=>0) ⟨#[],args,[]⟩).memory:=by
 rw[laidH];exact laidMet_of_run3 12 (by kernel_rfl) (by kernel_rfl) (by kernel_rfl)

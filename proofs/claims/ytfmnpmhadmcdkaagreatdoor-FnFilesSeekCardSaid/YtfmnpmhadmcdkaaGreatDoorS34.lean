/- Of fsk_card; no condition. -/
import Derived.Test.YtfmnpmhadmcdkaaGreatDoorS32
set_option linter.all false
set_option maxRecDepth 100000
set_option maxHeartbeats 16000000
namespace Go.Proofs.YtfmnpmhadmcdkaaGreatDoor
noncomputable section
open Go.RowKit
namespace Aw
abbrev zOp:List AV:=[.d (.v (.int .i64 0)),.d (.v (.string ⟨#[]⟩)),.d (.v (.string ⟨#[]⟩)),.d (.v (.int .i64 0)),.d (.v (.string ⟨#[]⟩))]
def Qft{rows:List (List D)}(h:RdOk rows)(p:Nat){n:Int}(hn:0<n): ∃v:Nat,QaO rows p n=v/\(v:Int)<n:=by
 obtain⟨h1,h2⟩:=pkv_b h p n;exact⟨(QaO rows p n).toNat,by omega,by omega⟩
attribute [local irreducible] ASeq ADraw AWP Loc AStep Fg.PlanF Fg.Flts EndR Fk.PlanF Fk.Flts Fk.AStepM Fk.Grew Fk.Gs
def eOpD(rows:List (List D))(hr:RdOk rows)(p:Nat)(hp:p<=700000):
 DoesE Tryz.prog 88 [.ptr 0 0 0] [rdR rows p] [.ptr 0 0 0] (fun x H=> ∃(k:Int) (path pt:List UInt8) (a:Int) (text:List UInt8) (p':Nat),path.length<=12/\pt.length<=12/\text.length<=1000000/\p'<=p+200/\x= .d (dOpI k path pt a text)/\H=[rdR rows p']):=by
 obtain⟨v,hv,hvl⟩:=Qft hr p (n:=12) (by decide);have c1:=ePick rows hr p (by omega) 12 (by decide);rw[hv] at c1;obtain⟨kd,hkd⟩: ∃kd,([1,1,2,2,3,3,3,4,5,6,7,7].map fun z=>[dI z])[(v:Int).toNat]? =some [dI kd]:=⟨_,QdT (f:=fun z=>[dI z]) _ 0 (n:=12) rfl (by omega)⟩;have c2:=ePath rows hr (p+1) (by omega);have b0:([]:List UInt8).length<=12:=by decide
 have b1:([]:List UInt8).length<=1000000:=by decide
 refine kH fun gvs=>?_
 repeat' first|refine kS ?_|(show AWP _ (.region 1 _ _) _ _;refine(Fk.awp_drawG (id:=1) [0,1,3,4,5,8] [2,6,9] [(8,.row 0 zOp)] [] 2 6 (.d (dI v)) ?_))|refine(Fk.aw_fltA 2 ?_)|refine(Fk.aw_fltL (ho:=rfl) (hk:=rfl) (hl:=fun H=>Qd0 Ty.h rfl Ty.h) (k:=?_))|refine(Fk.aw_fltL (ho:=rfl) (hk:=rfl) (hl:=fun H=>QcV Ty.h rfl Ty.h rfl rfl rfl (by omega) hkd) (k:=?_))|refine(Fk.aw_planC0 (by rfl) (by kernel_rfl) rfl ?_)|refine Fk.aw_callM [0] c1 cK (k:=kY ?_)|(refine Fk.aw_callM [0] c2 cK (k:=?_);rintro _ _ ⟨s,hs,rfl,rfl⟩;refine Fk.aw_nrmM (k:=?_))|(refine aw_pk 0 hr (kk:=?_);intro v hv)|(refine QA [0] (ePath rows hr _ ?_) cK (k:=?_);omega;rintro _ _ ⟨s,hs,rfl,rfl⟩;refine Qd1 (k:=?_))|(refine QA [0] (eText rows hr _ ?_ 24 (by decide)) cK (k:=?_);omega;rintro _ _ ⟨s,p1,hs,hp1,rfl,rfl⟩;refine Qd1 (k:=?_))|(refine QA [] (eMany6 [117] (24+v) ?_ (by decide) ?_) cK (k:=?_);(simp only[List.length_cons,List.length_nil];omega);omega;rintro _ _ ⟨s,hs,rfl,rfl⟩;refine Qd1 (k:=?_))|refine qS (Qd0 Ty.h rfl Ty.h) ?_|refine qS (QcV Ty.h rfl Ty.h rfl rfl rfl (by omega) (QdT (f:=fun z=>[dI z]) [0,1,5,12,13,24,40,100,180] 0 (n:=9) rfl (by omega))) ?_|refine qS (QcV Ty.h rfl Ty.h rfl rfl rfl (by omega) (QdT (f:=fun z=>[dI z]) [0,1,5,12,13,25,60,192] 0 (n:=8) rfl (by omega))) ?_|refine qS (QcV Ty.h rfl Ty.h rfl rfl rfl (by omega) (QdT (f:=fun z=>[dI z]) [0,8,-1,3] 0 (n:=4) rfl (by omega))) ?_|refine qS (QcV Ty.h rfl Ty.h rfl rfl rfl (by omega) (QdT (f:=fun z=>[dI z]) [-1,193,192] 0 (n:=3) rfl (by omega))) ?_|refine kU ?_|refine kV ?_ ?_<;>intro q|fail
 all_goals first|refine Q1 1 (hx:=?_);exact⟨_,_,_,_,_,_,by omega,by omega,by omega,by omega,rfl,rfl⟩|refine Q1 1 (hx:=?_);exact⟨_,_,[],_,_,_,by omega,b0,by omega,by omega,rfl,rfl⟩|refine Q1 1 (hx:=?_);exact⟨_,_,_,_,[],_,by omega,by omega,b1,by omega,rfl,rfl⟩|refine Q1 1 (hx:=?_);exact⟨_,_,[],_,[],_,by omega,b0,b1,by omega,rfl,rfl⟩

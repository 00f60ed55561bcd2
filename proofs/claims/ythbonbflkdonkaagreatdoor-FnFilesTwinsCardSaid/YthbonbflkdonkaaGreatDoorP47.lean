/- Of ftw_card; no condition. -/
import Derived.Test.YthbonbflkdonkaaGreatDoorP46
set_option linter.all false
set_option maxRecDepth 100000
set_option maxHeartbeats 16000000
open List renaming length_take_le->A0,length_map->A3,length_append->A4,length_cons->A5,length_nil->A6,nil_append->A8
open Nat renaming le_trans->A1,le_of_ble_eq_true->A2,zero_le->A7
namespace Go.Proofs.YthbonbflkdonkaaGreatDoor
noncomputable section
open Go.RowKit
namespace Aw
def ptr_cells(a b c d e:Int): ∀r∈[[dI a,dI b,dI c,dI d,dI e]],∀q∈r,q.cell=true:=by
 intro r hr q hq;rw[List.mem_singleton.1 hr] at hq;simp only[List.mem_cons,List.not_mem_nil,or_false] at hq;rcases hq with rfl|rfl|rfl|rfl|rfl<;>rfl
def ptr_one(a b c d e:Int):[[dI a,dI b,dI c,dI d,dI e]]=[(⟨a,b,c,d,e⟩:Pl.Ptr)].map rPtr:=rfl
def Qg4:D.sl true 5 []=D.sl true 5 (([]:List Pl.Ptr).map rPtr):=rfl
def Qt4{x:AV}{a:List (List UInt8)}{b c:List Int}{t k:Int}{g l:List Pl.Ptr}{m:Bool}{p p':Nat}{H:List Blk}{rows:List (List D)}(hx:x= .d (tSt (a,(b,c),t,g,k,l,m)))(hH:H=[rdR rows p'])(h1:b.length<=Pm.big)(h2:c.length<=Pm.big)(h3:g.length<=1000000000000)(h4:l.length<=1000000000000)(hp:p'<=p+60):
 ∃(s:Pm.Store) (p':Nat),QbL s/\p'<=p+60/\x= .d (tSt s)/\H=[rdR rows p']:=⟨_,p',⟨h1,h2,h3,h4⟩,hp,hx,hH⟩
attribute [local irreducible] ASeq ADraw AWP Loc AStep Fg.PlanF Fg.Flts EndR Fk.PlanF Fk.Flts Fk.AStepM Fk.Grew Fk.Gs
def eHurt(rows:List (List D))(hr:RdOk rows)(p:Nat)(hp:p<=700000)(w:Pl.Sto)(N:Nat)(hN:N<=30000)(hw:w.W N):
 DoesE Tryz.prog 23 [.ptr 0 0 0,.d (tSt w.st)] [rdR rows p] [.ptr 0 0 0] (fun x H=> ∃(s:Pm.Store) (p':Nat),QbL s/\p'<=p+60/\x= .d (tSt s)/\H=[rdR rows p']):=by
 obtain⟨v1,e1,l1⟩:=QfN hr p (n:=6) (by decide);have c1:=ePick rows hr p (by omega) 6 (by decide);rw[e1] at c1;obtain⟨v2,e2,l2⟩:=QfN hr (p+1) (n:=9) (by decide);have c2:=ePick rows hr (p+1) (by omega) 9 (by decide);rw[e2] at c2;obtain⟨v3,e3,l3⟩:=QfN hr (p+1+1) (n:=3) (by decide);have c3:=ePick rows hr (p+1+1) (by omega) 3 (by decide);rw[e3] at c3;clear e1 e2 e3;have cC:=dCopy w N (by omega) hw;have hx:=hw.txg;have hT:=hw.txg;have hRL:=hw.rows;have hFL:=hw.refs;have hLL:=hw.last;have hM:=hw.many;have hS:=Qj0 (l:=w.rows) (a:=8+v1) (by omega);have sS:=fun y=>QnJ (l:=w.rows) (a:=8+v1) (x:=w.rows.getD (8+v1) []) (y:=y)
 have hS2:=Qj0 (l:=w.rows) (a:=2) (by omega);have sS2:=fun y=>QnJ (l:=w.rows) (a:=2) (x:=w.rows.getD 2 []) (y:=y)
 have hF:=QfL (l:=w.refs) (a:=8+v1) (by omega);have sF:=fun y=>Qj1 (l:=w.refs) (a:=8+v1) (x:=w.refs.getD (8+v1) 0) (y:=y)
 have bF:=hw.ref _ (Pl.QdQ (d:=0) (show 8+v1<w.refs.length by omega));have hL:=QfL (l:=w.last) (a:=8+v1) (by omega);have sL:=fun y=>Qj1 (l:=w.last) (a:=8+v1) (x:=w.last.getD (8+v1) 0) (y:=y)
 have rB:(([-1,w.txg,w.txg -1]:List Int).map fun z=>[dI z])[((v3:Nat):Int).toNat]? =some _:=Qei (f:=fun z=>[dI z]) _ 0 (n:=3) rfl (by omega);have rA:(([0,900,901]:List Int).map fun z=>[dI z])[((v3:Nat):Int).toNat]? =some _:=Qei (f:=fun z=>[dI z]) _ 0 (n:=3) rfl (by omega);generalize ([-1,w.txg,w.txg -1]:List Int).getD v3 0=yB at*;generalize ([0,900,901]:List Int).getD v3 0=yA at*;generalize w.refs.getD (8+v1) 0=xF at*;clear hx;refine kH fun gvs=>?_
 repeat' first|refine kS ?_|refine(QkT (ds:=[dSt w.st]) cC cK rfl rfl (QmW _ _) (hH:=by intro R hR;simp only[hS,List.cons_append,A8];exact hR) (k:=?_))|refine QC [0] c1 cK (k:=kX ?_)|refine QC [0] c2 cK (k:=kX ?_)|refine QC [0] c3 cK (k:=kX ?_)|refine qD (QdO Ty.h rfl Ty.h) ?_|refine qS (QdO Ty.h rfl Ty.h) ?_|refine qS (iy rA) ?_|refine qD (iy rB) ?_|(show AWP _ (.region 8 _ _) _ _;refine(Fk.awp_drawF (id:=8) [0,1,2,3,4,5,6,10] [7,11] [] [(1,_)] ?_))|(show AWP _ (.region 10 _ _) _ _;refine(Fk.awp_drawF (id:=10) [0,1,2,3,5] [4,6] [] [(1,_),(3,_)] ?_))|(show AWP _ (.region 14 _ _) _ _;refine(Fk.awp_drawF (id:=14) [0,1,2,6] [3,5,7] [] [(1,_)] ?_))|(show AWP _ (.region 16 _ _) _ _;refine(Fk.awp_drawF (id:=16) [0,1,2,6] [3,5,7] [] [(1,_)] ?_))|(show AWP _ (.region 12 _ _) _ _;refine(Fg.awp_drawF (id:=12) [] [12] ?_))|refine(Fk.aw_fltK 1 (hl:=fun H hH=>Qf3 Ty.h rfl hH rfl rfl) (k:=?_))|refine(Fk.aw_fltK 1 (hl:=fun H hH=>Qde Ty.h rfl hH rfl) (k:=?_))|refine(Fk.aw_fltL (hl:=fun H=>Qhx rfl rfl (by omega)) (k:=?_))|refine(Fk.aw_fltL (ho:=rfl) (hk:=rfl) (hl:=fun H=>QdO Ty.h rfl Ty.h) (k:=?_))|refine(Fk.aw_fltK 3 (C:= .arr 1 1 9 (rS w.rows)) (ho:=rfl) (hk:=rfl) (hl:=fun H hH=>Qdv Ty.h rfl Ty.h rfl rfl hH rfl (by omega) (by omega)) (k:=?_))|(show Fk.PlanF _ _ _ _ _ _ _ _ _;refine Fk.aw_planFC ?_)|(show Fk.PlanF _ _ _ _ _ _ _ _ _;refine Fk.aw_planFN ?_)|refine Fk.aw_callM [0] c3 cK (k:=kY ?_)|(refine Fk.aw_callM [0] (eText rows hr _ ?_ 9 (by decide)) cK (k:=?_);omega;rintro _ _ ⟨s,p1,hs,hp1,rfl,rfl⟩;refine Fk.aw_nrmM (k:=?_))|(refine Fk.aw_callM [0] (ePtrD rows hr _ ?_) cK (k:=?_);omega;rintro _ _ ⟨a,b,c,d,e,p1,hp1,rfl,rfl⟩;refine Fk.aw_nrmM (k:=?_))|refine(Fk.aw_appM (by kernel_rfl) Ty.h rfl Ty.h (hcell:=?_) (hb:=?_) (kk:=?_))|refine qD (Qdg Ty.h rfl rfl hF rfl) ?_|refine(Qmi Ty.h rfl rfl hS (sS _) (kk:=?_))|refine(Qmi Ty.h rfl rfl hF (sF _) (kk:=?_))|refine(QhT Ty.h rfl rfl hL (sL _) (kk:=?_))|refine(QhT Ty.h rfl rfl hS2 (sS2 _) (kk:=?_))|refine qS (QlE rfl rfl rfl rfl rfl (by omega) (by omega)) ?_|refine kU ?_|refine kV ?_ ?_<;>intro q|fail
 all_goals first
  |exact ptr_cells _ _ _ _ _
  |(show((w.gone.map rPtr).length+1)*40<=140737488355328;rw[A3];omega)
  |(show(0+1)*40<=140737488355328;decide)
  |(refine Qa 3 (h:=?_)
    refine Qa 4 (h:=?_);refine Qa 5 (h:=?_);refine Qa 6 (h:=?_);refine Qa 7 (h:=?_);refine Q1 1 (hx:=?_)
    exact Qt4 (by simp only[List.take_nil,Qg4,ptr_one,A8,<-List.map_append,<-List.map_take,<-List.map_drop];rfl) rfl (by first|exact A7 _|exact A2 rfl|exact A1 (A0 _ _) (by decide)|(refine A1 (A0 _ _) ?_;first|omega|(simp only[A3,A4,A5,A6];omega))) (by first|exact A7 _|exact A2 rfl|exact A1 (A0 _ _) (by decide)|(refine A1 (A0 _ _) ?_;first|omega|(simp only[A3,A4,A5,A6];omega))) (by first|exact A7 _|exact A2 rfl|exact A1 (A0 _ _) (by decide)|(refine A1 (A0 _ _) ?_;first|omega|(simp only[A3,A4,A5,A6];omega))) (by first|exact A7 _|exact A2 rfl|exact A1 (A0 _ _) (by decide)|(refine A1 (A0 _ _) ?_;first|omega|(simp only[A3,A4,A5,A6];omega))) (by omega))
  |skip
 all_goals first|refine Fk.aw_fltK 3 (C:= .arr 1 1 9 (rS w.rows)) (ho:=rfl) (hk:=rfl) (hl:=fun H hH=>Qdv Ty.h rfl Ty.h rfl rfl hH rfl (by omega) (by omega)) (k:=?_)

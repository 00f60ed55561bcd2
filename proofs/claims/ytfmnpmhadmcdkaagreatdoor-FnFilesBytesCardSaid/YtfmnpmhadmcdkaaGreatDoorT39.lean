/- Of fby_card; no condition. -/
import Derived.Test.YtfmnpmhadmcdkaaGreatDoorT35
set_option linter.all false
set_option maxRecDepth 100000
set_option maxHeartbeats 16000000
open Go.Proofs.Tryz renaming prog->A0,call148->A1,call152->A2
namespace Go.Proofs.YtfmnpmhadmcdkaaGreatDoor
noncomputable section
open Go.RowKit
namespace Aw
variable{b:Bool}{c:Int}
def Qcg(c:Int):Int:=if c=0 then 7 else c
abbrev oS5(g:Nat)(w:Pl.Sto):AV:= .agg [.osl 5 1 0 64,.osl 6 1 0 64,.osl 7 1 0 64,.d (dI w.txg),.osl 8 g 0 w.gone.length,.d (dI 0),.osl 9 1 0 0,.d (dB w.same)]
abbrev CallsTo(f:FuncId):Prop:= ∀args w,(callFunc f args).run A0 w= .ok (.enter f args) w
theorem neq_no(h1:(c==0)=b)(h2:(c !=0)=b):False:=by
 grind
theorem no_full(h:b=true): ¬(c=0/\b=false):=by grind
theorem no_code(h:(c==0)=false): ¬(c=0/\b=false):=by grind
attribute [local irreducible] ASeq ADraw AWP Loc AStep Fg.PlanF Fg.Flts EndR Fk.PlanF Fk.Flts Fk.AStepM Fk.Grew Fk.Gs
def eDo(g:Nat)(w:Pl.Sto)(N:Nat)(hN:N<=400000)(hw:w.W N)(t:Pl.Tree)(hFs:QbE w t)(hm:1<=t.many)(o:QbF)(hk:1<=o.kind/\o.kind<=7)(hp:o.path.length<=900)(hp2:o.pto.length<=900)(hb:(QK o.path).length<=4)(hb2:o.kind=6∨o.kind=7->(QK o.pto).length<=4)
 (ha:o.at'<=1000) (htx:o.text.length<=1000):
 DoesE A0 87 [oS g w,.d (dTree t),.d (dOp o)] (hS g w) (gS g w) (fun x H=>
  (Qct (Qbt (w,t,false) o)/\x= .tup [oS5 2 (Qbt (w,t,false) o).1.1,.d (dTree (Qbt (w,t,false) o).1.2.1),.d (dI 0)]/\H=hS g w++hS 2 (Qbt (w,t,false) o).1.1)∨
  (¬Qct (Qbt (w,t,false) o)/\x= .tup [oS g w,.d (dTree t),.d (dI (Qcg (Qbt (w,t,false) o).2))]/\H=hS g w)):=by
 have hT:=hFs.tr.good;have hFk:QbV (w,t,false):=fun _=>⟨hFs,hm⟩
 have hW:=QtY (f:=(w,t,false)) hw hFk rfl o;have cC:=dCopy w N (by omega) hw;have hx:=fun h0 h1=>Qrd (f:=(w,t,false)) hw hFk rfl (path:=o.path) h0 h1
 obtain⟨kind,path,pt,a,text⟩:=o;simp only at hk hp hp2 hb hb2 ha htx hx;have hc: ∃r:Q4×Int,Qbt (w,t,false) ⟨kind,path,pt,a,text⟩=r:=⟨_,rfl⟩;obtain⟨⟨⟨w2,t2,full2⟩,c2⟩,hr⟩:=hc;rw[hr] at hW⊢
 have key:(kind=1/\CallsTo 148/\DoesE A0 148 [.ptr 5 0 0,.d (dS path),.d (dI 1)] (hF 1 (w,t,false)) (gF 1 w) (fun x H=>x= .d (dI c2)/\H=hF 2 (w2,t2,full2)))∨
  (kind=2/\CallsTo 148/\DoesE A0 148 [.ptr 5 0 0,.d (dS path),.d (dI 2)] (hF 1 (w,t,false)) (gF 1 w) (fun x H=>x= .d (dI c2)/\H=hF 2 (w2,t2,full2)))∨
  (kind=5/\CallsTo 149/\DoesE A0 149 [.ptr 5 0 0,.d (dS path)] (hF 1 (w,t,false)) (gF 1 w) (fun x H=>x= .d (dI c2)/\H=hF 2 (w2,t2,full2)))∨
  (kind=6/\CallsTo 150/\DoesE A0 150 [.ptr 5 0 0,.d (dS path),.d (dS pt)] (hF 1 (w,t,false)) (gF 1 w) (fun x H=>x= .d (dI c2)/\H=hF 2 (w2,t2,full2)))∨
  (kind=7/\CallsTo 151/\DoesE A0 151 [.ptr 5 0 0,.d (dS path),.d (dS pt)] (hF 1 (w,t,false)) (gF 1 w) (fun x H=>x= .d (dI c2)/\H=hF 2 (w2,t2,full2)))∨
  (kind=3/\CallsTo 152/\DoesE A0 152 [.ptr 5 0 0,.d (dOp ⟨3,path,pt,a,text⟩)] (hF 1 (w,t,false)) (gF 1 w) (fun x H=>x= .d (dI c2)/\H=hF 2 (w2,t2,full2)))∨
  (kind=4/\CallsTo 152/\DoesE A0 152 [.ptr 5 0 0,.d (dOp ⟨4,path,pt,a,text⟩)] (hF 1 (w,t,false)) (gF 1 w) (fun x H=>x= .d (dI c2)/\H=hF 2 (w2,t2,full2))):=by
  unfold Qbt at hr;have hk7:kind=1∨kind=2∨kind=5∨kind=6∨kind=7∨kind=3∨kind=4:=by omega
  rcases hk7 with rfl|rfl|rfl|rfl|rfl|rfl|rfl
  ·refine .inl ⟨rfl,A1,?_⟩
   have c:=eMakeF 1 (w,t,false) N (by omega) hw hT path hp hb 1;rw[show QbA (w,t,false) path 1=((w2,t2,full2),c2) from hr] at c;exact c
  ·refine .inr (.inl ⟨rfl,A1,?_⟩)
   have c:=eMakeF 1 (w,t,false) N (by omega) hw hT path hp hb 2;rw[show QbA (w,t,false) path 2=((w2,t2,full2),c2) from hr] at c;exact c
  ·refine .inr (.inr (.inl ⟨rfl,Tryz.call149,?_⟩))
   have c:=eDropF 1 (w,t,false) N (by omega) hw hT path hp hx;rw[show QbJ (w,t,false) path=((w2,t2,full2),c2) from hr] at c;exact c
  ·refine .inr (.inr (.inr (.inl ⟨rfl,Tryz.call150,?_⟩)))
   have c:=eLinkF 1 (w,t,false) N (by omega) hw hT path pt hp hp2 (hb2 (.inl rfl));rw[show QbI (w,t,false) path pt=((w2,t2,full2),c2) from hr] at c;exact c
  ·refine .inr (.inr (.inr (.inr (.inl ⟨rfl,Tryz.call151,?_⟩))))
   have c:=eMoveF 1 (w,t,false) N (by omega) hw hT path pt hp hp2 (hb2 (.inr rfl));rw[show QbH (w,t,false) path pt=((w2,t2,full2),c2) from hr] at c;exact c
  ·refine .inr (.inr (.inr (.inr (.inr (.inl ⟨rfl,A2,?_⟩)))))
   have c:=QnQ 1 (w,t,false) N (by omega) hw hT ⟨3,path,pt,a,text⟩ hp (by show a<=1000000;omega) (by show text.length<=1000000;omega);rw[show Qbb (w,t,false) ⟨3,path,pt,a,text⟩=((w2,t2,full2),c2) from hr] at c;exact c
  ·refine .inr (.inr (.inr (.inr (.inr (.inr ⟨rfl,A2,?_⟩)))))
   have c:=QnQ 1 (w,t,false) N (by omega) hw hT ⟨4,path,pt,a,text⟩ hp (by show a<=1000000;omega) (by show text.length<=1000000;omega);rw[show Qbb (w,t,false) ⟨4,path,pt,a,text⟩=((w2,t2,full2),c2) from hr] at c;exact c
 have v0:w2.rows.length=w.rows.length:=by rw[hW.rows,hw.rows]
 have v1:w2.refs.length=w.refs.length:=by rw[hW.refs,hw.refs]
 have v2:w2.last.length=w.last.length:=by rw[hW.last,hw.last]
 have hf1:c2=0->full2=false->Qct ((w2,t2,full2),c2):=fun h1 h2=>⟨h1,h2⟩
 have hf2: ¬(c2=0/\full2=false)-> ¬Qct ((w2,t2,full2),c2):=fun h1 h2=>h1 h2
 have hc0:c2=0->Qcg c2=7:=fun h=>by unfold Qcg;rw[if_pos h]
 have hc1:c2≠0->Qcg c2=c2:=fun h=>by unfold Qcg;rw[if_neg h]
 clear hr hW hx hFk hb hb2 hm hk;generalize Qcg c2=cc at*;generalize Qct ((w2,t2,full2),c2)=fin at*;simp only;rcases key with⟨rfl,cF,cA⟩|⟨rfl,cF,cA⟩|⟨rfl,cF,cA⟩|⟨rfl,cF,cA⟩|⟨rfl,cF,cA⟩|⟨rfl,cF,cA⟩|⟨rfl,cF,cA⟩
 all_goals
  refine kH fun gvs=>?_
  refine Qa 6 (h:=?_);refine Qa 7 (h:=?_)
  repeat' first|refine kS ?_|(show AWP _ (.region 1 _ _) _ _;refine(Fg.awp_drawF (id:=1) [2] [1] ?_))|refine(Qpt (ds:=[]) cC cK hw rfl (QmC _ _) (k:=?_))|refine Qdg [10,11,12,13,14,15] cA cF (k:=kX ?_)|(show AWP _ (.region 18 _ _) _ _;refine(Fg.awp_drawF (id:=18) [1,2] [3,4] ?_))|(show AWP _ (.region 19 _ _) _ _;refine(Fk.awp_drawF (id:=19) [4,5,6,7,8] [9,10] [] [(15,_)] ?_))|refine(Fk.aw_fltK 15 (hl:=fun H hH=>QgG rfl hH) (k:=?_))|refine(Fk.aw_fltK 15 (hl:=fun H hH=>Qfw Ty.h rfl hH rfl rfl) (k:=?_))|refine(Fk.aw_fltK 15 (hl:=fun H hH=>QcW Ty.h rfl hH rfl) (k:=?_))|(show Fk.PlanF _ _ _ _ _ _ _ _ _;refine Fk.aw_planFC ?_)|(show Fk.PlanF _ _ _ _ _ _ _ _ _;refine Fk.aw_planFN ?_)|refine kU ?_|refine kV ?_ ?_<;>intro q|fail
  all_goals first
   |exact(neq_no (by assumption) (by assumption)).elim
   |(refine QN 5 (hx:=?_);exact .inr ⟨hf2 (no_full (by assumption)),by rw[hc0 (eq_of_beq (by assumption))];rfl,rfl⟩)
   |(refine QN 5 (hx:=?_);exact .inr ⟨hf2 (no_code (by assumption)),by rw[hc1 (ne_of_beq_false (by assumption))];rfl,rfl⟩)
   |(refine QdI [6,7,8,1000000] [0,1,2,3,4,10,11,12,13,14,8,9] (env':=[(6,.ptr 10 0 0),(7,.ptr 11 0 0),(8,.d (dI c2)),(1000000,.gh (gS g w) gvs)]) (H':=hS g w++hS 2 w2++[.row 0 [.osl 5 1 0 64,.osl 6 1 0 64,.osl 7 1 0 64,.d (dI w2.txg),.osl 8 2 0 w2.gone.length,.d (dI 0),.osl 9 1 0 0,.d (dB w2.same)],.row 0 [.d (dI t2.root.pat),.d (dI t2.root.birth),.d (dI t2.root.size),.d (dI t2.root.sum),.d (dI t2.root.level),.d (dI t2.depth),.d (dI t2.many)]]) (h:=?_)
     refine QN 10 (hx:=?_)
     exact .inl ⟨hf1 (eq_of_beq (by assumption)) (by assumption),by rw[show c2=0 from eq_of_beq (by assumption)];rfl,rfl⟩)

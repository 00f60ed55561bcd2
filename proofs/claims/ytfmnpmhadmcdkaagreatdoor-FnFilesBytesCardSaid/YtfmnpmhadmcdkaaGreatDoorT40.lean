/- Of fby_card; no condition. -/
import Derived.Test.YtfmnpmhadmcdkaaGreatDoorT36
import Derived.Test.YtfmnpmhadmcdkaaGreatDoorT38
import Derived.Test.YtfmnpmhadmcdkaaGreatDoorT39
set_option linter.all false
set_option maxRecDepth 100000
set_option maxHeartbeats 16000000
open Bool renaming false_eq_true->A5
open Go.Proofs.Tryz renaming prog->A0
open List renaming take_of_length_le->A1,take_nil->A2,map_take->A3,getElem?_eq_getElem->A4,length_map->A7
open Nat renaming le_trans->A6
namespace Go.Proofs.YtfmnpmhadmcdkaaGreatDoor
noncomputable section
open Go.RowKit
namespace Aw
variable{t:Pl.Tree}
attribute [local irreducible] ASeq ADraw AWP Loc AStep Fg.PlanF Fg.Flts EndR Fk.PlanF Fk.Flts Fk.AStepM Fk.Grew Fk.Gs
def do_or(g:Nat)(w:Pl.Sto)(N:Nat)(hN:N<=400000)(hw:w.W N)(t:Pl.Tree)(hFs:QbE w t)(hm:1<=t.many)(o:QbF)(ho:QcM o):
 (∃(w2:Pl.Sto) (t2:Pl.Tree),w2.W (N+600)/\QbE w2 t2/\1<=t2.many/\DoesE A0 87 [oS g w,.d (dTree t),.d (dOp o)] (hS g w) (gS g w) (fun x H=>x= .tup [oS5 2 w2,.d (dTree t2),.d (dI 0)]/\H=hS g w++hS 2 w2))∨
 (∃c:Int,DoesE A0 87 [oS g w,.d (dTree t),.d (dOp o)] (hS g w) (gS g w) (fun x H=>x= .tup [oS g w,.d (dTree t),.d (dI c)]/\H=hS g w)):=by
 obtain⟨h1,h2,h3,h4,h5,h6,h7⟩:=ho;have c:=eDo g w N hN hw t hFs hm o h1 h2 h3 h4 h5 h6 h7
 by_cases hf:Qct (Qbt (w,t,false) o)
 ·obtain⟨k1,k2⟩:=fdo_k hFs hm hf
  exact .inl ⟨_,_,QtY (f:=(w,t,false)) hw (fun _=>⟨hFs,hm⟩) rfl o,k1,k2,c.mono fun x H h=>h.elim (fun e=>e.2) fun e=>absurd hf e.1⟩
 ·exact .inr ⟨_,c.mono fun x H h=>h.elim (fun e=>absurd e.1 hf) fun e=>e.2⟩
def Qqp(g:Nat)(w:Pl.Sto)(N:Nat)(hN:N<=400000)(hw:w.W N)(t:Pl.Tree)(hFs:QbE w t):
 ∃w3:Pl.Sto,w3.W (N+1)/\QbE w3 t/\DoesE A0 90 [oS g w] (hS g w) (gS g w) (fun x H=>x= .agg [.osl 0 1 0 64,.osl 1 1 0 64,.osl 2 1 0 64,.d (dI w3.txg),.osl 5 0 0 w3.gone.length,.d (dI 0),.osl 4 1 0 0,.d (dB w3.same)]/\
  H=[.arr 1 1 9 (rS w3.rows),.arr 1 1 3 (rI w3.refs),.arr 1 1 3 (rI w3.last),.arr g 5 31 (w.gone.map rPtr),.arr 1 5 31 [],.arr 0 5 31 (w3.gone.map rPtr)]):=by
 obtain⟨h1,h2⟩:=Fs_next hw hFs;refine⟨w.next,h2,h1,(eNext g w N hN hw).mono fun x H h=>?_⟩;rw[show w.next.same=w.same from(Pl.Qfh w.gone w).2.2];exact h
def eFiles(rows:List (List D))(hr:RdOk rows)(p:Nat)(hp:p<=600000):
 DoesE A0 44 [.ptr 0 0 0] [rdR rows p] [.ptr 0 0 0] (fun x H=> ∃(g:Nat) (w:Pl.Sto) (t:Pl.Tree) (p':Nat),w.W 20000/\QbE w t/\1<=t.many/\p'<=p+4000/\x= .tup [.agg (rwS 1 2 3 4 5 g w),.d (dTree t)]/\H=rdR rows p'::hS g w):=by
 refine kH fun gvs=>?_
 repeat' first|refine kS ?_|(refine aw_pk 0 hr (kk:=?_);intro v hv)|refine QA [] (Qrs _) cK (k:=kX ?_)|(refine QA [] (Qru _) cK (k:=?_);rintro _ _ ⟨w,t,hW,hF,hm,rfl,rfl⟩;refine Qd1 (k:=?_))|(refine QA [] eFirst cK (k:=?_);rintro _ _ ⟨L,hL,hLf,rfl,rfl⟩;refine Qd1 (k:=?_))|refine kU ?_|fail
 rename_i hv;have hv2:v<=6:=by omega
 obtain⟨p1,hp1⟩: ∃q,p+1+1=q:=⟨_,rfl⟩;rw[hp1];refine QdI [0,2,3,4,5,7,8,1000000] [0,1,2,3,4,5,6,7,8,9] (env':=[(0,.ptr 0 0 0),(2,.ptr 1 0 0),(3,.ptr 2 0 0),(4,.ptr 8 0 0),(5,.ptr 9 0 0),(7,.d (.sl true 5 (L.map rOp))),(8,.d (dI v)),(1000000,.gh [.ptr 0 0 0] gvs)]) (H':=hD rows p1 2 w t) (h:=?_)
 refine Qo (fun m st=> ∃(g:Nat) (w:Pl.Sto) (t:Pl.Tree),m<=6/\w.W (16+600*(6 -m))/\QbE w t/\1<=t.many/\
  st=⟨69,[(0,.ptr 0 0 0),(2,.ptr 1 0 0),(3,.ptr 2 0 0),(4,.ptr 8 0 0),(5,.ptr 9 0 0),(7,.d (.sl true 5 (L.map rOp))),(8,.d (dI m)),(1000000,.gh [.ptr 0 0 0] gvs)],hD rows p1 g w t⟩) [0,2,3,4,5,7,8,1000000] 10 v ⟨2,w,t,by omega,hW.le (by omega),hF,hm,rfl⟩ (round:=?_)
 clear hW hF hm hv hv2;clear w t v;rintro m st ⟨g,w,t,hm6,hW,hF,hm,rfl⟩
 repeat refine kG ?_
 cases q3:decide ((m:Int)>0)
 ·clear q3
  repeat' first|refine kS ?_|(refine aw_pk 0 hr (kk:=?_);intro v hv)|refine kU ?_|fail
  have hv2:v<=11:=by omega
  refine QdI [0,2,3,4,5,9,1000000] [0,1,2,3,4,5,6,7,8,9] (env':=[(0,.ptr 0 0 0),(2,.ptr 1 0 0),(3,.ptr 2 0 0),(4,.ptr 8 0 0),(5,.ptr 9 0 0),(9,.d (dI v)),(1000000,.gh [.ptr 0 0 0] gvs)]) (H':=hD rows (p1+1) g w t) (h:=?_)
  refine Qo (fun m st=> ∃(g:Nat) (w:Pl.Sto) (t:Pl.Tree) (p2:Nat),m<=11/\p2<=p1+1+202*(11 -m)/\w.W (3616+601*(11 -m))/\QbE w t/\1<=t.many/\
   st=⟨69,[(0,.ptr 0 0 0),(2,.ptr 1 0 0),(3,.ptr 2 0 0),(4,.ptr 8 0 0),(5,.ptr 9 0 0),(9,.d (dI m)),(1000000,.gh [.ptr 0 0 0] gvs)],hD rows p2 g w t⟩) [0,2,3,4,5,9,1000000] 10 v ⟨g,w,t,_,by omega,by omega,hW.le (by omega),hF,hm,rfl⟩ (round:=?_)
  clear hW hF hm hm6 hv hv2;clear w t g v;rintro m st ⟨g,w,t,p2,hm6,hp2,hW,hF,hm,rfl⟩
  repeat refine kG ?_
  cases q3:decide ((m:Int)>0)
  ·repeat' first|refine kS ?_|(show AWP _ (.region 15 _ _) _ _;refine(Fk.awp_drawF (id:=15) [0,1] [2,3] [] [(8,_),(9,_)] ?_))|refine(Fk.aw_fltK 8 (hl:=fun H hH=>QcW Ty.h rfl hH rfl) (k:=?_))|refine(Fk.aw_fltK 9 (hl:=fun H hH=>QcW Ty.h rfl hH rfl) (k:=?_))|(show Fk.PlanF _ _ _ _ _ _ _ _ _;refine Fk.aw_planFC ?_)|(show Fk.PlanF _ _ _ _ _ _ _ _ _;refine Fk.aw_planFN ?_)|refine kU ?_|fail
   refine QdI [2,3,1000000] [0,3,4,5,6,7,1,2] (env':=[(2,.ptr 6 0 0),(3,.ptr 7 0 0),(1000000,.gh [.ptr 0 0 0] gvs)]) (H':=rdR rows p2::hS g w++[.row 0 (rwS 1 2 3 4 5 g w),.row 0 (rwT t)]) (h:=?_);refine Qdt 6 (hx:=?_);exact⟨g,w,t,p2,hW.le (by omega),hF,hm,by omega,rfl,rfl⟩
  have hm0:0<m:=by simp only[decide_eq_true_eq] at q3;omega
  clear q3;obtain⟨w3,hW3,hF3,cN⟩:=Qqp g w (3616+601*(11 -m)) (by omega) hW t hF
  repeat' first|refine kS ?_|(refine aw_pk 0 hr (kk:=?_);intro v hv)|(refine QA [0] (eOpD rows hr _ ?_) cK (k:=?_);omega;rintro _ _ ⟨k,path,pt,a,text,p3,h1,h2,h3,h4,rfl,rfl⟩;refine Qd1 (k:=?_))|(refine QA [] (eOpOk k path pt a text (by omega) (by omega)) cK (k:=?_);rintro _ _ ⟨b,hb,rfl,rfl⟩;refine Qd1 (k:=?_))|refine Qdg [3,4,5,6,7] cN cK (k:=kX ?_)|refine kU ?_|refine kV ?_ ?_<;>intro q|fail
  all_goals first|refine Qef (m -1) [0,2,3,4,5,9,1000000] [0,1,2,3,4,5,6,7,8,9] (env':=[(0,.ptr 0 0 0),(2,.ptr 1 0 0),(3,.ptr 2 0 0),(4,.ptr 8 0 0),(5,.ptr 9 0 0),(9,.d (dI ((m:Int) -1))),(1000000,.gh [.ptr 0 0 0] gvs)]) (H':=hD rows (p3+1) g w t) (by omega) ⟨g,w,t,(p3+1),by omega,by omega,hW.le (by omega),hF,hm,by rw[show((m -1:Nat):Int)=(m:Int) -1 by omega]⟩|refine Qef (m -1) [0,2,3,4,5,9,1000000] [0,1,2,3,4,5,11,7,8,9] (env':=[(0,.ptr 0 0 0),(2,.ptr 1 0 0),(3,.ptr 2 0 0),(4,.ptr 8 0 0),(5,.ptr 9 0 0),(9,.d (dI ((m:Int) -1))),(1000000,.gh [.ptr 0 0 0] gvs)]) (H':=hD rows (p3+1) 0 w3 t) (by omega) ⟨0,w3,t,(p3+1),by omega,by omega,hW3.le (by omega),hF3,hm,by rw[show((m -1:Nat):Int)=(m:Int) -1 by omega]⟩|skip
  obtain⟨f1,f2,f3,f4,f5⟩:=hb q;obtain⟨n,rfl⟩: ∃n:Nat,a=n:=⟨a.toNat,by omega⟩;have hoB:QcM ⟨k,path,pt,n,text⟩:=⟨f1,A6 h1 (by decide),A6 h2 (by decide),QjJ f2,fun e=>QjJ (f3 e),(by show n<=1000;omega),A6 f4 (by decide)⟩;clear hb q;rcases do_or g w (3616+601*(11 -m)) (by omega) hW t hF hm _ hoB with⟨w2,t2,hW2,hF2,hm2,cD⟩|⟨c,cD⟩
  ·obtain⟨w4,hW4,hF4,cN2⟩:=Qqp 2 w2 _ (by omega) hW2 t2 hF2
   repeat' first|refine kS ?_|(refine aw_pk 0 hr (kk:=?_);intro v hv)|refine Qdg [3,4,5,6,7] cD cK (k:=kX ?_)|refine Qdg [11,12,13,14,15] cN2 cK (k:=kX ?_)|refine kU ?_|refine kV ?_ ?_<;>intro q|fail
   all_goals first|refine Qef (m -1) [0,2,3,4,5,9,1000000] [0,1,2,11,12,13,14,15,8,9] (env':=[(0,.ptr 0 0 0),(2,.ptr 1 0 0),(3,.ptr 2 0 0),(4,.ptr 8 0 0),(5,.ptr 9 0 0),(9,.d (dI ((m:Int) -1))),(1000000,.gh [.ptr 0 0 0] gvs)]) (H':=hD rows (p3+1) 2 w2 t2) (by omega) ⟨2,w2,t2,(p3+1),by omega,by omega,hW2.le (by omega),hF2,hm2,by rw[show((m -1:Nat):Int)=(m:Int) -1 by omega]⟩|refine Qef (m -1) [0,2,3,4,5,9,1000000] [0,1,2,11,12,13,16,15,8,9] (env':=[(0,.ptr 0 0 0),(2,.ptr 1 0 0),(3,.ptr 2 0 0),(4,.ptr 8 0 0),(5,.ptr 9 0 0),(9,.d (dI ((m:Int) -1))),(1000000,.gh [.ptr 0 0 0] gvs)]) (H':=hD rows (p3+1) 0 w4 t2) (by omega) ⟨0,w4,t2,(p3+1),by omega,by omega,hW4.le (by omega),hF4,hm2,by rw[show((m -1:Nat):Int)=(m:Int) -1 by omega]⟩
  ·repeat' first|refine kS ?_|(refine aw_pk 0 hr (kk:=?_);intro v hv)|refine Qdg [3,4,5,6,7] cD cK (k:=kX ?_)|refine Qdg [3,4,5,6,7] cN cK (k:=kX ?_)|refine kU ?_|refine kV ?_ ?_<;>intro q|fail
   all_goals first|refine Qef (m -1) [0,2,3,4,5,9,1000000] [0,1,2,3,4,5,6,7,8,9] (env':=[(0,.ptr 0 0 0),(2,.ptr 1 0 0),(3,.ptr 2 0 0),(4,.ptr 8 0 0),(5,.ptr 9 0 0),(9,.d (dI ((m:Int) -1))),(1000000,.gh [.ptr 0 0 0] gvs)]) (H':=hD rows (p3+1) g w t) (by omega) ⟨g,w,t,(p3+1),by omega,by omega,hW.le (by omega),hF,hm,by rw[show((m -1:Nat):Int)=(m:Int) -1 by omega]⟩|refine Qef (m -1) [0,2,3,4,5,9,1000000] [0,1,2,3,4,5,11,7,8,9] (env':=[(0,.ptr 0 0 0),(2,.ptr 1 0 0),(3,.ptr 2 0 0),(4,.ptr 8 0 0),(5,.ptr 9 0 0),(9,.d (dI ((m:Int) -1))),(1000000,.gh [.ptr 0 0 0] gvs)]) (H':=hD rows (p3+1) 0 w3 t) (by omega) ⟨0,w3,t,(p3+1),by omega,by omega,hW3.le (by omega),hF3,hm,by rw[show((m -1:Nat):Int)=(m:Int) -1 by omega]⟩
 have hm0:0<m:=by simp only[decide_eq_true_eq] at q3;omega
 obtain⟨o,ho⟩: ∃o,L[L.length -m]? =some o:=⟨L[L.length -m]'(by omega),A4 _⟩;have hoB:=hLf o (List.mem_of_getElem? ho)
 have hget:(L.map rOp)[((L.length:Int) -(m:Int)).toNat]? =some (rOp o):=by
  rw[show((L.length:Int) -(m:Int)).toNat=L.length -m by omega,List.getElem?_map,ho];rfl
 rcases do_or g w (16+600*(6 -m)) (by omega) hW t hF hm o hoB with⟨w2,t2,hW2,hF2,hm2,cD⟩|⟨c,cD⟩
 ·repeat' first|refine kS ?_|(show AWP _ (.region 6 _ _) _ _;refine(Fk.awp_drawG (id:=6) [10,11,12,13] [9,14,15] [] [] 9 40 (.tup [.agg (rwS 10 11 12 13 14 2 w2),.d (dTree t2),.d (dI 0)]) ?_))|(show Fk.PlanF _ _ _ _ _ _ _ _ _;refine Fk.aw_planFC ?_)|(show Fk.PlanF _ _ _ _ _ _ _ _ _;refine Fk.aw_planFN ?_)|refine Fk.aw_callM [3,4,5,6,7] cD cK (k:=kY ?_)|refine qD (iy hget) ?_|refine kU ?_|fail
  refine Qef (m -1) [0,2,3,4,5,7,8,1000000] [0,1,2,10,11,12,13,14,8,9] (env':=[(0,.ptr 0 0 0),(2,.ptr 1 0 0),(3,.ptr 2 0 0),(4,.ptr 8 0 0),(5,.ptr 9 0 0),(7,.d (.sl true 5 (L.map rOp))),(8,.d (dI ((m:Int) -1))),(1000000,.gh [.ptr 0 0 0] gvs)]) (H':=hD rows p1 2 w2 t2) (by omega) ⟨2,w2,t2,by omega,hW2.le (by omega),hF2,hm2,by rw[show((m -1:Nat):Int)=(m:Int) -1 by omega]⟩
 ·repeat' first|refine kS ?_|(show AWP _ (.region 6 _ _) _ _;refine(Fk.awp_drawG (id:=6) [10,11,12,13] [9,14,15] [] [] 9 40 (.tup [.agg (rwS 3 4 5 6 7 g w),.d (dTree t),.d (dI c)]) ?_))|(show Fk.PlanF _ _ _ _ _ _ _ _ _;refine Fk.aw_planFC ?_)|(show Fk.PlanF _ _ _ _ _ _ _ _ _;refine Fk.aw_planFN ?_)|refine Fk.aw_callM [3,4,5,6,7] cD cK (k:=kY ?_)|refine qD (iy hget) ?_|refine kU ?_|fail
  refine Qef (m -1) [0,2,3,4,5,7,8,1000000] [0,1,2,3,4,5,6,7,8,9] (env':=[(0,.ptr 0 0 0),(2,.ptr 1 0 0),(3,.ptr 2 0 0),(4,.ptr 8 0 0),(5,.ptr 9 0 0),(7,.d (.sl true 5 (L.map rOp))),(8,.d (dI ((m:Int) -1))),(1000000,.gh [.ptr 0 0 0] gvs)]) (H':=hD rows p1 g w t) (by omega) ⟨g,w,t,by omega,hW.le (by omega),hF,hm,by rw[show((m -1:Nat):Int)=(m:Int) -1 by omega]⟩
def Qhf{x:AV}{a:List (List UInt8)}{b c:List Int}{tx k:Int}{g l:List Pl.Ptr}{m:Bool}{p p':Nat}{H:List Blk}{rows:List (List D)}(hx:x= .tup [.d (tSt (a,(b,c),tx,g,k,l,m)),.d (dTree t)])(hH:H=[rdR rows p'])(hp:p'<=p+6000)(h1:b.length<=Pm.big:=by first|exact Nat.zero_le _|exact Nat.le_trans (List.length_take_le _ _) (by decide)|(refine Nat.le_trans (List.length_take_le _ _) ?_;omega))(h2:c.length<=Pm.big:=by first|exact Nat.zero_le _|exact Nat.le_trans (List.length_take_le _ _) (by decide)|(refine Nat.le_trans (List.length_take_le _ _) ?_;omega))(h3:g.length<=1000000000000:=by first|exact Nat.zero_le _|exact Nat.le_trans (List.length_take_le _ _) (by decide)|(refine Nat.le_trans (List.length_take_le _ _) ?_;omega))(h4:l.length<=1000000000000:=by first|exact Nat.zero_le _|exact Nat.le_trans (List.length_take_le _ _) (by decide)|(refine Nat.le_trans (List.length_take_le _ _) ?_;omega)):
 ∃(s:Pm.Store) (t:Pl.Tree) (p':Nat),QbQ s/\p'<=p+6000/\x= .tup [.d (tSt s),.d (dTree t)]/\H=[rdR rows p']:=⟨_,t,p',⟨h1,h2,h3,h4⟩,hp,hx,hH⟩
def Qhg{P Q:Prop}(k:Q)(h:Q->P:=by intro k;simp only[AV.mk,List.take_succ_cons,List.take_zero,List.drop_zero,List.set_cons_succ,List.set_cons_zero,List.cons_append,List.nil_append];exact k):P:=h k
def TabQ(rows:List (List D))(p:Nat)(x:AV)(H:List Blk):Prop:= ∃(s:Pm.Store) (t:Pl.Tree) (p':Nat),QbQ s/\p'<=p+6000/\x= .tup [.d (tSt s),.d (dTree t)]/\H=[rdR rows p']
theorem eTable(rows:List (List D))(hr:RdOk rows)(p:Nat)(hp:p<=500000):
 DoesE A0 19 [.ptr 0 0 0] [rdR rows p] [.ptr 0 0 0] (TabQ rows p):=by
 refine kH fun gvs=>?_
 repeat' first|refine kS ?_|(refine QA [0] (eFiles rows hr _ ?_) cK (k:=?_);omega;rintro _ _ ⟨g,w,t,p1,hW,hF,hm,hp1,rfl,rfl⟩;refine Qd1 (k:=?_))|refine kU ?_|fail
 obtain⟨v,ev,lv⟩:=Qft hr p1 (n:=20) (by decide);have c:=ePick rows hr p1 (by omega) 20 (by decide);rw[ev] at c;have hRL:=hW.rows;have hFL:=hW.refs;have hLL:=hW.last;have hGM:=hW.many;obtain rfl|rfl|rfl|rfl|h4:v=0∨v=1∨v=2∨v=3∨4<=v:=by omega
 ·have c0:DoesE A0 21 [.ptr 0 0 0,.d (dI 20)] [rdR rows p1] [.ptr 0 0 0] (fun x H=>x= .d (dI 0)/\H=[rdR rows (p1+1)]):=c
  refine Qeo 3 (h:=?_);refine Qeo 4 (h:=?_);refine Qeo 5 (h:=?_);refine Qeo 6 (h:=?_);refine Qeo 7 (h:=?_);rw[A1 (l:=rS w.rows) (i:=64) (by grind),A1 (l:=rI w.refs) (i:=64) (by grind),A1 (l:=rI w.last) (i:=64) (by grind),A1 (l:=w.gone.map rPtr) (i:=w.gone.length) (by grind)]
  repeat' first|refine kS ?_|refine QA [0] c0 cK (k:=kX ?_)|(show AWP _ (.region 4 _ _) _ _;refine(Fk.awp_drawF (id:=4) [0,1,3] [2,4,5] [] [(8,_),(9,_)] ?_))|refine(Fk.aw_fltK 8 (hl:=fun H hH=>QcW Ty.h rfl hH rfl) (k:=?_))|refine(Fk.aw_fltK 9 (hl:=fun H hH=>QcW Ty.h rfl hH rfl) (k:=?_))|(show Fk.PlanF _ _ _ _ _ _ _ _ _;refine Fk.aw_planFC ?_)|(show Fk.PlanF _ _ _ _ _ _ _ _ _;refine Fk.aw_planFN ?_)|(refine Fk.aw_callM [0] (eHurt rows hr _ ?_ w 20000 (by decide) hW) cK (k:=?_);omega;rintro _ _ ⟨s,p3,hs,hp3,rfl,rfl⟩;refine Fk.aw_nrmM (k:=?_))|refine kU ?_|fail
  all_goals first|exfalso;simp at*;done|refine Qdt 1 (hx:=?_);exact⟨s,t,p3,hs,by omega,rfl,rfl⟩
 ·have c1:DoesE A0 21 [.ptr 0 0 0,.d (dI 20)] [rdR rows p1] [.ptr 0 0 0] (fun x H=>x= .d (dI 1)/\H=[rdR rows (p1+1)]):=c
  obtain⟨k,ek,lk⟩:=Qft hr (p1+1) (n:=6) (by decide);have ck:=ePick rows hr (p1+1) (by omega) 6 (by decide);rw[ek] at ck;have ct:=eTextX rows hr (p1+1+1) (by omega) 6 (by decide);obtain⟨l1,l2⟩:=txt_len hr (p1+1+1) 6;obtain⟨tq,htq⟩: ∃q,Qcl rows (p1+1+1) 6=q:=⟨_,rfl⟩;rw[htq] at ct l1 l2;obtain⟨tx,p2⟩:=tq;simp only at ct l1 l2;have cp:=(ePut g w 20000 (by decide) hW t hF.tr.good k (by omega) tx (by unfold Pm.big;omega)).tag3;have hW2:=(QeV hW hF.tr.good (k:=k) (by omega) tx).1;generalize Qm w t k tx=y at*;obtain⟨w2,t2,ok⟩:=y;simp only at cp hW2;have hGM2:=hW2.many;have v0:w2.rows.length=w.rows.length:=by rw[hW2.rows,hW.rows]
  have v1:w2.refs.length=w.refs.length:=by rw[hW2.refs,hW.refs]
  have v2:w2.last.length=w.last.length:=by rw[hW2.last,hW.last]
  clear htq hW2;cases ok
  ·simp only[A5,if_false] at cp
   repeat' first|refine kS ?_|refine QA [0] c1 cK (k:=kX ?_)|(show AWP _ (.region 6 _ _) _ _;refine(Fk.awp_drawG (id:=6) [0,1,2,4,7,8,9,10,11,12,15] [3,5,6,13,14] [(11,.row 0 rwS0),(12,.row 0 rwT0)] [(8,_),(9,_)] 6 36 (.tup [.agg (rwS 3 4 5 6 7 g w2),.d (dTree t2),.d (dB false)]) ?_))|(show AWP _ (.region 18 _ _) _ _;refine(Fk.awp_drawF (id:=18) [0,1] [2,3] [] [(8,_),(9,_)] ?_))|refine(Fk.aw_fltK 8 (hl:=fun H hH=>QcW Ty.h rfl hH rfl) (k:=?_))|refine(Fk.aw_fltK 9 (hl:=fun H hH=>QcW Ty.h rfl hH rfl) (k:=?_))|refine(Fk.aw_fltA 10 ?_)|refine(Fk.aw_fltA 11 ?_)|(show Fk.PlanF _ _ _ _ _ _ _ _ _;refine Fk.aw_planFC ?_)|(show Fk.PlanF _ _ _ _ _ _ _ _ _;refine Fk.aw_planFN ?_)|refine Fk.aw_callM [0] ck cK (k:=kY ?_)|refine Fk.aw_callM [0] ct cK (k:=kY ?_)|refine Fk.aw_callM [3,4,5,6,7] cp cK (k:=kY ?_)|refine kU ?_|fail
   all_goals first
    |(exfalso;simp at*;done)
    |(refine Qhg ?_
      refine Qa 3 (h:=?_);refine Qa 4 (h:=?_);refine Qa 5 (h:=?_);refine Qa 6 (h:=?_);refine Qa 7 (h:=?_);refine Qdt 1 (hx:=?_)
      exact Qhf (t:=t) (by simp only[A2,Qgr,<-A3];rfl) rfl (by omega))
  ·simp only[if_true] at cp
   repeat' first|refine kS ?_|refine QA [0] c1 cK (k:=kX ?_)|(show AWP _ (.region 6 _ _) _ _;refine(Fk.awp_drawG (id:=6) [0,1,2,4,7,8,9,10,11,12,15] [3,5,6,13,14] [(11,.row 0 rwS0),(12,.row 0 rwT0)] [(8,_),(9,_)] 6 36 (.tup [.agg (rwS 3 4 5 6 7 (g+1) w2),.d (dTree t2),.d (dB true)]) ?_))|(show AWP _ (.region 8 _ _) _ _;refine(Fk.awp_drawF (id:=8) [0,1] [2,3] [] [(10,_),(11,_)] ?_))|refine(Fk.aw_fltK 8 (hl:=fun H hH=>QcW Ty.h rfl hH rfl) (k:=?_))|refine(Fk.aw_fltK 9 (hl:=fun H hH=>QcW Ty.h rfl hH rfl) (k:=?_))|refine(Fk.aw_fltK 10 (hl:=fun H hH=>QcW Ty.h rfl hH rfl) (k:=?_))|refine(Fk.aw_fltK 11 (hl:=fun H hH=>QcW Ty.h rfl hH rfl) (k:=?_))|refine(Fk.aw_fltA 10 ?_)|refine(Fk.aw_fltA 11 ?_)|(show Fk.PlanF _ _ _ _ _ _ _ _ _;refine Fk.aw_planFC ?_)|(show Fk.PlanF _ _ _ _ _ _ _ _ _;refine Fk.aw_planFN ?_)|refine Fk.aw_callM [0] ck cK (k:=kY ?_)|refine Fk.aw_callM [0] ct cK (k:=kY ?_)|refine Fk.aw_callM [3,4,5,6,7] cp cK (k:=kY ?_)|refine kU ?_|fail
   all_goals first
    |(exfalso;simp at*;done)
    |(refine Qhg ?_
      refine Qa 3 (h:=?_);refine Qa 4 (h:=?_);refine Qa 5 (h:=?_);refine Qa 6 (h:=?_);refine Qa 7 (h:=?_);refine Qdt 1 (hx:=?_)
      exact Qhf (t:=t2) (by simp only[A2,Qgr,<-A3];rfl) rfl (by omega))
 ·have c1:DoesE A0 21 [.ptr 0 0 0,.d (dI 20)] [rdR rows p1] [.ptr 0 0 0] (fun x H=>x= .d (dI 2)/\H=[rdR rows (p1+1)]):=c
  have cn:=dNodes w.st hW.good t hF.tr.good;have hnl:(Qk w.st t).length=t.many.toNat:=by unfold Qk;rw[A7,texts_len w.st hF.tr.good]
  have hM2:=hF.tr.good.manyHi;have hnb:=QgC w.st t;generalize Qk w.st t=L at*;obtain⟨v4,e4,l4⟩:=Qft hr (p1+1) (n:=(L.length:Int)) (by omega);have ck:=ePick rows hr (p1+1) (by omega) L.length (by omega);rw[e4] at ck;have hv4:v4<L.length:=by omega
  obtain⟨nd,hnd⟩: ∃nd,L[v4]? =some nd:=⟨_,A4 hv4⟩;have hget:(L.map rNode)[0+((v4:Nat):Int).toNat]? =some (rNode nd):=by grind
  have hlk: -1000<=nd.links/\nd.links<=1000:=by
   have:=hnb v4;rw[List.getD_eq_getElem?_getD,hnd,Option.getD_some] at this;rcases this with e|e
   ·rw[e];decide
   ·have:=e.links;omega
  clear hnb;obtain⟨v5,e5,l5⟩:=Qft hr (p1+1+1) (n:=4) (by decide);have ct:=ePick rows hr (p1+1+1) (by omega) 4 (by decide);rw[e5] at ct;obtain⟨p2,hp2⟩: ∃q,p1+1+1+1=q:=⟨_,rfl⟩;rw[hp2] at ct;have cp:=ePut11 g w 20000 (by decide) hW t hF.tr.good v5 (by omega) {nd with links:=nd.links+1} (QdR _);have hW2:=(QeV hW hF.tr.good (k:=v5) (by omega) (Q6 {nd with links:=nd.links+1})).1;generalize Q6 {nd with links:=nd.links+1}=tx at*;generalize Qm w t v5 tx=y at*;obtain⟨w2,t2,ok⟩:=y;simp only at cp hW2;have hGM2:=hW2.many;have v0:w2.rows.length=w.rows.length:=by rw[hW2.rows,hW.rows]
  have v1:w2.refs.length=w.refs.length:=by rw[hW2.refs,hW.refs]
  have v2:w2.last.length=w.last.length:=by rw[hW2.last,hW.last]
  clear hW2;cases ok
  ·simp only[A5,if_false] at cp
   repeat' first|refine kS ?_|refine QA [0] c1 cK (k:=kX ?_)|(show AWP _ (.region 13 _ _) _ _;refine(Fk.awp_drawG (id:=13) [0,1,2,4,6,7,8,9,10,11,14] [3,5,12,13] [(10,.row 0 rwS0),(11,.row 0 rwT0)] [(8,_),(9,_),(11,_)] 5 65 (.tup [.agg (rwS 3 4 5 6 7 g w2),.d (dTree t2),.d (dB false)]) ?_))|(show AWP _ (.region 18 _ _) _ _;refine(Fk.awp_drawF (id:=18) [0,1] [2,3] [] [(8,_),(9,_)] ?_))|refine(Fk.aw_fltK 8 (hl:=fun H hH=>QcW Ty.h rfl hH rfl) (k:=?_))|refine(Fk.aw_fltK 9 (hl:=fun H hH=>QcW Ty.h rfl hH rfl) (k:=?_))|refine(Fk.aw_fltK 11 (hl:=fun H hH=>QcW Ty.h rfl hH rfl) (k:=?_))|refine(Fk.aw_fltA 12 ?_)|refine(Fk.aw_fltA 13 ?_)|(show Fk.PlanF _ _ _ _ _ _ _ _ _;refine Fk.aw_planFC ?_)|(show Fk.PlanF _ _ _ _ _ _ _ _ _;refine Fk.aw_planFN ?_)|refine QA [0] ck cK (k:=kX ?_)|refine(QdK (ds:=[dTree t]) cn cK hW rfl (Qjr L) (k:=?_))|refine qS (QcY Ty.h rfl rfl hget rfl) ?_|refine Fk.aw_callM [0] ct cK (k:=kY ?_)|refine Fk.aw_callM [3,4,5,6,7] cp cK (k:=kY ?_)|refine kU ?_|fail
   all_goals first
    |(exfalso;simp at*;done)
    |(refine Qhg ?_
      refine Qa 3 (h:=?_);refine Qa 4 (h:=?_);refine Qa 5 (h:=?_);refine Qa 6 (h:=?_);refine Qa 7 (h:=?_);refine Qdt 1 (hx:=?_)
      exact Qhf (t:=t) (by simp only[A2,Qgr,<-A3];rfl) rfl (by omega))
  ·simp only[if_true] at cp
   repeat' first|refine kS ?_|refine QA [0] c1 cK (k:=kX ?_)|(show AWP _ (.region 13 _ _) _ _;refine(Fk.awp_drawG (id:=13) [0,1,2,4,6,7,8,9,10,11,14] [3,5,12,13] [(10,.row 0 rwS0),(11,.row 0 rwT0)] [(8,_),(9,_),(11,_)] 5 65 (.tup [.agg (rwS 3 4 5 6 7 (g+1) w2),.d (dTree t2),.d (dB true)]) ?_))|(show AWP _ (.region 15 _ _) _ _;refine(Fk.awp_drawF (id:=15) [0,1] [2,3] [] [(12,_),(13,_)] ?_))|refine(Fk.aw_fltK 8 (hl:=fun H hH=>QcW Ty.h rfl hH rfl) (k:=?_))|refine(Fk.aw_fltK 9 (hl:=fun H hH=>QcW Ty.h rfl hH rfl) (k:=?_))|refine(Fk.aw_fltK 13 (hl:=fun H hH=>QcW Ty.h rfl hH rfl) (k:=?_))|refine(Fk.aw_fltK 11 (hl:=fun H hH=>QcW Ty.h rfl hH rfl) (k:=?_))|refine(Fk.aw_fltK 12 (hl:=fun H hH=>QcW Ty.h rfl hH rfl) (k:=?_))|refine(Fk.aw_fltA 12 ?_)|refine(Fk.aw_fltA 13 ?_)|(show Fk.PlanF _ _ _ _ _ _ _ _ _;refine Fk.aw_planFC ?_)|(show Fk.PlanF _ _ _ _ _ _ _ _ _;refine Fk.aw_planFN ?_)|refine QA [0] ck cK (k:=kX ?_)|refine(QdK (ds:=[dTree t]) cn cK hW rfl (Qjr L) (k:=?_))|refine qS (QcY Ty.h rfl rfl hget rfl) ?_|refine Fk.aw_callM [0] ct cK (k:=kY ?_)|refine Fk.aw_callM [3,4,5,6,7] cp cK (k:=kY ?_)|refine kU ?_|fail
   all_goals first
    |(exfalso;simp at*;done)
    |(refine Qhg ?_
      refine Qa 3 (h:=?_);refine Qa 4 (h:=?_);refine Qa 5 (h:=?_);refine Qa 6 (h:=?_);refine Qa 7 (h:=?_);refine Qdt 1 (hx:=?_)
      exact Qhf (t:=t2) (by simp only[A2,Qgr,<-A3];rfl) rfl (by omega))
 ·have c3:DoesE A0 21 [.ptr 0 0 0,.d (dI 20)] [rdR rows p1] [.ptr 0 0 0] (fun x H=>x= .d (dI 3)/\H=[rdR rows (p1+1)]):=c
  have hM2:=hF.tr.good.manyHi;have hM3:=hF.tr.good.manyLo
  repeat' first|refine kS ?_|refine QA [0] c3 cK (k:=kX ?_)|(show AWP _ (.region 18 _ _) _ _;refine(Fk.awp_drawF (id:=18) [0,1] [2,3] [] [(8,_),(9,_)] ?_))|refine(Fk.aw_fltK 8 (hl:=fun H hH=>QcW Ty.h rfl hH rfl) (k:=?_))|refine(Fk.aw_fltK 9 (hl:=fun H hH=>QcW Ty.h rfl hH rfl) (k:=?_))|(show Fk.PlanF _ _ _ _ _ _ _ _ _;refine Fk.aw_planFC ?_)|(show Fk.PlanF _ _ _ _ _ _ _ _ _;refine Fk.aw_planFN ?_)|refine kU ?_|fail
  all_goals first
   |(exfalso;simp at*;done)
   |(refine Qhg ?_
     refine Qa 3 (h:=?_);refine Qa 4 (h:=?_);refine Qa 5 (h:=?_);refine Qa 6 (h:=?_);refine Qa 7 (h:=?_);refine Qdt 1 (hx:=?_)
     exact Qhf (t:={t with many:=t.many+1}) (by simp only[A2,Qgr,<-A3];rfl) rfl (by omega))
 ·repeat' first|refine kS ?_|refine QA [0] c cK (k:=kX ?_)|(show AWP _ (.region 18 _ _) _ _;refine(Fk.awp_drawF (id:=18) [0,1] [2,3] [] [(8,_),(9,_)] ?_))|refine(Fk.aw_fltK 8 (hl:=fun H hH=>QcW Ty.h rfl hH rfl) (k:=?_))|refine(Fk.aw_fltK 9 (hl:=fun H hH=>QcW Ty.h rfl hH rfl) (k:=?_))|(show Fk.PlanF _ _ _ _ _ _ _ _ _;refine Fk.aw_planFC ?_)|(show Fk.PlanF _ _ _ _ _ _ _ _ _;refine Fk.aw_planFN ?_)|refine kU ?_|refine kV ?_ ?_<;>intro q|fail
  all_goals first
   |(exfalso;grind)
   |(refine Qhg ?_
     refine Qa 3 (h:=?_);refine Qa 4 (h:=?_);refine Qa 5 (h:=?_);refine Qa 6 (h:=?_);refine Qa 7 (h:=?_);refine Qdt 1 (hx:=?_)
     exact Qhf (t:=t) (by simp only[A2,Qgr,<-A3];rfl) rfl (by omega))
def pth_len(rows:List (List D))(p:Nat):(Qu6 rows p).length<=12:=by
 unfold Qu6;split
 ·exact Qkp (p:=fun x:List UInt8=>x.length<=12) (by decide) (by decide) _
 ·exact Qkp (p:=fun x:List UInt8=>x.length<=12) (by decide) (by decide) _
def UseQ(x:AV)(H:List Blk):Prop:= ∃(s:Pm.Store) (t:Pl.Tree) (p:List UInt8),QbQ s/\p.length<=12/\x= .tup [.d (tSt s),.d (dTree t),.d (dS p)]/\H=[]
def QvI(rows:List (List D))(hr:RdOk rows):DoesE A0 12 [.d (.sl true 1 rows)] [] [] UseQ:=by
 refine kH fun gvs=>?_
 repeat' first|refine kS ?_|(refine QA [] (eOpen rows hr) cK (k:=?_);rintro _ _ ⟨r,hr2,rfl,rfl⟩;refine Qd1 (k:=?_))|refine kU ?_|fail
 refine QA [2] (eTable r hr2 0 (by decide)) Tryz.call19 (k:=?_);rintro _ _ ⟨s,t,p1,hL,hp1,rfl,rfl⟩;refine Qd1 (k:=?_);obtain⟨v,ev,lv⟩:=Qft hr2 (p1+2) (n:=3) (by decide);have c:=ePick r hr2 (p1+2) (by omega) 3 (by decide);rw[ev] at c;have cp:=ePathX r hr2 p1 (by omega);have hpl:=pth_len r p1;have hget:(([[47],[47,97],Qu6 r p1]:List (List UInt8)).map fun s=>[dS s])[((v:Nat):Int).toNat]? =some _:=QdT (f:=fun s=>[dS s]) _ [] (n:=3) rfl (by omega);have hql:(([[47],[47,97],Qu6 r p1]:List (List UInt8)).getD v []).length<=12:=Qkp (p:=fun x:List UInt8=>x.length<=12) (by intro x hx;simp only[List.mem_cons,List.not_mem_nil,or_false] at hx;rcases hx with rfl|rfl|rfl;decide;decide;exact hpl) (by decide) _;generalize ([[47],[47,97],Qu6 r p1]:List (List UInt8)).getD v []=q at*;generalize Qu6 r p1=pt at*
 repeat' first|refine kS ?_|(show AWP _ (.region 3 _ _) _ _;refine(Qa 3 (h:=Qa 4 (h:=Fk.awp_drawG2 (id:=3) [0,1,4,5,7,8] [3,6,9,10] [] [] 3 18 (.d (dS pt)) 6 21 (.d (dI v)) ?_))))|refine(Fk.aw_fltL (hl:=fun H=>Qd0 Ty.h rfl Ty.h) (k:=?_))|refine(Fk.aw_fltL (hl:=fun H=>QcV Ty.h rfl Ty.h rfl rfl rfl (by omega) hget) (k:=?_))|refine Fk.aw_callM [2] cp cK (k:=kY ?_)|refine Fk.aw_callM [2] c cK (k:=kY ?_)|refine kU ?_|fail
 all_goals first|refine QN 0 (hx:=?_);exact⟨s,t,q,hL,hql,rfl,rfl⟩
def Qwp{s:Pm.Store}(h:Qae s t=true):Quw (Qbf s t).2=Quz s t Quf:=by
 have hln:(Qc s t).length=(Qk s t).length:=by rw[show Qk s t=Qu (Qc s t) from rfl];exact(A7 ..).symm
 unfold Quz;rw[<-hln];exact QvR h (by omega)
def Qwk{s:Pm.Store}{p:List UInt8}(h:(Qus s t p).2=true):(Qui s t p Quf).1=((Qus s t p).1.length:Nat):=by
 unfold Qus at*;split at h
 ·rename_i hf
  rw[if_pos hf,QvF hf h]
 ·cases h
def Qwf(s:Pm.Store)(hL:QbQ s)(t:Pl.Tree)(p:List UInt8)(h:(Qui s t p Quf).2=true): ∃(U:Int) (F:List Gr.It×List Qb7),(Qui s t p Quf).1<=U/\
 Pure A0 13 [dSt s,dTree t,dS [47]] (.tup [dI U,dB true])/\Pure A0 15 [dSt s,dTree t] (.tup [dFlat F,dB true])/\Pure A0 17 [dFlat F] (dI U):=by
 obtain⟨e,hle,h1,h2⟩:=Qwe h;have c3:=QuQ s hL t [47] (by decide);have c4:=bFlatOf s hL t;rw[e] at c3;rw[if_pos (by rw[h1,h2];rfl)] at c4;refine⟨_,_,hle,c3,c4,?_⟩;rw[<-Qwp h2];exact QvL _ (flatB h2).tl (fun x hx=>((Qvk h2).th x hx).2.2.2) (bFlatOk h2)
def exBytes(rows:List (List D))(hr:RdOk rows):Pure A0 4 [.sl true 1 rows] (dB true):=by
 refine kE ?_
 repeat' first|refine kS ?_|(refine QA [] (QvI rows hr) cK (k:=?_);rintro _ _ ⟨s,t,p,hL,hp,rfl,rfl⟩;refine Qd1 (k:=?_))|refine kU ?_|refine kV ?_ ?_<;>intro q|fail
 all_goals first|exact Qb (hx:=rfl)|skip
 have c1:=(QuQ s hL t p (by omega)).arg (l:=[tSt s,dTree t,dS p]);have c2:=(Qvy s hL t p (by omega)).arg (l:=[tSt s,dTree t,dS p]);have c5:=(QvM s hL t p (by omega)).arg (l:=[tSt s,dTree t,dS p]);have hall:=Qwf s hL t p;have htx:=Qwk (s:=s) (t:=t) (p:=p);generalize Qui s t p Quf=res at*;generalize Qus s t p=tx at*;obtain⟨x0,ok⟩:=res;obtain⟨tx,is⟩:=tx;simp only at c1 c2 c5 hall htx;cases ok
 ·clear hall htx
  repeat' first|refine kA ?_|refine kV ?_ ?_<;>intro q|fail
  all_goals first|exact Qb (hx:=rfl)|exfalso;simp at*;done
 obtain⟨U,F,hle,k1,k2,k3⟩:=hall rfl;clear hall;obtain⟨Ns,T⟩:=F
 replace k1:=k1.arg (l:=[tSt s,dTree t,dS [47]])
 replace k2:=k2.arg (l:=[tSt s,dTree t])
 have hd1:decide (x0<=U)=true:=decide_eq_true hle;cases is
 ·clear htx
  repeat' first|refine kA ?_|refine kV ?_ ?_<;>intro q|fail
  all_goals first|exfalso;simp at*;done|exfalso;simp at*;omega|refine Qb (hx:=?_);simp[hd1];done
 ·have htx:=htx rfl
  repeat' first|refine kA ?_|refine kV ?_ ?_<;>intro q|fail
  all_goals first|exfalso;simp at*;done|exfalso;simp at*;omega|refine Qb (hx:=?_);simp[hd1,htx];done

/- Of ftw_card; no condition. -/
import Derived.Test.YthbonbflkdonkaaGreatDoorP13
set_option linter.all false
set_option maxRecDepth 100000
set_option maxHeartbeats 8000000
open Go.Proofs.Tryz renaming prog->A0
open List renaming mem_map->A1
namespace Go.Proofs.YthbonbflkdonkaaGreatDoor
noncomputable section
open Go.RowKit
namespace Aw
attribute [local irreducible] ASeq ADraw AWP Loc AStep Fg.PlanF Fg.Flts EndR Fk.PlanF Fk.Flts Fk.AStepM Fk.Grew Fk.Gs
theorem QnK(l:List Int): ∀r∈l.map (fun n=>[dI n]),∀d∈r,d.cell=true:=by
 intro r hr d hd;obtain⟨p,_,rfl⟩:=A1.1 hr;simp at hd;subst hd;rfl
theorem Qta(l:List (List UInt8)): ∀r∈l.map (fun n=>[dS n]),∀d∈r,d.cell=true:=by
 intro r hr d hd;obtain⟨p,_,rfl⟩:=A1.1 hr;simp at hd;subst hd;rfl
def DoesE.one{P:Program}{f:FuncId}{args:List AV}{x:AV}{H1:List Blk}(h:DoesE P f args [] [] (fun y K=>y=x/\K=H1)):Does P f args [] [] x H1:=
 ⟨fun i C hC=>by simp at hC,fun B σ S w cargs gvs h1 h2 h3 h4 h5 h6=>(h B σ S w cargs gvs h1 h2 h3 h4 h5 h6).mono fun _ _ ⟨_,_,⟨e1,e2⟩,_,h7⟩=>e1▸e2▸h7⟩
def dCopy5(refs last:List Int)(h1:refs.length<=100000)(h2:last.length<=100000):Does A0 105 [.d (.agg [dInts refs,dInts last])] [] [] (.agg [.osl 0 1 0 refs.length,.osl 1 1 0 last.length]) [.arr 1 1 3 (rI refs),.arr 1 1 3 (rI last)]:=by
 refine DoesE.one ?_;refine kH fun gvs=>?_
 refine Qa 0 (h:=?_)
 repeat' first|refine kS ?_|(show AWP _ (.region 1 _ _) _ _;refine(Fk.awp_drawF (id:=1) [0,1,2,4,5,6] [3,7,9] [(0,.arr 0 1 3 []),(4,.arr 0 1 3 [])] [] ?_))|refine(Fk.aw_fltS 2 rfl rfl rfl rfl rfl ?_)|refine(Fk.aw_fltS 3 rfl rfl rfl rfl rfl ?_)|refine(Fk.aw_appM (by kernel_rfl) Ty.h rfl Ty.h (hcell:=?_) (hb:=?_) (kk:=?_))|refine kU ?_|fail
 ·exact QnK refs
 ·simp;omega
 ·exact QnK last
 ·simp;omega
 refine QdU [2,1000000] [2,3,1] (env':=[(2,.ptr 2 0 0),(1000000,.gh [] gvs)]) (H':=[.arr 1 1 3 (rI refs),.arr 1 1 3 (rI last),.row 0 [.osl 0 1 0 refs.length,.osl 1 1 0 last.length]]) (h:=?_);refine Q1 2 (hx:=?_);exact⟨rfl,rfl⟩
def dCopy(w:Pl.Sto)(N:Nat)(hN:N<=1000000)(hw:w.W N):Does A0 53 [.d (dSt w.st)] [] [] (oS 1 w) (hS 1 w):=by
 have c1:=(dCopy5 w.refs w.last (by rw[hw.refs];omega) (by rw[hw.last];omega)).e;have h0:=hw.rows;have h1:=hw.refs;have h2:=hw.last;have h3:=hw.many;refine DoesE.one ?_;refine kH fun gvs=>?_
 repeat' first|refine kS ?_|refine Qe1 Ty.h rfl Ty.h (hb:=?_) (hcell:=?_) (kk:=?_)|refine QC [] c1 cK (k:=kX ?_)|refine kU ?_|fail
 all_goals first
  |exact Qta _
  |exact Qd0 _
  |(simp[Pl.Sto.st];done)
  |(simp[Pl.Sto.st];omega)
  |(refine QdU [2,1000000] [2,3,4,5,6,1] (env':=[(2,.ptr 5 0 0),(1000000,.gh [] gvs)]) (H':=hS 1 w++[.row 0 [.osl 0 1 0 w.rows.length,.osl 1 1 0 w.refs.length,.osl 2 1 0 w.last.length,.d (dI w.txg),.osl 3 1 0 w.gone.length,.d (dI 0),.osl 4 1 0 0,.d (dB w.same)]]) (h:=?_)
    refine Q1 5 (hx:=?_);rw[h0,h1,h2]
    exact⟨rfl,rfl⟩)
abbrev zSt2:List AV:=[.d (.v (.slice none 0 0)),.d (.v (.slice none 0 0)),.d (.v (.slice none 0 0)),.d (.v (.int .i64 0)),.d (.v (.slice none 0 0)),.d (.v (.int .i64 0)),.d (.v (.slice none 0 0)),.d (.v (.bool false))]
abbrev rowX(g:Nat)(w:Pl.Sto):List AV:=[.osl 0 1 0 64,.osl 1 1 0 64,.osl 2 1 0 64,.d (dI w.txg),.osl 3 g 0 w.gone.length,.d (dI 0),.osl 4 1 0 0,.d (dB w.same)]
theorem eNext(g:Nat)(w:Pl.Sto)(N:Nat)(hN:N<=400000)(hw:w.W N):
 DoesE A0 52 [oS g w] (hS g w) (gS g w) (fun x H=>x= .agg [.osl 0 1 0 64,.osl 1 1 0 64,.osl 2 1 0 64,.d (dI w.next.txg),.osl 5 0 0 0,.d (dI 0),.osl 4 1 0 0,.d (dB w.same)]/\
  H=[.arr 1 1 9 (rS w.next.rows),.arr 1 1 3 (rI w.next.refs),.arr 1 1 3 (rI w.next.last),.arr g 5 31 (w.gone.map rPtr),.arr 1 5 31 [],.arr 0 5 31 []]):=by
 have hd:Hid (w.next={w.dropL w.gone with gone:=[],txg:=w.txg+1}):=Pm.hid rfl;have hgl:=hw.many;have htx:=hw.txg;generalize w.next=res at*;refine kH fun gvs=>?_
 repeat refine kA ?_
 refine Qq (fun m st=> ∃(i:Nat) (wi:Pl.Sto),i<=w.gone.length/\m=w.gone.length -i/\Hid (wi=w.dropL (w.gone.take i))/\Hid (wi.W (N+i)/\wi.gone=w.gone/\wi.txg=w.txg/\wi.same=w.same)/\
  st=⟨26,[(3,.d (dI i)),(1,.ptr 5 0 0),(2,.ptr 6 0 0),(1000000,.gh (gS g w) gvs)],hS g wi++[.row 0 (rowX g wi),.row 0 zSt2]⟩) [3,1,2,1000000] 7 w.gone.length
  ⟨0,w,by omega,rfl,Pm.hid rfl,Pm.hid ⟨hw,rfl,rfl,rfl⟩,rfl⟩ (round:=?_)
 rintro m st ⟨i,wi,hi,rfl,hwi,hWi,rfl⟩;obtain⟨hW,y1,y2,y3⟩:=hWi.out;simp only[hS,List.cons_append,List.nil_append]
 repeat refine kG ?_
 cases q4:decide ((i:Int)<(wi.gone.length:Int))
 ·have hio:i=w.gone.length:=by simp at q4;rw[y1] at q4;omega
  have hw2:=hwi.out;rw[hio,List.take_of_length_le (Nat.le_refl _)] at hw2;have v0:wi.rows.length=w.rows.length:=by rw[hW.rows,hw.rows]
  have v1:wi.refs.length=w.refs.length:=by rw[hW.refs,hw.refs]
  have v2:wi.last.length=w.last.length:=by rw[hW.last,hw.last]
  have v3:wi.gone.length=w.gone.length:=by rw[y1]
  have hb2:wi.txg<=400000:=by rw[y2];omega
  have hb1:0<=wi.txg:=by rw[y2];omega
  repeat refine kA ?_
  refine QdU [2,1000000] [0,1,2,3,4,7,6] (env':=[(2,.ptr 6 0 0),(1000000,.gh (gS g w) gvs)]) (H':=[.arr 1 1 9 (rS wi.rows),.arr 1 1 3 (rI wi.refs),.arr 1 1 3 (rI wi.last),.arr g 5 31 (wi.gone.map rPtr),.arr 1 5 31 [],.arr 0 5 31 [],.row 0 [.osl 0 1 0 64,.osl 1 1 0 64,.osl 2 1 0 64,.d (dI (wi.txg+1)),.osl 5 0 0 0,.d (dI 0),.osl 4 1 0 0,.d (dB wi.same)]]) (h:=?_);refine Q1 6 (hx:=?_);rw[hd.out];dsimp only;rw[<-hw2,<-y1,<-y2,<-y3];exact⟨rfl,rfl⟩
 have hi2:i<w.gone.length:=by simp at q4;rw[y1] at q4;omega
 obtain⟨x,hx⟩: ∃x,w.gone[i]? =some x:=⟨_,List.getElem?_eq_getElem hi2⟩;have hr:=Qs (f:=rPtr) hx;rw[<-y1] at hr;obtain⟨o1,o2⟩:=hw.gone x (List.mem_of_getElem? hx);have hat:=QdN o1 o2;obtain⟨a,ha⟩:=Int.eq_ofNat_of_zero_le hat.1;have cf:=eDrop g wi (N+i) (by omega) hW a (by omega)
 have hst:Hid (w.dropL (w.gone.take (i+1))=wi.drop a):=Pm.hid (by
  rw[List.take_add_one,hx,hwi.out];unfold Pl.Sto.dropL;rw[List.foldl_append]
  simp only[Option.toList,List.foldl_cons,List.foldl_nil,ha,Int.toNat_natCast])
 have hWd:=hW.drop (a:=a) (by omega);have z1:(wi.drop a).gone=wi.gone:=rfl;have z2:(wi.drop a).txg=wi.txg:=rfl;have z3:(wi.drop a).same=wi.same:=rfl;have z4:(wi.drop a).gone.length=wi.gone.length:=rfl;have hgl2:i<wi.gone.length:=by rw[y1];exact hi2
 clear hx hwi hWi;generalize wi.drop a=wd at*;obtain⟨pat,birth,size,sum,level⟩:=x;simp only at ha;subst ha
 repeat' first|refine kS ?_|(show AWP _ (.region 4 _ _) _ _;refine(Fg.awp_drawF (id:=4) [] [7,8] ?_))|refine qD (Qdg Ty.h rfl rfl hr rfl) ?_|refine QeP [0,1,2,3,4] cf cK (k:=kZ ?_)|refine kU ?_|fail
 all_goals first|refine Qg (w.gone.length -(i+1)) (by omega) ⟨i+1,wd,by omega,rfl,Pm.hid hst.out.symm,Pm.hid ⟨hWd,z1.trans y1,z2.trans y2,z3.trans y3⟩,?_⟩;simp[keepE,go_sem,z1];done

/- Of ftw_card; no condition. -/
import Derived.Test.YthbonbflkdonkaaGreatDoorP38
set_option linter.all false
set_option maxRecDepth 100000
set_option maxHeartbeats 16000000
open Go.Proofs.Tryz renaming prog->A1
open Int renaming toNat_natCast->A0
namespace Go.Proofs.YthbonbflkdonkaaGreatDoor
noncomputable section
open Go.RowKit
namespace Aw
variable{k N:Nat}{f:Q4}{t:Pl.Tree}{w:Pl.Sto}
theorem QgY(h:f.1.W N)(ht:Qx f.2.1)(hk:k<16)(n:Qk):(Qaq f k n).1.W (N+15)/\Qx (Qaq f k n).2.1:=by
 unfold Qaq;split
 ·exact⟨h.le (by omega),ht⟩
 grind [Qfb]
theorem Qu6(h:w.W N)(ht:Qx t)(text:List UInt8):(Qaz w t text).1.W (N+269)/\Qx (Qaz w t text).2.1:=by
 unfold Qaz;split
 ·exact⟨h.le (by omega),ht⟩
 ·rename_i h1
  have h2:=Qmw (QaH text) 0 h ht (by omega);split
  ·have h3:=cut_W h2.1 h2.2 (many:=(QaH text).length) (by omega)
   exact⟨h3.1.le (by omega),h3.2⟩
  ·exact⟨h2.1.le (by omega),h2.2⟩
theorem QdI(h:f.1.W N)(ht:Qx f.2.1)(hk:k<16)(hn:f.2.2=false->Qx (Ql f k).tree)(l:List Qm):(QR f k l).1.W (N+284)/\Qx (QR f k l).2.1:=by
 unfold QR;split
 ·exact⟨h.le (by omega),ht⟩
 grind [Qu6,QgY]
def eBputX(g:Nat)(w:Pl.Sto)(N:Nat)(hN:N<=700000)(hw:w.W N)(t:Pl.Tree)(ht:Qx t)(text:List UInt8)(htx:text.length<=1000000000000):
 DoesE A1 217 [oS g w,.d (dTree t),.d (dS text)] (hS g w) (gS g w) (fun x H=>x= .tup [oS (g+1) (Qaz w t text).1,.d (dTree (Qaz w t text).2.1),.d (dB (Qaz w t text).2.2)]/\H=hS (g+1) (Qaz w t text).1):=
 DoesE.tag (C:=fun _=>True) (X:=fun g'=> .tup [oS g' (Qaz w t text).1,.d (dTree (Qaz w t text).2.1),.d (dB (Qaz w t text).2.2)]) (fun B σ S w0 cargs gvs h1 h2 h3 h4 h5 h6=>(eBput g w N hN hw t ht text htx B σ S w0 cargs gvs h1 h2 h3 h4 h5 h6).mono fun _ _ ⟨x,H,⟨g',e1,e2⟩,h⟩=>⟨x,H,⟨g',trivial,e1,e2⟩,h⟩) Qgg
attribute [local irreducible] ASeq ADraw AWP Loc AStep Fg.PlanF Fg.Flts EndR Fk.PlanF Fk.Flts Fk.AStepM Fk.Grew Fk.Gs
def eWriteF(g:Nat)(f:Q4)(N:Nat)(hN:N<=600000)(hw:f.1.W N)(ht:Qx f.2.1)(k:Nat)(hk:k<16)(hnt:f.2.2=false->Qx (Ql f k).tree)(l:List Qm)(hb: ∀e∈l,e.1.length<=4/\0<=e.2/\e.2<=15)(hl:l.length<=1000)(htx:(QG l).length<=1000000000000):
 DoesE A1 162 [.ptr 5 0 0,.d (dI k),.d (tEnts l)] (hF g f) (gF g f.1) (fun x H=>x= .tup []/\H=hF (g+1) (QR f k l)):=by
 refine DoesE.tagF (C:=fun _=>True) ?_ Qlw;have hWr:=(QdI hw ht hk hnt l).1;obtain⟨w,t,full⟩:=f;simp only at hw ht hnt⊢;cases full
 ·replace hnt:=hnt rfl
  have c1:=aNode w N hw t ht false k;have c2:=Quj l hb hl;have cB:=eBputX g w N (by omega) hw (Ql (w,t,false) k).tree hnt (QG l) htx;have hWb:=(Qu6 hw hnt (QG l)).1
  have hd:Hid (QR (w,t,false) k l=Qaq ((Qaz w (Ql (w,t,false) k).tree (QG l)).1,t,!(Qaz w (Ql (w,t,false) k).tree (QG l)).2.2) k
   {Ql (w,t,false) k with tree:=(Qaz w (Ql (w,t,false) k).tree (QG l)).2.1,size:=(QG l).length}):=Pm.hid rfl
  rw[show(Q5 w.st t k).1=Ql (w,t,false) k from rfl] at c1;generalize QR (w,t,false) k l=res at*;generalize Ql (w,t,false) k=n at*;generalize QG l=text at*;generalize Qaz w n.tree text=y at*;obtain⟨w2,t2,ok2⟩:=y;simp only at cB hWb hd;have cP:=ePutF (g+1) (w2,t,!ok2) (N+269) (by omega) hWb ht k hk {n with tree:=t2,size:=text.length} (Qeb _);rw[<-hd.out] at cP;have v0:res.1.rows.length=w.rows.length:=by rw[hWr.rows,hw.rows]
  have v1:res.1.refs.length=w.refs.length:=by rw[hWr.refs,hw.refs]
  have v2:res.1.last.length=w.last.length:=by rw[hWr.last,hw.last]
  clear hWr hWb hd;refine kJ fun gvs=>?_
  repeat' first|refine kS ?_|refine qS (QY (fs:=(w,t,false)) cK c1 hw) ?_|(show AWP _ (.region 3 _ _) _ _;refine(Fk.awp_drawG (id:=3) [8,10,11,12,13] [7,14,15] [(12,.row 0 zSt),(13,.row 0 zTr)] [] 7 28 (.tup [oS (g+1) w2,.d (dTree t2),.d (dB ok2)]) ?_))|refine(Fk.aw_fltA 7 ?_)|refine(Fk.aw_fltA 8 ?_)|refine Fk.aw_callM [0,1,2,3,4] cB cK (k:=kY ?_)|refine Qdq [0,1,2,3,4,5] cP cK (k:=kX ?_)|refine kU ?_|fail
  all_goals first|refine endR0 6 (hx:=?_);exact⟨_,trivial,rfl,rfl⟩
 ·refine kJ fun gvs=>?_
  repeat refine kA ?_
  all_goals first|refine Qo7 6 (hx:=?_);exact⟨g,trivial,rfl,rfl⟩
theorem Qdl(s:Pm.Store)(t:Pl.Tree)(k:Nat):Qx (Q5 s t k).1.tree/\(0<=(Q5 s t k).1.size/\(Q5 s t k).1.size<=2048):=by
 have h0:Qx Qd.tree/\0<=Qd.size/\Qd.size<=2048:=⟨tgood0,by decide,by decide⟩;unfold Q5;split
 ·rcases Qi3 ((Qc s t).getD k []) with h|h
  ·exact⟨⟨h.depth.1,h.depth.2,h.ptr,h.many.1,h.many.2⟩,h.size⟩
  grind
 omega
def QcY(l:List Qm):Prop:=(∀e∈l,e.1.length<=4/\0<=e.2/\e.2<=15)/\l.length<=13
theorem QiV(s:Pm.Store)(n:Qk):QcY (Qf s n).1:=⟨fun e he=>by
 grind [Qhd,Qeq],by grind [Qe6]⟩
theorem QiX: ∀l:List Qm,(∀e∈l,e.1.length<=4/\0<=e.2/\e.2<=15)->(QG l).length<=8*l.length
 |[],_=>by simp[QG]
 |e::l,h=>by
  have h1:=QiX l fun x hx=>h x (List.mem_cons_of_mem _ hx)
  obtain⟨h2,h3,h4⟩:=h e List.mem_cons_self;have h5:=Pl.Qdc 1 e.2.toNat (by omega)
  grind [QG,Qas]
def Qil{l:List Qm}{e:Qm}(h:QcY l)(hl:l.length<=12)(h1:e.1.length<=4)(h2:0<=e.2)(h3:e.2<=15):QcY (Qar l e):=
 ⟨fun x hx=>(Qs6 hx).elim (fun h4=>h4▸⟨h1,h2,h3⟩) (h.1 x),by rw[Qs7];omega⟩
theorem QlI{l:List Qm}(h:QcY l)(i:Nat):QcY (l.take i++l.drop (i+1)):=
 ⟨fun x hx=>h.1 x ((List.mem_append.1 hx).elim (fun h1=>List.mem_of_mem_take h1) (fun h1=>List.mem_of_mem_drop h1)),by have:=h.2;grind⟩
def EB.text{l:List Qm}(h:QcY l):(QG l).length<=104:=by have:=QiX l h.1;have:=h.2;omega
theorem Qne(s:Pm.Store)(ns:List Qk): ∀(q:List (List UInt8)) (i:Int),0<=i->i<=15-> ∀j,QbF (Qf s) ns i q=some j->0<=j/\j<=15
 |[],i,h0,h1,j,h=>by grind [QfU]
 |n::q,i,h0,h1,j,h=>by
  rw[QeA] at h;split at h
  ·cases h
  ·rename_i e he
   have:=Qhd s (ns.getD i.toNat Qd) e (List.mem_of_find?_eq_some he);exact Qne s ns q e.2 (by omega) this.2.2 j h
theorem QdR(s:Pm.Store)(t:Pl.Tree)(q:List (List UInt8)):Qae s t q<0∨ ∃a:Nat,a<16/\Qae s t q=a:=by
 unfold Qae Qa1;cases h:QbF (Qf s) (Qh s t) 0 q with
 |none=>grind
 |some j=>
  have:=Qne s (Qh s t) q 0 (by omega) (by omega) j h;exact .inr ⟨j.toNat,by omega,by grind⟩
theorem Qf9(w:Pl.Sto)(t:Pl.Tree)(path:List UInt8):(∃a:Nat,a<16/\(QI w t path).1=a)/\0<=(QI w t path).2/\((QI w t path).2=0->Qy path≠[]):=by
 unfold QI;split
 ·exact⟨⟨0,by omega,rfl⟩,by omega,fun h=>absurd h (by decide)⟩
 grind [QdR]
theorem Qgo(w:Pl.Sto)(t:Pl.Tree)(path:List UInt8):(∃a:Nat,a<16/\(Qan w t path).1=a)/\0<=(Qan w t path).2/\((Qan w t path).2=0->Qy path≠[]):=by
 have h:=Qf9 w t path;unfold Qan;split
 ·rename_i h0
  exact⟨⟨0,by omega,rfl⟩,h.2.1,fun h1=>absurd h1 (by omega)⟩
 ·rename_i h0
  split
  ·exact⟨⟨0,by omega,rfl⟩,by omega,fun h1=>absurd h1 (by decide)⟩
  grind
abbrev QJ(path:List UInt8):List UInt8:=(Qy path).getD ((Qy path).length -1) []
def QbD(f:Q4)(path:List UInt8)(kind:Int):Q4×Int:=
 if 0<(Qan f.1 f.2.1 path).2 then(f,(Qan f.1 f.2.1 path).2) else
 match QbT (Qc f.1.st f.2.1) with
 |none=>(f,6)
 |some id=>if 12<=(Qf f.1.st (Ql f (Qan f.1 f.2.1 path).1.toNat)).1.length then(f,6) else
  (QR (Qaq f id ⟨kind,1,0,⟨Pl.hole,0,0⟩⟩) (Qan f.1 f.2.1 path).1.toNat (Qar (Qf f.1.st (Ql f (Qan f.1 f.2.1 path).1.toNat)).1 (QJ path,id)),0)
theorem eMakeF(g:Nat)(f:Q4)(N:Nat)(hN:N<=500000)(hw:f.1.W N)(ht:Qx f.2.1)(path:List UInt8)(hp:path.length<=900)(hb:(QJ path).length<=4)(kind:Int):
 DoesE A1 96 [.ptr 5 0 0,.d (dS path),.d (dI kind)] (hF g f) (gF g f.1) (fun x H=>x= .d (dI (QbD f path kind).2)/\H=hF (g+1) (QbD f path kind).1):=by
 refine DoesE.tagF (C:=fun _=>True) ?_ Qdy;have c1:=aFresh f.1 N hw f.2.1 ht f.2.2 path hp;obtain⟨⟨a,ha,hae⟩,h2,h3⟩:=Qgo f.1 f.2.1 path;have c2:=Qul f.1.st hw.good f.2.1 ht;have hd:=Pm.hid (QbD.eq_def f path kind);rw[hae,A0] at hd;have c3:=Qfn g f N hw ht a;have hes:=QiV f.1.st (Ql f a);have hel:=Qe6 f.1.st (Ql f a);have hidl:=fun id=>QiO (l:=Qc f.1.st f.2.1) (k:=id)
 generalize QbD f path kind=res at*;generalize Qan f.1 f.2.1 path=p at*;obtain⟨p1,p2⟩:=p;simp only at hae h2 h3 hd c1;subst hae
 by_cases h0:0<p2
 ·rw[if_pos h0] at hd
  clear c2 c3;have hq:decide (p2>0)=true:=decide_eq_true h0;refine kH fun gvs=>?_
  repeat' first|refine kS ?_|refine qS (QY (fs:=f) cK c1 hw) ?_|refine kU ?_|refine kV ?_ ?_<;>intro q|fail
  all_goals first|exact absurd (hq.symm.trans ‹decide (p2>0)=false›) (by decide)|refine Q1 6 (hx:=?_);rw[hd.out];exact⟨g,trivial,rfl,rfl⟩
 rw[if_neg h0] at hd;have hq:decide (p2>0)=false:=decide_eq_false h0;have hne:=h3 (by omega);have c6:=Qhq path (by omega) hne;generalize (Qf f.1.st (Ql f a)).1=l at*;cases hfr:QbT (Qc f.1.st f.2.1) with
 |none=>
  rw[hfr] at c2 hd;simp only at hd;refine kH fun gvs=>?_
  repeat' first|refine kS ?_|refine qS (QY (fs:=f) cK c1 hw) ?_|refine qD (Qdh cK c2 hw) ?_|refine Qdq [0,1,2,3,4,5] c3 cK (k:=kX ?_)|refine kU ?_|refine kV ?_ ?_<;>intro q|fail
  all_goals first|exact absurd (hq.symm.trans ‹decide (p2>0)=true›) (by decide)|refine Q1 6 (hx:=?_);rw[hd.out];exact⟨g,trivial,rfl,rfl⟩
 |some id=>
  rw[hfr] at c2 hd;simp only at hd;have hid:=(hidl id hfr).1
  replace c2:Pure A1 159 [dSt f.1.st,dTree f.2.1] (dI id):=c2
  by_cases h12:12<=l.length
  ·rw[if_pos h12] at hd
   refine kH fun gvs=>?_
   repeat' first|refine kS ?_|refine qS (QY (fs:=f) cK c1 hw) ?_|refine qD (Qdh cK c2 hw) ?_|refine Qdq [0,1,2,3,4,5] c3 cK (k:=kX ?_)|refine kU ?_|refine kV ?_ ?_<;>intro q|fail
   all_goals first|exact absurd (hq.symm.trans ‹decide (p2>0)=true›) (by decide)|exfalso;simp only[decide_eq_true_eq,decide_eq_false_iff_not] at*;omega|refine Q1 6 (hx:=?_);rw[hd.out];exact⟨g,trivial,rfl,rfl⟩
  rw[if_neg h12] at hd;have c4:=ePutF g f N (by omega) hw ht id hid ⟨kind,1,0,⟨Pl.hole,0,0⟩⟩ (Qeb _);have hWp:=QgY hw ht hid ⟨kind,1,0,⟨Pl.hole,0,0⟩⟩;have c5:=al12Add l (QJ path,(id:Int)) (by omega);have hae:=Qil (e:=(QJ path,(id:Int))) hes hel hb (by simp) (by simp;omega);generalize Qaq f id ⟨kind,1,0,⟨Pl.hole,0,0⟩⟩=f2 at*;generalize Qar l (QJ path,(id:Int))=l2 at*;have c7:=eWriteF (g+1) f2 (N+15) (by omega) hWp.1 hWp.2 a ha (fun _=>(Qdl _ _ _).1) l2 hae.1 (by have:=hae.2;omega) (by have:=EB.text hae;omega);have hWr:=(QdI hWp.1 hWp.2 ha (fun _=>(Qdl _ _ _).1) l2).1;generalize QR f2 a l2=f3 at*;have v0:f3.1.rows.length=f.1.rows.length:=by rw[hWr.rows,hw.rows]
  have v1:f3.1.refs.length=f.1.refs.length:=by rw[hWr.refs,hw.refs]
  have v2:f3.1.last.length=f.1.last.length:=by rw[hWr.last,hw.last]
  clear hWp hWr;refine kH fun gvs=>?_
  repeat' first|refine kS ?_|refine qS (QY (fs:=f) cK c1 hw) ?_|refine qD (Qdh cK c2 hw) ?_|refine Qdq [0,1,2,3,4,5] c3 cK (k:=kX ?_)|refine Qdq [0,1,2,3,4,5] c4 cK (k:=kX ?_)|refine Qdq [0,1,2,3,4,5] c7 cK (k:=kX ?_)|refine kU ?_|refine kV ?_ ?_<;>intro q|fail
  all_goals first|exact absurd (hq.symm.trans ‹decide (p2>0)=true›) (by decide)|exfalso;simp only[decide_eq_true_eq,decide_eq_false_iff_not] at*;omega|refine Q1 6 (hx:=?_);rw[hd.out];exact⟨_,trivial,rfl,rfl⟩
theorem Qj9(s:Pm.Store)(t:Pl.Tree)(k:Nat):0<=(Q5 s t k).1.links/\(Q5 s t k).1.links<=9:=by
 have h0:0<=Qd.links/\Qd.links<=9:=by decide
 unfold Q5;split
 ·rcases Qi3 ((Qc s t).getD k []) with h|h
  ·have:=h.links;omega
  grind
 omega
def QbO(f:Q4)(path pt:List UInt8):Q4×Int:=
 if QE f.1 f.2.1 path<0 then(f,2) else
 if(Ql f (QE f.1 f.2.1 path).toNat).kind≠1 then(f,4) else
 if 0<(Qan f.1 f.2.1 pt).2 then(f,(Qan f.1 f.2.1 pt).2) else
 if 9<=(Ql f (QE f.1 f.2.1 path).toNat).links∨12<=(Qf f.1.st (Ql f (Qan f.1 f.2.1 pt).1.toNat)).1.length then(f,6) else
 (QR (Qaq f (QE f.1 f.2.1 path).toNat {Ql f (QE f.1 f.2.1 path).toNat with links:=(Ql f (QE f.1 f.2.1 path).toNat).links+1}) (Qan f.1 f.2.1 pt).1.toNat
   (Qar (Qf f.1.st (Ql f (Qan f.1 f.2.1 pt).1.toNat)).1 (QJ pt,QE f.1 f.2.1 path)),0)
theorem eLinkF(g:Nat)(f:Q4)(N:Nat)(hN:N<=500000)(hw:f.1.W N)(ht:Qx f.2.1)(path pt:List UInt8)(hp:path.length<=900)(hp2:pt.length<=900)(hb:(QJ pt).length<=4):
 DoesE A1 98 [.ptr 5 0 0,.d (dS path),.d (dS pt)] (hF g f) (gF g f.1) (fun x H=>x= .d (dI (QbO f path pt).2)/\H=hF (g+1) (QbO f path pt).1):=by
 refine DoesE.tagF (C:=fun _=>True) ?_ Qdy;have c0:=aFind f.1 N hw f.2.1 ht f.2.2 path hp;have c1:=aFresh f.1 N hw f.2.1 ht f.2.2 pt hp2;obtain⟨⟨a,ha,hae⟩,h2,h3⟩:=Qgo f.1 f.2.1 pt;have hd:=Pm.hid (QbO.eq_def f path pt);rw[hae,A0] at hd;have c3:=Qfn g f N hw ht a;have hes:=QiV f.1.st (Ql f a);have hel:=Qe6 f.1.st (Ql f a);have hfb:=QdR f.1.st f.2.1 (Qy path);rw[show Qae f.1.st f.2.1 (Qy path)=QE f.1 f.2.1 path from rfl] at hfb;generalize QbO f path pt=res at*;generalize Qan f.1 f.2.1 pt=p at*;obtain⟨p1,p2⟩:=p;simp only at hae h2 h3 hd c1;subst hae;generalize QE f.1 f.2.1 path=i at*;rcases hfb with hfb|⟨k,hk,rfl⟩
 ·rw[if_pos hfb] at hd
  have hq:decide (i<0)=true:=decide_eq_true hfb;refine kH fun gvs=>?_
  repeat' first|refine kS ?_|refine qS (QY (fs:=f) cK c0 hw) ?_|refine kU ?_|refine kV ?_ ?_<;>intro q|fail
  all_goals first|exact absurd (hq.symm.trans ‹decide (i<0)=false›) (by decide)|refine Q1 6 (hx:=?_);rw[hd.out];exact⟨g,trivial,rfl,rfl⟩
 rw[if_neg (by omega),A0] at hd;have hq0:decide ((k:Int)<0)=false:=decide_eq_false (by omega);have c4:=aNode f.1 N hw f.2.1 ht f.2.2 k;have hln:=Qj9 f.1.st f.2.1 k;rw[show(Q5 f.1.st f.2.1 k).1=Ql f k from rfl] at c4 hln;have c5:=fun n=>ePutF g f N (by omega) hw ht k hk n (Qeb _)
 have hWp:=fun n=>QgY hw ht hk n
 generalize (Qf f.1.st (Ql f a)).1=l at*;generalize Ql f k=n at*
 by_cases h0:0<p2
 ·rw[if_pos h0] at hd
  have hq:decide (p2>0)=true:=decide_eq_true h0;clear c5 hWp c3;refine kH fun gvs=>?_
  repeat' first|refine kS ?_|refine qS (QY (fs:=f) cK c0 hw) ?_|refine qS (QY (fs:=f) cK c4 hw) ?_|refine qS (QY (fs:=f) cK c1 hw) ?_|refine kU ?_|refine kV ?_ ?_<;>intro q|fail
  all_goals first|exact absurd (hq.symm.trans ‹decide (p2>0)=false›) (by decide)|exact absurd (hq0.symm.trans ‹decide ((k:Int)<0)=true›) (by decide)|refine Q1 6 (hx:=?_);rw[hd.out,if_pos (bne_iff_ne.1 ‹(n.kind !=1)=true›)];exact⟨g,trivial,rfl,rfl⟩|refine Q1 6 (hx:=?_);rw[hd.out,if_neg (by simpa using ‹(n.kind !=1)=false›)];exact⟨g,trivial,rfl,rfl⟩
 rw[if_neg h0] at hd;have hq:decide (p2>0)=false:=decide_eq_false h0;have c6:=Qhq pt (by omega) (h3 (by omega))
 replace c5:=c5 {n with links:=n.links+1}
 replace hWp:=hWp {n with links:=n.links+1}
 have c7:=al12Add l (QJ pt,(k:Int)) (by omega);have hae:=Qil (e:=(QJ pt,(k:Int))) hes hel hb (by simp) (by simp;omega);generalize Qaq f k {n with links:=n.links+1}=f2 at*;generalize Qar l (QJ pt,(k:Int))=l2 at*;have c8:=eWriteF (g+1) f2 (N+15) (by omega) hWp.1 hWp.2 a ha (fun _=>(Qdl _ _ _).1) l2 hae.1 (by have:=hae.2;omega) (by have:=EB.text hae;omega);have hWr:=(QdI hWp.1 hWp.2 ha (fun _=>(Qdl _ _ _).1) l2).1;generalize QR f2 a l2=f3 at*;have v0:f3.1.rows.length=f.1.rows.length:=by rw[hWr.rows,hw.rows]
 have v1:f3.1.refs.length=f.1.refs.length:=by rw[hWr.refs,hw.refs]
 have v2:f3.1.last.length=f.1.last.length:=by rw[hWr.last,hw.last]
 clear hWp hWr;refine kH fun gvs=>?_
 repeat' first|refine kS ?_|refine qS (QY (fs:=f) cK c0 hw) ?_|refine qS (QY (fs:=f) cK c4 hw) ?_|refine qS (QY (fs:=f) cK c1 hw) ?_|refine Qdq [0,1,2,3,4,5] c3 cK (k:=kX ?_)|refine Qdq [0,1,2,3,4,5] c5 cK (k:=kX ?_)|refine Qdq [0,1,2,3,4,5] c8 cK (k:=kX ?_)|refine kU ?_|refine kV ?_ ?_<;>intro q|fail
 all_goals first|exact absurd (hq.symm.trans ‹decide (p2>0)=true›) (by decide)|exact absurd (hq0.symm.trans ‹decide ((k:Int)<0)=true›) (by decide)|refine Q1 6 (hx:=?_);rw[hd.out,if_pos (bne_iff_ne.1 ‹(n.kind !=1)=true›)];exact⟨g,trivial,rfl,rfl⟩|refine Q1 6 (hx:=?_);rw[hd.out,if_neg (by simpa using ‹(n.kind !=1)=false›),if_pos (by simp only[decide_eq_true_eq,decide_eq_false_iff_not] at*;omega)];exact⟨g,trivial,rfl,rfl⟩|refine Q1 6 (hx:=?_);rw[hd.out,if_neg (by simpa using ‹(n.kind !=1)=false›),if_neg (by simp only[decide_eq_false_iff_not] at*;omega)];exact⟨_,trivial,rfl,rfl⟩
theorem Qp2(E:Qk->List Qm×Bool)(ns:List Qk)(b:List UInt8): ∀(q:List (List UInt8)) (i:Int),QbF E ns i (q++[b])=(QbF E ns i q).bind fun j=>((E (ns.getD j.toNat Qd)).1.find? (fun e=>e.1==b)).map (·.2)
 :=by intro l;induction l<;>grind [QeA,QfU]
theorem QpE{l:List (List UInt8)}(h:l≠[]):l=l.take (l.length -1)++[l.getD (l.length -1) []]:=by
 have hl:=List.length_pos_iff.2 h
 have h1:l.take (l.length -1)++[l.getD (l.length -1) []]=l.take (l.length -1+1):=by
  grind [List.take_add_one]
 grind
theorem Qfg(ht:Qx t){path:List UInt8}(h0:0<=QE w t path)(h1:QE w t path≠0):
 Qy path≠[]/\(QI w t path).2=0/\ ∃a:Nat,a<16/\(QI w t path).1=a/\ ∃i:Nat,i<(Qf w.st (Q5 w.st t a).1).1.length/\Qa2 (Qf w.st (Q5 w.st t a).1).1 (QJ path)=i:=by
 have hn:Qy path≠[]:=fun h=>h1 (by unfold QE Qae Qa1;grind [QfU])
 have hs:=QpE hn;unfold QE Qae Qa1 at h0;rw[hs,Qp2] at h0;have hfb:=QdR w.st t ((Qy path).take ((Qy path).length -1));have hdef:Qae w.st t ((Qy path).take ((Qy path).length -1))=(QbF (Qf w.st) (Qh w.st t) 0 ((Qy path).take ((Qy path).length -1))).getD (-1):=rfl;cases hg:QbF (Qf w.st) (Qh w.st t) 0 ((Qy path).take ((Qy path).length -1)) with
 |none=>grind
 |some j=>
  rw[hg] at h0 hdef;have hj:Qae w.st t ((Qy path).take ((Qy path).length -1))=j:=hdef;have hjb:=Qne w.st (Qh w.st t) _ 0 (by omega) (by omega) j hg;obtain⟨a,ha⟩:=Int.eq_ofNat_of_zero_le hjb.1;subst ha;simp only[Option.bind_some,A0] at h0;rw[<-QhI w.st ht a] at h0;cases hf:(Qf w.st (Q5 w.st t a).1).1.find? (fun e=>e.1==(Qy path).getD ((Qy path).length -1) []) with
  |none=>grind
  |some e=>
   have hk:(Q5 w.st t a).1.kind=2:=by
    grind [QfV,Qd4]
   have hp:QI w t path=((a:Int),0):=by
    unfold QI
    grind
   rw[hp];exact⟨hn,rfl,a,by omega,rfl,(by obtain⟨i,h1,h2⟩:=Qmk hf;grind)⟩
theorem Qqp(h:w.W N)(ht:Qx t){id many:Nat}(hid:id<16)(hm:many<=16){l:List Pl.Ptr}(hl: ∀p∈l,Pl.ptrOk p=true)(hn:l.length<=21):(Qa0 w t id l many).1.W (N+65):=by
 have h1:=Qfb ((Qnb h hl).le (M:=N+21) (by omega)) ht hid [];unfold Qa0;split
 ·grind [cut_W]
 ·exact h1.1.le (by omega)
def Qah(f:Q4)(path:List UInt8):Q4:=
 QR f (QI f.1 f.2.1 path).1.toNat ((Qf f.1.st (Ql f (QI f.1 f.2.1 path).1.toNat)).1.take (Qa2 (Qf f.1.st (Ql f (QI f.1 f.2.1 path).1.toNat)).1 (QJ path)).toNat++(Qf f.1.st (Ql f (QI f.1 f.2.1 path).1.toNat)).1.drop ((Qa2 (Qf f.1.st (Ql f (QI f.1 f.2.1 path).1.toNat)).1 (QJ path)).toNat+1))
def QcH(f:Q4)(id:Nat):Q4:=
 ((Qa0 f.1 f.2.1 id (Qao f.1.st (Ql f id).tree) (Qam (Qc f.1.st f.2.1) id)).1,(Qa0 f.1 f.2.1 id (Qao f.1.st (Ql f id).tree) (Qam (Qc f.1.st f.2.1) id)).2.1,!(Qa0 f.1 f.2.1 id (Qao f.1.st (Ql f id).tree) (Qam (Qc f.1.st f.2.1) id)).2.2)
def QbP(f:Q4)(path:List UInt8):Q4×Int:=
 if QE f.1 f.2.1 path<0 then(f,2) else
 if QE f.1 f.2.1 path=0∨((Ql f (QE f.1 f.2.1 path).toNat).kind=2/\0<(Ql f (QE f.1 f.2.1 path).toNat).size) then(f,5) else
 if 0<(Ql f (QE f.1 f.2.1 path).toNat).links -1 then(Qaq (Qah f path) (QE f.1 f.2.1 path).toNat {Ql f (QE f.1 f.2.1 path).toNat with links:=(Ql f (QE f.1 f.2.1 path).toNat).links -1},0) else
 if(Qah f path).2.2 then(Qah f path,0) else(QcH (Qah f path) (QE f.1 f.2.1 path).toNat,0)

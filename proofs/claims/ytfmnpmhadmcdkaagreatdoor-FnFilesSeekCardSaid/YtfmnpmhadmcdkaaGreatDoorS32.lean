/- Of fsk_card; no condition. -/
import Derived.Test.YtfmnpmhadmcdkaaGreatDoorS30
set_option linter.all false
set_option maxRecDepth 100000
set_option maxHeartbeats 16000000
open Bool renaming and_eq_true->A0,false_eq_true->A2
open Go.Proofs.Tryz renaming underlying23->A3,prog->A5
open Int renaming toNat_natCast->A4
open List renaming length_append->A1,length_take->A6,replicate->A7
open Nat renaming zero_add->A8
namespace Go.Proofs.YtfmnpmhadmcdkaaGreatDoor
noncomputable section
open Go.RowKit
namespace Aw
variable{t:Pl.Tree}{w:Pl.Sto}
attribute [local irreducible] ASeq ADraw AWP Loc mget mset AStep Fg.PlanF Fg.Flts
def QlN:Does A5 55 [.d (.v (.slice none 0 0))] [] [] (.osl 0 0 0 0) [.arr 0 1 9 []]:=by
 refine kL ?hpin fun gvs=>?_
 case hpin=>intro i C hC;simp at hC
 simp only[parA,gslot,A8,Nat.reduceAdd]
 repeat' first|refine kS ?_|refine qS (QoE A3 rfl) ?_|refine kU ?_|fail
 refine QeR 2 1 9 (h:=?_);refine Qee [2,1000000] 1 (H':=[.arr 0 1 9 []]) (hH:=fun R hR=>hR) (h:=?_);exact QdB (hx:=rfl) (hH:=rfl)
def QlM(l:List (List UInt8))(hl:l.length<=1000000)(hn:l≠[]):Does A5 55 [.d (tStrs l)] [] [] (.osl 0 1 0 l.length) [.arr 1 1 9 (l.map fun s=>[dS s])]:=by
 refine kL ?hpin fun gvs=>?_
 case hpin=>intro i C hC;simp at hC
 simp only[parA,gslot,A8,Nat.reduceAdd];obtain⟨a,l,rfl⟩:=List.exists_cons_of_ne_nil hn
 repeat' first|refine kS ?_|refine qS (Qmw A3 rfl) ?_|refine(Qet Ty.h rfl Ty.h (hcell:=?_) (hb:=?_) (kk:=?_))|refine kU ?_|fail
 ·intro r hr d hd
  obtain⟨y,_,rfl⟩:=List.mem_map.1 hr;obtain rfl:=List.mem_singleton.1 hd;rfl
 ·show(0+((a::l).map fun s=>[dS s]).length)*16<=140737488355328
  rw[List.length_map];omega
 ·refine Qee [2,1000000] 1 (H':=[.arr 1 1 9 ((a::l).map fun s=>[dS s])]) (hH:=fun R hR=>hR) (h:=?_)
  exact QdB (hx:=rfl) (hH:=rfl)
theorem QoW(E:Qj->List Qq×Bool)(ns:List Qj)(b:List UInt8): ∀(q:List (List UInt8)) (i:Int),QbC E ns i (q++[b])=(QbC E ns i q).bind fun j=>((E (ns.getD j.toNat Qd)).1.find? (fun e=>e.1==b)).map (·.2)
 :=by intro l;induction l<;>grind [Qho,Qi9]
theorem Qpe{l:List (List UInt8)}(h:l≠[]):l=l.take (l.length -1)++[l.getD (l.length -1) []]:=by
 have hl:=List.length_pos_iff.2 h
 have h1:l.take (l.length -1)++[l.getD (l.length -1) []]=l.take (l.length -1+1):=by
  grind [List.take_add_one]
 grind
theorem Qfa(ht:Qx t){path:List UInt8}(h0:0<=QE w t path)(h1:QE w t path≠0):
 Qy path≠[]/\(QJ w t path).2=0/\ ∃a:Nat,a<16/\(QJ w t path).1=a/\ ∃i:Nat,i<(Qg w.st (Q5 w.st t a).1).1.length/\Qa2 (Qg w.st (Q5 w.st t a).1).1 (QK path)=i:=by
 have hn:Qy path≠[]:=fun h=>h1 (by unfold QE Qaf QbB;grind [Qi9])
 have hs:=Qpe hn;unfold QE Qaf QbB at h0;rw[hs,QoW] at h0;have hfb:=QdF w.st t ((Qy path).take ((Qy path).length -1));have hdef:Qaf w.st t ((Qy path).take ((Qy path).length -1))=(QbC (Qg w.st) (Qk w.st t) 0 ((Qy path).take ((Qy path).length -1))).getD (-1):=rfl;cases hg:QbC (Qg w.st) (Qk w.st t) 0 ((Qy path).take ((Qy path).length -1)) with
 |none=>grind
 |some j=>
  rw[hg] at h0 hdef;have hj:Qaf w.st t ((Qy path).take ((Qy path).length -1))=j:=hdef;have hjb:=QmJ w.st (Qk w.st t) _ 0 (by omega) (by omega) j hg;obtain⟨a,ha⟩:=Int.eq_ofNat_of_zero_le hjb.1;subst ha;simp only[Option.bind_some,A4] at h0;rw[<-Qh6 w.st ht a] at h0;cases hf:(Qg w.st (Q5 w.st t a).1).1.find? (fun e=>e.1==(Qy path).getD ((Qy path).length -1) []) with
  |none=>grind
  |some e=>
   have hk:(Q5 w.st t a).1.kind=2:=by
    grind [QiD,QdG]
   have hp:QJ w t path=((a:Int),0):=by
    unfold QJ
    grind
   rw[hp];exact⟨hn,rfl,a,by omega,rfl,(by obtain⟨i,h1,h2⟩:=QlS hf;grind)⟩
def Qbz(w:Pl.Sto)(n:Qj)(size:Nat):Pl.Sto×Qj×Bool:=
 if n.size<=size then
  if(((size+11)/12:Nat):Int)=n.tree.many then(w,{n with size:=size},true) else
  ((Qm w n.tree ((size+11)/12 -1) []).1,{n with size:=size,tree:=(Qm w n.tree ((size+11)/12 -1) []).2.1},(Qm w n.tree ((size+11)/12 -1) []).2.2)
 else if(QM w n.tree ((size+11)/12)).2.2=false then((QM w n.tree ((size+11)/12)).1,n,false)
 else if(size+11)/12=0 then((QM w n.tree ((size+11)/12)).1,{n with tree:=(QM w n.tree ((size+11)/12)).2.1,size:=size},true)
 else Qa8 (QM w n.tree ((size+11)/12)).1 {n with tree:=(QM w n.tree ((size+11)/12)).2.1,size:=size} ((QbR n.size (Qc w.st n.tree) n.tree.many.toNat).take size) ((size+11)/12 -1) ((size+11)/12 -1)
theorem cut_sim{m:Nat}(h:(QM w t m).2.2=false):QcD w (QM w t m).1:=by grind [QM,Qi0]
attribute [local irreducible] EndR Fk.PlanF Fk.Flts Fk.AStepM Fk.Grew Fk.Gs
theorem eCut13(g:Nat)(w:Pl.Sto)(N:Nat)(hN:N<=600000)(hw:w.W N)(n:Qj)(ht:Qx n.tree)(hs:0<=n.size/\n.size<=192)(hmany:n.tree.many=(n.size+11)/12)(size:Nat)(hz:size<=192):
 DoesE A5 229 [oS g w,.d (dNode n),.d (dI size)] (hS g w) (gS g w) (fun x H=>x= .tup [oS (g+1) (Qbz w n size).1,.d (dNode (Qbz w n size).2.1),.d (dB (Qbz w n size).2.2)]/\H=hS (g+1) (Qbz w n size).1):=by
 refine DoesE.tag (X:=fun g'=> .tup [oS g' (Qbz w n size).1,.d (dNode (Qbz w n size).2.1),.d (dB (Qbz w n size).2.2)]) (C:=fun _=>True) ?_ QfU;have c1:=QlX w.st hw.good n ht ⟨hs.1,by omega⟩;have hge:=t13_ge n.size (Qc w.st n.tree) n.tree.many.toNat;have hle:=QpH n.size (Qc w.st n.tree) (texts_le w.st hw.good n.tree) n.tree.many.toNat;have hmh:=ht.manyHi;have hml:=ht.manyLo;have c2:=QjL size 12 (by omega) (by omega) (by omega) (by omega);rw[show((size:Int)+12 -1)/12=(((size+11)/12:Nat):Int) by omega] at c2;have hd:=Pm.hid (Qbz.eq_def w n size);generalize Qbz w n size=res at*;generalize QbR n.size (Qc w.st n.tree) n.tree.many.toNat=all at*;have hmz:(size+11)/12<=16/\size<=12*((size+11)/12)/\12*((size+11)/12)<=size+11:=by omega
 have hbig:n.size<=size->(((size+11)/12:Nat):Int)≠n.tree.many->1<=(size+11)/12:=by omega
 have hall:size<n.size->size<=all.length:=by intro h;split at hge<;>omega
 generalize (size+11)/12=m at*;have cz:=alZeros ((size:Int) -all.length) (by omega);have hzl:(A7 ((size:Int) -all.length).toNat (0:UInt8)).length<=192:=by rw[List.length_replicate];omega
 generalize A7 ((size:Int) -all.length).toNat (0:UInt8)=zs at*
 by_cases h1:n.size<=size
 ·rw[if_pos h1] at hd
  have hq1:decide ((size:Int)≥n.size)=true:=by simpa using h1
  by_cases h2:(m:Int)=n.tree.many
  ·rw[if_pos h2] at hd
   have hq2:((m:Int)==n.tree.many)=true:=by simpa using h2
   refine kH fun gvs=>?_
   repeat' first|refine kS ?_|refine qS (QcZ cK c1 hw) ?_|refine qS (QcX rfl rfl (by first|omega|(simp only[A1];omega))) ?_|(show AWP _ (.region 7 _ _) _ _;refine(Qa 6 (h:=Fg.awp_drawF (id:=7) [1] [2,3] ?_)))|refine kU ?_|refine kV ?_ ?_<;>intro q|fail
   all_goals first|exact absurd (‹decide ((size:Int)≥n.size)=false›.symm.trans hq1) (by decide)|exact absurd (‹((m:Int)==n.tree.many)=false›.symm.trans hq2) (by decide)|refine QN 5 (hx:=?_);rw[hd.out];exact⟨_,trivial,rfl,rfl⟩
  ·rw[if_neg h2] at hd
   have hq2:((m:Int)==n.tree.many)=false:=by simpa using h2
   have hm1:=hbig h1 h2;have cP:=(ePut g w N (by omega) hw n.tree ht (m -1) (by omega) [] (by simp)).tag3;have hWc:=(QeV hw ht (k:=m -1) (by omega) []).1;have hsg:=Qeh (w:=w) (t:=n.tree) (k:=m -1) (text:=[]);generalize Qm w n.tree (m -1) []=y at*;obtain⟨w2,t2,ok2⟩:=y;simp only at cP hWc hd hsg;rw[show((m -1:Nat):Int)=(m:Int) -1 by omega] at cP;have v0:w2.rows.length=w.rows.length:=by rw[hWc.rows,hw.rows]
   have v1:w2.refs.length=w.refs.length:=by rw[hWc.refs,hw.refs]
   have v2:w2.last.length=w.last.length:=by rw[hWc.last,hw.last]
   have v3:ok2=false->w2.gone.length=w.gone.length:=fun e=>by rw[(hsg e).1]
   clear hsg hWc;cases ok2<;>simp only[A2,if_false,if_true,forall_const] at cP v3
   all_goals
    refine kH fun gvs=>?_
    repeat' first|refine kS ?_|refine qS (QcZ cK c1 hw) ?_|refine qS (QcX rfl rfl (by first|omega|(simp only[A1];omega))) ?_|refine QA [0,1,2,3,4] cP cK (k:=kX ?_)|(show AWP _ (.region 10 _ _) _ _;refine(Qa 6 (h:=Fg.awp_drawF (id:=10) [1,2] [3,4] ?_)))|refine kU ?_|refine kV ?_ ?_<;>intro q|fail
    all_goals first|exact absurd (‹decide ((size:Int)≥n.size)=false›.symm.trans hq1) (by decide)|exact absurd (‹((m:Int)==n.tree.many)=true›.symm.trans hq2) (by decide)|refine QN 5 (hx:=?_);rw[hd.out];exact⟨_,trivial,rfl,rfl⟩
 rw[if_neg h1] at hd;have hq1:decide ((size:Int)≥n.size)=false:=by simpa using h1
 have hsa:=hall (by omega);have cP:=(eCut g w N (by omega) hw n.tree ht m hmz.1).tag3;have hWc:=cut_W hw ht (many:=m) hmz.1;have hsg:=cut_sim (w:=w) (t:=n.tree) (m:=m);generalize QM w n.tree m=y at*;obtain⟨w2,t2,ok2⟩:=y;simp only at cP hWc hd hsg;have v0:w2.rows.length=w.rows.length:=by rw[hWc.1.rows,hw.rows]
 have v1:w2.refs.length=w.refs.length:=by rw[hWc.1.refs,hw.refs]
 have v2:w2.last.length=w.last.length:=by rw[hWc.1.last,hw.last]
 cases ok2
 ·simp only[A2,if_false,if_true] at cP hd
  obtain⟨z1,z2,z3⟩:=hsg rfl;have v3:w2.gone.length=w.gone.length:=by rw[z1]
  have hse:oS g w=oS g w2:=by simp only[oS,z1,z2,z3]
  clear hWc;refine kH fun gvs=>?_
  repeat' first|refine kS ?_|refine qS (QcZ cK c1 hw) ?_|refine QA [0,1,2,3,4] cP cK (k:=kX ?_)|(show AWP _ (.region 13 _ _) _ _;refine(Qa 6 (h:=Fg.awp_drawF (id:=13) [1] [2,3] ?_)))|refine kU ?_|refine kV ?_ ?_<;>intro q|fail
  all_goals first|exact absurd (‹decide ((size:Int)≥n.size)=true›.symm.trans hq1) (by decide)|refine QN 5 (hx:=?_);rw[hd.out];exact⟨g,trivial,by rw[<-hse];rfl,rfl⟩
 simp only[Bool.true_eq_false,if_false,if_true] at cP hd;clear hsg
 by_cases hm0:m=0
 ·rw[if_pos hm0] at hd
  subst hm0;refine kH fun gvs=>?_
  repeat' first|refine kS ?_|refine qS (QcZ cK c1 hw) ?_|refine QA [0,1,2,3,4] cP cK (k:=kX ?_)|(show AWP _ (.region 17 _ _) _ _;refine(Qa 6 (h:=Fg.awp_drawF (id:=17) [1] [2,3] ?_)))|refine kU ?_|refine kV ?_ ?_<;>intro q|fail
  all_goals first|exact absurd (‹decide ((size:Int)≥n.size)=true›.symm.trans hq1) (by decide)|refine QN 5 (hx:=?_);rw[hd.out];exact⟨_,trivial,rfl,rfl⟩|exfalso;simp at*;done
 rw[if_neg hm0] at hd;have hqm:((m:Int)==0)=false:=by simpa using hm0
 have c5:=ePut13 (g+1) w2 (N+29) (by omega) hWc.1 {n with tree:=t2,size:=size} hWc.2 (all.take size) (by rw[A6];omega) (m -1) (m -1) (by omega) (by omega) (by rw[A6];omega);have hWd:=(QhP hWc.1 (n:={n with tree:=t2,size:=size}) hWc.2 (text:=all.take size) (a:=m -1) (b:=m -1) (by omega)).1;generalize Qa8 w2 {n with tree:=t2,size:=size} (all.take size) (m -1) (m -1)=z at*;obtain⟨w3,n3,ok3⟩:=z;simp only at c5 hWd hd;rw[show((m -1:Nat):Int)=(m:Int) -1 by omega,show all.take size=all.take ((size:Nat):Int).toNat by rw[A4]] at c5;have u0:w3.rows.length=w.rows.length:=by rw[hWd.rows,hw.rows]
 have u1:w3.refs.length=w.refs.length:=by rw[hWd.refs,hw.refs]
 have u2:w3.last.length=w.last.length:=by rw[hWd.last,hw.last]
 clear hWc hWd;refine kH fun gvs=>?_
 repeat' first|refine kS ?_|refine qS (QcZ cK c1 hw) ?_|refine QA [0,1,2,3,4] cP cK (k:=kX ?_)|refine qD (QfH rfl rfl rfl (by omega) (by omega)) ?_|refine QeL [0,1,2,3,4] c5 cK (k:=kZ ?_)|(show AWP _ (.region 18 _ _) _ _;refine(Qa 6 (h:=Fg.awp_drawF (id:=18) [] [9,13,14] ?_)))|refine kU ?_|refine kV ?_ ?_<;>intro q|fail
 all_goals first|exact absurd (‹decide ((size:Int)≥n.size)=true›.symm.trans hq1) (by decide)|exact absurd (‹((m:Int)==0)=true›.symm.trans hqm) (by decide)|refine QN 5 (hx:=?_);rw[hd.out];exact⟨_,trivial,rfl,rfl⟩
theorem QpE{N:Nat}(h:w.W N)(ht:Qx t){id many:Nat}(hid:id<16)(hm:many<=16){l:List Pl.Ptr}(hl: ∀p∈l,Pl.ptrOk p=true)(hn:l.length<=21):(Qay w t id l many).1.W (N+65):=by
 have h1:=QeV ((QmH h hl).le (M:=N+21) (by omega)) ht hid [];unfold Qay;split
 ·grind [cut_W]
 ·exact h1.1.le (by omega)
def Qah(f:Q4)(path:List UInt8):Q4:=
 QW f (QJ f.1 f.2.1 path).1.toNat ((Qg f.1.st (Ql f (QJ f.1 f.2.1 path).1.toNat)).1.take (Qa2 (Qg f.1.st (Ql f (QJ f.1 f.2.1 path).1.toNat)).1 (QK path)).toNat++(Qg f.1.st (Ql f (QJ f.1 f.2.1 path).1.toNat)).1.drop ((Qa2 (Qg f.1.st (Ql f (QJ f.1 f.2.1 path).1.toNat)).1 (QK path)).toNat+1))
def QcA(f:Q4)(id:Nat):Q4:=
 ((Qay f.1 f.2.1 id (Qan f.1.st (Ql f id).tree) (Qal (Qc f.1.st f.2.1) id)).1,(Qay f.1 f.2.1 id (Qan f.1.st (Ql f id).tree) (Qal (Qc f.1.st f.2.1) id)).2.1,!(Qay f.1 f.2.1 id (Qan f.1.st (Ql f id).tree) (Qal (Qc f.1.st f.2.1) id)).2.2)
def QbJ(f:Q4)(path:List UInt8):Q4×Int:=
 if QE f.1 f.2.1 path<0 then(f,2) else
 if QE f.1 f.2.1 path=0∨((Ql f (QE f.1 f.2.1 path).toNat).kind=2/\0<(Ql f (QE f.1 f.2.1 path).toNat).size) then(f,5) else
 if 0<(Ql f (QE f.1 f.2.1 path).toNat).links -1 then(Qaq (Qah f path) (QE f.1 f.2.1 path).toNat {Ql f (QE f.1 f.2.1 path).toNat with links:=(Ql f (QE f.1 f.2.1 path).toNat).links -1},0) else
 if(Qah f path).2.2 then(Qah f path,0) else(QcA (Qah f path) (QE f.1 f.2.1 path).toNat,0)
theorem Qqn(s:Pm.Store)(t:Pl.Tree)(k:Nat)(h:(Q5 s t k).1.kind=1):(0<=(Q5 s t k).1.size/\(Q5 s t k).1.size<=192)/\(Q5 s t k).1.tree.many=((Q5 s t k).1.size+11)/12:=by
 unfold Q5 at h⊢;split
 ·rename_i h1
  rw[if_pos h1] at h;rcases QfV ((Qc s t).getD k []) with h2|h2
  ·have h3:=h2.1.1
   unfold Q8 at h3;have hb:=QdZ h2.1.1;simp only[A0,beq_iff_eq,decide_eq_true_eq] at h3
   have h4: ∀x:Int,Qac 1 x=if Pl.inR x 0 192 then(x+11)/12 else -1:=fun x=>by
    unfold Qac;rw[show QaV 1=12 from rfl,if_neg (by decide)]
    grind
   have hm:=hb.many
   have h5:(Qp ((Qc s t).getD k [])).1.tree.many=Qac 1 (Qp ((Qc s t).getD k [])).1.size:=by
    grind
   rw[h4] at h5;split at h5
   ·rename_i h6
    unfold Pl.inR at h6
    grind
   ·omega
  ·rw[h2] at h;exact absurd h (by decide)
 ·rename_i h1
  rw[if_neg h1] at h;exact absurd h (by decide)
structure QbF where
 kind:Int
 path:List UInt8
 pto:List UInt8
 at':Nat
 text:List UInt8
abbrev dOp(o:QbF):D:= .agg [dI o.kind,dS o.path,dS o.pto,dI o.at',dS o.text]
def QbD(f:Q4)(n:Qj)(o:QbF):Pl.Sto×Qj×Bool:=if o.kind=3 then Qby f.1 n o.at' o.text else Qbz f.1 n o.at'
def Qbb(f:Q4)(o:QbF):Q4×Int:=
 if QE f.1 f.2.1 o.path<0 then(f,2) else
 if(Ql f (QE f.1 f.2.1 o.path).toNat).kind≠1 then(f,4) else
 if 192<o.at'+o.text.length then(f,6) else
 (Qaq ((QbD f (Ql f (QE f.1 f.2.1 o.path).toNat) o).1,f.2.1,!(QbD f (Ql f (QE f.1 f.2.1 o.path).toNat) o).2.2) (QE f.1 f.2.1 o.path).toNat (QbD f (Ql f (QE f.1 f.2.1 o.path).toNat) o).2.1,0)
abbrev dOpI(k:Int)(path pt:List UInt8)(a:Int)(text:List UInt8):D:= .agg [dI k,dS path,dS pt,dI a,dS text]
structure OpFit(k:Int)(path pt:List UInt8)(a:Int)(text:List UInt8):Prop where
 kind:1<=k/\k<=7
 path:(QT path).isSome=true
 two:k=6∨k=7->(QT pt).isSome=true
 text:text.length<=24
 at':0<=a/\a<=192
def eOpOk(k:Int)(path pt:List UInt8)(a:Int)(text:List UInt8)(hp:path.length<=1000)(ht:pt.length<=1000):
 DoesE A5 89 [.d (dOpI k path pt a text)] [] [] (fun x H=> ∃b:Bool,(b=true->OpFit k path pt a text)/\x= .d (dB b)/\H=[]):=by
 have c1:=al6In k 1 7;have c2:=aPathOk path (by omega);have c3:=aPathOk pt (by omega);have c4:=al6In a 0 192;have h4:Pl.inR a 0 192=true->0<=a/\a<=192:=by unfold Pl.inR;simp only[A0,decide_eq_true_eq];exact fun h=>h
 have h1:Hid (Pl.inR k 1 7=true->k=1∨k=2∨k=3∨k=4∨k=5∨k=6∨k=7):=Pm.hid (by unfold Pl.inR;simp only[A0,decide_eq_true_eq];omega);generalize Pl.inR a 0 192=ia at*;generalize hik:Pl.inR k 1 7=ik at*;have hpd:=fun h=>OpFit.mk (k:=k) (path:=path) (pt:=pt) (a:=a) (text:=text) h
 generalize (QT path).isSome=bp at*;generalize (QT pt).isSome=bt at*;cases ik
 ·refine kH fun gvs=>?_
  repeat' first|refine kA ?_|refine kV ?_ ?_<;>intro q|fail
  all_goals first|refine Q1 0 (hx:=?_);exact⟨false,(fun h=>by cases h),rfl,rfl⟩
 rcases h1.out rfl with rfl|rfl|rfl|rfl|rfl|rfl|rfl
 all_goals
  refine kH fun gvs=>?_
  repeat' first|refine kA ?_|refine kV ?_ ?_<;>intro q|fail
  all_goals first|refine Q1 0 (hx:=?_);exact⟨false,(fun h=>by cases h),rfl,rfl⟩|simp only[Bool.not_eq_false',decide_eq_false_iff_not,beq_iff_eq] at*;refine Q1 0 (hx:=?_);exact⟨_,(fun h=>hpd (by omega) (by assumption) (fun _=>by first|assumption|omega) (by omega) (by first|omega|exact h4 h)),rfl,rfl⟩

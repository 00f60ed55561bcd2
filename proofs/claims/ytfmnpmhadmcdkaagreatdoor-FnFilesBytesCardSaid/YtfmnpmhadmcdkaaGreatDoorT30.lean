/- Of fby_card; no condition. -/
import Derived.Test.YtfmnpmhadmcdkaaGreatDoorT27
set_option linter.all false
set_option maxRecDepth 100000
set_option maxHeartbeats 16000000
open Bool renaming and_eq_true->A1
open Go.Proofs.Tryz renaming prog->A2
open Int renaming toNat_natCast->A0
namespace Go.Proofs.YtfmnpmhadmcdkaaGreatDoor
noncomputable section
open Go.RowKit
namespace Aw
variable{t:Pl.Tree}{w:Pl.Sto}
theorem Qde(s:Pm.Store)(t:Pl.Tree)(k:Nat):Qx (Q5 s t k).1.tree/\(0<=(Q5 s t k).1.size/\(Q5 s t k).1.size<=2048):=by
 have h0:Qx Qd.tree/\0<=Qd.size/\Qd.size<=2048:=⟨tgood0,by decide,by decide⟩;unfold Q5;split
 ·rcases Qio ((Qc s t).getD k []) with h|h
  ·exact⟨⟨h.depth.1,h.depth.2,h.ptr,h.many.1,h.many.2⟩,h.size⟩
  grind
 omega
def QcQ(l:List Qq):Prop:=(∀e∈l,e.1.length<=4/\0<=e.2/\e.2<=15)/\l.length<=13
theorem QiE(s:Pm.Store)(n:Qj):QcQ (Qg s n).1:=⟨fun e he=>by
 grind [QiF,Qei],by grind [Qe0]⟩
theorem QiH: ∀l:List Qq,(∀e∈l,e.1.length<=4/\0<=e.2/\e.2<=15)->(QG l).length<=8*l.length
 |[],_=>by simp[QG]
 |e::l,h=>by
  have h1:=QiH l fun x hx=>h x (List.mem_cons_of_mem _ hx)
  obtain⟨h2,h3,h4⟩:=h e List.mem_cons_self;have h5:=Pl.QcU 1 e.2.toNat (by omega)
  grind [QG,Qas]
def QhZ{l:List Qq}{e:Qq}(h:QcQ l)(hl:l.length<=12)(h1:e.1.length<=4)(h2:0<=e.2)(h3:e.2<=15):QcQ (Qar l e):=
 ⟨fun x hx=>(Qsc hx).elim (fun h4=>h4▸⟨h1,h2,h3⟩) (h.1 x),by rw[Qsd];omega⟩
theorem Qlz{l:List Qq}(h:QcQ l)(i:Nat):QcQ (l.take i++l.drop (i+1)):=
 ⟨fun x hx=>h.1 x ((List.mem_append.1 hx).elim (fun h1=>List.mem_of_mem_take h1) (fun h1=>List.mem_of_mem_drop h1)),by have:=h.2;grind⟩
def EB.text{l:List Qq}(h:QcQ l):(QG l).length<=104:=by have:=QiH l h.1;have:=h.2;omega
theorem QmJ(s:Pm.Store)(ns:List Qj): ∀(q:List (List UInt8)) (i:Int),0<=i->i<=15-> ∀j,QbC (Qg s) ns i q=some j->0<=j/\j<=15
 |[],i,h0,h1,j,h=>by grind [Qi9]
 |n::q,i,h0,h1,j,h=>by
  rw[Qho] at h;split at h
  ·cases h
  ·rename_i e he
   have:=QiF s (ns.getD i.toNat Qd) e (List.mem_of_find?_eq_some he);exact QmJ s ns q e.2 (by omega) this.2.2 j h
theorem QdF(s:Pm.Store)(t:Pl.Tree)(q:List (List UInt8)):Qaf s t q<0∨ ∃a:Nat,a<16/\Qaf s t q=a:=by
 unfold Qaf QbB;cases h:QbC (Qg s) (Qk s t) 0 q with
 |none=>grind
 |some j=>
  have:=QmJ s (Qk s t) q 0 (by omega) (by omega) j h;exact .inr ⟨j.toNat,by omega,by grind⟩
theorem Qf2(w:Pl.Sto)(t:Pl.Tree)(path:List UInt8):(∃a:Nat,a<16/\(QJ w t path).1=a)/\0<=(QJ w t path).2/\((QJ w t path).2=0->Qy path≠[]):=by
 unfold QJ;split
 ·exact⟨⟨0,by omega,rfl⟩,by omega,fun h=>absurd h (by decide)⟩
 grind [QdF]
theorem Qgc(w:Pl.Sto)(t:Pl.Tree)(path:List UInt8):(∃a:Nat,a<16/\(Qam w t path).1=a)/\0<=(Qam w t path).2/\((Qam w t path).2=0->Qy path≠[]):=by
 have h:=Qf2 w t path;unfold Qam;split
 ·rename_i h0
  exact⟨⟨0,by omega,rfl⟩,h.2.1,fun h1=>absurd h1 (by omega)⟩
 ·rename_i h0
  split
  ·exact⟨⟨0,by omega,rfl⟩,by omega,fun h1=>absurd h1 (by decide)⟩
  grind
abbrev QK(path:List UInt8):List UInt8:=(Qy path).getD ((Qy path).length -1) []
def QbA(f:Q4)(path:List UInt8)(kind:Int):Q4×Int:=
 if 0<(Qam f.1 f.2.1 path).2 then(f,(Qam f.1 f.2.1 path).2) else
 match QbN (Qc f.1.st f.2.1) with
 |none=>(f,6)
 |some id=>if 12<=(Qg f.1.st (Ql f (Qam f.1 f.2.1 path).1.toNat)).1.length then(f,6) else
  (QW (Qaq f id ⟨kind,1,0,⟨Pl.hole,0,0⟩⟩) (Qam f.1 f.2.1 path).1.toNat (Qar (Qg f.1.st (Ql f (Qam f.1 f.2.1 path).1.toNat)).1 (QK path,id)),0)
attribute [local irreducible] ASeq ADraw AWP Loc AStep Fg.PlanF Fg.Flts EndR Fk.PlanF Fk.Flts Fk.AStepM Fk.Grew Fk.Gs
theorem eMakeF(g:Nat)(f:Q4)(N:Nat)(hN:N<=500000)(hw:f.1.W N)(ht:Qx f.2.1)(path:List UInt8)(hp:path.length<=900)(hb:(QK path).length<=4)(kind:Int):
 DoesE A2 148 [.ptr 5 0 0,.d (dS path),.d (dI kind)] (hF g f) (gF g f.1) (fun x H=>x= .d (dI (QbA f path kind).2)/\H=hF (g+1) (QbA f path kind).1):=by
 refine DoesE.tagF (C:=fun _=>True) ?_ Qdp;have c1:=aFresh f.1 N hw f.2.1 ht f.2.2 path hp;obtain⟨⟨a,ha,hae⟩,h2,h3⟩:=Qgc f.1 f.2.1 path;have c2:=QtG f.1.st hw.good f.2.1 ht;have hd:=Pm.hid (QbA.eq_def f path kind);rw[hae,A0] at hd;have c3:=Qfg g f N hw ht a;have hes:=QiE f.1.st (Ql f a);have hel:=Qe0 f.1.st (Ql f a);have hidl:=fun id=>Qi7 (l:=Qc f.1.st f.2.1) (k:=id)
 generalize QbA f path kind=res at*;generalize Qam f.1 f.2.1 path=p at*;obtain⟨p1,p2⟩:=p;simp only at hae h2 h3 hd c1;subst hae
 by_cases h0:0<p2
 ·rw[if_pos h0] at hd
  clear c2 c3;have hq:decide (p2>0)=true:=decide_eq_true h0;refine kH fun gvs=>?_
  repeat' first|refine kS ?_|refine qS (QY (fs:=f) cK c1 hw) ?_|refine kU ?_|refine kV ?_ ?_<;>intro q|fail
  all_goals first|exact absurd (hq.symm.trans ‹decide (p2>0)=false›) (by decide)|refine Q1 6 (hx:=?_);rw[hd.out];exact⟨g,trivial,rfl,rfl⟩
 rw[if_neg h0] at hd;have hq:decide (p2>0)=false:=decide_eq_false h0;have hne:=h3 (by omega);have c6:=Qhe path (by omega) hne;generalize (Qg f.1.st (Ql f a)).1=l at*;cases hfr:QbN (Qc f.1.st f.2.1) with
 |none=>
  rw[hfr] at c2 hd;simp only at hd;refine kH fun gvs=>?_
  repeat' first|refine kS ?_|refine qS (QY (fs:=f) cK c1 hw) ?_|refine qD (QcZ cK c2 hw) ?_|refine Qdg [0,1,2,3,4,5] c3 cK (k:=kX ?_)|refine kU ?_|refine kV ?_ ?_<;>intro q|fail
  all_goals first|exact absurd (hq.symm.trans ‹decide (p2>0)=true›) (by decide)|refine Q1 6 (hx:=?_);rw[hd.out];exact⟨g,trivial,rfl,rfl⟩
 |some id=>
  rw[hfr] at c2 hd;simp only at hd;have hid:=(hidl id hfr).1
  replace c2:Pure A2 216 [dSt f.1.st,dTree f.2.1] (dI id):=c2
  by_cases h12:12<=l.length
  ·rw[if_pos h12] at hd
   refine kH fun gvs=>?_
   repeat' first|refine kS ?_|refine qS (QY (fs:=f) cK c1 hw) ?_|refine qD (QcZ cK c2 hw) ?_|refine Qdg [0,1,2,3,4,5] c3 cK (k:=kX ?_)|refine kU ?_|refine kV ?_ ?_<;>intro q|fail
   all_goals first|exact absurd (hq.symm.trans ‹decide (p2>0)=true›) (by decide)|exfalso;simp only[decide_eq_true_eq,decide_eq_false_iff_not] at*;omega|refine Q1 6 (hx:=?_);rw[hd.out];exact⟨g,trivial,rfl,rfl⟩
  rw[if_neg h12] at hd;have c4:=ePutF g f N (by omega) hw ht id hid ⟨kind,1,0,⟨Pl.hole,0,0⟩⟩ (QdR _);have hWp:=QgL hw ht hid ⟨kind,1,0,⟨Pl.hole,0,0⟩⟩;have c5:=al12Add l (QK path,(id:Int)) (by omega);have hae:=QhZ (e:=(QK path,(id:Int))) hes hel hb (by simp) (by simp;omega);generalize Qaq f id ⟨kind,1,0,⟨Pl.hole,0,0⟩⟩=f2 at*;generalize Qar l (QK path,(id:Int))=l2 at*;have c7:=eWriteF (g+1) f2 (N+15) (by omega) hWp.1 hWp.2 a ha (fun _=>(Qde _ _ _).1) l2 hae.1 (by have:=hae.2;omega) (by have:=EB.text hae;omega);have hWr:=(Qd6 hWp.1 hWp.2 ha (fun _=>(Qde _ _ _).1) l2).1;generalize QW f2 a l2=f3 at*;have v0:f3.1.rows.length=f.1.rows.length:=by rw[hWr.rows,hw.rows]
  have v1:f3.1.refs.length=f.1.refs.length:=by rw[hWr.refs,hw.refs]
  have v2:f3.1.last.length=f.1.last.length:=by rw[hWr.last,hw.last]
  clear hWp hWr;refine kH fun gvs=>?_
  repeat' first|refine kS ?_|refine qS (QY (fs:=f) cK c1 hw) ?_|refine qD (QcZ cK c2 hw) ?_|refine Qdg [0,1,2,3,4,5] c3 cK (k:=kX ?_)|refine Qdg [0,1,2,3,4,5] c4 cK (k:=kX ?_)|refine Qdg [0,1,2,3,4,5] c7 cK (k:=kX ?_)|refine kU ?_|refine kV ?_ ?_<;>intro q|fail
  all_goals first|exact absurd (hq.symm.trans ‹decide (p2>0)=true›) (by decide)|exfalso;simp only[decide_eq_true_eq,decide_eq_false_iff_not] at*;omega|refine Q1 6 (hx:=?_);rw[hd.out];exact⟨_,trivial,rfl,rfl⟩
theorem Qjs(s:Pm.Store)(t:Pl.Tree)(k:Nat):0<=(Q5 s t k).1.links/\(Q5 s t k).1.links<=9:=by
 have h0:0<=Qd.links/\Qd.links<=9:=by decide
 unfold Q5;split
 ·rcases Qio ((Qc s t).getD k []) with h|h
  ·have:=h.links;omega
  grind
 omega
def QbI(f:Q4)(path pt:List UInt8):Q4×Int:=
 if QE f.1 f.2.1 path<0 then(f,2) else
 if(Ql f (QE f.1 f.2.1 path).toNat).kind≠1 then(f,4) else
 if 0<(Qam f.1 f.2.1 pt).2 then(f,(Qam f.1 f.2.1 pt).2) else
 if 9<=(Ql f (QE f.1 f.2.1 path).toNat).links∨12<=(Qg f.1.st (Ql f (Qam f.1 f.2.1 pt).1.toNat)).1.length then(f,6) else
 (QW (Qaq f (QE f.1 f.2.1 path).toNat {Ql f (QE f.1 f.2.1 path).toNat with links:=(Ql f (QE f.1 f.2.1 path).toNat).links+1}) (Qam f.1 f.2.1 pt).1.toNat
   (Qar (Qg f.1.st (Ql f (Qam f.1 f.2.1 pt).1.toNat)).1 (QK pt,QE f.1 f.2.1 path)),0)
theorem eLinkF(g:Nat)(f:Q4)(N:Nat)(hN:N<=500000)(hw:f.1.W N)(ht:Qx f.2.1)(path pt:List UInt8)(hp:path.length<=900)(hp2:pt.length<=900)(hb:(QK pt).length<=4):
 DoesE A2 150 [.ptr 5 0 0,.d (dS path),.d (dS pt)] (hF g f) (gF g f.1) (fun x H=>x= .d (dI (QbI f path pt).2)/\H=hF (g+1) (QbI f path pt).1):=by
 refine DoesE.tagF (C:=fun _=>True) ?_ Qdp;have c0:=aFind f.1 N hw f.2.1 ht f.2.2 path hp;have c1:=aFresh f.1 N hw f.2.1 ht f.2.2 pt hp2;obtain⟨⟨a,ha,hae⟩,h2,h3⟩:=Qgc f.1 f.2.1 pt;have hd:=Pm.hid (QbI.eq_def f path pt);rw[hae,A0] at hd;have c3:=Qfg g f N hw ht a;have hes:=QiE f.1.st (Ql f a);have hel:=Qe0 f.1.st (Ql f a);have hfb:=QdF f.1.st f.2.1 (Qy path);rw[show Qaf f.1.st f.2.1 (Qy path)=QE f.1 f.2.1 path from rfl] at hfb;generalize QbI f path pt=res at*;generalize Qam f.1 f.2.1 pt=p at*;obtain⟨p1,p2⟩:=p;simp only at hae h2 h3 hd c1;subst hae;generalize QE f.1 f.2.1 path=i at*;rcases hfb with hfb|⟨k,hk,rfl⟩
 ·rw[if_pos hfb] at hd
  have hq:decide (i<0)=true:=decide_eq_true hfb;refine kH fun gvs=>?_
  repeat' first|refine kS ?_|refine qS (QY (fs:=f) cK c0 hw) ?_|refine kU ?_|refine kV ?_ ?_<;>intro q|fail
  all_goals first|exact absurd (hq.symm.trans ‹decide (i<0)=false›) (by decide)|refine Q1 6 (hx:=?_);rw[hd.out];exact⟨g,trivial,rfl,rfl⟩
 rw[if_neg (by omega),A0] at hd;have hq0:decide ((k:Int)<0)=false:=decide_eq_false (by omega);have c4:=aNode f.1 N hw f.2.1 ht f.2.2 k;have hln:=Qjs f.1.st f.2.1 k;rw[show(Q5 f.1.st f.2.1 k).1=Ql f k from rfl] at c4 hln;have c5:=fun n=>ePutF g f N (by omega) hw ht k hk n (QdR _)
 have hWp:=fun n=>QgL hw ht hk n
 generalize (Qg f.1.st (Ql f a)).1=l at*;generalize Ql f k=n at*
 by_cases h0:0<p2
 ·rw[if_pos h0] at hd
  have hq:decide (p2>0)=true:=decide_eq_true h0;clear c5 hWp c3;refine kH fun gvs=>?_
  repeat' first|refine kS ?_|refine qS (QY (fs:=f) cK c0 hw) ?_|refine qS (QY (fs:=f) cK c4 hw) ?_|refine qS (QY (fs:=f) cK c1 hw) ?_|refine kU ?_|refine kV ?_ ?_<;>intro q|fail
  all_goals first|exact absurd (hq.symm.trans ‹decide (p2>0)=false›) (by decide)|exact absurd (hq0.symm.trans ‹decide ((k:Int)<0)=true›) (by decide)|refine Q1 6 (hx:=?_);rw[hd.out,if_pos (bne_iff_ne.1 ‹(n.kind !=1)=true›)];exact⟨g,trivial,rfl,rfl⟩|refine Q1 6 (hx:=?_);rw[hd.out,if_neg (by simpa using ‹(n.kind !=1)=false›)];exact⟨g,trivial,rfl,rfl⟩
 rw[if_neg h0] at hd;have hq:decide (p2>0)=false:=decide_eq_false h0;have c6:=Qhe pt (by omega) (h3 (by omega))
 replace c5:=c5 {n with links:=n.links+1}
 replace hWp:=hWp {n with links:=n.links+1}
 have c7:=al12Add l (QK pt,(k:Int)) (by omega);have hae:=QhZ (e:=(QK pt,(k:Int))) hes hel hb (by simp) (by simp;omega);generalize Qaq f k {n with links:=n.links+1}=f2 at*;generalize Qar l (QK pt,(k:Int))=l2 at*;have c8:=eWriteF (g+1) f2 (N+15) (by omega) hWp.1 hWp.2 a ha (fun _=>(Qde _ _ _).1) l2 hae.1 (by have:=hae.2;omega) (by have:=EB.text hae;omega);have hWr:=(Qd6 hWp.1 hWp.2 ha (fun _=>(Qde _ _ _).1) l2).1;generalize QW f2 a l2=f3 at*;have v0:f3.1.rows.length=f.1.rows.length:=by rw[hWr.rows,hw.rows]
 have v1:f3.1.refs.length=f.1.refs.length:=by rw[hWr.refs,hw.refs]
 have v2:f3.1.last.length=f.1.last.length:=by rw[hWr.last,hw.last]
 clear hWp hWr;refine kH fun gvs=>?_
 repeat' first|refine kS ?_|refine qS (QY (fs:=f) cK c0 hw) ?_|refine qS (QY (fs:=f) cK c4 hw) ?_|refine qS (QY (fs:=f) cK c1 hw) ?_|refine Qdg [0,1,2,3,4,5] c3 cK (k:=kX ?_)|refine Qdg [0,1,2,3,4,5] c5 cK (k:=kX ?_)|refine Qdg [0,1,2,3,4,5] c8 cK (k:=kX ?_)|refine kU ?_|refine kV ?_ ?_<;>intro q|fail
 all_goals first|exact absurd (hq.symm.trans ‹decide (p2>0)=true›) (by decide)|exact absurd (hq0.symm.trans ‹decide ((k:Int)<0)=true›) (by decide)|refine Q1 6 (hx:=?_);rw[hd.out,if_pos (bne_iff_ne.1 ‹(n.kind !=1)=true›)];exact⟨g,trivial,rfl,rfl⟩|refine Q1 6 (hx:=?_);rw[hd.out,if_neg (by simpa using ‹(n.kind !=1)=false›),if_pos (by simp only[decide_eq_true_eq,decide_eq_false_iff_not] at*;omega)];exact⟨g,trivial,rfl,rfl⟩|refine Q1 6 (hx:=?_);rw[hd.out,if_neg (by simpa using ‹(n.kind !=1)=false›),if_neg (by simp only[decide_eq_false_iff_not] at*;omega)];exact⟨_,trivial,rfl,rfl⟩
theorem QoW(E:Qj->List Qq×Bool)(ns:List Qj)(b:List UInt8): ∀(q:List (List UInt8)) (i:Int),QbC E ns i (q++[b])=(QbC E ns i q).bind fun j=>((E (ns.getD j.toNat Qd)).1.find? (fun e=>e.1==b)).map (·.2)
 :=by intro l;induction l<;>grind [Qho,Qi9]
theorem Qpe{l:List (List UInt8)}(h:l≠[]):l=l.take (l.length -1)++[l.getD (l.length -1) []]:=by
 have hl:=List.length_pos_iff.2 h
 have h1:l.take (l.length -1)++[l.getD (l.length -1) []]=l.take (l.length -1+1):=by
  grind [List.take_add_one]
 grind
theorem Qfa(ht:Qx t){path:List UInt8}(h0:0<=QE w t path)(h1:QE w t path≠0):
 Qy path≠[]/\(QJ w t path).2=0/\ ∃a:Nat,a<16/\(QJ w t path).1=a/\ ∃i:Nat,i<(Qg w.st (Q5 w.st t a).1).1.length/\Qa2 (Qg w.st (Q5 w.st t a).1).1 (QK path)=i:=by
 have hn:Qy path≠[]:=fun h=>h1 (by unfold QE Qaf QbB;grind [Qi9])
 have hs:=Qpe hn;unfold QE Qaf QbB at h0;rw[hs,QoW] at h0;have hfb:=QdF w.st t ((Qy path).take ((Qy path).length -1));have hdef:Qaf w.st t ((Qy path).take ((Qy path).length -1))=(QbC (Qg w.st) (Qk w.st t) 0 ((Qy path).take ((Qy path).length -1))).getD (-1):=rfl;cases hg:QbC (Qg w.st) (Qk w.st t) 0 ((Qy path).take ((Qy path).length -1)) with
 |none=>grind
 |some j=>
  rw[hg] at h0 hdef;have hj:Qaf w.st t ((Qy path).take ((Qy path).length -1))=j:=hdef;have hjb:=QmJ w.st (Qk w.st t) _ 0 (by omega) (by omega) j hg;obtain⟨a,ha⟩:=Int.eq_ofNat_of_zero_le hjb.1;subst ha;simp only[Option.bind_some,A0] at h0;rw[<-Qh6 w.st ht a] at h0;cases hf:(Qg w.st (Q5 w.st t a).1).1.find? (fun e=>e.1==(Qy path).getD ((Qy path).length -1) []) with
  |none=>grind
  |some e=>
   have hk:(Q5 w.st t a).1.kind=2:=by
    grind [QiD,QdG]
   have hp:QJ w t path=((a:Int),0):=by
    unfold QJ
    grind
   rw[hp];exact⟨hn,rfl,a,by omega,rfl,(by obtain⟨i,h1,h2⟩:=QlS hf;grind)⟩
theorem QpE{N:Nat}(h:w.W N)(ht:Qx t){id many:Nat}(hid:id<16)(hm:many<=16){l:List Pl.Ptr}(hl: ∀p∈l,Pl.ptrOk p=true)(hn:l.length<=21):(Qay w t id l many).1.W (N+65):=by
 have h1:=QeV ((QmH h hl).le (M:=N+21) (by omega)) ht hid [];unfold Qay;split
 ·grind [cut_W]
 ·exact h1.1.le (by omega)
def Qah(f:Q4)(path:List UInt8):Q4:=
 QW f (QJ f.1 f.2.1 path).1.toNat ((Qg f.1.st (Ql f (QJ f.1 f.2.1 path).1.toNat)).1.take (Qa2 (Qg f.1.st (Ql f (QJ f.1 f.2.1 path).1.toNat)).1 (QK path)).toNat++(Qg f.1.st (Ql f (QJ f.1 f.2.1 path).1.toNat)).1.drop ((Qa2 (Qg f.1.st (Ql f (QJ f.1 f.2.1 path).1.toNat)).1 (QK path)).toNat+1))
def QcA(f:Q4)(id:Nat):Q4:=
 ((Qay f.1 f.2.1 id (Qan f.1.st (Ql f id).tree) (Qal (Qc f.1.st f.2.1) id)).1,(Qay f.1 f.2.1 id (Qan f.1.st (Ql f id).tree) (Qal (Qc f.1.st f.2.1) id)).2.1,!(Qay f.1 f.2.1 id (Qan f.1.st (Ql f id).tree) (Qal (Qc f.1.st f.2.1) id)).2.2)
def QbJ(f:Q4)(path:List UInt8):Q4×Int:=
 if QE f.1 f.2.1 path<0 then(f,2) else
 if QE f.1 f.2.1 path=0∨((Ql f (QE f.1 f.2.1 path).toNat).kind=2/\0<(Ql f (QE f.1 f.2.1 path).toNat).size) then(f,5) else
 if 0<(Ql f (QE f.1 f.2.1 path).toNat).links -1 then(Qaq (Qah f path) (QE f.1 f.2.1 path).toNat {Ql f (QE f.1 f.2.1 path).toNat with links:=(Ql f (QE f.1 f.2.1 path).toNat).links -1},0) else
 if(Qah f path).2.2 then(Qah f path,0) else(QcA (Qah f path) (QE f.1 f.2.1 path).toNat,0)
theorem Qqn(s:Pm.Store)(t:Pl.Tree)(k:Nat)(h:(Q5 s t k).1.kind=1):(0<=(Q5 s t k).1.size/\(Q5 s t k).1.size<=192)/\(Q5 s t k).1.tree.many=((Q5 s t k).1.size+11)/12:=by
 unfold Q5 at h⊢;split
 ·rename_i h1
  rw[if_pos h1] at h;rcases QfV ((Qc s t).getD k []) with h2|h2
  ·have h3:=h2.1.1
   unfold Q8 at h3;have hb:=QdZ h2.1.1;simp only[A1,beq_iff_eq,decide_eq_true_eq] at h3
   have h4: ∀x:Int,Qac 1 x=if Pl.inR x 0 192 then(x+11)/12 else -1:=fun x=>by
    unfold Qac;rw[show QaV 1=12 from rfl,if_neg (by decide)]
    grind
   have hm:=hb.many
   have h5:(Qp ((Qc s t).getD k [])).1.tree.many=Qac 1 (Qp ((Qc s t).getD k [])).1.size:=by
    grind
   rw[h4] at h5;split at h5
   ·rename_i h6
    unfold Pl.inR at h6
    grind
   ·omega
  ·rw[h2] at h;exact absurd h (by decide)
 ·rename_i h1
  rw[if_neg h1] at h;exact absurd h (by decide)
structure QbF where
 kind:Int
 path:List UInt8
 pto:List UInt8
 at':Nat
 text:List UInt8
abbrev dOp(o:QbF):D:= .agg [dI o.kind,dS o.path,dS o.pto,dI o.at',dS o.text]
def QbD(f:Q4)(n:Qj)(o:QbF):Pl.Sto×Qj×Bool:=if o.kind=3 then Qby f.1 n o.at' o.text else Qbz f.1 n o.at'
def Qbb(f:Q4)(o:QbF):Q4×Int:=
 if QE f.1 f.2.1 o.path<0 then(f,2) else
 if(Ql f (QE f.1 f.2.1 o.path).toNat).kind≠1 then(f,4) else
 if 192<o.at'+o.text.length then(f,6) else
 (Qaq ((QbD f (Ql f (QE f.1 f.2.1 o.path).toNat) o).1,f.2.1,!(QbD f (Ql f (QE f.1 f.2.1 o.path).toNat) o).2.2) (QE f.1 f.2.1 o.path).toNat (QbD f (Ql f (QE f.1 f.2.1 o.path).toNat) o).2.1,0)
abbrev dOpI(k:Int)(path pt:List UInt8)(a:Int)(text:List UInt8):D:= .agg [dI k,dS path,dS pt,dI a,dS text]
structure OpFit(k:Int)(path pt:List UInt8)(a:Int)(text:List UInt8):Prop where
 kind:1<=k/\k<=7
 path:(QT path).isSome=true
 two:k=6∨k=7->(QT pt).isSome=true
 text:text.length<=24
 at':0<=a/\a<=192
def eOpOk(k:Int)(path pt:List UInt8)(a:Int)(text:List UInt8)(hp:path.length<=1000)(ht:pt.length<=1000):
 DoesE A2 89 [.d (dOpI k path pt a text)] [] [] (fun x H=> ∃b:Bool,(b=true->OpFit k path pt a text)/\x= .d (dB b)/\H=[]):=by
 have c1:=al6In k 1 7;have c2:=aPathOk path (by omega);have c3:=aPathOk pt (by omega);have c4:=al6In a 0 192;have h4:Pl.inR a 0 192=true->0<=a/\a<=192:=by unfold Pl.inR;simp only[A1,decide_eq_true_eq];exact fun h=>h
 have h1:Hid (Pl.inR k 1 7=true->k=1∨k=2∨k=3∨k=4∨k=5∨k=6∨k=7):=Pm.hid (by unfold Pl.inR;simp only[A1,decide_eq_true_eq];omega);generalize Pl.inR a 0 192=ia at*;generalize hik:Pl.inR k 1 7=ik at*;have hpd:=fun h=>OpFit.mk (k:=k) (path:=path) (pt:=pt) (a:=a) (text:=text) h
 generalize (QT path).isSome=bp at*;generalize (QT pt).isSome=bt at*;cases ik
 ·refine kH fun gvs=>?_
  repeat' first|refine kA ?_|refine kV ?_ ?_<;>intro q|fail
  all_goals first|refine Q1 0 (hx:=?_);exact⟨false,(fun h=>by cases h),rfl,rfl⟩
 rcases h1.out rfl with rfl|rfl|rfl|rfl|rfl|rfl|rfl
 all_goals
  refine kH fun gvs=>?_
  repeat' first|refine kA ?_|refine kV ?_ ?_<;>intro q|fail
  all_goals first|refine Q1 0 (hx:=?_);exact⟨false,(fun h=>by cases h),rfl,rfl⟩|simp only[Bool.not_eq_false',decide_eq_false_iff_not,beq_iff_eq] at*;refine Q1 0 (hx:=?_);exact⟨_,(fun h=>hpd (by omega) (by assumption) (fun _=>by first|assumption|omega) (by omega) (by first|omega|exact h4 h)),rfl,rfl⟩

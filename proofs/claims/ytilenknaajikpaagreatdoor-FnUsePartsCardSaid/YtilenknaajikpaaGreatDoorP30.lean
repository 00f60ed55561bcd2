/- Of parts_card; no condition. -/
import Derived.Test.YtilenknaajikpaaGreatDoorP26
set_option linter.all false
set_option maxRecDepth 100000
set_option maxHeartbeats 16000000
open Bool renaming false_eq_true->A6
open Go.Proofs.Tryz renaming prog->A7
open Int renaming toNat_natCast->A4
open List renaming replicate->A0,length_append->A1,length_take->A2,length_replicate->A3,length_drop->A5
namespace Go.Proofs.YtilenknaajikpaaGreatDoor
noncomputable section
open Go.RowKit
namespace Aw
variable{N k:Nat}{w:Pl.Sto}{t:Pl.Tree}{f:Q7}
def Qct(all text:List UInt8)(a:Nat):List UInt8:=(all++A0 (a -all.length) 0).take a++text++(all++A0 (a -all.length) 0).drop (min (all++A0 (a -all.length) 0).length (a+text.length))
def over_ge(all text:List UInt8)(a:Nat):a+text.length<=(Qct all text a).length/\(Qct all text a).length<=all.length+2*a+text.length:=by
 unfold Qct;simp only[A1,A2,A5,A3];omega
def QtH(all text:List UInt8)(a:Nat):Qct all text a=(all++A0 (a -all.length) 0).take ((a:Nat):Int).toNat++text++(all++A0 (a -all.length) 0).drop ((min (all++A0 (a -all.length) 0).length (a+text.length):Nat):Int).toNat:=by
 rw[A4,A4];rfl
def QmS: ∀(l:List (List UInt8)) (k:Nat) {w:Pl.Sto} {t:Pl.Tree} {N:Nat},w.W N->Qx t->k+l.length<=16->(Qaw w t l k).1.W (N+15*l.length)/\Qx (Qaw w t l k).2.1
 |[],_,_,_,_,h,ht,_=>⟨h,ht⟩
 |x::l,k,w,t,N,h,ht,hk=>by
  rw[List.length_cons] at hk⊢;have h1:=Qfo h ht (k:=k) (by omega) x;simp only[Qaw];split
  ·have h2:=QmS l (k+1) h1.1 h1.2 (by omega)
   exact⟨h2.1.le (by omega),h2.2⟩
  ·exact⟨h1.1.le (by omega),ht⟩
def Qi2(h:w.W N){n:Qi}(ht:Qx n.tree){text:List UInt8}{a b:Nat}(hb:a<=b/\b<16):(QaD w n text a b).1.W (N+240)/\Qx (QaD w n text a b).2.1.tree:=by
 have hl:(Qbk text a (b+1 -a)).length=b+1 -a:=by simp[Qbk]
 have:=QmS (Qbk text a (b+1 -a)) a h ht (by omega);exact⟨this.1.le (by omega),this.2⟩
def Qb2(w:Pl.Sto)(n:Qi)(a:Nat)(text:List UInt8):Pl.Sto×Qi×Bool:=
 if text=[] then(w,n,true) else QaD w n (Qct (QbM n.size (Qc w.st n.tree) n.tree.many.toNat) text a) (a/12) ((a+text.length -1)/12)
attribute [local irreducible] ASeq ADraw AWP Loc AStep Fg.PlanF Fg.Flts EndR Fk.PlanF Fk.Flts Fk.AStepM Fk.Grew Fk.Gs
theorem Qur(g:Nat)(w:Pl.Sto)(N:Nat)(hN:N<=700000)(hw:w.W N)(n:Qi)(ht:Qx n.tree)(hs:0<=n.size/\n.size<=2048)(a:Nat)(text:List UInt8)(hat:a+text.length<=192):
 DoesE A7 192 [oS g w,.d (dNode n),.d (dI a),.d (dS text)] (hS g w) (gS g w) (fun x H=>x= .tup [oS (g+1) (Qb2 w n a text).1,.d (dNode (Qb2 w n a text).2.1),.d (dB (Qb2 w n a text).2.2)]/\H=hS (g+1) (Qb2 w n a text).1):=by
 refine DoesE.tag (X:=fun g'=> .tup [oS g' (Qb2 w n a text).1,.d (dNode (Qb2 w n a text).2.1),.d (dB (Qb2 w n a text).2.2)]) (C:=fun _=>True) ?_ Qgz;have hd:=Pm.hid (Qb2.eq_def w n a text);generalize Qb2 w n a text=res at*
 by_cases h0:text=[]
 ·rw[if_pos h0] at hd
  subst h0;refine kH fun gvs=>?_
  refine Qa 6 (h:=?_)
  repeat' first|refine kS ?_|refine qS (Qei (m:=[]) rfl rfl rfl) ?_|(show AWP _ (.region 2 _ _) _ _;refine(Fg.awp_drawF (id:=2) [1] [2,3] ?_))|refine kU ?_|fail
  all_goals first|refine QN 5 (hx:=?_);rw[hd.out];exact⟨g,trivial,rfl,rfl⟩
 rw[if_neg h0] at hd;have hq:(text==[])=false:=by simpa using h0
 have hpos:0<text.length:=List.length_pos_iff.2 h0;have c1:=QmJ w.st hw.good n ht hs;have hle:=Qob n.size (Qc w.st n.tree) (texts_le w.st hw.good n.tree) n.tree.many.toNat;have hmh:=ht.manyHi;have hov:=over_ge (QbM n.size (Qc w.st n.tree) n.tree.many.toNat) text a;have cP:=ePut13 g w N hN hw n ht (Qct (QbM n.size (Qc w.st n.tree) n.tree.many.toNat) text a) (by omega) (a/12) ((a+text.length -1)/12) (by omega) (by omega) (by omega);generalize QbM n.size (Qc w.st n.tree) n.tree.many.toNat=all at*;have hWc:=(Qi2 hw ht (text:=Qct all text a) (a:=a/12) (b:=(a+text.length -1)/12) (by omega)).1;generalize QaD w n (Qct all text a) (a/12) ((a+text.length -1)/12)=y at*;rw[QtH,show(((a/12:Nat)):Int)=(a:Int)/12 by omega,show((((a+text.length -1)/12:Nat)):Int)=((a:Int)+text.length -1)/12 by omega] at cP;have cz:=alZeros ((a:Int) -all.length) (by omega);have hz:((a:Int) -all.length).toNat=a -all.length:=by omega
 rw[hz] at cz;have hzl:(A0 (a -all.length) (0:UInt8)).length=a -all.length:=A3;generalize A0 (a -all.length) (0:UInt8)=zs at*;have hmn:(if(a:Int)+(text.length:Int)<((all++zs).length:Int) then(a:Int)+(text.length:Int) else((all++zs).length:Int))=((min (all++zs).length (a+text.length):Nat):Int):=by split<;>omega
 have hal:(all++zs).length=all.length+zs.length:=A1;have hed:min (all++zs).length (a+text.length)<=(all++zs).length:=by omega
 generalize min (all++zs).length (a+text.length)=ed at*;obtain⟨w2,n2,ok2⟩:=y;have v0:w2.rows.length=w.rows.length:=by rw[hWc.rows,hw.rows]
 have v1:w2.refs.length=w.refs.length:=by rw[hWc.refs,hw.refs]
 have v2:w2.last.length=w.last.length:=by rw[hWc.last,hw.last]
 simp only at cP;clear hWc;refine kH fun gvs=>?_
 refine Qa 6 (h:=?_)
 repeat' first|refine kS ?_|refine qS (Qei (m:=[]) rfl rfl hq) ?_|refine qS (Qdh cK c1 hw) ?_|refine qD (Qdg rfl rfl (by first|omega|(simp only[A1,A2,A5];omega))) ?_|refine qS (Qdg rfl rfl (by first|omega|(simp only[A1,A2,A5];omega))) ?_|refine qS (QkL rfl rfl hmn) ?_|refine qD (Qfx rfl rfl rfl (by omega) (by omega)) ?_|refine qD (Qfw rfl rfl rfl (by omega) (by omega)) ?_|refine qS (QhJ rfl rfl (by omega) (by omega)) ?_|refine QD [0,1,2,3,4] cP cK (k:=kX ?_)|refine kU ?_|fail
 all_goals first|refine QN 5 (hx:=?_);rw[hd.out];exact⟨_,trivial,rfl,rfl⟩
def Qb3(w:Pl.Sto)(n:Qi)(size:Nat):Pl.Sto×Qi×Bool:=
 if n.size<=size then
  if(((size+11)/12:Nat):Int)=n.tree.many then(w,{n with size:=size},true) else
  ((Qp w n.tree ((size+11)/12 -1) []).1,{n with size:=size,tree:=(Qp w n.tree ((size+11)/12 -1) []).2.1},(Qp w n.tree ((size+11)/12 -1) []).2.2)
 else if(QJ w n.tree ((size+11)/12)).2.2=false then((QJ w n.tree ((size+11)/12)).1,n,false)
 else if(size+11)/12=0 then((QJ w n.tree ((size+11)/12)).1,{n with tree:=(QJ w n.tree ((size+11)/12)).2.1,size:=size},true)
 else QaD (QJ w n.tree ((size+11)/12)).1 {n with tree:=(QJ w n.tree ((size+11)/12)).2.1,size:=size} ((QbM n.size (Qc w.st n.tree) n.tree.many.toNat).take size) ((size+11)/12 -1) ((size+11)/12 -1)
def cut_sim{m:Nat}(h:(QJ w t m).2.2=false):QcL w (QJ w t m).1:=by
 unfold QJ at h⊢;split
 ·rename_i h1;rw[if_pos h1] at h;cases h
 ·rename_i h1
  rw[if_neg h1] at h;split at h
  ·cases h
  ·rename_i h2;rw[if_neg h2];exact Qjh (by simpa using h2)
theorem eCut13(g:Nat)(w:Pl.Sto)(N:Nat)(hN:N<=600000)(hw:w.W N)(n:Qi)(ht:Qx n.tree)(hs:0<=n.size/\n.size<=192)(hmany:n.tree.many=(n.size+11)/12)(size:Nat)(hz:size<=192):
 DoesE A7 193 [oS g w,.d (dNode n),.d (dI size)] (hS g w) (gS g w) (fun x H=>x= .tup [oS (g+1) (Qb3 w n size).1,.d (dNode (Qb3 w n size).2.1),.d (dB (Qb3 w n size).2.2)]/\H=hS (g+1) (Qb3 w n size).1):=by
 refine DoesE.tag (X:=fun g'=> .tup [oS g' (Qb3 w n size).1,.d (dNode (Qb3 w n size).2.1),.d (dB (Qb3 w n size).2.2)]) (C:=fun _=>True) ?_ Qgz;have c1:=QmJ w.st hw.good n ht ⟨hs.1,by omega⟩;have hge:=QuV n.size (Qc w.st n.tree) n.tree.many.toNat;have hle:=Qob n.size (Qc w.st n.tree) (texts_le w.st hw.good n.tree) n.tree.many.toNat;have hmh:=ht.manyHi;have hml:=ht.manyLo;have c2:=Qkz size 12 (by omega) (by omega) (by omega) (by omega);rw[show((size:Int)+12 -1)/12=(((size+11)/12:Nat):Int) by omega] at c2;have hd:=Pm.hid (Qb3.eq_def w n size);generalize Qb3 w n size=res at*;generalize QbM n.size (Qc w.st n.tree) n.tree.many.toNat=all at*;have hmz:(size+11)/12<=16/\size<=12*((size+11)/12)/\12*((size+11)/12)<=size+11:=by omega
 have hbig:n.size<=size->(((size+11)/12:Nat):Int)≠n.tree.many->1<=(size+11)/12:=by omega
 have hall:size<n.size->size<=all.length:=by intro h;split at hge<;>omega
 generalize (size+11)/12=m at*;have cz:=alZeros ((size:Int) -all.length) (by omega);have hzl:(A0 ((size:Int) -all.length).toNat (0:UInt8)).length<=192:=by rw[A3];omega
 generalize A0 ((size:Int) -all.length).toNat (0:UInt8)=zs at*
 by_cases h1:n.size<=size
 ·rw[if_pos h1] at hd
  have hq1:decide ((size:Int)≥n.size)=true:=by simpa using h1
  by_cases h2:(m:Int)=n.tree.many
  ·rw[if_pos h2] at hd
   have hq2:((m:Int)==n.tree.many)=true:=by simpa using h2
   refine kH fun gvs=>?_
   repeat' first|refine kS ?_|refine qS (Qdh cK c1 hw) ?_|refine qS (Qdg rfl rfl (by first|omega|(simp only[A1];omega))) ?_|(show AWP _ (.region 7 _ _) _ _;refine(Qa 6 (h:=Fg.awp_drawF (id:=7) [1] [2,3] ?_)))|refine kU ?_|refine kV ?_ ?_<;>intro q|fail
   all_goals first|exact absurd (‹decide ((size:Int)≥n.size)=false›.symm.trans hq1) (by decide)|exact absurd (‹((m:Int)==n.tree.many)=false›.symm.trans hq2) (by decide)|refine QN 5 (hx:=?_);rw[hd.out];exact⟨_,trivial,rfl,rfl⟩
  ·rw[if_neg h2] at hd
   have hq2:((m:Int)==n.tree.many)=false:=by simpa using h2
   have hm1:=hbig h1 h2;have cP:=(ePut g w N (by omega) hw n.tree ht (m -1) (by omega) [] (by simp)).tag3;have hWc:=(Qfo hw ht (k:=m -1) (by omega) []).1;have hsg:=Qex (w:=w) (t:=n.tree) (k:=m -1) (text:=[]);generalize Qp w n.tree (m -1) []=y at*;obtain⟨w2,t2,ok2⟩:=y;simp only at cP hWc hd hsg;rw[show((m -1:Nat):Int)=(m:Int) -1 by omega] at cP;have v0:w2.rows.length=w.rows.length:=by rw[hWc.rows,hw.rows]
   have v1:w2.refs.length=w.refs.length:=by rw[hWc.refs,hw.refs]
   have v2:w2.last.length=w.last.length:=by rw[hWc.last,hw.last]
   have v3:ok2=false->w2.gone.length=w.gone.length:=fun e=>by rw[(hsg e).1]
   clear hsg hWc;cases ok2<;>simp only[A6,if_false,if_true,forall_const] at cP v3
   all_goals
    refine kH fun gvs=>?_
    repeat' first|refine kS ?_|refine qS (Qdh cK c1 hw) ?_|refine qS (Qdg rfl rfl (by first|omega|(simp only[A1];omega))) ?_|refine QD [0,1,2,3,4] cP cK (k:=kX ?_)|(show AWP _ (.region 10 _ _) _ _;refine(Qa 6 (h:=Fg.awp_drawF (id:=10) [1,2] [3,4] ?_)))|refine kU ?_|refine kV ?_ ?_<;>intro q|fail
    all_goals first|exact absurd (‹decide ((size:Int)≥n.size)=false›.symm.trans hq1) (by decide)|exact absurd (‹((m:Int)==n.tree.many)=true›.symm.trans hq2) (by decide)|refine QN 5 (hx:=?_);rw[hd.out];exact⟨_,trivial,rfl,rfl⟩
 rw[if_neg h1] at hd;have hq1:decide ((size:Int)≥n.size)=false:=by simpa using h1
 have hsa:=hall (by omega);have cP:=(eCut g w N (by omega) hw n.tree ht m hmz.1).tag3;have hWc:=cut_W hw ht (many:=m) hmz.1;have hsg:=cut_sim (w:=w) (t:=n.tree) (m:=m);generalize QJ w n.tree m=y at*;obtain⟨w2,t2,ok2⟩:=y;simp only at cP hWc hd hsg;have v0:w2.rows.length=w.rows.length:=by rw[hWc.1.rows,hw.rows]
 have v1:w2.refs.length=w.refs.length:=by rw[hWc.1.refs,hw.refs]
 have v2:w2.last.length=w.last.length:=by rw[hWc.1.last,hw.last]
 cases ok2
 ·simp only[A6,if_false,if_true] at cP hd
  obtain⟨z1,z2,z3⟩:=hsg rfl;have v3:w2.gone.length=w.gone.length:=by rw[z1]
  have hse:oS g w=oS g w2:=by simp only[oS,z1,z2,z3]
  clear hWc;refine kH fun gvs=>?_
  repeat' first|refine kS ?_|refine qS (Qdh cK c1 hw) ?_|refine QD [0,1,2,3,4] cP cK (k:=kX ?_)|(show AWP _ (.region 13 _ _) _ _;refine(Qa 6 (h:=Fg.awp_drawF (id:=13) [1] [2,3] ?_)))|refine kU ?_|refine kV ?_ ?_<;>intro q|fail
  all_goals first|exact absurd (‹decide ((size:Int)≥n.size)=true›.symm.trans hq1) (by decide)|refine QN 5 (hx:=?_);rw[hd.out];exact⟨g,trivial,by rw[<-hse];rfl,rfl⟩
 simp only[Bool.true_eq_false,if_false,if_true] at cP hd;clear hsg
 by_cases hm0:m=0
 ·rw[if_pos hm0] at hd
  subst hm0;refine kH fun gvs=>?_
  repeat' first|refine kS ?_|refine qS (Qdh cK c1 hw) ?_|refine QD [0,1,2,3,4] cP cK (k:=kX ?_)|(show AWP _ (.region 17 _ _) _ _;refine(Qa 6 (h:=Fg.awp_drawF (id:=17) [1] [2,3] ?_)))|refine kU ?_|refine kV ?_ ?_<;>intro q|fail
  all_goals first|exact absurd (‹decide ((size:Int)≥n.size)=true›.symm.trans hq1) (by decide)|refine QN 5 (hx:=?_);rw[hd.out];exact⟨_,trivial,rfl,rfl⟩|exfalso;simp at*;done
 rw[if_neg hm0] at hd;have hqm:((m:Int)==0)=false:=by simpa using hm0
 have c5:=ePut13 (g+1) w2 (N+29) (by omega) hWc.1 {n with tree:=t2,size:=size} hWc.2 (all.take size) (by rw[A2];omega) (m -1) (m -1) (by omega) (by omega) (by rw[A2];omega);have hWd:=(Qi2 hWc.1 (n:={n with tree:=t2,size:=size}) hWc.2 (text:=all.take size) (a:=m -1) (b:=m -1) (by omega)).1;generalize QaD w2 {n with tree:=t2,size:=size} (all.take size) (m -1) (m -1)=z at*;obtain⟨w3,n3,ok3⟩:=z;simp only at c5 hWd hd;rw[show((m -1:Nat):Int)=(m:Int) -1 by omega,show all.take size=all.take ((size:Nat):Int).toNat by rw[A4]] at c5;have u0:w3.rows.length=w.rows.length:=by rw[hWd.rows,hw.rows]
 have u1:w3.refs.length=w.refs.length:=by rw[hWd.refs,hw.refs]
 have u2:w3.last.length=w.last.length:=by rw[hWd.last,hw.last]
 clear hWc hWd;refine kH fun gvs=>?_
 repeat' first|refine kS ?_|refine qS (Qdh cK c1 hw) ?_|refine QD [0,1,2,3,4] cP cK (k:=kX ?_)|refine qD (Qfx rfl rfl rfl (by omega) (by omega)) ?_|refine Qfb [0,1,2,3,4] c5 cK (k:=kZ ?_)|(show AWP _ (.region 18 _ _) _ _;refine(Qa 6 (h:=Fg.awp_drawF (id:=18) [] [9,13,14] ?_)))|refine kU ?_|refine kV ?_ ?_<;>intro q|fail
 all_goals first|exact absurd (‹decide ((size:Int)≥n.size)=true›.symm.trans hq1) (by decide)|exact absurd (‹((m:Int)==0)=true›.symm.trans hqm) (by decide)|refine QN 5 (hx:=?_);rw[hd.out];exact⟨_,trivial,rfl,rfl⟩
def Qhu(h:f.1.W N)(ht:Qx f.2.1)(hk:k<16)(n:Qi):(Qax f k n).1.W (N+15)/\Qx (Qax f k n).2.1:=by
 unfold Qax;split
 ·exact⟨h.le (by omega),ht⟩
 ·exact Qfo h ht hk _
def Qvl(h:w.W N)(ht:Qx t)(text:List UInt8):(Qa2 w t text).1.W (N+269)/\Qx (Qa2 w t text).2.1:=by
 unfold Qa2;split
 ·exact⟨h.le (by omega),ht⟩
 ·rename_i h1
  have h2:=QmS (QaK text) 0 h ht (by omega);split
  ·have h3:=cut_W h2.1 h2.2 (many:=(QaK text).length) (by omega)
   exact⟨h3.1.le (by omega),h3.2⟩
  ·exact⟨h2.1.le (by omega),h2.2⟩
def QdJ(h:f.1.W N)(ht:Qx f.2.1)(hk:k<16)(hn:f.2.2=false->Qx (Qk f k).tree)(l:List Ql):(QX f k l).1.W (N+284)/\Qx (QX f k l).2.1:=by
 unfold QX;split
 ·exact⟨h.le (by omega),ht⟩
 ·rename_i h1
  have h2:=Qvl h (hn (by simpa using h1)) (QB l);have h3:=Qhu (f:=((Qa2 f.1 (Qk f k).tree (QB l)).1,f.2.1,!(Qa2 f.1 (Qk f k).tree (QB l)).2.2)) h2.1 ht hk {Qk f k with tree:=(Qa2 f.1 (Qk f k).tree (QB l)).2.1,size:=(QB l).length};exact⟨h3.1.le (by omega),h3.2⟩
def eBputX(g:Nat)(w:Pl.Sto)(N:Nat)(hN:N<=700000)(hw:w.W N)(t:Pl.Tree)(ht:Qx t)(text:List UInt8)(htx:text.length<=1000000000000):
 DoesE A7 225 [oS g w,.d (dTree t),.d (dS text)] (hS g w) (gS g w) (fun x H=>x= .tup [oS (g+1) (Qa2 w t text).1,.d (dTree (Qa2 w t text).2.1),.d (dB (Qa2 w t text).2.2)]/\H=hS (g+1) (Qa2 w t text).1):=
 DoesE.tag (C:=fun _=>True) (X:=fun g'=> .tup [oS g' (Qa2 w t text).1,.d (dTree (Qa2 w t text).2.1),.d (dB (Qa2 w t text).2.2)]) (fun B σ S w0 cargs gvs h1 h2 h3 h4 h5 h6=>(eBput g w N hN hw t ht text htx B σ S w0 cargs gvs h1 h2 h3 h4 h5 h6).mono fun _ _ ⟨x,H,⟨g',e1,e2⟩,h⟩=>⟨x,H,⟨g',trivial,e1,e2⟩,h⟩) Qgz
def eWriteF(g:Nat)(f:Q7)(N:Nat)(hN:N<=600000)(hw:f.1.W N)(ht:Qx f.2.1)(k:Nat)(hk:k<16)(hnt:f.2.2=false->Qx (Qk f k).tree)(l:List Ql)(hb: ∀e∈l,e.1.length<=4/\0<=e.2/\e.2<=15)(hl:l.length<=1000)(htx:(QB l).length<=1000000000000):
 DoesE A7 183 [.ptr 5 0 0,.d (dI k),.d (tEnts l)] (hF g f) (gF g f.1) (fun x H=>x= .tup []/\H=hF (g+1) (QX f k l)):=by
 refine DoesE.tagF (C:=fun _=>True) ?_ QlK;have hWr:=(QdJ hw ht hk hnt l).1;obtain⟨w,t,full⟩:=f;simp only at hw ht hnt⊢;cases full
 ·replace hnt:=hnt rfl
  have c1:=aNode w N hw t ht false k;have c2:=QuJ l hb hl;have cB:=eBputX g w N (by omega) hw (Qk (w,t,false) k).tree hnt (QB l) htx;have hWb:=(Qvl hw hnt (QB l)).1
  have hd:Hid (QX (w,t,false) k l=Qax ((Qa2 w (Qk (w,t,false) k).tree (QB l)).1,t,!(Qa2 w (Qk (w,t,false) k).tree (QB l)).2.2) k
   {Qk (w,t,false) k with tree:=(Qa2 w (Qk (w,t,false) k).tree (QB l)).2.1,size:=(QB l).length}):=Pm.hid rfl
  rw[show(Q4 w.st t k).1=Qk (w,t,false) k from rfl] at c1;generalize QX (w,t,false) k l=res at*;generalize Qk (w,t,false) k=n at*;generalize QB l=text at*;generalize Qa2 w n.tree text=y at*;obtain⟨w2,t2,ok2⟩:=y;simp only at cB hWb hd;have cP:=ePutF (g+1) (w2,t,!ok2) (N+269) (by omega) hWb ht k hk {n with tree:=t2,size:=text.length} (Qeg _);rw[<-hd.out] at cP;have v0:res.1.rows.length=w.rows.length:=by rw[hWr.rows,hw.rows]
  have v1:res.1.refs.length=w.refs.length:=by rw[hWr.refs,hw.refs]
  have v2:res.1.last.length=w.last.length:=by rw[hWr.last,hw.last]
  clear hWr hWb hd;refine kJ fun gvs=>?_
  repeat' first|refine kS ?_|refine qS (Qdd (fs:=(w,t,false)) cK c1 hw) ?_|(show AWP _ (.region 3 _ _) _ _;refine(Fk.awp_drawG (id:=3) [8,10,11,12,13] [7,14,15] [(12,.row 0 zSt),(13,.row 0 zTr)] [] 7 28 (.tup [oS (g+1) w2,.d (dTree t2),.d (dB ok2)]) ?_))|refine(Fk.aw_fltA 7 ?_)|refine(Fk.aw_fltA 8 ?_)|refine Fk.aw_callM [0,1,2,3,4] cB cK (k:=kY ?_)|refine Qdp [0,1,2,3,4,5] cP cK (k:=kX ?_)|refine kU ?_|fail
  all_goals first|refine endR0 6 (hx:=?_);exact⟨_,trivial,rfl,rfl⟩
 ·refine kJ fun gvs=>?_
  repeat refine kA ?_
  all_goals first|refine QoY 6 (hx:=?_);exact⟨g,trivial,rfl,rfl⟩

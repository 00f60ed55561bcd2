/- Of fby_card; no condition. -/
import Derived.Test.YtfmnpmhadmcdkaaGreatDoorT26
set_option linter.all false
set_option maxRecDepth 100000
set_option maxHeartbeats 16000000
open Bool renaming false_eq_true->A6,not_eq_false'->A9
open Go.Proofs.Tryz renaming prog->A5
open Int renaming toNat_natCast->A7
open List renaming replicate->A0,take_of_length_le->A1,length_append->A2,length_take->A3,length_drop->A4,length_replicate->A8,length_cons->AA,map_cons->AB
namespace Go.Proofs.YtfmnpmhadmcdkaaGreatDoor
noncomputable section
open Go.RowKit
namespace Aw
variable{k:Nat}{t:Pl.Tree}{w:Pl.Sto}
def Qsp{l:List (List UInt8)}{i:Nat}{x:List UInt8}(h:l[i]? =some x):Qao w t (l.drop i) k=if(Qm w t k x).2.2 then Qao (Qm w t k x).1 (Qm w t k x).2.1 (l.drop (i+1)) (k+1) else((Qm w t k x).1,t,false):=by
 obtain⟨h1,h2⟩:=List.getElem?_eq_some_iff.1 h;rw[<-List.getElem_cons_drop h1,h2];rfl
theorem cut0_le(s:List UInt8):(QaP s).length<=s.length:=by grind [QaP,List.dropWhile_suffix]
def Qbe(text:List UInt8)(a n:Nat):List (List UInt8):=(List.range n).map fun i=>QaP ((text.take ((a+i+1)*12)).drop ((a+i)*12))
def Qa8(w:Pl.Sto)(n:Qj)(text:List UInt8)(a b:Nat):Pl.Sto×Qj×Bool:=
 ((Qao w n.tree (Qbe text a (b+1 -a)) a).1,{n with size:=text.length,tree:=(Qao w n.tree (Qbe text a (b+1 -a)) a).2.1},(Qao w n.tree (Qbe text a (b+1 -a)) a).2.2)
abbrev rowN(n:Qj):List AV:=[.d (dI n.kind),.d (dI n.links),.d (dI n.size),.d (dI n.tree.root.pat),.d (dI n.tree.root.birth),.d (dI n.tree.root.size),.d (dI n.tree.root.sum),.d (dI n.tree.root.level),.d (dI n.tree.depth),.d (dI n.tree.many)]
abbrev zNd:List AV:=[.d (.v (.int .i64 0)),.d (.v (.int .i64 0)),.d (.v (.int .i64 0)),.d (.v (.int .i64 0)),.d (.v (.int .i64 0)),.d (.v (.int .i64 0)),.d (.v (.int .i64 0)),.d (.v (.int .i64 0)),.d (.v (.int .i64 0)),.d (.v (.int .i64 0))]
attribute [local irreducible] ASeq ADraw AWP Loc AStep Fg.PlanF Fg.Flts EndR Fk.PlanF Fk.Flts Fk.AStepM Fk.Grew Fk.Gs
def ePut13(g:Nat)(w:Pl.Sto)(N:Nat)(hN:N<=700000)(hw:w.W N)(n:Qj)(ht:Qx n.tree)(text:List UInt8)(htx:text.length<=100000)(a b:Nat)(hab:a<=b)(hb:b<16)(hbl:b*12<=text.length):
 DoesE A5 284 [oS g w,.d (dNode n),.d (dS text),.d (dI a),.d (dI b)] (hS g w) (gS g w) (fun x H=>x= .tup [oS (g+1) (Qa8 w n text a b).1,.d (dNode (Qa8 w n text a b).2.1),.d (dB (Qa8 w n text a b).2.2)]/\H=hS (g+1) (Qa8 w n text a b).1):=by
 refine DoesE.tag (X:=fun g'=> .tup [oS g' (Qa8 w n text a b).1,.d (dNode (Qa8 w n text a b).2.1),.d (dB (Qa8 w n text a b).2.2)]) (C:=fun _=>True) ?_ QfU;have hl:(Qbe text a (b+1 -a)).length=b+1 -a:=by simp[Qbe]
 have hp: ∀i,i<b+1 -a->(Qbe text a (b+1 -a))[i]? =some (QaP ((text.take ((a+i+1)*12)).drop ((a+i)*12))):=fun i hi=>by
  unfold Qbe;rw[List.getElem?_map,List.getElem?_range hi];rfl
 have hd:Hid (∀r,Qao w n.tree (Qbe text a (b+1 -a)) a=r->Qa8 w n text a b=(r.1,{n with size:=text.length,tree:=r.2.1},r.2.2)):=Pm.hid fun r hr=>by rw[<-hr];rfl
 generalize Qbe text a (b+1 -a)=l at*;generalize Qa8 w n text a b=res at*;obtain⟨kind,links,size,t⟩:=n;simp only at ht hd;obtain⟨c,hc⟩: ∃c,c=b+1 -a:=⟨_,rfl⟩;rw[<-hc] at hl hp;have hba:b+1=a+c:=by omega
 refine kH fun gvs=>?_
 repeat refine kA ?_
 refine Qo (fun m st=> ∃(i g':Nat) (wi:Pl.Sto) (ti:Pl.Tree),i<=c/\m=c -i/\Hid (Qao w t l a=Qao wi ti (l.drop i) (a+i))/\Hid (wi.W (N+15*i)/\Qx ti)/\(g<g'∨g'=g/\wi.gone.length=w.gone.length)/\
  st=⟨57,[(13,.d (dI (a+i:Nat))),(2,.d (dS text)),(4,.d (dI b)),(5,.ptr 5 0 0),(6,.ptr 6 0 0),(10,.ptr 7 0 0),(11,.ptr 8 0 0),(1000000,.gh (gS g w) gvs)],
   hS g' wi++[.row 0 (rowS g' wi),.row 0 (rowN ⟨kind,links,text.length,ti⟩),.row 0 zSt,.row 0 zNd]⟩) [13,2,4,5,6,10,11,1000000] 9 c
  ⟨0,g,w,t,by omega,rfl,Pm.hid rfl,Pm.hid ⟨hw,ht⟩,.inr ⟨rfl,rfl⟩,rfl⟩ (round:=?_)
 rintro m st ⟨i,g',wi,ti,hi,rfl,hF,hG,hg,rfl⟩;obtain⟨hW,hT⟩:=hG.out;simp only[hS,List.cons_append,List.nil_append]
 repeat refine kG ?_
 cases q:decide (((a+i:Nat):Int)<=(b:Int))
 ·have hil:i=c:=by simp at q;omega
  have hF2:=hF.out;rw[hil,List.drop_of_length_le (by omega)] at hF2
  replace hd:=Pm.hid (hd.out _ (hF2.trans rfl))
  have v0:wi.rows.length=w.rows.length:=by rw[hW.rows,hw.rows]
  have v1:wi.refs.length=w.refs.length:=by rw[hW.refs,hw.refs]
  have v2:wi.last.length=w.last.length:=by rw[hW.last,hw.last]
  clear hF hF2 hG hp
  repeat' first|refine kS ?_|(show AWP _ (.region 11 _ _) _ _;refine(Qa 6 (h:=Fg.awp_drawF (id:=11) [1] [2,3] ?_)))|refine kU ?_|fail
  all_goals first|(rcases hg with hg|⟨rfl,hg⟩<;>(refine QN 5 (hx:=?_);rw[hd.out];exact⟨_,trivial,rfl,rfl⟩))
 have hil:i<c:=by simp at q;omega
 have hx:=hp i hil;have hs:=Qsp (w:=wi) (t:=ti) (k:=a+i) hx;have hmn:(if(((a+i:Nat):Int)+1)*12<(text.length:Int) then(((a+i:Nat):Int)+1)*12 else(text.length:Int))=((min ((a+i+1)*12) text.length:Nat):Int):=by split<;>omega
 have htk:(text.take (((min ((a+i+1)*12) text.length:Nat):Int)).toNat).drop ((((a+i:Nat):Int))*12).toNat=(text.take ((a+i+1)*12)).drop ((a+i)*12):=by
  have e1:(((min ((a+i+1)*12) text.length:Nat):Int)).toNat=min ((a+i+1)*12) text.length:=by omega
  have e2:((((a+i:Nat):Int))*12).toNat=(a+i)*12:=by omega
  rw[e1,e2,<-List.take_take,A1 (Nat.le_refl text.length)]
 have cc:=al10Cut ((text.take ((a+i+1)*12)).drop ((a+i)*12)) (by simp only[A4,A3];unfold Pm.big;omega)
 have hcl:(QaP ((text.take ((a+i+1)*12)).drop ((a+i)*12))).length<=100000:=by
  refine Nat.le_trans (cut0_le _) ?_;simp only[A4,A3];omega
 rw[<-htk] at cc hs hcl;have hmi:min ((a+i+1)*12) text.length<=text.length/\(a+i)*12<=min ((a+i+1)*12) text.length:=by omega
 clear htk;generalize min ((a+i+1)*12) text.length=ed at*;generalize QaP ((text.take ((ed:Nat):Int).toNat).drop ((((a+i:Nat):Int))*12).toNat)=x at*;have cP:=(ePut g' wi (N+15*i) (by omega) hW ti hT (a+i) (by omega) x (by unfold Pm.big;omega)).tag3;have hWc:=QeV hW hT (k:=a+i) (by omega) x;have hsm:=Qni (w:=wi) (t:=ti) (k:=a+i) (text:=x);have hsg:=Qeh (w:=wi) (t:=ti) (k:=a+i) (text:=x);generalize Qm wi ti (a+i) x=y at*;obtain⟨w2,t2,ok2⟩:=y;simp only at cP hWc hs hsm hsg;have v0:w2.rows.length=w.rows.length:=by rw[hWc.1.rows,hw.rows]
 have v1:w2.refs.length=w.refs.length:=by rw[hWc.1.refs,hw.refs]
 have v2:w2.last.length=w.last.length:=by rw[hWc.1.last,hw.last]
 have hF2:=hF.out;rw[hs] at hF2;clear hF hs hx hp;cases ok2
 ·simp only[A6,if_false] at cP hF2
  replace hd:=Pm.hid (hd.out _ hF2)
  simp only at hd;have v3:w2.gone.length=wi.gone.length:=by rw[(hsg rfl).1]
  have hse:=hsm rfl g';clear hsm hsg hG
  repeat' first|refine kS ?_|refine qD (Qdu rfl rfl (by omega)) ?_|refine qS (Qdu rfl rfl (by omega)) ?_|refine qS (Qkf rfl rfl hmn) ?_|refine qD (Qe5 rfl rfl rfl rfl (by omega) (by omega) (by omega)) ?_|(show AWP _ (.region 6 _ _) _ _;refine(Fk.awp_drawG (id:=6) [11,13,14,15,16] [10,17,18] [(15,.row 0 zSt),(16,.row 0 zTr)] [] 10 44 (.tup [oS g' w2,.d (dTree t2),.d (dB false)]) ?_))|refine(Fk.aw_fltA 9 ?_)|refine(Fk.aw_fltA 10 ?_)|refine Fk.aw_callM [0,1,2,3,4] cP cK (k:=kY ?_)|(show AWP _ (.region 8 _ _) _ _;refine(Qa 6 (h:=Fg.awp_drawF (id:=8) [1] [2,3] ?_)))|refine kU ?_|fail
  all_goals first|(rcases hg with hg|⟨rfl,hg⟩<;>(refine QN 5 (hx:=?_);rw[hd.out];exact⟨_,trivial,by rw[<-hse];rfl,rfl⟩))
 simp only[if_true] at cP hF2;clear hsm hsg hG
 repeat' first|refine kS ?_|refine qD (Qdu rfl rfl (by omega)) ?_|refine qS (Qdu rfl rfl (by omega)) ?_|refine qS (Qkf rfl rfl hmn) ?_|refine qD (Qe5 rfl rfl rfl rfl (by omega) (by omega) (by omega)) ?_|(show AWP _ (.region 6 _ _) _ _;refine(Fk.awp_drawG (id:=6) [11,13,14,15,16] [10,17,18] [(15,.row 0 zSt),(16,.row 0 zTr)] [] 10 44 (.tup [oS (g'+1) w2,.d (dTree t2),.d (dB true)]) ?_))|refine(Fk.aw_fltA 9 ?_)|refine(Fk.aw_fltA 10 ?_)|refine Fk.aw_callM [0,1,2,3,4] cP cK (k:=kY ?_)|refine kU ?_|fail
 all_goals first|refine Qef (c -(i+1)) [13,2,4,5,6,10,11,1000000] [0,1,2,3,4,5,6,7,8] (by omega) ⟨i+1,g'+1,w2,t2,by omega,rfl,Pm.hid hF2,Pm.hid ⟨hWc.1.le (by omega),hWc.2⟩,.inl (by omega),rfl⟩
def Qcm(all text:List UInt8)(a:Nat):List UInt8:=(all++A0 (a -all.length) 0).take a++text++(all++A0 (a -all.length) 0).drop (min (all++A0 (a -all.length) 0).length (a+text.length))
theorem over_ge(all text:List UInt8)(a:Nat):a+text.length<=(Qcm all text a).length/\(Qcm all text a).length<=all.length+2*a+text.length:=by grind [Qcm]
def QsF(all text:List UInt8)(a:Nat):Qcm all text a=(all++A0 (a -all.length) 0).take ((a:Nat):Int).toNat++text++(all++A0 (a -all.length) 0).drop ((min (all++A0 (a -all.length) 0).length (a+text.length):Nat):Int).toNat:=by
 rw[A7,A7];rfl
theorem Qmc: ∀(l:List (List UInt8)) (k:Nat) {w:Pl.Sto} {t:Pl.Tree} {N:Nat},w.W N->Qx t->k+l.length<=16->(Qao w t l k).1.W (N+15*l.length)/\Qx (Qao w t l k).2.1
 |[],_,_,_,_,h,ht,_=>⟨h,ht⟩
 |x::l,k,w,t,N,h,ht,hk=>by
  rw[AA] at hk⊢;have h1:=QeV h ht (k:=k) (by omega) x;simp only[Qao];split
  ·have h2:=Qmc l (k+1) h1.1 h1.2 (by omega)
   grind
  ·exact⟨h1.1.le (by omega),ht⟩
theorem QhP{N:Nat}(h:w.W N){n:Qj}(ht:Qx n.tree){text:List UInt8}{a b:Nat}(hb:a<=b/\b<16):(Qa8 w n text a b).1.W (N+240)/\Qx (Qa8 w n text a b).2.1.tree:=by
 have hl:(Qbe text a (b+1 -a)).length=b+1 -a:=by simp[Qbe]
 have:=Qmc (Qbe text a (b+1 -a)) a h ht (by omega);exact⟨this.1.le (by omega),this.2⟩
def Qby(w:Pl.Sto)(n:Qj)(a:Nat)(text:List UInt8):Pl.Sto×Qj×Bool:=
 if text=[] then(w,n,true) else Qa8 w n (Qcm (QbR n.size (Qc w.st n.tree) n.tree.many.toNat) text a) (a/12) ((a+text.length -1)/12)
theorem Qtr(g:Nat)(w:Pl.Sto)(N:Nat)(hN:N<=700000)(hw:w.W N)(n:Qj)(ht:Qx n.tree)(hs:0<=n.size/\n.size<=2048)(a:Nat)(text:List UInt8)(hat:a+text.length<=192):
 DoesE A5 228 [oS g w,.d (dNode n),.d (dI a),.d (dS text)] (hS g w) (gS g w) (fun x H=>x= .tup [oS (g+1) (Qby w n a text).1,.d (dNode (Qby w n a text).2.1),.d (dB (Qby w n a text).2.2)]/\H=hS (g+1) (Qby w n a text).1):=by
 refine DoesE.tag (X:=fun g'=> .tup [oS g' (Qby w n a text).1,.d (dNode (Qby w n a text).2.1),.d (dB (Qby w n a text).2.2)]) (C:=fun _=>True) ?_ QfU;have hd:=Pm.hid (Qby.eq_def w n a text);generalize Qby w n a text=res at*
 by_cases h0:text=[]
 ·rw[if_pos h0] at hd
  subst h0;refine kH fun gvs=>?_
  refine Qa 6 (h:=?_)
  repeat' first|refine kS ?_|refine qS (Qd8 (m:=[]) rfl rfl rfl) ?_|(show AWP _ (.region 2 _ _) _ _;refine(Fg.awp_drawF (id:=2) [1] [2,3] ?_))|refine kU ?_|fail
  all_goals first|refine QN 5 (hx:=?_);rw[hd.out];exact⟨g,trivial,rfl,rfl⟩
 rw[if_neg h0] at hd;have hq:(text==[])=false:=by simpa using h0
 have hpos:0<text.length:=List.length_pos_iff.2 h0;have c1:=QlX w.st hw.good n ht hs;have hle:=QpH n.size (Qc w.st n.tree) (texts_le w.st hw.good n.tree) n.tree.many.toNat;have hmh:=ht.manyHi;have hov:=over_ge (QbR n.size (Qc w.st n.tree) n.tree.many.toNat) text a;have cP:=ePut13 g w N hN hw n ht (Qcm (QbR n.size (Qc w.st n.tree) n.tree.many.toNat) text a) (by omega) (a/12) ((a+text.length -1)/12) (by omega) (by omega) (by omega);generalize QbR n.size (Qc w.st n.tree) n.tree.many.toNat=all at*;have hWc:=(QhP hw ht (text:=Qcm all text a) (a:=a/12) (b:=(a+text.length -1)/12) (by omega)).1;generalize Qa8 w n (Qcm all text a) (a/12) ((a+text.length -1)/12)=y at*;rw[QsF,show(((a/12:Nat)):Int)=(a:Int)/12 by omega,show((((a+text.length -1)/12:Nat)):Int)=((a:Int)+text.length -1)/12 by omega] at cP;have cz:=alZeros ((a:Int) -all.length) (by omega);have hz:((a:Int) -all.length).toNat=a -all.length:=by omega
 rw[hz] at cz;have hzl:(A0 (a -all.length) (0:UInt8)).length=a -all.length:=A8;generalize A0 (a -all.length) (0:UInt8)=zs at*;have hmn:(if(a:Int)+(text.length:Int)<((all++zs).length:Int) then(a:Int)+(text.length:Int) else((all++zs).length:Int))=((min (all++zs).length (a+text.length):Nat):Int):=by split<;>omega
 have hal:(all++zs).length=all.length+zs.length:=A2;have hed:min (all++zs).length (a+text.length)<=(all++zs).length:=by omega
 generalize min (all++zs).length (a+text.length)=ed at*;obtain⟨w2,n2,ok2⟩:=y;have v0:w2.rows.length=w.rows.length:=by rw[hWc.rows,hw.rows]
 have v1:w2.refs.length=w.refs.length:=by rw[hWc.refs,hw.refs]
 have v2:w2.last.length=w.last.length:=by rw[hWc.last,hw.last]
 simp only at cP;clear hWc;refine kH fun gvs=>?_
 refine Qa 6 (h:=?_)
 repeat' first|refine kS ?_|refine qS (Qd8 (m:=[]) rfl rfl hq) ?_|refine qS (QcZ cK c1 hw) ?_|refine qD (QcX rfl rfl (by first|omega|(simp only[A2,A3,A4];omega))) ?_|refine qS (QcX rfl rfl (by first|omega|(simp only[A2,A3,A4];omega))) ?_|refine qS (Qkf rfl rfl hmn) ?_|refine qD (QfH rfl rfl rfl (by omega) (by omega)) ?_|refine qD (QfG rfl rfl rfl (by omega) (by omega)) ?_|refine qS (Qgt rfl rfl (by omega) (by omega)) ?_|refine QA [0,1,2,3,4] cP cK (k:=kX ?_)|refine kU ?_|fail
 all_goals first|refine QN 5 (hx:=?_);rw[hd.out];exact⟨_,trivial,rfl,rfl⟩
def Qbz(w:Pl.Sto)(n:Qj)(size:Nat):Pl.Sto×Qj×Bool:=
 if n.size<=size then
  if(((size+11)/12:Nat):Int)=n.tree.many then(w,{n with size:=size},true) else
  ((Qm w n.tree ((size+11)/12 -1) []).1,{n with size:=size,tree:=(Qm w n.tree ((size+11)/12 -1) []).2.1},(Qm w n.tree ((size+11)/12 -1) []).2.2)
 else if(QM w n.tree ((size+11)/12)).2.2=false then((QM w n.tree ((size+11)/12)).1,n,false)
 else if(size+11)/12=0 then((QM w n.tree ((size+11)/12)).1,{n with tree:=(QM w n.tree ((size+11)/12)).2.1,size:=size},true)
 else Qa8 (QM w n.tree ((size+11)/12)).1 {n with tree:=(QM w n.tree ((size+11)/12)).2.1,size:=size} ((QbR n.size (Qc w.st n.tree) n.tree.many.toNat).take size) ((size+11)/12 -1) ((size+11)/12 -1)
theorem cut_sim{m:Nat}(h:(QM w t m).2.2=false):QcD w (QM w t m).1:=by grind [QM,Qi0]
theorem eCut13(g:Nat)(w:Pl.Sto)(N:Nat)(hN:N<=600000)(hw:w.W N)(n:Qj)(ht:Qx n.tree)(hs:0<=n.size/\n.size<=192)(hmany:n.tree.many=(n.size+11)/12)(size:Nat)(hz:size<=192):
 DoesE A5 229 [oS g w,.d (dNode n),.d (dI size)] (hS g w) (gS g w) (fun x H=>x= .tup [oS (g+1) (Qbz w n size).1,.d (dNode (Qbz w n size).2.1),.d (dB (Qbz w n size).2.2)]/\H=hS (g+1) (Qbz w n size).1):=by
 refine DoesE.tag (X:=fun g'=> .tup [oS g' (Qbz w n size).1,.d (dNode (Qbz w n size).2.1),.d (dB (Qbz w n size).2.2)]) (C:=fun _=>True) ?_ QfU;have c1:=QlX w.st hw.good n ht ⟨hs.1,by omega⟩;have hge:=t13_ge n.size (Qc w.st n.tree) n.tree.many.toNat;have hle:=QpH n.size (Qc w.st n.tree) (texts_le w.st hw.good n.tree) n.tree.many.toNat;have hmh:=ht.manyHi;have hml:=ht.manyLo;have c2:=QjL size 12 (by omega) (by omega) (by omega) (by omega);rw[show((size:Int)+12 -1)/12=(((size+11)/12:Nat):Int) by omega] at c2;have hd:=Pm.hid (Qbz.eq_def w n size);generalize Qbz w n size=res at*;generalize QbR n.size (Qc w.st n.tree) n.tree.many.toNat=all at*;have hmz:(size+11)/12<=16/\size<=12*((size+11)/12)/\12*((size+11)/12)<=size+11:=by omega
 have hbig:n.size<=size->(((size+11)/12:Nat):Int)≠n.tree.many->1<=(size+11)/12:=by omega
 have hall:size<n.size->size<=all.length:=by intro h;split at hge<;>omega
 generalize (size+11)/12=m at*;have cz:=alZeros ((size:Int) -all.length) (by omega);have hzl:(A0 ((size:Int) -all.length).toNat (0:UInt8)).length<=192:=by rw[A8];omega
 generalize A0 ((size:Int) -all.length).toNat (0:UInt8)=zs at*
 by_cases h1:n.size<=size
 ·rw[if_pos h1] at hd
  have hq1:decide ((size:Int)≥n.size)=true:=by simpa using h1
  by_cases h2:(m:Int)=n.tree.many
  ·rw[if_pos h2] at hd
   have hq2:((m:Int)==n.tree.many)=true:=by simpa using h2
   refine kH fun gvs=>?_
   repeat' first|refine kS ?_|refine qS (QcZ cK c1 hw) ?_|refine qS (QcX rfl rfl (by first|omega|(simp only[A2];omega))) ?_|(show AWP _ (.region 7 _ _) _ _;refine(Qa 6 (h:=Fg.awp_drawF (id:=7) [1] [2,3] ?_)))|refine kU ?_|refine kV ?_ ?_<;>intro q|fail
   all_goals first|exact absurd (‹decide ((size:Int)≥n.size)=false›.symm.trans hq1) (by decide)|exact absurd (‹((m:Int)==n.tree.many)=false›.symm.trans hq2) (by decide)|refine QN 5 (hx:=?_);rw[hd.out];exact⟨_,trivial,rfl,rfl⟩
  ·rw[if_neg h2] at hd
   have hq2:((m:Int)==n.tree.many)=false:=by simpa using h2
   have hm1:=hbig h1 h2;have cP:=(ePut g w N (by omega) hw n.tree ht (m -1) (by omega) [] (by simp)).tag3;have hWc:=(QeV hw ht (k:=m -1) (by omega) []).1;have hsg:=Qeh (w:=w) (t:=n.tree) (k:=m -1) (text:=[]);generalize Qm w n.tree (m -1) []=y at*;obtain⟨w2,t2,ok2⟩:=y;simp only at cP hWc hd hsg;rw[show((m -1:Nat):Int)=(m:Int) -1 by omega] at cP;have v0:w2.rows.length=w.rows.length:=by rw[hWc.rows,hw.rows]
   have v1:w2.refs.length=w.refs.length:=by rw[hWc.refs,hw.refs]
   have v2:w2.last.length=w.last.length:=by rw[hWc.last,hw.last]
   have v3:ok2=false->w2.gone.length=w.gone.length:=fun e=>by rw[(hsg e).1]
   clear hsg hWc;cases ok2<;>simp only[A6,if_false,if_true,forall_const] at cP v3
   all_goals
    refine kH fun gvs=>?_
    repeat' first|refine kS ?_|refine qS (QcZ cK c1 hw) ?_|refine qS (QcX rfl rfl (by first|omega|(simp only[A2];omega))) ?_|refine QA [0,1,2,3,4] cP cK (k:=kX ?_)|(show AWP _ (.region 10 _ _) _ _;refine(Qa 6 (h:=Fg.awp_drawF (id:=10) [1,2] [3,4] ?_)))|refine kU ?_|refine kV ?_ ?_<;>intro q|fail
    all_goals first|exact absurd (‹decide ((size:Int)≥n.size)=false›.symm.trans hq1) (by decide)|exact absurd (‹((m:Int)==n.tree.many)=true›.symm.trans hq2) (by decide)|refine QN 5 (hx:=?_);rw[hd.out];exact⟨_,trivial,rfl,rfl⟩
 rw[if_neg h1] at hd;have hq1:decide ((size:Int)≥n.size)=false:=by simpa using h1
 have hsa:=hall (by omega);have cP:=(eCut g w N (by omega) hw n.tree ht m hmz.1).tag3;have hWc:=cut_W hw ht (many:=m) hmz.1;have hsg:=cut_sim (w:=w) (t:=n.tree) (m:=m);generalize QM w n.tree m=y at*;obtain⟨w2,t2,ok2⟩:=y;simp only at cP hWc hd hsg;have v0:w2.rows.length=w.rows.length:=by rw[hWc.1.rows,hw.rows]
 have v1:w2.refs.length=w.refs.length:=by rw[hWc.1.refs,hw.refs]
 have v2:w2.last.length=w.last.length:=by rw[hWc.1.last,hw.last]
 cases ok2
 ·simp only[A6,if_false,if_true] at cP hd
  obtain⟨z1,z2,z3⟩:=hsg rfl;have v3:w2.gone.length=w.gone.length:=by rw[z1]
  have hse:oS g w=oS g w2:=by simp only[oS,z1,z2,z3]
  clear hWc;refine kH fun gvs=>?_
  repeat' first|refine kS ?_|refine qS (QcZ cK c1 hw) ?_|refine QA [0,1,2,3,4] cP cK (k:=kX ?_)|(show AWP _ (.region 13 _ _) _ _;refine(Qa 6 (h:=Fg.awp_drawF (id:=13) [1] [2,3] ?_)))|refine kU ?_|refine kV ?_ ?_<;>intro q|fail
  all_goals first|exact absurd (‹decide ((size:Int)≥n.size)=true›.symm.trans hq1) (by decide)|refine QN 5 (hx:=?_);rw[hd.out];exact⟨g,trivial,by rw[<-hse];rfl,rfl⟩
 simp only[Bool.true_eq_false,if_false,if_true] at cP hd;clear hsg
 by_cases hm0:m=0
 ·rw[if_pos hm0] at hd
  subst hm0;refine kH fun gvs=>?_
  repeat' first|refine kS ?_|refine qS (QcZ cK c1 hw) ?_|refine QA [0,1,2,3,4] cP cK (k:=kX ?_)|(show AWP _ (.region 17 _ _) _ _;refine(Qa 6 (h:=Fg.awp_drawF (id:=17) [1] [2,3] ?_)))|refine kU ?_|refine kV ?_ ?_<;>intro q|fail
  all_goals first|exact absurd (‹decide ((size:Int)≥n.size)=true›.symm.trans hq1) (by decide)|refine QN 5 (hx:=?_);rw[hd.out];exact⟨_,trivial,rfl,rfl⟩|exfalso;simp at*;done
 rw[if_neg hm0] at hd;have hqm:((m:Int)==0)=false:=by simpa using hm0
 have c5:=ePut13 (g+1) w2 (N+29) (by omega) hWc.1 {n with tree:=t2,size:=size} hWc.2 (all.take size) (by rw[A3];omega) (m -1) (m -1) (by omega) (by omega) (by rw[A3];omega);have hWd:=(QhP hWc.1 (n:={n with tree:=t2,size:=size}) hWc.2 (text:=all.take size) (a:=m -1) (b:=m -1) (by omega)).1;generalize Qa8 w2 {n with tree:=t2,size:=size} (all.take size) (m -1) (m -1)=z at*;obtain⟨w3,n3,ok3⟩:=z;simp only at c5 hWd hd;rw[show((m -1:Nat):Int)=(m:Int) -1 by omega,show all.take size=all.take ((size:Nat):Int).toNat by rw[A7]] at c5;have u0:w3.rows.length=w.rows.length:=by rw[hWd.rows,hw.rows]
 have u1:w3.refs.length=w.refs.length:=by rw[hWd.refs,hw.refs]
 have u2:w3.last.length=w.last.length:=by rw[hWd.last,hw.last]
 clear hWc hWd;refine kH fun gvs=>?_
 repeat' first|refine kS ?_|refine qS (QcZ cK c1 hw) ?_|refine QA [0,1,2,3,4] cP cK (k:=kX ?_)|refine qD (QfH rfl rfl rfl (by omega) (by omega)) ?_|refine QeL [0,1,2,3,4] c5 cK (k:=kZ ?_)|(show AWP _ (.region 18 _ _) _ _;refine(Qa 6 (h:=Fg.awp_drawF (id:=18) [] [9,13,14] ?_)))|refine kU ?_|refine kV ?_ ?_<;>intro q|fail
 all_goals first|exact absurd (‹decide ((size:Int)≥n.size)=true›.symm.trans hq1) (by decide)|exact absurd (‹((m:Int)==0)=true›.symm.trans hqm) (by decide)|refine QN 5 (hx:=?_);rw[hd.out];exact⟨_,trivial,rfl,rfl⟩
theorem QdR(n:Qj):(Q6 n).length<=Pm.big:=by
 have:(Q6 n).length<=2048:=by
  unfold Q6;split
  ·unfold Pl.fp Pl.Qdb
   grind
  ·simp
 unfold Pm.big;omega
section
variable{P:Program}{dst:Option Tmp}{ty:TypeId}{pos:String}{after:Array Edge}{gd:Option (Nat×Bool)}{env:List (Nat×AV)}{H:List Blk}{f:FuncId}{xs:Array Operand}{tys:Array TypeId}{ds:List D}{x:D}{fs:Q4}{N g:Nat}{T0 T1 T2 T3 T4:TypeId}{u:Operand}{us:List Operand}
def QY(hf: ∀args w,(callFunc f args).run P w= .ok (.enter f args) w)(h:Pure P f (.pd (rFs fs.1 fs.2.1 fs.2.2)::ds) x)(hw:fs.1.W N)(hx:x.flat=true:=by rfl)(hxs:xs.toList=u::us:=by rfl)
 (hu:aval env u= .ptr 5 0 0:=by rfl)
 (h0:H[0]? =some (.arr 1 1 T0 (rS fs.1.rows)):=by rfl) (h1:H[1]? =some (.arr 1 1 T1 (rI fs.1.refs)):=by rfl) (h2:H[2]? =some (.arr 1 1 T2 (rI fs.1.last)):=by rfl) (h3:H[3]? =some (.arr g 5 T3 (fs.1.gone.map rPtr)):=by rfl) (h4:H[4]? =some (.arr 1 5 T4 []):=by rfl)
 (h5:H[5]? =some (.row 0 (rowF g fs.1 fs.2.1 fs.2.2)):=by rfl)
 (hd:allD (us.map (aval env))=some ds:=by rfl) (hwk:D.weakL ds=ds:=by rfl):Loc P ⟨dst,.call ⟨.value (.func f),xs,tys⟩,ty,pos,after,gd⟩ env H (.d x) none:=by
 refine QfJ hf (Pure.arg (l:=xs.toList.map fun u=>(aval env u).ice H 4) h ?_) hx rfl;rw[hxs,AB,QnA hd,hu];show(AV.ice H 4 _).weak::D.weakL ds=_;rw[hwk]
 congr 1
 simp only[AV.ice,h5,if_true,List.drop_zero,AB,List.map_nil,h0,h1,h2,h3,h4];rw[A1 (show(rS fs.1.rows).length<=64 by simp[hw.rows]),A1 (show(rI fs.1.refs).length<=64 by simp[hw.refs]),A1 (show(rI fs.1.last).length<=64 by simp[hw.last]),A1 (show(fs.1.gone.map rPtr).length<=fs.1.gone.length by simp)];rfl
end
def blob_le(s:Pm.Store)(hg:QP s)(ht:Qx t):(QaL (Qc s t)).1.length<=16*128:=by
 have hl:=texts_len s ht;have hm:=ht.manyHi;have hle:=texts_le s hg t;unfold QaL;split
 ·simp only
  have: ∀l:List (List UInt8),(∀x∈l,x.length<=128)->l.flatten.length<=l.length*128:=by
   intro l;induction l with
   |nil=>intro _;simp
   |cons a l ih=>intro h;have:=ih fun x hx=>h x (List.mem_cons_of_mem _ hx);have:=h a List.mem_cons_self;rw[List.flatten_cons,A2,AA];omega
  have:=this _ hle;omega
 ·simp
def eEnts15(g:Nat)(w:Pl.Sto)(N:Nat)(hw:w.W N)(n:Qj):
 DoesE A5 126 [oS g w,.d (dNode n)] (hS g w) (gS g w) (fun x H=>x= .tup [.d (tEnts (Qg w.st n).1),.d (dB (Qg w.st n).2)]/\H=hS g w):=by
 have hd:=Pm.hid (Qg.eq_def w.st n);have c1:=aNodeOk n;have c2:=al8Ok w.st hw.good n.tree;generalize Qg w.st n=res at*;cases h1:QH w.st n.tree
 ·rw[h1] at c2 hd
  replace hd:Hid (res=([],false)):=Pm.hid (by rw[hd.out];simp)
  generalize Q8 n=ok at*;refine kH fun gvs=>?_
  refine Qa 6 (h:=?_)
  repeat' first|refine kS ?_|refine qS (QcZ cK c2 hw) ?_|refine kU ?_|refine kV ?_ ?_<;>intro q|fail
  all_goals first|refine Qa 7 (h:=?_);refine Qdt 5 (hx:=?_);rw[hd.out];exact⟨rfl,rfl⟩
 have ht:=Qdo h1;have c3:=al9Get w.st hw.good n.tree ht;have c4:=Qjc (QaL (Qc w.st n.tree)).1 (by have:=blob_le w.st hw.good ht;omega);rw[h1] at c2 hd;generalize Q8 n=ok at*;generalize QaL (Qc w.st n.tree)=bb at*;obtain⟨tx,fine⟩:=bb;simp only at c4 hd;generalize QbP tx=r at*;obtain⟨es,good⟩:=r;clear h1 ht;refine kH fun gvs=>?_
 refine Qa 6 (h:=?_)
 repeat' first|refine kS ?_|refine qS (QcZ cK c2 hw) ?_|refine qS (QcZ cK c3 hw) ?_|refine kU ?_|refine kV ?_ ?_<;>intro q|fail
 all_goals first
  |(have e:res=([],false):=by
     rw[hd.out];clear c1 c2 c3 c4 hd;simp only[Bool.not_eq_true',A9,bne_iff_ne,bne_eq_false_iff_eq] at*;simp[*]
     done
    refine Qa 7 (h:=?_);refine Qdt 5 (hx:=?_);rw[e];exact⟨rfl,rfl⟩)
  |(have e:res=(es,good):=by
     rw[hd.out];clear c1 c2 c3 c4 hd;simp only[A9,bne_iff_ne,bne_eq_false_iff_eq] at*;simp[*]
     done
    refine Qdt 5 (hx:=?_);rw[e];exact⟨rfl,rfl⟩)
def Qfg(g:Nat)(f:Q4)(N:Nat)(hw:f.1.W N)(ht:Qx f.2.1)(k:Nat):
 DoesE A5 217 [.ptr 5 0 0,.d (dI k)] (hF g f) (gF g f.1) (fun x H=>x= .d (tEnts (Qg f.1.st (Ql f k)).1)/\H=hF g f):=by
 obtain⟨w,t,full⟩:=f;simp only at hw ht⊢;have c1:=aNode w N hw t ht full k;have c2:=eEnts15 g w N hw (Ql (w,t,full) k);rw[show(Q5 w.st t k).1=Ql (w,t,full) k from rfl] at c1;generalize Ql (w,t,full) k=n at*;generalize Qg w.st n=r at*;refine kH fun gvs=>?_
 repeat' first|refine kS ?_|(show AWP _ (.region 1 _ _) _ _;refine(Fg.awp_drawF (id:=1) [] [7] ?_))|refine qD (QY (fs:=(w,t,full)) cK c1 hw) ?_|refine QeL [0,1,2,3,4] c2 cK (k:=kZ ?_)|refine kU ?_|fail
 all_goals first|refine Q1 6 (hx:=?_);exact⟨rfl,rfl⟩
theorem QgL{f:Q4}{N:Nat}(h:f.1.W N)(ht:Qx f.2.1)(hk:k<16)(n:Qj):(Qaq f k n).1.W (N+15)/\Qx (Qaq f k n).2.1:=by
 unfold Qaq;split
 ·exact⟨h.le (by omega),ht⟩
 grind [QeV]
theorem Qub{N:Nat}(h:w.W N)(ht:Qx t)(text:List UInt8):(Qax w t text).1.W (N+269)/\Qx (Qax w t text).2.1:=by
 unfold Qax;split
 ·exact⟨h.le (by omega),ht⟩
 ·rename_i h1
  have h2:=Qmc (QaG text) 0 h ht (by omega);split
  ·have h3:=cut_W h2.1 h2.2 (many:=(QaG text).length) (by omega)
   exact⟨h3.1.le (by omega),h3.2⟩
  ·exact⟨h2.1.le (by omega),h2.2⟩
theorem Qd6{f:Q4}{N:Nat}(h:f.1.W N)(ht:Qx f.2.1)(hk:k<16)(hn:f.2.2=false->Qx (Ql f k).tree)(l:List Qq):(QW f k l).1.W (N+284)/\Qx (QW f k l).2.1:=by
 unfold QW;split
 ·exact⟨h.le (by omega),ht⟩
 grind [Qub,QgL]
def eBputX(g:Nat)(w:Pl.Sto)(N:Nat)(hN:N<=700000)(hw:w.W N)(t:Pl.Tree)(ht:Qx t)(text:List UInt8)(htx:text.length<=1000000000000):
 DoesE A5 279 [oS g w,.d (dTree t),.d (dS text)] (hS g w) (gS g w) (fun x H=>x= .tup [oS (g+1) (Qax w t text).1,.d (dTree (Qax w t text).2.1),.d (dB (Qax w t text).2.2)]/\H=hS (g+1) (Qax w t text).1):=
 DoesE.tag (C:=fun _=>True) (X:=fun g'=> .tup [oS g' (Qax w t text).1,.d (dTree (Qax w t text).2.1),.d (dB (Qax w t text).2.2)]) (fun B σ S w0 cargs gvs h1 h2 h3 h4 h5 h6=>(eBput g w N hN hw t ht text htx B σ S w0 cargs gvs h1 h2 h3 h4 h5 h6).mono fun _ _ ⟨x,H,⟨g',e1,e2⟩,h⟩=>⟨x,H,⟨g',trivial,e1,e2⟩,h⟩) QfU
def eWriteF(g:Nat)(f:Q4)(N:Nat)(hN:N<=600000)(hw:f.1.W N)(ht:Qx f.2.1)(k:Nat)(hk:k<16)(hnt:f.2.2=false->Qx (Ql f k).tree)(l:List Qq)(hb: ∀e∈l,e.1.length<=4/\0<=e.2/\e.2<=15)(hl:l.length<=1000)(htx:(QG l).length<=1000000000000):
 DoesE A5 219 [.ptr 5 0 0,.d (dI k),.d (tEnts l)] (hF g f) (gF g f.1) (fun x H=>x= .tup []/\H=hF (g+1) (QW f k l)):=by
 refine DoesE.tagF (C:=fun _=>True) ?_ Qlb;have hWr:=(Qd6 hw ht hk hnt l).1;obtain⟨w,t,full⟩:=f;simp only at hw ht hnt⊢;cases full
 ·replace hnt:=hnt rfl
  have c1:=aNode w N hw t ht false k;have c2:=QtE l hb hl;have cB:=eBputX g w N (by omega) hw (Ql (w,t,false) k).tree hnt (QG l) htx;have hWb:=(Qub hw hnt (QG l)).1
  have hd:Hid (QW (w,t,false) k l=Qaq ((Qax w (Ql (w,t,false) k).tree (QG l)).1,t,!(Qax w (Ql (w,t,false) k).tree (QG l)).2.2) k
   {Ql (w,t,false) k with tree:=(Qax w (Ql (w,t,false) k).tree (QG l)).2.1,size:=(QG l).length}):=Pm.hid rfl
  rw[show(Q5 w.st t k).1=Ql (w,t,false) k from rfl] at c1;generalize QW (w,t,false) k l=res at*;generalize Ql (w,t,false) k=n at*;generalize QG l=text at*;generalize Qax w n.tree text=y at*;obtain⟨w2,t2,ok2⟩:=y;simp only at cB hWb hd;have cP:=ePutF (g+1) (w2,t,!ok2) (N+269) (by omega) hWb ht k hk {n with tree:=t2,size:=text.length} (QdR _);rw[<-hd.out] at cP;have v0:res.1.rows.length=w.rows.length:=by rw[hWr.rows,hw.rows]
  have v1:res.1.refs.length=w.refs.length:=by rw[hWr.refs,hw.refs]
  have v2:res.1.last.length=w.last.length:=by rw[hWr.last,hw.last]
  clear hWr hWb hd;refine kJ fun gvs=>?_
  repeat' first|refine kS ?_|refine qS (QY (fs:=(w,t,false)) cK c1 hw) ?_|(show AWP _ (.region 3 _ _) _ _;refine(Fk.awp_drawG (id:=3) [8,10,11,12,13] [7,14,15] [(12,.row 0 zSt),(13,.row 0 zTr)] [] 7 28 (.tup [oS (g+1) w2,.d (dTree t2),.d (dB ok2)]) ?_))|refine(Fk.aw_fltA 7 ?_)|refine(Fk.aw_fltA 8 ?_)|refine Fk.aw_callM [0,1,2,3,4] cB cK (k:=kY ?_)|refine Qdg [0,1,2,3,4,5] cP cK (k:=kX ?_)|refine kU ?_|fail
  all_goals first|refine endR0 6 (hx:=?_);exact⟨_,trivial,rfl,rfl⟩
 ·refine kJ fun gvs=>?_
  repeat refine kA ?_
  all_goals first|refine Qod 6 (hx:=?_);exact⟨g,trivial,rfl,rfl⟩

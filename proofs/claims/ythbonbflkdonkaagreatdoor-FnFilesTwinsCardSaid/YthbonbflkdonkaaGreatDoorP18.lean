/- Of ftw_card; no condition. -/
import Derived.Test.YthbonbflkdonkaaGreatDoorP13
set_option linter.all false
set_option maxRecDepth 100000
set_option maxHeartbeats 8000000
open Go renaming Operand->A5
open Go.Proofs.Tryz renaming prog->A0
open Go.RowKit renaming Hid->A8
open List renaming mem_of_find?_eq_some->A1,range'->A2,map_cons->A3,mem_range'_1->A4,map_nil->A6,map_map->A7
namespace Go.Proofs.YthbonbflkdonkaaGreatDoor
noncomputable section
open Go.RowKit
namespace Aw
section
variable{P:Program}{dst:Option Tmp}{ty:TypeId}{pos:String}{after:Array Edge}{gd:Option (Nat×Bool)}{env:List (Nat×AV)}{H:List Blk}{f:FuncId}{xs:Array A5}{tys:Array TypeId}{ds:List D}{x:D}{w:Pl.Sto}{N k0 k1 k2 k3 k4 g:Nat}{T0 T1 T2 T3 T4:TypeId}{u:A5}{us:List A5}
theorem Qfu{α:Type}{l:List α}{n:Nat}(h:l.length=n):(l.drop 0).take n=l:=by grind
theorem Qrs(hw:w.W N)(h0:H[k0]? =some (.arr 1 1 T0 (rS w.rows)))(h1:H[k1]? =some (.arr 1 1 T1 (rI w.refs)))(h2:H[k2]? =some (.arr 1 1 T2 (rI w.last)))(h3:H[k3]? =some (.arr g 5 T3 (w.gone.map rPtr)))(h4:H[k4]? =some (.arr 1 5 T4 [])):
 (AV.ice H 4 (.agg [.osl k0 1 0 64,.osl k1 1 0 64,.osl k2 1 0 64,.d (dI w.txg),.osl k3 g 0 w.gone.length,.d (dI 0),.osl k4 1 0 0,.d (dB w.same)])).weak=dSt w.st:=by
 simp only[AV.ice,A3,A6,h0,h1,h2,h3,h4,if_true];rw[Qfu (l:=rS w.rows) (by simp[hw.rows]),Qfu (l:=rI w.refs) (by simp[hw.refs]),Qfu (l:=rI w.last) (by simp[hw.last]),Qfu (l:=w.gone.map rPtr) (by simp)];rfl
theorem ice_sp{refs last:List Int}(hr:refs.length=64)(hl:last.length=64)(h1:H[k1]? =some (.arr 1 1 T1 (rI refs)))(h2:H[k2]? =some (.arr 1 1 T2 (rI last))):
 (AV.ice H 4 (.agg [.osl k1 1 0 64,.osl k2 1 0 64])).weak= .agg [dInts refs,dInts last]:=by
 simp only[AV.ice,A3,A6,h1,h2,if_true];rw[Qfu (l:=rI refs) (by simp[hr]),Qfu (l:=rI last) (by simp[hl])];rfl
def Qoc: ∀{us:List A5} {ds:List D},allD (us.map (aval env))=some ds->us.map (fun u=>(aval env u).ice H 4)=ds:=by
 intro us ds h;have:=QfF h;have h2:=congrArg (List.map (AV.ice H 4)) this;rw[A7,A7] at h2;have h3: ∀l:List D,l.map (AV.ice H 4 ∘ AV.d)=l:=fun l=>by rw[show(AV.ice H 4 ∘ AV.d)=id from rfl,List.map_id]
 rw[h3] at h2;exact h2
theorem Qdh(hf: ∀args w,(callFunc f args).run P w= .ok (.enter f args) w)(h:Pure P f (dSt w.st::ds) x)(hw:w.W N)(hx:x.flat=true:=by rfl)(hxs:xs.toList=u::us:=by rfl)
 (hu:aval env u= .agg [.osl k0 1 0 64,.osl k1 1 0 64,.osl k2 1 0 64,.d (dI w.txg),.osl k3 g 0 w.gone.length,.d (dI 0),.osl k4 1 0 0,.d (dB w.same)]:=by rfl)
 (h0:H[k0]? =some (.arr 1 1 T0 (rS w.rows)):=by rfl) (h1:H[k1]? =some (.arr 1 1 T1 (rI w.refs)):=by rfl) (h2:H[k2]? =some (.arr 1 1 T2 (rI w.last)):=by rfl) (h3:H[k3]? =some (.arr g 5 T3 (w.gone.map rPtr)):=by rfl) (h4:H[k4]? =some (.arr 1 5 T4 []):=by rfl)
 (hd:allD (us.map (aval env))=some ds:=by rfl) (hwk:D.weakL ds=ds:=by rfl):Loc P ⟨dst,.call ⟨.value (.func f),xs,tys⟩,ty,pos,after,gd⟩ env H (.d x) none:=by
 refine QfR hf (Pure.arg (l:=xs.toList.map fun u=>(aval env u).ice H 4) h ?_) hx rfl;rw[hxs,A3,Qoc hd,hu]
 grind [D.weakL,Qrs]
theorem Qhy{refs last:List Int}(hf: ∀args w,(callFunc f args).run P w= .ok (.enter f args) w)(h:Pure P f (.agg [dInts refs,dInts last]::ds) x)(hr:refs.length=64)(hl:last.length=64)(hx:x.flat=true:=by rfl)(hxs:xs.toList=u::us:=by rfl)
 (hu:aval env u= .agg [.osl k1 1 0 64,.osl k2 1 0 64]:=by rfl) (h1:H[k1]? =some (.arr 1 1 T1 (rI refs)):=by rfl) (h2:H[k2]? =some (.arr 1 1 T2 (rI last)):=by rfl)
 (hd:D.weakL (us.map fun u=>(aval env u).ice H 4)=ds:=by rfl):Loc P ⟨dst,.call ⟨.value (.func f),xs,tys⟩,ty,pos,after,gd⟩ env H (.d x) none:=by
 refine QfR hf (Pure.arg (l:=xs.toList.map fun u=>(aval env u).ice H 4) h ?_) hx rfl
 grind [D.weakL,ice_sp]
end
attribute [local irreducible] ASeq ADraw AWP Loc AStep Fg.PlanF Fg.Flts EndR
def Qug(s:List UInt8):Pure A0 177 [dS s] (dB (Pl.inR (s.length:Int) 1 128)):=by
 refine kE ?_
 repeat' first|refine kS ?_|refine qS (Qdr cK (al6In _ _ _) rfl) ?_|refine kU ?_|fail
 all_goals exact Qb (hx:=rfl)
def aPtrOf(a birth level:Int)(text:List UInt8)(ht:text.length<=Pm.big):Pure A0 106 [dI a,dI birth,dI level,dS text] (.tup [dPtr (Pl.ptrOf a birth level text).1,dB (Pl.ptrOf a birth level text).2]):=by
 have hd:A8 (Pl.ptrOf a birth level text=if Pl.inR (text.length:Int) 1 128&&Pl.ptrOk ⟨a,birth,text.length,(Pl.sumOf text:Nat),level⟩ then(⟨a,birth,text.length,(Pl.sumOf text:Nat),level⟩,true) else(Pl.hole,false)):=Pm.hid rfl;have c1:=Qug text;have c2:=aSumOf text ht;have c3:=aPtrOk ⟨a,birth,text.length,(Pl.sumOf text:Nat),level⟩;generalize Pl.ptrOk ⟨a,birth,text.length,(Pl.sumOf text:Nat),level⟩=ok at*;generalize Pl.inR (text.length:Int) 1 128=bl at*;rw[hd.out];clear hd;cases bl
 ·refine kD ?_
  repeat refine kA ?_
  all_goals((refine Qa 0 (h:=?_);refine QK (hx:=?_));rfl)
 cases ok
 ·refine kD ?_
  repeat refine kA ?_
  all_goals((refine Qa 0 (h:=?_);refine QK (hx:=?_));rfl)
 ·refine kD ?_
  repeat refine kA ?_
  all_goals((refine Qa 0 (h:=?_);refine QK (hx:=?_));rfl)
theorem al7Like(s:Pm.Store)(text:List UInt8)(h0:s.1.length=64)(h1:s.2.1.1.length=64)(h2:s.2.1.2.length=64):
 Pure A0 111 [dSt s,dS text] (dI (QcO ((A2 8 56).find? fun i=>s.1.getD i []==text&&decide (s.2.1.2.getD i 0<s.2.2.1)&&decide (s.2.1.1.getD i 0<s.2.2.1)))):=by
 obtain⟨rows,⟨refs,last⟩,txg,gone,keep,dead,same⟩:=s;simp only at*;refine kE ?_;refine Qa 0 (h:=?_)
 repeat refine kA ?_
 refine Qq (fun m st=> ∃k:Nat,k<=56/\m=56 -k/\A8 (∀i,i<k->(rows.getD (8+i) []==text&&decide (last.getD (8+i) 0<txg)&&decide (refs.getD (8+i) 0<txg))=false)/\st=⟨40,[(5,.d (dI ((8+k:Nat)))),(1,.d (dS text)),(2,.d (.pd (rSt (rows,(refs,last),txg,gone,keep,dead,same))))],[.row 1 []]⟩) [5,1,2] 1 56 ⟨0,by omega,rfl,Pm.hid (fun i hi=>by omega),rfl⟩ (round:=?_);rintro m st ⟨k,hk,rfl,hA,rfl⟩
 repeat refine kG ?_
 cases q4:decide (((8+k:Nat):Int)<64)
 ·have:k=56:=by simp at q4;omega
  rw[QhP (p:=fun i=>rows.getD i []==text&&decide (last.getD i 0<txg)&&decide (refs.getD i 0<txg)) hA.out this]
  repeat refine kA ?_
  exact Qb (hx:=rfl)
 have hk2:k<56:=by simp at q4;omega
 have hr0:=Qj0 (l:=rows) (a:=8+k) (by omega);have hr1:=QfL (l:=refs) (a:=8+k) (by omega);have hr2:=QfL (l:=last) (a:=8+k) (by omega);rw[Nat.zero_add] at hr0 hr1 hr2
 have hS:A8 ((rows.getD (8+k) []==text&&decide (last.getD (8+k) 0<txg)&&decide (refs.getD (8+k) 0<txg))=true->(A2 8 56).find? (fun i=>rows.getD i []==text&&decide (last.getD i 0<txg)&&decide (refs.getD i 0<txg))=some (8+k)):=
  Pm.hid fun h=>QhO (p:=fun i=>rows.getD i []==text&&decide (last.getD i 0<txg)&&decide (refs.getD i 0<txg)) hA.out hk2 h
 have hF:A8 ((rows.getD (8+k) []==text&&decide (last.getD (8+k) 0<txg)&&decide (refs.getD (8+k) 0<txg))=false-> ∀i,i<k+1->(rows.getD (8+i) []==text&&decide (last.getD (8+i) 0<txg)&&decide (refs.getD (8+i) 0<txg))=false):=Pm.hid fun h i hi=>by
  by_cases hik:i=k
  ·rw[hik];exact h
  ·exact hA.out i (by omega)
 clear hA;generalize rows.getD (8+k) []=rv at*;generalize last.getD (8+k) 0=lv at*;generalize refs.getD (8+k) 0=fv at*
 repeat' first|refine kS ?_|refine qD (iy hr0) ?_|refine qD (iy hr1) ?_|refine qD (iy hr2) ?_|refine kU ?_|refine kV ?_ ?_<;>intro q|fail
 all_goals first|refine Qb (hx:=?_);rw[hS.out (by simp_all)];rfl|refine Qg (56 -(k+1)) (by omega) ⟨k+1,by omega,rfl,Pm.hid (hF.out (by first|(simp_all;done)|(simp_all;omega))),?_⟩;simp[keepE,go_sem];omega
theorem eWrite(g:Nat)(w:Pl.Sto)(N:Nat)(hN:N<=1000000)(hw:w.W N)(text:List UInt8)(ht:text.length<=Pm.big)(level:Int):
 DoesE A0 57 [oS g w,.d (dS text),.d (dI level)] (hS g w) (gS g w) (fun x H=>x= .tup [oS g (w.write text level).1,.d (dPtr (w.write text level).2.1),.d (dB (w.write text level).2.2)]/\H=hS g (w.write text level).1):=by
 have c1:=al7Like w.st text hw.rows hw.refs hw.last;have c2:=al5Find w.refs w.last hw.refs
 have hs1: ∀a,w.like text=some a->a<64:=fun a h=>by
  have h1:=A1 h;rw[A4] at h1;omega
 have hs2: ∀a,w.room=some a->a<64:=fun a h=>by
  have h1:=A1 h;rw[A4] at h1;omega
 have hd:A8 (w.write text level=w.put text level ((if w.same&&level==0 then w.like text else none).or w.room)):=Pm.hid rfl;have e1:((A2 8 56).find? fun i=>w.st.1.getD i []==text&&decide (w.st.2.1.2.getD i 0<w.st.2.2.1)&&decide (w.st.2.1.1.getD i 0<w.st.2.2.1))=w.like text:=rfl;have e2:((A2 8 56).find? fun i=>w.refs.getD i 0==0)=w.room:=rfl;rw[e1] at c1;rw[e2] at c2;clear e1 e2;have hlen:=And.intro hw.refs hw.last;generalize w.write text level=wr at*;generalize w.like text=lk at*;generalize w.room=rm at*;have rows:=hw.rows
 have hbr: ∀a,a<64-> -1000000<=w.refs.getD a 0/\w.refs.getD a 0<=1000000:=fun a ha=>by
  have:=hw.ref _ (Pl.QdQ (d:=0) (i:=a) (by rw[hw.refs];omega));omega
 have hf1:=fun a (ha:a<64)=>Qj0 (l:=w.rows) (a:=a) (by omega)
 have hf2:=fun a (ha:a<64)=>QfL (l:=w.refs) (a:=a) (by omega)
 have hf3:=fun a (ha:a<64)=>QfL (l:=w.last) (a:=a) (by omega)
 have g1:=fun a=>QnJ (l:=w.rows) (a:=a) (x:=w.rows.getD a []) (y:=text)
 have g2:=fun a y=>Qj1 (l:=w.refs) (a:=a) (x:=w.refs.getD a 0) (y:=y)
 have g3:=fun a y=>Qj1 (l:=w.last) (a:=a) (x:=w.last.getD a 0) (y:=y)
 have hw':=Pm.hid hw;have hla: ∀a,A8 (w.lay1 a text=⟨w.rows.set a text,w.refs.set a (w.refs.getD a 0+1),w.last.set a w.txg,w.txg,w.gone,w.same⟩):=fun a=>Pm.hid rfl
 have hlay: ∀a,A8 (hS g (w.lay1 a text)=[.arr 1 1 9 (rS (w.rows.set a text)),.arr 1 1 3 (rI (w.refs.set a (w.refs.getD a 0+1))),.arr 1 1 3 (rI (w.last.set a w.txg)),.arr g 5 31 (w.gone.map rPtr),.arr 1 5 31 []]):=fun a=>Pm.hid rfl
 have hlo: ∀a,A8 (oS g (w.lay1 a text)=oS g w):=fun a=>Pm.hid rfl
 clear hw rows
 by_cases hc:w.same=true/\level=0/\ ∃a,lk=some a
 ·obtain⟨h1,rfl,a,rfl⟩:=hc
  have ha:=hs1 a rfl;have c1:Pure A0 111 [dSt w.st,dS text] (dI a):=c1;have c3:=aPtrOf a w.txg 0 text ht;have hq:A8 (wr=if(Pl.ptrOf a w.txg 0 text).2 then(w.lay1 a text,(Pl.ptrOf a w.txg 0 text).1,true) else(w,Pl.hole,false)):=Pm.hid (by rw[hd.out,h1];rfl);have r1:=hf1 a ha;have r2:=hf2 a ha;have r3:=hf3 a ha;have hb:=hbr a ha;have g1:=g1 a;have g2:=g2 a;have g3:=g3 a;have hlay:=hlay a;have hlo:=hlo a;clear hd hf1 hf2 hf3 hs1 hs2 hbr c2 hla;generalize w.refs.getD a 0=fv at*;generalize w.last.getD a 0=lv at*;generalize w.rows.getD a []=rv at*;generalize Pl.ptrOf a w.txg 0 text=po at*;obtain⟨⟨p1,p2,p3,p4,p5⟩,ok⟩:=po;cases ok
  ·refine kH fun gvs=>?_
   repeat' first|refine kS ?_|refine qS (Qdh cK c1 hw'.out) ?_|refine kU ?_|refine kV ?_ ?_<;>intro q|fail
   all_goals first|exfalso;simp_all;done|exfalso;simp only[decide_eq_true_eq,decide_eq_false_iff_not,QcO] at*;omega|rw[hq.out];(refine QO 5 (hx:=?_);exact⟨rfl,rfl⟩)
  ·refine kH fun gvs=>?_
   repeat' first|refine kS ?_|refine qS (Qdh cK c1 hw'.out) ?_|refine(QhT Ty.h rfl rfl r1 g1 (kk:=?_))|(show AWP _ (.region 12 _ _) _ _;refine(Fg.awp_drawF (id:=12) [] [12] ?_))|refine qD (Qdg Ty.h rfl rfl r2 rfl) ?_|refine(Qmi Ty.h rfl rfl r2 (g2 _) (kk:=?_))|refine(QhT Ty.h rfl rfl r3 (g3 _) (kk:=?_))|(show AWP _ (.region 14 _ _) _ _;refine(Qa 8 (h:=Fg.awp_drawF (id:=14) [1] [2,3] ?_)))|refine kU ?_|refine kV ?_ ?_<;>intro q|fail
   all_goals first|exfalso;simp_all;done|exfalso;simp only[decide_eq_true_eq,decide_eq_false_iff_not,QcO] at*;omega|rw[hq.out];refine QO 5 (hx:=?_);refine⟨?_,?_⟩;rfl;exact hlay.out.symm
 ·have hne:w.same=true->level=0->lk=none:=fun h1 h2=>by
   cases lk with
   |none=>rfl
   |some a=>exact absurd ⟨h1,h2,a,rfl⟩ hc
  clear hc
  have hq:A8 (wr=w.put text level rm):=Pm.hid (by
   rw[hd.out];cases h1:w.same&&level==0
   ·rfl
   ·rw[hne (by simp at h1;exact h1.1) (by simp at h1;exact h1.2)];rfl)
  obtain⟨z,c1,hz⟩: ∃z:Int,Pure A0 111 [dSt w.st,dS text] (dI z)/\A8 (w.same=true->level=0->z= -1):=⟨_,c1,Pm.hid fun h1 h2=>by rw[hne h1 h2];rfl⟩;clear hne hd;cases rm with
  |none=>
   have c2:Pure A0 112 [.agg [dInts w.refs,dInts w.last],dI 8,.sl false 1 []] (dI (-1)):=c2;have hq:A8 (wr=(w,Pl.hole,false)):=Pm.hid hq.out;refine kH fun gvs=>?_
   repeat' first|refine kS ?_|refine qS (Qdh cK c1 hw'.out) ?_|refine qS (Qhy cK c2 hlen.1 hlen.2) ?_|refine kU ?_|refine kV ?_ ?_<;>intro q|fail
   all_goals first|exfalso;simp only[decide_eq_true_eq,decide_eq_false_iff_not] at*;omega|exfalso;have hz:=hz.out (by assumption) (by simp only[beq_iff_eq] at*;assumption);simp only[decide_eq_true_eq,decide_eq_false_iff_not] at*;omega|rw[hq.out];(refine QO 5 (hx:=?_);exact⟨rfl,rfl⟩)
  |some a=>
  have ha:=hs2 a rfl;have c2:Pure A0 112 [.agg [dInts w.refs,dInts w.last],dI 8,.sl false 1 []] (dI a):=c2;have hq:A8 (wr=if(Pl.ptrOf a w.txg level text).2 then(w.lay1 a text,(Pl.ptrOf a w.txg level text).1,true) else(w,Pl.hole,false)):=Pm.hid hq.out;have c3:=aPtrOf a w.txg level text ht;have r1:=hf1 a ha;have r2:=hf2 a ha;have r3:=hf3 a ha;have hb:=hbr a ha;have g1:=g1 a;have g2:=g2 a;have g3:=g3 a;have hlay:=hlay a;have hlo:=hlo a;clear hf1 hf2 hf3 hs1 hs2 hbr hla;generalize w.refs.getD a 0=fv at*;generalize w.last.getD a 0=lv at*;generalize w.rows.getD a []=rv at*;generalize Pl.ptrOf a w.txg level text=po at*;obtain⟨⟨p1,p2,p3,p4,p5⟩,ok⟩:=po;cases ok
  ·refine kH fun gvs=>?_
   repeat' first|refine kS ?_|refine qS (Qdh cK c1 hw'.out) ?_|refine qS (Qhy cK c2 hlen.1 hlen.2) ?_|refine kU ?_|refine kV ?_ ?_<;>intro q|fail
   all_goals first|exfalso;simp only[decide_eq_true_eq,decide_eq_false_iff_not] at*;omega|exfalso;have hz:=hz.out (by assumption) (by simp only[beq_iff_eq] at*;assumption);simp only[decide_eq_true_eq,decide_eq_false_iff_not] at*;omega|rw[hq.out];(refine QO 5 (hx:=?_);exact⟨rfl,rfl⟩)
  ·refine kH fun gvs=>?_
   repeat' first|refine kS ?_|refine qS (Qdh cK c1 hw'.out) ?_|refine qS (Qhy cK c2 hlen.1 hlen.2) ?_|refine(QhT Ty.h rfl rfl r1 g1 (kk:=?_))|(show AWP _ (.region 12 _ _) _ _;refine(Fg.awp_drawF (id:=12) [] [12] ?_))|refine qD (Qdg Ty.h rfl rfl r2 rfl) ?_|refine(Qmi Ty.h rfl rfl r2 (g2 _) (kk:=?_))|refine(QhT Ty.h rfl rfl r3 (g3 _) (kk:=?_))|(show AWP _ (.region 14 _ _) _ _;refine(Qa 9 (h:=Fg.awp_drawF (id:=14) [1] [2,3] ?_)))|refine kU ?_|refine kV ?_ ?_<;>intro q|fail
   all_goals first|exfalso;simp only[decide_eq_true_eq,decide_eq_false_iff_not] at*;omega|exfalso;have hz:=hz.out (by assumption) (by simp only[beq_iff_eq] at*;assumption);simp only[decide_eq_true_eq,decide_eq_false_iff_not] at*;omega|rw[hq.out];refine QO 5 (hx:=?_);refine⟨?_,?_⟩;rfl;exact hlay.out.symm

/- Of ftw_card; no condition. -/
import Derived.Test.YthbonbflkdonkaaGreatDoorP23
import Derived.Test.YthbonbflkdonkaaGreatDoorP29
import Derived.Test.YthbonbflkdonkaaGreatDoorP30
set_option linter.all false
set_option maxRecDepth 100000
set_option maxHeartbeats 16000000
open Bool renaming and_eq_true->AE,false_eq_true->AH,false_and->AR,true_and->AS,and_false->Aj
open Go renaming Value->Am
open Go.Proofs.Tryz renaming prog->A4,underlying69->AX,underlying22->Aa
open Go.RowKit renaming Hid->AQ
open Go.Value renaming cells->Al
open Int renaming eq_ofNat_of_zero_le->AK,toNat_natCast->AW
open List renaming getD_eq_getElem?_getD->A0,getElem?_eq_getElem->A1,replicate->A2,range->A3,take_of_length_le->A5,flatMap_cons->A6,mem_append_left->A7,mem_append_right->A9,mem_of_getElem?->AA,length_pos_iff->AC,mem_range->AD,map_congr_left->AF,length_append->AG,mem_take_iff_getElem->AI,foldl_append->AJ,length_take->AL,length_eq_zero_iff->AM,range_succ->AO,perm_append_comm->AP,map_replicate->AT,mem_replicate->AU,take_add_one->AY,all_eq_false->AZ,cons_append->Ab,length_cons->Ac,length_drop->Ad,all_eq_true->Ae,nil_append->Ag,foldl_cons->Ah,foldl_nil->Ai
open List.Perm renaming append_left->A8,append_right->AN
open List.Sublist renaming append->An
open Nat renaming le_refl->Af,zero_add->Ak
open Option renaming getD_some->AB
namespace Go.Proofs.YthbonbflkdonkaaGreatDoor
noncomputable section
section
open Go.RowKit
namespace Aw
variable{x:List UInt8}{k g1 g2:Nat}{t:Pl.Tree}{w w' w2:Pl.Sto}{p:Pl.Ptr}{wd:World}{σ:Sg}{a:D}{args:List AV}
attribute [local irreducible] ASeq ADraw AWP Loc
def QcN(l:List (List UInt8))(k:Int):Qk×Bool:=if Pl.inR k 0 ((l.length:Int) -1)&& !(l.getD k.toNat []==[]) then((Qo (l.getD k.toNat [])).1,true) else(Qd,false)
def bNodeAt(l:List (List UInt8))(k:Int)(hl:l.length<=1000):Pure A4 80 [tNds l,dI k] (.tup [dNode (QcN l k).1,dB (QcN l k).2]):=by
 have hd:=Pm.hid (QcN.eq_def l k);have c1:=bIn k 0 ((l.length:Int) -1);cases hi:Pl.inR k 0 ((l.length:Int) -1)
 ·rw[hi] at c1 hd
  refine kC ?_
  repeat refine kA ?_
  (refine Qa 0 (h:=?_);refine QK (hx:=?_))
  rw[hd.out];rfl
 rw[hi] at c1 hd;have hb:0<=k/\k<=(l.length:Int) -1:=by simpa[Pl.inR] using hi
 obtain⟨j,rfl⟩:=AK hb.1;obtain⟨x,hx⟩: ∃x,l[j]? =some x:=⟨_,A1 (by omega)⟩;have hr:=Qs (f:=fun x=>[QaK x]) hx;have hg:l.getD ((j:Nat):Int).toNat []=x:=by rw[AW,A0,hx];rfl
 rw[hg] at hd
 by_cases hn:x=[]
 ·have e:QaK x= .v (.pointer none):=by unfold QaK;rw[if_pos hn]
  rw[e] at hr;refine kC ?_
  repeat' first|refine kS ?_|refine qS (iy hr) ?_|refine qS (Qg8 AX rfl) ?_|refine kU ?_|fail
  all_goals
   (refine Qa 0 (h:=?_);refine QK (hx:=?_))
   rw[hd.out,hn];rfl
 have e:QaK x= .pd (rNode (Qo x).1):=by unfold QaK;rw[if_neg hn]
 rw[e] at hr;have hnb:(x==[])=false:=by simpa using hn
 rw[hnb] at hd;generalize (Qo x).1=N at*;obtain⟨kind,links,size,⟨⟨p1,p2,p3,p4,p5⟩,depth,many⟩⟩:=N;refine kC ?_
 repeat' first|refine kS ?_|refine qS (iy hr) ?_|refine qS (QeR AX rfl) ?_|refine qS (Qdm rfl) ?_|refine kU ?_|fail
 all_goals
  (refine Qa 0 (h:=?_);refine QK (hx:=?_))
  rw[hd.out];rfl
theorem Qsn{l:List (List UInt8)}(hx:l[k]? =some x)(h:(A3 k).all (Qau l)=true)(hb:Qau l k=true):(A3 (k+1)).all (Qau l)=true:=by grind
theorem Qr3{l:List (List UInt8)}(hx:l[k]? =some x):(l.take (k+1)).flatten=(l.take k).flatten++x:=by grind [AY]
theorem flat_le{m:Nat}: ∀{l:List (List UInt8)},(∀x∈l,x.length<=m)->l.flatten.length<=l.length*m
 :=by intro l;induction l<;>grind [Nat.add_mul]
def QbC(s:Pm.Store)(n:Qk):List UInt8×Bool:=if QL s n.tree&&(QaL (Qc s n.tree)).2 then((QaL (Qc s n.tree)).1,decide (((QaL (Qc s n.tree)).1.length:Int)=n.size)) else([],false)
theorem Qnw(s:Pm.Store)(hg:QU s)(htx:0<=s.2.2.1)(n:Qk):Pure A4 81 [.pd (rSt s),dNode n] (.tup [dS (QbC s n).1,dB (QbC s n).2]):=by
 have c1:=bLeaves s hg htx n.tree;have hd:=Pm.hid (QbC.eq_def s n);cases ht:QL s n.tree
 ·have e:QX s n.tree=([],false):=by unfold QX;rw[if_neg (by rw[ht];simp)]
  rw[e] at c1;rw[ht] at hd;refine kE ?_;refine Qa 0 (h:=?_)
  repeat refine kA ?_
  refine Qb (hx:=?_);rw[hd.out];rfl
 have e2:(QX s n.tree).2=true:=by unfold QX;rw[if_pos ht]
 have hlen:=QeJ ht;have hho:=Pm.hid (QeS ht);have htx2:=Pm.hid (Qe5 ht);rw[ht,AS] at hd;rw[e2] at c1;rw[<-hlen.1] at hlen;generalize (QX s n.tree).1=l at*;have hl16:l.length<=16:=hlen.2;have htl:(Qc s n.tree).length=l.length:=by rw[<-htx2.out,List.length_map]
 have hle:=texts_le s hg n.tree;have hgt:AQ (∀(k:Nat) p,l[k]? =some p->(Qc s n.tree)[k]? =some (Qi s.1 p).1):=Pm.hid fun k p hk=>by rw[<-htx2.out,List.getElem?_map,hk];rfl
 clear htx2 hlen e2 ht;generalize Qc s n.tree=xs at*;have hbl:=Pm.hid (QaL.eq_def xs)
 have hNo:AQ (∀k,k<l.length->Qau xs k=false->QbC s n=([],false)):=Pm.hid fun k hk h=>by
  have:(A3 xs.length).all (Qau xs)=false:=by rw[AZ];exact⟨k,AD.2 (by omega),by rw[h];simp⟩
  rw[hd.out,hbl.out,this];rfl
 generalize QaL xs=bl at*;generalize hres:QbC s n=res at*;clear hres;refine kE ?_;refine Qa 0 (h:=?_)
 repeat refine kA ?_
 refine Qq (fun m st=> ∃(k:Nat) (acc:List UInt8),k<=l.length/\m=l.length -k/\acc.length<=k*128/\AQ (acc=(xs.take k).flatten)/\AQ ((A3 k).all (Qau xs)=true)/\
  st=⟨59,[(0,.d (.pd (rSt s))),(3,.d (.pd (rNode n))),(6,.d (tPtrs l)),(22,.d (tPtrs l)),(23,.d (dI l.length)),(24,.d (dI k)),(8,.d (dS acc))],[.row 1 []]⟩) [0,3,6,22,23,24,8] 1 l.length
  ⟨0,[],by omega,rfl,by simp,Pm.hid (by simp),Pm.hid rfl,by simp[keepE,go_sem]⟩ (round:=?_)
 rintro m st ⟨k,acc,hk,rfl,hal,hac,hA,rfl⟩
 repeat refine kG ?_
 cases q4:decide ((k:Int)<(l.length:Int))
 ·repeat refine kA ?_
  refine Qb (hx:=?_);have:k=l.length:=by simp at q4;omega
  subst this;rw[<-htl] at hA hac;rw[hd.out,hbl.out,if_pos hA.out];rw[List.take_length] at hac;rw[hac.out];simp only[if_true];rfl
 have hk2:k<l.length:=by simp at q4;omega
 obtain⟨x,hx⟩: ∃x,l[k]? =some x:=⟨_,A1 hk2⟩;have hr:=Qs (f:=rPtr) hx;obtain⟨ho1,ho2⟩:=hho.out x (AA hx);have c3:=bRead s hg x fun _=>ho1
 have hxk:=hgt.out k x hx;have hxl:=hle _ (AA hxk);have hstep:=Pm.hid (Qr3 hxk);have hball:AQ (Qau xs k=true->(A3 (k+1)).all (Qau xs)=true):=Pm.hid (Qsn hxk hA.out)
 have hbat:AQ (Qau xs k=(!((Qi s.1 x).1==[])&&(!decide ((k:Int)<(l.length:Int) -1)|| !(((Qi s.1 x).1.length:Int) !=128)))):=Pm.hid (by
  unfold Qau;rw[A0,hxk,htl];simp only[AB];generalize (Qi s.1 x).1=y
  have a1:decide (k+1=l.length)= !decide ((k:Int)<(l.length:Int) -1):=by
   by_cases h:k+1=l.length
   ·rw[decide_eq_true h,decide_eq_false (by omega)];rfl
   ·rw[decide_eq_false h,decide_eq_true (by omega)];rfl
  have a2:decide (y.length=128)= !((y.length:Int) !=128):=by
   by_cases h:y.length=128
   ·rw[decide_eq_true h,h];rfl
   ·have h2:((y.length:Int) !=128)=true:=by rw[bne_iff_ne];omega
    rw[decide_eq_false h,h2];rfl
  rw[a1,a2])
 have hbad:=Pm.hid (hNo.out k hk2);clear hho hgt hA hd hbl hNo hle hxk ho1 ho2;generalize Qau xs k=bk at*;generalize Qi s.1 x=rb at*;obtain⟨tx,fine⟩:=rb;simp only at*
 repeat' first|refine kS ?_|refine qS (iy hr) ?_|refine qS (Qdf rfl rfl (by first|omega|(simp;omega))) ?_|refine kU ?_|refine kV ?_ ?_<;>intro q|fail
 all_goals clear c1 c3 hr
 all_goals first
  |(refine Qb (hx:=?_)
    rw[hbad.out (by rw[hbat.out];clear hball hbad hbat hstep hac;simp_all)])
  |(refine Qg (l.length -(k+1)) (by omega) ⟨k+1,acc++tx,by omega,rfl,by rw[AG];omega,Pm.hid (by rw[hstep.out,hac.out]),Pm.hid (hball.out (by rw[hbat.out];clear hball hbad hbat hstep hac;simp_all)),by simp[keepE,go_sem]⟩)
attribute [local irreducible] AStep Fg.PlanF Fg.Flts EndR Fk.PlanF Fk.Flts Fk.AStepM Fk.Grew Fk.Gs
def eCut(g:Nat)(w:Pl.Sto)(N:Nat)(hN:N<=800000)(hw:w.W N)(t:Pl.Tree)(ht:Qx t)(many:Nat)(hm:many<=16):
 DoesE A4 222 [oS g w,.d (dTree t),.d (dI many)] (hS g w) (gS g w) (fun x H=> ∃g',((QN w t many).2.2=false->g'=g)/\x= .tup [oS g' (QN w t many).1,.d (dTree (QN w t many).2.1),.d (dB (QN w t many).2.2)]/\H=hS g' (QN w t many).1):=by
 have hd:=Pm.hid (QN.eq_def w t many);have hgood:=hw.good;have c1:=dWide w.st hgood t ht;have hl:=QdF w.st ht.hi;have ho:=Qft w.st ht.root;have c2:=pinS (X:=fun g'=> .tup [oS g' (Qw w t (Qe w.st t) many).1,.d (dTree (Qw w t (Qe w.st t) many).2.1),.d (dB (Qw w t (Qe w.st t) many).2.2)]) (C:=fun g'=>(Qw w t (Qe w.st t) many).2.2=false->g'=g) (eLay g w N (by omega) hw t ht.root (Qe w.st t) hl ho many hm);have hW:=(lay_W hw ht.root ho hm).1;have hsim:=fun h=>QiF (w:=w) (t:=t) (leaves:=Qe w.st t) (many:=many) h
 have hT:((Qe w.st t).map rPtr).take 16=(Qe w.st t).map rPtr:=A5 (by simp[hl])
 have hfl:[Blk.arr 2 5 31 ((Qe w.st t).map rPtr)].all Blk.flat=true:=by
  simp[Blk.flat];intro x _;exact⟨rfl,rfl,rfl,rfl,rfl⟩
 generalize QN w t many=res at*;generalize Qe w.st t=wd at*;generalize Qw w t wd many=y at*;obtain⟨w2,t2,ok2⟩:=y;simp only at c2 hd hW hsim
 by_cases hq:(many:Int)=t.many
 ·rw[if_pos hq] at hd
  clear c1 c2 hsim;have hb:AQ (((many:Int)==t.many)=true):=Pm.hid (by simpa using hq);refine kH fun gvs=>?_
  refine Qa 6 (h:=?_)
  repeat' first|refine kS ?_|(show AWP _ (.region 2 _ _) _ _;refine(Fg.awp_drawF (id:=2) [1] [2,3] ?_))|refine kU ?_|refine kV ?_ ?_<;>intro q|fail
  all_goals first|exact absurd (hb.out.symm.trans ‹((many:Int)==t.many)=false›) (by decide)|refine QO 5 (hx:=?_);rw[hd.out];exact⟨g,fun _=>rfl,rfl,rfl⟩
 rw[if_neg hq] at hd;have hb:AQ (((many:Int)==t.many)=false):=Pm.hid (by simpa using hq);rw[<-show(AV.d (.sl true 5 ((wd.map rPtr).take 16)))= .d (tPtrs wd) by rw[hT]] at c2;have hm0:=ht.manyLo;have hm1:=ht.manyHi;have w0:w2.rows.length=w.rows.length:=by rw[hW.rows,hw.rows]
 have w1:w2.refs.length=w.refs.length:=by rw[hW.refs,hw.refs]
 have wl2:w2.last.length=w.last.length:=by rw[hW.last,hw.last]
 cases ok2
 ·obtain⟨z1,z2,z3⟩:=hsim rfl
  have z4:w2.gone.length=w.gone.length:=by rw[z1]
  simp only[AH,if_false] at hd;clear hsim;refine kH fun gvs=>?_
  refine Qa 6 (h:=?_)
  repeat' first|refine kS ?_|refine(QdW (ds:=[dTree t]) c1 cK hw rfl hfl (k:=?_))|refine(Qa 9 (C:= .arr 2 5 31 (wd.map rPtr)) (h:=?_))|(refine QC [0,1,2,3,4] c2 cK (k:=?_);rintro _ _ ⟨g2,hg2,hC,rfl,rfl⟩;refine QdE (k:=?_))|(show AWP _ (.region 6 _ _) _ _;refine(Fg.awp_drawF (id:=6) [1] [2,3] ?_))|refine kU ?_|refine kV ?_ ?_<;>intro q|fail
  all_goals first
   |exact absurd (hb.out.symm.trans ‹((many:Int)==t.many)=true›) (by decide)
   |(obtain rfl:=hC rfl
     refine QO 5 (hx:=?_);rw[hd.out];refine⟨_,fun _=>rfl,?_,rfl⟩
     simp only[oS,z1,z2,z3];rfl)
 simp only[if_true] at hd;clear hsim;refine kH fun gvs=>?_
 refine Qa 6 (h:=?_)
 repeat' first|refine kS ?_|refine(QdW (ds:=[dTree t]) c1 cK hw rfl hfl (k:=?_))|refine(Qa 9 (C:= .arr 2 5 31 (wd.map rPtr)) (h:=?_))|(refine QC [0,1,2,3,4] c2 cK (k:=?_);rintro _ _ ⟨g2,hg2,hC,rfl,rfl⟩;refine QdE (k:=?_))|refine kU ?_|refine kV ?_ ?_<;>intro q|fail
 all_goals first|exact absurd (hb.out.symm.trans ‹((many:Int)==t.many)=true›) (by decide)|skip
 refine Qa 11 (h:=?_);refine QdU [13,9,10,11,6,7,1000000] [0,1,2,3,4,7,8,10] (env':=[(13,.d (dI many)),(9,.d (.sl true 5 ((wd.map rPtr).take 16))),(10,.ptr 7 0 0),(11,.d (.pd [dI t2.root.pat,dI t2.root.birth,dI t2.root.size,dI t2.root.sum,dI t2.root.level,dI t2.depth,dI t2.many])),(6,.ptr 5 0 0),(7,.ptr 6 0 0),(1000000,.gh (gS g w) gvs)]) (H':=hS g2 w2++[.row 0 zSt,.row 0 zTr,.row 0 (rowS g2 w2)]) (h:=?_);rw[hT];clear c1 c2 hT hC
 refine Qq (fun m st=> ∃(i g3:Nat) (wi:Pl.Sto),many<=i/\i<=16/\m=16 -i/\AQ (wi=w2.freeL ((wd.take i).drop many))/\AQ (wi.W (N+13+(i -many)))/\(g<g3∨g3=g/\wi.gone.length=w.gone.length)/\
  st=⟨51,[(13,.d (dI i)),(9,.d (tPtrs wd)),(10,.ptr 7 0 0),(11,.d (.pd [dI t2.root.pat,dI t2.root.birth,dI t2.root.size,dI t2.root.sum,dI t2.root.level,dI t2.depth,dI t2.many])),(6,.ptr 5 0 0),(7,.ptr 6 0 0),(1000000,.gh (gS g w) gvs)],hS g3 wi++[.row 0 zSt,.row 0 zTr,.row 0 (rowS g3 wi)]⟩) [13,9,10,11,6,7,1000000] 8 (16 -many)
  ⟨many,g2,w2,by omega,hm,rfl,Pm.hid (by rw[List.drop_of_length_le (by rw[AL];omega)];rfl),Pm.hid (hW.le (by omega)),hg2,rfl⟩ (round:=?_)
 rintro m st ⟨i,g3,wi,hi1,hi2,rfl,hwi,hWi,hg3,rfl⟩;have hW3:=hWi.out;simp only[hS,Ab,Ag]
 repeat refine kG ?_
 cases q4:decide ((i:Int)<(wd.length:Int))
 ·have hi:i=16:=by simp at q4;omega
  have hw3:=hwi.out;rw[hi,A5 (by omega)] at hw3;rw[<-hw3] at hd;have v0:wi.rows.length=w.rows.length:=by rw[hW3.rows,hw.rows]
  have v1:wi.refs.length=w.refs.length:=by rw[hW3.refs,hw.refs]
  have v2:wi.last.length=w.last.length:=by rw[hW3.last,hw.last]
  clear hwi hWi hw3
  repeat' first|refine kS ?_|(show AWP _ (.region 11 _ _) _ _;refine(Fg.awp_drawF (id:=11) [1] [2,3] ?_))|refine kU ?_|fail
  all_goals first|(rcases hg3 with hg3|⟨rfl,hg3⟩<;>(refine QO 5 (hx:=?_);rw[hd.out];refine⟨_,?_,rfl,rfl⟩;intro h;cases h))
 have hi:i<wd.length:=by simp at q4;omega
 obtain⟨x,hx⟩: ∃x,wd[i]? =some x:=⟨_,A1 hi⟩;have hr:=Qs (f:=rPtr) hx;have hxo:=ho x (AA hx);have cf:=eFree2 g3 wi (N+13+(i -many)) (by omega) hW3 x hxo;have hWf:=(hW3.free hxo).le (M:=N+13+(i+1 -many)) (by omega)
 have hst:AQ (w2.freeL ((wd.take (i+1)).drop many)=wi.free x):=Pm.hid (by
  rw[AY,hx,List.drop_append_of_le_length (by rw[AL];omega),hwi.out];unfold Pl.Sto.freeL
  rw[AJ];rfl)
 clear hx hwi hWi;generalize wi.free x=wf at*
 repeat' first|refine kS ?_|refine qD (iy hr) ?_|(show AWP _ (.region 10 _ _) _ _;refine(Fg.awp_drawF (id:=10) [] [5,6] ?_))|(refine QeP [0,1,2,3,4] cf cK (k:=?_);rintro _ _ ⟨g4,hg4,rfl,rfl⟩;refine QkS (k:=?_))|refine kU ?_|fail
 all_goals first|refine Qg (16 -(i+1)) (by omega) ⟨i+1,g4,wf,by omega,by omega,rfl,Pm.hid hst.out.symm,Pm.hid hWf,(by rcases hg3 with h1|⟨h1,h2⟩<;>rcases hg4 with h3|⟨h3,h4⟩<;>first|(left;omega)|(right;exact⟨by omega,by omega⟩)),?_⟩;simp[keepE,go_sem];done
def Qct:Nat->List UInt8->List (List UInt8)
 |0,_=>[]
 |n+1,s=>if s=[] then [] else s.take 128::Qct n (s.drop 128)
def QaH(s:List UInt8):List (List UInt8):=Qct s.length s
theorem QqI: ∀(n:Nat) (s:List UInt8),s.length<=n->(Qct n s).length=(s.length+127)/128
 |0,s,h=>by
  have:s.length=0:=by omega
  rw[this];rfl
 |n+1,s,h=>by
  unfold Qct;split
  ·grind
  ·rename_i h0
   have h1:0<s.length:=AC.2 h0;rw[Ac,QqI n _ (by grind),Ad];omega
def Qap(w:Pl.Sto)(t:Pl.Tree):List (List UInt8)->Nat->Pl.Sto×Pl.Tree×Bool
 |[],_=>(w,t,true)
 |x::l,k=>if(Qn w t k x).2.2 then Qap (Qn w t k x).1 (Qn w t k x).2.1 l (k+1) else((Qn w t k x).1,t,false)
def Qaz(w:Pl.Sto)(t:Pl.Tree)(text:List UInt8):Pl.Sto×Pl.Tree×Bool:=
 if 16<(QaH text).length then(w,t,false) else
 if(Qap w t (QaH text) 0).2.2 then QN (Qap w t (QaH text) 0).1 (Qap w t (QaH text) 0).2.1 (QaH text).length else Qap w t (QaH text) 0
structure QcB(w:Pl.Sto)(t:Pl.Tree)(w':Pl.Sto)(t':Pl.Tree)(X:List Pl.Ptr):Prop where
 tr:Qbs w' t'
 live:QQ w' (Q8 w'.st t'++X)
 keep:QaD w w' X
 txg:w'.txg=w.txg
theorem Qki{X:List Pl.Ptr}: ∀(l:List (List UInt8)) (k:Nat) {w:Pl.Sto} {t:Pl.Tree},Qbs w t->QQ w (Q8 w.st t++X)->k+l.length<=16->(Qap w t l k).2.2=true->
 QcB w t (Qap w t l k).1 (Qap w t l k).2.1 X/\(Qap w t l k).2.1.many=(if l=[] then t.many.toNat else max t.many.toNat (k+l.length):Nat)
 |[],k,w,t,hT,h,_,_=>⟨⟨hT,h,fun _ _=>rfl,rfl⟩,by have:=hT.good.manyLo;rw[if_pos rfl];show t.many=_;omega⟩
 |x::l,k,w,t,hT,h,hk,hok=>by
  simp only[Qap] at hok⊢;rw[Ac] at hk;split at hok;rotate_left
  ·cases hok
  rename_i h1;rw[if_pos h1];obtain⟨a1,a2,a3,a4,a5,_⟩:=Qmx hT (by omega) h h1;generalize Qn w t k x=y at*;obtain⟨⟨b1,b2,b3,b4⟩,b5⟩:=Qki l (k+1) a1 a3 (by omega) hok;refine⟨⟨b1,b2,fun q hq=>(b3 q hq).trans (a4 q hq),b4.trans a5⟩,?_⟩
  grind
theorem bput_in{X:List Pl.Ptr}{text:List UInt8}(hT:Qbs w t)(h:QQ w (Q8 w.st t++X))(hok:(Qaz w t text).2.2=true):
 QcB w t (Qaz w t text).1 (Qaz w t text).2.1 X/\(Qaz w t text).2.1.many=(text.length+127)/128/\text.length<=2048:=by
 have hc:(QaH text).length=(text.length+127)/128:=QqI _ _ (Af _);unfold Qaz at hok⊢;split at hok
 ·cases hok
 rename_i h16;rw[if_neg h16];split at hok
 ·rename_i h1
  rw[if_pos h1];obtain⟨⟨a1,a2,a3,a4⟩,_⟩:=Qki (QaH text) 0 hT h (by omega) h1;generalize Qap w t (QaH text) 0=y at*;obtain⟨b1,b2,b3,b4,b5,_⟩:=QrY a1 a2 (by omega) hok;refine⟨⟨b1,b3,fun q hq=>(b4 q hq).trans (a3 q hq),b5.trans a4⟩,?_,by omega⟩;omega
 grind
theorem Qup(h:Qbs w t):Pl.ptrHole t.root=true∨t.root.level=t.depth:=by
 have hl:=h.lv
 have hbl: ∀{p:Pl.Ptr} {n:Int},(Qj w.st p n).2=true->Pl.ptrHole p=true∨p.level=n:=fun{p n} hb=>by
  grind [Qj]
 have hd:t.depth=0∨t.depth=1∨t.depth=2:=by rw[h.dep];grind [QfW]
 rcases hd with hd|hd|hd
 ·have:=h.zero t.root (by grind [leaves0])
  grind
 ·grind [leaves1]
 grind [leaves2]
def Qp(w:Pl.Sto)(t:Pl.Tree)(k:Nat):Qk×Bool:=Qo (Qi w.rows ((Qe w.st t).getD k Pl.hole)).1
def Qbl(s:Pm.Store)(n:Qk×Bool):List Pl.Ptr:=if n.2 then Q8 s n.1.tree else []
def QbA(w:Pl.Sto)(t:Pl.Tree)(id:Nat):List Pl.Ptr:=(A3 16).flatMap fun k=>if k=id then [] else Qbl w.st (Qp w t k)
def Qcd(w:Pl.Sto)(t:Pl.Tree):List Pl.Ptr:=(A3 16).flatMap fun k=>Qbl w.st (Qp w t k)
theorem Qoi{α:Type}(f:Nat->List α)(id:Nat): ∀l:List Nat,l.Nodup->id∈l->(l.flatMap f).Perm (f id++l.flatMap fun k=>if k=id then [] else f k)
 |[],_,h=>by cases h
 |k::l,hn,h=>by
  rw[List.nodup_cons] at hn;rw[A6,A6]
  by_cases hk:k=id
  ·subst hk
   rw[if_pos rfl,Ag]
   have:(l.flatMap fun j=>if j=k then [] else f j)=l.flatMap f:=by
    grind [AF]
   rw[this]
  ·rw[if_neg hk]
   have ih:=Qoi f id l hn.2 (by grind);refine(A8 _ ih).trans ?_
   grind [AN,AP]
def QqV(w:Pl.Sto)(t:Pl.Tree){id:Nat}(h:id<16):(Qcd w t).Perm (Qbl w.st (Qp w t id)++QbA w t id):=Qoi _ id _ List.nodup_range (AD.2 h)
structure QcU(w:Pl.Sto)(t:Pl.Tree)(id:Nat)(E:List Pl.Ptr):Prop where
 tr:Qbs w t
 nod: ∀k,k<16->k≠id->(Qp w t k).2=true->Qbs w (Qp w t k).1.tree
 live:QQ w (Q8 w.st t++(QbA w t id++E))
structure QbJ(w:Pl.Sto)(t:Pl.Tree):Prop where
 tr:Qbs w t
 nod: ∀k,k<16->(Qp w t k).2=true->Qbs w (Qp w t k).1.tree
 live:QQ w (Q8 w.st t++Qcd w t)
def QhB(h:QbJ w t){id:Nat}(hid:id<16):QcU w t id (Qbl w.st (Qp w t id)):=
 ⟨h.tr,fun k hk _=>h.nod k hk,h.live.perm (A8 _ ((QqV w t hid).trans AP))⟩
theorem QsE(hT:Qbs w t)(k:Nat):Pl.ptrHole ((Qe w.st t).getD k Pl.hole)=true∨(Qe w.st t).getD k Pl.hole∈Q8 w.st t:=by
 cases hh:Pl.ptrHole ((Qe w.st t).getD k Pl.hole)
 ·refine .inr ?_
  have hk:k<(Qe w.st t).length:=by
   rw[A0] at hh;cases hx:(Qe w.st t)[k]? with
   |none=>rw[hx] at hh;exact absurd hh (by decide)
   |some q=>grind
  unfold Q8;rw[<-QmA];exact A9 _ (QeE.2 ⟨Pl.QdQ hk,hh⟩)
 grind
theorem Qm3(h:Pl.ptrHole p=true∨w'.rows.getD p.pat.toNat []=w.rows.getD p.pat.toNat []):Qi w'.rows p=Qi w.rows p:=by grind [Qi]
theorem Qfc{s:Pm.Store}{q:Pl.Ptr}(h:q∈QA s t):q∈Q8 s t:=A7 _ h
theorem Qlc{id:Nat}{E E':List Pl.Ptr}(h:QcU w t id E)(hk:QaD w w' (Q8 w.st t++QbA w t id))(ht:w.txg<=w'.txg)(hl:QQ w' (Q8 w.st t++(QbA w t id++E'))):
 QcU w' t id E'/\(∀k,Qp w' t k=Qp w t k)/\Q8 w'.st t=Q8 w.st t/\QbA w' t id=QbA w t id:=by
 obtain⟨k1,k2,k3,k4,k5⟩:=QeX (w':=w') h.tr (fun q hq=>hk q (A7 _ (Qfc hq))) ht
 have hnd: ∀k,Qp w' t k=Qp w t k:=fun k=>by
  unfold Qp;rw[k5,Qm3 ((QsE h.tr k).imp (fun e=>e) fun e=>hk _ (A7 _ e))]
 have hnp: ∀k,k<16->k≠id->Qbl w'.st (Qp w t k)=Qbl w.st (Qp w t k)/\((Qp w t k).2=true->Qbs w' (Qp w t k).1.tree):=fun k hk16 hki=>by
  cases hn:(Qp w t k).2
  ·grind [Qbl]
  ·have hT2:=h.nod k hk16 hki hn
   have hin: ∀q∈Q8 w.st (Qp w t k).1.tree,q∈QbA w t id:=fun q hq=>by
    grind [QbA,Qbl]
   obtain⟨j1,_,_,j4,_⟩:=QeX (w':=w') hT2 (fun q hq=>hk q (A9 _ (hin q (Qfc hq)))) ht
   grind [Qbl]
 have hx:QbA w' t id=QbA w t id:=by
  grind [QbA,AF]
 exact⟨⟨k1,fun k hk16 hki hn=>by grind,by grind⟩,hnd,k4,hx⟩
def QmT(h:x.length<=100):(Pl.item x).length<=104:=by
 have:=Pl.Qdc 2 x.length (by omega);rw[Pl.Qg9];omega
def QqE(h:Pl.ptrOk p=true):(Pl.ptrPut p).length<=100:=by
 obtain⟨h1,h2,h3,h4,h5⟩:=Pl.QdA h;unfold Pl.ptrPut;rw[if_pos h];split
 ·decide
 ·have a1:=Pl.Qdc 9 p.pat.toNat (by omega)
  have a2:=Pl.Qdc 9 p.birth.toNat (by omega);have a3:=Pl.Qdc 9 p.size.toNat (by omega);have a4:=Pl.Qdc 9 p.sum.toNat (by omega);have a5:=Pl.Qdc 9 p.level.toNat (by omega);simp[Pl.ptrText,Pl.dots];omega
theorem Qm9{n:Qk}(h:QF n=true):Qbn (Q6 n) n:=by
 have hb:=Qeh h;have b1:=hb.kind;have b2:=hb.links;have b3:=hb.size;have b4:=hb.depth;have b5:=hb.many;have d: ∀k:Nat,k<=3000->(Pl.item (Pl.dec k)).length<=104:=fun k hk=>QmT (by have:=Pl.Qdc 9 k (by omega);omega)
 have a0:=d n.kind.toNat (by omega);have a1:=d n.links.toNat (by omega);have a2:=d n.size.toNat (by omega);have a3:=QmT (QqE hb.ptr);have a4:=d n.tree.depth.toNat (by omega);have a5:=d n.tree.many.toNat (by omega);have a6:(Pl.item [101,110,100]).length<=104:=QmT (by decide)
 have he:(Pl.enc (Qaf n)).length<=2048:=by
  simp only[Qaf,Pl.enc,A6,List.flatMap_nil,AG,List.length_nil];omega
 have hf:Pl.Qdi (Qaf n)=some (Pl.enc (Qaf n)):=by unfold Pl.Qdi;rw[if_pos ⟨by simp[Qaf],he⟩]
 refine⟨h,?_⟩;unfold Q6 Pl.fp;rw[if_pos h,hf];exact Pl.Qgv.1 hf
theorem Qi4:Qo []=(Qd,false):=by
 refine Ql7 fun n h=>?_
 have h2:=h.2.2.2;simp only[Qaf,Pl.QeT] at h2;exact Pl.Qf6 _ (List.append_eq_nil_iff.1 h2).1
theorem ng_put(n:Qk):Qo (Q6 n)=if QF n then(n,true) else(Qd,false):=by grind [Q6,Qi4,ng_is,Qm9]
theorem QoL{id:Nat}{n:Qk}(hid:id<16)(h:QcU w t id (Q8 w.st n.tree))(hn:QF n=true->Qbs w n.tree)(hok:(Qn w t id (Q6 n)).2.2=true):
 QbJ (Qn w t id (Q6 n)).1 (Qn w t id (Q6 n)).2.1/\(Qn w t id (Q6 n)).2.1.many=(max t.many.toNat (id+1):Nat)/\
 (∀k,k≠id->Qp (Qn w t id (Q6 n)).1 (Qn w t id (Q6 n)).2.1 k=Qp w t k)/\Qp (Qn w t id (Q6 n)).1 (Qn w t id (Q6 n)).2.1 id=if QF n then(n,true) else(Qd,false):=by
 obtain⟨a1,a2,a3,a4,a5,a6,a7⟩:=Qmx h.tr hid h.live hok;generalize Qn w t id (Q6 n)=y at*
 have hnd: ∀k,k≠id->Qp y.1 y.2.1 k=Qp w t k:=fun k hk=>by
  grind [Qp]
 have hndi:Qp y.1 y.2.1 id=if QF n then(n,true) else(Qd,false):=by grind [Qp,ng_put]
 have htr: ∀k,k<16->k≠id->(Qp w t k).2=true->Qbs y.1 (Qp w t k).1.tree/\Q8 y.1.st (Qp w t k).1.tree=Q8 w.st (Qp w t k).1.tree:=fun k hk16 hk hn2=>by
  have hin: ∀q∈Q8 w.st (Qp w t k).1.tree,q∈QbA w t id:=fun q hq=>by
   grind [QbA,Qbl]
  obtain⟨j1,_,_,j4,_⟩:=QeX (w':=y.1) (h.nod k hk16 hk hn2) (fun q hq=>a4 q (A7 _ (hin q (Qfc hq)))) (by omega)
  grind
 have hx:QbA y.1 y.2.1 id=QbA w t id:=by
  grind [QbA,AF,Qbl]
 have hni:QF n=true->Qbs y.1 n.tree/\Q8 y.1.st n.tree=Q8 w.st n.tree:=fun hno=>by
  obtain⟨j1,_,_,j4,_⟩:=QeX (w':=y.1) (hn hno) (fun q hq=>a4 q (A9 _ (Qfc hq))) (by omega)
  grind
 refine⟨⟨a1,fun k hk16 hn2=>?_,?_⟩,a2,hnd,hndi⟩
 ·grind
 ·have hp:=QqV y.1 y.2.1 hid
  rw[hx,hndi] at hp;cases hno:QF n
  ·rw[hno] at hp
   refine QQ.sub (R:=Q8 w.st n.tree) a3 ?_;rw[<-List.append_assoc];exact AN _ (A8 _ hp.symm)
  ·rw[hno] at hp
   refine a3.perm (A8 _ ?_)
   grind [Qbl]
abbrev Q4:=Pl.Sto×Pl.Tree×Bool
def Qaq(f:Q4)(id:Nat)(n:Qk):Q4:=
 if f.2.2 then f else((Qn f.1 f.2.1 id (Q6 n)).1,(Qn f.1 f.2.1 id (Q6 n)).2.1,!(Qn f.1 f.2.1 id (Q6 n)).2.2)
def Ql(f:Q4)(id:Nat):Qk:=(Q5 f.1.st f.2.1 id).1
def QR(f:Q4)(id:Nat)(l:List Qm):Q4:=
 if f.2.2 then f else Qaq ((Qaz f.1 (Ql f id).tree (QG l)).1,f.2.1,!(Qaz f.1 (Ql f id).tree (QG l)).2.2) id
  {Ql f id with tree:=(Qaz f.1 (Ql f id).tree (QG l)).2.1,size:=(QG l).length}
def QeG(hT:Qbs w t)(hk:k<16):Q5 w.st t k=Qp w t k:=by
 unfold Q5 Qp;split
 ·rename_i h;rw[texts_get w.st hT.good h];rfl
 ·rename_i h
  rw[hT.top k (by omega),Qfx,Qi4]
def Qdb(f:Q4):Prop:=f.2.2=false->QbJ f.1 f.2.1
variable{f:Q4}
theorem Qnc{id:Nat}{n:Qk}(hid:id<16)(h:f.2.2=false->QcU f.1 f.2.1 id (Q8 f.1.st n.tree))(hn:f.2.2=false->QF n=true->Qbs f.1 n.tree)(hok:(Qaq f id n).2.2=false):
 f.2.2=false/\QbJ (Qaq f id n).1 (Qaq f id n).2.1/\(Qaq f id n).2.1.many=(max f.2.1.many.toNat (id+1):Nat)/\
 (∀k,k≠id->Qp (Qaq f id n).1 (Qaq f id n).2.1 k=Qp f.1 f.2.1 k)/\Qp (Qaq f id n).1 (Qaq f id n).2.1 id=if QF n then(n,true) else(Qd,false):=by grind [Qaq,QoL]
theorem Qtc{size:Nat}(h:size<=2048):Qag 2 size=((size+127)/128:Nat):=by grind [Qag,Qbj,Pl.inR]
theorem Qnq(m:Nat):((Q2 m:Nat):Int)=Qbo m:=by grind [Q2,Qbo]
theorem Qti{n:Qk}{size:Nat}(h:QF n=true)(hk:n.kind=2)(hT:Qbs w t)(hm:t.many=(size+127)/128)(hs:size<=2048):QF {n with tree:=t,size:=size}=true:=by
 have hl:=(Qeh h).one hk;unfold QF;dsimp only;rw[hk,Qtc hs,hT.dep,hm];have e1:(((size:Int)+127)/128).toNat=(size+127)/128:=by omega
 have e2:((size:Int)+127)/128=(((size+127)/128:Nat):Int):=by omega
 rw[e1,e2,<-Qnq,hl,hT.good.root];have hlv:=Qup hT;rw[hT.dep,hm,e1] at hlv
 grind [Pl.inR]
theorem Qrw{id:Nat}{l:List Qm}(hid:id<16)(h:Qdb f)(hn:f.2.2=false->(Qp f.1 f.2.1 id).2=true/\(Qp f.1 f.2.1 id).1.kind=2)(hok:(QR f id l).2.2=false):
 f.2.2=false/\QbJ (QR f id l).1 (QR f id l).2.1/\(QR f id l).2.1.many=(max f.2.1.many.toNat (id+1):Nat)/\
 (∀k,k≠id->Qp (QR f id l).1 (QR f id l).2.1 k=Qp f.1 f.2.1 k)/\(Qp (QR f id l).1 (QR f id l).2.1 id).2=true/\(Qp (QR f id l).1 (QR f id l).2.1 id).1.kind=2:=by
 unfold QR at hok⊢;cases hf:f.2.2;rotate_left
 ·grind
 rw[hf] at hok;simp only[AH,if_false] at hok⊢;have hF:=h hf;obtain⟨hn1,hn2⟩:=hn hf;have e1:Ql f id=(Qp f.1 f.2.1 id).1:=by unfold Ql;rw[QeG hF.tr hid]
 rw[e1] at hok⊢;have hop:=QhB hF hid;have hT:=hF.nod id hid hn1
 have hnok:QF (Qp f.1 f.2.1 id).1=true:=by
  unfold Qp at hn1⊢;rcases Qgh (Qi f.1.rows ((Qe f.1.st f.2.1).getD id Pl.hole)).1 with e|e
  ·exact e.1.1
  grind
 have hE:Qbl f.1.st (Qp f.1 f.2.1 id)=Q8 f.1.st (Qp f.1 f.2.1 id).1.tree:=by grind [Qbl]
 rw[hE] at hop;have hb: ∀(hb0:(Qaz f.1 (Qp f.1 f.2.1 id).1.tree (QG l)).2.2=true),_:=fun hb0=>bput_in hT (X:=Q8 f.1.st f.2.1++QbA f.1 f.2.1 id) (hop.live.perm (by grind)) hb0
 generalize Qaz f.1 (Qp f.1 f.2.1 id).1.tree (QG l)=y at*
 have key:y.2.2=true->QcU y.1 f.2.1 id (Q8 y.1.st y.2.1)/\(∀k,Qp y.1 f.2.1 k=Qp f.1 f.2.1 k)/\Qbs y.1 y.2.1/\QF {(Qp f.1 f.2.1 id).1 with tree:=y.2.1,size:=((QG l).length:Nat)}=true:=fun hy=>by
  obtain⟨⟨b1,b2,b3,b4⟩,b5,b6⟩:=hb hy;obtain⟨c1,c2,_⟩:=Qlc (w':=y.1) (E':=Q8 y.1.st y.2.1) hop b3 (by omega) (b2.perm (by grind))
  grind [Qti]
 obtain⟨d1,d2,d3,d4,d5⟩:=Qnc (f:=(y.1,f.2.1,!y.2.2)) hid (fun e=>(key (by grind)).1) (fun e _=>(key (by grind)).2.2.1) hok
 grind
theorem Qur:QF Qd=false:=by decide
theorem QfI(w:Pl.Sto):Qbs w ⟨Pl.hole,0,0⟩/\Q8 w.st ⟨Pl.hole,0,0⟩=[]:=by
 have e:=leaves0 w.st (t:=⟨Pl.hole,0,0⟩) rfl;refine⟨⟨⟨by decide,by decide,QdK,by decide,by decide⟩,rfl,by rw[e],by grind [Qds],fun i _=>?_⟩,?_⟩
 ·grind [Qe]
 grind [Q8,Qgm,Qu,Qds]
def Qa0(w:Pl.Sto)(t:Pl.Tree)(id:Nat)(l:List Pl.Ptr)(many:Nat):Q4:=
 if(Qn (w.freeL l) t id []).2.2 then QN (Qn (w.freeL l) t id []).1 (Qn (w.freeL l) t id []).2.1 many else Qn (w.freeL l) t id []
theorem QsL{id many:Nat}{l:List Pl.Ptr}(h:QbJ w t)(hid:id<16)(hl:l.Perm (Qbl w.st (Qp w t id)))(hm:many<=16)(hok:(Qa0 w t id l many).2.2=true):
 QbJ (Qa0 w t id l many).1 (Qa0 w t id l many).2.1/\(Qa0 w t id l many).2.1.many=many:=by
 have hop:=QhB h hid
 have hlive:QQ w (l++(Q8 w.st t++QbA w t id)):=hop.live.perm (by
  grind)
 obtain⟨g1,g2⟩:=Qin l hlive;have htx:=QgX l w;obtain⟨c1,c2,c3,c4⟩:=Qlc (w':=w.freeL l) (E':=[]) hop g2 (by omega) (by grind);unfold Qa0 at hok⊢;generalize w.freeL l=u at*;split at hok;rotate_left
 ·grind
 rename_i h1;rw[if_pos h1];have hz:Q6 Qd=[]:=by grind [Q6,Qur]
 have hcl:=QoL (n:=Qd) hid (w:=u) (t:=t) (by rw[show Qd.tree=⟨Pl.hole,0,0⟩ from rfl,(QfI u).2];exact c1) (fun e=>by grind [Qur]) (by grind);rw[hz] at hcl;obtain⟨d1,d2,d3,d4⟩:=hcl;generalize Qn u t id []=y at*;obtain⟨e1,e2,e3,e4,e5,e6,e7⟩:=QrY d1.tr d1.live hm hok;generalize QN y.1 y.2.1 many=z at*;refine⟨⟨e1,?_,?_⟩,e2⟩
 ·intro k hk hn
  by_cases hkm:k<many
  ·have hnd:Qp z.1 z.2.1 k=Qp y.1 y.2.1 k:=by
    unfold Qp;rw[e6 k hkm,Qm3];cases hh:Pl.ptrHole ((Qe y.1.st y.2.1).getD k Pl.hole)
    ·refine .inr (e7 _ (QeE.2 ⟨?_,hh⟩))
     have hwl:=QdF y.1.st d1.tr.good.hi;rw[A0,A1 (by omega)];exact AI.2 ⟨k,by omega,rfl⟩
    grind
   rw[hnd] at hn⊢;have hT:=d1.nod k hk hn;refine(QeX (w':=z.1) hT (fun q hq=>e4 q ?_) (by omega)).1
   grind [Qcd,Qbl,Qfc]
  ·unfold Qp at hn
   rw[e1.top k (by omega),Qfx,Qi4] at hn;cases hn
 ·have hsub:(Qcd z.1 z.2.1).Sublist (Qcd y.1 y.2.1):=by
   unfold Qcd
   have hg: ∀l:List Nat,(∀k∈l,k<16)->(l.flatMap fun k=>Qbl z.1.st (Qp z.1 z.2.1 k)).Sublist (l.flatMap fun k=>Qbl y.1.st (Qp y.1 y.2.1 k)):=by
    intro l;induction l with
    |nil=>grind
    |cons k l ih=>
     intro hl;rw[A6,A6];refine An ?_ (ih fun j hj=>hl j (List.mem_cons_of_mem _ hj));have hk:=hl k List.mem_cons_self
     by_cases hkm:k<many
     ·have hnd:Qp z.1 z.2.1 k=Qp y.1 y.2.1 k:=by
       unfold Qp;rw[e6 k hkm,Qm3];cases hh:Pl.ptrHole ((Qe y.1.st y.2.1).getD k Pl.hole)
       ·refine .inr (e7 _ (QeE.2 ⟨?_,hh⟩))
        have hwl:=QdF y.1.st d1.tr.good.hi;rw[A0,A1 (by omega)];exact AI.2 ⟨k,by omega,rfl⟩
       grind
      rw[hnd];unfold Qbl;cases hn:(Qp y.1 y.2.1 k).2
      ·grind
      ·simp only[if_true]
       rw[(QeX (w':=z.1) (d1.nod k hk hn) (fun q hq=>e4 q (by
        grind [Qcd,Qbl,Qfc])) (by omega)).2.2.2.1]
       grind
     ·have:Qbl z.1.st (Qp z.1 z.2.1 k)=[]:=by
       unfold Qp;rw[e1.top k (by omega),Qfx,Qi4];rfl
      grind
   grind
  obtain⟨R,hR⟩:=QnD hsub;refine e3.sub (R:=R) ?_
  grind
theorem QnP: ∀(n m:Nat) (s:List UInt8),s.length<=n->s.length<=m->Qct n s=Qct m s
 |0,0,s,_,_=>rfl
 |0,m+1,s,h,_=>by
  have:s=[]:=AM.1 (by omega);subst this;rfl
 |n+1,0,s,_,h=>by
  have:s=[]:=AM.1 (by omega);subst this;rfl
 |n+1,m+1,s,h1,h2=>by
  unfold Qct;split
  ·rfl
  ·rename_i h0
   have:=AC.2 h0;rw[QnP n m (s.drop 128) (by grind) (by grind)]
theorem Qov{s:List UInt8}(h:s≠[]):QaH s=s.take 128::QaH (s.drop 128):=by
 have:=AC.2 h;unfold QaH;obtain⟨n,hn⟩: ∃n,s.length=n+1:=⟨s.length -1,by omega⟩
 grind [Qct,QnP]
theorem Qou:QaH []=[]:=rfl
theorem Qp8{s:List UInt8}(h:s≠[])(h2:s.length<=128):QaH s=[s]:=by grind [Qov,A5,Qou]
def Qs2(s:List UInt8)(hs:s.length<=1000000000000):Pure A4 250 [dS s] (tStrs (QaH s)):=by
 refine kE ?_
 repeat refine kA ?_
 refine Qq (fun m st=> ∃(g:Nat) (out:List (List UInt8)) (r:List UInt8),m=r.length/\out.length+r.length<=s.length/\AQ (out++QaH r=QaH s)/\st=⟨22,[(3,.osl 0 g 0 out.length),(0,.d (dS r))],[.arr g 1 9 (out.map fun s=>[dS s])]⟩) [3,0] 1 s.length ⟨0,[],s,rfl,by simp,Pm.hid rfl,rfl⟩ (round:=?_);rintro m st ⟨g,out,r,rfl,hlen,hO,rfl⟩
 repeat refine kG ?_
 cases q3:decide ((r.length:Int)>128)
 ·have hr:r.length<=128:=by simp at q3;omega
  have h1:AQ (r=[]->out=QaH s):=Pm.hid fun h=>by have:=hO.out;rw[h,Qou,List.append_nil] at this;exact this
  have h2:AQ (r≠[]->out++[r]=QaH s):=Pm.hid fun h=>by have:=hO.out;rw[Qp8 h hr] at this;exact this
  clear hO;generalize QaH s=res at*
  repeat' first|refine kS ?_|refine QV Ty.h rfl Ty.h (hb:=?_) (kk:=?_)|refine kU ?_|refine kV ?_ ?_<;>intro q|fail
  all_goals first
   |(simp;omega)
   |((refine Qa 0 (h:=?_);refine Qb (hx:=?_))
     first
      |(rw[<-h2.out (by simpa using q)];simp[A5];done)
      |(rw[<-h1.out (by simpa using q)];simp[A5];done))
 have hr:128<r.length:=by simp at q3;omega
 have h2:AQ (QaH r=r.take 128::QaH (r.drop 128)):=Pm.hid (Qov (by intro e;rw[e] at hr;simp at hr))
 repeat' first|refine kS ?_|refine QV Ty.h rfl Ty.h (hb:=?_) (kk:=?_)|refine qS (Qfj rfl rfl rfl (by omega) (by omega)) ?_|refine qS (Qfi rfl rfl rfl (by omega) (by omega)) ?_|refine kU ?_|fail
 all_goals first
  |(simp;omega)
  |(refine Qg (r.drop 128).length (by rw[Ad];omega) ⟨g+1,out++[r.take 128],r.drop 128,rfl,by simp;omega,Pm.hid (by rw[<-hO.out,h2.out];simp),?_⟩
    simp[keepE,go_sem];done)
def Qam(l:List (List UInt8))(but:Nat):Nat:=(A3 l.length).foldl (fun n k=>if k≠but/\l.getD k []≠[] then k+1 else n) 0
theorem QgV(l:List (List UInt8))(but:Nat):Qam l but<=l.length:=by
 have: ∀n,n<=l.length->(A3 n).foldl (fun n k=>if k≠but/\l.getD k []≠[] then k+1 else n) 0<=n:=by
  intro n;induction n with
  |zero=>grind
  |succ n ih=>
   grind [AO]
 exact this _ (Af _)
theorem Qpo{l:List (List UInt8)}{but:Nat}(hk:k<l.length)(h1:k≠but)(h2:l.getD k []≠[]):1<=Qam l but:=by
 have: ∀n,k<n->1<=(A3 n).foldl (fun n k=>if k≠but/\l.getD k []≠[] then k+1 else n) 0:=by
  intro n;induction n with
  |zero=>omega
  |succ n ih=>
   intro h;rw[AO,AJ];simp only[Ah,Ai]
   grind
 exact this _ hk
theorem Quk(s:Pm.Store)(hg:QU s)(t:Pl.Tree)(ht:Qx t)(but:Nat):Pure A4 220 [dSt s,dTree t,dI but] (dI (Qam (Qc s t) but)):=by
 have c1:=Qe8 s hg t ht;have hl:=texts_len s ht;have hm0:=ht.manyLo;have hm1:=ht.manyHi;generalize Qc s t=l at*;refine kE ?_;refine Qa 0 (h:=?_);refine Qa 1 (h:=?_)
 repeat refine kA ?_
 refine Qq (fun m st=> ∃(k n:Nat),k<=l.length/\m=l.length -k/\n<=k/\AQ (n=(A3 k).foldl (fun n k=>if k≠but/\l.getD k []≠[] then k+1 else n) 0)/\st=⟨32,[(9,.d (dI k)),(8,.d (tStrs l)),(7,.d (dI n)),(4,.d (.pd (rTree t))),(2,.d (dI but))],[.row 1 [],.row 1 []]⟩) [9,8,7,4,2] 2 l.length ⟨0,0,by omega,rfl,by omega,Pm.hid rfl,rfl⟩ (round:=?_);rintro m st ⟨k,n,hk,rfl,hnk,hn,rfl⟩
 repeat refine kG ?_
 cases q4:decide ((k:Int)<t.many)
 ·repeat refine kA ?_
  refine Qb (hx:=?_);have:k=l.length:=by simp at q4;omega
  rw[hn.out,this];rfl
 have hk2:k<l.length:=by simp at q4;omega
 obtain⟨x,hx⟩: ∃x,l[k]? =some x:=⟨_,A1 hk2⟩;have hr:=Qs (f:=fun s=>[dS s]) hx
 have T:AQ ((A3 (k+1)).foldl (fun n k=>if k≠but/\l.getD k []≠[] then k+1 else n) 0=if k≠but/\x≠[] then k+1 else n):=Pm.hid (by
  rw[AO,AJ,<-hn.out];simp only[Ah,Ai]
  rw[A0,hx];rfl)
 clear hx hn
 repeat' first|refine kS ?_|refine qS (iy hr) ?_|refine kU ?_|refine kV ?_ ?_<;>intro q|fail
 all_goals first|refine Qg (l.length -(k+1)) (by omega) ⟨k+1,k+1,by omega,rfl,by omega,Pm.hid (by rw[T.out,if_pos (by simp_all;omega)]),?_⟩;simp[keepE,go_sem];done|refine Qg (l.length -(k+1)) (by omega) ⟨k+1,n,by omega,rfl,by omega,Pm.hid (by rw[T.out,if_neg (by simp_all;omega)]),?_⟩;simp[keepE,go_sem];done|refine Qg (l.length -(k+1)) (by omega) ⟨k+1,k+1,by omega,rfl,by omega,Pm.hid (by rw[T.out,if_pos (by simp_all)]),?_⟩;simp[keepE,go_sem];done|refine Qg (l.length -(k+1)) (by omega) ⟨k+1,n,by omega,rfl,by omega,Pm.hid (by rw[T.out,if_neg (by simp_all)]),?_⟩;simp[keepE,go_sem];done
def QbT(l:List (List UInt8)):Option Nat:=(A3 16).find? fun k=>decide (l.length<=k)||l.getD k []==[]
theorem QiO{l:List (List UInt8)}(h:QbT l=some k):k<16/\l.getD k []=[]:=by
 have h1:=List.mem_of_find?_eq_some h;have h2:=List.find?_some h
 grind
theorem Qng{p:Nat->Bool}(h: ∀i,i<16->p i=false):(A3 16).find? p=none:=by grind
theorem Qnf{p:Nat->Bool}(h: ∀i,i<k->p i=false)(hk:k<16)(hp:p k=true):(A3 16).find? p=some k:=by simp_all
def Qul(s:Pm.Store)(hg:QU s)(t:Pl.Tree)(ht:Qx t):Pure A4 159 [dSt s,dTree t] (dI (QcO (QbT (Qc s t)))):=by
 have c1:=Qe8 s hg t ht;have hl:=texts_len s ht;have hm0:=ht.manyLo;have hm1:=ht.manyHi;generalize Qc s t=l at*;refine kE ?_;refine Qa 0 (h:=?_);refine Qa 1 (h:=?_)
 repeat refine kA ?_
 refine Qq (fun m st=> ∃k:Nat,k<=16/\m=16 -k/\AQ (∀i,i<k->(decide (l.length<=i)||l.getD i []==[])=false)/\st=⟨26,[(6,.d (dI k)),(5,.d (tStrs l))],[.row 1 [],.row 1 []]⟩) [6,5] 2 16 ⟨0,by omega,rfl,Pm.hid (fun i hi=>by omega),rfl⟩ (round:=?_);rintro m st ⟨k,hk,rfl,hA,rfl⟩
 repeat refine kG ?_
 cases q4:decide ((k:Int)<16)
 ·have:k=16:=by simp at q4;omega
  have hres:AQ (QbT l=none):=Pm.hid (Qng fun i hi=>hA.out i (by omega))
  repeat refine kA ?_
  all_goals exact Qb (hx:=by rw[hres.out];rfl)
 have hk2:k<16:=by simp at q4;omega
 have F:AQ ((decide (l.length<=k)||l.getD k []==[])=true->QbT l=some k):=Pm.hid fun h=>Qnf hA.out hk2 h
 have T:AQ ((decide (l.length<=k)||l.getD k []==[])=false-> ∀i,i<k+1->(decide (l.length<=i)||l.getD i []==[])=false):=Pm.hid fun h i hi=>by
  by_cases hik:i=k
  ·rw[hik];exact h
  ·exact hA.out i (by omega)
 clear hA
 by_cases hkl:k<l.length
 ·obtain⟨x,hx⟩: ∃x,l[k]? =some x:=⟨_,A1 hkl⟩
  have hr:=Qs (f:=fun s=>[dS s]) hx;rw[A0,hx,AB,decide_eq_false (by omega),Bool.false_or] at F T;clear hx
  repeat' first|refine kS ?_|refine qS (iy hr) ?_|refine kU ?_|refine kV ?_ ?_<;>intro q|fail
  all_goals first|exfalso;simp only[decide_eq_true_eq] at*;omega|exact Qb (hx:=by rw[F.out (by assumption)];rfl)|refine Qg (16 -(k+1)) (by omega) ⟨k+1,by omega,rfl,Pm.hid (T.out (by assumption)),?_⟩;simp[keepE,go_sem];done
 ·rw[decide_eq_true (by omega),Bool.true_or] at F
  repeat' first|refine kA ?_|refine kV ?_ ?_<;>intro q|fail
  all_goals first|exact Qb (hx:=by rw[F.out rfl];rfl)|exfalso;simp only[decide_eq_false_iff_not] at*;omega
def Qtx:(A4.info? 5).map (fun i=>(i.zero,i.size,i.bytes))=some (some (.int .u8 0),1,1):=by kernel_rfl
def alZeros(z:Int)(h:z<=100000):Pure A4 132 [dI z] (dS (A2 z.toNat 0)):=by
 refine Qd5 (vs:=[.int .i64 z]) (x:= .string ⟨(A2 z.toNat (0:UInt8)).toArray⟩) rfl fun w _=>?_
 have hmx: ∃n:Nat,z.toNat=n/\max 0 z=(n:Int)/\n<=100000:=⟨z.toNat,rfl,by omega,by omega⟩;obtain⟨n,hn,hm,hnl⟩:=hmx;rw[hn];have hso:strOfNums (A2 n 0)=⟨(A2 n (0:UInt8)).toArray⟩:=by unfold strOfNums;rw[AT];rfl
 have hmk:=Pm.Qut (P:=A4) 22 5 _ 1 1 Aa Qtx n (by omega) (by omega) w
 have hcv:=run_convert_bytes_arg (P:=A4) (w.alloc (.cells (madeCells (Value.int .u8 0).cells (n*1)) 5)) 22 5 Aa Tryz.underlying5 w.heap.size 0 n n (A2 n 0) (by simp) (fun i hi=>by
  rw[Ak,cell_of_row _ _ i _ _ _ (Qej _ _)]
  simp[madeCells,Al,Nat.mod_one,A0,hi]) 9 Tryz.underlying9
 simp only[Al,Nat.mul_one] at hmk hcv;rw[hso] at hcv;clear hso;rw[<-hm] at hmk;clear h hm hn hnl
 go_enter Tryz.func132,Tryz.ntmps132
 go_wp2
 all_goals
  go_ret
  exact⟨rfl,Pm.bnew _ _⟩
def QbX(size:Int)(l:List (List UInt8)):Nat->List UInt8
 |0=>[]
 |k+1=>QbX size l k++l.getD k []++A2 (QaA size k -(l.getD k []).length).toNat 0
theorem Qqs(size:Int)(l:List (List UInt8))(h: ∀x∈l,x.length<=128): ∀k,(QbX size l k).length<=140*k
 :=by intro l;induction l<;>grind [QbX,QaA]
theorem t13_ge(size:Int)(l:List (List UInt8)): ∀k:Nat,(if size<12*k then size else 12*k)<=((QbX size l k).length:Int)
 :=by intro l;induction l<;>grind [QbX,QaA]
def Qmq(s:Pm.Store)(hg:QU s)(n:Qk)(ht:Qx n.tree)(hs:0<=n.size/\n.size<=2048):Pure A4 72 [dSt s,dNode n] (dS (QbX n.size (Qc s n.tree) n.tree.many.toNat)):=by
 have c:=Qe8 s hg n.tree ht;have hl:=texts_len s ht;have hx1:=texts_le s hg n.tree;have hm:=ht.manyHi;have hm0:=ht.manyLo;clear ht;generalize Qc s n.tree=l at*;obtain⟨kind,links,size,⟨⟨p1,p2,p3,p4,p5⟩,depth,many⟩⟩:=n;simp only at hs hl hm hm0 c⊢;rw[<-hl];refine kE ?_;refine Qa 0 (h:=?_);refine Qa 1 (h:=?_)
 repeat refine kA ?_
 refine Qq (fun m st=> ∃(k:Nat),k<=l.length/\m=16 -k/\
  st=⟨37,[(6,.d (tStrs l)),(7,.d (dI k)),(5,.d (dS (QbX size l k))),(3,.d (.pd (rNode ⟨kind,links,size,⟨⟨p1,p2,p3,p4,p5⟩,depth,many⟩⟩)))],[]⟩) [6,7,5,3] 0 16 ⟨0,by omega,rfl,rfl⟩ (round:=?_)
 rintro m st ⟨k,hk,rfl,rfl⟩
 repeat refine kG ?_
 cases q4:decide ((k:Int)<many)
 ·repeat refine kA ?_
  refine Qb (hx:=?_);have:k=l.length:=by simp at q4;omega
  rw[this]
 have hk2:k<l.length:=by simp at q4;omega
 obtain⟨x,hx⟩: ∃x,l[k]? =some x:=⟨_,A1 hk2⟩;have hr:=Qs (f:=fun s=>[dS s]) hx;have hxl:=hx1 x (AA hx);have hd:l.getD k []=x:=by rw[A0,hx];rfl
 have hst:AQ (QbX size l (k+1)=QbX size l k++x++A2 (QaA size k -x.length).toNat 0):=Pm.hid (by rw[<-hd];rfl);have c13:=Qlb size k hs.1 hs.2 (by omega);have h12:QaA size k<=12:=by unfold QaA;split<;>omega
 have h11: -2000<=QaA size k:=by unfold QaA;split<;>omega
 have cz:=alZeros (QaA size k -x.length) (by omega);have hpl:=Qqs size l hx1 k;have hlr:(A2 (QaA size k -x.length).toNat (0:UInt8)).length<=12:=by rw[List.length_replicate];omega
 clear hx hx1 hd;generalize QbX size l k=tk at*;generalize A2 (QaA size k -x.length).toNat (0:UInt8)=zs at*
 repeat' first|refine kS ?_|refine qS (iy hr) ?_|refine qS (Qdf rfl rfl (by first|omega|(simp only[AG];omega))) ?_|refine kU ?_|fail
 all_goals first
  |(refine Qg (16 -(k+1)) (by omega) ⟨k+1,by omega,rfl,?_⟩
    rw[hst.out]
    simp[keepE,go_sem];done)
abbrev zNd0:List AV:=[.d (.v (.int .i64 0)),.d (.v (.int .i64 0)),.d (.v (.int .i64 0)),.d (.v (.int .i64 0)),.d (.v (.int .i64 0)),.d (.v (.int .i64 0)),.d (.v (.int .i64 0)),.d (.v (.int .i64 0)),.d (.v (.int .i64 0)),.d (.v (.int .i64 0))]
abbrev rFs(w:Pl.Sto)(t:Pl.Tree)(full:Bool):List D:=[dStrs w.rows,dInts w.refs,dInts w.last,dI w.txg,dPtrs w.gone,dI 0,dPtrs [],dB w.same,dI t.root.pat,dI t.root.birth,dI t.root.size,dI t.root.sum,dI t.root.level,dI t.depth,dI t.many,dB full]
def aNode(w:Pl.Sto)(N:Nat)(hw:w.W N)(t:Pl.Tree)(ht:Qx t)(full:Bool)(id:Nat):Pure A4 166 [.pd (rFs w t full),dI id] (dNode (Q5 w.st t id).1):=by
 have c:=al11Get w.st hw.good t ht id;generalize Q5 w.st t id=r at*;refine kD ?_
 repeat' first|refine kS ?_|(show AWP _ (.region 1 _ _) _ _;refine(Fk.awp_drawF (id:=1) [0,1,2,3,4,5,6,7,8,9,10,11,12,13] [14] [(13,.row 0 zNd0)] [] ?_))|refine(Fk.aw_fltA 1 ?_)|refine(Fk.aw_fltL (ho:=rfl) (hk:=rfl) (hl:=fun H=>Qdm rfl) (k:=?_))|refine(Fk.aw_fltL (ho:=rfl) (hk:=rfl) (hl:=fun H=>Qdr cK c rfl) (k:=?_))|refine kU ?_|fail
 all_goals first|((refine Qa 0 (h:=?_);refine QK (hx:=?_));rfl)
def QE(w:Pl.Sto)(t:Pl.Tree)(path:List UInt8):Int:=Qae w.st t (Qy path)
theorem Qi5(s:List UInt8):(Qy s).length<=s.length+1:=by grind [Qy,Qex]
def aFind(w:Pl.Sto)(N:Nat)(hw:w.W N)(t:Pl.Tree)(ht:Qx t)(full:Bool)(path:List UInt8)(hp:path.length<=900):Pure A4 165 [.pd (rFs w t full),dS path] (dI (QE w t path)):=by
 have c1:=Qgd path (by omega);have hn:=Qi5 path;have c2:=(QoG w.st hw.good t ht (Qy path) (by omega)).arg (l:=[dSt w.st,dTree t,tStrs (Qy path)]);have hd:AQ (QE w t path=Qae w.st t (Qy path)):=Pm.hid rfl;rw[hd.out];clear hd hn;generalize Qy path=l at*;generalize Qae w.st t l=r at*;refine kE ?_
 repeat' first|refine kS ?_|refine qD (Qdm rfl) ?_|refine kU ?_|fail
 all_goals first|exact Qb (hx:=rfl)
def QmP{dst:Option Tmp}{ty:TypeId}{pos:String}{after:Array Edge}{gd:Option (Nat×Bool)}{env:List (Nat×AV)}{H:List Blk}{x:Operand}{n:Qk}(hx:aval env x= .d (dNode n)):
 Loc A4 ⟨dst,.field 68 x 0,ty,pos,after,gd⟩ env H (.d (dI n.kind)) none:=
 QP fun σ S H' a w _ hop _=>by
  have a1:=AV.conc_rel (hop x (by simp[Op.operands])) (y:= .agg #[.int .i64 n.kind,.int .i64 n.links,.int .i64 n.size,.int .i64 n.tree.root.pat,.int .i64 n.tree.root.birth,.int .i64 n.tree.root.size,.int .i64 n.tree.root.sum,.int .i64 n.tree.root.level,.int .i64 n.tree.depth,.int .i64 n.tree.many]) (by rw[hx];rfl);refine⟨.int .i64 n.kind,?_,.d _ _ (.v _)⟩;have hf: ∀(a b c d e f g h i j:Int),(Instr.field 68 (.agg #[.int .i64 a,.int .i64 b,.int .i64 c,.int .i64 d,.int .i64 e,.int .i64 f,.int .i64 g,.int .i64 h,.int .i64 i,.int .i64 j]) 0).run A4 w= .ok (.int .i64 a) w:=fun a b c d e f g h i j=>by kernel_rfl
  simp only[execOp,a1,Sem.run_bind,hf];rfl
def QI(w:Pl.Sto)(t:Pl.Tree)(path:List UInt8):Int×Int:=
 if Qy path=[] then(0,3) else
 if Qae w.st t ((Qy path).take ((Qy path).length -1))<0 then(0,2) else
 if(Q5 w.st t (Qae w.st t ((Qy path).take ((Qy path).length -1))).toNat).1.kind=2 then(Qae w.st t ((Qy path).take ((Qy path).length -1)),0) else(0,4)
theorem aPlace(w:Pl.Sto)(N:Nat)(hw:w.W N)(t:Pl.Tree)(ht:Qx t)(full:Bool)(path:List UInt8)(hp:path.length<=900):Pure A4 167 [.pd (rFs w t full),dS path] (.tup [dI (QI w t path).1,dI (QI w t path).2]):=by
 have c1:=Qgd path (by omega);have hn:=Qi5 path;have c2:=QoG w.st hw.good t ht ((Qy path).take ((Qy path).length -1)) (by rw[AL];omega);have hd:=Pm.hid (QI.eq_def w t path);have c3:=fun id:Nat=>aNode w N hw t ht full id
 generalize QI w t path=res at*;generalize Qy path=l at*;generalize hf:Qae w.st t (l.take (l.length -1))=r at*;clear hf
 replace c2:Pure A4 218 [dSt w.st,dTree t,.sl true 1 ((l.map fun s=>[dS s]).take ((l.length:Int) -1).toNat)] (dI r):=by
  rw[show((l.length:Int) -1).toNat=l.length -1 by omega,<-List.map_take];exact c2.arg
 by_cases hl:l=[]
 ·rw[if_pos hl] at hd
  subst hl;rw[hd.out];clear c2 c3;refine kE ?_
  repeat refine kA ?_
  all_goals first|exact Qb (hx:=rfl)
 rw[if_neg hl] at hd;have hl2:=AC.2 hl;have hl3:AQ (((l.length:Int)==0)=false):=Pm.hid (by simp;omega)
 by_cases hr:r<0
 ·rw[if_pos hr] at hd
  rw[hd.out];clear c3;refine kE ?_
  repeat' first|refine kS ?_|refine qD (Qdm rfl) ?_|refine qD (Qgk rfl rfl rfl (by omega) (by simp;omega)) ?_|refine kU ?_|refine kV ?_ ?_<;>intro q|fail
  all_goals first|exact absurd (hl3.out.symm.trans ‹((l.length:Int)==0)=true›) (by decide)|exact Qb (hx:=rfl)|exfalso;simp only[decide_eq_false_iff_not] at*;omega
 rw[if_neg hr] at hd;obtain⟨a,ha⟩:=AK (show 0<=r by omega);subst ha
 replace c3:=c3 a
 rw[AW] at hd;generalize (Q5 w.st t a).1=n at*;refine kE ?_
 repeat' first|refine kS ?_|refine qD (Qdm rfl) ?_|refine qS (QmP rfl) ?_|refine qD (Qgk rfl rfl rfl (by omega) (by simp;omega)) ?_|refine kU ?_|refine kV ?_ ?_<;>intro q|fail
 all_goals first|exact absurd (hl3.out.symm.trans ‹((l.length:Int)==0)=true›) (by decide)|refine Qb (hx:=?_);rw[hd.out,if_pos (by simpa using q)];done|refine Qb (hx:=?_);rw[hd.out,if_neg (by simpa using q)];done|exfalso;simp only[decide_eq_true_eq] at*;omega
def Qan(w:Pl.Sto)(t:Pl.Tree)(path:List UInt8):Int×Int:=
 if 0<(QI w t path).2 then(0,(QI w t path).2) else if 0<=QE w t path then(0,3) else((QI w t path).1,0)
def aFresh(w:Pl.Sto)(N:Nat)(hw:w.W N)(t:Pl.Tree)(ht:Qx t)(full:Bool)(path:List UInt8)(hp:path.length<=900):Pure A4 158 [.pd (rFs w t full),dS path] (.tup [dI (Qan w t path).1,dI (Qan w t path).2]):=by
 have c1:=aPlace w N hw t ht full path hp;have c2:=aFind w N hw t ht full path hp;have hd:=Pm.hid (Qan.eq_def w t path);generalize Qan w t path=res at*;generalize QI w t path=p at*;generalize QE w t path=r at*;refine kE ?_
 repeat' first|refine kA ?_|refine kV ?_ ?_<;>intro q|fail
 all_goals first|refine Qb (hx:=?_);rw[hd.out,if_pos (by simp only[decide_eq_true_eq] at*;omega)];done|refine Qb (hx:=?_);rw[hd.out,if_neg (by simp only[decide_eq_false_iff_not,decide_eq_true_eq] at*;omega),if_pos (by simp only[decide_eq_true_eq] at*;omega)];done|refine Qb (hx:=?_);rw[hd.out,if_neg (by simp only[decide_eq_false_iff_not] at*;omega),if_neg (by simp only[decide_eq_false_iff_not] at*;omega)];done
theorem QfK{S:Nat->Prop}{g:Nat}{len:Nat}{v:Am}(hk:k≠3)(h:Rel σ S (hS g1 w') wd (.osl k g 0 len) v):Rel σ S (hS g2 w') wd (.osl k g 0 len) v:=by
 cases h with
 |osl _ _ _ _ _ ho g' sz T rows hb hg h=>
  refine .osl _ _ _ _ _ ho g' sz T rows ?_ hg h
  grind
def QsW{S:Nat->Prop}{len:Nat}{v:Am}(h:Rel σ S (hS g1 w') wd (.osl 3 g1 0 len) v):Rel σ S (hS g2 w') wd (.osl 3 g2 0 len) v:=by
 cases h with
 |osl _ _ _ _ _ ho g' sz T rows hb hg h=>
  cases hb;exact .osl _ _ _ _ _ ho _ _ _ _ rfl (Af _) fun _=>h rfl
def QgP{S:Nat->Prop}{x:D}{v:Am}(h:Rel σ S (hS g1 w') wd (.d x) v):Rel σ S (hS g2 w') wd (.d x) v:=by
 cases h with
 |d _ _ h=>exact .d _ _ h
def rel_oS{S:Nat->Prop}{v:Am}(h:Rel σ S (hS g1 w') wd (oS g1 w2) v):Rel σ S (hS g2 w') wd (oS g2 w2) v:=by
 cases h with
 |agg _ cs hl h=>
  refine .agg _ cs hl fun i d x hd hx=>?_
  match i,hd,hx with
  |0,hd,hx=>cases hd;exact QfK (by decide) (h 0 _ x rfl hx)
  |1,hd,hx=>cases hd;exact QfK (by decide) (h 1 _ x rfl hx)
  |2,hd,hx=>cases hd;exact QfK (by decide) (h 2 _ x rfl hx)
  |3,hd,hx=>cases hd;exact QgP (h 3 _ x rfl hx)
  |4,hd,hx=>cases hd;exact QsW (h 4 _ x rfl hx)
  |5,hd,hx=>cases hd;exact QgP (h 5 _ x rfl hx)
  |6,hd,hx=>cases hd;exact QfK (by decide) (h 6 _ x rfl hx)
  |7,hd,hx=>cases hd;exact QgP (h 7 _ x rfl hx)
  |i+8,hd,hx=>cases hd
def Qgg{S:Nat->Prop}{b:D}{v:Am}(h:Rel σ S (hS g1 w') wd (.tup [oS g1 w2,.d a,.d b]) v):Rel σ S (hS g2 w') wd (.tup [oS g2 w2,.d a,.d b]) v:=by
 cases h with
 |tup _ cs hl h=>
  refine .tup _ cs hl fun i d x hd hx=>?_
  match i,hd,hx with
  |0,hd,hx=>cases hd;exact rel_oS (h 0 _ x rfl hx)
  |1,hd,hx=>cases hd;exact QgP (h 1 _ x rfl hx)
  |2,hd,hx=>cases hd;exact QgP (h 2 _ x rfl hx)
  |i+3,hd,hx=>cases hd
def sm_tag{B:Bs}{S:Nat->Prop}(h:Sm B σ S (hS g1 w') wd):Sm B σ S (hS g2 w') wd:=
 {h with
  blk:=fun k C hC=>by
   match k,hC with
   |0,hC=>cases hC;exact h.blk 0 _ rfl
   |1,hC=>cases hC;exact h.blk 1 _ rfl
   |2,hC=>cases hC;exact h.blk 2 _ rfl
   |3,hC=>cases hC;exact h.blk 3 _ rfl
   |4,hC=>cases hC;exact h.blk 4 _ rfl
   |k+5,hC=>cases hC}
theorem DoesE.tag{f:FuncId}{g:Nat}{X:Nat->AV}{C:Nat->Prop}(h:DoesE A4 f args (hS g w) (gS g w) (fun x H=> ∃g',C g'/\x=X g'/\H=hS g' w'))
 (hX: ∀{σ:Sg} {S:Nat->Prop} {g1 g2:Nat} {wd:World} {v:Am},Rel σ S (hS g1 w') wd (X g1) v->Rel σ S (hS g2 w') wd (X g2) v):
 DoesE A4 f args (hS g w) (gS g w) (fun x H=>x=X (g+1)/\H=hS (g+1) w'):=by
 intro B σ S w0 cargs gvs h1 h2 h3 h4 h5 h6;refine(h B σ S w0 cargs gvs h1 h2 h3 h4 h5 h6).mono ?_;rintro _ _ ⟨x,H1,⟨g',h0,rfl,rfl⟩,h7,v,σ',S',rfl,h8,h9,h10⟩;refine⟨_,_,⟨rfl,rfl⟩,fun i C0 hC=>?_,v,σ',S',rfl,sm_tag h8,hX h9,fun i d v hd hv=>?_⟩
 ·obtain⟨C',e1,e2⟩:=h7 i C0 hC
  match i,hC,e1 with
  |0,hC,e1=>grind
  |1,hC,e1=>grind
  |2,hC,e1=>grind
  |3,hC,e1=>cases hC;exact⟨_,rfl,rfl,rfl,.inl (Nat.lt_succ_self g)⟩
  |4,hC,e1=>grind
  |i+5,hC,e1=>cases hC
 ·have e:=h10 i d v hd hv
  match i,hd with
  |0,hd=>cases hd;exact QfK (by decide) e
  |1,hd=>cases hd;exact QfK (by decide) e
  |2,hd=>cases hd;exact QfK (by decide) e
  |3,hd=>cases hd;cases e with
   |osl _ _ _ _ _ ho g2 sz T rows hb hg h=>exact .osl _ _ _ _ _ ho _ _ _ _ rfl (Nat.le_succ g) fun h=>absurd h (by omega)
  |4,hd=>cases hd;exact QfK (by decide) e
  |i+5,hd=>cases hd
theorem DoesE.tag3{f:FuncId}{g:Nat}{ok:Bool}(h:DoesE A4 f args (hS g w) (gS g w) (fun x H=> ∃g',(ok=false->g'=g)/\x= .tup [oS g' w2,.d a,.d (dB ok)]/\H=hS g' w')):
 DoesE A4 f args (hS g w) (gS g w) (fun x H=>x= .tup [oS (if ok then g+1 else g) w2,.d a,.d (dB ok)]/\H=hS (if ok then g+1 else g) w'):=by
 cases ok
 ·grind
 ·exact h.tag Qgg
end Aw
end
section
namespace Aw
def Qbw(refs:List Int):List (Pl.Ptr×Int)->List Int->Bool×List Int
 |[],m=>(true,m)
 |(p,top)::l,m=>if QbQ refs top p then Qbw refs l (QaM m p) else(false,m)
def Qsd(refs:List Int)(most:Int): ∀(l:List Pl.Ptr) (m:List Int),QaC refs most l m=Qbw refs (l.map fun p=>(p,most)) m
 |[],m=>rfl
 |p::l,m=>by unfold QaC;rw[List.map_cons,Qbw,Qsd refs most l]
def Qjb(refs:List Int)(l2:List (Pl.Ptr×Int)): ∀(l1:List (Pl.Ptr×Int)) (m:List Int),Qbw refs (l1++l2) m=if(Qbw refs l1 m).1 then Qbw refs l2 (Qbw refs l1 m).2 else Qbw refs l1 m
 |[],m=>rfl
 |(p,top)::l,m=>by
  rw[Ab,Qbw,Qbw];split
  ·exact Qjb refs l2 l _
  ·rfl
theorem QpD(m:List Int)(p:Pl.Ptr)(i:Nat):m.getD i 0<=(QaM m p).getD i 0:=by
 unfold QaM
 grind
theorem QlX(refs:List Int)(i:Nat): ∀(l:List (Pl.Ptr×Int)) (m:List Int),m.getD i 0<=(Qbw refs l m).2.getD i 0
 |[],m=>Int.le_refl _
 |(p,top)::l,m=>by
  unfold Qbw;split
  ·exact Int.le_trans (QpD m p i) (QlX refs i l _)
  grind
theorem Qli{refs:List Int}: ∀(l:List (Pl.Ptr×Int)) (m:List Int),m.length=64->(∀i,i<64->0<=m.getD i 0/\m.getD i 0<=refs.getD i 0)->
 Qb0 refs l m=((Qbw refs l m).1&&(A3 64).all fun i=>decide ((Qbw refs l m).2.getD i 0<=refs.getD i 0))
 |[],m,_,h=>by
  unfold Qb0 Qbw
  grind
 |(p,top)::l,m,hm,h=>by
  unfold Qb0 Qbw;cases hc:QbQ refs top p
  ·simp only[AH,if_false,AR]
   unfold QbQ at hc
   grind
  ·simp only[if_true]
   unfold QbQ at hc;simp only[AE,Bool.not_eq_true'] at hc;obtain⟨⟨⟨h1,h2⟩,h3⟩,h4⟩:=hc;have hp:=QdN h1 h2;have hb:=h p.pat.toNat (by omega);have hlt:p.pat.toNat<m.length:=by omega
   rw[h1,h2,h3];simp only[Bool.not_false,AS]
   by_cases hle:m.getD p.pat.toNat 0+1<=refs.getD p.pat.toNat 0
   ·rw[decide_eq_true hle,AS]
    refine Qli l (QaM m p) ((Qma m p).trans hm) fun i hi=>?_
    have:=h i hi;unfold QaM
    grind
   ·rw[decide_eq_false hle,AR]
    have hbad:((A3 64).all fun i=>decide ((Qbw refs l (QaM m p)).2.getD i 0<=refs.getD i 0))=false:=by
     rw[AZ];refine⟨p.pat.toNat,AD.2 (by omega),?_⟩;have h5:=QlX refs p.pat.toNat l (QaM m p);have h6:(QaM m p).getD p.pat.toNat 0=m.getD p.pat.toNat 0+1:=by unfold QaM;grind
     grind
    grind
def QcE(s:Pm.Store):Bool:=
 (QaC s.2.1.1 (s.2.2.1 -1) s.2.2.2.1 (A2 64 0)).1&&(QaC s.2.1.1 s.2.2.2.2.1 s.2.2.2.2.2.1 (QaC s.2.1.1 (s.2.2.1 -1) s.2.2.2.1 (A2 64 0)).2).1&&
   (A3 64).all fun i=>decide ((QaC s.2.1.1 s.2.2.2.2.1 s.2.2.2.2.2.1 (QaC s.2.1.1 (s.2.2.1 -1) s.2.2.2.1 (A2 64 0)).2).2.getD i 0<=s.2.1.1.getD i 0)
theorem Qpc{s:Pm.Store}(h: ∀i,i<64->0<=s.2.1.1.getD i 0):Qb0 s.2.1.1 (Qbq s) (A2 64 0)=QcE s:=by
 have hz: ∀i,i<64->(A2 64 (0:Int)).getD i 0=0:=fun i hi=>by
  grind
 rw[Qli _ _ (by simp) fun i hi=>by grind];unfold Qbq QcE;rw[Qjb,<-Qsd,<-Qsd]
 grind
theorem QoT{s:Pm.Space}(h:Pl.spaceOk s=true): ∀i,i<64->0<=s.1.getD i 0:=by
 intro i hi;unfold Pl.spaceOk at h;simp only[AE,Ae] at h;have:=h.2 i (AD.2 hi);unfold Pl.QdZ Pl.QdM at this;simp only[AE] at this;have:=this.1.1.2;simp[Pl.inR] at this
 grind
end Aw
end
section
open Go.RowKit
namespace Aw
variable{nm es t:List Nat}{x:List (List UInt8)}
def QcM(mp:List (Int×D))(nm:List Nat):Prop:= ∀k:Nat,(mget mp (k:Int)).getD (.v (.int .i64 0))= .v (.int .i64 (nm.count k:Nat))
def Qtj:QcM [] []:=fun k=>by simp[mget]
theorem QqR{mp:List (Int×D)}(h:QcM mp nm)(e:Nat):QcM (mset mp (e:Int) (.v (.int .i64 ((nm.count e:Int)+1)))) (nm++[e]):=fun k=>by
 by_cases hk:e=k
 ·grind [QeU]
 ·rw[QhJ (by omega),h k]
  grind
abbrev Qt(x:List (List UInt8)):List Qk:=x.map fun y=>(Qo y).1
def Qc8(x:List (List UInt8)):Prop:= ∀y∈x,y=[]∨NodeB (Qo y).1
theorem QeF(k:Nat):(Qt x).getD k Qd=(Qo (x.getD k [])).1:=by grind [QmB]
theorem Qfa(h:Qc8 x)(k:Nat):x.getD k []=[]/\(Qt x).getD k Qd=Qd∨x.getD k []≠[]/\k<x.length/\NodeB ((Qt x).getD k Qd):=by
 rw[QeF]
 by_cases hy:x.getD k []=[]
 ·grind [QmB]
 ·refine .inr ⟨hy,?_,?_⟩
  ·grind
  ·rcases h (x.getD k []) (by
    grind) with h|h
   ·grind
   ·exact h
theorem QiG(h:Qc8 x)(k:Nat):Qr (Qt x) k=0↔x.getD k []=[]:=by
 unfold Qr;rcases Qfa h k with⟨h1,h2⟩|⟨h1,_,h2⟩
 ·rw[h2];exact⟨fun _=>h1,fun _=>rfl⟩
 ·have:=h2.kind
  grind
theorem QuA(h:Qc8 x)(k:Nat):QcN x (k:Int)=if Qr (Qt x) k=0 then(Qd,false) else((Qt x).getD k Qd,true):=by grind [QcN,QiG,Pl.inR]
def Qcm(kind:Nat->Nat)(ch:Nat->Option (List Nat))(links:Nat->Nat)(n:Nat):Bool:=
 match Gr.bfs kind ch (1+Gr.left kind n []) [0] [] with
 |none=>false
 |some nm=>(A3 n).all fun k=>decide (k=0)||decide (kind k=0)||decide (nm.count k=links k)
theorem Qtq(kind:Nat->Nat)(n:Nat)(nm:List Nat):Gr.left kind n nm<=n:=by
 unfold Gr.left
 grind
theorem Qpu{kind:Nat->Nat}{e:Nat}(h:kind e=0):Gr.inner kind (e::es) t nm=none:=by
 unfold Gr.inner;grind
theorem Qps{kind:Nat->Nat}{e:Nat}(h:kind e=1):Gr.inner kind (e::es) t nm=Gr.inner kind es t (nm++[e]):=by grind [Gr.inner]
theorem Qpt{kind:Nat->Nat}{e:Nat}(h:kind e=2)(hc:0<nm.count e):Gr.inner kind (e::es) t nm=none:=by
 unfold Gr.inner;grind
theorem Qrq{kind:Nat->Nat}{e:Nat}(h:kind e=2)(hc:nm.count e=0):Gr.inner kind (e::es) t nm=Gr.inner kind es (t++[e]) (nm++[e]):=by grind [Gr.inner]
attribute [local irreducible] ASeq ADraw AWP Loc
def Qb7(refs:List Int)(i:Nat)(r:List UInt8):Bool:=decide (r.length<=128)&&((r==[])==(refs.getD i 0==0))
theorem QoU{s:Pm.Store}(h:s.2.1.2.length=64):QbS s=(((A3 64).all fun i=>Qb7 s.2.1.1 i (s.1.getD i []))&&decide (Qcb s.2.1.2<=s.2.2.1)):=by
 have hne:s.2.1.2≠[]:=fun e=>by grind
 rw[Bool.eq_iff_iff];unfold QbS Qbt Qb7;simp only[AE,Ae,decide_eq_true_eq,AD];rw[maxL_le hne];constructor
 ·intro hh
  refine⟨fun i hi=>(hh i hi).1,fun y hy=>?_⟩;obtain⟨i,hi,rfl⟩:=List.getElem_of_mem hy;have:=(hh i (by omega)).2
  grind
 simp_all
theorem Qo2(s:Pm.Store)(b1:s.2.1.1.length<=Pm.big)(b2:s.2.1.2.length<=Pm.big)(b3:s.2.2.2.1.length<=1000000000000)(b4:s.2.2.2.2.2.1.length<=1000000000000):
 Pure A4 34 [dSt s] (dB (QZ s)):=by
 have hd:AQ (QZ s=((s.1.length==64)&&Pl.spaceOk s.2.1&&Pl.inR s.2.2.1 1 900&&Pl.inR s.2.2.2.2.1 0 (s.2.2.1 -1)&&QbS s&&Qb0 s.2.1.1 (Qbq s) (A2 64 0))):=Pm.hid rfl;have cS:=QtP s.2.1 b1 b2;have cT:=bIn s.2.2.1 1 900;have cQp:=bIn s.2.2.2.2.1 0 (s.2.2.1 -1)
 by_cases hlen:s.1.length=64
 rotate_left
 ·have hf:QZ s=false:=by rw[hd.out,beq_eq_false_iff_ne.2 hlen];rfl
  refine kE ?_;refine Qa 0 (h:=?_);have hne:((s.1.length:Int) !=64)=true:=by rw[bne_iff_ne];omega
  repeat' first|refine kA ?_|refine kV ?_ ?_<;>intro q|fail
  all_goals first|refine Qb (hx:=?_);rw[hf]|exfalso;simp_all;done
 have hne:((s.1.length:Int) !=64)=false:=by rw[hlen];rfl
 cases hsp:Pl.spaceOk s.2.1
 ·have hf:QZ s=false:=by rw[hd.out,hsp];simp
  rw[hsp] at cS;refine kE ?_;refine Qa 0 (h:=?_)
  repeat' first|refine kA ?_|refine kV ?_ ?_<;>intro q|fail
  all_goals first|refine Qb (hx:=?_);rw[hf]|exfalso;simp_all;done
 cases hT:Pl.inR s.2.2.1 1 900
 ·have hf:QZ s=false:=by rw[hd.out,hT];simp
  rw[hT] at cT;rw[hsp] at cS;refine kE ?_;refine Qa 0 (h:=?_)
  repeat' first|refine kA ?_|refine kV ?_ ?_<;>intro q|fail
  all_goals first|refine Qb (hx:=?_);rw[hf]|exfalso;simp_all;done
 have hTb:1<=s.2.2.1/\s.2.2.1<=900:=by simpa[Pl.inR] using hT
 cases hK:Pl.inR s.2.2.2.2.1 0 (s.2.2.1 -1)
 ·have hf:QZ s=false:=by rw[hd.out,hK];simp
  rw[hT] at cT;rw[hsp] at cS;rw[hK] at cQp;refine kE ?_;refine Qa 0 (h:=?_)
  repeat' first|refine kA ?_|refine kV ?_ ?_<;>intro q|fail
  all_goals first|refine Qb (hx:=?_);rw[hf]|exfalso;simp_all;done
 have hsp1:s.2.1.1.length=64/\s.2.1.2.length=64:=by simp[Pl.spaceOk] at hsp;exact hsp.1
 have cM:=bMax s.2.1.2 (by omega) (by omega)
 have hd2:AQ (QZ s=(((A3 64).all fun i=>Qb7 s.2.1.1 i (s.1.getD i []))&&decide (Qcb s.2.1.2<=s.2.2.1)&&QcE s)):=Pm.hid (by
  rw[hd.out,hlen,hsp,hT,hK,QoU hsp1.2,Qpc (QoT hsp)];rfl)
 rw[hT] at cT;rw[hsp] at cS;rw[hK] at cQp;clear hd hsp hT hK;have hrow:AQ (∀k,Qb7 s.2.1.1 k (s.1.getD k [])=(decide ((s.1.getD k []).length<=128)&&((s.1.getD k []==[])==(s.2.1.1.getD k 0==0)))):=Pm.hid fun k=>rfl
 have hrf:AQ (∀k,k<64->Qb7 s.2.1.1 k (s.1.getD k [])=false->QZ s=false):=Pm.hid fun k hk h=>by
  rw[hd2.out,Pl.Qdj hk h];rfl
 have how:AQ (QcE s=((QaC s.2.1.1 (s.2.2.1 -1) s.2.2.2.1 (A2 64 0)).1&&(QaC s.2.1.1 s.2.2.2.2.1 s.2.2.2.2.2.1 (QaC s.2.1.1 (s.2.2.1 -1) s.2.2.2.1 (A2 64 0)).2).1&&
  (A3 64).all fun i=>decide ((QaC s.2.1.1 s.2.2.2.2.1 s.2.2.2.2.2.1 (QaC s.2.1.1 (s.2.2.1 -1) s.2.2.2.1 (A2 64 0)).2).2.getD i 0<=s.2.1.1.getD i 0))):=Pm.hid rfl
 have fa1:=Qgq s.2.1.1 (s.2.2.1 -1) s.2.2.2.1 (A2 64 0) 0 (by decide) (fun y hy=>by rw[(AU.1 hy).2];decide);have dd1:=bCount s hsp1.1 s.2.2.2.1 b3 (s.2.2.1 -1) (A2 64 0) (by simp) (fun y hy=>by rw[(AU.1 hy).2];decide) 0;generalize QaC s.2.1.1 (s.2.2.1 -1) s.2.2.2.1 (A2 64 0)=r1 at*;obtain⟨o1,m1⟩:=r1;simp only at fa1 how;have fa2:=Qgq s.2.1.1 s.2.2.2.2.1 s.2.2.2.2.2.1 m1 1000000000000 (by decide) (fun y hy=>by have:=fa1.2 y hy;omega);have dd2:=bCount s hsp1.1 s.2.2.2.2.2.1 b4 s.2.2.2.2.1 m1 (by simpa using fa1.1) (fun y hy=>by have:=fa1.2 y hy;omega) 0;generalize QaC s.2.1.1 s.2.2.2.2.1 s.2.2.2.2.2.1 m1=r2 at*;obtain⟨o2,m2⟩:=r2;simp only at fa2 how;generalize Qcb s.2.1.2=mx at*;generalize hst:QZ s=res at*;clear hst b1 b2;refine kE ?_;refine Qa 0 (h:=?_)
 repeat' first|refine kA ?_|refine kV ?_ ?_<;>intro q|fail
 all_goals first
  |(exfalso;clear hrow how hrf hd2 dd1 dd2;simp_all;done)
  |(refine Qb (hx:=?_)
    rw[hd2.out,decide_eq_false (by clear hrow how hrf hd2 dd1 dd2;simp at*;omega),Aj,AR];done)
  |skip
 have hmx:decide (mx<=s.2.2.1)=true:=decide_eq_true (by clear hrow how hrf hd2 dd1 dd2;simp at*;omega)
 refine Qq (fun m st=> ∃k:Nat,k<=64/\m=64 -k/\AQ ((A3 k).all (fun i=>Qb7 s.2.1.1 i (s.1.getD i []))=true)/\
  st=⟨102,[(1,.d (.pd (rSt s))),(44,.d (dStrs s.1)),(45,.d (dI s.1.length)),(46,.d (dI k))],[]⟩) [1,44,45,46] 0 64 ⟨0,by omega,rfl,Pm.hid rfl,by simp[keepE,go_sem]⟩ (round:=?_)
 rintro m st ⟨k,hk,rfl,hA,rfl⟩
 repeat refine kG ?_
 cases q3:decide ((k:Int)<(s.1.length:Int));rotate_left
 ·have hk2:k<64:=by simp at q3;omega
  obtain⟨r,hr0⟩: ∃r,s.1[k]? =some r:=⟨_,A1 (by omega)⟩;obtain⟨rf,hf0⟩: ∃rf,s.2.1.1[k]? =some rf:=⟨_,A1 (by omega)⟩;have hr:=Qs (f:=fun s=>[dS s]) hr0;have hf:=Qs (f:=fun n=>[dI n]) hf0;have hbad:=Pm.hid (hrf.out k hk2);have hgood:AQ (Qb7 s.2.1.1 k (s.1.getD k [])=true->(A3 (k+1)).all (fun i=>Qb7 s.2.1.1 i (s.1.getD i []))=true):=Pm.hid fun h=>Pl.Qdo hA.out h
  have hro:AQ (Qb7 s.2.1.1 k (s.1.getD k [])=(!decide ((r.length:Int)>128)&&((r==[])==(rf==0)))):=Pm.hid (by
   rw[hrow.out k];simp only[A0,hr0,hf0,AB]
   have:decide (r.length<=128)= !decide ((r.length:Int)>128):=by
    by_cases h:r.length<=128
    ·rw[decide_eq_true h,decide_eq_false (by omega)];rfl
    ·rw[decide_eq_false h,decide_eq_true (by omega)];rfl
   rw[this])
  clear hrow how hrf hd2 dd1 dd2 hr0 hf0 hA fa1 fa2;generalize Qb7 s.2.1.1 k (s.1.getD k [])=ro at*
  repeat' first|refine kS ?_|refine qS (iy hr) ?_|refine qS (iy hf) ?_|refine qS (QeI Tryz.underlying4 rfl rfl) ?_|refine kU ?_|refine kV ?_ ?_<;>intro q|fail
  all_goals clear hr hf
  all_goals first
   |(exfalso;omega)
   |(refine Qb (hx:=?_)
     rw[hbad.out (by rw[hro.out];clear hbad hgood hro;simp_all)];done)
   |exact Qg (64 -(k+1)) (by omega) ⟨k+1,by omega,rfl,Pm.hid (hgood.out (by rw[hro.out];clear hbad hgood hro;simp_all)),by simp[keepE,go_sem]⟩
 have hk64:k=64:=by simp at q3;omega
 subst hk64
 have hd3:AQ (res=QcE s):=Pm.hid (by
  rw[hd2.out,hA.out,hmx];rfl)
 clear hrow hrf hd2 hA;simp only[AT] at dd1;simp only at dd1 dd2
 have hgl1: ∀(L:List AV) (B:Blk) (g:AV),g∈[AV.ptr 0 0 0,AV.osl 1 0 0 64]->AV.ptr 1 0 0∈L->B.parts=[]->g.ren (rho [1,0] 2)∈L++[B,Blk.row 0 [.osl 0 0 0 64]].flatMap Blk.parts:=fun L B g hg hL hB=>by
  simp only[List.mem_cons,List.not_mem_nil,or_false] at hg;rcases hg with rfl|rfl
  ·exact A7 _ hL
  ·refine A9 _ ?_
   rw[A6,hB];simp[Blk.parts,AV.parts,AV.ren,rho]
 repeat' first|refine kS ?_|refine qS (Qkv rfl rfl) ?_|refine(Qjn [1,0] dd1 cK (hgl:=fun g hg=>hgl1 _ _ g hg (by simp[AV.parts,go_sem]) rfl) (k:=?_))|refine(Qjn [1,0] dd2 cK (hgl:=fun g hg=>hgl1 _ _ g hg (by simp[AV.parts,go_sem]) rfl) (k:=?_))|refine kU ?_|refine kV ?_ ?_<;>intro q|fail
 ·refine Qb (hx:=?_)
  rw[hd3.out,how.out,(by simpa using q:o1=false)];rfl
 ·refine Qb (hx:=?_)
  rw[hd3.out,how.out,(by simpa using q:o2=false),Aj];rfl
 have hm2:m2.length=64:=by rw[fa2.1,fa1.1];simp
 have hd4:AQ (res=(A3 64).all fun i=>decide (m2.getD i 0<=s.2.1.1.getD i 0)):=Pm.hid (by
  rw[hd3.out,how.out];clear hd3 how dd1 dd2
  simp_all)
 clear hd3 how dd1 dd2 fa1 fa2 cS cT cQp cM
 refine Qq (fun m st=> ∃k:Nat,k<=64/\m=64 -k/\AQ ((A3 k).all (fun i=>decide (m2.getD i 0<=s.2.1.1.getD i 0))=true)/\
  st=⟨102,[(1,.d (.pd (rSt s))),(86,.osl 0 0 0 64),(87,.d (dI 64)),(88,.d (dI k))],[.arr 0 1 3 (m2.map fun n=>[dI n])]⟩) [1,86,87,88] 1 64 ⟨0,by omega,rfl,Pm.hid rfl,by simp[keepE,go_sem]⟩ (round:=?_)
 rintro m st ⟨k,hk,rfl,hA,rfl⟩
 repeat refine kG ?_
 cases q5:decide ((k:Int)<64)
 ·repeat refine kA ?_
  refine Qb (hx:=?_);have:k=64:=by simp at q5;omega
  subst this;rw[hd4.out,hA.out]
 have hk2:k<64:=by simp at q5;omega
 obtain⟨mv,hmv⟩: ∃mv,m2[k]? =some mv:=⟨_,A1 (by omega)⟩;obtain⟨rf,hf0⟩: ∃rf,s.2.1.1[k]? =some rf:=⟨_,A1 (by omega)⟩;have hmr:=Qs (f:=fun n=>[dI n]) hmv;have hf:=Qs (f:=fun n=>[dI n]) hf0;have hmr2:(m2.map fun n=>[dI n])[0+((k:Nat):Int).toNat]? =some [dI mv]:=by rw[Ak];exact hmr
 have hbad:AQ (decide (mv>rf)=true->res=false):=Pm.hid fun h=>by
  rw[hd4.out];refine Pl.Qdj hk2 ?_;simp only[A0,hmv,hf0,AB];exact decide_eq_false (by simp at h;omega)
 have hgood:AQ (decide (mv>rf)=false->(A3 (k+1)).all (fun i=>decide (m2.getD i 0<=s.2.1.1.getD i 0))=true):=Pm.hid fun h=>Pl.Qdo hA.out (by
  simp only[A0,hmv,hf0,AB]
  exact decide_eq_true (by simp at h;omega))
 clear hd4 hA hmv hf0
 repeat' first|refine kS ?_|refine qS (Qdg Ty.h rfl rfl hmr2 rfl) ?_|refine qS (iy hf) ?_|refine kU ?_|refine kV ?_ ?_<;>intro q|fail
 all_goals first
  |(refine Qb (hx:=?_)
    rw[hbad.out (by assumption)];done)
  |exact Qg (64 -(k+1)) (by omega) ⟨k+1,by omega,rfl,Pm.hid (hgood.out (by assumption)),by simp[keepE,go_sem]⟩

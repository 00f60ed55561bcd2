/- Of ftw_card; no condition. -/
import Derived.Test.YthbonbflkdonkaaGreatDoorP31
import Derived.Test.YthbonbflkdonkaaGreatDoorP32
import Derived.Test.YthbonbflkdonkaaGreatDoorP34
set_option linter.all false
set_option maxRecDepth 100000
set_option maxHeartbeats 16000000
open Bool renaming false_eq_true->A2,not_eq_false'->AC
open Go.Proofs.Tryz renaming prog->A3
open Int renaming toNat_natCast->AD
open List renaming take_of_length_le->A0,replicate->A1,getElem?_eq_some_iff->A4,getElem?_eq_getElem->A5,length_append->A6,length_drop->A7,length_take->A8,getElem_cons_drop->A9,drop_of_length_le->AA,cons_append->AE,length_cons->AF,nil_append->AG,map_cons->AH
open Nat renaming le_refl->AB
namespace Go.Proofs.YthbonbflkdonkaaGreatDoor
noncomputable section
open Go.RowKit
namespace Aw
variable{k i:Nat}{t:Pl.Tree}{w:Pl.Sto}
def ePut(g:Nat)(w:Pl.Sto)(N:Nat)(hN:N<=800000)(hw:w.W N)(t:Pl.Tree)(ht:Qx t)(k:Nat)(hk:k<16)(text:List UInt8)(htx:text.length<=Pm.big):
 DoesE A3 24 [oS g w,.d (dTree t),.d (dI k),.d (dS text)] (hS g w) (gS g w) (fun x H=> ∃g',((Qn w t k text).2.2=false->g'=g)/\x= .tup [oS g' (Qn w t k text).1,.d (dTree (Qn w t k text).2.1),.d (dB (Qn w t k text).2.2)]/\H=hS g' (Qn w t k text).1):=by
 by_cases h1:(Qi w.rows ((Qe w.st t).getD k Pl.hole)).1=text
 ·exact ePut_a g w N hN hw t ht k hk text htx h1
 by_cases h2:text=[]
 ·exact ePut_b g w N hN hw t ht k hk text htx h1 h2
 ·exact ePut_c g w N hN hw t ht k hk text htx h1 h2
theorem pcs_128: ∀(n:Nat) (s:List UInt8),∀x∈Qct n s,x.length<=128
 :=by intro l;induction l<;>grind [Qct]
theorem QnA{text:List UInt8}(h:(Qn w t k text).2.2=false)(g:Nat):oS g w=oS g (Qn w t k text).1:=by
 obtain⟨z1,z2,z3⟩:=Qep h
 grind
def QoQ{l:List (List UInt8)}{x:List UInt8}(h:l[i]? =some x):Qap w t (l.drop i) i=if(Qn w t i x).2.2 then Qap (Qn w t i x).1 (Qn w t i x).2.1 (l.drop (i+1)) (i+1) else((Qn w t i x).1,t,false):=by
 obtain⟨h1,h2⟩:=A4.1 h;rw[<-A9 h1,h2];rfl
abbrev rowT(t:Pl.Tree):List AV:=[.d (dI t.root.pat),.d (dI t.root.birth),.d (dI t.root.size),.d (dI t.root.sum),.d (dI t.root.level),.d (dI t.depth),.d (dI t.many)]
attribute [local irreducible] ASeq ADraw AWP Loc AStep Fg.PlanF Fg.Flts EndR Fk.PlanF Fk.Flts Fk.AStepM Fk.Grew Fk.Gs
def eBput(g:Nat)(w:Pl.Sto)(N:Nat)(hN:N<=700000)(hw:w.W N)(t:Pl.Tree)(ht:Qx t)(text:List UInt8)(htx:text.length<=1000000000000):
 DoesE A3 217 [oS g w,.d (dTree t),.d (dS text)] (hS g w) (gS g w) (fun x H=> ∃g',x= .tup [oS g' (Qaz w t text).1,.d (dTree (Qaz w t text).2.1),.d (dB (Qaz w t text).2.2)]/\H=hS g' (Qaz w t text).1):=by
 have hd:=Pm.hid (Qaz.eq_def w t text);have c1:=Qs2 text htx;have hp: ∀x∈QaH text,x.length<=128:=pcs_128 _ _;generalize QaH text=l at*;generalize Qaz w t text=res at*
 by_cases hl:16<l.length
 ·rw[if_pos hl] at hd
  refine kH fun gvs=>?_
  refine Qa 6 (h:=?_)
  repeat' first|refine kS ?_|(show AWP _ (.region 3 _ _) _ _;refine(Fg.awp_drawF (id:=3) [1] [2,3] ?_))|refine kU ?_|refine kV ?_ ?_<;>intro q|fail
  all_goals first|exact absurd hl (by simp at*;omega)|refine QO 5 (hx:=?_);rw[hd.out];exact⟨g,rfl,rfl⟩
 rw[if_neg hl] at hd;refine kH fun gvs=>?_
 repeat' first|refine kA ?_|refine kV ?_ ?_<;>intro q|fail
 all_goals first|exact absurd (by simp at*;omega) hl|skip
 refine Qq (fun m st=> ∃(i g':Nat) (wi:Pl.Sto) (ti:Pl.Tree),i<=l.length/\m=l.length -i/\Hid (Qap w t l 0=Qap wi ti (l.drop i) i)/\Hid (wi.W (N+15*i)/\Qx ti)/\(g<g'∨g'=g/\wi.gone.length=w.gone.length)/\
  st=⟨53,[(10,.d (dI i)),(9,.d (tStrs l)),(3,.ptr 5 0 0),(4,.ptr 6 0 0),(6,.ptr 7 0 0),(7,.ptr 8 0 0),(1000000,.gh (gS g w) gvs)],
   hS g' wi++[.row 0 (rowS g' wi),.row 0 (rowT ti),.row 0 zSt,.row 0 zTr]⟩) [10,9,3,4,6,7,1000000] 9 l.length
  ⟨0,g,w,t,by omega,rfl,Pm.hid rfl,Pm.hid ⟨hw,ht⟩,.inr ⟨rfl,rfl⟩,rfl⟩ (round:=?_)
 rintro m st ⟨i,g',wi,ti,hi,rfl,hF,hG,hg,rfl⟩;obtain⟨hW,hT⟩:=hG.out;simp only[hS,AE,AG]
 repeat refine kG ?_
 cases q:decide ((i:Int)<(l.length:Int))
 ·have hil:i=l.length:=by simp at q;omega
  have hF2:=hF.out;rw[hil,AA (AB _)] at hF2;rw[show Qap wi ti [] l.length=(wi,ti,true) from rfl] at hF2;rw[hF2] at hd;simp only[if_true] at hd;have c3:=pinS (X:=fun g'=> .tup [oS g' (QN wi ti l.length).1,.d (dTree (QN wi ti l.length).2.1),.d (dB (QN wi ti l.length).2.2)]) (C:=fun g2=>(QN wi ti l.length).2.2=false->g2=g') (eCut g' wi (N+15*i) (by omega) hW ti hT l.length (by omega));have hWc:=(cut_W hW hT (many:=l.length) (by omega)).1;generalize QN wi ti l.length=y at*;obtain⟨w2,t2,ok2⟩:=y;simp only at c3 hWc;clear hF hF2 hG;have v0:w2.rows.length=w.rows.length:=by rw[hWc.rows,hw.rows]
  have v1:w2.refs.length=w.refs.length:=by rw[hWc.refs,hw.refs]
  have v2:w2.last.length=w.last.length:=by rw[hWc.last,hw.last]
  repeat' first|refine kS ?_|(refine QC [0,1,2,3,4] c3 cK (k:=?_);rintro _ _ ⟨g2,hg2,hC,rfl,rfl⟩;refine QdE (k:=?_))|refine kU ?_|fail
  all_goals first
   |(have hg4:g<g2∨g2=g/\w2.gone.length=w.gone.length:=by
      rcases hg with h1|⟨h1,h2⟩<;>rcases hg2 with h3|⟨h3,h4⟩<;>first|(left;omega)|(right;exact⟨by omega,h4.trans h2⟩)
     rcases hg4 with hg4|⟨rfl,hg4⟩<;>(refine QO 5 (hx:=?_);rw[hd.out];exact⟨_,rfl,rfl⟩))
 have hil:i<l.length:=by simp at q;omega
 obtain⟨x,hx⟩: ∃x,l[i]? =some x:=⟨_,A5 hil⟩;have hr:=Qs (f:=fun s=>[dS s]) hx;have hxl:=hp x (List.mem_of_getElem? hx);have hs:=QoQ (w:=wi) (t:=ti) hx;have cP:=(ePut g' wi (N+15*i) (by omega) hW ti hT i (by omega) x (by unfold Pm.big;omega)).tag3;have hWc:=Qfb hW hT (k:=i) (by omega) x;have hsm:=QnA (w:=wi) (t:=ti) (k:=i) (text:=x);have hsg:=Qep (w:=wi) (t:=ti) (k:=i) (text:=x);generalize Qn wi ti i x=y at*;obtain⟨w2,t2,ok2⟩:=y;simp only at cP hWc hs hsm hsg;have v0:w2.rows.length=w.rows.length:=by rw[hWc.1.rows,hw.rows]
 have v1:w2.refs.length=w.refs.length:=by rw[hWc.1.refs,hw.refs]
 have v2:w2.last.length=w.last.length:=by rw[hWc.1.last,hw.last]
 have hF2:=hF.out;rw[hs] at hF2;clear hF hs hx c1;cases ok2
 ·simp only[A2,if_false] at cP hF2
  rw[hF2] at hd;simp only[A2,if_false] at hd;have v3:w2.gone.length=wi.gone.length:=by rw[(hsg rfl).1]
  have hse:=hsm rfl g';clear hsm hsg hG
  repeat' first|refine kS ?_|refine qD (iy hr) ?_|(show AWP _ (.region 7 _ _) _ _;refine(Fk.awp_drawG (id:=7) [8,10,11,12,13] [7,14,15] [(12,.row 0 zSt),(13,.row 0 zTr)] [] 7 35 (.tup [oS g' w2,.d (dTree t2),.d (dB false)]) ?_))|refine(Fk.aw_fltA 9 ?_)|refine(Fk.aw_fltA 10 ?_)|refine Fk.aw_callM [0,1,2,3,4] cP cK (k:=kY ?_)|(show AWP _ (.region 9 _ _) _ _;refine(Qa 6 (h:=Fg.awp_drawF (id:=9) [1] [2,3] ?_)))|refine kU ?_|fail
  all_goals first|(rcases hg with hg|⟨rfl,hg⟩<;>(refine QO 5 (hx:=?_);rw[hd.out];exact⟨_,by rw[<-hse];rfl,rfl⟩))
 simp only[if_true] at cP hF2;clear hsm hsg hG
 repeat' first|refine kS ?_|refine qD (iy hr) ?_|(show AWP _ (.region 7 _ _) _ _;refine(Fk.awp_drawG (id:=7) [8,10,11,12,13] [7,14,15] [(12,.row 0 zSt),(13,.row 0 zTr)] [] 7 35 (.tup [oS (g'+1) w2,.d (dTree t2),.d (dB true)]) ?_))|refine(Fk.aw_fltA 9 ?_)|refine(Fk.aw_fltA 10 ?_)|refine Fk.aw_callM [0,1,2,3,4] cP cK (k:=kY ?_)|refine kU ?_|fail
 all_goals first|refine Qen (l.length -(i+1)) [10,9,3,4,6,7,1000000] [0,1,2,3,4,5,6,7,8] (by omega) ⟨i+1,g'+1,w2,t2,by omega,rfl,Pm.hid hF2,Pm.hid ⟨hWc.1.le (by omega),hWc.2⟩,.inl (by omega),rfl⟩
def QsJ{l:List (List UInt8)}{x:List UInt8}(h:l[i]? =some x):Qap w t (l.drop i) k=if(Qn w t k x).2.2 then Qap (Qn w t k x).1 (Qn w t k x).2.1 (l.drop (i+1)) (k+1) else((Qn w t k x).1,t,false):=by
 obtain⟨h1,h2⟩:=A4.1 h;rw[<-A9 h1,h2];rfl
theorem cut0_le(s:List UInt8):(QaQ s).length<=s.length:=by grind [QaQ,List.dropWhile_suffix]
def Qbh(text:List UInt8)(a n:Nat):List (List UInt8):=(List.range n).map fun i=>QaQ ((text.take ((a+i+1)*12)).drop ((a+i)*12))
def Qa8(w:Pl.Sto)(n:Qk)(text:List UInt8)(a b:Nat):Pl.Sto×Qk×Bool:=
 ((Qap w n.tree (Qbh text a (b+1 -a)) a).1,{n with size:=text.length,tree:=(Qap w n.tree (Qbh text a (b+1 -a)) a).2.1},(Qap w n.tree (Qbh text a (b+1 -a)) a).2.2)
abbrev rowN(n:Qk):List AV:=[.d (dI n.kind),.d (dI n.links),.d (dI n.size),.d (dI n.tree.root.pat),.d (dI n.tree.root.birth),.d (dI n.tree.root.size),.d (dI n.tree.root.sum),.d (dI n.tree.root.level),.d (dI n.tree.depth),.d (dI n.tree.many)]
abbrev zNd:List AV:=[.d (.v (.int .i64 0)),.d (.v (.int .i64 0)),.d (.v (.int .i64 0)),.d (.v (.int .i64 0)),.d (.v (.int .i64 0)),.d (.v (.int .i64 0)),.d (.v (.int .i64 0)),.d (.v (.int .i64 0)),.d (.v (.int .i64 0)),.d (.v (.int .i64 0))]
def ePut13(g:Nat)(w:Pl.Sto)(N:Nat)(hN:N<=700000)(hw:w.W N)(n:Qk)(ht:Qx n.tree)(text:List UInt8)(htx:text.length<=100000)(a b:Nat)(hab:a<=b)(hb:b<16)(hbl:b*12<=text.length):
 DoesE A3 225 [oS g w,.d (dNode n),.d (dS text),.d (dI a),.d (dI b)] (hS g w) (gS g w) (fun x H=>x= .tup [oS (g+1) (Qa8 w n text a b).1,.d (dNode (Qa8 w n text a b).2.1),.d (dB (Qa8 w n text a b).2.2)]/\H=hS (g+1) (Qa8 w n text a b).1):=by
 refine DoesE.tag (X:=fun g'=> .tup [oS g' (Qa8 w n text a b).1,.d (dNode (Qa8 w n text a b).2.1),.d (dB (Qa8 w n text a b).2.2)]) (C:=fun _=>True) ?_ Qgg;have hl:(Qbh text a (b+1 -a)).length=b+1 -a:=by simp[Qbh]
 have hp: ∀i,i<b+1 -a->(Qbh text a (b+1 -a))[i]? =some (QaQ ((text.take ((a+i+1)*12)).drop ((a+i)*12))):=fun i hi=>by
  unfold Qbh;rw[List.getElem?_map,List.getElem?_range hi];rfl
 have hd:Hid (∀r,Qap w n.tree (Qbh text a (b+1 -a)) a=r->Qa8 w n text a b=(r.1,{n with size:=text.length,tree:=r.2.1},r.2.2)):=Pm.hid fun r hr=>by rw[<-hr];rfl
 generalize Qbh text a (b+1 -a)=l at*;generalize Qa8 w n text a b=res at*;obtain⟨kind,links,size,t⟩:=n;simp only at ht hd;obtain⟨c,hc⟩: ∃c,c=b+1 -a:=⟨_,rfl⟩;rw[<-hc] at hl hp;have hba:b+1=a+c:=by omega
 refine kH fun gvs=>?_
 repeat refine kA ?_
 refine Qq (fun m st=> ∃(i g':Nat) (wi:Pl.Sto) (ti:Pl.Tree),i<=c/\m=c -i/\Hid (Qap w t l a=Qap wi ti (l.drop i) (a+i))/\Hid (wi.W (N+15*i)/\Qx ti)/\(g<g'∨g'=g/\wi.gone.length=w.gone.length)/\
  st=⟨57,[(13,.d (dI (a+i:Nat))),(2,.d (dS text)),(4,.d (dI b)),(5,.ptr 5 0 0),(6,.ptr 6 0 0),(10,.ptr 7 0 0),(11,.ptr 8 0 0),(1000000,.gh (gS g w) gvs)],
   hS g' wi++[.row 0 (rowS g' wi),.row 0 (rowN ⟨kind,links,text.length,ti⟩),.row 0 zSt,.row 0 zNd]⟩) [13,2,4,5,6,10,11,1000000] 9 c
  ⟨0,g,w,t,by omega,rfl,Pm.hid rfl,Pm.hid ⟨hw,ht⟩,.inr ⟨rfl,rfl⟩,rfl⟩ (round:=?_)
 rintro m st ⟨i,g',wi,ti,hi,rfl,hF,hG,hg,rfl⟩;obtain⟨hW,hT⟩:=hG.out;simp only[hS,AE,AG]
 repeat refine kG ?_
 cases q:decide (((a+i:Nat):Int)<=(b:Int))
 ·have hil:i=c:=by simp at q;omega
  have hF2:=hF.out;rw[hil,AA (by omega)] at hF2
  replace hd:=Pm.hid (hd.out _ (hF2.trans rfl))
  have v0:wi.rows.length=w.rows.length:=by rw[hW.rows,hw.rows]
  have v1:wi.refs.length=w.refs.length:=by rw[hW.refs,hw.refs]
  have v2:wi.last.length=w.last.length:=by rw[hW.last,hw.last]
  clear hF hF2 hG hp
  repeat' first|refine kS ?_|(show AWP _ (.region 11 _ _) _ _;refine(Qa 6 (h:=Fg.awp_drawF (id:=11) [1] [2,3] ?_)))|refine kU ?_|fail
  all_goals first|(rcases hg with hg|⟨rfl,hg⟩<;>(refine QO 5 (hx:=?_);rw[hd.out];exact⟨_,trivial,rfl,rfl⟩))
 have hil:i<c:=by simp at q;omega
 have hx:=hp i hil;have hs:=QsJ (w:=wi) (t:=ti) (k:=a+i) hx;have hmn:(if(((a+i:Nat):Int)+1)*12<(text.length:Int) then(((a+i:Nat):Int)+1)*12 else(text.length:Int))=((min ((a+i+1)*12) text.length:Nat):Int):=by split<;>omega
 have htk:(text.take (((min ((a+i+1)*12) text.length:Nat):Int)).toNat).drop ((((a+i:Nat):Int))*12).toNat=(text.take ((a+i+1)*12)).drop ((a+i)*12):=by
  have e1:(((min ((a+i+1)*12) text.length:Nat):Int)).toNat=min ((a+i+1)*12) text.length:=by omega
  have e2:((((a+i:Nat):Int))*12).toNat=(a+i)*12:=by omega
  rw[e1,e2,<-List.take_take,A0 (AB text.length)]
 have cc:=al10Cut ((text.take ((a+i+1)*12)).drop ((a+i)*12)) (by simp only[A7,A8];unfold Pm.big;omega)
 have hcl:(QaQ ((text.take ((a+i+1)*12)).drop ((a+i)*12))).length<=100000:=by
  refine Nat.le_trans (cut0_le _) ?_;simp only[A7,A8];omega
 rw[<-htk] at cc hs hcl;have hmi:min ((a+i+1)*12) text.length<=text.length/\(a+i)*12<=min ((a+i+1)*12) text.length:=by omega
 clear htk;generalize min ((a+i+1)*12) text.length=ed at*;generalize QaQ ((text.take ((ed:Nat):Int).toNat).drop ((((a+i:Nat):Int))*12).toNat)=x at*;have cP:=(ePut g' wi (N+15*i) (by omega) hW ti hT (a+i) (by omega) x (by unfold Pm.big;omega)).tag3;have hWc:=Qfb hW hT (k:=a+i) (by omega) x;have hsm:=QnA (w:=wi) (t:=ti) (k:=a+i) (text:=x);have hsg:=Qep (w:=wi) (t:=ti) (k:=a+i) (text:=x);generalize Qn wi ti (a+i) x=y at*;obtain⟨w2,t2,ok2⟩:=y;simp only at cP hWc hs hsm hsg;have v0:w2.rows.length=w.rows.length:=by rw[hWc.1.rows,hw.rows]
 have v1:w2.refs.length=w.refs.length:=by rw[hWc.1.refs,hw.refs]
 have v2:w2.last.length=w.last.length:=by rw[hWc.1.last,hw.last]
 have hF2:=hF.out;rw[hs] at hF2;clear hF hs hx hp;cases ok2
 ·simp only[A2,if_false] at cP hF2
  replace hd:=Pm.hid (hd.out _ hF2)
  simp only at hd;have v3:w2.gone.length=wi.gone.length:=by rw[(hsg rfl).1]
  have hse:=hsm rfl g';clear hsm hsg hG
  repeat' first|refine kS ?_|refine qD (Qd3 rfl rfl (by omega)) ?_|refine qS (Qd3 rfl rfl (by omega)) ?_|refine qS (Qku rfl rfl hmn) ?_|refine qD (Qgj rfl rfl rfl rfl (by omega) (by omega) (by omega)) ?_|(show AWP _ (.region 6 _ _) _ _;refine(Fk.awp_drawG (id:=6) [11,13,14,15,16] [10,17,18] [(15,.row 0 zSt),(16,.row 0 zTr)] [] 10 44 (.tup [oS g' w2,.d (dTree t2),.d (dB false)]) ?_))|refine(Fk.aw_fltA 9 ?_)|refine(Fk.aw_fltA 10 ?_)|refine Fk.aw_callM [0,1,2,3,4] cP cK (k:=kY ?_)|(show AWP _ (.region 8 _ _) _ _;refine(Qa 6 (h:=Fg.awp_drawF (id:=8) [1] [2,3] ?_)))|refine kU ?_|fail
  all_goals first|(rcases hg with hg|⟨rfl,hg⟩<;>(refine QO 5 (hx:=?_);rw[hd.out];exact⟨_,trivial,by rw[<-hse];rfl,rfl⟩))
 simp only[if_true] at cP hF2;clear hsm hsg hG
 repeat' first|refine kS ?_|refine qD (Qd3 rfl rfl (by omega)) ?_|refine qS (Qd3 rfl rfl (by omega)) ?_|refine qS (Qku rfl rfl hmn) ?_|refine qD (Qgj rfl rfl rfl rfl (by omega) (by omega) (by omega)) ?_|(show AWP _ (.region 6 _ _) _ _;refine(Fk.awp_drawG (id:=6) [11,13,14,15,16] [10,17,18] [(15,.row 0 zSt),(16,.row 0 zTr)] [] 10 44 (.tup [oS (g'+1) w2,.d (dTree t2),.d (dB true)]) ?_))|refine(Fk.aw_fltA 9 ?_)|refine(Fk.aw_fltA 10 ?_)|refine Fk.aw_callM [0,1,2,3,4] cP cK (k:=kY ?_)|refine kU ?_|fail
 all_goals first|refine Qen (c -(i+1)) [13,2,4,5,6,10,11,1000000] [0,1,2,3,4,5,6,7,8] (by omega) ⟨i+1,g'+1,w2,t2,by omega,rfl,Pm.hid hF2,Pm.hid ⟨hWc.1.le (by omega),hWc.2⟩,.inl (by omega),rfl⟩
def ePut11(g:Nat)(w:Pl.Sto)(N:Nat)(hN:N<=800000)(hw:w.W N)(t:Pl.Tree)(ht:Qx t)(k:Nat)(hk:k<16)(n:Qk)(hn:(Q6 n).length<=Pm.big):
 DoesE A3 27 [oS g w,.d (dTree t),.d (dI k),.d (dNode n)] (hS g w) (gS g w) (fun x H=>x= .tup [oS (if(Qn w t k (Q6 n)).2.2 then g+1 else g) (Qn w t k (Q6 n)).1,.d (dTree (Qn w t k (Q6 n)).2.1),.d (dB (Qn w t k (Q6 n)).2.2)]/\H=hS (if(Qn w t k (Q6 n)).2.2 then g+1 else g) (Qn w t k (Q6 n)).1):=by
 have c1:=QoK n;have c2:=(ePut g w N (by omega) hw t ht k hk (Q6 n) hn).tag3;have hWc:=Qfb hw ht (k:=k) hk (Q6 n);have hsg:=Qep (w:=w) (t:=t) (k:=k) (text:=Q6 n);generalize Qn w t k (Q6 n)=y at*;generalize Q6 n=text at*;obtain⟨w2,t2,ok⟩:=y;simp only at c2 hWc hsg;have v0:w2.rows.length=w.rows.length:=by rw[hWc.1.rows,hw.rows]
 have v1:w2.refs.length=w.refs.length:=by rw[hWc.1.refs,hw.refs]
 have v2:w2.last.length=w.last.length:=by rw[hWc.1.last,hw.last]
 have v3:ok=false->w2.gone.length=w.gone.length:=fun e=>by rw[(hsg e).1]
 clear hsg hWc;cases ok<;>simp only[A2,if_false,if_true,forall_const] at c2 v3
 all_goals
  refine kH fun gvs=>?_
  refine Qa 6 (h:=?_);refine Qa 7 (h:=?_)
  repeat' first|refine kS ?_|(show AWP _ (.region 1 _ _) _ _;refine(Fg.awp_drawF (id:=1) [] [5,9,10] ?_))|refine QeP [0,1,2,3,4] c2 cK (k:=kZ ?_)|refine kU ?_|fail
  all_goals first|refine QO 5 (hx:=?_);exact⟨rfl,rfl⟩
abbrev rowF(g:Nat)(w:Pl.Sto)(t:Pl.Tree)(full:Bool):List AV:=[.osl 0 1 0 64,.osl 1 1 0 64,.osl 2 1 0 64,.d (dI w.txg),.osl 3 g 0 w.gone.length,.d (dI 0),.osl 4 1 0 0,.d (dB w.same),.d (dI t.root.pat),.d (dI t.root.birth),.d (dI t.root.size),.d (dI t.root.sum),.d (dI t.root.level),.d (dI t.depth),.d (dI t.many),.d (dB full)]
abbrev hF(g:Nat)(f:Q4):List Blk:=[.arr 1 1 9 (rS f.1.rows),.arr 1 1 3 (rI f.1.refs),.arr 1 1 3 (rI f.1.last),.arr g 5 31 (f.1.gone.map rPtr),.arr 1 5 31 [],.row 0 (rowF g f.1 f.2.1 f.2.2)]
abbrev gF(g:Nat)(w:Pl.Sto):List AV:=[.osl 0 1 0 64,.osl 1 1 0 64,.osl 2 1 0 64,.osl 3 g 0 w.gone.length,.osl 4 1 0 0,.ptr 5 0 0]
section
variable{σ:Sg}{S:Nat->Prop}{f:Q4}{g1 g2:Nat}{wd:World}{v:Value}
theorem QeQ{g:Nat}{len:Nat}(hk:k≠3)(h:Rel σ S (hF g1 f) wd (.osl k g 0 len) v):Rel σ S (hF g2 f) wd (.osl k g 0 len) v:=by
 cases h with
 |osl _ _ _ _ _ ho g' sz T rows hb hg h=>
  refine .osl _ _ _ _ _ ho g' sz T rows ?_ hg h
  grind
def Qq4{len:Nat}(h:Rel σ S (hF g1 f) wd (.osl 3 g1 0 len) v):Rel σ S (hF g2 f) wd (.osl 3 g2 0 len) v:=by
 cases h with
 |osl _ _ _ _ _ ho g' sz T rows hb hg h=>
  cases hb;exact .osl _ _ _ _ _ ho _ _ _ _ rfl (AB _) fun _=>h rfl
def Qdy{x:D}(h:Rel σ S (hF g1 f) wd (.d x) v):Rel σ S (hF g2 f) wd (.d x) v:=by
 cases h with
 |d _ _ h=>exact .d _ _ h
def QsY(h:Rel σ S (hF g1 f) wd (.ptr 5 0 0) v):Rel σ S (hF g2 f) wd (.ptr 5 0 0) v:=by
 cases h with
 |ptr _ _ _ _ ho g' cells hb hg h=>cases hb;exact .ptr _ _ _ _ ho _ _ rfl (AB _) h
def Qlw(h:Rel σ S (hF g1 f) wd (.tup []) v):Rel σ S (hF g2 f) wd (.tup []) v:=by
 cases h with
 |tup _ cs hl h=>exact .tup _ cs hl fun i d x hd hx=>by cases hd
def QsX{j:Nat}{x:AV}(hj:(rowF g2 f.1 f.2.1 f.2.2)[j]? =some x){y:AV}(hj1:(rowF g1 f.1 f.2.1 f.2.2)[j]? =some y)(h:Rel σ S (hF g1 f) wd y v):Rel σ S (hF g2 f) wd x v:=by
 match j,hj,hj1 with
 |0,hj,hj1=>cases hj;cases hj1;exact QeQ (by decide) h
 |1,hj,hj1=>cases hj;cases hj1;exact QeQ (by decide) h
 |2,hj,hj1=>cases hj;cases hj1;exact QeQ (by decide) h
 |3,hj,hj1=>cases hj;cases hj1;exact Qdy h
 |4,hj,hj1=>cases hj;cases hj1;exact Qq4 h
 |5,hj,hj1=>cases hj;cases hj1;exact Qdy h
 |6,hj,hj1=>cases hj;cases hj1;exact QeQ (by decide) h
 |7,hj,hj1=>cases hj;cases hj1;exact Qdy h
 |8,hj,hj1=>cases hj;cases hj1;exact Qdy h
 |9,hj,hj1=>cases hj;cases hj1;exact Qdy h
 |10,hj,hj1=>cases hj;cases hj1;exact Qdy h
 |11,hj,hj1=>cases hj;cases hj1;exact Qdy h
 |12,hj,hj1=>cases hj;cases hj1;exact Qdy h
 |13,hj,hj1=>cases hj;cases hj1;exact Qdy h
 |14,hj,hj1=>cases hj;cases hj1;exact Qdy h
 |15,hj,hj1=>cases hj;cases hj1;exact Qdy h
 |j+16,hj,hj1=>cases hj
theorem smF_tag{B:Bs}(h:Sm B σ S (hF g1 f) wd):Sm B σ S (hF g2 f) wd:=
 {h with
  blk:=fun k C hC=>by
   match k,hC with
   |0,hC=>cases hC;exact h.blk 0 _ rfl
   |1,hC=>cases hC;exact h.blk 1 _ rfl
   |2,hC=>cases hC;exact h.blk 2 _ rfl
   |3,hC=>cases hC;exact h.blk 3 _ rfl
   |4,hC=>cases hC;exact h.blk 4 _ rfl
   |5,hC=>
    cases hC;rcases h.blk 5 _ rfl with⟨b,cs,T,h1,h2,h3⟩|⟨_,h2⟩
    ·refine .inl ⟨b,cs,T,h1,h2,fun j x hj=>?_⟩
     have hl:j<16:=(A4.1 hj).1;obtain⟨u,hu,hr⟩:=h3 j _ (A5 (l:=rowF g1 f.1 f.2.1 f.2.2) hl);exact⟨u,hu,QsX hj (A5 (l:=rowF g1 f.1 f.2.1 f.2.2) hl) hr⟩
    grind
   |k+6,hC=>cases hC}
end
theorem DoesE.tagF{fn:FuncId}{args:List AV}{f0 f:Q4}{g:Nat}{X:AV}{C:Nat->Prop}(h:DoesE A3 fn args (hF g f0) (gF g w) (fun x H=> ∃g',C g'/\x=X/\H=hF g' f))
 (hX: ∀{σ:Sg} {S:Nat->Prop} {g1 g2:Nat} {wd:World} {v:Value},Rel σ S (hF g1 f) wd X v->Rel σ S (hF g2 f) wd X v):
 DoesE A3 fn args (hF g f0) (gF g w) (fun x H=>x=X/\H=hF (g+1) f):=by
 intro B σ S w0 cargs gvs h1 h2 h3 h4 h5 h6;refine(h B σ S w0 cargs gvs h1 h2 h3 h4 h5 h6).mono ?_;rintro _ _ ⟨x,H1,⟨g',h0,rfl,rfl⟩,h7,v,σ',S',rfl,h8,h9,h10⟩;refine⟨_,_,⟨rfl,rfl⟩,fun i C0 hC=>?_,v,σ',S',rfl,smF_tag h8,hX h9,fun i d v hd hv=>?_⟩
 ·obtain⟨C',e1,e2⟩:=h7 i C0 hC
  match i,hC,e1 with
  |0,hC,e1=>grind
  |1,hC,e1=>grind
  |2,hC,e1=>grind
  |3,hC,e1=>cases hC;exact⟨_,rfl,rfl,rfl,.inl (Nat.lt_succ_self g)⟩
  |4,hC,e1=>grind
  |5,hC,e1=>cases hC;exact⟨_,rfl,.inr ⟨rfl,0,by simp⟩⟩
  |i+6,hC,e1=>cases hC
 ·have e:=h10 i d v hd hv
  match i,hd with
  |0,hd=>cases hd;exact QeQ (by decide) e
  |1,hd=>cases hd;exact QeQ (by decide) e
  |2,hd=>cases hd;exact QeQ (by decide) e
  |3,hd=>cases hd;cases e with
   |osl _ _ _ _ _ ho g2 sz T rows hb hg h=>exact .osl _ _ _ _ _ ho _ _ _ _ rfl (Nat.le_succ g) fun h=>absurd h (by omega)
  |4,hd=>cases hd;exact QeQ (by decide) e
  |5,hd=>cases hd;exact QsY e
  |i+6,hd=>cases hd
def ePutF(g:Nat)(f:Q4)(N:Nat)(hN:N<=800000)(hw:f.1.W N)(ht:Qx f.2.1)(k:Nat)(hk:k<16)(n:Qk)(hn:(Q6 n).length<=Pm.big):
 DoesE A3 161 [.ptr 5 0 0,.d (dI k),.d (dNode n)] (hF g f) (gF g f.1) (fun x H=>x= .tup []/\H=hF (g+1) (Qaq f k n)):=by
 refine DoesE.tagF (C:=fun _=>True) ?_ Qlw;obtain⟨w,t,full⟩:=f;simp only at hw ht⊢;cases full
 ·have hd:Hid (Qaq (w,t,false) k n=((Qn w t k (Q6 n)).1,(Qn w t k (Q6 n)).2.1,!(Qn w t k (Q6 n)).2.2)):=Pm.hid rfl
  generalize Qaq (w,t,false) k n=res at*;have cP:=ePut11 g w N hN hw t ht k hk n hn;have hWc:=(Qfb hw ht hk (Q6 n)).1;have hsg:=Qep (w:=w) (t:=t) (k:=k) (text:=Q6 n);generalize Qn w t k (Q6 n)=y at*;obtain⟨w2,t2,ok2⟩:=y;simp only at cP hWc hsg hd;have v0:w2.rows.length=w.rows.length:=by rw[hWc.rows,hw.rows]
  have v1:w2.refs.length=w.refs.length:=by rw[hWc.refs,hw.refs]
  have v2:w2.last.length=w.last.length:=by rw[hWc.last,hw.last]
  have v3:ok2=false->w2.gone.length=w.gone.length:=fun e=>by rw[(hsg e).1]
  clear hsg hWc hn;cases ok2<;>simp only[A2,if_false,if_true,forall_const] at cP v3
  ·refine kH fun gvs=>?_
   refine Qa 6 (h:=?_)
   repeat' first|refine kS ?_|(show AWP _ (.region 2 _ _) _ _;refine(Fk.awp_drawG (id:=2) [11,13,14,15,16] [10,17,18] [(15,.row 0 zSt),(16,.row 0 zTr)] [] 10 24 (.tup [oS g w2,.d (dTree t2),.d (dB false)]) ?_))|refine(Fk.aw_fltA 7 ?_)|refine(Fk.aw_fltA 8 ?_)|refine Fk.aw_callM [0,1,2,3,4] cP cK (k:=kY ?_)|refine kU ?_|fail
   all_goals first|refine endR0 6 (hx:=?_);rw[hd.out];exact⟨_,trivial,rfl,rfl⟩
  ·refine kH fun gvs=>?_
   refine Qa 6 (h:=?_)
   repeat' first|refine kS ?_|(show AWP _ (.region 2 _ _) _ _;refine(Fk.awp_drawG (id:=2) [11,13,14,15,16] [10,17,18] [(15,.row 0 zSt),(16,.row 0 zTr)] [] 10 24 (.tup [oS (g+1) w2,.d (dTree t2),.d (dB true)]) ?_))|refine(Fk.aw_fltA 7 ?_)|refine(Fk.aw_fltA 8 ?_)|refine Fk.aw_callM [0,1,2,3,4] cP cK (k:=kY ?_)|refine kU ?_|fail
   all_goals first|refine endR0 6 (hx:=?_);rw[hd.out];exact⟨_,trivial,rfl,rfl⟩
 ·refine kH fun gvs=>?_
  refine Qa 6 (h:=?_)
  repeat refine kA ?_
  all_goals first|refine Qo7 6 (hx:=?_);exact⟨g,trivial,rfl,rfl⟩
def Qco(all text:List UInt8)(a:Nat):List UInt8:=(all++A1 (a -all.length) 0).take a++text++(all++A1 (a -all.length) 0).drop (min (all++A1 (a -all.length) 0).length (a+text.length))
theorem over_ge(all text:List UInt8)(a:Nat):a+text.length<=(Qco all text a).length/\(Qco all text a).length<=all.length+2*a+text.length:=by grind [Qco]
def Qtf(all text:List UInt8)(a:Nat):Qco all text a=(all++A1 (a -all.length) 0).take ((a:Nat):Int).toNat++text++(all++A1 (a -all.length) 0).drop ((min (all++A1 (a -all.length) 0).length (a+text.length):Nat):Int).toNat:=by
 rw[AD,AD];rfl
theorem Qmw: ∀(l:List (List UInt8)) (k:Nat) {w:Pl.Sto} {t:Pl.Tree} {N:Nat},w.W N->Qx t->k+l.length<=16->(Qap w t l k).1.W (N+15*l.length)/\Qx (Qap w t l k).2.1
 |[],_,_,_,_,h,ht,_=>⟨h,ht⟩
 |x::l,k,w,t,N,h,ht,hk=>by
  rw[AF] at hk⊢;have h1:=Qfb h ht (k:=k) (by omega) x;simp only[Qap];split
  ·have h2:=Qmw l (k+1) h1.1 h1.2 (by omega)
   grind
  ·exact⟨h1.1.le (by omega),ht⟩
theorem Qic{N:Nat}(h:w.W N){n:Qk}(ht:Qx n.tree){text:List UInt8}{a b:Nat}(hb:a<=b/\b<16):(Qa8 w n text a b).1.W (N+240)/\Qx (Qa8 w n text a b).2.1.tree:=by
 have hl:(Qbh text a (b+1 -a)).length=b+1 -a:=by simp[Qbh]
 have:=Qmw (Qbh text a (b+1 -a)) a h ht (by omega);exact⟨this.1.le (by omega),this.2⟩
def Qb1(w:Pl.Sto)(n:Qk)(a:Nat)(text:List UInt8):Pl.Sto×Qk×Bool:=
 if text=[] then(w,n,true) else Qa8 w n (Qco (QbX n.size (Qc w.st n.tree) n.tree.many.toNat) text a) (a/12) ((a+text.length -1)/12)
theorem QtI(g:Nat)(w:Pl.Sto)(N:Nat)(hN:N<=700000)(hw:w.W N)(n:Qk)(ht:Qx n.tree)(hs:0<=n.size/\n.size<=2048)(a:Nat)(text:List UInt8)(hat:a+text.length<=192):
 DoesE A3 172 [oS g w,.d (dNode n),.d (dI a),.d (dS text)] (hS g w) (gS g w) (fun x H=>x= .tup [oS (g+1) (Qb1 w n a text).1,.d (dNode (Qb1 w n a text).2.1),.d (dB (Qb1 w n a text).2.2)]/\H=hS (g+1) (Qb1 w n a text).1):=by
 refine DoesE.tag (X:=fun g'=> .tup [oS g' (Qb1 w n a text).1,.d (dNode (Qb1 w n a text).2.1),.d (dB (Qb1 w n a text).2.2)]) (C:=fun _=>True) ?_ Qgg;have hd:=Pm.hid (Qb1.eq_def w n a text);generalize Qb1 w n a text=res at*
 by_cases h0:text=[]
 ·rw[if_pos h0] at hd
  subst h0;refine kH fun gvs=>?_
  refine Qa 6 (h:=?_)
  repeat' first|refine kS ?_|refine qS (Qed (m:=[]) rfl rfl rfl) ?_|(show AWP _ (.region 2 _ _) _ _;refine(Fg.awp_drawF (id:=2) [1] [2,3] ?_))|refine kU ?_|fail
  all_goals first|refine QO 5 (hx:=?_);rw[hd.out];exact⟨g,trivial,rfl,rfl⟩
 rw[if_neg h0] at hd;have hq:(text==[])=false:=by simpa using h0
 have hpos:0<text.length:=List.length_pos_iff.2 h0;have c1:=Qmq w.st hw.good n ht hs;have hle:=Qqs n.size (Qc w.st n.tree) (texts_le w.st hw.good n.tree) n.tree.many.toNat;have hmh:=ht.manyHi;have hov:=over_ge (QbX n.size (Qc w.st n.tree) n.tree.many.toNat) text a;have cP:=ePut13 g w N hN hw n ht (Qco (QbX n.size (Qc w.st n.tree) n.tree.many.toNat) text a) (by omega) (a/12) ((a+text.length -1)/12) (by omega) (by omega) (by omega);generalize QbX n.size (Qc w.st n.tree) n.tree.many.toNat=all at*;have hWc:=(Qic hw ht (text:=Qco all text a) (a:=a/12) (b:=(a+text.length -1)/12) (by omega)).1;generalize Qa8 w n (Qco all text a) (a/12) ((a+text.length -1)/12)=y at*;rw[Qtf,show(((a/12:Nat)):Int)=(a:Int)/12 by omega,show((((a+text.length -1)/12:Nat)):Int)=((a:Int)+text.length -1)/12 by omega] at cP;have cz:=alZeros ((a:Int) -all.length) (by omega);have hz:((a:Int) -all.length).toNat=a -all.length:=by omega
 rw[hz] at cz;have hzl:(A1 (a -all.length) (0:UInt8)).length=a -all.length:=List.length_replicate;generalize A1 (a -all.length) (0:UInt8)=zs at*;have hmn:(if(a:Int)+(text.length:Int)<((all++zs).length:Int) then(a:Int)+(text.length:Int) else((all++zs).length:Int))=((min (all++zs).length (a+text.length):Nat):Int):=by split<;>omega
 have hal:(all++zs).length=all.length+zs.length:=A6;have hed:min (all++zs).length (a+text.length)<=(all++zs).length:=by omega
 generalize min (all++zs).length (a+text.length)=ed at*;obtain⟨w2,n2,ok2⟩:=y;have v0:w2.rows.length=w.rows.length:=by rw[hWc.rows,hw.rows]
 have v1:w2.refs.length=w.refs.length:=by rw[hWc.refs,hw.refs]
 have v2:w2.last.length=w.last.length:=by rw[hWc.last,hw.last]
 simp only at cP;clear hWc;refine kH fun gvs=>?_
 refine Qa 6 (h:=?_)
 repeat' first|refine kS ?_|refine qS (Qed (m:=[]) rfl rfl hq) ?_|refine qS (Qdh cK c1 hw) ?_|refine qD (Qdf rfl rfl (by first|omega|(simp only[A6,A8,A7];omega))) ?_|refine qS (Qdf rfl rfl (by first|omega|(simp only[A6,A8,A7];omega))) ?_|refine qS (Qku rfl rfl hmn) ?_|refine qD (Qfj rfl rfl rfl (by omega) (by omega)) ?_|refine qD (Qfi rfl rfl rfl (by omega) (by omega)) ?_|refine qS (Qg6 rfl rfl (by omega) (by omega)) ?_|refine QC [0,1,2,3,4] cP cK (k:=kX ?_)|refine kU ?_|fail
 all_goals first|refine QO 5 (hx:=?_);rw[hd.out];exact⟨_,trivial,rfl,rfl⟩
theorem Qeb(n:Qk):(Q6 n).length<=Pm.big:=by
 have:(Q6 n).length<=2048:=by
  unfold Q6;split
  ·unfold Pl.fp Pl.Qdi
   grind
  ·simp
 unfold Pm.big;omega
section
variable{P:Program}{dst:Option Tmp}{ty:TypeId}{pos:String}{after:Array Edge}{gd:Option (Nat×Bool)}{env:List (Nat×AV)}{H:List Blk}{f:FuncId}{xs:Array Operand}{tys:Array TypeId}{ds:List D}{x:D}{fs:Q4}{N g:Nat}{T0 T1 T2 T3 T4:TypeId}{u:Operand}{us:List Operand}
def QY(hf: ∀args w,(callFunc f args).run P w= .ok (.enter f args) w)(h:Pure P f (.pd (rFs fs.1 fs.2.1 fs.2.2)::ds) x)(hw:fs.1.W N)(hx:x.flat=true:=by rfl)(hxs:xs.toList=u::us:=by rfl)
 (hu:aval env u= .ptr 5 0 0:=by rfl)
 (h0:H[0]? =some (.arr 1 1 T0 (rS fs.1.rows)):=by rfl) (h1:H[1]? =some (.arr 1 1 T1 (rI fs.1.refs)):=by rfl) (h2:H[2]? =some (.arr 1 1 T2 (rI fs.1.last)):=by rfl) (h3:H[3]? =some (.arr g 5 T3 (fs.1.gone.map rPtr)):=by rfl) (h4:H[4]? =some (.arr 1 5 T4 []):=by rfl)
 (h5:H[5]? =some (.row 0 (rowF g fs.1 fs.2.1 fs.2.2)):=by rfl)
 (hd:allD (us.map (aval env))=some ds:=by rfl) (hwk:D.weakL ds=ds:=by rfl):Loc P ⟨dst,.call ⟨.value (.func f),xs,tys⟩,ty,pos,after,gd⟩ env H (.d x) none:=by
 refine QfR hf (Pure.arg (l:=xs.toList.map fun u=>(aval env u).ice H 4) h ?_) hx rfl;rw[hxs,AH,Qoc hd,hu];show(AV.ice H 4 _).weak::D.weakL ds=_;rw[hwk]
 congr 1
 simp only[AV.ice,h5,if_true,List.drop_zero,AH,List.map_nil,h0,h1,h2,h3,h4];rw[A0 (show(rS fs.1.rows).length<=64 by simp[hw.rows]),A0 (show(rI fs.1.refs).length<=64 by simp[hw.refs]),A0 (show(rI fs.1.last).length<=64 by simp[hw.last]),A0 (show(fs.1.gone.map rPtr).length<=fs.1.gone.length by simp)];rfl
end
def blob_le(s:Pm.Store)(hg:QU s)(ht:Qx t):(QaL (Qc s t)).1.length<=16*128:=by
 have hl:=texts_len s ht;have hm:=ht.manyHi;have hle:=texts_le s hg t;unfold QaL;split
 ·simp only
  have: ∀l:List (List UInt8),(∀x∈l,x.length<=128)->l.flatten.length<=l.length*128:=by
   intro l;induction l with
   |nil=>intro _;simp
   |cons a l ih=>intro h;have:=ih fun x hx=>h x (List.mem_cons_of_mem _ hx);have:=h a List.mem_cons_self;rw[List.flatten_cons,A6,AF];omega
  have:=this _ hle;omega
 ·simp
def eEnts15(g:Nat)(w:Pl.Sto)(N:Nat)(hw:w.W N)(n:Qk):
 DoesE A3 192 [oS g w,.d (dNode n)] (hS g w) (gS g w) (fun x H=>x= .tup [.d (tEnts (Qf w.st n).1),.d (dB (Qf w.st n).2)]/\H=hS g w):=by
 have hd:=Pm.hid (Qf.eq_def w.st n);have c1:=aNodeOk n;have c2:=al8Ok w.st hw.good n.tree;generalize Qf w.st n=res at*;cases h1:QL w.st n.tree
 ·rw[h1] at c2 hd
  replace hd:Hid (res=([],false)):=Pm.hid (by rw[hd.out];simp)
  generalize QF n=ok at*;refine kH fun gvs=>?_
  refine Qa 6 (h:=?_)
  repeat' first|refine kS ?_|refine qS (Qdh cK c2 hw) ?_|refine kU ?_|refine kV ?_ ?_<;>intro q|fail
  all_goals first|refine Qa 7 (h:=?_);refine Qdz 5 (hx:=?_);rw[hd.out];exact⟨rfl,rfl⟩
 have ht:=Qdx h1;have c3:=al9Get w.st hw.good n.tree ht;have c4:=Qjt (QaL (Qc w.st n.tree)).1 (by have:=blob_le w.st hw.good ht;omega);rw[h1] at c2 hd;generalize QF n=ok at*;generalize QaL (Qc w.st n.tree)=bb at*;obtain⟨tx,fine⟩:=bb;simp only at c4 hd;generalize QbW tx=r at*;obtain⟨es,good⟩:=r;clear h1 ht;refine kH fun gvs=>?_
 refine Qa 6 (h:=?_)
 repeat' first|refine kS ?_|refine qS (Qdh cK c2 hw) ?_|refine qS (Qdh cK c3 hw) ?_|refine kU ?_|refine kV ?_ ?_<;>intro q|fail
 all_goals first
  |(have e:res=([],false):=by
     rw[hd.out];clear c1 c2 c3 c4 hd;simp only[Bool.not_eq_true',AC,bne_iff_ne,bne_eq_false_iff_eq] at*;simp[*]
     done
    refine Qa 7 (h:=?_);refine Qdz 5 (hx:=?_);rw[e];exact⟨rfl,rfl⟩)
  |(have e:res=(es,good):=by
     rw[hd.out];clear c1 c2 c3 c4 hd;simp only[AC,bne_iff_ne,bne_eq_false_iff_eq] at*;simp[*]
     done
    refine Qdz 5 (hx:=?_);rw[e];exact⟨rfl,rfl⟩)
def Qfn(g:Nat)(f:Q4)(N:Nat)(hw:f.1.W N)(ht:Qx f.2.1)(k:Nat):
 DoesE A3 160 [.ptr 5 0 0,.d (dI k)] (hF g f) (gF g f.1) (fun x H=>x= .d (tEnts (Qf f.1.st (Ql f k)).1)/\H=hF g f):=by
 obtain⟨w,t,full⟩:=f;simp only at hw ht⊢;have c1:=aNode w N hw t ht full k;have c2:=eEnts15 g w N hw (Ql (w,t,full) k);rw[show(Q5 w.st t k).1=Ql (w,t,full) k from rfl] at c1;generalize Ql (w,t,full) k=n at*;generalize Qf w.st n=r at*;refine kH fun gvs=>?_
 repeat' first|refine kS ?_|(show AWP _ (.region 1 _ _) _ _;refine(Fg.awp_drawF (id:=1) [] [7] ?_))|refine qD (QY (fs:=(w,t,full)) cK c1 hw) ?_|refine QeP [0,1,2,3,4] c2 cK (k:=kZ ?_)|refine kU ?_|fail
 all_goals first|refine Q1 6 (hx:=?_);exact⟨rfl,rfl⟩

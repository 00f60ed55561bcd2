/- Of fsk_card; no condition. -/
import Derived.Test.YtfmnpmhadmcdkaaGreatDoorS27
set_option linter.all false
set_option maxRecDepth 100000
set_option maxHeartbeats 16000000
open Bool renaming false_eq_true->A7,not_eq_false'->AD
open Go.Proofs.Tryz renaming prog->A3
open Int renaming toNat_natCast->A2
open List renaming take_of_length_le->A0,replicate->A1,length_append->A4,length_drop->A5,length_take->A6,getElem?_eq_some_iff->A8,getElem_cons_drop->A9,drop_of_length_le->AA,mem_cons_of_mem->AB,mem_cons_self->AC,cons_append->AE,length_cons->AF,nil_append->AG,map_cons->AH
open Nat renaming le_refl->AI
namespace Go.Proofs.YtfmnpmhadmcdkaaGreatDoor
noncomputable section
open Go.RowKit
namespace Aw
variable{k i:Nat}{t:Pl.Tree}{w:Pl.Sto}
theorem pcs_128: ∀(n:Nat) (s:List UInt8),∀x∈Qcs n s,x.length<=128
 :=by intro l;induction l<;>grind [Qcs]
theorem Qni{text:List UInt8}(h:(Qm w t k text).2.2=false)(g:Nat):oS g w=oS g (Qm w t k text).1:=by
 obtain⟨z1,z2,z3⟩:=Qeh h
 grind
def Qow{l:List (List UInt8)}{x:List UInt8}(h:l[i]? =some x):Qao w t (l.drop i) i=if(Qm w t i x).2.2 then Qao (Qm w t i x).1 (Qm w t i x).2.1 (l.drop (i+1)) (i+1) else((Qm w t i x).1,t,false):=by
 obtain⟨h1,h2⟩:=A8.1 h;rw[<-A9 h1,h2];rfl
abbrev rowT(t:Pl.Tree):List AV:=[.d (dI t.root.pat),.d (dI t.root.birth),.d (dI t.root.size),.d (dI t.root.sum),.d (dI t.root.level),.d (dI t.depth),.d (dI t.many)]
attribute [local irreducible] ASeq ADraw AWP Loc AStep Fg.PlanF Fg.Flts EndR Fk.PlanF Fk.Flts Fk.AStepM Fk.Grew Fk.Gs
def eBput(g:Nat)(w:Pl.Sto)(N:Nat)(hN:N<=700000)(hw:w.W N)(t:Pl.Tree)(ht:Qx t)(text:List UInt8)(htx:text.length<=1000000000000):
 DoesE A3 279 [oS g w,.d (dTree t),.d (dS text)] (hS g w) (gS g w) (fun x H=> ∃g',x= .tup [oS g' (Qax w t text).1,.d (dTree (Qax w t text).2.1),.d (dB (Qax w t text).2.2)]/\H=hS g' (Qax w t text).1):=by
 have hd:=Pm.hid (Qax.eq_def w t text);have c1:=QrY text htx;have hp: ∀x∈QaG text,x.length<=128:=pcs_128 _ _;generalize QaG text=l at*;generalize Qax w t text=res at*
 by_cases hl:16<l.length
 ·rw[if_pos hl] at hd
  refine kH fun gvs=>?_
  refine Qa 6 (h:=?_)
  repeat' first|refine kS ?_|(show AWP _ (.region 3 _ _) _ _;refine(Fg.awp_drawF (id:=3) [1] [2,3] ?_))|refine kU ?_|refine kV ?_ ?_<;>intro q|fail
  all_goals first|exact absurd hl (by simp at*;omega)|refine QN 5 (hx:=?_);rw[hd.out];exact⟨g,rfl,rfl⟩
 rw[if_neg hl] at hd;refine kH fun gvs=>?_
 repeat' first|refine kA ?_|refine kV ?_ ?_<;>intro q|fail
 all_goals first|exact absurd (by simp at*;omega) hl|skip
 refine Qo (fun m st=> ∃(i g':Nat) (wi:Pl.Sto) (ti:Pl.Tree),i<=l.length/\m=l.length -i/\Hid (Qao w t l 0=Qao wi ti (l.drop i) i)/\Hid (wi.W (N+15*i)/\Qx ti)/\(g<g'∨g'=g/\wi.gone.length=w.gone.length)/\
  st=⟨53,[(10,.d (dI i)),(9,.d (tStrs l)),(3,.ptr 5 0 0),(4,.ptr 6 0 0),(6,.ptr 7 0 0),(7,.ptr 8 0 0),(1000000,.gh (gS g w) gvs)],
   hS g' wi++[.row 0 (rowS g' wi),.row 0 (rowT ti),.row 0 zSt,.row 0 zTr]⟩) [10,9,3,4,6,7,1000000] 9 l.length
  ⟨0,g,w,t,by omega,rfl,Pm.hid rfl,Pm.hid ⟨hw,ht⟩,.inr ⟨rfl,rfl⟩,rfl⟩ (round:=?_)
 rintro m st ⟨i,g',wi,ti,hi,rfl,hF,hG,hg,rfl⟩;obtain⟨hW,hT⟩:=hG.out;simp only[hS,AE,AG]
 repeat refine kG ?_
 cases q:decide ((i:Int)<(l.length:Int))
 ·have hil:i=l.length:=by simp at q;omega
  have hF2:=hF.out;rw[hil,AA (AI _)] at hF2;rw[show Qao wi ti [] l.length=(wi,ti,true) from rfl] at hF2;rw[hF2] at hd;simp only[if_true] at hd;have c3:=pinS (X:=fun g'=> .tup [oS g' (QM wi ti l.length).1,.d (dTree (QM wi ti l.length).2.1),.d (dB (QM wi ti l.length).2.2)]) (C:=fun g2=>(QM wi ti l.length).2.2=false->g2=g') (eCut g' wi (N+15*i) (by omega) hW ti hT l.length (by omega));have hWc:=(cut_W hW hT (many:=l.length) (by omega)).1;generalize QM wi ti l.length=y at*;obtain⟨w2,t2,ok2⟩:=y;simp only at c3 hWc;clear hF hF2 hG;have v0:w2.rows.length=w.rows.length:=by rw[hWc.rows,hw.rows]
  have v1:w2.refs.length=w.refs.length:=by rw[hWc.refs,hw.refs]
  have v2:w2.last.length=w.last.length:=by rw[hWc.last,hw.last]
  repeat' first|refine kS ?_|(refine QA [0,1,2,3,4] c3 cK (k:=?_);rintro _ _ ⟨g2,hg2,hC,rfl,rfl⟩;refine Qd1 (k:=?_))|refine kU ?_|fail
  all_goals first
   |(have hg4:g<g2∨g2=g/\w2.gone.length=w.gone.length:=by
      rcases hg with h1|⟨h1,h2⟩<;>rcases hg2 with h3|⟨h3,h4⟩<;>first|(left;omega)|(right;exact⟨by omega,h4.trans h2⟩)
     rcases hg4 with hg4|⟨rfl,hg4⟩<;>(refine QN 5 (hx:=?_);rw[hd.out];exact⟨_,rfl,rfl⟩))
 have hil:i<l.length:=by simp at q;omega
 obtain⟨x,hx⟩: ∃x,l[i]? =some x:=⟨_,List.getElem?_eq_getElem hil⟩;have hr:=Qt (f:=fun s=>[dS s]) hx;have hxl:=hp x (List.mem_of_getElem? hx);have hs:=Qow (w:=wi) (t:=ti) hx;have cP:=(ePut g' wi (N+15*i) (by omega) hW ti hT i (by omega) x (by unfold Pm.big;omega)).tag3;have hWc:=QeV hW hT (k:=i) (by omega) x;have hsm:=Qni (w:=wi) (t:=ti) (k:=i) (text:=x);have hsg:=Qeh (w:=wi) (t:=ti) (k:=i) (text:=x);generalize Qm wi ti i x=y at*;obtain⟨w2,t2,ok2⟩:=y;simp only at cP hWc hs hsm hsg;have v0:w2.rows.length=w.rows.length:=by rw[hWc.1.rows,hw.rows]
 have v1:w2.refs.length=w.refs.length:=by rw[hWc.1.refs,hw.refs]
 have v2:w2.last.length=w.last.length:=by rw[hWc.1.last,hw.last]
 have hF2:=hF.out;rw[hs] at hF2;clear hF hs hx c1;cases ok2
 ·simp only[A7,if_false] at cP hF2
  rw[hF2] at hd;simp only[A7,if_false] at hd;have v3:w2.gone.length=wi.gone.length:=by rw[(hsg rfl).1]
  have hse:=hsm rfl g';clear hsm hsg hG
  repeat' first|refine kS ?_|refine qD (iy hr) ?_|(show AWP _ (.region 7 _ _) _ _;refine(Fk.awp_drawG (id:=7) [8,10,11,12,13] [7,14,15] [(12,.row 0 zSt),(13,.row 0 zTr)] [] 7 35 (.tup [oS g' w2,.d (dTree t2),.d (dB false)]) ?_))|refine(Fk.aw_fltA 9 ?_)|refine(Fk.aw_fltA 10 ?_)|refine Fk.aw_callM [0,1,2,3,4] cP cK (k:=kY ?_)|(show AWP _ (.region 9 _ _) _ _;refine(Qa 6 (h:=Fg.awp_drawF (id:=9) [1] [2,3] ?_)))|refine kU ?_|fail
  all_goals first|(rcases hg with hg|⟨rfl,hg⟩<;>(refine QN 5 (hx:=?_);rw[hd.out];exact⟨_,by rw[<-hse];rfl,rfl⟩))
 simp only[if_true] at cP hF2;clear hsm hsg hG
 repeat' first|refine kS ?_|refine qD (iy hr) ?_|(show AWP _ (.region 7 _ _) _ _;refine(Fk.awp_drawG (id:=7) [8,10,11,12,13] [7,14,15] [(12,.row 0 zSt),(13,.row 0 zTr)] [] 7 35 (.tup [oS (g'+1) w2,.d (dTree t2),.d (dB true)]) ?_))|refine(Fk.aw_fltA 9 ?_)|refine(Fk.aw_fltA 10 ?_)|refine Fk.aw_callM [0,1,2,3,4] cP cK (k:=kY ?_)|refine kU ?_|fail
 all_goals first|refine Qef (l.length -(i+1)) [10,9,3,4,6,7,1000000] [0,1,2,3,4,5,6,7,8] (by omega) ⟨i+1,g'+1,w2,t2,by omega,rfl,Pm.hid hF2,Pm.hid ⟨hWc.1.le (by omega),hWc.2⟩,.inl (by omega),rfl⟩
def Qsp{l:List (List UInt8)}{x:List UInt8}(h:l[i]? =some x):Qao w t (l.drop i) k=if(Qm w t k x).2.2 then Qao (Qm w t k x).1 (Qm w t k x).2.1 (l.drop (i+1)) (k+1) else((Qm w t k x).1,t,false):=by
 obtain⟨h1,h2⟩:=A8.1 h;rw[<-A9 h1,h2];rfl
theorem cut0_le(s:List UInt8):(QaP s).length<=s.length:=by grind [QaP,List.dropWhile_suffix]
def Qbe(text:List UInt8)(a n:Nat):List (List UInt8):=(List.range n).map fun i=>QaP ((text.take ((a+i+1)*12)).drop ((a+i)*12))
def Qa8(w:Pl.Sto)(n:Qj)(text:List UInt8)(a b:Nat):Pl.Sto×Qj×Bool:=
 ((Qao w n.tree (Qbe text a (b+1 -a)) a).1,{n with size:=text.length,tree:=(Qao w n.tree (Qbe text a (b+1 -a)) a).2.1},(Qao w n.tree (Qbe text a (b+1 -a)) a).2.2)
abbrev rowN(n:Qj):List AV:=[.d (dI n.kind),.d (dI n.links),.d (dI n.size),.d (dI n.tree.root.pat),.d (dI n.tree.root.birth),.d (dI n.tree.root.size),.d (dI n.tree.root.sum),.d (dI n.tree.root.level),.d (dI n.tree.depth),.d (dI n.tree.many)]
abbrev zNd:List AV:=[.d (.v (.int .i64 0)),.d (.v (.int .i64 0)),.d (.v (.int .i64 0)),.d (.v (.int .i64 0)),.d (.v (.int .i64 0)),.d (.v (.int .i64 0)),.d (.v (.int .i64 0)),.d (.v (.int .i64 0)),.d (.v (.int .i64 0)),.d (.v (.int .i64 0))]
def ePut13(g:Nat)(w:Pl.Sto)(N:Nat)(hN:N<=700000)(hw:w.W N)(n:Qj)(ht:Qx n.tree)(text:List UInt8)(htx:text.length<=100000)(a b:Nat)(hab:a<=b)(hb:b<16)(hbl:b*12<=text.length):
 DoesE A3 284 [oS g w,.d (dNode n),.d (dS text),.d (dI a),.d (dI b)] (hS g w) (gS g w) (fun x H=>x= .tup [oS (g+1) (Qa8 w n text a b).1,.d (dNode (Qa8 w n text a b).2.1),.d (dB (Qa8 w n text a b).2.2)]/\H=hS (g+1) (Qa8 w n text a b).1):=by
 refine DoesE.tag (X:=fun g'=> .tup [oS g' (Qa8 w n text a b).1,.d (dNode (Qa8 w n text a b).2.1),.d (dB (Qa8 w n text a b).2.2)]) (C:=fun _=>True) ?_ QfU;have hl:(Qbe text a (b+1 -a)).length=b+1 -a:=by simp[Qbe]
 have hp: ∀i,i<b+1 -a->(Qbe text a (b+1 -a))[i]? =some (QaP ((text.take ((a+i+1)*12)).drop ((a+i)*12))):=fun i hi=>by
  unfold Qbe;rw[List.getElem?_map,List.getElem?_range hi];rfl
 have hd:Hid (∀r,Qao w n.tree (Qbe text a (b+1 -a)) a=r->Qa8 w n text a b=(r.1,{n with size:=text.length,tree:=r.2.1},r.2.2)):=Pm.hid fun r hr=>by rw[<-hr];rfl
 generalize Qbe text a (b+1 -a)=l at*;generalize Qa8 w n text a b=res at*;obtain⟨kind,links,size,t⟩:=n;simp only at ht hd;obtain⟨c,hc⟩: ∃c,c=b+1 -a:=⟨_,rfl⟩;rw[<-hc] at hl hp;have hba:b+1=a+c:=by omega
 refine kH fun gvs=>?_
 repeat refine kA ?_
 refine Qo (fun m st=> ∃(i g':Nat) (wi:Pl.Sto) (ti:Pl.Tree),i<=c/\m=c -i/\Hid (Qao w t l a=Qao wi ti (l.drop i) (a+i))/\Hid (wi.W (N+15*i)/\Qx ti)/\(g<g'∨g'=g/\wi.gone.length=w.gone.length)/\
  st=⟨57,[(13,.d (dI (a+i:Nat))),(2,.d (dS text)),(4,.d (dI b)),(5,.ptr 5 0 0),(6,.ptr 6 0 0),(10,.ptr 7 0 0),(11,.ptr 8 0 0),(1000000,.gh (gS g w) gvs)],
   hS g' wi++[.row 0 (rowS g' wi),.row 0 (rowN ⟨kind,links,text.length,ti⟩),.row 0 zSt,.row 0 zNd]⟩) [13,2,4,5,6,10,11,1000000] 9 c
  ⟨0,g,w,t,by omega,rfl,Pm.hid rfl,Pm.hid ⟨hw,ht⟩,.inr ⟨rfl,rfl⟩,rfl⟩ (round:=?_)
 rintro m st ⟨i,g',wi,ti,hi,rfl,hF,hG,hg,rfl⟩;obtain⟨hW,hT⟩:=hG.out;simp only[hS,AE,AG]
 repeat refine kG ?_
 cases q:decide (((a+i:Nat):Int)<=(b:Int))
 ·have hil:i=c:=by simp at q;omega
  have hF2:=hF.out;rw[hil,AA (by omega)] at hF2
  replace hd:=Pm.hid (hd.out _ (hF2.trans rfl))
  have v0:wi.rows.length=w.rows.length:=by rw[hW.rows,hw.rows]
  have v1:wi.refs.length=w.refs.length:=by rw[hW.refs,hw.refs]
  have v2:wi.last.length=w.last.length:=by rw[hW.last,hw.last]
  clear hF hF2 hG hp
  repeat' first|refine kS ?_|(show AWP _ (.region 11 _ _) _ _;refine(Qa 6 (h:=Fg.awp_drawF (id:=11) [1] [2,3] ?_)))|refine kU ?_|fail
  all_goals first|(rcases hg with hg|⟨rfl,hg⟩<;>(refine QN 5 (hx:=?_);rw[hd.out];exact⟨_,trivial,rfl,rfl⟩))
 have hil:i<c:=by simp at q;omega
 have hx:=hp i hil;have hs:=Qsp (w:=wi) (t:=ti) (k:=a+i) hx;have hmn:(if(((a+i:Nat):Int)+1)*12<(text.length:Int) then(((a+i:Nat):Int)+1)*12 else(text.length:Int))=((min ((a+i+1)*12) text.length:Nat):Int):=by split<;>omega
 have htk:(text.take (((min ((a+i+1)*12) text.length:Nat):Int)).toNat).drop ((((a+i:Nat):Int))*12).toNat=(text.take ((a+i+1)*12)).drop ((a+i)*12):=by
  have e1:(((min ((a+i+1)*12) text.length:Nat):Int)).toNat=min ((a+i+1)*12) text.length:=by omega
  have e2:((((a+i:Nat):Int))*12).toNat=(a+i)*12:=by omega
  rw[e1,e2,<-List.take_take,A0 (AI text.length)]
 have cc:=al10Cut ((text.take ((a+i+1)*12)).drop ((a+i)*12)) (by simp only[A5,A6];unfold Pm.big;omega)
 have hcl:(QaP ((text.take ((a+i+1)*12)).drop ((a+i)*12))).length<=100000:=by
  refine Nat.le_trans (cut0_le _) ?_;simp only[A5,A6];omega
 rw[<-htk] at cc hs hcl;have hmi:min ((a+i+1)*12) text.length<=text.length/\(a+i)*12<=min ((a+i+1)*12) text.length:=by omega
 clear htk;generalize min ((a+i+1)*12) text.length=ed at*;generalize QaP ((text.take ((ed:Nat):Int).toNat).drop ((((a+i:Nat):Int))*12).toNat)=x at*;have cP:=(ePut g' wi (N+15*i) (by omega) hW ti hT (a+i) (by omega) x (by unfold Pm.big;omega)).tag3;have hWc:=QeV hW hT (k:=a+i) (by omega) x;have hsm:=Qni (w:=wi) (t:=ti) (k:=a+i) (text:=x);have hsg:=Qeh (w:=wi) (t:=ti) (k:=a+i) (text:=x);generalize Qm wi ti (a+i) x=y at*;obtain⟨w2,t2,ok2⟩:=y;simp only at cP hWc hs hsm hsg;have v0:w2.rows.length=w.rows.length:=by rw[hWc.1.rows,hw.rows]
 have v1:w2.refs.length=w.refs.length:=by rw[hWc.1.refs,hw.refs]
 have v2:w2.last.length=w.last.length:=by rw[hWc.1.last,hw.last]
 have hF2:=hF.out;rw[hs] at hF2;clear hF hs hx hp;cases ok2
 ·simp only[A7,if_false] at cP hF2
  replace hd:=Pm.hid (hd.out _ hF2)
  simp only at hd;have v3:w2.gone.length=wi.gone.length:=by rw[(hsg rfl).1]
  have hse:=hsm rfl g';clear hsm hsg hG
  repeat' first|refine kS ?_|refine qD (Qdu rfl rfl (by omega)) ?_|refine qS (Qdu rfl rfl (by omega)) ?_|refine qS (Qkf rfl rfl hmn) ?_|refine qD (Qe5 rfl rfl rfl rfl (by omega) (by omega) (by omega)) ?_|(show AWP _ (.region 6 _ _) _ _;refine(Fk.awp_drawG (id:=6) [11,13,14,15,16] [10,17,18] [(15,.row 0 zSt),(16,.row 0 zTr)] [] 10 44 (.tup [oS g' w2,.d (dTree t2),.d (dB false)]) ?_))|refine(Fk.aw_fltA 9 ?_)|refine(Fk.aw_fltA 10 ?_)|refine Fk.aw_callM [0,1,2,3,4] cP cK (k:=kY ?_)|(show AWP _ (.region 8 _ _) _ _;refine(Qa 6 (h:=Fg.awp_drawF (id:=8) [1] [2,3] ?_)))|refine kU ?_|fail
  all_goals first|(rcases hg with hg|⟨rfl,hg⟩<;>(refine QN 5 (hx:=?_);rw[hd.out];exact⟨_,trivial,by rw[<-hse];rfl,rfl⟩))
 simp only[if_true] at cP hF2;clear hsm hsg hG
 repeat' first|refine kS ?_|refine qD (Qdu rfl rfl (by omega)) ?_|refine qS (Qdu rfl rfl (by omega)) ?_|refine qS (Qkf rfl rfl hmn) ?_|refine qD (Qe5 rfl rfl rfl rfl (by omega) (by omega) (by omega)) ?_|(show AWP _ (.region 6 _ _) _ _;refine(Fk.awp_drawG (id:=6) [11,13,14,15,16] [10,17,18] [(15,.row 0 zSt),(16,.row 0 zTr)] [] 10 44 (.tup [oS (g'+1) w2,.d (dTree t2),.d (dB true)]) ?_))|refine(Fk.aw_fltA 9 ?_)|refine(Fk.aw_fltA 10 ?_)|refine Fk.aw_callM [0,1,2,3,4] cP cK (k:=kY ?_)|refine kU ?_|fail
 all_goals first|refine Qef (c -(i+1)) [13,2,4,5,6,10,11,1000000] [0,1,2,3,4,5,6,7,8] (by omega) ⟨i+1,g'+1,w2,t2,by omega,rfl,Pm.hid hF2,Pm.hid ⟨hWc.1.le (by omega),hWc.2⟩,.inl (by omega),rfl⟩
def Qcm(all text:List UInt8)(a:Nat):List UInt8:=(all++A1 (a -all.length) 0).take a++text++(all++A1 (a -all.length) 0).drop (min (all++A1 (a -all.length) 0).length (a+text.length))
theorem over_ge(all text:List UInt8)(a:Nat):a+text.length<=(Qcm all text a).length/\(Qcm all text a).length<=all.length+2*a+text.length:=by grind [Qcm]
def QsF(all text:List UInt8)(a:Nat):Qcm all text a=(all++A1 (a -all.length) 0).take ((a:Nat):Int).toNat++text++(all++A1 (a -all.length) 0).drop ((min (all++A1 (a -all.length) 0).length (a+text.length):Nat):Int).toNat:=by
 rw[A2,A2];rfl
theorem Qmc: ∀(l:List (List UInt8)) (k:Nat) {w:Pl.Sto} {t:Pl.Tree} {N:Nat},w.W N->Qx t->k+l.length<=16->(Qao w t l k).1.W (N+15*l.length)/\Qx (Qao w t l k).2.1
 |[],_,_,_,_,h,ht,_=>⟨h,ht⟩
 |x::l,k,w,t,N,h,ht,hk=>by
  rw[AF] at hk⊢;have h1:=QeV h ht (k:=k) (by omega) x;simp only[Qao];split
  ·have h2:=Qmc l (k+1) h1.1 h1.2 (by omega)
   grind
  ·exact⟨h1.1.le (by omega),ht⟩
theorem QhP{N:Nat}(h:w.W N){n:Qj}(ht:Qx n.tree){text:List UInt8}{a b:Nat}(hb:a<=b/\b<16):(Qa8 w n text a b).1.W (N+240)/\Qx (Qa8 w n text a b).2.1.tree:=by
 have hl:(Qbe text a (b+1 -a)).length=b+1 -a:=by simp[Qbe]
 have:=Qmc (Qbe text a (b+1 -a)) a h ht (by omega);exact⟨this.1.le (by omega),this.2⟩
def Qby(w:Pl.Sto)(n:Qj)(a:Nat)(text:List UInt8):Pl.Sto×Qj×Bool:=
 if text=[] then(w,n,true) else Qa8 w n (Qcm (QbR n.size (Qc w.st n.tree) n.tree.many.toNat) text a) (a/12) ((a+text.length -1)/12)
theorem Qtr(g:Nat)(w:Pl.Sto)(N:Nat)(hN:N<=700000)(hw:w.W N)(n:Qj)(ht:Qx n.tree)(hs:0<=n.size/\n.size<=2048)(a:Nat)(text:List UInt8)(hat:a+text.length<=192):
 DoesE A3 228 [oS g w,.d (dNode n),.d (dI a),.d (dS text)] (hS g w) (gS g w) (fun x H=>x= .tup [oS (g+1) (Qby w n a text).1,.d (dNode (Qby w n a text).2.1),.d (dB (Qby w n a text).2.2)]/\H=hS (g+1) (Qby w n a text).1):=by
 refine DoesE.tag (X:=fun g'=> .tup [oS g' (Qby w n a text).1,.d (dNode (Qby w n a text).2.1),.d (dB (Qby w n a text).2.2)]) (C:=fun _=>True) ?_ QfU;have hd:=Pm.hid (Qby.eq_def w n a text);generalize Qby w n a text=res at*
 by_cases h0:text=[]
 ·rw[if_pos h0] at hd
  subst h0;refine kH fun gvs=>?_
  refine Qa 6 (h:=?_)
  repeat' first|refine kS ?_|refine qS (Qd8 (m:=[]) rfl rfl rfl) ?_|(show AWP _ (.region 2 _ _) _ _;refine(Fg.awp_drawF (id:=2) [1] [2,3] ?_))|refine kU ?_|fail
  all_goals first|refine QN 5 (hx:=?_);rw[hd.out];exact⟨g,trivial,rfl,rfl⟩
 rw[if_neg h0] at hd;have hq:(text==[])=false:=by simpa using h0
 have hpos:0<text.length:=List.length_pos_iff.2 h0;have c1:=QlX w.st hw.good n ht hs;have hle:=QpH n.size (Qc w.st n.tree) (texts_le w.st hw.good n.tree) n.tree.many.toNat;have hmh:=ht.manyHi;have hov:=over_ge (QbR n.size (Qc w.st n.tree) n.tree.many.toNat) text a;have cP:=ePut13 g w N hN hw n ht (Qcm (QbR n.size (Qc w.st n.tree) n.tree.many.toNat) text a) (by omega) (a/12) ((a+text.length -1)/12) (by omega) (by omega) (by omega);generalize QbR n.size (Qc w.st n.tree) n.tree.many.toNat=all at*;have hWc:=(QhP hw ht (text:=Qcm all text a) (a:=a/12) (b:=(a+text.length -1)/12) (by omega)).1;generalize Qa8 w n (Qcm all text a) (a/12) ((a+text.length -1)/12)=y at*;rw[QsF,show(((a/12:Nat)):Int)=(a:Int)/12 by omega,show((((a+text.length -1)/12:Nat)):Int)=((a:Int)+text.length -1)/12 by omega] at cP;have cz:=alZeros ((a:Int) -all.length) (by omega);have hz:((a:Int) -all.length).toNat=a -all.length:=by omega
 rw[hz] at cz;have hzl:(A1 (a -all.length) (0:UInt8)).length=a -all.length:=List.length_replicate;generalize A1 (a -all.length) (0:UInt8)=zs at*;have hmn:(if(a:Int)+(text.length:Int)<((all++zs).length:Int) then(a:Int)+(text.length:Int) else((all++zs).length:Int))=((min (all++zs).length (a+text.length):Nat):Int):=by split<;>omega
 have hal:(all++zs).length=all.length+zs.length:=A4;have hed:min (all++zs).length (a+text.length)<=(all++zs).length:=by omega
 generalize min (all++zs).length (a+text.length)=ed at*;obtain⟨w2,n2,ok2⟩:=y;have v0:w2.rows.length=w.rows.length:=by rw[hWc.rows,hw.rows]
 have v1:w2.refs.length=w.refs.length:=by rw[hWc.refs,hw.refs]
 have v2:w2.last.length=w.last.length:=by rw[hWc.last,hw.last]
 simp only at cP;clear hWc;refine kH fun gvs=>?_
 refine Qa 6 (h:=?_)
 repeat' first|refine kS ?_|refine qS (Qd8 (m:=[]) rfl rfl hq) ?_|refine qS (QcZ cK c1 hw) ?_|refine qD (QcX rfl rfl (by first|omega|(simp only[A4,A6,A5];omega))) ?_|refine qS (QcX rfl rfl (by first|omega|(simp only[A4,A6,A5];omega))) ?_|refine qS (Qkf rfl rfl hmn) ?_|refine qD (QfH rfl rfl rfl (by omega) (by omega)) ?_|refine qD (QfG rfl rfl rfl (by omega) (by omega)) ?_|refine qS (Qgt rfl rfl (by omega) (by omega)) ?_|refine QA [0,1,2,3,4] cP cK (k:=kX ?_)|refine kU ?_|fail
 all_goals first|refine QN 5 (hx:=?_);rw[hd.out];exact⟨_,trivial,rfl,rfl⟩
theorem QdR(n:Qj):(Q6 n).length<=Pm.big:=by
 have:(Q6 n).length<=2048:=by
  unfold Q6;split
  ·unfold Pl.fp Pl.Qdb
   grind
  ·simp
 unfold Pm.big;omega
section
variable{P:Program}{dst:Option Tmp}{ty:TypeId}{pos:String}{after:Array Edge}{gd:Option (Nat×Bool)}{env:List (Nat×AV)}{H:List Blk}{f:FuncId}{xs:Array Operand}{tys:Array TypeId}{ds:List D}{x:D}{fs:Q4}{N g:Nat}{T0 T1 T2 T3 T4:TypeId}{u:Operand}{us:List Operand}
def QY(hf: ∀args w,(callFunc f args).run P w= .ok (.enter f args) w)(h:Pure P f (.pd (rFs fs.1 fs.2.1 fs.2.2)::ds) x)(hw:fs.1.W N)(hx:x.flat=true:=by rfl)(hxs:xs.toList=u::us:=by rfl)
 (hu:aval env u= .ptr 5 0 0:=by rfl)
 (h0:H[0]? =some (.arr 1 1 T0 (rS fs.1.rows)):=by rfl) (h1:H[1]? =some (.arr 1 1 T1 (rI fs.1.refs)):=by rfl) (h2:H[2]? =some (.arr 1 1 T2 (rI fs.1.last)):=by rfl) (h3:H[3]? =some (.arr g 5 T3 (fs.1.gone.map rPtr)):=by rfl) (h4:H[4]? =some (.arr 1 5 T4 []):=by rfl)
 (h5:H[5]? =some (.row 0 (rowF g fs.1 fs.2.1 fs.2.2)):=by rfl)
 (hd:allD (us.map (aval env))=some ds:=by rfl) (hwk:D.weakL ds=ds:=by rfl):Loc P ⟨dst,.call ⟨.value (.func f),xs,tys⟩,ty,pos,after,gd⟩ env H (.d x) none:=by
 refine QfJ hf (Pure.arg (l:=xs.toList.map fun u=>(aval env u).ice H 4) h ?_) hx rfl;rw[hxs,AH,QnA hd,hu];show(AV.ice H 4 _).weak::D.weakL ds=_;rw[hwk]
 congr 1
 simp only[AV.ice,h5,if_true,List.drop_zero,AH,List.map_nil,h0,h1,h2,h3,h4];rw[A0 (show(rS fs.1.rows).length<=64 by simp[hw.rows]),A0 (show(rI fs.1.refs).length<=64 by simp[hw.refs]),A0 (show(rI fs.1.last).length<=64 by simp[hw.last]),A0 (show(fs.1.gone.map rPtr).length<=fs.1.gone.length by simp)];rfl
end
def blob_le(s:Pm.Store)(hg:QP s)(ht:Qx t):(QaL (Qc s t)).1.length<=16*128:=by
 have hl:=texts_len s ht;have hm:=ht.manyHi;have hle:=texts_le s hg t;unfold QaL;split
 ·simp only
  have: ∀l:List (List UInt8),(∀x∈l,x.length<=128)->l.flatten.length<=l.length*128:=by
   intro l;induction l with
   |nil=>intro _;simp
   |cons a l ih=>intro h;have:=ih fun x hx=>h x (AB _ hx);have:=h a AC;rw[List.flatten_cons,A4,AF];omega
  have:=this _ hle;omega
 ·simp
def eEnts15(g:Nat)(w:Pl.Sto)(N:Nat)(hw:w.W N)(n:Qj):
 DoesE A3 126 [oS g w,.d (dNode n)] (hS g w) (gS g w) (fun x H=>x= .tup [.d (tEnts (Qg w.st n).1),.d (dB (Qg w.st n).2)]/\H=hS g w):=by
 have hd:=Pm.hid (Qg.eq_def w.st n);have c1:=aNodeOk n;have c2:=al8Ok w.st hw.good n.tree;generalize Qg w.st n=res at*;cases h1:QH w.st n.tree
 ·rw[h1] at c2 hd
  replace hd:Hid (res=([],false)):=Pm.hid (by rw[hd.out];simp)
  generalize Q8 n=ok at*;refine kH fun gvs=>?_
  refine Qa 6 (h:=?_)
  repeat' first|refine kS ?_|refine qS (QcZ cK c2 hw) ?_|refine kU ?_|refine kV ?_ ?_<;>intro q|fail
  all_goals first|refine Qa 7 (h:=?_);refine Qdt 5 (hx:=?_);rw[hd.out];exact⟨rfl,rfl⟩
 have ht:=Qdo h1;have c3:=al9Get w.st hw.good n.tree ht;have c4:=Qjc (QaL (Qc w.st n.tree)).1 (by have:=blob_le w.st hw.good ht;omega);rw[h1] at c2 hd;generalize Q8 n=ok at*;generalize QaL (Qc w.st n.tree)=bb at*;obtain⟨tx,fine⟩:=bb;simp only at c4 hd;generalize QbP tx=r at*;obtain⟨es,good⟩:=r;clear h1 ht;refine kH fun gvs=>?_
 refine Qa 6 (h:=?_)
 repeat' first|refine kS ?_|refine qS (QcZ cK c2 hw) ?_|refine qS (QcZ cK c3 hw) ?_|refine kU ?_|refine kV ?_ ?_<;>intro q|fail
 all_goals first
  |(have e:res=([],false):=by
     rw[hd.out];clear c1 c2 c3 c4 hd;simp only[Bool.not_eq_true',AD,bne_iff_ne,bne_eq_false_iff_eq] at*;simp[*]
     done
    refine Qa 7 (h:=?_);refine Qdt 5 (hx:=?_);rw[e];exact⟨rfl,rfl⟩)
  |(have e:res=(es,good):=by
     rw[hd.out];clear c1 c2 c3 c4 hd;simp only[AD,bne_iff_ne,bne_eq_false_iff_eq] at*;simp[*]
     done
    refine Qdt 5 (hx:=?_);rw[e];exact⟨rfl,rfl⟩)
def Qfg(g:Nat)(f:Q4)(N:Nat)(hw:f.1.W N)(ht:Qx f.2.1)(k:Nat):
 DoesE A3 217 [.ptr 5 0 0,.d (dI k)] (hF g f) (gF g f.1) (fun x H=>x= .d (tEnts (Qg f.1.st (Ql f k)).1)/\H=hF g f):=by
 obtain⟨w,t,full⟩:=f;simp only at hw ht⊢;have c1:=aNode w N hw t ht full k;have c2:=eEnts15 g w N hw (Ql (w,t,full) k);rw[show(Q5 w.st t k).1=Ql (w,t,full) k from rfl] at c1;generalize Ql (w,t,full) k=n at*;generalize Qg w.st n=r at*;refine kH fun gvs=>?_
 repeat' first|refine kS ?_|(show AWP _ (.region 1 _ _) _ _;refine(Fg.awp_drawF (id:=1) [] [7] ?_))|refine qD (QY (fs:=(w,t,full)) cK c1 hw) ?_|refine QeL [0,1,2,3,4] c2 cK (k:=kZ ?_)|refine kU ?_|fail
 all_goals first|refine Q1 6 (hx:=?_);exact⟨rfl,rfl⟩
theorem QgL{f:Q4}{N:Nat}(h:f.1.W N)(ht:Qx f.2.1)(hk:k<16)(n:Qj):(Qaq f k n).1.W (N+15)/\Qx (Qaq f k n).2.1:=by
 unfold Qaq;split
 ·exact⟨h.le (by omega),ht⟩
 grind [QeV]
theorem Qub{N:Nat}(h:w.W N)(ht:Qx t)(text:List UInt8):(Qax w t text).1.W (N+269)/\Qx (Qax w t text).2.1:=by
 unfold Qax;split
 ·exact⟨h.le (by omega),ht⟩
 ·rename_i h1
  have h2:=Qmc (QaG text) 0 h ht (by omega);split
  ·have h3:=cut_W h2.1 h2.2 (many:=(QaG text).length) (by omega)
   exact⟨h3.1.le (by omega),h3.2⟩
  ·exact⟨h2.1.le (by omega),h2.2⟩
theorem Qd6{f:Q4}{N:Nat}(h:f.1.W N)(ht:Qx f.2.1)(hk:k<16)(hn:f.2.2=false->Qx (Ql f k).tree)(l:List Qq):(QW f k l).1.W (N+284)/\Qx (QW f k l).2.1:=by
 unfold QW;split
 ·exact⟨h.le (by omega),ht⟩
 grind [Qub,QgL]
def eBputX(g:Nat)(w:Pl.Sto)(N:Nat)(hN:N<=700000)(hw:w.W N)(t:Pl.Tree)(ht:Qx t)(text:List UInt8)(htx:text.length<=1000000000000):
 DoesE A3 279 [oS g w,.d (dTree t),.d (dS text)] (hS g w) (gS g w) (fun x H=>x= .tup [oS (g+1) (Qax w t text).1,.d (dTree (Qax w t text).2.1),.d (dB (Qax w t text).2.2)]/\H=hS (g+1) (Qax w t text).1):=
 DoesE.tag (C:=fun _=>True) (X:=fun g'=> .tup [oS g' (Qax w t text).1,.d (dTree (Qax w t text).2.1),.d (dB (Qax w t text).2.2)]) (fun B σ S w0 cargs gvs h1 h2 h3 h4 h5 h6=>(eBput g w N hN hw t ht text htx B σ S w0 cargs gvs h1 h2 h3 h4 h5 h6).mono fun _ _ ⟨x,H,⟨g',e1,e2⟩,h⟩=>⟨x,H,⟨g',trivial,e1,e2⟩,h⟩) QfU
def eWriteF(g:Nat)(f:Q4)(N:Nat)(hN:N<=600000)(hw:f.1.W N)(ht:Qx f.2.1)(k:Nat)(hk:k<16)(hnt:f.2.2=false->Qx (Ql f k).tree)(l:List Qq)(hb: ∀e∈l,e.1.length<=4/\0<=e.2/\e.2<=15)(hl:l.length<=1000)(htx:(QG l).length<=1000000000000):
 DoesE A3 219 [.ptr 5 0 0,.d (dI k),.d (tEnts l)] (hF g f) (gF g f.1) (fun x H=>x= .tup []/\H=hF (g+1) (QW f k l)):=by
 refine DoesE.tagF (C:=fun _=>True) ?_ Qlb;have hWr:=(Qd6 hw ht hk hnt l).1;obtain⟨w,t,full⟩:=f;simp only at hw ht hnt⊢;cases full
 ·replace hnt:=hnt rfl
  have c1:=aNode w N hw t ht false k;have c2:=QtE l hb hl;have cB:=eBputX g w N (by omega) hw (Ql (w,t,false) k).tree hnt (QG l) htx;have hWb:=(Qub hw hnt (QG l)).1
  have hd:Hid (QW (w,t,false) k l=Qaq ((Qax w (Ql (w,t,false) k).tree (QG l)).1,t,!(Qax w (Ql (w,t,false) k).tree (QG l)).2.2) k
   {Ql (w,t,false) k with tree:=(Qax w (Ql (w,t,false) k).tree (QG l)).2.1,size:=(QG l).length}):=Pm.hid rfl
  rw[show(Q5 w.st t k).1=Ql (w,t,false) k from rfl] at c1;generalize QW (w,t,false) k l=res at*;generalize Ql (w,t,false) k=n at*;generalize QG l=text at*;generalize Qax w n.tree text=y at*;obtain⟨w2,t2,ok2⟩:=y;simp only at cB hWb hd;have cP:=ePutF (g+1) (w2,t,!ok2) (N+269) (by omega) hWb ht k hk {n with tree:=t2,size:=text.length} (QdR _);rw[<-hd.out] at cP;have v0:res.1.rows.length=w.rows.length:=by rw[hWr.rows,hw.rows]
  have v1:res.1.refs.length=w.refs.length:=by rw[hWr.refs,hw.refs]
  have v2:res.1.last.length=w.last.length:=by rw[hWr.last,hw.last]
  clear hWr hWb hd;refine kJ fun gvs=>?_
  repeat' first|refine kS ?_|refine qS (QY (fs:=(w,t,false)) cK c1 hw) ?_|(show AWP _ (.region 3 _ _) _ _;refine(Fk.awp_drawG (id:=3) [8,10,11,12,13] [7,14,15] [(12,.row 0 zSt),(13,.row 0 zTr)] [] 7 28 (.tup [oS (g+1) w2,.d (dTree t2),.d (dB ok2)]) ?_))|refine(Fk.aw_fltA 7 ?_)|refine(Fk.aw_fltA 8 ?_)|refine Fk.aw_callM [0,1,2,3,4] cB cK (k:=kY ?_)|refine Qdg [0,1,2,3,4,5] cP cK (k:=kX ?_)|refine kU ?_|fail
  all_goals first|refine endR0 6 (hx:=?_);exact⟨_,trivial,rfl,rfl⟩
 ·refine kJ fun gvs=>?_
  repeat refine kA ?_
  all_goals first|refine Qod 6 (hx:=?_);exact⟨g,trivial,rfl,rfl⟩
theorem Qde(s:Pm.Store)(t:Pl.Tree)(k:Nat):Qx (Q5 s t k).1.tree/\(0<=(Q5 s t k).1.size/\(Q5 s t k).1.size<=2048):=by
 have h0:Qx Qd.tree/\0<=Qd.size/\Qd.size<=2048:=⟨tgood0,by decide,by decide⟩;unfold Q5;split
 ·rcases Qio ((Qc s t).getD k []) with h|h
  ·exact⟨⟨h.depth.1,h.depth.2,h.ptr,h.many.1,h.many.2⟩,h.size⟩
  grind
 omega
def QcQ(l:List Qq):Prop:=(∀e∈l,e.1.length<=4/\0<=e.2/\e.2<=15)/\l.length<=13
theorem QiE(s:Pm.Store)(n:Qj):QcQ (Qg s n).1:=⟨fun e he=>by
 grind [QiF,Qei],by grind [Qe0]⟩
theorem QiH: ∀l:List Qq,(∀e∈l,e.1.length<=4/\0<=e.2/\e.2<=15)->(QG l).length<=8*l.length
 |[],_=>by simp[QG]
 |e::l,h=>by
  have h1:=QiH l fun x hx=>h x (AB _ hx)
  obtain⟨h2,h3,h4⟩:=h e AC;have h5:=Pl.QcU 1 e.2.toNat (by omega)
  grind [QG,Qas]
def QhZ{l:List Qq}{e:Qq}(h:QcQ l)(hl:l.length<=12)(h1:e.1.length<=4)(h2:0<=e.2)(h3:e.2<=15):QcQ (Qar l e):=
 ⟨fun x hx=>(Qsc hx).elim (fun h4=>h4▸⟨h1,h2,h3⟩) (h.1 x),by rw[Qsd];omega⟩
theorem Qlz{l:List Qq}(h:QcQ l)(i:Nat):QcQ (l.take i++l.drop (i+1)):=
 ⟨fun x hx=>h.1 x ((List.mem_append.1 hx).elim (fun h1=>List.mem_of_mem_take h1) (fun h1=>List.mem_of_mem_drop h1)),by have:=h.2;grind⟩
def EB.text{l:List Qq}(h:QcQ l):(QG l).length<=104:=by have:=QiH l h.1;have:=h.2;omega
theorem QmJ(s:Pm.Store)(ns:List Qj): ∀(q:List (List UInt8)) (i:Int),0<=i->i<=15-> ∀j,QbC (Qg s) ns i q=some j->0<=j/\j<=15
 |[],i,h0,h1,j,h=>by grind [Qi9]
 |n::q,i,h0,h1,j,h=>by
  rw[Qho] at h;split at h
  ·cases h
  ·rename_i e he
   have:=QiF s (ns.getD i.toNat Qd) e (List.mem_of_find?_eq_some he);exact QmJ s ns q e.2 (by omega) this.2.2 j h
theorem QdF(s:Pm.Store)(t:Pl.Tree)(q:List (List UInt8)):Qaf s t q<0∨ ∃a:Nat,a<16/\Qaf s t q=a:=by
 unfold Qaf QbB;cases h:QbC (Qg s) (Qk s t) 0 q with
 |none=>grind
 |some j=>
  have:=QmJ s (Qk s t) q 0 (by omega) (by omega) j h;exact .inr ⟨j.toNat,by omega,by grind⟩
theorem Qf2(w:Pl.Sto)(t:Pl.Tree)(path:List UInt8):(∃a:Nat,a<16/\(QJ w t path).1=a)/\0<=(QJ w t path).2/\((QJ w t path).2=0->Qy path≠[]):=by
 unfold QJ;split
 ·exact⟨⟨0,by omega,rfl⟩,by omega,fun h=>absurd h (by decide)⟩
 grind [QdF]
theorem Qgc(w:Pl.Sto)(t:Pl.Tree)(path:List UInt8):(∃a:Nat,a<16/\(Qam w t path).1=a)/\0<=(Qam w t path).2/\((Qam w t path).2=0->Qy path≠[]):=by
 have h:=Qf2 w t path;unfold Qam;split
 ·rename_i h0
  exact⟨⟨0,by omega,rfl⟩,h.2.1,fun h1=>absurd h1 (by omega)⟩
 ·rename_i h0
  split
  ·exact⟨⟨0,by omega,rfl⟩,by omega,fun h1=>absurd h1 (by decide)⟩
  grind
abbrev QK(path:List UInt8):List UInt8:=(Qy path).getD ((Qy path).length -1) []
def QbA(f:Q4)(path:List UInt8)(kind:Int):Q4×Int:=
 if 0<(Qam f.1 f.2.1 path).2 then(f,(Qam f.1 f.2.1 path).2) else
 match QbN (Qc f.1.st f.2.1) with
 |none=>(f,6)
 |some id=>if 12<=(Qg f.1.st (Ql f (Qam f.1 f.2.1 path).1.toNat)).1.length then(f,6) else
  (QW (Qaq f id ⟨kind,1,0,⟨Pl.hole,0,0⟩⟩) (Qam f.1 f.2.1 path).1.toNat (Qar (Qg f.1.st (Ql f (Qam f.1 f.2.1 path).1.toNat)).1 (QK path,id)),0)
theorem eMakeF(g:Nat)(f:Q4)(N:Nat)(hN:N<=500000)(hw:f.1.W N)(ht:Qx f.2.1)(path:List UInt8)(hp:path.length<=900)(hb:(QK path).length<=4)(kind:Int):
 DoesE A3 148 [.ptr 5 0 0,.d (dS path),.d (dI kind)] (hF g f) (gF g f.1) (fun x H=>x= .d (dI (QbA f path kind).2)/\H=hF (g+1) (QbA f path kind).1):=by
 refine DoesE.tagF (C:=fun _=>True) ?_ Qdp;have c1:=aFresh f.1 N hw f.2.1 ht f.2.2 path hp;obtain⟨⟨a,ha,hae⟩,h2,h3⟩:=Qgc f.1 f.2.1 path;have c2:=QtG f.1.st hw.good f.2.1 ht;have hd:=Pm.hid (QbA.eq_def f path kind);rw[hae,A2] at hd;have c3:=Qfg g f N hw ht a;have hes:=QiE f.1.st (Ql f a);have hel:=Qe0 f.1.st (Ql f a);have hidl:=fun id=>Qi7 (l:=Qc f.1.st f.2.1) (k:=id)
 generalize QbA f path kind=res at*;generalize Qam f.1 f.2.1 path=p at*;obtain⟨p1,p2⟩:=p;simp only at hae h2 h3 hd c1;subst hae
 by_cases h0:0<p2
 ·rw[if_pos h0] at hd
  clear c2 c3;have hq:decide (p2>0)=true:=decide_eq_true h0;refine kH fun gvs=>?_
  repeat' first|refine kS ?_|refine qS (QY (fs:=f) cK c1 hw) ?_|refine kU ?_|refine kV ?_ ?_<;>intro q|fail
  all_goals first|exact absurd (hq.symm.trans ‹decide (p2>0)=false›) (by decide)|refine Q1 6 (hx:=?_);rw[hd.out];exact⟨g,trivial,rfl,rfl⟩
 rw[if_neg h0] at hd;have hq:decide (p2>0)=false:=decide_eq_false h0;have hne:=h3 (by omega);have c6:=Qhe path (by omega) hne;generalize (Qg f.1.st (Ql f a)).1=l at*;cases hfr:QbN (Qc f.1.st f.2.1) with
 |none=>
  rw[hfr] at c2 hd;simp only at hd;refine kH fun gvs=>?_
  repeat' first|refine kS ?_|refine qS (QY (fs:=f) cK c1 hw) ?_|refine qD (QcZ cK c2 hw) ?_|refine Qdg [0,1,2,3,4,5] c3 cK (k:=kX ?_)|refine kU ?_|refine kV ?_ ?_<;>intro q|fail
  all_goals first|exact absurd (hq.symm.trans ‹decide (p2>0)=true›) (by decide)|refine Q1 6 (hx:=?_);rw[hd.out];exact⟨g,trivial,rfl,rfl⟩
 |some id=>
  rw[hfr] at c2 hd;simp only at hd;have hid:=(hidl id hfr).1
  replace c2:Pure A3 216 [dSt f.1.st,dTree f.2.1] (dI id):=c2
  by_cases h12:12<=l.length
  ·rw[if_pos h12] at hd
   refine kH fun gvs=>?_
   repeat' first|refine kS ?_|refine qS (QY (fs:=f) cK c1 hw) ?_|refine qD (QcZ cK c2 hw) ?_|refine Qdg [0,1,2,3,4,5] c3 cK (k:=kX ?_)|refine kU ?_|refine kV ?_ ?_<;>intro q|fail
   all_goals first|exact absurd (hq.symm.trans ‹decide (p2>0)=true›) (by decide)|exfalso;simp only[decide_eq_true_eq,decide_eq_false_iff_not] at*;omega|refine Q1 6 (hx:=?_);rw[hd.out];exact⟨g,trivial,rfl,rfl⟩
  rw[if_neg h12] at hd;have c4:=ePutF g f N (by omega) hw ht id hid ⟨kind,1,0,⟨Pl.hole,0,0⟩⟩ (QdR _);have hWp:=QgL hw ht hid ⟨kind,1,0,⟨Pl.hole,0,0⟩⟩;have c5:=al12Add l (QK path,(id:Int)) (by omega);have hae:=QhZ (e:=(QK path,(id:Int))) hes hel hb (by simp) (by simp;omega);generalize Qaq f id ⟨kind,1,0,⟨Pl.hole,0,0⟩⟩=f2 at*;generalize Qar l (QK path,(id:Int))=l2 at*;have c7:=eWriteF (g+1) f2 (N+15) (by omega) hWp.1 hWp.2 a ha (fun _=>(Qde _ _ _).1) l2 hae.1 (by have:=hae.2;omega) (by have:=EB.text hae;omega);have hWr:=(Qd6 hWp.1 hWp.2 ha (fun _=>(Qde _ _ _).1) l2).1;generalize QW f2 a l2=f3 at*;have v0:f3.1.rows.length=f.1.rows.length:=by rw[hWr.rows,hw.rows]
  have v1:f3.1.refs.length=f.1.refs.length:=by rw[hWr.refs,hw.refs]
  have v2:f3.1.last.length=f.1.last.length:=by rw[hWr.last,hw.last]
  clear hWp hWr;refine kH fun gvs=>?_
  repeat' first|refine kS ?_|refine qS (QY (fs:=f) cK c1 hw) ?_|refine qD (QcZ cK c2 hw) ?_|refine Qdg [0,1,2,3,4,5] c3 cK (k:=kX ?_)|refine Qdg [0,1,2,3,4,5] c4 cK (k:=kX ?_)|refine Qdg [0,1,2,3,4,5] c7 cK (k:=kX ?_)|refine kU ?_|refine kV ?_ ?_<;>intro q|fail
  all_goals first|exact absurd (hq.symm.trans ‹decide (p2>0)=true›) (by decide)|exfalso;simp only[decide_eq_true_eq,decide_eq_false_iff_not] at*;omega|refine Q1 6 (hx:=?_);rw[hd.out];exact⟨_,trivial,rfl,rfl⟩
theorem Qjs(s:Pm.Store)(t:Pl.Tree)(k:Nat):0<=(Q5 s t k).1.links/\(Q5 s t k).1.links<=9:=by
 have h0:0<=Qd.links/\Qd.links<=9:=by decide
 unfold Q5;split
 ·rcases Qio ((Qc s t).getD k []) with h|h
  ·have:=h.links;omega
  grind
 omega
def QbI(f:Q4)(path pt:List UInt8):Q4×Int:=
 if QE f.1 f.2.1 path<0 then(f,2) else
 if(Ql f (QE f.1 f.2.1 path).toNat).kind≠1 then(f,4) else
 if 0<(Qam f.1 f.2.1 pt).2 then(f,(Qam f.1 f.2.1 pt).2) else
 if 9<=(Ql f (QE f.1 f.2.1 path).toNat).links∨12<=(Qg f.1.st (Ql f (Qam f.1 f.2.1 pt).1.toNat)).1.length then(f,6) else
 (QW (Qaq f (QE f.1 f.2.1 path).toNat {Ql f (QE f.1 f.2.1 path).toNat with links:=(Ql f (QE f.1 f.2.1 path).toNat).links+1}) (Qam f.1 f.2.1 pt).1.toNat
   (Qar (Qg f.1.st (Ql f (Qam f.1 f.2.1 pt).1.toNat)).1 (QK pt,QE f.1 f.2.1 path)),0)
theorem eLinkF(g:Nat)(f:Q4)(N:Nat)(hN:N<=500000)(hw:f.1.W N)(ht:Qx f.2.1)(path pt:List UInt8)(hp:path.length<=900)(hp2:pt.length<=900)(hb:(QK pt).length<=4):
 DoesE A3 150 [.ptr 5 0 0,.d (dS path),.d (dS pt)] (hF g f) (gF g f.1) (fun x H=>x= .d (dI (QbI f path pt).2)/\H=hF (g+1) (QbI f path pt).1):=by
 refine DoesE.tagF (C:=fun _=>True) ?_ Qdp;have c0:=aFind f.1 N hw f.2.1 ht f.2.2 path hp;have c1:=aFresh f.1 N hw f.2.1 ht f.2.2 pt hp2;obtain⟨⟨a,ha,hae⟩,h2,h3⟩:=Qgc f.1 f.2.1 pt;have hd:=Pm.hid (QbI.eq_def f path pt);rw[hae,A2] at hd;have c3:=Qfg g f N hw ht a;have hes:=QiE f.1.st (Ql f a);have hel:=Qe0 f.1.st (Ql f a);have hfb:=QdF f.1.st f.2.1 (Qy path);rw[show Qaf f.1.st f.2.1 (Qy path)=QE f.1 f.2.1 path from rfl] at hfb;generalize QbI f path pt=res at*;generalize Qam f.1 f.2.1 pt=p at*;obtain⟨p1,p2⟩:=p;simp only at hae h2 h3 hd c1;subst hae;generalize QE f.1 f.2.1 path=i at*;rcases hfb with hfb|⟨k,hk,rfl⟩
 ·rw[if_pos hfb] at hd
  have hq:decide (i<0)=true:=decide_eq_true hfb;refine kH fun gvs=>?_
  repeat' first|refine kS ?_|refine qS (QY (fs:=f) cK c0 hw) ?_|refine kU ?_|refine kV ?_ ?_<;>intro q|fail
  all_goals first|exact absurd (hq.symm.trans ‹decide (i<0)=false›) (by decide)|refine Q1 6 (hx:=?_);rw[hd.out];exact⟨g,trivial,rfl,rfl⟩
 rw[if_neg (by omega),A2] at hd;have hq0:decide ((k:Int)<0)=false:=decide_eq_false (by omega);have c4:=aNode f.1 N hw f.2.1 ht f.2.2 k;have hln:=Qjs f.1.st f.2.1 k;rw[show(Q5 f.1.st f.2.1 k).1=Ql f k from rfl] at c4 hln;have c5:=fun n=>ePutF g f N (by omega) hw ht k hk n (QdR _)
 have hWp:=fun n=>QgL hw ht hk n
 generalize (Qg f.1.st (Ql f a)).1=l at*;generalize Ql f k=n at*
 by_cases h0:0<p2
 ·rw[if_pos h0] at hd
  have hq:decide (p2>0)=true:=decide_eq_true h0;clear c5 hWp c3;refine kH fun gvs=>?_
  repeat' first|refine kS ?_|refine qS (QY (fs:=f) cK c0 hw) ?_|refine qS (QY (fs:=f) cK c4 hw) ?_|refine qS (QY (fs:=f) cK c1 hw) ?_|refine kU ?_|refine kV ?_ ?_<;>intro q|fail
  all_goals first|exact absurd (hq.symm.trans ‹decide (p2>0)=false›) (by decide)|exact absurd (hq0.symm.trans ‹decide ((k:Int)<0)=true›) (by decide)|refine Q1 6 (hx:=?_);rw[hd.out,if_pos (bne_iff_ne.1 ‹(n.kind !=1)=true›)];exact⟨g,trivial,rfl,rfl⟩|refine Q1 6 (hx:=?_);rw[hd.out,if_neg (by simpa using ‹(n.kind !=1)=false›)];exact⟨g,trivial,rfl,rfl⟩
 rw[if_neg h0] at hd;have hq:decide (p2>0)=false:=decide_eq_false h0;have c6:=Qhe pt (by omega) (h3 (by omega))
 replace c5:=c5 {n with links:=n.links+1}
 replace hWp:=hWp {n with links:=n.links+1}
 have c7:=al12Add l (QK pt,(k:Int)) (by omega);have hae:=QhZ (e:=(QK pt,(k:Int))) hes hel hb (by simp) (by simp;omega);generalize Qaq f k {n with links:=n.links+1}=f2 at*;generalize Qar l (QK pt,(k:Int))=l2 at*;have c8:=eWriteF (g+1) f2 (N+15) (by omega) hWp.1 hWp.2 a ha (fun _=>(Qde _ _ _).1) l2 hae.1 (by have:=hae.2;omega) (by have:=EB.text hae;omega);have hWr:=(Qd6 hWp.1 hWp.2 ha (fun _=>(Qde _ _ _).1) l2).1;generalize QW f2 a l2=f3 at*;have v0:f3.1.rows.length=f.1.rows.length:=by rw[hWr.rows,hw.rows]
 have v1:f3.1.refs.length=f.1.refs.length:=by rw[hWr.refs,hw.refs]
 have v2:f3.1.last.length=f.1.last.length:=by rw[hWr.last,hw.last]
 clear hWp hWr;refine kH fun gvs=>?_
 repeat' first|refine kS ?_|refine qS (QY (fs:=f) cK c0 hw) ?_|refine qS (QY (fs:=f) cK c4 hw) ?_|refine qS (QY (fs:=f) cK c1 hw) ?_|refine Qdg [0,1,2,3,4,5] c3 cK (k:=kX ?_)|refine Qdg [0,1,2,3,4,5] c5 cK (k:=kX ?_)|refine Qdg [0,1,2,3,4,5] c8 cK (k:=kX ?_)|refine kU ?_|refine kV ?_ ?_<;>intro q|fail
 all_goals first|exact absurd (hq.symm.trans ‹decide (p2>0)=true›) (by decide)|exact absurd (hq0.symm.trans ‹decide ((k:Int)<0)=true›) (by decide)|refine Q1 6 (hx:=?_);rw[hd.out,if_pos (bne_iff_ne.1 ‹(n.kind !=1)=true›)];exact⟨g,trivial,rfl,rfl⟩|refine Q1 6 (hx:=?_);rw[hd.out,if_neg (by simpa using ‹(n.kind !=1)=false›),if_pos (by simp only[decide_eq_true_eq,decide_eq_false_iff_not] at*;omega)];exact⟨g,trivial,rfl,rfl⟩|refine Q1 6 (hx:=?_);rw[hd.out,if_neg (by simpa using ‹(n.kind !=1)=false›),if_neg (by simp only[decide_eq_false_iff_not] at*;omega)];exact⟨_,trivial,rfl,rfl⟩

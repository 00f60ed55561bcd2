/- Of fuse_card; no condition. -/
import Derived.Test.YtmomkioebognpaaGreatDoorQ23
import Derived.Test.YtmomkioebognpaaGreatDoorQ24
set_option linter.all false
set_option maxRecDepth 100000
set_option maxHeartbeats 16000000
open Bool renaming false_eq_true->A3
open Go.Proofs.Tryz renaming prog->AB
open Int renaming toNat_natCast->A7
open List renaming replicate->A0,length_take->A1,length_append->A2,length_drop->A4,length_replicate->A5,getElem?_eq_some_iff->A6,getElem_cons_drop->A8,drop_of_length_le->A9,length_reverse->AA,cons_append->AC,nil_append->AE
open Nat renaming le_refl->AD,le_trans->AF
namespace Go.Proofs.YtmomkioebognpaaGreatDoor
noncomputable section
open Go.RowKit
namespace Aw
variable{k i:Nat}{t:Pl.Tree}{w:Pl.Sto}{x:List UInt8}
def Qqf: ∀(n:Nat) (s:List UInt8),∀x∈Pl.pcs n s,x.length<=128
 |0,s,x,h=>by simp[Pl.pcs] at h
 |n+1,s,x,h=>by
  unfold Pl.pcs at h;split at h
  ·simp at h
  ·rcases List.mem_cons.1 h with rfl|h
   ·simp;omega
   ·exact Qqf n _ x h
def QmW{text:List UInt8}(h:(Pl.tput w t k text).2.2=false)(g:Nat):oS g w=oS g (Pl.tput w t k text).1:=by
 obtain⟨z1,z2,z3⟩:=Qdy h;simp only[oS,z1,z2,z3]
def Qot{l:List (List UInt8)}(h:l[i]? =some x):Pl.QaO w t (l.drop i) i=if(Pl.tput w t i x).2.2 then Pl.QaO (Pl.tput w t i x).1 (Pl.tput w t i x).2.1 (l.drop (i+1)) (i+1) else((Pl.tput w t i x).1,t,false):=by
 obtain⟨h1,h2⟩:=A6.1 h;rw[<-A8 h1,h2];rfl
abbrev rowT(t:Pl.Tree):List AV:=[.d (dI t.root.pat),.d (dI t.root.birth),.d (dI t.root.size),.d (dI t.root.sum),.d (dI t.root.level),.d (dI t.depth),.d (dI t.many)]
attribute [local irreducible] ASeq ADraw AWP Loc AStep Fg.PlanF Fg.Flts EndR Fk.PlanF Fk.Flts Fk.AStepM Fk.Grew Fk.Gs
def eBput(g:Nat)(w:Pl.Sto)(N:Nat)(hN:N<=700000)(hw:w.W N)(t:Pl.Tree)(ht:Pl.TGood t)(text:List UInt8)(htx:text.length<=1000000000000):
 DoesE AB 193 [oS g w,.d (dTree t),.d (dS text)] (hS g w) (gS g w) (fun x H=> ∃g',x= .tup [oS g' (Pl.bput w t text).1,.d (dTree (Pl.bput w t text).2.1),.d (dB (Pl.bput w t text).2.2)]/\H=hS g' (Pl.bput w t text).1):=by
 have hd:=Pm.hid (Pl.bput.eq_def w t text);have c1:=QrR text htx;have hp: ∀x∈Pl.cuts text,x.length<=128:=Qqf _ _;generalize Pl.cuts text=l at*;generalize Pl.bput w t text=res at*
 by_cases hl:16<l.length
 ·rw[if_pos hl] at hd
  refine kH fun gvs=>?_
  refine QbP 6 (h:=?_)
  repeat' first|refine kS ?_|(show AWP _ (.region 3 _ _) _ _;refine(Fg.awp_drawF (id:=3) [1] [2,3] ?_))|refine kU ?_|refine kV ?_ ?_<;>intro q|fail
  all_goals first|exact absurd hl (by simp at*;omega)|refine Qca 5 (hx:=?_);rw[hd.out];exact⟨g,rfl,rfl⟩
 rw[if_neg hl] at hd;refine kH fun gvs=>?_
 repeat' first|refine kA ?_|refine kV ?_ ?_<;>intro q|fail
 all_goals first|exact absurd (by simp at*;omega) hl|skip
 refine QbS (fun m st=> ∃(i g':Nat) (wi:Pl.Sto) (ti:Pl.Tree),i<=l.length/\m=l.length -i/\Hid (Pl.QaO w t l 0=Pl.QaO wi ti (l.drop i) i)/\Hid (wi.W (N+15*i)/\Pl.TGood ti)/\(g<g'∨g'=g/\wi.gone.length=w.gone.length)/\
  st=⟨53,[(10,.d (dI i)),(9,.d (tStrs l)),(3,.ptr 5 0 0),(4,.ptr 6 0 0),(6,.ptr 7 0 0),(7,.ptr 8 0 0),(1000000,.gh (gS g w) gvs)],
   hS g' wi++[.row 0 (rowS g' wi),.row 0 (rowT ti),.row 0 zSt,.row 0 zTr]⟩) [10,9,3,4,6,7,1000000] 9 l.length
  ⟨0,g,w,t,by omega,rfl,Pm.hid rfl,Pm.hid ⟨hw,ht⟩,.inr ⟨rfl,rfl⟩,rfl⟩ (round:=?_)
 rintro m st ⟨i,g',wi,ti,hi,rfl,hF,hG,hg,rfl⟩;obtain⟨hW,hT⟩:=hG.out;simp only[hS,AC,AE]
 repeat refine kG ?_
 cases q:decide ((i:Int)<(l.length:Int))
 ·have hil:i=l.length:=by simp at q;omega
  have hF2:=hF.out;rw[hil,A9 (AD _)] at hF2;rw[show Pl.QaO wi ti [] l.length=(wi,ti,true) from rfl] at hF2;rw[hF2] at hd;simp only[if_true] at hd;have c3:=pinS (X:=fun g'=> .tup [oS g' (Pl.cut wi ti l.length).1,.d (dTree (Pl.cut wi ti l.length).2.1),.d (dB (Pl.cut wi ti l.length).2.2)]) (C:=fun g2=>(Pl.cut wi ti l.length).2.2=false->g2=g') (eCut g' wi (N+15*i) (by omega) hW ti hT l.length (by omega));have hWc:=(cut_W hW hT (many:=l.length) (by omega)).1;generalize Pl.cut wi ti l.length=y at*;obtain⟨w2,t2,ok2⟩:=y;simp only at c3 hWc;clear hF hF2 hG;have v0:w2.rows.length=w.rows.length:=by rw[hWc.rows,hw.rows]
  have v1:w2.refs.length=w.refs.length:=by rw[hWc.refs,hw.refs]
  have v2:w2.last.length=w.last.length:=by rw[hWc.last,hw.last]
  repeat' first|refine kS ?_|(refine QbX [0,1,2,3,4] c3 cK (k:=?_);rintro _ _ ⟨g2,hg2,hC,rfl,rfl⟩;refine QcC (k:=?_))|refine kU ?_|fail
  all_goals first
   |(have hg4:g<g2∨g2=g/\w2.gone.length=w.gone.length:=by
      rcases hg with h1|⟨h1,h2⟩<;>rcases hg2 with h3|⟨h3,h4⟩<;>first|(left;omega)|(right;exact⟨by omega,h4.trans h2⟩)
     rcases hg4 with hg4|⟨rfl,hg4⟩<;>(refine Qca 5 (hx:=?_);rw[hd.out];exact⟨_,rfl,rfl⟩))
 have hil:i<l.length:=by simp at q;omega
 obtain⟨x,hx⟩: ∃x,l[i]? =some x:=⟨_,List.getElem?_eq_getElem hil⟩;have hr:=QbV (f:=fun s=>[dS s]) hx;have hxl:=hp x (List.mem_of_getElem? hx);have hs:=Qot (w:=wi) (t:=ti) hx;have cP:=(ePut g' wi (N+15*i) (by omega) hW ti hT i (by omega) x (by unfold Pm.big;omega)).tag3;have hWc:=Qem hW hT (k:=i) (by omega) x;have hsm:=QmW (w:=wi) (t:=ti) (k:=i) (text:=x);have hsg:=Qdy (w:=wi) (t:=ti) (k:=i) (text:=x);generalize Pl.tput wi ti i x=y at*;obtain⟨w2,t2,ok2⟩:=y;simp only at cP hWc hs hsm hsg;have v0:w2.rows.length=w.rows.length:=by rw[hWc.1.rows,hw.rows]
 have v1:w2.refs.length=w.refs.length:=by rw[hWc.1.refs,hw.refs]
 have v2:w2.last.length=w.last.length:=by rw[hWc.1.last,hw.last]
 have hF2:=hF.out;rw[hs] at hF2;clear hF hs hx c1;cases ok2
 ·simp only[A3,if_false] at cP hF2
  rw[hF2] at hd;simp only[A3,if_false] at hd;have v3:w2.gone.length=wi.gone.length:=by rw[(hsg rfl).1]
  have hse:=hsm rfl g';clear hsm hsg hG
  repeat' first|refine kS ?_|refine qD (iy hr) ?_|(show AWP _ (.region 7 _ _) _ _;refine(Fk.awp_drawG (id:=7) [8,10,11,12,13] [7,14,15] [(12,.row 0 zSt),(13,.row 0 zTr)] [] 7 35 (.tup [oS g' w2,.d (dTree t2),.d (dB false)]) ?_))|refine(Fk.aw_fltA 9 ?_)|refine(Fk.aw_fltA 10 ?_)|refine Fk.aw_callM [0,1,2,3,4] cP cK (k:=kY ?_)|(show AWP _ (.region 9 _ _) _ _;refine(QbP 6 (h:=Fg.awp_drawF (id:=9) [1] [2,3] ?_)))|refine kU ?_|fail
  all_goals first|(rcases hg with hg|⟨rfl,hg⟩<;>(refine Qca 5 (hx:=?_);rw[hd.out];exact⟨_,by rw[<-hse];rfl,rfl⟩))
 simp only[if_true] at cP hF2;clear hsm hsg hG
 repeat' first|refine kS ?_|refine qD (iy hr) ?_|(show AWP _ (.region 7 _ _) _ _;refine(Fk.awp_drawG (id:=7) [8,10,11,12,13] [7,14,15] [(12,.row 0 zSt),(13,.row 0 zTr)] [] 7 35 (.tup [oS (g'+1) w2,.d (dTree t2),.d (dB true)]) ?_))|refine(Fk.aw_fltA 9 ?_)|refine(Fk.aw_fltA 10 ?_)|refine Fk.aw_callM [0,1,2,3,4] cP cK (k:=kY ?_)|refine kU ?_|fail
 all_goals first|refine Qdv (l.length -(i+1)) [10,9,3,4,6,7,1000000] [0,1,2,3,4,5,6,7,8] (by omega) ⟨i+1,g'+1,w2,t2,by omega,rfl,Pm.hid hF2,Pm.hid ⟨hWc.1.le (by omega),hWc.2⟩,.inl (by omega),rfl⟩
def Qsh{l:List (List UInt8)}(h:l[i]? =some x):Pl.QaO w t (l.drop i) k=if(Pl.tput w t k x).2.2 then Pl.QaO (Pl.tput w t k x).1 (Pl.tput w t k x).2.1 (l.drop (i+1)) (k+1) else((Pl.tput w t k x).1,t,false):=by
 obtain⟨h1,h2⟩:=A6.1 h;rw[<-A8 h1,h2];rfl
def cut0_le(s:List UInt8):(Pl.cut0 s).length<=s.length:=by
 unfold Pl.cut0;rw[AA];exact AF (List.dropWhile_suffix _).length_le (by rw[AA];exact AD _)
def Pl.Qbq(text:List UInt8)(a n:Nat):List (List UInt8):=(List.range n).map fun i=>Pl.cut0 ((text.take ((a+i+1)*12)).drop ((a+i)*12))
def Pl.QaN(w:Pl.Sto)(n:Pl.Node)(text:List UInt8)(a b:Nat):Pl.Sto×Pl.Node×Bool:=
 ((Pl.QaO w n.tree (Pl.Qbq text a (b+1 -a)) a).1,{n with size:=text.length,tree:=(Pl.QaO w n.tree (Pl.Qbq text a (b+1 -a)) a).2.1},(Pl.QaO w n.tree (Pl.Qbq text a (b+1 -a)) a).2.2)
abbrev rowN(n:Pl.Node):List AV:=[.d (dI n.kind),.d (dI n.links),.d (dI n.size),.d (dI n.tree.root.pat),.d (dI n.tree.root.birth),.d (dI n.tree.root.size),.d (dI n.tree.root.sum),.d (dI n.tree.root.level),.d (dI n.tree.depth),.d (dI n.tree.many)]
abbrev zNd:List AV:=[.d (.v (.int .i64 0)),.d (.v (.int .i64 0)),.d (.v (.int .i64 0)),.d (.v (.int .i64 0)),.d (.v (.int .i64 0)),.d (.v (.int .i64 0)),.d (.v (.int .i64 0)),.d (.v (.int .i64 0)),.d (.v (.int .i64 0)),.d (.v (.int .i64 0))]
def ePut13(g:Nat)(w:Pl.Sto)(N:Nat)(hN:N<=700000)(hw:w.W N)(n:Pl.Node)(ht:Pl.TGood n.tree)(text:List UInt8)(htx:text.length<=100000)(a b:Nat)(hab:a<=b)(hb:b<16)(hbl:b*12<=text.length):
 DoesE AB 199 [oS g w,.d (dNode n),.d (dS text),.d (dI a),.d (dI b)] (hS g w) (gS g w) (fun x H=>x= .tup [oS (g+1) (Pl.QaN w n text a b).1,.d (dNode (Pl.QaN w n text a b).2.1),.d (dB (Pl.QaN w n text a b).2.2)]/\H=hS (g+1) (Pl.QaN w n text a b).1):=by
 refine DoesE.tag (X:=fun g'=> .tup [oS g' (Pl.QaN w n text a b).1,.d (dNode (Pl.QaN w n text a b).2.1),.d (dB (Pl.QaN w n text a b).2.2)]) (C:=fun _=>True) ?_ Qf4;have hl:(Pl.Qbq text a (b+1 -a)).length=b+1 -a:=by simp[Pl.Qbq]
 have hp: ∀i,i<b+1 -a->(Pl.Qbq text a (b+1 -a))[i]? =some (Pl.cut0 ((text.take ((a+i+1)*12)).drop ((a+i)*12))):=fun i hi=>by
  unfold Pl.Qbq;rw[List.getElem?_map,List.getElem?_range hi];rfl
 have hd:Hid (∀r,Pl.QaO w n.tree (Pl.Qbq text a (b+1 -a)) a=r->Pl.QaN w n text a b=(r.1,{n with size:=text.length,tree:=r.2.1},r.2.2)):=Pm.hid fun r hr=>by rw[<-hr];rfl
 generalize Pl.Qbq text a (b+1 -a)=l at*;generalize Pl.QaN w n text a b=res at*;obtain⟨kind,links,size,t⟩:=n;simp only at ht hd;obtain⟨c,hc⟩: ∃c,c=b+1 -a:=⟨_,rfl⟩;rw[<-hc] at hl hp;have hba:b+1=a+c:=by omega
 refine kH fun gvs=>?_
 repeat refine kA ?_
 refine QbS (fun m st=> ∃(i g':Nat) (wi:Pl.Sto) (ti:Pl.Tree),i<=c/\m=c -i/\Hid (Pl.QaO w t l a=Pl.QaO wi ti (l.drop i) (a+i))/\Hid (wi.W (N+15*i)/\Pl.TGood ti)/\(g<g'∨g'=g/\wi.gone.length=w.gone.length)/\
  st=⟨57,[(13,.d (dI (a+i:Nat))),(2,.d (dS text)),(4,.d (dI b)),(5,.ptr 5 0 0),(6,.ptr 6 0 0),(10,.ptr 7 0 0),(11,.ptr 8 0 0),(1000000,.gh (gS g w) gvs)],
   hS g' wi++[.row 0 (rowS g' wi),.row 0 (rowN ⟨kind,links,text.length,ti⟩),.row 0 zSt,.row 0 zNd]⟩) [13,2,4,5,6,10,11,1000000] 9 c
  ⟨0,g,w,t,by omega,rfl,Pm.hid rfl,Pm.hid ⟨hw,ht⟩,.inr ⟨rfl,rfl⟩,rfl⟩ (round:=?_)
 rintro m st ⟨i,g',wi,ti,hi,rfl,hF,hG,hg,rfl⟩;obtain⟨hW,hT⟩:=hG.out;simp only[hS,AC,AE]
 repeat refine kG ?_
 cases q:decide (((a+i:Nat):Int)<=(b:Int))
 ·have hil:i=c:=by simp at q;omega
  have hF2:=hF.out;rw[hil,A9 (by omega)] at hF2
  replace hd:=Pm.hid (hd.out _ (hF2.trans rfl))
  have v0:wi.rows.length=w.rows.length:=by rw[hW.rows,hw.rows]
  have v1:wi.refs.length=w.refs.length:=by rw[hW.refs,hw.refs]
  have v2:wi.last.length=w.last.length:=by rw[hW.last,hw.last]
  clear hF hF2 hG hp
  repeat' first|refine kS ?_|(show AWP _ (.region 11 _ _) _ _;refine(QbP 6 (h:=Fg.awp_drawF (id:=11) [1] [2,3] ?_)))|refine kU ?_|fail
  all_goals first|(rcases hg with hg|⟨rfl,hg⟩<;>(refine Qca 5 (hx:=?_);rw[hd.out];exact⟨_,trivial,rfl,rfl⟩))
 have hil:i<c:=by simp at q;omega
 have hx:=hp i hil;have hs:=Qsh (w:=wi) (t:=ti) (k:=a+i) hx;have hmn:(if(((a+i:Nat):Int)+1)*12<(text.length:Int) then(((a+i:Nat):Int)+1)*12 else(text.length:Int))=((min ((a+i+1)*12) text.length:Nat):Int):=by split<;>omega
 have htk:(text.take (((min ((a+i+1)*12) text.length:Nat):Int)).toNat).drop ((((a+i:Nat):Int))*12).toNat=(text.take ((a+i+1)*12)).drop ((a+i)*12):=by
  have e1:(((min ((a+i+1)*12) text.length:Nat):Int)).toNat=min ((a+i+1)*12) text.length:=by omega
  have e2:((((a+i:Nat):Int))*12).toNat=(a+i)*12:=by omega
  rw[e1,e2,<-List.take_take,List.take_of_length_le (AD text.length)]
 have cc:=al10Cut ((text.take ((a+i+1)*12)).drop ((a+i)*12)) (by simp only[A4,A1];unfold Pm.big;omega)
 have hcl:(Pl.cut0 ((text.take ((a+i+1)*12)).drop ((a+i)*12))).length<=100000:=by
  refine AF (cut0_le _) ?_;simp only[A4,A1];omega
 rw[<-htk] at cc hs hcl;have hmi:min ((a+i+1)*12) text.length<=text.length/\(a+i)*12<=min ((a+i+1)*12) text.length:=by omega
 clear htk;generalize min ((a+i+1)*12) text.length=ed at*;generalize Pl.cut0 ((text.take ((ed:Nat):Int).toNat).drop ((((a+i:Nat):Int))*12).toNat)=x at*;have cP:=(ePut g' wi (N+15*i) (by omega) hW ti hT (a+i) (by omega) x (by unfold Pm.big;omega)).tag3;have hWc:=Qem hW hT (k:=a+i) (by omega) x;have hsm:=QmW (w:=wi) (t:=ti) (k:=a+i) (text:=x);have hsg:=Qdy (w:=wi) (t:=ti) (k:=a+i) (text:=x);generalize Pl.tput wi ti (a+i) x=y at*;obtain⟨w2,t2,ok2⟩:=y;simp only at cP hWc hs hsm hsg;have v0:w2.rows.length=w.rows.length:=by rw[hWc.1.rows,hw.rows]
 have v1:w2.refs.length=w.refs.length:=by rw[hWc.1.refs,hw.refs]
 have v2:w2.last.length=w.last.length:=by rw[hWc.1.last,hw.last]
 have hF2:=hF.out;rw[hs] at hF2;clear hF hs hx hp;cases ok2
 ·simp only[A3,if_false] at cP hF2
  replace hd:=Pm.hid (hd.out _ hF2)
  simp only at hd;have v3:w2.gone.length=wi.gone.length:=by rw[(hsg rfl).1]
  have hse:=hsm rfl g';clear hsm hsg hG
  repeat' first|refine kS ?_|refine qD (Qc3 rfl rfl (by omega)) ?_|refine qS (Qc3 rfl rfl (by omega)) ?_|refine qS (QjJ rfl rfl hmn) ?_|refine qD (Qf7 rfl rfl rfl rfl (by omega) (by omega) (by omega)) ?_|(show AWP _ (.region 6 _ _) _ _;refine(Fk.awp_drawG (id:=6) [11,13,14,15,16] [10,17,18] [(15,.row 0 zSt),(16,.row 0 zTr)] [] 10 44 (.tup [oS g' w2,.d (dTree t2),.d (dB false)]) ?_))|refine(Fk.aw_fltA 9 ?_)|refine(Fk.aw_fltA 10 ?_)|refine Fk.aw_callM [0,1,2,3,4] cP cK (k:=kY ?_)|(show AWP _ (.region 8 _ _) _ _;refine(QbP 6 (h:=Fg.awp_drawF (id:=8) [1] [2,3] ?_)))|refine kU ?_|fail
  all_goals first|(rcases hg with hg|⟨rfl,hg⟩<;>(refine Qca 5 (hx:=?_);rw[hd.out];exact⟨_,trivial,by rw[<-hse];rfl,rfl⟩))
 simp only[if_true] at cP hF2;clear hsm hsg hG
 repeat' first|refine kS ?_|refine qD (Qc3 rfl rfl (by omega)) ?_|refine qS (Qc3 rfl rfl (by omega)) ?_|refine qS (QjJ rfl rfl hmn) ?_|refine qD (Qf7 rfl rfl rfl rfl (by omega) (by omega) (by omega)) ?_|(show AWP _ (.region 6 _ _) _ _;refine(Fk.awp_drawG (id:=6) [11,13,14,15,16] [10,17,18] [(15,.row 0 zSt),(16,.row 0 zTr)] [] 10 44 (.tup [oS (g'+1) w2,.d (dTree t2),.d (dB true)]) ?_))|refine(Fk.aw_fltA 9 ?_)|refine(Fk.aw_fltA 10 ?_)|refine Fk.aw_callM [0,1,2,3,4] cP cK (k:=kY ?_)|refine kU ?_|fail
 all_goals first|refine Qdv (c -(i+1)) [13,2,4,5,6,10,11,1000000] [0,1,2,3,4,5,6,7,8] (by omega) ⟨i+1,g'+1,w2,t2,by omega,rfl,Pm.hid hF2,Pm.hid ⟨hWc.1.le (by omega),hWc.2⟩,.inl (by omega),rfl⟩
def Pl.over(all text:List UInt8)(a:Nat):List UInt8:=(all++A0 (a -all.length) 0).take a++text++(all++A0 (a -all.length) 0).drop (min (all++A0 (a -all.length) 0).length (a+text.length))
def over_ge(all text:List UInt8)(a:Nat):a+text.length<=(Pl.over all text a).length/\(Pl.over all text a).length<=all.length+2*a+text.length:=by
 unfold Pl.over;simp only[A2,A1,A4,A5];omega
def Qs2(all text:List UInt8)(a:Nat):Pl.over all text a=(all++A0 (a -all.length) 0).take ((a:Nat):Int).toNat++text++(all++A0 (a -all.length) 0).drop ((min (all++A0 (a -all.length) 0).length (a+text.length):Nat):Int).toNat:=by
 rw[A7,A7];rfl
def QlT: ∀(l:List (List UInt8)) (k:Nat) {w:Pl.Sto} {t:Pl.Tree} {N:Nat},w.W N->Pl.TGood t->k+l.length<=16->(Pl.QaO w t l k).1.W (N+15*l.length)/\Pl.TGood (Pl.QaO w t l k).2.1
 |[],_,_,_,_,h,ht,_=>⟨h,ht⟩
 |x::l,k,w,t,N,h,ht,hk=>by
  rw[List.length_cons] at hk⊢;have h1:=Qem h ht (k:=k) (by omega) x;simp only[Pl.QaO];split
  ·have h2:=QlT l (k+1) h1.1 h1.2 (by omega)
   exact⟨h2.1.le (by omega),h2.2⟩
  ·exact⟨h1.1.le (by omega),ht⟩
def Qhy{N:Nat}(h:w.W N){n:Pl.Node}(ht:Pl.TGood n.tree){text:List UInt8}{a b:Nat}(hb:a<=b/\b<16):(Pl.QaN w n text a b).1.W (N+240)/\Pl.TGood (Pl.QaN w n text a b).2.1.tree:=by
 have hl:(Pl.Qbq text a (b+1 -a)).length=b+1 -a:=by simp[Pl.Qbq]
 have:=QlT (Pl.Qbq text a (b+1 -a)) a h ht (by omega);exact⟨this.1.le (by omega),this.2⟩
def Pl.Qbw(w:Pl.Sto)(n:Pl.Node)(a:Nat)(text:List UInt8):Pl.Sto×Pl.Node×Bool:=
 if text=[] then(w,n,true) else Pl.QaN w n (Pl.over (Pl.t13 n.size (Pl.Qaa w.st n.tree) n.tree.many.toNat) text a) (a/12) ((a+text.length -1)/12)
theorem Qtc(g:Nat)(w:Pl.Sto)(N:Nat)(hN:N<=700000)(hw:w.W N)(n:Pl.Node)(ht:Pl.TGood n.tree)(hs:0<=n.size/\n.size<=2048)(a:Nat)(text:List UInt8)(hat:a+text.length<=192):
 DoesE AB 157 [oS g w,.d (dNode n),.d (dI a),.d (dS text)] (hS g w) (gS g w) (fun x H=>x= .tup [oS (g+1) (Pl.Qbw w n a text).1,.d (dNode (Pl.Qbw w n a text).2.1),.d (dB (Pl.Qbw w n a text).2.2)]/\H=hS (g+1) (Pl.Qbw w n a text).1):=by
 refine DoesE.tag (X:=fun g'=> .tup [oS g' (Pl.Qbw w n a text).1,.d (dNode (Pl.Qbw w n a text).2.1),.d (dB (Pl.Qbw w n a text).2.2)]) (C:=fun _=>True) ?_ Qf4;have hd:=Pm.hid (Pl.Qbw.eq_def w n a text);generalize Pl.Qbw w n a text=res at*
 by_cases h0:text=[]
 ·rw[if_pos h0] at hd
  subst h0;refine kH fun gvs=>?_
  refine QbP 6 (h:=?_)
  repeat' first|refine kS ?_|refine qS (Qdi (m:=[]) rfl rfl rfl) ?_|(show AWP _ (.region 2 _ _) _ _;refine(Fg.awp_drawF (id:=2) [1] [2,3] ?_))|refine kU ?_|fail
  all_goals first|refine Qca 5 (hx:=?_);rw[hd.out];exact⟨g,trivial,rfl,rfl⟩
 rw[if_neg h0] at hd;have hq:(text==[])=false:=by simpa using h0
 have hpos:0<text.length:=List.length_pos_iff.2 h0;have c1:=QlI w.st hw.good n ht hs;have hle:=QmX n.size (Pl.Qaa w.st n.tree) (texts_le w.st hw.good n.tree) n.tree.many.toNat;have hmh:=ht.manyHi;have hov:=over_ge (Pl.t13 n.size (Pl.Qaa w.st n.tree) n.tree.many.toNat) text a;have cP:=ePut13 g w N hN hw n ht (Pl.over (Pl.t13 n.size (Pl.Qaa w.st n.tree) n.tree.many.toNat) text a) (by omega) (a/12) ((a+text.length -1)/12) (by omega) (by omega) (by omega);generalize Pl.t13 n.size (Pl.Qaa w.st n.tree) n.tree.many.toNat=all at*;have hWc:=(Qhy hw ht (text:=Pl.over all text a) (a:=a/12) (b:=(a+text.length -1)/12) (by omega)).1;generalize Pl.QaN w n (Pl.over all text a) (a/12) ((a+text.length -1)/12)=y at*;rw[Qs2,show(((a/12:Nat)):Int)=(a:Int)/12 by omega,show((((a+text.length -1)/12:Nat)):Int)=((a:Int)+text.length -1)/12 by omega] at cP;have cz:=alZeros ((a:Int) -all.length) (by omega);have hz:((a:Int) -all.length).toNat=a -all.length:=by omega
 rw[hz] at cz;have hzl:(A0 (a -all.length) (0:UInt8)).length=a -all.length:=A5;generalize A0 (a -all.length) (0:UInt8)=zs at*;have hmn:(if(a:Int)+(text.length:Int)<((all++zs).length:Int) then(a:Int)+(text.length:Int) else((all++zs).length:Int))=((min (all++zs).length (a+text.length):Nat):Int):=by split<;>omega
 have hal:(all++zs).length=all.length+zs.length:=A2;have hed:min (all++zs).length (a+text.length)<=(all++zs).length:=by omega
 generalize min (all++zs).length (a+text.length)=ed at*;obtain⟨w2,n2,ok2⟩:=y;have v0:w2.rows.length=w.rows.length:=by rw[hWc.rows,hw.rows]
 have v1:w2.refs.length=w.refs.length:=by rw[hWc.refs,hw.refs]
 have v2:w2.last.length=w.last.length:=by rw[hWc.last,hw.last]
 simp only at cP;clear hWc;refine kH fun gvs=>?_
 refine QbP 6 (h:=?_)
 repeat' first|refine kS ?_|refine qS (Qdi (m:=[]) rfl rfl hq) ?_|refine qS (Qcd cK c1 hw) ?_|refine qD (Qcc rfl rfl (by first|omega|(simp only[A2,A1,A4];omega))) ?_|refine qS (Qcc rfl rfl (by first|omega|(simp only[A2,A1,A4];omega))) ?_|refine qS (QjJ rfl rfl hmn) ?_|refine qD (QdS rfl rfl rfl (by omega) (by omega)) ?_|refine qD (Qew rfl rfl rfl (by omega) (by omega)) ?_|refine qS (QgD rfl rfl (by omega) (by omega)) ?_|refine QbX [0,1,2,3,4] cP cK (k:=kX ?_)|refine kU ?_|fail
 all_goals first|refine Qca 5 (hx:=?_);rw[hd.out];exact⟨_,trivial,rfl,rfl⟩
def Pl.Qbx(w:Pl.Sto)(n:Pl.Node)(size:Nat):Pl.Sto×Pl.Node×Bool:=
 if n.size<=size then
  if(((size+11)/12:Nat):Int)=n.tree.many then(w,{n with size:=size},true) else
  ((Pl.tput w n.tree ((size+11)/12 -1) []).1,{n with size:=size,tree:=(Pl.tput w n.tree ((size+11)/12 -1) []).2.1},(Pl.tput w n.tree ((size+11)/12 -1) []).2.2)
 else if(Pl.cut w n.tree ((size+11)/12)).2.2=false then((Pl.cut w n.tree ((size+11)/12)).1,n,false)
 else if(size+11)/12=0 then((Pl.cut w n.tree ((size+11)/12)).1,{n with tree:=(Pl.cut w n.tree ((size+11)/12)).2.1,size:=size},true)
 else Pl.QaN (Pl.cut w n.tree ((size+11)/12)).1 {n with tree:=(Pl.cut w n.tree ((size+11)/12)).2.1,size:=size} ((Pl.t13 n.size (Pl.Qaa w.st n.tree) n.tree.many.toNat).take size) ((size+11)/12 -1) ((size+11)/12 -1)
def cut_sim{m:Nat}(h:(Pl.cut w t m).2.2=false):Pl.Sim w (Pl.cut w t m).1:=by
 unfold Pl.cut at h⊢;split
 ·rename_i h1;rw[if_pos h1] at h;cases h
 ·rename_i h1
  rw[if_neg h1] at h;split at h
  ·cases h
  ·rename_i h2;rw[if_neg h2];exact Qid (by simpa using h2)
theorem eCut13(g:Nat)(w:Pl.Sto)(N:Nat)(hN:N<=600000)(hw:w.W N)(n:Pl.Node)(ht:Pl.TGood n.tree)(hs:0<=n.size/\n.size<=192)(hmany:n.tree.many=(n.size+11)/12)(size:Nat)(hz:size<=192):
 DoesE AB 158 [oS g w,.d (dNode n),.d (dI size)] (hS g w) (gS g w) (fun x H=>x= .tup [oS (g+1) (Pl.Qbx w n size).1,.d (dNode (Pl.Qbx w n size).2.1),.d (dB (Pl.Qbx w n size).2.2)]/\H=hS (g+1) (Pl.Qbx w n size).1):=by
 refine DoesE.tag (X:=fun g'=> .tup [oS g' (Pl.Qbx w n size).1,.d (dNode (Pl.Qbx w n size).2.1),.d (dB (Pl.Qbx w n size).2.2)]) (C:=fun _=>True) ?_ Qf4;have c1:=QlI w.st hw.good n ht ⟨hs.1,by omega⟩;have hge:=QtC n.size (Pl.Qaa w.st n.tree) n.tree.many.toNat;have hle:=QmX n.size (Pl.Qaa w.st n.tree) (texts_le w.st hw.good n.tree) n.tree.many.toNat;have hmh:=ht.manyHi;have hml:=ht.manyLo;have c2:=Qjz size 12 (by omega) (by omega) (by omega) (by omega);rw[show((size:Int)+12 -1)/12=(((size+11)/12:Nat):Int) by omega] at c2;have hd:=Pm.hid (Pl.Qbx.eq_def w n size);generalize Pl.Qbx w n size=res at*;generalize Pl.t13 n.size (Pl.Qaa w.st n.tree) n.tree.many.toNat=all at*;have hmz:(size+11)/12<=16/\size<=12*((size+11)/12)/\12*((size+11)/12)<=size+11:=by omega
 have hbig:n.size<=size->(((size+11)/12:Nat):Int)≠n.tree.many->1<=(size+11)/12:=by omega
 have hall:size<n.size->size<=all.length:=by intro h;split at hge<;>omega
 generalize (size+11)/12=m at*;have cz:=alZeros ((size:Int) -all.length) (by omega);have hzl:(A0 ((size:Int) -all.length).toNat (0:UInt8)).length<=192:=by rw[A5];omega
 generalize A0 ((size:Int) -all.length).toNat (0:UInt8)=zs at*
 by_cases h1:n.size<=size
 ·rw[if_pos h1] at hd
  have hq1:decide ((size:Int)≥n.size)=true:=by simpa using h1
  by_cases h2:(m:Int)=n.tree.many
  ·rw[if_pos h2] at hd
   have hq2:((m:Int)==n.tree.many)=true:=by simpa using h2
   refine kH fun gvs=>?_
   repeat' first|refine kS ?_|refine qS (Qcd cK c1 hw) ?_|refine qS (Qcc rfl rfl (by first|omega|(simp only[A2];omega))) ?_|(show AWP _ (.region 7 _ _) _ _;refine(QbP 6 (h:=Fg.awp_drawF (id:=7) [1] [2,3] ?_)))|refine kU ?_|refine kV ?_ ?_<;>intro q|fail
   all_goals first|exact absurd (‹decide ((size:Int)≥n.size)=false›.symm.trans hq1) (by decide)|exact absurd (‹((m:Int)==n.tree.many)=false›.symm.trans hq2) (by decide)|refine Qca 5 (hx:=?_);rw[hd.out];exact⟨_,trivial,rfl,rfl⟩
  ·rw[if_neg h2] at hd
   have hq2:((m:Int)==n.tree.many)=false:=by simpa using h2
   have hm1:=hbig h1 h2;have cP:=(ePut g w N (by omega) hw n.tree ht (m -1) (by omega) [] (by simp)).tag3;have hWc:=(Qem hw ht (k:=m -1) (by omega) []).1;have hsg:=Qdy (w:=w) (t:=n.tree) (k:=m -1) (text:=[]);generalize Pl.tput w n.tree (m -1) []=y at*;obtain⟨w2,t2,ok2⟩:=y;simp only at cP hWc hd hsg;rw[show((m -1:Nat):Int)=(m:Int) -1 by omega] at cP;have v0:w2.rows.length=w.rows.length:=by rw[hWc.rows,hw.rows]
   have v1:w2.refs.length=w.refs.length:=by rw[hWc.refs,hw.refs]
   have v2:w2.last.length=w.last.length:=by rw[hWc.last,hw.last]
   have v3:ok2=false->w2.gone.length=w.gone.length:=fun e=>by rw[(hsg e).1]
   clear hsg hWc;cases ok2<;>simp only[A3,if_false,if_true,forall_const] at cP v3
   all_goals
    refine kH fun gvs=>?_
    repeat' first|refine kS ?_|refine qS (Qcd cK c1 hw) ?_|refine qS (Qcc rfl rfl (by first|omega|(simp only[A2];omega))) ?_|refine QbX [0,1,2,3,4] cP cK (k:=kX ?_)|(show AWP _ (.region 10 _ _) _ _;refine(QbP 6 (h:=Fg.awp_drawF (id:=10) [1,2] [3,4] ?_)))|refine kU ?_|refine kV ?_ ?_<;>intro q|fail
    all_goals first|exact absurd (‹decide ((size:Int)≥n.size)=false›.symm.trans hq1) (by decide)|exact absurd (‹((m:Int)==n.tree.many)=true›.symm.trans hq2) (by decide)|refine Qca 5 (hx:=?_);rw[hd.out];exact⟨_,trivial,rfl,rfl⟩
 rw[if_neg h1] at hd;have hq1:decide ((size:Int)≥n.size)=false:=by simpa using h1
 have hsa:=hall (by omega);have cP:=(eCut g w N (by omega) hw n.tree ht m hmz.1).tag3;have hWc:=cut_W hw ht (many:=m) hmz.1;have hsg:=cut_sim (w:=w) (t:=n.tree) (m:=m);generalize Pl.cut w n.tree m=y at*;obtain⟨w2,t2,ok2⟩:=y;simp only at cP hWc hd hsg;have v0:w2.rows.length=w.rows.length:=by rw[hWc.1.rows,hw.rows]
 have v1:w2.refs.length=w.refs.length:=by rw[hWc.1.refs,hw.refs]
 have v2:w2.last.length=w.last.length:=by rw[hWc.1.last,hw.last]
 cases ok2
 ·simp only[A3,if_false,if_true] at cP hd
  obtain⟨z1,z2,z3⟩:=hsg rfl;have v3:w2.gone.length=w.gone.length:=by rw[z1]
  have hse:oS g w=oS g w2:=by simp only[oS,z1,z2,z3]
  clear hWc;refine kH fun gvs=>?_
  repeat' first|refine kS ?_|refine qS (Qcd cK c1 hw) ?_|refine QbX [0,1,2,3,4] cP cK (k:=kX ?_)|(show AWP _ (.region 13 _ _) _ _;refine(QbP 6 (h:=Fg.awp_drawF (id:=13) [1] [2,3] ?_)))|refine kU ?_|refine kV ?_ ?_<;>intro q|fail
  all_goals first|exact absurd (‹decide ((size:Int)≥n.size)=true›.symm.trans hq1) (by decide)|refine Qca 5 (hx:=?_);rw[hd.out];exact⟨g,trivial,by rw[<-hse];rfl,rfl⟩
 simp only[Bool.true_eq_false,if_false,if_true] at cP hd;clear hsg
 by_cases hm0:m=0
 ·rw[if_pos hm0] at hd
  subst hm0;refine kH fun gvs=>?_
  repeat' first|refine kS ?_|refine qS (Qcd cK c1 hw) ?_|refine QbX [0,1,2,3,4] cP cK (k:=kX ?_)|(show AWP _ (.region 17 _ _) _ _;refine(QbP 6 (h:=Fg.awp_drawF (id:=17) [1] [2,3] ?_)))|refine kU ?_|refine kV ?_ ?_<;>intro q|fail
  all_goals first|exact absurd (‹decide ((size:Int)≥n.size)=true›.symm.trans hq1) (by decide)|refine Qca 5 (hx:=?_);rw[hd.out];exact⟨_,trivial,rfl,rfl⟩|exfalso;simp at*;done
 rw[if_neg hm0] at hd;have hqm:((m:Int)==0)=false:=by simpa using hm0
 have c5:=ePut13 (g+1) w2 (N+29) (by omega) hWc.1 {n with tree:=t2,size:=size} hWc.2 (all.take size) (by rw[A1];omega) (m -1) (m -1) (by omega) (by omega) (by rw[A1];omega);have hWd:=(Qhy hWc.1 (n:={n with tree:=t2,size:=size}) hWc.2 (text:=all.take size) (a:=m -1) (b:=m -1) (by omega)).1;generalize Pl.QaN w2 {n with tree:=t2,size:=size} (all.take size) (m -1) (m -1)=z at*;obtain⟨w3,n3,ok3⟩:=z;simp only at c5 hWd hd;rw[show((m -1:Nat):Int)=(m:Int) -1 by omega,show all.take size=all.take ((size:Nat):Int).toNat by rw[A7]] at c5;have u0:w3.rows.length=w.rows.length:=by rw[hWd.rows,hw.rows]
 have u1:w3.refs.length=w.refs.length:=by rw[hWd.refs,hw.refs]
 have u2:w3.last.length=w.last.length:=by rw[hWd.last,hw.last]
 clear hWc hWd;refine kH fun gvs=>?_
 repeat' first|refine kS ?_|refine qS (Qcd cK c1 hw) ?_|refine QbX [0,1,2,3,4] cP cK (k:=kX ?_)|refine qD (QdS rfl rfl rfl (by omega) (by omega)) ?_|refine QdZ [0,1,2,3,4] c5 cK (k:=kZ ?_)|(show AWP _ (.region 18 _ _) _ _;refine(QbP 6 (h:=Fg.awp_drawF (id:=18) [] [9,13,14] ?_)))|refine kU ?_|refine kV ?_ ?_<;>intro q|fail
 all_goals first|exact absurd (‹decide ((size:Int)≥n.size)=true›.symm.trans hq1) (by decide)|exact absurd (‹((m:Int)==0)=true›.symm.trans hqm) (by decide)|refine Qca 5 (hx:=?_);rw[hd.out];exact⟨_,trivial,rfl,rfl⟩

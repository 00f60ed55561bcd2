/- Of fby_card; no condition. -/
import Derived.Test.YtfmnpmhadmcdkaaGreatDoorT25
set_option linter.all false
set_option maxRecDepth 100000
set_option maxHeartbeats 16000000
open Bool renaming false_eq_true->A3
open Go.Proofs.Tryz renaming prog->A2,underlying92->A8
open List renaming getElem?_eq_getElem->A0,mem_of_getElem?->A1,getD_eq_getElem?_getD->A4,take_of_length_le->A5,range->A6,take_add_one->A7
open Nat renaming le_refl->A9
namespace Go.Proofs.YtfmnpmhadmcdkaaGreatDoor
noncomputable section
open Go.RowKit
namespace Aw
variable{k:Nat}{x:List UInt8}
attribute [local irreducible] ASeq ADraw AWP Loc AStep Fg.PlanF Fg.Flts EndR Fk.PlanF Fk.Flts Fk.AStepM Fk.Grew Fk.Gs
def ePut11(g:Nat)(w:Pl.Sto)(N:Nat)(hN:N<=800000)(hw:w.W N)(t:Pl.Tree)(ht:Qx t)(k:Nat)(hk:k<16)(n:Qj)(hn:(Q6 n).length<=Pm.big):
 DoesE A2 47 [oS g w,.d (dTree t),.d (dI k),.d (dNode n)] (hS g w) (gS g w) (fun x H=>x= .tup [oS (if(Qm w t k (Q6 n)).2.2 then g+1 else g) (Qm w t k (Q6 n)).1,.d (dTree (Qm w t k (Q6 n)).2.1),.d (dB (Qm w t k (Q6 n)).2.2)]/\H=hS (if(Qm w t k (Q6 n)).2.2 then g+1 else g) (Qm w t k (Q6 n)).1):=by
 have c1:=Qoq n;have c2:=(ePut g w N (by omega) hw t ht k hk (Q6 n) hn).tag3;have hWc:=QeV hw ht (k:=k) hk (Q6 n);have hsg:=Qeh (w:=w) (t:=t) (k:=k) (text:=Q6 n);generalize Qm w t k (Q6 n)=y at*;generalize Q6 n=text at*;obtain⟨w2,t2,ok⟩:=y;simp only at c2 hWc hsg;have v0:w2.rows.length=w.rows.length:=by rw[hWc.1.rows,hw.rows]
 have v1:w2.refs.length=w.refs.length:=by rw[hWc.1.refs,hw.refs]
 have v2:w2.last.length=w.last.length:=by rw[hWc.1.last,hw.last]
 have v3:ok=false->w2.gone.length=w.gone.length:=fun e=>by rw[(hsg e).1]
 clear hsg hWc;cases ok<;>simp only[A3,if_false,if_true,forall_const] at c2 v3
 all_goals
  refine kH fun gvs=>?_
  refine Qa 6 (h:=?_);refine Qa 7 (h:=?_)
  repeat' first|refine kS ?_|(show AWP _ (.region 1 _ _) _ _;refine(Fg.awp_drawF (id:=1) [] [5,9,10] ?_))|refine QeL [0,1,2,3,4] c2 cK (k:=kZ ?_)|refine kU ?_|fail
  all_goals first|refine QN 5 (hx:=?_);exact⟨rfl,rfl⟩
abbrev rowF(g:Nat)(w:Pl.Sto)(t:Pl.Tree)(full:Bool):List AV:=[.osl 0 1 0 64,.osl 1 1 0 64,.osl 2 1 0 64,.d (dI w.txg),.osl 3 g 0 w.gone.length,.d (dI 0),.osl 4 1 0 0,.d (dB w.same),.d (dI t.root.pat),.d (dI t.root.birth),.d (dI t.root.size),.d (dI t.root.sum),.d (dI t.root.level),.d (dI t.depth),.d (dI t.many),.d (dB full)]
abbrev hF(g:Nat)(f:Q4):List Blk:=[.arr 1 1 9 (rS f.1.rows),.arr 1 1 3 (rI f.1.refs),.arr 1 1 3 (rI f.1.last),.arr g 5 31 (f.1.gone.map rPtr),.arr 1 5 31 [],.row 0 (rowF g f.1 f.2.1 f.2.2)]
abbrev gF(g:Nat)(w:Pl.Sto):List AV:=[.osl 0 1 0 64,.osl 1 1 0 64,.osl 2 1 0 64,.osl 3 g 0 w.gone.length,.osl 4 1 0 0,.ptr 5 0 0]
section
variable{σ:Sg}{S:Nat->Prop}{f:Q4}{g1 g2:Nat}{wd:World}{v:Value}
theorem QeM{g:Nat}{len:Nat}(hk:k≠3)(h:Rel σ S (hF g1 f) wd (.osl k g 0 len) v):Rel σ S (hF g2 f) wd (.osl k g 0 len) v:=by
 cases h with
 |osl _ _ _ _ _ ho g' sz T rows hb hg h=>
  refine .osl _ _ _ _ _ ho g' sz T rows ?_ hg h
  grind
def QpT{len:Nat}(h:Rel σ S (hF g1 f) wd (.osl 3 g1 0 len) v):Rel σ S (hF g2 f) wd (.osl 3 g2 0 len) v:=by
 cases h with
 |osl _ _ _ _ _ ho g' sz T rows hb hg h=>
  cases hb;exact .osl _ _ _ _ _ ho _ _ _ _ rfl (A9 _) fun _=>h rfl
def Qdp{x:D}(h:Rel σ S (hF g1 f) wd (.d x) v):Rel σ S (hF g2 f) wd (.d x) v:=by
 cases h with
 |d _ _ h=>exact .d _ _ h
def Qs8(h:Rel σ S (hF g1 f) wd (.ptr 5 0 0) v):Rel σ S (hF g2 f) wd (.ptr 5 0 0) v:=by
 cases h with
 |ptr _ _ _ _ ho g' cells hb hg h=>cases hb;exact .ptr _ _ _ _ ho _ _ rfl (A9 _) h
def Qlb(h:Rel σ S (hF g1 f) wd (.tup []) v):Rel σ S (hF g2 f) wd (.tup []) v:=by
 cases h with
 |tup _ cs hl h=>exact .tup _ cs hl fun i d x hd hx=>by cases hd
def Qs7{j:Nat}{x:AV}(hj:(rowF g2 f.1 f.2.1 f.2.2)[j]? =some x){y:AV}(hj1:(rowF g1 f.1 f.2.1 f.2.2)[j]? =some y)(h:Rel σ S (hF g1 f) wd y v):Rel σ S (hF g2 f) wd x v:=by
 match j,hj,hj1 with
 |0,hj,hj1=>cases hj;cases hj1;exact QeM (by decide) h
 |1,hj,hj1=>cases hj;cases hj1;exact QeM (by decide) h
 |2,hj,hj1=>cases hj;cases hj1;exact QeM (by decide) h
 |3,hj,hj1=>cases hj;cases hj1;exact Qdp h
 |4,hj,hj1=>cases hj;cases hj1;exact QpT h
 |5,hj,hj1=>cases hj;cases hj1;exact Qdp h
 |6,hj,hj1=>cases hj;cases hj1;exact QeM (by decide) h
 |7,hj,hj1=>cases hj;cases hj1;exact Qdp h
 |8,hj,hj1=>cases hj;cases hj1;exact Qdp h
 |9,hj,hj1=>cases hj;cases hj1;exact Qdp h
 |10,hj,hj1=>cases hj;cases hj1;exact Qdp h
 |11,hj,hj1=>cases hj;cases hj1;exact Qdp h
 |12,hj,hj1=>cases hj;cases hj1;exact Qdp h
 |13,hj,hj1=>cases hj;cases hj1;exact Qdp h
 |14,hj,hj1=>cases hj;cases hj1;exact Qdp h
 |15,hj,hj1=>cases hj;cases hj1;exact Qdp h
 |j+16,hj,hj1=>cases hj
theorem smF_tag{B:Bs}(h:Sm B σ S (hF g1 f) wd):Sm B σ S (hF g2 f) wd:=
 {h with
  blk:=fun k C hC=>by
   match k,hC with
   |0,hC=>cases hC;exact h.blk 0 _ rfl
   |1,hC=>cases hC;exact h.blk 1 _ rfl
   |2,hC=>cases hC;exact h.blk 2 _ rfl
   |3,hC=>cases hC;exact h.blk 3 _ rfl
   |4,hC=>cases hC;exact h.blk 4 _ rfl
   |5,hC=>
    cases hC;rcases h.blk 5 _ rfl with⟨b,cs,T,h1,h2,h3⟩|⟨_,h2⟩
    ·refine .inl ⟨b,cs,T,h1,h2,fun j x hj=>?_⟩
     have hl:j<16:=(List.getElem?_eq_some_iff.1 hj).1;obtain⟨u,hu,hr⟩:=h3 j _ (A0 (l:=rowF g1 f.1 f.2.1 f.2.2) hl);exact⟨u,hu,Qs7 hj (A0 (l:=rowF g1 f.1 f.2.1 f.2.2) hl) hr⟩
    grind
   |k+6,hC=>cases hC}
end
theorem DoesE.tagF{fn:FuncId}{args:List AV}{w:Pl.Sto}{f0 f:Q4}{g:Nat}{X:AV}{C:Nat->Prop}(h:DoesE A2 fn args (hF g f0) (gF g w) (fun x H=> ∃g',C g'/\x=X/\H=hF g' f))
 (hX: ∀{σ:Sg} {S:Nat->Prop} {g1 g2:Nat} {wd:World} {v:Value},Rel σ S (hF g1 f) wd X v->Rel σ S (hF g2 f) wd X v):
 DoesE A2 fn args (hF g f0) (gF g w) (fun x H=>x=X/\H=hF (g+1) f):=by
 intro B σ S w0 cargs gvs h1 h2 h3 h4 h5 h6;refine(h B σ S w0 cargs gvs h1 h2 h3 h4 h5 h6).mono ?_;rintro _ _ ⟨x,H1,⟨g',h0,rfl,rfl⟩,h7,v,σ',S',rfl,h8,h9,h10⟩;refine⟨_,_,⟨rfl,rfl⟩,fun i C0 hC=>?_,v,σ',S',rfl,smF_tag h8,hX h9,fun i d v hd hv=>?_⟩
 ·obtain⟨C',e1,e2⟩:=h7 i C0 hC
  match i,hC,e1 with
  |0,hC,e1=>grind
  |1,hC,e1=>grind
  |2,hC,e1=>grind
  |3,hC,e1=>cases hC;exact⟨_,rfl,rfl,rfl,.inl (Nat.lt_succ_self g)⟩
  |4,hC,e1=>grind
  |5,hC,e1=>cases hC;exact⟨_,rfl,.inr ⟨rfl,0,by simp⟩⟩
  |i+6,hC,e1=>cases hC
 ·have e:=h10 i d v hd hv
  match i,hd with
  |0,hd=>cases hd;exact QeM (by decide) e
  |1,hd=>cases hd;exact QeM (by decide) e
  |2,hd=>cases hd;exact QeM (by decide) e
  |3,hd=>cases hd;cases e with
   |osl _ _ _ _ _ ho g2 sz T rows hb hg h=>exact .osl _ _ _ _ _ ho _ _ _ _ rfl (Nat.le_succ g) fun h=>absurd h (by omega)
  |4,hd=>cases hd;exact QeM (by decide) e
  |5,hd=>cases hd;exact Qs8 e
  |i+6,hd=>cases hd
def ePutF(g:Nat)(f:Q4)(N:Nat)(hN:N<=800000)(hw:f.1.W N)(ht:Qx f.2.1)(k:Nat)(hk:k<16)(n:Qj)(hn:(Q6 n).length<=Pm.big):
 DoesE A2 218 [.ptr 5 0 0,.d (dI k),.d (dNode n)] (hF g f) (gF g f.1) (fun x H=>x= .tup []/\H=hF (g+1) (Qaq f k n)):=by
 refine DoesE.tagF (C:=fun _=>True) ?_ Qlb;obtain⟨w,t,full⟩:=f;simp only at hw ht⊢;cases full
 ·have hd:Hid (Qaq (w,t,false) k n=((Qm w t k (Q6 n)).1,(Qm w t k (Q6 n)).2.1,!(Qm w t k (Q6 n)).2.2)):=Pm.hid rfl
  generalize Qaq (w,t,false) k n=res at*;have cP:=ePut11 g w N hN hw t ht k hk n hn;have hWc:=(QeV hw ht hk (Q6 n)).1;have hsg:=Qeh (w:=w) (t:=t) (k:=k) (text:=Q6 n);generalize Qm w t k (Q6 n)=y at*;obtain⟨w2,t2,ok2⟩:=y;simp only at cP hWc hsg hd;have v0:w2.rows.length=w.rows.length:=by rw[hWc.rows,hw.rows]
  have v1:w2.refs.length=w.refs.length:=by rw[hWc.refs,hw.refs]
  have v2:w2.last.length=w.last.length:=by rw[hWc.last,hw.last]
  have v3:ok2=false->w2.gone.length=w.gone.length:=fun e=>by rw[(hsg e).1]
  clear hsg hWc hn;cases ok2<;>simp only[A3,if_false,if_true,forall_const] at cP v3
  ·refine kH fun gvs=>?_
   refine Qa 6 (h:=?_)
   repeat' first|refine kS ?_|(show AWP _ (.region 2 _ _) _ _;refine(Fk.awp_drawG (id:=2) [11,13,14,15,16] [10,17,18] [(15,.row 0 zSt),(16,.row 0 zTr)] [] 10 24 (.tup [oS g w2,.d (dTree t2),.d (dB false)]) ?_))|refine(Fk.aw_fltA 7 ?_)|refine(Fk.aw_fltA 8 ?_)|refine Fk.aw_callM [0,1,2,3,4] cP cK (k:=kY ?_)|refine kU ?_|fail
   all_goals first|refine endR0 6 (hx:=?_);rw[hd.out];exact⟨_,trivial,rfl,rfl⟩
  ·refine kH fun gvs=>?_
   refine Qa 6 (h:=?_)
   repeat' first|refine kS ?_|(show AWP _ (.region 2 _ _) _ _;refine(Fk.awp_drawG (id:=2) [11,13,14,15,16] [10,17,18] [(15,.row 0 zSt),(16,.row 0 zTr)] [] 10 24 (.tup [oS (g+1) w2,.d (dTree t2),.d (dB true)]) ?_))|refine(Fk.aw_fltA 7 ?_)|refine(Fk.aw_fltA 8 ?_)|refine Fk.aw_callM [0,1,2,3,4] cP cK (k:=kY ?_)|refine kU ?_|fail
   all_goals first|refine endR0 6 (hx:=?_);rw[hd.out];exact⟨_,trivial,rfl,rfl⟩
 ·refine kH fun gvs=>?_
  refine Qa 6 (h:=?_)
  repeat refine kA ?_
  all_goals first|refine Qod 6 (hx:=?_);exact⟨g,trivial,rfl,rfl⟩
theorem QoP{l:List Pl.Ptr}{i:Nat}{x:Pl.Ptr}(h:l[i]? =some x)(w:Pl.Sto):w.freeL (l.take (i+1))=(w.freeL (l.take i)).free x:=by grind [A7,Pl.Sto.freeL]
def eDrop11(g:Nat)(w:Pl.Sto)(N:Nat)(hN:N<=700000)(hw:w.W N)(t:Pl.Tree)(ht:Qx t)(k:Nat)(hk:k<16)(hnt:Qx (Q5 w.st t k).1.tree)(hsub:Qce w.st (Q5 w.st t k).1.tree.depth.toNat (Q5 w.st t k).1.tree.root)(hlo: ∀p∈Qan w.st (Q5 w.st t k).1.tree,Pl.ptrOk p=true):
 DoesE A2 226 [oS g w,.d (dTree t),.d (dI k)] (hS g w) (gS g w) (fun x H=>x= .tup [oS (g+1) (Qay w t k (Qan w.st (Q5 w.st t k).1.tree) (Qal (Qc w.st t) k)).1,.d (dTree (Qay w t k (Qan w.st (Q5 w.st t k).1.tree) (Qal (Qc w.st t) k)).2.1),.d (dB (Qay w t k (Qan w.st (Q5 w.st t k).1.tree) (Qal (Qc w.st t) k)).2.2)]/\H=hS (g+1) (Qay w t k (Qan w.st (Q5 w.st t k).1.tree) (Qal (Qc w.st t) k)).1):=by
 refine DoesE.tag (X:=fun g'=> .tup [oS g' (Qay w t k (Qan w.st (Q5 w.st t k).1.tree) (Qal (Qc w.st t) k)).1,.d (dTree (Qay w t k (Qan w.st (Q5 w.st t k).1.tree) (Qal (Qc w.st t) k)).2.1),.d (dB (Qay w t k (Qan w.st (Q5 w.st t k).1.tree) (Qal (Qc w.st t) k)).2.2)]) (C:=fun _=>True) ?_ QfU;have hgood:=hw.good;have c1:=al11Get w.st hgood t ht k;have c2:=QtF w.st hgood t ht k;have c3:=dAll w.st hgood (Q5 w.st t k).1.tree hnt hsub;have hal:=QhX (s:=w.st) hnt.hi;have hml:Qal (Qc w.st t) k<=16:=Nat.le_trans (QgI _ _) (by rw[texts_len _ ht];have:=ht.manyHi;omega);have hd: ∀l m,Hid (Qay w t k l m=if(Qm (w.freeL l) t k []).2.2 then QM (Qm (w.freeL l) t k []).1 (Qm (w.freeL l) t k []).2.1 m else Qm (w.freeL l) t k []):=fun l m=>Pm.hid rfl
 replace hd:=hd (Qan w.st (Q5 w.st t k).1.tree) (Qal (Qc w.st t) k)
 generalize Qal (Qc w.st t) k=many at*;generalize Qan w.st (Q5 w.st t k).1.tree=l at*;generalize Q5 w.st t k=nd at*;obtain⟨n,ok0⟩:=nd;simp only at c1 c3;generalize Qay w t k l many=res at*
 have hfl:[Blk.arr l.length 5 31 (l.map rPtr)].all Blk.flat=true:=by
  simp[Blk.flat];intro x _;exact⟨rfl,rfl,rfl,rfl,rfl⟩
 have hT:(l.map rPtr).take l.length=l.map rPtr:=A5 (by simp);clear hnt hsub;refine kH fun gvs=>?_
 repeat' first|refine kS ?_|refine qS (QcZ cK c1 hw) ?_|refine qS (QcZ cK c2 hw) ?_|refine(QdK (ds:=[dTree n.tree]) c3 cK hw rfl hfl (k:=?_))|refine kU ?_|fail
 refine Qa 10 (C:= .arr l.length 5 31 (l.map rPtr)) (h:=?_);rw[hT]
 refine Qo (fun m st=> ∃(i g':Nat) (wi:Pl.Sto),i<=l.length/\m=l.length -i/\Hid (wi=w.freeL (l.take i))/\Hid (wi.W (N+i))/\(g<g'∨g'=g/\wi.gone.length=w.gone.length)/\
  st=⟨61,[(13,.d (dI i)),(12,.d (tPtrs l)),(11,.d (dI many)),(2,.d (dI k)),(3,.ptr 5 0 0),(4,.ptr 6 0 0),(6,.ptr 7 0 0),(7,.ptr 8 0 0),(1000000,.gh (gS g w) gvs)],
   hS g' wi++[.row 0 (rowS g' wi),.row 0 (rowT t),.row 0 zSt,.row 0 zTr]⟩) [13,12,11,2,3,4,6,7,1000000] 9 l.length
  ⟨0,g,w,by omega,rfl,Pm.hid rfl,Pm.hid hw,.inr ⟨rfl,rfl⟩,rfl⟩ (round:=?_)
 rintro m st ⟨i,g',wi,hi,rfl,hF,hG,hg,rfl⟩;have hW:=hG.out;simp only[hS,List.cons_append,List.nil_append]
 repeat refine kG ?_
 cases q:decide ((i:Int)<(l.length:Int))
 ·have hil:i=l.length:=by simp at q;omega
  have hF2:=hF.out;rw[hil,A5 (A9 _)] at hF2;rw[<-hF2] at hd;have cP:=(ePut g' wi (N+i) (by omega) hW t ht k hk [] (by simp)).tag3;have hWc:=QeV hW ht (k:=k) hk [];have hsg:=Qeh (w:=wi) (t:=t) (k:=k) (text:=[]);generalize Qm wi t k []=y at*;obtain⟨w2,t2,ok2⟩:=y;simp only at cP hWc hsg hd;have v0:w2.rows.length=w.rows.length:=by rw[hWc.1.rows,hw.rows]
  have v1:w2.refs.length=w.refs.length:=by rw[hWc.1.refs,hw.refs]
  have v2:w2.last.length=w.last.length:=by rw[hWc.1.last,hw.last]
  clear hF hF2 hG c1 c2 c3 hfl;cases ok2
  ·simp only[A3,if_false] at cP hd
   have v3:w2.gone.length=wi.gone.length:=by rw[(hsg rfl).1]
   clear hsg
   repeat' first|refine kS ?_|refine QA [0,1,2,3,4] cP cK (k:=kX ?_)|(show AWP _ (.region 10 _ _) _ _;refine(Qa 6 (h:=Fg.awp_drawF (id:=10) [1] [2,3] ?_)))|refine kU ?_|fail
   all_goals first|(rcases hg with hg|⟨rfl,hg⟩<;>(refine QN 5 (hx:=?_);rw[hd.out];exact⟨_,trivial,rfl,rfl⟩))
  ·simp only[if_true] at cP hd
   clear hsg;have c4:=pinS (X:=fun g2=> .tup [oS g2 (QM w2 t2 many).1,.d (dTree (QM w2 t2 many).2.1),.d (dB (QM w2 t2 many).2.2)]) (C:=fun g2=>(QM w2 t2 many).2.2=false->g2=g'+1) (eCut (g'+1) w2 (N+i+15) (by omega) hWc.1 t2 hWc.2 many hml);have hWd:=(cut_W hWc.1 hWc.2 (many:=many) hml).1;generalize QM w2 t2 many=z at*;obtain⟨w3,t3,ok3⟩:=z;simp only at c4 hWd hd;have u0:w3.rows.length=w.rows.length:=by rw[hWd.rows,hw.rows]
   have u1:w3.refs.length=w.refs.length:=by rw[hWd.refs,hw.refs]
   have u2:w3.last.length=w.last.length:=by rw[hWd.last,hw.last]
   repeat' first|refine kS ?_|refine QA [0,1,2,3,4] cP cK (k:=kX ?_)|(refine QA [0,1,2,3,4] c4 cK (k:=?_);rintro _ _ ⟨g3,hg3,hC,rfl,rfl⟩;refine Qd1 (k:=?_))|refine kU ?_|fail
   all_goals first
    |(have hg4:g<g3:=by
       rcases hg with h1|⟨h1,h2⟩<;>rcases hg3 with h3|⟨h3,h4⟩<;>omega
      refine QN 5 (hx:=?_);rw[hd.out];exact⟨_,trivial,rfl,rfl⟩)
 have hil:i<l.length:=by simp at q;omega
 obtain⟨x,hx⟩: ∃x,l[i]? =some x:=⟨_,A0 hil⟩;have hr:=Qt (f:=rPtr) hx;have hxo:=hlo x (A1 hx);have cf:=eFree2 g' wi (N+i) (by omega) hW x hxo;have hWf:=(hW.free hxo).le (M:=N+(i+1)) (by omega);have hst:Hid (wi.free x=w.freeL (l.take (i+1))):=Pm.hid (by rw[QoP hx,hF.out]);clear hx hF hG c1 c2 c3 hd;generalize wi.free x=wf at*
 repeat' first|refine kS ?_|refine qD (iy hr) ?_|(show AWP _ (.region 7 _ _) _ _;refine(Fg.awp_drawF (id:=7) [] [5,6] ?_))|(refine QeL [0,1,2,3,4] cf cK (k:=?_);rintro _ _ ⟨g4,hg4,rfl,rfl⟩;refine QkA (k:=?_))|refine kU ?_|fail
 all_goals first|refine Qh (l.length -(i+1)) (by omega) ⟨i+1,g4,wf,by omega,rfl,hst,Pm.hid hWf,(by rcases hg with h1|⟨h1,h2⟩<;>rcases hg4 with h3|⟨h3,h4⟩<;>first|(left;omega)|(right;exact⟨by omega,by omega⟩)),?_⟩;simp[keepE,go_sem];done
def Qco(l:List (List UInt8))(k:Int):Qj×Bool:=if Pl.inR k 0 ((l.length:Int) -1)&& !(l.getD k.toNat []==[]) then((Qp (l.getD k.toNat [])).1,true) else(Qd,false)
def bNodeAt(l:List (List UInt8))(k:Int)(hl:l.length<=1000):Pure A2 32 [tNds l,dI k] (.tup [dNode (Qco l k).1,dB (Qco l k).2]):=by
 have hd:=Pm.hid (Qco.eq_def l k);have c1:=bIn k 0 ((l.length:Int) -1);cases hi:Pl.inR k 0 ((l.length:Int) -1)
 ·rw[hi] at c1 hd
  refine kC ?_
  repeat refine kA ?_
  (refine Qa 0 (h:=?_);refine QR (hx:=?_))
  rw[hd.out];rfl
 rw[hi] at c1 hd;have hb:0<=k/\k<=(l.length:Int) -1:=by simpa[Pl.inR] using hi
 obtain⟨j,rfl⟩:=Int.eq_ofNat_of_zero_le hb.1;obtain⟨x,hx⟩: ∃x,l[j]? =some x:=⟨_,A0 (by omega)⟩;have hr:=Qt (f:=fun x=>[QaR x]) hx;have hg:l.getD ((j:Nat):Int).toNat []=x:=by rw[Int.toNat_natCast,A4,hx];rfl
 rw[hg] at hd
 by_cases hn:x=[]
 ·have e:QaR x= .v (.pointer none):=by unfold QaR;rw[if_pos hn]
  rw[e] at hr;refine kC ?_
  repeat' first|refine kS ?_|refine qS (iy hr) ?_|refine qS (Qgu A8 rfl) ?_|refine kU ?_|fail
  all_goals
   (refine Qa 0 (h:=?_);refine QR (hx:=?_))
   rw[hd.out,hn];rfl
 have e:QaR x= .pd (rNode (Qp x).1):=by unfold QaR;rw[if_neg hn]
 rw[e] at hr;have hnb:(x==[])=false:=by simpa using hn
 rw[hnb] at hd;generalize (Qp x).1=N at*;obtain⟨kind,links,size,⟨⟨p1,p2,p3,p4,p5⟩,depth,many⟩⟩:=N;refine kC ?_
 repeat' first|refine kS ?_|refine qS (iy hr) ?_|refine qS (QeN A8 rfl) ?_|refine qS (Qdi rfl) ?_|refine kU ?_|fail
 all_goals
  (refine Qa 0 (h:=?_);refine QR (hx:=?_))
  rw[hd.out];rfl
theorem QrH{l:List (List UInt8)}(hx:l[k]? =some x)(h:(A6 k).all (Qav l)=true)(hb:Qav l k=true):(A6 (k+1)).all (Qav l)=true:=by grind
theorem QqX{l:List (List UInt8)}(hx:l[k]? =some x):(l.take (k+1)).flatten=(l.take k).flatten++x:=by grind [A7]
theorem flat_le{m:Nat}: ∀{l:List (List UInt8)},(∀x∈l,x.length<=m)->l.flatten.length<=l.length*m
 :=by intro l;induction l<;>grind [Nat.add_mul]
def Qb9(s:Pm.Store)(n:Qj):List UInt8×Bool:=if QH s n.tree&&(QaL (Qc s n.tree)).2 then((QaL (Qc s n.tree)).1,decide (((QaL (Qc s n.tree)).1.length:Int)=n.size)) else([],false)
theorem Qna(s:Pm.Store)(hg:QP s)(htx:0<=s.2.2.1)(n:Qj):Pure A2 108 [.pd (rSt s),dNode n] (.tup [dS (Qb9 s n).1,dB (Qb9 s n).2]):=by
 have c1:=bLeaves s hg htx n.tree;have hd:=Pm.hid (Qb9.eq_def s n);cases ht:QH s n.tree
 ·have e:QD s n.tree=([],false):=by unfold QD;rw[if_neg (by rw[ht];simp)]
  rw[e] at c1;rw[ht] at hd;refine kE ?_;refine Qa 0 (h:=?_)
  repeat refine kA ?_
  refine Qb (hx:=?_);rw[hd.out];rfl
 have e2:(QD s n.tree).2=true:=by unfold QD;rw[if_pos ht]
 have hlen:=Qd9 ht;have hho:=Pm.hid (Qer ht);have htx2:=Pm.hid (Qey ht);rw[ht,Bool.true_and] at hd;rw[e2] at c1;rw[<-hlen.1] at hlen;generalize (QD s n.tree).1=l at*;have hl16:l.length<=16:=hlen.2;have htl:(Qc s n.tree).length=l.length:=by rw[<-htx2.out,List.length_map]
 have hle:=texts_le s hg n.tree;have hgt:Hid (∀(k:Nat) p,l[k]? =some p->(Qc s n.tree)[k]? =some (Qf s.1 p).1):=Pm.hid fun k p hk=>by rw[<-htx2.out,List.getElem?_map,hk];rfl
 clear htx2 hlen e2 ht;generalize Qc s n.tree=xs at*;have hbl:=Pm.hid (QaL.eq_def xs)
 have hNo:Hid (∀k,k<l.length->Qav xs k=false->Qb9 s n=([],false)):=Pm.hid fun k hk h=>by
  have:(A6 xs.length).all (Qav xs)=false:=by rw[List.all_eq_false];exact⟨k,List.mem_range.2 (by omega),by rw[h];simp⟩
  rw[hd.out,hbl.out,this];rfl
 generalize QaL xs=bl at*;generalize hres:Qb9 s n=res at*;clear hres;refine kE ?_;refine Qa 0 (h:=?_)
 repeat refine kA ?_
 refine Qo (fun m st=> ∃(k:Nat) (acc:List UInt8),k<=l.length/\m=l.length -k/\acc.length<=k*128/\Hid (acc=(xs.take k).flatten)/\Hid ((A6 k).all (Qav xs)=true)/\
  st=⟨59,[(0,.d (.pd (rSt s))),(3,.d (.pd (rNode n))),(6,.d (tPtrs l)),(22,.d (tPtrs l)),(23,.d (dI l.length)),(24,.d (dI k)),(8,.d (dS acc))],[.row 1 []]⟩) [0,3,6,22,23,24,8] 1 l.length
  ⟨0,[],by omega,rfl,by simp,Pm.hid (by simp),Pm.hid rfl,by simp[keepE,go_sem]⟩ (round:=?_)
 rintro m st ⟨k,acc,hk,rfl,hal,hac,hA,rfl⟩
 repeat refine kG ?_
 cases q4:decide ((k:Int)<(l.length:Int))
 ·repeat refine kA ?_
  refine Qb (hx:=?_);have:k=l.length:=by simp at q4;omega
  subst this;rw[<-htl] at hA hac;rw[hd.out,hbl.out,if_pos hA.out];rw[List.take_length] at hac;rw[hac.out];simp only[if_true];rfl
 have hk2:k<l.length:=by simp at q4;omega
 obtain⟨x,hx⟩: ∃x,l[k]? =some x:=⟨_,A0 hk2⟩;have hr:=Qt (f:=rPtr) hx;obtain⟨ho1,ho2⟩:=hho.out x (A1 hx);have c3:=bRead s hg x fun _=>ho1
 have hxk:=hgt.out k x hx;have hxl:=hle _ (A1 hxk);have hstep:=Pm.hid (QqX hxk);have hball:Hid (Qav xs k=true->(A6 (k+1)).all (Qav xs)=true):=Pm.hid (QrH hxk hA.out)
 have hbat:Hid (Qav xs k=(!((Qf s.1 x).1==[])&&(!decide ((k:Int)<(l.length:Int) -1)|| !(((Qf s.1 x).1.length:Int) !=128)))):=Pm.hid (by
  unfold Qav;rw[A4,hxk,htl];simp only[Option.getD_some];generalize (Qf s.1 x).1=y
  have a1:decide (k+1=l.length)= !decide ((k:Int)<(l.length:Int) -1):=by
   by_cases h:k+1=l.length
   ·rw[decide_eq_true h,decide_eq_false (by omega)];rfl
   ·rw[decide_eq_false h,decide_eq_true (by omega)];rfl
  have a2:decide (y.length=128)= !((y.length:Int) !=128):=by
   by_cases h:y.length=128
   ·rw[decide_eq_true h,h];rfl
   ·have h2:((y.length:Int) !=128)=true:=by rw[bne_iff_ne];omega
    rw[decide_eq_false h,h2];rfl
  rw[a1,a2])
 have hbad:=Pm.hid (hNo.out k hk2);clear hho hgt hA hd hbl hNo hle hxk ho1 ho2;generalize Qav xs k=bk at*;generalize Qf s.1 x=rb at*;obtain⟨tx,fine⟩:=rb;simp only at*
 repeat' first|refine kS ?_|refine qS (iy hr) ?_|refine qS (QcX rfl rfl (by first|omega|(simp;omega))) ?_|refine kU ?_|refine kV ?_ ?_<;>intro q|fail
 all_goals clear c1 c3 hr
 all_goals first
  |(refine Qb (hx:=?_)
    rw[hbad.out (by rw[hbat.out];clear hball hbad hbat hstep hac;simp_all)])
  |(refine Qh (l.length -(k+1)) (by omega) ⟨k+1,acc++tx,by omega,rfl,by rw[List.length_append];omega,Pm.hid (by rw[hstep.out,hac.out]),Pm.hid (hball.out (by rw[hbat.out];clear hball hbad hbat hstep hac;simp_all)),by simp[keepE,go_sem]⟩)

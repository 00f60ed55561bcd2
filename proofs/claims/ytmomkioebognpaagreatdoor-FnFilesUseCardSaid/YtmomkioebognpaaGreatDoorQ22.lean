/- Of fuse_card; no condition. -/
import Derived.Test.YtmomkioebognpaaGreatDoorQ20
import Derived.Test.YtmomkioebognpaaGreatDoorQ21
set_option linter.all false
set_option maxRecDepth 100000
set_option maxHeartbeats 16000000
open Bool renaming and_eq_true->A0
open Go.Proofs.Tryz renaming prog->A4
open Int renaming toNat_natCast->A1,le_refl->A3
open Nat renaming zero_add->A2
namespace Go.Proofs.YtmomkioebognpaaGreatDoor
noncomputable section
open Go.RowKit
namespace Aw
variable{t:Pl.Tree}
attribute [local irreducible] ASeq ADraw AWP Loc AStep Fg.PlanF Fg.Flts EndR
def ePut_b(g:Nat)(w:Pl.Sto)(N:Nat)(hN:N<=800000)(hw:w.W N)(t:Pl.Tree)(ht:Pl.TGood t)(k:Nat)(hk:k<16)(text:List UInt8)(htx:text.length<=Pm.big)(h1: ¬(Pl.rd w.rows ((Pl.wide w.st t).getD k Pl.hole)).1=text)(h2:text=[]):
 DoesE A4 25 [oS g w,.d (dTree t),.d (dI k),.d (dS text)] (hS g w) (gS g w) (fun x H=> ∃g',((Pl.tput w t k text).2.2=false->g'=g)/\x= .tup [oS g' (Pl.tput w t k text).1,.d (dTree (Pl.tput w t k text).2.1),.d (dB (Pl.tput w t k text).2.2)]/\H=hS g' (Pl.tput w t k text).1):=by
 have hgood:=hw.good;have c1:=dWide w.st hgood t ht;have hl:=QcH w.st ht.hi;have ho:=Qe9 w.st ht.root
 have hfl:[Blk.arr 2 5 31 ((Pl.wide w.st t).map rPtr)].all Blk.flat=true:=by
  simp[Blk.flat];intro x _;exact⟨rfl,rfl,rfl,rfl,rfl⟩
 have hd:=Pm.hid (Pl.tput.eq_def w t k text);have hm1:=ht.manyLo;have hm2:=ht.manyHi;have hmx:(if((k:Int)+1)>t.many then((k:Int)+1) else t.many)=((max t.many.toNat (k+1):Nat):Int):=by split<;>omega
 have hmk:max t.many.toNat (k+1)<=16:=by omega
 have hmq:(max t.many.toNat (k+1)=t.many.toNat)↔((max t.many.toNat (k+1):Nat):Int)=t.many:=by omega
 generalize max t.many.toNat (k+1)=many at*;generalize Pl.tput w t k text=res at*;generalize Pl.wide w.st t=wd at*;have hkl:k<wd.length:=by omega
 have hr0:(wd.map rPtr)[0+(k:Int).toNat]? =some (rPtr (wd.getD k Pl.hole)):=by
  rw[A2,A1,List.getElem?_map,List.getD_eq_getElem?_getD,List.getElem?_eq_getElem hkl];rfl
 have hoo:=QfW ho k;have hset: ∀p,(wd.map rPtr).set (0+(k:Int).toNat) (rPtr p)=(wd.set k p).map rPtr:=fun p=>by rw[A2,A1,List.map_set]
 have hsl: ∀p,(wd.set k p).length=16:=fun p=>by rw[List.length_set];exact hl
 have hT: ∀p,((wd.set k p).map rPtr).take 16=(wd.set k p).map rPtr:=fun p=>List.take_of_length_le (by simp[hl])
 have hso: ∀p,Pl.ptrOk p=true-> ∀q∈wd.set k p,Pl.ptrOk q=true:=fun p hp q hq=>by
  rcases List.mem_or_eq_of_mem_set hq with e|e
  ·exact ho q e
  ·rw[e];exact hp
 have c2:=al7R w.st hgood (wd.getD k Pl.hole) fun _=>hoo
 have hF: ∀(w1:Pl.Sto) (p:Pl.Ptr),Hid (Pl.putF w1 t k many p wd=if(Pl.lay w1 t (wd.set k p) many).2.2 then(if p=wd.getD k Pl.hole then(Pl.lay w1 t (wd.set k p) many).1 else(Pl.lay w1 t (wd.set k p) many).1.free (wd.getD k Pl.hole),(Pl.lay w1 t (wd.set k p) many).2.1,true)
  else((Pl.lay w1 t (wd.set k p) many).1,(Pl.lay w1 t (wd.set k p) many).2.1,false)):=fun w1 p=>Pm.hid rfl
 generalize wd.getD k Pl.hole=old at*;rw[show w.st.1=w.rows from rfl] at c2;generalize Pl.rd w.rows old=rb at*;obtain⟨was,wok⟩:=rb;simp only at c2 hd h1;have hw':=hw.le (M:=N+1) (by omega)
 have go: ∀(w1:Pl.Sto) (p:Pl.Ptr),w1.W (N+1)->Pl.ptrOk p=true->w1.gone=w.gone->Hid (res=Pl.putF w1 t k many p wd)->
  (w=w1/\Pl.hole=p/\(was==text)=false/\(text==[])=true)->
  DoesE A4 25 [oS g w,.d (dTree t),.d (dI k),.d (dS text)] (hS g w) (gS g w) (fun x H=> ∃g',(res.2.2=false->g'=g)/\x= .tup [oS g' res.1,.d (dTree res.2.1),.d (dB res.2.2)]/\H=hS g' res.1):=by
  intro w1 p hw1 hp hgn hd hcase;rw[(hF w1 p).out] at hd;have cL:=pinS (X:=fun g'=> .tup [oS g' (Pl.lay w1 t (wd.set k p) many).1,.d (dTree (Pl.lay w1 t (wd.set k p) many).2.1),.d (dB (Pl.lay w1 t (wd.set k p) many).2.2)]) (C:=fun g'=>(Pl.lay w1 t (wd.set k p) many).2.2=false->g'=g) (eLay g w1 (N+1) (by omega) hw1 t ht.root (wd.set k p) (hsl p) (hso p hp) many hmk);have hWy:=(lay_W hw1 ht.root (hso p hp) hmk).1;have hst:=hset p;rw[<-show(AV.d (.sl true 5 (((wd.set k p).map rPtr).take 16)))= .d (tPtrs (wd.set k p)) by rw[hT]] at cL;generalize Pl.lay w1 t (wd.set k p) many=y at*;clear hset hT hso hsl;generalize (wd.set k p).map rPtr=rows2 at*;obtain⟨w2,t2,ok2⟩:=y;simp only at cL hd hWy;rw[hgn] at cL;have v0:w2.rows.length=w.rows.length:=by rw[hWy.rows,hw.rows]
  have v1:w2.refs.length=w.refs.length:=by rw[hWy.refs,hw.refs]
  have v2:w2.last.length=w.last.length:=by rw[hWy.last,hw.last]
  have cf:=fun g'=>eFree2 g' w2 (N+1+13) (by omega) hWy old hoo
  have hWf:=hWy.free hoo;have u0:(w2.free old).rows.length=w.rows.length:=by rw[hWf.rows,hw.rows]
  have u1:(w2.free old).refs.length=w.refs.length:=by rw[hWf.refs,hw.refs]
  have u2:(w2.free old).last.length=w.last.length:=by rw[hWf.last,hw.last]
  generalize w2.free old=wf at*;clear hWf hWy hF;have hpo: ∃b,decide (p=old)=b:=⟨_,rfl⟩;obtain⟨bpo,hpo⟩:=hpo;have hdF:ok2=false->Hid (res=(w2,t2,false)):=fun e=>Pm.hid (by rw[hd.out,e];rfl)
  have hdT:ok2=true->bpo=true->Hid (res=(w2,t2,true)):=fun e e3=>Pm.hid (by rw[hd.out,e,if_pos rfl,if_pos (of_decide_eq_true (hpo.trans e3))])
  have hdN:ok2=true->bpo=false->Hid (res=(wf,t2,true)):=fun e e3=>Pm.hid (by rw[hd.out,e,if_pos rfl,if_neg (of_decide_eq_false (hpo.trans e3))])
  clear hd;obtain⟨rfl,rfl,hb1,hb3⟩:=hcase;cases ok2;rotate_left;cases bpo
  all_goals
   refine kH fun gvs=>?_
   repeat' first|refine kS ?_|refine(QcZ (ds:=[dTree t]) c1 cK hw rfl hfl (k:=?_))|refine qS (Qcb Ty.h rfl rfl hr0 rfl) ?_|refine qS (Qcd cK c2 hw) ?_|refine qS (Qgj rfl rfl hmx) ?_|refine qS (Qdi rfl rfl hb1) ?_|refine qS (Qdh rfl rfl hb1) ?_|refine qS (Qdh (m:=[]) rfl rfl hb3) ?_|refine(QmR Ty.h rfl rfl hr0 hst (kk:=?_))|refine(QbP 9 (C:= .arr 2 5 31 rows2) (h:=?_))|(refine QbX [0,1,2,3,4] cL cK (k:=?_);rintro _ _ ⟨g2,hg2,hC,rfl,rfl⟩;refine QcC (k:=?_))|refine qS (QhY rfl rfl hpo) ?_|(refine QbX [0,1,2,3,4] (cf _) cK (k:=?_);rintro _ _ ⟨g3,hg3,rfl,rfl⟩;refine QcC (k:=?_))|refine(QbP 6 (h:=Fg.awp_drawF [1] [2,3] ?_))|refine kU ?_|fail
  all_goals first
   |exact absurd (hb2.out.symm.trans ‹((many:Int)==t.many)=true›) (by decide)
   |(obtain rfl:=hC rfl
     rcases hg2 with hg2|⟨_,hg2⟩
     ·omega
     ·refine Qca 5 (hx:=?_)
      rw[(hdF rfl).out]
      exact⟨_,fun _=>rfl,rfl,rfl⟩)
   |(have hg4:g<g3∨g3=g/\wf.gone.length=w.gone.length:=by
      rcases hg2 with h1|⟨h1,h2⟩<;>rcases hg3 with h3|⟨h3,h4⟩<;>first|(left;omega)|(right;exact⟨by omega,h4.trans h2⟩)
     rcases hg4 with hg4|⟨rfl,hg4⟩<;>(refine Qca 5 (hx:=?_);rw[(hdN rfl rfl).out];refine⟨_,?_,rfl,rfl⟩;intro h;cases h))
   |(rcases hg2 with hg2|⟨rfl,hg2⟩<;>(refine Qca 5 (hx:=?_);rw[(hdT rfl rfl).out];refine⟨_,?_,rfl,rfl⟩;intro h;cases h))
 have hb1: ∀b,decide (was=text)=b->(was==text)=b:=fun b h=>by rw[<-h];by_cases e:was=text<;>simp[e]
 replace hb1:=hb1 false (by simpa using h1)
 rw[if_neg h1,if_pos h2] at hd;exact go w Pl.hole hw' QcF rfl hd ⟨rfl,rfl,hb1,by rw[h2];rfl⟩
def Qna{f g:Nat->Int}: ∀{n:Nat},(∀k,k<n->f k<=g k)->Pl.QaJ f n<=Pl.QaJ g n
 |0,_=>A3 _
 |n+1,h=>by
  have:=Qna (f:=f) (g:=g) (n:=n) fun k hk=>h k (by omega)
  have:=h n (by omega);unfold Pl.QaJ;omega
def QmZ{f:Nat->Int}: ∀{n:Nat},(∀k,0<=f k)->0<=Pl.QaJ f n
 |0,_=>A3 _
 |n+1,h=>by
  have:=QmZ (f:=f) (n:=n) h;have:=h n;unfold Pl.QaJ;omega
def Pl.Qbk(s:Pm.Store)(t:Pl.Tree):Int:=Pl.QaJ (fun k=>Pl.Qat s ((Pl.Qab s t).getD k Pl.zn)) (Pl.Qab s t).length
def Qp9(s:Pm.Store)(n:Pl.Node):0<=Pl.Qat s n:=by unfold Pl.Qat;omega
def Qp8(s:Pm.Store):Pl.Qat s Pl.zn=0:=by
 unfold Pl.Qat;rw[show Pl.allT s Pl.zn.tree=[] from Qda s _ (by decide)];rfl
def QrP{s:Pm.Store}(h:Pl.Qav s t=true):Pl.Qbj s t [] (Pl.Qat s)=Pl.Qbk s t:=by
 unfold Pl.Qav at h;simp only[A0,List.all_eq_true] at h;refine QeC fun k hk=>?_
 split
 ·rfl
 ·rename_i hi
  rcases Qev s t k with e|e
  ·rw[e,Qp8]
  ·exfalso
   have hn:=h.2 k (List.mem_range.2 hk);unfold Pl.Qa6 at hn;simp only[A0,Bool.or_eq_true,beq_iff_eq] at hn;have hk:=e.kind;have hl:=e.links
   have hm:1<=Pl.many (Pl.QaS s t).1 k:=by
    omega
   unfold Pl.many at hm;obtain⟨x,hx,hxe⟩:=List.mem_map.1 (List.count_pos_iff.1 hm);exact hi (List.any_eq_true.2 ⟨x,hx,by simp[hxe]⟩)
theorem use_law{s:Pm.Store}{path:List UInt8}(h:(Pl.Qay s t path (Pl.Qat s)).2=true):
 Pl.Qay s t [47] (Pl.Qat s)=(Pl.Qbk s t,true)/\0<=(Pl.Qay s t path (Pl.Qat s)).1/\(Pl.Qay s t path (Pl.Qat s)).1<=Pl.Qbk s t/\Pl.Qan s=true/\Pl.Qav s t=true:=by
 have h0:Pl.Qae [47]=some []:=by unfold Pl.Qae;rfl
 have hr:(Pl.Qan s&&Pl.Qav s t)=true->Pl.Qay s t [47] (Pl.Qat s)=(Pl.Qbk s t,true):=fun hc=>by
  unfold Pl.Qay;rw[h0];dsimp only;rw[if_pos hc,<-QrP (by grind)];rfl
 unfold Pl.Qay at h;split at h
 ·cases h
 ·rename_i q hq
  split at h
  ·rename_i hc
   split at h
   ·cases h
   ·rename_i j hj
    have hc2:=hc;simp only[A0] at hc2;refine⟨hr hc,?_,?_,hc2⟩
    ·unfold Pl.Qay
     rw[hq];dsimp only;rw[if_pos hc,hj];refine QmZ fun k=>?_
     split
     ·exact Qp9 s _
     omega
    ·unfold Pl.Qay
     rw[hq];dsimp only;rw[if_pos hc,hj];refine Qna fun k _=>?_
     split
     ·omega
     ·exact Qp9 s _
  ·cases h

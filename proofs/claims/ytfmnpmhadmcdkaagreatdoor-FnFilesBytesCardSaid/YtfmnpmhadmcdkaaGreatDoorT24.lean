/- Of fby_card; no condition. -/
import Derived.Test.YtfmnpmhadmcdkaaGreatDoorT22
set_option linter.all false
set_option maxRecDepth 100000
set_option maxHeartbeats 16000000
open Go.Proofs.Tryz renaming prog->A2
open Int renaming toNat_natCast->A0
open Nat renaming zero_add->A1
namespace Go.Proofs.YtfmnpmhadmcdkaaGreatDoor
noncomputable section
open Go.RowKit
namespace Aw
attribute [local irreducible] ASeq ADraw AWP Loc AStep Fg.PlanF Fg.Flts EndR
def ePut_b(g:Nat)(w:Pl.Sto)(N:Nat)(hN:N<=800000)(hw:w.W N)(t:Pl.Tree)(ht:Qx t)(k:Nat)(hk:k<16)(text:List UInt8)(htx:text.length<=Pm.big)(h1: ¬(Qf w.rows ((Qe w.st t).getD k Pl.hole)).1=text)(h2:text=[]):
 DoesE A2 46 [oS g w,.d (dTree t),.d (dI k),.d (dS text)] (hS g w) (gS g w) (fun x H=> ∃g',((Qm w t k text).2.2=false->g'=g)/\x= .tup [oS g' (Qm w t k text).1,.d (dTree (Qm w t k text).2.1),.d (dB (Qm w t k text).2.2)]/\H=hS g' (Qm w t k text).1):=by
 have hgood:=hw.good;have c1:=dWide w.st hgood t ht;have hl:=Qd3 w.st ht.hi;have ho:=Qfn w.st ht.root
 have hfl:[Blk.arr 2 5 31 ((Qe w.st t).map rPtr)].all Blk.flat=true:=by
  simp[Blk.flat];intro x _;exact⟨rfl,rfl,rfl,rfl,rfl⟩
 have hd:=Pm.hid (Qm.eq_def w t k text);have hm1:=ht.manyLo;have hm2:=ht.manyHi;have hmx:(if((k:Int)+1)>t.many then((k:Int)+1) else t.many)=((max t.many.toNat (k+1):Nat):Int):=by split<;>omega
 have hmk:max t.many.toNat (k+1)<=16:=by omega
 have hmq:(max t.many.toNat (k+1)=t.many.toNat)↔((max t.many.toNat (k+1):Nat):Int)=t.many:=by omega
 generalize max t.many.toNat (k+1)=many at*;generalize Qm w t k text=res at*;generalize Qe w.st t=wd at*;have hkl:k<wd.length:=by omega
 have hr0:(wd.map rPtr)[0+(k:Int).toNat]? =some (rPtr (wd.getD k Pl.hole)):=by
  rw[A1,A0,List.getElem?_map,List.getD_eq_getElem?_getD,List.getElem?_eq_getElem hkl];rfl
 have hoo:=Qgy ho k;have hset: ∀p,(wd.map rPtr).set (0+(k:Int).toNat) (rPtr p)=(wd.set k p).map rPtr:=fun p=>by rw[A1,A0,List.map_set]
 have hsl: ∀p,(wd.set k p).length=16:=fun p=>by rw[List.length_set];exact hl
 have hT: ∀p,((wd.set k p).map rPtr).take 16=(wd.set k p).map rPtr:=fun p=>List.take_of_length_le (by simp[hl])
 have hso: ∀p,Pl.ptrOk p=true-> ∀q∈wd.set k p,Pl.ptrOk q=true:=fun p hp q hq=>by
  rcases List.mem_or_eq_of_mem_set hq with e|e
  ·exact ho q e
  ·rw[e];exact hp
 have c2:=al7R w.st hgood (wd.getD k Pl.hole) fun _=>hoo
 have hF: ∀(w1:Pl.Sto) (p:Pl.Ptr),Hid (Qa5 w1 t k many p wd=if(Qw w1 t (wd.set k p) many).2.2 then(if p=wd.getD k Pl.hole then(Qw w1 t (wd.set k p) many).1 else(Qw w1 t (wd.set k p) many).1.free (wd.getD k Pl.hole),(Qw w1 t (wd.set k p) many).2.1,true)
  else((Qw w1 t (wd.set k p) many).1,(Qw w1 t (wd.set k p) many).2.1,false)):=fun w1 p=>Pm.hid rfl
 generalize wd.getD k Pl.hole=old at*;rw[show w.st.1=w.rows from rfl] at c2;generalize Qf w.rows old=rb at*;obtain⟨was,wok⟩:=rb;simp only at c2 hd h1;have hw':=hw.le (M:=N+1) (by omega)
 have go: ∀(w1:Pl.Sto) (p:Pl.Ptr),w1.W (N+1)->Pl.ptrOk p=true->w1.gone=w.gone->Hid (res=Qa5 w1 t k many p wd)->
  (w=w1/\Pl.hole=p/\(was==text)=false/\(text==[])=true)->
  DoesE A2 46 [oS g w,.d (dTree t),.d (dI k),.d (dS text)] (hS g w) (gS g w) (fun x H=> ∃g',(res.2.2=false->g'=g)/\x= .tup [oS g' res.1,.d (dTree res.2.1),.d (dB res.2.2)]/\H=hS g' res.1):=by
  intro w1 p hw1 hp hgn hd hcase;rw[(hF w1 p).out] at hd;have cL:=pinS (X:=fun g'=> .tup [oS g' (Qw w1 t (wd.set k p) many).1,.d (dTree (Qw w1 t (wd.set k p) many).2.1),.d (dB (Qw w1 t (wd.set k p) many).2.2)]) (C:=fun g'=>(Qw w1 t (wd.set k p) many).2.2=false->g'=g) (eLay g w1 (N+1) (by omega) hw1 t ht.root (wd.set k p) (hsl p) (hso p hp) many hmk);have hWy:=(lay_W hw1 ht.root (hso p hp) hmk).1;have hst:=hset p;rw[<-show(AV.d (.sl true 5 (((wd.set k p).map rPtr).take 16)))= .d (tPtrs (wd.set k p)) by rw[hT]] at cL;generalize Qw w1 t (wd.set k p) many=y at*;clear hset hT hso hsl;generalize (wd.set k p).map rPtr=rows2 at*;obtain⟨w2,t2,ok2⟩:=y;simp only at cL hd hWy;rw[hgn] at cL;have v0:w2.rows.length=w.rows.length:=by rw[hWy.rows,hw.rows]
  have v1:w2.refs.length=w.refs.length:=by rw[hWy.refs,hw.refs]
  have v2:w2.last.length=w.last.length:=by rw[hWy.last,hw.last]
  have cf:=fun g'=>eFree2 g' w2 (N+1+13) (by omega) hWy old hoo
  have hWf:=hWy.free hoo;have u0:(w2.free old).rows.length=w.rows.length:=by rw[hWf.rows,hw.rows]
  have u1:(w2.free old).refs.length=w.refs.length:=by rw[hWf.refs,hw.refs]
  have u2:(w2.free old).last.length=w.last.length:=by rw[hWf.last,hw.last]
  generalize w2.free old=wf at*;clear hWf hWy hF;have hpo: ∃b,decide (p=old)=b:=⟨_,rfl⟩;obtain⟨bpo,hpo⟩:=hpo;have hdF:ok2=false->Hid (res=(w2,t2,false)):=fun e=>Pm.hid (by rw[hd.out,e];rfl)
  have hdT:ok2=true->bpo=true->Hid (res=(w2,t2,true)):=fun e e3=>Pm.hid (by rw[hd.out,e,if_pos rfl,if_pos (of_decide_eq_true (hpo.trans e3))])
  have hdN:ok2=true->bpo=false->Hid (res=(wf,t2,true)):=fun e e3=>Pm.hid (by rw[hd.out,e,if_pos rfl,if_neg (of_decide_eq_false (hpo.trans e3))])
  clear hd;obtain⟨rfl,rfl,hb1,hb3⟩:=hcase;cases ok2;rotate_left;cases bpo
  all_goals
   refine kH fun gvs=>?_
   repeat' first|refine kS ?_|refine(QdK (ds:=[dTree t]) c1 cK hw rfl hfl (k:=?_))|refine qS (QcY Ty.h rfl rfl hr0 rfl) ?_|refine qS (QcZ cK c2 hw) ?_|refine qS (QgH rfl rfl hmx) ?_|refine qS (Qd8 rfl rfl hb1) ?_|refine qS (QdS rfl rfl hb1) ?_|refine qS (QdS (m:=[]) rfl rfl hb3) ?_|refine(Qnc Ty.h rfl rfl hr0 hst (kk:=?_))|refine(Qa 9 (C:= .arr 2 5 31 rows2) (h:=?_))|(refine QA [0,1,2,3,4] cL cK (k:=?_);rintro _ _ ⟨g2,hg2,hC,rfl,rfl⟩;refine Qd1 (k:=?_))|refine qS (Qiw rfl rfl hpo) ?_|(refine QA [0,1,2,3,4] (cf _) cK (k:=?_);rintro _ _ ⟨g3,hg3,rfl,rfl⟩;refine Qd1 (k:=?_))|refine(Qa 6 (h:=Fg.awp_drawF [1] [2,3] ?_))|refine kU ?_|fail
  all_goals first
   |exact absurd (hb2.out.symm.trans ‹((many:Int)==t.many)=true›) (by decide)
   |(obtain rfl:=hC rfl
     rcases hg2 with hg2|⟨_,hg2⟩
     ·omega
     ·refine QN 5 (hx:=?_)
      rw[(hdF rfl).out]
      exact⟨_,fun _=>rfl,rfl,rfl⟩)
   |(have hg4:g<g3∨g3=g/\wf.gone.length=w.gone.length:=by
      rcases hg2 with h1|⟨h1,h2⟩<;>rcases hg3 with h3|⟨h3,h4⟩<;>first|(left;omega)|(right;exact⟨by omega,h4.trans h2⟩)
     rcases hg4 with hg4|⟨rfl,hg4⟩<;>(refine QN 5 (hx:=?_);rw[(hdN rfl rfl).out];refine⟨_,?_,rfl,rfl⟩;intro h;cases h))
   |(rcases hg2 with hg2|⟨rfl,hg2⟩<;>(refine QN 5 (hx:=?_);rw[(hdT rfl rfl).out];refine⟨_,?_,rfl,rfl⟩;intro h;cases h))
 have hb1: ∀b,decide (was=text)=b->(was==text)=b:=fun b h=>by rw[<-h];by_cases e:was=text<;>simp[e]
 replace hb1:=hb1 false (by simpa using h1)
 rw[if_neg h1,if_pos h2] at hd;exact go w Pl.hole hw' QdA rfl hd ⟨rfl,rfl,hb1,by rw[h2];rfl⟩

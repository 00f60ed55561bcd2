/- Of fsk_card; no condition. -/
import Derived.Test.YtfmnpmhadmcdkaaGreatDoorS21
import Derived.Test.YtfmnpmhadmcdkaaGreatDoorS23
set_option linter.all false
set_option maxRecDepth 100000
set_option maxHeartbeats 16000000
open Go.Proofs.Tryz renaming prog->A4
open Go.RowKit renaming Hid->A9
open Int renaming toNat_natCast->A3
open List renaming getElem?_eq_getElem->A0,getD_eq_getElem?_getD->A1,mem_cons_self->A2,mem_append->A5,mem_cons_of_mem->A6,mem_cons->A7,range->AA
open Nat renaming zero_add->A8
namespace Go.Proofs.YtfmnpmhadmcdkaaGreatDoor
noncomputable section
open Go.RowKit
namespace Aw
variable{name:List UInt8}
attribute [local irreducible] ASeq ADraw AWP Loc AStep
def Qa2(l:List Qq)(name:List UInt8):Int:=match l.findIdx? (fun e=>e.1==name) with
 |some i=>(i:Int)
 |none=> -1
theorem QlT{l:List Qq}(h:l.find? (fun e=>e.1==name)=none):Qa2 l name= -1:=by grind [Qa2]
theorem QlS{l:List Qq}{e:Qq}(h:l.find? (fun e=>e.1==name)=some e): ∃i:Nat,Qa2 l name=i/\l[i]? =some e:=by
 obtain⟨h1,l1,bs,rfl,h2⟩:=List.find?_eq_some_iff_append.1 h;refine⟨l1.length,?_,by simp⟩
 grind [Qa2]
theorem al12At(l:List Qq)(name:List UInt8)(hl:l.length<=1000):Pure A4 127 [dEnts l,dS name] (dI (Qa2 l name)):=by
 refine kB ?_
 repeat refine kA ?_
 refine Qo (fun m st=> ∃k:Nat,k<=l.length/\m=l.length -k/\A9 (∀x∈l.take k,(x.1==name)=false)/\st=⟨20,[(5,.d (dI k)),(0,.d (dEnts l)),(1,.d (dS name))],[]⟩) [5,0,1] 0 l.length ⟨0,by omega,rfl,Pm.hid (by simp),rfl⟩ (round:=?_);rintro m st ⟨k,hk,rfl,hA,rfl⟩
 repeat refine kG ?_
 cases q3:decide ((k:Int)<(l.length:Int))
 ·repeat refine kA ?_
  refine Qb (hx:=?_);have:k=l.length:=by simp at q3;omega
  have h:=hA.out;rw[this,List.take_length] at h;rw[QlT (by rw[List.find?_eq_none];intro x hx;rw[h x hx];simp)]
 have hk2:k<l.length:=by simp at q3;omega
 obtain⟨x,hx⟩: ∃x,l[k]? =some x:=⟨_,A0 hk2⟩;have hr:=Qt (f:=rEnt) hx
 have T:A9 ((x.1==name)=false-> ∀y∈l.take (k+1),(y.1==name)=false):=Pm.hid fun h y hy=>by
  rw[List.take_add_one,hx] at hy;rcases A5.1 hy with hy|hy
  ·exact hA.out y hy
  ·simp at hy;subst hy;exact h
 have F:A9 ((x.1==name)=true->Qa2 l name=k):=Pm.hid fun h=>by
  have:l.findIdx? (fun e=>e.1==name)=some k:=by
   rw[List.findIdx?_eq_some_iff_getElem];refine⟨hk2,?_,fun j hj=>?_⟩
   ·rw[(List.getElem?_eq_some_iff.1 hx).2];exact h
   ·have:=hA.out l[j] (List.mem_iff_getElem?.2 ⟨j,by rw[List.getElem?_take,if_pos hj];exact A0 (by omega)⟩)
    rw[this];simp
  unfold Qa2;rw[this]
 clear hx hA
 repeat' first|refine kS ?_|refine qS (iy hr) ?_|refine kU ?_|refine kV ?_ ?_<;>intro q|fail
 all_goals first|exact Qh (l.length -(k+1)) (by omega) ⟨k+1,by omega,rfl,Pm.hid (T.out (by assumption)),rfl⟩|refine Qb (hx:=?_);rw[F.out (by assumption)]
def Qaf(s:Pm.Store)(t:Pl.Tree)(q:List (List UInt8)):Int:=(QbB s (Qk s t) 0 q).getD (-1)
theorem Qom(s:Pm.Store)(hg:QP s)(t:Pl.Tree)(ht:Qx t)(q:List (List UInt8))(hq:q.length<=1000):Pure A4 74 [dSt s,dTree t,dStrs q] (dI (Qaf s t q)):=by
 have hd:A9 (Qaf s t q=(QbB s (Qk s t) 0 q).getD (-1)):=Pm.hid rfl;have c1:=Pm.hid fun k=>al11Get s hg t ht k
 have hnn:=Pm.hid fun k=>Qh6 s ht k
 have c2:=Pm.hid fun n=>Qjb s hg n
 generalize Qk s t=ns at*;refine kE ?_;refine Qa 0 (h:=?_);refine Qa 1 (h:=?_)
 repeat refine kA ?_
 refine Qo (fun m st=> ∃(k i:Nat),k<=q.length/\m=q.length -k/\A9 (QbB s ns 0 q=QbB s ns i (q.drop k))/\st=⟨51,[(7,.d (dI i)),(8,.d (dI k)),(2,.d (dStrs q)),(3,.d (.pd (rSt s))),(4,.d (.pd (rTree t)))],[.row 1 [],.row 1 []]⟩) [7,8,2,3,4] 2 q.length ⟨0,0,by omega,rfl,Pm.hid rfl,rfl⟩ (round:=?_);rintro m st ⟨k,i,hk,rfl,hF,rfl⟩
 repeat refine kG ?_
 cases q3:decide ((k:Int)<(q.length:Int))
 ·repeat refine kA ?_
  refine Qb (hx:=?_);have:k=q.length:=by simp at q3;omega
  have h:=hF.out;rw[this,List.drop_length] at h;rw[hd.out,h];rfl
 have hk2:k<q.length:=by simp at q3;omega
 obtain⟨x,hx⟩: ∃x,q[k]? =some x:=⟨_,A0 hk2⟩;have hr:=Qt (f:=fun s=>[dS s]) hx
 have hF2:A9 (QbB s ns 0 q=match(Qg s (ns.getD i Qd)).1.find? (fun e=>e.1==x) with|none=>none|some e=>QbB s ns e.2 (q.drop (k+1))):=Pm.hid (by
  rw[hF.out,QgR hx];exact Qho (Qg s) ns i x _)
 have c1k:=c1.out i;have hn:=hnn.out i;have hel:=Qe0 s (ns.getD i Qd);have heb:=QiF s (ns.getD i Qd);have hec:=QdG s (ns.getD i Qd);have c2k:=c2.out (ns.getD i Qd);rw[<-hn] at c2k hel heb hec hF2;clear hx hF hn c1 c2 hnn;generalize Q5 s t i=na at*;obtain⟨⟨kind,links,size,⟨⟨p1,p2,p3,p4,p5⟩,depth,many⟩⟩,nok⟩:=na;simp only at c2k hel heb hec hF2;generalize Qg s ⟨kind,links,size,⟨⟨p1,p2,p3,p4,p5⟩,depth,many⟩⟩=ee at*;obtain⟨es,ok⟩:=ee;simp only at hel heb hec hF2;have c3:=(al12At es x (by omega)).arg (l:=[tEnts es,dS x]);cases hf:es.find? (fun e=>e.1==x) with
 |none=>
  rw[QlT hf] at c3;have hx:A9 (Qaf s t q= -1):=Pm.hid (by rw[hd.out,hF2.out,hf];rfl);clear hF2 hd hec heb hf
  repeat' first|refine kS ?_|refine qS (iy hr) ?_|refine kU ?_|refine kV ?_ ?_<;>intro q|fail
  all_goals first|exfalso;simp at*;done|refine Qb (hx:=?_);rw[hx.out]
 |some e=>
  obtain⟨j,hj,hje⟩:=QlS hf;rw[hj] at c3
  have hok:ok=true:=by
   rcases hec with h|h
   ·exact h.1
   ·obtain⟨rfl,rfl⟩:=Prod.mk.inj h;cases hf
  subst hok;have hre:=Qt (f:=rEnt) hje;have heb2:=heb e (List.mem_of_getElem? hje);have hT:A9 (QbB s ns 0 q=QbB s ns (e.2.toNat:Nat) (q.drop (k+1))):=Pm.hid (by rw[hF2.out,hf];simp only;rw[show((e.2.toNat:Nat):Int)=e.2 by omega]);clear hF2 hd hec heb hf hj hje;obtain⟨nm,id⟩:=e;obtain⟨id,rfl⟩:=Int.eq_ofNat_of_zero_le (show 0<=id by have:=heb2.2.1;omega);simp only[A3] at hT
  repeat' first|refine kS ?_|refine qS (iy hr) ?_|refine qS (iy hre) ?_|refine kU ?_|fail
  all_goals first|exact Qh (q.length -(k+1)) (by omega) ⟨k+1,id,by omega,rfl,Pm.hid hT.out,rfl⟩|exfalso;simp only[decide_eq_true_eq] at*;omega
attribute [local irreducible] Fg.PlanF Fg.Flts EndR
def ePut_a(g:Nat)(w:Pl.Sto)(N:Nat)(hN:N<=800000)(hw:w.W N)(t:Pl.Tree)(ht:Qx t)(k:Nat)(hk:k<16)(text:List UInt8)(htx:text.length<=Pm.big)(h1:(Qf w.rows ((Qe w.st t).getD k Pl.hole)).1=text):
 DoesE A4 46 [oS g w,.d (dTree t),.d (dI k),.d (dS text)] (hS g w) (gS g w) (fun x H=> ∃g',((Qm w t k text).2.2=false->g'=g)/\x= .tup [oS g' (Qm w t k text).1,.d (dTree (Qm w t k text).2.1),.d (dB (Qm w t k text).2.2)]/\H=hS g' (Qm w t k text).1):=by
 have hgood:=hw.good;have c1:=dWide w.st hgood t ht;have hl:=Qd3 w.st ht.hi;have ho:=Qfn w.st ht.root
 have hfl:[Blk.arr 2 5 31 ((Qe w.st t).map rPtr)].all Blk.flat=true:=by
  simp[Blk.flat];intro x _;exact⟨rfl,rfl,rfl,rfl,rfl⟩
 have hd:=Pm.hid (Qm.eq_def w t k text);have hm1:=ht.manyLo;have hm2:=ht.manyHi;have hmx:(if((k:Int)+1)>t.many then((k:Int)+1) else t.many)=((max t.many.toNat (k+1):Nat):Int):=by split<;>omega
 have hmk:max t.many.toNat (k+1)<=16:=by omega
 have hmq:(max t.many.toNat (k+1)=t.many.toNat)↔((max t.many.toNat (k+1):Nat):Int)=t.many:=by omega
 generalize max t.many.toNat (k+1)=many at*;generalize Qm w t k text=res at*;generalize Qe w.st t=wd at*;have hkl:k<wd.length:=by omega
 have hr0:(wd.map rPtr)[0+(k:Int).toNat]? =some (rPtr (wd.getD k Pl.hole)):=by
  rw[A8,A3,List.getElem?_map,A1,A0 hkl];rfl
 have hoo:=Qgy ho k;have hset: ∀p,(wd.map rPtr).set (0+(k:Int).toNat) (rPtr p)=(wd.set k p).map rPtr:=fun p=>by rw[A8,A3,List.map_set]
 have hsl: ∀p,(wd.set k p).length=16:=fun p=>by rw[List.length_set];exact hl
 have hT: ∀p,((wd.set k p).map rPtr).take 16=(wd.set k p).map rPtr:=fun p=>List.take_of_length_le (by simp[hl])
 have hso: ∀p,Pl.ptrOk p=true-> ∀q∈wd.set k p,Pl.ptrOk q=true:=fun p hp q hq=>by
  rcases List.mem_or_eq_of_mem_set hq with e|e
  ·exact ho q e
  ·rw[e];exact hp
 have c2:=al7R w.st hgood (wd.getD k Pl.hole) fun _=>hoo
 have hF: ∀(w1:Pl.Sto) (p:Pl.Ptr),A9 (Qa5 w1 t k many p wd=if(Qw w1 t (wd.set k p) many).2.2 then(if p=wd.getD k Pl.hole then(Qw w1 t (wd.set k p) many).1 else(Qw w1 t (wd.set k p) many).1.free (wd.getD k Pl.hole),(Qw w1 t (wd.set k p) many).2.1,true)
  else((Qw w1 t (wd.set k p) many).1,(Qw w1 t (wd.set k p) many).2.1,false)):=fun w1 p=>Pm.hid rfl
 generalize wd.getD k Pl.hole=old at*;rw[show w.st.1=w.rows from rfl] at c2;generalize Qf w.rows old=rb at*;obtain⟨was,wok⟩:=rb;simp only at c2 hd h1;have hw':=hw.le (M:=N+1) (by omega)
 have go: ∀(w1:Pl.Sto) (p:Pl.Ptr),w1.W (N+1)->Pl.ptrOk p=true->w1.gone=w.gone->A9 (res=Qa5 w1 t k many p wd)->
  (w=w1/\old=p/\(was==text)=true/\A9 (((many:Int)==t.many)=false))->
  DoesE A4 46 [oS g w,.d (dTree t),.d (dI k),.d (dS text)] (hS g w) (gS g w) (fun x H=> ∃g',(res.2.2=false->g'=g)/\x= .tup [oS g' res.1,.d (dTree res.2.1),.d (dB res.2.2)]/\H=hS g' res.1):=by
  intro w1 p hw1 hp hgn hd hcase;rw[(hF w1 p).out] at hd;have cL:=pinS (X:=fun g'=> .tup [oS g' (Qw w1 t (wd.set k p) many).1,.d (dTree (Qw w1 t (wd.set k p) many).2.1),.d (dB (Qw w1 t (wd.set k p) many).2.2)]) (C:=fun g'=>(Qw w1 t (wd.set k p) many).2.2=false->g'=g) (eLay g w1 (N+1) (by omega) hw1 t ht.root (wd.set k p) (hsl p) (hso p hp) many hmk);have hWy:=(lay_W hw1 ht.root (hso p hp) hmk).1;have hst:=hset p;rw[<-show(AV.d (.sl true 5 (((wd.set k p).map rPtr).take 16)))= .d (tPtrs (wd.set k p)) by rw[hT]] at cL;generalize Qw w1 t (wd.set k p) many=y at*;clear hset hT hso hsl;generalize (wd.set k p).map rPtr=rows2 at*;obtain⟨w2,t2,ok2⟩:=y;simp only at cL hd hWy;rw[hgn] at cL;have v0:w2.rows.length=w.rows.length:=by rw[hWy.rows,hw.rows]
  have v1:w2.refs.length=w.refs.length:=by rw[hWy.refs,hw.refs]
  have v2:w2.last.length=w.last.length:=by rw[hWy.last,hw.last]
  have cf:=fun g'=>eFree2 g' w2 (N+1+13) (by omega) hWy old hoo
  have hWf:=hWy.free hoo;have u0:(w2.free old).rows.length=w.rows.length:=by rw[hWf.rows,hw.rows]
  have u1:(w2.free old).refs.length=w.refs.length:=by rw[hWf.refs,hw.refs]
  have u2:(w2.free old).last.length=w.last.length:=by rw[hWf.last,hw.last]
  generalize w2.free old=wf at*;clear hWf hWy hF;have hpo: ∃b,decide (p=old)=b:=⟨_,rfl⟩;obtain⟨bpo,hpo⟩:=hpo;have hdF:ok2=false->A9 (res=(w2,t2,false)):=fun e=>Pm.hid (by rw[hd.out,e];rfl)
  have hdT:ok2=true->bpo=true->A9 (res=(w2,t2,true)):=fun e e3=>Pm.hid (by rw[hd.out,e,if_pos rfl,if_pos (of_decide_eq_true (hpo.trans e3))])
  have hdN:ok2=true->bpo=false->A9 (res=(wf,t2,true)):=fun e e3=>Pm.hid (by rw[hd.out,e,if_pos rfl,if_neg (of_decide_eq_false (hpo.trans e3))])
  clear hd;obtain⟨rfl,rfl,hb1,hb2⟩:=hcase;obtain rfl:bpo=true:=by rw[<-hpo];simp
  clear hdN cf;cases ok2
  all_goals
   refine kH fun gvs=>?_
   repeat' first|refine kS ?_|refine(QdK (ds:=[dTree t]) c1 cK hw rfl hfl (k:=?_))|refine qS (QcY Ty.h rfl rfl hr0 rfl) ?_|refine qS (QcZ cK c2 hw) ?_|refine qS (QgH rfl rfl hmx) ?_|refine qS (Qd8 rfl rfl hb1) ?_|refine qS (QdS rfl rfl hb1) ?_|refine(Qnc Ty.h rfl rfl hr0 hst (kk:=?_))|refine(Qa 9 (C:= .arr 2 5 31 rows2) (h:=?_))|(refine QA [0,1,2,3,4] cL cK (k:=?_);rintro _ _ ⟨g2,hg2,hC,rfl,rfl⟩;refine Qd1 (k:=?_))|refine qS (Qiw rfl rfl hpo) ?_|refine(Qa 6 (h:=Fg.awp_drawF [1] [2,3] ?_))|refine kU ?_|refine kV ?_ ?_<;>intro q|fail
  all_goals first
   |exact absurd (hb2.out.symm.trans ‹((many:Int)==t.many)=true›) (by decide)
   |(obtain rfl:=hC rfl
     rcases hg2 with hg2|⟨_,hg2⟩
     ·omega
     ·refine QN 5 (hx:=?_)
      rw[(hdF rfl).out]
      exact⟨_,fun _=>rfl,rfl,rfl⟩)
   |(have hg4:g<g3∨g3=g/\wf.gone.length=w.gone.length:=by
      rcases hg2 with h1|⟨h1,h2⟩<;>rcases hg3 with h3|⟨h3,h4⟩<;>first|(left;omega)|(right;exact⟨by omega,h4.trans h2⟩)
     rcases hg4 with hg4|⟨rfl,hg4⟩<;>(refine QN 5 (hx:=?_);rw[(hdN rfl rfl).out];refine⟨_,?_,rfl,rfl⟩;intro h;cases h))
   |(rcases hg2 with hg2|⟨rfl,hg2⟩<;>(refine QN 5 (hx:=?_);rw[(hdT rfl rfl).out];refine⟨_,?_,rfl,rfl⟩;intro h;cases h))
 have hb1: ∀b,decide (was=text)=b->(was==text)=b:=fun b h=>by rw[<-h];by_cases e:was=text<;>simp[e]
 replace hb1:=hb1 true (by simpa using h1)
 rw[if_pos h1] at hd
 by_cases h2:many=t.many.toNat
 ·have hb2:A9 (((many:Int)==t.many)=true):=Pm.hid (by simpa using hmq.1 h2)
  rw[if_pos h2] at hd;clear hF hset hT hso;refine kH fun gvs=>?_
  repeat' first|refine kS ?_|refine(QdK (ds:=[dTree t]) c1 cK hw rfl hfl (k:=?_))|refine qS (QcY Ty.h rfl rfl hr0 rfl) ?_|refine qS (QcZ cK c2 hw) ?_|refine qS (QgH rfl rfl hmx) ?_|refine qS (Qd8 rfl rfl hb1) ?_|(show AWP _ (.region 6 _ _) _ _;refine(Qa 6 (h:=Fg.awp_drawF (id:=6) [1] [2,3] ?_)))|refine kU ?_|refine kV ?_ ?_<;>intro q|fail
  all_goals first|exact absurd (hb2.out.symm.trans ‹((many:Int)==t.many)=false›) (by decide)|refine QN 5 (hx:=?_);rw[hd.out];exact⟨g,fun _=>rfl,rfl,rfl⟩
 have hb2:A9 (((many:Int)==t.many)=false):=Pm.hid (by simpa using fun e=>h2 (hmq.2 e));rw[if_neg h2] at hd;exact go w old hw' hoo rfl hd ⟨rfl,rfl,hb1,hb2⟩
structure QbQ(s:Pm.Store):Prop where
 b1:s.2.1.1.length<=Pm.big
 b2:s.2.1.2.length<=Pm.big
 b3:s.2.2.2.1.length<=1000000000000
 b4:s.2.2.2.2.2.1.length<=1000000000000
theorem QdW{s:Pm.Store}(h:Qaa s=true):QP s:=by
 unfold Qaa at h;simp only[Bool.and_eq_true,beq_iff_eq] at h;obtain⟨⟨⟨⟨⟨h1,_⟩,_⟩,_⟩,h2⟩,_⟩:=h;refine⟨h1,fun r hr=>?_⟩;obtain⟨i,hi,rfl⟩:=List.getElem_of_mem hr;unfold QbM at h2;have:=List.all_eq_true.1 h2 i (List.mem_range.2 (by omega))
 grind [Qbs]
theorem Ql8{s:Pm.Store}{t:Pl.Tree}(h:Qae s t=true):Qx t:=by grind [Qae,Qat,Qdo]
theorem QnG{kind:Nat->Nat}{en:Nat->Option Gr.En}(hen: ∀k es,en k=some es-> ∀e∈es,QF e.1=true){r L:List Gr.It}(h:Gr.FP kind en r L):(∀x∈r,∀n∈x.1,QF n=true)-> ∀x∈L,∀n∈x.1,QF n=true:=by
 induction h with
 |nil=>grind
 |file hk h ih=>
  intro hr x hx;rcases A7.1 hx with rfl|hx
  ·exact hr _ A2
  ·exact ih (fun y hy=>hr y (A6 _ hy)) x hx
 |dir hk he h1 h2 ih1 ih2=>
  intro hr x hx;rcases A7.1 hx with rfl|hx
  ·exact hr _ A2
  ·rcases A5.1 hx with hx|hx
   ·refine ih1 (fun y hy n hn=>?_) x hx
    unfold Gr.kids at hy;obtain⟨e,hem,rfl⟩:=List.mem_map.1 hy;rcases A5.1 hn with hn|hn
    ·exact hr _ A2 n hn
    grind
   ·exact ih2 (fun y hy=>hr y (A6 _ hy)) x hx
theorem Qtx(s:Pm.Space)(h1:s.1.length<=Pm.big)(h2:s.2.length<=Pm.big):Pure A4 58 [dSpace s] (dB (Pl.spaceOk s)):=by
 obtain⟨refs,last⟩:=s;simp only[Pm.big] at h1 h2
 skip
 refine kN ?_;simp only[parE,dSpace];refine kR ?_;refine Qa 0 (h:=?_)
 repeat refine kG ?_
 cases q1:((refs.length:Int) !=64);rotate_left
 ·repeat refine kG ?_
  exact Qb (hx:=congrArg dB (by simp at q1;simp[Pl.spaceOk];intros;omega))
 repeat refine kG ?_
 cases q2:((last.length:Int) !=64);rotate_left
 ·repeat refine kG ?_
  exact Qb (hx:=congrArg dB (by simp at q2;simp[Pl.spaceOk];intros;omega))
 repeat refine kG ?_
 simp at q1 q2;refine Qo (fun m s=> ∃k:Nat,k<=64/\m=64 -k/\(AA k).all (Pl.QdN refs last)=true/\s=⟨55,[(19,.d (dI k)),(17,.d (dInts refs)),(18,.d (dI refs.length)),(1,.d (.pd [dInts refs,dInts last]))],[]⟩) [19,17,18,1] 0 64 ⟨0,by omega,rfl,rfl,rfl⟩ (round:=?_);rintro m s ⟨k,hk,rfl,hF,rfl⟩
 repeat refine kG ?_
 cases q3:decide ((k:Int)<(refs.length:Int))
 ·repeat refine kA ?_
  have:k=64:=by simp at q3;omega
  subst this;exact Qb (hx:=congrArg dB (by simp[Pl.spaceOk,hF];omega))
 simp at q3;have hk':k<64:=by omega
 have hk1:k<refs.length:=by omega
 have hk2:k<last.length:=by omega
 have hr1:=Qt (f:=fun n=>[dI n]) (A0 hk1);have hr2:=Qt (f:=fun n=>[dI n]) (A0 hk2)
 have hrow:Pl.QdN refs last k=Pl.QdC k refs[k] last[k]:=by
  unfold Pl.QdN;rw[A1,A1,A0 hk1,A0 hk2];rfl
 generalize refs[k]=a at*;generalize last[k]=b at*;have T:A9 (Pl.QdC k a b=true->(AA (k+1)).all (Pl.QdN refs last)=true):=fun h=>Pl.Qdd hF (hrow.trans h)
 have F:A9 (Pl.QdC k a b=false->Pl.spaceOk (refs,last)=false):=fun h=>by simp[Pl.spaceOk,Pl.Qda hk' (hrow.trans h)]
 clear hrow hF
 repeat' first|refine kS ?_|refine qS (Qdh cK (bIn _ _ _) rfl) ?_|refine qS (iy hr1) ?_|refine qS (iy hr2) ?_|refine kU ?_|refine kV ?_ ?_<;>intro q|fail
 all_goals clear hr1 hr2
 all_goals first|exact Qb (hx:=congrArg dB (F.out (by simp_all[Pl.QdC,Pl.inR];try omega)).symm)|exact Qh (64 -(k+1)) (by omega) ⟨k+1,by omega,rfl,T.out (by simp_all[Pl.QdC,Pl.inR];try omega),rfl⟩
def ePut(g:Nat)(w:Pl.Sto)(N:Nat)(hN:N<=800000)(hw:w.W N)(t:Pl.Tree)(ht:Qx t)(k:Nat)(hk:k<16)(text:List UInt8)(htx:text.length<=Pm.big):
 DoesE A4 46 [oS g w,.d (dTree t),.d (dI k),.d (dS text)] (hS g w) (gS g w) (fun x H=> ∃g',((Qm w t k text).2.2=false->g'=g)/\x= .tup [oS g' (Qm w t k text).1,.d (dTree (Qm w t k text).2.1),.d (dB (Qm w t k text).2.2)]/\H=hS g' (Qm w t k text).1):=by
 by_cases h1:(Qf w.rows ((Qe w.st t).getD k Pl.hole)).1=text
 ·exact ePut_a g w N hN hw t ht k hk text htx h1
 by_cases h2:text=[]
 ·exact ePut_b g w N hN hw t ht k hk text htx h1 h2
 ·exact ePut_c g w N hN hw t ht k hk text htx h1 h2

/- Of ftw_card; no condition. -/
import Derived.Test.YthbonbflkdonkaaGreatDoorP29
import Derived.Test.YthbonbflkdonkaaGreatDoorP30
set_option linter.all false
set_option maxRecDepth 100000
set_option maxHeartbeats 16000000
open Go.Proofs.Tryz renaming underlying72->A1,underlying3->A3,prog->A5
open Int renaming toNat_natCast->A4
open List renaming getElem?_eq_some_iff->A0,getElem?_eq_getElem->A2
open Nat renaming zero_add->A6
namespace Go.Proofs.YthbonbflkdonkaaGreatDoor
noncomputable section
open Go.RowKit
namespace Aw
attribute [local irreducible] ASeq ADraw AWP Loc
abbrev rFiles(s:Pm.Store)(t:Pl.Tree)(x:List (List UInt8))(m:List (Int×D)):List D:=
 [.pd (rSt s),dI t.root.pat,dI t.root.birth,dI t.root.size,dI t.root.sum,dI t.root.level,dI t.depth,dI t.many,tNds x,.mp (imap m)]
def Qcn(m:List (Int×D))(L:Int->List Qm):Prop:=
 ∀n,0<=n->Qaa (L n)=true/\(mget m n=some (tEnts (L n))∨mget m n=none/\L n=[])
def QbE(L:Int->List Qm):Int->List (List UInt8)->Option Int
 |i,[]=>some i
 |i,n::q=>match(L i).find? (fun e=>e.1==n) with
  |none=>none
  |some e=>QbE L e.2 q
def QjM(L:Int->List Qm)(i:Int)(n:List UInt8)(q:List (List UInt8)):QbE L i (n::q)=match(L i).find? (fun e=>e.1==n) with
 |none=>none
 |some e=>QbE L e.2 q:=rfl
def Qr6(E:Qk->List Qm×Bool)(ns:List Qk): ∀(q:List (List UInt8)) (i:Int),QbE (fun i=>(E (ns.getD i.toNat Qd)).1) i q=QbF E ns i q
 |[],_=>rfl
 |n::q,i=>by
  rw[QjM,QeA];generalize (E (ns.getD i.toNat Qd)).1.find? (fun e=>e.1==n)=r;cases r with
  |none=>rfl
  |some e=>exact Qr6 E ns q _
section
variable{P:Program}{dst:Option Tmp}{ty:TypeId}{pos:String}{after:Array Edge}{gd:Option (Nat×Bool)}{env:List (Nat×AV)}{H:List Blk}{T kt et:TypeId}{z:Value}
def Qgt(hT:P.underlying T=some (.map kt et))(hk:P.underlying kt=some (.int .i64))(hz:(P.info? et).bind (·.zero)=some z){u v:Operand}{m:List (Int×D)}{n:Int}{d:D}
 (hu:aval env u= .d (.mp (imap m))) (hv:aval env v= .d (.v (.int .i64 n))) (hg:mget m n=some d):Loc P ⟨dst,.lookup T u v false,ty,pos,after,gd⟩ env H (.d d) none:=by
 have h:=Qg7 (dst:=dst) (ty:=ty) (pos:=pos) (after:=after) (gd:=gd) (H:=H) hT hk hz hu hv;rw[hg] at h;exact h
def Qjv(hT:P.underlying T=some (.map kt et))(hk:P.underlying kt=some (.int .i64))(hz:(P.info? et).bind (·.zero)=some z){u v:Operand}{m:List (Int×D)}{n:Int}
 (hu:aval env u= .d (.mp (imap m))) (hv:aval env v= .d (.v (.int .i64 n))) (hg:mget m n=none):Loc P ⟨dst,.lookup T u v false,ty,pos,after,gd⟩ env H (.d (.v z)) none:=by
 have h:=Qg7 (dst:=dst) (ty:=ty) (pos:=pos) (after:=after) (gd:=gd) (H:=H) hT hk hz hu hv;rw[hg] at h;exact h
end
attribute [local irreducible] mget
def bFind(s:Pm.Store)(t:Pl.Tree)(x:List (List UInt8))(m:List (Int×D))(L:Int->List Qm)(hm:Qcn m L)(q:List (List UInt8))(hq:q.length<=1000000):
 Pure A5 37 [.pd (rFiles s t x m),tStrs q] (dI ((QbE L 0 q).getD (-1))):=by
 refine kB ?_
 repeat refine kA ?_
 refine Qq (fun mm st=> ∃(k:Nat) (at_:Int),k<=q.length/\mm=q.length -k/\0<=at_/\at_<=1000000/\Hid (QbE L 0 q=QbE L at_ (q.drop k))/\
  st=⟨41,[(12,.d (dI k)),(11,.d (dI q.length)),(10,.d (tStrs q)),(5,.d (dI at_)),(0,.d (.pd (rFiles s t x m)))],[]⟩) [12,11,10,5,0] 0 q.length ⟨0,0,by omega,rfl,by omega,by omega,Pm.hid rfl,by simp[keepE,go_sem]⟩ (round:=?_)
 rintro mm st ⟨k,at_,hk,rfl,ha,hb,hF,rfl⟩
 repeat refine kG ?_
 cases q3:decide ((k:Int)<(q.length:Int))
 ·repeat refine kA ?_
  refine Qb (hx:=?_);have:k=q.length:=by simp at q3;omega
  rw[hF.out,this,List.drop_length];rfl
 have hk2:k<q.length:=by simp at q3;omega
 obtain⟨n,hn⟩: ∃n,q[k]? =some n:=⟨_,A2 hk2⟩;have hr:=Qs (f:=fun s=>[dS s]) hn
 have hd:q.drop k=n::q.drop (k+1):=by
  rw[List.drop_eq_getElem_cons hk2,(A0.1 hn).2]
 have hst:=hF.out;rw[hd,QjM] at hst;obtain⟨hE,hg⟩:=hm at_ ha;rw[Qnk hE] at hst;clear hn hd hF;have hs2:=Pm.hid hst;clear hst;rcases hg with hg|⟨hg,hl⟩
 ·have c:=(Qo4 (L at_) n hE).arg (l:=[tEnts (L at_),dS n])
  cases hh:QaV (L at_) n
  ·rw[hh] at c hs2
   generalize QbH (L at_) n=lo at*;clear hE
   repeat' first|refine kS ?_|refine qS (iy hr) ?_|refine qS (Qdm rfl) ?_|refine qS (Qgt A1 A3 (z:= .slice none 0 0) (by kernel_rfl) rfl rfl hg) ?_|refine kU ?_|fail
   refine Qb (hx:=?_);rw[hs2.out];rfl
  ·rw[hh] at c hs2
   have hlen: ∃e,(L at_)[QbH (L at_) n]? =some e:=by
    unfold QaV at hh;split at hh
    ·rename_i e he;exact⟨e,he⟩
    ·cases hh
   obtain⟨e,he⟩:=hlen;have hre:=Qs (f:=rEnt) he;have heb:=(ent_b hE e (List.mem_of_getElem? he)).2;have hs3:Hid (QbE L 0 q=QbE L e.2 (q.drop (k+1))):=Pm.hid (by rw[hs2.out,if_pos rfl,he]);have hll:=(A0.1 he).1;clear hs2 he hE;generalize QbH (L at_) n=lo at*
   repeat' first|refine kS ?_|refine qS (iy hr) ?_|refine qS (iy hre) ?_|refine qS (Qdm rfl) ?_|refine qS (Qgt A1 A3 (z:= .slice none 0 0) (by kernel_rfl) rfl rfl hg) ?_|refine kU ?_|fail
   refine Qg (q.length -(k+1)) (by omega) ⟨k+1,e.2,by omega,rfl,by omega,by omega,hs3,by simp[keepE,go_sem]⟩
 ·rw[hl] at hs2 hE
  have c:=(Qo4 [] n hE);have c2:QaV [] n=false:=rfl;have c3:QbH [] n=0:=rfl;rw[c2,c3] at c;rw[c2] at hs2;clear hE c2 c3
  repeat' first|refine kS ?_|refine qS (iy hr) ?_|refine qS (Qdm rfl) ?_|refine qS (Qjv A1 A3 (z:= .slice none 0 0) (by kernel_rfl) rfl rfl hg) ?_|refine(aw_nilS 22 false 2 (h:=?_))|refine kU ?_|fail
  refine Qb (hx:=?_);rw[hs2.out];rfl
def bPath(s:Pm.Store)(t:Pl.Tree)(x:List (List UInt8))(m:List (Int×D))(L:Int->List Qm)(hm:Qcn m L)(p:List UInt8)(hp:p.length<=1000000000000):
 Pure A5 19 [.pd (rFiles s t x m),dS p] (dI (match Q7 p with|none=> -1|some q=>(QbE L 0 q).getD (-1))):=by
 have c1:=QpJ p hp;cases hq:Q7 p with
 |none=>
  rw[hq] at c1;refine kB ?_
  repeat refine kA ?_
  exact Qb (hx:=rfl)
 |some q=>
  rw[hq] at c1;have hl:=(QfO.1 hq).2.1;have c2:=bFind s t x m L hm q (by omega);simp only[Option.getD_some,Option.isSome_some] at c1;simp only;generalize (QbE L 0 q).getD (-1)=r at*;refine kB ?_
  repeat refine kA ?_
  exact Qb (hx:=rfl)
attribute [local irreducible] AStep Fg.PlanF Fg.Flts EndR
def ePut_a(g:Nat)(w:Pl.Sto)(N:Nat)(hN:N<=800000)(hw:w.W N)(t:Pl.Tree)(ht:Qx t)(k:Nat)(hk:k<16)(text:List UInt8)(htx:text.length<=Pm.big)(h1:(Qi w.rows ((Qe w.st t).getD k Pl.hole)).1=text):
 DoesE A5 24 [oS g w,.d (dTree t),.d (dI k),.d (dS text)] (hS g w) (gS g w) (fun x H=> ∃g',((Qn w t k text).2.2=false->g'=g)/\x= .tup [oS g' (Qn w t k text).1,.d (dTree (Qn w t k text).2.1),.d (dB (Qn w t k text).2.2)]/\H=hS g' (Qn w t k text).1):=by
 have hgood:=hw.good;have c1:=dWide w.st hgood t ht;have hl:=QdF w.st ht.hi;have ho:=Qft w.st ht.root
 have hfl:[Blk.arr 2 5 31 ((Qe w.st t).map rPtr)].all Blk.flat=true:=by
  simp[Blk.flat];intro x _;exact⟨rfl,rfl,rfl,rfl,rfl⟩
 have hd:=Pm.hid (Qn.eq_def w t k text);have hm1:=ht.manyLo;have hm2:=ht.manyHi;have hmx:(if((k:Int)+1)>t.many then((k:Int)+1) else t.many)=((max t.many.toNat (k+1):Nat):Int):=by split<;>omega
 have hmk:max t.many.toNat (k+1)<=16:=by omega
 have hmq:(max t.many.toNat (k+1)=t.many.toNat)↔((max t.many.toNat (k+1):Nat):Int)=t.many:=by omega
 generalize max t.many.toNat (k+1)=many at*;generalize Qn w t k text=res at*;generalize Qe w.st t=wd at*;have hkl:k<wd.length:=by omega
 have hr0:(wd.map rPtr)[0+(k:Int).toNat]? =some (rPtr (wd.getD k Pl.hole)):=by
  rw[A6,A4,List.getElem?_map,List.getD_eq_getElem?_getD,A2 hkl];rfl
 have hoo:=QgC ho k;have hset: ∀p,(wd.map rPtr).set (0+(k:Int).toNat) (rPtr p)=(wd.set k p).map rPtr:=fun p=>by rw[A6,A4,List.map_set]
 have hsl: ∀p,(wd.set k p).length=16:=fun p=>by rw[List.length_set];exact hl
 have hT: ∀p,((wd.set k p).map rPtr).take 16=(wd.set k p).map rPtr:=fun p=>List.take_of_length_le (by simp[hl])
 have hso: ∀p,Pl.ptrOk p=true-> ∀q∈wd.set k p,Pl.ptrOk q=true:=fun p hp q hq=>by
  rcases List.mem_or_eq_of_mem_set hq with e|e
  ·exact ho q e
  ·rw[e];exact hp
 have c2:=al7R w.st hgood (wd.getD k Pl.hole) fun _=>hoo
 have hF: ∀(w1:Pl.Sto) (p:Pl.Ptr),Hid (Qa5 w1 t k many p wd=if(Qw w1 t (wd.set k p) many).2.2 then(if p=wd.getD k Pl.hole then(Qw w1 t (wd.set k p) many).1 else(Qw w1 t (wd.set k p) many).1.free (wd.getD k Pl.hole),(Qw w1 t (wd.set k p) many).2.1,true)
  else((Qw w1 t (wd.set k p) many).1,(Qw w1 t (wd.set k p) many).2.1,false)):=fun w1 p=>Pm.hid rfl
 generalize wd.getD k Pl.hole=old at*;rw[show w.st.1=w.rows from rfl] at c2;generalize Qi w.rows old=rb at*;obtain⟨was,wok⟩:=rb;simp only at c2 hd h1;have hw':=hw.le (M:=N+1) (by omega)
 have go: ∀(w1:Pl.Sto) (p:Pl.Ptr),w1.W (N+1)->Pl.ptrOk p=true->w1.gone=w.gone->Hid (res=Qa5 w1 t k many p wd)->
  (w=w1/\old=p/\(was==text)=true/\Hid (((many:Int)==t.many)=false))->
  DoesE A5 24 [oS g w,.d (dTree t),.d (dI k),.d (dS text)] (hS g w) (gS g w) (fun x H=> ∃g',(res.2.2=false->g'=g)/\x= .tup [oS g' res.1,.d (dTree res.2.1),.d (dB res.2.2)]/\H=hS g' res.1):=by
  intro w1 p hw1 hp hgn hd hcase;rw[(hF w1 p).out] at hd;have cL:=pinS (X:=fun g'=> .tup [oS g' (Qw w1 t (wd.set k p) many).1,.d (dTree (Qw w1 t (wd.set k p) many).2.1),.d (dB (Qw w1 t (wd.set k p) many).2.2)]) (C:=fun g'=>(Qw w1 t (wd.set k p) many).2.2=false->g'=g) (eLay g w1 (N+1) (by omega) hw1 t ht.root (wd.set k p) (hsl p) (hso p hp) many hmk);have hWy:=(lay_W hw1 ht.root (hso p hp) hmk).1;have hst:=hset p;rw[<-show(AV.d (.sl true 5 (((wd.set k p).map rPtr).take 16)))= .d (tPtrs (wd.set k p)) by rw[hT]] at cL;generalize Qw w1 t (wd.set k p) many=y at*;clear hset hT hso hsl;generalize (wd.set k p).map rPtr=rows2 at*;obtain⟨w2,t2,ok2⟩:=y;simp only at cL hd hWy;rw[hgn] at cL;have v0:w2.rows.length=w.rows.length:=by rw[hWy.rows,hw.rows]
  have v1:w2.refs.length=w.refs.length:=by rw[hWy.refs,hw.refs]
  have v2:w2.last.length=w.last.length:=by rw[hWy.last,hw.last]
  have cf:=fun g'=>eFree2 g' w2 (N+1+13) (by omega) hWy old hoo
  have hWf:=hWy.free hoo;have u0:(w2.free old).rows.length=w.rows.length:=by rw[hWf.rows,hw.rows]
  have u1:(w2.free old).refs.length=w.refs.length:=by rw[hWf.refs,hw.refs]
  have u2:(w2.free old).last.length=w.last.length:=by rw[hWf.last,hw.last]
  generalize w2.free old=wf at*;clear hWf hWy hF;have hpo: ∃b,decide (p=old)=b:=⟨_,rfl⟩;obtain⟨bpo,hpo⟩:=hpo;have hdF:ok2=false->Hid (res=(w2,t2,false)):=fun e=>Pm.hid (by rw[hd.out,e];rfl)
  have hdT:ok2=true->bpo=true->Hid (res=(w2,t2,true)):=fun e e3=>Pm.hid (by rw[hd.out,e,if_pos rfl,if_pos (of_decide_eq_true (hpo.trans e3))])
  have hdN:ok2=true->bpo=false->Hid (res=(wf,t2,true)):=fun e e3=>Pm.hid (by rw[hd.out,e,if_pos rfl,if_neg (of_decide_eq_false (hpo.trans e3))])
  clear hd;obtain⟨rfl,rfl,hb1,hb2⟩:=hcase;obtain rfl:bpo=true:=by rw[<-hpo];simp
  clear hdN cf;cases ok2
  all_goals
   refine kH fun gvs=>?_
   repeat' first|refine kS ?_|refine(QdW (ds:=[dTree t]) c1 cK hw rfl hfl (k:=?_))|refine qS (Qdg Ty.h rfl rfl hr0 rfl) ?_|refine qS (Qdh cK c2 hw) ?_|refine qS (Qfz rfl rfl hmx) ?_|refine qS (Qed rfl rfl hb1) ?_|refine qS (Qec rfl rfl hb1) ?_|refine(Qn2 Ty.h rfl rfl hr0 hst (kk:=?_))|refine(Qa 9 (C:= .arr 2 5 31 rows2) (h:=?_))|(refine QC [0,1,2,3,4] cL cK (k:=?_);rintro _ _ ⟨g2,hg2,hC,rfl,rfl⟩;refine QdE (k:=?_))|refine qS (QiB rfl rfl hpo) ?_|refine(Qa 6 (h:=Fg.awp_drawF [1] [2,3] ?_))|refine kU ?_|refine kV ?_ ?_<;>intro q|fail
  all_goals first
   |exact absurd (hb2.out.symm.trans ‹((many:Int)==t.many)=true›) (by decide)
   |(obtain rfl:=hC rfl
     rcases hg2 with hg2|⟨_,hg2⟩
     ·omega
     ·refine QO 5 (hx:=?_)
      rw[(hdF rfl).out]
      exact⟨_,fun _=>rfl,rfl,rfl⟩)
   |(have hg4:g<g3∨g3=g/\wf.gone.length=w.gone.length:=by
      rcases hg2 with h1|⟨h1,h2⟩<;>rcases hg3 with h3|⟨h3,h4⟩<;>first|(left;omega)|(right;exact⟨by omega,h4.trans h2⟩)
     rcases hg4 with hg4|⟨rfl,hg4⟩<;>(refine QO 5 (hx:=?_);rw[(hdN rfl rfl).out];refine⟨_,?_,rfl,rfl⟩;intro h;cases h))
   |(rcases hg2 with hg2|⟨rfl,hg2⟩<;>(refine QO 5 (hx:=?_);rw[(hdT rfl rfl).out];refine⟨_,?_,rfl,rfl⟩;intro h;cases h))
 have hb1: ∀b,decide (was=text)=b->(was==text)=b:=fun b h=>by rw[<-h];by_cases e:was=text<;>simp[e]
 replace hb1:=hb1 true (by simpa using h1)
 rw[if_pos h1] at hd
 by_cases h2:many=t.many.toNat
 ·have hb2:Hid (((many:Int)==t.many)=true):=Pm.hid (by simpa using hmq.1 h2)
  rw[if_pos h2] at hd;clear hF hset hT hso;refine kH fun gvs=>?_
  repeat' first|refine kS ?_|refine(QdW (ds:=[dTree t]) c1 cK hw rfl hfl (k:=?_))|refine qS (Qdg Ty.h rfl rfl hr0 rfl) ?_|refine qS (Qdh cK c2 hw) ?_|refine qS (Qfz rfl rfl hmx) ?_|refine qS (Qed rfl rfl hb1) ?_|(show AWP _ (.region 6 _ _) _ _;refine(Qa 6 (h:=Fg.awp_drawF (id:=6) [1] [2,3] ?_)))|refine kU ?_|refine kV ?_ ?_<;>intro q|fail
  all_goals first|exact absurd (hb2.out.symm.trans ‹((many:Int)==t.many)=false›) (by decide)|refine QO 5 (hx:=?_);rw[hd.out];exact⟨g,fun _=>rfl,rfl,rfl⟩
 have hb2:Hid (((many:Int)==t.many)=false):=Pm.hid (by simpa using fun e=>h2 (hmq.2 e));rw[if_neg h2] at hd;exact go w old hw' hoo rfl hd ⟨rfl,rfl,hb1,hb2⟩
def QlQ{s:Pm.Store}{t:Pl.Tree}{path:List UInt8}(h:(Qad s t path).2=true): ∃q j,Q7 path=some q/\(QZ s&&Qab s t)=true/\Qa1 s (Qh s t) 0 q=some j/\Qad s t path=(j,true)/\0<=j:=by
 unfold Qad at*;split at h
 ·cases h
 ·rename_i q hq
  split at h
  ·rename_i hs
   split at h
   ·cases h
   ·rename_i j hj
    exact⟨q,j,hq,hs,hj,if_pos hs,Qk8 (Int.le_refl 0) hj⟩
  ·cases h

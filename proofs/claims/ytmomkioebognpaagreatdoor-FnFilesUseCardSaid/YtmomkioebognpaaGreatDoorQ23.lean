/- Of fuse_card; no condition. -/
import Derived.Test.YtmomkioebognpaaGreatDoorQ22
set_option linter.all false
set_option maxRecDepth 100000
set_option maxHeartbeats 16000000
open Bool renaming and_eq_true->A4
open Go.Proofs.Tryz renaming prog->A3,underlying5->AD,underlying22->AM
open Go.RowKit renaming Hid->AQ
open Int renaming toNat_natCast->A1
open List renaming getElem?_eq_getElem->A0,length_append->A2,findIdx?_eq_some_iff_getElem->A5,take_of_length_le->A6,length_cons->A7,length_nil->A8,getD_eq_getElem?_getD->A9,mem_cons_self->AA,getElem?_map->AB,mem_map->AE,mem_append->AF,length_map->AG,mem_of_getElem?->AH,mem_cons_of_mem->AI,find?_eq_none->AJ,take_add_one->AK,take_length->AN,all_eq_true->AO,mem_cons->AP,map_set->AR
open Nat renaming zero_add->AL
open Option renaming getD_some->AC
open Option.some renaming inj->AS
namespace Go.Proofs.YtmomkioebognpaaGreatDoor
noncomputable section
open Go.RowKit
namespace Aw
variable{name o:List UInt8}{t:Pl.Tree}{q:List (List UInt8)}{r:List UInt8×Nat}{f k:Nat}{b:UInt8}{x:Pl.Fnd}
attribute [local irreducible] ASeq ADraw AWP Loc AStep
def Pl.at12(l:List Pl.Ent)(name:List UInt8):Int:=match l.findIdx? (fun e=>e.1==name) with
 |some i=>(i:Int)
 |none=> -1
def QlD{l:List Pl.Ent}(h:l.find? (fun e=>e.1==name)=none):Pl.at12 l name= -1:=by
 have:l.findIdx? (fun e=>e.1==name)=none:=by
  rw[List.findIdx?_eq_none_iff];intro x hx;have:=AJ.1 h x hx;simpa using this
 unfold Pl.at12;rw[this]
def QlC{l:List Pl.Ent}{e:Pl.Ent}(h:l.find? (fun e=>e.1==name)=some e): ∃i:Nat,Pl.at12 l name=i/\l[i]? =some e:=by
 obtain⟨h1,l1,bs,rfl,h2⟩:=List.find?_eq_some_iff_append.1 h;refine⟨l1.length,?_,by simp⟩
 have:(l1++e::bs).findIdx? (fun e=>e.1==name)=some l1.length:=by
  rw[A5];refine⟨by simp,by simpa using h1,fun j hj=>?_⟩;rw[List.getElem_append_left hj];have:=h2 l1[j] (List.getElem_mem hj);simpa using this
 unfold Pl.at12;rw[this]
theorem al12At(l:List Pl.Ent)(name:List UInt8)(hl:l.length<=1000):Pure A3 71 [dEnts l,dS name] (dI (Pl.at12 l name)):=by
 refine kB ?_
 repeat refine kA ?_
 refine QbS (fun m st=> ∃k:Nat,k<=l.length/\m=l.length -k/\AQ (∀x∈l.take k,(x.1==name)=false)/\st=⟨20,[(5,.d (dI k)),(0,.d (dEnts l)),(1,.d (dS name))],[]⟩) [5,0,1] 0 l.length ⟨0,by omega,rfl,Pm.hid (by simp),rfl⟩ (round:=?_);rintro m st ⟨k,hk,rfl,hA,rfl⟩
 repeat refine kG ?_
 cases q3:decide ((k:Int)<(l.length:Int))
 ·repeat refine kA ?_
  refine QbQ (hx:=?_);have:k=l.length:=by simp at q3;omega
  have h:=hA.out;rw[this,AN] at h;rw[QlD (by rw[AJ];intro x hx;rw[h x hx];simp)]
 have hk2:k<l.length:=by simp at q3;omega
 obtain⟨x,hx⟩: ∃x,l[k]? =some x:=⟨_,A0 hk2⟩;have hr:=QbV (f:=rEnt) hx
 have T:AQ ((x.1==name)=false-> ∀y∈l.take (k+1),(y.1==name)=false):=Pm.hid fun h y hy=>by
  rw[AK,hx] at hy;rcases AF.1 hy with hy|hy
  ·exact hA.out y hy
  ·simp at hy;subst hy;exact h
 have F:AQ ((x.1==name)=true->Pl.at12 l name=k):=Pm.hid fun h=>by
  have:l.findIdx? (fun e=>e.1==name)=some k:=by
   rw[A5];refine⟨hk2,?_,fun j hj=>?_⟩
   ·rw[(List.getElem?_eq_some_iff.1 hx).2];exact h
   ·have:=hA.out l[j] (List.mem_iff_getElem?.2 ⟨j,by rw[List.getElem?_take,if_pos hj];exact A0 (by omega)⟩)
    rw[this];simp
  unfold Pl.at12;rw[this]
 clear hx hA
 repeat' first|refine kS ?_|refine qS (iy hr) ?_|refine kU ?_|refine kV ?_ ?_<;>intro q|fail
 all_goals first|exact QbR (l.length -(k+1)) (by omega) ⟨k+1,by omega,rfl,Pm.hid (T.out (by assumption)),rfl⟩|refine QbQ (hx:=?_);rw[F.out (by assumption)]
def Pl.Qa2(s:Pm.Store)(t:Pl.Tree)(q:List (List UInt8)):Int:=(Pl.QaM s (Pl.Qab s t) 0 q).getD (-1)
theorem Qkz(s:Pm.Store)(hg:Pl.Good s)(t:Pl.Tree)(ht:Pl.TGood t)(q:List (List UInt8))(hq:q.length<=1000):Pure A3 34 [dSt s,dTree t,dStrs q] (dI (Pl.Qa2 s t q)):=by
 have hd:AQ (Pl.Qa2 s t q=(Pl.QaM s (Pl.Qab s t) 0 q).getD (-1)):=Pm.hid rfl;have c1:=Pm.hid fun k=>al11Get s hg t ht k
 have hnn:=Pm.hid fun k=>Qhd s ht k
 have c2:=Pm.hid fun n=>QiG s hg n
 generalize Pl.Qab s t=ns at*;refine kE ?_;refine QbP 0 (h:=?_);refine QbP 1 (h:=?_)
 repeat refine kA ?_
 refine QbS (fun m st=> ∃(k i:Nat),k<=q.length/\m=q.length -k/\AQ (Pl.QaM s ns 0 q=Pl.QaM s ns i (q.drop k))/\st=⟨51,[(7,.d (dI i)),(8,.d (dI k)),(2,.d (dStrs q)),(3,.d (.pd (rSt s))),(4,.d (.pd (rTree t)))],[.row 1 [],.row 1 []]⟩) [7,8,2,3,4] 2 q.length ⟨0,0,by omega,rfl,Pm.hid rfl,rfl⟩ (round:=?_);rintro m st ⟨k,i,hk,rfl,hF,rfl⟩
 repeat refine kG ?_
 cases q3:decide ((k:Int)<(q.length:Int))
 ·repeat refine kA ?_
  refine QbQ (hx:=?_);have:k=q.length:=by simp at q3;omega
  have h:=hF.out;rw[this,List.drop_length] at h;rw[hd.out,h];rfl
 have hk2:k<q.length:=by simp at q3;omega
 obtain⟨x,hx⟩: ∃x,q[k]? =some x:=⟨_,A0 hk2⟩;have hr:=QbV (f:=fun s=>[dS s]) hx
 have hF2:AQ (Pl.QaM s ns 0 q=match(Pl.ents s (ns.getD i Pl.zn)).1.find? (fun e=>e.1==x) with|none=>none|some e=>Pl.QaM s ns e.2 (q.drop (k+1))):=Pm.hid (by
  rw[hF.out,Qgu hx];exact Qdo (Pl.ents s) ns i x _)
 have c1k:=c1.out i;have hn:=hnn.out i;have hel:=QdI s (ns.getD i Pl.zn);have heb:=Qhm s (ns.getD i Pl.zn);have hec:=QcE s (ns.getD i Pl.zn);have c2k:=c2.out (ns.getD i Pl.zn);rw[<-hn] at c2k hel heb hec hF2;clear hx hF hn c1 c2 hnn;generalize Pl.Qal s t i=na at*;obtain⟨⟨kind,links,size,⟨⟨p1,p2,p3,p4,p5⟩,depth,many⟩⟩,nok⟩:=na;simp only at c2k hel heb hec hF2;generalize Pl.ents s ⟨kind,links,size,⟨⟨p1,p2,p3,p4,p5⟩,depth,many⟩⟩=ee at*;obtain⟨es,ok⟩:=ee;simp only at hel heb hec hF2;have c3:=(al12At es x (by omega)).arg (l:=[tEnts es,dS x]);cases hf:es.find? (fun e=>e.1==x) with
 |none=>
  rw[QlD hf] at c3;have hx:AQ (Pl.Qa2 s t q= -1):=Pm.hid (by rw[hd.out,hF2.out,hf];rfl);clear hF2 hd hec heb hf
  repeat' first|refine kS ?_|refine qS (iy hr) ?_|refine kU ?_|refine kV ?_ ?_<;>intro q|fail
  all_goals first|exfalso;simp at*;done|refine QbQ (hx:=?_);rw[hx.out]
 |some e=>
  obtain⟨j,hj,hje⟩:=QlC hf;rw[hj] at c3
  have hok:ok=true:=by
   rcases hec with h|h
   ·exact h.1
   ·obtain⟨rfl,rfl⟩:=Prod.mk.inj h;cases hf
  subst hok;have hre:=QbV (f:=rEnt) hje;have heb2:=heb e (AH hje);have hT:AQ (Pl.QaM s ns 0 q=Pl.QaM s ns (e.2.toNat:Nat) (q.drop (k+1))):=Pm.hid (by rw[hF2.out,hf];simp only;rw[show((e.2.toNat:Nat):Int)=e.2 by omega]);clear hF2 hd hec heb hf hj hje;obtain⟨nm,id⟩:=e;obtain⟨id,rfl⟩:=Int.eq_ofNat_of_zero_le (show 0<=id by have:=heb2.2.1;omega);simp only[A1] at hT
  repeat' first|refine kS ?_|refine qS (iy hr) ?_|refine qS (iy hre) ?_|refine kU ?_|fail
  all_goals first|exact QbR (q.length -(k+1)) (by omega) ⟨k+1,id,by omega,rfl,Pm.hid hT.out,rfl⟩|exfalso;simp only[decide_eq_true_eq] at*;omega
structure Pl.Lens(s:Pm.Store):Prop where
 b1:s.2.1.1.length<=Pm.big
 b2:s.2.1.2.length<=Pm.big
 b3:s.2.2.2.1.length<=1000000000000
 b4:s.2.2.2.2.2.1.length<=1000000000000
def QcL{s:Pm.Store}(h:Pl.Qan s=true):Pl.Good s:=by
 unfold Pl.Qan at h;simp only[A4,beq_iff_eq] at h;obtain⟨⟨⟨⟨⟨h1,_⟩,_⟩,_⟩,h2⟩,_⟩:=h;refine⟨h1,fun r hr=>?_⟩;obtain⟨i,hi,rfl⟩:=List.getElem_of_mem hr;unfold Pl.Qby at h2;have:=AO.1 h2 i (List.mem_range.2 (by omega));unfold Pl.Qbg at this;simp only[A4,decide_eq_true_eq,A9,A0 hi,AC] at this;exact this.1.1
def al15Ok(s:Pm.Store)(hg:Pl.Good s)(t:Pl.Tree):Pure A3 68 [dSt s,dTree t] (dB (Pl.Qav s t)):=by
 have c:=al15All s hg t;have hd:=Pm.hid (Pl.Qb3.eq_def s t);have h2:AQ ((Pl.Qb3 s t).2=Pl.Qav s t):=Pm.hid (by rw[hd.out];cases Pl.Qav s t<;>rfl);generalize Pl.Qb3 s t=r at*;obtain⟨l,ok⟩:=r;refine kE ?_;refine QbP 0 (h:=?_);refine QbP 1 (h:=?_)
 repeat refine kA ?_
 exact QbQ (hx:=by rw[<-h2.out])
def Qt6(s:Pm.Store)(hl:Pl.Lens s)(t:Pl.Tree):Pure A3 33 [dSt s,dTree t] (dB (Pl.Qan s&&Pl.Qav s t)):=by
 have c1:=Qok s hl.b1 hl.b2 hl.b3 hl.b4;cases h:Pl.Qan s
 ·rw[h] at c1
  refine kE ?_;refine QbP 0 (h:=?_);refine QbP 1 (h:=?_)
  repeat refine kA ?_
  exact QbQ (hx:=rfl)
 ·have c2:=al15Ok s (QcL h) t
  rw[h] at c1;refine kE ?_;refine QbP 0 (h:=?_);refine QbP 1 (h:=?_)
  repeat refine kA ?_
  exact QbQ (hx:=rfl)
def Pl.QaU(s:Pm.Store)(t:Pl.Tree)(path:List UInt8):Int×Bool:=
 match Pl.Qae path with
 |none=>(0,false)
 |some q=>if Pl.Qan s&&Pl.Qav s t then(match Pl.QaM s (Pl.Qab s t) 0 q with|none=>(0,false)|some j=>(j,true)) else(0,false)
def Qfn{s:Pm.Store}(h:Pl.Qav s t=true):Pl.TGood t:=by
 unfold Pl.Qav Pl.QaI at h;simp only[A4] at h;exact Qcf h.1.1.1.1
def Qpw(s:Pm.Store)(hl:Pl.Lens s)(t:Pl.Tree)(path:List UInt8)(hp:path.length<=1000000000000):Pure A3 16 [dSt s,dTree t,dS path] (.tup [dI (Pl.QaU s t path).1,dB (Pl.QaU s t path).2]):=by
 have hd:=Pm.hid (Pl.QaU.eq_def s t path);have c1:=QgS path hp;have c2:=Qt6 s hl t;cases hq:Pl.Qae path with
 |none=>
  rw[hq] at c1 hd;refine kE ?_;refine QbP 0 (h:=?_);refine QbP 1 (h:=?_)
  repeat refine kA ?_
  exact QbQ (hx:=by rw[hd.out])
 |some q=>
  have hql:q.length<=4:=(Qeb.1 hq).2.1;rw[hq] at c1 hd;simp only[AC,Option.isSome_some] at c1;cases hk:Pl.Qan s&&Pl.Qav s t
  ·rw[hk] at c2 hd
   refine kE ?_;refine QbP 0 (h:=?_);refine QbP 1 (h:=?_)
   repeat refine kA ?_
   exact QbQ (hx:=by rw[hd.out];rfl)
  ·have hk2:Pl.Qan s=true/\Pl.Qav s t=true:=by simpa using hk
   have c3:=(Qkz s (QcL hk2.1) t (Qfn hk2.2) q (by omega)).arg (l:=[dSt s,dTree t,tStrs q]);unfold Pl.Qa2 at c3;have hnn: ∀j,Pl.QaM s (Pl.Qab s t) 0 q=some j->0<=j:=fun j h=>QjW (Int.le_refl 0) h
   rw[hk] at c2 hd;dsimp only at hd;rw[if_pos rfl] at hd;generalize Pl.QaM s (Pl.Qab s t) 0 q=r at*;cases r with
   |none=>
    simp only[Option.getD_none] at c3;refine kE ?_;refine QbP 0 (h:=?_);refine QbP 1 (h:=?_)
    repeat refine kA ?_
    all_goals first|exfalso;simp only[decide_eq_false_iff_not] at*;omega|exact QbQ (hx:=by rw[hd.out])|exact QbQ (hx:=by rw[hd.out];rfl)
   |some j=>
    have hj:=hnn j rfl;simp only[AC] at c3;refine kE ?_;refine QbP 0 (h:=?_);refine QbP 1 (h:=?_)
    repeat' first|refine kA ?_|refine kV ?_ ?_<;>intro q|fail
    all_goals first|exfalso;simp only[decide_eq_true_eq] at*;omega|exact QbQ (hx:=by rw[hd.out])|exact QbQ (hx:=by rw[hd.out];rfl)
def QsY{kind:Nat->Nat}{en:Nat->Option Gr.En}(hen: ∀k es,en k=some es-> ∀e∈es,Pl.Qas e.1=true){r L:List Gr.It}(h:Gr.FP kind en r L):(∀x∈r,∀n∈x.1,Pl.Qas n=true)-> ∀x∈L,∀n∈x.1,Pl.Qas n=true:=by
 induction h with
 |nil=>intro _ x hx;cases hx
 |file hk h ih=>
  intro hr x hx;rcases AP.1 hx with rfl|hx
  ·exact hr _ AA
  ·exact ih (fun y hy=>hr y (AI _ hy)) x hx
 |dir hk he h1 h2 ih1 ih2=>
  intro hr x hx;rcases AP.1 hx with rfl|hx
  ·exact hr _ AA
  ·rcases AF.1 hx with hx|hx
   ·refine ih1 (fun y hy n hn=>?_) x hx
    unfold Gr.kids at hy;obtain⟨e,hem,rfl⟩:=AE.1 hy;rcases AF.1 hn with hn|hn
    ·exact hr _ AA n hn
    ·rw[List.mem_singleton] at hn;rw[hn];exact hen _ _ he e hem
   ·exact ih2 (fun y hy=>hr y (AI _ hy)) x hx
def Qm7{s:Pm.Store}(h:Pl.Qav s t=true):(∀x∈(Pl.QaS s t).1,(∀n∈x.1,Pl.Qas n=true)/\0<=x.2/\x.2<16)/\(Pl.QaS s t).1.length<=144:=by
 have hF:=(Qfm s t).1 h;have ht:=Qfn h;unfold Pl.Qav at h;simp only[A4,beq_iff_eq] at h;obtain⟨L,g1,g2,g3⟩:=Qgp s hF.root h.1.2;rw[g3];have hnl:(Pl.Qab s t).length<=16:=by unfold Pl.Qab;rw[AG,texts_len s ht];have:=ht.manyHi;omega
 refine⟨fun x hx=>?_,by simpa using g2⟩;obtain⟨y,hy,rfl⟩:=AE.1 hx;refine⟨QsY (fun k es he e hee=>?_) g1 (by simp) y hy,?_⟩
 ·unfold Pl.enF at he
  split at he
  ·obtain rfl:=AS he
   obtain⟨e',he',rfl⟩:=AE.1 hee;exact(Qhm s _ e' he').1
  ·cases he
 ·have:=g1.fd.kinds y.2 (AE.2 ⟨y,hy,rfl⟩)
  have hk:y.2<(Pl.Qab s t).length:=QcA (by rcases this with h|⟨h,_⟩<;>rw[h]<;>decide);simp only[Pl.itOf];omega
def Pl.Qb4(p path:List UInt8):Bool:=(path==[47])||(p==path)||(decide (path.length<p.length)&&(p.take (path.length+1)==path++[47]))
def Qov{p:List (List UInt8)}(hp: ∀n∈p,Pl.Qas n=true)(hq: ∀n∈q,Pl.Qas n=true):Pl.Qb4 (Pl.Qa5 p) (Pl.Qa5 q)=q.isPrefixOf p:=by
 rw[Bool.eq_iff_iff,List.isPrefixOf_iff_prefix,<-pre_iff (QhP hq) (QhP hp)];unfold Pl.Qb4;simp only[Bool.or_eq_true,A4,beq_iff_eq,decide_eq_true_eq];rw[Qeo (QhP hq)];constructor
 ·rintro((h|h)|⟨_,h⟩)
  ·exact .inl h
  ·exact .inr (.inl h)
  ·exact .inr (.inr ⟨(Pl.Qa5 p).drop ((Pl.Qa5 q).length+1),by rw[<-h];exact List.take_append_drop _ _⟩)
 ·rintro(h|h|⟨r,h⟩)
  ·exact .inl (.inl h)
  ·exact .inl (.inr h)
  ·refine .inr ⟨by rw[<-h];simp,?_⟩
   rw[<-h,List.take_append_of_le_length (by simp),A6 (by simp)]
attribute [local irreducible] Fg.PlanF Fg.Flts EndR
def ePut_a(g:Nat)(w:Pl.Sto)(N:Nat)(hN:N<=800000)(hw:w.W N)(t:Pl.Tree)(ht:Pl.TGood t)(k:Nat)(hk:k<16)(text:List UInt8)(htx:text.length<=Pm.big)(h1:(Pl.rd w.rows ((Pl.wide w.st t).getD k Pl.hole)).1=text):
 DoesE A3 25 [oS g w,.d (dTree t),.d (dI k),.d (dS text)] (hS g w) (gS g w) (fun x H=> ∃g',((Pl.tput w t k text).2.2=false->g'=g)/\x= .tup [oS g' (Pl.tput w t k text).1,.d (dTree (Pl.tput w t k text).2.1),.d (dB (Pl.tput w t k text).2.2)]/\H=hS g' (Pl.tput w t k text).1):=by
 have hgood:=hw.good;have c1:=dWide w.st hgood t ht;have hl:=QcH w.st ht.hi;have ho:=Qe9 w.st ht.root
 have hfl:[Blk.arr 2 5 31 ((Pl.wide w.st t).map rPtr)].all Blk.flat=true:=by
  simp[Blk.flat];intro x _;exact⟨rfl,rfl,rfl,rfl,rfl⟩
 have hd:=Pm.hid (Pl.tput.eq_def w t k text);have hm1:=ht.manyLo;have hm2:=ht.manyHi;have hmx:(if((k:Int)+1)>t.many then((k:Int)+1) else t.many)=((max t.many.toNat (k+1):Nat):Int):=by split<;>omega
 have hmk:max t.many.toNat (k+1)<=16:=by omega
 have hmq:(max t.many.toNat (k+1)=t.many.toNat)↔((max t.many.toNat (k+1):Nat):Int)=t.many:=by omega
 generalize max t.many.toNat (k+1)=many at*;generalize Pl.tput w t k text=res at*;generalize Pl.wide w.st t=wd at*;have hkl:k<wd.length:=by omega
 have hr0:(wd.map rPtr)[0+(k:Int).toNat]? =some (rPtr (wd.getD k Pl.hole)):=by
  rw[AL,A1,AB,A9,A0 hkl];rfl
 have hoo:=QfW ho k;have hset: ∀p,(wd.map rPtr).set (0+(k:Int).toNat) (rPtr p)=(wd.set k p).map rPtr:=fun p=>by rw[AL,A1,AR]
 have hsl: ∀p,(wd.set k p).length=16:=fun p=>by rw[List.length_set];exact hl
 have hT: ∀p,((wd.set k p).map rPtr).take 16=(wd.set k p).map rPtr:=fun p=>A6 (by simp[hl])
 have hso: ∀p,Pl.ptrOk p=true-> ∀q∈wd.set k p,Pl.ptrOk q=true:=fun p hp q hq=>by
  rcases List.mem_or_eq_of_mem_set hq with e|e
  ·exact ho q e
  ·rw[e];exact hp
 have c2:=al7R w.st hgood (wd.getD k Pl.hole) fun _=>hoo
 have hF: ∀(w1:Pl.Sto) (p:Pl.Ptr),AQ (Pl.putF w1 t k many p wd=if(Pl.lay w1 t (wd.set k p) many).2.2 then(if p=wd.getD k Pl.hole then(Pl.lay w1 t (wd.set k p) many).1 else(Pl.lay w1 t (wd.set k p) many).1.free (wd.getD k Pl.hole),(Pl.lay w1 t (wd.set k p) many).2.1,true)
  else((Pl.lay w1 t (wd.set k p) many).1,(Pl.lay w1 t (wd.set k p) many).2.1,false)):=fun w1 p=>Pm.hid rfl
 generalize wd.getD k Pl.hole=old at*;rw[show w.st.1=w.rows from rfl] at c2;generalize Pl.rd w.rows old=rb at*;obtain⟨was,wok⟩:=rb;simp only at c2 hd h1;have hw':=hw.le (M:=N+1) (by omega)
 have go: ∀(w1:Pl.Sto) (p:Pl.Ptr),w1.W (N+1)->Pl.ptrOk p=true->w1.gone=w.gone->AQ (res=Pl.putF w1 t k many p wd)->
  (w=w1/\old=p/\(was==text)=true/\AQ (((many:Int)==t.many)=false))->
  DoesE A3 25 [oS g w,.d (dTree t),.d (dI k),.d (dS text)] (hS g w) (gS g w) (fun x H=> ∃g',(res.2.2=false->g'=g)/\x= .tup [oS g' res.1,.d (dTree res.2.1),.d (dB res.2.2)]/\H=hS g' res.1):=by
  intro w1 p hw1 hp hgn hd hcase;rw[(hF w1 p).out] at hd;have cL:=pinS (X:=fun g'=> .tup [oS g' (Pl.lay w1 t (wd.set k p) many).1,.d (dTree (Pl.lay w1 t (wd.set k p) many).2.1),.d (dB (Pl.lay w1 t (wd.set k p) many).2.2)]) (C:=fun g'=>(Pl.lay w1 t (wd.set k p) many).2.2=false->g'=g) (eLay g w1 (N+1) (by omega) hw1 t ht.root (wd.set k p) (hsl p) (hso p hp) many hmk);have hWy:=(lay_W hw1 ht.root (hso p hp) hmk).1;have hst:=hset p;rw[<-show(AV.d (.sl true 5 (((wd.set k p).map rPtr).take 16)))= .d (tPtrs (wd.set k p)) by rw[hT]] at cL;generalize Pl.lay w1 t (wd.set k p) many=y at*;clear hset hT hso hsl;generalize (wd.set k p).map rPtr=rows2 at*;obtain⟨w2,t2,ok2⟩:=y;simp only at cL hd hWy;rw[hgn] at cL;have v0:w2.rows.length=w.rows.length:=by rw[hWy.rows,hw.rows]
  have v1:w2.refs.length=w.refs.length:=by rw[hWy.refs,hw.refs]
  have v2:w2.last.length=w.last.length:=by rw[hWy.last,hw.last]
  have cf:=fun g'=>eFree2 g' w2 (N+1+13) (by omega) hWy old hoo
  have hWf:=hWy.free hoo;have u0:(w2.free old).rows.length=w.rows.length:=by rw[hWf.rows,hw.rows]
  have u1:(w2.free old).refs.length=w.refs.length:=by rw[hWf.refs,hw.refs]
  have u2:(w2.free old).last.length=w.last.length:=by rw[hWf.last,hw.last]
  generalize w2.free old=wf at*;clear hWf hWy hF;have hpo: ∃b,decide (p=old)=b:=⟨_,rfl⟩;obtain⟨bpo,hpo⟩:=hpo;have hdF:ok2=false->AQ (res=(w2,t2,false)):=fun e=>Pm.hid (by rw[hd.out,e];rfl)
  have hdT:ok2=true->bpo=true->AQ (res=(w2,t2,true)):=fun e e3=>Pm.hid (by rw[hd.out,e,if_pos rfl,if_pos (of_decide_eq_true (hpo.trans e3))])
  have hdN:ok2=true->bpo=false->AQ (res=(wf,t2,true)):=fun e e3=>Pm.hid (by rw[hd.out,e,if_pos rfl,if_neg (of_decide_eq_false (hpo.trans e3))])
  clear hd;obtain⟨rfl,rfl,hb1,hb2⟩:=hcase;obtain rfl:bpo=true:=by rw[<-hpo];simp
  clear hdN cf;cases ok2
  all_goals
   refine kH fun gvs=>?_
   repeat' first|refine kS ?_|refine(QcZ (ds:=[dTree t]) c1 cK hw rfl hfl (k:=?_))|refine qS (Qcb Ty.h rfl rfl hr0 rfl) ?_|refine qS (Qcd cK c2 hw) ?_|refine qS (Qgj rfl rfl hmx) ?_|refine qS (Qdi rfl rfl hb1) ?_|refine qS (Qdh rfl rfl hb1) ?_|refine(QmR Ty.h rfl rfl hr0 hst (kk:=?_))|refine(QbP 9 (C:= .arr 2 5 31 rows2) (h:=?_))|(refine QbX [0,1,2,3,4] cL cK (k:=?_);rintro _ _ ⟨g2,hg2,hC,rfl,rfl⟩;refine QcC (k:=?_))|refine qS (QhY rfl rfl hpo) ?_|refine(QbP 6 (h:=Fg.awp_drawF [1] [2,3] ?_))|refine kU ?_|refine kV ?_ ?_<;>intro q|fail
  all_goals first
   |exact absurd (hb2.out.symm.trans ‹((many:Int)==t.many)=true›) (by decide)
   |(obtain rfl:=hC rfl
     rcases hg2 with hg2|⟨_,hg2⟩
     ·omega
     ·refine Qca 5 (hx:=?_)
      rw[(hdF rfl).out]
      exact⟨_,fun _=>rfl,rfl,rfl⟩)
   |(have hg4:g<g3∨g3=g/\wf.gone.length=w.gone.length:=by
      rcases hg2 with h1|⟨h1,h2⟩<;>rcases hg3 with h3|⟨h3,h4⟩<;>first|(left;omega)|(right;exact⟨by omega,h4.trans h2⟩)
     rcases hg4 with hg4|⟨rfl,hg4⟩<;>(refine Qca 5 (hx:=?_);rw[(hdN rfl rfl).out];refine⟨_,?_,rfl,rfl⟩;intro h;cases h))
   |(rcases hg2 with hg2|⟨rfl,hg2⟩<;>(refine Qca 5 (hx:=?_);rw[(hdT rfl rfl).out];refine⟨_,?_,rfl,rfl⟩;intro h;cases h))
 have hb1: ∀b,decide (was=text)=b->(was==text)=b:=fun b h=>by rw[<-h];by_cases e:was=text<;>simp[e]
 replace hb1:=hb1 true (by simpa using h1)
 rw[if_pos h1] at hd
 by_cases h2:many=t.many.toNat
 ·have hb2:AQ (((many:Int)==t.many)=true):=Pm.hid (by simpa using hmq.1 h2)
  rw[if_pos h2] at hd;clear hF hset hT hso;refine kH fun gvs=>?_
  repeat' first|refine kS ?_|refine(QcZ (ds:=[dTree t]) c1 cK hw rfl hfl (k:=?_))|refine qS (Qcb Ty.h rfl rfl hr0 rfl) ?_|refine qS (Qcd cK c2 hw) ?_|refine qS (Qgj rfl rfl hmx) ?_|refine qS (Qdi rfl rfl hb1) ?_|(show AWP _ (.region 6 _ _) _ _;refine(QbP 6 (h:=Fg.awp_drawF (id:=6) [1] [2,3] ?_)))|refine kU ?_|refine kV ?_ ?_<;>intro q|fail
  all_goals first|exact absurd (hb2.out.symm.trans ‹((many:Int)==t.many)=false›) (by decide)|refine Qca 5 (hx:=?_);rw[hd.out];exact⟨g,fun _=>rfl,rfl,rfl⟩
 have hb2:AQ (((many:Int)==t.many)=false):=Pm.hid (by simpa using fun e=>h2 (hmq.2 e));rw[if_neg h2] at hd;exact go w old hw' hoo rfl hd ⟨rfl,rfl,hb1,hb2⟩
def Pl.Qbs(many:Nat)(b:UInt8):Nat->List UInt8->List UInt8
 |0,o=>o
 |k+1,o=>if o.length<many then Pl.Qbs many b k (o++[b]) else o
def Pl.QaF(rows:List (List D))(many kind:Nat)(q:List UInt8×Nat):List UInt8×Nat:=
 if kind=0 then(q.1++[Pl.Qbi (Pl.pkv rows q.2 256)],q.2+1)
 else if kind=1 then(q.1++[([97,98,126,48,58,59,61]:List UInt8).getD (Pl.pkv rows q.2 7).toNat 0],q.2+1)
 else if kind=2 then(Pl.Qbs many (Pl.Qbi (97+Pl.pkv rows q.2 3)) ((Pl.pkv rows (q.2+1) 6).toNat+1) q.1,q.2+1+1)
 else(q.1++[Pl.Qbi (Pl.pkv rows q.2 2*97)],q.2+1)
def Pl.Qbu(rows:List (List D))(many kind:Nat):Nat->List UInt8×Nat->List UInt8×Nat
 |0,q=>q
 |f+1,q=>if q.1.length<many then Pl.Qbu rows many kind f (Pl.QaF rows many kind q) else q
def Pl.txt(rows:List (List D))(p n:Nat):List UInt8×Nat:=
 Pl.Qbu rows (Pl.pkv rows p ((n:Int)+1)).toNat (Pl.pkv rows (p+1) 4).toNat (Pl.pkv rows p ((n:Int)+1)).toNat ([],p+1+1)
theorem QpN(many:Nat)(b:UInt8): ∀(k:Nat) (o:List UInt8),o.length<=(Pl.Qbs many b k o).length/\(o.length<=many->(Pl.Qbs many b k o).length<=many)/\(0<k->o.length<many->o.length<(Pl.Qbs many b k o).length)
 |0,o=>⟨Nat.le_refl _,fun h=>h,fun h=>absurd h (by decide)⟩
 |k+1,o=>by
  unfold Pl.Qbs;obtain⟨h1,h2,_⟩:=QpN many b k (o++[b])
  grind
theorem Qnc(rows:List (List D))(many kind:Nat)(q:List UInt8×Nat)(h:q.1.length<many):q.1.length<(Pl.QaF rows many kind q).1.length/\(Pl.QaF rows many kind q).1.length<=many/\(Pl.QaF rows many kind q).2<=q.2+2:=by
 unfold Pl.QaF;split
 ·grind
 split
 ·grind
 split
 ·obtain⟨h1,h2,h3⟩:=QpN many (Pl.Qbi (97+Pl.pkv rows q.2 3)) ((Pl.pkv rows (q.2+1) 6).toNat+1) q.1
  grind
 grind
def QtJ(rows:List (List D))(many kind:Nat): ∀(f:Nat) (q:List UInt8×Nat),q.1.length<=many->(Pl.Qbu rows many kind f q).1.length<=many/\(Pl.Qbu rows many kind f q).2<=q.2+2*(many -q.1.length)
 |0,q,h=>⟨h,by show q.2<=_;omega⟩
 |f+1,q,h=>by
  unfold Pl.Qbu;split
  ·rename_i hlt
   obtain⟨h1,h2,h3⟩:=Qnc rows many kind q hlt;obtain⟨h4,h5⟩:=QtJ rows many kind f _ h2;omega
  omega
def txt_len{rows:List (List D)}(hr:RdOk rows)(p n:Nat):(Pl.txt rows p n).1.length<=n/\(Pl.txt rows p n).2<=p+2+2*n:=by
 obtain⟨h1,h2⟩:=pkv_b hr p ((n:Int)+1);obtain⟨h3,h4⟩:=QtJ rows (Pl.pkv rows p ((n:Int)+1)).toNat (Pl.pkv rows (p+1) 4).toNat (Pl.pkv rows p ((n:Int)+1)).toNat ([],p+1+1) (Nat.zero_le _);unfold Pl.txt;omega
theorem go_end{rows:List (List D)}{many kind:Nat}{q:List UInt8×Nat}(h:Pl.Qbu rows many kind f q=r)(hq: ¬q.1.length<many):q=r:=by
 cases f with
 |zero=>exact h
 |succ f=>unfold Pl.Qbu at h;grind
theorem QqA{rows:List (List D)}{many kind:Nat}{q:List UInt8×Nat}(h:Pl.Qbu rows many kind f q=r)(hq:q.1.length<many)(hf:many -q.1.length<=f): ∃f',many -(Pl.QaF rows many kind q).1.length<=f'/\Pl.Qbu rows many kind f' (Pl.QaF rows many kind q)=r:=by
 cases f with
 |zero=>omega
 |succ f=>
  unfold Pl.Qbu at h;rw[if_pos hq] at h;have:=(Qnc rows many kind q hq).1
  grind
section
variable{ops:Array Oper}{Q:Exit->St->Prop}{l:List Oper}{n:Nat}{env:List (Nat×AV)}{H H':List Blk}{d:Tmp}{ty:TypeId}{pos:String}{after:Array Edge}{gd:Option (Nat×Bool)}{xs:Array Operand}{tys:Array TypeId}{rows:List (List D)}{p:Nat}{m:Int}
def QrK(k:Nat)(hr:RdOk rows)(hargs:xs.toList.map (aval env)=[.ptr k 0 0,.d (dI m)]:=by rfl)(hH:H[k]? =some (rdR rows p):=by rfl)(hp:p<=1000000:=by omega)(hm:m<=1000000:=by omega)
 (hw:awanted ops env ⟨some d,.call ⟨.value (.func 12),xs,tys⟩,ty,pos,after,gd⟩=some true:=by rfl) (hd:Nat.blt d n=true:=by rfl) (hg:gdOk ops n ⟨some d,.call ⟨.value (.func 12),xs,tys⟩,ty,pos,after,gd⟩=true:=by rfl)
 (hH': ∀R:List Blk->Prop,R H'->R (H.set k (rdR rows (p+1))):=by intro R hR;simp only[List.set_cons_zero,List.set_cons_succ];exact hR)
 (kk: ∀v:Nat,((v:Int)<m∨v=0)->Pl.pkv rows p m=v->ASeq A3 ops Q l ⟨n,(d,.d (dI v))::env,H'⟩):ASeq A3 ops Q (⟨some d,.call ⟨.value (.func 12),xs,tys⟩,ty,pos,after,gd⟩::l) ⟨n,env,H⟩:=by
 have e:=hH' (fun r=>r=H') rfl;obtain⟨h1,h2⟩:=pkv_b hr p m;refine QbX [k] (ePick rows hr p hp m hm) Tryz.call12 (hargs:=hargs) (hks:=by simp[hH,Blk.ren,AV.renL,AV.ren]) (hnd:=by simp) (hw:=hw) (hd:=hd) (hg:=hg) (k:=?_);rintro _ _ ⟨rfl,rfl⟩;have:=kk (Pl.pkv rows p m).toNat (by omega) (by omega);rw[Int.toNat_of_nonneg h1] at this;rw[<-e] at this;show ASeq _ _ _ _ ⟨_,_,H.set k (rdR rows (p+1))++[]⟩;rw[List.append_nil];exact this
end
def TX(rows:List (List D))(fin:List UInt8×Nat)(p n many kind:Nat)(gvs:List Value)(m:Nat)(st:St):Prop:= ∃(out:List UInt8) (g p' f:Nat),m=many -out.length/\out.length<=n/\p'<=p+2+2*out.length/\many -out.length<=f/\Pl.Qbu rows many kind f (out,p')=fin/\
    st=⟨72,[(5,.osl 1 g 0 out.length),(6,.d (dI many)),(7,.d (dI kind)),(0,.ptr 0 0 0),(1000000,.gh [.ptr 0 0 0] gvs)],[rdR rows p',.arr g 1 5 (rBy out)]⟩
def QmU{rows:List (List D)}{fin:List UInt8×Nat}{p n many kind g p':Nat}{gvs:List Value}{out:List UInt8}{st:St}(hgo:Pl.Qbu rows many kind f (out,p')=fin)(hlt:out.length<many)(hf:many -out.length<=f)(hstep:Pl.QaF rows many kind (out,p')=(out++[b],p'+1))(h1:out.length<n)(hk:k=many -(out.length+1))
 (hs:st=⟨72,[(5,.osl 1 g 0 (out.length+1)),(6,.d (dI many)),(7,.d (dI kind)),(0,.ptr 0 0 0),(1000000,.gh [.ptr 0 0 0] gvs)],[rdR rows (p'+1),.arr g 1 5 (rBy out++[[.v (.int .u8 b.toNat)]])]⟩:=by simp only[keepE,go_sem];rfl) (h2:p'+1<=p+2+2*out.length+1:=by omega):TX rows fin p n many kind gvs k st:=by
 obtain⟨f',h3,h4⟩:=QqA hgo hlt hf;rw[hstep] at h3 h4;refine⟨out++[b],g,p'+1,f',by rw[hk,A2];rfl,by rw[A2];exact h1,by rw[A2];simp only[A7,A8];omega,h3,h4,?_⟩;rw[hs,QfF,A2];rfl
variable{rows:List (List D)}{many kind v p':Nat}{out:List UInt8}
def st0(h:((kind:Int)==0)=true)(ev:Pl.pkv rows p' 256=v):Pl.QaF rows many kind (out,p')=(out++[Pl.Qbi v],p'+1):=by
 unfold Pl.QaF;rw[if_pos (by simpa using h),ev]
def st1(h0:((kind:Int)==0)=false)(h:((kind:Int)==1)=true)(ev:Pl.pkv rows p' 7=v):Pl.QaF rows many kind (out,p')=(out++[([97,98,126,48,58,59,61]:List UInt8).getD v 0],p'+1):=by
 have h0: ¬kind=0:=by simp only[beq_eq_false_iff_ne] at h0;omega
 have h1:kind=1:=by simp only[beq_iff_eq] at h;omega
 unfold Pl.QaF;rw[if_neg h0,if_pos h1,ev];rfl
def st2(h0:((kind:Int)==0)=false)(h1:((kind:Int)==1)=false)(h:((kind:Int)==2)=true){v2:Nat}(ev:Pl.pkv rows p' 3=v)(ev2:Pl.pkv rows (p'+1) 6=v2):Pl.QaF rows many kind (out,p')=(Pl.Qbs many (Pl.Qbi (97+v)) (v2+1) out,p'+1+1):=by
 have h0: ¬kind=0:=by simp only[beq_eq_false_iff_ne] at h0;omega
 have h1: ¬kind=1:=by simp only[beq_eq_false_iff_ne] at h1;omega
 have h2:kind=2:=by simp only[beq_iff_eq] at h;omega
 unfold Pl.QaF;rw[if_neg h0,if_neg h1,if_pos h2];dsimp only;rw[ev,ev2];rfl
def st3(h0:((kind:Int)==0)=false)(h1:((kind:Int)==1)=false)(h:((kind:Int)==2)=false)(ev:Pl.pkv rows p' 2=v):Pl.QaF rows many kind (out,p')=(out++[Pl.Qbi (v*97)],p'+1):=by
 have h0: ¬kind=0:=by simp only[beq_eq_false_iff_ne] at h0;omega
 have h1: ¬kind=1:=by simp only[beq_eq_false_iff_ne] at h1;omega
 have h2: ¬kind=2:=by simp only[beq_eq_false_iff_ne] at h;omega
 unfold Pl.QaF;rw[if_neg h0,if_neg h1,if_neg h2];dsimp only;rw[ev]
def Qsn{k:Int}{r:List UInt8}(h:Pl.Qbs many b (k+1).toNat o=r)(hc:0<=k/\o.length<many):Pl.Qbs many b (k -1+1).toNat (o++[b])=r:=by
 rw[show(k+1).toNat=(k -1+1).toNat+1 by omega] at h;unfold Pl.Qbs at h;rw[if_pos hc.2] at h;exact h
def run_end{k:Int}(hc: ¬(0<=k/\o.length<many)):Pl.Qbs many b (k+1).toNat o=o:=by
 by_cases hk:0<=k
 ·rw[show(k+1).toNat=k.toNat+1 by omega]
  unfold Pl.Qbs;rw[if_neg (fun h=>hc ⟨hk,h⟩)]
 ·rw[show(k+1).toNat=0 by omega];rfl
theorem eTextX(rows:List (List D))(hr:RdOk rows)(p:Nat)(hp:p<=900000)(n:Nat)(hn:n<=1000):
 DoesE A3 26 [.ptr 0 0 0,.d (dI n)] [rdR rows p] [.ptr 0 0 0] (fun x H=>x= .d (dS (Pl.txt rows p n).1)/\H=[rdR rows (Pl.txt rows p n).2]):=by
 refine kH fun gvs=>?_
 repeat' first|refine kS ?_|(refine QrK 0 hr (kk:=?_);intro v hv ev)|refine kU ?_|fail
 rename_i many hmany em;generalize v=kind at*;obtain⟨fin,hfin⟩: ∃r,Pl.txt rows p n=r:=⟨_,rfl⟩;rw[hfin];have hgo:Pl.Qbu rows many kind many ([],p+1+1)=fin:=by rw[<-hfin];unfold Pl.txt;rw[em,ev,A1,A1]
 clear em ev hfin;refine QbS (TX rows fin p n many kind gvs) [5,6,7,0,1000000] 2 many ⟨[],0,p+1+1,many,by simp,by simp,by simp,by simp,hgo,rfl⟩ (round:=?_);clear hgo;rintro m st ⟨out,g,p',f,rfl,hol,hp',hf,hgo,rfl⟩
 repeat refine kG ?_
 cases q3:decide ((out.length:Int)<(many:Int))
 ·repeat' first|refine kS ?_|refine qS (Qnt AM AD Tryz.underlying9 rfl rfl rfl) ?_|refine kU ?_|fail
  all_goals first|refine QbU 1 (hx:=?_);have:=go_end hgo (by simp only[decide_eq_false_iff_not] at q3;exact fun h=>q3 (by exact_mod_cast h));subst this;exact⟨rfl,rfl⟩
 have hlt:out.length<many:=by simp only[decide_eq_true_eq] at q3;omega
 have hmn:many<=n:=by omega
 repeat' first|refine kS ?_|(refine QrK 0 hr (kk:=?_);intro v hv ev)|(refine Qho (QnF AM AD rfl rfl rfl (by decide)) (k:=?_);refine QcC (hX:=fun _ hR=>hR) (k:=?_))|refine qS (Qhg Ty.h rfl Ty.h rfl (l:=[97,98,126,48,58,59,61]) rfl rfl (by simp only[A7,A8];omega)) ?_|refine qS (QdA Tryz.underlying3 AD rfl rfl (QtA _)) ?_|refine qS (Qc3 rfl rfl (by omega)) ?_|refine Qci Ty.h rfl Ty.h (hb:=?_) (kk:=?_)|refine kU ?_|refine kV ?_ ?_<;>intro q|fail
 all_goals first|show((rBy out).length+1)*1<=140737488355328;rw[AG];omega|refine QbR (many -(out.length+1)) (by omega) (QmU hgo hlt hf (st0 (by assumption) ev) (by omega) rfl)|refine QbR (many -(out.length+1)) (by omega) (QmU hgo hlt hf (st1 (by assumption) (by assumption) ev) (by omega) rfl)|refine QbR (many -(out.length+1)) (by omega) (QmU hgo hlt hf (st3 (by assumption) (by assumption) (by assumption) ev) (by omega) rfl)|skip
 rename_i v0 hv0 ev0;obtain⟨f',h3,h4⟩:=QqA hgo hlt hf;rw[st2 (by assumption) (by assumption) (by assumption) ev0 ev] at h3 h4;have hb: ∃b:UInt8,Pl.Qbi (97+(v0:Int))=b:=⟨_,rfl⟩;obtain⟨b,hb⟩:=hb;rw[hb];rw[hb] at h3 h4
 refine QbS (fun m st=> ∃(k:Int) (o:List UInt8) (g:Nat),m=(k+1).toNat/\k<=6/\o.length<=n/\(0<=k/\o.length=out.length∨out.length<o.length)/\Pl.Qbs many b (k+1).toNat o=Pl.Qbs many b (v+1) out/\
  st=⟨72,[(9,.d (dI k)),(8,.d (dU b)),(5,.osl 1 g 0 o.length),(6,.d (dI many)),(7,.d (dI kind)),(0,.ptr 0 0 0),(1000000,.gh [.ptr 0 0 0] gvs)],[rdR rows (p'+1+1),.arr g 1 5 (rBy o)]⟩) [9,8,5,6,7,0,1000000] 2 (v+1)
  ⟨v,out,g,by omega,by omega,hol,.inl ⟨by omega,rfl⟩,by rw[show((v:Int)+1).toNat=v+1 by omega],rfl⟩ (round:=?_)
 rintro m st ⟨k,o,g,rfl,hk6,hol2,hpr,hrun,rfl⟩
 repeat refine kG ?_
 by_cases hc:0<=k/\o.length<many
 ·repeat' first|refine kS ?_|refine Qci Ty.h rfl Ty.h (hb:=?_) (kk:=?_)|refine kU ?_|refine kV ?_ ?_<;>intro q|fail
  all_goals first|exfalso;simp only[decide_eq_false_iff_not] at*;omega|show((rBy o).length+1)*1<=140737488355328;rw[AG];omega|refine QbR k.toNat (by omega) ⟨k -1,o++[b],g+1,by omega,by omega,by rw[A2];simp only[A7,A8];omega,.inr (by rw[A2];simp only[A7,A8];omega),Qsn hrun hc,?_⟩;simp only[keepE,go_sem,<-QfF,A2];rfl
 ·rw[<-hrun,run_end hc] at h3 h4
  repeat' first|refine kA ?_|refine kV ?_ ?_<;>intro q|fail
  all_goals first|exfalso;simp only[decide_eq_true_eq] at*;omega|refine QbR (many -o.length) (by simp only[decide_eq_false_iff_not,decide_eq_true_eq] at*;omega) ⟨o,g,p'+1+1,f',rfl,hol2,by simp only[decide_eq_false_iff_not,decide_eq_true_eq] at*;omega,h3,h4,?_⟩;simp[keepE,go_sem];done
def ePut(g:Nat)(w:Pl.Sto)(N:Nat)(hN:N<=800000)(hw:w.W N)(t:Pl.Tree)(ht:Pl.TGood t)(k:Nat)(hk:k<16)(text:List UInt8)(htx:text.length<=Pm.big):
 DoesE A3 25 [oS g w,.d (dTree t),.d (dI k),.d (dS text)] (hS g w) (gS g w) (fun x H=> ∃g',((Pl.tput w t k text).2.2=false->g'=g)/\x= .tup [oS g' (Pl.tput w t k text).1,.d (dTree (Pl.tput w t k text).2.1),.d (dB (Pl.tput w t k text).2.2)]/\H=hS g' (Pl.tput w t k text).1):=by
 by_cases h1:(Pl.rd w.rows ((Pl.wide w.st t).getD k Pl.hole)).1=text
 ·exact ePut_a g w N hN hw t ht k hk text htx h1
 by_cases h2:text=[]
 ·exact ePut_b g w N hN hw t ht k hk text htx h1 h2
 ·exact ePut_c g w N hN hw t ht k hk text htx h1 h2
def Pl.QaR(l:List Pl.Fnd)(q:List (List UInt8)):List Bool:=(List.range 16).map fun k=>Pl.isIn l q k
def QqM(q:List (List UInt8)):Pl.QaR [] q=List.replicate 16 false:=by
 unfold Pl.QaR;rw[show(fun k=>Pl.isIn [] q k)=fun _=>false from rfl];rfl
def Qlq(l:List Pl.Fnd)(q:List (List UInt8))(h:k<16):(Pl.QaR l q)[k]? =some (Pl.isIn l q k):=by
 unfold Pl.QaR;rw[AB,List.getElem?_range h];rfl
def Qli(l:List Pl.Fnd)(x:Pl.Fnd)(q:List (List UInt8))(k:Nat):Pl.isIn (l++[x]) q k=(Pl.isIn l q k||((x.2==(k:Int))&&q.isPrefixOf x.1)):=by
 unfold Pl.isIn;rw[List.any_append];simp
def QoU{l:List Pl.Fnd}(h:q.isPrefixOf x.1=false):Pl.QaR (l++[x]) q=Pl.QaR l q:=by
 unfold Pl.QaR;refine List.map_congr_left fun k _=>?_
 rw[Qli,h];simp
theorem QqN{l:List Pl.Fnd}(h:q.isPrefixOf x.1=true)(h0:0<=x.2)(_h1:x.2<16):Pl.QaR (l++[x]) q=(Pl.QaR l q).set x.2.toNat true:=by
 refine List.ext_getElem (by simp[Pl.QaR]) fun i hi hi'=>?_
 rw[List.getElem_set];simp only[Pl.QaR,List.getElem_map,List.getElem_range];rw[Qli,h];split
 ·rename_i e;subst e
  have:((x.2.toNat:Nat):Int)=x.2:=by omega
  rw[this];simp
 ·rename_i e
  have:(x.2==(i:Int))=false:=by simp;omega
  rw[this];simp
theorem QrS(s:Pm.Store)(hg:Pl.Good s)(t:Pl.Tree)(path:List UInt8)(hF:Pl.Qav s t=true)(q:List (List UInt8))(hq:Pl.Qae path=some q):
 Pure A3 17 [dSt s,dTree t,dS path] (.sl true 1 ((Pl.QaR (Pl.QaS s t).1 q).map fun b=>[dB b])):=by
 have c:=al15All s hg t;have hd:Pl.Qb3 s t=((Pl.QaS s t).1,true):=by unfold Pl.Qb3;rw[if_pos hF]
 rw[hd] at c;obtain⟨hfn,hfl⟩:=Qm7 hF;obtain⟨hq1,hq2,hq3⟩:=Qeb.1 hq;have hqn: ∀n∈q,Pl.Qas n=true:=fun n hn=>AO.1 hq1 n hn
 have hpl:path.length<=21:=by
  rw[<-hq3];have:=QkE q fun x hx=>Qdz (hqn x hx)
  omega
 clear hF hd hq hq1;generalize (Pl.QaS s t).1=out at*;have hfn:=Pm.hid hfn;have hqn:=Pm.hid hqn;have hq3:=Pm.hid hq3;refine kE ?_;refine QbP 0 (h:=?_);refine QbP 1 (h:=?_)
 repeat refine kA ?_
 refine QbS (fun m st=> ∃j:Nat,j<=out.length/\m=out.length -j/\st=⟨62,[(10,.d (dI j)),(9,.osl 2 0 0 16),(7,.d (tFnds out)),(2,.d (dS path))],
  [.row 1 [],.row 1 [],.arr 0 1 4 ((Pl.QaR (out.take j) q).map fun b=>[dB b])]⟩) [10,9,7,2] 3 out.length ⟨0,by omega,rfl,?_⟩ (round:=?_)
 ·rw[List.take_zero,QqM];rfl
 rintro m st ⟨j,hj,rfl,rfl⟩
 repeat refine kG ?_
 cases q3:decide ((j:Int)<(out.length:Int))
 ·repeat refine kA ?_
  (refine QbP 2 (h:=?_);refine QbQ (hx:=?_))
  have:j=out.length:=by simp at q3;omega
  rw[this,AN];have:(Pl.QaR out q).length=16:=by simp[Pl.QaR]
  simp[A6,this]
 have hj2:j<out.length:=by simp at q3;omega
 obtain⟨x,hx⟩: ∃x,out[j]? =some x:=⟨_,A0 hj2⟩;have hr:=QbV (f:=rFnd) hx;obtain⟨hxn,hxi⟩:=hfn.out x (AH hx);have hs:=Qov hxn hqn.out;rw[hq3.out] at hs;have htk:out.take (j+1)=out.take j++[x]:=by rw[AK,hx];rfl
 have T0:AQ (Pl.Qb4 (Pl.Qa5 x.1) path=false->Pl.QaR (out.take (j+1)) q=Pl.QaR (out.take j) q):=Pm.hid fun h=>by rw[htk];exact QoU (by rw[<-hs];exact h)
 have T1:AQ (Pl.Qb4 (Pl.Qa5 x.1) path=true->Pl.QaR (out.take (j+1)) q=(Pl.QaR (out.take j) q).set x.2.toNat true):=Pm.hid fun h=>by rw[htk];exact QqN (by rw[<-hs];exact h) hxi.1 hxi.2
 have hsd:AQ (Pl.Qb4 (Pl.Qa5 x.1) path=((path==[47])||(Pl.Qa5 x.1==path)||(decide (path.length<(Pl.Qa5 x.1).length)&&((Pl.Qa5 x.1).take (path.length+1)==path++[47])))):=Pm.hid rfl;rw[hsd.out] at T0 T1;have hfl16:(Pl.QaR (out.take j) q).length=16:=by simp[Pl.QaR]
 have hrm:((Pl.QaR (out.take j) q).map fun b=>[dB b])[0+x.2.toNat]? =some [dB (Pl.isIn (out.take j) q x.2.toNat)]:=by
  rw[AL,AB,Qlq _ _ (by omega)];rfl
 clear hx hs htk hsd hfn hqn hxn c;generalize Pl.isIn (out.take j) q x.2.toNat=old at*;generalize Pl.QaR (out.take j) q=fl at*;obtain⟨xp,xi⟩:=x;simp only at hxi hrm T0 T1 hr
 change (out.map rFnd)[((j:Nat):Int).toNat]? =some [dS (Pl.Qa5 xp),dI xi] at hr
 generalize Pl.Qa5 xp=sp at*;have htn:((path.length:Int)+1).toNat=path.length+1:=by omega
 have hdec:decide (path.length<sp.length)=decide ((sp.length:Int)>(path.length:Int)):=decide_eq_decide.2 (by omega);rw[hdec,<-htn] at T0 T1;clear hdec
 repeat' first|refine kS ?_|refine qS (iy hr) ?_|refine qS (Qcp (m:=[47]) rfl rfl) ?_|refine qS (QdS rfl rfl rfl (by omega) (by simp only[decide_eq_true_eq] at*;omega)) ?_|refine qS (Qcc (m:=[47]) rfl rfl (by first|omega|(simp;omega))) ?_|refine qS (Qcw Ty.h rfl Ty.h rfl rfl rfl rfl hxi.1 (by omega)) ?_|refine Qi8 Ty.h rfl rfl hrm rfl (kk:=?_)|refine kU ?_|refine kV ?_ ?_<;>intro q|fail
 all_goals refine QbR (out.length -(j+1)) (by omega) ⟨j+1,by omega,rfl,?_⟩
 all_goals generalize (path==[47])=u1 at*
 all_goals generalize (sp==path)=u2 at*
 all_goals generalize decide ((sp.length:Int)>(path.length:Int))=u3 at*
 all_goals generalize (List.take ((path.length:Int)+1).toNat sp==path++[47])=u4 at*
 all_goals first
  |(have h:=T1.out (by clear T0 T1;simp_all)
    rw[h];simp[keepE,go_sem,AR];done)
  |(have h:=T0.out (by clear T0 T1;simp_all)
    rw[h];simp[keepE,go_sem];done)
def Pl.pth(rows:List (List D))(p:Nat):List UInt8:=
 if Pl.pkv rows p 30=0 then([[],[97],[47,47],[47,97,47],[47,65],[47,97,47,98,47,99,47,97,47,98],[47,97,98,99,100,101],[47,97,47,47,98]]:List (List UInt8)).getD (Pl.pkv rows (p+1) 8).toNat []
 else([[47,97],[47,98],[47,97,47,98],[47,97,47,99],[47,98,47,97],[47,99],[47,97,47,98,47,99],[47,99,47,97],[47,97,98],[47]]:List (List UInt8)).getD (Pl.pkv rows (p+1) 10).toNat []
def ePathX(rows:List (List D))(hr:RdOk rows)(p:Nat)(hp:p<=900000):
 DoesE A3 11 [.ptr 0 0 0] [rdR rows p] [.ptr 0 0 0] (fun x H=>x= .d (dS (Pl.pth rows p))/\H=[rdR rows (p+2)]):=by
 refine kH fun gvs=>?_
 repeat' first|refine kS ?_|(refine QrK 0 hr (kk:=?_);intro v hv ev)|refine qS (Qc9 Ty.h rfl Ty.h) ?_|refine qS (QbW Ty.h rfl Ty.h rfl rfl rfl (by omega) (QcN (f:=fun s=>[dS s]) [[],[97],[47,47],[47,97,47],[47,65],[47,97,47,98,47,99,47,97,47,98],[47,97,98,99,100,101],[47,97,47,47,98]] [] (n:=8) rfl (by omega))) ?_|refine qS (QbW Ty.h rfl Ty.h rfl rfl rfl (by omega) (QcN (f:=fun s=>[dS s]) [[47,97],[47,98],[47,97,47,98],[47,97,47,99],[47,98,47,97],[47,99],[47,97,47,98,47,99],[47,99,47,97],[47,97,98],[47]] [] (n:=10) rfl (by omega))) ?_|refine kU ?_|refine kV ?_ ?_<;>intro q|fail
 all_goals first
  |(refine QbU 1 (hx:=?_)
    refine⟨?_,rfl⟩;unfold Pl.pth
    first
     |(rw[if_pos (by assumption),A1];rfl)
     |(rw[if_neg (by simp only[beq_eq_false_iff_ne] at*;omega),ev,A1];rfl)
     |(rw[if_pos (by simp only[beq_iff_eq] at*;omega),ev,A1];rfl))

/- Of ftw_card; no condition. -/
import Derived.Test.YthbonbflkdonkaaGreatDoorP39
import Derived.Test.YthbonbflkdonkaaGreatDoorP40
set_option linter.all false
set_option maxRecDepth 100000
set_option maxHeartbeats 16000000
open Bool renaming and_eq_true->A1
open Int renaming toNat_natCast->A0
open List renaming mem_append_right->A2,mem_singleton->A3,flatMap_cons->A4
namespace Go.Proofs.YthbonbflkdonkaaGreatDoor
noncomputable section
open Go.RowKit
namespace Aw
variable{t:Pl.Tree}{w:Pl.Sto}{k a:Nat}{f:Q4}{X:List Pl.Ptr}
theorem QqQ(s:Pm.Store)(t:Pl.Tree)(k:Nat)(h:(Q5 s t k).1.kind=1):(0<=(Q5 s t k).1.size/\(Q5 s t k).1.size<=192)/\(Q5 s t k).1.tree.many=((Q5 s t k).1.size+11)/12:=by
 unfold Q5 at h⊢;split
 ·rename_i h1
  rw[if_pos h1] at h;rcases Qgh ((Qc s t).getD k []) with h2|h2
  ·have h3:=h2.1.1
   unfold QF at h3;have hb:=Qeh h2.1.1;simp only[A1,beq_iff_eq,decide_eq_true_eq] at h3
   have h4: ∀x:Int,Qag 1 x=if Pl.inR x 0 192 then(x+11)/12 else -1:=fun x=>by
    unfold Qag;rw[show Qbj 1=12 from rfl,if_neg (by decide)]
    grind
   have hm:=hb.many
   have h5:(Qo ((Qc s t).getD k [])).1.tree.many=Qag 1 (Qo ((Qc s t).getD k [])).1.size:=by
    grind
   rw[h4] at h5;split at h5
   ·rename_i h6
    unfold Pl.inR at h6
    grind
   ·omega
  ·rw[h2] at h;exact absurd h (by decide)
 ·rename_i h1
  rw[if_neg h1] at h;exact absurd h (by decide)
structure QbK where
 kind:Int
 path:List UInt8
 pto:List UInt8
 at':Nat
 text:List UInt8
abbrev dOp(o:QbK):D:= .agg [dI o.kind,dS o.path,dS o.pto,dI o.at',dS o.text]
def QbI(f:Q4)(n:Qk)(o:QbK):Pl.Sto×Qk×Bool:=if o.kind=3 then Qb1 f.1 n o.at' o.text else Qb2 f.1 n o.at'
def Qbe(f:Q4)(o:QbK):Q4×Int:=
 if QE f.1 f.2.1 o.path<0 then(f,2) else
 if(Ql f (QE f.1 f.2.1 o.path).toNat).kind≠1 then(f,4) else
 if 192<o.at'+o.text.length then(f,6) else
 (Qaq ((QbI f (Ql f (QE f.1 f.2.1 o.path).toNat) o).1,f.2.1,!(QbI f (Ql f (QE f.1 f.2.1 o.path).toNat) o).2.2) (QE f.1 f.2.1 o.path).toNat (QbI f (Ql f (QE f.1 f.2.1 o.path).toNat) o).2.1,0)
abbrev dOpI(k:Int)(path pt:List UInt8)(a:Int)(text:List UInt8):D:= .agg [dI k,dS path,dS pt,dI a,dS text]
structure OpFit(k:Int)(path pt:List UInt8)(a:Int)(text:List UInt8):Prop where
 kind:1<=k/\k<=7
 path:(Q7 path).isSome=true
 two:k=6∨k=7->(Q7 pt).isSome=true
 text:text.length<=24
 at':0<=a/\a<=192
attribute [local irreducible] ASeq ADraw AWP Loc AStep Fg.PlanF Fg.Flts EndR
def eOpOk(k:Int)(path pt:List UInt8)(a:Int)(text:List UInt8)(hp:path.length<=1000)(ht:pt.length<=1000):
 DoesE Tryz.prog 51 [.d (dOpI k path pt a text)] [] [] (fun x H=> ∃b:Bool,(b=true->OpFit k path pt a text)/\x= .d (dB b)/\H=[]):=by
 have c1:=al6In k 1 7;have c2:=aPathOk path (by omega);have c3:=aPathOk pt (by omega);have c4:=al6In a 0 192;have h4:Pl.inR a 0 192=true->0<=a/\a<=192:=by unfold Pl.inR;simp only[A1,decide_eq_true_eq];exact fun h=>h
 have h1:Hid (Pl.inR k 1 7=true->k=1∨k=2∨k=3∨k=4∨k=5∨k=6∨k=7):=Pm.hid (by unfold Pl.inR;simp only[A1,decide_eq_true_eq];omega);generalize Pl.inR a 0 192=ia at*;generalize hik:Pl.inR k 1 7=ik at*;have hpd:=fun h=>OpFit.mk (k:=k) (path:=path) (pt:=pt) (a:=a) (text:=text) h
 generalize (Q7 path).isSome=bp at*;generalize (Q7 pt).isSome=bt at*;cases ik
 ·refine kH fun gvs=>?_
  repeat' first|refine kA ?_|refine kV ?_ ?_<;>intro q|fail
  all_goals first|refine Q1 0 (hx:=?_);exact⟨false,(fun h=>by cases h),rfl,rfl⟩
 rcases h1.out rfl with rfl|rfl|rfl|rfl|rfl|rfl|rfl
 all_goals
  refine kH fun gvs=>?_
  repeat' first|refine kA ?_|refine kV ?_ ?_<;>intro q|fail
  all_goals first|refine Q1 0 (hx:=?_);exact⟨false,(fun h=>by cases h),rfl,rfl⟩|simp only[Bool.not_eq_false',decide_eq_false_iff_not,beq_iff_eq] at*;refine Q1 0 (hx:=?_);exact⟨_,(fun h=>hpd (by omega) (by assumption) (fun _=>by first|assumption|omega) (by omega) (by first|omega|exact h4 h)),rfl,rfl⟩
theorem Qjp(s:Pm.Store)(l:List Pl.Ptr):l.flatMap (Qbf s 0)=Qu l:=by
 induction l with
 |nil=>rfl
 |cons p l ih=>
  grind [Qbf,Qu]
theorem Qjq(s:Pm.Store)(n:Nat)(p:Pl.Ptr):Qbf s (n+1) p=Qu [p]++(Qj s p (n+1:Nat)).1.flatMap (Qbf s n):=by
 cases hh:Pl.ptrHole p
 ·grind [Qbf,Qu]
 grind [Qgc,Qj,Qu,Qds]
theorem QoD(h:Qbs w t):(Qao w.st t).Perm (Q8 w.st t):=by
 have hl:=h.lv;have hd:t.depth=0∨t.depth=1∨t.depth=2:=by rw[h.dep];grind [QfW]
 unfold Q8 Qao;rcases hd with hd|hd|hd
 ·rw[Qgm hd,leaves0 _ hd,hd,List.nil_append]
  have:=Qjp w.st [t.root]
  grind
 ·rw[leaves1 _ hd] at hl⊢
  split at hl
  ·simp_all[QeM,Qjq,Qjp]
  grind
 ·rw[leaves2 _ hd] at hl⊢
  split at hl
  ·rename_i hb
   rw[if_pos hb];split at hl
   ·rename_i hb2
    rw[QeL hd,if_pos hb2,hd,show(2:Int).toNat=1+1 from rfl,Qjq,List.append_assoc];refine List.Perm.append_left _ ?_;show((Qj w.st t.root 2).1.flatMap (Qbf w.st 1)).Perm (Qu (Qj w.st t.root 2).1++Qu ((Qj w.st t.root 2).1.flatMap fun p=>(Qj w.st p 1).1));generalize (Qj w.st t.root 2).1=B;clear hb hb2 hd;induction B with
    |nil=>exact .refl _
    |cons b B ih=>
     rw[A4,A4,Qe2,show b::B=[b]++B from rfl,Qe2,show Qbf w.st 1 b=_ from Qjq w.st 0 b,Qjp]
     grind
   grind
  grind
theorem QsV(h:Qbs w t)(hh:Pl.ptrHole t.root=false):t.root∈Q8 w.st t:=by
 have hd:t.depth=0∨t.depth=1∨t.depth=2:=by rw[h.dep];grind [QfW]
 grind [Qu,Q8,leaves0,QeM,QeL]
theorem Tr_sub{L:List Pl.Ptr}(h:Qbs w t)(hl:QQ w L)(hs: ∀p∈Q8 w.st t,p∈L)(htx:0<=w.txg):Qcg w.st t.depth.toNat t.root/\ ∀p∈Qao w.st t,Pl.ptrOk p=true:=by
 have key: ∀p∈Q8 w.st t,Pl.ptrOk p=true/\p.birth<=w.txg:=fun p hp=>⟨(QfT (hl.fit p (hs p hp))).1,hl.bir p (hs p hp)⟩
 refine⟨?_,fun p hp=>(key p ((QoD h).mem_iff.1 hp)).1⟩;have hlv:=h.lv;have hz:=h.zero;have hm: ∀p∈(QH w.st t).1,Pl.ptrHole p=false->p∈Q8 w.st t:=fun p hp hh=>A2 _ (QeE.2 ⟨hp,hh⟩)
 unfold QH at hlv hz hm;refine Qqu w.st htx _ [t.root] hlv (fun p hp=>?_) (fun p hp=>?_) _ (A3.2 rfl)
 ·rw[A3.1 hp]
  refine⟨h.good.root,?_⟩;cases hh:Pl.ptrHole t.root
  ·exact(key _ (QsV h hh)).2
  ·rw[QgA hh];exact htx
 ·cases hh:Pl.ptrHole p
  ·have:=key p (hm p hp hh)
   exact .inr ⟨this.1,(hz p hp).resolve_left (by grind),this.2⟩
  ·exact .inl hh
theorem QmD(h:(Qp w t k).1.kind≠0):(Qp w t k).2=true:=by
 unfold Qp at h⊢;rcases Qgh (Qi w.rows ((Qe w.st t).getD k Pl.hole)).1 with e|e
 ·exact e.2
 ·rw[e] at h;exact absurd rfl h
theorem QmC(h:(Qp w t k).2=false):(Qp w t k).1=Qd:=by grind [Qp,Qgh]
theorem QhY(h:(Qp w t k).2=true):Qbl w.st (Qp w t k)=Q8 w.st (Qp w t k).1.tree:=by unfold Qbl;grind
theorem Fs_x(h:QbJ w t)(htx:0<=w.txg)(k:Nat):
 Qcg w.st (Q5 w.st t k).1.tree.depth.toNat (Q5 w.st t k).1.tree.root/\ ∀p∈Qao w.st (Q5 w.st t k).1.tree,Pl.ptrOk p=true:=by
 have hz:Qcg w.st Qd.tree.depth.toNat Qd.tree.root/\ ∀p∈Qao w.st Qd.tree,Pl.ptrOk p=true:=by
  refine⟨.inl Qds,fun p hp=>?_⟩
  grind [Qao,Qd,Qgc,Qds]
 by_cases hk:k<16
 ·rw[QeG h.tr hk]
  cases hn:(Qp w t k).2
  ·grind [QmC]
  ·refine Tr_sub (h.nod k hk hn) h.live (fun p hp=>A2 _ ?_) htx
   grind [Qcd,QhY]
 ·have hm:=h.tr.good.manyHi
  unfold Q5
  grind
def Qca(f:Q4):Prop:=f.2.2=false->QbJ f.1 f.2.1/\1<=f.2.1.many
def Fk_ok(h:Qca f):Qdb f:=fun e=>(h e).1
theorem Qf8{id:Nat}{l:List Qm}(hid:id<16)(h:Qca f)(hn:f.2.2=false->(Qp f.1 f.2.1 id).1.kind=2):
 Qca (QR f id l)/\((QR f id l).2.2=false->f.2.2=false/\(id:Int)<(QR f id l).2.1.many/\(∀k,k≠id->Qp (QR f id l).1 (QR f id l).2.1 k=Qp f.1 f.2.1 k)/\(Qp (QR f id l).1 (QR f id l).2.1 id).1.kind=2):=by
 have key:=fun hok=>Qrw (l:=l) hid (Fk_ok h) (fun e=>⟨QmD (by grind),hn e⟩) hok
 refine⟨fun hok=>?_,fun hok=>?_⟩
 ·grind
 grind
theorem Qog{id:Nat}{n:Qk}(hid:id<16)(h:f.2.2=false->QcU f.1 f.2.1 id (Q8 f.1.st n.tree))(hn:f.2.2=false->QF n=true->Qbs f.1 n.tree):
 Qca (Qaq f id n)/\((Qaq f id n).2.2=false->f.2.2=false/\ ∀k,k≠id->Qp (Qaq f id n).1 (Qaq f id n).2.1 k=Qp f.1 f.2.1 k):=by
 refine⟨fun hok=>?_,fun hok=>?_⟩
 ·grind [Qnc]
 grind [Qnc]
theorem QlN{id:Nat}{n:Qk}(hid:id<16)(h:Qca f)(hn:f.2.2=false->(Qp f.1 f.2.1 id).2=true/\n.tree=(Qp f.1 f.2.1 id).1.tree):
 Qca (Qaq f id n)/\((Qaq f id n).2.2=false->f.2.2=false/\ ∀k,k≠id->Qp (Qaq f id n).1 (Qaq f id n).2.1 k=Qp f.1 f.2.1 k):=
 Qog hid (fun e=>by have:=QhB (h e).1 hid;grind [QhY]) fun e _=>by rw[(hn e).2];exact(h e).1.nod id hid (hn e).1
theorem Qff{path:List UInt8}(h:QbJ w t)(ha:a<16)(h1:(QI w t path).1=a)(h2:(QI w t path).2=0):(Qp w t a).1.kind=2:=by
 rw[<-QeG h.tr ha]
 grind [QI]
theorem QjL{path:List UInt8}(h:QbJ w t)(ha:a<16)(h1:(Qan w t path).1=a)(h2: ¬0<(Qan w t path).2):(Qp w t a).1.kind=2:=by
 have hb:=(Qf9 w t path).2.1
 grind [Qan,Qff]
def QnQ(h:QbJ w t){id:Nat}(he:(Qc w.st t).getD id []=[]):Qp w t id=(Qd,false):=by
 unfold Qp
 by_cases hi:(id:Int)<=t.many -1
 ·have:=texts_get w.st h.tr.good hi
  rw[he] at this;rw[show(Qi w.rows ((Qe w.st t).getD id Pl.hole)).1=[] from this.symm,Qi4]
 ·have:=h.tr.good.manyLo
  rw[h.tr.top id (by omega),Qfx,Qi4]
theorem Qr2(h:Qca f)(hf:f.2.2=false)(path:List UInt8)(kind:Int):Qca (QbD f path kind).1:=by
 obtain⟨⟨a,ha,hae⟩,h2,h3⟩:=Qgo f.1 f.2.1 path;have hF:=(h hf).1;unfold QbD;rw[hae,A0];split
 ·exact h
 rename_i h0;have hka:=QjL hF ha hae h0;cases hfr:QbT (Qc f.1.st f.2.1) with
 |none=>exact h
 |some id=>
  dsimp only;split
  ·exact h
  obtain⟨hid,hblank⟩:=QiO hfr;have hz:=QnQ hF hblank;have hne:a≠id:=fun e=>by rw[e,hz] at hka;exact absurd hka (by decide)
  have hp:=Qog (f:=f) (id:=id) (n:=⟨kind,1,0,⟨Pl.hole,0,0⟩⟩) hid (fun e=>by
   have:=QhB (h e).1 hid;rw[hz] at this
   rw[(QfI f.1).2];exact this) fun _ _=>(QfI f.1).1
  grind [Qf8]
theorem flink_k(h:Qca f)(hf:f.2.2=false)(path pt:List UInt8):Qca (QbO f path pt).1:=by
 obtain⟨⟨a,ha,hae⟩,h2,h3⟩:=Qgo f.1 f.2.1 pt;have hF:=(h hf).1;have hfb:=QdR f.1.st f.2.1 (Qy path);rw[show Qae f.1.st f.2.1 (Qy path)=QE f.1 f.2.1 path from rfl] at hfb;unfold QbO;rw[hae,A0];rcases hfb with hfb|⟨k,hk,hke⟩
 ·grind
 rw[hke,A0,if_neg (by omega)];have e1:Ql f k=(Qp f.1 f.2.1 k).1:=by unfold Ql;rw[QeG hF.tr hk]
 grind [QjL,QlN,QmD,Qf8]
theorem QlO{n:Qk}{text:List UInt8}{b:Nat}(hT:Qbs w n.tree)(h:QQ w (Q8 w.st n.tree++X))(hl:a+(Qbh text a (b+1 -a)).length<=16)(hok:(Qa8 w n text a b).2.2=true):
 QcB w n.tree (Qa8 w n text a b).1 (Qa8 w n text a b).2.1.tree X:=(Qki _ a hT h hl hok).1
theorem Qly(text:List UInt8)(a m:Nat):(Qbh text a m).length=m:=by simp[Qbh]
def QsB{w' w'':Pl.Sto}{t' t'':Pl.Tree}(h:QcB w t w' t' X)(h2:QcB w' t' w'' t'' X):QcB w t w'' t'' X:=
 ⟨h2.tr,h2.live,fun q hq=>(h2.keep q hq).trans (h.keep q hq),h2.txg.trans h.txg⟩
theorem fchg_in{n:Qk}{o:QbK}(hT:Qbs f.1 n.tree)(h:QQ f.1 (Q8 f.1.st n.tree++X))(hb:o.at'+o.text.length<=192)(hok:(QbI f n o).2.2=true):
 QcB f.1 n.tree (QbI f n o).1 (QbI f n o).2.1.tree X:=by
 unfold QbI at hok⊢;split at hok
 ·rename_i h3
  rw[if_pos h3];unfold Qb1 at hok⊢;split at hok
  ·rename_i h4;rw[if_pos h4];exact⟨hT,h,fun _ _=>rfl,rfl⟩
  grind [QlO,Qly]
 ·rename_i h3
  rw[if_neg h3];unfold Qb2 at hok⊢;split at hok
  ·rename_i h4
   rw[if_pos h4];split at hok
   ·rename_i h5;rw[if_pos h5];exact⟨hT,h,fun _ _=>rfl,rfl⟩
   ·rename_i h5
    rw[if_neg h5];obtain⟨a1,_,a3,a4,a5,_⟩:=Qmx hT (show(o.at'+11)/12 -1<16 by omega) h hok;exact⟨a1,a3,a4,a5⟩
  ·rename_i h4
   rw[if_neg h4];split at hok
   ·cases hok
   ·rename_i h5
    rw[if_neg h5];obtain⟨a1,_,a3,a4,a5,_⟩:=QrY hT h (show(o.at'+11)/12<=16 by omega) (by grind);have hd:QcB f.1 n.tree (QN f.1 n.tree ((o.at'+11)/12)).1 (QN f.1 n.tree ((o.at'+11)/12)).2.1 X:=⟨a1,a3,a4,a5⟩;split at hok
    ·grind
    ·rename_i h6
     rw[if_neg h6];exact QsB hd (QlO (n:={n with tree:=(QN f.1 n.tree ((o.at'+11)/12)).2.1,size:=(o.at':Int)}) a1 a3 (by rw[Qly];omega) hok)
theorem Qr9(h:Qca f)(hf:f.2.2=false)(o:QbK):Qca (Qbe f o).1:=by
 have hF:=(h hf).1;have hfb:=QdR f.1.st f.2.1 (Qy o.path);rw[show Qae f.1.st f.2.1 (Qy o.path)=QE f.1 f.2.1 o.path from rfl] at hfb;unfold Qbe;rcases hfb with hfb|⟨k,hk,hke⟩
 ·grind
 rw[hke,A0,if_neg (by omega)];have e1:Ql f k=(Qp f.1 f.2.1 k).1:=by unfold Ql;rw[QeG hF.tr hk]
 split
 ·exact h
 rename_i h1;have hk1:(Qp f.1 f.2.1 k).1.kind=1:=by rw[<-e1];exact Classical.not_not.1 h1
 have hn2:(Qp f.1 f.2.1 k).2=true:=QmD (by omega);split
 ·exact h
 rename_i h2;have hop:=QhB hF hk;rw[QhY hn2,<-e1] at hop;have hT:=hF.nod k hk hn2;rw[<-e1] at hT;have hd:=fun hok=>fchg_in (f:=f) (n:=Ql f k) (o:=o) hT (X:=Q8 f.1.st f.2.1++QbA f.1 f.2.1 k) (hop.live.perm (by grind)) (by omega) hok
 generalize QbI f (Ql f k) o=y at*;obtain⟨w2,n2,ok2⟩:=y;refine(Qog (f:=(w2,f.2.1,!ok2)) hk (fun e=>?_) fun e _=>?_).1
 ·obtain⟨b1,b2,b3,b4⟩:=hd (by grind)
  exact(Qlc (w':=w2) (E':=Q8 w2.st n2.tree) hop b3 (by grind) (b2.perm (by grind))).1
 ·exact(hd (by grind)).tr
theorem QrF{s:Pm.Store}{n:Qk}(h:n.size=0):(Qf s n).1=[]:=by
 unfold Qf;split
 ·rename_i hc
  simp only[A1,decide_eq_true_eq] at hc;have h1:(QaL (Qc s n.tree)).1=[]:=List.eq_nil_iff_length_eq_zero.2 (by omega);rw[h1];rcases Qoo [] with h2|h2
  ·have h3:=h2.1.2
   cases hl:(QbW []).1 with
   |nil=>rfl
   |cons e l=>grind [QG]
  ·rw[h2]
 ·rfl
theorem fdrop_k(h:Qca f)(hf:f.2.2=false)(path:List UInt8):Qca (QbP f path).1:=by
 have hF:=(h hf).1;have hfb:=QdR f.1.st f.2.1 (Qy path);rw[show Qae f.1.st f.2.1 (Qy path)=QE f.1 f.2.1 path from rfl] at hfb;have hpf:=Qfg (w:=f.1) hF.tr.good (path:=path);unfold QbP;rcases hfb with hfb|⟨k,hk,hke⟩
 ·grind
 rw[hke] at hpf⊢;rw[A0,if_neg (by omega)];split
 ·exact h
 rename_i h1;obtain⟨hne,hp2,a,ha,hpa,i,hi,hi2⟩:=hpf (by omega) (by omega);have hka:=Qff hF ha hpa hp2;have e1:Ql f k=(Qp f.1 f.2.1 k).1:=by unfold Ql;rw[QeG hF.tr hk]
 have hsz:=(Qdl f.1.st f.2.1 k).2.1;rw[show(Q5 f.1.st f.2.1 k).1=Ql f k from rfl] at hsz
 have hak:a≠k:=fun e=>by
  grind [Ql,QrF]
 have hw:Qah f path=QR f a ((Qf f.1.st (Ql f (QI f.1 f.2.1 path).1.toNat)).1.take (Qa2 (Qf f.1.st (Ql f (QI f.1 f.2.1 path).1.toNat)).1 (QJ path)).toNat++(Qf f.1.st (Ql f (QI f.1 f.2.1 path).1.toNat)).1.drop ((Qa2 (Qf f.1.st (Ql f (QI f.1 f.2.1 path).1.toNat)).1 (QJ path)).toNat+1)):=by
  unfold Qah;grind
 have hwk:=Qf8 (f:=f) (l:=(Qf f.1.st (Ql f (QI f.1 f.2.1 path).1.toNat)).1.take (Qa2 (Qf f.1.st (Ql f (QI f.1 f.2.1 path).1.toNat)).1 (QJ path)).toNat++(Qf f.1.st (Ql f (QI f.1 f.2.1 path).1.toNat)).1.drop ((Qa2 (Qf f.1.st (Ql f (QI f.1 f.2.1 path).1.toNat)).1 (QJ path)).toNat+1)) ha h fun _=>hka
 rw[<-hw] at hwk;generalize Qah f path=f2 at*;obtain⟨w1,w2⟩:=hwk;split
 ·rename_i hl
  have hn2:(Qp f.1 f.2.1 k).2=true:=by
   cases hn:(Qp f.1 f.2.1 k).2
   ·rw[e1,QmC hn] at hl;exact absurd hl (by decide)
   ·rfl
  grind [QlN]
 ·split
  ·exact w1
  ·rename_i hff
   have hff:f2.2.2=false:=by grind
   obtain⟨_,u1,u2,u3⟩:=w2 hff;have hF2:=(w1 hff).1;have hlen:=texts_len f2.1.st hF2.tr.good;intro hok;unfold QcH at hok⊢;have hm:Qam (Qc f2.1.st f2.2.1) k<=16:=Nat.le_trans (QgV _ _) (by rw[hlen];have:=hF2.tr.good.manyHi;omega)
   have hpm:(Qao f2.1.st (Ql f2 k).tree).Perm (Qbl f2.1.st (Qp f2.1 f2.2.1 k)):=by
    have e2:Ql f2 k=(Qp f2.1 f2.2.1 k).1:=by unfold Ql;rw[QeG hF2.tr hk]
    rw[e2];cases hn:(Qp f2.1 f2.2.1 k).2
    ·grind [QmC,Qbl,Qao,Qd,Qgc,Qds]
    ·rw[QhY hn];exact QoD (hF2.nod k hk hn)
   obtain⟨d1,d2⟩:=QsL hF2 hk hpm hm (by grind);refine⟨d1,?_⟩;rw[d2];have:=Qpo (l:=Qc f2.1.st f2.2.1) (but:=k) (k:=a) (by omega) hak (fun e=>by rw[QnQ hF2 e] at u3;exact absurd u3 (by decide));omega

/- Of fby_card; no condition. -/
import Derived.Test.YtfmnpmhadmcdkaaGreatDoorT30
set_option linter.all false
set_option maxRecDepth 100000
set_option maxHeartbeats 16000000
open Int renaming toNat_natCast->A0
open List renaming mem_append_right->A1,mem_singleton->A2,flatMap_cons->A3
namespace Go.Proofs.YtfmnpmhadmcdkaaGreatDoor
noncomputable section
open Go.RowKit
namespace Aw
variable{t:Pl.Tree}{w:Pl.Sto}{k a b:Nat}{f:Q4}{X:List Pl.Ptr}{o:QbF}
theorem QiY(s:Pm.Store)(l:List Pl.Ptr):l.flatMap (Qbc s 0)=Qr l:=by
 induction l with
 |nil=>rfl
 |cons p l ih=>
  grind [Qbc,Qr]
theorem QiZ(s:Pm.Store)(n:Nat)(p:Pl.Ptr):Qbc s (n+1) p=Qr [p]++(Qi s p (n+1:Nat)).1.flatMap (Qbc s n):=by
 cases hh:Pl.ptrHole p
 ·grind [Qbc,Qr]
 grind [QfQ,Qi,Qr,Qdj]
theorem Qoj(h:Qbr w t):(Qan w.st t).Perm (Q7 w.st t):=by
 have hl:=h.lv;have hd:t.depth=0∨t.depth=1∨t.depth=2:=by rw[h.dep];grind [QfM]
 unfold Q7 Qan;rcases hd with hd|hd|hd
 ·rw[QfZ hd,leaves0 _ hd,hd,List.nil_append]
  have:=QiY w.st [t.root]
  grind
 ·rw[leaves1 _ hd] at hl⊢
  split at hl
  ·simp_all[QeG,QiZ,QiY]
  grind
 ·rw[leaves2 _ hd] at hl⊢
  split at hl
  ·rename_i hb
   rw[if_pos hb];split at hl
   ·rename_i hb2
    rw[QeF hd,if_pos hb2,hd,show(2:Int).toNat=1+1 from rfl,QiZ,List.append_assoc];refine List.Perm.append_left _ ?_;show((Qi w.st t.root 2).1.flatMap (Qbc w.st 1)).Perm (Qr (Qi w.st t.root 2).1++Qr ((Qi w.st t.root 2).1.flatMap fun p=>(Qi w.st p 1).1));generalize (Qi w.st t.root 2).1=B;clear hb hb2 hd;induction B with
    |nil=>exact .refl _
    |cons b B ih=>
     rw[A3,A3,Qeu,show b::B=[b]++B from rfl,Qeu,show Qbc w.st 1 b=_ from QiZ w.st 0 b,QiY]
     grind
   grind
  grind
theorem Qs5(h:Qbr w t)(hh:Pl.ptrHole t.root=false):t.root∈Q7 w.st t:=by
 have hd:t.depth=0∨t.depth=1∨t.depth=2:=by rw[h.dep];grind [QfM]
 grind [Qr,Q7,leaves0,QeG,QeF]
theorem Tr_sub{L:List Pl.Ptr}(h:Qbr w t)(hl:QU w L)(hs: ∀p∈Q7 w.st t,p∈L)(htx:0<=w.txg):Qce w.st t.depth.toNat t.root/\ ∀p∈Qan w.st t,Pl.ptrOk p=true:=by
 have key: ∀p∈Q7 w.st t,Pl.ptrOk p=true/\p.birth<=w.txg:=fun p hp=>⟨(QfL (hl.fit p (hs p hp))).1,hl.bir p (hs p hp)⟩
 refine⟨?_,fun p hp=>(key p ((Qoj h).mem_iff.1 hp)).1⟩;have hlv:=h.lv;have hz:=h.zero;have hm: ∀p∈(QI w.st t).1,Pl.ptrHole p=false->p∈Q7 w.st t:=fun p hp hh=>A1 _ (QeA.2 ⟨hp,hh⟩)
 unfold QI at hlv hz hm;refine QpI w.st htx _ [t.root] hlv (fun p hp=>?_) (fun p hp=>?_) _ (A2.2 rfl)
 ·rw[A2.1 hp]
  refine⟨h.good.root,?_⟩;cases hh:Pl.ptrHole t.root
  ·exact(key _ (Qs5 h hh)).2
  ·rw[Qgw hh];exact htx
 ·cases hh:Pl.ptrHole p
  ·have:=key p (hm p hp hh)
   exact .inr ⟨this.1,(hz p hp).resolve_left (by grind),this.2⟩
  ·exact .inl hh
theorem Qms(h:(Qn w t k).1.kind≠0):(Qn w t k).2=true:=by
 unfold Qn at h⊢;rcases QfV (Qf w.rows ((Qe w.st t).getD k Pl.hole)).1 with e|e
 ·exact e.2
 ·rw[e] at h;exact absurd rfl h
theorem Qmr(h:(Qn w t k).2=false):(Qn w t k).1=Qd:=by grind [Qn,QfV]
theorem QhL(h:(Qn w t k).2=true):Qbh w.st (Qn w t k)=Q7 w.st (Qn w t k).1.tree:=by unfold Qbh;grind
theorem Fs_x(h:QbE w t)(htx:0<=w.txg)(k:Nat):
 Qce w.st (Q5 w.st t k).1.tree.depth.toNat (Q5 w.st t k).1.tree.root/\ ∀p∈Qan w.st (Q5 w.st t k).1.tree,Pl.ptrOk p=true:=by
 have hz:Qce w.st Qd.tree.depth.toNat Qd.tree.root/\ ∀p∈Qan w.st Qd.tree,Pl.ptrOk p=true:=by
  refine⟨.inl Qdj,fun p hp=>?_⟩
  grind [Qan,Qd,QfQ,Qdj]
 by_cases hk:k<16
 ·rw[QeB h.tr hk]
  cases hn:(Qn w t k).2
  ·grind [Qmr]
  ·refine Tr_sub (h.nod k hk hn) h.live (fun p hp=>A1 _ ?_) htx
   grind [Qcb,QhL]
 ·have hm:=h.tr.good.manyHi
  unfold Q5
  grind
def QbV(f:Q4):Prop:=f.2.2=false->QbE f.1 f.2.1/\1<=f.2.1.many
def Fk_ok(h:QbV f):QcT f:=fun e=>(h e).1
theorem Qf1{id:Nat}{l:List Qq}(hid:id<16)(h:QbV f)(hn:f.2.2=false->(Qn f.1 f.2.1 id).1.kind=2):
 QbV (QW f id l)/\((QW f id l).2.2=false->f.2.2=false/\(id:Int)<(QW f id l).2.1.many/\(∀k,k≠id->Qn (QW f id l).1 (QW f id l).2.1 k=Qn f.1 f.2.1 k)/\(Qn (QW f id l).1 (QW f id l).2.1 id).1.kind=2):=by
 have key:=fun hok=>QqO (l:=l) hid (Fk_ok h) (fun e=>⟨Qms (by grind),hn e⟩) hok
 refine⟨fun hok=>?_,fun hok=>?_⟩
 ·grind
 grind
theorem QnE{id:Nat}{n:Qj}(hid:id<16)(h:f.2.2=false->QcN f.1 f.2.1 id (Q7 f.1.st n.tree))(hn:f.2.2=false->Q8 n=true->Qbr f.1 n.tree):
 QbV (Qaq f id n)/\((Qaq f id n).2.2=false->f.2.2=false/\ ∀k,k≠id->Qn (Qaq f id n).1 (Qaq f id n).2.1 k=Qn f.1 f.2.1 k):=by
 refine⟨fun hok=>?_,fun hok=>?_⟩
 ·grind [QmI]
 grind [QmI]
theorem Ql5{id:Nat}{n:Qj}(hid:id<16)(h:QbV f)(hn:f.2.2=false->(Qn f.1 f.2.1 id).2=true/\n.tree=(Qn f.1 f.2.1 id).1.tree):
 QbV (Qaq f id n)/\((Qaq f id n).2.2=false->f.2.2=false/\ ∀k,k≠id->Qn (Qaq f id n).1 (Qaq f id n).2.1 k=Qn f.1 f.2.1 k):=
 QnE hid (fun e=>by have:=Qhz (h e).1 hid;grind [QhL]) fun e _=>by rw[(hn e).2];exact(h e).1.nod id hid (hn e).1
theorem QeZ{path:List UInt8}(h:QbE w t)(ha:a<16)(h1:(QJ w t path).1=a)(h2:(QJ w t path).2=0):(Qn w t a).1.kind=2:=by
 rw[<-QeB h.tr ha]
 grind [QJ]
theorem Qj7{path:List UInt8}(h:QbE w t)(ha:a<16)(h1:(Qam w t path).1=a)(h2: ¬0<(Qam w t path).2):(Qn w t a).1.kind=2:=by
 have hb:=(Qf2 w t path).2.1
 grind [Qam,QeZ]
def Qnz(h:QbE w t){id:Nat}(he:(Qc w.st t).getD id []=[]):Qn w t id=(Qd,false):=by
 unfold Qn
 by_cases hi:(id:Int)<=t.many -1
 ·have:=texts_get w.st h.tr.good hi
  rw[he] at this;rw[show(Qf w.rows ((Qe w.st t).getD id Pl.hole)).1=[] from this.symm,Qip]
 ·have:=h.tr.good.manyLo
  rw[h.tr.top id (by omega),Qfq,Qip]
theorem QqW(h:QbV f)(hf:f.2.2=false)(path:List UInt8)(kind:Int):QbV (QbA f path kind).1:=by
 obtain⟨⟨a,ha,hae⟩,h2,h3⟩:=Qgc f.1 f.2.1 path;have hF:=(h hf).1;unfold QbA;rw[hae,A0];split
 ·exact h
 rename_i h0;have hka:=Qj7 hF ha hae h0;cases hfr:QbN (Qc f.1.st f.2.1) with
 |none=>exact h
 |some id=>
  dsimp only;split
  ·exact h
  obtain⟨hid,hblank⟩:=Qi7 hfr;have hz:=Qnz hF hblank;have hne:a≠id:=fun e=>by rw[e,hz] at hka;exact absurd hka (by decide)
  have hp:=QnE (f:=f) (id:=id) (n:=⟨kind,1,0,⟨Pl.hole,0,0⟩⟩) hid (fun e=>by
   have:=Qhz (h e).1 hid;rw[hz] at this
   rw[(QfA f.1).2];exact this) fun _ _=>(QfA f.1).1
  grind [Qf1]
theorem flink_k(h:QbV f)(hf:f.2.2=false)(path pt:List UInt8):QbV (QbI f path pt).1:=by
 obtain⟨⟨a,ha,hae⟩,h2,h3⟩:=Qgc f.1 f.2.1 pt;have hF:=(h hf).1;have hfb:=QdF f.1.st f.2.1 (Qy path);rw[show Qaf f.1.st f.2.1 (Qy path)=QE f.1 f.2.1 path from rfl] at hfb;unfold QbI;rw[hae,A0];rcases hfb with hfb|⟨k,hk,hke⟩
 ·grind
 rw[hke,A0,if_neg (by omega)];have e1:Ql f k=(Qn f.1 f.2.1 k).1:=by unfold Ql;rw[QeB hF.tr hk]
 grind [Qj7,Ql5,Qms,Qf1]
theorem Ql6{n:Qj}{text:List UInt8}(hT:Qbr w n.tree)(h:QU w (Q7 w.st n.tree++X))(hl:a+(Qbe text a (b+1 -a)).length<=16)(hok:(Qa8 w n text a b).2.2=true):
 Qc5 w n.tree (Qa8 w n text a b).1 (Qa8 w n text a b).2.1.tree X:=(QjW _ a hT h hl hok).1
theorem Qlf(text:List UInt8)(a m:Nat):(Qbe text a m).length=m:=by simp[Qbe]
def Qsg{w' w'':Pl.Sto}{t' t'':Pl.Tree}(h:Qc5 w t w' t' X)(h2:Qc5 w' t' w'' t'' X):Qc5 w t w'' t'' X:=
 ⟨h2.tr,h2.live,fun q hq=>(h2.keep q hq).trans (h.keep q hq),h2.txg.trans h.txg⟩
theorem fchg_in{n:Qj}(hT:Qbr f.1 n.tree)(h:QU f.1 (Q7 f.1.st n.tree++X))(hb:o.at'+o.text.length<=192)(hok:(QbD f n o).2.2=true):
 Qc5 f.1 n.tree (QbD f n o).1 (QbD f n o).2.1.tree X:=by
 unfold QbD at hok⊢;split at hok
 ·rename_i h3
  rw[if_pos h3];unfold Qby at hok⊢;split at hok
  ·rename_i h4;rw[if_pos h4];exact⟨hT,h,fun _ _=>rfl,rfl⟩
  grind [Ql6,Qlf]
 ·rename_i h3
  rw[if_neg h3];unfold Qbz at hok⊢;split at hok
  ·rename_i h4
   rw[if_pos h4];split at hok
   ·rename_i h5;rw[if_pos h5];exact⟨hT,h,fun _ _=>rfl,rfl⟩
   ·rename_i h5
    rw[if_neg h5];obtain⟨a1,_,a3,a4,a5,_⟩:=Qmd hT (show(o.at'+11)/12 -1<16 by omega) h hok;exact⟨a1,a3,a4,a5⟩
  ·rename_i h4
   rw[if_neg h4];split at hok
   ·cases hok
   ·rename_i h5
    rw[if_neg h5];obtain⟨a1,_,a3,a4,a5,_⟩:=Qr4 hT h (show(o.at'+11)/12<=16 by omega) (by grind);have hd:Qc5 f.1 n.tree (QM f.1 n.tree ((o.at'+11)/12)).1 (QM f.1 n.tree ((o.at'+11)/12)).2.1 X:=⟨a1,a3,a4,a5⟩;split at hok
    ·grind
    ·rename_i h6
     rw[if_neg h6];exact Qsg hd (Ql6 (n:={n with tree:=(QM f.1 n.tree ((o.at'+11)/12)).2.1,size:=(o.at':Int)}) a1 a3 (by rw[Qlf];omega) hok)
theorem Qrf(h:QbV f)(hf:f.2.2=false)(o:QbF):QbV (Qbb f o).1:=by
 have hF:=(h hf).1;have hfb:=QdF f.1.st f.2.1 (Qy o.path);rw[show Qaf f.1.st f.2.1 (Qy o.path)=QE f.1 f.2.1 o.path from rfl] at hfb;unfold Qbb;rcases hfb with hfb|⟨k,hk,hke⟩
 ·grind
 rw[hke,A0,if_neg (by omega)];have e1:Ql f k=(Qn f.1 f.2.1 k).1:=by unfold Ql;rw[QeB hF.tr hk]
 split
 ·exact h
 rename_i h1;have hk1:(Qn f.1 f.2.1 k).1.kind=1:=by rw[<-e1];exact Classical.not_not.1 h1
 have hn2:(Qn f.1 f.2.1 k).2=true:=Qms (by omega);split
 ·exact h
 rename_i h2;have hop:=Qhz hF hk;rw[QhL hn2,<-e1] at hop;have hT:=hF.nod k hk hn2;rw[<-e1] at hT;have hd:=fun hok=>fchg_in (f:=f) (n:=Ql f k) (o:=o) hT (X:=Q7 f.1.st f.2.1++Qb6 f.1 f.2.1 k) (hop.live.perm (by grind)) (by omega) hok
 generalize QbD f (Ql f k) o=y at*;obtain⟨w2,n2,ok2⟩:=y;refine(QnE (f:=(w2,f.2.1,!ok2)) hk (fun e=>?_) fun e _=>?_).1
 ·obtain⟨b1,b2,b3,b4⟩:=hd (by grind)
  exact(QkI (w':=w2) (E':=Q7 w2.st n2.tree) hop b3 (by grind) (b2.perm (by grind))).1
 ·exact(hd (by grind)).tr
theorem Qrl{s:Pm.Store}{n:Qj}(h:n.size=0):(Qg s n).1=[]:=by
 unfold Qg;split
 ·rename_i hc
  simp only[Bool.and_eq_true,decide_eq_true_eq] at hc;have h1:(QaL (Qc s n.tree)).1=[]:=List.eq_nil_iff_length_eq_zero.2 (by omega);rw[h1];rcases QnN [] with h2|h2
  ·have h3:=h2.1.2
   cases hl:(QbP []).1 with
   |nil=>rfl
   |cons e l=>grind [QG]
  ·rw[h2]
 ·rfl
theorem fdrop_k(h:QbV f)(hf:f.2.2=false)(path:List UInt8):QbV (QbJ f path).1:=by
 have hF:=(h hf).1;have hfb:=QdF f.1.st f.2.1 (Qy path);rw[show Qaf f.1.st f.2.1 (Qy path)=QE f.1 f.2.1 path from rfl] at hfb;have hpf:=Qfa (w:=f.1) hF.tr.good (path:=path);unfold QbJ;rcases hfb with hfb|⟨k,hk,hke⟩
 ·grind
 rw[hke] at hpf⊢;rw[A0,if_neg (by omega)];split
 ·exact h
 rename_i h1;obtain⟨hne,hp2,a,ha,hpa,i,hi,hi2⟩:=hpf (by omega) (by omega);have hka:=QeZ hF ha hpa hp2;have e1:Ql f k=(Qn f.1 f.2.1 k).1:=by unfold Ql;rw[QeB hF.tr hk]
 have hsz:=(Qde f.1.st f.2.1 k).2.1;rw[show(Q5 f.1.st f.2.1 k).1=Ql f k from rfl] at hsz
 have hak:a≠k:=fun e=>by
  grind [Ql,Qrl]
 have hw:Qah f path=QW f a ((Qg f.1.st (Ql f (QJ f.1 f.2.1 path).1.toNat)).1.take (Qa2 (Qg f.1.st (Ql f (QJ f.1 f.2.1 path).1.toNat)).1 (QK path)).toNat++(Qg f.1.st (Ql f (QJ f.1 f.2.1 path).1.toNat)).1.drop ((Qa2 (Qg f.1.st (Ql f (QJ f.1 f.2.1 path).1.toNat)).1 (QK path)).toNat+1)):=by
  unfold Qah;grind
 have hwk:=Qf1 (f:=f) (l:=(Qg f.1.st (Ql f (QJ f.1 f.2.1 path).1.toNat)).1.take (Qa2 (Qg f.1.st (Ql f (QJ f.1 f.2.1 path).1.toNat)).1 (QK path)).toNat++(Qg f.1.st (Ql f (QJ f.1 f.2.1 path).1.toNat)).1.drop ((Qa2 (Qg f.1.st (Ql f (QJ f.1 f.2.1 path).1.toNat)).1 (QK path)).toNat+1)) ha h fun _=>hka
 rw[<-hw] at hwk;generalize Qah f path=f2 at*;obtain⟨w1,w2⟩:=hwk;split
 ·rename_i hl
  have hn2:(Qn f.1 f.2.1 k).2=true:=by
   cases hn:(Qn f.1 f.2.1 k).2
   ·rw[e1,Qmr hn] at hl;exact absurd hl (by decide)
   ·rfl
  grind [Ql5]
 ·split
  ·exact w1
  ·rename_i hff
   have hff:f2.2.2=false:=by grind
   obtain⟨_,u1,u2,u3⟩:=w2 hff;have hF2:=(w1 hff).1;have hlen:=texts_len f2.1.st hF2.tr.good;intro hok;unfold QcA at hok⊢;have hm:Qal (Qc f2.1.st f2.2.1) k<=16:=Nat.le_trans (QgI _ _) (by rw[hlen];have:=hF2.tr.good.manyHi;omega)
   have hpm:(Qan f2.1.st (Ql f2 k).tree).Perm (Qbh f2.1.st (Qn f2.1 f2.2.1 k)):=by
    have e2:Ql f2 k=(Qn f2.1 f2.2.1 k).1:=by unfold Ql;rw[QeB hF2.tr hk]
    rw[e2];cases hn:(Qn f2.1 f2.2.1 k).2
    ·grind [Qmr,Qbh,Qan,Qd,QfQ,Qdj]
    ·rw[QhL hn];exact Qoj (hF2.nod k hk hn)
   obtain⟨d1,d2⟩:=Qss hF2 hk hpm hm (by grind);refine⟨d1,?_⟩;rw[d2];have:=QoJ (l:=Qc f2.1.st f2.2.1) (but:=k) (k:=a) (by omega) hak (fun e=>by rw[Qnz hF2 e] at u3;exact absurd u3 (by decide));omega
def Qbi(l:List Qq)(i:Nat):List Qq:=l.take i++l.drop (i+1)
abbrev QaS(f:Q4)(a:Nat):List Qq:=(Qg f.1.st (Ql f a)).1
def QbZ(f:Q4)(a b:Nat)(n1 n2:List UInt8)(id:Int):Q4:=
 if(b:Int)=a then QW f b (Qar (Qbi (QaS f a) (Qa2 (QaS f a) n1).toNat) (n2,id)) else
 QW (QW f a (Qbi (QaS f a) (Qa2 (QaS f a) n1).toNat)) b
  (Qar (QaS (QW f a (Qbi (QaS f a) (Qa2 (QaS f a) n1).toNat)) b) (n2,id))
def QbH(f:Q4)(path pt:List UInt8):Q4×Int:=
 if QE f.1 f.2.1 path<0 then(f,2) else
 if QE f.1 f.2.1 path=0 then(f,5) else
 if 0<=QE f.1 f.2.1 pt then(f,3) else
 if Qcw pt path then(f,5) else
 if 0<(QJ f.1 f.2.1 pt).2 then(f,(QJ f.1 f.2.1 pt).2) else
 if(QJ f.1 f.2.1 pt).1≠(QJ f.1 f.2.1 path).1/\12<=(QaS f (QJ f.1 f.2.1 pt).1.toNat).length then(f,6) else
 (QbZ f (QJ f.1 f.2.1 path).1.toNat (QJ f.1 f.2.1 pt).1.toNat (QK path) (QK pt) (QE f.1 f.2.1 path),0)
theorem Qtm(h:QbV f)(ha:a<16)(hb:b<16)(hka:f.2.2=false->(Qn f.1 f.2.1 a).1.kind=2)(hkb:f.2.2=false->(Qn f.1 f.2.1 b).1.kind=2)(n1 n2:List UInt8)(id:Int):QbV (QbZ f a b n1 n2 id):=by
 unfold QbZ;split
 ·exact(Qf1 hb h hkb).1
 ·rename_i hne
  have h1:=Qf1 (l:=Qbi (QaS f a) (Qa2 (QaS f a) n1).toNat) ha h hka;exact(Qf1 hb h1.1 fun e=>by grind).1
def fmove_k(h:QbV f)(hf:f.2.2=false)(path pt:List UInt8):QbV (QbH f path pt).1:=by
 have hF:=(h hf).1;have hfb:=QdF f.1.st f.2.1 (Qy path);rw[show Qaf f.1.st f.2.1 (Qy path)=QE f.1 f.2.1 path from rfl] at hfb;have hpf:=Qfa (w:=f.1) hF.tr.good (path:=path);obtain⟨⟨b,hb,hbe⟩,hb2,_⟩:=Qf2 f.1 f.2.1 pt;unfold QbH;split
 ·exact h
 split
 ·exact h
 split
 ·exact h
 split
 ·exact h
 split
 ·exact h
 split
 ·exact h
 rename_i h1 h2 _ _ h3 _;obtain⟨hne,hp2,a,ha,hpa,i,hi,hi2⟩:=hpf (by omega) h2;rw[hpa,hbe,A0,A0];exact Qtm h ha hb (fun _=>QeZ hF ha hpa hp2) (fun _=>QeZ hF hb hbe (by omega)) _ _ _
def Qbt(f:Q4)(o:QbF):Q4×Int:=
 if o.kind=1 then QbA f o.path 1 else if o.kind=2 then QbA f o.path 2 else if o.kind=5 then QbJ f o.path else
 if o.kind=6 then QbI f o.path o.pto else if o.kind=7 then QbH f o.path o.pto else Qbb f o
def fact_k(h:QbV f)(hf:f.2.2=false)(o:QbF):QbV (Qbt f o).1:=by
 unfold Qbt;split
 ·exact QqW h hf _ _
 split
 ·exact QqW h hf _ _
 split
 ·exact fdrop_k h hf _
 split
 ·exact flink_k h hf _ _
 split
 ·exact fmove_k h hf _ _
 ·exact Qrf h hf o
def Qct(r:Q4×Int):Prop:=r.2=0/\r.1.2.2=false
def fdo_k(h:QbE w t)(hm:1<=t.many)(hr:Qct (Qbt (w,t,false) o)):QbE (Qbt (w,t,false) o).1.1 (Qbt (w,t,false) o).1.2.1/\1<=(Qbt (w,t,false) o).1.2.1.many:=
 fact_k (fun _=>⟨h,hm⟩) rfl o hr.2
abbrev zOp:List AV:=[.d (.v (.int .i64 0)),.d (.v (.string ⟨#[]⟩)),.d (.v (.string ⟨#[]⟩)),.d (.v (.int .i64 0)),.d (.v (.string ⟨#[]⟩))]
def Qft{rows:List (List D)}(h:RdOk rows)(p:Nat){n:Int}(hn:0<n): ∃v:Nat,QaO rows p n=v/\(v:Int)<n:=by
 obtain⟨h1,h2⟩:=pkv_b h p n;exact⟨(QaO rows p n).toNat,by omega,by omega⟩
attribute [local irreducible] ASeq ADraw AWP Loc AStep Fg.PlanF Fg.Flts EndR Fk.PlanF Fk.Flts Fk.AStepM Fk.Grew Fk.Gs
def eOpD(rows:List (List D))(hr:RdOk rows)(p:Nat)(hp:p<=700000):
 DoesE Tryz.prog 88 [.ptr 0 0 0] [rdR rows p] [.ptr 0 0 0] (fun x H=> ∃(k:Int) (path pt:List UInt8) (a:Int) (text:List UInt8) (p':Nat),path.length<=12/\pt.length<=12/\text.length<=1000000/\p'<=p+200/\x= .d (dOpI k path pt a text)/\H=[rdR rows p']):=by
 obtain⟨v,hv,hvl⟩:=Qft hr p (n:=12) (by decide);have c1:=ePick rows hr p (by omega) 12 (by decide);rw[hv] at c1;obtain⟨kd,hkd⟩: ∃kd,([1,1,2,2,3,3,3,4,5,6,7,7].map fun z=>[dI z])[(v:Int).toNat]? =some [dI kd]:=⟨_,QdT (f:=fun z=>[dI z]) _ 0 (n:=12) rfl (by omega)⟩;have c2:=ePath rows hr (p+1) (by omega);have b0:([]:List UInt8).length<=12:=by decide
 have b1:([]:List UInt8).length<=1000000:=by decide
 refine kH fun gvs=>?_
 repeat' first|refine kS ?_|(show AWP _ (.region 1 _ _) _ _;refine(Fk.awp_drawG (id:=1) [0,1,3,4,5,8] [2,6,9] [(8,.row 0 zOp)] [] 2 6 (.d (dI v)) ?_))|refine(Fk.aw_fltA 2 ?_)|refine(Fk.aw_fltL (ho:=rfl) (hk:=rfl) (hl:=fun H=>Qd0 Ty.h rfl Ty.h) (k:=?_))|refine(Fk.aw_fltL (ho:=rfl) (hk:=rfl) (hl:=fun H=>QcV Ty.h rfl Ty.h rfl rfl rfl (by omega) hkd) (k:=?_))|refine(Fk.aw_planC0 (by rfl) (by kernel_rfl) rfl ?_)|refine Fk.aw_callM [0] c1 cK (k:=kY ?_)|(refine Fk.aw_callM [0] c2 cK (k:=?_);rintro _ _ ⟨s,hs,rfl,rfl⟩;refine Fk.aw_nrmM (k:=?_))|(refine aw_pk 0 hr (kk:=?_);intro v hv)|(refine QA [0] (ePath rows hr _ ?_) cK (k:=?_);omega;rintro _ _ ⟨s,hs,rfl,rfl⟩;refine Qd1 (k:=?_))|(refine QA [0] (eText rows hr _ ?_ 24 (by decide)) cK (k:=?_);omega;rintro _ _ ⟨s,p1,hs,hp1,rfl,rfl⟩;refine Qd1 (k:=?_))|(refine QA [] (eMany6 [117] (24+v) ?_ (by decide) ?_) cK (k:=?_);(simp only[List.length_cons,List.length_nil];omega);omega;rintro _ _ ⟨s,hs,rfl,rfl⟩;refine Qd1 (k:=?_))|refine qS (Qd0 Ty.h rfl Ty.h) ?_|refine qS (QcV Ty.h rfl Ty.h rfl rfl rfl (by omega) (QdT (f:=fun z=>[dI z]) [0,1,5,12,13,24,40,100,180] 0 (n:=9) rfl (by omega))) ?_|refine qS (QcV Ty.h rfl Ty.h rfl rfl rfl (by omega) (QdT (f:=fun z=>[dI z]) [0,1,5,12,13,25,60,192] 0 (n:=8) rfl (by omega))) ?_|refine qS (QcV Ty.h rfl Ty.h rfl rfl rfl (by omega) (QdT (f:=fun z=>[dI z]) [0,8,-1,3] 0 (n:=4) rfl (by omega))) ?_|refine qS (QcV Ty.h rfl Ty.h rfl rfl rfl (by omega) (QdT (f:=fun z=>[dI z]) [-1,193,192] 0 (n:=3) rfl (by omega))) ?_|refine kU ?_|refine kV ?_ ?_<;>intro q|fail
 all_goals first|refine Q1 1 (hx:=?_);exact⟨_,_,_,_,_,_,by omega,by omega,by omega,by omega,rfl,rfl⟩|refine Q1 1 (hx:=?_);exact⟨_,_,[],_,_,_,by omega,b0,by omega,by omega,rfl,rfl⟩|refine Q1 1 (hx:=?_);exact⟨_,_,_,_,[],_,by omega,by omega,b1,by omega,rfl,rfl⟩|refine Q1 1 (hx:=?_);exact⟨_,_,[],_,[],_,by omega,b0,b1,by omega,rfl,rfl⟩

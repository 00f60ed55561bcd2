/- Of parts_card; no condition. -/
import Derived.Test.YtilenknaajikpaaGreatDoorP32
set_option linter.all false
set_option maxRecDepth 100000
set_option maxHeartbeats 16000000
open Classical renaming not_not->A4
open Int renaming toNat_natCast->A0
open List renaming mem_singleton->A1,flatMap_cons->A2,mem_append_right->A3
namespace Go.Proofs.YtilenknaajikpaaGreatDoor
noncomputable section
open Go.RowKit
namespace Aw
variable{t:Pl.Tree}{w:Pl.Sto}{k a b:Nat}{f:Q7}{X:List Pl.Ptr}{o:QbN}
theorem QjG(s:Pm.Store)(l:List Pl.Ptr):l.flatMap (QQ s 0)=Qt l:=by
 induction l with
 |nil=>rfl
 |cons p l ih=>
  rw[A2,ih];unfold QQ Qt
  grind
theorem QjH(s:Pm.Store)(n:Nat)(p:Pl.Ptr):QQ s (n+1) p=Qt [p]++(Qh s p (n+1:Nat)).1.flatMap (QQ s n):=by
 cases hh:Pl.ptrHole p
 ·show(if Pl.ptrHole p then [] else p::(Qh s p (n+1:Nat)).1.flatMap (QQ s n))=_
  rw[hh];unfold Qt;simp[hh]
 ·rw[QdZ s _ hh]
  have:Qh s p (n+1:Nat)=(List.replicate 4 Pl.hole,true):=by unfold Qh;grind
  rw[this];unfold Qt;simp[hh,QdZ s n Qdr]
theorem Qpf(h:Qbu w t):(QP w.st t).Perm (QA w.st t):=by
 have hl:=h.lv;have hd:t.depth=0∨t.depth=1∨t.depth=2:=by rw[h.dep];rcases Qgo t.many.toNat with e|e|e<;>rw[e]<;>simp
 unfold QA QP;rcases hd with hd|hd|hd
 ·rw[Qfz hd,leaves0 _ hd,hd,List.nil_append]
  have:=QjG w.st [t.root]
  grind
 ·rw[leaves1 _ hd] at hl⊢
  split at hl
  ·rename_i hb
   rw[QeY hd,if_pos hb,hd,show(1:Int).toNat=0+1 from rfl,QjH,QjG]
   grind
  ·cases hl
 ·rw[leaves2 _ hd] at hl⊢
  split at hl
  ·rename_i hb
   rw[if_pos hb];split at hl
   ·rename_i hb2
    rw[QeC hd,if_pos hb2,hd,show(2:Int).toNat=1+1 from rfl,QjH,List.append_assoc];refine List.Perm.append_left _ ?_;show((Qh w.st t.root 2).1.flatMap (QQ w.st 1)).Perm (Qt (Qh w.st t.root 2).1++Qt ((Qh w.st t.root 2).1.flatMap fun p=>(Qh w.st p 1).1));generalize (Qh w.st t.root 2).1=B;clear hb hb2 hd;induction B with
    |nil=>exact .refl _
    |cons b B ih=>
     rw[A2,A2,Qew,show b::B=[b]++B from rfl,Qew,show QQ w.st 1 b=_ from QjH w.st 0 b,QjG]
     grind
   ·cases hl
  ·cases hl
theorem Qt7(h:Qbu w t)(hh:Pl.ptrHole t.root=false):t.root∈QA w.st t:=by
 have hd:t.depth=0∨t.depth=1∨t.depth=2:=by rw[h.dep];rcases Qgo t.many.toNat with e|e|e<;>rw[e]<;>simp
 have hn:t.root∈Qt [t.root]:=QeI.2 ⟨A1.2 rfl,hh⟩;unfold QA;rcases hd with hd|hd|hd
 ·rw[leaves0 _ hd];grind
 ·rw[QeY hd];grind
 ·rw[QeC hd];grind
theorem Tr_sub{L:List Pl.Ptr}(h:Qbu w t)(hl:QT w L)(hs: ∀p∈QA w.st t,p∈L)(htx:0<=w.txg):Qcb w.st t.depth.toNat t.root/\ ∀p∈QP w.st t,Pl.ptrOk p=true:=by
 have key: ∀p∈QA w.st t,Pl.ptrOk p=true/\p.birth<=w.txg:=fun p hp=>⟨(Qgm (hl.fit p (hs p hp))).1,hl.bir p (hs p hp)⟩
 refine⟨?_,fun p hp=>(key p ((Qpf h).mem_iff.1 hp)).1⟩;have hlv:=h.lv;have hz:=h.zero;have hm: ∀p∈(QG w.st t).1,Pl.ptrHole p=false->p∈QA w.st t:=fun p hp hh=>A3 _ (QeI.2 ⟨hp,hh⟩)
 unfold QG at hlv hz hm;refine QmW w.st htx _ [t.root] hlv (fun p hp=>?_) (fun p hp=>?_) _ (A1.2 rfl)
 ·rw[A1.1 hp]
  refine⟨h.good.root,?_⟩;cases hh:Pl.ptrHole t.root
  ·exact(key _ (Qt7 h hh)).2
  ·rw[Qgk hh];exact htx
 ·cases hh:Pl.ptrHole p
  ·have:=key p (hm p hp hh)
   exact .inr ⟨this.1,(hz p hp).resolve_left (by grind),this.2⟩
  ·exact .inl hh
def Qnj(h:(Qr w t k).1.kind≠0):(Qr w t k).2=true:=by
 unfold Qr at h⊢;rcases Qg0 (Qj w.rows ((Qg w.st t).getD k Pl.hole)).1 with e|e
 ·exact e.2
 ·rw[e] at h;exact absurd rfl h
theorem Qni(h:(Qr w t k).2=false):(Qr w t k).1=Qd:=by
 unfold Qr at h⊢;rcases Qg0 (Qj w.rows ((Qg w.st t).getD k Pl.hole)).1 with e|e
 ·grind
 ·rw[e]
theorem Qiz(h:(Qr w t k).2=true):Qbh w.st (Qr w t k)=QA w.st (Qr w t k).1.tree:=by unfold Qbh;grind
theorem Fs_x(h:QbL w t)(htx:0<=w.txg)(k:Nat):
 Qcb w.st (Q4 w.st t k).1.tree.depth.toNat (Q4 w.st t k).1.tree.root/\ ∀p∈QP w.st (Q4 w.st t k).1.tree,Pl.ptrOk p=true:=by
 have hz:Qcb w.st Qd.tree.depth.toNat Qd.tree.root/\ ∀p∈QP w.st Qd.tree,Pl.ptrOk p=true:=by
  refine⟨.inl Qdr,fun p hp=>?_⟩;rw[show QP w.st Qd.tree=[] from QdZ w.st _ Qdr] at hp;cases hp
 by_cases hk:k<16
 ·rw[QeT h.tr hk]
  cases hn:(Qr w t k).2
  ·rw[Qni hn];exact hz
  ·refine Tr_sub (h.nod k hk hn) h.live (fun p hp=>A3 _ ?_) htx
   unfold Qcj;refine List.mem_flatMap.2 ⟨k,List.mem_range.2 hk,?_⟩;rw[Qiz hn];exact hp
 ·have hm:=h.tr.good.manyHi
  unfold Q4
  grind
def Qcd(f:Q7):Prop:=f.2.2=false->QbL f.1 f.2.1/\1<=f.2.1.many
def Fk_ok(h:Qcd f):Qda f:=fun e=>(h e).1
theorem QfP{id:Nat}{l:List Ql}(hid:id<16)(h:Qcd f)(hn:f.2.2=false->(Qr f.1 f.2.1 id).1.kind=2):
 Qcd (QX f id l)/\((QX f id l).2.2=false->f.2.2=false/\(id:Int)<(QX f id l).2.1.many/\(∀k,k≠id->Qr (QX f id l).1 (QX f id l).2.1 k=Qr f.1 f.2.1 k)/\(Qr (QX f id l).1 (QX f id l).2.1 id).1.kind=2):=by
 have key:=fun hok=>Qsd (l:=l) hid (Fk_ok h) (fun e=>⟨Qnj (by grind),hn e⟩) hok
 refine⟨fun hok=>?_,fun hok=>?_⟩
 ·grind
 grind
theorem QoA{id:Nat}{n:Qi}(hid:id<16)(h:f.2.2=false->QcU f.1 f.2.1 id (QA f.1.st n.tree))(hn:f.2.2=false->QL n=true->Qbu f.1 n.tree):
 Qcd (Qax f id n)/\((Qax f id n).2.2=false->f.2.2=false/\ ∀k,k≠id->Qr (Qax f id n).1 (Qax f id n).2.1 k=Qr f.1 f.2.1 k):=by
 refine⟨fun hok=>?_,fun hok=>?_⟩
 ·obtain⟨k1,k2,k3,_⟩:=Qn6 hid h hn hok
  grind
 ·obtain⟨k1,k2,k3,k4,_⟩:=Qn6 hid h hn hok
  grind
def Qml{id:Nat}{n:Qi}(hid:id<16)(h:Qcd f)(hn:f.2.2=false->(Qr f.1 f.2.1 id).2=true/\n.tree=(Qr f.1 f.2.1 id).1.tree):
 Qcd (Qax f id n)/\((Qax f id n).2.2=false->f.2.2=false/\ ∀k,k≠id->Qr (Qax f id n).1 (Qax f id n).2.1 k=Qr f.1 f.2.1 k):=
 QoA hid (fun e=>by have:=Qib (h e).1 hid;rw[Qiz (hn e).1,<-(hn e).2] at this;omega) fun e _=>by rw[(hn e).2];exact(h e).1.nod id hid (hn e).1
theorem Qfs{path:List UInt8}(h:QbL w t)(ha:a<16)(h1:(QI w t path).1=a)(h2:(QI w t path).2=0):(Qr w t a).1.kind=2:=by
 rw[<-QeT h.tr ha];unfold QI at h1 h2
 grind
theorem Qkk{path:List UInt8}(h:QbL w t)(ha:a<16)(h1:(Qat w t path).1=a)(h2: ¬0<(Qat w t path).2):(Qr w t a).1.kind=2:=by
 have hb:=(QfQ w t path).2.1;unfold Qat at h1 h2;split at h1
 ·grind
 ·rename_i h3
  rw[if_neg h3] at h2;split at h1
  ·grind
  ·exact Qfs h ha h1 (by omega)
def Qou(h:QbL w t){id:Nat}(he:(Qc w.st t).getD id []=[]):Qr w t id=(Qd,false):=by
 unfold Qr
 by_cases hi:(id:Int)<=t.many -1
 ·have:=texts_get w.st h.tr.good hi
  rw[he] at this;rw[show(Qj w.rows ((Qg w.st t).getD id Pl.hole)).1=[] from this.symm,QiV]
 ·have:=h.tr.good.manyLo
  rw[h.tr.top id (by omega),QeG,QiV]
theorem Qsg(h:Qcd f)(hf:f.2.2=false)(path:List UInt8)(kind:Int):Qcd (QbD f path kind).1:=by
 obtain⟨⟨a,ha,hae⟩,h2,h3⟩:=Qg9 f.1 f.2.1 path;have hF:=(h hf).1;unfold QbD;rw[hae,A0];split
 ·exact h
 rename_i h0;have hka:=Qkk hF ha hae h0;cases hfr:QbX (Qc f.1.st f.2.1) with
 |none=>exact h
 |some id=>
  dsimp only;split
  ·exact h
  obtain⟨hid,hblank⟩:=Qjp hfr;have hz:=Qou hF hblank;have hne:a≠id:=fun e=>by rw[e,hz] at hka;exact absurd hka (by decide)
  have hp:=QoA (f:=f) (id:=id) (n:=⟨kind,1,0,⟨Pl.hole,0,0⟩⟩) hid (fun e=>by
   have:=Qib (h e).1 hid;rw[hz] at this
   rw[(QfX f.1).2];exact this) fun _ _=>(QfX f.1).1
  exact(QfP ha hp.1 fun e=>by grind).1
theorem flink_k(h:Qcd f)(hf:f.2.2=false)(path pt:List UInt8):Qcd (QbR f path pt).1:=by
 obtain⟨⟨a,ha,hae⟩,h2,h3⟩:=Qg9 f.1 f.2.1 pt;have hF:=(h hf).1;have hfb:=QdS f.1.st f.2.1 (Qy path);rw[show Qai f.1.st f.2.1 (Qy path)=QF f.1 f.2.1 path from rfl] at hfb;unfold QbR;rw[hae,A0];rcases hfb with hfb|⟨k,hk,hke⟩
 ·grind
 rw[hke,A0,if_neg (by omega)];have e1:Qk f k=(Qr f.1 f.2.1 k).1:=by unfold Qk;rw[QeT hF.tr hk]
 split
 ·exact h
 rename_i h1;have hk1:(Qr f.1 f.2.1 k).1.kind=1:=by rw[<-e1];exact A4.1 h1
 split
 ·exact h
 rename_i h0;have hka:=Qkk hF ha hae h0;split
 ·exact h
 have hne:a≠k:=fun e=>by grind
 have hp:=Qml (f:=f) (id:=k) (n:={Qk f k with links:=(Qk f k).links+1}) hk h fun _=>⟨Qnj (by omega),by rw[<-e1]⟩
 exact(QfP ha hp.1 fun e=>by grind).1
def Qmm{n:Qi}{text:List UInt8}(hT:Qbu w n.tree)(h:QT w (QA w.st n.tree++X))(hl:a+(Qbk text a (b+1 -a)).length<=16)(hok:(QaD w n text a b).2.2=true):
 QcE w n.tree (QaD w n text a b).1 (QaD w n text a b).2.1.tree X:=(QkB _ a hT h hl hok).1
def QlN(text:List UInt8)(a m:Nat):(Qbk text a m).length=m:=by simp[Qbk]
def Qto{w' w'':Pl.Sto}{t' t'':Pl.Tree}(h:QcE w t w' t' X)(h2:QcE w' t' w'' t'' X):QcE w t w'' t'' X:=
 ⟨h2.tr,h2.live,fun q hq=>(h2.keep q hq).trans (h.keep q hq),h2.txg.trans h.txg⟩
theorem fchg_in{n:Qi}(hT:Qbu f.1 n.tree)(h:QT f.1 (QA f.1.st n.tree++X))(hb:o.at'+o.text.length<=192)(hok:(QbK f n o).2.2=true):
 QcE f.1 n.tree (QbK f n o).1 (QbK f n o).2.1.tree X:=by
 unfold QbK at hok⊢;split at hok
 ·rename_i h3
  rw[if_pos h3];unfold Qb2 at hok⊢;split at hok
  ·rename_i h4;rw[if_pos h4];exact⟨hT,h,fun _ _=>rfl,rfl⟩
  ·rename_i h4
   rw[if_neg h4];have:=List.length_pos_iff.2 h4;exact Qmm hT h (by rw[QlN];omega) hok
 ·rename_i h3
  rw[if_neg h3];unfold Qb3 at hok⊢;split at hok
  ·rename_i h4
   rw[if_pos h4];split at hok
   ·rename_i h5;rw[if_pos h5];exact⟨hT,h,fun _ _=>rfl,rfl⟩
   ·rename_i h5
    rw[if_neg h5];obtain⟨a1,_,a3,a4,a5,_⟩:=QmT hT (show(o.at'+11)/12 -1<16 by omega) h hok;exact⟨a1,a3,a4,a5⟩
  ·rename_i h4
   rw[if_neg h4];split at hok
   ·cases hok
   ·rename_i h5
    rw[if_neg h5];obtain⟨a1,_,a3,a4,a5,_⟩:=QsG hT h (show(o.at'+11)/12<=16 by omega) (by grind);have hd:QcE f.1 n.tree (QJ f.1 n.tree ((o.at'+11)/12)).1 (QJ f.1 n.tree ((o.at'+11)/12)).2.1 X:=⟨a1,a3,a4,a5⟩;split at hok
    ·grind
    ·rename_i h6
     rw[if_neg h6];exact Qto hd (Qmm (n:={n with tree:=(QJ f.1 n.tree ((o.at'+11)/12)).2.1,size:=(o.at':Int)}) a1 a3 (by rw[QlN];omega) hok)
theorem Qsq(h:Qcd f)(hf:f.2.2=false)(o:QbN):Qcd (Qbg f o).1:=by
 have hF:=(h hf).1;have hfb:=QdS f.1.st f.2.1 (Qy o.path);rw[show Qai f.1.st f.2.1 (Qy o.path)=QF f.1 f.2.1 o.path from rfl] at hfb;unfold Qbg;rcases hfb with hfb|⟨k,hk,hke⟩
 ·grind
 rw[hke,A0,if_neg (by omega)];have e1:Qk f k=(Qr f.1 f.2.1 k).1:=by unfold Qk;rw[QeT hF.tr hk]
 split
 ·exact h
 rename_i h1;have hk1:(Qr f.1 f.2.1 k).1.kind=1:=by rw[<-e1];exact A4.1 h1
 have hn2:(Qr f.1 f.2.1 k).2=true:=Qnj (by omega);split
 ·exact h
 rename_i h2;have hop:=Qib hF hk;rw[Qiz hn2,<-e1] at hop;have hT:=hF.nod k hk hn2;rw[<-e1] at hT;have hd:=fun hok=>fchg_in (f:=f) (n:=Qk f k) (o:=o) hT (X:=QA f.1.st f.2.1++QbA f.1 f.2.1 k) (hop.live.perm (by grind)) (by omega) hok
 generalize QbK f (Qk f k) o=y at*;obtain⟨w2,n2,ok2⟩:=y;refine(QoA (f:=(w2,f.2.1,!ok2)) hk (fun e=>?_) fun e _=>?_).1
 ·obtain⟨b1,b2,b3,b4⟩:=hd (by grind)
  exact(Ql2 (w':=w2) (E':=QA w2.st n2.tree) hop b3 (by grind) (b2.perm (by grind))).1
 ·exact(hd (by grind)).tr
def Qsv{s:Pm.Store}{n:Qi}(h:n.size=0):(Qf s n).1=[]:=by
 unfold Qf;split
 ·rename_i hc
  simp only[Bool.and_eq_true,decide_eq_true_eq] at hc;have h1:(QaT (Qc s n.tree)).1=[]:=List.eq_nil_iff_length_eq_zero.2 (by omega);rw[h1];rcases QoJ [] with h2|h2
  ·have h3:=h2.1.2
   cases hl:(QbZ []).1 with
   |nil=>rfl
   |cons e l=>rw[hl] at h3;simp[QB] at h3
  ·rw[h2]
 ·rfl
theorem fdrop_k(h:Qcd f)(hf:f.2.2=false)(path:List UInt8):Qcd (QbS f path).1:=by
 have hF:=(h hf).1;have hfb:=QdS f.1.st f.2.1 (Qy path);rw[show Qai f.1.st f.2.1 (Qy path)=QF f.1 f.2.1 path from rfl] at hfb;have hpf:=Qft (w:=f.1) hF.tr.good (path:=path);unfold QbS;rcases hfb with hfb|⟨k,hk,hke⟩
 ·grind
 rw[hke] at hpf⊢;rw[A0,if_neg (by omega)];split
 ·exact h
 rename_i h1;obtain⟨hne,hp2,a,ha,hpa,i,hi,hi2⟩:=hpf (by omega) (by omega);have hka:=Qfs hF ha hpa hp2;have e1:Qk f k=(Qr f.1 f.2.1 k).1:=by unfold Qk;rw[QeT hF.tr hk]
 have hsz:=(Qdl f.1.st f.2.1 k).2.1;rw[show(Q4 f.1.st f.2.1 k).1=Qk f k from rfl] at hsz
 have hak:a≠k:=fun e=>by
  subst e;have e2:(Q4 f.1.st f.2.1 a).1=Qk f a:=rfl;rw[e2,Qsv] at hi
  ·simp at hi
  grind
 have hw:Qam f path=QX f a ((Qf f.1.st (Qk f (QI f.1 f.2.1 path).1.toNat)).1.take (Qa8 (Qf f.1.st (Qk f (QI f.1 f.2.1 path).1.toNat)).1 (QH path)).toNat++(Qf f.1.st (Qk f (QI f.1 f.2.1 path).1.toNat)).1.drop ((Qa8 (Qf f.1.st (Qk f (QI f.1 f.2.1 path).1.toNat)).1 (QH path)).toNat+1)):=by
  unfold Qam;grind
 have hwk:=QfP (f:=f) (l:=(Qf f.1.st (Qk f (QI f.1 f.2.1 path).1.toNat)).1.take (Qa8 (Qf f.1.st (Qk f (QI f.1 f.2.1 path).1.toNat)).1 (QH path)).toNat++(Qf f.1.st (Qk f (QI f.1 f.2.1 path).1.toNat)).1.drop ((Qa8 (Qf f.1.st (Qk f (QI f.1 f.2.1 path).1.toNat)).1 (QH path)).toNat+1)) ha h fun _=>hka
 rw[<-hw] at hwk;generalize Qam f path=f2 at*;obtain⟨w1,w2⟩:=hwk;split
 ·rename_i hl
  have hn2:(Qr f.1 f.2.1 k).2=true:=by
   cases hn:(Qr f.1 f.2.1 k).2
   ·rw[e1,Qni hn] at hl;exact absurd hl (by decide)
   ·rfl
  exact(Qml hk w1 fun e=>by grind).1
 ·split
  ·exact w1
  ·rename_i hff
   have hff:f2.2.2=false:=by grind
   obtain⟨_,u1,u2,u3⟩:=w2 hff;have hF2:=(w1 hff).1;have hlen:=texts_len f2.1.st hF2.tr.good;intro hok;unfold QcI at hok⊢;have hm:Qas (Qc f2.1.st f2.2.1) k<=16:=Nat.le_trans (Qhp _ _) (by rw[hlen];have:=hF2.tr.good.manyHi;omega)
   have hpm:(QP f2.1.st (Qk f2 k).tree).Perm (Qbh f2.1.st (Qr f2.1 f2.2.1 k)):=by
    have e2:Qk f2 k=(Qr f2.1 f2.2.1 k).1:=by unfold Qk;rw[QeT hF2.tr hk]
    rw[e2];cases hn:(Qr f2.1 f2.2.1 k).2
    ·rw[Qni hn];unfold Qbh;rw[hn]
     rw[show QP f2.1.st Qd.tree=[] from QdZ f2.1.st _ Qdr];grind
    ·rw[Qiz hn];exact Qpf (hF2.nod k hk hn)
   obtain⟨d1,d2⟩:=Qty hF2 hk hpm hm (by grind);refine⟨d1,?_⟩;rw[d2];have:=QpP (l:=Qc f2.1.st f2.2.1) (but:=k) (k:=a) (by omega) hak (fun e=>by rw[Qou hF2 e] at u3;exact absurd u3 (by decide));omega
def Qbo(l:List Ql)(i:Nat):List Ql:=l.take i++l.drop (i+1)
abbrev Qba(f:Q7)(a:Nat):List Ql:=(Qf f.1.st (Qk f a)).1
def Qcf(f:Q7)(a b:Nat)(n1 n2:List UInt8)(id:Int):Q7:=
 if(b:Int)=a then QX f b (Qay (Qbo (Qba f a) (Qa8 (Qba f a) n1).toNat) (n2,id)) else
 QX (QX f a (Qbo (Qba f a) (Qa8 (Qba f a) n1).toNat)) b
  (Qay (Qba (QX f a (Qbo (Qba f a) (Qa8 (Qba f a) n1).toNat)) b) (n2,id))
def QbQ(f:Q7)(path pt:List UInt8):Q7×Int:=
 if QF f.1 f.2.1 path<0 then(f,2) else
 if QF f.1 f.2.1 path=0 then(f,5) else
 if 0<=QF f.1 f.2.1 pt then(f,3) else
 if Qc2 pt path then(f,5) else
 if 0<(QI f.1 f.2.1 pt).2 then(f,(QI f.1 f.2.1 pt).2) else
 if(QI f.1 f.2.1 pt).1≠(QI f.1 f.2.1 path).1/\12<=(Qba f (QI f.1 f.2.1 pt).1.toNat).length then(f,6) else
 (Qcf f (QI f.1 f.2.1 path).1.toNat (QI f.1 f.2.1 pt).1.toNat (QH path) (QH pt) (QF f.1 f.2.1 path),0)
theorem Qun(h:Qcd f)(ha:a<16)(hb:b<16)(hka:f.2.2=false->(Qr f.1 f.2.1 a).1.kind=2)(hkb:f.2.2=false->(Qr f.1 f.2.1 b).1.kind=2)(n1 n2:List UInt8)(id:Int):Qcd (Qcf f a b n1 n2 id):=by
 unfold Qcf;split
 ·exact(QfP hb h hkb).1
 ·rename_i hne
  have h1:=QfP (l:=Qbo (Qba f a) (Qa8 (Qba f a) n1).toNat) ha h hka;exact(QfP hb h1.1 fun e=>by grind).1
def fmove_k(h:Qcd f)(hf:f.2.2=false)(path pt:List UInt8):Qcd (QbQ f path pt).1:=by
 have hF:=(h hf).1;have hfb:=QdS f.1.st f.2.1 (Qy path);rw[show Qai f.1.st f.2.1 (Qy path)=QF f.1 f.2.1 path from rfl] at hfb;have hpf:=Qft (w:=f.1) hF.tr.good (path:=path);obtain⟨⟨b,hb,hbe⟩,hb2,_⟩:=QfQ f.1 f.2.1 pt;unfold QbQ;split
 ·exact h
 split
 ·exact h
 split
 ·exact h
 split
 ·exact h
 split
 ·exact h
 split
 ·exact h
 rename_i h1 h2 _ _ h3 _;obtain⟨hne,hp2,a,ha,hpa,i,hi,hi2⟩:=hpf (by omega) h2;rw[hpa,hbe,A0,A0];exact Qun h ha hb (fun _=>Qfs hF ha hpa hp2) (fun _=>Qfs hF hb hbe (by omega)) _ _ _
def Qbw(f:Q7)(o:QbN):Q7×Int:=
 if o.kind=1 then QbD f o.path 1 else if o.kind=2 then QbD f o.path 2 else if o.kind=5 then QbS f o.path else
 if o.kind=6 then QbR f o.path o.pto else if o.kind=7 then QbQ f o.path o.pto else Qbg f o
def fact_k(h:Qcd f)(hf:f.2.2=false)(o:QbN):Qcd (Qbw f o).1:=by
 unfold Qbw;split
 ·exact Qsg h hf _ _
 split
 ·exact Qsg h hf _ _
 split
 ·exact fdrop_k h hf _
 split
 ·exact flink_k h hf _ _
 split
 ·exact fmove_k h hf _ _
 ·exact Qsq h hf o
def Qc1(r:Q7×Int):Prop:=r.2=0/\r.1.2.2=false
def fdo_k(h:QbL w t)(hm:1<=t.many)(hr:Qc1 (Qbw (w,t,false) o)):QbL (Qbw (w,t,false) o).1.1 (Qbw (w,t,false) o).1.2.1/\1<=(Qbw (w,t,false) o).1.2.1.many:=
 fact_k (fun _=>⟨h,hm⟩) rfl o hr.2
abbrev zOp:List AV:=[.d (.v (.int .i64 0)),.d (.v (.string ⟨#[]⟩)),.d (.v (.string ⟨#[]⟩)),.d (.v (.int .i64 0)),.d (.v (.string ⟨#[]⟩))]
def QfI{rows:List (List D)}(h:RdOk rows)(p:Nat){n:Int}(hn:0<n): ∃v:Nat,QaM rows p n=v/\(v:Int)<n:=by
 obtain⟨h1,h2⟩:=pkv_b h p n;exact⟨(QaM rows p n).toNat,by omega,by omega⟩
attribute [local irreducible] ASeq ADraw AWP Loc AStep Fg.PlanF Fg.Flts EndR Fk.PlanF Fk.Flts Fk.AStepM Fk.Grew Fk.Gs
def eOpD(rows:List (List D))(hr:RdOk rows)(p:Nat)(hp:p<=700000):
 DoesE Tryz.prog 72 [.ptr 0 0 0] [rdR rows p] [.ptr 0 0 0] (fun x H=> ∃(k:Int) (path pt:List UInt8) (a:Int) (text:List UInt8) (p':Nat),path.length<=12/\pt.length<=12/\text.length<=1000000/\p'<=p+200/\x= .d (dOpI k path pt a text)/\H=[rdR rows p']):=by
 obtain⟨v,hv,hvl⟩:=QfI hr p (n:=12) (by decide);have c1:=ePick rows hr p (by omega) 12 (by decide);rw[hv] at c1;obtain⟨kd,hkd⟩: ∃kd,([1,1,2,2,3,3,3,4,5,6,7,7].map fun z=>[dI z])[(v:Int).toNat]? =some [dI kd]:=⟨_,QdM (f:=fun z=>[dI z]) _ 0 (n:=12) rfl (by omega)⟩;have c2:=ePath rows hr (p+1) (by omega);have b0:([]:List UInt8).length<=12:=by decide
 have b1:([]:List UInt8).length<=1000000:=by decide
 refine kH fun gvs=>?_
 repeat' first|refine kS ?_|(show AWP _ (.region 1 _ _) _ _;refine(Fk.awp_drawG (id:=1) [0,1,3,4,5,8] [2,6,9] [(8,.row 0 zOp)] [] 2 6 (.d (dI v)) ?_))|refine(Fk.aw_fltA 2 ?_)|refine(Fk.aw_fltL (ho:=rfl) (hk:=rfl) (hl:=fun H=>Qd8 Ty.h rfl Ty.h) (k:=?_))|refine(Fk.aw_fltL (ho:=rfl) (hk:=rfl) (hl:=fun H=>Qdc Ty.h rfl Ty.h rfl rfl rfl (by omega) hkd) (k:=?_))|refine(Fk.aw_planC0 (by rfl) (by kernel_rfl) rfl ?_)|refine Fk.aw_callM [0] c1 cK (k:=kY ?_)|(refine Fk.aw_callM [0] c2 cK (k:=?_);rintro _ _ ⟨s,hs,rfl,rfl⟩;refine Fk.aw_nrmM (k:=?_))|(refine aw_pk 0 hr (kk:=?_);intro v hv)|(refine QD [0] (ePath rows hr _ ?_) cK (k:=?_);omega;rintro _ _ ⟨s,hs,rfl,rfl⟩;refine QdF (k:=?_))|(refine QD [0] (eText rows hr _ ?_ 24 (by decide)) cK (k:=?_);omega;rintro _ _ ⟨s,p1,hs,hp1,rfl,rfl⟩;refine QdF (k:=?_))|(refine QD [] (eMany6 [117] (24+v) ?_ (by decide) ?_) cK (k:=?_);(simp only[List.length_cons,List.length_nil];omega);omega;rintro _ _ ⟨s,hs,rfl,rfl⟩;refine QdF (k:=?_))|refine qS (Qd8 Ty.h rfl Ty.h) ?_|refine qS (Qdc Ty.h rfl Ty.h rfl rfl rfl (by omega) (QdM (f:=fun z=>[dI z]) [0,1,5,12,13,24,40,100,180] 0 (n:=9) rfl (by omega))) ?_|refine qS (Qdc Ty.h rfl Ty.h rfl rfl rfl (by omega) (QdM (f:=fun z=>[dI z]) [0,1,5,12,13,25,60,192] 0 (n:=8) rfl (by omega))) ?_|refine qS (Qdc Ty.h rfl Ty.h rfl rfl rfl (by omega) (QdM (f:=fun z=>[dI z]) [0,8,-1,3] 0 (n:=4) rfl (by omega))) ?_|refine qS (Qdc Ty.h rfl Ty.h rfl rfl rfl (by omega) (QdM (f:=fun z=>[dI z]) [-1,193,192] 0 (n:=3) rfl (by omega))) ?_|refine kU ?_|refine kV ?_ ?_<;>intro q|fail
 all_goals first|refine Q3 1 (hx:=?_);exact⟨_,_,_,_,_,_,by omega,by omega,by omega,by omega,rfl,rfl⟩|refine Q3 1 (hx:=?_);exact⟨_,_,[],_,_,_,by omega,b0,by omega,by omega,rfl,rfl⟩|refine Q3 1 (hx:=?_);exact⟨_,_,_,_,[],_,by omega,by omega,b1,by omega,rfl,rfl⟩|refine Q3 1 (hx:=?_);exact⟨_,_,[],_,[],_,by omega,b0,b1,by omega,rfl,rfl⟩

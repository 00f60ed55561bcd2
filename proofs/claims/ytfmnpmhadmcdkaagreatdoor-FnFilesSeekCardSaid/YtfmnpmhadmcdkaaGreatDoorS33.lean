/- Of fsk_card; no condition. -/
import Derived.Test.YtfmnpmhadmcdkaaGreatDoorS31
import Derived.Test.YtfmnpmhadmcdkaaGreatDoorS32
import Derived.Shelf.SlSortCmp.NoneTotal
set_option linter.all false
set_option maxRecDepth 100000
set_option maxHeartbeats 16000000
open Bool renaming and_eq_true->A7,true_and->Al
open Classical renaming not_not->Aa
open Go renaming Value->AH,Calls->AI,World->AT,FuncId->Au
open Go.Lib renaming compareBytes->Af
open Go.Op renaming bytesLess->A9
open Go.Proofs.AnyF renaming slices_SortFunc_none->AJ
open Go.Proofs.Tryz renaming prog->A0,underlying92->Ab,underlying22->Ac,ntmps34->An,func34->Ar
open Go.RowKit renaming Below->AA,Hid->AQ
open Go.RowKit.Below renaming refl->Ak
open Go.Sort renaming alloc_eq_grow->AS,ahead->AY,grow->Ap
open Go.Value renaming cells->As
open Int renaming toNat_natCast->A3,eq_ofNat_of_zero_le->AN
open List renaming getElem?_eq_getElem->A2,getD_eq_getElem?_getD->A4,length_append->A5,length_map->A6,mem_singleton->A8,replicate->AB,length_replicate->AC,take_of_length_le->AD,mem_append_right->AE,range->AF,append_nil->AG,append_assoc->AK,getElem?_map->AL,not_mem_nil->AM,length_eq_zero_iff->AO,getElem?_toArray->AR,mem_of_getElem?->AU,mem_append_left->AW,mem_cons->AX,flatMap_cons->AZ,all_eq_true->Ad,getElem_mem->Ae,nil_append->Ag,range_succ->Ah,map_append->Ai,mem_range->Aj,map_cons->Am,map_map->Aq
open Nat renaming zero_add->AP,add_zero->Ao
open Option.some renaming inj->A1,injEq->Av
namespace Go.Proofs.YtfmnpmhadmcdkaaGreatDoor
noncomputable section
section
open Go.RowKit
namespace Aw
variable{t:Pl.Tree}{k b:Nat}{f:Q4}{X:List Pl.Ptr}{o:QbF}{x:D}{args:List D}
theorem QiY(s:Pm.Store)(l:List Pl.Ptr):l.flatMap (Qbc s 0)=Qr l:=by
 induction l with
 |nil=>rfl
 |cons p l ih=>
  grind [Qbc,Qr]
theorem QiZ(s:Pm.Store)(n:Nat)(p:Pl.Ptr):Qbc s (n+1) p=Qr [p]++(Qi s p (n+1:Nat)).1.flatMap (Qbc s n):=by
 cases hh:Pl.ptrHole p
 ·grind [Qbc,Qr]
 grind [QfQ,Qi,Qr,Qdj]
theorem Qoj{w:Pl.Sto}(h:Qbr w t):(Qan w.st t).Perm (Q7 w.st t):=by
 have hl:=h.lv;have hd:t.depth=0∨t.depth=1∨t.depth=2:=by rw[h.dep];grind [QfM]
 unfold Q7 Qan;rcases hd with hd|hd|hd
 ·rw[QfZ hd,leaves0 _ hd,hd,Ag]
  have:=QiY w.st [t.root]
  grind
 ·rw[leaves1 _ hd] at hl⊢
  split at hl
  ·simp_all[QeG,QiZ,QiY]
  grind
 ·rw[leaves2 _ hd] at hl⊢
  split at hl
  ·rename_i hb
   rw[if_pos hb];split at hl
   ·rename_i hb2
    rw[QeF hd,if_pos hb2,hd,show(2:Int).toNat=1+1 from rfl,QiZ,AK];refine List.Perm.append_left _ ?_;show((Qi w.st t.root 2).1.flatMap (Qbc w.st 1)).Perm (Qr (Qi w.st t.root 2).1++Qr ((Qi w.st t.root 2).1.flatMap fun p=>(Qi w.st p 1).1));generalize (Qi w.st t.root 2).1=B;clear hb hb2 hd;induction B with
    |nil=>exact .refl _
    |cons b B ih=>
     rw[AZ,AZ,Qeu,show b::B=[b]++B from rfl,Qeu,show Qbc w.st 1 b=_ from QiZ w.st 0 b,QiY]
     grind
   grind
  grind
theorem Qs5{w:Pl.Sto}(h:Qbr w t)(hh:Pl.ptrHole t.root=false):t.root∈Q7 w.st t:=by
 have hd:t.depth=0∨t.depth=1∨t.depth=2:=by rw[h.dep];grind [QfM]
 grind [Qr,Q7,leaves0,QeG,QeF]
theorem Tr_sub{w:Pl.Sto}{L:List Pl.Ptr}(h:Qbr w t)(hl:QU w L)(hs: ∀p∈Q7 w.st t,p∈L)(htx:0<=w.txg):Qce w.st t.depth.toNat t.root/\ ∀p∈Qan w.st t,Pl.ptrOk p=true:=by
 have key: ∀p∈Q7 w.st t,Pl.ptrOk p=true/\p.birth<=w.txg:=fun p hp=>⟨(QfL (hl.fit p (hs p hp))).1,hl.bir p (hs p hp)⟩
 refine⟨?_,fun p hp=>(key p ((Qoj h).mem_iff.1 hp)).1⟩;have hlv:=h.lv;have hz:=h.zero;have hm: ∀p∈(QI w.st t).1,Pl.ptrHole p=false->p∈Q7 w.st t:=fun p hp hh=>AE _ (QeA.2 ⟨hp,hh⟩)
 unfold QI at hlv hz hm;refine QpI w.st htx _ [t.root] hlv (fun p hp=>?_) (fun p hp=>?_) _ (A8.2 rfl)
 ·rw[A8.1 hp]
  refine⟨h.good.root,?_⟩;cases hh:Pl.ptrHole t.root
  ·exact(key _ (Qs5 h hh)).2
  ·rw[Qgw hh];exact htx
 ·cases hh:Pl.ptrHole p
  ·have:=key p (hm p hp hh)
   exact .inr ⟨this.1,(hz p hp).resolve_left (by grind),this.2⟩
  ·exact .inl hh
theorem Qms{w:Pl.Sto}(h:(Qn w t k).1.kind≠0):(Qn w t k).2=true:=by
 unfold Qn at h⊢;rcases QfV (Qf w.rows ((Qe w.st t).getD k Pl.hole)).1 with e|e
 ·exact e.2
 ·rw[e] at h;exact absurd rfl h
theorem Qmr{w:Pl.Sto}(h:(Qn w t k).2=false):(Qn w t k).1=Qd:=by grind [Qn,QfV]
theorem QhL{w:Pl.Sto}(h:(Qn w t k).2=true):Qbh w.st (Qn w t k)=Q7 w.st (Qn w t k).1.tree:=by unfold Qbh;grind
theorem Fs_x{w:Pl.Sto}(h:QbE w t)(htx:0<=w.txg)(k:Nat):
 Qce w.st (Q5 w.st t k).1.tree.depth.toNat (Q5 w.st t k).1.tree.root/\ ∀p∈Qan w.st (Q5 w.st t k).1.tree,Pl.ptrOk p=true:=by
 have hz:Qce w.st Qd.tree.depth.toNat Qd.tree.root/\ ∀p∈Qan w.st Qd.tree,Pl.ptrOk p=true:=by
  refine⟨.inl Qdj,fun p hp=>?_⟩
  grind [Qan,Qd,QfQ,Qdj]
 by_cases hk:k<16
 ·rw[QeB h.tr hk]
  cases hn:(Qn w t k).2
  ·grind [Qmr]
  ·refine Tr_sub (h.nod k hk hn) h.live (fun p hp=>AE _ ?_) htx
   grind [Qcb,QhL]
 ·have hm:=h.tr.good.manyHi
  unfold Q5
  grind
def QbV(f:Q4):Prop:=f.2.2=false->QbE f.1 f.2.1/\1<=f.2.1.many
def Fk_ok(h:QbV f):QcT f:=fun e=>(h e).1
theorem Qf1{id:Nat}{l:List Qq}(hid:id<16)(h:QbV f)(hn:f.2.2=false->(Qn f.1 f.2.1 id).1.kind=2):
 QbV (QW f id l)/\((QW f id l).2.2=false->f.2.2=false/\(id:Int)<(QW f id l).2.1.many/\(∀k,k≠id->Qn (QW f id l).1 (QW f id l).2.1 k=Qn f.1 f.2.1 k)/\(Qn (QW f id l).1 (QW f id l).2.1 id).1.kind=2):=by
 have key:=fun hok=>QqO (l:=l) hid (Fk_ok h) (fun e=>⟨Qms (by grind),hn e⟩) hok
 refine⟨fun hok=>?_,fun hok=>?_⟩
 ·grind
 grind
theorem QnE{id:Nat}{n:Qj}(hid:id<16)(h:f.2.2=false->QcN f.1 f.2.1 id (Q7 f.1.st n.tree))(hn:f.2.2=false->Q8 n=true->Qbr f.1 n.tree):
 QbV (Qaq f id n)/\((Qaq f id n).2.2=false->f.2.2=false/\ ∀k,k≠id->Qn (Qaq f id n).1 (Qaq f id n).2.1 k=Qn f.1 f.2.1 k):=by
 refine⟨fun hok=>?_,fun hok=>?_⟩
 ·grind [QmI]
 grind [QmI]
theorem Ql5{id:Nat}{n:Qj}(hid:id<16)(h:QbV f)(hn:f.2.2=false->(Qn f.1 f.2.1 id).2=true/\n.tree=(Qn f.1 f.2.1 id).1.tree):
 QbV (Qaq f id n)/\((Qaq f id n).2.2=false->f.2.2=false/\ ∀k,k≠id->Qn (Qaq f id n).1 (Qaq f id n).2.1 k=Qn f.1 f.2.1 k):=
 QnE hid (fun e=>by have:=Qhz (h e).1 hid;grind [QhL]) fun e _=>by rw[(hn e).2];exact(h e).1.nod id hid (hn e).1
theorem QeZ{w:Pl.Sto}{path:List UInt8}{a:Nat}(h:QbE w t)(ha:a<16)(h1:(QJ w t path).1=a)(h2:(QJ w t path).2=0):(Qn w t a).1.kind=2:=by
 rw[<-QeB h.tr ha]
 grind [QJ]
theorem Qj7{w:Pl.Sto}{path:List UInt8}{a:Nat}(h:QbE w t)(ha:a<16)(h1:(Qam w t path).1=a)(h2: ¬0<(Qam w t path).2):(Qn w t a).1.kind=2:=by
 have hb:=(Qf2 w t path).2.1
 grind [Qam,QeZ]
def Qnz{w:Pl.Sto}(h:QbE w t){id:Nat}(he:(Qc w.st t).getD id []=[]):Qn w t id=(Qd,false):=by
 unfold Qn
 by_cases hi:(id:Int)<=t.many -1
 ·have:=texts_get w.st h.tr.good hi
  rw[he] at this;rw[show(Qf w.rows ((Qe w.st t).getD id Pl.hole)).1=[] from this.symm,Qip]
 ·have:=h.tr.good.manyLo
  rw[h.tr.top id (by omega),Qfq,Qip]
theorem QqW(h:QbV f)(hf:f.2.2=false)(path:List UInt8)(kind:Int):QbV (QbA f path kind).1:=by
 obtain⟨⟨a,ha,hae⟩,h2,h3⟩:=Qgc f.1 f.2.1 path;have hF:=(h hf).1;unfold QbA;rw[hae,A3];split
 ·exact h
 rename_i h0;have hka:=Qj7 hF ha hae h0;cases hfr:QbN (Qc f.1.st f.2.1) with
 |none=>exact h
 |some id=>
  dsimp only;split
  ·exact h
  obtain⟨hid,hblank⟩:=Qi7 hfr;have hz:=Qnz hF hblank;have hne:a≠id:=fun e=>by rw[e,hz] at hka;exact absurd hka (by decide)
  have hp:=QnE (f:=f) (id:=id) (n:=⟨kind,1,0,⟨Pl.hole,0,0⟩⟩) hid (fun e=>by
   have:=Qhz (h e).1 hid;rw[hz] at this
   rw[(QfA f.1).2];exact this) fun _ _=>(QfA f.1).1
  grind [Qf1]
theorem flink_k(h:QbV f)(hf:f.2.2=false)(path pt:List UInt8):QbV (QbI f path pt).1:=by
 obtain⟨⟨a,ha,hae⟩,h2,h3⟩:=Qgc f.1 f.2.1 pt;have hF:=(h hf).1;have hfb:=QdF f.1.st f.2.1 (Qy path);rw[show Qaf f.1.st f.2.1 (Qy path)=QE f.1 f.2.1 path from rfl] at hfb;unfold QbI;rw[hae,A3];rcases hfb with hfb|⟨k,hk,hke⟩
 ·grind
 rw[hke,A3,if_neg (by omega)];have e1:Ql f k=(Qn f.1 f.2.1 k).1:=by unfold Ql;rw[QeB hF.tr hk]
 grind [Qj7,Ql5,Qms,Qf1]
theorem Ql6{w:Pl.Sto}{n:Qj}{text:List UInt8}{a:Nat}(hT:Qbr w n.tree)(h:QU w (Q7 w.st n.tree++X))(hl:a+(Qbe text a (b+1 -a)).length<=16)(hok:(Qa8 w n text a b).2.2=true):
 Qc5 w n.tree (Qa8 w n text a b).1 (Qa8 w n text a b).2.1.tree X:=(QjW _ a hT h hl hok).1
theorem Qlf(text:List UInt8)(a m:Nat):(Qbe text a m).length=m:=by simp[Qbe]
def Qsg{w w' w'':Pl.Sto}{t' t'':Pl.Tree}(h:Qc5 w t w' t' X)(h2:Qc5 w' t' w'' t'' X):Qc5 w t w'' t'' X:=
 ⟨h2.tr,h2.live,fun q hq=>(h2.keep q hq).trans (h.keep q hq),h2.txg.trans h.txg⟩
theorem fchg_in{n:Qj}(hT:Qbr f.1 n.tree)(h:QU f.1 (Q7 f.1.st n.tree++X))(hb:o.at'+o.text.length<=192)(hok:(QbD f n o).2.2=true):
 Qc5 f.1 n.tree (QbD f n o).1 (QbD f n o).2.1.tree X:=by
 unfold QbD at hok⊢;split at hok
 ·rename_i h3
  rw[if_pos h3];unfold Qby at hok⊢;split at hok
  ·rename_i h4;rw[if_pos h4];exact⟨hT,h,fun _ _=>rfl,rfl⟩
  grind [Ql6,Qlf]
 ·rename_i h3
  rw[if_neg h3];unfold Qbz at hok⊢;split at hok
  ·rename_i h4
   rw[if_pos h4];split at hok
   ·rename_i h5;rw[if_pos h5];exact⟨hT,h,fun _ _=>rfl,rfl⟩
   ·rename_i h5
    rw[if_neg h5];obtain⟨a1,_,a3,a4,a5,_⟩:=Qmd hT (show(o.at'+11)/12 -1<16 by omega) h hok;exact⟨a1,a3,a4,a5⟩
  ·rename_i h4
   rw[if_neg h4];split at hok
   ·cases hok
   ·rename_i h5
    rw[if_neg h5];obtain⟨a1,_,a3,a4,a5,_⟩:=Qr4 hT h (show(o.at'+11)/12<=16 by omega) (by grind);have hd:Qc5 f.1 n.tree (QM f.1 n.tree ((o.at'+11)/12)).1 (QM f.1 n.tree ((o.at'+11)/12)).2.1 X:=⟨a1,a3,a4,a5⟩;split at hok
    ·grind
    ·rename_i h6
     rw[if_neg h6];exact Qsg hd (Ql6 (n:={n with tree:=(QM f.1 n.tree ((o.at'+11)/12)).2.1,size:=(o.at':Int)}) a1 a3 (by rw[Qlf];omega) hok)
theorem Qrf(h:QbV f)(hf:f.2.2=false)(o:QbF):QbV (Qbb f o).1:=by
 have hF:=(h hf).1;have hfb:=QdF f.1.st f.2.1 (Qy o.path);rw[show Qaf f.1.st f.2.1 (Qy o.path)=QE f.1 f.2.1 o.path from rfl] at hfb;unfold Qbb;rcases hfb with hfb|⟨k,hk,hke⟩
 ·grind
 rw[hke,A3,if_neg (by omega)];have e1:Ql f k=(Qn f.1 f.2.1 k).1:=by unfold Ql;rw[QeB hF.tr hk]
 split
 ·exact h
 rename_i h1;have hk1:(Qn f.1 f.2.1 k).1.kind=1:=by rw[<-e1];exact Aa.1 h1
 have hn2:(Qn f.1 f.2.1 k).2=true:=Qms (by omega);split
 ·exact h
 rename_i h2;have hop:=Qhz hF hk;rw[QhL hn2,<-e1] at hop;have hT:=hF.nod k hk hn2;rw[<-e1] at hT;have hd:=fun hok=>fchg_in (f:=f) (n:=Ql f k) (o:=o) hT (X:=Q7 f.1.st f.2.1++Qb6 f.1 f.2.1 k) (hop.live.perm (by grind)) (by omega) hok
 generalize QbD f (Ql f k) o=y at*;obtain⟨w2,n2,ok2⟩:=y;refine(QnE (f:=(w2,f.2.1,!ok2)) hk (fun e=>?_) fun e _=>?_).1
 ·obtain⟨b1,b2,b3,b4⟩:=hd (by grind)
  exact(QkI (w':=w2) (E':=Q7 w2.st n2.tree) hop b3 (by grind) (b2.perm (by grind))).1
 ·exact(hd (by grind)).tr
theorem Qrl{s:Pm.Store}{n:Qj}(h:n.size=0):(Qg s n).1=[]:=by
 unfold Qg;split
 ·rename_i hc
  simp only[A7,decide_eq_true_eq] at hc;have h1:(QaL (Qc s n.tree)).1=[]:=List.eq_nil_iff_length_eq_zero.2 (by omega);rw[h1];rcases QnN [] with h2|h2
  ·have h3:=h2.1.2
   cases hl:(QbP []).1 with
   |nil=>rfl
   |cons e l=>grind [QG]
  ·rw[h2]
 ·rfl
theorem fdrop_k(h:QbV f)(hf:f.2.2=false)(path:List UInt8):QbV (QbJ f path).1:=by
 have hF:=(h hf).1;have hfb:=QdF f.1.st f.2.1 (Qy path);rw[show Qaf f.1.st f.2.1 (Qy path)=QE f.1 f.2.1 path from rfl] at hfb;have hpf:=Qfa (w:=f.1) hF.tr.good (path:=path);unfold QbJ;rcases hfb with hfb|⟨k,hk,hke⟩
 ·grind
 rw[hke] at hpf⊢;rw[A3,if_neg (by omega)];split
 ·exact h
 rename_i h1;obtain⟨hne,hp2,a,ha,hpa,i,hi,hi2⟩:=hpf (by omega) (by omega);have hka:=QeZ hF ha hpa hp2;have e1:Ql f k=(Qn f.1 f.2.1 k).1:=by unfold Ql;rw[QeB hF.tr hk]
 have hsz:=(Qde f.1.st f.2.1 k).2.1;rw[show(Q5 f.1.st f.2.1 k).1=Ql f k from rfl] at hsz
 have hak:a≠k:=fun e=>by
  grind [Ql,Qrl]
 have hw:Qah f path=QW f a ((Qg f.1.st (Ql f (QJ f.1 f.2.1 path).1.toNat)).1.take (Qa2 (Qg f.1.st (Ql f (QJ f.1 f.2.1 path).1.toNat)).1 (QK path)).toNat++(Qg f.1.st (Ql f (QJ f.1 f.2.1 path).1.toNat)).1.drop ((Qa2 (Qg f.1.st (Ql f (QJ f.1 f.2.1 path).1.toNat)).1 (QK path)).toNat+1)):=by
  unfold Qah;grind
 have hwk:=Qf1 (f:=f) (l:=(Qg f.1.st (Ql f (QJ f.1 f.2.1 path).1.toNat)).1.take (Qa2 (Qg f.1.st (Ql f (QJ f.1 f.2.1 path).1.toNat)).1 (QK path)).toNat++(Qg f.1.st (Ql f (QJ f.1 f.2.1 path).1.toNat)).1.drop ((Qa2 (Qg f.1.st (Ql f (QJ f.1 f.2.1 path).1.toNat)).1 (QK path)).toNat+1)) ha h fun _=>hka
 rw[<-hw] at hwk;generalize Qah f path=f2 at*;obtain⟨w1,w2⟩:=hwk;split
 ·rename_i hl
  have hn2:(Qn f.1 f.2.1 k).2=true:=by
   cases hn:(Qn f.1 f.2.1 k).2
   ·rw[e1,Qmr hn] at hl;exact absurd hl (by decide)
   ·rfl
  grind [Ql5]
 ·split
  ·exact w1
  ·rename_i hff
   have hff:f2.2.2=false:=by grind
   obtain⟨_,u1,u2,u3⟩:=w2 hff;have hF2:=(w1 hff).1;have hlen:=texts_len f2.1.st hF2.tr.good;intro hok;unfold QcA at hok⊢;have hm:Qal (Qc f2.1.st f2.2.1) k<=16:=Nat.le_trans (QgI _ _) (by rw[hlen];have:=hF2.tr.good.manyHi;omega)
   have hpm:(Qan f2.1.st (Ql f2 k).tree).Perm (Qbh f2.1.st (Qn f2.1 f2.2.1 k)):=by
    have e2:Ql f2 k=(Qn f2.1 f2.2.1 k).1:=by unfold Ql;rw[QeB hF2.tr hk]
    rw[e2];cases hn:(Qn f2.1 f2.2.1 k).2
    ·grind [Qmr,Qbh,Qan,Qd,QfQ,Qdj]
    ·rw[QhL hn];exact Qoj (hF2.nod k hk hn)
   obtain⟨d1,d2⟩:=Qss hF2 hk hpm hm (by grind);refine⟨d1,?_⟩;rw[d2];have:=QoJ (l:=Qc f2.1.st f2.2.1) (but:=k) (k:=a) (by omega) hak (fun e=>by rw[Qnz hF2 e] at u3;exact absurd u3 (by decide));omega
def Qbi(l:List Qq)(i:Nat):List Qq:=l.take i++l.drop (i+1)
abbrev QaS(f:Q4)(a:Nat):List Qq:=(Qg f.1.st (Ql f a)).1
def QbZ(f:Q4)(a b:Nat)(n1 n2:List UInt8)(id:Int):Q4:=
 if(b:Int)=a then QW f b (Qar (Qbi (QaS f a) (Qa2 (QaS f a) n1).toNat) (n2,id)) else
 QW (QW f a (Qbi (QaS f a) (Qa2 (QaS f a) n1).toNat)) b
  (Qar (QaS (QW f a (Qbi (QaS f a) (Qa2 (QaS f a) n1).toNat)) b) (n2,id))
def QbH(f:Q4)(path pt:List UInt8):Q4×Int:=
 if QE f.1 f.2.1 path<0 then(f,2) else
 if QE f.1 f.2.1 path=0 then(f,5) else
 if 0<=QE f.1 f.2.1 pt then(f,3) else
 if Qcw pt path then(f,5) else
 if 0<(QJ f.1 f.2.1 pt).2 then(f,(QJ f.1 f.2.1 pt).2) else
 if(QJ f.1 f.2.1 pt).1≠(QJ f.1 f.2.1 path).1/\12<=(QaS f (QJ f.1 f.2.1 pt).1.toNat).length then(f,6) else
 (QbZ f (QJ f.1 f.2.1 path).1.toNat (QJ f.1 f.2.1 pt).1.toNat (QK path) (QK pt) (QE f.1 f.2.1 path),0)
theorem Qtm(h:QbV f){a:Nat}(ha:a<16)(hb:b<16)(hka:f.2.2=false->(Qn f.1 f.2.1 a).1.kind=2)(hkb:f.2.2=false->(Qn f.1 f.2.1 b).1.kind=2)(n1 n2:List UInt8)(id:Int):QbV (QbZ f a b n1 n2 id):=by
 unfold QbZ;split
 ·exact(Qf1 hb h hkb).1
 ·rename_i hne
  have h1:=Qf1 (l:=Qbi (QaS f a) (Qa2 (QaS f a) n1).toNat) ha h hka;exact(Qf1 hb h1.1 fun e=>by grind).1
def fmove_k(h:QbV f)(hf:f.2.2=false)(path pt:List UInt8):QbV (QbH f path pt).1:=by
 have hF:=(h hf).1;have hfb:=QdF f.1.st f.2.1 (Qy path);rw[show Qaf f.1.st f.2.1 (Qy path)=QE f.1 f.2.1 path from rfl] at hfb;have hpf:=Qfa (w:=f.1) hF.tr.good (path:=path);obtain⟨⟨b,hb,hbe⟩,hb2,_⟩:=Qf2 f.1 f.2.1 pt;unfold QbH;split
 ·exact h
 split
 ·exact h
 split
 ·exact h
 split
 ·exact h
 split
 ·exact h
 split
 ·exact h
 rename_i h1 h2 _ _ h3 _;obtain⟨hne,hp2,a,ha,hpa,i,hi,hi2⟩:=hpf (by omega) h2;rw[hpa,hbe,A3,A3];exact Qtm h ha hb (fun _=>QeZ hF ha hpa hp2) (fun _=>QeZ hF hb hbe (by omega)) _ _ _
def Qbt(f:Q4)(o:QbF):Q4×Int:=
 if o.kind=1 then QbA f o.path 1 else if o.kind=2 then QbA f o.path 2 else if o.kind=5 then QbJ f o.path else
 if o.kind=6 then QbI f o.path o.pto else if o.kind=7 then QbH f o.path o.pto else Qbb f o
def fact_k(h:QbV f)(hf:f.2.2=false)(o:QbF):QbV (Qbt f o).1:=by
 unfold Qbt;split
 ·exact QqW h hf _ _
 split
 ·exact QqW h hf _ _
 split
 ·exact fdrop_k h hf _
 split
 ·exact flink_k h hf _ _
 split
 ·exact fmove_k h hf _ _
 ·exact Qrf h hf o
def Qct(r:Q4×Int):Prop:=r.2=0/\r.1.2.2=false
def fdo_k{w:Pl.Sto}(h:QbE w t)(hm:1<=t.many)(hr:Qct (Qbt (w,t,false) o)):QbE (Qbt (w,t,false) o).1.1 (Qbt (w,t,false) o).1.2.1/\1<=(Qbt (w,t,false) o).1.2.1.many:=
 fact_k (fun _=>⟨h,hm⟩) rfl o hr.2
theorem QtX{N:Nat}(h:f.1.W N){n:Qj}(ht:Qx n.tree)(ho:o.at'+o.text.length<=192):(QbD f n o).1.W (N+269):=by
 unfold QbD;split
 ·unfold Qby
  split
  ·exact h.le (by omega)
  ·rename_i h1
   have:=List.length_pos_iff.2 h1;exact(QhP h ht (by omega)).1.le (by omega)
 ·have hm:(o.at'+11)/12<=16:=by omega
  have h2:=cut_W h ht (many:=(o.at'+11)/12) hm;have h3:=QeV h ht (k:=(o.at'+11)/12 -1) (by omega) [];unfold Qbz;split
  ·split
   ·exact h.le (by omega)
   ·exact h3.1.le (by omega)
  ·split
   ·exact h2.1.le (by omega)
   ·split
    ·exact h2.1.le (by omega)
    grind [QhP]
attribute [local irreducible] ASeq ADraw AWP Loc AStep Fg.PlanF Fg.Flts EndR Fk.PlanF Fk.Flts Fk.AStepM Fk.Grew Fk.Gs
def QnQ(g:Nat)(f:Q4)(N:Nat)(hN:N<=500000)(hw:f.1.W N)(ht:Qx f.2.1)(o:QbF)(hp:o.path.length<=900)(ha:o.at'<=1000000)(htx:o.text.length<=1000000):
 DoesE A0 152 [.ptr 5 0 0,.d (dOp o)] (hF g f) (gF g f.1) (fun x H=>x= .d (dI (Qbb f o).2)/\H=hF (g+1) (Qbb f o).1):=by
 refine DoesE.tagF (C:=fun _=>True) ?_ Qdp;have c0:=aFind f.1 N hw f.2.1 ht f.2.2 o.path hp;have hd:=Pm.hid (Qbb.eq_def f o);have hfb:=QdF f.1.st f.2.1 (Qy o.path);rw[show Qaf f.1.st f.2.1 (Qy o.path)=QE f.1 f.2.1 o.path from rfl] at hfb;generalize Qbb f o=res at*;generalize QE f.1 f.2.1 o.path=i at*;rcases hfb with hfb|⟨k,hk,rfl⟩
 ·rw[if_pos hfb] at hd
  have hq:decide (i<0)=true:=decide_eq_true hfb;refine kH fun gvs=>?_
  refine Qa 6 (h:=?_)
  repeat' first|refine kS ?_|refine qS (QY (fs:=f) cK c0 hw) ?_|refine kU ?_|refine kV ?_ ?_<;>intro q|fail
  all_goals first|exact absurd (hq.symm.trans ‹decide (i<0)=false›) (by decide)|refine Q1 6 (hx:=?_);rw[hd.out];exact⟨g,trivial,rfl,rfl⟩
 rw[if_neg (by omega),A3] at hd;have hq0:decide ((k:Int)<0)=false:=decide_eq_false (by omega);have c4:=aNode f.1 N hw f.2.1 ht f.2.2 k;have hng:=Qde f.1.st f.2.1 k;have hnf:=Qqn f.1.st f.2.1 k;rw[show(Q5 f.1.st f.2.1 k).1=Ql f k from rfl] at c4 hng hnf;generalize Ql f k=n at*
 by_cases h1:n.kind≠1
 ·rw[if_pos h1] at hd
  have hq1:(n.kind !=1)=true:=bne_iff_ne.2 h1;refine kH fun gvs=>?_
  refine Qa 6 (h:=?_)
  repeat' first|refine kS ?_|refine qS (QY (fs:=f) cK c0 hw) ?_|refine qS (QY (fs:=f) cK c4 hw) ?_|refine kU ?_|refine kV ?_ ?_<;>intro q|fail
  all_goals first|exact absurd (hq0.symm.trans ‹decide ((k:Int)<0)=true›) (by decide)|exact absurd (hq1.symm.trans ‹(n.kind !=1)=false›) (by decide)|refine Q1 6 (hx:=?_);rw[hd.out];exact⟨g,trivial,rfl,rfl⟩
 rw[if_neg h1] at hd;have hk1:n.kind=1:=Aa.1 h1;have hq1:(n.kind !=1)=false:=by rw[hk1];rfl
 obtain⟨hns,hnm⟩:=hnf hk1
 by_cases h2:192<o.at'+o.text.length
 ·rw[if_pos h2] at hd
  have hq2:decide ((o.at':Int)+(o.text.length:Int)>192)=true:=decide_eq_true (by omega);refine kH fun gvs=>?_
  refine Qa 6 (h:=?_)
  repeat' first|refine kS ?_|refine qS (QY (fs:=f) cK c0 hw) ?_|refine qS (QY (fs:=f) cK c4 hw) ?_|refine kU ?_|refine kV ?_ ?_<;>intro q|fail
  all_goals first|exact absurd (hq0.symm.trans ‹decide ((k:Int)<0)=true›) (by decide)|exact absurd (hq1.symm.trans ‹(n.kind !=1)=true›) (by decide)|exact absurd (hq2.symm.trans ‹decide ((o.at':Int)+(o.text.length:Int)>192)=false›) (by decide)|refine Q1 6 (hx:=?_);rw[hd.out];exact⟨g,trivial,rfl,rfl⟩
 rw[if_neg h2] at hd;have hq2:decide ((o.at':Int)+(o.text.length:Int)>192)=false:=decide_eq_false (by omega);have hWc:=QtX (f:=f) hw (n:=n) hng.1 (o:=o) (by omega);have hfc:=Pm.hid (QbD.eq_def f n o);generalize QbD f n o=y at*;obtain⟨w2,n2,ok2⟩:=y;simp only at hWc hd;have cP:=ePutF (g+1) (w2,f.2.1,!ok2) (N+269) (by omega) hWc ht k hk n2 (QdR _);have hWp:=(QgL (f:=(w2,f.2.1,!ok2)) hWc ht hk n2).1;generalize Qaq (w2,f.2.1,!ok2) k n2=f3 at*;have v0:f3.1.rows.length=f.1.rows.length:=by rw[hWp.rows,hw.rows]
 have v1:f3.1.refs.length=f.1.refs.length:=by rw[hWp.refs,hw.refs]
 have v2:f3.1.last.length=f.1.last.length:=by rw[hWp.last,hw.last]
 clear hWp hWc
 by_cases h3:o.kind=3
 ·have hq3:(o.kind==3)=true:=by simpa using h3
  have c6:=Qtr g f.1 N (by omega) hw n hng.1 hng.2 o.at' o.text (by omega);rw[<-(show(w2,n2,ok2)=Qby f.1 n o.at' o.text by rw[hfc.out,if_pos h3])] at c6;simp only at c6;refine kH fun gvs=>?_
  refine Qa 6 (h:=?_)
  repeat' first|refine kS ?_|refine qS (QY (fs:=f) cK c0 hw) ?_|refine qS (QY (fs:=f) cK c4 hw) ?_|(show AWP _ (.region 11 _ _) _ _;refine(Fk.awp_drawG (id:=11) [0,11,13,14] [10,17,18] [] [] 10 41 (.tup [oS (g+1) w2,.d (dNode n2),.d (dB ok2)]) ?_))|refine(Fk.aw_planC0 (by rfl) (by kernel_rfl) rfl ?_)|refine Fk.aw_callM [0,1,2,3,4] c6 cK (k:=kY ?_)|refine Qdg [0,1,2,3,4,5] cP cK (k:=kX ?_)|refine kU ?_|refine kV ?_ ?_<;>intro q|fail
  all_goals first|exact absurd (hq0.symm.trans ‹decide ((k:Int)<0)=true›) (by decide)|exact absurd (hq1.symm.trans ‹(n.kind !=1)=true›) (by decide)|exact absurd (hq2.symm.trans ‹decide ((o.at':Int)+(o.text.length:Int)>192)=true›) (by decide)|exact absurd (hq3.symm.trans ‹(o.kind==3)=false›) (by decide)|refine Q1 6 (hx:=?_);rw[hd.out];exact⟨_,trivial,rfl,rfl⟩
 have hq3:(o.kind==3)=false:=by simpa using h3
 have c6:=eCut13 g f.1 N (by omega) hw n hng.1 hns hnm o.at' (by omega);rw[<-(show(w2,n2,ok2)=Qbz f.1 n o.at' by rw[hfc.out,if_neg h3])] at c6;simp only at c6;refine kH fun gvs=>?_
 refine Qa 6 (h:=?_)
 repeat' first|refine kS ?_|refine qS (QY (fs:=f) cK c0 hw) ?_|refine qS (QY (fs:=f) cK c4 hw) ?_|(show AWP _ (.region 12 _ _) _ _;refine(Fk.awp_drawG (id:=12) [0,9,11,12] [8,15,16] [] [] 8 56 (.tup [oS (g+1) w2,.d (dNode n2),.d (dB ok2)]) ?_))|refine(Fk.aw_planC0 (by rfl) (by kernel_rfl) rfl ?_)|refine Fk.aw_callM [0,1,2,3,4] c6 cK (k:=kY ?_)|refine Qdg [0,1,2,3,4,5] cP cK (k:=kX ?_)|refine kU ?_|refine kV ?_ ?_<;>intro q|fail
 all_goals first|exact absurd (hq0.symm.trans ‹decide ((k:Int)<0)=true›) (by decide)|exact absurd (hq1.symm.trans ‹(n.kind !=1)=true›) (by decide)|exact absurd (hq2.symm.trans ‹decide ((o.at':Int)+(o.text.length:Int)>192)=true›) (by decide)|exact absurd (hq3.symm.trans ‹(o.kind==3)=true›) (by decide)|refine Q1 6 (hx:=?_);rw[hd.out];exact⟨_,trivial,rfl,rfl⟩
attribute [local irreducible] mget mset
def Qca(names:List (List UInt8)):D:=if names=[] then .v (.slice none 0 0) else tStrs names
def Qlc{P:Program}{f:Au}{c:Bool}{n:Nat}(h:Pure P f [.sl c n []] x):Pure P f [.v (.slice none 0 0)] x:=by
 intro B σ S H w cargs hB hS hl hr;refine h B σ S H w cargs hB hS hl fun i d v hd hv=>?_
 match i,hd with
 |0,hd=>
  obtain rfl:=A1 hd;have:=hr 0 _ v rfl hv;cases this;exact .slnil _ _ _ _
def QcB(s:Pm.Store):Prop:= ∀n,Q8 n=true->n.kind=1->Pure A0 34 [.pd (rSt s),dNode n] (.tup [.any,dB (QO s n)])
def Qc4(s:Pm.Store)(t:Pl.Tree):D:=if Qaa s then QbT s t else .tup [.v (.pointer none),dB false]
def Qob(s:Pm.Store)(t:Pl.Tree)(cS:Pure A0 33 [dSt s] (dB (Qaa s)))(hg:Qaa s=true->QP s/\0<=s.2.2.1)(hT:Qaa s=true->QcB s):
 Pure A0 28 [dSt s,dTree t] (Qc4 s t):=by
 unfold Qc4;cases h:Qaa s
 ·rw[h] at cS
  rw[if_neg (by simp)];refine kE ?_;refine Qa 0 (h:=?_);refine Qa 1 (h:=?_)
  repeat refine kA ?_
  exact Qb (hx:=rfl)
 ·rw[h] at cS
  rw[if_pos rfl];have c:=Qpi s (hg h).1 (hg h).2 t (hT h);obtain⟨a,b,hab⟩: ∃a b,QbT s t= .tup [a,b]:=by unfold QbT;split<;>exact⟨_,_,rfl⟩
  rw[hab] at c⊢;clear hab hg hT;refine kE ?_;refine Qa 0 (h:=?_);refine Qa 1 (h:=?_)
  repeat refine kA ?_
  exact Qb (hx:=rfl)
theorem QhD(s:Pm.Store)(t:Pl.Tree):(Qcx s t&&Qcp s (Qc s t))=Qae s t:=by
 rw[Bool.eq_iff_iff,QeI];have hnl:(Qk s t).length=(Qc s t).length:=by unfold Qk;grind
 rw[A7];unfold Qcx Qcp Qcj QcG;rw[A7,A7,decide_eq_true_eq,Ad]
 have hk2: ∀k,Qs (Qk s t) k=2↔((Qk s t).getD k Qd).kind=2:=fun k=>by
  grind [Qs]
 have hk1: ∀k,Qs (Qk s t) k=1↔((Qk s t).getD k Qd).kind=1:=fun k=>by
  grind [Qs]
 show((Qat s t=true/\Qs (Qk s t) 0=2)/\ ∀k∈AF (Qc s t).length,Qaj s (Qc s t) k=true)/\_↔_;rw[<-hnl];constructor
 ·rintro⟨⟨⟨h1,h2⟩,h3⟩,h4⟩
  have hG: ∀k,Qs (Qk s t) k≠0->Qaj s (Qc s t) k=true:=fun k hk=>h3 k (Aj.2 (QdO hk))
  refine⟨h1,(hk2 0).1 h2,fun k hk=>?_,fun k hk=>?_,?_⟩
  ·have h:=hG k (by grind)
   have e:Qs (Qu (Qc s t)) k=1:=(hk1 k).2 hk;unfold Qaj at h;rw[e] at h;show QO s ((Qu (Qc s t)).getD k Qd)=true
   grind
  ·have h:=hG k (by grind)
   have e:Qs (Qu (Qc s t)) k=2:=(hk2 k).2 hk;unfold Qaj at h;rw[e] at h;show(Qg s ((Qu (Qc s t)).getD k Qd)).2=true
   grind
  grind [Qk,QdO]
 ·rintro⟨h1,h2,h3,h4,nm,h5,h6⟩
  grind [Qaj,Qfy,nsOk,Qs,Qk]
theorem Qo2{S:Nat->Prop}{w:AT}{b:Bool}{l:List Pl.Ptr}{v:AH}(h:RelD S w (.sl b 5 (l.map rPtr)) v)(hS: ∀b,S b->b<w.heap.size)(hx: ∀x∈l,Pm.PtrIn x):
 ∃A c,v= .slice A l.length c/\Pm.At w w.heap.size A l:=by
 generalize hr:l.map rPtr=rows at h;cases h with
 |slnil a cap=>
  have:l=[]:=by simp_all
  subst this;exact⟨_,_,rfl,fun h=>absurd h (by simp)⟩
 |sl _ _ _ bb o cap g hb hn hcap hc hrr=>
  subst hr;refine⟨_,_,by rw[A6],fun _=>⟨bb,o,rfl,hS bb hb,fun i x hi=>⟨Pm.ptrL x,⟨rfl,hx x (AU hi)⟩,fun j v hj=>?_⟩⟩⟩;have h1:(l.map rPtr)[i]? =some (rPtr x):=by grind
  have key: ∀(j:Nat) u,(rPtr x)[j]? =some (.v u)->w.cell? ⟨bb,o+i*5+j,none⟩=some u:=fun j u hu=>by
   have h2:=hc i j _ _ h1 hu;have h3:=hrr i j _ _ h1 hu;generalize g i j=y at*;cases h3;exact h2
  match j,hj with
  |0,hj=>obtain rfl:=A1 hj;exact key 0 _ rfl
  |1,hj=>obtain rfl:=A1 hj;exact key 1 _ rfl
  |2,hj=>obtain rfl:=A1 hj;exact key 2 _ rfl
  |3,hj=>obtain rfl:=A1 hj;exact key 3 _ rfl
  |4,hj=>obtain rfl:=A1 hj;exact key 4 _ rfl
structure AtW(B:Bs)(σ:Sg)(S:Nat->Prop)(H:List Blk)(w:AT)(s:Pm.Store)(a:AH):Prop where
 gd:Gd B
 sm:Sm B σ S H w
 st:RelD S w (.pd (rSt s)) a
theorem AtW.call{B:Bs}{σ:Sg}{S:Nat->Prop}{H:List Blk}{w wk:AT}{s:Pm.Store}{a:AH}(h:AtW B σ S H w s a)(hb:AA w.heap.size w wk){f:Au}(vs:List AH)(hp:Pure A0 f (.pd (rSt s)::args) x)(ha:args=vs.map D.ofV):
 AI A0 f (a::vs).toArray wk fun e w'=> ∃v,e= .returned v/\AA wk.heap.size wk w'/\RelD (fun b=>b<w'.heap.size) w' x v:=by
 have hs:=h.sm.below hb;subst ha;refine(hp B σ _ H wk (a::vs) h.gd hs.1 (by simp) fun i d v hd hv=>?_).mono fun e w' ⟨v,h1,h2,h3⟩=>⟨v,h1,h2,h3.mono (fun b hb=>?_) fun _ _=>rfl⟩
 ·match i,hd,hv with
  |0,hd,hv=>
   obtain rfl:=A1 hd;obtain rfl:=A1 hv;exact h.st.mono (fun b hb=> .inl hb) fun b hb'=>hb.block b ((h.sm.sUp b hb').1)
  |i+1,hd,hv=>
   grind [D.ofV_rel]
 ·have:=h2.size
  rcases hb with hb|hb
  ·have:=(hs.1.sUp b hb).1;omega
  omega
theorem AtW.call0{B:Bs}{σ:Sg}{S:Nat->Prop}{H:List Blk}{w wk:AT}{s:Pm.Store}{a:AH}(h:AtW B σ S H w s a)(hb:AA w.heap.size w wk){f:Au}(vs:List AH)(hp:Pure A0 f args x)(ha:args=vs.map D.ofV):
 AI A0 f vs.toArray wk fun e w'=> ∃v,e= .returned v/\AA wk.heap.size wk w'/\RelD (fun b=>b<w'.heap.size) w' x v:=by
 have hs:=h.sm.below hb;subst ha;refine(hp B σ _ H wk vs h.gd hs.1 (by simp) fun i d v hd hv=>?_).mono fun e w' ⟨v,h1,h2,h3⟩=>⟨v,h1,h2,h3.mono (fun b hb=>?_) fun _ _=>rfl⟩
 ·grind [D.ofV_rel]
 ·have:=h2.size
  rcases hb with hb|hb
  ·have:=(hs.1.sUp b hb).1;omega
  ·exact hb.2
theorem rel_v{S:Nat->Prop}{w:AT}{x v:AH}(h:RelD S w (.v x) v):v=x:=by cases h;rfl
theorem QjY{S:Nat->Prop}{w:AT}{y:D}{v:AH}(h:RelD S w (.tup [x,y]) v): ∃a b,v= .tuple #[a,b]/\RelD S w x a/\RelD S w y b:=by
 cases h with
 |tup _ cs hl h=>
  match cs,hl with
  |[a,b],_=>exact⟨a,b,rfl,h 0 _ _ rfl rfl,h 1 _ _ rfl rfl⟩
variable{B:Bs}{σ:Sg}{S:Nat->Prop}{H:List Blk}{w wk:AT}{s:Pm.Store}{a:AH}
def nodeV(n:Qj):AH:= .agg #[.int .i64 n.kind,.int .i64 n.links,.int .i64 n.size,.int .i64 n.tree.root.pat,.int .i64 n.tree.root.birth,.int .i64 n.tree.root.size,.int .i64 n.tree.root.sum,.int .i64 n.tree.root.level,.int .i64 n.tree.depth,.int .i64 n.tree.many]
def cNodeOk(h:AtW B σ S H w s a)(hb:AA w.heap.size w wk)(n:Qj):AI A0 63 #[nodeV n] wk fun e w'=>e= .returned (.bool (Q8 n))/\AA wk.heap.size wk w':=
 (h.call0 hb [nodeV n] (bNodeOk n) rfl).mono fun _ _ ⟨_,h1,h2,h3⟩=>⟨by rw[h1,rel_v h3],h2⟩
theorem cLeaves(h:AtW B σ S H w s a)(hb:AA w.heap.size w wk)(hg:QP s)(htx:0<=s.2.2.1)(t:Pl.Tree)(hin: ∀p∈(QD s t).1,Pm.PtrIn p):AI A0 64 #[a,.agg (Pm.treeL t).toArray] wk fun e w'=>
 ∃A c,e= .returned (.tuple #[.slice A (QD s t).1.length c,.bool (QD s t).2])/\AA wk.heap.size wk w'/\Pm.At w' w'.heap.size A (QD s t).1:=
 (h.call hb [.agg (Pm.treeL t).toArray] (bLeaves s hg htx t) rfl).mono fun _ _ ⟨_,h1,h2,h3⟩=>by
   obtain⟨x,y,rfl,hx,hy⟩:=QjY h3;obtain⟨A,c,rfl,hA⟩:=Qo2 hx (fun _ hb=>hb) hin
   grind [rel_v]
theorem cRead(h:AtW B σ S H w s a)(hb:AA w.heap.size w wk)(hg:QP s)(p:Pl.Ptr)(hp:Pl.ptrHole p=false->Pl.ptrOk p=true):AI A0 65 #[a,.agg (Pm.ptrL p).toArray] wk fun e w'=>
 e= .returned (.tuple #[.string ⟨(Qf s.1 p).1.toArray⟩,.bool (Qf s.1 p).2])/\AA wk.heap.size wk w':=
 (h.call hb [.agg (Pm.ptrL p).toArray] (bRead s hg p hp) rfl).mono fun _ _ ⟨_,h1,h2,h3⟩=>by
   grind [QjY,rel_v]
def QjD(h:AtW B σ S H w s a)(hb:AA w.heap.size w wk)(size:Int)(k:Nat)(h0:0<=size)(h1:size<=2048)(hk:k<=100):AI A0 67 #[.int .i64 size,.int .i64 k] wk fun e w'=>e= .returned (.int .i64 (Qa7 size k))/\AA wk.heap.size wk w':=
 (h.call0 hb [.int .i64 size,.int .i64 k] (Qpj size k h0 h1 hk) rfl).mono fun _ _ ⟨_,h1,h2,h3⟩=>⟨by rw[h1,rel_v h3],h2⟩
theorem QjE(h:AtW B σ S H w s a)(hb:AA w.heap.size w wk)(x:List UInt8)(n:Int)(hx:x.length<=1000000):AI A0 66 #[.string ⟨x.toArray⟩,.int .i64 n] wk fun e w'=>
 e= .returned (.tuple #[.string ⟨(Qa1 x n).1.toArray⟩,.bool (Qa1 x n).2])/\AA wk.heap.size wk w':=
 (h.call0 hb [.string ⟨x.toArray⟩,.int .i64 n] (Qpk x n hx) rfl).mono fun _ _ ⟨_,h1,h2,h3⟩=>by
   grind [QjY,rel_v]
def QjF(x p:List UInt8)(hx:x.length<=1000000)(wk:AT):AI A0 68 #[.string ⟨x.toArray⟩,.string ⟨p.toArray⟩] wk fun e w'=>e= .returned (.bool (p.isSuffixOf x))/\AA wk.heap.size wk w':=
 (Tryz.strings_HasSuffix ⟨x.toArray⟩ ⟨p.toArray⟩ wk (by rw[Pm.QhF];omega)).mono fun e w' h=>⟨h.1,h.2▸Ak _ _⟩
end Aw
end
section
open Go.RowKit
namespace Aw
open Pm
theorem bText(s:Pm.Store)(hg:QP s)(htx:0<=s.2.2.1)(hin: ∀t,∀p∈(QD s t).1,Pm.PtrIn p):QcB s:=by
 intro n hno hk B σ S H w cargs hB hS hl hr
 match cargs,hl with
 |[a,b],_=>
 have h0:=hr 0 _ a rfl rfl;have h1:=hr 1 _ b rfl rfl
 obtain rfl:b=nodeV n:=by
  have:=Qfk (l:=[dNode n]) (vs:=[nodeV n]) (cs:=[b]) rfl rfl (fun i d v hd hv=>hr (i+1) d v hd hv);simpa using this
 have HW:=hid (AtW.mk hB hS h0);have HL:=hid (hB.ltOf hS);clear hr h1 hB hS
 suffices h:AI A0 34 #[a,nodeV n] w fun e w'=>(∃txt,e= .returned (.tuple #[.string txt,.bool (QO s n)]))/\AA w.heap.size w w' by
  refine h.mono ?_;rintro e w' ⟨⟨txt,rfl⟩,hb⟩;refine⟨_,rfl,hb,.tup _ _ rfl fun i d v hd hv=>?_⟩
  match i,hd,hv with
  |0,hd,hv=>obtain rfl:=A1 hd;exact .any _
  |1,hd,hv=>obtain rfl:=A1 hd;obtain rfl:=A1 hv;exact .v _
 obtain⟨ad,rfl⟩: ∃ad,a= .pointer ad:=by cases h0;exact⟨_,rfl⟩
 clear h0;have Hnn:=hid hno;have Hf:=hid (Qf3 (s:=s) hno hk);obtain⟨kd,links,size,⟨⟨p1,p2,p3,p4,p5⟩,depth,many⟩⟩:=n;simp only at hk;subst hk
 have Hok1:AQ (∀wk,AA w.heap.size w wk->AI A0 63 #[.agg #[.int .i64 1,.int .i64 links,.int .i64 size,.int .i64 p1,.int .i64 p2,.int .i64 p3,.int .i64 p4,.int .i64 p5,.int .i64 depth,.int .i64 many]] wk fun e w'=>e= .returned (.bool true)/\AA wk.heap.size wk w'):=
  hid fun wk hb=>(cNodeOk HW.out hb ⟨1,links,size,⟨⟨p1,p2,p3,p4,p5⟩,depth,many⟩⟩).mono fun e w' h=>⟨by rw[h.1,Hnn.out],h.2⟩
 have Hlv:AQ (∀wk,AA w.heap.size w wk->AI A0 64 #[.pointer ad,.agg #[.int .i64 p1,.int .i64 p2,.int .i64 p3,.int .i64 p4,.int .i64 p5,.int .i64 depth,.int .i64 many]] wk fun e w'=>
  ∃A c,e= .returned (.tuple #[.slice A (QD s ⟨⟨p1,p2,p3,p4,p5⟩,depth,many⟩).1.length c,.bool (QD s ⟨⟨p1,p2,p3,p4,p5⟩,depth,many⟩).2])/\AA wk.heap.size wk w'/\Pm.At w' w'.heap.size A (QD s ⟨⟨p1,p2,p3,p4,p5⟩,depth,many⟩).1):=
  hid fun wk hb=>cLeaves HW.out hb hg htx ⟨⟨p1,p2,p3,p4,p5⟩,depth,many⟩ (hin _)
 clear Hnn;unfold nodeV
 go_enter Ar,An
 go_wp2_with fail
 refine(Hok1.out _ (bnew _ _)).mono ?_;rintro e w1 ⟨rfl,hb1⟩
 have Hbx:AQ (∀(j:Nat) v,([.int .i64 1,.int .i64 links,.int .i64 size,.int .i64 p1,.int .i64 p2,.int .i64 p3,.int .i64 p4,.int .i64 p5,.int .i64 depth,.int .i64 many]:List AH)[j]? =some v->w1.cell? ⟨w.heap.size,j,none⟩=some v):=hid fun j v hv=>by
  rw[hb1.cell (by simp)];rw[cell_of_row _ _ j _ _ _ (QdP _ _)];exact(AR ..).trans hv
 have Hb1:=hid (btr (bnew w _) hb1);have Hsz:AQ (w.heap.size<w1.heap.size):=hid (by have:=hb1.size;simp at this;omega);clear hb1;have x0:=Hbx.out 0 _ rfl;have x3:=Hbx.out 3 _ rfl;have x4:=Hbx.out 4 _ rfl;have x5:=Hbx.out 5 _ rfl;have x6:=Hbx.out 6 _ rfl;have x7:=Hbx.out 7 _ rfl;have x8:=Hbx.out 8 _ rfl;have x9:=Hbx.out 9 _ rfl
 go_wp2_with fail
 refine(Hlv.out _ Hb1.out).mono ?_;rintro e w2 ⟨A,c,rfl,hb2,hA⟩;have Hb2:=hid (btr Hb1.out hb2);have HA2:=hid hA;have y2:=(hb2.cell (p:=⟨w.heap.size,2,none⟩) Hsz.out).trans (Hbx.out 2 _ rfl);have Hsz2:AQ (w.heap.size<w2.heap.size):=hid (by have:=hb2.size;have:=Hsz.out;omega);clear x0 x3 x4 x5 x6 x7 x8 x9 Hbx Hsz Hb1 hA hb2 Hlv Hok1;cases ht:(QH s ⟨⟨p1,p2,p3,p4,p5⟩,depth,many⟩)
 ·have hlv:QD s ⟨⟨p1,p2,p3,p4,p5⟩,depth,many⟩=([],false):=by unfold QD;rw[ht];rfl
  have hfl:AQ (QO s ⟨1,links,size,⟨⟨p1,p2,p3,p4,p5⟩,depth,many⟩⟩=false):=hid (by rw[Hf.out,ht];rfl);clear Hf;rw[hlv]
  go_wp2
  go_ret2
  exact⟨⟨⟨#[]⟩,by rw[hfl.out];rfl⟩,Hb2.out⟩
 have hl2:(QD s ⟨⟨p1,p2,p3,p4,p5⟩,depth,many⟩).2=true:=by unfold QD;rw[if_pos ht]
 rw[ht] at Hf;have Hho:=hid (Qer ht);have Hll:=hid (Qd9 ht);rw[hl2];clear hl2 ht;simp only at Hf Hll;generalize (QD s ⟨⟨p1,p2,p3,p4,p5⟩,depth,many⟩).1=ps at HA2 Hho Hll Hf⊢;obtain⟨fo,hfo⟩: ∃fo,AQ (QO s ⟨1,links,size,⟨⟨p1,p2,p3,p4,p5⟩,depth,many⟩⟩=fo):=⟨_,hid rfl⟩;rw[hfo.out] at Hf
 go_wp2_with fail
 go_loopw [34] (fun iv wr=> ∃(k:Nat) (txt:List UInt8),k<=ps.length/\iv= .int .i64 k/\AQ (Bld w2.heap.size txt wr)/\txt.length<=12*k/\AQ ((AF k).all (fun k=>Qaz size k ((ps.map fun p=>(Qf s.1 p).1).getD k []))=true)/\AQ (AA w2.heap.size w2 wr)) (fun iv _=>ps.length -(intOf iv).toNat)
 case atStart=>exact⟨0,[],by omega,rfl,hid (bldNew w2),by simp,hid rfl,hid (bnew _ _)⟩
 case round=>
  obtain⟨k,txt,hkl,rfl,HB,htl,HP,Hbel⟩:=hrel
  by_cases hlt:k<ps.length
  ·have hltI:(k:Int)<ps.length:=by omega
   obtain⟨bb,off,cs,rfl,hbb,hc,hv⟩:=(HA2.out.up Hbel.out).elem hlt;obtain⟨p,He⟩: ∃p,AQ (p=ps[k]):=⟨ps[k],hid rfl⟩;rw[<-He.out] at hc;obtain⟨rfl,hpin⟩:=hc;have Hpk:=hid ((Hho.out p (by rw[He.out];exact Ae hlt)).1)
   have Hx:AQ ((ps.map fun p=>(Qf s.1 p).1).getD k []=(Qf s.1 p).1):=hid (by
    rw[A4,AL,A2 hlt,<-He.out];rfl)
   have Hrl:=hid (Qh4 s hg p);obtain⟨q1,q2,q3,q4,q5⟩:=p;have e0:=hv 0 _ rfl;have e1:=hv 1 _ rfl;have e2:=hv 2 _ rfl;have e3:=hv 3 _ rfl;have e4:=hv 4 _ rfl;simp only[Rep.size,Ao] at e0 e1 e2 e3 e4;clear hv hbb hpin He
   go_wp2_with fail
   refine(cRead HW.out (btr (btr Hb2.out Hbel.out) (bnew _ _)) hg ⟨q1,q2,q3,q4,q5⟩ (fun _=>Hpk.out)).mono ?_;rintro e w3 ⟨rfl,hb3⟩;have Hb3:=hid (btr Hbel.out (btr (bnew _ _) hb3));have HB3:=hid (HB.out.below (btr (bnew _ _) hb3));have z2:=(Hb3.out.cell (p:=⟨w.heap.size,2,none⟩) Hsz2.out).trans y2;have Hfp:=QeJ hno rfl (k:=k) (by have:=Hll.out.1;simp only;omega);simp only at Hfp;have hT:AQ (Qaz size k (Qf s.1 ⟨q1,q2,q3,q4,q5⟩).1=true->(AF (k+1)).all (fun k=>Qaz size k ((ps.map fun p=>(Qf s.1 p).1).getD k []))=true):=hid fun h=>Pl.Qdd (p:=fun k=>Qaz size k ((ps.map fun p=>(Qf s.1 p).1).getD k [])) HP.out (by rw[Hx.out];exact h)
   have hF:AQ (Qaz size k (Qf s.1 ⟨q1,q2,q3,q4,q5⟩).1=false->fo=false):=hid fun h=>by
    rw[Hf.out,Al];exact Pl.Qda (p:=fun k=>Qaz size k ((ps.map fun p=>(Qf s.1 p).1).getD k [])) hlt (by rw[Hx.out];exact h)
   clear hb3 e0 e1 e2 e3 e4 Hx HB y2;generalize (Qf s.1 ⟨q1,q2,q3,q4,q5⟩).2=rok at*;generalize (Qf s.1 ⟨q1,q2,q3,q4,q5⟩).1=x at*
   go_wp2_with fail
   refine(QjD HW.out (btr Hb2.out Hb3.out) size k (by omega) (by omega) (by have:=Hll.out;omega)).mono ?_;rintro e w4 ⟨rfl,hb4⟩;have Hb4:=hid (btr Hb3.out hb4);have HB4:=hid (HB3.out.below hb4);clear hb4 HB3 z2
   go_wp2_with fail
   refine(QjE HW.out (btr Hb2.out Hb4.out) x (Qa7 size k) (by have:=Hrl.out;omega)).mono ?_;rintro e w5 ⟨rfl,hb5⟩;have Hb5:=hid (btr Hb4.out hb5);have HB5:=hid (HB4.out.below hb5);clear hb5 HB4;have hpd:Qaz size k x=((Qa1 x (Qa7 size k)).2&& !(([0]:List UInt8).isSuffixOf x)):=rfl;rw[hpd] at hT hF
   have hfl:(Qa1 x (Qa7 size k)).2=true->(Qa1 x (Qa7 size k)).1.length<=12:=fun h=>by
    unfold Qa1 at h⊢;split at h
    ·rename_i hc
     rw[if_pos hc];simp only[A7,decide_eq_true_eq,Pl.inR] at hc;simp only[A5,AC];omega
    ·cases h
   clear hpd;generalize Qa1 x (Qa7 size k)=fl at*;obtain⟨full,fine⟩:=fl;simp only at hT hF hfl;cases fine
   ·have hff:=hid (hF.out rfl)
    clear hT hF hfl
    go_wp2
    go_ret2
    exact⟨⟨⟨#[]⟩,by rw[hfo.out,hff.out];rfl⟩,btr Hb2.out Hb5.out⟩
   ·have hfl:=hfl rfl
    go_wp2_with fail
    refine(QjF x [0] (by have:=Hrl.out;omega) _).mono ?_;rintro e w6 ⟨rfl,hb6⟩;have Hb6:=hid (btr Hb5.out hb6);have HB6:=hid (HB5.out.below hb6);clear hb6 HB5;cases hsx:(([0]:List UInt8).isSuffixOf x)
    ·have hall:=hid (hT.out (by rw[hsx];rfl))
     clear hT hF
     go_wp2_with fail
     refine(bldStr HB6.out full (by have:=Hll.out;omega)).mono ?_;rintro e w7 ⟨rfl,hB7,hb7⟩;have HB7:=hid hB7;have Hb7:=hid (Hb6.out.trans hb7);clear hB7 hb7
     go_wp2_with fail
     go_roundw
     case rel=>exact⟨k+1,txt++full,by omega,by go_num,HB7,by simp only[A5];omega,hall,Hb7⟩
     case measure=>simp only[intOf];omega
    ·have hff:=hid (hF.out (by rw[hsx];rfl))
     clear hT hF
     go_wp2
     go_ret2
     exact⟨⟨⟨#[]⟩,by rw[hfo.out,hff.out];rfl⟩,btr Hb2.out Hb6.out⟩
  ·have hk':k=ps.length:=by omega
   have hff:AQ (fo=true):=hid (by rw[Hf.out,<-hk',HP.out];rfl);have hltI: ¬(k:Int)<ps.length:=by omega
   go_wp2_with fail
   refine(bldText HB.out).mono ?_;rintro e w5 ⟨rfl,hb5⟩
   go_wp2
   go_ret2
   exact⟨⟨_,by rw[hfo.out,hff.out];rfl⟩,btr Hb2.out (Hbel.out.trans hb5)⟩
theorem Qjy(s:Pm.Store)(t:Pl.Tree): ∀p∈(QD s t).1,Pm.PtrIn p:=fun p hp=>by
 cases ht:QH s t
 ·grind [QD]
 ·have h:=Pl.Qdx ((Qer ht p hp).1)
  unfold Pm.PtrIn Pm.InI;omega
def QaJ(size:Int)(x:List (List UInt8))(n:Nat):List UInt8:=(AF n).flatMap fun k=>(Qa1 (x.getD k []) (Qa7 size k)).1
theorem Qfr(size:Int)(x:List (List UInt8))(n:Nat):QaJ size x (n+1)=QaJ size x n++(Qa1 (x.getD n []) (Qa7 size n)).1:=by grind [QaJ,Ah]
def Qad(s:Pm.Store)(n:Qj):List UInt8:=if QO s n=true then QaJ n.size ((QD s n.tree).1.map fun p=>(Qf s.1 p).1) (QD s n.tree).1.length else []
theorem bTextS(s:Pm.Store)(hg:QP s)(htx:0<=s.2.2.1)(hin: ∀t,∀p∈(QD s t).1,Pm.PtrIn p)(n:Qj)(hno:Q8 n=true)(hk:n.kind=1):
 Pure A0 34 [.pd (rSt s),dNode n] (.tup [dS (Qad s n),dB (QO s n)]):=by
 intro B σ S H w cargs hB hS hl hr
 match cargs,hl with
 |[a,b],_=>
 have h0:=hr 0 _ a rfl rfl;have h1:=hr 1 _ b rfl rfl
 obtain rfl:b=nodeV n:=by
  have:=Qfk (l:=[dNode n]) (vs:=[nodeV n]) (cs:=[b]) rfl rfl (fun i d v hd hv=>hr (i+1) d v hd hv);simpa using this
 have HW:=hid (AtW.mk hB hS h0);have HL:=hid (hB.ltOf hS);clear hr h1 hB hS
 suffices h:AI A0 34 #[a,nodeV n] w fun e w'=>e= .returned (.tuple #[.string ⟨(Qad s n).toArray⟩,.bool (QO s n)])/\AA w.heap.size w w' by
  refine h.mono ?_;rintro e w' ⟨rfl,hb⟩;refine⟨_,rfl,hb,.tup _ _ rfl fun i d v hd hv=>?_⟩
  match i,hd,hv with
  |0,hd,hv=>obtain rfl:=A1 hd;obtain rfl:=A1 hv;exact .v _
  |1,hd,hv=>obtain rfl:=A1 hd;obtain rfl:=A1 hv;exact .v _
 obtain⟨ad,rfl⟩: ∃ad,a= .pointer ad:=by cases h0;exact⟨_,rfl⟩
 clear h0;have Hnn:=hid hno;have Hf:=hid (Qf3 (s:=s) hno hk);have Hft:=hid (Qad.eq_def s n);obtain⟨kd,links,size,⟨⟨p1,p2,p3,p4,p5⟩,depth,many⟩⟩:=n;simp only at hk Hft;subst hk
 have Hok1:AQ (∀wk,AA w.heap.size w wk->AI A0 63 #[.agg #[.int .i64 1,.int .i64 links,.int .i64 size,.int .i64 p1,.int .i64 p2,.int .i64 p3,.int .i64 p4,.int .i64 p5,.int .i64 depth,.int .i64 many]] wk fun e w'=>e= .returned (.bool true)/\AA wk.heap.size wk w'):=
  hid fun wk hb=>(cNodeOk HW.out hb ⟨1,links,size,⟨⟨p1,p2,p3,p4,p5⟩,depth,many⟩⟩).mono fun e w' h=>⟨by rw[h.1,Hnn.out],h.2⟩
 have Hlv:AQ (∀wk,AA w.heap.size w wk->AI A0 64 #[.pointer ad,.agg #[.int .i64 p1,.int .i64 p2,.int .i64 p3,.int .i64 p4,.int .i64 p5,.int .i64 depth,.int .i64 many]] wk fun e w'=>
  ∃A c,e= .returned (.tuple #[.slice A (QD s ⟨⟨p1,p2,p3,p4,p5⟩,depth,many⟩).1.length c,.bool (QD s ⟨⟨p1,p2,p3,p4,p5⟩,depth,many⟩).2])/\AA wk.heap.size wk w'/\Pm.At w' w'.heap.size A (QD s ⟨⟨p1,p2,p3,p4,p5⟩,depth,many⟩).1):=
  hid fun wk hb=>cLeaves HW.out hb hg htx ⟨⟨p1,p2,p3,p4,p5⟩,depth,many⟩ (hin _)
 clear Hnn;unfold nodeV
 go_enter Ar,An
 go_wp2_with fail
 refine(Hok1.out _ (bnew _ _)).mono ?_;rintro e w1 ⟨rfl,hb1⟩
 have Hbx:AQ (∀(j:Nat) v,([.int .i64 1,.int .i64 links,.int .i64 size,.int .i64 p1,.int .i64 p2,.int .i64 p3,.int .i64 p4,.int .i64 p5,.int .i64 depth,.int .i64 many]:List AH)[j]? =some v->w1.cell? ⟨w.heap.size,j,none⟩=some v):=hid fun j v hv=>by
  rw[hb1.cell (by simp)];rw[cell_of_row _ _ j _ _ _ (QdP _ _)];exact(AR ..).trans hv
 have Hb1:=hid (btr (bnew w _) hb1);have Hsz:AQ (w.heap.size<w1.heap.size):=hid (by have:=hb1.size;simp at this;omega);clear hb1;have x0:=Hbx.out 0 _ rfl;have x3:=Hbx.out 3 _ rfl;have x4:=Hbx.out 4 _ rfl;have x5:=Hbx.out 5 _ rfl;have x6:=Hbx.out 6 _ rfl;have x7:=Hbx.out 7 _ rfl;have x8:=Hbx.out 8 _ rfl;have x9:=Hbx.out 9 _ rfl
 go_wp2_with fail
 refine(Hlv.out _ Hb1.out).mono ?_;rintro e w2 ⟨A,c,rfl,hb2,hA⟩;have Hb2:=hid (btr Hb1.out hb2);have HA2:=hid hA;have y2:=(hb2.cell (p:=⟨w.heap.size,2,none⟩) Hsz.out).trans (Hbx.out 2 _ rfl);have Hsz2:AQ (w.heap.size<w2.heap.size):=hid (by have:=hb2.size;have:=Hsz.out;omega);clear x0 x3 x4 x5 x6 x7 x8 x9 Hbx Hsz Hb1 hA hb2 Hlv Hok1;cases ht:(QH s ⟨⟨p1,p2,p3,p4,p5⟩,depth,many⟩)
 ·have hlv:QD s ⟨⟨p1,p2,p3,p4,p5⟩,depth,many⟩=([],false):=by unfold QD;rw[ht];rfl
  have hfl:AQ (QO s ⟨1,links,size,⟨⟨p1,p2,p3,p4,p5⟩,depth,many⟩⟩=false):=hid (by rw[Hf.out,ht];rfl);clear Hf;rw[hlv]
  go_wp2
  go_ret2
  exact⟨by rw[Hft.out,hfl.out];rfl,Hb2.out⟩
 have hl2:(QD s ⟨⟨p1,p2,p3,p4,p5⟩,depth,many⟩).2=true:=by unfold QD;rw[if_pos ht]
 rw[ht] at Hf;have Hho:=hid (Qer ht);have Hll:=hid (Qd9 ht);rw[hl2];clear hl2 ht;simp only at Hf Hll;generalize (QD s ⟨⟨p1,p2,p3,p4,p5⟩,depth,many⟩).1=ps at HA2 Hho Hll Hf Hft⊢;obtain⟨fo,hfo⟩: ∃fo,AQ (QO s ⟨1,links,size,⟨⟨p1,p2,p3,p4,p5⟩,depth,many⟩⟩=fo):=⟨_,hid rfl⟩;rw[hfo.out] at Hf Hft
 go_wp2_with fail
 go_loopw [34] (fun iv wr=> ∃(k:Nat) (txt:List UInt8),k<=ps.length/\iv= .int .i64 k/\AQ (Bld w2.heap.size txt wr)/\txt.length<=12*k/\AQ (txt=QaJ size (ps.map fun p=>(Qf s.1 p).1) k)/\AQ ((AF k).all (fun k=>Qaz size k ((ps.map fun p=>(Qf s.1 p).1).getD k []))=true)/\AQ (AA w2.heap.size w2 wr)) (fun iv _=>ps.length -(intOf iv).toNat)
 case atStart=>exact⟨0,[],by omega,rfl,hid (bldNew w2),by simp,hid rfl,hid rfl,hid (bnew _ _)⟩
 case round=>
  obtain⟨k,txt,hkl,rfl,HB,htl,HX,HP,Hbel⟩:=hrel
  by_cases hlt:k<ps.length
  ·have hltI:(k:Int)<ps.length:=by omega
   obtain⟨bb,off,cs,rfl,hbb,hc,hv⟩:=(HA2.out.up Hbel.out).elem hlt;obtain⟨p,He⟩: ∃p,AQ (p=ps[k]):=⟨ps[k],hid rfl⟩;rw[<-He.out] at hc;obtain⟨rfl,hpin⟩:=hc;have Hpk:=hid ((Hho.out p (by rw[He.out];exact Ae hlt)).1)
   have Hx:AQ ((ps.map fun p=>(Qf s.1 p).1).getD k []=(Qf s.1 p).1):=hid (by
    rw[A4,AL,A2 hlt,<-He.out];rfl)
   have Hrl:=hid (Qh4 s hg p);obtain⟨q1,q2,q3,q4,q5⟩:=p;have e0:=hv 0 _ rfl;have e1:=hv 1 _ rfl;have e2:=hv 2 _ rfl;have e3:=hv 3 _ rfl;have e4:=hv 4 _ rfl;simp only[Rep.size,Ao] at e0 e1 e2 e3 e4;clear hv hbb hpin He
   go_wp2_with fail
   refine(cRead HW.out (btr (btr Hb2.out Hbel.out) (bnew _ _)) hg ⟨q1,q2,q3,q4,q5⟩ (fun _=>Hpk.out)).mono ?_;rintro e w3 ⟨rfl,hb3⟩;have Hb3:=hid (btr Hbel.out (btr (bnew _ _) hb3));have HB3:=hid (HB.out.below (btr (bnew _ _) hb3));have z2:=(Hb3.out.cell (p:=⟨w.heap.size,2,none⟩) Hsz2.out).trans y2;have Hfp:=QeJ hno rfl (k:=k) (by have:=Hll.out.1;simp only;omega);simp only at Hfp;have hT:AQ (Qaz size k (Qf s.1 ⟨q1,q2,q3,q4,q5⟩).1=true->(AF (k+1)).all (fun k=>Qaz size k ((ps.map fun p=>(Qf s.1 p).1).getD k []))=true):=hid fun h=>Pl.Qdd (p:=fun k=>Qaz size k ((ps.map fun p=>(Qf s.1 p).1).getD k [])) HP.out (by rw[Hx.out];exact h)
   have hF:AQ (Qaz size k (Qf s.1 ⟨q1,q2,q3,q4,q5⟩).1=false->fo=false):=hid fun h=>by
    rw[Hf.out,Al];exact Pl.Qda (p:=fun k=>Qaz size k ((ps.map fun p=>(Qf s.1 p).1).getD k [])) hlt (by rw[Hx.out];exact h)
   have hX:AQ (QaJ size (ps.map fun p=>(Qf s.1 p).1) (k+1)=txt++(Qa1 (Qf s.1 ⟨q1,q2,q3,q4,q5⟩).1 (Qa7 size k)).1):=hid (by rw[Qfr,Hx.out,HX.out]);clear hb3 e0 e1 e2 e3 e4 Hx HB y2 HX;generalize (Qf s.1 ⟨q1,q2,q3,q4,q5⟩).2=rok at*;generalize (Qf s.1 ⟨q1,q2,q3,q4,q5⟩).1=x at*
   go_wp2_with fail
   refine(QjD HW.out (btr Hb2.out Hb3.out) size k (by omega) (by omega) (by have:=Hll.out;omega)).mono ?_;rintro e w4 ⟨rfl,hb4⟩;have Hb4:=hid (btr Hb3.out hb4);have HB4:=hid (HB3.out.below hb4);clear hb4 HB3 z2
   go_wp2_with fail
   refine(QjE HW.out (btr Hb2.out Hb4.out) x (Qa7 size k) (by have:=Hrl.out;omega)).mono ?_;rintro e w5 ⟨rfl,hb5⟩;have Hb5:=hid (btr Hb4.out hb5);have HB5:=hid (HB4.out.below hb5);clear hb5 HB4;have hpd:Qaz size k x=((Qa1 x (Qa7 size k)).2&& !(([0]:List UInt8).isSuffixOf x)):=rfl;rw[hpd] at hT hF
   have hfl:(Qa1 x (Qa7 size k)).2=true->(Qa1 x (Qa7 size k)).1.length<=12:=fun h=>by
    unfold Qa1 at h⊢;split at h
    ·rename_i hc
     rw[if_pos hc];simp only[A7,decide_eq_true_eq,Pl.inR] at hc;simp only[A5,AC];omega
    ·cases h
   clear hpd;generalize Qa1 x (Qa7 size k)=fl at*;obtain⟨full,fine⟩:=fl;simp only at hT hF hfl hX;cases fine
   ·have hff:=hid (hF.out rfl)
    clear hT hF hfl
    go_wp2
    go_ret2
    exact⟨by rw[hfo.out,Hft.out,hff.out];rfl,btr Hb2.out Hb5.out⟩
   ·have hfl:=hfl rfl
    go_wp2_with fail
    refine(QjF x [0] (by have:=Hrl.out;omega) _).mono ?_;rintro e w6 ⟨rfl,hb6⟩;have Hb6:=hid (btr Hb5.out hb6);have HB6:=hid (HB5.out.below hb6);clear hb6 HB5;cases hsx:(([0]:List UInt8).isSuffixOf x)
    ·have hall:=hid (hT.out (by rw[hsx];rfl))
     clear hT hF
     go_wp2_with fail
     refine(bldStr HB6.out full (by have:=Hll.out;omega)).mono ?_;rintro e w7 ⟨rfl,hB7,hb7⟩;have HB7:=hid hB7;have Hb7:=hid (Hb6.out.trans hb7);clear hB7 hb7
     go_wp2_with fail
     go_roundw
     case rel=>exact⟨k+1,txt++full,by omega,by go_num,HB7,by simp only[A5];omega,hid hX.out.symm,hall,Hb7⟩
     case measure=>simp only[intOf];omega
    ·have hff:=hid (hF.out (by rw[hsx];rfl))
     clear hT hF
     go_wp2
     go_ret2
     exact⟨by rw[hfo.out,Hft.out,hff.out];rfl,btr Hb2.out Hb6.out⟩
  ·have hk':k=ps.length:=by omega
   have hff:AQ (fo=true):=hid (by rw[Hf.out,<-hk',HP.out];rfl);have hltI: ¬(k:Int)<ps.length:=by omega
   go_wp2_with fail
   refine(bldText HB.out).mono ?_;rintro e w5 ⟨rfl,hb5⟩
   go_wp2
   go_ret2
   exact⟨by rw[hfo.out,Hft.out,hff.out,HX.out,hk'];rfl,btr Hb2.out (Hbel.out.trans hb5)⟩
theorem Pure.imp{P:Program}{f:Au}{l:List D}{x y:D}(h:Pure P f l x)(hxy: ∀(S:Nat->Prop) (w:AT) (v:AH),RelD S w x v->RelD S w y v):Pure P f l y:=by
 intro B σ S H w cargs hB hS hl hr;refine(h B σ S H w cargs hB hS hl hr).mono ?_
 grind
def bTextA(s:Pm.Store)(hg:QP s)(htx:0<=s.2.2.1)(n:Qj)(hn:Q8 n=true):Pure A0 34 [.pd (rSt s),dNode n] (.tup [dS (Qad s n),dB (QO s n)]):=by
 by_cases hk:n.kind=1
 ·exact bTextS s hg htx (Qjy s) n hn hk
 have hfo:QO s n=false:=by
  unfold QO;have:(n.kind==1)=false:=by simpa using hk
  rw[this];simp
 have hft:Qad s n=[]:=by unfold Qad;rw[hfo];rfl
 rw[hfo,hft];have c:=bNodeOk n;rw[hn] at c;obtain⟨kd,links,size,⟨⟨p1,p2,p3,p4,p5⟩,depth,many⟩⟩:=n;simp only at hk c⊢;have hd:decide (kd≠1)=true:=decide_eq_true hk;refine kE ?_;refine Qa 0 (h:=?_)
 repeat' first|refine kA ?_|refine kV ?_ ?_<;>intro q|fail
 all_goals first|exact Qb (hx:=rfl)|exfalso;simp at*;done|exfalso;simp at*;omega
end Aw
end
section
open Go.RowKit
namespace Aw
variable{w:AT}{t:Pl.Tree}
attribute [local irreducible] ASeq ADraw AWP Loc mget mset AStep Fg.PlanF Fg.Flts
abbrev rIt(x:Gr.It):List D:=[dS (QC x.1),dI (x.2:Nat)]
def Qcv(l:List Gr.It):List Blk:=[.row 0 [.osl 1 l.length 0 l.length,.d (.v (.slice none 0 0))],.arr l.length 2 43 (l.map rIt)]
def Qcu(l:List Gr.It):List AV:=[.ptr 0 0 0,.osl 1 l.length 0 l.length]
theorem Qrh(l m:List Gr.It): ∀i C,(Qcv l)[i]? =some C-> ∃C',(Qcv (l++m))[i]? =some C'/\pin1 (Qcu l) i C C':=by
 intro i C hC
 match i,hC with
 |0,hC=>obtain rfl:=A1 hC;exact⟨_,rfl,.inr ⟨rfl,0,by simp[Qcu]⟩⟩
 |1,hC=>
  obtain rfl:=A1 hC;refine⟨_,rfl,rfl,rfl,?_⟩
  grind [Qcu]
theorem fg_mem(l:List Gr.It)(N:Nat)(Lx:List AV)(Hr:List Blk)(g:AV)(hg:g∈Qcu l)(ha:AV.ptr 0 0 0∈Lx):g.ren (rho [0,1] N)∈Lx++(Qcv l++Hr).flatMap Blk.parts:=by
 simp only[Qcu,AX,AM,or_false] at hg;rcases hg with rfl|rfl
 ·exact AW _ ha
 grind [Qcv,Blk.parts,AV.parts,AV.ren,rho]
def fg_mem0(Lx:List AV)(Hx:List Blk)(g:AV)(hg:g∈Qcu [])(ha:AV.ptr 1 0 0∈Lx)(hd:AV.osl 2 0 0 0∈Hx.flatMap Blk.parts)(N:Nat):g.ren (rho [1,2] N)∈Lx++Hx.flatMap Blk.parts:=by
 simp only[Qcu,AX,AM,or_false] at hg;rcases hg with rfl|rfl
 ·exact AW _ ha
 ·exact AE _ hd
def Qpn(l:List Gr.It)(hl:l.length<=1000000)(x:Gr.It):Does A0 78 [.d (.agg (rIt x)),.ptr 0 0 0] (Qcv l) (Qcu l) (.tup []) (Qcv (l++[x])):=by
 refine kL ?hpin fun gvs=>?_
 case hpin=>exact Qrh l [x]
 simp only[parA,gslot,AP,Nat.reduceAdd,Qcv,Qcu];rw[A5,List.length_singleton,Ai,Am,List.map_nil];refine QgY ?_;refine kR ?_;refine Qa 2 (h:=?_)
 repeat' first|refine kS ?_|refine QV Ty.h rfl Ty.h (hb:=?_) (kk:=?_)|refine kU ?_|fail
 all_goals first
  |(show((l.map rIt).length+1)*24<=140737488355328
    rw[A6];omega)
  |exact Qg5 2 .normal (.inl rfl) rfl rfl rfl rfl rfl rfl rfl
  |(rw[A6]
    exact Qg5 2 .normal (.inl rfl) rfl rfl rfl rfl rfl rfl rfl)
theorem Qil: ∀names:List (List UInt8),QbG names=QC names
 :=by intro l;induction l<;>grind [QbG,QC,Qap,List.intersperse]
theorem bWalkF(s:Pm.Store)(t:Pl.Tree)(x:List (List UInt8))(m:List (Int×D))(hm:Qcq m (QaH s x)): ∀(n:Nat) (L:List Gr.It) (k:Nat) (names:List (List UInt8)) (out:List Gr.It),L.length<=n->Qck s x [(names,k)] L->
 names.length+L.length<=1000->(∀a∈names,a.length<=4)->out.length+L.length<=1000000->
 Does A0 29 [.d (.pd (rFiles s t x m)),.d (dI k),.d (Qca names),.fn (.func 78) [.ptr 0 0 0]] (Qcv out) (Qcu out) (.tup []) (Qcv (out++L)):=by
 intro n;induction n with
 |zero=>
  intro L k names out h1 h2;obtain⟨L1,rfl,_⟩:=QnF h2;simp at h1
 |succ n ih=>
  intro L k names out h1 h2 h3 h4 h5;obtain⟨L1,rfl,hfd,hk0⟩:=QnF h2;simp only[List.length_cons] at h1 h3 h5;have dv:=Qpn out (by omega) (names,k)
  obtain⟨dn,g0,hdn,cp,hcl⟩: ∃(dn:D) (g0:Nat),Qca names=dn/\Pure A0 54 [dn] (dS (QC names))/\Does A0 55 [.d dn] [] [] (.osl 0 g0 0 names.length) [.arr g0 1 9 (names.map fun s=>[dS s])]:=by
   have cp:=QlL names (by omega) (fun a ha=>by have:=h4 a ha;omega);rw[Qil] at cp
   by_cases hn:names=[]
   ·subst hn
    exact⟨_,0,rfl,Qlc cp,QlN⟩
   ·exact⟨tStrs names,1,by unfold Qca;rw[if_neg hn],cp,QlM names (by omega) hn⟩
  rw[hdn];clear hdn;obtain⟨hE,hgt⟩:=hm (k:Nat) (by omega);refine kL ?hpin fun gvs=>?_
  case hpin=>exact Qrh out _
  simp only[parA,gslot,AP,Nat.reduceAdd];rw[show out++(names,k)::L1=(out++[(names,k)])++L1 by simp];clear h2 hk0;have hvm:=fun(out:List Gr.It) (N:Nat)=>fg_mem out N
  have hol:(out++[(names,k)]).length=out.length+1:=by simp
  generalize out++[(names,k)]=out1 at*
  have hg:mget m (k:Nat)=some (.sl true 2 ((QaH s x (k:Nat)).map rEnt))∨mget m (k:Nat)=none/\(QaH s x (k:Nat)).map rEnt=[]:=by
   rcases hgt with h|⟨h1,h2⟩
   ·exact .inl h
   ·exact .inr ⟨h1,by rw[h2];rfl⟩
  generalize QaH s x (k:Nat)=es at*;have hsp:rIt (names,k)=[dS (QC names),dI (k:Nat)]:=rfl;rw[hsp] at dv;generalize QC names=pt at*;clear hgt hsp;have hes:es.length<=12:=by have:=hE;unfold Qab at this;rw[A7,decide_eq_true_eq] at this;exact this.2
  refine QgY ?_;simp only[Qcv,Qcu] at dv⊢
  repeat' first|refine kS ?_|refine(Qhb [0,1] dv cK (hgl:=fun g hg=>hvm _ _ _ [] g hg (by simp[AV.parts,go_sem])) (k:=?_))|refine qS (Qdi rfl) ?_|refine qS (QfI Tryz.underlying94 Tryz.underlying3 (by kernel_rfl) rfl rfl hg) ?_|refine kU ?_|fail
  refine Qo (fun mm st=> ∃(j:Nat) (Ld Lr:List Gr.It),j<=es.length/\mm=es.length -j/\AQ (L1=Ld++Lr)/\AQ (Qck s x ((es.drop j).map fun e=>(names++[e.1],e.2.toNat)) Lr)/\
   st=⟨39,[(21,.d (tEnts es)),(22,.d (dI es.length)),(23,.d (dI j)),(0,.d (.pd (rFiles s t x m))),(2,.d dn),(3,.fn (.func 78) [.ptr 0 0 0]),(1000000,.gh [.ptr 0 0 0,.osl 1 out.length 0 out.length] gvs)],
    [.row 0 [.osl 1 (out1++Ld).length 0 (out1++Ld).length,.d (.v (.slice none 0 0))],.arr (out1++Ld).length 2 43 ((out1++Ld).map rIt)]⟩)
   [21,22,23,0,2,3,1000000] 2 es.length ⟨0,[],L1,by omega,rfl,Pm.hid rfl,Pm.hid hfd,by simp[keepE,go_sem]⟩ (round:=?_)
  rintro mm st ⟨j,Ld,Lr,hj,rfl,hL,hF,rfl⟩
  repeat refine kG ?_
  cases q3:decide ((j:Int)<(es.length:Int))
  ·have hje:j=es.length:=by simp at q3;omega
   have hLd:L1=Ld:=by
    have h:=hF.out;rw[hje,List.drop_length] at h;cases h;rw[hL.out,AG]
   clear dv hcl cp ih hvm;subst hLd
   repeat refine kA ?_
   exact Qg5 2 .normal (.inl rfl) rfl rfl rfl rfl rfl rfl rfl
  have hj2:j<es.length:=by simp at q3;omega
  obtain⟨e,he⟩: ∃e,es[j]? =some e:=⟨_,A2 hj2⟩;have hr:=Qt (f:=rEnt) he;have heb:=ent_b hE e (AU he);have hdr:es.drop j=e::es.drop (j+1):=by rw[List.drop_eq_getElem_cons hj2,(List.getElem?_eq_some_iff.1 he).2]
  have hF2:=hF.out;rw[hdr,Am] at hF2;obtain⟨M,R,rfl,hM,hR⟩:=QqS hF2;obtain⟨nmE,id⟩:=e;simp only at heb hM;obtain⟨kid,rfl⟩:=AN (show 0<=id by omega);rw[A3] at hM;have hLl:=congrArg List.length hL.out;simp only[A5] at hLl
  have h4': ∀a∈names++[nmE],a.length<=4:=fun a ha=>by
   rcases List.mem_append.1 ha with h|h
   ·exact h4 a h
   ·rw[A8.1 h];exact Qei heb.1
  have ih2:=ih M kid (names++[nmE]) (out1++Ld) (by omega) hM (by simp;omega) h4' (by rw[A5];omega);have hnm:Qca (names++[nmE])=tStrs (names++[nmE]):=by unfold Qca;rw[if_neg (by simp)]
  rw[hnm,AK] at ih2
  replace hR:=Pm.hid hR
  clear he hdr hF2 hF hM ih hnm dv cp h4 h4' hol;have hL2:AQ (L1=(Ld++M)++R):=Pm.hid (by rw[AK];exact hL.out);clear hL hLl hfd;generalize ho3:out1++(Ld++M)=o3 at*;generalize out1++Ld=o2 at*;simp only[Qcv,Qcu] at ih2
  repeat' first|refine kS ?_|refine qS (iy hr) ?_|(show AWP _ (.region 4 _ _) _ _;refine(Qa 2 (h:=Fg.awp_drawF (id:=4) [0,1,2,3,5,6,7,9] [4,8,10] ?_)))|refine(Fg.aw_fltL (hl:=fun H=>Qd0 Ty.h rfl Ty.h) (k:=?_))|refine(QgZ [] hcl cK (x':= .osl 3 g0 0 names.length) (hX:=fun _ h=>h) (H':=[.row 0 [.osl 1 o2.length 0 o2.length,.d (.v (.slice none 0 0))],.arr o2.length 2 43 (o2.map rIt),.row 1 [],.arr g0 1 9 (names.map fun s=>[dS s])]) (hH:=fun _ h=>h) (k:=?_))|refine(QhW Ty.h rfl Ty.h (hcell:=?_) (hb:=?_) (kk:=?_))|refine(QlQ 3 [0,1] ih2 cK (H':=[.row 0 [.osl 1 o3.length 0 o3.length,.d (.v (.slice none 0 0))],.arr o3.length 2 43 (o3.map rIt),.row 1 [],.arr (g0+1+1) 1 9 []]) (hH:=?_) (hargs:=?_) (hgl:=?_) (k:=?_))|refine kU ?_|fail
  ·intro r hr d hd
   obtain rfl:=A8.1 hr;obtain rfl:=A8.1 hd;rfl
  ·show((names.map fun s=>[dS s]).length+1)*16<=140737488355328
   rw[A6];omega
  ·have htk:((names.map fun s=>[dS s])++[[dS nmE]]).take ((names.map fun s=>[dS s]).length+[[dS nmE]].length)=(names++[nmE]).map fun s=>[dS s]:=by
    rw[AD (by simp),Ai];rfl
   exact congrArg (fun r=>[AV.d (.pd (rFiles s t x m)),AV.d (dI (kid:Nat)),AV.d (.sl true 1 r),AV.fn (.func 78) [.ptr 0 0 0]]) htk
  ·exact fun g hg=>hvm _ _ _ [_,_] g hg (by simp[AV.parts,go_sem])
  ·intro R hR;exact hR
  skip
  all_goals first
   |(refine Qh (es.length -(j+1)) (by omega) ⟨j+1,Ld++M,R,by omega,rfl,hL2,hR,?_⟩
     rw[ho3]
     simp[keepE,go_sem];done)
theorem QnX: ∀x y:List UInt8,A9 x y=false->x=y∨A9 y x=true
 |[],[],_=> .inl rfl
 |[],_::_,h=>by simp[A9] at h
 |_::_,[],_=> .inr (by simp[A9])
 |a::x,b::y,h=>by
  have h1: ¬(a<b∨a=b/\A9 x y=true):=fun h2=>by grind [QfP]
  rw[QfP]
  by_cases hab:a=b
  ·subst hab
   have h3:A9 x y=false:=by
    grind
   rcases QnX x y h3 with rfl|h5
   ·grind
   grind
  grind
def Qc0(x y:Gr.It):Int:=Af (QC x.1) (QC y.1)
theorem ltIt(x y:Gr.It):ltOf Qc0 x y=A9 (QC x.1) (QC y.1):=Qua _ _
theorem swoIt:Go.Sort.SWO (ltOf Qc0) where
 irrefl x:=by rw[ltIt];exact QrI _
 trans x y z h1 h2:=by grind [ltIt,QhT]
 ntrans x y z h1 h2:=by
  grind [ltIt,QnX,QhT]
def Qcd(x:Gr.It):List AH:=[.string ⟨(QC x.1).toArray⟩,.int .i64 (x.2:Nat)]
def bSort1(x y:Gr.It)(W:AT):AI A0 136 #[.agg (Qcd x).toArray,.agg (Qcd y).toArray] W fun e w'=>e= .returned (.int .i64 (Qc0 x y))/\ ∃q os',w'=Ap (W.drewN q) os':=by
 have hcon:=fun W'=>Tryz.strings_Compare ⟨(QC x.1).toArray⟩ ⟨(QC y.1).toArray⟩ W'
 unfold Qc0 Qcd;simp only at hcon;generalize Af (QC x.1) (QC y.1)=r at hcon⊢
 go_enter Tryz.func136,Tryz.ntmps136
 go_wp2_with (go_at_call 137;refine(hcon _).mono ?_;rintro e w' ⟨rfl,rfl⟩)
 go_ret
 exact⟨rfl,0,_,by rw[AS,AS,Go.Sort.grow_grow];rfl⟩
theorem below_grow(w:AT)(n:Nat)(os:Array Obj):AA w.heap.size w (Ap (AY w n) os):=
 ⟨rfl,rfl,rfl,by simp_all,fun k hk=>by
   show(w.heap++os)[k]? =w.heap[k]?
   grind⟩
theorem Qnh{α β:Type}{l:List α}{cs:List β}(h:l.length=cs.length)(h2:l.length=2): ∃a b,cs=[a,b]:=by
 match cs,h.symm.trans h2 with
 |[a,b],_=>grind
theorem Qph(L:List Gr.It)(g:Nat)(hl:L.length<=1000000)(ha:L.Pairwise fun a b=>A9 (QC a.1) (QC b.1)=true):
 Does A0 135 [.osl 0 g 0 L.length,.fn (.func 136) []] [.arr g 2 43 (L.map rIt)] [.osl 0 g 0 L.length] (.d (.tup [])) [.arr g 2 43 (L.map rIt)]:=by
 refine Qpa (fun i C hC=>?_) fun B σ S w cargs hB hS hl' hr=>?_
 ·match i,hC with
  |0,hC=>obtain rfl:=A1 hC;exact⟨rfl,rfl,.inr ⟨rfl,rfl,0,L.length,by simp⟩⟩
 obtain⟨v0,v1,rfl⟩:=Qnh hl' rfl;have h0:=hr 0 _ v0 rfl rfl;have h1:=hr 1 _ v1 rfl rfl
 obtain rfl:v1= .func (.func 136) #[] #[]:=by
  cases h1 with
  |fn _ _ cs hl h=>
   have:cs=[]:=AO.1 hl.symm;subst this;rfl
 suffices h:AI A0 135 #[v0,.func (.func 136) #[] #[]] w fun e w'=>e= .returned (.tuple #[])/\AA w.heap.size w w' from
  h.mono fun e w' ⟨h1,h2⟩=>⟨_,h1,h2,.tup [] [] rfl fun i d x hd=>by simp at hd⟩
 cases h0 with
 |osl _ _ _ _ _ ho g' sz T rows hk hg h=>
  simp only[List.getElem?_cons_zero,Av,Blk.arr.injEq] at hk;obtain⟨rfl,rfl,rfl,rfl⟩:=hk;obtain⟨_,⟨b,cap,cs,T',hb,hcap,hmax,rfl,hcs,hsz⟩|⟨_,hn,rfl⟩⟩:=h rfl
  ·have hblk:=(hS.σUp 0 b (by simp) hb).1
   obtain⟨_,⟨b',cs',hb',hcs',hc⟩|⟨hno,_⟩⟩:=hS.blk 0 _ rfl;rotate_left
   ·rw[hb] at hno;cases hno
   rw[hb] at hb';obtain rfl:=A1 hb';rw[hcs] at hcs'
   obtain⟨rfl,rfl⟩:cs=cs'/\T'=43:=by
    have:=A1 hcs';injection this with e1 e2;exact⟨e1,e2⟩
   have hH:Go.Sort.HoldsK Qcd 2 w b (0*2) L.toArray:=by
    intro j hj;rw[Go.Sort.size_flatK] at hj;have hsz2:L.toArray.size=L.length:=rfl;have hi:j/2<L.length:=by omega
    rw[Go.Sort.get_flatK _ _ _ _ hj,getElem!_pos L.toArray (j/2) hi];have hx:(L.map rIt)[j/2]? =some (rIt (L[j/2])):=by rw[AL,A2 hi];rfl
    refine⟨?_,frozen_of_row w b _ cs _ hcs⟩;rw[cell_of_row w b _ cs _ (0,0) hcs];have hdm:0*2+j=j/2*2+j%2:=by omega
    rw[hdm];show _=some ((Qcd L[j/2])[j%2]!);rcases(show j%2=0∨j%2=1 by omega) with e|e
    ·rw[e]
     obtain⟨v,h1,h2⟩:=hc _ 0 _ _ hx rfl;cases h2;exact h1
    ·rw[e]
     obtain⟨v,h1,h2⟩:=hc _ 1 _ _ hx rfl;cases h2;exact h1
   refine(AnyQ.slices_SortFunc Tryz.laysSortFunc_Found 2 Tryz.isAgg43 Tryz.sizeOf43 Qcd (fun _=>rfl) (fun x v hv=>by simp[Qcd] at hv;rcases hv with rfl|rfl<;>rfl) Qc0 swoIt 136 #[] b (0*2) cap L.toArray w
    Tryz.call136 (fun _ _ _ _ x y=>bSort1 x y _) hH hblk (by simp;omega)).mono ?_
   rintro e w' ⟨rfl,d',n,os,hp,hs,rfl⟩;obtain rfl:=Qmh swoIt (ha.imp fun{a b} h=>by rw[ltIt];exact h) hp hs;refine⟨rfl,?_⟩;have:Go.Sort.putRowK Qcd 2 (AY w n) b (0*2) L.toArray=AY w n:=Go.Sort.putRow_self id _ b _ _ hH;unfold sortWorldK;rw[this];exact below_grow w n os
  ·have:L=[]:=AO.1 hn
   subst this;exact(AJ Tryz.laysSortFunc_Found none 0 _ w).mono fun e w' ⟨h1,h2⟩=>⟨h1,h2▸Ak _ _⟩
def QmY:PureF A0 138 [.d (.v (.slice none 0 0)),.fn (.func 139) []] (.tup []):=by
 intro B S w cargs hB hS hl hr;obtain⟨v0,v1,rfl⟩:=Qnh hl rfl
 obtain rfl:v0= .slice none 0 0:=by
  have h0:=hr 0 _ v0 rfl rfl;cases h0 with|d _ _ h=>cases h;rfl
 exact(AJ Tryz.laysSortFunc_Thing none 0 v1 w).mono fun e w' ⟨h1,h2⟩=>⟨_,h1,h2▸Ak _ _,.tup [] [] rfl fun i d x hd=>by simp at hd⟩
def bSort(L:List Gr.It)(hl:L.length<=1000000)(ha:L.Pairwise fun a b=>A9 (QC a.1) (QC b.1)=true):Does A0 79 [.ptr 0 0 0] (Qcv L) (Qcu L) (.tup []) (Qcv L):=by
 have c1:=Qph L L.length hl ha;have c2:=QmY;refine kL ?hpin fun gvs=>?_
 case hpin=>have:=Qrh L [];rw[AG] at this;exact this
 simp only[parA,gslot,AP,Nat.reduceAdd,Qcv,Qcu];refine QgY ?_
 repeat' first|refine kS ?_|refine(Qha [1] c1 cK (hgl:=fun g hg=>?_) (k:=?_))|refine qS (Qeq cK c2 rfl rfl) ?_|refine kU ?_|fail
 all_goals first
  |(obtain rfl:=A8.1 hg
    simp[AV.parts,AV.ren,rho,go_sem];done)
  |exact Qg5 2 .normal (.inl rfl) rfl rfl rfl rfl rfl rfl rfl
abbrev Qb7:=Nat×Bool×List UInt8
abbrev rTh(x:Qb7):List D:=[dI (x.1:Nat),dB x.2.1,dS x.2.2]
def QbL(s:Pm.Store)(x:List (List UInt8))(k:Nat):List Qb7:=if Qs (Qu x) k=0 then [] else [(k,((Qu x).getD k Qd).kind==2,Qad s ((Qu x).getD k Qd))]
def QaN(s:Pm.Store)(x:List (List UInt8))(n:Nat):List Qb7:=(AF n).flatMap (QbL s x)
theorem QhI(s:Pm.Store)(x:List (List UInt8))(n:Nat):QaN s x (n+1)=QaN s x n++QbL s x n:=by grind [QaN,Ah]
theorem Qme(s:Pm.Store)(x:List (List UInt8)): ∀n,(QaN s x n).length<=n
 :=by intro l;induction l<;>grind [QaN,QhI,QbL]
def bFlat(s:Pm.Store)(hg:QP s)(htx:0<=s.2.2.1)(t:Pl.Tree)(x:List (List UInt8))(hx:Qc3 x)(hx16:x.length<=16)(hno: ∀k,Qs (Qu x) k≠0->Q8 ((Qu x).getD k Qd)=true)(m:List (Int×D))(hm:Qcq m (QaH s x))(L:List Gr.It)(hL:Qck s x [([],0)] L)(hl:L.length<=144):
 Pure A0 41 [.pd (rFiles s t x m)] (.agg [.sl true 2 (L.map rIt),.sl true 3 ((QaN s x x.length).map rTh)]):=by
 have dw:=bWalkF s t x m hm L.length L 0 [] [] (Nat.le_refl _) hL (by simp;omega) (fun a ha=>by simp at ha) (by simp;omega);rw[show Qca []= .v (.slice none 0 0) by unfold Qca;rw[if_pos rfl],Ag] at dw;have ds:=bSort L (by omega) (QqU hL).2;have hgl:=fg_mem0;have hkz:=Qi1 hx;have hT:AQ (∀k,k<x.length->Qs (Qu x) k≠0->Pure A0 34 [.pd (rSt s),dNode ((Qu x).getD k Qd)] (.tup [dS (Qad s ((Qu x).getD k Qd)),dB (QO s ((Qu x).getD k Qd))])):=Pm.hid fun k _ hk=>bTextA s hg htx _ (hno k hk)
 clear hL;simp only[Qcv,Qcu] at dw ds hgl;refine kC ?_
 repeat' first|refine kS ?_|refine(Qk9 1 0 2 43 (h:=?_))|refine qS (Qex rfl) ?_|refine(Qha [1,2] dw cK (hgl:=fun g hg=>hgl _ _ g hg (by simp[AV.parts,go_sem]) (by simp[Blk.parts,AV.parts]) _) (k:=?_))|refine(Qha [1,2] ds cK (hgl:=fun g hg=>by simp only[AX,AM,or_false] at hg;rcases hg with rfl|rfl<;>simp[AV.parts,Blk.parts,AV.ren,rho,go_sem]) (k:=?_))|refine qS (Qdi rfl) ?_|refine kU ?_|fail
 refine Qk9 1 1 3 68 (h:=?_)
 refine Qo (fun mm st=> ∃k:Nat,k<=x.length/\mm=x.length -k/\
  st=⟨50,[(15,.d (tNds x)),(16,.d (dI x.length)),(17,.d (dI k)),(0,.d (.pd (rFiles s t x m))),(3,.ptr 1 0 0),(2,.ptr 0 0 0)],
   [.row 0 [.d (.v (.slice none 0 0)),.d (.v (.slice none 0 0))],.row 0 [.osl 2 L.length 0 L.length,.osl 3 (QaN s x k).length 0 (QaN s x k).length],.arr L.length 2 43 (L.map rIt),.arr (QaN s x k).length 3 68 ((QaN s x k).map rTh)]⟩) [15,16,17,0,3,2] 4 x.length ⟨0,by omega,rfl,by simp[keepE,go_sem,QaN]⟩ (round:=?_)
 rintro mm st ⟨k,hk,rfl,rfl⟩;have htl:=Qme s x k
 repeat refine kG ?_
 cases q3:decide ((k:Int)<(x.length:Int))
 ·have:k=x.length:=by simp at q3;omega
  rw[<-this]
  repeat refine kA ?_
  refine Qa 2 (h:=?_);refine Qa 3 (h:=?_);refine Qa 0 (h:=?_);refine QR (hx:=?_);simp[AD]
 have hk2:k<x.length:=by simp at q3;omega
 obtain⟨y,hy⟩: ∃y,x[k]? =some y:=⟨_,A2 hk2⟩;have hyd:x.getD k []=y:=by rw[A4,hy];rfl
 have hr:=Qt (f:=fun x=>[QaR x]) hy;have hst:=Pm.hid (QhI s x k);have hz:=hkz k;rw[hyd] at hz
 by_cases hyn:y=[]
 ·have hnd:QaR y= .v (.pointer none):=by unfold QaR;rw[if_pos hyn]
  simp only[hnd] at hr;have htg:QaN s x (k+1)=QaN s x k:=by rw[hst.out];unfold QbL;rw[if_pos (hz.2 hyn),AG]
  clear hz hyd hT hkz
  repeat' first|refine kS ?_|refine qS (iy hr) ?_|refine qS (Qgu Ab rfl) ?_|refine kU ?_|fail
  all_goals first
   |(exfalso;simp at*;done)
   |(refine Qh (x.length -(k+1)) (by omega) ⟨k+1,by omega,rfl,?_⟩
     rw[htg]
     simp[keepE,go_sem];done)
 ·have hnd:QaR y= .pd (rNode (Qp y).1):=by unfold QaR;rw[if_neg hyn]
  simp only[hnd] at hr;have hnx:=Qfc (x:=x) k;rw[hyd] at hnx
  have htg:QaN s x (k+1)=QaN s x k++[(k,(Qp y).1.kind==2,Qad s (Qp y).1)]:=by
   rw[hst.out];unfold QbL;rw[if_neg (fun h=>hyn (hz.1 h)),hnx]
  have c:=hT.out k hk2 (fun h=>hyn (hz.1 h));rw[hnx] at c;clear hz hyd hT hkz hst hnx hy hnd;generalize hth2:QaN s x (k+1)=th2 at*;generalize QaN s x k=th at*;generalize (Qp y).1=N at*;generalize Qad s N=tx at*;generalize QO s N=fo at*
  repeat' first|refine kS ?_|refine qS (iy hr) ?_|refine qS (QeN Ab rfl) ?_|refine qD (Qdi rfl) ?_|(show AWP _ (.region 9 _ _) _ _;refine(Fg.awp_drawF (id:=9) [] [11,13] ?_))|refine Qoe Ty.h rfl Ty.h (hb:=?_) (kk:=?_)|refine kU ?_|fail
  all_goals first
   |(exfalso;simp at*;done)
   |(show((th.map rTh).length+1)*40<=140737488355328
     rw[A6];omega)
   |(show((th.map rTh).length+1)*32<=140737488355328
     rw[A6];omega)
   |(refine Qh (x.length -(k+1)) (by omega) ⟨k+1,by omega,rfl,?_⟩
     rw[hth2,htg]
     simp[keepE,go_sem];done)
def info_U8:(A0.info? 5).map (fun i=>(i.zero,i.size,i.bytes))=some (some (.int .u8 0),1,1):=by kernel_rfl
def Qsb(n:Nat)(h:n<=12):Pure A0 176 [dI n] (dS (AB n 0)):=by
 refine Qdv (vs:=[.int .i64 n]) (x:= .string ⟨(AB n (0:UInt8)).toArray⟩) rfl fun w _=>?_
 have hso:strOfNums (AB n 0)=⟨(AB n (0:UInt8)).toArray⟩:=by unfold strOfNums;rw[List.map_replicate];rfl
 have hmk:=Pm.QtP (P:=A0) 22 5 _ 1 1 Ac info_U8 n (by omega) (by omega) w
 have hcv:=run_convert_bytes_arg (P:=A0) (w.alloc (.cells (madeCells (Value.int .u8 0).cells (n*1)) 5)) 22 5 Ac Tryz.underlying5 w.heap.size 0 n n (AB n 0) (by simp) (fun i hi=>by
  rw[AP,cell_of_row _ _ i _ _ _ (QdP _ _)]
  simp[madeCells,As,Nat.mod_one,A4,hi]) 9 Tryz.underlying9
 simp only[As,Nat.mul_one] at hmk hcv;rw[hso] at hcv;clear hso
 go_enter Tryz.func176,Tryz.ntmps176
 go_wp2
 all_goals
  go_ret
  exact⟨rfl,Pm.bnew _ _⟩
theorem fill_eq{n:Qj}(h:Q8 n=true)(hk:n.kind=1){k:Nat}(hm:(k:Int)<n.tree.many){l:List (List UInt8)}(hp:Qa9 n.size l k=true):
 ((l.getD k []).length:Int)<=Qa6 n.size k/\Qa6 n.size k<=12/\(Qa1 (l.getD k []) (Qa7 n.size k)).1=l.getD k []++AB (Qa6 n.size k -(l.getD k []).length).toNat 0:=by grind [QeJ,Pl.inR,Qa6,Qa9,Qa1,Qhi]
theorem QtD(s:Pm.Store)(hg:QP s)(n:Qj)(hf:QO s n=true):Pure A0 107 [dSt s,dNode n] (dS (Qad s n)):=by
 have hf2:=hf;unfold QO at hf2;simp only[A7,beq_iff_eq] at hf2;obtain⟨⟨⟨h1,h2⟩,h3⟩,h4⟩:=hf2;have ht:=Qdo h3;have hs:=(QdZ h1).size;have c:=Qe3 s hg n.tree ht;have hl:=texts_len s ht;have hm:=ht.manyHi;have hm0:=ht.manyLo
 have hX:AQ (Qad s n=QaJ n.size (Qc s n.tree) (Qc s n.tree).length):=Pm.hid (by
  unfold Qad
  rw[if_pos hf,Qey h3,(Qd9 h3).1,hl])
 have hP:AQ (∀k,k<(Qc s n.tree).length->(((Qc s n.tree).getD k []).length:Int)<=Qa6 n.size k/\Qa6 n.size k<=12/\(Qa1 ((Qc s n.tree).getD k []) (Qa7 n.size k)).1=(Qc s n.tree).getD k []++AB (Qa6 n.size k -((Qc s n.tree).getD k []).length).toNat 0):=Pm.hid fun k hk=>
  fill_eq h1 h2 (by omega) (Ad.1 h4 k (Aj.2 (by omega)))
 rw[hX.out];clear hf h1 h3 h4 ht hX;generalize Qc s n.tree=l at*;obtain⟨kind,links,size,⟨⟨p1,p2,p3,p4,p5⟩,depth,many⟩⟩:=n;simp only at h2 hs hl hm hm0 hP c⊢;subst h2;refine kE ?_;refine Qa 0 (h:=?_);refine Qa 1 (h:=?_)
 repeat refine kA ?_
 refine Qo (fun m st=> ∃(k:Nat),k<=l.length/\m=16 -k/\(QaJ size l k).length<=12*k/\
  st=⟨37,[(6,.d (tStrs l)),(7,.d (dI k)),(5,.d (dS (QaJ size l k))),(3,.d (.pd (rNode ⟨1,links,size,⟨⟨p1,p2,p3,p4,p5⟩,depth,many⟩⟩)))],[]⟩) [6,7,5,3] 0 16 ⟨0,by omega,rfl,by simp[QaJ],rfl⟩ (round:=?_)
 rintro m st ⟨k,hk,rfl,hpl,rfl⟩
 repeat refine kG ?_
 cases q4:decide ((k:Int)<many)
 ·repeat refine kA ?_
  refine Qb (hx:=?_);have:k=l.length:=by simp at q4;omega
  rw[this]
 have hk2:k<l.length:=by simp at q4;omega
 obtain⟨x,hx⟩: ∃x,l[k]? =some x:=⟨_,A2 hk2⟩;have hr:=Qt (f:=fun s=>[dS s]) hx;obtain⟨f1,f2,f3⟩:=hP.out k hk2;have hd:l.getD k []=x:=by rw[A4,hx];rfl
 have hst:=Qfr size l k;rw[hd] at f1 f3 hst;rw[f3] at hst
 replace hst:=Pm.hid hst
 have c13:=QkH size k hs.1 hs.2 (by omega);obtain⟨z,hz⟩:=AN (show 0<=Qa6 size k -x.length by omega);have cz:=Qsb z (by omega);rw[hz,A3] at hst
 have hlen:(QaJ size l (k+1)).length<=12*(k+1):=by
  rw[hst.out];simp only[A5,AC];omega
 rw[hst.out] at hlen;clear hx hP f3 hd
 repeat' first|refine kS ?_|refine qS (iy hr) ?_|refine qS (QcX rfl rfl (by simp only[A5,AC] at*;omega)) ?_|((rw[hz];refine stepS (Qdh cK cz rfl) (k:=?_)))|refine kU ?_|fail
 all_goals first
  |(refine Qh (16 -(k+1)) (by omega) ⟨k+1,by omega,rfl,by rw[hst.out];exact hlen,?_⟩
    rw[hst.out]
    simp[keepE,go_sem];done)
theorem RelD.nil{S:Nat->Prop}{v:AH}(h:RelD S w (.v (.slice none 0 0)) v)(n:Nat):RelD S w (.sl true n []) v:=by cases h;exact .slnil _ _ _ _
abbrev dFlat(F:List Gr.It×List Qb7):D:= .agg [.sl true 2 (F.1.map rIt),.sl true 3 (F.2.map rTh)]
theorem RelD.nilFlat{S:Nat->Prop}{v:AH}(h:RelD S w (.agg [.v (.slice none 0 0),.v (.slice none 0 0)]) v):RelD S w (dFlat ([],[])) v:=by
 cases h with
 |agg _ cs hl hr=>
  match cs,hl with
  |[a,b],_=>
   refine .agg _ _ rfl fun i d x hd hx=>?_
   grind [nil]
theorem RelD.nilFlat2{S:Nat->Prop}{v:AH}{b:Bool}(h:RelD S w (.tup [.agg [.v (.slice none 0 0),.v (.slice none 0 0)],dB b]) v):RelD S w (.tup [dFlat ([],[]),dB b]) v:=by
 cases h with
 |tup _ cs hl hr=>
  refine .tup _ cs hl fun i d x hd hx=>?_
  grind [nilFlat]
def Qez{s:Pm.Store}(h:Qae s t=true): ∃L,Qck s (Qc s t) [([],0)] L/\L.length<=144/\(QaI s t).1=L.map Qbo:=by
 have hF:=(QeI s t).1 h;unfold Qae at h;simp only[A7,beq_iff_eq] at h;obtain⟨L,g1,g2,g3⟩:=QgM s hF.root h.1.2;exact⟨L,g1,g2,by rw[g3]⟩
def Qbf(s:Pm.Store)(t:Pl.Tree):List Gr.It×List Qb7:=((QaI s t).1.map fun x=>(x.1,x.2.toNat),QaN s (Qc s t) (Qc s t).length)
theorem QdU{s:Pm.Store}{L:List Gr.It}(h:(QaI s t).1=L.map Qbo):Qbf s t=(L,QaN s (Qc s t) (Qc s t).length):=by
 unfold Qbf;rw[h,Aq]
 congr 1
 conv=>rhs;rw[<-List.map_id L]
 grind [List.map_congr_left,Qbo]
def al17Of(s:Pm.Store)(hg:QP s)(t:Pl.Tree):Pure A0 51 [dSt s,dTree t] (if Qae s t then .tup [dFlat (Qbf s t),dB true] else .tup [dFlat ([],[]),dB false]):=by
 have c1:=al15All s hg t;cases h0:Qae s t
 ·unfold QbU at c1
  rw[h0] at c1;rw[if_neg (by simp)];refine Pure.imp (x:= .tup [.agg [.v (.slice none 0 0),.v (.slice none 0 0)],dB false]) ?_ fun _ _ _=>RelD.nilFlat2
  refine kD ?_;refine Qa 0 (h:=?_);refine Qa 1 (h:=?_)
  repeat refine kA ?_
  (refine Qa 2 (h:=?_);refine QR (hx:=?_))
  rfl
 ·rw[if_pos rfl]
  obtain⟨L,hL,hl,hfd⟩:=Qez h0;rw[QdU hfd];have hF:=(QeI s t).1 h0;have ht:=Ql8 h0;have c2:=QlW s hg t ht;obtain⟨htx,hx16,hno⟩:=Qg8 hF.tab;unfold QbU at c1;rw[h0,if_pos rfl,hfd] at c1;have hm:(L.map Qbo).map rFnd=L.map rIt:=by rw[Aq];rfl
  simp only[tFnds] at c1;rw[hm] at c1;have c3:=Pm.hid fun k h=>QtD s hg _ (hF.file k h)
  have hnd:Qk s t=Qu (Qc s t):=rfl
  have hkf:AQ (∀k,k<(Qk s t).length->((Qk s t).getD k Qd).kind=0/\QbL s (Qc s t) k=[]∨((Qk s t).getD k Qd).kind=2/\QbL s (Qc s t) k=[(k,true,[])]∨
   ((Qk s t).getD k Qd).kind=1/\QbL s (Qc s t) k=[(k,false,Qad s ((Qk s t).getD k Qd))]):=Pm.hid fun k _=>by
   have hc:=Qfy (nsOk s t) k;unfold QbL;rw[<-hnd];rcases hc with hc|hc|hc
   ·exact .inl ⟨hc,by rw[if_pos (by unfold Qs;rw[hc];rfl)]⟩
   ·exact .inr (.inr ⟨hc,by rw[if_neg (by unfold Qs;rw[hc];decide),hc];rfl⟩)
   ·refine .inr (.inl ⟨hc,?_⟩)
    rw[if_neg (by unfold Qs;rw[hc];decide),hc]
    have:Qad s ((Qk s t).getD k Qd)=[]:=by
     unfold Qad QO;rw[hc];simp
    rw[this];rfl
  have hln:(Qc s t).length=(Qk s t).length:=by rw[hnd];exact(A6 ..).symm
  have hst:=Pm.hid (QhI s (Qc s t));have htl:=Pm.hid (Qme s (Qc s t));rw[hln] at hx16⊢;have hz:QaN s (Qc s t) 0=[]:=rfl;clear h0 hF ht htx hno hL hm hfd hnd hln;generalize QaN s (Qc s t)=th at*;generalize QbL s (Qc s t)=tg at*;generalize Qk s t=ns at*;refine kD ?_;refine Qa 0 (h:=?_);refine Qa 1 (h:=?_)
  repeat refine kA ?_
  refine Qo (fun mm st=> ∃k:Nat,k<=ns.length/\mm=ns.length -k/\
   st=⟨62,[(10,.d (dI k)),(9,.d (.sl true 10 (ns.map rNode))),(8,.ptr 4 0 0),(4,.ptr 2 0 0),(2,.d (.pd (rSt s)))],
    [.row 1 [],.row 1 [],.row 0 [.d (.v (.slice none 0 0)),.d (.v (.slice none 0 0))],.arr (th k).length 3 68 ((th k).map rTh),.row 0 [.d (.sl true 2 (L.map rIt)),.osl 3 (th k).length 0 (th k).length]]⟩) [10,9,8,4,2] 5 ns.length ⟨0,by omega,rfl,by rw[hz];simp[keepE,go_sem]⟩ (round:=?_)
  rintro mm st ⟨k,hk,rfl,rfl⟩;have hlk:=htl.out k
  repeat refine kG ?_
  cases q3:decide ((k:Int)<(ns.length:Int))
  ·have:k=ns.length:=by simp at q3;omega
   rw[<-this]
   repeat refine kA ?_
   refine Qa 3 (h:=?_);refine Qa 2 (h:=?_);refine QR (hx:=?_);simp[AD]
  have hk2:k<ns.length:=by simp at q3;omega
  obtain⟨nd,hnd⟩: ∃nd,ns[k]? =some nd:=⟨_,A2 hk2⟩;have hgd:ns.getD k Qd=nd:=by rw[A4,hnd];rfl
  have hr:=Qt (f:=rNode) hnd;have hkc:=hkf.out k hk2;have hth:=hst.out k;have c4:=c3.out k;rw[hgd] at hkc c4;clear hnd hgd hkf hst c3 htl;generalize Qad s nd=tx at*;generalize hth2:th (k+1)=t2 at*;generalize th k=t1 at*;obtain⟨kd,links,size,tree⟩:=nd;simp only at hkc c4;rcases hkc with⟨rfl,htg⟩|⟨rfl,htg⟩|⟨rfl,htg⟩
  ·rw[htg,AG] at hth
   clear c4
   repeat' first|refine kS ?_|refine qS (iy hr) ?_|refine kU ?_|fail
   all_goals first
    |(exfalso;simp at*;done)
    |(refine Qh (ns.length -(k+1)) (by omega) ⟨k+1,by omega,rfl,?_⟩
      rw[hth2,hth]
      simp[keepE,go_sem];done)
  ·rw[htg] at hth
   clear c4
   repeat' first|refine kS ?_|refine qS (iy hr) ?_|refine QV Ty.h rfl Ty.h (hb:=?_) (kk:=?_)|refine kU ?_|fail
   all_goals first
    |(exfalso;simp at*;done)
    |(show((t1.map rTh).length+1)*40<=140737488355328
      rw[A6];omega)
    |(show((t1.map rTh).length+1)*32<=140737488355328
      rw[A6];omega)
    |(refine Qh (ns.length -(k+1)) (by omega) ⟨k+1,by omega,rfl,?_⟩
      rw[hth2,hth]
      simp[keepE,go_sem];done)
  ·rw[htg] at hth
   have c4:=c4 rfl
   repeat' first|refine kS ?_|refine qD (iy hr) ?_|refine qS (iy hr) ?_|(show AWP _ (.region 13 _ _) _ _;refine(Fg.awp_drawF (id:=13) [] [11,13] ?_))|refine Qoe Ty.h rfl Ty.h (hb:=?_) (kk:=?_)|refine kU ?_|fail
   all_goals first
    |(exfalso;simp at*;done)
    |(show((t1.map rTh).length+1)*40<=140737488355328
      rw[A6];omega)
    |(show((t1.map rTh).length+1)*32<=140737488355328
      rw[A6];omega)
    |(refine Qh (ns.length -(k+1)) (by omega) ⟨k+1,by omega,rfl,?_⟩
      rw[hth2,hth]
      simp[keepE,go_sem];done)

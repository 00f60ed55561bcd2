/- Of ftw_card; no condition. -/
import Derived.Test.YthbonbflkdonkaaGreatDoorP36
import Derived.Test.YthbonbflkdonkaaGreatDoorP37
import Derived.Shelf.SlSortCmp.NoneTotal
set_option linter.all false
set_option maxRecDepth 100000
set_option maxHeartbeats 16000000
open Bool renaming and_eq_true->A7,false_eq_true->AF
open Go renaming Value->AW
open Go.Op renaming bytesLess->AQ
open Go.Proofs.AnyF renaming slices_SortFunc_none->A9
open Go.Proofs.Tryz renaming prog->A0,underlying69->AH,underlying22->AI
open Go.RowKit renaming Below->AO,Hid->AP
open Go.RowKit.Below renaming refl->AU
open Go.Sort renaming ahead->AE
open Go.Value renaming cells->AT
open Int renaming toNat_natCast->AJ
open List renaming getD_eq_getElem?_getD->A1,getElem?_eq_getElem->A2,replicate->A3,length_append->A4,length_map->A6,length_replicate->A8,length_eq_zero_iff->AA,range->AB,take_of_length_le->AC,append_nil->AD,getElem?_map->AG,all_eq_true->AK,length_take->AL,range_succ->AM,mem_range->AN,map_map->AS
open Nat renaming zero_add->AR
open Option.some renaming inj->A5,injEq->AX
namespace Go.Proofs.YthbonbflkdonkaaGreatDoor
noncomputable section
section
open Go.RowKit
namespace Aw
theorem QhQ(s:Pm.Store)(t:Pl.Tree):(Qc0 s t&&Qcr s (Qc s t))=Qab s t:=by
 rw[Bool.eq_iff_iff,QdV];have hnl:(Qh s t).length=(Qc s t).length:=by unfold Qh;grind
 rw[A7];unfold Qc0 Qcr Qcm QcA;rw[A7,A7,decide_eq_true_eq,AK]
 have hk2: ∀k,Qr (Qh s t) k=2↔((Qh s t).getD k Qd).kind=2:=fun k=>by
  grind [Qr]
 have hk1: ∀k,Qr (Qh s t) k=1↔((Qh s t).getD k Qd).kind=1:=fun k=>by
  grind [Qr]
 show((Qav s t=true/\Qr (Qh s t) 0=2)/\ ∀k∈AB (Qc s t).length,Qak s (Qc s t) k=true)/\_↔_;rw[<-hnl];constructor
 ·rintro⟨⟨⟨h1,h2⟩,h3⟩,h4⟩
  have hG: ∀k,Qr (Qh s t) k≠0->Qak s (Qc s t) k=true:=fun k hk=>h3 k (AN.2 (QdP hk))
  refine⟨h1,(hk2 0).1 h2,fun k hk=>?_,fun k hk=>?_,?_⟩
  ·have h:=hG k (by grind)
   have e:Qr (Qt (Qc s t)) k=1:=(hk1 k).2 hk;unfold Qak at h;rw[e] at h;show Qac s ((Qt (Qc s t)).getD k Qd)=true
   grind
  ·have h:=hG k (by grind)
   have e:Qr (Qt (Qc s t)) k=2:=(hk2 k).2 hk;unfold Qak at h;rw[e] at h;show(Qf s ((Qt (Qc s t)).getD k Qd)).2=true
   grind
  grind [Qh,QdP]
 ·rintro⟨h1,h2,h3,h4,nm,h5,h6⟩
  grind [Qak,Qf5,nsOk,Qr,Qh]
def QqK(s:Pm.Store)(t:Pl.Tree)(p:List UInt8):Qc1 s (Qc s t) p=match Q7 p with|none=> -1|some q=>(Qa1 s (Qh s t) 0 q).getD (-1):=by
 unfold Qc1;cases Q7 p with
 |none=>rfl
 |some q=>
  simp only;unfold Qa1;rw[<-Qr6];rfl
end Aw
end
section
open Go.RowKit
namespace Aw
open Pm
theorem Qpn(s:Pm.Store)(t:Pl.Tree): ∀p∈(QX s t).1,Pm.PtrIn p:=fun p hp=>by
 cases ht:QL s t
 ·grind [QX]
 ·have h:=Pl.QdA ((QeS ht p hp).1)
  unfold Pm.PtrIn Pm.InI;omega
def Qbu(size:Int)(x:List (List UInt8))(n:Nat):List UInt8:=(AB n).flatMap fun k=>(Qbi (x.getD k []) (QaY size k)).1
theorem Qi0(size:Int)(x:List (List UInt8))(n:Nat):Qbu size x (n+1)=Qbu size x n++(Qbi (x.getD n []) (QaY size n)).1:=by grind [Qbu,AM]
def Qay(s:Pm.Store)(n:Qk):List UInt8:=if Qac s n=true then Qbu n.size ((QX s n.tree).1.map fun p=>(Qi s.1 p).1) (QX s n.tree).1.length else []
theorem bTextS(s:Pm.Store)(hg:QU s)(htx:0<=s.2.2.1)(hin: ∀t,∀p∈(QX s t).1,Pm.PtrIn p)(n:Qk)(hno:QF n=true)(hk:n.kind=1):
 Pure A0 20 [.pd (rSt s),dNode n] (.tup [dS (Qay s n),dB (Qac s n)]):=by
 intro B σ S H w cargs hB hS hl hr
 match cargs,hl with
 |[a,b],_=>
 have h0:=hr 0 _ a rfl rfl;have h1:=hr 1 _ b rfl rfl
 obtain rfl:b=nodeV n:=by
  have:=QfY (l:=[dNode n]) (vs:=[nodeV n]) (cs:=[b]) rfl rfl (fun i d v hd hv=>hr (i+1) d v hd hv);simpa using this
 have HW:=hid (AtW.mk hB hS h0);have HL:=hid (hB.ltOf hS);clear hr h1 hB hS
 suffices h:Calls A0 20 #[a,nodeV n] w fun e w'=>e= .returned (.tuple #[.string ⟨(Qay s n).toArray⟩,.bool (Qac s n)])/\AO w.heap.size w w' by
  refine h.mono ?_;rintro e w' ⟨rfl,hb⟩;refine⟨_,rfl,hb,.tup _ _ rfl fun i d v hd hv=>?_⟩
  match i,hd,hv with
  |0,hd,hv=>obtain rfl:=A5 hd;obtain rfl:=A5 hv;exact .v _
  |1,hd,hv=>obtain rfl:=A5 hd;obtain rfl:=A5 hv;exact .v _
 obtain⟨ad,rfl⟩: ∃ad,a= .pointer ad:=by cases h0;exact⟨_,rfl⟩
 clear h0;have Hnn:=hid hno;have Hf:=hid (Qk9 (s:=s) hno hk);have Hft:=hid (Qay.eq_def s n);obtain⟨kd,links,size,⟨⟨p1,p2,p3,p4,p5⟩,depth,many⟩⟩:=n;simp only at hk Hft;subst hk
 have Hok1:AP (∀wk,AO w.heap.size w wk->Calls A0 38 #[.agg #[.int .i64 1,.int .i64 links,.int .i64 size,.int .i64 p1,.int .i64 p2,.int .i64 p3,.int .i64 p4,.int .i64 p5,.int .i64 depth,.int .i64 many]] wk fun e w'=>e= .returned (.bool true)/\AO wk.heap.size wk w'):=
  hid fun wk hb=>(cNodeOk HW.out hb ⟨1,links,size,⟨⟨p1,p2,p3,p4,p5⟩,depth,many⟩⟩).mono fun e w' h=>⟨by rw[h.1,Hnn.out],h.2⟩
 have Hlv:AP (∀wk,AO w.heap.size w wk->Calls A0 39 #[.pointer ad,.agg #[.int .i64 p1,.int .i64 p2,.int .i64 p3,.int .i64 p4,.int .i64 p5,.int .i64 depth,.int .i64 many]] wk fun e w'=>
  ∃A c,e= .returned (.tuple #[.slice A (QX s ⟨⟨p1,p2,p3,p4,p5⟩,depth,many⟩).1.length c,.bool (QX s ⟨⟨p1,p2,p3,p4,p5⟩,depth,many⟩).2])/\AO wk.heap.size wk w'/\Pm.At w' w'.heap.size A (QX s ⟨⟨p1,p2,p3,p4,p5⟩,depth,many⟩).1):=
  hid fun wk hb=>cLeaves HW.out hb hg htx ⟨⟨p1,p2,p3,p4,p5⟩,depth,many⟩ (hin _)
 clear Hnn;unfold nodeV
 go_enter Tryz.func20,Tryz.ntmps20
 go_wp2_with fail
 refine(Hok1.out _ (bnew _ _)).mono ?_;rintro e w1 ⟨rfl,hb1⟩
 have Hbx:AP (∀(j:Nat) v,([.int .i64 1,.int .i64 links,.int .i64 size,.int .i64 p1,.int .i64 p2,.int .i64 p3,.int .i64 p4,.int .i64 p5,.int .i64 depth,.int .i64 many]:List AW)[j]? =some v->w1.cell? ⟨w.heap.size,j,none⟩=some v):=hid fun j v hv=>by
  rw[hb1.cell (by simp)];rw[cell_of_row _ _ j _ _ _ (Qej _ _)];exact(List.getElem?_toArray ..).trans hv
 have Hb1:=hid (btr (bnew w _) hb1);have Hsz:AP (w.heap.size<w1.heap.size):=hid (by have:=hb1.size;simp at this;omega);clear hb1;have x0:=Hbx.out 0 _ rfl;have x3:=Hbx.out 3 _ rfl;have x4:=Hbx.out 4 _ rfl;have x5:=Hbx.out 5 _ rfl;have x6:=Hbx.out 6 _ rfl;have x7:=Hbx.out 7 _ rfl;have x8:=Hbx.out 8 _ rfl;have x9:=Hbx.out 9 _ rfl
 go_wp2_with fail
 refine(Hlv.out _ Hb1.out).mono ?_;rintro e w2 ⟨A,c,rfl,hb2,hA⟩;have Hb2:=hid (btr Hb1.out hb2);have HA2:=hid hA;have y2:=(hb2.cell (p:=⟨w.heap.size,2,none⟩) Hsz.out).trans (Hbx.out 2 _ rfl);have Hsz2:AP (w.heap.size<w2.heap.size):=hid (by have:=hb2.size;have:=Hsz.out;omega);clear x0 x3 x4 x5 x6 x7 x8 x9 Hbx Hsz Hb1 hA hb2 Hlv Hok1;cases ht:(QL s ⟨⟨p1,p2,p3,p4,p5⟩,depth,many⟩)
 ·have hlv:QX s ⟨⟨p1,p2,p3,p4,p5⟩,depth,many⟩=([],false):=by unfold QX;rw[ht];rfl
  have hfl:AP (Qac s ⟨1,links,size,⟨⟨p1,p2,p3,p4,p5⟩,depth,many⟩⟩=false):=hid (by rw[Hf.out,ht];rfl);clear Hf;rw[hlv]
  go_wp2
  go_ret2
  exact⟨by rw[Hft.out,hfl.out];rfl,Hb2.out⟩
 have hl2:(QX s ⟨⟨p1,p2,p3,p4,p5⟩,depth,many⟩).2=true:=by unfold QX;rw[if_pos ht]
 rw[ht] at Hf;have Hho:=hid (QeS ht);have Hll:=hid (QeJ ht);rw[hl2];clear hl2 ht;simp only at Hf Hll;generalize (QX s ⟨⟨p1,p2,p3,p4,p5⟩,depth,many⟩).1=ps at HA2 Hho Hll Hf Hft⊢;obtain⟨fo,hfo⟩: ∃fo,AP (Qac s ⟨1,links,size,⟨⟨p1,p2,p3,p4,p5⟩,depth,many⟩⟩=fo):=⟨_,hid rfl⟩;rw[hfo.out] at Hf Hft
 go_wp2_with fail
 go_loopw [34] (fun iv wr=> ∃(k:Nat) (txt:List UInt8),k<=ps.length/\iv= .int .i64 k/\AP (Bld w2.heap.size txt wr)/\txt.length<=12*k/\AP (txt=Qbu size (ps.map fun p=>(Qi s.1 p).1) k)/\AP ((AB k).all (fun k=>Qb8 size k ((ps.map fun p=>(Qi s.1 p).1).getD k []))=true)/\AP (AO w2.heap.size w2 wr)) (fun iv _=>ps.length -(intOf iv).toNat)
 case atStart=>exact⟨0,[],by omega,rfl,hid (bldNew w2),by simp,hid rfl,hid rfl,hid (bnew _ _)⟩
 case round=>
  obtain⟨k,txt,hkl,rfl,HB,htl,HX,HP,Hbel⟩:=hrel
  by_cases hlt:k<ps.length
  ·have hltI:(k:Int)<ps.length:=by omega
   obtain⟨bb,off,cs,rfl,hbb,hc,hv⟩:=(HA2.out.up Hbel.out).elem hlt;obtain⟨p,He⟩: ∃p,AP (p=ps[k]):=⟨ps[k],hid rfl⟩;rw[<-He.out] at hc;obtain⟨rfl,hpin⟩:=hc;have Hpk:=hid ((Hho.out p (by rw[He.out];exact List.getElem_mem hlt)).1)
   have Hx:AP ((ps.map fun p=>(Qi s.1 p).1).getD k []=(Qi s.1 p).1):=hid (by
    rw[A1,AG,A2 hlt,<-He.out];rfl)
   have Hrl:=hid (Qiy s hg p);obtain⟨q1,q2,q3,q4,q5⟩:=p;have e0:=hv 0 _ rfl;have e1:=hv 1 _ rfl;have e2:=hv 2 _ rfl;have e3:=hv 3 _ rfl;have e4:=hv 4 _ rfl;simp only[Rep.size,Nat.add_zero] at e0 e1 e2 e3 e4;clear hv hbb hpin He
   go_wp2_with fail
   refine(cRead HW.out (btr (btr Hb2.out Hbel.out) (bnew _ _)) hg ⟨q1,q2,q3,q4,q5⟩ (fun _=>Hpk.out)).mono ?_;rintro e w3 ⟨rfl,hb3⟩;have Hb3:=hid (btr Hbel.out (btr (bnew _ _) hb3));have HB3:=hid (HB.out.below (btr (bnew _ _) hb3));have z2:=(Hb3.out.cell (p:=⟨w.heap.size,2,none⟩) Hsz2.out).trans y2;have Hfp:=QgD hno rfl (k:=k) (by have:=Hll.out.1;simp only;omega);simp only at Hfp;have hT:AP (Qb8 size k (Qi s.1 ⟨q1,q2,q3,q4,q5⟩).1=true->(AB (k+1)).all (fun k=>Qb8 size k ((ps.map fun p=>(Qi s.1 p).1).getD k []))=true):=hid fun h=>Pl.Qdo (p:=fun k=>Qb8 size k ((ps.map fun p=>(Qi s.1 p).1).getD k [])) HP.out (by rw[Hx.out];exact h)
   have hF:AP (Qb8 size k (Qi s.1 ⟨q1,q2,q3,q4,q5⟩).1=false->fo=false):=hid fun h=>by
    rw[Hf.out,Bool.true_and];exact Pl.Qdj (p:=fun k=>Qb8 size k ((ps.map fun p=>(Qi s.1 p).1).getD k [])) hlt (by rw[Hx.out];exact h)
   have hX:AP (Qbu size (ps.map fun p=>(Qi s.1 p).1) (k+1)=txt++(Qbi (Qi s.1 ⟨q1,q2,q3,q4,q5⟩).1 (QaY size k)).1):=hid (by rw[Qi0,Hx.out,HX.out]);clear hb3 e0 e1 e2 e3 e4 Hx HB y2 HX;generalize (Qi s.1 ⟨q1,q2,q3,q4,q5⟩).2=rok at*;generalize (Qi s.1 ⟨q1,q2,q3,q4,q5⟩).1=x at*
   go_wp2_with fail
   refine(QpA HW.out (btr Hb2.out Hb3.out) size k (by omega) (by omega) (by have:=Hll.out;omega)).mono ?_;rintro e w4 ⟨rfl,hb4⟩;have Hb4:=hid (btr Hb3.out hb4);have HB4:=hid (HB3.out.below hb4);clear hb4 HB3 z2
   go_wp2_with fail
   refine(QpB HW.out (btr Hb2.out Hb4.out) x (QaY size k) (by have:=Hrl.out;omega)).mono ?_;rintro e w5 ⟨rfl,hb5⟩;have Hb5:=hid (btr Hb4.out hb5);have HB5:=hid (HB4.out.below hb5);clear hb5 HB4;have hpd:Qb8 size k x=((Qbi x (QaY size k)).2&& !(([0]:List UInt8).isSuffixOf x)):=rfl;rw[hpd] at hT hF
   have hfl:(Qbi x (QaY size k)).2=true->(Qbi x (QaY size k)).1.length<=12:=fun h=>by
    unfold Qbi at h⊢;split at h
    ·rename_i hc
     rw[if_pos hc];simp only[A7,decide_eq_true_eq,Pl.inR] at hc;simp only[A4,A8];omega
    ·cases h
   clear hpd;generalize Qbi x (QaY size k)=fl at*;obtain⟨full,fine⟩:=fl;simp only at hT hF hfl hX;cases fine
   ·have hff:=hid (hF.out rfl)
    clear hT hF hfl
    go_wp2
    go_ret2
    exact⟨by rw[hfo.out,Hft.out,hff.out];rfl,btr Hb2.out Hb5.out⟩
   ·have hfl:=hfl rfl
    go_wp2_with fail
    refine(QpC x [0] (by have:=Hrl.out;omega) _).mono ?_;rintro e w6 ⟨rfl,hb6⟩;have Hb6:=hid (btr Hb5.out hb6);have HB6:=hid (HB5.out.below hb6);clear hb6 HB5;cases hsx:(([0]:List UInt8).isSuffixOf x)
    ·have hall:=hid (hT.out (by rw[hsx];rfl))
     clear hT hF
     go_wp2_with fail
     refine(bldStr HB6.out full (by have:=Hll.out;omega)).mono ?_;rintro e w7 ⟨rfl,hB7,hb7⟩;have HB7:=hid hB7;have Hb7:=hid (Hb6.out.trans hb7);clear hB7 hb7
     go_wp2_with fail
     go_roundw
     case rel=>exact⟨k+1,txt++full,by omega,by go_num,HB7,by simp only[A4];omega,hid hX.out.symm,hall,Hb7⟩
     case measure=>simp only[intOf];omega
    ·have hff:=hid (hF.out (by rw[hsx];rfl))
     clear hT hF
     go_wp2
     go_ret2
     exact⟨by rw[hfo.out,Hft.out,hff.out];rfl,btr Hb2.out Hb6.out⟩
  ·have hk':k=ps.length:=by omega
   have hff:AP (fo=true):=hid (by rw[Hf.out,<-hk',HP.out];rfl);have hltI: ¬(k:Int)<ps.length:=by omega
   go_wp2_with fail
   refine(bldText HB.out).mono ?_;rintro e w5 ⟨rfl,hb5⟩
   go_wp2
   go_ret2
   exact⟨by rw[hfo.out,Hft.out,hff.out,HX.out,hk'];rfl,btr Hb2.out (Hbel.out.trans hb5)⟩
theorem Pure.imp{P:Program}{f:FuncId}{l:List D}{x y:D}(h:Pure P f l x)(hxy: ∀(S:Nat->Prop) (w:World) (v:AW),RelD S w x v->RelD S w y v):Pure P f l y:=by
 intro B σ S H w cargs hB hS hl hr;refine(h B σ S H w cargs hB hS hl hr).mono ?_
 grind
def bTextA(s:Pm.Store)(hg:QU s)(htx:0<=s.2.2.1)(n:Qk)(hn:QF n=true):Pure A0 20 [.pd (rSt s),dNode n] (.tup [dS (Qay s n),dB (Qac s n)]):=by
 by_cases hk:n.kind=1
 ·exact bTextS s hg htx (Qpn s) n hn hk
 have hfo:Qac s n=false:=by
  unfold Qac;have:(n.kind==1)=false:=by simpa using hk
  rw[this];simp
 have hft:Qay s n=[]:=by unfold Qay;rw[hfo];rfl
 rw[hfo,hft];have c:=bNodeOk n;rw[hn] at c;obtain⟨kd,links,size,⟨⟨p1,p2,p3,p4,p5⟩,depth,many⟩⟩:=n;simp only at hk c⊢;have hd:decide (kd≠1)=true:=decide_eq_true hk;refine kE ?_;refine Qa 0 (h:=?_)
 repeat' first|refine kA ?_|refine kV ?_ ?_<;>intro q|fail
 all_goals first|exact Qb (hx:=rfl)|exfalso;simp at*;done|exfalso;simp at*;omega
end Aw
end
section
open Go.RowKit
namespace Aw
variable{w:World}{t:Pl.Tree}
attribute [local irreducible] ASeq ADraw AWP Loc mget mset AStep Fg.PlanF Fg.Flts
theorem below_grow(w:World)(n:Nat)(os:Array Obj):AO w.heap.size w (Go.Sort.grow (AE w n) os):=
 ⟨rfl,rfl,rfl,by simp_all,fun k hk=>by
   show(w.heap++os)[k]? =w.heap[k]?
   grind⟩
theorem Qn9{α β:Type}{l:List α}{cs:List β}(h:l.length=cs.length)(h2:l.length=2): ∃a b,cs=[a,b]:=by
 match cs,h.symm.trans h2 with
 |[a,b],_=>grind
theorem QpF(L:List Gr.It)(g:Nat)(hl:L.length<=1000000)(ha:L.Pairwise fun a b=>AQ (QB a.1) (QB b.1)=true):
 Does A0 187 [.osl 0 g 0 L.length,.fn (.func 188) []] [.arr g 2 61 (L.map rIt)] [.osl 0 g 0 L.length] (.d (.tup [])) [.arr g 2 61 (L.map rIt)]:=by
 refine Qp7 (fun i C hC=>?_) fun B σ S w cargs hB hS hl' hr=>?_
 ·match i,hC with
  |0,hC=>obtain rfl:=A5 hC;exact⟨rfl,rfl,.inr ⟨rfl,rfl,0,L.length,by simp⟩⟩
 obtain⟨v0,v1,rfl⟩:=Qn9 hl' rfl;have h0:=hr 0 _ v0 rfl rfl;have h1:=hr 1 _ v1 rfl rfl
 obtain rfl:v1= .func (.func 188) #[] #[]:=by
  cases h1 with
  |fn _ _ cs hl h=>
   have:cs=[]:=AA.1 hl.symm;subst this;rfl
 suffices h:Calls A0 187 #[v0,.func (.func 188) #[] #[]] w fun e w'=>e= .returned (.tuple #[])/\AO w.heap.size w w' from
  h.mono fun e w' ⟨h1,h2⟩=>⟨_,h1,h2,.tup [] [] rfl fun i d x hd=>by simp at hd⟩
 cases h0 with
 |osl _ _ _ _ _ ho g' sz T rows hk hg h=>
  simp only[List.getElem?_cons_zero,AX,Blk.arr.injEq] at hk;obtain⟨rfl,rfl,rfl,rfl⟩:=hk;obtain⟨_,⟨b,cap,cs,T',hb,hcap,hmax,rfl,hcs,hsz⟩|⟨_,hn,rfl⟩⟩:=h rfl
  ·have hblk:=(hS.σUp 0 b (by simp) hb).1
   obtain⟨_,⟨b',cs',hb',hcs',hc⟩|⟨hno,_⟩⟩:=hS.blk 0 _ rfl;rotate_left
   ·rw[hb] at hno;cases hno
   rw[hb] at hb';obtain rfl:=A5 hb';rw[hcs] at hcs'
   obtain⟨rfl,rfl⟩:cs=cs'/\T'=61:=by
    have:=A5 hcs';injection this with e1 e2;exact⟨e1,e2⟩
   have hH:Go.Sort.HoldsK Qcf 2 w b (0*2) L.toArray:=by
    intro j hj;rw[Go.Sort.size_flatK] at hj;have hsz2:L.toArray.size=L.length:=rfl;have hi:j/2<L.length:=by omega
    rw[Go.Sort.get_flatK _ _ _ _ hj,getElem!_pos L.toArray (j/2) hi];have hx:(L.map rIt)[j/2]? =some (rIt (L[j/2])):=by rw[AG,A2 hi];rfl
    refine⟨?_,frozen_of_row w b _ cs _ hcs⟩;rw[cell_of_row w b _ cs _ (0,0) hcs];have hdm:0*2+j=j/2*2+j%2:=by omega
    rw[hdm];show _=some ((Qcf L[j/2])[j%2]!);rcases(show j%2=0∨j%2=1 by omega) with e|e
    ·rw[e]
     obtain⟨v,h1,h2⟩:=hc _ 0 _ _ hx rfl;cases h2;exact h1
    ·rw[e]
     obtain⟨v,h1,h2⟩:=hc _ 1 _ _ hx rfl;cases h2;exact h1
   refine(AnyQ.slices_SortFunc Tryz.laysSortFunc_Found 2 Tryz.isAgg61 Tryz.sizeOf61 Qcf (fun _=>rfl) (fun x v hv=>by simp[Qcf] at hv;rcases hv with rfl|rfl<;>rfl) Qc5 swoIt 188 #[] b (0*2) cap L.toArray w
    Tryz.call188 (fun _ _ _ _ x y=>bSort1 x y _) hH hblk (by simp;omega)).mono ?_
   rintro e w' ⟨rfl,d',n,os,hp,hs,rfl⟩;obtain rfl:=Qm1 swoIt (ha.imp fun{a b} h=>by rw[ltIt];exact h) hp hs;refine⟨rfl,?_⟩;have:Go.Sort.putRowK Qcf 2 (AE w n) b (0*2) L.toArray=AE w n:=Go.Sort.putRow_self id _ b _ _ hH;unfold sortWorldK;rw[this];exact below_grow w n os
  ·have:L=[]:=AA.1 hn
   subst this;exact(A9 Tryz.laysSortFunc_Found none 0 _ w).mono fun e w' ⟨h1,h2⟩=>⟨h1,h2▸AU _ _⟩
def Qnu:PureF A0 189 [.d (.v (.slice none 0 0)),.fn (.func 190) []] (.tup []):=by
 intro B S w cargs hB hS hl hr;obtain⟨v0,v1,rfl⟩:=Qn9 hl rfl
 obtain rfl:v0= .slice none 0 0:=by
  have h0:=hr 0 _ v0 rfl rfl;cases h0 with|d _ _ h=>cases h;rfl
 exact(A9 Tryz.laysSortFunc_Thing none 0 v1 w).mono fun e w' ⟨h1,h2⟩=>⟨_,h1,h2▸AU _ _,.tup [] [] rfl fun i d x hd=>by simp at hd⟩
def bSort(L:List Gr.It)(hl:L.length<=1000000)(ha:L.Pairwise fun a b=>AQ (QB a.1) (QB b.1)=true):Does A0 126 [.ptr 0 0 0] (Qcy L) (Qcx L) (.tup []) (Qcy L):=by
 have c1:=QpF L L.length hl ha;have c2:=Qnu;refine kL ?hpin fun gvs=>?_
 case hpin=>have:=QrB L [];rw[AD] at this;exact this
 simp only[parA,gslot,AR,Nat.reduceAdd,Qcy,Qcx];refine QkP ?_
 repeat' first|refine kS ?_|refine(Qjm [1] c1 cK (hgl:=fun g hg=>?_) (k:=?_))|refine qS (Qd9 cK c2 rfl rfl) ?_|refine kU ?_|fail
 all_goals first
  |(obtain rfl:=List.mem_singleton.1 hg
    simp[AV.parts,AV.ren,rho,go_sem];done)
  |exact QkU 2 .normal (.inl rfl) rfl rfl rfl rfl rfl rfl rfl
abbrev QT:=Nat×Bool×List UInt8
abbrev rTh(x:QT):List D:=[dI (x.1:Nat),dB x.2.1,dS x.2.2]
def QbR(s:Pm.Store)(x:List (List UInt8))(k:Nat):List QT:=if Qr (Qt x) k=0 then [] else [(k,((Qt x).getD k Qd).kind==2,Qay s ((Qt x).getD k Qd))]
def QaS(s:Pm.Store)(x:List (List UInt8))(n:Nat):List QT:=(AB n).flatMap (QbR s x)
theorem QhV(s:Pm.Store)(x:List (List UInt8))(n:Nat):QaS s x (n+1)=QaS s x n++QbR s x n:=by grind [QaS,AM]
theorem Qmy(s:Pm.Store)(x:List (List UInt8)): ∀n,(QaS s x n).length<=n
 :=by intro l;induction l<;>grind [QaS,QhV,QbR]
def bFlat(s:Pm.Store)(hg:QU s)(htx:0<=s.2.2.1)(t:Pl.Tree)(x:List (List UInt8))(hx:Qc8 x)(hx16:x.length<=16)(hno: ∀k,Qr (Qt x) k≠0->QF ((Qt x).getD k Qd)=true)(m:List (Int×D))(hm:Qcn m (QaI s x))(L:List Gr.It)(hL:Qc6 s x [([],0)] L)(hl:L.length<=144):
 Pure A0 63 [.pd (rFiles s t x m)] (.agg [.sl true 2 (L.map rIt),.sl true 3 ((QaS s x x.length).map rTh)]):=by
 have dw:=bWalkF s t x m hm L.length L 0 [] [] (Nat.le_refl _) hL (by simp;omega) (fun a ha=>by simp at ha) (by simp;omega);rw[show QcG []= .v (.slice none 0 0) by unfold QcG;rw[if_pos rfl],List.nil_append] at dw;have ds:=bSort L (by omega) (Qr0 hL).2;have hgl:=fg_mem0;have hkz:=QiG hx;have hT:AP (∀k,k<x.length->Qr (Qt x) k≠0->Pure A0 20 [.pd (rSt s),dNode ((Qt x).getD k Qd)] (.tup [dS (Qay s ((Qt x).getD k Qd)),dB (Qac s ((Qt x).getD k Qd))])):=Pm.hid fun k _ hk=>bTextA s hg htx _ (hno k hk)
 clear hL;simp only[Qcy,Qcx] at dw ds hgl;refine kC ?_
 repeat' first|refine kS ?_|refine(Qo5 1 0 2 61 (h:=?_))|refine qS (Qf1 rfl) ?_|refine(Qjm [1,2] dw cK (hgl:=fun g hg=>hgl _ _ g hg (by simp[AV.parts,go_sem]) (by simp[Blk.parts,AV.parts]) _) (k:=?_))|refine(Qjm [1,2] ds cK (hgl:=fun g hg=>by simp only[List.mem_cons,List.not_mem_nil,or_false] at hg;rcases hg with rfl|rfl<;>simp[AV.parts,Blk.parts,AV.ren,rho,go_sem]) (k:=?_))|refine qS (Qdm rfl) ?_|refine kU ?_|fail
 refine Qo5 1 1 3 53 (h:=?_)
 refine Qq (fun mm st=> ∃k:Nat,k<=x.length/\mm=x.length -k/\
  st=⟨50,[(15,.d (tNds x)),(16,.d (dI x.length)),(17,.d (dI k)),(0,.d (.pd (rFiles s t x m))),(3,.ptr 1 0 0),(2,.ptr 0 0 0)],
   [.row 0 [.d (.v (.slice none 0 0)),.d (.v (.slice none 0 0))],.row 0 [.osl 2 L.length 0 L.length,.osl 3 (QaS s x k).length 0 (QaS s x k).length],.arr L.length 2 61 (L.map rIt),.arr (QaS s x k).length 3 53 ((QaS s x k).map rTh)]⟩) [15,16,17,0,3,2] 4 x.length ⟨0,by omega,rfl,by simp[keepE,go_sem,QaS]⟩ (round:=?_)
 rintro mm st ⟨k,hk,rfl,rfl⟩;have htl:=Qmy s x k
 repeat refine kG ?_
 cases q3:decide ((k:Int)<(x.length:Int))
 ·have:k=x.length:=by simp at q3;omega
  rw[<-this]
  repeat refine kA ?_
  refine Qa 2 (h:=?_);refine Qa 3 (h:=?_);refine Qa 0 (h:=?_);refine QK (hx:=?_);simp[AC]
 have hk2:k<x.length:=by simp at q3;omega
 obtain⟨y,hy⟩: ∃y,x[k]? =some y:=⟨_,A2 hk2⟩;have hyd:x.getD k []=y:=by rw[A1,hy];rfl
 have hr:=Qs (f:=fun x=>[QaK x]) hy;have hst:=Pm.hid (QhV s x k);have hz:=hkz k;rw[hyd] at hz
 by_cases hyn:y=[]
 ·have hnd:QaK y= .v (.pointer none):=by unfold QaK;rw[if_pos hyn]
  simp only[hnd] at hr;have htg:QaS s x (k+1)=QaS s x k:=by rw[hst.out];unfold QbR;rw[if_pos (hz.2 hyn),AD]
  clear hz hyd hT hkz
  repeat' first|refine kS ?_|refine qS (iy hr) ?_|refine qS (Qg8 AH rfl) ?_|refine kU ?_|fail
  all_goals first
   |(exfalso;simp at*;done)
   |(refine Qg (x.length -(k+1)) (by omega) ⟨k+1,by omega,rfl,?_⟩
     rw[htg]
     simp[keepE,go_sem];done)
 ·have hnd:QaK y= .pd (rNode (Qo y).1):=by unfold QaK;rw[if_neg hyn]
  simp only[hnd] at hr;have hnx:=QeF (x:=x) k;rw[hyd] at hnx
  have htg:QaS s x (k+1)=QaS s x k++[(k,(Qo y).1.kind==2,Qay s (Qo y).1)]:=by
   rw[hst.out];unfold QbR;rw[if_neg (fun h=>hyn (hz.1 h)),hnx]
  have c:=hT.out k hk2 (fun h=>hyn (hz.1 h));rw[hnx] at c;clear hz hyd hT hkz hst hnx hy hnd;generalize hth2:QaS s x (k+1)=th2 at*;generalize QaS s x k=th at*;generalize (Qo y).1=N at*;generalize Qay s N=tx at*;generalize Qac s N=fo at*
  repeat' first|refine kS ?_|refine qS (iy hr) ?_|refine qS (QeR AH rfl) ?_|refine qD (Qdm rfl) ?_|(show AWP _ (.region 9 _ _) _ _;refine(Fg.awp_drawF (id:=9) [] [11,13] ?_))|refine Qo8 Ty.h rfl Ty.h (hb:=?_) (kk:=?_)|refine kU ?_|fail
  all_goals first
   |(exfalso;simp at*;done)
   |(show((th.map rTh).length+1)*40<=140737488355328
     rw[A6];omega)
   |(show((th.map rTh).length+1)*32<=140737488355328
     rw[A6];omega)
   |(refine Qg (x.length -(k+1)) (by omega) ⟨k+1,by omega,rfl,?_⟩
     rw[hth2,htg]
     simp[keepE,go_sem];done)
def info_U8:(A0.info? 5).map (fun i=>(i.zero,i.size,i.bytes))=some (some (.int .u8 0),1,1):=by kernel_rfl
def Qs5(n:Nat)(h:n<=12):Pure A0 132 [dI n] (dS (A3 n 0)):=by
 refine Qd5 (vs:=[.int .i64 n]) (x:= .string ⟨(A3 n (0:UInt8)).toArray⟩) rfl fun w _=>?_
 have hso:strOfNums (A3 n 0)=⟨(A3 n (0:UInt8)).toArray⟩:=by unfold strOfNums;rw[List.map_replicate];rfl
 have hmk:=Pm.Qut (P:=A0) 22 5 _ 1 1 AI info_U8 n (by omega) (by omega) w
 have hcv:=run_convert_bytes_arg (P:=A0) (w.alloc (.cells (madeCells (Value.int .u8 0).cells (n*1)) 5)) 22 5 AI Tryz.underlying5 w.heap.size 0 n n (A3 n 0) (by simp) (fun i hi=>by
  rw[AR,cell_of_row _ _ i _ _ _ (Qej _ _)]
  simp[madeCells,AT,Nat.mod_one,A1,hi]) 9 Tryz.underlying9
 simp only[AT,Nat.mul_one] at hmk hcv;rw[hso] at hcv;clear hso
 go_enter Tryz.func132,Tryz.ntmps132
 go_wp2
 all_goals
  go_ret
  exact⟨rfl,Pm.bnew _ _⟩
theorem fill_eq{n:Qk}(h:QF n=true)(hk:n.kind=1){k:Nat}(hm:(k:Int)<n.tree.many){l:List (List UInt8)}(hp:Qa9 n.size l k=true):
 ((l.getD k []).length:Int)<=QaA n.size k/\QaA n.size k<=12/\(Qbi (l.getD k []) (QaY n.size k)).1=l.getD k []++A3 (QaA n.size k -(l.getD k []).length).toNat 0:=by grind [QgD,Pl.inR,QaA,Qa9,Qbi,Qj3]
theorem Qui(s:Pm.Store)(hg:QU s)(n:Qk)(hf:Qac s n=true):Pure A0 72 [dSt s,dNode n] (dS (Qay s n)):=by
 have hf2:=hf;unfold Qac at hf2;simp only[A7,beq_iff_eq] at hf2;obtain⟨⟨⟨h1,h2⟩,h3⟩,h4⟩:=hf2;have ht:=Qdx h3;have hs:=(Qeh h1).size;have c:=Qe8 s hg n.tree ht;have hl:=texts_len s ht;have hm:=ht.manyHi;have hm0:=ht.manyLo
 have hX:AP (Qay s n=Qbu n.size (Qc s n.tree) (Qc s n.tree).length):=Pm.hid (by
  unfold Qay
  rw[if_pos hf,Qe5 h3,(QeJ h3).1,hl])
 have hP:AP (∀k,k<(Qc s n.tree).length->(((Qc s n.tree).getD k []).length:Int)<=QaA n.size k/\QaA n.size k<=12/\(Qbi ((Qc s n.tree).getD k []) (QaY n.size k)).1=(Qc s n.tree).getD k []++A3 (QaA n.size k -((Qc s n.tree).getD k []).length).toNat 0):=Pm.hid fun k hk=>
  fill_eq h1 h2 (by omega) (AK.1 h4 k (AN.2 (by omega)))
 rw[hX.out];clear hf h1 h3 h4 ht hX;generalize Qc s n.tree=l at*;obtain⟨kind,links,size,⟨⟨p1,p2,p3,p4,p5⟩,depth,many⟩⟩:=n;simp only at h2 hs hl hm hm0 hP c⊢;subst h2;refine kE ?_;refine Qa 0 (h:=?_);refine Qa 1 (h:=?_)
 repeat refine kA ?_
 refine Qq (fun m st=> ∃(k:Nat),k<=l.length/\m=16 -k/\(Qbu size l k).length<=12*k/\
  st=⟨37,[(6,.d (tStrs l)),(7,.d (dI k)),(5,.d (dS (Qbu size l k))),(3,.d (.pd (rNode ⟨1,links,size,⟨⟨p1,p2,p3,p4,p5⟩,depth,many⟩⟩)))],[]⟩) [6,7,5,3] 0 16 ⟨0,by omega,rfl,by simp[Qbu],rfl⟩ (round:=?_)
 rintro m st ⟨k,hk,rfl,hpl,rfl⟩
 repeat refine kG ?_
 cases q4:decide ((k:Int)<many)
 ·repeat refine kA ?_
  refine Qb (hx:=?_);have:k=l.length:=by simp at q4;omega
  rw[this]
 have hk2:k<l.length:=by simp at q4;omega
 obtain⟨x,hx⟩: ∃x,l[k]? =some x:=⟨_,A2 hk2⟩;have hr:=Qs (f:=fun s=>[dS s]) hx;obtain⟨f1,f2,f3⟩:=hP.out k hk2;have hd:l.getD k []=x:=by rw[A1,hx];rfl
 have hst:=Qi0 size l k;rw[hd] at f1 f3 hst;rw[f3] at hst
 replace hst:=Pm.hid hst
 have c13:=Qlb size k hs.1 hs.2 (by omega);obtain⟨z,hz⟩:=Int.eq_ofNat_of_zero_le (show 0<=QaA size k -x.length by omega);have cz:=Qs5 z (by omega);rw[hz,AJ] at hst
 have hlen:(Qbu size l (k+1)).length<=12*(k+1):=by
  rw[hst.out];simp only[A4,A8];omega
 rw[hst.out] at hlen;clear hx hP f3 hd
 repeat' first|refine kS ?_|refine qS (iy hr) ?_|refine qS (Qdf rfl rfl (by simp only[A4,A8] at*;omega)) ?_|((rw[hz];refine stepS (Qdr cK cz rfl) (k:=?_)))|refine kU ?_|fail
 all_goals first
  |(refine Qg (16 -(k+1)) (by omega) ⟨k+1,by omega,rfl,by rw[hst.out];exact hlen,?_⟩
    rw[hst.out]
    simp[keepE,go_sem];done)
theorem RelD.nil{S:Nat->Prop}{v:AW}(h:RelD S w (.v (.slice none 0 0)) v)(n:Nat):RelD S w (.sl true n []) v:=by cases h;exact .slnil _ _ _ _
abbrev dFlat(F:List Gr.It×List QT):D:= .agg [.sl true 2 (F.1.map rIt),.sl true 3 (F.2.map rTh)]
theorem RelD.nilFlat{S:Nat->Prop}{v:AW}(h:RelD S w (.agg [.v (.slice none 0 0),.v (.slice none 0 0)]) v):RelD S w (dFlat ([],[])) v:=by
 cases h with
 |agg _ cs hl hr=>
  match cs,hl with
  |[a,b],_=>
   refine .agg _ _ rfl fun i d x hd hx=>?_
   grind [nil]
theorem RelD.nilFlat2{S:Nat->Prop}{v:AW}{b:Bool}(h:RelD S w (.tup [.agg [.v (.slice none 0 0),.v (.slice none 0 0)],dB b]) v):RelD S w (.tup [dFlat ([],[]),dB b]) v:=by
 cases h with
 |tup _ cs hl hr=>
  refine .tup _ cs hl fun i d x hd hx=>?_
  grind [nilFlat]
def QfC{s:Pm.Store}(h:Qab s t=true): ∃L,Qc6 s (Qc s t) [([],0)] L/\L.length<=144/\(Qa7 s t).1=L.map QaW:=by
 have hF:=(QdV s t).1 h;unfold Qab at h;simp only[A7,beq_iff_eq] at h;obtain⟨L,g1,g2,g3⟩:=QfA s hF.root h.1.2;exact⟨L,g1,g2,by rw[g3]⟩
def QaT(s:Pm.Store)(t:Pl.Tree):List Gr.It×List QT:=((Qa7 s t).1.map fun x=>(x.1,x.2.toNat),QaS s (Qc s t) (Qc s t).length)
theorem QfB{s:Pm.Store}{L:List Gr.It}(h:(Qa7 s t).1=L.map QaW):QaT s t=(L,QaS s (Qc s t) (Qc s t).length):=by
 unfold QaT;rw[h,AS]
 congr 1
 conv=>rhs;rw[<-List.map_id L]
 grind [List.map_congr_left,QaW]
def al17Of(s:Pm.Store)(hg:QU s)(t:Pl.Tree):Pure A0 32 [dSt s,dTree t] (if Qab s t then .tup [dFlat (QaT s t),dB true] else .tup [dFlat ([],[]),dB false]):=by
 have c1:=al15All s hg t;cases h0:Qab s t
 ·unfold QbZ at c1
  rw[h0] at c1;rw[if_neg (by simp)];refine Pure.imp (x:= .tup [.agg [.v (.slice none 0 0),.v (.slice none 0 0)],dB false]) ?_ fun _ _ _=>RelD.nilFlat2
  refine kD ?_;refine Qa 0 (h:=?_);refine Qa 1 (h:=?_)
  repeat refine kA ?_
  (refine Qa 2 (h:=?_);refine QK (hx:=?_))
  rfl
 ·rw[if_pos rfl]
  obtain⟨L,hL,hl,hfd⟩:=QfC h0;rw[QfB hfd];have hF:=(QdV s t).1 h0;have ht:=QhR h0;have c2:=Qmp s hg t ht;obtain⟨htx,hx16,hno⟩:=QgN hF.tab;unfold QbZ at c1;rw[h0,if_pos rfl,hfd] at c1;have hm:(L.map QaW).map rFnd=L.map rIt:=by rw[AS];rfl
  simp only[tFnds] at c1;rw[hm] at c1;have c3:=Pm.hid fun k h=>Qui s hg _ (hF.file k h)
  have hnd:Qh s t=Qt (Qc s t):=rfl
  have hkf:AP (∀k,k<(Qh s t).length->((Qh s t).getD k Qd).kind=0/\QbR s (Qc s t) k=[]∨((Qh s t).getD k Qd).kind=2/\QbR s (Qc s t) k=[(k,true,[])]∨
   ((Qh s t).getD k Qd).kind=1/\QbR s (Qc s t) k=[(k,false,Qay s ((Qh s t).getD k Qd))]):=Pm.hid fun k _=>by
   have hc:=Qf5 (nsOk s t) k;unfold QbR;rw[<-hnd];rcases hc with hc|hc|hc
   ·exact .inl ⟨hc,by rw[if_pos (by unfold Qr;rw[hc];rfl)]⟩
   ·exact .inr (.inr ⟨hc,by rw[if_neg (by unfold Qr;rw[hc];decide),hc];rfl⟩)
   ·refine .inr (.inl ⟨hc,?_⟩)
    rw[if_neg (by unfold Qr;rw[hc];decide),hc]
    have:Qay s ((Qh s t).getD k Qd)=[]:=by
     unfold Qay Qac;rw[hc];simp
    rw[this];rfl
  have hln:(Qc s t).length=(Qh s t).length:=by rw[hnd];exact(A6 ..).symm
  have hst:=Pm.hid (QhV s (Qc s t));have htl:=Pm.hid (Qmy s (Qc s t));rw[hln] at hx16⊢;have hz:QaS s (Qc s t) 0=[]:=rfl;clear h0 hF ht htx hno hL hm hfd hnd hln;generalize QaS s (Qc s t)=th at*;generalize QbR s (Qc s t)=tg at*;generalize Qh s t=ns at*;refine kD ?_;refine Qa 0 (h:=?_);refine Qa 1 (h:=?_)
  repeat refine kA ?_
  refine Qq (fun mm st=> ∃k:Nat,k<=ns.length/\mm=ns.length -k/\
   st=⟨62,[(10,.d (dI k)),(9,.d (.sl true 10 (ns.map rNode))),(8,.ptr 4 0 0),(4,.ptr 2 0 0),(2,.d (.pd (rSt s)))],
    [.row 1 [],.row 1 [],.row 0 [.d (.v (.slice none 0 0)),.d (.v (.slice none 0 0))],.arr (th k).length 3 53 ((th k).map rTh),.row 0 [.d (.sl true 2 (L.map rIt)),.osl 3 (th k).length 0 (th k).length]]⟩) [10,9,8,4,2] 5 ns.length ⟨0,by omega,rfl,by rw[hz];simp[keepE,go_sem]⟩ (round:=?_)
  rintro mm st ⟨k,hk,rfl,rfl⟩;have hlk:=htl.out k
  repeat refine kG ?_
  cases q3:decide ((k:Int)<(ns.length:Int))
  ·have:k=ns.length:=by simp at q3;omega
   rw[<-this]
   repeat refine kA ?_
   refine Qa 3 (h:=?_);refine Qa 2 (h:=?_);refine QK (hx:=?_);simp[AC]
  have hk2:k<ns.length:=by simp at q3;omega
  obtain⟨nd,hnd⟩: ∃nd,ns[k]? =some nd:=⟨_,A2 hk2⟩;have hgd:ns.getD k Qd=nd:=by rw[A1,hnd];rfl
  have hr:=Qs (f:=rNode) hnd;have hkc:=hkf.out k hk2;have hth:=hst.out k;have c4:=c3.out k;rw[hgd] at hkc c4;clear hnd hgd hkf hst c3 htl;generalize Qay s nd=tx at*;generalize hth2:th (k+1)=t2 at*;generalize th k=t1 at*;obtain⟨kd,links,size,tree⟩:=nd;simp only at hkc c4;rcases hkc with⟨rfl,htg⟩|⟨rfl,htg⟩|⟨rfl,htg⟩
  ·rw[htg,AD] at hth
   clear c4
   repeat' first|refine kS ?_|refine qS (iy hr) ?_|refine kU ?_|fail
   all_goals first
    |(exfalso;simp at*;done)
    |(refine Qg (ns.length -(k+1)) (by omega) ⟨k+1,by omega,rfl,?_⟩
      rw[hth2,hth]
      simp[keepE,go_sem];done)
  ·rw[htg] at hth
   clear c4
   repeat' first|refine kS ?_|refine qS (iy hr) ?_|refine QV Ty.h rfl Ty.h (hb:=?_) (kk:=?_)|refine kU ?_|fail
   all_goals first
    |(exfalso;simp at*;done)
    |(show((t1.map rTh).length+1)*40<=140737488355328
      rw[A6];omega)
    |(show((t1.map rTh).length+1)*32<=140737488355328
      rw[A6];omega)
    |(refine Qg (ns.length -(k+1)) (by omega) ⟨k+1,by omega,rfl,?_⟩
      rw[hth2,hth]
      simp[keepE,go_sem];done)
  ·rw[htg] at hth
   have c4:=c4 rfl
   repeat' first|refine kS ?_|refine qD (iy hr) ?_|refine qS (iy hr) ?_|(show AWP _ (.region 13 _ _) _ _;refine(Fg.awp_drawF (id:=13) [] [11,13] ?_))|refine Qo8 Ty.h rfl Ty.h (hb:=?_) (kk:=?_)|refine kU ?_|fail
   all_goals first
    |(exfalso;simp at*;done)
    |(show((t1.map rTh).length+1)*40<=140737488355328
      rw[A6];omega)
    |(show((t1.map rTh).length+1)*32<=140737488355328
      rw[A6];omega)
    |(refine Qg (ns.length -(k+1)) (by omega) ⟨k+1,by omega,rfl,?_⟩
      rw[hth2,hth]
      simp[keepE,go_sem];done)
def Qb2(w:Pl.Sto)(n:Qk)(size:Nat):Pl.Sto×Qk×Bool:=
 if n.size<=size then
  if(((size+11)/12:Nat):Int)=n.tree.many then(w,{n with size:=size},true) else
  ((Qn w n.tree ((size+11)/12 -1) []).1,{n with size:=size,tree:=(Qn w n.tree ((size+11)/12 -1) []).2.1},(Qn w n.tree ((size+11)/12 -1) []).2.2)
 else if(QN w n.tree ((size+11)/12)).2.2=false then((QN w n.tree ((size+11)/12)).1,n,false)
 else if(size+11)/12=0 then((QN w n.tree ((size+11)/12)).1,{n with tree:=(QN w n.tree ((size+11)/12)).2.1,size:=size},true)
 else Qa8 (QN w n.tree ((size+11)/12)).1 {n with tree:=(QN w n.tree ((size+11)/12)).2.1,size:=size} ((QbX n.size (Qc w.st n.tree) n.tree.many.toNat).take size) ((size+11)/12 -1) ((size+11)/12 -1)
theorem cut_sim{w:Pl.Sto}{m:Nat}(h:(QN w t m).2.2=false):QcK w (QN w t m).1:=by grind [QN,QiF]
attribute [local irreducible] EndR Fk.PlanF Fk.Flts Fk.AStepM Fk.Grew Fk.Gs
theorem eCut13(g:Nat)(w:Pl.Sto)(N:Nat)(hN:N<=600000)(hw:w.W N)(n:Qk)(ht:Qx n.tree)(hs:0<=n.size/\n.size<=192)(hmany:n.tree.many=(n.size+11)/12)(size:Nat)(hz:size<=192):
 DoesE A0 173 [oS g w,.d (dNode n),.d (dI size)] (hS g w) (gS g w) (fun x H=>x= .tup [oS (g+1) (Qb2 w n size).1,.d (dNode (Qb2 w n size).2.1),.d (dB (Qb2 w n size).2.2)]/\H=hS (g+1) (Qb2 w n size).1):=by
 refine DoesE.tag (X:=fun g'=> .tup [oS g' (Qb2 w n size).1,.d (dNode (Qb2 w n size).2.1),.d (dB (Qb2 w n size).2.2)]) (C:=fun _=>True) ?_ Qgg;have c1:=Qmq w.st hw.good n ht ⟨hs.1,by omega⟩;have hge:=t13_ge n.size (Qc w.st n.tree) n.tree.many.toNat;have hle:=Qqs n.size (Qc w.st n.tree) (texts_le w.st hw.good n.tree) n.tree.many.toNat;have hmh:=ht.manyHi;have hml:=ht.manyLo;have c2:=QjX size 12 (by omega) (by omega) (by omega) (by omega);rw[show((size:Int)+12 -1)/12=(((size+11)/12:Nat):Int) by omega] at c2;have hd:=Pm.hid (Qb2.eq_def w n size);generalize Qb2 w n size=res at*;generalize QbX n.size (Qc w.st n.tree) n.tree.many.toNat=all at*;have hmz:(size+11)/12<=16/\size<=12*((size+11)/12)/\12*((size+11)/12)<=size+11:=by omega
 have hbig:n.size<=size->(((size+11)/12:Nat):Int)≠n.tree.many->1<=(size+11)/12:=by omega
 have hall:size<n.size->size<=all.length:=by intro h;split at hge<;>omega
 generalize (size+11)/12=m at*;have cz:=alZeros ((size:Int) -all.length) (by omega);have hzl:(A3 ((size:Int) -all.length).toNat (0:UInt8)).length<=192:=by rw[A8];omega
 generalize A3 ((size:Int) -all.length).toNat (0:UInt8)=zs at*
 by_cases h1:n.size<=size
 ·rw[if_pos h1] at hd
  have hq1:decide ((size:Int)≥n.size)=true:=by simpa using h1
  by_cases h2:(m:Int)=n.tree.many
  ·rw[if_pos h2] at hd
   have hq2:((m:Int)==n.tree.many)=true:=by simpa using h2
   refine kH fun gvs=>?_
   repeat' first|refine kS ?_|refine qS (Qdh cK c1 hw) ?_|refine qS (Qdf rfl rfl (by first|omega|(simp only[A4];omega))) ?_|(show AWP _ (.region 7 _ _) _ _;refine(Qa 6 (h:=Fg.awp_drawF (id:=7) [1] [2,3] ?_)))|refine kU ?_|refine kV ?_ ?_<;>intro q|fail
   all_goals first|exact absurd (‹decide ((size:Int)≥n.size)=false›.symm.trans hq1) (by decide)|exact absurd (‹((m:Int)==n.tree.many)=false›.symm.trans hq2) (by decide)|refine QO 5 (hx:=?_);rw[hd.out];exact⟨_,trivial,rfl,rfl⟩
  ·rw[if_neg h2] at hd
   have hq2:((m:Int)==n.tree.many)=false:=by simpa using h2
   have hm1:=hbig h1 h2;have cP:=(ePut g w N (by omega) hw n.tree ht (m -1) (by omega) [] (by simp)).tag3;have hWc:=(Qfb hw ht (k:=m -1) (by omega) []).1;have hsg:=Qep (w:=w) (t:=n.tree) (k:=m -1) (text:=[]);generalize Qn w n.tree (m -1) []=y at*;obtain⟨w2,t2,ok2⟩:=y;simp only at cP hWc hd hsg;rw[show((m -1:Nat):Int)=(m:Int) -1 by omega] at cP;have v0:w2.rows.length=w.rows.length:=by rw[hWc.rows,hw.rows]
   have v1:w2.refs.length=w.refs.length:=by rw[hWc.refs,hw.refs]
   have v2:w2.last.length=w.last.length:=by rw[hWc.last,hw.last]
   have v3:ok2=false->w2.gone.length=w.gone.length:=fun e=>by rw[(hsg e).1]
   clear hsg hWc;cases ok2<;>simp only[AF,if_false,if_true,forall_const] at cP v3
   all_goals
    refine kH fun gvs=>?_
    repeat' first|refine kS ?_|refine qS (Qdh cK c1 hw) ?_|refine qS (Qdf rfl rfl (by first|omega|(simp only[A4];omega))) ?_|refine QC [0,1,2,3,4] cP cK (k:=kX ?_)|(show AWP _ (.region 10 _ _) _ _;refine(Qa 6 (h:=Fg.awp_drawF (id:=10) [1,2] [3,4] ?_)))|refine kU ?_|refine kV ?_ ?_<;>intro q|fail
    all_goals first|exact absurd (‹decide ((size:Int)≥n.size)=false›.symm.trans hq1) (by decide)|exact absurd (‹((m:Int)==n.tree.many)=true›.symm.trans hq2) (by decide)|refine QO 5 (hx:=?_);rw[hd.out];exact⟨_,trivial,rfl,rfl⟩
 rw[if_neg h1] at hd;have hq1:decide ((size:Int)≥n.size)=false:=by simpa using h1
 have hsa:=hall (by omega);have cP:=(eCut g w N (by omega) hw n.tree ht m hmz.1).tag3;have hWc:=cut_W hw ht (many:=m) hmz.1;have hsg:=cut_sim (w:=w) (t:=n.tree) (m:=m);generalize QN w n.tree m=y at*;obtain⟨w2,t2,ok2⟩:=y;simp only at cP hWc hd hsg;have v0:w2.rows.length=w.rows.length:=by rw[hWc.1.rows,hw.rows]
 have v1:w2.refs.length=w.refs.length:=by rw[hWc.1.refs,hw.refs]
 have v2:w2.last.length=w.last.length:=by rw[hWc.1.last,hw.last]
 cases ok2
 ·simp only[AF,if_false,if_true] at cP hd
  obtain⟨z1,z2,z3⟩:=hsg rfl;have v3:w2.gone.length=w.gone.length:=by rw[z1]
  have hse:oS g w=oS g w2:=by simp only[oS,z1,z2,z3]
  clear hWc;refine kH fun gvs=>?_
  repeat' first|refine kS ?_|refine qS (Qdh cK c1 hw) ?_|refine QC [0,1,2,3,4] cP cK (k:=kX ?_)|(show AWP _ (.region 13 _ _) _ _;refine(Qa 6 (h:=Fg.awp_drawF (id:=13) [1] [2,3] ?_)))|refine kU ?_|refine kV ?_ ?_<;>intro q|fail
  all_goals first|exact absurd (‹decide ((size:Int)≥n.size)=true›.symm.trans hq1) (by decide)|refine QO 5 (hx:=?_);rw[hd.out];exact⟨g,trivial,by rw[<-hse];rfl,rfl⟩
 simp only[Bool.true_eq_false,if_false,if_true] at cP hd;clear hsg
 by_cases hm0:m=0
 ·rw[if_pos hm0] at hd
  subst hm0;refine kH fun gvs=>?_
  repeat' first|refine kS ?_|refine qS (Qdh cK c1 hw) ?_|refine QC [0,1,2,3,4] cP cK (k:=kX ?_)|(show AWP _ (.region 17 _ _) _ _;refine(Qa 6 (h:=Fg.awp_drawF (id:=17) [1] [2,3] ?_)))|refine kU ?_|refine kV ?_ ?_<;>intro q|fail
  all_goals first|exact absurd (‹decide ((size:Int)≥n.size)=true›.symm.trans hq1) (by decide)|refine QO 5 (hx:=?_);rw[hd.out];exact⟨_,trivial,rfl,rfl⟩|exfalso;simp at*;done
 rw[if_neg hm0] at hd;have hqm:((m:Int)==0)=false:=by simpa using hm0
 have c5:=ePut13 (g+1) w2 (N+29) (by omega) hWc.1 {n with tree:=t2,size:=size} hWc.2 (all.take size) (by rw[AL];omega) (m -1) (m -1) (by omega) (by omega) (by rw[AL];omega);have hWd:=(Qic hWc.1 (n:={n with tree:=t2,size:=size}) hWc.2 (text:=all.take size) (a:=m -1) (b:=m -1) (by omega)).1;generalize Qa8 w2 {n with tree:=t2,size:=size} (all.take size) (m -1) (m -1)=z at*;obtain⟨w3,n3,ok3⟩:=z;simp only at c5 hWd hd;rw[show((m -1:Nat):Int)=(m:Int) -1 by omega,show all.take size=all.take ((size:Nat):Int).toNat by rw[AJ]] at c5;have u0:w3.rows.length=w.rows.length:=by rw[hWd.rows,hw.rows]
 have u1:w3.refs.length=w.refs.length:=by rw[hWd.refs,hw.refs]
 have u2:w3.last.length=w.last.length:=by rw[hWd.last,hw.last]
 clear hWc hWd;refine kH fun gvs=>?_
 repeat' first|refine kS ?_|refine qS (Qdh cK c1 hw) ?_|refine QC [0,1,2,3,4] cP cK (k:=kX ?_)|refine qD (Qfj rfl rfl rfl (by omega) (by omega)) ?_|refine QeP [0,1,2,3,4] c5 cK (k:=kZ ?_)|(show AWP _ (.region 18 _ _) _ _;refine(Qa 6 (h:=Fg.awp_drawF (id:=18) [] [9,13,14] ?_)))|refine kU ?_|refine kV ?_ ?_<;>intro q|fail
 all_goals first|exact absurd (‹decide ((size:Int)≥n.size)=true›.symm.trans hq1) (by decide)|exact absurd (‹((m:Int)==0)=true›.symm.trans hqm) (by decide)|refine QO 5 (hx:=?_);rw[hd.out];exact⟨_,trivial,rfl,rfl⟩

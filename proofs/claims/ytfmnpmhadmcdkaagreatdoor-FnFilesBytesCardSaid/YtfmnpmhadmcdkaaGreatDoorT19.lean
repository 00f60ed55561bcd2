/- Of fby_card; no condition. -/
import Derived.Test.YtfmnpmhadmcdkaaGreatDoorT17
set_option linter.all false
set_option maxRecDepth 100000
set_option maxHeartbeats 8000000
open Bool renaming and_eq_true->A9
open Go.Op renaming bytesLess->A3
open Go.Proofs.Tryz renaming prog->A4
open Go.RowKit renaming Hid->AH
open Int renaming eq_ofNat_of_zero_le->A5
open List renaming mem_of_getElem?->A0,getElem?_eq_getElem->A1,getD_eq_getElem?_getD->A2,mem_cons_self->A6,mem_cons_of_mem->A7,take_add_one->A8,take_length->AA,range->AB,length_map->AC,length_append->AE,length_cons->AF,all_eq_true->AG,mem_map->AJ,map_map->AK,take_of_length_le->AL,all_append->AN,getElem?_map->AO,length_take->AP,append_nil->AR,mem_range->AS,map_cons->AT
open List.cons renaming injEq->AM
open Nat renaming le_refl->AI,le_trans->AW,lt_or_ge->AX
open Option renaming getD_some->AQ
open Option.some renaming inj->AD,injEq->AY
open Prod.mk renaming injEq->AU
namespace Go.Proofs.YtfmnpmhadmcdkaaGreatDoor
noncomputable section
section
open Go.RowKit
namespace Aw
attribute [local irreducible] ASeq ADraw AWP Loc AStep Fg.PlanF Fg.Flts EndR Fk.PlanF Fk.Flts Fk.AStepM Fk.Grew Fk.Gs
theorem Qnt(l:List Int): ∀r∈l.map (fun n=>[dI n]),∀d∈r,d.cell=true:=by
 intro r hr d hd;obtain⟨p,_,rfl⟩:=AJ.1 hr;simp at hd;subst hd;rfl
theorem QsA(l:List (List UInt8)): ∀r∈l.map (fun n=>[dS n]),∀d∈r,d.cell=true:=by
 intro r hr d hd;obtain⟨p,_,rfl⟩:=AJ.1 hr;simp at hd;subst hd;rfl
def DoesE.one{P:Program}{f:FuncId}{args:List AV}{x:AV}{H1:List Blk}(h:DoesE P f args [] [] (fun y K=>y=x/\K=H1)):Does P f args [] [] x H1:=
 ⟨fun i C hC=>by simp at hC,fun B σ S w cargs gvs h1 h2 h3 h4 h5 h6=>(h B σ S w cargs gvs h1 h2 h3 h4 h5 h6).mono fun _ _ ⟨_,_,⟨e1,e2⟩,_,h7⟩=>e1▸e2▸h7⟩
def dCopy5(refs last:List Int)(h1:refs.length<=100000)(h2:last.length<=100000):Does A4 155 [.d (.agg [dInts refs,dInts last])] [] [] (.agg [.osl 0 1 0 refs.length,.osl 1 1 0 last.length]) [.arr 1 1 3 (rI refs),.arr 1 1 3 (rI last)]:=by
 refine DoesE.one ?_;refine kH fun gvs=>?_
 refine Qa 0 (h:=?_)
 repeat' first|refine kS ?_|(show AWP _ (.region 1 _ _) _ _;refine(Fk.awp_drawF (id:=1) [0,1,2,4,5,6] [3,7,9] [(0,.arr 0 1 3 []),(4,.arr 0 1 3 [])] [] ?_))|refine(Fk.aw_fltS 2 rfl rfl rfl rfl rfl ?_)|refine(Fk.aw_fltS 3 rfl rfl rfl rfl rfl ?_)|refine(Fk.aw_appM (by kernel_rfl) Ty.h rfl Ty.h (hcell:=?_) (hb:=?_) (kk:=?_))|refine kU ?_|fail
 ·exact Qnt refs
 ·simp;omega
 ·exact Qnt last
 ·simp;omega
 refine QdI [2,1000000] [2,3,1] (env':=[(2,.ptr 2 0 0),(1000000,.gh [] gvs)]) (H':=[.arr 1 1 3 (rI refs),.arr 1 1 3 (rI last),.row 0 [.osl 0 1 0 refs.length,.osl 1 1 0 last.length]]) (h:=?_);refine Q1 2 (hx:=?_);exact⟨rfl,rfl⟩
def dCopy(w:Pl.Sto)(N:Nat)(hN:N<=1000000)(hw:w.W N):Does A4 91 [.d (dSt w.st)] [] [] (oS 1 w) (hS 1 w):=by
 have c1:=(dCopy5 w.refs w.last (by rw[hw.refs];omega) (by rw[hw.last];omega)).e;have h0:=hw.rows;have h1:=hw.refs;have h2:=hw.last;have h3:=hw.many;refine DoesE.one ?_;refine kH fun gvs=>?_
 repeat' first|refine kS ?_|refine Qet Ty.h rfl Ty.h (hb:=?_) (hcell:=?_) (kk:=?_)|refine QA [] c1 cK (k:=kX ?_)|refine kU ?_|fail
 all_goals first
  |exact QsA _
  |exact Qdq _
  |(simp[Pl.Sto.st];done)
  |(simp[Pl.Sto.st];omega)
  |(refine QdI [2,1000000] [2,3,4,5,6,1] (env':=[(2,.ptr 5 0 0),(1000000,.gh [] gvs)]) (H':=hS 1 w++[.row 0 [.osl 0 1 0 w.rows.length,.osl 1 1 0 w.refs.length,.osl 2 1 0 w.last.length,.d (dI w.txg),.osl 3 1 0 w.gone.length,.d (dI 0),.osl 4 1 0 0,.d (dB w.same)]]) (h:=?_)
    refine Q1 5 (hx:=?_);rw[h0,h1,h2]
    exact⟨rfl,rfl⟩)
def ptrPut_len(p:Pl.Ptr):(Pl.ptrPut p).length<=Pm.big:=by
 unfold Pl.ptrPut;split
 ·split
  ·decide
  ·unfold Pl.ptrText Pl.dots
   rename_i h _;have hb:=Pl.Qdx h;have h1:=Pl.QcU 8 p.pat.toNat (by omega);have h2:=Pl.QcU 8 p.birth.toNat (by omega);have h3:=Pl.QcU 8 p.size.toNat (by omega);have h4:=Pl.QcU 8 p.sum.toNat (by omega);have h5:=Pl.QcU 8 p.level.toNat (by omega);simp[List.intersperse,Pm.big];omega
 ·decide
def Qoq(n:Qj):Pure A4 98 [dNode n] (dS (Q6 n)):=by
 have c:=aNodeOk n;have hd:=Pm.hid (Q6.eq_def n);cases h:Q8 n
 ·rw[h] at c
  refine kE ?_;refine Qa 0 (h:=?_)
  repeat refine kA ?_
  refine Qb (hx:=?_);rw[hd.out,h];rfl
 ·rw[h] at c
  have hb:=QdZ h;have h1:=hb.kind;have h2:=hb.links;have h3:=hb.size;have h4:=hb.depth;have h5:=hb.many;obtain⟨kind,links,size,⟨root,depth,many⟩⟩:=n;simp only at h1 h2 h3 h4 h5;obtain⟨kind,rfl⟩:=A5 (show 0<=kind by omega);obtain⟨links,rfl⟩:=A5 (show 0<=links by omega);obtain⟨size,rfl⟩:=A5 h3.1;obtain⟨depth,rfl⟩:=A5 h4.1;obtain⟨many,rfl⟩:=A5 h5.1;have e:AH (Q6 ⟨kind,links,size,⟨root,depth,many⟩⟩=(Pl.Qdb [Pl.dec kind,Pl.dec links,Pl.dec size,Pl.ptrPut root,Pl.dec depth,Pl.dec many,[101,110,100]]).getD []):=Pm.hid (by rw[hd.out,h];rfl);have c1:=al6Dec kind (by omega);have c2:=al6Dec links (by omega);have c3:=al6Dec size (by omega);have c4:=al6Dec depth (by omega);have c5:=al6Dec many (by omega);have hl: ∀k,k<=4294967296->(Pl.dec k).length<=Pm.big:=fun k hk=>AW (Pl.QcU 10 k (by omega)) (by decide)
  have cp:=(QjQ [Pl.dec kind,Pl.dec links,Pl.dec size,Pl.ptrPut root,Pl.dec depth,Pl.dec many,[101,110,100]] (by simp[Pm.big]) (by
   intro x hx;simp only[List.mem_cons,List.not_mem_nil,or_false] at hx;rcases hx with rfl|rfl|rfl|rfl|rfl|rfl|rfl
   ·exact hl _ (by omega)
   ·exact hl _ (by omega)
   ·exact hl _ (by omega)
   ·exact ptrPut_len root
   ·exact hl _ (by omega)
   ·exact hl _ (by omega)
   ·decide)).arg (l:=[tStrs [Pl.dec kind,Pl.dec links,Pl.dec size,Pl.ptrPut root,Pl.dec depth,Pl.dec many,[101,110,100]]])
  have c6:=aPtrPut root;clear hd hb h h1 h2 h3 h4 h5 hl;generalize Pl.Qdb [Pl.dec kind,Pl.dec links,Pl.dec size,Pl.ptrPut root,Pl.dec depth,Pl.dec many,[101,110,100]]=r at*;generalize Pl.ptrPut root=rt at*;generalize Pl.dec kind=d1 at*;generalize Pl.dec links=d2 at*;generalize Pl.dec size=d3 at*;generalize Pl.dec depth=d4 at*;generalize Pl.dec many=d5 at*;refine kE ?_;refine Qa 0 (h:=?_)
  repeat' first|refine kS ?_|refine qD (QfJ cK cp rfl) ?_|refine kU ?_|fail
  exact Qb (hx:=by rw[e.out])
def QpV{s:List UInt8}{l:List (List UInt8)}(h:Pl.IsRec s l): ∀x∈l,x.length<=2048:=by
 intro x hx;obtain⟨a,b,rfl⟩:=List.append_of_mem hx;have h1:=h.2.1;rw[<-h.2.2,Pl.Qfe,Pl.QeO,AE,AE,Pl.Qgv] at h1;omega
theorem Qia(s:List UInt8)(hs:s.length<=Pm.big):Pure A4 77 [dS s] (.tup [dNode (Qp s).1,dB (Qp s).2]):=by
 have c:=Qpx s hs;rcases Qnq s with⟨hr,hok⟩|h0;rotate_left
 ·have hn:AH (Qp s=(Qd,false)):=Pm.hid (QhM (.inl (by rw[h0])))
  rw[h0] at c;refine kC ?_
  repeat refine kA ?_
  (refine Qa 0 (h:=?_);refine QR (hx:=?_))
  rw[hn.out];rfl
 by_cases h7:(Qb2 s).1.length=7
 rotate_left
 ·have hn:AH (Qp s=(Qd,false)):=Pm.hid (QhM (.inr h7))
  rw[hok] at c;generalize (Qb2 s).1=l at*;clear hr hok;refine kC ?_
  repeat' first|refine kA ?_|refine kV ?_ ?_<;>intro q|fail
  all_goals first|exfalso;simp only[bne_eq_false_iff_eq] at*;omega|((refine Qa 0 (h:=?_);refine QR (hx:=?_));rw[hn.out];rfl)
 rw[hok] at c;generalize (Qb2 s).1=l at*
 match l,h7 with
 |[x1,x2,x3,x4,x5,x6,x7],_=>
 have hl:=QpV hr;have hg:=Pm.hid (QtS hr);have cn: ∀x∈[x1,x2,x3,x4,x5,x6,x7],Pure A4 132 [dS x] (.tup [dI ((Pl.numGet x).getD 0:Nat),dB (Pl.numGet x).isSome]):=fun x hx=>aNumGet x (by have:=hl x hx;unfold Pm.big;omega)
 have c1:=cn x1 (by simp);have c2:=cn x2 (by simp);have c3:=cn x3 (by simp);have c5:=cn x5 (by simp);have c6:=cn x6 (by simp);have c4:=aPtrGet x4 (by have:=hl x4 (by simp);omega);have ck:=aNodeOk (QaX x1 x2 x3 x4 x5 x6);have cp:=Qoq (QaX x1 x2 x3 x4 x5 x6)
 have hp:AH (Q8 (QaX x1 x2 x3 x4 x5 x6)=false-> ¬Q6 (QaX x1 x2 x3 x4 x5 x6)=s):=fun h e=>by
  unfold Q6 at e;rw[h] at e;exact QpU hr e.symm
 obtain⟨N,hN⟩: ∃N,N=QaX x1 x2 x3 x4 x5 x6:=⟨_,rfl⟩;rw[<-hN] at ck cp hg hp;unfold QaX at hN;clear cn hl hr hok;generalize (Pl.numGet x1).getD 0=n1 at*;generalize (Pl.numGet x2).getD 0=n2 at*;generalize (Pl.numGet x3).getD 0=n3 at*;generalize (Pl.numGet x5).getD 0=n5 at*;generalize (Pl.numGet x6).getD 0=n6 at*;generalize (QB x4).1=pp at*;obtain⟨p1,p2,p3,p4,p5⟩:=pp;generalize Q8 N=ok at*;generalize Q6 N=t at*;subst hN;refine kC ?_
 repeat' first|refine kS ?_|refine qS (iy rfl) ?_|refine kU ?_|refine kV ?_ ?_<;>intro q|fail
 ·(refine Qa 0 (h:=?_);refine QR (hx:=?_))
  rw[hg.out,if_neg (hp.out (by simpa using q))];rfl
 ·(refine Qa 0 (h:=?_);refine QR (hx:=?_))
  rw[hg.out,if_neg (by simpa using q)];rfl
 ·(refine Qa 0 (h:=?_);refine QR (hx:=?_))
  rw[hg.out,if_pos (by simpa using q)]
end Aw
end
section
namespace Aw
variable{E:Qj->List Qq×Bool}{ns:List Qj}{k i:Nat}{p q:List (List UInt8)}{f:Nat->Int}{t:Pl.Tree}
def Qat(s:Pm.Store)(t:Pl.Tree):Bool:=QH s t&&(Qc s t).all fun x=>(x==[])||((Qp x).2&&QH s (Qp x).1.tree)
def Qk(s:Pm.Store)(t:Pl.Tree):List Qj:=(Qc s t).map fun x=>(Qp x).1
def Qav(l:List (List UInt8))(k:Nat):Bool:= !(l.getD k []==[])&&(decide (k+1=l.length)||decide ((l.getD k []).length=128))
def QaL(l:List (List UInt8)):List UInt8×Bool:=if(AB l.length).all (Qav l) then(l.flatten,true) else([],false)
def Qg(s:Pm.Store)(n:Qj):List Qq×Bool:=
 if Q8 n&&(n.kind==2)&&QH s n.tree&&(QaL (Qc s n.tree)).2&&decide (((QaL (Qc s n.tree)).1.length:Int)=n.size) then QbP (QaL (Qc s n.tree)).1 else([],false)
def Qa6(size:Int)(k:Nat):Int:=if size -k*12<12 then size -k*12 else 12
def Qa9(size:Int)(l:List (List UInt8))(k:Nat):Bool:=decide (((l.getD k []).length:Int)<=Qa6 size k)&&(QaP (l.getD k [])==l.getD k [])
def QO(s:Pm.Store)(n:Qj):Bool:=
 Q8 n&&(n.kind==1)&&QH s n.tree&&(AB n.tree.many.toNat).all (Qa9 n.size (Qc s n.tree))
abbrev QaT:=List (List UInt8)×Int
def QC(p:List (List UInt8)):List UInt8:=if p=[] then [47] else p.flatMap (47:: ·)
abbrev rFnd(x:QaT):List D:=[dS (QC x.1),dI x.2]
def Qbl(ns:List Qj)(E:Qj->List Qq×Bool):Nat->QaT->List QaT->List QaT×Bool
 |0,_,out=>(out,false)
 |n+1,at',out=>
  if 144<out.length+1∨Pl.inR at'.2 0 (ns.length -1)=false∨(ns.getD at'.2.toNat Qd).kind=0 then(out++[at'],false) else
  if(ns.getD at'.2.toNat Qd).kind=1 then(out++[at'],true) else
  (E (ns.getD at'.2.toNat Qd)).1.foldl (fun r e=>if r.2 then Qbl ns E n (at'.1++[e.1],e.2) r.1 else r) (out++[at'],(E (ns.getD at'.2.toNat Qd)).2)
def Qb0(ns:List Qj)(E:Qj->List Qq×Bool)(n:Nat)(p:List (List UInt8))(l:List Qq)(r:List QaT×Bool):List QaT×Bool:=
 l.foldl (fun r e=>if r.2 then Qbl ns E n (p++[e.1],e.2) r.1 else r) r
theorem Qic(ns:List Qj)(E:Qj->List Qq×Bool)(n:Nat)(p:List (List UInt8)): ∀(l:List Qq) (out:List QaT),Qb0 ns E n p l (out,false)=(out,false)
 :=by intro l;induction l<;>grind [Qb0]
theorem Qfm(ns:List Qj)(E:Qj->List Qq×Bool)(n:Nat)(p:List (List UInt8))(e:Qq)(l:List Qq)(out:List QaT):Qb0 ns E n p (e::l) (out,true)=Qb0 ns E n p l (Qbl ns E n (p++[e.1],e.2) out):=by
 unfold Qb0;grind
def Qp3(ns:List Qj)(E:Qj->List Qq×Bool): ∀(n:Nat) (x:QaT) (out:List QaT),out.length<=(Qbl ns E n x out).1.length/\(0<n->out.length<(Qbl ns E n x out).1.length)
 |0,x,out=>⟨AI _,fun h=>absurd h (by decide)⟩
 |n+1,x,out=>by
  have hf: ∀(l:List Qq) (r:List QaT×Bool),r.1.length<=(Qb0 ns E n x.1 l r).1.length:=by
   intro l;induction l with
   |nil=>intro r;exact AI _
   |cons e l ih=>
    rintro⟨o,b⟩;cases b
    ·rw[Qic];omega
    ·rw[Qfm];exact AW (Qp3 ns E n _ o).1 (ih _)
  have h:out.length<(Qbl ns E (n+1) x out).1.length:=by
   unfold Qbl;split
   ·simp
   ·split
    ·simp
    ·exact Nat.lt_of_lt_of_le (by simp) (hf _ _)
  omega
def Qs(ns:List Qj)(k:Nat):Nat:=(ns.getD k Qd).kind.toNat
def Qb1(ns:List Qj)(E:Qj->List Qq×Bool)(k:Nat):Option Gr.En:=if(E (ns.getD k Qd)).2 then some ((E (ns.getD k Qd)).1.map fun e=>(e.1,e.2.toNat)) else none
structure QcK(ns:List Qj)(E:Qj->List Qq×Bool):Prop where
 kind: ∀n∈ns,n.kind=0∨n.kind=1∨n.kind=2
 ids: ∀n,∀e∈(E n).1,0<=e.2
theorem Qfy(h:QcK ns E)(k:Nat):(ns.getD k Qd).kind=0∨(ns.getD k Qd).kind=1∨(ns.getD k Qd).kind=2:=by
 rw[A2];cases hk:ns[k]? with
 |none=>exact .inl rfl
 |some n=>exact h.kind n (A0 hk)
theorem QdO(h:Qs ns k≠0):k<ns.length:=by
 rcases AX k ns.length with h1|h1
 ·exact h1
 ·exfalso;apply h
  unfold Qs;rw[A2,List.getElem?_eq_none h1];rfl
def Qbo(x:Gr.It):QaT:=(x.1,(x.2:Int))
theorem Qsi(hN:QcK ns E){r L:List Gr.It}(h:Gr.FP (Qs ns) (Qb1 ns E) r L):
 ∀(n:Nat) (p:List (List UInt8)) (l:List Qq) (out:List QaT),(∀e∈l,0<=e.2)->r=l.map (fun e=>(p++[e.1],e.2.toNat))->out.length+L.length<=144->145<=out.length+n->Qb0 ns E n p l (out,true)=(out++L.map Qbo,true):=by
 induction h with
 |nil=>
  grind [Qb0]
 |@file p' k r L hk h ih=>
  intro n p l out h0 hr hl hn;cases l with
  |nil=>cases hr
  |cons e l=>
   simp only[AT,AM,AU] at hr;obtain⟨⟨rfl,rfl⟩,rfl⟩:=hr;have he:=h0 e A6;rw[AF] at hl;obtain⟨n,rfl⟩: ∃m,n=m+1:=⟨n -1,by omega⟩
   grind [Qd,Qs,Qbl,Pl.inR,Qfm,Qbo]
 |@dir p' k es r L1 L2 hk hes h1 h2 ih1 ih2=>
  intro n p l out h0 hr hl hn;cases l with
  |nil=>cases hr
  |cons e l=>
   simp only[AT,AM,AU] at hr;obtain⟨⟨rfl,rfl⟩,rfl⟩:=hr;have he:=h0 e A6;rw[AF,AE] at hl;obtain⟨n,rfl⟩: ∃m,n=m+1:=⟨n -1,by omega⟩;have hlt:=QdO (k:=e.2.toNat) (ns:=ns) (by omega);have hkind:(ns.getD e.2.toNat Qd).kind=2:=by grind [Qs]
   unfold Qb1 at hes;split at hes;rotate_left
   ·cases hes
   rename_i hE;obtain rfl:=AD hes
   have hw:Qbl ns E (n+1) (p++[e.1],e.2) out=Qb0 ns E n (p++[e.1]) (E (ns.getD e.2.toNat Qd)).1 (out++[(p++[e.1],e.2)],true):=by
    rw[<-hE]
    conv=>lhs;unfold Qbl
    rw[if_neg,if_neg]
    ·rfl
    ·grind
    grind [Pl.inR]
   rw[Qfm,hw,ih1 n (p++[e.1]) _ _ (hN.ids _) (by simp[Gr.kids]) (by grind) (by grind),ih2 (n+1) p l _ (fun e h=>h0 e (A7 _ h)) rfl (by grind) (by grind)];simp[Qbo];omega
theorem Qtk(hN:QcK ns E): ∀(n:Nat) (l:List Qq) (p:List (List UInt8)) (out:List QaT),(∀e∈l,0<=e.2)->(Qb0 ns E n p l (out,true)).2=true->
 ∃L,Gr.FP (Qs ns) (Qb1 ns E) (l.map fun e=>(p++[e.1],e.2.toNat)) L/\Qb0 ns E n p l (out,true)=(out++L.map Qbo,true)/\(out.length<=144->out.length+L.length<=144):=by
 intro n;induction n with
 |zero=>
  intro l p out h0 h;cases l with
  |nil=>exact⟨[],.nil,by simp[Qb0],by simp⟩
  |cons e l=>grind [Qfm,Qbl,Qic]
 |succ n ihn=>
  intro l;induction l with
  |nil=>intro p out h0 h;exact⟨[],.nil,by simp[Qb0],by simp⟩
  |cons e l ihl=>
   intro p out h0 h;have he:=h0 e A6;rw[Qfm] at h⊢
   have hw: ∃M,Gr.FP (Qs ns) (Qb1 ns E) [(p++[e.1],e.2.toNat)] M/\Qbl ns E (n+1) (p++[e.1],e.2) out=(out++M.map Qbo,true)/\out.length+M.length<=144:=by
    have hb:(Qbl ns E (n+1) (p++[e.1],e.2) out).2=true:=by
     grind [Qic]
    unfold Qbl at hb⊢;split at hb
    ·cases hb
    rename_i hc;rw[if_neg hc];simp only[not_or] at hc;obtain⟨c1,c2,c3⟩:=hc;split at hb
    ·rename_i hk
     rw[if_pos hk];refine⟨[(p++[e.1],e.2.toNat)],.file (by unfold Qs;grind) .nil,?_,by grind⟩;simp[Qbo];omega
    ·rename_i hk
     rw[if_neg hk]
     have hk2:(ns.getD e.2.toNat Qd).kind=2:=by
      grind [Qfy]
     generalize hEe:E (ns.getD e.2.toNat Qd)=Ee at hb⊢;obtain⟨es,ok⟩:=Ee;cases ok
     ·change (Qb0 ns E n (p++[e.1]) es (out++[(p++[e.1],e.2)],false)).2=true at hb
      grind [Qic]
     ·obtain⟨L1,g1,g2,g3⟩:=ihn es (p++[e.1]) (out++[(p++[e.1],e.2)]) (fun x hx=>hN.ids (ns.getD e.2.toNat Qd) x (by grind)) hb
      have g3:=g3 (by grind);refine⟨(p++[e.1],e.2.toNat)::(L1++[]),.dir (es:=es.map fun e=>(e.1,e.2.toNat)) (by unfold Qs;omega) ?_ ?_ .nil,?_,?_⟩
      ·unfold Qb1;grind
      ·unfold Gr.kids;rw[AK];exact g1
      ·refine Eq.trans g2 ?_
       simp[Qbo];omega
      grind
   obtain⟨M,m1,m2,m3⟩:=hw;rw[m2] at h⊢;obtain⟨L,g1,g2,g3⟩:=ihl p _ (fun e h=>h0 e (A7 _ h)) h;have g3:=g3 (by grind);refine⟨M++L,?_,by grind,fun _=>by grind⟩;cases m1 with
   |file hk hz=>cases hz;exact .file hk g1
   |dir hk he h1 hz=>cases hz;rw[AR];exact .dir hk he h1 g1
def QT(s:List UInt8):Option (List (List UInt8)):=
 if s=[47] then some [] else if s.head? =some 47/\(Pl.cutB 47 s).tail.all QF=true/\(Pl.cutB 47 s).tail.length<=4 then some (Pl.cutB 47 s).tail else none
theorem QiJ(b:UInt8)(r:List UInt8):Pl.cutB b (b::r)=[]::Pl.cutB b r:=Pl.Qeb b [] r (by simp)
theorem Qwt(b:UInt8)(r:List UInt8): ∀a:List UInt8,Pl.cutB b (a++b::r)=Pl.cutB b a++Pl.cutB b r
 :=by intro l;induction l<;>grind [Pl.cutB,Pl.Qhu]
theorem QkX: ∀(p:List (List UInt8)),(∀n∈p,(47:UInt8)∉n)->Pl.cutB 47 (p.flatMap (47:: ·))=[]::p
 |[],_=>rfl
 |n::q,h=>by
  have ih:=QkX q fun x hx=>h x (A7 _ hx)
  rw[List.flatMap_cons,List.cons_append,QiJ]
  congr 1
  cases q with
  |nil=>grind [Pl.Qe1]
  |cons m q=>
   grind [QiJ,Pl.Qeb]
def QcE(p:List (List UInt8)):Prop:= ∀n∈p,(47:UInt8)∉n/\n≠[]
theorem Qqt(h: ∀n∈p,QF n=true):QcE p:=fun n hn=>⟨QfW (h n hn) (by decide),by
 grind [QF]⟩
theorem QkW(h:QcE p)(hp:p≠[]):Pl.cutB 47 (QC p)=[]::p:=by
 unfold QC;rw[if_neg hp];exact QkX p fun n hn=>(h n hn).1
theorem Qjh(h:QcE p):QC p=[47]↔p=[]:=by
 constructor
 ·intro hs
  cases p with
  |nil=>rfl
  |cons n q=>
   have h1:=QkW h (by simp);rw[hs] at h1;have h2:Pl.cutB 47 [47]=[[],[]]:=by decide
   rw[h2] at h1;simp only[AM,true_and] at h1;exact absurd h1.1.symm (h n A6).2
 ·rintro rfl;rfl
theorem Qvf(hp:QcE p)(hq:QcE q)(h:QC p=QC q):p=q:=by grind [Qjh,QkW]
theorem Qoy(p:List (List UInt8))(n:List UInt8):QC (p++[n])=if p=[] then 47::n else QC p++47::n:=by
 unfold QC
 simp_all
theorem Qlg{s:List UInt8}:QT s=some p↔(p.all QF=true/\p.length<=4/\QC p=s):=by
 unfold QT;constructor
 ·intro h
  split at h
  ·rename_i hs;obtain rfl:=AD h;exact⟨rfl,by simp,hs.symm⟩
  ·split at h
   ·rename_i hs
    obtain rfl:=AD h;refine⟨hs.2.1,hs.2.2,?_⟩;cases s with
    |nil=>cases hs.1
    |cons c r=>
     obtain rfl:c=47:=by grind
     rw[QiJ,List.tail_cons];unfold QC;rw[if_neg (Pl.Qhu 47 r)];have hj:=Pl.QgV 47 r
     have hg: ∀l:List (List UInt8),l≠[]->l.flatMap (47:: ·)=47::(l.intersperse [47]).flatten:=by
      intro l;induction l with
      |nil=>grind
      |cons a l ih=>
       intro _;cases l with
       |nil=>simp
       |cons b l=>
        simp_all
     grind [Pl.Qhu]
   ·cases h
 ·rintro⟨h1,h2,rfl⟩
  have hP:=Qqt fun n hn=>AG.1 h1 n hn
  by_cases hp:p=[]
  ·subst hp;rfl
  ·have hh:(QC p).head? =some 47:=by
    unfold QC;rw[if_neg hp];cases p with
    |nil=>grind
    |cons n q=>rfl
   grind [Qjh,QkW]
theorem pre_iff(hq:QcE q)(hp:QcE p):(q=[]∨QC p=QC q∨QC q++[47]<+:QC p)↔q<+:p:=by
 constructor
 ·rintro(rfl|h|⟨r,h⟩)
  ·grind
  ·grind [Qvf]
  ·by_cases h0:q=[]
   ·grind
   ·have h1:p≠[]:=by
     rintro rfl;have:=congrArg List.length h;rw[show QC []=[47] from rfl] at this;simp at this;have h2:QC q=[]:=List.eq_nil_of_length_eq_zero (by omega);unfold QC at h2;rw[if_neg h0] at h2;cases q with
     |nil=>grind
     |cons n q=>cases h2
    grind [QkW,Qwt]
 ·rintro⟨r,rfl⟩
  by_cases h0:q=[]
  ·grind
  ·by_cases h1:r=[]
   ·grind
   ·refine .inr (.inr ?_)
    unfold QC;rw[if_neg h0,if_neg (by simp[h0]),List.flatMap_append];cases r with
    |nil=>grind
    |cons n r=>simp
def Quj(f:Nat->Int):Nat->Int
 |0=>0
 |n+1=>Quj f n+f n
theorem QuN{g:Nat->Int}: ∀{n:Nat},(∀k,k<n->f k=g k)->Quj f n=Quj g n
 :=by intro l;induction l<;>grind [Quj]
theorem Qve{l:List Nat}(hl:k∉l): ∀{n:Nat},Quj (fun i=>if i∈l++[k] then f i else 0) n=Quj (fun i=>if i∈l then f i else 0) n+if k<n then f k else 0
 :=by intro l;induction l<;>grind [Quj]
theorem QuO{f:Nat->Int}(c:Int): ∀{n:Nat},(∀k,k<n->0<=f k/\f k<=c)->0<=Quj f n/\Quj f n<=n*c
 |0,_=>by simp[Quj]
 |n+1,h=>by
  have:=QuO c (n:=n) fun k hk=>h k (by omega)
  grind [Quj]
theorem QrI: ∀x:List UInt8,A3 x x=false
 :=by intro l;induction l<;>grind [A3]
theorem QfP(a b:UInt8)(x y:List UInt8):A3 (a::x) (b::y)=true↔a<b∨a=b/\A3 x y=true:=by simp[A3]
theorem QhT: ∀{x y z:List UInt8},A3 x y=true->A3 y z=true->A3 x z=true
 |[],[],_,h,_=>by omega
 |[],_::_,[],_,h=>by simp[A3] at h
 |[],_::_,_::_,_,_=>by simp[A3]
 |_::_,[],_,h,_=>by simp[A3] at h
 |_::_,_::_,[],_,h=>by simp[A3] at h
 |a::x,b::y,c::z,h1,h2=>by
  rw[QfP] at*;rcases h1 with h1|⟨rfl,h1⟩
  ·grind
  ·rcases h2 with h2|⟨rfl,h2⟩
   ·grind
   ·exact .inr ⟨rfl,QhT h1 h2⟩
theorem Qtp{l:List Qq}(h:Qab l=true)(hi:i+1<l.length):A3 (l[i]'(by omega)).1 (l[i+1]).1=true:=by
 unfold Qab at h;rw[A9,AG] at h;have:=h.1 (i+1) (AS.2 hi)
 grind [QaD]
theorem Qvc{l:List Qq}(h:Qab l=true): ∀{j:Nat} (hj:j<l.length) (hij:i<j),A3 (l[i]'(by omega)).1 (l[j]).1=true
 :=by intro l;induction l<;>grind [Qtp,QhT]
theorem Qwa{l:List Qq}(h:Qab l=true):(l.map (·.1)).Nodup:=by
 rw[List.nodup_iff_pairwise_ne,List.pairwise_iff_getElem];intro i j hi hj hij e;simp only[List.getElem_map] at*;have:=Qvc h (show j<l.length by grind) hij
 grind [QrI]
theorem QdG(s:Pm.Store)(n:Qj):(Qg s n).2=true/\Qab (Qg s n).1=true∨Qg s n=([],false):=by
 unfold Qg;split
 ·rcases QnN (QaL (Qc s n.tree)).1 with h|h
  ·exact .inl ⟨h.2,h.1.1⟩
  grind
 grind
theorem QiF(s:Pm.Store)(n:Qj): ∀e∈(Qg s n).1,QF e.1=true/\1<=e.2/\e.2<=15:=by
 rcases QdG s n with h|h
 ·exact ent_b h.2
 grind
theorem QiD{s:Pm.Store}{n:Qj}(h:(Qg s n).2=true):n.kind=2:=by grind [Qg]
theorem QgC(s:Pm.Store)(t:Pl.Tree)(k:Nat):(Qk s t).getD k Qd=Qd∨NodeB ((Qk s t).getD k Qd):=by grind [Qk,Qio]
theorem nsOk(s:Pm.Store)(t:Pl.Tree):QcK (Qk s t) (Qg s):=by
 refine⟨fun n hn=>?_,fun n e he=>by grind [QiF]⟩;unfold Qk at hn;obtain⟨x,_,rfl⟩:=AJ.1 hn;rcases Qio x with h|h
 ·exact .inr h.kind
 ·rw[h];exact .inl rfl
def Qaw(ns:List Qj)(k:Nat):Nat:=(ns.getD k Qd).links.toNat
theorem texts_len(s:Pm.Store)(h:Qx t):(Qc s t).length=t.many.toNat:=by
 unfold Qc;rw[AC,AP,Qd3 s h.hi];have:=h.manyHi;omega
theorem graph(s:Pm.Store)(ht:Qx t)(h0:((Qk s t).getD 0 Qd).kind=2):
 Gr.Nodes (Qs (Qk s t)) (Gr.chOf (Qb1 (Qk s t) (Qg s))) (Qaw (Qk s t)) (Qk s t).length:=by
 have hb: ∀k,Qs (Qk s t) k≠0->NodeB ((Qk s t).getD k Qd):=fun k hk=>by
  rcases QgC s t k with h|h
  ·unfold Qs at hk;rw[h] at hk;exact absurd rfl hk
  ·exact h
 refine⟨by unfold Qs;omega,fun k=>?_,fun k hk=>QdO hk,?_,fun k hk=>?_,fun k hk=>?_,fun k cs hc e he=>?_⟩
 ·unfold Qs
  rcases QgC s t k with h|h
  ·rw[h];decide
  ·have:=h.kind;omega
 ·unfold Qk;rw[AC,texts_len s ht];have:=ht.manyHi;omega
 ·have:=(hb k hk).links;grind [Qaw]
 ·have h:=hb k (by omega)
  have:=h.one (by grind [Qs]);unfold Qaw;omega
 ·unfold Gr.chOf Qb1 at hc
  split at hc
  ·simp only[Option.map_some,AY] at hc
   subst hc;rw[AK] at he;obtain⟨x,hx,rfl⟩:=AJ.1 he
   grind [QiF]
  grind
def QaI(s:Pm.Store)(t:Pl.Tree):List QaT×Bool:=Qbl (Qk s t) (Qg s) 145 ([],0) []
def Pl.many(out:List QaT)(k:Nat):Nat:=(out.map (·.2)).count (k:Int)
def Qa0(s:Pm.Store)(ns:List Qj)(out:List QaT)(k:Nat):Bool:=
 ((ns.getD k Qd).kind==0||((Pl.many out k:Int)==(ns.getD k Qd).links))&&(!((ns.getD k Qd).kind==1)||QO s (ns.getD k Qd))
def Qae(s:Pm.Store)(t:Pl.Tree):Bool:=
 Qat s t&&((Qk s t).getD 0 Qd).kind==2&&(QaI s t).2&&(AB (Qk s t).length).all (Qa0 s (Qk s t) (QaI s t).1)
structure QcS(s:Pm.Store)(t:Pl.Tree):Prop where
 tab:Qat s t=true
 root:((Qk s t).getD 0 Qd).kind=2
 file: ∀k,((Qk s t).getD k Qd).kind=1->QO s ((Qk s t).getD k Qd)=true
 dir: ∀k,((Qk s t).getD k Qd).kind=2->(Qg s ((Qk s t).getD k Qd)).2=true
 linked: ∃nm,Gr.bfs (Qs (Qk s t)) (Gr.chOf (Qb1 (Qk s t) (Qg s))) (1+Gr.left (Qs (Qk s t)) (Qk s t).length []) [0] []=some nm/\
  ∀k,k≠0->Qs (Qk s t) k≠0->nm.count k=Qaw (Qk s t) k
theorem Qjt(L:List Gr.It)(k:Nat):Pl.many (L.map Qbo) k=(L.map (·.2)).count k:=by
 unfold Pl.many;rw[AK];induction L with
 |nil=>rfl
 |cons x L ih=>
  grind [Qbo]
theorem QqT(s:Pm.Store)(h0:((Qk s t).getD 0 Qd).kind=2)(L:List Gr.It):
 (QaI s t=(L.map Qbo,true)/\L.length<=144/\Gr.FP (Qs (Qk s t)) (Qb1 (Qk s t) (Qg s)) [([],0)] L)↔
 (Gr.FP (Qs (Qk s t)) (Qb1 (Qk s t) (Qg s)) [([],0)] L/\L.length<=144):=by
 constructor
 ·grind
 ·rintro⟨h3,h2⟩
  refine⟨?_,h2,h3⟩;have hN:=nsOk s t;have hlt:0<(Qk s t).length:=QdO (k:=0) (by unfold Qs;omega);cases h3 with
  |file hk _=>grind [Qs]
  |@dir _ _ es _ L1 L2 hk hes h1 h4=>
   cases h4;unfold Qb1 at hes;split at hes;rotate_left
   ·cases hes
   rename_i hE;obtain rfl:=AD hes;rw[AR] at h2⊢;rw[AF] at h2;have:=Qsi hN h1 144 [] (Qg s ((Qk s t).getD 0 Qd)).1 [([],0)] (hN.ids _) (by simp[Gr.kids]) (by grind) (by simp);unfold QaI Qbl;rw[if_neg,if_neg]
   ·rw[<-hE] at this
    refine Eq.trans this ?_;rw[hE];rfl
   ·grind
   grind [Pl.inR]
theorem QgM(s:Pm.Store)(h0:((Qk s t).getD 0 Qd).kind=2)(h:(QaI s t).2=true):
 ∃L,Gr.FP (Qs (Qk s t)) (Qb1 (Qk s t) (Qg s)) [([],0)] L/\L.length<=144/\QaI s t=(L.map Qbo,true):=by
 have hN:=nsOk s t;unfold QaI Qbl at h⊢;split at h
 ·cases h
 rename_i hc;rw[if_neg hc];split at h
 ·grind
 rename_i hk;rw[if_neg hk]
 change (Qb0 (Qk s t) (Qg s) 144 [] (Qg s ((Qk s t).getD 0 Qd)).1 ([([],0)],(Qg s ((Qk s t).getD 0 Qd)).2)).2=true at h
 change ∃L,_/\_/\Qb0 (Qk s t) (Qg s) 144 [] (Qg s ((Qk s t).getD 0 Qd)).1 ([([],0)],(Qg s ((Qk s t).getD 0 Qd)).2)=_
 have hE:(Qg s ((Qk s t).getD 0 Qd)).2=true:=by
  grind [Qic]
 rw[hE] at h⊢;obtain⟨L,g1,g2,g3⟩:=Qtk hN 144 _ [] [([],0)] (hN.ids _) h;have g3:=g3 (by simp);refine⟨([],0)::(L++[]),.dir (es:=(Qg s ((Qk s t).getD 0 Qd)).1.map fun e=>(e.1,e.2.toNat)) (by unfold Qs;omega) ?_ ?_ .nil,?_,?_⟩
 ·unfold Qb1;grind
 ·unfold Gr.kids;rw[AK];exact g1
 ·grind
 grind [Qbo]
theorem QeI(s:Pm.Store)(t:Pl.Tree):Qae s t=true↔QcS s t:=by
 unfold Qae;simp only[A9,beq_iff_eq,AG,AS];have key: ∀(h1:Qat s t=true) (h2:((Qk s t).getD 0 Qd).kind=2),_:=fun h1 h2=>Gr.Qso (graph s (Qdo (by unfold Qat at h1;rw[A9] at h1;exact h1.1)) h2)
 have hk2: ∀k,Qs (Qk s t) k=2↔((Qk s t).getD k Qd).kind=2:=fun k=>by
  grind [Qs]
 have hch: ∀k,(∃cs,Gr.chOf (Qb1 (Qk s t) (Qg s)) k=some cs)↔(Qg s ((Qk s t).getD k Qd)).2=true:=fun k=>by
  unfold Gr.chOf Qb1;simp
 constructor
 ·rintro⟨⟨⟨h1,h2⟩,h3⟩,h4⟩
  obtain⟨L,g1,g2,g3⟩:=QgM s h2 h3;rw[g3] at h4
  have hcount: ∀k,Qs (Qk s t) k≠0->(L.map (·.2)).count k=Qaw (Qk s t) k:=fun k hk=>by
   have:=h4 k (QdO hk)
   grind [Qa0,Qjt,Qs,Qaw]
  obtain⟨k1,k2⟩:=(key h1 h2).1 ⟨_,g1.fd,by grind,hcount⟩;refine⟨h1,h2,fun k hk=>?_,fun k hk=>(hch k).1 (k1 k ((hk2 k).2 hk)),k2⟩
  grind [QdO,Qs,Qa0]
 ·rintro⟨h1,h2,h3,h4,h5⟩
  obtain⟨M,m1,m2,m3⟩:=(key h1 h2).2 ⟨fun k hk=>(hch k).2 (h4 k ((hk2 k).1 hk)),h5⟩;obtain⟨L,g1,rfl⟩:=Gr.Qtl m1 (r:=[([],0)]) rfl;obtain⟨q1,_,_⟩:=(QqT s h2 L).2 ⟨g1,by grind⟩;rw[q1];refine⟨⟨⟨h1,h2⟩,rfl⟩,fun k hk=>?_⟩;unfold Qa0;rw[Qjt]
  by_cases h0:((Qk s t).getD k Qd).kind=0
  ·grind
  ·have hkc:=Qfy (nsOk s t) k
   have:=m3 k (by unfold Qs;omega);rw[this]
   have hB:NodeB ((Qk s t).getD k Qd):=by
    rcases QgC s t k with h|h
    ·rw[h] at h0;exact absurd rfl h0
    ·exact h
   have hl:=hB.links
   grind [Qaw]
end Aw
end
section
open Go.RowKit
namespace Aw
variable{t:Pl.Tree}{p:Pl.Ptr}{x:List UInt8}
attribute [local irreducible] ASeq ADraw AWP Loc
def al10Cut(s:List UInt8)(hs:s.length<=Pm.big):Pure A4 200 [dS s] (dS (QaP s)):=by
 simp only[Pm.big] at hs;refine kB ?_
 repeat refine kA ?_
 refine Qo (fun m st=> ∃r:List UInt8,r.length<=s.length/\m=r.length/\AH (QaP r=QaP s)/\st=⟨20,[(0,.d (dS r))],[]⟩) [0] 0 s.length ⟨s,AI _,rfl,Pm.hid rfl,rfl⟩ (round:=?_);rintro m st ⟨r,hr,rfl,hC,rfl⟩;rcases List.eq_nil_or_concat r with rfl|⟨l,c,rfl⟩
 ·repeat refine kA ?_
  refine Qb (hx:=?_);rw[<-hC.out];rfl
 rw[List.concat_eq_append] at*;have hl:(l++[c]).length=l.length+1:=by simp
 have hi:(((l++[c]).length:Int) -1).toNat=l.length:=by omega
 have hc:(l++[c])[(((l++[c]).length:Int) -1).toNat]? =some c:=by rw[hi];simp
 have T:AH (((c.toNat:Nat):Int)≠0->QaP s=l++[c]):=fun h=>by rw[<-hC.out,QiK,if_neg];intro e;apply h;rw[beq_iff_eq] at e;rw[e];rfl
 have F:AH (((c.toNat:Nat):Int)=0->QaP l=QaP s):=fun h=>by rw[<-hC.out,QiK,if_pos];rw[beq_iff_eq];exact UInt8.toNat_inj.1 (by have:(0:UInt8).toNat=0:=rfl;omega)
 clear hC
 repeat' first|refine kS ?_|refine qS (QdX Ty.h rfl rfl rfl (by omega) hc) ?_|refine qS (QfH rfl rfl rfl (by omega) (by omega)) ?_|refine kU ?_|refine kV ?_ ?_<;>intro q|fail
 ·simp only[beq_iff_eq,decide_eq_true_eq] at*
  refine Qh l.length (by omega) ⟨l,by omega,rfl,Pm.hid (F.out (by assumption)),?_⟩;simp[keepE,go_sem]
 ·refine Qb (hx:=?_)
  rw[T.out (by simpa using q)]
 ·exfalso;simp at q
theorem texts_le(s:Pm.Store)(hg:QP s)(t:Pl.Tree): ∀x∈Qc s t,x.length<=128:=by grind [Qc,Qh4]
def QlW(s:Pm.Store)(hg:QP s)(t:Pl.Tree)(ht:Qx t):Pure A4 40 [dSt s,dTree t] (.sl true 10 ((Qk s t).map rNode)):=by
 have c:=Qe3 s hg t ht;have hl:=texts_len s ht;have hle:=texts_le s hg t;have hm:=ht.manyHi;have hn:AH (Qk s t=(Qc s t).map fun x=>(Qp x).1):=Pm.hid rfl;generalize Qc s t=l at*;refine kE ?_;refine Qa 0 (h:=?_);refine Qa 1 (h:=?_)
 repeat refine kA ?_
 refine Qo (fun m st=> ∃(k g:Nat) (out:List Qj),k<=l.length/\m=16 -k/\out.length=k/\AH (out=(l.take k).map fun x=>(Qp x).1)/\
  st=⟨33,[(5,.osl 2 g 0 out.length),(6,.d (tStrs l)),(7,.d (dI k))],[.row 1 [],.row 1 [],.arr g 10 45 (out.map rNode)]⟩) [5,6,7] 3 16 ⟨0,0,[],by omega,rfl,rfl,Pm.hid rfl,rfl⟩ (round:=?_)
 rintro m st ⟨k,g,out,hk,rfl,hlen,hO,rfl⟩
 repeat refine kG ?_
 cases q4:decide ((k:Int)<(l.length:Int))
 ·repeat refine kA ?_
  (refine Qa 2 (h:=?_);refine Qb (hx:=?_))
  have:k=l.length:=by simp at q4;omega
  rw[hn.out,hO.out,this,AA];simp[AL]
 have hk2:k<l.length:=by simp at q4;omega
 obtain⟨x,hx⟩: ∃x,l[k]? =some x:=⟨_,A1 hk2⟩;have hr:=Qt (f:=fun s=>[dS s]) hx;have cg:=Qia x (by have:=hle x (A0 hx);unfold Pm.big;omega);have T:AH ((l.take (k+1)).map (fun x=>(Qp x).1)=out++[(Qp x).1]):=Pm.hid (by rw[A8,hx,hO.out];simp);clear hx hO hle hn;generalize (Qp x).1=N at*;obtain⟨kind,links,size,⟨⟨p1,p2,p3,p4,p5⟩,depth,many⟩⟩:=N
 repeat' first|refine kS ?_|refine qS (iy hr) ?_|refine QV Ty.h rfl Ty.h (hb:=?_) (kk:=?_)|refine kU ?_|fail
 ·simp;omega
 ·refine Qh (16 -(k+1)) (by omega) ⟨k+1,g+1,out++[⟨kind,links,size,⟨⟨p1,p2,p3,p4,p5⟩,depth,many⟩⟩],by omega,rfl,by simp[hlen],Pm.hid T.out.symm,?_⟩
  simp[keepE,go_sem]
theorem al11Ok(s:Pm.Store)(hg:QP s)(t:Pl.Tree):Pure A4 128 [dSt s,dTree t] (dB (Qat s t)):=by
 have c0:=al8Ok s hg t;have hd:AH (Qat s t=(QH s t&&(Qc s t).all fun x=>(x==[])||((Qp x).2&&QH s (Qp x).1.tree))):=Pm.hid rfl;cases h0:QH s t
 ·rw[h0] at c0
  refine kE ?_;refine Qa 0 (h:=?_);refine Qa 1 (h:=?_)
  repeat refine kA ?_
  refine Qb (hx:=?_);rw[hd.out,h0];rfl
 rw[h0] at c0;have ht:=Qdo h0;have c:=Qe3 s hg t ht;have hl:=texts_len s ht;have hle:=texts_le s hg t;have hm:=ht.manyHi;have hm0:=ht.manyLo;have hd2:AH (Qat s t=(Qc s t).all fun x=>(x==[])||((Qp x).2&&QH s (Qp x).1.tree)):=Pm.hid (by rw[hd.out,h0];rfl);clear hd h0 ht;generalize Qc s t=l at*;refine kE ?_;refine Qa 0 (h:=?_);refine Qa 1 (h:=?_)
 repeat refine kA ?_
 refine Qo (fun m st=> ∃(k:Nat),k<=l.length/\m=16 -k/\AH ((l.take k).all (fun x=>(x==[])||((Qp x).2&&QH s (Qp x).1.tree))=true)/\
  st=⟨43,[(5,.d (tStrs l)),(6,.d (dI k)),(2,.d (.pd (rSt s))),(3,.d (.pd (rTree t)))],[.row 1 [],.row 1 []]⟩) [5,6,2,3] 2 16 ⟨0,by omega,rfl,Pm.hid rfl,rfl⟩ (round:=?_)
 rintro m st ⟨k,hk,rfl,hA,rfl⟩
 repeat refine kG ?_
 cases q4:decide ((k:Int)<t.many)
 ·repeat refine kA ?_
  refine Qb (hx:=?_);have:k=l.length:=by simp at q4;omega
  have h:=hA.out;rw[this,AL (AI _)] at h;rw[hd2.out,h]
 have hk2:k<l.length:=by simp at q4;omega
 obtain⟨x,hx⟩: ∃x,l[k]? =some x:=⟨_,A1 hk2⟩;have hr:=Qt (f:=fun s=>[dS s]) hx;have cg:=Qia x (by have:=hle x (A0 hx);unfold Pm.big;omega);have cT:=al8Ok s hg (Qp x).1.tree;have T:AH (((x==[])||((Qp x).2&&QH s (Qp x).1.tree))=true->(l.take (k+1)).all (fun x=>(x==[])||((Qp x).2&&QH s (Qp x).1.tree))=true):=fun h=>by rw[A8,hx,AN,hA.out];simpa using h
 have F:AH (((x==[])||((Qp x).2&&QH s (Qp x).1.tree))=false->Qat s t=false):=fun h=>by
  rw[hd2.out,List.all_eq_false];exact⟨x,A0 hx,by rw[h];simp⟩
 clear hx hA hle hd2;generalize QH s (Qp x).1.tree=tok at*;generalize (Qp x).2=ok at*;generalize (Qp x).1=N at*;obtain⟨kind,links,size,⟨⟨p1,p2,p3,p4,p5⟩,depth,many⟩⟩:=N
 repeat' first|refine kS ?_|refine qS (iy hr) ?_|refine kU ?_|refine kV ?_ ?_<;>intro q|fail
 all_goals clear c0 c cg cT hr
 all_goals simp only[decide_eq_true_eq] at q4
 all_goals first|exact Qh (16 -(k+1)) (by omega) ⟨k+1,by omega,rfl,Pm.hid (T.out (by simp_all)),rfl⟩|refine Qb (hx:=?_);exact congrArg dB (F.out (by simp_all)).symm
def Q5(s:Pm.Store)(t:Pl.Tree)(k:Nat):Qj×Bool:=if(k:Int)<=t.many -1 then Qp ((Qc s t).getD k []) else(Qd,false)
theorem Qh6(s:Pm.Store)(ht:Qx t)(k:Nat):(Q5 s t k).1=(Qk s t).getD k Qd:=by grind [texts_len,Q5,Qk]
theorem texts_get(s:Pm.Store)(ht:Qx t){k:Nat}(hk:(k:Int)<=t.many -1):(Qc s t).getD k []=(Qf s.1 ((Qe s t).getD k Pl.hole)).1:=by
 have hw:=Qd3 s ht.hi;have:=ht.manyHi
 grind [Qc]
def al11Get(s:Pm.Store)(hg:QP s)(t:Pl.Tree)(ht:Qx t)(k:Nat):Pure A4 125 [dSt s,dTree t,dI k] (.tup [dNode (Q5 s t k).1,dB (Q5 s t k).2]):=by
 have hm:=ht.manyHi;have hm0:=ht.manyLo;have c0:=al6In k 0 (t.many -1)
 by_cases h:(k:Int)<=t.many -1
 ·have e:Pl.inR k 0 (t.many -1)=true:=by simp[Pl.inR];omega
  rw[e] at c0;have c1:=al8Get s hg t ht k (by omega);rw[<-texts_get s ht h] at c1;have hx:AH (Q5 s t k=Qp ((Qc s t).getD k [])):=Pm.hid (by unfold Q5;rw[if_pos h])
  have c2:=Qia ((Qc s t).getD k []) (by
   rw[A2];cases h1:(Qc s t)[k]? with
   |none=>simp
   |some x=>have:=texts_le s hg t x (A0 h1);simp[Pm.big];omega)
  generalize (Qc s t).getD k []=x at*;rw[hx.out];clear hx h e;generalize Qp x=r at*;obtain⟨⟨kind,links,size,⟨⟨p1,p2,p3,p4,p5⟩,depth,many⟩⟩,ok⟩:=r;refine kD ?_;refine Qa 0 (h:=?_);refine Qa 1 (h:=?_)
  repeat refine kA ?_
  refine Qa 2 (h:=?_);exact QR (hx:=rfl)
 ·have e:Pl.inR k 0 (t.many -1)=false:=by simp[Pl.inR];omega
  rw[e] at c0;have hx:AH (Q5 s t k=(Qd,false)):=Pm.hid (by unfold Q5;rw[if_neg h]);rw[hx.out];refine kD ?_;refine Qa 0 (h:=?_);refine Qa 1 (h:=?_)
  repeat refine kA ?_
  refine Qa 2 (h:=?_);exact QR (hx:=rfl)
attribute [local irreducible] AStep
theorem pg_put(h:QB x=(p,true)):Pl.ptrPut p=x/\Pl.ptrOk p=true:=by
 unfold QB at h;split at h
 ·rename_i hx
  obtain⟨h1,_⟩:=Prod.mk.inj h;have:=Classical.choose_spec hx;rw[h1] at this;exact⟨this.2,this.1⟩
 grind
theorem bFanGet(s:List UInt8)(hs:s.length<=1000000):Pure A4 186 [dS s] (.tup [tPtrs (QaF s).1,dB (QaF s).2]):=by
 have c0:=bSplit s 44 (by omega);have hW:=Qe2 44 s;have hj:=Pm.hid (QqD 44 s);have hfan:AH (QaF s=if((Pl.cutB 44 s).map QB).all (·.2)&&(((Pl.cutB 44 s).map QB).length==4)&&((Pl.cutB 44 s).map QB).any (fun q=> !Pl.ptrHole q.1) then(((Pl.cutB 44 s).map QB).map (·.1),true) else([],false)):=Pm.hid rfl;generalize Pl.cutB 44 s=l at*;refine kB ?_
 repeat refine kA ?_
 refine QeR 4 5 31 (h:=?_)
 refine Qo (fun m st=> ∃(k g:Nat) (out:List Pl.Ptr),k<=l.length/\m=l.length -k/\out.length=k/\k<=4/\AH (out=((l.map QB).take k).map (·.1))/\AH (((l.map QB).take k).all (·.2)=true)/\AH (out.map Pl.ptrPut=l.take k/\out.all Pl.ptrOk=true)/\
  st=⟨48,[(14,.d (dI k)),(13,.d (dI l.length)),(12,.d (tStrs l)),(4,.osl 0 g 0 out.length),(0,.d (dS s))],[.arr g 5 31 (out.map rPtr)]⟩) [14,13,12,4,0] 1 l.length ⟨0,0,[],by omega,rfl,rfl,by omega,Pm.hid rfl,Pm.hid (by simp),Pm.hid ⟨rfl,rfl⟩,rfl⟩ (round:=?_)
 rintro m st ⟨k,g,out,hk,rfl,hlen,hk4,hO,hA,hP,rfl⟩
 repeat refine kG ?_
 cases q3:decide ((k:Int)<(l.length:Int))
 ·have hk3:k=l.length:=by simp at q3;omega
  have c1:=(bFanPut out (by omega)).arg (l:=[tPtrs out]);have hlm:(l.map QB).length=k:=by rw[AC,hk3]
  have ho:=hO.out;rw[<-hlm,AA] at ho;have ha:=hA.out;rw[<-hlm,AA] at ha;have hp1:=hP.out.1;rw[hk3,AA] at hp1;have hany:(l.map QB).any (fun q=> !Pl.ptrHole q.1)=out.any (fun p=> !Pl.ptrHole p):=by rw[ho];simp only[List.any_map];rfl
  have hpd:=Pm.hid (QX.eq_def out)
  have e2:QX out=if out.length=4/\out.any (fun p=> !Pl.ptrHole p)=true then(s,true) else([],false):=by
   rw[hpd.out,hp1,hj.out]
   by_cases h:out.length=4/\out.any (fun p=> !Pl.ptrHole p)=true
   ·rw[if_pos h,if_pos ⟨h.1,h.2,hP.out.2⟩]
   ·rw[if_neg h,if_neg (fun x=>h ⟨x.1,x.2.1⟩)]
  have e1:QaF s=if out.length=4/\out.any (fun p=> !Pl.ptrHole p)=true then(out,true) else([],false):=by
   rw[hfan.out,ha,hany,hlm,<-hlen,<-ho]
   by_cases h:out.length=4/\out.any (fun p=> !Pl.ptrHole p)=true
   ·rw[if_pos h,if_pos]
    rw[h.1,h.2];rfl
   ·rw[if_neg h,if_neg]
    intro x;simp only[A9,beq_iff_eq,true_and] at x;exact h x
  have hres:AH (QaF s=if(QX out).2=true/\(QX out).1=s then(out,true) else([],false)):=Pm.hid (by
   rw[e1,e2]
   by_cases h:out.length=4/\out.any (fun p=> !Pl.ptrHole p)=true
   ·rw[if_pos h,if_pos h,if_pos ⟨rfl,rfl⟩]
   ·rw[if_neg h,if_neg h,if_neg (by simp)])
  clear e1 e2;clear hO hA hP ho ha hp1 hany hpd hfan hj c0;generalize QX out=r at*;obtain⟨again,fine⟩:=r
  repeat refine kG ?_
  refine Qeo 0 (h:=?_)
  repeat' first|refine kA ?_|refine kV ?_ ?_<;>intro q|fail
  all_goals first|refine Qed 2 true 5 (h:=?_);refine Qb (hx:=?_);rw[hres.out,if_neg (by simp_all)];rfl|refine Qed 2 true 5 (h:=?_);refine Qb (hx:=?_);rw[hres.out,if_neg (by simp_all)]|refine Qb (hx:=?_);rw[hres.out,if_pos (by simp_all)]
 have hk2:k<l.length:=by simp at q3;omega
 obtain⟨x,hx⟩: ∃x,l[k]? =some x:=⟨_,A1 hk2⟩;have hr:=Qt (f:=fun s=>[dS s]) hx;have hx3:x.length<=4294967280:=by have:=hW.2 x (A0 hx);omega
 obtain⟨p,ok,hp⟩: ∃p ok,QB x=(p,ok):=⟨_,_,rfl⟩;have hg:=bPtrGet x hx3;rw[hp] at hg;have hl:(l.map QB)[k]? =some (p,ok):=by rw[AO,hx];simp[hp]
 have hst:(l.map QB).take (k+1)=(l.map QB).take k++[(p,ok)]:=by rw[A8,hl];rfl
 have F:AH (ok=false∨k=4->QaF s=([],false)):=Pm.hid fun e=>by
  rw[hfan.out,if_neg];intro h;simp only[A9,beq_iff_eq,AC] at h;rcases e with e|e
  ·have:=AG.1 h.1.1 _ (A0 hl)
   rw[e] at this;cases this
  ·omega
 have T1:AH (out++[p]=((l.map QB).take (k+1)).map (·.1)):=Pm.hid (by rw[hst,hO.out];simp)
 have T2:AH (ok=true->((l.map QB).take (k+1)).all (·.2)=true/\(out++[p]).map Pl.ptrPut=l.take (k+1)/\(out++[p]).all Pl.ptrOk=true):=Pm.hid fun e=>by
  subst e;have hpp:=pg_put hp;refine⟨by rw[hst,AN,hA.out];rfl,by rw[List.map_append,hP.out.1,A8,hx];simp[hpp.1],by rw[AN,hP.out.2];simp[hpp.2]⟩
 clear hx hp hl hst hO hA hP hfan hj c0;obtain⟨p1,p2,p3,p4,p5⟩:=p
 repeat' first|refine kS ?_|refine qS (iy hr) ?_|refine QV Ty.h rfl Ty.h (hb:=?_) (kk:=?_)|refine kU ?_|refine kV ?_ ?_<;>intro q|fail
 all_goals first
  |(simp;omega)
  |(refine Qh (l.length -(k+1)) (by omega) ⟨k+1,g+1,out++[⟨p1,p2,p3,p4,p5⟩],by omega,rfl,by simp[hlen],?_,Pm.hid T1.out,Pm.hid (T2.out (by simpa using ‹(!ok)=false›)).1,Pm.hid (T2.out (by simpa using ‹(!ok)=false›)).2,?_⟩
    ·simp only[beq_eq_false_iff_ne] at*;omega
    ·simp[keepE,go_sem])
  |(refine Qed 2 true 5 (h:=?_)
    refine Qb (hx:=?_)
    rw[F.out (by first|exact .inl (by simpa using q)|exact .inr (by simp only[beq_iff_eq] at q;omega))];rfl)
def bDepth(n:Int):Pure A4 115 [dI n] (dI (if n<=1 then 0 else if n<=4 then 1 else 2)):=by
 refine kB ?_
 repeat' first|refine kA ?_|refine kV ?_ ?_<;>intro q|fail
 all_goals exact Qb (hx:=congrArg dI (by simp at*;split<;>(try split)<;>omega))
def Qcc(s:Pm.Store)(p:Pl.Ptr)(level:Int):List Pl.Ptr×Bool:=
 if Pl.ptrHole p then(List.replicate 4 Pl.hole,true) else
 if(Qf s.1 p).2=true/\p.level=level then((QaF (Qf s.1 p).1).1,(QaF (Qf s.1 p).1).2&& !(QaF (Qf s.1 p).1).1.any (fun q=>decide (p.birth<q.birth))) else([],false)
theorem QmM{s:Pm.Store}{level:Int}(h1:Pl.ptrOk p=true)(h2:p.birth<=s.2.2.1):(Qcc s p level).2=(Qi s p level).2/\((Qi s p level).2=true->Qcc s p level=Qi s p level):=by grind [Qcc,Qi]
theorem bFanOf(s:Pm.Store)(hg:QP s)(p:Pl.Ptr)(hp:Pl.ptrHole p=false->Pl.ptrOk p=true)(level:Int):Pure A4 116 [.pd (rSt s),dPtr p,dI level] (.tup [tPtrs (Qcc s p level).1,dB (Qcc s p level).2]):=by
 have hd:=Pm.hid (Qcc.eq_def s p level);have c1:=Qep p;cases h1:Pl.ptrHole p;rotate_left
 ·rw[h1] at c1 hd
  refine kE ?_;refine Qa 0 (h:=?_)
  repeat refine kA ?_
  (refine Qa 1 (h:=?_);refine Qb (hx:=?_))
  rw[hd.out];rfl
 have c2:=bRead s hg p hp;have hlen:=Qh4 s hg p;rw[h1] at c1 hd;generalize Qf s.1 p=r at*;obtain⟨tx,ok⟩:=r;simp only at hlen hd;have c3:=bFanGet tx (by omega);have hfl:=Qku tx;generalize QaF tx=fb at*;obtain⟨l,fine⟩:=fb;simp only at hfl hd;have c4:=Qk4 l (by omega) 188 (.pd (rPtr p)) (fun q=>decide (p.birth<q.birth)) Tryz.call188 fun q _=>bFanOf1 p q
 generalize l.any (fun q=>decide (p.birth<q.birth))=any at*;refine kE ?_;refine Qa 0 (h:=?_);have c5:=c4.arg (l:=[.d (tPtrs l),.fn (.func 188) [.d (.pd (rPtr p))]])
 repeat' first|refine kS ?_|refine qS (Qex rfl) ?_|refine qS (Qeq cK c5 rfl rfl) ?_|refine kU ?_|refine kV ?_ ?_<;>intro q|fail
 all_goals first
  |(refine Qed 6 true 5 (h:=?_)
    refine Qb (hx:=?_)
    rw[hd.out,if_neg (by simp),if_neg (by simp_all)];rfl)
  |(refine Qb (hx:=?_)
    rw[hd.out,if_neg (by simp),if_pos (by simp_all)];simp_all)
theorem Ql9{l:List Qq}(h:Qab l=true): ∀e∈l,e.1.length<=4:=fun e he=>by
 grind [ent_b,QF]
theorem QiG{l:List Qq}(h: ∀e∈l,e.1.length<=4/\0<=e.2/\e.2<=15):(QG l).length<=l.length*20:=by
 induction l with
 |nil=>simp[QG]
 |cons e l ih=>
  have h1:=h e A6;have h2:=Pl.QcU 8 e.2.toNat (by omega);have ih:=ih fun x hx=>h x (A7 _ hx)
  grind [QG,Qas]
def al12Put(l:List Qq)(h:Qab l=true):Pure A4 254 [dEnts l] (dS (QG l)):=by
 have hb: ∀e∈l,e.1.length<=4/\0<=e.2/\e.2<=15:=fun e he=>by have:=Ql9 h e he;have:=ent_b h e he;omega
 have hl:l.length<=12:=by unfold Qab at h;rw[A9,decide_eq_true_eq] at h;exact h.2
 clear h;refine kB ?_
 repeat refine kA ?_
 refine Qo (fun m st=> ∃k:Nat,k<=l.length/\m=l.length -k/\st=⟨28,[(3,.d (dS (QG (l.take k)))),(4,.d (dI k)),(0,.d (dEnts l))],[]⟩) [3,4,0] 0 l.length ⟨0,by omega,rfl,rfl⟩ (round:=?_);rintro m st ⟨k,hk,rfl,rfl⟩
 repeat refine kG ?_
 cases q3:decide ((k:Int)<(l.length:Int))
 ·repeat refine kA ?_
  refine Qb (hx:=?_);have:k=l.length:=by simp at q3;omega
  rw[this,AA]
 have hk2:k<l.length:=by simp at q3;omega
 obtain⟨x,hx⟩: ∃x,l[k]? =some x:=⟨_,A1 hk2⟩;have hr:=Qt (f:=rEnt) hx;have hlen:=QiG (l:=l.take k) fun e he=>hb e (List.mem_of_mem_take he)
 rw[AP] at hlen;have hxb:=hb x (A0 hx);have T:AH (QG (l.take (k+1))=QG (l.take k)++x.1++[61]++Pl.dec x.2.toNat++[59]):=Pm.hid (by rw[A8,hx];simp[QG,Qas]);have hdl:=Pl.QcU 8 x.2.toNat (by omega);have c:=al6Dec x.2.toNat (by omega);rw[show((x.2.toNat:Nat):Int)=x.2 by omega] at c;clear hx hb;generalize QG (l.take k)=out at*;generalize Pl.dec x.2.toNat=d at*;obtain⟨nm,id⟩:=x;simp only at hxb c T hr
 repeat' first|refine kS ?_|refine qD (iy hr) ?_|refine qD (QcX (m:=[61]) rfl rfl (by first|omega|(simp;omega))) ?_|refine qD (QcX (m:=[59]) rfl rfl (by first|omega|(simp;omega))) ?_|refine qD (QcX rfl rfl (by first|omega|(simp;omega))) ?_|refine kU ?_|fail
 refine Qh (l.length -(k+1)) (by omega) ⟨k+1,by omega,rfl,?_⟩;simp[keepE,go_sem,T.out]
theorem QmO{e:Qq}(h:QaA x=some e):e.1.length<=x.length:=by grind [QaA,Qe2]
theorem Qjc(s:List UInt8)(hs:s.length<=1000000000000):Pure A4 199 [dS s] (.tup [tEnts (QbP s).1,dB (QbP s).2]):=by
 have cw:=al2Cut s 59 hs;have hW:=Qe2 59 s;have hne:=Pl.Qhu 59 s;have hread:=fun m=>Qrp (s:=s) (m:=m)
 have hbad:=fun k x=>eg_bad (s:=s) (k:=k) (x:=x)
 generalize Pl.cutB 59 s=w at*;have hw1:0<w.length:=List.length_pos_iff.2 hne;clear hne;have hread:=Pm.hid hread;have hbad:=Pm.hid hbad;refine kB ?_
 repeat refine kA ?_
 refine Qo (fun m st=> ∃(k g:Nat) (out:List Qq),k+1<=w.length/\m=w.length -k/\out.length=k/\AH (∀(i:Nat) e,out[i]? =some e-> ∃x,w[i]? =some x/\QaA x=some e)/\
  st=⟨55,[(4,.osl 0 g 0 out.length),(5,.d (tStrs w)),(6,.d (dI k)),(0,.d (dS s))],[.arr g 2 112 (out.map rEnt)]⟩) [4,5,6,0] 1 w.length ⟨0,0,[],by omega,rfl,rfl,Pm.hid (by simp),rfl⟩ (round:=?_)
 rintro m st ⟨k,g,out,hk,rfl,hlen,hO,rfl⟩
 repeat refine kG ?_
 cases q3:decide ((k:Int)+1<(w.length:Int))
 ·have hk3:out.length+1=w.length:=by simp at q3;omega
  have hg:=Pm.hid (hread.out out hk3 hO.out)
  have hel: ∀e∈out,e.1.length<=Pm.big:=fun e he=>by
   obtain⟨i,hi⟩:=List.getElem?_of_mem he;obtain⟨x,hx,hx2⟩:=hO.out i e hi;have:=QmO hx2;have:=hW.2 x (A0 hx);unfold Pm.big;omega
  have ce:=(Qpy out (by unfold Pm.big;omega) hel).arg (l:=[tEnts out]);cases hE:Qab out
  ·rw[hE] at ce
   clear hread hbad hO hel
   repeat' first|refine kA ?_|refine kV ?_ ?_<;>intro q|fail
   ·rw[q3] at q;cases q
   refine Qeo 0 (h:=?_)
   repeat refine kA ?_
   (refine Qa 1 (h:=?_);refine Qb (hx:=?_))
   rw[hg.out,hE];rfl
  ·rw[hE] at ce
   have cp:=(al12Put out hE).arg (l:=[tEnts out]);clear hread hbad hO hel;generalize QG out=t at*
   repeat' first|refine kA ?_|refine kV ?_ ?_<;>intro q|fail
   ·rw[q3] at q;cases q
   refine Qeo 0 (h:=?_)
   repeat' first|refine kA ?_|refine kV ?_ ?_<;>intro q|fail
   all_goals
    (first|refine Qb (hx:=?_)|(refine Qa 1 (h:=?_);refine Qb (hx:=?_)))
    rw[hg.out,hE]
    simp_all
 have hk2:k<w.length:=by omega
 obtain⟨x,hx⟩: ∃x,w[k]? =some x:=⟨_,A1 hk2⟩;have hr:=Qt (f:=fun s=>[dS s]) hx;have hxl:=hW.2 x (A0 hx);have cx:=al2Cut x 61 (by omega);have hpl:=(Qe2 61 x).2;have hF:=Pm.hid (hbad.out k x (by simp at q3;omega) hx)
 have hT:AH (∀e,QaA x=some e-> ∀(i:Nat) e',(out++[e])[i]? =some e'-> ∃x,w[i]? =some x/\QaA x=some e'):=fun e he i e' hi=>by
  rcases AX i out.length with h|h
  ·rw[List.getElem?_append_left h] at hi;exact hO.out i e' hi
  ·have:i=out.length:=by have:=(List.getElem?_eq_some_iff.1 hi).1;simp at this;omega
   subst this;rw[List.getElem?_append_right (AI _)] at hi;simp at hi;subst hi;rw[hlen];exact⟨x,hx,he⟩
 have her:=Pm.hid (QaA.eq_def x);clear hx hread hbad hO;generalize Pl.cutB 61 x=p at*
 by_cases h2:p.length=2
 ·match p,h2 with
  |[a,b],_=>
  have cn:=aNumGet b (by have:=hpl b (by simp);unfold Pm.big;omega);have hT2:=Pm.hid (hT.out _ her.out);clear hT her hF;generalize (Pl.numGet b).getD 0=nb at*
  repeat' first|refine kS ?_|refine qS (iy hr) ?_|refine qS (iy rfl) ?_|refine QV Ty.h rfl Ty.h (hb:=?_) (kk:=?_)|refine kU ?_|refine kV ?_ ?_<;>intro q|fail
  ·simp;omega
  rotate_left
  ·rw[q3] at q;cases q
  ·simp only[decide_eq_true_eq] at q3
   refine Qh (w.length -(k+1)) (by omega) ⟨k+1,g+1,out++[(a,(nb:Int))],by omega,rfl,by simp[hlen],Pm.hid hT2.out,?_⟩;simp[keepE,go_sem]
 ·have hn:QaA x=none:=by
   rw[her.out];split
   ·exact absurd rfl h2
   ·rfl
  have hF2:=Pm.hid (hF.out hn);clear hT her hF hn
  repeat' first|refine kS ?_|refine qS (iy hr) ?_|refine kU ?_|refine kV ?_ ?_<;>intro q|fail
  all_goals first|exfalso;rw[q3] at q;cases q|exfalso;simp only[bne_eq_false_iff_eq] at*;omega|((refine Qa 1 (h:=?_);refine Qb (hx:=?_));rw[hF2.out];rfl)
def al9Get(s:Pm.Store)(hg:QP s)(t:Pl.Tree)(ht:Qx t):Pure A4 198 [dSt s,dTree t] (.tup [dS (QaL (Qc s t)).1,dB (QaL (Qc s t)).2]):=by
 have c:=Qe3 s hg t ht;have hl:=texts_len s ht;have hle:=texts_le s hg t;have hm:=ht.manyHi;have hm0:=ht.manyLo;have hd:AH (QaL (Qc s t)=if(AB (Qc s t).length).all (Qav (Qc s t)) then((Qc s t).flatten,true) else([],false)):=Pm.hid rfl;generalize Qc s t=l at*;refine kE ?_;refine Qa 0 (h:=?_);refine Qa 1 (h:=?_)
 repeat refine kA ?_
 refine Qo (fun m st=> ∃(k:Nat) (out:List UInt8),k<=l.length/\m=16 -k/\out.length<=128*k/\AH (out=(l.take k).flatten)/\AH ((AB k).all (Qav l)=true)/\
  st=⟨41,[(6,.d (dS out)),(7,.d (tStrs l)),(8,.d (dI k)),(3,.d (.pd (rTree t)))],[.row 1 [],.row 1 []]⟩) [6,7,8,3] 2 16 ⟨0,[],by omega,rfl,by simp,Pm.hid rfl,Pm.hid rfl,rfl⟩ (round:=?_)
 rintro m st ⟨k,out,hk,rfl,hol,hO,hA,rfl⟩
 repeat refine kG ?_
 cases q4:decide ((k:Int)<t.many)
 ·repeat refine kA ?_
  refine Qb (hx:=?_);have:k=l.length:=by simp at q4;omega
  have h:=hA.out;have ho:=hO.out;rw[this] at h;rw[this,AA] at ho;rw[hd.out,h,ho];rfl
 have hk2:k<l.length:=by simp at q4;omega
 obtain⟨x,hx⟩: ∃x,l[k]? =some x:=⟨_,A1 hk2⟩;have hr:=Qt (f:=fun s=>[dS s]) hx;have hxl:=hle x (A0 hx);have he:AH (Qav l k=(!(x==[])&&(decide (k+1=l.length)||decide (x.length=128)))):=Pm.hid (by unfold Qav;simp only[A2,hx,AQ]);have T:AH (Qav l k=true->(AB (k+1)).all (Qav l)=true):=fun h=>Pl.Qdd (p:=Qav l) hA.out h
 have T2:AH ((l.take (k+1)).flatten=out++x):=Pm.hid (by rw[A8,hx,hO.out];simp)
 have F:AH (Qav l k=false->QaL l=([],false)):=fun h=>by
  rw[hd.out,Pl.Qda (p:=Qav l) hk2 h];rfl
 rw[he.out] at T F;clear hx hA hO hd he hle c
 repeat' first|refine kS ?_|refine qS (iy hr) ?_|refine qS (QcX rfl rfl (by omega)) ?_|refine kU ?_|refine kV ?_ ?_<;>intro q|fail
 all_goals clear hr
 all_goals simp only[decide_eq_true_eq,decide_eq_false_iff_not] at*
 all_goals generalize (x==[])=u at*
 all_goals first
  |(refine Qh (16 -(k+1)) (by omega) ⟨k+1,out++x,by omega,rfl,by simp;omega,Pm.hid T2.out.symm,Pm.hid (T.out ?_),rfl⟩;clear T F T2;cases u<;>simp at* <;>omega)
  |(refine Qb (hx:=?_);have hF:(!u&&(decide (k+1=l.length)||decide (x.length=128)))=false:=by
     clear T F T2;cases u<;>simp at* <;>omega
    rw[F.out hF])
theorem Qjb(s:Pm.Store)(hg:QP s)(n:Qj):Pure A4 126 [dSt s,dNode n] (.tup [tEnts (Qg s n).1,dB (Qg s n).2]):=by
 have hd:=Pm.hid (Qg.eq_def s n);have c1:=aNodeOk n;have c2:=al8Ok s hg n.tree;cases h1:QH s n.tree
 ·rw[h1] at c2 hd
  generalize Q8 n=ok at*;refine kE ?_;refine Qa 0 (h:=?_);refine Qa 1 (h:=?_)
  repeat' first|refine kA ?_|refine kV ?_ ?_<;>intro q|fail
  all_goals
   (refine Qa 2 (h:=?_);refine Qb (hx:=?_))
   rw[hd.out];simp
 have ht:=Qdo h1;have c3:=al9Get s hg n.tree ht
 have hb:(QaL (Qc s n.tree)).1.length<=16*128:=by
  have hl:=texts_len s ht;have hm:=ht.manyHi;have hle:=texts_le s hg n.tree;unfold QaL;split
  ·simp only
   have: ∀l:List (List UInt8),(∀x∈l,x.length<=128)->l.flatten.length<=l.length*128:=by
    intro l;induction l with
    |nil=>intro _;simp
    |cons a l ih=>intro h;have:=ih fun x hx=>h x (A7 _ hx);have:=h a A6;rw[List.flatten_cons,AE,AF];omega
   have:=this _ hle;omega
  ·simp
 have c4:=Qjc (QaL (Qc s n.tree)).1 (by omega);rw[h1] at c2 hd;generalize Q8 n=ok at*;generalize QaL (Qc s n.tree)=bb at*;obtain⟨tx,fine⟩:=bb;simp only at hb c4 hd;generalize QbP tx=r at*;obtain⟨es,good⟩:=r;clear h1 ht;refine kE ?_;refine Qa 0 (h:=?_);refine Qa 1 (h:=?_)
 repeat' first|refine kA ?_|refine kV ?_ ?_<;>intro q|fail
 all_goals
  (first|refine Qb (hx:=?_)|(refine Qa 2 (h:=?_);refine Qb (hx:=?_)))
  rw[hd.out];clear c1 c2 c3 c4 hd
  simp_all
def QkH(size:Int)(k:Nat)(h0:0<=size)(h1:size<=2048)(hk:k<=100):Pure A4 177 [dI size,dI k] (dI (Qa6 size k)):=by
 refine kB ?_
 repeat' first|refine kS ?_|refine qS (Qdu rfl rfl (by omega)) ?_|refine qS (Qmy rfl rfl) ?_|refine kU ?_|fail
 exact Qb (hx:=rfl)
theorem al13Ok(s:Pm.Store)(hg:QP s)(n:Qj):Pure A4 130 [dSt s,dNode n] (dB (QO s n)):=by
 have hd:AH (QO s n=(Q8 n&&(n.kind==1)&&QH s n.tree&&(AB n.tree.many.toNat).all (Qa9 n.size (Qc s n.tree)))):=Pm.hid rfl;have c1:=aNodeOk n;have c2:=al8Ok s hg n.tree
 by_cases hk:Q8 n=true/\n.kind=1/\QH s n.tree=true
 rotate_left
 ·have hx:AH (QO s n=false):=Pm.hid (by
   rw[hd.out];cases h1:Q8 n
   ·rfl
   ·cases h2:QH s n.tree
    ·simp
    ·have:(n.kind==1)=false:=by simpa using fun h=>hk ⟨h1,h,h2⟩
     rw[this];rfl)
  clear hd;generalize Q8 n=ok at*;generalize QH s n.tree=tok at*;refine kE ?_;refine Qa 0 (h:=?_);refine Qa 1 (h:=?_)
  repeat' first|refine kA ?_|refine kV ?_ ?_<;>intro q|fail
  all_goals first|refine Qb (hx:=?_);rw[hx.out];done|exfalso;simp_all;done|exfalso;apply hk;simp_all
 obtain⟨h1,h2,h3⟩:=hk;have ht:=Qdo h3;have hb:=QdZ h1;have hs:=hb.size;have c3:=Qe3 s hg n.tree ht;have hl:=texts_len s ht;have hle:=texts_le s hg n.tree;have hm:=ht.manyHi;have hm0:=ht.manyLo;have hd2:AH (QO s n=(AB n.tree.many.toNat).all (Qa9 n.size (Qc s n.tree))):=Pm.hid (by rw[hd.out,h1,h2,h3];rfl);rw[h1] at c1;rw[h3] at c2;clear hd h1 h3 ht hb;generalize Qc s n.tree=l at*;obtain⟨kind,links,size,⟨root,depth,many⟩⟩:=n;simp only at h2 hs hl hm hm0 hd2 c1 c2 c3;subst h2;refine kE ?_;refine Qa 0 (h:=?_);refine Qa 1 (h:=?_)
 repeat refine kA ?_
 refine Qo (fun m st=> ∃(k:Nat),k<=l.length/\m=16 -k/\AH ((AB k).all (Qa9 size l)=true)/\
  st=⟨51,[(5,.d (tStrs l)),(6,.d (dI k)),(3,.d (.pd (rNode ⟨1,links,size,⟨root,depth,many⟩⟩)))],[.row 1 [],.row 1 []]⟩) [5,6,3] 2 16 ⟨0,by omega,rfl,Pm.hid rfl,rfl⟩ (round:=?_)
 rintro m st ⟨k,hk,rfl,hA,rfl⟩
 repeat refine kG ?_
 cases q4:decide ((k:Int)<many)
 ·repeat refine kA ?_
  refine Qb (hx:=?_);have:k=many.toNat:=by simp at q4;omega
  have h:=hA.out;rw[this] at h;rw[hd2.out,h]
 have hk2:k<l.length:=by simp at q4;omega
 obtain⟨x,hx⟩: ∃x,l[k]? =some x:=⟨_,A1 hk2⟩;have hr:=Qt (f:=fun s=>[dS s]) hx;have hxl:=hle x (A0 hx);have he:AH (Qa9 size l k=(decide ((x.length:Int)<=Qa6 size k)&&(QaP x==x))):=Pm.hid (by unfold Qa9;simp only[A2,hx,AQ]);have T:AH (Qa9 size l k=true->(AB (k+1)).all (Qa9 size l)=true):=fun h=>Pl.Qdd (p:=Qa9 size l) hA.out h
 have F:AH (Qa9 size l k=false->QO s ⟨1,links,size,⟨root,depth,many⟩⟩=false):=fun h=>by
  rw[hd2.out,Pl.Qda (p:=Qa9 size l) (by omega) h]
 rw[he.out] at T F;have c4:=QkH size k hs.1 hs.2 (by omega);have c5:=al10Cut x (by unfold Pm.big;omega);clear hx hA hd2 he hle c1 c2 c3;generalize QaP x=y at*;generalize Qa6 size k=lg at*
 repeat' first|refine kS ?_|refine qS (iy hr) ?_|refine kU ?_|refine kV ?_ ?_<;>intro q|fail
 all_goals clear hr c4 c5
 all_goals simp only[decide_eq_true_eq,decide_eq_false_iff_not] at*
 all_goals first|refine Qh (16 -(k+1)) (by omega) ⟨k+1,by omega,rfl,Pm.hid (T.out ?_),rfl⟩;clear T F;simp_all;try omega|refine Qb (hx:=?_);rw[F.out ?_];clear T F;simp_all;try omega
attribute [local irreducible] Fg.PlanF Fg.Flts
theorem QpM: ∀(p:List (List UInt8)),(∀x∈p,x.length<=4)->(QC p).length<=5*p.length+1:=by intro l;induction l<;>grind [QC]
theorem Qe0(s:Pm.Store)(n:Qj):(Qg s n).1.length<=12:=by grind [QdG,Qab]
theorem Qei(h:QF x=true):x.length<=4:=by grind [QF]
theorem Qp2(ns:List Qj)(E:Qj->List Qq×Bool): ∀(n:Nat) (x:QaT) (out:List QaT),(Qbl ns E n x out).2=true->(Qbl ns E n x out).1.length<=144
 |0,x,out,h=>by cases h
 |n+1,x,out,h=>by
  have hf: ∀(l:List Qq) (r:List QaT×Bool),(r.2=true->r.1.length<=144)->(Qb0 ns E n x.1 l r).2=true->(Qb0 ns E n x.1 l r).1.length<=144:=by
   intro l;induction l with
   |nil=>intro r hr h;exact hr h
   |cons e l ih=>
    rintro⟨o,b⟩ hr h;cases b
    ·grind [Qic]
    ·rw[Qfm] at h⊢
     exact ih _ (Qp2 ns E n _ o) h
  unfold Qbl at h⊢;split at h
  ·cases h
  ·rename_i hc
   rw[if_neg hc];split at h
   ·grind
   ·rename_i hk
    rw[if_neg hk];refine hf _ _ (fun _=>?_) h
    grind
theorem QtC(s:Pm.Store)(hg:QP s)(ns:List Qj)(hns:ns.length<=16): ∀(n:Nat) (p:List (List UInt8)) (id:Int) (out:List QaT) (g:Nat),145<=out.length+n->out.length<=144->p.length<=out.length->(∀x∈p,QF x=true)->
 Does A4 129 [.d (dSt s),.d (.sl true 10 (ns.map rNode)),.d (.agg [dS (QC p),dI id]),.osl 0 g 0 out.length] [.arr g 2 43 (out.map rFnd)] []
  (.tup [.osl 0 (g+((Qbl ns (Qg s) n (p,id) out).1.length -out.length)) 0 (Qbl ns (Qg s) n (p,id) out).1.length,.d (dB (Qbl ns (Qg s) n (p,id) out).2)])
  [.arr (g+((Qbl ns (Qg s) n (p,id) out).1.length -out.length)) 2 43 ((Qbl ns (Qg s) n (p,id) out).1.map rFnd)]:=by
 intro n;induction n with
 |zero=>intro p id out g h1 h2;omega
 |succ n ih=>
  intro p id out g h1 h2 h3 hp;have hwl:=(Qp3 ns (Qg s) (n+1) (p,id) out).2 (by omega)
  have hw:AH (Qbl ns (Qg s) (n+1) (p,id) out=if 144<out.length+1∨Pl.inR id 0 (ns.length -1)=false∨(ns.getD id.toNat Qd).kind=0 then(out++[(p,id)],false) else
   if(ns.getD id.toNat Qd).kind=1 then(out++[(p,id)],true) else Qb0 ns (Qg s) n p (Qg s (ns.getD id.toNat Qd)).1 (out++[(p,id)],(Qg s (ns.getD id.toNat Qd)).2)):=Pm.hid rfl
  have hspl:=QpM p fun x hx=>Qei (hp x hx)
  have hnl:(ns.map rNode).length=ns.length:=AC ..;have hol:(out.map rFnd).length=out.length:=AC ..;have c1:=al6In id 0 (ns.length -1);refine kL ?hpin fun gvs=>?_
  case hpin=>
   intro i C hC
   match i,hC with
   |0,hC=>obtain rfl:=AD hC;exact⟨_,rfl,rfl,rfl,.inl (by omega)⟩
  simp only[parA,gslot,Nat.zero_add,Nat.reduceAdd]
  by_cases h144:out.length=144
  ·have hw2:AH (Qbl ns (Qg s) (n+1) (p,id) out=(out++[(p,id)],false)):=Pm.hid (by rw[hw.out,if_pos (.inl (by omega))])
   rw[hw2.out];clear hw hw2 ih hwl;refine kR ?_;refine Qa 1 (h:=?_);refine Qa 2 (h:=?_)
   repeat' first|refine kS ?_|refine QV Ty.h rfl Ty.h (hb:=?_) (kk:=?_)|refine kU ?_|refine kV ?_ ?_<;>intro q|fail
   all_goals first|exfalso;simp only[decide_eq_false_iff_not] at*;omega|simp;omega|refine Qee [8,9,1000000] 1 (h:=?_);refine QdB (hx:=?_) (hH:=?_)<;>simp<;>done
  have h2':out.length<144:=by omega
  cases hR:Pl.inR id 0 (ns.length -1)
  ·have hw2:AH (Qbl ns (Qg s) (n+1) (p,id) out=(out++[(p,id)],false)):=Pm.hid (by rw[hw.out,if_pos (.inr (.inl hR))])
   rw[hw2.out];rw[hR] at c1;clear hw hw2 ih hwl;refine kR ?_;refine Qa 1 (h:=?_);refine Qa 2 (h:=?_)
   repeat' first|refine kS ?_|refine QV Ty.h rfl Ty.h (hb:=?_) (kk:=?_)|refine kU ?_|refine kV ?_ ?_<;>intro q|fail
   all_goals first|exfalso;simp only[decide_eq_true_eq] at*;omega|simp;omega|refine Qee [8,9,1000000] 1 (h:=?_);refine QdB (hx:=?_) (hH:=?_)<;>simp<;>done
  rw[hR] at c1;have hid:0<=id/\id<ns.length:=by simp[Pl.inR] at hR;omega
  obtain⟨nd,hnd⟩: ∃nd,ns[id.toNat]? =some nd:=⟨_,A1 (by omega)⟩;have hgd:ns.getD id.toNat Qd=nd:=by rw[A2,hnd];rfl
  have hr:(ns.map rNode)[id.toNat]? =some (rNode nd):=by rw[AO,hnd];rfl
  rw[hgd] at hw
  have hc: ¬(144<out.length+1∨Pl.inR id 0 (ns.length -1)=false∨nd.kind=0)∨nd.kind=0:=by
   by_cases h0:nd.kind=0
   ·exact .inr h0
   ·exact .inl (by rw[hR];simp[h0];omega)
  clear hgd hnd
  by_cases hk0:nd.kind=0
  ·have hw2:AH (Qbl ns (Qg s) (n+1) (p,id) out=(out++[(p,id)],false)):=Pm.hid (by rw[hw.out,if_pos (.inr (.inr hk0))])
   rw[hw2.out];clear hw hw2 ih hwl hc;refine kR ?_;refine Qa 1 (h:=?_);refine Qa 2 (h:=?_)
   repeat' first|refine kS ?_|refine qD (QcV Ty.h rfl Ty.h rfl rfl rfl hid.1 hr) ?_|refine qS (QcV Ty.h rfl Ty.h rfl rfl rfl hid.1 hr) ?_|refine QV Ty.h rfl Ty.h (hb:=?_) (kk:=?_)|refine kU ?_|refine kV ?_ ?_<;>intro q|fail
   all_goals first|exfalso;simp only[decide_eq_true_eq] at*;omega|exfalso;simp only[beq_eq_false_iff_ne] at*;omega|simp;omega|refine Qee [8,9,1000000] 1 (h:=?_);refine QdB (hx:=?_) (hH:=?_)<;>simp<;>done
  have hc:=hc.resolve_right hk0
  by_cases hk1:nd.kind=1
  ·have hw2:AH (Qbl ns (Qg s) (n+1) (p,id) out=(out++[(p,id)],true)):=Pm.hid (by rw[hw.out,if_neg hc,if_pos hk1])
   rw[hw2.out];clear hw hw2 ih hwl hc;refine kR ?_;refine Qa 1 (h:=?_);refine Qa 2 (h:=?_)
   repeat' first|refine kS ?_|refine qD (QcV Ty.h rfl Ty.h rfl rfl rfl hid.1 hr) ?_|refine qS (QcV Ty.h rfl Ty.h rfl rfl rfl hid.1 hr) ?_|refine QV Ty.h rfl Ty.h (hb:=?_) (kk:=?_)|refine kU ?_|refine kV ?_ ?_<;>intro q|fail
   all_goals first|exfalso;simp only[decide_eq_true_eq] at*;omega|exfalso;simp only[beq_eq_false_iff_ne,beq_iff_eq] at*;omega|simp;omega|refine Qee [8,9,1000000] 1 (h:=?_);refine QdB (hx:=?_) (hH:=?_)<;>simp<;>done
  have hw2:AH (Qbl ns (Qg s) (n+1) (p,id) out=Qb0 ns (Qg s) n p (Qg s nd).1 (out++[(p,id)],(Qg s nd).2)):=Pm.hid (by rw[hw.out,if_neg hc,if_neg hk1]);have c2:=Qjb s hg nd;have heb:=QiF s nd;have hes:=Qe0 s nd;clear hw hc;generalize Qg s nd=ee at*;obtain⟨es,ok0⟩:=ee;simp only at hw2 heb hes;obtain⟨kind,links,size,⟨⟨p1,p2,p3,p4,p5⟩,depth,many⟩⟩:=nd;simp only at hk0 hk1;refine kR ?_;refine Qa 1 (h:=?_);refine Qa 2 (h:=?_)
  repeat' first|refine kS ?_|refine qD (QcV Ty.h rfl Ty.h rfl rfl rfl hid.1 hr) ?_|refine qS (QcV Ty.h rfl Ty.h rfl rfl rfl hid.1 hr) ?_|refine QV Ty.h rfl Ty.h (hb:=?_) (kk:=?_)|refine kU ?_|refine kV ?_ ?_<;>intro q|fail
  all_goals first|exfalso;simp only[decide_eq_true_eq] at*;omega|exfalso;simp only[beq_eq_false_iff_ne,beq_iff_eq] at*;omega|simp;omega|skip
  generalize hsp:QC p=sp at hspl
  refine Qo (fun m st=> ∃(k gg:Nat) (o:List QaT) (b:Bool),k<=es.length/\m=es.length -k/\out.length+1<=o.length/\gg=g+(o.length -out.length)/\AH (Qbl ns (Qg s) (n+1) (p,id) out=Qb0 ns (Qg s) n p (es.drop k) (o,b))/\
   (b=true->o.length<=144)/\st=⟨101,[(3,.osl 0 gg 0 o.length),(10,.d (tEnts es)),(11,.d (dB b)),(12,.d (dI k)),(1,.d (.sl true 10 (ns.map rNode))),(4,.d (.pd (rSt s))),(6,.d (.pd [dS sp,dI id])),(1000000,.gh [] gvs)],[.arr gg 2 43 (o.map rFnd),.row 1 [],.row 1 []]⟩)
   [3,10,11,12,1,4,6,1000000] 3 es.length ⟨0,g+1,out++[(p,id)],ok0,by omega,rfl,by simp,by simp,Pm.hid hw2.out,fun _=>by simp;omega,?_⟩ (round:=?_)
  ·rw[<-hsp];simp[keepE,go_sem]
  rintro m st ⟨k,gg,o,b,hk,rfl,hol2,hgg,hW,hb,rfl⟩
  by_cases hkb:k<es.length/\b=true
  rotate_left
  ·have hw3:AH (Qbl ns (Qg s) (n+1) (p,id) out=(o,b)):=Pm.hid (by
    rw[hW.out]
    by_cases hb2:b=true
    ·have hk2:k=es.length:=by have: ¬k<es.length:=fun h=>hkb ⟨h,hb2⟩;omega
     rw[hk2,List.drop_length];rfl
    ·have:b=false:=by simpa using hb2
     rw[this,Qic])
   clear hW hw2 ih hwl
   repeat' first|refine kA ?_|refine kV ?_ ?_<;>intro q|fail
   all_goals first|exfalso;simp only[decide_eq_true_eq] at*;exact hkb ⟨by omega,by assumption⟩|refine Qee [8,9,1000000] 1 (h:=?_);refine QdB (hx:=?_) (hH:=?_)<;>rw[hw3.out,hgg];done
  obtain⟨hk2,rfl⟩:=hkb;have hb:=hb rfl;obtain⟨e,he⟩: ∃e,es[k]? =some e:=⟨_,A1 hk2⟩;have hre:=Qt (f:=rEnt) he;have hen:=(heb e (A0 he)).1
  have IH:=ih (p++[e.1]) e.2 o gg (by omega) hb (by simp;omega) (fun x hx=>by
   rcases List.mem_append.1 hx with hx|hx
   ·exact hp x hx
   ·rw[List.mem_singleton] at hx;rw[hx];exact hen)
  have hP:=Qqt hp;have hroot:AH (sp=[47]↔p=[]):=Pm.hid (by rw[<-hsp];exact Qjh hP);have hsn:QC (p++[e.1])=if p=[] then [47]++e.1 else sp++[47]++e.1:=by rw[Qoy,hsp];split<;>simp
  have hstep:AH (Qbl ns (Qg s) (n+1) (p,id) out=Qb0 ns (Qg s) n p (es.drop (k+1)) (Qbl ns (Qg s) n (p++[e.1],e.2) o)):=Pm.hid (by rw[hW.out,QgR he,Qfm]);have hlen:=(Qp3 ns (Qg s) n (p++[e.1],e.2) o).1;have htrue:=Qp2 ns (Qg s) n (p++[e.1],e.2) o;have hnl4:=Qei hen;rw[hsn] at IH;clear ih hW hw2 hwl he heb hsn hsp hp;generalize Qbl ns (Qg s) n (p++[e.1],e.2) o=r at*;obtain⟨o',b'⟩:=r;obtain⟨nm,eid⟩:=e;simp only at IH hlen htrue hnl4 hstep hre
  by_cases hp0:p=[]
  ·rw[if_pos hp0] at IH
   have hsp2:sp=[47]:=hroot.out.2 hp0;subst hsp2
   repeat' first|refine kS ?_|(show AWP _ (.region 13 _ _) _ _;refine(Fg.awp_drawF (id:=13) [] [10] ?_))|refine qD (iy hre) ?_|refine qS (iy hre) ?_|refine qD (QcX (l:=[47]) (m:=[47]) rfl rfl (by first|omega|(simp;omega))) ?_|refine qS (QcX (l:=[47]) rfl rfl (by first|omega|(simp;omega))) ?_|refine qD (QcX rfl rfl (by first|omega|(simp;omega))) ?_|refine(QgZ [0] IH cK (k:=?_))|refine kU ?_|refine kV ?_ ?_<;>intro q|fail
   all_goals first|refine Qh (es.length -(k+1)) (by omega) ⟨k+1,gg+(o'.length -o.length),o',b',by omega,rfl,by omega,by omega,Pm.hid hstep.out,htrue,?_⟩;simp[keepE,go_sem];done|exfalso;simp at q;done|exfalso;simp only[decide_eq_false_iff_not] at*;omega|exfalso;simp_all;done
  ·rw[if_neg hp0] at IH
   have hsp2: ¬sp=[47]:=fun h=>hp0 (hroot.out.1 h)
   repeat' first|refine kS ?_|(show AWP _ (.region 13 _ _) _ _;refine(Fg.awp_drawF (id:=13) [] [10] ?_))|refine qD (iy hre) ?_|refine qS (iy hre) ?_|refine qD (QcX (m:=[47]) rfl rfl (by first|omega|(simp;omega))) ?_|refine qS (QcX (l:=[47]) rfl rfl (by first|omega|(simp;omega))) ?_|refine qD (QcX rfl rfl (by first|omega|(simp;omega))) ?_|refine qS (Qdm (m:=[47]) rfl rfl) ?_|refine(QgZ [0] IH cK (k:=?_))|refine kU ?_|refine kV ?_ ?_<;>intro q|fail
   all_goals first|refine Qh (es.length -(k+1)) (by omega) ⟨k+1,gg+(o'.length -o.length),o',b',by omega,rfl,by omega,by omega,Pm.hid hstep.out,htrue,?_⟩;simp[keepE,go_sem];done|exfalso;simp at q;done|exfalso;simp only[decide_eq_false_iff_not] at*;omega|exfalso;simp_all;done

/- Of fsk_card; no condition. -/
import Derived.Test.YtfmnpmhadmcdkaaGreatDoorS15
import Derived.Test.YtfmnpmhadmcdkaaGreatDoorS16
set_option linter.all false
set_option maxRecDepth 100000
set_option maxHeartbeats 8000000
open Bool renaming and_eq_true->AF
open Go.Op renaming bytesLess->A0
open Go.Proofs.Tryz renaming prog->A4
open Go.RowKit renaming Hid->AQ
open Int renaming eq_ofNat_of_zero_le->A1
open List renaming mem_of_getElem?->A2,getD_eq_getElem?_getD->A3,getElem?_eq_getElem->A5,mem_cons_self->A6,take_of_length_le->A7,mem_cons_of_mem->A8,length_append->AA,take_add_one->AC,length_cons->AD,all_eq_true->AE,mem_map->AG,map_map->AH,cons_append->AJ,append_nil->AK,length_map->AL,range->AM,mem_range->AN,map_cons->AO
open List.cons renaming injEq->AI
open Nat renaming le_refl->AB,le_trans->AR
open Option.some renaming inj->A9,injEq->AS
open Prod.mk renaming injEq->AP
namespace Go.Proofs.YtfmnpmhadmcdkaaGreatDoor
noncomputable section
section
open Go.RowKit
namespace Aw
attribute [local irreducible] ASeq ADraw AWP Loc AStep Fg.PlanF Fg.Flts EndR Fk.PlanF Fk.Flts Fk.AStepM Fk.Grew Fk.Gs
theorem Qnt(l:List Int): ∀r∈l.map (fun n=>[dI n]),∀d∈r,d.cell=true:=by
 intro r hr d hd;obtain⟨p,_,rfl⟩:=AG.1 hr;simp at hd;subst hd;rfl
theorem QsA(l:List (List UInt8)): ∀r∈l.map (fun n=>[dS n]),∀d∈r,d.cell=true:=by
 intro r hr d hd;obtain⟨p,_,rfl⟩:=AG.1 hr;simp at hd;subst hd;rfl
def DoesE.one{P:Program}{f:FuncId}{args:List AV}{x:AV}{H1:List Blk}(h:DoesE P f args [] [] (fun y K=>y=x/\K=H1)):Does P f args [] [] x H1:=
 ⟨fun i C hC=>by simp at hC,fun B σ S w cargs gvs h1 h2 h3 h4 h5 h6=>(h B σ S w cargs gvs h1 h2 h3 h4 h5 h6).mono fun _ _ ⟨_,_,⟨e1,e2⟩,_,h7⟩=>e1▸e2▸h7⟩
def dCopy5(refs last:List Int)(h1:refs.length<=100000)(h2:last.length<=100000):Does A4 155 [.d (.agg [dInts refs,dInts last])] [] [] (.agg [.osl 0 1 0 refs.length,.osl 1 1 0 last.length]) [.arr 1 1 3 (rI refs),.arr 1 1 3 (rI last)]:=by
 refine DoesE.one ?_;refine kH fun gvs=>?_
 refine Qa 0 (h:=?_)
 repeat' first|refine kS ?_|(show AWP _ (.region 1 _ _) _ _;refine(Fk.awp_drawF (id:=1) [0,1,2,4,5,6] [3,7,9] [(0,.arr 0 1 3 []),(4,.arr 0 1 3 [])] [] ?_))|refine(Fk.aw_fltS 2 rfl rfl rfl rfl rfl ?_)|refine(Fk.aw_fltS 3 rfl rfl rfl rfl rfl ?_)|refine(Fk.aw_appM (by kernel_rfl) Ty.h rfl Ty.h (hcell:=?_) (hb:=?_) (kk:=?_))|refine kU ?_|fail
 ·exact Qnt refs
 ·simp;omega
 ·exact Qnt last
 ·simp;omega
 refine QdI [2,1000000] [2,3,1] (env':=[(2,.ptr 2 0 0),(1000000,.gh [] gvs)]) (H':=[.arr 1 1 3 (rI refs),.arr 1 1 3 (rI last),.row 0 [.osl 0 1 0 refs.length,.osl 1 1 0 last.length]]) (h:=?_);refine Q1 2 (hx:=?_);exact⟨rfl,rfl⟩
def dCopy(w:Pl.Sto)(N:Nat)(hN:N<=1000000)(hw:w.W N):Does A4 91 [.d (dSt w.st)] [] [] (oS 1 w) (hS 1 w):=by
 have c1:=(dCopy5 w.refs w.last (by rw[hw.refs];omega) (by rw[hw.last];omega)).e;have h0:=hw.rows;have h1:=hw.refs;have h2:=hw.last;have h3:=hw.many;refine DoesE.one ?_;refine kH fun gvs=>?_
 repeat' first|refine kS ?_|refine Qet Ty.h rfl Ty.h (hb:=?_) (hcell:=?_) (kk:=?_)|refine QA [] c1 cK (k:=kX ?_)|refine kU ?_|fail
 all_goals first
  |exact QsA _
  |exact Qdq _
  |(simp[Pl.Sto.st];done)
  |(simp[Pl.Sto.st];omega)
  |(refine QdI [2,1000000] [2,3,4,5,6,1] (env':=[(2,.ptr 5 0 0),(1000000,.gh [] gvs)]) (H':=hS 1 w++[.row 0 [.osl 0 1 0 w.rows.length,.osl 1 1 0 w.refs.length,.osl 2 1 0 w.last.length,.d (dI w.txg),.osl 3 1 0 w.gone.length,.d (dI 0),.osl 4 1 0 0,.d (dB w.same)]]) (h:=?_)
    refine Q1 5 (hx:=?_);rw[h0,h1,h2]
    exact⟨rfl,rfl⟩)
def ptrPut_len(p:Pl.Ptr):(Pl.ptrPut p).length<=Pm.big:=by
 unfold Pl.ptrPut;split
 ·split
  ·decide
  ·unfold Pl.ptrText Pl.dots
   rename_i h _;have hb:=Pl.Qdx h;have h1:=Pl.QcU 8 p.pat.toNat (by omega);have h2:=Pl.QcU 8 p.birth.toNat (by omega);have h3:=Pl.QcU 8 p.size.toNat (by omega);have h4:=Pl.QcU 8 p.sum.toNat (by omega);have h5:=Pl.QcU 8 p.level.toNat (by omega);simp[List.intersperse,Pm.big];omega
 ·decide
def Qoq(n:Qj):Pure A4 98 [dNode n] (dS (Q6 n)):=by
 have c:=aNodeOk n;have hd:=Pm.hid (Q6.eq_def n);cases h:Q8 n
 ·rw[h] at c
  refine kE ?_;refine Qa 0 (h:=?_)
  repeat refine kA ?_
  refine Qb (hx:=?_);rw[hd.out,h];rfl
 ·rw[h] at c
  have hb:=QdZ h;have h1:=hb.kind;have h2:=hb.links;have h3:=hb.size;have h4:=hb.depth;have h5:=hb.many;obtain⟨kind,links,size,⟨root,depth,many⟩⟩:=n;simp only at h1 h2 h3 h4 h5;obtain⟨kind,rfl⟩:=A1 (show 0<=kind by omega);obtain⟨links,rfl⟩:=A1 (show 0<=links by omega);obtain⟨size,rfl⟩:=A1 h3.1;obtain⟨depth,rfl⟩:=A1 h4.1;obtain⟨many,rfl⟩:=A1 h5.1;have e:AQ (Q6 ⟨kind,links,size,⟨root,depth,many⟩⟩=(Pl.Qdb [Pl.dec kind,Pl.dec links,Pl.dec size,Pl.ptrPut root,Pl.dec depth,Pl.dec many,[101,110,100]]).getD []):=Pm.hid (by rw[hd.out,h];rfl);have c1:=al6Dec kind (by omega);have c2:=al6Dec links (by omega);have c3:=al6Dec size (by omega);have c4:=al6Dec depth (by omega);have c5:=al6Dec many (by omega);have hl: ∀k,k<=4294967296->(Pl.dec k).length<=Pm.big:=fun k hk=>AR (Pl.QcU 10 k (by omega)) (by decide)
  have cp:=(QjQ [Pl.dec kind,Pl.dec links,Pl.dec size,Pl.ptrPut root,Pl.dec depth,Pl.dec many,[101,110,100]] (by simp[Pm.big]) (by
   intro x hx;simp only[List.mem_cons,List.not_mem_nil,or_false] at hx;rcases hx with rfl|rfl|rfl|rfl|rfl|rfl|rfl
   ·exact hl _ (by omega)
   ·exact hl _ (by omega)
   ·exact hl _ (by omega)
   ·exact ptrPut_len root
   ·exact hl _ (by omega)
   ·exact hl _ (by omega)
   ·decide)).arg (l:=[tStrs [Pl.dec kind,Pl.dec links,Pl.dec size,Pl.ptrPut root,Pl.dec depth,Pl.dec many,[101,110,100]]])
  have c6:=aPtrPut root;clear hd hb h h1 h2 h3 h4 h5 hl;generalize Pl.Qdb [Pl.dec kind,Pl.dec links,Pl.dec size,Pl.ptrPut root,Pl.dec depth,Pl.dec many,[101,110,100]]=r at*;generalize Pl.ptrPut root=rt at*;generalize Pl.dec kind=d1 at*;generalize Pl.dec links=d2 at*;generalize Pl.dec size=d3 at*;generalize Pl.dec depth=d4 at*;generalize Pl.dec many=d5 at*;refine kE ?_;refine Qa 0 (h:=?_)
  repeat' first|refine kS ?_|refine qD (QfJ cK cp rfl) ?_|refine kU ?_|fail
  exact Qb (hx:=by rw[e.out])
def QpV{s:List UInt8}{l:List (List UInt8)}(h:Pl.IsRec s l): ∀x∈l,x.length<=2048:=by
 intro x hx;obtain⟨a,b,rfl⟩:=List.append_of_mem hx;have h1:=h.2.1;rw[<-h.2.2,Pl.Qfe,Pl.QeO,AA,AA,Pl.Qgv] at h1;omega
theorem Qia(s:List UInt8)(hs:s.length<=Pm.big):Pure A4 77 [dS s] (.tup [dNode (Qp s).1,dB (Qp s).2]):=by
 have c:=Qpx s hs;rcases Qnq s with⟨hr,hok⟩|h0;rotate_left
 ·have hn:AQ (Qp s=(Qd,false)):=Pm.hid (QhM (.inl (by rw[h0])))
  rw[h0] at c;refine kC ?_
  repeat refine kA ?_
  (refine Qa 0 (h:=?_);refine QR (hx:=?_))
  rw[hn.out];rfl
 by_cases h7:(Qb2 s).1.length=7
 rotate_left
 ·have hn:AQ (Qp s=(Qd,false)):=Pm.hid (QhM (.inr h7))
  rw[hok] at c;generalize (Qb2 s).1=l at*;clear hr hok;refine kC ?_
  repeat' first|refine kA ?_|refine kV ?_ ?_<;>intro q|fail
  all_goals first|exfalso;simp only[bne_eq_false_iff_eq] at*;omega|((refine Qa 0 (h:=?_);refine QR (hx:=?_));rw[hn.out];rfl)
 rw[hok] at c;generalize (Qb2 s).1=l at*
 match l,h7 with
 |[x1,x2,x3,x4,x5,x6,x7],_=>
 have hl:=QpV hr;have hg:=Pm.hid (QtS hr);have cn: ∀x∈[x1,x2,x3,x4,x5,x6,x7],Pure A4 132 [dS x] (.tup [dI ((Pl.numGet x).getD 0:Nat),dB (Pl.numGet x).isSome]):=fun x hx=>aNumGet x (by have:=hl x hx;unfold Pm.big;omega)
 have c1:=cn x1 (by simp);have c2:=cn x2 (by simp);have c3:=cn x3 (by simp);have c5:=cn x5 (by simp);have c6:=cn x6 (by simp);have c4:=aPtrGet x4 (by have:=hl x4 (by simp);omega);have ck:=aNodeOk (QaX x1 x2 x3 x4 x5 x6);have cp:=Qoq (QaX x1 x2 x3 x4 x5 x6)
 have hp:AQ (Q8 (QaX x1 x2 x3 x4 x5 x6)=false-> ¬Q6 (QaX x1 x2 x3 x4 x5 x6)=s):=fun h e=>by
  unfold Q6 at e;rw[h] at e;exact QpU hr e.symm
 obtain⟨N,hN⟩: ∃N,N=QaX x1 x2 x3 x4 x5 x6:=⟨_,rfl⟩;rw[<-hN] at ck cp hg hp;unfold QaX at hN;clear cn hl hr hok;generalize (Pl.numGet x1).getD 0=n1 at*;generalize (Pl.numGet x2).getD 0=n2 at*;generalize (Pl.numGet x3).getD 0=n3 at*;generalize (Pl.numGet x5).getD 0=n5 at*;generalize (Pl.numGet x6).getD 0=n6 at*;generalize (QB x4).1=pp at*;obtain⟨p1,p2,p3,p4,p5⟩:=pp;generalize Q8 N=ok at*;generalize Q6 N=t at*;subst hN;refine kC ?_
 repeat' first|refine kS ?_|refine qS (iy rfl) ?_|refine kU ?_|refine kV ?_ ?_<;>intro q|fail
 ·(refine Qa 0 (h:=?_);refine QR (hx:=?_))
  rw[hg.out,if_neg (hp.out (by simpa using q))];rfl
 ·(refine Qa 0 (h:=?_);refine QR (hx:=?_))
  rw[hg.out,if_neg (by simpa using q)];rfl
 ·(refine Qa 0 (h:=?_);refine QR (hx:=?_))
  rw[hg.out,if_pos (by simpa using q)]
end Aw
end
section
namespace Aw
variable{E:Qj->List Qq×Bool}{ns:List Qj}{p:List (List UInt8)}{i:Nat}{t:Pl.Tree}
def Qat(s:Pm.Store)(t:Pl.Tree):Bool:=QH s t&&(Qc s t).all fun x=>(x==[])||((Qp x).2&&QH s (Qp x).1.tree)
def Qk(s:Pm.Store)(t:Pl.Tree):List Qj:=(Qc s t).map fun x=>(Qp x).1
def Qav(l:List (List UInt8))(k:Nat):Bool:= !(l.getD k []==[])&&(decide (k+1=l.length)||decide ((l.getD k []).length=128))
def QaL(l:List (List UInt8)):List UInt8×Bool:=if(AM l.length).all (Qav l) then(l.flatten,true) else([],false)
def Qg(s:Pm.Store)(n:Qj):List Qq×Bool:=
 if Q8 n&&(n.kind==2)&&QH s n.tree&&(QaL (Qc s n.tree)).2&&decide (((QaL (Qc s n.tree)).1.length:Int)=n.size) then QbP (QaL (Qc s n.tree)).1 else([],false)
def Qa6(size:Int)(k:Nat):Int:=if size -k*12<12 then size -k*12 else 12
def Qa9(size:Int)(l:List (List UInt8))(k:Nat):Bool:=decide (((l.getD k []).length:Int)<=Qa6 size k)&&(QaP (l.getD k [])==l.getD k [])
def QO(s:Pm.Store)(n:Qj):Bool:=
 Q8 n&&(n.kind==1)&&QH s n.tree&&(AM n.tree.many.toNat).all (Qa9 n.size (Qc s n.tree))
abbrev QaT:=List (List UInt8)×Int
def QC(p:List (List UInt8)):List UInt8:=if p=[] then [47] else p.flatMap (47:: ·)
abbrev rFnd(x:QaT):List D:=[dS (QC x.1),dI x.2]
def Qbl(ns:List Qj)(E:Qj->List Qq×Bool):Nat->QaT->List QaT->List QaT×Bool
 |0,_,out=>(out,false)
 |n+1,at',out=>
  if 144<out.length+1∨Pl.inR at'.2 0 (ns.length -1)=false∨(ns.getD at'.2.toNat Qd).kind=0 then(out++[at'],false) else
  if(ns.getD at'.2.toNat Qd).kind=1 then(out++[at'],true) else
  (E (ns.getD at'.2.toNat Qd)).1.foldl (fun r e=>if r.2 then Qbl ns E n (at'.1++[e.1],e.2) r.1 else r) (out++[at'],(E (ns.getD at'.2.toNat Qd)).2)
def Qb0(ns:List Qj)(E:Qj->List Qq×Bool)(n:Nat)(p:List (List UInt8))(l:List Qq)(r:List QaT×Bool):List QaT×Bool:=
 l.foldl (fun r e=>if r.2 then Qbl ns E n (p++[e.1],e.2) r.1 else r) r
theorem Qic(ns:List Qj)(E:Qj->List Qq×Bool)(n:Nat)(p:List (List UInt8)): ∀(l:List Qq) (out:List QaT),Qb0 ns E n p l (out,false)=(out,false)
 :=by intro l;induction l<;>grind [Qb0]
theorem Qfm(ns:List Qj)(E:Qj->List Qq×Bool)(n:Nat)(p:List (List UInt8))(e:Qq)(l:List Qq)(out:List QaT):Qb0 ns E n p (e::l) (out,true)=Qb0 ns E n p l (Qbl ns E n (p++[e.1],e.2) out):=by
 unfold Qb0;grind
def Qp3(ns:List Qj)(E:Qj->List Qq×Bool): ∀(n:Nat) (x:QaT) (out:List QaT),out.length<=(Qbl ns E n x out).1.length/\(0<n->out.length<(Qbl ns E n x out).1.length)
 |0,x,out=>⟨AB _,fun h=>absurd h (by decide)⟩
 |n+1,x,out=>by
  have hf: ∀(l:List Qq) (r:List QaT×Bool),r.1.length<=(Qb0 ns E n x.1 l r).1.length:=by
   intro l;induction l with
   |nil=>intro r;exact AB _
   |cons e l ih=>
    rintro⟨o,b⟩;cases b
    ·rw[Qic];omega
    ·rw[Qfm];exact AR (Qp3 ns E n _ o).1 (ih _)
  have h:out.length<(Qbl ns E (n+1) x out).1.length:=by
   unfold Qbl;split
   ·simp
   ·split
    ·simp
    ·exact Nat.lt_of_lt_of_le (by simp) (hf _ _)
  omega
def Qs(ns:List Qj)(k:Nat):Nat:=(ns.getD k Qd).kind.toNat
def Qb1(ns:List Qj)(E:Qj->List Qq×Bool)(k:Nat):Option Gr.En:=if(E (ns.getD k Qd)).2 then some ((E (ns.getD k Qd)).1.map fun e=>(e.1,e.2.toNat)) else none
structure QcK(ns:List Qj)(E:Qj->List Qq×Bool):Prop where
 kind: ∀n∈ns,n.kind=0∨n.kind=1∨n.kind=2
 ids: ∀n,∀e∈(E n).1,0<=e.2
theorem Qfy(h:QcK ns E)(k:Nat):(ns.getD k Qd).kind=0∨(ns.getD k Qd).kind=1∨(ns.getD k Qd).kind=2:=by
 rw[A3];cases hk:ns[k]? with
 |none=>exact .inl rfl
 |some n=>exact h.kind n (A2 hk)
theorem QdO{k:Nat}(h:Qs ns k≠0):k<ns.length:=by
 rcases Nat.lt_or_ge k ns.length with h1|h1
 ·exact h1
 ·exfalso;apply h
  unfold Qs;rw[A3,List.getElem?_eq_none h1];rfl
def Qbo(x:Gr.It):QaT:=(x.1,(x.2:Int))
theorem Qsi(hN:QcK ns E){r L:List Gr.It}(h:Gr.FP (Qs ns) (Qb1 ns E) r L):
 ∀(n:Nat) (p:List (List UInt8)) (l:List Qq) (out:List QaT),(∀e∈l,0<=e.2)->r=l.map (fun e=>(p++[e.1],e.2.toNat))->out.length+L.length<=144->145<=out.length+n->Qb0 ns E n p l (out,true)=(out++L.map Qbo,true):=by
 induction h with
 |nil=>
  grind [Qb0]
 |@file p' k r L hk h ih=>
  intro n p l out h0 hr hl hn;cases l with
  |nil=>cases hr
  |cons e l=>
   simp only[AO,AI,AP] at hr;obtain⟨⟨rfl,rfl⟩,rfl⟩:=hr;have he:=h0 e A6;rw[AD] at hl;obtain⟨n,rfl⟩: ∃m,n=m+1:=⟨n -1,by omega⟩
   grind [Qd,Qs,Qbl,Pl.inR,Qfm,Qbo]
 |@dir p' k es r L1 L2 hk hes h1 h2 ih1 ih2=>
  intro n p l out h0 hr hl hn;cases l with
  |nil=>cases hr
  |cons e l=>
   simp only[AO,AI,AP] at hr;obtain⟨⟨rfl,rfl⟩,rfl⟩:=hr;have he:=h0 e A6;rw[AD,AA] at hl;obtain⟨n,rfl⟩: ∃m,n=m+1:=⟨n -1,by omega⟩;have hlt:=QdO (k:=e.2.toNat) (ns:=ns) (by omega);have hkind:(ns.getD e.2.toNat Qd).kind=2:=by grind [Qs]
   unfold Qb1 at hes;split at hes;rotate_left
   ·cases hes
   rename_i hE;obtain rfl:=A9 hes
   have hw:Qbl ns E (n+1) (p++[e.1],e.2) out=Qb0 ns E n (p++[e.1]) (E (ns.getD e.2.toNat Qd)).1 (out++[(p++[e.1],e.2)],true):=by
    rw[<-hE]
    conv=>lhs;unfold Qbl
    rw[if_neg,if_neg]
    ·rfl
    ·grind
    grind [Pl.inR]
   rw[Qfm,hw,ih1 n (p++[e.1]) _ _ (hN.ids _) (by simp[Gr.kids]) (by grind) (by grind),ih2 (n+1) p l _ (fun e h=>h0 e (A8 _ h)) rfl (by grind) (by grind)];simp[Qbo];omega
theorem Qtk(hN:QcK ns E): ∀(n:Nat) (l:List Qq) (p:List (List UInt8)) (out:List QaT),(∀e∈l,0<=e.2)->(Qb0 ns E n p l (out,true)).2=true->
 ∃L,Gr.FP (Qs ns) (Qb1 ns E) (l.map fun e=>(p++[e.1],e.2.toNat)) L/\Qb0 ns E n p l (out,true)=(out++L.map Qbo,true)/\(out.length<=144->out.length+L.length<=144):=by
 intro n;induction n with
 |zero=>
  intro l p out h0 h;cases l with
  |nil=>exact⟨[],.nil,by simp[Qb0],by simp⟩
  |cons e l=>grind [Qfm,Qbl,Qic]
 |succ n ihn=>
  intro l;induction l with
  |nil=>intro p out h0 h;exact⟨[],.nil,by simp[Qb0],by simp⟩
  |cons e l ihl=>
   intro p out h0 h;have he:=h0 e A6;rw[Qfm] at h⊢
   have hw: ∃M,Gr.FP (Qs ns) (Qb1 ns E) [(p++[e.1],e.2.toNat)] M/\Qbl ns E (n+1) (p++[e.1],e.2) out=(out++M.map Qbo,true)/\out.length+M.length<=144:=by
    have hb:(Qbl ns E (n+1) (p++[e.1],e.2) out).2=true:=by
     grind [Qic]
    unfold Qbl at hb⊢;split at hb
    ·cases hb
    rename_i hc;rw[if_neg hc];simp only[not_or] at hc;obtain⟨c1,c2,c3⟩:=hc;split at hb
    ·rename_i hk
     rw[if_pos hk];refine⟨[(p++[e.1],e.2.toNat)],.file (by unfold Qs;grind) .nil,?_,by grind⟩;simp[Qbo];omega
    ·rename_i hk
     rw[if_neg hk]
     have hk2:(ns.getD e.2.toNat Qd).kind=2:=by
      grind [Qfy]
     generalize hEe:E (ns.getD e.2.toNat Qd)=Ee at hb⊢;obtain⟨es,ok⟩:=Ee;cases ok
     ·change (Qb0 ns E n (p++[e.1]) es (out++[(p++[e.1],e.2)],false)).2=true at hb
      grind [Qic]
     ·obtain⟨L1,g1,g2,g3⟩:=ihn es (p++[e.1]) (out++[(p++[e.1],e.2)]) (fun x hx=>hN.ids (ns.getD e.2.toNat Qd) x (by grind)) hb
      have g3:=g3 (by grind);refine⟨(p++[e.1],e.2.toNat)::(L1++[]),.dir (es:=es.map fun e=>(e.1,e.2.toNat)) (by unfold Qs;omega) ?_ ?_ .nil,?_,?_⟩
      ·unfold Qb1;grind
      ·unfold Gr.kids;rw[AH];exact g1
      ·refine Eq.trans g2 ?_
       simp[Qbo];omega
      grind
   obtain⟨M,m1,m2,m3⟩:=hw;rw[m2] at h⊢;obtain⟨L,g1,g2,g3⟩:=ihl p _ (fun e h=>h0 e (A8 _ h)) h;have g3:=g3 (by grind);refine⟨M++L,?_,by grind,fun _=>by grind⟩;cases m1 with
   |file hk hz=>cases hz;exact .file hk g1
   |dir hk he h1 hz=>cases hz;rw[AK];exact .dir hk he h1 g1
def QT(s:List UInt8):Option (List (List UInt8)):=
 if s=[47] then some [] else if s.head? =some 47/\(Pl.cutB 47 s).tail.all QF=true/\(Pl.cutB 47 s).tail.length<=4 then some (Pl.cutB 47 s).tail else none
theorem QiJ(b:UInt8)(r:List UInt8):Pl.cutB b (b::r)=[]::Pl.cutB b r:=Pl.Qeb b [] r (by simp)
theorem QkX: ∀(p:List (List UInt8)),(∀n∈p,(47:UInt8)∉n)->Pl.cutB 47 (p.flatMap (47:: ·))=[]::p
 |[],_=>rfl
 |n::q,h=>by
  have ih:=QkX q fun x hx=>h x (A8 _ hx)
  rw[List.flatMap_cons,AJ,QiJ]
  congr 1
  cases q with
  |nil=>grind [Pl.Qe1]
  |cons m q=>
   grind [QiJ,Pl.Qeb]
def QcE(p:List (List UInt8)):Prop:= ∀n∈p,(47:UInt8)∉n/\n≠[]
theorem Qqt(h: ∀n∈p,QF n=true):QcE p:=fun n hn=>⟨QfW (h n hn) (by decide),by
 grind [QF]⟩
theorem QkW(h:QcE p)(hp:p≠[]):Pl.cutB 47 (QC p)=[]::p:=by
 unfold QC;rw[if_neg hp];exact QkX p fun n hn=>(h n hn).1
theorem Qjh(h:QcE p):QC p=[47]↔p=[]:=by
 constructor
 ·intro hs
  cases p with
  |nil=>rfl
  |cons n q=>
   have h1:=QkW h (by simp);rw[hs] at h1;have h2:Pl.cutB 47 [47]=[[],[]]:=by decide
   rw[h2] at h1;simp only[AI,true_and] at h1;exact absurd h1.1.symm (h n A6).2
 ·rintro rfl;rfl
theorem Qoy(p:List (List UInt8))(n:List UInt8):QC (p++[n])=if p=[] then 47::n else QC p++47::n:=by
 unfold QC
 simp_all
theorem Qlg{s:List UInt8}:QT s=some p↔(p.all QF=true/\p.length<=4/\QC p=s):=by
 unfold QT;constructor
 ·intro h
  split at h
  ·rename_i hs;obtain rfl:=A9 h;exact⟨rfl,by simp,hs.symm⟩
  ·split at h
   ·rename_i hs
    obtain rfl:=A9 h;refine⟨hs.2.1,hs.2.2,?_⟩;cases s with
    |nil=>cases hs.1
    |cons c r=>
     obtain rfl:c=47:=by grind
     rw[QiJ,List.tail_cons];unfold QC;rw[if_neg (Pl.Qhu 47 r)];have hj:=Pl.QgV 47 r
     have hg: ∀l:List (List UInt8),l≠[]->l.flatMap (47:: ·)=47::(l.intersperse [47]).flatten:=by
      intro l;induction l with
      |nil=>grind
      |cons a l ih=>
       intro _;cases l with
       |nil=>simp
       |cons b l=>
        simp_all
     grind [Pl.Qhu]
   ·cases h
 ·rintro⟨h1,h2,rfl⟩
  have hP:=Qqt fun n hn=>AE.1 h1 n hn
  by_cases hp:p=[]
  ·subst hp;rfl
  ·have hh:(QC p).head? =some 47:=by
    unfold QC;rw[if_neg hp];cases p with
    |nil=>grind
    |cons n q=>rfl
   grind [Qjh,QkW]
theorem QrI: ∀x:List UInt8,A0 x x=false
 :=by intro l;induction l<;>grind [A0]
theorem QfP(a b:UInt8)(x y:List UInt8):A0 (a::x) (b::y)=true↔a<b∨a=b/\A0 x y=true:=by simp[A0]
theorem QhT: ∀{x y z:List UInt8},A0 x y=true->A0 y z=true->A0 x z=true
 |[],[],_,h,_=>by omega
 |[],_::_,[],_,h=>by simp[A0] at h
 |[],_::_,_::_,_,_=>by simp[A0]
 |_::_,[],_,h,_=>by simp[A0] at h
 |_::_,_::_,[],_,h=>by simp[A0] at h
 |a::x,b::y,c::z,h1,h2=>by
  rw[QfP] at*;rcases h1 with h1|⟨rfl,h1⟩
  ·grind
  ·rcases h2 with h2|⟨rfl,h2⟩
   ·grind
   ·exact .inr ⟨rfl,QhT h1 h2⟩
theorem Qtp{l:List Qq}(h:Qab l=true)(hi:i+1<l.length):A0 (l[i]'(by omega)).1 (l[i+1]).1=true:=by
 unfold Qab at h;rw[AF,AE] at h;have:=h.1 (i+1) (AN.2 hi)
 grind [QaD]
theorem ent_asc{l:List Qq}(h:Qab l=true): ∀{j:Nat} (hj:j<l.length) (hij:i<j),A0 (l[i]'(by omega)).1 (l[j]).1=true
 :=by intro l;induction l<;>grind [Qtp,QhT]
theorem QdG(s:Pm.Store)(n:Qj):(Qg s n).2=true/\Qab (Qg s n).1=true∨Qg s n=([],false):=by
 unfold Qg;split
 ·rcases QnN (QaL (Qc s n.tree)).1 with h|h
  ·exact .inl ⟨h.2,h.1.1⟩
  grind
 grind
theorem QiF(s:Pm.Store)(n:Qj): ∀e∈(Qg s n).1,QF e.1=true/\1<=e.2/\e.2<=15:=by
 rcases QdG s n with h|h
 ·exact ent_b h.2
 grind
theorem QiD{s:Pm.Store}{n:Qj}(h:(Qg s n).2=true):n.kind=2:=by grind [Qg]
theorem QgC(s:Pm.Store)(t:Pl.Tree)(k:Nat):(Qk s t).getD k Qd=Qd∨NodeB ((Qk s t).getD k Qd):=by grind [Qk,Qio]
theorem nsOk(s:Pm.Store)(t:Pl.Tree):QcK (Qk s t) (Qg s):=by
 refine⟨fun n hn=>?_,fun n e he=>by grind [QiF]⟩;unfold Qk at hn;obtain⟨x,_,rfl⟩:=AG.1 hn;rcases Qio x with h|h
 ·exact .inr h.kind
 ·rw[h];exact .inl rfl
def Qaw(ns:List Qj)(k:Nat):Nat:=(ns.getD k Qd).links.toNat
theorem texts_len(s:Pm.Store)(h:Qx t):(Qc s t).length=t.many.toNat:=by
 unfold Qc;rw[AL,List.length_take,Qd3 s h.hi];have:=h.manyHi;omega
theorem graph(s:Pm.Store)(ht:Qx t)(h0:((Qk s t).getD 0 Qd).kind=2):
 Gr.Nodes (Qs (Qk s t)) (Gr.chOf (Qb1 (Qk s t) (Qg s))) (Qaw (Qk s t)) (Qk s t).length:=by
 have hb: ∀k,Qs (Qk s t) k≠0->NodeB ((Qk s t).getD k Qd):=fun k hk=>by
  rcases QgC s t k with h|h
  ·unfold Qs at hk;rw[h] at hk;exact absurd rfl hk
  ·exact h
 refine⟨by unfold Qs;omega,fun k=>?_,fun k hk=>QdO hk,?_,fun k hk=>?_,fun k hk=>?_,fun k cs hc e he=>?_⟩
 ·unfold Qs
  rcases QgC s t k with h|h
  ·rw[h];decide
  ·have:=h.kind;omega
 ·unfold Qk;rw[AL,texts_len s ht];have:=ht.manyHi;omega
 ·have:=(hb k hk).links;grind [Qaw]
 ·have h:=hb k (by omega)
  have:=h.one (by grind [Qs]);unfold Qaw;omega
 ·unfold Gr.chOf Qb1 at hc
  split at hc
  ·simp only[Option.map_some,AS] at hc
   subst hc;rw[AH] at he;obtain⟨x,hx,rfl⟩:=AG.1 he
   grind [QiF]
  grind
def QaI(s:Pm.Store)(t:Pl.Tree):List QaT×Bool:=Qbl (Qk s t) (Qg s) 145 ([],0) []
def Pl.many(out:List QaT)(k:Nat):Nat:=(out.map (·.2)).count (k:Int)
def Qa0(s:Pm.Store)(ns:List Qj)(out:List QaT)(k:Nat):Bool:=
 ((ns.getD k Qd).kind==0||((Pl.many out k:Int)==(ns.getD k Qd).links))&&(!((ns.getD k Qd).kind==1)||QO s (ns.getD k Qd))
def Qae(s:Pm.Store)(t:Pl.Tree):Bool:=
 Qat s t&&((Qk s t).getD 0 Qd).kind==2&&(QaI s t).2&&(AM (Qk s t).length).all (Qa0 s (Qk s t) (QaI s t).1)
structure QcS(s:Pm.Store)(t:Pl.Tree):Prop where
 tab:Qat s t=true
 root:((Qk s t).getD 0 Qd).kind=2
 file: ∀k,((Qk s t).getD k Qd).kind=1->QO s ((Qk s t).getD k Qd)=true
 dir: ∀k,((Qk s t).getD k Qd).kind=2->(Qg s ((Qk s t).getD k Qd)).2=true
 linked: ∃nm,Gr.bfs (Qs (Qk s t)) (Gr.chOf (Qb1 (Qk s t) (Qg s))) (1+Gr.left (Qs (Qk s t)) (Qk s t).length []) [0] []=some nm/\
  ∀k,k≠0->Qs (Qk s t) k≠0->nm.count k=Qaw (Qk s t) k
theorem Qjt(L:List Gr.It)(k:Nat):Pl.many (L.map Qbo) k=(L.map (·.2)).count k:=by
 unfold Pl.many;rw[AH];induction L with
 |nil=>rfl
 |cons x L ih=>
  grind [Qbo]
theorem QqT(s:Pm.Store)(h0:((Qk s t).getD 0 Qd).kind=2)(L:List Gr.It):
 (QaI s t=(L.map Qbo,true)/\L.length<=144/\Gr.FP (Qs (Qk s t)) (Qb1 (Qk s t) (Qg s)) [([],0)] L)↔
 (Gr.FP (Qs (Qk s t)) (Qb1 (Qk s t) (Qg s)) [([],0)] L/\L.length<=144):=by
 constructor
 ·grind
 ·rintro⟨h3,h2⟩
  refine⟨?_,h2,h3⟩;have hN:=nsOk s t;have hlt:0<(Qk s t).length:=QdO (k:=0) (by unfold Qs;omega);cases h3 with
  |file hk _=>grind [Qs]
  |@dir _ _ es _ L1 L2 hk hes h1 h4=>
   cases h4;unfold Qb1 at hes;split at hes;rotate_left
   ·cases hes
   rename_i hE;obtain rfl:=A9 hes;rw[AK] at h2⊢;rw[AD] at h2;have:=Qsi hN h1 144 [] (Qg s ((Qk s t).getD 0 Qd)).1 [([],0)] (hN.ids _) (by simp[Gr.kids]) (by grind) (by simp);unfold QaI Qbl;rw[if_neg,if_neg]
   ·rw[<-hE] at this
    refine Eq.trans this ?_;rw[hE];rfl
   ·grind
   grind [Pl.inR]
theorem QgM(s:Pm.Store)(h0:((Qk s t).getD 0 Qd).kind=2)(h:(QaI s t).2=true):
 ∃L,Gr.FP (Qs (Qk s t)) (Qb1 (Qk s t) (Qg s)) [([],0)] L/\L.length<=144/\QaI s t=(L.map Qbo,true):=by
 have hN:=nsOk s t;unfold QaI Qbl at h⊢;split at h
 ·cases h
 rename_i hc;rw[if_neg hc];split at h
 ·grind
 rename_i hk;rw[if_neg hk]
 change (Qb0 (Qk s t) (Qg s) 144 [] (Qg s ((Qk s t).getD 0 Qd)).1 ([([],0)],(Qg s ((Qk s t).getD 0 Qd)).2)).2=true at h
 change ∃L,_/\_/\Qb0 (Qk s t) (Qg s) 144 [] (Qg s ((Qk s t).getD 0 Qd)).1 ([([],0)],(Qg s ((Qk s t).getD 0 Qd)).2)=_
 have hE:(Qg s ((Qk s t).getD 0 Qd)).2=true:=by
  grind [Qic]
 rw[hE] at h⊢;obtain⟨L,g1,g2,g3⟩:=Qtk hN 144 _ [] [([],0)] (hN.ids _) h;have g3:=g3 (by simp);refine⟨([],0)::(L++[]),.dir (es:=(Qg s ((Qk s t).getD 0 Qd)).1.map fun e=>(e.1,e.2.toNat)) (by unfold Qs;omega) ?_ ?_ .nil,?_,?_⟩
 ·unfold Qb1;grind
 ·unfold Gr.kids;rw[AH];exact g1
 ·grind
 grind [Qbo]
theorem QeI(s:Pm.Store)(t:Pl.Tree):Qae s t=true↔QcS s t:=by
 unfold Qae;simp only[AF,beq_iff_eq,AE,AN];have key: ∀(h1:Qat s t=true) (h2:((Qk s t).getD 0 Qd).kind=2),_:=fun h1 h2=>Gr.Qso (graph s (Qdo (by unfold Qat at h1;rw[AF] at h1;exact h1.1)) h2)
 have hk2: ∀k,Qs (Qk s t) k=2↔((Qk s t).getD k Qd).kind=2:=fun k=>by
  grind [Qs]
 have hch: ∀k,(∃cs,Gr.chOf (Qb1 (Qk s t) (Qg s)) k=some cs)↔(Qg s ((Qk s t).getD k Qd)).2=true:=fun k=>by
  unfold Gr.chOf Qb1;simp
 constructor
 ·rintro⟨⟨⟨h1,h2⟩,h3⟩,h4⟩
  obtain⟨L,g1,g2,g3⟩:=QgM s h2 h3;rw[g3] at h4
  have hcount: ∀k,Qs (Qk s t) k≠0->(L.map (·.2)).count k=Qaw (Qk s t) k:=fun k hk=>by
   have:=h4 k (QdO hk)
   grind [Qa0,Qjt,Qs,Qaw]
  obtain⟨k1,k2⟩:=(key h1 h2).1 ⟨_,g1.fd,by grind,hcount⟩;refine⟨h1,h2,fun k hk=>?_,fun k hk=>(hch k).1 (k1 k ((hk2 k).2 hk)),k2⟩
  grind [QdO,Qs,Qa0]
 ·rintro⟨h1,h2,h3,h4,h5⟩
  obtain⟨M,m1,m2,m3⟩:=(key h1 h2).2 ⟨fun k hk=>(hch k).2 (h4 k ((hk2 k).1 hk)),h5⟩;obtain⟨L,g1,rfl⟩:=Gr.Qtl m1 (r:=[([],0)]) rfl;obtain⟨q1,_,_⟩:=(QqT s h2 L).2 ⟨g1,by grind⟩;rw[q1];refine⟨⟨⟨h1,h2⟩,rfl⟩,fun k hk=>?_⟩;unfold Qa0;rw[Qjt]
  by_cases h0:((Qk s t).getD k Qd).kind=0
  ·grind
  ·have hkc:=Qfy (nsOk s t) k
   have:=m3 k (by unfold Qs;omega);rw[this]
   have hB:NodeB ((Qk s t).getD k Qd):=by
    rcases QgC s t k with h|h
    ·rw[h] at h0;exact absurd rfl h0
    ·exact h
   have hl:=hB.links
   grind [Qaw]
end Aw
end
section
open Go.RowKit
namespace Aw
variable{t:Pl.Tree}
attribute [local irreducible] ASeq ADraw AWP Loc
def al10Cut(s:List UInt8)(hs:s.length<=Pm.big):Pure A4 200 [dS s] (dS (QaP s)):=by
 simp only[Pm.big] at hs;refine kB ?_
 repeat refine kA ?_
 refine Qo (fun m st=> ∃r:List UInt8,r.length<=s.length/\m=r.length/\AQ (QaP r=QaP s)/\st=⟨20,[(0,.d (dS r))],[]⟩) [0] 0 s.length ⟨s,AB _,rfl,Pm.hid rfl,rfl⟩ (round:=?_);rintro m st ⟨r,hr,rfl,hC,rfl⟩;rcases List.eq_nil_or_concat r with rfl|⟨l,c,rfl⟩
 ·repeat refine kA ?_
  refine Qb (hx:=?_);rw[<-hC.out];rfl
 rw[List.concat_eq_append] at*;have hl:(l++[c]).length=l.length+1:=by simp
 have hi:(((l++[c]).length:Int) -1).toNat=l.length:=by omega
 have hc:(l++[c])[(((l++[c]).length:Int) -1).toNat]? =some c:=by rw[hi];simp
 have T:AQ (((c.toNat:Nat):Int)≠0->QaP s=l++[c]):=fun h=>by rw[<-hC.out,QiK,if_neg];intro e;apply h;rw[beq_iff_eq] at e;rw[e];rfl
 have F:AQ (((c.toNat:Nat):Int)=0->QaP l=QaP s):=fun h=>by rw[<-hC.out,QiK,if_pos];rw[beq_iff_eq];exact UInt8.toNat_inj.1 (by have:(0:UInt8).toNat=0:=rfl;omega)
 clear hC
 repeat' first|refine kS ?_|refine qS (QdX Ty.h rfl rfl rfl (by omega) hc) ?_|refine qS (QfH rfl rfl rfl (by omega) (by omega)) ?_|refine kU ?_|refine kV ?_ ?_<;>intro q|fail
 ·simp only[beq_iff_eq,decide_eq_true_eq] at*
  refine Qh l.length (by omega) ⟨l,by omega,rfl,Pm.hid (F.out (by assumption)),?_⟩;simp[keepE,go_sem]
 ·refine Qb (hx:=?_)
  rw[T.out (by simpa using q)]
 ·exfalso;simp at q
theorem texts_le(s:Pm.Store)(hg:QP s)(t:Pl.Tree): ∀x∈Qc s t,x.length<=128:=by grind [Qc,Qh4]
def QlW(s:Pm.Store)(hg:QP s)(t:Pl.Tree)(ht:Qx t):Pure A4 40 [dSt s,dTree t] (.sl true 10 ((Qk s t).map rNode)):=by
 have c:=Qe3 s hg t ht;have hl:=texts_len s ht;have hle:=texts_le s hg t;have hm:=ht.manyHi;have hn:AQ (Qk s t=(Qc s t).map fun x=>(Qp x).1):=Pm.hid rfl;generalize Qc s t=l at*;refine kE ?_;refine Qa 0 (h:=?_);refine Qa 1 (h:=?_)
 repeat refine kA ?_
 refine Qo (fun m st=> ∃(k g:Nat) (out:List Qj),k<=l.length/\m=16 -k/\out.length=k/\AQ (out=(l.take k).map fun x=>(Qp x).1)/\
  st=⟨33,[(5,.osl 2 g 0 out.length),(6,.d (tStrs l)),(7,.d (dI k))],[.row 1 [],.row 1 [],.arr g 10 45 (out.map rNode)]⟩) [5,6,7] 3 16 ⟨0,0,[],by omega,rfl,rfl,Pm.hid rfl,rfl⟩ (round:=?_)
 rintro m st ⟨k,g,out,hk,rfl,hlen,hO,rfl⟩
 repeat refine kG ?_
 cases q4:decide ((k:Int)<(l.length:Int))
 ·repeat refine kA ?_
  (refine Qa 2 (h:=?_);refine Qb (hx:=?_))
  have:k=l.length:=by simp at q4;omega
  rw[hn.out,hO.out,this,List.take_length];simp[A7]
 have hk2:k<l.length:=by simp at q4;omega
 obtain⟨x,hx⟩: ∃x,l[k]? =some x:=⟨_,A5 hk2⟩;have hr:=Qt (f:=fun s=>[dS s]) hx;have cg:=Qia x (by have:=hle x (A2 hx);unfold Pm.big;omega);have T:AQ ((l.take (k+1)).map (fun x=>(Qp x).1)=out++[(Qp x).1]):=Pm.hid (by rw[AC,hx,hO.out];simp);clear hx hO hle hn;generalize (Qp x).1=N at*;obtain⟨kind,links,size,⟨⟨p1,p2,p3,p4,p5⟩,depth,many⟩⟩:=N
 repeat' first|refine kS ?_|refine qS (iy hr) ?_|refine QV Ty.h rfl Ty.h (hb:=?_) (kk:=?_)|refine kU ?_|fail
 ·simp;omega
 ·refine Qh (16 -(k+1)) (by omega) ⟨k+1,g+1,out++[⟨kind,links,size,⟨⟨p1,p2,p3,p4,p5⟩,depth,many⟩⟩],by omega,rfl,by simp[hlen],Pm.hid T.out.symm,?_⟩
  simp[keepE,go_sem]
theorem al11Ok(s:Pm.Store)(hg:QP s)(t:Pl.Tree):Pure A4 128 [dSt s,dTree t] (dB (Qat s t)):=by
 have c0:=al8Ok s hg t;have hd:AQ (Qat s t=(QH s t&&(Qc s t).all fun x=>(x==[])||((Qp x).2&&QH s (Qp x).1.tree))):=Pm.hid rfl;cases h0:QH s t
 ·rw[h0] at c0
  refine kE ?_;refine Qa 0 (h:=?_);refine Qa 1 (h:=?_)
  repeat refine kA ?_
  refine Qb (hx:=?_);rw[hd.out,h0];rfl
 rw[h0] at c0;have ht:=Qdo h0;have c:=Qe3 s hg t ht;have hl:=texts_len s ht;have hle:=texts_le s hg t;have hm:=ht.manyHi;have hm0:=ht.manyLo;have hd2:AQ (Qat s t=(Qc s t).all fun x=>(x==[])||((Qp x).2&&QH s (Qp x).1.tree)):=Pm.hid (by rw[hd.out,h0];rfl);clear hd h0 ht;generalize Qc s t=l at*;refine kE ?_;refine Qa 0 (h:=?_);refine Qa 1 (h:=?_)
 repeat refine kA ?_
 refine Qo (fun m st=> ∃(k:Nat),k<=l.length/\m=16 -k/\AQ ((l.take k).all (fun x=>(x==[])||((Qp x).2&&QH s (Qp x).1.tree))=true)/\
  st=⟨43,[(5,.d (tStrs l)),(6,.d (dI k)),(2,.d (.pd (rSt s))),(3,.d (.pd (rTree t)))],[.row 1 [],.row 1 []]⟩) [5,6,2,3] 2 16 ⟨0,by omega,rfl,Pm.hid rfl,rfl⟩ (round:=?_)
 rintro m st ⟨k,hk,rfl,hA,rfl⟩
 repeat refine kG ?_
 cases q4:decide ((k:Int)<t.many)
 ·repeat refine kA ?_
  refine Qb (hx:=?_);have:k=l.length:=by simp at q4;omega
  have h:=hA.out;rw[this,A7 (AB _)] at h;rw[hd2.out,h]
 have hk2:k<l.length:=by simp at q4;omega
 obtain⟨x,hx⟩: ∃x,l[k]? =some x:=⟨_,A5 hk2⟩;have hr:=Qt (f:=fun s=>[dS s]) hx;have cg:=Qia x (by have:=hle x (A2 hx);unfold Pm.big;omega);have cT:=al8Ok s hg (Qp x).1.tree;have T:AQ (((x==[])||((Qp x).2&&QH s (Qp x).1.tree))=true->(l.take (k+1)).all (fun x=>(x==[])||((Qp x).2&&QH s (Qp x).1.tree))=true):=fun h=>by rw[AC,hx,List.all_append,hA.out];simpa using h
 have F:AQ (((x==[])||((Qp x).2&&QH s (Qp x).1.tree))=false->Qat s t=false):=fun h=>by
  rw[hd2.out,List.all_eq_false];exact⟨x,A2 hx,by rw[h];simp⟩
 clear hx hA hle hd2;generalize QH s (Qp x).1.tree=tok at*;generalize (Qp x).2=ok at*;generalize (Qp x).1=N at*;obtain⟨kind,links,size,⟨⟨p1,p2,p3,p4,p5⟩,depth,many⟩⟩:=N
 repeat' first|refine kS ?_|refine qS (iy hr) ?_|refine kU ?_|refine kV ?_ ?_<;>intro q|fail
 all_goals clear c0 c cg cT hr
 all_goals simp only[decide_eq_true_eq] at q4
 all_goals first|exact Qh (16 -(k+1)) (by omega) ⟨k+1,by omega,rfl,Pm.hid (T.out (by simp_all)),rfl⟩|refine Qb (hx:=?_);exact congrArg dB (F.out (by simp_all)).symm
def Q5(s:Pm.Store)(t:Pl.Tree)(k:Nat):Qj×Bool:=if(k:Int)<=t.many -1 then Qp ((Qc s t).getD k []) else(Qd,false)
theorem Qh6(s:Pm.Store)(ht:Qx t)(k:Nat):(Q5 s t k).1=(Qk s t).getD k Qd:=by grind [texts_len,Q5,Qk]
theorem texts_get(s:Pm.Store)(ht:Qx t){k:Nat}(hk:(k:Int)<=t.many -1):(Qc s t).getD k []=(Qf s.1 ((Qe s t).getD k Pl.hole)).1:=by
 have hw:=Qd3 s ht.hi;have:=ht.manyHi
 grind [Qc]
def al11Get(s:Pm.Store)(hg:QP s)(t:Pl.Tree)(ht:Qx t)(k:Nat):Pure A4 125 [dSt s,dTree t,dI k] (.tup [dNode (Q5 s t k).1,dB (Q5 s t k).2]):=by
 have hm:=ht.manyHi;have hm0:=ht.manyLo;have c0:=al6In k 0 (t.many -1)
 by_cases h:(k:Int)<=t.many -1
 ·have e:Pl.inR k 0 (t.many -1)=true:=by simp[Pl.inR];omega
  rw[e] at c0;have c1:=al8Get s hg t ht k (by omega);rw[<-texts_get s ht h] at c1;have hx:AQ (Q5 s t k=Qp ((Qc s t).getD k [])):=Pm.hid (by unfold Q5;rw[if_pos h])
  have c2:=Qia ((Qc s t).getD k []) (by
   rw[A3];cases h1:(Qc s t)[k]? with
   |none=>simp
   |some x=>have:=texts_le s hg t x (A2 h1);simp[Pm.big];omega)
  generalize (Qc s t).getD k []=x at*;rw[hx.out];clear hx h e;generalize Qp x=r at*;obtain⟨⟨kind,links,size,⟨⟨p1,p2,p3,p4,p5⟩,depth,many⟩⟩,ok⟩:=r;refine kD ?_;refine Qa 0 (h:=?_);refine Qa 1 (h:=?_)
  repeat refine kA ?_
  refine Qa 2 (h:=?_);exact QR (hx:=rfl)
 ·have e:Pl.inR k 0 (t.many -1)=false:=by simp[Pl.inR];omega
  rw[e] at c0;have hx:AQ (Q5 s t k=(Qd,false)):=Pm.hid (by unfold Q5;rw[if_neg h]);rw[hx.out];refine kD ?_;refine Qa 0 (h:=?_);refine Qa 1 (h:=?_)
  repeat refine kA ?_
  refine Qa 2 (h:=?_);exact QR (hx:=rfl)
end Aw
end
section
namespace Aw
def QbC(E:Qj->List Qq×Bool)(ns:List Qj):Int->List (List UInt8)->Option Int
 |i,[]=>some i
 |i,n::q=>match(E (ns.getD i.toNat Qd)).1.find? (fun e=>e.1==n) with
  |none=>none
  |some e=>QbC E ns e.2 q
theorem Qi9(E:Qj->List Qq×Bool)(ns:List Qj)(i:Int):QbC E ns i []=some i:=rfl
theorem Qho(E:Qj->List Qq×Bool)(ns:List Qj)(i:Int)(n:List UInt8)(q:List (List UInt8)):QbC E ns i (n::q)=match(E (ns.getD i.toNat Qd)).1.find? (fun e=>e.1==n) with
 |none=>none
 |some e=>QbC E ns e.2 q:=rfl
def QbB(s:Pm.Store)(ns:List Qj):Int->List (List UInt8)->Option Int:=QbC (Qg s) ns
end Aw
end
section
open Go.RowKit
namespace Aw
attribute [local irreducible] ASeq ADraw AWP Loc AStep Fg.PlanF Fg.Flts EndR
abbrev zSt2:List AV:=[.d (.v (.slice none 0 0)),.d (.v (.slice none 0 0)),.d (.v (.slice none 0 0)),.d (.v (.int .i64 0)),.d (.v (.slice none 0 0)),.d (.v (.int .i64 0)),.d (.v (.slice none 0 0)),.d (.v (.bool false))]
abbrev rowX(g:Nat)(w:Pl.Sto):List AV:=[.osl 0 1 0 64,.osl 1 1 0 64,.osl 2 1 0 64,.d (dI w.txg),.osl 3 g 0 w.gone.length,.d (dI 0),.osl 4 1 0 0,.d (dB w.same)]
theorem eNext(g:Nat)(w:Pl.Sto)(N:Nat)(hN:N<=400000)(hw:w.W N):
 DoesE A4 90 [oS g w] (hS g w) (gS g w) (fun x H=>x= .agg [.osl 0 1 0 64,.osl 1 1 0 64,.osl 2 1 0 64,.d (dI w.next.txg),.osl 5 0 0 0,.d (dI 0),.osl 4 1 0 0,.d (dB w.same)]/\
  H=[.arr 1 1 9 (rS w.next.rows),.arr 1 1 3 (rI w.next.refs),.arr 1 1 3 (rI w.next.last),.arr g 5 31 (w.gone.map rPtr),.arr 1 5 31 [],.arr 0 5 31 []]):=by
 have hd:AQ (w.next={w.dropL w.gone with gone:=[],txg:=w.txg+1}):=Pm.hid rfl;have hgl:=hw.many;have htx:=hw.txg;generalize w.next=res at*;refine kH fun gvs=>?_
 repeat refine kA ?_
 refine Qo (fun m st=> ∃(i:Nat) (wi:Pl.Sto),i<=w.gone.length/\m=w.gone.length -i/\AQ (wi=w.dropL (w.gone.take i))/\AQ (wi.W (N+i)/\wi.gone=w.gone/\wi.txg=w.txg/\wi.same=w.same)/\
  st=⟨26,[(3,.d (dI i)),(1,.ptr 5 0 0),(2,.ptr 6 0 0),(1000000,.gh (gS g w) gvs)],hS g wi++[.row 0 (rowX g wi),.row 0 zSt2]⟩) [3,1,2,1000000] 7 w.gone.length
  ⟨0,w,by omega,rfl,Pm.hid rfl,Pm.hid ⟨hw,rfl,rfl,rfl⟩,rfl⟩ (round:=?_)
 rintro m st ⟨i,wi,hi,rfl,hwi,hWi,rfl⟩;obtain⟨hW,y1,y2,y3⟩:=hWi.out;simp only[hS,AJ,List.nil_append]
 repeat refine kG ?_
 cases q4:decide ((i:Int)<(wi.gone.length:Int))
 ·have hio:i=w.gone.length:=by simp at q4;rw[y1] at q4;omega
  have hw2:=hwi.out;rw[hio,A7 (AB _)] at hw2;have v0:wi.rows.length=w.rows.length:=by rw[hW.rows,hw.rows]
  have v1:wi.refs.length=w.refs.length:=by rw[hW.refs,hw.refs]
  have v2:wi.last.length=w.last.length:=by rw[hW.last,hw.last]
  have v3:wi.gone.length=w.gone.length:=by rw[y1]
  have hb2:wi.txg<=400000:=by rw[y2];omega
  have hb1:0<=wi.txg:=by rw[y2];omega
  repeat refine kA ?_
  refine QdI [2,1000000] [0,1,2,3,4,7,6] (env':=[(2,.ptr 6 0 0),(1000000,.gh (gS g w) gvs)]) (H':=[.arr 1 1 9 (rS wi.rows),.arr 1 1 3 (rI wi.refs),.arr 1 1 3 (rI wi.last),.arr g 5 31 (wi.gone.map rPtr),.arr 1 5 31 [],.arr 0 5 31 [],.row 0 [.osl 0 1 0 64,.osl 1 1 0 64,.osl 2 1 0 64,.d (dI (wi.txg+1)),.osl 5 0 0 0,.d (dI 0),.osl 4 1 0 0,.d (dB wi.same)]]) (h:=?_);refine Q1 6 (hx:=?_);rw[hd.out];dsimp only;rw[<-hw2,<-y1,<-y2,<-y3];exact⟨rfl,rfl⟩
 have hi2:i<w.gone.length:=by simp at q4;rw[y1] at q4;omega
 obtain⟨x,hx⟩: ∃x,w.gone[i]? =some x:=⟨_,A5 hi2⟩;have hr:=Qt (f:=rPtr) hx;rw[<-y1] at hr;obtain⟨o1,o2⟩:=hw.gone x (A2 hx);have hat:=QdD o1 o2;obtain⟨a,ha⟩:=A1 hat.1;have cf:=eDrop g wi (N+i) (by omega) hW a (by omega)
 have hst:AQ (w.dropL (w.gone.take (i+1))=wi.drop a):=Pm.hid (by
  rw[AC,hx,hwi.out];unfold Pl.Sto.dropL;rw[List.foldl_append]
  simp only[Option.toList,List.foldl_cons,List.foldl_nil,ha,Int.toNat_natCast])
 have hWd:=hW.drop (a:=a) (by omega);have z1:(wi.drop a).gone=wi.gone:=rfl;have z2:(wi.drop a).txg=wi.txg:=rfl;have z3:(wi.drop a).same=wi.same:=rfl;have z4:(wi.drop a).gone.length=wi.gone.length:=rfl;have hgl2:i<wi.gone.length:=by rw[y1];exact hi2
 clear hx hwi hWi;generalize wi.drop a=wd at*;obtain⟨pat,birth,size,sum,level⟩:=x;simp only at ha;subst ha
 repeat' first|refine kS ?_|(show AWP _ (.region 4 _ _) _ _;refine(Fg.awp_drawF (id:=4) [] [7,8] ?_))|refine qD (QcY Ty.h rfl rfl hr rfl) ?_|refine QeL [0,1,2,3,4] cf cK (k:=kZ ?_)|refine kU ?_|fail
 all_goals first|refine Qh (w.gone.length -(i+1)) (by omega) ⟨i+1,wd,by omega,rfl,Pm.hid hst.out.symm,Pm.hid ⟨hWd,z1.trans y1,z2.trans y2,z3.trans y3⟩,?_⟩;simp[keepE,go_sem,z1];done

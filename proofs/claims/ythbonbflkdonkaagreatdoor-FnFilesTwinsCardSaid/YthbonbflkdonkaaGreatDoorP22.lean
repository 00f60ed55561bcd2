/- Of ftw_card; no condition. -/
import Derived.Test.YthbonbflkdonkaaGreatDoorP21
set_option linter.all false
set_option maxRecDepth 100000
set_option maxHeartbeats 4000000
open Bool renaming and_eq_true->A8
open Classical renaming choose->AN
open Go.Op renaming bytesLess->A3
open Go.Proofs.Tryz renaming prog->A4
open Go.RowKit renaming Hid->AH
open Int renaming eq_ofNat_of_zero_le->A7
open List renaming getElem?_eq_getElem->A0,mem_of_getElem?->A1,getD_eq_getElem?_getD->A2,range->A5,mem_cons_of_mem->A6,length_drop->A9,mem_cons_self->AA,take_add_one->AB,all_eq_true->AD,take_length->AE,length_append->AF,take_of_length_le->AG,length_cons->AI,map_map->AL,length_take->AO,append_nil->AP,all_append->AR,eq_nil_or_concat->AS,concat_eq_append->AT,getElem?_eq_none->AU,length_pos_iff->AW,mem_map->AX,all_eq_false->AY,length_tail->AZ,length_map->Aa,mem_range->Ab,map_cons->Ac
open List.cons renaming injEq->AK
open Nat renaming le_refl->AM,le_trans->Ae,lt_or_ge->Af
open Option renaming getD_some->AJ
open Option.some renaming inj->AC,injEq->Ag
open Prod.mk renaming injEq->Ad
open UInt8 renaming toNat_inj->AQ
namespace Go.Proofs.YthbonbflkdonkaaGreatDoor
noncomputable section
section
open Go.RowKit
namespace Aw
variable{a b c f x:List UInt8}
attribute [local irreducible] ASeq ADraw AWP Loc
def Qb4(s:List UInt8):List (List UInt8)×Bool:=open Classical in if h: ∃l,Pl.IsRec s l then(AN h,true) else([],false)
def rg_is{s:List UInt8}{l:List (List UInt8)}(h:Pl.IsRec s l):Qb4 s=(l,true):=by
 unfold Qb4;have hx: ∃p,Pl.IsRec s p:=⟨l,h⟩;rw[dif_pos hx,Pl.QhN (Classical.choose_spec hx) h]
theorem Qiw{s:List UInt8}(h: ∀l,¬Pl.IsRec s l):Qb4 s=([],false):=by
 unfold Qb4
 grind
def Qd:Qk:=⟨0,0,0,⟨Pl.hole,0,0⟩⟩
theorem QqG(kind size:Int):Qag kind size<=16:=by grind [Qag,Qbj,Pl.inR]
structure NodeB(n:Qk):Prop where
 kind:n.kind=1∨n.kind=2
 links:1<=n.links/\n.links<=9
 size:0<=n.size/\n.size<=2048
 ptr:Pl.ptrOk n.tree.root=true
 depth:0<=n.tree.depth/\n.tree.depth<=2
 many:0<=n.tree.many/\n.tree.many<=16
 one:n.kind=2->n.links=1
theorem Qeh{n:Qk}(h:QF n=true):NodeB n:=by
 unfold QF at h;simp only[A8,beq_iff_eq,decide_eq_true_eq] at h;obtain⟨⟨⟨⟨⟨h1,h2⟩,h3⟩,h4⟩,h5⟩,h6⟩:=h;have hp:=QqG n.kind n.size
 have hk:n.kind=1∨n.kind=2:=by
  grind [Qbj,Qag]
 have hs:0<=n.size/\n.size<=2048:=by
  grind [Qbj,Qag,Pl.inR]
 have hd:0<=n.tree.depth/\n.tree.depth<=2:=by grind [Qbo]
 have hl:1<=n.links/\n.links<=(if n.kind=2 then 1 else 9):=by grind [Pl.inR]
 refine⟨hk,?_,hs,h4,hd,by omega,fun e=>?_⟩
 ·omega
 omega
def Qaf(n:Qk):List (List UInt8):=[Pl.dec n.kind.toNat,Pl.dec n.links.toNat,Pl.dec n.size.toNat,Pl.ptrPut n.tree.root,Pl.dec n.tree.depth.toNat,Pl.dec n.tree.many.toNat,[101,110,100]]
def Q6(n:Qk):List UInt8:=if QF n then Pl.fp (Qaf n) else []
def Qbn(s:List UInt8)(n:Qk):Prop:=QF n=true/\Pl.IsRec s (Qaf n)
theorem Qpq{s:List UInt8}{n:Qk}(hs:s≠[]):Qbn s n↔Q6 n=s:=by
 constructor
 ·rintro⟨h1,h2⟩
  unfold Q6 Pl.fp;rw[if_pos h1,Pl.Qgv.2 h2];rfl
 ·intro h
  unfold Q6 at h;split at h
  ·rename_i h1;exact⟨h1,Pl.fp_some h hs⟩
  grind
def Qo(s:List UInt8):Qk×Bool:=open Classical in if h: ∃n,Qbn s n then(AN h,true) else(Qd,false)
def Qba(a b c d e f:List UInt8):Qk:=⟨((Pl.numGet a).getD 0:Nat),((Pl.numGet b).getD 0:Nat),((Pl.numGet c).getD 0:Nat),⟨(QD d).1,((Pl.numGet e).getD 0:Nat),((Pl.numGet f).getD 0:Nat)⟩⟩
def QeD{s d e g:List UInt8}{n:Qk}(hr:Pl.IsRec s [a,b,c,d,e,f,g])(h:Qbn s n):
 Pl.numGet a=some n.kind.toNat/\Pl.numGet b=some n.links.toNat/\Pl.numGet c=some n.size.toNat/\QD d=(n.tree.root,true)/\Pl.numGet e=some n.tree.depth.toNat/\Pl.numGet f=some n.tree.many.toNat:=by
 have hb:=Qeh h.1;have he:=Pl.QhN hr h.2;simp only[Qaf,AK] at he;obtain⟨rfl,rfl,rfl,rfl,rfl,rfl,_⟩:=he;have h1:=hb.kind;have h2:=hb.links;have h3:=hb.size;have h4:=hb.depth;have h5:=hb.many;exact⟨Pl.Qd7 (by omega),Pl.Qd7 (by omega),Pl.Qd7 (by omega),pg_is ⟨hb.ptr,rfl⟩,Pl.Qd7 (by omega),Pl.Qd7 (by omega)⟩
theorem Qi2{s d e g:List UInt8}{n:Qk}(hr:Pl.IsRec s [a,b,c,d,e,f,g])(h:Qbn s n):n=Qba a b c d e f:=by
 have hb:=Qeh h.1;have h1:=hb.kind;have h2:=hb.links;have h3:=hb.size;have h4:=hb.depth;have h5:=hb.many;obtain⟨q1,q2,q3,q4,q5,q6⟩:=QeD hr h;unfold Qba;rw[q1,q2,q3,q4,q5,q6];obtain⟨kind,links,size,root,depth,many⟩:=n
 grind
theorem Qkz{s:List UInt8}{m n:Qk}(hm:Qbn s m)(hn:Qbn s n):m=n:=
 (Qi2 hm.2 hm).trans (Qi2 hm.2 hn).symm
theorem ng_is{s:List UInt8}{n:Qk}(h:Qbn s n):Qo s=(n,true):=by
 unfold Qo;have hx: ∃p,Qbn s p:=⟨n,h⟩
 grind [Qkz]
theorem Ql7{s:List UInt8}(h: ∀p,¬Qbn s p):Qo s=(Qd,false):=by
 grind [Qo]
theorem Qgh(s:List UInt8):Qbn s (Qo s).1/\(Qo s).2=true∨Qo s=(Qd,false):=by
 unfold Qo;split
 ·grind
 grind
theorem Qq5{s:List UInt8}{l:List (List UInt8)}(h:Pl.IsRec s (x::l)):s≠[]:=by
 rintro rfl;have:=h.2.2;rw[Pl.QeT] at this;exact Pl.Qf6 x (List.append_eq_nil_iff.1 this).1
theorem Quw{s d e g:List UInt8}(hr:Pl.IsRec s [a,b,c,d,e,f,g]):Qo s=if Q6 (Qba a b c d e f)=s then(Qba a b c d e f,true) else(Qd,false):=by grind [Qq5,ng_is,Qpq,Ql7,Qi2]
def QhZ{s:List UInt8}(h:(Qb4 s).2=false∨(Qb4 s).1.length≠7):Qo s=(Qd,false):=by
 refine Ql7 fun p hp=>?_
 rw[rg_is hp.2] at h;rcases h with h|h
 ·cases h
 ·exact h rfl
theorem QnH(s:List UInt8):Pl.IsRec s (Qb4 s).1/\(Qb4 s).2=true∨Qb4 s=([],false):=by
 unfold Qb4;split
 ·grind
 grind
theorem Qi3(s:List UInt8):NodeB (Qo s).1∨(Qo s).1=Qd:=by
 rcases Qgh s with h|h
 ·exact .inl (Qeh h.1.1)
 grind
def QaQ(s:List UInt8):List UInt8:=(s.reverse.dropWhile (· ==0)).reverse
def Qow:QaQ []=[]:=rfl
theorem QiZ(s:List UInt8)(c:UInt8):QaQ (s++[c])=if c==0 then QaQ s else s++[c]:=by grind [QaQ,List.dropWhile_cons]
theorem Qsa(s:List UInt8):QaQ s=s↔s.getLast? ≠some 0:=by
 rcases AS s with rfl|⟨l,c,rfl⟩
 ·simp[Qow]
 ·rw[AT,QiZ]
  grind [QaQ,List.dropWhile_sublist]
abbrev Qm:=List UInt8×Int
abbrev rEnt(e:Qm):List D:=[dS e.1,dI e.2]
def Q9(s:List UInt8):Bool:=s.all (fun c=>decide (97<=c.toNat)&&decide (c.toNat<=122))&&decide (1<=s.length)&&decide (s.length<=4)
def QaE(l:List Qm)(i:Nat):Bool:=Q9 (l.getD i ([],0)).1&&Pl.inR (l.getD i ([],0)).2 1 15&&(decide (i=0)||A3 (l.getD (i -1) ([],0)).1 (l.getD i ([],0)).1)
def Qaa(l:List Qm):Bool:=(A5 l.length).all (QaE l)&&decide (l.length<=12)
def Qas(e:Qm):List UInt8:=e.1++61::Pl.dec e.2.toNat
def QG(l:List Qm):List UInt8:=l.flatMap fun e=>Qas e++[59]
def QbB(s:List UInt8)(l:List Qm):Prop:=Qaa l=true/\QG l=s
def QbW(s:List UInt8):List Qm×Bool:=open Classical in if h: ∃l,QbB s l then(AN h,true) else([],false)
def QaB(x:List UInt8):Option Qm:=match Pl.cutB 61 x with
 |[a,b]=>some (a,((Pl.numGet b).getD 0:Nat))
 |_=>none
theorem ent_b{l:List Qm}(h:Qaa l=true): ∀e∈l,Q9 e.1=true/\1<=e.2/\e.2<=15:=by
 intro e he;unfold Qaa at h;rw[A8,AD] at h;obtain⟨i,hi,rfl⟩:=List.getElem_of_mem he
 simp_all[QaE,Pl.inR]
theorem Qgi{s:List UInt8}{c:UInt8}(h:Q9 s=true)(hc:c.toNat<97):c∉s:=by grind [Q9]
theorem Qhi(n:Nat){c:UInt8}(hc:57<c.toNat):c∉Pl.dec n:=by grind [Pl.QgG,Pl.QeK]
theorem Qni{e:Qm}(h1:Q9 e.1=true)(h2:1<=e.2/\e.2<=15):QaB (Qas e)=some e:=by grind [QaB,Qas,Pl.Qel,Qgi,Pl.Qe7,Qhi,Pl.Qd7]
theorem Qid: ∀{l:List Qm},(∀e∈l,Q9 e.1=true/\1<=e.2/\e.2<=15)->Pl.cutB 59 (QG l)=l.map Qas++[[]]
 |[],_=>rfl
 |e::l,h=>by
  have h1:QG (e::l)=Qas e++59::QG l:=by simp[QG]
  have hn:(59:UInt8)∉Qas e:=by
   grind [Qas,Qgi,Qhi]
  rw[h1,Pl.Qel 59 _ _ hn,Qid fun x hx=>h x (A6 _ hx)];rfl
theorem QgB{s:List UInt8}{l:List Qm}(h:QbB s l):(Pl.cutB 59 s).length=l.length+1/\ ∀(i:Nat) e,l[i]? =some e-> ∃x,(Pl.cutB 59 s)[i]? =some x/\QaB x=some e:=by
 have hb:=ent_b h.1;rw[<-h.2,Qid hb];refine⟨by simp,fun i e he=>⟨Qas e,?_,?_⟩⟩
 ·grind
 grind [Qni]
variable{m:List Qm}
theorem QiL{s:List UInt8}{l:List Qm}(h:QbB s l)(hm:m.length+1=(Pl.cutB 59 s).length)(hr: ∀(i:Nat) e,m[i]? =some e-> ∃x,(Pl.cutB 59 s)[i]? =some x/\QaB x=some e):m=l:=by
 obtain⟨h1,h2⟩:=QgB h;refine List.ext_getElem (by omega) fun i hi hi'=>?_
 obtain⟨x,hx,hx2⟩:=hr i _ (A0 hi);obtain⟨y,hy,hy2⟩:=h2 i _ (A0 hi')
 grind
theorem Qk0{s:List UInt8}{l:List Qm}(h:QbB s l)(hm:QbB s m):m=l:=by
 obtain⟨h1,h2⟩:=QgB hm;exact QiL h (by omega) h2
theorem eg_is{s:List UInt8}{l:List Qm}(h:QbB s l):QbW s=(l,true):=by
 unfold QbW;have hx: ∃p,QbB s p:=⟨l,h⟩
 grind [Qk0]
theorem Qon{s:List UInt8}(h: ∀p,¬QbB s p):QbW s=([],false):=by
 grind [QbW]
theorem Qoo(s:List UInt8):QbB s (QbW s).1/\(QbW s).2=true∨QbW s=([],false):=by
 unfold QbW;split
 ·grind
 grind
def QrK{s:List UInt8}(hm:m.length+1=(Pl.cutB 59 s).length)(hr: ∀(i:Nat) e,m[i]? =some e-> ∃x,(Pl.cutB 59 s)[i]? =some x/\QaB x=some e):
 QbW s=if Qaa m=true/\QG m=s then(m,true) else([],false):=by
 split
 ·rename_i h;exact eg_is h
 ·rename_i h
  refine Qon fun p hp=>h ?_
  rw[QiL hp hm hr];exact hp
theorem eg_bad{s:List UInt8}{k:Nat}(hk:k+1<(Pl.cutB 59 s).length)(hx:(Pl.cutB 59 s)[k]? =some x)(h:QaB x=none):QbW s=([],false):=by
 refine Qon fun p hp=>?_
 obtain⟨h1,h2⟩:=QgB hp;obtain⟨y,hy,hy2⟩:=h2 k _ (A0 (show k<p.length by omega))
 grind
end Aw
end
section
namespace Aw
variable{E:Qk->List Qm×Bool}{ns:List Qk}
def Qav(s:Pm.Store)(t:Pl.Tree):Bool:=QL s t&&(Qc s t).all fun x=>(x==[])||((Qo x).2&&QL s (Qo x).1.tree)
def Qh(s:Pm.Store)(t:Pl.Tree):List Qk:=(Qc s t).map fun x=>(Qo x).1
def Qau(l:List (List UInt8))(k:Nat):Bool:= !(l.getD k []==[])&&(decide (k+1=l.length)||decide ((l.getD k []).length=128))
def QaL(l:List (List UInt8)):List UInt8×Bool:=if(A5 l.length).all (Qau l) then(l.flatten,true) else([],false)
def Qf(s:Pm.Store)(n:Qk):List Qm×Bool:=
 if QF n&&(n.kind==2)&&QL s n.tree&&(QaL (Qc s n.tree)).2&&decide (((QaL (Qc s n.tree)).1.length:Int)=n.size) then QbW (QaL (Qc s n.tree)).1 else([],false)
def QaA(size:Int)(k:Nat):Int:=if size -k*12<12 then size -k*12 else 12
def Qa9(size:Int)(l:List (List UInt8))(k:Nat):Bool:=decide (((l.getD k []).length:Int)<=QaA size k)&&(QaQ (l.getD k [])==l.getD k [])
def Qac(s:Pm.Store)(n:Qk):Bool:=
 QF n&&(n.kind==1)&&QL s n.tree&&(A5 n.tree.many.toNat).all (Qa9 n.size (Qc s n.tree))
abbrev QaP:=List (List UInt8)×Int
def QB(p:List (List UInt8)):List UInt8:=if p=[] then [47] else p.flatMap (47:: ·)
abbrev rFnd(x:QaP):List D:=[dS (QB x.1),dI x.2]
def Qbp(ns:List Qk)(E:Qk->List Qm×Bool):Nat->QaP->List QaP->List QaP×Bool
 |0,_,out=>(out,false)
 |n+1,at',out=>
  if 144<out.length+1∨Pl.inR at'.2 0 (ns.length -1)=false∨(ns.getD at'.2.toNat Qd).kind=0 then(out++[at'],false) else
  if(ns.getD at'.2.toNat Qd).kind=1 then(out++[at'],true) else
  (E (ns.getD at'.2.toNat Qd)).1.foldl (fun r e=>if r.2 then Qbp ns E n (at'.1++[e.1],e.2) r.1 else r) (out++[at'],(E (ns.getD at'.2.toNat Qd)).2)
def Qb3(ns:List Qk)(E:Qk->List Qm×Bool)(n:Nat)(p:List (List UInt8))(l:List Qm)(r:List QaP×Bool):List QaP×Bool:=
 l.foldl (fun r e=>if r.2 then Qbp ns E n (p++[e.1],e.2) r.1 else r) r
theorem Qio(ns:List Qk)(E:Qk->List Qm×Bool)(n:Nat)(p:List (List UInt8)): ∀(l:List Qm) (out:List QaP),Qb3 ns E n p l (out,false)=(out,false)
 :=by intro l;induction l<;>grind [Qb3]
theorem Qfs(ns:List Qk)(E:Qk->List Qm×Bool)(n:Nat)(p:List (List UInt8))(e:Qm)(l:List Qm)(out:List QaP):Qb3 ns E n p (e::l) (out,true)=Qb3 ns E n p l (Qbp ns E n (p++[e.1],e.2) out):=by
 unfold Qb3;grind
def Qqd(ns:List Qk)(E:Qk->List Qm×Bool): ∀(n:Nat) (x:QaP) (out:List QaP),out.length<=(Qbp ns E n x out).1.length/\(0<n->out.length<(Qbp ns E n x out).1.length)
 |0,x,out=>⟨AM _,fun h=>absurd h (by decide)⟩
 |n+1,x,out=>by
  have hf: ∀(l:List Qm) (r:List QaP×Bool),r.1.length<=(Qb3 ns E n x.1 l r).1.length:=by
   intro l;induction l with
   |nil=>intro r;exact AM _
   |cons e l ih=>
    rintro⟨o,b⟩;cases b
    ·rw[Qio];omega
    ·rw[Qfs];exact Ae (Qqd ns E n _ o).1 (ih _)
  have h:out.length<(Qbp ns E (n+1) x out).1.length:=by
   unfold Qbp;split
   ·simp
   ·split
    ·simp
    ·exact Nat.lt_of_lt_of_le (by simp) (hf _ _)
  omega
def Qr(ns:List Qk)(k:Nat):Nat:=(ns.getD k Qd).kind.toNat
def QaO(ns:List Qk)(E:Qk->List Qm×Bool)(k:Nat):Option Gr.En:=if(E (ns.getD k Qd)).2 then some ((E (ns.getD k Qd)).1.map fun e=>(e.1,e.2.toNat)) else none
structure QcL(ns:List Qk)(E:Qk->List Qm×Bool):Prop where
 kind: ∀n∈ns,n.kind=0∨n.kind=1∨n.kind=2
 ids: ∀n,∀e∈(E n).1,0<=e.2
theorem Qf5(h:QcL ns E)(k:Nat):(ns.getD k Qd).kind=0∨(ns.getD k Qd).kind=1∨(ns.getD k Qd).kind=2:=by
 rw[A2];cases hk:ns[k]? with
 |none=>exact .inl rfl
 |some n=>exact h.kind n (A1 hk)
theorem QdP{k:Nat}(h:Qr ns k≠0):k<ns.length:=by
 rcases Af k ns.length with h1|h1
 ·exact h1
 ·exfalso;apply h
  unfold Qr;rw[A2,AU h1];rfl
def QaW(x:Gr.It):QaP:=(x.1,(x.2:Int))
theorem QsD(hN:QcL ns E){r L:List Gr.It}(h:Gr.FP (Qr ns) (QaO ns E) r L):
 ∀(n:Nat) (p:List (List UInt8)) (l:List Qm) (out:List QaP),(∀e∈l,0<=e.2)->r=l.map (fun e=>(p++[e.1],e.2.toNat))->out.length+L.length<=144->145<=out.length+n->Qb3 ns E n p l (out,true)=(out++L.map QaW,true):=by
 induction h with
 |nil=>
  grind [Qb3]
 |@file p' k r L hk h ih=>
  intro n p l out h0 hr hl hn;cases l with
  |nil=>cases hr
  |cons e l=>
   simp only[Ac,AK,Ad] at hr;obtain⟨⟨rfl,rfl⟩,rfl⟩:=hr;have he:=h0 e AA;rw[AI] at hl;obtain⟨n,rfl⟩: ∃m,n=m+1:=⟨n -1,by omega⟩
   grind [Qd,Qr,Qbp,Pl.inR,Qfs,QaW]
 |@dir p' k es r L1 L2 hk hes h1 h2 ih1 ih2=>
  intro n p l out h0 hr hl hn;cases l with
  |nil=>cases hr
  |cons e l=>
   simp only[Ac,AK,Ad] at hr;obtain⟨⟨rfl,rfl⟩,rfl⟩:=hr;have he:=h0 e AA;rw[AI,AF] at hl;obtain⟨n,rfl⟩: ∃m,n=m+1:=⟨n -1,by omega⟩;have hlt:=QdP (k:=e.2.toNat) (ns:=ns) (by omega);have hkind:(ns.getD e.2.toNat Qd).kind=2:=by grind [Qr]
   unfold QaO at hes;split at hes;rotate_left
   ·cases hes
   rename_i hE;obtain rfl:=AC hes
   have hw:Qbp ns E (n+1) (p++[e.1],e.2) out=Qb3 ns E n (p++[e.1]) (E (ns.getD e.2.toNat Qd)).1 (out++[(p++[e.1],e.2)],true):=by
    rw[<-hE]
    conv=>lhs;unfold Qbp
    rw[if_neg,if_neg]
    ·rfl
    ·grind
    grind [Pl.inR]
   rw[Qfs,hw,ih1 n (p++[e.1]) _ _ (hN.ids _) (by simp[Gr.kids]) (by grind) (by grind),ih2 (n+1) p l _ (fun e h=>h0 e (A6 _ h)) rfl (by grind) (by grind)];simp[QaW];omega
theorem QtB(hN:QcL ns E): ∀(n:Nat) (l:List Qm) (p:List (List UInt8)) (out:List QaP),(∀e∈l,0<=e.2)->(Qb3 ns E n p l (out,true)).2=true->
 ∃L,Gr.FP (Qr ns) (QaO ns E) (l.map fun e=>(p++[e.1],e.2.toNat)) L/\Qb3 ns E n p l (out,true)=(out++L.map QaW,true)/\(out.length<=144->out.length+L.length<=144):=by
 intro n;induction n with
 |zero=>
  intro l p out h0 h;cases l with
  |nil=>exact⟨[],.nil,by simp[Qb3],by simp⟩
  |cons e l=>grind [Qfs,Qbp,Qio]
 |succ n ihn=>
  intro l;induction l with
  |nil=>intro p out h0 h;exact⟨[],.nil,by simp[Qb3],by simp⟩
  |cons e l ihl=>
   intro p out h0 h;have he:=h0 e AA;rw[Qfs] at h⊢
   have hw: ∃M,Gr.FP (Qr ns) (QaO ns E) [(p++[e.1],e.2.toNat)] M/\Qbp ns E (n+1) (p++[e.1],e.2) out=(out++M.map QaW,true)/\out.length+M.length<=144:=by
    have hb:(Qbp ns E (n+1) (p++[e.1],e.2) out).2=true:=by
     grind [Qio]
    unfold Qbp at hb⊢;split at hb
    ·cases hb
    rename_i hc;rw[if_neg hc];simp only[not_or] at hc;obtain⟨c1,c2,c3⟩:=hc;split at hb
    ·rename_i hk
     rw[if_pos hk];refine⟨[(p++[e.1],e.2.toNat)],.file (by unfold Qr;grind) .nil,?_,by grind⟩;simp[QaW];omega
    ·rename_i hk
     rw[if_neg hk]
     have hk2:(ns.getD e.2.toNat Qd).kind=2:=by
      grind [Qf5]
     generalize hEe:E (ns.getD e.2.toNat Qd)=Ee at hb⊢;obtain⟨es,ok⟩:=Ee;cases ok
     ·change (Qb3 ns E n (p++[e.1]) es (out++[(p++[e.1],e.2)],false)).2=true at hb
      grind [Qio]
     ·obtain⟨L1,g1,g2,g3⟩:=ihn es (p++[e.1]) (out++[(p++[e.1],e.2)]) (fun x hx=>hN.ids (ns.getD e.2.toNat Qd) x (by grind)) hb
      have g3:=g3 (by grind);refine⟨(p++[e.1],e.2.toNat)::(L1++[]),.dir (es:=es.map fun e=>(e.1,e.2.toNat)) (by unfold Qr;omega) ?_ ?_ .nil,?_,?_⟩
      ·unfold QaO;grind
      ·unfold Gr.kids;rw[AL];exact g1
      ·refine Eq.trans g2 ?_
       simp[QaW];omega
      grind
   obtain⟨M,m1,m2,m3⟩:=hw;rw[m2] at h⊢;obtain⟨L,g1,g2,g3⟩:=ihl p _ (fun e h=>h0 e (A6 _ h)) h;have g3:=g3 (by grind);refine⟨M++L,?_,by grind,fun _=>by grind⟩;cases m1 with
   |file hk hz=>cases hz;exact .file hk g1
   |dir hk he h1 hz=>cases hz;rw[AP];exact .dir hk he h1 g1
end Aw
end
section
open Go.RowKit
namespace Aw
attribute [local irreducible] ASeq ADraw AWP Loc
theorem QpX(s:List UInt8)(hs:s.length<=Pm.big):Pure A4 117 [dS s] (.tup [tStrs (Qb4 s).1,dB (Qb4 s).2]):=by
 simp only[Pm.big] at hs;refine kB ?_
 repeat refine kA ?_
 refine Qq (fun m st=> ∃(k g:Nat) (out:List (List UInt8)),k<=s.length/\m=s.length -k/\AH (s=Pl.enc out++s.drop k)/\AH (∀x∈out,x.length<=2048)/\out.length<=k/\
  st=⟨92,[(4,.osl 0 g 0 out.length),(5,.d (dI k)),(0,.d (dS s))],[.arr g 1 9 (out.map fun s=>[dS s])]⟩) [4,5,0] 1 s.length ⟨0,0,[],by omega,rfl,Pm.hid rfl,Pm.hid (by simp),by simp,rfl⟩ (round:=?_)
 rintro m st ⟨k,g,out,hk,rfl,hO,hX,hlen,rfl⟩
 by_cases h20:s.length<=2048/\k<s.length
 rotate_left
 ·have hA: ∀x∈out,x.length<=Pm.big:=fun x hx=>by have:=hX.out x hx;unfold Pm.big;omega
  have c:=(Qkc out (by unfold Pm.big;omega) hA).arg (l:=[tStrs out])
  have hr:AH (Qb4 s=if(Pl.Qdi out).isSome=true/\(Pl.Qdi out).getD []=s then(out,true) else([],false)):=by
   refine Pm.hid ?_;split
   ·rename_i h
    obtain⟨t,ht⟩:=Option.isSome_iff_exists.1 h.1;rw[ht] at h;exact rg_is (by rw[<-Pl.Qgv,ht];exact congrArg some h.2)
   ·rename_i h
    refine Qiw fun l hl=>h ?_
    have hk2:k=s.length:=by have:=hl.2.1;omega
    have ho:=hO.out;rw[hk2,List.drop_length,AP] at ho;have:l=out:=Pl.QrJ (hl.2.2.trans ho);subst this;rw[Pl.Qgv.2 hl];exact⟨rfl,rfl⟩
  generalize (Pl.Qdi out).getD []=t at*;generalize (Pl.Qdi out).isSome=ok at*;clear hA hX hO
  repeat' first|refine kA ?_|refine kV ?_ ?_<;>intro q|fail
  ·exfalso;simp at*;omega
  all_goals
   refine Qew 0 (h:=?_)
   repeat' first|refine kA ?_|refine kV ?_ ?_<;>intro q|fail
   all_goals
    (first|refine Qb (hx:=?_)|(refine Qa 1 (h:=?_);refine Qb (hx:=?_)))
    rw[hr.out]
    simp_all
 obtain⟨h20,hlt⟩:=h20;obtain⟨n,m,hq⟩: ∃n m,Pl.l1num (s.drop k)=(n,m):=⟨_,_,rfl⟩;have c:=al1Num (s.drop k) (by rw[A9];unfold Pm.big;omega);have hle:=Pl.Qtt (s.drop k);have hn9:=Pl.Qts (s.drop k);rw[hq] at c hle hn9;simp only[A9] at hle hn9;obtain⟨b,hb⟩: ∃b,b=(s.drop k).getD m 0:=⟨_,rfl⟩;have hb1:k+m<s.length->(s.drop k)[m]? =some b:=fun h=>by rw[hb,A2,A0 (by rw[A9];omega)];rfl
 have hb2:AH (k+m<s.length->s[((k:Int)+(m:Int)).toNat]? =some b):=fun h=>by
  have:=hb1 h;rw[List.getElem?_drop] at this;exact this
 have hb3:((b.toNat:Nat):Int)=58↔b=58:=⟨fun h=>AQ.1 (by have:((58:UInt8).toNat:Int)=58:=rfl;omega),fun h=>by rw[h];rfl⟩
 have F:AH ((m=0∨s.length<=k+m∨((b.toNat:Nat):Int)≠58∨s.length -k -m -1<n)->Qb4 s=([],false)):=fun h=>by
  refine Qiw (Pl.Qq8 h20 hlt hO.out hq ?_)
  by_cases h1:m=0
  ·exact .inl h1
  by_cases h2:s.length<=k+m
  ·exact .inr (.inl (by rw[AU (by rw[A9];omega)];simp))
  refine .inr ?_;rw[hb1 (by omega),A9]
  by_cases h3:b=58
  ·exact .inr (by have h4:=hb3.2 h3;omega)
  ·exact .inl (by simpa using h3)
 have T:AH (0<m->k+m<s.length->((b.toNat:Nat):Int)=58->n<=s.length -k -m -1->s=Pl.enc (out++[(s.drop (k+m+1)).take n])++s.drop (k+m+1+n)):=fun h1 h2 h3 h4=>by
  exact Pl.Qq7 hO.out hq h1 (by rw[hb1 h2,hb3.1 h3]) (by rw[A9];omega)
 clear hO hq hb hb1 hb3
 repeat' first|refine kS ?_|refine qS (Qfi rfl rfl rfl (by omega) (by omega)) ?_|refine qS (Qef Ty.h rfl rfl rfl (by omega) (hb2.out (by simp only[decide_eq_true_eq,decide_eq_false_iff_not,beq_eq_false_iff_ne] at*;omega))) ?_|refine qS (Qgj rfl rfl rfl rfl (by omega) (by omega) (by simp only[decide_eq_true_eq,decide_eq_false_iff_not,beq_eq_false_iff_ne] at*;omega)) ?_|refine QV Ty.h rfl Ty.h (hb:=?_) (kk:=?_)|refine kU ?_|refine kV ?_ ?_<;>intro q|fail
 all_goals first|exfalso;simp only[decide_eq_true_eq,decide_eq_false_iff_not,beq_eq_false_iff_ne] at*;omega|simp;omega|((refine Qa 1 (h:=?_);refine Qb (hx:=?_));rw[F.out (by simp at*;omega)];rfl)|skip
 have e1:0<m/\k+m<s.length/\((b.toNat:Nat):Int)=58/\n<=s.length -k -m -1:=by simp only[decide_eq_true_eq,decide_eq_false_iff_not,beq_eq_false_iff_ne,bne_eq_false_iff_eq] at*;omega
 obtain⟨e1,e2,e3,e4⟩:=e1;refine Qg (s.length -(k+m+1+n)) (by omega) ⟨k+m+1+n,g+1,out++[(s.drop (k+m+1)).take n],by omega,rfl,Pm.hid (T.out e1 e2 e3 e4),Pm.hid ?_,by simp;omega,?_⟩
 ·intro x hx
  rcases List.mem_append.1 hx with hx|hx
  ·exact hX.out x hx
  ·rw[List.mem_singleton] at hx;subst hx
   rw[AO,A9];omega
 ·have t1:((k:Int)+(m:Int)+1).toNat=k+m+1:=by omega
  have t2:((k:Int)+(m:Int)+1+(n:Int)).toNat=k+m+1+n:=by omega
  have t3:k+m+1+n -(k+m+1)=n:=by omega
  simp[keepE,go_sem,t1,t2,t3,List.drop_take]
end Aw
end
section
namespace Aw
variable{p:List (List UInt8)}
def Q7(s:List UInt8):Option (List (List UInt8)):=
 if s=[47] then some [] else if s.head? =some 47/\(Pl.cutB 47 s).tail.all Q9=true/\(Pl.cutB 47 s).tail.length<=4 then some (Pl.cutB 47 s).tail else none
theorem QfX(b:UInt8)(r:List UInt8):Pl.cutB b (b::r)=[]::Pl.cutB b r:=Pl.Qel b [] r (by simp)
theorem Qls: ∀(p:List (List UInt8)),(∀n∈p,(47:UInt8)∉n)->Pl.cutB 47 (p.flatMap (47:: ·))=[]::p
 |[],_=>rfl
 |n::q,h=>by
  have ih:=Qls q fun x hx=>h x (A6 _ hx)
  rw[List.flatMap_cons,List.cons_append,QfX]
  congr 1
  cases q with
  |nil=>grind [Pl.Qe7]
  |cons m q=>
   grind [QfX,Pl.Qel]
def Qcj(p:List (List UInt8)):Prop:= ∀n∈p,(47:UInt8)∉n/\n≠[]
theorem Qkr(h: ∀n∈p,Q9 n=true):Qcj p:=fun n hn=>⟨Qgi (h n hn) (by decide),by
 grind [Q9]⟩
theorem Qiu(h:Qcj p)(hp:p≠[]):Pl.cutB 47 (QB p)=[]::p:=by
 unfold QB;rw[if_neg hp];exact Qls p fun n hn=>(h n hn).1
theorem Qht(h:Qcj p):QB p=[47]↔p=[]:=by
 constructor
 ·intro hs
  cases p with
  |nil=>rfl
  |cons n q=>
   have h1:=Qiu h (by simp);rw[hs] at h1;have h2:Pl.cutB 47 [47]=[[],[]]:=by decide
   rw[h2] at h1;simp only[AK,true_and] at h1;exact absurd h1.1.symm (h n AA).2
 ·rintro rfl;rfl
theorem Qlr{q:List (List UInt8)}(hp:Qcj p)(hq:Qcj q)(h:QB p=QB q):p=q:=by grind [Qht,Qiu]
theorem QoS(p:List (List UInt8))(n:List UInt8):QB (p++[n])=if p=[] then 47::n else QB p++47::n:=by
 unfold QB
 simp_all
theorem QfO{s:List UInt8}:Q7 s=some p↔(p.all Q9=true/\p.length<=4/\QB p=s):=by
 unfold Q7;constructor
 ·intro h
  split at h
  ·rename_i hs;obtain rfl:=AC h;exact⟨rfl,by simp,hs.symm⟩
  ·split at h
   ·rename_i hs
    obtain rfl:=AC h;refine⟨hs.2.1,hs.2.2,?_⟩;cases s with
    |nil=>cases hs.1
    |cons c r=>
     obtain rfl:c=47:=by grind
     rw[QfX,List.tail_cons];unfold QB;rw[if_neg (Pl.QgH 47 r)];have hj:=Pl.Qhj 47 r
     have hg: ∀l:List (List UInt8),l≠[]->l.flatMap (47:: ·)=47::(l.intersperse [47]).flatten:=by
      intro l;induction l with
      |nil=>grind
      |cons a l ih=>
       intro _;cases l with
       |nil=>simp
       |cons b l=>
        simp_all
     grind [Pl.QgH]
   ·cases h
 ·rintro⟨h1,h2,rfl⟩
  have hP:=Qkr fun n hn=>AD.1 h1 n hn
  by_cases hp:p=[]
  ·subst hp;rfl
  ·have hh:(QB p).head? =some 47:=by
    unfold QB;rw[if_neg hp];cases p with
    |nil=>grind
    |cons n q=>rfl
   grind [Qht,Qiu]
def QcP(f:Nat->Int):Nat->Int
 |0=>0
 |n+1=>QcP f n+f n
end Aw
end
section
open Go.RowKit
namespace Aw
attribute [local irreducible] ASeq ADraw AWP Loc
def ptrPut_len(p:Pl.Ptr):(Pl.ptrPut p).length<=Pm.big:=by
 unfold Pl.ptrPut;split
 ·split
  ·decide
  ·unfold Pl.ptrText Pl.dots
   rename_i h _;have hb:=Pl.QdA h;have h1:=Pl.Qdc 8 p.pat.toNat (by omega);have h2:=Pl.Qdc 8 p.birth.toNat (by omega);have h3:=Pl.Qdc 8 p.size.toNat (by omega);have h4:=Pl.Qdc 8 p.sum.toNat (by omega);have h5:=Pl.Qdc 8 p.level.toNat (by omega);simp[List.intersperse,Pm.big];omega
 ·decide
def QoK(n:Qk):Pure A4 62 [dNode n] (dS (Q6 n)):=by
 have c:=aNodeOk n;have hd:=Pm.hid (Q6.eq_def n);cases h:QF n
 ·rw[h] at c
  refine kE ?_;refine Qa 0 (h:=?_)
  repeat refine kA ?_
  refine Qb (hx:=?_);rw[hd.out,h];rfl
 ·rw[h] at c
  have hb:=Qeh h;have h1:=hb.kind;have h2:=hb.links;have h3:=hb.size;have h4:=hb.depth;have h5:=hb.many;obtain⟨kind,links,size,⟨root,depth,many⟩⟩:=n;simp only at h1 h2 h3 h4 h5;obtain⟨kind,rfl⟩:=A7 (show 0<=kind by omega);obtain⟨links,rfl⟩:=A7 (show 0<=links by omega);obtain⟨size,rfl⟩:=A7 h3.1;obtain⟨depth,rfl⟩:=A7 h4.1;obtain⟨many,rfl⟩:=A7 h5.1;have e:AH (Q6 ⟨kind,links,size,⟨root,depth,many⟩⟩=(Pl.Qdi [Pl.dec kind,Pl.dec links,Pl.dec size,Pl.ptrPut root,Pl.dec depth,Pl.dec many,[101,110,100]]).getD []):=Pm.hid (by rw[hd.out,h];rfl);have c1:=al6Dec kind (by omega);have c2:=al6Dec links (by omega);have c3:=al6Dec size (by omega);have c4:=al6Dec depth (by omega);have c5:=al6Dec many (by omega);have hl: ∀k,k<=4294967296->(Pl.dec k).length<=Pm.big:=fun k hk=>Ae (Pl.Qdc 10 k (by omega)) (by decide)
  have cp:=(Qkc [Pl.dec kind,Pl.dec links,Pl.dec size,Pl.ptrPut root,Pl.dec depth,Pl.dec many,[101,110,100]] (by simp[Pm.big]) (by
   intro x hx;simp only[List.mem_cons,List.not_mem_nil,or_false] at hx;rcases hx with rfl|rfl|rfl|rfl|rfl|rfl|rfl
   ·exact hl _ (by omega)
   ·exact hl _ (by omega)
   ·exact hl _ (by omega)
   ·exact ptrPut_len root
   ·exact hl _ (by omega)
   ·exact hl _ (by omega)
   ·decide)).arg (l:=[tStrs [Pl.dec kind,Pl.dec links,Pl.dec size,Pl.ptrPut root,Pl.dec depth,Pl.dec many,[101,110,100]]])
  have c6:=aPtrPut root;clear hd hb h h1 h2 h3 h4 h5 hl;generalize Pl.Qdi [Pl.dec kind,Pl.dec links,Pl.dec size,Pl.ptrPut root,Pl.dec depth,Pl.dec many,[101,110,100]]=r at*;generalize Pl.ptrPut root=rt at*;generalize Pl.dec kind=d1 at*;generalize Pl.dec links=d2 at*;generalize Pl.dec size=d3 at*;generalize Pl.dec depth=d4 at*;generalize Pl.dec many=d5 at*;refine kE ?_;refine Qa 0 (h:=?_)
  repeat' first|refine kS ?_|refine qD (QfR cK cp rfl) ?_|refine kU ?_|fail
  exact Qb (hx:=by rw[e.out])
def Qq6{s:List UInt8}{l:List (List UInt8)}(h:Pl.IsRec s l): ∀x∈l,x.length<=2048:=by
 intro x hx;obtain⟨a,b,rfl⟩:=List.append_of_mem hx;have h1:=h.2.1;rw[<-h.2.2,Pl.Qfl,Pl.QeT,AF,AF,Pl.Qg9] at h1;omega
theorem Qim(s:List UInt8)(hs:s.length<=Pm.big):Pure A4 61 [dS s] (.tup [dNode (Qo s).1,dB (Qo s).2]):=by
 have c:=QpX s hs;rcases QnH s with⟨hr,hok⟩|h0;rotate_left
 ·have hn:AH (Qo s=(Qd,false)):=Pm.hid (QhZ (.inl (by rw[h0])))
  rw[h0] at c;refine kC ?_
  repeat refine kA ?_
  (refine Qa 0 (h:=?_);refine QK (hx:=?_))
  rw[hn.out];rfl
 by_cases h7:(Qb4 s).1.length=7
 rotate_left
 ·have hn:AH (Qo s=(Qd,false)):=Pm.hid (QhZ (.inr h7))
  rw[hok] at c;generalize (Qb4 s).1=l at*;clear hr hok;refine kC ?_
  repeat' first|refine kA ?_|refine kV ?_ ?_<;>intro q|fail
  all_goals first|exfalso;simp only[bne_eq_false_iff_eq] at*;omega|((refine Qa 0 (h:=?_);refine QK (hx:=?_));rw[hn.out];rfl)
 rw[hok] at c;generalize (Qb4 s).1=l at*
 match l,h7 with
 |[x1,x2,x3,x4,x5,x6,x7],_=>
 have hl:=Qq6 hr;have hg:=Pm.hid (Quw hr);have cn: ∀x∈[x1,x2,x3,x4,x5,x6,x7],Pure A4 118 [dS x] (.tup [dI ((Pl.numGet x).getD 0:Nat),dB (Pl.numGet x).isSome]):=fun x hx=>aNumGet x (by have:=hl x hx;unfold Pm.big;omega)
 have c1:=cn x1 (by simp);have c2:=cn x2 (by simp);have c3:=cn x3 (by simp);have c5:=cn x5 (by simp);have c6:=cn x6 (by simp);have c4:=aPtrGet x4 (by have:=hl x4 (by simp);omega);have ck:=aNodeOk (Qba x1 x2 x3 x4 x5 x6);have cp:=QoK (Qba x1 x2 x3 x4 x5 x6)
 have hp:AH (QF (Qba x1 x2 x3 x4 x5 x6)=false-> ¬Q6 (Qba x1 x2 x3 x4 x5 x6)=s):=fun h e=>by
  unfold Q6 at e;rw[h] at e;exact Qq5 hr e.symm
 obtain⟨N,hN⟩: ∃N,N=Qba x1 x2 x3 x4 x5 x6:=⟨_,rfl⟩;rw[<-hN] at ck cp hg hp;unfold Qba at hN;clear cn hl hr hok;generalize (Pl.numGet x1).getD 0=n1 at*;generalize (Pl.numGet x2).getD 0=n2 at*;generalize (Pl.numGet x3).getD 0=n3 at*;generalize (Pl.numGet x5).getD 0=n5 at*;generalize (Pl.numGet x6).getD 0=n6 at*;generalize (QD x4).1=pp at*;obtain⟨p1,p2,p3,p4,p5⟩:=pp;generalize QF N=ok at*;generalize Q6 N=t at*;subst hN;refine kC ?_
 repeat' first|refine kS ?_|refine qS (iy rfl) ?_|refine kU ?_|refine kV ?_ ?_<;>intro q|fail
 ·(refine Qa 0 (h:=?_);refine QK (hx:=?_))
  rw[hg.out,if_neg (hp.out (by simpa using q))];rfl
 ·(refine Qa 0 (h:=?_);refine QK (hx:=?_))
  rw[hg.out,if_neg (by simpa using q)];rfl
 ·(refine Qa 0 (h:=?_);refine QK (hx:=?_))
  rw[hg.out,if_pos (by simpa using q)]
end Aw
end
section
namespace Aw
variable{i:Nat}{t:Pl.Tree}
theorem Qhn: ∀x:List UInt8,A3 x x=false
 :=by intro l;induction l<;>grind [A3]
theorem Qgb(a b:UInt8)(x y:List UInt8):A3 (a::x) (b::y)=true↔a<b∨a=b/\A3 x y=true:=by simp[A3]
theorem Qhm: ∀{x y z:List UInt8},A3 x y=true->A3 y z=true->A3 x z=true
 |[],[],_,h,_=>by omega
 |[],_::_,[],_,h=>by simp[A3] at h
 |[],_::_,_::_,_,_=>by simp[A3]
 |_::_,[],_,h,_=>by simp[A3] at h
 |_::_,_::_,[],_,h=>by simp[A3] at h
 |a::x,b::y,c::z,h1,h2=>by
  rw[Qgb] at*;rcases h1 with h1|⟨rfl,h1⟩
  ·grind
  ·rcases h2 with h2|⟨rfl,h2⟩
   ·grind
   ·exact .inr ⟨rfl,Qhm h1 h2⟩
theorem QtG{l:List Qm}(h:Qaa l=true)(hi:i+1<l.length):A3 (l[i]'(by omega)).1 (l[i+1]).1=true:=by
 unfold Qaa at h;rw[A8,AD] at h;have:=h.1 (i+1) (Ab.2 hi)
 grind [QaE]
theorem QkD{l:List Qm}(h:Qaa l=true): ∀{j:Nat} (hj:j<l.length) (hij:i<j),A3 (l[i]'(by omega)).1 (l[j]).1=true
 :=by intro l;induction l<;>grind [QtG,Qhm]
theorem QrG{l:List Qm}(h:Qaa l=true):(l.map (·.1)).Nodup:=by
 rw[List.nodup_iff_pairwise_ne,List.pairwise_iff_getElem];intro i j hi hj hij e;simp only[List.getElem_map] at*;have:=QkD h (show j<l.length by grind) hij
 grind [Qhn]
theorem Qd4(s:Pm.Store)(n:Qk):(Qf s n).2=true/\Qaa (Qf s n).1=true∨Qf s n=([],false):=by
 unfold Qf;split
 ·rcases Qoo (QaL (Qc s n.tree)).1 with h|h
  ·exact .inl ⟨h.2,h.1.1⟩
  grind
 grind
theorem Qhd(s:Pm.Store)(n:Qk): ∀e∈(Qf s n).1,Q9 e.1=true/\1<=e.2/\e.2<=15:=by
 rcases Qd4 s n with h|h
 ·exact ent_b h.2
 grind
theorem QfV{s:Pm.Store}{n:Qk}(h:(Qf s n).2=true):n.kind=2:=by grind [Qf]
theorem QfP(s:Pm.Store)(t:Pl.Tree)(k:Nat):(Qh s t).getD k Qd=Qd∨NodeB ((Qh s t).getD k Qd):=by grind [Qh,Qi3]
theorem nsOk(s:Pm.Store)(t:Pl.Tree):QcL (Qh s t) (Qf s):=by
 refine⟨fun n hn=>?_,fun n e he=>by grind [Qhd]⟩;unfold Qh at hn;obtain⟨x,_,rfl⟩:=AX.1 hn;rcases Qi3 x with h|h
 ·exact .inr h.kind
 ·rw[h];exact .inl rfl
def Qax(ns:List Qk)(k:Nat):Nat:=(ns.getD k Qd).links.toNat
theorem texts_len(s:Pm.Store)(h:Qx t):(Qc s t).length=t.many.toNat:=by
 unfold Qc;rw[Aa,AO,QdF s h.hi];have:=h.manyHi;omega
theorem graph(s:Pm.Store)(ht:Qx t)(h0:((Qh s t).getD 0 Qd).kind=2):
 Gr.Nodes (Qr (Qh s t)) (Gr.chOf (QaO (Qh s t) (Qf s))) (Qax (Qh s t)) (Qh s t).length:=by
 have hb: ∀k,Qr (Qh s t) k≠0->NodeB ((Qh s t).getD k Qd):=fun k hk=>by
  rcases QfP s t k with h|h
  ·unfold Qr at hk;rw[h] at hk;exact absurd rfl hk
  ·exact h
 refine⟨by unfold Qr;omega,fun k=>?_,fun k hk=>QdP hk,?_,fun k hk=>?_,fun k hk=>?_,fun k cs hc e he=>?_⟩
 ·unfold Qr
  rcases QfP s t k with h|h
  ·rw[h];decide
  ·have:=h.kind;omega
 ·unfold Qh;rw[Aa,texts_len s ht];have:=ht.manyHi;omega
 ·have:=(hb k hk).links;grind [Qax]
 ·have h:=hb k (by omega)
  have:=h.one (by grind [Qr]);unfold Qax;omega
 ·unfold Gr.chOf QaO at hc
  split at hc
  ·simp only[Option.map_some,Ag] at hc
   subst hc;rw[AL] at he;obtain⟨x,hx,rfl⟩:=AX.1 he
   grind [Qhd]
  grind
def Qa7(s:Pm.Store)(t:Pl.Tree):List QaP×Bool:=Qbp (Qh s t) (Qf s) 145 ([],0) []
def Pl.many(out:List QaP)(k:Nat):Nat:=(out.map (·.2)).count (k:Int)
def Qaw(s:Pm.Store)(ns:List Qk)(out:List QaP)(k:Nat):Bool:=
 ((ns.getD k Qd).kind==0||((Pl.many out k:Int)==(ns.getD k Qd).links))&&(!((ns.getD k Qd).kind==1)||Qac s (ns.getD k Qd))
def Qab(s:Pm.Store)(t:Pl.Tree):Bool:=
 Qav s t&&((Qh s t).getD 0 Qd).kind==2&&(Qa7 s t).2&&(A5 (Qh s t).length).all (Qaw s (Qh s t) (Qa7 s t).1)
structure QcX(s:Pm.Store)(t:Pl.Tree):Prop where
 tab:Qav s t=true
 root:((Qh s t).getD 0 Qd).kind=2
 file: ∀k,((Qh s t).getD k Qd).kind=1->Qac s ((Qh s t).getD k Qd)=true
 dir: ∀k,((Qh s t).getD k Qd).kind=2->(Qf s ((Qh s t).getD k Qd)).2=true
 linked: ∃nm,Gr.bfs (Qr (Qh s t)) (Gr.chOf (QaO (Qh s t) (Qf s))) (1+Gr.left (Qr (Qh s t)) (Qh s t).length []) [0] []=some nm/\
  ∀k,k≠0->Qr (Qh s t) k≠0->nm.count k=Qax (Qh s t) k
theorem Qhw(L:List Gr.It)(k:Nat):Pl.many (L.map QaW) k=(L.map (·.2)).count k:=by
 unfold Pl.many;rw[AL];induction L with
 |nil=>rfl
 |cons x L ih=>
  grind [QaW]
theorem Qrz(s:Pm.Store)(h0:((Qh s t).getD 0 Qd).kind=2)(L:List Gr.It):
 (Qa7 s t=(L.map QaW,true)/\L.length<=144/\Gr.FP (Qr (Qh s t)) (QaO (Qh s t) (Qf s)) [([],0)] L)↔
 (Gr.FP (Qr (Qh s t)) (QaO (Qh s t) (Qf s)) [([],0)] L/\L.length<=144):=by
 constructor
 ·grind
 ·rintro⟨h3,h2⟩
  refine⟨?_,h2,h3⟩;have hN:=nsOk s t;have hlt:0<(Qh s t).length:=QdP (k:=0) (by unfold Qr;omega);cases h3 with
  |file hk _=>grind [Qr]
  |@dir _ _ es _ L1 L2 hk hes h1 h4=>
   cases h4;unfold QaO at hes;split at hes;rotate_left
   ·cases hes
   rename_i hE;obtain rfl:=AC hes;rw[AP] at h2⊢;rw[AI] at h2;have:=QsD hN h1 144 [] (Qf s ((Qh s t).getD 0 Qd)).1 [([],0)] (hN.ids _) (by simp[Gr.kids]) (by grind) (by simp);unfold Qa7 Qbp;rw[if_neg,if_neg]
   ·rw[<-hE] at this
    refine Eq.trans this ?_;rw[hE];rfl
   ·grind
   grind [Pl.inR]
theorem QfA(s:Pm.Store)(h0:((Qh s t).getD 0 Qd).kind=2)(h:(Qa7 s t).2=true):
 ∃L,Gr.FP (Qr (Qh s t)) (QaO (Qh s t) (Qf s)) [([],0)] L/\L.length<=144/\Qa7 s t=(L.map QaW,true):=by
 have hN:=nsOk s t;unfold Qa7 Qbp at h⊢;split at h
 ·cases h
 rename_i hc;rw[if_neg hc];split at h
 ·grind
 rename_i hk;rw[if_neg hk]
 change (Qb3 (Qh s t) (Qf s) 144 [] (Qf s ((Qh s t).getD 0 Qd)).1 ([([],0)],(Qf s ((Qh s t).getD 0 Qd)).2)).2=true at h
 change ∃L,_/\_/\Qb3 (Qh s t) (Qf s) 144 [] (Qf s ((Qh s t).getD 0 Qd)).1 ([([],0)],(Qf s ((Qh s t).getD 0 Qd)).2)=_
 have hE:(Qf s ((Qh s t).getD 0 Qd)).2=true:=by
  grind [Qio]
 rw[hE] at h⊢;obtain⟨L,g1,g2,g3⟩:=QtB hN 144 _ [] [([],0)] (hN.ids _) h;have g3:=g3 (by simp);refine⟨([],0)::(L++[]),.dir (es:=(Qf s ((Qh s t).getD 0 Qd)).1.map fun e=>(e.1,e.2.toNat)) (by unfold Qr;omega) ?_ ?_ .nil,?_,?_⟩
 ·unfold QaO;grind
 ·unfold Gr.kids;rw[AL];exact g1
 ·grind
 grind [QaW]
theorem QdV(s:Pm.Store)(t:Pl.Tree):Qab s t=true↔QcX s t:=by
 unfold Qab;simp only[A8,beq_iff_eq,AD,Ab];have key: ∀(h1:Qav s t=true) (h2:((Qh s t).getD 0 Qd).kind=2),_:=fun h1 h2=>Gr.QsI (graph s (Qdx (by unfold Qav at h1;rw[A8] at h1;exact h1.1)) h2)
 have hk2: ∀k,Qr (Qh s t) k=2↔((Qh s t).getD k Qd).kind=2:=fun k=>by
  grind [Qr]
 have hch: ∀k,(∃cs,Gr.chOf (QaO (Qh s t) (Qf s)) k=some cs)↔(Qf s ((Qh s t).getD k Qd)).2=true:=fun k=>by
  unfold Gr.chOf QaO;simp
 constructor
 ·rintro⟨⟨⟨h1,h2⟩,h3⟩,h4⟩
  obtain⟨L,g1,g2,g3⟩:=QfA s h2 h3;rw[g3] at h4
  have hcount: ∀k,Qr (Qh s t) k≠0->(L.map (·.2)).count k=Qax (Qh s t) k:=fun k hk=>by
   have:=h4 k (QdP hk)
   grind [Qaw,Qhw,Qr,Qax]
  obtain⟨k1,k2⟩:=(key h1 h2).1 ⟨_,g1.fd,by grind,hcount⟩;refine⟨h1,h2,fun k hk=>?_,fun k hk=>(hch k).1 (k1 k ((hk2 k).2 hk)),k2⟩
  grind [QdP,Qr,Qaw]
 ·rintro⟨h1,h2,h3,h4,h5⟩
  obtain⟨M,m1,m2,m3⟩:=(key h1 h2).2 ⟨fun k hk=>(hch k).2 (h4 k ((hk2 k).1 hk)),h5⟩;obtain⟨L,g1,rfl⟩:=Gr.QtC m1 (r:=[([],0)]) rfl;obtain⟨q1,_,_⟩:=(Qrz s h2 L).2 ⟨g1,by grind⟩;rw[q1];refine⟨⟨⟨h1,h2⟩,rfl⟩,fun k hk=>?_⟩;unfold Qaw;rw[Qhw]
  by_cases h0:((Qh s t).getD k Qd).kind=0
  ·grind
  ·have hkc:=Qf5 (nsOk s t) k
   have:=m3 k (by unfold Qr;omega);rw[this]
   have hB:NodeB ((Qh s t).getD k Qd):=by
    rcases QfP s t k with h|h
    ·rw[h] at h0;exact absurd rfl h0
    ·exact h
   have hl:=hB.links
   grind [Qax]
end Aw
end
section
open Go.RowKit
namespace Aw
variable{t:Pl.Tree}
attribute [local irreducible] ASeq ADraw AWP Loc
def al10Cut(s:List UInt8)(hs:s.length<=Pm.big):Pure A4 193 [dS s] (dS (QaQ s)):=by
 simp only[Pm.big] at hs;refine kB ?_
 repeat refine kA ?_
 refine Qq (fun m st=> ∃r:List UInt8,r.length<=s.length/\m=r.length/\AH (QaQ r=QaQ s)/\st=⟨20,[(0,.d (dS r))],[]⟩) [0] 0 s.length ⟨s,AM _,rfl,Pm.hid rfl,rfl⟩ (round:=?_);rintro m st ⟨r,hr,rfl,hC,rfl⟩;rcases AS r with rfl|⟨l,c,rfl⟩
 ·repeat refine kA ?_
  refine Qb (hx:=?_);rw[<-hC.out];rfl
 rw[AT] at*;have hl:(l++[c]).length=l.length+1:=by simp
 have hi:(((l++[c]).length:Int) -1).toNat=l.length:=by omega
 have hc:(l++[c])[(((l++[c]).length:Int) -1).toNat]? =some c:=by rw[hi];simp
 have T:AH (((c.toNat:Nat):Int)≠0->QaQ s=l++[c]):=fun h=>by rw[<-hC.out,QiZ,if_neg];intro e;apply h;rw[beq_iff_eq] at e;rw[e];rfl
 have F:AH (((c.toNat:Nat):Int)=0->QaQ l=QaQ s):=fun h=>by rw[<-hC.out,QiZ,if_pos];rw[beq_iff_eq];exact AQ.1 (by have:(0:UInt8).toNat=0:=rfl;omega)
 clear hC
 repeat' first|refine kS ?_|refine qS (Qef Ty.h rfl rfl rfl (by omega) hc) ?_|refine qS (Qfj rfl rfl rfl (by omega) (by omega)) ?_|refine kU ?_|refine kV ?_ ?_<;>intro q|fail
 ·simp only[beq_iff_eq,decide_eq_true_eq] at*
  refine Qg l.length (by omega) ⟨l,by omega,rfl,Pm.hid (F.out (by assumption)),?_⟩;simp[keepE,go_sem]
 ·refine Qb (hx:=?_)
  rw[T.out (by simpa using q)]
 ·exfalso;simp at q
theorem texts_le(s:Pm.Store)(hg:QU s)(t:Pl.Tree): ∀x∈Qc s t,x.length<=128:=by grind [Qc,Qiy]
def Qmp(s:Pm.Store)(hg:QU s)(t:Pl.Tree)(ht:Qx t):Pure A4 26 [dSt s,dTree t] (.sl true 10 ((Qh s t).map rNode)):=by
 have c:=Qe8 s hg t ht;have hl:=texts_len s ht;have hle:=texts_le s hg t;have hm:=ht.manyHi;have hn:AH (Qh s t=(Qc s t).map fun x=>(Qo x).1):=Pm.hid rfl;generalize Qc s t=l at*;refine kE ?_;refine Qa 0 (h:=?_);refine Qa 1 (h:=?_)
 repeat refine kA ?_
 refine Qq (fun m st=> ∃(k g:Nat) (out:List Qk),k<=l.length/\m=16 -k/\out.length=k/\AH (out=(l.take k).map fun x=>(Qo x).1)/\
  st=⟨33,[(5,.osl 2 g 0 out.length),(6,.d (tStrs l)),(7,.d (dI k))],[.row 1 [],.row 1 [],.arr g 10 68 (out.map rNode)]⟩) [5,6,7] 3 16 ⟨0,0,[],by omega,rfl,rfl,Pm.hid rfl,rfl⟩ (round:=?_)
 rintro m st ⟨k,g,out,hk,rfl,hlen,hO,rfl⟩
 repeat refine kG ?_
 cases q4:decide ((k:Int)<(l.length:Int))
 ·repeat refine kA ?_
  (refine Qa 2 (h:=?_);refine Qb (hx:=?_))
  have:k=l.length:=by simp at q4;omega
  rw[hn.out,hO.out,this,AE];simp[AG]
 have hk2:k<l.length:=by simp at q4;omega
 obtain⟨x,hx⟩: ∃x,l[k]? =some x:=⟨_,A0 hk2⟩;have hr:=Qs (f:=fun s=>[dS s]) hx;have cg:=Qim x (by have:=hle x (A1 hx);unfold Pm.big;omega);have T:AH ((l.take (k+1)).map (fun x=>(Qo x).1)=out++[(Qo x).1]):=Pm.hid (by rw[AB,hx,hO.out];simp);clear hx hO hle hn;generalize (Qo x).1=N at*;obtain⟨kind,links,size,⟨⟨p1,p2,p3,p4,p5⟩,depth,many⟩⟩:=N
 repeat' first|refine kS ?_|refine qS (iy hr) ?_|refine QV Ty.h rfl Ty.h (hb:=?_) (kk:=?_)|refine kU ?_|fail
 ·simp;omega
 ·refine Qg (16 -(k+1)) (by omega) ⟨k+1,g+1,out++[⟨kind,links,size,⟨⟨p1,p2,p3,p4,p5⟩,depth,many⟩⟩],by omega,rfl,by simp[hlen],Pm.hid T.out.symm,?_⟩
  simp[keepE,go_sem]
theorem al11Ok(s:Pm.Store)(hg:QU s)(t:Pl.Tree):Pure A4 129 [dSt s,dTree t] (dB (Qav s t)):=by
 have c0:=al8Ok s hg t;have hd:AH (Qav s t=(QL s t&&(Qc s t).all fun x=>(x==[])||((Qo x).2&&QL s (Qo x).1.tree))):=Pm.hid rfl;cases h0:QL s t
 ·rw[h0] at c0
  refine kE ?_;refine Qa 0 (h:=?_);refine Qa 1 (h:=?_)
  repeat refine kA ?_
  refine Qb (hx:=?_);rw[hd.out,h0];rfl
 rw[h0] at c0;have ht:=Qdx h0;have c:=Qe8 s hg t ht;have hl:=texts_len s ht;have hle:=texts_le s hg t;have hm:=ht.manyHi;have hm0:=ht.manyLo;have hd2:AH (Qav s t=(Qc s t).all fun x=>(x==[])||((Qo x).2&&QL s (Qo x).1.tree)):=Pm.hid (by rw[hd.out,h0];rfl);clear hd h0 ht;generalize Qc s t=l at*;refine kE ?_;refine Qa 0 (h:=?_);refine Qa 1 (h:=?_)
 repeat refine kA ?_
 refine Qq (fun m st=> ∃(k:Nat),k<=l.length/\m=16 -k/\AH ((l.take k).all (fun x=>(x==[])||((Qo x).2&&QL s (Qo x).1.tree))=true)/\
  st=⟨43,[(5,.d (tStrs l)),(6,.d (dI k)),(2,.d (.pd (rSt s))),(3,.d (.pd (rTree t)))],[.row 1 [],.row 1 []]⟩) [5,6,2,3] 2 16 ⟨0,by omega,rfl,Pm.hid rfl,rfl⟩ (round:=?_)
 rintro m st ⟨k,hk,rfl,hA,rfl⟩
 repeat refine kG ?_
 cases q4:decide ((k:Int)<t.many)
 ·repeat refine kA ?_
  refine Qb (hx:=?_);have:k=l.length:=by simp at q4;omega
  have h:=hA.out;rw[this,AG (AM _)] at h;rw[hd2.out,h]
 have hk2:k<l.length:=by simp at q4;omega
 obtain⟨x,hx⟩: ∃x,l[k]? =some x:=⟨_,A0 hk2⟩;have hr:=Qs (f:=fun s=>[dS s]) hx;have cg:=Qim x (by have:=hle x (A1 hx);unfold Pm.big;omega);have cT:=al8Ok s hg (Qo x).1.tree;have T:AH (((x==[])||((Qo x).2&&QL s (Qo x).1.tree))=true->(l.take (k+1)).all (fun x=>(x==[])||((Qo x).2&&QL s (Qo x).1.tree))=true):=fun h=>by rw[AB,hx,AR,hA.out];simpa using h
 have F:AH (((x==[])||((Qo x).2&&QL s (Qo x).1.tree))=false->Qav s t=false):=fun h=>by
  rw[hd2.out,AY];exact⟨x,A1 hx,by rw[h];simp⟩
 clear hx hA hle hd2;generalize QL s (Qo x).1.tree=tok at*;generalize (Qo x).2=ok at*;generalize (Qo x).1=N at*;obtain⟨kind,links,size,⟨⟨p1,p2,p3,p4,p5⟩,depth,many⟩⟩:=N
 repeat' first|refine kS ?_|refine qS (iy hr) ?_|refine kU ?_|refine kV ?_ ?_<;>intro q|fail
 all_goals clear c0 c cg cT hr
 all_goals simp only[decide_eq_true_eq] at q4
 all_goals first|exact Qg (16 -(k+1)) (by omega) ⟨k+1,by omega,rfl,Pm.hid (T.out (by simp_all)),rfl⟩|refine Qb (hx:=?_);exact congrArg dB (F.out (by simp_all)).symm
def Q5(s:Pm.Store)(t:Pl.Tree)(k:Nat):Qk×Bool:=if(k:Int)<=t.many -1 then Qo ((Qc s t).getD k []) else(Qd,false)
theorem QhI(s:Pm.Store)(ht:Qx t)(k:Nat):(Q5 s t k).1=(Qh s t).getD k Qd:=by grind [texts_len,Q5,Qh]
theorem texts_get(s:Pm.Store)(ht:Qx t){k:Nat}(hk:(k:Int)<=t.many -1):(Qc s t).getD k []=(Qi s.1 ((Qe s t).getD k Pl.hole)).1:=by
 have hw:=QdF s ht.hi;have:=ht.manyHi
 grind [Qc]
def al11Get(s:Pm.Store)(hg:QU s)(t:Pl.Tree)(ht:Qx t)(k:Nat):Pure A4 219 [dSt s,dTree t,dI k] (.tup [dNode (Q5 s t k).1,dB (Q5 s t k).2]):=by
 have hm:=ht.manyHi;have hm0:=ht.manyLo;have c0:=al6In k 0 (t.many -1)
 by_cases h:(k:Int)<=t.many -1
 ·have e:Pl.inR k 0 (t.many -1)=true:=by simp[Pl.inR];omega
  rw[e] at c0;have c1:=al8Get s hg t ht k (by omega);rw[<-texts_get s ht h] at c1;have hx:AH (Q5 s t k=Qo ((Qc s t).getD k [])):=Pm.hid (by unfold Q5;rw[if_pos h])
  have c2:=Qim ((Qc s t).getD k []) (by
   rw[A2];cases h1:(Qc s t)[k]? with
   |none=>simp
   |some x=>have:=texts_le s hg t x (A1 h1);simp[Pm.big];omega)
  generalize (Qc s t).getD k []=x at*;rw[hx.out];clear hx h e;generalize Qo x=r at*;obtain⟨⟨kind,links,size,⟨⟨p1,p2,p3,p4,p5⟩,depth,many⟩⟩,ok⟩:=r;refine kD ?_;refine Qa 0 (h:=?_);refine Qa 1 (h:=?_)
  repeat refine kA ?_
  refine Qa 2 (h:=?_);exact QK (hx:=rfl)
 ·have e:Pl.inR k 0 (t.many -1)=false:=by simp[Pl.inR];omega
  rw[e] at c0;have hx:AH (Q5 s t k=(Qd,false)):=Pm.hid (by unfold Q5;rw[if_neg h]);rw[hx.out];refine kD ?_;refine Qa 0 (h:=?_);refine Qa 1 (h:=?_)
  repeat refine kA ?_
  refine Qa 2 (h:=?_);exact QK (hx:=rfl)
def Qbc(c:UInt8):Bool:=decide (97<=c.toNat)&&decide (c.toNat<=122)
theorem Ql9(s:List UInt8):Q9 s=(s.all Qbc&&Pl.inR s.length 1 4):=by
 unfold Q9 Pl.inR;rw[Bool.and_assoc]
 congr 2
 ·grind
 grind
def aNameOk(s:List UInt8)(hs:s.length<=Pm.big):Pure A4 175 [dS s] (dB (Q9 s)):=by
 simp only[Pm.big] at hs;have hd:=Pm.hid (Ql9 s);have c:=al6In s.length 1 4;refine kB ?_
 repeat refine kA ?_
 refine Qq (fun m st=> ∃k:Nat,k<=s.length/\m=s.length -k/\AH ((s.take k).all Qbc=true)/\st=⟨23,[(3,.d (dI k)),(0,.d (dS s))],[]⟩) [3,0] 0 s.length ⟨0,by omega,rfl,Pm.hid rfl,rfl⟩ (round:=?_);rintro m st ⟨k,hk,rfl,hA,rfl⟩
 repeat refine kG ?_
 cases q3:decide ((k:Int)<(s.length:Int))
 ·repeat refine kA ?_
  refine Qb (hx:=?_);have:k=s.length:=by simp at q3;omega
  have h:=hA.out;rw[this,AE] at h;rw[hd.out,h];rfl
 have hk2:k<s.length:=by simp at q3;omega
 obtain⟨x,hx⟩: ∃x,s[k]? =some x:=⟨_,A0 hk2⟩;have hx':s[(k:Int).toNat]? =some x:=hx;have T:AH (97<=x.toNat->x.toNat<=122->(s.take (k+1)).all Qbc=true):=fun h1 h2=>by rw[AB,hx,AR,hA.out];simp[Qbc,h1,h2]
 have F:AH ((x.toNat<97∨122<x.toNat)->Q9 s=false):=fun h=>by
  rw[hd.out];have:s.all Qbc=false:=by rw[AY];exact⟨x,A1 hx,by simp[Qbc];omega⟩
  rw[this];rfl
 clear hx hA hd
 repeat' first|refine kS ?_|refine qS (Qef Ty.h rfl rfl rfl (by omega) hx') ?_|refine kU ?_|refine kV ?_ ?_<;>intro q|fail
 all_goals simp only[decide_eq_true_eq,decide_eq_false_iff_not] at*
 all_goals first|exact Qg (s.length -(k+1)) (by omega) ⟨k+1,by omega,rfl,Pm.hid (T.out (by omega) (by omega)),rfl⟩|refine Qb (hx:=?_);rw[F.out (by omega)]
abbrev dEnts(l:List Qm):D:= .sl false 2 (l.map rEnt)
abbrev tEnts(l:List Qm):D:= .sl true 2 (l.map rEnt)
theorem QpY(l:List Qm)(hl:l.length<=Pm.big)(hs: ∀e∈l,e.1.length<=Pm.big):Pure A4 270 [dEnts l] (dB (Qaa l)):=by
 simp only[Pm.big] at hl;have hd:AH (Qaa l=((A5 l.length).all (QaE l)&&decide (l.length<=12))):=Pm.hid rfl;refine kB ?_
 repeat refine kA ?_
 refine Qq (fun m st=> ∃k:Nat,k<=l.length/\m=l.length -k/\AH ((A5 k).all (QaE l)=true)/\st=⟨47,[(3,.d (dI k)),(0,.d (dEnts l))],[]⟩) [3,0] 0 l.length ⟨0,by omega,rfl,Pm.hid rfl,rfl⟩ (round:=?_);rintro m st ⟨k,hk,rfl,hA,rfl⟩
 repeat refine kG ?_
 cases q3:decide ((k:Int)<(l.length:Int))
 ·repeat refine kA ?_
  refine Qb (hx:=?_);have:k=l.length:=by simp at q3;omega
  have h:=hA.out;rw[this] at h;rw[hd.out,h];refine congrArg dB ?_;simp;omega
 have hk2:k<l.length:=by simp at q3;omega
 obtain⟨x,hx⟩: ∃x,l[k]? =some x:=⟨_,A0 hk2⟩;have hr:=Qs (f:=rEnt) hx;obtain⟨y,hy⟩: ∃y,l[k -1]? =some y:=⟨_,A0 (by omega)⟩
 have hr2:AH (0<k->(l.map rEnt)[((k:Int) -1).toNat]? =some (rEnt y)):=fun h=>by
  rw[show((k:Int) -1).toNat=k -1 by omega,List.getElem?_map,hy];rfl
 have he:AH (QaE l k=(Q9 x.1&&Pl.inR x.2 1 15&&(decide (k=0)||A3 y.1 x.1))):=Pm.hid (by
  unfold QaE;simp only[A2,hx,hy,AJ])
 have T:AH (QaE l k=true->(A5 (k+1)).all (QaE l)=true):=fun h=>Pl.Qdo (p:=QaE l) hA.out h
 have F:AH (QaE l k=false->Qaa l=false):=fun h=>by
  rw[hd.out,Pl.Qdj (p:=QaE l) hk2 h];rfl
 have c1:=aNameOk x.1 (hs x (A1 hx));have c2:=al6In x.2 1 15;rw[he.out] at T F;clear hx hy hA hd he;generalize Q9 x.1=o1 at*;generalize Pl.inR x.2 1 15=o2 at*
 repeat' first|refine kS ?_|refine qD (iy hr) ?_|refine qD (Qdd Ty.h rfl Ty.h rfl rfl rfl (by simp only[decide_eq_true_eq] at*;omega) (hr2.out (by simp only[decide_eq_true_eq] at*;omega))) ?_|refine qD (QjB rfl rfl) ?_|refine kU ?_|refine kV ?_ ?_<;>intro q|fail
 all_goals clear c1 c2 hr hr2
 all_goals simp only[decide_eq_true_eq,decide_eq_false_iff_not] at*
 all_goals first|refine Qg (l.length -(k+1)) (by omega) ⟨k+1,by omega,rfl,Pm.hid (T.out ?_),rfl⟩;clear T F;simp_all;try omega|refine Qb (hx:=?_);rw[F.out ?_];clear T F;simp_all;try omega
theorem QlR{l:List Qm}(h:Qaa l=true): ∀e∈l,e.1.length<=4:=fun e he=>by
 grind [ent_b,Q9]
theorem QiW{l:List Qm}(h: ∀e∈l,e.1.length<=4/\0<=e.2/\e.2<=15):(QG l).length<=l.length*20:=by
 induction l with
 |nil=>simp[QG]
 |cons e l ih=>
  have h1:=h e AA;have h2:=Pl.Qdc 8 e.2.toNat (by omega);have ih:=ih fun x hx=>h x (A6 _ hx)
  grind [QG,Qas]
def al12Put(l:List Qm)(h:Qaa l=true):Pure A4 216 [dEnts l] (dS (QG l)):=by
 have hb: ∀e∈l,e.1.length<=4/\0<=e.2/\e.2<=15:=fun e he=>by have:=QlR h e he;have:=ent_b h e he;omega
 have hl:l.length<=12:=by unfold Qaa at h;rw[A8,decide_eq_true_eq] at h;exact h.2
 clear h;refine kB ?_
 repeat refine kA ?_
 refine Qq (fun m st=> ∃k:Nat,k<=l.length/\m=l.length -k/\st=⟨28,[(3,.d (dS (QG (l.take k)))),(4,.d (dI k)),(0,.d (dEnts l))],[]⟩) [3,4,0] 0 l.length ⟨0,by omega,rfl,rfl⟩ (round:=?_);rintro m st ⟨k,hk,rfl,rfl⟩
 repeat refine kG ?_
 cases q3:decide ((k:Int)<(l.length:Int))
 ·repeat refine kA ?_
  refine Qb (hx:=?_);have:k=l.length:=by simp at q3;omega
  rw[this,AE]
 have hk2:k<l.length:=by simp at q3;omega
 obtain⟨x,hx⟩: ∃x,l[k]? =some x:=⟨_,A0 hk2⟩;have hr:=Qs (f:=rEnt) hx;have hlen:=QiW (l:=l.take k) fun e he=>hb e (List.mem_of_mem_take he)
 rw[AO] at hlen;have hxb:=hb x (A1 hx);have T:AH (QG (l.take (k+1))=QG (l.take k)++x.1++[61]++Pl.dec x.2.toNat++[59]):=Pm.hid (by rw[AB,hx];simp[QG,Qas]);have hdl:=Pl.Qdc 8 x.2.toNat (by omega);have c:=al6Dec x.2.toNat (by omega);rw[show((x.2.toNat:Nat):Int)=x.2 by omega] at c;clear hx hb;generalize QG (l.take k)=out at*;generalize Pl.dec x.2.toNat=d at*;obtain⟨nm,id⟩:=x;simp only at hxb c T hr
 repeat' first|refine kS ?_|refine qD (iy hr) ?_|refine qD (Qdf (m:=[61]) rfl rfl (by first|omega|(simp;omega))) ?_|refine qD (Qdf (m:=[59]) rfl rfl (by first|omega|(simp;omega))) ?_|refine qD (Qdf rfl rfl (by first|omega|(simp;omega))) ?_|refine kU ?_|fail
 refine Qg (l.length -(k+1)) (by omega) ⟨k+1,by omega,rfl,?_⟩;simp[keepE,go_sem,T.out]
theorem Qnj{x:List UInt8}{e:Qm}(h:QaB x=some e):e.1.length<=x.length:=by grind [QaB,Qex]
theorem Qjt(s:List UInt8)(hs:s.length<=1000000000000):Pure A4 233 [dS s] (.tup [tEnts (QbW s).1,dB (QbW s).2]):=by
 have cw:=al2Cut s 59 hs;have hW:=Qex 59 s;have hne:=Pl.QgH 59 s;have hread:=fun m=>QrK (s:=s) (m:=m)
 have hbad:=fun k x=>eg_bad (s:=s) (k:=k) (x:=x)
 generalize Pl.cutB 59 s=w at*;have hw1:0<w.length:=AW.2 hne;clear hne;have hread:=Pm.hid hread;have hbad:=Pm.hid hbad;refine kB ?_
 repeat refine kA ?_
 refine Qq (fun m st=> ∃(k g:Nat) (out:List Qm),k+1<=w.length/\m=w.length -k/\out.length=k/\AH (∀(i:Nat) e,out[i]? =some e-> ∃x,w[i]? =some x/\QaB x=some e)/\
  st=⟨55,[(4,.osl 0 g 0 out.length),(5,.d (tStrs w)),(6,.d (dI k)),(0,.d (dS s))],[.arr g 2 154 (out.map rEnt)]⟩) [4,5,6,0] 1 w.length ⟨0,0,[],by omega,rfl,rfl,Pm.hid (by simp),rfl⟩ (round:=?_)
 rintro m st ⟨k,g,out,hk,rfl,hlen,hO,rfl⟩
 repeat refine kG ?_
 cases q3:decide ((k:Int)+1<(w.length:Int))
 ·have hk3:out.length+1=w.length:=by simp at q3;omega
  have hg:=Pm.hid (hread.out out hk3 hO.out)
  have hel: ∀e∈out,e.1.length<=Pm.big:=fun e he=>by
   obtain⟨i,hi⟩:=List.getElem?_of_mem he;obtain⟨x,hx,hx2⟩:=hO.out i e hi;have:=Qnj hx2;have:=hW.2 x (A1 hx);unfold Pm.big;omega
  have ce:=(QpY out (by unfold Pm.big;omega) hel).arg (l:=[tEnts out]);cases hE:Qaa out
  ·rw[hE] at ce
   clear hread hbad hO hel
   repeat' first|refine kA ?_|refine kV ?_ ?_<;>intro q|fail
   ·rw[q3] at q;cases q
   refine Qew 0 (h:=?_)
   repeat refine kA ?_
   (refine Qa 1 (h:=?_);refine Qb (hx:=?_))
   rw[hg.out,hE];rfl
  ·rw[hE] at ce
   have cp:=(al12Put out hE).arg (l:=[tEnts out]);clear hread hbad hO hel;generalize QG out=t at*
   repeat' first|refine kA ?_|refine kV ?_ ?_<;>intro q|fail
   ·rw[q3] at q;cases q
   refine Qew 0 (h:=?_)
   repeat' first|refine kA ?_|refine kV ?_ ?_<;>intro q|fail
   all_goals
    (first|refine Qb (hx:=?_)|(refine Qa 1 (h:=?_);refine Qb (hx:=?_)))
    rw[hg.out,hE]
    simp_all
 have hk2:k<w.length:=by omega
 obtain⟨x,hx⟩: ∃x,w[k]? =some x:=⟨_,A0 hk2⟩;have hr:=Qs (f:=fun s=>[dS s]) hx;have hxl:=hW.2 x (A1 hx);have cx:=al2Cut x 61 (by omega);have hpl:=(Qex 61 x).2;have hF:=Pm.hid (hbad.out k x (by simp at q3;omega) hx)
 have hT:AH (∀e,QaB x=some e-> ∀(i:Nat) e',(out++[e])[i]? =some e'-> ∃x,w[i]? =some x/\QaB x=some e'):=fun e he i e' hi=>by
  rcases Af i out.length with h|h
  ·rw[List.getElem?_append_left h] at hi;exact hO.out i e' hi
  ·have:i=out.length:=by have:=(List.getElem?_eq_some_iff.1 hi).1;simp at this;omega
   subst this;rw[List.getElem?_append_right (AM _)] at hi;simp at hi;subst hi;rw[hlen];exact⟨x,hx,he⟩
 have her:=Pm.hid (QaB.eq_def x);clear hx hread hbad hO;generalize Pl.cutB 61 x=p at*
 by_cases h2:p.length=2
 ·match p,h2 with
  |[a,b],_=>
  have cn:=aNumGet b (by have:=hpl b (by simp);unfold Pm.big;omega);have hT2:=Pm.hid (hT.out _ her.out);clear hT her hF;generalize (Pl.numGet b).getD 0=nb at*
  repeat' first|refine kS ?_|refine qS (iy hr) ?_|refine qS (iy rfl) ?_|refine QV Ty.h rfl Ty.h (hb:=?_) (kk:=?_)|refine kU ?_|refine kV ?_ ?_<;>intro q|fail
  ·simp;omega
  rotate_left
  ·rw[q3] at q;cases q
  ·simp only[decide_eq_true_eq] at q3
   refine Qg (w.length -(k+1)) (by omega) ⟨k+1,g+1,out++[(a,(nb:Int))],by omega,rfl,by simp[hlen],Pm.hid hT2.out,?_⟩;simp[keepE,go_sem]
 ·have hn:QaB x=none:=by
   rw[her.out];split
   ·exact absurd rfl h2
   ·rfl
  have hF2:=Pm.hid (hF.out hn);clear hT her hF hn
  repeat' first|refine kS ?_|refine qS (iy hr) ?_|refine kU ?_|refine kV ?_ ?_<;>intro q|fail
  all_goals first|exfalso;rw[q3] at q;cases q|exfalso;simp only[bne_eq_false_iff_eq] at*;omega|((refine Qa 1 (h:=?_);refine Qb (hx:=?_));rw[hF2.out];rfl)
attribute [local irreducible] AStep
def al9Get(s:Pm.Store)(hg:QU s)(t:Pl.Tree)(ht:Qx t):Pure A4 232 [dSt s,dTree t] (.tup [dS (QaL (Qc s t)).1,dB (QaL (Qc s t)).2]):=by
 have c:=Qe8 s hg t ht;have hl:=texts_len s ht;have hle:=texts_le s hg t;have hm:=ht.manyHi;have hm0:=ht.manyLo;have hd:AH (QaL (Qc s t)=if(A5 (Qc s t).length).all (Qau (Qc s t)) then((Qc s t).flatten,true) else([],false)):=Pm.hid rfl;generalize Qc s t=l at*;refine kE ?_;refine Qa 0 (h:=?_);refine Qa 1 (h:=?_)
 repeat refine kA ?_
 refine Qq (fun m st=> ∃(k:Nat) (out:List UInt8),k<=l.length/\m=16 -k/\out.length<=128*k/\AH (out=(l.take k).flatten)/\AH ((A5 k).all (Qau l)=true)/\
  st=⟨41,[(6,.d (dS out)),(7,.d (tStrs l)),(8,.d (dI k)),(3,.d (.pd (rTree t)))],[.row 1 [],.row 1 []]⟩) [6,7,8,3] 2 16 ⟨0,[],by omega,rfl,by simp,Pm.hid rfl,Pm.hid rfl,rfl⟩ (round:=?_)
 rintro m st ⟨k,out,hk,rfl,hol,hO,hA,rfl⟩
 repeat refine kG ?_
 cases q4:decide ((k:Int)<t.many)
 ·repeat refine kA ?_
  refine Qb (hx:=?_);have:k=l.length:=by simp at q4;omega
  have h:=hA.out;have ho:=hO.out;rw[this] at h;rw[this,AE] at ho;rw[hd.out,h,ho];rfl
 have hk2:k<l.length:=by simp at q4;omega
 obtain⟨x,hx⟩: ∃x,l[k]? =some x:=⟨_,A0 hk2⟩;have hr:=Qs (f:=fun s=>[dS s]) hx;have hxl:=hle x (A1 hx);have he:AH (Qau l k=(!(x==[])&&(decide (k+1=l.length)||decide (x.length=128)))):=Pm.hid (by unfold Qau;simp only[A2,hx,AJ]);have T:AH (Qau l k=true->(A5 (k+1)).all (Qau l)=true):=fun h=>Pl.Qdo (p:=Qau l) hA.out h
 have T2:AH ((l.take (k+1)).flatten=out++x):=Pm.hid (by rw[AB,hx,hO.out];simp)
 have F:AH (Qau l k=false->QaL l=([],false)):=fun h=>by
  rw[hd.out,Pl.Qdj (p:=Qau l) hk2 h];rfl
 rw[he.out] at T F;clear hx hA hO hd he hle c
 repeat' first|refine kS ?_|refine qS (iy hr) ?_|refine qS (Qdf rfl rfl (by omega)) ?_|refine kU ?_|refine kV ?_ ?_<;>intro q|fail
 all_goals clear hr
 all_goals simp only[decide_eq_true_eq,decide_eq_false_iff_not] at*
 all_goals generalize (x==[])=u at*
 all_goals first
  |(refine Qg (16 -(k+1)) (by omega) ⟨k+1,out++x,by omega,rfl,by simp;omega,Pm.hid T2.out.symm,Pm.hid (T.out ?_),rfl⟩;clear T F T2;cases u<;>simp at* <;>omega)
  |(refine Qb (hx:=?_);have hF:(!u&&(decide (k+1=l.length)||decide (x.length=128)))=false:=by
     clear T F T2;cases u<;>simp at* <;>omega
    rw[F.out hF])
theorem Qjs(s:Pm.Store)(hg:QU s)(n:Qk):Pure A4 192 [dSt s,dNode n] (.tup [tEnts (Qf s n).1,dB (Qf s n).2]):=by
 have hd:=Pm.hid (Qf.eq_def s n);have c1:=aNodeOk n;have c2:=al8Ok s hg n.tree;cases h1:QL s n.tree
 ·rw[h1] at c2 hd
  generalize QF n=ok at*;refine kE ?_;refine Qa 0 (h:=?_);refine Qa 1 (h:=?_)
  repeat' first|refine kA ?_|refine kV ?_ ?_<;>intro q|fail
  all_goals
   (refine Qa 2 (h:=?_);refine Qb (hx:=?_))
   rw[hd.out];simp
 have ht:=Qdx h1;have c3:=al9Get s hg n.tree ht
 have hb:(QaL (Qc s n.tree)).1.length<=16*128:=by
  have hl:=texts_len s ht;have hm:=ht.manyHi;have hle:=texts_le s hg n.tree;unfold QaL;split
  ·simp only
   have: ∀l:List (List UInt8),(∀x∈l,x.length<=128)->l.flatten.length<=l.length*128:=by
    intro l;induction l with
    |nil=>intro _;simp
    |cons a l ih=>intro h;have:=ih fun x hx=>h x (A6 _ hx);have:=h a AA;rw[List.flatten_cons,AF,AI];omega
   have:=this _ hle;omega
  ·simp
 have c4:=Qjt (QaL (Qc s n.tree)).1 (by omega);rw[h1] at c2 hd;generalize QF n=ok at*;generalize QaL (Qc s n.tree)=bb at*;obtain⟨tx,fine⟩:=bb;simp only at hb c4 hd;generalize QbW tx=r at*;obtain⟨es,good⟩:=r;clear h1 ht;refine kE ?_;refine Qa 0 (h:=?_);refine Qa 1 (h:=?_)
 repeat' first|refine kA ?_|refine kV ?_ ?_<;>intro q|fail
 all_goals
  (first|refine Qb (hx:=?_)|(refine Qa 2 (h:=?_);refine Qb (hx:=?_)))
  rw[hd.out];clear c1 c2 c3 c4 hd
  simp_all
def Qlb(size:Int)(k:Nat)(h0:0<=size)(h1:size<=2048)(hk:k<=100):Pure A4 133 [dI size,dI k] (dI (QaA size k)):=by
 refine kB ?_
 repeat' first|refine kS ?_|refine qS (Qd3 rfl rfl (by omega)) ?_|refine qS (QmJ rfl rfl) ?_|refine kU ?_|fail
 exact Qb (hx:=rfl)
theorem al13Ok(s:Pm.Store)(hg:QU s)(n:Qk):Pure A4 131 [dSt s,dNode n] (dB (Qac s n)):=by
 have hd:AH (Qac s n=(QF n&&(n.kind==1)&&QL s n.tree&&(A5 n.tree.many.toNat).all (Qa9 n.size (Qc s n.tree)))):=Pm.hid rfl;have c1:=aNodeOk n;have c2:=al8Ok s hg n.tree
 by_cases hk:QF n=true/\n.kind=1/\QL s n.tree=true
 rotate_left
 ·have hx:AH (Qac s n=false):=Pm.hid (by
   rw[hd.out];cases h1:QF n
   ·rfl
   ·cases h2:QL s n.tree
    ·simp
    ·have:(n.kind==1)=false:=by simpa using fun h=>hk ⟨h1,h,h2⟩
     rw[this];rfl)
  clear hd;generalize QF n=ok at*;generalize QL s n.tree=tok at*;refine kE ?_;refine Qa 0 (h:=?_);refine Qa 1 (h:=?_)
  repeat' first|refine kA ?_|refine kV ?_ ?_<;>intro q|fail
  all_goals first|refine Qb (hx:=?_);rw[hx.out];done|exfalso;simp_all;done|exfalso;apply hk;simp_all
 obtain⟨h1,h2,h3⟩:=hk;have ht:=Qdx h3;have hb:=Qeh h1;have hs:=hb.size;have c3:=Qe8 s hg n.tree ht;have hl:=texts_len s ht;have hle:=texts_le s hg n.tree;have hm:=ht.manyHi;have hm0:=ht.manyLo;have hd2:AH (Qac s n=(A5 n.tree.many.toNat).all (Qa9 n.size (Qc s n.tree))):=Pm.hid (by rw[hd.out,h1,h2,h3];rfl);rw[h1] at c1;rw[h3] at c2;clear hd h1 h3 ht hb;generalize Qc s n.tree=l at*;obtain⟨kind,links,size,⟨root,depth,many⟩⟩:=n;simp only at h2 hs hl hm hm0 hd2 c1 c2 c3;subst h2;refine kE ?_;refine Qa 0 (h:=?_);refine Qa 1 (h:=?_)
 repeat refine kA ?_
 refine Qq (fun m st=> ∃(k:Nat),k<=l.length/\m=16 -k/\AH ((A5 k).all (Qa9 size l)=true)/\
  st=⟨51,[(5,.d (tStrs l)),(6,.d (dI k)),(3,.d (.pd (rNode ⟨1,links,size,⟨root,depth,many⟩⟩)))],[.row 1 [],.row 1 []]⟩) [5,6,3] 2 16 ⟨0,by omega,rfl,Pm.hid rfl,rfl⟩ (round:=?_)
 rintro m st ⟨k,hk,rfl,hA,rfl⟩
 repeat refine kG ?_
 cases q4:decide ((k:Int)<many)
 ·repeat refine kA ?_
  refine Qb (hx:=?_);have:k=many.toNat:=by simp at q4;omega
  have h:=hA.out;rw[this] at h;rw[hd2.out,h]
 have hk2:k<l.length:=by simp at q4;omega
 obtain⟨x,hx⟩: ∃x,l[k]? =some x:=⟨_,A0 hk2⟩;have hr:=Qs (f:=fun s=>[dS s]) hx;have hxl:=hle x (A1 hx);have he:AH (Qa9 size l k=(decide ((x.length:Int)<=QaA size k)&&(QaQ x==x))):=Pm.hid (by unfold Qa9;simp only[A2,hx,AJ]);have T:AH (Qa9 size l k=true->(A5 (k+1)).all (Qa9 size l)=true):=fun h=>Pl.Qdo (p:=Qa9 size l) hA.out h
 have F:AH (Qa9 size l k=false->Qac s ⟨1,links,size,⟨root,depth,many⟩⟩=false):=fun h=>by
  rw[hd2.out,Pl.Qdj (p:=Qa9 size l) (by omega) h]
 rw[he.out] at T F;have c4:=Qlb size k hs.1 hs.2 (by omega);have c5:=al10Cut x (by unfold Pm.big;omega);clear hx hA hd2 he hle c1 c2 c3;generalize QaQ x=y at*;generalize QaA size k=lg at*
 repeat' first|refine kS ?_|refine qS (iy hr) ?_|refine kU ?_|refine kV ?_ ?_<;>intro q|fail
 all_goals clear hr c4 c5
 all_goals simp only[decide_eq_true_eq,decide_eq_false_iff_not] at*
 all_goals first|refine Qg (16 -(k+1)) (by omega) ⟨k+1,by omega,rfl,Pm.hid (T.out ?_),rfl⟩;clear T F;simp_all;try omega|refine Qb (hx:=?_);rw[F.out ?_];clear T F;simp_all;try omega
end Aw
end
section
namespace Aw
def QbF(E:Qk->List Qm×Bool)(ns:List Qk):Int->List (List UInt8)->Option Int
 |i,[]=>some i
 |i,n::q=>match(E (ns.getD i.toNat Qd)).1.find? (fun e=>e.1==n) with
  |none=>none
  |some e=>QbF E ns e.2 q
theorem QfU(E:Qk->List Qm×Bool)(ns:List Qk)(i:Int):QbF E ns i []=some i:=rfl
theorem QeA(E:Qk->List Qm×Bool)(ns:List Qk)(i:Int)(n:List UInt8)(q:List (List UInt8)):QbF E ns i (n::q)=match(E (ns.getD i.toNat Qd)).1.find? (fun e=>e.1==n) with
 |none=>none
 |some e=>QbF E ns e.2 q:=rfl
def Qa1(s:Pm.Store)(ns:List Qk):Int->List (List UInt8)->Option Int:=QbF (Qf s) ns
def QcZ(out:List QaP)(q:List (List UInt8))(k:Nat):Bool:=out.any fun x=>(x.2==(k:Int))&&q.isPrefixOf x.1
def QcD(s:Pm.Store)(t:Pl.Tree)(q:List (List UInt8))(f:Qk->Int):Int:=
 QcP (fun k=>if QcZ (Qa7 s t).1 q k then f ((Qh s t).getD k Qd) else 0) (Qh s t).length
theorem Qk8{s:Pm.Store}{ns:List Qk}: ∀{q:List (List UInt8)} {i j:Int},0<=i->Qa1 s ns i q=some j->0<=j
 |[],i,j,h,hf=>by unfold Qa1 at hf;grind [QfU]
 |n::q,i,j,h,hf=>by
  unfold Qa1 at hf;rw[QeA] at hf;split at hf
  ·cases hf
  ·rename_i e he
   exact Qk8 (by grind [Qhd]) hf
theorem Qh1{s:Pm.Store}{ns:List Qk}(hN:QcL ns (Qf s)): ∀{q:List (List UInt8)} {i j:Int},Qa1 s ns i q=some j->Gr.find (Qr ns) (QaO ns (Qf s)) i.toNat q=some j.toNat
 |[],i,j,hf=>by unfold Qa1 at hf;rw[QfU] at hf;obtain rfl:=AC hf;rfl
 |n::q,i,j,hf=>by
  unfold Qa1 at hf;rw[QeA] at hf;split at hf
  ·cases hf
  ·rename_i e he
   have hE:(Qf s (ns.getD i.toNat Qd)).2=true:=by
    grind [Qd4]
   have hk:=QfV hE;unfold Gr.find;rw[if_pos (by unfold Qr;omega)];have h1:QaO ns (Qf s) i.toNat=some ((Qf s (ns.getD i.toNat Qd)).1.map fun e=>(e.1,e.2.toNat)):=by unfold QaO;grind
   rw[h1,AJ,List.find?_map];have h2:((fun e:List UInt8×Nat=>e.1==n) ∘ fun e:Qm=>(e.1,e.2.toNat))=fun e:Qm=>e.1==n:=rfl
   rw[h2,he];exact Qh1 hN hf
theorem QlS(s:Pm.Store)(ns:List Qk): ∀k es,QaO ns (Qf s) k=some es->(es.map (·.1)).Nodup:=by
 intro k es h;unfold QaO at h;split at h
 ·rename_i hE
  obtain rfl:=AC h;rcases Qd4 s (ns.getD k Qd) with h|h
  ·rw[AL];exact QrG h.2
  grind
 ·cases h
theorem Qqt{s:Pm.Store}{t:Pl.Tree}{q:List (List UInt8)}{j:Int}(hF:QcX s t)(hj:Qa1 s (Qh s t) 0 q=some j):
 ∃M,Gr.FD (Qr (Qh s t)) (Gr.chOf (QaO (Qh s t) (Qf s))) [j.toNat] M/\
  ∀f:Qk->Int,QcD s t q f=QcP (fun k=>if k∈M then f ((Qh s t).getD k Qd) else 0) (Qh s t).length:=by
 have hOk:=(QdV s t).2 hF;unfold Qab at hOk;simp only[A8,beq_iff_eq] at hOk;obtain⟨L,g1,g2,g3⟩:=QfA s hF.root hOk.1.2;obtain⟨M,hM,hi⟩:=Gr.Qp1 (p:=[]) (QlS s _) g1 (Qh1 (nsOk s t) hj)
 grind [QcD,QcZ,QaW,List.any_map]
end Aw
end
section
open Go.RowKit
namespace Aw
attribute [local irreducible] ASeq ADraw AWP Loc
def Qy(s:List UInt8):List (List UInt8):=if s=[47] then [] else(Pl.cutB 47 s).tail
theorem Qqq(l:List (List UInt8)):(l.map fun s=>[dS s]).drop 1=l.tail.map fun s=>[dS s]:=by simp_all
def Qgd(s:List UInt8)(hs:s.length<=1000000000000):Pure A4 174 [dS s] (tStrs (Qy s)):=by
 have c:=al2Cut s 47 hs;have hd:AH (Qy s=if s=[47] then [] else(Pl.cutB 47 s).tail):=Pm.hid rfl;have hne:=AW.2 (Pl.QgH 47 s);have ht:=Pm.hid (Qqq (Pl.cutB 47 s));generalize Pl.cutB 47 s=l at*;refine kB ?_
 repeat' first|refine kS ?_|refine qS (Qdp (m:=[47]) rfl rfl) ?_|refine qS (QgT rfl rfl rfl (by omega) (by simp;omega)) ?_|refine kU ?_|refine kV ?_ ?_<;>intro q|fail
 ·(refine Qa 0 (h:=?_);refine Qb (hx:=?_))
  rw[hd.out,if_pos (by simpa using q)];rfl
 ·refine Qb (hx:=?_)
  rw[hd.out,if_neg (by simpa using q)];have h:=ht.out
  first|rw[<-h];rfl|simp[<-h]
theorem aPathOk(s:List UInt8)(hs:s.length<=1000000000000):Pure A4 103 [dS s] (dB (Q7 s).isSome):=by
 have c:=Qgd s hs;have hd:AH (Q7 s=if s=[47] then some [] else if s.head? =some 47/\(Pl.cutB 47 s).tail.all Q9=true/\(Pl.cutB 47 s).tail.length<=4 then some (Pl.cutB 47 s).tail else none):=Pm.hid rfl
 by_cases h1:s=[47]
 ·subst h1
  refine kB ?_
  repeat' first|refine kS ?_|refine qS (Qdp (m:=[47]) rfl rfl) ?_|refine kU ?_|fail
  all_goals first|exfalso;simp at q;done|refine Qb (hx:=?_);rw[hd.out,if_pos rfl];rfl|skip
 have hd2:AH (Q7 s=if s.head? =some 47/\(Pl.cutB 47 s).tail.all Q9=true/\(Pl.cutB 47 s).tail.length<=4 then some (Pl.cutB 47 s).tail else none):=Pm.hid (by rw[hd.out,if_neg h1]);have hn:Qy s=(Pl.cutB 47 s).tail:=if_neg h1;rw[hn] at c;have hcl:=(Qex 47 s);have hl:(Pl.cutB 47 s).tail.length<=s.length+1/\ ∀x∈(Pl.cutB 47 s).tail,x.length<=s.length:=⟨by rw[AZ];omega,fun x hx=>hcl.2 x (List.mem_of_mem_tail hx)⟩;clear hd hn hcl;generalize (Pl.cutB 47 s).tail=l at*;cases s with
 |nil=>
  refine kB ?_
  repeat' first|refine kS ?_|refine qS (Qdp (m:=[47]) rfl rfl) ?_|refine kU ?_|fail
  all_goals first|exfalso;simp at q;done|refine Qb (hx:=?_);rw[hd2.out,if_neg (by simp)];rfl|skip
 |cons c0 s=>
  have hne:((c0::s)==[47])=false:=by simpa using h1
  have hc0:(c0::s)[(0:Int).toNat]? =some c0:=rfl;have h47:((c0.toNat:Nat):Int)=47↔c0=47:=⟨fun h=>AQ.1 (by have:((47:UInt8).toNat:Int)=47:=rfl;omega),fun h=>by rw[h];rfl⟩
  by_cases h2:c0=47
  rotate_left
  ·have hx:AH (Q7 (c0::s)=none):=Pm.hid (by rw[hd2.out,if_neg (by simp[h2])])
   refine kB ?_
   repeat' first|refine kS ?_|refine qS (Qdp (m:=[47]) rfl rfl) ?_|refine qS (Qef Ty.h rfl rfl rfl (by omega) hc0) ?_|refine kU ?_|refine kV ?_ ?_<;>intro q|fail
   all_goals first|refine Qb (hx:=?_);rw[hx.out];rfl|exfalso;rw[hne] at q;exact absurd q (by decide)|exfalso;simp only[bne_eq_false_iff_eq] at*;exact h2 (h47.1 (by assumption))|skip
  subst h2;have hd3:AH (Q7 (47::s)=if l.all Q9=true/\l.length<=4 then some l else none):=Pm.hid (by rw[hd2.out];simp);clear hd2 h47;refine kB ?_
  repeat' first|refine kS ?_|refine qS (Qdp (m:=[47]) rfl rfl) ?_|refine qS (Qef Ty.h rfl rfl rfl (by omega) hc0) ?_|refine kU ?_|refine kV ?_ ?_<;>intro q|fail
  all_goals first|exfalso;rw[hne] at q;exact absurd q (by decide)|exfalso;exact absurd q (by decide)|exfalso;simp at q;done|skip
  refine Qq (fun m st=> ∃k:Nat,k<=l.length/\m=l.length -k/\AH ((l.take k).all Q9=true)/\st=⟨31,[(3,.d (tStrs l)),(4,.d (dI k))],[]⟩) [3,4] 0 l.length ⟨0,by omega,rfl,Pm.hid rfl,rfl⟩ (round:=?_);rintro m st ⟨k,hk,rfl,hA,rfl⟩
  repeat refine kG ?_
  cases q3:decide ((k:Int)<(l.length:Int))
  ·repeat refine kA ?_
   refine Qb (hx:=?_);have:k=l.length:=by simp at q3;omega
   have h:=hA.out;rw[this,AE] at h;rw[hd3.out,h];refine congrArg dB ?_
   by_cases h4:l.length<=4
   ·rw[if_pos ⟨rfl,h4⟩];simp;omega
   ·rw[if_neg (fun x=>h4 x.2)];simp;omega
  have hk2:k<l.length:=by simp at q3;omega
  obtain⟨x,hx⟩: ∃x,l[k]? =some x:=⟨_,A0 hk2⟩;have hr:=Qs (f:=fun s=>[dS s]) hx;have c2:=aNameOk x (by have:=hl.2 x (A1 hx);unfold Pm.big;omega);have T:AH (Q9 x=true->(l.take (k+1)).all Q9=true):=Pm.hid fun h=>by rw[AB,hx,AR,hA.out];simpa using h
  have F:AH (Q9 x=false->Q7 (47::s)=none):=Pm.hid fun h=>by
   rw[hd3.out,if_neg];rintro⟨h1,_⟩;have:=AD.1 h1 x (A1 hx);rw[h] at this;cases this
  clear hx hA hd3;generalize Q9 x=ok at*
  repeat' first|refine kS ?_|refine qS (iy hr) ?_|refine kU ?_|refine kV ?_ ?_<;>intro q|fail
  all_goals first|exact Qg (l.length -(k+1)) (by omega) ⟨k+1,by omega,rfl,Pm.hid (T.out (by simpa using q)),rfl⟩|refine Qb (hx:=?_);rw[F.out (by simpa using q)];rfl
theorem Qkb(s:List UInt8)(hs:s.length<=1000000000000):Pure A4 223 [dS s] (.tup [tStrs ((Q7 s).getD []),dB (Q7 s).isSome]):=by
 have c1:=aPathOk s hs;have c2:=Qgd s hs
 have hn:AH ((Q7 s).isSome=true->Qy s=(Q7 s).getD []):=Pm.hid fun h=>by
  unfold Q7 Qy at*;split
  ·rfl
  ·rename_i h1
   rw[if_neg h1] at h;split
   ·rfl
   ·rename_i h2;rw[if_neg h2] at h;cases h
 have hcl:=(Qex 47 s)
 have hl:(Qy s).length<=s.length+1:=by
  unfold Qy;split
  ·simp
  ·rw[AZ];omega
 have h0:AH ((Q7 s).isSome=false->(Q7 s).getD []=[]):=Pm.hid fun h=>by cases hx:Q7 s with|none=>rfl|some x=>rw[hx] at h;cases h
 generalize (Q7 s).getD []=r at*;generalize (Q7 s).isSome=ok at*;generalize Qy s=l at*;refine kB ?_
 repeat' first|refine kS ?_|refine Qe1 Ty.h rfl Ty.h (hb:=?_) (hcell:=?_) (kk:=?_)|refine kU ?_|refine kV ?_ ?_<;>intro q|fail
 ·(refine Qa 0 (h:=?_);refine Qb (hx:=?_))
  have h1:ok=false:=by simpa using q
  rw[h0.out h1,h1];rfl
 ·intro r hr d hd
  obtain⟨x,_,rfl⟩:=AX.1 hr;simp at hd;subst hd;rfl
 ·simp;omega
 ·(refine Qa 0 (h:=?_);refine Qb (hx:=?_))
  have h1:ok=true:=by simpa using q
  rw[<-hn.out h1,h1];simp[AG]

/- Of fuse_card; no condition. -/
import Derived.Test.YtmomkioebognpaaGreatDoorQ14
set_option linter.all false
set_option maxRecDepth 100000
set_option maxHeartbeats 4000000
open Bool renaming and_eq_true->A6
open Classical renaming choose_spec->AG,choose->AQ
open Go.Op renaming bytesLess->A3
open Go.Proofs.Tryz renaming prog->A8
open Go.RowKit renaming Hid->AN
open Int renaming eq_ofNat_of_zero_le->A9
open List renaming getElem?_eq_getElem->A0,getD_eq_getElem?_getD->A1,mem_of_getElem?->A2,mem_cons_self->A4,mem_cons_of_mem->A5,range->A7,length_drop->AA,take_add_one->AB,all_eq_true->AC,length_append->AF,getElem?_eq_none->AH,length_cons->AI,cons_append->AJ,take_length->AK,append_nil->AM,getElem?_map->AP,length_take->AR,map_map->AS,mem_map->AT,take_of_length_le->AU,singleton_append->AW,eq_nil_or_concat->AX,concat_eq_append->AY,mem_range->AZ,map_cons->Aa,flatMap_cons->Ac,all_eq_false->Ad,mem_append->Ae,length_map->Ag,all_append->Ah,tail_cons->Ai,mem_cons->Aj
open List.cons renaming injEq->AL
open Nat renaming le_refl->AO,le_trans->Ab,lt_or_ge->Al
open Option renaming getD_some->AD
open Option.some renaming inj->AE,injEq->Am
open Prod.mk renaming injEq->Ak
open UInt8 renaming toNat_inj->Af
namespace Go.Proofs.YtmomkioebognpaaGreatDoor
noncomputable section
section
open Go.RowKit
namespace Aw
variable{a b c f x:List UInt8}
attribute [local irreducible] ASeq ADraw AWP Loc
def Pl.rg(s:List UInt8):List (List UInt8)×Bool:=open Classical in if h: ∃l,Pl.IsRec s l then(AQ h,true) else([],false)
def rg_is{s:List UInt8}{l:List (List UInt8)}(h:Pl.IsRec s l):Pl.rg s=(l,true):=by
 unfold Pl.rg;have hx: ∃p,Pl.IsRec s p:=⟨l,h⟩;rw[dif_pos hx,Pl.Qhh (AG hx) h]
theorem QhG{s:List UInt8}(h: ∀l,¬Pl.IsRec s l):Pl.rg s=([],false):=by
 unfold Pl.rg
 grind
def Pl.zn:Pl.Node:=⟨0,0,0,⟨Pl.hole,0,0⟩⟩
theorem Qqc(kind size:Int):Pl.Qa3 kind size<=16:=by
 unfold Pl.Qa3;have he:=Qjq kind;generalize Pl.each kind=e at*;split
 ·decide
 ·split
  ·rename_i h1 h2
   have hb:0<=size/\size<=16*e:=by simpa[Pl.inR] using h2
   grind
  ·decide
structure NodeB(n:Pl.Node):Prop where
 kind:n.kind=1∨n.kind=2
 links:1<=n.links/\n.links<=9
 size:0<=n.size/\n.size<=2048
 ptr:Pl.ptrOk n.tree.root=true
 depth:0<=n.tree.depth/\n.tree.depth<=2
 many:0<=n.tree.many/\n.tree.many<=16
 one:n.kind=2->n.links=1
def Qd6{n:Pl.Node}(h:Pl.Qar n=true):NodeB n:=by
 unfold Pl.Qar at h;simp only[A6,beq_iff_eq,decide_eq_true_eq] at h;obtain⟨⟨⟨⟨⟨h1,h2⟩,h3⟩,h4⟩,h5⟩,h6⟩:=h;have hp:=Qqc n.kind n.size
 have hk:n.kind=1∨n.kind=2:=by
  by_cases k1:n.kind=1
  ·omega
  ·by_cases k2:n.kind=2
   ·omega
   ·have:Pl.each n.kind=0:=by unfold Pl.each;omega
    unfold Pl.Qa3 at h1;omega
 have hs:0<=n.size/\n.size<=2048:=by
  have he:Pl.each n.kind≠0:=by rcases hk with k|k<;>rw[k]<;>decide
  have he2:Pl.each n.kind<=128:=by rcases hk with k|k<;>rw[k]<;>decide
  unfold Pl.Qa3 at h1;rw[if_neg he] at h1;split at h1
  ·rename_i h
   have hb:0<=n.size/\n.size<=16*Pl.each n.kind:=by simpa[Pl.inR] using h
   omega
  omega
 have hd:0<=n.tree.depth/\n.tree.depth<=2:=by rw[h3];unfold Pl.QaZ;omega
 have hl:1<=n.links/\n.links<=(if n.kind=2 then 1 else 9):=by simpa[Pl.inR] using h5
 refine⟨hk,?_,hs,h4,hd,by omega,fun e=>?_⟩
 ·omega
 omega
def Pl.Qax(n:Pl.Node):List (List UInt8):=[Pl.dec n.kind.toNat,Pl.dec n.links.toNat,Pl.dec n.size.toNat,Pl.ptrPut n.tree.root,Pl.dec n.tree.depth.toNat,Pl.dec n.tree.many.toNat,[101,110,100]]
def Pl.Qaf(n:Pl.Node):List UInt8:=if Pl.Qar n then Pl.fp (Pl.Qax n) else []
def Pl.Qbd(s:List UInt8)(n:Pl.Node):Prop:=Pl.Qar n=true/\Pl.IsRec s (Pl.Qax n)
theorem Qjj{s:List UInt8}{n:Pl.Node}(hs:s≠[]):Pl.Qbd s n↔Pl.Qaf n=s:=by
 constructor
 ·rintro⟨h1,h2⟩
  unfold Pl.Qaf Pl.fp;rw[if_pos h1,Pl.QfK.2 h2];rfl
 ·intro h
  unfold Pl.Qaf at h;split at h
  ·rename_i h1;exact⟨h1,Pl.fp_some h hs⟩
  grind
def Pl.ng(s:List UInt8):Pl.Node×Bool:=open Classical in if h: ∃n,Pl.Qbd s n then(AQ h,true) else(Pl.zn,false)
def Pl.Qba(a b c d e f:List UInt8):Pl.Node:=⟨((Pl.numGet a).getD 0:Nat),((Pl.numGet b).getD 0:Nat),((Pl.numGet c).getD 0:Nat),⟨(Pl.pg d).1,((Pl.numGet e).getD 0:Nat),((Pl.numGet f).getD 0:Nat)⟩⟩
def QdN{s d e g:List UInt8}{n:Pl.Node}(hr:Pl.IsRec s [a,b,c,d,e,f,g])(h:Pl.Qbd s n):
 Pl.numGet a=some n.kind.toNat/\Pl.numGet b=some n.links.toNat/\Pl.numGet c=some n.size.toNat/\Pl.pg d=(n.tree.root,true)/\Pl.numGet e=some n.tree.depth.toNat/\Pl.numGet f=some n.tree.many.toNat:=by
 have hb:=Qd6 h.1;have he:=Pl.Qhh hr h.2;simp only[Pl.Qax,AL] at he;obtain⟨rfl,rfl,rfl,rfl,rfl,rfl,_⟩:=he;have h1:=hb.kind;have h2:=hb.links;have h3:=hb.size;have h4:=hb.depth;have h5:=hb.many;exact⟨Pl.Qcy (by omega),Pl.Qcy (by omega),Pl.Qcy (by omega),pg_is ⟨hb.ptr,rfl⟩,Pl.Qcy (by omega),Pl.Qcy (by omega)⟩
theorem QhL{s d e g:List UInt8}{n:Pl.Node}(hr:Pl.IsRec s [a,b,c,d,e,f,g])(h:Pl.Qbd s n):n=Pl.Qba a b c d e f:=by
 have hb:=Qd6 h.1;have h1:=hb.kind;have h2:=hb.links;have h3:=hb.size;have h4:=hb.depth;have h5:=hb.many;obtain⟨q1,q2,q3,q4,q5,q6⟩:=QdN hr h;unfold Pl.Qba;rw[q1,q2,q3,q4,q5,q6];obtain⟨kind,links,size,root,depth,many⟩:=n
 grind
def QjP{s:List UInt8}{m n:Pl.Node}(hm:Pl.Qbd s m)(hn:Pl.Qbd s n):m=n:=
 (QhL hm.2 hm).trans (QhL hm.2 hn).symm
def ng_is{s:List UInt8}{n:Pl.Node}(h:Pl.Qbd s n):Pl.ng s=(n,true):=by
 unfold Pl.ng;have hx: ∃p,Pl.Qbd s p:=⟨n,h⟩;rw[dif_pos hx,QjP (AG hx) h]
theorem QkT{s:List UInt8}(h: ∀p,¬Pl.Qbd s p):Pl.ng s=(Pl.zn,false):=by
 unfold Pl.ng
 grind
theorem Qf5(s:List UInt8):Pl.Qbd s (Pl.ng s).1/\(Pl.ng s).2=true∨Pl.ng s=(Pl.zn,false):=by
 unfold Pl.ng;split
 ·grind
 grind
def QpR{s:List UInt8}{l:List (List UInt8)}(h:Pl.IsRec s (x::l)):s≠[]:=by
 rintro rfl;have:=h.2.2;rw[Pl.Qef] at this;exact Pl.QeK x (List.append_eq_nil_iff.1 this).1
def QtF{s d e g:List UInt8}(hr:Pl.IsRec s [a,b,c,d,e,f,g]):Pl.ng s=if Pl.Qaf (Pl.Qba a b c d e f)=s then(Pl.Qba a b c d e f,true) else(Pl.zn,false):=by
 have hs:=QpR hr;split
 ·rename_i h;exact ng_is ((Qjj hs).2 h)
 ·rename_i h
  refine QkT fun p hp=>h ?_
  rw[<-QhL hr hp];exact(Qjj hs).1 hp
def Qhw{s:List UInt8}(h:(Pl.rg s).2=false∨(Pl.rg s).1.length≠7):Pl.ng s=(Pl.zn,false):=by
 refine QkT fun p hp=>?_
 rw[rg_is hp.2] at h;rcases h with h|h
 ·cases h
 ·exact h rfl
theorem Qng(s:List UInt8):Pl.IsRec s (Pl.rg s).1/\(Pl.rg s).2=true∨Pl.rg s=([],false):=by
 unfold Pl.rg;split
 ·grind
 grind
theorem QhM(s:List UInt8):NodeB (Pl.ng s).1∨(Pl.ng s).1=Pl.zn:=by
 rcases Qf5 s with h|h
 ·exact .inl (Qd6 h.1.1)
 grind
def Pl.cut0(s:List UInt8):List UInt8:=(s.reverse.dropWhile (· ==0)).reverse
def QnN:Pl.cut0 []=[]:=rfl
theorem Qix(s:List UInt8)(c:UInt8):Pl.cut0 (s++[c])=if c==0 then Pl.cut0 s else s++[c]:=by
 unfold Pl.cut0;rw[List.reverse_append,List.reverse_singleton,AW,List.dropWhile_cons]
 grind
theorem Qry(s:List UInt8):Pl.cut0 s=s↔s.getLast? ≠some 0:=by
 rcases AX s with rfl|⟨l,c,rfl⟩
 ·simp[QnN]
 ·rw[AY,Qix]
  by_cases h:c=0
  ·subst h
   simp only[beq_self_eq_true,if_true,List.getLast?_append,List.getLast?_singleton,Option.some_or,ne_eq,not_true_eq_false,iff_false];intro h;have h1:(Pl.cut0 l).length<=l.length:=by unfold Pl.cut0;rw[List.length_reverse];exact Ab (List.dropWhile_sublist _).length_le (by simp)
   grind
  ·simp[h]
abbrev Pl.Ent:=List UInt8×Int
abbrev rEnt(e:Pl.Ent):List D:=[dS e.1,dI e.2]
def Pl.Qas(s:List UInt8):Bool:=s.all (fun c=>decide (97<=c.toNat)&&decide (c.toNat<=122))&&decide (1<=s.length)&&decide (s.length<=4)
def Pl.QaY(l:List Pl.Ent)(i:Nat):Bool:=Pl.Qas (l.getD i ([],0)).1&&Pl.inR (l.getD i ([],0)).2 1 15&&(decide (i=0)||A3 (l.getD (i -1) ([],0)).1 (l.getD i ([],0)).1)
def Pl.Qam(l:List Pl.Ent):Bool:=(A7 l.length).all (Pl.QaY l)&&decide (l.length<=12)
def Pl.QaD(e:Pl.Ent):List UInt8:=e.1++61::Pl.dec e.2.toNat
def Pl.Qah(l:List Pl.Ent):List UInt8:=l.flatMap fun e=>Pl.QaD e++[59]
def Pl.Qbp(s:List UInt8)(l:List Pl.Ent):Prop:=Pl.Qam l=true/\Pl.Qah l=s
def Pl.eg(s:List UInt8):List Pl.Ent×Bool:=open Classical in if h: ∃l,Pl.Qbp s l then(AQ h,true) else([],false)
def Pl.QaK(x:List UInt8):Option Pl.Ent:=match Pl.cutB 61 x with
 |[a,b]=>some (a,((Pl.numGet b).getD 0:Nat))
 |_=>none
def ent_b{l:List Pl.Ent}(h:Pl.Qam l=true): ∀e∈l,Pl.Qas e.1=true/\1<=e.2/\e.2<=15:=by
 intro e he;unfold Pl.Qam at h;rw[A6,AC] at h;obtain⟨i,hi,rfl⟩:=List.getElem_of_mem he;have:=h.1 i (AZ.2 hi);unfold Pl.QaY at this;rw[A1,A0 hi] at this;simp only[AD,A6] at this;refine⟨this.1.1,?_⟩;have h2:=this.1.2;simp[Pl.inR] at h2;omega
theorem Qf6{s:List UInt8}{c:UInt8}(h:Pl.Qas s=true)(hc:c.toNat<97):c∉s:=by
 intro hm;unfold Pl.Qas at h
 grind
def Qgx(n:Nat){c:UInt8}(hc:57<c.toNat):c∉Pl.dec n:=by
 intro hm;have:=AC.1 (Pl.Qfp n) c hm;have:=(Pl.QdV c).1 this;omega
theorem QmC{e:Pl.Ent}(h1:Pl.Qas e.1=true)(h2:1<=e.2/\e.2<=15):Pl.QaK (Pl.QaD e)=some e:=by
 unfold Pl.QaK Pl.QaD;rw[Pl.QcB 61 _ _ (Qf6 h1 (by decide)),Pl.Qd8 61 _ (Qgx _ (by decide))];simp only[Pl.Qcy (show e.2.toNat<1000000000 by omega),AD]
 grind
theorem Qhz: ∀{l:List Pl.Ent},(∀e∈l,Pl.Qas e.1=true/\1<=e.2/\e.2<=15)->Pl.cutB 59 (Pl.Qah l)=l.map Pl.QaD++[[]]
 |[],_=>rfl
 |e::l,h=>by
  have h1:Pl.Qah (e::l)=Pl.QaD e++59::Pl.Qah l:=by simp[Pl.Qah]
  have hn:(59:UInt8)∉Pl.QaD e:=by
   unfold Pl.QaD;intro hm;rcases Ae.1 hm with hm|hm
   ·exact Qf6 (h e A4).1 (by decide) hm
   ·rcases Aj.1 hm with hm|hm
    ·grind
    ·exact Qgx _ (by decide) hm
  rw[h1,Pl.QcB 59 _ _ hn,Qhz fun x hx=>h x (A5 _ hx)];rfl
theorem QfV{s:List UInt8}{l:List Pl.Ent}(h:Pl.Qbp s l):(Pl.cutB 59 s).length=l.length+1/\ ∀(i:Nat) e,l[i]? =some e-> ∃x,(Pl.cutB 59 s)[i]? =some x/\Pl.QaK x=some e:=by
 have hb:=ent_b h.1;rw[<-h.2,Qhz hb];refine⟨by simp,fun i e he=>⟨Pl.QaD e,?_,?_⟩⟩
 ·grind
 ·have:=hb e (A2 he);exact QmC this.1 this.2
variable{m:List Pl.Ent}
theorem Qii{s:List UInt8}{l:List Pl.Ent}(h:Pl.Qbp s l)(hm:m.length+1=(Pl.cutB 59 s).length)(hr: ∀(i:Nat) e,m[i]? =some e-> ∃x,(Pl.cutB 59 s)[i]? =some x/\Pl.QaK x=some e):m=l:=by
 obtain⟨h1,h2⟩:=QfV h;refine List.ext_getElem (by omega) fun i hi hi'=>?_
 obtain⟨x,hx,hx2⟩:=hr i _ (A0 hi);obtain⟨y,hy,hy2⟩:=h2 i _ (A0 hi')
 grind
def QjQ{s:List UInt8}{l:List Pl.Ent}(h:Pl.Qbp s l)(hm:Pl.Qbp s m):m=l:=by
 obtain⟨h1,h2⟩:=QfV hm;exact Qii h (by omega) h2
def eg_is{s:List UInt8}{l:List Pl.Ent}(h:Pl.Qbp s l):Pl.eg s=(l,true):=by
 unfold Pl.eg;have hx: ∃p,Pl.Qbp s p:=⟨l,h⟩;rw[dif_pos hx,QjQ h (AG hx)]
theorem QnD{s:List UInt8}(h: ∀p,¬Pl.Qbp s p):Pl.eg s=([],false):=by
 unfold Pl.eg
 grind
theorem QnE(s:List UInt8):Pl.Qbp s (Pl.eg s).1/\(Pl.eg s).2=true∨Pl.eg s=([],false):=by
 unfold Pl.eg;split
 ·grind
 grind
def Qrg{s:List UInt8}(hm:m.length+1=(Pl.cutB 59 s).length)(hr: ∀(i:Nat) e,m[i]? =some e-> ∃x,(Pl.cutB 59 s)[i]? =some x/\Pl.QaK x=some e):
 Pl.eg s=if Pl.Qam m=true/\Pl.Qah m=s then(m,true) else([],false):=by
 split
 ·rename_i h;exact eg_is h
 ·rename_i h
  refine QnD fun p hp=>h ?_
  rw[Qii hp hm hr];exact hp
theorem eg_bad{s:List UInt8}{k:Nat}(hk:k+1<(Pl.cutB 59 s).length)(hx:(Pl.cutB 59 s)[k]? =some x)(h:Pl.QaK x=none):Pl.eg s=([],false):=by
 refine QnD fun p hp=>?_
 obtain⟨h1,h2⟩:=QfV hp;obtain⟨y,hy,hy2⟩:=h2 k _ (A0 (show k<p.length by omega))
 grind
theorem Qpx(s:List UInt8)(hs:s.length<=Pm.big):Pure A8 75 [dS s] (.tup [tStrs (Pl.rg s).1,dB (Pl.rg s).2]):=by
 simp only[Pm.big] at hs;refine kB ?_
 repeat refine kA ?_
 refine QbS (fun m st=> ∃(k g:Nat) (out:List (List UInt8)),k<=s.length/\m=s.length -k/\AN (s=Pl.enc out++s.drop k)/\AN (∀x∈out,x.length<=2048)/\out.length<=k/\
  st=⟨92,[(4,.osl 0 g 0 out.length),(5,.d (dI k)),(0,.d (dS s))],[.arr g 1 9 (out.map fun s=>[dS s])]⟩) [4,5,0] 1 s.length ⟨0,0,[],by omega,rfl,Pm.hid rfl,Pm.hid (by simp),by simp,rfl⟩ (round:=?_)
 rintro m st ⟨k,g,out,hk,rfl,hO,hX,hlen,rfl⟩
 by_cases h20:s.length<=2048/\k<s.length
 rotate_left
 ·have hA: ∀x∈out,x.length<=Pm.big:=fun x hx=>by have:=hX.out x hx;unfold Pm.big;omega
  have c:=(Qj3 out (by unfold Pm.big;omega) hA).arg (l:=[tStrs out])
  have hr:AN (Pl.rg s=if(Pl.Qce out).isSome=true/\(Pl.Qce out).getD []=s then(out,true) else([],false)):=by
   refine Pm.hid ?_;split
   ·rename_i h
    obtain⟨t,ht⟩:=Option.isSome_iff_exists.1 h.1;rw[ht] at h;exact rg_is (by rw[<-Pl.QfK,ht];exact congrArg some h.2)
   ·rename_i h
    refine QhG fun l hl=>h ?_
    have hk2:k=s.length:=by have:=hl.2.1;omega
    have ho:=hO.out;rw[hk2,List.drop_length,AM] at ho;have:l=out:=Pl.Qre (hl.2.2.trans ho);subst this;rw[Pl.QfK.2 hl];exact⟨rfl,rfl⟩
  generalize (Pl.Qce out).getD []=t at*;generalize (Pl.Qce out).isSome=ok at*;clear hA hX hO
  repeat' first|refine kA ?_|refine kV ?_ ?_<;>intro q|fail
  ·exfalso;simp at*;omega
  all_goals
   refine Qdl 0 (h:=?_)
   repeat' first|refine kA ?_|refine kV ?_ ?_<;>intro q|fail
   all_goals
    (first|refine QbQ (hx:=?_)|(refine QbP 1 (h:=?_);refine QbQ (hx:=?_)))
    rw[hr.out]
    simp_all
 obtain⟨h20,hlt⟩:=h20;obtain⟨n,m,hq⟩: ∃n m,Pl.l1num (s.drop k)=(n,m):=⟨_,_,rfl⟩;have c:=al1Num (s.drop k) (by rw[AA];unfold Pm.big;omega);have hle:=Pl.QsG (s.drop k);have hn9:=Pl.QsF (s.drop k);rw[hq] at c hle hn9;simp only[AA] at hle hn9;obtain⟨b,hb⟩: ∃b,b=(s.drop k).getD m 0:=⟨_,rfl⟩;have hb1:k+m<s.length->(s.drop k)[m]? =some b:=fun h=>by rw[hb,A1,A0 (by rw[AA];omega)];rfl
 have hb2:AN (k+m<s.length->s[((k:Int)+(m:Int)).toNat]? =some b):=fun h=>by
  have:=hb1 h;rw[List.getElem?_drop] at this;exact this
 have hb3:((b.toNat:Nat):Int)=58↔b=58:=⟨fun h=>Af.1 (by have:((58:UInt8).toNat:Int)=58:=rfl;omega),fun h=>by rw[h];rfl⟩
 have F:AN ((m=0∨s.length<=k+m∨((b.toNat:Nat):Int)≠58∨s.length -k -m -1<n)->Pl.rg s=([],false)):=fun h=>by
  refine QhG (Pl.QpU h20 hlt hO.out hq ?_)
  by_cases h1:m=0
  ·exact .inl h1
  by_cases h2:s.length<=k+m
  ·exact .inr (.inl (by rw[AH (by rw[AA];omega)];simp))
  refine .inr ?_;rw[hb1 (by omega),AA]
  by_cases h3:b=58
  ·exact .inr (by have h4:=hb3.2 h3;omega)
  ·exact .inl (by simpa using h3)
 have T:AN (0<m->k+m<s.length->((b.toNat:Nat):Int)=58->n<=s.length -k -m -1->s=Pl.enc (out++[(s.drop (k+m+1)).take n])++s.drop (k+m+1+n)):=fun h1 h2 h3 h4=>by
  exact Pl.QpT hO.out hq h1 (by rw[hb1 h2,hb3.1 h3]) (by rw[AA];omega)
 clear hO hq hb hb1 hb3
 repeat' first|refine kS ?_|refine qS (Qew rfl rfl rfl (by omega) (by omega)) ?_|refine qS (Qdn Ty.h rfl rfl rfl (by omega) (hb2.out (by simp only[decide_eq_true_eq,decide_eq_false_iff_not,beq_eq_false_iff_ne] at*;omega))) ?_|refine qS (Qf7 rfl rfl rfl rfl (by omega) (by omega) (by simp only[decide_eq_true_eq,decide_eq_false_iff_not,beq_eq_false_iff_ne] at*;omega)) ?_|refine Qci Ty.h rfl Ty.h (hb:=?_) (kk:=?_)|refine kU ?_|refine kV ?_ ?_<;>intro q|fail
 all_goals first|exfalso;simp only[decide_eq_true_eq,decide_eq_false_iff_not,beq_eq_false_iff_ne] at*;omega|simp;omega|((refine QbP 1 (h:=?_);refine QbQ (hx:=?_));rw[F.out (by simp at*;omega)];rfl)|skip
 have e1:0<m/\k+m<s.length/\((b.toNat:Nat):Int)=58/\n<=s.length -k -m -1:=by simp only[decide_eq_true_eq,decide_eq_false_iff_not,beq_eq_false_iff_ne,bne_eq_false_iff_eq] at*;omega
 obtain⟨e1,e2,e3,e4⟩:=e1;refine QbR (s.length -(k+m+1+n)) (by omega) ⟨k+m+1+n,g+1,out++[(s.drop (k+m+1)).take n],by omega,rfl,Pm.hid (T.out e1 e2 e3 e4),Pm.hid ?_,by simp;omega,?_⟩
 ·intro x hx
  rcases Ae.1 hx with hx|hx
  ·exact hX.out x hx
  ·rw[List.mem_singleton] at hx;subst hx
   rw[AR,AA];omega
 ·have t1:((k:Int)+(m:Int)+1).toNat=k+m+1:=by omega
  have t2:((k:Int)+(m:Int)+1+(n:Int)).toNat=k+m+1+n:=by omega
  have t3:k+m+1+n -(k+m+1)=n:=by omega
  simp[keepE,go_sem,t1,t2,t3,List.drop_take]
end Aw
end
section
namespace Aw
variable{E:Pl.Node->List Pl.Ent×Bool}{ns:List Pl.Node}{p q:List (List UInt8)}
def Pl.QaI(s:Pm.Store)(t:Pl.Tree):Bool:=Pl.Qai s t&&(Pl.Qaa s t).all fun x=>(x==[])||((Pl.ng x).2&&Pl.Qai s (Pl.ng x).1.tree)
def Pl.Qab(s:Pm.Store)(t:Pl.Tree):List Pl.Node:=(Pl.Qaa s t).map fun x=>(Pl.ng x).1
def Pl.QaH(l:List (List UInt8))(k:Nat):Bool:= !(l.getD k []==[])&&(decide (k+1=l.length)||decide ((l.getD k []).length=128))
def Pl.blob(l:List (List UInt8)):List UInt8×Bool:=if(A7 l.length).all (Pl.QaH l) then(l.flatten,true) else([],false)
def Pl.ents(s:Pm.Store)(n:Pl.Node):List Pl.Ent×Bool:=
 if Pl.Qar n&&(n.kind==2)&&Pl.Qai s n.tree&&(Pl.blob (Pl.Qaa s n.tree)).2&&decide (((Pl.blob (Pl.Qaa s n.tree)).1.length:Int)=n.size) then Pl.eg (Pl.blob (Pl.Qaa s n.tree)).1 else([],false)
def Pl.long(size:Int)(k:Nat):Int:=if size -k*12<12 then size -k*12 else 12
def Pl.QaP(size:Int)(l:List (List UInt8))(k:Nat):Bool:=decide (((l.getD k []).length:Int)<=Pl.long size k)&&(Pl.cut0 (l.getD k [])==l.getD k [])
def Pl.QaE(s:Pm.Store)(n:Pl.Node):Bool:=
 Pl.Qar n&&(n.kind==1)&&Pl.Qai s n.tree&&(A7 n.tree.many.toNat).all (Pl.QaP n.size (Pl.Qaa s n.tree))
abbrev Pl.Fnd:=List (List UInt8)×Int
def Pl.Qa5(p:List (List UInt8)):List UInt8:=if p=[] then [47] else p.flatMap (47:: ·)
abbrev rFnd(x:Pl.Fnd):List D:=[dS (Pl.Qa5 x.1),dI x.2]
def Pl.wk(ns:List Pl.Node)(E:Pl.Node->List Pl.Ent×Bool):Nat->Pl.Fnd->List Pl.Fnd->List Pl.Fnd×Bool
 |0,_,out=>(out,false)
 |n+1,at',out=>
  if 144<out.length+1∨Pl.inR at'.2 0 (ns.length -1)=false∨(ns.getD at'.2.toNat Pl.zn).kind=0 then(out++[at'],false) else
  if(ns.getD at'.2.toNat Pl.zn).kind=1 then(out++[at'],true) else
  (E (ns.getD at'.2.toNat Pl.zn)).1.foldl (fun r e=>if r.2 then Pl.wk ns E n (at'.1++[e.1],e.2) r.1 else r) (out++[at'],(E (ns.getD at'.2.toNat Pl.zn)).2)
def Pl.wks(ns:List Pl.Node)(E:Pl.Node->List Pl.Ent×Bool)(n:Nat)(p:List (List UInt8))(l:List Pl.Ent)(r:List Pl.Fnd×Bool):List Pl.Fnd×Bool:=
 l.foldl (fun r e=>if r.2 then Pl.wk ns E n (p++[e.1],e.2) r.1 else r) r
def QgU(ns:List Pl.Node)(E:Pl.Node->List Pl.Ent×Bool)(n:Nat)(p:List (List UInt8)): ∀(l:List Pl.Ent) (out:List Pl.Fnd),Pl.wks ns E n p l (out,false)=(out,false)
 |[],_=>rfl
 |e::l,out=>by unfold Pl.wks;rw[List.foldl_cons];exact QgU ns E n p l out
theorem Qe8(ns:List Pl.Node)(E:Pl.Node->List Pl.Ent×Bool)(n:Nat)(p:List (List UInt8))(e:Pl.Ent)(l:List Pl.Ent)(out:List Pl.Fnd):Pl.wks ns E n p (e::l) (out,true)=Pl.wks ns E n p l (Pl.wk ns E n (p++[e.1],e.2) out):=by
 unfold Pl.wks;grind
def Qp3(ns:List Pl.Node)(E:Pl.Node->List Pl.Ent×Bool): ∀(n:Nat) (x:Pl.Fnd) (out:List Pl.Fnd),out.length<=(Pl.wk ns E n x out).1.length/\(0<n->out.length<(Pl.wk ns E n x out).1.length)
 |0,x,out=>⟨AO _,fun h=>absurd h (by decide)⟩
 |n+1,x,out=>by
  have hf: ∀(l:List Pl.Ent) (r:List Pl.Fnd×Bool),r.1.length<=(Pl.wks ns E n x.1 l r).1.length:=by
   intro l;induction l with
   |nil=>intro r;exact AO _
   |cons e l ih=>
    rintro⟨o,b⟩;cases b
    ·rw[QgU];omega
    ·rw[Qe8];exact Ab (Qp3 ns E n _ o).1 (ih _)
  have h:out.length<(Pl.wk ns E (n+1) x out).1.length:=by
   unfold Pl.wk;split
   ·simp
   ·split
    ·simp
    ·exact Nat.lt_of_lt_of_le (by simp) (hf _ _)
  omega
def Pl.Qak(ns:List Pl.Node)(k:Nat):Nat:=(ns.getD k Pl.zn).kind.toNat
def Pl.enF(ns:List Pl.Node)(E:Pl.Node->List Pl.Ent×Bool)(k:Nat):Option Gr.En:=if(E (ns.getD k Pl.zn)).2 then some ((E (ns.getD k Pl.zn)).1.map fun e=>(e.1,e.2.toNat)) else none
structure Pl.NsOk(ns:List Pl.Node)(E:Pl.Node->List Pl.Ent×Bool):Prop where
 kind: ∀n∈ns,n.kind=0∨n.kind=1∨n.kind=2
 ids: ∀n,∀e∈(E n).1,0<=e.2
def Qdj(h:Pl.NsOk ns E)(k:Nat):(ns.getD k Pl.zn).kind=0∨(ns.getD k Pl.zn).kind=1∨(ns.getD k Pl.zn).kind=2:=by
 rw[A1];cases hk:ns[k]? with
 |none=>exact .inl rfl
 |some n=>exact h.kind n (A2 hk)
def QcA{k:Nat}(h:Pl.Qak ns k≠0):k<ns.length:=by
 rcases Al k ns.length with h1|h1
 ·exact h1
 ·exfalso;apply h
  unfold Pl.Qak;rw[A1,AH h1];rfl
def Pl.itOf(x:Gr.It):Pl.Fnd:=(x.1,(x.2:Int))
theorem Qsa(hN:Pl.NsOk ns E){r L:List Gr.It}(h:Gr.FP (Pl.Qak ns) (Pl.enF ns E) r L):
 ∀(n:Nat) (p:List (List UInt8)) (l:List Pl.Ent) (out:List Pl.Fnd),(∀e∈l,0<=e.2)->r=l.map (fun e=>(p++[e.1],e.2.toNat))->out.length+L.length<=144->145<=out.length+n->Pl.wks ns E n p l (out,true)=(out++L.map Pl.itOf,true):=by
 induction h with
 |nil=>
  intro n p l out h0 hr _ _;cases l with
  |nil=>simp[Pl.wks]
  |cons e l=>cases hr
 |@file p' k r L hk h ih=>
  intro n p l out h0 hr hl hn;cases l with
  |nil=>cases hr
  |cons e l=>
   simp only[Aa,AL,Ak] at hr;obtain⟨⟨rfl,rfl⟩,rfl⟩:=hr;have he:=h0 e A4;rw[AI] at hl;obtain⟨n,rfl⟩: ∃m,n=m+1:=⟨n -1,by omega⟩;have hlt:=QcA (k:=e.2.toNat) (ns:=ns) (by omega);have hkind:(ns.getD e.2.toNat Pl.zn).kind=1:=by unfold Pl.Qak at hk;omega
   have hw:Pl.wk ns E (n+1) (p++[e.1],e.2) out=(out++[(p++[e.1],e.2)],true):=by
    unfold Pl.wk;rw[if_neg,if_pos hkind];simp only[Pl.inR,hkind];simp;omega
   rw[Qe8,hw,ih (n+1) p l _ (fun e h=>h0 e (A5 _ h)) rfl (by simp;omega) (by simp;omega)];simp[Pl.itOf];omega
 |@dir p' k es r L1 L2 hk hes h1 h2 ih1 ih2=>
  intro n p l out h0 hr hl hn;cases l with
  |nil=>cases hr
  |cons e l=>
   simp only[Aa,AL,Ak] at hr;obtain⟨⟨rfl,rfl⟩,rfl⟩:=hr;have he:=h0 e A4;rw[AI,AF] at hl;obtain⟨n,rfl⟩: ∃m,n=m+1:=⟨n -1,by omega⟩;have hlt:=QcA (k:=e.2.toNat) (ns:=ns) (by omega);have hkind:(ns.getD e.2.toNat Pl.zn).kind=2:=by unfold Pl.Qak at hk;omega
   unfold Pl.enF at hes;split at hes;rotate_left
   ·cases hes
   rename_i hE;obtain rfl:=AE hes
   have hw:Pl.wk ns E (n+1) (p++[e.1],e.2) out=Pl.wks ns E n (p++[e.1]) (E (ns.getD e.2.toNat Pl.zn)).1 (out++[(p++[e.1],e.2)],true):=by
    rw[<-hE]
    conv=>lhs;unfold Pl.wk
    rw[if_neg,if_neg]
    ·rfl
    ·grind
    ·simp only[Pl.inR,hkind]
     simp;omega
   rw[Qe8,hw,ih1 n (p++[e.1]) _ _ (hN.ids _) (by simp[Gr.kids]) (by simp;omega) (by simp;omega),ih2 (n+1) p l _ (fun e h=>h0 e (A5 _ h)) rfl (by simp;omega) (by simp;omega)];simp[Pl.itOf];omega
theorem QsW(hN:Pl.NsOk ns E): ∀(n:Nat) (l:List Pl.Ent) (p:List (List UInt8)) (out:List Pl.Fnd),(∀e∈l,0<=e.2)->(Pl.wks ns E n p l (out,true)).2=true->
 ∃L,Gr.FP (Pl.Qak ns) (Pl.enF ns E) (l.map fun e=>(p++[e.1],e.2.toNat)) L/\Pl.wks ns E n p l (out,true)=(out++L.map Pl.itOf,true)/\(out.length<=144->out.length+L.length<=144):=by
 intro n;induction n with
 |zero=>
  intro l p out h0 h;cases l with
  |nil=>exact⟨[],.nil,by simp[Pl.wks],by simp⟩
  |cons e l=>rw[Qe8] at h;unfold Pl.wk at h;rw[QgU] at h;cases h
 |succ n ihn=>
  intro l;induction l with
  |nil=>intro p out h0 h;exact⟨[],.nil,by simp[Pl.wks],by simp⟩
  |cons e l ihl=>
   intro p out h0 h;have he:=h0 e A4;rw[Qe8] at h⊢
   have hw: ∃M,Gr.FP (Pl.Qak ns) (Pl.enF ns E) [(p++[e.1],e.2.toNat)] M/\Pl.wk ns E (n+1) (p++[e.1],e.2) out=(out++M.map Pl.itOf,true)/\out.length+M.length<=144:=by
    have hb:(Pl.wk ns E (n+1) (p++[e.1],e.2) out).2=true:=by
     cases hx:Pl.wk ns E (n+1) (p++[e.1],e.2) out with
     |mk o b=>
      cases b
      ·rw[hx,QgU] at h;cases h
      ·rfl
    unfold Pl.wk at hb⊢;split at hb
    ·cases hb
    rename_i hc;rw[if_neg hc];simp only[not_or] at hc;obtain⟨c1,c2,c3⟩:=hc;split at hb
    ·rename_i hk
     rw[if_pos hk];refine⟨[(p++[e.1],e.2.toNat)],.file (by unfold Pl.Qak;grind) .nil,?_,by simp;omega⟩;simp[Pl.itOf];omega
    ·rename_i hk
     rw[if_neg hk]
     have hk2:(ns.getD e.2.toNat Pl.zn).kind=2:=by
      have c3': ¬(ns.getD e.2.toNat Pl.zn).kind=0:=c3;have hk': ¬(ns.getD e.2.toNat Pl.zn).kind=1:=hk;rcases Qdj hN e.2.toNat with h|h|h<;>omega
     generalize hEe:E (ns.getD e.2.toNat Pl.zn)=Ee at hb⊢;obtain⟨es,ok⟩:=Ee;cases ok
     ·change (Pl.wks ns E n (p++[e.1]) es (out++[(p++[e.1],e.2)],false)).2=true at hb
      rw[QgU] at hb;cases hb
     ·obtain⟨L1,g1,g2,g3⟩:=ihn es (p++[e.1]) (out++[(p++[e.1],e.2)]) (fun x hx=>hN.ids (ns.getD e.2.toNat Pl.zn) x (by grind)) hb
      have g3:=g3 (by simp;omega);refine⟨(p++[e.1],e.2.toNat)::(L1++[]),.dir (es:=es.map fun e=>(e.1,e.2.toNat)) (by unfold Pl.Qak;omega) ?_ ?_ .nil,?_,?_⟩
      ·unfold Pl.enF;grind
      ·unfold Gr.kids;rw[AS];exact g1
      ·refine Eq.trans g2 ?_
       simp[Pl.itOf];omega
      grind
   obtain⟨M,m1,m2,m3⟩:=hw;rw[m2] at h⊢;obtain⟨L,g1,g2,g3⟩:=ihl p _ (fun e h=>h0 e (A5 _ h)) h;have g3:=g3 (by simp;omega);refine⟨M++L,?_,by grind,fun _=>by grind⟩;cases m1 with
   |file hk hz=>cases hz;exact .file hk g1
   |dir hk he h1 hz=>cases hz;rw[AM];exact .dir hk he h1 g1
def Pl.Qae(s:List UInt8):Option (List (List UInt8)):=
 if s=[47] then some [] else if s.head? =some 47/\(Pl.cutB 47 s).tail.all Pl.Qas=true/\(Pl.cutB 47 s).tail.length<=4 then some (Pl.cutB 47 s).tail else none
def QdC(b:UInt8)(r:List UInt8):Pl.cutB b (b::r)=[]::Pl.cutB b r:=Pl.QcB b [] r (by simp)
theorem QnM(b:UInt8)(r:List UInt8): ∀a:List UInt8,Pl.cutB b (a++b::r)=Pl.cutB b a++Pl.cutB b r
 |[]=>by rw[List.nil_append,QdC];rfl
 |c::a=>by
  have ih:=QnM b r a
  by_cases h:c=b
  ·subst h;rw[AJ,QdC,QdC,ih];rfl
  ·have hc: ∀s,Pl.cutB b (c::s)=match Pl.cutB b s with|x::l=>(c::x)::l|[]=>[[c]]:=fun s=>by
    conv=>lhs;unfold Pl.cutB
    grind
   rw[AJ,hc,hc,ih];cases hx:Pl.cutB b a with
   |nil=>exact absurd hx (Pl.Qfr b a)
   |cons x l=>rfl
def QkF: ∀(p:List (List UInt8)),(∀n∈p,(47:UInt8)∉n)->Pl.cutB 47 (p.flatMap (47:: ·))=[]::p
 |[],_=>rfl
 |n::q,h=>by
  have ih:=QkF q fun x hx=>h x (A5 _ hx)
  rw[Ac,AJ,QdC]
  congr 1
  cases q with
  |nil=>rw[List.flatMap_nil,AM];exact Pl.Qd8 47 n (h n A4)
  |cons m q=>
   rw[Ac,AJ] at ih⊢;rw[QdC] at ih;rw[Pl.QcB 47 n _ (h n A4),List.tail_eq_of_cons_eq ih]
def Pl.Qb7(p:List (List UInt8)):Prop:= ∀n∈p,(47:UInt8)∉n/\n≠[]
def QhP(h: ∀n∈p,Pl.Qas n=true):Pl.Qb7 p:=fun n hn=>⟨Qf6 (h n hn) (by decide),by
 rintro rfl;have:=h [] hn;simp[Pl.Qas] at this⟩
def Qep(h:Pl.Qb7 p)(hp:p≠[]):Pl.cutB 47 (Pl.Qa5 p)=[]::p:=by
 unfold Pl.Qa5;rw[if_neg hp];exact QkF p fun n hn=>(h n hn).1
def Qeo(h:Pl.Qb7 p):Pl.Qa5 p=[47]↔p=[]:=by
 constructor
 ·intro hs
  cases p with
  |nil=>rfl
  |cons n q=>
   have h1:=Qep h (by simp);rw[hs] at h1;have h2:Pl.cutB 47 [47]=[[],[]]:=by decide
   rw[h2] at h1;simp only[AL,true_and] at h1;exact absurd h1.1.symm (h n A4).2
 ·rintro rfl;rfl
theorem QpI(hp:Pl.Qb7 p)(hq:Pl.Qb7 q)(h:Pl.Qa5 p=Pl.Qa5 q):p=q:=by
 by_cases h1:p=[]
 ·subst h1
  exact((Qeo hq).1 h.symm).symm
 ·by_cases h2:q=[]
  ·subst h2;exact(Qeo hp).1 h
  ·have:=Qep hp h1
   rw[h,Qep hq h2] at this
   grind
theorem Qow(p:List (List UInt8))(n:List UInt8):Pl.Qa5 (p++[n])=if p=[] then 47::n else Pl.Qa5 p++47::n:=by
 unfold Pl.Qa5
 simp_all
theorem Qeb{s:List UInt8}:Pl.Qae s=some p↔(p.all Pl.Qas=true/\p.length<=4/\Pl.Qa5 p=s):=by
 unfold Pl.Qae;constructor
 ·intro h
  split at h
  ·rename_i hs;obtain rfl:=AE h;exact⟨rfl,by simp,hs.symm⟩
  ·split at h
   ·rename_i hs
    obtain rfl:=AE h;refine⟨hs.2.1,hs.2.2,?_⟩;cases s with
    |nil=>cases hs.1
    |cons c r=>
     obtain rfl:c=47:=by grind
     rw[QdC,Ai];unfold Pl.Qa5;rw[if_neg (Pl.Qfr 47 r)];have hj:=Pl.Qgy 47 r
     have hg: ∀l:List (List UInt8),l≠[]->l.flatMap (47:: ·)=47::(l.intersperse [47]).flatten:=by
      intro l;induction l with
      |nil=>grind
      |cons a l ih=>
       intro _;cases l with
       |nil=>simp
       |cons b l=>
        simp_all
     rw[hg _ (Pl.Qfr 47 r),hj]
   ·cases h
 ·rintro⟨h1,h2,rfl⟩
  have hP:=QhP fun n hn=>AC.1 h1 n hn
  by_cases hp:p=[]
  ·subst hp;rfl
  ·have hh:(Pl.Qa5 p).head? =some 47:=by
    unfold Pl.Qa5;rw[if_neg hp];cases p with
    |nil=>grind
    |cons n q=>rfl
   rw[if_neg (fun e=>hp ((Qeo hP).1 e)),Qep hP hp,Ai,if_pos ⟨hh,h1,h2⟩]
theorem pre_iff(hq:Pl.Qb7 q)(hp:Pl.Qb7 p):(q=[]∨Pl.Qa5 p=Pl.Qa5 q∨Pl.Qa5 q++[47]<+:Pl.Qa5 p)↔q<+:p:=by
 constructor
 ·rintro(rfl|h|⟨r,h⟩)
  ·grind
  ·rw[QpI hp hq h];grind
  ·by_cases h0:q=[]
   ·grind
   ·have h1:p≠[]:=by
     rintro rfl;have:=congrArg List.length h;rw[show Pl.Qa5 []=[47] from rfl] at this;simp at this;have h2:Pl.Qa5 q=[]:=List.eq_nil_of_length_eq_zero (by omega);unfold Pl.Qa5 at h2;rw[if_neg h0] at h2;cases q with
     |nil=>grind
     |cons n q=>cases h2
    have h2:=Qep hp h1;rw[<-h,List.append_assoc,AW,QnM,Qep hq h0] at h2
    grind
 ·rintro⟨r,rfl⟩
  by_cases h0:q=[]
  ·grind
  ·by_cases h1:r=[]
   ·grind
   ·refine .inr (.inr ?_)
    unfold Pl.Qa5;rw[if_neg h0,if_neg (by simp[h0]),List.flatMap_append];cases r with
    |nil=>grind
    |cons n r=>simp
def Pl.QaJ(f:Nat->Int):Nat->Int
 |0=>0
 |n+1=>Pl.QaJ f n+f n
def QeC{f g:Nat->Int}: ∀{n:Nat},(∀k,k<n->f k=g k)->Pl.QaJ f n=Pl.QaJ g n
 |0,_=>rfl
 |n+1,h=>by unfold Pl.QaJ;rw[QeC fun k hk=>h k (by omega),h n (by omega)]
theorem Qk8{f:Nat->Int}{l:List Nat}{k:Nat}(hl:k∉l): ∀{n:Nat},Pl.QaJ (fun i=>if i∈l++[k] then f i else 0) n=Pl.QaJ (fun i=>if i∈l then f i else 0) n+if k<n then f k else 0
 |0=>by simp[Pl.QaJ]
 |n+1=>by
  have ih:=Qk8 (f:=f) hl (n:=n);show Pl.QaJ (fun i=>if i∈l++[k] then f i else 0) n+(if n∈l++[k] then f n else 0)=Pl.QaJ (fun i=>if i∈l then f i else 0) n+(if n∈l then f n else 0)+_
  grind
theorem QhC{f:Nat->Int}(c:Int): ∀{n:Nat},(∀k,k<n->0<=f k/\f k<=c)->0<=Pl.QaJ f n/\Pl.QaJ f n<=n*c
 |0,_=>by simp[Pl.QaJ]
 |n+1,h=>by
  have:=QhC c (n:=n) fun k hk=>h k (by omega)
  have:=h n (by omega);unfold Pl.QaJ
  grind
end Aw
end
section
open Go.RowKit
namespace Aw
attribute [local irreducible] ASeq ADraw AWP Loc
def ptrPut_len(p:Pl.Ptr):(Pl.ptrPut p).length<=Pm.big:=by
 unfold Pl.ptrPut;split
 ·split
  ·decide
  ·unfold Pl.ptrText Pl.dots
   rename_i h _;have hb:=Pl.Qc6 h;have h1:=Pl.QbT 8 p.pat.toNat (by omega);have h2:=Pl.QbT 8 p.birth.toNat (by omega);have h3:=Pl.QbT 8 p.size.toNat (by omega);have h4:=Pl.QbT 8 p.sum.toNat (by omega);have h5:=Pl.QbT 8 p.level.toNat (by omega);simp[List.intersperse,Pm.big];omega
 ·decide
def Qom(n:Pl.Node):Pure A8 57 [dNode n] (dS (Pl.Qaf n)):=by
 have c:=aNodeOk n;have hd:=Pm.hid (Pl.Qaf.eq_def n);cases h:Pl.Qar n
 ·rw[h] at c
  refine kE ?_;refine QbP 0 (h:=?_)
  repeat refine kA ?_
  refine QbQ (hx:=?_);rw[hd.out,h];rfl
 ·rw[h] at c
  have hb:=Qd6 h;have h1:=hb.kind;have h2:=hb.links;have h3:=hb.size;have h4:=hb.depth;have h5:=hb.many;obtain⟨kind,links,size,⟨root,depth,many⟩⟩:=n;simp only at h1 h2 h3 h4 h5;obtain⟨kind,rfl⟩:=A9 (show 0<=kind by omega);obtain⟨links,rfl⟩:=A9 (show 0<=links by omega);obtain⟨size,rfl⟩:=A9 h3.1;obtain⟨depth,rfl⟩:=A9 h4.1;obtain⟨many,rfl⟩:=A9 h5.1;have e:AN (Pl.Qaf ⟨kind,links,size,⟨root,depth,many⟩⟩=(Pl.Qce [Pl.dec kind,Pl.dec links,Pl.dec size,Pl.ptrPut root,Pl.dec depth,Pl.dec many,[101,110,100]]).getD []):=Pm.hid (by rw[hd.out,h];rfl);have c1:=al6Dec kind (by omega);have c2:=al6Dec links (by omega);have c3:=al6Dec size (by omega);have c4:=al6Dec depth (by omega);have c5:=al6Dec many (by omega);have hl: ∀k,k<=4294967296->(Pl.dec k).length<=Pm.big:=fun k hk=>Ab (Pl.QbT 10 k (by omega)) (by decide)
  have cp:=(Qj3 [Pl.dec kind,Pl.dec links,Pl.dec size,Pl.ptrPut root,Pl.dec depth,Pl.dec many,[101,110,100]] (by simp[Pm.big]) (by
   intro x hx;simp only[Aj,List.not_mem_nil,or_false] at hx;rcases hx with rfl|rfl|rfl|rfl|rfl|rfl|rfl
   ·exact hl _ (by omega)
   ·exact hl _ (by omega)
   ·exact hl _ (by omega)
   ·exact ptrPut_len root
   ·exact hl _ (by omega)
   ·exact hl _ (by omega)
   ·decide)).arg (l:=[tStrs [Pl.dec kind,Pl.dec links,Pl.dec size,Pl.ptrPut root,Pl.dec depth,Pl.dec many,[101,110,100]]])
  have c6:=aPtrPut root;clear hd hb h h1 h2 h3 h4 h5 hl;generalize Pl.Qce [Pl.dec kind,Pl.dec links,Pl.dec size,Pl.ptrPut root,Pl.dec depth,Pl.dec many,[101,110,100]]=r at*;generalize Pl.ptrPut root=rt at*;generalize Pl.dec kind=d1 at*;generalize Pl.dec links=d2 at*;generalize Pl.dec size=d3 at*;generalize Pl.dec depth=d4 at*;generalize Pl.dec many=d5 at*;refine kE ?_;refine QbP 0 (h:=?_)
  repeat' first|refine kS ?_|refine qD (Qfh cK cp rfl) ?_|refine kU ?_|fail
  exact QbQ (hx:=by rw[e.out])
def QpS{s:List UInt8}{l:List (List UInt8)}(h:Pl.IsRec s l): ∀x∈l,x.length<=2048:=by
 intro x hx;obtain⟨a,b,rfl⟩:=List.append_of_mem hx;have h1:=h.2.1;rw[<-h.2.2,Pl.Qe1,Pl.Qef,AF,AF,Pl.QfU] at h1;omega
theorem Qh6(s:List UInt8)(hs:s.length<=Pm.big):Pure A8 37 [dS s] (.tup [dNode (Pl.ng s).1,dB (Pl.ng s).2]):=by
 have c:=Qpx s hs;rcases Qng s with⟨hr,hok⟩|h0;rotate_left
 ·have hn:AN (Pl.ng s=(Pl.zn,false)):=Pm.hid (Qhw (.inl (by rw[h0])))
  rw[h0] at c;refine kC ?_
  repeat refine kA ?_
  (refine QbP 0 (h:=?_);refine Qch (hx:=?_))
  rw[hn.out];rfl
 by_cases h7:(Pl.rg s).1.length=7
 rotate_left
 ·have hn:AN (Pl.ng s=(Pl.zn,false)):=Pm.hid (Qhw (.inr h7))
  rw[hok] at c;generalize (Pl.rg s).1=l at*;clear hr hok;refine kC ?_
  repeat' first|refine kA ?_|refine kV ?_ ?_<;>intro q|fail
  all_goals first|exfalso;simp only[bne_eq_false_iff_eq] at*;omega|((refine QbP 0 (h:=?_);refine Qch (hx:=?_));rw[hn.out];rfl)
 rw[hok] at c;generalize (Pl.rg s).1=l at*
 match l,h7 with
 |[x1,x2,x3,x4,x5,x6,x7],_=>
 have hl:=QpS hr;have hg:=Pm.hid (QtF hr);have cn: ∀x∈[x1,x2,x3,x4,x5,x6,x7],Pure A8 76 [dS x] (.tup [dI ((Pl.numGet x).getD 0:Nat),dB (Pl.numGet x).isSome]):=fun x hx=>aNumGet x (by have:=hl x hx;unfold Pm.big;omega)
 have c1:=cn x1 (by simp);have c2:=cn x2 (by simp);have c3:=cn x3 (by simp);have c5:=cn x5 (by simp);have c6:=cn x6 (by simp);have c4:=aPtrGet x4 (by have:=hl x4 (by simp);omega);have ck:=aNodeOk (Pl.Qba x1 x2 x3 x4 x5 x6);have cp:=Qom (Pl.Qba x1 x2 x3 x4 x5 x6)
 have hp:AN (Pl.Qar (Pl.Qba x1 x2 x3 x4 x5 x6)=false-> ¬Pl.Qaf (Pl.Qba x1 x2 x3 x4 x5 x6)=s):=fun h e=>by
  unfold Pl.Qaf at e;rw[h] at e;exact QpR hr e.symm
 obtain⟨N,hN⟩: ∃N,N=Pl.Qba x1 x2 x3 x4 x5 x6:=⟨_,rfl⟩;rw[<-hN] at ck cp hg hp;unfold Pl.Qba at hN;clear cn hl hr hok;generalize (Pl.numGet x1).getD 0=n1 at*;generalize (Pl.numGet x2).getD 0=n2 at*;generalize (Pl.numGet x3).getD 0=n3 at*;generalize (Pl.numGet x5).getD 0=n5 at*;generalize (Pl.numGet x6).getD 0=n6 at*;generalize (Pl.pg x4).1=pp at*;obtain⟨p1,p2,p3,p4,p5⟩:=pp;generalize Pl.Qar N=ok at*;generalize Pl.Qaf N=t at*;subst hN;refine kC ?_
 repeat' first|refine kS ?_|refine qS (iy rfl) ?_|refine kU ?_|refine kV ?_ ?_<;>intro q|fail
 ·(refine QbP 0 (h:=?_);refine Qch (hx:=?_))
  rw[hg.out,if_neg (hp.out (by simpa using q))];rfl
 ·(refine QbP 0 (h:=?_);refine Qch (hx:=?_))
  rw[hg.out,if_neg (by simpa using q)];rfl
 ·(refine QbP 0 (h:=?_);refine Qch (hx:=?_))
  rw[hg.out,if_pos (by simpa using q)]
end Aw
end
section
namespace Aw
variable{t:Pl.Tree}
def Qfv: ∀x:List UInt8,A3 x x=false
 |[]=>rfl
 |a::x=>by simp[A3,Qfv x]
def bl_cons(a b:UInt8)(x y:List UInt8):A3 (a::x) (b::y)=true↔a<b∨a=b/\A3 x y=true:=by simp[A3]
theorem Qki: ∀{x y z:List UInt8},A3 x y=true->A3 y z=true->A3 x z=true
 |[],[],_,h,_=>by omega
 |[],_::_,[],_,h=>by simp[A3] at h
 |[],_::_,_::_,_,_=>by simp[A3]
 |_::_,[],_,h,_=>by simp[A3] at h
 |_::_,_::_,[],_,h=>by simp[A3] at h
 |a::x,b::y,c::z,h1,h2=>by
  rw[bl_cons] at*;rcases h1 with h1|⟨rfl,h1⟩
  ·grind
  ·rcases h2 with h2|⟨rfl,h2⟩
   ·grind
   ·exact .inr ⟨rfl,Qki h1 h2⟩
theorem QnB{l:List Pl.Ent}(h:Pl.Qam l=true){i:Nat}(hi:i+1<l.length):A3 (l[i]'(by omega)).1 (l[i+1]).1=true:=by
 unfold Pl.Qam at h;rw[A6,AC] at h;have:=h.1 (i+1) (AZ.2 hi);unfold Pl.QaY at this
 grind
theorem Qkb{l:List Pl.Ent}(h:Pl.Qam l=true){i:Nat}: ∀{j:Nat} (hj:j<l.length) (hij:i<j),A3 (l[i]'(by omega)).1 (l[j]).1=true
 |j+1,hj,hij=>by
  by_cases hi:i=j
  ·subst hi;exact QnB h hj
  ·exact Qki (Qkb h (show j<l.length by omega) (by omega)) (QnB h hj)
theorem Qra{l:List Pl.Ent}(h:Pl.Qam l=true):(l.map (·.1)).Nodup:=by
 rw[List.nodup_iff_pairwise_ne,List.pairwise_iff_getElem];intro i j hi hj hij e;simp only[List.getElem_map] at*;have:=Qkb h (show j<l.length by grind) hij;rw[e,Qfv] at this;cases this
theorem QcE(s:Pm.Store)(n:Pl.Node):(Pl.ents s n).2=true/\Pl.Qam (Pl.ents s n).1=true∨Pl.ents s n=([],false):=by
 unfold Pl.ents;split
 ·rcases QnE (Pl.blob (Pl.Qaa s n.tree)).1 with h|h
  ·exact .inl ⟨h.2,h.1.1⟩
  grind
 grind
theorem Qhm(s:Pm.Store)(n:Pl.Node): ∀e∈(Pl.ents s n).1,Pl.Qas e.1=true/\1<=e.2/\e.2<=15:=by
 rcases QcE s n with h|h
 ·exact ent_b h.2
 grind
theorem Qgs{s:Pm.Store}{n:Pl.Node}(h:(Pl.ents s n).2=true):n.kind=2:=by
 unfold Pl.ents at h
 grind
theorem Qev(s:Pm.Store)(t:Pl.Tree)(k:Nat):(Pl.Qab s t).getD k Pl.zn=Pl.zn∨NodeB ((Pl.Qab s t).getD k Pl.zn):=by
 rw[A1];cases h:(Pl.Qab s t)[k]? with
 |none=>grind
 |some n=>
  have hm:=A2 h;unfold Pl.Qab at hm;obtain⟨x,_,rfl⟩:=AT.1 hm;rcases QhM x with h|h
  ·grind
  grind
def nsOk(s:Pm.Store)(t:Pl.Tree):Pl.NsOk (Pl.Qab s t) (Pl.ents s):=by
 refine⟨fun n hn=>?_,fun n e he=>by have:=Qhm s n e he;omega⟩;unfold Pl.Qab at hn;obtain⟨x,_,rfl⟩:=AT.1 hn;rcases QhM x with h|h
 ·exact .inr h.kind
 ·rw[h];exact .inl rfl
def Pl.QaG(ns:List Pl.Node)(k:Nat):Nat:=(ns.getD k Pl.zn).links.toNat
def texts_len(s:Pm.Store)(h:Pl.TGood t):(Pl.Qaa s t).length=t.many.toNat:=by
 unfold Pl.Qaa;rw[Ag,AR,QcH s h.hi];have:=h.manyHi;omega
theorem graph(s:Pm.Store)(ht:Pl.TGood t)(h0:((Pl.Qab s t).getD 0 Pl.zn).kind=2):
 Gr.Nodes (Pl.Qak (Pl.Qab s t)) (Gr.chOf (Pl.enF (Pl.Qab s t) (Pl.ents s))) (Pl.QaG (Pl.Qab s t)) (Pl.Qab s t).length:=by
 have hb: ∀k,Pl.Qak (Pl.Qab s t) k≠0->NodeB ((Pl.Qab s t).getD k Pl.zn):=fun k hk=>by
  rcases Qev s t k with h|h
  ·unfold Pl.Qak at hk;rw[h] at hk;exact absurd rfl hk
  ·exact h
 refine⟨by unfold Pl.Qak;omega,fun k=>?_,fun k hk=>QcA hk,?_,fun k hk=>?_,fun k hk=>?_,fun k cs hc e he=>?_⟩
 ·unfold Pl.Qak
  rcases Qev s t k with h|h
  ·rw[h];decide
  ·have:=h.kind;omega
 ·unfold Pl.Qab;rw[Ag,texts_len s ht];have:=ht.manyHi;omega
 ·have:=(hb k hk).links;unfold Pl.QaG;omega
 ·have h:=hb k (by omega)
  have:=h.one (by unfold Pl.Qak at hk;omega);unfold Pl.QaG;omega
 ·unfold Gr.chOf Pl.enF at hc
  split at hc
  ·simp only[Option.map_some,Am] at hc
   subst hc;rw[AS] at he;obtain⟨x,hx,rfl⟩:=AT.1 he;have:=Qhm s _ x hx
   grind
  ·cases hc
def Pl.QaS(s:Pm.Store)(t:Pl.Tree):List Pl.Fnd×Bool:=Pl.wk (Pl.Qab s t) (Pl.ents s) 145 ([],0) []
def Pl.many(out:List Pl.Fnd)(k:Nat):Nat:=(out.map (·.2)).count (k:Int)
def Pl.Qa6(s:Pm.Store)(ns:List Pl.Node)(out:List Pl.Fnd)(k:Nat):Bool:=
 ((ns.getD k Pl.zn).kind==0||((Pl.many out k:Int)==(ns.getD k Pl.zn).links))&&(!((ns.getD k Pl.zn).kind==1)||Pl.QaE s (ns.getD k Pl.zn))
def Pl.Qav(s:Pm.Store)(t:Pl.Tree):Bool:=
 Pl.QaI s t&&((Pl.Qab s t).getD 0 Pl.zn).kind==2&&(Pl.QaS s t).2&&(A7 (Pl.Qab s t).length).all (Pl.Qa6 s (Pl.Qab s t) (Pl.QaS s t).1)
structure Pl.Files(s:Pm.Store)(t:Pl.Tree):Prop where
 tab:Pl.QaI s t=true
 root:((Pl.Qab s t).getD 0 Pl.zn).kind=2
 file: ∀k,((Pl.Qab s t).getD k Pl.zn).kind=1->Pl.QaE s ((Pl.Qab s t).getD k Pl.zn)=true
 dir: ∀k,((Pl.Qab s t).getD k Pl.zn).kind=2->(Pl.ents s ((Pl.Qab s t).getD k Pl.zn)).2=true
 linked: ∃nm,Gr.bfs (Pl.Qak (Pl.Qab s t)) (Gr.chOf (Pl.enF (Pl.Qab s t) (Pl.ents s))) (1+Gr.left (Pl.Qak (Pl.Qab s t)) (Pl.Qab s t).length []) [0] []=some nm/\
  ∀k,k≠0->Pl.Qak (Pl.Qab s t) k≠0->nm.count k=Pl.QaG (Pl.Qab s t) k
theorem QiY(L:List Gr.It)(k:Nat):Pl.many (L.map Pl.itOf) k=(L.map (·.2)).count k:=by
 unfold Pl.many;rw[AS];induction L with
 |nil=>rfl
 |cons x L ih=>
  simp only[Aa,List.count_cons,ih,Function.comp,Pl.itOf]
  grind
theorem QqG(s:Pm.Store)(h0:((Pl.Qab s t).getD 0 Pl.zn).kind=2)(L:List Gr.It):
 (Pl.QaS s t=(L.map Pl.itOf,true)/\L.length<=144/\Gr.FP (Pl.Qak (Pl.Qab s t)) (Pl.enF (Pl.Qab s t) (Pl.ents s)) [([],0)] L)↔
 (Gr.FP (Pl.Qak (Pl.Qab s t)) (Pl.enF (Pl.Qab s t) (Pl.ents s)) [([],0)] L/\L.length<=144):=by
 constructor
 ·grind
 ·rintro⟨h3,h2⟩
  refine⟨?_,h2,h3⟩;have hN:=nsOk s t;have hlt:0<(Pl.Qab s t).length:=QcA (k:=0) (by unfold Pl.Qak;omega);cases h3 with
  |file hk _=>unfold Pl.Qak at hk;omega
  |@dir _ _ es _ L1 L2 hk hes h1 h4=>
   cases h4;unfold Pl.enF at hes;split at hes;rotate_left
   ·cases hes
   rename_i hE;obtain rfl:=AE hes;rw[AM] at h2⊢;rw[AI] at h2;have:=Qsa hN h1 144 [] (Pl.ents s ((Pl.Qab s t).getD 0 Pl.zn)).1 [([],0)] (hN.ids _) (by simp[Gr.kids]) (by simp;omega) (by simp);unfold Pl.QaS Pl.wk;rw[if_neg,if_neg]
   ·rw[<-hE] at this
    refine Eq.trans this ?_;rw[hE];rfl
   ·grind
   ·show ¬(144<1∨Pl.inR 0 0 _=false∨((Pl.Qab s t).getD 0 Pl.zn).kind=0)
    rw[h0];simp only[Pl.inR];simp;omega
theorem Qgp(s:Pm.Store)(h0:((Pl.Qab s t).getD 0 Pl.zn).kind=2)(h:(Pl.QaS s t).2=true):
 ∃L,Gr.FP (Pl.Qak (Pl.Qab s t)) (Pl.enF (Pl.Qab s t) (Pl.ents s)) [([],0)] L/\L.length<=144/\Pl.QaS s t=(L.map Pl.itOf,true):=by
 have hN:=nsOk s t;unfold Pl.QaS Pl.wk at h⊢;split at h
 ·cases h
 rename_i hc;rw[if_neg hc];split at h
 ·grind
 rename_i hk;rw[if_neg hk]
 change (Pl.wks (Pl.Qab s t) (Pl.ents s) 144 [] (Pl.ents s ((Pl.Qab s t).getD 0 Pl.zn)).1 ([([],0)],(Pl.ents s ((Pl.Qab s t).getD 0 Pl.zn)).2)).2=true at h
 change ∃L,_/\_/\Pl.wks (Pl.Qab s t) (Pl.ents s) 144 [] (Pl.ents s ((Pl.Qab s t).getD 0 Pl.zn)).1 ([([],0)],(Pl.ents s ((Pl.Qab s t).getD 0 Pl.zn)).2)=_
 have hE:(Pl.ents s ((Pl.Qab s t).getD 0 Pl.zn)).2=true:=by
  cases hE:(Pl.ents s ((Pl.Qab s t).getD 0 Pl.zn)).2
  ·rw[hE,QgU] at h;cases h
  ·rfl
 rw[hE] at h⊢;obtain⟨L,g1,g2,g3⟩:=QsW hN 144 _ [] [([],0)] (hN.ids _) h;have g3:=g3 (by simp);refine⟨([],0)::(L++[]),.dir (es:=(Pl.ents s ((Pl.Qab s t).getD 0 Pl.zn)).1.map fun e=>(e.1,e.2.toNat)) (by unfold Pl.Qak;omega) ?_ ?_ .nil,?_,?_⟩
 ·unfold Pl.enF;grind
 ·unfold Gr.kids;rw[AS];exact g1
 ·grind
 ·rw[g2];simp[Pl.itOf]
theorem Qfm(s:Pm.Store)(t:Pl.Tree):Pl.Qav s t=true↔Pl.Files s t:=by
 unfold Pl.Qav;simp only[A6,beq_iff_eq,AC,AZ];have key: ∀(h1:Pl.QaI s t=true) (h2:((Pl.Qab s t).getD 0 Pl.zn).kind=2),_:=fun h1 h2=>Gr.Qsg (graph s (Qcf (by unfold Pl.QaI at h1;rw[A6] at h1;exact h1.1)) h2)
 have hk2: ∀k,Pl.Qak (Pl.Qab s t) k=2↔((Pl.Qab s t).getD k Pl.zn).kind=2:=fun k=>by
  have:=Qdj (nsOk s t) k;unfold Pl.Qak;omega
 have hch: ∀k,(∃cs,Gr.chOf (Pl.enF (Pl.Qab s t) (Pl.ents s)) k=some cs)↔(Pl.ents s ((Pl.Qab s t).getD k Pl.zn)).2=true:=fun k=>by
  unfold Gr.chOf Pl.enF;simp
 constructor
 ·rintro⟨⟨⟨h1,h2⟩,h3⟩,h4⟩
  obtain⟨L,g1,g2,g3⟩:=Qgp s h2 h3;rw[g3] at h4
  have hcount: ∀k,Pl.Qak (Pl.Qab s t) k≠0->(L.map (·.2)).count k=Pl.QaG (Pl.Qab s t) k:=fun k hk=>by
   have:=h4 k (QcA hk);unfold Pl.Qa6 at this;simp only[A6,Bool.or_eq_true,beq_iff_eq] at this;rw[QiY] at this;unfold Pl.Qak at hk;unfold Pl.QaG;omega
  obtain⟨k1,k2⟩:=(key h1 h2).1 ⟨_,g1.fd,by grind,hcount⟩;refine⟨h1,h2,fun k hk=>?_,fun k hk=>(hch k).1 (k1 k ((hk2 k).2 hk)),k2⟩;have:=h4 k (QcA (by unfold Pl.Qak;omega));unfold Pl.Qa6 at this
  grind
 ·rintro⟨h1,h2,h3,h4,h5⟩
  obtain⟨M,m1,m2,m3⟩:=(key h1 h2).2 ⟨fun k hk=>(hch k).2 (h4 k ((hk2 k).1 hk)),h5⟩;obtain⟨L,g1,rfl⟩:=Gr.QsX m1 (r:=[([],0)]) rfl;obtain⟨q1,_,_⟩:=(QqG s h2 L).2 ⟨g1,by grind⟩;rw[q1];refine⟨⟨⟨h1,h2⟩,rfl⟩,fun k hk=>?_⟩;unfold Pl.Qa6;rw[QiY]
  by_cases h0:((Pl.Qab s t).getD k Pl.zn).kind=0
  ·grind
  ·have hkc:=Qdj (nsOk s t) k
   have:=m3 k (by unfold Pl.Qak;omega);rw[this]
   have hB:NodeB ((Pl.Qab s t).getD k Pl.zn):=by
    rcases Qev s t k with h|h
    ·rw[h] at h0;exact absurd rfl h0
    ·exact h
   have hl:=hB.links;have e1:((Pl.QaG (Pl.Qab s t) k:Int)==((Pl.Qab s t).getD k Pl.zn).links)=true:=beq_iff_eq.2 (by unfold Pl.QaG;omega)
   grind
end Aw
end
section
open Go.RowKit
namespace Aw
variable{t:Pl.Tree}
attribute [local irreducible] ASeq ADraw AWP Loc
def al10Cut(s:List UInt8)(hs:s.length<=Pm.big):Pure A8 134 [dS s] (dS (Pl.cut0 s)):=by
 simp only[Pm.big] at hs;refine kB ?_
 repeat refine kA ?_
 refine QbS (fun m st=> ∃r:List UInt8,r.length<=s.length/\m=r.length/\AN (Pl.cut0 r=Pl.cut0 s)/\st=⟨20,[(0,.d (dS r))],[]⟩) [0] 0 s.length ⟨s,AO _,rfl,Pm.hid rfl,rfl⟩ (round:=?_);rintro m st ⟨r,hr,rfl,hC,rfl⟩;rcases AX r with rfl|⟨l,c,rfl⟩
 ·repeat refine kA ?_
  refine QbQ (hx:=?_);rw[<-hC.out];rfl
 rw[AY] at*;have hl:(l++[c]).length=l.length+1:=by simp
 have hi:(((l++[c]).length:Int) -1).toNat=l.length:=by omega
 have hc:(l++[c])[(((l++[c]).length:Int) -1).toNat]? =some c:=by rw[hi];simp
 have T:AN (((c.toNat:Nat):Int)≠0->Pl.cut0 s=l++[c]):=fun h=>by rw[<-hC.out,Qix,if_neg];intro e;apply h;rw[beq_iff_eq] at e;rw[e];rfl
 have F:AN (((c.toNat:Nat):Int)=0->Pl.cut0 l=Pl.cut0 s):=fun h=>by rw[<-hC.out,Qix,if_pos];rw[beq_iff_eq];exact Af.1 (by have:(0:UInt8).toNat=0:=rfl;omega)
 clear hC
 repeat' first|refine kS ?_|refine qS (Qdn Ty.h rfl rfl rfl (by omega) hc) ?_|refine qS (QdS rfl rfl rfl (by omega) (by omega)) ?_|refine kU ?_|refine kV ?_ ?_<;>intro q|fail
 ·simp only[beq_iff_eq,decide_eq_true_eq] at*
  refine QbR l.length (by omega) ⟨l,by omega,rfl,Pm.hid (F.out (by assumption)),?_⟩;simp[keepE,go_sem]
 ·refine QbQ (hx:=?_)
  rw[T.out (by simpa using q)]
 ·exfalso;simp at q
def texts_le(s:Pm.Store)(hg:Pl.Good s)(t:Pl.Tree): ∀x∈Pl.Qaa s t,x.length<=128:=by
 intro x hx;unfold Pl.Qaa at hx;obtain⟨p,_,rfl⟩:=AT.1 hx;exact QhI s hg p
def QlH(s:Pm.Store)(hg:Pl.Good s)(t:Pl.Tree)(ht:Pl.TGood t):Pure A8 18 [dSt s,dTree t] (.sl true 10 ((Pl.Qab s t).map rNode)):=by
 have c:=Qeg s hg t ht;have hl:=texts_len s ht;have hle:=texts_le s hg t;have hm:=ht.manyHi;have hn:AN (Pl.Qab s t=(Pl.Qaa s t).map fun x=>(Pl.ng x).1):=Pm.hid rfl;generalize Pl.Qaa s t=l at*;refine kE ?_;refine QbP 0 (h:=?_);refine QbP 1 (h:=?_)
 repeat refine kA ?_
 refine QbS (fun m st=> ∃(k g:Nat) (out:List Pl.Node),k<=l.length/\m=16 -k/\out.length=k/\AN (out=(l.take k).map fun x=>(Pl.ng x).1)/\
  st=⟨33,[(5,.osl 2 g 0 out.length),(6,.d (tStrs l)),(7,.d (dI k))],[.row 1 [],.row 1 [],.arr g 10 50 (out.map rNode)]⟩) [5,6,7] 3 16 ⟨0,0,[],by omega,rfl,rfl,Pm.hid rfl,rfl⟩ (round:=?_)
 rintro m st ⟨k,g,out,hk,rfl,hlen,hO,rfl⟩
 repeat refine kG ?_
 cases q4:decide ((k:Int)<(l.length:Int))
 ·repeat refine kA ?_
  (refine QbP 2 (h:=?_);refine QbQ (hx:=?_))
  have:k=l.length:=by simp at q4;omega
  rw[hn.out,hO.out,this,AK];simp[AU]
 have hk2:k<l.length:=by simp at q4;omega
 obtain⟨x,hx⟩: ∃x,l[k]? =some x:=⟨_,A0 hk2⟩;have hr:=QbV (f:=fun s=>[dS s]) hx;have cg:=Qh6 x (by have:=hle x (A2 hx);unfold Pm.big;omega);have T:AN ((l.take (k+1)).map (fun x=>(Pl.ng x).1)=out++[(Pl.ng x).1]):=Pm.hid (by rw[AB,hx,hO.out];simp);clear hx hO hle hn;generalize (Pl.ng x).1=N at*;obtain⟨kind,links,size,⟨⟨p1,p2,p3,p4,p5⟩,depth,many⟩⟩:=N
 repeat' first|refine kS ?_|refine qS (iy hr) ?_|refine Qci Ty.h rfl Ty.h (hb:=?_) (kk:=?_)|refine kU ?_|fail
 ·simp;omega
 ·refine QbR (16 -(k+1)) (by omega) ⟨k+1,g+1,out++[⟨kind,links,size,⟨⟨p1,p2,p3,p4,p5⟩,depth,many⟩⟩],by omega,rfl,by simp[hlen],Pm.hid T.out.symm,?_⟩
  simp[keepE,go_sem]
theorem al11Ok(s:Pm.Store)(hg:Pl.Good s)(t:Pl.Tree):Pure A8 72 [dSt s,dTree t] (dB (Pl.QaI s t)):=by
 have c0:=al8Ok s hg t;have hd:AN (Pl.QaI s t=(Pl.Qai s t&&(Pl.Qaa s t).all fun x=>(x==[])||((Pl.ng x).2&&Pl.Qai s (Pl.ng x).1.tree))):=Pm.hid rfl;cases h0:Pl.Qai s t
 ·rw[h0] at c0
  refine kE ?_;refine QbP 0 (h:=?_);refine QbP 1 (h:=?_)
  repeat refine kA ?_
  refine QbQ (hx:=?_);rw[hd.out,h0];rfl
 rw[h0] at c0;have ht:=Qcf h0;have c:=Qeg s hg t ht;have hl:=texts_len s ht;have hle:=texts_le s hg t;have hm:=ht.manyHi;have hm0:=ht.manyLo;have hd2:AN (Pl.QaI s t=(Pl.Qaa s t).all fun x=>(x==[])||((Pl.ng x).2&&Pl.Qai s (Pl.ng x).1.tree)):=Pm.hid (by rw[hd.out,h0];rfl);clear hd h0 ht;generalize Pl.Qaa s t=l at*;refine kE ?_;refine QbP 0 (h:=?_);refine QbP 1 (h:=?_)
 repeat refine kA ?_
 refine QbS (fun m st=> ∃(k:Nat),k<=l.length/\m=16 -k/\AN ((l.take k).all (fun x=>(x==[])||((Pl.ng x).2&&Pl.Qai s (Pl.ng x).1.tree))=true)/\
  st=⟨43,[(5,.d (tStrs l)),(6,.d (dI k)),(2,.d (.pd (rSt s))),(3,.d (.pd (rTree t)))],[.row 1 [],.row 1 []]⟩) [5,6,2,3] 2 16 ⟨0,by omega,rfl,Pm.hid rfl,rfl⟩ (round:=?_)
 rintro m st ⟨k,hk,rfl,hA,rfl⟩
 repeat refine kG ?_
 cases q4:decide ((k:Int)<t.many)
 ·repeat refine kA ?_
  refine QbQ (hx:=?_);have:k=l.length:=by simp at q4;omega
  have h:=hA.out;rw[this,AU (AO _)] at h;rw[hd2.out,h]
 have hk2:k<l.length:=by simp at q4;omega
 obtain⟨x,hx⟩: ∃x,l[k]? =some x:=⟨_,A0 hk2⟩;have hr:=QbV (f:=fun s=>[dS s]) hx;have cg:=Qh6 x (by have:=hle x (A2 hx);unfold Pm.big;omega);have cT:=al8Ok s hg (Pl.ng x).1.tree;have T:AN (((x==[])||((Pl.ng x).2&&Pl.Qai s (Pl.ng x).1.tree))=true->(l.take (k+1)).all (fun x=>(x==[])||((Pl.ng x).2&&Pl.Qai s (Pl.ng x).1.tree))=true):=fun h=>by rw[AB,hx,Ah,hA.out];simpa using h
 have F:AN (((x==[])||((Pl.ng x).2&&Pl.Qai s (Pl.ng x).1.tree))=false->Pl.QaI s t=false):=fun h=>by
  rw[hd2.out,Ad];exact⟨x,A2 hx,by rw[h];simp⟩
 clear hx hA hle hd2;generalize Pl.Qai s (Pl.ng x).1.tree=tok at*;generalize (Pl.ng x).2=ok at*;generalize (Pl.ng x).1=N at*;obtain⟨kind,links,size,⟨⟨p1,p2,p3,p4,p5⟩,depth,many⟩⟩:=N
 repeat' first|refine kS ?_|refine qS (iy hr) ?_|refine kU ?_|refine kV ?_ ?_<;>intro q|fail
 all_goals clear c0 c cg cT hr
 all_goals simp only[decide_eq_true_eq] at q4
 all_goals first|exact QbR (16 -(k+1)) (by omega) ⟨k+1,by omega,rfl,Pm.hid (T.out (by simp_all)),rfl⟩|refine QbQ (hx:=?_);exact congrArg dB (F.out (by simp_all)).symm
def Pl.Qal(s:Pm.Store)(t:Pl.Tree)(k:Nat):Pl.Node×Bool:=if(k:Int)<=t.many -1 then Pl.ng ((Pl.Qaa s t).getD k []) else(Pl.zn,false)
def Qhd(s:Pm.Store)(ht:Pl.TGood t)(k:Nat):(Pl.Qal s t k).1=(Pl.Qab s t).getD k Pl.zn:=by
 have hl:=texts_len s ht;have:=ht.manyLo;unfold Pl.Qal Pl.Qab;rw[A1,A1,AP];split
 ·rw[A0 (by omega)];rfl
 ·rw[AH (by omega)];rfl
def texts_get(s:Pm.Store)(ht:Pl.TGood t){k:Nat}(hk:(k:Int)<=t.many -1):(Pl.Qaa s t).getD k []=(Pl.rd s.1 ((Pl.wide s t).getD k Pl.hole)).1:=by
 have hw:=QcH s ht.hi;have:=ht.manyHi;unfold Pl.Qaa;rw[A1,A1,AP,List.getElem?_take,if_pos (by omega),A0 (by omega)];rfl
def al11Get(s:Pm.Store)(hg:Pl.Good s)(t:Pl.Tree)(ht:Pl.TGood t)(k:Nat):Pure A8 69 [dSt s,dTree t,dI k] (.tup [dNode (Pl.Qal s t k).1,dB (Pl.Qal s t k).2]):=by
 have hm:=ht.manyHi;have hm0:=ht.manyLo;have c0:=al6In k 0 (t.many -1)
 by_cases h:(k:Int)<=t.many -1
 ·have e:Pl.inR k 0 (t.many -1)=true:=by simp[Pl.inR];omega
  rw[e] at c0;have c1:=al8Get s hg t ht k (by omega);rw[<-texts_get s ht h] at c1;have hx:AN (Pl.Qal s t k=Pl.ng ((Pl.Qaa s t).getD k [])):=Pm.hid (by unfold Pl.Qal;rw[if_pos h])
  have c2:=Qh6 ((Pl.Qaa s t).getD k []) (by
   rw[A1];cases h1:(Pl.Qaa s t)[k]? with
   |none=>simp
   |some x=>have:=texts_le s hg t x (A2 h1);simp[Pm.big];omega)
  generalize (Pl.Qaa s t).getD k []=x at*;rw[hx.out];clear hx h e;generalize Pl.ng x=r at*;obtain⟨⟨kind,links,size,⟨⟨p1,p2,p3,p4,p5⟩,depth,many⟩⟩,ok⟩:=r;refine kD ?_;refine QbP 0 (h:=?_);refine QbP 1 (h:=?_)
  repeat refine kA ?_
  refine QbP 2 (h:=?_);exact Qch (hx:=rfl)
 ·have e:Pl.inR k 0 (t.many -1)=false:=by simp[Pl.inR];omega
  rw[e] at c0;have hx:AN (Pl.Qal s t k=(Pl.zn,false)):=Pm.hid (by unfold Pl.Qal;rw[if_neg h]);rw[hx.out];refine kD ?_;refine QbP 0 (h:=?_);refine QbP 1 (h:=?_)
  repeat refine kA ?_
  refine QbP 2 (h:=?_);exact Qch (hx:=rfl)
def Pl.Qbb(c:UInt8):Bool:=decide (97<=c.toNat)&&decide (c.toNat<=122)
def QkU(s:List UInt8):Pl.Qas s=(s.all Pl.Qbb&&Pl.inR s.length 1 4):=by
 unfold Pl.Qas Pl.inR;rw[Bool.and_assoc]
 congr 2
 ·simp;omega
 ·simp;omega
def aNameOk(s:List UInt8)(hs:s.length<=Pm.big):Pure A8 126 [dS s] (dB (Pl.Qas s)):=by
 simp only[Pm.big] at hs;have hd:=Pm.hid (QkU s);have c:=al6In s.length 1 4;refine kB ?_
 repeat refine kA ?_
 refine QbS (fun m st=> ∃k:Nat,k<=s.length/\m=s.length -k/\AN ((s.take k).all Pl.Qbb=true)/\st=⟨23,[(3,.d (dI k)),(0,.d (dS s))],[]⟩) [3,0] 0 s.length ⟨0,by omega,rfl,Pm.hid rfl,rfl⟩ (round:=?_);rintro m st ⟨k,hk,rfl,hA,rfl⟩
 repeat refine kG ?_
 cases q3:decide ((k:Int)<(s.length:Int))
 ·repeat refine kA ?_
  refine QbQ (hx:=?_);have:k=s.length:=by simp at q3;omega
  have h:=hA.out;rw[this,AK] at h;rw[hd.out,h];rfl
 have hk2:k<s.length:=by simp at q3;omega
 obtain⟨x,hx⟩: ∃x,s[k]? =some x:=⟨_,A0 hk2⟩;have hx':s[(k:Int).toNat]? =some x:=hx;have T:AN (97<=x.toNat->x.toNat<=122->(s.take (k+1)).all Pl.Qbb=true):=fun h1 h2=>by rw[AB,hx,Ah,hA.out];simp[Pl.Qbb,h1,h2]
 have F:AN ((x.toNat<97∨122<x.toNat)->Pl.Qas s=false):=fun h=>by
  rw[hd.out];have:s.all Pl.Qbb=false:=by rw[Ad];exact⟨x,A2 hx,by simp[Pl.Qbb];omega⟩
  rw[this];rfl
 clear hx hA hd
 repeat' first|refine kS ?_|refine qS (Qdn Ty.h rfl rfl rfl (by omega) hx') ?_|refine kU ?_|refine kV ?_ ?_<;>intro q|fail
 all_goals simp only[decide_eq_true_eq,decide_eq_false_iff_not] at*
 all_goals first|exact QbR (s.length -(k+1)) (by omega) ⟨k+1,by omega,rfl,Pm.hid (T.out (by omega) (by omega)),rfl⟩|refine QbQ (hx:=?_);rw[F.out (by omega)]
abbrev dEnts(l:List Pl.Ent):D:= .sl false 2 (l.map rEnt)
abbrev tEnts(l:List Pl.Ent):D:= .sl true 2 (l.map rEnt)
theorem Qpy(l:List Pl.Ent)(hl:l.length<=Pm.big)(hs: ∀e∈l,e.1.length<=Pm.big):Pure A8 183 [dEnts l] (dB (Pl.Qam l)):=by
 simp only[Pm.big] at hl;have hd:AN (Pl.Qam l=((A7 l.length).all (Pl.QaY l)&&decide (l.length<=12))):=Pm.hid rfl;refine kB ?_
 repeat refine kA ?_
 refine QbS (fun m st=> ∃k:Nat,k<=l.length/\m=l.length -k/\AN ((A7 k).all (Pl.QaY l)=true)/\st=⟨47,[(3,.d (dI k)),(0,.d (dEnts l))],[]⟩) [3,0] 0 l.length ⟨0,by omega,rfl,Pm.hid rfl,rfl⟩ (round:=?_);rintro m st ⟨k,hk,rfl,hA,rfl⟩
 repeat refine kG ?_
 cases q3:decide ((k:Int)<(l.length:Int))
 ·repeat refine kA ?_
  refine QbQ (hx:=?_);have:k=l.length:=by simp at q3;omega
  have h:=hA.out;rw[this] at h;rw[hd.out,h];refine congrArg dB ?_;simp;omega
 have hk2:k<l.length:=by simp at q3;omega
 obtain⟨x,hx⟩: ∃x,l[k]? =some x:=⟨_,A0 hk2⟩;have hr:=QbV (f:=rEnt) hx;obtain⟨y,hy⟩: ∃y,l[k -1]? =some y:=⟨_,A0 (by omega)⟩
 have hr2:AN (0<k->(l.map rEnt)[((k:Int) -1).toNat]? =some (rEnt y)):=fun h=>by
  rw[show((k:Int) -1).toNat=k -1 by omega,AP,hy];rfl
 have he:AN (Pl.QaY l k=(Pl.Qas x.1&&Pl.inR x.2 1 15&&(decide (k=0)||A3 y.1 x.1))):=Pm.hid (by
  unfold Pl.QaY;simp only[A1,hx,hy,AD])
 have T:AN (Pl.QaY l k=true->(A7 (k+1)).all (Pl.QaY l)=true):=fun h=>Pl.Qcm (p:=Pl.QaY l) hA.out h
 have F:AN (Pl.QaY l k=false->Pl.Qam l=false):=fun h=>by
  rw[hd.out,Pl.Qcg (p:=Pl.QaY l) hk2 h];rfl
 have c1:=aNameOk x.1 (hs x (A2 hx));have c2:=al6In x.2 1 15;rw[he.out] at T F;clear hx hy hA hd he;generalize Pl.Qas x.1=o1 at*;generalize Pl.inR x.2 1 15=o2 at*
 repeat' first|refine kS ?_|refine qD (iy hr) ?_|refine qD (QbW Ty.h rfl Ty.h rfl rfl rfl (by simp only[decide_eq_true_eq] at*;omega) (hr2.out (by simp only[decide_eq_true_eq] at*;omega))) ?_|refine qD (QiZ rfl rfl) ?_|refine kU ?_|refine kV ?_ ?_<;>intro q|fail
 all_goals clear c1 c2 hr hr2
 all_goals simp only[decide_eq_true_eq,decide_eq_false_iff_not] at*
 all_goals first|refine QbR (l.length -(k+1)) (by omega) ⟨k+1,by omega,rfl,Pm.hid (T.out ?_),rfl⟩;clear T F;simp_all;try omega|refine QbQ (hx:=?_);rw[F.out ?_];clear T F;simp_all;try omega
def Qlr{l:List Pl.Ent}(h:Pl.Qam l=true): ∀e∈l,e.1.length<=4:=fun e he=>by
 have:=(ent_b h e he).1;unfold Pl.Qas at this;simp at this;omega
def Qiu{l:List Pl.Ent}(h: ∀e∈l,e.1.length<=4/\0<=e.2/\e.2<=15):(Pl.Qah l).length<=l.length*20:=by
 induction l with
 |nil=>simp[Pl.Qah]
 |cons e l ih=>
  have h1:=h e A4;have h2:=Pl.QbT 8 e.2.toNat (by omega);have ih:=ih fun x hx=>h x (A5 _ hx)
  have e1:Pl.Qah (e::l)=Pl.QaD e++59::Pl.Qah l:=by simp[Pl.Qah]
  rw[e1];unfold Pl.QaD;simp;omega
def al12Put(l:List Pl.Ent)(h:Pl.Qam l=true):Pure A8 184 [dEnts l] (dS (Pl.Qah l)):=by
 have hb: ∀e∈l,e.1.length<=4/\0<=e.2/\e.2<=15:=fun e he=>by have:=Qlr h e he;have:=ent_b h e he;omega
 have hl:l.length<=12:=by unfold Pl.Qam at h;rw[A6,decide_eq_true_eq] at h;exact h.2
 clear h;refine kB ?_
 repeat refine kA ?_
 refine QbS (fun m st=> ∃k:Nat,k<=l.length/\m=l.length -k/\st=⟨28,[(3,.d (dS (Pl.Qah (l.take k)))),(4,.d (dI k)),(0,.d (dEnts l))],[]⟩) [3,4,0] 0 l.length ⟨0,by omega,rfl,rfl⟩ (round:=?_);rintro m st ⟨k,hk,rfl,rfl⟩
 repeat refine kG ?_
 cases q3:decide ((k:Int)<(l.length:Int))
 ·repeat refine kA ?_
  refine QbQ (hx:=?_);have:k=l.length:=by simp at q3;omega
  rw[this,AK]
 have hk2:k<l.length:=by simp at q3;omega
 obtain⟨x,hx⟩: ∃x,l[k]? =some x:=⟨_,A0 hk2⟩;have hr:=QbV (f:=rEnt) hx;have hlen:=Qiu (l:=l.take k) fun e he=>hb e (List.mem_of_mem_take he)
 rw[AR] at hlen;have hxb:=hb x (A2 hx);have T:AN (Pl.Qah (l.take (k+1))=Pl.Qah (l.take k)++x.1++[61]++Pl.dec x.2.toNat++[59]):=Pm.hid (by rw[AB,hx];simp[Pl.Qah,Pl.QaD]);have hdl:=Pl.QbT 8 x.2.toNat (by omega);have c:=al6Dec x.2.toNat (by omega);rw[show((x.2.toNat:Nat):Int)=x.2 by omega] at c;clear hx hb;generalize Pl.Qah (l.take k)=out at*;generalize Pl.dec x.2.toNat=d at*;obtain⟨nm,id⟩:=x;simp only at hxb c T hr
 repeat' first|refine kS ?_|refine qD (iy hr) ?_|refine qD (Qcc (m:=[61]) rfl rfl (by first|omega|(simp;omega))) ?_|refine qD (Qcc (m:=[59]) rfl rfl (by first|omega|(simp;omega))) ?_|refine qD (Qcc rfl rfl (by first|omega|(simp;omega))) ?_|refine kU ?_|fail
 refine QbR (l.length -(k+1)) (by omega) ⟨k+1,by omega,rfl,?_⟩;simp[keepE,go_sem,T.out]
def QmD{x:List UInt8}{e:Pl.Ent}(h:Pl.QaK x=some e):e.1.length<=x.length:=by
 unfold Pl.QaK at h;split at h
 ·rename_i a b hc
  obtain rfl:=AE h;exact(Qds 61 x).2 a (by rw[hc];simp)
 ·cases h
theorem QiH(s:List UInt8)(hs:s.length<=1000000000000):Pure A8 132 [dS s] (.tup [tEnts (Pl.eg s).1,dB (Pl.eg s).2]):=by
 have cw:=al2Cut s 59 hs;have hW:=Qds 59 s;have hne:=Pl.Qfr 59 s;have hread:=fun m=>Qrg (s:=s) (m:=m)
 have hbad:=fun k x=>eg_bad (s:=s) (k:=k) (x:=x)
 generalize Pl.cutB 59 s=w at*;have hw1:0<w.length:=List.length_pos_iff.2 hne;clear hne;have hread:=Pm.hid hread;have hbad:=Pm.hid hbad;refine kB ?_
 repeat refine kA ?_
 refine QbS (fun m st=> ∃(k g:Nat) (out:List Pl.Ent),k+1<=w.length/\m=w.length -k/\out.length=k/\AN (∀(i:Nat) e,out[i]? =some e-> ∃x,w[i]? =some x/\Pl.QaK x=some e)/\
  st=⟨55,[(4,.osl 0 g 0 out.length),(5,.d (tStrs w)),(6,.d (dI k)),(0,.d (dS s))],[.arr g 2 129 (out.map rEnt)]⟩) [4,5,6,0] 1 w.length ⟨0,0,[],by omega,rfl,rfl,Pm.hid (by simp),rfl⟩ (round:=?_)
 rintro m st ⟨k,g,out,hk,rfl,hlen,hO,rfl⟩
 repeat refine kG ?_
 cases q3:decide ((k:Int)+1<(w.length:Int))
 ·have hk3:out.length+1=w.length:=by simp at q3;omega
  have hg:=Pm.hid (hread.out out hk3 hO.out)
  have hel: ∀e∈out,e.1.length<=Pm.big:=fun e he=>by
   obtain⟨i,hi⟩:=List.getElem?_of_mem he;obtain⟨x,hx,hx2⟩:=hO.out i e hi;have:=QmD hx2;have:=hW.2 x (A2 hx);unfold Pm.big;omega
  have ce:=(Qpy out (by unfold Pm.big;omega) hel).arg (l:=[tEnts out]);cases hE:Pl.Qam out
  ·rw[hE] at ce
   clear hread hbad hO hel
   repeat' first|refine kA ?_|refine kV ?_ ?_<;>intro q|fail
   ·rw[q3] at q;cases q
   refine Qdl 0 (h:=?_)
   repeat refine kA ?_
   (refine QbP 1 (h:=?_);refine QbQ (hx:=?_))
   rw[hg.out,hE];rfl
  ·rw[hE] at ce
   have cp:=(al12Put out hE).arg (l:=[tEnts out]);clear hread hbad hO hel;generalize Pl.Qah out=t at*
   repeat' first|refine kA ?_|refine kV ?_ ?_<;>intro q|fail
   ·rw[q3] at q;cases q
   refine Qdl 0 (h:=?_)
   repeat' first|refine kA ?_|refine kV ?_ ?_<;>intro q|fail
   all_goals
    (first|refine QbQ (hx:=?_)|(refine QbP 1 (h:=?_);refine QbQ (hx:=?_)))
    rw[hg.out,hE]
    simp_all
 have hk2:k<w.length:=by omega
 obtain⟨x,hx⟩: ∃x,w[k]? =some x:=⟨_,A0 hk2⟩;have hr:=QbV (f:=fun s=>[dS s]) hx;have hxl:=hW.2 x (A2 hx);have cx:=al2Cut x 61 (by omega);have hpl:=(Qds 61 x).2;have hF:=Pm.hid (hbad.out k x (by simp at q3;omega) hx)
 have hT:AN (∀e,Pl.QaK x=some e-> ∀(i:Nat) e',(out++[e])[i]? =some e'-> ∃x,w[i]? =some x/\Pl.QaK x=some e'):=fun e he i e' hi=>by
  rcases Al i out.length with h|h
  ·rw[List.getElem?_append_left h] at hi;exact hO.out i e' hi
  ·have:i=out.length:=by have:=(List.getElem?_eq_some_iff.1 hi).1;simp at this;omega
   subst this;rw[List.getElem?_append_right (AO _)] at hi;simp at hi;subst hi;rw[hlen];exact⟨x,hx,he⟩
 have her:=Pm.hid (Pl.QaK.eq_def x);clear hx hread hbad hO;generalize Pl.cutB 61 x=p at*
 by_cases h2:p.length=2
 ·match p,h2 with
  |[a,b],_=>
  have cn:=aNumGet b (by have:=hpl b (by simp);unfold Pm.big;omega);have hT2:=Pm.hid (hT.out _ her.out);clear hT her hF;generalize (Pl.numGet b).getD 0=nb at*
  repeat' first|refine kS ?_|refine qS (iy hr) ?_|refine qS (iy rfl) ?_|refine Qci Ty.h rfl Ty.h (hb:=?_) (kk:=?_)|refine kU ?_|refine kV ?_ ?_<;>intro q|fail
  ·simp;omega
  rotate_left
  ·rw[q3] at q;cases q
  ·simp only[decide_eq_true_eq] at q3
   refine QbR (w.length -(k+1)) (by omega) ⟨k+1,g+1,out++[(a,(nb:Int))],by omega,rfl,by simp[hlen],Pm.hid hT2.out,?_⟩;simp[keepE,go_sem]
 ·have hn:Pl.QaK x=none:=by
   rw[her.out];split
   ·exact absurd rfl h2
   ·rfl
  have hF2:=Pm.hid (hF.out hn);clear hT her hF hn
  repeat' first|refine kS ?_|refine qS (iy hr) ?_|refine kU ?_|refine kV ?_ ?_<;>intro q|fail
  all_goals first|exfalso;rw[q3] at q;cases q|exfalso;simp only[bne_eq_false_iff_eq] at*;omega|((refine QbP 1 (h:=?_);refine QbQ (hx:=?_));rw[hF2.out];rfl)
attribute [local irreducible] AStep
def al9Get(s:Pm.Store)(hg:Pl.Good s)(t:Pl.Tree)(ht:Pl.TGood t):Pure A8 131 [dSt s,dTree t] (.tup [dS (Pl.blob (Pl.Qaa s t)).1,dB (Pl.blob (Pl.Qaa s t)).2]):=by
 have c:=Qeg s hg t ht;have hl:=texts_len s ht;have hle:=texts_le s hg t;have hm:=ht.manyHi;have hm0:=ht.manyLo;have hd:AN (Pl.blob (Pl.Qaa s t)=if(A7 (Pl.Qaa s t).length).all (Pl.QaH (Pl.Qaa s t)) then((Pl.Qaa s t).flatten,true) else([],false)):=Pm.hid rfl;generalize Pl.Qaa s t=l at*;refine kE ?_;refine QbP 0 (h:=?_);refine QbP 1 (h:=?_)
 repeat refine kA ?_
 refine QbS (fun m st=> ∃(k:Nat) (out:List UInt8),k<=l.length/\m=16 -k/\out.length<=128*k/\AN (out=(l.take k).flatten)/\AN ((A7 k).all (Pl.QaH l)=true)/\
  st=⟨41,[(6,.d (dS out)),(7,.d (tStrs l)),(8,.d (dI k)),(3,.d (.pd (rTree t)))],[.row 1 [],.row 1 []]⟩) [6,7,8,3] 2 16 ⟨0,[],by omega,rfl,by simp,Pm.hid rfl,Pm.hid rfl,rfl⟩ (round:=?_)
 rintro m st ⟨k,out,hk,rfl,hol,hO,hA,rfl⟩
 repeat refine kG ?_
 cases q4:decide ((k:Int)<t.many)
 ·repeat refine kA ?_
  refine QbQ (hx:=?_);have:k=l.length:=by simp at q4;omega
  have h:=hA.out;have ho:=hO.out;rw[this] at h;rw[this,AK] at ho;rw[hd.out,h,ho];rfl
 have hk2:k<l.length:=by simp at q4;omega
 obtain⟨x,hx⟩: ∃x,l[k]? =some x:=⟨_,A0 hk2⟩;have hr:=QbV (f:=fun s=>[dS s]) hx;have hxl:=hle x (A2 hx);have he:AN (Pl.QaH l k=(!(x==[])&&(decide (k+1=l.length)||decide (x.length=128)))):=Pm.hid (by unfold Pl.QaH;simp only[A1,hx,AD]);have T:AN (Pl.QaH l k=true->(A7 (k+1)).all (Pl.QaH l)=true):=fun h=>Pl.Qcm (p:=Pl.QaH l) hA.out h
 have T2:AN ((l.take (k+1)).flatten=out++x):=Pm.hid (by rw[AB,hx,hO.out];simp)
 have F:AN (Pl.QaH l k=false->Pl.blob l=([],false)):=fun h=>by
  rw[hd.out,Pl.Qcg (p:=Pl.QaH l) hk2 h];rfl
 rw[he.out] at T F;clear hx hA hO hd he hle c
 repeat' first|refine kS ?_|refine qS (iy hr) ?_|refine qS (Qcc rfl rfl (by omega)) ?_|refine kU ?_|refine kV ?_ ?_<;>intro q|fail
 all_goals clear hr
 all_goals simp only[decide_eq_true_eq,decide_eq_false_iff_not] at*
 all_goals generalize (x==[])=u at*
 all_goals first
  |(refine QbR (16 -(k+1)) (by omega) ⟨k+1,out++x,by omega,rfl,by simp;omega,Pm.hid T2.out.symm,Pm.hid (T.out ?_),rfl⟩;clear T F T2;cases u<;>simp at* <;>omega)
  |(refine QbQ (hx:=?_);have hF:(!u&&(decide (k+1=l.length)||decide (x.length=128)))=false:=by
     clear T F T2;cases u<;>simp at* <;>omega
    rw[F.out hF])
theorem QiG(s:Pm.Store)(hg:Pl.Good s)(n:Pl.Node):Pure A8 70 [dSt s,dNode n] (.tup [tEnts (Pl.ents s n).1,dB (Pl.ents s n).2]):=by
 have hd:=Pm.hid (Pl.ents.eq_def s n);have c1:=aNodeOk n;have c2:=al8Ok s hg n.tree;cases h1:Pl.Qai s n.tree
 ·rw[h1] at c2 hd
  generalize Pl.Qar n=ok at*;refine kE ?_;refine QbP 0 (h:=?_);refine QbP 1 (h:=?_)
  repeat' first|refine kA ?_|refine kV ?_ ?_<;>intro q|fail
  all_goals
   (refine QbP 2 (h:=?_);refine QbQ (hx:=?_))
   rw[hd.out];simp
 have ht:=Qcf h1;have c3:=al9Get s hg n.tree ht
 have hb:(Pl.blob (Pl.Qaa s n.tree)).1.length<=16*128:=by
  have hl:=texts_len s ht;have hm:=ht.manyHi;have hle:=texts_le s hg n.tree;unfold Pl.blob;split
  ·simp only
   have: ∀l:List (List UInt8),(∀x∈l,x.length<=128)->l.flatten.length<=l.length*128:=by
    intro l;induction l with
    |nil=>intro _;simp
    |cons a l ih=>intro h;have:=ih fun x hx=>h x (A5 _ hx);have:=h a A4;rw[List.flatten_cons,AF,AI];omega
   have:=this _ hle;omega
  ·simp
 have c4:=QiH (Pl.blob (Pl.Qaa s n.tree)).1 (by omega);rw[h1] at c2 hd;generalize Pl.Qar n=ok at*;generalize Pl.blob (Pl.Qaa s n.tree)=bb at*;obtain⟨tx,fine⟩:=bb;simp only at hb c4 hd;generalize Pl.eg tx=r at*;obtain⟨es,good⟩:=r;clear h1 ht;refine kE ?_;refine QbP 0 (h:=?_);refine QbP 1 (h:=?_)
 repeat' first|refine kA ?_|refine kV ?_ ?_<;>intro q|fail
 all_goals
  (first|refine QbQ (hx:=?_)|(refine QbP 2 (h:=?_);refine QbQ (hx:=?_)))
  rw[hd.out];clear c1 c2 c3 c4 hd
  simp_all
def Qoh(size:Int)(k:Nat)(h0:0<=size)(h1:size<=2048)(hk:k<=100):Pure A8 133 [dI size,dI k] (dI (Pl.long size k)):=by
 refine kB ?_
 repeat' first|refine kS ?_|refine qS (Qc3 rfl rfl (by omega)) ?_|refine qS (Qml rfl rfl) ?_|refine kU ?_|fail
 exact QbQ (hx:=rfl)
theorem al13Ok(s:Pm.Store)(hg:Pl.Good s)(n:Pl.Node):Pure A8 74 [dSt s,dNode n] (dB (Pl.QaE s n)):=by
 have hd:AN (Pl.QaE s n=(Pl.Qar n&&(n.kind==1)&&Pl.Qai s n.tree&&(A7 n.tree.many.toNat).all (Pl.QaP n.size (Pl.Qaa s n.tree)))):=Pm.hid rfl;have c1:=aNodeOk n;have c2:=al8Ok s hg n.tree
 by_cases hk:Pl.Qar n=true/\n.kind=1/\Pl.Qai s n.tree=true
 rotate_left
 ·have hx:AN (Pl.QaE s n=false):=Pm.hid (by
   rw[hd.out];cases h1:Pl.Qar n
   ·rfl
   ·cases h2:Pl.Qai s n.tree
    ·simp
    ·have:(n.kind==1)=false:=by simpa using fun h=>hk ⟨h1,h,h2⟩
     rw[this];rfl)
  clear hd;generalize Pl.Qar n=ok at*;generalize Pl.Qai s n.tree=tok at*;refine kE ?_;refine QbP 0 (h:=?_);refine QbP 1 (h:=?_)
  repeat' first|refine kA ?_|refine kV ?_ ?_<;>intro q|fail
  all_goals first|refine QbQ (hx:=?_);rw[hx.out];done|exfalso;simp_all;done|exfalso;apply hk;simp_all
 obtain⟨h1,h2,h3⟩:=hk;have ht:=Qcf h3;have hb:=Qd6 h1;have hs:=hb.size;have c3:=Qeg s hg n.tree ht;have hl:=texts_len s ht;have hle:=texts_le s hg n.tree;have hm:=ht.manyHi;have hm0:=ht.manyLo;have hd2:AN (Pl.QaE s n=(A7 n.tree.many.toNat).all (Pl.QaP n.size (Pl.Qaa s n.tree))):=Pm.hid (by rw[hd.out,h1,h2,h3];rfl);rw[h1] at c1;rw[h3] at c2;clear hd h1 h3 ht hb;generalize Pl.Qaa s n.tree=l at*;obtain⟨kind,links,size,⟨root,depth,many⟩⟩:=n;simp only at h2 hs hl hm hm0 hd2 c1 c2 c3;subst h2;refine kE ?_;refine QbP 0 (h:=?_);refine QbP 1 (h:=?_)
 repeat refine kA ?_
 refine QbS (fun m st=> ∃(k:Nat),k<=l.length/\m=16 -k/\AN ((A7 k).all (Pl.QaP size l)=true)/\
  st=⟨51,[(5,.d (tStrs l)),(6,.d (dI k)),(3,.d (.pd (rNode ⟨1,links,size,⟨root,depth,many⟩⟩)))],[.row 1 [],.row 1 []]⟩) [5,6,3] 2 16 ⟨0,by omega,rfl,Pm.hid rfl,rfl⟩ (round:=?_)
 rintro m st ⟨k,hk,rfl,hA,rfl⟩
 repeat refine kG ?_
 cases q4:decide ((k:Int)<many)
 ·repeat refine kA ?_
  refine QbQ (hx:=?_);have:k=many.toNat:=by simp at q4;omega
  have h:=hA.out;rw[this] at h;rw[hd2.out,h]
 have hk2:k<l.length:=by simp at q4;omega
 obtain⟨x,hx⟩: ∃x,l[k]? =some x:=⟨_,A0 hk2⟩;have hr:=QbV (f:=fun s=>[dS s]) hx;have hxl:=hle x (A2 hx);have he:AN (Pl.QaP size l k=(decide ((x.length:Int)<=Pl.long size k)&&(Pl.cut0 x==x))):=Pm.hid (by unfold Pl.QaP;simp only[A1,hx,AD]);have T:AN (Pl.QaP size l k=true->(A7 (k+1)).all (Pl.QaP size l)=true):=fun h=>Pl.Qcm (p:=Pl.QaP size l) hA.out h
 have F:AN (Pl.QaP size l k=false->Pl.QaE s ⟨1,links,size,⟨root,depth,many⟩⟩=false):=fun h=>by
  rw[hd2.out,Pl.Qcg (p:=Pl.QaP size l) (by omega) h]
 rw[he.out] at T F;have c4:=Qoh size k hs.1 hs.2 (by omega);have c5:=al10Cut x (by unfold Pm.big;omega);clear hx hA hd2 he hle c1 c2 c3;generalize Pl.cut0 x=y at*;generalize Pl.long size k=lg at*
 repeat' first|refine kS ?_|refine qS (iy hr) ?_|refine kU ?_|refine kV ?_ ?_<;>intro q|fail
 all_goals clear hr c4 c5
 all_goals simp only[decide_eq_true_eq,decide_eq_false_iff_not] at*
 all_goals first|refine QbR (16 -(k+1)) (by omega) ⟨k+1,by omega,rfl,Pm.hid (T.out ?_),rfl⟩;clear T F;simp_all;try omega|refine QbQ (hx:=?_);rw[F.out ?_];clear T F;simp_all;try omega

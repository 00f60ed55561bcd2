/- Of parts_card; no condition. -/
import Derived.Test.YtilenknaajikpaaGreatDoorP14
set_option linter.all false
set_option maxRecDepth 100000
set_option maxHeartbeats 4000000
open Bool renaming and_eq_true->A6
open Classical renaming choose_spec->AG,choose->AP
open Go.Op renaming bytesLess->A3
open Go.Proofs.Tryz renaming prog->A8
open Go.RowKit renaming Hid->AM
open Int renaming eq_ofNat_of_zero_le->A9
open List renaming getElem?_eq_getElem->A0,getD_eq_getElem?_getD->A1,mem_of_getElem?->A2,mem_cons_self->A4,mem_cons_of_mem->A5,range->A7,length_drop->AA,take_add_one->AB,all_eq_true->AC,length_append->AF,getElem?_eq_none->AH,length_cons->AI,take_length->AJ,append_nil->AL,getElem?_map->AO,length_take->AQ,map_map->AR,mem_map->AS,take_of_length_le->AT,eq_nil_or_concat->AU,concat_eq_append->AW,mem_range->AX,map_cons->AY,flatMap_cons->Aa,all_eq_false->Ab,cons_append->Ac,mem_append->Ad,length_map->Af,all_append->Ag,tail_cons->Ah,mem_cons->Ai
open List.cons renaming injEq->AK
open Nat renaming le_refl->AN,le_trans->AZ,lt_or_ge->Ak
open Option renaming getD_some->AD
open Option.some renaming inj->AE,injEq->Al
open Prod.mk renaming injEq->Aj
open UInt8 renaming toNat_inj->Ae
namespace Go.Proofs.YtilenknaajikpaaGreatDoor
noncomputable section
section
open Go.RowKit
namespace Aw
variable{a b c f x:List UInt8}
attribute [local irreducible] ASeq ADraw AWP Loc
def Qb5(s:List UInt8):List (List UInt8)×Bool:=open Classical in if h: ∃l,Pl.IsRec s l then(AP h,true) else([],false)
def rg_is{s:List UInt8}{l:List (List UInt8)}(h:Pl.IsRec s l):Qb5 s=(l,true):=by
 unfold Qb5;have hx: ∃p,Pl.IsRec s p:=⟨l,h⟩;rw[dif_pos hx,Pl.Qio (AG hx) h]
theorem QiM{s:List UInt8}(h: ∀l,¬Pl.IsRec s l):Qb5 s=([],false):=by
 unfold Qb5
 grind
def Qd:Qi:=⟨0,0,0,⟨Pl.hole,0,0⟩⟩
theorem Qrr(kind size:Int):Qak kind size<=16:=by
 unfold Qak;have he:=Qkp kind;generalize QaY kind=e at*;split
 ·decide
 ·split
  ·rename_i h1 h2
   have hb:0<=size/\size<=16*e:=by simpa[Pl.inR] using h2
   grind
  ·decide
structure NodeB(n:Qi):Prop where
 kind:n.kind=1∨n.kind=2
 links:1<=n.links/\n.links<=9
 size:0<=n.size/\n.size<=2048
 ptr:Pl.ptrOk n.tree.root=true
 depth:0<=n.tree.depth/\n.tree.depth<=2
 many:0<=n.tree.many/\n.tree.many<=16
 one:n.kind=2->n.links=1
def Qe5{n:Qi}(h:QL n=true):NodeB n:=by
 unfold QL at h;simp only[A6,beq_iff_eq,decide_eq_true_eq] at h;obtain⟨⟨⟨⟨⟨h1,h2⟩,h3⟩,h4⟩,h5⟩,h6⟩:=h;have hp:=Qrr n.kind n.size
 have hk:n.kind=1∨n.kind=2:=by
  by_cases k1:n.kind=1
  ·omega
  ·by_cases k2:n.kind=2
   ·omega
   ·have:QaY n.kind=0:=by unfold QaY;omega
    unfold Qak at h1;omega
 have hs:0<=n.size/\n.size<=2048:=by
  have he:QaY n.kind≠0:=by rcases hk with k|k<;>rw[k]<;>decide
  have he2:QaY n.kind<=128:=by rcases hk with k|k<;>rw[k]<;>decide
  unfold Qak at h1;rw[if_neg he] at h1;split at h1
  ·rename_i h
   have hb:0<=n.size/\n.size<=16*QaY n.kind:=by simpa[Pl.inR] using h
   omega
  omega
 have hd:0<=n.tree.depth/\n.tree.depth<=2:=by rw[h3];unfold Qbq;omega
 have hl:1<=n.links/\n.links<=(if n.kind=2 then 1 else 9):=by simpa[Pl.inR] using h5
 refine⟨hk,?_,hs,h4,hd,by omega,fun e=>?_⟩
 ·omega
 omega
def Qaj(n:Qi):List (List UInt8):=[Pl.dec n.kind.toNat,Pl.dec n.links.toNat,Pl.dec n.size.toNat,Pl.ptrPut n.tree.root,Pl.dec n.tree.depth.toNat,Pl.dec n.tree.many.toNat,[101,110,100]]
def Q9(n:Qi):List UInt8:=if QL n then Pl.fp (Qaj n) else []
def Qbp(s:List UInt8)(n:Qi):Prop:=QL n=true/\Pl.IsRec s (Qaj n)
theorem Qki{s:List UInt8}{n:Qi}(hs:s≠[]):Qbp s n↔Q9 n=s:=by
 constructor
 ·rintro⟨h1,h2⟩
  unfold Q9 Pl.fp;rw[if_pos h1,Pl.QgH.2 h2];rfl
 ·intro h
  unfold Q9 at h;split at h
  ·rename_i h1;exact⟨h1,Pl.fp_some h hs⟩
  grind
def Qq(s:List UInt8):Qi×Bool:=open Classical in if h: ∃n,Qbp s n then(AP h,true) else(Qd,false)
def Qbd(a b c d e f:List UInt8):Qi:=⟨((Pl.numGet a).getD 0:Nat),((Pl.numGet b).getD 0:Nat),((Pl.numGet c).getD 0:Nat),⟨(QE d).1,((Pl.numGet e).getD 0:Nat),((Pl.numGet f).getD 0:Nat)⟩⟩
def QeR{s d e g:List UInt8}{n:Qi}(hr:Pl.IsRec s [a,b,c,d,e,f,g])(h:Qbp s n):
 Pl.numGet a=some n.kind.toNat/\Pl.numGet b=some n.links.toNat/\Pl.numGet c=some n.size.toNat/\QE d=(n.tree.root,true)/\Pl.numGet e=some n.tree.depth.toNat/\Pl.numGet f=some n.tree.many.toNat:=by
 have hb:=Qe5 h.1;have he:=Pl.Qio hr h.2;simp only[Qaj,AK] at he;obtain⟨rfl,rfl,rfl,rfl,rfl,rfl,_⟩:=he;have h1:=hb.kind;have h2:=hb.links;have h3:=hb.size;have h4:=hb.depth;have h5:=hb.many;exact⟨Pl.QdA (by omega),Pl.QdA (by omega),Pl.QdA (by omega),pg_is ⟨hb.ptr,rfl⟩,Pl.QdA (by omega),Pl.QdA (by omega)⟩
theorem QiT{s d e g:List UInt8}{n:Qi}(hr:Pl.IsRec s [a,b,c,d,e,f,g])(h:Qbp s n):n=Qbd a b c d e f:=by
 have hb:=Qe5 h.1;have h1:=hb.kind;have h2:=hb.links;have h3:=hb.size;have h4:=hb.depth;have h5:=hb.many;obtain⟨q1,q2,q3,q4,q5,q6⟩:=QeR hr h;unfold Qbd;rw[q1,q2,q3,q4,q5,q6];obtain⟨kind,links,size,root,depth,many⟩:=n
 grind
def QkR{s:List UInt8}{m n:Qi}(hm:Qbp s m)(hn:Qbp s n):m=n:=
 (QiT hm.2 hm).trans (QiT hm.2 hn).symm
def ng_is{s:List UInt8}{n:Qi}(h:Qbp s n):Qq s=(n,true):=by
 unfold Qq;have hx: ∃p,Qbp s p:=⟨n,h⟩;rw[dif_pos hx,QkR (AG hx) h]
theorem QlX{s:List UInt8}(h: ∀p,¬Qbp s p):Qq s=(Qd,false):=by
 unfold Qq
 grind
theorem Qg0(s:List UInt8):Qbp s (Qq s).1/\(Qq s).2=true∨Qq s=(Qd,false):=by
 unfold Qq;split
 ·grind
 grind
def Qrh{s:List UInt8}{l:List (List UInt8)}(h:Pl.IsRec s (x::l)):s≠[]:=by
 rintro rfl;have:=h.2.2;rw[Pl.Qfg] at this;exact Pl.QfN x (List.append_eq_nil_iff.1 this).1
def QuY{s d e g:List UInt8}(hr:Pl.IsRec s [a,b,c,d,e,f,g]):Qq s=if Q9 (Qbd a b c d e f)=s then(Qbd a b c d e f,true) else(Qd,false):=by
 have hs:=Qrh hr;split
 ·rename_i h;exact ng_is ((Qki hs).2 h)
 ·rename_i h
  refine QlX fun p hp=>h ?_
  rw[<-QiT hr hp];exact(Qki hs).1 hp
def Qi0{s:List UInt8}(h:(Qb5 s).2=false∨(Qb5 s).1.length≠7):Qq s=(Qd,false):=by
 refine QlX fun p hp=>?_
 rw[rg_is hp.2] at h;rcases h with h|h
 ·cases h
 ·exact h rfl
theorem Qok(s:List UInt8):Pl.IsRec s (Qb5 s).1/\(Qb5 s).2=true∨Qb5 s=([],false):=by
 unfold Qb5;split
 ·grind
 grind
theorem QiU(s:List UInt8):NodeB (Qq s).1∨(Qq s).1=Qd:=by
 rcases Qg0 s with h|h
 ·exact .inl (Qe5 h.1.1)
 grind
def QaS(s:List UInt8):List UInt8:=(s.reverse.dropWhile (· ==0)).reverse
def QoS:QaS []=[]:=rfl
theorem Qj0(s:List UInt8)(c:UInt8):QaS (s++[c])=if c==0 then QaS s else s++[c]:=by
 unfold QaS;rw[List.reverse_append,List.reverse_singleton,List.singleton_append,List.dropWhile_cons]
 grind
theorem QsI(s:List UInt8):QaS s=s↔s.getLast? ≠some 0:=by
 rcases AU s with rfl|⟨l,c,rfl⟩
 ·simp[QoS]
 ·rw[AW,Qj0]
  by_cases h:c=0
  ·subst h
   simp only[beq_self_eq_true,if_true,List.getLast?_append,List.getLast?_singleton,Option.some_or,ne_eq,not_true_eq_false,iff_false];intro h;have h1:(QaS l).length<=l.length:=by unfold QaS;rw[List.length_reverse];exact AZ (List.dropWhile_sublist _).length_le (by simp)
   grind
  ·simp[h]
abbrev Ql:=List UInt8×Int
abbrev rEnt(e:Ql):List D:=[dS e.1,dI e.2]
def Qac(s:List UInt8):Bool:=s.all (fun c=>decide (97<=c.toNat)&&decide (c.toNat<=122))&&decide (1<=s.length)&&decide (s.length<=4)
def QaJ(l:List Ql)(i:Nat):Bool:=Qac (l.getD i ([],0)).1&&Pl.inR (l.getD i ([],0)).2 1 15&&(decide (i=0)||A3 (l.getD (i -1) ([],0)).1 (l.getD i ([],0)).1)
def Qaa(l:List Ql):Bool:=(A7 l.length).all (QaJ l)&&decide (l.length<=12)
def Qau(e:Ql):List UInt8:=e.1++61::Pl.dec e.2.toNat
def QB(l:List Ql):List UInt8:=l.flatMap fun e=>Qau e++[59]
def QbB(s:List UInt8)(l:List Ql):Prop:=Qaa l=true/\QB l=s
def QbZ(s:List UInt8):List Ql×Bool:=open Classical in if h: ∃l,QbB s l then(AP h,true) else([],false)
def QaE(x:List UInt8):Option Ql:=match Pl.cutB 61 x with
 |[a,b]=>some (a,((Pl.numGet b).getD 0:Nat))
 |_=>none
def ent_b{l:List Ql}(h:Qaa l=true): ∀e∈l,Qac e.1=true/\1<=e.2/\e.2<=15:=by
 intro e he;unfold Qaa at h;rw[A6,AC] at h;obtain⟨i,hi,rfl⟩:=List.getElem_of_mem he;have:=h.1 i (AX.2 hi);unfold QaJ at this;rw[A1,A0 hi] at this;simp only[AD,A6] at this;refine⟨this.1.1,?_⟩;have h2:=this.1.2;simp[Pl.inR] at h2;omega
theorem Qg1{s:List UInt8}{c:UInt8}(h:Qac s=true)(hc:c.toNat<97):c∉s:=by
 intro hm;unfold Qac at h
 grind
def Qh2(n:Nat){c:UInt8}(hc:57<c.toNat):c∉Pl.dec n:=by
 intro hm;have:=AC.1 (Pl.QgX n) c hm;have:=(Pl.QeX c).1 this;omega
theorem QnB{e:Ql}(h1:Qac e.1=true)(h2:1<=e.2/\e.2<=15):QaE (Qau e)=some e:=by
 unfold QaE Qau;rw[Pl.Qes 61 _ _ (Qg1 h1 (by decide)),Pl.QeL 61 _ (Qh2 _ (by decide))];simp only[Pl.QdA (show e.2.toNat<1000000000 by omega),AD]
 grind
theorem Qi4: ∀{l:List Ql},(∀e∈l,Qac e.1=true/\1<=e.2/\e.2<=15)->Pl.cutB 59 (QB l)=l.map Qau++[[]]
 |[],_=>rfl
 |e::l,h=>by
  have h1:QB (e::l)=Qau e++59::QB l:=by simp[QB]
  have hn:(59:UInt8)∉Qau e:=by
   unfold Qau;intro hm;rcases Ad.1 hm with hm|hm
   ·exact Qg1 (h e A4).1 (by decide) hm
   ·rcases Ai.1 hm with hm|hm
    ·grind
    ·exact Qh2 _ (by decide) hm
  rw[h1,Pl.Qes 59 _ _ hn,Qi4 fun x hx=>h x (A5 _ hx)];rfl
theorem QgT{s:List UInt8}{l:List Ql}(h:QbB s l):(Pl.cutB 59 s).length=l.length+1/\ ∀(i:Nat) e,l[i]? =some e-> ∃x,(Pl.cutB 59 s)[i]? =some x/\QaE x=some e:=by
 have hb:=ent_b h.1;rw[<-h.2,Qi4 hb];refine⟨by simp,fun i e he=>⟨Qau e,?_,?_⟩⟩
 ·grind
 ·have:=hb e (A2 he);exact QnB this.1 this.2
variable{m:List Ql}
theorem Qjl{s:List UInt8}{l:List Ql}(h:QbB s l)(hm:m.length+1=(Pl.cutB 59 s).length)(hr: ∀(i:Nat) e,m[i]? =some e-> ∃x,(Pl.cutB 59 s)[i]? =some x/\QaE x=some e):m=l:=by
 obtain⟨h1,h2⟩:=QgT h;refine List.ext_getElem (by omega) fun i hi hi'=>?_
 obtain⟨x,hx,hx2⟩:=hr i _ (A0 hi);obtain⟨y,hy,hy2⟩:=h2 i _ (A0 hi')
 grind
def QkS{s:List UInt8}{l:List Ql}(h:QbB s l)(hm:QbB s m):m=l:=by
 obtain⟨h1,h2⟩:=QgT hm;exact Qjl h (by omega) h2
def eg_is{s:List UInt8}{l:List Ql}(h:QbB s l):QbZ s=(l,true):=by
 unfold QbZ;have hx: ∃p,QbB s p:=⟨l,h⟩;rw[dif_pos hx,QkS h (AG hx)]
theorem QoI{s:List UInt8}(h: ∀p,¬QbB s p):QbZ s=([],false):=by
 unfold QbZ
 grind
theorem QoJ(s:List UInt8):QbB s (QbZ s).1/\(QbZ s).2=true∨QbZ s=([],false):=by
 unfold QbZ;split
 ·grind
 grind
def Qs1{s:List UInt8}(hm:m.length+1=(Pl.cutB 59 s).length)(hr: ∀(i:Nat) e,m[i]? =some e-> ∃x,(Pl.cutB 59 s)[i]? =some x/\QaE x=some e):
 QbZ s=if Qaa m=true/\QB m=s then(m,true) else([],false):=by
 split
 ·rename_i h;exact eg_is h
 ·rename_i h
  refine QoI fun p hp=>h ?_
  rw[Qjl hp hm hr];exact hp
theorem eg_bad{s:List UInt8}{k:Nat}(hk:k+1<(Pl.cutB 59 s).length)(hx:(Pl.cutB 59 s)[k]? =some x)(h:QaE x=none):QbZ s=([],false):=by
 refine QoI fun p hp=>?_
 obtain⟨h1,h2⟩:=QgT hp;obtain⟨y,hy,hy2⟩:=h2 k _ (A0 (show k<p.length by omega))
 grind
theorem Qq8(s:List UInt8)(hs:s.length<=Pm.big):Pure A8 99 [dS s] (.tup [tStrs (Qb5 s).1,dB (Qb5 s).2]):=by
 simp only[Pm.big] at hs;refine kB ?_
 repeat refine kA ?_
 refine Qs (fun m st=> ∃(k g:Nat) (out:List (List UInt8)),k<=s.length/\m=s.length -k/\AM (s=Pl.enc out++s.drop k)/\AM (∀x∈out,x.length<=2048)/\out.length<=k/\
  st=⟨92,[(4,.osl 0 g 0 out.length),(5,.d (dI k)),(0,.d (dS s))],[.arr g 1 9 (out.map fun s=>[dS s])]⟩) [4,5,0] 1 s.length ⟨0,0,[],by omega,rfl,Pm.hid rfl,Pm.hid (by simp),by simp,rfl⟩ (round:=?_)
 rintro m st ⟨k,g,out,hk,rfl,hO,hX,hlen,rfl⟩
 by_cases h20:s.length<=2048/\k<s.length
 rotate_left
 ·have hA: ∀x∈out,x.length<=Pm.big:=fun x hx=>by have:=hX.out x hx;unfold Pm.big;omega
  have c:=(Qk3 out (by unfold Pm.big;omega) hA).arg (l:=[tStrs out])
  have hr:AM (Qb5 s=if(Pl.Qdi out).isSome=true/\(Pl.Qdi out).getD []=s then(out,true) else([],false)):=by
   refine Pm.hid ?_;split
   ·rename_i h
    obtain⟨t,ht⟩:=Option.isSome_iff_exists.1 h.1;rw[ht] at h;exact rg_is (by rw[<-Pl.QgH,ht];exact congrArg some h.2)
   ·rename_i h
    refine QiM fun l hl=>h ?_
    have hk2:k=s.length:=by have:=hl.2.1;omega
    have ho:=hO.out;rw[hk2,List.drop_length,AL] at ho;have:l=out:=Pl.Qsz (hl.2.2.trans ho);subst this;rw[Pl.QgH.2 hl];exact⟨rfl,rfl⟩
  generalize (Pl.Qdi out).getD []=t at*;generalize (Pl.Qdi out).isSome=ok at*;clear hA hX hO
  repeat' first|refine kA ?_|refine kV ?_ ?_<;>intro q|fail
  ·exfalso;simp at*;omega
  all_goals
   refine Qe4 0 (h:=?_)
   repeat' first|refine kA ?_|refine kV ?_ ?_<;>intro q|fail
   all_goals
    (first|refine Qb (hx:=?_)|(refine Qa 1 (h:=?_);refine Qb (hx:=?_)))
    rw[hr.out]
    simp_all
 obtain⟨h20,hlt⟩:=h20;obtain⟨n,m,hq⟩: ∃n m,Pl.l1num (s.drop k)=(n,m):=⟨_,_,rfl⟩;have c:=al1Num (s.drop k) (by rw[AA];unfold Pm.big;omega);have hle:=Pl.QtX (s.drop k);have hn9:=Pl.QtW (s.drop k);rw[hq] at c hle hn9;simp only[AA] at hle hn9;obtain⟨b,hb⟩: ∃b,b=(s.drop k).getD m 0:=⟨_,rfl⟩;have hb1:k+m<s.length->(s.drop k)[m]? =some b:=fun h=>by rw[hb,A1,A0 (by rw[AA];omega)];rfl
 have hb2:AM (k+m<s.length->s[((k:Int)+(m:Int)).toNat]? =some b):=fun h=>by
  have:=hb1 h;rw[List.getElem?_drop] at this;exact this
 have hb3:((b.toNat:Nat):Int)=58↔b=58:=⟨fun h=>Ae.1 (by have:((58:UInt8).toNat:Int)=58:=rfl;omega),fun h=>by rw[h];rfl⟩
 have F:AM ((m=0∨s.length<=k+m∨((b.toNat:Nat):Int)≠58∨s.length -k -m -1<n)->Qb5 s=([],false)):=fun h=>by
  refine QiM (Pl.Qrk h20 hlt hO.out hq ?_)
  by_cases h1:m=0
  ·exact .inl h1
  by_cases h2:s.length<=k+m
  ·exact .inr (.inl (by rw[AH (by rw[AA];omega)];simp))
  refine .inr ?_;rw[hb1 (by omega),AA]
  by_cases h3:b=58
  ·exact .inr (by have h4:=hb3.2 h3;omega)
  ·exact .inl (by simpa using h3)
 have T:AM (0<m->k+m<s.length->((b.toNat:Nat):Int)=58->n<=s.length -k -m -1->s=Pl.enc (out++[(s.drop (k+m+1)).take n])++s.drop (k+m+1+n)):=fun h1 h2 h3 h4=>by
  exact Pl.Qrj hO.out hq h1 (by rw[hb1 h2,hb3.1 h3]) (by rw[AA];omega)
 clear hO hq hb hb1 hb3
 repeat' first|refine kS ?_|refine qS (Qfw rfl rfl rfl (by omega) (by omega)) ?_|refine qS (Qen Ty.h rfl rfl rfl (by omega) (hb2.out (by simp only[decide_eq_true_eq,decide_eq_false_iff_not,beq_eq_false_iff_ne] at*;omega))) ?_|refine qS (Qg2 rfl rfl rfl rfl (by omega) (by omega) (by simp only[decide_eq_true_eq,decide_eq_false_iff_not,beq_eq_false_iff_ne] at*;omega)) ?_|refine QU Ty.h rfl Ty.h (hb:=?_) (kk:=?_)|refine kU ?_|refine kV ?_ ?_<;>intro q|fail
 all_goals first|exfalso;simp only[decide_eq_true_eq,decide_eq_false_iff_not,beq_eq_false_iff_ne] at*;omega|simp;omega|((refine Qa 1 (h:=?_);refine Qb (hx:=?_));rw[F.out (by simp at*;omega)];rfl)|skip
 have e1:0<m/\k+m<s.length/\((b.toNat:Nat):Int)=58/\n<=s.length -k -m -1:=by simp only[decide_eq_true_eq,decide_eq_false_iff_not,beq_eq_false_iff_ne,bne_eq_false_iff_eq] at*;omega
 obtain⟨e1,e2,e3,e4⟩:=e1;refine Qn (s.length -(k+m+1+n)) (by omega) ⟨k+m+1+n,g+1,out++[(s.drop (k+m+1)).take n],by omega,rfl,Pm.hid (T.out e1 e2 e3 e4),Pm.hid ?_,by simp;omega,?_⟩
 ·intro x hx
  rcases Ad.1 hx with hx|hx
  ·exact hX.out x hx
  ·rw[List.mem_singleton] at hx;subst hx
   rw[AQ,AA];omega
 ·have t1:((k:Int)+(m:Int)+1).toNat=k+m+1:=by omega
  have t2:((k:Int)+(m:Int)+1+(n:Int)).toNat=k+m+1+n:=by omega
  have t3:k+m+1+n -(k+m+1)=n:=by omega
  simp[keepE,go_sem,t1,t2,t3,List.drop_take]
end Aw
end
section
namespace Aw
variable{E:Qi->List Ql×Bool}{ns:List Qi}{p:List (List UInt8)}
def Qao(s:Pm.Store)(t:Pl.Tree):Bool:=Q8 s t&&(Qc s t).all fun x=>(x==[])||((Qq x).2&&Q8 s (Qq x).1.tree)
def Qe(s:Pm.Store)(t:Pl.Tree):List Qi:=(Qc s t).map fun x=>(Qq x).1
def Qa5(l:List (List UInt8))(k:Nat):Bool:= !(l.getD k []==[])&&(decide (k+1=l.length)||decide ((l.getD k []).length=128))
def QaT(l:List (List UInt8)):List UInt8×Bool:=if(A7 l.length).all (Qa5 l) then(l.flatten,true) else([],false)
def Qf(s:Pm.Store)(n:Qi):List Ql×Bool:=
 if QL n&&(n.kind==2)&&Q8 s n.tree&&(QaT (Qc s n.tree)).2&&decide (((QaT (Qc s n.tree)).1.length:Int)=n.size) then QbZ (QaT (Qc s n.tree)).1 else([],false)
def Qbe(size:Int)(k:Nat):Int:=if size -k*12<12 then size -k*12 else 12
def QaQ(size:Int)(l:List (List UInt8))(k:Nat):Bool:=decide (((l.getD k []).length:Int)<=Qbe size k)&&(QaS (l.getD k [])==l.getD k [])
def Qa0(s:Pm.Store)(n:Qi):Bool:=
 QL n&&(n.kind==1)&&Q8 s n.tree&&(A7 n.tree.many.toNat).all (QaQ n.size (Qc s n.tree))
abbrev QaW:=List (List UInt8)×Int
def QaI(p:List (List UInt8)):List UInt8:=if p=[] then [47] else p.flatMap (47:: ·)
abbrev rFnd(x:QaW):List D:=[dS (QaI x.1),dI x.2]
def Qbi(ns:List Qi)(E:Qi->List Ql×Bool):Nat->QaW->List QaW->List QaW×Bool
 |0,_,out=>(out,false)
 |n+1,at',out=>
  if 144<out.length+1∨Pl.inR at'.2 0 (ns.length -1)=false∨(ns.getD at'.2.toNat Qd).kind=0 then(out++[at'],false) else
  if(ns.getD at'.2.toNat Qd).kind=1 then(out++[at'],true) else
  (E (ns.getD at'.2.toNat Qd)).1.foldl (fun r e=>if r.2 then Qbi ns E n (at'.1++[e.1],e.2) r.1 else r) (out++[at'],(E (ns.getD at'.2.toNat Qd)).2)
def Qb4(ns:List Qi)(E:Qi->List Ql×Bool)(n:Nat)(p:List (List UInt8))(l:List Ql)(r:List QaW×Bool):List QaW×Bool:=
 l.foldl (fun r e=>if r.2 then Qbi ns E n (p++[e.1],e.2) r.1 else r) r
def Qic(ns:List Qi)(E:Qi->List Ql×Bool)(n:Nat)(p:List (List UInt8)): ∀(l:List Ql) (out:List QaW),Qb4 ns E n p l (out,false)=(out,false)
 |[],_=>rfl
 |e::l,out=>by unfold Qb4;rw[List.foldl_cons];exact Qic ns E n p l out
theorem QfC(ns:List Qi)(E:Qi->List Ql×Bool)(n:Nat)(p:List (List UInt8))(e:Ql)(l:List Ql)(out:List QaW):Qb4 ns E n p (e::l) (out,true)=Qb4 ns E n p l (Qbi ns E n (p++[e.1],e.2) out):=by
 unfold Qb4;grind
def QqE(ns:List Qi)(E:Qi->List Ql×Bool): ∀(n:Nat) (x:QaW) (out:List QaW),out.length<=(Qbi ns E n x out).1.length/\(0<n->out.length<(Qbi ns E n x out).1.length)
 |0,x,out=>⟨AN _,fun h=>absurd h (by decide)⟩
 |n+1,x,out=>by
  have hf: ∀(l:List Ql) (r:List QaW×Bool),r.1.length<=(Qb4 ns E n x.1 l r).1.length:=by
   intro l;induction l with
   |nil=>intro r;exact AN _
   |cons e l ih=>
    rintro⟨o,b⟩;cases b
    ·rw[Qic];omega
    ·rw[QfC];exact AZ (QqE ns E n _ o).1 (ih _)
  have h:out.length<(Qbi ns E (n+1) x out).1.length:=by
   unfold Qbi;split
   ·simp
   ·split
    ·simp
    ·exact Nat.lt_of_lt_of_le (by simp) (hf _ _)
  omega
def Qo(ns:List Qi)(k:Nat):Nat:=(ns.getD k Qd).kind.toNat
def QaL(ns:List Qi)(E:Qi->List Ql×Bool)(k:Nat):Option Gr.En:=if(E (ns.getD k Qd)).2 then some ((E (ns.getD k Qd)).1.map fun e=>(e.1,e.2.toNat)) else none
structure QcN(ns:List Qi)(E:Qi->List Ql×Bool):Prop where
 kind: ∀n∈ns,n.kind=0∨n.kind=1∨n.kind=2
 ids: ∀n,∀e∈(E n).1,0<=e.2
def Qej(h:QcN ns E)(k:Nat):(ns.getD k Qd).kind=0∨(ns.getD k Qd).kind=1∨(ns.getD k Qd).kind=2:=by
 rw[A1];cases hk:ns[k]? with
 |none=>exact .inl rfl
 |some n=>exact h.kind n (A2 hk)
def Qd9{k:Nat}(h:Qo ns k≠0):k<ns.length:=by
 rcases Ak k ns.length with h1|h1
 ·exact h1
 ·exfalso;apply h
  unfold Qo;rw[A1,AH h1];rfl
def QbG(x:Gr.It):QaW:=(x.1,(x.2:Int))
theorem Qtq(hN:QcN ns E){r L:List Gr.It}(h:Gr.FP (Qo ns) (QaL ns E) r L):
 ∀(n:Nat) (p:List (List UInt8)) (l:List Ql) (out:List QaW),(∀e∈l,0<=e.2)->r=l.map (fun e=>(p++[e.1],e.2.toNat))->out.length+L.length<=144->145<=out.length+n->Qb4 ns E n p l (out,true)=(out++L.map QbG,true):=by
 induction h with
 |nil=>
  intro n p l out h0 hr _ _;cases l with
  |nil=>simp[Qb4]
  |cons e l=>cases hr
 |@file p' k r L hk h ih=>
  intro n p l out h0 hr hl hn;cases l with
  |nil=>cases hr
  |cons e l=>
   simp only[AY,AK,Aj] at hr;obtain⟨⟨rfl,rfl⟩,rfl⟩:=hr;have he:=h0 e A4;rw[AI] at hl;obtain⟨n,rfl⟩: ∃m,n=m+1:=⟨n -1,by omega⟩;have hlt:=Qd9 (k:=e.2.toNat) (ns:=ns) (by omega);have hkind:(ns.getD e.2.toNat Qd).kind=1:=by unfold Qo at hk;omega
   have hw:Qbi ns E (n+1) (p++[e.1],e.2) out=(out++[(p++[e.1],e.2)],true):=by
    unfold Qbi;rw[if_neg,if_pos hkind];simp only[Pl.inR,hkind];simp;omega
   rw[QfC,hw,ih (n+1) p l _ (fun e h=>h0 e (A5 _ h)) rfl (by simp;omega) (by simp;omega)];simp[QbG];omega
 |@dir p' k es r L1 L2 hk hes h1 h2 ih1 ih2=>
  intro n p l out h0 hr hl hn;cases l with
  |nil=>cases hr
  |cons e l=>
   simp only[AY,AK,Aj] at hr;obtain⟨⟨rfl,rfl⟩,rfl⟩:=hr;have he:=h0 e A4;rw[AI,AF] at hl;obtain⟨n,rfl⟩: ∃m,n=m+1:=⟨n -1,by omega⟩;have hlt:=Qd9 (k:=e.2.toNat) (ns:=ns) (by omega);have hkind:(ns.getD e.2.toNat Qd).kind=2:=by unfold Qo at hk;omega
   unfold QaL at hes;split at hes;rotate_left
   ·cases hes
   rename_i hE;obtain rfl:=AE hes
   have hw:Qbi ns E (n+1) (p++[e.1],e.2) out=Qb4 ns E n (p++[e.1]) (E (ns.getD e.2.toNat Qd)).1 (out++[(p++[e.1],e.2)],true):=by
    rw[<-hE]
    conv=>lhs;unfold Qbi
    rw[if_neg,if_neg]
    ·rfl
    ·grind
    ·simp only[Pl.inR,hkind]
     simp;omega
   rw[QfC,hw,ih1 n (p++[e.1]) _ _ (hN.ids _) (by simp[Gr.kids]) (by simp;omega) (by simp;omega),ih2 (n+1) p l _ (fun e h=>h0 e (A5 _ h)) rfl (by simp;omega) (by simp;omega)];simp[QbG];omega
theorem Qul(hN:QcN ns E): ∀(n:Nat) (l:List Ql) (p:List (List UInt8)) (out:List QaW),(∀e∈l,0<=e.2)->(Qb4 ns E n p l (out,true)).2=true->
 ∃L,Gr.FP (Qo ns) (QaL ns E) (l.map fun e=>(p++[e.1],e.2.toNat)) L/\Qb4 ns E n p l (out,true)=(out++L.map QbG,true)/\(out.length<=144->out.length+L.length<=144):=by
 intro n;induction n with
 |zero=>
  intro l p out h0 h;cases l with
  |nil=>exact⟨[],.nil,by simp[Qb4],by simp⟩
  |cons e l=>rw[QfC] at h;unfold Qbi at h;rw[Qic] at h;cases h
 |succ n ihn=>
  intro l;induction l with
  |nil=>intro p out h0 h;exact⟨[],.nil,by simp[Qb4],by simp⟩
  |cons e l ihl=>
   intro p out h0 h;have he:=h0 e A4;rw[QfC] at h⊢
   have hw: ∃M,Gr.FP (Qo ns) (QaL ns E) [(p++[e.1],e.2.toNat)] M/\Qbi ns E (n+1) (p++[e.1],e.2) out=(out++M.map QbG,true)/\out.length+M.length<=144:=by
    have hb:(Qbi ns E (n+1) (p++[e.1],e.2) out).2=true:=by
     cases hx:Qbi ns E (n+1) (p++[e.1],e.2) out with
     |mk o b=>
      cases b
      ·rw[hx,Qic] at h;cases h
      ·rfl
    unfold Qbi at hb⊢;split at hb
    ·cases hb
    rename_i hc;rw[if_neg hc];simp only[not_or] at hc;obtain⟨c1,c2,c3⟩:=hc;split at hb
    ·rename_i hk
     rw[if_pos hk];refine⟨[(p++[e.1],e.2.toNat)],.file (by unfold Qo;grind) .nil,?_,by simp;omega⟩;simp[QbG];omega
    ·rename_i hk
     rw[if_neg hk]
     have hk2:(ns.getD e.2.toNat Qd).kind=2:=by
      have c3': ¬(ns.getD e.2.toNat Qd).kind=0:=c3;have hk': ¬(ns.getD e.2.toNat Qd).kind=1:=hk;rcases Qej hN e.2.toNat with h|h|h<;>omega
     generalize hEe:E (ns.getD e.2.toNat Qd)=Ee at hb⊢;obtain⟨es,ok⟩:=Ee;cases ok
     ·change (Qb4 ns E n (p++[e.1]) es (out++[(p++[e.1],e.2)],false)).2=true at hb
      rw[Qic] at hb;cases hb
     ·obtain⟨L1,g1,g2,g3⟩:=ihn es (p++[e.1]) (out++[(p++[e.1],e.2)]) (fun x hx=>hN.ids (ns.getD e.2.toNat Qd) x (by grind)) hb
      have g3:=g3 (by simp;omega);refine⟨(p++[e.1],e.2.toNat)::(L1++[]),.dir (es:=es.map fun e=>(e.1,e.2.toNat)) (by unfold Qo;omega) ?_ ?_ .nil,?_,?_⟩
      ·unfold QaL;grind
      ·unfold Gr.kids;rw[AR];exact g1
      ·refine Eq.trans g2 ?_
       simp[QbG];omega
      grind
   obtain⟨M,m1,m2,m3⟩:=hw;rw[m2] at h⊢;obtain⟨L,g1,g2,g3⟩:=ihl p _ (fun e h=>h0 e (A5 _ h)) h;have g3:=g3 (by simp;omega);refine⟨M++L,?_,by grind,fun _=>by grind⟩;cases m1 with
   |file hk hz=>cases hz;exact .file hk g1
   |dir hk he h1 hz=>cases hz;rw[AL];exact .dir hk he h1 g1
def Qz(s:List UInt8):Option (List (List UInt8)):=
 if s=[47] then some [] else if s.head? =some 47/\(Pl.cutB 47 s).tail.all Qac=true/\(Pl.cutB 47 s).tail.length<=4 then some (Pl.cutB 47 s).tail else none
def Qgq(b:UInt8)(r:List UInt8):Pl.cutB b (b::r)=[]::Pl.cutB b r:=Pl.Qes b [] r (by simp)
def QlG: ∀(p:List (List UInt8)),(∀n∈p,(47:UInt8)∉n)->Pl.cutB 47 (p.flatMap (47:: ·))=[]::p
 |[],_=>rfl
 |n::q,h=>by
  have ih:=QlG q fun x hx=>h x (A5 _ hx)
  rw[Aa,Ac,Qgq]
  congr 1
  cases q with
  |nil=>rw[List.flatMap_nil,AL];exact Pl.QeL 47 n (h n A4)
  |cons m q=>
   rw[Aa,Ac] at ih⊢;rw[Qgq] at ih;rw[Pl.Qes 47 n _ (h n A4),List.tail_eq_of_cons_eq ih]
def QcM(p:List (List UInt8)):Prop:= ∀n∈p,(47:UInt8)∉n/\n≠[]
def QrC(h: ∀n∈p,Qac n=true):QcM p:=fun n hn=>⟨Qg1 (h n hn) (by decide),by
 rintro rfl;have:=h [] hn;simp[Qac] at this⟩
def QlF(h:QcM p)(hp:p≠[]):Pl.cutB 47 (QaI p)=[]::p:=by
 unfold QaI;rw[if_neg hp];exact QlG p fun n hn=>(h n hn).1
def QjO(h:QcM p):QaI p=[47]↔p=[]:=by
 constructor
 ·intro hs
  cases p with
  |nil=>rfl
  |cons n q=>
   have h1:=QlF h (by simp);rw[hs] at h1;have h2:Pl.cutB 47 [47]=[[],[]]:=by decide
   rw[h2] at h1;simp only[AK,true_and] at h1;exact absurd h1.1.symm (h n A4).2
 ·rintro rfl;rfl
theorem Qpw(p:List (List UInt8))(n:List UInt8):QaI (p++[n])=if p=[] then 47::n else QaI p++47::n:=by
 unfold QaI
 simp_all
theorem Qe9{s:List UInt8}:Qz s=some p↔(p.all Qac=true/\p.length<=4/\QaI p=s):=by
 unfold Qz;constructor
 ·intro h
  split at h
  ·rename_i hs;obtain rfl:=AE h;exact⟨rfl,by simp,hs.symm⟩
  ·split at h
   ·rename_i hs
    obtain rfl:=AE h;refine⟨hs.2.1,hs.2.2,?_⟩;cases s with
    |nil=>cases hs.1
    |cons c r=>
     obtain rfl:c=47:=by grind
     rw[Qgq,Ah];unfold QaI;rw[if_neg (Pl.QgY 47 r)];have hj:=Pl.Qh3 47 r
     have hg: ∀l:List (List UInt8),l≠[]->l.flatMap (47:: ·)=47::(l.intersperse [47]).flatten:=by
      intro l;induction l with
      |nil=>grind
      |cons a l ih=>
       intro _;cases l with
       |nil=>simp
       |cons b l=>
        simp_all
     rw[hg _ (Pl.QgY 47 r),hj]
   ·cases h
 ·rintro⟨h1,h2,rfl⟩
  have hP:=QrC fun n hn=>AC.1 h1 n hn
  by_cases hp:p=[]
  ·subst hp;rfl
  ·have hh:(QaI p).head? =some 47:=by
    unfold QaI;rw[if_neg hp];cases p with
    |nil=>grind
    |cons n q=>rfl
   rw[if_neg (fun e=>hp ((QjO hP).1 e)),QlF hP hp,Ah,if_pos ⟨hh,h1,h2⟩]
def Qa6(f:Nat->Int):Nat->Int
 |0=>0
 |n+1=>Qa6 f n+f n
def QeO{f g:Nat->Int}: ∀{n:Nat},(∀k,k<n->f k=g k)->Qa6 f n=Qa6 g n
 |0,_=>rfl
 |n+1,h=>by unfold Qa6;rw[QeO fun k hk=>h k (by omega),h n (by omega)]
theorem QiI{f:Nat->Int}{l:List Nat}{k:Nat}(hl:k∉l): ∀{n:Nat},Qa6 (fun i=>if i∈l++[k] then f i else 0) n=Qa6 (fun i=>if i∈l then f i else 0) n+if k<n then f k else 0
 |0=>by simp[Qa6]
 |n+1=>by
  have ih:=QiI (f:=f) hl (n:=n);show Qa6 (fun i=>if i∈l++[k] then f i else 0) n+(if n∈l++[k] then f n else 0)=Qa6 (fun i=>if i∈l then f i else 0) n+(if n∈l then f n else 0)+_
  grind
end Aw
end
section
open Go.RowKit
namespace Aw
attribute [local irreducible] ASeq ADraw AWP Loc
def ptrPut_len(p:Pl.Ptr):(Pl.ptrPut p).length<=Pm.big:=by
 unfold Pl.ptrPut;split
 ·split
  ·decide
  ·unfold Pl.ptrText Pl.dots
   rename_i h _;have hb:=Pl.QdC h;have h1:=Pl.Qdb 8 p.pat.toNat (by omega);have h2:=Pl.Qdb 8 p.birth.toNat (by omega);have h3:=Pl.Qdb 8 p.size.toNat (by omega);have h4:=Pl.Qdb 8 p.sum.toNat (by omega);have h5:=Pl.Qdb 8 p.level.toNat (by omega);simp[List.intersperse,Pm.big];omega
 ·decide
def Qpm(n:Qi):Pure A8 83 [dNode n] (dS (Q9 n)):=by
 have c:=aNodeOk n;have hd:=Pm.hid (Q9.eq_def n);cases h:QL n
 ·rw[h] at c
  refine kE ?_;refine Qa 0 (h:=?_)
  repeat refine kA ?_
  refine Qb (hx:=?_);rw[hd.out,h];rfl
 ·rw[h] at c
  have hb:=Qe5 h;have h1:=hb.kind;have h2:=hb.links;have h3:=hb.size;have h4:=hb.depth;have h5:=hb.many;obtain⟨kind,links,size,⟨root,depth,many⟩⟩:=n;simp only at h1 h2 h3 h4 h5;obtain⟨kind,rfl⟩:=A9 (show 0<=kind by omega);obtain⟨links,rfl⟩:=A9 (show 0<=links by omega);obtain⟨size,rfl⟩:=A9 h3.1;obtain⟨depth,rfl⟩:=A9 h4.1;obtain⟨many,rfl⟩:=A9 h5.1;have e:AM (Q9 ⟨kind,links,size,⟨root,depth,many⟩⟩=(Pl.Qdi [Pl.dec kind,Pl.dec links,Pl.dec size,Pl.ptrPut root,Pl.dec depth,Pl.dec many,[101,110,100]]).getD []):=Pm.hid (by rw[hd.out,h];rfl);have c1:=al6Dec kind (by omega);have c2:=al6Dec links (by omega);have c3:=al6Dec size (by omega);have c4:=al6Dec depth (by omega);have c5:=al6Dec many (by omega);have hl: ∀k,k<=4294967296->(Pl.dec k).length<=Pm.big:=fun k hk=>AZ (Pl.Qdb 10 k (by omega)) (by decide)
  have cp:=(Qk3 [Pl.dec kind,Pl.dec links,Pl.dec size,Pl.ptrPut root,Pl.dec depth,Pl.dec many,[101,110,100]] (by simp[Pm.big]) (by
   intro x hx;simp only[Ai,List.not_mem_nil,or_false] at hx;rcases hx with rfl|rfl|rfl|rfl|rfl|rfl|rfl
   ·exact hl _ (by omega)
   ·exact hl _ (by omega)
   ·exact hl _ (by omega)
   ·exact ptrPut_len root
   ·exact hl _ (by omega)
   ·exact hl _ (by omega)
   ·decide)).arg (l:=[tStrs [Pl.dec kind,Pl.dec links,Pl.dec size,Pl.ptrPut root,Pl.dec depth,Pl.dec many,[101,110,100]]])
  have c6:=aPtrPut root;clear hd hb h h1 h2 h3 h4 h5 hl;generalize Pl.Qdi [Pl.dec kind,Pl.dec links,Pl.dec size,Pl.ptrPut root,Pl.dec depth,Pl.dec many,[101,110,100]]=r at*;generalize Pl.ptrPut root=rt at*;generalize Pl.dec kind=d1 at*;generalize Pl.dec links=d2 at*;generalize Pl.dec size=d3 at*;generalize Pl.dec depth=d4 at*;generalize Pl.dec many=d5 at*;refine kE ?_;refine Qa 0 (h:=?_)
  repeat' first|refine kS ?_|refine qD (QeB cK cp rfl) ?_|refine kU ?_|fail
  exact Qb (hx:=by rw[e.out])
def Qri{s:List UInt8}{l:List (List UInt8)}(h:Pl.IsRec s l): ∀x∈l,x.length<=2048:=by
 intro x hx;obtain⟨a,b,rfl⟩:=List.append_of_mem hx;have h1:=h.2.1;rw[<-h.2.2,Pl.Qf2,Pl.Qfg,AF,AF,Pl.QgS] at h1;omega
theorem QiC(s:List UInt8)(hs:s.length<=Pm.big):Pure A8 49 [dS s] (.tup [dNode (Qq s).1,dB (Qq s).2]):=by
 have c:=Qq8 s hs;rcases Qok s with⟨hr,hok⟩|h0;rotate_left
 ·have hn:AM (Qq s=(Qd,false)):=Pm.hid (Qi0 (.inl (by rw[h0])))
  rw[h0] at c;refine kC ?_
  repeat refine kA ?_
  (refine Qa 0 (h:=?_);refine QY (hx:=?_))
  rw[hn.out];rfl
 by_cases h7:(Qb5 s).1.length=7
 rotate_left
 ·have hn:AM (Qq s=(Qd,false)):=Pm.hid (Qi0 (.inr h7))
  rw[hok] at c;generalize (Qb5 s).1=l at*;clear hr hok;refine kC ?_
  repeat' first|refine kA ?_|refine kV ?_ ?_<;>intro q|fail
  all_goals first|exfalso;simp only[bne_eq_false_iff_eq] at*;omega|((refine Qa 0 (h:=?_);refine QY (hx:=?_));rw[hn.out];rfl)
 rw[hok] at c;generalize (Qb5 s).1=l at*
 match l,h7 with
 |[x1,x2,x3,x4,x5,x6,x7],_=>
 have hl:=Qri hr;have hg:=Pm.hid (QuY hr);have cn: ∀x∈[x1,x2,x3,x4,x5,x6,x7],Pure A8 100 [dS x] (.tup [dI ((Pl.numGet x).getD 0:Nat),dB (Pl.numGet x).isSome]):=fun x hx=>aNumGet x (by have:=hl x hx;unfold Pm.big;omega)
 have c1:=cn x1 (by simp);have c2:=cn x2 (by simp);have c3:=cn x3 (by simp);have c5:=cn x5 (by simp);have c6:=cn x6 (by simp);have c4:=aPtrGet x4 (by have:=hl x4 (by simp);omega);have ck:=aNodeOk (Qbd x1 x2 x3 x4 x5 x6);have cp:=Qpm (Qbd x1 x2 x3 x4 x5 x6)
 have hp:AM (QL (Qbd x1 x2 x3 x4 x5 x6)=false-> ¬Q9 (Qbd x1 x2 x3 x4 x5 x6)=s):=fun h e=>by
  unfold Q9 at e;rw[h] at e;exact Qrh hr e.symm
 obtain⟨N,hN⟩: ∃N,N=Qbd x1 x2 x3 x4 x5 x6:=⟨_,rfl⟩;rw[<-hN] at ck cp hg hp;unfold Qbd at hN;clear cn hl hr hok;generalize (Pl.numGet x1).getD 0=n1 at*;generalize (Pl.numGet x2).getD 0=n2 at*;generalize (Pl.numGet x3).getD 0=n3 at*;generalize (Pl.numGet x5).getD 0=n5 at*;generalize (Pl.numGet x6).getD 0=n6 at*;generalize (QE x4).1=pp at*;obtain⟨p1,p2,p3,p4,p5⟩:=pp;generalize QL N=ok at*;generalize Q9 N=t at*;subst hN;refine kC ?_
 repeat' first|refine kS ?_|refine qS (iy rfl) ?_|refine kU ?_|refine kV ?_ ?_<;>intro q|fail
 ·(refine Qa 0 (h:=?_);refine QY (hx:=?_))
  rw[hg.out,if_neg (hp.out (by simpa using q))];rfl
 ·(refine Qa 0 (h:=?_);refine QY (hx:=?_))
  rw[hg.out,if_neg (by simpa using q)];rfl
 ·(refine Qa 0 (h:=?_);refine QY (hx:=?_))
  rw[hg.out,if_pos (by simpa using q)]
end Aw
end
section
namespace Aw
variable{t:Pl.Tree}
def Qgt: ∀x:List UInt8,A3 x x=false
 |[]=>rfl
 |a::x=>by simp[A3,Qgt x]
def bl_cons(a b:UInt8)(x y:List UInt8):A3 (a::x) (b::y)=true↔a<b∨a=b/\A3 x y=true:=by simp[A3]
theorem Qlk: ∀{x y z:List UInt8},A3 x y=true->A3 y z=true->A3 x z=true
 |[],[],_,h,_=>by omega
 |[],_::_,[],_,h=>by simp[A3] at h
 |[],_::_,_::_,_,_=>by simp[A3]
 |_::_,[],_,h,_=>by simp[A3] at h
 |_::_,_::_,[],_,h=>by simp[A3] at h
 |a::x,b::y,c::z,h1,h2=>by
  rw[bl_cons] at*;rcases h1 with h1|⟨rfl,h1⟩
  ·grind
  ·rcases h2 with h2|⟨rfl,h2⟩
   ·grind
   ·exact .inr ⟨rfl,Qlk h1 h2⟩
theorem QoG{l:List Ql}(h:Qaa l=true){i:Nat}(hi:i+1<l.length):A3 (l[i]'(by omega)).1 (l[i+1]).1=true:=by
 unfold Qaa at h;rw[A6,AC] at h;have:=h.1 (i+1) (AX.2 hi);unfold QaJ at this
 grind
theorem Qlc{l:List Ql}(h:Qaa l=true){i:Nat}: ∀{j:Nat} (hj:j<l.length) (hij:i<j),A3 (l[i]'(by omega)).1 (l[j]).1=true
 |j+1,hj,hij=>by
  by_cases hi:i=j
  ·subst hi;exact QoG h hj
  ·exact Qlk (Qlc h (show j<l.length by omega) (by omega)) (QoG h hj)
theorem Qmp{l:List Ql}(h:Qaa l=true):(l.map (·.1)).Nodup:=by
 rw[List.nodup_iff_pairwise_ne,List.pairwise_iff_getElem];intro i j hi hj hij e;simp only[List.getElem_map] at*;have:=Qlc h (show j<l.length by grind) hij;rw[e,Qgt] at this;cases this
theorem Qd0(s:Pm.Store)(n:Qi):(Qf s n).2=true/\Qaa (Qf s n).1=true∨Qf s n=([],false):=by
 unfold Qf;split
 ·rcases QoJ (QaT (Qc s n.tree)).1 with h|h
  ·exact .inl ⟨h.2,h.1.1⟩
  grind
 grind
theorem Qit(s:Pm.Store)(n:Qi): ∀e∈(Qf s n).1,Qac e.1=true/\1<=e.2/\e.2<=15:=by
 rcases Qd0 s n with h|h
 ·exact ent_b h.2
 grind
theorem QeD{s:Pm.Store}{n:Qi}(h:(Qf s n).2=true):n.kind=2:=by
 unfold Qf at h
 grind
theorem Qfv(s:Pm.Store)(t:Pl.Tree)(k:Nat):(Qe s t).getD k Qd=Qd∨NodeB ((Qe s t).getD k Qd):=by
 rw[A1];cases h:(Qe s t)[k]? with
 |none=>grind
 |some n=>
  have hm:=A2 h;unfold Qe at hm;obtain⟨x,_,rfl⟩:=AS.1 hm;rcases QiU x with h|h
  ·grind
  grind
def nsOk(s:Pm.Store)(t:Pl.Tree):QcN (Qe s t) (Qf s):=by
 refine⟨fun n hn=>?_,fun n e he=>by have:=Qit s n e he;omega⟩;unfold Qe at hn;obtain⟨x,_,rfl⟩:=AS.1 hn;rcases QiU x with h|h
 ·exact .inr h.kind
 ·rw[h];exact .inl rfl
def Qa4(ns:List Qi)(k:Nat):Nat:=(ns.getD k Qd).links.toNat
def texts_len(s:Pm.Store)(h:Qx t):(Qc s t).length=t.many.toNat:=by
 unfold Qc;rw[Af,AQ,QdG s h.hi];have:=h.manyHi;omega
theorem graph(s:Pm.Store)(ht:Qx t)(h0:((Qe s t).getD 0 Qd).kind=2):
 Gr.Nodes (Qo (Qe s t)) (Gr.chOf (QaL (Qe s t) (Qf s))) (Qa4 (Qe s t)) (Qe s t).length:=by
 have hb: ∀k,Qo (Qe s t) k≠0->NodeB ((Qe s t).getD k Qd):=fun k hk=>by
  rcases Qfv s t k with h|h
  ·unfold Qo at hk;rw[h] at hk;exact absurd rfl hk
  ·exact h
 refine⟨by unfold Qo;omega,fun k=>?_,fun k hk=>Qd9 hk,?_,fun k hk=>?_,fun k hk=>?_,fun k cs hc e he=>?_⟩
 ·unfold Qo
  rcases Qfv s t k with h|h
  ·rw[h];decide
  ·have:=h.kind;omega
 ·unfold Qe;rw[Af,texts_len s ht];have:=ht.manyHi;omega
 ·have:=(hb k hk).links;unfold Qa4;omega
 ·have h:=hb k (by omega)
  have:=h.one (by unfold Qo at hk;omega);unfold Qa4;omega
 ·unfold Gr.chOf QaL at hc
  split at hc
  ·simp only[Option.map_some,Al] at hc
   subst hc;rw[AR] at he;obtain⟨x,hx,rfl⟩:=AS.1 he;have:=Qit s _ x hx
   grind
  ·cases hc
def QaN(s:Pm.Store)(t:Pl.Tree):List QaW×Bool:=Qbi (Qe s t) (Qf s) 145 ([],0) []
def Pl.many(out:List QaW)(k:Nat):Nat:=(out.map (·.2)).count (k:Int)
def Qa1(s:Pm.Store)(ns:List Qi)(out:List QaW)(k:Nat):Bool:=
 ((ns.getD k Qd).kind==0||((Pl.many out k:Int)==(ns.getD k Qd).links))&&(!((ns.getD k Qd).kind==1)||Qa0 s (ns.getD k Qd))
def Qaf(s:Pm.Store)(t:Pl.Tree):Bool:=
 Qao s t&&((Qe s t).getD 0 Qd).kind==2&&(QaN s t).2&&(A7 (Qe s t).length).all (Qa1 s (Qe s t) (QaN s t).1)
structure QcR(s:Pm.Store)(t:Pl.Tree):Prop where
 tab:Qao s t=true
 root:((Qe s t).getD 0 Qd).kind=2
 file: ∀k,((Qe s t).getD k Qd).kind=1->Qa0 s ((Qe s t).getD k Qd)=true
 dir: ∀k,((Qe s t).getD k Qd).kind=2->(Qf s ((Qe s t).getD k Qd)).2=true
 linked: ∃nm,Gr.bfs (Qo (Qe s t)) (Gr.chOf (QaL (Qe s t) (Qf s))) (1+Gr.left (Qo (Qe s t)) (Qe s t).length []) [0] []=some nm/\
  ∀k,k≠0->Qo (Qe s t) k≠0->nm.count k=Qa4 (Qe s t) k
theorem QhG(L:List Gr.It)(k:Nat):Pl.many (L.map QbG) k=(L.map (·.2)).count k:=by
 unfold Pl.many;rw[AR];induction L with
 |nil=>rfl
 |cons x L ih=>
  simp only[AY,List.count_cons,ih,Function.comp,QbG]
  grind
theorem Qse(s:Pm.Store)(h0:((Qe s t).getD 0 Qd).kind=2)(L:List Gr.It):
 (QaN s t=(L.map QbG,true)/\L.length<=144/\Gr.FP (Qo (Qe s t)) (QaL (Qe s t) (Qf s)) [([],0)] L)↔
 (Gr.FP (Qo (Qe s t)) (QaL (Qe s t) (Qf s)) [([],0)] L/\L.length<=144):=by
 constructor
 ·grind
 ·rintro⟨h3,h2⟩
  refine⟨?_,h2,h3⟩;have hN:=nsOk s t;have hlt:0<(Qe s t).length:=Qd9 (k:=0) (by unfold Qo;omega);cases h3 with
  |file hk _=>unfold Qo at hk;omega
  |@dir _ _ es _ L1 L2 hk hes h1 h4=>
   cases h4;unfold QaL at hes;split at hes;rotate_left
   ·cases hes
   rename_i hE;obtain rfl:=AE hes;rw[AL] at h2⊢;rw[AI] at h2;have:=Qtq hN h1 144 [] (Qf s ((Qe s t).getD 0 Qd)).1 [([],0)] (hN.ids _) (by simp[Gr.kids]) (by simp;omega) (by simp);unfold QaN Qbi;rw[if_neg,if_neg]
   ·rw[<-hE] at this
    refine Eq.trans this ?_;rw[hE];rfl
   ·grind
   ·show ¬(144<1∨Pl.inR 0 0 _=false∨((Qe s t).getD 0 Qd).kind=0)
    rw[h0];simp only[Pl.inR];simp;omega
theorem Qg7(s:Pm.Store)(h0:((Qe s t).getD 0 Qd).kind=2)(h:(QaN s t).2=true):
 ∃L,Gr.FP (Qo (Qe s t)) (QaL (Qe s t) (Qf s)) [([],0)] L/\L.length<=144/\QaN s t=(L.map QbG,true):=by
 have hN:=nsOk s t;unfold QaN Qbi at h⊢;split at h
 ·cases h
 rename_i hc;rw[if_neg hc];split at h
 ·grind
 rename_i hk;rw[if_neg hk]
 change (Qb4 (Qe s t) (Qf s) 144 [] (Qf s ((Qe s t).getD 0 Qd)).1 ([([],0)],(Qf s ((Qe s t).getD 0 Qd)).2)).2=true at h
 change ∃L,_/\_/\Qb4 (Qe s t) (Qf s) 144 [] (Qf s ((Qe s t).getD 0 Qd)).1 ([([],0)],(Qf s ((Qe s t).getD 0 Qd)).2)=_
 have hE:(Qf s ((Qe s t).getD 0 Qd)).2=true:=by
  cases hE:(Qf s ((Qe s t).getD 0 Qd)).2
  ·rw[hE,Qic] at h;cases h
  ·rfl
 rw[hE] at h⊢;obtain⟨L,g1,g2,g3⟩:=Qul hN 144 _ [] [([],0)] (hN.ids _) h;have g3:=g3 (by simp);refine⟨([],0)::(L++[]),.dir (es:=(Qf s ((Qe s t).getD 0 Qd)).1.map fun e=>(e.1,e.2.toNat)) (by unfold Qo;omega) ?_ ?_ .nil,?_,?_⟩
 ·unfold QaL;grind
 ·unfold Gr.kids;rw[AR];exact g1
 ·grind
 ·rw[g2];simp[QbG]
theorem Qfa(s:Pm.Store)(t:Pl.Tree):Qaf s t=true↔QcR s t:=by
 unfold Qaf;simp only[A6,beq_iff_eq,AC,AX];have key: ∀(h1:Qao s t=true) (h2:((Qe s t).getD 0 Qd).kind=2),_:=fun h1 h2=>Gr.Qtv (graph s (Qdu (by unfold Qao at h1;rw[A6] at h1;exact h1.1)) h2)
 have hk2: ∀k,Qo (Qe s t) k=2↔((Qe s t).getD k Qd).kind=2:=fun k=>by
  have:=Qej (nsOk s t) k;unfold Qo;omega
 have hch: ∀k,(∃cs,Gr.chOf (QaL (Qe s t) (Qf s)) k=some cs)↔(Qf s ((Qe s t).getD k Qd)).2=true:=fun k=>by
  unfold Gr.chOf QaL;simp
 constructor
 ·rintro⟨⟨⟨h1,h2⟩,h3⟩,h4⟩
  obtain⟨L,g1,g2,g3⟩:=Qg7 s h2 h3;rw[g3] at h4
  have hcount: ∀k,Qo (Qe s t) k≠0->(L.map (·.2)).count k=Qa4 (Qe s t) k:=fun k hk=>by
   have:=h4 k (Qd9 hk);unfold Qa1 at this;simp only[A6,Bool.or_eq_true,beq_iff_eq] at this;rw[QhG] at this;unfold Qo at hk;unfold Qa4;omega
  obtain⟨k1,k2⟩:=(key h1 h2).1 ⟨_,g1.fd,by grind,hcount⟩;refine⟨h1,h2,fun k hk=>?_,fun k hk=>(hch k).1 (k1 k ((hk2 k).2 hk)),k2⟩;have:=h4 k (Qd9 (by unfold Qo;omega));unfold Qa1 at this
  grind
 ·rintro⟨h1,h2,h3,h4,h5⟩
  obtain⟨M,m1,m2,m3⟩:=(key h1 h2).2 ⟨fun k hk=>(hch k).2 (h4 k ((hk2 k).1 hk)),h5⟩;obtain⟨L,g1,rfl⟩:=Gr.Qum m1 (r:=[([],0)]) rfl;obtain⟨q1,_,_⟩:=(Qse s h2 L).2 ⟨g1,by grind⟩;rw[q1];refine⟨⟨⟨h1,h2⟩,rfl⟩,fun k hk=>?_⟩;unfold Qa1;rw[QhG]
  by_cases h0:((Qe s t).getD k Qd).kind=0
  ·grind
  ·have hkc:=Qej (nsOk s t) k
   have:=m3 k (by unfold Qo;omega);rw[this]
   have hB:NodeB ((Qe s t).getD k Qd):=by
    rcases Qfv s t k with h|h
    ·rw[h] at h0;exact absurd rfl h0
    ·exact h
   have hl:=hB.links;have e1:((Qa4 (Qe s t) k:Int)==((Qe s t).getD k Qd).links)=true:=beq_iff_eq.2 (by unfold Qa4;omega)
   grind
end Aw
end
section
open Go.RowKit
namespace Aw
variable{t:Pl.Tree}
attribute [local irreducible] ASeq ADraw AWP Loc
def al10Cut(s:List UInt8)(hs:s.length<=Pm.big):Pure A8 242 [dS s] (dS (QaS s)):=by
 simp only[Pm.big] at hs;refine kB ?_
 repeat refine kA ?_
 refine Qs (fun m st=> ∃r:List UInt8,r.length<=s.length/\m=r.length/\AM (QaS r=QaS s)/\st=⟨20,[(0,.d (dS r))],[]⟩) [0] 0 s.length ⟨s,AN _,rfl,Pm.hid rfl,rfl⟩ (round:=?_);rintro m st ⟨r,hr,rfl,hC,rfl⟩;rcases AU r with rfl|⟨l,c,rfl⟩
 ·repeat refine kA ?_
  refine Qb (hx:=?_);rw[<-hC.out];rfl
 rw[AW] at*;have hl:(l++[c]).length=l.length+1:=by simp
 have hi:(((l++[c]).length:Int) -1).toNat=l.length:=by omega
 have hc:(l++[c])[(((l++[c]).length:Int) -1).toNat]? =some c:=by rw[hi];simp
 have T:AM (((c.toNat:Nat):Int)≠0->QaS s=l++[c]):=fun h=>by rw[<-hC.out,Qj0,if_neg];intro e;apply h;rw[beq_iff_eq] at e;rw[e];rfl
 have F:AM (((c.toNat:Nat):Int)=0->QaS l=QaS s):=fun h=>by rw[<-hC.out,Qj0,if_pos];rw[beq_iff_eq];exact Ae.1 (by have:(0:UInt8).toNat=0:=rfl;omega)
 clear hC
 repeat' first|refine kS ?_|refine qS (Qen Ty.h rfl rfl rfl (by omega) hc) ?_|refine qS (Qfx rfl rfl rfl (by omega) (by omega)) ?_|refine kU ?_|refine kV ?_ ?_<;>intro q|fail
 ·simp only[beq_iff_eq,decide_eq_true_eq] at*
  refine Qn l.length (by omega) ⟨l,by omega,rfl,Pm.hid (F.out (by assumption)),?_⟩;simp[keepE,go_sem]
 ·refine Qb (hx:=?_)
  rw[T.out (by simpa using q)]
 ·exfalso;simp at q
def texts_le(s:Pm.Store)(hg:QM s)(t:Pl.Tree): ∀x∈Qc s t,x.length<=128:=by
 intro x hx;unfold Qc at hx;obtain⟨p,_,rfl⟩:=AS.1 hx;exact QiO s hg p
def Qtj(s:Pm.Store)(hg:QM s)(t:Pl.Tree)(ht:Qx t):Pure A8 40 [dSt s,dTree t] (.sl true 10 ((Qe s t).map rNode)):=by
 have c:=Qfi s hg t ht;have hl:=texts_len s ht;have hle:=texts_le s hg t;have hm:=ht.manyHi;have hn:AM (Qe s t=(Qc s t).map fun x=>(Qq x).1):=Pm.hid rfl;generalize Qc s t=l at*;refine kE ?_;refine Qa 0 (h:=?_);refine Qa 1 (h:=?_)
 repeat refine kA ?_
 refine Qs (fun m st=> ∃(k g:Nat) (out:List Qi),k<=l.length/\m=16 -k/\out.length=k/\AM (out=(l.take k).map fun x=>(Qq x).1)/\
  st=⟨33,[(5,.osl 2 g 0 out.length),(6,.d (tStrs l)),(7,.d (dI k))],[.row 1 [],.row 1 [],.arr g 10 48 (out.map rNode)]⟩) [5,6,7] 3 16 ⟨0,0,[],by omega,rfl,rfl,Pm.hid rfl,rfl⟩ (round:=?_)
 rintro m st ⟨k,g,out,hk,rfl,hlen,hO,rfl⟩
 repeat refine kG ?_
 cases q4:decide ((k:Int)<(l.length:Int))
 ·repeat refine kA ?_
  (refine Qa 2 (h:=?_);refine Qb (hx:=?_))
  have:k=l.length:=by simp at q4;omega
  rw[hn.out,hO.out,this,AJ];simp[AT]
 have hk2:k<l.length:=by simp at q4;omega
 obtain⟨x,hx⟩: ∃x,l[k]? =some x:=⟨_,A0 hk2⟩;have hr:=Qu (f:=fun s=>[dS s]) hx;have cg:=QiC x (by have:=hle x (A2 hx);unfold Pm.big;omega);have T:AM ((l.take (k+1)).map (fun x=>(Qq x).1)=out++[(Qq x).1]):=Pm.hid (by rw[AB,hx,hO.out];simp);clear hx hO hle hn;generalize (Qq x).1=N at*;obtain⟨kind,links,size,⟨⟨p1,p2,p3,p4,p5⟩,depth,many⟩⟩:=N
 repeat' first|refine kS ?_|refine qS (iy hr) ?_|refine QU Ty.h rfl Ty.h (hb:=?_) (kk:=?_)|refine kU ?_|fail
 ·simp;omega
 ·refine Qn (16 -(k+1)) (by omega) ⟨k+1,g+1,out++[⟨kind,links,size,⟨⟨p1,p2,p3,p4,p5⟩,depth,many⟩⟩],by omega,rfl,by simp[hlen],Pm.hid T.out.symm,?_⟩
  simp[keepE,go_sem]
theorem al11Ok(s:Pm.Store)(hg:QM s)(t:Pl.Tree):Pure A8 209 [dSt s,dTree t] (dB (Qao s t)):=by
 have c0:=al8Ok s hg t;have hd:AM (Qao s t=(Q8 s t&&(Qc s t).all fun x=>(x==[])||((Qq x).2&&Q8 s (Qq x).1.tree))):=Pm.hid rfl;cases h0:Q8 s t
 ·rw[h0] at c0
  refine kE ?_;refine Qa 0 (h:=?_);refine Qa 1 (h:=?_)
  repeat refine kA ?_
  refine Qb (hx:=?_);rw[hd.out,h0];rfl
 rw[h0] at c0;have ht:=Qdu h0;have c:=Qfi s hg t ht;have hl:=texts_len s ht;have hle:=texts_le s hg t;have hm:=ht.manyHi;have hm0:=ht.manyLo;have hd2:AM (Qao s t=(Qc s t).all fun x=>(x==[])||((Qq x).2&&Q8 s (Qq x).1.tree)):=Pm.hid (by rw[hd.out,h0];rfl);clear hd h0 ht;generalize Qc s t=l at*;refine kE ?_;refine Qa 0 (h:=?_);refine Qa 1 (h:=?_)
 repeat refine kA ?_
 refine Qs (fun m st=> ∃(k:Nat),k<=l.length/\m=16 -k/\AM ((l.take k).all (fun x=>(x==[])||((Qq x).2&&Q8 s (Qq x).1.tree))=true)/\
  st=⟨43,[(5,.d (tStrs l)),(6,.d (dI k)),(2,.d (.pd (rSt s))),(3,.d (.pd (rTree t)))],[.row 1 [],.row 1 []]⟩) [5,6,2,3] 2 16 ⟨0,by omega,rfl,Pm.hid rfl,rfl⟩ (round:=?_)
 rintro m st ⟨k,hk,rfl,hA,rfl⟩
 repeat refine kG ?_
 cases q4:decide ((k:Int)<t.many)
 ·repeat refine kA ?_
  refine Qb (hx:=?_);have:k=l.length:=by simp at q4;omega
  have h:=hA.out;rw[this,AT (AN _)] at h;rw[hd2.out,h]
 have hk2:k<l.length:=by simp at q4;omega
 obtain⟨x,hx⟩: ∃x,l[k]? =some x:=⟨_,A0 hk2⟩;have hr:=Qu (f:=fun s=>[dS s]) hx;have cg:=QiC x (by have:=hle x (A2 hx);unfold Pm.big;omega);have cT:=al8Ok s hg (Qq x).1.tree;have T:AM (((x==[])||((Qq x).2&&Q8 s (Qq x).1.tree))=true->(l.take (k+1)).all (fun x=>(x==[])||((Qq x).2&&Q8 s (Qq x).1.tree))=true):=fun h=>by rw[AB,hx,Ag,hA.out];simpa using h
 have F:AM (((x==[])||((Qq x).2&&Q8 s (Qq x).1.tree))=false->Qao s t=false):=fun h=>by
  rw[hd2.out,Ab];exact⟨x,A2 hx,by rw[h];simp⟩
 clear hx hA hle hd2;generalize Q8 s (Qq x).1.tree=tok at*;generalize (Qq x).2=ok at*;generalize (Qq x).1=N at*;obtain⟨kind,links,size,⟨⟨p1,p2,p3,p4,p5⟩,depth,many⟩⟩:=N
 repeat' first|refine kS ?_|refine qS (iy hr) ?_|refine kU ?_|refine kV ?_ ?_<;>intro q|fail
 all_goals clear c0 c cg cT hr
 all_goals simp only[decide_eq_true_eq] at q4
 all_goals first|exact Qn (16 -(k+1)) (by omega) ⟨k+1,by omega,rfl,Pm.hid (T.out (by simp_all)),rfl⟩|refine Qb (hx:=?_);exact congrArg dB (F.out (by simp_all)).symm
def Q4(s:Pm.Store)(t:Pl.Tree)(k:Nat):Qi×Bool:=if(k:Int)<=t.many -1 then Qq ((Qc s t).getD k []) else(Qd,false)
def Qgf(s:Pm.Store)(ht:Qx t)(k:Nat):(Q4 s t k).1=(Qe s t).getD k Qd:=by
 have hl:=texts_len s ht;have:=ht.manyLo;unfold Q4 Qe;rw[A1,A1,AO];split
 ·rw[A0 (by omega)];rfl
 ·rw[AH (by omega)];rfl
def texts_get(s:Pm.Store)(ht:Qx t){k:Nat}(hk:(k:Int)<=t.many -1):(Qc s t).getD k []=(Qj s.1 ((Qg s t).getD k Pl.hole)).1:=by
 have hw:=QdG s ht.hi;have:=ht.manyHi;unfold Qc;rw[A1,A1,AO,List.getElem?_take,if_pos (by omega),A0 (by omega)];rfl
def al11Get(s:Pm.Store)(hg:QM s)(t:Pl.Tree)(ht:Qx t)(k:Nat):Pure A8 24 [dSt s,dTree t,dI k] (.tup [dNode (Q4 s t k).1,dB (Q4 s t k).2]):=by
 have hm:=ht.manyHi;have hm0:=ht.manyLo;have c0:=al6In k 0 (t.many -1)
 by_cases h:(k:Int)<=t.many -1
 ·have e:Pl.inR k 0 (t.many -1)=true:=by simp[Pl.inR];omega
  rw[e] at c0;have c1:=al8Get s hg t ht k (by omega);rw[<-texts_get s ht h] at c1;have hx:AM (Q4 s t k=Qq ((Qc s t).getD k [])):=Pm.hid (by unfold Q4;rw[if_pos h])
  have c2:=QiC ((Qc s t).getD k []) (by
   rw[A1];cases h1:(Qc s t)[k]? with
   |none=>simp
   |some x=>have:=texts_le s hg t x (A2 h1);simp[Pm.big];omega)
  generalize (Qc s t).getD k []=x at*;rw[hx.out];clear hx h e;generalize Qq x=r at*;obtain⟨⟨kind,links,size,⟨⟨p1,p2,p3,p4,p5⟩,depth,many⟩⟩,ok⟩:=r;refine kD ?_;refine Qa 0 (h:=?_);refine Qa 1 (h:=?_)
  repeat refine kA ?_
  refine Qa 2 (h:=?_);exact QY (hx:=rfl)
 ·have e:Pl.inR k 0 (t.many -1)=false:=by simp[Pl.inR];omega
  rw[e] at c0;have hx:AM (Q4 s t k=(Qd,false)):=Pm.hid (by unfold Q4;rw[if_neg h]);rw[hx.out];refine kD ?_;refine Qa 0 (h:=?_);refine Qa 1 (h:=?_)
  repeat refine kA ?_
  refine Qa 2 (h:=?_);exact QY (hx:=rfl)
def Qbf(c:UInt8):Bool:=decide (97<=c.toNat)&&decide (c.toNat<=122)
def QlY(s:List UInt8):Qac s=(s.all Qbf&&Pl.inR s.length 1 4):=by
 unfold Qac Pl.inR;rw[Bool.and_assoc]
 congr 2
 ·simp;omega
 ·simp;omega
def aNameOk(s:List UInt8)(hs:s.length<=Pm.big):Pure A8 157 [dS s] (dB (Qac s)):=by
 simp only[Pm.big] at hs;have hd:=Pm.hid (QlY s);have c:=al6In s.length 1 4;refine kB ?_
 repeat refine kA ?_
 refine Qs (fun m st=> ∃k:Nat,k<=s.length/\m=s.length -k/\AM ((s.take k).all Qbf=true)/\st=⟨23,[(3,.d (dI k)),(0,.d (dS s))],[]⟩) [3,0] 0 s.length ⟨0,by omega,rfl,Pm.hid rfl,rfl⟩ (round:=?_);rintro m st ⟨k,hk,rfl,hA,rfl⟩
 repeat refine kG ?_
 cases q3:decide ((k:Int)<(s.length:Int))
 ·repeat refine kA ?_
  refine Qb (hx:=?_);have:k=s.length:=by simp at q3;omega
  have h:=hA.out;rw[this,AJ] at h;rw[hd.out,h];rfl
 have hk2:k<s.length:=by simp at q3;omega
 obtain⟨x,hx⟩: ∃x,s[k]? =some x:=⟨_,A0 hk2⟩;have hx':s[(k:Int).toNat]? =some x:=hx;have T:AM (97<=x.toNat->x.toNat<=122->(s.take (k+1)).all Qbf=true):=fun h1 h2=>by rw[AB,hx,Ag,hA.out];simp[Qbf,h1,h2]
 have F:AM ((x.toNat<97∨122<x.toNat)->Qac s=false):=fun h=>by
  rw[hd.out];have:s.all Qbf=false:=by rw[Ab];exact⟨x,A2 hx,by simp[Qbf];omega⟩
  rw[this];rfl
 clear hx hA hd
 repeat' first|refine kS ?_|refine qS (Qen Ty.h rfl rfl rfl (by omega) hx') ?_|refine kU ?_|refine kV ?_ ?_<;>intro q|fail
 all_goals simp only[decide_eq_true_eq,decide_eq_false_iff_not] at*
 all_goals first|exact Qn (s.length -(k+1)) (by omega) ⟨k+1,by omega,rfl,Pm.hid (T.out (by omega) (by omega)),rfl⟩|refine Qb (hx:=?_);rw[F.out (by omega)]
abbrev dEnts(l:List Ql):D:= .sl false 2 (l.map rEnt)
abbrev tEnts(l:List Ql):D:= .sl true 2 (l.map rEnt)
theorem Qq9(l:List Ql)(hl:l.length<=Pm.big)(hs: ∀e∈l,e.1.length<=Pm.big):Pure A8 108 [dEnts l] (dB (Qaa l)):=by
 simp only[Pm.big] at hl;have hd:AM (Qaa l=((A7 l.length).all (QaJ l)&&decide (l.length<=12))):=Pm.hid rfl;refine kB ?_
 repeat refine kA ?_
 refine Qs (fun m st=> ∃k:Nat,k<=l.length/\m=l.length -k/\AM ((A7 k).all (QaJ l)=true)/\st=⟨47,[(3,.d (dI k)),(0,.d (dEnts l))],[]⟩) [3,0] 0 l.length ⟨0,by omega,rfl,Pm.hid rfl,rfl⟩ (round:=?_);rintro m st ⟨k,hk,rfl,hA,rfl⟩
 repeat refine kG ?_
 cases q3:decide ((k:Int)<(l.length:Int))
 ·repeat refine kA ?_
  refine Qb (hx:=?_);have:k=l.length:=by simp at q3;omega
  have h:=hA.out;rw[this] at h;rw[hd.out,h];refine congrArg dB ?_;simp;omega
 have hk2:k<l.length:=by simp at q3;omega
 obtain⟨x,hx⟩: ∃x,l[k]? =some x:=⟨_,A0 hk2⟩;have hr:=Qu (f:=rEnt) hx;obtain⟨y,hy⟩: ∃y,l[k -1]? =some y:=⟨_,A0 (by omega)⟩
 have hr2:AM (0<k->(l.map rEnt)[((k:Int) -1).toNat]? =some (rEnt y)):=fun h=>by
  rw[show((k:Int) -1).toNat=k -1 by omega,AO,hy];rfl
 have he:AM (QaJ l k=(Qac x.1&&Pl.inR x.2 1 15&&(decide (k=0)||A3 y.1 x.1))):=Pm.hid (by
  unfold QaJ;simp only[A1,hx,hy,AD])
 have T:AM (QaJ l k=true->(A7 (k+1)).all (QaJ l)=true):=fun h=>Pl.Qdn (p:=QaJ l) hA.out h
 have F:AM (QaJ l k=false->Qaa l=false):=fun h=>by
  rw[hd.out,Pl.Qdj (p:=QaJ l) hk2 h];rfl
 have c1:=aNameOk x.1 (hs x (A2 hx));have c2:=al6In x.2 1 15;rw[he.out] at T F;clear hx hy hA hd he;generalize Qac x.1=o1 at*;generalize Pl.inR x.2 1 15=o2 at*
 repeat' first|refine kS ?_|refine qD (iy hr) ?_|refine qD (Qdc Ty.h rfl Ty.h rfl rfl rfl (by simp only[decide_eq_true_eq] at*;omega) (hr2.out (by simp only[decide_eq_true_eq] at*;omega))) ?_|refine qD (Qka rfl rfl) ?_|refine kU ?_|refine kV ?_ ?_<;>intro q|fail
 all_goals clear c1 c2 hr hr2
 all_goals simp only[decide_eq_true_eq,decide_eq_false_iff_not] at*
 all_goals first|refine Qn (l.length -(k+1)) (by omega) ⟨k+1,by omega,rfl,Pm.hid (T.out ?_),rfl⟩;clear T F;simp_all;try omega|refine Qb (hx:=?_);rw[F.out ?_];clear T F;simp_all;try omega
def Qmq{l:List Ql}(h:Qaa l=true): ∀e∈l,e.1.length<=4:=fun e he=>by
 have:=(ent_b h e he).1;unfold Qac at this;simp at this;omega
def Qjx{l:List Ql}(h: ∀e∈l,e.1.length<=4/\0<=e.2/\e.2<=15):(QB l).length<=l.length*20:=by
 induction l with
 |nil=>simp[QB]
 |cons e l ih=>
  have h1:=h e A4;have h2:=Pl.Qdb 8 e.2.toNat (by omega);have ih:=ih fun x hx=>h x (A5 _ hx)
  have e1:QB (e::l)=Qau e++59::QB l:=by simp[QB]
  rw[e1];unfold Qau;simp;omega
def al12Put(l:List Ql)(h:Qaa l=true):Pure A8 109 [dEnts l] (dS (QB l)):=by
 have hb: ∀e∈l,e.1.length<=4/\0<=e.2/\e.2<=15:=fun e he=>by have:=Qmq h e he;have:=ent_b h e he;omega
 have hl:l.length<=12:=by unfold Qaa at h;rw[A6,decide_eq_true_eq] at h;exact h.2
 clear h;refine kB ?_
 repeat refine kA ?_
 refine Qs (fun m st=> ∃k:Nat,k<=l.length/\m=l.length -k/\st=⟨28,[(3,.d (dS (QB (l.take k)))),(4,.d (dI k)),(0,.d (dEnts l))],[]⟩) [3,4,0] 0 l.length ⟨0,by omega,rfl,rfl⟩ (round:=?_);rintro m st ⟨k,hk,rfl,rfl⟩
 repeat refine kG ?_
 cases q3:decide ((k:Int)<(l.length:Int))
 ·repeat refine kA ?_
  refine Qb (hx:=?_);have:k=l.length:=by simp at q3;omega
  rw[this,AJ]
 have hk2:k<l.length:=by simp at q3;omega
 obtain⟨x,hx⟩: ∃x,l[k]? =some x:=⟨_,A0 hk2⟩;have hr:=Qu (f:=rEnt) hx;have hlen:=Qjx (l:=l.take k) fun e he=>hb e (List.mem_of_mem_take he)
 rw[AQ] at hlen;have hxb:=hb x (A2 hx);have T:AM (QB (l.take (k+1))=QB (l.take k)++x.1++[61]++Pl.dec x.2.toNat++[59]):=Pm.hid (by rw[AB,hx];simp[QB,Qau]);have hdl:=Pl.Qdb 8 x.2.toNat (by omega);have c:=al6Dec x.2.toNat (by omega);rw[show((x.2.toNat:Nat):Int)=x.2 by omega] at c;clear hx hb;generalize QB (l.take k)=out at*;generalize Pl.dec x.2.toNat=d at*;obtain⟨nm,id⟩:=x;simp only at hxb c T hr
 repeat' first|refine kS ?_|refine qD (iy hr) ?_|refine qD (Qdg (m:=[61]) rfl rfl (by first|omega|(simp;omega))) ?_|refine qD (Qdg (m:=[59]) rfl rfl (by first|omega|(simp;omega))) ?_|refine qD (Qdg rfl rfl (by first|omega|(simp;omega))) ?_|refine kU ?_|fail
 refine Qn (l.length -(k+1)) (by omega) ⟨k+1,by omega,rfl,?_⟩;simp[keepE,go_sem,T.out]
def QnC{x:List UInt8}{e:Ql}(h:QaE x=some e):e.1.length<=x.length:=by
 unfold QaE at h;split at h
 ·rename_i a b hc
  obtain rfl:=AE h;exact(QdT 61 x).2 a (by rw[hc];simp)
 ·cases h
theorem QjJ(s:List UInt8)(hs:s.length<=1000000000000):Pure A8 54 [dS s] (.tup [tEnts (QbZ s).1,dB (QbZ s).2]):=by
 have cw:=al2Cut s 59 hs;have hW:=QdT 59 s;have hne:=Pl.QgY 59 s;have hread:=fun m=>Qs1 (s:=s) (m:=m)
 have hbad:=fun k x=>eg_bad (s:=s) (k:=k) (x:=x)
 generalize Pl.cutB 59 s=w at*;have hw1:0<w.length:=List.length_pos_iff.2 hne;clear hne;have hread:=Pm.hid hread;have hbad:=Pm.hid hbad;refine kB ?_
 repeat refine kA ?_
 refine Qs (fun m st=> ∃(k g:Nat) (out:List Ql),k+1<=w.length/\m=w.length -k/\out.length=k/\AM (∀(i:Nat) e,out[i]? =some e-> ∃x,w[i]? =some x/\QaE x=some e)/\
  st=⟨55,[(4,.osl 0 g 0 out.length),(5,.d (tStrs w)),(6,.d (dI k)),(0,.d (dS s))],[.arr g 2 56 (out.map rEnt)]⟩) [4,5,6,0] 1 w.length ⟨0,0,[],by omega,rfl,rfl,Pm.hid (by simp),rfl⟩ (round:=?_)
 rintro m st ⟨k,g,out,hk,rfl,hlen,hO,rfl⟩
 repeat refine kG ?_
 cases q3:decide ((k:Int)+1<(w.length:Int))
 ·have hk3:out.length+1=w.length:=by simp at q3;omega
  have hg:=Pm.hid (hread.out out hk3 hO.out)
  have hel: ∀e∈out,e.1.length<=Pm.big:=fun e he=>by
   obtain⟨i,hi⟩:=List.getElem?_of_mem he;obtain⟨x,hx,hx2⟩:=hO.out i e hi;have:=QnC hx2;have:=hW.2 x (A2 hx);unfold Pm.big;omega
  have ce:=(Qq9 out (by unfold Pm.big;omega) hel).arg (l:=[tEnts out]);cases hE:Qaa out
  ·rw[hE] at ce
   clear hread hbad hO hel
   repeat' first|refine kA ?_|refine kV ?_ ?_<;>intro q|fail
   ·rw[q3] at q;cases q
   refine Qe4 0 (h:=?_)
   repeat refine kA ?_
   (refine Qa 1 (h:=?_);refine Qb (hx:=?_))
   rw[hg.out,hE];rfl
  ·rw[hE] at ce
   have cp:=(al12Put out hE).arg (l:=[tEnts out]);clear hread hbad hO hel;generalize QB out=t at*
   repeat' first|refine kA ?_|refine kV ?_ ?_<;>intro q|fail
   ·rw[q3] at q;cases q
   refine Qe4 0 (h:=?_)
   repeat' first|refine kA ?_|refine kV ?_ ?_<;>intro q|fail
   all_goals
    (first|refine Qb (hx:=?_)|(refine Qa 1 (h:=?_);refine Qb (hx:=?_)))
    rw[hg.out,hE]
    simp_all
 have hk2:k<w.length:=by omega
 obtain⟨x,hx⟩: ∃x,w[k]? =some x:=⟨_,A0 hk2⟩;have hr:=Qu (f:=fun s=>[dS s]) hx;have hxl:=hW.2 x (A2 hx);have cx:=al2Cut x 61 (by omega);have hpl:=(QdT 61 x).2;have hF:=Pm.hid (hbad.out k x (by simp at q3;omega) hx)
 have hT:AM (∀e,QaE x=some e-> ∀(i:Nat) e',(out++[e])[i]? =some e'-> ∃x,w[i]? =some x/\QaE x=some e'):=fun e he i e' hi=>by
  rcases Ak i out.length with h|h
  ·rw[List.getElem?_append_left h] at hi;exact hO.out i e' hi
  ·have:i=out.length:=by have:=(List.getElem?_eq_some_iff.1 hi).1;simp at this;omega
   subst this;rw[List.getElem?_append_right (AN _)] at hi;simp at hi;subst hi;rw[hlen];exact⟨x,hx,he⟩
 have her:=Pm.hid (QaE.eq_def x);clear hx hread hbad hO;generalize Pl.cutB 61 x=p at*
 by_cases h2:p.length=2
 ·match p,h2 with
  |[a,b],_=>
  have cn:=aNumGet b (by have:=hpl b (by simp);unfold Pm.big;omega);have hT2:=Pm.hid (hT.out _ her.out);clear hT her hF;generalize (Pl.numGet b).getD 0=nb at*
  repeat' first|refine kS ?_|refine qS (iy hr) ?_|refine qS (iy rfl) ?_|refine QU Ty.h rfl Ty.h (hb:=?_) (kk:=?_)|refine kU ?_|refine kV ?_ ?_<;>intro q|fail
  ·simp;omega
  rotate_left
  ·rw[q3] at q;cases q
  ·simp only[decide_eq_true_eq] at q3
   refine Qn (w.length -(k+1)) (by omega) ⟨k+1,g+1,out++[(a,(nb:Int))],by omega,rfl,by simp[hlen],Pm.hid hT2.out,?_⟩;simp[keepE,go_sem]
 ·have hn:QaE x=none:=by
   rw[her.out];split
   ·exact absurd rfl h2
   ·rfl
  have hF2:=Pm.hid (hF.out hn);clear hT her hF hn
  repeat' first|refine kS ?_|refine qS (iy hr) ?_|refine kU ?_|refine kV ?_ ?_<;>intro q|fail
  all_goals first|exfalso;rw[q3] at q;cases q|exfalso;simp only[bne_eq_false_iff_eq] at*;omega|((refine Qa 1 (h:=?_);refine Qb (hx:=?_));rw[hF2.out];rfl)
attribute [local irreducible] AStep
def al9Get(s:Pm.Store)(hg:QM s)(t:Pl.Tree)(ht:Qx t):Pure A8 53 [dSt s,dTree t] (.tup [dS (QaT (Qc s t)).1,dB (QaT (Qc s t)).2]):=by
 have c:=Qfi s hg t ht;have hl:=texts_len s ht;have hle:=texts_le s hg t;have hm:=ht.manyHi;have hm0:=ht.manyLo;have hd:AM (QaT (Qc s t)=if(A7 (Qc s t).length).all (Qa5 (Qc s t)) then((Qc s t).flatten,true) else([],false)):=Pm.hid rfl;generalize Qc s t=l at*;refine kE ?_;refine Qa 0 (h:=?_);refine Qa 1 (h:=?_)
 repeat refine kA ?_
 refine Qs (fun m st=> ∃(k:Nat) (out:List UInt8),k<=l.length/\m=16 -k/\out.length<=128*k/\AM (out=(l.take k).flatten)/\AM ((A7 k).all (Qa5 l)=true)/\
  st=⟨41,[(6,.d (dS out)),(7,.d (tStrs l)),(8,.d (dI k)),(3,.d (.pd (rTree t)))],[.row 1 [],.row 1 []]⟩) [6,7,8,3] 2 16 ⟨0,[],by omega,rfl,by simp,Pm.hid rfl,Pm.hid rfl,rfl⟩ (round:=?_)
 rintro m st ⟨k,out,hk,rfl,hol,hO,hA,rfl⟩
 repeat refine kG ?_
 cases q4:decide ((k:Int)<t.many)
 ·repeat refine kA ?_
  refine Qb (hx:=?_);have:k=l.length:=by simp at q4;omega
  have h:=hA.out;have ho:=hO.out;rw[this] at h;rw[this,AJ] at ho;rw[hd.out,h,ho];rfl
 have hk2:k<l.length:=by simp at q4;omega
 obtain⟨x,hx⟩: ∃x,l[k]? =some x:=⟨_,A0 hk2⟩;have hr:=Qu (f:=fun s=>[dS s]) hx;have hxl:=hle x (A2 hx);have he:AM (Qa5 l k=(!(x==[])&&(decide (k+1=l.length)||decide (x.length=128)))):=Pm.hid (by unfold Qa5;simp only[A1,hx,AD]);have T:AM (Qa5 l k=true->(A7 (k+1)).all (Qa5 l)=true):=fun h=>Pl.Qdn (p:=Qa5 l) hA.out h
 have T2:AM ((l.take (k+1)).flatten=out++x):=Pm.hid (by rw[AB,hx,hO.out];simp)
 have F:AM (Qa5 l k=false->QaT l=([],false)):=fun h=>by
  rw[hd.out,Pl.Qdj (p:=Qa5 l) hk2 h];rfl
 rw[he.out] at T F;clear hx hA hO hd he hle c
 repeat' first|refine kS ?_|refine qS (iy hr) ?_|refine qS (Qdg rfl rfl (by omega)) ?_|refine kU ?_|refine kV ?_ ?_<;>intro q|fail
 all_goals clear hr
 all_goals simp only[decide_eq_true_eq,decide_eq_false_iff_not] at*
 all_goals generalize (x==[])=u at*
 all_goals first
  |(refine Qn (16 -(k+1)) (by omega) ⟨k+1,out++x,by omega,rfl,by simp;omega,Pm.hid T2.out.symm,Pm.hid (T.out ?_),rfl⟩;clear T F T2;cases u<;>simp at* <;>omega)
  |(refine Qb (hx:=?_);have hF:(!u&&(decide (k+1=l.length)||decide (x.length=128)))=false:=by
     clear T F T2;cases u<;>simp at* <;>omega
    rw[F.out hF])
theorem Qhb(s:Pm.Store)(hg:QM s)(n:Qi):Pure A8 25 [dSt s,dNode n] (.tup [tEnts (Qf s n).1,dB (Qf s n).2]):=by
 have hd:=Pm.hid (Qf.eq_def s n);have c1:=aNodeOk n;have c2:=al8Ok s hg n.tree;cases h1:Q8 s n.tree
 ·rw[h1] at c2 hd
  generalize QL n=ok at*;refine kE ?_;refine Qa 0 (h:=?_);refine Qa 1 (h:=?_)
  repeat' first|refine kA ?_|refine kV ?_ ?_<;>intro q|fail
  all_goals
   (refine Qa 2 (h:=?_);refine Qb (hx:=?_))
   rw[hd.out];simp
 have ht:=Qdu h1;have c3:=al9Get s hg n.tree ht
 have hb:(QaT (Qc s n.tree)).1.length<=16*128:=by
  have hl:=texts_len s ht;have hm:=ht.manyHi;have hle:=texts_le s hg n.tree;unfold QaT;split
  ·simp only
   have: ∀l:List (List UInt8),(∀x∈l,x.length<=128)->l.flatten.length<=l.length*128:=by
    intro l;induction l with
    |nil=>intro _;simp
    |cons a l ih=>intro h;have:=ih fun x hx=>h x (A5 _ hx);have:=h a A4;rw[List.flatten_cons,AF,AI];omega
   have:=this _ hle;omega
  ·simp
 have c4:=QjJ (QaT (Qc s n.tree)).1 (by omega);rw[h1] at c2 hd;generalize QL n=ok at*;generalize QaT (Qc s n.tree)=bb at*;obtain⟨tx,fine⟩:=bb;simp only at hb c4 hd;generalize QbZ tx=r at*;obtain⟨es,good⟩:=r;clear h1 ht;refine kE ?_;refine Qa 0 (h:=?_);refine Qa 1 (h:=?_)
 repeat' first|refine kA ?_|refine kV ?_ ?_<;>intro q|fail
 all_goals
  (first|refine Qb (hx:=?_)|(refine Qa 2 (h:=?_);refine Qb (hx:=?_)))
  rw[hd.out];clear c1 c2 c3 c4 hd
  simp_all
def Qpi(size:Int)(k:Nat)(h0:0<=size)(h1:size<=2048)(hk:k<=100):Pure A8 241 [dI size,dI k] (dI (Qbe size k)):=by
 refine kB ?_
 repeat' first|refine kS ?_|refine qS (Qd4 rfl rfl (by omega)) ?_|refine qS (Qno rfl rfl) ?_|refine kU ?_|fail
 exact Qb (hx:=rfl)
theorem al13Ok(s:Pm.Store)(hg:QM s)(n:Qi):Pure A8 211 [dSt s,dNode n] (dB (Qa0 s n)):=by
 have hd:AM (Qa0 s n=(QL n&&(n.kind==1)&&Q8 s n.tree&&(A7 n.tree.many.toNat).all (QaQ n.size (Qc s n.tree)))):=Pm.hid rfl;have c1:=aNodeOk n;have c2:=al8Ok s hg n.tree
 by_cases hk:QL n=true/\n.kind=1/\Q8 s n.tree=true
 rotate_left
 ·have hx:AM (Qa0 s n=false):=Pm.hid (by
   rw[hd.out];cases h1:QL n
   ·rfl
   ·cases h2:Q8 s n.tree
    ·simp
    ·have:(n.kind==1)=false:=by simpa using fun h=>hk ⟨h1,h,h2⟩
     rw[this];rfl)
  clear hd;generalize QL n=ok at*;generalize Q8 s n.tree=tok at*;refine kE ?_;refine Qa 0 (h:=?_);refine Qa 1 (h:=?_)
  repeat' first|refine kA ?_|refine kV ?_ ?_<;>intro q|fail
  all_goals first|refine Qb (hx:=?_);rw[hx.out];done|exfalso;simp_all;done|exfalso;apply hk;simp_all
 obtain⟨h1,h2,h3⟩:=hk;have ht:=Qdu h3;have hb:=Qe5 h1;have hs:=hb.size;have c3:=Qfi s hg n.tree ht;have hl:=texts_len s ht;have hle:=texts_le s hg n.tree;have hm:=ht.manyHi;have hm0:=ht.manyLo;have hd2:AM (Qa0 s n=(A7 n.tree.many.toNat).all (QaQ n.size (Qc s n.tree))):=Pm.hid (by rw[hd.out,h1,h2,h3];rfl);rw[h1] at c1;rw[h3] at c2;clear hd h1 h3 ht hb;generalize Qc s n.tree=l at*;obtain⟨kind,links,size,⟨root,depth,many⟩⟩:=n;simp only at h2 hs hl hm hm0 hd2 c1 c2 c3;subst h2;refine kE ?_;refine Qa 0 (h:=?_);refine Qa 1 (h:=?_)
 repeat refine kA ?_
 refine Qs (fun m st=> ∃(k:Nat),k<=l.length/\m=16 -k/\AM ((A7 k).all (QaQ size l)=true)/\
  st=⟨51,[(5,.d (tStrs l)),(6,.d (dI k)),(3,.d (.pd (rNode ⟨1,links,size,⟨root,depth,many⟩⟩)))],[.row 1 [],.row 1 []]⟩) [5,6,3] 2 16 ⟨0,by omega,rfl,Pm.hid rfl,rfl⟩ (round:=?_)
 rintro m st ⟨k,hk,rfl,hA,rfl⟩
 repeat refine kG ?_
 cases q4:decide ((k:Int)<many)
 ·repeat refine kA ?_
  refine Qb (hx:=?_);have:k=many.toNat:=by simp at q4;omega
  have h:=hA.out;rw[this] at h;rw[hd2.out,h]
 have hk2:k<l.length:=by simp at q4;omega
 obtain⟨x,hx⟩: ∃x,l[k]? =some x:=⟨_,A0 hk2⟩;have hr:=Qu (f:=fun s=>[dS s]) hx;have hxl:=hle x (A2 hx);have he:AM (QaQ size l k=(decide ((x.length:Int)<=Qbe size k)&&(QaS x==x))):=Pm.hid (by unfold QaQ;simp only[A1,hx,AD]);have T:AM (QaQ size l k=true->(A7 (k+1)).all (QaQ size l)=true):=fun h=>Pl.Qdn (p:=QaQ size l) hA.out h
 have F:AM (QaQ size l k=false->Qa0 s ⟨1,links,size,⟨root,depth,many⟩⟩=false):=fun h=>by
  rw[hd2.out,Pl.Qdj (p:=QaQ size l) (by omega) h]
 rw[he.out] at T F;have c4:=Qpi size k hs.1 hs.2 (by omega);have c5:=al10Cut x (by unfold Pm.big;omega);clear hx hA hd2 he hle c1 c2 c3;generalize QaS x=y at*;generalize Qbe size k=lg at*
 repeat' first|refine kS ?_|refine qS (iy hr) ?_|refine kU ?_|refine kV ?_ ?_<;>intro q|fail
 all_goals clear hr c4 c5
 all_goals simp only[decide_eq_true_eq,decide_eq_false_iff_not] at*
 all_goals first|refine Qn (16 -(k+1)) (by omega) ⟨k+1,by omega,rfl,Pm.hid (T.out ?_),rfl⟩;clear T F;simp_all;try omega|refine Qb (hx:=?_);rw[F.out ?_];clear T F;simp_all;try omega

/- Of fby_card; no condition. -/
import Derived.Test.YtfmnpmhadmcdkaaGreatDoorT30
import Derived.Test.YtfmnpmhadmcdkaaGreatDoorT31
set_option linter.all false
set_option maxRecDepth 100000
set_option maxHeartbeats 16000000
open Bool renaming and_eq_true->A0,or_eq_true->AG,not_eq_true'->AN
open Go.Op renaming bytesLess->A8
open Go.Proofs.Tryz renaming prog->A6
open Int renaming toNat_natCast->AO,le_refl->AS
open List renaming mem_cons_self->A1,mem_cons_of_mem->A2,mem_map->A3,length_map->A5,mem_range->A7,all_eq_true->A9,getElem_map->AA,length_append->AB,mem_singleton->AC,length_cons->AD,filter_cons_of_neg->AE,filter_cons_of_pos->AF,mem_append_left->AJ,dropLast_subset->AK,getElem_of_mem->AL,count_pos_iff->AM,map_append->AP,map_cons->AQ
open List.cons renaming inj->A4
open Nat renaming zero_le->AI,add_zero->AR
open Option.some renaming inj->AH
namespace Go.Proofs.YtfmnpmhadmcdkaaGreatDoor
noncomputable section
section
open Go.RowKit
namespace Aw
variable{t:Pl.Tree}
def Quz(s:Pm.Store)(t:Pl.Tree)(f:Qj->Int):Int:=Quj (fun k=>f ((Qk s t).getD k Qd)) (Qk s t).length
def Qwu{s:Pm.Store}(k:Nat):0<=Quf ((Qk s t).getD k Qd):=by
 rcases QgC s t k with e|e
 ·rw[e];decide
 ·unfold Quf;have:=e.size;split<;>omega
def Qwi{s:Pm.Store}(h:Qae s t=true):Quv s t [] Quf=Quz s t Quf:=by
 unfold Qae at h;simp only[A0,A9] at h;refine QuN fun k hk=>?_
 split
 ·rfl
 ·rename_i hi
  rcases QgC s t k with e|e
  ·rw[e];rfl
  ·exfalso
   have hn:=h.2 k (A7.2 hk);unfold Qa0 at hn;simp only[A0,AG,beq_iff_eq] at hn;have hk:=e.kind;have hl:=e.links
   have hm:1<=Pl.many (QaI s t).1 k:=by
    rcases hn.1 with h0|h0
    ·omega
    ·omega
   unfold Pl.many at hm;obtain⟨x,hx,hxe⟩:=A3.1 (AM.1 hm);exact hi (List.any_eq_true.2 ⟨x,hx,by simp[hxe]⟩)
def Qwe{s:Pm.Store}{path:List UInt8}(h:(Qui s t path Quf).2=true):
 Qui s t [47] Quf=(Quz s t Quf,true)/\(Qui s t path Quf).1<=Quz s t Quf/\Qaa s=true/\Qae s t=true:=by
 have h0:QT [47]=some []:=by unfold QT;rfl
 have hr:(Qaa s&&Qae s t)=true->Qui s t [47] Quf=(Quz s t Quf,true):=fun hc=>by
  unfold Qui;rw[h0];dsimp only;rw[if_pos hc,<-Qwi (by simp only[A0] at hc;exact hc.2)];rfl
 unfold Qui at h;split at h
 ·cases h
 ·rename_i q hq
  split at h
  ·rename_i hc
   split at h
   ·cases h
   ·rename_i j hj
    have hc2:=hc;simp only[A0] at hc2;refine⟨hr hc,?_,hc2⟩;unfold Qui;rw[hq];dsimp only;rw[if_pos hc,hj];refine Qv0 fun k _=>?_
    split
    ·exact AS _
    ·exact Qwu k
  ·cases h
def Qrb{x:List UInt8}{n:Int}(h:(Qa1 x n).2=true):((Qa1 x n).1.length:Int)=n:=by
 unfold Qa1 at*;split at h
 ·rename_i hc
  rw[if_pos hc];unfold Pl.inR at hc;simp only[A0,decide_eq_true_eq] at hc;rw[AB,List.length_replicate];omega
 ·cases h
def Qle{n:Qj}(h:Q8 n=true)(hk:n.kind=1)(h0:0<=n.size){x:List (List UInt8)}: ∀{m:Nat},(m:Int)<=n.tree.many->(∀k,k<m->Qaz n.size k (x.getD k [])=true)->
 (m:Int)*12<=n.size/\((QaJ n.size x m).length:Int)=m*12∨n.size<=m*12/\((QaJ n.size x m).length:Int)=n.size
 |0,_,_=> .inl ⟨by omega,rfl⟩
 |m+1,hm,hp=>by
  have hb:=(QeJ h hk (k:=m) (by omega)).1;have hf:=hp m (by omega);unfold Qaz at hf;simp only[A0] at hf;have hl:=Qrb hf.1;have hz:=Qhi hb;unfold Qa6 at hz;have hi:=Qle h hk h0 (m:=m) (by omega) fun k hk=>hp k (by omega)
  rw[Qfr,AB];rcases hi with hi|hi
  ·split at hz<;>omega
  ·omega
def QoR{s:Pm.Store}{n:Qj}(h:QO s n=true):((Qad s n).length:Int)=n.size:=by
 have hf:=h;unfold QO at hf;simp only[A0,beq_iff_eq] at hf;obtain⟨⟨⟨hn,hk⟩,ht⟩,_⟩:=hf;have hp:=Qf3 (s:=s) hn hk;rw[h] at hp;have hp:=hp.symm;simp only[A0,A9] at hp;have hl:=(Qd9 ht).1;have hs:=hn;unfold Q8 at hs;simp only[A0,beq_iff_eq,decide_eq_true_eq] at hs;obtain⟨⟨⟨⟨⟨h1,h2⟩,_⟩,_⟩,_⟩,_⟩:=hs;have he:QaV n.kind=12:=by rw[hk];rfl
 unfold Qac at h1 h2;rw[he] at h1 h2;simp only[show ¬((12:Int)=0) by decide,if_false] at h1 h2;unfold Qad;rw[if_pos h];split at h1
 ·rename_i hi
  rw[if_pos hi] at h2;simp[Pl.inR] at hi;have:=Qle hn hk (by omega) (x:=(QD s n.tree).1.map fun p=>(Qf s.1 p).1) (m:=(QD s n.tree).1.length) (by omega) fun k hk=>hp.2 k (A7.2 hk)
  omega
 ·omega
def Quw(l:List Qb7):Int:=((l.map fun x=>x.2.2.length).sum:Nat)
def QvR{s:Pm.Store}{t:Pl.Tree}(h:Qae s t=true): ∀{m:Nat},m<=(Qk s t).length->
 Quw (QaN s (Qc s t) m)=Quj (fun k=>Quf ((Qk s t).getD k Qd)) m
 |0,_=>rfl
 |m+1,hm=>by
  have ih:=QvR h (m:=m) (by omega);unfold Qae at h;simp only[A0,A9] at h;have hn:=h.2 m (A7.2 (by omega));unfold Qa0 at hn;simp only[A0,AG,beq_iff_eq,AN] at hn
  have hg:Quw (QbL s (Qc s t) m)=Quf ((Qk s t).getD m Qd):=by
   unfold QbL Qs
   change Quw (if((Qk s t).getD m Qd).kind.toNat=0 then [] else [(m,((Qk s t).getD m Qd).kind==2,Qad s ((Qk s t).getD m Qd))])=_
   generalize (Qk s t).getD m Qd=n at*;unfold Quf;split
   ·rw[if_neg (by omega)];rfl
   ·unfold Quw
    simp only[AQ,List.map_nil,List.sum_cons,List.sum_nil,AR];split
    ·rename_i h1
     rcases hn.2 with h2|h2
     ·rw[h1] at h2;cases h2
     ·exact QoR h2
    ·rename_i h1
     unfold Qad;rw[if_neg]
     ·rfl
     ·unfold QO
      simp only[A0,beq_iff_eq];exact fun hc=>h1 hc.1.1.2
  unfold QaN Quw at*;unfold Quj;rw[List.range_succ,List.flatMap_append,AP,List.sum_append,<-ih,<-hg];simp
def QvF{s:Pm.Store}{path:List UInt8}(h:(Quh s t path).2=true)(hf:QO s ((Qk s t).getD (Quh s t path).1.toNat Qd)=true):
 Qui s t path Quf=(((Qad s ((Qk s t).getD (Quh s t path).1.toNat Qd)).length:Int),true):=by
 obtain⟨q,j,e1,e2,e3,e4,e5⟩:=Qvm h;rw[e4] at hf⊢;rw[QoR hf];have e2':=e2;simp only[A0] at e2';have hF:=(QeI s t).1 e2'.2;obtain⟨M,hM,hs⟩:=QuM hF e3
 have hk:((Qk s t).getD j.toNat Qd).kind=1:=by
  unfold QO at hf;simp only[A0,beq_iff_eq] at hf;exact hf.1.1.2
 have hk1:Qs (Qk s t) j.toNat=1:=by unfold Qs;rw[hk];rfl
 have hM1:M=[]++[j.toNat]:=hM.unique (.file hk1 .nil)▸rfl;have hlt:j.toNat<(Qk s t).length:=QdO (by omega);unfold Qui;rw[e1];dsimp only;rw[if_pos e2,e3];dsimp only;rw[hs,hM1,Qve (l:=[]) (by simp),if_pos hlt]
 congr 1
 have: ∀m:Nat,Quj (fun i=>if i∈([]:List Nat) then Quf ((Qk s t).getD i Qd) else 0) m=0:=fun m=>by
  induction m with
  |zero=>rfl
  |succ m ih=>unfold Quj;rw[ih];simp
 rw[this];unfold Quf;rw[if_pos hk];omega
end Aw
end
section
namespace Gr
variable{kind:Nat->Nat}{en:Nat->Option En}
def FP.up{r L:List It}(h:FP kind en r L): ∀(A:List It) (x:It) (B:List It),L=A++x::B->
 x∈r∨ ∃y∈A,∃es,kind y.2=2/\en y.2=some es/\ ∃e∈es,x=(y.1++[e.1],e.2):=by
 induction h with
 |nil=>intro A x B h;cases A<;>cases h
 |@file p k r L hk h ih=>
  intro A x B hA;cases A with
  |nil=>obtain⟨rfl,_⟩:=A4 hA;exact .inl A1
  |cons a A=>
   obtain⟨rfl,hT⟩:=A4 hA;rcases ih A x B hT with h|⟨y,hy,h⟩
   ·exact .inl (A2 _ h)
   ·exact .inr ⟨y,A2 _ hy,h⟩
 |@dir p k es r L1 L2 hk he h1 h2 ih1 ih2=>
  intro A x B hA;cases A with
  |nil=>obtain⟨rfl,_⟩:=A4 hA;exact .inl A1
  |cons a A=>
   obtain⟨rfl,hT⟩:=A4 hA;rcases List.append_eq_append_iff.1 hT with⟨C,hC1,hC2⟩|⟨C,hC1,hC2⟩
   ·rcases ih2 C x B hC2 with h|⟨y,hy,h⟩
    ·exact .inl (A2 _ h)
    ·exact .inr ⟨y,A2 _ (hC1▸List.mem_append_right _ hy),h⟩
   ·cases C with
    |nil=>
     rcases ih2 [] x B hC2.symm with h|⟨y,hy,h⟩
     ·exact .inl (A2 _ h)
     ·cases hy
    |cons c C=>
     obtain⟨rfl,hC2⟩:=A4 hC2;rcases ih1 A _ C hC1 with h|⟨y,hy,h⟩
     ·unfold kids at h
      obtain⟨e,hem,rfl⟩:=A3.1 h;exact .inr ⟨_,A1,es,hk,he,e,hem,rfl⟩
     ·exact .inr ⟨y,A2 _ hy,h⟩
def Qv1{α:Type} [DecidableEq α]: ∀{l m:List α},l.Nodup->(∀x∈l,x∈m)->l.length<=m.length
 |[],_,_,_=>AI _
 |a::l,m,hn,hs=>by
  have h1:=List.nodup_cons.1 hn;have:=Qv1 (l:=l) (m:=m.erase a) h1.2 fun x hx=>(List.mem_erase_of_ne (by rintro rfl;exact h1.1 hx)).2 (hs x (A2 _ hx))
  have hm:=hs a A1;rw[List.length_erase_of_mem hm] at this;have:=List.length_pos_of_mem hm;simp only[AD];omega
theorem few{N:Nat}{r0:It}{L:List It}(h:FP kind en [r0] L)(h0:r0.1=[])(hnd:(L.map (·.1)).Nodup)(hN: ∀k es,en k=some es->es.length<=N)(p:List (List UInt8)):
 (L.filter fun x=>decide (x.1≠[]/\x.1.dropLast=p)).length<=N:=by
 cases hf:L.filter fun x=>decide (x.1≠[]/\x.1.dropLast=p) with
 |nil=>exact AI _
 |cons z Z=>
  have hup: ∀x∈z::Z,x.1≠[]/\ ∃y∈L,∃es,y.1=p/\en y.2=some es/\ ∃e∈es,x.1=p++[e.1]:=fun x hx=>by
   rw[<-hf] at hx;obtain⟨hx,hd⟩:=List.mem_filter.1 hx;have hd:=of_decide_eq_true hd;obtain⟨A,B,rfl⟩:=List.append_of_mem hx;rcases h.up A x B rfl with hr|⟨y,hy,es,_,he,e,hem,rfl⟩
   ·rw[AC] at hr;subst hr;exact absurd h0 hd.1
   ·have:y.1=p:=by have:=hd.2;simpa using this
    exact⟨hd.1,y,AJ _ hy,es,this,he,e,hem,by rw[this]⟩
  obtain⟨_,y,hy,es,hyp,he,_⟩:=hup z A1
  have hone: ∀y'∈L,y'.1=p->y'=y:=fun y' hy' hp=>by
   obtain⟨i,hi,rfl⟩:=AL hy;obtain⟨j,hj,rfl⟩:=AL hy'
   have:j=i:=by
    have hpw:=List.pairwise_iff_getElem.1 hnd;rcases Nat.lt_trichotomy j i with h|h|h
    ·exact absurd (by rw[AA,AA,hp,hyp]) (hpw j i (by simpa using hj) (by simpa using hi) h)
    ·exact h
    ·exact absurd (by rw[AA,AA,hp,hyp]) (hpw i j (by simpa using hi) (by simpa using hj) h)
   subst this;rfl
  have hl:=Qv1 (l:=(z::Z).map (·.1)) (m:=es.map fun e=>p++[e.1]) (by
   rw[<-hf]
   exact(List.filter_sublist.map _).nodup hnd) fun x hx=>by
    obtain⟨x',hx',rfl⟩:=A3.1 hx;obtain⟨_,y',hy',es',hp',he',e,hem,hxe⟩:=hup x' hx';rw[hone y' hy' hp',he] at he';obtain rfl:=AH he';exact A3.2 ⟨e,hem,hxe.symm⟩
  rw[A5,A5] at hl;exact Nat.le_trans hl (hN _ _ he)
end Gr
namespace Aw
structure Qu9(F:List Gr.It×List Qb7):Prop where
 root: ∃L,F.1=([],0)::L
 names: ∀x∈F.1,∀n∈x.1,QF n=true
 asc:F.1.Pairwise fun a b=>A8 (QC a.1) (QC b.1)=true
 up: ∀(A:List Gr.It) (x:Gr.It) (B:List Gr.It),F.1=A++x::B->A=[]∨ ∃y∈A,∃n,x.1=y.1++[n]/\(QbW F.2 y.2).2.1=true
 few: ∀p:List (List UInt8),(F.1.filter fun x=>decide (x.1≠[]/\x.1.dropLast=p)).length<=12
 lnk: ∀k,(F.1.map (·.2)).count k<=9
 one: ∀n∈F.1,(QbW F.2 n.2).2.1=true->(F.1.map (·.2)).count n.2<=1
 th: ∀x∈F.2,x.1∈F.1.map (·.2)/\x.1<=15/\(x.2.1=true->x.2.2=[])/\x.2.2.length<=192
 top: ∃T,F.2=(0,true,[])::T
def Qva{s:Pm.Store}{n:Qj}(h:n.kind≠1):Qad s n=[]:=by
 unfold Qad;rw[if_neg];unfold QO;simp only[A0,beq_iff_eq];exact fun hc=>h hc.1.1.2
def Qrc{n:Qj}(h:Q8 n=true)(hk:n.kind=1):n.size<=192:=by
 unfold Q8 at h;simp only[A0,beq_iff_eq,decide_eq_true_eq] at h;obtain⟨⟨⟨⟨⟨h1,h2⟩,_⟩,_⟩,_⟩,_⟩:=h;have he:QaV n.kind=12:=by rw[hk];rfl
 unfold Qac at h1;rw[he] at h1;simp only[show ¬((12:Int)=0) by decide,if_false] at h1;split at h1
 ·rename_i hs;simp[Pl.inR] at hs;omega
 ·omega
theorem Qvk{s:Pm.Store}{t:Pl.Tree}(h:Qae s t=true):Qu9 (Qbf s t):=by
 have hF:=(QeI s t).1 h;have hOk:=h;unfold Qae at hOk;simp only[A0,beq_iff_eq,A9,A7] at hOk;obtain⟨L,g1,g2,g3⟩:=QgM s hF.root hOk.1.2;have hfl:=QdU (s:=s) (t:=t) (L:=L) (by rw[g3]);rw[hfl];have hnl:(Qk s t).length=(Qc s t).length:=by unfold Qk;rw[A5]
 have htl:=(Qg8 hF.tab).2.1;have hno:=(Qg8 hF.tab).2.2;obtain⟨hnm,hasc⟩:=QqU g1
 have hnode: ∀n∈L,n.2<(Qc s t).length/\Qs (Qu (Qc s t)) n.2≠0:=fun n hn=>by
  have:Qs (Qk s t) n.2≠0:=by rcases g1.fd.kinds n.2 (A3.2 ⟨n,hn,rfl⟩) with h|h<;>omega
  exact⟨by rw[<-hnl];exact QdO this,this⟩
 have hth: ∀n∈L,QbW (QaN s (Qc s t) (Qc s t).length) n.2=(n.2,((Qk s t).getD n.2 Qd).kind==2,Qad s ((Qk s t).getD n.2 Qd)):=fun n hn=>thAt_is (hnode n hn).1 (hnode n hn).2
 have hnd:(L.map (·.1)).Nodup:=by
  refine List.pairwise_map.2 (hasc.imp fun{a b} hab e=>?_);rw[e,QrI] at hab;cases hab
 have hcnt: ∀k,k<(Qc s t).length->Qs (Qu (Qc s t)) k≠0->((L.map (·.2)).count k:Int)=((Qk s t).getD k Qd).links/\NodeB ((Qk s t).getD k Qd)/\(((Qk s t).getD k Qd).kind=1->QO s ((Qk s t).getD k Qd)=true):=fun k hk h0=>by
  have:=hOk.2 k (by omega);unfold Qa0 at this;rw[g3,Qjt] at this;simp only[A0,AG,beq_iff_eq,AN] at this;have hb:=QdZ (hno k h0);have hk2:=hb.kind;refine⟨?_,hb,fun h1=>?_⟩
  ·rcases this.1 with h|h
   ·have h':((Qu (Qc s t)).getD k Qd).kind=0:=h
    omega
   ·exact h
  ·rcases this.2 with h|h
   ·rw[h1] at h;cases h
   ·exact h
 have hroot: ∃M,L=([],0)::M:=by cases g1<;>exact⟨_,rfl⟩
 refine⟨hroot,hnm,hasc,fun A x B hA=>?_,fun p=>Gr.few g1 rfl hnd (fun k es he=>?_) p,fun k=>?_,fun n hn hf=>?_,fun x hx=>?_,?_⟩
 ·rcases g1.up A x B hA with hr|⟨y,hy,es,hk,he,e,hem,rfl⟩
  ·left
   rw[AC] at hr;subst hr;obtain⟨M,hM⟩:=hroot;cases A with
   |nil=>rfl
   |cons a A=>
    exfalso;simp only at hA;rw[hM] at hA;obtain⟨rfl,hT⟩:=A4 hA;rw[hM,hT] at hnd;simp at hnd
  ·right
   have hyL:y∈L:=by rw[show L=_ from hA];exact AJ _ hy
   refine⟨y,hy,e.1,rfl,?_⟩;simp only;rw[hth y hyL];simp only[beq_iff_eq];unfold Qs at hk;omega
 ·unfold Qb1 at he
  split at he
  ·obtain rfl:=AH he
   rw[A5];rcases QdG s ((Qk s t).getD k Qd) with h|h
   ·have:=h.2
    unfold Qab at this;simp only[A0,decide_eq_true_eq] at this;exact this.2
   ·rw[h];exact AI _
  ·cases he
 ·by_cases hm:k∈L.map (·.2)
  ·obtain⟨n,hn,rfl⟩:=A3.1 hm
   obtain⟨h1,h2,_⟩:=hcnt n.2 (hnode n hn).1 (hnode n hn).2;have:=h2.links;simp only;omega
  ·simp only;rw[List.count_eq_zero_of_not_mem hm];omega
 ·obtain⟨h1,h2,_⟩:=hcnt n.2 (hnode n hn).1 (hnode n hn).2
  simp only at hf;rw[hth n hn] at hf;simp only[beq_iff_eq] at hf;have:=h2.one hf;simp only;omega
 ·obtain⟨k,hk,hxk⟩:=List.mem_flatMap.1 hx
  rw[A7] at hk;unfold QbL at hxk;split at hxk
  ·cases hxk
  rename_i hk0;obtain rfl:=AC.1 hxk;obtain⟨h1,h2,h3⟩:=hcnt k hk hk0;have hl:=h2.links;refine⟨AM.1 (by show 0<(L.map (·.2)).count k;omega),by simp only;omega,fun hf=>?_,?_⟩
  ·simp only[beq_iff_eq] at hf
   exact Qva (by rw[hf];decide)
  ·by_cases hk1:((Qu (Qc s t)).getD k Qd).kind=1
   ·have:=QoR (h3 hk1)
    have:=Qrc (hno k hk0) hk1;simp only
    change (Qad s ((Qk s t).getD k Qd)).length<=192
    change ((Qk s t).getD k Qd).size<=192 at this
    omega
   ·simp only;rw[Qva hk1];exact AI _
 ·have hr:=hF.root
  have h0:Qs (Qu (Qc s t)) 0≠0:=by
   change ((Qk s t).getD 0 Qd).kind.toNat≠0
   omega
  have hlt:=QdO h0;rw[A5] at hlt;obtain⟨m,hm⟩: ∃m,(Qc s t).length=m+1:=⟨(Qc s t).length -1,by omega⟩;rw[hm];unfold QaN;rw[List.range_succ_eq_map,List.flatMap_cons]
  have he:QbL s (Qc s t) 0=[(0,true,[])]:=by
   unfold QbL;rw[if_neg h0]
   change [(0,((Qk s t).getD 0 Qd).kind==2,Qad s ((Qk s t).getD 0 Qd))]=_
   rw[hr,Qva (by rw[hr];decide)];rfl
  rw[he];exact⟨_,rfl⟩
end Aw
end
section
namespace Aw
variable{x:Gr.It}{A:List Gr.It}
def Qww{a b:List UInt8}(h:A8 a b=true):(A8 b a||b==a)=false:=by
 rw[Bool.or_eq_false_iff];constructor
 ·cases h2:A8 b a with
  |false=>rfl
  |true=>have:=QhT h h2;rw[QrI] at this;cases this
 ·rw[beq_eq_false_iff_ne];rintro rfl;rw[QrI] at h;cases h
def Qut(A:List Gr.It):List (List UInt8):=(A.filter fun x=>decide (x.1≠[])).map fun x=>QC x.1.dropLast
def Qwm(h:x.1≠[]):Qut (A++[x])=Qut A++[QC x.1.dropLast]:=by
 unfold Qut;simp[h]
def Qwn(h:x.1=[]):Qut (A++[x])=Qut A:=by
 unfold Qut;simp[h]
def QvT(hA: ∀x∈A,QcE x.1){p:List (List UInt8)}(hp:QcE p):(Qut A).count (QC p)=(A.filter fun x=>decide (x.1≠[]/\x.1.dropLast=p)).length:=by
 induction A with
 |nil=>rfl
 |cons x A ih=>
  have ih:=ih fun y hy=>hA y (A2 _ hy)
  by_cases h:x.1=[]
  ·have e:Qut (x::A)=Qut A:=by unfold Qut;simp[h]
   rw[e,ih,AE (by simp[h])]
  ·have e:Qut (x::A)=QC x.1.dropLast::Qut A:=by unfold Qut;simp[h]
   rw[e,List.count_cons,ih]
   by_cases h2:x.1.dropLast=p
   ·rw[AF (by simp[h,h2]),AD,h2];simp
   ·have h3:QC x.1.dropLast≠QC p:=fun e=>h2 (Qvf (fun n hn=>hA x A1 n (AK _ hn)) hp e)
    rw[AE (by simp[h2]),if_neg (by simpa using h3),AR]
structure Qu8(F:List Gr.It×List Qb7)(A:List Gr.It)(x:Gr.It):Prop where
 first:A=[]->x=([],0)
 prev: ∀y,A.getLast? =some y->A8 (QC y.1) (QC x.1)=true
 up:A≠[]-> ∃y∈A,∃n,x.1=y.1++[n]/\QF n=true/\(QbW F.2 y.2).2.1=true
 few:A≠[]->(Qut A).count (QC x.1.dropLast)+1<=12
 lnk:(A.map (·.2)).count x.2+1<=9
 one:(QbW F.2 x.2).2.1=true->(A.map (·.2)).count x.2=0
 new: ∀y∈A,QC y.1≠QC x.1
theorem QvC{F:List Gr.It×List Qb7}(h:Qu9 F){B:List Gr.It}(e:F.1=A++x::B):Qu8 F A x:=by
 have hx:x∈F.1:=by rw[e];simp
 have hAm: ∀y∈A,y∈F.1:=fun y hy=>by rw[e];simp[hy]
 have hasc: ∀y∈A,A8 (QC y.1) (QC x.1)=true:=fun y hy=>by
  have:=h.asc;rw[e,List.pairwise_append] at this;exact this.2.2 y hy x A1
 have hcnt:(A.map (·.2)).count x.2+1<=(F.1.map (·.2)).count x.2:=by
  rw[e,AP,List.count_append,AQ,List.count_cons_self];omega
 have hup:A≠[]-> ∃y∈A,∃n,x.1=y.1++[n]/\QF n=true/\(QbW F.2 y.2).2.1=true:=fun hA=>by
  rcases h.up A x B e with h1|⟨y,hy,n,h1,h2⟩
  ·exact absurd h1 hA
  ·exact⟨y,hy,n,h1,h.names x hx n (by rw[h1];simp),h2⟩
 refine⟨fun hA=>?_,fun y hy=>hasc y (List.mem_of_getLast? hy),hup,fun hA=>?_,?_,fun ho=>?_,fun y hy he=>?_⟩
 ·subst hA
  obtain⟨L,hL⟩:=h.root;rw[hL] at e;simp only[List.nil_append,List.cons.injEq] at e;exact e.1.symm
 ·obtain⟨y,hy,n,h1,_⟩:=hup hA
  have hnx:QcE x.1.dropLast:=fun m hm=>Qqt (h.names x hx) m (AK _ hm)
  have hne:x.1≠[]:=by rw[h1];simp
  have h2:=h.few x.1.dropLast;rw[e,List.filter_append,AB,AF (by simp[hne]),AD] at h2;rw[QvT (fun z hz=>Qqt (h.names z (hAm z hz))) hnx];omega
 ·have:=h.lnk x.2;omega
 ·have:=h.one x hx ho;omega
 ·have:=hasc y hy
  rw[he,QrI] at this;cases this
end Aw
end
section
open Go.RowKit
namespace Aw
theorem QtX{f:Q4}{N:Nat}(h:f.1.W N){n:Qj}(ht:Qx n.tree){o:QbF}(ho:o.at'+o.text.length<=192):(QbD f n o).1.W (N+269):=by
 unfold QbD;split
 ·unfold Qby
  split
  ·exact h.le (by omega)
  ·rename_i h1
   have:=List.length_pos_iff.2 h1;exact(QhP h ht (by omega)).1.le (by omega)
 ·have hm:(o.at'+11)/12<=16:=by omega
  have h2:=cut_W h ht (many:=(o.at'+11)/12) hm;have h3:=QeV h ht (k:=(o.at'+11)/12 -1) (by omega) [];unfold Qbz;split
  ·split
   ·exact h.le (by omega)
   ·exact h3.1.le (by omega)
  ·split
   ·exact h2.1.le (by omega)
   ·split
    ·exact h2.1.le (by omega)
    grind [QhP]
attribute [local irreducible] ASeq ADraw AWP Loc AStep Fg.PlanF Fg.Flts EndR Fk.PlanF Fk.Flts Fk.AStepM Fk.Grew Fk.Gs
def QnQ(g:Nat)(f:Q4)(N:Nat)(hN:N<=500000)(hw:f.1.W N)(ht:Qx f.2.1)(o:QbF)(hp:o.path.length<=900)(ha:o.at'<=1000000)(htx:o.text.length<=1000000):
 DoesE A6 152 [.ptr 5 0 0,.d (dOp o)] (hF g f) (gF g f.1) (fun x H=>x= .d (dI (Qbb f o).2)/\H=hF (g+1) (Qbb f o).1):=by
 refine DoesE.tagF (C:=fun _=>True) ?_ Qdp;have c0:=aFind f.1 N hw f.2.1 ht f.2.2 o.path hp;have hd:=Pm.hid (Qbb.eq_def f o);have hfb:=QdF f.1.st f.2.1 (Qy o.path);rw[show Qaf f.1.st f.2.1 (Qy o.path)=QE f.1 f.2.1 o.path from rfl] at hfb;generalize Qbb f o=res at*;generalize QE f.1 f.2.1 o.path=i at*;rcases hfb with hfb|⟨k,hk,rfl⟩
 ·rw[if_pos hfb] at hd
  have hq:decide (i<0)=true:=decide_eq_true hfb;refine kH fun gvs=>?_
  refine Qa 6 (h:=?_)
  repeat' first|refine kS ?_|refine qS (QY (fs:=f) cK c0 hw) ?_|refine kU ?_|refine kV ?_ ?_<;>intro q|fail
  all_goals first|exact absurd (hq.symm.trans ‹decide (i<0)=false›) (by decide)|refine Q1 6 (hx:=?_);rw[hd.out];exact⟨g,trivial,rfl,rfl⟩
 rw[if_neg (by omega),AO] at hd;have hq0:decide ((k:Int)<0)=false:=decide_eq_false (by omega);have c4:=aNode f.1 N hw f.2.1 ht f.2.2 k;have hng:=Qde f.1.st f.2.1 k;have hnf:=Qqn f.1.st f.2.1 k;rw[show(Q5 f.1.st f.2.1 k).1=Ql f k from rfl] at c4 hng hnf;generalize Ql f k=n at*
 by_cases h1:n.kind≠1
 ·rw[if_pos h1] at hd
  have hq1:(n.kind !=1)=true:=bne_iff_ne.2 h1;refine kH fun gvs=>?_
  refine Qa 6 (h:=?_)
  repeat' first|refine kS ?_|refine qS (QY (fs:=f) cK c0 hw) ?_|refine qS (QY (fs:=f) cK c4 hw) ?_|refine kU ?_|refine kV ?_ ?_<;>intro q|fail
  all_goals first|exact absurd (hq0.symm.trans ‹decide ((k:Int)<0)=true›) (by decide)|exact absurd (hq1.symm.trans ‹(n.kind !=1)=false›) (by decide)|refine Q1 6 (hx:=?_);rw[hd.out];exact⟨g,trivial,rfl,rfl⟩
 rw[if_neg h1] at hd;have hk1:n.kind=1:=Classical.not_not.1 h1;have hq1:(n.kind !=1)=false:=by rw[hk1];rfl
 obtain⟨hns,hnm⟩:=hnf hk1
 by_cases h2:192<o.at'+o.text.length
 ·rw[if_pos h2] at hd
  have hq2:decide ((o.at':Int)+(o.text.length:Int)>192)=true:=decide_eq_true (by omega);refine kH fun gvs=>?_
  refine Qa 6 (h:=?_)
  repeat' first|refine kS ?_|refine qS (QY (fs:=f) cK c0 hw) ?_|refine qS (QY (fs:=f) cK c4 hw) ?_|refine kU ?_|refine kV ?_ ?_<;>intro q|fail
  all_goals first|exact absurd (hq0.symm.trans ‹decide ((k:Int)<0)=true›) (by decide)|exact absurd (hq1.symm.trans ‹(n.kind !=1)=true›) (by decide)|exact absurd (hq2.symm.trans ‹decide ((o.at':Int)+(o.text.length:Int)>192)=false›) (by decide)|refine Q1 6 (hx:=?_);rw[hd.out];exact⟨g,trivial,rfl,rfl⟩
 rw[if_neg h2] at hd;have hq2:decide ((o.at':Int)+(o.text.length:Int)>192)=false:=decide_eq_false (by omega);have hWc:=QtX (f:=f) hw (n:=n) hng.1 (o:=o) (by omega);have hfc:=Pm.hid (QbD.eq_def f n o);generalize QbD f n o=y at*;obtain⟨w2,n2,ok2⟩:=y;simp only at hWc hd;have cP:=ePutF (g+1) (w2,f.2.1,!ok2) (N+269) (by omega) hWc ht k hk n2 (QdR _);have hWp:=(QgL (f:=(w2,f.2.1,!ok2)) hWc ht hk n2).1;generalize Qaq (w2,f.2.1,!ok2) k n2=f3 at*;have v0:f3.1.rows.length=f.1.rows.length:=by rw[hWp.rows,hw.rows]
 have v1:f3.1.refs.length=f.1.refs.length:=by rw[hWp.refs,hw.refs]
 have v2:f3.1.last.length=f.1.last.length:=by rw[hWp.last,hw.last]
 clear hWp hWc
 by_cases h3:o.kind=3
 ·have hq3:(o.kind==3)=true:=by simpa using h3
  have c6:=Qtr g f.1 N (by omega) hw n hng.1 hng.2 o.at' o.text (by omega);rw[<-(show(w2,n2,ok2)=Qby f.1 n o.at' o.text by rw[hfc.out,if_pos h3])] at c6;simp only at c6;refine kH fun gvs=>?_
  refine Qa 6 (h:=?_)
  repeat' first|refine kS ?_|refine qS (QY (fs:=f) cK c0 hw) ?_|refine qS (QY (fs:=f) cK c4 hw) ?_|(show AWP _ (.region 11 _ _) _ _;refine(Fk.awp_drawG (id:=11) [0,11,13,14] [10,17,18] [] [] 10 41 (.tup [oS (g+1) w2,.d (dNode n2),.d (dB ok2)]) ?_))|refine(Fk.aw_planC0 (by rfl) (by kernel_rfl) rfl ?_)|refine Fk.aw_callM [0,1,2,3,4] c6 cK (k:=kY ?_)|refine Qdg [0,1,2,3,4,5] cP cK (k:=kX ?_)|refine kU ?_|refine kV ?_ ?_<;>intro q|fail
  all_goals first|exact absurd (hq0.symm.trans ‹decide ((k:Int)<0)=true›) (by decide)|exact absurd (hq1.symm.trans ‹(n.kind !=1)=true›) (by decide)|exact absurd (hq2.symm.trans ‹decide ((o.at':Int)+(o.text.length:Int)>192)=true›) (by decide)|exact absurd (hq3.symm.trans ‹(o.kind==3)=false›) (by decide)|refine Q1 6 (hx:=?_);rw[hd.out];exact⟨_,trivial,rfl,rfl⟩
 have hq3:(o.kind==3)=false:=by simpa using h3
 have c6:=eCut13 g f.1 N (by omega) hw n hng.1 hns hnm o.at' (by omega);rw[<-(show(w2,n2,ok2)=Qbz f.1 n o.at' by rw[hfc.out,if_neg h3])] at c6;simp only at c6;refine kH fun gvs=>?_
 refine Qa 6 (h:=?_)
 repeat' first|refine kS ?_|refine qS (QY (fs:=f) cK c0 hw) ?_|refine qS (QY (fs:=f) cK c4 hw) ?_|(show AWP _ (.region 12 _ _) _ _;refine(Fk.awp_drawG (id:=12) [0,9,11,12] [8,15,16] [] [] 8 56 (.tup [oS (g+1) w2,.d (dNode n2),.d (dB ok2)]) ?_))|refine(Fk.aw_planC0 (by rfl) (by kernel_rfl) rfl ?_)|refine Fk.aw_callM [0,1,2,3,4] c6 cK (k:=kY ?_)|refine Qdg [0,1,2,3,4,5] cP cK (k:=kX ?_)|refine kU ?_|refine kV ?_ ?_<;>intro q|fail
 all_goals first|exact absurd (hq0.symm.trans ‹decide ((k:Int)<0)=true›) (by decide)|exact absurd (hq1.symm.trans ‹(n.kind !=1)=true›) (by decide)|exact absurd (hq2.symm.trans ‹decide ((o.at':Int)+(o.text.length:Int)>192)=true›) (by decide)|exact absurd (hq3.symm.trans ‹(o.kind==3)=true›) (by decide)|refine Q1 6 (hx:=?_);rw[hd.out];exact⟨_,trivial,rfl,rfl⟩
attribute [local irreducible] mget mset
theorem Qvt(s:Pm.Store)(hl:QbQ s)(t:Pl.Tree)(p:List UInt8)(hp:p.length<=1000000000000):
 (∃a,Pure A6 28 [dSt s,dTree t] (.tup [a,dB false]))/\Quh s t p=(0,false)∨
 ∃m,Qcq m (QaH s (Qc s t))/\Qaa s=true/\Qae s t=true/\Pure A6 28 [dSt s,dTree t] (.tup [.pd (rFiles s t (Qc s t) m),dB true])/\
  ((∃i:Int,i<0/\Pure A6 42 [.pd (rFiles s t (Qc s t) m),dS p] (dI i)/\Quh s t p=(0,false))∨
   ∃k:Nat,Qs (Qu (Qc s t)) k≠0/\Pure A6 42 [.pd (rFiles s t (Qc s t) m),dS p] (dI k)/\Quh s t p=(((k:Nat):Int),true)):=by
 have hTx:Qaa s=true->QcB s:=fun h n hn _=>(bTextA s (QdW h) (Qe6 h) n hn).imp fun S w v hv=>by
  cases hv with
  |tup _ cs hl hr=>
   refine .tup _ cs hl fun i d x hd hx=>?_
   match i,hd with
   |0,hd=>obtain rfl:=AH hd;exact .any _
   |1,hd=>grind
 have cI:=Qob s t (Qk2 s hl.b1 hl.b2 hl.b3 hl.b4) (fun h=>⟨QdW h,Qe6 h⟩) hTx;have hrl:=QhD s t;have hpa:=Qvh s t p
 by_cases hs:(Qaa s&&Qae s t)=true
 rotate_left
 ·refine .inl ⟨?_,?_⟩
  ·grind [Qc4,QbT]
  grind [Quh]
 have hs':=hs;rw[A0] at hs';have hF:=(QeI s t).1 hs'.2;rw[hs'.2,A0] at hrl
 have hin:Qc4 s t= .tup [.pd (rFiles s t (Qc s t) (QaK s (Qc s t) (Qc s t).length)),dB true]:=by
  grind [Qc4,QbT]
 rw[hin] at cI;have hm:=QmT s (Qc s t);have cP:Pure A6 42 [.pd (rFiles s t (Qc s t) (QaK s (Qc s t) (Qc s t).length)),dS p] (dI (Quk s (Qc s t) p)):=by unfold Quk;exact bPath s t _ _ _ hm p hp
 refine .inr ⟨_,hm,hs'.1,hs'.2,cI,?_⟩;rw[hpa] at cP;unfold Quh;cases hq:QT p with
 |none=>grind
 |some q=>
  rw[hq] at cP;dsimp only at cP⊢;rw[if_pos hs];cases hj:QbB s (Qk s t) 0 q with
  |none=>grind
  |some j=>
   rw[hj] at cP;obtain⟨k,rfl⟩:=Int.eq_ofNat_of_zero_le (QuG (AS 0) hj);obtain⟨M,hM,_⟩:=QuM hF hj;refine .inr ⟨k,?_,cP,rfl⟩;rw[AO] at hM;have:=Qv3 hM;omega
def Qus(s:Pm.Store)(t:Pl.Tree)(p:List UInt8):List UInt8×Bool:=if(Quh s t p).2 then(Qad s ((Qk s t).getD (Quh s t p).1.toNat Qd),QO s ((Qk s t).getD (Quh s t p).1.toNat Qd)) else([],false)
def QvM(s:Pm.Store)(hl:QbQ s)(t:Pl.Tree)(p:List UInt8)(hp:p.length<=1000000000000):Pure A6 16 [dSt s,dTree t,dS p] (.tup [dS (Qus s t p).1,dB (Qus s t p).2]):=by
 unfold Qus;rcases Qvt s hl t p hp with⟨⟨a,cI⟩,h⟩|⟨m,_,h1,h2,cI,⟨i,hi,cP,h⟩|⟨k,hk,cP,h⟩⟩
 ·rw[h]
  refine kE ?_;refine Qa 0 (h:=?_);refine Qa 1 (h:=?_)
  repeat refine kA ?_
  all_goals first|exact Qb (hx:=rfl)
 ·rw[h]
  refine kE ?_;refine Qa 0 (h:=?_);refine Qa 1 (h:=?_)
  repeat' first|refine kA ?_|refine kV ?_ ?_<;>intro q|fail
  all_goals first|exact Qb (hx:=rfl)|exfalso;simp only[decide_eq_false_iff_not] at*;omega
 ·rw[h]
  obtain⟨hx,_,hno⟩:=Qg8 ((QeI s t).1 h2).tab;have c:=bTextA s (QdW h1) (Qe6 h1) _ (hno k hk);rcases Qf9 hx k with⟨_,h3⟩|⟨hy,hlt,_⟩
  ·exfalso;apply hk;unfold Qs;rw[h3];rfl
  obtain⟨y,hyk⟩: ∃y,(Qc s t)[k]? =some y:=⟨_,List.getElem?_eq_getElem hlt⟩;have hr:=Qt (f:=fun x=>[QaR x]) hyk;have hyd:(Qc s t).getD k []=y:=by rw[List.getD_eq_getElem?_getD,hyk];rfl
  have hnx:=Qfc (x:=Qc s t) k;rw[hyd] at hnx hy;have e:QaR y= .pd (rNode (Qp y).1):=by unfold QaR;rw[if_neg hy]
  simp only[e] at hr;show Pure _ _ _ (.tup [dS (if true=true then(Qad s ((Qu (Qc s t)).getD k Qd),_) else _).1,dB (if true=true then(_,QO s ((Qu (Qc s t)).getD k Qd)) else _).2]);simp only[if_true];rw[hnx] at c⊢;generalize Qad s (Qp y).1=tx at*;generalize QO s (Qp y).1=fo at*;generalize (Qp y).1=N at*;clear hno hx hk h hyk hyd hnx hy e h2;obtain⟨kd,links,size,⟨⟨p1,p2,p3,p4,p5⟩,depth,many⟩⟩:=N;generalize Qc s t=x at*;refine kE ?_;refine Qa 0 (h:=?_);refine Qa 1 (h:=?_)
  repeat' first|refine kS ?_|refine qS (Qdi rfl) ?_|refine qS (iy hr) ?_|refine kU ?_|fail
  all_goals first|exact Qb (hx:=rfl)|exfalso;simp only[decide_eq_true_eq] at*;omega
end Aw
end
section
namespace Gr
variable{kind:Nat->Nat}{en:Nat->Option En}
theorem fp_deep{r L:List It}(h:FP kind en r L): ∀x∈L,∃y∈r,x.1.length<=y.1.length+L.length:=by
 induction h with
 |nil=>grind
 |file hk h ih=>
  grind [A1]
 |@dir p k es r L1 L2 hk he h1 h2 ih1 ih2=>
  intro x hx;rcases List.mem_cons.1 hx with rfl|hx
  ·simp_all
  ·rcases List.mem_append.1 hx with hx|hx
   ·obtain⟨y,hy,g⟩:=ih1 x hx
    obtain⟨e,hem,rfl⟩:=A3.1 hy
    grind [A1]
   grind
end Gr
namespace Aw
theorem Qvr{s:Pm.Store}{t:Pl.Tree}(h:Qae s t=true): ∀x∈(QaI s t).1,(QC x.1).length<=1000:=by grind [QuP,Qae,QgM,Gr.fp_deep,QpM,Qbo,Qei]
end Aw
end
section
open Go.RowKit
namespace Aw
open Pm (Rep)
def Pure.at{f:FuncId}{args:List D}{x:D}(h:Pure A6 f args x){w:World}(hL:Pm.Lt w)(cargs:List Value)(hl:args.length=cargs.length)(hr: ∀(i:Nat) d v,args[i]? =some d->cargs[i]? =some v->RelD (fun b=>b<w.heap.size) w d v):
 Calls A6 f cargs.toArray w fun e w'=> ∃v,e= .returned v/\Below w.heap.size w w'/\RelD (fun b=>b<w'.heap.size) w' x v:=by
 have hS:Sm ⟨w,nG,fun _=>False,fun b=>b<w.heap.size⟩ (fun _=>none) (fun b=>b<w.heap.size) [] w:=
  ⟨rfl,rfl,rfl,Nat.le_refl _,fun _ _ _=>rfl,fun _ h=>h,fun b hb=>⟨hb,.inl hb⟩,fun k b hk=>by simp at hk,fun k k' b hk=>by simp at hk,fun k C hC=>by simp at hC⟩
 refine(h ⟨w,nG,fun _=>False,fun b=>b<w.heap.size⟩ (fun _=>none) (fun b=>b<w.heap.size) [] w cargs ⟨rfl,fun _ hb=>hb.elim,hL⟩ hS hl hr).mono fun e w' ⟨v,h1,h2,h3⟩=>⟨v,h1,h2,h3.mono (fun b hb=>?_) fun _ _=>rfl⟩
 have:=h2.size;omega

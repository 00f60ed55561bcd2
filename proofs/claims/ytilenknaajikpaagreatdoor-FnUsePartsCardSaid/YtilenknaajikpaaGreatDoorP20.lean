/- Of parts_card; no condition. -/
import Derived.Test.YtilenknaajikpaaGreatDoorP17
import Derived.Test.YtilenknaajikpaaGreatDoorP18
set_option linter.all false
set_option maxRecDepth 100000
set_option maxHeartbeats 8000000
open Bool renaming and_eq_true->AC,toNat_false->AT,toNat_true->AW
open Go renaming TypeId->AR
open Go.Proofs.Tryz renaming prog->A3,underlying5->A7,underlying3->AE,underlying22->AQ
open Go.RowKit renaming Hid->AN
open Int renaming emod_lt_of_pos->A8,emod_nonneg->AB,toNat_natCast->AG
open List renaming getElem?_eq_getElem->A0,take_of_length_le->A1,length_append->A2,length_cons->A4,mem_of_getElem?->A5,take_add_one->A6,length_nil->A9,getD_eq_getElem?_getD->AA,take_length->AD,mem_of_mem_take->AF,length_tail->AH,all_eq_true->AI,length_map->AK,length_pos_iff->AL,mem_singleton->AO,append_assoc->AP,length_take->AS,all_append->AU,append_nil->AX,map_take->AY,mem_cons->AZ,mem_map->Aa
open Nat renaming mul_assoc->AM,zero_add->Ab
open Option.some renaming inj->AJ
namespace Go.Proofs.YtilenknaajikpaaGreatDoor
noncomputable section
section
namespace Aw
def QbE(E:Qi->List Ql×Bool)(ns:List Qi):Int->List (List UInt8)->Option Int
 |i,[]=>some i
 |i,n::q=>match(E (ns.getD i.toNat Qd)).1.find? (fun e=>e.1==n) with
  |none=>none
  |some e=>QbE E ns e.2 q
def Qf1(E:Qi->List Ql×Bool)(ns:List Qi)(i:Int):QbE E ns i []=some i:=rfl
def Qeo(E:Qi->List Ql×Bool)(ns:List Qi)(i:Int)(n:List UInt8)(q:List (List UInt8)):QbE E ns i (n::q)=match(E (ns.getD i.toNat Qd)).1.find? (fun e=>e.1==n) with
 |none=>none
 |some e=>QbE E ns e.2 q:=rfl
def Qah(s:Pm.Store)(ns:List Qi):Int->List (List UInt8)->Option Int:=QbE (Qf s) ns
def QcV(out:List QaW)(q:List (List UInt8))(k:Nat):Bool:=out.any fun x=>(x.2==(k:Int))&&q.isPrefixOf x.1
def Qbj(s:Pm.Store)(t:Pl.Tree)(q:List (List UInt8))(f:Qi->Int):Int:=
 Qa6 (fun k=>if QcV (QaN s t).1 q k then f ((Qe s t).getD k Qd) else 0) (Qe s t).length
def Qab(s:Pm.Store)(t:Pl.Tree)(path:List UInt8)(f:Qi->Int):Int×Bool:=
 match Qz path with
 |none=>(0,false)
 |some q=>if QO s&&Qaf s t then(match Qah s (Qe s t) 0 q with|none=>(0,false)|some _=>(Qbj s t q f,true)) else(0,false)
theorem Qi3{s:Pm.Store}{ns:List Qi}: ∀{q:List (List UInt8)} {i j:Int},0<=i->Qah s ns i q=some j->0<=j
 |[],i,j,h,hf=>by unfold Qah at hf;rw[Qf1] at hf;grind
 |n::q,i,j,h,hf=>by
  unfold Qah at hf;rw[Qeo] at hf;split at hf
  ·cases hf
  ·rename_i e he
   exact Qi3 (by have:=Qit s _ e (List.mem_of_find?_eq_some he);omega) hf
theorem QhP{s:Pm.Store}{ns:List Qi}(hN:QcN ns (Qf s)): ∀{q:List (List UInt8)} {i j:Int},Qah s ns i q=some j->Gr.find (Qo ns) (QaL ns (Qf s)) i.toNat q=some j.toNat
 |[],i,j,hf=>by unfold Qah at hf;rw[Qf1] at hf;obtain rfl:=AJ hf;rfl
 |n::q,i,j,hf=>by
  unfold Qah at hf;rw[Qeo] at hf;split at hf
  ·cases hf
  ·rename_i e he
   have hE:(Qf s (ns.getD i.toNat Qd)).2=true:=by
    rcases Qd0 s (ns.getD i.toNat Qd) with h|h
    ·exact h.1
    grind
   have hk:=QeD hE;unfold Gr.find;rw[if_pos (by unfold Qo;omega)];have h1:QaL ns (Qf s) i.toNat=some ((Qf s (ns.getD i.toNat Qd)).1.map fun e=>(e.1,e.2.toNat)):=by unfold QaL;grind
   rw[h1,Option.getD_some,List.find?_map];have h2:((fun e:List UInt8×Nat=>e.1==n) ∘ fun e:Ql=>(e.1,e.2.toNat))=fun e:Ql=>e.1==n:=rfl
   rw[h2,he];exact QhP hN hf
theorem Qs0(s:Pm.Store)(ns:List Qi): ∀k es,QaL ns (Qf s) k=some es->(es.map (·.1)).Nodup:=by
 intro k es h;unfold QaL at h;split at h
 ·rename_i hE
  obtain rfl:=AJ h;rcases Qd0 s (ns.getD k Qd) with h|h
  ·rw[List.map_map];exact Qmp h.2
  grind
 ·cases h
theorem Qhe{s:Pm.Store}{t:Pl.Tree}{q:List (List UInt8)}{j:Int}(hF:QcR s t)(hj:Qah s (Qe s t) 0 q=some j):
 ∃M,Gr.FD (Qo (Qe s t)) (Gr.chOf (QaL (Qe s t) (Qf s))) [j.toNat] M/\
  ∀f:Qi->Int,Qbj s t q f=Qa6 (fun k=>if k∈M then f ((Qe s t).getD k Qd) else 0) (Qe s t).length:=by
 have hOk:=(Qfa s t).2 hF;unfold Qaf at hOk;simp only[AC,beq_iff_eq] at hOk;obtain⟨L,g1,g2,g3⟩:=Qg7 s hF.root hOk.1.2;obtain⟨M,hM,hi⟩:=Gr.QpZ (p:=[]) (Qs0 s _) g1 (QhP (nsOk s t) hj);refine⟨M,hM,fun f=>?_⟩;unfold Qbj;rw[g3];refine QeO fun k _=>?_
 have:QcV (L.map QbG) q k=true↔k∈M:=by
  rw[<-hi k];unfold QcV;rw[List.any_map,List.any_eq_true];simp only[Function.comp,QbG,AC,beq_iff_eq,List.isPrefixOf_iff_prefix,List.nil_append]
  grind
 grind
end Aw
end
section
open Go.RowKit
namespace Aw
variable{x y:Operand}{T T':AR}{P:Program}{a b c:Int}{α:Type}
attribute [local irreducible] ASeq ADraw AWP Loc
def Qy(s:List UInt8):List (List UInt8):=if s=[47] then [] else(Pl.cutB 47 s).tail
def QqS(l:List (List UInt8)):(l.map fun s=>[dS s]).drop 1=l.tail.map fun s=>[dS s]:=by cases l<;>rfl
def Qgv(s:List UInt8)(hs:s.length<=1000000000000):Pure A3 95 [dS s] (tStrs (Qy s)):=by
 have c:=al2Cut s 47 hs;have hd:AN (Qy s=if s=[47] then [] else(Pl.cutB 47 s).tail):=Pm.hid rfl;have hne:=AL.2 (Pl.QgY 47 s);have ht:=Pm.hid (QqS (Pl.cutB 47 s));generalize Pl.cutB 47 s=l at*;refine kB ?_
 repeat' first|refine kS ?_|refine qS (Qdo (m:=[47]) rfl rfl) ?_|refine qS (Qhl rfl rfl rfl (by omega) (by simp;omega)) ?_|refine kU ?_|refine kV ?_ ?_<;>intro q|fail
 ·(refine Qa 0 (h:=?_);refine Qb (hx:=?_))
  rw[hd.out,if_pos (by simpa using q)];rfl
 ·refine Qb (hx:=?_)
  rw[hd.out,if_neg (by simpa using q)];have h:=ht.out
  first|rw[<-h];rfl|simp[<-h]
theorem aPathOk(s:List UInt8)(hs:s.length<=1000000000000):Pure A3 94 [dS s] (dB (Qz s).isSome):=by
 have c:=Qgv s hs;have hd:AN (Qz s=if s=[47] then some [] else if s.head? =some 47/\(Pl.cutB 47 s).tail.all Qac=true/\(Pl.cutB 47 s).tail.length<=4 then some (Pl.cutB 47 s).tail else none):=Pm.hid rfl
 by_cases h1:s=[47]
 ·subst h1
  refine kB ?_
  repeat' first|refine kS ?_|refine qS (Qdo (m:=[47]) rfl rfl) ?_|refine kU ?_|fail
  all_goals first|exfalso;simp at q;done|refine Qb (hx:=?_);rw[hd.out,if_pos rfl];rfl|skip
 have hd2:AN (Qz s=if s.head? =some 47/\(Pl.cutB 47 s).tail.all Qac=true/\(Pl.cutB 47 s).tail.length<=4 then some (Pl.cutB 47 s).tail else none):=Pm.hid (by rw[hd.out,if_neg h1]);have hn:Qy s=(Pl.cutB 47 s).tail:=if_neg h1;rw[hn] at c;have hcl:=(QdT 47 s);have hl:(Pl.cutB 47 s).tail.length<=s.length+1/\ ∀x∈(Pl.cutB 47 s).tail,x.length<=s.length:=⟨by rw[AH];omega,fun x hx=>hcl.2 x (List.mem_of_mem_tail hx)⟩;clear hd hn hcl;generalize (Pl.cutB 47 s).tail=l at*;cases s with
 |nil=>
  refine kB ?_
  repeat' first|refine kS ?_|refine qS (Qdo (m:=[47]) rfl rfl) ?_|refine kU ?_|fail
  all_goals first|exfalso;simp at q;done|refine Qb (hx:=?_);rw[hd2.out,if_neg (by simp)];rfl|skip
 |cons c0 s=>
  have hne:((c0::s)==[47])=false:=by simpa using h1
  have hc0:(c0::s)[(0:Int).toNat]? =some c0:=rfl;have h47:((c0.toNat:Nat):Int)=47↔c0=47:=⟨fun h=>UInt8.toNat_inj.1 (by have:((47:UInt8).toNat:Int)=47:=rfl;omega),fun h=>by rw[h];rfl⟩
  by_cases h2:c0=47
  rotate_left
  ·have hx:AN (Qz (c0::s)=none):=Pm.hid (by rw[hd2.out,if_neg (by simp[h2])])
   refine kB ?_
   repeat' first|refine kS ?_|refine qS (Qdo (m:=[47]) rfl rfl) ?_|refine qS (Qen Ty.h rfl rfl rfl (by omega) hc0) ?_|refine kU ?_|refine kV ?_ ?_<;>intro q|fail
   all_goals first|refine Qb (hx:=?_);rw[hx.out];rfl|exfalso;rw[hne] at q;exact absurd q (by decide)|exfalso;simp only[bne_eq_false_iff_eq] at*;exact h2 (h47.1 (by assumption))|skip
  subst h2;have hd3:AN (Qz (47::s)=if l.all Qac=true/\l.length<=4 then some l else none):=Pm.hid (by rw[hd2.out];simp);clear hd2 h47;refine kB ?_
  repeat' first|refine kS ?_|refine qS (Qdo (m:=[47]) rfl rfl) ?_|refine qS (Qen Ty.h rfl rfl rfl (by omega) hc0) ?_|refine kU ?_|refine kV ?_ ?_<;>intro q|fail
  all_goals first|exfalso;rw[hne] at q;exact absurd q (by decide)|exfalso;exact absurd q (by decide)|exfalso;simp at q;done|skip
  refine Qs (fun m st=> ∃k:Nat,k<=l.length/\m=l.length -k/\AN ((l.take k).all Qac=true)/\st=⟨31,[(3,.d (tStrs l)),(4,.d (dI k))],[]⟩) [3,4] 0 l.length ⟨0,by omega,rfl,Pm.hid rfl,rfl⟩ (round:=?_);rintro m st ⟨k,hk,rfl,hA,rfl⟩
  repeat refine kG ?_
  cases q3:decide ((k:Int)<(l.length:Int))
  ·repeat refine kA ?_
   refine Qb (hx:=?_);have:k=l.length:=by simp at q3;omega
   have h:=hA.out;rw[this,AD] at h;rw[hd3.out,h];refine congrArg dB ?_
   by_cases h4:l.length<=4
   ·rw[if_pos ⟨rfl,h4⟩];simp;omega
   ·rw[if_neg (fun x=>h4 x.2)];simp;omega
  have hk2:k<l.length:=by simp at q3;omega
  obtain⟨x,hx⟩: ∃x,l[k]? =some x:=⟨_,A0 hk2⟩;have hr:=Qu (f:=fun s=>[dS s]) hx;have c2:=aNameOk x (by have:=hl.2 x (A5 hx);unfold Pm.big;omega);have T:AN (Qac x=true->(l.take (k+1)).all Qac=true):=Pm.hid fun h=>by rw[A6,hx,AU,hA.out];simpa using h
  have F:AN (Qac x=false->Qz (47::s)=none):=Pm.hid fun h=>by
   rw[hd3.out,if_neg];rintro⟨h1,_⟩;have:=AI.1 h1 x (A5 hx);rw[h] at this;cases this
  clear hx hA hd3;generalize Qac x=ok at*
  repeat' first|refine kS ?_|refine qS (iy hr) ?_|refine kU ?_|refine kV ?_ ?_<;>intro q|fail
  all_goals first|exact Qn (l.length -(k+1)) (by omega) ⟨k+1,by omega,rfl,Pm.hid (T.out (by simpa using q)),rfl⟩|refine Qb (hx:=?_);rw[F.out (by simpa using q)];rfl
theorem Qia(s:List UInt8)(hs:s.length<=1000000000000):Pure A3 45 [dS s] (.tup [tStrs ((Qz s).getD []),dB (Qz s).isSome]):=by
 have c1:=aPathOk s hs;have c2:=Qgv s hs
 have hn:AN ((Qz s).isSome=true->Qy s=(Qz s).getD []):=Pm.hid fun h=>by
  unfold Qz Qy at*;split
  ·rfl
  ·rename_i h1
   rw[if_neg h1] at h;split
   ·rfl
   ·rename_i h2;rw[if_neg h2] at h;cases h
 have hcl:=(QdT 47 s)
 have hl:(Qy s).length<=s.length+1:=by
  unfold Qy;split
  ·simp
  ·rw[AH];omega
 have h0:AN ((Qz s).isSome=false->(Qz s).getD []=[]):=Pm.hid fun h=>by cases hx:Qz s with|none=>rfl|some x=>rw[hx] at h;cases h
 generalize (Qz s).getD []=r at*;generalize (Qz s).isSome=ok at*;generalize Qy s=l at*;refine kB ?_
 repeat' first|refine kS ?_|refine QdW Ty.h rfl Ty.h (hb:=?_) (hcell:=?_) (kk:=?_)|refine kU ?_|refine kV ?_ ?_<;>intro q|fail
 ·(refine Qa 0 (h:=?_);refine Qb (hx:=?_))
  have h1:ok=false:=by simpa using q
  rw[h0.out h1,h1];rfl
 ·intro r hr d hd
  obtain⟨x,_,rfl⟩:=Aa.1 hr;simp at hd;subst hd;rfl
 ·simp;omega
 ·(refine Qa 0 (h:=?_);refine Qb (hx:=?_))
  have h1:ok=true:=by simpa using q
  rw[<-hn.out h1,h1];simp[A1]
attribute [local irreducible] AStep Fg.PlanF Fg.Flts
def QcH(l:List (List UInt8)):List UInt8:=if l.flatMap (fun x=>47::x)=[] then [47] else l.flatMap (fun x=>47::x)
def al14Of(l:List (List UInt8))(hl:l.length<=1000)(hx: ∀x∈l,x.length<=1000000000000):Pure A3 229 [tStrs l] (dS (QcH l)):=by
 refine kE ?_
 repeat refine kA ?_
 refine Qs (fun m st=> ∃(k:Nat) (out:List UInt8),k<=l.length/\m=l.length -k/\out.length<=k*1000000000001/\AN (out=(l.take k).flatMap (fun x=>47::x))/\st=⟨21,[(4,.d (dI k)),(3,.d (dS out)),(0,.d (tStrs l))],[]⟩) [4,3,0] 0 l.length ⟨0,[],by omega,rfl,by simp,Pm.hid rfl,rfl⟩ (round:=?_);rintro m st ⟨k,out,hk,rfl,hlen,hO,rfl⟩
 repeat refine kG ?_
 cases q3:decide ((k:Int)<(l.length:Int))
 ·have hkl:k=l.length:=by simp at q3;omega
  rw[hkl,AD] at hO;have hd:AN (QcH l=if out=[] then [47] else out):=Pm.hid (by unfold QcH;rw[<-hO.out]);clear hO
  repeat' first|refine kA ?_|refine kV ?_ ?_<;>intro q|fail
  all_goals first|exact Qb (hx:=by rw[hd.out,if_pos (by simpa using q)])|exact Qb (hx:=by rw[hd.out,if_neg (by simpa using q)])
 have hk2:k<l.length:=by simp at q3;omega
 obtain⟨x,hx1⟩: ∃x,l[k]? =some x:=⟨_,A0 hk2⟩;have hr:=Qu (f:=fun s=>[dS s]) hx1;have hxl:=hx x (A5 hx1);have T:AN ((l.take (k+1)).flatMap (fun x=>(47:UInt8)::x)=out++[47]++x):=Pm.hid (by rw[A6,hx1,hO.out];simp);clear hx1 hO
 repeat' first|refine kS ?_|refine qS (iy hr) ?_|refine qS (Qdg (m:=[47]) rfl rfl (by simp;omega)) ?_|refine qS (Qdg rfl rfl (by simp;omega)) ?_|refine kU ?_|fail
 all_goals first|refine Qn (l.length -(k+1)) (by omega) ⟨k+1,out++[47]++x,by omega,rfl,by simp;omega,Pm.hid T.out.symm,?_⟩;simp[keepE,go_sem];done
def QhA(s:List UInt8)(hs:s.length<=1000000000000)(hn:Qy s≠[]):Pure A3 185 [dS s] (dS ((Qy s).getD ((Qy s).length -1) [])):=by
 have c1:=Qgv s hs
 have hnl:(Qy s).length<=s.length+1:=by
  unfold Qy;split
  ·simp
  ·have:=(QdT 47 s).1
   rw[AH];omega
 generalize Qy s=l at*;have hl:=AL.2 hn;obtain⟨x,hx1⟩: ∃x,l[l.length -1]? =some x:=⟨_,A0 (by omega)⟩;have hr:=Qu (f:=fun s=>[dS s]) hx1;rw[show((l.length -1:Nat):Int)=(l.length:Int) -1 by omega] at hr;have hd:AN (l.getD (l.length -1) []=x):=Pm.hid (by rw[AA,hx1];rfl);rw[hd.out];clear hx1 hd;refine kE ?_
 repeat' first|refine kS ?_|refine qS (iy hr) ?_|refine kU ?_|fail
 all_goals first|exact Qb (hx:=rfl)
def Qc2(s top:List UInt8):Bool:=
 if !(Qz s).isSome|| !(Qz top).isSome||decide (((Qz s).getD []).length<((Qz top).getD []).length) then false
 else QcH (((Qz s).getD []).take ((Qz top).getD []).length)==QcH ((Qz top).getD [])
theorem Qq5(s top:List UInt8)(hs:s.length<=1000000000)(ht:top.length<=1000000000)(h1: ∀l,Qz s=some l->l.length<=4/\ ∀x∈l,x.length<=4)(h2: ∀l,Qz top=some l->l.length<=4/\ ∀x∈l,x.length<=4):Pure A3 191 [dS s,dS top] (dB (Qc2 s top)):=by
 have c1:=Qia s (by omega);have c2:=Qia top (by omega);have hd:=Pm.hid (Qc2.eq_def s top);generalize Qc2 s top=res at*
 have e1:((Qz s).getD []).length<=4/\ ∀x∈(Qz s).getD [],x.length<=1000000000000:=by
  cases hp:Qz s with
  |none=>simp
  |some l=>have:=h1 l hp;exact⟨this.1,fun x hx=>by have:=this.2 x hx;omega⟩
 have e2:((Qz top).getD []).length<=4/\ ∀x∈(Qz top).getD [],x.length<=1000000000000:=by
  cases hp:Qz top with
  |none=>simp
  |some l=>have:=h2 l hp;exact⟨this.1,fun x hx=>by have:=this.2 x hx;omega⟩
 generalize (Qz s).getD []=a at*;generalize (Qz top).getD []=b at*;generalize (Qz s).isSome=p at*;generalize (Qz top).isSome=q0 at*;obtain⟨y1,y2⟩:=e1;obtain⟨y3,y4⟩:=e2;have c3:=al14Of (a.take b.length) (by rw[AS];omega) fun x hx=>y2 x (AF hx)
 have c4:=al14Of b (by omega) y4;have ht2:((a.map fun s=>[dS s]).take b.length)=(a.take b.length).map fun s=>[dS s]:=by rw[AY]
 rw[show tStrs (a.take b.length)= .sl true 1 ((a.map fun s=>[dS s]).take ((b.length:Nat):Int).toNat) by rw[AG,ht2]] at c3;clear y2 y4 h1 h2 ht2;refine kE ?_
 repeat' first|refine kS ?_|refine qS (Qg3 rfl rfl rfl (by omega) (by simp only[decide_eq_false_iff_not,AK] at*;omega)) ?_|refine kU ?_|refine kV ?_ ?_<;>intro q|fail
 all_goals first|refine Qb (hx:=?_);rw[hd.out];simp_all;done
attribute [local irreducible] EndR Fk.PlanF Fk.Flts Fk.AStepM Fk.Grew Fk.Gs
def QuJ(l:List Ql)(hb: ∀e∈l,e.1.length<=4/\0<=e.2/\e.2<=15)(hl:l.length<=1000):Pure A3 109 [tEnts l] (dS (QB l)):=by
 refine kB ?_
 repeat refine kA ?_
 refine Qs (fun m st=> ∃k:Nat,k<=l.length/\m=l.length -k/\st=⟨28,[(3,.d (dS (QB (l.take k)))),(4,.d (dI k)),(0,.d (tEnts l))],[]⟩) [3,4,0] 0 l.length ⟨0,by omega,rfl,rfl⟩ (round:=?_);rintro m st ⟨k,hk,rfl,rfl⟩
 repeat refine kG ?_
 cases q3:decide ((k:Int)<(l.length:Int))
 ·repeat refine kA ?_
  refine Qb (hx:=?_);have:k=l.length:=by simp at q3;omega
  rw[this,AD]
 have hk2:k<l.length:=by simp at q3;omega
 obtain⟨x,hx⟩: ∃x,l[k]? =some x:=⟨_,A0 hk2⟩;have hr:=Qu (f:=rEnt) hx;have hlen:=Qjx (l:=l.take k) fun e he=>hb e (AF he)
 rw[AS] at hlen;have hxb:=hb x (A5 hx);have T:AN (QB (l.take (k+1))=QB (l.take k)++x.1++[61]++Pl.dec x.2.toNat++[59]):=Pm.hid (by rw[A6,hx];simp[QB,Qau]);have hdl:=Pl.Qdb 8 x.2.toNat (by omega);have c:=al6Dec x.2.toNat (by omega);rw[show((x.2.toNat:Nat):Int)=x.2 by omega] at c;clear hx hb;generalize QB (l.take k)=out at*;generalize Pl.dec x.2.toNat=d at*;obtain⟨nm,id⟩:=x;simp only at hxb c T hr
 repeat' first|refine kS ?_|refine qD (iy hr) ?_|refine qD (Qdg (m:=[61]) rfl rfl (by first|omega|(simp;omega))) ?_|refine qD (Qdg (m:=[59]) rfl rfl (by first|omega|(simp;omega))) ?_|refine qD (Qdg rfl rfl (by first|omega|(simp;omega))) ?_|refine kU ?_|fail
 refine Qn (l.length -(k+1)) (by omega) ⟨k+1,by omega,rfl,?_⟩;simp[keepE,go_sem,T.out]
def QjS(l:List Ql): ∀r∈l.map rEnt,∀d∈r,d.cell=true:=by
 intro r hr d hd;obtain⟨p,_,rfl⟩:=Aa.1 hr;simp at hd;rcases hd with rfl|rfl<;>rfl
def Qpj(l:List Ql)(i:Nat)(hi:i<l.length)(hl:l.length<=1000):Pure A3 189 [tEnts l,dI i] (tEnts (l.take i++l.drop (i+1))):=by
 refine kE ?_;have hc1:=QjS (l.take i);have hc2:=QjS (l.drop (i+1));have t1:(l.map rEnt).take (i:Int).toNat=(l.take i).map rEnt:=by rw[AG,AY]
 have t2:(l.map rEnt).drop ((i:Int)+1).toNat=(l.drop (i+1)).map rEnt:=by rw[show((i:Int)+1).toNat=i+1 by omega,List.map_drop]
 repeat' first|refine kS ?_|(show AWP _ (.region 1 _ _) _ _;refine(Fk.awp_drawF (id:=1) [0,1,2,3,5,6,7,8] [4,9] [(0,.arr 0 2 56 [])] [] ?_))|refine(Fk.aw_fltS 0 rfl rfl rfl rfl rfl ?_)|refine(Fk.aw_fltL (ho:=rfl) (hk:=rfl) (hl:=fun H=>Qg3 rfl rfl rfl (by omega) (by simp;omega)) (k:=?_))|refine(Fk.aw_fltL (ho:=rfl) (hk:=rfl) (hl:=fun H=>Qjf rfl rfl (by omega)) (k:=?_))|refine(Fk.aw_fltL (ho:=rfl) (hk:=rfl) (hl:=fun H=>Qhl rfl rfl rfl (by omega) (by simp;omega)) (k:=?_))|refine(Fk.aw_appM (by kernel_rfl) Ty.h rfl Ty.h (hcell:=?_) (hb:=?_) (kk:=?_))|refine kU ?_|fail
 ·rw[t1];exact hc1
 ·simp;omega
 ·rw[t2];exact hc2
 ·simp;omega
 rw[t1,t2];refine Qa 0 (h:=?_);refine Qb (hx:=?_);simp[A1]
def QcS(l m:List UInt8):Bool:= !(Op.bytesLess l m||l==m)
def Qay:List Ql->Ql->List Ql
 |[],e=>[e]
 |x::l,e=>if QcS x.1 e.1 then e::x::l else x::Qay l e
def Qk2(x e:Ql)(l:List Ql):Qay (x::l) e=if QcS x.1 e.1 then e::x::l else x::Qay l e:=rfl
def QmM{e x:Ql}: ∀{l:List Ql},x∈Qay l e->x=e∨x∈l
 |[],h=> .inl (AO.1 h)
 |y::l,h=>by
  unfold Qay at h;split at h
  ·rcases AZ.1 h with h|h
   ·exact .inl h
   ·exact .inr h
  ·rcases AZ.1 h with h|h
   ·exact .inr (by rw[h];exact List.mem_cons_self)
   ·exact(QmM h).imp (fun h=>h) fun h=>List.mem_cons_of_mem _ h
def QmN(e:Ql): ∀l:List Ql,(Qay l e).length=l.length+1
 |[]=>rfl
 |x::l=>by
  unfold Qay;split
  ·rfl
  ·rw[A4,QmN e l,A4]
def QrJ{dst:Option Tmp}{ty:AR}{pos:String}{after:Array Edge}{gd:Option (Nat×Bool)}{env:List (Nat×AV)}{H:List Blk}{l m:List UInt8}(hx:aval env x= .d (.v (.string ⟨l.toArray⟩)))(hy:aval env y= .d (.v (.string ⟨m.toArray⟩))):
 Loc P ⟨dst,.binOp .gtr T x y T',ty,pos,after,gd⟩ env H (.d (.v (.bool (QcS l m)))) none:=
 loc_bin' (X:= .string ⟨l.toArray⟩) (Y:= .string ⟨m.toArray⟩) (by rw[hx];rfl) (by rw[hy];rfl) fun w=>by
  rw[Sem.run_bind,Qgl,Result.andThen_ok];simp only[binOp,Op.stringOp,Qix];rfl
def al12Add(l:List Ql)(e:Ql)(hl:l.length<=1000):Pure A3 184 [tEnts l,.agg (rEnt e)] (tEnts (Qay l e)):=by
 refine kE ?_;refine Qa 0 (h:=?_)
 repeat refine kA ?_
 refine Qs (fun m st=> ∃(k g:Nat) (out:List Ql) (done:Bool),k<=l.length/\m=l.length -k/\out.length<=k+done.toNat/\AN (done=false->Qay l e=out++Qay (l.drop k) e)/\AN (done=true->Qay l e=out++l.drop k)/\st=⟨45,[(7,.d (dI k)),(5,.osl 1 g 0 out.length),(6,.d (dB done)),(0,.d (tEnts l)),(3,.d (.pd (rEnt e)))],[.row 1 [],.arr g 2 56 (out.map rEnt)]⟩) [7,5,6,0,3] 2 l.length ⟨0,0,[],false,by omega,rfl,by simp,Pm.hid (fun _=>rfl),Pm.hid (fun h=>by cases h),rfl⟩ (round:=?_);rintro m st ⟨k,g,out,done,hk,rfl,hlen,hF,hT,rfl⟩
 repeat refine kG ?_
 cases q3:decide ((k:Int)<(l.length:Int))
 ·have hkl:k=l.length:=by simp at q3;omega
  have hdr:l.drop k=[]:=List.drop_of_length_le (by omega);rw[hdr] at hF hT;have hF2:AN (done=false->Qay l e=out++[e]):=hF;clear hF;cases done<;>simp only[AT,AW] at hlen
  ·repeat' first|refine kS ?_|refine QU Ty.h rfl Ty.h (hb:=?_) (kk:=?_)|refine kU ?_|fail
   all_goals first|simp;omega|((refine Qa 1 (h:=?_);refine Qb (hx:=?_));rw[hF2.out rfl];simp[A1])
  ·repeat refine kA ?_
   all_goals first|((refine Qa 1 (h:=?_);refine Qb (hx:=?_));rw[hT.out rfl];simp[A1])
 have hk2:k<l.length:=by simp at q3;omega
 obtain⟨x,hx⟩: ∃x,l[k]? =some x:=⟨_,A0 hk2⟩;have hr:=Qu (f:=rEnt) hx;have hdr:l.drop k=x::l.drop (k+1):=by rw[List.drop_eq_getElem_cons hk2];congr 1;rw[A0 hk2] at hx;exact AJ hx
 rw[hdr] at hF hT;clear hx hdr;cases done<;>simp only[AT,AW] at hlen
 ·have hA:AN (QcS x.1 e.1=true->Qay l e=(out++[e]++[x])++l.drop (k+1)):=Pm.hid fun h=>by
   have:=hF.out rfl;rw[Qk2,if_pos h] at this;rw[this];simp
  have hB:AN (QcS x.1 e.1=false->Qay l e=(out++[x])++Qay (l.drop (k+1)) e):=Pm.hid fun h=>by
   have:=hF.out rfl;rw[Qk2,if_neg (by rw[h];decide)] at this;rw[this];simp
  clear hF hT
  repeat' first|refine kS ?_|refine qD (iy hr) ?_|refine qS (iy hr) ?_|refine qD (QrJ rfl rfl) ?_|refine QU Ty.h rfl Ty.h (hb:=?_) (kk:=?_)|refine kU ?_|refine kV ?_ ?_<;>intro q|fail
  all_goals first|simp;omega|refine Qn (l.length -(k+1)) (by omega) ⟨k+1,g+1+1,out++[e]++[x],true,by omega,rfl,by simp;omega,Pm.hid (fun h=>by cases h),Pm.hid (fun _=>hA.out (by assumption)),?_⟩;simp[keepE,go_sem];done|refine Qn (l.length -(k+1)) (by omega) ⟨k+1,g+1,out++[x],false,by omega,rfl,by simp;omega,Pm.hid (fun _=>hB.out (by assumption)),Pm.hid (fun h=>by cases h),?_⟩;simp[keepE,go_sem];done
 ·have hA:AN (Qay l e=(out++[x])++l.drop (k+1)):=Pm.hid (by rw[hT.out rfl];simp)
  clear hF hT
  repeat' first|refine kS ?_|refine qS (iy hr) ?_|refine QU Ty.h rfl Ty.h (hb:=?_) (kk:=?_)|refine kU ?_|fail
  all_goals first|simp;omega|refine Qn (l.length -(k+1)) (by omega) ⟨k+1,g+1,out++[x],true,by omega,rfl,by simp;omega,Pm.hid (fun h=>by cases h),Pm.hid (fun _=>hA.out),?_⟩;simp[keepE,go_sem];done
def dAll(s:Pm.Store)(hg:QM s)(t:Pl.Tree)(ht:Qx t)(hsub:Qcb s t.depth.toNat t.root):Does A3 227 [.d (dSt s),.d (dTree t)] [] [] (.osl 0 (QP s t).length 0 (QP s t).length) [.arr (QP s t).length 5 31 ((QP s t).map rPtr)]:=by
 obtain⟨e1,e2,e3,e4,_⟩:=QlB hsub;have hall:AN ([]++Qb6 s [t.root]=QP s t):=Pm.hid (by unfold QP Qb6;rw[e1];simp);have hlen:=Qfh (s:=s) ht.hi;have hL:AN (QcK s [t.root]):=Pm.hid fun p hp=>by rw[AO.1 hp];exact⟨e2,e3⟩
 have hm0:Qbc [t.root]<=21:=by
  have h1:=Qk8 (n:=t.root.level.toNat) (m:=2) (by have:=ht.hi;omega);have h2:Qbn 2=21:=rfl;have h3:Qbc [t.root]=Qbn t.root.level.toNat+0:=rfl;omega
 generalize QP s t=all at*;clear e1 e2 e3 e4 hsub ht;refine kL ?hpin fun gvs=>?_
 case hpin=>intro i C hC;simp at hC
 simp only[parA,gslot,Ab];refine kR ?_;refine Qa 0 (h:=?_);refine Qa 1 (h:=?_)
 repeat refine kA ?_
 refine Qa 3 (h:=?_)
 refine Qs (fun m st=> ∃(out l:List Pl.Ptr),m=Qbc l/\AN (out++Qb6 s l=all)/\AN (QcK s l)/\Qbc l<=21/\
  st=⟨47,[(5,.osl 2 out.length 0 out.length),(6,.d (tPtrs l)),(2,.d (.pd (rSt s))),(1000000,.gh [] gvs)],[.row 1 [],.row 1 [],.arr out.length 5 31 (out.map rPtr)]⟩) [5,6,2,1000000] 3 (Qbc [t.root]) ⟨[],[t.root],rfl,hall,hL,hm0,by simp[keepE,go_sem]⟩ (round:=?_)
 rintro m st ⟨out,l,rfl,hO,hS,hm,rfl⟩;have hol:out.length<=21:=by have:=congrArg List.length hO.out;rw[A2] at this;omega
 have hll:=Qoa l
 repeat refine kG ?_
 cases l with
 |nil=>
  repeat refine kA ?_
  all_goals first|exfalso;simp at*;done|skip
  have h:=hO.out;rw[show Qb6 s []=[] from rfl,AX] at h;rw[<-h];refine QdV [4,1000000] [2] (env':=[(4,.osl 0 out.length 0 out.length),(1000000,.gh [] gvs)]) (H':=[.arr out.length 5 31 (out.map rPtr)]) (h:=?_);exact Qek (hx:=rfl) (hH:=rfl)
 |cons p l=>
  have hp:=hS.out p (by simp);have hSl:AN (QcK s l):=Pm.hid fun q hq=>hS.out q (by simp[hq])
  have hr:((p::l).map rPtr)[(0:Int).toNat]? =some (rPtr p):=rfl;have ch:=Qdt p;have hlt:Qbc l<Qbc (p::l):=by rw[QiG];have:=QqG p.level.toNat;omega
  have hll2:=Qoa l;cases hh:Pl.ptrHole p;rotate_left
  ·rw[hh] at ch
   have hO2:AN (out++Qb6 s l=all):=Pm.hid (by rw[<-hO.out,QuF hh])
   repeat' first|refine kS ?_|refine qS (iy hr) ?_|refine qS (Qhl rfl rfl rfl (by omega) (by first|(simp;done)|(simp;omega))) ?_|refine QdW Ty.h rfl Ty.h (hb:=?_) (hcell:=?_) (kk:=?_)|refine kU ?_|refine kV ?_ ?_<;>intro q|fail
   all_goals first|exact Qdy l|simp;omega|exfalso;simp at*;done|skip
   refine QjD 4 (h:=?_);refine Qn (Qbc l) hlt ⟨out,l,rfl,hO2,hSl,by omega,?_⟩;simp[keepE,go_sem,A1]
  ·rw[hh] at ch
   have hob:=Qph s hg p p.level
   by_cases h0:p.level=0
   ·have hO2:AN ((out++[p])++Qb6 s l=all):=Pm.hid (by rw[<-hO.out,QuE hh h0,AP];rfl)
    have hd0:decide (p.level>0)=false:=by rw[h0];rfl
    repeat' first|refine kS ?_|refine qS (iy hr) ?_|refine qS (Qhl rfl rfl rfl (by omega) (by first|(simp;done)|(simp;omega))) ?_|refine QdW Ty.h rfl Ty.h (hb:=?_) (hcell:=?_) (kk:=?_)|refine QU Ty.h rfl Ty.h (hb:=?_) (kk:=?_)|refine kU ?_|refine kV ?_ ?_<;>intro q|fail
    all_goals first|exact Qdy l|simp;omega|exfalso;simp at*;done|exfalso;simp at*;omega|skip
    refine QjD 4 (h:=?_);refine Qn (Qbc l) hlt ⟨out++[p],l,rfl,hO2,hSl,by omega,?_⟩;simp[keepE,go_sem,A1]
   ·obtain⟨k1,k2,k3⟩:=QuD (l:=l) hh (by omega) hp.1
    have hO2:AN ((out++[p])++Qb6 s ((Qh s p p.level).1++l)=all):=Pm.hid (by rw[<-hO.out,k1,AP];rfl);have hSn:AN (QcK s ((Qh s p p.level).1++l)):=Pm.hid fun q hq=>(List.mem_append.1 hq).elim (k2 q) (hSl.out q)
    have hbl:=QeF s p p.level;clear k1 k2;generalize Qh s p p.level=bb at*;obtain⟨bl,bok⟩:=bb;simp only at hO2 hSn hbl k3
    repeat' first|refine kS ?_|refine qS (iy hr) ?_|refine qS (Qhl rfl rfl rfl (by omega) (by first|(simp;done)|(simp;omega))) ?_|refine QdW Ty.h rfl Ty.h (hb:=?_) (hcell:=?_) (kk:=?_)|refine QU Ty.h rfl Ty.h (hb:=?_) (kk:=?_)|refine kU ?_|refine kV ?_ ?_<;>intro q|fail
    all_goals first|exact Qdy l|exact Qdy bl|simp;omega|exfalso;simp at*;done|exfalso;simp at*;omega|skip
    refine Qe4 4 (h:=?_)
    repeat' first|refine kS ?_|refine QdW Ty.h rfl Ty.h (hb:=?_) (hcell:=?_) (kk:=?_)|refine kU ?_|fail
    ·intro r hr
     exact Qdy l r (by simpa[A1] using hr)
    ·simp;omega
    ·refine QjD 6 (h:=?_)
     refine Qn (Qbc (bl++l)) k3 ⟨out++[p],bl++l,rfl,hO2,hSn,by omega,?_⟩;simp[keepE,go_sem,A1]
abbrev rdR(rows:List (List D))(p:Nat):Blk:= .row 0 [.d (.sl true 1 rows),.d (dI p)]
def RdOk(rows:List (List D)):Prop:= ∀r∈rows,∃c:Nat,c<256/\r=[.v (.int .u8 c)]
def Qrl{rows:List (List D)}(h:RdOk rows)(i:Nat): ∃c:Nat,c<256/\(i<rows.length->rows[i]? =some [.v (.int .u8 c)]):=by
 by_cases hi:i<rows.length
 ·obtain⟨c,h1,h2⟩:=h _ (List.getElem_mem hi)
  exact⟨c,h1,fun _=>by rw[A0 hi,h2]⟩
 ·exact⟨0,by omega,fun h=>absurd h hi⟩
def QtN{dst:Option Tmp}{ty:AR}{pos:String}{after:Array Edge}{gd:Option (Nat×Bool)}{env:List (Nat×AV)}{H:List Blk}(hx:aval env x= .d (.v (.int .i64 a)))(hy:aval env y= .d (.v (.int .i64 b)))(hc:a -b=c)(h: -9223372036854775808<=a -b/\a -b<=9223372036854775807):
 Loc P ⟨dst,.binOp .sub T x y T',ty,pos,after,gd⟩ env H (.d (.v (.int .i64 c))) none:=hc▸QhH hx hy h
def Qoz{dst:Option Tmp}{ty:AR}{pos:String}{after:Array Edge}{gd:Option (Nat×Bool)}{env:List (Nat×AV)}{H:List Blk}(hx:aval env x= .d (.v (.int .i64 a)))(hy:aval env y= .d (.v (.int .i64 b)))(hc:a%b=c)(ha:0<=a)(hb:0<b):
 Loc P ⟨dst,.binOp .rem T x y T',ty,pos,after,gd⟩ env H (.d (.v (.int .i64 c))) none:=hc▸QhI hx hy ha hb
def Qo0{dst:Option Tmp}{ty:AR}{pos:String}{after:Array Edge}{gd:Option (Nat×Bool)}{env:List (Nat×AV)}{H:List Blk}(hx:aval env x= .d (.v (.int .i64 a)))(hy:aval env y= .d (.v (.int .i64 b)))(hc:a/b=c)(ha:0<=a/\a<=9223372036854775807)(hb:0<b):
 Loc P ⟨dst,.binOp .quo T x y T',ty,pos,after,gd⟩ env H (.d (.v (.int .i64 c))) none:=hc▸QhJ hx hy ha hb
def QcW(rows:List (List D))(i:Nat):Int:=match rows[i]? with
 |some [.v (.int _ c)]=>c
 |_=>0
def QcQ(rows:List (List D))(p:Int):Int:=QcW rows (p%rows.length).toNat*131+QcW rows ((p*7+3)%rows.length).toNat*1117+p*29+p/rows.length*53
def QaM(rows:List (List D))(p:Nat)(n:Int):Int:=
 if n<1∨rows.length=0 then 0 else if p<rows.length then QcW rows p%n else Qcn (QcQ rows p) (QcQ rows p/64)%n
def QsS{rows:List (List D)}{i c:Nat}(h:rows[i]? =some [.v (.int .u8 c)]):QcW rows i=c:=by unfold QcW;rw[h]
def pkv_b{rows:List (List D)}(h:RdOk rows)(p:Nat)(n:Int):0<=QaM rows p n/\(QaM rows p n<n∨QaM rows p n=0):=by
 unfold QaM;split
 ·exact⟨Int.le_refl _,.inr rfl⟩
 ·have hn:0<n:=by omega
  split
  ·exact⟨AB _ (by omega),.inl (A8 _ hn)⟩
  ·exact⟨AB _ (by omega),.inl (A8 _ hn)⟩
def QqC{c:Nat}(h:c<256):IntKind.i64.wrap (c:Int)=c:=Pm.QfB _ (by omega) (by omega)
def ePick(rows:List (List D))(hr:RdOk rows)(p:Nat)(hp:p<=1000000)(n:Int)(hn:n<=1000000):
 DoesE A3 18 [.ptr 0 0 0,.d (dI n)] [rdR rows p] [.ptr 0 0 0] (fun x H=>x= .d (dI (QaM rows p n))/\H=[rdR rows (p+1)]):=by
 have hd:=Pm.hid (QaM.eq_def rows p n);have hmx:QcQ rows p=QcW rows ((p:Int)%rows.length).toNat*131+QcW rows (((p:Int)*7+3)%rows.length).toNat*1117+(p:Int)*29+(p:Int)/rows.length*53:=rfl;generalize QaM rows p n=res at*;generalize QcQ rows p=mx at*;obtain⟨c0,h0,r0⟩:=Qrl hr (p:Int).toNat;obtain⟨c1,h1,r1⟩:=Qrl hr ((p:Int)%rows.length).toNat;obtain⟨c2,h2,r2⟩:=Qrl hr (((p:Int)*7+3)%rows.length).toNat;have w0:=QqC h0;have w1:=QqC h1;have w2:=QqC h2;have m1:0<rows.length->0<=(p:Int)%rows.length/\(p:Int)%rows.length<rows.length:=fun h=>⟨AB _ (by omega),A8 _ (by omega)⟩
 have m2:0<rows.length->0<=((p:Int)*7+3)%rows.length/\((p:Int)*7+3)%rows.length<rows.length:=fun h=>⟨AB _ (by omega),A8 _ (by omega)⟩
 have m3:0<rows.length->0<=(p:Int)/rows.length/\(p:Int)/rows.length<=p:=fun h=>⟨Int.ediv_nonneg (by omega) (by omega),Int.ediv_le_self _ (by omega)⟩
 by_cases hl:n<1∨rows.length=0
 ·clear r0 r1 r2 m1 m2 m3
  refine kH fun gvs=>?_
  repeat' first|refine kA ?_|refine kV ?_ ?_<;>intro q|fail
  all_goals first|refine Q3 1 (hx:=?_);rw[hd.out,if_pos hl];exact⟨rfl,rfl⟩|exfalso;simp only[beq_eq_false_iff_ne,decide_eq_false_iff_not,ne_eq] at*;omega
 replace m1:=m1 (by omega)
 replace m2:=m2 (by omega)
 replace m3:=m3 (by omega)
 generalize hk1:(p:Int)%rows.length=k1 at*;generalize hk2:((p:Int)*7+3)%rows.length=k2 at*;generalize hk3:(p:Int)/rows.length=k3 at*
 replace r1:=r1 (by omega)
 replace r2:=r2 (by omega)
 rw[QsS r1,QsS r2] at hmx;have hA:AN (p<rows.length->res=c0%n):=Pm.hid fun h=>by rw[hd.out,if_neg hl,if_pos h,QsS (i:=p) (r0 h)]
 have hB:AN (¬p<rows.length->res=Qcn ((c1:Int)*131+(c2:Int)*1117+(p:Int)*29+k3*53) (((c1:Int)*131+(c2:Int)*1117+(p:Int)*29+k3*53)/64)%n):=Pm.hid fun h=>by rw[hd.out,if_neg hl,if_neg h,hmx]
 clear hd hmx;have hn1:1<=n:=by omega
 have hl1:0<rows.length:=by omega
 clear hl;refine kH fun gvs=>?_
 repeat' first|refine kS ?_|refine qS (QtN (c:=(p:Int)) rfl rfl (by omega) (by omega)) ?_|refine qS (Qdc Ty.h rfl Ty.h rfl rfl rfl (by omega) (r0 (by simp only[decide_eq_true_eq] at*;omega))) ?_|refine qD (iy r1) ?_|refine qD (iy r2) ?_|refine qS (QeA A7 AE rfl rfl w0) ?_|refine qD (QeA A7 AE rfl rfl w1) ?_|refine qD (QeA A7 AE rfl rfl w2) ?_|refine qD (Qoz rfl rfl hk1 (by omega) (by omega)) ?_|refine qD (Qoz rfl rfl hk2 (by omega) (by omega)) ?_|refine qD (Qo0 rfl rfl hk3 (by omega) (by omega)) ?_|refine qD (Qd4 rfl rfl (by omega)) ?_|refine qS (QhJ rfl rfl (by omega) (by omega)) ?_|refine qS (loc_xor rfl rfl (by omega) (by omega)) ?_|refine qS (QhI rfl rfl (xorI_nn _ _) (by omega)) ?_|refine qS (QhI rfl rfl (by omega) (by omega)) ?_|refine kU ?_|refine kV ?_ ?_<;>intro q|fail
 all_goals first|exfalso;simp only[beq_iff_eq,decide_eq_true_eq] at*;omega|refine Q3 1 (hx:=?_);rw[hA.out (by simp only[decide_eq_true_eq] at*;omega)];exact⟨rfl,rfl⟩|refine Q3 1 (hx:=?_);rw[hB.out (by simp only[decide_eq_false_iff_not] at*;omega)];exact⟨rfl,rfl⟩
section
variable{ops:Array Oper}{Q:Exit->St->Prop}{l:List Oper}{n:Nat}{env:List (Nat×AV)}{H H':List Blk}{d:Tmp}{ty:AR}{pos:String}{after:Array Edge}{gd:Option (Nat×Bool)}{xs:Array Operand}{tys:Array AR}{rows:List (List D)}{p:Nat}{m:Int}
def aw_pk(k:Nat)(hr:RdOk rows)(hargs:xs.toList.map (aval env)=[.ptr k 0 0,.d (dI m)]:=by rfl)(hH:H[k]? =some (rdR rows p):=by rfl)(hp:p<=1000000:=by omega)(hm:m<=1000000:=by omega)
 (hw:awanted ops env ⟨some d,.call ⟨.value (.func 18),xs,tys⟩,ty,pos,after,gd⟩=some true:=by rfl) (hd:Nat.blt d n=true:=by rfl) (hg:gdOk ops n ⟨some d,.call ⟨.value (.func 18),xs,tys⟩,ty,pos,after,gd⟩=true:=by rfl)
 (hH': ∀R:List Blk->Prop,R H'->R (H.set k (rdR rows (p+1))):=by intro R hR;simp only[List.set_cons_zero,List.set_cons_succ];exact hR)
 (kk: ∀v:Nat,((v:Int)<m∨v=0)->ASeq A3 ops Q l ⟨n,(d,.d (dI v))::env,H'⟩):ASeq A3 ops Q (⟨some d,.call ⟨.value (.func 18),xs,tys⟩,ty,pos,after,gd⟩::l) ⟨n,env,H⟩:=by
 have e:=hH' (fun r=>r=H') rfl;obtain⟨h1,h2⟩:=pkv_b hr p m;refine QD [k] (ePick rows hr p hp m hm) Tryz.call18 (hargs:=hargs) (hks:=by simp[hH,Blk.ren,AV.renL,AV.ren]) (hnd:=by simp) (hw:=hw) (hd:=hd) (hg:=hg) (k:=?_);rintro _ _ ⟨rfl,rfl⟩;have:=kk (QaM rows p m).toNat (by omega);rw[Int.toNat_of_nonneg h1] at this;rw[<-e] at this;show ASeq _ _ _ _ ⟨_,_,H.set k (rdR rows (p+1))++[]⟩;rw[AX];exact this
end
def Qhs{p:α->Prop}{l:List α}{d:α}(h: ∀x∈l,p x)(hd:p d)(i:Nat):p (l.getD i d):=by
 rw[AA];cases h2:l[i]? with
 |none=>exact hd
 |some x=>exact h x (A5 h2)
def QdM{f:α->List D}(l:List α)(d:α){v n:Nat}(hl:l.length=n)(h:v<n):(l.map f)[(v:Int).toNat]? =some (f (l.getD v d)):=by
 rw[AG,List.getElem?_map,AA,A0 (by omega)];rfl
def Qby(x:Int):UInt8:=UInt8.ofNat (x%256).toNat
def QuS(x:Int):IntKind.u8.wrap x=((Qby x).toNat:Int):=by
 have h1:=AB x (show(256:Int)≠0 by decide);have h2:=A8 x (show(0:Int)<256 by decide);show x%256=_;unfold Qby;rw[UInt8.toNat_ofNat'];omega
def eOpen(rows:List (List D))(hr:RdOk rows):DoesE A3 15 [.d (.sl true 1 rows)] [] [] (fun x H=> ∃r,RdOk r/\x= .ptr 0 0 0/\H=[rdR r 0]):=by
 refine kH fun gvs=>?_
 repeat' first|refine kS ?_|refine qS (Qg3 rfl rfl rfl (by omega) (by simp only[decide_eq_true_eq] at*;omega)) ?_|refine kU ?_|refine kV ?_ ?_<;>intro q|fail
 all_goals first|refine Q3 1 (hx:=?_);exact⟨_,hr,rfl,rfl⟩|refine Q3 1 (hx:=?_);exact⟨_,fun r h=>hr r (AF h),rfl,rfl⟩
def ePath(rows:List (List D))(hr:RdOk rows)(p:Nat)(hp:p<=900000):
 DoesE A3 17 [.ptr 0 0 0] [rdR rows p] [.ptr 0 0 0] (fun x H=> ∃s:List UInt8,s.length<=12/\x= .d (dS s)/\H=[rdR rows (p+2)]):=by
 refine kH fun gvs=>?_
 repeat' first|refine kS ?_|(refine aw_pk 0 hr (kk:=?_);intro v hv)|refine qS (Qd8 Ty.h rfl Ty.h) ?_|refine qS (Qdc Ty.h rfl Ty.h rfl rfl rfl (by omega) (QdM (f:=fun s=>[dS s]) [[],[97],[47,47],[47,97,47],[47,65],[47,97,47,98,47,99,47,97,47,98],[47,97,98,99,100,101],[47,97,47,47,98]] [] (n:=8) rfl (by omega))) ?_|refine qS (Qdc Ty.h rfl Ty.h rfl rfl rfl (by omega) (QdM (f:=fun s=>[dS s]) [[47,97],[47,98],[47,97,47,98],[47,97,47,99],[47,98,47,97],[47,99],[47,97,47,98,47,99],[47,99,47,97],[47,97,98],[47]] [] (n:=10) rfl (by omega))) ?_|refine kU ?_|refine kV ?_ ?_<;>intro q|fail
 all_goals first|refine Q3 1 (hx:=?_);exact⟨_,Qhs (p:=fun s:List UInt8=>s.length<=12) (by decide) (by decide) _,rfl,rfl⟩
def eRow(rows:List (List D))(hr:RdOk rows)(p:Nat)(hp:p<=900000):
 DoesE A3 132 [.ptr 0 0 0] [rdR rows p] [.ptr 0 0 0] (fun x H=> ∃z:Int,(-1<=z/\z<=64)/\x= .d (dI z)/\H=[rdR rows (p+2)]):=by
 refine kH fun gvs=>?_
 repeat' first|refine kS ?_|(refine aw_pk 0 hr (kk:=?_);intro v hv)|refine qS (Qd8 Ty.h rfl Ty.h) ?_|refine qS (Qdc Ty.h rfl Ty.h rfl rfl rfl (by omega) (QdM (f:=fun z=>[dI z]) [-1,0,3,7,64,63] 0 (n:=6) rfl (by omega))) ?_|refine kU ?_|refine kV ?_ ?_<;>intro q|fail
 all_goals first|refine Q3 1 (hx:=?_);exact⟨_,Qhs (p:=fun z:Int=> -1<=z/\z<=64) (by decide) (by decide) _,rfl,rfl⟩|refine Q3 1 (hx:=?_);exact⟨_,by omega,rfl,rfl⟩
def eMany6(s:List UInt8)(n:Nat)(hs:s.length*n<=1000000)(hs1:s.length<=1000000)(hn:n<=1000000):DoesE A3 128 [.d (dS s),.d (dI n)] [] [] (fun x H=> ∃t:List UInt8,t.length<=1000000/\x= .d (dS t)/\H=[]):=by
 refine kH fun gvs=>?_
 repeat refine kA ?_
 refine Qs (fun m st=> ∃(n:Nat) (out s:List UInt8),m=n/\n<=1000000/\out.length+s.length*n<=1000000/\s.length<=2000000/\st=⟨20,[(5,.d (dS out)),(0,.d (dS s)),(1,.d (dI n)),(1000000,.gh [] gvs)],[]⟩) [5,0,1,1000000] 0 n
  ⟨n,[],s,rfl,hn,by simpa using hs,by omega,rfl⟩ (round:=?_)
 clear hs hs1 hn s n;rintro n st ⟨_,out,s,rfl,hn,hb,hs,rfl⟩
 repeat refine kG ?_
 cases q3:decide ((n:Int)>0)
 ·repeat refine kA ?_
  all_goals first|refine Q3 0 (hx:=?_);exact⟨_,by omega,rfl,rfl⟩
 have hn0:0<n:=by simp only[decide_eq_true_eq] at q3;omega
 have h1:s.length<=s.length*n:=Nat.le_mul_of_pos_right _ hn0
 have h2:s.length*n=2*(s.length*(n/2))+s.length*(n%2):=by
  conv=>lhs;rw[<-Nat.div_add_mod n 2]
  rw[Nat.mul_add,<-AM,<-AM,Nat.mul_comm s.length 2]
 have h3:(s++s).length*(n/2)=2*(s.length*(n/2)):=by rw[A2,<-Nat.two_mul,AM]
 generalize s.length*(n/2)=X at*;have h4:((n:Int)/2).toNat=n/2:=by omega
 have h5:(n:Int)/2=((n/2:Nat):Int):=by omega
 repeat' first|refine kS ?_|refine qS (QhI rfl rfl (by omega) (by omega)) ?_|refine qS (Qo0 rfl rfl h5 (by omega) (by omega)) ?_|refine qS (Qdg rfl rfl (by omega)) ?_|refine kU ?_|refine kV ?_ ?_<;>intro q|fail
 all_goals first
  |(refine Qn (n/2) (by omega) ⟨n/2,out++s,s++s,rfl,by omega,?_,by simp;omega,?_⟩
    ·have:n%2=1:=by simp only[beq_iff_eq] at*;omega
     rw[this] at h2;rw[h3,A2];omega
    ·simp[keepE,go_sem];done)
  |(refine Qn (n/2) (by omega) ⟨n/2,out,s++s,rfl,by omega,by rw[h3];omega,by simp;omega,?_⟩
    simp[keepE,go_sem];done)
def QgC(l:List UInt8)(b:UInt8):rBy l++[[.v (.int .u8 b.toNat)]]=rBy (l++[b]):=by simp[rBy]
def TI(rows:List (List D))(p n many kind:Nat)(gvs:List Value)(m:Nat)(st:St):Prop:= ∃(out:List UInt8) (g p':Nat),m=many -out.length/\out.length<=n/\p'<=p+2+2*out.length/\
    st=⟨72,[(5,.osl 1 g 0 out.length),(6,.d (dI many)),(7,.d (dI kind)),(0,.ptr 0 0 0),(1000000,.gh [.ptr 0 0 0] gvs)],[rdR rows p',.arr g 1 5 (rBy out)]⟩
def TI_step{rows:List (List D)}{p n many kind g p' k:Nat}{gvs:List Value}{out:List UInt8}{b:UInt8}{st:St}(h1:out.length<n)(hk:k=many -(out.length+1))
 (hs:st=⟨72,[(5,.osl 1 g 0 (out.length+1)),(6,.d (dI many)),(7,.d (dI kind)),(0,.ptr 0 0 0),(1000000,.gh [.ptr 0 0 0] gvs)],[rdR rows p',.arr g 1 5 (rBy out++[[.v (.int .u8 b.toNat)]])]⟩:=by simp only[keepE,go_sem];rfl) (h2:p'<=p+2+2*out.length+1:=by omega):TI rows p n many kind gvs k st:=by
 refine⟨out++[b],g,p',by rw[hk,A2];rfl,by rw[A2];exact h1,by rw[A2];simp only[A4,A9];omega,?_⟩;rw[hs,QgC,A2];rfl
def eText(rows:List (List D))(hr:RdOk rows)(p:Nat)(hp:p<=900000)(n:Nat)(hn:n<=1000):
 DoesE A3 39 [.ptr 0 0 0,.d (dI n)] [rdR rows p] [.ptr 0 0 0] (fun x H=> ∃(s:List UInt8) (p':Nat),s.length<=n/\p'<=p+2+2*n/\x= .d (dS s)/\H=[rdR rows p']):=by
 refine kH fun gvs=>?_
 repeat' first|refine kS ?_|(refine aw_pk 0 hr (kk:=?_);intro v hv)|refine kU ?_|fail
 rename_i many hmany;generalize v=kind at*;refine Qs (TI rows p n many kind gvs) [5,6,7,0,1000000] 2 many ⟨[],0,p+1+1,by simp,by simp,by simp,rfl⟩ (round:=?_);rintro m st ⟨out,g,p',rfl,hol,hp',rfl⟩
 repeat refine kG ?_
 cases q3:decide ((out.length:Int)<(many:Int))
 ·repeat' first|refine kS ?_|refine qS (Qoy AQ A7 Tryz.underlying9 rfl rfl rfl) ?_|refine kU ?_|fail
  all_goals first|refine Q3 1 (hx:=?_);exact⟨out,p',hol,by omega,rfl,rfl⟩
 have hlt:out.length<many:=by simp only[decide_eq_true_eq] at q3;omega
 have hmn:many<=n:=by omega
 repeat' first|refine kS ?_|(refine aw_pk 0 hr (kk:=?_);intro v hv)|(refine Qiv (QoK AQ A7 rfl rfl rfl (by decide)) (k:=?_);refine QdF (hX:=fun _ hR=>hR) (k:=?_))|refine qS (Qin Ty.h rfl Ty.h rfl (l:=[97,98,126,48,58,59,61]) rfl rfl (by simp only[A4,A9];omega)) ?_|refine qS (QeA AE A7 rfl rfl (QuS _)) ?_|refine qS (Qd4 rfl rfl (by omega)) ?_|refine QU Ty.h rfl Ty.h (hb:=?_) (kk:=?_)|refine kU ?_|refine kV ?_ ?_<;>intro q|fail
 all_goals first|show((rBy out).length+1)*1<=140737488355328;rw[AK];omega|refine Qn (many -(out.length+1)) (by omega) (TI_step (out:=out) (by omega) rfl)|skip
 rename_i v0 hv0;have hb: ∃b:UInt8,Qby (97+(v0:Int))=b:=⟨_,rfl⟩;obtain⟨b,hb⟩:=hb;rw[hb]
 refine Qs (fun m st=> ∃(k:Int) (o:List UInt8) (g:Nat),m=(k+1).toNat/\k<=6/\o.length<=n/\(0<=k/\o.length=out.length∨out.length<o.length)/\
  st=⟨72,[(9,.d (dI k)),(8,.d (dU b)),(5,.osl 1 g 0 o.length),(6,.d (dI many)),(7,.d (dI kind)),(0,.ptr 0 0 0),(1000000,.gh [.ptr 0 0 0] gvs)],[rdR rows (p'+1+1),.arr g 1 5 (rBy o)]⟩) [9,8,5,6,7,0,1000000] 2 (v+1)
  ⟨v,out,g,by omega,by omega,hol,.inl ⟨by omega,rfl⟩,rfl⟩ (round:=?_)
 rintro m st ⟨k,o,g,rfl,hk6,hol2,hpr,rfl⟩
 repeat refine kG ?_
 by_cases hc:0<=k/\o.length<many
 ·repeat' first|refine kS ?_|refine QU Ty.h rfl Ty.h (hb:=?_) (kk:=?_)|refine kU ?_|refine kV ?_ ?_<;>intro q|fail
  all_goals first|exfalso;simp only[decide_eq_false_iff_not] at*;omega|show((rBy o).length+1)*1<=140737488355328;rw[AK];omega|refine Qn k.toNat (by omega) ⟨k -1,o++[b],g+1,by omega,by omega,by rw[A2];simp only[A4,A9];omega,.inr (by rw[A2];simp only[A4,A9];omega),?_⟩;simp only[keepE,go_sem,<-QgC,A2];rfl
 ·repeat' first|refine kA ?_|refine kV ?_ ?_<;>intro q|fail
  all_goals first|exfalso;simp only[decide_eq_true_eq] at*;omega|refine Qn (many -o.length) (by simp only[decide_eq_false_iff_not,decide_eq_true_eq] at*;omega) ⟨o,g,p'+1+1,rfl,hol2,by simp only[decide_eq_false_iff_not,decide_eq_true_eq] at*;omega,?_⟩;simp[keepE,go_sem];done
theorem QsY(l:List Int)(h1:l.length<=1000000):Pure A3 216 [dInts l] (tStrs (l.map Pl.numPut)):=by
 refine kB ?_
 repeat refine kA ?_
 refine Qfk 3 1 9 (h:=?_);refine Qs (fun m st=> ∃k:Nat,k<=l.length/\m=l.length -k/\st=⟨19,[(6,.d (dInts l)),(7,.d (dI l.length)),(8,.d (dI k)),(3,.osl 0 k 0 k)],[.arr k 1 9 (((l.take k).map Pl.numPut).map fun s=>[dS s])]⟩) [6,7,8,3] 1 l.length ⟨0,by omega,rfl,by simp[keepE,go_sem]⟩ (round:=?_);rintro m st ⟨k,hk,rfl,rfl⟩
 repeat refine kG ?_
 cases q3:decide ((k:Int)<(l.length:Int))
 ·have:k=l.length:=by simp at q3;omega
  subst this
  repeat refine kA ?_
  refine Qa 0 (h:=?_);refine Qb (hx:=?_);simp;exact A1 (by simp)
 have hk2:k<l.length:=by simp at q3;omega
 obtain⟨y,hy⟩: ∃y,l[k]? =some y:=⟨_,A0 hk2⟩;have hr:=Qu (f:=fun n=>[dI n]) hy;have c:=bNumPut y;have hs:((l.take (k+1)).map Pl.numPut).map (fun s=>[dS s])=((l.take k).map Pl.numPut).map (fun s=>[dS s])++[[dS (Pl.numPut y)]]:=by rw[A6,hy];simp
 have hlk:(((l.take k).map Pl.numPut).map fun s=>[dS s]).length=k:=by simp;omega
 generalize ((l.take k).map Pl.numPut).map (fun s=>[dS s])=R at*
 repeat' first|refine kS ?_|refine qS (iy hr) ?_|refine QU Ty.h rfl Ty.h (hlen:=hlk.symm) (hb:=?_) (kk:=?_)|refine kU ?_|fail
 all_goals first
  |(show(R.length+1)*16<=140737488355328;omega)
  |(refine Qn (l.length -(k+1)) (by omega) ⟨k+1,by omega,rfl,?_⟩
    rw[hs];simp[keepE,go_sem,hlk];done)
theorem QsX(l:List Int)(h1:l.length<=1000000):Does A3 216 [.d (.sl true 1 (l.map fun n=>[dI n]))] [] [] (.osl 0 l.length 0 l.length) [.arr l.length 1 9 ((l.map Pl.numPut).map fun s=>[dS s])]:=by
 refine kL ?hpin fun gvs=>?_
 case hpin=>intro i C hC;simp at hC
 simp only[parA,gslot,Ab,Nat.reduceAdd]
 repeat refine kA ?_
 refine Qfk 3 1 9 (h:=?_);refine Qs (fun m st=> ∃k:Nat,k<=l.length/\m=l.length -k/\st=⟨19,[(6,.d (.sl true 1 (l.map fun n=>[dI n]))),(7,.d (dI l.length)),(8,.d (dI k)),(3,.osl 0 k 0 k),(1000000,.gh [] gvs)],[.arr k 1 9 (((l.take k).map Pl.numPut).map fun s=>[dS s])]⟩) [6,7,8,3,1000000] 1 l.length ⟨0,by omega,rfl,by simp[keepE,go_sem]⟩ (round:=?_);rintro m st ⟨k,hk,rfl,rfl⟩
 repeat refine kG ?_
 cases q3:decide ((k:Int)<(l.length:Int))
 ·have:k=l.length:=by simp at q3;omega
  subst this;rw[AD]
  repeat refine kA ?_
  refine Qel [2,1000000] 1 (H':=[.arr l.length 1 9 ((l.map Pl.numPut).map fun s=>[dS s])]) (hH:=fun R hR=>hR) (h:=?_);exact Qek (hx:=rfl) (hH:=rfl)
 have hk2:k<l.length:=by simp at q3;omega
 obtain⟨y,hy⟩: ∃y,l[k]? =some y:=⟨_,A0 hk2⟩;have hr:=Qu (f:=fun n=>[dI n]) hy;have c:=bNumPut y;have hs:((l.take (k+1)).map Pl.numPut).map (fun s=>[dS s])=((l.take k).map Pl.numPut).map (fun s=>[dS s])++[[dS (Pl.numPut y)]]:=by rw[A6,hy];simp
 have hlk:(((l.take k).map Pl.numPut).map fun s=>[dS s]).length=k:=by simp;omega
 generalize ((l.take k).map Pl.numPut).map (fun s=>[dS s])=R at*
 repeat' first|refine kS ?_|refine qS (iy hr) ?_|refine QU Ty.h rfl Ty.h (hlen:=hlk.symm) (hb:=?_) (kk:=?_)|refine kU ?_|fail
 all_goals first
  |(show(R.length+1)*16<=140737488355328;omega)
  |(refine Qn (l.length -(k+1)) (by omega) ⟨k+1,by omega,rfl,?_⟩
    rw[hs];simp[keepE,go_sem,hlk];done)
theorem Qm3(t:Pl.Tree):Pure A3 217 [dTree t] (tStrs (Pl.QeN t)):=by
 have cP:=bPtrPut t.root;have cN:=(QsY [t.depth,t.many] (by simp)).arg (l:=[.sl true 1 [[dI t.depth],[dI t.many]]]);refine kE ?_;refine Qa 0 (h:=?_)
 repeat' first|refine kS ?_|refine qD (Qd8 (T:=24) Ty.h rfl Ty.h) ?_|(show AWP _ (.region 1 _ _) _ _;refine(Fg.awp_drawF (id:=1) [] [10] ?_))|refine(Qi9 Ty.h rfl Ty.h (hcell:=?_) (hb:=?_) (kk:=?_))|refine kU ?_|fail
 all_goals first|(intro r hr d hd;simp at hr;rcases hr with rfl|rfl<;>(simp at hd;subst hd;rfl))|simp;done|refine Qa 1 (h:=?_);refine Qb (hx:=?_);rfl
end Aw
end
section
namespace Aw
variable{p:Pl.Ptr}{t:Pl.Tree}{k:Nat}{α:Type}
def below4P{s:Pm.Store}{n:Int}(h:(Qh s p n).2=true):(Qh s p n).1.length=4:=by
 unfold Qh at h⊢;split
 ·simp
 ·rename_i h1
  rw[if_neg h1] at h;split at h
  ·rename_i h2
   rw[if_pos h2];split at h
   ·cases h
   ·rename_i h3;rw[if_neg h3];exact QoE h
  ·cases h
theorem Qox(s:Pm.Store): ∀(n:Nat) (l:List Pl.Ptr),(QaP s n l).2=true->(QaP s n l).1.length=l.length*4^n
 |0,l,_=>by simp[QaP]
 |n+1,l,h=>by
  unfold QaP at h⊢;split at h
  ·rename_i h1
   rw[if_pos h1,Qox s n _ h,Qmo _ l fun p hp=>below4P (AI.1 h1 p hp)]
   grind
  ·cases h
theorem QeJ{s:Pm.Store}(h:Q8 s t=true):t.many.toNat<=(QG s t).1.length/\(∀p∈(QG s t).1,Pl.ptrHole p=true∨(Qj s.1 p).2=true)/\Pl.ptrOk t.root=true:=by
 unfold Q8 at h;simp only[AC,beq_iff_eq] at h;obtain⟨⟨⟨⟨h1,h2⟩,h3⟩,h4⟩,h5⟩:=h;refine⟨?_,fun p hp=>?_,h3⟩
 ·have:=Qox s t.depth.toNat [t.root] h4
  unfold QG;rw[this,h2];simp[Pl.inR] at h1
  grind
 ·obtain⟨i,hi,rfl⟩:=List.getElem_of_mem hp
  rw[AI] at h5;have:=h5 ((QG s t).1[i],i) (List.mk_mem_zipIdx_iff_getElem?.2 (A0 hi));unfold Qaz at this
  grind
def QfM{s:Pm.Store}(h:Q8 s t=true):(QV s t).1.map (fun p=>(Qj s.1 p).1)=Qc s t:=by
 unfold QV Qc Qg;rw[if_pos h,List.take_append_of_le_length (QeJ h).1]
theorem QtB{rows:List (List UInt8)}(h:Pl.ptrHole p=true):Qj rows p=([],true):=by unfold Qj;grind
theorem Qfe{s:Pm.Store}(h:Q8 s t=true): ∀p∈(QV s t).1,Pl.ptrOk p=true/\((Qj s.1 p).1=[]↔Pl.ptrHole p=true):=by
 intro p hp
 have hp':p∈(QG s t).1:=by
  unfold QV at hp
  grind
 have hok:=Qho s (QeJ h).2.2 p hp';refine⟨hok,fun e=>?_,fun e=>by rw[QtB e]⟩;rcases(QeJ h).2.1 p hp' with h1|h1
 ·exact h1
 ·by_cases hh:Pl.ptrHole p=true
  ·exact hh
  ·exfalso
   unfold Qj at e h1;rw[if_neg hh] at e h1;split at h1
   ·rename_i hf
    rw[if_pos hf] at e;simp only at e;rw[e] at hf;unfold QaX at hf;simp only[AC,beq_iff_eq] at hf;have hs:p.size=0:=by grind
    have hok2:=hok;unfold Pl.ptrOk at hok2
    grind
   ·cases h1
theorem QeW{s:Pm.Store}(h:Q8 s t=true):(QV s t).1.length=t.many.toNat/\t.many.toNat<=16:=by
 have h1:=(QeJ h).1;have h2:=Qdu h;have:=h2.manyHi;unfold QV
 grind
def QaO(x:List UInt8):D:=if x=[] then .v (.pointer none) else .pd (rNode (Qq x).1)
abbrev tNds(l:List (List UInt8)):D:= .sl true 1 (l.map fun x=>[QaO x])
def QkI:Qq []=(Qd,false):=QlX fun p hp=>Qrh hp.2 rfl
theorem Ql4{p:α->Bool}{l:List α}{x:α}(hx:l[k]? =some x)(h:(l.take k).all p=true)(hp:p x=true):(l.take (k+1)).all p=true:=by
 rw[A6,hx,AU,h];grind
theorem QmH{p:α->Bool}{l:List α}{x:α}(hx:l[k]? =some x)(hp:p x=false):l.all p=false:=by
 grind
end Aw
end
section
open Go.RowKit
namespace Aw
variable{q r:List UInt8×Nat}{f:Nat}
attribute [local irreducible] ASeq ADraw AWP Loc AStep Fg.PlanF Fg.Flts EndR
def ePtrD(rows:List (List D))(hr:RdOk rows)(p:Nat)(hp:p<=800000):
 DoesE A3 76 [.ptr 0 0 0] [rdR rows p] [.ptr 0 0 0] (fun x H=> ∃(a b c d e:Int) (p':Nat),p'<=p+40/\x= .d (.agg [dI a,dI b,dI c,dI d,dI e])/\H=[rdR rows p']):=by
 have c1:=fun a b l (s:List UInt8) (h:s.length<=10)=>aPtrOf a b l ([116]++s) (by unfold Pm.big;rw[A2];simp only[A4,A9];omega)
 refine kH fun gvs=>?_
 repeat' first|refine kS ?_|(refine aw_pk 0 hr (kk:=?_);intro v hv)|(refine QD [0] (eText rows hr _ ?_ 9 (by decide)) cK (k:=?_);omega;rintro _ _ ⟨s,p1,hs,hp1,rfl,rfl⟩;refine QdF (k:=?_))|(refine QD [0] (eRow rows hr _ ?_) cK (k:=?_);omega;rintro _ _ ⟨z,hz,rfl,rfl⟩;refine QdF (k:=?_))|refine qS (Qd8 Ty.h rfl Ty.h) ?_|refine qS (Qdg (l:=[116]) rfl rfl (by simp only[A4,A9];omega)) ?_|refine qS (Qds cK (c1 _ _ _ _ (by omega)) rfl) ?_|refine qS (Qdc Ty.h rfl Ty.h rfl rfl rfl (by omega) (QdM (f:=fun z=>[dI z]) [0,-1,900,901] 0 (n:=4) rfl (by omega))) ?_|refine qS (Qdc Ty.h rfl Ty.h rfl rfl rfl (by omega) (QdM (f:=fun z=>[dI z]) [0,-1,128,129] 0 (n:=4) rfl (by omega))) ?_|refine qS (Qdc Ty.h rfl Ty.h rfl rfl rfl (by omega) (QdM (f:=fun z=>[dI z]) [-1,99460728,99460729,0] 0 (n:=4) rfl (by omega))) ?_|refine qS (Qdc Ty.h rfl Ty.h rfl rfl rfl (by omega) (QdM (f:=fun z=>[dI z]) [-1,3,2] 0 (n:=3) rfl (by omega))) ?_|refine kU ?_|refine kV ?_ ?_<;>intro q|fail
 all_goals first|refine Q3 1 (hx:=?_);exact⟨_,_,_,_,_,_,by omega,rfl,rfl⟩
def Qbs(many:Nat)(b:UInt8):Nat->List UInt8->List UInt8
 |0,o=>o
 |k+1,o=>if o.length<many then Qbs many b k (o++[b]) else o
def Qa9(rows:List (List D))(many kind:Nat)(q:List UInt8×Nat):List UInt8×Nat:=
 if kind=0 then(q.1++[Qby (QaM rows q.2 256)],q.2+1)
 else if kind=1 then(q.1++[([97,98,126,48,58,59,61]:List UInt8).getD (QaM rows q.2 7).toNat 0],q.2+1)
 else if kind=2 then(Qbs many (Qby (97+QaM rows q.2 3)) ((QaM rows (q.2+1) 6).toNat+1) q.1,q.2+1+1)
 else(q.1++[Qby (QaM rows q.2 2*97)],q.2+1)
def Qbz(rows:List (List D))(many kind:Nat):Nat->List UInt8×Nat->List UInt8×Nat
 |0,q=>q
 |f+1,q=>if q.1.length<many then Qbz rows many kind f (Qa9 rows many kind q) else q
def QcA(rows:List (List D))(p n:Nat):List UInt8×Nat:=
 Qbz rows (QaM rows p ((n:Int)+1)).toNat (QaM rows (p+1) 4).toNat (QaM rows p ((n:Int)+1)).toNat ([],p+1+1)
theorem Qrd(many:Nat)(b:UInt8): ∀(k:Nat) (o:List UInt8),o.length<=(Qbs many b k o).length/\(o.length<=many->(Qbs many b k o).length<=many)/\(0<k->o.length<many->o.length<(Qbs many b k o).length)
 |0,o=>⟨Nat.le_refl _,fun h=>h,fun h=>absurd h (by decide)⟩
 |k+1,o=>by
  unfold Qbs;obtain⟨h1,h2,_⟩:=Qrd many b k (o++[b])
  grind
theorem Qog(rows:List (List D))(many kind:Nat)(q:List UInt8×Nat)(h:q.1.length<many):q.1.length<(Qa9 rows many kind q).1.length/\(Qa9 rows many kind q).1.length<=many/\(Qa9 rows many kind q).2<=q.2+2:=by
 unfold Qa9;split
 ·grind
 split
 ·grind
 split
 ·obtain⟨h1,h2,h3⟩:=Qrd many (Qby (97+QaM rows q.2 3)) ((QaM rows (q.2+1) 6).toNat+1) q.1
  grind
 grind
def Qvc(rows:List (List D))(many kind:Nat): ∀(f:Nat) (q:List UInt8×Nat),q.1.length<=many->(Qbz rows many kind f q).1.length<=many/\(Qbz rows many kind f q).2<=q.2+2*(many -q.1.length)
 |0,q,h=>⟨h,by show q.2<=_;omega⟩
 |f+1,q,h=>by
  unfold Qbz;split
  ·rename_i hlt
   obtain⟨h1,h2,h3⟩:=Qog rows many kind q hlt;obtain⟨h4,h5⟩:=Qvc rows many kind f _ h2;omega
  omega
def txt_len{rows:List (List D)}(hr:RdOk rows)(p n:Nat):(QcA rows p n).1.length<=n/\(QcA rows p n).2<=p+2+2*n:=by
 obtain⟨h1,h2⟩:=pkv_b hr p ((n:Int)+1);obtain⟨h3,h4⟩:=Qvc rows (QaM rows p ((n:Int)+1)).toNat (QaM rows (p+1) 4).toNat (QaM rows p ((n:Int)+1)).toNat ([],p+1+1) (Nat.zero_le _);unfold QcA;omega
theorem go_end{rows:List (List D)}{many kind:Nat}(h:Qbz rows many kind f q=r)(hq: ¬q.1.length<many):q=r:=by
 cases f with
 |zero=>exact h
 |succ f=>unfold Qbz at h;grind
theorem Qsb{rows:List (List D)}{many kind:Nat}(h:Qbz rows many kind f q=r)(hq:q.1.length<many)(hf:many -q.1.length<=f): ∃f',many -(Qa9 rows many kind q).1.length<=f'/\Qbz rows many kind f' (Qa9 rows many kind q)=r:=by
 cases f with
 |zero=>omega
 |succ f=>
  unfold Qbz at h;rw[if_pos hq] at h;have:=(Qog rows many kind q hq).1
  grind

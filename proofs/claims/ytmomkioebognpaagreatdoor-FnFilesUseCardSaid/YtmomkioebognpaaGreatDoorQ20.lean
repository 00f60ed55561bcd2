/- Of fuse_card; no condition. -/
import Derived.Test.YtmomkioebognpaaGreatDoorQ19
set_option linter.all false
set_option maxRecDepth 100000
set_option maxHeartbeats 8000000
open Bool renaming and_eq_true->AC,toNat_false->AY,toNat_true->Ab
open Go renaming TypeId->AX
open Go.Proofs.Tryz renaming prog->A3,underlying5->A9,underlying3->AH,underlying22->AW
open Go.RowKit renaming Hid->AL
open Int renaming emod_lt_of_pos->AA,emod_nonneg->AF,toNat_natCast->AG
open List renaming getElem?_eq_getElem->A0,take_of_length_le->A1,length_append->A2,getD_eq_getElem?_getD->A4,length_cons->A5,mem_of_getElem?->A6,take_add_one->A7,length_nil->A8,getElem?_map->AB,take_length->AD,length_map->AE,mem_of_mem_take->AI,mem_map->AJ,length_tail->AM,all_eq_true->AN,length_take->AO,range->AP,length_pos_iff->AR,mem_singleton->AT,append_assoc->AU,ext_getElem->AZ,all_append->Aa,append_nil->Ac,map_take->Ad,mem_cons->Ae
open Nat renaming zero_add->AK,mul_assoc->AS
open Option.some renaming inj->AQ
namespace Go.Proofs.YtmomkioebognpaaGreatDoor
noncomputable section
section
namespace Aw
def Pl.Qb2(E:Pl.Node->List Pl.Ent×Bool)(ns:List Pl.Node):Int->List (List UInt8)->Option Int
 |i,[]=>some i
 |i,n::q=>match(E (ns.getD i.toNat Pl.zn)).1.find? (fun e=>e.1==n) with
  |none=>none
  |some e=>Pl.Qb2 E ns e.2 q
def Qe0(E:Pl.Node->List Pl.Ent×Bool)(ns:List Pl.Node)(i:Int):Pl.Qb2 E ns i []=some i:=rfl
def Qdo(E:Pl.Node->List Pl.Ent×Bool)(ns:List Pl.Node)(i:Int)(n:List UInt8)(q:List (List UInt8)):Pl.Qb2 E ns i (n::q)=match(E (ns.getD i.toNat Pl.zn)).1.find? (fun e=>e.1==n) with
 |none=>none
 |some e=>Pl.Qb2 E ns e.2 q:=rfl
def Pl.QaM(s:Pm.Store)(ns:List Pl.Node):Int->List (List UInt8)->Option Int:=Pl.Qb2 (Pl.ents s) ns
def Pl.isIn(out:List Pl.Fnd)(q:List (List UInt8))(k:Nat):Bool:=out.any fun x=>(x.2==(k:Int))&&q.isPrefixOf x.1
def Pl.Qbj(s:Pm.Store)(t:Pl.Tree)(q:List (List UInt8))(f:Pl.Node->Int):Int:=
 Pl.QaJ (fun k=>if Pl.isIn (Pl.QaS s t).1 q k then f ((Pl.Qab s t).getD k Pl.zn) else 0) (Pl.Qab s t).length
def Pl.Qay(s:Pm.Store)(t:Pl.Tree)(path:List UInt8)(f:Pl.Node->Int):Int×Bool:=
 match Pl.Qae path with
 |none=>(0,false)
 |some q=>if Pl.Qan s&&Pl.Qav s t then(match Pl.QaM s (Pl.Qab s t) 0 q with|none=>(0,false)|some _=>(Pl.Qbj s t q f,true)) else(0,false)
theorem QjW{s:Pm.Store}{ns:List Pl.Node}: ∀{q:List (List UInt8)} {i j:Int},0<=i->Pl.QaM s ns i q=some j->0<=j
 |[],i,j,h,hf=>by unfold Pl.QaM at hf;rw[Qe0] at hf;grind
 |n::q,i,j,h,hf=>by
  unfold Pl.QaM at hf;rw[Qdo] at hf;split at hf
  ·cases hf
  ·rename_i e he
   exact QjW (by have:=Qhm s _ e (List.mem_of_find?_eq_some he);omega) hf
theorem Qjn{s:Pm.Store}{ns:List Pl.Node}(hN:Pl.NsOk ns (Pl.ents s)): ∀{q:List (List UInt8)} {i j:Int},Pl.QaM s ns i q=some j->Gr.find (Pl.Qak ns) (Pl.enF ns (Pl.ents s)) i.toNat q=some j.toNat
 |[],i,j,hf=>by unfold Pl.QaM at hf;rw[Qe0] at hf;obtain rfl:=AQ hf;rfl
 |n::q,i,j,hf=>by
  unfold Pl.QaM at hf;rw[Qdo] at hf;split at hf
  ·cases hf
  ·rename_i e he
   have hE:(Pl.ents s (ns.getD i.toNat Pl.zn)).2=true:=by
    rcases QcE s (ns.getD i.toNat Pl.zn) with h|h
    ·exact h.1
    grind
   have hk:=Qgs hE;unfold Gr.find;rw[if_pos (by unfold Pl.Qak;omega)];have h1:Pl.enF ns (Pl.ents s) i.toNat=some ((Pl.ents s (ns.getD i.toNat Pl.zn)).1.map fun e=>(e.1,e.2.toNat)):=by unfold Pl.enF;grind
   rw[h1,Option.getD_some,List.find?_map];have h2:((fun e:List UInt8×Nat=>e.1==n) ∘ fun e:Pl.Ent=>(e.1,e.2.toNat))=fun e:Pl.Ent=>e.1==n:=rfl
   rw[h2,he];exact Qjn hN hf
theorem Qrf(s:Pm.Store)(ns:List Pl.Node): ∀k es,Pl.enF ns (Pl.ents s) k=some es->(es.map (·.1)).Nodup:=by
 intro k es h;unfold Pl.enF at h;split at h
 ·rename_i hE
  obtain rfl:=AQ h;rcases QcE s (ns.getD k Pl.zn) with h|h
  ·rw[List.map_map];exact Qra h.2
  grind
 ·cases h
theorem QpD{s:Pm.Store}{t:Pl.Tree}{q:List (List UInt8)}{j:Int}(hF:Pl.Files s t)(hj:Pl.QaM s (Pl.Qab s t) 0 q=some j):
 ∃M,Gr.FD (Pl.Qak (Pl.Qab s t)) (Gr.chOf (Pl.enF (Pl.Qab s t) (Pl.ents s))) [j.toNat] M/\
  ∀f:Pl.Node->Int,Pl.Qbj s t q f=Pl.QaJ (fun k=>if k∈M then f ((Pl.Qab s t).getD k Pl.zn) else 0) (Pl.Qab s t).length:=by
 have hOk:=(Qfm s t).2 hF;unfold Pl.Qav at hOk;simp only[AC,beq_iff_eq] at hOk;obtain⟨L,g1,g2,g3⟩:=Qgp s hF.root hOk.1.2;obtain⟨M,hM,hi⟩:=Gr.QoV (p:=[]) (Qrf s _) g1 (Qjn (nsOk s t) hj);refine⟨M,hM,fun f=>?_⟩;unfold Pl.Qbj;rw[g3];refine QeC fun k _=>?_
 have:Pl.isIn (L.map Pl.itOf) q k=true↔k∈M:=by
  rw[<-hi k];unfold Pl.isIn;rw[List.any_map,List.any_eq_true];simp only[Function.comp,Pl.itOf,AC,beq_iff_eq,List.isPrefixOf_iff_prefix,List.nil_append]
  grind
 grind
end Aw
end
section
open Go.RowKit
namespace Aw
variable{x y:Operand}{T T':AX}{P:Program}{a b c:Int}{α:Type}
attribute [local irreducible] ASeq ADraw AWP Loc
def Pl.Qac(s:List UInt8):List (List UInt8):=if s=[47] then [] else(Pl.cutB 47 s).tail
def QpB(l:List (List UInt8)):(l.map fun s=>[dS s]).drop 1=l.tail.map fun s=>[dS s]:=by cases l<;>rfl
def Qf0(s:List UInt8)(hs:s.length<=1000000000000):Pure A3 66 [dS s] (tStrs (Pl.Qac s)):=by
 have c:=al2Cut s 47 hs;have hd:AL (Pl.Qac s=if s=[47] then [] else(Pl.cutB 47 s).tail):=Pm.hid rfl;have hne:=AR.2 (Pl.Qfr 47 s);have ht:=Pm.hid (QpB (Pl.cutB 47 s));generalize Pl.cutB 47 s=l at*;refine kB ?_
 repeat' first|refine kS ?_|refine qS (Qcp (m:=[47]) rfl rfl) ?_|refine qS (Qed rfl rfl rfl (by omega) (by simp;omega)) ?_|refine kU ?_|refine kV ?_ ?_<;>intro q|fail
 ·(refine QbP 0 (h:=?_);refine QbQ (hx:=?_))
  rw[hd.out,if_pos (by simpa using q)];rfl
 ·refine QbQ (hx:=?_)
  rw[hd.out,if_neg (by simpa using q)];have h:=ht.out
  first|rw[<-h];rfl|simp[<-h]
theorem aPathOk(s:List UInt8)(hs:s.length<=1000000000000):Pure A3 65 [dS s] (dB (Pl.Qae s).isSome):=by
 have c:=Qf0 s hs;have hd:AL (Pl.Qae s=if s=[47] then some [] else if s.head? =some 47/\(Pl.cutB 47 s).tail.all Pl.Qas=true/\(Pl.cutB 47 s).tail.length<=4 then some (Pl.cutB 47 s).tail else none):=Pm.hid rfl
 by_cases h1:s=[47]
 ·subst h1
  refine kB ?_
  repeat' first|refine kS ?_|refine qS (Qcp (m:=[47]) rfl rfl) ?_|refine kU ?_|fail
  all_goals first|exfalso;simp at q;done|refine QbQ (hx:=?_);rw[hd.out,if_pos rfl];rfl|skip
 have hd2:AL (Pl.Qae s=if s.head? =some 47/\(Pl.cutB 47 s).tail.all Pl.Qas=true/\(Pl.cutB 47 s).tail.length<=4 then some (Pl.cutB 47 s).tail else none):=Pm.hid (by rw[hd.out,if_neg h1]);have hn:Pl.Qac s=(Pl.cutB 47 s).tail:=if_neg h1;rw[hn] at c;have hcl:=(Qds 47 s);have hl:(Pl.cutB 47 s).tail.length<=s.length+1/\ ∀x∈(Pl.cutB 47 s).tail,x.length<=s.length:=⟨by rw[AM];omega,fun x hx=>hcl.2 x (List.mem_of_mem_tail hx)⟩;clear hd hn hcl;generalize (Pl.cutB 47 s).tail=l at*;cases s with
 |nil=>
  refine kB ?_
  repeat' first|refine kS ?_|refine qS (Qcp (m:=[47]) rfl rfl) ?_|refine kU ?_|fail
  all_goals first|exfalso;simp at q;done|refine QbQ (hx:=?_);rw[hd2.out,if_neg (by simp)];rfl|skip
 |cons c0 s=>
  have hne:((c0::s)==[47])=false:=by simpa using h1
  have hc0:(c0::s)[(0:Int).toNat]? =some c0:=rfl;have h47:((c0.toNat:Nat):Int)=47↔c0=47:=⟨fun h=>UInt8.toNat_inj.1 (by have:((47:UInt8).toNat:Int)=47:=rfl;omega),fun h=>by rw[h];rfl⟩
  by_cases h2:c0=47
  rotate_left
  ·have hx:AL (Pl.Qae (c0::s)=none):=Pm.hid (by rw[hd2.out,if_neg (by simp[h2])])
   refine kB ?_
   repeat' first|refine kS ?_|refine qS (Qcp (m:=[47]) rfl rfl) ?_|refine qS (Qdn Ty.h rfl rfl rfl (by omega) hc0) ?_|refine kU ?_|refine kV ?_ ?_<;>intro q|fail
   all_goals first|refine QbQ (hx:=?_);rw[hx.out];rfl|exfalso;rw[hne] at q;exact absurd q (by decide)|exfalso;simp only[bne_eq_false_iff_eq] at*;exact h2 (h47.1 (by assumption))|skip
  subst h2;have hd3:AL (Pl.Qae (47::s)=if l.all Pl.Qas=true/\l.length<=4 then some l else none):=Pm.hid (by rw[hd2.out];simp);clear hd2 h47;refine kB ?_
  repeat' first|refine kS ?_|refine qS (Qcp (m:=[47]) rfl rfl) ?_|refine qS (Qdn Ty.h rfl rfl rfl (by omega) hc0) ?_|refine kU ?_|refine kV ?_ ?_<;>intro q|fail
  all_goals first|exfalso;rw[hne] at q;exact absurd q (by decide)|exfalso;exact absurd q (by decide)|exfalso;simp at q;done|skip
  refine QbS (fun m st=> ∃k:Nat,k<=l.length/\m=l.length -k/\AL ((l.take k).all Pl.Qas=true)/\st=⟨31,[(3,.d (tStrs l)),(4,.d (dI k))],[]⟩) [3,4] 0 l.length ⟨0,by omega,rfl,Pm.hid rfl,rfl⟩ (round:=?_);rintro m st ⟨k,hk,rfl,hA,rfl⟩
  repeat refine kG ?_
  cases q3:decide ((k:Int)<(l.length:Int))
  ·repeat refine kA ?_
   refine QbQ (hx:=?_);have:k=l.length:=by simp at q3;omega
   have h:=hA.out;rw[this,AD] at h;rw[hd3.out,h];refine congrArg dB ?_
   by_cases h4:l.length<=4
   ·rw[if_pos ⟨rfl,h4⟩];simp;omega
   ·rw[if_neg (fun x=>h4 x.2)];simp;omega
  have hk2:k<l.length:=by simp at q3;omega
  obtain⟨x,hx⟩: ∃x,l[k]? =some x:=⟨_,A0 hk2⟩;have hr:=QbV (f:=fun s=>[dS s]) hx;have c2:=aNameOk x (by have:=hl.2 x (A6 hx);unfold Pm.big;omega);have T:AL (Pl.Qas x=true->(l.take (k+1)).all Pl.Qas=true):=Pm.hid fun h=>by rw[A7,hx,Aa,hA.out];simpa using h
  have F:AL (Pl.Qas x=false->Pl.Qae (47::s)=none):=Pm.hid fun h=>by
   rw[hd3.out,if_neg];rintro⟨h1,_⟩;have:=AN.1 h1 x (A6 hx);rw[h] at this;cases this
  clear hx hA hd3;generalize Pl.Qas x=ok at*
  repeat' first|refine kS ?_|refine qS (iy hr) ?_|refine kU ?_|refine kV ?_ ?_<;>intro q|fail
  all_goals first|exact QbR (l.length -(k+1)) (by omega) ⟨k+1,by omega,rfl,Pm.hid (T.out (by simpa using q)),rfl⟩|refine QbQ (hx:=?_);rw[F.out (by simpa using q)];rfl
theorem QgS(s:List UInt8)(hs:s.length<=1000000000000):Pure A3 32 [dS s] (.tup [tStrs ((Pl.Qae s).getD []),dB (Pl.Qae s).isSome]):=by
 have c1:=aPathOk s hs;have c2:=Qf0 s hs
 have hn:AL ((Pl.Qae s).isSome=true->Pl.Qac s=(Pl.Qae s).getD []):=Pm.hid fun h=>by
  unfold Pl.Qae Pl.Qac at*;split
  ·rfl
  ·rename_i h1
   rw[if_neg h1] at h;split
   ·rfl
   ·rename_i h2;rw[if_neg h2] at h;cases h
 have hcl:=(Qds 47 s)
 have hl:(Pl.Qac s).length<=s.length+1:=by
  unfold Pl.Qac;split
  ·simp
  ·rw[AM];omega
 have h0:AL ((Pl.Qae s).isSome=false->(Pl.Qae s).getD []=[]):=Pm.hid fun h=>by cases hx:Pl.Qae s with|none=>rfl|some x=>rw[hx] at h;cases h
 generalize (Pl.Qae s).getD []=r at*;generalize (Pl.Qae s).isSome=ok at*;generalize Pl.Qac s=l at*;refine kB ?_
 repeat' first|refine kS ?_|refine QcG Ty.h rfl Ty.h (hb:=?_) (hcell:=?_) (kk:=?_)|refine kU ?_|refine kV ?_ ?_<;>intro q|fail
 ·(refine QbP 0 (h:=?_);refine QbQ (hx:=?_))
  have h1:ok=false:=by simpa using q
  rw[h0.out h1,h1];rfl
 ·intro r hr d hd
  obtain⟨x,_,rfl⟩:=AJ.1 hr;simp at hd;subst hd;rfl
 ·simp;omega
 ·(refine QbP 0 (h:=?_);refine QbQ (hx:=?_))
  have h1:ok=true:=by simpa using q
  rw[<-hn.out h1,h1];simp[A1]
attribute [local irreducible] AStep Fg.PlanF Fg.Flts
def Pl.of14(l:List (List UInt8)):List UInt8:=if l.flatMap (fun x=>47::x)=[] then [47] else l.flatMap (fun x=>47::x)
def al14Of(l:List (List UInt8))(hl:l.length<=1000)(hx: ∀x∈l,x.length<=1000000000000):Pure A3 196 [tStrs l] (dS (Pl.of14 l)):=by
 refine kE ?_
 repeat refine kA ?_
 refine QbS (fun m st=> ∃(k:Nat) (out:List UInt8),k<=l.length/\m=l.length -k/\out.length<=k*1000000000001/\AL (out=(l.take k).flatMap (fun x=>47::x))/\st=⟨21,[(4,.d (dI k)),(3,.d (dS out)),(0,.d (tStrs l))],[]⟩) [4,3,0] 0 l.length ⟨0,[],by omega,rfl,by simp,Pm.hid rfl,rfl⟩ (round:=?_);rintro m st ⟨k,out,hk,rfl,hlen,hO,rfl⟩
 repeat refine kG ?_
 cases q3:decide ((k:Int)<(l.length:Int))
 ·have hkl:k=l.length:=by simp at q3;omega
  rw[hkl,AD] at hO;have hd:AL (Pl.of14 l=if out=[] then [47] else out):=Pm.hid (by unfold Pl.of14;rw[<-hO.out]);clear hO
  repeat' first|refine kA ?_|refine kV ?_ ?_<;>intro q|fail
  all_goals first|exact QbQ (hx:=by rw[hd.out,if_pos (by simpa using q)])|exact QbQ (hx:=by rw[hd.out,if_neg (by simpa using q)])
 have hk2:k<l.length:=by simp at q3;omega
 obtain⟨x,hx1⟩: ∃x,l[k]? =some x:=⟨_,A0 hk2⟩;have hr:=QbV (f:=fun s=>[dS s]) hx1;have hxl:=hx x (A6 hx1);have T:AL ((l.take (k+1)).flatMap (fun x=>(47:UInt8)::x)=out++[47]++x):=Pm.hid (by rw[A7,hx1,hO.out];simp);clear hx1 hO
 repeat' first|refine kS ?_|refine qS (iy hr) ?_|refine qS (Qcc (m:=[47]) rfl rfl (by simp;omega)) ?_|refine qS (Qcc rfl rfl (by simp;omega)) ?_|refine kU ?_|fail
 all_goals first|refine QbR (l.length -(k+1)) (by omega) ⟨k+1,out++[47]++x,by omega,rfl,by simp;omega,Pm.hid T.out.symm,?_⟩;simp[keepE,go_sem];done
def Qg4(s:List UInt8)(hs:s.length<=1000000000000)(hn:Pl.Qac s≠[]):Pure A3 150 [dS s] (dS ((Pl.Qac s).getD ((Pl.Qac s).length -1) [])):=by
 have c1:=Qf0 s hs
 have hnl:(Pl.Qac s).length<=s.length+1:=by
  unfold Pl.Qac;split
  ·simp
  ·have:=(Qds 47 s).1
   rw[AM];omega
 generalize Pl.Qac s=l at*;have hl:=AR.2 hn;obtain⟨x,hx1⟩: ∃x,l[l.length -1]? =some x:=⟨_,A0 (by omega)⟩;have hr:=QbV (f:=fun s=>[dS s]) hx1;rw[show((l.length -1:Nat):Int)=(l.length:Int) -1 by omega] at hr;have hd:AL (l.getD (l.length -1) []=x):=Pm.hid (by rw[A4,hx1];rfl);rw[hd.out];clear hx1 hd;refine kE ?_
 repeat' first|refine kS ?_|refine qS (iy hr) ?_|refine kU ?_|fail
 all_goals first|exact QbQ (hx:=rfl)
def Pl.QbM(s top:List UInt8):Bool:=
 if !(Pl.Qae s).isSome|| !(Pl.Qae top).isSome||decide (((Pl.Qae s).getD []).length<((Pl.Qae top).getD []).length) then false
 else Pl.of14 (((Pl.Qae s).getD []).take ((Pl.Qae top).getD []).length)==Pl.of14 ((Pl.Qae top).getD [])
theorem Qpv(s top:List UInt8)(hs:s.length<=1000000000)(ht:top.length<=1000000000)(h1: ∀l,Pl.Qae s=some l->l.length<=4/\ ∀x∈l,x.length<=4)(h2: ∀l,Pl.Qae top=some l->l.length<=4/\ ∀x∈l,x.length<=4):Pure A3 156 [dS s,dS top] (dB (Pl.QbM s top)):=by
 have c1:=QgS s (by omega);have c2:=QgS top (by omega);have hd:=Pm.hid (Pl.QbM.eq_def s top);generalize Pl.QbM s top=res at*
 have e1:((Pl.Qae s).getD []).length<=4/\ ∀x∈(Pl.Qae s).getD [],x.length<=1000000000000:=by
  cases hp:Pl.Qae s with
  |none=>simp
  |some l=>have:=h1 l hp;exact⟨this.1,fun x hx=>by have:=this.2 x hx;omega⟩
 have e2:((Pl.Qae top).getD []).length<=4/\ ∀x∈(Pl.Qae top).getD [],x.length<=1000000000000:=by
  cases hp:Pl.Qae top with
  |none=>simp
  |some l=>have:=h2 l hp;exact⟨this.1,fun x hx=>by have:=this.2 x hx;omega⟩
 generalize (Pl.Qae s).getD []=a at*;generalize (Pl.Qae top).getD []=b at*;generalize (Pl.Qae s).isSome=p at*;generalize (Pl.Qae top).isSome=q0 at*;obtain⟨y1,y2⟩:=e1;obtain⟨y3,y4⟩:=e2;have c3:=al14Of (a.take b.length) (by rw[AO];omega) fun x hx=>y2 x (AI hx)
 have c4:=al14Of b (by omega) y4;have ht2:((a.map fun s=>[dS s]).take b.length)=(a.take b.length).map fun s=>[dS s]:=by rw[Ad]
 rw[show tStrs (a.take b.length)= .sl true 1 ((a.map fun s=>[dS s]).take ((b.length:Nat):Int).toNat) by rw[AG,ht2]] at c3;clear y2 y4 h1 h2 ht2;refine kE ?_
 repeat' first|refine kS ?_|refine qS (Qf8 rfl rfl rfl (by omega) (by simp only[decide_eq_false_iff_not,AE] at*;omega)) ?_|refine kU ?_|refine kV ?_ ?_<;>intro q|fail
 all_goals first|refine QbQ (hx:=?_);rw[hd.out];simp_all;done
attribute [local irreducible] EndR Fk.PlanF Fk.Flts Fk.AStepM Fk.Grew Fk.Gs
def Qt1(l:List Pl.Ent)(hb: ∀e∈l,e.1.length<=4/\0<=e.2/\e.2<=15)(hl:l.length<=1000):Pure A3 184 [tEnts l] (dS (Pl.Qah l)):=by
 refine kB ?_
 repeat refine kA ?_
 refine QbS (fun m st=> ∃k:Nat,k<=l.length/\m=l.length -k/\st=⟨28,[(3,.d (dS (Pl.Qah (l.take k)))),(4,.d (dI k)),(0,.d (tEnts l))],[]⟩) [3,4,0] 0 l.length ⟨0,by omega,rfl,rfl⟩ (round:=?_);rintro m st ⟨k,hk,rfl,rfl⟩
 repeat refine kG ?_
 cases q3:decide ((k:Int)<(l.length:Int))
 ·repeat refine kA ?_
  refine QbQ (hx:=?_);have:k=l.length:=by simp at q3;omega
  rw[this,AD]
 have hk2:k<l.length:=by simp at q3;omega
 obtain⟨x,hx⟩: ∃x,l[k]? =some x:=⟨_,A0 hk2⟩;have hr:=QbV (f:=rEnt) hx;have hlen:=Qiu (l:=l.take k) fun e he=>hb e (AI he)
 rw[AO] at hlen;have hxb:=hb x (A6 hx);have T:AL (Pl.Qah (l.take (k+1))=Pl.Qah (l.take k)++x.1++[61]++Pl.dec x.2.toNat++[59]):=Pm.hid (by rw[A7,hx];simp[Pl.Qah,Pl.QaD]);have hdl:=Pl.QbT 8 x.2.toNat (by omega);have c:=al6Dec x.2.toNat (by omega);rw[show((x.2.toNat:Nat):Int)=x.2 by omega] at c;clear hx hb;generalize Pl.Qah (l.take k)=out at*;generalize Pl.dec x.2.toNat=d at*;obtain⟨nm,id⟩:=x;simp only at hxb c T hr
 repeat' first|refine kS ?_|refine qD (iy hr) ?_|refine qD (Qcc (m:=[61]) rfl rfl (by first|omega|(simp;omega))) ?_|refine qD (Qcc (m:=[59]) rfl rfl (by first|omega|(simp;omega))) ?_|refine qD (Qcc rfl rfl (by first|omega|(simp;omega))) ?_|refine kU ?_|fail
 refine QbR (l.length -(k+1)) (by omega) ⟨k+1,by omega,rfl,?_⟩;simp[keepE,go_sem,T.out]
def QiR(l:List Pl.Ent): ∀r∈l.map rEnt,∀d∈r,d.cell=true:=by
 intro r hr d hd;obtain⟨p,_,rfl⟩:=AJ.1 hr;simp at hd;rcases hd with rfl|rfl<;>rfl
def Qoi(l:List Pl.Ent)(i:Nat)(hi:i<l.length)(hl:l.length<=1000):Pure A3 154 [tEnts l,dI i] (tEnts (l.take i++l.drop (i+1))):=by
 refine kE ?_;have hc1:=QiR (l.take i);have hc2:=QiR (l.drop (i+1));have t1:(l.map rEnt).take (i:Int).toNat=(l.take i).map rEnt:=by rw[AG,Ad]
 have t2:(l.map rEnt).drop ((i:Int)+1).toNat=(l.drop (i+1)).map rEnt:=by rw[show((i:Int)+1).toNat=i+1 by omega,List.map_drop]
 repeat' first|refine kS ?_|(show AWP _ (.region 1 _ _) _ _;refine(Fk.awp_drawF (id:=1) [0,1,2,3,5,6,7,8] [4,9] [(0,.arr 0 2 129 [])] [] ?_))|refine(Fk.aw_fltS 0 rfl rfl rfl rfl rfl ?_)|refine(Fk.aw_fltL (ho:=rfl) (hk:=rfl) (hl:=fun H=>Qf8 rfl rfl rfl (by omega) (by simp;omega)) (k:=?_))|refine(Fk.aw_fltL (ho:=rfl) (hk:=rfl) (hl:=fun H=>Qib rfl rfl (by omega)) (k:=?_))|refine(Fk.aw_fltL (ho:=rfl) (hk:=rfl) (hl:=fun H=>Qed rfl rfl rfl (by omega) (by simp;omega)) (k:=?_))|refine(Fk.aw_appM (by kernel_rfl) Ty.h rfl Ty.h (hcell:=?_) (hb:=?_) (kk:=?_))|refine kU ?_|fail
 ·rw[t1];exact hc1
 ·simp;omega
 ·rw[t2];exact hc2
 ·simp;omega
 rw[t1,t2];refine QbP 0 (h:=?_);refine QbQ (hx:=?_);simp[A1]
def Pl.gtB(l m:List UInt8):Bool:= !(Op.bytesLess l m||l==m)
def Pl.QaQ:List Pl.Ent->Pl.Ent->List Pl.Ent
 |[],e=>[e]
 |x::l,e=>if Pl.gtB x.1 e.1 then e::x::l else x::Pl.QaQ l e
def Qj2(x e:Pl.Ent)(l:List Pl.Ent):Pl.QaQ (x::l) e=if Pl.gtB x.1 e.1 then e::x::l else x::Pl.QaQ l e:=rfl
def QlL{e x:Pl.Ent}: ∀{l:List Pl.Ent},x∈Pl.QaQ l e->x=e∨x∈l
 |[],h=> .inl (AT.1 h)
 |y::l,h=>by
  unfold Pl.QaQ at h;split at h
  ·rcases Ae.1 h with h|h
   ·exact .inl h
   ·exact .inr h
  ·rcases Ae.1 h with h|h
   ·exact .inr (by rw[h];exact List.mem_cons_self)
   ·exact(QlL h).imp (fun h=>h) fun h=>List.mem_cons_of_mem _ h
def QlM(e:Pl.Ent): ∀l:List Pl.Ent,(Pl.QaQ l e).length=l.length+1
 |[]=>rfl
 |x::l=>by
  unfold Pl.QaQ;split
  ·rfl
  ·rw[A5,QlM e l,A5]
def Qqw{dst:Option Tmp}{ty:AX}{pos:String}{after:Array Edge}{gd:Option (Nat×Bool)}{env:List (Nat×AV)}{H:List Blk}{l m:List UInt8}(hx:aval env x= .d (.v (.string ⟨l.toArray⟩)))(hy:aval env y= .d (.v (.string ⟨m.toArray⟩))):
 Loc P ⟨dst,.binOp .gtr T x y T',ty,pos,after,gd⟩ env H (.d (.v (.bool (Pl.gtB l m)))) none:=
 loc_bin' (X:= .string ⟨l.toArray⟩) (Y:= .string ⟨m.toArray⟩) (by rw[hx];rfl) (by rw[hy];rfl) fun w=>by
  rw[Sem.run_bind,Qfk,Result.andThen_ok];simp only[binOp,Op.stringOp,Qht];rfl
def al12Add(l:List Pl.Ent)(e:Pl.Ent)(hl:l.length<=1000):Pure A3 149 [tEnts l,.agg (rEnt e)] (tEnts (Pl.QaQ l e)):=by
 refine kE ?_;refine QbP 0 (h:=?_)
 repeat refine kA ?_
 refine QbS (fun m st=> ∃(k g:Nat) (out:List Pl.Ent) (done:Bool),k<=l.length/\m=l.length -k/\out.length<=k+done.toNat/\AL (done=false->Pl.QaQ l e=out++Pl.QaQ (l.drop k) e)/\AL (done=true->Pl.QaQ l e=out++l.drop k)/\st=⟨45,[(7,.d (dI k)),(5,.osl 1 g 0 out.length),(6,.d (dB done)),(0,.d (tEnts l)),(3,.d (.pd (rEnt e)))],[.row 1 [],.arr g 2 129 (out.map rEnt)]⟩) [7,5,6,0,3] 2 l.length ⟨0,0,[],false,by omega,rfl,by simp,Pm.hid (fun _=>rfl),Pm.hid (fun h=>by cases h),rfl⟩ (round:=?_);rintro m st ⟨k,g,out,done,hk,rfl,hlen,hF,hT,rfl⟩
 repeat refine kG ?_
 cases q3:decide ((k:Int)<(l.length:Int))
 ·have hkl:k=l.length:=by simp at q3;omega
  have hdr:l.drop k=[]:=List.drop_of_length_le (by omega);rw[hdr] at hF hT;have hF2:AL (done=false->Pl.QaQ l e=out++[e]):=hF;clear hF;cases done<;>simp only[AY,Ab] at hlen
  ·repeat' first|refine kS ?_|refine Qci Ty.h rfl Ty.h (hb:=?_) (kk:=?_)|refine kU ?_|fail
   all_goals first|simp;omega|((refine QbP 1 (h:=?_);refine QbQ (hx:=?_));rw[hF2.out rfl];simp[A1])
  ·repeat refine kA ?_
   all_goals first|((refine QbP 1 (h:=?_);refine QbQ (hx:=?_));rw[hT.out rfl];simp[A1])
 have hk2:k<l.length:=by simp at q3;omega
 obtain⟨x,hx⟩: ∃x,l[k]? =some x:=⟨_,A0 hk2⟩;have hr:=QbV (f:=rEnt) hx;have hdr:l.drop k=x::l.drop (k+1):=by rw[List.drop_eq_getElem_cons hk2];congr 1;rw[A0 hk2] at hx;exact AQ hx
 rw[hdr] at hF hT;clear hx hdr;cases done<;>simp only[AY,Ab] at hlen
 ·have hA:AL (Pl.gtB x.1 e.1=true->Pl.QaQ l e=(out++[e]++[x])++l.drop (k+1)):=Pm.hid fun h=>by
   have:=hF.out rfl;rw[Qj2,if_pos h] at this;rw[this];simp
  have hB:AL (Pl.gtB x.1 e.1=false->Pl.QaQ l e=(out++[x])++Pl.QaQ (l.drop (k+1)) e):=Pm.hid fun h=>by
   have:=hF.out rfl;rw[Qj2,if_neg (by rw[h];decide)] at this;rw[this];simp
  clear hF hT
  repeat' first|refine kS ?_|refine qD (iy hr) ?_|refine qS (iy hr) ?_|refine qD (Qqw rfl rfl) ?_|refine Qci Ty.h rfl Ty.h (hb:=?_) (kk:=?_)|refine kU ?_|refine kV ?_ ?_<;>intro q|fail
  all_goals first|simp;omega|refine QbR (l.length -(k+1)) (by omega) ⟨k+1,g+1+1,out++[e]++[x],true,by omega,rfl,by simp;omega,Pm.hid (fun h=>by cases h),Pm.hid (fun _=>hA.out (by assumption)),?_⟩;simp[keepE,go_sem];done|refine QbR (l.length -(k+1)) (by omega) ⟨k+1,g+1,out++[x],false,by omega,rfl,by simp;omega,Pm.hid (fun _=>hB.out (by assumption)),Pm.hid (fun h=>by cases h),?_⟩;simp[keepE,go_sem];done
 ·have hA:AL (Pl.QaQ l e=(out++[x])++l.drop (k+1)):=Pm.hid (by rw[hT.out rfl];simp)
  clear hF hT
  repeat' first|refine kS ?_|refine qS (iy hr) ?_|refine Qci Ty.h rfl Ty.h (hb:=?_) (kk:=?_)|refine kU ?_|fail
  all_goals first|simp;omega|refine QbR (l.length -(k+1)) (by omega) ⟨k+1,g+1,out++[x],true,by omega,rfl,by simp;omega,Pm.hid (fun h=>by cases h),Pm.hid (fun _=>hA.out),?_⟩;simp[keepE,go_sem];done
def dAll(s:Pm.Store)(hg:Pl.Good s)(t:Pl.Tree)(ht:Pl.TGood t)(hsub:Pl.Sub s t.depth.toNat t.root):Does A3 19 [.d (dSt s),.d (dTree t)] [] [] (.osl 0 (Pl.allT s t).length 0 (Pl.allT s t).length) [.arr (Pl.allT s t).length 5 31 ((Pl.allT s t).map rPtr)]:=by
 obtain⟨e1,e2,e3,e4,_⟩:=QiN hsub;have hall:AL ([]++Pl.allL s [t.root]=Pl.allT s t):=Pm.hid (by unfold Pl.allT Pl.allL;rw[e1];simp);have hlen:=QcV (s:=s) ht.hi;have hL:AL (Pl.SubL s [t.root]):=Pm.hid fun p hp=>by rw[AT.1 hp];exact⟨e2,e3⟩
 have hm0:Pl.todo [t.root]<=21:=by
  have h1:=Qhp (n:=t.root.level.toNat) (m:=2) (by have:=ht.hi;omega);have h2:Pl.wgt 2=21:=rfl;have h3:Pl.todo [t.root]=Pl.wgt t.root.level.toNat+0:=rfl;omega
 generalize Pl.allT s t=all at*;clear e1 e2 e3 e4 hsub ht;refine kL ?hpin fun gvs=>?_
 case hpin=>intro i C hC;simp at hC
 simp only[parA,gslot,AK];refine kR ?_;refine QbP 0 (h:=?_);refine QbP 1 (h:=?_)
 repeat refine kA ?_
 refine QbP 3 (h:=?_)
 refine QbS (fun m st=> ∃(out l:List Pl.Ptr),m=Pl.todo l/\AL (out++Pl.allL s l=all)/\AL (Pl.SubL s l)/\Pl.todo l<=21/\
  st=⟨47,[(5,.osl 2 out.length 0 out.length),(6,.d (tPtrs l)),(2,.d (.pd (rSt s))),(1000000,.gh [] gvs)],[.row 1 [],.row 1 [],.arr out.length 5 31 (out.map rPtr)]⟩) [5,6,2,1000000] 3 (Pl.todo [t.root]) ⟨[],[t.root],rfl,hall,hL,hm0,by simp[keepE,go_sem]⟩ (round:=?_)
 rintro m st ⟨out,l,rfl,hO,hS,hm,rfl⟩;have hol:out.length<=21:=by have:=congrArg List.length hO.out;rw[A2] at this;omega
 have hll:=Qhr l
 repeat refine kG ?_
 cases l with
 |nil=>
  repeat refine kA ?_
  all_goals first|exfalso;simp at*;done|skip
  have h:=hO.out;rw[show Pl.allL s []=[] from rfl,Ac] at h;rw[<-h];refine QcO [4,1000000] [2] (env':=[(4,.osl 0 out.length 0 out.length),(1000000,.gh [] gvs)]) (H':=[.arr out.length 5 31 (out.map rPtr)]) (h:=?_);exact Qdk (hx:=rfl) (hH:=rfl)
 |cons p l=>
  have hp:=hS.out p (by simp);have hSl:AL (Pl.SubL s l):=Pm.hid fun q hq=>hS.out q (by simp[hq])
  have hr:((p::l).map rPtr)[(0:Int).toNat]? =some (rPtr p):=rfl;have ch:=Qcr p;have hlt:Pl.todo l<Pl.todo (p::l):=by rw[Qgc];have:=QlQ p.level.toNat;omega
  have hll2:=Qhr l;cases hh:Pl.ptrHole p;rotate_left
  ·rw[hh] at ch
   have hO2:AL (out++Pl.allL s l=all):=Pm.hid (by rw[<-hO.out,Qoe hh])
   repeat' first|refine kS ?_|refine qS (iy hr) ?_|refine qS (Qed rfl rfl rfl (by omega) (by first|(simp;done)|(simp;omega))) ?_|refine QcG Ty.h rfl Ty.h (hb:=?_) (hcell:=?_) (kk:=?_)|refine kU ?_|refine kV ?_ ?_<;>intro q|fail
   all_goals first|exact Qco l|simp;omega|exfalso;simp at*;done|skip
   refine Qfx 4 (h:=?_);refine QbR (Pl.todo l) hlt ⟨out,l,rfl,hO2,hSl,by omega,?_⟩;simp[keepE,go_sem,A1]
  ·rw[hh] at ch
   have hob:=Qky s hg p p.level
   by_cases h0:p.level=0
   ·have hO2:AL ((out++[p])++Pl.allL s l=all):=Pm.hid (by rw[<-hO.out,Qod hh h0,AU];rfl)
    have hd0:decide (p.level>0)=false:=by rw[h0];rfl
    repeat' first|refine kS ?_|refine qS (iy hr) ?_|refine qS (Qed rfl rfl rfl (by omega) (by first|(simp;done)|(simp;omega))) ?_|refine QcG Ty.h rfl Ty.h (hb:=?_) (hcell:=?_) (kk:=?_)|refine Qci Ty.h rfl Ty.h (hb:=?_) (kk:=?_)|refine kU ?_|refine kV ?_ ?_<;>intro q|fail
    all_goals first|exact Qco l|simp;omega|exfalso;simp at*;done|exfalso;simp at*;omega|skip
    refine Qfx 4 (h:=?_);refine QbR (Pl.todo l) hlt ⟨out++[p],l,rfl,hO2,hSl,by omega,?_⟩;simp[keepE,go_sem,A1]
   ·obtain⟨k1,k2,k3⟩:=Qoc (l:=l) hh (by omega) hp.1
    have hO2:AL ((out++[p])++Pl.allL s ((Pl.Qad s p p.level).1++l)=all):=Pm.hid (by rw[<-hO.out,k1,AU];rfl);have hSn:AL (Pl.SubL s ((Pl.Qad s p p.level).1++l)):=Pm.hid fun q hq=>(List.mem_append.1 hq).elim (k2 q) (hSl.out q)
    have hbl:=Qdu s p p.level;clear k1 k2;generalize Pl.Qad s p p.level=bb at*;obtain⟨bl,bok⟩:=bb;simp only at hO2 hSn hbl k3
    repeat' first|refine kS ?_|refine qS (iy hr) ?_|refine qS (Qed rfl rfl rfl (by omega) (by first|(simp;done)|(simp;omega))) ?_|refine QcG Ty.h rfl Ty.h (hb:=?_) (hcell:=?_) (kk:=?_)|refine Qci Ty.h rfl Ty.h (hb:=?_) (kk:=?_)|refine kU ?_|refine kV ?_ ?_<;>intro q|fail
    all_goals first|exact Qco l|exact Qco bl|simp;omega|exfalso;simp at*;done|exfalso;simp at*;omega|skip
    refine Qdl 4 (h:=?_)
    repeat' first|refine kS ?_|refine QcG Ty.h rfl Ty.h (hb:=?_) (hcell:=?_) (kk:=?_)|refine kU ?_|fail
    ·intro r hr
     exact Qco l r (by simpa[A1] using hr)
    ·simp;omega
    ·refine Qfx 6 (h:=?_)
     refine QbR (Pl.todo (bl++l)) k3 ⟨out++[p],bl++l,rfl,hO2,hSn,by omega,?_⟩;simp[keepE,go_sem,A1]
abbrev rdR(rows:List (List D))(p:Nat):Blk:= .row 0 [.d (.sl true 1 rows),.d (dI p)]
def RdOk(rows:List (List D)):Prop:= ∀r∈rows,∃c:Nat,c<256/\r=[.v (.int .u8 c)]
def QpV{rows:List (List D)}(h:RdOk rows)(i:Nat): ∃c:Nat,c<256/\(i<rows.length->rows[i]? =some [.v (.int .u8 c)]):=by
 by_cases hi:i<rows.length
 ·obtain⟨c,h1,h2⟩:=h _ (List.getElem_mem hi)
  exact⟨c,h1,fun _=>by rw[A0 hi,h2]⟩
 ·exact⟨0,by omega,fun h=>absurd h hi⟩
def Qns{dst:Option Tmp}{ty:AX}{pos:String}{after:Array Edge}{gd:Option (Nat×Bool)}{env:List (Nat×AV)}{H:List Blk}(hx:aval env x= .d (.v (.int .i64 a)))(hy:aval env y= .d (.v (.int .i64 b)))(hc:a -b=c)(h: -9223372036854775808<=a -b/\a -b<=9223372036854775807):
 Loc P ⟨dst,.binOp .sub T x y T',ty,pos,after,gd⟩ env H (.d (.v (.int .i64 c))) none:=hc▸QgB hx hy h
def Qnu{dst:Option Tmp}{ty:AX}{pos:String}{after:Array Edge}{gd:Option (Nat×Bool)}{env:List (Nat×AV)}{H:List Blk}(hx:aval env x= .d (.v (.int .i64 a)))(hy:aval env y= .d (.v (.int .i64 b)))(hc:a%b=c)(ha:0<=a)(hb:0<b):
 Loc P ⟨dst,.binOp .rem T x y T',ty,pos,after,gd⟩ env H (.d (.v (.int .i64 c))) none:=hc▸QgC hx hy ha hb
def Qnv{dst:Option Tmp}{ty:AX}{pos:String}{after:Array Edge}{gd:Option (Nat×Bool)}{env:List (Nat×AV)}{H:List Blk}(hx:aval env x= .d (.v (.int .i64 a)))(hy:aval env y= .d (.v (.int .i64 b)))(hc:a/b=c)(ha:0<=a/\a<=9223372036854775807)(hb:0<b):
 Loc P ⟨dst,.binOp .quo T x y T',ty,pos,after,gd⟩ env H (.d (.v (.int .i64 c))) none:=hc▸QgD hx hy ha hb
def Pl.bt(rows:List (List D))(i:Nat):Int:=match rows[i]? with
 |some [.v (.int _ c)]=>c
 |_=>0
def Pl.mixI(rows:List (List D))(p:Int):Int:=Pl.bt rows (p%rows.length).toNat*131+Pl.bt rows ((p*7+3)%rows.length).toNat*1117+p*29+p/rows.length*53
def Pl.pkv(rows:List (List D))(p:Nat)(n:Int):Int:=
 if n<1∨rows.length=0 then 0 else if p<rows.length then Pl.bt rows p%n else Pl.xorI (Pl.mixI rows p) (Pl.mixI rows p/64)%n
def Qr8{rows:List (List D)}{i c:Nat}(h:rows[i]? =some [.v (.int .u8 c)]):Pl.bt rows i=c:=by unfold Pl.bt;rw[h]
def pkv_b{rows:List (List D)}(h:RdOk rows)(p:Nat)(n:Int):0<=Pl.pkv rows p n/\(Pl.pkv rows p n<n∨Pl.pkv rows p n=0):=by
 unfold Pl.pkv;split
 ·exact⟨Int.le_refl _,.inr rfl⟩
 ·have hn:0<n:=by omega
  split
  ·exact⟨AF _ (by omega),.inl (AA _ hn)⟩
  ·exact⟨AF _ (by omega),.inl (AA _ hn)⟩
def Qp1{c:Nat}(h:c<256):IntKind.i64.wrap (c:Int)=c:=Pm.Qe7 _ (by omega) (by omega)
def ePick(rows:List (List D))(hr:RdOk rows)(p:Nat)(hp:p<=1000000)(n:Int)(hn:n<=1000000):
 DoesE A3 12 [.ptr 0 0 0,.d (dI n)] [rdR rows p] [.ptr 0 0 0] (fun x H=>x= .d (dI (Pl.pkv rows p n))/\H=[rdR rows (p+1)]):=by
 have hd:=Pm.hid (Pl.pkv.eq_def rows p n);have hmx:Pl.mixI rows p=Pl.bt rows ((p:Int)%rows.length).toNat*131+Pl.bt rows (((p:Int)*7+3)%rows.length).toNat*1117+(p:Int)*29+(p:Int)/rows.length*53:=rfl;generalize Pl.pkv rows p n=res at*;generalize Pl.mixI rows p=mx at*;obtain⟨c0,h0,r0⟩:=QpV hr (p:Int).toNat;obtain⟨c1,h1,r1⟩:=QpV hr ((p:Int)%rows.length).toNat;obtain⟨c2,h2,r2⟩:=QpV hr (((p:Int)*7+3)%rows.length).toNat;have w0:=Qp1 h0;have w1:=Qp1 h1;have w2:=Qp1 h2;have m1:0<rows.length->0<=(p:Int)%rows.length/\(p:Int)%rows.length<rows.length:=fun h=>⟨AF _ (by omega),AA _ (by omega)⟩
 have m2:0<rows.length->0<=((p:Int)*7+3)%rows.length/\((p:Int)*7+3)%rows.length<rows.length:=fun h=>⟨AF _ (by omega),AA _ (by omega)⟩
 have m3:0<rows.length->0<=(p:Int)/rows.length/\(p:Int)/rows.length<=p:=fun h=>⟨Int.ediv_nonneg (by omega) (by omega),Int.ediv_le_self _ (by omega)⟩
 by_cases hl:n<1∨rows.length=0
 ·clear r0 r1 r2 m1 m2 m3
  refine kH fun gvs=>?_
  repeat' first|refine kA ?_|refine kV ?_ ?_<;>intro q|fail
  all_goals first|refine QbU 1 (hx:=?_);rw[hd.out,if_pos hl];exact⟨rfl,rfl⟩|exfalso;simp only[beq_eq_false_iff_ne,decide_eq_false_iff_not,ne_eq] at*;omega
 replace m1:=m1 (by omega)
 replace m2:=m2 (by omega)
 replace m3:=m3 (by omega)
 generalize hk1:(p:Int)%rows.length=k1 at*;generalize hk2:((p:Int)*7+3)%rows.length=k2 at*;generalize hk3:(p:Int)/rows.length=k3 at*
 replace r1:=r1 (by omega)
 replace r2:=r2 (by omega)
 rw[Qr8 r1,Qr8 r2] at hmx;have hA:AL (p<rows.length->res=c0%n):=Pm.hid fun h=>by rw[hd.out,if_neg hl,if_pos h,Qr8 (i:=p) (r0 h)]
 have hB:AL (¬p<rows.length->res=Pl.xorI ((c1:Int)*131+(c2:Int)*1117+(p:Int)*29+k3*53) (((c1:Int)*131+(c2:Int)*1117+(p:Int)*29+k3*53)/64)%n):=Pm.hid fun h=>by rw[hd.out,if_neg hl,if_neg h,hmx]
 clear hd hmx;have hn1:1<=n:=by omega
 have hl1:0<rows.length:=by omega
 clear hl;refine kH fun gvs=>?_
 repeat' first|refine kS ?_|refine qS (Qns (c:=(p:Int)) rfl rfl (by omega) (by omega)) ?_|refine qS (QbW Ty.h rfl Ty.h rfl rfl rfl (by omega) (r0 (by simp only[decide_eq_true_eq] at*;omega))) ?_|refine qD (iy r1) ?_|refine qD (iy r2) ?_|refine qS (QdA A9 AH rfl rfl w0) ?_|refine qD (QdA A9 AH rfl rfl w1) ?_|refine qD (QdA A9 AH rfl rfl w2) ?_|refine qD (Qnu rfl rfl hk1 (by omega) (by omega)) ?_|refine qD (Qnu rfl rfl hk2 (by omega) (by omega)) ?_|refine qD (Qnv rfl rfl hk3 (by omega) (by omega)) ?_|refine qD (Qc3 rfl rfl (by omega)) ?_|refine qS (QgD rfl rfl (by omega) (by omega)) ?_|refine qS (loc_xor rfl rfl (by omega) (by omega)) ?_|refine qS (QgC rfl rfl (xorI_nn _ _) (by omega)) ?_|refine qS (QgC rfl rfl (by omega) (by omega)) ?_|refine kU ?_|refine kV ?_ ?_<;>intro q|fail
 all_goals first|exfalso;simp only[beq_iff_eq,decide_eq_true_eq] at*;omega|refine QbU 1 (hx:=?_);rw[hA.out (by simp only[decide_eq_true_eq] at*;omega)];exact⟨rfl,rfl⟩|refine QbU 1 (hx:=?_);rw[hB.out (by simp only[decide_eq_false_iff_not] at*;omega)];exact⟨rfl,rfl⟩
section
variable{ops:Array Oper}{Q:Exit->St->Prop}{l:List Oper}{n:Nat}{env:List (Nat×AV)}{H H':List Blk}{d:Tmp}{ty:AX}{pos:String}{after:Array Edge}{gd:Option (Nat×Bool)}{xs:Array Operand}{tys:Array AX}{rows:List (List D)}{p:Nat}{m:Int}
def aw_pk(k:Nat)(hr:RdOk rows)(hargs:xs.toList.map (aval env)=[.ptr k 0 0,.d (dI m)]:=by rfl)(hH:H[k]? =some (rdR rows p):=by rfl)(hp:p<=1000000:=by omega)(hm:m<=1000000:=by omega)
 (hw:awanted ops env ⟨some d,.call ⟨.value (.func 12),xs,tys⟩,ty,pos,after,gd⟩=some true:=by rfl) (hd:Nat.blt d n=true:=by rfl) (hg:gdOk ops n ⟨some d,.call ⟨.value (.func 12),xs,tys⟩,ty,pos,after,gd⟩=true:=by rfl)
 (hH': ∀R:List Blk->Prop,R H'->R (H.set k (rdR rows (p+1))):=by intro R hR;simp only[List.set_cons_zero,List.set_cons_succ];exact hR)
 (kk: ∀v:Nat,((v:Int)<m∨v=0)->ASeq A3 ops Q l ⟨n,(d,.d (dI v))::env,H'⟩):ASeq A3 ops Q (⟨some d,.call ⟨.value (.func 12),xs,tys⟩,ty,pos,after,gd⟩::l) ⟨n,env,H⟩:=by
 have e:=hH' (fun r=>r=H') rfl;obtain⟨h1,h2⟩:=pkv_b hr p m;refine QbX [k] (ePick rows hr p hp m hm) Tryz.call12 (hargs:=hargs) (hks:=by simp[hH,Blk.ren,AV.renL,AV.ren]) (hnd:=by simp) (hw:=hw) (hd:=hd) (hg:=hg) (k:=?_);rintro _ _ ⟨rfl,rfl⟩;have:=kk (Pl.pkv rows p m).toNat (by omega);rw[Int.toNat_of_nonneg h1] at this;rw[<-e] at this;show ASeq _ _ _ _ ⟨_,_,H.set k (rdR rows (p+1))++[]⟩;rw[Ac];exact this
end
def Qgm{p:α->Prop}{l:List α}{d:α}(h: ∀x∈l,p x)(hd:p d)(i:Nat):p (l.getD i d):=by
 rw[A4];cases h2:l[i]? with
 |none=>exact hd
 |some x=>exact h x (A6 h2)
def QcN{f:α->List D}(l:List α)(d:α){v n:Nat}(hl:l.length=n)(h:v<n):(l.map f)[(v:Int).toNat]? =some (f (l.getD v d)):=by
 rw[AG,AB,A4,A0 (by omega)];rfl
def Pl.Qbi(x:Int):UInt8:=UInt8.ofNat (x%256).toNat
def QtA(x:Int):IntKind.u8.wrap x=((Pl.Qbi x).toNat:Int):=by
 have h1:=AF x (show(256:Int)≠0 by decide);have h2:=AA x (show(0:Int)<256 by decide);show x%256=_;unfold Pl.Qbi;rw[UInt8.toNat_ofNat'];omega
def eOpen(rows:List (List D))(hr:RdOk rows):DoesE A3 9 [.d (.sl true 1 rows)] [] [] (fun x H=> ∃r,RdOk r/\x= .ptr 0 0 0/\H=[rdR r 0]):=by
 refine kH fun gvs=>?_
 repeat' first|refine kS ?_|refine qS (Qf8 rfl rfl rfl (by omega) (by simp only[decide_eq_true_eq] at*;omega)) ?_|refine kU ?_|refine kV ?_ ?_<;>intro q|fail
 all_goals first|refine QbU 1 (hx:=?_);exact⟨_,hr,rfl,rfl⟩|refine QbU 1 (hx:=?_);exact⟨_,fun r h=>hr r (AI h),rfl,rfl⟩
def ePath(rows:List (List D))(hr:RdOk rows)(p:Nat)(hp:p<=900000):
 DoesE A3 11 [.ptr 0 0 0] [rdR rows p] [.ptr 0 0 0] (fun x H=> ∃s:List UInt8,s.length<=12/\x= .d (dS s)/\H=[rdR rows (p+2)]):=by
 refine kH fun gvs=>?_
 repeat' first|refine kS ?_|(refine aw_pk 0 hr (kk:=?_);intro v hv)|refine qS (Qc9 Ty.h rfl Ty.h) ?_|refine qS (QbW Ty.h rfl Ty.h rfl rfl rfl (by omega) (QcN (f:=fun s=>[dS s]) [[],[97],[47,47],[47,97,47],[47,65],[47,97,47,98,47,99,47,97,47,98],[47,97,98,99,100,101],[47,97,47,47,98]] [] (n:=8) rfl (by omega))) ?_|refine qS (QbW Ty.h rfl Ty.h rfl rfl rfl (by omega) (QcN (f:=fun s=>[dS s]) [[47,97],[47,98],[47,97,47,98],[47,97,47,99],[47,98,47,97],[47,99],[47,97,47,98,47,99],[47,99,47,97],[47,97,98],[47]] [] (n:=10) rfl (by omega))) ?_|refine kU ?_|refine kV ?_ ?_<;>intro q|fail
 all_goals first|refine QbU 1 (hx:=?_);exact⟨_,Qgm (p:=fun s:List UInt8=>s.length<=12) (by decide) (by decide) _,rfl,rfl⟩
def eRow(rows:List (List D))(hr:RdOk rows)(p:Nat)(hp:p<=900000):
 DoesE A3 97 [.ptr 0 0 0] [rdR rows p] [.ptr 0 0 0] (fun x H=> ∃z:Int,(-1<=z/\z<=64)/\x= .d (dI z)/\H=[rdR rows (p+2)]):=by
 refine kH fun gvs=>?_
 repeat' first|refine kS ?_|(refine aw_pk 0 hr (kk:=?_);intro v hv)|refine qS (Qc9 Ty.h rfl Ty.h) ?_|refine qS (QbW Ty.h rfl Ty.h rfl rfl rfl (by omega) (QcN (f:=fun z=>[dI z]) [-1,0,3,7,64,63] 0 (n:=6) rfl (by omega))) ?_|refine kU ?_|refine kV ?_ ?_<;>intro q|fail
 all_goals first|refine QbU 1 (hx:=?_);exact⟨_,Qgm (p:=fun z:Int=> -1<=z/\z<=64) (by decide) (by decide) _,rfl,rfl⟩|refine QbU 1 (hx:=?_);exact⟨_,by omega,rfl,rfl⟩
def eMany6(s:List UInt8)(n:Nat)(hs:s.length*n<=1000000)(hs1:s.length<=1000000)(hn:n<=1000000):DoesE A3 92 [.d (dS s),.d (dI n)] [] [] (fun x H=> ∃t:List UInt8,t.length<=1000000/\x= .d (dS t)/\H=[]):=by
 refine kH fun gvs=>?_
 repeat refine kA ?_
 refine QbS (fun m st=> ∃(n:Nat) (out s:List UInt8),m=n/\n<=1000000/\out.length+s.length*n<=1000000/\s.length<=2000000/\st=⟨20,[(5,.d (dS out)),(0,.d (dS s)),(1,.d (dI n)),(1000000,.gh [] gvs)],[]⟩) [5,0,1,1000000] 0 n
  ⟨n,[],s,rfl,hn,by simpa using hs,by omega,rfl⟩ (round:=?_)
 clear hs hs1 hn s n;rintro n st ⟨_,out,s,rfl,hn,hb,hs,rfl⟩
 repeat refine kG ?_
 cases q3:decide ((n:Int)>0)
 ·repeat refine kA ?_
  all_goals first|refine QbU 0 (hx:=?_);exact⟨_,by omega,rfl,rfl⟩
 have hn0:0<n:=by simp only[decide_eq_true_eq] at q3;omega
 have h1:s.length<=s.length*n:=Nat.le_mul_of_pos_right _ hn0
 have h2:s.length*n=2*(s.length*(n/2))+s.length*(n%2):=by
  conv=>lhs;rw[<-Nat.div_add_mod n 2]
  rw[Nat.mul_add,<-AS,<-AS,Nat.mul_comm s.length 2]
 have h3:(s++s).length*(n/2)=2*(s.length*(n/2)):=by rw[A2,<-Nat.two_mul,AS]
 generalize s.length*(n/2)=X at*;have h4:((n:Int)/2).toNat=n/2:=by omega
 have h5:(n:Int)/2=((n/2:Nat):Int):=by omega
 repeat' first|refine kS ?_|refine qS (QgC rfl rfl (by omega) (by omega)) ?_|refine qS (Qnv rfl rfl h5 (by omega) (by omega)) ?_|refine qS (Qcc rfl rfl (by omega)) ?_|refine kU ?_|refine kV ?_ ?_<;>intro q|fail
 all_goals first
  |(refine QbR (n/2) (by omega) ⟨n/2,out++s,s++s,rfl,by omega,?_,by simp;omega,?_⟩
    ·have:n%2=1:=by simp only[beq_iff_eq] at*;omega
     rw[this] at h2;rw[h3,A2];omega
    ·simp[keepE,go_sem];done)
  |(refine QbR (n/2) (by omega) ⟨n/2,out,s++s,rfl,by omega,by rw[h3];omega,by simp;omega,?_⟩
    simp[keepE,go_sem];done)
def QfF(l:List UInt8)(b:UInt8):rBy l++[[.v (.int .u8 b.toNat)]]=rBy (l++[b]):=by simp[rBy]
def TI(rows:List (List D))(p n many kind:Nat)(gvs:List Value)(m:Nat)(st:St):Prop:= ∃(out:List UInt8) (g p':Nat),m=many -out.length/\out.length<=n/\p'<=p+2+2*out.length/\
    st=⟨72,[(5,.osl 1 g 0 out.length),(6,.d (dI many)),(7,.d (dI kind)),(0,.ptr 0 0 0),(1000000,.gh [.ptr 0 0 0] gvs)],[rdR rows p',.arr g 1 5 (rBy out)]⟩
def TI_step{rows:List (List D)}{p n many kind g p' k:Nat}{gvs:List Value}{out:List UInt8}{b:UInt8}{st:St}(h1:out.length<n)(hk:k=many -(out.length+1))
 (hs:st=⟨72,[(5,.osl 1 g 0 (out.length+1)),(6,.d (dI many)),(7,.d (dI kind)),(0,.ptr 0 0 0),(1000000,.gh [.ptr 0 0 0] gvs)],[rdR rows p',.arr g 1 5 (rBy out++[[.v (.int .u8 b.toNat)]])]⟩:=by simp only[keepE,go_sem];rfl) (h2:p'<=p+2+2*out.length+1:=by omega):TI rows p n many kind gvs k st:=by
 refine⟨out++[b],g,p',by rw[hk,A2];rfl,by rw[A2];exact h1,by rw[A2];simp only[A5,A8];omega,?_⟩;rw[hs,QfF,A2];rfl
def eText(rows:List (List D))(hr:RdOk rows)(p:Nat)(hp:p<=900000)(n:Nat)(hn:n<=1000):
 DoesE A3 26 [.ptr 0 0 0,.d (dI n)] [rdR rows p] [.ptr 0 0 0] (fun x H=> ∃(s:List UInt8) (p':Nat),s.length<=n/\p'<=p+2+2*n/\x= .d (dS s)/\H=[rdR rows p']):=by
 refine kH fun gvs=>?_
 repeat' first|refine kS ?_|(refine aw_pk 0 hr (kk:=?_);intro v hv)|refine kU ?_|fail
 rename_i many hmany;generalize v=kind at*;refine QbS (TI rows p n many kind gvs) [5,6,7,0,1000000] 2 many ⟨[],0,p+1+1,by simp,by simp,by simp,rfl⟩ (round:=?_);rintro m st ⟨out,g,p',rfl,hol,hp',rfl⟩
 repeat refine kG ?_
 cases q3:decide ((out.length:Int)<(many:Int))
 ·repeat' first|refine kS ?_|refine qS (Qnt AW A9 Tryz.underlying9 rfl rfl rfl) ?_|refine kU ?_|fail
  all_goals first|refine QbU 1 (hx:=?_);exact⟨out,p',hol,by omega,rfl,rfl⟩
 have hlt:out.length<many:=by simp only[decide_eq_true_eq] at q3;omega
 have hmn:many<=n:=by omega
 repeat' first|refine kS ?_|(refine aw_pk 0 hr (kk:=?_);intro v hv)|(refine Qho (QnF AW A9 rfl rfl rfl (by decide)) (k:=?_);refine QcC (hX:=fun _ hR=>hR) (k:=?_))|refine qS (Qhg Ty.h rfl Ty.h rfl (l:=[97,98,126,48,58,59,61]) rfl rfl (by simp only[A5,A8];omega)) ?_|refine qS (QdA AH A9 rfl rfl (QtA _)) ?_|refine qS (Qc3 rfl rfl (by omega)) ?_|refine Qci Ty.h rfl Ty.h (hb:=?_) (kk:=?_)|refine kU ?_|refine kV ?_ ?_<;>intro q|fail
 all_goals first|show((rBy out).length+1)*1<=140737488355328;rw[AE];omega|refine QbR (many -(out.length+1)) (by omega) (TI_step (out:=out) (by omega) rfl)|skip
 rename_i v0 hv0;have hb: ∃b:UInt8,Pl.Qbi (97+(v0:Int))=b:=⟨_,rfl⟩;obtain⟨b,hb⟩:=hb;rw[hb]
 refine QbS (fun m st=> ∃(k:Int) (o:List UInt8) (g:Nat),m=(k+1).toNat/\k<=6/\o.length<=n/\(0<=k/\o.length=out.length∨out.length<o.length)/\
  st=⟨72,[(9,.d (dI k)),(8,.d (dU b)),(5,.osl 1 g 0 o.length),(6,.d (dI many)),(7,.d (dI kind)),(0,.ptr 0 0 0),(1000000,.gh [.ptr 0 0 0] gvs)],[rdR rows (p'+1+1),.arr g 1 5 (rBy o)]⟩) [9,8,5,6,7,0,1000000] 2 (v+1)
  ⟨v,out,g,by omega,by omega,hol,.inl ⟨by omega,rfl⟩,rfl⟩ (round:=?_)
 rintro m st ⟨k,o,g,rfl,hk6,hol2,hpr,rfl⟩
 repeat refine kG ?_
 by_cases hc:0<=k/\o.length<many
 ·repeat' first|refine kS ?_|refine Qci Ty.h rfl Ty.h (hb:=?_) (kk:=?_)|refine kU ?_|refine kV ?_ ?_<;>intro q|fail
  all_goals first|exfalso;simp only[decide_eq_false_iff_not] at*;omega|show((rBy o).length+1)*1<=140737488355328;rw[AE];omega|refine QbR k.toNat (by omega) ⟨k -1,o++[b],g+1,by omega,by omega,by rw[A2];simp only[A5,A8];omega,.inr (by rw[A2];simp only[A5,A8];omega),?_⟩;simp only[keepE,go_sem,<-QfF,A2];rfl
 ·repeat' first|refine kA ?_|refine kV ?_ ?_<;>intro q|fail
  all_goals first|exfalso;simp only[decide_eq_true_eq] at*;omega|refine QbR (many -o.length) (by simp only[decide_eq_false_iff_not,decide_eq_true_eq] at*;omega) ⟨o,g,p'+1+1,rfl,hol2,by simp only[decide_eq_false_iff_not,decide_eq_true_eq] at*;omega,?_⟩;simp[keepE,go_sem];done
theorem QrD(l:List Int)(h1:l.length<=1000000):Pure A3 191 [dInts l] (tStrs (l.map Pl.numPut)):=by
 refine kB ?_
 repeat refine kA ?_
 refine Qfw 3 1 9 (h:=?_);refine QbS (fun m st=> ∃k:Nat,k<=l.length/\m=l.length -k/\st=⟨19,[(6,.d (dInts l)),(7,.d (dI l.length)),(8,.d (dI k)),(3,.osl 0 k 0 k)],[.arr k 1 9 (((l.take k).map Pl.numPut).map fun s=>[dS s])]⟩) [6,7,8,3] 1 l.length ⟨0,by omega,rfl,by simp[keepE,go_sem]⟩ (round:=?_);rintro m st ⟨k,hk,rfl,rfl⟩
 repeat refine kG ?_
 cases q3:decide ((k:Int)<(l.length:Int))
 ·have:k=l.length:=by simp at q3;omega
  subst this
  repeat refine kA ?_
  refine QbP 0 (h:=?_);refine QbQ (hx:=?_);simp;exact A1 (by simp)
 have hk2:k<l.length:=by simp at q3;omega
 obtain⟨y,hy⟩: ∃y,l[k]? =some y:=⟨_,A0 hk2⟩;have hr:=QbV (f:=fun n=>[dI n]) hy;have c:=bNumPut y;have hs:((l.take (k+1)).map Pl.numPut).map (fun s=>[dS s])=((l.take k).map Pl.numPut).map (fun s=>[dS s])++[[dS (Pl.numPut y)]]:=by rw[A7,hy];simp
 have hlk:(((l.take k).map Pl.numPut).map fun s=>[dS s]).length=k:=by simp;omega
 generalize ((l.take k).map Pl.numPut).map (fun s=>[dS s])=R at*
 repeat' first|refine kS ?_|refine qS (iy hr) ?_|refine Qci Ty.h rfl Ty.h (hlen:=hlk.symm) (hb:=?_) (kk:=?_)|refine kU ?_|fail
 all_goals first
  |(show(R.length+1)*16<=140737488355328;omega)
  |(refine QbR (l.length -(k+1)) (by omega) ⟨k+1,by omega,rfl,?_⟩
    rw[hs];simp[keepE,go_sem,hlk];done)
theorem QrC(l:List Int)(h1:l.length<=1000000):Does A3 191 [.d (.sl true 1 (l.map fun n=>[dI n]))] [] [] (.osl 0 l.length 0 l.length) [.arr l.length 1 9 ((l.map Pl.numPut).map fun s=>[dS s])]:=by
 refine kL ?hpin fun gvs=>?_
 case hpin=>intro i C hC;simp at hC
 simp only[parA,gslot,AK,Nat.reduceAdd]
 repeat refine kA ?_
 refine Qfw 3 1 9 (h:=?_);refine QbS (fun m st=> ∃k:Nat,k<=l.length/\m=l.length -k/\st=⟨19,[(6,.d (.sl true 1 (l.map fun n=>[dI n]))),(7,.d (dI l.length)),(8,.d (dI k)),(3,.osl 0 k 0 k),(1000000,.gh [] gvs)],[.arr k 1 9 (((l.take k).map Pl.numPut).map fun s=>[dS s])]⟩) [6,7,8,3,1000000] 1 l.length ⟨0,by omega,rfl,by simp[keepE,go_sem]⟩ (round:=?_);rintro m st ⟨k,hk,rfl,rfl⟩
 repeat refine kG ?_
 cases q3:decide ((k:Int)<(l.length:Int))
 ·have:k=l.length:=by simp at q3;omega
  subst this;rw[AD]
  repeat refine kA ?_
  refine Qd5 [2,1000000] 1 (H':=[.arr l.length 1 9 ((l.map Pl.numPut).map fun s=>[dS s])]) (hH:=fun R hR=>hR) (h:=?_);exact Qdk (hx:=rfl) (hH:=rfl)
 have hk2:k<l.length:=by simp at q3;omega
 obtain⟨y,hy⟩: ∃y,l[k]? =some y:=⟨_,A0 hk2⟩;have hr:=QbV (f:=fun n=>[dI n]) hy;have c:=bNumPut y;have hs:((l.take (k+1)).map Pl.numPut).map (fun s=>[dS s])=((l.take k).map Pl.numPut).map (fun s=>[dS s])++[[dS (Pl.numPut y)]]:=by rw[A7,hy];simp
 have hlk:(((l.take k).map Pl.numPut).map fun s=>[dS s]).length=k:=by simp;omega
 generalize ((l.take k).map Pl.numPut).map (fun s=>[dS s])=R at*
 repeat' first|refine kS ?_|refine qS (iy hr) ?_|refine Qci Ty.h rfl Ty.h (hlen:=hlk.symm) (hb:=?_) (kk:=?_)|refine kU ?_|fail
 all_goals first
  |(show(R.length+1)*16<=140737488355328;omega)
  |(refine QbR (l.length -(k+1)) (by omega) ⟨k+1,by omega,rfl,?_⟩
    rw[hs];simp[keepE,go_sem,hlk];done)
theorem Ql4(t:Pl.Tree):Pure A3 192 [dTree t] (tStrs (Pl.QdJ t)):=by
 have cP:=bPtrPut t.root;have cN:=(QrD [t.depth,t.many] (by simp)).arg (l:=[.sl true 1 [[dI t.depth],[dI t.many]]]);refine kE ?_;refine QbP 0 (h:=?_)
 repeat' first|refine kS ?_|refine qD (Qc9 (T:=24) Ty.h rfl Ty.h) ?_|(show AWP _ (.region 1 _ _) _ _;refine(Fg.awp_drawF (id:=1) [] [10] ?_))|refine(Qkv Ty.h rfl Ty.h (hcell:=?_) (hb:=?_) (kk:=?_))|refine kU ?_|fail
 all_goals first|(intro r hr d hd;simp at hr;rcases hr with rfl|rfl<;>(simp at hd;subst hd;rfl))|simp;done|refine QbP 1 (h:=?_);refine QbQ (hx:=?_);rfl
end Aw
end
section
namespace Aw
variable{p:Pl.Ptr}{t:Pl.Tree}{k:Nat}{α:Type}
def below4P{s:Pm.Store}{n:Int}(h:(Pl.Qad s p n).2=true):(Pl.Qad s p n).1.length=4:=by
 unfold Pl.Qad at h⊢;split
 ·simp
 ·rename_i h1
  rw[if_neg h1] at h;split at h
  ·rename_i h2
   rw[if_pos h2];split at h
   ·cases h
   ·rename_i h3;rw[if_neg h3];exact Qn9 h
  ·cases h
theorem Qnr(s:Pm.Store): ∀(n:Nat) (l:List Pl.Ptr),(Pl.lvl s n l).2=true->(Pl.lvl s n l).1.length=l.length*4^n
 |0,l,_=>by simp[Pl.lvl]
 |n+1,l,h=>by
  unfold Pl.lvl at h⊢;split at h
  ·rename_i h1
   rw[if_pos h1,Qnr s n _ h,Qlp _ l fun p hp=>below4P (AN.1 h1 p hp)]
   grind
  ·cases h
theorem QdG{s:Pm.Store}(h:Pl.Qai s t=true):t.many.toNat<=(Pl.Qap s t).1.length/\(∀p∈(Pl.Qap s t).1,Pl.ptrHole p=true∨(Pl.rd s.1 p).2=true)/\Pl.ptrOk t.root=true:=by
 unfold Pl.Qai at h;simp only[AC,beq_iff_eq] at h;obtain⟨⟨⟨⟨h1,h2⟩,h3⟩,h4⟩,h5⟩:=h;refine⟨?_,fun p hp=>?_,h3⟩
 ·have:=Qnr s t.depth.toNat [t.root] h4
  unfold Pl.Qap;rw[this,h2];simp[Pl.inR] at h1
  grind
 ·obtain⟨i,hi,rfl⟩:=List.getElem_of_mem hp
  rw[AN] at h5;have:=h5 ((Pl.Qap s t).1[i],i) (List.mk_mem_zipIdx_iff_getElem?.2 (A0 hi));unfold Pl.QaA at this
  grind
def QeJ{s:Pm.Store}(h:Pl.Qai s t=true):(Pl.Qao s t).1.map (fun p=>(Pl.rd s.1 p).1)=Pl.Qaa s t:=by
 unfold Pl.Qao Pl.Qaa Pl.wide;rw[if_pos h,List.take_append_of_le_length (QdG h).1]
theorem Qsw{rows:List (List UInt8)}(h:Pl.ptrHole p=true):Pl.rd rows p=([],true):=by unfold Pl.rd;grind
theorem Qee{s:Pm.Store}(h:Pl.Qai s t=true): ∀p∈(Pl.Qao s t).1,Pl.ptrOk p=true/\((Pl.rd s.1 p).1=[]↔Pl.ptrHole p=true):=by
 intro p hp
 have hp':p∈(Pl.Qap s t).1:=by
  unfold Pl.Qao at hp
  grind
 have hok:=Qgk s (QdG h).2.2 p hp';refine⟨hok,fun e=>?_,fun e=>by rw[Qsw e]⟩;rcases(QdG h).2.1 p hp' with h1|h1
 ·exact h1
 ·by_cases hh:Pl.ptrHole p=true
  ·exact hh
  ·exfalso
   unfold Pl.rd at e h1;rw[if_neg hh] at e h1;split at h1
   ·rename_i hf
    rw[if_pos hf] at e;simp only at e;rw[e] at hf;unfold Pl.fits at hf;simp only[AC,beq_iff_eq] at hf;have hs:p.size=0:=by grind
    have hok2:=hok;unfold Pl.ptrOk at hok2
    grind
   ·cases h1
theorem QdU{s:Pm.Store}(h:Pl.Qai s t=true):(Pl.Qao s t).1.length=t.many.toNat/\t.many.toNat<=16:=by
 have h1:=(QdG h).1;have h2:=Qcf h;have:=h2.manyHi;unfold Pl.Qao
 grind
def Pl.ndD(x:List UInt8):D:=if x=[] then .v (.pointer none) else .pd (rNode (Pl.ng x).1)
abbrev tNds(l:List (List UInt8)):D:= .sl true 1 (l.map fun x=>[Pl.ndD x])
def QhN:Pl.ng []=(Pl.zn,false):=QkT fun p hp=>QpR hp.2 rfl
theorem Qk2{p:α->Bool}{l:List α}{x:α}(hx:l[k]? =some x)(h:(l.take k).all p=true)(hp:p x=true):(l.take (k+1)).all p=true:=by
 rw[A7,hx,Aa,h];grind
theorem QlG{p:α->Bool}{l:List α}{x:α}(hx:l[k]? =some x)(hp:p x=false):l.all p=false:=by
 grind
end Aw
end
section
open Go.RowKit
namespace Aw
attribute [local irreducible] ASeq ADraw AWP Loc AStep Fg.PlanF Fg.Flts EndR
def ePtrD(rows:List (List D))(hr:RdOk rows)(p:Nat)(hp:p<=800000):
 DoesE A3 51 [.ptr 0 0 0] [rdR rows p] [.ptr 0 0 0] (fun x H=> ∃(a b c d e:Int) (p':Nat),p'<=p+40/\x= .d (.agg [dI a,dI b,dI c,dI d,dI e])/\H=[rdR rows p']):=by
 have c1:=fun a b l (s:List UInt8) (h:s.length<=10)=>aPtrOf a b l ([116]++s) (by unfold Pm.big;rw[A2];simp only[A5,A8];omega)
 refine kH fun gvs=>?_
 repeat' first|refine kS ?_|(refine aw_pk 0 hr (kk:=?_);intro v hv)|(refine QbX [0] (eText rows hr _ ?_ 9 (by decide)) cK (k:=?_);omega;rintro _ _ ⟨s,p1,hs,hp1,rfl,rfl⟩;refine QcC (k:=?_))|(refine QbX [0] (eRow rows hr _ ?_) cK (k:=?_);omega;rintro _ _ ⟨z,hz,rfl,rfl⟩;refine QcC (k:=?_))|refine qS (Qc9 Ty.h rfl Ty.h) ?_|refine qS (Qcc (l:=[116]) rfl rfl (by simp only[A5,A8];omega)) ?_|refine qS (Qcu cK (c1 _ _ _ _ (by omega)) rfl) ?_|refine qS (QbW Ty.h rfl Ty.h rfl rfl rfl (by omega) (QcN (f:=fun z=>[dI z]) [0,-1,900,901] 0 (n:=4) rfl (by omega))) ?_|refine qS (QbW Ty.h rfl Ty.h rfl rfl rfl (by omega) (QcN (f:=fun z=>[dI z]) [0,-1,128,129] 0 (n:=4) rfl (by omega))) ?_|refine qS (QbW Ty.h rfl Ty.h rfl rfl rfl (by omega) (QcN (f:=fun z=>[dI z]) [-1,99460728,99460729,0] 0 (n:=4) rfl (by omega))) ?_|refine qS (QbW Ty.h rfl Ty.h rfl rfl rfl (by omega) (QcN (f:=fun z=>[dI z]) [-1,3,2] 0 (n:=3) rfl (by omega))) ?_|refine kU ?_|refine kV ?_ ?_<;>intro q|fail
 all_goals first|refine QbU 1 (hx:=?_);exact⟨_,_,_,_,_,_,by omega,rfl,rfl⟩
abbrev tFnds(l:List Pl.Fnd):D:= .sl true 2 (l.map rFnd)
def Pl.Qb3(s:Pm.Store)(t:Pl.Tree):List Pl.Fnd×Bool:=if Pl.Qav s t then((Pl.QaS s t).1,true) else([],false)
def Pl.cnt(out:List Pl.Fnd)(N:Nat):List Int:=(AP N).map fun k=>((Pl.many out k:Nat):Int)
def cnt_nil(N:Nat):Pl.cnt [] N=List.replicate N 0:=by
 refine AZ (by simp[Pl.cnt]) fun i hi hi'=>by simp[Pl.cnt,Pl.many]
def Qr0(out:List Pl.Fnd){N k:Nat}(h:k<N):(Pl.cnt out N)[k]? =some ((Pl.many out k:Nat):Int):=by
 unfold Pl.cnt;rw[AB,List.getElem?_range h];rfl
theorem Qti(out:List Pl.Fnd)(x:Pl.Fnd){N:Nat}(h0:0<=x.2)(_h:x.2<N):Pl.cnt (out++[x]) N=(Pl.cnt out N).set x.2.toNat (((Pl.many out x.2.toNat:Nat):Int)+1):=by
 refine AZ (by simp[Pl.cnt]) fun i hi hi'=>?_
 rw[List.getElem_set];simp only[Pl.cnt,List.getElem_map,List.getElem_range];unfold Pl.many;rw[List.map_append,List.count_append];split
 ·rename_i e;subst e
  have:((x.2.toNat:Nat):Int)=x.2:=by omega
  rw[this];simp
 ·rename_i e
  have:(x.2==(i:Int))=false:=by simp;omega
  simp[List.count_cons,this]
def many_le(out:List Pl.Fnd)(k:Nat):Pl.many out k<=out.length:=by
 unfold Pl.many;refine Nat.le_trans (List.count_le_length) (by simp)
theorem al15All(s:Pm.Store)(hg:Pl.Good s)(t:Pl.Tree):Pure A3 35 [dSt s,dTree t] (.tup [tFnds (Pl.Qb3 s t).1,dB (Pl.Qb3 s t).2]):=by
 have hd:=Pm.hid (Pl.Qb3.eq_def s t);have hf:AL (Pl.Qav s t=(Pl.QaI s t&&((Pl.Qab s t).getD 0 Pl.zn).kind==2&&(Pl.QaS s t).2&&(AP (Pl.Qab s t).length).all (Pl.Qa6 s (Pl.Qab s t) (Pl.QaS s t).1))):=Pm.hid rfl;have c0:=al11Ok s hg t;cases h0:Pl.QaI s t
 ·rw[h0] at c0
  have hx:AL (Pl.Qb3 s t=([],false)):=Pm.hid (by rw[hd.out,hf.out,h0];rfl);refine kE ?_;refine QbP 0 (h:=?_);refine QbP 1 (h:=?_)
  repeat refine kA ?_
  (refine QbP 2 (h:=?_);refine QbQ (hx:=?_))
  rw[hx.out];rfl
 rw[h0] at c0 hf;have ht:Pl.TGood t:=Qcf (by unfold Pl.QaI at h0;rw[AC] at h0;exact h0.1);have c1:=QlH s hg t ht;have hnl:(Pl.Qab s t).length<=16:=by unfold Pl.Qab;rw[AE,texts_len s ht];have:=ht.manyHi;omega
 have hids:AL (((Pl.Qab s t).getD 0 Pl.zn).kind=2->(Pl.QaS s t).2=true->(Pl.QaS s t).1.length<=144/\ ∀x∈(Pl.QaS s t).1,0<=x.2/\x.2<(Pl.Qab s t).length):=Pm.hid fun h1 h2=>by
  obtain⟨L,g1,g2,g3⟩:=Qgp s h1 h2;rw[g3];refine⟨by simpa using g2,fun x hx=>?_⟩;obtain⟨y,hy,rfl⟩:=AJ.1 hx;have:=g1.fd.kinds y.2 (AJ.2 ⟨y,hy,rfl⟩);have hk:y.2<(Pl.Qab s t).length:=QcA (by rcases this with h|⟨h,_⟩<;>rw[h]<;>decide);simp only[Pl.itOf];omega
 have W:=Qt0 s hg (Pl.Qab s t) hnl 145 [] 0 [] 0 (by simp) (by simp) (by simp) (by intro x hx;cases hx);have hfd:AL (Pl.QaS s t=Pl.wk (Pl.Qab s t) (Pl.ents s) 145 ([],0) []):=Pm.hid rfl;rw[<-hfd.out] at W;rw[show Pl.Qa5 []=[47] from rfl] at W
 have hB: ∀n∈Pl.Qab s t,n=Pl.zn∨NodeB n:=fun n hn=>by
  unfold Pl.Qab at hn;obtain⟨x,_,rfl⟩:=AJ.1 hn;rcases QhM x with h|h
  ·exact .inr h
  ·exact .inl h
 have hB:=Pm.hid hB;have c13:=Pm.hid fun n=>al13Ok s hg n
 have hnf:AL (∀out k nd,(Pl.Qab s t)[k]? =some nd->Pl.Qa6 s (Pl.Qab s t) out k=((nd.kind==0||((Pl.many out k:Int)==nd.links))&&(!(nd.kind==1)||Pl.QaE s nd))):=Pm.hid fun out k nd h=>by
  unfold Pl.Qa6;rw[A4,h];rfl
 clear h0 ht hfd;generalize Pl.QaS s t=fo at*;generalize Pl.Qab s t=ns at*;obtain⟨out,ok⟩:=fo;simp only[List.map_nil,A8,Nat.sub_zero,AK] at W;simp only at hd hf hids;have hnm:(ns.map rNode).length=ns.length:=AE ..
 by_cases h2:(ns.getD 0 Pl.zn).kind=2
 rotate_left
 ·have hx:AL (Pl.Qb3 s t=([],false)):=Pm.hid (by
   rw[hd.out,hf.out];have:((ns.getD 0 Pl.zn).kind==2)=false:=by simpa using h2
   rw[this];rfl)
  cases ns with
  |nil=>
   refine kE ?_;refine QbP 0 (h:=?_);refine QbP 1 (h:=?_)
   repeat refine kA ?_
   (refine QbP 2 (h:=?_);refine QbQ (hx:=?_))
   rw[hx.out];rfl
  |cons n0 ns=>
   have hr:((n0::ns).map rNode)[((0:Nat):Int).toNat]? =some (rNode n0):=rfl;have h2: ¬n0.kind=2:=h2;refine kE ?_;refine QbP 0 (h:=?_);refine QbP 1 (h:=?_)
   repeat' first|refine kS ?_|refine qS (iy hr) ?_|refine kU ?_|refine kV ?_ ?_<;>intro q|fail
   all_goals first|exfalso;simp at q;omega|((refine QbP 2 (h:=?_);refine QbQ (hx:=?_));rw[hx.out];rfl)
 have hlen0:0<ns.length:=by
  cases ns with
  |nil=>exact absurd h2 (by decide)
  |cons n0 ns=>simp
 obtain⟨n0,hn0⟩: ∃n0,ns[0]? =some n0:=⟨_,A0 hlen0⟩;have hk0:n0.kind=2:=by rw[A4,hn0] at h2;exact h2
 have hr0:(ns.map rNode)[(0:Int).toNat]? =some (rNode n0):=by show(ns.map rNode)[0]? =_;rw[AB,hn0];rfl
 have h2b:((ns.getD 0 Pl.zn).kind==2)=true:=by simpa using h2
 cases ok
 ·have hx:AL (Pl.Qb3 s t=([],false)):=Pm.hid (by rw[hd.out,hf.out,h2b];rfl)
  clear hB hnf hids hf hd;refine kE ?_;refine QbP 0 (h:=?_);refine QbP 1 (h:=?_)
  repeat' first|refine kS ?_|refine qS (iy hr0) ?_|refine(QnX [2] W cK (k:=?_))|refine kU ?_|refine kV ?_ ?_<;>intro q|fail
  all_goals first|exfalso;simp at q;omega|exfalso;simp only[beq_iff_eq] at q;omega|((refine QbP 3 (h:=?_);refine QbQ (hx:=?_));rw[hx.out];rfl)
 obtain⟨hol,hid⟩:=hids.out h2 rfl;have hf2:AL (Pl.Qav s t=(AP ns.length).all (Pl.Qa6 s ns out)):=Pm.hid (by rw[hf.out,h2b];rfl);clear hids hf;have hid:=Pm.hid hid;refine kE ?_;refine QbP 0 (h:=?_);refine QbP 1 (h:=?_)
 repeat' first|refine kS ?_|refine qS (iy hr0) ?_|refine(QnX [2] W cK (k:=?_))|refine stepS2 (Qhx Ty.h rfl Ty.h rfl rfl rfl (by simp;omega) (by omega)) (k:=?_)|refine kU ?_|refine kV ?_ ?_<;>intro q|fail
 all_goals first|exfalso;simp only[beq_iff_eq] at q;omega|exfalso;simp at q;omega|skip
 refine QbP 2 (h:=?_)
 refine QbS (fun m st=> ∃j:Nat,j<=out.length/\m=out.length -j/\st=⟨110,[(10,.d (dI j)),(9,.osl 3 0 0 ns.length),(7,.d (tFnds out)),(6,.d (.sl true 10 (ns.map rNode))),(2,.d (.pd (rSt s)))],
  [.row 1 [],.row 1 [],.arr (out.length+1) 2 81 [],.arr 0 1 3 ((Pl.cnt (out.take j) ns.length).map fun n=>[dI n])]⟩) [10,9,7,6,2] 4 out.length ⟨0,by omega,rfl,?_⟩ (round:=?_)
 ·simp[keepE,go_sem,cnt_nil,A1]
 rintro m st ⟨j,hj,rfl,rfl⟩
 repeat refine kG ?_
 cases q3:decide ((j:Int)<(out.length:Int));rotate_left
 ·have hj2:j<out.length:=by simp at q3;omega
  obtain⟨x,hx⟩: ∃x,out[j]? =some x:=⟨_,A0 hj2⟩;have hr:=QbV (f:=rFnd) hx;have hxi:=hid.out x (A6 hx)
  have hrm:((Pl.cnt (out.take j) ns.length).map fun n=>[dI n])[0+x.2.toNat]? =some [dI ((Pl.many (out.take j) x.2.toNat:Nat):Int)]:=by
   rw[AK,AB,Qr0 _ (by omega)];rfl
  have hml:=many_le (out.take j) x.2.toNat;rw[AO] at hml
  have T:AL (Pl.cnt (out.take (j+1)) ns.length=(Pl.cnt (out.take j) ns.length).set x.2.toNat (((Pl.many (out.take j) x.2.toNat:Nat):Int)+1)):=Pm.hid (by
   rw[A7,hx];exact Qti _ x hxi.1 hxi.2)
  clear hx hf2 hd hB hnf c0 c1 W;generalize Pl.many (out.take j) x.2.toNat=c at*;generalize Pl.cnt (out.take j) ns.length=cl at*;obtain⟨xp,xi⟩:=x;simp only at hxi hrm T hr
  repeat' first|refine kS ?_|(show AWP _ (.region 13 _ _) _ _;refine(Fg.awp_drawF (id:=13) [] [16] ?_))|refine qD (iy hr) ?_|refine qD (Qcw Ty.h rfl Ty.h rfl rfl rfl rfl hxi.1 hxi.2) ?_|refine qD (Qcb Ty.h rfl rfl hrm rfl) ?_|refine Qi7 Ty.h rfl rfl hrm rfl (kk:=?_)|refine kU ?_|fail
  refine QbR (out.length -(j+1)) (by omega) ⟨j+1,by omega,rfl,?_⟩;simp[keepE,go_sem,T.out,List.map_set]
 have hj2:j=out.length:=by simp at q3;omega
 subst hj2;rw[AD]
 repeat refine kA ?_
 refine QbS (fun m st=> ∃k:Nat,k<=ns.length/\m=16 -k/\AL ((AP k).all (Pl.Qa6 s ns out)=true)/\st=⟨110,[(11,.d (dI k)),(9,.osl 3 0 0 ns.length),(7,.d (tFnds out)),(6,.d (.sl true 10 (ns.map rNode))),(2,.d (.pd (rSt s)))],
  [.row 1 [],.row 1 [],.arr (out.length+1) 2 81 [],.arr 0 1 3 ((Pl.cnt out ns.length).map fun n=>[dI n])]⟩) [11,9,7,6,2] 4 16 ⟨0,by omega,rfl,Pm.hid rfl,rfl⟩ (round:=?_)
 rintro m st ⟨k,hk,rfl,hA,rfl⟩
 repeat refine kG ?_
 cases q4:decide ((k:Int)<(ns.length:Int))
 ·repeat refine kA ?_
  refine QbQ (hx:=?_);have:k=ns.length:=by simp at q4;omega
  have h:=hA.out;rw[this] at h;rw[hd.out,hf2.out,h];rfl
 have hk2:k<ns.length:=by simp at q4;omega
 obtain⟨nd,hnd⟩: ∃nd,ns[k]? =some nd:=⟨_,A0 hk2⟩;have hr:=QbV (f:=rNode) hnd
 have hrm:((Pl.cnt out ns.length).map fun n=>[dI n])[0+(k:Int).toNat]? =some [dI ((Pl.many out k:Nat):Int)]:=by
  rw[AK,AG,AB,Qr0 _ hk2];rfl
 have he:=hnf.out out k nd hnd;have T:AL (Pl.Qa6 s ns out k=true->(AP (k+1)).all (Pl.Qa6 s ns out)=true):=fun h=>Pl.Qcm (p:=Pl.Qa6 s ns out) hA.out h
 have F:AL (Pl.Qa6 s ns out k=false->Pl.Qb3 s t=([],false)):=fun h=>by
  rw[hd.out,hf2.out,Pl.Qcg (p:=Pl.Qa6 s ns out) hk2 h];rfl
 rw[he] at T F;have c4:=c13.out nd;clear hnd hA hd hf2 he hnf hB W c0 c1 c13;generalize Pl.many out k=c at*;generalize Pl.QaE s nd=fok at*;obtain⟨kind,links,size,⟨⟨p1,p2,p3,p4,p5⟩,depth,many⟩⟩:=nd;simp only at T F;have hki:(0:Int)<=k/\(k:Int)<ns.length:=by omega
 repeat' first|refine kS ?_|refine qD (iy hr) ?_|refine qD (Qcw Ty.h rfl Ty.h rfl rfl rfl rfl hki.1 hki.2) ?_|refine qD (Qcb Ty.h rfl rfl hrm rfl) ?_|refine kU ?_|refine kV ?_ ?_<;>intro q|fail
 all_goals clear c4 hr hrm
 all_goals first
  |(refine QbR (16 -(k+1)) (by omega) ⟨k+1,by omega,rfl,Pm.hid (T.out ?_),rfl⟩;clear T F;simp_all;done)
  |(refine QbP 4 (h:=?_)
    refine QbQ (hx:=?_);have hz:=F.out (by clear T F;simp_all)
    rw[hz];rfl)

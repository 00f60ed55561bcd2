/- Of fsk_card; no condition. -/
import Derived.Test.YtfmnpmhadmcdkaaGreatDoorS17
import Derived.Test.YtfmnpmhadmcdkaaGreatDoorS19
set_option linter.all false
set_option maxRecDepth 100000
set_option maxHeartbeats 16000000
open Go.Proofs.Tryz renaming prog->A2
open Go.RowKit renaming Hid->A5
open Int renaming toNat_natCast->AE
open List renaming take_of_length_le->A0,mem_of_getElem?->A1,getElem?_eq_getElem->A3,take_add_one->A4,length_append->A6,length_tail->A7,length_cons->A8,length_map->AA,length_pos_iff->AD,append_assoc->AF,take_length->AG,all_eq_true->AH,length_take->AI,length_drop->AJ,all_append->AL,mem_append->AM,map_take->AN
open Nat renaming le_trans->A9,pow_le_pow_right->AB,mul_le_mul_right->AC,le_refl->AK
namespace Go.Proofs.YtfmnpmhadmcdkaaGreatDoor
noncomputable section
section
open Go.RowKit
namespace Aw
attribute [local irreducible] ASeq ADraw AWP Loc
def Qy(s:List UInt8):List (List UInt8):=if s=[47] then [] else(Pl.cutB 47 s).tail
theorem QpF(l:List (List UInt8)):(l.map fun s=>[dS s]).drop 1=l.tail.map fun s=>[dS s]:=by simp_all
def QfR(s:List UInt8)(hs:s.length<=1000000000000):Pure A2 123 [dS s] (tStrs (Qy s)):=by
 have c:=al2Cut s 47 hs;have hd:A5 (Qy s=if s=[47] then [] else(Pl.cutB 47 s).tail):=Pm.hid rfl;have hne:=AD.2 (Pl.Qhu 47 s);have ht:=Pm.hid (QpF (Pl.cutB 47 s));generalize Pl.cutB 47 s=l at*;refine kB ?_
 repeat' first|refine kS ?_|refine qS (Qdm (m:=[47]) rfl rfl) ?_|refine qS (QgF rfl rfl rfl (by omega) (by simp;omega)) ?_|refine kU ?_|refine kV ?_ ?_<;>intro q|fail
 ·(refine Qa 0 (h:=?_);refine Qb (hx:=?_))
  rw[hd.out,if_pos (by simpa using q)];rfl
 ·refine Qb (hx:=?_)
  rw[hd.out,if_neg (by simpa using q)];have h:=ht.out
  first|rw[<-h];rfl|simp[<-h]
theorem aPathOk(s:List UInt8)(hs:s.length<=1000000000000):Pure A2 122 [dS s] (dB (QT s).isSome):=by
 have c:=QfR s hs;have hd:A5 (QT s=if s=[47] then some [] else if s.head? =some 47/\(Pl.cutB 47 s).tail.all QF=true/\(Pl.cutB 47 s).tail.length<=4 then some (Pl.cutB 47 s).tail else none):=Pm.hid rfl
 by_cases h1:s=[47]
 ·subst h1
  refine kB ?_
  repeat' first|refine kS ?_|refine qS (Qdm (m:=[47]) rfl rfl) ?_|refine kU ?_|fail
  all_goals first|exfalso;simp at q;done|refine Qb (hx:=?_);rw[hd.out,if_pos rfl];rfl|skip
 have hd2:A5 (QT s=if s.head? =some 47/\(Pl.cutB 47 s).tail.all QF=true/\(Pl.cutB 47 s).tail.length<=4 then some (Pl.cutB 47 s).tail else none):=Pm.hid (by rw[hd.out,if_neg h1]);have hn:Qy s=(Pl.cutB 47 s).tail:=if_neg h1;rw[hn] at c;have hcl:=(Qe2 47 s);have hl:(Pl.cutB 47 s).tail.length<=s.length+1/\ ∀x∈(Pl.cutB 47 s).tail,x.length<=s.length:=⟨by rw[A7];omega,fun x hx=>hcl.2 x (List.mem_of_mem_tail hx)⟩;clear hd hn hcl;generalize (Pl.cutB 47 s).tail=l at*;cases s with
 |nil=>
  refine kB ?_
  repeat' first|refine kS ?_|refine qS (Qdm (m:=[47]) rfl rfl) ?_|refine kU ?_|fail
  all_goals first|exfalso;simp at q;done|refine Qb (hx:=?_);rw[hd2.out,if_neg (by simp)];rfl|skip
 |cons c0 s=>
  have hne:((c0::s)==[47])=false:=by simpa using h1
  have hc0:(c0::s)[(0:Int).toNat]? =some c0:=rfl;have h47:((c0.toNat:Nat):Int)=47↔c0=47:=⟨fun h=>UInt8.toNat_inj.1 (by have:((47:UInt8).toNat:Int)=47:=rfl;omega),fun h=>by rw[h];rfl⟩
  by_cases h2:c0=47
  rotate_left
  ·have hx:A5 (QT (c0::s)=none):=Pm.hid (by rw[hd2.out,if_neg (by simp[h2])])
   refine kB ?_
   repeat' first|refine kS ?_|refine qS (Qdm (m:=[47]) rfl rfl) ?_|refine qS (QdX Ty.h rfl rfl rfl (by omega) hc0) ?_|refine kU ?_|refine kV ?_ ?_<;>intro q|fail
   all_goals first|refine Qb (hx:=?_);rw[hx.out];rfl|exfalso;rw[hne] at q;exact absurd q (by decide)|exfalso;simp only[bne_eq_false_iff_eq] at*;exact h2 (h47.1 (by assumption))|skip
  subst h2;have hd3:A5 (QT (47::s)=if l.all QF=true/\l.length<=4 then some l else none):=Pm.hid (by rw[hd2.out];simp);clear hd2 h47;refine kB ?_
  repeat' first|refine kS ?_|refine qS (Qdm (m:=[47]) rfl rfl) ?_|refine qS (QdX Ty.h rfl rfl rfl (by omega) hc0) ?_|refine kU ?_|refine kV ?_ ?_<;>intro q|fail
  all_goals first|exfalso;rw[hne] at q;exact absurd q (by decide)|exfalso;exact absurd q (by decide)|exfalso;simp at q;done|skip
  refine Qo (fun m st=> ∃k:Nat,k<=l.length/\m=l.length -k/\A5 ((l.take k).all QF=true)/\st=⟨31,[(3,.d (tStrs l)),(4,.d (dI k))],[]⟩) [3,4] 0 l.length ⟨0,by omega,rfl,Pm.hid rfl,rfl⟩ (round:=?_);rintro m st ⟨k,hk,rfl,hA,rfl⟩
  repeat refine kG ?_
  cases q3:decide ((k:Int)<(l.length:Int))
  ·repeat refine kA ?_
   refine Qb (hx:=?_);have:k=l.length:=by simp at q3;omega
   have h:=hA.out;rw[this,AG] at h;rw[hd3.out,h];refine congrArg dB ?_
   by_cases h4:l.length<=4
   ·rw[if_pos ⟨rfl,h4⟩];simp;omega
   ·rw[if_neg (fun x=>h4 x.2)];simp;omega
  have hk2:k<l.length:=by simp at q3;omega
  obtain⟨x,hx⟩: ∃x,l[k]? =some x:=⟨_,A3 hk2⟩;have hr:=Qt (f:=fun s=>[dS s]) hx;have c2:=aNameOk x (by have:=hl.2 x (A1 hx);unfold Pm.big;omega);have T:A5 (QF x=true->(l.take (k+1)).all QF=true):=Pm.hid fun h=>by rw[A4,hx,AL,hA.out];simpa using h
  have F:A5 (QF x=false->QT (47::s)=none):=Pm.hid fun h=>by
   rw[hd3.out,if_neg];rintro⟨h1,_⟩;have:=AH.1 h1 x (A1 hx);rw[h] at this;cases this
  clear hx hA hd3;generalize QF x=ok at*
  repeat' first|refine kS ?_|refine qS (iy hr) ?_|refine kU ?_|refine kV ?_ ?_<;>intro q|fail
  all_goals first|exact Qh (l.length -(k+1)) (by omega) ⟨k+1,by omega,rfl,Pm.hid (T.out (by simpa using q)),rfl⟩|refine Qb (hx:=?_);rw[F.out (by simpa using q)];rfl
theorem QjP(s:List UInt8)(hs:s.length<=1000000000000):Pure A2 72 [dS s] (.tup [tStrs ((QT s).getD []),dB (QT s).isSome]):=by
 have c1:=aPathOk s hs;have c2:=QfR s hs
 have hn:A5 ((QT s).isSome=true->Qy s=(QT s).getD []):=Pm.hid fun h=>by
  unfold QT Qy at*;split
  ·rfl
  ·rename_i h1
   rw[if_neg h1] at h;split
   ·rfl
   ·rename_i h2;rw[if_neg h2] at h;cases h
 have hcl:=(Qe2 47 s)
 have hl:(Qy s).length<=s.length+1:=by
  unfold Qy;split
  ·simp
  ·rw[A7];omega
 have h0:A5 ((QT s).isSome=false->(QT s).getD []=[]):=Pm.hid fun h=>by cases hx:QT s with|none=>rfl|some x=>rw[hx] at h;cases h
 generalize (QT s).getD []=r at*;generalize (QT s).isSome=ok at*;generalize Qy s=l at*;refine kB ?_
 repeat' first|refine kS ?_|refine Qet Ty.h rfl Ty.h (hb:=?_) (hcell:=?_) (kk:=?_)|refine kU ?_|refine kV ?_ ?_<;>intro q|fail
 ·(refine Qa 0 (h:=?_);refine Qb (hx:=?_))
  have h1:ok=false:=by simpa using q
  rw[h0.out h1,h1];rfl
 ·intro r hr d hd
  obtain⟨x,_,rfl⟩:=List.mem_map.1 hr;simp at hd;subst hd;rfl
 ·simp;omega
 ·(refine Qa 0 (h:=?_);refine Qb (hx:=?_))
  have h1:ok=true:=by simpa using q
  rw[<-hn.out h1,h1];simp[A0]
attribute [local irreducible] AStep Fg.PlanF Fg.Flts
def Qc9(l:List (List UInt8)):List UInt8:=if l.flatMap (fun x=>47::x)=[] then [47] else l.flatMap (fun x=>47::x)
def al14Of(l:List (List UInt8))(hl:l.length<=1000)(hx: ∀x∈l,x.length<=1000000000000):Pure A2 283 [tStrs l] (dS (Qc9 l)):=by
 refine kE ?_
 repeat refine kA ?_
 refine Qo (fun m st=> ∃(k:Nat) (out:List UInt8),k<=l.length/\m=l.length -k/\out.length<=k*1000000000001/\A5 (out=(l.take k).flatMap (fun x=>47::x))/\st=⟨21,[(4,.d (dI k)),(3,.d (dS out)),(0,.d (tStrs l))],[]⟩) [4,3,0] 0 l.length ⟨0,[],by omega,rfl,by simp,Pm.hid rfl,rfl⟩ (round:=?_);rintro m st ⟨k,out,hk,rfl,hlen,hO,rfl⟩
 repeat refine kG ?_
 cases q3:decide ((k:Int)<(l.length:Int))
 ·have hkl:k=l.length:=by simp at q3;omega
  rw[hkl,AG] at hO;have hd:A5 (Qc9 l=if out=[] then [47] else out):=Pm.hid (by unfold Qc9;rw[<-hO.out]);clear hO
  repeat' first|refine kA ?_|refine kV ?_ ?_<;>intro q|fail
  all_goals first|exact Qb (hx:=by rw[hd.out,if_pos (by simpa using q)])|exact Qb (hx:=by rw[hd.out,if_neg (by simpa using q)])
 have hk2:k<l.length:=by simp at q3;omega
 obtain⟨x,hx1⟩: ∃x,l[k]? =some x:=⟨_,A3 hk2⟩;have hr:=Qt (f:=fun s=>[dS s]) hx1;have hxl:=hx x (A1 hx1);have T:A5 ((l.take (k+1)).flatMap (fun x=>(47:UInt8)::x)=out++[47]++x):=Pm.hid (by rw[A4,hx1,hO.out];simp);clear hx1 hO
 repeat' first|refine kS ?_|refine qS (iy hr) ?_|refine qS (QcX (m:=[47]) rfl rfl (by simp;omega)) ?_|refine qS (QcX rfl rfl (by simp;omega)) ?_|refine kU ?_|fail
 all_goals first|refine Qh (l.length -(k+1)) (by omega) ⟨k+1,out++[47]++x,by omega,rfl,by simp;omega,Pm.hid T.out.symm,?_⟩;simp[keepE,go_sem];done
def Qhe(s:List UInt8)(hs:s.length<=1000000000000)(hn:Qy s≠[]):Pure A2 221 [dS s] (dS ((Qy s).getD ((Qy s).length -1) [])):=by
 have c1:=QfR s hs
 have hnl:(Qy s).length<=s.length+1:=by
  unfold Qy;split
  ·simp
  ·have:=(Qe2 47 s).1
   rw[A7];omega
 generalize Qy s=l at*;have hl:=AD.2 hn;obtain⟨x,hx1⟩: ∃x,l[l.length -1]? =some x:=⟨_,A3 (by omega)⟩;have hr:=Qt (f:=fun s=>[dS s]) hx1;rw[show((l.length -1:Nat):Int)=(l.length:Int) -1 by omega] at hr;have hd:A5 (l.getD (l.length -1) []=x):=Pm.hid (by rw[List.getD_eq_getElem?_getD,hx1];rfl);rw[hd.out];clear hx1 hd;refine kE ?_
 repeat' first|refine kS ?_|refine qS (iy hr) ?_|refine kU ?_|fail
 all_goals first|exact Qb (hx:=rfl)
def Qcw(s top:List UInt8):Bool:=
 if !(QT s).isSome|| !(QT top).isSome||decide (((QT s).getD []).length<((QT top).getD []).length) then false
 else Qc9 (((QT s).getD []).take ((QT top).getD []).length)==Qc9 ((QT top).getD [])
theorem Qpv(s top:List UInt8)(hs:s.length<=1000000000)(ht:top.length<=1000000000)(h1: ∀l,QT s=some l->l.length<=4/\ ∀x∈l,x.length<=4)(h2: ∀l,QT top=some l->l.length<=4/\ ∀x∈l,x.length<=4):Pure A2 227 [dS s,dS top] (dB (Qcw s top)):=by
 have c1:=QjP s (by omega);have c2:=QjP top (by omega);have hd:=Pm.hid (Qcw.eq_def s top);generalize Qcw s top=res at*
 have e1:((QT s).getD []).length<=4/\ ∀x∈(QT s).getD [],x.length<=1000000000000:=by
  cases hp:QT s with
  |none=>simp
  |some l=>have:=h1 l hp;exact⟨this.1,fun x hx=>by have:=this.2 x hx;omega⟩
 have e2:((QT top).getD []).length<=4/\ ∀x∈(QT top).getD [],x.length<=1000000000000:=by
  cases hp:QT top with
  |none=>simp
  |some l=>have:=h2 l hp;exact⟨this.1,fun x hx=>by have:=this.2 x hx;omega⟩
 generalize (QT s).getD []=a at*;generalize (QT top).getD []=b at*;generalize (QT s).isSome=p at*;generalize (QT top).isSome=q0 at*;obtain⟨y1,y2⟩:=e1;obtain⟨y3,y4⟩:=e2;have c3:=al14Of (a.take b.length) (by rw[AI];omega) fun x hx=>y2 x (List.mem_of_mem_take hx)
 have c4:=al14Of b (by omega) y4;have ht2:((a.map fun s=>[dS s]).take b.length)=(a.take b.length).map fun s=>[dS s]:=by rw[AN]
 rw[show tStrs (a.take b.length)= .sl true 1 ((a.map fun s=>[dS s]).take ((b.length:Nat):Int).toNat) by rw[AE,ht2]] at c3;clear y2 y4 h1 h2 ht2;refine kE ?_
 repeat' first|refine kS ?_|refine qS (QfX rfl rfl rfl (by omega) (by simp only[decide_eq_false_iff_not,AA] at*;omega)) ?_|refine kU ?_|refine kV ?_ ?_<;>intro q|fail
 all_goals first|refine Qb (hx:=?_);rw[hd.out];simp_all;done
theorem QnK{s:List UInt8}(h:(QaF s).2=true):(QaF s).1.length=4:=by grind [QaF]
theorem QiP{s:Pm.Store}{p:Pl.Ptr}{n:Int}(h:(Qi s p n).2=true)(ht:0<=s.2.2.1)(hp:p.birth<=s.2.2.1):(Qi s p n).1.length=4/\ ∀q∈(Qi s p n).1,Pl.ptrOk q=true/\q.birth<=s.2.2.1:=by
 refine⟨?_,fun q hq=>⟨QhU s p n q hq,?_⟩⟩
 ·grind [Qi,QnK]
 ·unfold Qi at h hq
  split at hq
  ·rw[(List.mem_replicate.1 hq).2];exact ht
  grind
theorem QqY(f:Pl.Ptr->List Pl.Ptr): ∀l:List Pl.Ptr,(∀p∈l,(f p).length=4)->(l.flatMap f).length=l.length*4
 :=by intro l;induction l<;>grind
def QD(s:Pm.Store)(t:Pl.Tree):List Pl.Ptr×Bool:=if QH s t then((QI s t).1.take t.many.toNat,true) else([],false)
theorem Qq9(s:Pm.Store)(many:Int)(i:Nat)(p:Pl.Ptr)(hp:p.birth<=s.2.2.1):Qau s many i p=((Qf s.1 p).2&&(p.level==0)&& !(decide ((i:Int)≥many)&& !Pl.ptrHole p)):=by grind [Qau,Pl.ptrHole,Pl.hole,Qf]
theorem QkN{s:Pm.Store}{t:Pl.Tree}(h:QH s t=true)(htx:0<=s.2.2.1):t.root.birth<=s.2.2.1:=by
 unfold QH at h;simp only[Bool.and_eq_true] at h;obtain⟨⟨_,h4⟩,h5⟩:=h
 by_cases hh:Pl.ptrHole t.root=true
 ·grind [Pl.hole,Pl.ptrHole]
 unfold QI at h4 h5;rcases hn:t.depth.toNat with _|n
 ·grind [QaY,Qau]
 grind [QaY,Qi]
theorem bLeaves(s:Pm.Store)(hg:QP s)(htx:0<=s.2.2.1)(t:Pl.Tree):Pure A2 64 [.pd (rSt s),dTree t] (.tup [tPtrs (QD s t).1,dB (QD s t).2]):=by
 have hd:=Pm.hid (QD.eq_def s t);have hto:A5 (QH s t=(Pl.inR t.many 0 16&&(t.depth==(if t.many<=1 then 0 else if t.many<=4 then 1 else 2))&&Pl.ptrOk t.root&&(QI s t).2&&((QI s t).1.zipIdx.all fun q=>Qau s t.many q.2 q.1))):=Pm.hid rfl;refine kE ?_;refine Qa 0 (h:=?_);cases h1:Pl.inR t.many 0 16
 ·repeat' first|refine kS ?_|refine qD (lC (h1▸bIn t.many 0 16)) ?_|refine kU ?_|fail
  refine Qed 4 true 5 (h:=?_);refine Qb (hx:=?_);rw[hd.out,if_neg (by rw[hto.out,h1];simp)];rfl
 have c1:=h1▸bIn t.many 0 16;have c2:=bDepth t.many;have hdp:(if t.many<=1 then 0 else if t.many<=4 then 1 else 2:Int)=0∨(if t.many<=1 then 0 else if t.many<=4 then 1 else 2:Int)=1∨(if t.many<=1 then 0 else if t.many<=4 then 1 else 2:Int)=2:=by split<;>(try split)<;>simp
 have hdm:t.many<=4^(if t.many<=1 then 0 else if t.many<=4 then 1 else 2:Int).toNat:=by
  simp[Pl.inR] at h1;split
  ·simpa
  ·split
   ·simpa
   ·simpa using h1.2
 generalize (if t.many<=1 then 0 else if t.many<=4 then 1 else 2:Int)=dp at*;cases h3:Pl.ptrOk t.root
 ·repeat' first|refine kS ?_|refine qD (lC (h3▸bPtrOk t.root)) ?_|refine kU ?_|refine kV ?_ ?_<;>intro q|fail
  all_goals
   refine Qed 4 true 5 (h:=?_);refine Qb (hx:=?_);rw[hd.out,if_neg (by rw[hto.out,h3];simp)];rfl
 by_cases h2:t.depth=dp
 rotate_left
 ·repeat' first|refine kS ?_|refine qD (lC (h3▸bPtrOk t.root)) ?_|refine qD (Qdi rfl) ?_|refine kU ?_|refine kV ?_ ?_<;>intro q|fail
  all_goals first
   |(refine Qed 4 true 5 (h:=?_)
     refine Qb (hx:=?_)
     rw[hd.out,if_neg (by rw[hto.out];simp[h2])];rfl)
   |(simp at*;exact absurd ‹_› h2)
 by_cases h4:t.root.birth<=s.2.2.1
 rotate_left
 ·have hno:QH s t≠true:=fun h=>h4 (QkN h htx)
  repeat' first|refine kS ?_|refine qD (lC (h3▸bPtrOk t.root)) ?_|refine qD (Qdi rfl) ?_|refine kU ?_|refine kV ?_ ?_<;>intro q|fail
  all_goals first
   |(refine Qed 4 true 5 (h:=?_)
     refine Qb (hx:=?_)
     rw[hd.out,if_neg hno];rfl)
   |(simp at*;omega)
 repeat' first|refine kS ?_|refine qD (lC (h3▸bPtrOk t.root)) ?_|refine qD (Qdi rfl) ?_|refine kU ?_|refine kV ?_ ?_<;>intro q|fail
 ·exact absurd h2 (by simpa using q)
 ·simp at q;omega
 have hd2:A5 (QH s t=((QI s t).2&&((QI s t).1.zipIdx.all fun q=>Qau s t.many q.2 q.1))):=Pm.hid (by rw[hto.out,h1,h3,h2];simp);have hlv:A5 (QI s t=QaY s t.depth.toNat [t.root]):=Pm.hid rfl;have hmany:0<=t.many:=by simp[Pl.inR] at h1;exact h1.1
 clear hto c1 c2 h1;obtain⟨n0,rfl⟩: ∃n0:Nat,dp=n0:=⟨dp.toNat,by omega⟩;have hn0:n0<=2:=by omega
 rw[h2] at hlv;simp only[AE] at hlv hdm;clear hdp;generalize hnl:QD s t=res at*;clear hnl;rw[h2];refine Qa 1 (h:=?_)
 refine Qo (fun m st=> ∃(n:Nat) (l:List Pl.Ptr),n<=n0/\m=n/\l.length=4^(n0 -n)/\A5 (∀p∈l,Pl.ptrOk p=true/\p.birth<=s.2.2.1)/\A5 (QI s t=QaY s n l)/\
  st=⟨112,[(6,.d (tPtrs l)),(7,.d (dI n)),(0,.d (.pd (rSt s))),(3,.d (.pd (rTree t)))],[]⟩) [6,7,0,3] 0 n0 ⟨n0,[t.root],AK _,rfl,by simp,Pm.hid (by simp[h3,h4]),hlv,by rw[<-h2];rfl⟩ (round:=?_)
 clear hlv;rintro m st ⟨n,l,hn,rfl,hll,hO,hL,rfl⟩
 repeat refine kG ?_
 rcases m with _|n
 ·repeat refine kA ?_
  have hl16:l.length<=16:=by rw[hll];exact A9 (AB (by omega) (show n0 -0<=2 by omega)) (by decide)
  have hml:t.many<=((l.map rPtr).length:Int):=by rw[AA,hll];simpa using hdm
  have hd3:A5 (res=if l.zipIdx.all (fun q=>Qau s t.many q.2 q.1)=true then(l.take t.many.toNat,true) else([],false)):=Pm.hid (by rw[hd.out,hd2.out,hL.out];simp only[QaY,Bool.true_and]);clear hd hd2 hL hll hdm
  refine Qo (fun m st=> ∃(k:Nat),k<=l.length/\m=l.length -k/\A5 ((l.take k).zipIdx.all (fun q=>Qau s t.many q.2 q.1)=true)/\
   st=⟨112,[(74,.d (tPtrs l)),(75,.d (dI l.length)),(76,.d (dI k)),(6,.d (tPtrs l)),(0,.d (.pd (rSt s))),(3,.d (.pd (rTree t)))],[]⟩) [74,75,76,6,0,3] 0 l.length ⟨0,by omega,rfl,Pm.hid rfl,rfl⟩ (round:=?_)
  rintro m st ⟨k,hk,rfl,hA,rfl⟩
  repeat refine kG ?_
  cases q4:decide ((k:Int)<(l.length:Int))
  ·repeat' first|refine kS ?_|refine qS (Qq1 rfl rfl rfl rfl hmany hml) ?_|refine kU ?_|fail
   refine Qb (hx:=?_);have:k=l.length:=by simp at q4;omega
   have h:=hA.out;rw[this,A0 (AK _)] at h;rw[hd3.out,if_pos h];simp only;rw[<-AN]
  have hk2:k<l.length:=by simp at q4;omega
  obtain⟨x,hx⟩: ∃x,l[k]? =some x:=⟨_,A3 hk2⟩;have hr:=Qt (f:=rPtr) hx;have ho:=hO.out x (A1 hx);have h7:=bRead s hg x fun _=>ho.1
  have T:A5 (Qau s t.many k x=true->(l.take (k+1)).zipIdx.all (fun q=>Qau s t.many q.2 q.1)=true):=fun e=>by rw[Qng hx,hA.out,e];rfl
  have F:A5 (Qau s t.many k x=false->res=([],false)):=fun e=>by rw[hd3.out,QkJ hx e];rfl
  have hlf:A5 (Qau s t.many k x=((Qf s.1 x).2&&(x.level==0)&& !(decide ((k:Int)≥t.many)&& !Pl.ptrHole x))):=Pm.hid (Qq9 s t.many k x ho.2);generalize Qau s t.many k x=lf at*;clear hx hO hA hd3 ho;generalize Qf s.1 x=rb at*;obtain⟨tx,fine⟩:=rb;simp only at hlf
  repeat' first|refine kS ?_|refine qS (lC (Qep x)) ?_|refine qS (iy hr) ?_|refine kU ?_|refine kV ?_ ?_<;>intro q|fail
  all_goals clear h7 hr
  all_goals first
   |(have e:lf=false:=by rw[hlf.out];clear T F hlf;simp_all
     refine Qed 4 true 5 (h:=?_);refine Qb (hx:=?_)
     rw[F.out e];rfl)
   |(have e:lf=true:=by rw[hlf.out];clear T F hlf;simp_all
     exact Qh (l.length -(k+1)) (by omega) ⟨k+1,by omega,rfl,Pm.hid (T.out e),rfl⟩)
 have q3:decide (((n+1:Nat):Int)>0)=true:=by simp
 rw[q3]
 repeat refine kA ?_
 refine QeR 8 5 31 (h:=?_);have hll2:l.length<=4:=by rw[hll];exact A9 (AB (by omega) (show n0 -(n+1)<=1 by omega)) (by decide)
 have hv:A5 (l.all (fun p=>(Qi s p (n+1:Nat)).2)=false->res=([],false)):=fun e=>by rw[hd.out,hd2.out,hL.out,QaY,if_neg (by rw[e];simp)]<;>rfl
 refine Qo (fun m st=> ∃(k g:Nat) (out:List Pl.Ptr),k<=l.length/\m=l.length -k/\out.length=4*k/\A5 (out=(l.take k).flatMap fun p=>(Qi s p (n+1:Nat)).1)/\A5 ((l.take k).all (fun p=>(Qi s p (n+1:Nat)).2)=true)/\A5 (∀p∈out,Pl.ptrOk p=true/\p.birth<=s.2.2.1)/\
  st=⟨112,[(8,.osl 0 g 0 out.length),(54,.d (tPtrs l)),(55,.d (dI l.length)),(56,.d (dI k)),(7,.d (dI (n+1:Nat))),(0,.d (.pd (rSt s))),(3,.d (.pd (rTree t)))],[.arr g 5 31 (out.map rPtr)]⟩) [8,54,55,56,7,0,3] 1 l.length ⟨0,0,[],by omega,rfl,by simp,Pm.hid rfl,Pm.hid rfl,Pm.hid (by simp),rfl⟩ (round:=?_)
 rintro m st ⟨k,g,out,hk,rfl,hol,hP,hA,hQ,rfl⟩
 repeat refine kG ?_
 cases q4:decide ((k:Int)<(l.length:Int))
 ·repeat refine kA ?_
  refine QiV 0 (h:=?_);have:k=l.length:=by simp at q4;omega
  rw[this,A0 (AK _)] at hP hA;refine Qh n (by omega) ⟨n,out,by omega,rfl,?_,hQ,Pm.hid (by rw[hL.out,QaY,if_pos hA.out,<-hP.out]),?_⟩
  ·rw[hol,this,hll,show n0 -n=(n0 -(n+1))+1 by omega,Nat.pow_succ];omega
  ·simp[keepE,go_sem,A0]
 have hk2:k<l.length:=by simp at q4;omega
 obtain⟨x,hx⟩: ∃x,l[k]? =some x:=⟨_,A3 hk2⟩;have hr:=Qt (f:=rPtr) hx;have ho:=hO.out x (A1 hx);have hc:=bFanOf s hg x (fun _=>ho.1) (n+1:Nat);obtain⟨f1,f2⟩:=QmM (level:=(n+1:Nat)) ho.1 ho.2;have G:A5 ((Qi s x (n+1:Nat)).2=true->(Qi s x (n+1:Nat)).1.length=4/\ ∀q∈(Qi s x (n+1:Nat)).1,Pl.ptrOk q=true/\q.birth<=s.2.2.1):=Pm.hid fun e=>QiP e htx ho.2
 have F:A5 ((Qi s x (n+1:Nat)).2=false->res=([],false)):=fun e=>hv.out (by
  rw[List.all_eq_false];exact⟨x,A1 hx,by rw[e];simp⟩)
 have T1:A5 ((l.take (k+1)).flatMap (fun p=>(Qi s p (n+1:Nat)).1)=out++(Qi s x (n+1:Nat)).1):=Pm.hid (by rw[A4,hx,hP.out];simp);have T2:A5 ((Qi s x (n+1:Nat)).2=true->(l.take (k+1)).all (fun p=>(Qi s p (n+1:Nat)).2)=true):=fun e=>by rw[A4,hx,AL,hA.out];simpa using e
 have f2':A5 ((Qi s x (n+1:Nat)).2=true->Qcc s x (n+1:Nat)=Qi s x (n+1:Nat)):=Pm.hid f2;clear hx ho hA hP f2 hO hL hd hd2 hv;generalize Qcc s x (n+1:Nat)=fb at*;obtain⟨fl,ok⟩:=fb;simp only at f1;subst f1;generalize Qi s x (n+1:Nat)=bb at*;obtain⟨bl,ok⟩:=bb;simp only at f2' T2 G F T1
 have G':A5 (ok=true->fl.length=4/\(∀q∈fl,Pl.ptrOk q=true/\q.birth<=s.2.2.1)/\(l.take (k+1)).flatMap (fun p=>(Qi s p (n+1:Nat)).1)=out++fl):=Pm.hid fun e=>by
  obtain rfl:=(Prod.mk.inj (f2'.out e)).1;exact⟨(G.out e).1,(G.out e).2,T1.out⟩
 clear G f2' T1
 repeat' first|refine kS ?_|refine qS (iy hr) ?_|refine Qet Ty.h rfl Ty.h (hb:=?_) (hcell:=?_) (kk:=?_)|refine kU ?_|refine kV ?_ ?_<;>intro q|fail
 ·refine Qed 4 true 5 (h:=?_)
  refine Qb (hx:=?_);rw[F.out (by simpa using ‹(!ok)=true›)];rfl
 ·exact Qdq fl
 ·have e:ok=true:=by simpa using ‹(!ok)=false›
  have:=(G'.out e).1;simp;omega
 ·have e:ok=true:=by simpa using ‹(!ok)=false›
  obtain⟨h4,h5,h6⟩:=G'.out e;refine Qh (l.length -(k+1)) (by omega) ⟨k+1,g+1,out++fl,by omega,rfl,by simp;omega,Pm.hid h6.symm,Pm.hid (T2.out e),Pm.hid ?_,?_⟩
  ·intro p hp
   rcases AM.1 hp with hp|hp
   ·exact hQ.out p hp
   ·exact h5 p hp
  ·simp[keepE,go_sem]
end Aw
end
section
namespace Aw
variable{p:Pl.Ptr}{α:Type}
def Qbc(s:Pm.Store):Nat->Pl.Ptr->List Pl.Ptr
 |0,p=>if Pl.ptrHole p then [] else [p]
 |n+1,p=>if Pl.ptrHole p then [] else p::(Qi s p (n+1:Nat)).1.flatMap (Qbc s n)
def Qce(s:Pm.Store):Nat->Pl.Ptr->Prop
 |0,p=>Pl.ptrHole p=true∨(Pl.ptrOk p=true/\p.level=0/\p.birth<=s.2.2.1)
 |n+1,p=>Pl.ptrHole p=true∨(Pl.ptrOk p=true/\p.level=(n+1:Nat)/\p.birth<=s.2.2.1/\(Qi s p (n+1:Nat)).2=true/\ ∀q∈(Qi s p (n+1:Nat)).1,Qce s n q)
theorem QfQ(s:Pm.Store)(n:Nat)(h:Pl.ptrHole p=true):Qbc s n p=[]:=by
 cases n<;>grind [Qbc]
theorem QmX{s:Pm.Store}{n:Int}(h:(Qi s p n).2=true)(hh:Pl.ptrHole p≠true):p.level=n:=by grind [Qi]
theorem QpI(s:Pm.Store)(htx:0<=s.2.2.1): ∀(n:Nat) (l:List Pl.Ptr),(QaY s n l).2=true->(∀p∈l,Pl.ptrOk p=true/\p.birth<=s.2.2.1)->(∀p∈(QaY s n l).1,Qce s 0 p)-> ∀p∈l,Qce s n p
 |0,l,_,_,h3=>h3
 |n+1,l,h1,h2,h3=>by
  unfold QaY at h1 h3;split at h1
  ·rename_i ha
   rw[if_pos ha] at h3;have hb: ∀p∈l,(Qi s p (n+1:Nat)).2=true:=fun p hp=>AH.1 ha p hp
   have ih:=QpI s htx n _ h1 (fun q hq=>by
    grind [QiP]) h3
   intro p hp
   by_cases hh:Pl.ptrHole p=true
   ·exact .inl hh
   ·exact .inr ⟨(h2 p hp).1,QmX (hb p hp) hh,(h2 p hp).2,hb p hp,fun q hq=>ih q (List.mem_flatMap.2 ⟨p,hp,hq⟩)⟩
  grind
theorem Qhn(h:Pl.ptrHole p=true):p.level=0:=by grind [Pl.hole,Pl.ptrHole]
theorem QkR{s:Pm.Store}{n:Nat}(h:Qce s n p):Qbc s n p=Qbc s p.level.toNat p/\Qce s p.level.toNat p/\0<=p.level/\p.level<=n/\Pl.ptrOk p=true:=by
 by_cases hh:Pl.ptrHole p=true
 ·refine⟨by grind [QfQ],?_,?_,?_,?_⟩
  ·rw[Qhn hh];exact .inl hh
  ·grind [Qhn]
  ·grind [Qhn]
  grind [Pl.ptrHole,QdA]
 ·have hl:p.level=n/\Pl.ptrOk p=true:=by
   cases n with
   |zero=>
    rcases h with h|h
    ·grind
    grind
   |succ n=>
    rcases h with h|h
    ·grind
    grind
  grind
theorem QoV{β:Type}(f g:α->List β): ∀l:List α,(∀x∈l,f x=g x)->l.flatMap f=l.flatMap g
 :=by intro l;induction l<;>grind
def Qb4:Nat->Nat
 |0=>1
 |n+1=>4*Qb4 n+1
theorem Qp5: ∀n,1<=Qb4 n
 :=by intro l;induction l<;>grind [Qb4]
theorem QjT{n m:Nat}(h:n<=m):Qb4 n<=Qb4 m:=by
 induction m with
 |zero=>grind
 |succ m ih=>
  grind [Qb4]
theorem sum_le(f:α->Nat)(c:Nat): ∀l:List α,(∀x∈l,f x<=c)->(l.map f).sum<=l.length*c
 :=by intro l;induction l<;>grind [Nat.succ_mul]
theorem Qok(s:Pm.Store): ∀(n:Nat) (p:Pl.Ptr),(Qbc s n p).length<=Qb4 n
 |0,p=>by grind [Qbc,Qb4]
 |n+1,p=>by
  unfold Qbc;split
  ·simp
  ·rw[A8,List.length_flatMap]
   have h1:=sum_le (fun q=>(Qbc s n q).length) (Qb4 n) (Qi s p (n+1:Nat)).1 fun q _=>Qok s n q
   have h2:=QeK s p (n+1:Nat);have h3:(Qi s p (n+1:Nat)).1.length*Qb4 n<=4*Qb4 n:=AC _ h2
   grind [Qb4]
def QaW(l:List Pl.Ptr):Nat:=(l.map fun p=>Qb4 p.level.toNat).sum
def Qb3(s:Pm.Store)(l:List Pl.Ptr):List Pl.Ptr:=l.flatMap fun p=>Qbc s p.level.toNat p
def QcC(s:Pm.Store)(l:List Pl.Ptr):Prop:= ∀p∈l,Qce s p.level.toNat p/\0<=p.level
theorem Qif(p:Pl.Ptr)(l:List Pl.Ptr):QaW (p::l)=Qb4 p.level.toNat+QaW l:=rfl
theorem Qsq(l m:List Pl.Ptr):QaW (l++m)=QaW l+QaW m:=by unfold QaW;grind
theorem Qnj(l:List Pl.Ptr):l.length<=QaW l:=by
 induction l with
 |nil=>simp
 |cons p l ih=>grind [Qif,Qp5]
theorem QtA{s:Pm.Store}{l:List Pl.Ptr}(h:Pl.ptrHole p=true):Qb3 s (p::l)=Qb3 s l:=by grind [Qb3,QfQ]
theorem Qt9{s:Pm.Store}{l:List Pl.Ptr}(h:Pl.ptrHole p=false)(h0:p.level=0):Qb3 s (p::l)=p::Qb3 s l:=by simp_all[Qb3,Qbc]
theorem Qt8{s:Pm.Store}{l:List Pl.Ptr}(h:Pl.ptrHole p=false)(h0:0<p.level)(hs:Qce s p.level.toNat p):
 Qb3 s (p::l)=p::Qb3 s ((Qi s p p.level).1++l)/\QcC s (Qi s p p.level).1/\QaW ((Qi s p p.level).1++l)<QaW (p::l):=by
 obtain⟨n,hn⟩: ∃n:Nat,p.level=(n+1:Nat):=⟨p.level.toNat -1,by omega⟩;have e:p.level.toNat=n+1:=by omega
 rw[e] at hs;rcases hs with hs|⟨_,_,_,h3,h4⟩
 ·grind
 refine⟨?_,?_,?_⟩
 ·grind [Qb3,Qbc,QoV,QkR]
 ·rw[hn];exact fun q hq=>⟨(QkR (h4 q hq)).2.1,(QkR (h4 q hq)).2.2.1⟩
 ·rw[Qsq,Qif,hn,show((n+1:Nat):Int).toNat=n+1 from rfl]
  have h1:=sum_le (fun q:Pl.Ptr=>Qb4 q.level.toNat) (Qb4 n) (Qi s p (n+1:Nat)).1 fun q hq=>QjT (by have:=(QkR (h4 q hq)).2.2.2.1;omega)
  have h2:=QeK s p (n+1:Nat);have h5:(Qi s p (n+1:Nat)).1.length*Qb4 n<=4*Qb4 n:=AC _ h2
  grind [Qb4,QaW]
def Qan(s:Pm.Store)(t:Pl.Tree):List Pl.Ptr:=Qbc s t.depth.toNat t.root
def QhX{s:Pm.Store}{t:Pl.Tree}(h:t.depth<=2):(Qan s t).length<=21:=
 A9 (Qok s _ _) (A9 (QjT (show t.depth.toNat<=2 by omega)) (by decide))
theorem Qe6{s:Pm.Store}(h:Qaa s=true):0<=s.2.2.1:=by grind [Qaa,Pl.inR]
end Aw
end
section
open Go.RowKit
namespace Aw
attribute [local irreducible] ASeq ADraw AWP Loc AStep Fg.PlanF Fg.Flts EndR
def dAll(s:Pm.Store)(hg:QP s)(t:Pl.Tree)(ht:Qx t)(hsub:Qce s t.depth.toNat t.root):Does A2 281 [.d (dSt s),.d (dTree t)] [] [] (.osl 0 (Qan s t).length 0 (Qan s t).length) [.arr (Qan s t).length 5 31 ((Qan s t).map rPtr)]:=by
 obtain⟨e1,e2,e3,e4,_⟩:=QkR hsub;have hall:A5 ([]++Qb3 s [t.root]=Qan s t):=Pm.hid (by unfold Qan Qb3;rw[e1];simp);have hlen:=QhX (s:=s) ht.hi;have hL:A5 (QcC s [t.root]):=Pm.hid fun p hp=>by rw[List.mem_singleton.1 hp];exact⟨e2,e3⟩
 have hm0:QaW [t.root]<=21:=by
  have h1:=QjT (n:=t.root.level.toNat) (m:=2) (by have:=ht.hi;omega);have h2:Qb4 2=21:=rfl;have h3:QaW [t.root]=Qb4 t.root.level.toNat+0:=rfl;omega
 generalize Qan s t=all at*;clear e1 e2 e3 e4 hsub ht;refine kL ?hpin fun gvs=>?_
 case hpin=>intro i C hC;simp at hC
 simp only[parA,gslot,Nat.zero_add];refine kR ?_;refine Qa 0 (h:=?_);refine Qa 1 (h:=?_)
 repeat refine kA ?_
 refine Qa 3 (h:=?_)
 refine Qo (fun m st=> ∃(out l:List Pl.Ptr),m=QaW l/\A5 (out++Qb3 s l=all)/\A5 (QcC s l)/\QaW l<=21/\
  st=⟨47,[(5,.osl 2 out.length 0 out.length),(6,.d (tPtrs l)),(2,.d (.pd (rSt s))),(1000000,.gh [] gvs)],[.row 1 [],.row 1 [],.arr out.length 5 31 (out.map rPtr)]⟩) [5,6,2,1000000] 3 (QaW [t.root]) ⟨[],[t.root],rfl,hall,hL,hm0,by simp[keepE,go_sem]⟩ (round:=?_)
 rintro m st ⟨out,l,rfl,hO,hS,hm,rfl⟩;have hol:out.length<=21:=by have:=congrArg List.length hO.out;rw[A6] at this;omega
 have hll:=Qnj l
 repeat refine kG ?_
 cases l with
 |nil=>
  repeat refine kA ?_
  all_goals first|exfalso;simp at*;done|skip
  have h:=hO.out;rw[show Qb3 s []=[] from rfl,List.append_nil] at h;rw[<-h];refine QdI [4,1000000] [2] (env':=[(4,.osl 0 out.length 0 out.length),(1000000,.gh [] gvs)]) (H':=[.arr out.length 5 31 (out.map rPtr)]) (h:=?_);exact QdB (hx:=rfl) (hH:=rfl)
 |cons p l=>
  have hp:=hS.out p (by simp);have hSl:A5 (QcC s l):=Pm.hid fun q hq=>hS.out q (by simp[hq])
  have hr:((p::l).map rPtr)[(0:Int).toNat]? =some (rPtr p):=rfl;have ch:=Qdk p;have hlt:QaW l<QaW (p::l):=by rw[Qif];have:=Qp5 p.level.toNat;omega
  have hll2:=Qnj l;cases hh:Pl.ptrHole p;rotate_left
  ·rw[hh] at ch
   have hO2:A5 (out++Qb3 s l=all):=Pm.hid (by rw[<-hO.out,QtA hh])
   repeat' first|refine kS ?_|refine qS (iy hr) ?_|refine qS (QgF rfl rfl rfl (by omega) (by first|(simp;done)|(simp;omega))) ?_|refine Qet Ty.h rfl Ty.h (hb:=?_) (hcell:=?_) (kk:=?_)|refine kU ?_|refine kV ?_ ?_<;>intro q|fail
   all_goals first|exact Qdq l|simp;omega|exfalso;simp at*;done|skip
   refine QiV 4 (h:=?_);refine Qh (QaW l) hlt ⟨out,l,rfl,hO2,hSl,by omega,?_⟩;simp[keepE,go_sem,A0]
  ·rw[hh] at ch
   have hob:=Qol s hg p p.level
   by_cases h0:p.level=0
   ·have hO2:A5 ((out++[p])++Qb3 s l=all):=Pm.hid (by rw[<-hO.out,Qt9 hh h0,AF];rfl)
    have hd0:decide (p.level>0)=false:=by rw[h0];rfl
    repeat' first|refine kS ?_|refine qS (iy hr) ?_|refine qS (QgF rfl rfl rfl (by omega) (by first|(simp;done)|(simp;omega))) ?_|refine Qet Ty.h rfl Ty.h (hb:=?_) (hcell:=?_) (kk:=?_)|refine QV Ty.h rfl Ty.h (hb:=?_) (kk:=?_)|refine kU ?_|refine kV ?_ ?_<;>intro q|fail
    all_goals first|exact Qdq l|simp;omega|exfalso;simp at*;done|exfalso;simp at*;omega|skip
    refine QiV 4 (h:=?_);refine Qh (QaW l) hlt ⟨out++[p],l,rfl,hO2,hSl,by omega,?_⟩;simp[keepE,go_sem,A0]
   ·obtain⟨k1,k2,k3⟩:=Qt8 (l:=l) hh (by omega) hp.1
    have hO2:A5 ((out++[p])++Qb3 s ((Qi s p p.level).1++l)=all):=Pm.hid (by rw[<-hO.out,k1,AF];rfl);have hSn:A5 (QcC s ((Qi s p p.level).1++l)):=Pm.hid fun q hq=>(AM.1 hq).elim (k2 q) (hSl.out q)
    have hbl:=QeK s p p.level;clear k1 k2;generalize Qi s p p.level=bb at*;obtain⟨bl,bok⟩:=bb;simp only at hO2 hSn hbl k3
    repeat' first|refine kS ?_|refine qS (iy hr) ?_|refine qS (QgF rfl rfl rfl (by omega) (by first|(simp;done)|(simp;omega))) ?_|refine Qet Ty.h rfl Ty.h (hb:=?_) (hcell:=?_) (kk:=?_)|refine QV Ty.h rfl Ty.h (hb:=?_) (kk:=?_)|refine kU ?_|refine kV ?_ ?_<;>intro q|fail
    all_goals first|exact Qdq l|exact Qdq bl|simp;omega|exfalso;simp at*;done|exfalso;simp at*;omega|skip
    refine Qeo 4 (h:=?_)
    repeat' first|refine kS ?_|refine Qet Ty.h rfl Ty.h (hb:=?_) (hcell:=?_) (kk:=?_)|refine kU ?_|fail
    ·intro r hr
     exact Qdq l r (by simpa[A0] using hr)
    ·simp;omega
    ·refine QiV 6 (h:=?_)
     refine Qh (QaW (bl++l)) k3 ⟨out++[p],bl++l,rfl,hO2,hSn,by omega,?_⟩;simp[keepE,go_sem,A0]
theorem Qt6{S:Nat->Prop}{w:World}{b:Bool}{l:List (List UInt8)}{v:Value}(h:RelD S w (.sl b 1 (l.map fun s=>[dS s])) v)(hS: ∀b,S b->b<w.heap.size)(hx: ∀x∈l,x.length<=Pm.big):
 ∃A c,v= .slice A l.length c/\Pm.At w w.heap.size A l:=by
 generalize hr:(l.map fun s=>[dS s])=rows at h;cases h with
 |slnil a cap=>
  have:l=[]:=by simp_all
  subst this;exact⟨_,_,rfl,fun h=>absurd h (by simp)⟩
 |sl _ _ _ bb o cap g hb hn hcap hc hrr=>
  subst hr;refine⟨_,_,by rw[AA],fun _=>⟨bb,o,rfl,hS bb hb,fun i x hi=>⟨[.string ⟨x.toArray⟩],⟨rfl,hx x (A1 hi)⟩,fun j v hj=>?_⟩⟩⟩
  match j,hj with
  |0,hj=>
   obtain rfl:_=v:=by simpa using hj
   have h1:(l.map fun s=>[dS s])[i]? =some [dS x]:=by grind
   have h2:=hc i 0 _ _ h1 rfl;have h3:=hrr i 0 _ _ h1 rfl;generalize g i 0=y at*;cases h3;exact h2
theorem Sm.lt{B:Bs}{σ:Sg}{S:Nat->Prop}{H:List Blk}{w:World}(h:Sm B σ S H w): ∀b,S b->b<w.heap.size:=fun b hb=>(h.sUp b hb).1
theorem one_arg{α:Type}{cargs:List α}(h:1=cargs.length): ∃v,cargs=[v]:=by
 match cargs,h with
 |[v],_=>grind
theorem Qpq(l:List (List UInt8))(h1:l.length<=Pm.big)(h2: ∀s∈l,s.length<=4294967296):Pure A2 245 [dStrs l] (.tup [dS ((Pl.Qdb l).getD []),dB (Pl.Qdb l).isSome]):=by
 intro B σ S H w cargs hB hS hl hr;obtain⟨v,rfl⟩:=one_arg hl;obtain⟨A,c,rfl,hA⟩:=Qt6 (hr 0 _ v rfl rfl) hS.lt fun x hx=>by grind [Pm.big]
 refine(Pm.QmB A l c w h1 hA h2 (hB.ltOf hS)).mono ?_;rintro e w' ⟨rfl,hb⟩;refine⟨_,rfl,hb,?_⟩;rw[Pm.Qqj];refine .tup _ [.string ⟨((Pl.Qdb l).getD []).toArray⟩,.bool (Pl.Qdb l).isSome] rfl fun i d x hd hx=>?_
 match i,hd,hx with
 |0,hd,hx=>simp at hd hx;subst hd hx;exact .v _
 |1,hd,hx=>simp at hd hx;subst hd hx;exact .v _
theorem QmZ(kind size:Int):Pure A2 114 [dI kind,dI size] (dI (Qac kind size)):=by
 have hd:=Pm.hid (Qac.eq_def kind size);have he:=Pm.hid (QaV.eq_def kind)
 have key: ∀e:Int,QaV kind=e->e=12∨e=128->Qac kind size=if Pl.inR size 0 (16*e) then(size+e -1)/e else -1:=fun e h1 h2=>by
  rw[hd.out,h1,if_neg (by omega)]
 by_cases h1:kind=1
 ·rw[key 12 (by rw[he.out,if_pos h1]) (.inl rfl)]
  subst h1;clear hd he key;cases hR:Pl.inR size 0 (16*12)
  ·refine kB ?_
   repeat' first|refine kS ?_|refine qS (Qdu rfl rfl (by decide)) ?_|refine qS (lC (hR▸bIn size 0 (16*12))) ?_|refine kU ?_|fail
   all_goals exact Qb (hx:=rfl)
  have hb:0<=size/\size<=16*12:=by simpa[Pl.inR] using hR
  refine kB ?_
  repeat' first|refine kS ?_|refine qS (Qdu rfl rfl (by decide)) ?_|refine qS (lC (hR▸bIn size 0 (16*12))) ?_|refine qS (Qgt rfl rfl (by omega) (by omega)) ?_|refine kU ?_|fail
  all_goals exact Qb (hx:=rfl)
 by_cases h2:kind=2
 ·rw[key 128 (by rw[he.out,if_neg h1,if_pos h2]) (.inr rfl)]
  subst h2;clear hd he key;cases hR:Pl.inR size 0 (16*128)
  ·refine kB ?_
   repeat' first|refine kS ?_|refine qS (Qdu rfl rfl (by decide)) ?_|refine qS (lC (hR▸bIn size 0 (16*128))) ?_|refine kU ?_|fail
   all_goals exact Qb (hx:=rfl)
  have hb:0<=size/\size<=16*128:=by simpa[Pl.inR] using hR
  refine kB ?_
  repeat' first|refine kS ?_|refine qS (Qdu rfl rfl (by decide)) ?_|refine qS (lC (hR▸bIn size 0 (16*128))) ?_|refine qS (Qgt rfl rfl (by omega) (by omega)) ?_|refine kU ?_|fail
  all_goals exact Qb (hx:=rfl)
 have hpz:Qac kind size= -1:=by rw[hd.out,if_pos (by rw[he.out,if_neg h1,if_neg h2])]
 rw[hpz];clear hd he key hpz;refine kB ?_
 repeat' first|refine kA ?_|refine kV ?_ ?_<;>intro q|fail
 ·exact absurd (by simpa using q) h1
 ·exact absurd (by simpa using q) h2
 exact Qb (hx:=rfl)
theorem bNodeOk(n:Qj):Pure A2 63 [dNode n] (dB (Q8 n)):=by
 have hd:A5 (Q8 n=(decide (0<=Qac n.kind n.size)&&(n.tree.many==Qac n.kind n.size)&&(n.tree.depth==Qbk (Qac n.kind n.size))&&Pl.ptrOk n.tree.root&&
  Pl.inR n.links 1 (if n.kind=2 then 1 else 9)&&(Pl.ptrHole n.tree.root||(n.tree.root.level==n.tree.depth)))):=Pm.hid rfl
 have c1:=QmZ n.kind n.size;generalize Qac n.kind n.size=pc at*;have c2:Pure A2 115 [dI pc] (dI (Qbk pc)):=bDepth pc;generalize Qbk pc=dp at*;have c3:=bPtrOk n.tree.root;have c4:=Qep n.tree.root;generalize Pl.ptrOk n.tree.root=ok at*;generalize Pl.ptrHole n.tree.root=ho at*;refine kE ?_;refine Qa 0 (h:=?_)
 repeat' first|refine kS ?_|refine qD (Qdh cK (bIn _ _ _) rfl) ?_|refine kU ?_|refine kV ?_ ?_<;>intro q|fail
 all_goals
  refine Qb (hx:=?_);refine congrArg dB ?_;rw[hd.out];clear c1 c2 c3 c4 hd
  simp_all
 all_goals
  intros
  omega
theorem Qql{n:Int}(h0:0<=n)(h1:n<=999999999):Pl.numPut n=Pl.dec n.toNat:=by grind [Pl.numPut]
theorem QgD{n:Qj}(h:NodeB n):[n.kind,n.links,n.size].map Pl.numPut++Pl.Qe4 n.tree++[[101,110,100]]=Qag n:=by
 have h1:=h.kind;have h2:=h.links;have h3:=h.size;have h4:=h.depth;have h5:=h.many
 grind [Pl.Qe4,Qag,Qql]
def bCutHit(a r:List UInt8)(h:(58:UInt8)∉a)(hs:(a++58::r).length<=4294967280):Pure A2 178 [dS (a++58::r),dS [58]] (.tup [dS a,dS r,dB true]):=
 QeY (xs:=[.string ⟨a.toArray⟩,.string ⟨r.toArray⟩,.bool true]) rfl fun w hL=>Pm.cutHit a r h w hs hL
def Qt4(a:List UInt8)(h:(58:UInt8)∉a)(hs:a.length<=4294967280):Pure A2 178 [dS a,dS [58]] (.tup [dS a,dS [],dB false]):=
 QeY (xs:=[.string ⟨a.toArray⟩,.string ⟨#[]⟩,.bool false]) rfl fun w hL=>Pm.cutMiss a h w hs hL
def bClone(s:List UInt8)(hs:s.length<=Pm.big):Pure A2 180 [dS s] (dS s):=Qdv rfl fun w _=>Pm.imClone s w hs
theorem Qpr(s:List UInt8)(hs:s.length<=Pm.big):Pure A2 183 [dS s] (.tup [tStrs (Qb2 s).1,dB (Qb2 s).2]):=by
 simp only[Pm.big] at hs
 by_cases h20:s.length<=2048
 rotate_left
 ·have hr:A5 (Qb2 s=([],false)):=Pm.hid (Qii fun l hl=>h20 hl.2.1)
  generalize Qb2 s=res at*;refine kB ?_
  repeat' first|refine kA ?_|refine kV ?_ ?_<;>intro q|fail
  ·refine Qed 2 true 1 (h:=?_)
   refine Qb (hx:=?_);rw[hr.out];rfl
  ·exfalso;simp at*;omega
 refine kB ?_
 repeat' first|refine kA ?_|refine kV ?_ ?_<;>intro q|fail
 ·exfalso;simp at*;omega
 refine QeR 4 1 9 (h:=?_)
 refine Qo (fun m st=> ∃(g:Nat) (out:List (List UInt8)) (rest:List UInt8),m=rest.length/\A5 (s=Pl.enc out++rest)/\rest.length<=2048/\out.length<=60/\
  st=⟨56,[(4,.osl 0 g 0 out.length),(5,.d (dS rest))],[.arr g 1 9 (out.map fun s=>[dS s])]⟩) [4,5] 1 s.length ⟨0,[],s,rfl,Pm.hid rfl,h20,by simp,rfl⟩ (round:=?_)
 rintro m st ⟨g,out,rest,rfl,hO,hrl,hlen,rfl⟩
 repeat refine kG ?_
 by_cases hr:rest=[]
 ·subst hr
  have hr:A5 (Qb2 s=(out,true)):=Pm.hid (rg_is ⟨hlen,h20,by rw[hO.out];simp⟩);generalize Qb2 s=res at*
  repeat refine kA ?_
  (refine Qa 0 (h:=?_);refine Qb (hx:=?_))
  rw[hr.out];simp[A0]
 have hne:(!(rest==([]:List UInt8)))=true:=by simpa using hr
 by_cases hc:(58:UInt8)∈rest
 rotate_left
 ·have hf:A5 (Qb2 s=([],false)):=Pm.hid (Qii (Pl.QmF hO.out hr hc))
  have c1:=Qt4 rest hc (by omega);have c2:=bNumGet rest (by unfold Pm.big;omega);generalize (Pl.numGet rest).getD 0=n1 at*;generalize (Pl.numGet rest).isSome=o1 at*;generalize Qb2 s=res at*
  repeat' first|refine kA ?_|refine kV ?_ ?_<;>intro q|fail
  all_goals first
   |(refine Qed 2 true 1 (h:=?_)
     refine Qb (hx:=?_)
     rw[hf.out];rfl)
   |exact absurd (hne.symm.trans ‹_=false›) (by decide)
 obtain⟨num,tail,rfl,hn⟩:=Pl.QeC hc;have hnl:num.length<=2048/\tail.length<=2048:=by simp only[A6,A8] at hrl;omega
 have c1:=bCutHit num tail hn (by omega);have c2:=bNumGet num (by unfold Pm.big;omega);cases hg:Pl.numGet num with
 |none=>
  rw[hg] at c2;have hf:A5 (Qb2 s=([],false)):=Pm.hid (Qii (Pl.QqN h20 hO.out hn (Or.inl hg)));generalize Qb2 s=res at*
  repeat' first|refine kA ?_|refine kV ?_ ?_<;>intro q|fail
  all_goals first
   |(refine Qed 2 true 1 (h:=?_)
     refine Qb (hx:=?_)
     rw[hf.out];rfl)
   |exact absurd (hne.symm.trans ‹_=false›) (by decide)
 |some n=>
  rw[hg] at c2;simp only[Option.getD_some,Option.isSome_some] at c2;have F1:A5 (tail.length<n->Qb2 s=([],false)):=Pm.hid fun h=>Qii (Pl.QqN h20 hO.out hn (Or.inr ⟨n,hg,h⟩))
  have F2:A5 (out.length=60->Qb2 s=([],false)):=Pm.hid fun h=>Qii (Pl.Qtg hO.out hr (by omega))
  have T:A5 (n<=tail.length->s=Pl.enc (out++[tail.take n])++tail.drop n):=Pm.hid fun h=>Pl.Qtf hO.out hg h
  have c3:=bClone (tail.take n) (by rw[AI];unfold Pm.big;omega);generalize Qb2 s=res at*
  repeat' first|refine kS ?_|refine qS (QfH rfl rfl rfl (by simp) (by simp at*;omega)) ?_|refine qS (QfG rfl rfl rfl (by simp) (by simp at*;omega)) ?_|refine QV Ty.h rfl Ty.h (hb:=?_) (kk:=?_)|refine kU ?_|refine kV ?_ ?_<;>intro q|fail
  all_goals first
   |exact absurd (hne.symm.trans ‹_=false›) (by decide)
   |(refine Qed 2 true 1 (h:=?_)
     refine Qb (hx:=?_)
     first
      |(rw[F1.out (by simp at*;omega)];rfl)
      |(rw[F2.out (by simp at*;omega)];rfl))
   |(simp;omega)
   |(have hnt:n<=tail.length:=by clear F1 F2 T;simp only[decide_eq_false_iff_not] at*;omega
     have hn60:out.length≠60:=fun e=>by
      have:((out.length:Int)==60)=true:=by rw[e];rfl
      exact absurd (this.symm.trans ‹_=false›) (by decide)
     refine Qh (tail.drop n).length ?_ ⟨g+1,out++[tail.take n],tail.drop n,rfl,Pm.hid (T.out hnt),?_,?_,?_⟩
     ·rw[AJ,A6,A8];omega
     ·rw[AJ];omega
     ·simp;omega
     ·simp[keepE,go_sem])

/- Of fby_card; no condition. -/
import Derived.Test.YtfmnpmhadmcdkaaGreatDoorT13
set_option linter.all false
set_option maxRecDepth 100000
set_option maxHeartbeats 8000000
open Bool renaming and_eq_true->AH
open Classical renaming choose->A6
open Go.IntKind renaming u8->AN
open Go.Proofs.Tryz renaming prog->A3,underlying22->A9,underlying5->AC,underlying9->AD
open Go.RowKit renaming Hid->AM
open Int renaming eq_ofNat_of_zero_le->A1
open List renaming getElem?_eq_getElem->A0,length_drop->A2,length_cons->A4,length_nil->A5,mem_cons_of_mem->A7,length_append->A8,getElem?_map->AA,take_add_one->AB,take_length->AE,intersperse->AF,all_eq_true->AG,length_map->AK,map_map->AL
open Nat renaming le_refl->AI
open Option.some renaming inj->AJ
namespace Go.Proofs.YtfmnpmhadmcdkaaGreatDoor
noncomputable section
open Go.RowKit
namespace Aw
variable{a b c f x:List UInt8}
attribute [local irreducible] ASeq ADraw AWP Loc
def QaV(kind:Int):Int:=if kind=1 then 12 else if kind=2 then 128 else 0
theorem QtH(kind:Int):Pure A3 255 [dI kind] (dI (QaV kind)):=by
 refine kB ?_
 repeat' first|refine kA ?_|refine kV ?_ ?_<;>intro q|fail
 all_goals exact Qb (hx:=congrArg dI (by simp_all[QaV]))
def QjL(size each:Int)(h0:0<=size)(h1:size<=1000000000000)(h2:0<each)(h3:each<=1000000000000):Pure A3 256 [dI size,dI each] (dI ((size+each -1)/each)):=by
 refine kB ?_
 repeat' first|refine kS ?_|refine qS (Qgt rfl rfl (by omega) (by omega)) ?_|refine kU ?_|fail
 exact Qb (hx:=rfl)
def Qac(kind size:Int):Int:=if QaV kind=0 then -1 else if Pl.inR size 0 (16*QaV kind) then(size+QaV kind -1)/QaV kind else -1
def QoZ(kind:Int):QaV kind=0∨QaV kind=12∨QaV kind=128:=by unfold QaV;split<;>(try split)<;>simp
theorem Qne(kind size:Int):Pure A3 202 [dI kind,dI size] (dI (Qac kind size)):=by
 have hd:=Pm.hid (Qac.eq_def kind size);have c:=QtH kind;have he:=QoZ kind;generalize QaV kind=e at*;refine kB ?_
 by_cases h0:e=0
 ·subst h0
  repeat refine kA ?_
  refine Qb (hx:=?_);rw[hd.out];simp
 have heb:e=12∨e=128:=by omega
 cases hR:Pl.inR size 0 (16*e)
 ·repeat' first|refine kS ?_|refine qS (Qdu rfl rfl (by omega)) ?_|refine qS (lC (hR▸al6In size 0 (16*e))) ?_|refine kU ?_|refine kV ?_ ?_<;>intro q|fail
  all_goals
   refine Qb (hx:=?_);rw[hd.out,hR];simp
 have hb:0<=size/\size<=16*e:=by simpa[Pl.inR] using hR
 repeat' first|refine kS ?_|refine qS (Qdu rfl rfl (by omega)) ?_|refine qS (lC (hR▸al6In size 0 (16*e))) ?_|refine qS (Qdh cK (QjL size e hb.1 (by omega) (by omega) (by omega)) rfl) ?_|refine kU ?_|refine kV ?_ ?_<;>intro q|fail
 ·simp at q;exact absurd q h0
 ·refine Qb (hx:=?_)
  rw[hd.out,hR];simp[h0]
structure Qj where
 kind:Int
 links:Int
 size:Int
 tree:Pl.Tree
 deriving DecidableEq
abbrev rNode(n:Qj):List D:=[dI n.kind,dI n.links,dI n.size,dI n.tree.root.pat,dI n.tree.root.birth,dI n.tree.root.size,dI n.tree.root.sum,dI n.tree.root.level,dI n.tree.depth,dI n.tree.many]
abbrev dNode(n:Qj):D:= .agg (rNode n)
def Qbk(n:Int):Int:=if n<=1 then 0 else if n<=4 then 1 else 2
def Q8(n:Qj):Bool:=decide (0<=Qac n.kind n.size)&&(n.tree.many==Qac n.kind n.size)&&(n.tree.depth==Qbk (Qac n.kind n.size))&&Pl.ptrOk n.tree.root&&
 Pl.inR n.links 1 (if n.kind=2 then 1 else 9)&&(Pl.ptrHole n.tree.root||(n.tree.root.level==n.tree.depth))
theorem aNodeOk(n:Qj):Pure A3 134 [dNode n] (dB (Q8 n)):=by
 have hd:AM (Q8 n=(decide (0<=Qac n.kind n.size)&&(n.tree.many==Qac n.kind n.size)&&(n.tree.depth==Qbk (Qac n.kind n.size))&&Pl.ptrOk n.tree.root&&
  Pl.inR n.links 1 (if n.kind=2 then 1 else 9)&&(Pl.ptrHole n.tree.root||(n.tree.root.level==n.tree.depth)))):=Pm.hid rfl
 have c1:=Qne n.kind n.size;generalize Qac n.kind n.size=pc at*;have c2:Pure A3 163 [dI pc] (dI (Qbk pc)):=QkG pc;generalize Qbk pc=dp at*;have c3:=aPtrOk n.tree.root;have c4:=Qdk n.tree.root;generalize Pl.ptrOk n.tree.root=ok at*;generalize Pl.ptrHole n.tree.root=ho at*;refine kE ?_;refine Qa 0 (h:=?_)
 repeat' first|refine kS ?_|refine qS (Qdh cK (al6In _ _ _) rfl) ?_|refine kU ?_|refine kV ?_ ?_<;>intro q|fail
 all_goals
  refine Qb (hx:=?_);refine congrArg dB ?_;rw[hd.out];clear c1 c2 c3 c4 hd
  simp_all
 intros
 omega
attribute [local irreducible] AStep Fg.PlanF Fg.Flts
def al6Dec(k:Nat)(h:k<=4294967296):Pure A3 168 [dI k] (dS (Pl.dec k)):=by
 induction k using Nat.strongRecOn with
 |_ k ih=>
 by_cases h10:k<10
 ·have hd:=Pm.hid (Pl.Qes h10)
  have hc:AN.wrap (48+(k:Int))=((Pl.dch k).toNat:Int):=by rw[Pl.Qfj h10,Pm.wrap_u8 _ (by omega) (by omega)];omega
  clear ih;generalize Pl.dch k=c at*;refine kB ?_
  repeat' first|refine kS ?_|refine qS (QdJ (D1:= .int .i64) (k':= .u8) (m:=(c.toNat:Int)) (by kernel_rfl) (by kernel_rfl) rfl rfl hc) ?_|refine qS (QhN (l:=[c]) A9 AC AD rfl rfl rfl) ?_|refine kU ?_|refine kV ?_ ?_<;>intro q|fail
  all_goals first|exact Qb (hx:=by rw[hd.out])|exfalso;simp at*;omega
 ·have hd:=Pm.hid (Pl.Qg0 h10)
  have hc:AN.wrap (48+(k:Int)%10)=((Pl.dch (k%10)).toNat:Int):=by rw[Pl.Qfj (by omega),Pm.wrap_u8 _ (by omega) (by omega)];omega
  have c:=ih (k/10) (by omega) (by omega);rw[show((k/10:Nat):Int)=(k:Int)/10 from by omega] at c;have hl:=Pl.QcU 9 (k/10) (by omega);clear ih;generalize Pl.dch (k%10)=c8 at*;generalize Pl.dec (k/10)=D at*;refine kB ?_
  repeat' first|refine kS ?_|refine qD (Qgt rfl rfl (by omega) (by omega)) ?_|refine qD (Qgs rfl rfl (by omega) (by omega)) ?_|refine qD (QdJ (D1:= .int .i64) (k':= .u8) (m:=(c8.toNat:Int)) (by kernel_rfl) (by kernel_rfl) rfl rfl hc) ?_|refine qD (QhN (l:=[c8]) A9 AC AD rfl rfl rfl) ?_|refine qD (QcX (m:=[c8]) rfl rfl (by simp only[A4,A5];omega)) ?_|refine kU ?_|refine kV ?_ ?_<;>intro q|fail
  all_goals first|exact Qb (hx:=by rw[hd.out])|exfalso;simp at*;omega
def aPtrPut(p:Pl.Ptr):Pure A3 169 [dPtr p] (dS (Pl.ptrPut p)):=by
 have c1:=aPtrOk p;have c2:=Qdk p;have hd:AM (Pl.ptrPut p=if Pl.ptrOk p then(if Pl.ptrHole p then [45] else Pl.ptrText p) else []):=Pm.hid rfl;cases h1:Pl.ptrOk p
 ·rw[h1] at c1 hd
  obtain⟨x1,x2,x3,x4,x5⟩:=p;refine kE ?_;refine Qa 0 (h:=?_)
  repeat refine kA ?_
  exact Qb (hx:=by rw[hd.out];rfl)
 cases h2:Pl.ptrHole p;rotate_left
 ·rw[h1] at c1 hd
  rw[h2] at c2 hd;obtain⟨x1,x2,x3,x4,x5⟩:=p;refine kE ?_;refine Qa 0 (h:=?_)
  repeat refine kA ?_
  exact Qb (hx:=by rw[hd.out];rfl)
 have hb:=Pl.Qdx h1;rw[h1] at c1 hd;rw[h2] at c2 hd;obtain⟨x1,x2,x3,x4,x5⟩:=p;simp only at hb;obtain⟨⟨a1,b1⟩,⟨a2,b2⟩,⟨a3,b3⟩,⟨a4,b4⟩,⟨a5,b5⟩⟩:=hb;obtain⟨k1,rfl⟩:=A1 a1;obtain⟨k2,rfl⟩:=A1 a2;obtain⟨k3,rfl⟩:=A1 a3;obtain⟨k4,rfl⟩:=A1 a4;obtain⟨k5,rfl⟩:=A1 a5;have e: ∀k:Nat,k<=99460728->Pure A3 168 [dI k] (dS (Pl.dec k))/\(Pl.dec k).length<=10:=fun k h=>⟨al6Dec k (by omega),Pl.QcU 9 k (by omega)⟩
 obtain⟨d1,l1⟩:=e k1 (by omega);obtain⟨d2,l2⟩:=e k2 (by omega);obtain⟨d3,l3⟩:=e k3 (by omega);obtain⟨d4,l4⟩:=e k4 (by omega);obtain⟨d5,l5⟩:=e k5 (by omega);unfold Pl.ptrText at hd;simp only[Int.toNat_natCast] at hd;generalize Pl.dec k1=t1 at*;generalize Pl.dec k2=t2 at*;generalize Pl.dec k3=t3 at*;generalize Pl.dec k4=t4 at*;generalize Pl.dec k5=t5 at*;clear e;refine kE ?_;refine Qa 0 (h:=?_)
 repeat' first|refine kS ?_|refine qD (QcX (m:=[46]) rfl rfl (by simp only[A4,A5];omega)) ?_|refine qD (QcX rfl rfl (by simp only[A8,A4,A5];omega)) ?_|refine kU ?_|fail
 all_goals first|exact Qb (hx:=by rw[hd.out];simp[Pl.dots])
theorem QjQ(l:List (List UInt8))(h1:l.length<=Pm.big)(_h2: ∀s∈l,s.length<=Pm.big):Pure A3 167 [dStrs l] (.tup [dS ((Pl.Qdb l).getD []),dB (Pl.Qdb l).isSome]):=by
 simp only[Pm.big] at h1
 by_cases h60:l.length<=60
 rotate_left
 ·rw[Pl.Qgj (by omega)]
  refine kB ?_
  repeat refine kA ?_
  refine Qo (fun m st=>st=⟨44,[(4,.d (dS [])),(5,.d (dI (0:Nat))),(0,.d (dStrs l))],[]⟩) [4,5,0] 0 0 (by simp[keepE,go_sem]) (round:=?_);rintro m st rfl
  repeat' first|refine kA ?_|refine kV ?_ ?_<;>intro q|fail
  all_goals
   simp only[decide_eq_true_eq,decide_eq_false_iff_not] at*
  all_goals first|exfalso;omega|refine Qb (hx:=?_);rw[decide_eq_false (p:=((l.length:Int)<=60)) (by omega)];rfl
 have hok:=Pm.hid (Pl.QhE (l:=l) h60);have hlo:=Pm.hid fun k=>Pl.QeQ (l:=l) (k:=k)
 have hwi:=Pm.hid fun k=>Pl.Qjf (l:=l) (k:=k)
 generalize Pl.Qdb l=r at*;refine kB ?_
 repeat refine kA ?_
 refine Qo (fun m st=> ∃(k:Nat) (out:List UInt8),k<=l.length/\m=l.length -k/\out.length<=2048/\AM (out=Pl.enc (l.take k))/\st=⟨44,[(4,.d (dS out)),(5,.d (dI k)),(0,.d (dStrs l))],[]⟩) [4,5,0] 0 l.length ⟨0,[],by omega,rfl,by simp,Pm.hid rfl,by simp[keepE,go_sem]⟩ (round:=?_);rintro m st ⟨k,out,hk,rfl,hol,hO,rfl⟩
 by_cases hkl:k<l.length
 rotate_left
 ·have hkk:k=l.length:=by omega
  rw[hkk,AE] at hO;have hf:=hok.out (by rw[<-hO.out];omega);rw[<-hO.out] at hf;clear hok hlo hwi hO;subst hf
  repeat' first|refine kA ?_|refine kV ?_ ?_<;>intro q|fail
  all_goals
   simp only[decide_eq_true_eq,decide_eq_false_iff_not] at*
  all_goals first|exfalso;omega|refine Qb (hx:=?_);rw[decide_eq_true (p:=((l.length:Int)<=60)) (by omega)];rfl
 obtain⟨x,hx⟩: ∃x,l[k]? =some x:=⟨_,A0 hkl⟩;have hxl:l[k]=x:=(List.getElem?_eq_some_iff.1 hx).2;have hr:=Qt (f:=fun s=>[dS s]) hx;have hw:=Pm.hid (hwi.out k hkl);rw[hxl] at hw;have het:=Pl.Qkx l k hkl;rw[hxl,<-hO.out] at het;have hE:=Pm.hid het;have hL:=Pm.hid (hlo.out (k+1));rw[het] at hL;clear hok hlo hwi hO hx hxl het
 by_cases h2:x.length<=2048
 rotate_left
 ·rw[hw.out (by omega)]
  repeat' first|refine kS ?_|refine qD (iy hr) ?_|refine qS (iy hr) ?_|refine kU ?_|refine kV ?_ ?_<;>intro q|fail
  all_goals
   simp only[decide_eq_true_eq,decide_eq_false_iff_not] at*
  all_goals first|exfalso;omega|exact Qb (hx:=rfl)
 have c:=al6Dec x.length (by omega);have hdl:=Pl.QcU 9 x.length (by omega);unfold Pl.item at hE hL;generalize Pl.dec x.length=d at*
 repeat' first|refine kS ?_|refine qD (iy hr) ?_|refine qS (iy hr) ?_|refine qD (QcX (m:=[58]) rfl rfl (by first|omega|(simp only[A4,A5];omega))) ?_|refine qD (QcX rfl rfl (by first|omega|(simp only[A8,A4,A5];omega))) ?_|refine kU ?_|refine kV ?_ ?_<;>intro q|fail
 all_goals
  simp only[decide_eq_true_eq,decide_eq_false_iff_not] at*
 all_goals first
  |(exfalso;omega)
  |(refine Qb (hx:=?_)
    rw[hL.out (by simp at*;omega)]
    rfl)
  |(refine Qh (l.length -(k+1)) (by omega) ⟨k+1,out++d++[58]++x,by omega,rfl,by simp at*;omega,Pm.hid (by rw[hE.out];simp),?_⟩
    simp[keepE,go_sem];done)
def Qap(b:UInt8)(l:List (List UInt8)):List UInt8:=(l.intersperse [b]).flatten
theorem QqD(b:UInt8)(s:List UInt8):Qap b (Pl.cutB b s)=s:=Pl.QgV b s
theorem QqC(b:UInt8)(l:List (List UInt8)):Lib.join ((l.map Pl.ba).map (·.data.toList)) (Pl.ba [b]).data.toList=Qap b l:=by
 have e:(l.map Pl.ba).map (·.data.toList)=l:=by
  rw[AL]
  conv=>rhs;rw[<-List.map_id l]
  grind [List.map_congr_left,Pl.Qg3]
 grind [Pl.Qg3,Lib.join,Qap,List.intercalate]
theorem bSplit(s:List UInt8)(b:UInt8)(hs:s.length<=4294967280):Pure A3 141 [dS s,dS [b]] (tStrs (Pl.cutB b s)):=by
 intro B σ S H w cargs hB hS hl hr;have hc:=Qfk (l:=[dS s,dS [b]]) (vs:=[.string ⟨s.toArray⟩,.string ⟨#[b]⟩]) rfl hl hr;subst hc;obtain⟨m,hm⟩:=(hB.ltOf hS).maxl;have h:=Pl.QkV b s.length s (AI _);refine(Tryz.strings_Split (Pl.ba s) (Pl.ba [b]) m w (by rw[Pl.Qhw];omega) hm (by rw[Pl.Qhw];simp)).mono fun e w' ⟨he,hw⟩=>?_
 rw[h.1,AL] at hw;rw[h.2] at he;subst hw;refine⟨_,he,Pm.bnew _ _,?_⟩;have hR:=Pm.Row.new w ((Pl.cutB b s).map (Value.string ∘ Pl.ba)).toArray 9;have hlen:(Pl.cutB b s).length=((Pl.cutB b s).map fun s=>[dS s]).length:=by simp
 rw[hlen];refine .sl true 1 _ w.heap.size 0 _ (fun i _=> .string ⟨((Pl.cutB b s).getD i []).toArray⟩) (.inr ⟨AI _,by simp⟩) (fun r hr=>?_) (fun _=>AI _) (fun i j r d hi hj=>?_) fun i j r d hi hj=>?_
 ·grind
 all_goals
  rw[AA] at hi;cases hx:(Pl.cutB b s)[i]? with
  |none=>grind
  |some x=>
   rw[hx] at hi;obtain rfl:=AJ hi;have hj0:j=0:=by grind
   subst hj0;have hgd:(Pl.cutB b s).getD i []=x:=by grind
   rw[hgd]
   first|(have:=hR.get i (v:= .string ⟨x.toArray⟩) (by simp[hx,Pl.ba]);simpa using this;done)|simp at hj;subst hj;exact .v _
theorem Qox{S:Nat->Prop}{w:World}{l:List (List UInt8)}{v:Value}{d:D}(h:RelD S w d v)(hd:d= .sl true 1 (l.map fun s=>[dS s])):
 (l=[]/\ ∃a cap,v= .slice a 0 cap)∨ ∃bk o cap,v= .slice (some ⟨bk,o,none⟩) l.length cap/\l.length<=cap/\S bk/\ ∀(j:Nat) x,l[j]? =some x->w.cell? ⟨bk,o+j,none⟩=some (.string ⟨x.toArray⟩):=by
 cases h<;>try (simp at hd;done)
 ·simp_all
 ·rename_i c' n l' b o cap g hb hn hcap hc hr
  simp only[D.sl.injEq] at hd;obtain⟨rfl,rfl,rfl⟩:=hd;have hc':=hcap rfl;refine .inr ⟨b,o,cap,by simp,by grind,hb,fun j x hx=>?_⟩;have hi:(l.map fun s=>[dS s])[j]? =some [dS x]:=by grind
  have h1:=hc j 0 _ _ hi rfl;have h2:=hr j 0 _ _ hi rfl;rw[Nat.mul_one,Nat.add_zero] at h1;rw[h1];generalize g j 0=y at h2;cases h2;rfl
theorem bJoin(l:List (List UInt8))(b:UInt8)(hn:l.length<=140737488355328)(hlen:(Qap b l).length<=140737488355328):Pure A3 111 [tStrs l,dS [b]] (dS (Qap b l)):=by
 intro B σ S H w cargs hB hS hl hr
 match cargs,hl with
 |[v,u],_=>
  have h1:=hr 0 _ v rfl rfl;have h2:=hr 1 _ u rfl rfl;obtain rfl:u= .string ⟨#[b]⟩:=by cases h2;rfl
  rcases Qox h1 rfl with⟨rfl,a,cap,rfl⟩|⟨bk,o,cap,rfl,hcap,hb,hc⟩
  ·refine(Tryz.strings_Join_none a cap (Pl.ba [b]) w).mono fun e w' ⟨he,hw⟩=>⟨_,he,hw▸Below.refl _ _,.v _⟩
  ·have k:=Tryz.strings_Join bk o cap (l.map Pl.ba) (Pl.ba [b]) w (fun j x hx=>by
    rw[AA] at hx;cases hy:l[j]? with
    |none=>grind
    |some y=>rw[hy] at hx;obtain rfl:=AJ hx;exact hc j y hy) (hS.sUp bk hb).1 (by grind) (by grind) (by grind [QqC])
   rw[QqC,AK] at k;exact k.mono fun e w' ⟨he,hw⟩=>⟨_,he,hw,.v _⟩
theorem Qi2(b:UInt8)(l:List (List UInt8))(m:Nat)(h: ∀x∈l,x.length<=m):(Qap b l).length<=l.length*(m+1):=by
 induction l with
 |nil=>simp[Qap]
 |cons a l ih=>
  have h1:=h a List.mem_cons_self;have ih:=ih fun x hx=>h x (A7 _ hx)
  cases l with
  |nil=>simp[Qap];omega
  |cons c l=>
   grind [Qap,AF,Nat.succ_mul]
def QX(l:List Pl.Ptr):List UInt8×Bool:=if l.length=4/\l.any (fun p=> !Pl.ptrHole p)=true/\l.all Pl.ptrOk=true then(Qap 44 (l.map Pl.ptrPut),true) else([],false)
def QfE(p:Pl.Ptr):(Pl.ptrPut p).length<=100:=by
 unfold Pl.ptrPut;split
 ·split
  ·decide
  ·unfold Pl.ptrText Pl.dots
   rename_i h _;have hb:=Pl.Qdx h;have h1:=Pl.QcU 8 p.pat.toNat (by omega);have h2:=Pl.QcU 8 p.birth.toNat (by omega);have h3:=Pl.QcU 8 p.size.toNat (by omega);have h4:=Pl.QcU 8 p.sum.toNat (by omega);have h5:=Pl.QcU 8 p.level.toNat (by omega);simp[AF];omega
 ·decide
theorem bFanPut(l:List Pl.Ptr)(hl:l.length<=1000):Pure A3 248 [dPtrs l] (.tup [dS (QX l).1,dB (QX l).2]):=by
 have c1:=Qk5 l (by omega) 293 (fun p=> !Pl.ptrHole p) Tryz.call293 fun p _=>Qt3 p
 have hd:=Pm.hid (QX.eq_def l)
 by_cases h0:l.length=4/\l.any (fun p=> !Pl.ptrHole p)=true
 rotate_left
 ·have hx:AM (QX l=([],false)):=Pm.hid (by rw[hd.out,if_neg (fun h=>h0 ⟨h.1,h.2.1⟩)])
  clear hd;generalize l.any (fun p=> !Pl.ptrHole p)=any at*;refine kB ?_
  repeat' first|refine kS ?_|refine qS (Qeq cK c1 rfl rfl) ?_|refine kU ?_|refine kV ?_ ?_<;>intro q|fail
  all_goals first|refine Qb (hx:=?_);rw[hx.out];done|skip;rw[hx.out];rfl;done|exfalso;apply h0;simp only[bne_eq_false_iff_eq] at*;refine⟨by omega,?_⟩;simp_all;done
 obtain⟨h4,hany⟩:=h0;rw[hany] at c1
 have hd2:AM (QX l=if l.all Pl.ptrOk=true then(Qap 44 (l.map Pl.ptrPut),true) else([],false)):=Pm.hid (by
  rw[hd.out]
  by_cases h:l.all Pl.ptrOk=true
  ·rw[if_pos ⟨h4,hany,h⟩,if_pos h]
  ·rw[if_neg (fun x=>h x.2.2),if_neg h])
 have cj:=bJoin (l.map Pl.ptrPut) 44 (by simp;omega) (by
  have:=Qi2 44 (l.map Pl.ptrPut) 100 (fun x hx=>by obtain⟨p,_,rfl⟩:=List.mem_map.1 hx;exact QfE p)
  rw[AK] at this;omega)
 clear hd hany;refine kB ?_
 repeat' first|refine kS ?_|refine qS (Qeq cK c1 rfl rfl) ?_|refine kU ?_|refine kV ?_ ?_<;>intro q|fail
 ·exfalso;simp only[bne_iff_ne] at*;omega
 refine QeR 4 1 9 (h:=?_)
 refine Qo (fun m st=> ∃(k g:Nat) (out:List (List UInt8)),k<=l.length/\m=l.length -k/\out.length=k/\AM (out=(l.take k).map Pl.ptrPut)/\AM ((l.take k).all Pl.ptrOk=true)/\
  st=⟨32,[(17,.d (dI k)),(16,.d (dI l.length)),(15,.d (dPtrs l)),(4,.osl 0 g 0 out.length)],[.arr g 1 9 (out.map fun s=>[dS s])]⟩) [17,16,15,4] 1 l.length ⟨0,0,[],by omega,rfl,rfl,Pm.hid rfl,Pm.hid rfl,rfl⟩ (round:=?_)
 rintro m st ⟨k,g,out,hk,rfl,hlen,hO,hA,rfl⟩
 repeat refine kG ?_
 cases q3:decide ((k:Int)<(l.length:Int))
 ·have hk3:k=l.length:=by simp at q3;omega
  rw[hk3,AE] at hO hA;rw[hA.out,if_pos rfl] at hd2;have ho:=hO.out;rw[<-ho] at cj hd2;clear hO hA ho
  repeat refine kG ?_
  refine Qeo 0 (h:=?_)
  repeat refine kA ?_
  refine Qb (hx:=?_);rw[hd2.out]
 have hk2:k<l.length:=by simp at q3;omega
 obtain⟨x,hx⟩: ∃x,l[k]? =some x:=⟨_,A0 hk2⟩;have hr:=Qt (f:=rPtr) hx;have T1:AM ((l.take (k+1)).map Pl.ptrPut=out++[Pl.ptrPut x]):=Pm.hid (by rw[AB,hx,hO.out];simp);have T2:AM (Pl.ptrOk x=true->(l.take (k+1)).all Pl.ptrOk=true):=Pm.hid fun h=>by rw[AB,hx,List.all_append,hA.out];simpa using h
 have F:AM (Pl.ptrOk x=false->QX l=([],false)):=Pm.hid fun h=>by
  rw[hd2.out,if_neg];intro h2;have:=AG.1 h2 x (List.mem_of_getElem? hx);rw[h] at this;cases this
 have c2:=bPtrOk x;have c3:=bPtrPut x;clear hx hO hA hd2 cj c1;generalize Pl.ptrOk x=ok at*;generalize Pl.ptrPut x=t at*;obtain⟨p1,p2,p3,p4,p5⟩:=x
 repeat' first|refine kS ?_|refine qS (iy hr) ?_|refine QV Ty.h rfl Ty.h (hb:=?_) (kk:=?_)|refine kU ?_|refine kV ?_ ?_<;>intro q|fail
 all_goals first|simp;omega|refine Qh (l.length -(k+1)) (by omega) ⟨k+1,g+1,out++[t],by omega,rfl,by simp[hlen],Pm.hid T1.out.symm,Pm.hid (T2.out (by simpa using q)),?_⟩;simp[keepE,go_sem];done|refine Qb (hx:=?_);rw[F.out (by simpa using q)]|skip;rw[F.out (by simpa using q)];rfl
def Qb2(s:List UInt8):List (List UInt8)×Bool:=open Classical in if h: ∃l,Pl.IsRec s l then(A6 h,true) else([],false)
def rg_is{s:List UInt8}{l:List (List UInt8)}(h:Pl.IsRec s l):Qb2 s=(l,true):=by
 unfold Qb2;have hx: ∃p,Pl.IsRec s p:=⟨l,h⟩;rw[dif_pos hx,Pl.QhA (Classical.choose_spec hx) h]
theorem Qii{s:List UInt8}(h: ∀l,¬Pl.IsRec s l):Qb2 s=([],false):=by
 unfold Qb2
 grind
def Qd:Qj:=⟨0,0,0,⟨Pl.hole,0,0⟩⟩
theorem Qqe(kind size:Int):Qac kind size<=16:=by grind [Qac,QaV,Pl.inR]
structure NodeB(n:Qj):Prop where
 kind:n.kind=1∨n.kind=2
 links:1<=n.links/\n.links<=9
 size:0<=n.size/\n.size<=2048
 ptr:Pl.ptrOk n.tree.root=true
 depth:0<=n.tree.depth/\n.tree.depth<=2
 many:0<=n.tree.many/\n.tree.many<=16
 one:n.kind=2->n.links=1
theorem QdZ{n:Qj}(h:Q8 n=true):NodeB n:=by
 unfold Q8 at h;simp only[AH,beq_iff_eq,decide_eq_true_eq] at h;obtain⟨⟨⟨⟨⟨h1,h2⟩,h3⟩,h4⟩,h5⟩,h6⟩:=h;have hp:=Qqe n.kind n.size
 have hk:n.kind=1∨n.kind=2:=by
  grind [QaV,Qac]
 have hs:0<=n.size/\n.size<=2048:=by
  grind [QaV,Qac,Pl.inR]
 have hd:0<=n.tree.depth/\n.tree.depth<=2:=by grind [Qbk]
 have hl:1<=n.links/\n.links<=(if n.kind=2 then 1 else 9):=by grind [Pl.inR]
 refine⟨hk,?_,hs,h4,hd,by omega,fun e=>?_⟩
 ·omega
 omega
def Qag(n:Qj):List (List UInt8):=[Pl.dec n.kind.toNat,Pl.dec n.links.toNat,Pl.dec n.size.toNat,Pl.ptrPut n.tree.root,Pl.dec n.tree.depth.toNat,Pl.dec n.tree.many.toNat,[101,110,100]]
def Q6(n:Qj):List UInt8:=if Q8 n then Pl.fp (Qag n) else []
def Qbj(s:List UInt8)(n:Qj):Prop:=Q8 n=true/\Pl.IsRec s (Qag n)
theorem QoK{s:List UInt8}{n:Qj}(hs:s≠[]):Qbj s n↔Q6 n=s:=by
 constructor
 ·rintro⟨h1,h2⟩
  unfold Q6 Pl.fp;rw[if_pos h1,Pl.Qgi.2 h2];rfl
 ·intro h
  unfold Q6 at h;split at h
  ·rename_i h1;exact⟨h1,Pl.fp_some h hs⟩
  grind
def Qp(s:List UInt8):Qj×Bool:=open Classical in if h: ∃n,Qbj s n then(A6 h,true) else(Qd,false)
def QaX(a b c d e f:List UInt8):Qj:=⟨((Pl.numGet a).getD 0:Nat),((Pl.numGet b).getD 0:Nat),((Pl.numGet c).getD 0:Nat),⟨(QB d).1,((Pl.numGet e).getD 0:Nat),((Pl.numGet f).getD 0:Nat)⟩⟩
def Qe9{s d e g:List UInt8}{n:Qj}(hr:Pl.IsRec s [a,b,c,d,e,f,g])(h:Qbj s n):
 Pl.numGet a=some n.kind.toNat/\Pl.numGet b=some n.links.toNat/\Pl.numGet c=some n.size.toNat/\QB d=(n.tree.root,true)/\Pl.numGet e=some n.tree.depth.toNat/\Pl.numGet f=some n.tree.many.toNat:=by
 have hb:=QdZ h.1;have he:=Pl.QhA hr h.2;simp only[Qag,List.cons.injEq] at he;obtain⟨rfl,rfl,rfl,rfl,rfl,rfl,_⟩:=he;have h1:=hb.kind;have h2:=hb.links;have h3:=hb.size;have h4:=hb.depth;have h5:=hb.many;exact⟨Pl.Qdw (by omega),Pl.Qdw (by omega),Pl.Qdw (by omega),pg_is ⟨hb.ptr,rfl⟩,Pl.Qdw (by omega),Pl.Qdw (by omega)⟩
theorem Qin{s d e g:List UInt8}{n:Qj}(hr:Pl.IsRec s [a,b,c,d,e,f,g])(h:Qbj s n):n=QaX a b c d e f:=by
 have hb:=QdZ h.1;have h1:=hb.kind;have h2:=hb.links;have h3:=hb.size;have h4:=hb.depth;have h5:=hb.many;obtain⟨q1,q2,q3,q4,q5,q6⟩:=Qe9 hr h;unfold QaX;rw[q1,q2,q3,q4,q5,q6];obtain⟨kind,links,size,root,depth,many⟩:=n
 grind
theorem Qkk{s:List UInt8}{m n:Qj}(hm:Qbj s m)(hn:Qbj s n):m=n:=
 (Qin hm.2 hm).trans (Qin hm.2 hn).symm
theorem ng_is{s:List UInt8}{n:Qj}(h:Qbj s n):Qp s=(n,true):=by
 unfold Qp;have hx: ∃p,Qbj s p:=⟨n,h⟩
 grind [Qkk]
theorem Qlo{s:List UInt8}(h: ∀p,¬Qbj s p):Qp s=(Qd,false):=by
 grind [Qp]
theorem QfV(s:List UInt8):Qbj s (Qp s).1/\(Qp s).2=true∨Qp s=(Qd,false):=by
 unfold Qp;split
 ·grind
 grind
theorem QpU{s:List UInt8}{l:List (List UInt8)}(h:Pl.IsRec s (x::l)):s≠[]:=by
 rintro rfl;have:=h.2.2;rw[Pl.QeO] at this;exact Pl.Qfz x (List.append_eq_nil_iff.1 this).1
theorem QtS{s d e g:List UInt8}(hr:Pl.IsRec s [a,b,c,d,e,f,g]):Qp s=if Q6 (QaX a b c d e f)=s then(QaX a b c d e f,true) else(Qd,false):=by grind [QpU,ng_is,QoK,Qlo,Qin]
def QhM{s:List UInt8}(h:(Qb2 s).2=false∨(Qb2 s).1.length≠7):Qp s=(Qd,false):=by
 refine Qlo fun p hp=>?_
 rw[rg_is hp.2] at h;rcases h with h|h
 ·cases h
 ·exact h rfl
theorem Qnq(s:List UInt8):Pl.IsRec s (Qb2 s).1/\(Qb2 s).2=true∨Qb2 s=([],false):=by
 unfold Qb2;split
 ·grind
 grind
theorem Qio(s:List UInt8):NodeB (Qp s).1∨(Qp s).1=Qd:=by
 rcases QfV s with h|h
 ·exact .inl (QdZ h.1.1)
 grind
def QaP(s:List UInt8):List UInt8:=(s.reverse.dropWhile (· ==0)).reverse
def QnV:QaP []=[]:=rfl
theorem QiK(s:List UInt8)(c:UInt8):QaP (s++[c])=if c==0 then QaP s else s++[c]:=by grind [QaP,List.dropWhile_cons]
theorem Qr6(s:List UInt8):QaP s=s↔s.getLast? ≠some 0:=by
 rcases List.eq_nil_or_concat s with rfl|⟨l,c,rfl⟩
 ·simp[QnV]
 ·rw[List.concat_eq_append,QiK]
  grind [QaP,List.dropWhile_sublist]
abbrev Qq:=List UInt8×Int
abbrev rEnt(e:Qq):List D:=[dS e.1,dI e.2]
def QF(s:List UInt8):Bool:=s.all (fun c=>decide (97<=c.toNat)&&decide (c.toNat<=122))&&decide (1<=s.length)&&decide (s.length<=4)
def QaD(l:List Qq)(i:Nat):Bool:=QF (l.getD i ([],0)).1&&Pl.inR (l.getD i ([],0)).2 1 15&&(decide (i=0)||Op.bytesLess (l.getD (i -1) ([],0)).1 (l.getD i ([],0)).1)
def Qab(l:List Qq):Bool:=(List.range l.length).all (QaD l)&&decide (l.length<=12)
def Qas(e:Qq):List UInt8:=e.1++61::Pl.dec e.2.toNat
def QG(l:List Qq):List UInt8:=l.flatMap fun e=>Qas e++[59]
def Qb8(s:List UInt8)(l:List Qq):Prop:=Qab l=true/\QG l=s
def QbP(s:List UInt8):List Qq×Bool:=open Classical in if h: ∃l,Qb8 s l then(A6 h,true) else([],false)
def QaA(x:List UInt8):Option Qq:=match Pl.cutB 61 x with
 |[a,b]=>some (a,((Pl.numGet b).getD 0:Nat))
 |_=>none
theorem ent_b{l:List Qq}(h:Qab l=true): ∀e∈l,QF e.1=true/\1<=e.2/\e.2<=15:=by
 intro e he;unfold Qab at h;rw[AH,AG] at h;obtain⟨i,hi,rfl⟩:=List.getElem_of_mem he
 simp_all[QaD,Pl.inR]
theorem QfW{s:List UInt8}{c:UInt8}(h:QF s=true)(hc:c.toNat<97):c∉s:=by grind [QF]
theorem QgU(n:Nat){c:UInt8}(hc:57<c.toNat):c∉Pl.dec n:=by grind [Pl.Qg1,Pl.QeE]
theorem QmN{e:Qq}(h1:QF e.1=true)(h2:1<=e.2/\e.2<=15):QaA (Qas e)=some e:=by grind [QaA,Qas,Pl.Qeb,QfW,Pl.Qe1,QgU,Pl.Qdw]
theorem QhQ: ∀{l:List Qq},(∀e∈l,QF e.1=true/\1<=e.2/\e.2<=15)->Pl.cutB 59 (QG l)=l.map Qas++[[]]
 |[],_=>rfl
 |e::l,h=>by
  have h1:QG (e::l)=Qas e++59::QG l:=by simp[QG]
  have hn:(59:UInt8)∉Qas e:=by
   grind [Qas,QfW,QgU]
  rw[h1,Pl.Qeb 59 _ _ hn,QhQ fun x hx=>h x (A7 _ hx)];rfl
theorem Qgx{s:List UInt8}{l:List Qq}(h:Qb8 s l):(Pl.cutB 59 s).length=l.length+1/\ ∀(i:Nat) e,l[i]? =some e-> ∃x,(Pl.cutB 59 s)[i]? =some x/\QaA x=some e:=by
 have hb:=ent_b h.1;rw[<-h.2,QhQ hb];refine⟨by simp,fun i e he=>⟨Qas e,?_,?_⟩⟩
 ·grind
 grind [QmN]
variable{m:List Qq}
theorem Qi4{s:List UInt8}{l:List Qq}(h:Qb8 s l)(hm:m.length+1=(Pl.cutB 59 s).length)(hr: ∀(i:Nat) e,m[i]? =some e-> ∃x,(Pl.cutB 59 s)[i]? =some x/\QaA x=some e):m=l:=by
 obtain⟨h1,h2⟩:=Qgx h;refine List.ext_getElem (by omega) fun i hi hi'=>?_
 obtain⟨x,hx,hx2⟩:=hr i _ (A0 hi);obtain⟨y,hy,hy2⟩:=h2 i _ (A0 hi')
 grind
theorem Qkl{s:List UInt8}{l:List Qq}(h:Qb8 s l)(hm:Qb8 s m):m=l:=by
 obtain⟨h1,h2⟩:=Qgx hm;exact Qi4 h (by omega) h2
theorem eg_is{s:List UInt8}{l:List Qq}(h:Qb8 s l):QbP s=(l,true):=by
 unfold QbP;have hx: ∃p,Qb8 s p:=⟨l,h⟩
 grind [Qkl]
theorem QnM{s:List UInt8}(h: ∀p,¬Qb8 s p):QbP s=([],false):=by
 grind [QbP]
theorem QnN(s:List UInt8):Qb8 s (QbP s).1/\(QbP s).2=true∨QbP s=([],false):=by
 unfold QbP;split
 ·grind
 grind
def Qrp{s:List UInt8}(hm:m.length+1=(Pl.cutB 59 s).length)(hr: ∀(i:Nat) e,m[i]? =some e-> ∃x,(Pl.cutB 59 s)[i]? =some x/\QaA x=some e):
 QbP s=if Qab m=true/\QG m=s then(m,true) else([],false):=by
 split
 ·rename_i h;exact eg_is h
 ·rename_i h
  refine QnM fun p hp=>h ?_
  rw[Qi4 hp hm hr];exact hp
theorem eg_bad{s:List UInt8}{k:Nat}(hk:k+1<(Pl.cutB 59 s).length)(hx:(Pl.cutB 59 s)[k]? =some x)(h:QaA x=none):QbP s=([],false):=by
 refine QnM fun p hp=>?_
 obtain⟨h1,h2⟩:=Qgx hp;obtain⟨y,hy,hy2⟩:=h2 k _ (A0 (show k<p.length by omega))
 grind
theorem Qpx(s:List UInt8)(hs:s.length<=Pm.big):Pure A3 131 [dS s] (.tup [tStrs (Qb2 s).1,dB (Qb2 s).2]):=by
 simp only[Pm.big] at hs;refine kB ?_
 repeat refine kA ?_
 refine Qo (fun m st=> ∃(k g:Nat) (out:List (List UInt8)),k<=s.length/\m=s.length -k/\AM (s=Pl.enc out++s.drop k)/\AM (∀x∈out,x.length<=2048)/\out.length<=k/\
  st=⟨92,[(4,.osl 0 g 0 out.length),(5,.d (dI k)),(0,.d (dS s))],[.arr g 1 9 (out.map fun s=>[dS s])]⟩) [4,5,0] 1 s.length ⟨0,0,[],by omega,rfl,Pm.hid rfl,Pm.hid (by simp),by simp,rfl⟩ (round:=?_)
 rintro m st ⟨k,g,out,hk,rfl,hO,hX,hlen,rfl⟩
 by_cases h20:s.length<=2048/\k<s.length
 rotate_left
 ·have hA: ∀x∈out,x.length<=Pm.big:=fun x hx=>by have:=hX.out x hx;unfold Pm.big;omega
  have c:=(QjQ out (by unfold Pm.big;omega) hA).arg (l:=[tStrs out])
  have hr:AM (Qb2 s=if(Pl.Qdb out).isSome=true/\(Pl.Qdb out).getD []=s then(out,true) else([],false)):=by
   refine Pm.hid ?_;split
   ·rename_i h
    obtain⟨t,ht⟩:=Option.isSome_iff_exists.1 h.1;rw[ht] at h;exact rg_is (by rw[<-Pl.Qgi,ht];exact congrArg some h.2)
   ·rename_i h
    refine Qii fun l hl=>h ?_
    have hk2:k=s.length:=by have:=hl.2.1;omega
    have ho:=hO.out;rw[hk2,List.drop_length,List.append_nil] at ho;have:l=out:=Pl.Qro (hl.2.2.trans ho);subst this;rw[Pl.Qgi.2 hl];exact⟨rfl,rfl⟩
  generalize (Pl.Qdb out).getD []=t at*;generalize (Pl.Qdb out).isSome=ok at*;clear hA hX hO
  repeat' first|refine kA ?_|refine kV ?_ ?_<;>intro q|fail
  ·exfalso;simp at*;omega
  all_goals
   refine Qeo 0 (h:=?_)
   repeat' first|refine kA ?_|refine kV ?_ ?_<;>intro q|fail
   all_goals
    (first|refine Qb (hx:=?_)|(refine Qa 1 (h:=?_);refine Qb (hx:=?_)))
    rw[hr.out]
    simp_all
 obtain⟨h20,hlt⟩:=h20;obtain⟨n,m,hq⟩: ∃n m,Pl.l1num (s.drop k)=(n,m):=⟨_,_,rfl⟩;have c:=al1Num (s.drop k) (by rw[A2];unfold Pm.big;omega);have hle:=Pl.QsU (s.drop k);have hn9:=Pl.QsT (s.drop k);rw[hq] at c hle hn9;simp only[A2] at hle hn9;obtain⟨b,hb⟩: ∃b,b=(s.drop k).getD m 0:=⟨_,rfl⟩;have hb1:k+m<s.length->(s.drop k)[m]? =some b:=fun h=>by rw[hb,List.getD_eq_getElem?_getD,A0 (by rw[A2];omega)];rfl
 have hb2:AM (k+m<s.length->s[((k:Int)+(m:Int)).toNat]? =some b):=fun h=>by
  have:=hb1 h;rw[List.getElem?_drop] at this;exact this
 have hb3:((b.toNat:Nat):Int)=58↔b=58:=⟨fun h=>UInt8.toNat_inj.1 (by have:((58:UInt8).toNat:Int)=58:=rfl;omega),fun h=>by rw[h];rfl⟩
 have F:AM ((m=0∨s.length<=k+m∨((b.toNat:Nat):Int)≠58∨s.length -k -m -1<n)->Qb2 s=([],false)):=fun h=>by
  refine Qii (Pl.QpX h20 hlt hO.out hq ?_)
  by_cases h1:m=0
  ·exact .inl h1
  by_cases h2:s.length<=k+m
  ·exact .inr (.inl (by rw[List.getElem?_eq_none (by rw[A2];omega)];simp))
  refine .inr ?_;rw[hb1 (by omega),A2]
  by_cases h3:b=58
  ·exact .inr (by have h4:=hb3.2 h3;omega)
  ·exact .inl (by simpa using h3)
 have T:AM (0<m->k+m<s.length->((b.toNat:Nat):Int)=58->n<=s.length -k -m -1->s=Pl.enc (out++[(s.drop (k+m+1)).take n])++s.drop (k+m+1+n)):=fun h1 h2 h3 h4=>by
  exact Pl.QpW hO.out hq h1 (by rw[hb1 h2,hb3.1 h3]) (by rw[A2];omega)
 clear hO hq hb hb1 hb3
 repeat' first|refine kS ?_|refine qS (QfG rfl rfl rfl (by omega) (by omega)) ?_|refine qS (QdX Ty.h rfl rfl rfl (by omega) (hb2.out (by simp only[decide_eq_true_eq,decide_eq_false_iff_not,beq_eq_false_iff_ne] at*;omega))) ?_|refine qS (Qe5 rfl rfl rfl rfl (by omega) (by omega) (by simp only[decide_eq_true_eq,decide_eq_false_iff_not,beq_eq_false_iff_ne] at*;omega)) ?_|refine QV Ty.h rfl Ty.h (hb:=?_) (kk:=?_)|refine kU ?_|refine kV ?_ ?_<;>intro q|fail
 all_goals first|exfalso;simp only[decide_eq_true_eq,decide_eq_false_iff_not,beq_eq_false_iff_ne] at*;omega|simp;omega|((refine Qa 1 (h:=?_);refine Qb (hx:=?_));rw[F.out (by simp at*;omega)];rfl)|skip
 have e1:0<m/\k+m<s.length/\((b.toNat:Nat):Int)=58/\n<=s.length -k -m -1:=by simp only[decide_eq_true_eq,decide_eq_false_iff_not,beq_eq_false_iff_ne,bne_eq_false_iff_eq] at*;omega
 obtain⟨e1,e2,e3,e4⟩:=e1;refine Qh (s.length -(k+m+1+n)) (by omega) ⟨k+m+1+n,g+1,out++[(s.drop (k+m+1)).take n],by omega,rfl,Pm.hid (T.out e1 e2 e3 e4),Pm.hid ?_,by simp;omega,?_⟩
 ·intro x hx
  rcases List.mem_append.1 hx with hx|hx
  ·exact hX.out x hx
  ·rw[List.mem_singleton] at hx;subst hx
   rw[List.length_take,A2];omega
 ·have t1:((k:Int)+(m:Int)+1).toNat=k+m+1:=by omega
  have t2:((k:Int)+(m:Int)+1+(n:Int)).toNat=k+m+1+n:=by omega
  have t3:k+m+1+n -(k+m+1)=n:=by omega
  simp[keepE,go_sem,t1,t2,t3,List.drop_take]

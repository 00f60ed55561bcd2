/- Of ftw_card; no condition. -/
import Derived.Test.YthbonbflkdonkaaGreatDoorP19
import Derived.Test.YthbonbflkdonkaaGreatDoorP20
import Derived.Test.YthbonbflkdonkaaGreatDoorP21
set_option linter.all false
set_option maxRecDepth 100000
set_option maxHeartbeats 16000000
open Bool renaming and_eq_true->AC
open Go.Proofs.Tryz renaming prog->A5
open Go.RowKit renaming Hid->A9
open List renaming take_add_one->A0,mem_of_getElem?->A1,getElem?_eq_getElem->A2,take_of_length_le->A3,length_map->A4,all_append->A6,take_length->A8,getElem?_map->AA,all_eq_true->AB,all_eq_false->AF,intersperse->AG,map_append->AH,replicate->AI,map_map->AJ,mem_map->AK
open Nat renaming le_refl->A7,pow_le_pow_right->AE,le_trans->AL
open Option.some renaming inj->AD
open Prod.mk renaming inj->AM
namespace Go.Proofs.YthbonbflkdonkaaGreatDoor
noncomputable section
open Go.RowKit
namespace Aw
variable{Q0:AV->List Blk->Prop}{H0:List Blk}{gl:List AV}{f:FuncId}{P:Program}{p old:Pl.Ptr}{w:Pl.Sto}{t:Pl.Tree}
def Qai(b:UInt8)(l:List (List UInt8)):List UInt8:=(l.intersperse [b]).flatten
theorem QiI(b:UInt8)(s:List UInt8):Qai b (Pl.cutB b s)=s:=Pl.Qhj b s
theorem Qro(b:UInt8)(l:List (List UInt8)):Lib.join ((l.map Pl.ba).map (·.data.toList)) (Pl.ba [b]).data.toList=Qai b l:=by
 have e:(l.map Pl.ba).map (·.data.toList)=l:=by
  rw[AJ]
  conv=>rhs;rw[<-List.map_id l]
  grind [List.map_congr_left,Pl.QgJ]
 grind [Pl.QgJ,Lib.join,Qai,List.intercalate]
theorem bSplit(s:List UInt8)(b:UInt8)(hs:s.length<=4294967280):Pure A5 85 [dS s,dS [b]] (tStrs (Pl.cutB b s)):=by
 intro B σ S H w cargs hB hS hl hr;have hc:=QfY (l:=[dS s,dS [b]]) (vs:=[.string ⟨s.toArray⟩,.string ⟨#[b]⟩]) rfl hl hr;subst hc;obtain⟨m,hm⟩:=(hB.ltOf hS).maxl;have h:=Pl.Qlp b s.length s (A7 _);refine(Tryz.strings_Split (Pl.ba s) (Pl.ba [b]) m w (by rw[Pl.Qh8];omega) hm (by rw[Pl.Qh8];simp)).mono fun e w' ⟨he,hw⟩=>?_
 rw[h.1,AJ] at hw;rw[h.2] at he;subst hw;refine⟨_,he,Pm.bnew _ _,?_⟩;have hR:=Pm.Row.new w ((Pl.cutB b s).map (Value.string ∘ Pl.ba)).toArray 9;have hlen:(Pl.cutB b s).length=((Pl.cutB b s).map fun s=>[dS s]).length:=by simp
 rw[hlen];refine .sl true 1 _ w.heap.size 0 _ (fun i _=> .string ⟨((Pl.cutB b s).getD i []).toArray⟩) (.inr ⟨A7 _,by simp⟩) (fun r hr=>?_) (fun _=>A7 _) (fun i j r d hi hj=>?_) fun i j r d hi hj=>?_
 ·grind
 all_goals
  rw[AA] at hi;cases hx:(Pl.cutB b s)[i]? with
  |none=>grind
  |some x=>
   rw[hx] at hi;obtain rfl:=AD hi;have hj0:j=0:=by grind
   subst hj0;have hgd:(Pl.cutB b s).getD i []=x:=by grind
   rw[hgd]
   first|(have:=hR.get i (v:= .string ⟨x.toArray⟩) (by simp[hx,Pl.ba]);simpa using this;done)|simp at hj;subst hj;exact .v _
theorem QoR{S:Nat->Prop}{w:World}{l:List (List UInt8)}{v:Value}{d:D}(h:RelD S w d v)(hd:d= .sl true 1 (l.map fun s=>[dS s])):
 (l=[]/\ ∃a cap,v= .slice a 0 cap)∨ ∃bk o cap,v= .slice (some ⟨bk,o,none⟩) l.length cap/\l.length<=cap/\S bk/\ ∀(j:Nat) x,l[j]? =some x->w.cell? ⟨bk,o+j,none⟩=some (.string ⟨x.toArray⟩):=by
 cases h<;>try (simp at hd;done)
 ·simp_all
 ·rename_i c' n l' b o cap g hb hn hcap hc hr
  simp only[D.sl.injEq] at hd;obtain⟨rfl,rfl,rfl⟩:=hd;have hc':=hcap rfl;refine .inr ⟨b,o,cap,by simp,by grind,hb,fun j x hx=>?_⟩;have hi:(l.map fun s=>[dS s])[j]? =some [dS x]:=by grind
  have h1:=hc j 0 _ _ hi rfl;have h2:=hr j 0 _ _ hi rfl;rw[Nat.mul_one,Nat.add_zero] at h1;rw[h1];generalize g j 0=y at h2;cases h2;rfl
theorem bJoin(l:List (List UInt8))(b:UInt8)(hn:l.length<=140737488355328)(hlen:(Qai b l).length<=140737488355328):Pure A5 208 [tStrs l,dS [b]] (dS (Qai b l)):=by
 intro B σ S H w cargs hB hS hl hr
 match cargs,hl with
 |[v,u],_=>
  have h1:=hr 0 _ v rfl rfl;have h2:=hr 1 _ u rfl rfl;obtain rfl:u= .string ⟨#[b]⟩:=by cases h2;rfl
  rcases QoR h1 rfl with⟨rfl,a,cap,rfl⟩|⟨bk,o,cap,rfl,hcap,hb,hc⟩
  ·refine(Tryz.strings_Join_none a cap (Pl.ba [b]) w).mono fun e w' ⟨he,hw⟩=>⟨_,he,hw▸Below.refl _ _,.v _⟩
  ·have k:=Tryz.strings_Join bk o cap (l.map Pl.ba) (Pl.ba [b]) w (fun j x hx=>by
    rw[AA] at hx;cases hy:l[j]? with
    |none=>grind
    |some y=>rw[hy] at hx;obtain rfl:=AD hx;exact hc j y hy) (hS.sUp bk hb).1 (by grind) (by grind) (by grind [Qro])
   rw[Qro,A4] at k;exact k.mono fun e w' ⟨he,hw⟩=>⟨_,he,hw,.v _⟩
theorem QiH(b:UInt8)(l:List (List UInt8))(m:Nat)(h: ∀x∈l,x.length<=m):(Qai b l).length<=l.length*(m+1):=by
 induction l with
 |nil=>simp[Qai]
 |cons a l ih=>
  have h1:=h a List.mem_cons_self;have ih:=ih fun x hx=>h x (List.mem_cons_of_mem _ hx)
  cases l with
  |nil=>simp[Qai];omega
  |cons c l=>
   grind [Qai,AG,Nat.succ_mul]
attribute [local irreducible] ASeq ADraw AWP Loc AStep
def QW(l:List Pl.Ptr):List UInt8×Bool:=if l.length=4/\l.any (fun p=> !Pl.ptrHole p)=true/\l.all Pl.ptrOk=true then(Qai 44 (l.map Pl.ptrPut),true) else([],false)
def QfM(p:Pl.Ptr):(Pl.ptrPut p).length<=100:=by
 unfold Pl.ptrPut;split
 ·split
  ·decide
  ·unfold Pl.ptrText Pl.dots
   rename_i h _;have hb:=Pl.QdA h;have h1:=Pl.Qdc 8 p.pat.toNat (by omega);have h2:=Pl.Qdc 8 p.birth.toNat (by omega);have h3:=Pl.Qdc 8 p.size.toNat (by omega);have h4:=Pl.Qdc 8 p.sum.toNat (by omega);have h5:=Pl.Qdc 8 p.level.toNat (by omega);simp[AG];omega
 ·decide
theorem bFanPut(l:List Pl.Ptr)(hl:l.length<=1000):Pure A5 211 [dPtrs l] (.tup [dS (QW l).1,dB (QW l).2]):=by
 have c1:=QkN l (by omega) 248 (fun p=> !Pl.ptrHole p) Tryz.call248 fun p _=>QtX p
 have hd:=Pm.hid (QW.eq_def l)
 by_cases h0:l.length=4/\l.any (fun p=> !Pl.ptrHole p)=true
 rotate_left
 ·have hx:A9 (QW l=([],false)):=Pm.hid (by rw[hd.out,if_neg (fun h=>h0 ⟨h.1,h.2.1⟩)])
  clear hd;generalize l.any (fun p=> !Pl.ptrHole p)=any at*;refine kB ?_
  repeat' first|refine kS ?_|refine qS (Qd9 cK c1 rfl rfl) ?_|refine kU ?_|refine kV ?_ ?_<;>intro q|fail
  all_goals first|refine Qb (hx:=?_);rw[hx.out];done|skip;rw[hx.out];rfl;done|exfalso;apply h0;simp only[bne_eq_false_iff_eq] at*;refine⟨by omega,?_⟩;simp_all;done
 obtain⟨h4,hany⟩:=h0;rw[hany] at c1
 have hd2:A9 (QW l=if l.all Pl.ptrOk=true then(Qai 44 (l.map Pl.ptrPut),true) else([],false)):=Pm.hid (by
  rw[hd.out]
  by_cases h:l.all Pl.ptrOk=true
  ·rw[if_pos ⟨h4,hany,h⟩,if_pos h]
  ·rw[if_neg (fun x=>h x.2.2),if_neg h])
 have cj:=bJoin (l.map Pl.ptrPut) 44 (by simp;omega) (by
  have:=QiH 44 (l.map Pl.ptrPut) 100 (fun x hx=>by obtain⟨p,_,rfl⟩:=AK.1 hx;exact QfM p)
  rw[A4] at this;omega)
 clear hd hany;refine kB ?_
 repeat' first|refine kS ?_|refine qS (Qd9 cK c1 rfl rfl) ?_|refine kU ?_|refine kV ?_ ?_<;>intro q|fail
 ·exfalso;simp only[bne_iff_ne] at*;omega
 refine QeW 4 1 9 (h:=?_)
 refine Qq (fun m st=> ∃(k g:Nat) (out:List (List UInt8)),k<=l.length/\m=l.length -k/\out.length=k/\A9 (out=(l.take k).map Pl.ptrPut)/\A9 ((l.take k).all Pl.ptrOk=true)/\
  st=⟨32,[(17,.d (dI k)),(16,.d (dI l.length)),(15,.d (dPtrs l)),(4,.osl 0 g 0 out.length)],[.arr g 1 9 (out.map fun s=>[dS s])]⟩) [17,16,15,4] 1 l.length ⟨0,0,[],by omega,rfl,rfl,Pm.hid rfl,Pm.hid rfl,rfl⟩ (round:=?_)
 rintro m st ⟨k,g,out,hk,rfl,hlen,hO,hA,rfl⟩
 repeat refine kG ?_
 cases q3:decide ((k:Int)<(l.length:Int))
 ·have hk3:k=l.length:=by simp at q3;omega
  rw[hk3,A8] at hO hA;rw[hA.out,if_pos rfl] at hd2;have ho:=hO.out;rw[<-ho] at cj hd2;clear hO hA ho
  repeat refine kG ?_
  refine Qew 0 (h:=?_)
  repeat refine kA ?_
  refine Qb (hx:=?_);rw[hd2.out]
 have hk2:k<l.length:=by simp at q3;omega
 obtain⟨x,hx⟩: ∃x,l[k]? =some x:=⟨_,A2 hk2⟩;have hr:=Qs (f:=rPtr) hx;have T1:A9 ((l.take (k+1)).map Pl.ptrPut=out++[Pl.ptrPut x]):=Pm.hid (by rw[A0,hx,hO.out];simp);have T2:A9 (Pl.ptrOk x=true->(l.take (k+1)).all Pl.ptrOk=true):=Pm.hid fun h=>by rw[A0,hx,A6,hA.out];simpa using h
 have F:A9 (Pl.ptrOk x=false->QW l=([],false)):=Pm.hid fun h=>by
  rw[hd2.out,if_neg];intro h2;have:=AB.1 h2 x (A1 hx);rw[h] at this;cases this
 have c2:=bPtrOk x;have c3:=bPtrPut x;clear hx hO hA hd2 cj c1;generalize Pl.ptrOk x=ok at*;generalize Pl.ptrPut x=t at*;obtain⟨p1,p2,p3,p4,p5⟩:=x
 repeat' first|refine kS ?_|refine qS (iy hr) ?_|refine QV Ty.h rfl Ty.h (hb:=?_) (kk:=?_)|refine kU ?_|refine kV ?_ ?_<;>intro q|fail
 all_goals first|simp;omega|refine Qg (l.length -(k+1)) (by omega) ⟨k+1,g+1,out++[t],by omega,rfl,by simp[hlen],Pm.hid T1.out.symm,Pm.hid (T2.out (by simpa using q)),?_⟩;simp[keepE,go_sem];done|refine Qb (hx:=?_);rw[F.out (by simpa using q)]|skip;rw[F.out (by simpa using q)];rfl
theorem QjH(b:UInt8)(x:List UInt8): ∀(l:List (List UInt8)),l≠[]->Qai b (l++[x])=Qai b l++(b::x)
 |[],h=>absurd rfl h
 |[a],_=>by simp[Qai]
 |a::c::l,_=>by
  have ih:=QjH b x (c::l) (by simp)
  simp_all[Qai]
def Qaj(w:Pl.Sto)(l:List Pl.Ptr)(level:Int)(old:Pl.Ptr):Pl.Sto×Pl.Ptr×Bool:=
 if l.all Pl.ptrHole then(w,Pl.hole,true) else
 if !Pl.ptrHole old&&QaX old (QW l).1&&(w.rows.getD old.pat.toNat []==(QW l).1) then(w,old,true) else w.write (QW l).1 level
attribute [local irreducible] Fg.PlanF Fg.Flts EndR
def al8None(l:List Pl.Ptr)(hl:l.length<=1000):Pure A5 181 [dPtrs l] (dB (l.all Pl.ptrHole)):=by
 refine kE ?_
 repeat refine kA ?_
 refine Qq (fun m st=> ∃k:Nat,k<=l.length/\m=l.length -k/\A9 ((l.take k).all Pl.ptrHole=true)/\st=⟨16,[(3,.d (dI k)),(0,.d (dPtrs l))],[]⟩) [3,0] 0 l.length ⟨0,by omega,rfl,Pm.hid rfl,rfl⟩ (round:=?_);rintro m st ⟨k,hk,rfl,hA,rfl⟩
 repeat refine kG ?_
 cases q4:decide ((k:Int)<(l.length:Int))
 ·repeat refine kA ?_
  have:k=l.length:=by simp at q4;omega
  have h:=hA.out;rw[this,A3 (A7 _)] at h;exact Qb (hx:=by rw[h])
 have hk2:k<l.length:=by simp at q4;omega
 obtain⟨x,hx⟩: ∃x,l[k]? =some x:=⟨_,A2 hk2⟩;have hr:=Qs (f:=rPtr) hx;have c1:=Qdt x;have T:A9 ((l.take (k+1)).all Pl.ptrHole=Pl.ptrHole x):=Pm.hid (by rw[A0,hx,A6,hA.out];simp)
 have F:A9 (Pl.ptrHole x=false->l.all Pl.ptrHole=false):=Pm.hid fun h=>by
  rw[AF];exact⟨x,A1 hx,by simp[h]⟩
 clear hx hA;generalize Pl.ptrHole x=hb at*
 repeat' first|refine kS ?_|refine qS (iy hr) ?_|refine kU ?_|refine kV ?_ ?_<;>intro q|fail
 all_goals first|exact Qb (hx:=by rw[F.out (by simpa using q)])|refine Qg (l.length -(k+1)) (by omega) ⟨k+1,by omega,rfl,Pm.hid (T.out.trans (by simpa using q)),?_⟩;simp[keepE,go_sem];done
theorem aFanPut(l:List Pl.Ptr)(hl:l.length=4):Pure A5 182 [dPtrs l] (.tup [dS (QW l).1,dB (QW l).2]):=by
 have hd:=Pm.hid (QW.eq_def l);refine kE ?_
 repeat' first|refine kA ?_|refine kV ?_ ?_<;>intro q|fail
 all_goals first|exfalso;simp at q;omega|skip
 refine Qq (fun m st=> ∃(k:Nat) (out:List UInt8),k<=4/\m=4 -k/\out.length<=101*k/\A9 (out=Qai 44 ((l.take k).map Pl.ptrPut))/\A9 ((l.take k).all Pl.ptrOk=true)/\
  st=⟨45,[(4,.d (dS out)),(5,.d (dB ((l.take k).any fun p=> !Pl.ptrHole p))),(6,.d (dI k)),(0,.d (dPtrs l))],[]⟩) [4,5,6,0] 0 4 ⟨0,[],by omega,rfl,by simp,Pm.hid rfl,Pm.hid rfl,rfl⟩ (round:=?_)
 rintro m st ⟨k,out,hk,rfl,hol,hO,hA,rfl⟩
 repeat refine kG ?_
 cases q4:decide ((k:Int)<(l.length:Int))
 ·have:k=4:=by simp at q4;omega
  subst this;have h1:=hO.out;have h2:=hA.out;rw[A3 (by omega)] at h1 h2⊢;cases hs:l.any fun p=> !Pl.ptrHole p
  ·repeat refine kA ?_
   exact Qb (hx:=by rw[hd.out,if_neg (by rw[hs];simp)])
  ·repeat refine kA ?_
   exact Qb (hx:=by rw[hd.out,if_pos ⟨hl,hs,h2⟩,<-h1])
 have hk2:k<l.length:=by simp at q4;omega
 obtain⟨x,hx⟩: ∃x,l[k]? =some x:=⟨_,A2 hk2⟩;have hr:=Qs (f:=rPtr) hx;have c1:=Qdt x;have c2:=aPtrOk x;have c3:=aPtrPut x;have hpl:=QfM x;have T1:A9 ((l.take (k+1)).all Pl.ptrOk=Pl.ptrOk x):=Pm.hid (by rw[A0,hx,A6,hA.out];simp);have T2:A9 ((l.take (k+1)).any (fun p=> !Pl.ptrHole p)=((l.take k).any (fun p=> !Pl.ptrHole p)|| !Pl.ptrHole x)):=Pm.hid (by rw[A0,hx,List.any_append];simp)
 have T3:A9 (Qai 44 ((l.take (k+1)).map Pl.ptrPut)=if k=0 then Pl.ptrPut x else out++(44::Pl.ptrPut x)):=Pm.hid (by
  rw[A0,hx,AH,hO.out]
  by_cases h0:k=0
  ·subst h0;simp[Qai]
  ·rw[if_neg h0]
   exact QjH _ _ _ (by intro h;have:=congrArg List.length h;rw[A4,List.length_take,List.length_nil] at this;omega))
 have F:A9 (Pl.ptrOk x=false->QW l=([],false)):=Pm.hid fun h=>by
  rw[hd.out,if_neg];intro h2;have:=AB.1 h2.2.2 x (A1 hx);rw[h] at this;cases this
 have h0o:k=0->out=[]:=fun h=>by have:=hO.out;subst h;simpa[Qai] using this
 clear hx hO hA hd;generalize ((l.take k).any fun p=> !Pl.ptrHole p)=sm at*;generalize Pl.ptrPut x=px at*;cases hok:Pl.ptrOk x
 ·rw[hok] at c2
  repeat' first|refine kS ?_|refine qS (iy hr) ?_|refine kU ?_|fail
  exact Qb (hx:=by rw[F.out hok])
 rw[hok] at c2 T1
 cases hhx:Pl.ptrHole x<;>rw[hhx] at c1 T2<;>by_cases h0:k=0<;>cases sm<;>(
  repeat' first|refine kS ?_|refine qS (iy hr) ?_|refine qS (Qdf (m:=[44]) rfl rfl (by first|omega|(simp;omega))) ?_|refine qS (Qdf rfl rfl (by first|omega|(simp;omega))) ?_|refine kU ?_|refine kV ?_ ?_<;>intro q|fail
  all_goals first
   |(exfalso;simp only[decide_eq_true_eq,decide_eq_false_iff_not] at*;omega)
   |(refine Qg (4 -(k+1)) (by omega) ⟨k+1,out++px,by omega,rfl,by simp;omega,Pm.hid (by rw[T3.out,if_pos h0,h0o h0];rfl),Pm.hid T1.out,?_⟩;rw[T2.out];simp[keepE,go_sem];done)
   |(refine Qg (4 -(k+1)) (by omega) ⟨k+1,out++[44]++px,by omega,rfl,by simp;omega,Pm.hid (by rw[T3.out,if_neg h0];simp),Pm.hid T1.out,?_⟩;rw[T2.out];simp[keepE,go_sem];done))
theorem eFan(g:Nat)(w:Pl.Sto)(N:Nat)(hN:N<=1000000)(hw:w.W N)(l:List Pl.Ptr)(hl:l.length=4)(level:Int)(old:Pl.Ptr)(hold:Pl.ptrOk old=true):
 DoesE A5 116 [oS g w,.d (dPtrs l),.d (dI level),.d (dPtr old)] (hS g w) (gS g w) (fun x H=>x= .tup [oS g (Qaj w l level old).1,.d (dPtr (Qaj w l level old).2.1),.d (dB (Qaj w l level old).2.2)]/\H=hS g (Qaj w l level old).1):=by
 have hd:=Pm.hid (Qaj.eq_def w l level old);have c1:=al8None l (by omega);have c2:=aFanPut l hl
 have hlen:(QW l).1.length<=Pm.big:=by
  unfold QW;split
  ·have:=QiH 44 (l.map Pl.ptrPut) 100 (fun x hx=>by obtain⟨p,_,rfl⟩:=AK.1 hx;exact QfM p)
   simp only[A4] at this;simp only;unfold Pm.big;omega
  ·simp
 have c3:=eWrite g w N hN hw (QW l).1 hlen level;have c4:=QoJ old (QW l).1 hlen;have c5:=Qdt old;have hW:=(hw.write (QW l).1 level).1;have l0:(w.write (QW l).1 level).1.rows.length=w.rows.length:=by rw[hW.rows,hw.rows]
 have l1:(w.write (QW l).1 level).1.refs.length=w.refs.length:=by rw[hW.refs,hw.refs]
 have l2:(w.write (QW l).1 level).1.last.length=w.last.length:=by rw[hW.last,hw.last]
 have hg:(w.write (QW l).1 level).1.gone.length=w.gone.length:=by rw[Pl.QeY]
 generalize QW l=ft at*;obtain⟨text,fine⟩:=ft;simp only at*;generalize Qaj w l level old=res at*;cases hn:l.all Pl.ptrHole;rotate_left
 ·have hr:A9 (res=(w,Pl.hole,true)):=Pm.hid (by rw[hd.out,if_pos hn])
  rw[hn] at c1;clear c2 c3 c4 c5 hd hW;refine kH fun gvs=>?_
  repeat refine kA ?_
  refine QO 5 (hx:=?_);rw[hr.out];exact⟨rfl,rfl⟩
 rw[hn] at c1 hd;simp only[Bool.false_eq_true,if_false] at hd;cases hh:Pl.ptrHole old;rotate_left
 ·have hr:A9 (res=w.write text level):=Pm.hid (by rw[hd.out,if_neg (by simp[hh])])
  rw[hh] at c5;clear c4 hd hW;generalize w.write text level=wr at*;obtain⟨w2,p2,ok2⟩:=wr;simp only at l0 l1 l2 hg c3;refine kH fun gvs=>?_
  refine Qa 6 (h:=?_)
  repeat' first|refine kS ?_|refine QC [0,1,2,3,4] c3 cK (k:=kX ?_)|refine kU ?_|fail
  all_goals first|refine QO 5 (hx:=?_);rw[hr.out];exact⟨rfl,rfl⟩
 rw[hh] at c5;have hat:=QdN hold hh;obtain⟨a,ha⟩:=Int.eq_ofNat_of_zero_le hat.1;have r1:=Qj0 (l:=w.rows) (a:=a) (by rw[hw.rows];omega);have hd:A9 (res=if QaX old text&&(w.rows.getD a []==text) then(w,old,true) else w.write text level):=Pm.hid (by rw[hd.out,hh,ha];simp);generalize w.rows.getD a []=rv at*;generalize w.write text level=wr at*;obtain⟨w2,p2,ok2⟩:=wr;simp only at l0 l1 l2 hg c3;clear hW hold;obtain⟨p1,q2,q3,q4,q5⟩:=old;simp only at ha hat;subst ha;generalize QaX ⟨a,q2,q3,q4,q5⟩ text=ft at*;cases ft
 ·have hd:A9 (res=(w2,p2,ok2)):=Pm.hid (by rw[hd.out];rfl)
  refine kH fun gvs=>?_
  refine Qa 6 (h:=?_)
  repeat' first|refine kS ?_|refine QC [0,1,2,3,4] c3 cK (k:=kX ?_)|refine kU ?_|fail
  all_goals first|refine QO 5 (hx:=?_);rw[hd.out];exact⟨rfl,rfl⟩
 refine kH fun gvs=>?_
 refine Qa 6 (h:=?_)
 repeat' first|refine kS ?_|refine qS (Qdg Ty.h rfl rfl r1 rfl) ?_|(show AWP _ (.region 5 _ _) _ _;refine(Fg.awp_drawF (id:=5) [1] [2,3] ?_))|refine QC [0,1,2,3,4] c3 cK (k:=kX ?_)|refine kU ?_|refine kV ?_ ?_<;>intro q|fail
 all_goals first|refine QO 5 (hx:=?_);rw[hd.out,if_pos (by rw[q];rfl)];exact⟨rfl,rfl⟩|refine QO 5 (hx:=?_);rw[hd.out,if_neg (by rw[q];simp)];exact⟨rfl,rfl⟩
theorem Qqg{σ:Sg}{S:Nat->Prop}{H:List Blk}{w:World}{x:AV}{v:Value}(h:Rel σ S H w x v):Rel σ S H w x.weak1 v:=by
 cases x with
 |d x=>cases h with|d _ _ h=>exact .d _ _ h.weak
 |_=>exact h
theorem DoesE.arg{l l':List AV}(h:DoesE P f l' H0 gl Q0)(ha:l.map AV.weak1=l':=by rfl):DoesE P f l H0 gl Q0:=by
 intro B σ S w cargs gvs h1 h2 h3 h4 h5 h6;subst ha;refine h B σ S w cargs gvs h1 h2 (by grind) (fun i d v hd hv=>?_) h5 h6
 grind [Qqg]
theorem QlH{dst:Option Tmp}{T' ty:TypeId}{pos:String}{after:Array Edge}{gd:Option (Nat×Bool)}{env:List (Nat×AV)}{H:List Blk}{x y:Tmp}{q:Pl.Ptr}(hx:aval env (.tmp x)= .d (dPtr p))(hy:aval env (.tmp y)= .d (dPtr q)):
 Loc A5 ⟨dst,.binOp .eql 31 (.tmp x) (.tmp y) T',ty,pos,after,gd⟩ env H (.d (dB (decide (p=q)))) none:=
 loc_bin' (X:= .agg #[.int .i64 p.pat,.int .i64 p.birth,.int .i64 p.size,.int .i64 p.sum,.int .i64 p.level]) (Y:= .agg #[.int .i64 q.pat,.int .i64 q.birth,.int .i64 q.size,.int .i64 q.sum,.int .i64 q.level]) (by rw[hx];rfl) (by rw[hy];rfl) fun w=>by
  obtain⟨p1,p2,p3,p4,p5⟩:=p;obtain⟨q1,q2,q3,q4,q5⟩:=q
  go_simp
  grind
def Qz(w:Pl.Sto)(l:List Pl.Ptr)(level:Int)(was:List Pl.Ptr):Nat->Pl.Sto×List Pl.Ptr×List Pl.Ptr×Bool
 |0=>(w,[],[],true)
 |i+1=>if(Qz w l level was i).2.2.2 then
   (if(Qaj (Qz w l level was i).1 ((l.take (4*(i+1))).drop (4*i)) level (was.getD i Pl.hole)).2.2 then
     ((Qaj (Qz w l level was i).1 ((l.take (4*(i+1))).drop (4*i)) level (was.getD i Pl.hole)).1,(Qz w l level was i).2.1++[(Qaj (Qz w l level was i).1 ((l.take (4*(i+1))).drop (4*i)) level (was.getD i Pl.hole)).2.1],
       (Qz w l level was i).2.2.1++(if(Qaj (Qz w l level was i).1 ((l.take (4*(i+1))).drop (4*i)) level (was.getD i Pl.hole)).2.1=was.getD i Pl.hole then [was.getD i Pl.hole] else []),true)
   else((Qz w l level was i).1,(Qz w l level was i).2.1,(Qz w l level was i).2.2.1,false)) else Qz w l level was i
def Q3(l:List Pl.Ptr):List Pl.Ptr:=l++AI ((4 -l.length%4)%4) Pl.hole
def Qv(w:Pl.Sto)(t:Pl.Tree)(l:List Pl.Ptr)(depth:Int):Nat->Pl.Sto×List Pl.Ptr×List Pl.Ptr×Bool
 |0=>(w,l,[],true)
 |k+1=>if(Qv w t l depth k).2.2.2 then
   ((Qz (Qv w t l depth k).1 (Q3 (Qv w t l depth k).2.1) (k+1:Nat) (QM (Qv w t l depth k).1.st t depth (k+1:Nat)) ((Q3 (Qv w t l depth k).2.1).length/4)).1,
    (Qz (Qv w t l depth k).1 (Q3 (Qv w t l depth k).2.1) (k+1:Nat) (QM (Qv w t l depth k).1.st t depth (k+1:Nat)) ((Q3 (Qv w t l depth k).2.1).length/4)).2.1,
    (Qv w t l depth k).2.2.1++(Qz (Qv w t l depth k).1 (Q3 (Qv w t l depth k).2.1) (k+1:Nat) (QM (Qv w t l depth k).1.st t depth (k+1:Nat)) ((Q3 (Qv w t l depth k).2.1).length/4)).2.2.1,
    (Qz (Qv w t l depth k).1 (Q3 (Qv w t l depth k).2.1) (k+1:Nat) (QM (Qv w t l depth k).1.st t depth (k+1:Nat)) ((Q3 (Qv w t l depth k).2.1).length/4)).2.2.2) else Qv w t l depth k
def QaR(old stays:List Pl.Ptr):List Pl.Ptr:=old.filter fun p=> !stays.contains p
def Q2(many:Nat):Nat:=if many<=1 then 0 else if many<=4 then 1 else 2
def Qw(w:Pl.Sto)(t:Pl.Tree)(leaves:List Pl.Ptr)(many:Nat):Pl.Sto×Pl.Tree×Bool:=
 if(Qv w t (leaves.take many) (Q2 many) (Q2 many)).2.2.2 then
  ((Qv w t (leaves.take many) (Q2 many) (Q2 many)).1.freeL (QaR (QA w.st t) (Qv w t (leaves.take many) (Q2 many) (Q2 many)).2.2.1),⟨(Qv w t (leaves.take many) (Q2 many) (Q2 many)).2.1.getD 0 Pl.hole,Q2 many,many⟩,true)
 else((Qv w t (leaves.take many) (Q2 many) (Q2 many)).1,⟨Pl.hole,0,0⟩,false)
theorem QrD{N:Nat}(h:w.W N){l:List Pl.Ptr}{level:Int}(ho:Pl.ptrOk old=true):(Qaj w l level old).1.W (N+1)/\Pl.ptrOk (Qaj w l level old).2.1=true/\(Qaj w l level old).1.gone=w.gone:=by
 unfold Qaj;split
 ·exact⟨h.le (by omega),QdK,rfl⟩
 ·split
  ·exact⟨h.le (by omega),ho,rfl⟩
  ·have:=h.write (QW l).1 level
   grind [Pl.QeY]
theorem QgC{l:List Pl.Ptr}(h: ∀p∈l,Pl.ptrOk p=true)(i:Nat):Pl.ptrOk (l.getD i Pl.hole)=true:=by grind [QdK]
theorem QrC{w:Pl.Sto}{N:Nat}(h:w.W N){l:List Pl.Ptr}{level:Int}{was:List Pl.Ptr}(ho: ∀p∈was,Pl.ptrOk p=true): ∀i,(Qz w l level was i).1.W (N+i)/\(Qz w l level was i).1.gone=w.gone/\
 (∀p∈(Qz w l level was i).2.1,Pl.ptrOk p=true)/\(Qz w l level was i).2.1.length<=i/\(Qz w l level was i).2.2.1.length<=i
 |0=>⟨h,rfl,by simp[Qz],by simp[Qz],by simp[Qz]⟩
 |i+1=>by
  obtain⟨h1,h2,h3,h4,h5⟩:=QrC h (l:=l) (level:=level) ho i;have:=QrD h1 (l:=(l.take (4*(i+1))).drop (4*i)) (level:=level) (QgC ho i);simp only[Qz];generalize Qz w l level was i=r at*;generalize Qaj r.1 ((l.take (4*(i+1))).drop (4*i)) level (was.getD i Pl.hole)=y at*;split
  ·split
   ·grind
   ·exact⟨h1.le (by omega),h2,h3,by grind,by grind⟩
  ·exact⟨h1.le (by omega),h2,h3,by omega,by omega⟩
theorem QjN{l:List Pl.Ptr}{level:Int}{was:List Pl.Ptr}{i:Nat}(h:(Qz w l level was i).2.2.2=false): ∀j,Qz w l level was (i+j)=Qz w l level was i
 :=by intro l;induction l<;>grind [Qz]
theorem Qrk{l:List Pl.Ptr}{depth:Int}{k:Nat}(h:(Qv w t l depth k).2.2.2=false): ∀j,Qv w t l depth (k+j)=Qv w t l depth k
 :=by intro l;induction l<;>grind [Qv]
theorem Qp3{l:List Pl.Ptr}{level:Int}(h:(Qaj w l level old).2.2=false):(Qaj w l level old).1=w:=by
 unfold Qaj at h⊢;split
 ·rfl
 ·rename_i h1
  rw[if_neg h1] at h;split
  ·rfl
  ·rename_i h2
   rw[if_neg h2] at h;unfold Pl.Sto.write at h⊢;cases hs:w.seek (QW l).1 level with
   |none=>rfl
   |some a=>
    grind [Pl.Sto.put]
theorem Qk1(s:Pm.Store)(t:Pl.Tree)(ht:Pl.ptrOk t.root=true):(∀p∈QA s t,Pl.ptrOk p=true)/\(QA s t).length<=5:=by grind [QA,Qig,QeO]
def DoesE.pins{args:List AV}(h:DoesE P f args H0 gl Q0):DoesE P f args H0 gl fun x H1=>Q0 x H1/\ ∀i C,H0[i]? =some C-> ∃C',H1[i]? =some C'/\pin1 gl i C C':=
 fun B σ S w cargs gvs h1 h2 h3 h4 h5 h6=>(h B σ S w cargs gvs h1 h2 h3 h4 h5 h6).mono fun _ _ ⟨x,H1,h7,h8,h9⟩=>⟨x,H1,⟨h7,h8⟩,h8,h9⟩
theorem eFree2(g:Nat)(w:Pl.Sto)(N:Nat)(hN:N<=1000000)(hw:w.W N)(p:Pl.Ptr)(hp:Pl.ptrOk p=true):
 DoesE A5 59 [oS g w,.d (dPtr p)] (hS g w) (gS g w) (fun x H=> ∃g',(g<g'∨g'=g/\(w.free p).gone.length=w.gone.length)/\x=oS g' (w.free p)/\H=hS g' (w.free p)):=by
 intro B σ S w0 cargs gvs h1 h2 h3 h4 h5 h6;refine((eFree g w N hN hw p hp).pins B σ S w0 cargs gvs h1 h2 h3 h4 h5 h6).mono ?_;rintro _ _ ⟨x,H1,⟨⟨g',rfl,rfl⟩,h7⟩,h8,h9⟩;refine⟨_,_,⟨g',?_,rfl,rfl⟩,h8,h9⟩;obtain⟨C',e1,e2⟩:=h7 3 _ rfl;obtain rfl:=AD e1;obtain⟨_,_,e3|⟨e3,e4,_⟩⟩:=e2
 ·omega
 grind
theorem pg_put{x:List UInt8}(h:QD x=(p,true)):Pl.ptrPut p=x/\Pl.ptrOk p=true:=by
 unfold QD at h;split at h
 ·rename_i hx
  obtain⟨h1,_⟩:=AM h;have:=Classical.choose_spec hx;rw[h1] at this;exact⟨this.2,this.1⟩
 grind
theorem bFanGet(s:List UInt8)(hs:s.length<=1000000):Pure A5 149 [dS s] (.tup [tPtrs (QaG s).1,dB (QaG s).2]):=by
 have c0:=bSplit s 44 (by omega);have hW:=Qex 44 s;have hj:=Pm.hid (QiI 44 s);have hfan:A9 (QaG s=if((Pl.cutB 44 s).map QD).all (·.2)&&(((Pl.cutB 44 s).map QD).length==4)&&((Pl.cutB 44 s).map QD).any (fun q=> !Pl.ptrHole q.1) then(((Pl.cutB 44 s).map QD).map (·.1),true) else([],false)):=Pm.hid rfl;generalize Pl.cutB 44 s=l at*;refine kB ?_
 repeat refine kA ?_
 refine QeW 4 5 31 (h:=?_)
 refine Qq (fun m st=> ∃(k g:Nat) (out:List Pl.Ptr),k<=l.length/\m=l.length -k/\out.length=k/\k<=4/\A9 (out=((l.map QD).take k).map (·.1))/\A9 (((l.map QD).take k).all (·.2)=true)/\A9 (out.map Pl.ptrPut=l.take k/\out.all Pl.ptrOk=true)/\
  st=⟨48,[(14,.d (dI k)),(13,.d (dI l.length)),(12,.d (tStrs l)),(4,.osl 0 g 0 out.length),(0,.d (dS s))],[.arr g 5 31 (out.map rPtr)]⟩) [14,13,12,4,0] 1 l.length ⟨0,0,[],by omega,rfl,rfl,by omega,Pm.hid rfl,Pm.hid (by simp),Pm.hid ⟨rfl,rfl⟩,rfl⟩ (round:=?_)
 rintro m st ⟨k,g,out,hk,rfl,hlen,hk4,hO,hA,hP,rfl⟩
 repeat refine kG ?_
 cases q3:decide ((k:Int)<(l.length:Int))
 ·have hk3:k=l.length:=by simp at q3;omega
  have c1:=(bFanPut out (by omega)).arg (l:=[tPtrs out]);have hlm:(l.map QD).length=k:=by rw[A4,hk3]
  have ho:=hO.out;rw[<-hlm,A8] at ho;have ha:=hA.out;rw[<-hlm,A8] at ha;have hp1:=hP.out.1;rw[hk3,A8] at hp1;have hany:(l.map QD).any (fun q=> !Pl.ptrHole q.1)=out.any (fun p=> !Pl.ptrHole p):=by rw[ho];simp only[List.any_map];rfl
  have hpd:=Pm.hid (QW.eq_def out)
  have e2:QW out=if out.length=4/\out.any (fun p=> !Pl.ptrHole p)=true then(s,true) else([],false):=by
   rw[hpd.out,hp1,hj.out]
   by_cases h:out.length=4/\out.any (fun p=> !Pl.ptrHole p)=true
   ·rw[if_pos h,if_pos ⟨h.1,h.2,hP.out.2⟩]
   ·rw[if_neg h,if_neg (fun x=>h ⟨x.1,x.2.1⟩)]
  have e1:QaG s=if out.length=4/\out.any (fun p=> !Pl.ptrHole p)=true then(out,true) else([],false):=by
   rw[hfan.out,ha,hany,hlm,<-hlen,<-ho]
   by_cases h:out.length=4/\out.any (fun p=> !Pl.ptrHole p)=true
   ·rw[if_pos h,if_pos]
    rw[h.1,h.2];rfl
   ·rw[if_neg h,if_neg]
    intro x;simp only[AC,beq_iff_eq,true_and] at x;exact h x
  have hres:A9 (QaG s=if(QW out).2=true/\(QW out).1=s then(out,true) else([],false)):=Pm.hid (by
   rw[e1,e2]
   by_cases h:out.length=4/\out.any (fun p=> !Pl.ptrHole p)=true
   ·rw[if_pos h,if_pos h,if_pos ⟨rfl,rfl⟩]
   ·rw[if_neg h,if_neg h,if_neg (by simp)])
  clear e1 e2;clear hO hA hP ho ha hp1 hany hpd hfan hj c0;generalize QW out=r at*;obtain⟨again,fine⟩:=r
  repeat refine kG ?_
  refine Qew 0 (h:=?_)
  repeat' first|refine kA ?_|refine kV ?_ ?_<;>intro q|fail
  all_goals first|refine QdT 2 true 5 (h:=?_);refine Qb (hx:=?_);rw[hres.out,if_neg (by simp_all)];rfl|refine QdT 2 true 5 (h:=?_);refine Qb (hx:=?_);rw[hres.out,if_neg (by simp_all)]|refine Qb (hx:=?_);rw[hres.out,if_pos (by simp_all)]
 have hk2:k<l.length:=by simp at q3;omega
 obtain⟨x,hx⟩: ∃x,l[k]? =some x:=⟨_,A2 hk2⟩;have hr:=Qs (f:=fun s=>[dS s]) hx;have hx3:x.length<=4294967280:=by have:=hW.2 x (A1 hx);omega
 obtain⟨p,ok,hp⟩: ∃p ok,QD x=(p,ok):=⟨_,_,rfl⟩;have hg:=bPtrGet x hx3;rw[hp] at hg;have hl:(l.map QD)[k]? =some (p,ok):=by rw[AA,hx];simp[hp]
 have hst:(l.map QD).take (k+1)=(l.map QD).take k++[(p,ok)]:=by rw[A0,hl];rfl
 have F:A9 (ok=false∨k=4->QaG s=([],false)):=Pm.hid fun e=>by
  rw[hfan.out,if_neg];intro h;simp only[AC,beq_iff_eq,A4] at h;rcases e with e|e
  ·have:=AB.1 h.1.1 _ (A1 hl)
   rw[e] at this;cases this
  ·omega
 have T1:A9 (out++[p]=((l.map QD).take (k+1)).map (·.1)):=Pm.hid (by rw[hst,hO.out];simp)
 have T2:A9 (ok=true->((l.map QD).take (k+1)).all (·.2)=true/\(out++[p]).map Pl.ptrPut=l.take (k+1)/\(out++[p]).all Pl.ptrOk=true):=Pm.hid fun e=>by
  subst e;have hpp:=pg_put hp;refine⟨by rw[hst,A6,hA.out];rfl,by rw[AH,hP.out.1,A0,hx];simp[hpp.1],by rw[A6,hP.out.2];simp[hpp.2]⟩
 clear hx hp hl hst hO hA hP hfan hj c0;obtain⟨p1,p2,p3,p4,p5⟩:=p
 repeat' first|refine kS ?_|refine qS (iy hr) ?_|refine QV Ty.h rfl Ty.h (hb:=?_) (kk:=?_)|refine kU ?_|refine kV ?_ ?_<;>intro q|fail
 all_goals first
  |(simp;omega)
  |(refine Qg (l.length -(k+1)) (by omega) ⟨k+1,g+1,out++[⟨p1,p2,p3,p4,p5⟩],by omega,rfl,by simp[hlen],?_,Pm.hid T1.out,Pm.hid (T2.out (by simpa using ‹(!ok)=false›)).1,Pm.hid (T2.out (by simpa using ‹(!ok)=false›)).2,?_⟩
    ·simp only[beq_eq_false_iff_ne] at*;omega
    ·simp[keepE,go_sem])
  |(refine QdT 2 true 5 (h:=?_)
    refine Qb (hx:=?_)
    rw[F.out (by first|exact .inl (by simpa using q)|exact .inr (by simp only[beq_iff_eq] at q;omega))];rfl)
def bDepth(n:Int):Pure A5 89 [dI n] (dI (if n<=1 then 0 else if n<=4 then 1 else 2)):=by
 refine kB ?_
 repeat' first|refine kA ?_|refine kV ?_ ?_<;>intro q|fail
 all_goals exact Qb (hx:=congrArg dI (by simp at*;split<;>(try split)<;>omega))
def Qce(s:Pm.Store)(p:Pl.Ptr)(level:Int):List Pl.Ptr×Bool:=
 if Pl.ptrHole p then(AI 4 Pl.hole,true) else
 if(Qi s.1 p).2=true/\p.level=level then((QaG (Qi s.1 p).1).1,(QaG (Qi s.1 p).1).2&& !(QaG (Qi s.1 p).1).1.any (fun q=>decide (p.birth<q.birth))) else([],false)
theorem Qnh{s:Pm.Store}{level:Int}(h1:Pl.ptrOk p=true)(h2:p.birth<=s.2.2.1):(Qce s p level).2=(Qj s p level).2/\((Qj s p level).2=true->Qce s p level=Qj s p level):=by grind [Qce,Qj]
theorem bFanOf(s:Pm.Store)(hg:QU s)(p:Pl.Ptr)(hp:Pl.ptrHole p=false->Pl.ptrOk p=true)(level:Int):Pure A5 90 [.pd (rSt s),dPtr p,dI level] (.tup [tPtrs (Qce s p level).1,dB (Qce s p level).2]):=by
 have hd:=Pm.hid (Qce.eq_def s p level);have c1:=Qey p;cases h1:Pl.ptrHole p;rotate_left
 ·rw[h1] at c1 hd
  refine kE ?_;refine Qa 0 (h:=?_)
  repeat refine kA ?_
  (refine Qa 1 (h:=?_);refine Qb (hx:=?_))
  rw[hd.out];rfl
 have c2:=bRead s hg p hp;have hlen:=Qiy s hg p;rw[h1] at c1 hd;generalize Qi s.1 p=r at*;obtain⟨tx,ok⟩:=r;simp only at hlen hd;have c3:=bFanGet tx (by omega);have hfl:=QkB tx;generalize QaG tx=fb at*;obtain⟨l,fine⟩:=fb;simp only at hfl hd;have c4:=QkM l (by omega) 151 (.pd (rPtr p)) (fun q=>decide (p.birth<q.birth)) Tryz.call151 fun q _=>bFanOf1 p q
 generalize l.any (fun q=>decide (p.birth<q.birth))=any at*;refine kE ?_;refine Qa 0 (h:=?_);have c5:=c4.arg (l:=[.d (tPtrs l),.fn (.func 151) [.d (.pd (rPtr p))]])
 repeat' first|refine kS ?_|refine qS (Qf1 rfl) ?_|refine qS (Qd9 cK c5 rfl rfl) ?_|refine kU ?_|refine kV ?_ ?_<;>intro q|fail
 all_goals first
  |(refine QdT 6 true 5 (h:=?_)
    refine Qb (hx:=?_)
    rw[hd.out,if_neg (by simp),if_neg (by simp_all)];rfl)
  |(refine Qb (hx:=?_)
    rw[hd.out,if_neg (by simp),if_pos (by simp_all)];simp_all)
theorem Qok{s:List UInt8}(h:(QaG s).2=true):(QaG s).1.length=4:=by grind [QaG]
theorem Qje{s:Pm.Store}{n:Int}(h:(Qj s p n).2=true)(ht:0<=s.2.2.1)(hp:p.birth<=s.2.2.1):(Qj s p n).1.length=4/\ ∀q∈(Qj s p n).1,Pl.ptrOk q=true/\q.birth<=s.2.2.1:=by
 refine⟨?_,fun q hq=>⟨Qig s p n q hq,?_⟩⟩
 ·grind [Qj,Qok]
 ·unfold Qj at h hq
  split at hq
  ·rw[(List.mem_replicate.1 hq).2];exact ht
  grind
theorem Qr4(f:Pl.Ptr->List Pl.Ptr): ∀l:List Pl.Ptr,(∀p∈l,(f p).length=4)->(l.flatMap f).length=l.length*4
 :=by intro l;induction l<;>grind
def QX(s:Pm.Store)(t:Pl.Tree):List Pl.Ptr×Bool:=if QL s t then((QH s t).1.take t.many.toNat,true) else([],false)
theorem Qrl(s:Pm.Store)(many:Int)(i:Nat)(p:Pl.Ptr)(hp:p.birth<=s.2.2.1):Qat s many i p=((Qi s.1 p).2&&(p.level==0)&& !(decide ((i:Int)≥many)&& !Pl.ptrHole p)):=by grind [Qat,Pl.ptrHole,Pl.hole,Qi]
theorem Qlh{s:Pm.Store}(h:QL s t=true)(htx:0<=s.2.2.1):t.root.birth<=s.2.2.1:=by
 unfold QL at h;simp only[AC] at h;obtain⟨⟨_,h4⟩,h5⟩:=h
 by_cases hh:Pl.ptrHole t.root=true
 ·grind [Pl.hole,Pl.ptrHole]
 unfold QH at h4 h5;rcases hn:t.depth.toNat with _|n
 ·grind [Qbb,Qat]
 grind [Qbb,Qj]
theorem bLeaves(s:Pm.Store)(hg:QU s)(htx:0<=s.2.2.1)(t:Pl.Tree):Pure A5 39 [.pd (rSt s),dTree t] (.tup [tPtrs (QX s t).1,dB (QX s t).2]):=by
 have hd:=Pm.hid (QX.eq_def s t);have hto:A9 (QL s t=(Pl.inR t.many 0 16&&(t.depth==(if t.many<=1 then 0 else if t.many<=4 then 1 else 2))&&Pl.ptrOk t.root&&(QH s t).2&&((QH s t).1.zipIdx.all fun q=>Qat s t.many q.2 q.1))):=Pm.hid rfl;refine kE ?_;refine Qa 0 (h:=?_);cases h1:Pl.inR t.many 0 16
 ·repeat' first|refine kS ?_|refine qD (lC (h1▸bIn t.many 0 16)) ?_|refine kU ?_|fail
  refine QdT 4 true 5 (h:=?_);refine Qb (hx:=?_);rw[hd.out,if_neg (by rw[hto.out,h1];simp)];rfl
 have c1:=h1▸bIn t.many 0 16;have c2:=bDepth t.many;have hdp:(if t.many<=1 then 0 else if t.many<=4 then 1 else 2:Int)=0∨(if t.many<=1 then 0 else if t.many<=4 then 1 else 2:Int)=1∨(if t.many<=1 then 0 else if t.many<=4 then 1 else 2:Int)=2:=by split<;>(try split)<;>simp
 have hdm:t.many<=4^(if t.many<=1 then 0 else if t.many<=4 then 1 else 2:Int).toNat:=by
  simp[Pl.inR] at h1;split
  ·simpa
  ·split
   ·simpa
   ·simpa using h1.2
 generalize (if t.many<=1 then 0 else if t.many<=4 then 1 else 2:Int)=dp at*;cases h3:Pl.ptrOk t.root
 ·repeat' first|refine kS ?_|refine qD (lC (h3▸bPtrOk t.root)) ?_|refine kU ?_|refine kV ?_ ?_<;>intro q|fail
  all_goals
   refine QdT 4 true 5 (h:=?_);refine Qb (hx:=?_);rw[hd.out,if_neg (by rw[hto.out,h3];simp)];rfl
 by_cases h2:t.depth=dp
 rotate_left
 ·repeat' first|refine kS ?_|refine qD (lC (h3▸bPtrOk t.root)) ?_|refine qD (Qdm rfl) ?_|refine kU ?_|refine kV ?_ ?_<;>intro q|fail
  all_goals first
   |(refine QdT 4 true 5 (h:=?_)
     refine Qb (hx:=?_)
     rw[hd.out,if_neg (by rw[hto.out];simp[h2])];rfl)
   |(simp at*;exact absurd ‹_› h2)
 by_cases h4:t.root.birth<=s.2.2.1
 rotate_left
 ·have hno:QL s t≠true:=fun h=>h4 (Qlh h htx)
  repeat' first|refine kS ?_|refine qD (lC (h3▸bPtrOk t.root)) ?_|refine qD (Qdm rfl) ?_|refine kU ?_|refine kV ?_ ?_<;>intro q|fail
  all_goals first
   |(refine QdT 4 true 5 (h:=?_)
     refine Qb (hx:=?_)
     rw[hd.out,if_neg hno];rfl)
   |(simp at*;omega)
 repeat' first|refine kS ?_|refine qD (lC (h3▸bPtrOk t.root)) ?_|refine qD (Qdm rfl) ?_|refine kU ?_|refine kV ?_ ?_<;>intro q|fail
 ·exact absurd h2 (by simpa using q)
 ·simp at q;omega
 have hd2:A9 (QL s t=((QH s t).2&&((QH s t).1.zipIdx.all fun q=>Qat s t.many q.2 q.1))):=Pm.hid (by rw[hto.out,h1,h3,h2];simp);have hlv:A9 (QH s t=Qbb s t.depth.toNat [t.root]):=Pm.hid rfl;have hmany:0<=t.many:=by simp[Pl.inR] at h1;exact h1.1
 clear hto c1 c2 h1;obtain⟨n0,rfl⟩: ∃n0:Nat,dp=n0:=⟨dp.toNat,by omega⟩;have hn0:n0<=2:=by omega
 rw[h2] at hlv;simp only[Int.toNat_natCast] at hlv hdm;clear hdp;generalize hnl:QX s t=res at*;clear hnl;rw[h2];refine Qa 1 (h:=?_)
 refine Qq (fun m st=> ∃(n:Nat) (l:List Pl.Ptr),n<=n0/\m=n/\l.length=4^(n0 -n)/\A9 (∀p∈l,Pl.ptrOk p=true/\p.birth<=s.2.2.1)/\A9 (QH s t=Qbb s n l)/\
  st=⟨112,[(6,.d (tPtrs l)),(7,.d (dI n)),(0,.d (.pd (rSt s))),(3,.d (.pd (rTree t)))],[]⟩) [6,7,0,3] 0 n0 ⟨n0,[t.root],A7 _,rfl,by simp,Pm.hid (by simp[h3,h4]),hlv,by rw[<-h2];rfl⟩ (round:=?_)
 clear hlv;rintro m st ⟨n,l,hn,rfl,hll,hO,hL,rfl⟩
 repeat refine kG ?_
 rcases m with _|n
 ·repeat refine kA ?_
  have hl16:l.length<=16:=by rw[hll];exact AL (AE (by omega) (show n0 -0<=2 by omega)) (by decide)
  have hml:t.many<=((l.map rPtr).length:Int):=by rw[A4,hll];simpa using hdm
  have hd3:A9 (res=if l.zipIdx.all (fun q=>Qat s t.many q.2 q.1)=true then(l.take t.many.toNat,true) else([],false)):=Pm.hid (by rw[hd.out,hd2.out,hL.out];simp only[Qbb,Bool.true_and]);clear hd hd2 hL hll hdm
  refine Qq (fun m st=> ∃(k:Nat),k<=l.length/\m=l.length -k/\A9 ((l.take k).zipIdx.all (fun q=>Qat s t.many q.2 q.1)=true)/\
   st=⟨112,[(74,.d (tPtrs l)),(75,.d (dI l.length)),(76,.d (dI k)),(6,.d (tPtrs l)),(0,.d (.pd (rSt s))),(3,.d (.pd (rTree t)))],[]⟩) [74,75,76,6,0,3] 0 l.length ⟨0,by omega,rfl,Pm.hid rfl,rfl⟩ (round:=?_)
  rintro m st ⟨k,hk,rfl,hA,rfl⟩
  repeat refine kG ?_
  cases q4:decide ((k:Int)<(l.length:Int))
  ·repeat' first|refine kS ?_|refine qS (Qrd rfl rfl rfl rfl hmany hml) ?_|refine kU ?_|fail
   refine Qb (hx:=?_);have:k=l.length:=by simp at q4;omega
   have h:=hA.out;rw[this,A3 (A7 _)] at h;rw[hd3.out,if_pos h];simp only;rw[<-List.map_take]
  have hk2:k<l.length:=by simp at q4;omega
  obtain⟨x,hx⟩: ∃x,l[k]? =some x:=⟨_,A2 hk2⟩;have hr:=Qs (f:=rPtr) hx;have ho:=hO.out x (A1 hx);have h7:=bRead s hg x fun _=>ho.1
  have T:A9 (Qat s t.many k x=true->(l.take (k+1)).zipIdx.all (fun q=>Qat s t.many q.2 q.1)=true):=fun e=>by rw[Qn7 hx,hA.out,e];rfl
  have F:A9 (Qat s t.many k x=false->res=([],false)):=fun e=>by rw[hd3.out,Qld hx e];rfl
  have hlf:A9 (Qat s t.many k x=((Qi s.1 x).2&&(x.level==0)&& !(decide ((k:Int)≥t.many)&& !Pl.ptrHole x))):=Pm.hid (Qrl s t.many k x ho.2);generalize Qat s t.many k x=lf at*;clear hx hO hA hd3 ho;generalize Qi s.1 x=rb at*;obtain⟨tx,fine⟩:=rb;simp only at hlf
  repeat' first|refine kS ?_|refine qS (lC (Qey x)) ?_|refine qS (iy hr) ?_|refine kU ?_|refine kV ?_ ?_<;>intro q|fail
  all_goals clear h7 hr
  all_goals first
   |(have e:lf=false:=by rw[hlf.out];clear T F hlf;simp_all
     refine QdT 4 true 5 (h:=?_);refine Qb (hx:=?_)
     rw[F.out e];rfl)
   |(have e:lf=true:=by rw[hlf.out];clear T F hlf;simp_all
     exact Qg (l.length -(k+1)) (by omega) ⟨k+1,by omega,rfl,Pm.hid (T.out e),rfl⟩)
 have q3:decide (((n+1:Nat):Int)>0)=true:=by simp
 rw[q3]
 repeat refine kA ?_
 refine QeW 8 5 31 (h:=?_);have hll2:l.length<=4:=by rw[hll];exact AL (AE (by omega) (show n0 -(n+1)<=1 by omega)) (by decide)
 have hv:A9 (l.all (fun p=>(Qj s p (n+1:Nat)).2)=false->res=([],false)):=fun e=>by rw[hd.out,hd2.out,hL.out,Qbb,if_neg (by rw[e];simp)]<;>rfl
 refine Qq (fun m st=> ∃(k g:Nat) (out:List Pl.Ptr),k<=l.length/\m=l.length -k/\out.length=4*k/\A9 (out=(l.take k).flatMap fun p=>(Qj s p (n+1:Nat)).1)/\A9 ((l.take k).all (fun p=>(Qj s p (n+1:Nat)).2)=true)/\A9 (∀p∈out,Pl.ptrOk p=true/\p.birth<=s.2.2.1)/\
  st=⟨112,[(8,.osl 0 g 0 out.length),(54,.d (tPtrs l)),(55,.d (dI l.length)),(56,.d (dI k)),(7,.d (dI (n+1:Nat))),(0,.d (.pd (rSt s))),(3,.d (.pd (rTree t)))],[.arr g 5 31 (out.map rPtr)]⟩) [8,54,55,56,7,0,3] 1 l.length ⟨0,0,[],by omega,rfl,by simp,Pm.hid rfl,Pm.hid rfl,Pm.hid (by simp),rfl⟩ (round:=?_)
 rintro m st ⟨k,g,out,hk,rfl,hol,hP,hA,hQ,rfl⟩
 repeat refine kG ?_
 cases q4:decide ((k:Int)<(l.length:Int))
 ·repeat refine kA ?_
  refine Qjk 0 (h:=?_);have:k=l.length:=by simp at q4;omega
  rw[this,A3 (A7 _)] at hP hA;refine Qg n (by omega) ⟨n,out,by omega,rfl,?_,hQ,Pm.hid (by rw[hL.out,Qbb,if_pos hA.out,<-hP.out]),?_⟩
  ·rw[hol,this,hll,show n0 -n=(n0 -(n+1))+1 by omega,Nat.pow_succ];omega
  ·simp[keepE,go_sem,A3]
 have hk2:k<l.length:=by simp at q4;omega
 obtain⟨x,hx⟩: ∃x,l[k]? =some x:=⟨_,A2 hk2⟩;have hr:=Qs (f:=rPtr) hx;have ho:=hO.out x (A1 hx);have hc:=bFanOf s hg x (fun _=>ho.1) (n+1:Nat);obtain⟨f1,f2⟩:=Qnh (level:=(n+1:Nat)) ho.1 ho.2;have G:A9 ((Qj s x (n+1:Nat)).2=true->(Qj s x (n+1:Nat)).1.length=4/\ ∀q∈(Qj s x (n+1:Nat)).1,Pl.ptrOk q=true/\q.birth<=s.2.2.1):=Pm.hid fun e=>Qje e htx ho.2
 have F:A9 ((Qj s x (n+1:Nat)).2=false->res=([],false)):=fun e=>hv.out (by
  rw[AF];exact⟨x,A1 hx,by rw[e];simp⟩)
 have T1:A9 ((l.take (k+1)).flatMap (fun p=>(Qj s p (n+1:Nat)).1)=out++(Qj s x (n+1:Nat)).1):=Pm.hid (by rw[A0,hx,hP.out];simp);have T2:A9 ((Qj s x (n+1:Nat)).2=true->(l.take (k+1)).all (fun p=>(Qj s p (n+1:Nat)).2)=true):=fun e=>by rw[A0,hx,A6,hA.out];simpa using e
 have f2':A9 ((Qj s x (n+1:Nat)).2=true->Qce s x (n+1:Nat)=Qj s x (n+1:Nat)):=Pm.hid f2;clear hx ho hA hP f2 hO hL hd hd2 hv;generalize Qce s x (n+1:Nat)=fb at*;obtain⟨fl,ok⟩:=fb;simp only at f1;subst f1;generalize Qj s x (n+1:Nat)=bb at*;obtain⟨bl,ok⟩:=bb;simp only at f2' T2 G F T1
 have G':A9 (ok=true->fl.length=4/\(∀q∈fl,Pl.ptrOk q=true/\q.birth<=s.2.2.1)/\(l.take (k+1)).flatMap (fun p=>(Qj s p (n+1:Nat)).1)=out++fl):=Pm.hid fun e=>by
  obtain rfl:=(AM (f2'.out e)).1;exact⟨(G.out e).1,(G.out e).2,T1.out⟩
 clear G f2' T1
 repeat' first|refine kS ?_|refine qS (iy hr) ?_|refine Qe1 Ty.h rfl Ty.h (hb:=?_) (hcell:=?_) (kk:=?_)|refine kU ?_|refine kV ?_ ?_<;>intro q|fail
 ·refine QdT 4 true 5 (h:=?_)
  refine Qb (hx:=?_);rw[F.out (by simpa using ‹(!ok)=true›)];rfl
 ·exact Qd0 fl
 ·have e:ok=true:=by simpa using ‹(!ok)=false›
  have:=(G'.out e).1;simp;omega
 ·have e:ok=true:=by simpa using ‹(!ok)=false›
  obtain⟨h4,h5,h6⟩:=G'.out e;refine Qg (l.length -(k+1)) (by omega) ⟨k+1,g+1,out++fl,by omega,rfl,by simp;omega,Pm.hid h6.symm,Pm.hid (T2.out e),Pm.hid ?_,?_⟩
  ·intro p hp
   rcases List.mem_append.1 hp with hp|hp
   ·exact hQ.out p hp
   ·exact h5 p hp
  ·simp[keepE,go_sem]

/- Of parts_card; no condition. -/
import Derived.Test.YtilenknaajikpaaGreatDoorP11
import Derived.Test.YtilenknaajikpaaGreatDoorP14
import Derived.Test.YtilenknaajikpaaGreatDoorP16
set_option linter.all false
set_option maxRecDepth 100000
set_option maxHeartbeats 16000000
open Bool renaming and_eq_true->A7,and_true->Ai
open Go renaming Program->AN,TypeId->Ab,FuncId->Ag
open Go.Op renaming operands->Ao
open Go.Proofs.Tryz renaming prog->A1
open Go.Result renaming andThen_ok->AY
open Go.RowKit renaming Hid->AK
open Go.RowKit.Below renaming refl->Af
open Go.Sem renaming run_bind->Al
open List renaming getElem?_eq_getElem->A0,mem_of_getElem?->A2,take_add_one->A3,length_map->A4,getElem?_eq_some_iff->A5,take_of_length_le->A6,findIdx?_eq_some_iff_getElem->A8,take_length->A9,length_cons->AA,all_eq_true->AB,all_append->AC,getElem?_map->AD,flatMap_cons->AE,findIdx?_eq_none_iff->AF,mem_append->AG,mem_map->AI,mem_flatMap->AJ,getD_eq_getElem?_getD->AL,ext_getElem?->AM,getElem?_set_self->AO,mem_iff_getElem?->AR,mem_append_right->AS,mem_append_left->AT,getElem?_take->AX,all_eq_false->AZ,intersperse->Aa,cons_append->Ac,map_append->Ae,all_cons->Ah,map_map->Aj,set_set->Am,all_nil->An
open Nat renaming le_refl->AH,le_trans->AP,pow_le_pow_right->AU,mul_le_mul_right->AW,succ_mul->Ak
open Option.some renaming inj->AQ
open Prod.mk renaming inj->Ad
namespace Go.Proofs.YtilenknaajikpaaGreatDoor
noncomputable section
section
open Go.RowKit
namespace Aw
attribute [local irreducible] ASeq ADraw AWP Loc AStep
def Qee(p:Pl.Ptr):Pure A1 88 [dPtr p] (dB (Pl.ptrHole p)):=Qd6 rfl fun w _=>Pm.Qjm p w
def bIn(a b c:Int):Pure A1 58 [dI a,dI b,dI c] (dB (Pl.inR a b c)):=Qd6 rfl fun w _=>(Pm.imIn a b c w).mono fun _ _ h=>⟨h.1,h.2▸Af _ _⟩
def bIsRow(a:Int):Pure A1 143 [dI a] (dB (Pl.inR a 8 63)):=by
 refine kB ?_
 repeat' first|refine kS ?_|refine qS (Qds cK (bIn _ _ _) rfl) ?_|refine kU ?_|fail
 exact Qb (hx:=rfl)
theorem bPtrOk(p:Pl.Ptr):Pure A1 87 [dPtr p] (dB (Pl.ptrOk p)):=by
 have hd:=Pm.hid (QkF p);have c:=Qee p;generalize Pl.ptrOk p=r at*;generalize Pl.ptrHole p=h at*;obtain⟨x1,x2,x3,x4,x5⟩:=p;simp only at hd;refine kE ?_;refine Qa 0 (h:=?_)
 repeat' first|refine kS ?_|refine qS (Qds cK (bIsRow _) rfl) ?_|refine qS (Qds cK (bIn _ _ _) rfl) ?_|refine kU ?_|refine kV ?_ ?_<;>intro q|fail
 all_goals exact Qb (hx:=congrArg dB (by rw[hd.out];simp_all))
def bSumOf(s:List UInt8)(h:s.length<=Pm.big):Pure A1 213 [dS s] (dI (Pl.sumOf s:Nat)):=Qd6 rfl fun w _=>(Pm.imSumOf s w h).mono fun e w' h=>⟨h.1,h.2▸Af _ _⟩
def bNumPut(n:Int):Pure A1 206 [dI n] (dS (Pl.numPut n)):=Qd6 rfl fun w hL=>Pm.QkU n w hL
def bNumGet(s:List UInt8)(hs:s.length<=Pm.big):Pure A1 151 [dS s] (.tup [dI ((Pl.numGet s).getD 0:Nat),dB (Pl.numGet s).isSome]):=
 Qfr (xs:=[.int .i64 ((Pl.numGet s).getD 0:Nat),.bool (Pl.numGet s).isSome]) rfl fun w hL=>(Pm.Qo4 s w hs hL).mono fun e w' h=>⟨h.1.trans (by cases Pl.numGet s<;>rfl),h.2⟩
def bPtrPut(p:Pl.Ptr):Pure A1 244 [dPtr p] (dS (Pl.ptrPut p)):=Qd6 rfl fun w hL=>Pm.Qo3 p w hL
def bPtrGet(s:List UInt8)(hs:s.length<=4294967280):Pure A1 214 [dS s] (.tup [dPtr (QE s).1,dB (QE s).2]):=by
 refine Qfr (xs:=[Pm.vptr (QE s).1,.bool (QE s).2]) rfl fun w hL=>(Pm.Qud s w hs hL).mono ?_
 rintro e w' ⟨h|h,hb⟩
 ·obtain⟨p,hp,rfl⟩:=h
  rw[pg_is hp];exact⟨rfl,hb⟩
 ·rw[QuX h.1];exact⟨h.2,hb⟩
theorem Qu1(p:Pl.Ptr)(s:List UInt8)(hs:s.length<=Pm.big):Pure A1 166 [dPtr p,dS s] (dB (QaX p s)):=by
 refine kE ?_;refine Qa 0 (h:=?_)
 repeat' first|refine kS ?_|refine qD (lC (bPtrOk p)) ?_|refine qD (lC (Qee p)) ?_|refine qD (lC (bSumOf s hs)) ?_|refine kU ?_|refine kV ?_ ?_<;>intro q|fail
 all_goals exact Qb (hx:=congrArg dB (by simp_all[QaX]))
theorem bRead(s:Pm.Store)(hg:QM s)(p:Pl.Ptr)(hp:Pl.ptrHole p=false->Pl.ptrOk p=true):Pure A1 111 [.pd (rSt s),dPtr p] (.tup [dS (Qj s.1 p).1,dB (Qj s.1 p).2]):=by
 have hd:=Pm.hid (Qj.eq_def s.1 p);refine kE ?_;refine Qa 0 (h:=?_);cases h1:Pl.ptrHole p;rotate_left
 ·repeat' first|refine kS ?_|refine qS (lC (h1▸Qee p)) ?_|refine kU ?_|fail
  all_goals exact Qb (hx:=by rw[hd.out,h1];rfl)
 ·have hat:=QdP (hp h1) h1
  have hm:=hg.many;obtain⟨x,hx⟩: ∃x,s.1[p.pat.toNat]? =some x:=⟨_,A0 (by omega)⟩;have hr:(s.1.map fun s=>[dS s])[p.pat.toNat]? =some [dS x]:=by rw[AD,hx];rfl
  have hgd:s.1.getD p.pat.toNat []=x:=by rw[AL,hx];rfl
  have hxl:x.length<=Pm.big:=by have:=hg.row x (A2 hx);unfold Pm.big;omega
  rw[hgd,h1] at hd;clear hx hgd
  repeat' first|refine kS ?_|refine qD (Qdq rfl) ?_|refine qS (lC (h1▸Qee p)) ?_|refine qD (lC (Qu1 p x hxl)) ?_|refine qD (Qdc Ty.h rfl Ty.h rfl rfl rfl hat.1 hr) ?_|refine kU ?_|refine kV ?_ ?_<;>intro q|fail
  ·refine Qb (hx:=?_)
   rw[hd.out];simp_all
  ·refine Qb (hx:=?_)
   rw[hd.out];simp_all
def Qu5(p:Pl.Ptr):Pure A1 247 [dPtr p] (dB (!Pl.ptrHole p)):=by
 refine kE ?_;refine Qa 0 (h:=?_)
 repeat' first|refine kS ?_|refine qS (lC (Qee p)) ?_|refine kU ?_|fail
 exact Qb (hx:=rfl)
def bFanOf1(p k:Pl.Ptr):Pure A1 173 [dPtr k,.pd (rPtr p)] (dB (decide (p.birth<k.birth))):=by
 refine kE ?_;refine Qa 0 (h:=?_)
 repeat refine kA ?_
 exact Qb (hx:=rfl)
def QbY(l:List Pl.Ptr)(pr:Pl.Ptr->Bool):Int:=match l.findIdx? pr with
 |some i=>(i:Int)
 |none=> -1
def Qo5(l:List Pl.Ptr)(pr:Pl.Ptr->Bool):decide (QbY l pr≥0)=l.any pr:=by
 unfold QbY;cases h:l.findIdx? pr with
 |none=>
  rw[AF] at h;have:l.any pr=false:=by rw[List.any_eq_false];intro x hx;rw[h x hx];simp
  rw[this];rfl
 |some i=>
  obtain⟨hi,h1,_⟩:=A8.1 h;have:l.any pr=true:=List.any_eq_true.2 ⟨_,List.getElem_mem hi,h1⟩;rw[this];simp
theorem Qqu(l:List Pl.Ptr)(hl:l.length<=1000000)(f:Ag)(pr:Pl.Ptr->Bool)(hf: ∀args w,(callFunc f args).run A1 w= .ok (.enter f args) w)(h: ∀p∈l,Pure A1 f [dPtr p] (dB (pr p))):
 PureF A1 220 [.d (dPtrs l),.fn (.func f) []] (dI (QbY l pr)):=by
 refine kF ?_
 repeat refine kA ?_
 refine Qs (fun m st=> ∃k:Nat,k<=l.length/\m=l.length -k/\AK (∀x∈l.take k,pr x=false)/\st=⟨19,[(8,.d (dI k)),(7,.d (dI l.length)),(0,.d (dPtrs l)),(1,.fn (.func f) [])],[]⟩) [8,7,0,1] 0 l.length ⟨0,by omega,rfl,Pm.hid (by simp),rfl⟩ (round:=?_);rintro m st ⟨k,hk,rfl,hA,rfl⟩
 repeat refine kG ?_
 cases q3:decide ((k:Int)<(l.length:Int))
 ·repeat refine kA ?_
  refine QY (hx:=?_);have:k=l.length:=by simp at q3;omega
  have h:=hA.out;rw[this,A9] at h;have:l.findIdx? pr=none:=AF.2 h;unfold QbY;rw[this]
 have hk2:k<l.length:=by simp at q3;omega
 obtain⟨x,hx⟩: ∃x,l[k]? =some x:=⟨_,A0 hk2⟩;have hr:=Qu (f:=rPtr) hx
 have T:AK (pr x=false-> ∀y∈l.take (k+1),pr y=false):=Pm.hid fun h y hy=>by
  rw[A3,hx] at hy;rcases AG.1 hy with hy|hy
  ·exact hA.out y hy
  ·simp at hy;subst hy;exact h
 have F:AK (pr x=true->QbY l pr=k):=Pm.hid fun h=>by
  have:l.findIdx? pr=some k:=by
   rw[A8];refine⟨hk2,?_,fun j hj=>?_⟩
   ·rw[(A5.1 hx).2];exact h
   ·have:=hA.out l[j] (AR.2 ⟨j,by rw[AX,if_pos hj];exact A0 (by omega)⟩)
    rw[this];simp
  unfold QbY;rw[this]
 have c:=h x (A2 hx);clear hx hA;generalize pr x=b at*
 repeat' first|refine kS ?_|refine qS (iy hr) ?_|refine qS (Qe0 hf c rfl rfl) ?_|refine kU ?_|refine kV ?_ ?_<;>intro q|fail
 all_goals first|exact Qn (l.length -(k+1)) (by omega) ⟨k+1,by omega,rfl,Pm.hid (T.out (by assumption)),rfl⟩|refine QY (hx:=?_);rw[F.out (by assumption)]
def Qlq(l:List Pl.Ptr)(hl:l.length<=1000000)(f:Ag)(pr:Pl.Ptr->Bool)(hf: ∀args w,(callFunc f args).run A1 w= .ok (.enter f args) w)(h: ∀p∈l,Pure A1 f [dPtr p] (dB (pr p))):
 PureF A1 172 [.d (dPtrs l),.fn (.func f) []] (dB (l.any pr)):=by
 have c:=Qqu l hl f pr hf h;have hd:=Pm.hid (Qo5 l pr);generalize QbY l pr=i at*;refine kF ?_
 repeat' first|refine kS ?_|refine qS (QdX cK c rfl rfl) ?_|refine kU ?_|fail
 refine QY (hx:=?_);rw[<-hd.out]
theorem Qqt(l:List Pl.Ptr)(hl:l.length<=1000000)(f:Ag)(cap:D)(pr:Pl.Ptr->Bool)(hf: ∀args w,(callFunc f args).run A1 w= .ok (.enter f args) w)(h: ∀p∈l,Pure A1 f [dPtr p,cap] (dB (pr p))):
 PureF A1 220 [.d (dPtrs l),.fn (.func f) [.d cap]] (dI (QbY l pr)):=by
 refine kF ?_
 repeat refine kA ?_
 refine Qs (fun m st=> ∃k:Nat,k<=l.length/\m=l.length -k/\AK (∀x∈l.take k,pr x=false)/\st=⟨19,[(8,.d (dI k)),(7,.d (dI l.length)),(0,.d (dPtrs l)),(1,.fn (.func f) [.d cap])],[]⟩) [8,7,0,1] 0 l.length ⟨0,by omega,rfl,Pm.hid (by simp),rfl⟩ (round:=?_);rintro m st ⟨k,hk,rfl,hA,rfl⟩
 repeat refine kG ?_
 cases q3:decide ((k:Int)<(l.length:Int))
 ·repeat refine kA ?_
  refine QY (hx:=?_);have:k=l.length:=by simp at q3;omega
  have h:=hA.out;rw[this,A9] at h;have:l.findIdx? pr=none:=AF.2 h;unfold QbY;rw[this]
 have hk2:k<l.length:=by simp at q3;omega
 obtain⟨x,hx⟩: ∃x,l[k]? =some x:=⟨_,A0 hk2⟩;have hr:=Qu (f:=rPtr) hx
 have T:AK (pr x=false-> ∀y∈l.take (k+1),pr y=false):=Pm.hid fun h y hy=>by
  rw[A3,hx] at hy;rcases AG.1 hy with hy|hy
  ·exact hA.out y hy
  ·simp at hy;subst hy;exact h
 have F:AK (pr x=true->QbY l pr=k):=Pm.hid fun h=>by
  have:l.findIdx? pr=some k:=by
   rw[A8];refine⟨hk2,?_,fun j hj=>?_⟩
   ·rw[(A5.1 hx).2];exact h
   ·have:=hA.out l[j] (AR.2 ⟨j,by rw[AX,if_pos hj];exact A0 (by omega)⟩)
    rw[this];simp
  unfold QbY;rw[this]
 have c:=h x (A2 hx);clear hx hA;generalize pr x=b at*
 repeat' first|refine kS ?_|refine qS (iy hr) ?_|refine qS (Qe0 hf c rfl rfl) ?_|refine kU ?_|refine kV ?_ ?_<;>intro q|fail
 all_goals first|exact Qn (l.length -(k+1)) (by omega) ⟨k+1,by omega,rfl,Pm.hid (T.out (by assumption)),rfl⟩|refine QY (hx:=?_);rw[F.out (by assumption)]
def Qlp(l:List Pl.Ptr)(hl:l.length<=1000000)(f:Ag)(cap:D)(pr:Pl.Ptr->Bool)(hf: ∀args w,(callFunc f args).run A1 w= .ok (.enter f args) w)(h: ∀p∈l,Pure A1 f [dPtr p,cap] (dB (pr p))):
 PureF A1 172 [.d (dPtrs l),.fn (.func f) [.d cap]] (dB (l.any pr)):=by
 have c:=Qqt l hl f cap pr hf h;have hd:=Pm.hid (Qo5 l pr);generalize QbY l pr=i at*;refine kF ?_
 repeat' first|refine kS ?_|refine qS (QdX cK c rfl rfl) ?_|refine kU ?_|fail
 refine QY (hx:=?_);rw[<-hd.out]
def QW(b:UInt8)(l:List (List UInt8)):List UInt8:=(l.intersperse [b]).flatten
def Qhr(b:UInt8)(s:List UInt8):QW b (Pl.cutB b s)=s:=Pl.Qh3 b s
def QrU(b:UInt8)(l:List (List UInt8)):Lib.join ((l.map Pl.ba).map (·.data.toList)) (Pl.ba [b]).data.toList=QW b l:=by
 have e:(l.map Pl.ba).map (·.data.toList)=l:=by
  rw[Aj]
  conv=>rhs;rw[<-List.map_id l]
  exact List.map_congr_left fun s _=>Pl.Qha s
 rw[e,Pl.Qha];unfold Lib.join QW
 first|rfl|simp[List.intercalate]
theorem bSplit(s:List UInt8)(b:UInt8)(hs:s.length<=4294967280):Pure A1 63 [dS s,dS [b]] (tStrs (Pl.cutB b s)):=by
 intro B σ S H w cargs hB hS hl hr;have hc:=Qf7 (l:=[dS s,dS [b]]) (vs:=[.string ⟨s.toArray⟩,.string ⟨#[b]⟩]) rfl hl hr;subst hc;obtain⟨m,hm⟩:=(hB.ltOf hS).maxl;have h:=Pl.QiK b s.length s (AH _);refine(Tryz.strings_Split (Pl.ba s) (Pl.ba [b]) m w (by rw[Pl.Qgu];omega) hm (by rw[Pl.Qgu];simp)).mono fun e w' ⟨he,hw⟩=>?_
 rw[h.1,Aj] at hw;rw[h.2] at he;subst hw;refine⟨_,he,Pm.bnew _ _,?_⟩;have hR:=Pm.Row.new w ((Pl.cutB b s).map (Value.string ∘ Pl.ba)).toArray 9;have hlen:(Pl.cutB b s).length=((Pl.cutB b s).map fun s=>[dS s]).length:=by simp
 rw[hlen];refine .sl true 1 _ w.heap.size 0 _ (fun i _=> .string ⟨((Pl.cutB b s).getD i []).toArray⟩) (.inr ⟨AH _,by simp⟩) (fun r hr=>?_) (fun _=>AH _) (fun i j r d hi hj=>?_) fun i j r d hi hj=>?_
 ·obtain⟨x,_,rfl⟩:=AI.1 hr;rfl
 all_goals
  rw[AD] at hi;cases hx:(Pl.cutB b s)[i]? with
  |none=>rw[hx] at hi;cases hi
  |some x=>
   rw[hx] at hi;obtain rfl:=AQ hi;have hj0:j=0:=by have:=(A5.1 hj).1;simp at this;omega
   subst hj0;have hgd:(Pl.cutB b s).getD i []=x:=by rw[AL,hx];rfl
   rw[hgd]
   first|(have:=hR.get i (v:= .string ⟨x.toArray⟩) (by simp[hx,Pl.ba]);simpa using this;done)|simp at hj;subst hj;exact .v _
def Qpv{S:Nat->Prop}{w:World}{l:List (List UInt8)}{v:Value}{d:D}(h:RelD S w d v)(hd:d= .sl true 1 (l.map fun s=>[dS s])):
 (l=[]/\ ∃a cap,v= .slice a 0 cap)∨ ∃bk o cap,v= .slice (some ⟨bk,o,none⟩) l.length cap/\l.length<=cap/\S bk/\ ∀(j:Nat) x,l[j]? =some x->w.cell? ⟨bk,o+j,none⟩=some (.string ⟨x.toArray⟩):=by
 cases h<;>try (simp at hd;done)
 ·rename_i c' n a cap
  simp only[D.sl.injEq] at hd;exact .inl ⟨by simpa using hd.2.2.symm,a,cap,rfl⟩
 ·rename_i c' n l' b o cap g hb hn hcap hc hr
  simp only[D.sl.injEq] at hd;obtain⟨rfl,rfl,rfl⟩:=hd;have hc':=hcap rfl;refine .inr ⟨b,o,cap,by simp,by simpa using hc',hb,fun j x hx=>?_⟩;have hi:(l.map fun s=>[dS s])[j]? =some [dS x]:=by rw[AD,hx];rfl
  have h1:=hc j 0 _ _ hi rfl;have h2:=hr j 0 _ _ hi rfl;rw[Nat.mul_one,Nat.add_zero] at h1;rw[h1];generalize g j 0=y at h2;cases h2;rfl
def bJoin(l:List (List UInt8))(b:UInt8)(hn:l.length<=140737488355328)(hlen:(QW b l).length<=140737488355328):Pure A1 113 [tStrs l,dS [b]] (dS (QW b l)):=by
 intro B σ S H w cargs hB hS hl hr
 match cargs,hl with
 |[v,u],_=>
  have h1:=hr 0 _ v rfl rfl;have h2:=hr 1 _ u rfl rfl;obtain rfl:u= .string ⟨#[b]⟩:=by cases h2;rfl
  rcases Qpv h1 rfl with⟨rfl,a,cap,rfl⟩|⟨bk,o,cap,rfl,hcap,hb,hc⟩
  ·refine(Tryz.strings_Join_none a cap (Pl.ba [b]) w).mono fun e w' ⟨he,hw⟩=>⟨_,he,hw▸Af _ _,.v _⟩
  ·have k:=Tryz.strings_Join bk o cap (l.map Pl.ba) (Pl.ba [b]) w (fun j x hx=>by
    rw[AD] at hx;cases hy:l[j]? with
    |none=>rw[hy] at hx;cases hx
    |some y=>rw[hy] at hx;obtain rfl:=AQ hx;exact hc j y hy) (hS.sUp bk hb).1 (by rw[A4];exact hn) (by rw[A4];exact hcap) (by rw[QrU];exact hlen)
   rw[QrU,A4] at k;exact k.mono fun e w' ⟨he,hw⟩=>⟨_,he,hw,.v _⟩
def Qji(b:UInt8)(l:List (List UInt8))(m:Nat)(h: ∀x∈l,x.length<=m):(QW b l).length<=l.length*(m+1):=by
 induction l with
 |nil=>simp[QW]
 |cons a l ih=>
  have h1:=h a List.mem_cons_self;have ih:=ih fun x hx=>h x (List.mem_cons_of_mem _ hx)
  cases l with
  |nil=>simp[QW];omega
  |cons c l=>
   have e:QW b (a::c::l)=a++b::QW b (c::l):=by simp[QW,Aa]
   rw[e,List.length_append,AA,AA,Ak];omega
def QZ(l:List Pl.Ptr):List UInt8×Bool:=if l.length=4/\l.any (fun p=> !Pl.ptrHole p)=true/\l.all Pl.ptrOk=true then(QW 44 (l.map Pl.ptrPut),true) else([],false)
def Qgc(p:Pl.Ptr):(Pl.ptrPut p).length<=100:=by
 unfold Pl.ptrPut;split
 ·split
  ·decide
  ·unfold Pl.ptrText Pl.dots
   rename_i h _;have hb:=Pl.QdC h;have h1:=Pl.Qdb 8 p.pat.toNat (by omega);have h2:=Pl.Qdb 8 p.birth.toNat (by omega);have h3:=Pl.Qdb 8 p.size.toNat (by omega);have h4:=Pl.Qdb 8 p.sum.toNat (by omega);have h5:=Pl.Qdb 8 p.level.toNat (by omega);simp[Aa];omega
 ·decide
theorem bFanPut(l:List Pl.Ptr)(hl:l.length<=1000):Pure A1 219 [dPtrs l] (.tup [dS (QZ l).1,dB (QZ l).2]):=by
 have c1:=Qlq l (by omega) 247 (fun p=> !Pl.ptrHole p) Tryz.call247 fun p _=>Qu5 p
 have hd:=Pm.hid (QZ.eq_def l)
 by_cases h0:l.length=4/\l.any (fun p=> !Pl.ptrHole p)=true
 rotate_left
 ·have hx:AK (QZ l=([],false)):=Pm.hid (by rw[hd.out,if_neg (fun h=>h0 ⟨h.1,h.2.1⟩)])
  clear hd;generalize l.any (fun p=> !Pl.ptrHole p)=any at*;refine kB ?_
  repeat' first|refine kS ?_|refine qS (QdX cK c1 rfl rfl) ?_|refine kU ?_|refine kV ?_ ?_<;>intro q|fail
  all_goals first|refine Qb (hx:=?_);rw[hx.out];done|skip;rw[hx.out];rfl;done|exfalso;apply h0;simp only[bne_eq_false_iff_eq] at*;refine⟨by omega,?_⟩;simp_all;done
 obtain⟨h4,hany⟩:=h0;rw[hany] at c1
 have hd2:AK (QZ l=if l.all Pl.ptrOk=true then(QW 44 (l.map Pl.ptrPut),true) else([],false)):=Pm.hid (by
  rw[hd.out]
  by_cases h:l.all Pl.ptrOk=true
  ·rw[if_pos ⟨h4,hany,h⟩,if_pos h]
  ·rw[if_neg (fun x=>h x.2.2),if_neg h])
 have cj:=bJoin (l.map Pl.ptrPut) 44 (by simp;omega) (by
  have:=Qji 44 (l.map Pl.ptrPut) 100 (fun x hx=>by obtain⟨p,_,rfl⟩:=AI.1 hx;exact Qgc p)
  rw[A4] at this;omega)
 clear hd hany;refine kB ?_
 repeat' first|refine kS ?_|refine qS (QdX cK c1 rfl rfl) ?_|refine kU ?_|refine kV ?_ ?_<;>intro q|fail
 ·exfalso;simp only[bne_iff_ne] at*;omega
 refine Qfk 4 1 9 (h:=?_)
 refine Qs (fun m st=> ∃(k g:Nat) (out:List (List UInt8)),k<=l.length/\m=l.length -k/\out.length=k/\AK (out=(l.take k).map Pl.ptrPut)/\AK ((l.take k).all Pl.ptrOk=true)/\
  st=⟨32,[(17,.d (dI k)),(16,.d (dI l.length)),(15,.d (dPtrs l)),(4,.osl 0 g 0 out.length)],[.arr g 1 9 (out.map fun s=>[dS s])]⟩) [17,16,15,4] 1 l.length ⟨0,0,[],by omega,rfl,rfl,Pm.hid rfl,Pm.hid rfl,rfl⟩ (round:=?_)
 rintro m st ⟨k,g,out,hk,rfl,hlen,hO,hA,rfl⟩
 repeat refine kG ?_
 cases q3:decide ((k:Int)<(l.length:Int))
 ·have hk3:k=l.length:=by simp at q3;omega
  rw[hk3,A9] at hO hA;rw[hA.out,if_pos rfl] at hd2;have ho:=hO.out;rw[<-ho] at cj hd2;clear hO hA ho
  repeat refine kG ?_
  refine Qe4 0 (h:=?_)
  repeat refine kA ?_
  refine Qb (hx:=?_);rw[hd2.out]
 have hk2:k<l.length:=by simp at q3;omega
 obtain⟨x,hx⟩: ∃x,l[k]? =some x:=⟨_,A0 hk2⟩;have hr:=Qu (f:=rPtr) hx;have T1:AK ((l.take (k+1)).map Pl.ptrPut=out++[Pl.ptrPut x]):=Pm.hid (by rw[A3,hx,hO.out];simp);have T2:AK (Pl.ptrOk x=true->(l.take (k+1)).all Pl.ptrOk=true):=Pm.hid fun h=>by rw[A3,hx,AC,hA.out];simpa using h
 have F:AK (Pl.ptrOk x=false->QZ l=([],false)):=Pm.hid fun h=>by
  rw[hd2.out,if_neg];intro h2;have:=AB.1 h2 x (A2 hx);rw[h] at this;cases this
 have c2:=bPtrOk x;have c3:=bPtrPut x;clear hx hO hA hd2 cj c1;generalize Pl.ptrOk x=ok at*;generalize Pl.ptrPut x=t at*;obtain⟨p1,p2,p3,p4,p5⟩:=x
 repeat' first|refine kS ?_|refine qS (iy hr) ?_|refine QU Ty.h rfl Ty.h (hb:=?_) (kk:=?_)|refine kU ?_|refine kV ?_ ?_<;>intro q|fail
 all_goals first|simp;omega|refine Qn (l.length -(k+1)) (by omega) ⟨k+1,g+1,out++[t],by omega,rfl,by simp[hlen],Pm.hid T1.out.symm,Pm.hid (T2.out (by simpa using q)),?_⟩;simp[keepE,go_sem];done|refine Qb (hx:=?_);rw[F.out (by simpa using q)]|skip;rw[F.out (by simpa using q)];rfl
end Aw
end
section
open Go.RowKit
namespace Aw
namespace Fk
variable{P:AN}{ops:List Oper}{fl ms:List Nat}{l:List (Nat×Nat×Blk)}{ts:Tl}{QS:St->Prop}{off m:Nat}{s:St}
def aw_planN0(h:ADraw P ops.toArray QS (segF fl ops.length off (ops.drop off)) s):PlanF P ops fl ⟨l,[]⟩ ts QS [] off s:=⟨fun _=>kps_nil,h⟩
def aw_planC0{o:Oper}(h:ADraw P ops.toArray (AStepM P ops.toArray o (kap ops ⟨l,[]⟩ m) (Gs m ts (PlanF P ops fl ⟨l,[]⟩ ts QS ms (m+1)))) (segF fl m off (ops.drop off)) s)(h1:Nat.ble off m=true:=by rfl)(h2:barOkF ops fl m=true:=by kernel_rfl)(ho:ops[m]? =some o:=by rfl):PlanF P ops fl ⟨l,[]⟩ ts QS (m::ms) off s:=
 ⟨fun _=>kps_nil,h1,h2,o,ho,h⟩
end Fk
end Aw
end
section
open Go.RowKit
namespace Aw
variable{ρ:Nat->Nat}{gvs:List Value}{p:Pl.Ptr}
def setD:List D->Nat->List D->List D
 |r,_,[]=>r
 |r,o,x::l=>setD (r.set o x) (o+1) l
theorem Qoi: ∀(l:List D) (r:List D) (o i:Nat),o+l.length<=r.length->(setD r o l)[i]? =if o<=i/\i<o+l.length then l[i -o]? else r[i]?
 |[],r,o,i,_=>by rw[if_neg (by grind),setD]
 |x::l,r,o,i,h=>by
  show(setD (r.set o x) (o+1) l)[i]? =_;rw[AA] at h;rw[Qoi l (r.set o x) (o+1) i (by grind),AA]
  grind
theorem Qt1{l r:List D}(h:l.length=r.length):setD r 0 l=l:=by
 refine AM fun i=>?_
 rw[Qoi l r 0 i (by omega)]
 grind
theorem QlE{P:AN}{B:Bs}{S:Nat->Prop}{k g sz i b:Nat}{T:Ab}: ∀(l:List D) (vs:List Value) {σ:Sg} {H:List Blk} {w:World} {rows:List (List D)} {r:List D} (j0:Nat),Sm B σ S H w->σ k=some b->H[k]? =some (.arr g sz T rows)->rows[i]? =some r->vs.length=l.length->
 (∀(j:Nat) x,l[j]? =some x-> ∃v,vs[j]? =some v/\Rel σ S H w (.d x) v/\v.oneCell'=true)->j0+l.length<=r.length->
 ∃w',(storeCells ⟨b,i*sz,none⟩ vs j0).run P w= .ok () w'/\Sm B σ S (H.set k (.arr g sz T (rows.set i (setD r j0 l)))) w'/\Ev σ S H w σ S (H.set k (.arr g sz T (rows.set i (setD r j0 l)))) w'
 |[],[],σ,H,w,rows,r,j0,hS,_,hk,hr,_,_,_=>by
  have hset2:rows.set i r=rows:=by
   apply AM
   grind
  have hset:H.set k (.arr g sz T rows)=H:=by
   apply AM
   grind
  exact⟨w,rfl,by simpa[setD,hset,hset2] using hS,by simpa[setD,hset,hset2] using Ev.refl σ S H w⟩
 |[],v::vs,_,_,_,_,_,_,_,_,_,_,hl,_,_=>by simp at hl
 |x::l,[],_,_,_,_,_,_,_,_,_,_,hl,_,_=>by simp at hl
 |x::l,v::vs,σ,H,w,rows,r,j0,hS,hb,hk,hr,hl,hv,hlen=>by
  obtain⟨v',hv',hx,ho⟩:=hv 0 x rfl;simp at hv';subst hv';have hlt:j0<r.length:=by grind
  have hil:i<rows.length:=(A5.1 hr).1;have hkl:k<H.length:=(A5.1 hk).1;have hxd:RelD S w x v:=by cases hx;omega
  obtain⟨_,hbk⟩:=hS.blk k _ hk;rcases hbk with⟨b',cs,hb',hc,hrel⟩|⟨hb',_⟩;rotate_left
  ·grind
  rw[hb] at hb';obtain rfl:=AQ hb';obtain⟨c,hcc,_⟩:=hrel i j0 r _ hr (A0 hlt);have hcell:w.cell? ⟨b,i*sz+j0,none⟩=some c:=by rw[cell_of_row w b _ cs T (0,0) hc];exact hcc
  have hfr:w.frozen? ⟨b,i*sz+j0,none⟩=false:=frozen_of_row w b _ cs T hc;obtain⟨h1,h2⟩:=hS.setArr hb hk hr hlt hxd
  obtain⟨w',h3,h4,h5⟩:=QlE l vs (rows:=rows.set i (r.set j0 x)) (r:=r.set j0 x) (j0+1) h1 hb (AO hkl) (AO hil) (by grind)
   (fun j y hy=>by
     obtain⟨u,hu,hru,hou⟩:=hv (j+1) y (by grind)
     exact⟨u,by grind,hru.mono h2,hou⟩) (by grind)
  refine⟨w',?_,?_,?_⟩
  ·unfold storeCells
   rw[Al];have:(⟨b,i*sz,none⟩:Addr).add j0=⟨b,i*sz+j0,none⟩:=Qef b (i*sz) j0;rw[this,QiJ hcell hfr ho,AY];exact h3
  ·simp only[Am] at h4
   exact h4
  ·simp only[Am] at h5
   exact h2.trans h5
theorem QnF{P:AN}{T T0:Ab}{F:TyF}{u v:Operand}{k g i sz:Nat}{rows:List (List D)}{r l:List D}{ty:Ab}{pos:String}{after:Array Edge}{gd:Option (Nat×Bool)}{env:List (Nat×AV)}{H:List Blk}
 (hT:tyf P T=some F) (hu:aval env u= .ept k g i 0) (hk:H[k]? =some (.arr g sz T0 rows)) (hr:rows[i]? =some r) (hv:(aval env v).cells=some (l.map .d)) (hone:l.all D.cell=true) (hl:l.length=sz) (hsz:F.size=sz):
 Eff P ⟨none,.store T u v,ty,pos,after,gd⟩ env H (.d (.v undef)) (H.set k (.arr g sz T0 (rows.set i l))):=by
 intro B σ S a w hB hS hop K Q kk;have h1:=hop u (by simp[Ao]);rw[hu] at h1;generalize hx:a.eval u=y at h1;cases h1 with
 |ept _ _ _ _ _ _ g' sz' T' rows' hk' hg hh=>
  rw[hk] at hk';obtain⟨rfl,rfl,rfl,rfl⟩:g=g'/\sz=sz'/\T0=T'/\rows=rows':=by grind
  obtain⟨b,hb,rfl⟩:=hh rfl;obtain⟨hs1,hs2⟩:=AV.cells_rel (hop v (by simp[Ao])) hv;have hrs:r.length=sz:=(hS.blk k _ hk).1 r (A2 hr)
  obtain⟨w',h3,h4,h5⟩:=QlE (P:=P) l (a.eval v).cells.toList 0 hS hb hk hr (by grind) (fun j y hy=>by
   obtain⟨c,hc,hr⟩:=hs2 j (.d y) (by grind)
   exact⟨c,by grind,hr,AV.one_rel hr (AB.1 hone y (A2 hy))⟩) (by omega)
  rw[Qt1 (by omega)] at h4 h5
  have hrun:(execOp a.eval ⟨none,.store T u v,ty,pos,after,gd⟩).run P w= .ok .skip w':=by
   simp only[execOp,Instr.storeAt,Instr.sureAddr,hx,storeVar,Al,Sem.run_pure,AY,Qeb hT]
   simp_all
  unfold Oper.wp;rw[hrun];exact kk undef w' σ S h4 (.d _ _ (.v _)) h5
section
variable{P:AN}{ops:Array Oper}{Q:Exit->St->Prop}{l:List Oper}{n:Nat}{env:List (Nat×AV)}{H H':List Blk}{ty:Ab}{pos:String}{after:Array Edge}{gd:Option (Nat×Bool)}{T T0:Ab}{F:TyF}{u v:Operand}{k g i sz:Nat}{rows rows':List (List D)}{r x:List D}
theorem QnS(hT:tyf P T=some F)(hu:aval env u= .ept k g i 0)(hk:H[k]? =some (.arr g sz T0 rows))(hr:rows[i]? =some r)(hn:rows.set i x=rows')(hv:(aval env v).cells=some (x.map .d):=by rfl)(hone:x.all D.cell=true:=by rfl)(hl:x.length=sz:=by rfl)(hsz:F.size=sz:=by rfl)
 (hw:awanted ops env ⟨none,.store T u v,ty,pos,after,gd⟩=some true:=by rfl) (hg:gdOk ops n ⟨none,.store T u v,ty,pos,after,gd⟩=true:=by rfl)
 (hH: ∀R:List Blk->Prop,R H'->R (H.set k (.arr g sz T0 rows')):=by intro R hR;simp only[List.set_cons_zero,List.set_cons_succ,Nat.zero_add];exact hR)
 (kk:ASeq P ops Q l ⟨n,env,H'⟩):ASeq P ops Q (⟨none,.store T u v,ty,pos,after,gd⟩::l) ⟨n,env,H⟩:=
 QjE (QnF hT hu hk hr hv hone hl hsz) hw hg (by have:=hH (fun r=>r=H') rfl;grind)
end
def Qrx{C:Blk}{g:AV}(h:g∈C.parts):g.ren ρ∈(C.ren ρ).parts:=by
 cases C with
 |row k cells=>exact Qfu h
 |_=>simp[Blk.parts] at h
theorem QlP{H H0:List Blk}{ks:List Nat}{g:AV}(hks:ks.map (fun k=>H[k]?)=(H0.map (Blk.ren ρ)).map some)(h:g∈H0.flatMap Blk.parts):g.ren ρ∈H.flatMap Blk.parts:=by
 obtain⟨C,hC,hg⟩:=AJ.1 h;have h1:some (C.ren ρ)∈ks.map (fun k=>H[k]?):=by grind
 obtain⟨k,_,hk⟩:=AI.1 h1;exact AJ.2 ⟨_,A2 hk,Qrx hg⟩
section
variable{P:AN}{ops:Array Oper}{Q:Exit->St->Prop}{K:St->Prop}{l:List Oper}{n:Nat}{env:List (Nat×AV)}{H H' H1:List Blk}{d:Tmp}{ty:Ab}{pos:String}{after:Array Edge}{gd:Option (Nat×Bool)}{x x':AV}{f:Ag}{xs:Array Operand}{tys:Array Ab}{ds:List D}{gl args:List AV}{H0:List Blk}{Q0:AV->List Blk->Prop}
def Qdp(ks:List Nat)(h:DoesE P f args H0 gl Q0)(hf: ∀args w,(callFunc f args).run P w= .ok (.enter f args) w)
 (hargs:xs.toList.map (aval env)=AV.renL (rho ks H.length) args:=by rfl) (hks:ks.map (fun k=>H[k]?)=(H0.map (Blk.ren (rho ks H.length))).map some:=by rfl) (hnd:ks.Nodup:=by decide)
 (hla:AV.ltL H0.length args=true:=by rfl) (hlg:AV.ltL H0.length gl=true:=by rfl) (hlH:H0.all (Blk.lt H0.length)=true:=by rfl) (hgs: ∀g∈gl,g∈args.flatMap AV.parts++H0.flatMap Blk.parts:=by simp[AV.parts,Blk.parts])
 (hw:awanted ops env ⟨some d,.call ⟨.value (.func f),xs,tys⟩,ty,pos,after,gd⟩=some true:=by rfl) (hd:Nat.blt d n=true:=by rfl) (hg:gdOk ops n ⟨some d,.call ⟨.value (.func f),xs,tys⟩,ty,pos,after,gd⟩=true:=by rfl)
 (k: ∀x H1,Q0 x H1->ASeq P ops Q l ⟨n,(d,x.ren (rho ks H.length))::env,place (rho ks H.length) H ks H1++(H1.drop ks.length).map (Blk.ren (rho ks H.length))⟩):
 ASeq P ops Q (⟨some d,.call ⟨.value (.func f),xs,tys⟩,ty,pos,after,gd⟩::l) ⟨n,env,H⟩:=
 QmG (Qf3 ks h (Qet hf) hargs hks hnd hla hlg hlH fun g hg=>(AG.1 (hgs g hg)).elim (fun hm=>AT _ (by rw[hargs];exact Qfu hm)) (fun hm=>AS _ (QlP hks hm))) hd hg hw (by rintro _ _ ⟨x,H1,hq,rfl,rfl⟩;exact k x H1 hq)
def QmC(ks:List Nat)(h:DoesE P f args H0 gl Q0)(hf: ∀args w,(callFunc f args).run P w= .ok (.enter f args) w)
 (hargs:xs.toList.map (aval env)=AV.renL (rho ks H.length) args:=by rfl) (hks:ks.map (fun k=>H[k]?)=(H0.map (Blk.ren (rho ks H.length))).map some:=by rfl) (hnd:ks.Nodup:=by decide)
 (hla:AV.ltL H0.length args=true:=by rfl) (hlg:AV.ltL H0.length gl=true:=by rfl) (hlH:H0.all (Blk.lt H0.length)=true:=by rfl) (hgs: ∀g∈gl,g∈args.flatMap AV.parts++H0.flatMap Blk.parts:=by simp[AV.parts,Blk.parts])
 (hw:awanted ops env ⟨some d,.call ⟨.value (.func f),xs,tys⟩,ty,pos,after,gd⟩=some true:=by rfl) (hd:Nat.blt d n=true:=by rfl) (hg:gdOk ops n ⟨some d,.call ⟨.value (.func f),xs,tys⟩,ty,pos,after,gd⟩=true:=by rfl)
 (k: ∀x H1,Q0 x H1->K ⟨n,(d,x.ren (rho ks H.length))::env,place (rho ks H.length) H ks H1++(H1.drop ks.length).map (Blk.ren (rho ks H.length))⟩):
 AStep P ops ⟨some d,.call ⟨.value (.func f),xs,tys⟩,ty,pos,after,gd⟩ K ⟨n,env,H⟩:=
 ⟨_,Qf3 ks h (Qet hf) hargs hks hnd hla hlg hlH (fun g hg=>(AG.1 (hgs g hg)).elim (fun hm=>AT _ (by rw[hargs];exact Qfu hm)) (fun hm=>AS _ (QlP hks hm))),hw,hd,hg,by rintro _ _ ⟨x,H1,hq,rfl,rfl⟩;exact k x H1 hq⟩
end
def QoY(m:Nat){P:AN}{Q:Exit->St->Prop}{n:Nat}{env:List (Nat×AV)}{H H0:List Blk}{Q0:AV->List Blk->Prop}{gl:List AV}(hq:Q .ret ⟨n,env,H⟩=EndR P H0 [] Q0 gl gvs .ret ⟨n,env,H⟩:=by rfl)
 (hH:(H.take m).all (Blk.lt m)=true:=by rfl) (hgl:AV.ltL m gl=true:=by rfl) (hg:look env gslot= .gh gl gvs:=by rfl)
 (hp:pinL gl 0 H0 (H.take m):=by repeat' (first|exact True.intro|exact⟨rfl,rfl,.inl (by omega)⟩|exact⟨rfl,rfl,.inr ⟨rfl,by first|rfl|(simp;done)|(simp only[List.length_map];first|assumption|omega),_,_,by repeat(first|exact List.Mem.head _|apply List.Mem.tail)⟩⟩|exact .inr ⟨rfl,_,by repeat(first|exact List.Mem.head _|apply List.Mem.tail)⟩|refine⟨?_,?_⟩))
 (hx:Q0 (.tup []) (H.take m)):AWP P .ret Q ⟨n,env,H⟩:=QfS (by rw[hq];exact⟨m,[],.nil,rfl,hH,hgl,hx,hp,hg⟩)
def endR0(m:Nat){P:AN}{n:Nat}{env:List (Nat×AV)}{H H0:List Blk}{Q0:AV->List Blk->Prop}{gl:List AV}
 (hH:(H.take m).all (Blk.lt m)=true:=by rfl) (hgl:AV.ltL m gl=true:=by rfl) (hg:look env gslot= .gh gl gvs:=by rfl)
 (hp:pinL gl 0 H0 (H.take m):=by repeat' (first|exact True.intro|exact⟨rfl,rfl,.inl (by omega)⟩|exact⟨rfl,rfl,.inr ⟨rfl,by first|rfl|(simp;done)|(simp only[List.length_map];first|assumption|omega),_,_,by repeat(first|exact List.Mem.head _|apply List.Mem.tail)⟩⟩|exact .inr ⟨rfl,_,by repeat(first|exact List.Mem.head _|apply List.Mem.tail)⟩|refine⟨?_,?_⟩))
 (hx:Q0 (.tup []) (H.take m)):EndR P H0 [] Q0 gl gvs .normal ⟨n,env,H⟩:=⟨m,[],.nil,rfl,hH,hgl,hx,hp,hg⟩
attribute [local irreducible] ASeq ADraw AWP Loc AStep
def pg_put{x:List UInt8}(h:QE x=(p,true)):Pl.ptrPut p=x/\Pl.ptrOk p=true:=by
 unfold QE at h;split at h
 ·rename_i hx
  obtain⟨h1,_⟩:=Ad h;have:=Classical.choose_spec hx;rw[h1] at this;exact⟨this.2,this.1⟩
 ·obtain⟨_,h2⟩:=Ad h;cases h2
theorem bFanGet(s:List UInt8)(hs:s.length<=1000000):Pure A1 171 [dS s] (.tup [tPtrs (QaH s).1,dB (QaH s).2]):=by
 have c0:=bSplit s 44 (by omega);have hW:=QdT 44 s;have hj:=Pm.hid (Qhr 44 s);have hfan:AK (QaH s=if((Pl.cutB 44 s).map QE).all (·.2)&&(((Pl.cutB 44 s).map QE).length==4)&&((Pl.cutB 44 s).map QE).any (fun q=> !Pl.ptrHole q.1) then(((Pl.cutB 44 s).map QE).map (·.1),true) else([],false)):=Pm.hid rfl;generalize Pl.cutB 44 s=l at*;refine kB ?_
 repeat refine kA ?_
 refine Qfk 4 5 31 (h:=?_)
 refine Qs (fun m st=> ∃(k g:Nat) (out:List Pl.Ptr),k<=l.length/\m=l.length -k/\out.length=k/\k<=4/\AK (out=((l.map QE).take k).map (·.1))/\AK (((l.map QE).take k).all (·.2)=true)/\AK (out.map Pl.ptrPut=l.take k/\out.all Pl.ptrOk=true)/\
  st=⟨48,[(14,.d (dI k)),(13,.d (dI l.length)),(12,.d (tStrs l)),(4,.osl 0 g 0 out.length),(0,.d (dS s))],[.arr g 5 31 (out.map rPtr)]⟩) [14,13,12,4,0] 1 l.length ⟨0,0,[],by omega,rfl,rfl,by omega,Pm.hid rfl,Pm.hid (by simp),Pm.hid ⟨rfl,rfl⟩,rfl⟩ (round:=?_)
 rintro m st ⟨k,g,out,hk,rfl,hlen,hk4,hO,hA,hP,rfl⟩
 repeat refine kG ?_
 cases q3:decide ((k:Int)<(l.length:Int))
 ·have hk3:k=l.length:=by simp at q3;omega
  have c1:=(bFanPut out (by omega)).arg (l:=[tPtrs out]);have hlm:(l.map QE).length=k:=by rw[A4,hk3]
  have ho:=hO.out;rw[<-hlm,A9] at ho;have ha:=hA.out;rw[<-hlm,A9] at ha;have hp1:=hP.out.1;rw[hk3,A9] at hp1;have hany:(l.map QE).any (fun q=> !Pl.ptrHole q.1)=out.any (fun p=> !Pl.ptrHole p):=by rw[ho];simp only[List.any_map];rfl
  have hpd:=Pm.hid (QZ.eq_def out)
  have e2:QZ out=if out.length=4/\out.any (fun p=> !Pl.ptrHole p)=true then(s,true) else([],false):=by
   rw[hpd.out,hp1,hj.out]
   by_cases h:out.length=4/\out.any (fun p=> !Pl.ptrHole p)=true
   ·rw[if_pos h,if_pos ⟨h.1,h.2,hP.out.2⟩]
   ·rw[if_neg h,if_neg (fun x=>h ⟨x.1,x.2.1⟩)]
  have e1:QaH s=if out.length=4/\out.any (fun p=> !Pl.ptrHole p)=true then(out,true) else([],false):=by
   rw[hfan.out,ha,hany,hlm,<-hlen,<-ho]
   by_cases h:out.length=4/\out.any (fun p=> !Pl.ptrHole p)=true
   ·rw[if_pos h,if_pos]
    rw[h.1,h.2];rfl
   ·rw[if_neg h,if_neg]
    intro x;simp only[A7,beq_iff_eq,true_and] at x;exact h x
  have hres:AK (QaH s=if(QZ out).2=true/\(QZ out).1=s then(out,true) else([],false)):=Pm.hid (by
   rw[e1,e2]
   by_cases h:out.length=4/\out.any (fun p=> !Pl.ptrHole p)=true
   ·rw[if_pos h,if_pos h,if_pos ⟨rfl,rfl⟩]
   ·rw[if_neg h,if_neg h,if_neg (by simp)])
  clear e1 e2;clear hO hA hP ho ha hp1 hany hpd hfan hj c0;generalize QZ out=r at*;obtain⟨again,fine⟩:=r
  repeat refine kG ?_
  refine Qe4 0 (h:=?_)
  repeat' first|refine kA ?_|refine kV ?_ ?_<;>intro q|fail
  all_goals first|refine Qd7 2 true 5 (h:=?_);refine Qb (hx:=?_);rw[hres.out,if_neg (by simp_all)];rfl|refine Qd7 2 true 5 (h:=?_);refine Qb (hx:=?_);rw[hres.out,if_neg (by simp_all)]|refine Qb (hx:=?_);rw[hres.out,if_pos (by simp_all)]
 have hk2:k<l.length:=by simp at q3;omega
 obtain⟨x,hx⟩: ∃x,l[k]? =some x:=⟨_,A0 hk2⟩;have hr:=Qu (f:=fun s=>[dS s]) hx;have hx3:x.length<=4294967280:=by have:=hW.2 x (A2 hx);omega
 obtain⟨p,ok,hp⟩: ∃p ok,QE x=(p,ok):=⟨_,_,rfl⟩;have hg:=bPtrGet x hx3;rw[hp] at hg;have hl:(l.map QE)[k]? =some (p,ok):=by rw[AD,hx];simp[hp]
 have hst:(l.map QE).take (k+1)=(l.map QE).take k++[(p,ok)]:=by rw[A3,hl];rfl
 have F:AK (ok=false∨k=4->QaH s=([],false)):=Pm.hid fun e=>by
  rw[hfan.out,if_neg];intro h;simp only[A7,beq_iff_eq,A4] at h;rcases e with e|e
  ·have:=AB.1 h.1.1 _ (A2 hl)
   rw[e] at this;cases this
  ·omega
 have T1:AK (out++[p]=((l.map QE).take (k+1)).map (·.1)):=Pm.hid (by rw[hst,hO.out];simp)
 have T2:AK (ok=true->((l.map QE).take (k+1)).all (·.2)=true/\(out++[p]).map Pl.ptrPut=l.take (k+1)/\(out++[p]).all Pl.ptrOk=true):=Pm.hid fun e=>by
  subst e;have hpp:=pg_put hp;refine⟨by rw[hst,AC,hA.out];rfl,by rw[Ae,hP.out.1,A3,hx];simp[hpp.1],by rw[AC,hP.out.2];simp[hpp.2]⟩
 clear hx hp hl hst hO hA hP hfan hj c0;obtain⟨p1,p2,p3,p4,p5⟩:=p
 repeat' first|refine kS ?_|refine qS (iy hr) ?_|refine QU Ty.h rfl Ty.h (hb:=?_) (kk:=?_)|refine kU ?_|refine kV ?_ ?_<;>intro q|fail
 all_goals first
  |(simp;omega)
  |(refine Qn (l.length -(k+1)) (by omega) ⟨k+1,g+1,out++[⟨p1,p2,p3,p4,p5⟩],by omega,rfl,by simp[hlen],?_,Pm.hid T1.out,Pm.hid (T2.out (by simpa using ‹(!ok)=false›)).1,Pm.hid (T2.out (by simpa using ‹(!ok)=false›)).2,?_⟩
    ·simp only[beq_eq_false_iff_ne] at*;omega
    ·simp[keepE,go_sem])
  |(refine Qd7 2 true 5 (h:=?_)
    refine Qb (hx:=?_)
    rw[F.out (by first|exact .inl (by simpa using q)|exact .inr (by simp only[beq_iff_eq] at q;omega))];rfl)
def bDepth(n:Int):Pure A1 165 [dI n] (dI (if n<=1 then 0 else if n<=4 then 1 else 2)):=by
 refine kB ?_
 repeat' first|refine kA ?_|refine kV ?_ ?_<;>intro q|fail
 all_goals exact Qb (hx:=congrArg dI (by simp at*;split<;>(try split)<;>omega))
def Qck(s:Pm.Store)(p:Pl.Ptr)(level:Int):List Pl.Ptr×Bool:=
 if Pl.ptrHole p then(List.replicate 4 Pl.hole,true) else
 if(Qj s.1 p).2=true/\p.level=level then((QaH (Qj s.1 p).1).1,(QaH (Qj s.1 p).1).2&& !(QaH (Qj s.1 p).1).1.any (fun q=>decide (p.birth<q.birth))) else([],false)
def Qjt{s:Pm.Store}{level:Int}(h1:Pl.ptrOk p=true)(h2:p.birth<=s.2.2.1):(Qck s p level).2=(Qh s p level).2/\((Qh s p level).2=true->Qck s p level=Qh s p level):=by
 unfold Qck Qh;split
 ·exact⟨rfl,fun _=>rfl⟩
 ·by_cases h:(Qj s.1 p).2=true/\p.level=level
  ·rw[if_pos h,if_pos (by simp[h1,h.1,h.2,h2])]
   generalize QaH (Qj s.1 p).1=r;obtain⟨l,ok⟩:=r;simp only;cases l.any (fun q=>decide (p.birth<q.birth))<;>simp
  ·rw[if_neg h,if_neg (by simp only[A7,beq_iff_eq,decide_eq_true_eq];intro x;exact h ⟨x.2,x.1.1.2⟩)]
   exact⟨rfl,fun _=>rfl⟩
theorem bFanOf(s:Pm.Store)(hg:QM s)(p:Pl.Ptr)(hp:Pl.ptrHole p=false->Pl.ptrOk p=true)(level:Int):Pure A1 115 [.pd (rSt s),dPtr p,dI level] (.tup [tPtrs (Qck s p level).1,dB (Qck s p level).2]):=by
 have hd:=Pm.hid (Qck.eq_def s p level);have c1:=Qee p;cases h1:Pl.ptrHole p;rotate_left
 ·rw[h1] at c1 hd
  refine kE ?_;refine Qa 0 (h:=?_)
  repeat refine kA ?_
  (refine Qa 1 (h:=?_);refine Qb (hx:=?_))
  rw[hd.out];rfl
 have c2:=bRead s hg p hp;have hlen:=QiO s hg p;rw[h1] at c1 hd;generalize Qj s.1 p=r at*;obtain⟨tx,ok⟩:=r;simp only at hlen hd;have c3:=bFanGet tx (by omega);have hfl:=Qla tx;generalize QaH tx=fb at*;obtain⟨l,fine⟩:=fb;simp only at hfl hd;have c4:=Qlp l (by omega) 173 (.pd (rPtr p)) (fun q=>decide (p.birth<q.birth)) Tryz.call173 fun q _=>bFanOf1 p q
 generalize l.any (fun q=>decide (p.birth<q.birth))=any at*;refine kE ?_;refine Qa 0 (h:=?_);have c5:=c4.arg (l:=[.d (tPtrs l),.fn (.func 173) [.d (.pd (rPtr p))]])
 repeat' first|refine kS ?_|refine qS (QeK rfl) ?_|refine qS (QdX cK c5 rfl rfl) ?_|refine kU ?_|refine kV ?_ ?_<;>intro q|fail
 all_goals first
  |(refine Qd7 6 true 5 (h:=?_)
    refine Qb (hx:=?_)
    rw[hd.out,if_neg (by simp),if_neg (by simp_all)];rfl)
  |(refine Qb (hx:=?_)
    rw[hd.out,if_neg (by simp),if_pos (by simp_all)];simp_all)
theorem QoE{s:List UInt8}(h:(QaH s).2=true):(QaH s).1.length=4:=by
 unfold QaH at h⊢
 grind
theorem Qj5{s:Pm.Store}{n:Int}(h:(Qh s p n).2=true)(ht:0<=s.2.2.1)(hp:p.birth<=s.2.2.1):(Qh s p n).1.length=4/\ ∀q∈(Qh s p n).1,Pl.ptrOk q=true/\q.birth<=s.2.2.1:=by
 refine⟨?_,fun q hq=>⟨Qi8 s p n q hq,?_⟩⟩
 ·unfold Qh at h⊢
  split
  ·simp
  ·rename_i h1
   rw[if_neg h1] at h;split at h
   ·rename_i h2
    rw[if_pos h2];split at h
    ·cases h
    ·rename_i h3;rw[if_neg h3];exact QoE h
   ·cases h
 ·unfold Qh at h hq
  split at hq
  ·rw[(List.mem_replicate.1 hq).2];exact ht
  grind
theorem Qmo(f:Pl.Ptr->List Pl.Ptr): ∀l:List Pl.Ptr,(∀p∈l,(f p).length=4)->(l.flatMap f).length=l.length*4
 |[],_=>rfl
 |p::l,h=>by
  have:=Qmo f l fun q hq=>h q (by simp[hq])
  grind
def QV(s:Pm.Store)(t:Pl.Tree):List Pl.Ptr×Bool:=if Q8 s t then((QG s t).1.take t.many.toNat,true) else([],false)
theorem QrR(s:Pm.Store)(many:Int)(i:Nat)(p:Pl.Ptr)(hp:p.birth<=s.2.2.1):Qaz s many i p=((Qj s.1 p).2&&(p.level==0)&& !(decide ((i:Int)≥many)&& !Pl.ptrHole p)):=by
 unfold Qaz
 by_cases h:Pl.ptrHole p=true
 ·have:p=Pl.hole:=by simpa[Pl.ptrHole] using h
  subst this;have:Qj s.1 Pl.hole=([],true):=by unfold Qj;grind
  rw[h,this];cases decide ((i:Int)≥many)<;>rfl
 grind
theorem Qif{s:Pm.Store}{t:Pl.Tree}(h:Q8 s t=true)(htx:0<=s.2.2.1):t.root.birth<=s.2.2.1:=by
 unfold Q8 at h;simp only[A7] at h;obtain⟨⟨_,h4⟩,h5⟩:=h
 by_cases hh:Pl.ptrHole t.root=true
 ·have:t.root=Pl.hole:=by simpa[Pl.ptrHole] using hh
  rw[this];exact htx
 unfold QG at h4 h5;rcases hn:t.depth.toNat with _|n
 ·rw[hn] at h5
  simp only[QaP,List.zipIdx_singleton,Ah,An,Ai] at h5;unfold Qaz at h5
  grind
 ·rw[hn] at h4
  unfold QaP at h4;split at h4
  ·rename_i h6
   simp only[Ah,An,Ai] at h6;unfold Qh at h6
   grind
  ·cases h4
theorem bLeaves(s:Pm.Store)(hg:QM s)(htx:0<=s.2.2.1)(t:Pl.Tree):Pure A1 110 [.pd (rSt s),dTree t] (.tup [tPtrs (QV s t).1,dB (QV s t).2]):=by
 have hd:=Pm.hid (QV.eq_def s t);have hto:AK (Q8 s t=(Pl.inR t.many 0 16&&(t.depth==(if t.many<=1 then 0 else if t.many<=4 then 1 else 2))&&Pl.ptrOk t.root&&(QG s t).2&&((QG s t).1.zipIdx.all fun q=>Qaz s t.many q.2 q.1))):=Pm.hid rfl;refine kE ?_;refine Qa 0 (h:=?_);cases h1:Pl.inR t.many 0 16
 ·repeat' first|refine kS ?_|refine qD (lC (h1▸bIn t.many 0 16)) ?_|refine kU ?_|fail
  refine Qd7 4 true 5 (h:=?_);refine Qb (hx:=?_);rw[hd.out,if_neg (by rw[hto.out,h1];simp)];rfl
 have c1:=h1▸bIn t.many 0 16;have c2:=bDepth t.many;have hdp:(if t.many<=1 then 0 else if t.many<=4 then 1 else 2:Int)=0∨(if t.many<=1 then 0 else if t.many<=4 then 1 else 2:Int)=1∨(if t.many<=1 then 0 else if t.many<=4 then 1 else 2:Int)=2:=by split<;>(try split)<;>simp
 have hdm:t.many<=4^(if t.many<=1 then 0 else if t.many<=4 then 1 else 2:Int).toNat:=by
  simp[Pl.inR] at h1;split
  ·simpa
  ·split
   ·simpa
   ·simpa using h1.2
 generalize (if t.many<=1 then 0 else if t.many<=4 then 1 else 2:Int)=dp at*;cases h3:Pl.ptrOk t.root
 ·repeat' first|refine kS ?_|refine qD (lC (h3▸bPtrOk t.root)) ?_|refine kU ?_|refine kV ?_ ?_<;>intro q|fail
  all_goals
   refine Qd7 4 true 5 (h:=?_);refine Qb (hx:=?_);rw[hd.out,if_neg (by rw[hto.out,h3];simp)];rfl
 by_cases h2:t.depth=dp
 rotate_left
 ·repeat' first|refine kS ?_|refine qD (lC (h3▸bPtrOk t.root)) ?_|refine qD (Qdq rfl) ?_|refine kU ?_|refine kV ?_ ?_<;>intro q|fail
  all_goals first
   |(refine Qd7 4 true 5 (h:=?_)
     refine Qb (hx:=?_)
     rw[hd.out,if_neg (by rw[hto.out];simp[h2])];rfl)
   |(simp at*;exact absurd ‹_› h2)
 by_cases h4:t.root.birth<=s.2.2.1
 rotate_left
 ·have hno:Q8 s t≠true:=fun h=>h4 (Qif h htx)
  repeat' first|refine kS ?_|refine qD (lC (h3▸bPtrOk t.root)) ?_|refine qD (Qdq rfl) ?_|refine kU ?_|refine kV ?_ ?_<;>intro q|fail
  all_goals first
   |(refine Qd7 4 true 5 (h:=?_)
     refine Qb (hx:=?_)
     rw[hd.out,if_neg hno];rfl)
   |(simp at*;omega)
 repeat' first|refine kS ?_|refine qD (lC (h3▸bPtrOk t.root)) ?_|refine qD (Qdq rfl) ?_|refine kU ?_|refine kV ?_ ?_<;>intro q|fail
 ·exact absurd h2 (by simpa using q)
 ·simp at q;omega
 have hd2:AK (Q8 s t=((QG s t).2&&((QG s t).1.zipIdx.all fun q=>Qaz s t.many q.2 q.1))):=Pm.hid (by rw[hto.out,h1,h3,h2];simp);have hlv:AK (QG s t=QaP s t.depth.toNat [t.root]):=Pm.hid rfl;have hmany:0<=t.many:=by simp[Pl.inR] at h1;exact h1.1
 clear hto c1 c2 h1;obtain⟨n0,rfl⟩: ∃n0:Nat,dp=n0:=⟨dp.toNat,by omega⟩;have hn0:n0<=2:=by omega
 rw[h2] at hlv;simp only[Int.toNat_natCast] at hlv hdm;clear hdp;generalize hnl:QV s t=res at*;clear hnl;rw[h2];refine Qa 1 (h:=?_)
 refine Qs (fun m st=> ∃(n:Nat) (l:List Pl.Ptr),n<=n0/\m=n/\l.length=4^(n0 -n)/\AK (∀p∈l,Pl.ptrOk p=true/\p.birth<=s.2.2.1)/\AK (QG s t=QaP s n l)/\
  st=⟨112,[(6,.d (tPtrs l)),(7,.d (dI n)),(0,.d (.pd (rSt s))),(3,.d (.pd (rTree t)))],[]⟩) [6,7,0,3] 0 n0 ⟨n0,[t.root],AH _,rfl,by simp,Pm.hid (by simp[h3,h4]),hlv,by rw[<-h2];rfl⟩ (round:=?_)
 clear hlv;rintro m st ⟨n,l,hn,rfl,hll,hO,hL,rfl⟩
 repeat refine kG ?_
 rcases m with _|n
 ·repeat refine kA ?_
  have hl16:l.length<=16:=by rw[hll];exact AP (AU (by omega) (show n0 -0<=2 by omega)) (by decide)
  have hml:t.many<=((l.map rPtr).length:Int):=by rw[A4,hll];simpa using hdm
  have hd3:AK (res=if l.zipIdx.all (fun q=>Qaz s t.many q.2 q.1)=true then(l.take t.many.toNat,true) else([],false)):=Pm.hid (by rw[hd.out,hd2.out,hL.out];simp only[QaP,Bool.true_and]);clear hd hd2 hL hll hdm
  refine Qs (fun m st=> ∃(k:Nat),k<=l.length/\m=l.length -k/\AK ((l.take k).zipIdx.all (fun q=>Qaz s t.many q.2 q.1)=true)/\
   st=⟨112,[(74,.d (tPtrs l)),(75,.d (dI l.length)),(76,.d (dI k)),(6,.d (tPtrs l)),(0,.d (.pd (rSt s))),(3,.d (.pd (rTree t)))],[]⟩) [74,75,76,6,0,3] 0 l.length ⟨0,by omega,rfl,Pm.hid rfl,rfl⟩ (round:=?_)
  rintro m st ⟨k,hk,rfl,hA,rfl⟩
  repeat refine kG ?_
  cases q4:decide ((k:Int)<(l.length:Int))
  ·repeat' first|refine kS ?_|refine qS (QrK rfl rfl rfl rfl hmany hml) ?_|refine kU ?_|fail
   refine Qb (hx:=?_);have:k=l.length:=by simp at q4;omega
   have h:=hA.out;rw[this,A6 (AH _)] at h;rw[hd3.out,if_pos h];simp only;rw[<-List.map_take]
  have hk2:k<l.length:=by simp at q4;omega
  obtain⟨x,hx⟩: ∃x,l[k]? =some x:=⟨_,A0 hk2⟩;have hr:=Qu (f:=rPtr) hx;have ho:=hO.out x (A2 hx);have h7:=bRead s hg x fun _=>ho.1
  have T:AK (Qaz s t.many k x=true->(l.take (k+1)).zipIdx.all (fun q=>Qaz s t.many q.2 q.1)=true):=fun e=>by rw[QnX hx,hA.out,e];rfl
  have F:AK (Qaz s t.many k x=false->res=([],false)):=fun e=>by rw[hd3.out,Ql3 hx e];rfl
  have hlf:AK (Qaz s t.many k x=((Qj s.1 x).2&&(x.level==0)&& !(decide ((k:Int)≥t.many)&& !Pl.ptrHole x))):=Pm.hid (QrR s t.many k x ho.2);generalize Qaz s t.many k x=lf at*;clear hx hO hA hd3 ho;generalize Qj s.1 x=rb at*;obtain⟨tx,fine⟩:=rb;simp only at hlf
  repeat' first|refine kS ?_|refine qS (lC (Qee x)) ?_|refine qS (iy hr) ?_|refine kU ?_|refine kV ?_ ?_<;>intro q|fail
  all_goals clear h7 hr
  all_goals first
   |(have e:lf=false:=by rw[hlf.out];clear T F hlf;simp_all
     refine Qd7 4 true 5 (h:=?_);refine Qb (hx:=?_)
     rw[F.out e];rfl)
   |(have e:lf=true:=by rw[hlf.out];clear T F hlf;simp_all
     exact Qn (l.length -(k+1)) (by omega) ⟨k+1,by omega,rfl,Pm.hid (T.out e),rfl⟩)
 have q3:decide (((n+1:Nat):Int)>0)=true:=by simp
 rw[q3]
 repeat refine kA ?_
 refine Qfk 8 5 31 (h:=?_);have hll2:l.length<=4:=by rw[hll];exact AP (AU (by omega) (show n0 -(n+1)<=1 by omega)) (by decide)
 have hv:AK (l.all (fun p=>(Qh s p (n+1:Nat)).2)=false->res=([],false)):=fun e=>by rw[hd.out,hd2.out,hL.out,QaP,if_neg (by rw[e];simp)]<;>rfl
 refine Qs (fun m st=> ∃(k g:Nat) (out:List Pl.Ptr),k<=l.length/\m=l.length -k/\out.length=4*k/\AK (out=(l.take k).flatMap fun p=>(Qh s p (n+1:Nat)).1)/\AK ((l.take k).all (fun p=>(Qh s p (n+1:Nat)).2)=true)/\AK (∀p∈out,Pl.ptrOk p=true/\p.birth<=s.2.2.1)/\
  st=⟨112,[(8,.osl 0 g 0 out.length),(54,.d (tPtrs l)),(55,.d (dI l.length)),(56,.d (dI k)),(7,.d (dI (n+1:Nat))),(0,.d (.pd (rSt s))),(3,.d (.pd (rTree t)))],[.arr g 5 31 (out.map rPtr)]⟩) [8,54,55,56,7,0,3] 1 l.length ⟨0,0,[],by omega,rfl,by simp,Pm.hid rfl,Pm.hid rfl,Pm.hid (by simp),rfl⟩ (round:=?_)
 rintro m st ⟨k,g,out,hk,rfl,hol,hP,hA,hQ,rfl⟩
 repeat refine kG ?_
 cases q4:decide ((k:Int)<(l.length:Int))
 ·repeat refine kA ?_
  refine QjD 0 (h:=?_);have:k=l.length:=by simp at q4;omega
  rw[this,A6 (AH _)] at hP hA;refine Qn n (by omega) ⟨n,out,by omega,rfl,?_,hQ,Pm.hid (by rw[hL.out,QaP,if_pos hA.out,<-hP.out]),?_⟩
  ·rw[hol,this,hll,show n0 -n=(n0 -(n+1))+1 by omega,Nat.pow_succ];omega
  ·simp[keepE,go_sem,A6]
 have hk2:k<l.length:=by simp at q4;omega
 obtain⟨x,hx⟩: ∃x,l[k]? =some x:=⟨_,A0 hk2⟩;have hr:=Qu (f:=rPtr) hx;have ho:=hO.out x (A2 hx);have hc:=bFanOf s hg x (fun _=>ho.1) (n+1:Nat);obtain⟨f1,f2⟩:=Qjt (level:=(n+1:Nat)) ho.1 ho.2;have G:AK ((Qh s x (n+1:Nat)).2=true->(Qh s x (n+1:Nat)).1.length=4/\ ∀q∈(Qh s x (n+1:Nat)).1,Pl.ptrOk q=true/\q.birth<=s.2.2.1):=Pm.hid fun e=>Qj5 e htx ho.2
 have F:AK ((Qh s x (n+1:Nat)).2=false->res=([],false)):=fun e=>hv.out (by
  rw[AZ];exact⟨x,A2 hx,by rw[e];simp⟩)
 have T1:AK ((l.take (k+1)).flatMap (fun p=>(Qh s p (n+1:Nat)).1)=out++(Qh s x (n+1:Nat)).1):=Pm.hid (by rw[A3,hx,hP.out];simp);have T2:AK ((Qh s x (n+1:Nat)).2=true->(l.take (k+1)).all (fun p=>(Qh s p (n+1:Nat)).2)=true):=fun e=>by rw[A3,hx,AC,hA.out];simpa using e
 have f2':AK ((Qh s x (n+1:Nat)).2=true->Qck s x (n+1:Nat)=Qh s x (n+1:Nat)):=Pm.hid f2;clear hx ho hA hP f2 hO hL hd hd2 hv;generalize Qck s x (n+1:Nat)=fb at*;obtain⟨fl,ok⟩:=fb;simp only at f1;subst f1;generalize Qh s x (n+1:Nat)=bb at*;obtain⟨bl,ok⟩:=bb;simp only at f2' T2 G F T1
 have G':AK (ok=true->fl.length=4/\(∀q∈fl,Pl.ptrOk q=true/\q.birth<=s.2.2.1)/\(l.take (k+1)).flatMap (fun p=>(Qh s p (n+1:Nat)).1)=out++fl):=Pm.hid fun e=>by
  obtain rfl:=(Ad (f2'.out e)).1;exact⟨(G.out e).1,(G.out e).2,T1.out⟩
 clear G f2' T1
 repeat' first|refine kS ?_|refine qS (iy hr) ?_|refine QdW Ty.h rfl Ty.h (hb:=?_) (hcell:=?_) (kk:=?_)|refine kU ?_|refine kV ?_ ?_<;>intro q|fail
 ·refine Qd7 4 true 5 (h:=?_)
  refine Qb (hx:=?_);rw[F.out (by simpa using ‹(!ok)=true›)];rfl
 ·exact Qdy fl
 ·have e:ok=true:=by simpa using ‹(!ok)=false›
  have:=(G'.out e).1;simp;omega
 ·have e:ok=true:=by simpa using ‹(!ok)=false›
  obtain⟨h4,h5,h6⟩:=G'.out e;refine Qn (l.length -(k+1)) (by omega) ⟨k+1,g+1,out++fl,by omega,rfl,by simp;omega,Pm.hid h6.symm,Pm.hid (T2.out e),Pm.hid ?_,?_⟩
  ·intro p hp
   rcases AG.1 hp with hp|hp
   ·exact hQ.out p hp
   ·exact h5 p hp
  ·simp[keepE,go_sem]
end Aw
end
section
namespace Aw
variable{p:Pl.Ptr}{t:Pl.Tree}
def QQ(s:Pm.Store):Nat->Pl.Ptr->List Pl.Ptr
 |0,p=>if Pl.ptrHole p then [] else [p]
 |n+1,p=>if Pl.ptrHole p then [] else p::(Qh s p (n+1:Nat)).1.flatMap (QQ s n)
def Qcb(s:Pm.Store):Nat->Pl.Ptr->Prop
 |0,p=>Pl.ptrHole p=true∨(Pl.ptrOk p=true/\p.level=0/\p.birth<=s.2.2.1)
 |n+1,p=>Pl.ptrHole p=true∨(Pl.ptrOk p=true/\p.level=(n+1:Nat)/\p.birth<=s.2.2.1/\(Qh s p (n+1:Nat)).2=true/\ ∀q∈(Qh s p (n+1:Nat)).1,Qcb s n q)
theorem QdZ(s:Pm.Store)(n:Nat)(h:Pl.ptrHole p=true):QQ s n p=[]:=by
 cases n<;>(unfold QQ;grind)
theorem QnL{s:Pm.Store}{n:Int}(h:(Qh s p n).2=true)(hh:Pl.ptrHole p≠true):p.level=n:=by
 unfold Qh at h
 grind
def QmW(s:Pm.Store)(htx:0<=s.2.2.1): ∀(n:Nat) (l:List Pl.Ptr),(QaP s n l).2=true->(∀p∈l,Pl.ptrOk p=true/\p.birth<=s.2.2.1)->(∀p∈(QaP s n l).1,Qcb s 0 p)-> ∀p∈l,Qcb s n p
 |0,l,_,_,h3=>h3
 |n+1,l,h1,h2,h3=>by
  unfold QaP at h1 h3;split at h1
  ·rename_i ha
   rw[if_pos ha] at h3;have hb: ∀p∈l,(Qh s p (n+1:Nat)).2=true:=fun p hp=>AB.1 ha p hp
   have ih:=QmW s htx n _ h1 (fun q hq=>by
    obtain⟨p,hp,hq⟩:=AJ.1 hq
    exact(Qj5 (hb p hp) htx (h2 p hp).2).2 q hq) h3
   intro p hp
   by_cases hh:Pl.ptrHole p=true
   ·exact .inl hh
   ·exact .inr ⟨(h2 p hp).1,QnL (hb p hp) hh,(h2 p hp).2,hb p hp,fun q hq=>ih q (AJ.2 ⟨p,hp,hq⟩)⟩
  ·cases h1
theorem Qpt{s:Pm.Store}(h:Q8 s t=true)(htx:0<=s.2.2.1):Qcb s t.depth.toNat t.root:=by
 have hb:=Qif h htx;unfold Q8 at h;simp only[A7] at h;obtain⟨⟨⟨_,h3⟩,h4⟩,h5⟩:=h;have ho:=Qho s (t:=t) h3;unfold QG at h4 h5 ho;refine QmW s htx _ [t.root] h4 (fun p hp=>by grind) (fun p hp=>?_) _ (List.mem_singleton.2 rfl);obtain⟨i,hi⟩:=List.getElem?_of_mem hp;have h6:=AB.1 h5 (p,i) (List.mk_mem_zipIdx_iff_getElem?.2 hi);unfold Qaz at h6;simp only[Bool.or_eq_true,A7,beq_iff_eq,decide_eq_true_eq] at h6;rcases h6 with h6|h6
 ·exact .inl h6
 ·exact .inr ⟨ho p hp,h6.1.1.2,h6.1.2⟩
def QhN(h:Pl.ptrHole p=true):p.level=0:=by
 have:p=Pl.hole:=by simpa[Pl.ptrHole] using h
 rw[this];rfl
theorem QlB{s:Pm.Store}{n:Nat}(h:Qcb s n p):QQ s n p=QQ s p.level.toNat p/\Qcb s p.level.toNat p/\0<=p.level/\p.level<=n/\Pl.ptrOk p=true:=by
 by_cases hh:Pl.ptrHole p=true
 ·refine⟨by rw[QdZ s _ hh,QdZ s _ hh],?_,?_,?_,?_⟩
  ·rw[QhN hh];exact .inl hh
  ·rw[QhN hh];omega
  ·rw[QhN hh];omega
  ·have:p=Pl.hole:=by simpa[Pl.ptrHole] using hh
   rw[this];exact QdN
 ·have hl:p.level=n/\Pl.ptrOk p=true:=by
   cases n with
   |zero=>
    rcases h with h|h
    ·grind
    grind
   |succ n=>
    rcases h with h|h
    ·grind
    grind
  grind
def Qkl{α β:Type}(f g:α->List β): ∀l:List α,(∀x∈l,f x=g x)->l.flatMap f=l.flatMap g
 |[],_=>rfl
 |x::l,h=>by rw[AE,AE,h x (by simp),Qkl f g l fun y hy=>h y (by simp[hy])]
def Qbn:Nat->Nat
 |0=>1
 |n+1=>4*Qbn n+1
def QqG: ∀n,1<=Qbn n
 |0=>by decide
 |n+1=>by unfold Qbn;omega
theorem Qk8{n m:Nat}(h:n<=m):Qbn n<=Qbn m:=by
 induction m with
 |zero=>grind
 |succ m ih=>
  rcases Nat.eq_or_lt_of_le h with rfl|h
  ·omega
  ·have:=ih (by omega)
   have e:Qbn (m+1)=4*Qbn m+1:=rfl;omega
def sum_le{α:Type}(f:α->Nat)(c:Nat): ∀l:List α,(∀x∈l,f x<=c)->(l.map f).sum<=l.length*c
 |[],_=>by simp
 |x::l,h=>by
  have h1:=sum_le f c l fun y hy=>h y (by simp[hy])
  have h2:=h x (by simp);rw[List.map_cons,List.sum_cons,AA,Ak];omega
def Qpg(s:Pm.Store): ∀(n:Nat) (p:Pl.Ptr),(QQ s n p).length<=Qbn n
 |0,p=>by unfold QQ;split<;>simp[Qbn]
 |n+1,p=>by
  unfold QQ;split
  ·simp
  ·rw[AA,List.length_flatMap]
   have h1:=sum_le (fun q=>(QQ s n q).length) (Qbn n) (Qh s p (n+1:Nat)).1 fun q _=>Qpg s n q
   have h2:=QeF s p (n+1:Nat);have h3:(Qh s p (n+1:Nat)).1.length*Qbn n<=4*Qbn n:=AW _ h2;have e:Qbn (n+1)=4*Qbn n+1:=rfl;omega
def Qbc(l:List Pl.Ptr):Nat:=(l.map fun p=>Qbn p.level.toNat).sum
def Qb6(s:Pm.Store)(l:List Pl.Ptr):List Pl.Ptr:=l.flatMap fun p=>QQ s p.level.toNat p
def QcK(s:Pm.Store)(l:List Pl.Ptr):Prop:= ∀p∈l,Qcb s p.level.toNat p/\0<=p.level
def QiG(p:Pl.Ptr)(l:List Pl.Ptr):Qbc (p::l)=Qbn p.level.toNat+Qbc l:=rfl
theorem Qtx(l m:List Pl.Ptr):Qbc (l++m)=Qbc l+Qbc m:=by unfold Qbc;grind
theorem Qoa(l:List Pl.Ptr):l.length<=Qbc l:=by
 induction l with
 |nil=>simp
 |cons p l ih=>rw[QiG];have:=QqG p.level.toNat;grind
def QuF{s:Pm.Store}{l:List Pl.Ptr}(h:Pl.ptrHole p=true):Qb6 s (p::l)=Qb6 s l:=by
 unfold Qb6;rw[AE,QdZ s _ h];rfl
theorem QuE{s:Pm.Store}{l:List Pl.Ptr}(h:Pl.ptrHole p=false)(h0:p.level=0):Qb6 s (p::l)=p::Qb6 s l:=by
 unfold Qb6;rw[AE];have:QQ s p.level.toNat p=[p]:=by rw[h0];show QQ s 0 p=_;unfold QQ;grind
 grind
theorem QuD{s:Pm.Store}{l:List Pl.Ptr}(h:Pl.ptrHole p=false)(h0:0<p.level)(hs:Qcb s p.level.toNat p):
 Qb6 s (p::l)=p::Qb6 s ((Qh s p p.level).1++l)/\QcK s (Qh s p p.level).1/\Qbc ((Qh s p p.level).1++l)<Qbc (p::l):=by
 obtain⟨n,hn⟩: ∃n:Nat,p.level=(n+1:Nat):=⟨p.level.toNat -1,by omega⟩;have e:p.level.toNat=n+1:=by omega
 rw[e] at hs;rcases hs with hs|⟨_,_,_,h3,h4⟩
 ·grind
 refine⟨?_,?_,?_⟩
 ·unfold Qb6
  rw[AE,List.flatMap_append,e]
  have:QQ s (n+1) p=p::(Qh s p (n+1:Nat)).1.flatMap (QQ s n):=by
   show(if Pl.ptrHole p then [] else p::(Qh s p (n+1:Nat)).1.flatMap (QQ s n))=_
   grind
  rw[this,hn,Ac]
  congr 2
  exact Qkl _ _ _ fun q hq=>(QlB (h4 q hq)).1
 ·rw[hn];exact fun q hq=>⟨(QlB (h4 q hq)).2.1,(QlB (h4 q hq)).2.2.1⟩
 ·rw[Qtx,QiG,hn,show((n+1:Nat):Int).toNat=n+1 from rfl]
  have h1:=sum_le (fun q:Pl.Ptr=>Qbn q.level.toNat) (Qbn n) (Qh s p (n+1:Nat)).1 fun q hq=>Qk8 (by have:=(QlB (h4 q hq)).2.2.2.1;omega)
  have h2:=QeF s p (n+1:Nat);have h5:(Qh s p (n+1:Nat)).1.length*Qbn n<=4*Qbn n:=AW _ h2;have e2:Qbn (n+1)=4*Qbn n+1:=rfl;have e3:Qbc (Qh s p (n+1:Nat)).1=((Qh s p (n+1:Nat)).1.map fun q:Pl.Ptr=>Qbn q.level.toNat).sum:=rfl;omega
def QP(s:Pm.Store)(t:Pl.Tree):List Pl.Ptr:=QQ s t.depth.toNat t.root
def Qfh{s:Pm.Store}(h:t.depth<=2):(QP s t).length<=21:=
 AP (Qpg s _ _) (AP (Qk8 (show t.depth.toNat<=2 by omega)) (by decide))
def Qey{s:Pm.Store}(h:QO s=true):0<=s.2.2.1:=by
 unfold QO at h;simp only[A7,Pl.inR,decide_eq_true_eq] at h;omega
def Qag(s:Pm.Store)(n:Qi):Int:=((QP s n.tree).length:Nat)
end Aw
end
section
open Go.RowKit
namespace Aw
attribute [local irreducible] ASeq ADraw AWP Loc AStep Fg.PlanF Fg.Flts EndR Fk.PlanF Fk.Flts Fk.AStepM Fk.Grew Fk.Gs
theorem Qon(l:List Int): ∀r∈l.map (fun n=>[dI n]),∀d∈r,d.cell=true:=by
 intro r hr d hd;obtain⟨p,_,rfl⟩:=AI.1 hr;simp at hd;subst hd;rfl
theorem QtC(l:List (List UInt8)): ∀r∈l.map (fun n=>[dS n]),∀d∈r,d.cell=true:=by
 intro r hr d hd;obtain⟨p,_,rfl⟩:=AI.1 hr;simp at hd;subst hd;rfl
def DoesE.one{P:AN}{f:Ag}{args:List AV}{x:AV}{H1:List Blk}(h:DoesE P f args [] [] (fun y K=>y=x/\K=H1)):Does P f args [] [] x H1:=
 ⟨fun i C hC=>by simp at hC,fun B σ S w cargs gvs h1 h2 h3 h4 h5 h6=>(h B σ S w cargs gvs h1 h2 h3 h4 h5 h6).mono fun _ _ ⟨_,_,⟨e1,e2⟩,_,h7⟩=>e1▸e2▸h7⟩
def dCopy5(refs last:List Int)(h1:refs.length<=100000)(h2:last.length<=100000):Does A1 130 [.d (.agg [dInts refs,dInts last])] [] [] (.agg [.osl 0 1 0 refs.length,.osl 1 1 0 last.length]) [.arr 1 1 3 (rI refs),.arr 1 1 3 (rI last)]:=by
 refine DoesE.one ?_;refine kH fun gvs=>?_
 refine Qa 0 (h:=?_)
 repeat' first|refine kS ?_|(show AWP _ (.region 1 _ _) _ _;refine(Fk.awp_drawF (id:=1) [0,1,2,4,5,6] [3,7,9] [(0,.arr 0 1 3 []),(4,.arr 0 1 3 [])] [] ?_))|refine(Fk.aw_fltS 2 rfl rfl rfl rfl rfl ?_)|refine(Fk.aw_fltS 3 rfl rfl rfl rfl rfl ?_)|refine(Fk.aw_appM (by kernel_rfl) Ty.h rfl Ty.h (hcell:=?_) (hb:=?_) (kk:=?_))|refine kU ?_|fail
 ·exact Qon refs
 ·simp;omega
 ·exact Qon last
 ·simp;omega
 refine QdV [2,1000000] [2,3,1] (env':=[(2,.ptr 2 0 0),(1000000,.gh [] gvs)]) (H':=[.arr 1 1 3 (rI refs),.arr 1 1 3 (rI last),.row 0 [.osl 0 1 0 refs.length,.osl 1 1 0 last.length]]) (h:=?_);refine Q3 2 (hx:=?_);exact⟨rfl,rfl⟩
def Qkf(b:UInt8)(x:List UInt8): ∀(l:List (List UInt8)),l≠[]->QW b (l++[x])=QW b l++(b::x)
 |[],h=>absurd rfl h
 |[a],_=>by simp[QW]
 |a::c::l,_=>by
  have ih:=Qkf b x (c::l) (by simp)
  have e: ∀m:List (List UInt8),m≠[]->QW b (a::m)=a++(b::QW b m):=fun m hm=>by
   cases m with
   |nil=>exact absurd rfl hm
   |cons d m=>simp[QW]
  rw[Ac,e _ (by simp),ih,e _ (by simp)];simp
def Qan(w:Pl.Sto)(l:List Pl.Ptr)(level:Int)(old:Pl.Ptr):Pl.Sto×Pl.Ptr×Bool:=
 if l.all Pl.ptrHole then(w,Pl.hole,true) else
 if !Pl.ptrHole old&&QaX old (QZ l).1&&(w.rows.getD old.pat.toNat []==(QZ l).1) then(w,old,true) else w.write (QZ l).1 level
def al8None(l:List Pl.Ptr)(hl:l.length<=1000):Pure A1 198 [dPtrs l] (dB (l.all Pl.ptrHole)):=by
 refine kE ?_
 repeat refine kA ?_
 refine Qs (fun m st=> ∃k:Nat,k<=l.length/\m=l.length -k/\AK ((l.take k).all Pl.ptrHole=true)/\st=⟨16,[(3,.d (dI k)),(0,.d (dPtrs l))],[]⟩) [3,0] 0 l.length ⟨0,by omega,rfl,Pm.hid rfl,rfl⟩ (round:=?_);rintro m st ⟨k,hk,rfl,hA,rfl⟩
 repeat refine kG ?_
 cases q4:decide ((k:Int)<(l.length:Int))
 ·repeat refine kA ?_
  have:k=l.length:=by simp at q4;omega
  have h:=hA.out;rw[this,A6 (AH _)] at h;exact Qb (hx:=by rw[h])
 have hk2:k<l.length:=by simp at q4;omega
 obtain⟨x,hx⟩: ∃x,l[k]? =some x:=⟨_,A0 hk2⟩;have hr:=Qu (f:=rPtr) hx;have c1:=Qdt x;have T:AK ((l.take (k+1)).all Pl.ptrHole=Pl.ptrHole x):=Pm.hid (by rw[A3,hx,AC,hA.out];simp)
 have F:AK (Pl.ptrHole x=false->l.all Pl.ptrHole=false):=Pm.hid fun h=>by
  rw[AZ];exact⟨x,A2 hx,by simp[h]⟩
 clear hx hA;generalize Pl.ptrHole x=hb at*
 repeat' first|refine kS ?_|refine qS (iy hr) ?_|refine kU ?_|refine kV ?_ ?_<;>intro q|fail
 all_goals first|exact Qb (hx:=by rw[F.out (by simpa using q)])|refine Qn (l.length -(k+1)) (by omega) ⟨k+1,by omega,rfl,Pm.hid (T.out.trans (by simpa using q)),?_⟩;simp[keepE,go_sem];done
theorem aFanPut(l:List Pl.Ptr)(hl:l.length=4):Pure A1 199 [dPtrs l] (.tup [dS (QZ l).1,dB (QZ l).2]):=by
 have hd:=Pm.hid (QZ.eq_def l);refine kE ?_
 repeat' first|refine kA ?_|refine kV ?_ ?_<;>intro q|fail
 all_goals first|exfalso;simp at q;omega|skip
 refine Qs (fun m st=> ∃(k:Nat) (out:List UInt8),k<=4/\m=4 -k/\out.length<=101*k/\AK (out=QW 44 ((l.take k).map Pl.ptrPut))/\AK ((l.take k).all Pl.ptrOk=true)/\
  st=⟨45,[(4,.d (dS out)),(5,.d (dB ((l.take k).any fun p=> !Pl.ptrHole p))),(6,.d (dI k)),(0,.d (dPtrs l))],[]⟩) [4,5,6,0] 0 4 ⟨0,[],by omega,rfl,by simp,Pm.hid rfl,Pm.hid rfl,rfl⟩ (round:=?_)
 rintro m st ⟨k,out,hk,rfl,hol,hO,hA,rfl⟩
 repeat refine kG ?_
 cases q4:decide ((k:Int)<(l.length:Int))
 ·have:k=4:=by simp at q4;omega
  subst this;have h1:=hO.out;have h2:=hA.out;rw[A6 (by omega)] at h1 h2⊢;cases hs:l.any fun p=> !Pl.ptrHole p
  ·repeat refine kA ?_
   exact Qb (hx:=by rw[hd.out,if_neg (by rw[hs];simp)])
  ·repeat refine kA ?_
   exact Qb (hx:=by rw[hd.out,if_pos ⟨hl,hs,h2⟩,<-h1])
 have hk2:k<l.length:=by simp at q4;omega
 obtain⟨x,hx⟩: ∃x,l[k]? =some x:=⟨_,A0 hk2⟩;have hr:=Qu (f:=rPtr) hx;have c1:=Qdt x;have c2:=aPtrOk x;have c3:=aPtrPut x;have hpl:=Qgc x;have T1:AK ((l.take (k+1)).all Pl.ptrOk=Pl.ptrOk x):=Pm.hid (by rw[A3,hx,AC,hA.out];simp);have T2:AK ((l.take (k+1)).any (fun p=> !Pl.ptrHole p)=((l.take k).any (fun p=> !Pl.ptrHole p)|| !Pl.ptrHole x)):=Pm.hid (by rw[A3,hx,List.any_append];simp)
 have T3:AK (QW 44 ((l.take (k+1)).map Pl.ptrPut)=if k=0 then Pl.ptrPut x else out++(44::Pl.ptrPut x)):=Pm.hid (by
  rw[A3,hx,Ae,hO.out]
  by_cases h0:k=0
  ·subst h0;simp[QW]
  ·rw[if_neg h0]
   exact Qkf _ _ _ (by intro h;have:=congrArg List.length h;rw[A4,List.length_take,List.length_nil] at this;omega))
 have F:AK (Pl.ptrOk x=false->QZ l=([],false)):=Pm.hid fun h=>by
  rw[hd.out,if_neg];intro h2;have:=AB.1 h2.2.2 x (A2 hx);rw[h] at this;cases this
 have h0o:k=0->out=[]:=fun h=>by have:=hO.out;subst h;simpa[QW] using this
 clear hx hO hA hd;generalize ((l.take k).any fun p=> !Pl.ptrHole p)=sm at*;generalize Pl.ptrPut x=px at*;cases hok:Pl.ptrOk x
 ·rw[hok] at c2
  repeat' first|refine kS ?_|refine qS (iy hr) ?_|refine kU ?_|fail
  exact Qb (hx:=by rw[F.out hok])
 rw[hok] at c2 T1
 cases hhx:Pl.ptrHole x<;>rw[hhx] at c1 T2<;>by_cases h0:k=0<;>cases sm<;>(
  repeat' first|refine kS ?_|refine qS (iy hr) ?_|refine qS (Qdg (m:=[44]) rfl rfl (by first|omega|(simp;omega))) ?_|refine qS (Qdg rfl rfl (by first|omega|(simp;omega))) ?_|refine kU ?_|refine kV ?_ ?_<;>intro q|fail
  all_goals first
   |(exfalso;simp only[decide_eq_true_eq,decide_eq_false_iff_not] at*;omega)
   |(refine Qn (4 -(k+1)) (by omega) ⟨k+1,out++px,by omega,rfl,by simp;omega,Pm.hid (by rw[T3.out,if_pos h0,h0o h0];rfl),Pm.hid T1.out,?_⟩;rw[T2.out];simp[keepE,go_sem];done)
   |(refine Qn (4 -(k+1)) (by omega) ⟨k+1,out++[44]++px,by omega,rfl,by simp;omega,Pm.hid (by rw[T3.out,if_neg h0];simp),Pm.hid T1.out,?_⟩;rw[T2.out];simp[keepE,go_sem];done))
theorem eFan(g:Nat)(w:Pl.Sto)(N:Nat)(hN:N<=1000000)(hw:w.W N)(l:List Pl.Ptr)(hl:l.length=4)(level:Int)(old:Pl.Ptr)(hold:Pl.ptrOk old=true):
 DoesE A1 139 [oS g w,.d (dPtrs l),.d (dI level),.d (dPtr old)] (hS g w) (gS g w) (fun x H=>x= .tup [oS g (Qan w l level old).1,.d (dPtr (Qan w l level old).2.1),.d (dB (Qan w l level old).2.2)]/\H=hS g (Qan w l level old).1):=by
 have hd:=Pm.hid (Qan.eq_def w l level old);have c1:=al8None l (by omega);have c2:=aFanPut l hl
 have hlen:(QZ l).1.length<=Pm.big:=by
  unfold QZ;split
  ·have:=Qji 44 (l.map Pl.ptrPut) 100 (fun x hx=>by obtain⟨p,_,rfl⟩:=AI.1 hx;exact Qgc p)
   simp only[A4] at this;simp only;unfold Pm.big;omega
  ·simp
 have c3:=eWrite g w N hN hw (QZ l).1 hlen level;have c4:=Qpl old (QZ l).1 hlen;have c5:=Qdt old;have hW:=(hw.write (QZ l).1 level).1;have l0:(w.write (QZ l).1 level).1.rows.length=w.rows.length:=by rw[hW.rows,hw.rows]
 have l1:(w.write (QZ l).1 level).1.refs.length=w.refs.length:=by rw[hW.refs,hw.refs]
 have l2:(w.write (QZ l).1 level).1.last.length=w.last.length:=by rw[hW.last,hw.last]
 have hg:(w.write (QZ l).1 level).1.gone.length=w.gone.length:=by rw[Pl.Qfm]
 generalize QZ l=ft at*;obtain⟨text,fine⟩:=ft;simp only at*;generalize Qan w l level old=res at*;cases hn:l.all Pl.ptrHole;rotate_left
 ·have hr:AK (res=(w,Pl.hole,true)):=Pm.hid (by rw[hd.out,if_pos hn])
  rw[hn] at c1;clear c2 c3 c4 c5 hd hW;refine kH fun gvs=>?_
  repeat refine kA ?_
  refine QN 5 (hx:=?_);rw[hr.out];exact⟨rfl,rfl⟩
 rw[hn] at c1 hd;simp only[Bool.false_eq_true,if_false] at hd;cases hh:Pl.ptrHole old;rotate_left
 ·have hr:AK (res=w.write text level):=Pm.hid (by rw[hd.out,if_neg (by simp[hh])])
  rw[hh] at c5;clear c4 hd hW;generalize w.write text level=wr at*;obtain⟨w2,p2,ok2⟩:=wr;simp only at l0 l1 l2 hg c3;refine kH fun gvs=>?_
  refine Qa 6 (h:=?_)
  repeat' first|refine kS ?_|refine QD [0,1,2,3,4] c3 cK (k:=kX ?_)|refine kU ?_|fail
  all_goals first|refine QN 5 (hx:=?_);rw[hr.out];exact⟨rfl,rfl⟩
 rw[hh] at c5;have hat:=QdP hold hh;obtain⟨a,ha⟩:=Int.eq_ofNat_of_zero_le hat.1;have r1:=QjQ (l:=w.rows) (a:=a) (by rw[hw.rows];omega);have hd:AK (res=if QaX old text&&(w.rows.getD a []==text) then(w,old,true) else w.write text level):=Pm.hid (by rw[hd.out,hh,ha];simp);generalize w.rows.getD a []=rv at*;generalize w.write text level=wr at*;obtain⟨w2,p2,ok2⟩:=wr;simp only at l0 l1 l2 hg c3;clear hW hold;obtain⟨p1,q2,q3,q4,q5⟩:=old;simp only at ha hat;subst ha;generalize QaX ⟨a,q2,q3,q4,q5⟩ text=ft at*;cases ft
 ·have hd:AK (res=(w2,p2,ok2)):=Pm.hid (by rw[hd.out];rfl)
  refine kH fun gvs=>?_
  refine Qa 6 (h:=?_)
  repeat' first|refine kS ?_|refine QD [0,1,2,3,4] c3 cK (k:=kX ?_)|refine kU ?_|fail
  all_goals first|refine QN 5 (hx:=?_);rw[hd.out];exact⟨rfl,rfl⟩
 refine kH fun gvs=>?_
 refine Qa 6 (h:=?_)
 repeat' first|refine kS ?_|refine qS (Qdf Ty.h rfl rfl r1 rfl) ?_|(show AWP _ (.region 5 _ _) _ _;refine(Fg.awp_drawF (id:=5) [1] [2,3] ?_))|refine QD [0,1,2,3,4] c3 cK (k:=kX ?_)|refine kU ?_|refine kV ?_ ?_<;>intro q|fail
 all_goals first|refine QN 5 (hx:=?_);rw[hd.out,if_pos (by rw[q];rfl)];exact⟨rfl,rfl⟩|refine QN 5 (hx:=?_);rw[hd.out,if_neg (by rw[q];simp)];exact⟨rfl,rfl⟩

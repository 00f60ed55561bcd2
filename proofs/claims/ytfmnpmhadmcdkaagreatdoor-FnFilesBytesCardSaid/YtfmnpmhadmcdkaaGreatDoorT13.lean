/- Of fby_card; no condition. -/
import Derived.Test.YtfmnpmhadmcdkaaGreatDoorT11
import Derived.Test.YtfmnpmhadmcdkaaGreatDoorT12
set_option linter.all false
set_option maxRecDepth 100000
set_option maxHeartbeats 8000000
open Go renaming FuncId->AJ
open Go.Proofs.Tryz renaming prog->A0,underlying5->A8,underlying22->AE
open Go.RowKit.Below renaming refl->AI
open Int renaming toNat_natCast->A2
open List renaming getElem?_eq_getElem->A1,findIdx?_eq_some_iff_getElem->A3,mem_of_getElem?->A4,length_append->A5,findIdx?_eq_none_iff->A6,getElem?_eq_some_iff->A7,length_cons->A9,length_nil->AA,mem_iff_getElem?->AB,getElem?_take->AC,take_add_one->AD,take_length->AF,mem_append->AG,length_map->AH
namespace Go.Proofs.YtfmnpmhadmcdkaaGreatDoor
noncomputable section
open Go.RowKit
namespace Aw
variable{q r:List UInt8×Nat}{f:Nat}{b:UInt8}{o:List UInt8}{k:Int}
attribute [local irreducible] ASeq ADraw AWP Loc AStep
def Qep(p:Pl.Ptr):Pure A0 62 [dPtr p] (dB (Pl.ptrHole p)):=Qdv rfl fun w _=>Pm.Qi5 p w
def bIn(a b c:Int):Pure A0 57 [dI a,dI b,dI c] (dB (Pl.inR a b c)):=Qdv rfl fun w _=>(Pm.imIn a b c w).mono fun _ _ h=>⟨h.1,h.2▸AI _ _⟩
def bIsRow(a:Int):Pure A0 113 [dI a] (dB (Pl.inR a 8 63)):=by
 refine kB ?_
 repeat' first|refine kS ?_|refine qS (Qdh cK (bIn _ _ _) rfl) ?_|refine kU ?_|fail
 exact Qb (hx:=rfl)
theorem bPtrOk(p:Pl.Ptr):Pure A0 61 [dPtr p] (dB (Pl.ptrOk p)):=by
 have hd:=Pm.hid (Qka p);have c:=Qep p;generalize Pl.ptrOk p=r at*;generalize Pl.ptrHole p=h at*;obtain⟨x1,x2,x3,x4,x5⟩:=p;simp only at hd;refine kE ?_;refine Qa 0 (h:=?_)
 repeat' first|refine kS ?_|refine qS (Qdh cK (bIsRow _) rfl) ?_|refine qS (Qdh cK (bIn _ _ _) rfl) ?_|refine kU ?_|refine kV ?_ ?_<;>intro q|fail
 all_goals exact Qb (hx:=congrArg dB (by rw[hd.out];simp_all))
def bSumOf(s:List UInt8)(h:s.length<=Pm.big):Pure A0 189 [dS s] (dI (Pl.sumOf s:Nat)):=Qdv rfl fun w _=>(Pm.imSumOf s w h).mono fun e w' h=>⟨h.1,h.2▸AI _ _⟩
def bNumPut(n:Int):Pure A0 241 [dI n] (dS (Pl.numPut n)):=Qdv rfl fun w hL=>Pm.Qkn n w hL
def bNumGet(s:List UInt8)(hs:s.length<=Pm.big):Pure A0 179 [dS s] (.tup [dI ((Pl.numGet s).getD 0:Nat),dB (Pl.numGet s).isSome]):=
 QeY (xs:=[.int .i64 ((Pl.numGet s).getD 0:Nat),.bool (Pl.numGet s).isSome]) rfl fun w hL=>(Pm.Qn8 s w hs hL).mono fun e w' h=>⟨h.1.trans (by cases Pl.numGet s<;>rfl),h.2⟩
def bPtrPut(p:Pl.Ptr):Pure A0 291 [dPtr p] (dS (Pl.ptrPut p)):=Qdv rfl fun w hL=>Pm.Qn7 p w hL
theorem bPtrGet(s:List UInt8)(hs:s.length<=4294967280):Pure A0 244 [dS s] (.tup [dPtr (QB s).1,dB (QB s).2]):=by
 refine QeY (xs:=[Pm.vptr (QB s).1,.bool (QB s).2]) rfl fun w hL=>(Pm.Qta s w hs hL).mono ?_
 rintro e w' ⟨h|h,hb⟩
 ·obtain⟨p,hp,rfl⟩:=h
  rw[pg_is hp];grind
 grind [QtR]
theorem Qtz(p:Pl.Ptr)(s:List UInt8)(hs:s.length<=Pm.big):Pure A0 117 [dPtr p,dS s] (dB (QaU p s)):=by
 refine kE ?_;refine Qa 0 (h:=?_)
 repeat' first|refine kS ?_|refine qD (lC (bPtrOk p)) ?_|refine qD (lC (Qep p)) ?_|refine qD (lC (bSumOf s hs)) ?_|refine kU ?_|refine kV ?_ ?_<;>intro q|fail
 all_goals exact Qb (hx:=congrArg dB (by simp_all[QaU]))
theorem bRead(s:Pm.Store)(hg:QP s)(p:Pl.Ptr)(hp:Pl.ptrHole p=false->Pl.ptrOk p=true):Pure A0 65 [.pd (rSt s),dPtr p] (.tup [dS (Qf s.1 p).1,dB (Qf s.1 p).2]):=by
 have hd:=Pm.hid (Qf.eq_def s.1 p);refine kE ?_;refine Qa 0 (h:=?_);cases h1:Pl.ptrHole p;rotate_left
 ·repeat' first|refine kS ?_|refine qS (lC (h1▸Qep p)) ?_|refine kU ?_|fail
  all_goals exact Qb (hx:=by rw[hd.out,h1];rfl)
 ·have hat:=QdD (hp h1) h1
  have hm:=hg.many;obtain⟨x,hx⟩: ∃x,s.1[p.pat.toNat]? =some x:=⟨_,A1 (by omega)⟩;have hr:(s.1.map fun s=>[dS s])[p.pat.toNat]? =some [dS x]:=by rw[List.getElem?_map,hx];rfl
  have hgd:s.1.getD p.pat.toNat []=x:=by rw[List.getD_eq_getElem?_getD,hx];rfl
  have hxl:x.length<=Pm.big:=by have:=hg.row x (A4 hx);unfold Pm.big;omega
  rw[hgd,h1] at hd;clear hx hgd
  repeat' first|refine kS ?_|refine qD (Qdi rfl) ?_|refine qS (lC (h1▸Qep p)) ?_|refine qD (lC (Qtz p x hxl)) ?_|refine qD (QcV Ty.h rfl Ty.h rfl rfl rfl hat.1 hr) ?_|refine kU ?_|refine kV ?_ ?_<;>intro q|fail
  ·refine Qb (hx:=?_)
   rw[hd.out];simp_all
  ·refine Qb (hx:=?_)
   rw[hd.out];simp_all
def Qt3(p:Pl.Ptr):Pure A0 293 [dPtr p] (dB (!Pl.ptrHole p)):=by
 refine kE ?_;refine Qa 0 (h:=?_)
 repeat' first|refine kS ?_|refine qS (lC (Qep p)) ?_|refine kU ?_|fail
 exact Qb (hx:=rfl)
def bFanOf1(p k:Pl.Ptr):Pure A0 188 [dPtr k,.pd (rPtr p)] (dB (decide (p.birth<k.birth))):=by
 refine kE ?_;refine Qa 0 (h:=?_)
 repeat refine kA ?_
 exact Qb (hx:=rfl)
def QbO(l:List Pl.Ptr)(pr:Pl.Ptr->Bool):Int:=match l.findIdx? pr with
 |some i=>(i:Int)
 |none=> -1
theorem Qn9(l:List Pl.Ptr)(pr:Pl.Ptr->Bool):decide (QbO l pr≥0)=l.any pr:=by grind [QbO]
theorem Qpm(l:List Pl.Ptr)(hl:l.length<=1000000)(f:AJ)(pr:Pl.Ptr->Bool)(hf: ∀args w,(callFunc f args).run A0 w= .ok (.enter f args) w)(h: ∀p∈l,Pure A0 f [dPtr p] (dB (pr p))):
 PureF A0 249 [.d (dPtrs l),.fn (.func f) []] (dI (QbO l pr)):=by
 refine kF ?_
 repeat refine kA ?_
 refine Qo (fun m st=> ∃k:Nat,k<=l.length/\m=l.length -k/\Hid (∀x∈l.take k,pr x=false)/\st=⟨19,[(8,.d (dI k)),(7,.d (dI l.length)),(0,.d (dPtrs l)),(1,.fn (.func f) [])],[]⟩) [8,7,0,1] 0 l.length ⟨0,by omega,rfl,Pm.hid (by simp),rfl⟩ (round:=?_);rintro m st ⟨k,hk,rfl,hA,rfl⟩
 repeat refine kG ?_
 cases q3:decide ((k:Int)<(l.length:Int))
 ·repeat refine kA ?_
  refine QR (hx:=?_);have:k=l.length:=by simp at q3;omega
  have h:=hA.out;rw[this,AF] at h;have:l.findIdx? pr=none:=A6.2 h;unfold QbO;rw[this]
 have hk2:k<l.length:=by simp at q3;omega
 obtain⟨x,hx⟩: ∃x,l[k]? =some x:=⟨_,A1 hk2⟩;have hr:=Qt (f:=rPtr) hx
 have T:Hid (pr x=false-> ∀y∈l.take (k+1),pr y=false):=Pm.hid fun h y hy=>by
  rw[AD,hx] at hy;rcases AG.1 hy with hy|hy
  ·exact hA.out y hy
  ·simp at hy;subst hy;exact h
 have F:Hid (pr x=true->QbO l pr=k):=Pm.hid fun h=>by
  have:l.findIdx? pr=some k:=by
   rw[A3];refine⟨hk2,?_,fun j hj=>?_⟩
   ·rw[(A7.1 hx).2];exact h
   ·have:=hA.out l[j] (AB.2 ⟨j,by rw[AC,if_pos hj];exact A1 (by omega)⟩)
    rw[this];simp
  unfold QbO;rw[this]
 have c:=h x (A4 hx);clear hx hA;generalize pr x=b at*
 repeat' first|refine kS ?_|refine qS (iy hr) ?_|refine qS (Qek hf c rfl rfl) ?_|refine kU ?_|refine kV ?_ ?_<;>intro q|fail
 all_goals first|exact Qh (l.length -(k+1)) (by omega) ⟨k+1,by omega,rfl,Pm.hid (T.out (by assumption)),rfl⟩|refine QR (hx:=?_);rw[F.out (by assumption)]
def Qk5(l:List Pl.Ptr)(hl:l.length<=1000000)(f:AJ)(pr:Pl.Ptr->Bool)(hf: ∀args w,(callFunc f args).run A0 w= .ok (.enter f args) w)(h: ∀p∈l,Pure A0 f [dPtr p] (dB (pr p))):
 PureF A0 187 [.d (dPtrs l),.fn (.func f) []] (dB (l.any pr)):=by
 have c:=Qpm l hl f pr hf h;have hd:=Pm.hid (Qn9 l pr);generalize QbO l pr=i at*;refine kF ?_
 repeat' first|refine kS ?_|refine qS (Qeq cK c rfl rfl) ?_|refine kU ?_|fail
 refine QR (hx:=?_);rw[<-hd.out]
theorem Qpl(l:List Pl.Ptr)(hl:l.length<=1000000)(f:AJ)(cap:D)(pr:Pl.Ptr->Bool)(hf: ∀args w,(callFunc f args).run A0 w= .ok (.enter f args) w)(h: ∀p∈l,Pure A0 f [dPtr p,cap] (dB (pr p))):
 PureF A0 249 [.d (dPtrs l),.fn (.func f) [.d cap]] (dI (QbO l pr)):=by
 refine kF ?_
 repeat refine kA ?_
 refine Qo (fun m st=> ∃k:Nat,k<=l.length/\m=l.length -k/\Hid (∀x∈l.take k,pr x=false)/\st=⟨19,[(8,.d (dI k)),(7,.d (dI l.length)),(0,.d (dPtrs l)),(1,.fn (.func f) [.d cap])],[]⟩) [8,7,0,1] 0 l.length ⟨0,by omega,rfl,Pm.hid (by simp),rfl⟩ (round:=?_);rintro m st ⟨k,hk,rfl,hA,rfl⟩
 repeat refine kG ?_
 cases q3:decide ((k:Int)<(l.length:Int))
 ·repeat refine kA ?_
  refine QR (hx:=?_);have:k=l.length:=by simp at q3;omega
  have h:=hA.out;rw[this,AF] at h;have:l.findIdx? pr=none:=A6.2 h;unfold QbO;rw[this]
 have hk2:k<l.length:=by simp at q3;omega
 obtain⟨x,hx⟩: ∃x,l[k]? =some x:=⟨_,A1 hk2⟩;have hr:=Qt (f:=rPtr) hx
 have T:Hid (pr x=false-> ∀y∈l.take (k+1),pr y=false):=Pm.hid fun h y hy=>by
  rw[AD,hx] at hy;rcases AG.1 hy with hy|hy
  ·exact hA.out y hy
  ·simp at hy;subst hy;exact h
 have F:Hid (pr x=true->QbO l pr=k):=Pm.hid fun h=>by
  have:l.findIdx? pr=some k:=by
   rw[A3];refine⟨hk2,?_,fun j hj=>?_⟩
   ·rw[(A7.1 hx).2];exact h
   ·have:=hA.out l[j] (AB.2 ⟨j,by rw[AC,if_pos hj];exact A1 (by omega)⟩)
    rw[this];simp
  unfold QbO;rw[this]
 have c:=h x (A4 hx);clear hx hA;generalize pr x=b at*
 repeat' first|refine kS ?_|refine qS (iy hr) ?_|refine qS (Qek hf c rfl rfl) ?_|refine kU ?_|refine kV ?_ ?_<;>intro q|fail
 all_goals first|exact Qh (l.length -(k+1)) (by omega) ⟨k+1,by omega,rfl,Pm.hid (T.out (by assumption)),rfl⟩|refine QR (hx:=?_);rw[F.out (by assumption)]
def Qk4(l:List Pl.Ptr)(hl:l.length<=1000000)(f:AJ)(cap:D)(pr:Pl.Ptr->Bool)(hf: ∀args w,(callFunc f args).run A0 w= .ok (.enter f args) w)(h: ∀p∈l,Pure A0 f [dPtr p,cap] (dB (pr p))):
 PureF A0 187 [.d (dPtrs l),.fn (.func f) [.d cap]] (dB (l.any pr)):=by
 have c:=Qpl l hl f cap pr hf h;have hd:=Pm.hid (Qn9 l pr);generalize QbO l pr=i at*;refine kF ?_
 repeat' first|refine kS ?_|refine qS (Qeq cK c rfl rfl) ?_|refine kU ?_|fail
 refine QR (hx:=?_);rw[<-hd.out]
def Qbp(many:Nat)(b:UInt8):Nat->List UInt8->List UInt8
 |0,o=>o
 |k+1,o=>if o.length<many then Qbp many b k (o++[b]) else o
def Qa3(rows:List (List D))(many kind:Nat)(q:List UInt8×Nat):List UInt8×Nat:=
 if kind=0 then(q.1++[Qbv (QaO rows q.2 256)],q.2+1)
 else if kind=1 then(q.1++[([97,98,126,48,58,59,61]:List UInt8).getD (QaO rows q.2 7).toNat 0],q.2+1)
 else if kind=2 then(Qbp many (Qbv (97+QaO rows q.2 3)) ((QaO rows (q.2+1) 6).toNat+1) q.1,q.2+1+1)
 else(q.1++[Qbv (QaO rows q.2 2*97)],q.2+1)
def Qbw(rows:List (List D))(many kind:Nat):Nat->List UInt8×Nat->List UInt8×Nat
 |0,q=>q
 |f+1,q=>if q.1.length<many then Qbw rows many kind f (Qa3 rows many kind q) else q
def Qcl(rows:List (List D))(p n:Nat):List UInt8×Nat:=
 Qbw rows (QaO rows p ((n:Int)+1)).toNat (QaO rows (p+1) 4).toNat (QaO rows p ((n:Int)+1)).toNat ([],p+1+1)
theorem QpQ(many:Nat)(b:UInt8): ∀(k:Nat) (o:List UInt8),o.length<=(Qbp many b k o).length/\(o.length<=many->(Qbp many b k o).length<=many)/\(0<k->o.length<many->o.length<(Qbp many b k o).length)
 |0,o=>⟨Nat.le_refl _,fun h=>h,fun h=>absurd h (by decide)⟩
 |k+1,o=>by
  unfold Qbp;obtain⟨h1,h2,_⟩:=QpQ many b k (o++[b])
  grind
theorem Qnn(rows:List (List D))(many kind:Nat)(q:List UInt8×Nat)(h:q.1.length<many):q.1.length<(Qa3 rows many kind q).1.length/\(Qa3 rows many kind q).1.length<=many/\(Qa3 rows many kind q).2<=q.2+2:=by
 unfold Qa3;split
 ·grind
 split
 ·grind
 split
 ·obtain⟨h1,h2,h3⟩:=QpQ many (Qbv (97+QaO rows q.2 3)) ((QaO rows (q.2+1) 6).toNat+1) q.1
  grind
 grind
def QtV(rows:List (List D))(many kind:Nat): ∀(f:Nat) (q:List UInt8×Nat),q.1.length<=many->(Qbw rows many kind f q).1.length<=many/\(Qbw rows many kind f q).2<=q.2+2*(many -q.1.length)
 |0,q,h=>⟨h,by show q.2<=_;omega⟩
 |f+1,q,h=>by
  unfold Qbw;split
  ·rename_i hlt
   obtain⟨h1,h2,h3⟩:=Qnn rows many kind q hlt;obtain⟨h4,h5⟩:=QtV rows many kind f _ h2;omega
  omega
def txt_len{rows:List (List D)}(hr:RdOk rows)(p n:Nat):(Qcl rows p n).1.length<=n/\(Qcl rows p n).2<=p+2+2*n:=by
 obtain⟨h1,h2⟩:=pkv_b hr p ((n:Int)+1);obtain⟨h3,h4⟩:=QtV rows (QaO rows p ((n:Int)+1)).toNat (QaO rows (p+1) 4).toNat (QaO rows p ((n:Int)+1)).toNat ([],p+1+1) (Nat.zero_le _);unfold Qcl;omega
theorem go_end{rows:List (List D)}{many kind:Nat}(h:Qbw rows many kind f q=r)(hq: ¬q.1.length<many):q=r:=by
 cases f with
 |zero=>exact h
 |succ f=>unfold Qbw at h;grind
theorem QqM{rows:List (List D)}{many kind:Nat}(h:Qbw rows many kind f q=r)(hq:q.1.length<many)(hf:many -q.1.length<=f): ∃f',many -(Qa3 rows many kind q).1.length<=f'/\Qbw rows many kind f' (Qa3 rows many kind q)=r:=by
 cases f with
 |zero=>omega
 |succ f=>
  unfold Qbw at h;rw[if_pos hq] at h;have:=(Qnn rows many kind q hq).1
  grind
section
variable{ops:Array Oper}{Q:Exit->St->Prop}{l:List Oper}{n:Nat}{env:List (Nat×AV)}{H H':List Blk}{d:Tmp}{ty:TypeId}{pos:String}{after:Array Edge}{gd:Option (Nat×Bool)}{xs:Array Operand}{tys:Array TypeId}{rows:List (List D)}{p:Nat}{m:Int}
def Que(k:Nat)(hr:RdOk rows)(hargs:xs.toList.map (aval env)=[.ptr k 0 0,.d (dI m)]:=by rfl)(hH:H[k]? =some (rdR rows p):=by rfl)(hp:p<=1000000:=by omega)(hm:m<=1000000:=by omega)
 (hw:awanted ops env ⟨some d,.call ⟨.value (.func 21),xs,tys⟩,ty,pos,after,gd⟩=some true:=by rfl) (hd:Nat.blt d n=true:=by rfl) (hg:gdOk ops n ⟨some d,.call ⟨.value (.func 21),xs,tys⟩,ty,pos,after,gd⟩=true:=by rfl)
 (hH': ∀R:List Blk->Prop,R H'->R (H.set k (rdR rows (p+1))):=by intro R hR;simp only[List.set_cons_zero,List.set_cons_succ];exact hR)
 (kk: ∀v:Nat,((v:Int)<m∨v=0)->QaO rows p m=v->ASeq A0 ops Q l ⟨n,(d,.d (dI v))::env,H'⟩):ASeq A0 ops Q (⟨some d,.call ⟨.value (.func 21),xs,tys⟩,ty,pos,after,gd⟩::l) ⟨n,env,H⟩:=by
 have e:=hH' (fun r=>r=H') rfl;obtain⟨h1,h2⟩:=pkv_b hr p m;refine QA [k] (ePick rows hr p hp m hm) Tryz.call21 (hargs:=hargs) (hks:=by simp[hH,Blk.ren,AV.renL,AV.ren]) (hnd:=by simp) (hw:=hw) (hd:=hd) (hg:=hg) (k:=?_);rintro _ _ ⟨rfl,rfl⟩;have:=kk (QaO rows p m).toNat (by omega) (by omega);rw[Int.toNat_of_nonneg h1] at this;rw[<-e] at this;show ASeq _ _ _ _ ⟨_,_,H.set k (rdR rows (p+1))++[]⟩;rw[List.append_nil];exact this
end
def TX(rows:List (List D))(fin:List UInt8×Nat)(p n many kind:Nat)(gvs:List Value)(m:Nat)(st:St):Prop:= ∃(out:List UInt8) (g p' f:Nat),m=many -out.length/\out.length<=n/\p'<=p+2+2*out.length/\many -out.length<=f/\Qbw rows many kind f (out,p')=fin/\
    st=⟨72,[(5,.osl 1 g 0 out.length),(6,.d (dI many)),(7,.d (dI kind)),(0,.ptr 0 0 0),(1000000,.gh [.ptr 0 0 0] gvs)],[rdR rows p',.arr g 1 5 (rBy out)]⟩
theorem Qnf{rows:List (List D)}{fin:List UInt8×Nat}{p n many kind g p' k:Nat}{gvs:List Value}{out:List UInt8}{st:St}(hgo:Qbw rows many kind f (out,p')=fin)(hlt:out.length<many)(hf:many -out.length<=f)(hstep:Qa3 rows many kind (out,p')=(out++[b],p'+1))(h1:out.length<n)(hk:k=many -(out.length+1))
 (hs:st=⟨72,[(5,.osl 1 g 0 (out.length+1)),(6,.d (dI many)),(7,.d (dI kind)),(0,.ptr 0 0 0),(1000000,.gh [.ptr 0 0 0] gvs)],[rdR rows (p'+1),.arr g 1 5 (rBy out++[[.v (.int .u8 b.toNat)]])]⟩:=by simp only[keepE,go_sem];rfl) (h2:p'+1<=p+2+2*out.length+1:=by omega):TX rows fin p n many kind gvs k st:=by
 obtain⟨f',h3,h4⟩:=QqM hgo hlt hf;rw[hstep] at h3 h4;refine⟨out++[b],g,p'+1,f',by grind,by grind,by grind,h3,h4,?_⟩
 grind
variable{rows:List (List D)}{many kind v p':Nat}{out:List UInt8}
theorem st0(h:((kind:Int)==0)=true)(ev:QaO rows p' 256=v):Qa3 rows many kind (out,p')=(out++[Qbv v],p'+1):=by grind [Qa3]
theorem st1(h0:((kind:Int)==0)=false)(h:((kind:Int)==1)=true)(ev:QaO rows p' 7=v):Qa3 rows many kind (out,p')=(out++[([97,98,126,48,58,59,61]:List UInt8).getD v 0],p'+1):=by grind [Qa3]
theorem st2(h0:((kind:Int)==0)=false)(h1:((kind:Int)==1)=false)(h:((kind:Int)==2)=true){v2:Nat}(ev:QaO rows p' 3=v)(ev2:QaO rows (p'+1) 6=v2):Qa3 rows many kind (out,p')=(Qbp many (Qbv (97+v)) (v2+1) out,p'+1+1):=by grind [Qa3]
theorem st3(h0:((kind:Int)==0)=false)(h1:((kind:Int)==1)=false)(h:((kind:Int)==2)=false)(ev:QaO rows p' 2=v):Qa3 rows many kind (out,p')=(out++[Qbv (v*97)],p'+1):=by grind [Qa3]
theorem Qs0{r:List UInt8}(h:Qbp many b (k+1).toNat o=r)(hc:0<=k/\o.length<many):Qbp many b (k -1+1).toNat (o++[b])=r:=by
 rw[show(k+1).toNat=(k -1+1).toNat+1 by omega] at h
 grind [Qbp]
theorem run_end(hc: ¬(0<=k/\o.length<many)):Qbp many b (k+1).toNat o=o:=by
 by_cases hk:0<=k
 ·rw[show(k+1).toNat=k.toNat+1 by omega]
  grind [Qbp]
 ·rw[show(k+1).toNat=0 by omega];rfl
attribute [local irreducible] Fg.PlanF Fg.Flts EndR
theorem eTextX(rows:List (List D))(hr:RdOk rows)(p:Nat)(hp:p<=900000)(n:Nat)(hn:n<=1000):
 DoesE A0 20 [.ptr 0 0 0,.d (dI n)] [rdR rows p] [.ptr 0 0 0] (fun x H=>x= .d (dS (Qcl rows p n).1)/\H=[rdR rows (Qcl rows p n).2]):=by
 refine kH fun gvs=>?_
 repeat' first|refine kS ?_|(refine Que 0 hr (kk:=?_);intro v hv ev)|refine kU ?_|fail
 rename_i many hmany em;generalize v=kind at*;obtain⟨fin,hfin⟩: ∃r,Qcl rows p n=r:=⟨_,rfl⟩;rw[hfin];have hgo:Qbw rows many kind many ([],p+1+1)=fin:=by rw[<-hfin];unfold Qcl;rw[em,ev,A2,A2]
 clear em ev hfin;refine Qo (TX rows fin p n many kind gvs) [5,6,7,0,1000000] 2 many ⟨[],0,p+1+1,many,by simp,by simp,by simp,by simp,hgo,rfl⟩ (round:=?_);clear hgo;rintro m st ⟨out,g,p',f,rfl,hol,hp',hf,hgo,rfl⟩
 repeat refine kG ?_
 cases q3:decide ((out.length:Int)<(many:Int))
 ·repeat' first|refine kS ?_|refine qS (QhN AE A8 Tryz.underlying9 rfl rfl rfl) ?_|refine kU ?_|fail
  all_goals first|refine Q1 1 (hx:=?_);have:=go_end hgo (by simp only[decide_eq_false_iff_not] at q3;exact fun h=>q3 (by exact_mod_cast h));subst this;exact⟨rfl,rfl⟩
 have hlt:out.length<many:=by simp only[decide_eq_true_eq] at q3;omega
 have hmn:many<=n:=by omega
 repeat' first|refine kS ?_|(refine Que 0 hr (kk:=?_);intro v hv ev)|(refine QhH (QnO AE A8 rfl rfl rfl (by decide)) (k:=?_);refine Qd1 (hX:=fun _ hR=>hR) (k:=?_))|refine qS (Qh9 Ty.h rfl Ty.h rfl (l:=[97,98,126,48,58,59,61]) rfl rfl (by simp only[A9,AA];omega)) ?_|refine qS (QdJ Tryz.underlying3 A8 rfl rfl (QtN _)) ?_|refine qS (Qdu rfl rfl (by omega)) ?_|refine QV Ty.h rfl Ty.h (hb:=?_) (kk:=?_)|refine kU ?_|refine kV ?_ ?_<;>intro q|fail
 all_goals first|show((rBy out).length+1)*1<=140737488355328;rw[AH];omega|refine Qh (many -(out.length+1)) (by omega) (Qnf hgo hlt hf (st0 (by assumption) ev) (by omega) rfl)|refine Qh (many -(out.length+1)) (by omega) (Qnf hgo hlt hf (st1 (by assumption) (by assumption) ev) (by omega) rfl)|refine Qh (many -(out.length+1)) (by omega) (Qnf hgo hlt hf (st3 (by assumption) (by assumption) (by assumption) ev) (by omega) rfl)|skip
 rename_i v0 hv0 ev0;obtain⟨f',h3,h4⟩:=QqM hgo hlt hf;rw[st2 (by assumption) (by assumption) (by assumption) ev0 ev] at h3 h4;have hb: ∃b:UInt8,Qbv (97+(v0:Int))=b:=⟨_,rfl⟩;obtain⟨b,hb⟩:=hb;rw[hb];rw[hb] at h3 h4
 refine Qo (fun m st=> ∃(k:Int) (o:List UInt8) (g:Nat),m=(k+1).toNat/\k<=6/\o.length<=n/\(0<=k/\o.length=out.length∨out.length<o.length)/\Qbp many b (k+1).toNat o=Qbp many b (v+1) out/\
  st=⟨72,[(9,.d (dI k)),(8,.d (dU b)),(5,.osl 1 g 0 o.length),(6,.d (dI many)),(7,.d (dI kind)),(0,.ptr 0 0 0),(1000000,.gh [.ptr 0 0 0] gvs)],[rdR rows (p'+1+1),.arr g 1 5 (rBy o)]⟩) [9,8,5,6,7,0,1000000] 2 (v+1)
  ⟨v,out,g,by omega,by omega,hol,.inl ⟨by omega,rfl⟩,by rw[show((v:Int)+1).toNat=v+1 by omega],rfl⟩ (round:=?_)
 rintro m st ⟨k,o,g,rfl,hk6,hol2,hpr,hrun,rfl⟩
 repeat refine kG ?_
 by_cases hc:0<=k/\o.length<many
 ·repeat' first|refine kS ?_|refine QV Ty.h rfl Ty.h (hb:=?_) (kk:=?_)|refine kU ?_|refine kV ?_ ?_<;>intro q|fail
  all_goals first|exfalso;simp only[decide_eq_false_iff_not] at*;omega|show((rBy o).length+1)*1<=140737488355328;rw[AH];omega|refine Qh k.toNat (by omega) ⟨k -1,o++[b],g+1,by omega,by omega,by rw[A5];simp only[A9,AA];omega,.inr (by rw[A5];simp only[A9,AA];omega),Qs0 hrun hc,?_⟩;simp only[keepE,go_sem,<-QjG,A5];rfl
 ·rw[<-hrun,run_end hc] at h3 h4
  repeat' first|refine kA ?_|refine kV ?_ ?_<;>intro q|fail
  all_goals first|exfalso;simp only[decide_eq_true_eq] at*;omega|refine Qh (many -o.length) (by simp only[decide_eq_false_iff_not,decide_eq_true_eq] at*;omega) ⟨o,g,p'+1+1,f',rfl,hol2,by simp only[decide_eq_false_iff_not,decide_eq_true_eq] at*;omega,h3,h4,?_⟩;simp[keepE,go_sem];done
def Qu6(rows:List (List D))(p:Nat):List UInt8:=
 if QaO rows p 30=0 then([[],[97],[47,47],[47,97,47],[47,65],[47,97,47,98,47,99,47,97,47,98],[47,97,98,99,100,101],[47,97,47,47,98]]:List (List UInt8)).getD (QaO rows (p+1) 8).toNat []
 else([[47,97],[47,98],[47,97,47,98],[47,97,47,99],[47,98,47,97],[47,99],[47,97,47,98,47,99],[47,99,47,97],[47,97,98],[47]]:List (List UInt8)).getD (QaO rows (p+1) 10).toNat []
def ePathX(rows:List (List D))(hr:RdOk rows)(p:Nat)(hp:p<=900000):
 DoesE A0 35 [.ptr 0 0 0] [rdR rows p] [.ptr 0 0 0] (fun x H=>x= .d (dS (Qu6 rows p))/\H=[rdR rows (p+2)]):=by
 refine kH fun gvs=>?_
 repeat' first|refine kS ?_|(refine Que 0 hr (kk:=?_);intro v hv ev)|refine qS (Qd0 Ty.h rfl Ty.h) ?_|refine qS (QcV Ty.h rfl Ty.h rfl rfl rfl (by omega) (QdT (f:=fun s=>[dS s]) [[],[97],[47,47],[47,97,47],[47,65],[47,97,47,98,47,99,47,97,47,98],[47,97,98,99,100,101],[47,97,47,47,98]] [] (n:=8) rfl (by omega))) ?_|refine qS (QcV Ty.h rfl Ty.h rfl rfl rfl (by omega) (QdT (f:=fun s=>[dS s]) [[47,97],[47,98],[47,97,47,98],[47,97,47,99],[47,98,47,97],[47,99],[47,97,47,98,47,99],[47,99,47,97],[47,97,98],[47]] [] (n:=10) rfl (by omega))) ?_|refine kU ?_|refine kV ?_ ?_<;>intro q|fail
 all_goals first
  |(refine Q1 1 (hx:=?_)
    refine⟨?_,rfl⟩;unfold Qu6
    first
     |(rw[if_pos (by assumption),A2];rfl)
     |(rw[if_neg (by simp only[beq_eq_false_iff_ne] at*;omega),ev,A2];rfl)
     |(rw[if_pos (by simp only[beq_iff_eq] at*;omega),ev,A2];rfl))

/- Of parts_card; no condition. -/
import Derived.Test.YtilenknaajikpaaGreatDoorP12
set_option linter.all false
set_option maxRecDepth 100000
set_option maxHeartbeats 8000000
open Bool renaming not_false->AG,true_and->AH,and_true->AI
open Go.Proofs.Tryz renaming prog->A5
open Go.RowKit renaming Hid->AK
open Int renaming eq_ofNat_of_zero_le->A3
open List renaming getElem?_eq_getElem->A0,getElem?_eq_some_iff->A1,getElem?_map->A2,getD_eq_getElem?_getD->A4,replicate->A6,length_cons->A7,length_nil->A8,mem_or_eq_of_mem_set->A9,getElem?_set_self->AC,mem_of_getElem?->AD,length_append->AE,range->AF,map_set->AJ
open Nat renaming zero_add->AB
open Option renaming getD_some->AA
namespace Go.Proofs.YtilenknaajikpaaGreatDoor
noncomputable section
open Go.RowKit
namespace Aw
variable{x:D}{r:List D}{k i j sz:Nat}{u:Operand}{T T0 ty:TypeId}{after:Array Edge}{pos:String}{H':List Blk}{ops:Array Oper}{P:Program}
def QjB{K:St->Prop}{n:Nat}{env:List (Nat×AV)}{H:List Blk}{gd:Option (Nat×Bool)}{F:TyF}{v:Operand}{g:Nat}{rows:List (List D)}
 (hT:tyf P T=some F) (hu:aval env u= .ept k g i j) (hk:H[k]? =some (.arr g sz T0 rows)) (hr:rows[i]? =some r) (hv:aval env v= .d x) (hj:Nat.blt j r.length=true:=by rfl) (hone:x.cell=true:=by rfl) (hsz:F.size=1:=by rfl)
 (hw:awanted ops env ⟨none,.store T u v,ty,pos,after,gd⟩=some true:=by rfl) (hg:gdOk ops n ⟨none,.store T u v,ty,pos,after,gd⟩=true:=by rfl)
 (hH: ∀R:List Blk->Prop,R H'->R (H.set k (.arr g sz T0 (rows.set i (r.set j x)))):=by intro R hR;simp only[List.set_cons_zero,List.set_cons_succ,Nat.zero_add];exact hR)
 (kk:K ⟨n,env,H'⟩):AStep P ops ⟨none,.store T u v,ty,pos,after,gd⟩ K ⟨n,env,H⟩:=
 astep (QgA hT hu hk hr (by simpa using hj) hv hone hsz) hw rfl hg (by have:=hH (fun r=>r=H') rfl;rw[this];exact kk)
def Qm9{Q:Exit->St->Prop}{l:List Oper}{n:Nat}{env:List (Nat×AV)}{H:List Blk}{gd:Option (Nat×Bool)}{F:TyF}{v:Operand}{g:Nat}{rows:List (List D)}
 (hT:tyf P T=some F) (hu:aval env u= .ept k g i j) (hk:H[k]? =some (.arr g sz T0 rows)) (hr:rows[i]? =some r) (hv:aval env v= .d x) (hj:Nat.blt j r.length=true:=by rfl) (hone:x.cell=true:=by rfl) (hsz:F.size=1:=by rfl)
 (hw:awanted ops env ⟨none,.store T u v,ty,pos,after,gd⟩=some true:=by rfl) (hg:gdOk ops n ⟨none,.store T u v,ty,pos,after,gd⟩=true:=by rfl)
 (hH: ∀R:List Blk->Prop,R H'->R (H.set k (.arr g sz T0 (rows.set i (r.set j x)))):=by intro R hR;simp only[List.set_cons_zero,List.set_cons_succ,Nat.zero_add];exact hR)
 (kk:ASeq P ops Q l ⟨n,env,H'⟩):ASeq P ops Q (⟨none,.store T u v,ty,pos,after,gd⟩::l) ⟨n,env,H⟩:=
 QjE (QgA hT hu hk hr (by simpa using hj) hv hone hsz) hw hg (by have:=hH (fun r=>r=H') rfl;rw[this];exact kk)
attribute [local irreducible] ASeq ADraw AWP Loc AStep Fg.PlanF Fg.Flts
def Qbv(refs last:List Int)(txg:Int)(i:Nat)(r:List UInt8):Bool:=decide (r.length<=128)&&((r==[])==(refs.getD i 0==0))&&decide (last.getD i 0<=txg)
def QbW(s:Pm.Store):Bool:=(AF 64).all fun i=>Qbv s.2.1.1 s.2.1.2 s.2.2.1 i (s.1.getD i [])
def Qb0(refs:List Int):List (Pl.Ptr×Int)->List Int->Bool
 |[],_=>true
 |(p,top)::r,many=>Pl.ptrOk p&& !Pl.ptrHole p&&decide (p.birth<=top)&&decide (many.getD p.pat.toNat 0+1<=refs.getD p.pat.toNat 0)&&Qb0 refs r (many.set p.pat.toNat (many.getD p.pat.toNat 0+1))
def Qbr(s:Pm.Store):List (Pl.Ptr×Int):=s.2.2.2.1.map (fun p=>(p,s.2.2.1 -1))++s.2.2.2.2.2.1.map (fun p=>(p,s.2.2.2.2.1))
def QO(s:Pm.Store):Bool:=(s.1.length==64)&&Pl.spaceOk s.2.1&&Pl.inR s.2.2.1 1 900&&Pl.inR s.2.2.2.2.1 0 (s.2.2.1 -1)&&QbW s&&Qb0 s.2.1.1 (Qbr s) (A6 64 0)
def Qhz{α:Type}{l:List α}{x:α}(h:l[j]? =some x):l.drop j=x::l.drop (j+1):=by
 obtain⟨h1,rfl⟩:=A1.1 h;exact List.drop_eq_getElem_cons h1
def Qpk(s:Pm.Store)(b1:s.2.1.1.length<=Pm.big)(b2:s.2.1.2.length<=Pm.big)(b3:s.2.2.2.1.length<=1000000000000)(b4:s.2.2.2.2.2.1.length<=1000000000000):
 Pure A5 96 [dSt s] (dB (QO s)):=by
 have hd:AK (QO s=((s.1.length==64)&&Pl.spaceOk s.2.1&&Pl.inR s.2.2.1 1 900&&Pl.inR s.2.2.2.2.1 0 (s.2.2.1 -1)&&QbW s&&Qb0 s.2.1.1 (Qbr s) (A6 64 0))):=Pm.hid rfl;have cS:=QuN s.2.1 b1 b2;refine kE ?_;refine Qa 0 (h:=?_);cases hT:Pl.inR s.2.2.1 1 900
 ·repeat' first|refine kS ?_|refine qS (lC (hT▸al6In s.2.2.1 1 900)) ?_|refine kU ?_|refine kV ?_ ?_<;>intro q|fail
  all_goals
   refine Qb (hx:=?_);rw[hd.out,hT];simp
 have hTb:1<=s.2.2.1/\s.2.2.1<=900:=by simpa[Pl.inR] using hT
 cases hK:Pl.inR s.2.2.2.2.1 0 (s.2.2.1 -1)
 ·repeat' first|refine kS ?_|refine qS (lC (hT▸al6In s.2.2.1 1 900)) ?_|refine qS (Qds cK (hK▸al6In _ _ _) rfl) ?_|refine kU ?_|refine kV ?_ ?_<;>intro q|fail
  all_goals
   refine Qb (hx:=?_);rw[hd.out,hK];simp
 repeat' first|refine kS ?_|refine qS (lC (hT▸al6In s.2.2.1 1 900)) ?_|refine qS (Qds cK (hK▸al6In _ _ _) rfl) ?_|refine kU ?_|refine kV ?_ ?_<;>intro q|fail
 ·refine Qb (hx:=?_)
  rw[hd.out,(by simp at q⊢;omega:(s.1.length==64)=false)];rfl
 ·refine Qb (hx:=?_)
  rw[hd.out,(by simpa using q:Pl.spaceOk s.2.1=false)];simp
 rename_i q1;have hlen:s.1.length=64:=by simp at q1;omega
 have hsp:Pl.spaceOk s.2.1=true:=by simpa using q
 have hd2:AK (QO s=(QbW s&&Qb0 s.2.1.1 (Qbr s) (A6 64 0))):=Pm.hid (by rw[hd.out,hT,hK,hsp,hlen];rfl);clear hd cS;have hsp1:s.2.1.1.length=64/\s.2.1.2.length=64:=by simp[Pl.spaceOk] at hsp;exact hsp.1
 have hrow:=Pm.hid (QbW.eq_def s);refine Qs (fun m st=> ∃k:Nat,k<=64/\m=64 -k/\AK ((AF k).all (fun i=>Qbv s.2.1.1 s.2.1.2 s.2.2.1 i (s.1.getD i []))=true)/\st=⟨144,[(3,.d (dI k)),(1,.d (.pd (rSt s)))],[]⟩) [3,1] 0 64 ⟨0,by omega,rfl,Pm.hid rfl,rfl⟩ (round:=?_);rintro m st ⟨k,hk,rfl,hA,rfl⟩
 repeat refine kG ?_
 cases q3:decide ((k:Int)<64);rotate_left
 ·have hk2:k<64:=by simp at q3;omega
  obtain⟨x,hx⟩: ∃x,s.1[k]? =some x:=⟨_,A0 (by omega)⟩;obtain⟨a,ha⟩: ∃x,s.2.1.1[k]? =some x:=⟨_,A0 (by omega)⟩;obtain⟨b,hb⟩: ∃x,s.2.1.2[k]? =some x:=⟨_,A0 (by omega)⟩;have hr:=Qu (f:=fun s=>[dS s]) hx;have hra:=Qu (f:=fun n=>[dI n]) ha;have hrb:=Qu (f:=fun n=>[dI n]) hb
  have e:AK (Qbv s.2.1.1 s.2.1.2 s.2.2.1 k (s.1.getD k [])=(decide (x.length<=128)&&((x==[])==(a==0))&&decide (b<=s.2.2.1))):=Pm.hid (by
   unfold Qbv;simp only[A4,hx,ha,hb,AA])
  have T:AK (Qbv s.2.1.1 s.2.1.2 s.2.2.1 k (s.1.getD k [])=true->(AF (k+1)).all (fun i=>Qbv s.2.1.1 s.2.1.2 s.2.2.1 i (s.1.getD i []))=true):=fun h=>Pl.Qdn (p:=fun i=>Qbv s.2.1.1 s.2.1.2 s.2.2.1 i (s.1.getD i [])) hA.out h
  have F:AK (Qbv s.2.1.1 s.2.1.2 s.2.2.1 k (s.1.getD k [])=false->QO s=false):=fun h=>by
   rw[hd2.out,hrow.out,Pl.Qdj (p:=fun i=>Qbv s.2.1.1 s.2.1.2 s.2.2.1 i (s.1.getD i [])) hk2 h];rfl
  rw[e.out] at T F;clear hx ha hb e hsp hd2 hrow hA
  repeat' first|refine kS ?_|refine qD (iy hr) ?_|refine qD (iy hra) ?_|refine qD (iy hrb) ?_|refine kU ?_|refine kV ?_ ?_<;>intro q|fail
  all_goals clear hr hra hrb
  all_goals simp only[decide_eq_true_eq,decide_eq_false_iff_not] at*
  all_goals first|refine Qn (64 -(k+1)) (by omega) ⟨k+1,by omega,rfl,Pm.hid (T.out ?_),rfl⟩;clear T F;generalize (x==[])=u at*;generalize (a==0)=v at*;cases u<;>cases v<;>simp at* <;>omega|refine Qb (hx:=?_);rw[F.out ?_];clear T F;generalize (x==[])=u at*;generalize (a==0)=v at*;cases u<;>cases v<;>simp at* <;>omega
 have hk3:k=64:=by simp at q3;omega
 have hd3:AK (QO s=Qb0 s.2.1.1 (Qbr s) (A6 64 0)):=Pm.hid (by
  have h:=hA.out;rw[hk3] at h
  rw[hd2.out,hrow.out,h];rfl)
 have how:AK (Qbr s=s.2.2.2.1.map (fun p=>(p,s.2.2.1 -1))++s.2.2.2.2.2.1.map (fun p=>(p,s.2.2.2.2.1))):=Pm.hid rfl
 have hbig:AK (∀(i:Nat) (n:Int),s.2.1.1[i]? =some n->n<=900):=fun i n h=>by
  have hi:i<64:=by have:=(A1.1 h).1;omega
  have h2:Pl.Qec s.2.1.1 s.2.1.2 i=true:=by
   simp[Pl.spaceOk] at hsp;exact hsp.2 i hi
  simp[Pl.Qec,Pl.QdO,Pl.inR,A4,h] at h2;omega
 clear hA hd2 hrow hsp;have hol:(Qbr s).length=s.2.2.2.1.length+s.2.2.2.2.2.1.length:=by rw[how.out];simp
 repeat refine kA ?_
 refine Qs (fun m st=> ∃(k:Nat) (many:List Int),k<=(Qbr s).length/\m=(Qbr s).length -k/\many.length=64/\AK (∀n∈many,0<=n/\n<=900)/\AK (QO s=Qb0 s.2.1.1 ((Qbr s).drop k) many)/\
  st=⟨144,[(5,.d (dI k)),(4,.osl 0 0 0 64),(1,.d (.pd (rSt s)))],[.arr 0 1 3 (many.map fun n=>[dI n])]⟩) [5,4,1] 1 (Qbr s).length ⟨0,A6 64 0,by omega,rfl,by simp,Pm.hid (by intro n hn;rw[(List.mem_replicate.1 hn).2];decide),Pm.hid hd3.out,rfl⟩ (round:=?_)
 clear hd3 hk3 q3;rintro m st ⟨j,many,hj,rfl,hml,hmb,hD,rfl⟩
 repeat' first|refine kA ?_|refine kV ?_ ?_<;>intro q|fail
 rotate_right
 ·refine Qb (hx:=?_)
  have:j=(Qbr s).length:=by simp at q;omega
  rw[hD.out,this,List.drop_length];rfl
 ·have hj2:j<s.2.2.2.1.length:=by simp at q;omega
  obtain⟨x,hx⟩: ∃x,s.2.2.2.1[j]? =some x:=⟨_,A0 hj2⟩;have hr:=Qu (f:=rPtr) hx;have hit:(Qbr s)[j]? =some (x,s.2.2.1 -1):=by rw[how.out,List.getElem?_append_left (by simpa using hj2),A2,hx];rfl
  have hjl:=(A1.1 hit).1;have hst:=hD.out;rw[Qhz hit,Qb0] at hst;have hD2:=Pm.hid hst;clear hst hD hit how hx;cases p1:Pl.ptrOk x
  ·repeat' first|refine kS ?_|refine qS (lC (p1▸aPtrOk x)) ?_|refine qS (iy hr) ?_|refine kU ?_|fail
   refine Qb (hx:=?_);rw[hD2.out,p1];rfl
  cases p2:Pl.ptrHole x;rotate_left
  ·repeat' first|refine kS ?_|refine qS (lC (p1▸aPtrOk x)) ?_|refine qS (lC (p2▸Qdt x)) ?_|refine qS (iy hr) ?_|refine kU ?_|fail
   refine Qb (hx:=?_);rw[hD2.out,p1,p2];rfl
  have hat:=QdP p1 p2;obtain⟨n,hn⟩: ∃n,many[x.pat.toNat]? =some n:=⟨_,A0 (by omega)⟩;obtain⟨a,ha⟩: ∃n,s.2.1.1[x.pat.toNat]? =some n:=⟨_,A0 (by omega)⟩;have hnb:=hmb.out n (AD hn);have hab:=hbig.out _ a ha;have hrm:(many.map fun n=>[dI n])[0+x.pat.toNat]? =some [dI n]:=by rw[AB,A2,hn];rfl
  have hrm2:((many.map fun n=>[dI n]).set x.pat.toNat [dI (n+1)])[0+x.pat.toNat]? =some [dI (n+1)]:=by rw[AB];exact AC (by simp;omega)
  have hra:(s.2.1.1.map fun n=>[dI n])[x.pat.toNat]? =some [dI a]:=by rw[A2,ha];rfl
  have hst:=hD2.out;simp only[A4,hn,ha,AA,p1,p2,AG,AH,AI] at hst;have hD3:=Pm.hid hst;clear hst hD2 ha hn hbig
  repeat' first|refine kS ?_|refine qS (lC (p1▸aPtrOk x)) ?_|refine qS (lC (p2▸Qdt x)) ?_|refine qS (iy hr) ?_|(show AWP _ (.region 20 _ _) _ _;refine(Fg.awp_drawF (id:=20) [] [10] ?_))|refine qD (Qdx Ty.h rfl Ty.h rfl rfl rfl rfl hat.1 hat.2) ?_|refine qD (Qdf Ty.h rfl rfl hrm rfl) ?_|refine qD (Qdf (r:=[dI (n+1)]) Ty.h rfl rfl hrm2 rfl) ?_|refine QjB Ty.h rfl rfl hrm rfl (kk:=?_)|refine qD (Qdc Ty.h rfl Ty.h rfl rfl rfl hat.1 hra) ?_|refine kU ?_|refine kV ?_ ?_<;>intro q|fail
  all_goals clear hT hTb hK q1 hlen hsp1 hk hol hr hra hrm hrm2
  all_goals simp only[decide_eq_true_eq,decide_eq_false_iff_not] at*
  ·refine Qb (hx:=?_)
   rw[hD3.out,decide_eq_false (by omega)];rfl
  ·refine Qb (hx:=?_)
   rw[hD3.out,decide_eq_false (p:=n+1<=a) (by omega)];simp
  ·refine Qn ((Qbr s).length -(j+1)) (by omega) ⟨j+1,many.set x.pat.toNat (n+1),by omega,rfl,by simp[hml],Pm.hid fun y hy=>?_,Pm.hid (by rw[hD3.out,decide_eq_true (by omega),decide_eq_true (by omega)];rfl),?_⟩
   ·rcases A9 hy with hy|rfl
    ·exact hmb.out y hy
    ·omega
   ·simp[keepE,go_sem,AJ]
 ·have hj3:s.2.2.2.1.length<=j/\j -s.2.2.2.1.length<s.2.2.2.2.2.1.length:=by simp at q;rename_i qq;simp at qq;omega
  obtain⟨x,hx⟩: ∃x,s.2.2.2.2.2.1[j -s.2.2.2.1.length]? =some x:=⟨_,A0 hj3.2⟩
  have hr:(s.2.2.2.2.2.1.map rPtr)[((j:Int) -(s.2.2.2.1.length:Int)).toNat]? =some (rPtr x):=by
   rw[show((j:Int) -(s.2.2.2.1.length:Int)).toNat=j -s.2.2.2.1.length by omega,A2,hx];rfl
  have hit:(Qbr s)[j]? =some (x,s.2.2.2.2.1):=by rw[how.out,List.getElem?_append_right (by simpa using hj3.1),List.length_map,A2,hx];rfl
  have hjl:=(A1.1 hit).1;have hst:=hD.out;rw[Qhz hit,Qb0] at hst;have hD2:=Pm.hid hst;clear hst hD hit how hx;cases p1:Pl.ptrOk x
  ·repeat' first|refine kS ?_|refine qS (lC (p1▸aPtrOk x)) ?_|refine qS (iy hr) ?_|refine kU ?_|fail
   refine Qb (hx:=?_);rw[hD2.out,p1];rfl
  cases p2:Pl.ptrHole x;rotate_left
  ·repeat' first|refine kS ?_|refine qS (lC (p1▸aPtrOk x)) ?_|refine qS (lC (p2▸Qdt x)) ?_|refine qS (iy hr) ?_|refine kU ?_|fail
   refine Qb (hx:=?_);rw[hD2.out,p1,p2];rfl
  have hat:=QdP p1 p2;obtain⟨n,hn⟩: ∃n,many[x.pat.toNat]? =some n:=⟨_,A0 (by omega)⟩;obtain⟨a,ha⟩: ∃n,s.2.1.1[x.pat.toNat]? =some n:=⟨_,A0 (by omega)⟩;have hnb:=hmb.out n (AD hn);have hab:=hbig.out _ a ha;have hrm:(many.map fun n=>[dI n])[0+x.pat.toNat]? =some [dI n]:=by rw[AB,A2,hn];rfl
  have hrm2:((many.map fun n=>[dI n]).set x.pat.toNat [dI (n+1)])[0+x.pat.toNat]? =some [dI (n+1)]:=by rw[AB];exact AC (by simp;omega)
  have hra:(s.2.1.1.map fun n=>[dI n])[x.pat.toNat]? =some [dI a]:=by rw[A2,ha];rfl
  have hst:=hD2.out;simp only[A4,hn,ha,AA,p1,p2,AG,AH,AI] at hst;have hD3:=Pm.hid hst;clear hst hD2 ha hn hbig
  repeat' first|refine kS ?_|refine qS (lC (p1▸aPtrOk x)) ?_|refine qS (lC (p2▸Qdt x)) ?_|refine qS (iy hr) ?_|(show AWP _ (.region 20 _ _) _ _;refine(Fg.awp_drawF (id:=20) [] [10] ?_))|refine qD (Qdx Ty.h rfl Ty.h rfl rfl rfl rfl hat.1 hat.2) ?_|refine qD (Qdf Ty.h rfl rfl hrm rfl) ?_|refine qD (Qdf (r:=[dI (n+1)]) Ty.h rfl rfl hrm2 rfl) ?_|refine QjB Ty.h rfl rfl hrm rfl (kk:=?_)|refine qD (Qdc Ty.h rfl Ty.h rfl rfl rfl hat.1 hra) ?_|refine kU ?_|refine kV ?_ ?_<;>intro q|fail
  all_goals clear hT hTb hK q1 hlen hsp1 hk hol hr hra hrm hrm2
  all_goals simp only[decide_eq_true_eq,decide_eq_false_iff_not] at*
  ·refine Qb (hx:=?_)
   rw[hD3.out,decide_eq_false (by omega)];rfl
  ·refine Qb (hx:=?_)
   rw[hD3.out,decide_eq_false (p:=n+1<=a) (by omega)];simp
  ·refine Qn ((Qbr s).length -(j+1)) (by omega) ⟨j+1,many.set x.pat.toNat (n+1),by omega,rfl,by simp[hml],Pm.hid fun y hy=>?_,Pm.hid (by rw[hD3.out,decide_eq_true (by omega),decide_eq_true (by omega)];rfl),?_⟩
   ·rcases A9 hy with hy|rfl
    ·exact hmb.out y hy
    ·omega
   ·simp[keepE,go_sem,AJ]
def QaY(kind:Int):Int:=if kind=1 then 12 else if kind=2 then 128 else 0
theorem QuM(kind:Int):Pure A5 161 [dI kind] (dI (QaY kind)):=by
 refine kB ?_
 repeat' first|refine kA ?_|refine kV ?_ ?_<;>intro q|fail
 all_goals exact Qb (hx:=congrArg dI (by simp_all[QaY]))
def Qkz(size each:Int)(h0:0<=size)(h1:size<=1000000000000)(h2:0<each)(h3:each<=1000000000000):Pure A5 162 [dI size,dI each] (dI ((size+each -1)/each)):=by
 refine kB ?_
 repeat' first|refine kS ?_|refine qS (QhJ rfl rfl (by omega) (by omega)) ?_|refine kU ?_|fail
 exact Qb (hx:=rfl)
def Qak(kind size:Int):Int:=if QaY kind=0 then -1 else if Pl.inR size 0 (16*QaY kind) then(size+QaY kind -1)/QaY kind else -1
def Qkp(kind:Int):QaY kind=0∨QaY kind=12∨QaY kind=128:=by unfold QaY;split<;>(try split)<;>simp
theorem QnV(kind size:Int):Pure A5 102 [dI kind,dI size] (dI (Qak kind size)):=by
 have hd:=Pm.hid (Qak.eq_def kind size);have c:=QuM kind;have he:=Qkp kind;generalize QaY kind=e at*;refine kB ?_
 by_cases h0:e=0
 ·subst h0
  repeat refine kA ?_
  refine Qb (hx:=?_);rw[hd.out];simp
 have heb:e=12∨e=128:=by omega
 cases hR:Pl.inR size 0 (16*e)
 ·repeat' first|refine kS ?_|refine qS (Qd4 rfl rfl (by omega)) ?_|refine qS (lC (hR▸al6In size 0 (16*e))) ?_|refine kU ?_|refine kV ?_ ?_<;>intro q|fail
  all_goals
   refine Qb (hx:=?_);rw[hd.out,hR];simp
 have hb:0<=size/\size<=16*e:=by simpa[Pl.inR] using hR
 repeat' first|refine kS ?_|refine qS (Qd4 rfl rfl (by omega)) ?_|refine qS (lC (hR▸al6In size 0 (16*e))) ?_|refine qS (Qds cK (Qkz size e hb.1 (by omega) (by omega) (by omega)) rfl) ?_|refine kU ?_|refine kV ?_ ?_<;>intro q|fail
 ·simp at q;exact absurd q h0
 ·refine Qb (hx:=?_)
  rw[hd.out,hR];simp[h0]
structure Qi where
 kind:Int
 links:Int
 size:Int
 tree:Pl.Tree
 deriving DecidableEq
abbrev rNode(n:Qi):List D:=[dI n.kind,dI n.links,dI n.size,dI n.tree.root.pat,dI n.tree.root.birth,dI n.tree.root.size,dI n.tree.root.sum,dI n.tree.root.level,dI n.tree.depth,dI n.tree.many]
abbrev dNode(n:Qi):D:= .agg (rNode n)
def Qbq(n:Int):Int:=if n<=1 then 0 else if n<=4 then 1 else 2
def QL(n:Qi):Bool:=decide (0<=Qak n.kind n.size)&&(n.tree.many==Qak n.kind n.size)&&(n.tree.depth==Qbq (Qak n.kind n.size))&&Pl.ptrOk n.tree.root&&
 Pl.inR n.links 1 (if n.kind=2 then 1 else 9)&&(Pl.ptrHole n.tree.root||(n.tree.root.level==n.tree.depth))
theorem aNodeOk(n:Qi):Pure A5 51 [dNode n] (dB (QL n)):=by
 have hd:AK (QL n=(decide (0<=Qak n.kind n.size)&&(n.tree.many==Qak n.kind n.size)&&(n.tree.depth==Qbq (Qak n.kind n.size))&&Pl.ptrOk n.tree.root&&
  Pl.inR n.links 1 (if n.kind=2 then 1 else 9)&&(Pl.ptrHole n.tree.root||(n.tree.root.level==n.tree.depth)))):=Pm.hid rfl
 have c1:=QnV n.kind n.size;generalize Qak n.kind n.size=pc at*;have c2:Pure A5 103 [dI pc] (dI (Qbq pc)):=Ql0 pc;generalize Qbq pc=dp at*;have c3:=aPtrOk n.tree.root;have c4:=Qdt n.tree.root;generalize Pl.ptrOk n.tree.root=ok at*;generalize Pl.ptrHole n.tree.root=ho at*;refine kE ?_;refine Qa 0 (h:=?_)
 repeat' first|refine kS ?_|refine qS (Qds cK (al6In _ _ _) rfl) ?_|refine kU ?_|refine kV ?_ ?_<;>intro q|fail
 all_goals
  refine Qb (hx:=?_);refine congrArg dB ?_;rw[hd.out];clear c1 c2 c3 c4 hd
  simp_all
 intros
 omega
def al6Dec(k:Nat)(h:k<=4294967296):Pure A5 141 [dI k] (dS (Pl.dec k)):=Qd6 rfl fun w _=>Pm.l6Dec k w h
def aPtrPut(p:Pl.Ptr):Pure A5 142 [dPtr p] (dS (Pl.ptrPut p)):=by
 have c1:=aPtrOk p;have c2:=Qdt p;have hd:AK (Pl.ptrPut p=if Pl.ptrOk p then(if Pl.ptrHole p then [45] else Pl.ptrText p) else []):=Pm.hid rfl;cases h1:Pl.ptrOk p
 ·rw[h1] at c1 hd
  obtain⟨x1,x2,x3,x4,x5⟩:=p;refine kE ?_;refine Qa 0 (h:=?_)
  repeat refine kA ?_
  exact Qb (hx:=by rw[hd.out];rfl)
 cases h2:Pl.ptrHole p;rotate_left
 ·rw[h1] at c1 hd
  rw[h2] at c2 hd;obtain⟨x1,x2,x3,x4,x5⟩:=p;refine kE ?_;refine Qa 0 (h:=?_)
  repeat refine kA ?_
  exact Qb (hx:=by rw[hd.out];rfl)
 have hb:=Pl.QdC h1;rw[h1] at c1 hd;rw[h2] at c2 hd;obtain⟨x1,x2,x3,x4,x5⟩:=p;simp only at hb;obtain⟨⟨a1,b1⟩,⟨a2,b2⟩,⟨a3,b3⟩,⟨a4,b4⟩,⟨a5,b5⟩⟩:=hb;obtain⟨k1,rfl⟩:=A3 a1;obtain⟨k2,rfl⟩:=A3 a2;obtain⟨k3,rfl⟩:=A3 a3;obtain⟨k4,rfl⟩:=A3 a4;obtain⟨k5,rfl⟩:=A3 a5;have e: ∀k:Nat,k<=99460728->Pure A5 141 [dI k] (dS (Pl.dec k))/\(Pl.dec k).length<=10:=fun k h=>⟨al6Dec k (by omega),Pl.Qdb 9 k (by omega)⟩
 obtain⟨d1,l1⟩:=e k1 (by omega);obtain⟨d2,l2⟩:=e k2 (by omega);obtain⟨d3,l3⟩:=e k3 (by omega);obtain⟨d4,l4⟩:=e k4 (by omega);obtain⟨d5,l5⟩:=e k5 (by omega);unfold Pl.ptrText at hd;simp only[Int.toNat_natCast] at hd;generalize Pl.dec k1=t1 at*;generalize Pl.dec k2=t2 at*;generalize Pl.dec k3=t3 at*;generalize Pl.dec k4=t4 at*;generalize Pl.dec k5=t5 at*;clear e;refine kE ?_;refine Qa 0 (h:=?_)
 repeat' first|refine kS ?_|refine qD (Qdg (m:=[46]) rfl rfl (by simp only[A7,A8];omega)) ?_|refine qD (Qdg rfl rfl (by simp only[AE,A7,A8];omega)) ?_|refine kU ?_|fail
 all_goals first|exact Qb (hx:=by rw[hd.out];simp[Pl.dots])
theorem Qk3(l:List (List UInt8))(h1:l.length<=Pm.big)(_h2: ∀s∈l,s.length<=Pm.big):Pure A5 140 [dStrs l] (.tup [dS ((Pl.Qdi l).getD []),dB (Pl.Qdi l).isSome]):=by
 simp only[Pm.big] at h1
 by_cases h60:l.length<=60
 rotate_left
 ·rw[Pl.QgI (by omega)]
  refine kB ?_
  repeat refine kA ?_
  refine Qs (fun m st=>st=⟨44,[(4,.d (dS [])),(5,.d (dI (0:Nat))),(0,.d (dStrs l))],[]⟩) [4,5,0] 0 0 (by simp[keepE,go_sem]) (round:=?_);rintro m st rfl
  repeat' first|refine kA ?_|refine kV ?_ ?_<;>intro q|fail
  all_goals
   simp only[decide_eq_true_eq,decide_eq_false_iff_not] at*
  all_goals first|exfalso;omega|refine Qb (hx:=?_);rw[decide_eq_false (p:=((l.length:Int)<=60)) (by omega)];rfl
 have hok:=Pm.hid (Pl.Qis (l:=l) h60);have hlo:=Pm.hid fun k=>Pl.Qfj (l:=l) (k:=k)
 have hwi:=Pm.hid fun k=>Pl.QjN (l:=l) (k:=k)
 generalize Pl.Qdi l=r at*;refine kB ?_
 repeat refine kA ?_
 refine Qs (fun m st=> ∃(k:Nat) (out:List UInt8),k<=l.length/\m=l.length -k/\out.length<=2048/\AK (out=Pl.enc (l.take k))/\st=⟨44,[(4,.d (dS out)),(5,.d (dI k)),(0,.d (dStrs l))],[]⟩) [4,5,0] 0 l.length ⟨0,[],by omega,rfl,by simp,Pm.hid rfl,by simp[keepE,go_sem]⟩ (round:=?_);rintro m st ⟨k,out,hk,rfl,hol,hO,rfl⟩
 by_cases hkl:k<l.length
 rotate_left
 ·have hkk:k=l.length:=by omega
  rw[hkk,List.take_length] at hO;have hf:=hok.out (by rw[<-hO.out];omega);rw[<-hO.out] at hf;clear hok hlo hwi hO;subst hf
  repeat' first|refine kA ?_|refine kV ?_ ?_<;>intro q|fail
  all_goals
   simp only[decide_eq_true_eq,decide_eq_false_iff_not] at*
  all_goals first|exfalso;omega|refine Qb (hx:=?_);rw[decide_eq_true (p:=((l.length:Int)<=60)) (by omega)];rfl
 obtain⟨x,hx⟩: ∃x,l[k]? =some x:=⟨_,A0 hkl⟩;have hxl:l[k]=x:=(A1.1 hx).2;have hr:=Qu (f:=fun s=>[dS s]) hx;have hw:=Pm.hid (hwi.out k hkl);rw[hxl] at hw;have het:=Pl.Qle l k hkl;rw[hxl,<-hO.out] at het;have hE:=Pm.hid het;have hL:=Pm.hid (hlo.out (k+1));rw[het] at hL;clear hok hlo hwi hO hx hxl het
 by_cases h2:x.length<=2048
 rotate_left
 ·rw[hw.out (by omega)]
  repeat' first|refine kS ?_|refine qD (iy hr) ?_|refine qS (iy hr) ?_|refine kU ?_|refine kV ?_ ?_<;>intro q|fail
  all_goals
   simp only[decide_eq_true_eq,decide_eq_false_iff_not] at*
  all_goals first|exfalso;omega|exact Qb (hx:=rfl)
 have c:=al6Dec x.length (by omega);have hdl:=Pl.Qdb 9 x.length (by omega);unfold Pl.item at hE hL;generalize Pl.dec x.length=d at*
 repeat' first|refine kS ?_|refine qD (iy hr) ?_|refine qS (iy hr) ?_|refine qD (Qdg (m:=[58]) rfl rfl (by first|omega|(simp only[A7,A8];omega))) ?_|refine qD (Qdg rfl rfl (by first|omega|(simp only[AE,A7,A8];omega))) ?_|refine kU ?_|refine kV ?_ ?_<;>intro q|fail
 all_goals
  simp only[decide_eq_true_eq,decide_eq_false_iff_not] at*
 all_goals first
  |(exfalso;omega)
  |(refine Qb (hx:=?_)
    rw[hL.out (by simp at*;omega)]
    rfl)
  |(refine Qn (l.length -(k+1)) (by omega) ⟨k+1,out++d++[58]++x,by omega,rfl,by simp at*;omega,Pm.hid (by rw[hE.out];simp),?_⟩
    simp[keepE,go_sem];done)

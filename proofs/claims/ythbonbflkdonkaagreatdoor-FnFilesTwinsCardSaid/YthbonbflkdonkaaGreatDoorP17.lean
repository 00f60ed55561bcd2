/- Of ftw_card; no condition. -/
import Derived.Test.YthbonbflkdonkaaGreatDoorP13
set_option linter.all false
set_option maxRecDepth 100000
set_option maxHeartbeats 4000000
open Bool renaming not_false->AC,true_and->AD,and_true->AE
open Go.Proofs.Tryz renaming prog->A6
open Go.RowKit renaming Hid->AG
open List renaming getElem?_eq_getElem->A0,getElem?_map->A1,getD_eq_getElem?_getD->A2,getElem?_eq_some_iff->A3,replicate->A4,mem_or_eq_of_mem_set->A5,getElem?_set_self->A9,mem_of_getElem?->AA,range->AB,map_set->AF
open Nat renaming zero_add->A8
open Option renaming getD_some->A7
namespace Go.Proofs.YthbonbflkdonkaaGreatDoor
noncomputable section
open Go.RowKit
namespace Aw
variable{x:D}{r:List D}{k i j sz:Nat}{u:Operand}{T T0 ty:TypeId}{after:Array Edge}{pos:String}{H':List Blk}{ops:Array Oper}{P:Program}
theorem Qji{K:St->Prop}{n:Nat}{env:List (Nat×AV)}{H:List Blk}{gd:Option (Nat×Bool)}{F:TyF}{v:Operand}{g:Nat}{rows:List (List D)}
 (hT:tyf P T=some F) (hu:aval env u= .ept k g i j) (hk:H[k]? =some (.arr g sz T0 rows)) (hr:rows[i]? =some r) (hv:aval env v= .d x) (hj:Nat.blt j r.length=true:=by rfl) (hone:x.cell=true:=by rfl) (hsz:F.size=1:=by rfl)
 (hw:awanted ops env ⟨none,.store T u v,ty,pos,after,gd⟩=some true:=by rfl) (hg:gdOk ops n ⟨none,.store T u v,ty,pos,after,gd⟩=true:=by rfl)
 (hH: ∀R:List Blk->Prop,R H'->R (H.set k (.arr g sz T0 (rows.set i (r.set j x)))):=by intro R hR;simp only[List.set_cons_zero,List.set_cons_succ,Nat.zero_add];exact hR)
 (kk:K ⟨n,env,H'⟩):AStep P ops ⟨none,.store T u v,ty,pos,after,gd⟩ K ⟨n,env,H⟩:=
 astep (Qgp hT hu hk hr (by simp_all) hv hone hsz) hw rfl hg (by have:=hH (fun r=>r=H') rfl;rw[this];exact kk)
theorem Qmh{Q:Exit->St->Prop}{l:List Oper}{n:Nat}{env:List (Nat×AV)}{H:List Blk}{gd:Option (Nat×Bool)}{F:TyF}{v:Operand}{g:Nat}{rows:List (List D)}
 (hT:tyf P T=some F) (hu:aval env u= .ept k g i j) (hk:H[k]? =some (.arr g sz T0 rows)) (hr:rows[i]? =some r) (hv:aval env v= .d x) (hj:Nat.blt j r.length=true:=by rfl) (hone:x.cell=true:=by rfl) (hsz:F.size=1:=by rfl)
 (hw:awanted ops env ⟨none,.store T u v,ty,pos,after,gd⟩=some true:=by rfl) (hg:gdOk ops n ⟨none,.store T u v,ty,pos,after,gd⟩=true:=by rfl)
 (hH: ∀R:List Blk->Prop,R H'->R (H.set k (.arr g sz T0 (rows.set i (r.set j x)))):=by intro R hR;simp only[List.set_cons_zero,List.set_cons_succ,Nat.zero_add];exact hR)
 (kk:ASeq P ops Q l ⟨n,env,H'⟩):ASeq P ops Q (⟨none,.store T u v,ty,pos,after,gd⟩::l) ⟨n,env,H⟩:=
 Qjl (Qgp hT hu hk hr (by simp_all) hv hone hsz) hw hg (by have:=hH (fun r=>r=H') rfl;grind)
attribute [local irreducible] ASeq ADraw AWP Loc AStep Fg.PlanF Fg.Flts
def Qbt(refs last:List Int)(txg:Int)(i:Nat)(r:List UInt8):Bool:=decide (r.length<=128)&&((r==[])==(refs.getD i 0==0))&&decide (last.getD i 0<=txg)
def QbS(s:Pm.Store):Bool:=(AB 64).all fun i=>Qbt s.2.1.1 s.2.1.2 s.2.2.1 i (s.1.getD i [])
def Qb0(refs:List Int):List (Pl.Ptr×Int)->List Int->Bool
 |[],_=>true
 |(p,top)::r,many=>Pl.ptrOk p&& !Pl.ptrHole p&&decide (p.birth<=top)&&decide (many.getD p.pat.toNat 0+1<=refs.getD p.pat.toNat 0)&&Qb0 refs r (many.set p.pat.toNat (many.getD p.pat.toNat 0+1))
def Qbq(s:Pm.Store):List (Pl.Ptr×Int):=s.2.2.2.1.map (fun p=>(p,s.2.2.1 -1))++s.2.2.2.2.2.1.map (fun p=>(p,s.2.2.2.2.1))
def QZ(s:Pm.Store):Bool:=(s.1.length==64)&&Pl.spaceOk s.2.1&&Pl.inR s.2.2.1 1 900&&Pl.inR s.2.2.2.2.1 0 (s.2.2.1 -1)&&QbS s&&Qb0 s.2.1.1 (Qbq s) (A4 64 0)
theorem Qhf{α:Type}{l:List α}{x:α}(h:l[j]? =some x):l.drop j=x::l.drop (j+1):=by grind [List.drop_eq_getElem_cons]
def QoI(s:Pm.Store)(b1:s.2.1.1.length<=Pm.big)(b2:s.2.1.2.length<=Pm.big)(b3:s.2.2.2.1.length<=1000000000000)(b4:s.2.2.2.2.2.1.length<=1000000000000):
 Pure A6 31 [dSt s] (dB (QZ s)):=by
 have hd:AG (QZ s=((s.1.length==64)&&Pl.spaceOk s.2.1&&Pl.inR s.2.2.1 1 900&&Pl.inR s.2.2.2.2.1 0 (s.2.2.1 -1)&&QbS s&&Qb0 s.2.1.1 (Qbq s) (A4 64 0))):=Pm.hid rfl;have cS:=Quo s.2.1 b1 b2;refine kE ?_;refine Qa 0 (h:=?_);cases hT:Pl.inR s.2.2.1 1 900
 ·repeat' first|refine kS ?_|refine qS (lC (hT▸al6In s.2.2.1 1 900)) ?_|refine kU ?_|refine kV ?_ ?_<;>intro q|fail
  all_goals
   refine Qb (hx:=?_);rw[hd.out,hT];simp
 have hTb:1<=s.2.2.1/\s.2.2.1<=900:=by simpa[Pl.inR] using hT
 cases hK:Pl.inR s.2.2.2.2.1 0 (s.2.2.1 -1)
 ·repeat' first|refine kS ?_|refine qS (lC (hT▸al6In s.2.2.1 1 900)) ?_|refine qS (Qdr cK (hK▸al6In _ _ _) rfl) ?_|refine kU ?_|refine kV ?_ ?_<;>intro q|fail
  all_goals
   refine Qb (hx:=?_);rw[hd.out,hK];simp
 repeat' first|refine kS ?_|refine qS (lC (hT▸al6In s.2.2.1 1 900)) ?_|refine qS (Qdr cK (hK▸al6In _ _ _) rfl) ?_|refine kU ?_|refine kV ?_ ?_<;>intro q|fail
 ·refine Qb (hx:=?_)
  rw[hd.out,(by simp at q⊢;omega:(s.1.length==64)=false)];rfl
 ·refine Qb (hx:=?_)
  rw[hd.out,(by simpa using q:Pl.spaceOk s.2.1=false)];simp
 rename_i q1;have hlen:s.1.length=64:=by simp at q1;omega
 have hsp:Pl.spaceOk s.2.1=true:=by simpa using q
 have hd2:AG (QZ s=(QbS s&&Qb0 s.2.1.1 (Qbq s) (A4 64 0))):=Pm.hid (by rw[hd.out,hT,hK,hsp,hlen];rfl);clear hd cS;have hsp1:s.2.1.1.length=64/\s.2.1.2.length=64:=by simp[Pl.spaceOk] at hsp;exact hsp.1
 have hrow:=Pm.hid (QbS.eq_def s);refine Qq (fun m st=> ∃k:Nat,k<=64/\m=64 -k/\AG ((AB k).all (fun i=>Qbt s.2.1.1 s.2.1.2 s.2.2.1 i (s.1.getD i []))=true)/\st=⟨144,[(3,.d (dI k)),(1,.d (.pd (rSt s)))],[]⟩) [3,1] 0 64 ⟨0,by omega,rfl,Pm.hid rfl,rfl⟩ (round:=?_);rintro m st ⟨k,hk,rfl,hA,rfl⟩
 repeat refine kG ?_
 cases q3:decide ((k:Int)<64);rotate_left
 ·have hk2:k<64:=by simp at q3;omega
  obtain⟨x,hx⟩: ∃x,s.1[k]? =some x:=⟨_,A0 (by omega)⟩;obtain⟨a,ha⟩: ∃x,s.2.1.1[k]? =some x:=⟨_,A0 (by omega)⟩;obtain⟨b,hb⟩: ∃x,s.2.1.2[k]? =some x:=⟨_,A0 (by omega)⟩;have hr:=Qs (f:=fun s=>[dS s]) hx;have hra:=Qs (f:=fun n=>[dI n]) ha;have hrb:=Qs (f:=fun n=>[dI n]) hb
  have e:AG (Qbt s.2.1.1 s.2.1.2 s.2.2.1 k (s.1.getD k [])=(decide (x.length<=128)&&((x==[])==(a==0))&&decide (b<=s.2.2.1))):=Pm.hid (by
   unfold Qbt;simp only[A2,hx,ha,hb,A7])
  have T:AG (Qbt s.2.1.1 s.2.1.2 s.2.2.1 k (s.1.getD k [])=true->(AB (k+1)).all (fun i=>Qbt s.2.1.1 s.2.1.2 s.2.2.1 i (s.1.getD i []))=true):=fun h=>Pl.Qdo (p:=fun i=>Qbt s.2.1.1 s.2.1.2 s.2.2.1 i (s.1.getD i [])) hA.out h
  have F:AG (Qbt s.2.1.1 s.2.1.2 s.2.2.1 k (s.1.getD k [])=false->QZ s=false):=fun h=>by
   rw[hd2.out,hrow.out,Pl.Qdj (p:=fun i=>Qbt s.2.1.1 s.2.1.2 s.2.2.1 i (s.1.getD i [])) hk2 h];rfl
  rw[e.out] at T F;clear hx ha hb e hsp hd2 hrow hA
  repeat' first|refine kS ?_|refine qD (iy hr) ?_|refine qD (iy hra) ?_|refine qD (iy hrb) ?_|refine kU ?_|refine kV ?_ ?_<;>intro q|fail
  all_goals clear hr hra hrb
  all_goals simp only[decide_eq_true_eq,decide_eq_false_iff_not] at*
  all_goals first|refine Qg (64 -(k+1)) (by omega) ⟨k+1,by omega,rfl,Pm.hid (T.out ?_),rfl⟩;clear T F;generalize (x==[])=u at*;generalize (a==0)=v at*;cases u<;>cases v<;>simp at* <;>omega|refine Qb (hx:=?_);rw[F.out ?_];clear T F;generalize (x==[])=u at*;generalize (a==0)=v at*;cases u<;>cases v<;>simp at* <;>omega
 have hk3:k=64:=by simp at q3;omega
 have hd3:AG (QZ s=Qb0 s.2.1.1 (Qbq s) (A4 64 0)):=Pm.hid (by
  have h:=hA.out;rw[hk3] at h
  rw[hd2.out,hrow.out,h];rfl)
 have how:AG (Qbq s=s.2.2.2.1.map (fun p=>(p,s.2.2.1 -1))++s.2.2.2.2.2.1.map (fun p=>(p,s.2.2.2.2.1))):=Pm.hid rfl
 have hbig:AG (∀(i:Nat) (n:Int),s.2.1.1[i]? =some n->n<=900):=fun i n h=>by
  have hi:i<64:=by have:=(A3.1 h).1;omega
  have h2:Pl.QdZ s.2.1.1 s.2.1.2 i=true:=by
   simp[Pl.spaceOk] at hsp;exact hsp.2 i hi
  simp[Pl.QdZ,Pl.QdM,Pl.inR,A2,h] at h2;omega
 clear hA hd2 hrow hsp;have hol:(Qbq s).length=s.2.2.2.1.length+s.2.2.2.2.2.1.length:=by rw[how.out];simp
 repeat refine kA ?_
 refine Qq (fun m st=> ∃(k:Nat) (many:List Int),k<=(Qbq s).length/\m=(Qbq s).length -k/\many.length=64/\AG (∀n∈many,0<=n/\n<=900)/\AG (QZ s=Qb0 s.2.1.1 ((Qbq s).drop k) many)/\
  st=⟨144,[(5,.d (dI k)),(4,.osl 0 0 0 64),(1,.d (.pd (rSt s)))],[.arr 0 1 3 (many.map fun n=>[dI n])]⟩) [5,4,1] 1 (Qbq s).length ⟨0,A4 64 0,by omega,rfl,by simp,Pm.hid (by intro n hn;rw[(List.mem_replicate.1 hn).2];decide),Pm.hid hd3.out,rfl⟩ (round:=?_)
 clear hd3 hk3 q3;rintro m st ⟨j,many,hj,rfl,hml,hmb,hD,rfl⟩
 repeat' first|refine kA ?_|refine kV ?_ ?_<;>intro q|fail
 rotate_right
 ·refine Qb (hx:=?_)
  have:j=(Qbq s).length:=by simp at q;omega
  rw[hD.out,this,List.drop_length];rfl
 ·have hj2:j<s.2.2.2.1.length:=by simp at q;omega
  obtain⟨x,hx⟩: ∃x,s.2.2.2.1[j]? =some x:=⟨_,A0 hj2⟩;have hr:=Qs (f:=rPtr) hx;have hit:(Qbq s)[j]? =some (x,s.2.2.1 -1):=by rw[how.out,List.getElem?_append_left (by simpa using hj2),A1,hx];rfl
  have hjl:=(A3.1 hit).1;have hst:=hD.out;rw[Qhf hit,Qb0] at hst;have hD2:=Pm.hid hst;clear hst hD hit how hx;cases p1:Pl.ptrOk x
  ·repeat' first|refine kS ?_|refine qS (lC (p1▸aPtrOk x)) ?_|refine qS (iy hr) ?_|refine kU ?_|fail
   refine Qb (hx:=?_);rw[hD2.out,p1];rfl
  cases p2:Pl.ptrHole x;rotate_left
  ·repeat' first|refine kS ?_|refine qS (lC (p1▸aPtrOk x)) ?_|refine qS (lC (p2▸Qdt x)) ?_|refine qS (iy hr) ?_|refine kU ?_|fail
   refine Qb (hx:=?_);rw[hD2.out,p1,p2];rfl
  have hat:=QdN p1 p2;obtain⟨n,hn⟩: ∃n,many[x.pat.toNat]? =some n:=⟨_,A0 (by omega)⟩;obtain⟨a,ha⟩: ∃n,s.2.1.1[x.pat.toNat]? =some n:=⟨_,A0 (by omega)⟩;have hnb:=hmb.out n (AA hn);have hab:=hbig.out _ a ha;have hrm:(many.map fun n=>[dI n])[0+x.pat.toNat]? =some [dI n]:=by rw[A8,A1,hn];rfl
  have hrm2:((many.map fun n=>[dI n]).set x.pat.toNat [dI (n+1)])[0+x.pat.toNat]? =some [dI (n+1)]:=by rw[A8];exact A9 (by simp;omega)
  have hra:(s.2.1.1.map fun n=>[dI n])[x.pat.toNat]? =some [dI a]:=by rw[A1,ha];rfl
  have hst:=hD2.out;simp only[A2,hn,ha,A7,p1,p2,AC,AD,AE] at hst;have hD3:=Pm.hid hst;clear hst hD2 ha hn hbig
  repeat' first|refine kS ?_|refine qS (lC (p1▸aPtrOk x)) ?_|refine qS (lC (p2▸Qdt x)) ?_|refine qS (iy hr) ?_|(show AWP _ (.region 20 _ _) _ _;refine(Fg.awp_drawF (id:=20) [] [10] ?_))|refine qD (Qdv Ty.h rfl Ty.h rfl rfl rfl rfl hat.1 hat.2) ?_|refine qD (Qdg Ty.h rfl rfl hrm rfl) ?_|refine qD (Qdg (r:=[dI (n+1)]) Ty.h rfl rfl hrm2 rfl) ?_|refine Qji Ty.h rfl rfl hrm rfl (kk:=?_)|refine qD (Qdd Ty.h rfl Ty.h rfl rfl rfl hat.1 hra) ?_|refine kU ?_|refine kV ?_ ?_<;>intro q|fail
  all_goals clear hT hTb hK q1 hlen hsp1 hk hol hr hra hrm hrm2
  all_goals simp only[decide_eq_true_eq,decide_eq_false_iff_not] at*
  ·refine Qb (hx:=?_)
   rw[hD3.out,decide_eq_false (by omega)];rfl
  ·refine Qb (hx:=?_)
   rw[hD3.out,decide_eq_false (p:=n+1<=a) (by omega)];simp
  ·refine Qg ((Qbq s).length -(j+1)) (by omega) ⟨j+1,many.set x.pat.toNat (n+1),by omega,rfl,by simp[hml],Pm.hid fun y hy=>?_,Pm.hid (by rw[hD3.out,decide_eq_true (by omega),decide_eq_true (by omega)];rfl),?_⟩
   ·rcases A5 hy with hy|rfl
    ·exact hmb.out y hy
    ·omega
   ·simp[keepE,go_sem,AF]
 ·have hj3:s.2.2.2.1.length<=j/\j -s.2.2.2.1.length<s.2.2.2.2.2.1.length:=by simp at q;rename_i qq;simp at qq;omega
  obtain⟨x,hx⟩: ∃x,s.2.2.2.2.2.1[j -s.2.2.2.1.length]? =some x:=⟨_,A0 hj3.2⟩
  have hr:(s.2.2.2.2.2.1.map rPtr)[((j:Int) -(s.2.2.2.1.length:Int)).toNat]? =some (rPtr x):=by
   rw[show((j:Int) -(s.2.2.2.1.length:Int)).toNat=j -s.2.2.2.1.length by omega,A1,hx];rfl
  have hit:(Qbq s)[j]? =some (x,s.2.2.2.2.1):=by rw[how.out,List.getElem?_append_right (by simpa using hj3.1),List.length_map,A1,hx];rfl
  have hjl:=(A3.1 hit).1;have hst:=hD.out;rw[Qhf hit,Qb0] at hst;have hD2:=Pm.hid hst;clear hst hD hit how hx;cases p1:Pl.ptrOk x
  ·repeat' first|refine kS ?_|refine qS (lC (p1▸aPtrOk x)) ?_|refine qS (iy hr) ?_|refine kU ?_|fail
   refine Qb (hx:=?_);rw[hD2.out,p1];rfl
  cases p2:Pl.ptrHole x;rotate_left
  ·repeat' first|refine kS ?_|refine qS (lC (p1▸aPtrOk x)) ?_|refine qS (lC (p2▸Qdt x)) ?_|refine qS (iy hr) ?_|refine kU ?_|fail
   refine Qb (hx:=?_);rw[hD2.out,p1,p2];rfl
  have hat:=QdN p1 p2;obtain⟨n,hn⟩: ∃n,many[x.pat.toNat]? =some n:=⟨_,A0 (by omega)⟩;obtain⟨a,ha⟩: ∃n,s.2.1.1[x.pat.toNat]? =some n:=⟨_,A0 (by omega)⟩;have hnb:=hmb.out n (AA hn);have hab:=hbig.out _ a ha;have hrm:(many.map fun n=>[dI n])[0+x.pat.toNat]? =some [dI n]:=by rw[A8,A1,hn];rfl
  have hrm2:((many.map fun n=>[dI n]).set x.pat.toNat [dI (n+1)])[0+x.pat.toNat]? =some [dI (n+1)]:=by rw[A8];exact A9 (by simp;omega)
  have hra:(s.2.1.1.map fun n=>[dI n])[x.pat.toNat]? =some [dI a]:=by rw[A1,ha];rfl
  have hst:=hD2.out;simp only[A2,hn,ha,A7,p1,p2,AC,AD,AE] at hst;have hD3:=Pm.hid hst;clear hst hD2 ha hn hbig
  repeat' first|refine kS ?_|refine qS (lC (p1▸aPtrOk x)) ?_|refine qS (lC (p2▸Qdt x)) ?_|refine qS (iy hr) ?_|(show AWP _ (.region 20 _ _) _ _;refine(Fg.awp_drawF (id:=20) [] [10] ?_))|refine qD (Qdv Ty.h rfl Ty.h rfl rfl rfl rfl hat.1 hat.2) ?_|refine qD (Qdg Ty.h rfl rfl hrm rfl) ?_|refine qD (Qdg (r:=[dI (n+1)]) Ty.h rfl rfl hrm2 rfl) ?_|refine Qji Ty.h rfl rfl hrm rfl (kk:=?_)|refine qD (Qdd Ty.h rfl Ty.h rfl rfl rfl hat.1 hra) ?_|refine kU ?_|refine kV ?_ ?_<;>intro q|fail
  all_goals clear hT hTb hK q1 hlen hsp1 hk hol hr hra hrm hrm2
  all_goals simp only[decide_eq_true_eq,decide_eq_false_iff_not] at*
  ·refine Qb (hx:=?_)
   rw[hD3.out,decide_eq_false (by omega)];rfl
  ·refine Qb (hx:=?_)
   rw[hD3.out,decide_eq_false (p:=n+1<=a) (by omega)];simp
  ·refine Qg ((Qbq s).length -(j+1)) (by omega) ⟨j+1,many.set x.pat.toNat (n+1),by omega,rfl,by simp[hml],Pm.hid fun y hy=>?_,Pm.hid (by rw[hD3.out,decide_eq_true (by omega),decide_eq_true (by omega)];rfl),?_⟩
   ·rcases A5 hy with hy|rfl
    ·exact hmb.out y hy
    ·omega
   ·simp[keepE,go_sem,AF]
def Qbj(kind:Int):Int:=if kind=1 then 12 else if kind=2 then 128 else 0
theorem Qum(kind:Int):Pure A6 228 [dI kind] (dI (Qbj kind)):=by
 refine kB ?_
 repeat' first|refine kA ?_|refine kV ?_ ?_<;>intro q|fail
 all_goals exact Qb (hx:=congrArg dI (by simp_all[Qbj]))
def QjX(size each:Int)(h0:0<=size)(h1:size<=1000000000000)(h2:0<each)(h3:each<=1000000000000):Pure A6 226 [dI size,dI each] (dI ((size+each -1)/each)):=by
 refine kB ?_
 repeat' first|refine kS ?_|refine qS (Qg6 rfl rfl (by omega) (by omega)) ?_|refine kU ?_|fail
 exact Qb (hx:=rfl)
def Qag(kind size:Int):Int:=if Qbj kind=0 then -1 else if Pl.inR size 0 (16*Qbj kind) then(size+Qbj kind -1)/Qbj kind else -1
def Qp5(kind:Int):Qbj kind=0∨Qbj kind=12∨Qbj kind=128:=by unfold Qbj;split<;>(try split)<;>simp
theorem Qn4(kind size:Int):Pure A6 185 [dI kind,dI size] (dI (Qag kind size)):=by
 have hd:=Pm.hid (Qag.eq_def kind size);have c:=Qum kind;have he:=Qp5 kind;generalize Qbj kind=e at*;refine kB ?_
 by_cases h0:e=0
 ·subst h0
  repeat refine kA ?_
  refine Qb (hx:=?_);rw[hd.out];simp
 have heb:e=12∨e=128:=by omega
 cases hR:Pl.inR size 0 (16*e)
 ·repeat' first|refine kS ?_|refine qS (Qd3 rfl rfl (by omega)) ?_|refine qS (lC (hR▸al6In size 0 (16*e))) ?_|refine kU ?_|refine kV ?_ ?_<;>intro q|fail
  all_goals
   refine Qb (hx:=?_);rw[hd.out,hR];simp
 have hb:0<=size/\size<=16*e:=by simpa[Pl.inR] using hR
 repeat' first|refine kS ?_|refine qS (Qd3 rfl rfl (by omega)) ?_|refine qS (lC (hR▸al6In size 0 (16*e))) ?_|refine qS (Qdr cK (QjX size e hb.1 (by omega) (by omega) (by omega)) rfl) ?_|refine kU ?_|refine kV ?_ ?_<;>intro q|fail
 ·simp at q;exact absurd q h0
 ·refine Qb (hx:=?_)
  rw[hd.out,hR];simp[h0]
structure Qk where
 kind:Int
 links:Int
 size:Int
 tree:Pl.Tree
 deriving DecidableEq
abbrev rNode(n:Qk):List D:=[dI n.kind,dI n.links,dI n.size,dI n.tree.root.pat,dI n.tree.root.birth,dI n.tree.root.size,dI n.tree.root.sum,dI n.tree.root.level,dI n.tree.depth,dI n.tree.many]
abbrev dNode(n:Qk):D:= .agg (rNode n)
def Qbo(n:Int):Int:=if n<=1 then 0 else if n<=4 then 1 else 2
def QF(n:Qk):Bool:=decide (0<=Qag n.kind n.size)&&(n.tree.many==Qag n.kind n.size)&&(n.tree.depth==Qbo (Qag n.kind n.size))&&Pl.ptrOk n.tree.root&&
 Pl.inR n.links 1 (if n.kind=2 then 1 else 9)&&(Pl.ptrHole n.tree.root||(n.tree.root.level==n.tree.depth))
theorem aNodeOk(n:Qk):Pure A6 120 [dNode n] (dB (QF n)):=by
 have hd:AG (QF n=(decide (0<=Qag n.kind n.size)&&(n.tree.many==Qag n.kind n.size)&&(n.tree.depth==Qbo (Qag n.kind n.size))&&Pl.ptrOk n.tree.root&&
  Pl.inR n.links 1 (if n.kind=2 then 1 else 9)&&(Pl.ptrHole n.tree.root||(n.tree.root.level==n.tree.depth)))):=Pm.hid rfl
 have c1:=Qn4 n.kind n.size;generalize Qag n.kind n.size=pc at*;have c2:Pure A6 113 [dI pc] (dI (Qbo pc)):=Qla pc;generalize Qbo pc=dp at*;have c3:=aPtrOk n.tree.root;have c4:=Qdt n.tree.root;generalize Pl.ptrOk n.tree.root=ok at*;generalize Pl.ptrHole n.tree.root=ho at*;refine kE ?_;refine Qa 0 (h:=?_)
 repeat' first|refine kS ?_|refine qS (Qdr cK (al6In _ _ _) rfl) ?_|refine kU ?_|refine kV ?_ ?_<;>intro q|fail
 all_goals
  refine Qb (hx:=?_);refine congrArg dB ?_;rw[hd.out];clear c1 c2 c3 c4 hd
  simp_all
 intros
 omega

/- Of ftw_card; no condition. -/
import Derived.Test.YthbonbflkdonkaaGreatDoorP22
set_option linter.all false
set_option maxRecDepth 100000
set_option maxHeartbeats 4000000
open Bool renaming toNat_false->A9,toNat_true->AA
open Go.Proofs.Tryz renaming prog->A2
open Int renaming toNat_natCast->A6
open List renaming getElem?_eq_getElem->A0,take_of_length_le->A1,mem_of_getElem?->A3,mem_of_mem_take->A4,take_add_one->A5,take_length->A7,length_take->A8,map_take->AB
open Option.some renaming inj->AC
namespace Go.Proofs.YthbonbflkdonkaaGreatDoor
noncomputable section
open Go.RowKit
namespace Aw
attribute [local irreducible] ASeq ADraw AWP Loc AStep Fg.PlanF Fg.Flts
def QcF(l:List (List UInt8)):List UInt8:=if l.flatMap (fun x=>47::x)=[] then [47] else l.flatMap (fun x=>47::x)
def al14Of(l:List (List UInt8))(hl:l.length<=1000)(hx: ∀x∈l,x.length<=1000000000000):Pure A2 224 [tStrs l] (dS (QcF l)):=by
 refine kE ?_
 repeat refine kA ?_
 refine Qq (fun m st=> ∃(k:Nat) (out:List UInt8),k<=l.length/\m=l.length -k/\out.length<=k*1000000000001/\Hid (out=(l.take k).flatMap (fun x=>47::x))/\st=⟨21,[(4,.d (dI k)),(3,.d (dS out)),(0,.d (tStrs l))],[]⟩) [4,3,0] 0 l.length ⟨0,[],by omega,rfl,by simp,Pm.hid rfl,rfl⟩ (round:=?_);rintro m st ⟨k,out,hk,rfl,hlen,hO,rfl⟩
 repeat refine kG ?_
 cases q3:decide ((k:Int)<(l.length:Int))
 ·have hkl:k=l.length:=by simp at q3;omega
  rw[hkl,A7] at hO;have hd:Hid (QcF l=if out=[] then [47] else out):=Pm.hid (by unfold QcF;rw[<-hO.out]);clear hO
  repeat' first|refine kA ?_|refine kV ?_ ?_<;>intro q|fail
  all_goals first|exact Qb (hx:=by rw[hd.out,if_pos (by simpa using q)])|exact Qb (hx:=by rw[hd.out,if_neg (by simpa using q)])
 have hk2:k<l.length:=by simp at q3;omega
 obtain⟨x,hx1⟩: ∃x,l[k]? =some x:=⟨_,A0 hk2⟩;have hr:=Qs (f:=fun s=>[dS s]) hx1;have hxl:=hx x (A3 hx1);have T:Hid ((l.take (k+1)).flatMap (fun x=>(47:UInt8)::x)=out++[47]++x):=Pm.hid (by rw[A5,hx1,hO.out];simp);clear hx1 hO
 repeat' first|refine kS ?_|refine qS (iy hr) ?_|refine qS (Qdf (m:=[47]) rfl rfl (by simp;omega)) ?_|refine qS (Qdf rfl rfl (by simp;omega)) ?_|refine kU ?_|fail
 all_goals first|refine Qg (l.length -(k+1)) (by omega) ⟨k+1,out++[47]++x,by omega,rfl,by simp;omega,Pm.hid T.out.symm,?_⟩;simp[keepE,go_sem];done
def Qhq(s:List UInt8)(hs:s.length<=1000000000000)(hn:Qy s≠[]):Pure A2 164 [dS s] (dS ((Qy s).getD ((Qy s).length -1) [])):=by
 have c1:=Qgd s hs
 have hnl:(Qy s).length<=s.length+1:=by
  unfold Qy;split
  ·simp
  ·have:=(Qex 47 s).1
   rw[List.length_tail];omega
 generalize Qy s=l at*;have hl:=List.length_pos_iff.2 hn;obtain⟨x,hx1⟩: ∃x,l[l.length -1]? =some x:=⟨_,A0 (by omega)⟩;have hr:=Qs (f:=fun s=>[dS s]) hx1;rw[show((l.length -1:Nat):Int)=(l.length:Int) -1 by omega] at hr;have hd:Hid (l.getD (l.length -1) []=x):=Pm.hid (by rw[List.getD_eq_getElem?_getD,hx1];rfl);rw[hd.out];clear hx1 hd;refine kE ?_
 repeat' first|refine kS ?_|refine qS (iy hr) ?_|refine kU ?_|fail
 all_goals first|exact Qb (hx:=rfl)
def Qcz(s top:List UInt8):Bool:=
 if !(Q7 s).isSome|| !(Q7 top).isSome||decide (((Q7 s).getD []).length<((Q7 top).getD []).length) then false
 else QcF (((Q7 s).getD []).take ((Q7 top).getD []).length)==QcF ((Q7 top).getD [])
theorem QpW(s top:List UInt8)(hs:s.length<=1000000000)(ht:top.length<=1000000000)(h1: ∀l,Q7 s=some l->l.length<=4/\ ∀x∈l,x.length<=4)(h2: ∀l,Q7 top=some l->l.length<=4/\ ∀x∈l,x.length<=4):Pure A2 171 [dS s,dS top] (dB (Qcz s top)):=by
 have c1:=Qkb s (by omega);have c2:=Qkb top (by omega);have hd:=Pm.hid (Qcz.eq_def s top);generalize Qcz s top=res at*
 have e1:((Q7 s).getD []).length<=4/\ ∀x∈(Q7 s).getD [],x.length<=1000000000000:=by
  cases hp:Q7 s with
  |none=>simp
  |some l=>have:=h1 l hp;exact⟨this.1,fun x hx=>by have:=this.2 x hx;omega⟩
 have e2:((Q7 top).getD []).length<=4/\ ∀x∈(Q7 top).getD [],x.length<=1000000000000:=by
  cases hp:Q7 top with
  |none=>simp
  |some l=>have:=h2 l hp;exact⟨this.1,fun x hx=>by have:=this.2 x hx;omega⟩
 generalize (Q7 s).getD []=a at*;generalize (Q7 top).getD []=b at*;generalize (Q7 s).isSome=p at*;generalize (Q7 top).isSome=q0 at*;obtain⟨y1,y2⟩:=e1;obtain⟨y3,y4⟩:=e2;have c3:=al14Of (a.take b.length) (by rw[A8];omega) fun x hx=>y2 x (A4 hx)
 have c4:=al14Of b (by omega) y4;have ht2:((a.map fun s=>[dS s]).take b.length)=(a.take b.length).map fun s=>[dS s]:=by rw[AB]
 rw[show tStrs (a.take b.length)= .sl true 1 ((a.map fun s=>[dS s]).take ((b.length:Nat):Int).toNat) by rw[A6,ht2]] at c3;clear y2 y4 h1 h2 ht2;refine kE ?_
 repeat' first|refine kS ?_|refine qS (Qgk rfl rfl rfl (by omega) (by simp only[decide_eq_false_iff_not,List.length_map] at*;omega)) ?_|refine kU ?_|refine kV ?_ ?_<;>intro q|fail
 all_goals first|refine Qb (hx:=?_);rw[hd.out];simp_all;done
attribute [local irreducible] EndR Fk.PlanF Fk.Flts Fk.AStepM Fk.Grew Fk.Gs
def Quj(l:List Qm)(hb: ∀e∈l,e.1.length<=4/\0<=e.2/\e.2<=15)(hl:l.length<=1000):Pure A2 216 [tEnts l] (dS (QG l)):=by
 refine kB ?_
 repeat refine kA ?_
 refine Qq (fun m st=> ∃k:Nat,k<=l.length/\m=l.length -k/\st=⟨28,[(3,.d (dS (QG (l.take k)))),(4,.d (dI k)),(0,.d (tEnts l))],[]⟩) [3,4,0] 0 l.length ⟨0,by omega,rfl,rfl⟩ (round:=?_);rintro m st ⟨k,hk,rfl,rfl⟩
 repeat refine kG ?_
 cases q3:decide ((k:Int)<(l.length:Int))
 ·repeat refine kA ?_
  refine Qb (hx:=?_);have:k=l.length:=by simp at q3;omega
  rw[this,A7]
 have hk2:k<l.length:=by simp at q3;omega
 obtain⟨x,hx⟩: ∃x,l[k]? =some x:=⟨_,A0 hk2⟩;have hr:=Qs (f:=rEnt) hx;have hlen:=QiW (l:=l.take k) fun e he=>hb e (A4 he)
 rw[A8] at hlen;have hxb:=hb x (A3 hx);have T:Hid (QG (l.take (k+1))=QG (l.take k)++x.1++[61]++Pl.dec x.2.toNat++[59]):=Pm.hid (by rw[A5,hx];simp[QG,Qas]);have hdl:=Pl.Qdc 8 x.2.toNat (by omega);have c:=al6Dec x.2.toNat (by omega);rw[show((x.2.toNat:Nat):Int)=x.2 by omega] at c;clear hx hb;generalize QG (l.take k)=out at*;generalize Pl.dec x.2.toNat=d at*;obtain⟨nm,id⟩:=x;simp only at hxb c T hr
 repeat' first|refine kS ?_|refine qD (iy hr) ?_|refine qD (Qdf (m:=[61]) rfl rfl (by first|omega|(simp;omega))) ?_|refine qD (Qdf (m:=[59]) rfl rfl (by first|omega|(simp;omega))) ?_|refine qD (Qdf rfl rfl (by first|omega|(simp;omega))) ?_|refine kU ?_|fail
 refine Qg (l.length -(k+1)) (by omega) ⟨k+1,by omega,rfl,?_⟩;simp[keepE,go_sem,T.out]
def Qj2(l:List Qm): ∀r∈l.map rEnt,∀d∈r,d.cell=true:=by
 intro r hr d hd;obtain⟨p,_,rfl⟩:=List.mem_map.1 hr;simp at hd;rcases hd with rfl|rfl<;>rfl
def QoH(l:List Qm)(i:Nat)(hi:i<l.length)(hl:l.length<=1000):Pure A2 168 [tEnts l,dI i] (tEnts (l.take i++l.drop (i+1))):=by
 refine kE ?_;have hc1:=Qj2 (l.take i);have hc2:=Qj2 (l.drop (i+1));have t1:(l.map rEnt).take (i:Int).toNat=(l.take i).map rEnt:=by rw[A6,AB]
 have t2:(l.map rEnt).drop ((i:Int)+1).toNat=(l.drop (i+1)).map rEnt:=by rw[show((i:Int)+1).toNat=i+1 by omega,List.map_drop]
 repeat' first|refine kS ?_|(show AWP _ (.region 1 _ _) _ _;refine(Fk.awp_drawF (id:=1) [0,1,2,3,5,6,7,8] [4,9] [(0,.arr 0 2 154 [])] [] ?_))|refine(Fk.aw_fltS 0 rfl rfl rfl rfl rfl ?_)|refine(Fk.aw_fltL (ho:=rfl) (hk:=rfl) (hl:=fun H=>Qgk rfl rfl rfl (by omega) (by simp;omega)) (k:=?_))|refine(Fk.aw_fltL (ho:=rfl) (hk:=rfl) (hl:=fun H=>QiD rfl rfl (by omega)) (k:=?_))|refine(Fk.aw_fltL (ho:=rfl) (hk:=rfl) (hl:=fun H=>QgT rfl rfl rfl (by omega) (by simp;omega)) (k:=?_))|refine(Fk.aw_appM (by kernel_rfl) Ty.h rfl Ty.h (hcell:=?_) (hb:=?_) (kk:=?_))|refine kU ?_|fail
 ·rw[t1];exact hc1
 ·simp;omega
 ·rw[t2];exact hc2
 ·simp;omega
 rw[t1,t2];refine Qa 0 (h:=?_);refine Qb (hx:=?_);simp[A1]
def QcS(l m:List UInt8):Bool:= !(Op.bytesLess l m||l==m)
def Qar:List Qm->Qm->List Qm
 |[],e=>[e]
 |x::l,e=>if QcS x.1 e.1 then e::x::l else x::Qar l e
def Qka(x e:Qm)(l:List Qm):Qar (x::l) e=if QcS x.1 e.1 then e::x::l else x::Qar l e:=rfl
theorem Qs6{e x:Qm}: ∀{l:List Qm},x∈Qar l e->x=e∨x∈l
 :=by intro l;induction l<;>grind [Qar]
theorem Qs7(e:Qm): ∀l:List Qm,(Qar l e).length=l.length+1
 :=by intro l;induction l<;>grind [Qar]
def Qrc{P:Program}{dst:Option Tmp}{ty:TypeId}{pos:String}{after:Array Edge}{gd:Option (Nat×Bool)}{env:List (Nat×AV)}{H:List Blk}{T T':TypeId}{x y:Operand}{l m:List UInt8}(hx:aval env x= .d (.v (.string ⟨l.toArray⟩)))(hy:aval env y= .d (.v (.string ⟨m.toArray⟩))):
 Loc P ⟨dst,.binOp .gtr T x y T',ty,pos,after,gd⟩ env H (.d (.v (.bool (QcS l m)))) none:=
 loc_bin' (X:= .string ⟨l.toArray⟩) (Y:= .string ⟨m.toArray⟩) (by rw[hx];rfl) (by rw[hy];rfl) fun w=>by
  rw[Sem.run_bind,QfS,Result.andThen_ok];simp only[binOp,Op.stringOp,QhW];rfl
def al12Add(l:List Qm)(e:Qm)(hl:l.length<=1000):Pure A2 163 [tEnts l,.agg (rEnt e)] (tEnts (Qar l e)):=by
 refine kE ?_;refine Qa 0 (h:=?_)
 repeat refine kA ?_
 refine Qq (fun m st=> ∃(k g:Nat) (out:List Qm) (done:Bool),k<=l.length/\m=l.length -k/\out.length<=k+done.toNat/\Hid (done=false->Qar l e=out++Qar (l.drop k) e)/\Hid (done=true->Qar l e=out++l.drop k)/\st=⟨45,[(7,.d (dI k)),(5,.osl 1 g 0 out.length),(6,.d (dB done)),(0,.d (tEnts l)),(3,.d (.pd (rEnt e)))],[.row 1 [],.arr g 2 154 (out.map rEnt)]⟩) [7,5,6,0,3] 2 l.length ⟨0,0,[],false,by omega,rfl,by simp,Pm.hid (fun _=>rfl),Pm.hid (fun h=>by cases h),rfl⟩ (round:=?_);rintro m st ⟨k,g,out,done,hk,rfl,hlen,hF,hT,rfl⟩
 repeat refine kG ?_
 cases q3:decide ((k:Int)<(l.length:Int))
 ·have hkl:k=l.length:=by simp at q3;omega
  have hdr:l.drop k=[]:=List.drop_of_length_le (by omega);rw[hdr] at hF hT;have hF2:Hid (done=false->Qar l e=out++[e]):=hF;clear hF;cases done<;>simp only[A9,AA] at hlen
  ·repeat' first|refine kS ?_|refine QV Ty.h rfl Ty.h (hb:=?_) (kk:=?_)|refine kU ?_|fail
   all_goals first|simp;omega|((refine Qa 1 (h:=?_);refine Qb (hx:=?_));rw[hF2.out rfl];simp[A1])
  ·repeat refine kA ?_
   all_goals first|((refine Qa 1 (h:=?_);refine Qb (hx:=?_));rw[hT.out rfl];simp[A1])
 have hk2:k<l.length:=by simp at q3;omega
 obtain⟨x,hx⟩: ∃x,l[k]? =some x:=⟨_,A0 hk2⟩;have hr:=Qs (f:=rEnt) hx;have hdr:l.drop k=x::l.drop (k+1):=by rw[List.drop_eq_getElem_cons hk2];congr 1;rw[A0 hk2] at hx;exact AC hx
 rw[hdr] at hF hT;clear hx hdr;cases done<;>simp only[A9,AA] at hlen
 ·have hA:Hid (QcS x.1 e.1=true->Qar l e=(out++[e]++[x])++l.drop (k+1)):=Pm.hid fun h=>by
   have:=hF.out rfl;rw[Qka,if_pos h] at this;rw[this];simp
  have hB:Hid (QcS x.1 e.1=false->Qar l e=(out++[x])++Qar (l.drop (k+1)) e):=Pm.hid fun h=>by
   have:=hF.out rfl;rw[Qka,if_neg (by rw[h];decide)] at this;rw[this];simp
  clear hF hT
  repeat' first|refine kS ?_|refine qD (iy hr) ?_|refine qS (iy hr) ?_|refine qD (Qrc rfl rfl) ?_|refine QV Ty.h rfl Ty.h (hb:=?_) (kk:=?_)|refine kU ?_|refine kV ?_ ?_<;>intro q|fail
  all_goals first|simp;omega|refine Qg (l.length -(k+1)) (by omega) ⟨k+1,g+1+1,out++[e]++[x],true,by omega,rfl,by simp;omega,Pm.hid (fun h=>by cases h),Pm.hid (fun _=>hA.out (by assumption)),?_⟩;simp[keepE,go_sem];done|refine Qg (l.length -(k+1)) (by omega) ⟨k+1,g+1,out++[x],false,by omega,rfl,by simp;omega,Pm.hid (fun _=>hB.out (by assumption)),Pm.hid (fun h=>by cases h),?_⟩;simp[keepE,go_sem];done
 ·have hA:Hid (Qar l e=(out++[x])++l.drop (k+1)):=Pm.hid (by rw[hT.out rfl];simp)
  clear hF hT
  repeat' first|refine kS ?_|refine qS (iy hr) ?_|refine QV Ty.h rfl Ty.h (hb:=?_) (kk:=?_)|refine kU ?_|fail
  all_goals first|simp;omega|refine Qg (l.length -(k+1)) (by omega) ⟨k+1,g+1,out++[x],true,by omega,rfl,by simp;omega,Pm.hid (fun h=>by cases h),Pm.hid (fun _=>hA.out),?_⟩;simp[keepE,go_sem];done

/- Of fby_card; no condition. -/
import Derived.Test.YtfmnpmhadmcdkaaGreatDoorT04
import Derived.Laws.StructEq
import Derived.Laws.DeepStrings4
set_option linter.all false
open Array renaming replicate->AH,getD_eq_getD_getElem?->AM,getElem?_append_left->AN,toList_inj->Af,ext'->B2
open Go renaming Operand->A7,TypeId->AD,Program->AE,Value->AG,ResultVar->AK,Exit->AP,Oper->AR,World->AT,Edge->Am,BinOp->As,IntKind->Av,Tmp->Ay,FuncId->Az,Calls->B3
open Go.Call renaming operands->AF
open Go.Ending renaming returned->AZ
open Go.Op renaming operands->A2,intArith->Aj,stringOp->Ak,equalIn->B0
open Go.Oper renaming upon_enter->AS,wp->Ax
open Go.Result renaming andThen_ok->A8
open Go.RowKit renaming Below->Au
open Go.Sem renaming run_bind->A3,run_pure'->Aq
open Go.Value renaming bool->B1
open Go.Value.slice renaming injEq->B5
open List renaming getElem?_eq_getElem->A1,mem_iff_getElem?->A5,getElem?_eq_some_iff->A9,getElem?_map->AL,getElem?_append_left->AU,mem_flatMap->AY,mem_cons_of_mem->Aa,mem_of_getElem?->Ab,mem_of_mem_take->Ac,getElem?_drop->Ad,not_mem_nil->Ag,all_eq_true->Ah,take_length->Ai,length->Al,replicate->An,take_zero->Ao,drop_zero->Ap,take_nil->Ar,map->B6
open Nat renaming blt->AB,le_of_ble_eq_true->AC,ble->AO,le_refl->AW,le_mul_of_pos_right->AX,sub_zero->Ae,beq->B4
open Option renaming map_eq_some_iff->A0,bind_eq_some_iff->AA,map_some->AI,map_none->AJ
open Option.some renaming injEq->A4,inj->A6
open Prod.mk renaming injEq->AQ
namespace Go.Proofs.YtfmnpmhadmcdkaaGreatDoor
noncomputable section
open Go.RowKit
namespace Aw
variable{y u:A7}{T T' t1 t2:AD}{a b i j:Int}{m:List UInt8}{κ κ':Av}{vs:List AG}{f:Az}{env':List (Nat×AV)}{c X Y:Code}{rs:List AK}{ts:List Nat}{I:Nat->St->Prop}{E:TyF}{k k₀:Nat}{w:AT}{ρ:Nat->Nat}{σ σ':Sg}{H1 H0:List Blk}{gl args avs caps:List AV}{Q0:AV->List Blk->Prop}{o:AR}{tys:Array AD}{xs:Array A7}{t:Ay}{ds:List D}{a₀:Option Addr}
variable{P:AE}
class Ty (P:AE) (T:AD) (F:outParam TyF):Prop where
 h:tyf P T=some F
class TyBool (P:AE) (T:AD):Prop where
 h:P.underlying T=some .bool
def cmpI(op:As)(a b:Int):Option Bool:=
 match op with
 |.eql=>some (a==b)
 |.neq=>some (a !=b)
 |.lss=>some (decide (a<b))
 |.leq=>some (decide (a<=b))
 |.gtr=>some (decide (a>b))
 |.geq=>some (decide (a≥b))
 |_=>none
theorem QfS(l:List UInt8):(⟨l.toArray⟩:ByteArray).size=l.length:=by show l.toArray.size=_;simp
def QhJ(l:List UInt8):(⟨l.toArray⟩:ByteArray).toList=l:=by
 simp
section
variable{dst:Option Ay}{ty:AD}{pos:String}{after:Array Am}{gd:Option (Nat×Bool)}{env:List (Nat×AV)}{H:List Blk}
def loc_bin'{op:As}{x:A7}{X Y z:AG}(hx:(aval env x).conc=some X)(hy:(aval env y).conc=some Y)
 (h: ∀w,(do eqGuard op T x y X Y;binOp op T X Y:Sem AG).run P w= .ok z w):
 Loc P ⟨dst,.binOp op T x y T',ty,pos,after,gd⟩ env H (.d (.v z)) none:=
 QQ fun σ S H' a w _ hop _=>by
  have h1:=AV.conc_rel (hop x (by simp[A2])) hx;have h2:=AV.conc_rel (hop y (by simp[A2])) hy;refine⟨z,?_,.d _ _ (.v _)⟩;simp only[execOp,h1,h2];rw[A3,h w];rfl
def Qea(op:As)(T:AD)(x y:A7)(k k':Av)(a b:Int)(w:AT):(eqGuard op T x y (.int k a) (.int k' b)).run P w= .ok () w:=by
 unfold eqGuard;simp
def QfK(op:As)(T:AD)(x y:A7)(a b:ByteArray)(w:AT):(eqGuard op T x y (.string a) (.string b)).run P w= .ok () w:=by
 unfold eqGuard;simp
def Qj6(op:As)(T:AD)(x y:A7)(a b:Bool)(w:AT):(eqGuard op T x y (.bool a) (.bool b)).run P w= .ok () w:=by
 unfold eqGuard;simp
theorem loc_cmp{op:As}{x:A7}{k:Av}{r:Bool}(hx:aval env x= .d (.v (.int k a)))(hy:aval env y= .d (.v (.int k b)))(hr:cmpI op a b=some r):
 Loc P ⟨dst,.binOp op T x y T',ty,pos,after,gd⟩ env H (.d (.v (.bool r))) none:=
 loc_bin' (X:= .int k a) (Y:= .int k b) (by rw[hx];rfl) (by rw[hy];rfl) fun w=>by
  rw[A3,Qea,A8];cases op<;>simp only[cmpI,A4] at hr<;>first|(subst hr;show(if k≠k then _ else Op.intCmp _ a b).run P w=_;rw[if_neg (by simp)];rfl)|cases hr
theorem Qiy{x:A7}(hx:aval env x= .d (.v (.int .i64 a)))(hy:aval env y= .d (.v (.int .i64 b)))(h: -9223372036854775808<=a+b/\a+b<=9223372036854775807):
 Loc P ⟨dst,.binOp .add T x y T',ty,pos,after,gd⟩ env H (.d (.v (.int .i64 (a+b)))) none:=
 loc_bin' (X:= .int .i64 a) (Y:= .int .i64 b) (by rw[hx];rfl) (by rw[hy];rfl) fun w=>by
  simp_all[Qea,binOp,Aj,Pm.Qgm]
theorem Qhk{x:A7}(hx:aval env x= .d (.v (.int .i64 a)))(hy:aval env y= .d (.v (.int .i64 b)))(h: -9223372036854775808<=a -b/\a -b<=9223372036854775807):
 Loc P ⟨dst,.binOp .sub T x y T',ty,pos,after,gd⟩ env H (.d (.v (.int .i64 (a -b)))) none:=
 loc_bin' (X:= .int .i64 a) (Y:= .int .i64 b) (by rw[hx];rfl) (by rw[hy];rfl) fun w=>by
  simp_all[Qea,binOp,Aj,Pm.Qgm]
theorem Qdu{x:A7}(hx:aval env x= .d (.v (.int .i64 a)))(hy:aval env y= .d (.v (.int .i64 b)))(h: -9223372036854775808<=a*b/\a*b<=9223372036854775807):
 Loc P ⟨dst,.binOp .mul T x y T',ty,pos,after,gd⟩ env H (.d (.v (.int .i64 (a*b)))) none:=
 loc_bin' (X:= .int .i64 a) (Y:= .int .i64 b) (by rw[hx];rfl) (by rw[hy];rfl) fun w=>by
  simp_all[Qea,binOp,Aj,Pm.Qgm]
def Qgt{x:A7}(hx:aval env x= .d (.v (.int .i64 a)))(hy:aval env y= .d (.v (.int .i64 b)))(ha:0<=a/\a<=9223372036854775807)(hb:0<b):
 Loc P ⟨dst,.binOp .quo T x y T',ty,pos,after,gd⟩ env H (.d (.v (.int .i64 (a/b)))) none:=
 loc_bin' (X:= .int .i64 a) (Y:= .int .i64 b) (by rw[hx];rfl) (by rw[hy];rfl) fun w=>by
  rw[A3,Qea,A8];have h1:a.tdiv b=a/b:=Int.tdiv_eq_ediv_of_nonneg ha.1;have h2:0<=a/b:=Int.ediv_nonneg ha.1 (by omega);have h3:a/b<=a:=Int.ediv_le_self b ha.1;simp[binOp,Op.intDiv,show b≠0 by omega,h1,Pm.Qgm (a/b) (by omega) (by omega)]
def Qgs{x:A7}(hx:aval env x= .d (.v (.int .i64 a)))(hy:aval env y= .d (.v (.int .i64 b)))(ha:0<=a)(hb:0<b):
 Loc P ⟨dst,.binOp .rem T x y T',ty,pos,after,gd⟩ env H (.d (.v (.int .i64 (a%b)))) none:=
 loc_bin' (X:= .int .i64 a) (Y:= .int .i64 b) (by rw[hx];rfl) (by rw[hy];rfl) fun w=>by
  rw[A3,Qea,A8];simp[binOp,Op.intDiv,show b≠0 by omega,Int.tmod_eq_emod_of_nonneg ha]
def Qdm{x:A7}{l:List UInt8}(hx:aval env x= .d (.v (.string ⟨l.toArray⟩)))(hy:aval env y= .d (.v (.string ⟨m.toArray⟩))):
 Loc P ⟨dst,.binOp .eql T x y T',ty,pos,after,gd⟩ env H (.d (.v (.bool (l==m)))) none:=
 loc_bin' (X:= .string ⟨l.toArray⟩) (Y:= .string ⟨m.toArray⟩) (by rw[hx];rfl) (by rw[hy];rfl) fun w=>by
  rw[A3,QfK,A8];simp only[binOp,Ak,QhJ];rfl
def Qd2{x:A7}{l:List UInt8}(hx:aval env x= .d (.v (.string ⟨l.toArray⟩)))(hy:aval env y= .d (.v (.string ⟨m.toArray⟩))):
 Loc P ⟨dst,.binOp .neq T x y T',ty,pos,after,gd⟩ env H (.d (.v (.bool !(l==m)))) none:=
 loc_bin' (X:= .string ⟨l.toArray⟩) (Y:= .string ⟨m.toArray⟩) (by rw[hx];rfl) (by rw[hy];rfl) fun w=>by
  rw[A3,QfK,A8];simp only[binOp,Ak,QhJ];rfl
def Qjv{x:A7}{l:List UInt8}(hx:aval env x= .d (.v (.string ⟨l.toArray⟩)))(hy:aval env y= .d (.v (.string ⟨m.toArray⟩))):
 Loc P ⟨dst,.binOp .geq T x y T',ty,pos,after,gd⟩ env H (.d (.v (.bool !(Op.bytesLess l m)))) none:=
 loc_bin' (X:= .string ⟨l.toArray⟩) (Y:= .string ⟨m.toArray⟩) (by rw[hx];rfl) (by rw[hy];rfl) fun w=>by
  rw[A3,QfK,A8];simp only[binOp,Ak,QhJ];rfl
def QcX{x:A7}{l:List UInt8}(hx:aval env x= .d (.v (.string ⟨l.toArray⟩)))(hy:aval env y= .d (.v (.string ⟨m.toArray⟩)))(h:l.length+m.length<=9223372036854775807):
 Loc P ⟨dst,.binOp .add T x y T',ty,pos,after,gd⟩ env H (.d (.v (.string ⟨(l++m).toArray⟩))) none:=
 loc_bin' (X:= .string ⟨l.toArray⟩) (Y:= .string ⟨m.toArray⟩) (by rw[hx];rfl) (by rw[hy];rfl) fun w=>by
  rw[A3,QfK,A8];exact Pm.str_add l m h w
def Qfx{x:A7}{l m:Bool}(hT:P.underlying T=some .bool)(hx:aval env x= .d (.v (.bool l)))(hy:aval env y= .d (.v (.bool m))):
 Loc P ⟨dst,.binOp .eql T x y T',ty,pos,after,gd⟩ env H (.d (.v (.bool (l==m)))) none:=
 loc_bin' (X:= .bool l) (Y:= .bool m) (by rw[hx];rfl) (by rw[hy];rfl) fun w=>by
  rw[A3,Qj6,A8];show(B0 (9999+1) T (.bool l) (.bool m)>>=fun b=>pure (B1 b)).run P w=_;rw[A3,run_equalIn_bool' w 9999 T l m hT];rfl
def QeD{x:A7}{l m:Bool}(hT:P.underlying T=some .bool)(hx:aval env x= .d (.v (.bool l)))(hy:aval env y= .d (.v (.bool m))):
 Loc P ⟨dst,.binOp .neq T x y T',ty,pos,after,gd⟩ env H (.d (.v (.bool !(l==m)))) none:=
 loc_bin' (X:= .bool l) (Y:= .bool m) (by rw[hx];rfl) (by rw[hy];rfl) fun w=>by
  rw[A3,Qj6,A8];show(B0 (9999+1) T (.bool l) (.bool m)>>=fun b=>pure (B1 !b)).run P w=_;rw[A3,run_equalIn_bool' w 9999 T l m hT];rfl
theorem QdX{F:TyF}{x:A7}{l:List UInt8}{c:UInt8}(hT:tyf P T=some F)(hs:F.str=true)(hx:aval env x= .d (.v (.string ⟨l.toArray⟩)))(hy:aval env y= .d (.v (.int κ i)))(h0:0<=i)(hc:l[i.toNat]? =some c):
 Loc P ⟨dst,.index T x y,ty,pos,after,gd⟩ env H (.d (.v (.int .u8 c.toNat))) none:=
 QQ fun σ S H' a w _ hop _=>by
  have h1:=AV.conc_rel (hop x (by simp[A2])) (y:= .string ⟨l.toArray⟩) (by rw[hx];rfl);have h2:=AV.conc_rel (hop y (by simp[A2])) (y:= .int κ i) (by rw[hy];rfl);have hlt:i.toNat<l.length:=(A9.1 hc).1
  have hb:(⟨l.toArray⟩:ByteArray)[i.toNat]? =some c:=by
   have hsz:i.toNat<(⟨l.toArray⟩:ByteArray).size:=by grind [QfS]
   rw[getElem?_pos (⟨l.toArray⟩:ByteArray) i.toNat hsz]
   congr 1
   show l.toArray[i.toNat]=c
   grind
  exact⟨_,by simp_all[execOp,Instr.index,asIntOf,run_underlying,Qf8],.d _ _ (.v _)⟩
end
section
variable{ops:Array AR}{Q:AP->St->Prop}{K:St->Prop}{l:List AR}{n:Nat}{env:List (Nat×AV)}{H:List Blk}{d:Ay}{op:Op}{ty:AD}{pos:String}{after:Array Am}{gd:Option (Nat×Bool)}{x:AV}{C:Blk}
def s1(hl:Loc P ⟨some d,op,ty,pos,after,gd⟩ env H x none)(hd:AB d n=true)(hg:gdOk ops n ⟨some d,op,ty,pos,after,gd⟩=true)(hw:awanted ops env ⟨some d,op,ty,pos,after,gd⟩=some true)
 (h:ASeq P ops Q l ⟨n,(d,x)::env,H⟩):ASeq P ops Q (⟨some d,op,ty,pos,after,gd⟩::l) ⟨n,env,H⟩:=
 Qog hl hd hg hw (by simpa[St.next,putE] using h)
def s2(hl:Loc P ⟨some d,op,ty,pos,after,gd⟩ env H x (some C))(hd:AB d n=true)(hg:gdOk ops n ⟨some d,op,ty,pos,after,gd⟩=true)(hw:awanted ops env ⟨some d,op,ty,pos,after,gd⟩=some true)
 (h:ASeq P ops Q l ⟨n,(d,x)::env,H++[C]⟩):ASeq P ops Q (⟨some d,op,ty,pos,after,gd⟩::l) ⟨n,env,H⟩:=
 Qog hl hd hg hw (by simpa[St.next,putE] using h)
def s0(hw:awanted ops env ⟨some d,op,ty,pos,after,gd⟩=some false)(hd:AB d n=true)(hg:gdOk ops n ⟨some d,op,ty,pos,after,gd⟩=true)
 (h:ASeq P ops Q l ⟨n,(d,.d (.v undef))::env,H⟩):ASeq P ops Q (⟨some d,op,ty,pos,after,gd⟩::l) ⟨n,env,H⟩:=
 QrX hw hd hg (by simpa[St.next,putE] using h)
def d1(hl:Loc P ⟨some d,op,ty,pos,after,gd⟩ env H x none)(hd:AB d n=true)(hw:awanted ops env ⟨some d,op,ty,pos,after,gd⟩=some true)
 (h:ADraw P ops K l ⟨n,(d,x)::env,H⟩):ADraw P ops K (⟨some d,op,ty,pos,after,gd⟩::l) ⟨n,env,H⟩:=
 QlY hl hd hw (by simpa[St.next,putE] using h)
def d2(hl:Loc P ⟨some d,op,ty,pos,after,gd⟩ env H x (some C))(hd:AB d n=true)(hw:awanted ops env ⟨some d,op,ty,pos,after,gd⟩=some true)
 (h:ADraw P ops K l ⟨n,(d,x)::env,H++[C]⟩):ADraw P ops K (⟨some d,op,ty,pos,after,gd⟩::l) ⟨n,env,H⟩:=
 QlY hl hd hw (by simpa[St.next,putE] using h)
def d0(hw:awanted ops env ⟨some d,op,ty,pos,after,gd⟩=some false)(hd:AB d n=true)
 (h:ADraw P ops K l ⟨n,(d,.d (.v undef))::env,H⟩):ADraw P ops K (⟨some d,op,ty,pos,after,gd⟩::l) ⟨n,env,H⟩:=
 Qpu hw hd (by simpa[St.next,putE] using h)
end
def D.conc:D->Option AG
 |.v x=>some x
 |.agg l=>(D.vals l).map fun vs=> .agg vs.toArray
 |_=>none
def concL:List D->Option (List AG)
 |[]=>some []
 |d::r=>match d.conc,concL r with
  |some x,some xs=>some (x::xs)
  |_,_=>none
theorem Qfk{S:Nat->Prop}{w:AT}: ∀{l:List D} {vs cs:List AG},concL l=some vs->l.length=cs.length->(∀(i:Nat) d v,l[i]? =some d->cs[i]? =some v->RelD S w d v)->cs=vs
 |[],vs,cs,h,hl,_=>by
  grind [concL]
 |d::r,vs,[],h,hl,_=>by simp at hl
 |d::r,vs,c::cs,h,hl,hr=>by
  simp only[concL] at h;cases hd:d.conc with
  |none=>grind
  |some x=>
   cases hv:concL r with
   |none=>grind
   |some xs=>
    rw[hd,hv] at h;obtain rfl:=A6 h;have h0:=AV.conc_rel (σ:=fun _=>none) (H:=[]) (.d _ _ (hr 0 d c rfl rfl)) (y:=x) (by cases d<;>simp_all[D.conc,AV.conc]);subst h0;have h3:=Qfk (cs:=cs) hv (by grind) fun i d x hd hx=>hr (i+1) d x (by grind) (by grind)
    rw[h3]
theorem Qdv{args:List D}{x:AG}(ha:concL args=some vs)
 (h: ∀w,Pm.Lt w->B3 P f vs.toArray w fun e w'=>e= .returned x/\Au w.heap.size w w'):Pure P f args (D.ofV x):=by
 intro B σ S H w cargs hB hS hl hr;obtain rfl:=Qfk ha hl hr;refine(h w (hB.ltOf hS)).mono ?_
 grind [D.ofV_rel]
variable{P:AE}
theorem tyf_of{F:TyF} [h:Ty P T F]:tyf P T=some F:=h.h
def evPick(X Y:AV):AV->Option (AV×Option Blk)
 |.d (.v (.bool b))=>some (bif b then X else Y,none)
 |_=>none
def evNot:AV->Option (AV×Option Blk)
 |.d (.v (.bool b))=>some (.d (.v (.bool !b)),none)
 |_=>none
def evLoad(H:List Blk)(F:TyF):AV->Option (AV×Option Blk)
 |.d (.pd cells)=>(ldD F cells).map fun x=>(.d x,none)
 |.ptr k g o=>match H[k]? with
  |some (.row g' cells)=>if g'=g then(ldA F (cells.drop o)).map fun x=>(x,none) else none
  |_=>none
 |.ept k g i j=>match H[k]? with
  |some (.arr g' _ _ rows)=>if g'=g then(rows[i]?.bind fun r=>ldD F (r.drop j)).map fun x=>(.d x,none) else none
  |_=>none
 |_=>none
def evField(H:List Blk)(o:Nat):AV->Option (AV×Option Blk)
 |.d (.pd cells)=>some (.d (.pd (cells.drop o)),none)
 |.ptr k g q=>match H[k]? with
  |some (.row g' _)=>if g'=g then some (.ptr k g (q+o),none) else none
  |_=>none
 |.ept k g i q=>match H[k]? with
  |some (.arr g' _ _ _)=>if g'=g then some (.ept k g i (q+o),none) else none
  |_=>none
 |_=>none
def Qkv(H:List Blk)(x:AV):Option (Nat×Nat)->Option (AV×Option Blk)
 |some (o,n)=>bif AB 0 n then evField H o x else none
 |none=>none
def evBin(op:As):AV->AV->Option (AV×Option Blk)
 |.d (.v (.int k a)),.d (.v (.int k' b))=>bif decide (k=k') then(cmpI op a b).map fun r=>(.d (.v (.bool r)),none) else none
 |_,_=>none
def evLen(H:List Blk)(F:TyF):AV->Option (AV×Option Blk)
 |.d (.sl _ _ rows)=>bif F.elem.isSome then some (.d (.v (.int .i64 (rows.length:Nat))),none) else none
 |.osl k g _ len=>match H[k]? with
  |some (.arr g' _ _ _)=>bif F.elem.isSome then(if g'=g then some (.d (.v (.int .i64 (len:Nat))),none) else none) else none
  |_=>none
 |.d (.v (.slice none 0 0))=>bif F.elem.isSome then some (.d (.v (.int .i64 0)),none) else none
 |.d (.v (.string s))=>bif F.str then some (.d (.v (.int .i64 (s.size:Nat))),none) else none
 |_=>none
def QiC(i:Nat):AV->Option (AV×Option Blk)
 |.d (.tup l)=>l[i]?.map fun x=>(.d x,none)
 |.tup l=>l[i]?.map fun x=>(x,none)
 |_=>none
def evCall(P:AE)(env:List (Nat×AV))(H:List Blk):Callee->List A7->List AD->Option (AV×Option Blk)
 |.builtin .len,[u],[T]=>(tyf P T).bind fun F=>evLen H F (aval env u)
 |_,_,_=>none
def evOp(P:AE)(env:List (Nat×AV))(H:List Blk):Op->Option (AV×Option Blk)
 |.move u=>some (aval env u,none)
 |.assign u=>some (aval env u,none)
 |.pick c x y=>evPick (aval env x) (aval env y) (aval env c)
 |.unOp .not _ u=>evNot (aval env u)
 |.load T u=>(tyf P T).bind fun F=>evLoad H F (aval env u)
 |.fieldAddr T u f=>(tyf P T).bind fun F=>Qkv H (aval env u) F.fields[f]?
 |.binOp op _ x y _=>evBin op (aval env x) (aval env y)
 |.box _ u=>(aval env u).cells.map fun l=>(.ptr H.length 0 0,some (.row 0 l))
 |.alloc T=>(tyf P T).map fun F=>(.ptr H.length 0 0,some (.row 0 (F.zero.map fun v=> .d (.v v))))
 |.build T parts=>(tyf P T).bind fun F=>F.places.bind fun pl=>(fillA (fun i=>pl[i]?) env (F.zero.map fun v=> .d (.v v)) parts.toList).map fun res=>(AV.mk res,none)
 |.extract u i=>QiC i (aval env u)
 |.call c=>evCall P env H c.callee c.args.toList c.argTypes.toList
 |_=>none
theorem QiB{dst:Option Ay}{op:Op}{ty:AD}{pos:String}{after:Array Am}{gd:Option (Nat×Bool)}{env:List (Nat×AV)}{H:List Blk}{x:AV}{nb:Option Blk}
 (h:evOp P env H op=some (x,nb)):Loc P ⟨dst,op,ty,pos,after,gd⟩ env H x nb:=by
 unfold evOp at h;split at h
 ·grind [Qn5]
 ·grind [QoI]
 ·unfold evPick at h
  split at h
  ·simp only[A4,AQ] at h;obtain⟨rfl,rfl⟩:=h
   exact QsN (by assumption) rfl rfl
  ·cases h
 ·unfold evNot at h
  grind [loc_not]
 ·rename_i T u
  obtain⟨F,hF,h⟩:=AA.1 h;unfold evLoad at h;split at h
  ·obtain⟨y,hy,h⟩:=A0.1 h
   grind [Qm1]
  ·split at h
   ·rename_i hk
    split at h;rotate_left
    ·cases h
    rename_i hg;subst hg;obtain⟨y,hy,h⟩:=A0.1 h
    grind [QcW]
   ·cases h
  ·split at h
   ·rename_i hk
    split at h;rotate_left
    ·cases h
    rename_i hg;subst hg;obtain⟨y,hy,h⟩:=A0.1 h
    grind [QcY]
   ·cases h
  ·cases h
 ·rename_i T u f
  obtain⟨F,hF,h⟩:=AA.1 h;unfold Qkv at h;split at h
  ·rename_i o n hf
   cases hn:AB 0 n with
   |false=>grind
   |true=>
    rw[hn] at h;simp only[cond_true] at h;unfold evField at h;split at h
    ·simp only[A4,AQ] at h;obtain⟨rfl,rfl⟩:=h
     exact Qlx hF (by assumption) hf hn
    ·split at h
     ·rename_i hk
      split at h;rotate_left
      ·cases h
      rename_i hg;subst hg;simp only[A4,AQ] at h;obtain⟨rfl,rfl⟩:=h;exact Qfw hF (by assumption) hk hf hn
     ·cases h
    ·split at h
     ·rename_i hk
      split at h;rotate_left
      ·cases h
      rename_i hg;subst hg;simp only[A4,AQ] at h;obtain⟨rfl,rfl⟩:=h;exact Qkh hF (by assumption) hk hf hn
     ·cases h
    ·cases h
  ·cases h
 ·unfold evBin at h
  split at h
  ·rename_i k a k' b hx hy
   cases hk:decide (k=k') with
   |false=>grind
   |true=>
    rw[hk] at h;obtain⟨r,hr,h⟩:=A0.1 h
    grind [loc_cmp]
  ·cases h
 ·obtain⟨l,hl,h⟩:=A0.1 h
  grind [loc_box]
 ·obtain⟨F,hF,h⟩:=A0.1 h
  grind [Qq7]
 ·obtain⟨F,hF,h⟩:=AA.1 h
  obtain⟨pl,hpl,h⟩:=AA.1 h;obtain⟨res,hr,h⟩:=A0.1 h
  grind [Qq5]
 ·unfold QiC at h
  grind [Qki,Qm6]
 ·rename_i c
  obtain⟨callee,args,tys⟩:=c;simp only at h;unfold evCall at h;split at h;rotate_left
  ·cases h
  rename_i u T ha hT;obtain rfl:args= #[u]:=Af.1 ha;obtain rfl:tys= #[T]:=Af.1 hT;obtain⟨F,hF,h⟩:=AA.1 h;unfold evLen at h;split at h
  ·rename_i hu
   cases he:F.elem with
   |none=>grind
   |some e=>
    grind [QoH]
  ·rename_i hu
   split at h
   ·rename_i hk
    cases he:F.elem with
    |none=>grind
    |some e=>
     grind [Qm4]
   ·cases h
  ·rename_i hu
   cases he:F.elem with
   |none=>grind
   |some e=>
    rw[he] at h;simp only[Option.isSome_some,cond_true,A4,AQ] at h;obtain⟨rfl,rfl⟩:=h
    exact QQ fun σ S H' a w _ hop _=>by
     have h:=AV.conc_rel (hop u (by simp[A2,AF])) (y:= .slice none 0 0) (by rw[hu];rfl);exact⟨_,by simp[execOp,resolve,invoke,builtin,Builtin.len_,h,goInt,run_underlying (Qdy hF he)];try rfl,.d _ _ (.v _)⟩
  ·grind [Qm2]
  ·cases h
 ·cases h
theorem natBeq(n m:Nat):B4 n m=decide (n=m):=by
 cases h:B4 n m
 ·exact(decide_eq_false fun e=>by simp_all).symm
 simp_all
theorem natBle(n m:Nat):AO n m=decide (n<=m):=by
 cases h:AO n m
 ·grind [Nat.ble_eq_true_of_le]
 simp_all
theorem natBlt(n m:Nat):AB n m=decide (n<m):=natBle _ _
attribute [go_sem] evOp evPick evNot evLoad evField Qkv evBin evLen QiC evCall aval look D.ofV tyf_of Option.bind_some Option.map_some ldD ldA AV.mk allD cond_true cond_false List.take_succ_cons List.take_zero List.drop_succ_cons List.drop_zero List.head?_cons List.map_cons List.map_nil List.length_cons List.length_nil List.getElem?_cons_zero List.getElem?_cons_succ Nat.zero_add cmpI AV.cells D.cells Value.oneCell' fillA setAt natBeq natBle natBlt decide_true decide_false Bool.not_true Bool.not_false Option.isSome_some List.set_cons_zero List.set_cons_succ Bool.and_self Bool.and_true Bool.true_and List.length_map resD rvA List.size_toArray QfS
section
variable{ops:Array AR}{Q:AP->St->Prop}{K:St->Prop}{l:List AR}{n:Nat}{env:List (Nat×AV)}{H H':List Blk}{d:Ay}{op:Op}{ty:AD}{pos:String}{after:Array Am}{gd:Option (Nat×Bool)}{x:AV}{C:Blk}
def e1(hw:awanted ops env ⟨some d,op,ty,pos,after,gd⟩=some true:=by rfl)(h: ∀R:Option (AV×Option Blk)->Prop,R (some (x,none))->R (evOp P env H op):=by intro R hR;simp only[go_sem,Nat.reduceEqDiff,Nat.reduceAdd,Nat.reduceLT,Nat.reduceLeDiff,↓reduceIte,reduceCtorEq];exact hR)
 (hd:AB d n=true:=by rfl) (hg:gdOk ops n ⟨some d,op,ty,pos,after,gd⟩=true:=by rfl)
 (k:ASeq P ops Q l ⟨n,(d,x)::env,H⟩):ASeq P ops Q (⟨some d,op,ty,pos,after,gd⟩::l) ⟨n,env,H⟩:=s1 (QiB (h (fun r=>r=some (x,none)) rfl)) hd hg hw k
theorem e2(hw:awanted ops env ⟨some d,op,ty,pos,after,gd⟩=some true:=by rfl)(h: ∀R:Option (AV×Option Blk)->Prop,R (some (x,some C))->R (evOp P env H op):=by intro R hR;simp only[go_sem,Nat.reduceEqDiff,Nat.reduceAdd,Nat.reduceLT,Nat.reduceLeDiff,↓reduceIte,reduceCtorEq];exact hR)
 (hd:AB d n=true:=by rfl) (hg:gdOk ops n ⟨some d,op,ty,pos,after,gd⟩=true:=by rfl)
 (hH: ∀R:List Blk->Prop,R H'->R (H++[C]):=by intro R hR;simp only[List.cons_append,List.nil_append];exact hR)
 (k:ASeq P ops Q l ⟨n,(d,x)::env,H'⟩):ASeq P ops Q (⟨some d,op,ty,pos,after,gd⟩::l) ⟨n,env,H⟩:=s2 (QiB (h (fun r=>r=some (x,some C)) rfl)) hd hg hw (by have:=hH (fun r=>r=H') rfl;grind)
def e0(hw:awanted ops env ⟨some d,op,ty,pos,after,gd⟩=some false:=by rfl)(hd:AB d n=true:=by rfl)(hg:gdOk ops n ⟨some d,op,ty,pos,after,gd⟩=true:=by rfl)
 (k:ASeq P ops Q l ⟨n,(d,.d (.v undef))::env,H⟩):ASeq P ops Q (⟨some d,op,ty,pos,after,gd⟩::l) ⟨n,env,H⟩:=s0 hw hd hg k
def f1(hw:awanted ops env ⟨some d,op,ty,pos,after,gd⟩=some true:=by rfl)(h: ∀R:Option (AV×Option Blk)->Prop,R (some (x,none))->R (evOp P env H op):=by intro R hR;simp only[go_sem,Nat.reduceEqDiff,Nat.reduceAdd,Nat.reduceLT,Nat.reduceLeDiff,↓reduceIte,reduceCtorEq];exact hR)
 (hd:AB d n=true:=by rfl)
 (k:ADraw P ops K l ⟨n,(d,x)::env,H⟩):ADraw P ops K (⟨some d,op,ty,pos,after,gd⟩::l) ⟨n,env,H⟩:=d1 (QiB (h (fun r=>r=some (x,none)) rfl)) hd hw k
theorem f2(hw:awanted ops env ⟨some d,op,ty,pos,after,gd⟩=some true:=by rfl)(h: ∀R:Option (AV×Option Blk)->Prop,R (some (x,some C))->R (evOp P env H op):=by intro R hR;simp only[go_sem,Nat.reduceEqDiff,Nat.reduceAdd,Nat.reduceLT,Nat.reduceLeDiff,↓reduceIte,reduceCtorEq];exact hR)
 (hd:AB d n=true:=by rfl)
 (hH: ∀R:List Blk->Prop,R H'->R (H++[C]):=by intro R hR;simp only[List.cons_append,List.nil_append];exact hR)
 (k:ADraw P ops K l ⟨n,(d,x)::env,H'⟩):ADraw P ops K (⟨some d,op,ty,pos,after,gd⟩::l) ⟨n,env,H⟩:=d2 (QiB (h (fun r=>r=some (x,some C)) rfl)) hd hw (by have:=hH (fun r=>r=H') rfl;grind)
def f0(hw:awanted ops env ⟨some d,op,ty,pos,after,gd⟩=some false:=by rfl)(hd:AB d n=true:=by rfl)
 (k:ADraw P ops K l ⟨n,(d,.d (.v undef))::env,H⟩):ADraw P ops K (⟨some d,op,ty,pos,after,gd⟩::l) ⟨n,env,H⟩:=d0 hw hd k
def stepS(hl:Loc P ⟨some d,op,ty,pos,after,gd⟩ env H x none)(hw:awanted ops env ⟨some d,op,ty,pos,after,gd⟩=some true:=by rfl)(hd:AB d n=true:=by rfl)(hg:gdOk ops n ⟨some d,op,ty,pos,after,gd⟩=true:=by rfl)
 (k:ASeq P ops Q l ⟨n,(d,x)::env,H⟩):ASeq P ops Q (⟨some d,op,ty,pos,after,gd⟩::l) ⟨n,env,H⟩:=s1 hl hd hg hw k
def stepD(hl:Loc P ⟨some d,op,ty,pos,after,gd⟩ env H x none)(hd:AB d n=true:=by rfl)(hw:awanted ops env ⟨some d,op,ty,pos,after,gd⟩=some true:=by rfl)
 (k:ADraw P ops K l ⟨n,(d,x)::env,H⟩):ADraw P ops K (⟨some d,op,ty,pos,after,gd⟩::l) ⟨n,env,H⟩:=d1 hl hd hw k
end
def Qf5{ops:Array AR}{Q:AP->St->Prop}{y:Code}{s:St}(h:AWP P y Q s):ASeq P ops (thenA (AWP P y Q) Q) [] s:=Qhc h
def QlZ{ops:Array AR}{Q:AP->St->Prop}{y:Code}{s:St}(h:AWP P y Q s):ADraw P ops (thenA (AWP P y Q) Q .normal) [] s:=h
def QiU{x y:Code}{Q:AP->St->Prop}{s:St}(h:AWP P x (thenA (AWP P y Q) Q) s):AWP P (.seq x y) Q s:=awp_seq fun K hK=>fun B hB σ S a w hA=>by
 refine wp_mono (h B hB σ S a w hA) ?_;rintro e a w ⟨s',σ',S',hq,hA'⟩;cases e with
 |normal=>exact⟨s',σ',S',hK _ hq,hA'⟩
 |_=>exact⟨s',σ',S',hq,hA'⟩
theorem Qa(k:Nat){C:Blk}{Q:AP->St->Prop}{n:Nat}{env:List (Nat×AV)}{H H':List Blk}(hC:H[k]? =some C:=by rfl)
 (he: ∀R:List (Nat×AV)->Prop,R env'->R (frzE k C env):=by intro R hR;simp only[frzE,AV.frz,AV.frzL,Blk.gen,Blk.iceP,Blk.iceS,Blk.iceM,AV.data,beq_self_eq_true,Nat.reduceBEq,Bool.and_self,Bool.and_true,Bool.true_and,Bool.false_and,Bool.and_false,cond_true,cond_false,List.drop_zero,List.drop_succ_cons,List.map_cons,List.map_nil];exact hR)
 (hh: ∀R:List Blk->Prop,R H'->R ((H.set k C.dead).map (Blk.frz k C)):=by intro R hR;simp only[Blk.dead,Blk.frz,AV.frz,AV.frzL,Blk.gen,Blk.iceP,Blk.iceS,Blk.iceM,AV.data,List.set_cons_zero,List.set_cons_succ,List.map_cons,List.map_nil,Nat.zero_add,beq_self_eq_true,Nat.reduceBEq,Bool.and_self,Bool.and_true,Bool.true_and,Bool.false_and,Bool.and_false,cond_true,cond_false,List.drop_zero,List.drop_succ_cons];exact hR)
 (h:AWP P c Q ⟨n,env',H'⟩):AWP P c Q ⟨n,env,H⟩:=by
 have h1:=he (fun r=>r=env') rfl;have h2:=hh (fun r=>r=H') rfl
 grind [Qgf,Qgn]
def Qb{Q:AP->St->Prop}{n:Nat}{env:List (Nat×AV)}{H:List Blk}{x y:D}(hq:Q .ret ⟨n,env,H⟩=(resD env rs=some x):=by rfl)
 (h: ∀R:Option D->Prop,R (some y)->R (resD env rs):=by intro R hR;simp only[go_sem,Nat.reduceEqDiff,Nat.reduceAdd,Nat.reduceLT,Nat.reduceLeDiff,↓reduceIte,reduceCtorEq];exact hR) (hx:y=x):AWP P .ret Q ⟨n,env,H⟩:=
 Qg4 (by rw[hq];exact hx▸h (fun r=>r=some y) rfl)
def Qnd{K:St->Prop}{Q:AP->St->Prop}{s:St}(h:K s):thenA K Q .normal s:=h
def QiX{ops:Array AR}{K:St->Prop}{Q:AP->St->Prop}{s:St}(h:K s):ASeq P ops (thenA K Q) [] s:=Qhc h
def QjM{ops:Array AR}{K:St->Prop}{s:St}(h:K s):ADraw P ops K [] s:=h
def Back(I:Nat->St->Prop)(_ts:List Nat)(_m n:Nat)(s:St):Prop:= ∃s1 n1,Weak s s1/\n1<n/\I n1 s1
def Qo(I:Nat->St->Prop)(ts:List Nat)(m:Nat)(n0:Nat){Q:AP->St->Prop}{n:Nat}{env:List (Nat×AV)}{H:List Blk}
 (h0:I n0 ⟨n,keepE env ts,H.take m⟩) (h1:envLt m (keepE env ts)=true:=by rfl) (h2:(H.take m).all (Blk.lt m)=true:=by rfl)
 (round: ∀n s,I n s->AWP P c (thenA (Back I ts m n) Q) s):AWP P (.loop c) Q ⟨n,env,H⟩:=by
 refine Qt5 I n0 (Qg7 ts m rfl rfl h1 h2) h0 fun n s hI=>?_
 intro B hB σ S a w hA;refine wp_mono (round n s hI B hB σ S a w hA) ?_;rintro e a w ⟨s',σ',S',hq,hA'⟩;cases e with
 |normal=>
  exact⟨s',σ',S',hq,hA'⟩
 |_=>exact⟨s',σ',S',hq,hA'⟩
def Qh{m n:Nat}{s:St}(n1:Nat)(h1:n1<n)(h2:I n1 ⟨s.n,keepE s.env ts,s.H.take m⟩)(h3:envLt m (keepE s.env ts)=true:=by rfl)(h4:(s.H.take m).all (Blk.lt m)=true:=by rfl):
 Back I ts m n s:=⟨_,n1,Qg7 ts m rfl rfl h3 h4,h1,h2⟩
theorem QiV(k:Nat){C:Blk}{m n N:Nat}{env:List (Nat×AV)}{H H':List Blk}(hC:H[k]? =some C:=by rfl)
 (he: ∀R:List (Nat×AV)->Prop,R env'->R (frzE k C env):=by intro R hR;simp only[frzE,AV.frz,AV.frzL,Blk.gen,Blk.iceP,Blk.iceS,Blk.iceM,AV.data,beq_self_eq_true,Nat.reduceBEq,Bool.and_self,Bool.and_true,Bool.true_and,Bool.false_and,Bool.and_false,cond_true,cond_false,List.drop_zero,List.drop_succ_cons,List.map_cons,List.map_nil];exact hR)
 (hh: ∀R:List Blk->Prop,R H'->R ((H.set k C.dead).map (Blk.frz k C)):=by intro R hR;simp only[Blk.dead,Blk.frz,AV.frz,AV.frzL,Blk.gen,Blk.iceP,Blk.iceS,Blk.iceM,AV.data,List.set_cons_zero,List.set_cons_succ,List.map_cons,List.map_nil,Nat.zero_add,beq_self_eq_true,Nat.reduceBEq,Bool.and_self,Bool.and_true,Bool.true_and,Bool.false_and,Bool.and_false,cond_true,cond_false,List.drop_zero,List.drop_succ_cons];exact hR)
 (h:Back I ts m n ⟨N,env',H'⟩):Back I ts m n ⟨N,env,H⟩:=by
 have h1:=he (fun r=>r=env') rfl;have h2:=hh (fun r=>r=H') rfl;subst h1;subst h2;obtain⟨s1,n1,h3,h4,h5⟩:=h;exact⟨s1,n1,(Qgn k hC).trans h3,h4,h5⟩
def aw_cond{c:A7}{b:Bool}{Q:AP->St->Prop}{n:Nat}{env:List (Nat×AV)}{H:List Blk}
 (hc: ∀R:AV->Prop,R (.d (.v (.bool b)))->R (aval env c):=by intro R hR;simp only[go_sem,Nat.reduceEqDiff,Nat.reduceAdd,Nat.reduceLT,Nat.reduceLeDiff,↓reduceIte,reduceCtorEq];exact hR)
 (ht:b=true->AWP P X Q ⟨n,env,H⟩) (hf:b=false->AWP P Y Q ⟨n,env,H⟩):AWP P (.cond c X Y) Q ⟨n,env,H⟩:=
 Qk8 (hc (fun r=>r= .d (.v (.bool b))) rfl) ht hf
theorem QkD{c:A7}{Q:AP->St->Prop}{n:Nat}{env:List (Nat×AV)}{H:List Blk}
 (hc:aval env c= .d (.v (.bool true)):=by rfl) (ht:AWP P X Q ⟨n,env,H⟩):AWP P (.cond c X Y) Q ⟨n,env,H⟩:=by grind [Qk8]
theorem QkE{c:A7}{Q:AP->St->Prop}{n:Nat}{env:List (Nat×AV)}{H:List Blk}
 (hc:aval env c= .d (.v (.bool false)):=by rfl) (hf:AWP P Y Q ⟨n,env,H⟩):AWP P (.cond c X Y) Q ⟨n,env,H⟩:=by grind [Qk8]
def Qp0{K:St->Prop}{Q:AP->St->Prop}{id:Nat}{s:St}(h:Q (.exit id) s):thenA K Q (.exit id) s:=h
def Qma{Q:AP->St->Prop}{id:Nat}{s:St}(h:Q .normal s):blockA id Q (.exit id) s:=by simpa[blockA] using h
theorem QjR{Q:AP->St->Prop}{id id':Nat}{s:St}(hn:B4 id' id=false:=by rfl)(h:Q (.exit id') s):blockA id Q (.exit id') s:=by
 have:id'≠id:=fun e=>by simp_all
 grind [blockA]
def Qmt{Q:AP->St->Prop}{id:Nat}{s:St}(h:Q .normal s):blockA id Q .normal s:=h
theorem splitD{ops:Array AR}{K:St->Prop}{l:List AR}{n:Nat}{env:List (Nat×AV)}{H:List Blk}{d:Ay}{b:Bool}
 (ht:b=true->ADraw P ops K l ⟨n,(d,.d (.v (.bool true)))::env,H⟩) (hf:b=false->ADraw P ops K l ⟨n,(d,.d (.v (.bool false)))::env,H⟩):ADraw P ops K l ⟨n,(d,.d (.v (.bool b)))::env,H⟩:=by
 cases b
 ·grind
 grind
theorem splitS{ops:Array AR}{Q:AP->St->Prop}{l:List AR}{n:Nat}{env:List (Nat×AV)}{H:List Blk}{d:Ay}{b:Bool}
 (ht:b=true->ASeq P ops Q l ⟨n,(d,.d (.v (.bool true)))::env,H⟩) (hf:b=false->ASeq P ops Q l ⟨n,(d,.d (.v (.bool false)))::env,H⟩):ASeq P ops Q l ⟨n,(d,.d (.v (.bool b)))::env,H⟩:=by
 cases b
 ·grind
 ·exact ht rfl
variable{P:AE}
section
variable{ops:Array AR}{Q:AP->St->Prop}{K:St->Prop}{l:List AR}{n:Nat}{env:List (Nat×AV)}{H H':List Blk}{d:Ay}{op:Op}{ty:AD}{pos:String}{after:Array Am}{gd:Option (Nat×Bool)}{x x':AV}{C C':Blk}
theorem stepS2(hl:Loc P ⟨some d,op,ty,pos,after,gd⟩ env H x (some C))(hw:awanted ops env ⟨some d,op,ty,pos,after,gd⟩=some true:=by rfl)(hd:AB d n=true:=by rfl)(hg:gdOk ops n ⟨some d,op,ty,pos,after,gd⟩=true:=by rfl)
 (hX: ∀R:AV->Prop,R x'->R x:=by intro R hR;simp only[List.length_cons,List.length_nil,Nat.reduceAdd,Nat.zero_add];exact hR)
 (hH: ∀R:List Blk->Prop,R H'->R (H++[C]):=by intro R hR;simp only[List.cons_append,List.nil_append];exact hR)
 (k:ASeq P ops Q l ⟨n,(d,x')::env,H'⟩):ASeq P ops Q (⟨some d,op,ty,pos,after,gd⟩::l) ⟨n,env,H⟩:=
 s2 hl hd hg hw (by have h1:=hX (fun r=>r=x') rfl;have h2:=hH (fun r=>r=H') rfl;grind)
theorem stepD2(hl:Loc P ⟨some d,op,ty,pos,after,gd⟩ env H x (some C))(hw:awanted ops env ⟨some d,op,ty,pos,after,gd⟩=some true:=by rfl)(hd:AB d n=true:=by rfl)
 (hX: ∀R:AV->Prop,R x'->R x:=by intro R hR;simp only[List.length_cons,List.length_nil,Nat.reduceAdd,Nat.zero_add];exact hR)
 (hH: ∀R:List Blk->Prop,R H'->R (H++[C]):=by intro R hR;simp only[List.cons_append,List.nil_append];exact hR)
 (k:ADraw P ops K l ⟨n,(d,x')::env,H'⟩):ADraw P ops K (⟨some d,op,ty,pos,after,gd⟩::l) ⟨n,env,H⟩:=
 d2 hl hd hw (by have h1:=hX (fun r=>r=x') rfl;have h2:=hH (fun r=>r=H') rfl;grind)
theorem Qix{dst:Option Ay}{e:AD}{F:TyF}{n:Nat}{parts:Array (Nat×A7)}{rows:List (List D)}(hT:tyf P T=some F)(he:F.elem=some e)(hE:tyf P e=some E)
 (hz:E.zero.length=E.size:=by rfl) (hc: ∀R:Option (List (List D))->Prop,R (some rows)->R ((fillA (fun i=>some (i*E.size,E.size)) env (An n (E.zero.map fun v=>AV.d (.v v))).flatten parts.toList).bind (chunk E.size n)):=by
   intro R hR;simp only[go_sem,chunk,Option.bind_some,List.replicate_succ,List.replicate_zero,List.flatten_cons,List.flatten_nil,List.append_nil,List.cons_append,List.nil_append,Nat.zero_mul,Nat.reduceMul,Nat.reduceEqDiff,Nat.reduceAdd,Nat.reduceLT,Nat.reduceLeDiff,↓reduceIte,reduceCtorEq,List.take_nil,List.drop_nil];exact hR)
 (hm:AO (n*E.size) 16777216=true:=by rfl) (hn:AO n 16777216=true:=by rfl):Loc P ⟨dst,.buildSlice T n parts,ty,pos,after,gd⟩ env H (.osl H.length 0 0 n) (some (.arr 0 E.size e rows)):=by
 have h:=hc (fun r=>r=some rows) rfl;obtain⟨res,h1,h2⟩:=AA.1 h
 grind [Qje,AC]
theorem Qq4{dst:Option Ay}{e:AD}{F:TyF}{v:A7}{k1 k2:Av}{n:Nat}(hT:tyf P T=some F)(he:F.elem=some e)(hE:tyf P e=some E)(hu:aval env u= .d (.v (.int k1 (n:Int))))(hv:aval env v= .d (.v (.int k2 (n:Int))))
 (hz:E.zero.length=E.size:=by rfl) (hb:AO (E.bytes*n) 281474976710656=true:=by rfl) (hm:AO n 140737488355328=true:=by rfl):
 Loc P ⟨dst,.makeSlice T u v,ty,pos,after,gd⟩ env H (.osl H.length 0 0 n) (some (.arr 0 E.size e (An n (E.zero.map D.v)))):=by grind [QhO,AC]
theorem Qoc{F:TyF}{v:A7}{g o:Nat}{cells lc:List AV} [hT:Ty P T F](hu:aval env u= .ptr k g o:=by rfl)(hk:H[k]? =some (.row g cells):=by rfl)
 (hv: ∀R:Option (List AV)->Prop,R (some lc)->R (aval env v).cells:=by intro R hR;simp only[go_sem,Nat.reduceEqDiff,Nat.reduceAdd,Nat.reduceLT,Nat.reduceLeDiff,↓reduceIte,reduceCtorEq];exact hR)
 (hone:lc.all AV.one=true:=by rfl) (hsz:lc.length=F.size:=by rfl) (hlen:AO (o+lc.length) cells.length=true:=by rfl) (hw:awanted ops env ⟨none,.store T u v,ty,pos,after,gd⟩=some true:=by rfl) (hg:gdOk ops n ⟨none,.store T u v,ty,pos,after,gd⟩=true:=by rfl)
 (hH: ∀R:List Blk->Prop,R H'->R (H.set k (.row g (setAt cells o lc))):=by intro R hR;simp only[setAt,List.set_cons_zero,List.set_cons_succ,Nat.zero_add,Nat.reduceAdd];exact hR)
 (kk:ASeq P ops Q l ⟨n,env,H'⟩):ASeq P ops Q (⟨none,.store T u v,ty,pos,after,gd⟩::l) ⟨n,env,H⟩:=
 QiW (QlA hT.h hu hk (hv (fun r=>r=some lc) rfl) hone hsz (AC hlen)) hw hg (by have:=hH (fun r=>r=H') rfl;grind)
theorem cells1(r:List D)(h:r.all D.cell=true): ∀q∈[r],∀d∈q,d.cell=true:=by grind
theorem QV{e:AD}{F:TyF}{s x:A7}{g len k2 g2:Nat}{T2:AD}{rows:List (List D)}{r:List D}(hT:tyf P T=some F)(he:F.elem=some e)(hE:tyf P e=some E)(hz:E.zero.length=E.size:=by rfl)(hpos:AB 0 E.size=true:=by rfl)
 (hs:aval env s= .osl k g 0 len:=by rfl) (hk:H[k]? =some (.arr g E.size e rows):=by rfl) (hlen:len=rows.length:=by first|rfl|simp)
 (hx:aval env x= .osl k2 g2 0 1:=by rfl) (hk2:H[k2]? =some (.arr g2 E.size T2 [r]):=by rfl) (hcell:r.all D.cell=true:=by rfl)
 (hb:(rows.length+1)*E.bytes<=140737488355328) 
 (hw:awanted ops env ⟨some d,.call ⟨.builtin .append, #[s,x], #[T,T]⟩,ty,pos,after,gd⟩=some true:=by rfl) (hd:AB d n=true:=by rfl) (hg:gdOk ops n ⟨some d,.call ⟨.builtin .append, #[s,x], #[T,T]⟩,ty,pos,after,gd⟩=true:=by rfl)
 (hH: ∀R:List Blk->Prop,R H'->R (H.set k (.arr (g+1) E.size e (rows++[r]))):=by intro R hR;simp only[List.set_cons_zero,List.set_cons_succ,Nat.zero_add,Nat.reduceAdd];exact hR)
 (hby:AB 0 E.bytes=true:=by rfl)
 (kk:ASeq P ops Q l ⟨n,(d,.osl k (g+1) 0 (rows.length+1))::env,H'⟩):ASeq P ops Q (⟨some d,.call ⟨.builtin .append, #[s,x], #[T,T]⟩,ty,pos,after,gd⟩::l) ⟨n,env,H⟩:=by
 have hby':0<E.bytes:=by simpa using hby
 have hmul:rows.length+1<=(rows.length+1)*E.bytes:=AX _ hby';refine QhH (QiI (newrows:=[r]) hT he hE hz (by simp_all) hs hk hlen (QpK hx hk2 rfl (cells1 r hcell)) (by omega) (by grind)) hw hd hg ?_;have:=hH (fun r=>r=H') rfl
 grind
theorem Qet{e:AD}{F:TyF}{s x:A7}{g len:Nat}{c:Bool}{rows newrows:List (List D)}(hT:tyf P T=some F)(he:F.elem=some e)(hE:tyf P e=some E)(hz:E.zero.length=E.size:=by rfl)(hpos:AB 0 E.size=true:=by rfl)
 (hs:aval env s= .osl k g 0 len:=by rfl) (hk:H[k]? =some (.arr g E.size e rows):=by rfl) (hlen:len=rows.length:=by first|rfl|simp)
 (hx:aval env x= .d (.sl c E.size newrows):=by rfl) (hcell: ∀r∈newrows,∀d∈r,d.cell=true)
 (hb:(rows.length+newrows.length)*E.bytes<=140737488355328) 
 (hw:awanted ops env ⟨some d,.call ⟨.builtin .append, #[s,x], #[T,T]⟩,ty,pos,after,gd⟩=some true:=by rfl) (hd:AB d n=true:=by rfl) (hg:gdOk ops n ⟨some d,.call ⟨.builtin .append, #[s,x], #[T,T]⟩,ty,pos,after,gd⟩=true:=by rfl)
 (hH: ∀R:List Blk->Prop,R H'->R (H.set k (.arr (g+1) E.size e (rows++newrows))):=by intro R hR;simp only[List.set_cons_zero,List.set_cons_succ,Nat.zero_add,Nat.reduceAdd];exact hR)
 (hby:AB 0 E.bytes=true:=by rfl)
 (kk:ASeq P ops Q l ⟨n,(d,.osl k (g+1) 0 (rows.length+newrows.length))::env,H'⟩):ASeq P ops Q (⟨some d,.call ⟨.builtin .append, #[s,x], #[T,T]⟩,ty,pos,after,gd⟩::l) ⟨n,env,H⟩:=by
 have hby':0<E.bytes:=by simpa using hby
 have hmul:rows.length+newrows.length<=(rows.length+newrows.length)*E.bytes:=AX _ hby';refine QhH (QiI (newrows:=newrows) hT he hE hz (by simp_all) hs hk hlen (QpJ hx hcell) hb (by omega)) hw hd hg ?_;have:=hH (fun r=>r=H') rfl
 grind
end
variable{P:AE}
mutual
def D.weak:D->D
 |.sl _ n l=> .sl false n l
 |.agg l=> .agg (D.weakL l)
 |.tup l=> .tup (D.weakL l)
 |.pd l=> .pd (D.weakL l)
 |x=>x
def D.weakL:List D->List D
 |[]=>[]
 |x::r=>D.weak x::D.weakL r
end
theorem D.weakL_get: ∀(l:List D) (i:Nat),(D.weakL l)[i]? =l[i]?.map D.weak
 :=by intro l;induction l<;>grind [D.weakL]
theorem D.weakL_len: ∀(l:List D),(D.weakL l).length=l.length
 :=by intro l;induction l<;>grind [D.weakL]
theorem QeU{l:List D}{i:Nat}{d:D}(h:(D.weakL l)[i]? =some d): ∃d0,l[i]? =some d0/\d=d0.weak:=by
 grind [D.weakL_get]
theorem RelD.weak{S:Nat->Prop}{d:D}{x:AG}(h:RelD S w d x):RelD S w d.weak x:=by
 induction h with
 |any x=>exact .any x
 |v x=>exact .v x
 |agg l cs hl h ih=>exact .agg _ cs (by grind [D.weakL_len]) fun i d x hd hx=>by grind [QeU]
 |tup l cs hl h ih=>exact .tup _ cs (by grind [D.weakL_len]) fun i d x hd hx=>by grind [QeU]
 |pd l b o g hb hc h ih=>
  exact .pd _ b o g hb (fun j d hj=>by grind [QeU]) (fun j d hj=>by grind [QeU])
 |slnil c n a cap=>exact .slnil false n a cap
 |sl c n l b o cap g hb hn hcap hc h ih=>exact .sl false n l b o cap g hb hn (fun h=>by cases h) hc h
 |mp l b es clock hb hm hl hk h ih=>exact .mp l b es clock hb hm hl hk h
theorem Pure.arg{l l':List D}{x:D}(h:Pure P f l' x)(ha:D.weakL l=l':=by rfl):Pure P f l x:=by
 intro B σ S H w cargs hB hS hl hr;subst ha;exact h B σ S H w cargs hB hS (by grind [D.weakL_len]) fun i d v hd hv=>by obtain⟨d0,h1,rfl⟩:=QeU hd;exact(hr i d0 v h1 hv).weak
mutual
def AV.ren(ρ:Nat->Nat):AV->AV
 |.d x=> .d x
 |.agg l=> .agg (AV.renL ρ l)
 |.tup l=> .tup (AV.renL ρ l)
 |.ptr k g o=> .ptr (ρ k) g o
 |.ept k g i j=> .ept (ρ k) g i j
 |.osl k g off len=> .osl (ρ k) g off len
 |.rsl k g n=> .rsl (ρ k) g n
 |.fn f l=> .fn f (AV.renL ρ l)
 |.gh l vs=> .gh (AV.renL ρ l) vs
 |.mp k g=> .mp (ρ k) g
def AV.renL(ρ:Nat->Nat):List AV->List AV
 |[]=>[]
 |x::r=>AV.ren ρ x::AV.renL ρ r
end
theorem AV.renL_get(ρ:Nat->Nat): ∀(l:List AV) (i:Nat),(AV.renL ρ l)[i]? =l[i]?.map (AV.ren ρ)
 :=by intro l;induction l<;>grind [AV.renL]
theorem AV.renL_len(ρ:Nat->Nat): ∀(l:List AV),(AV.renL ρ l).length=l.length
 :=by intro l;induction l<;>grind [AV.renL]
theorem Qe7{l:List AV}{i:Nat}{d:AV}(h:(AV.renL ρ l)[i]? =some d): ∃d0,l[i]? =some d0/\d=d0.ren ρ:=by
 grind [AV.renL_get]
def Blk.ren(ρ:Nat->Nat):Blk->Blk
 |.row g cells=> .row g (AV.renL ρ cells)
 |x=>x
theorem Rel.up{S:Nat->Prop}{H H':List Blk}(hm: ∀i C,H[i]? =some C->H'[ρ i]? =some (C.ren ρ)/\σ' (ρ i)=σ i){x:AV}{v:AG}(h:Rel σ S H w x v):
 Rel σ' S H' w (x.ren ρ) v:=by
 induction h with
 |d x v h=>exact .d x v h
 |agg l cs hl h ih=>exact .agg _ cs (by grind [AV.renL_len]) fun i d x hd hx=>by grind [Qe7]
 |tup l cs hl h ih=>exact .tup _ cs (by grind [AV.renL_len]) fun i d x hd hx=>by grind [Qe7]
 |fn f l cs hl h ih=>exact .fn f _ cs (by grind [AV.renL_len]) fun i d x hd hx=>by grind [Qe7]
 |gh l cs u hl h ih=>exact .gh _ cs u (by grind [AV.renL_len]) fun i d x hd hx=>by grind [Qe7]
 |ptr k g o v ho g' cells hk hg h=>
  obtain⟨h1,h2⟩:=hm k _ hk;exact .ptr (ρ k) g o v ho g' _ h1 hg fun e=>by grind
 |rsl k g n v ho g' cells hk hg h=>
  obtain⟨h1,h2⟩:=hm k _ hk;exact .rsl (ρ k) g n v ho g' _ h1 hg fun e=>by grind
 |ept k g i j v ho g' sz T rows hk hg h=>
  obtain⟨h1,h2⟩:=hm k _ hk;exact .ept (ρ k) g i j v ho g' sz T rows h1 hg fun e=>by grind
 |osl k g off len v ho g' sz T rows hk hg h=>
  obtain⟨h1,h2⟩:=hm k _ hk;refine .osl (ρ k) g off len v ho g' sz T rows h1 hg fun e=>?_
  unfold OSl;rw[h2];exact h e
 |mp k g v ho g' l hk hg h=>
  obtain⟨h1,h2⟩:=hm k _ hk;exact .mp (ρ k) g v ho g' _ h1 hg fun e=>by grind
theorem Rel.down{S:Nat->Prop}{H H':List Blk}{m:Nat}(hm: ∀i,i<m-> ∃C,H[i]? =some C/\H'[ρ i]? =some (C.ren ρ)/\σ' (ρ i)=σ i){y:AV}{v:AG}(h:Rel σ' S H' w y v):
 ∀x:AV,y=x.ren ρ->x.lt m=true->Rel σ S H w x v:=by
 have lst: ∀{l0:List AV} {cs:List AG},(AV.renL ρ l0).length=cs.length->AV.ltL m l0=true->(∀(i:Nat) d x,(AV.renL ρ l0)[i]? =some d->cs[i]? =some x-> ∀z:AV,d=z.ren ρ->z.lt m=true->Rel σ S H w z x)->
  l0.length=cs.length/\ ∀(i:Nat) d x,l0[i]? =some d->cs[i]? =some x->Rel σ S H w d x:=by
  grind [AV.renL_len,AV.renL_get,AV.ltL_get]
 induction h with
 |d y v h=>intro x e hl;cases x<;>simp only[AV.ren,reduceCtorEq,AV.d.injEq] at e;subst e;exact .d _ _ h
 |agg l cs hl h ih=>
  intro x e hlt;cases x<;>simp only[AV.ren,reduceCtorEq,AV.agg.injEq] at e;subst e;obtain⟨h1,h2⟩:=lst hl (by grind [AV.lt]) ih;exact .agg _ cs h1 h2
 |tup l cs hl h ih=>
  intro x e hlt;cases x<;>simp only[AV.ren,reduceCtorEq,AV.tup.injEq] at e;subst e;obtain⟨h1,h2⟩:=lst hl (by grind [AV.lt]) ih;exact .tup _ cs h1 h2
 |fn f l cs hl h ih=>
  intro x e hlt;cases x<;>simp only[AV.ren,reduceCtorEq,AV.fn.injEq] at e;obtain⟨rfl,rfl⟩:=e;obtain⟨h1,h2⟩:=lst hl (by grind [AV.lt]) ih;exact .fn _ _ cs h1 h2
 |gh l cs u hl h ih=>
  intro x e hlt;cases x<;>simp only[AV.ren,reduceCtorEq,AV.gh.injEq] at e;obtain⟨rfl,rfl⟩:=e;obtain⟨h1,h2⟩:=lst hl (by grind [AV.lt]) ih;exact .gh _ _ u h1 h2
 |ptr k g o v ho g' cells hk hg h=>
  intro x e hlt;cases x<;>simp only[AV.ren,reduceCtorEq,AV.ptr.injEq] at e;obtain⟨rfl,rfl,rfl⟩:=e;obtain⟨C,h1,h2,h3⟩:=hm _ (by simpa[AV.lt] using hlt);rw[hk] at h2;cases C<;>simp only[Blk.ren,reduceCtorEq,A4,Blk.row.injEq] at h2;obtain⟨rfl,rfl⟩:=h2;exact .ptr _ _ _ v ho _ _ h1 hg fun e=>by grind
 |rsl k g n v ho g' cells hk hg h=>
  intro x e hlt;cases x<;>simp only[AV.ren,reduceCtorEq,AV.rsl.injEq] at e;obtain⟨rfl,rfl,rfl⟩:=e;obtain⟨C,h1,h2,h3⟩:=hm _ (by simpa[AV.lt] using hlt);rw[hk] at h2;cases C<;>simp only[Blk.ren,reduceCtorEq,A4,Blk.row.injEq] at h2;obtain⟨rfl,rfl⟩:=h2;exact .rsl _ _ _ v ho _ _ h1 hg fun e=>by grind
 |ept k g i j v ho g' sz T rows hk hg h=>
  intro x e hlt;cases x<;>simp only[AV.ren,reduceCtorEq,AV.ept.injEq] at e;obtain⟨rfl,rfl,rfl,rfl⟩:=e;obtain⟨C,h1,h2,h3⟩:=hm _ (by simpa[AV.lt] using hlt);rw[hk] at h2;cases C<;>simp only[Blk.ren,reduceCtorEq,A4,Blk.arr.injEq] at h2;obtain⟨rfl,rfl,rfl,rfl⟩:=h2;exact .ept _ _ _ _ v ho _ _ _ _ h1 hg fun e=>by grind
 |osl k g off len v ho g' sz T rows hk hg h=>
  intro x e hlt;cases x<;>simp only[AV.ren,reduceCtorEq,AV.osl.injEq] at e;obtain⟨rfl,rfl,rfl,rfl⟩:=e;obtain⟨C,h1,h2,h3⟩:=hm _ (by simpa[AV.lt] using hlt);rw[hk] at h2;cases C<;>simp only[Blk.ren,reduceCtorEq,A4,Blk.arr.injEq] at h2;obtain⟨rfl,rfl,rfl,rfl⟩:=h2;refine .osl _ _ _ _ v ho _ _ _ _ h1 hg fun e=>?_
  have:=h e;unfold OSl at this;rw[h3] at this;exact this
 |mp k g v ho g' l hk hg h=>
  intro x e hlt;cases x<;>simp only[AV.ren,reduceCtorEq,AV.mp.injEq] at e;obtain⟨rfl,rfl⟩:=e;obtain⟨C,h1,h2,h3⟩:=hm _ (by simpa[AV.lt] using hlt);rw[hk] at h2;cases C<;>simp only[Blk.ren,reduceCtorEq,A4,Blk.mp.injEq] at h2;obtain⟨rfl,rfl⟩:=h2;exact .mp _ _ v ho _ _ h1 hg fun e=>by grind
def pin1(gl:List AV)(i:Nat):Blk->Blk->Prop
 |.none,_=>True
 |.row g _,.row g' _=>g<g'∨(g=g'/\ ∃o,AV.ptr i g o∈gl)
 |.arr g sz T rows,.arr g' sz' T' rows'=>sz'=sz/\T'=T/\(g<g'∨(g=g'/\rows'.length=rows.length/\ ∃off len,AV.osl i g off len∈gl))
 |.mp g _,.mp g' _=>g<g'∨(g=g'/\AV.mp i g∈gl)
 |_,_=>False
def Does(P:AE)(f:Az)(args:List AV)(H0:List Blk)(gl:List AV)(x:AV)(H1:List Blk):Prop:=
 (∀i C,H0[i]? =some C-> ∃C',H1[i]? =some C'/\pin1 gl i C C')/\
 ∀(B:Bs) (σ:Sg) (S:Nat->Prop) (w:AT) (cargs gvs:List AG),Gd B->Sm B σ S H0 w->args.length=cargs.length->(∀(i:Nat) d v,args[i]? =some d->cargs[i]? =some v->Rel σ S H0 w d v)->
  gl.length=gvs.length->(∀(i:Nat) d v,gl[i]? =some d->gvs[i]? =some v->Rel σ S H0 w d v)->
  B3 P f cargs.toArray w fun e w'=> ∃v σ' S',e= .returned v/\Sm B σ' S' H1 w'/\Rel σ' S' H1 w' x v/\ ∀(i:Nat) d v,gl[i]? =some d->gvs[i]? =some v->Rel σ' S' H1 w' d v
def DoesE(P:AE)(f:Az)(args:List AV)(H0:List Blk)(gl:List AV)(Q0:AV->List Blk->Prop):Prop:=
 ∀(B:Bs) (σ:Sg) (S:Nat->Prop) (w:AT) (cargs gvs:List AG),Gd B->Sm B σ S H0 w->args.length=cargs.length->(∀(i:Nat) d v,args[i]? =some d->cargs[i]? =some v->Rel σ S H0 w d v)->
  gl.length=gvs.length->(∀(i:Nat) d v,gl[i]? =some d->gvs[i]? =some v->Rel σ S H0 w d v)->
  B3 P f cargs.toArray w fun e w'=> ∃x H1,Q0 x H1/\(∀i C,H0[i]? =some C-> ∃C',H1[i]? =some C'/\pin1 gl i C C')/\
   ∃v σ' S',e= .returned v/\Sm B σ' S' H1 w'/\Rel σ' S' H1 w' x v/\ ∀(i:Nat) d v,gl[i]? =some d->gvs[i]? =some v->Rel σ' S' H1 w' d v
def Does.e{x:AV}(h:Does P f args H0 gl x H1):DoesE P f args H0 gl fun y K=>y=x/\K=H1:=
 fun B σ S w cargs gvs h1 h2 h3 h4 h5 h6=>(h.2 B σ S w cargs gvs h1 h2 h3 h4 h5 h6).mono fun _ _ h7=>⟨x,H1,⟨rfl,rfl⟩,h.1,h7⟩
def rho(ks:List Nat)(m i:Nat):Nat:=match ks[i]? with
 |some k=>k
 |none=>m+(i -ks.length)
def place(ρ:Nat->Nat):List Blk->List Nat->List Blk->List Blk
 |H,[],_=>H
 |H,_::_,[]=>H
 |H,k::ks,C::Cs=>place ρ (H.set k (C.ren ρ)) ks Cs
theorem QgB(ρ:Nat->Nat): ∀(ks:List Nat) (H Cs:List Blk),(place ρ H ks Cs).length=H.length
 |[],H,Cs=>by cases Cs<;>rfl
 |_::_,H,[]=>rfl
 |k::ks,H,C::Cs=>by simp only[place];rw[QgB ρ ks];simp
theorem Qfs(ρ:Nat->Nat): ∀(ks:List Nat) (H Cs:List Blk) (k:Nat),k∉ks->(place ρ H ks Cs)[k]? =H[k]?
 |[],H,Cs,_,_=>by cases Cs<;>rfl
 |_::_,H,[],_,_=>rfl
 |k::ks,H,C::Cs,j,hj=>by
  simp only[place];rw[Qfs ρ ks _ Cs j (fun h=>hj (Aa _ h)),List.getElem?_set_ne (fun e=>hj (by grind))]
theorem Qnw(ρ:Nat->Nat): ∀(ks:List Nat) (H Cs:List Blk) (i k:Nat) (C:Blk),ks.Nodup->ks[i]? =some k->Cs[i]? =some C->k<H.length->(place ρ H ks Cs)[k]? =some (C.ren ρ)
 |[],_,_,i,k,C,_,h,_,_=>by simp at h
 |_::_,_,[],i,k,C,_,_,h,_=>by simp at h
 |k0::ks,H,C0::Cs,0,k,C,hn,h1,h2,hk=>by
  grind [place,Qfs]
 |k0::ks,H,C0::Cs,i+1,k,C,hn,h1,h2,hk=>by
  simp only[place];exact Qnw ρ ks _ Cs i k C (List.nodup_cons.1 hn).2 (by grind) (by grind) (by grind)
def AV.parts:AV->List AV
 |.agg l=> .agg l::l
 |.tup l=> .tup l::l
 |.fn f l=> .fn f l::l
 |x=>[x]
def Blk.parts:Blk->List AV
 |.row _ cells=>cells.flatMap AV.parts
 |_=>[]
theorem Qlh{S:Nat->Prop}{H:List Blk}{x y:AV}{v:AG}(h:Rel σ S H w x v)(hy:y∈x.parts): ∃u,Rel σ S H w y u:=by
 have lst: ∀{l:List AV} {cs:List AG},l.length=cs.length->(∀(i:Nat) d x,l[i]? =some d->cs[i]? =some x->Rel σ S H w d x)-> ∀y∈l,∃u,Rel σ S H w y u:=by
  intro l cs hl hr y hy;obtain⟨i,hi⟩:=A5.1 hy;have:i<cs.length:=by grind
  exact⟨_,hr i y _ hi (A1 this)⟩
 have h0:=h;cases h<;>simp only[AV.parts,List.mem_cons,Ag,or_false] at hy<;>grind
theorem QlI{S:Nat->Prop}{H:List Blk}{C:Blk}{y:AV}(h:BlkOk σ S H w k C)(hy:y∈C.parts): ∃u,Rel σ S H w y u:=by
 cases C<;>simp only[Blk.parts,Ag,AY] at hy;obtain⟨x,hx,hy⟩:=hy;rcases h with⟨b,cs,T,_,_,hr⟩|⟨_,rfl⟩
 ·obtain⟨i,hi⟩:=A5.1 hx
  obtain⟨v,_,hv⟩:=hr i x hi;exact Qlh hv hy
 grind
theorem Qff{env:List (Nat×AV)}{H:List Blk}(ks:List Nat)(hrun:DoesE P f args H0 gl Q0)
 (hcall: ∀(σ:Sg) (S:Nat->Prop) (H:List Blk) (w:AT) (a:Act),(∀u∈o.op.operands,Rel σ S H w (aval env u) (a.eval u))-> ∃cargs:List AG,(execOp a.eval o).run P w= .ok (.enter f cargs.toArray) w/\
   avs.length=cargs.length/\ ∀(i:Nat) d v,avs[i]? =some d->cargs[i]? =some v->Rel σ S H w d v)
 (hargs:avs=AV.renL (rho ks H.length) args) (hks:ks.map (fun k=>H[k]?)=(H0.map (Blk.ren (rho ks H.length))).map some) (hnd:ks.Nodup)
 (hla:AV.ltL H0.length args=true) (hlg:AV.ltL H0.length gl=true) (hlH:H0.all (Blk.lt H0.length)=true)
 (hgl: ∀g∈gl,g.ren (rho ks H.length)∈avs.flatMap AV.parts++H.flatMap Blk.parts):
 EffE P o env H (fun y K=> ∃x H1,Q0 x H1/\y=x.ren (rho ks H.length)/\K=place (rho ks H.length) H ks H1++(H1.drop ks.length).map (Blk.ren (rho ks H.length))):=by
 intro B σ S a w hB hS hop K Q kk;generalize hρ:rho ks H.length=ρ at*;have hlen:ks.length=H0.length:=by have:=congrArg Al hks;grind
 have hρk: ∀i,i<H0.length-> ∃k,ks[i]? =some k/\ρ i=k:=fun i hi=>by
  have:i<ks.length:=by omega
  exact⟨ks[i],A1 this,by rw[<-hρ];grind [rho]⟩
 have hρn: ∀i,H0.length<=i->ρ i=H.length+(i -H0.length):=fun i hi=>by
  rw[<-hρ];grind [rho]
 have hk: ∀i C,H0[i]? =some C-> ∃k,ks[i]? =some k/\ρ i=k/\H[k]? =some (C.ren ρ):=fun i C hC=>by
  obtain⟨k,h1,h2⟩:=hρk i (A9.1 hC).1;refine⟨k,h1,h2,?_⟩;have:=congrArg (fun l=>l[i]?) hks
  grind
 have hkH: ∀i k,ks[i]? =some k->k<H.length/\i<H0.length:=fun i k hi=>by
  have hi0:i<H0.length:=by grind
  obtain⟨k',h1,_,h3⟩:=hk i _ (A1 hi0)
  grind
 let own:Nat->Prop:=fun b=> ∃k∈ks,σ k=some b
 have hown: ∀b,own b->b<w.heap.size/\ ¬S b/\(B.own b∨B.w0.heap.size<=b):=fun b ⟨k,hkm,hb⟩=>by
  obtain⟨i,hi⟩:=A5.1 hkm;exact hS.σUp k b (hkH i k hi).1 hb
 have hB':Gd ⟨w,B.G,own,S⟩:=⟨hB.g,fun b hb=>by
  rcases(hown b hb).2.2 with h|h
  ·exact hB.own b h
  ·have:=Lt.size hB.lt;omega,hB.ltOf hS⟩
 have hm0: ∀i,i<H0.length-> ∃C,H0[i]? =some C/\H[ρ i]? =some (C.ren ρ)/\σ (ρ i)=(fun i=>σ (ρ i)) i:=fun i hi=>by
  obtain⟨k,h1,h2,h3⟩:=hk i _ (A1 hi)
  grind
 have hinj: ∀i j k,ks[i]? =some k->ks[j]? =some k->i=j:=fun i j k hi hj=>by
  have h1:=(A9.1 hi);have h2:=(A9.1 hj);obtain⟨hi',e1⟩:=h1;obtain⟨hj',e2⟩:=h2;have hp:=List.pairwise_iff_getElem.1 hnd
  grind
 have hS0:Sm ⟨w,B.G,own,S⟩ (fun i=>σ (ρ i)) S H0 w:=by
  refine⟨rfl,rfl,rfl,AW _,fun _ _ _=>rfl,fun _ h=>h,fun b hb=>⟨(hS.sUp b hb).1,.inl hb⟩,fun i b hi hb=>?_,fun i j b hi hj hb hb'=>?_,fun i C hC=>?_⟩
  ·grind
  ·obtain⟨k,h1,h2⟩:=hρk i hi
   obtain⟨k',h1',h2'⟩:=hρk j hj;simp only[h2,h2'] at hb hb';have:=hS.inj k k' b (hkH i k h1).1 (hkH j k' h1').1 hb hb'
   grind
  ·obtain⟨k,h1,h2,h3⟩:=hk i C hC
   have hb:=hS.blk k _ h3;have hlt:=Ah.1 hlH C (Ab hC);cases C with
   |none=>show σ (ρ i)=none;rw[h2];exact hb
   |row g cells=>
    rcases hb with⟨b,cs,T,hb,hc,hr⟩|⟨hb,hc⟩
    ·refine .inl ⟨b,cs,T,by grind,hc,fun j y hy=>?_⟩
     obtain⟨u,hu,hr'⟩:=hr j (y.ren ρ) (by rw[AV.renL_get,hy];rfl);exact⟨u,hu,hr'.down hm0 y rfl (AV.ltL_get hlt hy)⟩
    ·refine .inr ⟨by grind,?_⟩
     cases cells with
     |nil=>rfl
     |cons=>simp[AV.renL] at hc
   |arr g sz T rows=>
    refine⟨hb.1,?_⟩;show(∃b cs,σ (ρ i)=some b/\_)∨(σ (ρ i)=none/\_);rw[h2];exact hb.2
   |mp g l=>show(∃b es clock,σ (ρ i)=some b/\_)∨(σ (ρ i)=none/\_);rw[h2];exact hb
 obtain⟨cargs,hc1,hc2,hc3⟩:=hcall σ S H w a hop
 have havs: ∀y∈avs.flatMap AV.parts++H.flatMap Blk.parts,∃u,Rel σ S H w y u:=by
  intro y hy;rcases List.mem_append.1 hy with hy|hy
  ·obtain⟨z,hz,hy⟩:=AY.1 hy
   obtain⟨i,hi⟩:=A5.1 hz;have:i<cargs.length:=by grind
   exact Qlh (hc3 i z _ hi (A1 this)) hy
  ·obtain⟨C,hC,hy⟩:=AY.1 hy
   obtain⟨k,hk'⟩:=A5.1 hC;exact QlI (hS.blk k C hk') hy
 obtain⟨gvs,hg1,hg2⟩: ∃gvs:List AG,gl.length=gvs.length/\ ∀(i:Nat) d v,gl[i]? =some d->gvs[i]? =some v->Rel (fun i=>σ (ρ i)) S H0 w d v:=by
  have: ∀(l:List AV),(∀g∈l,g∈gl)-> ∃gvs:List AG,l.length=gvs.length/\ ∀(i:Nat) d v,l[i]? =some d->gvs[i]? =some v->Rel (fun i=>σ (ρ i)) S H0 w d v:=by
   intro l;induction l with
   |nil=>intro _;exact⟨[],rfl,fun i d v h=>by simp at h⟩
   |cons g r ih=>
    intro hm;obtain⟨gvs,h1,h2⟩:=ih fun g hg=>hm g (Aa _ hg)
    have hg:=hm g List.mem_cons_self;obtain⟨u,hu⟩:=havs _ (hgl g hg);obtain⟨j,hj⟩:=A5.1 hg;refine⟨u::gvs,by simp[h1],fun i d v hd hv=>?_⟩;cases i with
    |zero=>simp at hd hv;subst hd;subst hv;exact hu.down hm0 _ rfl (AV.ltL_get hlg hj)
    |succ i=>grind
  exact this gl fun _ h=>h
 unfold Ax;rw[hc1,AS];refine(hrun ⟨w,B.G,own,S⟩ (fun i=>σ (ρ i)) S w cargs gvs hB' hS0 (by grind [AV.renL_len]) (fun i d v hd hv=>?_) hg1 hg2).mono ?_
 ·exact(hc3 i (d.ren ρ) v (by grind [AV.renL_get]) hv).down hm0 d rfl (AV.ltL_get hla hd)
 rintro e w' ⟨x,H1,hq0,hpin,v,σ1,S1,rfl,hS1,hR1,hG1⟩
 have hlen1:H0.length<=H1.length:=by
  grind
 have kk:=kk _ _ ⟨x,H1,hq0,rfl,rfl⟩;generalize hH':place ρ H ks H1++(H1.drop ks.length).map (Blk.ren ρ)=H' at kk⊢;have hH'len:H'.length=H.length+(H1.length -H0.length):=by grind [QgB]
 let σ':Sg:=fun k=>match ks.idxOf? k with
  |some i=>σ1 i
  |none=>if k<H.length then σ k else σ1 (H0.length+(k -H.length))
 have hidx: ∀i k,ks[i]? =some k->ks.idxOf? k=some i:=fun i k hi=>by
  have hex: ∃j,ks.idxOf? k=some j:=by
   cases hx:ks.idxOf? k with
   |some j=>grind
   |none=>grind
  obtain⟨j,hj⟩:=hex
  have:ks[j]? =some k:=by
   have:=List.findIdx?_eq_some_iff_getElem.1 (show ks.findIdx? (· ==k)=some j from hj)
   grind
  grind
 have hidn: ∀k,k∉ks->ks.idxOf? k=none:=fun k hk=>List.idxOf?_eq_none_iff.2 hk
 have hσk: ∀i,i<H0.length->σ' (ρ i)=σ1 i:=fun i hi=>by
  grind
 have hσn: ∀i,H0.length<=i->σ' (ρ i)=σ1 i:=fun i hi=>by
  have hnot:ρ i∉ks:=fun hm=>by
   obtain⟨j,hj⟩:=A5.1 hm
   grind
  show(match ks.idxOf? (ρ i) with|some i=>σ1 i|none=>_)=_;rw[hidn _ hnot];simp only;rw[hρn i hi,if_neg (by omega)]
  congr 1;omega
 have hσ1: ∀i,σ' (ρ i)=σ1 i:=fun i=>by
  grind
 have hσo: ∀k,k<H.length->k∉ks->σ' k=σ k:=fun k hk hn=>by
  grind
 have hm1: ∀i C,H1[i]? =some C->H'[ρ i]? =some (C.ren ρ)/\σ' (ρ i)=σ1 i:=fun i C hC=>by
  refine⟨?_,hσ1 i⟩;rcases Nat.lt_or_ge i H0.length with hi|hi
  ·obtain⟨k,h1,h2⟩:=hρk i hi
   grind [AU,Qnw]
  ·rw[hρn i hi,<-hH',List.getElem?_append_right (by grind),QgB,AL,Ad,hlen]
   have:H0.length+(H.length+(i -H0.length) -H.length)=i:=by omega
   grind
 have hother: ∀k C,k<H.length->k∉ks->(H'[k]? =some C↔H[k]? =some C):=fun k C hk hn=>by
  grind [AU,Qfs]
 have hkeep: ∀b,b<w.heap.size-> ¬own b->w'.heap[b]? =w.heap[b]? :=hS1.keep
 have hnown: ∀k b,k<H.length->k∉ks->σ k=some b-> ¬own b:=fun k b hk hn hb ⟨k',hk',hb'⟩=>by
  obtain⟨i,hi⟩:=A5.1 hk';have:=hS.inj k k' b hk (hkH i k' hi).1 hb hb'
  grind
 have hgp: ∀{i:Nat} {d:AV},d∈gl-> ∃u,Rel (fun i=>σ (ρ i)) S H0 w d u/\Rel σ1 S1 H1 w' d u:=fun{i d} hd=>by
  obtain⟨j,hj⟩:=A5.1 hd;have hlt:j<gvs.length:=by grind
  exact⟨gvs[j],hg2 j d _ hj (A1 hlt),hG1 j d _ hj (A1 hlt)⟩
 have hev:Ev σ S H w σ' S1 H' w':=by
  have base: ∀k C,H[k]? =some C->(k∉ks/\H'[k]? =some C/\σ' k=σ k/\ ∀b,σ k=some b->w'.heap[b]? =w.heap[b]?)∨
   ∃i C0 C1,ρ i=k/\H0[i]? =some C0/\C=C0.ren ρ/\H1[i]? =some C1/\pin1 gl i C0 C1/\H'[k]? =some (C1.ren ρ)/\σ' k=σ1 i:=fun k C hC=>by
   have hkl:=(A9.1 hC).1
   by_cases hm:k∈ks
   ·obtain⟨i,hi⟩:=A5.1 hm
    have hi0:=(hkH i k hi).2;obtain⟨k',h1,h2,h3⟩:=hk i _ (A1 hi0);rw[hi] at h1;obtain rfl:=A6 h1;obtain⟨C1,h4,h5⟩:=hpin i _ (A1 hi0)
    grind
   ·exact .inl ⟨hm,(hother k C hkl hm).2 hC,hσo k hkl hm,fun b hb=>hkeep b (hS.σUp k b hkl hb).1 (hnown k b hkl hm hb)⟩
  refine⟨hS1.sLo,fun b hb=>hkeep b (hS.sUp b hb).1 fun ho=>(hown b ho).2.1 hb,fun k g cells hC=>?_,fun k g sz T rows hC=>?_,fun k g l hC=>?_⟩
  ·rcases base k _ hC with⟨_,h1,h2,_⟩|⟨i,C0,C1,h1,h2,h3,h4,h5,h6,h7⟩
   ·grind
   ·cases C0<;>simp only[Blk.ren,reduceCtorEq,Blk.row.injEq] at h3
    obtain⟨rfl,rfl⟩:=h3;cases C1<;>simp only[pin1] at h5;rename_i g' cells';refine⟨g',_,h6,by omega,fun e b hb=>?_⟩;subst e;rcases h5 with h5|⟨_,o,h5⟩
    ·omega
    ·obtain⟨u,hu,hu'⟩:=hgp (i:=0) h5
     cases hu with
     |ptr _ _ _ _ ho g2 c2 hk2 hg2 hh2=>
      cases hu' with
      |ptr _ _ _ _ ho3 g3 c3 hk3 hg3 hh3=>
       rw[h2] at hk2;rw[h4] at hk3;simp only[A4,Blk.row.injEq] at hk2 hk3;obtain⟨b1,e1,e2⟩:=hh2 hk2.1.symm;obtain⟨b2,e3,e4⟩:=hh3 hk3.1.symm
       grind
  ·rcases base k _ hC with⟨_,h1,h2,h3⟩|⟨i,C0,C1,h1,h2,h3,h4,h5,h6,h7⟩
   ·grind
   ·cases C0<;>simp only[Blk.ren,reduceCtorEq,Blk.arr.injEq] at h3
    obtain⟨rfl,rfl,rfl,rfl⟩:=h3;cases C1<;>simp only[pin1] at h5;rename_i g' sz' T' rows';obtain⟨rfl,rfl,h5⟩:=h5;refine⟨g',rows',h6,by omega,fun e=>?_⟩;subst e;rcases h5 with h5|⟨_,h8,off,len,h5⟩
    ·omega
    ·obtain⟨u,hu,hu'⟩:=hgp (i:=0) h5
     cases hu with
     |osl _ _ _ _ _ ho g2 s2 t2 c2 hk2 hg2 hh2=>
      cases hu' with
      |osl _ _ _ _ _ ho3 g3 s3 t3 c3 hk3 hg3 hh3=>
       rw[h2] at hk2;rw[h4] at hk3;simp only[A4,Blk.arr.injEq] at hk2 hk3;obtain⟨_,e1⟩:=hh2 hk2.1.symm;obtain⟨_,e2⟩:=hh3 hk3.1.symm;simp only[h1] at e1;obtain⟨q1,q2,q3,q4⟩:=hk2;obtain⟨p1,p2,p3,p4⟩:=hk3;subst q2;subst p2;rw[h7];rcases e1 with⟨b1,cap1,cs1,T1,a1,a2,a3,a4,a5,a6⟩|⟨a1,a2,a3⟩<;>rcases e2 with⟨b2,cap2,cs2,T2,d1,d2,d3,d4,d5,d6⟩|⟨d1,d2,d3⟩
       ·rw[a4] at d4
        simp only[B5,A4,Addr.mk.injEq] at d4;obtain⟨⟨f1,_⟩,_,f2⟩:=d4;subst f1;subst f2;refine⟨d1.trans a1.symm,h8,fun b cs T hb hc=>?_⟩;rw[a1] at hb;obtain rfl:=A6 hb;rw[a5] at hc;simp only[A4,Obj.cells.injEq] at hc;obtain⟨rfl,rfl,_⟩:=hc;have hb1:=hS1.blk i _ h4;have hb0:=hS.blk k _ hC;rcases hb1.2 with⟨b3,cs3,k1,k2,_⟩|⟨k1,_⟩;rotate_left
        ·grind
        rcases hb0.2 with⟨b4,cs4,m1,m2,_⟩|⟨m1,_⟩;rotate_left
        ·grind
        grind
       ·grind
       ·grind
       grind
  ·rcases base k _ hC with⟨_,h1,h2,_⟩|⟨i,C0,C1,h1,h2,h3,h4,h5,h6,h7⟩
   ·grind
   ·cases C0<;>simp only[Blk.ren,reduceCtorEq,Blk.mp.injEq] at h3
    obtain⟨rfl,rfl⟩:=h3;cases C1<;>simp only[pin1] at h5;rename_i g' l';refine⟨g',_,h6,by omega,fun e b hb=>?_⟩;subst e;rcases h5 with h5|⟨_,h5⟩
    ·omega
    ·obtain⟨u,hu,hu'⟩:=hgp (i:=0) h5
     cases hu with
     |mp _ _ _ ho g2 c2 hk2 hg2 hh2=>
      cases hu' with
      |mp _ _ _ ho3 g3 c3 hk3 hg3 hh3=>
       rw[h2] at hk2;rw[h4] at hk3;simp only[A4,Blk.mp.injEq] at hk2 hk3;obtain⟨b1,e1,e2⟩:=hh2 hk2.1.symm;obtain⟨b2,e3,e4⟩:=hh3 hk3.1.symm
       grind
 have hsz:=hS1.size;have hsz0:=hS.size
 have hcase: ∀k,k<H'.length->(k<H.length/\k∉ks)∨ ∃i,i<H1.length/\ρ i=k:=fun k hk'=>by
  by_cases hkl:k<H.length
  ·by_cases hm:k∈ks
   ·obtain⟨i,hi⟩:=A5.1 hm
    have hi0:=(hkH i k hi).2;obtain⟨k',h1,h2⟩:=hρk i hi0
    grind
   grind
  ·refine .inr ⟨H0.length+(k -H.length),by omega,?_⟩
   grind
 have hup1: ∀i b,i<H1.length->σ1 i=some b->b<w'.heap.size/\ ¬S1 b/\(own b∨w.heap.size<=b):=fun i b hi hb=>hS1.σUp i b hi hb
 have hoS1: ∀k b,k<H.length->k∉ks->σ k=some b-> ¬S1 b:=fun k b hk hn hb hs=>by
  obtain⟨h1,h2,_⟩:=hS.σUp k b hk hb;rcases(hS1.sUp b hs).2 with h|h|h
  ·exact h2 h
  ·exact hnown k b hk hn hb h
  grind
 refine kk v w' σ' S1 ?_ (hR1.up hm1) hev;refine⟨hS1.os.trans hS.os,hS1.tape.trans hS.tape,hS1.output.trans hS.output,Nat.le_trans hS.size hS1.size,fun b hb hn=>?_,fun b hb=>hS1.sLo b (hS.sLo b hb),fun b hb=>?_,fun k b hk' hb=>?_,fun k k' b hk1 hk2 hb hb'=>?_,fun k C hC=>?_⟩
 ·refine(hkeep b (by omega) fun ho=>?_).trans (hS.keep b hb hn)
  grind
 ·obtain⟨h1,h2⟩:=hS1.sUp b hb
  refine⟨h1,?_⟩;rcases h2 with h2|h2|h2
  ·exact(hS.sUp b h2).2
  ·grind
  grind
 ·rcases hcase k hk' with⟨h1,h2⟩|⟨i,h1,rfl⟩
  ·rw[hσo k h1 h2] at hb
   obtain⟨h3,_,h5⟩:=hS.σUp k b h1 hb
   grind
  grind
 ·have cross: ∀k i b,k<H.length->k∉ks->i<H1.length->σ k=some b->σ1 i=some b->False:=fun k i b h1 h2 h3 h4 h5=>by
   rcases(hup1 i b h3 h5).2.2 with h|h
   ·exact hnown k b h1 h2 h4 h
   ·have:=(hS.σUp k b h1 h4).1;omega
  rcases hcase k hk1 with⟨h1,h2⟩|⟨i,h1,rfl⟩<;>rcases hcase k' hk2 with⟨h3,h4⟩|⟨j,h3,rfl⟩
  ·rw[hσo k h1 h2] at hb;rw[hσo k' h3 h4] at hb'
   exact hS.inj k k' b h1 h3 hb hb'
  ·grind
  ·grind
  ·rw[hσ1] at hb hb'
   rw[hS1.inj i j b h1 h3 hb hb']
 ·rcases hcase k (A9.1 hC).1 with⟨h1,h2⟩|⟨i,h1,rfl⟩
  ·exact(hS.blk k C ((hother k C h1 h2).1 hC)).mono hev (hσo k h1 h2) fun b hb=>hkeep b (hS.σUp k b h1 hb).1 (hnown k b h1 h2 hb)
  ·obtain⟨h3,h4⟩:=hm1 i _ (A1 h1)
   rw[h3] at hC;obtain rfl:=A6 hC;have hb:=hS1.blk i _ (A1 h1);generalize H1[i]=C1 at*;cases C1 with
   |none=>exact h4.trans hb
   |row g cells=>
    rcases hb with⟨b,cs,T,hb,hc,hr⟩|⟨hb,rfl⟩
    ·refine .inl ⟨b,cs,T,h4.trans hb,hc,fun j y hy=>?_⟩
     obtain⟨y0,hy0,rfl⟩:=Qe7 hy;obtain⟨u,hu,hr'⟩:=hr j y0 hy0;exact⟨u,hu,hr'.up hm1⟩
    ·exact .inr ⟨h4.trans hb,rfl⟩
   |arr g sz T rows=>
    refine⟨hb.1,?_⟩;rw[h4];exact hb.2
   |mp g l=>show(∃b es clock,σ' (ρ i)=some b/\_)∨(σ' (ρ i)=none/\_);rw[h4];exact hb
theorem QhR{env:List (Nat×AV)}{H:List Blk}{x:AV}(ks:List Nat)(h:Does P f args H0 gl x H1)
 (hcall: ∀(σ:Sg) (S:Nat->Prop) (H:List Blk) (w:AT) (a:Act),(∀u∈o.op.operands,Rel σ S H w (aval env u) (a.eval u))-> ∃cargs:List AG,(execOp a.eval o).run P w= .ok (.enter f cargs.toArray) w/\
   avs.length=cargs.length/\ ∀(i:Nat) d v,avs[i]? =some d->cargs[i]? =some v->Rel σ S H w d v)
 (hargs:avs=AV.renL (rho ks H.length) args) (hks:ks.map (fun k=>H[k]?)=(H0.map (Blk.ren (rho ks H.length))).map some) (hnd:ks.Nodup)
 (hla:AV.ltL H0.length args=true) (hlg:AV.ltL H0.length gl=true) (hlH:H0.all (Blk.lt H0.length)=true)
 (hgl: ∀g∈gl,g.ren (rho ks H.length)∈avs.flatMap AV.parts++H.flatMap Blk.parts):
 Eff P o env H (x.ren (rho ks H.length)) (place (rho ks H.length) H ks H1++(H1.drop ks.length).map (Blk.ren (rho ks H.length))):=by
 intro B σ S a w hB hS hop K Q kk;refine Qff ks h.e hcall hargs hks hnd hla hlg hlH hgl B σ S a w hB hS hop K Q ?_
 grind
def parA:Nat->List AV->List (Nat×AV)
 |_,[]=>[]
 |i,d::r=>(i,d)::parA (i+1) r
theorem QgE: ∀(l:List AV) (i t:Nat),(∃d,i<=t/\l[t -i]? =some d/\look (parA i l) t=d)∨look (parA i l) t= .d .any
 |[],_,_=> .inr rfl
 |d::r,i,t=>by
  by_cases h:i=t
  ·subst h;exact .inl ⟨d,AW _,by simp,Qdl _ _ _⟩
  ·have hl:look (parA i (d::r)) t=look (parA (i+1) r) t:=Qdr h _ _
   rw[hl];rcases QgE r (i+1) t with⟨d',h1,h2,h3⟩|h
   ·grind
   grind
def allR(env:List (Nat×AV)):List AK->Option (List AV)
 |[]=>some []
 |.tmp t::r=>(allR env r).map (look env t:: ·)
 |.cell _ _::_=>none
def resA(env:List (Nat×AV)):List AK->Option AV
 |[.tmp t]=>some (look env t)
 |rs=>(allR env rs).map .tup
abbrev gslot:Nat:=1000000
def EndA(rs:List AK)(x:AV)(H1:List Blk)(gl:List AV)(gvs:List AG):AP->St->Prop
 |.normal,s| .ret,s=>resA s.env rs=some x/\s.H=H1/\look s.env gslot= .gh gl gvs
 |_,_=>False
theorem QfB(tmps:Array AG)(w:AT): ∀(rs:List AK) (env:List (Nat×AV)) (ds:List AV),allR env rs=some ds->
 (rs.mapM (rvS tmps)).run P w= .ok (rs.map (rvV tmps)) w/\ds.length=rs.length/\ ∀(i:Nat) d v,ds[i]? =some d->(rs.map (rvV tmps))[i]? =some v-> ∃t,d=look env t/\v=tmps.getD t undef
 |[],_,ds,h=>by obtain rfl:=A6 h;simp
 |.tmp t::rs,env,ds,h=>by
  obtain⟨ds',h1,rfl⟩:=A0.1 h;obtain⟨h2,h3,h4⟩:=QfB tmps w rs env ds' h1;refine⟨?_,by simp[h3],fun i d v hd hv=>?_⟩
  ·rw[List.mapM_cons,A3]
   show((Sem.pure (tmps.getD t undef)).run P w).andThen _=_;rw[Aq,A8,A3,h2,A8,Sem.run_pure];rfl
  grind [rvV]
 |.cell _ _::rs,env,ds,h=>by simp[allR] at h
def EndE(H0:List Blk)(rs:List AK)(Q0:AV->List Blk->Prop)(gl:List AV)(gvs:List AG):AP->St->Prop
 |.normal,s| .ret,s=> ∃x,resA s.env rs=some x/\Q0 x s.H/\(∀i C,H0[i]? =some C-> ∃C',s.H[i]? =some C'/\pin1 gl i C C')/\look s.env gslot= .gh gl gvs
 |_,_=>False
theorem QlC{fn:Func}{n:Nat}(hf:P.funcs[f]? =some fn)(hb:fn.body=some c)(hn:fn.ntmps=n)(hrs:fn.results=rs.toArray)(hle:AO args.length n=true)
 (hn2:AO n gslot=true)
 (h: ∀gvs,AWP P c (EndE H0 rs Q0 gl gvs) ⟨n,(gslot,.gh gl gvs)::parA 0 args,H0⟩):DoesE P f args H0 gl Q0:=by
 have hlen:args.length<=n:=AC hle;have hn2:n<=gslot:=AC hn2;intro B σ S w cargs gvs hB hS hl hr hgl hgr;refine calls_of_wp hf hb ?_
 have hA:SmA B σ S ⟨n,(gslot,.gh gl gvs)::parA 0 args,H0⟩ {tmps:=cargs.toArray++AH (fn.ntmps -cargs.toArray.size) undef,defers:=[]} w:=by
  refine⟨hS,rfl,?_,fun t=>?_⟩
  ·grind
  ·by_cases ht:gslot=t
   ·subst ht
    show Rel σ S H0 w (look ((gslot,.gh gl gvs)::parA 0 args) gslot) _;rw[Qdl];exact .gh _ _ _ hgl hgr
   show Rel σ S H0 w (look ((gslot,.gh gl gvs)::parA 0 args) t) _;rw[Qdr ht];rcases QgE args 0 t with⟨d,_,h2,h3⟩|h
   ·rw[h3]
    have ht:t<cargs.length:=by grind
    have:(cargs.toArray++AH (fn.ntmps -cargs.toArray.size) undef).getD t undef=cargs[t]:=by
     rw[AM,AN (by omega)];simp[ht]
    show Rel σ S H0 w d ((cargs.toArray++AH (fn.ntmps -cargs.toArray.size) undef).getD t undef);rw[this];exact hr t d _ (by omega) (A1 ht)
   ·rw[h];exact .d _ _ (.any _)
 refine wp_mono (h gvs _ hB _ _ _ _ hA) ?_;rintro e a w' ⟨s',σ',S',hq,hA'⟩
 have fin:(∃x,resA s'.env rs=some x/\Q0 x s'.H/\(∀i C,H0[i]? =some C-> ∃C',s'.H[i]? =some C'/\pin1 gl i C C')/\look s'.env gslot= .gh gl gvs)->a.defers=[]/\ ∃v,(results fn a.tmps).run P w'= .ok v w'/\
  ∃x H1,Q0 x H1/\(∀i C,H0[i]? =some C-> ∃C',H1[i]? =some C'/\pin1 gl i C C')/\ ∃v' σ' S',AZ v= .returned v'/\Sm B σ' S' H1 w'/\Rel σ' S' H1 w' x v'/\ ∀(i:Nat) d v,gl[i]? =some d->gvs[i]? =some v->Rel σ' S' H1 w' d v:=by
  rintro⟨x,hx,hQ,hpin,hg⟩;refine⟨hA'.defers,?_⟩
  have hgh: ∀(i:Nat) d v,gl[i]? =some d->gvs[i]? =some v->Rel σ' S' s'.H w' d v:=by
   have:=hA'.env gslot;rw[hg] at this;cases this with
   |gh _ _ _ h1 h2=>exact h2
  have hsm:=hA'.sm;have henv:=hA'.env
  have gen: ∀ds,allR s'.env rs=some ds->(fn.results.mapM (rvS a.tmps)).run P w'= .ok (rs.map (rvV a.tmps)).toArray w':=fun ds hds=>by
   rw[hrs,Array.mapM_eq_mapM_toList,Sem.run_map,(QfB a.tmps w' rs s'.env ds hds).1];rfl
  rw[QeX]
  by_cases h1:rs.length=1
  ·match rs,h1 with
   |[.tmp t],_=>
    obtain rfl:=A6 hx;refine⟨a.tmps.getD t undef,?_,_,_,hQ,hpin,_,σ',S',rfl,hsm,henv t,hgh⟩;rw[A3,gen [look s'.env t] rfl];rfl
   |[.cell _ _],_=>simp[resA,allR] at hx
  ·have hx':(allR s'.env rs).map AV.tup=some x:=by
    unfold resA at hx
    grind
   obtain⟨ds,hds,rfl⟩:=A0.1 hx';obtain⟨_,h3,h4⟩:=QfB (P:=P) a.tmps w' rs s'.env ds hds;refine⟨.tuple (rs.map (rvV a.tmps)).toArray,?_,_,_,hQ,hpin,_,σ',S',rfl,hsm,.tup ds _ (by simp[h3]) fun i d v hd hv=>?_,hgh⟩
   ·simp_all
   grind
 cases e with
 |normal=>exact fin hq
 |ret=>exact fin hq
 |_=>exact hq.elim
theorem QmS{fn:Func}{x:AV}{n:Nat}(hf:P.funcs[f]? =some fn)(hb:fn.body=some c)(hn:fn.ntmps=n)(hrs:fn.results=rs.toArray)(hle:AO args.length n=true)
 (hn2:AO n gslot=true) (hpin: ∀i C,H0[i]? =some C-> ∃C',H1[i]? =some C'/\pin1 gl i C C')
 (h: ∀gvs,AWP P c (EndA rs x H1 gl gvs) ⟨n,(gslot,.gh gl gvs)::parA 0 args,H0⟩):Does P f args H0 gl x H1:=by
 refine⟨hpin,fun B σ S w cargs gvs h1 h2 h3 h4 h5 h6=>(QlC (Q0:=fun y K=>y=x/\K=H1) hf hb hn hrs hle hn2 (fun gvs=>?_) B σ S w cargs gvs h1 h2 h3 h4 h5 h6).mono ?_⟩
 ·intro B hB σ S a w hA
  refine wp_mono (h gvs B hB σ S a w hA) ?_;rintro e a w ⟨s',σ',S',hq,hA'⟩;refine⟨s',σ',S',?_,hA'⟩;cases e with
  |normal=>exact⟨x,hq.1,⟨rfl,hq.2.1⟩,fun i C hC=>by rw[hq.2.1];grind,hq.2.2⟩
  |ret=>exact⟨x,hq.1,⟨rfl,hq.2.1⟩,fun i C hC=>by rw[hq.2.1];grind,hq.2.2⟩
  |_=>exact hq.elim
 grind
theorem Qec{dst:Option Ay}{ty:AD}{pos:String}{after:Array Am}{gd:Option (Nat×Bool)}{env:List (Nat×AV)}
 (hf: ∀args w,(callFunc f args).run P w= .ok (.enter f args) w) (σ:Sg) (S:Nat->Prop) (H:List Blk) (w:AT) (a:Act) (hop: ∀u∈(⟨dst,.call ⟨.value (.func f),xs,tys⟩,ty,pos,after,gd⟩:AR).op.operands,Rel σ S H w (aval env u) (a.eval u)):
 ∃cargs:List AG,(execOp a.eval ⟨dst,.call ⟨.value (.func f),xs,tys⟩,ty,pos,after,gd⟩).run P w= .ok (.enter f cargs.toArray) w/\
  (xs.toList.map (aval env)).length=cargs.length/\ ∀(i:Nat) d v,(xs.toList.map (aval env))[i]? =some d->cargs[i]? =some v->Rel σ S H w d v:=by
 refine⟨xs.toList.map a.eval,?_,by simp,fun i d v hd hv=>?_⟩
 ·have:execOp a.eval ⟨dst,.call ⟨.value (.func f),xs,tys⟩,ty,pos,after,gd⟩=callFunc f (#[]++xs.map a.eval++ #[]):=rfl
  rw[this,hf]
  congr 2
  apply B2;simp
 grind [A2,AF]
theorem QnW{dst:Option Ay}{ty:AD}{pos:String}{after:Array Am}{gd:Option (Nat×Bool)}{env:List (Nat×AV)}
 (hf: ∀args w,(callFunc f args).run P w= .ok (.enter f args) w) (ht:look env t= .fn (.func f) caps) (σ:Sg) (S:Nat->Prop) (H:List Blk) (w:AT) (a:Act)
 (hop: ∀u∈(⟨dst,.call ⟨.value (.tmp t),xs,tys⟩,ty,pos,after,gd⟩:AR).op.operands,Rel σ S H w (aval env u) (a.eval u)):
 ∃cargs:List AG,(execOp a.eval ⟨dst,.call ⟨.value (.tmp t),xs,tys⟩,ty,pos,after,gd⟩).run P w= .ok (.enter f cargs.toArray) w/\
  (xs.toList.map (aval env)++caps).length=cargs.length/\ ∀(i:Nat) d v,(xs.toList.map (aval env)++caps)[i]? =some d->cargs[i]? =some v->Rel σ S H w d v:=by
 have h1:=hop (.tmp t) (by simp[A2,AF]);have h2: ∀u∈xs.toList,Rel σ S H w (aval env u) (a.eval u):=fun u hu=>hop u (by grind [A2,AF])
 change Rel σ S H w (look env t) (a.eval (.tmp t)) at h1
 rw[ht] at h1;generalize hv:a.eval (.tmp t)=v0 at h1;cases h1 with
 |fn _ _ cs hl hr=>
  refine⟨xs.toList.map a.eval++cs,?_,by simp[hl],fun i d v hd hv=>?_⟩
  ·have:execOp a.eval ⟨dst,.call ⟨.value (.tmp t),xs,tys⟩,ty,pos,after,gd⟩=callFunc f (#[]++xs.map a.eval++cs.toArray):=by
    show(do let d<-Deferred.ofValue (a.eval (.tmp t)) (xs.map a.eval);invoke d.target d.args:Sem Next)=_;rw[hv];rfl
   simp_all
  grind
def AV.ice(H:List Blk):Nat->AV->D
 |0,_=> .any
 |_+1,.d x=>x
 |n+1,.agg l=> .agg (l.map (AV.ice H n))
 |n+1,.tup l=> .tup (l.map (AV.ice H n))
 |n+1,.ptr k g o=>match H[k]? with
  |some (.row g' cells)=>if g=g' then .pd ((cells.drop o).map (AV.ice H n)) else .any
  |_=> .any
 |_+1,.osl k g off len=>match H[k]? with
  |some (.arr g' sz _ rows)=>if g=g' then .sl true sz ((rows.drop off).take len) else .any
  |_=> .any
 |_+1,.mp k g=>match H[k]? with
  |some (.mp g' l)=>if g=g' then .mp l else .any
  |_=> .any
 |_+1,_=> .any
mutual
def D.flat:D->Bool
 |.v _=>true
 |.any=>true
 |.agg l=>D.flatL l
 |.tup l=>D.flatL l
 |_=>false
def D.flatL:List D->Bool
 |[]=>true
 |x::r=>D.flat x&&D.flatL r
end
theorem D.flatL_get: ∀{l:List D} {i:Nat} {x:D},D.flatL l=true->l[i]? =some x->x.flat=true
 :=by intro l;induction l<;>grind [D.flatL]
theorem RelD.flat{S S':Nat->Prop}{w':AT}{d:D}{x:AG}(h:RelD S w d x):d.flat=true->RelD S' w' d x:=by
 induction h with
 |any x=>exact fun _=> .any x
 |v x=>exact fun _=> .v x
 |agg l cs hl h ih=>exact fun hf=> .agg l cs hl fun i d x hd hx=>ih i d x hd hx (D.flatL_get (by grind [D.flat]) hd)
 |tup l cs hl h ih=>exact fun hf=> .tup l cs hl fun i d x hd hx=>ih i d x hd hx (D.flatL_get (by grind [D.flat]) hd)
 |_=>grind [D.flat]
theorem Qhm{B:Bs}{σ:Sg}{S:Nat->Prop}{H H':List Blk}{w:AT}(hS:Sm B σ S H' w)(hag:Agree H H'): ∀(n:Nat) (x:AV) (v:AG),Rel σ S H' w x v->RelD (fun b=>S b∨ ∃k,k<H'.length/\σ k=some b) w (x.ice H n) v
 |0,x,v,_=> .any v
 |n+1,x,v,hR=>by
  have hin: ∀k C b,H'[k]? =some C->σ k=some b->(S b∨ ∃k,k<H'.length/\σ k=some b):=fun k C b hk hb=> .inr ⟨k,(A9.1 hk).1,hb⟩
  cases hR with
  |d x v h=>exact h.mono (fun b hb=> .inl hb) fun _ _=>rfl
  |agg l cs hl h=>
   refine .agg _ cs (by grind) fun i d x hd hx=>?_
   rw[AL] at hd;obtain⟨y,hy,rfl⟩:=A0.1 hd;exact Qhm hS hag n y x (h i y x hy hx)
  |tup l cs hl h=>
   refine .tup _ cs (by grind) fun i d x hd hx=>?_
   rw[AL] at hd;obtain⟨y,hy,rfl⟩:=A0.1 hd;exact Qhm hS hag n y x (h i y x hy hx)
  |fn f l cs hl h=>exact .any _
  |gh l cs u hl h=>exact .any _
  |ept k g i j v ho g' sz T rows hk hg hh=>exact .any _
  |rsl k g n v ho g' cells hk hg hh=>exact .any _
  |ptr k g o v ho g' cells hk hg hh=>
   simp only[AV.ice];split;rotate_left
   ·exact .any _
   rename_i g2 cells2 hk2;split;rotate_left
   ·exact .any _
   rename_i e;subst e
   have e2:cells2=cells/\g'=g:=by
    rcases hag k _ hk2 with h|h<;>rw[hk] at h<;>simp at h
    grind
   obtain⟨rfl,rfl⟩:=e2;obtain⟨b,hb,rfl⟩:=hh rfl;rcases hS.blk k _ hk with⟨b',cs,T,hb',hc,hr⟩|⟨hb',_⟩;rotate_left
   ·grind
   rw[hb] at hb';obtain rfl:=A6 hb'
   have key: ∀(j:Nat) d,((cells2.drop o).map (AV.ice H n))[j]? =some d-> ∃u,cs[o+j]? =some u/\RelD (fun b=>S b∨ ∃k,k<H'.length/\σ k=some b) w d u:=by
    intro j d hd;rw[AL,Ad] at hd;obtain⟨y,hy,rfl⟩:=A0.1 hd;obtain⟨u,hu,hr'⟩:=hr _ y hy;exact⟨u,hu,Qhm hS hag n y u hr'⟩
   refine .pd _ b o (fun j=>(cs[o+j]?).getD undef) (hin k _ b hk hb) (fun j d hd=>?_) fun j d hd=>?_
   ·grind [cell_of_row]
   grind
  |osl k g off len v ho g' sz T rows hk hg hh=>
   simp only[AV.ice];split;rotate_left
   ·exact .any _
   rename_i g2 sz2 T2 rows2 hk2;split;rotate_left
   ·exact .any _
   rename_i e;subst e
   have e2:g'=g/\sz=sz2/\T=T2/\rows=rows2:=by
    rcases hag k _ hk2 with h|h<;>rw[hk] at h<;>simp at h;exact h
   obtain⟨rfl,rfl,rfl,rfl⟩:=e2;obtain⟨hle,hh⟩:=hh rfl;have hblk:=hS.blk k _ hk;rcases hh with⟨b,cap,cs,T',hb,hcl,hcm,rfl,hc,hsz⟩|⟨hb,rfl,rfl⟩
   ·obtain⟨hall,hblk⟩:=hblk
    rcases hblk with⟨b',cs',hb',hc',hr⟩|⟨hb',_⟩;rotate_left
    ·grind
    rw[hb] at hb';obtain rfl:=A6 hb';have hlen:((rows.drop off).take len).length=len:=by grind
    have key: ∀(i j:Nat) r d,((rows.drop off).take len)[i]? =some r->r[j]? =some d-> ∃u,cs'[off*sz+i*sz+j]? =some u/\RelD S w d u:=by
     grind
    have hfin:RelD (fun b=>S b∨ ∃k,k<H'.length/\σ k=some b) w (.sl true sz ((rows.drop off).take len)) (.slice (some ⟨b,off*sz,none⟩) ((rows.drop off).take len).length cap):=by
     refine .sl true sz _ b (off*sz) cap (fun i j=>(cs'[off*sz+i*sz+j]?).getD undef) (hin k _ b hk hb) (fun r hr'=>?_) (fun _=>by omega) (fun i j r d hi hj=>?_) fun i j r d hi hj=>?_
     ·grind
     ·grind [cell_of_row]
     ·obtain⟨u,hu,hd⟩:=key i j r d hi hj
      rw[hu];exact hd.mono (fun _ h=> .inl h) fun _ _=>rfl
    grind
   ·simp only[Ao];exact .slnil _ _ _ _
  |mp k g v ho g' l hk hg hh=>
   simp only[AV.ice];split;rotate_left
   ·exact .any _
   rename_i g2 l2 hk2;split;rotate_left
   ·exact .any _
   rename_i e;subst e
   have e2:g'=g/\l=l2:=by
    rcases hag k _ hk2 with h|h<;>rw[hk] at h<;>simp at h;exact h
   obtain⟨rfl,rfl⟩:=e2;obtain⟨b,hb,rfl⟩:=hh rfl;rcases hS.blk k _ hk with⟨b',es,clock,hb',hc,hl,hr⟩|⟨hb',_⟩;rotate_left
   ·grind
   rw[hb] at hb';obtain rfl:=A6 hb';refine .mp l b es clock (hin k _ b hk hb) hc hl.1 (fun i key d e hi he=>?_) fun i key d e hi he=>?_
   ·grind
   ·obtain⟨e',he',_,hd⟩:=hr i key d hi
    rw[he] at he';obtain rfl:=A6 he';exact hd.mono (fun _ h=> .inl h) fun _ _=>rfl
theorem QfJ{dst:Option Ay}{ty:AD}{pos:String}{after:Array Am}{gd:Option (Nat×Bool)}{env:List (Nat×AV)}{H:List Blk}{x:D}
 (hf: ∀args w,(callFunc f args).run P w= .ok (.enter f args) w) (h:Pure P f ds x) (hx:x.flat=true) (hd:ds=xs.toList.map fun u=>(aval env u).ice H 4:=by rfl):
 Loc P ⟨dst,.call ⟨.value (.func f),xs,tys⟩,ty,pos,after,gd⟩ env H (.d x) none:=by
 intro B σ S H' a w hB hS hop hag _ K Q k
 have hrun:(execOp a.eval ⟨dst,.call ⟨.value (.func f),xs,tys⟩,ty,pos,after,gd⟩).run P w= .ok (.enter f (xs.toList.map a.eval).toArray) w:=by
  have:execOp a.eval ⟨dst,.call ⟨.value (.func f),xs,tys⟩,ty,pos,after,gd⟩=callFunc f (#[]++xs.map a.eval++ #[]):=rfl;rw[this,hf]
  congr 2
  apply B2;simp
 unfold Ax;rw[hrun,AS]
 let S2:Nat->Prop:=fun b=>S b∨ ∃k,k<H'.length/\σ k=some b
 have hB':Gd ⟨w,B.G,fun _=>False,S2⟩:=hB.again hS S2
 have hS':Sm ⟨w,B.G,fun _=>False,S2⟩ (fun _=>none) S2 [] w:=by
  refine⟨rfl,rfl,rfl,AW _,fun _ _ _=>rfl,fun _ h=>h,fun b hb=>⟨?_,.inl hb⟩,fun k b hk=>by simp at hk,fun k k' b hk=>by simp at hk,fun k C hC=>by simp at hC⟩;rcases hb with hb|⟨k,hk,hb⟩
  ·exact(hS.sUp b hb).1
  ·exact(hS.σUp k b hk hb).1
 refine(h _ _ S2 [] w (xs.toList.map a.eval) hB' hS' (by grind) fun i d v hi hv=>?_).mono ?_
 ·grind [Qhm,A2,AF]
 rintro e w' ⟨v,rfl,hb,hr⟩;obtain⟨h3,h4⟩:=hS.below hb;exact k v w' σ _ h3 (.d _ _ (hr.flat hx)) h4
variable{P:AE}
section
variable{dst:Option Ay}{ty:AD}{pos:String}{after:Array Am}{gd:Option (Nat×Bool)}{env:List (Nat×AV)}{H:List Blk}
def Qe5{F:TyF}{x:A7}{l:List UInt8} [hT:Ty P T F](hs:F.str=true)(hu:aval env u= .d (.v (.string ⟨l.toArray⟩)))(hx:aval env x= .d (.v (.int κ i)))(hy:aval env y= .d (.v (.int κ' j)))
 (h0:0<=i) (h1:i<=j) (h2:j<=l.length):Loc P ⟨dst,.slice T u (some x) (some y) none,ty,pos,after,gd⟩ env H (.d (.v (.string ⟨((l.take j.toNat).drop i.toNat).toArray⟩))) none:=
 QQ fun σ S H' a w _ hop _=>by
  have a1:=AV.conc_rel (hop u (by simp[A2])) (y:= .string ⟨l.toArray⟩) (by rw[hu];rfl);have a2:=AV.conc_rel (hop x (by simp[A2])) (y:= .int κ i) (by rw[hx];rfl);have a3:=AV.conc_rel (hop y (by simp[A2])) (y:= .int κ' j) (by rw[hy];rfl);refine⟨.string ⟨((l.take j.toNat).drop i.toNat).toArray⟩,?_,.d _ _ (.v _)⟩;simp only[execOp,AI,AJ,a1,a2,a3,A3,run_sliceAt_string _ _ _ _ _ _ (Qf8 hT.h hs),run_slice_string_if w T _ _ _ _ _ (Qf8 hT.h hs),QfS];rw[if_pos ⟨by omega,h2⟩,if_pos ⟨h0,h1⟩,Pm.Qhx];rfl
theorem QfG{F:TyF}{x:A7}{l:List UInt8} [hT:Ty P T F](hs:F.str=true)(hu:aval env u= .d (.v (.string ⟨l.toArray⟩)))(hx:aval env x= .d (.v (.int κ i)))
 (h0:0<=i) (h1:i<=l.length):Loc P ⟨dst,.slice T u (some x) none none,ty,pos,after,gd⟩ env H (.d (.v (.string ⟨(l.drop i.toNat).toArray⟩))) none:=
 QQ fun σ S H' a w _ hop _=>by
  have a1:=AV.conc_rel (hop u (by simp[A2])) (y:= .string ⟨l.toArray⟩) (by rw[hu];rfl);have a2:=AV.conc_rel (hop x (by simp[A2])) (y:= .int κ i) (by rw[hx];rfl);refine⟨.string ⟨(l.drop i.toNat).toArray⟩,?_,.d _ _ (.v _)⟩;simp only[execOp,AI,AJ,a1,a2,A3,run_sliceAt_string _ _ _ _ _ _ (Qf8 hT.h hs)];rw[run_slice_string_l w T _ (Qf8 hT.h hs) _ _ h0 (by grind [QfS]),QfS,Pm.Qhx,Ai];rfl
theorem QfH{F:TyF}{l:List UInt8} [hT:Ty P T F](hs:F.str=true)(hu:aval env u= .d (.v (.string ⟨l.toArray⟩)))(hy:aval env y= .d (.v (.int κ' j)))
 (h0:0<=j) (h2:j<=l.length):Loc P ⟨dst,.slice T u none (some y) none,ty,pos,after,gd⟩ env H (.d (.v (.string ⟨(l.take j.toNat).toArray⟩))) none:=
 QQ fun σ S H' a w _ hop _=>by
  have a1:=AV.conc_rel (hop u (by simp[A2])) (y:= .string ⟨l.toArray⟩) (by rw[hu];rfl);have a3:=AV.conc_rel (hop y (by simp[A2])) (y:= .int κ' j) (by rw[hy];rfl);refine⟨.string ⟨(l.take j.toNat).toArray⟩,?_,.d _ _ (.v _)⟩;simp only[execOp,AI,AJ,a1,a3,A3,run_sliceAt_string _ _ _ _ _ _ (Qf8 hT.h hs)];rw[run_slice_string_h w T _ (Qf8 hT.h hs) _ _ h0 (by grind [QfS]),Pm.Qhx,Ap];rfl
theorem Qhs{e:AD}(h:P.underlying T=some (.slice e)):P.elem T=e:=by grind [Program.elem]
theorem QhK{S:Nat->Prop}{n l h:Nat}{rows:List (List D)}{a:Option Addr}{len cap:Nat}(hr:RelD S w (.sl true n rows) (.slice a len cap))(h1:l<=h)(h2:h<=rows.length):
 h<=cap/\len=rows.length/\RelD S w (.sl true n ((rows.take h).drop l)) (sliced a l h cap n):=by
 cases hr with
 |slnil=>
  have:l=0/\h=0:=by grind
  obtain⟨rfl,rfl⟩:=this;simp only[sliced,Ar,List.drop_nil,Nat.sub_self,Ae];exact⟨by omega,rfl,.slnil _ _ _ _⟩
 |sl _ _ _ b o cap g hS hn hcap hc hrr=>
  have hc':=hcap rfl;refine⟨by omega,rfl,?_⟩;unfold sliced
  by_cases hm:cap=l
  ·rw[if_pos hm]
   have:((rows.take h).drop l)=[]:=by grind
   rw[this,show h -l=0 by omega];exact .slnil _ _ _ _
  ·rw[if_neg hm]
   have hlen:((rows.take h).drop l).length=h -l:=by grind
   have hget: ∀(i:Nat) r,((rows.take h).drop l)[i]? =some r->rows[l+i]? =some r:=fun i r hr=>by
    grind
   have:=RelD.sl (S:=S) (w:=w) true n ((rows.take h).drop l) b (o+l*n) (cap -l) (fun i j=>g (l+i) j) hS (fun r hr=>hn r (Ac (List.mem_of_mem_drop hr))) (fun _=>by omega)
    (fun i j r d hi hj=>by grind) (fun i j r d hi hj=>hrr (l+i) j r d (hget i r hi) hj)
   grind [QdQ]
theorem Qlu{e:AD}{F:TyF}{x:A7}{rows:List (List D)} [hT:Ty P T F](he:F.elem=some e) [hE:Ty P e E](hu:aval env u= .d (.sl true E.size rows))(hx:aval env x= .d (.v (.int κ i)))(hy:aval env y= .d (.v (.int κ' j)))
 (h0:0<=i) (h1:i<=j) (h2:j<=rows.length):Loc P ⟨dst,.slice T u (some x) (some y) none,ty,pos,after,gd⟩ env H (.d (.sl true E.size ((rows.take j.toNat).drop i.toNat))) none:=
 QQ fun σ S H' a w _ hop _=>by
  have a1:=hop u (by simp[A2]);have a2:=AV.conc_rel (hop x (by simp[A2])) (y:= .int κ i) (by rw[hx];rfl);have a3:=AV.conc_rel (hop y (by simp[A2])) (y:= .int κ' j) (by rw[hy];rfl);rw[hu] at a1;generalize hv:a.eval u=v at a1;have hT':=Qdy hT.h he;have hel:=Qhs hT';have hT'':P.underlying T=some (.slice (P.elem T)):=by rw[hel];exact hT'
  obtain⟨ad,len,cap,rfl⟩: ∃ad len cap,v= .slice ad len cap:=by cases a1 with|d _ _ h=>cases h<;>exact⟨_,_,_,rfl⟩
  have hr:RelD S w (.sl true E.size rows) (.slice ad len cap):=by cases a1;assumption
  obtain⟨b1,b2,b3⟩:=QhK hr (l:=i.toNat) (h:=j.toNat) (by omega) (by omega);refine⟨_,?_,.d _ _ b3⟩;simp only[execOp,AI,AJ,hv,a2,a3,A3,run_sliceAt_slice _ _ _ _ _ _ hT''];rw[run_slice_lh w T ad len cap hT'' _ _ _ _ h0 h1 (by omega),hel,QdM hE.h];rfl
theorem QfX{e:AD}{F:TyF}{rows:List (List D)} [hT:Ty P T F](he:F.elem=some e) [hE:Ty P e E](hu:aval env u= .d (.sl true E.size rows))(hy:aval env y= .d (.v (.int κ' j)))
 (h0:0<=j) (h2:j<=rows.length):Loc P ⟨dst,.slice T u none (some y) none,ty,pos,after,gd⟩ env H (.d (.sl true E.size (rows.take j.toNat))) none:=
 QQ fun σ S H' a w _ hop _=>by
  have a1:=hop u (by simp[A2]);have a3:=AV.conc_rel (hop y (by simp[A2])) (y:= .int κ' j) (by rw[hy];rfl);rw[hu] at a1;generalize hv:a.eval u=v at a1;have hT':=Qdy hT.h he;have hel:=Qhs hT';have hT'':P.underlying T=some (.slice (P.elem T)):=by rw[hel];exact hT'
  obtain⟨ad,len,cap,rfl⟩: ∃ad len cap,v= .slice ad len cap:=by cases a1 with|d _ _ h=>cases h<;>exact⟨_,_,_,rfl⟩
  have hr:RelD S w (.sl true E.size rows) (.slice ad len cap):=by cases a1;assumption
  obtain⟨b1,b2,b3⟩:=QhK hr (l:=0) (h:=j.toNat) (by omega) (by omega);rw[Ap] at b3;refine⟨_,?_,.d _ _ b3⟩;simp only[execOp,AI,AJ,hv,a3,A3,run_sliceAt_slice _ _ _ _ _ _ hT''];rw[run_slice_h w T ad len cap hT'' _ _ h0 (by omega),hel,QdM hE.h];rfl
theorem QgF{e:AD}{F:TyF}{x:A7}{rows:List (List D)} [hT:Ty P T F](he:F.elem=some e) [hE:Ty P e E](hu:aval env u= .d (.sl true E.size rows))(hx:aval env x= .d (.v (.int κ i)))
 (h0:0<=i) (h2:i<=rows.length):Loc P ⟨dst,.slice T u (some x) none none,ty,pos,after,gd⟩ env H (.d (.sl true E.size (rows.drop i.toNat))) none:=
 QQ fun σ S H' a w _ hop _=>by
  have a1:=hop u (by simp[A2]);have a2:=AV.conc_rel (hop x (by simp[A2])) (y:= .int κ i) (by rw[hx];rfl);rw[hu] at a1;generalize hv:a.eval u=v at a1;have hT':=Qdy hT.h he;have hel:=Qhs hT';have hT'':P.underlying T=some (.slice (P.elem T)):=by rw[hel];exact hT'
  obtain⟨ad,len,cap,rfl⟩: ∃ad len cap,v= .slice ad len cap:=by cases a1 with|d _ _ h=>cases h<;>exact⟨_,_,_,rfl⟩
  have hr:RelD S w (.sl true E.size rows) (.slice ad len cap):=by cases a1;assumption
  obtain⟨b1,b2,b3⟩:=QhK hr (l:=i.toNat) (h:=rows.length) (by omega) (by omega);rw[Ai] at b3;subst b2;refine⟨_,?_,.d _ _ b3⟩;simp only[execOp,AI,AJ,hv,a2,A3,run_sliceAt_slice _ _ _ _ _ _ hT''];rw[run_slice_l w T ad rows.length cap hT'' _ _ h0 (by omega),hel,QdM hE.h];rfl
theorem Qmz{x:A7}(hx:aval env x= .d (.v (.int κ i)))(hy:aval env y= .d (.v (.int κ' j))):Loc P ⟨dst,.call ⟨.builtin .max, #[x,y], #[t1,t2]⟩,ty,pos,after,gd⟩ env H (.d (.v (.int κ (if j>i then j else i)))) none:=
 QQ fun σ S H' a w _ hop _=>by
  have a2:=AV.conc_rel (hop x (by simp[A2,AF])) (y:= .int κ i) (by rw[hx];rfl);have a3:=AV.conc_rel (hop y (by simp[A2,AF])) (y:= .int κ' j) (by rw[hy];rfl);exact⟨_,by simp_all[execOp,resolve,invoke,builtin,run_max_int2],.d _ _ (.v _)⟩
theorem Qmy{x:A7}(hx:aval env x= .d (.v (.int κ i)))(hy:aval env y= .d (.v (.int κ' j))):Loc P ⟨dst,.call ⟨.builtin .min, #[x,y], #[t1,t2]⟩,ty,pos,after,gd⟩ env H (.d (.v (.int κ (if j<i then j else i)))) none:=
 QQ fun σ S H' a w _ hop _=>by
  have a2:=AV.conc_rel (hop x (by simp[A2,AF])) (y:= .int κ i) (by rw[hx];rfl);have a3:=AV.conc_rel (hop y (by simp[A2,AF])) (y:= .int κ' j) (by rw[hy];rfl);exact⟨_,by simp_all[execOp,resolve,invoke,builtin,run_min_int2],.d _ _ (.v _)⟩
end
theorem QeY{args:List D}{xs:List AG}(ha:concL args=some vs)
 (h: ∀w,Pm.Lt w->B3 P f vs.toArray w fun e w'=>e= .returned (.tuple xs.toArray)/\Au w.heap.size w w'):Pure P f args (.tup (xs.map D.ofV)):=by
 intro B σ S H w cargs hB hS hl hr;obtain rfl:=Qfk ha hl hr;refine(h w (hB.ltOf hS)).mono ?_;rintro e w' ⟨rfl,hb⟩;refine⟨_,rfl,hb,.tup _ _ (by simp) fun i d v hd hv=>?_⟩
 grind [D.ofV_rel]
variable{P:AE}
def rvC(P:AE)(env:List (Nat×AV)):AK->Option D
 |.tmp t=>match look env t with
  |.d x=>some x
  |_=>none
 |.cell t T=>match look env t with
  |.d (.pd cells)=>(tyf P T).bind fun F=>ldD F cells
  |_=>none
def allO:List (Option D)->Option (List D)
 |[]=>some []
 |some x::l=>(allO l).map (x:: ·)
 |none::_=>none
def resC(P:AE)(env:List (Nat×AV)):List AK->Option D
 |[r]=>rvC P env r
 |rs=>(allO (rs.map (rvC P env))).map .tup
def EndC(P:AE)(rs:List AK)(x:D):AP->St->Prop
 |.normal,s| .ret,s=>resC P s.env rs=some x
 |_,_=>False
attribute [go_sem] rvC allO resC
def QkF: ∀{l:List (Option D)} {ds:List D},allO l=some ds->l=ds.map some
 |[],ds,h=>by obtain rfl:=A6 h;rfl
 |some x::l,ds,h=>by
  obtain⟨ds',h1,rfl⟩:=A0.1 h;rw[QkF h1];rfl
 |none::_,_,h=>by cases h
theorem rvC_run{S:Nat->Prop}{H:List Blk}{n:Nat}{env:List (Nat×AV)}{B:Bs}{a:Act}(hA:SmA B σ S ⟨n,env,H⟩ a w){r:AK}{x:D}(hx:rvC P env r=some x):
 ∃v,(rvS a.tmps r).run P w= .ok v w/\RelD S w x v:=by
 cases r with
 |tmp t=>
  simp only[rvC] at hx;split at hx
  ·rename_i y hy
   obtain rfl:=A6 hx;refine⟨a.tmps.getD t undef,Aq ..,?_⟩;have:=hA.env t;rw[hy] at this;cases this;omega
  grind
 |cell t T=>
  simp only[rvC] at hx;split at hx
  ·rename_i cells hy
   obtain⟨F,hF,hx⟩:=AA.1 hx;have:=hA.env t;rw[hy] at this;cases this with
   |d _ _ h=>
    generalize hv:a.tmps.getD t undef=pv at h;cases h with
    |pd _ b o g hS hc hr=>
     obtain⟨v,h1,h2⟩:=Qm8 hF (b:=b) (o:=o) (w:=w) (S:=S) hx fun j d hd=>⟨g j,hc j d hd,hr j d hd⟩
     refine⟨v,?_,h2⟩;show(do loadVar T (<-asAddr (a.tmps.getD t undef)):Sem AG).run P w=_;rw[hv];exact h1
  grind
theorem Qg9{σ:Sg}{S:Nat->Prop}{H:List Blk}{n:Nat}{env:List (Nat×AV)}{B:Bs}{a:Act}{w:AT}(hA:SmA B σ S ⟨n,env,H⟩ a w): ∀(rs:List AK) (ds:List D),allO (rs.map (rvC P env))=some ds->
 ∃vs,(rs.mapM (rvS a.tmps)).run P w= .ok vs w/\vs.length=ds.length/\ ∀(i:Nat) d v,ds[i]? =some d->vs[i]? =some v->RelD S w d v
 |[],ds,h=>by obtain rfl:=A6 h;simp
 |r::rs,ds,h=>by
  rw[List.map_cons] at h;cases hr:rvC P env r with
  |none=>rw[hr] at h;cases h
  |some x=>
   rw[hr] at h;obtain⟨ds',h1,rfl⟩:=A0.1 h;obtain⟨v,h2,h3⟩:=rvC_run hA hr;obtain⟨vs,h4,h5,h6⟩:=Qg9 hA rs ds' h1;refine⟨v::vs,?_,by simp[h5],fun i d u hd hu=>?_⟩
   ·simp_all
   grind
theorem Qh5{fn:Func}{args:List D}{x:D}{n:Nat}(hf:P.funcs[f]? =some fn)(hb:fn.body=some c)(hn:fn.ntmps=n)(hrs:fn.results=rs.toArray)(hle:AO args.length n=true)
 (h:AWP P c (EndC P rs x) ⟨n,parE 0 args,[]⟩):Pure P f args x:=by
 have hlen:args.length<=n:=AC hle;intro B σ S H w cargs hB hS hl hr;refine calls_of_wp hf hb ?_
 have hA:SmA ⟨w,B.G,fun _=>False,S⟩ (fun _=>none) S ⟨n,parE 0 args,[]⟩ {tmps:=cargs.toArray++AH (fn.ntmps -cargs.toArray.size) undef,defers:=[]} w:=by
  refine⟨⟨rfl,rfl,rfl,AW _,fun _ _ _=>rfl,fun _ h=>h,fun b hb=>⟨(hS.sUp b hb).1,.inl hb⟩,fun k b hk=>by simp at hk,fun k k' b hk=>by simp at hk,fun k C hC=>by simp at hC⟩,rfl,?_,fun t=>?_⟩
  ·grind
  ·rcases Qlt args 0 t with⟨d,_,h2,h3⟩|h
   ·simp only
    rw[h3];have ht:t<cargs.length:=by grind
    have:(cargs.toArray++AH (fn.ntmps -cargs.toArray.size) undef).getD t undef=cargs[t]:=by
     rw[AM,AN (by omega)];simp[ht]
    rw[this];exact .d _ _ (hr t d _ (by omega) (A1 ht))
   ·simp only
    rw[h];exact .d _ _ (.any _)
 have hB':Gd ⟨w,B.G,fun _=>False,S⟩:=hB.again hS S;refine wp_mono (h _ hB' _ _ _ _ hA) ?_;rintro e a w' ⟨s',σ',S',hq,hA'⟩
 have fin:resC P s'.env rs=some x->a.defers=[]/\ ∃v,(results fn a.tmps).run P w'= .ok v w'/\ ∃v',AZ v= .returned v'/\Au w.heap.size w w'/\RelD (fun b=>S b∨w.heap.size<=b/\b<w'.heap.size) w' x v':=by
  intro hx;have hbel:Au w.heap.size w w':=⟨hA'.sm.os,hA'.sm.tape,hA'.sm.output,hA'.sm.size,fun k hk=>hA'.sm.keep k hk fun h=>h⟩
  have hup: ∀d v,RelD S' w' d v->RelD (fun b=>S b∨w.heap.size<=b/\b<w'.heap.size) w' d v:=fun d v h=>h.mono (fun b hb=>by
   obtain⟨h1,h2⟩:=hA'.sm.sUp b hb
   grind) fun _ _=>rfl
  refine⟨hA'.defers,?_⟩;obtain⟨n',env',H'⟩:=s'
  have gen: ∀vs,(rs.mapM (rvS a.tmps)).run P w'= .ok vs w'->(fn.results.mapM (rvS a.tmps)).run P w'= .ok vs.toArray w':=fun vs h=>by
   simp_all
  rw[QeX]
  by_cases h1:rs.length=1
  ·match rs,h1 with
   |[r],_=>
    obtain⟨vs,g1,g2,g3⟩:=Qg9 (P:=P) hA' [r] [x] (by
     have hx:rvC P env' r=some x:=hx
     simp[allO,hx])
    match vs,g2 with
    |[v],_=>
     refine⟨v,?_,_,rfl,hbel,hup _ _ (g3 0 x v rfl rfl)⟩;rw[A3,gen _ g1];rfl
  ·have hx':(allO (rs.map (rvC P env'))).map D.tup=some x:=by
    unfold resC at hx
    grind
   obtain⟨ds,hds,rfl⟩:=A0.1 hx';obtain⟨vs,g1,g2,g3⟩:=Qg9 (P:=P) hA' rs ds hds;have hvl:vs.length=rs.length:=by have:=congrArg Al (QkF hds);grind
   refine⟨.tuple vs.toArray,?_,_,rfl,hbel,.tup ds vs (by omega) fun i d v hd hv=>hup _ _ (g3 i d v hd hv)⟩
   simp_all
 cases e with
 |normal=>exact fin hq
 |ret=>exact fin hq
 |_=>exact hq.elim
def QR{Q:AP->St->Prop}{n:Nat}{env:List (Nat×AV)}{H:List Blk}{x y:D}(hq:Q .ret ⟨n,env,H⟩=(resC P env rs=some x):=by rfl)
 (h: ∀R:Option D->Prop,R (some y)->R (resC P env rs):=by intro R hR;simp only[go_sem,Nat.reduceEqDiff,Nat.reduceAdd,Nat.reduceLT,Nat.reduceLeDiff,↓reduceIte,reduceCtorEq];exact hR) (hx:y=x):AWP P .ret Q ⟨n,env,H⟩:=
 Qg4 (by rw[hq];exact hx▸h (fun r=>r=some y) rfl)
theorem QrW{ops:Array AR}{Q:AP->St->Prop}{l:List AR}{s s':St}(h:Weak s s')(hc:ASeq P ops Q l s'):ASeq P ops Q l s:=fun B hB σ S a w hA=>let⟨σ',S',h1⟩:=h B σ S a w hA;hc B hB σ' S' a w h1
def QkP{α β:Type}(f:α->β)(l:List α):List.take l.length (B6 f l)=B6 f l:=List.take_of_length_le (by simp)
theorem Qeo(k:Nat){C:Blk}{ops:Array AR}{Q:AP->St->Prop}{l:List AR}{n:Nat}{env:List (Nat×AV)}{H H':List Blk}(hC:H[k]? =some C:=by rfl)
 (he: ∀R:List (Nat×AV)->Prop,R env'->R (frzE k C env):=by intro R hR;simp only[frzE,AV.frz,AV.frzL,Blk.gen,Blk.iceP,Blk.iceS,Blk.iceM,AV.data,beq_self_eq_true,Nat.reduceBEq,Bool.and_self,Bool.and_true,Bool.true_and,Bool.false_and,Bool.and_false,cond_true,cond_false,List.drop_zero,List.drop_succ_cons,List.map_cons,List.map_nil,QkP];exact hR)
 (hh: ∀R:List Blk->Prop,R H'->R ((H.set k C.dead).map (Blk.frz k C)):=by intro R hR;simp only[Blk.dead,Blk.frz,AV.frz,AV.frzL,Blk.gen,Blk.iceP,Blk.iceS,Blk.iceM,AV.data,List.set_cons_zero,List.set_cons_succ,List.map_cons,List.map_nil,Nat.zero_add,beq_self_eq_true,Nat.reduceBEq,Bool.and_self,Bool.and_true,Bool.true_and,Bool.false_and,Bool.and_false,cond_true,cond_false,List.drop_zero,List.drop_succ_cons];exact hR)
 (h:ASeq P ops Q l ⟨n,env',H'⟩):ASeq P ops Q l ⟨n,env,H⟩:=by
 have h1:=he (fun r=>r=env') rfl;have h2:=hh (fun r=>r=H') rfl
 grind [QrW,Qgn]
def AStep(P:AE)(ops:Array AR)(o:AR)(K:St->Prop)(s:St):Prop:=
 ∃R,EffE P o s.env s.H R/\awanted ops s.env o=some true/\dstOk s.n o.dst=true/\gdOk ops s.n o=true/\ ∀x H',R x H'->K ⟨s.n,putE s.env o.dst x,H'⟩
theorem astep{P:AE}{ops:Array AR}{K:St->Prop}{n:Nat}{env:List (Nat×AV)}{H H':List Blk}{x:AV}(h:Eff P o env H x H')(hw:awanted ops env o=some true)(hd:dstOk n o.dst=true)(hg:gdOk ops n o=true)
 (k:K ⟨n,putE env o.dst x,H'⟩):AStep P ops o K ⟨n,env,H⟩:=⟨_,h.e,hw,hd,hg,by grind⟩
section
variable{P:AE}{ops:List AR}{B:Bs}
end
variable{P:AE}
section
variable{ops:Array AR}{Q:AP->St->Prop}{K:St->Prop}{l:List AR}{n:Nat}{env:List (Nat×AV)}{H H':List Blk}{d:Ay}{op:Op}{ty:AD}{pos:String}{after:Array Am}{gd:Option (Nat×Bool)}{x x':AV}
def QkC(ks:List Nat)(h:Does P f args H0 [] x H1)(hf: ∀args w,(callFunc f args).run P w= .ok (.enter f args) w)
 (hargs:xs.toList.map (aval env)=AV.renL (rho ks H.length) args:=by rfl) (hks:ks.map (fun k=>H[k]?)=(H0.map (Blk.ren (rho ks H.length))).map some:=by rfl) (hnd:ks.Nodup:=by decide)
 (hla:AV.ltL H0.length args=true:=by rfl) (hlH:H0.all (Blk.lt H0.length)=true:=by rfl)
 (hX: ∀R:AV->Prop,R x'->R (x.ren (rho ks H.length)):=by intro R hR;simp only[AV.ren,AV.renL,rho,List.getElem?_cons_zero,List.getElem?_cons_succ];exact hR)
 (hH: ∀R:List Blk->Prop,R H'->R (place (rho ks H.length) H ks H1++(H1.drop ks.length).map (Blk.ren (rho ks H.length))):=by intro R hR;simp only[place,Blk.ren,AV.ren,AV.renL,List.map_cons,List.map_nil,List.set_cons_zero,List.set_cons_succ,List.drop_succ_cons,List.drop_zero,List.drop_nil,List.append_nil,List.length_cons,List.length_nil,Nat.reduceAdd,Nat.zero_add];exact hR)
 (hw:awanted ops env ⟨some d,.call ⟨.value (.func f),xs,tys⟩,ty,pos,after,gd⟩=some true:=by rfl) (hd:AB d n=true:=by rfl) (hg:gdOk ops n ⟨some d,.call ⟨.value (.func f),xs,tys⟩,ty,pos,after,gd⟩=true:=by rfl)
 (k:ASeq P ops Q l ⟨n,(d,x')::env,H'⟩):ASeq P ops Q (⟨some d,.call ⟨.value (.func f),xs,tys⟩,ty,pos,after,gd⟩::l) ⟨n,env,H⟩:=by
 refine QhH (QhR ks h (Qec hf) hargs hks hnd hla rfl hlH (fun g hg=>by cases hg)) hw hd hg ?_;have h1:=hX (fun r=>r=x') rfl;have h2:=hH (fun r=>r=H') rfl;rw[h1,h2];exact k
def QgZ(ks:List Nat)(h:Does P f args H0 [] x H1)(hf: ∀args w,(callFunc f args).run P w= .ok (.enter f args) w)
 (hargs:xs.toList.map (aval env)=AV.renL (rho ks H.length) args:=by rfl) (hks:ks.map (fun k=>H[k]?)=(H0.map (Blk.ren (rho ks H.length))).map some:=by rfl) (hnd:ks.Nodup:=by decide)
 (hla:AV.ltL H0.length args=true:=by rfl) (hlH:H0.all (Blk.lt H0.length)=true:=by rfl)
 (hX: ∀R:AV->Prop,R x'->R (x.ren (rho ks H.length)):=by intro R hR;simp only[AV.ren,AV.renL,rho,List.getElem?_cons_zero,List.getElem?_cons_succ];exact hR)
 (hH: ∀R:List Blk->Prop,R H'->R (place (rho ks H.length) H ks H1++(H1.drop ks.length).map (Blk.ren (rho ks H.length))):=by intro R hR;simp only[place,Blk.ren,AV.ren,AV.renL,List.map_cons,List.map_nil,List.set_cons_zero,List.set_cons_succ,List.drop_succ_cons,List.drop_zero,List.drop_nil,List.append_nil,List.length_cons,List.length_nil,Nat.reduceAdd,Nat.zero_add];exact hR)
 (hw:awanted ops env ⟨some d,.call ⟨.value (.func f),xs,tys⟩,ty,pos,after,gd⟩=some true:=by rfl) (hd:AB d n=true:=by rfl) (hg:gdOk ops n ⟨some d,.call ⟨.value (.func f),xs,tys⟩,ty,pos,after,gd⟩=true:=by rfl)
 (k:K ⟨n,(d,x')::env,H'⟩):AStep P ops ⟨some d,.call ⟨.value (.func f),xs,tys⟩,ty,pos,after,gd⟩ K ⟨n,env,H⟩:=by
 refine astep (QhR ks h (Qec hf) hargs hks hnd hla rfl hlH (fun g hg=>by cases hg)) hw hd hg ?_;have h1:=hX (fun r=>r=x') rfl;have h2:=hH (fun r=>r=H') rfl;rw[h1,h2];exact k
def Qee(ts:List Nat)(m:Nat){Q:AP->St->Prop}
 (he: ∀R:List (Nat×AV)->Prop,R env'->R (keepE env ts):=by intro R hR;simp only[keepE,go_sem,Nat.reduceEqDiff,Nat.reduceAdd,Nat.reduceLT,Nat.reduceLeDiff,↓reduceIte,reduceCtorEq];exact hR)
 (hH: ∀R:List Blk->Prop,R H'->R (H.take m):=by intro R hR;simp only[List.take_succ_cons,List.take_zero];exact hR)
 (h1:envLt m env'=true:=by rfl) (h2:H'.all (Blk.lt m)=true:=by rfl) (h:AWP P c Q ⟨n,env',H'⟩):AWP P c Q ⟨n,env,H⟩:=by
 have e1:=he (fun r=>r=env') rfl;have e2:=hH (fun r=>r=H') rfl;exact Qgf (Qg7 ts m e1 e2 h1 h2) h
def QdB{Q:AP->St->Prop}{gvs:List AG}{y:AV}(hq:Q .ret ⟨n,env,H⟩=(resA env rs=some x/\H=H1/\look env gslot= .gh gl gvs):=by rfl)
 (h: ∀R:Option AV->Prop,R (some y)->R (resA env rs):=by intro R hR;simp only[resA,allR,go_sem,Nat.reduceEqDiff,Nat.reduceAdd,Nat.reduceLT,Nat.reduceLeDiff,↓reduceIte,reduceCtorEq];exact hR)
 (hg:look env gslot= .gh gl gvs:=by rfl) (hx:y=x) (hH:H=H1):AWP P .ret Q ⟨n,env,H⟩:=
 Qg4 (by rw[hq];exact⟨hx▸h (fun r=>r=some y) rfl,hH,hg⟩)
end
variable{P:AE}
section
variable{dst:Option Ay}{ty:AD}{pos:String}{after:Array Am}{gd:Option (Nat×Bool)}{env:List (Nat×AV)}{H:List Blk}
def Qdi{cells:List D}(hu:aval env u= .d (.pd cells)):Loc P ⟨dst,.nilCheck u,ty,pos,after,gd⟩ env H (.d (.pd cells)) none:=
 QQ fun σ S H' a w _ hop _=>by
  have a1:=hop u (by simp[A2]);rw[hu] at a1;generalize hv:a.eval u=v at a1;cases a1 with
  |d _ _ h=>
   cases h with
   |pd _ b o g hS hc hr=>exact⟨_,by simp[execOp,hv],.d _ _ (.pd _ b o g hS hc hr)⟩
theorem QgG{g o:Nat}{cells:List AV}(hu:aval env u= .ptr k g o)(hk:H[k]? =some (.row g cells)):Loc P ⟨dst,.nilCheck u,ty,pos,after,gd⟩ env H (.ptr k g o) none:=
 QQ fun σ S H' a w _ hop hag=>by
  have a1:=hop u (by simp[A2]);rw[hu] at a1;generalize hv:a.eval u=v at a1;cases a1 with
  |ptr _ _ _ _ ho g' cells' hk' hg h=>
   have hgg:g'=g:=by
    rcases hag k _ hk with h1|h1
    ·grind
    grind
   obtain⟨b,hb,rfl⟩:=h hgg;exact⟨_,by simp[execOp,hv],.ptr _ _ _ _ ho g' cells' hk' hg h⟩
theorem Qh8{fn:Fn}:Loc P ⟨dst,.makeFunc fn #[] xs,ty,pos,after,gd⟩ env H (.fn fn (xs.toList.map (aval env))) none:=
 QQ fun σ S H' a w _ hop _=>by
  refine⟨.func fn #[] (xs.map a.eval),by simp[execOp,Instr.makeFunc],?_⟩;have:xs.map a.eval=(xs.toList.map a.eval).toArray:=by grind
  rw[this];refine .fn _ _ _ (by simp) fun i d x hd hx=>?_
  grind [A2]
theorem Qq1{e:AD}{F:TyF}{z:A7}{rows:List (List D)} [hT:Ty P T F](he:F.elem=some e) [hE:Ty P e E](hu:aval env u= .d (.sl true E.size rows))(hy:aval env y= .d (.v (.int κ j)))(hz:aval env z= .d (.v (.int κ' j)))
 (h0:0<=j) (h2:j<=rows.length):Loc P ⟨dst,.slice T u none (some y) (some z),ty,pos,after,gd⟩ env H (.d (.sl true E.size (rows.take j.toNat))) none:=
 QQ fun σ S H' a w _ hop _=>by
  have a1:=hop u (by simp[A2]);have a2:=AV.conc_rel (hop y (by simp[A2])) (y:= .int κ j) (by rw[hy];rfl);have a3:=AV.conc_rel (hop z (by simp[A2])) (y:= .int κ' j) (by rw[hz];rfl);rw[hu] at a1;generalize hv:a.eval u=v at a1;have hT':=Qdy hT.h he;have hel:=Qhs hT';have hT'':P.underlying T=some (.slice (P.elem T)):=by grind
  obtain⟨ad,len,cap,rfl⟩: ∃ad len cap,v= .slice ad len cap:=by cases a1 with|d _ _ h=>cases h<;>grind
  have hr:RelD S w (.sl true E.size rows) (.slice ad len cap):=by cases a1;omega
  have hcap:j.toNat<=cap:=by
   obtain⟨b1,b2,b3⟩:=QhK hr (l:=0) (h:=j.toNat) (by omega) (by omega);exact b1
  have hres:RelD S w (.sl true E.size (rows.take j.toNat)) (sliced ad 0 j.toNat j.toNat E.size):=by
   unfold sliced;cases hr with
   |slnil=>
    have:j.toNat=0:=by grind
    rw[this];simp only[Ar,Ae];exact .slnil _ _ _ _
   |sl _ _ _ b o cap g hS hn hc2 hc hrr=>
    by_cases hm:j.toNat=0
    ·rw[hm];simp only[Ao,Ae];exact .slnil _ _ _ _
    ·rw[if_neg hm]
     have hlen:(rows.take j.toNat).length=j.toNat:=by grind
     have hget: ∀(i:Nat) r,(rows.take j.toNat)[i]? =some r->rows[i]? =some r:=fun i r hr=>by
      grind
     have:=RelD.sl (S:=S) (w:=w) true E.size (rows.take j.toNat) b o j.toNat g hS (fun r hr=>hn r (Ac hr)) (fun _=>by omega)
      (fun i j r d hi hj=>hc i j r d (hget i r hi) hj) (fun i j r d hi hj=>hrr i j r d (hget i r hi) hj)
     grind [QdQ]
  refine⟨_,?_,.d _ _ hres⟩;simp only[execOp,AI,AJ,hv,a2,a3,A3,run_sliceAt_slice _ _ _ _ _ _ hT''];rw[run_slice_hm w T ad len cap hT'' _ _ _ _ h0 (Int.le_refl _) (by omega),hel,QdM hE.h];rfl
end
theorem Qsk(t:Nat)(b:Bool)(m:Nat){n:Nat}{env:List (Nat×AV)}{H:List Blk}(ht:look env t= .d (.v (.slice a₀ 0 k₀))):Weak ⟨n,env,H⟩ ⟨n,(t,.d (.sl b m []))::env,H⟩:=by
 intro B σ S a w hA;refine⟨σ,S,hA.sm,hA.defers,hA.size,fun u=>?_⟩
 by_cases hu:t=u
 ·subst hu
  show Rel _ _ _ _ (look ((t,_)::env) t) _;rw[Qdl];have:=AV.conc_rel (hA.env t) (y:= .slice a₀ 0 k₀) (by show(look env t).conc=_;rw[ht];rfl);rw[this];exact .d _ _ (.slnil _ _ _ _)
 ·show Rel _ _ _ _ (look ((t,_)::env) u) _
  rw[Qdr hu];exact hA.env u
def Qed(t:Nat)(b:Bool)(m:Nat){Q:AP->St->Prop}{n:Nat}{env:List (Nat×AV)}{H:List Blk}(ht:look env t= .d (.v (.slice a₀ 0 k₀)):=by rfl)
 (h:AWP P c Q ⟨n,(t,.d (.sl b m []))::env,H⟩):AWP P c Q ⟨n,env,H⟩:=Qgf (Qsk t b m ht) h
def PureF(P:AE)(f:Az)(args:List AV)(x:D):Prop:=
 ∀(B:Bs) (S:Nat->Prop) (w:AT) (cargs:List AG),Gd B->Sm B (fun _=>none) S [] w->args.length=cargs.length->(∀(i:Nat) d v,args[i]? =some d->cargs[i]? =some v->Rel (fun _=>none) S [] w d v)->
  B3 P f cargs.toArray w fun e w'=> ∃v,e= .returned v/\Au w.heap.size w w'/\RelD (fun b=>S b∨w.heap.size<=b/\b<w'.heap.size) w' x v
def Sm.empty{B:Bs}{S:Nat->Prop}{H:List Blk}(hS:Sm B σ S H w):Sm ⟨w,B.G,fun _=>False,S⟩ (fun _=>none) S [] w:=
 ⟨rfl,rfl,rfl,AW _,fun _ _ _=>rfl,fun _ h=>h,fun b hb=>⟨(hS.sUp b hb).1,.inl hb⟩,fun k b hk=>by simp at hk,fun k k' b hk=>by simp at hk,fun k C hC=>by simp at hC⟩
theorem Qld{fn:Func}{x:D}{n:Nat}(hf:P.funcs[f]? =some fn)(hb:fn.body=some c)(hn:fn.ntmps=n)(hrs:fn.results=rs.toArray)(hle:AO args.length n=true)
 (h:AWP P c (EndC P rs x) ⟨n,parA 0 args,[]⟩):PureF P f args x:=by
 have hlen:args.length<=n:=AC hle;intro B S w cargs hB hS hl hr;refine calls_of_wp hf hb ?_
 have hA:SmA ⟨w,B.G,fun _=>False,S⟩ (fun _=>none) S ⟨n,parA 0 args,[]⟩ {tmps:=cargs.toArray++AH (fn.ntmps -cargs.toArray.size) undef,defers:=[]} w:=by
  refine⟨hS.empty,rfl,?_,fun t=>?_⟩
  ·grind
  ·rcases QgE args 0 t with⟨d,_,h2,h3⟩|h
   ·simp only
    rw[h3];have ht:t<cargs.length:=by grind
    have:(cargs.toArray++AH (fn.ntmps -cargs.toArray.size) undef).getD t undef=cargs[t]:=by
     rw[AM,AN (by omega)];simp[ht]
    rw[this];exact hr t d _ (by omega) (A1 ht)
   ·simp only
    rw[h];exact .d _ _ (.any _)
 have hB':Gd ⟨w,B.G,fun _=>False,S⟩:=hB.again hS S;refine wp_mono (h _ hB' _ _ _ _ hA) ?_;rintro e a w' ⟨s',σ',S',hq,hA'⟩
 have fin:resC P s'.env rs=some x->a.defers=[]/\ ∃v,(results fn a.tmps).run P w'= .ok v w'/\ ∃v',AZ v= .returned v'/\Au w.heap.size w w'/\RelD (fun b=>S b∨w.heap.size<=b/\b<w'.heap.size) w' x v':=by
  intro hx;have hbel:Au w.heap.size w w':=⟨hA'.sm.os,hA'.sm.tape,hA'.sm.output,hA'.sm.size,fun k hk=>hA'.sm.keep k hk fun h=>h⟩
  have hup: ∀d v,RelD S' w' d v->RelD (fun b=>S b∨w.heap.size<=b/\b<w'.heap.size) w' d v:=fun d v h=>h.mono (fun b hb=>by
   obtain⟨h1,h2⟩:=hA'.sm.sUp b hb
   grind) fun _ _=>rfl
  refine⟨hA'.defers,?_⟩;obtain⟨n',env',H'⟩:=s'
  have gen: ∀vs,(rs.mapM (rvS a.tmps)).run P w'= .ok vs w'->(fn.results.mapM (rvS a.tmps)).run P w'= .ok vs.toArray w':=fun vs h=>by
   simp_all
  rw[QeX]
  by_cases h1:rs.length=1
  ·match rs,h1 with
   |[r],_=>
    obtain⟨vs,g1,g2,g3⟩:=Qg9 (P:=P) hA' [r] [x] (by
     have hx:rvC P env' r=some x:=hx
     simp[allO,hx])
    match vs,g2 with
    |[v],_=>
     refine⟨v,?_,_,rfl,hbel,hup _ _ (g3 0 x v rfl rfl)⟩;rw[A3,gen _ g1];rfl
  ·have hx':(allO (rs.map (rvC P env'))).map D.tup=some x:=by
    unfold resC at hx
    grind
   obtain⟨ds,hds,rfl⟩:=A0.1 hx';obtain⟨vs,g1,g2,g3⟩:=Qg9 (P:=P) hA' rs ds hds;have hvl:vs.length=rs.length:=by have:=congrArg Al (QkF hds);grind
   refine⟨.tuple vs.toArray,?_,_,rfl,hbel,.tup ds vs (by omega) fun i d v hd hv=>hup _ _ (g3 i d v hd hv)⟩
   simp_all
 cases e with
 |normal=>exact fin hq
 |ret=>exact fin hq
 |_=>exact hq.elim
def AV.pureA:AV->Bool
 |.d _=>true
 |.fn _ l=>(allD l).isSome
 |_=>false
theorem QpS{S:Nat->Prop}{H H':List Blk}{x:AV}{v:AG}(h:Rel σ S H w x v)(hx:x.pureA=true):Rel σ' S H' w x v:=by
 cases h with
 |d x v h=>exact .d _ _ h
 |fn f l cs hl hr=>
  obtain⟨ds,hds⟩:=Option.isSome_iff_exists.1 hx;have he:=Qf6 hds;refine .fn f l cs hl fun i d x hd hxx=>?_
  have h1:=hr i d x hd hxx;rw[he,AL] at hd;cases hdi:ds[i]? with
  |none=>grind
  |some d'=>
   rw[hdi] at hd;obtain rfl:=A6 hd;cases h1;exact .d _ _ (by assumption)
 |_=>cases hx
section
variable{dst:Option Ay}{ty:AD}{pos:String}{after:Array Am}{gd:Option (Nat×Bool)}{env:List (Nat×AV)}{H:List Blk}
def Qeq{x:D}
 (hf: ∀args w,(callFunc f args).run P w= .ok (.enter f args) w) (h:PureF P f args x) (hargs:xs.toList.map (aval env)=args) (hp:args.all AV.pureA=true):
 Loc P ⟨dst,.call ⟨.value (.func f),xs,tys⟩,ty,pos,after,gd⟩ env H (.d x) none:=by
 intro B σ S H' a w hB hS hop _ _ K Q k;obtain⟨cargs,h1,h2,h3⟩:=Qec (P:=P) (dst:=dst) (ty:=ty) (pos:=pos) (after:=after) (gd:=gd) (tys:=tys) hf σ S H' w a hop;unfold Ax;rw[h1,AS];rw[hargs] at h2 h3;refine(h _ S w cargs (hB.again hS S) hS.empty h2 fun i d v hd hv=>QpS (h3 i d v hd hv) (Ah.1 hp d (Ab hd))).mono ?_;rintro e w' ⟨v,rfl,hb,hr⟩;obtain⟨h3,h4⟩:=hS.below hb;exact k v w' σ _ h3 (.d _ _ hr) h4
theorem Qek{x:D}
 (hf: ∀args w,(callFunc f args).run P w= .ok (.enter f args) w) (h:Pure P f ds x) (ht:look env t= .fn (.func f) caps) (hd:allD (xs.toList.map (aval env)++caps)=some ds):
 Loc P ⟨dst,.call ⟨.value (.tmp t),xs,tys⟩,ty,pos,after,gd⟩ env H (.d x) none:=by
 intro B σ S H' a w hB hS hop _ _ K Q k;obtain⟨cargs,h1,h2,h3⟩:=QnW (P:=P) (dst:=dst) (ty:=ty) (pos:=pos) (after:=after) (gd:=gd) (tys:=tys) hf ht σ S H' w a hop;unfold Ax;rw[h1,AS];have he:=Qf6 hd;rw[he] at h2 h3;refine(h B σ S H' w cargs hB hS (by grind) fun i d v hdi hv=>?_).mono ?_
 ·have:=h3 i (.d d) v (by grind) hv
  cases this;omega
 rintro e w' ⟨v,rfl,hb,hr⟩;obtain⟨h3,h4⟩:=hS.below hb;exact k v w' σ _ h3 (.d _ _ hr) h4

/- Of ftw_card; no condition. -/
import Derived.Test.YthbonbflkdonkaaGreatDoorP05
import Derived.Deep.QuietTactic
import Derived.BigQuiet
import Derived.Deep.RegionHeld3
import Derived.Laws.StructEq
import Derived.Laws.DeepStrings4
set_option linter.all false
set_option maxRecDepth 100000
set_option maxHeartbeats 1000000
open Array renaming replicate->AU,toList_inj->AZ,ext'->Ap
open Go renaming Operand->A9,TypeId->AD,Value->AE,World->AK,Program->AL,ResultVar->AO,Exit->AQ,Oper->AX,IntKind->Af,BinOp->Ai,Calls->Aj,FuncId->Ak,Edge->Al,Code->As,Tmp->Au
open Go.Call renaming operands->AF
open Go.Op renaming operands->A2,intArith->Ab,stringOp->Ac,equalIn->Am
open Go.Oper renaming upon_enter->Ae
open Go.Proofs.Tryz renaming prog->A1
open Go.Result renaming andThen_ok->A7
open Go.Sem renaming run_bind->A5
open Go.Value renaming bool->An
open Go.Value.slice renaming injEq->Ar
open List renaming getElem?_eq_getElem->A0,mem_iff_getElem?->A6,getElem?_eq_some_iff->A8,getElem?_map->AJ,getElem?_append_left->AP,take_length->AR,mem_flatMap->AT,mem_cons_of_mem->AW,getElem?_drop->AY,not_mem_nil->Aa,replicate->Ag,drop_zero->Ah
open Nat renaming blt->AC,le_of_ble_eq_true->AG,ble->AN,le_mul_of_pos_right->AS,le_refl->Ad,mod_lt->Ao,beq->Aq
open Option renaming map_eq_some_iff->A4,bind_eq_some_iff->AB,map_some->AH,map_none->AI
open Option.some renaming injEq->A3,inj->AA
open Prod.mk renaming injEq->AM
namespace Go.Proofs.YthbonbflkdonkaaGreatDoor
noncomputable section
section
open Go.RowKit
namespace Pm
open Pl (dec dch)
def follows_mixed:A1.follows .mixedOrders=true:=by kernel_rfl
def optStr:Option Str->AE
 |some s=> .tuple #[.string ⟨s.toArray⟩,.bool true]
 |none=> .tuple #[.string ⟨#[]⟩,.bool false]
end Pm
end
section
open Go.RowKit
namespace Aw
variable{y c:A9}{T T':AD}{a b:Int}{m:List UInt8}{env':List (Nat×AV)}{ts:List Nat}{I:Nat->St->Prop}{X Y:As}
variable{P:AL}
class Ty (P:AL) (T:AD) (F:outParam TyF):Prop where
 h:tyf P T=some F
class TyBool (P:AL) (T:AD):Prop where
 h:P.underlying T=some .bool
def cmpI(op:Ai)(a b:Int):Option Bool:=
 match op with
 |.eql=>some (a==b)
 |.neq=>some (a !=b)
 |.lss=>some (decide (a<b))
 |.leq=>some (decide (a<=b))
 |.gtr=>some (decide (a>b))
 |.geq=>some (decide (a≥b))
 |_=>none
theorem Qge(l:List UInt8):(⟨l.toArray⟩:ByteArray).size=l.length:=by show l.toArray.size=_;simp
def QhW(l:List UInt8):(⟨l.toArray⟩:ByteArray).toList=l:=by
 simp
section
variable{dst:Option Au}{ty:AD}{pos:String}{after:Array Al}{gd:Option (Nat×Bool)}{env:List (Nat×AV)}{H:List Blk}
def loc_bin'{op:Ai}{x:A9}{X Y z:AE}(hx:(aval env x).conc=some X)(hy:(aval env y).conc=some Y)
 (h: ∀w,(do eqGuard op T x y X Y;binOp op T X Y:Sem AE).run P w= .ok z w):
 Loc P ⟨dst,.binOp op T x y T',ty,pos,after,gd⟩ env H (.d (.v z)) none:=
 QP fun σ S H' a w _ hop _=>by
  have h1:=AV.conc_rel (hop x (by simp[A2])) hx;have h2:=AV.conc_rel (hop y (by simp[A2])) hy;refine⟨z,?_,.d _ _ (.v _)⟩;simp only[execOp,h1,h2];rw[A5,h w];rfl
def Qek(op:Ai)(T:AD)(x y:A9)(k k':Af)(a b:Int)(w:AK):(eqGuard op T x y (.int k a) (.int k' b)).run P w= .ok () w:=by
 unfold eqGuard;simp
def QfS(op:Ai)(T:AD)(x y:A9)(a b:ByteArray)(w:AK):(eqGuard op T x y (.string a) (.string b)).run P w= .ok () w:=by
 unfold eqGuard;simp
def QjK(op:Ai)(T:AD)(x y:A9)(a b:Bool)(w:AK):(eqGuard op T x y (.bool a) (.bool b)).run P w= .ok () w:=by
 unfold eqGuard;simp
theorem loc_cmp{op:Ai}{x:A9}{k:Af}{r:Bool}(hx:aval env x= .d (.v (.int k a)))(hy:aval env y= .d (.v (.int k b)))(hr:cmpI op a b=some r):
 Loc P ⟨dst,.binOp op T x y T',ty,pos,after,gd⟩ env H (.d (.v (.bool r))) none:=
 loc_bin' (X:= .int k a) (Y:= .int k b) (by rw[hx];rfl) (by rw[hy];rfl) fun w=>by
  rw[A5,Qek,A7];cases op<;>simp only[cmpI,A3] at hr<;>first|(subst hr;show(if k≠k then _ else Op.intCmp _ a b).run P w=_;rw[if_neg (by simp)];rfl)|cases hr
theorem QiD{x:A9}(hx:aval env x= .d (.v (.int .i64 a)))(hy:aval env y= .d (.v (.int .i64 b)))(h: -9223372036854775808<=a+b/\a+b<=9223372036854775807):
 Loc P ⟨dst,.binOp .add T x y T',ty,pos,after,gd⟩ env H (.d (.v (.int .i64 (a+b)))) none:=
 loc_bin' (X:= .int .i64 a) (Y:= .int .i64 b) (by rw[hx];rfl) (by rw[hy];rfl) fun w=>by
  simp_all[Qek,binOp,Ab,Pm.Qgz]
theorem Qhx{x:A9}(hx:aval env x= .d (.v (.int .i64 a)))(hy:aval env y= .d (.v (.int .i64 b)))(h: -9223372036854775808<=a -b/\a -b<=9223372036854775807):
 Loc P ⟨dst,.binOp .sub T x y T',ty,pos,after,gd⟩ env H (.d (.v (.int .i64 (a -b)))) none:=
 loc_bin' (X:= .int .i64 a) (Y:= .int .i64 b) (by rw[hx];rfl) (by rw[hy];rfl) fun w=>by
  simp_all[Qek,binOp,Ab,Pm.Qgz]
theorem Qd3{x:A9}(hx:aval env x= .d (.v (.int .i64 a)))(hy:aval env y= .d (.v (.int .i64 b)))(h: -9223372036854775808<=a*b/\a*b<=9223372036854775807):
 Loc P ⟨dst,.binOp .mul T x y T',ty,pos,after,gd⟩ env H (.d (.v (.int .i64 (a*b)))) none:=
 loc_bin' (X:= .int .i64 a) (Y:= .int .i64 b) (by rw[hx];rfl) (by rw[hy];rfl) fun w=>by
  simp_all[Qek,binOp,Ab,Pm.Qgz]
def Qg6{x:A9}(hx:aval env x= .d (.v (.int .i64 a)))(hy:aval env y= .d (.v (.int .i64 b)))(ha:0<=a/\a<=9223372036854775807)(hb:0<b):
 Loc P ⟨dst,.binOp .quo T x y T',ty,pos,after,gd⟩ env H (.d (.v (.int .i64 (a/b)))) none:=
 loc_bin' (X:= .int .i64 a) (Y:= .int .i64 b) (by rw[hx];rfl) (by rw[hy];rfl) fun w=>by
  rw[A5,Qek,A7];have h1:a.tdiv b=a/b:=Int.tdiv_eq_ediv_of_nonneg ha.1;have h2:0<=a/b:=Int.ediv_nonneg ha.1 (by omega);have h3:a/b<=a:=Int.ediv_le_self b ha.1;simp[binOp,Op.intDiv,show b≠0 by omega,h1,Pm.Qgz (a/b) (by omega) (by omega)]
def Qg5{x:A9}(hx:aval env x= .d (.v (.int .i64 a)))(hy:aval env y= .d (.v (.int .i64 b)))(ha:0<=a)(hb:0<b):
 Loc P ⟨dst,.binOp .rem T x y T',ty,pos,after,gd⟩ env H (.d (.v (.int .i64 (a%b)))) none:=
 loc_bin' (X:= .int .i64 a) (Y:= .int .i64 b) (by rw[hx];rfl) (by rw[hy];rfl) fun w=>by
  rw[A5,Qek,A7];simp[binOp,Op.intDiv,show b≠0 by omega,Int.tmod_eq_emod_of_nonneg ha]
def Qdp{x:A9}{l:List UInt8}(hx:aval env x= .d (.v (.string ⟨l.toArray⟩)))(hy:aval env y= .d (.v (.string ⟨m.toArray⟩))):
 Loc P ⟨dst,.binOp .eql T x y T',ty,pos,after,gd⟩ env H (.d (.v (.bool (l==m)))) none:=
 loc_bin' (X:= .string ⟨l.toArray⟩) (Y:= .string ⟨m.toArray⟩) (by rw[hx];rfl) (by rw[hy];rfl) fun w=>by
  rw[A5,QfS,A7];simp only[binOp,Ac,QhW];rfl
def Qd8{x:A9}{l:List UInt8}(hx:aval env x= .d (.v (.string ⟨l.toArray⟩)))(hy:aval env y= .d (.v (.string ⟨m.toArray⟩))):
 Loc P ⟨dst,.binOp .neq T x y T',ty,pos,after,gd⟩ env H (.d (.v (.bool !(l==m)))) none:=
 loc_bin' (X:= .string ⟨l.toArray⟩) (Y:= .string ⟨m.toArray⟩) (by rw[hx];rfl) (by rw[hy];rfl) fun w=>by
  rw[A5,QfS,A7];simp only[binOp,Ac,QhW];rfl
def QjB{x:A9}{l:List UInt8}(hx:aval env x= .d (.v (.string ⟨l.toArray⟩)))(hy:aval env y= .d (.v (.string ⟨m.toArray⟩))):
 Loc P ⟨dst,.binOp .geq T x y T',ty,pos,after,gd⟩ env H (.d (.v (.bool !(Op.bytesLess l m)))) none:=
 loc_bin' (X:= .string ⟨l.toArray⟩) (Y:= .string ⟨m.toArray⟩) (by rw[hx];rfl) (by rw[hy];rfl) fun w=>by
  rw[A5,QfS,A7];simp only[binOp,Ac,QhW];rfl
def Qdf{x:A9}{l:List UInt8}(hx:aval env x= .d (.v (.string ⟨l.toArray⟩)))(hy:aval env y= .d (.v (.string ⟨m.toArray⟩)))(h:l.length+m.length<=9223372036854775807):
 Loc P ⟨dst,.binOp .add T x y T',ty,pos,after,gd⟩ env H (.d (.v (.string ⟨(l++m).toArray⟩))) none:=
 loc_bin' (X:= .string ⟨l.toArray⟩) (Y:= .string ⟨m.toArray⟩) (by rw[hx];rfl) (by rw[hy];rfl) fun w=>by
  rw[A5,QfS,A7];exact Pm.str_add l m h w
def Qf4{x:A9}{l m:Bool}(hT:P.underlying T=some .bool)(hx:aval env x= .d (.v (.bool l)))(hy:aval env y= .d (.v (.bool m))):
 Loc P ⟨dst,.binOp .eql T x y T',ty,pos,after,gd⟩ env H (.d (.v (.bool (l==m)))) none:=
 loc_bin' (X:= .bool l) (Y:= .bool m) (by rw[hx];rfl) (by rw[hy];rfl) fun w=>by
  rw[A5,QjK,A7];show(Am (9999+1) T (.bool l) (.bool m)>>=fun b=>pure (An b)).run P w=_;rw[A5,run_equalIn_bool' w 9999 T l m hT];rfl
def QeI{x:A9}{l m:Bool}(hT:P.underlying T=some .bool)(hx:aval env x= .d (.v (.bool l)))(hy:aval env y= .d (.v (.bool m))):
 Loc P ⟨dst,.binOp .neq T x y T',ty,pos,after,gd⟩ env H (.d (.v (.bool !(l==m)))) none:=
 loc_bin' (X:= .bool l) (Y:= .bool m) (by rw[hx];rfl) (by rw[hy];rfl) fun w=>by
  rw[A5,QjK,A7];show(Am (9999+1) T (.bool l) (.bool m)>>=fun b=>pure (An !b)).run P w=_;rw[A5,run_equalIn_bool' w 9999 T l m hT];rfl
theorem Qef{F:TyF}{x:A9}{l:List UInt8}{κ:Af}{i:Int}{c:UInt8}(hT:tyf P T=some F)(hs:F.str=true)(hx:aval env x= .d (.v (.string ⟨l.toArray⟩)))(hy:aval env y= .d (.v (.int κ i)))(h0:0<=i)(hc:l[i.toNat]? =some c):
 Loc P ⟨dst,.index T x y,ty,pos,after,gd⟩ env H (.d (.v (.int .u8 c.toNat))) none:=
 QP fun σ S H' a w _ hop _=>by
  have h1:=AV.conc_rel (hop x (by simp[A2])) (y:= .string ⟨l.toArray⟩) (by rw[hx];rfl);have h2:=AV.conc_rel (hop y (by simp[A2])) (y:= .int κ i) (by rw[hy];rfl);have hlt:i.toNat<l.length:=(A8.1 hc).1
  have hb:(⟨l.toArray⟩:ByteArray)[i.toNat]? =some c:=by
   have hsz:i.toNat<(⟨l.toArray⟩:ByteArray).size:=by grind [Qge]
   rw[getElem?_pos (⟨l.toArray⟩:ByteArray) i.toNat hsz]
   congr 1
   show l.toArray[i.toNat]=c
   grind
  exact⟨_,by simp_all[execOp,Instr.index,asIntOf,run_underlying,QfH],.d _ _ (.v _)⟩
end
section
variable{ops:Array AX}{Q:AQ->St->Prop}{K:St->Prop}{l:List AX}{n:Nat}{env:List (Nat×AV)}{H:List Blk}{d:Au}{op:Op}{ty:AD}{pos:String}{after:Array Al}{gd:Option (Nat×Bool)}{x:AV}{C:Blk}
def s1(hl:Loc P ⟨some d,op,ty,pos,after,gd⟩ env H x none)(hd:AC d n=true)(hg:gdOk ops n ⟨some d,op,ty,pos,after,gd⟩=true)(hw:awanted ops env ⟨some d,op,ty,pos,after,gd⟩=some true)
 (h:ASeq P ops Q l ⟨n,(d,x)::env,H⟩):ASeq P ops Q (⟨some d,op,ty,pos,after,gd⟩::l) ⟨n,env,H⟩:=
 QoA hl hd hg hw (by simpa[St.next,putE] using h)
def s2(hl:Loc P ⟨some d,op,ty,pos,after,gd⟩ env H x (some C))(hd:AC d n=true)(hg:gdOk ops n ⟨some d,op,ty,pos,after,gd⟩=true)(hw:awanted ops env ⟨some d,op,ty,pos,after,gd⟩=some true)
 (h:ASeq P ops Q l ⟨n,(d,x)::env,H++[C]⟩):ASeq P ops Q (⟨some d,op,ty,pos,after,gd⟩::l) ⟨n,env,H⟩:=
 QoA hl hd hg hw (by simpa[St.next,putE] using h)
def s0(hw:awanted ops env ⟨some d,op,ty,pos,after,gd⟩=some false)(hd:AC d n=true)(hg:gdOk ops n ⟨some d,op,ty,pos,after,gd⟩=true)
 (h:ASeq P ops Q l ⟨n,(d,.d (.v undef))::env,H⟩):ASeq P ops Q (⟨some d,op,ty,pos,after,gd⟩::l) ⟨n,env,H⟩:=
 Qs1 hw hd hg (by simpa[St.next,putE] using h)
def d1(hl:Loc P ⟨some d,op,ty,pos,after,gd⟩ env H x none)(hd:AC d n=true)(hw:awanted ops env ⟨some d,op,ty,pos,after,gd⟩=some true)
 (h:ADraw P ops K l ⟨n,(d,x)::env,H⟩):ADraw P ops K (⟨some d,op,ty,pos,after,gd⟩::l) ⟨n,env,H⟩:=
 Qmr hl hd hw (by simpa[St.next,putE] using h)
def d2(hl:Loc P ⟨some d,op,ty,pos,after,gd⟩ env H x (some C))(hd:AC d n=true)(hw:awanted ops env ⟨some d,op,ty,pos,after,gd⟩=some true)
 (h:ADraw P ops K l ⟨n,(d,x)::env,H++[C]⟩):ADraw P ops K (⟨some d,op,ty,pos,after,gd⟩::l) ⟨n,env,H⟩:=
 Qmr hl hd hw (by simpa[St.next,putE] using h)
def d0(hw:awanted ops env ⟨some d,op,ty,pos,after,gd⟩=some false)(hd:AC d n=true)
 (h:ADraw P ops K l ⟨n,(d,.d (.v undef))::env,H⟩):ADraw P ops K (⟨some d,op,ty,pos,after,gd⟩::l) ⟨n,env,H⟩:=
 QpV hw hd (by simpa[St.next,putE] using h)
end
def D.conc:D->Option AE
 |.v x=>some x
 |.agg l=>(D.vals l).map fun vs=> .agg vs.toArray
 |_=>none
def concL:List D->Option (List AE)
 |[]=>some []
 |d::r=>match d.conc,concL r with
  |some x,some xs=>some (x::xs)
  |_,_=>none
theorem QfY{S:Nat->Prop}{w:AK}: ∀{l:List D} {vs cs:List AE},concL l=some vs->l.length=cs.length->(∀(i:Nat) d v,l[i]? =some d->cs[i]? =some v->RelD S w d v)->cs=vs
 |[],vs,cs,h,hl,_=>by
  grind [concL]
 |d::r,vs,[],h,hl,_=>by simp at hl
 |d::r,vs,c::cs,h,hl,hr=>by
  simp only[concL] at h;cases hd:d.conc with
  |none=>grind
  |some x=>
   cases hv:concL r with
   |none=>grind
   |some xs=>
    rw[hd,hv] at h;obtain rfl:=AA h;have h0:=AV.conc_rel (σ:=fun _=>none) (H:=[]) (.d _ _ (hr 0 d c rfl rfl)) (y:=x) (by cases d<;>simp_all[D.conc,AV.conc]);subst h0;have h3:=QfY (cs:=cs) hv (by grind) fun i d x hd hx=>hr (i+1) d x (by grind) (by grind)
    rw[h3]
theorem Qd5{f:Ak}{args:List D}{vs:List AE}{x:AE}(ha:concL args=some vs)
 (h: ∀w,Pm.Lt w->Aj P f vs.toArray w fun e w'=>e= .returned x/\Below w.heap.size w w'):Pure P f args (D.ofV x):=by
 intro B σ S H w cargs hB hS hl hr;obtain rfl:=QfY ha hl hr;refine(h w (hB.ltOf hS)).mono ?_
 grind [D.ofV_rel]
variable{P:AL}
theorem tyf_of{F:TyF} [h:Ty P T F]:tyf P T=some F:=h.h
def evPick(X Y:AV):AV->Option (AV×Option Blk)
 |.d (.v (.bool b))=>some (bif b then X else Y,none)
 |_=>none
def evNot:AV->Option (AV×Option Blk)
 |.d (.v (.bool b))=>some (.d (.v (.bool !b)),none)
 |_=>none
def evLoad(H:List Blk)(F:TyF):AV->Option (AV×Option Blk)
 |.d (.pd cells)=>(ldD F cells).map fun x=>(.d x,none)
 |.ptr k g o=>match H[k]? with
  |some (.row g' cells)=>if g'=g then(ldA F (cells.drop o)).map fun x=>(x,none) else none
  |_=>none
 |.ept k g i j=>match H[k]? with
  |some (.arr g' _ _ rows)=>if g'=g then(rows[i]?.bind fun r=>ldD F (r.drop j)).map fun x=>(.d x,none) else none
  |_=>none
 |_=>none
def evField(H:List Blk)(o:Nat):AV->Option (AV×Option Blk)
 |.d (.pd cells)=>some (.d (.pd (cells.drop o)),none)
 |.ptr k g q=>match H[k]? with
  |some (.row g' _)=>if g'=g then some (.ptr k g (q+o),none) else none
  |_=>none
 |.ept k g i q=>match H[k]? with
  |some (.arr g' _ _ _)=>if g'=g then some (.ept k g i (q+o),none) else none
  |_=>none
 |_=>none
def QkC(H:List Blk)(x:AV):Option (Nat×Nat)->Option (AV×Option Blk)
 |some (o,n)=>bif AC 0 n then evField H o x else none
 |none=>none
def evBin(op:Ai):AV->AV->Option (AV×Option Blk)
 |.d (.v (.int k a)),.d (.v (.int k' b))=>bif decide (k=k') then(cmpI op a b).map fun r=>(.d (.v (.bool r)),none) else none
 |_,_=>none
def evLen(H:List Blk)(F:TyF):AV->Option (AV×Option Blk)
 |.d (.sl _ _ rows)=>bif F.elem.isSome then some (.d (.v (.int .i64 (rows.length:Nat))),none) else none
 |.osl k g _ len=>match H[k]? with
  |some (.arr g' _ _ _)=>bif F.elem.isSome then(if g'=g then some (.d (.v (.int .i64 (len:Nat))),none) else none) else none
  |_=>none
 |.d (.v (.slice none 0 0))=>bif F.elem.isSome then some (.d (.v (.int .i64 0)),none) else none
 |.d (.v (.string s))=>bif F.str then some (.d (.v (.int .i64 (s.size:Nat))),none) else none
 |_=>none
def QiU(i:Nat):AV->Option (AV×Option Blk)
 |.d (.tup l)=>l[i]?.map fun x=>(.d x,none)
 |.tup l=>l[i]?.map fun x=>(x,none)
 |_=>none
def evCall(P:AL)(env:List (Nat×AV))(H:List Blk):Callee->List A9->List AD->Option (AV×Option Blk)
 |.builtin .len,[u],[T]=>(tyf P T).bind fun F=>evLen H F (aval env u)
 |_,_,_=>none
def evOp(P:AL)(env:List (Nat×AV))(H:List Blk):Op->Option (AV×Option Blk)
 |.move u=>some (aval env u,none)
 |.assign u=>some (aval env u,none)
 |.pick c x y=>evPick (aval env x) (aval env y) (aval env c)
 |.unOp .not _ u=>evNot (aval env u)
 |.load T u=>(tyf P T).bind fun F=>evLoad H F (aval env u)
 |.fieldAddr T u f=>(tyf P T).bind fun F=>QkC H (aval env u) F.fields[f]?
 |.binOp op _ x y _=>evBin op (aval env x) (aval env y)
 |.box _ u=>(aval env u).cells.map fun l=>(.ptr H.length 0 0,some (.row 0 l))
 |.alloc T=>(tyf P T).map fun F=>(.ptr H.length 0 0,some (.row 0 (F.zero.map fun v=> .d (.v v))))
 |.build T parts=>(tyf P T).bind fun F=>F.places.bind fun pl=>(fillA (fun i=>pl[i]?) env (F.zero.map fun v=> .d (.v v)) parts.toList).map fun res=>(AV.mk res,none)
 |.extract u i=>QiU i (aval env u)
 |.call c=>evCall P env H c.callee c.args.toList c.argTypes.toList
 |_=>none
theorem QiT{dst:Option Au}{op:Op}{ty:AD}{pos:String}{after:Array Al}{gd:Option (Nat×Bool)}{env:List (Nat×AV)}{H:List Blk}{x:AV}{nb:Option Blk}
 (h:evOp P env H op=some (x,nb)):Loc P ⟨dst,op,ty,pos,after,gd⟩ env H x nb:=by
 unfold evOp at h;split at h
 ·grind [QnX]
 ·grind [Qpm]
 ·unfold evPick at h
  split at h
  ·simp only[A3,AM] at h;obtain⟨rfl,rfl⟩:=h
   exact Qtm (by assumption) rfl rfl
  ·cases h
 ·unfold evNot at h
  grind [loc_not]
 ·rename_i T u
  obtain⟨F,hF,h⟩:=AB.1 h;unfold evLoad at h;split at h
  ·obtain⟨y,hy,h⟩:=A4.1 h
   grind [QmL]
  ·split at h
   ·rename_i hk
    split at h;rotate_left
    ·cases h
    rename_i hg;subst hg;obtain⟨y,hy,h⟩:=A4.1 h
    grind [Qde]
   ·cases h
  ·split at h
   ·rename_i hk
    split at h;rotate_left
    ·cases h
    rename_i hg;subst hg;obtain⟨y,hy,h⟩:=A4.1 h
    grind [Qdg]
   ·cases h
  ·cases h
 ·rename_i T u f
  obtain⟨F,hF,h⟩:=AB.1 h;unfold QkC at h;split at h
  ·rename_i o n hf
   cases hn:AC 0 n with
   |false=>grind
   |true=>
    rw[hn] at h;simp only[cond_true] at h;unfold evField at h;split at h
    ·simp only[A3,AM] at h;obtain⟨rfl,rfl⟩:=h
     exact QlG hF (by assumption) hf hn
    ·split at h
     ·rename_i hk
      split at h;rotate_left
      ·cases h
      rename_i hg;subst hg;simp only[A3,AM] at h;obtain⟨rfl,rfl⟩:=h;exact Qf3 hF (by assumption) hk hf hn
     ·cases h
    ·split at h
     ·rename_i hk
      split at h;rotate_left
      ·cases h
      rename_i hg;subst hg;simp only[A3,AM] at h;obtain⟨rfl,rfl⟩:=h;exact Qkw hF (by assumption) hk hf hn
     ·cases h
    ·cases h
  ·cases h
 ·unfold evBin at h
  split at h
  ·rename_i k a k' b hx hy
   cases hk:decide (k=k') with
   |false=>grind
   |true=>
    rw[hk] at h;obtain⟨r,hr,h⟩:=A4.1 h
    grind [loc_cmp]
  ·cases h
 ·obtain⟨l,hl,h⟩:=A4.1 h
  grind [loc_box]
 ·obtain⟨F,hF,h⟩:=A4.1 h
  grind [Qrj]
 ·obtain⟨F,hF,h⟩:=AB.1 h
  obtain⟨pl,hpl,h⟩:=AB.1 h;obtain⟨res,hr,h⟩:=A4.1 h
  grind [Qrh]
 ·unfold QiU at h
  grind [Qkx,QmQ]
 ·rename_i c
  obtain⟨callee,args,tys⟩:=c;simp only at h;unfold evCall at h;split at h;rotate_left
  ·cases h
  rename_i u T ha hT;obtain rfl:args= #[u]:=AZ.1 ha;obtain rfl:tys= #[T]:=AZ.1 hT;obtain⟨F,hF,h⟩:=AB.1 h;unfold evLen at h;split at h
  ·rename_i hu
   cases he:F.elem with
   |none=>grind
   |some e=>
    grind [Qpl]
  ·rename_i hu
   split at h
   ·rename_i hk
    cases he:F.elem with
    |none=>grind
    |some e=>
     grind [QmO]
   ·cases h
  ·rename_i hu
   cases he:F.elem with
   |none=>grind
   |some e=>
    rw[he] at h;simp only[Option.isSome_some,cond_true,A3,AM] at h;obtain⟨rfl,rfl⟩:=h
    exact QP fun σ S H' a w _ hop _=>by
     have h:=AV.conc_rel (hop u (by simp[A2,AF])) (y:= .slice none 0 0) (by rw[hu];rfl);exact⟨_,by simp[execOp,resolve,invoke,builtin,Builtin.len_,h,goInt,run_underlying (QdB hF he)];try rfl,.d _ _ (.v _)⟩
  ·grind [QmM]
  ·cases h
 ·cases h
theorem natBeq(n m:Nat):Aq n m=decide (n=m):=by
 cases h:Aq n m
 ·exact(decide_eq_false fun e=>by simp_all).symm
 simp_all
theorem natBle(n m:Nat):AN n m=decide (n<=m):=by
 cases h:AN n m
 ·grind [Nat.ble_eq_true_of_le]
 simp_all
theorem natBlt(n m:Nat):AC n m=decide (n<m):=natBle _ _
attribute [go_sem] evOp evPick evNot evLoad evField QkC evBin evLen QiU evCall aval look D.ofV tyf_of Option.bind_some Option.map_some ldD ldA AV.mk allD cond_true cond_false List.take_succ_cons List.take_zero List.drop_succ_cons List.drop_zero List.head?_cons List.map_cons List.map_nil List.length_cons List.length_nil List.getElem?_cons_zero List.getElem?_cons_succ Nat.zero_add cmpI AV.cells D.cells Value.oneCell' fillA setAt natBeq natBle natBlt decide_true decide_false Bool.not_true Bool.not_false Option.isSome_some List.set_cons_zero List.set_cons_succ Bool.and_self Bool.and_true Bool.true_and List.length_map resD rvA List.size_toArray Qge
section
variable{ops:Array AX}{Q:AQ->St->Prop}{K:St->Prop}{l:List AX}{n:Nat}{env:List (Nat×AV)}{H H':List Blk}{d:Au}{op:Op}{ty:AD}{pos:String}{after:Array Al}{gd:Option (Nat×Bool)}{x:AV}{C:Blk}
def e1(hw:awanted ops env ⟨some d,op,ty,pos,after,gd⟩=some true:=by rfl)(h: ∀R:Option (AV×Option Blk)->Prop,R (some (x,none))->R (evOp P env H op):=by intro R hR;simp only[go_sem,Nat.reduceEqDiff,Nat.reduceAdd,Nat.reduceLT,Nat.reduceLeDiff,↓reduceIte,reduceCtorEq];exact hR)
 (hd:AC d n=true:=by rfl) (hg:gdOk ops n ⟨some d,op,ty,pos,after,gd⟩=true:=by rfl)
 (k:ASeq P ops Q l ⟨n,(d,x)::env,H⟩):ASeq P ops Q (⟨some d,op,ty,pos,after,gd⟩::l) ⟨n,env,H⟩:=s1 (QiT (h (fun r=>r=some (x,none)) rfl)) hd hg hw k
theorem e2(hw:awanted ops env ⟨some d,op,ty,pos,after,gd⟩=some true:=by rfl)(h: ∀R:Option (AV×Option Blk)->Prop,R (some (x,some C))->R (evOp P env H op):=by intro R hR;simp only[go_sem,Nat.reduceEqDiff,Nat.reduceAdd,Nat.reduceLT,Nat.reduceLeDiff,↓reduceIte,reduceCtorEq];exact hR)
 (hd:AC d n=true:=by rfl) (hg:gdOk ops n ⟨some d,op,ty,pos,after,gd⟩=true:=by rfl)
 (hH: ∀R:List Blk->Prop,R H'->R (H++[C]):=by intro R hR;simp only[List.cons_append,List.nil_append];exact hR)
 (k:ASeq P ops Q l ⟨n,(d,x)::env,H'⟩):ASeq P ops Q (⟨some d,op,ty,pos,after,gd⟩::l) ⟨n,env,H⟩:=s2 (QiT (h (fun r=>r=some (x,some C)) rfl)) hd hg hw (by have:=hH (fun r=>r=H') rfl;grind)
def e0(hw:awanted ops env ⟨some d,op,ty,pos,after,gd⟩=some false:=by rfl)(hd:AC d n=true:=by rfl)(hg:gdOk ops n ⟨some d,op,ty,pos,after,gd⟩=true:=by rfl)
 (k:ASeq P ops Q l ⟨n,(d,.d (.v undef))::env,H⟩):ASeq P ops Q (⟨some d,op,ty,pos,after,gd⟩::l) ⟨n,env,H⟩:=s0 hw hd hg k
def f1(hw:awanted ops env ⟨some d,op,ty,pos,after,gd⟩=some true:=by rfl)(h: ∀R:Option (AV×Option Blk)->Prop,R (some (x,none))->R (evOp P env H op):=by intro R hR;simp only[go_sem,Nat.reduceEqDiff,Nat.reduceAdd,Nat.reduceLT,Nat.reduceLeDiff,↓reduceIte,reduceCtorEq];exact hR)
 (hd:AC d n=true:=by rfl)
 (k:ADraw P ops K l ⟨n,(d,x)::env,H⟩):ADraw P ops K (⟨some d,op,ty,pos,after,gd⟩::l) ⟨n,env,H⟩:=d1 (QiT (h (fun r=>r=some (x,none)) rfl)) hd hw k
theorem f2(hw:awanted ops env ⟨some d,op,ty,pos,after,gd⟩=some true:=by rfl)(h: ∀R:Option (AV×Option Blk)->Prop,R (some (x,some C))->R (evOp P env H op):=by intro R hR;simp only[go_sem,Nat.reduceEqDiff,Nat.reduceAdd,Nat.reduceLT,Nat.reduceLeDiff,↓reduceIte,reduceCtorEq];exact hR)
 (hd:AC d n=true:=by rfl)
 (hH: ∀R:List Blk->Prop,R H'->R (H++[C]):=by intro R hR;simp only[List.cons_append,List.nil_append];exact hR)
 (k:ADraw P ops K l ⟨n,(d,x)::env,H'⟩):ADraw P ops K (⟨some d,op,ty,pos,after,gd⟩::l) ⟨n,env,H⟩:=d2 (QiT (h (fun r=>r=some (x,some C)) rfl)) hd hw (by have:=hH (fun r=>r=H') rfl;grind)
def f0(hw:awanted ops env ⟨some d,op,ty,pos,after,gd⟩=some false:=by rfl)(hd:AC d n=true:=by rfl)
 (k:ADraw P ops K l ⟨n,(d,.d (.v undef))::env,H⟩):ADraw P ops K (⟨some d,op,ty,pos,after,gd⟩::l) ⟨n,env,H⟩:=d0 hw hd k
def stepS(hl:Loc P ⟨some d,op,ty,pos,after,gd⟩ env H x none)(hw:awanted ops env ⟨some d,op,ty,pos,after,gd⟩=some true:=by rfl)(hd:AC d n=true:=by rfl)(hg:gdOk ops n ⟨some d,op,ty,pos,after,gd⟩=true:=by rfl)
 (k:ASeq P ops Q l ⟨n,(d,x)::env,H⟩):ASeq P ops Q (⟨some d,op,ty,pos,after,gd⟩::l) ⟨n,env,H⟩:=s1 hl hd hg hw k
def stepD(hl:Loc P ⟨some d,op,ty,pos,after,gd⟩ env H x none)(hd:AC d n=true:=by rfl)(hw:awanted ops env ⟨some d,op,ty,pos,after,gd⟩=some true:=by rfl)
 (k:ADraw P ops K l ⟨n,(d,x)::env,H⟩):ADraw P ops K (⟨some d,op,ty,pos,after,gd⟩::l) ⟨n,env,H⟩:=d1 hl hd hw k
end
def QfE{ops:Array AX}{Q:AQ->St->Prop}{y:As}{s:St}(h:AWP P y Q s):ASeq P ops (thenA (AWP P y Q) Q) [] s:=Qho h
def Qms{ops:Array AX}{Q:AQ->St->Prop}{y:As}{s:St}(h:AWP P y Q s):ADraw P ops (thenA (AWP P y Q) Q .normal) [] s:=h
def Qjj{x y:As}{Q:AQ->St->Prop}{s:St}(h:AWP P x (thenA (AWP P y Q) Q) s):AWP P (.seq x y) Q s:=awp_seq fun K hK=>fun B hB σ S a w hA=>by
 refine wp_mono (h B hB σ S a w hA) ?_;rintro e a w ⟨s',σ',S',hq,hA'⟩;cases e with
 |normal=>exact⟨s',σ',S',hK _ hq,hA'⟩
 |_=>exact⟨s',σ',S',hq,hA'⟩
theorem Qa(k:Nat){C:Blk}{c:As}{Q:AQ->St->Prop}{n:Nat}{env:List (Nat×AV)}{H H':List Blk}(hC:H[k]? =some C:=by rfl)
 (he: ∀R:List (Nat×AV)->Prop,R env'->R (frzE k C env):=by intro R hR;simp only[frzE,AV.frz,AV.frzL,Blk.gen,Blk.iceP,Blk.iceS,Blk.iceM,AV.data,beq_self_eq_true,Nat.reduceBEq,Bool.and_self,Bool.and_true,Bool.true_and,Bool.false_and,Bool.and_false,cond_true,cond_false,List.drop_zero,List.drop_succ_cons,List.map_cons,List.map_nil];exact hR)
 (hh: ∀R:List Blk->Prop,R H'->R ((H.set k C.dead).map (Blk.frz k C)):=by intro R hR;simp only[Blk.dead,Blk.frz,AV.frz,AV.frzL,Blk.gen,Blk.iceP,Blk.iceS,Blk.iceM,AV.data,List.set_cons_zero,List.set_cons_succ,List.map_cons,List.map_nil,Nat.zero_add,beq_self_eq_true,Nat.reduceBEq,Bool.and_self,Bool.and_true,Bool.true_and,Bool.false_and,Bool.and_false,cond_true,cond_false,List.drop_zero,List.drop_succ_cons];exact hR)
 (h:AWP P c Q ⟨n,env',H'⟩):AWP P c Q ⟨n,env,H⟩:=by
 have h1:=he (fun r=>r=env') rfl;have h2:=hh (fun r=>r=H') rfl
 grind [Qgr,Qg0]
def Qb{Q:AQ->St->Prop}{n:Nat}{env:List (Nat×AV)}{H:List Blk}{rs:List AO}{x y:D}(hq:Q .ret ⟨n,env,H⟩=(resD env rs=some x):=by rfl)
 (h: ∀R:Option D->Prop,R (some y)->R (resD env rs):=by intro R hR;simp only[go_sem,Nat.reduceEqDiff,Nat.reduceAdd,Nat.reduceLT,Nat.reduceLeDiff,↓reduceIte,reduceCtorEq];exact hR) (hx:y=x):AWP P .ret Q ⟨n,env,H⟩:=
 QgK (by rw[hq];exact hx▸h (fun r=>r=some y) rfl)
def Qn3{K:St->Prop}{Q:AQ->St->Prop}{s:St}(h:K s):thenA K Q .normal s:=h
def Qjo{ops:Array AX}{K:St->Prop}{Q:AQ->St->Prop}{s:St}(h:K s):ASeq P ops (thenA K Q) [] s:=Qho h
def QjY{ops:Array AX}{K:St->Prop}{s:St}(h:K s):ADraw P ops K [] s:=h
def Back(I:Nat->St->Prop)(_ts:List Nat)(_m n:Nat)(s:St):Prop:= ∃s1 n1,Weak s s1/\n1<n/\I n1 s1
def Qq(I:Nat->St->Prop)(ts:List Nat)(m:Nat)(n0:Nat){c:As}{Q:AQ->St->Prop}{n:Nat}{env:List (Nat×AV)}{H:List Blk}
 (h0:I n0 ⟨n,keepE env ts,H.take m⟩) (h1:envLt m (keepE env ts)=true:=by rfl) (h2:(H.take m).all (Blk.lt m)=true:=by rfl)
 (round: ∀n s,I n s->AWP P c (thenA (Back I ts m n) Q) s):AWP P (.loop c) Q ⟨n,env,H⟩:=by
 refine Qua I n0 (QgM ts m rfl rfl h1 h2) h0 fun n s hI=>?_
 intro B hB σ S a w hA;refine wp_mono (round n s hI B hB σ S a w hA) ?_;rintro e a w ⟨s',σ',S',hq,hA'⟩;cases e with
 |normal=>
  exact⟨s',σ',S',hq,hA'⟩
 |_=>exact⟨s',σ',S',hq,hA'⟩
def Qg{m n:Nat}{s:St}(n1:Nat)(h1:n1<n)(h2:I n1 ⟨s.n,keepE s.env ts,s.H.take m⟩)(h3:envLt m (keepE s.env ts)=true:=by rfl)(h4:(s.H.take m).all (Blk.lt m)=true:=by rfl):
 Back I ts m n s:=⟨_,n1,QgM ts m rfl rfl h3 h4,h1,h2⟩
theorem Qjk(k:Nat){C:Blk}{m n N:Nat}{env:List (Nat×AV)}{H H':List Blk}(hC:H[k]? =some C:=by rfl)
 (he: ∀R:List (Nat×AV)->Prop,R env'->R (frzE k C env):=by intro R hR;simp only[frzE,AV.frz,AV.frzL,Blk.gen,Blk.iceP,Blk.iceS,Blk.iceM,AV.data,beq_self_eq_true,Nat.reduceBEq,Bool.and_self,Bool.and_true,Bool.true_and,Bool.false_and,Bool.and_false,cond_true,cond_false,List.drop_zero,List.drop_succ_cons,List.map_cons,List.map_nil];exact hR)
 (hh: ∀R:List Blk->Prop,R H'->R ((H.set k C.dead).map (Blk.frz k C)):=by intro R hR;simp only[Blk.dead,Blk.frz,AV.frz,AV.frzL,Blk.gen,Blk.iceP,Blk.iceS,Blk.iceM,AV.data,List.set_cons_zero,List.set_cons_succ,List.map_cons,List.map_nil,Nat.zero_add,beq_self_eq_true,Nat.reduceBEq,Bool.and_self,Bool.and_true,Bool.true_and,Bool.false_and,Bool.and_false,cond_true,cond_false,List.drop_zero,List.drop_succ_cons];exact hR)
 (h:Back I ts m n ⟨N,env',H'⟩):Back I ts m n ⟨N,env,H⟩:=by
 have h1:=he (fun r=>r=env') rfl;have h2:=hh (fun r=>r=H') rfl;subst h1;subst h2;obtain⟨s1,n1,h3,h4,h5⟩:=h;exact⟨s1,n1,(Qg0 k hC).trans h3,h4,h5⟩
def aw_cond{b:Bool}{Q:AQ->St->Prop}{n:Nat}{env:List (Nat×AV)}{H:List Blk}
 (hc: ∀R:AV->Prop,R (.d (.v (.bool b)))->R (aval env c):=by intro R hR;simp only[go_sem,Nat.reduceEqDiff,Nat.reduceAdd,Nat.reduceLT,Nat.reduceLeDiff,↓reduceIte,reduceCtorEq];exact hR)
 (ht:b=true->AWP P X Q ⟨n,env,H⟩) (hf:b=false->AWP P Y Q ⟨n,env,H⟩):AWP P (.cond c X Y) Q ⟨n,env,H⟩:=
 QkR (hc (fun r=>r= .d (.v (.bool b))) rfl) ht hf
theorem QkW{Q:AQ->St->Prop}{n:Nat}{env:List (Nat×AV)}{H:List Blk}
 (hc:aval env c= .d (.v (.bool true)):=by rfl) (ht:AWP P X Q ⟨n,env,H⟩):AWP P (.cond c X Y) Q ⟨n,env,H⟩:=by grind [QkR]
theorem QkX{Q:AQ->St->Prop}{n:Nat}{env:List (Nat×AV)}{H:List Blk}
 (hc:aval env c= .d (.v (.bool false)):=by rfl) (hf:AWP P Y Q ⟨n,env,H⟩):AWP P (.cond c X Y) Q ⟨n,env,H⟩:=by grind [QkR]
def Qqa{K:St->Prop}{Q:AQ->St->Prop}{id:Nat}{s:St}(h:Q (.exit id) s):thenA K Q (.exit id) s:=h
def Qmt{Q:AQ->St->Prop}{id:Nat}{s:St}(h:Q .normal s):blockA id Q (.exit id) s:=by simpa[blockA] using h
theorem Qkd{Q:AQ->St->Prop}{id id':Nat}{s:St}(hn:Aq id' id=false:=by rfl)(h:Q (.exit id') s):blockA id Q (.exit id') s:=by
 have:id'≠id:=fun e=>by simp_all
 grind [blockA]
def QmE{Q:AQ->St->Prop}{id:Nat}{s:St}(h:Q .normal s):blockA id Q .normal s:=h
theorem splitD{ops:Array AX}{K:St->Prop}{l:List AX}{n:Nat}{env:List (Nat×AV)}{H:List Blk}{d:Au}{b:Bool}
 (ht:b=true->ADraw P ops K l ⟨n,(d,.d (.v (.bool true)))::env,H⟩) (hf:b=false->ADraw P ops K l ⟨n,(d,.d (.v (.bool false)))::env,H⟩):ADraw P ops K l ⟨n,(d,.d (.v (.bool b)))::env,H⟩:=by
 cases b
 ·grind
 grind
theorem splitS{ops:Array AX}{Q:AQ->St->Prop}{l:List AX}{n:Nat}{env:List (Nat×AV)}{H:List Blk}{d:Au}{b:Bool}
 (ht:b=true->ASeq P ops Q l ⟨n,(d,.d (.v (.bool true)))::env,H⟩) (hf:b=false->ASeq P ops Q l ⟨n,(d,.d (.v (.bool false)))::env,H⟩):ASeq P ops Q l ⟨n,(d,.d (.v (.bool b)))::env,H⟩:=by
 cases b
 ·grind
 ·exact ht rfl
end Aw
end
section
namespace Aw
instance TB_4:TyBool A1 4:=⟨by kernel_rfl⟩
instance T_3:Ty A1 3 ⟨false,1,8,[.int .i64 0],none,[],none,false⟩:=⟨by kernel_rfl⟩
instance T_4:Ty A1 4 ⟨false,1,1,[.bool false],none,[],none,false⟩:=⟨by kernel_rfl⟩
instance T_5:Ty A1 5 ⟨false,1,1,[.int .u8 0],none,[],none,false⟩:=⟨by kernel_rfl⟩
instance T_9:Ty A1 9 ⟨false,1,16,[.string ⟨#[]⟩],none,[],none,true⟩:=⟨by kernel_rfl⟩
instance T_22:Ty A1 22 ⟨false,1,24,[.slice none 0 0],some 5,[],none,false⟩:=⟨by kernel_rfl⟩
instance T_23:Ty A1 23 ⟨false,1,24,[.slice none 0 0],some 9,[],none,false⟩:=⟨by kernel_rfl⟩
instance T_24:Ty A1 24 ⟨false,1,24,[.slice none 0 0],some 3,[],none,false⟩:=⟨by kernel_rfl⟩
instance T_26:Ty A1 26 ⟨true,2,48,[.slice none 0 0,.slice none 0 0],none,[(0,1),(1,1)],some [(0,1),(1,1)],false⟩:=⟨by kernel_rfl⟩
instance T_27:Ty A1 27 ⟨false,1,24,[.slice none 0 0],some 31,[],none,false⟩:=⟨by kernel_rfl⟩
instance T_29:Ty A1 29 ⟨true,8,144,[.slice none 0 0,.slice none 0 0,.slice none 0 0,.int .i64 0,.slice none 0 0,.int .i64 0,.slice none 0 0,.bool false],none,[(0,1),(1,2),(3,1),(4,1),(5,1),(6,1),(7,1)],some [(0,1),(1,2),(3,1),(4,1),(5,1),(6,1),(7,1)],false⟩:=⟨by kernel_rfl⟩
instance T_31:Ty A1 31 ⟨true,5,40,[.int .i64 0,.int .i64 0,.int .i64 0,.int .i64 0,.int .i64 0],none,[(0,1),(1,1),(2,1),(3,1),(4,1)],some [(0,1),(1,1),(2,1),(3,1),(4,1)],false⟩:=⟨by kernel_rfl⟩
instance T_33:Ty A1 33 ⟨true,7,56,[.int .i64 0,.int .i64 0,.int .i64 0,.int .i64 0,.int .i64 0,.int .i64 0,.int .i64 0],none,[(0,5),(5,1),(6,1)],some [(0,5),(5,1),(6,1)],false⟩:=⟨by kernel_rfl⟩
instance T_48:Ty A1 48 ⟨false,1,24,[.slice none 0 0],some 61,[],none,false⟩:=⟨by kernel_rfl⟩
instance T_49:Ty A1 49 ⟨false,1,24,[.slice none 0 0],some 53,[],none,false⟩:=⟨by kernel_rfl⟩
instance T_51:Ty A1 51 ⟨true,2,48,[.slice none 0 0,.slice none 0 0],none,[(0,1),(1,1)],some [(0,1),(1,1)],false⟩:=⟨by kernel_rfl⟩
instance T_53:Ty A1 53 ⟨true,3,32,[.int .i64 0,.bool false,.string ⟨#[]⟩],none,[(0,1),(1,1),(2,1)],some [(0,1),(1,1),(2,1)],false⟩:=⟨by kernel_rfl⟩
instance T_61:Ty A1 61 ⟨true,2,24,[.string ⟨#[]⟩,.int .i64 0],none,[(0,1),(1,1)],some [(0,1),(1,1)],false⟩:=⟨by kernel_rfl⟩
instance T_68:Ty A1 68 ⟨true,10,80,[.int .i64 0,.int .i64 0,.int .i64 0,.int .i64 0,.int .i64 0,.int .i64 0,.int .i64 0,.int .i64 0,.int .i64 0,.int .i64 0],none,[(0,1),(1,1),(2,1),(3,7)],some [(0,1),(1,1),(2,1),(3,7)],false⟩:=⟨by kernel_rfl⟩
instance T_69:Ty A1 69 ⟨false,1,8,[.pointer none],none,[],none,false⟩:=⟨by kernel_rfl⟩
instance T_70:Ty A1 70 ⟨false,1,8,[.pointer none],none,[],none,false⟩:=⟨by kernel_rfl⟩
instance T_71:Ty A1 71 ⟨false,1,24,[.slice none 0 0],some 69,[],none,false⟩:=⟨by kernel_rfl⟩
instance T_72:Ty A1 72 ⟨false,1,8,[.map none],none,[],none,false⟩:=⟨by kernel_rfl⟩
instance T_74:Ty A1 74 ⟨true,10,96,[.pointer none,.int .i64 0,.int .i64 0,.int .i64 0,.int .i64 0,.int .i64 0,.int .i64 0,.int .i64 0,.slice none 0 0,.map none],none,[(0,1),(1,7),(8,1),(9,1)],some [(0,1),(1,7),(8,1),(9,1)],false⟩:=⟨by kernel_rfl⟩
instance T_76:Ty A1 76 ⟨true,2,32,[.slice none 0 0,.int .i64 0],none,[(0,1),(1,1)],some [(0,1),(1,1)],false⟩:=⟨by kernel_rfl⟩
instance T_82:Ty A1 82 ⟨false,1,24,[.slice none 0 0],some 68,[],none,false⟩:=⟨by kernel_rfl⟩
instance T_110:Ty A1 110 ⟨false,1,24,[.slice none 0 0],some 115,[],none,false⟩:=⟨by kernel_rfl⟩
instance T_115:Ty A1 115 ⟨true,5,64,[.int .i64 0,.string ⟨#[]⟩,.string ⟨#[]⟩,.int .i64 0,.string ⟨#[]⟩],none,[(0,1),(1,1),(2,1),(3,1),(4,1)],some [(0,1),(1,1),(2,1),(3,1),(4,1)],false⟩:=⟨by kernel_rfl⟩
instance T_145:Ty A1 145 ⟨false,1,24,[.slice none 0 0],some 154,[],none,false⟩:=⟨by kernel_rfl⟩
instance T_154:Ty A1 154 ⟨true,2,24,[.string ⟨#[]⟩,.int .i64 0],none,[(0,1),(1,1)],some [(0,1),(1,1)],false⟩:=⟨by kernel_rfl⟩
instance T_162:Ty A1 162 ⟨true,16,208,[.slice none 0 0,.slice none 0 0,.slice none 0 0,.int .i64 0,.slice none 0 0,.int .i64 0,.slice none 0 0,.bool false,.int .i64 0,.int .i64 0,.int .i64 0,.int .i64 0,.int .i64 0,.int .i64 0,.int .i64 0,.bool false],none,[(0,8),(8,7),(15,1)],some [(0,8),(8,7),(15,1)],false⟩:=⟨by kernel_rfl⟩
instance T_235:Ty A1 235 ⟨false,1,8,[.pointer none],none,[],none,false⟩:=⟨by kernel_rfl⟩
instance T_236:Ty A1 236 ⟨false,1,24,[.slice none 0 0],some 235,[],none,false⟩:=⟨by kernel_rfl⟩
end Aw
end
section
open Go.RowKit
namespace Pm
open Pl (dec dch)
theorem spSumOf(s:Str)(w:AK)(hs:s.length<=big):
 Aj A1 178 #[.string ⟨s.toArray⟩] w fun e w'=>e= .returned (.int .i64 ((Pl.sumOf s:Nat):Int))/\w=w':=by
 unfold big at hs
 go_enter Tryz.func178,Tryz.ntmps178
 go_wp2
 go_loop [3,4,5] (fun av bv iv=> ∃k a b:Nat,k<=s.length/\iv= .int .i64 k/\av= .int .i64 a/\bv= .int .i64 b/\Hid ((a,b)=Pl.sum2 (s.take k))/\a<9973/\b<9973) (fun _ _ iv=>s.length -(intOf iv).toNat)
 case atStart=>exact⟨0,1,0,by omega,rfl,rfl,rfl,hid rfl,by omega,by omega⟩
 case round=>
  obtain⟨k,a,b,hk,rfl,rfl,rfl,Hp,ha,hb⟩:=hrel
  by_cases hlt:k<s.length
  ·have hstep:Hid (Pl.sum2 (s.take (k+1))=Pl.sumStep (a,b) s[k]):=hid (by rw[List.take_succ_eq_append_getElem hlt,Pl.Qlk,<-Hp.out])
   have hltI:(k:Int)<s.length:=by omega
   obtain⟨c,hc,hc256,hck⟩:=Qsl s k hlt;rw[<-hc] at hstep;have Hc:=hid hc;clear hc
   go_wp2
   go_round
   case rel=>
    refine⟨k+1,(a+c.toNat+1)%9973,(b+(a+c.toNat+1)%9973)%9973,by omega,by go_num,?_,?_,hid (by rw[hstep.out];rfl),Ao _ (by omega),Ao _ (by omega)⟩
    ·go_num
    ·go_num
   case measure=>simp[intOf];omega
  ·have hk':k=s.length:=by omega
   subst hk';rw[AR] at Hp;have hf:Hid (Pl.sumOf s=a*9973+b):=hid (by unfold Pl.sumOf;rw[<-Hp.out])
   go_wp2
   go_ret
   exact⟨Qq2 (by rw[hf.out];omega),rfl⟩
end Pm
end
section
open Go.RowKit
namespace Aw
variable{E:TyF}{T:AD}{u:A9}{k i:Nat}{w:AK}{f:Ak}{ρ:Nat->Nat}{σ σ':Sg}{y:AV}{H1 H0:List Blk}{gl args avs:List AV}{Q0:AV->List Blk->Prop}{o:AX}{rs:List AO}{c:As}{tys:Array AD}{xs:Array A9}
variable{P:AL}
section
variable{ops:Array AX}{Q:AQ->St->Prop}{K:St->Prop}{l:List AX}{n:Nat}{env:List (Nat×AV)}{H H':List Blk}{d:Au}{op:Op}{ty:AD}{pos:String}{after:Array Al}{gd:Option (Nat×Bool)}{x x':AV}{C C':Blk}
theorem stepS2(hl:Loc P ⟨some d,op,ty,pos,after,gd⟩ env H x (some C))(hw:awanted ops env ⟨some d,op,ty,pos,after,gd⟩=some true:=by rfl)(hd:AC d n=true:=by rfl)(hg:gdOk ops n ⟨some d,op,ty,pos,after,gd⟩=true:=by rfl)
 (hX: ∀R:AV->Prop,R x'->R x:=by intro R hR;simp only[List.length_cons,List.length_nil,Nat.reduceAdd,Nat.zero_add];exact hR)
 (hH: ∀R:List Blk->Prop,R H'->R (H++[C]):=by intro R hR;simp only[List.cons_append,List.nil_append];exact hR)
 (k:ASeq P ops Q l ⟨n,(d,x')::env,H'⟩):ASeq P ops Q (⟨some d,op,ty,pos,after,gd⟩::l) ⟨n,env,H⟩:=
 s2 hl hd hg hw (by have h1:=hX (fun r=>r=x') rfl;have h2:=hH (fun r=>r=H') rfl;grind)
theorem stepD2(hl:Loc P ⟨some d,op,ty,pos,after,gd⟩ env H x (some C))(hw:awanted ops env ⟨some d,op,ty,pos,after,gd⟩=some true:=by rfl)(hd:AC d n=true:=by rfl)
 (hX: ∀R:AV->Prop,R x'->R x:=by intro R hR;simp only[List.length_cons,List.length_nil,Nat.reduceAdd,Nat.zero_add];exact hR)
 (hH: ∀R:List Blk->Prop,R H'->R (H++[C]):=by intro R hR;simp only[List.cons_append,List.nil_append];exact hR)
 (k:ADraw P ops K l ⟨n,(d,x')::env,H'⟩):ADraw P ops K (⟨some d,op,ty,pos,after,gd⟩::l) ⟨n,env,H⟩:=
 d2 hl hd hw (by have h1:=hX (fun r=>r=x') rfl;have h2:=hH (fun r=>r=H') rfl;grind)
theorem QiC{dst:Option Au}{e:AD}{F:TyF}{n:Nat}{parts:Array (Nat×A9)}{rows:List (List D)}(hT:tyf P T=some F)(he:F.elem=some e)(hE:tyf P e=some E)
 (hz:E.zero.length=E.size:=by rfl) (hc: ∀R:Option (List (List D))->Prop,R (some rows)->R ((fillA (fun i=>some (i*E.size,E.size)) env (Ag n (E.zero.map fun v=>AV.d (.v v))).flatten parts.toList).bind (chunk E.size n)):=by
   intro R hR;simp only[go_sem,chunk,Option.bind_some,List.replicate_succ,List.replicate_zero,List.flatten_cons,List.flatten_nil,List.append_nil,List.cons_append,List.nil_append,Nat.zero_mul,Nat.reduceMul,Nat.reduceEqDiff,Nat.reduceAdd,Nat.reduceLT,Nat.reduceLeDiff,↓reduceIte,reduceCtorEq,List.take_nil,List.drop_nil];exact hR)
 (hm:AN (n*E.size) 16777216=true:=by rfl) (hn:AN n 16777216=true:=by rfl):Loc P ⟨dst,.buildSlice T n parts,ty,pos,after,gd⟩ env H (.osl H.length 0 0 n) (some (.arr 0 E.size e rows)):=by
 have h:=hc (fun r=>r=some rows) rfl;obtain⟨res,h1,h2⟩:=AB.1 h
 grind [Qjw,AG]
theorem Qrg{dst:Option Au}{e:AD}{F:TyF}{v:A9}{k1 k2:Af}{n:Nat}(hT:tyf P T=some F)(he:F.elem=some e)(hE:tyf P e=some E)(hu:aval env u= .d (.v (.int k1 (n:Int))))(hv:aval env v= .d (.v (.int k2 (n:Int))))
 (hz:E.zero.length=E.size:=by rfl) (hb:AN (E.bytes*n) 281474976710656=true:=by rfl) (hm:AN n 140737488355328=true:=by rfl):
 Loc P ⟨dst,.makeSlice T u v,ty,pos,after,gd⟩ env H (.osl H.length 0 0 n) (some (.arr 0 E.size e (Ag n (E.zero.map D.v)))):=by grind [Qib,AG]
theorem Qo6{F:TyF}{v:A9}{g o:Nat}{cells lc:List AV} [hT:Ty P T F](hu:aval env u= .ptr k g o:=by rfl)(hk:H[k]? =some (.row g cells):=by rfl)
 (hv: ∀R:Option (List AV)->Prop,R (some lc)->R (aval env v).cells:=by intro R hR;simp only[go_sem,Nat.reduceEqDiff,Nat.reduceAdd,Nat.reduceLT,Nat.reduceLeDiff,↓reduceIte,reduceCtorEq];exact hR)
 (hone:lc.all AV.one=true:=by rfl) (hsz:lc.length=F.size:=by rfl) (hlen:AN (o+lc.length) cells.length=true:=by rfl) (hw:awanted ops env ⟨none,.store T u v,ty,pos,after,gd⟩=some true:=by rfl) (hg:gdOk ops n ⟨none,.store T u v,ty,pos,after,gd⟩=true:=by rfl)
 (hH: ∀R:List Blk->Prop,R H'->R (H.set k (.row g (setAt cells o lc))):=by intro R hR;simp only[setAt,List.set_cons_zero,List.set_cons_succ,Nat.zero_add,Nat.reduceAdd];exact hR)
 (kk:ASeq P ops Q l ⟨n,env,H'⟩):ASeq P ops Q (⟨none,.store T u v,ty,pos,after,gd⟩::l) ⟨n,env,H⟩:=
 Qjl (QlT hT.h hu hk (hv (fun r=>r=some lc) rfl) hone hsz (AG hlen)) hw hg (by have:=hH (fun r=>r=H') rfl;grind)
theorem cells1(r:List D)(h:r.all D.cell=true): ∀q∈[r],∀d∈q,d.cell=true:=by grind
theorem QV{e:AD}{F:TyF}{s x:A9}{g len k2 g2:Nat}{T2:AD}{rows:List (List D)}{r:List D}(hT:tyf P T=some F)(he:F.elem=some e)(hE:tyf P e=some E)(hz:E.zero.length=E.size:=by rfl)(hpos:AC 0 E.size=true:=by rfl)
 (hs:aval env s= .osl k g 0 len:=by rfl) (hk:H[k]? =some (.arr g E.size e rows):=by rfl) (hlen:len=rows.length:=by first|rfl|simp)
 (hx:aval env x= .osl k2 g2 0 1:=by rfl) (hk2:H[k2]? =some (.arr g2 E.size T2 [r]):=by rfl) (hcell:r.all D.cell=true:=by rfl)
 (hb:(rows.length+1)*E.bytes<=140737488355328) 
 (hw:awanted ops env ⟨some d,.call ⟨.builtin .append, #[s,x], #[T,T]⟩,ty,pos,after,gd⟩=some true:=by rfl) (hd:AC d n=true:=by rfl) (hg:gdOk ops n ⟨some d,.call ⟨.builtin .append, #[s,x], #[T,T]⟩,ty,pos,after,gd⟩=true:=by rfl)
 (hH: ∀R:List Blk->Prop,R H'->R (H.set k (.arr (g+1) E.size e (rows++[r]))):=by intro R hR;simp only[List.set_cons_zero,List.set_cons_succ,Nat.zero_add,Nat.reduceAdd];exact hR)
 (hby:AC 0 E.bytes=true:=by rfl)
 (kk:ASeq P ops Q l ⟨n,(d,.osl k (g+1) 0 (rows.length+1))::env,H'⟩):ASeq P ops Q (⟨some d,.call ⟨.builtin .append, #[s,x], #[T,T]⟩,ty,pos,after,gd⟩::l) ⟨n,env,H⟩:=by
 have hby':0<E.bytes:=by simpa using hby
 have hmul:rows.length+1<=(rows.length+1)*E.bytes:=AS _ hby';refine QhU (QiY (newrows:=[r]) hT he hE hz (by simp_all) hs hk hlen (Qqw hx hk2 rfl (cells1 r hcell)) (by omega) (by grind)) hw hd hg ?_;have:=hH (fun r=>r=H') rfl
 grind
theorem Qe1{e:AD}{F:TyF}{s x:A9}{g len:Nat}{c:Bool}{rows newrows:List (List D)}(hT:tyf P T=some F)(he:F.elem=some e)(hE:tyf P e=some E)(hz:E.zero.length=E.size:=by rfl)(hpos:AC 0 E.size=true:=by rfl)
 (hs:aval env s= .osl k g 0 len:=by rfl) (hk:H[k]? =some (.arr g E.size e rows):=by rfl) (hlen:len=rows.length:=by first|rfl|simp)
 (hx:aval env x= .d (.sl c E.size newrows):=by rfl) (hcell: ∀r∈newrows,∀d∈r,d.cell=true)
 (hb:(rows.length+newrows.length)*E.bytes<=140737488355328) 
 (hw:awanted ops env ⟨some d,.call ⟨.builtin .append, #[s,x], #[T,T]⟩,ty,pos,after,gd⟩=some true:=by rfl) (hd:AC d n=true:=by rfl) (hg:gdOk ops n ⟨some d,.call ⟨.builtin .append, #[s,x], #[T,T]⟩,ty,pos,after,gd⟩=true:=by rfl)
 (hH: ∀R:List Blk->Prop,R H'->R (H.set k (.arr (g+1) E.size e (rows++newrows))):=by intro R hR;simp only[List.set_cons_zero,List.set_cons_succ,Nat.zero_add,Nat.reduceAdd];exact hR)
 (hby:AC 0 E.bytes=true:=by rfl)
 (kk:ASeq P ops Q l ⟨n,(d,.osl k (g+1) 0 (rows.length+newrows.length))::env,H'⟩):ASeq P ops Q (⟨some d,.call ⟨.builtin .append, #[s,x], #[T,T]⟩,ty,pos,after,gd⟩::l) ⟨n,env,H⟩:=by
 have hby':0<E.bytes:=by simpa using hby
 have hmul:rows.length+newrows.length<=(rows.length+newrows.length)*E.bytes:=AS _ hby';refine QhU (QiY (newrows:=newrows) hT he hE hz (by simp_all) hs hk hlen (Qqv hx hcell) hb (by omega)) hw hd hg ?_;have:=hH (fun r=>r=H') rfl
 grind
end
variable{P:AL}
mutual
def D.weak:D->D
 |.sl _ n l=> .sl false n l
 |.agg l=> .agg (D.weakL l)
 |.tup l=> .tup (D.weakL l)
 |.pd l=> .pd (D.weakL l)
 |x=>x
def D.weakL:List D->List D
 |[]=>[]
 |x::r=>D.weak x::D.weakL r
end
theorem D.weakL_get: ∀(l:List D) (i:Nat),(D.weakL l)[i]? =l[i]?.map D.weak
 :=by intro l;induction l<;>grind [D.weakL]
theorem D.weakL_len: ∀(l:List D),(D.weakL l).length=l.length
 :=by intro l;induction l<;>grind [D.weakL]
theorem QeZ{l:List D}{d:D}(h:(D.weakL l)[i]? =some d): ∃d0,l[i]? =some d0/\d=d0.weak:=by
 grind [D.weakL_get]
theorem RelD.weak{S:Nat->Prop}{d:D}{x:AE}(h:RelD S w d x):RelD S w d.weak x:=by
 induction h with
 |any x=>exact .any x
 |v x=>exact .v x
 |agg l cs hl h ih=>exact .agg _ cs (by grind [D.weakL_len]) fun i d x hd hx=>by grind [QeZ]
 |tup l cs hl h ih=>exact .tup _ cs (by grind [D.weakL_len]) fun i d x hd hx=>by grind [QeZ]
 |pd l b o g hb hc h ih=>
  exact .pd _ b o g hb (fun j d hj=>by grind [QeZ]) (fun j d hj=>by grind [QeZ])
 |slnil c n a cap=>exact .slnil false n a cap
 |sl c n l b o cap g hb hn hcap hc h ih=>exact .sl false n l b o cap g hb hn (fun h=>by cases h) hc h
 |mp l b es clock hb hm hl hk h ih=>exact .mp l b es clock hb hm hl hk h
theorem Pure.arg{l l':List D}{x:D}(h:Pure P f l' x)(ha:D.weakL l=l':=by rfl):Pure P f l x:=by
 intro B σ S H w cargs hB hS hl hr;subst ha;exact h B σ S H w cargs hB hS (by grind [D.weakL_len]) fun i d v hd hv=>by obtain⟨d0,h1,rfl⟩:=QeZ hd;exact(hr i d0 v h1 hv).weak
mutual
def AV.ren(ρ:Nat->Nat):AV->AV
 |.d x=> .d x
 |.agg l=> .agg (AV.renL ρ l)
 |.tup l=> .tup (AV.renL ρ l)
 |.ptr k g o=> .ptr (ρ k) g o
 |.ept k g i j=> .ept (ρ k) g i j
 |.osl k g off len=> .osl (ρ k) g off len
 |.rsl k g n=> .rsl (ρ k) g n
 |.fn f l=> .fn f (AV.renL ρ l)
 |.gh l vs=> .gh (AV.renL ρ l) vs
 |.mp k g=> .mp (ρ k) g
def AV.renL(ρ:Nat->Nat):List AV->List AV
 |[]=>[]
 |x::r=>AV.ren ρ x::AV.renL ρ r
end
theorem AV.renL_get(ρ:Nat->Nat): ∀(l:List AV) (i:Nat),(AV.renL ρ l)[i]? =l[i]?.map (AV.ren ρ)
 :=by intro l;induction l<;>grind [AV.renL]
theorem AV.renL_len(ρ:Nat->Nat): ∀(l:List AV),(AV.renL ρ l).length=l.length
 :=by intro l;induction l<;>grind [AV.renL]
theorem QeB{l:List AV}{d:AV}(h:(AV.renL ρ l)[i]? =some d): ∃d0,l[i]? =some d0/\d=d0.ren ρ:=by
 grind [AV.renL_get]
def Blk.ren(ρ:Nat->Nat):Blk->Blk
 |.row g cells=> .row g (AV.renL ρ cells)
 |x=>x
theorem Rel.up{S:Nat->Prop}{H H':List Blk}(hm: ∀i C,H[i]? =some C->H'[ρ i]? =some (C.ren ρ)/\σ' (ρ i)=σ i){x:AV}{v:AE}(h:Rel σ S H w x v):
 Rel σ' S H' w (x.ren ρ) v:=by
 induction h with
 |d x v h=>exact .d x v h
 |agg l cs hl h ih=>exact .agg _ cs (by grind [AV.renL_len]) fun i d x hd hx=>by grind [QeB]
 |tup l cs hl h ih=>exact .tup _ cs (by grind [AV.renL_len]) fun i d x hd hx=>by grind [QeB]
 |fn f l cs hl h ih=>exact .fn f _ cs (by grind [AV.renL_len]) fun i d x hd hx=>by grind [QeB]
 |gh l cs u hl h ih=>exact .gh _ cs u (by grind [AV.renL_len]) fun i d x hd hx=>by grind [QeB]
 |ptr k g o v ho g' cells hk hg h=>
  obtain⟨h1,h2⟩:=hm k _ hk;exact .ptr (ρ k) g o v ho g' _ h1 hg fun e=>by grind
 |rsl k g n v ho g' cells hk hg h=>
  obtain⟨h1,h2⟩:=hm k _ hk;exact .rsl (ρ k) g n v ho g' _ h1 hg fun e=>by grind
 |ept k g i j v ho g' sz T rows hk hg h=>
  obtain⟨h1,h2⟩:=hm k _ hk;exact .ept (ρ k) g i j v ho g' sz T rows h1 hg fun e=>by grind
 |osl k g off len v ho g' sz T rows hk hg h=>
  obtain⟨h1,h2⟩:=hm k _ hk;refine .osl (ρ k) g off len v ho g' sz T rows h1 hg fun e=>?_
  unfold OSl;rw[h2];exact h e
 |mp k g v ho g' l hk hg h=>
  obtain⟨h1,h2⟩:=hm k _ hk;exact .mp (ρ k) g v ho g' _ h1 hg fun e=>by grind
theorem Rel.down{S:Nat->Prop}{H H':List Blk}{m:Nat}(hm: ∀i,i<m-> ∃C,H[i]? =some C/\H'[ρ i]? =some (C.ren ρ)/\σ' (ρ i)=σ i){v:AE}(h:Rel σ' S H' w y v):
 ∀x:AV,y=x.ren ρ->x.lt m=true->Rel σ S H w x v:=by
 have lst: ∀{l0:List AV} {cs:List AE},(AV.renL ρ l0).length=cs.length->AV.ltL m l0=true->(∀(i:Nat) d x,(AV.renL ρ l0)[i]? =some d->cs[i]? =some x-> ∀z:AV,d=z.ren ρ->z.lt m=true->Rel σ S H w z x)->
  l0.length=cs.length/\ ∀(i:Nat) d x,l0[i]? =some d->cs[i]? =some x->Rel σ S H w d x:=by
  grind [AV.renL_len,AV.renL_get,AV.ltL_get]
 induction h with
 |d y v h=>intro x e hl;cases x<;>simp only[AV.ren,reduceCtorEq,AV.d.injEq] at e;subst e;exact .d _ _ h
 |agg l cs hl h ih=>
  intro x e hlt;cases x<;>simp only[AV.ren,reduceCtorEq,AV.agg.injEq] at e;subst e;obtain⟨h1,h2⟩:=lst hl (by grind [AV.lt]) ih;exact .agg _ cs h1 h2
 |tup l cs hl h ih=>
  intro x e hlt;cases x<;>simp only[AV.ren,reduceCtorEq,AV.tup.injEq] at e;subst e;obtain⟨h1,h2⟩:=lst hl (by grind [AV.lt]) ih;exact .tup _ cs h1 h2
 |fn f l cs hl h ih=>
  intro x e hlt;cases x<;>simp only[AV.ren,reduceCtorEq,AV.fn.injEq] at e;obtain⟨rfl,rfl⟩:=e;obtain⟨h1,h2⟩:=lst hl (by grind [AV.lt]) ih;exact .fn _ _ cs h1 h2
 |gh l cs u hl h ih=>
  intro x e hlt;cases x<;>simp only[AV.ren,reduceCtorEq,AV.gh.injEq] at e;obtain⟨rfl,rfl⟩:=e;obtain⟨h1,h2⟩:=lst hl (by grind [AV.lt]) ih;exact .gh _ _ u h1 h2
 |ptr k g o v ho g' cells hk hg h=>
  intro x e hlt;cases x<;>simp only[AV.ren,reduceCtorEq,AV.ptr.injEq] at e;obtain⟨rfl,rfl,rfl⟩:=e;obtain⟨C,h1,h2,h3⟩:=hm _ (by simpa[AV.lt] using hlt);rw[hk] at h2;cases C<;>simp only[Blk.ren,reduceCtorEq,A3,Blk.row.injEq] at h2;obtain⟨rfl,rfl⟩:=h2;exact .ptr _ _ _ v ho _ _ h1 hg fun e=>by grind
 |rsl k g n v ho g' cells hk hg h=>
  intro x e hlt;cases x<;>simp only[AV.ren,reduceCtorEq,AV.rsl.injEq] at e;obtain⟨rfl,rfl,rfl⟩:=e;obtain⟨C,h1,h2,h3⟩:=hm _ (by simpa[AV.lt] using hlt);rw[hk] at h2;cases C<;>simp only[Blk.ren,reduceCtorEq,A3,Blk.row.injEq] at h2;obtain⟨rfl,rfl⟩:=h2;exact .rsl _ _ _ v ho _ _ h1 hg fun e=>by grind
 |ept k g i j v ho g' sz T rows hk hg h=>
  intro x e hlt;cases x<;>simp only[AV.ren,reduceCtorEq,AV.ept.injEq] at e;obtain⟨rfl,rfl,rfl,rfl⟩:=e;obtain⟨C,h1,h2,h3⟩:=hm _ (by simpa[AV.lt] using hlt);rw[hk] at h2;cases C<;>simp only[Blk.ren,reduceCtorEq,A3,Blk.arr.injEq] at h2;obtain⟨rfl,rfl,rfl,rfl⟩:=h2;exact .ept _ _ _ _ v ho _ _ _ _ h1 hg fun e=>by grind
 |osl k g off len v ho g' sz T rows hk hg h=>
  intro x e hlt;cases x<;>simp only[AV.ren,reduceCtorEq,AV.osl.injEq] at e;obtain⟨rfl,rfl,rfl,rfl⟩:=e;obtain⟨C,h1,h2,h3⟩:=hm _ (by simpa[AV.lt] using hlt);rw[hk] at h2;cases C<;>simp only[Blk.ren,reduceCtorEq,A3,Blk.arr.injEq] at h2;obtain⟨rfl,rfl,rfl,rfl⟩:=h2;refine .osl _ _ _ _ v ho _ _ _ _ h1 hg fun e=>?_
  have:=h e;unfold OSl at this;rw[h3] at this;exact this
 |mp k g v ho g' l hk hg h=>
  intro x e hlt;cases x<;>simp only[AV.ren,reduceCtorEq,AV.mp.injEq] at e;obtain⟨rfl,rfl⟩:=e;obtain⟨C,h1,h2,h3⟩:=hm _ (by simpa[AV.lt] using hlt);rw[hk] at h2;cases C<;>simp only[Blk.ren,reduceCtorEq,A3,Blk.mp.injEq] at h2;obtain⟨rfl,rfl⟩:=h2;exact .mp _ _ v ho _ _ h1 hg fun e=>by grind
def pin1(gl:List AV)(i:Nat):Blk->Blk->Prop
 |.none,_=>True
 |.row g _,.row g' _=>g<g'∨(g=g'/\ ∃o,AV.ptr i g o∈gl)
 |.arr g sz T rows,.arr g' sz' T' rows'=>sz'=sz/\T'=T/\(g<g'∨(g=g'/\rows'.length=rows.length/\ ∃off len,AV.osl i g off len∈gl))
 |.mp g _,.mp g' _=>g<g'∨(g=g'/\AV.mp i g∈gl)
 |_,_=>False
def Does(P:AL)(f:Ak)(args:List AV)(H0:List Blk)(gl:List AV)(x:AV)(H1:List Blk):Prop:=
 (∀i C,H0[i]? =some C-> ∃C',H1[i]? =some C'/\pin1 gl i C C')/\
 ∀(B:Bs) (σ:Sg) (S:Nat->Prop) (w:AK) (cargs gvs:List AE),Gd B->Sm B σ S H0 w->args.length=cargs.length->(∀(i:Nat) d v,args[i]? =some d->cargs[i]? =some v->Rel σ S H0 w d v)->
  gl.length=gvs.length->(∀(i:Nat) d v,gl[i]? =some d->gvs[i]? =some v->Rel σ S H0 w d v)->
  Aj P f cargs.toArray w fun e w'=> ∃v σ' S',e= .returned v/\Sm B σ' S' H1 w'/\Rel σ' S' H1 w' x v/\ ∀(i:Nat) d v,gl[i]? =some d->gvs[i]? =some v->Rel σ' S' H1 w' d v
def DoesE(P:AL)(f:Ak)(args:List AV)(H0:List Blk)(gl:List AV)(Q0:AV->List Blk->Prop):Prop:=
 ∀(B:Bs) (σ:Sg) (S:Nat->Prop) (w:AK) (cargs gvs:List AE),Gd B->Sm B σ S H0 w->args.length=cargs.length->(∀(i:Nat) d v,args[i]? =some d->cargs[i]? =some v->Rel σ S H0 w d v)->
  gl.length=gvs.length->(∀(i:Nat) d v,gl[i]? =some d->gvs[i]? =some v->Rel σ S H0 w d v)->
  Aj P f cargs.toArray w fun e w'=> ∃x H1,Q0 x H1/\(∀i C,H0[i]? =some C-> ∃C',H1[i]? =some C'/\pin1 gl i C C')/\
   ∃v σ' S',e= .returned v/\Sm B σ' S' H1 w'/\Rel σ' S' H1 w' x v/\ ∀(i:Nat) d v,gl[i]? =some d->gvs[i]? =some v->Rel σ' S' H1 w' d v
def Does.e{x:AV}(h:Does P f args H0 gl x H1):DoesE P f args H0 gl fun y K=>y=x/\K=H1:=
 fun B σ S w cargs gvs h1 h2 h3 h4 h5 h6=>(h.2 B σ S w cargs gvs h1 h2 h3 h4 h5 h6).mono fun _ _ h7=>⟨x,H1,⟨rfl,rfl⟩,h.1,h7⟩
def rho(ks:List Nat)(m i:Nat):Nat:=match ks[i]? with
 |some k=>k
 |none=>m+(i -ks.length)
def place(ρ:Nat->Nat):List Blk->List Nat->List Blk->List Blk
 |H,[],_=>H
 |H,_::_,[]=>H
 |H,k::ks,C::Cs=>place ρ (H.set k (C.ren ρ)) ks Cs
theorem QgQ(ρ:Nat->Nat): ∀(ks:List Nat) (H Cs:List Blk),(place ρ H ks Cs).length=H.length
 |[],H,Cs=>by cases Cs<;>rfl
 |_::_,H,[]=>rfl
 |k::ks,H,C::Cs=>by simp only[place];rw[QgQ ρ ks];simp
theorem Qfy(ρ:Nat->Nat): ∀(ks:List Nat) (H Cs:List Blk) (k:Nat),k∉ks->(place ρ H ks Cs)[k]? =H[k]?
 |[],H,Cs,_,_=>by cases Cs<;>rfl
 |_::_,H,[],_,_=>rfl
 |k::ks,H,C::Cs,j,hj=>by
  simp only[place];rw[Qfy ρ ks _ Cs j (fun h=>hj (AW _ h)),List.getElem?_set_ne (fun e=>hj (by grind))]
theorem QnN(ρ:Nat->Nat): ∀(ks:List Nat) (H Cs:List Blk) (i k:Nat) (C:Blk),ks.Nodup->ks[i]? =some k->Cs[i]? =some C->k<H.length->(place ρ H ks Cs)[k]? =some (C.ren ρ)
 |[],_,_,i,k,C,_,h,_,_=>by simp at h
 |_::_,_,[],i,k,C,_,_,h,_=>by simp at h
 |k0::ks,H,C0::Cs,0,k,C,hn,h1,h2,hk=>by
  grind [place,Qfy]
 |k0::ks,H,C0::Cs,i+1,k,C,hn,h1,h2,hk=>by
  simp only[place];exact QnN ρ ks _ Cs i k C (List.nodup_cons.1 hn).2 (by grind) (by grind) (by grind)
def AV.parts:AV->List AV
 |.agg l=> .agg l::l
 |.tup l=> .tup l::l
 |.fn f l=> .fn f l::l
 |x=>[x]
def Blk.parts:Blk->List AV
 |.row _ cells=>cells.flatMap AV.parts
 |_=>[]
theorem Ql0{S:Nat->Prop}{H:List Blk}{x:AV}{v:AE}(h:Rel σ S H w x v)(hy:y∈x.parts): ∃u,Rel σ S H w y u:=by
 have lst: ∀{l:List AV} {cs:List AE},l.length=cs.length->(∀(i:Nat) d x,l[i]? =some d->cs[i]? =some x->Rel σ S H w d x)-> ∀y∈l,∃u,Rel σ S H w y u:=by
  intro l cs hl hr y hy;obtain⟨i,hi⟩:=A6.1 hy;have:i<cs.length:=by grind
  exact⟨_,hr i y _ hi (A0 this)⟩
 have h0:=h;cases h<;>simp only[AV.parts,List.mem_cons,Aa,or_false] at hy<;>grind
theorem Qmb{S:Nat->Prop}{H:List Blk}{C:Blk}(h:BlkOk σ S H w k C)(hy:y∈C.parts): ∃u,Rel σ S H w y u:=by
 cases C<;>simp only[Blk.parts,Aa,AT] at hy;obtain⟨x,hx,hy⟩:=hy;rcases h with⟨b,cs,T,_,_,hr⟩|⟨_,rfl⟩
 ·obtain⟨i,hi⟩:=A6.1 hx
  obtain⟨v,_,hv⟩:=hr i x hi;exact Ql0 hv hy
 grind
theorem Qfm{env:List (Nat×AV)}{H:List Blk}(ks:List Nat)(hrun:DoesE P f args H0 gl Q0)
 (hcall: ∀(σ:Sg) (S:Nat->Prop) (H:List Blk) (w:AK) (a:Act),(∀u∈o.op.operands,Rel σ S H w (aval env u) (a.eval u))-> ∃cargs:List AE,(execOp a.eval o).run P w= .ok (.enter f cargs.toArray) w/\
   avs.length=cargs.length/\ ∀(i:Nat) d v,avs[i]? =some d->cargs[i]? =some v->Rel σ S H w d v)
 (hargs:avs=AV.renL (rho ks H.length) args) (hks:ks.map (fun k=>H[k]?)=(H0.map (Blk.ren (rho ks H.length))).map some) (hnd:ks.Nodup)
 (hla:AV.ltL H0.length args=true) (hlg:AV.ltL H0.length gl=true) (hlH:H0.all (Blk.lt H0.length)=true)
 (hgl: ∀g∈gl,g.ren (rho ks H.length)∈avs.flatMap AV.parts++H.flatMap Blk.parts):
 EffE P o env H (fun y K=> ∃x H1,Q0 x H1/\y=x.ren (rho ks H.length)/\K=place (rho ks H.length) H ks H1++(H1.drop ks.length).map (Blk.ren (rho ks H.length))):=by
 intro B σ S a w hB hS hop K Q kk;generalize hρ:rho ks H.length=ρ at*;have hlen:ks.length=H0.length:=by have:=congrArg List.length hks;grind
 have hρk: ∀i,i<H0.length-> ∃k,ks[i]? =some k/\ρ i=k:=fun i hi=>by
  have:i<ks.length:=by omega
  exact⟨ks[i],A0 this,by rw[<-hρ];grind [rho]⟩
 have hρn: ∀i,H0.length<=i->ρ i=H.length+(i -H0.length):=fun i hi=>by
  rw[<-hρ];grind [rho]
 have hk: ∀i C,H0[i]? =some C-> ∃k,ks[i]? =some k/\ρ i=k/\H[k]? =some (C.ren ρ):=fun i C hC=>by
  obtain⟨k,h1,h2⟩:=hρk i (A8.1 hC).1;refine⟨k,h1,h2,?_⟩;have:=congrArg (fun l=>l[i]?) hks
  grind
 have hkH: ∀i k,ks[i]? =some k->k<H.length/\i<H0.length:=fun i k hi=>by
  have hi0:i<H0.length:=by grind
  obtain⟨k',h1,_,h3⟩:=hk i _ (A0 hi0)
  grind
 let own:Nat->Prop:=fun b=> ∃k∈ks,σ k=some b
 have hown: ∀b,own b->b<w.heap.size/\ ¬S b/\(B.own b∨B.w0.heap.size<=b):=fun b ⟨k,hkm,hb⟩=>by
  obtain⟨i,hi⟩:=A6.1 hkm;exact hS.σUp k b (hkH i k hi).1 hb
 have hB':Gd ⟨w,B.G,own,S⟩:=⟨hB.g,fun b hb=>by
  rcases(hown b hb).2.2 with h|h
  ·exact hB.own b h
  ·have:=Lt.size hB.lt;omega,hB.ltOf hS⟩
 have hm0: ∀i,i<H0.length-> ∃C,H0[i]? =some C/\H[ρ i]? =some (C.ren ρ)/\σ (ρ i)=(fun i=>σ (ρ i)) i:=fun i hi=>by
  obtain⟨k,h1,h2,h3⟩:=hk i _ (A0 hi)
  grind
 have hinj: ∀i j k,ks[i]? =some k->ks[j]? =some k->i=j:=fun i j k hi hj=>by
  have h1:=(A8.1 hi);have h2:=(A8.1 hj);obtain⟨hi',e1⟩:=h1;obtain⟨hj',e2⟩:=h2;have hp:=List.pairwise_iff_getElem.1 hnd
  grind
 have hS0:Sm ⟨w,B.G,own,S⟩ (fun i=>σ (ρ i)) S H0 w:=by
  refine⟨rfl,rfl,rfl,Ad _,fun _ _ _=>rfl,fun _ h=>h,fun b hb=>⟨(hS.sUp b hb).1,.inl hb⟩,fun i b hi hb=>?_,fun i j b hi hj hb hb'=>?_,fun i C hC=>?_⟩
  ·grind
  ·obtain⟨k,h1,h2⟩:=hρk i hi
   obtain⟨k',h1',h2'⟩:=hρk j hj;simp only[h2,h2'] at hb hb';have:=hS.inj k k' b (hkH i k h1).1 (hkH j k' h1').1 hb hb'
   grind
  ·obtain⟨k,h1,h2,h3⟩:=hk i C hC
   have hb:=hS.blk k _ h3;have hlt:=List.all_eq_true.1 hlH C (List.mem_of_getElem? hC);cases C with
   |none=>show σ (ρ i)=none;rw[h2];exact hb
   |row g cells=>
    rcases hb with⟨b,cs,T,hb,hc,hr⟩|⟨hb,hc⟩
    ·refine .inl ⟨b,cs,T,by grind,hc,fun j y hy=>?_⟩
     obtain⟨u,hu,hr'⟩:=hr j (y.ren ρ) (by rw[AV.renL_get,hy];rfl);exact⟨u,hu,hr'.down hm0 y rfl (AV.ltL_get hlt hy)⟩
    ·refine .inr ⟨by grind,?_⟩
     cases cells with
     |nil=>rfl
     |cons=>simp[AV.renL] at hc
   |arr g sz T rows=>
    refine⟨hb.1,?_⟩;show(∃b cs,σ (ρ i)=some b/\_)∨(σ (ρ i)=none/\_);rw[h2];exact hb.2
   |mp g l=>show(∃b es clock,σ (ρ i)=some b/\_)∨(σ (ρ i)=none/\_);rw[h2];exact hb
 obtain⟨cargs,hc1,hc2,hc3⟩:=hcall σ S H w a hop
 have havs: ∀y∈avs.flatMap AV.parts++H.flatMap Blk.parts,∃u,Rel σ S H w y u:=by
  intro y hy;rcases List.mem_append.1 hy with hy|hy
  ·obtain⟨z,hz,hy⟩:=AT.1 hy
   obtain⟨i,hi⟩:=A6.1 hz;have:i<cargs.length:=by grind
   exact Ql0 (hc3 i z _ hi (A0 this)) hy
  ·obtain⟨C,hC,hy⟩:=AT.1 hy
   obtain⟨k,hk'⟩:=A6.1 hC;exact Qmb (hS.blk k C hk') hy
 obtain⟨gvs,hg1,hg2⟩: ∃gvs:List AE,gl.length=gvs.length/\ ∀(i:Nat) d v,gl[i]? =some d->gvs[i]? =some v->Rel (fun i=>σ (ρ i)) S H0 w d v:=by
  have: ∀(l:List AV),(∀g∈l,g∈gl)-> ∃gvs:List AE,l.length=gvs.length/\ ∀(i:Nat) d v,l[i]? =some d->gvs[i]? =some v->Rel (fun i=>σ (ρ i)) S H0 w d v:=by
   intro l;induction l with
   |nil=>intro _;exact⟨[],rfl,fun i d v h=>by simp at h⟩
   |cons g r ih=>
    intro hm;obtain⟨gvs,h1,h2⟩:=ih fun g hg=>hm g (AW _ hg)
    have hg:=hm g List.mem_cons_self;obtain⟨u,hu⟩:=havs _ (hgl g hg);obtain⟨j,hj⟩:=A6.1 hg;refine⟨u::gvs,by simp[h1],fun i d v hd hv=>?_⟩;cases i with
    |zero=>simp at hd hv;subst hd;subst hv;exact hu.down hm0 _ rfl (AV.ltL_get hlg hj)
    |succ i=>grind
  exact this gl fun _ h=>h
 unfold Oper.wp;rw[hc1,Ae];refine(hrun ⟨w,B.G,own,S⟩ (fun i=>σ (ρ i)) S w cargs gvs hB' hS0 (by grind [AV.renL_len]) (fun i d v hd hv=>?_) hg1 hg2).mono ?_
 ·exact(hc3 i (d.ren ρ) v (by grind [AV.renL_get]) hv).down hm0 d rfl (AV.ltL_get hla hd)
 rintro e w' ⟨x,H1,hq0,hpin,v,σ1,S1,rfl,hS1,hR1,hG1⟩
 have hlen1:H0.length<=H1.length:=by
  grind
 have kk:=kk _ _ ⟨x,H1,hq0,rfl,rfl⟩;generalize hH':place ρ H ks H1++(H1.drop ks.length).map (Blk.ren ρ)=H' at kk⊢;have hH'len:H'.length=H.length+(H1.length -H0.length):=by grind [QgQ]
 let σ':Sg:=fun k=>match ks.idxOf? k with
  |some i=>σ1 i
  |none=>if k<H.length then σ k else σ1 (H0.length+(k -H.length))
 have hidx: ∀i k,ks[i]? =some k->ks.idxOf? k=some i:=fun i k hi=>by
  have hex: ∃j,ks.idxOf? k=some j:=by
   cases hx:ks.idxOf? k with
   |some j=>grind
   |none=>grind
  obtain⟨j,hj⟩:=hex
  have:ks[j]? =some k:=by
   have:=List.findIdx?_eq_some_iff_getElem.1 (show ks.findIdx? (· ==k)=some j from hj)
   grind
  grind
 have hidn: ∀k,k∉ks->ks.idxOf? k=none:=fun k hk=>List.idxOf?_eq_none_iff.2 hk
 have hσk: ∀i,i<H0.length->σ' (ρ i)=σ1 i:=fun i hi=>by
  grind
 have hσn: ∀i,H0.length<=i->σ' (ρ i)=σ1 i:=fun i hi=>by
  have hnot:ρ i∉ks:=fun hm=>by
   obtain⟨j,hj⟩:=A6.1 hm
   grind
  show(match ks.idxOf? (ρ i) with|some i=>σ1 i|none=>_)=_;rw[hidn _ hnot];simp only;rw[hρn i hi,if_neg (by omega)]
  congr 1;omega
 have hσ1: ∀i,σ' (ρ i)=σ1 i:=fun i=>by
  grind
 have hσo: ∀k,k<H.length->k∉ks->σ' k=σ k:=fun k hk hn=>by
  grind
 have hm1: ∀i C,H1[i]? =some C->H'[ρ i]? =some (C.ren ρ)/\σ' (ρ i)=σ1 i:=fun i C hC=>by
  refine⟨?_,hσ1 i⟩;rcases Nat.lt_or_ge i H0.length with hi|hi
  ·obtain⟨k,h1,h2⟩:=hρk i hi
   grind [AP,QnN]
  ·rw[hρn i hi,<-hH',List.getElem?_append_right (by grind),QgQ,AJ,AY,hlen]
   have:H0.length+(H.length+(i -H0.length) -H.length)=i:=by omega
   grind
 have hother: ∀k C,k<H.length->k∉ks->(H'[k]? =some C↔H[k]? =some C):=fun k C hk hn=>by
  grind [AP,Qfy]
 have hkeep: ∀b,b<w.heap.size-> ¬own b->w'.heap[b]? =w.heap[b]? :=hS1.keep
 have hnown: ∀k b,k<H.length->k∉ks->σ k=some b-> ¬own b:=fun k b hk hn hb ⟨k',hk',hb'⟩=>by
  obtain⟨i,hi⟩:=A6.1 hk';have:=hS.inj k k' b hk (hkH i k' hi).1 hb hb'
  grind
 have hgp: ∀{i:Nat} {d:AV},d∈gl-> ∃u,Rel (fun i=>σ (ρ i)) S H0 w d u/\Rel σ1 S1 H1 w' d u:=fun{i d} hd=>by
  obtain⟨j,hj⟩:=A6.1 hd;have hlt:j<gvs.length:=by grind
  exact⟨gvs[j],hg2 j d _ hj (A0 hlt),hG1 j d _ hj (A0 hlt)⟩
 have hev:Ev σ S H w σ' S1 H' w':=by
  have base: ∀k C,H[k]? =some C->(k∉ks/\H'[k]? =some C/\σ' k=σ k/\ ∀b,σ k=some b->w'.heap[b]? =w.heap[b]?)∨
   ∃i C0 C1,ρ i=k/\H0[i]? =some C0/\C=C0.ren ρ/\H1[i]? =some C1/\pin1 gl i C0 C1/\H'[k]? =some (C1.ren ρ)/\σ' k=σ1 i:=fun k C hC=>by
   have hkl:=(A8.1 hC).1
   by_cases hm:k∈ks
   ·obtain⟨i,hi⟩:=A6.1 hm
    have hi0:=(hkH i k hi).2;obtain⟨k',h1,h2,h3⟩:=hk i _ (A0 hi0);rw[hi] at h1;obtain rfl:=AA h1;obtain⟨C1,h4,h5⟩:=hpin i _ (A0 hi0)
    grind
   ·exact .inl ⟨hm,(hother k C hkl hm).2 hC,hσo k hkl hm,fun b hb=>hkeep b (hS.σUp k b hkl hb).1 (hnown k b hkl hm hb)⟩
  refine⟨hS1.sLo,fun b hb=>hkeep b (hS.sUp b hb).1 fun ho=>(hown b ho).2.1 hb,fun k g cells hC=>?_,fun k g sz T rows hC=>?_,fun k g l hC=>?_⟩
  ·rcases base k _ hC with⟨_,h1,h2,_⟩|⟨i,C0,C1,h1,h2,h3,h4,h5,h6,h7⟩
   ·grind
   ·cases C0<;>simp only[Blk.ren,reduceCtorEq,Blk.row.injEq] at h3
    obtain⟨rfl,rfl⟩:=h3;cases C1<;>simp only[pin1] at h5;rename_i g' cells';refine⟨g',_,h6,by omega,fun e b hb=>?_⟩;subst e;rcases h5 with h5|⟨_,o,h5⟩
    ·omega
    ·obtain⟨u,hu,hu'⟩:=hgp (i:=0) h5
     cases hu with
     |ptr _ _ _ _ ho g2 c2 hk2 hg2 hh2=>
      cases hu' with
      |ptr _ _ _ _ ho3 g3 c3 hk3 hg3 hh3=>
       rw[h2] at hk2;rw[h4] at hk3;simp only[A3,Blk.row.injEq] at hk2 hk3;obtain⟨b1,e1,e2⟩:=hh2 hk2.1.symm;obtain⟨b2,e3,e4⟩:=hh3 hk3.1.symm
       grind
  ·rcases base k _ hC with⟨_,h1,h2,h3⟩|⟨i,C0,C1,h1,h2,h3,h4,h5,h6,h7⟩
   ·grind
   ·cases C0<;>simp only[Blk.ren,reduceCtorEq,Blk.arr.injEq] at h3
    obtain⟨rfl,rfl,rfl,rfl⟩:=h3;cases C1<;>simp only[pin1] at h5;rename_i g' sz' T' rows';obtain⟨rfl,rfl,h5⟩:=h5;refine⟨g',rows',h6,by omega,fun e=>?_⟩;subst e;rcases h5 with h5|⟨_,h8,off,len,h5⟩
    ·omega
    ·obtain⟨u,hu,hu'⟩:=hgp (i:=0) h5
     cases hu with
     |osl _ _ _ _ _ ho g2 s2 t2 c2 hk2 hg2 hh2=>
      cases hu' with
      |osl _ _ _ _ _ ho3 g3 s3 t3 c3 hk3 hg3 hh3=>
       rw[h2] at hk2;rw[h4] at hk3;simp only[A3,Blk.arr.injEq] at hk2 hk3;obtain⟨_,e1⟩:=hh2 hk2.1.symm;obtain⟨_,e2⟩:=hh3 hk3.1.symm;simp only[h1] at e1;obtain⟨q1,q2,q3,q4⟩:=hk2;obtain⟨p1,p2,p3,p4⟩:=hk3;subst q2;subst p2;rw[h7];rcases e1 with⟨b1,cap1,cs1,T1,a1,a2,a3,a4,a5,a6⟩|⟨a1,a2,a3⟩<;>rcases e2 with⟨b2,cap2,cs2,T2,d1,d2,d3,d4,d5,d6⟩|⟨d1,d2,d3⟩
       ·rw[a4] at d4
        simp only[Ar,A3,Addr.mk.injEq] at d4;obtain⟨⟨f1,_⟩,_,f2⟩:=d4;subst f1;subst f2;refine⟨d1.trans a1.symm,h8,fun b cs T hb hc=>?_⟩;rw[a1] at hb;obtain rfl:=AA hb;rw[a5] at hc;simp only[A3,Obj.cells.injEq] at hc;obtain⟨rfl,rfl,_⟩:=hc;have hb1:=hS1.blk i _ h4;have hb0:=hS.blk k _ hC;rcases hb1.2 with⟨b3,cs3,k1,k2,_⟩|⟨k1,_⟩;rotate_left
        ·grind
        rcases hb0.2 with⟨b4,cs4,m1,m2,_⟩|⟨m1,_⟩;rotate_left
        ·grind
        grind
       ·grind
       ·grind
       grind
  ·rcases base k _ hC with⟨_,h1,h2,_⟩|⟨i,C0,C1,h1,h2,h3,h4,h5,h6,h7⟩
   ·grind
   ·cases C0<;>simp only[Blk.ren,reduceCtorEq,Blk.mp.injEq] at h3
    obtain⟨rfl,rfl⟩:=h3;cases C1<;>simp only[pin1] at h5;rename_i g' l';refine⟨g',_,h6,by omega,fun e b hb=>?_⟩;subst e;rcases h5 with h5|⟨_,h5⟩
    ·omega
    ·obtain⟨u,hu,hu'⟩:=hgp (i:=0) h5
     cases hu with
     |mp _ _ _ ho g2 c2 hk2 hg2 hh2=>
      cases hu' with
      |mp _ _ _ ho3 g3 c3 hk3 hg3 hh3=>
       rw[h2] at hk2;rw[h4] at hk3;simp only[A3,Blk.mp.injEq] at hk2 hk3;obtain⟨b1,e1,e2⟩:=hh2 hk2.1.symm;obtain⟨b2,e3,e4⟩:=hh3 hk3.1.symm
       grind
 have hsz:=hS1.size;have hsz0:=hS.size
 have hcase: ∀k,k<H'.length->(k<H.length/\k∉ks)∨ ∃i,i<H1.length/\ρ i=k:=fun k hk'=>by
  by_cases hkl:k<H.length
  ·by_cases hm:k∈ks
   ·obtain⟨i,hi⟩:=A6.1 hm
    have hi0:=(hkH i k hi).2;obtain⟨k',h1,h2⟩:=hρk i hi0
    grind
   grind
  ·refine .inr ⟨H0.length+(k -H.length),by omega,?_⟩
   grind
 have hup1: ∀i b,i<H1.length->σ1 i=some b->b<w'.heap.size/\ ¬S1 b/\(own b∨w.heap.size<=b):=fun i b hi hb=>hS1.σUp i b hi hb
 have hoS1: ∀k b,k<H.length->k∉ks->σ k=some b-> ¬S1 b:=fun k b hk hn hb hs=>by
  obtain⟨h1,h2,_⟩:=hS.σUp k b hk hb;rcases(hS1.sUp b hs).2 with h|h|h
  ·exact h2 h
  ·exact hnown k b hk hn hb h
  grind
 refine kk v w' σ' S1 ?_ (hR1.up hm1) hev;refine⟨hS1.os.trans hS.os,hS1.tape.trans hS.tape,hS1.output.trans hS.output,Nat.le_trans hS.size hS1.size,fun b hb hn=>?_,fun b hb=>hS1.sLo b (hS.sLo b hb),fun b hb=>?_,fun k b hk' hb=>?_,fun k k' b hk1 hk2 hb hb'=>?_,fun k C hC=>?_⟩
 ·refine(hkeep b (by omega) fun ho=>?_).trans (hS.keep b hb hn)
  grind
 ·obtain⟨h1,h2⟩:=hS1.sUp b hb
  refine⟨h1,?_⟩;rcases h2 with h2|h2|h2
  ·exact(hS.sUp b h2).2
  ·grind
  grind
 ·rcases hcase k hk' with⟨h1,h2⟩|⟨i,h1,rfl⟩
  ·rw[hσo k h1 h2] at hb
   obtain⟨h3,_,h5⟩:=hS.σUp k b h1 hb
   grind
  grind
 ·have cross: ∀k i b,k<H.length->k∉ks->i<H1.length->σ k=some b->σ1 i=some b->False:=fun k i b h1 h2 h3 h4 h5=>by
   rcases(hup1 i b h3 h5).2.2 with h|h
   ·exact hnown k b h1 h2 h4 h
   ·have:=(hS.σUp k b h1 h4).1;omega
  rcases hcase k hk1 with⟨h1,h2⟩|⟨i,h1,rfl⟩<;>rcases hcase k' hk2 with⟨h3,h4⟩|⟨j,h3,rfl⟩
  ·rw[hσo k h1 h2] at hb;rw[hσo k' h3 h4] at hb'
   exact hS.inj k k' b h1 h3 hb hb'
  ·grind
  ·grind
  ·rw[hσ1] at hb hb'
   rw[hS1.inj i j b h1 h3 hb hb']
 ·rcases hcase k (A8.1 hC).1 with⟨h1,h2⟩|⟨i,h1,rfl⟩
  ·exact(hS.blk k C ((hother k C h1 h2).1 hC)).mono hev (hσo k h1 h2) fun b hb=>hkeep b (hS.σUp k b h1 hb).1 (hnown k b h1 h2 hb)
  ·obtain⟨h3,h4⟩:=hm1 i _ (A0 h1)
   rw[h3] at hC;obtain rfl:=AA hC;have hb:=hS1.blk i _ (A0 h1);generalize H1[i]=C1 at*;cases C1 with
   |none=>exact h4.trans hb
   |row g cells=>
    rcases hb with⟨b,cs,T,hb,hc,hr⟩|⟨hb,rfl⟩
    ·refine .inl ⟨b,cs,T,h4.trans hb,hc,fun j y hy=>?_⟩
     obtain⟨y0,hy0,rfl⟩:=QeB hy;obtain⟨u,hu,hr'⟩:=hr j y0 hy0;exact⟨u,hu,hr'.up hm1⟩
    ·exact .inr ⟨h4.trans hb,rfl⟩
   |arr g sz T rows=>
    refine⟨hb.1,?_⟩;rw[h4];exact hb.2
   |mp g l=>show(∃b es clock,σ' (ρ i)=some b/\_)∨(σ' (ρ i)=none/\_);rw[h4];exact hb
theorem Qie{env:List (Nat×AV)}{H:List Blk}{x:AV}(ks:List Nat)(h:Does P f args H0 gl x H1)
 (hcall: ∀(σ:Sg) (S:Nat->Prop) (H:List Blk) (w:AK) (a:Act),(∀u∈o.op.operands,Rel σ S H w (aval env u) (a.eval u))-> ∃cargs:List AE,(execOp a.eval o).run P w= .ok (.enter f cargs.toArray) w/\
   avs.length=cargs.length/\ ∀(i:Nat) d v,avs[i]? =some d->cargs[i]? =some v->Rel σ S H w d v)
 (hargs:avs=AV.renL (rho ks H.length) args) (hks:ks.map (fun k=>H[k]?)=(H0.map (Blk.ren (rho ks H.length))).map some) (hnd:ks.Nodup)
 (hla:AV.ltL H0.length args=true) (hlg:AV.ltL H0.length gl=true) (hlH:H0.all (Blk.lt H0.length)=true)
 (hgl: ∀g∈gl,g.ren (rho ks H.length)∈avs.flatMap AV.parts++H.flatMap Blk.parts):
 Eff P o env H (x.ren (rho ks H.length)) (place (rho ks H.length) H ks H1++(H1.drop ks.length).map (Blk.ren (rho ks H.length))):=by
 intro B σ S a w hB hS hop K Q kk;refine Qfm ks h.e hcall hargs hks hnd hla hlg hlH hgl B σ S a w hB hS hop K Q ?_
 grind
def parA:Nat->List AV->List (Nat×AV)
 |_,[]=>[]
 |i,d::r=>(i,d)::parA (i+1) r
theorem QgS: ∀(l:List AV) (i t:Nat),(∃d,i<=t/\l[t -i]? =some d/\look (parA i l) t=d)∨look (parA i l) t= .d .any
 |[],_,_=> .inr rfl
 |d::r,i,t=>by
  by_cases h:i=t
  ·subst h;exact .inl ⟨d,Ad _,by simp,Qdw _ _ _⟩
  ·have hl:look (parA i (d::r)) t=look (parA (i+1) r) t:=Qd2 h _ _
   rw[hl];rcases QgS r (i+1) t with⟨d',h1,h2,h3⟩|h
   ·grind
   grind
def allR(env:List (Nat×AV)):List AO->Option (List AV)
 |[]=>some []
 |.tmp t::r=>(allR env r).map (look env t:: ·)
 |.cell _ _::_=>none
def resA(env:List (Nat×AV)):List AO->Option AV
 |[.tmp t]=>some (look env t)
 |rs=>(allR env rs).map .tup
abbrev gslot:Nat:=1000000
def EndA(rs:List AO)(x:AV)(H1:List Blk)(gl:List AV)(gvs:List AE):AQ->St->Prop
 |.normal,s| .ret,s=>resA s.env rs=some x/\s.H=H1/\look s.env gslot= .gh gl gvs
 |_,_=>False
theorem QfJ(tmps:Array AE)(w:AK): ∀(rs:List AO) (env:List (Nat×AV)) (ds:List AV),allR env rs=some ds->
 (rs.mapM (rvS tmps)).run P w= .ok (rs.map (rvV tmps)) w/\ds.length=rs.length/\ ∀(i:Nat) d v,ds[i]? =some d->(rs.map (rvV tmps))[i]? =some v-> ∃t,d=look env t/\v=tmps.getD t undef
 |[],_,ds,h=>by obtain rfl:=AA h;simp
 |.tmp t::rs,env,ds,h=>by
  obtain⟨ds',h1,rfl⟩:=A4.1 h;obtain⟨h2,h3,h4⟩:=QfJ tmps w rs env ds' h1;refine⟨?_,by simp[h3],fun i d v hd hv=>?_⟩
  ·rw[List.mapM_cons,A5]
   show((Sem.pure (tmps.getD t undef)).run P w).andThen _=_;rw[Sem.run_pure',A7,A5,h2,A7,Sem.run_pure];rfl
  grind [rvV]
 |.cell _ _::rs,env,ds,h=>by simp[allR] at h
def EndE(H0:List Blk)(rs:List AO)(Q0:AV->List Blk->Prop)(gl:List AV)(gvs:List AE):AQ->St->Prop
 |.normal,s| .ret,s=> ∃x,resA s.env rs=some x/\Q0 x s.H/\(∀i C,H0[i]? =some C-> ∃C',s.H[i]? =some C'/\pin1 gl i C C')/\look s.env gslot= .gh gl gvs
 |_,_=>False
theorem QlV{fn:Func}{n:Nat}(hf:P.funcs[f]? =some fn)(hb:fn.body=some c)(hn:fn.ntmps=n)(hrs:fn.results=rs.toArray)(hle:AN args.length n=true)
 (hn2:AN n gslot=true)
 (h: ∀gvs,AWP P c (EndE H0 rs Q0 gl gvs) ⟨n,(gslot,.gh gl gvs)::parA 0 args,H0⟩):DoesE P f args H0 gl Q0:=by
 have hlen:args.length<=n:=AG hle;have hn2:n<=gslot:=AG hn2;intro B σ S w cargs gvs hB hS hl hr hgl hgr;refine calls_of_wp hf hb ?_
 have hA:SmA B σ S ⟨n,(gslot,.gh gl gvs)::parA 0 args,H0⟩ {tmps:=cargs.toArray++AU (fn.ntmps -cargs.toArray.size) undef,defers:=[]} w:=by
  refine⟨hS,rfl,?_,fun t=>?_⟩
  ·grind
  ·by_cases ht:gslot=t
   ·subst ht
    show Rel σ S H0 w (look ((gslot,.gh gl gvs)::parA 0 args) gslot) _;rw[Qdw];exact .gh _ _ _ hgl hgr
   show Rel σ S H0 w (look ((gslot,.gh gl gvs)::parA 0 args) t) _;rw[Qd2 ht];rcases QgS args 0 t with⟨d,_,h2,h3⟩|h
   ·rw[h3]
    have ht:t<cargs.length:=by grind
    have:(cargs.toArray++AU (fn.ntmps -cargs.toArray.size) undef).getD t undef=cargs[t]:=by
     rw[Array.getD_eq_getD_getElem?,Array.getElem?_append_left (by omega)];simp[ht]
    show Rel σ S H0 w d ((cargs.toArray++AU (fn.ntmps -cargs.toArray.size) undef).getD t undef);rw[this];exact hr t d _ (by omega) (A0 ht)
   ·rw[h];exact .d _ _ (.any _)
 refine wp_mono (h gvs _ hB _ _ _ _ hA) ?_;rintro e a w' ⟨s',σ',S',hq,hA'⟩
 have fin:(∃x,resA s'.env rs=some x/\Q0 x s'.H/\(∀i C,H0[i]? =some C-> ∃C',s'.H[i]? =some C'/\pin1 gl i C C')/\look s'.env gslot= .gh gl gvs)->a.defers=[]/\ ∃v,(results fn a.tmps).run P w'= .ok v w'/\
  ∃x H1,Q0 x H1/\(∀i C,H0[i]? =some C-> ∃C',H1[i]? =some C'/\pin1 gl i C C')/\ ∃v' σ' S',Ending.returned v= .returned v'/\Sm B σ' S' H1 w'/\Rel σ' S' H1 w' x v'/\ ∀(i:Nat) d v,gl[i]? =some d->gvs[i]? =some v->Rel σ' S' H1 w' d v:=by
  rintro⟨x,hx,hQ,hpin,hg⟩;refine⟨hA'.defers,?_⟩
  have hgh: ∀(i:Nat) d v,gl[i]? =some d->gvs[i]? =some v->Rel σ' S' s'.H w' d v:=by
   have:=hA'.env gslot;rw[hg] at this;cases this with
   |gh _ _ _ h1 h2=>exact h2
  have hsm:=hA'.sm;have henv:=hA'.env
  have gen: ∀ds,allR s'.env rs=some ds->(fn.results.mapM (rvS a.tmps)).run P w'= .ok (rs.map (rvV a.tmps)).toArray w':=fun ds hds=>by
   rw[hrs,Array.mapM_eq_mapM_toList,Sem.run_map,(QfJ a.tmps w' rs s'.env ds hds).1];rfl
  rw[Qfd]
  by_cases h1:rs.length=1
  ·match rs,h1 with
   |[.tmp t],_=>
    obtain rfl:=AA hx;refine⟨a.tmps.getD t undef,?_,_,_,hQ,hpin,_,σ',S',rfl,hsm,henv t,hgh⟩;rw[A5,gen [look s'.env t] rfl];rfl
   |[.cell _ _],_=>simp[resA,allR] at hx
  ·have hx':(allR s'.env rs).map AV.tup=some x:=by
    unfold resA at hx
    grind
   obtain⟨ds,hds,rfl⟩:=A4.1 hx';obtain⟨_,h3,h4⟩:=QfJ (P:=P) a.tmps w' rs s'.env ds hds;refine⟨.tuple (rs.map (rvV a.tmps)).toArray,?_,_,_,hQ,hpin,_,σ',S',rfl,hsm,.tup ds _ (by simp[h3]) fun i d v hd hv=>?_,hgh⟩
   ·simp_all
   grind
 cases e with
 |normal=>exact fin hq
 |ret=>exact fin hq
 |_=>exact hq.elim
theorem Qno{fn:Func}{x:AV}{n:Nat}(hf:P.funcs[f]? =some fn)(hb:fn.body=some c)(hn:fn.ntmps=n)(hrs:fn.results=rs.toArray)(hle:AN args.length n=true)
 (hn2:AN n gslot=true) (hpin: ∀i C,H0[i]? =some C-> ∃C',H1[i]? =some C'/\pin1 gl i C C')
 (h: ∀gvs,AWP P c (EndA rs x H1 gl gvs) ⟨n,(gslot,.gh gl gvs)::parA 0 args,H0⟩):Does P f args H0 gl x H1:=by
 refine⟨hpin,fun B σ S w cargs gvs h1 h2 h3 h4 h5 h6=>(QlV (Q0:=fun y K=>y=x/\K=H1) hf hb hn hrs hle hn2 (fun gvs=>?_) B σ S w cargs gvs h1 h2 h3 h4 h5 h6).mono ?_⟩
 ·intro B hB σ S a w hA
  refine wp_mono (h gvs B hB σ S a w hA) ?_;rintro e a w ⟨s',σ',S',hq,hA'⟩;refine⟨s',σ',S',?_,hA'⟩;cases e with
  |normal=>exact⟨x,hq.1,⟨rfl,hq.2.1⟩,fun i C hC=>by rw[hq.2.1];grind,hq.2.2⟩
  |ret=>exact⟨x,hq.1,⟨rfl,hq.2.1⟩,fun i C hC=>by rw[hq.2.1];grind,hq.2.2⟩
  |_=>exact hq.elim
 grind
theorem Qem{dst:Option Au}{ty:AD}{pos:String}{after:Array Al}{gd:Option (Nat×Bool)}{env:List (Nat×AV)}
 (hf: ∀args w,(callFunc f args).run P w= .ok (.enter f args) w) (σ:Sg) (S:Nat->Prop) (H:List Blk) (w:AK) (a:Act) (hop: ∀u∈(⟨dst,.call ⟨.value (.func f),xs,tys⟩,ty,pos,after,gd⟩:AX).op.operands,Rel σ S H w (aval env u) (a.eval u)):
 ∃cargs:List AE,(execOp a.eval ⟨dst,.call ⟨.value (.func f),xs,tys⟩,ty,pos,after,gd⟩).run P w= .ok (.enter f cargs.toArray) w/\
  (xs.toList.map (aval env)).length=cargs.length/\ ∀(i:Nat) d v,(xs.toList.map (aval env))[i]? =some d->cargs[i]? =some v->Rel σ S H w d v:=by
 refine⟨xs.toList.map a.eval,?_,by simp,fun i d v hd hv=>?_⟩
 ·have:execOp a.eval ⟨dst,.call ⟨.value (.func f),xs,tys⟩,ty,pos,after,gd⟩=callFunc f (#[]++xs.map a.eval++ #[]):=rfl
  rw[this,hf]
  congr 2
  apply Ap;simp
 grind [A2,AF]
theorem Qox{dst:Option Au}{ty:AD}{pos:String}{after:Array Al}{gd:Option (Nat×Bool)}{env:List (Nat×AV)}{t:Au}{caps:List AV}
 (hf: ∀args w,(callFunc f args).run P w= .ok (.enter f args) w) (ht:look env t= .fn (.func f) caps) (σ:Sg) (S:Nat->Prop) (H:List Blk) (w:AK) (a:Act)
 (hop: ∀u∈(⟨dst,.call ⟨.value (.tmp t),xs,tys⟩,ty,pos,after,gd⟩:AX).op.operands,Rel σ S H w (aval env u) (a.eval u)):
 ∃cargs:List AE,(execOp a.eval ⟨dst,.call ⟨.value (.tmp t),xs,tys⟩,ty,pos,after,gd⟩).run P w= .ok (.enter f cargs.toArray) w/\
  (xs.toList.map (aval env)++caps).length=cargs.length/\ ∀(i:Nat) d v,(xs.toList.map (aval env)++caps)[i]? =some d->cargs[i]? =some v->Rel σ S H w d v:=by
 have h1:=hop (.tmp t) (by simp[A2,AF]);have h2: ∀u∈xs.toList,Rel σ S H w (aval env u) (a.eval u):=fun u hu=>hop u (by grind [A2,AF])
 change Rel σ S H w (look env t) (a.eval (.tmp t)) at h1
 rw[ht] at h1;generalize hv:a.eval (.tmp t)=v0 at h1;cases h1 with
 |fn _ _ cs hl hr=>
  refine⟨xs.toList.map a.eval++cs,?_,by simp[hl],fun i d v hd hv=>?_⟩
  ·have:execOp a.eval ⟨dst,.call ⟨.value (.tmp t),xs,tys⟩,ty,pos,after,gd⟩=callFunc f (#[]++xs.map a.eval++cs.toArray):=by
    show(do let d<-Deferred.ofValue (a.eval (.tmp t)) (xs.map a.eval);invoke d.target d.args:Sem Next)=_;rw[hv];rfl
   simp_all
  grind
def AV.ice(H:List Blk):Nat->AV->D
 |0,_=> .any
 |_+1,.d x=>x
 |n+1,.agg l=> .agg (l.map (AV.ice H n))
 |n+1,.tup l=> .tup (l.map (AV.ice H n))
 |n+1,.ptr k g o=>match H[k]? with
  |some (.row g' cells)=>if g=g' then .pd ((cells.drop o).map (AV.ice H n)) else .any
  |_=> .any
 |_+1,.osl k g off len=>match H[k]? with
  |some (.arr g' sz _ rows)=>if g=g' then .sl true sz ((rows.drop off).take len) else .any
  |_=> .any
 |_+1,.mp k g=>match H[k]? with
  |some (.mp g' l)=>if g=g' then .mp l else .any
  |_=> .any
 |_+1,_=> .any
mutual
def D.flat:D->Bool
 |.v _=>true
 |.any=>true
 |.agg l=>D.flatL l
 |.tup l=>D.flatL l
 |_=>false
def D.flatL:List D->Bool
 |[]=>true
 |x::r=>D.flat x&&D.flatL r
end
theorem D.flatL_get: ∀{l:List D} {i:Nat} {x:D},D.flatL l=true->l[i]? =some x->x.flat=true
 :=by intro l;induction l<;>grind [D.flatL]
theorem RelD.flat{S S':Nat->Prop}{w':AK}{d:D}{x:AE}(h:RelD S w d x):d.flat=true->RelD S' w' d x:=by
 induction h with
 |any x=>exact fun _=> .any x
 |v x=>exact fun _=> .v x
 |agg l cs hl h ih=>exact fun hf=> .agg l cs hl fun i d x hd hx=>ih i d x hd hx (D.flatL_get (by grind [D.flat]) hd)
 |tup l cs hl h ih=>exact fun hf=> .tup l cs hl fun i d x hd hx=>ih i d x hd hx (D.flatL_get (by grind [D.flat]) hd)
 |_=>grind [D.flat]
theorem Qhz{B:Bs}{σ:Sg}{S:Nat->Prop}{H H':List Blk}{w:AK}(hS:Sm B σ S H' w)(hag:Agree H H'): ∀(n:Nat) (x:AV) (v:AE),Rel σ S H' w x v->RelD (fun b=>S b∨ ∃k,k<H'.length/\σ k=some b) w (x.ice H n) v
 |0,x,v,_=> .any v
 |n+1,x,v,hR=>by
  have hin: ∀k C b,H'[k]? =some C->σ k=some b->(S b∨ ∃k,k<H'.length/\σ k=some b):=fun k C b hk hb=> .inr ⟨k,(A8.1 hk).1,hb⟩
  cases hR with
  |d x v h=>exact h.mono (fun b hb=> .inl hb) fun _ _=>rfl
  |agg l cs hl h=>
   refine .agg _ cs (by grind) fun i d x hd hx=>?_
   rw[AJ] at hd;obtain⟨y,hy,rfl⟩:=A4.1 hd;exact Qhz hS hag n y x (h i y x hy hx)
  |tup l cs hl h=>
   refine .tup _ cs (by grind) fun i d x hd hx=>?_
   rw[AJ] at hd;obtain⟨y,hy,rfl⟩:=A4.1 hd;exact Qhz hS hag n y x (h i y x hy hx)
  |fn f l cs hl h=>exact .any _
  |gh l cs u hl h=>exact .any _
  |ept k g i j v ho g' sz T rows hk hg hh=>exact .any _
  |rsl k g n v ho g' cells hk hg hh=>exact .any _
  |ptr k g o v ho g' cells hk hg hh=>
   simp only[AV.ice];split;rotate_left
   ·exact .any _
   rename_i g2 cells2 hk2;split;rotate_left
   ·exact .any _
   rename_i e;subst e
   have e2:cells2=cells/\g'=g:=by
    rcases hag k _ hk2 with h|h<;>rw[hk] at h<;>simp at h
    grind
   obtain⟨rfl,rfl⟩:=e2;obtain⟨b,hb,rfl⟩:=hh rfl;rcases hS.blk k _ hk with⟨b',cs,T,hb',hc,hr⟩|⟨hb',_⟩;rotate_left
   ·grind
   rw[hb] at hb';obtain rfl:=AA hb'
   have key: ∀(j:Nat) d,((cells2.drop o).map (AV.ice H n))[j]? =some d-> ∃u,cs[o+j]? =some u/\RelD (fun b=>S b∨ ∃k,k<H'.length/\σ k=some b) w d u:=by
    intro j d hd;rw[AJ,AY] at hd;obtain⟨y,hy,rfl⟩:=A4.1 hd;obtain⟨u,hu,hr'⟩:=hr _ y hy;exact⟨u,hu,Qhz hS hag n y u hr'⟩
   refine .pd _ b o (fun j=>(cs[o+j]?).getD undef) (hin k _ b hk hb) (fun j d hd=>?_) fun j d hd=>?_
   ·grind [cell_of_row]
   grind
  |osl k g off len v ho g' sz T rows hk hg hh=>
   simp only[AV.ice];split;rotate_left
   ·exact .any _
   rename_i g2 sz2 T2 rows2 hk2;split;rotate_left
   ·exact .any _
   rename_i e;subst e
   have e2:g'=g/\sz=sz2/\T=T2/\rows=rows2:=by
    rcases hag k _ hk2 with h|h<;>rw[hk] at h<;>simp at h;exact h
   obtain⟨rfl,rfl,rfl,rfl⟩:=e2;obtain⟨hle,hh⟩:=hh rfl;have hblk:=hS.blk k _ hk;rcases hh with⟨b,cap,cs,T',hb,hcl,hcm,rfl,hc,hsz⟩|⟨hb,rfl,rfl⟩
   ·obtain⟨hall,hblk⟩:=hblk
    rcases hblk with⟨b',cs',hb',hc',hr⟩|⟨hb',_⟩;rotate_left
    ·grind
    rw[hb] at hb';obtain rfl:=AA hb';have hlen:((rows.drop off).take len).length=len:=by grind
    have key: ∀(i j:Nat) r d,((rows.drop off).take len)[i]? =some r->r[j]? =some d-> ∃u,cs'[off*sz+i*sz+j]? =some u/\RelD S w d u:=by
     grind
    have hfin:RelD (fun b=>S b∨ ∃k,k<H'.length/\σ k=some b) w (.sl true sz ((rows.drop off).take len)) (.slice (some ⟨b,off*sz,none⟩) ((rows.drop off).take len).length cap):=by
     refine .sl true sz _ b (off*sz) cap (fun i j=>(cs'[off*sz+i*sz+j]?).getD undef) (hin k _ b hk hb) (fun r hr'=>?_) (fun _=>by omega) (fun i j r d hi hj=>?_) fun i j r d hi hj=>?_
     ·grind
     ·grind [cell_of_row]
     ·obtain⟨u,hu,hd⟩:=key i j r d hi hj
      rw[hu];exact hd.mono (fun _ h=> .inl h) fun _ _=>rfl
    grind
   ·simp only[List.take_zero];exact .slnil _ _ _ _
  |mp k g v ho g' l hk hg hh=>
   simp only[AV.ice];split;rotate_left
   ·exact .any _
   rename_i g2 l2 hk2;split;rotate_left
   ·exact .any _
   rename_i e;subst e
   have e2:g'=g/\l=l2:=by
    rcases hag k _ hk2 with h|h<;>rw[hk] at h<;>simp at h;exact h
   obtain⟨rfl,rfl⟩:=e2;obtain⟨b,hb,rfl⟩:=hh rfl;rcases hS.blk k _ hk with⟨b',es,clock,hb',hc,hl,hr⟩|⟨hb',_⟩;rotate_left
   ·grind
   rw[hb] at hb';obtain rfl:=AA hb';refine .mp l b es clock (hin k _ b hk hb) hc hl.1 (fun i key d e hi he=>?_) fun i key d e hi he=>?_
   ·grind
   ·obtain⟨e',he',_,hd⟩:=hr i key d hi
    rw[he] at he';obtain rfl:=AA he';exact hd.mono (fun _ h=> .inl h) fun _ _=>rfl
theorem QfR{dst:Option Au}{ty:AD}{pos:String}{after:Array Al}{gd:Option (Nat×Bool)}{env:List (Nat×AV)}{H:List Blk}{ds:List D}{x:D}
 (hf: ∀args w,(callFunc f args).run P w= .ok (.enter f args) w) (h:Pure P f ds x) (hx:x.flat=true) (hd:ds=xs.toList.map fun u=>(aval env u).ice H 4:=by rfl):
 Loc P ⟨dst,.call ⟨.value (.func f),xs,tys⟩,ty,pos,after,gd⟩ env H (.d x) none:=by
 intro B σ S H' a w hB hS hop hag _ K Q k
 have hrun:(execOp a.eval ⟨dst,.call ⟨.value (.func f),xs,tys⟩,ty,pos,after,gd⟩).run P w= .ok (.enter f (xs.toList.map a.eval).toArray) w:=by
  have:execOp a.eval ⟨dst,.call ⟨.value (.func f),xs,tys⟩,ty,pos,after,gd⟩=callFunc f (#[]++xs.map a.eval++ #[]):=rfl;rw[this,hf]
  congr 2
  apply Ap;simp
 unfold Oper.wp;rw[hrun,Ae]
 let S2:Nat->Prop:=fun b=>S b∨ ∃k,k<H'.length/\σ k=some b
 have hB':Gd ⟨w,B.G,fun _=>False,S2⟩:=hB.again hS S2
 have hS':Sm ⟨w,B.G,fun _=>False,S2⟩ (fun _=>none) S2 [] w:=by
  refine⟨rfl,rfl,rfl,Ad _,fun _ _ _=>rfl,fun _ h=>h,fun b hb=>⟨?_,.inl hb⟩,fun k b hk=>by simp at hk,fun k k' b hk=>by simp at hk,fun k C hC=>by simp at hC⟩;rcases hb with hb|⟨k,hk,hb⟩
  ·exact(hS.sUp b hb).1
  ·exact(hS.σUp k b hk hb).1
 refine(h _ _ S2 [] w (xs.toList.map a.eval) hB' hS' (by grind) fun i d v hi hv=>?_).mono ?_
 ·grind [Qhz,A2,AF]
 rintro e w' ⟨v,rfl,hb,hr⟩;obtain⟨h3,h4⟩:=hS.below hb;exact k v w' σ _ h3 (.d _ _ (hr.flat hx)) h4
end Aw
end
section
open Go.RowKit
namespace Pm
open Pl (dec dch)
def optNat:Option Nat->AE
 |some n=> .tuple #[.int .i64 (n:Int),.bool true]
 |none=> .tuple #[.int .i64 0,.bool false]
end Pm
end
section
open Go.RowKit
namespace Aw
variable{i j:Int}{κ κ':Af}{u x y:A9}{T t1 t2:AD}{E:TyF}
variable{P:AL}
section
variable{dst:Option Au}{ty:AD}{pos:String}{after:Array Al}{gd:Option (Nat×Bool)}{env:List (Nat×AV)}{H:List Blk}
def Qgj{F:TyF}{l:List UInt8} [hT:Ty P T F](hs:F.str=true)(hu:aval env u= .d (.v (.string ⟨l.toArray⟩)))(hx:aval env x= .d (.v (.int κ i)))(hy:aval env y= .d (.v (.int κ' j)))
 (h0:0<=i) (h1:i<=j) (h2:j<=l.length):Loc P ⟨dst,.slice T u (some x) (some y) none,ty,pos,after,gd⟩ env H (.d (.v (.string ⟨((l.take j.toNat).drop i.toNat).toArray⟩))) none:=
 QP fun σ S H' a w _ hop _=>by
  have a1:=AV.conc_rel (hop u (by simp[A2])) (y:= .string ⟨l.toArray⟩) (by rw[hu];rfl);have a2:=AV.conc_rel (hop x (by simp[A2])) (y:= .int κ i) (by rw[hx];rfl);have a3:=AV.conc_rel (hop y (by simp[A2])) (y:= .int κ' j) (by rw[hy];rfl);refine⟨.string ⟨((l.take j.toNat).drop i.toNat).toArray⟩,?_,.d _ _ (.v _)⟩;simp only[execOp,AH,AI,a1,a2,a3,A5,run_sliceAt_string _ _ _ _ _ _ (QfH hT.h hs),run_slice_string_if w T _ _ _ _ _ (QfH hT.h hs),Qge];rw[if_pos ⟨by omega,h2⟩,if_pos ⟨h0,h1⟩,Pm.Qh9];rfl
theorem Qfi{F:TyF}{l:List UInt8} [hT:Ty P T F](hs:F.str=true)(hu:aval env u= .d (.v (.string ⟨l.toArray⟩)))(hx:aval env x= .d (.v (.int κ i)))
 (h0:0<=i) (h1:i<=l.length):Loc P ⟨dst,.slice T u (some x) none none,ty,pos,after,gd⟩ env H (.d (.v (.string ⟨(l.drop i.toNat).toArray⟩))) none:=
 QP fun σ S H' a w _ hop _=>by
  have a1:=AV.conc_rel (hop u (by simp[A2])) (y:= .string ⟨l.toArray⟩) (by rw[hu];rfl);have a2:=AV.conc_rel (hop x (by simp[A2])) (y:= .int κ i) (by rw[hx];rfl);refine⟨.string ⟨(l.drop i.toNat).toArray⟩,?_,.d _ _ (.v _)⟩;simp only[execOp,AH,AI,a1,a2,A5,run_sliceAt_string _ _ _ _ _ _ (QfH hT.h hs)];rw[run_slice_string_l w T _ (QfH hT.h hs) _ _ h0 (by grind [Qge]),Qge,Pm.Qh9,AR];rfl
theorem Qfj{F:TyF}{l:List UInt8} [hT:Ty P T F](hs:F.str=true)(hu:aval env u= .d (.v (.string ⟨l.toArray⟩)))(hy:aval env y= .d (.v (.int κ' j)))
 (h0:0<=j) (h2:j<=l.length):Loc P ⟨dst,.slice T u none (some y) none,ty,pos,after,gd⟩ env H (.d (.v (.string ⟨(l.take j.toNat).toArray⟩))) none:=
 QP fun σ S H' a w _ hop _=>by
  have a1:=AV.conc_rel (hop u (by simp[A2])) (y:= .string ⟨l.toArray⟩) (by rw[hu];rfl);have a3:=AV.conc_rel (hop y (by simp[A2])) (y:= .int κ' j) (by rw[hy];rfl);refine⟨.string ⟨(l.take j.toNat).toArray⟩,?_,.d _ _ (.v _)⟩;simp only[execOp,AH,AI,a1,a3,A5,run_sliceAt_string _ _ _ _ _ _ (QfH hT.h hs)];rw[run_slice_string_h w T _ (QfH hT.h hs) _ _ h0 (by grind [Qge]),Pm.Qh9,Ah];rfl
theorem Qh5{e:AD}(h:P.underlying T=some (.slice e)):P.elem T=e:=by grind [Program.elem]
theorem QhX{S:Nat->Prop}{w:AK}{n l h:Nat}{rows:List (List D)}{a:Option Addr}{len cap:Nat}(hr:RelD S w (.sl true n rows) (.slice a len cap))(h1:l<=h)(h2:h<=rows.length):
 h<=cap/\len=rows.length/\RelD S w (.sl true n ((rows.take h).drop l)) (sliced a l h cap n):=by
 cases hr with
 |slnil=>
  have:l=0/\h=0:=by grind
  obtain⟨rfl,rfl⟩:=this;simp only[sliced,List.take_nil,List.drop_nil,Nat.sub_self,Nat.sub_zero];exact⟨by omega,rfl,.slnil _ _ _ _⟩
 |sl _ _ _ b o cap g hS hn hcap hc hrr=>
  have hc':=hcap rfl;refine⟨by omega,rfl,?_⟩;unfold sliced
  by_cases hm:cap=l
  ·rw[if_pos hm]
   have:((rows.take h).drop l)=[]:=by grind
   rw[this,show h -l=0 by omega];exact .slnil _ _ _ _
  ·rw[if_neg hm]
   have hlen:((rows.take h).drop l).length=h -l:=by grind
   have hget: ∀(i:Nat) r,((rows.take h).drop l)[i]? =some r->rows[l+i]? =some r:=fun i r hr=>by
    grind
   have:=RelD.sl (S:=S) (w:=w) true n ((rows.take h).drop l) b (o+l*n) (cap -l) (fun i j=>g (l+i) j) hS (fun r hr=>hn r (List.mem_of_mem_take (List.mem_of_mem_drop hr))) (fun _=>by omega)
    (fun i j r d hi hj=>by grind) (fun i j r d hi hj=>hrr (l+i) j r d (hget i r hi) hj)
   grind [Qea]
theorem QlD{e:AD}{F:TyF}{rows:List (List D)} [hT:Ty P T F](he:F.elem=some e) [hE:Ty P e E](hu:aval env u= .d (.sl true E.size rows))(hx:aval env x= .d (.v (.int κ i)))(hy:aval env y= .d (.v (.int κ' j)))
 (h0:0<=i) (h1:i<=j) (h2:j<=rows.length):Loc P ⟨dst,.slice T u (some x) (some y) none,ty,pos,after,gd⟩ env H (.d (.sl true E.size ((rows.take j.toNat).drop i.toNat))) none:=
 QP fun σ S H' a w _ hop _=>by
  have a1:=hop u (by simp[A2]);have a2:=AV.conc_rel (hop x (by simp[A2])) (y:= .int κ i) (by rw[hx];rfl);have a3:=AV.conc_rel (hop y (by simp[A2])) (y:= .int κ' j) (by rw[hy];rfl);rw[hu] at a1;generalize hv:a.eval u=v at a1;have hT':=QdB hT.h he;have hel:=Qh5 hT';have hT'':P.underlying T=some (.slice (P.elem T)):=by rw[hel];exact hT'
  obtain⟨ad,len,cap,rfl⟩: ∃ad len cap,v= .slice ad len cap:=by cases a1 with|d _ _ h=>cases h<;>exact⟨_,_,_,rfl⟩
  have hr:RelD S w (.sl true E.size rows) (.slice ad len cap):=by cases a1;assumption
  obtain⟨b1,b2,b3⟩:=QhX hr (l:=i.toNat) (h:=j.toNat) (by omega) (by omega);refine⟨_,?_,.d _ _ b3⟩;simp only[execOp,AH,AI,hv,a2,a3,A5,run_sliceAt_slice _ _ _ _ _ _ hT''];rw[run_slice_lh w T ad len cap hT'' _ _ _ _ h0 h1 (by omega),hel,QdY hE.h];rfl
theorem Qgk{e:AD}{F:TyF}{rows:List (List D)} [hT:Ty P T F](he:F.elem=some e) [hE:Ty P e E](hu:aval env u= .d (.sl true E.size rows))(hy:aval env y= .d (.v (.int κ' j)))
 (h0:0<=j) (h2:j<=rows.length):Loc P ⟨dst,.slice T u none (some y) none,ty,pos,after,gd⟩ env H (.d (.sl true E.size (rows.take j.toNat))) none:=
 QP fun σ S H' a w _ hop _=>by
  have a1:=hop u (by simp[A2]);have a3:=AV.conc_rel (hop y (by simp[A2])) (y:= .int κ' j) (by rw[hy];rfl);rw[hu] at a1;generalize hv:a.eval u=v at a1;have hT':=QdB hT.h he;have hel:=Qh5 hT';have hT'':P.underlying T=some (.slice (P.elem T)):=by rw[hel];exact hT'
  obtain⟨ad,len,cap,rfl⟩: ∃ad len cap,v= .slice ad len cap:=by cases a1 with|d _ _ h=>cases h<;>exact⟨_,_,_,rfl⟩
  have hr:RelD S w (.sl true E.size rows) (.slice ad len cap):=by cases a1;assumption
  obtain⟨b1,b2,b3⟩:=QhX hr (l:=0) (h:=j.toNat) (by omega) (by omega);rw[Ah] at b3;refine⟨_,?_,.d _ _ b3⟩;simp only[execOp,AH,AI,hv,a3,A5,run_sliceAt_slice _ _ _ _ _ _ hT''];rw[run_slice_h w T ad len cap hT'' _ _ h0 (by omega),hel,QdY hE.h];rfl
theorem QgT{e:AD}{F:TyF}{rows:List (List D)} [hT:Ty P T F](he:F.elem=some e) [hE:Ty P e E](hu:aval env u= .d (.sl true E.size rows))(hx:aval env x= .d (.v (.int κ i)))
 (h0:0<=i) (h2:i<=rows.length):Loc P ⟨dst,.slice T u (some x) none none,ty,pos,after,gd⟩ env H (.d (.sl true E.size (rows.drop i.toNat))) none:=
 QP fun σ S H' a w _ hop _=>by
  have a1:=hop u (by simp[A2]);have a2:=AV.conc_rel (hop x (by simp[A2])) (y:= .int κ i) (by rw[hx];rfl);rw[hu] at a1;generalize hv:a.eval u=v at a1;have hT':=QdB hT.h he;have hel:=Qh5 hT';have hT'':P.underlying T=some (.slice (P.elem T)):=by rw[hel];exact hT'
  obtain⟨ad,len,cap,rfl⟩: ∃ad len cap,v= .slice ad len cap:=by cases a1 with|d _ _ h=>cases h<;>exact⟨_,_,_,rfl⟩
  have hr:RelD S w (.sl true E.size rows) (.slice ad len cap):=by cases a1;assumption
  obtain⟨b1,b2,b3⟩:=QhX hr (l:=i.toNat) (h:=rows.length) (by omega) (by omega);rw[AR] at b3;subst b2;refine⟨_,?_,.d _ _ b3⟩;simp only[execOp,AH,AI,hv,a2,A5,run_sliceAt_slice _ _ _ _ _ _ hT''];rw[run_slice_l w T ad rows.length cap hT'' _ _ h0 (by omega),hel,QdY hE.h];rfl
theorem QmK(hx:aval env x= .d (.v (.int κ i)))(hy:aval env y= .d (.v (.int κ' j))):Loc P ⟨dst,.call ⟨.builtin .max, #[x,y], #[t1,t2]⟩,ty,pos,after,gd⟩ env H (.d (.v (.int κ (if j>i then j else i)))) none:=
 QP fun σ S H' a w _ hop _=>by
  have a2:=AV.conc_rel (hop x (by simp[A2,AF])) (y:= .int κ i) (by rw[hx];rfl);have a3:=AV.conc_rel (hop y (by simp[A2,AF])) (y:= .int κ' j) (by rw[hy];rfl);exact⟨_,by simp_all[execOp,resolve,invoke,builtin,run_max_int2],.d _ _ (.v _)⟩
theorem QmJ(hx:aval env x= .d (.v (.int κ i)))(hy:aval env y= .d (.v (.int κ' j))):Loc P ⟨dst,.call ⟨.builtin .min, #[x,y], #[t1,t2]⟩,ty,pos,after,gd⟩ env H (.d (.v (.int κ (if j<i then j else i)))) none:=
 QP fun σ S H' a w _ hop _=>by
  have a2:=AV.conc_rel (hop x (by simp[A2,AF])) (y:= .int κ i) (by rw[hx];rfl);have a3:=AV.conc_rel (hop y (by simp[A2,AF])) (y:= .int κ' j) (by rw[hy];rfl);exact⟨_,by simp_all[execOp,resolve,invoke,builtin,run_min_int2],.d _ _ (.v _)⟩
end
theorem Qfe{f:Ak}{args:List D}{vs:List AE}{xs:List AE}(ha:concL args=some vs)
 (h: ∀w,Pm.Lt w->Aj P f vs.toArray w fun e w'=>e= .returned (.tuple xs.toArray)/\Below w.heap.size w w'):Pure P f args (.tup (xs.map D.ofV)):=by
 intro B σ S H w cargs hB hS hl hr;obtain rfl:=QfY ha hl hr;refine(h w (hB.ltOf hS)).mono ?_;rintro e w' ⟨rfl,hb⟩;refine⟨_,rfl,hb,.tup _ _ (by simp) fun i d v hd hv=>?_⟩
 grind [D.ofV_rel]
end Aw
end
section
open Go.RowKit
namespace Pm
open Pl (dec dch inR Ptr hole ptrHole ptrOk)
def vptr(p:Ptr):AE:= .agg #[.int .i64 p.pat,.int .i64 p.birth,.int .i64 p.size,.int .i64 p.sum,.int .i64 p.level]
def Qdn{w w1:AK}{cs:Array AE}{t:AD}(hb:Below (w.alloc (.cells cs t)).heap.size (w.alloc (.cells cs t)) w1)(i:Nat)(v:AE)(h:cs[i]? =some v):w1.cell? ⟨w.heap.size,i,none⟩=some v:=by
 rw[hb.cell (p:=⟨w.heap.size,i,none⟩) (by simp)];simpa using h
def Qqy(p:Ptr)(w:AK):Aj A1 70 #[vptr p] w fun e w'=>e= .returned (.bool (ptrHole p))/\Below w.heap.size w w':=by
 obtain⟨pat,birth,size,sum,level⟩:=p;unfold vptr;dsimp only
 go_enter Tryz.func70,Tryz.ntmps70
 go_wp2
 all_goals(go_ret;exact⟨Qd1 (by simp[ptrHole,hole, *]),bnew _ _⟩)
def spRow(n:Int)(w:AK):Aj A1 128 #[.int .i64 n] w fun e w'=>e= .returned (.bool (inR n 8 63))/\w=w':=by
 go_enter Tryz.func128,Tryz.ntmps128
 go_wp2_with (go_at_call 68;refine(l6In n 8 63 w).mono ?_;rintro e w' ⟨rfl,rfl⟩)
 go_ret
 exact⟨rfl,rfl⟩

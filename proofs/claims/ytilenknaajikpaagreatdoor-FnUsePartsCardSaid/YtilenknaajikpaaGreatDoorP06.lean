/- Of parts_card; no condition. -/
import Derived.Test.YtilenknaajikpaaGreatDoorP02
import Derived.Test.YtilenknaajikpaaGreatDoorP05
set_option linter.all false
set_option maxRecDepth 100000
set_option maxHeartbeats 1000000
open Array renaming toList_inj->A8
open Go renaming Exit->A6,Oper->AA,TypeId->AB
open Go.Proofs.Tryz renaming ntmps48->A7,func48->A9
open Nat renaming blt->A4,beq->AC
open Option renaming map_eq_some_iff->A1,bind_eq_some_iff->A3,isSome_some->A5
open Option.some renaming injEq->A2
open Prod.mk renaming injEq->A0
namespace Go.Proofs.YtilenknaajikpaaGreatDoor
noncomputable section
section
open Go.RowKit
namespace Aw
variable{y X Y:Code}{env':List (Nat×AV)}{m:Nat}{ts:List Nat}{I:Nat->St->Prop}{b:Bool}{c:Operand}
variable{P:Program}
theorem tyf_of{T:AB}{F:TyF} [h:Ty P T F]:tyf P T=some F:=h.h
def evPick(X Y:AV):AV->Option (AV×Option Blk)
 |.d (.v (.bool b))=>some (bif b then X else Y,none)
 |_=>none
def evNot:AV->Option (AV×Option Blk)
 |.d (.v (.bool b))=>some (.d (.v (.bool !b)),none)
 |_=>none
def evLoad(H:List Blk)(F:TyF):AV->Option (AV×Option Blk)
 |.d (.pd cells)=>(ldD F cells).map fun x=>(.d x,none)
 |.ptr k g o=>match H[k]? with
  |some (.row g' cells)=>if g'=g then(ldA F (cells.drop o)).map fun x=>(x,none) else none
  |_=>none
 |.ept k g i j=>match H[k]? with
  |some (.arr g' _ _ rows)=>if g'=g then(rows[i]?.bind fun r=>ldD F (r.drop j)).map fun x=>(.d x,none) else none
  |_=>none
 |_=>none
def evField(H:List Blk)(o:Nat):AV->Option (AV×Option Blk)
 |.d (.pd cells)=>some (.d (.pd (cells.drop o)),none)
 |.ptr k g q=>match H[k]? with
  |some (.row g' _)=>if g'=g then some (.ptr k g (q+o),none) else none
  |_=>none
 |.ept k g i q=>match H[k]? with
  |some (.arr g' _ _ _)=>if g'=g then some (.ept k g i (q+o),none) else none
  |_=>none
 |_=>none
def Qlb(H:List Blk)(x:AV):Option (Nat×Nat)->Option (AV×Option Blk)
 |some (o,n)=>bif A4 0 n then evField H o x else none
 |none=>none
def evBin(op:BinOp):AV->AV->Option (AV×Option Blk)
 |.d (.v (.int k a)),.d (.v (.int k' b))=>bif decide (k=k') then(cmpI op a b).map fun r=>(.d (.v (.bool r)),none) else none
 |_,_=>none
def evLen(H:List Blk)(F:TyF):AV->Option (AV×Option Blk)
 |.d (.sl _ _ rows)=>bif F.elem.isSome then some (.d (.v (.int .i64 (rows.length:Nat))),none) else none
 |.osl k g _ len=>match H[k]? with
  |some (.arr g' _ _ _)=>bif F.elem.isSome then(if g'=g then some (.d (.v (.int .i64 (len:Nat))),none) else none) else none
  |_=>none
 |.d (.v (.slice none 0 0))=>bif F.elem.isSome then some (.d (.v (.int .i64 0)),none) else none
 |.d (.v (.string s))=>bif F.str then some (.d (.v (.int .i64 (s.size:Nat))),none) else none
 |_=>none
def Qjv(i:Nat):AV->Option (AV×Option Blk)
 |.d (.tup l)=>l[i]?.map fun x=>(.d x,none)
 |.tup l=>l[i]?.map fun x=>(x,none)
 |_=>none
def evCall(P:Program)(env:List (Nat×AV))(H:List Blk):Callee->List Operand->List AB->Option (AV×Option Blk)
 |.builtin .len,[u],[T]=>(tyf P T).bind fun F=>evLen H F (aval env u)
 |_,_,_=>none
def evOp(P:Program)(env:List (Nat×AV))(H:List Blk):Op->Option (AV×Option Blk)
 |.move u=>some (aval env u,none)
 |.assign u=>some (aval env u,none)
 |.pick c x y=>evPick (aval env x) (aval env y) (aval env c)
 |.unOp .not _ u=>evNot (aval env u)
 |.load T u=>(tyf P T).bind fun F=>evLoad H F (aval env u)
 |.fieldAddr T u f=>(tyf P T).bind fun F=>Qlb H (aval env u) F.fields[f]?
 |.binOp op _ x y _=>evBin op (aval env x) (aval env y)
 |.box _ u=>(aval env u).cells.map fun l=>(.ptr H.length 0 0,some (.row 0 l))
 |.alloc T=>(tyf P T).map fun F=>(.ptr H.length 0 0,some (.row 0 (F.zero.map fun v=> .d (.v v))))
 |.build T parts=>(tyf P T).bind fun F=>F.places.bind fun pl=>(fillA (fun i=>pl[i]?) env (F.zero.map fun v=> .d (.v v)) parts.toList).map fun res=>(AV.mk res,none)
 |.extract u i=>Qjv i (aval env u)
 |.call c=>evCall P env H c.callee c.args.toList c.argTypes.toList
 |_=>none
theorem Qju{dst:Option Tmp}{op:Op}{ty:AB}{pos:String}{after:Array Edge}{gd:Option (Nat×Bool)}{env:List (Nat×AV)}{H:List Blk}{x:AV}{nb:Option Blk}
 (h:evOp P env H op=some (x,nb)):Loc P ⟨dst,op,ty,pos,after,gd⟩ env H x nb:=by
 unfold evOp at h;split at h
 ·simp only[A2,A0] at h;obtain⟨rfl,rfl⟩:=h;exact Qo1
 ·simp only[A2,A0] at h;obtain⟨rfl,rfl⟩:=h;exact QpN
 ·unfold evPick at h
  split at h
  ·simp only[A2,A0] at h;obtain⟨rfl,rfl⟩:=h
   exact QtQ (by assumption) rfl rfl
  ·cases h
 ·unfold evNot at h
  split at h
  ·simp only[A2,A0] at h;obtain⟨rfl,rfl⟩:=h
   exact loc_not (by assumption)
  ·cases h
 ·rename_i T u
  obtain⟨F,hF,h⟩:=A3.1 h;unfold evLoad at h;split at h
  ·obtain⟨y,hy,h⟩:=A1.1 h
   simp only[A0] at h;obtain⟨rfl,rfl⟩:=h;exact Qnq hF (by assumption) hy
  ·split at h
   ·rename_i hk
    split at h;rotate_left
    ·cases h
    rename_i hg;subst hg;obtain⟨y,hy,h⟩:=A1.1 h;simp only[A0] at h;obtain⟨rfl,rfl⟩:=h;exact Qde hF (by assumption) hk hy
   ·cases h
  ·split at h
   ·rename_i hk
    split at h;rotate_left
    ·cases h
    rename_i hg;subst hg;obtain⟨y,hy,h⟩:=A1.1 h;simp only[A0] at h;obtain⟨rfl,rfl⟩:=h;obtain⟨r,hr,hy⟩:=A3.1 hy;exact Qdf hF (by assumption) hk hr hy
   ·cases h
  ·cases h
 ·rename_i T u f
  obtain⟨F,hF,h⟩:=A3.1 h;unfold Qlb at h;split at h
  ·rename_i o n hf
   cases hn:A4 0 n with
   |false=>grind
   |true=>
    rw[hn] at h;simp only[cond_true] at h;unfold evField at h;split at h
    ·simp only[A2,A0] at h;obtain⟨rfl,rfl⟩:=h
     exact Qme hF (by assumption) hf hn
    ·split at h
     ·rename_i hk
      split at h;rotate_left
      ·cases h
      rename_i hg;subst hg;simp only[A2,A0] at h;obtain⟨rfl,rfl⟩:=h;exact QfK hF (by assumption) hk hf hn
     ·cases h
    ·split at h
     ·rename_i hk
      split at h;rotate_left
      ·cases h
      rename_i hg;subst hg;simp only[A2,A0] at h;obtain⟨rfl,rfl⟩:=h;exact QkO hF (by assumption) hk hf hn
     ·cases h
    ·cases h
  ·cases h
 ·unfold evBin at h
  split at h
  ·rename_i k a k' b hx hy
   cases hk:decide (k=k') with
   |false=>grind
   |true=>
    rw[hk] at h;obtain⟨r,hr,h⟩:=A1.1 h;simp only[A0] at h;obtain⟨rfl,rfl⟩:=h;have:=of_decide_eq_true hk;subst this;exact loc_cmp hx hy hr
  ·cases h
 ·obtain⟨l,hl,h⟩:=A1.1 h
  simp only[A0] at h;obtain⟨rfl,rfl⟩:=h;exact loc_box hl
 ·obtain⟨F,hF,h⟩:=A1.1 h
  simp only[A0] at h;obtain⟨rfl,rfl⟩:=h;exact QrQ hF
 ·obtain⟨F,hF,h⟩:=A3.1 h
  obtain⟨pl,hpl,h⟩:=A3.1 h;obtain⟨res,hr,h⟩:=A1.1 h;simp only[A0] at h;obtain⟨rfl,rfl⟩:=h;exact QrO hF hpl hr
 ·unfold Qjv at h
  split at h
  ·obtain⟨y,hy,h⟩:=A1.1 h
   simp only[A0] at h;obtain⟨rfl,rfl⟩:=h;exact QkP (by assumption) hy
  ·obtain⟨y,hy,h⟩:=A1.1 h
   simp only[A0] at h;obtain⟨rfl,rfl⟩:=h;exact Qnv (by assumption) hy
  ·cases h
 ·rename_i c
  obtain⟨callee,args,tys⟩:=c;simp only at h;unfold evCall at h;split at h;rotate_left
  ·cases h
  rename_i u T ha hT;obtain rfl:args= #[u]:=A8.1 ha;obtain rfl:tys= #[T]:=A8.1 hT;obtain⟨F,hF,h⟩:=A3.1 h;unfold evLen at h;split at h
  ·rename_i hu
   cases he:F.elem with
   |none=>grind
   |some e=>
    rw[he] at h;simp only[A5,cond_true,A2,A0] at h;obtain⟨rfl,rfl⟩:=h;exact QpM hF he hu
  ·rename_i hu
   split at h
   ·rename_i hk
    cases he:F.elem with
    |none=>grind
    |some e=>
     rw[he] at h;simp only[A5,cond_true] at h;split at h;rotate_left
     ·cases h
     rename_i hg;subst hg;simp only[A2,A0] at h;obtain⟨rfl,rfl⟩:=h;exact Qnt hF he hu hk
   ·cases h
  ·rename_i hu
   cases he:F.elem with
   |none=>grind
   |some e=>
    rw[he] at h;simp only[A5,cond_true,A2,A0] at h;obtain⟨rfl,rfl⟩:=h
    exact QR fun σ S H' a w _ hop _=>by
     have h:=AV.conc_rel (hop u (by simp[Op.operands,Call.operands])) (y:= .slice none 0 0) (by rw[hu];rfl);exact⟨_,by simp[execOp,resolve,invoke,builtin,Builtin.len_,h,goInt,run_underlying (QdD hF he)];try rfl,.d _ _ (.v _)⟩
  ·rename_i hu
   cases he:F.str with
   |false=>grind
   |true=>
    rw[he] at h;simp only[cond_true,A2,A0] at h;obtain⟨rfl,rfl⟩:=h;exact Qnr hF he hu
  ·cases h
 ·cases h
theorem natBeq(n m:Nat):AC n m=decide (n=m):=by
 cases h:AC n m
 ·exact(decide_eq_false fun e=>by simp_all).symm
 simp_all
theorem natBle(n m:Nat):Nat.ble n m=decide (n<=m):=by
 cases h:Nat.ble n m
 ·exact(decide_eq_false fun e=>by simp[Nat.ble_eq_true_of_le e] at h).symm
 simp_all
theorem natBlt(n m:Nat):A4 n m=decide (n<m):=natBle _ _
attribute [go_sem] evOp evPick evNot evLoad evField Qlb evBin evLen Qjv evCall aval look D.ofV tyf_of Option.bind_some Option.map_some ldD ldA AV.mk allD cond_true cond_false List.take_succ_cons List.take_zero List.drop_succ_cons List.drop_zero List.head?_cons List.map_cons List.map_nil List.length_cons List.length_nil List.getElem?_cons_zero List.getElem?_cons_succ Nat.zero_add cmpI AV.cells D.cells Value.oneCell' fillA setAt natBeq natBle natBlt decide_true decide_false Bool.not_true Bool.not_false Option.isSome_some List.set_cons_zero List.set_cons_succ Bool.and_self Bool.and_true Bool.true_and List.length_map resD rvA List.size_toArray Qgx
section
variable{ops:Array AA}{Q:A6->St->Prop}{K:St->Prop}{l:List AA}{n:Nat}{env:List (Nat×AV)}{H H':List Blk}{d:Tmp}{op:Op}{ty:AB}{pos:String}{after:Array Edge}{gd:Option (Nat×Bool)}{x:AV}{C:Blk}
def e1(hw:awanted ops env ⟨some d,op,ty,pos,after,gd⟩=some true:=by rfl)(h: ∀R:Option (AV×Option Blk)->Prop,R (some (x,none))->R (evOp P env H op):=by intro R hR;simp only[go_sem,Nat.reduceEqDiff,Nat.reduceAdd,Nat.reduceLT,Nat.reduceLeDiff,↓reduceIte,reduceCtorEq];exact hR)
 (hd:A4 d n=true:=by rfl) (hg:gdOk ops n ⟨some d,op,ty,pos,after,gd⟩=true:=by rfl)
 (k:ASeq P ops Q l ⟨n,(d,x)::env,H⟩):ASeq P ops Q (⟨some d,op,ty,pos,after,gd⟩::l) ⟨n,env,H⟩:=s1 (Qju (h (fun r=>r=some (x,none)) rfl)) hd hg hw k
theorem e2(hw:awanted ops env ⟨some d,op,ty,pos,after,gd⟩=some true:=by rfl)(h: ∀R:Option (AV×Option Blk)->Prop,R (some (x,some C))->R (evOp P env H op):=by intro R hR;simp only[go_sem,Nat.reduceEqDiff,Nat.reduceAdd,Nat.reduceLT,Nat.reduceLeDiff,↓reduceIte,reduceCtorEq];exact hR)
 (hd:A4 d n=true:=by rfl) (hg:gdOk ops n ⟨some d,op,ty,pos,after,gd⟩=true:=by rfl)
 (hH: ∀R:List Blk->Prop,R H'->R (H++[C]):=by intro R hR;simp only[List.cons_append,List.nil_append];exact hR)
 (k:ASeq P ops Q l ⟨n,(d,x)::env,H'⟩):ASeq P ops Q (⟨some d,op,ty,pos,after,gd⟩::l) ⟨n,env,H⟩:=s2 (Qju (h (fun r=>r=some (x,some C)) rfl)) hd hg hw (by have:=hH (fun r=>r=H') rfl;grind)
def e0(hw:awanted ops env ⟨some d,op,ty,pos,after,gd⟩=some false:=by rfl)(hd:A4 d n=true:=by rfl)(hg:gdOk ops n ⟨some d,op,ty,pos,after,gd⟩=true:=by rfl)
 (k:ASeq P ops Q l ⟨n,(d,.d (.v undef))::env,H⟩):ASeq P ops Q (⟨some d,op,ty,pos,after,gd⟩::l) ⟨n,env,H⟩:=s0 hw hd hg k
def f1(hw:awanted ops env ⟨some d,op,ty,pos,after,gd⟩=some true:=by rfl)(h: ∀R:Option (AV×Option Blk)->Prop,R (some (x,none))->R (evOp P env H op):=by intro R hR;simp only[go_sem,Nat.reduceEqDiff,Nat.reduceAdd,Nat.reduceLT,Nat.reduceLeDiff,↓reduceIte,reduceCtorEq];exact hR)
 (hd:A4 d n=true:=by rfl)
 (k:ADraw P ops K l ⟨n,(d,x)::env,H⟩):ADraw P ops K (⟨some d,op,ty,pos,after,gd⟩::l) ⟨n,env,H⟩:=d1 (Qju (h (fun r=>r=some (x,none)) rfl)) hd hw k
theorem f2(hw:awanted ops env ⟨some d,op,ty,pos,after,gd⟩=some true:=by rfl)(h: ∀R:Option (AV×Option Blk)->Prop,R (some (x,some C))->R (evOp P env H op):=by intro R hR;simp only[go_sem,Nat.reduceEqDiff,Nat.reduceAdd,Nat.reduceLT,Nat.reduceLeDiff,↓reduceIte,reduceCtorEq];exact hR)
 (hd:A4 d n=true:=by rfl)
 (hH: ∀R:List Blk->Prop,R H'->R (H++[C]):=by intro R hR;simp only[List.cons_append,List.nil_append];exact hR)
 (k:ADraw P ops K l ⟨n,(d,x)::env,H'⟩):ADraw P ops K (⟨some d,op,ty,pos,after,gd⟩::l) ⟨n,env,H⟩:=d2 (Qju (h (fun r=>r=some (x,some C)) rfl)) hd hw (by have:=hH (fun r=>r=H') rfl;grind)
def f0(hw:awanted ops env ⟨some d,op,ty,pos,after,gd⟩=some false:=by rfl)(hd:A4 d n=true:=by rfl)
 (k:ADraw P ops K l ⟨n,(d,.d (.v undef))::env,H⟩):ADraw P ops K (⟨some d,op,ty,pos,after,gd⟩::l) ⟨n,env,H⟩:=d0 hw hd k
def stepS(hl:Loc P ⟨some d,op,ty,pos,after,gd⟩ env H x none)(hw:awanted ops env ⟨some d,op,ty,pos,after,gd⟩=some true:=by rfl)(hd:A4 d n=true:=by rfl)(hg:gdOk ops n ⟨some d,op,ty,pos,after,gd⟩=true:=by rfl)
 (k:ASeq P ops Q l ⟨n,(d,x)::env,H⟩):ASeq P ops Q (⟨some d,op,ty,pos,after,gd⟩::l) ⟨n,env,H⟩:=s1 hl hd hg hw k
def stepD(hl:Loc P ⟨some d,op,ty,pos,after,gd⟩ env H x none)(hd:A4 d n=true:=by rfl)(hw:awanted ops env ⟨some d,op,ty,pos,after,gd⟩=some true:=by rfl)
 (k:ADraw P ops K l ⟨n,(d,x)::env,H⟩):ADraw P ops K (⟨some d,op,ty,pos,after,gd⟩::l) ⟨n,env,H⟩:=d1 hl hd hw k
end
def QfT{ops:Array AA}{Q:A6->St->Prop}{s:St}(h:AWP P y Q s):ASeq P ops (thenA (AWP P y Q) Q) [] s:=Qh8 h
def QmL{ops:Array AA}{Q:A6->St->Prop}{s:St}(h:AWP P y Q s):ADraw P ops (thenA (AWP P y Q) Q .normal) [] s:=h
def QjC{x:Code}{Q:A6->St->Prop}{s:St}(h:AWP P x (thenA (AWP P y Q) Q) s):AWP P (.seq x y) Q s:=awp_seq fun K hK=>fun B hB σ S a w hA=>by
 refine wp_mono (h B hB σ S a w hA) ?_;rintro e a w ⟨s',σ',S',hq,hA'⟩;cases e with
 |normal=>exact⟨s',σ',S',hK _ hq,hA'⟩
 |_=>exact⟨s',σ',S',hq,hA'⟩
theorem Qa(k:Nat){C:Blk}{c:Code}{Q:A6->St->Prop}{n:Nat}{env:List (Nat×AV)}{H H':List Blk}(hC:H[k]? =some C:=by rfl)
 (he: ∀R:List (Nat×AV)->Prop,R env'->R (frzE k C env):=by intro R hR;simp only[frzE,AV.frz,AV.frzL,Blk.gen,Blk.iceP,Blk.iceS,Blk.iceM,AV.data,beq_self_eq_true,Nat.reduceBEq,Bool.and_self,Bool.and_true,Bool.true_and,Bool.false_and,Bool.and_false,cond_true,cond_false,List.drop_zero,List.drop_succ_cons,List.map_cons,List.map_nil];exact hR)
 (hh: ∀R:List Blk->Prop,R H'->R ((H.set k C.dead).map (Blk.frz k C)):=by intro R hR;simp only[Blk.dead,Blk.frz,AV.frz,AV.frzL,Blk.gen,Blk.iceP,Blk.iceS,Blk.iceM,AV.data,List.set_cons_zero,List.set_cons_succ,List.map_cons,List.map_nil,Nat.zero_add,beq_self_eq_true,Nat.reduceBEq,Bool.and_self,Bool.and_true,Bool.true_and,Bool.false_and,Bool.and_false,cond_true,cond_false,List.drop_zero,List.drop_succ_cons];exact hR)
 (h:AWP P c Q ⟨n,env',H'⟩):AWP P c Q ⟨n,env,H⟩:=by
 have h1:=he (fun r=>r=env') rfl;have h2:=hh (fun r=>r=H') rfl;subst h1;subst h2;exact QgD (QgL k hC) h
def Qb{Q:A6->St->Prop}{n:Nat}{env:List (Nat×AV)}{H:List Blk}{rs:List ResultVar}{x y:D}(hq:Q .ret ⟨n,env,H⟩=(resD env rs=some x):=by rfl)
 (h: ∀R:Option D->Prop,R (some y)->R (resD env rs):=by intro R hR;simp only[go_sem,Nat.reduceEqDiff,Nat.reduceAdd,Nat.reduceLT,Nat.reduceLeDiff,↓reduceIte,reduceCtorEq];exact hR) (hx:y=x):AWP P .ret Q ⟨n,env,H⟩:=
 QfS (by rw[hq];exact hx▸h (fun r=>r=some y) rfl)
def QnU{K:St->Prop}{Q:A6->St->Prop}{s:St}(h:K s):thenA K Q .normal s:=h
def QjF{ops:Array AA}{K:St->Prop}{Q:A6->St->Prop}{s:St}(h:K s):ASeq P ops (thenA K Q) [] s:=Qh8 h
def Qk0{ops:Array AA}{K:St->Prop}{s:St}(h:K s):ADraw P ops K [] s:=h
def Back(I:Nat->St->Prop)(_ts:List Nat)(_m n:Nat)(s:St):Prop:= ∃s1 n1,Weak s s1/\n1<n/\I n1 s1
def Qs(I:Nat->St->Prop)(ts:List Nat)(m:Nat)(n0:Nat){c:Code}{Q:A6->St->Prop}{n:Nat}{env:List (Nat×AV)}{H:List Blk}
 (h0:I n0 ⟨n,keepE env ts,H.take m⟩) (h1:envLt m (keepE env ts)=true:=by rfl) (h2:(H.take m).all (Blk.lt m)=true:=by rfl)
 (round: ∀n s,I n s->AWP P c (thenA (Back I ts m n) Q) s):AWP P (.loop c) Q ⟨n,env,H⟩:=by
 refine Qu9 I n0 (Qhd ts m rfl rfl h1 h2) h0 fun n s hI=>?_
 intro B hB σ S a w hA;refine wp_mono (round n s hI B hB σ S a w hA) ?_;rintro e a w ⟨s',σ',S',hq,hA'⟩;cases e with
 |normal=>
  exact⟨s',σ',S',hq,hA'⟩
 |_=>exact⟨s',σ',S',hq,hA'⟩
def Qn{n:Nat}{s:St}(n1:Nat)(h1:n1<n)(h2:I n1 ⟨s.n,keepE s.env ts,s.H.take m⟩)(h3:envLt m (keepE s.env ts)=true:=by rfl)(h4:(s.H.take m).all (Blk.lt m)=true:=by rfl):
 Back I ts m n s:=⟨_,n1,Qhd ts m rfl rfl h3 h4,h1,h2⟩
theorem QjD(k:Nat){C:Blk}{n N:Nat}{env:List (Nat×AV)}{H H':List Blk}(hC:H[k]? =some C:=by rfl)
 (he: ∀R:List (Nat×AV)->Prop,R env'->R (frzE k C env):=by intro R hR;simp only[frzE,AV.frz,AV.frzL,Blk.gen,Blk.iceP,Blk.iceS,Blk.iceM,AV.data,beq_self_eq_true,Nat.reduceBEq,Bool.and_self,Bool.and_true,Bool.true_and,Bool.false_and,Bool.and_false,cond_true,cond_false,List.drop_zero,List.drop_succ_cons,List.map_cons,List.map_nil];exact hR)
 (hh: ∀R:List Blk->Prop,R H'->R ((H.set k C.dead).map (Blk.frz k C)):=by intro R hR;simp only[Blk.dead,Blk.frz,AV.frz,AV.frzL,Blk.gen,Blk.iceP,Blk.iceS,Blk.iceM,AV.data,List.set_cons_zero,List.set_cons_succ,List.map_cons,List.map_nil,Nat.zero_add,beq_self_eq_true,Nat.reduceBEq,Bool.and_self,Bool.and_true,Bool.true_and,Bool.false_and,Bool.and_false,cond_true,cond_false,List.drop_zero,List.drop_succ_cons];exact hR)
 (h:Back I ts m n ⟨N,env',H'⟩):Back I ts m n ⟨N,env,H⟩:=by
 have h1:=he (fun r=>r=env') rfl;have h2:=hh (fun r=>r=H') rfl;subst h1;subst h2;obtain⟨s1,n1,h3,h4,h5⟩:=h;exact⟨s1,n1,(QgL k hC).trans h3,h4,h5⟩
def aw_cond{Q:A6->St->Prop}{n:Nat}{env:List (Nat×AV)}{H:List Blk}
 (hc: ∀R:AV->Prop,R (.d (.v (.bool b)))->R (aval env c):=by intro R hR;simp only[go_sem,Nat.reduceEqDiff,Nat.reduceAdd,Nat.reduceLT,Nat.reduceLeDiff,↓reduceIte,reduceCtorEq];exact hR)
 (ht:b=true->AWP P X Q ⟨n,env,H⟩) (hf:b=false->AWP P Y Q ⟨n,env,H⟩):AWP P (.cond c X Y) Q ⟨n,env,H⟩:=
 Qlt (hc (fun r=>r= .d (.v (.bool b))) rfl) ht hf
def Qlx{Q:A6->St->Prop}{n:Nat}{env:List (Nat×AV)}{H:List Blk}
 (hc:aval env c= .d (.v (.bool true)):=by rfl) (ht:AWP P X Q ⟨n,env,H⟩):AWP P (.cond c X Y) Q ⟨n,env,H⟩:=Qlt hc (fun _=>ht) (fun e=>by cases e)
def Qly{Q:A6->St->Prop}{n:Nat}{env:List (Nat×AV)}{H:List Blk}
 (hc:aval env c= .d (.v (.bool false)):=by rfl) (hf:AWP P Y Q ⟨n,env,H⟩):AWP P (.cond c X Y) Q ⟨n,env,H⟩:=Qlt hc (fun e=>by cases e) (fun _=>hf)
def QqB{K:St->Prop}{Q:A6->St->Prop}{id:Nat}{s:St}(h:Q (.exit id) s):thenA K Q (.exit id) s:=h
def QmO{Q:A6->St->Prop}{id:Nat}{s:St}(h:Q .normal s):blockA id Q (.exit id) s:=by simpa[blockA] using h
theorem Qk4{Q:A6->St->Prop}{id id':Nat}{s:St}(hn:AC id' id=false:=by rfl)(h:Q (.exit id') s):blockA id Q (.exit id') s:=by
 have:id'≠id:=fun e=>by simp_all
 simpa[blockA,this] using h
def Qnk{Q:A6->St->Prop}{id:Nat}{s:St}(h:Q .normal s):blockA id Q .normal s:=h
theorem splitD{ops:Array AA}{K:St->Prop}{l:List AA}{n:Nat}{env:List (Nat×AV)}{H:List Blk}{d:Tmp}
 (ht:b=true->ADraw P ops K l ⟨n,(d,.d (.v (.bool true)))::env,H⟩) (hf:b=false->ADraw P ops K l ⟨n,(d,.d (.v (.bool false)))::env,H⟩):ADraw P ops K l ⟨n,(d,.d (.v (.bool b)))::env,H⟩:=by
 cases b
 ·grind
 grind
theorem splitS{ops:Array AA}{Q:A6->St->Prop}{l:List AA}{n:Nat}{env:List (Nat×AV)}{H:List Blk}{d:Tmp}
 (ht:b=true->ASeq P ops Q l ⟨n,(d,.d (.v (.bool true)))::env,H⟩) (hf:b=false->ASeq P ops Q l ⟨n,(d,.d (.v (.bool false)))::env,H⟩):ASeq P ops Q l ⟨n,(d,.d (.v (.bool b)))::env,H⟩:=by
 cases b
 ·grind
 ·exact ht rfl
end Aw
end
section
open Go.RowKit
namespace Pm
open Pl (inR)
def l6In(n a b:Int)(w:World):Calls Tryz.prog 48 #[.int .i64 n,.int .i64 a,.int .i64 b] w fun e w'=>e= .returned (.bool (inR n a b))/\w=w':=by
 by_cases h1:a<=n
 ·by_cases h2:n<=b
  ·have hf:=hid (show inR n a b=true by simp[inR,h1,h2])
   go_enter A9,A7
   go_wp2
   go_ret
   exact⟨Qd2 hf.out.symm,rfl⟩
  ·have hf:=hid (show inR n a b=false by simp[inR,h2])
   have h3:b<n:=by omega
   clear h2
   go_enter A9,A7
   go_wp2
   go_ret
   exact⟨Qd2 (by rw[hf.out,decide_eq_false (by omega)]),rfl⟩
 ·have hf:=hid (show inR n a b=false by simp[inR,h1])
  have h3:n<a:=by omega
  clear h1
  go_enter A9,A7
  go_wp2
  go_ret
  exact⟨Qd2 hf.out.symm,rfl⟩

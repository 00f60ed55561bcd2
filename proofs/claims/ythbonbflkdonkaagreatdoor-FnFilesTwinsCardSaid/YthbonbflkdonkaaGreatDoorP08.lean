/- Of ftw_card; no condition. -/
import Derived.Test.YthbonbflkdonkaaGreatDoorP07
import Derived.MapKept
set_option linter.all false
open Array renaming getD_eq_getD_getElem?->AJ,getElem?_eq_getElem->AR,size_setIfInBounds->AW,mem_toList_iff->Ae,replicate->Af,getElem?_append_left->Ah
open Bool renaming or_eq_true_iff->A9,or_eq_false_iff->AO,and_eq_true->Ad,not_eq_true'->B0
open Go renaming Program->A2,Oper->A3,TypeId->AE,World->AT,Operand->AX,ResultVar->Ag,Value->Ar,Exit->Au,FuncId->Ay,MapEntry->BB,Edge->BE,Act->BH,Tmp->BM
open Go.Act renaming put->B1
open Go.Ending renaming returned->B4
open Go.Instr renaming findNow->AI,sameNow->Ax,lookup->B2,mapUpdate->B8
open Go.MapKept renaming run_getObj_map->AH,run_checkKey->AP,run_findKey->AS,run_setObj_map->Aq,IsKey->BD
open Go.Op renaming operands->A5
open Go.Oper renaming upon_enter->B5,wp->BG
open Go.Operand renaming tmp->AL
open Go.Region renaming binds->Ao,wanted->Av
open Go.Result renaming andThen->Aj
open Go.RowKit renaming Below->BI
open Go.Sem renaming run_bind->Aa
open List renaming getElem?_eq_some_iff->A1,mem_append_right->A7,mem_append_left->A8,all_eq_true->AB,getElem?_eq_getElem->AF,ext_getElem?->AK,mem_cons_of_mem->AM,getElem?_append_right->AN,length_drop->AQ,mem_cons->AU,mem_cons_self->AY,replicate->Ab,mk_mem_zipIdx_iff_getElem?->Ac,mem_filterMap->Ai,getElem?_append_left->Ak,getElem?_map->Al,getElem?_set_self->Ap,mem_of_getElem?->As,range->Az,length_cons->B3,mem_append->B6,mem_filter->B7,mem_range->BA,length->BJ,map->BL
open Nat renaming le_of_ble_eq_true->A4,le_refl->AA,blt->AC,lt_or_ge->AD,ble->AG,le_mul_of_pos_right->Am,beq->B9,sub_zero->BF
open Option renaming map_eq_some_iff->A6,bind_eq_some_iff->AZ,map_eq_none_iff->An
open Option.some renaming inj->A0,injEq->BK
open Prod.mk renaming injEq->BC
namespace Go.Proofs.YthbonbflkdonkaaGreatDoor
noncomputable section
section
open Go.RowKit
namespace Aw
variable{w:AT}{σ:Sg}{rs:List Ag}{c:Code}{env':List (Nat×AV)}{o:A3}{H0 H1:List Blk}{args:List AV}{tys:Array AE}{xs:Array AX}{u:AX}{k k₀:Nat}{E:TyF}{T:AE}{a₀:Option Addr}
variable{P:A2}
def rvC(P:A2)(env:List (Nat×AV)):Ag->Option D
 |.tmp t=>match look env t with
  |.d x=>some x
  |_=>none
 |.cell t T=>match look env t with
  |.d (.pd cells)=>(tyf P T).bind fun F=>ldD F cells
  |_=>none
def allO:List (Option D)->Option (List D)
 |[]=>some []
 |some x::l=>(allO l).map (x:: ·)
 |none::_=>none
def resC(P:A2)(env:List (Nat×AV)):List Ag->Option D
 |[r]=>rvC P env r
 |rs=>(allO (rs.map (rvC P env))).map .tup
def EndC(P:A2)(rs:List Ag)(x:D):Au->St->Prop
 |.normal,s| .ret,s=>resC P s.env rs=some x
 |_,_=>False
attribute [go_sem] rvC allO resC
def QkZ: ∀{l:List (Option D)} {ds:List D},allO l=some ds->l=ds.map some
 |[],ds,h=>by obtain rfl:=A0 h;rfl
 |some x::l,ds,h=>by
  obtain⟨ds',h1,rfl⟩:=A6.1 h;rw[QkZ h1];rfl
 |none::_,_,h=>by cases h
theorem rvC_run{S:Nat->Prop}{H:List Blk}{n:Nat}{env:List (Nat×AV)}{B:Bs}{a:BH}(hA:SmA B σ S ⟨n,env,H⟩ a w){r:Ag}{x:D}(hx:rvC P env r=some x):
 ∃v,(rvS a.tmps r).run P w= .ok v w/\RelD S w x v:=by
 cases r with
 |tmp t=>
  simp only[rvC] at hx;split at hx
  ·rename_i y hy
   obtain rfl:=A0 hx;refine⟨a.tmps.getD t undef,Sem.run_pure' ..,?_⟩;have:=hA.env t;rw[hy] at this;cases this;omega
  grind
 |cell t T=>
  simp only[rvC] at hx;split at hx
  ·rename_i cells hy
   obtain⟨F,hF,hx⟩:=AZ.1 hx;have:=hA.env t;rw[hy] at this;cases this with
   |d _ _ h=>
    generalize hv:a.tmps.getD t undef=pv at h;cases h with
    |pd _ b o g hS hc hr=>
     obtain⟨v,h1,h2⟩:=QmS hF (b:=b) (o:=o) (w:=w) (S:=S) hx fun j d hd=>⟨g j,hc j d hd,hr j d hd⟩
     refine⟨v,?_,h2⟩;show(do loadVar T (<-asAddr (a.tmps.getD t undef)):Sem Ar).run P w=_;rw[hv];exact h1
  grind
theorem QgO{σ:Sg}{S:Nat->Prop}{H:List Blk}{n:Nat}{env:List (Nat×AV)}{B:Bs}{a:BH}{w:AT}(hA:SmA B σ S ⟨n,env,H⟩ a w): ∀(rs:List Ag) (ds:List D),allO (rs.map (rvC P env))=some ds->
 ∃vs,(rs.mapM (rvS a.tmps)).run P w= .ok vs w/\vs.length=ds.length/\ ∀(i:Nat) d v,ds[i]? =some d->vs[i]? =some v->RelD S w d v
 |[],ds,h=>by obtain rfl:=A0 h;simp
 |r::rs,ds,h=>by
  rw[List.map_cons] at h;cases hr:rvC P env r with
  |none=>rw[hr] at h;cases h
  |some x=>
   rw[hr] at h;obtain⟨ds',h1,rfl⟩:=A6.1 h;obtain⟨v,h2,h3⟩:=rvC_run hA hr;obtain⟨vs,h4,h5,h6⟩:=QgO hA rs ds' h1;refine⟨v::vs,?_,by simp[h5],fun i d u hd hu=>?_⟩
   ·simp_all
   grind
theorem QhH{f:Ay}{fn:Func}{args:List D}{x:D}{n:Nat}(hf:P.funcs[f]? =some fn)(hb:fn.body=some c)(hn:fn.ntmps=n)(hrs:fn.results=rs.toArray)(hle:AG args.length n=true)
 (h:AWP P c (EndC P rs x) ⟨n,parE 0 args,[]⟩):Pure P f args x:=by
 have hlen:args.length<=n:=A4 hle;intro B σ S H w cargs hB hS hl hr;refine calls_of_wp hf hb ?_
 have hA:SmA ⟨w,B.G,fun _=>False,S⟩ (fun _=>none) S ⟨n,parE 0 args,[]⟩ {tmps:=cargs.toArray++Af (fn.ntmps -cargs.toArray.size) undef,defers:=[]} w:=by
  refine⟨⟨rfl,rfl,rfl,AA _,fun _ _ _=>rfl,fun _ h=>h,fun b hb=>⟨(hS.sUp b hb).1,.inl hb⟩,fun k b hk=>by simp at hk,fun k k' b hk=>by simp at hk,fun k C hC=>by simp at hC⟩,rfl,?_,fun t=>?_⟩
  ·grind
  ·rcases QlC args 0 t with⟨d,_,h2,h3⟩|h
   ·simp only
    rw[h3];have ht:t<cargs.length:=by grind
    have:(cargs.toArray++Af (fn.ntmps -cargs.toArray.size) undef).getD t undef=cargs[t]:=by
     rw[AJ,Ah (by omega)];simp[ht]
    rw[this];exact .d _ _ (hr t d _ (by omega) (AF ht))
   ·simp only
    rw[h];exact .d _ _ (.any _)
 have hB':Gd ⟨w,B.G,fun _=>False,S⟩:=hB.again hS S;refine wp_mono (h _ hB' _ _ _ _ hA) ?_;rintro e a w' ⟨s',σ',S',hq,hA'⟩
 have fin:resC P s'.env rs=some x->a.defers=[]/\ ∃v,(results fn a.tmps).run P w'= .ok v w'/\ ∃v',B4 v= .returned v'/\BI w.heap.size w w'/\RelD (fun b=>S b∨w.heap.size<=b/\b<w'.heap.size) w' x v':=by
  intro hx;have hbel:BI w.heap.size w w':=⟨hA'.sm.os,hA'.sm.tape,hA'.sm.output,hA'.sm.size,fun k hk=>hA'.sm.keep k hk fun h=>h⟩
  have hup: ∀d v,RelD S' w' d v->RelD (fun b=>S b∨w.heap.size<=b/\b<w'.heap.size) w' d v:=fun d v h=>h.mono (fun b hb=>by
   obtain⟨h1,h2⟩:=hA'.sm.sUp b hb
   grind) fun _ _=>rfl
  refine⟨hA'.defers,?_⟩;obtain⟨n',env',H'⟩:=s'
  have gen: ∀vs,(rs.mapM (rvS a.tmps)).run P w'= .ok vs w'->(fn.results.mapM (rvS a.tmps)).run P w'= .ok vs.toArray w':=fun vs h=>by
   simp_all
  rw[Qfd]
  by_cases h1:rs.length=1
  ·match rs,h1 with
   |[r],_=>
    obtain⟨vs,g1,g2,g3⟩:=QgO (P:=P) hA' [r] [x] (by
     have hx:rvC P env' r=some x:=hx
     simp[allO,hx])
    match vs,g2 with
    |[v],_=>
     refine⟨v,?_,_,rfl,hbel,hup _ _ (g3 0 x v rfl rfl)⟩;rw[Aa,gen _ g1];rfl
  ·have hx':(allO (rs.map (rvC P env'))).map D.tup=some x:=by
    unfold resC at hx
    grind
   obtain⟨ds,hds,rfl⟩:=A6.1 hx';obtain⟨vs,g1,g2,g3⟩:=QgO (P:=P) hA' rs ds hds;have hvl:vs.length=rs.length:=by have:=congrArg BJ (QkZ hds);grind
   refine⟨.tuple vs.toArray,?_,_,rfl,hbel,.tup ds vs (by omega) fun i d v hd hv=>hup _ _ (g3 i d v hd hv)⟩
   simp_all
 cases e with
 |normal=>exact fin hq
 |ret=>exact fin hq
 |_=>exact hq.elim
def QK{Q:Au->St->Prop}{n:Nat}{env:List (Nat×AV)}{H:List Blk}{x y:D}(hq:Q .ret ⟨n,env,H⟩=(resC P env rs=some x):=by rfl)
 (h: ∀R:Option D->Prop,R (some y)->R (resC P env rs):=by intro R hR;simp only[go_sem,Nat.reduceEqDiff,Nat.reduceAdd,Nat.reduceLT,Nat.reduceLeDiff,↓reduceIte,reduceCtorEq];exact hR) (hx:y=x):AWP P .ret Q ⟨n,env,H⟩:=
 QgK (by rw[hq];exact hx▸h (fun r=>r=some y) rfl)
theorem Qmm{ops:Array A3}{Q:Au->St->Prop}{l:List A3}{s s':St}(h:Weak s s')(hc:ASeq P ops Q l s'):ASeq P ops Q l s:=fun B hB σ S a w hA=>let⟨σ',S',h1⟩:=h B σ S a w hA;hc B hB σ' S' a w h1
def Qlj{α β:Type}(f:α->β)(l:List α):List.take l.length (BL f l)=BL f l:=List.take_of_length_le (by simp)
theorem Qew(k:Nat){C:Blk}{ops:Array A3}{Q:Au->St->Prop}{l:List A3}{n:Nat}{env:List (Nat×AV)}{H H':List Blk}(hC:H[k]? =some C:=by rfl)
 (he: ∀R:List (Nat×AV)->Prop,R env'->R (frzE k C env):=by intro R hR;simp only[frzE,AV.frz,AV.frzL,Blk.gen,Blk.iceP,Blk.iceS,Blk.iceM,AV.data,beq_self_eq_true,Nat.reduceBEq,Bool.and_self,Bool.and_true,Bool.true_and,Bool.false_and,Bool.and_false,cond_true,cond_false,List.drop_zero,List.drop_succ_cons,List.map_cons,List.map_nil,Qlj];exact hR)
 (hh: ∀R:List Blk->Prop,R H'->R ((H.set k C.dead).map (Blk.frz k C)):=by intro R hR;simp only[Blk.dead,Blk.frz,AV.frz,AV.frzL,Blk.gen,Blk.iceP,Blk.iceS,Blk.iceM,AV.data,List.set_cons_zero,List.set_cons_succ,List.map_cons,List.map_nil,Nat.zero_add,beq_self_eq_true,Nat.reduceBEq,Bool.and_self,Bool.and_true,Bool.true_and,Bool.false_and,Bool.and_false,cond_true,cond_false,List.drop_zero,List.drop_succ_cons];exact hR)
 (h:ASeq P ops Q l ⟨n,env',H'⟩):ASeq P ops Q l ⟨n,env,H⟩:=by
 have h1:=he (fun r=>r=env') rfl;have h2:=hh (fun r=>r=H') rfl
 grind [Qmm,Qg0]
def AStep(P:A2)(ops:Array A3)(o:A3)(K:St->Prop)(s:St):Prop:=
 ∃R,EffE P o s.env s.H R/\awanted ops s.env o=some true/\dstOk s.n o.dst=true/\gdOk ops s.n o=true/\ ∀x H',R x H'->K ⟨s.n,putE s.env o.dst x,H'⟩
theorem astep{P:A2}{ops:Array A3}{K:St->Prop}{n:Nat}{env:List (Nat×AV)}{H H':List Blk}{x:AV}(h:Eff P o env H x H')(hw:awanted ops env o=some true)(hd:dstOk n o.dst=true)(hg:gdOk ops n o=true)
 (k:K ⟨n,putE env o.dst x,H'⟩):AStep P ops o K ⟨n,env,H⟩:=⟨_,h.e,hw,hd,hg,by grind⟩
section
variable{P:A2}{ops:List A3}{B:Bs}
end
variable{P:A2}
section
variable{ops:Array A3}{Q:Au->St->Prop}{K:St->Prop}{l:List A3}{n:Nat}{env:List (Nat×AV)}{H H':List Blk}{d:BM}{op:Op}{ty:AE}{pos:String}{after:Array BE}{gd:Option (Nat×Bool)}{x x':AV}
def QkV(ks:List Nat){f:Ay}(h:Does P f args H0 [] x H1)(hf: ∀args w,(callFunc f args).run P w= .ok (.enter f args) w)
 (hargs:xs.toList.map (aval env)=AV.renL (rho ks H.length) args:=by rfl) (hks:ks.map (fun k=>H[k]?)=(H0.map (Blk.ren (rho ks H.length))).map some:=by rfl) (hnd:ks.Nodup:=by decide)
 (hla:AV.ltL H0.length args=true:=by rfl) (hlH:H0.all (Blk.lt H0.length)=true:=by rfl)
 (hX: ∀R:AV->Prop,R x'->R (x.ren (rho ks H.length)):=by intro R hR;simp only[AV.ren,AV.renL,rho,List.getElem?_cons_zero,List.getElem?_cons_succ];exact hR)
 (hH: ∀R:List Blk->Prop,R H'->R (place (rho ks H.length) H ks H1++(H1.drop ks.length).map (Blk.ren (rho ks H.length))):=by intro R hR;simp only[place,Blk.ren,AV.ren,AV.renL,List.map_cons,List.map_nil,List.set_cons_zero,List.set_cons_succ,List.drop_succ_cons,List.drop_zero,List.drop_nil,List.append_nil,List.length_cons,List.length_nil,Nat.reduceAdd,Nat.zero_add];exact hR)
 (hw:awanted ops env ⟨some d,.call ⟨.value (.func f),xs,tys⟩,ty,pos,after,gd⟩=some true:=by rfl) (hd:AC d n=true:=by rfl) (hg:gdOk ops n ⟨some d,.call ⟨.value (.func f),xs,tys⟩,ty,pos,after,gd⟩=true:=by rfl)
 (k:ASeq P ops Q l ⟨n,(d,x')::env,H'⟩):ASeq P ops Q (⟨some d,.call ⟨.value (.func f),xs,tys⟩,ty,pos,after,gd⟩::l) ⟨n,env,H⟩:=by
 refine QhU (Qie ks h (Qem hf) hargs hks hnd hla rfl hlH (fun g hg=>by cases hg)) hw hd hg ?_;have h1:=hX (fun r=>r=x') rfl;have h2:=hH (fun r=>r=H') rfl;rw[h1,h2];exact k
def Qii(ks:List Nat){f:Ay}(h:Does P f args H0 [] x H1)(hf: ∀args w,(callFunc f args).run P w= .ok (.enter f args) w)
 (hargs:xs.toList.map (aval env)=AV.renL (rho ks H.length) args:=by rfl) (hks:ks.map (fun k=>H[k]?)=(H0.map (Blk.ren (rho ks H.length))).map some:=by rfl) (hnd:ks.Nodup:=by decide)
 (hla:AV.ltL H0.length args=true:=by rfl) (hlH:H0.all (Blk.lt H0.length)=true:=by rfl)
 (hX: ∀R:AV->Prop,R x'->R (x.ren (rho ks H.length)):=by intro R hR;simp only[AV.ren,AV.renL,rho,List.getElem?_cons_zero,List.getElem?_cons_succ];exact hR)
 (hH: ∀R:List Blk->Prop,R H'->R (place (rho ks H.length) H ks H1++(H1.drop ks.length).map (Blk.ren (rho ks H.length))):=by intro R hR;simp only[place,Blk.ren,AV.ren,AV.renL,List.map_cons,List.map_nil,List.set_cons_zero,List.set_cons_succ,List.drop_succ_cons,List.drop_zero,List.drop_nil,List.append_nil,List.length_cons,List.length_nil,Nat.reduceAdd,Nat.zero_add];exact hR)
 (hw:awanted ops env ⟨some d,.call ⟨.value (.func f),xs,tys⟩,ty,pos,after,gd⟩=some true:=by rfl) (hd:AC d n=true:=by rfl) (hg:gdOk ops n ⟨some d,.call ⟨.value (.func f),xs,tys⟩,ty,pos,after,gd⟩=true:=by rfl)
 (k:K ⟨n,(d,x')::env,H'⟩):AStep P ops ⟨some d,.call ⟨.value (.func f),xs,tys⟩,ty,pos,after,gd⟩ K ⟨n,env,H⟩:=by
 refine astep (Qie ks h (Qem hf) hargs hks hnd hla rfl hlH (fun g hg=>by cases hg)) hw hd hg ?_;have h1:=hX (fun r=>r=x') rfl;have h2:=hH (fun r=>r=H') rfl;rw[h1,h2];exact k
def Qev(ts:List Nat)(m:Nat){Q:Au->St->Prop}
 (he: ∀R:List (Nat×AV)->Prop,R env'->R (keepE env ts):=by intro R hR;simp only[keepE,go_sem,Nat.reduceEqDiff,Nat.reduceAdd,Nat.reduceLT,Nat.reduceLeDiff,↓reduceIte,reduceCtorEq];exact hR)
 (hH: ∀R:List Blk->Prop,R H'->R (H.take m):=by intro R hR;simp only[List.take_succ_cons,List.take_zero];exact hR)
 (h1:envLt m env'=true:=by rfl) (h2:H'.all (Blk.lt m)=true:=by rfl) (h:AWP P c Q ⟨n,env',H'⟩):AWP P c Q ⟨n,env,H⟩:=by
 have e1:=he (fun r=>r=env') rfl;have e2:=hH (fun r=>r=H') rfl;exact Qgr (QgM ts m e1 e2 h1 h2) h
def QdL{Q:Au->St->Prop}{gl:List AV}{gvs:List Ar}{y:AV}(hq:Q .ret ⟨n,env,H⟩=(resA env rs=some x/\H=H1/\look env gslot= .gh gl gvs):=by rfl)
 (h: ∀R:Option AV->Prop,R (some y)->R (resA env rs):=by intro R hR;simp only[resA,allR,go_sem,Nat.reduceEqDiff,Nat.reduceAdd,Nat.reduceLT,Nat.reduceLeDiff,↓reduceIte,reduceCtorEq];exact hR)
 (hg:look env gslot= .gh gl gvs:=by rfl) (hx:y=x) (hH:H=H1):AWP P .ret Q ⟨n,env,H⟩:=
 QgK (by rw[hq];exact⟨hx▸h (fun r=>r=some y) rfl,hH,hg⟩)
end
variable{P:A2}
section
variable{dst:Option BM}{ty:AE}{pos:String}{after:Array BE}{gd:Option (Nat×Bool)}{env:List (Nat×AV)}{H:List Blk}
def Qdm{cells:List D}(hu:aval env u= .d (.pd cells)):Loc P ⟨dst,.nilCheck u,ty,pos,after,gd⟩ env H (.d (.pd cells)) none:=
 QP fun σ S H' a w _ hop _=>by
  have a1:=hop u (by simp[A5]);rw[hu] at a1;generalize hv:a.eval u=v at a1;cases a1 with
  |d _ _ h=>
   cases h with
   |pd _ b o g hS hc hr=>exact⟨_,by simp[execOp,hv],.d _ _ (.pd _ b o g hS hc hr)⟩
theorem QgU{g o:Nat}{cells:List AV}(hu:aval env u= .ptr k g o)(hk:H[k]? =some (.row g cells)):Loc P ⟨dst,.nilCheck u,ty,pos,after,gd⟩ env H (.ptr k g o) none:=
 QP fun σ S H' a w _ hop hag=>by
  have a1:=hop u (by simp[A5]);rw[hu] at a1;generalize hv:a.eval u=v at a1;cases a1 with
  |ptr _ _ _ _ ho g' cells' hk' hg h=>
   have hgg:g'=g:=by
    rcases hag k _ hk with h1|h1
    ·grind
    grind
   obtain⟨b,hb,rfl⟩:=h hgg;exact⟨_,by simp[execOp,hv],.ptr _ _ _ _ ho g' cells' hk' hg h⟩
theorem QhK{fn:Fn}:Loc P ⟨dst,.makeFunc fn #[] xs,ty,pos,after,gd⟩ env H (.fn fn (xs.toList.map (aval env))) none:=
 QP fun σ S H' a w _ hop _=>by
  refine⟨.func fn #[] (xs.map a.eval),by simp[execOp,Instr.makeFunc],?_⟩;have:xs.map a.eval=(xs.toList.map a.eval).toArray:=by grind
  rw[this];refine .fn _ _ _ (by simp) fun i d x hd hx=>?_
  grind [A5]
theorem Qrd{e:AE}{F:TyF}{y z:AX}{rows:List (List D)}{κ κ':IntKind}{j:Int} [hT:Ty P T F](he:F.elem=some e) [hE:Ty P e E](hu:aval env u= .d (.sl true E.size rows))(hy:aval env y= .d (.v (.int κ j)))(hz:aval env z= .d (.v (.int κ' j)))
 (h0:0<=j) (h2:j<=rows.length):Loc P ⟨dst,.slice T u none (some y) (some z),ty,pos,after,gd⟩ env H (.d (.sl true E.size (rows.take j.toNat))) none:=
 QP fun σ S H' a w _ hop _=>by
  have a1:=hop u (by simp[A5]);have a2:=AV.conc_rel (hop y (by simp[A5])) (y:= .int κ j) (by rw[hy];rfl);have a3:=AV.conc_rel (hop z (by simp[A5])) (y:= .int κ' j) (by rw[hz];rfl);rw[hu] at a1;generalize hv:a.eval u=v at a1;have hT':=QdB hT.h he;have hel:=Qh5 hT';have hT'':P.underlying T=some (.slice (P.elem T)):=by grind
  obtain⟨ad,len,cap,rfl⟩: ∃ad len cap,v= .slice ad len cap:=by cases a1 with|d _ _ h=>cases h<;>grind
  have hr:RelD S w (.sl true E.size rows) (.slice ad len cap):=by cases a1;omega
  have hcap:j.toNat<=cap:=by
   obtain⟨b1,b2,b3⟩:=QhX hr (l:=0) (h:=j.toNat) (by omega) (by omega);exact b1
  have hres:RelD S w (.sl true E.size (rows.take j.toNat)) (sliced ad 0 j.toNat j.toNat E.size):=by
   unfold sliced;cases hr with
   |slnil=>
    have:j.toNat=0:=by grind
    rw[this];simp only[List.take_nil,BF];exact .slnil _ _ _ _
   |sl _ _ _ b o cap g hS hn hc2 hc hrr=>
    by_cases hm:j.toNat=0
    ·rw[hm];simp only[List.take_zero,BF];exact .slnil _ _ _ _
    ·rw[if_neg hm]
     have hlen:(rows.take j.toNat).length=j.toNat:=by grind
     have hget: ∀(i:Nat) r,(rows.take j.toNat)[i]? =some r->rows[i]? =some r:=fun i r hr=>by
      grind
     have:=RelD.sl (S:=S) (w:=w) true E.size (rows.take j.toNat) b o j.toNat g hS (fun r hr=>hn r (List.mem_of_mem_take hr)) (fun _=>by omega)
      (fun i j r d hi hj=>hc i j r d (hget i r hi) hj) (fun i j r d hi hj=>hrr i j r d (hget i r hi) hj)
     grind [Qea]
  refine⟨_,?_,.d _ _ hres⟩;simp only[execOp,Option.map_some,Option.map_none,hv,a2,a3,Aa,run_sliceAt_slice _ _ _ _ _ _ hT''];rw[run_slice_hm w T ad len cap hT'' _ _ _ _ h0 (Int.le_refl _) (by omega),hel,QdY hE.h];rfl
end
theorem Qn8(t:Nat)(b:Bool)(m:Nat){n:Nat}{env:List (Nat×AV)}{H:List Blk}(ht:look env t= .d (.v (.slice a₀ 0 k₀))):Weak ⟨n,env,H⟩ ⟨n,(t,.d (.sl b m []))::env,H⟩:=by
 intro B σ S a w hA;refine⟨σ,S,hA.sm,hA.defers,hA.size,fun u=>?_⟩
 by_cases hu:t=u
 ·subst hu
  show Rel _ _ _ _ (look ((t,_)::env) t) _;rw[Qdw];have:=AV.conc_rel (hA.env t) (y:= .slice a₀ 0 k₀) (by show(look env t).conc=_;rw[ht];rfl);rw[this];exact .d _ _ (.slnil _ _ _ _)
 ·show Rel _ _ _ _ (look ((t,_)::env) u) _
  rw[Qd2 hu];exact hA.env u
def QdT(t:Nat)(b:Bool)(m:Nat){Q:Au->St->Prop}{n:Nat}{env:List (Nat×AV)}{H:List Blk}(ht:look env t= .d (.v (.slice a₀ 0 k₀)):=by rfl)
 (h:AWP P c Q ⟨n,(t,.d (.sl b m []))::env,H⟩):AWP P c Q ⟨n,env,H⟩:=Qgr (Qn8 t b m ht) h
def PureF(P:A2)(f:Ay)(args:List AV)(x:D):Prop:=
 ∀(B:Bs) (S:Nat->Prop) (w:AT) (cargs:List Ar),Gd B->Sm B (fun _=>none) S [] w->args.length=cargs.length->(∀(i:Nat) d v,args[i]? =some d->cargs[i]? =some v->Rel (fun _=>none) S [] w d v)->
  Calls P f cargs.toArray w fun e w'=> ∃v,e= .returned v/\BI w.heap.size w w'/\RelD (fun b=>S b∨w.heap.size<=b/\b<w'.heap.size) w' x v
def Sm.empty{B:Bs}{S:Nat->Prop}{H:List Blk}(hS:Sm B σ S H w):Sm ⟨w,B.G,fun _=>False,S⟩ (fun _=>none) S [] w:=
 ⟨rfl,rfl,rfl,AA _,fun _ _ _=>rfl,fun _ h=>h,fun b hb=>⟨(hS.sUp b hb).1,.inl hb⟩,fun k b hk=>by simp at hk,fun k k' b hk=>by simp at hk,fun k C hC=>by simp at hC⟩
theorem Qlx{f:Ay}{fn:Func}{x:D}{n:Nat}(hf:P.funcs[f]? =some fn)(hb:fn.body=some c)(hn:fn.ntmps=n)(hrs:fn.results=rs.toArray)(hle:AG args.length n=true)
 (h:AWP P c (EndC P rs x) ⟨n,parA 0 args,[]⟩):PureF P f args x:=by
 have hlen:args.length<=n:=A4 hle;intro B S w cargs hB hS hl hr;refine calls_of_wp hf hb ?_
 have hA:SmA ⟨w,B.G,fun _=>False,S⟩ (fun _=>none) S ⟨n,parA 0 args,[]⟩ {tmps:=cargs.toArray++Af (fn.ntmps -cargs.toArray.size) undef,defers:=[]} w:=by
  refine⟨hS.empty,rfl,?_,fun t=>?_⟩
  ·grind
  ·rcases QgS args 0 t with⟨d,_,h2,h3⟩|h
   ·simp only
    rw[h3];have ht:t<cargs.length:=by grind
    have:(cargs.toArray++Af (fn.ntmps -cargs.toArray.size) undef).getD t undef=cargs[t]:=by
     rw[AJ,Ah (by omega)];simp[ht]
    rw[this];exact hr t d _ (by omega) (AF ht)
   ·simp only
    rw[h];exact .d _ _ (.any _)
 have hB':Gd ⟨w,B.G,fun _=>False,S⟩:=hB.again hS S;refine wp_mono (h _ hB' _ _ _ _ hA) ?_;rintro e a w' ⟨s',σ',S',hq,hA'⟩
 have fin:resC P s'.env rs=some x->a.defers=[]/\ ∃v,(results fn a.tmps).run P w'= .ok v w'/\ ∃v',B4 v= .returned v'/\BI w.heap.size w w'/\RelD (fun b=>S b∨w.heap.size<=b/\b<w'.heap.size) w' x v':=by
  intro hx;have hbel:BI w.heap.size w w':=⟨hA'.sm.os,hA'.sm.tape,hA'.sm.output,hA'.sm.size,fun k hk=>hA'.sm.keep k hk fun h=>h⟩
  have hup: ∀d v,RelD S' w' d v->RelD (fun b=>S b∨w.heap.size<=b/\b<w'.heap.size) w' d v:=fun d v h=>h.mono (fun b hb=>by
   obtain⟨h1,h2⟩:=hA'.sm.sUp b hb
   grind) fun _ _=>rfl
  refine⟨hA'.defers,?_⟩;obtain⟨n',env',H'⟩:=s'
  have gen: ∀vs,(rs.mapM (rvS a.tmps)).run P w'= .ok vs w'->(fn.results.mapM (rvS a.tmps)).run P w'= .ok vs.toArray w':=fun vs h=>by
   simp_all
  rw[Qfd]
  by_cases h1:rs.length=1
  ·match rs,h1 with
   |[r],_=>
    obtain⟨vs,g1,g2,g3⟩:=QgO (P:=P) hA' [r] [x] (by
     have hx:rvC P env' r=some x:=hx
     simp[allO,hx])
    match vs,g2 with
    |[v],_=>
     refine⟨v,?_,_,rfl,hbel,hup _ _ (g3 0 x v rfl rfl)⟩;rw[Aa,gen _ g1];rfl
  ·have hx':(allO (rs.map (rvC P env'))).map D.tup=some x:=by
    unfold resC at hx
    grind
   obtain⟨ds,hds,rfl⟩:=A6.1 hx';obtain⟨vs,g1,g2,g3⟩:=QgO (P:=P) hA' rs ds hds;have hvl:vs.length=rs.length:=by have:=congrArg BJ (QkZ hds);grind
   refine⟨.tuple vs.toArray,?_,_,rfl,hbel,.tup ds vs (by omega) fun i d v hd hv=>hup _ _ (g3 i d v hd hv)⟩
   simp_all
 cases e with
 |normal=>exact fin hq
 |ret=>exact fin hq
 |_=>exact hq.elim
def AV.pureA:AV->Bool
 |.d _=>true
 |.fn _ l=>(allD l).isSome
 |_=>false
theorem Qq3{σ':Sg}{S:Nat->Prop}{H H':List Blk}{x:AV}{v:Ar}(h:Rel σ S H w x v)(hx:x.pureA=true):Rel σ' S H' w x v:=by
 cases h with
 |d x v h=>exact .d _ _ h
 |fn f l cs hl hr=>
  obtain⟨ds,hds⟩:=Option.isSome_iff_exists.1 hx;have he:=QfF hds;refine .fn f l cs hl fun i d x hd hxx=>?_
  have h1:=hr i d x hd hxx;rw[he,Al] at hd;cases hdi:ds[i]? with
  |none=>grind
  |some d'=>
   rw[hdi] at hd;obtain rfl:=A0 hd;cases h1;exact .d _ _ (by assumption)
 |_=>cases hx
section
variable{dst:Option BM}{ty:AE}{pos:String}{after:Array BE}{gd:Option (Nat×Bool)}{env:List (Nat×AV)}{H:List Blk}
def Qd9{f:Ay}{x:D}
 (hf: ∀args w,(callFunc f args).run P w= .ok (.enter f args) w) (h:PureF P f args x) (hargs:xs.toList.map (aval env)=args) (hp:args.all AV.pureA=true):
 Loc P ⟨dst,.call ⟨.value (.func f),xs,tys⟩,ty,pos,after,gd⟩ env H (.d x) none:=by
 intro B σ S H' a w hB hS hop _ _ K Q k;obtain⟨cargs,h1,h2,h3⟩:=Qem (P:=P) (dst:=dst) (ty:=ty) (pos:=pos) (after:=after) (gd:=gd) (tys:=tys) hf σ S H' w a hop;unfold BG;rw[h1,B5];rw[hargs] at h2 h3;refine(h _ S w cargs (hB.again hS S) hS.empty h2 fun i d v hd hv=>Qq3 (h3 i d v hd hv) (AB.1 hp d (As hd))).mono ?_;rintro e w' ⟨v,rfl,hb,hr⟩;obtain⟨h3,h4⟩:=hS.below hb;exact k v w' σ _ h3 (.d _ _ hr) h4
theorem Qd6{f:Ay}{t:BM}{caps:List AV}{ds:List D}{x:D}
 (hf: ∀args w,(callFunc f args).run P w= .ok (.enter f args) w) (h:Pure P f ds x) (ht:look env t= .fn (.func f) caps) (hd:allD (xs.toList.map (aval env)++caps)=some ds):
 Loc P ⟨dst,.call ⟨.value (.tmp t),xs,tys⟩,ty,pos,after,gd⟩ env H (.d x) none:=by
 intro B σ S H' a w hB hS hop _ _ K Q k;obtain⟨cargs,h1,h2,h3⟩:=Qox (P:=P) (dst:=dst) (ty:=ty) (pos:=pos) (after:=after) (gd:=gd) (tys:=tys) hf ht σ S H' w a hop;unfold BG;rw[h1,B5];have he:=QfF hd;rw[he] at h2 h3;refine(h B σ S H' w cargs hB hS (by grind) fun i d v hdi hv=>?_).mono ?_
 ·have:=h3 i (.d d) v (by grind) hv
  cases this;omega
 rintro e w' ⟨v,rfl,hb,hr⟩;obtain⟨h3,h4⟩:=hS.below hb;exact k v w' σ _ h3 (.d _ _ hr) h4
end
variable{P:A2}
section
variable{dst:Option BM}{ty:AE}{pos:String}{after:Array BE}{gd:Option (Nat×Bool)}{env:List (Nat×AV)}{H:List Blk}
theorem Qf1{fn:Fn}{x:AV}(hu:aval env u=x):Loc P ⟨dst,.makeFunc fn #[] #[u],ty,pos,after,gd⟩ env H (.fn fn [x]) none:=by
 have:=QhK (P:=P) (dst:=dst) (ty:=ty) (pos:=pos) (after:=after) (gd:=gd) (env:=env) (H:=H) (fn:=fn) (xs:= #[u])
 grind
theorem Qkv{fn:Fn}{u':AX}{x x':AV}(hu:aval env u=x)(hu':aval env u'=x'):Loc P ⟨dst,.makeFunc fn #[] #[u,u'],ty,pos,after,gd⟩ env H (.fn fn [x,x']) none:=by
 have:=QhK (P:=P) (dst:=dst) (ty:=ty) (pos:=pos) (after:=after) (gd:=gd) (env:=env) (H:=H) (fn:=fn) (xs:= #[u,u'])
 grind
end
def AV.weak1:AV->AV
 |.d x=> .d x.weak
 |x=>x
theorem PureF.arg{f:Ay}{l l':List AV}{x:D}(h:PureF P f l' x)(ha:l.map AV.weak1=l':=by rfl):PureF P f l x:=by
 intro B S w cargs hB hS hl hr;subst ha;refine h B S w cargs hB hS (by simpa using hl) fun i d v hd hv=>?_
 rw[Al] at hd;obtain⟨d0,h1,rfl⟩:=A6.1 hd;have h2:=hr i d0 v h1 hv;cases h2 with
 |d x v h=>exact .d _ _ h.weak
 |agg l cs hl h=>exact .agg l cs hl h
 |tup l cs hl h=>exact .tup l cs hl h
 |ptr=>exact hr i _ _ h1 hv
 |fn f l cs hl h=>exact .fn f l cs hl h
 |_=>exact hr i _ _ h1 hv
section
variable{P:A2}{ops:Array A3}{K:St->Prop}{n:Nat}{env:List (Nat×AV)}{H H':List Blk}{d:BM}{ty:AE}{pos:String}{after:Array BE}{gd:Option (Nat×Bool)}
theorem Qo8{e:AE}{F:TyF}{s x:AX}{g len k2 g2:Nat}{T2:AE}{rows:List (List D)}{r:List D}(hT:tyf P T=some F)(he:F.elem=some e)(hE:tyf P e=some E)(hz:E.zero.length=E.size:=by rfl)(hpos:AC 0 E.size=true:=by rfl)
 (hs:aval env s= .osl k g 0 len:=by rfl) (hk:H[k]? =some (.arr g E.size e rows):=by rfl) (hlen:len=rows.length:=by first|rfl|simp)
 (hx:aval env x= .osl k2 g2 0 1:=by rfl) (hk2:H[k2]? =some (.arr g2 E.size T2 [r]):=by rfl) (hcell:r.all D.cell=true:=by rfl)
 (hb:(rows.length+1)*E.bytes<=140737488355328)
 (hw:awanted ops env ⟨some d,.call ⟨.builtin .append, #[s,x], #[T,T]⟩,ty,pos,after,gd⟩=some true:=by rfl) (hd:AC d n=true:=by rfl) (hg:gdOk ops n ⟨some d,.call ⟨.builtin .append, #[s,x], #[T,T]⟩,ty,pos,after,gd⟩=true:=by rfl)
 (hH: ∀R:List Blk->Prop,R H'->R (H.set k (.arr (g+1) E.size e (rows++[r]))):=by intro R hR;simp only[List.set_cons_zero,List.set_cons_succ,Nat.zero_add,Nat.reduceAdd];exact hR)
 (hby:AC 0 E.bytes=true:=by rfl)
 (kk:K ⟨n,(d,.osl k (g+1) 0 (rows.length+1))::env,H'⟩):AStep P ops ⟨some d,.call ⟨.builtin .append, #[s,x], #[T,T]⟩,ty,pos,after,gd⟩ K ⟨n,env,H⟩:=by
 have hby':0<E.bytes:=by simpa using hby
 have hmul:rows.length+1<=(rows.length+1)*E.bytes:=Am _ hby';refine astep (QiY (newrows:=[r]) hT he hE hz (by simp_all) hs hk hlen (Qqw hx hk2 rfl (cells1 r hcell)) (by omega) (by simp;omega)) hw hd hg ?_;have:=hH (fun r=>r=H') rfl;rw[this];simpa[putE] using kk
theorem QkY{e:AE}{F:TyF}{s x:AX}{g len:Nat}{c:Bool}{rows newrows:List (List D)}(hT:tyf P T=some F)(he:F.elem=some e)(hE:tyf P e=some E)(hz:E.zero.length=E.size:=by rfl)(hpos:AC 0 E.size=true:=by rfl)
 (hs:aval env s= .osl k g 0 len:=by rfl) (hk:H[k]? =some (.arr g E.size e rows):=by rfl) (hlen:len=rows.length:=by first|rfl|simp)
 (hx:aval env x= .d (.sl c E.size newrows):=by rfl) (hcell: ∀r∈newrows,∀d∈r,d.cell=true)
 (hb:(rows.length+newrows.length)*E.bytes<=140737488355328)
 (hw:awanted ops env ⟨some d,.call ⟨.builtin .append, #[s,x], #[T,T]⟩,ty,pos,after,gd⟩=some true:=by rfl) (hd:AC d n=true:=by rfl) (hg:gdOk ops n ⟨some d,.call ⟨.builtin .append, #[s,x], #[T,T]⟩,ty,pos,after,gd⟩=true:=by rfl)
 (hH: ∀R:List Blk->Prop,R H'->R (H.set k (.arr (g+1) E.size e (rows++newrows))):=by intro R hR;simp only[List.set_cons_zero,List.set_cons_succ,Nat.zero_add,Nat.reduceAdd];exact hR)
 (hby:AC 0 E.bytes=true:=by rfl)
 (kk:K ⟨n,(d,.osl k (g+1) 0 (rows.length+newrows.length))::env,H'⟩):AStep P ops ⟨some d,.call ⟨.builtin .append, #[s,x], #[T,T]⟩,ty,pos,after,gd⟩ K ⟨n,env,H⟩:=by
 have hby':0<E.bytes:=by simpa using hby
 have hmul:rows.length+newrows.length<=(rows.length+newrows.length)*E.bytes:=Am _ hby';refine astep (QiY (newrows:=newrows) hT he hE hz (by simp_all) hs hk hlen (Qqv hx hcell) hb (by omega)) hw hd hg ?_;have:=hH (fun r=>r=H') rfl;rw[this];simpa[putE] using kk
end
def memN:List Nat->Nat->Bool
 |[],_=>false
 |m::r,i=>bif B9 m i then true else memN r i
theorem QdH: ∀{l:List Nat} {i:Nat},memN l i=true↔i∈l
 |[],i=>by simp[memN]
 |m::r,i=>by
  unfold memN;cases h:B9 m i with
  |true=>simp_all
  |false=>
   have:m≠i:=fun e=>by simp_all
   simp only[cond_false,AU];rw[QdH]
   grind
def opT(o:A3):List Nat:=o.op.operands.toList.filterMap fun| .tmp t=>some t|_=>none
def quietB(ops:List A3)(fl:List Nat)(q:Nat):Bool:=ops.zipIdx.all fun(p,j)=>memN fl j|| !(p.dst==some q)
def Quiet(ops:List A3)(fl:List Nat)(q:Nat):Prop:= ∀(j:Nat) p,ops[j]? =some p->memN fl j=false->p.dst≠some q
def ascN:List Nat->Bool
 |[]=>true
 |f::r=>r.all (AC f)&&ascN r
def float1(ops:List A3)(fl:List Nat)(n f:Nat):Bool:=
 match ops[f]? with
 |none=>false
 |some o=>match o.dst,o.guard with
  |some t,none=>AC t n&& !(opT o).elem t&&(opT o).all (quietB ops fl)&&ops.zipIdx.all fun(p,j)=>bif AC j f then !(names ops p).elem t else B9 j f|| !(p.dst==some t)
  |_,_=>false
def floatOk(ops:List A3)(fl:List Nat)(n:Nat):Bool:=ascN fl&&fl.all (float1 ops fl n)
structure FlSt(ops:List A3)(fl:List Nat)(n f:Nat)(o:A3)(t:Nat):Prop where
 op:ops[f]? =some o
 dst:o.dst=some t
 guard:o.guard=none
 lt:t<n
 own:AL t∉o.op.operands
 quiet: ∀q,AL q∈o.op.operands->Quiet ops fl q
 before: ∀(j:Nat) p,j<f->ops[j]? =some p->t∉names ops p
 sole: ∀(j:Nat) p,j≠f->ops[j]? =some p->p.dst≠some t
def Qhv{t:Nat}(h:AL t∈o.op.operands):t∈opT o:=Ai.2 ⟨.tmp t,Ae.2 h,rfl⟩
theorem Qm4{ops:List A3}{fl:List Nat}{q:Nat}(h:quietB ops fl q=true):Quiet ops fl q:=by
 intro j p hp hm e;unfold quietB at h;rw[AB] at h;have:=h (p,j) (Ac.2 hp)
 grind
theorem Qes{ops:List A3}{fl:List Nat}{n f:Nat}(h:float1 ops fl n f=true): ∃o t,FlSt ops fl n f o t:=by
 unfold float1 at h;split at h
 ·cases h
 rename_i o ho;split at h;rotate_left
 ·cases h
 rename_i t ht hg;simp only[Ad,B0,AB] at h;obtain⟨⟨⟨h1,h2⟩,h3⟩,h4⟩:=h;have hown:t∉opT o:=fun hm=>by grind
 have hz: ∀(j:Nat) p,ops[j]? =some p->(p,j)∈ops.zipIdx:=fun j p hp=>Ac.2 hp
 have key: ∀(j:Nat) p,j<f->ops[j]? =some p->t∉names ops p:=fun j p hj hp hm=>by
  have:=h4 (p,j) (hz j p hp);have hb:AC j f=true:=by simpa using hj
  grind
 refine⟨o,t,ho,ht,hg,by simp_all,fun hm=>hown (Qhv hm),fun q hq=>Qm4 (h3 q (Qhv hq)),key,fun j p hj hp e=>?_⟩;rcases AD j f with hlt|hge
 ·grind [names]
 ·have:=h4 (p,j) (hz j p hp)
  have hb:AC j f=false:=by
   cases hb:AC j f
   ·rfl
   ·have:j<f:=by simp_all
    omega
  simp_all
def barOkF(ops:List A3)(fl:List Nat)(m:Nat):Bool:=
 let b:=befs ops []
 !memN fl m&&((Az m).all fun j=>memN fl j||(b.getD m 0).testBit j)&&((Az ops.length).all fun i=>AG i m||memN fl i||(b.getD i 0).testBit m)
theorem Qjf{ops:List A3}{fl:List Nat}{m:Nat}(h:barOkF ops fl m=true):memN fl m=false/\(∀j,j<m->memN fl j=false->((befs ops []).getD m 0).testBit j=true)/\
 ∀i,i<ops.length->m<i->memN fl i=false->((befs ops []).getD i 0).testBit m=true:=by
 unfold barOkF at h;simp only[Ad,AB,BA,B0] at h;obtain⟨⟨h0,h1⟩,h2⟩:=h;refine⟨h0,fun j hj hm=>?_,fun i hi hm hf=>?_⟩
 ·grind
 ·have:=h2 i hi
  rw[hf] at this;simp only[Bool.or_false] at this;rcases A9.1 this with h2|h2
  ·have:i<=m:=by simp_all
   omega
  omega
def dum:A3:=⟨none,.move (.const undef),0, "", #[],none⟩
def segF(fl:List Nat)(e:Nat):Nat->List A3->List A3
 |_,[]=>[]
 |i,o::l=>bif AG e i then [] else bif memN fl i then segF fl e (i+1) l else o::segF fl e (i+1) l
def segD(fl:List Nat)(e:Nat):Nat->List A3->List A3
 |_,[]=>[]
 |i,o::l=>bif AG e i then [] else(bif memN fl i then dum else o)::segD fl e (i+1) l
theorem Qgf(fl:List Nat)(e:Nat): ∀(l:List A3) (i:Nat),(segD fl e i l).length=min (e -i) l.length
 |[],i=>by simp[segD]
 |o::l,i=>by
  unfold segD;cases h:AG e i with
  |true=>
   simp_all
  |false=>
   have: ¬e<=i:=fun h2=>by grind [Nat.ble_eq_true_of_le]
   simp only[cond_false,B3,Qgf fl e l (i+1)];omega
theorem Qkk(fl:List Nat)(e:Nat): ∀(l:List A3) (i k:Nat) (o:A3),(segD fl e i l)[k]? =some o->(memN fl (i+k)=true/\o=dum)∨(memN fl (i+k)=false/\l[k]? =some o)
 |[],i,k,o,h=>by simp[segD] at h
 |p::l,i,k,o,h=>by
  unfold segD at h;cases hb:AG e i with
  |true=>grind
  |false=>
   rw[hb] at h;simp only[cond_false] at h;cases k with
   |zero=>
    grind
   |succ k=>
    simp only[List.getElem?_cons_succ] at h⊢;have:=Qkk fl e l (i+1) k o h
    grind
theorem QjQ{P:A2}{opsA:Array A3}{l:List A3}{s:St}{x:AV}{b:Option Blk}{st:Nat->St}{xv:Nat->AV}{nb:Nat->Option Blk}(h:Step1 P opsA o s x b)(hc:Chain P opsA l st xv nb)(h0:st 0=s.next o x b):
 Chain P opsA (o::l) (fun i=>match i with|0=>s|i+1=>st i) (fun i=>match i with|0=>x|i+1=>xv i) (fun i=>match i with|0=>b|i+1=>nb i):=
 ⟨fun i o' ho=>by
   match i,ho with
   |0,ho=>grind
   |i+1,ho=>exact hc.step i o' (by grind)⟩
theorem ADraw.chainF{P:A2}{opsA:Array A3}{K:St->Prop}(fl:List Nat)(e:Nat): ∀(l:List A3) (i:Nat) (s:St),ADraw P opsA K (segF fl e i l) s->
 ∃st xv nb,Chain P opsA (segD fl e i l) st xv nb/\st 0=s/\K (st (segD fl e i l).length)/\ ∀k,memN fl (i+k)=true->nb k=none
 |[],i,s,h=>⟨fun _=>s,fun _=> .d .any,fun _=>none,⟨fun i o ho=>by simp[segD] at ho⟩,rfl,h,fun _ _=>rfl⟩
 |o::l,i,s,h=>by
  unfold segF at h;unfold segD;cases hb:AG e i with
  |true=>
   rw[hb] at h;exact⟨fun _=>s,fun _=> .d .any,fun _=>none,⟨fun i o ho=>by simp at ho⟩,rfl,h,fun _ _=>rfl⟩
  |false=>
   rw[hb] at h;simp only[cond_false] at h⊢;cases hm:memN fl i with
   |true=>
    rw[hm] at h;simp only[cond_true] at h⊢;obtain⟨st,xv,nb,hc,h0,hK,hn⟩:=ADraw.chainF fl e l (i+1) s h;refine⟨_,_,_,QjQ (x:=aval s.env (.const undef)) (b:=none) ⟨rfl,.inr ⟨rfl,QnX⟩⟩ hc (by rw[h0];simp[St.next,putE,dum]),rfl,hK,fun k hk=>?_⟩
    grind
   |false=>
    rw[hm] at h;simp only[cond_false] at h⊢;obtain⟨x,b,hs,h⟩:=h;obtain⟨st,xv,nb,hc,h0,hK,hn⟩:=ADraw.chainF fl e l (i+1) _ h;refine⟨_,_,_,QjQ hs hc h0,rfl,hK,fun k hk=>?_⟩
    grind
section
variable{P:A2}{ops:List A3}{fl:List Nat}{n:Nat}{envF:List (Nat×AV)}{fx:List (Nat×Nat×D)}{B:Bs}
end
section
variable{P:A2}{ops:List A3}{K:List (Nat×AV)->Prop}{f:Nat}{r:List Nat}{env:List (Nat×AV)}{d:BM}{op:Op}{ty:AE}{pos:String}{after:Array BE}{gd:Option (Nat×Bool)}{x:D}
end
theorem Qtp{P:A2}{env:List (Nat×AV)}{H:List Blk}{sz len:Nat}{rows:List (List D)}(hlen:rows.length=len)(hsz: ∀r∈rows,r.length=sz)
 (h: ∀(σ:Sg) (S:Nat->Prop) (H':List Blk) (a:BH) (w:AT),(∀u∈o.op.operands,Rel σ S H' w (aval env u) (a.eval u))->
   ∃cs,(execOp a.eval o).run P w= .ok (.value (.slice (some ⟨w.heap.size,0,none⟩) len len)) (w.alloc (.cells cs T))/\cs.size=len*sz/\len<=maxLen/\
    ∀(i j:Nat) r d,rows[i]? =some r->r[j]? =some d-> ∃v,cs[i*sz+j]? =some v/\RelD S w d v):Loc P o env H (.d (.sl true sz rows)) none:=by
 intro B σ S H' a w _ hS hop hag hk K Q k;obtain⟨cs,h1,hcs,hm,h2⟩:=h σ S H' a w hop;have hb:BI w.heap.size w (w.alloc (.cells cs T)):=Pm.bnew w _;obtain⟨h3,h4⟩:=hS.below hb;subst hlen;refine Qgs h1 (k _ _ _ _ h3 (.d _ _ (.sl true sz rows w.heap.size 0 rows.length (fun i j=>cs.getD (i*sz+j) undef) ?_ hsz (fun _=>AA _) (fun i j r d hi hj=>?_) fun i j r d hi hj=>?_)) h4)
 ·simp_all
 ·obtain⟨v,hv,_⟩:=h2 i j r d hi hj
  simp_all
 ·obtain⟨v,hv,hr⟩:=h2 i j r d hi hj
  rw[AJ,hv];exact hr.mono h4.s h4.same
def QdO{P:A2}{dst:Option BM}{ty:AE}{pos:String}{after:Array BE}{gd:Option (Nat×Bool)}{env:List (Nat×AV)}{H:List Blk}{e:AE}{F:TyF}{n:Nat}{parts:Array (Nat×AX)}{rows:List (List D)}(hT:tyf P T=some F)(he:F.elem=some e)(hE:tyf P e=some E)
 (hz:E.zero.length=E.size:=by rfl) (hc: ∀R:Option (List (List D))->Prop,R (some rows)->R ((fillA (fun i=>some (i*E.size,E.size)) env (Ab n (E.zero.map fun v=>AV.d (.v v))).flatten parts.toList).bind (chunk E.size n)):=by
   intro R hR;simp only[go_sem,chunk,Option.bind_some,List.replicate_succ,List.replicate_zero,List.flatten_cons,List.flatten_nil,List.append_nil,List.cons_append,List.nil_append,Nat.zero_mul,Nat.reduceMul,Nat.reduceEqDiff,Nat.reduceAdd,Nat.reduceLT,Nat.reduceLeDiff,↓reduceIte,reduceCtorEq,List.take_nil,List.drop_nil];exact hR)
 (hm:AG (n*E.size) 16777216=true:=by rfl) (hn:AG n 16777216=true:=by rfl):Loc P ⟨dst,.buildSlice T n parts,ty,pos,after,gd⟩ env H (.d (.sl true E.size rows)) none:=by
 have h:=hc (fun r=>r=some rows) rfl;obtain⟨res,h1,h2⟩:=AZ.1 h;obtain⟨hrl,hrs,hrg⟩:=Qhl h2;exact Qtp hrl hrs (Qgy hT he hE hz h1 h2 (A4 hm) (A4 hn))
end Aw
end
section
open Go.RowKit
namespace Aw
namespace Fg
theorem Loc.env{P:A2}{o:A3}{env env':List (Nat×AV)}{H:List Blk}{x:AV}{nb:Option Blk}(h:Loc P o env H x nb)(he: ∀q,AL q∈o.op.operands->look env' q=look env q):Loc P o env' H x nb:=by
 intro B σ S H' a w hB hS hop;refine h B σ S H' a w hB hS fun u hu=>?_
 have:=hop u hu;cases u with
 |tmp q=>grind [aval]
 |_=>exact this
end Fg
namespace Fk
def maskP(p:Nat->Bool)(H:List Blk):List Blk:=H.zipIdx.map fun q=>bif p q.2 then Blk.none else q.1
theorem QdJ(p:Nat->Bool)(H:List Blk)(k:Nat):(maskP p H)[k]? =H[k]?.map fun C=>bif p k then Blk.none else C:=by
 grind [maskP]
theorem QfQ(p:Nat->Bool)(H:List Blk):(maskP p H).length=H.length:=by simp[maskP]
theorem maskP_no{p:Nat->Bool}(h: ∀k,p k=false)(H:List Blk):maskP p H=H:=AK fun k=>by
 rw[QdJ]
 grind
theorem QlA{p:Nat->Bool}{H:List Blk}(h: ∀k,p k=true->k<H.length)(L:List Blk):maskP p (H++L)=maskP p H++L:=AK fun k=>by
 grind [QdJ,QfQ]
theorem Qi6{p:Nat->Bool}{H:List Blk}{k:Nat}{C:Blk}(h:p k=false):(maskP p H).set k C=maskP p (H.set k C):=AK fun j=>by
 grind [QdJ,QfQ]
theorem QmG{p:Nat->Bool}{H H':List Blk}(h:Agree H H'):Agree H (maskP p H'):=fun k C hC=>by
 rw[QdJ];rcases h k C hC with h|h<;>rw[h]<;>cases p k<;>simp
structure Fas where
 l:List (Nat×Nat×Blk)
 kp:List (Nat×Blk)
def KPs(kp:List (Nat×Blk))(H:List Blk):Prop:= ∀q∈kp,H[q.1]? =some q.2
def opn(fa:Fas)(F:Nat->Bool)(k:Nat):Bool:=fa.l.any fun q=>B9 q.2.1 k&& !F q.1
def kof(fa:Fas)(f:Nat):Option (Nat×Blk):=(fa.l.find? fun q=>B9 q.1 f).map (·.2)
def mkFa(h:Nat):List (Nat×Blk)->List (Nat×Nat×Blk)
 |[]=>[]
 |(f,C)::r=>(f,h,C)::mkFa (h+1) r
def EffM(P:A2)(o:A3)(env:List (Nat×AV))(H:List Blk)(ks:List Nat)(R:AV->List Blk->Prop):Prop:=
 ∀p:Nat->Bool,(∀k,p k=true->k∈ks)->EffE P o env (maskP p H) fun x K'=> ∃K,R x K/\K'=maskP p K/\ ∀k,p k=true->K[k]? =H[k]?
def AStepM(P:A2)(ops:Array A3)(o:A3)(ks:List Nat)(K:St->Prop)(s:St):Prop:=
 ∃R,EffM P o s.env s.H ks R/\awanted ops s.env o=some true/\dstOk s.n o.dst=true/\gdOk ops s.n o=true/\ ∀x H',R x H'->K ⟨s.n,putE s.env o.dst x,H'⟩
def kap(ops:List A3)(fa:Fas)(m:Nat):List Nat:=(fa.l.filter fun q=> !((befs ops []).getD m 0).testBit q.1).map (·.2.1)
abbrev Tl:=List (Nat×Nat×AV)
def QuietO(ops:List A3)(fl:List Nat)(ts:Tl)(off q:Nat):Prop:= ∀(j:Nat) p,ops[j]? =some p->memN fl j=false->p.dst=some q->(∃t∈ts,j=t.1)/\j<off
def QuietO.of{ops:List A3}{fl:List Nat}{ts:Tl}{off q:Nat}(h:Quiet ops fl q):QuietO ops fl ts off q:=fun j p h1 h2 h3=>absurd h3 (h j p h1 h2)
def ungE(q:Nat):List (Nat×AV)->List (Nat×AV)
 |[]=>[]
 |(k,x)::r=>bif k==q then ungE q r else(k,x)::ungE q r
theorem Qiq(q:Nat): ∀env,look (ungE q env) q= .d .any
 |[]=>rfl
 |(k,x)::r=>by
  unfold ungE;cases h:k==q
  ·have h: ¬k=q:=by grind
   rw[cond_false,Qd2 h];exact Qiq q r
  ·exact Qiq q r
theorem Qqk{q t:Nat}(hne:t≠q): ∀env,look (ungE q env) t=look env t
 :=by intro l;induction l<;>grind [ungE,Qdw,Qd2]
def ungs(ts:Tl)(env:List (Nat×AV)):List (Nat×AV):=ts.foldr (fun t e=>ungE t.2.1 e) env
theorem Qqi{t:Nat}{env:List (Nat×AV)}: ∀{ts:Tl},(∃r∈ts,r.2.1=t)->look (ungs ts env) t= .d .any
 :=by intro l;induction l<;>grind [ungs,Qiq,Qqk]
theorem Qqj{t:Nat}{env:List (Nat×AV)}: ∀{ts:Tl},(∀r∈ts,r.2.1≠t)->look (ungs ts env) t=look env t
 :=by intro l;induction l<;>grind [ungs,Qqk]
theorem Qrb{t:Nat}{env:List (Nat×AV)}: ∀{ts:Tl},(∀r∈ts,r.2.1≠t)->look (ts.map (·.2)++env) t=look env t
 :=by intro l;induction l<;>grind [Qd2]
def QgZ(ops:List A3)(fl:List Nat)(ts:List Nat)(n:Nat):Bool:=ascN fl&&fl.all (float1 ops (ts++fl) n)&&fl.all (fun f=>float1 ops (ts.filter (fun m=>AC m f)++fl) n f)
def Gt(m:Nat)(env:List (Nat×AV)):Tl->Prop
 |[]=>True
 |(a,q,v)::r=>(m=a->look env q=v)/\Gt m env r
def Gt.get{m:Nat}{env:List (Nat×AV)}: ∀{ts:Tl},Gt m env ts-> ∀t∈ts,m=t.1->look env t.2.1=t.2.2
 |[],_,t,h=>by cases h
 |(a,q,v)::r,h,t,ht=>by
  rcases AU.1 ht with rfl|ht
  ·exact h.1
  ·exact h.2.get t ht
def Gs(m:Nat)(ts:Tl)(K:St->Prop)(s:St):Prop:=Gt m s.env ts/\K s
def Flts(P:A2)(ops:List A3)(fa:Fas)(K:List (Nat×AV)->Prop):List Nat->List (Nat×AV)->Prop
 |[],env=>K env
 |f::r,env=> ∃o x,ops[f]? =some o/\(match kof fa f with
  |none=> ∀H,KPs fa.kp H->Loc P o env H x none
  |some (κ,C)=> ∀H:List Blk,H.length=κ->Loc P o env H x (some C))/\Flts P ops fa K r (putE env o.dst x)
def pend(ops:List A3)(fl:List Nat):Nat->Bool
 |0=>true
 |m+1=>fl.any fun f=> !((befs ops []).getD m 0).testBit f
def PlanF(P:A2)(ops:List A3)(fl:List Nat)(fa:Fas)(ts:Tl)(Q:St->Prop):List Nat->Nat->St->Prop
 |[],off,s=>(pend ops fl off=true->KPs fa.kp s.H)/\ADraw P ops.toArray Q (segF fl ops.length off (ops.drop off)) s
 |m::ms,off,s=>(pend ops fl off=true->KPs fa.kp s.H)/\AG off m=true/\barOkF ops fl m=true/\ ∃o,ops[m]? =some o/\ADraw P ops.toArray (AStepM P ops.toArray o (kap ops fa m) (Gs m ts (PlanF P ops fl fa ts Q ms (m+1)))) (segF fl m off (ops.drop off)) s
def PlanEndF(P:A2)(ops:List A3)(fl:List Nat)(fa:Fas)(ts:Tl)(Q:St->Prop)(off:Nat):List Nat->St->Prop
 |[],s=>Q s
 |m::ms,s=>off<=m/\barOkF ops fl m=true/\ ∃o,ops[m]? =some o/\AStepM P ops.toArray o (kap ops fa m) (Gs m ts (PlanF P ops fl fa ts Q ms (m+1))) s
def segE(ops:List A3)(fl:List Nat)(off:Nat):List Nat->List A3
 |[]=>segD fl ops.length off (ops.drop off)
 |m::_=>segD fl m off (ops.drop off)
def FLoc(P:A2)(fa:Fas)(f:Nat)(o:A3)(env:List (Nat×AV))(x:AV):Prop:=
 match kof fa f with
 |none=> ∀H,KPs fa.kp H->Loc P o env H x none
 |some (κ,C)=> ∀H:List Blk,H.length=κ->Loc P o env H x (some C)
theorem FLoc.env{P:A2}{fa:Fas}{f:Nat}{o:A3}{env env':List (Nat×AV)}{x:AV}(h:FLoc P fa f o env x)(he: ∀q,AL q∈o.op.operands->look env' q=look env q):FLoc P fa f o env' x:=by grind [FLoc,Fg.Loc.env]
structure Fx(P:A2)(ops:List A3)(fl:List Nat)(ts:Tl)(fa:Fas)(n:Nat)(env:List (Nat×AV))(fx:List (Nat×Nat×AV)):Prop where
 ok: ∀f t x,(f,t,x)∈fx->memN fl f=true/\ ∃o,FlSt ops (ts.map (·.1)++fl) n f o t/\look env t=x/\FLoc P fa f o env x
 all: ∀f,memN fl f=true-> ∃t x,(f,t,x)∈fx
theorem flts_build{P:A2}{ops:List A3}{fl:List Nat}{fa:Fas}{n:Nat}{K:List (Nat×AV)->Prop}: ∀(r:List Nat) (env:List (Nat×AV)),Flts P ops fa K r env->(∀f∈r,float1 ops fl n f=true)->ascN r=true->
 ∃(env':List (Nat×AV)) (fx:List (Nat×Nat×AV)),K env'/\(∀f t x,(f,t,x)∈fx->f∈r/\ ∃o,FlSt ops fl n f o t/\look env' t=x/\FLoc P fa f o env' x)/\(∀f∈r,∃t x,(f,t,x)∈fx)/\
  ∀q,(∀f∈r,∀o,ops[f]? =some o->o.dst≠some q)->look env' q=look env q
 |[],env,h,_,_=>⟨env,[],h,fun f t x hm=>by simp at hm,fun f hf=>by simp at hf,fun _ _=>rfl⟩
 |f::r,env,⟨o,x,ho,hl,hk⟩,h1,ha=>by
  simp only[ascN,Ad,AB] at ha;obtain⟨env',fx,hK,hfx,hall,hq⟩:=flts_build (fl:=fl) (n:=n) r _ hk (fun g hg=>h1 g (AM _ hg)) ha.2;obtain⟨o',t,hf⟩:=Qes (h1 f AY);have:=hf.op;rw[ho] at this;obtain rfl:=A0 this;rw[hf.dst] at hq;have hlater: ∀g∈r,f<g:=fun g hg=>by simp_all
  have hqt:look env' t=x:=by
   rw[hq t fun g hg p hp=>hf.sole g p (by grind) hp];exact Qdw _ _ _
  refine⟨env',(f,t,x)::fx,hK,fun g u y hm=>?_,fun g hg=>?_,fun q hne=>?_⟩
  ·rcases AU.1 hm with e|hm
   ·simp only[BC] at e
    obtain⟨rfl,rfl,rfl⟩:=e;refine⟨AY,o,hf,hqt,FLoc.env (P:=P) (fa:=fa) (show FLoc P fa g o env y from hl) fun q hq'=>?_⟩;have hqn:q∈names ops o:=A8 _ (A7 _ (Qhv hq'));rw[hq q fun g hg p hp e=>?_]
    ·refine Qd2 (fun e=>hf.own ?_) _ _
     grind
    ·obtain⟨p',u,hg'⟩:=Qes (h1 g (AM _ hg))
     have:=hg'.op;rw[hp] at this;obtain rfl:=A0 this;have hu:=hg'.dst;rw[e] at hu;obtain rfl:=A0 hu;exact hg'.before _ _ (hlater g hg) ho hqn
   grind
  ·grind
  ·rw[hq q fun g hg=>hne g (AM _ hg)]
   exact Qd2 (fun e=>hne f AY o ho (by rw[hf.dst,e])) _ _
section
variable{P:A2}{ops:List A3}{fl:List Nat}{fa:Fas}{n:Nat}{ts:Tl}{envF:List (Nat×AV)}{fx:List (Nat×Nat×AV)}{B:Bs}
def PhF(fa:Fas)(fx:List (Nat×Nat×AV))(B:Bs)(F:Nat->Bool)(l:List A3)(s:St)(xv:Nat->AV)(nb:Nat->Option Blk)(E:Nat->Bool)(a:BH)(w:AT):Prop:=
 ∃σ S,Sm B σ S (maskP (opn fa F) (HE s.H nb l.length E)) w/\a.defers=[]/\a.tmps.size=s.n/\(∀f t x,(f,t,x)∈fx->F f=true->Rel σ S (maskP (opn fa F) (HE s.H nb l.length E)) w x (a.tmps.getD t undef))/\ ∀t,(∀f x,(f,t,x)∉fx)->
  (∃i o,E i=true/\l[i]? =some o/\o.dst=some t/\(∀j o',E j=true->l[j]? =some o'->o'.dst=some t->j<=i)/\Rel σ S (maskP (opn fa F) (HE s.H nb l.length E)) w (xv i) (a.tmps.getD t undef))∨
  ((∀j o,E j=true->l[j]? =some o->o.dst≠some t)/\Rel σ S (maskP (opn fa F) (HE s.H nb l.length E)) w (look s.env t) (a.tmps.getD t undef))
def SmF(fa:Fas)(fx:List (Nat×Nat×AV))(B:Bs)(F:Nat->Bool)(σ:Sg)(S:Nat->Prop)(s:St)(a:BH)(w:AT):Prop:=
 Sm B σ S (maskP (opn fa F) s.H) w/\a.defers=[]/\a.tmps.size=s.n/\(∀f t x,(f,t,x)∈fx->F f=true->Rel σ S (maskP (opn fa F) s.H) w x (a.tmps.getD t undef))/\ ∀t,(∀f x,(f,t,x)∉fx)->Rel σ S (maskP (opn fa F) s.H) w (look s.env t) (a.tmps.getD t undef)
theorem HE_mask{p:Nat->Bool}{H:List Blk}(h: ∀k,p k=true->k<H.length)(nb:Nat->Option Blk)(n:Nat)(E:Nat->Bool):HE (maskP p H) nb n E=maskP p (HE H nb n E):=by grind [HE,QlA]
theorem Ql2{fa:Fas}{F:Nat->Bool}{f:Nat}(h: ∀q∈fa.l,q.1≠f):opn fa (fun j=>F j||decide (j=f))=opn fa F:=by grind [opn]
theorem Qeg{fa:Fas}{F:Nat->Bool}{k:Nat}:opn fa F k=true↔ ∃q∈fa.l,q.2.1=k/\F q.1=false:=by
 unfold opn;simp
theorem KPs.mask{fa:Fas}{F:Nat->Bool}{H L:List Blk}(h:KPs fa.kp H)(hd: ∀q∈fa.l,∀p∈fa.kp,q.2.1≠p.1):KPs fa.kp (maskP (opn fa F) (H++L)):=fun p hp=>by
 have h1:=h p hp
 have h2:opn fa F p.1=false:=by
  cases ho:opn fa F p.1 with
  |false=>rfl
  |true=>obtain⟨q,h3,h4,_⟩:=Qeg.1 ho;grind
 grind [QdJ]
def Qtu{fa:Fas}{f:Nat}(h:kof fa f=none): ∀q∈fa.l,q.1≠f:=fun q hq e=>by
 unfold kof at h;rw[An,List.find?_eq_none] at h;exact h q hq (by simp[e])
theorem Qky{fa:Fas}{f κ:Nat}{C:Blk}(h:kof fa f=some (κ,C)):(f,κ,C)∈fa.l:=by
 unfold kof at h;obtain⟨q,h1,h2⟩:=A6.1 h;have h3:=List.find?_some h1;have h4:=List.mem_of_find?_eq_some h1;have:q.1=f:=by simp_all
 grind
theorem PhF.start{F:Nat->Bool}{l:List A3}{s:St}{xv:Nat->AV}{nb:Nat->Option Blk}{E:Nat->Bool}{a:BH}{w:AT}{σ:Sg}{S:Nat->Prop}(hA:SmF fa fx B F σ S s a w)(hlow: ∀k,opn fa F k=true->k<s.H.length)(hE: ∀j o,l[j]? =some o->E j=true->o.dst=none/\nb j=none):PhF fa fx B F l s xv nb E a w:=by
 obtain⟨hsm,hdf,hsz,hfl,henv⟩:=hA
 have key: ∀m,∃σ',Sm B σ' S (HE (maskP (opn fa F) s.H) nb m (fun _=>false)) w/\Ev σ S (maskP (opn fa F) s.H) w σ' S (HE (maskP (opn fa F) s.H) nb m (fun _=>false)) w:=by
  intro m;induction m with
  |zero=>grind [HE,Ev.refl]
  |succ m ih=>
   obtain⟨σ',h1,h2⟩:=ih
   have hsucc:HE (maskP (opn fa F) s.H) nb (m+1) (fun _=>false)=HE (maskP (opn fa F) s.H) nb m (fun _=>false)++maskB false (nb m):=by
    grind [HE,List.range_succ]
   rw[hsucc];cases hnb:nb m with
   |none=>grind [maskB]
   |some C=>
    obtain⟨h3,h4⟩:=h1.keepPlace;exact⟨_,by simpa[maskB] using h3,by simpa[maskB] using h2.trans h4⟩
 obtain⟨σ',h1,h2⟩:=key l.length
 have e:HE s.H nb l.length E=HE s.H nb l.length (fun _=>false):=by
  unfold HE
  congr 1
  apply congrArg List.flatten;apply List.map_congr_left;intro j hj;have hj:=BA.1 hj;cases hEj:E j with
  |false=>rfl
  |true=>rw[(hE j _ (AF hj) hEj).2];rfl
 rw[HE_mask hlow] at h1 h2;rw[<-e] at h1 h2;exact⟨σ',S,h1,hdf,hsz,fun f t x hm hF=>(hfl f t x hm hF).mono h2,fun t ht=> .inr ⟨fun j o hj ho=>by grind,(henv t ht).mono h2⟩⟩
theorem PhF.done{F:Nat->Bool}{l:List A3}{s:St}{st:Nat->St}{xv:Nat->AV}{nb:Nat->Option Blk}{E:Nat->Bool}{a:BH}{w:AT}(hch:Chain P ops.toArray l st xv nb)(h0:st 0=s)
 (h:PhF fa fx B F l s xv nb E a w) (hall: ∀i,i<l.length->E i=true): ∃σ S,SmF fa fx B F σ S (st l.length) a w:=by
 obtain⟨σ,S,h1,h2,h3,h6,h4⟩:=h;have hn:=hch.n;have hheap:=hch.heap
 have hH:(st l.length).H=HE s.H nb l.length E:=by
  grind [HE_all]
 refine⟨σ,S,by grind,h2,by grind,by grind,fun t ht=>?_⟩;rw[hH];have hEi: ∀(j:Nat) o,l[j]? =some o->E j=true:=fun j o ho=>hall j (A1.1 ho).1
 have hlt: ∀(j:Nat) o,l[j]? =some o->j<l.length:=fun j o ho=>(A1.1 ho).1
 rcases hch.slot l.length (AA _) t with⟨j,o,g1,g2,g3,g4,g5⟩|⟨g1,g2⟩
 ·grind
 grind
theorem put_same{a:BH}{t n:Nat}{v:Ar}(h3:a.tmps.size=n)(ht:t<n):(a.put (some t) v).tmps.getD t undef=v:=by simp_all[B1]
theorem put_other{a:BH}{t:Nat}{d:Option BM}{v:Ar}(h:d≠some t):(a.put d v).tmps.getD t undef=a.tmps.getD t undef:=by
 cases hd':d with
 |none=>rfl
 |some d'=>
  simp_all[B1]
theorem slot_fx{F:Nat->Bool}{i:Nat}{o:A3}{t:Nat}(hX:Fx P ops fl ts fa n envF fx)(htmp:tmpOk ops=true)(ho:ops[i]? =some o)(hi:memN fl i=false)(hcl:Closed ops F)(hedge: ∀e∈o.after,Ao .any e=true->F e.on=true)
 (ht:t∈names ops o) {f:Nat} {x:AV} (hm:(f,t,x)∈fx):F f=true:=by
 obtain⟨h1,p,hf,_,_⟩:=hX.ok f t x hm;have hne:f≠i:=fun e=>by grind
 rcases AD f i with hlt|hge
 ·exact QdS hcl ho hedge ((Qee htmp ho hf.op ht hf.dst hne).1 hlt) hne
 ·exact absurd ht (hf.before i o (by omega) ho)
theorem PhF.step{F:Nat->Bool}{off i:Nat}{l:List A3}{s:St}{st:Nat->St}{xv:Nat->AV}{nb:Nat->Option Blk}{E:Nat->Bool}{a:BH}{w:AT}{o:A3}{K:BH->AT->Prop}{Q:Au->BH->AT->Prop}(hB:Gd B)
 (hX:Fx P ops fl ts fa n envF fx) (htmp:tmpOk ops=true) (hgd: ∀(i:Nat) (o:A3) (j:Nat) (want:Bool),ops[i]? =some o->o.guard=some (j,want)-> ∀p,ops[j]? =some p-> ∀d,p.dst=some d->AC d s.n=true)
 (hch:Chain P ops.toArray l st xv nb) (h0:st 0=s) (hlget: ∀(j:Nat) o,l[j]? =some o->(o=dum/\memN fl (off+j)=true)∨(ops[off+j]? =some o/\memN fl (off+j)=false)) (hqs: ∀t,QuietO ops fl ts off t->look s.env t=look envF t)
 (hEF: ∀(j:Nat),memN fl (off+j)=false->E j=F (off+j))
 (hil:i<l.length) (ho:ops[off+i]? =some o) (hio:memN fl (off+i)=false) (hol:l[i]? =some o)
 (hcl:Closed ops F) (hedge: ∀e∈o.after,Ao .any e=true->F e.on=true) (hFi:F (off+i)=false) (hlow: ∀k,opn fa F k=true->k<s.H.length) (h:PhF fa fx B F l s xv nb E a w)
 (hK: ∀a' w',PhF fa fx B F l s xv nb (fun j=>E j||decide (j=i)) a' w'->K a' w'):wpOp P ops.toArray Q (off+i) K a w:=by
 obtain⟨σ,S,h1,h2,h3,h6,h4⟩:=h;have hn:=hch.n;have hheap:=hch.heap;have ho2:ops.toArray[off+i]? =some o:=by grind
 obtain⟨⟨hdst,hstep⟩,hnext⟩:=hch.step i o hol;have hHi:(st i).H=s.H++(Az i).flatMap fun j=>(nb j).toList:=by grind
 have hHlen:(st i).H.length=(HE s.H nb i E).length:=by grind [HE_none]
 have hpos:opn fa F (st i).H.length=false:=by
  grind
 have hEi:E i=false:=by grind
 have hld: ∀(j:Nat) p t,l[j]? =some p->p.dst=some t->ops[off+j]? =some p/\memN fl (off+j)=false:=fun j p t hp hd=>by
  rcases hlget j p hp with⟨rfl,_⟩|h
  ·cases hd
  ·exact h
 have hqfx: ∀f t x,(f,t,x)∈fx->Quiet ops fl t:=fun f t x hm j p hp hj e=>by
  obtain⟨h5,p',hf,_⟩:=hX.ok f t x hm;exact hf.sole j p (fun e=>by subst e;rw[hj] at h5;cases h5) hp e
 have hslot: ∀t,t∈names ops o->Rel σ S (maskP (opn fa F) (HE s.H nb l.length E)) w (look (st i).env t) (a.tmps.getD t undef):=by
  intro t ht
  by_cases hfx: ∃f x,(f,t,x)∈fx
  ·obtain⟨f,x,hm⟩:=hfx
   have hFf:=slot_fx hX htmp ho hio hcl hedge ht hm;obtain⟨_,p,hf,hlk,_⟩:=hX.ok f t x hm
   have:look (st i).env t=x:=by
    rcases hch.slot i (by omega) t with⟨j,p',g1,g2,g3,g4,g5⟩|⟨g1,g2⟩
    ·obtain⟨g6,g7⟩:=hld j p' t g2 g3
     exact absurd g3 (hqfx f t x hm _ _ g6 g7)
    ·rw[g2,h0,hqs t (.of (hqfx f t x hm)),hlk]
   grind
  have hnf: ∀f x,(f,t,x)∉fx:=fun f x hm=>hfx ⟨f,x,hm⟩
  rcases hch.slot i (by omega) t with⟨j,p,g1,g2,g3,g4,g5⟩|⟨g1,g2⟩
  ·rw[g5]
   obtain⟨g7,g8⟩:=hld j p t g2 g3;have hEj:F (off+j)=true:=QdS hcl ho hedge ((Qee htmp ho g7 ht g3 (by omega)).1 (by omega)) (by omega);rw[<-hEF j g8] at hEj;rcases h4 t hnf with⟨i',o',k1,k2,k3,k4,k5⟩|⟨k1,_⟩
   ·obtain⟨k7,k8⟩:=hld i' o' t k2 k3
    have hne:i'≠i:=fun e=>by grind
    have hlt:i'<i:=by
     rcases AD i' i with h|h
     ·exact h
     ·rw[hEF i' k8] at k1
      have:=Qik hcl k1 ((Qee htmp ho k7 ht k3 (by omega)).2 (by omega))
      grind
    grind
   grind
  ·rw[g2,h0]
   rcases h4 t hnf with⟨i',o',k1,k2,k3,_⟩|⟨_,k5⟩
   ·obtain⟨k7,k8⟩:=hld i' o' t k2 k3
    have hne:i'≠i:=fun e=>by grind
    exfalso;rcases AD i' i with h|h
    ·grind
    ·rw[hEF i' k8] at k1
     have:=Qik hcl k1 ((Qee htmp ho k7 ht k3 (by omega)).2 (by omega))
     grind
   omega
 have fin: ∀v w' σ' S',Sm B σ' S' (setNb (maskP (opn fa F) (HE s.H nb l.length E)) (st i).H.length (nb i)) w'->Rel σ' S' (setNb (maskP (opn fa F) (HE s.H nb l.length E)) (st i).H.length (nb i)) w' (xv i) v->
  Ev σ S (maskP (opn fa F) (HE s.H nb l.length E)) w σ' S' (setNb (maskP (opn fa F) (HE s.H nb l.length E)) (st i).H.length (nb i)) w'->K (a.put o.dst v) w':=by
  intro v w' σ' S' hS hR hev
  have hset:setNb (maskP (opn fa F) (HE s.H nb l.length E)) (st i).H.length (nb i)=maskP (opn fa F) (HE s.H nb l.length (fun j=>E j||decide (j=i))):=by
   cases hnb:nb i with
   |none=>show maskP _ _=maskP _ _;rw[QpZ (nb:=nb) (E:=E) hnb]
   |some C=>show List.set _ _ _=_;rw[Qi6 hpos,hHlen,(QoO hil hEi hnb).2]
  rw[hset] at hS hR hev;refine hK _ _ ⟨σ',S',hS,?_,?_,fun f t x hm hF=>?_,fun t hnf=>?_⟩
  ·cases hd:o.dst<;>exact h2
  ·cases hd:o.dst
   ·exact h3
   grind [B1]
  ·rw[put_other fun e=>hqfx f t x hm _ _ ho hio e]
   exact(h6 f t x hm hF).mono hev
  ·by_cases hd:o.dst=some t
   ·have htn:t∈names ops o:=by simp[names,hd]
    refine .inl ⟨i,o,by simp,hol,hd,fun j o' hj hoj hdj=>?_,?_⟩
    ·rcases A9.1 hj with hj|hj
     ·rcases AD i j with hlt|hge
      ·obtain⟨k7,k8⟩:=hld j o' t hoj hdj
       rw[hEF j k8] at hj;have:=Qik hcl hj ((Qee htmp ho k7 htn hdj (by omega)).2 (by omega))
       grind
      omega
     grind
    ·rw[hd,put_same h3 ?_]
     ·exact hR
     ·rw[hd] at hdst
      have:=(hn i (by omega)).symm;rw[h0] at this;rw[this];simpa[dstOk] using hdst
   ·rw[put_other hd]
    rcases h4 t hnf with⟨i',o',k1,k2,k3,k4,k5⟩|⟨k1,k5⟩
    ·refine .inl ⟨i',o',by grind,k2,k3,fun j o'' hj hoj hdj=>?_,k5.mono hev⟩
     grind
    ·refine .inr ⟨fun j o' hj hoj=>?_,k5.mono hev⟩
     grind
 have hw: ∀b,awanted ops.toArray (st i).env o=some b->Av o (yielded ops.toArray a.tmps)=b:=by
  intro b hb;refine QhA (σ:=σ) (S:=S) (H:=maskP (opn fa F) (HE s.H nb l.length E)) (w:=w) hb fun j want d hg hd=>?_
  have hd':(ops[j]?).bind (·.dst)=some d:=by grind
  have hdn:d∈names ops o:=by
   grind [names]
  refine⟨?_,hslot d hdn⟩
  obtain⟨p,hp,hpd⟩: ∃p,ops[j]? =some p/\p.dst=some d:=by
   cases hp:ops[j]? with
   |none=>grind
   |some p=>grind
  have hgj:=hgd (off+i) o j want ho (by rw[hg]) p hp d hpd
  simp_all
 unfold wpOp;rw[ho2];simp only;rcases hstep with⟨hwf,hx,hnb⟩|⟨hwt,hloc⟩
 ·rw[if_neg (by grind)]
  have:=fin undef w σ S;rw[hnb,hx] at this;exact this h1 (.d _ _ (.v _)) (Ev.refl _ _ _ _)
 ·rw[if_pos (hw _ hwt)]
  refine .inl (hloc B σ S _ a w hB h1 (fun u hu=>Qeo fun t ht=>hslot t ?_) ?_ (fun C hC=>?_) K _ fin)
  ·subst ht
   unfold names;refine A8 _ (A7 _ ?_);exact Ai.2 ⟨.tmp t,Ae.2 hu,rfl⟩
  ·grind [QmG,Quq]
  ·rw[QdJ,hHlen,(QoO hil hEi hC).1];simp
theorem PhF.of{F:Nat->Bool}{l:List A3}{s:St}{xv:Nat->AV}{nb:Nat->Option Blk}{E:Nat->Bool}{a:BH}{w:AT}{M:List Blk}(hM:M=maskP (opn fa F) (HE s.H nb l.length E))
 (h: ∃σ S,Sm B σ S M w/\a.defers=[]/\a.tmps.size=s.n/\(∀f t x,(f,t,x)∈fx->F f=true->Rel σ S M w x (a.tmps.getD t undef))/\ ∀t,(∀f x,(f,t,x)∉fx)->
 (∃i o,E i=true/\l[i]? =some o/\o.dst=some t/\(∀j o',E j=true->l[j]? =some o'->o'.dst=some t->j<=i)/\Rel σ S M w (xv i) (a.tmps.getD t undef))∨
 ((∀j o,E j=true->l[j]? =some o->o.dst≠some t)/\Rel σ S M w (look s.env t) (a.tmps.getD t undef))):PhF fa fx B F l s xv nb E a w:=by subst hM;exact h
theorem PhF.float{F:Nat->Bool}{off f:Nat}{l:List A3}{s:St}{xv:Nat->AV}{nb:Nat->Option Blk}{E:Nat->Bool}{a:BH}{w:AT}{o:A3}{K:BH->AT->Prop}{Q:Au->BH->AT->Prop}(hB:Gd B)
 (hX:Fx P ops fl ts fa n envF fx) (htmp:tmpOk ops=true) (hns:s.n=n)
 (hlget: ∀(j:Nat) o,l[j]? =some o->(o=dum/\memN fl (off+j)=true)∨(ops[off+j]? =some o/\memN fl (off+j)=false)) (hqs: ∀t,QuietO ops fl ts off t->look s.env t=look envF t)
 (hqo: ∀o,ops[f]? =some o-> ∀q,AL q∈o.op.operands->QuietO ops fl ts off q) (ho:ops[f]? =some o) (hff:memN fl f=true) (hka:kof fa f=none) (hkps:KPs fa.kp s.H) (hkd: ∀q∈fa.l,∀p∈fa.kp,q.2.1≠p.1)
 (hcl:Closed ops F) (hedge: ∀e∈o.after,Ao .any e=true->F e.on=true) (h:PhF fa fx B F l s xv nb E a w)
 (hK: ∀a' w',PhF fa fx B (fun j=>F j||decide (j=f)) l s xv nb E a' w'->K a' w'):wpOp P ops.toArray Q f K a w:=by
 obtain⟨σ,S,h1,h2,h3,h6,h4⟩:=h;obtain⟨t,x,hm⟩:=hX.all f hff;obtain⟨_,o',hf,hlk,hloc⟩:=hX.ok f t x hm;unfold FLoc at hloc;rw[hka] at hloc;have hmk:=Ql2 (F:=F) (Qtu hka);have:=hf.op;rw[ho] at this;obtain rfl:=A0 this;have ho2:ops.toArray[f]? =some o:=by simpa using ho
 unfold wpOp;rw[ho2];simp only;rw[if_pos (by simp[Av,hf.guard])];refine .inl (hloc (maskP (opn fa F) (HE s.H nb l.length E)) (hkps.mask hkd) B σ S _ a w hB h1 (fun u hu=>Qeo fun q hq=>?_) (fun k C hC=> .inl hC) (fun C hC=>by cases hC) K _ fun v w' σ' S' hS hR hev=>hK _ _ (PhF.of (M:=maskP (opn fa F) (HE s.H nb l.length E)) (by rw[hmk]) ⟨σ',S',hS,?_,?_,fun g u y hg hF=>?_,fun u hnf=>?_⟩))
 ·subst hq
  have hqq:=hqo o ho q hu;have hqn:q∈names ops o:=A8 _ (A7 _ (Qhv hu))
  by_cases hfx: ∃g y,(g,q,y)∈fx
  ·obtain⟨g,y,hg⟩:=hfx
   obtain⟨hg1,p,hgf,hglk,_⟩:=hX.ok g q y hg;rw[hglk]
   have hne:g≠f:=fun e=>by
    subst e;have:=hgf.op;rw[ho] at this;obtain rfl:=A0 this;have hd:=hgf.dst;exact hgf.own hu
   refine h6 g q y hg ?_;rcases AD g f with hlt|hge
   ·exact QdS hcl ho hedge ((Qee htmp ho hgf.op hqn hgf.dst hne).1 hlt) hne
   ·exact absurd hqn (hgf.before f o (by omega) ho)
  ·rw[<-hqs q hqq]
   rcases h4 q (fun g y hg=>hfx ⟨g,y,hg⟩) with⟨i',o',k1,k2,k3,k4,k5⟩|⟨_,k5⟩
   ·rcases hlget i' o' k2 with⟨rfl,_⟩|⟨g1,g2⟩
    ·cases k3
    ·have:=hqq _ _ g1 g2 k3;omega
   ·exact k5
 ·cases hd:o.dst<;>exact h2
 ·cases hd:o.dst
  ·exact h3
  ·simp only[B1,AW];exact h3
 ·by_cases hgf:g=f
  ·subst hgf
   obtain⟨_,p,hgf,hglk,_⟩:=hX.ok g u y hg;have:=hgf.op;rw[ho] at this;obtain rfl:=A0 this;have hu:=hgf.dst;rw[hf.dst] at hu;obtain rfl:=A0 hu;have hxy:x=y:=hlk.symm.trans hglk;subst hxy;rw[hf.dst,put_same h3 (by rw[hns];exact hf.lt)];exact hR
  ·have hFg:F g=true:=by
    rcases A9.1 hF with hF|hF
    ·exact hF
    ·exact absurd (of_decide_eq_true hF) hgf
   obtain⟨_,p,hgs,_⟩:=hX.ok g u y hg;rw[put_other fun e=>hgs.sole f o (fun e=>hgf e.symm) ho e];exact(h6 g u y hg hFg).mono hev
 ·have hd:o.dst≠some u:=fun e=>by
   rw[hf.dst] at e;obtain rfl:=A0 e;exact hnf f x hm
  rw[put_other hd];rcases h4 u hnf with⟨i',o',k1,k2,k3,k4,k5⟩|⟨k1,k5⟩
  ·exact .inl ⟨i',o',k1,k2,k3,k4,k5.mono hev⟩
  ·exact .inr ⟨k1,k5.mono hev⟩
theorem PhF.alloc{F:Nat->Bool}{off f κ:Nat}{C:Blk}{l:List A3}{s:St}{xv:Nat->AV}{nb:Nat->Option Blk}{E:Nat->Bool}{a:BH}{w:AT}{o:A3}{K:BH->AT->Prop}{Q:Au->BH->AT->Prop}(hB:Gd B)
 (hX:Fx P ops fl ts fa n envF fx) (htmp:tmpOk ops=true) (hns:s.n=n)
 (hlget: ∀(j:Nat) o,l[j]? =some o->(o=dum/\memN fl (off+j)=true)∨(ops[off+j]? =some o/\memN fl (off+j)=false)) (hqs: ∀t,QuietO ops fl ts off t->look s.env t=look envF t)
 (hqo: ∀o,ops[f]? =some o-> ∀q,AL q∈o.op.operands->QuietO ops fl ts off q) (ho:ops[f]? =some o) (hff:memN fl f=true) (hka:kof fa f=some (κ,C)) (huq: ∀q∈fa.l,q.1=f↔q.2.1=κ) (hFf:F f=false) (hct:s.H[κ]? =some C)
 (hcl:Closed ops F) (hedge: ∀e∈o.after,Ao .any e=true->F e.on=true) (h:PhF fa fx B F l s xv nb E a w)
 (hK: ∀a' w',PhF fa fx B (fun j=>F j||decide (j=f)) l s xv nb E a' w'->K a' w'):wpOp P ops.toArray Q f K a w:=by
 obtain⟨σ,S,h1,h2,h3,h6,h4⟩:=h;obtain⟨t,x,hm⟩:=hX.all f hff;obtain⟨_,o',hf,hlk,hloc⟩:=hX.ok f t x hm;unfold FLoc at hloc;rw[hka] at hloc;have hkl:κ<s.H.length:=(A1.1 hct).1;have hL:(HE s.H nb l.length E)[κ]? =some C:=by grind [HE]
 have hon:opn fa F κ=true:=Qeg.2 ⟨_,Qky hka,rfl,hFf⟩
 have hlen:((maskP (opn fa F) (HE s.H nb l.length E)).take κ).length=κ:=by
  grind [QfQ]
 have hfill:(maskP (opn fa F) (HE s.H nb l.length E)).set κ C=maskP (opn fa fun j=>F j||decide (j=f)) (HE s.H nb l.length E):=AK fun k=>by
  grind [QdJ,QfQ,Qeg]
 have:=hf.op;rw[ho] at this;obtain rfl:=A0 this;have ho2:ops.toArray[f]? =some o:=by simpa using ho
 unfold wpOp;rw[ho2];simp only;rw[if_pos (by simp[Av,hf.guard])];refine .inl (hloc ((maskP (opn fa F) (HE s.H nb l.length E)).take κ) hlen B σ S _ a w hB h1 (fun u hu=>Qeo fun q hq=>?_) (fun k C hC=> .inl (by grind)) (fun C hC=>by grind [QdJ]) K _ fun v w' σ' S' hS hR hev=>hK _ _ (PhF.of (M:=setNb (maskP (opn fa F) (HE s.H nb l.length E)) ((maskP (opn fa F) (HE s.H nb l.length E)).take κ).length (some C)) (by rw[hlen];exact hfill) ⟨σ',S',hS,?_,?_,fun g u y hg hF=>?_,fun u hnf=>?_⟩))
 ·subst hq
  have hqq:=hqo o ho q hu;have hqn:q∈names ops o:=A8 _ (A7 _ (Qhv hu))
  by_cases hfx: ∃g y,(g,q,y)∈fx
  ·obtain⟨g,y,hg⟩:=hfx
   obtain⟨hg1,p,hgf,hglk,_⟩:=hX.ok g q y hg;rw[hglk]
   have hne:g≠f:=fun e=>by
    subst e;have:=hgf.op;rw[ho] at this;obtain rfl:=A0 this;have hd:=hgf.dst;exact hgf.own hu
   refine h6 g q y hg ?_;rcases AD g f with hlt|hge
   ·exact QdS hcl ho hedge ((Qee htmp ho hgf.op hqn hgf.dst hne).1 hlt) hne
   ·exact absurd hqn (hgf.before f o (by omega) ho)
  ·rw[<-hqs q hqq]
   rcases h4 q (fun g y hg=>hfx ⟨g,y,hg⟩) with⟨i',o',k1,k2,k3,k4,k5⟩|⟨_,k5⟩
   ·rcases hlget i' o' k2 with⟨rfl,_⟩|⟨g1,g2⟩
    ·cases k3
    ·have:=hqq _ _ g1 g2 k3;omega
   ·exact k5
 ·cases hd:o.dst<;>exact h2
 ·cases hd:o.dst
  ·exact h3
  ·simp only[B1,AW];exact h3
 ·by_cases hgf:g=f
  ·subst hgf
   obtain⟨_,p,hgf,hglk,_⟩:=hX.ok g u y hg;have:=hgf.op;rw[ho] at this;obtain rfl:=A0 this;have hu:=hgf.dst;rw[hf.dst] at hu;obtain rfl:=A0 hu;have hxy:x=y:=hlk.symm.trans hglk;subst hxy;rw[hf.dst,put_same h3 (by rw[hns];exact hf.lt)];exact hR
  ·have hFg:F g=true:=by
    rcases A9.1 hF with hF|hF
    ·exact hF
    ·exact absurd (of_decide_eq_true hF) hgf
   obtain⟨_,p,hgs,_⟩:=hX.ok g u y hg;rw[put_other fun e=>hgs.sole f o (fun e=>hgf e.symm) ho e];exact(h6 g u y hg hFg).mono hev
 ·have hd:o.dst≠some u:=fun e=>by
   rw[hf.dst] at e;obtain rfl:=A0 e;exact hnf f x hm
  rw[put_other hd];rcases h4 u hnf with⟨i',o',k1,k2,k3,k4,k5⟩|⟨k1,k5⟩
  ·exact .inl ⟨i',o',k1,k2,k3,k4,k5.mono hev⟩
  ·exact .inr ⟨k1,k5.mono hev⟩
def planF_chain{Q:St->Prop}: ∀(ms:List Nat) (off:Nat) (s:St),PlanF P ops fl fa ts Q ms off s->
 ∃st xv nb,Chain P ops.toArray (segE ops fl off ms) st xv nb/\st 0=s/\PlanEndF P ops fl fa ts Q off ms (st (segE ops fl off ms).length)/\ ∀k,memN fl (off+k)=true->nb k=none
 |[],off,s,h=>ADraw.chainF fl ops.length (ops.drop off) off s h.2
 |m::ms,off,s,⟨_,h1,h2,o,ho,h⟩=>by
  obtain⟨st,xv,nb,hc,h0,hK,hn⟩:=ADraw.chainF fl m (ops.drop off) off s h;exact⟨st,xv,nb,hc,h0,⟨A4 h1,h2,o,ho,hK⟩,hn⟩
theorem segE_get{off:Nat}{ms:List Nat}{j:Nat}{o:A3}(h:(segE ops fl off ms)[j]? =some o):(o=dum/\memN fl (off+j)=true)∨(ops[off+j]? =some o/\memN fl (off+j)=false):=by
 cases ms with
 |nil=>
  rcases Qkk fl _ _ _ _ _ h with⟨h1,h2⟩|⟨h1,h2⟩
  ·grind
  grind
 |cons m ms=>
  rcases Qkk fl _ _ _ _ _ h with⟨h1,h2⟩|⟨h1,h2⟩
  ·grind
  grind
end
theorem Qks: ∀{h:Nat} {Cs:List (Nat×Blk)},∀q∈mkFa h Cs,∃i,Cs[i]? =some (q.1,q.2.2)/\q.2.1=h+i
 |_,[],q,hq=>by simp[mkFa] at hq
 |h,(f,C)::r,q,hq=>by
  rcases AU.1 hq with rfl|hq
  ·grind
  ·obtain⟨i,h1,h2⟩:=Qks q hq
   exact⟨i+1,by grind,by omega⟩
theorem QnR: ∀{h:Nat} {Cs:List (Nat×Blk)} {i:Nat},i<Cs.length-> ∃q∈mkFa h Cs,q.2.1=h+i
 |_,[],i,hi=>by simp at hi
 |h,(f,C)::r,0,_=>⟨(f,h,C),AY,rfl⟩
 |h,(f,C)::r,i+1,hi=>by
  obtain⟨q,h1,h2⟩:=QnR (h:=h+1) (Cs:=r) (i:=i) (by grind);exact⟨q,AM _ h1,by omega⟩
theorem QqW(H:List Blk)(Cs kp:List (Nat×Blk)):maskP (opn ⟨mkFa H.length Cs,kp⟩ fun _=>false) (H++Cs.map (·.2))=H++Ab Cs.length Blk.none:=AK fun k=>by
 rw[QdJ]
 by_cases hk:k<H.length
 ·have:opn ⟨mkFa H.length Cs,kp⟩ (fun _=>false) k=false:=by
   cases h:opn ⟨mkFa H.length Cs,kp⟩ (fun _=>false) k with
   |false=>rfl
   |true=>
    obtain⟨q,h1,h2,_⟩:=Qeg.1 h
    grind [Qks]
  grind
 ·rw[AN (by omega),AN (by omega),Al,List.getElem?_replicate]
  by_cases hl:k -H.length<Cs.length
  ·obtain⟨q,h1,h2⟩:=QnR (h:=H.length) hl
   have:opn ⟨mkFa H.length Cs,kp⟩ (fun _=>false) k=true:=Qeg.2 ⟨q,h1,by omega,rfl⟩
   grind
  grind
theorem Qqz{B:Bs}{σ:Sg}{S:Nat->Prop}{H:List Blk}{w:AT}(n:Nat)(h:Sm B σ S H w): ∃σ',Sm B σ' S (H++Ab n Blk.none) w/\Ev σ S H w σ' S (H++Ab n Blk.none) w:=by
 induction n with
 |zero=>grind [Ev.refl]
 |succ n ih=>
  obtain⟨σ',h1,h2⟩:=ih;obtain⟨h3,h4⟩:=h1.keepPlace;rw[List.append_assoc,<-List.replicate_succ'] at h3 h4;exact⟨_,h3,h2.trans h4⟩
theorem QoC{m:Nat}{ms:List Nat}(h:ascN (m::ms)=true):(∀g∈ms,m<g)/\ascN ms=true:=by
 simp only[ascN,Ad,AB] at h
 simp_all
def PlanF.kps{P:A2}{ops:List A3}{fl:List Nat}{fa:Fas}{ts:Tl}{Q:St->Prop}: ∀{ms:List Nat} {off:Nat} {s:St},PlanF P ops fl fa ts Q ms off s->pend ops fl off=true->KPs fa.kp s.H
 |[],_,_,h=>h.1
 |_::_,_,_,h=>h.1
theorem awp_drawF0(fl ms:List Nat)(Cs kp:List (Nat×Blk))(ts:Tl){P:A2}{id:Nat}{ops:List A3}{Q:Au->St->Prop}{s:St}(hm:P.follows .mixedOrders=true)(hok:drawOk ops.toArray=true)(hgok:ops.all (gdOk ops.toArray s.n)=true)
 (hfo:QgZ ops fl (ts.map (·.1)) s.n=true) (hg0: ∀t∈ts,(∃o:A3,ops[t.1]? =some o/\o.dst=some t.2.1)/\memN fl t.1=false/\t.1∈ms/\ascN ms=true) (hgv: ∀t∈ts,look (ts.map (·.2)++s.env) t.2.1=t.2.2) (hcs:Cs.all (fun q=>memN fl q.1)=true) (hnd:(Cs.map (·.1)).Nodup) (hkp:KPs kp s.H) (h:Flts P ops ⟨mkFa s.H.length Cs,kp⟩ (fun env=>PlanF P ops fl ⟨mkFa s.H.length Cs,kp⟩ ts (Q .normal) ms 0 ⟨s.n,ungs ts env,s.H++Cs.map (·.2)⟩) fl (ts.map (·.2)++s.env)):AWP P (.region id ops.toArray true) Q s:=by
 intro B hB σ S a w hA;have hfa:=Qks (h:=s.H.length) (Cs:=Cs);have emask:=QqW s.H Cs kp;obtain⟨fa,hfe⟩: ∃fa:Fas,fa=⟨mkFa s.H.length Cs,kp⟩:=⟨_,rfl⟩;rw[<-hfe] at h emask;rw[show mkFa s.H.length Cs=fa.l by rw[hfe]] at hfa
 have hkd: ∀q∈fa.l,∀p∈fa.kp,q.2.1≠p.1:=fun q hq p hp=>by
  obtain⟨i,_,h2⟩:=hfa q hq;have:=(A1.1 (hkp p (by grind))).1;omega
 clear hfe
 have hfm: ∀q∈fa.l,memN fl q.1=true:=fun q hq=>by
  grind
 have hct0: ∀q∈fa.l,(s.H++Cs.map (·.2))[q.2.1]? =some q.2.2:=fun q hq=>by
  grind
 have huq: ∀q∈fa.l,∀q'∈fa.l,(q'.1=q.1↔q'.2.1=q.2.1):=fun q hq q' hq'=>by
  obtain⟨i,h1,h2⟩:=hfa q hq;obtain⟨j,h3,h4⟩:=hfa q' hq';have g1:(Cs.map (·.1))[i]? =some q.1:=by grind
  have g2:(Cs.map (·.1))[j]? =some q'.1:=by grind
  constructor
  ·intro e
   rw[e,<-g1] at g2;have:=(List.getElem?_inj (A1.1 g1).1 hnd).1 g2.symm;omega
  grind
 have hno: ∀(E:Nat->Bool) (i:Nat),memN fl i=false->opn fa (fun j=>E j||decide (j=i))=opn fa E:=fun E i hi=>Ql2 fun q hq e=>by
  grind
 obtain⟨hback,htmp⟩:backB ops.toArray=true/\tmpOk ops=true:=by simpa[drawOk] using hok
 have hgd: ∀(n:Nat),n=s.n-> ∀(i:Nat) (o:A3) (j:Nat) (want:Bool),ops[i]? =some o->o.guard=some (j,want)-> ∀p,ops[j]? =some p-> ∀d,p.dst=some d->AC d n=true:=fun n hn i o j want ho hg p hp d hd=>by
  have h1:=AB.1 hgok o (As ho);have:=QeN h1 j want d hg (by grind)
  simp_all
 obtain⟨⟨hasc,hfl⟩,hflb⟩:(ascN fl=true/\ ∀f∈fl,float1 ops (ts.map (·.1)++fl) s.n f=true)/\ ∀f∈fl,float1 ops ((ts.map (·.1)).filter (fun m=>AC m f)++fl) s.n f=true:=by
  unfold QgZ at hfo
  grind
 obtain⟨envF,fx,hplan,hfx,hall,hq⟩:=flts_build (fl:=ts.map (·.1)++fl) (n:=s.n) fl (ts.map (·.2)++s.env) h hfl hasc
 have hgq: ∀t∈ts,look envF t.2.1=t.2.2:=fun t ht=>by
  rw[hq t.2.1 fun f hf o ho e=>?_]
  ·grind
  ·obtain⟨p',u,hfs⟩:=Qes (hfl f hf)
   have:=hfs.op;rw[ho] at this;obtain rfl:=A0 this;have hu:=hfs.dst;rw[e] at hu;obtain rfl:=A0 hu;obtain⟨⟨o0,h1,h2⟩,h3,_⟩:=hg0 t ht;exact hfs.sole t.1 o0 (fun e=>by rw[e,QdH.2 hf] at h3;cases h3) h1 h2
 have hX:Fx P ops fl ts fa s.n envF fx:=⟨fun f t x hm=>by obtain⟨h1,h2⟩:=hfx f t x hm;exact⟨QdH.2 h1,h2⟩,fun f hf=>hall f (QdH.1 hf)⟩
 have hqfx: ∀f t x,(f,t,x)∈fx->Quiet ops fl t:=fun f t x hm j p hp hj e=>by
  obtain⟨h5,p',hf,_⟩:=hX.ok f t x hm;exact hf.sole j p (fun e=>by subst e;rw[hj] at h5;cases h5) hp e
 refine Qke hm hback (fun E a w=> ∃ms off s1 st xv nb,s1.n=s.n/\Chain P ops.toArray (segE ops fl off ms) st xv nb/\st 0=s1/\PlanEndF P ops fl fa ts (Q .normal) off ms (st (segE ops fl off ms).length)/\(∀k,memN fl (off+k)=true->nb k=none)/\
  ((∀t,QuietO ops fl ts off t->look s1.env t=look envF t)/\ ∀t∈ts,t.1<off∨(t.1∈ms/\ascN ms=true))/\(∀q∈fa.l,E q.1=false->s1.H[q.2.1]? =some q.2.2)/\((∃f∈fl,E f=false)->KPs fa.kp s1.H)/\
  (∀j,j<off->memN fl j=false->E j=true)/\(∀j,off+(segE ops fl off ms).length<=j->memN fl j=false->E j=false)/\PhF fa fx B E (segE ops fl off ms) s1 xv nb (fun j=>E (off+j)||memN fl (off+j)) a w) ?h0 ?hop ?hend
 case h0=>
  obtain⟨st,xv,nb,hc,h0,hK,hn⟩:=planF_chain ms 0 _ hplan;obtain⟨h3,h4⟩:=hA.sm.sameHeap (w':={w with drawn:=w.drawn+1}) rfl rfl rfl rfl;obtain⟨σ',p1,p2⟩:=Qqz Cs.length h3;rw[<-emask] at p1 p2;have hlt0: ∀q∈fa.l,q.2.1<(s.H++Cs.map (·.2)).length:=fun q hq=>(A1.1 (hct0 q hq)).1
  refine⟨ms,0,⟨s.n,ungs ts envF,s.H++Cs.map (·.2)⟩,st,xv,nb,rfl,hc,h0,hK,hn,⟨fun t ht=>?_,fun t ht=> .inr (hg0 t ht).2.2⟩,fun q hq _=>hct0 q hq,fun _=>hplan.kps rfl,fun j hj=>by omega,fun j _ _=>rfl,PhF.start (σ:=σ') (S:=S) ⟨p1,hA.defers,hA.size,fun f t x _ hF=>absurd hF (by simp),fun t ht=>?_⟩ (fun k hk=>by obtain⟨q,h1,h2,_⟩:=Qeg.1 hk;grind) fun j o ho hE=>?_⟩
  ·show look (ungs ts envF) t=look envF t
   by_cases htq: ∃r∈ts,r.2.1=t
   ·obtain⟨r,hr,rfl⟩:=htq
    obtain⟨⟨o0,h1,h2⟩,h3,_⟩:=hg0 r hr;have:=(ht _ _ h1 h3 h2).2;omega
   ·exact Qqj fun r hr e=>htq ⟨r,hr,e⟩
  ·show Rel _ _ _ _ (look (ungs ts envF) t) _
   by_cases htq: ∃r∈ts,r.2.1=t
   ·rw[Qqi htq];exact .d _ _ (.any _)
   have htq': ∀r∈ts,r.2.1≠t:=fun r hr e=>htq ⟨r,hr,e⟩
   rw[Qqj htq']
   have:look envF t=look (ts.map (·.2)++s.env) t:=hq t fun f hf o ho e=>by
    obtain⟨u,x,hm⟩:=hall f hf;obtain⟨_,o',hfs,_⟩:=hfx f u x hm;have:=hfs.op;rw[ho] at this;obtain rfl:=A0 this;have hu:=hfs.dst
    grind
   rw[this,Qrb htq'];exact(hA.env t).mono (h4.trans p2)
  ·simp only[Bool.false_or] at hE
   rcases segE_get ho with⟨rfl,_⟩|⟨_,h2⟩
   ·exact⟨rfl,hn j hE⟩
   grind
 case hop=>
  intro E i o ho a w hJ hEi hnone hcl hedge K hKK;have ho':ops[i]? =some o:=by grind
  have hilo:i<ops.length:=(A1.1 ho').1;have hcl':Closed ops E:=fun j o' hj hoj=>hcl j o' hj (by grind)
  obtain⟨ms,off,s1,st,xv,nb,hn1,hc,h0,hK,hnn,hqs,hct,hlt,hlo,hhi,hPh⟩:=hJ;have hlow: ∀k,opn fa E k=true->k<s1.H.length:=fun k hk=>by obtain⟨q,h1,h2,h3⟩:=Qeg.1 hk;grind
  have hltm: ∀i,(∃f∈fl,(E f||decide (f=i))=false)->KPs fa.kp s1.H:=fun i ⟨f,h1,h2⟩=>hlt ⟨f,h1,(AO.1 h2).1⟩
  have hct': ∀i,∀q∈fa.l,(E q.1||decide (q.1=i))=false->s1.H[q.2.1]? =some q.2.2:=fun i q hq he=>hct q hq (AO.1 he).1
  have hmi: ∀t∈ts,memN fl t.1=false->E t.1=true->t.1<off:=fun t ht hm hE=>by
   rcases hqs.2 t ht with h|⟨hmem,hasc⟩
   ·exact h
   ·exfalso
    cases ms with
    |nil=>cases hmem
    |cons m ms'=>
     have hmm:m<=t.1:=by
      rcases AU.1 hmem with e|e
      ·omega
      ·have:=(QoC hasc).1 _ e;omega
     have hlen:=Qgf fl m (ops.drop off) off;have h1:off<=m:=hK.1
     have h2:m<ops.length:=by
      grind
     simp only[AQ] at hlen;have:=hhi t.1 (by show off+(segD fl m off (ops.drop off)).length<=t.1;omega) hm
     grind
  cases hfi:memN fl i with
  |true=>
   have hqo: ∀o,ops[i]? =some o-> ∀q,AL q∈o.op.operands->QuietO ops fl ts off q:=fun o2 ho2 q hq2 j p hp hj hd=>by
    obtain⟨o3,t3,hf3⟩:=Qes (hfl i (QdH.1 hfi));have:=hf3.op;rw[ho2] at this;obtain rfl:=A0 this
    obtain⟨g,hg,rfl⟩: ∃t∈ts,j=t.1:=by
     refine Decidable.byContradiction fun hne=>hf3.quiet q hq2 j p hp ?_ hd
     cases hb:memN (ts.map (·.1)++fl) j with
     |false=>rfl
     |true=>
      rcases B6.1 (QdH.1 hb) with h|h
      ·grind
      ·rw[QdH.2 h] at hj;cases hj
    have hji:g.1<i:=by
     obtain⟨o4,t4,hf4⟩:=Qes (hflb i (QdH.1 hfi));have:=hf4.op;rw[ho2] at this;obtain rfl:=A0 this;cases hb:memN ((ts.map (·.1)).filter (fun m=>AC m i)++fl) g.1 with
     |false=>exact absurd hd (hf4.quiet q hq2 g.1 p hp hb)
     |true=>
      rcases B6.1 (QdH.1 hb) with h|h
      ·exact A4 (B7.1 h).2
      ·rw[QdH.2 h] at hj;cases hj
    rw[ho'] at ho2;obtain rfl:=A0 ho2;have hqn:q∈names ops o:=A8 _ (A7 _ (Qhv hq2));have hE:=QdS hcl' ho' hedge ((Qee htmp ho' hp hqn hd (by omega)).1 hji) (by omega)
    grind
   cases hka:kof fa i with
   |none=>
    refine PhF.float (off:=off) hB hX htmp hn1 (fun j o h=>segE_get h) hqs.1 hqo ho' hfi hka (hlt ⟨i,QdH.1 hfi,hEi⟩) hkd hcl' hedge hPh fun a' w' hP'=>hKK a' w' ⟨ms,off,s1,st,xv,nb,hn1,hc,h0,hK,hnn,hqs,hct' i,hltm i,fun j hj hm=>by show(E j||_)=true;rw[hlo j hj hm];rfl,fun j hj hm=>?_,?_⟩
    ·show(E j||_)=false
     rw[hhi j hj hm];exact decide_eq_false (fun e=>by subst e;rw[hfi] at hm;cases hm)
    ·have e:(fun j=>(E (off+j)||decide (off+j=i))||memN fl (off+j))=fun j=>E (off+j)||memN fl (off+j):=funext fun j=>by
      by_cases h:off+j=i
      ·rw[h,hfi];simp
      ·simp[h]
     show PhF fa fx B (fun j=>E j||decide (j=i)) (segE ops fl off ms) s1 xv nb (fun j=>(E (off+j)||decide (off+j=i))||memN fl (off+j)) a' w';rw[e];exact hP'
   |some kc=>
    obtain⟨κ,C⟩:=kc;refine PhF.alloc (off:=off) hB hX htmp hn1 (fun j o h=>segE_get h) hqs.1 hqo ho' hfi hka (huq _ (Qky hka)) hEi (hct _ (Qky hka) hEi) hcl' hedge hPh fun a' w' hP'=>hKK a' w' ⟨ms,off,s1,st,xv,nb,hn1,hc,h0,hK,hnn,hqs,hct' i,hltm i,fun j hj hm=>by show(E j||_)=true;rw[hlo j hj hm];rfl,fun j hj hm=>?_,?_⟩
    ·show(E j||_)=false
     rw[hhi j hj hm];exact decide_eq_false (fun e=>by subst e;rw[hfi] at hm;cases hm)
    ·have e:(fun j=>(E (off+j)||decide (off+j=i))||memN fl (off+j))=fun j=>E (off+j)||memN fl (off+j):=funext fun j=>by
      by_cases h:off+j=i
      ·rw[h,hfi];simp
      ·simp[h]
     show PhF fa fx B (fun j=>E j||decide (j=i)) (segE ops fl off ms) s1 xv nb (fun j=>(E (off+j)||decide (off+j=i))||memN fl (off+j)) a' w';rw[e];exact hP'
  |false=>
  have hoi:off<=i:=by
   grind
  obtain⟨k,rfl⟩: ∃k,i=off+k:=⟨i -off,by omega⟩
  by_cases hk:k<(segE ops fl off ms).length
  ·have hol:(segE ops fl off ms)[k]? =some o:=by
    rcases segE_get (AF hk) with⟨_,h2⟩|⟨h1,_⟩
    ·grind
    grind
   refine PhF.step (fl:=fl) (n:=s.n) (envF:=envF) hB hX htmp (hgd s1.n hn1) hc h0 (fun j o h=>segE_get h) hqs.1 (fun j h=>by simp[h]) hk ho' hfi hol hcl' hedge hEi hlow hPh fun a' w' hP'=>?_
   have e:(fun j=>(E (off+j)||decide (off+j=off+k))||memN fl (off+j))=fun j=>(E (off+j)||memN fl (off+j))||decide (j=k):=funext fun j=>by
    grind
   refine hKK a' w' ⟨ms,off,s1,st,xv,nb,hn1,hc,h0,hK,hnn,hqs,hct' _,hltm _,fun j hj hm=>by grind,fun j hj hm=>?_,?_⟩
   ·grind
   ·show PhF fa fx B (fun j=>E j||decide (j=off+k)) (segE ops fl off ms) s1 xv nb (fun j=>(E (off+j)||decide (off+j=off+k))||memN fl (off+j)) a' w'
    rw[e];obtain⟨σ1,S1,g1,g2,g3,g4,g5⟩:=hP';refine PhF.of (M:=maskP (opn fa E) _) (by grind) ⟨σ1,S1,g1,g2,g3,fun f t x hm hF=>g4 f t x hm ?_,g5⟩;rcases A9.1 hF with hF|hF
    ·exact hF
    ·have e1:=of_decide_eq_true hF
     have:=(hX.ok f t x hm).1
     grind
  ·cases ms with
   |nil=>
    have hlen:=Qgf fl ops.length (ops.drop off) off;simp only[segE,AQ] at hk hlen;omega
   |cons m ms=>
    obtain⟨hom,hbar,om,hom2,R,heff,hwt,hdst,hgdo,hplan⟩:=hK;obtain⟨hmf,hb1,hb2⟩:=Qjf hbar;have hmlt:m<ops.length:=(A1.1 hom2).1
    have hlen:(segE ops fl off (m::ms)).length=m -off:=by
     have:=Qgf fl m (ops.drop off) off;simp only[segE,AQ] at this⊢;omega
    have him:off+k=m:=by
     rcases AD m (off+k) with h|h
     ·have:=QdS hcl' ho' hedge (hb2 _ hilo h hfi) (by omega)
      grind
     ·omega
    rw[him] at ho' hEi ho hKK⊢;rw[hom2] at ho';obtain rfl:=A0 ho';have hall: ∀j,j<m->memN fl j=false->E j=true:=fun j hj hjf=>QdS hcl' hom2 hedge (hb1 j hj hjf) (by omega)
    obtain⟨σ1,S1,g1,g2,g3,g4,g5⟩:=PhF.done hc h0 hPh fun j hj=>by
     grind
    have hn2:(st (segE ops fl off (m::ms)).length).n=s.n:=by rw[hc.n _ (AA _),h0,hn1]
    have hqs2: ∀t,QuietO ops fl ts off t->look (st (segE ops fl off (m::ms)).length).env t=look envF t:=fun t ht=>by
     rcases hc.slot _ (AA _) t with⟨j,p,k1,k2,k3,k4,k5⟩|⟨k1,k2⟩
     ·rcases segE_get k2 with⟨rfl,_⟩|⟨k6,k7⟩
      ·cases k3
      ·have:=ht _ _ k6 k7 k3;omega
     grind
    have hslot: ∀t,t∈names ops om->Rel σ1 S1 (maskP (opn fa E) (st (segE ops fl off (m::ms)).length).H) w (look (st (segE ops fl off (m::ms)).length).env t) (a.tmps.getD t undef):=fun t ht=>by
     by_cases hfx: ∃f x,(f,t,x)∈fx
     ·obtain⟨f,x,hm⟩:=hfx
      have hFf:=slot_fx hX htmp hom2 hmf hcl' hedge ht hm;obtain⟨_,p,hf,hlk,_⟩:=hX.ok f t x hm;rw[hqs2 t (.of (hqfx f t x hm)),hlk]
      grind
     ·exact g5 t fun f x hm=>hfx ⟨f,x,hm⟩
    unfold wpOp;rw[ho];simp only;rw[if_pos ?hwant]
    case hwant=>
     refine QhA (σ:=σ1) (S:=S1) (H:=maskP (opn fa E) (st (segE ops fl off (m::ms)).length).H) (w:=w) hwt fun j want d hg hd=>⟨?_,hslot d ?_⟩
     ·rw[g3];exact QeN hgdo j want d hg hd
     ·unfold names
      grind
    have hpnd: ∀f∈fl,E f=false->(!((befs ops []).getD m 0).testBit f)=true:=fun f h1 h3=>by
     cases hb:((befs ops []).getD m 0).testBit f with
     |false=>rfl
     |true=>
      have:=QdS hcl' hom2 hedge hb (fun e=>by have:=QdH.2 h1;grind)
      grind
    have hkap: ∀k,opn fa E k=true->k∈kap ops fa m:=fun k hk=>by
     obtain⟨q,h1,h2,h3⟩:=Qeg.1 hk;refine List.mem_map.2 ⟨q,B7.2 ⟨h1,?_⟩,h2⟩;cases hb:((befs ops []).getD m 0).testBit q.1 with
     |false=>rfl
     |true=>
      have:=QdS hcl' hom2 hedge hb (fun e=>by grind)
      grind
    refine .inl (heff (opn fa E) hkap B σ1 S1 a w hB g1 (fun u hu=>Qeo fun t ht=>hslot t ?_) K _ fun x K' hxR' v w' σ' S' hS hR hev=>?_)
    ·subst ht
     unfold names;refine A8 _ (A7 _ ?_);exact Ai.2 ⟨.tmp t,Ae.2 hu,rfl⟩
    obtain⟨H',hxR,rfl,hKc⟩:=hxR';have hstl:(st (segE ops fl off (m::ms)).length).H=s1.H++(Az (segE ops fl off (m::ms)).length).flatMap fun j=>(nb j).toList:=by rw[hc.heap _ (AA _),h0]
    have hct2: ∀q∈fa.l,(E q.1||decide (q.1=m))=false->H'[q.2.1]? =some q.2.2:=fun q hq he=>by
     have he:=(AO.1 he).1;rw[hKc _ (Qeg.2 ⟨q,hq,rfl,he⟩),hstl,Ak (A1.1 (hct q hq he)).1]
     grind
    have hmk2:=hno E m hmf;obtain⟨st2,xv2,nb2,hc2,h02,hK2,hnn2⟩:=planF_chain ms (m+1) _ (hplan x H' hxR).2
    have hA2:SmF fa fx B (fun j=>E j||decide (j=m)) σ' S' ⟨(st (segE ops fl off (m::ms)).length).n,putE (st (segE ops fl off (m::ms)).length).env om.dst x,H'⟩ (a.put om.dst v) w':=by
     unfold SmF;rw[hmk2];refine⟨hS,?_,?_,fun f t y hm hF=>?_,fun t hnf=>?_⟩
     ·cases hd:om.dst<;>exact g2
     ·cases hd:om.dst
      ·exact g3
      ·simp only[B1,AW];exact g3
     ·have hEf:E f=true:=by
       rcases A9.1 hF with hF|hF
       ·exact hF
       ·have e1:=of_decide_eq_true hF
        have:=(hX.ok f t y hm).1
        grind
      rw[put_other fun e=>hqfx f t y hm _ _ hom2 hmf e];exact(g4 f t y hm hEf).mono hev
     ·show Rel _ _ _ _ (look (putE _ om.dst x) t) _
      by_cases hd:om.dst=some t
      ·rw[hd] at hdst⊢
       rw[put_same g3 (by simpa[dstOk] using hdst)];show Rel _ _ _ _ (look ((t,x)::_) t) _;rw[Qdw];exact hR
      ·rw[put_other hd]
       have:look (putE (st (segE ops fl off (m::ms)).length).env om.dst x) t=look (st (segE ops fl off (m::ms)).length).env t:=by
        cases hd':om.dst with
        |none=>rfl
        |some d=>exact Qd2 (fun e=>hd (by rw[hd',e])) _ _
       rw[this];exact(g5 t hnf).mono hev
    refine hKK _ _ ⟨ms,m+1,(⟨(st (segE ops fl off (m::ms)).length).n,putE (st (segE ops fl off (m::ms)).length).env om.dst x,H'⟩:St),st2,xv2,nb2,hn2,hc2,h02,hK2,hnn2,⟨fun t ht=>?_,fun g hg=>?_⟩,hct2,fun⟨f,hf1,hf2⟩=>(hplan x H' hxR).2.kps (List.any_eq_true.2 ⟨f,hf1,hpnd f hf1 (AO.1 hf2).1⟩),fun j hj hjf=>?_,fun j hj hjf=>?_,PhF.start hA2 (fun k hk=>by obtain⟨q,h1,h2,h3⟩:=Qeg.1 hk;grind) fun j o hj hE=>?_⟩
    ·show look (putE _ om.dst x) t=_
     by_cases hd':om.dst=some t
     ·obtain⟨⟨g,hg,hmm⟩,_⟩:=ht _ _ hom2 hmf hd'
      have hgs:=(hplan x H' hxR).1.get g hg hmm;obtain⟨⟨o0,h1,h2⟩,_⟩:=hg0 g hg
      grind
     ·have hto:QuietO ops fl ts off t:=fun j p hp hj hd=>by
       obtain⟨⟨g,hg,rfl⟩,h2⟩:=ht j p hp hj hd;refine⟨⟨g,hg,rfl⟩,?_⟩
       grind
      rw[<-hqs2 t hto];cases hd2:om.dst with
      |none=>rfl
      |some d=>exact Qd2 (fun e=>hd' (by rw[hd2,e])) _ _
    ·rcases hqs.2 g hg with h|⟨hmem,hasc⟩
     ·omega
     ·rcases AU.1 hmem with e|e
      ·omega
      ·exact .inr ⟨e,(QoC hasc).2⟩
    ·grind
    ·show(E j||_)=false;rw[hhi j (by omega) hjf];grind
    ·rcases segE_get hj with⟨rfl,h2⟩|⟨_,h2⟩
     ·exact⟨rfl,hnn2 j h2⟩
     grind
 case hend=>
  rintro E a w ⟨ms,off,s1,st,xv,nb,hn1,hc,h0,hK,hnn,hqs,hct,hlt,hlo,hhi,hPh⟩ hall hnone;have hall': ∀i,i<ops.length->E i=true:=fun i hi=>hall i (by omega)
  cases ms with
  |nil=>
   obtain⟨σ1,S1,g1,g2,g3,g4,g5⟩:=PhF.done hc h0 hPh fun j hj=>by
    have hlen:=Qgf fl ops.length (ops.drop off) off;simp only[segE,AQ] at hj hlen
    grind
   have hop: ∀k,opn fa E k=false:=fun k=>by
    cases hk:opn fa E k with
    |false=>rfl
    |true=>
     obtain⟨q,h1,_,h3⟩:=Qeg.1 hk;obtain⟨o,t,hf⟩:=Qes (hfl q.1 (QdH.1 (hfm q h1)));rw[hall' q.1 (A1.1 hf.op).1] at h3;cases h3
   simp only[maskP_no hop] at g1 g4 g5;refine⟨_,σ1,S1,hK,g1,g2,g3,fun t=>?_⟩
   by_cases hfx: ∃f x,(f,t,x)∈fx
   ·obtain⟨f,x,hm⟩:=hfx
    obtain⟨_,p,hf,hlk,_⟩:=hX.ok f t x hm
    have:look (st (segE ops fl off []).length).env t=x:=by
     rw[<-hlk,<-hqs.1 t (.of (hqfx f t x hm))];rcases hc.slot _ (AA _) t with⟨j,p',k1,k2,k3,k4,k5⟩|⟨k1,k2⟩
     ·rcases segE_get k2 with⟨rfl,_⟩|⟨k6,k7⟩
      ·cases k3
      ·exact absurd k3 (hqfx f t x hm _ _ k6 k7)
     grind
    rw[this];exact g4 f t x hm (hall' f (A1.1 hf.op).1)
   grind
  |cons m ms=>
   obtain⟨hom,hbar,om,hom2,_⟩:=hK;have hmlt:m<ops.length:=(A1.1 hom2).1
   have hlen:(segE ops fl off (m::ms)).length=m -off:=by
    have:=Qgf fl m (ops.drop off) off;simp only[segE,AQ] at this⊢;omega
   have h1:=hall' m hmlt;rw[hhi m (by omega) (Qjf hbar).1] at h1;cases h1
end Fk
end Aw
end
section
open Go.RowKit
namespace Aw
namespace Fg
def Flts(P:A2)(ops:List A3)(K:List (Nat×AV)->Prop):List Nat->List (Nat×AV)->Prop
 |[],env=>K env
 |f::r,env=> ∃o x,ops[f]? =some o/\(∀H,Loc P o env H x none)/\Flts P ops K r (putE env o.dst x)
def PlanF(P:A2)(ops:List A3)(fl:List Nat)(Q:St->Prop):List Nat->Nat->St->Prop
 |[],off,s=>ADraw P ops.toArray Q (segF fl ops.length off (ops.drop off)) s
 |m::ms,off,s=>AG off m=true/\barOkF ops fl m=true/\ ∃o,ops[m]? =some o/\ADraw P ops.toArray (AStep P ops.toArray o (PlanF P ops fl Q ms (m+1))) (segF fl m off (ops.drop off)) s
def QjZ{P:A2}{ops:Array A3}{K K':St->Prop}(h: ∀s,K s->K' s): ∀(l:List A3) (s:St),ADraw P ops K l s->ADraw P ops K' l s
 |[],s,hk=>h s hk
 |o::l,s,⟨a,b,hs,hk⟩=>⟨a,b,hs,QjZ h l _ hk⟩
def Qu1{P:A2}{ops:List A3}{K K':List (Nat×AV)->Prop}(hK: ∀env,K env->K' env): ∀(r:List Nat) (env:List (Nat×AV)),Flts P ops K r env->Fk.Flts P ops ⟨[],[]⟩ K' r env
 |[],env,h=>hK env h
 |_::r,_,⟨o,x,ho,hl,hk⟩=>⟨o,x,ho,fun H _=>hl H,Qu1 hK r _ hk⟩
theorem Qs0{P:A2}{ops:Array A3}{o:A3}{K K':St->Prop}{s:St}(hk: ∀s,K s->K' s)(h:AStep P ops o K s):Fk.AStepM P ops o [] K' s:=by
 obtain⟨R,h1,h2,h3,h4,h5⟩:=h;refine⟨R,fun p hp=>?_,h2,h3,h4,fun x H' hx=>hk _ (h5 x H' hx)⟩
 simp_all[Fk.maskP_no]
def QqF{P:A2}{ops:List A3}{fl:List Nat}{Q:St->Prop}: ∀(ms:List Nat) (off:Nat) (s:St),PlanF P ops fl Q ms off s->Fk.PlanF P ops fl ⟨[],[]⟩ [] Q ms off s
 |[],_,_,h=>⟨fun _ q hq=>(by cases hq),h⟩
 |m::ms,off,s,⟨h1,h2,o,ho,h⟩=>⟨fun _ q hq=>(by cases hq),h1,h2,o,ho,QjZ (fun _ hs=>Qs0 (fun s' hs'=>⟨trivial,QqF ms (m+1) s' hs'⟩) hs) _ _ h⟩
def awp_drawF0(fl ms:List Nat){P:A2}{id:Nat}{ops:List A3}{Q:Au->St->Prop}{s:St}(hm:P.follows .mixedOrders=true)(hok:drawOk ops.toArray=true)(hgok:ops.all (gdOk ops.toArray s.n)=true)
 (hfo:floatOk ops fl s.n=true) (h:Flts P ops (fun env=>PlanF P ops fl (Q .normal) ms 0 ⟨s.n,env,s.H⟩) fl s.env):AWP P (.region id ops.toArray true) Q s:=by
 have e:s.H++([]:List (Nat×Blk)).map (·.2)=s.H:=List.append_nil _;refine Fk.awp_drawF0 fl ms [] [] [] hm hok hgok ?_ (fun t ht=>by cases ht) (fun t ht=>by cases ht) rfl List.nodup_nil (fun q hq=>by cases hq) (Qu1 (fun env hp=>?_) fl s.env h)
 ·show(ascN fl&&fl.all (float1 ops fl s.n)&&fl.all (float1 ops fl s.n))=true
  rw[show(ascN fl&&fl.all (float1 ops fl s.n))=true from hfo,Bool.true_and];exact(Bool.and_eq_true_iff.1 hfo).2
 ·show Fk.PlanF P ops fl ⟨[],[]⟩ [] (Q .normal) ms 0 ⟨s.n,env,s.H++([]:List (Nat×Blk)).map (·.2)⟩
  rw[e];exact QqF ms 0 _ hp
def awp_drawF(fl ms:List Nat){P:A2}{id:Nat}{ops:List A3}{Q:Au->St->Prop}{n:Nat}{env:List (Nat×AV)}{H:List Blk}(h:Flts P ops (fun env=>PlanF P ops fl (Q .normal) ms 0 ⟨n,env,H⟩) fl env)(hm:P.follows .mixedOrders=true:=by exact follows_mixed)(hok:drawOk ops.toArray=true:=by kernel_rfl)(hgok:ops.all (gdOk ops.toArray n)=true:=by kernel_rfl)
 (hfo:floatOk ops fl n=true:=by kernel_rfl):AWP P (.region id ops.toArray true) Q ⟨n,env,H⟩:=awp_drawF0 fl ms hm hok hgok hfo h
section
variable{P:A2}{ops:List A3}{K:List (Nat×AV)->Prop}{f:Nat}{r:List Nat}{env:List (Nat×AV)}{d:BM}{op:Op}{ty:AE}{pos:String}{after:Array BE}{gd:Option (Nat×Bool)}{x:AV}
def aw_flt(ho:ops[f]? =some ⟨some d,op,ty,pos,after,gd⟩:=by rfl)(h: ∀H:List Blk,∀R:Option (AV×Option Blk)->Prop,R (some (x,none))->R (evOp P env H op):=by intro H R hR;simp only[go_sem,Nat.reduceEqDiff,Nat.reduceAdd,Nat.reduceLT,Nat.reduceLeDiff,↓reduceIte,reduceCtorEq];exact hR)
 (k:Flts P ops K r ((d,x)::env)):Flts P ops K (f::r) env:=⟨_,x,ho,fun H=>QiT (h H (fun q=>q=some (x,none)) rfl),k⟩
def aw_fltL(ho:ops[f]? =some ⟨some d,op,ty,pos,after,gd⟩:=by rfl)(hl: ∀H,Loc P ⟨some d,op,ty,pos,after,gd⟩ env H x none)(k:Flts P ops K r ((d,x)::env)):Flts P ops K (f::r) env:=⟨_,x,ho,hl,k⟩
def aw_fltN(k:K env):Flts P ops K [] env:=k
def aw_planFN{ops:List A3}{fl:List Nat}{Q:St->Prop}{off:Nat}{s:St}(h:ADraw P ops.toArray Q (segF fl ops.length off (ops.drop off)) s):PlanF P ops fl Q [] off s:=h
def aw_planFC{ops:List A3}{fl:List Nat}{Q:St->Prop}{off m:Nat}{ms:List Nat}{s:St}{o:A3}(h:ADraw P ops.toArray (AStep P ops.toArray o (PlanF P ops fl Q ms (m+1))) (segF fl m off (ops.drop off)) s)(h1:AG off m=true:=by rfl)(h2:barOkF ops fl m=true:=by kernel_rfl)(ho:ops[m]? =some o:=by rfl):PlanF P ops fl Q (m::ms) off s:=
 ⟨h1,h2,o,ho,h⟩
end
end Fg
def QnG(n:Nat): ∀(l:List A3) (i:Nat),i+l.length=n->segF [] n i l=l
 |[],_,_=>rfl
 |o::l,i,h=>by
  simp only[B3] at h
  have hb:AG n i=false:=by
   cases hb:AG n i with
   |false=>rfl
   |true=>have:=A4 hb;omega
  unfold segF;rw[hb,QnG n l (i+1) (by omega)];rfl
def Qsx{P:A2}{id:Nat}{ops:List A3}{Q:Au->St->Prop}{s:St}(hm:P.follows .mixedOrders=true)(hok:drawOk ops.toArray=true)(hgok:ops.all (gdOk ops.toArray s.n)=true)
 (h:ADraw P ops.toArray (Q .normal) ops s):AWP P (.region id ops.toArray true) Q s:=
 Fg.awp_drawF0 [] [] hm hok hgok rfl (by
  show ADraw P ops.toArray (Q .normal) (segF [] ops.length 0 (ops.drop 0)) _
  rw[List.drop_zero,QnG _ ops 0 (by omega)];exact h)
def QkP{P:A2}{c:Code}{Q:Au->St->Prop}{s:St}(h:AWP P c (fun e s=> ∃s',Weak s s'/\Q e s') s):AWP P c Q s:=by
 intro B hB σ S a w hA;refine wp_mono (h B hB σ S a w hA) ?_;rintro e a w ⟨s',σ',S',⟨s'',hw,hq⟩,hA'⟩;obtain⟨σ2,S2,h2⟩:=hw B σ' S' a w hA';exact⟨s'',σ2,S2,hq,h2⟩
def QkU(m:Nat){rs:List Ag}{x:AV}{H1:List Blk}{gl:List AV}{gvs:List Ar}{n:Nat}{env env':List (Nat×AV)}{H H':List Blk}(e:Au)(he:e= .normal∨e= .ret)(hk:keepE env [gslot]=env')(hH:H.take m=H')(h1:envLt m env'=true)(h2:H'.all (Blk.lt m)=true)
 (h3:resA env' rs=some x) (h4:H'=H1) (h5:look env' gslot= .gh gl gvs): ∃s',Weak ⟨n,env,H⟩ s'/\EndA rs x H1 gl gvs e s':=
 ⟨_,QgM [gslot] m hk hH h1 h2,by rcases he with rfl|rfl<;>exact⟨h3,h4,h5⟩⟩
end Aw
end
section
open Go.RowKit
namespace Aw
variable{j b k:Nat}{m:List (Int×D)}{es:Array BB}{w:AT}{u:AX}{E:TyF}
abbrev kI(n:Int):Ar:= .int .i64 n
def imap(m:List (Int×D)):List (Ar×D):=m.map fun x=>(kI x.1,x.2)
def mget:List (Int×D)->Int->Option D
 |[],_=>none
 |x::m,n=>if x.1=n then some x.2 else mget m n
def mset:List (Int×D)->Int->D->List (Int×D)
 |[],n,d=>[(n,d)]
 |x::m,n,d=>if x.1=n then(n,d)::m else x::mset m n d
def mIdx:List (Int×D)->Int->Option Nat
 |[],_=>none
 |x::m,n=>if x.1=n then some 0 else(mIdx m n).map (· +1)
theorem Qi9: ∀{m:List (Int×D)} {n:Int},mIdx m n=none->mget m n=none/\ ∀d,mset m n d=m++[(n,d)]
 |[],n,_=>⟨rfl,fun d=>rfl⟩
 |x::m,n,h=>by
  unfold mIdx at h;split at h
  ·cases h
  ·rename_i hx
   obtain⟨h1,h2⟩:=Qi9 (An.1 h)
   grind [mget,mset]
theorem Qi8: ∀{m:List (Int×D)} {n:Int} {j:Nat},mIdx m n=some j-> ∃d0,m[j]? =some (n,d0)/\mget m n=some d0/\ ∀d,mset m n d=m.set j (n,d)
 |[],n,j,h=>by cases h
 |x::m,n,j,h=>by
  unfold mIdx at h;split at h
  ·grind [mget,mset]
  ·rename_i hx
   obtain⟨j',h',rfl⟩:=A6.1 h;obtain⟨d0,h1,h2,h3⟩:=Qi8 h'
   grind [mget,mset]
theorem QeU: ∀(m:List (Int×D)) (n:Int) (d:D),mget (mset m n d) n=some d
 :=by intro l;induction l<;>grind [mset,mget]
theorem QhJ{n k:Int}(h:n≠k): ∀(m:List (Int×D)) (d:D),mget (mset m n d) k=mget m k
 :=by intro l;induction l<;>grind [mset,mget]
theorem Qty{n:Int}{d:D}(h:m[j]? =some (n,d)):(imap m)[j]? =some (kI n,d):=by
 grind [imap]
theorem imap_get'{k:Ar}{d:D}(h:(imap m)[j]? =some (k,d)): ∃n,k=kI n/\m[j]? =some (n,d):=by grind [imap]
theorem Qf7(m:List (Int×D)):(imap m).length=m.length:=by simp[imap]
theorem QiQ(n:Int): ∀(es:List BB) (m:List (Int×D)) (i:Nat),es.length=m.length->(∀(j:Nat) x,m[j]? =some x-> ∃e,es[j]? =some e/\e.key=kI x.1)->
 (mIdx m n=none/\AI (.int .i64) (kI n) es i=some none)∨ ∃j e,mIdx m n=some j/\es[j]? =some e/\AI (.int .i64) (kI n) es i=some (some (i+j,e.val))
 |[],[],i,_,_=> .inl ⟨rfl,rfl⟩
 |e::es,x::m,i,hl,h=>by
  obtain⟨e',he,hk⟩:=h 0 x rfl;obtain rfl:e=e':=by grind
  by_cases hx:x.1=n
  ·grind [mIdx,AI,Ax]
  ·have hne: ¬n=x.1:=fun q=>hx q.symm
   rcases QiQ n es m (i+1) (by grind) (fun j y hy=>h (j+1) y (by grind)) with⟨h1,h2⟩|⟨j,e',h1,h2,h3⟩
   ·grind [mIdx,AI,Ax]
   grind [mIdx,AI,Ax]
 |[],_::_,_,hl,_=>by simp at hl
 |_::_,[],_,hl,_=>by simp at hl
section
variable{P:A2}{T kt et:AE}{F:TyF}{z:Ar}
def EntOk(S:Nat->Prop)(w:AT)(m:List (Int×D))(es:Array BB):Prop:=es.size=m.length/\ ∀(j:Nat) n d,m[j]? =some (n,d)-> ∃e,es[j]? =some e/\e.key=kI n/\RelD S w d e.val
theorem EntOk.find{S:Nat->Prop}(h:EntOk S w m es)(n:Int):
 (mIdx m n=none/\AI (.int .i64) (kI n) es.toList 0=some none)∨ ∃j e,mIdx m n=some j/\es[j]? =some e/\AI (.int .i64) (kI n) es.toList 0=some (some (j,e.val)):=by
 rcases QiQ n es.toList m 0 (by simpa using h.1) (fun j x hx=>by
  obtain⟨e,h1,h2,_⟩:=h.2 j x.1 x.2 hx
  grind) with h1|⟨j,e,h1,h2,h3⟩
 ·grind
 grind
def QsC(hz:(P.info? et).bind (·.zero)=some z)(w:AT):(zeroValue et).run P w= .ok z w:=by
 obtain⟨i,hi,hz⟩:=AZ.1 hz;simp[zeroValue,typeInfo,hi,hz]
def QiK(n:Int):BD (.int .i64) (kI n):=by simp[BD]
theorem Qja(hT:P.underlying T=some (.map kt et))(hk:P.underlying kt=some (.int .i64))(hz:(P.info? et).bind (·.zero)=some z){S:Nat->Prop}{clock:Nat}(n:Int)
 (hb:w.heap[b]? =some (.map es clock)) (h:EntOk S w m es): ∃v,(B2 T (.map (some b)) (kI n) false).run P w= .ok v w/\RelD S w ((mget m n).getD (.v z)) v:=by
 rcases h.find n with⟨h1,h2⟩|⟨j,e,h1,h2,h3⟩
 ·have hz1:=QsC hz w
  refine⟨z,?_,by rw[(Qi9 h1).1];exact .v _⟩;simp[B2,AH hb,run_underlying hT,AP hk (QiK n),AS hk h2,hz1,Aj]
 ·obtain⟨d0,g1,g2,_⟩:=Qi8 h1
  obtain⟨e',k1,k2,k3⟩:=h.2 j n d0 g1;rw[h2] at k1;obtain rfl:=A0 k1;refine⟨e.val,?_,by grind⟩;simp[B2,AH hb,run_underlying hT,AP hk (QiK n),AS hk h3,Aj]
end
section
variable{P:A2}{T kt et:AE}{F:TyF}{z:Ar}{dst:Option BM}{ty:AE}{pos:String}{after:Array BE}{gd:Option (Nat×Bool)}{env:List (Nat×AV)}{H:List Blk}
def Qf0:Loc P ⟨dst,.makeMap T none,ty,pos,after,gd⟩ env H (.mp H.length 0) (some (.mp 0 [])):=by
 intro B σ S H' a w _ hS hop hag hk K Q k;have hκ:=hk _ rfl;obtain⟨h3,h4⟩:=hS.fill (o:= .map #[] 0) (C:= .mp 0 []) hκ trivial fun e=> .inl ⟨_, #[],0,Qdk _ _ _,Qej _ _,⟨rfl,rfl,fun i e h=>by simp at h⟩,fun i key d h=>by simp at h⟩
 have hl:H.length<H'.length:=(A1.1 hκ).1
 have hrun:(execOp a.eval ⟨dst,.makeMap T none,ty,pos,after,gd⟩).run P w= .ok (.value (.map (some w.heap.size))) (w.alloc (.map #[] 0)):=by
  simp[execOp,Instr.makeMap,newObj];rfl
 exact Qgs hrun (k _ _ _ _ h3 (.mp _ 0 _ rfl 0 [] (Ap hl) (AA _) fun _=>⟨_,Qdk _ _ _,rfl⟩) h4)
def QkE{S:Nat->Prop}(h1:es.size=(imap m).length)(h2: ∀(i:Nat) key d,(imap m)[i]? =some (key,d)-> ∃e,es[i]? =some e/\e.key=key/\RelD S w d e.val):EntOk S w m es:=
 ⟨by rw[h1,Qf7],fun j n d h=>h2 j (kI n) d (Qty h)⟩
theorem Qpk(hT:P.underlying T=some (.map kt et))(hk:P.underlying kt=some (.int .i64))(hz:(P.info? et).bind (·.zero)=some z){v:AX}{g:Nat}{n:Int}
 (hu:aval env u= .mp k g) (hH:H[k]? =some (.mp g (imap m))) (hv:aval env v= .d (.v (.int .i64 n))):Loc P ⟨dst,.lookup T u v false,ty,pos,after,gd⟩ env H (.d ((mget m n).getD (.v z))) none:=by
 refine QP fun σ S H' a w hblk hop hag2=>?_
 have h1:=hop u (by simp[A5]);have h2:=hop v (by simp[A5]);rw[hu] at h1;rw[hv] at h2
 have e2:a.eval v=kI n:=by
  generalize a.eval v=y at h2;cases h2 with|d _ _ h2=>cases h2;rfl
 generalize hx:a.eval u=y at h1;cases h1 with
 |mp _ _ _ ho g' l hk' hg hh=>
  rcases hag2 k _ hH with h3|h3
  ·rw[h3] at hk'
   obtain⟨rfl,rfl⟩:g=g'/\imap m=l:=by grind
   obtain⟨b,hb,rfl⟩:=hh rfl;rcases hblk k _ h3 with⟨b',es,clock,hb',hheap,hsz,hent⟩|⟨hno,_⟩
   ·rw[hb] at hb'
    obtain rfl:=A0 hb';obtain⟨r,hr1,hr2⟩:=Qja (P:=P) hT hk hz n hheap (QkE hsz.1 hent);refine⟨r,?_,.d _ _ hr2⟩;simp only[execOp,hx,e2,Aa,hr1];rfl
   grind
  grind
theorem Qg7(hT:P.underlying T=some (.map kt et))(hk:P.underlying kt=some (.int .i64))(hz:(P.info? et).bind (·.zero)=some z){v:AX}{n:Int}
 (hu:aval env u= .d (.mp (imap m))) (hv:aval env v= .d (.v (.int .i64 n))):Loc P ⟨dst,.lookup T u v false,ty,pos,after,gd⟩ env H (.d ((mget m n).getD (.v z))) none:=by
 refine QP fun σ S H' a w hblk hop hag2=>?_
 have h1:=hop u (by simp[A5]);have h2:=hop v (by simp[A5]);rw[hu] at h1;rw[hv] at h2
 have e2:a.eval v=kI n:=by
  generalize a.eval v=y at h2;cases h2 with|d _ _ h2=>cases h2;rfl
 generalize hx:a.eval u=y at h1;cases h1 with
 |d _ _ h1=>
  generalize hl:imap m=l at h1;cases h1 with
  |mp _ b es clock hS hb hsz hky hr=>
   subst hl
   have hE':EntOk S w m es:=QkE hsz fun i key d hi=>by
    have hi':i<es.size:=by grind
    exact⟨es[i],AR hi',hky i key d _ hi (AR hi'),hr i key d _ hi (AR hi')⟩
   obtain⟨r,hr1,hr2⟩:=Qja (P:=P) hT hk hz n hb hE';refine⟨r,?_,.d _ _ hr2⟩;simp only[execOp,hx,e2,Aa,hr1];rfl
theorem Sm.setMap{B:Bs}{σ:Sg}{S:Nat->Prop}{g:Nat}{l l':List (Ar×D)}{es':Array BB}{clock':Nat}(h:Sm B σ S H w)(hb:σ k=some b)(hC:H[k]? =some (.mp g l)){clock0:Nat}(hheap:w.heap[b]? =some (.map es clock0))
 (hsz:es'.size=l'.length/\clock'=l'.length/\ ∀(i:Nat) e,es'[i]? =some e->e.born=i) (hent: ∀(i:Nat) key d,l'[i]? =some (key,d)-> ∃e,es'[i]? =some e/\e.key=key/\RelD S w d e.val):
 Sm B σ S (H.set k (.mp g l')) {w with heap:=w.heap.setIfInBounds b (.map es' clock')}/\Ev σ S H w σ S (H.set k (.mp g l')) {w with heap:=w.heap.setIfInBounds b (.map es' clock')}:=by
 obtain⟨q1,q2⟩:=MapKept.heap_set (o':= .map es' clock') hheap;refine h.turn (C':= .mp g l') hb hC (AA _) rfl rfl rfl (by simp) q2 (fun cs T hc=>by grind) fun e=> .inl ⟨b,es',clock',hb,q1,hsz,fun i key d hi=>?_⟩
 obtain⟨en,h1,h2,h3⟩:=hent i key d hi;exact⟨en,h1,h2,h3.mono e.s e.same⟩
theorem QkG(hT:P.underlying T=some (.map kt et))(hk:P.underlying kt=some (.int .i64)){v x:AX}{g:Nat}{n:Int}{d:D}
 (hu:aval env u= .mp k g) (hH:H[k]? =some (.mp g (imap m))) (hv:aval env v= .d (.v (.int .i64 n))) (hx:aval env x= .d d):
 Eff P ⟨none,.mapUpdate T u v x,ty,pos,after,gd⟩ env H (.d (.v undef)) (H.set k (.mp g (imap (mset m n d)))):=by
 intro B σ S a w hB hS hop K Q kk;have h1:=hop u (by simp[A5]);have h2:=hop v (by simp[A5]);have h3:=hop x (by simp[A5]);rw[hu] at h1;rw[hv] at h2;rw[hx] at h3
 have e2:a.eval v=kI n:=by
  generalize a.eval v=y at h2;cases h2 with|d _ _ h2=>cases h2;rfl
 cases h3 with
 |d _ _ h3=>
 generalize hxu:a.eval u=y at h1;cases h1 with
 |mp _ _ _ ho g' l hk' hg hh=>
  rw[hH] at hk';obtain⟨rfl,rfl⟩:g=g'/\imap m=l:=by injection (A0 hk') with h1 h2;exact⟨h1,h2⟩
  obtain⟨b,hb,rfl⟩:=hh rfl;rcases hS.blk k _ hH with⟨b',es,clock,hb',hheap,⟨hs1,rfl,hs3⟩,hent⟩|⟨hno,_⟩;rotate_left
  ·rw[hb] at hno;cases hno
  rw[hb] at hb';obtain rfl:=A0 hb';have hE:=QkE hs1 hent;rcases hE.find n with⟨g1,g2⟩|⟨j,e,g1,g2,g3⟩
  ·have hl':=(Qi9 g1).2 d
   have hrun:(execOp a.eval ⟨none,.mapUpdate T u v x,ty,pos,after,gd⟩).run P w= .ok .skip {w with heap:=w.heap.setIfInBounds b (.map (es.push ⟨kI n,a.eval x,(imap m).length⟩) ((imap m).length+1))}:=by
    simp[execOp,hxu,e2,B8,run_underlying hT,AH hheap,AP hk (QiK n),AS hk g2,Aq _ hheap,Aj]
   obtain⟨q1,q2⟩:=Sm.setMap (l':=imap (mset m n d)) (es':=es.push ⟨kI n,a.eval x,(imap m).length⟩) (clock':=(imap m).length+1) hS hb hH hheap
    ⟨by grind [Qf7],by simp[hl',Qf7],fun i e he=>by
      grind⟩ fun i key d' hi=>by
      have hi3:=imap_get' hi;clear hi;obtain⟨n',rfl,hi⟩:=hi3;rw[hl'] at hi;rw[Array.getElem?_push];rcases AD i m.length with hlt|hge
      ·rw[Ak hlt] at hi
       obtain⟨e,k1,k2,k3⟩:=hE.2 i n' d' hi;rw[if_neg (by rw[hs1,Qf7];omega)];exact⟨e,k1,k2,k3⟩
      ·rw[AN hge] at hi
       have:i -m.length=0:=by
        have:=(A1.1 hi).1;simp at this;omega
       rw[this] at hi;simp only[List.getElem?_cons_zero,BK,BC] at hi;obtain⟨rfl,rfl⟩:=hi;rw[if_pos (by rw[hs1,Qf7];omega)]
       grind
   unfold BG;rw[hrun];exact kk undef _ σ S q1 (.d _ _ (.v _)) q2
  ·obtain⟨d0,k1,k2,hl'⟩:=Qi8 g1
   have hl':=hl' d;obtain⟨e',k4,k5,k6⟩:=hE.2 j n d0 k1;rw[g2] at k4;obtain rfl:=A0 k4
   have hrun:(execOp a.eval ⟨none,.mapUpdate T u v x,ty,pos,after,gd⟩).run P w= .ok .skip {w with heap:=w.heap.setIfInBounds b (.map (es.modify j fun e=>{e with key:=kI n,val:=a.eval x}) (imap m).length)}:=by
    simp[execOp,hxu,e2,B8,run_underlying hT,AH hheap,AP hk (QiK n),AS hk g3,Aq _ hheap,g2,k5,MapKept.run_keyThatStays (QiK n),Aj]
   obtain⟨q1,q2⟩:=Sm.setMap (l':=imap (mset m n d)) (es':=es.modify j fun e=>{e with key:=kI n,val:=a.eval x}) (clock':=(imap m).length) hS hb hH hheap
    ⟨by grind [Qf7],by simp[hl',Qf7],fun i e1 he=>by
      grind⟩ fun i key d' hi=>by
      have hi3:=imap_get' hi;clear hi;obtain⟨n',rfl,hi⟩:=hi3;rw[hl'] at hi;rw[Array.getElem?_modify]
      by_cases hij:j=i
      ·grind
      ·rw[List.getElem?_set_ne hij] at hi
       rw[if_neg hij];exact hE.2 i n' d' hi
   unfold BG;rw[hrun];exact kk undef _ σ S q1 (.d _ _ (.v _)) q2
end
variable{P:A2}
section
variable{dst:Option BM}{ty:AE}{pos:String}{after:Array BE}{gd:Option (Nat×Bool)}{env:List (Nat×AV)}{H:List Blk}
def Qtn{T e:AE}{F:TyF}{n:Nat}{parts:Array (Nat×AX)}{res:List AV}(hT:tyf P T=some F)(he:F.elem=some e)(hE:tyf P e=some E)(hz:E.zero.length=E.size:=by rfl)
 (hr: ∀R:Option (List AV)->Prop,R (some res)->R (fillA (fun i=>some (i*E.size,E.size)) env (Ab n (E.zero.map fun v=>AV.d (.v v))).flatten parts.toList):=by
   intro R hR;simp only[go_sem,Option.bind_some,List.replicate_succ,List.replicate_zero,List.flatten_cons,List.flatten_nil,List.append_nil,List.cons_append,List.nil_append,Nat.zero_mul,Nat.reduceMul,Nat.reduceEqDiff,Nat.reduceAdd,Nat.reduceLT,Nat.reduceLeDiff,↓reduceIte,reduceCtorEq,List.take_nil,List.drop_nil];exact hR)
 (hm:AG (n*E.size) 16777216=true:=by rfl) (hn:AG n 16777216=true:=by rfl):Loc P ⟨dst,.buildSlice T n parts,ty,pos,after,gd⟩ env H (.rsl H.length 0 n) (some (.row 0 res)):=by
 intro B σ S H' a w _ hS hop hag hk K Q k;have hκ:=hk _ rfl;obtain⟨cs,h1,_,_,h2⟩:=Qgx (dst:=dst) (ty:=ty) (pos:=pos) (after:=after) (gd:=gd) hT he hE hz (hr (fun r=>r=some res) rfl) (A4 hm) (A4 hn) σ S H' a w hop;obtain⟨h3,h4⟩:=hS.fillRow (T:=e) hκ h2;have hl:H.length<H'.length:=(A1.1 hκ).1;exact Qgs h1 (k _ _ _ _ h3 (.rsl _ 0 n _ rfl 0 res (Ap hl) (AA _) fun _=>⟨_,Qdk _ _ _,rfl⟩) h4)
def Qf2{T e:AE}{F:TyF}{v:AX}{κ:IntKind}{i:Int}{g len:Nat}{cells:List AV}(hT:tyf P T=some F)(he:F.elem=some e)(hE:tyf P e=some E)
 (hn:E.size=1) (hu:aval env u= .rsl k g len) (hk:H[k]? =some (.row g cells)) (hv:aval env v= .d (.v (.int κ i))) (h0:0<=i) (h1:i<len):
 Loc P ⟨dst,.indexAddr T u v,ty,pos,after,gd⟩ env H (.ptr k g i.toNat) none:=
 QP fun σ S H' a w _ hop hag=>by
  have h:=hop u (by simp[A5]);have h':=AV.conc_rel (hop v (by simp[A5])) (y:= .int κ i) (by rw[hv];rfl);rw[hu] at h;generalize hx:a.eval u=x at h;cases h with
  |rsl _ _ _ _ _ g' cells' hk' hg hh=>
   have hke:H'[k]? =some (.row g cells):=by
    rcases hag k _ hk with h|h
    ·exact h
    ·rw[hk'] at h;cases h
   rw[hk'] at hke;obtain⟨rfl,rfl⟩:g'=g/\cells'=cells:=by injection (A0 hke) with h1 h2;exact⟨h1,h2⟩
   obtain⟨b,hb,rfl⟩:=hh rfl;exact⟨_,by simp only[execOp,hx,h',Aa,Qg1 hT he hE h0 h1 w];rfl,.ptr _ _ _ _ rfl g' cells' hk' hg fun _=>⟨b,hb,by simp[hn]⟩⟩
def QmN{T e:AE}{F:TyF}{g len:Nat}{cells:List AV}(hT:tyf P T=some F)(he:F.elem=some e)(hu:aval env u= .rsl k g len)(hk:H[k]? =some (.row g cells)):
 Loc P ⟨dst,.call ⟨.builtin .len, #[u], #[T]⟩,ty,pos,after,gd⟩ env H (.d (.v (.int .i64 (len:Nat)))) none:=
 QP fun σ S H' a w _ hop hag=>by
  have h:=hop u (by simp[A5,Call.operands]);rw[hu] at h;generalize hx:a.eval u=x at h;cases h with
  |rsl _ _ _ _ _ g' cells' hk' hg hh=>
   have hke:H'[k]? =some (.row g cells):=by
    rcases hag k _ hk with h|h
    ·exact h
    ·rw[hk'] at h;cases h
   rw[hk'] at hke;obtain⟨rfl,rfl⟩:g'=g/\cells'=cells:=by injection (A0 hke) with h1 h2;exact⟨h1,h2⟩
   obtain⟨b,hb,rfl⟩:=hh rfl;exact⟨_,by simp[execOp,resolve,invoke,builtin,Builtin.len_,hx,goInt,run_underlying (QdB hT he)];try rfl,.d _ _ (.v _)⟩

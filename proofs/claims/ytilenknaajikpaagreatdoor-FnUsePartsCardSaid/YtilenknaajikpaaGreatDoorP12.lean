/- Of parts_card; no condition. -/
import Derived.Test.YtilenknaajikpaaGreatDoorP10
import Derived.MapKept
import Derived.Deep.AppendSrc
set_option linter.all false
set_option maxRecDepth 100000
set_option maxHeartbeats 8000000
open Array renaming getElem?_eq_getElem->AD,getElem?_push->Am
open Classical renaming choose_spec->Aj
open Go renaming TypeId->A6,Operand->A9,Program->AR,Value->AT,World->Af,Oper->Au,MapEntry->B1,Edge->B2,FuncId->BA,Addr->BB,Tmp->BF
open Go.Builtin renaming zeroCells->AF
open Go.Call renaming operands->B6
open Go.Instr renaming findNow->AJ,sameNow->An,lookup->Aq,mapUpdate->Av
open Go.MapKept renaming run_getObj_map->AI,run_checkKey->AL,run_findKey->AQ,run_setObj_map->Ae,IsKey->B5
open Go.Op renaming operands->A7,equalIn->AW
open Go.Oper renaming wp->BD
open Go.Proofs.Tryz renaming prog->AB
open Go.Result renaming andThen_ok->A8,andThen->AY
open Go.RowKit renaming Hid->Ah
open Go.Sem renaming run_bind->A4
open Go.Value renaming bool->B3
open Int.ofNat renaming inj->B7
open List renaming getElem?_eq_getElem->A0,getElem?_eq_some_iff->A2,mem_of_getElem?->A3,take_of_length_le->A5,getElem?_set_self->AA,take_add_one->AC,getElem?_append_left->AE,getElem?_map->AK,getElem?_append_right->AM,getElem?_set_ne->AN,getD_eq_getElem?_getD->AO,all_eq_true->AP,all_append->AS,replicate->AZ,all_eq_false->Ab,length_cons->Ac,length_take->Ad,any_append->Ai,getElem?_eq_none->Ak,map_cons->Ao,mem_replicate->Ap,map_nil->Ar,mem_append->Ax,mem_cons->B8
open Nat renaming mul_le_mul_right->AG,le_refl->AH,le_of_ble_eq_true->AU,le_trans->AX,add_mul->Aa,pow_le_pow_right->Al,zero_add->As,blt->B0,lt_or_ge->B9,ble->BE
open Option renaming map_some->Ag,map_none->Ay
open Option.some renaming inj->A1,injEq->BC
open UInt8 renaming toNat_inj->Az,toNat_lt->B4
namespace Go.Proofs.YtilenknaajikpaaGreatDoor
noncomputable section
section
open Go.RowKit
namespace Aw
variable{j b k sz off o:Nat}{m:List (Int×D)}{es:Array B1}{w:Af}{u:A9}{σ:Sg}{B:Bs}{i:Int}{κ:IntKind}{t tx E T' T0:A6}{newrows:List (List D)}{H0 H1:List Blk}{args caps:List AV}{tys:Array A6}{xs:Array A9}{f:BA}{y:AV}{c:Bool}{p:Pl.Ptr}
abbrev kI(n:Int):AT:= .int .i64 n
def imap(m:List (Int×D)):List (AT×D):=m.map fun x=>(kI x.1,x.2)
def mget:List (Int×D)->Int->Option D
 |[],_=>none
 |x::m,n=>if x.1=n then some x.2 else mget m n
def mset:List (Int×D)->Int->D->List (Int×D)
 |[],n,d=>[(n,d)]
 |x::m,n,d=>if x.1=n then(n,d)::m else x::mset m n d
def mIdx:List (Int×D)->Int->Option Nat
 |[],_=>none
 |x::m,n=>if x.1=n then some 0 else(mIdx m n).map (· +1)
theorem Qja: ∀{m:List (Int×D)} {n:Int},mIdx m n=none->mget m n=none/\ ∀d,mset m n d=m++[(n,d)]
 |[],n,_=>⟨rfl,fun d=>rfl⟩
 |x::m,n,h=>by
  unfold mIdx at h;split at h
  ·cases h
  ·rename_i hx
   obtain⟨h1,h2⟩:=Qja (Option.map_eq_none_iff.1 h);exact⟨by unfold mget;grind,fun d=>by unfold mset;grind⟩
theorem QiZ: ∀{m:List (Int×D)} {n:Int} {j:Nat},mIdx m n=some j-> ∃d0,m[j]? =some (n,d0)/\mget m n=some d0/\ ∀d,mset m n d=m.set j (n,d)
 |[],n,j,h=>by cases h
 |x::m,n,j,h=>by
  unfold mIdx at h;split at h
  ·rename_i hx
   obtain rfl:=A1 h;exact⟨x.2,by grind,by unfold mget;grind,fun d=>by unfold mset;grind⟩
  ·rename_i hx
   obtain⟨j',h',rfl⟩:=Option.map_eq_some_iff.1 h;obtain⟨d0,h1,h2,h3⟩:=QiZ h';exact⟨d0,by grind,by unfold mget;grind,fun d=>by unfold mset;grind⟩
def Qe7: ∀(m:List (Int×D)) (n:Int) (d:D),mget (mset m n d) n=some d
 |[],n,d=>by simp[mset,mget]
 |x::m,n,d=>by
  unfold mset;split
  ·simp[mget]
  ·rename_i h;unfold mget;rw[if_neg h];exact Qe7 m n d
theorem Qgg{n k:Int}(h:n≠k): ∀(m:List (Int×D)) (d:D),mget (mset m n d) k=mget m k
 |[],d=>by simp[mset,mget,h]
 |x::m,d=>by
  unfold mset;split
  ·rename_i hx;subst hx;simp[mget,h]
  ·unfold mget;split
   ·rfl
   ·exact Qgg h m d
theorem Quc{n:Int}{d:D}(h:m[j]? =some (n,d)):(imap m)[j]? =some (kI n,d):=by
 unfold imap;grind
theorem imap_get'{k:AT}{d:D}(h:(imap m)[j]? =some (k,d)): ∃n,k=kI n/\m[j]? =some (n,d):=by
 unfold imap at h
 grind
def QfO(m:List (Int×D)):(imap m).length=m.length:=by simp[imap]
theorem Qjq(n:Int): ∀(es:List B1) (m:List (Int×D)) (i:Nat),es.length=m.length->(∀(j:Nat) x,m[j]? =some x-> ∃e,es[j]? =some e/\e.key=kI x.1)->
 (mIdx m n=none/\AJ (.int .i64) (kI n) es i=some none)∨ ∃j e,mIdx m n=some j/\es[j]? =some e/\AJ (.int .i64) (kI n) es i=some (some (i+j,e.val))
 |[],[],i,_,_=> .inl ⟨rfl,rfl⟩
 |e::es,x::m,i,hl,h=>by
  obtain⟨e',he,hk⟩:=h 0 x rfl;obtain rfl:e=e':=by grind
  by_cases hx:x.1=n
  ·refine .inr ⟨0,e,by unfold mIdx;grind,rfl,?_⟩
   simp[AJ,hk,An,hx]
  ·have hne: ¬n=x.1:=fun q=>hx q.symm
   rcases Qjq n es m (i+1) (by grind) (fun j y hy=>h (j+1) y (by grind)) with⟨h1,h2⟩|⟨j,e',h1,h2,h3⟩
   ·refine .inl ⟨by unfold mIdx;grind,?_⟩
    have hb:(n==x.1)=false:=beq_eq_false_iff_ne.2 hne;simp[AJ,hk,An,hb,h2]
   ·refine .inr ⟨j+1,e',by unfold mIdx;grind,by grind,?_⟩
    have hb:(n==x.1)=false:=beq_eq_false_iff_ne.2 hne;simp[AJ,hk,An,hb,h3];omega
 |[],_::_,_,hl,_=>by simp at hl
 |_::_,[],_,hl,_=>by simp at hl
section
variable{P:AR}{T kt et:A6}{F:TyF}{z:AT}
def EntOk(S:Nat->Prop)(w:Af)(m:List (Int×D))(es:Array B1):Prop:=es.size=m.length/\ ∀(j:Nat) n d,m[j]? =some (n,d)-> ∃e,es[j]? =some e/\e.key=kI n/\RelD S w d e.val
theorem EntOk.find{S:Nat->Prop}(h:EntOk S w m es)(n:Int):
 (mIdx m n=none/\AJ (.int .i64) (kI n) es.toList 0=some none)∨ ∃j e,mIdx m n=some j/\es[j]? =some e/\AJ (.int .i64) (kI n) es.toList 0=some (some (j,e.val)):=by
 rcases Qjq n es.toList m 0 (by simpa using h.1) (fun j x hx=>by
  obtain⟨e,h1,h2,_⟩:=h.2 j x.1 x.2 hx
  grind) with h1|⟨j,e,h1,h2,h3⟩
 ·grind
 grind
def Qtp(hz:(P.info? et).bind (·.zero)=some z)(w:Af):(zeroValue et).run P w= .ok z w:=by
 obtain⟨i,hi,hz⟩:=Option.bind_eq_some_iff.1 hz;simp[zeroValue,typeInfo,hi,hz]
def Qjk(n:Int):B5 (.int .i64) (kI n):=by simp[B5]
theorem Qj1(hT:P.underlying T=some (.map kt et))(hk:P.underlying kt=some (.int .i64))(hz:(P.info? et).bind (·.zero)=some z){S:Nat->Prop}{clock:Nat}(n:Int)
 (hb:w.heap[b]? =some (.map es clock)) (h:EntOk S w m es): ∃v,(Aq T (.map (some b)) (kI n) false).run P w= .ok v w/\RelD S w ((mget m n).getD (.v z)) v:=by
 rcases h.find n with⟨h1,h2⟩|⟨j,e,h1,h2,h3⟩
 ·have hz1:=Qtp hz w
  refine⟨z,?_,by rw[(Qja h1).1];exact .v _⟩;simp[Aq,AI hb,run_underlying hT,AL hk (Qjk n),AQ hk h2,hz1,AY]
 ·obtain⟨d0,g1,g2,_⟩:=QiZ h1
  obtain⟨e',k1,k2,k3⟩:=h.2 j n d0 g1;rw[h2] at k1;obtain rfl:=A1 k1;refine⟨e.val,?_,by grind⟩;simp[Aq,AI hb,run_underlying hT,AL hk (Qjk n),AQ hk h3,AY]
end
section
variable{P:AR}{T kt et:A6}{F:TyF}{z:AT}{dst:Option BF}{ty:A6}{pos:String}{after:Array B2}{gd:Option (Nat×Bool)}{env:List (Nat×AV)}{H:List Blk}
def Qez:Loc P ⟨dst,.makeMap T none,ty,pos,after,gd⟩ env H (.mp H.length 0) (some (.mp 0 [])):=by
 intro B σ S H' a w _ hS hop hag hk K Q k;have hκ:=hk _ rfl;obtain⟨h3,h4⟩:=hS.fill (o:= .map #[] 0) (C:= .mp 0 []) hκ trivial fun e=> .inl ⟨_, #[],0,Qdk _ _ _,Qeq _ _,⟨rfl,rfl,fun i e h=>by simp at h⟩,fun i key d h=>by simp at h⟩
 have hl:H.length<H'.length:=(A2.1 hκ).1
 have hrun:(execOp a.eval ⟨dst,.makeMap T none,ty,pos,after,gd⟩).run P w= .ok (.value (.map (some w.heap.size))) (w.alloc (.map #[] 0)):=by
  simp[execOp,Instr.makeMap,newObj];rfl
 exact QgE hrun (k _ _ _ _ h3 (.mp _ 0 _ rfl 0 [] (AA hl) (AH _) fun _=>⟨_,Qdk _ _ _,rfl⟩) h4)
def Qld{S:Nat->Prop}(h1:es.size=(imap m).length)(h2: ∀(i:Nat) key d,(imap m)[i]? =some (key,d)-> ∃e,es[i]? =some e/\e.key=key/\RelD S w d e.val):EntOk S w m es:=
 ⟨by rw[h1,QfO],fun j n d h=>h2 j (kI n) d (Quc h)⟩
theorem QpL(hT:P.underlying T=some (.map kt et))(hk:P.underlying kt=some (.int .i64))(hz:(P.info? et).bind (·.zero)=some z){v:A9}{g:Nat}{n:Int}
 (hu:aval env u= .mp k g) (hH:H[k]? =some (.mp g (imap m))) (hv:aval env v= .d (.v (.int .i64 n))):Loc P ⟨dst,.lookup T u v false,ty,pos,after,gd⟩ env H (.d ((mget m n).getD (.v z))) none:=by
 refine QR fun σ S H' a w hblk hop hag2=>?_
 have h1:=hop u (by simp[A7]);have h2:=hop v (by simp[A7]);rw[hu] at h1;rw[hv] at h2
 have e2:a.eval v=kI n:=by
  generalize a.eval v=y at h2;cases h2 with|d _ _ h2=>cases h2;rfl
 generalize hx:a.eval u=y at h1;cases h1 with
 |mp _ _ _ ho g' l hk' hg hh=>
  rcases hag2 k _ hH with h3|h3
  ·rw[h3] at hk'
   obtain⟨rfl,rfl⟩:g=g'/\imap m=l:=by grind
   obtain⟨b,hb,rfl⟩:=hh rfl;rcases hblk k _ h3 with⟨b',es,clock,hb',hheap,hsz,hent⟩|⟨hno,_⟩
   ·rw[hb] at hb'
    obtain rfl:=A1 hb';obtain⟨r,hr1,hr2⟩:=Qj1 (P:=P) hT hk hz n hheap (Qld hsz.1 hent);refine⟨r,?_,.d _ _ hr2⟩;simp only[execOp,hx,e2,A4,hr1];rfl
   grind
  grind
theorem QgR(hT:P.underlying T=some (.map kt et))(hk:P.underlying kt=some (.int .i64))(hz:(P.info? et).bind (·.zero)=some z){v:A9}{n:Int}
 (hu:aval env u= .d (.mp (imap m))) (hv:aval env v= .d (.v (.int .i64 n))):Loc P ⟨dst,.lookup T u v false,ty,pos,after,gd⟩ env H (.d ((mget m n).getD (.v z))) none:=by
 refine QR fun σ S H' a w hblk hop hag2=>?_
 have h1:=hop u (by simp[A7]);have h2:=hop v (by simp[A7]);rw[hu] at h1;rw[hv] at h2
 have e2:a.eval v=kI n:=by
  generalize a.eval v=y at h2;cases h2 with|d _ _ h2=>cases h2;rfl
 generalize hx:a.eval u=y at h1;cases h1 with
 |d _ _ h1=>
  generalize hl:imap m=l at h1;cases h1 with
  |mp _ b es clock hS hb hsz hky hr=>
   subst hl
   have hE':EntOk S w m es:=Qld hsz fun i key d hi=>by
    have hi':i<es.size:=by grind
    exact⟨es[i],AD hi',hky i key d _ hi (AD hi'),hr i key d _ hi (AD hi')⟩
   obtain⟨r,hr1,hr2⟩:=Qj1 (P:=P) hT hk hz n hb hE';refine⟨r,?_,.d _ _ hr2⟩;simp only[execOp,hx,e2,A4,hr1];rfl
theorem Sm.setMap{S:Nat->Prop}{g:Nat}{l l':List (AT×D)}{es':Array B1}{clock':Nat}(h:Sm B σ S H w)(hb:σ k=some b)(hC:H[k]? =some (.mp g l)){clock0:Nat}(hheap:w.heap[b]? =some (.map es clock0))
 (hsz:es'.size=l'.length/\clock'=l'.length/\ ∀(i:Nat) e,es'[i]? =some e->e.born=i) (hent: ∀(i:Nat) key d,l'[i]? =some (key,d)-> ∃e,es'[i]? =some e/\e.key=key/\RelD S w d e.val):
 Sm B σ S (H.set k (.mp g l')) {w with heap:=w.heap.setIfInBounds b (.map es' clock')}/\Ev σ S H w σ S (H.set k (.mp g l')) {w with heap:=w.heap.setIfInBounds b (.map es' clock')}:=by
 obtain⟨q1,q2⟩:=MapKept.heap_set (o':= .map es' clock') hheap;refine h.turn (C':= .mp g l') hb hC (AH _) rfl rfl rfl (by simp) q2 (fun cs T hc=>by grind) fun e=> .inl ⟨b,es',clock',hb,q1,hsz,fun i key d hi=>?_⟩
 obtain⟨en,h1,h2,h3⟩:=hent i key d hi;exact⟨en,h1,h2,h3.mono e.s e.same⟩
theorem Qlf(hT:P.underlying T=some (.map kt et))(hk:P.underlying kt=some (.int .i64)){v x:A9}{g:Nat}{n:Int}{d:D}
 (hu:aval env u= .mp k g) (hH:H[k]? =some (.mp g (imap m))) (hv:aval env v= .d (.v (.int .i64 n))) (hx:aval env x= .d d):
 Eff P ⟨none,.mapUpdate T u v x,ty,pos,after,gd⟩ env H (.d (.v undef)) (H.set k (.mp g (imap (mset m n d)))):=by
 intro B σ S a w hB hS hop K Q kk;have h1:=hop u (by simp[A7]);have h2:=hop v (by simp[A7]);have h3:=hop x (by simp[A7]);rw[hu] at h1;rw[hv] at h2;rw[hx] at h3
 have e2:a.eval v=kI n:=by
  generalize a.eval v=y at h2;cases h2 with|d _ _ h2=>cases h2;rfl
 cases h3 with
 |d _ _ h3=>
 generalize hxu:a.eval u=y at h1;cases h1 with
 |mp _ _ _ ho g' l hk' hg hh=>
  rw[hH] at hk';obtain⟨rfl,rfl⟩:g=g'/\imap m=l:=by injection (A1 hk') with h1 h2;exact⟨h1,h2⟩
  obtain⟨b,hb,rfl⟩:=hh rfl;rcases hS.blk k _ hH with⟨b',es,clock,hb',hheap,⟨hs1,rfl,hs3⟩,hent⟩|⟨hno,_⟩;rotate_left
  ·rw[hb] at hno;cases hno
  rw[hb] at hb';obtain rfl:=A1 hb';have hE:=Qld hs1 hent;rcases hE.find n with⟨g1,g2⟩|⟨j,e,g1,g2,g3⟩
  ·have hl':=(Qja g1).2 d
   have hrun:(execOp a.eval ⟨none,.mapUpdate T u v x,ty,pos,after,gd⟩).run P w= .ok .skip {w with heap:=w.heap.setIfInBounds b (.map (es.push ⟨kI n,a.eval x,(imap m).length⟩) ((imap m).length+1))}:=by
    simp[execOp,hxu,e2,Av,run_underlying hT,AI hheap,AL hk (Qjk n),AQ hk g2,Ae _ hheap,AY]
   obtain⟨q1,q2⟩:=Sm.setMap (l':=imap (mset m n d)) (es':=es.push ⟨kI n,a.eval x,(imap m).length⟩) (clock':=(imap m).length+1) hS hb hH hheap
    ⟨by simp[hs1,hl',QfO],by simp[hl',QfO],fun i e he=>by
      rw[Am] at he;split at he
      ·obtain rfl:=A1 he;simp[hs1] at*;omega
      ·exact hs3 i e he⟩ fun i key d' hi=>by
      have hi3:=imap_get' hi;clear hi;obtain⟨n',rfl,hi⟩:=hi3;rw[hl'] at hi;rw[Am];rcases B9 i m.length with hlt|hge
      ·rw[AE hlt] at hi
       obtain⟨e,k1,k2,k3⟩:=hE.2 i n' d' hi;rw[if_neg (by rw[hs1,QfO];omega)];exact⟨e,k1,k2,k3⟩
      ·rw[AM hge] at hi
       have:i -m.length=0:=by
        have:=(A2.1 hi).1;simp at this;omega
       rw[this] at hi;simp only[List.getElem?_cons_zero,BC,Prod.mk.injEq] at hi;obtain⟨rfl,rfl⟩:=hi;rw[if_pos (by rw[hs1,QfO];omega)]
       grind
   unfold BD;rw[hrun];exact kk undef _ σ S q1 (.d _ _ (.v _)) q2
  ·obtain⟨d0,k1,k2,hl'⟩:=QiZ g1
   have hl':=hl' d;obtain⟨e',k4,k5,k6⟩:=hE.2 j n d0 k1;rw[g2] at k4;obtain rfl:=A1 k4
   have hrun:(execOp a.eval ⟨none,.mapUpdate T u v x,ty,pos,after,gd⟩).run P w= .ok .skip {w with heap:=w.heap.setIfInBounds b (.map (es.modify j fun e=>{e with key:=kI n,val:=a.eval x}) (imap m).length)}:=by
    simp[execOp,hxu,e2,Av,run_underlying hT,AI hheap,AL hk (Qjk n),AQ hk g3,Ae _ hheap,g2,k5,MapKept.run_keyThatStays (Qjk n),AY]
   obtain⟨q1,q2⟩:=Sm.setMap (l':=imap (mset m n d)) (es':=es.modify j fun e=>{e with key:=kI n,val:=a.eval x}) (clock':=(imap m).length) hS hb hH hheap
    ⟨by simp[hs1,hl',QfO],by simp[hl',QfO],fun i e1 he=>by
      grind⟩ fun i key d' hi=>by
      have hi3:=imap_get' hi;clear hi;obtain⟨n',rfl,hi⟩:=hi3;rw[hl'] at hi;rw[Array.getElem?_modify]
      by_cases hij:j=i
      ·grind
      ·rw[AN hij] at hi
       rw[if_neg hij];exact hE.2 i n' d' hi
   unfold BD;rw[hrun];exact kk undef _ σ S q1 (.d _ _ (.v _)) q2
end
variable{P:AR}
section
variable{dst:Option BF}{ty:A6}{pos:String}{after:Array B2}{gd:Option (Nat×Bool)}{env:List (Nat×AV)}{H:List Blk}
def QtR{T e:A6}{F E:TyF}{n:Nat}{parts:Array (Nat×A9)}{res:List AV}(hT:tyf P T=some F)(he:F.elem=some e)(hE:tyf P e=some E)(hz:E.zero.length=E.size:=by rfl)
 (hr: ∀R:Option (List AV)->Prop,R (some res)->R (fillA (fun i=>some (i*E.size,E.size)) env (AZ n (E.zero.map fun v=>AV.d (.v v))).flatten parts.toList):=by
   intro R hR;simp only[go_sem,Option.bind_some,List.replicate_succ,List.replicate_zero,List.flatten_cons,List.flatten_nil,List.append_nil,List.cons_append,List.nil_append,Nat.zero_mul,Nat.reduceMul,Nat.reduceEqDiff,Nat.reduceAdd,Nat.reduceLT,Nat.reduceLeDiff,↓reduceIte,reduceCtorEq,List.take_nil,List.drop_nil];exact hR)
 (hm:BE (n*E.size) 16777216=true:=by rfl) (hn:BE n 16777216=true:=by rfl):Loc P ⟨dst,.buildSlice T n parts,ty,pos,after,gd⟩ env H (.rsl H.length 0 n) (some (.row 0 res)):=by
 intro B σ S H' a w _ hS hop hag hk K Q k;have hκ:=hk _ rfl;obtain⟨cs,h1,_,_,h2⟩:=QgJ (dst:=dst) (ty:=ty) (pos:=pos) (after:=after) (gd:=gd) hT he hE hz (hr (fun r=>r=some res) rfl) (AU hm) (AU hn) σ S H' a w hop;obtain⟨h3,h4⟩:=hS.fillRow (T:=e) hκ h2;have hl:H.length<H'.length:=(A2.1 hκ).1;exact QgE h1 (k _ _ _ _ h3 (.rsl _ 0 n _ rfl 0 res (AA hl) (AH _) fun _=>⟨_,Qdk _ _ _,rfl⟩) h4)
def QfJ{T e:A6}{F E:TyF}{v:A9}{g len:Nat}{cells:List AV}(hT:tyf P T=some F)(he:F.elem=some e)(hE:tyf P e=some E)
 (hn:E.size=1) (hu:aval env u= .rsl k g len) (hk:H[k]? =some (.row g cells)) (hv:aval env v= .d (.v (.int κ i))) (h0:0<=i) (h1:i<len):
 Loc P ⟨dst,.indexAddr T u v,ty,pos,after,gd⟩ env H (.ptr k g i.toNat) none:=
 QR fun σ S H' a w _ hop hag=>by
  have h:=hop u (by simp[A7]);have h':=AV.conc_rel (hop v (by simp[A7])) (y:= .int κ i) (by rw[hv];rfl);rw[hu] at h;generalize hx:a.eval u=x at h;cases h with
  |rsl _ _ _ _ _ g' cells' hk' hg hh=>
   have hke:H'[k]? =some (.row g cells):=by
    rcases hag k _ hk with h|h
    ·exact h
    ·rw[hk'] at h;cases h
   rw[hk'] at hke;obtain⟨rfl,rfl⟩:g'=g/\cells'=cells:=by injection (A1 hke) with h1 h2;exact⟨h1,h2⟩
   obtain⟨b,hb,rfl⟩:=hh rfl;exact⟨_,by simp only[execOp,hx,h',A4,QgM hT he hE h0 h1 w];rfl,.ptr _ _ _ _ rfl g' cells' hk' hg fun _=>⟨b,hb,by simp[hn]⟩⟩
def Qns{T e:A6}{F:TyF}{g len:Nat}{cells:List AV}(hT:tyf P T=some F)(he:F.elem=some e)(hu:aval env u= .rsl k g len)(hk:H[k]? =some (.row g cells)):
 Loc P ⟨dst,.call ⟨.builtin .len, #[u], #[T]⟩,ty,pos,after,gd⟩ env H (.d (.v (.int .i64 (len:Nat)))) none:=
 QR fun σ S H' a w _ hop hag=>by
  have h:=hop u (by simp[A7,B6]);rw[hu] at h;generalize hx:a.eval u=x at h;cases h with
  |rsl _ _ _ _ _ g' cells' hk' hg hh=>
   have hke:H'[k]? =some (.row g cells):=by
    rcases hag k _ hk with h|h
    ·exact h
    ·rw[hk'] at h;cases h
   rw[hk'] at hke;obtain⟨rfl,rfl⟩:g'=g/\cells'=cells:=by injection (A1 hke) with h1 h2;exact⟨h1,h2⟩
   obtain⟨b,hb,rfl⟩:=hh rfl;exact⟨_,by simp[execOp,resolve,invoke,builtin,Builtin.len_,hx,goInt,run_underlying (QdD hT he)];try rfl,.d _ _ (.v _)⟩
end
theorem Qih(b:Nat)(T:A6): ∀(vs:List AT) (o:Nat) (w:Af) (cs:Array AT),w.heap[b]? =some (.cells cs T (0,0))->o+vs.length<=cs.size->
 ∃cs2,(w.setCells b o vs).heap[b]? =some (.cells cs2 T (0,0))/\cs2.size=cs.size/\(∀j,j<o->cs2[j]? =cs[j]?)/\(∀(j:Nat) u,vs[j]? =some u->cs2[o+j]? =some u)/\
  (∀j,j≠b->(w.setCells b o vs).heap[j]? =w.heap[j]?)/\(w.setCells b o vs).heap.size=w.heap.size/\(w.setCells b o vs).os=w.os/\(w.setCells b o vs).tape=w.tape/\(w.setCells b o vs).output=w.output
 |[],o,w,cs,h,_=>⟨cs,h,rfl,fun _ _=>rfl,fun j u hj=>by simp at hj,fun _ _=>rfl,rfl,rfl,rfl,rfl⟩
 |v::vs,o,w,cs,h,hl=>by
  rw[Ac] at hl;have h1:=heap_setCell_same w b o cs T v h;obtain⟨cs2,g1,g2,g3,g4,g5,g6,g7,g8,g9⟩:=Qih b T vs (o+1) (w.setCell ⟨b,o,none⟩ v) _ h1 (by simp;omega);refine⟨cs2,g1,by grind,fun j hj=>?_,fun j u hj=>?_,fun j hj=>(g5 j hj).trans (heap_setCell_other w _ j v hj),by rw[World.setCells,g6];simp,g7,g8,g9⟩
  ·grind
  grind
theorem Sm.appendO{S:Nat->Prop}{H:List Blk}{g len:Nat}{T:A6}{rows:List (List D)}{v x:AT}{P:AR}{ty:A6}{i:TypeInfo}{z:AT}{news:List AT}
 (h:Sm B σ S H w) (hC:H[k]? =some (.arr g sz T rows)) (hv:OSl σ w k sz rows.length off len v) (hol:off+len=rows.length) (hsz:0<sz)
 (ht:P.underlying t=some (.slice T)) (hi:P.info? T=some i) (hz:i.zero=some z) (hsize:i.size=sz) (hzs:z.cells.size=sz)
 (hs:Src P sz tx x newrows.length news w) (hfl:Flat sz newrows (RelD S w) news) (hpos:0<newrows.length) (hbytes:(len+newrows.length)*i.bytes<=140737488355328) (hmax:len+newrows.length<=140737488355328):
 ∃v' w',(Builtin.append_ #[t,tx] ty #[v,x]).run P w= .ok v' w'/\
  ((∃σ',Sm B σ' S (H.set k (.arr (g+1) sz T (rows++newrows))) w'/\Ev σ S H w σ' S (H.set k (.arr (g+1) sz T (rows++newrows))) w'/\OSl σ' w' k sz (rows++newrows).length off (len+newrows.length) v')∨
   (∃σ',Sm B σ' S (H.set k (.arr (g+1) sz T (rows.drop off++newrows))) w'/\Ev σ S H w σ' S (H.set k (.arr (g+1) sz T (rows.drop off++newrows))) w'/\OSl σ' w' k sz (rows.drop off++newrows).length 0 (len+newrows.length) v')):=by
 subst hsize;obtain⟨hlen,hbk⟩:=h.blk k _ hC;have hdl:(rows.drop off).length=len:=by grind
 have hdlen: ∀r∈rows.drop off,r.length=i.size:=fun r hr=>hlen r (List.mem_of_mem_drop hr)
 have grown: ∀(xs:List AT) (old:Nat),Flat i.size (rows.drop off) (RelD S w) xs->old<len+newrows.length-> ∃σ',
  Sm B σ' S (H.set k (.arr (g+1) i.size T (rows.drop off++newrows))) (w.drew.alloc (.cells ((xs++news).toArray++AF z.cells (grownCap w (len+newrows.length) old T -(len+newrows.length))) T))/\
  Ev σ S H w σ' S (H.set k (.arr (g+1) i.size T (rows.drop off++newrows))) (w.drew.alloc (.cells ((xs++news).toArray++AF z.cells (grownCap w (len+newrows.length) old T -(len+newrows.length))) T))/\
  OSl σ' (w.drew.alloc (.cells ((xs++news).toArray++AF z.cells (grownCap w (len+newrows.length) old T -(len+newrows.length))) T)) k i.size (rows.drop off++newrows).length 0 (len+newrows.length)
   (.slice (some ⟨w.heap.size,0,none⟩) (len+newrows.length) (grownCap w (len+newrows.length) old T)):=by
  intro xs old hxs hold;have hge:=grownCap_ge w (len+newrows.length) old T;have hcm:grownCap w (len+newrows.length) old T<=maxLen:=grownCap_le_maxLen w (len+newrows.length) old T (by unfold maxLen;omega);generalize grownCap w (len+newrows.length) old T=cap at*;obtain⟨hd,hed⟩:=h.sameHeap (w':=w.drew) rfl rfl rfl rfl;have hall:=(hxs.append hfl)
  have hcs:((xs++news).toArray++AF z.cells (cap -(len+newrows.length))).size=cap*i.size:=by
   rw[Array.size_append,size_zeroCells,hzs];simp only[List.size_toArray];have:=hall.1;have h2:(rows.drop off++newrows).length=len+newrows.length:=by grind
   rw[h2] at this;rw[this,<-Aa];grind
  have hget: ∀(j:Nat) u,(xs++news)[j]? =some u->((xs++news).toArray++AF z.cells (cap -(len+newrows.length)))[j]? =some u:=by
   grind
  generalize (xs++news).toArray++AF z.cells (cap -(len+newrows.length))=cs at*;have hf:=hd.fill (κ:=k) (o:= .cells cs T) (C:= .arr (g+1) i.size T (rows.drop off++newrows)) hC ⟨by omega,rfl,rfl⟩ (fun e=>⟨hall.2.1,.inl ⟨w.heap.size,cs,Qdk _ _ _,Qeq w.drew _,fun a b r d ha hb=>?_⟩⟩)
  ·refine⟨_,hf.1,?_,by grind,.inl ⟨w.heap.size,cap,cs,T,Qdk _ _ _,hge,hcm,by simp,Qeq w.drew _,by grind⟩⟩
   exact⟨hf.2.s,hf.2.same,hf.2.row,hf.2.arr,hf.2.mp⟩
  ·obtain⟨u,hu,hr⟩:=hall.2.2 a b r d ha hb
   exact⟨u,hget _ _ hu,hr.mono (fun _ h=>h) e.same⟩
 rcases hv.2 with⟨b,cap,cs,T',hb,hl,hcm,rfl,hc,hcsz⟩|⟨hb,hl,rfl⟩
 ·rcases hbk with⟨b',cs',hb',hc',hrel⟩|⟨hb',_⟩
  rotate_left
  ·grind
  rw[hb] at hb';obtain rfl:=A1 hb';rw[hc] at hc';obtain⟨rfl,rfl⟩:cs=cs'/\T'=T:=by grind
  by_cases hroom:len+newrows.length<=cap
  ·have hfit:off*i.size+len*i.size+news.length<=cs.size:=by
    rw[hfl.1,hcsz,<-Aa,<-Aa];exact AG _ (by omega)
   obtain⟨cs2,g1,g2,g3,g4,g5,g6,g7,g8,g9⟩:=Qih b T' news (off*i.size+len*i.size) w cs hc hfit
   have hthere: ∀j,j<news.length-> ∃c,w.cell? ⟨b,off*i.size+len*i.size+j,none⟩=some c:=fun j hj=>
    ⟨_,by rw[cell_of_row w b _ cs T' (0,0) hc];exact AD (by omega)⟩
   have hr:=run_append_room_src (P:=P) w t tx ty T' i ht hi b (off*i.size) len cap x newrows.length news hs hroom (fun j hj=>by grind)
    (fun j hj=>frozen_of_row w b _ cs T' hc)
   have htn:=h.turn (w':=w.setCells b (off*i.size+len*i.size) news) (C':= .arr (g+1) i.size T' (rows++newrows)) hb hC ⟨by omega,rfl,rfl,fun e=>by omega⟩ g7 g8 g9 g6 g5
    (fun cs0 T0 h0=>by
      grind)
    (fun e=>⟨fun r hr=>by rcases Ax.1 hr with hr|hr;exact hlen r hr;exact hfl.2.1 r hr,.inl ⟨b,cs2,hb,g1,fun a j r d ha hj=>?_⟩⟩)
   ·exact⟨_,_,hr,.inl ⟨σ,htn.1,htn.2,by grind,.inl ⟨b,cap,cs2,T',hb,hroom,hcm,rfl,g1,by omega⟩⟩⟩
   ·have hrl:rows.length*i.size=off*i.size+len*i.size:=by grind
    rcases B9 a rows.length with hlt|hge
    ·rw[AE hlt] at ha
     obtain⟨u,hu,hrr⟩:=hrel a j r d ha hj;have hjl:j<i.size:=by grind
     have hlt2:a*i.size+j<rows.length*i.size:=by
      have h2:(a+1)*i.size<=rows.length*i.size:=AG _ (by omega)
      grind
     exact⟨u,by grind,hrr.mono (fun _ h=>h) e.same⟩
    ·rw[AM hge] at ha
     obtain⟨u,hu,hrr⟩:=hfl.2.2 _ j r d ha hj;have:=g4 _ u hu;refine⟨u,?_,hrr.mono (fun _ h=>h) e.same⟩;rw[<-this];congr 1;have h3:(a -rows.length)*i.size+rows.length*i.size=a*i.size:=by rw[<-Aa];grind
     omega
  ·have hxs:Flat i.size (rows.drop off) (RelD S w) ((cs.toList.drop (off*i.size)).take (len*i.size)):=by
    refine⟨?_,hdlen,fun a j r d ha hj=>?_⟩
    ·rw[hdl,Ad,List.length_drop,Array.length_toList,hcsz]
     have:len*i.size<=cap*i.size:=AG _ hl
     grind
    ·have ha2:=ha
     rw[List.getElem?_drop] at ha;obtain⟨u,hu,hrr⟩:=hrel _ j r d ha hj;refine⟨u,?_,hrr⟩;have hal:a<len:=by grind
     have hjl:j<i.size:=by grind
     have hlt2:a*i.size+j<len*i.size:=by
      have h2:(a+1)*i.size<=len*i.size:=AG _ (by omega)
      grind
     grind
   have holds:(Builtin.firstCells i.size len (.slice (some ⟨b,off*i.size,none⟩) len cap)).run P w.drew= .ok ((cs.toList.drop (off*i.size)).take (len*i.size)).toArray w.drew:=by
    refine run_firstCells_some w.drew i.size len ⟨b,off*i.size,none⟩ len cap _ (by rw[hxs.1,hdl]) fun j u hu=>?_
    rw[Qef];show w.cell? _=_;rw[cell_of_row w b _ cs T' (0,0) hc]
    grind
   have hr:=run_append_grow_src (P:=P) w t tx ty T' i z ht hi hz (some ⟨b,off*i.size,none⟩) len cap _ holds x newrows.length news hs (by omega) (by omega) (growslice_fits (by omega) hbytes)
   grind
 ·have hro:rows=[]:=by
   grind
  subst hro;subst hl;have hr:=run_append_grow_src (P:=P) w t tx ty T i z ht hi hz none 0 0 [] (by simpa using run_firstCells_none w.drew i.size 0 0 0) x newrows.length news hs (by omega) (by omega) (growslice_fits (by omega) hbytes);obtain⟨σ',h2,h3,h4⟩:=grown [] 0 ⟨by simp,fun r hr=>by simp at hr,fun i j r d hi=>by simp at hi⟩ (by omega)
  grind
def SrcOk(P:AR)(H:List Blk)(x:AV)(sz:Nat)(tx:A6)(newrows:List (List D)):Prop:=
 ∀B σ S w v,Sm B σ S H w->Rel σ S H w x v-> ∃news,Src P sz tx v newrows.length news w/\Flat sz newrows (RelD S w) news
theorem QqX{P:AR}{H:List Blk}{e:A6}{F:TyF} [ht:Ty P t F](he:F.elem=some e){g len:Nat}{T:A6}{rows:List (List D)}(hk:H[k]? =some (.arr g sz T rows))(hlen:len=rows.length)(hpos:0<len)(hcell: ∀r∈rows,∀d∈r,d.cell=true):
 SrcOk P H (.osl k g 0 len) sz t rows:=by
 intro B σ S w v hS h;subst hlen;cases h with
 |osl _ _ _ _ _ _ g' sz' T' rows' hk' hg hh=>
  rw[hk] at hk';obtain⟨rfl,rfl,rfl,rfl⟩:g=g'/\sz=sz'/\T=T'/\rows=rows':=by grind
  obtain⟨ax,cap,rfl,hn⟩:=OSl.cells hS hk (hh rfl) hcell;obtain⟨a,news,rfl,h3,h4,h5⟩:=hn hpos;rw[List.drop_zero,List.take_length] at h3;exact⟨news,Src.ofSlice w (QdD ht.h he) a rows.length cap news h3.1 h4 h5,h3⟩
section
variable{P:AR}{ops:Array Au}{Q:Exit->St->Prop}{l:List Au}{n:Nat}{env:List (Nat×AV)}{H:List Blk}{d:BF}{ty:A6}{pos:String}{after:Array B2}{gd:Option (Nat×Bool)}
theorem aw_appO{e:A6}{F E:TyF}{s x:A9}{g len:Nat}{rows:List (List D)} [ht:Ty P t F](he:F.elem=some e) [hE:Ty P e E](hz:E.zero.length=E.size:=by rfl)(hpos:B0 0 E.size=true:=by rfl)
 (hs:aval env s= .osl k g off len:=by rfl) (hk:H[k]? =some (.arr g E.size e rows):=by rfl) (hol:off+len=rows.length) (hx:SrcOk P H (aval env x) E.size tx newrows) (hnp:0<newrows.length)
 (hb:(len+newrows.length)*E.bytes<=140737488355328) (hm:len+newrows.length<=140737488355328)
 (hw:awanted ops env ⟨some d,.call ⟨.builtin .append, #[s,x], #[t,tx]⟩,ty,pos,after,gd⟩=some true:=by rfl) (hd:B0 d n=true:=by rfl) (hg:gdOk ops n ⟨some d,.call ⟨.builtin .append, #[s,x], #[t,tx]⟩,ty,pos,after,gd⟩=true:=by rfl)
 (k1:ASeq P ops Q l ⟨n,(d,.osl k (g+1) off (len+newrows.length))::env,H.set k (.arr (g+1) E.size e (rows++newrows))⟩)
 (k2:ASeq P ops Q l ⟨n,(d,.osl k (g+1) 0 (len+newrows.length))::env,H.set k (.arr (g+1) E.size e (rows.drop off++newrows))⟩):
 ASeq P ops Q (⟨some d,.call ⟨.builtin .append, #[s,x], #[t,tx]⟩,ty,pos,after,gd⟩::l) ⟨n,env,H⟩:=by
 intro B hB σ S a w hA;unfold wpList;rw[if_pos (QfV hA hw (QeZ hg))];refine .inl ?_;have hkl:k<H.length:=(A2.1 hk).1;have h1:Rel σ S H w (aval env s) (a.eval s):=Qev fun t _=>hA.env t
 have h2:Rel σ S H w (aval env x) (a.eval x):=Qev fun t _=>hA.env t
 rw[hs] at h1;generalize hv:a.eval s=v at h1;obtain⟨news,hsrc,hfl⟩:=hx B σ S w _ hA.sm h2;obtain⟨dd,i,z,hdd,hi,hzz,hsz,hby,hzl,_⟩:=Qea hE.h;have hzs:z.cells.size=E.size:=by rw[<-hz,<-hzl];simp
 have hu:=QdD ht.h he;cases h1 with
 |osl _ _ _ _ _ _ g' sz' T' rows' hk' hgg hh=>
  rw[hk] at hk';obtain⟨rfl,rfl,rfl,rfl⟩:g=g'/\E.size=sz'/\e=T'/\rows=rows':=by injection (A1 hk') with h1 h2 h3 h4;exact⟨h1,h2,h3,h4⟩
  obtain⟨v',w',hr,hcase⟩:=hA.sm.appendO (P:=P) (ty:=ty) hk (hh rfl) hol (by simp_all) hu hi hzz hsz hzs hsrc hfl hnp (by grind) hm
  have hexec:(execOp a.eval ⟨some d,.call ⟨.builtin .append, #[s,x], #[t,tx]⟩,ty,pos,after,gd⟩).run P w= .ok (.value v') w':=by
   simp only[execOp,resolve,invoke,builtin,A4,Sem.run_pure,A8,List.map_toArray,Ao,Ar,hv,hr]
  have hone: ∀{o:Nat} {R:Nat},OSl σ w' k E.size R o (len+newrows.length) v'∨(∃σ',OSl σ' w' k E.size R o (len+newrows.length) v')->v'.oneCell'=true:=fun h=>by
   rcases h with⟨_,⟨b,cap,cs,T',_,_,_,rfl,_⟩|⟨_,_,rfl⟩⟩|⟨_,⟨_,⟨b,cap,cs,T',_,_,_,rfl,_⟩|⟨_,_,rfl⟩⟩⟩<;>rfl
  rcases hcase with⟨σ',g1,g2,g3⟩|⟨σ',g1,g2,g3⟩
  ·exact QgE hexec (k1 B hB σ' S _ w' (hA.next' (dst:=some d) hd g1 (.osl k (g+1) off _ _ (hone (.inr ⟨σ',g3⟩)) (g+1) E.size e _ (AA hkl) (AH _) fun _=>g3) g2))
  ·exact QgE hexec (k2 B hB σ' S _ w' (hA.next' (dst:=some d) hd g1 (.osl k (g+1) 0 _ _ (hone (.inr ⟨σ',g3⟩)) (g+1) E.size e _ (AA hkl) (AH _) fun _=>g3) g2))
end
variable{P:AR}
section
variable{ops:Array Au}{Q:Exit->St->Prop}{K:St->Prop}{l:List Au}{n:Nat}{env:List (Nat×AV)}{H H':List Blk}{d:BF}{op:Op}{ty:A6}{pos:String}{after:Array B2}{gd:Option (Nat×Bool)}{x x':AV}{gl:List AV}
def Qms(ks:List Nat)(h:Does P f args H0 gl x H1)(hf: ∀args w,(callFunc f args).run P w= .ok (.enter f args) w)
 (hargs:xs.toList.map (aval env)=AV.renL (rho ks H.length) args) (hks:ks.map (fun k=>H[k]?)=(H0.map (Blk.ren (rho ks H.length))).map some) (hnd:ks.Nodup)
 (hla:AV.ltL H0.length args=true) (hlg:AV.ltL H0.length gl=true) (hlH:H0.all (Blk.lt H0.length)=true) (hgl: ∀g∈gl,g.ren (rho ks H.length)∈(xs.toList.map (aval env)).flatMap AV.parts++H.flatMap Blk.parts)
 (hX: ∀R:AV->Prop,R x'->R (x.ren (rho ks H.length))) (hH: ∀R:List Blk->Prop,R H'->R (place (rho ks H.length) H ks H1++(H1.drop ks.length).map (Blk.ren (rho ks H.length)))):
 Eff P ⟨some d,.call ⟨.value (.func f),xs,tys⟩,ty,pos,after,gd⟩ env H x' H':=by
 have:=Qi5 (o:=⟨some d,.call ⟨.value (.func f),xs,tys⟩,ty,pos,after,gd⟩) ks h (Qet hf) hargs hks hnd hla hlg hlH hgl;have h1:=hX (fun r=>r=x') rfl;have h2:=hH (fun r=>r=H') rfl;rw[h1,h2] at this;exact this
def Qs2(ks:List Nat){t:BF}(h:Does P f args H0 gl x H1)(hf: ∀args w,(callFunc f args).run P w= .ok (.enter f args) w)(ht:look env t= .fn (.func f) caps)
 (hargs:xs.toList.map (aval env)++caps=AV.renL (rho ks H.length) args) (hks:ks.map (fun k=>H[k]?)=(H0.map (Blk.ren (rho ks H.length))).map some) (hnd:ks.Nodup)
 (hla:AV.ltL H0.length args=true) (hlg:AV.ltL H0.length gl=true) (hlH:H0.all (Blk.lt H0.length)=true) (hgl: ∀g∈gl,g.ren (rho ks H.length)∈(xs.toList.map (aval env)++caps).flatMap AV.parts++H.flatMap Blk.parts)
 (hX: ∀R:AV->Prop,R x'->R (x.ren (rho ks H.length))) (hH: ∀R:List Blk->Prop,R H'->R (place (rho ks H.length) H ks H1++(H1.drop ks.length).map (Blk.ren (rho ks H.length)))):
 Eff P ⟨some d,.call ⟨.value (.tmp t),xs,tys⟩,ty,pos,after,gd⟩ env H x' H':=by
 have:=Qi5 (o:=⟨some d,.call ⟨.value (.tmp t),xs,tys⟩,ty,pos,after,gd⟩) ks h (QoT hf ht) hargs hks hnd hla hlg hlH hgl;have h1:=hX (fun r=>r=x') rfl;have h2:=hH (fun r=>r=H') rfl;rw[h1,h2] at this;exact this
def QfA(ks:List Nat){t:BF}(h:Does P f args H0 gl x H1)(hf: ∀args w,(callFunc f args).run P w= .ok (.enter f args) w)(ht:look env t= .fn (.func f) caps:=by rfl)
 (hargs:xs.toList.map (aval env)++caps=AV.renL (rho ks H.length) args:=by rfl) (hks:ks.map (fun k=>H[k]?)=(H0.map (Blk.ren (rho ks H.length))).map some:=by rfl) (hnd:ks.Nodup:=by decide)
 (hla:AV.ltL H0.length args=true:=by rfl) (hlg:AV.ltL H0.length gl=true:=by rfl) (hlH:H0.all (Blk.lt H0.length)=true:=by rfl) (hgl: ∀g∈gl,g.ren (rho ks H.length)∈(xs.toList.map (aval env)++caps).flatMap AV.parts++H.flatMap Blk.parts)
 (hX: ∀R:AV->Prop,R x'->R (x.ren (rho ks H.length)):=by intro R hR;simp only[AV.ren,AV.renL,rho,List.getElem?_cons_zero,List.getElem?_cons_succ];exact hR)
 (hH: ∀R:List Blk->Prop,R H'->R (place (rho ks H.length) H ks H1++(H1.drop ks.length).map (Blk.ren (rho ks H.length))):=by intro R hR;simp only[place,Blk.ren,AV.ren,AV.renL,rho,List.getElem?_cons_zero,List.getElem?_cons_succ,List.map_cons,List.map_nil,List.set_cons_zero,List.set_cons_succ,List.drop_succ_cons,List.drop_zero,List.drop_nil,List.append_nil,List.length_cons,List.length_nil,Nat.reduceAdd,Nat.zero_add];exact hR)
 (hw:awanted ops env ⟨some d,.call ⟨.value (.tmp t),xs,tys⟩,ty,pos,after,gd⟩=some true:=by rfl) (hd:B0 d n=true:=by rfl) (hg:gdOk ops n ⟨some d,.call ⟨.value (.tmp t),xs,tys⟩,ty,pos,after,gd⟩=true:=by rfl)
 (k:ASeq P ops Q l ⟨n,(d,x')::env,H'⟩):ASeq P ops Q (⟨some d,.call ⟨.value (.tmp t),xs,tys⟩,ty,pos,after,gd⟩::l) ⟨n,env,H⟩:=
 Qiv (Qs2 ks h hf ht hargs hks hnd hla hlg hlH hgl hX hH) hw hd hg k
def Qf9(ks:List Nat)(h:Does P f args H0 gl x H1)(hf: ∀args w,(callFunc f args).run P w= .ok (.enter f args) w)
 (hargs:xs.toList.map (aval env)=AV.renL (rho ks H.length) args:=by rfl) (hks:ks.map (fun k=>H[k]?)=(H0.map (Blk.ren (rho ks H.length))).map some:=by rfl) (hnd:ks.Nodup:=by decide)
 (hla:AV.ltL H0.length args=true:=by rfl) (hlg:AV.ltL H0.length gl=true:=by rfl) (hlH:H0.all (Blk.lt H0.length)=true:=by rfl) (hgl: ∀g∈gl,g.ren (rho ks H.length)∈(xs.toList.map (aval env)).flatMap AV.parts++H.flatMap Blk.parts)
 (hX: ∀R:AV->Prop,R x'->R (x.ren (rho ks H.length)):=by intro R hR;simp only[AV.ren,AV.renL,rho,List.getElem?_cons_zero,List.getElem?_cons_succ];exact hR)
 (hH: ∀R:List Blk->Prop,R H'->R (place (rho ks H.length) H ks H1++(H1.drop ks.length).map (Blk.ren (rho ks H.length))):=by intro R hR;simp only[place,Blk.ren,AV.ren,AV.renL,rho,List.getElem?_cons_zero,List.getElem?_cons_succ,List.map_cons,List.map_nil,List.set_cons_zero,List.set_cons_succ,List.drop_succ_cons,List.drop_zero,List.drop_nil,List.append_nil,List.length_cons,List.length_nil,Nat.reduceAdd,Nat.zero_add];exact hR)
 (hw:awanted ops env ⟨some d,.call ⟨.value (.func f),xs,tys⟩,ty,pos,after,gd⟩=some true:=by rfl) (hd:B0 d n=true:=by rfl) (hg:gdOk ops n ⟨some d,.call ⟨.value (.func f),xs,tys⟩,ty,pos,after,gd⟩=true:=by rfl)
 (k:ASeq P ops Q l ⟨n,(d,x')::env,H'⟩):ASeq P ops Q (⟨some d,.call ⟨.value (.func f),xs,tys⟩,ty,pos,after,gd⟩::l) ⟨n,env,H⟩:=
 Qiv (Qms ks h hf hargs hks hnd hla hlg hlH hgl hX hH) hw hd hg k
def Qte{dst:Option BF}(h:Eff P ⟨dst,op,ty,pos,after,gd⟩ env H x H')(hw:awanted ops env ⟨dst,op,ty,pos,after,gd⟩=some true:=by rfl)(hd:dstOk n dst=true:=by rfl)(hg:gdOk ops n ⟨dst,op,ty,pos,after,gd⟩=true:=by rfl)
 (k:K ⟨n,putE env dst x,H'⟩):AStep P ops ⟨dst,op,ty,pos,after,gd⟩ K ⟨n,env,H⟩:=astep h hw hd hg k
end
theorem Sm.recell{S:Nat->Prop}{H:List Blk}{g:Nat}{cells:List AV}{x:AV}(h:Sm B σ S H w)(hC:H[k]? =some (.row g cells))(ho:cells[o]? =some x)(hxy: ∀v,Rel σ S H w x v->Rel σ S H w y v):
 Sm B σ S (H.set k (.row g (cells.set o y))) w/\Ev σ S H w σ S (H.set k (.row g (cells.set o y))) w:=by
 have hkl:k<H.length:=(A2.1 hC).1;have hol:o<cells.length:=(A2.1 ho).1;have hget: ∀j D,j≠k->H[j]? =some D->(H.set k (.row g (cells.set o y)))[j]? =some D:=fun j D hj hD=>(AN (fun e=>hj e.symm)).trans hD
 have e:Ev σ S H w σ S (H.set k (.row g (cells.set o y))) w:=by
  refine⟨fun _ h=>h,fun _ _=>rfl,fun j g' cells' hD=>?_,fun j g' sz T rows hD=>?_,fun j g' l hD=>?_⟩
  ·grind
  ·grind
  grind
 refine⟨⟨h.os,h.tape,h.output,h.size,h.keep,h.sLo,h.sUp,fun k' b hk=>h.σUp k' b (by grind),fun k1 k2 b h1 h2=>h.inj k1 k2 b (by grind) (by grind),fun j D hD=>?_⟩,e⟩
 by_cases hj:j=k
 ·subst hj
  rw[AA hkl] at hD;obtain rfl:=A1 hD;rcases h.blk j _ hC with⟨b,cs,T,hb,hc,hr⟩|⟨_,hnil⟩
  ·refine .inl ⟨b,cs,T,hb,hc,fun i z hz=>?_⟩
   by_cases hi:i=o
   ·subst hi
    rw[AA hol] at hz;obtain rfl:=A1 hz;obtain⟨v,hv,hrv⟩:=hr i x ho;exact⟨v,hv,(hxy v hrv).mono e⟩
   ·rw[AN (fun e=>hi e.symm)] at hz
    obtain⟨v,hv,hrv⟩:=hr i z hz;exact⟨v,hv,hrv.mono e⟩
  grind
 ·rw[AN (fun e=>hj e.symm)] at hD
  exact(h.blk j D hD).mono e rfl fun b _=>rfl
theorem Qlu(k o sz:Nat)(T:A6){c:Code}{Q:Exit->St->Prop}{n g:Nat}{env:List (Nat×AV)}{H H':List Blk}{cells:List AV}(hk:H[k]? =some (.row g cells):=by rfl)(ho:cells[o]? =some (.d (.v (.slice none 0 0))):=by rfl)
 (hH: ∀R:List Blk->Prop,R H'->R (List.set (H++[Blk.arr 0 sz T []]) k (Blk.row g (cells.set o (AV.osl H.length 0 0 0)))):=by intro R hR;simp only[List.cons_append,List.nil_append,List.set_cons_zero,List.set_cons_succ,List.length_cons,List.length_nil,Nat.zero_add,Nat.reduceAdd];exact hR)
 (h:AWP P c Q ⟨n,env,H'⟩):AWP P c Q ⟨n,env,H⟩:=by
 have:=hH (fun r=>r=H') rfl;subst this;refine QgD ?_ h;intro B σ S a w hA;obtain⟨h1,h2,h3⟩:=hA.sm.virt sz T;have hkl:k<H.length:=(A2.1 hk).1
 obtain⟨h4,h5⟩:=h1.recell (y:= .osl H.length 0 0 0) (by rw[AE hkl];exact hk) ho (fun v hv=>by
  have:v= .slice none 0 0:=AV.conc_rel hv (y:= .slice none 0 0) rfl
  grind)
 exact⟨_,S,h4,hA.defers,hA.size,fun u=>((hA.env u).mono h2).mono h5⟩
variable{P:AR}
section
variable{dst:Option BF}{ty:A6}{pos:String}{after:Array B2}{gd:Option (Nat×Bool)}{env:List (Nat×AV)}{H:List Blk}
def Qmk(op:BinOp)(T:A6)(x y:A9)(a b:Option BB)(w:Af):(eqGuard op T x y (.pointer a) (.pointer b)).run P w= .ok () w:=by
 unfold eqGuard;simp
def Qn2(op:BinOp)(T:A6)(x y:A9)(a b:Option BB)(n n' c c':Nat)(w:Af):(eqGuard op T x y (.slice a n c) (.slice b n' c')).run P w= .ok () w:=by
 unfold eqGuard;simp
def Qsu{T:A6}(hT:P.underlying T=some (.pointer E))(a:Option BB)(w:Af):(AW (9999+1) T (.pointer a) (.pointer none)).run P w= .ok a.isNone w:=by
 unfold AW;rw[A4,run_underlying hT,A8];cases a<;>rfl
def eq_snil{T:A6}(hT:P.underlying T=some (.slice E))(a:Option BB)(n c:Nat)(w:Af):(AW (9999+1) T (.slice a n c) (.slice none 0 0)).run P w= .ok a.isNone w:=by
 unfold AW;rw[A4,run_underlying hT,A8];cases a<;>rfl
def QoU{T:A6}(hT:P.underlying T=some (.pointer E))(x y:A9)(a:Option BB)(w:Af):
 (do eqGuard .eql T x y (.pointer a) (.pointer none);binOp .eql T (.pointer a) (.pointer none):Sem AT).run P w= .ok (.bool (a.isNone)) w:=by
 rw[A4,Qmk,A8];show(AW (9999+1) T (.pointer a) (.pointer none)>>=fun b=>pure (B3 b)).run P w=_;rw[A4,Qsu hT];rfl
def Qj4{T:A6}(hT:P.underlying T=some (.pointer E))(x y:A9)(a:Option BB)(w:Af):
 (do eqGuard .neq T x y (.pointer a) (.pointer none);binOp .neq T (.pointer a) (.pointer none):Sem AT).run P w= .ok (.bool (!a.isNone)) w:=by
 rw[A4,Qmk,A8];show(AW (9999+1) T (.pointer a) (.pointer none)>>=fun b=>pure (B3 !b)).run P w=_;rw[A4,Qsu hT];rfl
def Qi7{T:A6}(hT:P.underlying T=some (.slice E))(x y:A9)(a:Option BB)(n c:Nat)(w:Af):
 (do eqGuard .eql T x y (.slice a n c) (.slice none 0 0);binOp .eql T (.slice a n c) (.slice none 0 0):Sem AT).run P w= .ok (.bool (a.isNone)) w:=by
 rw[A4,Qn2,A8];show(AW (9999+1) T (.slice a n c) (.slice none 0 0)>>=fun b=>pure (B3 b)).run P w=_;rw[A4,eq_snil hT];rfl
def Qgj{T:A6}{cells:List D}(hT:P.underlying T=some (.pointer E))(hu:aval env u= .d (.pd cells)):Loc P ⟨dst,.binOp .eql T u (.const (.pointer none)) T',ty,pos,after,gd⟩ env H (.d (.v (.bool false))) none:=
 QR fun σ S H' a w _ hop _=>by
  have h:=hop u (by simp[A7]);rw[hu] at h;generalize hx:a.eval u=x at h;cases h with
  |d _ _ h=>cases h;exact⟨_,by simp only[execOp,hx];rw[A4,show a.eval (.const (.pointer none))= .pointer none from rfl,QoU hT u (.const (.pointer none)) _ w];rfl,.d _ _ (.v _)⟩
def Qhm{T:A6}{cells:List D}(hT:P.underlying T=some (.pointer E))(hu:aval env u= .d (.pd cells)):Loc P ⟨dst,.binOp .neq T u (.const (.pointer none)) T',ty,pos,after,gd⟩ env H (.d (.v (.bool true))) none:=
 QR fun σ S H' a w _ hop _=>by
  have h:=hop u (by simp[A7]);rw[hu] at h;generalize hx:a.eval u=x at h;cases h with
  |d _ _ h=>cases h;exact⟨_,by simp only[execOp,hx];rw[A4,show a.eval (.const (.pointer none))= .pointer none from rfl,Qj4 hT u (.const (.pointer none)) _ w];rfl,.d _ _ (.v _)⟩
def Qje{T:A6}(hT:P.underlying T=some (.pointer E))(hu:aval env u= .d (.v (.pointer none))):Loc P ⟨dst,.binOp .eql T u (.const (.pointer none)) T',ty,pos,after,gd⟩ env H (.d (.v (.bool true))) none:=
 loc_bin' (X:= .pointer none) (Y:= .pointer none) (by rw[hu];rfl) rfl fun w=>QoU hT u (.const (.pointer none)) none w
def Qim{T:A6}(hT:P.underlying T=some (.pointer E))(hu:aval env u= .d (.v (.pointer none))):Loc P ⟨dst,.binOp .neq T u (.const (.pointer none)) T',ty,pos,after,gd⟩ env H (.d (.v (.bool false))) none:=
 loc_bin' (X:= .pointer none) (Y:= .pointer none) (by rw[hu];rfl) rfl fun w=>Qj4 hT u (.const (.pointer none)) none w
def QpI{T:A6}(hT:P.underlying T=some (.slice E))(hu:aval env u= .d (.v (.slice none 0 0))):Loc P ⟨dst,.binOp .eql T u (.const (.slice none 0 0)) T',ty,pos,after,gd⟩ env H (.d (.v (.bool true))) none:=
 loc_bin' (X:= .slice none 0 0) (Y:= .slice none 0 0) (by rw[hu];rfl) rfl fun w=>Qi7 hT u (.const (.slice none 0 0)) none 0 0 w
def QgQ{T:A6}{n:Nat}{r:List D}{rows:List (List D)}(hT:P.underlying T=some (.slice E))(hu:aval env u= .d (.sl c n (r::rows))):Loc P ⟨dst,.binOp .eql T u (.const (.slice none 0 0)) T',ty,pos,after,gd⟩ env H (.d (.v (.bool false))) none:=
 QR fun σ S H' a w _ hop _=>by
  have h:=hop u (by simp[A7]);rw[hu] at h;generalize hx:a.eval u=x at h;cases h with
  |d _ _ h=>cases h;exact⟨_,by simp only[execOp,hx];rw[A4,show a.eval (.const (.slice none 0 0))= .slice none 0 0 from rfl,Qi7 hT u (.const (.slice none 0 0)) _ _ _ w];rfl,.d _ _ (.v _)⟩
end
variable{P:AR}
section
variable{dst:Option BF}{ty:A6}{pos:String}{after:Array B2}{gd:Option (Nat×Bool)}{env:List (Nat×AV)}{H:List Blk}
theorem QeA{T:A6}{D1:TypeDesc}{x:A9}{k k':IntKind}{n m:Int}(h1:P.underlying T=some D1)(h2:P.underlying T'=some (.int k'))(hD:D1= .int k)(hx:aval env x= .d (.v (.int k n)))(hm:k'.wrap n=m):
 Loc P ⟨dst,.convert T T' x,ty,pos,after,gd⟩ env H (.d (.v (.int k' m))) none:=
 QR fun σ S H' a w _ hop _=>by
  subst hD;have a1:=AV.conc_rel (hop x (by simp[A7])) (y:= .int k n) (by rw[hx];rfl);refine⟨.int k' m,?_,.d _ _ (.v _)⟩;simp only[execOp,a1];rw[A4];unfold convert;rw[A4,run_underlying h1,A8,A4,run_underlying h2,A8];simp only[Conv.intToInt,hm];rfl
def QtP{T:A6}{x y:A9}{n:Int}(hx:aval env x= .d (.v (.int .u64 n)))(hy:aval env y= .d (.v (.int .u64 1)))(h:0<=n):
 Loc P ⟨dst,.binOp .shr T x y T',ty,pos,after,gd⟩ env H (.d (.v (.int .u64 (n/2)))) none:=
 loc_bin' (X:= .int .u64 n) (Y:= .int .u64 1) (by rw[hx];rfl) (by rw[hy];rfl) fun w=>by
  rw[A4,Qer,A8];have:n.fdiv 2=n/2:=Int.fdiv_eq_ediv_of_nonneg n (by omega);show(Op.shift .shr .u64 n .u64 1).run P w=_;unfold Op.shift;rw[if_neg (by omega)];show _=(Result.ok (Value.int .u64 (n/2)) w:Result AT);rw[<-this];rfl
def loc_as{o:Au}{x:AV}(h:Loc P o env H x none)(hxy: ∀(σ:Sg) (S:Nat->Prop) (H':List Blk) (w:Af) (v:AT),Rel σ S H' w x v->Rel σ S H' w y v):Loc P o env H y none:=by
 intro B σ S H' a w hB hS hop hag hk K Q k;exact h B σ S H' a w hB hS hop hag hk K Q fun v w' σ' S' hS' hr hev=>k v w' σ' S' hS' (hxy _ _ _ _ _ hr) hev
theorem Qmd{T e:A6}{F E:TyF}{x:A9}{g len:Nat}{rows:List (List D)} [hT:Ty P T F](he:F.elem=some e) [hE:Ty P e E](hu:aval env u= .osl k g off len)(hk:H[k]? =some (.arr g sz T0 rows))(hn:E.size=sz)(hx:aval env x= .d (.v (.int κ i)))
 (h0:0<=i) (h1:i<len):Loc P ⟨dst,.slice T u (some x) none none,ty,pos,after,gd⟩ env H (.osl k g (off+i.toNat) (len -i.toNat)) none:=
 QR fun σ S H' a w _ hop hag=>by
  subst hn;have h:=hop u (by simp[A7]);have a2:=AV.conc_rel (hop x (by simp[A7])) (y:= .int κ i) (by rw[hx];rfl);rw[hu] at h;generalize hv:a.eval u=v at h;have hT':=QdD hT.h he;have hel:=QhV hT';have hT'':P.underlying T=some (.slice (P.elem T)):=by rw[hel];exact hT'
  cases h with
  |osl _ _ _ _ _ _ g' sz' T' rows' hk' hg hh=>
   have hke:H'[k]? =some (.arr g E.size T0 rows):=by
    rcases hag k _ hk with h|h
    ·exact h
    grind
   rw[hk'] at hke;obtain⟨rfl,rfl,rfl,rfl⟩:g'=g/\sz'=E.size/\T'=T0/\rows'=rows:=by injection (A1 hke) with h1 h2 h3 h4;exact⟨h1,h2,h3,h4⟩
   obtain⟨hle,hh⟩:=hh rfl;rcases hh with⟨b,cap,cs,T',hb,hl,hm,rfl,hc,hs⟩|⟨hb,rfl,rfl⟩
   ·refine⟨.slice (some ⟨b,(off+i.toNat)*E.size,none⟩) (len -i.toNat) (cap -i.toNat),?_,?_⟩
    ·simp only[execOp,Ag,Ay,hv,a2,A4,run_sliceAt_slice _ _ _ _ _ _ hT'']
     rw[run_slice_l w T _ len cap hT'' _ _ h0 (by omega),hel,Qeb hE.h]
     have hsl:sliced (some ⟨b,off*E.size,none⟩) i.toNat len cap E.size= .slice (some ⟨b,(off+i.toNat)*E.size,none⟩) (len -i.toNat) (cap -i.toNat):=by
      unfold sliced;rw[if_neg (by omega)];simp only[Ag,Qef,Aa]
     simp_all
    ·refine .osl _ _ _ _ _ rfl g' E.size _ rows' hk' hg fun _=>⟨by omega,.inl ⟨b,cap -i.toNat,cs,T',hb,by omega,by omega,rfl,hc,?_⟩⟩
     grind
   ·omega
theorem QpJ{T e:A6}{F E:TyF}{x:A9}{g len:Nat}{rows:List (List D)} [hT:Ty P T F](he:F.elem=some e) [hE:Ty P e E](hu:aval env u= .osl k g off len)(hk:H[k]? =some (.arr g sz T0 rows))(hn:E.size=sz)(hx:aval env x= .d (.v (.int κ i)))
 (h0:0<=i) (h1:i=len):Loc P ⟨dst,.slice T u (some x) none none,ty,pos,after,gd⟩ env H (.d (.sl false sz [])) none:=
 QR fun σ S H' a w _ hop hag=>by
  subst hn;have h:=hop u (by simp[A7]);have a2:=AV.conc_rel (hop x (by simp[A7])) (y:= .int κ i) (by rw[hx];rfl);rw[hu] at h;generalize hv:a.eval u=v at h;have hT':=QdD hT.h he;have hel:=QhV hT';have hT'':P.underlying T=some (.slice (P.elem T)):=by rw[hel];exact hT'
  obtain⟨ad,cap,rfl,hle⟩: ∃ad cap,v= .slice ad len cap/\len<=cap:=by
   cases h with
   |osl _ _ _ _ _ _ g' sz' T' rows' hk' hg hh=>
    have hke:H'[k]? =some (.arr g E.size T0 rows):=by
     rcases hag k _ hk with h|h
     ·exact h
     grind
    rw[hk'] at hke;obtain⟨rfl,rfl,rfl,rfl⟩:g'=g/\sz'=E.size/\T'=T0/\rows'=rows:=by injection (A1 hke) with h1 h2 h3 h4;exact⟨h1,h2,h3,h4⟩
    obtain⟨_,hh⟩:=hh rfl
    grind
  refine⟨sliced ad i.toNat len cap E.size,?_,?_⟩
  ·simp only[execOp,Ag,Ay,hv,a2,A4,run_sliceAt_slice _ _ _ _ _ _ hT'']
   rw[run_slice_l w T ad len cap hT'' _ _ h0 (by omega),hel,Qeb hE.h];rfl
  ·unfold sliced
   rw[show len -i.toNat=0 by omega];split<;>exact .d _ _ (.slnil _ _ _ _)
section
variable{T kt et:A6}{z:AT}
theorem QdL(hT:P.underlying T=some (.map kt et))(hk:P.underlying kt=some (.int .i64))(hz:(P.info? et).bind (·.zero)=some z){v:A9}{g:Nat}{n:Int}{d:D}
 (hu:aval env u= .mp k g) (hH:H[k]? =some (.mp g (imap m))) (hv:aval env v= .d (.v (.int .i64 n))) (hg:(mget m n).getD (.v z)=d):Loc P ⟨dst,.lookup T u v false,ty,pos,after,gd⟩ env H (.d d) none:=by
 subst hg;exact QpL hT hk hz hu hH hv
theorem Qfd(hT:P.underlying T=some (.map kt et))(hk:P.underlying kt=some (.int .i64))(hz:(P.info? et).bind (·.zero)=some (.slice none 0 0)){v:A9}{n:Int}{l:List (List D)}
 (hu:aval env u= .d (.mp (imap m))) (hv:aval env v= .d (.v (.int .i64 n))) (hg:mget m n=some (.sl c sz l)∨mget m n=none/\l=[]):Loc P ⟨dst,.lookup T u v false,ty,pos,after,gd⟩ env H (.d (.sl c sz l)) none:=by
 have h:=QgR (dst:=dst) (ty:=ty) (pos:=pos) (after:=after) (gd:=gd) (H:=H) hT hk hz hu hv;rcases hg with hg|⟨hg,rfl⟩
 ·grind
 ·rw[hg] at h
  refine loc_as h fun σ S H' w v hr=>?_
  cases hr with
  |d _ _ hr=>cases hr;exact .d _ _ (.slnil _ _ _ _)
end
end
theorem Qh6{T kt et:A6}{ops:Array Au}{Q:Exit->St->Prop}{l:List Au}{nt:Nat}{env:List (Nat×AV)}{H H':List Blk}{ty:A6}{pos:String}{after:Array B2}{gd:Option (Nat×Bool)}(hT:P.underlying T=some (.map kt et))(hk:P.underlying kt=some (.int .i64)){v x:A9}{g:Nat}{n:Int}{d:D}
 (hu:aval env u= .mp k g:=by rfl) (hH0:H[k]? =some (.mp g (imap m)):=by rfl) (hv:aval env v= .d (.v (.int .i64 n)):=by rfl) (hx:aval env x= .d d:=by rfl)
 (hw:awanted ops env ⟨none,.mapUpdate T u v x,ty,pos,after,gd⟩=some true:=by rfl) (hg:gdOk ops nt ⟨none,.mapUpdate T u v x,ty,pos,after,gd⟩=true:=by rfl)
 (hH: ∀R:List Blk->Prop,R H'->R (H.set k (.mp g (imap (mset m n d)))):=by intro R hR;simp only[List.set_cons_zero,List.set_cons_succ];exact hR)
 (kk:ASeq P ops Q l ⟨nt,env,H'⟩):ASeq P ops Q (⟨none,.mapUpdate T u v x,ty,pos,after,gd⟩::l) ⟨nt,env,H⟩:=by
 refine QjE (Qlf hT hk hu hH0 hv hx) hw hg ?_;have:=hH (fun r=>r=H') rfl
 grind
def Qky{ops:Array Au}{K:St->Prop}{n:Nat}{env:List (Nat×AV)}{H H':List Blk}{ty:A6}{pos:String}{after:Array B2}{gd:Option (Nat×Bool)}{T:A6}{F:TyF}{v:A9}{g:Nat}{cells lc:List AV} [hT:Ty P T F](hu:aval env u= .ptr k g o:=by rfl)(hk:H[k]? =some (.row g cells):=by rfl)
 (hv: ∀R:Option (List AV)->Prop,R (some lc)->R (aval env v).cells:=by intro R hR;simp only[go_sem,Nat.reduceEqDiff,Nat.reduceAdd,Nat.reduceLT,Nat.reduceLeDiff,↓reduceIte,reduceCtorEq];exact hR)
 (hone:lc.all AV.one=true:=by rfl) (hsz:lc.length=F.size:=by rfl) (hlen:BE (o+lc.length) cells.length=true:=by rfl) (hw:awanted ops env ⟨none,.store T u v,ty,pos,after,gd⟩=some true:=by rfl) (hg:gdOk ops n ⟨none,.store T u v,ty,pos,after,gd⟩=true:=by rfl)
 (hH: ∀R:List Blk->Prop,R H'->R (H.set k (.row g (setAt cells o lc))):=by intro R hR;simp only[setAt,List.set_cons_zero,List.set_cons_succ,Nat.zero_add,Nat.reduceAdd];exact hR)
 (kk:K ⟨n,env,H'⟩):AStep P ops ⟨none,.store T u v,ty,pos,after,gd⟩ K ⟨n,env,H⟩:=
 Qte (Qmr hT.h hu hk (hv (fun r=>r=some lc) rfl) hone hsz (AU hlen)) hw rfl hg (by have:=hH (fun r=>r=H') rfl;rw[this];exact kk)
def QnT(t:Nat)(b:Bool)(m:Nat){ops:Array Au}{Q:Exit->St->Prop}{l:List Au}{n:Nat}{env:List (Nat×AV)}{H:List Blk}{a₀:Option BB}{k₀:Nat}(ht:look env t= .d (.v (.slice a₀ 0 k₀)):=by rfl)
 (h:ASeq P ops Q l ⟨n,(t,.d (.sl b m []))::env,H⟩):ASeq P ops Q l ⟨n,env,H⟩:=QmF (QnY t b m ht) h
attribute [local irreducible] ASeq ADraw AWP Loc AStep Fg.PlanF Fg.Flts
abbrev dStore(rows:List (List UInt8))(refs last:List Int)(txg:Int)(gone:List Pl.Ptr)(keep:Int)(dead:List Pl.Ptr)(same:Bool):D:=
 .agg [dStrs rows,dInts refs,dInts last,dI txg,dPtrs gone,dI keep,dPtrs dead,dB same]
def Qj(rows:List (List UInt8))(p:Pl.Ptr):List UInt8×Bool:=
 if Pl.ptrHole p then([],true) else if QaX p (rows.getD p.pat.toNat []) then(rows.getD p.pat.toNat [],true) else([],false)
theorem al7Read(rows:List (List UInt8))(refs last:List Int)(txg:Int)(gone:List Pl.Ptr)(keep:Int)(dead:List Pl.Ptr)(same:Bool)(p:Pl.Ptr)
 (hs: ∀s∈rows,s.length<=Pm.big) (hp:Pl.ptrHole p=false->0<=p.pat/\p.pat<rows.length):
 Pure AB 78 [dStore rows refs last txg gone keep dead same,dPtr p] (.tup [dS (Qj rows p).1,dB (Qj rows p).2]):=by
 refine kN ?_;simp only[parE,dPtr,As];refine kR ?_;refine Qa 0 (h:=?_);refine Qa 1 (h:=?_);cases h1:Pl.ptrHole p;rotate_left
 ·repeat' first|refine kS ?_|refine qS (lC (h1▸Qdt p)) ?_|refine kU ?_|fail
  all_goals exact Qb (hx:=by simp[Qj,h1])
 ·obtain⟨h2,h3⟩:=hp h1
  have hlt:p.pat.toNat<rows.length:=by omega
  obtain⟨s,hsd⟩: ∃s,s=rows[p.pat.toNat]:=⟨_,rfl⟩;have hr:(rows.map fun s=>[dS s])[p.pat.toNat]? =some [dS s]:=by rw[AK,A0 hlt,hsd];rfl
  have hg:Ah (rows.getD p.pat.toNat []=s):=by rw[AO,A0 hlt,hsd];rfl
  have hsl:s.length<=Pm.big:=hs s (by rw[hsd];exact List.getElem_mem hlt);clear hsd
  repeat' first|refine kS ?_|refine qS (lC (h1▸Qdt p)) ?_|refine qD (lC (Qpl p s hsl)) ?_|refine qD (Qdc Ty.h rfl Ty.h rfl rfl rfl h2 hr) ?_|refine qS (Qdc Ty.h rfl Ty.h rfl rfl rfl h2 hr) ?_|refine kU ?_|refine kV ?_ ?_<;>intro q|fail
  all_goals exact Qb (hx:=by simp_all[Qj,hg.out])
abbrev tStrs(l:List (List UInt8)):D:= .sl true 1 (l.map fun s=>[dS s])
abbrev tPtrs(l:List Pl.Ptr):D:= .sl true 5 (l.map fun p=>[dI p.pat,dI p.birth,dI p.size,dI p.sum,dI p.level])
def Qh9(n:Nat)(hn:n<=16):Pure AB 133 [dI n] (tPtrs (AZ n Pl.hole)):=by
 refine kN ?_;simp only[parE]
 repeat' first|refine kS ?_|refine stepS2 (Qi1 Ty.h rfl Ty.h rfl rfl rfl (by simp;omega) (by omega)) (k:=?_)|refine kU ?_|fail
 refine Qa 0 (h:=?_);exact Qb (hx:=by simp[Pl.hole])
theorem al2Cut(s:List UInt8)(b:UInt8)(hs:s.length<=1000000000000):Pure AB 107 [dS s,.v (.int .u8 b.toNat)] (tStrs (Pl.cutB b s)):=by
 have hb256:=B4 b;refine kN ?_;simp only[parE,As]
 repeat refine kA ?_
 refine Qs (fun m st=> ∃(k f g:Nat) (out:List (List UInt8)),k<=s.length/\m=s.length -k/\f<=k/\Ah (Pl.cutB b s=out++Pl.cutB b (s.drop f))/\Ah (b∉(s.drop f).take (k -f))/\out.length<=f/\
  st=⟨35,[(5,.osl 0 g 0 out.length),(6,.d (dI f)),(7,.d (dI k)),(0,.d (dS s)),(1,.d (.v (.int .u8 b.toNat)))],[.arr g 1 9 (out.map fun s=>[dS s])]⟩) [5,6,7,0,1] 1 s.length ⟨0,0,0,[],by omega,rfl,by omega,Pm.hid rfl,Pm.hid (by simp),by simp,rfl⟩ (round:=?_)
 rintro m st ⟨k,f,g,out,hk,rfl,hf,hO,hN,hlen,rfl⟩
 repeat refine kG ?_
 cases q3:decide ((k:Int)<(s.length:Int))
 ·have hA:(s.length:Int)<=s.length:=by omega
  repeat' first|refine kS ?_|refine qS (Qfw rfl rfl rfl (by omega) (by omega)) ?_|refine QU Ty.h rfl Ty.h (hb:=?_) (kk:=?_)|refine kU ?_|fail
  ·simp;omega
  refine Qa 0 (h:=?_);simp at q3;have:k=s.length:=by omega
  subst this;have h:=hN.out;rw[A5 (by simp)] at h;exact Qb (hx:=by rw[hO.out,Pl.QeL _ _ h];simp[A5])
 simp at q3;have q3:k<s.length:=by omega
 obtain⟨c,hc⟩: ∃c,s[k]? =some c:=⟨_,A0 q3⟩;have hc':s[(k:Int).toNat]? =some c:=hc;have hc2:=Pm.hid hc;clear hc
 repeat' first|refine kS ?_|refine qS (Qg2 rfl rfl rfl rfl (by omega) (by omega) (by omega)) ?_|refine qS (Qen Ty.h rfl rfl rfl (by omega) hc') ?_|refine QU Ty.h rfl Ty.h (hb:=?_) (kk:=?_)|refine kU ?_|refine kV ?_ ?_<;>intro q|fail
 ·simp;omega
 ·have h:=Pl.QsH hf q3 hN.out (by have h:=hc2.out;rw[A0 q3] at h;rw[A1 h];exact Az.1 (B7 (by simpa using q)))
  refine Qn (s.length -(k+1)) (by omega) ⟨k+1,k+1,g+1,out++[(s.drop f).take (k -f)],by omega,rfl,by omega,Pm.hid (by rw[hO.out,h];simp),Pm.hid (by simp),by simp;omega,?_⟩;simp[List.drop_take,go_sem,keepE]
 ·refine Qn (s.length -(k+1)) (by omega) ⟨k+1,f,g,out,by omega,rfl,by omega,hO,Pm.hid (Pl.QlU hf q3 hN.out ?_),hlen,rfl⟩
  have h:=hc2.out;rw[A0 q3] at h;rw[A1 h];intro e;subst e;simp at q
def QE(s:List UInt8):Pl.Ptr×Bool:=open Classical in if h: ∃p,Pl.IsPtr s p then(Classical.choose h,true) else(Pl.hole,false)
def pg_is{s:List UInt8}(h:Pl.IsPtr s p):QE s=(p,true):=by
 unfold QE;have hx: ∃p,Pl.IsPtr s p:=⟨p,h⟩;rw[dif_pos hx,Pl.Qmj (Aj hx) h]
def QuX{s:List UInt8}(h: ∀p,¬Pl.IsPtr s p):QE s=(Pl.hole,false):=by
 unfold QE;rw[dif_neg (fun⟨p,hp⟩=>h p hp)]
def QtO{dst:Option BF}{ty:A6}{pos:String}{after:Array B2}{gd:Option (Nat×Bool)}{env:List (Nat×AV)}{H:List Blk}{T:A6}{x y:A9}{a b:Int}(hx:aval env x= .d (.v (.int .u8 a)))(hy:aval env y= .d (.v (.int .u8 b)))(h:0<=a -b/\a -b<=255):
 Loc AB ⟨dst,.binOp .sub T x y T',ty,pos,after,gd⟩ env H (.d (.v (.int .u8 (a -b)))) none:=
 loc_bin' (X:= .int .u8 a) (Y:= .int .u8 b) (by rw[hx];rfl) (by rw[hy];rfl) fun w=>by
  rw[A4,Qer,A8];have:IntKind.u8.wrap (a -b)=a -b:=Int.emod_eq_of_lt h.1 (by show a -b<256;omega);simp[binOp,Op.intArith,this]
def al1Num(s:List UInt8)(hs:s.length<=Pm.big):Pure AB 160 [dS s] (.tup [dI ((Pl.l1num s).1:Nat),dI ((Pl.l1num s).2:Nat)]):=by
 simp only[Pm.big] at hs
 have hdf:Ah (∀k,Pl.digs s=s.take k->(s.take k).length=k->Pl.l1num s=if 1<k/\s.head? =some 48 then(0,1) else(Pl.val (s.take k),k)):=Pm.hid fun k hd hl=>by
  unfold Pl.l1num;rw[hd,hl]
 obtain⟨c0,hc0⟩: ∃c0,0<s.length->s[(0:Int).toNat]? =some c0/\s.head? =some c0:=by
  cases s with
  |nil=>exact⟨0,fun h=>absurd h (by simp)⟩
  |cons a b=>exact⟨a,fun _=>⟨rfl,rfl⟩⟩
 generalize hr:Pl.l1num s=r at*;clear hr;refine kB ?_
 repeat refine kA ?_
 refine Qs (fun m st=> ∃k n:Nat,k<=s.length/\k<=9/\m=s.length -k/\n<1000000000/\Ah (n=Pl.val (s.take k))/\Ah ((s.take k).all Pl.isDig=true)/\st=⟨45,[(4,.d (dI n)),(5,.d (dI k)),(0,.d (dS s))],[]⟩) [4,5,0] 0 s.length ⟨0,0,by omega,by omega,rfl,by omega,Pm.hid rfl,Pm.hid (by simp),by simp[keepE,go_sem]⟩ (round:=?_);rintro m st ⟨k,n,hk,hk9,rfl,hn,hN,hA,rfl⟩
 obtain⟨c,hc⟩: ∃c,k<s.length->s[(k:Int).toNat]? =some c/\s[k]? =some c:=by
  by_cases h:k<s.length
  ·exact⟨s[k],fun _=>⟨A0 h,A0 h⟩⟩
  ·exact⟨0,fun h'=>absurd h' h⟩
 have hkl:(s.take k).length=k:=by rw[Ad];omega
 have X:Ah ((k=9∨k=s.length∨ ¬(48<=c.toNat/\c.toNat<=57))->r=if 1<k/\s.head? =some 48 then(0,1) else(n,k)):=Pm.hid fun h=>by
  rw[hN.out];refine hdf.out k (Pl.QsD hk hA.out hk9 ?_) hkl;rcases h with h|h|h
  ·exact .inl h
  ·exact .inr fun d hd=>by rw[Ak (by omega)] at hd;cases hd
  ·by_cases hlt:k<s.length
   ·refine .inr fun d hd=>?_
    rw[(hc hlt).2] at hd;obtain rfl:=A1 hd;cases hx:Pl.isDig c
    ·rfl
    ·exact absurd ((Pl.QeX c).1 hx) h
   ·exact .inr fun d hd=>by rw[Ak (by omega)] at hd;cases hd
 have T:Ah (k<s.length->k<9->48<=c.toNat->c.toNat<=57-> ∃n':Nat,n'<1000000000/\(n':Int)=10*n+((c.toNat:Int) -48)/\n'=Pl.val (s.take (k+1))/\(s.take (k+1)).all Pl.isDig=true):=Pm.hid fun h1 h2 h3 h4=>by
  have hcc:s[k]=c:=(A2.1 (hc h1).2).2;have hal:(s.take (k+1)).all Pl.isDig=true:=by rw[List.take_succ_eq_append_getElem h1,AS,hA.out,hcc];simp[Pl.isDig,h3,h4]
  have hv:=Pl.Qtt s k h1;rw[hcc,<-hN.out] at hv;have hl:=Pl.QqJ (s.take (k+1)) hal;have hl2:Pl.val (s.take (k+1))<1000000000:=Nat.lt_of_lt_of_le hl (AX (Al (by omega) (show(s.take (k+1)).length<=9 by rw[Ad];omega)) (by decide));exact⟨_,hl2,by rw[hv];unfold Pl.dgt;omega,rfl,hal⟩
 have hcI:=Pm.hid fun h=>(hc h).1
 have h0I:=Pm.hid fun h=>(hc0 h).1
 have Y:Ah (1<k->((c0.toNat:Int)=48->s.head? =some 48)/\((c0.toNat:Int)≠48->s.head? ≠some 48)):=Pm.hid fun h=>by
  rw[(hc0 (by omega)).2];exact⟨fun e=>by rw[show c0=48 from Az.1 (B7 e)],fun e h=>e (by rw[A1 h];rfl)⟩
 clear hdf hN hA hc hc0 hkl;have hc256:=B4 c
 repeat' first|refine kS ?_|refine qS (Qen Ty.h rfl rfl rfl (by omega) (hcI.out (by simp only[decide_eq_true_eq] at*;omega))) ?_|refine qS (Qen Ty.h rfl rfl rfl (by omega) (h0I.out (by simp only[decide_eq_true_eq] at*;omega))) ?_|refine qS (Qd4 rfl rfl (by omega)) ?_|refine qS (QtO rfl rfl (by simp only[decide_eq_true_eq] at*;omega)) ?_|refine qS (QeA Tryz.underlying5 Tryz.underlying3 rfl rfl (Pm.QfB _ (by simp only[decide_eq_true_eq] at*;omega) (by simp only[decide_eq_true_eq] at*;omega))) ?_|refine kU ?_|refine kV ?_ ?_<;>intro q|fail
 all_goals
  simp only[decide_eq_true_eq,decide_eq_false_iff_not,beq_iff_eq,beq_eq_false_iff_ne,ne_eq,gt_iff_lt,ge_iff_le] at*;clear hcI h0I
 all_goals first
  |(obtain⟨n',h1,h2,h3,h4⟩:=T.out (by omega) (by omega) (by omega) (by omega)
    refine Qn (s.length -(k+1)) (by omega) ⟨k+1,n',by omega,by omega,rfl,h1,Pm.hid h3,Pm.hid h4,?_⟩;rw[h2]
    simp[keepE,go_sem];done)
  |(refine Qb (hx:=?_)
    rw[X.out (by omega),if_pos ⟨by omega,(Y.out (by omega)).1 (by omega)⟩]
    rfl)
  |(refine Qb (hx:=?_)
    rw[X.out (by omega),if_neg (fun h=>(Y.out h.1).2 (by omega) h.2)])
  |(refine Qb (hx:=?_)
    rw[X.out (by omega),if_neg (fun h=>absurd h.1 (by omega))])
def aNumGet(s:List UInt8)(hs:s.length<=Pm.big):Pure AB 100 [dS s] (.tup [dI ((Pl.numGet s).getD 0:Nat),dB (Pl.numGet s).isSome]):=by
 have c:=al1Num s hs;have hd:=Pm.hid (Pl.QlT s);generalize Pl.numGet s=r at*;generalize Pl.l1num s=p at*;obtain⟨n,k⟩:=p;simp only at hd c;refine kB ?_
 repeat' first|refine kA ?_|refine kV ?_ ?_<;>intro q|fail
 all_goals
  simp only[beq_iff_eq,beq_eq_false_iff_ne,bne_iff_ne,bne_eq_false_iff_eq,ne_eq] at*;refine Qb (hx:=?_)
 all_goals first|rw[hd.out,if_pos (by omega)];rfl|rw[hd.out,if_neg (by omega)];rfl
theorem aPtrGet(s:List UInt8)(hs:s.length<=1000000000000):Pure AB 101 [dS s] (.tup [dPtr (QE s).1,dB (QE s).2]):=by
 by_cases h45:s=[45]
 ·rw[pg_is (h45▸Pl.Qkh)]
  subst h45;refine kC ?_
  repeat refine kA ?_
  all_goals
   (refine Qa 0 (h:=?_);refine QY (hx:=?_))
   rfl
 have hse:(s==[45])=false:=beq_eq_false_iff_ne.2 h45;have c1:=al2Cut s 46 hs;have hcl:=Pm.cutB_le' 46 s;have Hnl:=Pm.hid (Pl.Qro h45);have Hnn:=Pm.hid (fun k=>Pl.Qrn (k:=k) h45);have Hnb:=Pm.hid (fun a b c d e=>Pl.ptr_bad (a:=a) (b:=b) (c:=c) (d:=d) (e:=e) h45);have Hng:=Pm.hid (fun a b c d e=>Pl.QtD (s:=s) (a:=a) (b:=b) (c:=c) (d:=d) (e:=e));have hpn:Ah ((∀p,¬Pl.IsPtr s p)->QE s=(Pl.hole,false)):=Pm.hid QuX;have hpy:Ah (∀p,Pl.IsPtr s p->QE s=(p,true)):=Pm.hid fun p=>pg_is
 generalize QE s=r at*;generalize Pl.cutB 46 s=l at*
 by_cases h5:l.length=5
 rotate_left
 ·have hn:((l.length:Int) !=5)=true:=bne_iff_ne.2 (by omega)
  refine kC ?_
  repeat' first|refine kA ?_|refine kV ?_ ?_<;>intro q|fail
  all_goals first
   |(exfalso;rw[hn] at*;simp at*;done)
   |(exfalso;rw[hse] at*;simp at*;done)
   |((refine Qa 0 (h:=?_);refine QY (hx:=?_))
     rw[hpn.out (Hnl.out h5)]
     rfl)
 have hn:((l.length:Int) !=5)=false:=by rw[h5];rfl
 clear Hnl;refine kC ?_
 repeat' first|refine kA ?_|refine kV ?_ ?_<;>intro q|fail
 all_goals first|exfalso;rw[hn] at*;simp at*;done|exfalso;rw[hse] at*;simp at*;done|skip
 refine Qs (fun m st=> ∃(k:Nat) (nums:List Nat),k<=5/\m=5 -k/\nums.length=k/\Ah (l.take k=nums.map Pl.dec)/\
  st=⟨64,[(2,.ptr 0 0 0),(4,.d (tStrs l)),(5,.osl 1 nums.length 0 nums.length),(6,.d (dI k))],[.row 0 [.d (dI 0),.d (dI 0),.d (dI 0),.d (dI 0),.d (dI 0)],.arr nums.length 1 3 (nums.map fun(n:Nat)=>[dI (n:Int)])]⟩) [2,4,5,6] 2 5 ⟨0,[],by omega,rfl,rfl,Pm.hid rfl,by simp[keepE,go_sem]⟩ (round:=?_)
 rintro m st ⟨k,nums,hk,rfl,hlen,hO,rfl⟩
 repeat refine kG ?_
 cases q3:decide ((k:Int)<5)
 ·have hk5:k=5:=by simp at q3;omega
  obtain⟨n1,n2,n3,n4,n5,rfl⟩: ∃n1 n2 n3 n4 n5,nums=[n1,n2,n3,n4,n5]:=by
   match nums,hlen.trans hk5 with
   |[a,b,c,d,e],_=>exact⟨a,b,c,d,e,rfl⟩
  subst hk5;rw[A5 (by omega)] at hO;have hO2:=hO.out;simp only[Ao,Ar] at hO2;have hb:=Pm.hid (Hnb.out n1 n2 n3 n4 n5 hO2);have hg:=Pm.hid (Hng.out n1 n2 n3 n4 n5 hO2);have c2:=aPtrOk ⟨n1,n2,n3,n4,n5⟩;have c3:=Qdt ⟨n1,n2,n3,n4,n5⟩;clear Hnb Hng Hnn hO hO2 hcl c1 h5 hn;generalize Pl.ptrOk ⟨n1,n2,n3,n4,n5⟩=o at*;generalize Pl.ptrHole ⟨n1,n2,n3,n4,n5⟩=u at*;simp only[Ao,Ar,Ac,List.length_nil];refine Qa 1 (h:=?_)
  repeat' first|refine kS ?_|refine qD (iy rfl) ?_|(show AWP _ (.region 14 _ _) _ _;refine(Fg.awp_drawF (id:=14) [] [17] ?_))|refine kU ?_|refine kV ?_ ?_<;>intro q|fail
  all_goals first
   |((refine Qa 0 (h:=?_);refine QY (hx:=?_))
     rw[hpn.out (hb.out (by simp_all))]
     rfl)
   |((refine Qa 0 (h:=?_);refine QY (hx:=?_))
     rw[hpy.out _ (hg.out (by simp_all) (by simp_all))])
 have hk2:k<5:=by simp at q3;omega
 have hkl:k<l.length:=by omega
 obtain⟨x,hx⟩: ∃x,l[k]? =some x:=⟨_,A0 hkl⟩;have hxl:l[k]=x:=(A2.1 hx).2;have hr:=Qu (f:=fun s=>[dS s]) hx;have c4:=aNumGet x (by have:=hcl x (A3 hx);simp only[Pm.big];omega);have hnn:=Pm.hid (Hnn.out k hkl);rw[hxl] at hnn
 have hss:Ah (∀n,Pl.numGet x=some n->l.take (k+1)=(nums++[n]).map Pl.dec):=Pm.hid fun n hq=>by
  rw[AC,hx,hO.out,(Pl.QdE hq).1,List.map_append];rfl
 clear hx hxl hO Hnn Hnb Hng hcl c1;generalize Pl.numGet x=g at*;cases g with
 |none=>
  repeat' first|refine kS ?_|refine qS (iy hr) ?_|refine kU ?_|fail
  all_goals first
   |(exfalso;simp at*;done)
   |((refine Qa 0 (h:=?_);refine QY (hx:=?_))
     rw[hpn.out (hnn.out rfl)]
     rfl)
 |some n=>
  repeat' first|refine kS ?_|refine qS (iy hr) ?_|refine QU Ty.h rfl Ty.h (hb:=?_) (kk:=?_)|refine kU ?_|fail
  all_goals first
   |(exfalso;simp at*;done)
   |(simp;omega)
   |(refine Qn (5 -(k+1)) (by omega) ⟨k+1,nums++[n],by omega,rfl,by simp[hlen],Pm.hid (hss.out n rfl),?_⟩
     simp[go_sem,keepE];done)
def QaH(s:List UInt8):List Pl.Ptr×Bool:=
 let l:=(Pl.cutB 44 s).map QE
 if l.all (·.2)&&(l.length==4)&&l.any (fun q=> !Pl.ptrHole q.1) then(l.map (·.1),true) else([],false)
def QdT(b:UInt8): ∀(s:List UInt8),(Pl.cutB b s).length<=s.length+1/\ ∀x∈Pl.cutB b s,x.length<=s.length
 |[]=>by simp[Pl.cutB]
 |c::s=>by
  have ih:=QdT b s;unfold Pl.cutB;split
  ·refine⟨by simp;omega,fun x hx=>?_⟩
   rcases B8.1 hx with rfl|hx
   ·simp
   ·have:=ih.2 x hx;simp;omega
  ·split
   ·rename_i h t e
    rw[e] at ih;refine⟨by simp at ih⊢;omega,fun x hx=>?_⟩;rcases B8.1 hx with rfl|hx
    ·have:=ih.2 h List.mem_cons_self;simp;omega
    ·have:=ih.2 x (List.mem_cons_of_mem _ hx);simp;omega
   ·simp
theorem aFanGet(s:List UInt8)(hs:s.length<=1000000000000):Pure AB 212 [dS s] (.tup [tPtrs (QaH s).1,dB (QaH s).2]):=by
 refine kN ?_;simp only[parE,As]
 repeat' first|refine kS ?_|refine qS (lC (al2Cut s 44 hs)) ?_|refine kU ?_|fail
 have hW:=QdT 44 s;have hfan:Ah (QaH s=if((Pl.cutB 44 s).map QE).all (·.2)&&(((Pl.cutB 44 s).map QE).length==4)&&((Pl.cutB 44 s).map QE).any (fun q=> !Pl.ptrHole q.1) then(((Pl.cutB 44 s).map QE).map (·.1),true) else([],false)):=Pm.hid rfl;generalize Pl.cutB 44 s=l at*
 refine Qs (fun m st=> ∃(k g:Nat) (out:List Pl.Ptr) (sm:Bool),k<=l.length/\m=l.length -k/\Ah (out=((l.map QE).take k).map (·.1))/\Ah (((l.map QE).take k).all (·.2)=true)/\Ah (sm=((l.map QE).take k).any (fun q=> !Pl.ptrHole q.1))/\out.length=k/\
  st=⟨49,[(4,.d (tStrs l)),(5,.osl 0 g 0 out.length),(6,.d (dB sm)),(7,.d (dI k))],[.arr g 5 31 (out.map fun p=>[dI p.pat,dI p.birth,dI p.size,dI p.sum,dI p.level])]⟩) [4,5,6,7] 1 l.length ⟨0,0,[],false,by omega,rfl,Pm.hid rfl,Pm.hid (by simp),Pm.hid rfl,rfl,rfl⟩ (round:=?_)
 rintro m st ⟨k,g,out,sm,hk,rfl,hO,hA,hM,hlen,rfl⟩
 repeat refine kG ?_
 cases q3:decide ((k:Int)<(l.length:Int))
 ·repeat' first|refine kA ?_|refine kV ?_ ?_<;>intro q|fail
  all_goals
   have hk2:k=l.length:=by simp at q3;omega
   rw[hk2,A5 (by simp)] at hO hA hM;have h1:QaH s=if out.length=4/\sm=true then(out,true) else([],false):=by rw[hfan.out,hA.out,<-hM.out,<-hO.out,hlen,hk2];simp
   rw[hlen] at h1;clear hO hA hM hfan
   (first|(refine Qa 0 (h:=?_);refine Qb (hx:=?_))|(refine Qa 1 (h:=?_);refine Qb (hx:=?_)))
   simp at q;split at h1<;>rename_i hc<;>rw[h1]
   ·first
     |simp[A5];done
     |(exfalso;obtain⟨h,h'⟩:=hc;first|omega|(rw[h'] at q;cases q))
   ·first
     |rfl
     |(rename_i q2;simp at q2;exact absurd (And.intro (by omega) q) hc)
 simp at q3;have q3:k<l.length:=by omega
 obtain⟨x,hx⟩: ∃x,l[k]? =some x:=⟨_,A0 q3⟩;have hr:=Qu (f:=fun s=>[dS s]) hx;have hx3:x.length<=1000000000000:=by have:=hW.2 x (A3 hx);omega
 obtain⟨p,ok,hp⟩: ∃p ok,QE x=(p,ok):=⟨_,_,rfl⟩;have hg:=aPtrGet x hx3;rw[hp] at hg;have hl:(l.map QE)[k]? =some (p,ok):=by rw[AK,hx];simp[hp]
 have hst:(l.map QE).take (k+1)=(l.map QE).take k++[(p,ok)]:=by rw[AC,hl];rfl
 have F:Ah (ok=false->QaH s=([],false)):=fun e=>by
  rw[hfan.out,if_neg]
  have:(l.map QE).all (·.2)=false:=by
   rw[Ab];exact⟨_,A3 hl,by simp[e]⟩
  simp[this]
 have hst2:=Pm.hid hst;clear hx hp hl hst
 repeat' first|refine kS ?_|refine qS (lC (Qdt p)) ?_|refine qS (iy hr) ?_|refine QU Ty.h rfl Ty.h (hb:=?_) (kk:=?_)|refine kU ?_|refine kV ?_ ?_<;>intro q|fail
 ·(refine Qa 2 (h:=?_);refine Qb (hx:=?_))
  rw[F.out (by simpa using q)];rfl
 ·simp;omega
 ·refine Qn (l.length -(k+1)) (by omega) ⟨k+1,g+1,out++[p],true,by omega,rfl,Pm.hid (by rw[hst2.out,hO.out];simp),Pm.hid (by rw[hst2.out,AS,hA.out];simp_all),Pm.hid (by rw[hst2.out,Ai,<-hM.out];simp_all),by simp[hlen],?_⟩
  simp[go_sem,keepE]
 ·simp;omega
 ·refine Qn (l.length -(k+1)) (by omega) ⟨k+1,g+1,out++[p],!Pl.ptrHole p,by omega,rfl,Pm.hid (by rw[hst2.out,hO.out];simp),Pm.hid (by rw[hst2.out,AS,hA.out];simp_all),Pm.hid (by rw[hst2.out,Ai,<-hM.out];simp_all),by simp[hlen],?_⟩
  simp[go_sem,keepE]
abbrev dSt(s:Pm.Store):D:= .agg [dStrs s.1,dInts s.2.1.1,dInts s.2.1.2,dI s.2.2.1,dPtrs s.2.2.2.1,dI s.2.2.2.2.1,dPtrs s.2.2.2.2.2.1,dB s.2.2.2.2.2.2]
structure QM(s:Pm.Store):Prop where
 many:s.1.length=64
 row: ∀r∈s.1,r.length<=128
def QdP(h:Pl.ptrOk p=true)(h2:Pl.ptrHole p=false):0<=p.pat/\p.pat<64:=by
 simp[Pl.ptrOk,h2,Pl.rowOk] at h;omega
def al7R(s:Pm.Store)(hg:QM s)(p:Pl.Ptr)(hp:Pl.ptrHole p=false->Pl.ptrOk p=true):Pure AB 78 [dSt s,dPtr p] (.tup [dS (Qj s.1 p).1,dB (Qj s.1 p).2]):=
 al7Read _ _ _ _ _ _ _ _ p (fun r hr=>by have:=hg.row r hr;unfold Pm.big;omega) fun h=>by have:=QdP (hp h) h;rw[hg.many];exact this
def QiO(s:Pm.Store)(hg:QM s)(p:Pl.Ptr):(Qj s.1 p).1.length<=128:=by
 unfold Qj;split
 ·simp
 ·split
  ·simp only
   rw[AO];cases h:s.1[p.pat.toNat]? with
   |none=>simp
   |some r=>exact hg.row r (A3 h)
  ·simp
def Qh(s:Pm.Store)(p:Pl.Ptr)(level:Int):List Pl.Ptr×Bool:=
 if Pl.ptrHole p then(AZ 4 Pl.hole,true) else
 if Pl.ptrOk p&&(p.level==level)&&decide (p.birth<=s.2.2.1)&&(Qj s.1 p).2 then
  if(QaH (Qj s.1 p).1).1.any (fun q=>decide (p.birth<q.birth)) then([],false) else QaH (Qj s.1 p).1
 else([],false)
def Qla(s:List UInt8):(QaH s).1.length<=4:=by
 unfold QaH;simp only;split
 ·rename_i h;simp at h;simp[h.1.2]
 ·simp
def Qph(s:Pm.Store)(hg:QM s)(p:Pl.Ptr)(level:Int):Pure AB 164 [dSt s,dPtr p,dI level] (.tup [tPtrs (Qh s p level).1,dB (Qh s p level).2]):=by
 refine kE ?_;refine Qa 0 (h:=?_);refine Qa 1 (h:=?_);cases h1:Pl.ptrHole p;rotate_left
 ·repeat' first|refine kS ?_|refine qS (lC (h1▸Qdt p)) ?_|refine qS (Qds cK (Qh9 4 (by omega)) rfl) ?_|refine kU ?_|fail
  exact Qb (hx:=by simp[Qh,h1])
 cases h2:Pl.ptrOk p
 ·repeat' first|refine kS ?_|refine qS (lC (h1▸Qdt p)) ?_|refine qS (lC (h2▸aPtrOk p)) ?_|refine kU ?_|fail
  (refine Qa 2 (h:=?_);refine Qb (hx:=?_))
  simp[Qh,h1,h2]
 have c3:=al7R s hg p fun _=>h2
 have hlen:=QiO s hg p
 have hB:Ah (Qh s p level=if(p.level==level)&&decide (p.birth<=s.2.2.1)&&(Qj s.1 p).2 then
  if(QaH (Qj s.1 p).1).1.any (fun q=>decide (p.birth<q.birth)) then([],false) else QaH (Qj s.1 p).1 else([],false)):=Pm.hid (by simp[Qh,h1,h2])
 generalize Qj s.1 p=tb at*;obtain⟨text,ok⟩:=tb;have c4:=aFanGet text (by simp only at hlen;omega);have hfl:=Qla text;simp only at hB;generalize QaH text=fb at*;obtain⟨l,fine⟩:=fb;simp only at hfl hlen
 repeat' first|refine kS ?_|refine qS (lC (h1▸Qdt p)) ?_|refine qS (lC (h2▸aPtrOk p)) ?_|refine kU ?_|refine kV ?_ ?_<;>intro q|fail
 ·(refine Qa 2 (h:=?_);refine Qb (hx:=?_))
  rw[hB.out,if_neg (by simp at q;simp[q])]<;>rfl
 ·(refine Qa 2 (h:=?_);refine Qb (hx:=?_))
  rw[hB.out,if_neg (by simp at q;simp;intro _ _;omega)]<;>rfl
 ·(refine Qa 2 (h:=?_);refine Qb (hx:=?_))
  rw[hB.out,if_neg (by simp at q;simp[q])]<;>rfl
 rename_i q1 q2
 refine Qs (fun m st=> ∃k:Nat,k<=l.length/\m=l.length -k/\Ah ((l.take k).any (fun q=>decide (p.birth<q.birth))=false)/\
  st=⟨64,[(10,.d (tPtrs l)),(11,.d (dB fine)),(12,.d (dI k)),(4,.d (.pd [dI p.pat,dI p.birth,dI p.size,dI p.sum,dI p.level]))],[]⟩) [10,11,12,4] 0 l.length ⟨0,by omega,rfl,Pm.hid rfl,rfl⟩ (round:=?_)
 rintro m st ⟨k,hk,rfl,hF,rfl⟩
 repeat refine kG ?_
 have hC:((p.level==level)&&decide (p.birth<=s.2.2.1)&&ok)=true:=by simp at q q1 q2;simp[q,q2];omega
 rw[if_pos hC] at hB;cases q3:decide ((k:Int)<(l.length:Int))
 ·repeat refine kA ?_
  refine Qb (hx:=?_);have:k=l.length:=by simp at q3;omega
  have h:=hF.out;rw[this,A5 (AH _)] at h;rw[hB.out,if_neg (by simp[h])]<;>rfl
 have hk2:k<l.length:=by simp at q3;omega
 obtain⟨x,hx⟩: ∃x,l[k]? =some x:=⟨_,A0 hk2⟩;have hr:=Qu (f:=fun p:Pl.Ptr=>[dI p.pat,dI p.birth,dI p.size,dI p.sum,dI p.level]) hx;have T:Ah ((l.take (k+1)).any (fun q=>decide (p.birth<q.birth))=decide (p.birth<x.birth)):=Pm.hid (by rw[AC,hx,Ai,hF.out];simp)
 have F:Ah (p.birth<x.birth->Qh s p level=([],false)):=fun e=>by
  rw[hB.out,if_pos];rw[List.any_eq_true];exact⟨x,A3 hx,by simpa using e⟩
 clear hx
 repeat' first|refine kS ?_|refine qD (iy hr) ?_|refine kU ?_|refine kV ?_ ?_<;>intro q|fail
 ·(refine Qa 0 (h:=?_);refine Qb (hx:=?_))
  rw[F.out (by simpa using q)]<;>rfl
 ·exact Qn (l.length -(k+1)) (by omega) ⟨k+1,by omega,rfl,Pm.hid (T.out.trans q),rfl⟩
def Ql0(n:Int):Pure AB 103 [dI n] (dI (if n<=1 then 0 else if n<=4 then 1 else 2)):=by
 refine kB ?_
 repeat' first|refine kA ?_|refine kV ?_ ?_<;>intro q|fail
 all_goals exact Qb (hx:=congrArg dI (by simp at*;split<;>(try split)<;>omega))
abbrev rPtr(p:Pl.Ptr):List D:=[dI p.pat,dI p.birth,dI p.size,dI p.sum,dI p.level]
abbrev dTree(t:Pl.Tree):D:= .agg [dI t.root.pat,dI t.root.birth,dI t.root.size,dI t.root.sum,dI t.root.level,dI t.depth,dI t.many]
def Qdy(l:List Pl.Ptr): ∀r∈l.map rPtr,∀d∈r,d.cell=true:=by
 intro r hr d hd;obtain⟨p,_,rfl⟩:=List.mem_map.1 hr;simp at hd;rcases hd with rfl|rfl|rfl|rfl|rfl<;>rfl
def QaP(s:Pm.Store):Nat->List Pl.Ptr->List Pl.Ptr×Bool
 |0,l=>(l,true)
 |n+1,l=>if l.all (fun p=>(Qh s p (n+1:Nat)).2) then QaP s n (l.flatMap fun p=>(Qh s p (n+1:Nat)).1) else([],false)
def QG(s:Pm.Store)(t:Pl.Tree):List Pl.Ptr×Bool:=QaP s t.depth.toNat [t.root]
def QeF(s:Pm.Store)(p:Pl.Ptr)(n:Int):(Qh s p n).1.length<=4:=by
 unfold Qh;split
 ·simp
 ·split
  ·split
   ·simp
   ·exact Qla _
  ·simp
def flat_len(f:Pl.Ptr->List Pl.Ptr)(hf: ∀p,(f p).length<=4): ∀l:List Pl.Ptr,(l.flatMap f).length<=l.length*4
 |[]=>by simp
 |p::l=>by have:=flat_len f hf l;have:=hf p;rw[List.flatMap_cons,List.length_append,Ac];omega
def QrH(s:Pm.Store): ∀(n:Nat) (l:List Pl.Ptr),(QaP s n l).1.length<=l.length*4^n
 |0,l=>by simp[QaP]
 |n+1,l=>by
  unfold QaP;split
  ·refine AX (QrH s n _) ?_
   have:=flat_len (fun p=>(Qh s p (n+1:Nat)).1) (fun p=>QeF s p _) l
   calc _<=l.length*4*4^n:=AG _ this
    _=l.length*4^(n+1):=by rw[Nat.pow_succ];rw[Nat.mul_assoc,Nat.mul_comm 4]
  ·simp
def QjI(s:Pm.Store)(hg:QM s)(t:Pl.Tree)(h0:0<=t.depth)(h2:t.depth<=2):Pure AB 106 [dSt s,dTree t] (.tup [tPtrs (QG s t).1,dB (QG s t).2]):=by
 have hlv:Ah (QG s t=QaP s t.depth.toNat [t.root]):=Pm.hid rfl;obtain⟨root,depth,many⟩:=t;simp only at h0 h2 hlv;obtain⟨n0,rfl⟩: ∃n0:Nat,depth=n0:=⟨depth.toNat,by omega⟩;have hn0:n0<=2:=by omega
 simp only[Int.toNat_natCast] at hlv;refine kE ?_;refine Qa 0 (h:=?_);refine Qa 1 (h:=?_)
 repeat refine kA ?_
 refine Qa 2 (h:=?_)
 refine Qs (fun m st=> ∃(n:Nat) (l:List Pl.Ptr),n<=2/\m=n/\l.length<=4^(2 -n)/\Ah (QG s ⟨root,n0,many⟩=QaP s n l)/\
  st=⟨46,[(6,.d (tPtrs l)),(7,.d (dI n)),(2,.d (.pd [dStrs s.1,dInts s.2.1.1,dInts s.2.1.2,dI s.2.2.1,dPtrs s.2.2.2.1,dI s.2.2.2.2.1,dPtrs s.2.2.2.2.2.1,dB s.2.2.2.2.2.2]))],[]⟩) [6,7,2] 0 n0 ⟨n0,[root],hn0,rfl,Nat.one_le_pow _ _ (by omega),hlv,rfl⟩ (round:=?_)
 clear hlv;rintro m st ⟨n,l,hn,rfl,hll,hL,rfl⟩
 repeat refine kG ?_
 rcases m with _|n
 ·repeat refine kA ?_
  refine Qb (hx:=?_);rw[hL.out];rfl
 have q3:decide (((n+1:Nat):Int)>0)=true:=by simp
 rw[q3]
 have hll2:l.length<=4:=by
  have h1:n=0∨n=1:=by omega
  have h2:(4:Nat)^(2 -(n+1))<=4:=by rcases h1 with rfl|rfl<;>decide
  omega
 repeat refine kA ?_
 have hv:Ah (l.all (fun p=>(Qh s p (n+1:Nat)).2)=false->QG s ⟨root,n0,many⟩=([],false)):=fun e=>by rw[hL.out,QaP,if_neg (by rw[e];simp)]
 refine Qs (fun m st=> ∃(k g:Nat) (out:List Pl.Ptr),k<=l.length/\m=l.length -k/\out.length<=4*k/\Ah (out=(l.take k).flatMap fun p=>(Qh s p (n+1:Nat)).1)/\Ah ((l.take k).all (fun p=>(Qh s p (n+1:Nat)).2)=true)/\
  st=⟨46,[(8,.osl 0 g 0 out.length),(9,.d (dI k)),(6,.d (tPtrs l)),(7,.d (dI (n+1:Nat))),(2,.d (.pd [dStrs s.1,dInts s.2.1.1,dInts s.2.1.2,dI s.2.2.1,dPtrs s.2.2.2.1,dI s.2.2.2.2.1,dPtrs s.2.2.2.2.2.1,dB s.2.2.2.2.2.2]))],[.arr g 5 31 (out.map rPtr)]⟩) [8,9,6,7,2] 1 l.length ⟨0,0,[],by omega,rfl,by simp,Pm.hid rfl,Pm.hid rfl,rfl⟩ (round:=?_)
 rintro m st ⟨k,g,out,hk,rfl,hol,hO,hA,rfl⟩
 repeat refine kG ?_
 cases q4:decide ((k:Int)<(l.length:Int))
 ·repeat refine kA ?_
  refine QjD 0 (h:=?_);have:k=l.length:=by simp at q4;omega
  rw[this,A5 (AH _)] at hO hA;refine Qn n (by omega) ⟨n,out,by omega,rfl,?_,Pm.hid (by rw[hL.out,QaP,if_pos hA.out,<-hO.out]),?_⟩
  ·have:n=0∨n=1:=by omega
   rcases this with rfl|rfl<;>simp at hll⊢ <;>omega
  ·simp[keepE,go_sem,A5]
 have hk2:k<l.length:=by simp at q4;omega
 obtain⟨x,hx⟩: ∃x,l[k]? =some x:=⟨_,A0 hk2⟩;have hr:=Qu (f:=rPtr) hx;have hc:=Qph s hg x (n+1:Nat);have hbl:=QeF s x (n+1:Nat)
 have F:Ah ((Qh s x (n+1:Nat)).2=false->QG s ⟨root,n0,many⟩=([],false)):=fun e=>hv.out (by
  rw[Ab];exact⟨x,A3 hx,by rw[e];simp⟩)
 have T1:Ah ((l.take (k+1)).flatMap (fun p=>(Qh s p (n+1:Nat)).1)=out++(Qh s x (n+1:Nat)).1):=Pm.hid (by rw[AC,hx,hO.out];simp);have T2:Ah ((Qh s x (n+1:Nat)).2=true->(l.take (k+1)).all (fun p=>(Qh s p (n+1:Nat)).2)=true):=fun e=>by rw[AC,hx,AS,hA.out];simpa using e
 clear hx;generalize Qh s x (n+1:Nat)=bb at*;obtain⟨bl,ok⟩:=bb;simp only at hbl
 repeat' first|refine kS ?_|refine qD (iy hr) ?_|refine QdW Ty.h rfl Ty.h (hb:=?_) (hcell:=?_) (kk:=?_)|refine kU ?_|refine kV ?_ ?_<;>intro q|fail
 ·(refine Qa 1 (h:=?_);refine Qb (hx:=?_))
  rw[F.out (by simpa using q)]<;>rfl
 ·exact Qdy bl
 ·simp;omega
 ·refine Qn (l.length -(k+1)) (by omega) ⟨k+1,g+1,out++bl,by omega,rfl,by simp;omega,Pm.hid T1.out.symm,Pm.hid (T2.out (by simpa using q)),?_⟩
  simp[keepE,go_sem]
end Aw
end
section
open Go.RowKit
namespace Aw
variable{C:Blk}{t:Pl.Tree}{k m:Nat}{α:Type}{w:Af}{S':Nat->Prop}{σ σ':Sg}
def eff_frz{P:AR}{o:Au}{env:List (Nat×AV)}{H:List Blk}{x:AV}{H':List Blk}(k:Nat)(hC:H[k]? =some C)(h:Eff P o (frzE k C env) ((H.set k C.dead).map (Blk.frz k C)) x H'):Eff P o env H x H':=by
 intro B σ S a w hB hS hop K Q kk;obtain⟨σ1,S1,h1,h2,h3⟩:=hS.freeze hC;refine h B σ1 S1 a w hB h1 (fun u hu=>?_) K Q fun v w' σ' S' g1 g2 g3=>kk v w' σ' S' g1 g2 (h3.trans g3)
 have:=h2 _ _ (hop u hu);cases u with
 |tmp t=>simp only[aval] at this⊢;rw[Qjb];omega
 |_=>exact this
theorem QmB{P:AR}{ops:Array Au}{K:St->Prop}{n:Nat}{env env1:List (Nat×AV)}{H Hf H':List Blk}{d:BF}{ty:A6}{pos:String}{after:Array B2}{gd:Option (Nat×Bool)}{x x':AV}{gl:List AV}(kf:Nat)(ks:List Nat){f:BA}{xs:Array A9}{tys:Array A6}{args:List AV}{H0 H1:List Blk}(h:Does P f args H0 gl x H1)(hf: ∀args w,(callFunc f args).run P w= .ok (.enter f args) w)
 (hC:H[kf]? =some C:=by rfl)
 (he: ∀R:List (Nat×AV)->Prop,R env1->R (frzE kf C env):=by intro R hR;simp only[frzE,AV.frz,AV.frzL,Blk.gen,Blk.iceP,Blk.iceS,Blk.iceM,AV.data,beq_self_eq_true,Nat.reduceBEq,Bool.and_self,Bool.and_true,Bool.true_and,Bool.false_and,Bool.and_false,cond_true,cond_false,List.drop_zero,List.drop_succ_cons,List.map_cons,List.map_nil];exact hR)
 (hh: ∀R:List Blk->Prop,R Hf->R ((H.set kf C.dead).map (Blk.frz kf C)):=by intro R hR;simp only[Blk.dead,Blk.frz,AV.frz,AV.frzL,Blk.gen,Blk.iceP,Blk.iceS,Blk.iceM,AV.data,List.set_cons_zero,List.set_cons_succ,List.map_cons,List.map_nil,Nat.zero_add,beq_self_eq_true,Nat.reduceBEq,Bool.and_self,Bool.and_true,Bool.true_and,Bool.false_and,Bool.and_false,cond_true,cond_false,List.drop_zero,List.drop_succ_cons];exact hR)
 (hargs:xs.toList.map (aval env1)=AV.renL (rho ks Hf.length) args:=by rfl) (hks:ks.map (fun k=>Hf[k]?)=(H0.map (Blk.ren (rho ks Hf.length))).map some:=by rfl) (hnd:ks.Nodup:=by decide)
 (hla:AV.ltL H0.length args=true:=by rfl) (hlg:AV.ltL H0.length gl=true:=by rfl) (hlH:H0.all (Blk.lt H0.length)=true:=by rfl) (hgl: ∀g∈gl,g.ren (rho ks Hf.length)∈(xs.toList.map (aval env1)).flatMap AV.parts++Hf.flatMap Blk.parts)
 (hX: ∀R:AV->Prop,R x'->R (x.ren (rho ks Hf.length)):=by intro R hR;simp only[AV.ren,AV.renL,rho,List.getElem?_cons_zero,List.getElem?_cons_succ];exact hR)
 (hH: ∀R:List Blk->Prop,R H'->R (place (rho ks Hf.length) Hf ks H1++(H1.drop ks.length).map (Blk.ren (rho ks Hf.length))):=by intro R hR;simp only[place,Blk.ren,AV.ren,AV.renL,rho,List.getElem?_cons_zero,List.getElem?_cons_succ,List.map_cons,List.map_nil,List.set_cons_zero,List.set_cons_succ,List.drop_succ_cons,List.drop_zero,List.drop_nil,List.append_nil,List.length_cons,List.length_nil,Nat.reduceAdd,Nat.zero_add];exact hR)
 (hw:awanted ops env ⟨some d,.call ⟨.value (.func f),xs,tys⟩,ty,pos,after,gd⟩=some true:=by rfl) (hd:B0 d n=true:=by rfl) (hg:gdOk ops n ⟨some d,.call ⟨.value (.func f),xs,tys⟩,ty,pos,after,gd⟩=true:=by rfl)
 (k:K ⟨n,(d,x')::env,H'⟩):AStep P ops ⟨some d,.call ⟨.value (.func f),xs,tys⟩,ty,pos,after,gd⟩ K ⟨n,env,H⟩:=by
 have e1:=he (fun r=>r=env1) rfl;have e2:=hh (fun r=>r=Hf) rfl;subst e1;subst e2;exact astep (eff_frz kf hC (Qms ks h hf hargs hks hnd hla hlg hlH hgl hX hH)) hw hd hg k
attribute [local irreducible] ASeq ADraw AWP Loc
def QdN:Pl.ptrOk Pl.hole=true:=by decide
def pg_ok(s:List UInt8):Pl.ptrOk (QE s).1=true:=by
 unfold QE;split
 ·rename_i h;exact(Aj h).1
 ·exact QdN
def fan_ok(s:List UInt8): ∀p∈(QaH s).1,Pl.ptrOk p=true:=by
 unfold QaH;simp only;split
 ·intro p hp
  simp at hp;obtain⟨a,_,rfl⟩:=hp;exact pg_ok a
 ·simp
def Qi8(s:Pm.Store)(q:Pl.Ptr)(n:Int): ∀p∈(Qh s q n).1,Pl.ptrOk p=true:=by
 unfold Qh;split
 ·intro p hp;rw[(Ap.1 hp).2];exact QdN
 ·split
  ·split
   ·simp
   ·exact fan_ok _
  ·simp
def Qva(s:Pm.Store): ∀(n:Nat) (l:List Pl.Ptr),(∀p∈l,Pl.ptrOk p=true)-> ∀p∈(QaP s n l).1,Pl.ptrOk p=true
 |0,l,h=>by simpa[QaP] using h
 |n+1,l,h=>by
  unfold QaP;split
  ·refine Qva s n _ fun p hp=>?_
   obtain⟨q,_,hq⟩:=List.mem_flatMap.1 hp;exact Qi8 s q _ p hq
  ·simp
structure Qx(t:Pl.Tree):Prop where
 lo:0<=t.depth
 hi:t.depth<=2
 root:Pl.ptrOk t.root=true
 manyLo:0<=t.many
 manyHi:t.many<=16
def Qho(s:Pm.Store)(h:Pl.ptrOk t.root=true): ∀p∈(QG s t).1,Pl.ptrOk p=true:=Qva s _ _ (by simpa using h)
def Qg5(s:Pm.Store)(h1:t.depth<=2):(QG s t).1.length<=16:=by
 refine AX (QrH s _ _) ?_;simp only[List.length_singleton,Nat.one_mul];exact AX (Al (by omega) (show t.depth.toNat<=2 by omega)) (by decide)
def Qg(s:Pm.Store)(t:Pl.Tree):List Pl.Ptr:=(QG s t).1++AZ (16 -(QG s t).1.length) Pl.hole
def QdG(s:Pm.Store)(h1:t.depth<=2):(Qg s t).length=16:=by
 have:=Qg5 s h1;simp[Qg];omega
def QfD(s:Pm.Store)(h:Pl.ptrOk t.root=true): ∀p∈Qg s t,Pl.ptrOk p=true:=by
 intro p hp;rcases Ax.1 hp with hp|hp
 ·exact Qho s h p hp
 ·rw[(Ap.1 hp).2];exact QdN
def al8Wide(s:Pm.Store)(hg:QM s)(t:Pl.Tree)(ht:Qx t):Pure AB 77 [dSt s,dTree t] (tPtrs (Qg s t)):=by
 refine kE ?_;refine Qa 0 (h:=?_);refine Qa 1 (h:=?_);have hc:=QjI s hg t ht.lo ht.hi;have hl:=Qg5 s ht.hi;have hw:=Pm.hid (Qg.eq_def s t);generalize QG s t=lb at*;obtain⟨l,ok⟩:=lb;simp only at hl hw;have hh:=Qh9 (16 -l.length) (by omega);have e:((16 -l.length:Nat):Int)=16 -(l.length:Int):=by omega
 rw[e] at hh
 repeat' first|refine kS ?_|refine QdW Ty.h rfl Ty.h (hb:=?_) (hcell:=?_) (kk:=?_)|refine kU ?_|fail
 ·exact Qdy l
 ·simp;omega
 ·exact Qdy _
 ·simp;omega
 (refine Qa 2 (h:=?_);refine Qb (hx:=?_))
 rw[hw.out];simp[A5]
def al8Get(s:Pm.Store)(hg:QM s)(t:Pl.Tree)(ht:Qx t)(k:Nat)(hk:k<16):Pure AB 50 [dSt s,dTree t,dI k] (dS (Qj s.1 ((Qg s t).getD k Pl.hole)).1):=by
 refine kE ?_;refine Qa 0 (h:=?_);refine Qa 1 (h:=?_);have hc:=al8Wide s hg t ht;have hl:=QdG s ht.hi;have ho:=QfD s ht.root;generalize Qg s t=l at*;obtain⟨x,hx⟩: ∃x,l[k]? =some x:=⟨_,A0 (by omega)⟩;have hr:=Qu (f:=rPtr) hx;have h7:=al7R s hg x fun _=>ho x (A3 hx)
 have hgd:l.getD k Pl.hole=x:=by rw[AO,hx];rfl
 rw[hgd];clear hx ho hgd
 repeat' first|refine kS ?_|refine qD (iy hr) ?_|refine kU ?_|fail
 all_goals exact Qb (hx:=rfl)
def Qc(s:Pm.Store)(t:Pl.Tree):List (List UInt8):=((Qg s t).take t.many.toNat).map fun p=>(Qj s.1 p).1
abbrev rSt(s:Pm.Store):List D:=[dStrs s.1,dInts s.2.1.1,dInts s.2.1.2,dI s.2.2.1,dPtrs s.2.2.2.1,dI s.2.2.2.2.1,dPtrs s.2.2.2.2.2.1,dB s.2.2.2.2.2.2]
abbrev rTree(t:Pl.Tree):List D:=[dI t.root.pat,dI t.root.birth,dI t.root.size,dI t.root.sum,dI t.root.level,dI t.depth,dI t.many]
def Qfi(s:Pm.Store)(hg:QM s)(t:Pl.Tree)(ht:Qx t):Pure AB 82 [dSt s,dTree t] (tStrs (Qc s t)):=by
 refine kE ?_;refine Qa 0 (h:=?_);refine Qa 1 (h:=?_);have hc:=al8Wide s hg t ht;have hl:=QdG s ht.hi;have ho:=QfD s ht.root;have h2:Ah (Qc s t=((Qg s t).take t.many.toNat).map fun p=>(Qj s.1 p).1):=Pm.hid rfl;have hm0:=ht.manyLo;have hm1:=ht.manyHi;generalize Qg s t=l at*
 repeat refine kA ?_
 refine Qs (fun m st=> ∃(k g:Nat) (out:List (List UInt8)),k<=t.many.toNat/\m=16 -k/\out.length=k/\Ah (out=(l.take k).map fun p=>(Qj s.1 p).1)/\
  st=⟨34,[(5,.osl 2 g 0 out.length),(6,.d (tPtrs l)),(7,.d (dI k)),(2,.d (.pd (rSt s))),(3,.d (.pd (rTree t)))],[.row 1 [],.row 1 [],.arr g 1 9 (out.map fun s=>[dS s])]⟩) [5,6,7,2,3] 3 16 ⟨0,0,[],by omega,rfl,rfl,Pm.hid rfl,rfl⟩ (round:=?_)
 rintro m st ⟨k,g,out,hk,rfl,hlen,hO,rfl⟩
 repeat refine kG ?_
 cases q4:decide ((k:Int)<t.many)
 ·repeat refine kA ?_
  (refine Qa 2 (h:=?_);refine Qb (hx:=?_))
  have:k=t.many.toNat:=by simp at q4;omega
  rw[h2.out,<-this,<-hO.out];simp[A5]
 have hk2:k<l.length:=by simp at q4;omega
 obtain⟨x,hx⟩: ∃x,l[k]? =some x:=⟨_,A0 hk2⟩;have hr:=Qu (f:=rPtr) hx;have h7:=al7R s hg x fun _=>ho x (A3 hx)
 have T:Ah ((l.take (k+1)).map (fun p=>(Qj s.1 p).1)=out++[(Qj s.1 x).1]):=Pm.hid (by rw[AC,hx,hO.out];simp);clear hx
 repeat' first|refine kS ?_|refine qD (iy hr) ?_|refine QU Ty.h rfl Ty.h (hb:=?_) (kk:=?_)|refine kU ?_|fail
 ·simp;omega
 ·simp at q4
  refine Qn (16 -(k+1)) (by omega) ⟨k+1,g+1,out++[(Qj s.1 x).1],by omega,rfl,by simp[hlen],Pm.hid T.out.symm,?_⟩;simp[keepE,go_sem]
def Qaz(s:Pm.Store)(many:Int)(i:Nat)(p:Pl.Ptr):Bool:=
 Pl.ptrHole p||((Qj s.1 p).2&&(p.level==0)&&decide (p.birth<=s.2.2.1)&&decide ((i:Int)<many))
def Q8(s:Pm.Store)(t:Pl.Tree):Bool:=
 Pl.inR t.many 0 16&&(t.depth==(if t.many<=1 then 0 else if t.many<=4 then 1 else 2))&&Pl.ptrOk t.root&&(QG s t).2&&((QG s t).1.zipIdx.all fun q=>Qaz s t.many q.2 q.1)
def Qdu{s:Pm.Store}(h:Q8 s t=true):Qx t:=by
 unfold Q8 at h;simp only[Bool.and_eq_true,beq_iff_eq] at h;obtain⟨⟨⟨⟨h1,h2⟩,h3⟩,_⟩,_⟩:=h;simp[Pl.inR] at h1;refine⟨?_,?_,h3,h1.1,h1.2⟩<;>rw[h2]<;>split<;>(try split)<;>decide
def QnX{f:α×Nat->Bool}{l:List α}{x:α}(hx:l[k]? =some x):(l.take (k+1)).zipIdx.all f=((l.take k).zipIdx.all f&&f (x,k)):=by
 have hk:k<l.length:=(A2.1 hx).1;rw[AC,hx,List.zipIdx_append,AS];simp[Nat.min_eq_left (Nat.le_of_lt hk)]
def Ql3{f:α×Nat->Bool}{l:List α}{x:α}(hx:l[k]? =some x)(h:f (x,k)=false):l.zipIdx.all f=false:=by
 rw[Ab];exact⟨(x,k),List.mk_mem_zipIdx_iff_getElem?.2 hx,by simp[h]⟩
theorem al8Ok(s:Pm.Store)(hg:QM s)(t:Pl.Tree):Pure AB 52 [dSt s,dTree t] (dB (Q8 s t)):=by
 have hd:Ah (Q8 s t=(Pl.inR t.many 0 16&&(t.depth==(if t.many<=1 then 0 else if t.many<=4 then 1 else 2))&&Pl.ptrOk t.root&&(QG s t).2&&((QG s t).1.zipIdx.all fun q=>Qaz s t.many q.2 q.1))):=Pm.hid rfl;refine kE ?_;refine Qa 0 (h:=?_);refine Qa 1 (h:=?_);cases h1:Pl.inR t.many 0 16
 ·repeat' first|refine kS ?_|refine qD (lC (h1▸al6In t.many 0 16)) ?_|refine kU ?_|fail
  refine Qb (hx:=?_);rw[hd.out,h1];rfl
 have c1:=h1▸al6In t.many 0 16;have c2:=Ql0 t.many;have hdp:(if t.many<=1 then 0 else if t.many<=4 then 1 else 2:Int)=0∨(if t.many<=1 then 0 else if t.many<=4 then 1 else 2:Int)=1∨(if t.many<=1 then 0 else if t.many<=4 then 1 else 2:Int)=2:=by split<;>(try split)<;>simp
 generalize (if t.many<=1 then 0 else if t.many<=4 then 1 else 2:Int)=dp at*;cases h3:Pl.ptrOk t.root
 ·repeat' first|refine kS ?_|refine qD (lC (h3▸aPtrOk t.root)) ?_|refine kU ?_|refine kV ?_ ?_<;>intro q|fail
  all_goals
   refine Qb (hx:=?_);rw[hd.out,h3];simp
 by_cases h2:t.depth=dp
 rotate_left
 ·repeat' first|refine kS ?_|refine qD (lC (h3▸aPtrOk t.root)) ?_|refine kU ?_|refine kV ?_ ?_<;>intro q|fail
  ·refine Qb (hx:=?_)
   rw[hd.out];simp[h2]
  ·simp at q;exact absurd q h2
 have hdo:t.depth<=2/\0<=t.depth:=by omega
 have c3:=QjI s hg t hdo.2 hdo.1;have hll:=Qg5 s hdo.1;have hlo:=Qho s h3;have hd2:Ah (Q8 s t=((QG s t).2&&((QG s t).1.zipIdx.all fun q=>Qaz s t.many q.2 q.1))):=Pm.hid (by rw[hd.out,h1,h3,h2];simp);clear hd;generalize QG s t=lb at*;obtain⟨l,ok⟩:=lb;simp only at hll hlo hd2
 repeat' first|refine kS ?_|refine qD (lC (h3▸aPtrOk t.root)) ?_|refine kU ?_|refine kV ?_ ?_<;>intro q|fail
 ·simp at q;exact absurd h2 q
 ·refine Qb (hx:=?_)
  rw[hd2.out];simp at q;simp[q]
 have hok:ok=true:=by simpa using q
 subst hok
 refine Qs (fun m st=> ∃(k:Nat),k<=l.length/\m=16 -k/\Ah ((l.take k).zipIdx.all (fun q=>Qaz s t.many q.2 q.1)=true)/\
  st=⟨75,[(5,.d (tPtrs l)),(7,.d (dI k)),(2,.d (.pd (rSt s))),(3,.d (.pd (rTree t)))],[]⟩) [5,7,2,3] 0 16 ⟨0,by omega,rfl,Pm.hid rfl,rfl⟩ (round:=?_)
 rintro m st ⟨k,hk,rfl,hA,rfl⟩
 repeat refine kG ?_
 cases q4:decide ((k:Int)<(l.length:Int))
 ·repeat refine kA ?_
  refine Qb (hx:=?_);have:k=l.length:=by simp at q4;omega
  have h:=hA.out;rw[this,A5 (AH _)] at h;rw[hd2.out,h];rfl
 have hk2:k<l.length:=by simp at q4;omega
 obtain⟨x,hx⟩: ∃x,l[k]? =some x:=⟨_,A0 hk2⟩;have hr:=Qu (f:=rPtr) hx;have h7:=al7R s hg x fun _=>hlo x (A3 hx)
 have T:Ah (Qaz s t.many k x=true->(l.take (k+1)).zipIdx.all (fun q=>Qaz s t.many q.2 q.1)=true):=fun e=>by rw[QnX hx,hA.out,e];rfl
 have F:Ah (Qaz s t.many k x=false->Q8 s t=false):=fun e=>by rw[hd2.out,Ql3 hx e];rfl
 have hlf:Ah (Qaz s t.many k x=(Pl.ptrHole x||((Qj s.1 x).2&&(x.level==0)&&decide (x.birth<=s.2.2.1)&&decide ((k:Int)<t.many)))):=Pm.hid rfl;clear hx;generalize Qj s.1 x=rb at*;obtain⟨tx,fine⟩:=rb
 repeat' first|refine kS ?_|refine qS (lC (Qdt x)) ?_|refine qS (iy hr) ?_|refine kU ?_|refine kV ?_ ?_<;>intro q|fail
 all_goals clear c1 c2 c3 h7 hr hlo hA hd2
 all_goals simp only at hlf
 all_goals first|refine Qn (16 -(k+1)) (by omega) ⟨k+1,by omega,rfl,Pm.hid (T.out ?_),rfl⟩;rw[hlf.out];clear T F hlf;simp_all;try omega|refine Qb (hx:=?_);rw[F.out ?_];rw[hlf.out];clear T F hlf;simp_all;try omega
variable{P:AR}
def AV.flat1:AV->Bool
 |.d x=>x.flat
 |.osl _ _ _ _=>true
 |_=>false
def AV.flatA:AV->Bool
 |.tup l=>l.all AV.flat1
 |.agg l=>l.all AV.flat1
 |x=>x.flat1
def Blk.flat:Blk->Bool
 |.arr _ _ _ rows=>rows.all fun r=>r.all D.flat
 |.row _ cells=>cells.isEmpty
 |.none=>true
 |_=>false
theorem QkX{S:Nat->Prop}{H H':List Blk}(hm: ∀i C,H[i]? =some C->H'[i+m]? =some C/\σ' (i+m)=σ i){x:AV}{v:AT}(h:Rel σ S H w x v)(hx:x.flat1=true):Rel σ' S' H' w (x.ren (· +m)) v:=by
 cases h with
 |d _ _ h=>exact .d _ _ (h.flat hx)
 |osl k g off len v ho g' sz T rows hk hg h=>
  obtain⟨h1,h2⟩:=hm k _ hk;refine .osl (k+m) g off len v ho g' sz T rows h1 hg fun e=>?_
  have:=h e;unfold OSl at this⊢;simp_all
 |_=>cases hx
def Quo{S:Nat->Prop}{H H':List Blk}(hm: ∀i C,H[i]? =some C->H'[i+m]? =some C/\σ' (i+m)=σ i){x:AV}{v:AT}(h:Rel σ S H w x v)(hx:x.flatA=true):Rel σ' S' H' w (x.ren (· +m)) v:=by
 cases x with
 |tup l=>
  cases h with
  |tup _ cs hl hr=>
   refine .tup _ cs (by rw[AV.renL_len];exact hl) fun i d x hd hxx=>?_
   obtain⟨d0,h1,rfl⟩:=QeP hd;exact QkX hm (hr i d0 x h1 hxx) (AP.1 hx d0 (A3 h1))
 |agg l=>
  cases h with
  |agg _ cs hl hr=>
   refine .agg _ cs (by rw[AV.renL_len];exact hl) fun i d x hd hxx=>?_
   obtain⟨d0,h1,rfl⟩:=QeP hd;exact QkX hm (hr i d0 x h1 hxx) (AP.1 hx d0 (A3 h1))
 |_=>exact QkX hm h hx
theorem QoL{dst:Option BF}{ty:A6}{pos:String}{after:Array B2}{gd:Option (Nat×Bool)}{env:List (Nat×AV)}{H H1:List Blk}{f:BA}{xs:Array A9}{tys:Array A6}{ds:List D}{x:AV}
 (h:Does P f (ds.map .d) [] [] x H1) (hf: ∀args w,(callFunc f args).run P w= .ok (.enter f args) w) (hd:D.weakL (xs.toList.map fun u=>(aval env u).ice H 4)=ds) (hx:x.flatA=true) (hH1:H1.all Blk.flat=true):
 Eff P ⟨dst,.call ⟨.value (.func f),xs,tys⟩,ty,pos,after,gd⟩ env H (x.ren (· +H.length)) (H++H1):=by
 intro B σ S a w hB hS hop K Q kk
 have hrun:(execOp a.eval ⟨dst,.call ⟨.value (.func f),xs,tys⟩,ty,pos,after,gd⟩).run P w= .ok (.enter f (xs.toList.map a.eval).toArray) w:=by
  have:execOp a.eval ⟨dst,.call ⟨.value (.func f),xs,tys⟩,ty,pos,after,gd⟩=callFunc f (#[]++xs.map a.eval++ #[]):=rfl;rw[this,hf]
  congr 2
  grind
 unfold BD;rw[hrun,Oper.upon_enter]
 let S2:Nat->Prop:=fun b=>S b∨ ∃k,k<H.length/\σ k=some b
 have hB':Gd ⟨w,B.G,fun _=>False,S2⟩:=hB.again hS S2
 have hS':Sm ⟨w,B.G,fun _=>False,S2⟩ (fun _=>none) S2 [] w:=by
  refine⟨rfl,rfl,rfl,AH _,fun _ _ _=>rfl,fun _ h=>h,fun b hb=>⟨?_,.inl hb⟩,fun k b hk=>by simp at hk,fun k k' b hk=>by simp at hk,fun k C hC=>by simp at hC⟩;rcases hb with hb|⟨k,hk,hb⟩
  ·exact(hS.sUp b hb).1
  ·exact(hS.σUp k b hk hb).1
 subst hd;refine(h.2 _ _ S2 w (xs.toList.map a.eval) [] hB' hS' (by simp[D.weakL_len]) (fun i d v hi hv=>?_) rfl (fun i d v hd=>by simp at hd)).mono ?_
 ·rw[AK,D.weakL_get,AK] at hi
  rw[AK] at hv;cases hx:xs.toList[i]? with
  |none=>grind
  |some u=>
   rw[hx] at hi hv;obtain rfl:=A1 hi;obtain rfl:=A1 hv;exact .d _ _ (Qjo hS (fun k C h=> .inl h) 4 _ _ (hop u (by simp only[A7,B6];grind))).weak
 rintro e w' ⟨v,σ',S',rfl,hS1,hR,_⟩;have hb:Below w.heap.size w w':=⟨hS1.os,hS1.tape,hS1.output,hS1.size,fun k hk=>hS1.keep k hk fun h=>h⟩;have hlt: ∀k b,k<H.length->σ k=some b->b<w.heap.size:=fun k b hk hb=>(hS.σUp k b hk hb).1
 let σ2:Sg:=fun k=>if k<H.length then σ k else σ' (k -H.length)
 have h2a: ∀k,k<H.length->σ2 k=σ k:=fun k hk=>if_pos hk
 have h2b: ∀k,¬k<H.length->σ2 k=σ' (k -H.length):=fun k hk=>if_neg hk
 have e0:Ev σ S H w σ2 S (H++H1) w':=Ev.more (fun b hb2=>hb.block b (hS.sUp b hb2).1) fun k C hC _=>by
  have hk:=(A2.1 hC).1;exact⟨by grind,h2a k hk,fun b hbb=>hb.block b (hlt k b hk hbb)⟩
 have hm: ∀i C,H1[i]? =some C->(H++H1)[i+H.length]? =some C/\σ2 (i+H.length)=σ' i:=fun i C hC=>
  ⟨by grind,by grind⟩
 have hnew: ∀k b,k<H1.length->σ' k=some b->b<w'.heap.size/\ ¬S2 b/\w.heap.size<=b:=fun k b hk hbb=>by
  obtain⟨g1,g2,g3⟩:=hS1.σUp k b hk hbb;exact⟨g1,fun h=>g2 (hS1.sLo b h),g3.resolve_left fun h=>h⟩
 refine kk v w' σ2 S ⟨hb.os.trans hS.os,hb.tape.trans hS.tape,hb.output.trans hS.output,AX hS.size hb.size,fun b hlt hn=>(hb.block b (by have:=hS.size;omega)).trans (hS.keep b hlt hn),hS.sLo,
  fun b hb2=>⟨by have:=(hS.sUp b hb2).1;have:=hb.size;omega,(hS.sUp b hb2).2⟩,fun k b hk hbb=>?_,fun k k' b hk hk' h1 h2=>?_,fun k C hC=>?_⟩ (Quo hm hR hx) e0
 ·by_cases hkl:k<H.length
  ·rw[h2a k hkl] at hbb
   obtain⟨g1,g2⟩:=hS.σUp k b hkl hbb;exact⟨by have:=hb.size;omega,g2⟩
  ·rw[h2b k hkl] at hbb
   obtain⟨g1,g2,g3⟩:=hnew _ b (by grind) hbb;exact⟨g1,fun h=>g2 (.inl h),.inr (by have:=hS.size;omega)⟩
 ·by_cases hkl:k<H.length
  ·rw[h2a k hkl] at h1
   have:=hlt k b hkl h1
   by_cases hkl':k'<H.length
   ·rw[h2a k' hkl'] at h2;exact hS.inj k k' b hkl hkl' h1 h2
   grind
  ·rw[h2b k hkl] at h1
   by_cases hkl':k'<H.length
   ·grind
   ·rw[h2b k' hkl'] at h2
    have:=hS1.inj _ _ b (by grind) (by grind) h1 h2;omega
 ·by_cases hkl:k<H.length
  ·rw[AE hkl] at hC
   exact(hS.blk k C hC).mono e0 (h2a k hkl) fun b hbb=>hb.block b (hlt k b hkl hbb)
  ·rw[AM (by omega)] at hC
   have hfl:=AP.1 hH1 C (A3 hC);have hbk:=hS1.blk _ C hC;cases C with
   |arr g sz T rows=>
    obtain⟨g1,g2⟩:=hbk;refine⟨g1,?_⟩;rw[<-h2b k hkl] at g2;rcases g2 with⟨b,cs,hb1,hc,hr⟩|g2
    ·refine .inl ⟨b,cs,hb1,hc,fun i j r d hi hj=>?_⟩
     obtain⟨u,hu,hd⟩:=hr i j r d hi hj;exact⟨u,hu,hd.flat (AP.1 (AP.1 hfl r (A3 hi)) d (A3 hj))⟩
    grind
   |row g cells=>
    obtain rfl:cells=[]:=List.isEmpty_iff.1 hfl;rcases hbk with⟨b,cs,T,hb1,hc,_⟩|⟨hb1,_⟩
    ·exact .inl ⟨b,cs,T,(h2b k hkl).trans hb1,hc,fun j x hx=>by simp at hx⟩
    ·exact .inr ⟨(h2b k hkl).trans hb1,rfl⟩
   |none=>exact(h2b k hkl).trans hbk
   |mp g l=>cases hfl
section
variable{ops:Array Au}{Q:Exit->St->Prop}{K:St->Prop}{l:List Au}{n:Nat}{env:List (Nat×AV)}{H H' H1:List Blk}{d:BF}{ty:A6}{pos:String}{after:Array B2}{gd:Option (Nat×Bool)}{x x':AV}{f:BA}{xs:Array A9}{tys:Array A6}{ds:List D}

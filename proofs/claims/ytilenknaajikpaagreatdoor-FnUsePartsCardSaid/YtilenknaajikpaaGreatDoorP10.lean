/- Of parts_card; no condition. -/
import Derived.Test.YtilenknaajikpaaGreatDoorP09
set_option linter.all false
set_option maxRecDepth 100000
set_option maxHeartbeats 4000000
open Array renaming size_setIfInBounds->AB,mem_toList_iff->AR
open Bool renaming or_eq_true_iff->AC,or_eq_false_iff->AE,and_eq_true->Ab
open Go renaming Program->A2,Oper->A5,World->AO,Exit->Ag,TypeId->Ah,Act->Aj
open Go.Act renaming put->AZ
open Go.Operand renaming tmp->AM
open Go.Proofs.Tryz renaming prog->AJ
open Go.Region renaming binds->AQ,wanted->AU
open Go.RowKit.Below renaming refl->Af
open List renaming getElem?_eq_some_iff->A0,getElem?_eq_getElem->A3,mem_append_right->A4,mem_cons_of_mem->A6,mem_append_left->A7,getElem?_append_right->A8,mem_cons_self->A9,getElem?_append_left->AA,ext_getElem?->AD,length_drop->AG,mem_cons->AH,getD_eq_getElem?_getD->AL,getElem?_set->AN,all_eq_true->AP,replicate->AS,range->AW,mem_filterMap->AX,append_assoc->AY,getElem?_map->Aa,mem_append->Ac,mem_filter->Ad
open Nat renaming lt_or_ge->AF,le_of_ble_eq_true->AI,le_refl->AK,blt->AT,ble->Ae,zero_add->Ai
open Option.some renaming inj->A1
namespace Go.Proofs.YtilenknaajikpaaGreatDoor
noncomputable section
section
open Go.RowKit
namespace Aw
namespace Fg
theorem Loc.env{P:A2}{o:A5}{env env':List (Nat×AV)}{H:List Blk}{x:AV}{nb:Option Blk}(h:Loc P o env H x nb)(he: ∀q,AM q∈o.op.operands->look env' q=look env q):Loc P o env' H x nb:=by
 intro B σ S H' a w hB hS hop;refine h B σ S H' a w hB hS fun u hu=>?_
 have:=hop u hu;cases u with
 |tmp q=>simp only[aval] at this⊢;grind
 |_=>exact this
end Fg
namespace Fk
def maskP(p:Nat->Bool)(H:List Blk):List Blk:=H.zipIdx.map fun q=>bif p q.2 then Blk.none else q.1
theorem QdK(p:Nat->Bool)(H:List Blk)(k:Nat):(maskP p H)[k]? =H[k]?.map fun C=>bif p k then Blk.none else C:=by
 unfold maskP
 grind
def Qgh(p:Nat->Bool)(H:List Blk):(maskP p H).length=H.length:=by simp[maskP]
theorem maskP_no{p:Nat->Bool}(h: ∀k,p k=false)(H:List Blk):maskP p H=H:=AD fun k=>by
 rw[QdK]
 grind
theorem QlZ{p:Nat->Bool}{H:List Blk}(h: ∀k,p k=true->k<H.length)(L:List Blk):maskP p (H++L)=maskP p H++L:=AD fun k=>by
 rw[QdK]
 by_cases hk:k<H.length
 ·rw[AA hk,AA (by rw[Qgh];exact hk),QdK]
 ·rw[A8 (by omega),A8 (by rw[Qgh];omega),Qgh]
  grind
theorem QiX{p:Nat->Bool}{H:List Blk}{k:Nat}{C:Blk}(h:p k=false):(maskP p H).set k C=maskP p (H.set k C):=AD fun j=>by
 rw[QdK,AN,AN,Qgh,QdK]
 grind
def Qnm{p:Nat->Bool}{H H':List Blk}(h:Agree H H'):Agree H (maskP p H'):=fun k C hC=>by
 rw[QdK];rcases h k C hC with h|h<;>rw[h]<;>cases p k<;>simp
structure Fas where
 l:List (Nat×Nat×Blk)
 kp:List (Nat×Blk)
def KPs(kp:List (Nat×Blk))(H:List Blk):Prop:= ∀q∈kp,H[q.1]? =some q.2
def opn(fa:Fas)(F:Nat->Bool)(k:Nat):Bool:=fa.l.any fun q=>Nat.beq q.2.1 k&& !F q.1
def kof(fa:Fas)(f:Nat):Option (Nat×Blk):=(fa.l.find? fun q=>Nat.beq q.1 f).map (·.2)
def mkFa(h:Nat):List (Nat×Blk)->List (Nat×Nat×Blk)
 |[]=>[]
 |(f,C)::r=>(f,h,C)::mkFa (h+1) r
def EffM(P:A2)(o:A5)(env:List (Nat×AV))(H:List Blk)(ks:List Nat)(R:AV->List Blk->Prop):Prop:=
 ∀p:Nat->Bool,(∀k,p k=true->k∈ks)->EffE P o env (maskP p H) fun x K'=> ∃K,R x K/\K'=maskP p K/\ ∀k,p k=true->K[k]? =H[k]?
def AStepM(P:A2)(ops:Array A5)(o:A5)(ks:List Nat)(K:St->Prop)(s:St):Prop:=
 ∃R,EffM P o s.env s.H ks R/\awanted ops s.env o=some true/\dstOk s.n o.dst=true/\gdOk ops s.n o=true/\ ∀x H',R x H'->K ⟨s.n,putE s.env o.dst x,H'⟩
def kap(ops:List A5)(fa:Fas)(m:Nat):List Nat:=(fa.l.filter fun q=> !((befs ops []).getD m 0).testBit q.1).map (·.2.1)
abbrev Tl:=List (Nat×Nat×AV)
def QuietO(ops:List A5)(fl:List Nat)(ts:Tl)(off q:Nat):Prop:= ∀(j:Nat) p,ops[j]? =some p->memN fl j=false->p.dst=some q->(∃t∈ts,j=t.1)/\j<off
def QuietO.of{ops:List A5}{fl:List Nat}{ts:Tl}{off q:Nat}(h:Quiet ops fl q):QuietO ops fl ts off q:=fun j p h1 h2 h3=>absurd h3 (h j p h1 h2)
def ungE(q:Nat):List (Nat×AV)->List (Nat×AV)
 |[]=>[]
 |(k,x)::r=>bif k==q then ungE q r else(k,x)::ungE q r
theorem QiF(q:Nat): ∀env,look (ungE q env) q= .d .any
 |[]=>rfl
 |(k,x)::r=>by
  unfold ungE;cases h:k==q
  ·have h: ¬k=q:=by grind
   rw[cond_false,Qd1 h];exact QiF q r
  ·exact QiF q r
theorem QqQ{q t:Nat}(hne:t≠q): ∀env,look (ungE q env) t=look env t
 |[]=>rfl
 |(k,x)::r=>by
  unfold ungE;cases h:k==q
  ·rw[cond_false]
   by_cases hk:k=t
   ·subst hk;rw[Qdv,Qdv]
   ·rw[Qd1 hk,Qd1 hk];exact QqQ hne r
  ·have h:k=q:=by grind
   rw[cond_true,Qd1 (fun e=>hne (by omega))];exact QqQ hne r
def ungs(ts:Tl)(env:List (Nat×AV)):List (Nat×AV):=ts.foldr (fun t e=>ungE t.2.1 e) env
theorem QqO{t:Nat}{env:List (Nat×AV)}: ∀{ts:Tl},(∃r∈ts,r.2.1=t)->look (ungs ts env) t= .d .any
 |[],h=>by grind
 |a::r,h=>by
  show look (ungE a.2.1 (ungs r env)) t=_
  by_cases e:t=a.2.1
  ·rw[e];exact QiF _ _
  ·rw[QqQ e]
   obtain⟨b,hb,hbt⟩:=h;rcases AH.1 hb with rfl|hb
   ·omega
   ·exact QqO ⟨b,hb,hbt⟩
def QqP{t:Nat}{env:List (Nat×AV)}: ∀{ts:Tl},(∀r∈ts,r.2.1≠t)->look (ungs ts env) t=look env t
 |[],_=>rfl
 |a::r,h=>by
  show look (ungE a.2.1 (ungs r env)) t=_;rw[QqQ (h a A9).symm];exact QqP fun b hb=>h b (A6 _ hb)
def QrI{t:Nat}{env:List (Nat×AV)}: ∀{ts:Tl},(∀r∈ts,r.2.1≠t)->look (ts.map (·.2)++env) t=look env t
 |[],_=>rfl
 |(a,q,v)::r,h=>by
  show look ((q,v)::(r.map (·.2)++env)) t=_;rw[Qd1 (h _ A9)];exact QrI fun b hb=>h b (A6 _ hb)
def Qg8(ops:List A5)(fl:List Nat)(ts:List Nat)(n:Nat):Bool:=ascN fl&&fl.all (float1 ops (ts++fl) n)&&fl.all (fun f=>float1 ops (ts.filter (fun m=>AT m f)++fl) n f)
def Gt(m:Nat)(env:List (Nat×AV)):Tl->Prop
 |[]=>True
 |(a,q,v)::r=>(m=a->look env q=v)/\Gt m env r
def Gt.get{m:Nat}{env:List (Nat×AV)}: ∀{ts:Tl},Gt m env ts-> ∀t∈ts,m=t.1->look env t.2.1=t.2.2
 |[],_,t,h=>by cases h
 |(a,q,v)::r,h,t,ht=>by
  rcases AH.1 ht with rfl|ht
  ·exact h.1
  ·exact h.2.get t ht
def Gs(m:Nat)(ts:Tl)(K:St->Prop)(s:St):Prop:=Gt m s.env ts/\K s
def Flts(P:A2)(ops:List A5)(fa:Fas)(K:List (Nat×AV)->Prop):List Nat->List (Nat×AV)->Prop
 |[],env=>K env
 |f::r,env=> ∃o x,ops[f]? =some o/\(match kof fa f with
  |none=> ∀H,KPs fa.kp H->Loc P o env H x none
  |some (κ,C)=> ∀H:List Blk,H.length=κ->Loc P o env H x (some C))/\Flts P ops fa K r (putE env o.dst x)
def pend(ops:List A5)(fl:List Nat):Nat->Bool
 |0=>true
 |m+1=>fl.any fun f=> !((befs ops []).getD m 0).testBit f
def PlanF(P:A2)(ops:List A5)(fl:List Nat)(fa:Fas)(ts:Tl)(Q:St->Prop):List Nat->Nat->St->Prop
 |[],off,s=>(pend ops fl off=true->KPs fa.kp s.H)/\ADraw P ops.toArray Q (segF fl ops.length off (ops.drop off)) s
 |m::ms,off,s=>(pend ops fl off=true->KPs fa.kp s.H)/\Ae off m=true/\barOkF ops fl m=true/\ ∃o,ops[m]? =some o/\ADraw P ops.toArray (AStepM P ops.toArray o (kap ops fa m) (Gs m ts (PlanF P ops fl fa ts Q ms (m+1)))) (segF fl m off (ops.drop off)) s
def PlanEndF(P:A2)(ops:List A5)(fl:List Nat)(fa:Fas)(ts:Tl)(Q:St->Prop)(off:Nat):List Nat->St->Prop
 |[],s=>Q s
 |m::ms,s=>off<=m/\barOkF ops fl m=true/\ ∃o,ops[m]? =some o/\AStepM P ops.toArray o (kap ops fa m) (Gs m ts (PlanF P ops fl fa ts Q ms (m+1))) s
def segE(ops:List A5)(fl:List Nat)(off:Nat):List Nat->List A5
 |[]=>segD fl ops.length off (ops.drop off)
 |m::_=>segD fl m off (ops.drop off)
def FLoc(P:A2)(fa:Fas)(f:Nat)(o:A5)(env:List (Nat×AV))(x:AV):Prop:=
 match kof fa f with
 |none=> ∀H,KPs fa.kp H->Loc P o env H x none
 |some (κ,C)=> ∀H:List Blk,H.length=κ->Loc P o env H x (some C)
def FLoc.env{P:A2}{fa:Fas}{f:Nat}{o:A5}{env env':List (Nat×AV)}{x:AV}(h:FLoc P fa f o env x)(he: ∀q,AM q∈o.op.operands->look env' q=look env q):FLoc P fa f o env' x:=by
 unfold FLoc at*;split at h
 ·exact fun H hk=>Fg.Loc.env (h H hk) he
 ·exact fun H hH=>Fg.Loc.env (h H hH) he
structure Fx(P:A2)(ops:List A5)(fl:List Nat)(ts:Tl)(fa:Fas)(n:Nat)(env:List (Nat×AV))(fx:List (Nat×Nat×AV)):Prop where
 ok: ∀f t x,(f,t,x)∈fx->memN fl f=true/\ ∃o,FlSt ops (ts.map (·.1)++fl) n f o t/\look env t=x/\FLoc P fa f o env x
 all: ∀f,memN fl f=true-> ∃t x,(f,t,x)∈fx
theorem flts_build{P:A2}{ops:List A5}{fl:List Nat}{fa:Fas}{n:Nat}{K:List (Nat×AV)->Prop}: ∀(r:List Nat) (env:List (Nat×AV)),Flts P ops fa K r env->(∀f∈r,float1 ops fl n f=true)->ascN r=true->
 ∃(env':List (Nat×AV)) (fx:List (Nat×Nat×AV)),K env'/\(∀f t x,(f,t,x)∈fx->f∈r/\ ∃o,FlSt ops fl n f o t/\look env' t=x/\FLoc P fa f o env' x)/\(∀f∈r,∃t x,(f,t,x)∈fx)/\
  ∀q,(∀f∈r,∀o,ops[f]? =some o->o.dst≠some q)->look env' q=look env q
 |[],env,h,_,_=>⟨env,[],h,fun f t x hm=>by simp at hm,fun f hf=>by simp at hf,fun _ _=>rfl⟩
 |f::r,env,⟨o,x,ho,hl,hk⟩,h1,ha=>by
  simp only[ascN,Ab,AP] at ha;obtain⟨env',fx,hK,hfx,hall,hq⟩:=flts_build (fl:=fl) (n:=n) r _ hk (fun g hg=>h1 g (A6 _ hg)) ha.2;obtain⟨o',t,hf⟩:=Qe1 (h1 f A9);have:=hf.op;rw[ho] at this;obtain rfl:=A1 this;rw[hf.dst] at hq;have hlater: ∀g∈r,f<g:=fun g hg=>by simp_all
  have hqt:look env' t=x:=by
   rw[hq t fun g hg p hp=>hf.sole g p (by grind) hp];exact Qdv _ _ _
  refine⟨env',(f,t,x)::fx,hK,fun g u y hm=>?_,fun g hg=>?_,fun q hne=>?_⟩
  ·rcases AH.1 hm with e|hm
   ·simp only[Prod.mk.injEq] at e
    obtain⟨rfl,rfl,rfl⟩:=e;refine⟨A9,o,hf,hqt,FLoc.env (P:=P) (fa:=fa) (show FLoc P fa g o env y from hl) fun q hq'=>?_⟩;have hqn:q∈names ops o:=A7 _ (A4 _ (QhF hq'));rw[hq q fun g hg p hp e=>?_]
    ·refine Qd1 (fun e=>hf.own ?_) _ _
     grind
    ·obtain⟨p',u,hg'⟩:=Qe1 (h1 g (A6 _ hg))
     have:=hg'.op;rw[hp] at this;obtain rfl:=A1 this;have hu:=hg'.dst;rw[e] at hu;obtain rfl:=A1 hu;exact hg'.before _ _ (hlater g hg) ho hqn
   grind
  ·grind
  ·rw[hq q fun g hg=>hne g (A6 _ hg)]
   exact Qd1 (fun e=>hne f A9 o ho (by rw[hf.dst,e])) _ _
section
variable{P:A2}{ops:List A5}{fl:List Nat}{fa:Fas}{n:Nat}{ts:Tl}{envF:List (Nat×AV)}{fx:List (Nat×Nat×AV)}{B:Bs}
def PhF(fa:Fas)(fx:List (Nat×Nat×AV))(B:Bs)(F:Nat->Bool)(l:List A5)(s:St)(xv:Nat->AV)(nb:Nat->Option Blk)(E:Nat->Bool)(a:Aj)(w:AO):Prop:=
 ∃σ S,Sm B σ S (maskP (opn fa F) (HE s.H nb l.length E)) w/\a.defers=[]/\a.tmps.size=s.n/\(∀f t x,(f,t,x)∈fx->F f=true->Rel σ S (maskP (opn fa F) (HE s.H nb l.length E)) w x (a.tmps.getD t undef))/\ ∀t,(∀f x,(f,t,x)∉fx)->
  (∃i o,E i=true/\l[i]? =some o/\o.dst=some t/\(∀j o',E j=true->l[j]? =some o'->o'.dst=some t->j<=i)/\Rel σ S (maskP (opn fa F) (HE s.H nb l.length E)) w (xv i) (a.tmps.getD t undef))∨
  ((∀j o,E j=true->l[j]? =some o->o.dst≠some t)/\Rel σ S (maskP (opn fa F) (HE s.H nb l.length E)) w (look s.env t) (a.tmps.getD t undef))
def SmF(fa:Fas)(fx:List (Nat×Nat×AV))(B:Bs)(F:Nat->Bool)(σ:Sg)(S:Nat->Prop)(s:St)(a:Aj)(w:AO):Prop:=
 Sm B σ S (maskP (opn fa F) s.H) w/\a.defers=[]/\a.tmps.size=s.n/\(∀f t x,(f,t,x)∈fx->F f=true->Rel σ S (maskP (opn fa F) s.H) w x (a.tmps.getD t undef))/\ ∀t,(∀f x,(f,t,x)∉fx)->Rel σ S (maskP (opn fa F) s.H) w (look s.env t) (a.tmps.getD t undef)
def HE_mask{p:Nat->Bool}{H:List Blk}(h: ∀k,p k=true->k<H.length)(nb:Nat->Option Blk)(n:Nat)(E:Nat->Bool):HE (maskP p H) nb n E=maskP p (HE H nb n E):=by
 unfold HE;exact(QlZ h _).symm
theorem QlS{fa:Fas}{F:Nat->Bool}{f:Nat}(h: ∀q∈fa.l,q.1≠f):opn fa (fun j=>F j||decide (j=f))=opn fa F:=funext fun k=>by
 unfold opn
 grind
def Qep{fa:Fas}{F:Nat->Bool}{k:Nat}:opn fa F k=true↔ ∃q∈fa.l,q.2.1=k/\F q.1=false:=by
 unfold opn;simp
theorem KPs.mask{fa:Fas}{F:Nat->Bool}{H L:List Blk}(h:KPs fa.kp H)(hd: ∀q∈fa.l,∀p∈fa.kp,q.2.1≠p.1):KPs fa.kp (maskP (opn fa F) (H++L)):=fun p hp=>by
 have h1:=h p hp
 have h2:opn fa F p.1=false:=by
  cases ho:opn fa F p.1 with
  |false=>rfl
  |true=>obtain⟨q,h3,h4,_⟩:=Qep.1 ho;grind
 rw[QdK,h2,AA (A0.1 h1).1,h1];rfl
def QtY{fa:Fas}{f:Nat}(h:kof fa f=none): ∀q∈fa.l,q.1≠f:=fun q hq e=>by
 unfold kof at h;rw[Option.map_eq_none_iff,List.find?_eq_none] at h;exact h q hq (by simp[e])
theorem QkQ{fa:Fas}{f κ:Nat}{C:Blk}(h:kof fa f=some (κ,C)):(f,κ,C)∈fa.l:=by
 unfold kof at h;obtain⟨q,h1,h2⟩:=Option.map_eq_some_iff.1 h;have h3:=List.find?_some h1;have h4:=List.mem_of_find?_eq_some h1;have:q.1=f:=by simp_all
 grind
theorem PhF.start{F:Nat->Bool}{l:List A5}{s:St}{xv:Nat->AV}{nb:Nat->Option Blk}{E:Nat->Bool}{a:Aj}{w:AO}{σ:Sg}{S:Nat->Prop}(hA:SmF fa fx B F σ S s a w)(hlow: ∀k,opn fa F k=true->k<s.H.length)(hE: ∀j o,l[j]? =some o->E j=true->o.dst=none/\nb j=none):PhF fa fx B F l s xv nb E a w:=by
 obtain⟨hsm,hdf,hsz,hfl,henv⟩:=hA
 have key: ∀m,∃σ',Sm B σ' S (HE (maskP (opn fa F) s.H) nb m (fun _=>false)) w/\Ev σ S (maskP (opn fa F) s.H) w σ' S (HE (maskP (opn fa F) s.H) nb m (fun _=>false)) w:=by
  intro m;induction m with
  |zero=>exact⟨σ,by simpa[HE] using hsm,by simpa[HE] using Ev.refl σ S (maskP (opn fa F) s.H) w⟩
  |succ m ih=>
   obtain⟨σ',h1,h2⟩:=ih
   have hsucc:HE (maskP (opn fa F) s.H) nb (m+1) (fun _=>false)=HE (maskP (opn fa F) s.H) nb m (fun _=>false)++maskB false (nb m):=by
    unfold HE;rw[List.range_succ,List.flatMap_append,AY];simp
   rw[hsucc];cases hnb:nb m with
   |none=>exact⟨σ',by simpa[maskB] using h1,by simpa[maskB] using h2⟩
   |some C=>
    obtain⟨h3,h4⟩:=h1.keepPlace;exact⟨_,by simpa[maskB] using h3,by simpa[maskB] using h2.trans h4⟩
 obtain⟨σ',h1,h2⟩:=key l.length
 have e:HE s.H nb l.length E=HE s.H nb l.length (fun _=>false):=by
  unfold HE
  congr 1
  apply congrArg List.flatten;apply List.map_congr_left;intro j hj;have hj:=List.mem_range.1 hj;cases hEj:E j with
  |false=>rfl
  |true=>rw[(hE j _ (A3 hj) hEj).2];rfl
 rw[HE_mask hlow] at h1 h2;rw[<-e] at h1 h2;exact⟨σ',S,h1,hdf,hsz,fun f t x hm hF=>(hfl f t x hm hF).mono h2,fun t ht=> .inr ⟨fun j o hj ho=>by grind,(henv t ht).mono h2⟩⟩
theorem PhF.done{F:Nat->Bool}{l:List A5}{s:St}{st:Nat->St}{xv:Nat->AV}{nb:Nat->Option Blk}{E:Nat->Bool}{a:Aj}{w:AO}(hch:Chain P ops.toArray l st xv nb)(h0:st 0=s)
 (h:PhF fa fx B F l s xv nb E a w) (hall: ∀i,i<l.length->E i=true): ∃σ S,SmF fa fx B F σ S (st l.length) a w:=by
 obtain⟨σ,S,h1,h2,h3,h6,h4⟩:=h;have hn:=hch.n;have hheap:=hch.heap
 have hH:(st l.length).H=HE s.H nb l.length E:=by
  rw[hheap _ (AK _),h0,<-HE_all (nb:=nb) (E:=E) (fun i hi=>hall i hi)]
 refine⟨σ,S,by grind,h2,by grind,by grind,fun t ht=>?_⟩;rw[hH];have hEi: ∀(j:Nat) o,l[j]? =some o->E j=true:=fun j o ho=>hall j (A0.1 ho).1
 have hlt: ∀(j:Nat) o,l[j]? =some o->j<l.length:=fun j o ho=>(A0.1 ho).1
 rcases hch.slot l.length (AK _) t with⟨j,o,g1,g2,g3,g4,g5⟩|⟨g1,g2⟩
 ·grind
 grind
theorem put_same{a:Aj}{t n:Nat}{v:Value}(h3:a.tmps.size=n)(ht:t<n):(a.put (some t) v).tmps.getD t undef=v:=by
 have hlt:t<a.tmps.size:=by omega
 simp only[AZ]
 simp_all
theorem put_other{a:Aj}{t:Nat}{d:Option Tmp}{v:Value}(h:d≠some t):(a.put d v).tmps.getD t undef=a.tmps.getD t undef:=by
 cases hd':d with
 |none=>rfl
 |some d'=>
  have:d'≠t:=fun e=>h (by rw[hd',e])
  simp only[AZ]
  simp_all
theorem slot_fx{F:Nat->Bool}{i:Nat}{o:A5}{t:Nat}(hX:Fx P ops fl ts fa n envF fx)(htmp:tmpOk ops=true)(ho:ops[i]? =some o)(hi:memN fl i=false)(hcl:Closed ops F)(hedge: ∀e∈o.after,AQ .any e=true->F e.on=true)
 (ht:t∈names ops o) {f:Nat} {x:AV} (hm:(f,t,x)∈fx):F f=true:=by
 obtain⟨h1,p,hf,_,_⟩:=hX.ok f t x hm;have hne:f≠i:=fun e=>by grind
 rcases AF f i with hlt|hge
 ·exact QdU hcl ho hedge ((Qem htmp ho hf.op ht hf.dst hne).1 hlt) hne
 ·exact absurd ht (hf.before i o (by omega) ho)
theorem PhF.step{F:Nat->Bool}{off i:Nat}{l:List A5}{s:St}{st:Nat->St}{xv:Nat->AV}{nb:Nat->Option Blk}{E:Nat->Bool}{a:Aj}{w:AO}{o:A5}{K:Aj->AO->Prop}{Q:Ag->Aj->AO->Prop}(hB:Gd B)
 (hX:Fx P ops fl ts fa n envF fx) (htmp:tmpOk ops=true) (hgd: ∀(i:Nat) (o:A5) (j:Nat) (want:Bool),ops[i]? =some o->o.guard=some (j,want)-> ∀p,ops[j]? =some p-> ∀d,p.dst=some d->AT d s.n=true)
 (hch:Chain P ops.toArray l st xv nb) (h0:st 0=s) (hlget: ∀(j:Nat) o,l[j]? =some o->(o=dum/\memN fl (off+j)=true)∨(ops[off+j]? =some o/\memN fl (off+j)=false)) (hqs: ∀t,QuietO ops fl ts off t->look s.env t=look envF t)
 (hEF: ∀(j:Nat),memN fl (off+j)=false->E j=F (off+j))
 (hil:i<l.length) (ho:ops[off+i]? =some o) (hio:memN fl (off+i)=false) (hol:l[i]? =some o)
 (hcl:Closed ops F) (hedge: ∀e∈o.after,AQ .any e=true->F e.on=true) (hFi:F (off+i)=false) (hlow: ∀k,opn fa F k=true->k<s.H.length) (h:PhF fa fx B F l s xv nb E a w)
 (hK: ∀a' w',PhF fa fx B F l s xv nb (fun j=>E j||decide (j=i)) a' w'->K a' w'):wpOp P ops.toArray Q (off+i) K a w:=by
 obtain⟨σ,S,h1,h2,h3,h6,h4⟩:=h;have hn:=hch.n;have hheap:=hch.heap;have ho2:ops.toArray[off+i]? =some o:=by grind
 obtain⟨⟨hdst,hstep⟩,hnext⟩:=hch.step i o hol;have hHi:(st i).H=s.H++(AW i).flatMap fun j=>(nb j).toList:=by grind
 have hHlen:(st i).H.length=(HE s.H nb i E).length:=by rw[hHi,HE_none,List.length_append]
 have hpos:opn fa F (st i).H.length=false:=by
  grind
 have hEi:E i=false:=by grind
 have hld: ∀(j:Nat) p t,l[j]? =some p->p.dst=some t->ops[off+j]? =some p/\memN fl (off+j)=false:=fun j p t hp hd=>by
  rcases hlget j p hp with⟨rfl,_⟩|h
  ·cases hd
  ·exact h
 have hqfx: ∀f t x,(f,t,x)∈fx->Quiet ops fl t:=fun f t x hm j p hp hj e=>by
  obtain⟨h5,p',hf,_⟩:=hX.ok f t x hm;exact hf.sole j p (fun e=>by subst e;rw[hj] at h5;cases h5) hp e
 have hslot: ∀t,t∈names ops o->Rel σ S (maskP (opn fa F) (HE s.H nb l.length E)) w (look (st i).env t) (a.tmps.getD t undef):=by
  intro t ht
  by_cases hfx: ∃f x,(f,t,x)∈fx
  ·obtain⟨f,x,hm⟩:=hfx
   have hFf:=slot_fx hX htmp ho hio hcl hedge ht hm;obtain⟨_,p,hf,hlk,_⟩:=hX.ok f t x hm
   have:look (st i).env t=x:=by
    rcases hch.slot i (by omega) t with⟨j,p',g1,g2,g3,g4,g5⟩|⟨g1,g2⟩
    ·obtain⟨g6,g7⟩:=hld j p' t g2 g3
     exact absurd g3 (hqfx f t x hm _ _ g6 g7)
    ·rw[g2,h0,hqs t (.of (hqfx f t x hm)),hlk]
   grind
  have hnf: ∀f x,(f,t,x)∉fx:=fun f x hm=>hfx ⟨f,x,hm⟩
  rcases hch.slot i (by omega) t with⟨j,p,g1,g2,g3,g4,g5⟩|⟨g1,g2⟩
  ·rw[g5]
   obtain⟨g7,g8⟩:=hld j p t g2 g3;have hEj:F (off+j)=true:=QdU hcl ho hedge ((Qem htmp ho g7 ht g3 (by omega)).1 (by omega)) (by omega);rw[<-hEF j g8] at hEj;rcases h4 t hnf with⟨i',o',k1,k2,k3,k4,k5⟩|⟨k1,_⟩
   ·obtain⟨k7,k8⟩:=hld i' o' t k2 k3
    have hne:i'≠i:=fun e=>by subst e;rw[hEi] at k1;cases k1
    have hlt:i'<i:=by
     rcases AF i' i with h|h
     ·exact h
     ·rw[hEF i' k8] at k1
      have:=QiA hcl k1 ((Qem htmp ho k7 ht k3 (by omega)).2 (by omega))
      grind
    grind
   grind
  ·rw[g2,h0]
   rcases h4 t hnf with⟨i',o',k1,k2,k3,_⟩|⟨_,k5⟩
   ·obtain⟨k7,k8⟩:=hld i' o' t k2 k3
    have hne:i'≠i:=fun e=>by subst e;rw[hEi] at k1;cases k1
    exfalso;rcases AF i' i with h|h
    ·grind
    ·rw[hEF i' k8] at k1
     have:=QiA hcl k1 ((Qem htmp ho k7 ht k3 (by omega)).2 (by omega))
     grind
   ·exact k5
 have fin: ∀v w' σ' S',Sm B σ' S' (setNb (maskP (opn fa F) (HE s.H nb l.length E)) (st i).H.length (nb i)) w'->Rel σ' S' (setNb (maskP (opn fa F) (HE s.H nb l.length E)) (st i).H.length (nb i)) w' (xv i) v->
  Ev σ S (maskP (opn fa F) (HE s.H nb l.length E)) w σ' S' (setNb (maskP (opn fa F) (HE s.H nb l.length E)) (st i).H.length (nb i)) w'->K (a.put o.dst v) w':=by
  intro v w' σ' S' hS hR hev
  have hset:setNb (maskP (opn fa F) (HE s.H nb l.length E)) (st i).H.length (nb i)=maskP (opn fa F) (HE s.H nb l.length (fun j=>E j||decide (j=i))):=by
   cases hnb:nb i with
   |none=>show maskP _ _=maskP _ _;rw[QqA (nb:=nb) (E:=E) hnb]
   |some C=>show List.set _ _ _=_;rw[QiX hpos,hHlen,(Qpq hil hEi hnb).2]
  rw[hset] at hS hR hev;refine hK _ _ ⟨σ',S',hS,?_,?_,fun f t x hm hF=>?_,fun t hnf=>?_⟩
  ·cases hd:o.dst<;>exact h2
  ·cases hd:o.dst
   ·exact h3
   ·simp only[AZ,AB];exact h3
  ·rw[put_other fun e=>hqfx f t x hm _ _ ho hio e]
   exact(h6 f t x hm hF).mono hev
  ·by_cases hd:o.dst=some t
   ·have htn:t∈names ops o:=by simp[names,hd]
    refine .inl ⟨i,o,by simp,hol,hd,fun j o' hj hoj hdj=>?_,?_⟩
    ·rcases AC.1 hj with hj|hj
     ·rcases AF i j with hlt|hge
      ·obtain⟨k7,k8⟩:=hld j o' t hoj hdj
       rw[hEF j k8] at hj;have:=QiA hcl hj ((Qem htmp ho k7 htn hdj (by omega)).2 (by omega))
       grind
      omega
     grind
    ·rw[hd,put_same h3 ?_]
     ·exact hR
     ·rw[hd] at hdst
      have:=(hn i (by omega)).symm;rw[h0] at this;rw[this];simpa[dstOk] using hdst
   ·rw[put_other hd]
    rcases h4 t hnf with⟨i',o',k1,k2,k3,k4,k5⟩|⟨k1,k5⟩
    ·refine .inl ⟨i',o',by grind,k2,k3,fun j o'' hj hoj hdj=>?_,k5.mono hev⟩
     grind
    ·refine .inr ⟨fun j o' hj hoj=>?_,k5.mono hev⟩
     grind
 have hw: ∀b,awanted ops.toArray (st i).env o=some b->AU o (yielded ops.toArray a.tmps)=b:=by
  intro b hb;refine QhZ (σ:=σ) (S:=S) (H:=maskP (opn fa F) (HE s.H nb l.length E)) (w:=w) hb fun j want d hg hd=>?_
  have hd':(ops[j]?).bind (·.dst)=some d:=by grind
  have hdn:d∈names ops o:=by
   unfold names
   grind
  refine⟨?_,hslot d hdn⟩
  obtain⟨p,hp,hpd⟩: ∃p,ops[j]? =some p/\p.dst=some d:=by
   cases hp:ops[j]? with
   |none=>grind
   |some p=>grind
  have hgj:=hgd (off+i) o j want ho (by rw[hg]) p hp d hpd
  simp_all
 unfold wpOp;rw[ho2];simp only;rcases hstep with⟨hwf,hx,hnb⟩|⟨hwt,hloc⟩
 ·rw[if_neg (by grind)]
  have:=fin undef w σ S;rw[hnb,hx] at this;exact this h1 (.d _ _ (.v _)) (Ev.refl _ _ _ _)
 ·rw[if_pos (hw _ hwt)]
  refine .inl (hloc B σ S _ a w hB h1 (fun u hu=>Qev fun t ht=>hslot t ?_) ?_ (fun C hC=>?_) K _ fin)
  ·subst ht
   unfold names;refine A7 _ (A4 _ ?_);exact AX.2 ⟨.tmp t,AR.2 hu,rfl⟩
  ·rw[hHi];exact Qnm (QuQ (by omega))
  ·rw[QdK,hHlen,(Qpq hil hEi hC).1];simp
theorem PhF.of{F:Nat->Bool}{l:List A5}{s:St}{xv:Nat->AV}{nb:Nat->Option Blk}{E:Nat->Bool}{a:Aj}{w:AO}{M:List Blk}(hM:M=maskP (opn fa F) (HE s.H nb l.length E))
 (h: ∃σ S,Sm B σ S M w/\a.defers=[]/\a.tmps.size=s.n/\(∀f t x,(f,t,x)∈fx->F f=true->Rel σ S M w x (a.tmps.getD t undef))/\ ∀t,(∀f x,(f,t,x)∉fx)->
 (∃i o,E i=true/\l[i]? =some o/\o.dst=some t/\(∀j o',E j=true->l[j]? =some o'->o'.dst=some t->j<=i)/\Rel σ S M w (xv i) (a.tmps.getD t undef))∨
 ((∀j o,E j=true->l[j]? =some o->o.dst≠some t)/\Rel σ S M w (look s.env t) (a.tmps.getD t undef))):PhF fa fx B F l s xv nb E a w:=by subst hM;exact h
theorem PhF.float{F:Nat->Bool}{off f:Nat}{l:List A5}{s:St}{xv:Nat->AV}{nb:Nat->Option Blk}{E:Nat->Bool}{a:Aj}{w:AO}{o:A5}{K:Aj->AO->Prop}{Q:Ag->Aj->AO->Prop}(hB:Gd B)
 (hX:Fx P ops fl ts fa n envF fx) (htmp:tmpOk ops=true) (hns:s.n=n)
 (hlget: ∀(j:Nat) o,l[j]? =some o->(o=dum/\memN fl (off+j)=true)∨(ops[off+j]? =some o/\memN fl (off+j)=false)) (hqs: ∀t,QuietO ops fl ts off t->look s.env t=look envF t)
 (hqo: ∀o,ops[f]? =some o-> ∀q,AM q∈o.op.operands->QuietO ops fl ts off q) (ho:ops[f]? =some o) (hff:memN fl f=true) (hka:kof fa f=none) (hkps:KPs fa.kp s.H) (hkd: ∀q∈fa.l,∀p∈fa.kp,q.2.1≠p.1)
 (hcl:Closed ops F) (hedge: ∀e∈o.after,AQ .any e=true->F e.on=true) (h:PhF fa fx B F l s xv nb E a w)
 (hK: ∀a' w',PhF fa fx B (fun j=>F j||decide (j=f)) l s xv nb E a' w'->K a' w'):wpOp P ops.toArray Q f K a w:=by
 obtain⟨σ,S,h1,h2,h3,h6,h4⟩:=h;obtain⟨t,x,hm⟩:=hX.all f hff;obtain⟨_,o',hf,hlk,hloc⟩:=hX.ok f t x hm;unfold FLoc at hloc;rw[hka] at hloc;have hmk:=QlS (F:=F) (QtY hka);have:=hf.op;rw[ho] at this;obtain rfl:=A1 this;have ho2:ops.toArray[f]? =some o:=by simpa using ho
 unfold wpOp;rw[ho2];simp only;rw[if_pos (by simp[AU,hf.guard])];refine .inl (hloc (maskP (opn fa F) (HE s.H nb l.length E)) (hkps.mask hkd) B σ S _ a w hB h1 (fun u hu=>Qev fun q hq=>?_) (fun k C hC=> .inl hC) (fun C hC=>by cases hC) K _ fun v w' σ' S' hS hR hev=>hK _ _ (PhF.of (M:=maskP (opn fa F) (HE s.H nb l.length E)) (by rw[hmk]) ⟨σ',S',hS,?_,?_,fun g u y hg hF=>?_,fun u hnf=>?_⟩))
 ·subst hq
  have hqq:=hqo o ho q hu;have hqn:q∈names ops o:=A7 _ (A4 _ (QhF hu))
  by_cases hfx: ∃g y,(g,q,y)∈fx
  ·obtain⟨g,y,hg⟩:=hfx
   obtain⟨hg1,p,hgf,hglk,_⟩:=hX.ok g q y hg;rw[hglk]
   have hne:g≠f:=fun e=>by
    subst e;have:=hgf.op;rw[ho] at this;obtain rfl:=A1 this;have hd:=hgf.dst;exact hgf.own hu
   refine h6 g q y hg ?_;rcases AF g f with hlt|hge
   ·exact QdU hcl ho hedge ((Qem htmp ho hgf.op hqn hgf.dst hne).1 hlt) hne
   ·exact absurd hqn (hgf.before f o (by omega) ho)
  ·rw[<-hqs q hqq]
   rcases h4 q (fun g y hg=>hfx ⟨g,y,hg⟩) with⟨i',o',k1,k2,k3,k4,k5⟩|⟨_,k5⟩
   ·rcases hlget i' o' k2 with⟨rfl,_⟩|⟨g1,g2⟩
    ·cases k3
    ·have:=hqq _ _ g1 g2 k3;omega
   ·exact k5
 ·cases hd:o.dst<;>exact h2
 ·cases hd:o.dst
  ·exact h3
  ·simp only[AZ,AB];exact h3
 ·by_cases hgf:g=f
  ·subst hgf
   obtain⟨_,p,hgf,hglk,_⟩:=hX.ok g u y hg;have:=hgf.op;rw[ho] at this;obtain rfl:=A1 this;have hu:=hgf.dst;rw[hf.dst] at hu;obtain rfl:=A1 hu;have hxy:x=y:=hlk.symm.trans hglk;subst hxy;rw[hf.dst,put_same h3 (by rw[hns];exact hf.lt)];exact hR
  ·have hFg:F g=true:=by
    rcases AC.1 hF with hF|hF
    ·exact hF
    ·exact absurd (of_decide_eq_true hF) hgf
   obtain⟨_,p,hgs,_⟩:=hX.ok g u y hg;rw[put_other fun e=>hgs.sole f o (fun e=>hgf e.symm) ho e];exact(h6 g u y hg hFg).mono hev
 ·have hd:o.dst≠some u:=fun e=>by
   rw[hf.dst] at e;obtain rfl:=A1 e;exact hnf f x hm
  rw[put_other hd];rcases h4 u hnf with⟨i',o',k1,k2,k3,k4,k5⟩|⟨k1,k5⟩
  ·exact .inl ⟨i',o',k1,k2,k3,k4,k5.mono hev⟩
  ·exact .inr ⟨k1,k5.mono hev⟩
theorem PhF.alloc{F:Nat->Bool}{off f κ:Nat}{C:Blk}{l:List A5}{s:St}{xv:Nat->AV}{nb:Nat->Option Blk}{E:Nat->Bool}{a:Aj}{w:AO}{o:A5}{K:Aj->AO->Prop}{Q:Ag->Aj->AO->Prop}(hB:Gd B)
 (hX:Fx P ops fl ts fa n envF fx) (htmp:tmpOk ops=true) (hns:s.n=n)
 (hlget: ∀(j:Nat) o,l[j]? =some o->(o=dum/\memN fl (off+j)=true)∨(ops[off+j]? =some o/\memN fl (off+j)=false)) (hqs: ∀t,QuietO ops fl ts off t->look s.env t=look envF t)
 (hqo: ∀o,ops[f]? =some o-> ∀q,AM q∈o.op.operands->QuietO ops fl ts off q) (ho:ops[f]? =some o) (hff:memN fl f=true) (hka:kof fa f=some (κ,C)) (huq: ∀q∈fa.l,q.1=f↔q.2.1=κ) (hFf:F f=false) (hct:s.H[κ]? =some C)
 (hcl:Closed ops F) (hedge: ∀e∈o.after,AQ .any e=true->F e.on=true) (h:PhF fa fx B F l s xv nb E a w)
 (hK: ∀a' w',PhF fa fx B (fun j=>F j||decide (j=f)) l s xv nb E a' w'->K a' w'):wpOp P ops.toArray Q f K a w:=by
 obtain⟨σ,S,h1,h2,h3,h6,h4⟩:=h;obtain⟨t,x,hm⟩:=hX.all f hff;obtain⟨_,o',hf,hlk,hloc⟩:=hX.ok f t x hm;unfold FLoc at hloc;rw[hka] at hloc;have hkl:κ<s.H.length:=(A0.1 hct).1;have hL:(HE s.H nb l.length E)[κ]? =some C:=by unfold HE;grind
 have hon:opn fa F κ=true:=Qep.2 ⟨_,QkQ hka,rfl,hFf⟩
 have hlen:((maskP (opn fa F) (HE s.H nb l.length E)).take κ).length=κ:=by
  rw[List.length_take,Qgh];grind
 have hfill:(maskP (opn fa F) (HE s.H nb l.length E)).set κ C=maskP (opn fa fun j=>F j||decide (j=f)) (HE s.H nb l.length E):=AD fun k=>by
  rw[QdK,AN,Qgh,QdK]
  by_cases hk:κ=k
  ·subst hk
   have:opn fa (fun j=>F j||decide (j=f)) κ=false:=by
    cases h:opn fa (fun j=>F j||decide (j=f)) κ with
    |false=>rfl
    |true=>
     obtain⟨q,h1,h2,h3⟩:=Qep.1 h
     grind
   grind
  ·rw[if_neg hk]
   have:opn fa (fun j=>F j||decide (j=f)) k=opn fa F k:=by
    rw[Bool.eq_iff_iff,Qep,Qep]
    grind
   rw[this]
 have:=hf.op;rw[ho] at this;obtain rfl:=A1 this;have ho2:ops.toArray[f]? =some o:=by simpa using ho
 unfold wpOp;rw[ho2];simp only;rw[if_pos (by simp[AU,hf.guard])];refine .inl (hloc ((maskP (opn fa F) (HE s.H nb l.length E)).take κ) hlen B σ S _ a w hB h1 (fun u hu=>Qev fun q hq=>?_) (fun k C hC=> .inl (by grind)) (fun C hC=>by rw[hlen,QdK,hL,hon];rfl) K _ fun v w' σ' S' hS hR hev=>hK _ _ (PhF.of (M:=setNb (maskP (opn fa F) (HE s.H nb l.length E)) ((maskP (opn fa F) (HE s.H nb l.length E)).take κ).length (some C)) (by rw[hlen];exact hfill) ⟨σ',S',hS,?_,?_,fun g u y hg hF=>?_,fun u hnf=>?_⟩))
 ·subst hq
  have hqq:=hqo o ho q hu;have hqn:q∈names ops o:=A7 _ (A4 _ (QhF hu))
  by_cases hfx: ∃g y,(g,q,y)∈fx
  ·obtain⟨g,y,hg⟩:=hfx
   obtain⟨hg1,p,hgf,hglk,_⟩:=hX.ok g q y hg;rw[hglk]
   have hne:g≠f:=fun e=>by
    subst e;have:=hgf.op;rw[ho] at this;obtain rfl:=A1 this;have hd:=hgf.dst;exact hgf.own hu
   refine h6 g q y hg ?_;rcases AF g f with hlt|hge
   ·exact QdU hcl ho hedge ((Qem htmp ho hgf.op hqn hgf.dst hne).1 hlt) hne
   ·exact absurd hqn (hgf.before f o (by omega) ho)
  ·rw[<-hqs q hqq]
   rcases h4 q (fun g y hg=>hfx ⟨g,y,hg⟩) with⟨i',o',k1,k2,k3,k4,k5⟩|⟨_,k5⟩
   ·rcases hlget i' o' k2 with⟨rfl,_⟩|⟨g1,g2⟩
    ·cases k3
    ·have:=hqq _ _ g1 g2 k3;omega
   ·exact k5
 ·cases hd:o.dst<;>exact h2
 ·cases hd:o.dst
  ·exact h3
  ·simp only[AZ,AB];exact h3
 ·by_cases hgf:g=f
  ·subst hgf
   obtain⟨_,p,hgf,hglk,_⟩:=hX.ok g u y hg;have:=hgf.op;rw[ho] at this;obtain rfl:=A1 this;have hu:=hgf.dst;rw[hf.dst] at hu;obtain rfl:=A1 hu;have hxy:x=y:=hlk.symm.trans hglk;subst hxy;rw[hf.dst,put_same h3 (by rw[hns];exact hf.lt)];exact hR
  ·have hFg:F g=true:=by
    rcases AC.1 hF with hF|hF
    ·exact hF
    ·exact absurd (of_decide_eq_true hF) hgf
   obtain⟨_,p,hgs,_⟩:=hX.ok g u y hg;rw[put_other fun e=>hgs.sole f o (fun e=>hgf e.symm) ho e];exact(h6 g u y hg hFg).mono hev
 ·have hd:o.dst≠some u:=fun e=>by
   rw[hf.dst] at e;obtain rfl:=A1 e;exact hnf f x hm
  rw[put_other hd];rcases h4 u hnf with⟨i',o',k1,k2,k3,k4,k5⟩|⟨k1,k5⟩
  ·exact .inl ⟨i',o',k1,k2,k3,k4,k5.mono hev⟩
  ·exact .inr ⟨k1,k5.mono hev⟩
def planF_chain{Q:St->Prop}: ∀(ms:List Nat) (off:Nat) (s:St),PlanF P ops fl fa ts Q ms off s->
 ∃st xv nb,Chain P ops.toArray (segE ops fl off ms) st xv nb/\st 0=s/\PlanEndF P ops fl fa ts Q off ms (st (segE ops fl off ms).length)/\ ∀k,memN fl (off+k)=true->nb k=none
 |[],off,s,h=>ADraw.chainF fl ops.length (ops.drop off) off s h.2
 |m::ms,off,s,⟨_,h1,h2,o,ho,h⟩=>by
  obtain⟨st,xv,nb,hc,h0,hK,hn⟩:=ADraw.chainF fl m (ops.drop off) off s h;exact⟨st,xv,nb,hc,h0,⟨AI h1,h2,o,ho,hK⟩,hn⟩
theorem segE_get{off:Nat}{ms:List Nat}{j:Nat}{o:A5}(h:(segE ops fl off ms)[j]? =some o):(o=dum/\memN fl (off+j)=true)∨(ops[off+j]? =some o/\memN fl (off+j)=false):=by
 cases ms with
 |nil=>
  rcases QkC fl _ _ _ _ _ h with⟨h1,h2⟩|⟨h1,h2⟩
  ·grind
  grind
 |cons m ms=>
  rcases QkC fl _ _ _ _ _ h with⟨h1,h2⟩|⟨h1,h2⟩
  ·grind
  ·rw[List.getElem?_drop] at h2;exact .inr ⟨h2,h1⟩
end
theorem QkK: ∀{h:Nat} {Cs:List (Nat×Blk)},∀q∈mkFa h Cs,∃i,Cs[i]? =some (q.1,q.2.2)/\q.2.1=h+i
 |_,[],q,hq=>by simp[mkFa] at hq
 |h,(f,C)::r,q,hq=>by
  rcases AH.1 hq with rfl|hq
  ·grind
  ·obtain⟨i,h1,h2⟩:=QkK q hq
   exact⟨i+1,by grind,by omega⟩
theorem Qov: ∀{h:Nat} {Cs:List (Nat×Blk)} {i:Nat},i<Cs.length-> ∃q∈mkFa h Cs,q.2.1=h+i
 |_,[],i,hi=>by simp at hi
 |h,(f,C)::r,0,_=>⟨(f,h,C),A9,rfl⟩
 |h,(f,C)::r,i+1,hi=>by
  obtain⟨q,h1,h2⟩:=Qov (h:=h+1) (Cs:=r) (i:=i) (by grind);exact⟨q,A6 _ h1,by omega⟩
theorem QrD(H:List Blk)(Cs kp:List (Nat×Blk)):maskP (opn ⟨mkFa H.length Cs,kp⟩ fun _=>false) (H++Cs.map (·.2))=H++AS Cs.length Blk.none:=AD fun k=>by
 rw[QdK]
 by_cases hk:k<H.length
 ·have:opn ⟨mkFa H.length Cs,kp⟩ (fun _=>false) k=false:=by
   cases h:opn ⟨mkFa H.length Cs,kp⟩ (fun _=>false) k with
   |false=>rfl
   |true=>
    obtain⟨q,h1,h2,_⟩:=Qep.1 h;obtain⟨i,_,h3⟩:=QkK q h1;omega
  grind
 ·rw[A8 (by omega),A8 (by omega),Aa,List.getElem?_replicate]
  by_cases hl:k -H.length<Cs.length
  ·obtain⟨q,h1,h2⟩:=Qov (h:=H.length) hl
   have:opn ⟨mkFa H.length Cs,kp⟩ (fun _=>false) k=true:=Qep.2 ⟨q,h1,by omega,rfl⟩
   grind
  grind
theorem Qra{B:Bs}{σ:Sg}{S:Nat->Prop}{H:List Blk}{w:AO}(n:Nat)(h:Sm B σ S H w): ∃σ',Sm B σ' S (H++AS n Blk.none) w/\Ev σ S H w σ' S (H++AS n Blk.none) w:=by
 induction n with
 |zero=>exact⟨σ,by grind,by simpa using Ev.refl σ S H w⟩
 |succ n ih=>
  obtain⟨σ',h1,h2⟩:=ih;obtain⟨h3,h4⟩:=h1.keepPlace;rw[AY,<-List.replicate_succ'] at h3 h4;exact⟨_,h3,h2.trans h4⟩
theorem Qpe{m:Nat}{ms:List Nat}(h:ascN (m::ms)=true):(∀g∈ms,m<g)/\ascN ms=true:=by
 simp only[ascN,Ab,AP] at h
 simp_all
def PlanF.kps{P:A2}{ops:List A5}{fl:List Nat}{fa:Fas}{ts:Tl}{Q:St->Prop}: ∀{ms:List Nat} {off:Nat} {s:St},PlanF P ops fl fa ts Q ms off s->pend ops fl off=true->KPs fa.kp s.H
 |[],_,_,h=>h.1
 |_::_,_,_,h=>h.1
theorem awp_drawF0(fl ms:List Nat)(Cs kp:List (Nat×Blk))(ts:Tl){P:A2}{id:Nat}{ops:List A5}{Q:Ag->St->Prop}{s:St}(hm:P.follows .mixedOrders=true)(hok:drawOk ops.toArray=true)(hgok:ops.all (gdOk ops.toArray s.n)=true)
 (hfo:Qg8 ops fl (ts.map (·.1)) s.n=true) (hg0: ∀t∈ts,(∃o:A5,ops[t.1]? =some o/\o.dst=some t.2.1)/\memN fl t.1=false/\t.1∈ms/\ascN ms=true) (hgv: ∀t∈ts,look (ts.map (·.2)++s.env) t.2.1=t.2.2) (hcs:Cs.all (fun q=>memN fl q.1)=true) (hnd:(Cs.map (·.1)).Nodup) (hkp:KPs kp s.H) (h:Flts P ops ⟨mkFa s.H.length Cs,kp⟩ (fun env=>PlanF P ops fl ⟨mkFa s.H.length Cs,kp⟩ ts (Q .normal) ms 0 ⟨s.n,ungs ts env,s.H++Cs.map (·.2)⟩) fl (ts.map (·.2)++s.env)):AWP P (.region id ops.toArray true) Q s:=by
 intro B hB σ S a w hA;have hfa:=QkK (h:=s.H.length) (Cs:=Cs);have emask:=QrD s.H Cs kp;obtain⟨fa,hfe⟩: ∃fa:Fas,fa=⟨mkFa s.H.length Cs,kp⟩:=⟨_,rfl⟩;rw[<-hfe] at h emask;rw[show mkFa s.H.length Cs=fa.l by rw[hfe]] at hfa
 have hkd: ∀q∈fa.l,∀p∈fa.kp,q.2.1≠p.1:=fun q hq p hp=>by
  obtain⟨i,_,h2⟩:=hfa q hq;have:=(A0.1 (hkp p (by grind))).1;omega
 clear hfe
 have hfm: ∀q∈fa.l,memN fl q.1=true:=fun q hq=>by
  grind
 have hct0: ∀q∈fa.l,(s.H++Cs.map (·.2))[q.2.1]? =some q.2.2:=fun q hq=>by
  grind
 have huq: ∀q∈fa.l,∀q'∈fa.l,(q'.1=q.1↔q'.2.1=q.2.1):=fun q hq q' hq'=>by
  obtain⟨i,h1,h2⟩:=hfa q hq;obtain⟨j,h3,h4⟩:=hfa q' hq';have g1:(Cs.map (·.1))[i]? =some q.1:=by grind
  have g2:(Cs.map (·.1))[j]? =some q'.1:=by grind
  constructor
  ·intro e
   rw[e,<-g1] at g2;have:=(List.getElem?_inj (A0.1 g1).1 hnd).1 g2.symm;omega
  grind
 have hno: ∀(E:Nat->Bool) (i:Nat),memN fl i=false->opn fa (fun j=>E j||decide (j=i))=opn fa E:=fun E i hi=>QlS fun q hq e=>by
  grind
 obtain⟨hback,htmp⟩:backB ops.toArray=true/\tmpOk ops=true:=by simpa[drawOk] using hok
 have hgd: ∀(n:Nat),n=s.n-> ∀(i:Nat) (o:A5) (j:Nat) (want:Bool),ops[i]? =some o->o.guard=some (j,want)-> ∀p,ops[j]? =some p-> ∀d,p.dst=some d->AT d n=true:=fun n hn i o j want ho hg p hp d hd=>by
  have h1:=AP.1 hgok o (List.mem_of_getElem? ho);have:=QeZ h1 j want d hg (by grind)
  simp_all
 obtain⟨⟨hasc,hfl⟩,hflb⟩:(ascN fl=true/\ ∀f∈fl,float1 ops (ts.map (·.1)++fl) s.n f=true)/\ ∀f∈fl,float1 ops ((ts.map (·.1)).filter (fun m=>AT m f)++fl) s.n f=true:=by
  unfold Qg8 at hfo
  grind
 obtain⟨envF,fx,hplan,hfx,hall,hq⟩:=flts_build (fl:=ts.map (·.1)++fl) (n:=s.n) fl (ts.map (·.2)++s.env) h hfl hasc
 have hgq: ∀t∈ts,look envF t.2.1=t.2.2:=fun t ht=>by
  rw[hq t.2.1 fun f hf o ho e=>?_]
  ·grind
  ·obtain⟨p',u,hfs⟩:=Qe1 (hfl f hf)
   have:=hfs.op;rw[ho] at this;obtain rfl:=A1 this;have hu:=hfs.dst;rw[e] at hu;obtain rfl:=A1 hu;obtain⟨⟨o0,h1,h2⟩,h3,_⟩:=hg0 t ht;exact hfs.sole t.1 o0 (fun e=>by rw[e,QdI.2 hf] at h3;cases h3) h1 h2
 have hX:Fx P ops fl ts fa s.n envF fx:=⟨fun f t x hm=>by obtain⟨h1,h2⟩:=hfx f t x hm;exact⟨QdI.2 h1,h2⟩,fun f hf=>hall f (QdI.1 hf)⟩
 have hqfx: ∀f t x,(f,t,x)∈fx->Quiet ops fl t:=fun f t x hm j p hp hj e=>by
  obtain⟨h5,p',hf,_⟩:=hX.ok f t x hm;exact hf.sole j p (fun e=>by subst e;rw[hj] at h5;cases h5) hp e
 refine Qk7 hm hback (fun E a w=> ∃ms off s1 st xv nb,s1.n=s.n/\Chain P ops.toArray (segE ops fl off ms) st xv nb/\st 0=s1/\PlanEndF P ops fl fa ts (Q .normal) off ms (st (segE ops fl off ms).length)/\(∀k,memN fl (off+k)=true->nb k=none)/\
  ((∀t,QuietO ops fl ts off t->look s1.env t=look envF t)/\ ∀t∈ts,t.1<off∨(t.1∈ms/\ascN ms=true))/\(∀q∈fa.l,E q.1=false->s1.H[q.2.1]? =some q.2.2)/\((∃f∈fl,E f=false)->KPs fa.kp s1.H)/\
  (∀j,j<off->memN fl j=false->E j=true)/\(∀j,off+(segE ops fl off ms).length<=j->memN fl j=false->E j=false)/\PhF fa fx B E (segE ops fl off ms) s1 xv nb (fun j=>E (off+j)||memN fl (off+j)) a w) ?h0 ?hop ?hend
 case h0=>
  obtain⟨st,xv,nb,hc,h0,hK,hn⟩:=planF_chain ms 0 _ hplan;obtain⟨h3,h4⟩:=hA.sm.sameHeap (w':={w with drawn:=w.drawn+1}) rfl rfl rfl rfl;obtain⟨σ',p1,p2⟩:=Qra Cs.length h3;rw[<-emask] at p1 p2;have hlt0: ∀q∈fa.l,q.2.1<(s.H++Cs.map (·.2)).length:=fun q hq=>(A0.1 (hct0 q hq)).1
  refine⟨ms,0,⟨s.n,ungs ts envF,s.H++Cs.map (·.2)⟩,st,xv,nb,rfl,hc,h0,hK,hn,⟨fun t ht=>?_,fun t ht=> .inr (hg0 t ht).2.2⟩,fun q hq _=>hct0 q hq,fun _=>hplan.kps rfl,fun j hj=>by omega,fun j _ _=>rfl,PhF.start (σ:=σ') (S:=S) ⟨p1,hA.defers,hA.size,fun f t x _ hF=>absurd hF (by simp),fun t ht=>?_⟩ (fun k hk=>by obtain⟨q,h1,h2,_⟩:=Qep.1 hk;grind) fun j o ho hE=>?_⟩
  ·show look (ungs ts envF) t=look envF t
   by_cases htq: ∃r∈ts,r.2.1=t
   ·obtain⟨r,hr,rfl⟩:=htq
    obtain⟨⟨o0,h1,h2⟩,h3,_⟩:=hg0 r hr;have:=(ht _ _ h1 h3 h2).2;omega
   ·exact QqP fun r hr e=>htq ⟨r,hr,e⟩
  ·show Rel _ _ _ _ (look (ungs ts envF) t) _
   by_cases htq: ∃r∈ts,r.2.1=t
   ·rw[QqO htq];exact .d _ _ (.any _)
   have htq': ∀r∈ts,r.2.1≠t:=fun r hr e=>htq ⟨r,hr,e⟩
   rw[QqP htq']
   have:look envF t=look (ts.map (·.2)++s.env) t:=hq t fun f hf o ho e=>by
    obtain⟨u,x,hm⟩:=hall f hf;obtain⟨_,o',hfs,_⟩:=hfx f u x hm;have:=hfs.op;rw[ho] at this;obtain rfl:=A1 this;have hu:=hfs.dst
    grind
   rw[this,QrI htq'];exact(hA.env t).mono (h4.trans p2)
  ·simp only[Bool.false_or] at hE
   rcases segE_get ho with⟨rfl,_⟩|⟨_,h2⟩
   ·exact⟨rfl,hn j hE⟩
   grind
 case hop=>
  intro E i o ho a w hJ hEi hnone hcl hedge K hKK;have ho':ops[i]? =some o:=by grind
  have hilo:i<ops.length:=(A0.1 ho').1;have hcl':Closed ops E:=fun j o' hj hoj=>hcl j o' hj (by grind)
  obtain⟨ms,off,s1,st,xv,nb,hn1,hc,h0,hK,hnn,hqs,hct,hlt,hlo,hhi,hPh⟩:=hJ;have hlow: ∀k,opn fa E k=true->k<s1.H.length:=fun k hk=>by obtain⟨q,h1,h2,h3⟩:=Qep.1 hk;grind
  have hltm: ∀i,(∃f∈fl,(E f||decide (f=i))=false)->KPs fa.kp s1.H:=fun i ⟨f,h1,h2⟩=>hlt ⟨f,h1,(AE.1 h2).1⟩
  have hct': ∀i,∀q∈fa.l,(E q.1||decide (q.1=i))=false->s1.H[q.2.1]? =some q.2.2:=fun i q hq he=>hct q hq (AE.1 he).1
  have hmi: ∀t∈ts,memN fl t.1=false->E t.1=true->t.1<off:=fun t ht hm hE=>by
   rcases hqs.2 t ht with h|⟨hmem,hasc⟩
   ·exact h
   ·exfalso
    cases ms with
    |nil=>cases hmem
    |cons m ms'=>
     have hmm:m<=t.1:=by
      rcases AH.1 hmem with e|e
      ·omega
      ·have:=(Qpe hasc).1 _ e;omega
     have hlen:=Qgy fl m (ops.drop off) off;have h1:off<=m:=hK.1
     have h2:m<ops.length:=by
      grind
     simp only[AG] at hlen;have:=hhi t.1 (by show off+(segD fl m off (ops.drop off)).length<=t.1;omega) hm
     grind
  cases hfi:memN fl i with
  |true=>
   have hqo: ∀o,ops[i]? =some o-> ∀q,AM q∈o.op.operands->QuietO ops fl ts off q:=fun o2 ho2 q hq2 j p hp hj hd=>by
    obtain⟨o3,t3,hf3⟩:=Qe1 (hfl i (QdI.1 hfi));have:=hf3.op;rw[ho2] at this;obtain rfl:=A1 this
    obtain⟨g,hg,rfl⟩: ∃t∈ts,j=t.1:=by
     refine Decidable.byContradiction fun hne=>hf3.quiet q hq2 j p hp ?_ hd
     cases hb:memN (ts.map (·.1)++fl) j with
     |false=>rfl
     |true=>
      rcases Ac.1 (QdI.1 hb) with h|h
      ·grind
      ·rw[QdI.2 h] at hj;cases hj
    have hji:g.1<i:=by
     obtain⟨o4,t4,hf4⟩:=Qe1 (hflb i (QdI.1 hfi));have:=hf4.op;rw[ho2] at this;obtain rfl:=A1 this;cases hb:memN ((ts.map (·.1)).filter (fun m=>AT m i)++fl) g.1 with
     |false=>exact absurd hd (hf4.quiet q hq2 g.1 p hp hb)
     |true=>
      rcases Ac.1 (QdI.1 hb) with h|h
      ·exact AI (Ad.1 h).2
      ·rw[QdI.2 h] at hj;cases hj
    rw[ho'] at ho2;obtain rfl:=A1 ho2;have hqn:q∈names ops o:=A7 _ (A4 _ (QhF hq2));have hE:=QdU hcl' ho' hedge ((Qem htmp ho' hp hqn hd (by omega)).1 hji) (by omega)
    grind
   cases hka:kof fa i with
   |none=>
    refine PhF.float (off:=off) hB hX htmp hn1 (fun j o h=>segE_get h) hqs.1 hqo ho' hfi hka (hlt ⟨i,QdI.1 hfi,hEi⟩) hkd hcl' hedge hPh fun a' w' hP'=>hKK a' w' ⟨ms,off,s1,st,xv,nb,hn1,hc,h0,hK,hnn,hqs,hct' i,hltm i,fun j hj hm=>by show(E j||_)=true;rw[hlo j hj hm];rfl,fun j hj hm=>?_,?_⟩
    ·show(E j||_)=false
     rw[hhi j hj hm];exact decide_eq_false (fun e=>by subst e;rw[hfi] at hm;cases hm)
    ·have e:(fun j=>(E (off+j)||decide (off+j=i))||memN fl (off+j))=fun j=>E (off+j)||memN fl (off+j):=funext fun j=>by
      by_cases h:off+j=i
      ·rw[h,hfi];simp
      ·simp[h]
     show PhF fa fx B (fun j=>E j||decide (j=i)) (segE ops fl off ms) s1 xv nb (fun j=>(E (off+j)||decide (off+j=i))||memN fl (off+j)) a' w';rw[e];exact hP'
   |some kc=>
    obtain⟨κ,C⟩:=kc;refine PhF.alloc (off:=off) hB hX htmp hn1 (fun j o h=>segE_get h) hqs.1 hqo ho' hfi hka (huq _ (QkQ hka)) hEi (hct _ (QkQ hka) hEi) hcl' hedge hPh fun a' w' hP'=>hKK a' w' ⟨ms,off,s1,st,xv,nb,hn1,hc,h0,hK,hnn,hqs,hct' i,hltm i,fun j hj hm=>by show(E j||_)=true;rw[hlo j hj hm];rfl,fun j hj hm=>?_,?_⟩
    ·show(E j||_)=false
     rw[hhi j hj hm];exact decide_eq_false (fun e=>by subst e;rw[hfi] at hm;cases hm)
    ·have e:(fun j=>(E (off+j)||decide (off+j=i))||memN fl (off+j))=fun j=>E (off+j)||memN fl (off+j):=funext fun j=>by
      by_cases h:off+j=i
      ·rw[h,hfi];simp
      ·simp[h]
     show PhF fa fx B (fun j=>E j||decide (j=i)) (segE ops fl off ms) s1 xv nb (fun j=>(E (off+j)||decide (off+j=i))||memN fl (off+j)) a' w';rw[e];exact hP'
  |false=>
  have hoi:off<=i:=by
   grind
  obtain⟨k,rfl⟩: ∃k,i=off+k:=⟨i -off,by omega⟩
  by_cases hk:k<(segE ops fl off ms).length
  ·have hol:(segE ops fl off ms)[k]? =some o:=by
    rcases segE_get (A3 hk) with⟨_,h2⟩|⟨h1,_⟩
    ·grind
    grind
   refine PhF.step (fl:=fl) (n:=s.n) (envF:=envF) hB hX htmp (hgd s1.n hn1) hc h0 (fun j o h=>segE_get h) hqs.1 (fun j h=>by simp[h]) hk ho' hfi hol hcl' hedge hEi hlow hPh fun a' w' hP'=>?_
   have e:(fun j=>(E (off+j)||decide (off+j=off+k))||memN fl (off+j))=fun j=>(E (off+j)||memN fl (off+j))||decide (j=k):=funext fun j=>by
    grind
   refine hKK a' w' ⟨ms,off,s1,st,xv,nb,hn1,hc,h0,hK,hnn,hqs,hct' _,hltm _,fun j hj hm=>by grind,fun j hj hm=>?_,?_⟩
   ·grind
   ·show PhF fa fx B (fun j=>E j||decide (j=off+k)) (segE ops fl off ms) s1 xv nb (fun j=>(E (off+j)||decide (off+j=off+k))||memN fl (off+j)) a' w'
    rw[e];obtain⟨σ1,S1,g1,g2,g3,g4,g5⟩:=hP';refine PhF.of (M:=maskP (opn fa E) _) (by grind) ⟨σ1,S1,g1,g2,g3,fun f t x hm hF=>g4 f t x hm ?_,g5⟩;rcases AC.1 hF with hF|hF
    ·exact hF
    ·have e1:=of_decide_eq_true hF
     have:=(hX.ok f t x hm).1
     grind
  ·cases ms with
   |nil=>
    have hlen:=Qgy fl ops.length (ops.drop off) off;simp only[segE,AG] at hk hlen;omega
   |cons m ms=>
    obtain⟨hom,hbar,om,hom2,R,heff,hwt,hdst,hgdo,hplan⟩:=hK;obtain⟨hmf,hb1,hb2⟩:=Qj6 hbar;have hmlt:m<ops.length:=(A0.1 hom2).1
    have hlen:(segE ops fl off (m::ms)).length=m -off:=by
     have:=Qgy fl m (ops.drop off) off;simp only[segE,AG] at this⊢;omega
    have him:off+k=m:=by
     rcases AF m (off+k) with h|h
     ·have:=QdU hcl' ho' hedge (hb2 _ hilo h hfi) (by omega)
      grind
     ·omega
    rw[him] at ho' hEi ho hKK⊢;rw[hom2] at ho';obtain rfl:=A1 ho';have hall: ∀j,j<m->memN fl j=false->E j=true:=fun j hj hjf=>QdU hcl' hom2 hedge (hb1 j hj hjf) (by omega)
    obtain⟨σ1,S1,g1,g2,g3,g4,g5⟩:=PhF.done hc h0 hPh fun j hj=>by
     grind
    have hn2:(st (segE ops fl off (m::ms)).length).n=s.n:=by rw[hc.n _ (AK _),h0,hn1]
    have hqs2: ∀t,QuietO ops fl ts off t->look (st (segE ops fl off (m::ms)).length).env t=look envF t:=fun t ht=>by
     rcases hc.slot _ (AK _) t with⟨j,p,k1,k2,k3,k4,k5⟩|⟨k1,k2⟩
     ·rcases segE_get k2 with⟨rfl,_⟩|⟨k6,k7⟩
      ·cases k3
      ·have:=ht _ _ k6 k7 k3;omega
     grind
    have hslot: ∀t,t∈names ops om->Rel σ1 S1 (maskP (opn fa E) (st (segE ops fl off (m::ms)).length).H) w (look (st (segE ops fl off (m::ms)).length).env t) (a.tmps.getD t undef):=fun t ht=>by
     by_cases hfx: ∃f x,(f,t,x)∈fx
     ·obtain⟨f,x,hm⟩:=hfx
      have hFf:=slot_fx hX htmp hom2 hmf hcl' hedge ht hm;obtain⟨_,p,hf,hlk,_⟩:=hX.ok f t x hm;rw[hqs2 t (.of (hqfx f t x hm)),hlk]
      grind
     ·exact g5 t fun f x hm=>hfx ⟨f,x,hm⟩
    unfold wpOp;rw[ho];simp only;rw[if_pos ?hwant]
    case hwant=>
     refine QhZ (σ:=σ1) (S:=S1) (H:=maskP (opn fa E) (st (segE ops fl off (m::ms)).length).H) (w:=w) hwt fun j want d hg hd=>⟨?_,hslot d ?_⟩
     ·rw[g3];exact QeZ hgdo j want d hg hd
     ·unfold names
      grind
    have hpnd: ∀f∈fl,E f=false->(!((befs ops []).getD m 0).testBit f)=true:=fun f h1 h3=>by
     cases hb:((befs ops []).getD m 0).testBit f with
     |false=>rfl
     |true=>
      have:=QdU hcl' hom2 hedge hb (fun e=>by have:=QdI.2 h1;grind)
      grind
    have hkap: ∀k,opn fa E k=true->k∈kap ops fa m:=fun k hk=>by
     obtain⟨q,h1,h2,h3⟩:=Qep.1 hk;refine List.mem_map.2 ⟨q,Ad.2 ⟨h1,?_⟩,h2⟩;cases hb:((befs ops []).getD m 0).testBit q.1 with
     |false=>rfl
     |true=>
      have:=QdU hcl' hom2 hedge hb (fun e=>by grind)
      grind
    refine .inl (heff (opn fa E) hkap B σ1 S1 a w hB g1 (fun u hu=>Qev fun t ht=>hslot t ?_) K _ fun x K' hxR' v w' σ' S' hS hR hev=>?_)
    ·subst ht
     unfold names;refine A7 _ (A4 _ ?_);exact AX.2 ⟨.tmp t,AR.2 hu,rfl⟩
    obtain⟨H',hxR,rfl,hKc⟩:=hxR';have hstl:(st (segE ops fl off (m::ms)).length).H=s1.H++(AW (segE ops fl off (m::ms)).length).flatMap fun j=>(nb j).toList:=by rw[hc.heap _ (AK _),h0]
    have hct2: ∀q∈fa.l,(E q.1||decide (q.1=m))=false->H'[q.2.1]? =some q.2.2:=fun q hq he=>by
     have he:=(AE.1 he).1;rw[hKc _ (Qep.2 ⟨q,hq,rfl,he⟩),hstl,AA (A0.1 (hct q hq he)).1]
     grind
    have hmk2:=hno E m hmf;obtain⟨st2,xv2,nb2,hc2,h02,hK2,hnn2⟩:=planF_chain ms (m+1) _ (hplan x H' hxR).2
    have hA2:SmF fa fx B (fun j=>E j||decide (j=m)) σ' S' ⟨(st (segE ops fl off (m::ms)).length).n,putE (st (segE ops fl off (m::ms)).length).env om.dst x,H'⟩ (a.put om.dst v) w':=by
     unfold SmF;rw[hmk2];refine⟨hS,?_,?_,fun f t y hm hF=>?_,fun t hnf=>?_⟩
     ·cases hd:om.dst<;>exact g2
     ·cases hd:om.dst
      ·exact g3
      ·simp only[AZ,AB];exact g3
     ·have hEf:E f=true:=by
       rcases AC.1 hF with hF|hF
       ·exact hF
       ·have e1:=of_decide_eq_true hF
        have:=(hX.ok f t y hm).1
        grind
      rw[put_other fun e=>hqfx f t y hm _ _ hom2 hmf e];exact(g4 f t y hm hEf).mono hev
     ·show Rel _ _ _ _ (look (putE _ om.dst x) t) _
      by_cases hd:om.dst=some t
      ·rw[hd] at hdst⊢
       rw[put_same g3 (by simpa[dstOk] using hdst)];show Rel _ _ _ _ (look ((t,x)::_) t) _;rw[Qdv];exact hR
      ·rw[put_other hd]
       have:look (putE (st (segE ops fl off (m::ms)).length).env om.dst x) t=look (st (segE ops fl off (m::ms)).length).env t:=by
        cases hd':om.dst with
        |none=>rfl
        |some d=>exact Qd1 (fun e=>hd (by rw[hd',e])) _ _
       rw[this];exact(g5 t hnf).mono hev
    refine hKK _ _ ⟨ms,m+1,(⟨(st (segE ops fl off (m::ms)).length).n,putE (st (segE ops fl off (m::ms)).length).env om.dst x,H'⟩:St),st2,xv2,nb2,hn2,hc2,h02,hK2,hnn2,⟨fun t ht=>?_,fun g hg=>?_⟩,hct2,fun⟨f,hf1,hf2⟩=>(hplan x H' hxR).2.kps (List.any_eq_true.2 ⟨f,hf1,hpnd f hf1 (AE.1 hf2).1⟩),fun j hj hjf=>?_,fun j hj hjf=>?_,PhF.start hA2 (fun k hk=>by obtain⟨q,h1,h2,h3⟩:=Qep.1 hk;grind) fun j o hj hE=>?_⟩
    ·show look (putE _ om.dst x) t=_
     by_cases hd':om.dst=some t
     ·obtain⟨⟨g,hg,hmm⟩,_⟩:=ht _ _ hom2 hmf hd'
      have hgs:=(hplan x H' hxR).1.get g hg hmm;obtain⟨⟨o0,h1,h2⟩,_⟩:=hg0 g hg
      grind
     ·have hto:QuietO ops fl ts off t:=fun j p hp hj hd=>by
       obtain⟨⟨g,hg,rfl⟩,h2⟩:=ht j p hp hj hd;refine⟨⟨g,hg,rfl⟩,?_⟩
       grind
      rw[<-hqs2 t hto];cases hd2:om.dst with
      |none=>rfl
      |some d=>exact Qd1 (fun e=>hd' (by rw[hd2,e])) _ _
    ·rcases hqs.2 g hg with h|⟨hmem,hasc⟩
     ·omega
     ·rcases AH.1 hmem with e|e
      ·omega
      ·exact .inr ⟨e,(Qpe hasc).2⟩
    ·grind
    ·show(E j||_)=false;rw[hhi j (by omega) hjf];grind
    ·rcases segE_get hj with⟨rfl,h2⟩|⟨_,h2⟩
     ·exact⟨rfl,hnn2 j h2⟩
     grind
 case hend=>
  rintro E a w ⟨ms,off,s1,st,xv,nb,hn1,hc,h0,hK,hnn,hqs,hct,hlt,hlo,hhi,hPh⟩ hall hnone;have hall': ∀i,i<ops.length->E i=true:=fun i hi=>hall i (by omega)
  cases ms with
  |nil=>
   obtain⟨σ1,S1,g1,g2,g3,g4,g5⟩:=PhF.done hc h0 hPh fun j hj=>by
    have hlen:=Qgy fl ops.length (ops.drop off) off;simp only[segE,AG] at hj hlen
    grind
   have hop: ∀k,opn fa E k=false:=fun k=>by
    cases hk:opn fa E k with
    |false=>rfl
    |true=>
     obtain⟨q,h1,_,h3⟩:=Qep.1 hk;obtain⟨o,t,hf⟩:=Qe1 (hfl q.1 (QdI.1 (hfm q h1)));rw[hall' q.1 (A0.1 hf.op).1] at h3;cases h3
   simp only[maskP_no hop] at g1 g4 g5;refine⟨_,σ1,S1,hK,g1,g2,g3,fun t=>?_⟩
   by_cases hfx: ∃f x,(f,t,x)∈fx
   ·obtain⟨f,x,hm⟩:=hfx
    obtain⟨_,p,hf,hlk,_⟩:=hX.ok f t x hm
    have:look (st (segE ops fl off []).length).env t=x:=by
     rw[<-hlk,<-hqs.1 t (.of (hqfx f t x hm))];rcases hc.slot _ (AK _) t with⟨j,p',k1,k2,k3,k4,k5⟩|⟨k1,k2⟩
     ·rcases segE_get k2 with⟨rfl,_⟩|⟨k6,k7⟩
      ·cases k3
      ·exact absurd k3 (hqfx f t x hm _ _ k6 k7)
     grind
    rw[this];exact g4 f t x hm (hall' f (A0.1 hf.op).1)
   grind
  |cons m ms=>
   obtain⟨hom,hbar,om,hom2,_⟩:=hK;have hmlt:m<ops.length:=(A0.1 hom2).1
   have hlen:(segE ops fl off (m::ms)).length=m -off:=by
    have:=Qgy fl m (ops.drop off) off;simp only[segE,AG] at this⊢;omega
   have h1:=hall' m hmlt;rw[hhi m (by omega) (Qj6 hbar).1] at h1;cases h1
end Fk
end Aw
end
section
open Go.RowKit
namespace Aw
namespace Fg
def Flts(P:A2)(ops:List A5)(K:List (Nat×AV)->Prop):List Nat->List (Nat×AV)->Prop
 |[],env=>K env
 |f::r,env=> ∃o x,ops[f]? =some o/\(∀H,Loc P o env H x none)/\Flts P ops K r (putE env o.dst x)
def PlanF(P:A2)(ops:List A5)(fl:List Nat)(Q:St->Prop):List Nat->Nat->St->Prop
 |[],off,s=>ADraw P ops.toArray Q (segF fl ops.length off (ops.drop off)) s
 |m::ms,off,s=>Ae off m=true/\barOkF ops fl m=true/\ ∃o,ops[m]? =some o/\ADraw P ops.toArray (AStep P ops.toArray o (PlanF P ops fl Q ms (m+1))) (segF fl m off (ops.drop off)) s
def Qk1{P:A2}{ops:Array A5}{K K':St->Prop}(h: ∀s,K s->K' s): ∀(l:List A5) (s:St),ADraw P ops K l s->ADraw P ops K' l s
 |[],s,hk=>h s hk
 |o::l,s,⟨a,b,hs,hk⟩=>⟨a,b,hs,Qk1 h l _ hk⟩
def Qve{P:A2}{ops:List A5}{K K':List (Nat×AV)->Prop}(hK: ∀env,K env->K' env): ∀(r:List Nat) (env:List (Nat×AV)),Flts P ops K r env->Fk.Flts P ops ⟨[],[]⟩ K' r env
 |[],env,h=>hK env h
 |_::r,_,⟨o,x,ho,hl,hk⟩=>⟨o,x,ho,fun H _=>hl H,Qve hK r _ hk⟩
theorem Qtf{P:A2}{ops:Array A5}{o:A5}{K K':St->Prop}{s:St}(hk: ∀s,K s->K' s)(h:AStep P ops o K s):Fk.AStepM P ops o [] K' s:=by
 obtain⟨R,h1,h2,h3,h4,h5⟩:=h;refine⟨R,fun p hp=>?_,h2,h3,h4,fun x H' hx=>hk _ (h5 x H' hx)⟩
 have hno: ∀k,p k=false:=fun k=>by
  grind
 intro B σ S a w hB hS hop K1 Q1 kk;rw[Fk.maskP_no hno] at hS hop kk;exact h1 B σ S a w hB hS hop K1 Q1 fun x H' hx v w' σ' S' g1 g2 g3=>kk x H' ⟨H',hx,(Fk.maskP_no hno H').symm,fun k hk=>(by grind)⟩ v w' σ' S' g1 g2 g3
def Qrq{P:A2}{ops:List A5}{fl:List Nat}{Q:St->Prop}: ∀(ms:List Nat) (off:Nat) (s:St),PlanF P ops fl Q ms off s->Fk.PlanF P ops fl ⟨[],[]⟩ [] Q ms off s
 |[],_,_,h=>⟨fun _ q hq=>(by cases hq),h⟩
 |m::ms,off,s,⟨h1,h2,o,ho,h⟩=>⟨fun _ q hq=>(by cases hq),h1,h2,o,ho,Qk1 (fun _ hs=>Qtf (fun s' hs'=>⟨trivial,Qrq ms (m+1) s' hs'⟩) hs) _ _ h⟩
def awp_drawF0(fl ms:List Nat){P:A2}{id:Nat}{ops:List A5}{Q:Ag->St->Prop}{s:St}(hm:P.follows .mixedOrders=true)(hok:drawOk ops.toArray=true)(hgok:ops.all (gdOk ops.toArray s.n)=true)
 (hfo:floatOk ops fl s.n=true) (h:Flts P ops (fun env=>PlanF P ops fl (Q .normal) ms 0 ⟨s.n,env,s.H⟩) fl s.env):AWP P (.region id ops.toArray true) Q s:=by
 have e:s.H++([]:List (Nat×Blk)).map (·.2)=s.H:=List.append_nil _;refine Fk.awp_drawF0 fl ms [] [] [] hm hok hgok ?_ (fun t ht=>by cases ht) (fun t ht=>by cases ht) rfl List.nodup_nil (fun q hq=>by cases hq) (Qve (fun env hp=>?_) fl s.env h)
 ·show(ascN fl&&fl.all (float1 ops fl s.n)&&fl.all (float1 ops fl s.n))=true
  rw[show(ascN fl&&fl.all (float1 ops fl s.n))=true from hfo,Bool.true_and];exact(Bool.and_eq_true_iff.1 hfo).2
 ·show Fk.PlanF P ops fl ⟨[],[]⟩ [] (Q .normal) ms 0 ⟨s.n,env,s.H++([]:List (Nat×Blk)).map (·.2)⟩
  rw[e];exact Qrq ms 0 _ hp
def awp_drawF(fl ms:List Nat){P:A2}{id:Nat}{ops:List A5}{Q:Ag->St->Prop}{n:Nat}{env:List (Nat×AV)}{H:List Blk}(h:Flts P ops (fun env=>PlanF P ops fl (Q .normal) ms 0 ⟨n,env,H⟩) fl env)(hm:P.follows .mixedOrders=true:=by exact follows_mixed)(hok:drawOk ops.toArray=true:=by kernel_rfl)(hgok:ops.all (gdOk ops.toArray n)=true:=by kernel_rfl)
 (hfo:floatOk ops fl n=true:=by kernel_rfl):AWP P (.region id ops.toArray true) Q ⟨n,env,H⟩:=awp_drawF0 fl ms hm hok hgok hfo h
section
variable{P:A2}{ops:List A5}{K:List (Nat×AV)->Prop}{f:Nat}{r:List Nat}{env:List (Nat×AV)}{d:Tmp}{op:Op}{ty:Ah}{pos:String}{after:Array Edge}{gd:Option (Nat×Bool)}{x:AV}
def aw_flt(ho:ops[f]? =some ⟨some d,op,ty,pos,after,gd⟩:=by rfl)(h: ∀H:List Blk,∀R:Option (AV×Option Blk)->Prop,R (some (x,none))->R (evOp P env H op):=by intro H R hR;simp only[go_sem,Nat.reduceEqDiff,Nat.reduceAdd,Nat.reduceLT,Nat.reduceLeDiff,↓reduceIte,reduceCtorEq];exact hR)
 (k:Flts P ops K r ((d,x)::env)):Flts P ops K (f::r) env:=⟨_,x,ho,fun H=>Qju (h H (fun q=>q=some (x,none)) rfl),k⟩
def aw_fltL(ho:ops[f]? =some ⟨some d,op,ty,pos,after,gd⟩:=by rfl)(hl: ∀H,Loc P ⟨some d,op,ty,pos,after,gd⟩ env H x none)(k:Flts P ops K r ((d,x)::env)):Flts P ops K (f::r) env:=⟨_,x,ho,hl,k⟩
def aw_fltN(k:K env):Flts P ops K [] env:=k
def aw_planFN{ops:List A5}{fl:List Nat}{Q:St->Prop}{off:Nat}{s:St}(h:ADraw P ops.toArray Q (segF fl ops.length off (ops.drop off)) s):PlanF P ops fl Q [] off s:=h
def aw_planFC{ops:List A5}{fl:List Nat}{Q:St->Prop}{off m:Nat}{ms:List Nat}{s:St}{o:A5}(h:ADraw P ops.toArray (AStep P ops.toArray o (PlanF P ops fl Q ms (m+1))) (segF fl m off (ops.drop off)) s)(h1:Ae off m=true:=by rfl)(h2:barOkF ops fl m=true:=by kernel_rfl)(ho:ops[m]? =some o:=by rfl):PlanF P ops fl Q (m::ms) off s:=
 ⟨h1,h2,o,ho,h⟩
end
end Fg
def Qoj(n:Nat): ∀(l:List A5) (i:Nat),i+l.length=n->segF [] n i l=l
 |[],_,_=>rfl
 |o::l,i,h=>by
  simp only[List.length_cons] at h
  have hb:Ae n i=false:=by
   cases hb:Ae n i with
   |false=>rfl
   |true=>have:=AI hb;omega
  unfold segF;rw[hb,Qoj n l (i+1) (by omega)];rfl
def Qtc{P:A2}{id:Nat}{ops:List A5}{Q:Ag->St->Prop}{s:St}(hm:P.follows .mixedOrders=true)(hok:drawOk ops.toArray=true)(hgok:ops.all (gdOk ops.toArray s.n)=true)
 (h:ADraw P ops.toArray (Q .normal) ops s):AWP P (.region id ops.toArray true) Q s:=
 Fg.awp_drawF0 [] [] hm hok hgok rfl (by
  show ADraw P ops.toArray (Q .normal) (segF [] ops.length 0 (ops.drop 0)) _
  rw[List.drop_zero,Qoj _ ops 0 (by omega)];exact h)
def QeM{P:A2}{c:Code}{Q:Ag->St->Prop}{s:St}(h:AWP P c (fun e s=> ∃s',Weak s s'/\Q e s') s):AWP P c Q s:=by
 intro B hB σ S a w hA;refine wp_mono (h B hB σ S a w hA) ?_;rintro e a w ⟨s',σ',S',⟨s'',hw,hq⟩,hA'⟩;obtain⟨σ2,S2,h2⟩:=hw B σ' S' a w hA';exact⟨s'',σ2,S2,hq,h2⟩
def QeH(m:Nat){rs:List ResultVar}{x:AV}{H1:List Blk}{gl:List AV}{gvs:List Value}{n:Nat}{env env':List (Nat×AV)}{H H':List Blk}(e:Ag)(he:e= .normal∨e= .ret)(hk:keepE env [gslot]=env')(hH:H.take m=H')(h1:envLt m env'=true)(h2:H'.all (Blk.lt m)=true)
 (h3:resA env' rs=some x) (h4:H'=H1) (h5:look env' gslot= .gh gl gvs): ∃s',Weak ⟨n,env,H⟩ s'/\EndA rs x H1 gl gvs e s':=
 ⟨_,Qhd [gslot] m hk hH h1 h2,by rcases he with rfl|rfl<;>exact⟨h3,h4,h5⟩⟩
end Aw
end
section
open Go.RowKit
namespace Aw
variable{f:FuncId}{ds:List D}{tys:Array Ah}{xs:Array Operand}{R A:Prop}
abbrev dI(n:Int):D:= .v (.int .i64 n)
abbrev dB(b:Bool):D:= .v (.bool b)
abbrev dS(s:List UInt8):D:= .v (.string ⟨s.toArray⟩)
abbrev dPtr(p:Pl.Ptr):D:= .agg [dI p.pat,dI p.birth,dI p.size,dI p.sum,dI p.level]
def Qdt(p:Pl.Ptr):Pure AJ 105 [dPtr p] (dB (Pl.ptrHole p)):=Qd6 rfl fun w _=>Pm.QqZ p w
def aSumOf(s:List UInt8)(h:s.length<=Pm.big):Pure AJ 196 [dS s] (dI (Pl.sumOf s:Nat)):=Qd6 rfl fun w _=>(Pm.spSumOf s w h).mono fun e w' h=>⟨h.1,h.2▸Af _ _⟩
def QaX(p:Pl.Ptr)(s:List UInt8):Bool:=Pl.ptrOk p&& !Pl.ptrHole p&&(p.size==(s.length:Int))&&(p.sum==((Pl.sumOf s:Nat):Int))
attribute [local irreducible] ASeq ADraw AWP Loc
def follows_mixed:AJ.follows .mixedOrders=true:=Pm.follows_mixed
def cK{P:A2}(h: ∀args w,(callFunc f args).run P w= .ok (.enter f args) w:=by intros;kernel_rfl): ∀args w,(callFunc f args).run P w= .ok (.enter f args) w:=h
def lK{P:A2}{dst:Option Tmp}{ty:Ah}{pos:String}{after:Array Edge}{gd:Option (Nat×Bool)}{env:List (Nat×AV)}{H:List Blk}{x:D}(hd:allD (xs.toList.map (aval env))=some ds)(h:Pure P f ds x)(hf: ∀args w,(callFunc f args).run P w= .ok (.enter f args) w:=by intros;kernel_rfl):Loc P ⟨dst,.call ⟨.value (.func f),xs,tys⟩,ty,pos,after,gd⟩ env H (.d x) none:=Qds hf h hd
def kE{Q:Prop}(k:Q)(h:Q->R:=by intro k;refine QgO (by rfl) (by conv=>lhs;whnf;rfl) (by conv=>lhs;whnf;rfl) (by conv=>lhs;whnf;rfl) rfl ?_;simp only[parE,Nat.zero_add,Nat.reduceAdd];refine QjC (Qe3 ?_);(repeat(first|refine e1 (k:=?_)|refine e2 (k:=?_)|refine e0 (k:=?_)|fail));exact QfT k):R:=h k
def kX{Q:Prop}(k:Q)(h:Q->R:=by intro k;rintro _ _ ⟨rfl,rfl⟩;exact QdF (k:=k)):R:=h k
def kY{Q:Prop}(k:Q)(h:Q->R:=by intro k;rintro _ _ ⟨rfl,rfl⟩;exact Fk.aw_nrmM (k:=k)):R:=h k
def kZ{Q:Prop}(k:Q)(h:Q->R:=by intro k;rintro _ _ ⟨rfl,rfl⟩;exact Qlv (k:=k)):R:=h k
def kN{Q:Prop}(k:Q)(h:Q->R:=by intro k;exact QgO (by rfl) (by conv=>lhs;whnf;rfl) (by conv=>lhs;whnf;rfl) (by conv=>lhs;whnf;rfl) rfl k):R:=h k
def kB{Q:Prop}(k:Q)(h:Q->R:=by intro k;refine QgO (by rfl) (by conv=>lhs;whnf;rfl) (by conv=>lhs;whnf;rfl) (by conv=>lhs;whnf;rfl) rfl ?_;simp only[parE,Nat.zero_add,Nat.reduceAdd];exact k):R:=h k
def kC{Q:Prop}(k:Q)(h:Q->R:=by intro k;refine Qik (by rfl) (by conv=>lhs;whnf;rfl) (by conv=>lhs;whnf;rfl) (by conv=>lhs;whnf;rfl) rfl ?_;simp only[parE,Nat.zero_add,Nat.reduceAdd];exact k):R:=h k
def kD{Q:Prop}(k:Q)(h:Q->R:=by intro k;refine Qik (by rfl) (by conv=>lhs;whnf;rfl) (by conv=>lhs;whnf;rfl) (by conv=>lhs;whnf;rfl) rfl ?_;simp only[parE,Nat.zero_add,Nat.reduceAdd];refine QjC (Qe3 ?_);(repeat(first|refine e1 (k:=?_)|refine e2 (k:=?_)|refine e0 (k:=?_)|fail));exact QfT k):R:=h k
def kF{Q:Prop}(k:Q)(h:Q->R:=by intro k;refine QlM (by rfl) (by conv=>lhs;whnf;rfl) (by conv=>lhs;whnf;rfl) (by conv=>lhs;whnf;rfl) rfl ?_;simp only[parA,Nat.zero_add,Nat.reduceAdd];exact k):R:=h k
def kH{G:Type}{Q:G->Prop}(k: ∀g,Q g)(h:(∀g,Q g)->R:=by intro k;refine Qh0 (by rfl) (by conv=>lhs;whnf;rfl) (by conv=>lhs;whnf;rfl) (by conv=>lhs;whnf;rfl) rfl rfl (fun gvs=>?_);have k:=k gvs;simp only[parA,gslot,Nat.zero_add,Nat.reduceAdd];refine QjC (Qe3 ?_);(repeat(first|refine e1 (k:=?_)|refine e2 (k:=?_)|refine e0 (k:=?_)|fail));exact QfT k):R:=h k
def kJ{G:Type}{Q:G->Prop}(k: ∀g,Q g)(h:(∀g,Q g)->R:=by intro k;refine Qh0 (by rfl) (by conv=>lhs;whnf;rfl) (by conv=>lhs;whnf;rfl) (by conv=>lhs;whnf;rfl) rfl rfl (fun gvs=>?_);have k:=k gvs;simp only[parA,gslot,Nat.zero_add,Nat.reduceAdd];exact k):R:=h k
def kL{G:Type}{Q:G->Prop}(a:A)(k: ∀g,Q g)(h:A->(∀g,Q g)->R:=by intro a k;exact QnH (by rfl) (by conv=>lhs;whnf;rfl) (by conv=>lhs;whnf;rfl) (by conv=>lhs;whnf;rfl) rfl rfl a k):R:=h a k
def kA{Q:Prop}(k:Q)(h:Q->R:=by intro k;first|(show ASeq _ _ _ _ _;first|exact e1 (k:=k)|exact e0 (k:=k)|exact QfT k|exact QjF k|exact Qh8 k|exact qS (lK rfl (by assumption)) k|(refine stepS (Qjf rfl rfl ?_) (k:=k)<;>omega)|(refine stepS (Qdx Ty.h rfl Ty.h rfl rfl rfl rfl ?_ ?_) (k:=k)<;>omega)|exact stepS (Qhn rfl rfl) (k:=k)|(refine stepS (QhH rfl rfl ?_) (k:=k)<;>omega)|exact stepS (Qdo rfl rfl) (k:=k)|exact stepS (QdB rfl rfl) (k:=k)|exact stepS (Qdo (m:=[]) rfl rfl) (k:=k)|exact stepS (QdB (m:=[]) rfl rfl) (k:=k)|exact stepS (QfL TyBool.h rfl rfl) (k:=k)|exact stepS (QeV TyBool.h rfl rfl) (k:=k)|exact stepS2 (Qjd Ty.h rfl Ty.h) (k:=k)|exact stepS2 (QrN Ty.h rfl Ty.h rfl rfl) (k:=k)|exact QoX (kk:=k)|exact e2 (k:=k))|(show ADraw _ _ _ _ _;first|exact f1 (k:=k)|exact f0 (k:=k)|exact QmL k|exact Qk0 k|exact qD (lK rfl (by assumption)) k|(refine stepD (Qjf rfl rfl ?_) (k:=k)<;>omega)|(refine stepD (Qdx Ty.h rfl Ty.h rfl rfl rfl rfl ?_ ?_) (k:=k)<;>omega)|exact stepD (Qhn rfl rfl) (k:=k)|(refine stepD (QhH rfl rfl ?_) (k:=k)<;>omega)|exact stepD (Qdo rfl rfl) (k:=k)|exact stepD (QdB rfl rfl) (k:=k)|exact stepD (Qdo (m:=[]) rfl rfl) (k:=k)|exact stepD (QdB (m:=[]) rfl rfl) (k:=k)|exact stepD (QfL TyBool.h rfl rfl) (k:=k)|exact stepD (QeV TyBool.h rfl rfl) (k:=k)|exact stepD2 (Qjd Ty.h rfl Ty.h) (k:=k)|exact f2 (k:=k))|(show AWP _ _ _ _;first|exact QjC k|exact Qe3 k|exact Qtc follows_mixed (by kernel_rfl) (by kernel_rfl) k|exact Qlx (ht:=k)|exact Qly (hf:=k)|exact Qlr k|exact QjA k|exact Qls k)|(show thenA _ _ _ _;first|exact QqB k|exact QnU k)|(show blockA _ _ _ _;first|exact QmO k|exact Qnk k|exact Qk4 (h:=k))|exact Fg.aw_flt (k:=k)|exact Fg.aw_fltN k|exact Fg.aw_planFC k|exact Fg.aw_planFN k|exact Fk.aw_flt (k:=k)|exact Fk.aw_fltN k|exact Fk.aw_planC0 k|exact Fk.aw_planN0 k|exact Fk.aw_stepM k|exact Fk.aw_grew (k:=k)|exact Fk.aw_gs (k:=k)|exact Qky (kk:=k)|fail):R:=h k
def kS{Q:Prop}(k:Q)(h:Q->R:=by intro k;first|(show ASeq _ _ _ _ _;first|exact e1 (k:=k)|exact e0 (k:=k))|(show ADraw _ _ _ _ _;first|exact f1 (k:=k)|exact f0 (k:=k))|fail):R:=h k
def kU{Q:Prop}(k:Q)(h:Q->R:=by intro k;first|(show ASeq _ _ _ _ _;first|exact QfT k|exact QjF k|exact Qh8 k|exact qS (lK rfl (by assumption)) k|(refine stepS (Qjf rfl rfl ?_) (k:=k)<;>omega)|(refine stepS (Qdx Ty.h rfl Ty.h rfl rfl rfl rfl ?_ ?_) (k:=k)<;>omega)|exact stepS (Qhn rfl rfl) (k:=k)|(refine stepS (QhH rfl rfl ?_) (k:=k)<;>omega)|exact stepS (Qdo rfl rfl) (k:=k)|exact stepS (QdB rfl rfl) (k:=k)|exact stepS (Qdo (m:=[]) rfl rfl) (k:=k)|exact stepS (QdB (m:=[]) rfl rfl) (k:=k)|exact stepS (QfL TyBool.h rfl rfl) (k:=k)|exact stepS (QeV TyBool.h rfl rfl) (k:=k)|exact stepS2 (Qjd Ty.h rfl Ty.h) (k:=k)|exact stepS2 (QrN Ty.h rfl Ty.h rfl rfl) (k:=k)|exact QoX (kk:=k)|exact e2 (k:=k))|(show ADraw _ _ _ _ _;first|exact QmL k|exact Qk0 k|exact qD (lK rfl (by assumption)) k|(refine stepD (Qjf rfl rfl ?_) (k:=k)<;>omega)|(refine stepD (Qdx Ty.h rfl Ty.h rfl rfl rfl rfl ?_ ?_) (k:=k)<;>omega)|exact stepD (Qhn rfl rfl) (k:=k)|(refine stepD (QhH rfl rfl ?_) (k:=k)<;>omega)|exact stepD (Qdo rfl rfl) (k:=k)|exact stepD (QdB rfl rfl) (k:=k)|exact stepD (Qdo (m:=[]) rfl rfl) (k:=k)|exact stepD (QdB (m:=[]) rfl rfl) (k:=k)|exact stepD (QfL TyBool.h rfl rfl) (k:=k)|exact stepD (QeV TyBool.h rfl rfl) (k:=k)|exact stepD2 (Qjd Ty.h rfl Ty.h) (k:=k)|exact f2 (k:=k))|(show AWP _ _ _ _;first|exact QjC k|exact Qe3 k|exact Qtc follows_mixed (by kernel_rfl) (by kernel_rfl) k|exact Qlx (ht:=k)|exact Qly (hf:=k)|exact Qlr k|exact QjA k|exact Qls k)|(show thenA _ _ _ _;first|exact QqB k|exact QnU k)|(show blockA _ _ _ _;first|exact QmO k|exact Qnk k|exact Qk4 (h:=k))|exact Fg.aw_flt (k:=k)|exact Fg.aw_fltN k|exact Fg.aw_planFC k|exact Fg.aw_planFN k|exact Fk.aw_flt (k:=k)|exact Fk.aw_fltN k|exact Fk.aw_planC0 k|exact Fk.aw_planN0 k|exact Fk.aw_stepM k|exact Fk.aw_grew (k:=k)|exact Fk.aw_gs (k:=k)|exact Qky (kk:=k)|fail):R:=h k
def kV{B:Prop}(k:A)(j:B)(h:A->B->R:=by intro k j;first|exact aw_cond (ht:=k) (hf:=j)|((fail_if_success show ASeq _ _ _ _ ⟨_,(_,.d (.v (.bool true)))::_,_⟩);(fail_if_success show ASeq _ _ _ _ ⟨_,(_,.d (.v (.bool false)))::_,_⟩);exact splitS k j)|((fail_if_success show ADraw _ _ _ _ ⟨_,(_,.d (.v (.bool true)))::_,_⟩);(fail_if_success show ADraw _ _ _ _ ⟨_,(_,.d (.v (.bool false)))::_,_⟩);exact splitD k j)|fail):R:=h k j
def kR{Q:Prop}(k:Q)(h:Q->R:=by intro k;refine QjC (Qe3 ?_);(repeat(first|refine e1 (k:=?_)|refine e2 (k:=?_)|refine e0 (k:=?_)|fail));exact QfT k):R:=h k
def kG{Q:Prop}(k:Q)(h:Q->R:=by intro k;first|exact e1 (k:=k)|exact QfT k|exact QjF k|exact Qh8 k|exact QjC k|exact Qe3 k|exact Qlx (ht:=k)|exact Qly (hf:=k)|exact Qlr k|exact QnU k|exact QjA k|exact e2 (k:=k)|exact e0 (k:=k)|exact Qls k|exact QqB k|exact QmO k|exact Qnk k|exact Qk4 (h:=k)|fail):R:=h k
section
variable{P:A2}{ops:Array A5}{Q:Ag->St->Prop}{K:St->Prop}{l:List A5}{n:Nat}{env:List (Nat×AV)}{H:List Blk}{d:Tmp}{op:Op}{ty:Ah}{pos:String}{after:Array Edge}{gd:Option (Nat×Bool)}{x:AV}
def qS(hl:Loc P ⟨some d,op,ty,pos,after,gd⟩ env H x none)(k:ASeq P ops Q l ⟨n,(d,x)::env,H⟩)(hw:awanted ops env ⟨some d,op,ty,pos,after,gd⟩=some true:=by rfl)(hd:AT d n=true:=by rfl)(hg:gdOk ops n ⟨some d,op,ty,pos,after,gd⟩=true:=by rfl):ASeq P ops Q (⟨some d,op,ty,pos,after,gd⟩::l) ⟨n,env,H⟩:=stepS hl hw hd hg k
def qD(hl:Loc P ⟨some d,op,ty,pos,after,gd⟩ env H x none)(k:ADraw P ops K l ⟨n,(d,x)::env,H⟩)(hd:AT d n=true:=by rfl)(hw:awanted ops env ⟨some d,op,ty,pos,after,gd⟩=some true:=by rfl):ADraw P ops K (⟨some d,op,ty,pos,after,gd⟩::l) ⟨n,env,H⟩:=stepD hl hd hw k
def lC{x:D}(h:Pure P f ds x)(hf: ∀args w,(callFunc f args).run P w= .ok (.enter f args) w:=by intros;kernel_rfl)(hd:allD (xs.toList.map (aval env))=some ds:=by rfl):Loc P ⟨some d,.call ⟨.value (.func f),xs,tys⟩,ty,pos,after,gd⟩ env H (.d x) none:=Qds hf h hd
def iy{dst:Option Tmp}{T e:Ah}{F E:TyF}{u v:Operand}{κ:IntKind}{i:Int}{c:Bool}{rows:List (List D)}{r:List D}(hr:rows[i.toNat]? =some r)(hT:tyf P T=some F:=by exact Ty.h)(he:F.elem=some e:=by rfl)(hE:tyf P e=some E:=by exact Ty.h)(hn:E.size=n:=by rfl)(hu:aval env u= .d (.sl c n rows):=by rfl)(hv:aval env v= .d (.v (.int κ i)):=by rfl)(h0:0<=i:=by omega):Loc P ⟨dst,.indexAddr T u v,ty,pos,after,gd⟩ env H (.d (.pd r)) none:=Qdc hT he hE hn hu hv h0 hr
end
def al6In(a b c:Int):Pure AJ 48 [dI a,dI b,dI c] (dB (Pl.inR a b c)):=Qd6 rfl fun w _=>(Pm.l6In a b c w).mono fun _ _ h=>⟨h.1,h.2▸Af _ _⟩
def al2Row(a:Int):Pure AJ 163 [dI a] (dB (Pl.inR a 8 63)):=Qd6 rfl fun w _=>(Pm.spRow a w).mono fun _ _ h=>⟨h.1,h.2▸Af _ _⟩
def QkF(p:Pl.Ptr):Pl.ptrOk p=(Pl.ptrHole p||(Pl.inR p.pat 8 63&&Pl.inR p.birth 1 900&&Pl.inR p.size 1 128&&Pl.inR p.sum 0 99460728&&Pl.inR p.level 0 2)):=rfl
theorem aPtrOk(p:Pl.Ptr):Pure AJ 104 [dPtr p] (dB (Pl.ptrOk p)):=by
 have hd:=Pm.hid (QkF p);have c:=Qdt p;generalize Pl.ptrOk p=r at*;generalize Pl.ptrHole p=h at*;obtain⟨x1,x2,x3,x4,x5⟩:=p;simp only at hd;refine kN ?_;simp only[parE,dPtr,Ai];refine kR ?_;refine Qa 0 (h:=?_)
 repeat' first|refine kS ?_|refine qS (Qds cK (al2Row _) rfl) ?_|refine qS (Qds cK (al6In _ _ _) rfl) ?_|refine kU ?_|refine kV ?_ ?_<;>intro q|fail
 all_goals exact Qb (hx:=congrArg dB (by rw[hd.out];simp_all))
theorem Qpl(p:Pl.Ptr)(s:List UInt8)(hs:s.length<=Pm.big):Pure AJ 134 [dPtr p,dS s] (dB (QaX p s)):=by
 refine kN ?_;simp only[parE,dPtr,Ai];refine kR ?_;refine Qa 0 (h:=?_)
 repeat' first|refine kS ?_|refine qD (lC (aPtrOk p)) ?_|refine qD (lC (Qdt p)) ?_|refine qD (lC (aSumOf s hs)) ?_|refine kU ?_|refine kV ?_ ?_<;>intro q|fail
 all_goals exact Qb (hx:=congrArg dB (by simp_all[QaX]))
abbrev dInts(l:List Int):D:= .sl false 1 (l.map fun n=>[dI n])
abbrev dStrs(l:List (List UInt8)):D:= .sl false 1 (l.map fun s=>[dS s])
abbrev dPtrs(l:List Pl.Ptr):D:= .sl false 5 (l.map fun p=>[dI p.pat,dI p.birth,dI p.size,dI p.sum,dI p.level])
abbrev dSpace(s:Pm.Space):D:= .agg [dInts s.1,dInts s.2]
def Qu{α:Type}{f:α->List D}{l:List α}{k:Nat}{x:α}(h:l[k]? =some x):(l.map f)[(k:Int).toNat]? =some (f x):=by
 rw[Int.toNat_natCast,Aa,h];rfl
theorem QuN(s:Pm.Space)(h1:s.1.length<=Pm.big)(h2:s.2.length<=Pm.big):Pure AJ 158 [dSpace s] (dB (Pl.spaceOk s)):=by
 obtain⟨refs,last⟩:=s;simp only[Pm.big] at h1 h2;refine kN ?_;simp only[parE,dSpace];refine kR ?_;refine Qa 0 (h:=?_)
 repeat refine kG ?_
 cases q1:((refs.length:Int) !=64);rotate_left
 ·repeat refine kG ?_
  exact Qb (hx:=congrArg dB (by simp at q1;simp[Pl.spaceOk];intros;omega))
 repeat refine kG ?_
 cases q2:((last.length:Int) !=64);rotate_left
 ·repeat refine kG ?_
  exact Qb (hx:=congrArg dB (by simp at q2;simp[Pl.spaceOk];intros;omega))
 repeat refine kG ?_
 simp at q1 q2;refine Qs (fun m s=> ∃k:Nat,k<=64/\m=64 -k/\(AW k).all (Pl.Qec refs last)=true/\s=⟨68,[(3,.d (dI k)),(1,.d (.pd [dInts refs,dInts last]))],[]⟩) [3,1] 0 64 ⟨0,by omega,rfl,rfl,rfl⟩ (round:=?_);rintro m s ⟨k,hk,rfl,hF,rfl⟩
 repeat refine kG ?_
 cases q3:decide ((k:Int)<64)
 ·repeat refine kG ?_
  have:k=64:=by simp at q3;omega
  subst this;exact Qb (hx:=congrArg dB (by simp[Pl.spaceOk,hF];omega))
 repeat refine kG ?_
 simp at q3;have hk':k<64:=by omega
 have hk1:k<refs.length:=by omega
 have hk2:k<last.length:=by omega
 have hr1:=Qu (f:=fun n=>[dI n]) (A3 hk1);have hr2:=Qu (f:=fun n=>[dI n]) (A3 hk2)
 have hrow:Pl.Qec refs last k=Pl.QdO k refs[k] last[k]:=by
  unfold Pl.Qec;rw[AL,AL,A3 hk1,A3 hk2];rfl
 generalize refs[k]=a at*;generalize last[k]=b at*;have T:Hid (Pl.QdO k a b=true->(AW (k+1)).all (Pl.Qec refs last)=true):=fun h=>Pl.Qdn hF (hrow.trans h)
 have F:Hid (Pl.QdO k a b=false->Pl.spaceOk (refs,last)=false):=fun h=>by simp[Pl.spaceOk,Pl.Qdj hk' (hrow.trans h)]
 clear hrow hF
 repeat' first|refine kS ?_|refine qD (Qds cK (al6In _ _ _) rfl) ?_|refine qD (Qds cK (al2Row _) rfl) ?_|refine qD (iy hr1) ?_|refine qD (iy hr2) ?_|refine kU ?_|refine kV ?_ ?_<;>intro q|fail
 all_goals clear hr1 hr2
 all_goals first|exact Qb (hx:=congrArg dB (F.out (by simp_all[Pl.QdO])).symm)|exact Qn (64 -(k+1)) (by omega) ⟨k+1,by omega,rfl,T.out (by simp_all[Pl.QdO]),rfl⟩

/- Of fby_card; no condition. -/
import Derived.Test.YtfmnpmhadmcdkaaGreatDoorT05
import Derived.MapKept
import Derived.Deep.AppendSrc
set_option linter.all false
open Array renaming getElem?_eq_getElem->AG,size_setIfInBounds->AY,mem_toList_iff->Ag,getElem?_modify->Au,getElem?_push->Ax
open Bool renaming or_eq_true_iff->AB,or_eq_false_iff->AR,and_eq_true->Af,not_eq_true'->B2
open Go renaming Program->A3,Oper->A4,TypeId->A7,Operand->AZ,World->Ab,Value->Aj,Exit->BA,MapEntry->BC,Edge->BF,Act->BG,Tmp->BH
open Go.Act renaming put->B3
open Go.Builtin renaming zeroCells->AI
open Go.Instr renaming findNow->AM,lookup->B4,mapUpdate->B7,sameNow->BE
open Go.MapKept renaming run_getObj_map->AL,run_checkKey->AS,run_findKey->AW,run_setObj_map->Ar,IsKey->Az
open Go.Op renaming operands->AH
open Go.Operand renaming tmp->AP
open Go.Proofs.Tryz renaming prog->A2
open Go.Region renaming binds->Ap,wanted->Ay
open Go.Result renaming andThen->Ai
open Go.Sem renaming run_bind->Aq
open List renaming getElem?_eq_some_iff->A0,getElem?_set_self->A6,mem_append_right->A8,mem_append_left->A9,getElem?_append_right->AE,getElem?_append_left->AF,all_eq_true->AJ,length_drop->AK,ext_getElem?->AO,mem_cons_of_mem->AQ,getElem?_set_ne->AT,mem_cons->AX,mem_cons_self->Aa,replicate->Ad,mk_mem_zipIdx_iff_getElem?->Ae,mem_filterMap->Ah,getElem?_eq_getElem->Ak,length_cons->Am,mem_append->As,range->B0,getElem?_map->B1,mem_filter->B6,mem_range->B9,drop_zero->BB,set->BI
open Nat renaming le_of_ble_eq_true->A5,blt->AA,lt_or_ge->AC,le_refl->AD,ble->AN,mul_le_mul_right->AU,le_mul_of_pos_right->Al,add_mul->Av,beq->B8
open Option renaming map_eq_some_iff->Ac,bind_eq_some_iff->An,map_eq_none_iff->Ao
open Option.some renaming inj->A1,injEq->B5
open Prod.mk renaming injEq->BD
namespace Go.Proofs.YtfmnpmhadmcdkaaGreatDoor
noncomputable section
section
open Go.RowKit
namespace Aw
variable{u:AZ}{k:Nat}{E:TyF}{T:A7}{o:A4}
variable{P:A3}
section
variable{dst:Option BH}{ty:A7}{pos:String}{after:Array BF}{gd:Option (Nat×Bool)}{env:List (Nat×AV)}{H:List Blk}
theorem Qex{fn:Fn}{x:AV}(hu:aval env u=x):Loc P ⟨dst,.makeFunc fn #[] #[u],ty,pos,after,gd⟩ env H (.fn fn [x]) none:=by
 have:=Qh8 (P:=P) (dst:=dst) (ty:=ty) (pos:=pos) (after:=after) (gd:=gd) (env:=env) (H:=H) (fn:=fn) (xs:= #[u])
 grind
theorem Qkg{fn:Fn}{u':AZ}{x x':AV}(hu:aval env u=x)(hu':aval env u'=x'):Loc P ⟨dst,.makeFunc fn #[] #[u,u'],ty,pos,after,gd⟩ env H (.fn fn [x,x']) none:=by
 have:=Qh8 (P:=P) (dst:=dst) (ty:=ty) (pos:=pos) (after:=after) (gd:=gd) (env:=env) (H:=H) (fn:=fn) (xs:= #[u,u'])
 grind
end
def AV.weak1:AV->AV
 |.d x=> .d x.weak
 |x=>x
theorem PureF.arg{f:FuncId}{l l':List AV}{x:D}(h:PureF P f l' x)(ha:l.map AV.weak1=l':=by rfl):PureF P f l x:=by
 intro B S w cargs hB hS hl hr;subst ha;refine h B S w cargs hB hS (by simpa using hl) fun i d v hd hv=>?_
 rw[B1] at hd;obtain⟨d0,h1,rfl⟩:=Ac.1 hd;have h2:=hr i d0 v h1 hv;cases h2 with
 |d x v h=>exact .d _ _ h.weak
 |agg l cs hl h=>exact .agg l cs hl h
 |tup l cs hl h=>exact .tup l cs hl h
 |ptr=>exact hr i _ _ h1 hv
 |fn f l cs hl h=>exact .fn f l cs hl h
 |_=>exact hr i _ _ h1 hv
section
variable{P:A3}{ops:Array A4}{K:St->Prop}{n:Nat}{env:List (Nat×AV)}{H H':List Blk}{d:BH}{ty:A7}{pos:String}{after:Array BF}{gd:Option (Nat×Bool)}
theorem Qoe{e:A7}{F:TyF}{s x:AZ}{g len k2 g2:Nat}{T2:A7}{rows:List (List D)}{r:List D}(hT:tyf P T=some F)(he:F.elem=some e)(hE:tyf P e=some E)(hz:E.zero.length=E.size:=by rfl)(hpos:AA 0 E.size=true:=by rfl)
 (hs:aval env s= .osl k g 0 len:=by rfl) (hk:H[k]? =some (.arr g E.size e rows):=by rfl) (hlen:len=rows.length:=by first|rfl|simp)
 (hx:aval env x= .osl k2 g2 0 1:=by rfl) (hk2:H[k2]? =some (.arr g2 E.size T2 [r]):=by rfl) (hcell:r.all D.cell=true:=by rfl)
 (hb:(rows.length+1)*E.bytes<=140737488355328)
 (hw:awanted ops env ⟨some d,.call ⟨.builtin .append, #[s,x], #[T,T]⟩,ty,pos,after,gd⟩=some true:=by rfl) (hd:AA d n=true:=by rfl) (hg:gdOk ops n ⟨some d,.call ⟨.builtin .append, #[s,x], #[T,T]⟩,ty,pos,after,gd⟩=true:=by rfl)
 (hH: ∀R:List Blk->Prop,R H'->R (H.set k (.arr (g+1) E.size e (rows++[r]))):=by intro R hR;simp only[List.set_cons_zero,List.set_cons_succ,Nat.zero_add,Nat.reduceAdd];exact hR)
 (hby:AA 0 E.bytes=true:=by rfl)
 (kk:K ⟨n,(d,.osl k (g+1) 0 (rows.length+1))::env,H'⟩):AStep P ops ⟨some d,.call ⟨.builtin .append, #[s,x], #[T,T]⟩,ty,pos,after,gd⟩ K ⟨n,env,H⟩:=by
 have hby':0<E.bytes:=by simpa using hby
 have hmul:rows.length+1<=(rows.length+1)*E.bytes:=Al _ hby';refine astep (QiI (newrows:=[r]) hT he hE hz (by simp_all) hs hk hlen (QpK hx hk2 rfl (cells1 r hcell)) (by omega) (by simp;omega)) hw hd hg ?_;have:=hH (fun r=>r=H') rfl;rw[this];simpa[putE] using kk
theorem QhW{e:A7}{F:TyF}{s x:AZ}{g len:Nat}{c:Bool}{rows newrows:List (List D)}(hT:tyf P T=some F)(he:F.elem=some e)(hE:tyf P e=some E)(hz:E.zero.length=E.size:=by rfl)(hpos:AA 0 E.size=true:=by rfl)
 (hs:aval env s= .osl k g 0 len:=by rfl) (hk:H[k]? =some (.arr g E.size e rows):=by rfl) (hlen:len=rows.length:=by first|rfl|simp)
 (hx:aval env x= .d (.sl c E.size newrows):=by rfl) (hcell: ∀r∈newrows,∀d∈r,d.cell=true)
 (hb:(rows.length+newrows.length)*E.bytes<=140737488355328)
 (hw:awanted ops env ⟨some d,.call ⟨.builtin .append, #[s,x], #[T,T]⟩,ty,pos,after,gd⟩=some true:=by rfl) (hd:AA d n=true:=by rfl) (hg:gdOk ops n ⟨some d,.call ⟨.builtin .append, #[s,x], #[T,T]⟩,ty,pos,after,gd⟩=true:=by rfl)
 (hH: ∀R:List Blk->Prop,R H'->R (H.set k (.arr (g+1) E.size e (rows++newrows))):=by intro R hR;simp only[List.set_cons_zero,List.set_cons_succ,Nat.zero_add,Nat.reduceAdd];exact hR)
 (hby:AA 0 E.bytes=true:=by rfl)
 (kk:K ⟨n,(d,.osl k (g+1) 0 (rows.length+newrows.length))::env,H'⟩):AStep P ops ⟨some d,.call ⟨.builtin .append, #[s,x], #[T,T]⟩,ty,pos,after,gd⟩ K ⟨n,env,H⟩:=by
 have hby':0<E.bytes:=by simpa using hby
 have hmul:rows.length+newrows.length<=(rows.length+newrows.length)*E.bytes:=Al _ hby';refine astep (QiI (newrows:=newrows) hT he hE hz (by simp_all) hs hk hlen (QpJ hx hcell) hb (by omega)) hw hd hg ?_;have:=hH (fun r=>r=H') rfl;rw[this];simpa[putE] using kk
end
def memN:List Nat->Nat->Bool
 |[],_=>false
 |m::r,i=>bif B8 m i then true else memN r i
theorem Qd5: ∀{l:List Nat} {i:Nat},memN l i=true↔i∈l
 |[],i=>by simp[memN]
 |m::r,i=>by
  unfold memN;cases h:B8 m i with
  |true=>simp_all
  |false=>
   have:m≠i:=fun e=>by simp_all
   simp only[cond_false,AX];rw[Qd5]
   grind
def opT(o:A4):List Nat:=o.op.operands.toList.filterMap fun| .tmp t=>some t|_=>none
def quietB(ops:List A4)(fl:List Nat)(q:Nat):Bool:=ops.zipIdx.all fun(p,j)=>memN fl j|| !(p.dst==some q)
def Quiet(ops:List A4)(fl:List Nat)(q:Nat):Prop:= ∀(j:Nat) p,ops[j]? =some p->memN fl j=false->p.dst≠some q
def ascN:List Nat->Bool
 |[]=>true
 |f::r=>r.all (AA f)&&ascN r
def float1(ops:List A4)(fl:List Nat)(n f:Nat):Bool:=
 match ops[f]? with
 |none=>false
 |some o=>match o.dst,o.guard with
  |some t,none=>AA t n&& !(opT o).elem t&&(opT o).all (quietB ops fl)&&ops.zipIdx.all fun(p,j)=>bif AA j f then !(names ops p).elem t else B8 j f|| !(p.dst==some t)
  |_,_=>false
def floatOk(ops:List A4)(fl:List Nat)(n:Nat):Bool:=ascN fl&&fl.all (float1 ops fl n)
structure FlSt(ops:List A4)(fl:List Nat)(n f:Nat)(o:A4)(t:Nat):Prop where
 op:ops[f]? =some o
 dst:o.dst=some t
 guard:o.guard=none
 lt:t<n
 own:AP t∉o.op.operands
 quiet: ∀q,AP q∈o.op.operands->Quiet ops fl q
 before: ∀(j:Nat) p,j<f->ops[j]? =some p->t∉names ops p
 sole: ∀(j:Nat) p,j≠f->ops[j]? =some p->p.dst≠some t
def Qhj{t:Nat}(h:AP t∈o.op.operands):t∈opT o:=Ah.2 ⟨.tmp t,Ag.2 h,rfl⟩
theorem Qmk{ops:List A4}{fl:List Nat}{q:Nat}(h:quietB ops fl q=true):Quiet ops fl q:=by
 intro j p hp hm e;unfold quietB at h;rw[AJ] at h;have:=h (p,j) (Ae.2 hp)
 grind
theorem Qel{ops:List A4}{fl:List Nat}{n f:Nat}(h:float1 ops fl n f=true): ∃o t,FlSt ops fl n f o t:=by
 unfold float1 at h;split at h
 ·cases h
 rename_i o ho;split at h;rotate_left
 ·cases h
 rename_i t ht hg;simp only[Af,B2,AJ] at h;obtain⟨⟨⟨h1,h2⟩,h3⟩,h4⟩:=h;have hown:t∉opT o:=fun hm=>by grind
 have hz: ∀(j:Nat) p,ops[j]? =some p->(p,j)∈ops.zipIdx:=fun j p hp=>Ae.2 hp
 have key: ∀(j:Nat) p,j<f->ops[j]? =some p->t∉names ops p:=fun j p hj hp hm=>by
  have:=h4 (p,j) (hz j p hp);have hb:AA j f=true:=by simpa using hj
  grind
 refine⟨o,t,ho,ht,hg,by simp_all,fun hm=>hown (Qhj hm),fun q hq=>Qmk (h3 q (Qhj hq)),key,fun j p hj hp e=>?_⟩;rcases AC j f with hlt|hge
 ·grind [names]
 ·have:=h4 (p,j) (hz j p hp)
  have hb:AA j f=false:=by
   cases hb:AA j f
   ·rfl
   ·have:j<f:=by simp_all
    omega
  simp_all
def barOkF(ops:List A4)(fl:List Nat)(m:Nat):Bool:=
 let b:=befs ops []
 !memN fl m&&((B0 m).all fun j=>memN fl j||(b.getD m 0).testBit j)&&((B0 ops.length).all fun i=>AN i m||memN fl i||(b.getD i 0).testBit m)
theorem QiQ{ops:List A4}{fl:List Nat}{m:Nat}(h:barOkF ops fl m=true):memN fl m=false/\(∀j,j<m->memN fl j=false->((befs ops []).getD m 0).testBit j=true)/\
 ∀i,i<ops.length->m<i->memN fl i=false->((befs ops []).getD i 0).testBit m=true:=by
 unfold barOkF at h;simp only[Af,AJ,B9,B2] at h;obtain⟨⟨h0,h1⟩,h2⟩:=h;refine⟨h0,fun j hj hm=>?_,fun i hi hm hf=>?_⟩
 ·grind
 ·have:=h2 i hi
  rw[hf] at this;simp only[Bool.or_false] at this;rcases AB.1 this with h2|h2
  ·have:i<=m:=by simp_all
   omega
  omega
def dum:A4:=⟨none,.move (.const undef),0, "", #[],none⟩
def segF(fl:List Nat)(e:Nat):Nat->List A4->List A4
 |_,[]=>[]
 |i,o::l=>bif AN e i then [] else bif memN fl i then segF fl e (i+1) l else o::segF fl e (i+1) l
def segD(fl:List Nat)(e:Nat):Nat->List A4->List A4
 |_,[]=>[]
 |i,o::l=>bif AN e i then [] else(bif memN fl i then dum else o)::segD fl e (i+1) l
theorem QfT(fl:List Nat)(e:Nat): ∀(l:List A4) (i:Nat),(segD fl e i l).length=min (e -i) l.length
 |[],i=>by simp[segD]
 |o::l,i=>by
  unfold segD;cases h:AN e i with
  |true=>
   simp_all
  |false=>
   have: ¬e<=i:=fun h2=>by grind [Nat.ble_eq_true_of_le]
   simp only[cond_false,Am,QfT fl e l (i+1)];omega
theorem QjX(fl:List Nat)(e:Nat): ∀(l:List A4) (i k:Nat) (o:A4),(segD fl e i l)[k]? =some o->(memN fl (i+k)=true/\o=dum)∨(memN fl (i+k)=false/\l[k]? =some o)
 |[],i,k,o,h=>by simp[segD] at h
 |p::l,i,k,o,h=>by
  unfold segD at h;cases hb:AN e i with
  |true=>grind
  |false=>
   rw[hb] at h;simp only[cond_false] at h;cases k with
   |zero=>
    grind
   |succ k=>
    simp only[List.getElem?_cons_succ] at h⊢;have:=QjX fl e l (i+1) k o h
    grind
theorem QjB{P:A3}{opsA:Array A4}{l:List A4}{s:St}{x:AV}{b:Option Blk}{st:Nat->St}{xv:Nat->AV}{nb:Nat->Option Blk}(h:Step1 P opsA o s x b)(hc:Chain P opsA l st xv nb)(h0:st 0=s.next o x b):
 Chain P opsA (o::l) (fun i=>match i with|0=>s|i+1=>st i) (fun i=>match i with|0=>x|i+1=>xv i) (fun i=>match i with|0=>b|i+1=>nb i):=
 ⟨fun i o' ho=>by
   match i,ho with
   |0,ho=>grind
   |i+1,ho=>exact hc.step i o' (by grind)⟩
theorem ADraw.chainF{P:A3}{opsA:Array A4}{K:St->Prop}(fl:List Nat)(e:Nat): ∀(l:List A4) (i:Nat) (s:St),ADraw P opsA K (segF fl e i l) s->
 ∃st xv nb,Chain P opsA (segD fl e i l) st xv nb/\st 0=s/\K (st (segD fl e i l).length)/\ ∀k,memN fl (i+k)=true->nb k=none
 |[],i,s,h=>⟨fun _=>s,fun _=> .d .any,fun _=>none,⟨fun i o ho=>by simp[segD] at ho⟩,rfl,h,fun _ _=>rfl⟩
 |o::l,i,s,h=>by
  unfold segF at h;unfold segD;cases hb:AN e i with
  |true=>
   rw[hb] at h;exact⟨fun _=>s,fun _=> .d .any,fun _=>none,⟨fun i o ho=>by simp at ho⟩,rfl,h,fun _ _=>rfl⟩
  |false=>
   rw[hb] at h;simp only[cond_false] at h⊢;cases hm:memN fl i with
   |true=>
    rw[hm] at h;simp only[cond_true] at h⊢;obtain⟨st,xv,nb,hc,h0,hK,hn⟩:=ADraw.chainF fl e l (i+1) s h;refine⟨_,_,_,QjB (x:=aval s.env (.const undef)) (b:=none) ⟨rfl,.inr ⟨rfl,Qn5⟩⟩ hc (by rw[h0];simp[St.next,putE,dum]),rfl,hK,fun k hk=>?_⟩
    grind
   |false=>
    rw[hm] at h;simp only[cond_false] at h⊢;obtain⟨x,b,hs,h⟩:=h;obtain⟨st,xv,nb,hc,h0,hK,hn⟩:=ADraw.chainF fl e l (i+1) _ h;refine⟨_,_,_,QjB hs hc h0,rfl,hK,fun k hk=>?_⟩
    grind
section
variable{P:A3}{ops:List A4}{fl:List Nat}{n:Nat}{envF:List (Nat×AV)}{fx:List (Nat×Nat×D)}{B:Bs}
end
section
variable{P:A3}{ops:List A4}{K:List (Nat×AV)->Prop}{f:Nat}{r:List Nat}{env:List (Nat×AV)}{d:BH}{op:Op}{ty:A7}{pos:String}{after:Array BF}{gd:Option (Nat×Bool)}{x:D}
end
theorem QsQ{P:A3}{env:List (Nat×AV)}{H:List Blk}{sz len:Nat}{rows:List (List D)}(hlen:rows.length=len)(hsz: ∀r∈rows,r.length=sz)
 (h: ∀(σ:Sg) (S:Nat->Prop) (H':List Blk) (a:BG) (w:Ab),(∀u∈o.op.operands,Rel σ S H' w (aval env u) (a.eval u))->
   ∃cs,(execOp a.eval o).run P w= .ok (.value (.slice (some ⟨w.heap.size,0,none⟩) len len)) (w.alloc (.cells cs T))/\cs.size=len*sz/\len<=maxLen/\
    ∀(i j:Nat) r d,rows[i]? =some r->r[j]? =some d-> ∃v,cs[i*sz+j]? =some v/\RelD S w d v):Loc P o env H (.d (.sl true sz rows)) none:=by
 intro B σ S H' a w _ hS hop hag hk K Q k;obtain⟨cs,h1,hcs,hm,h2⟩:=h σ S H' a w hop;have hb:Below w.heap.size w (w.alloc (.cells cs T)):=Pm.bnew w _;obtain⟨h3,h4⟩:=hS.below hb;subst hlen;refine Qgg h1 (k _ _ _ _ h3 (.d _ _ (.sl true sz rows w.heap.size 0 rows.length (fun i j=>cs.getD (i*sz+j) undef) ?_ hsz (fun _=>AD _) (fun i j r d hi hj=>?_) fun i j r d hi hj=>?_)) h4)
 ·simp_all
 ·obtain⟨v,hv,_⟩:=h2 i j r d hi hj
  simp_all
 ·obtain⟨v,hv,hr⟩:=h2 i j r d hi hj
  rw[Array.getD_eq_getD_getElem?,hv];exact hr.mono h4.s h4.same
def Qd0{P:A3}{dst:Option BH}{ty:A7}{pos:String}{after:Array BF}{gd:Option (Nat×Bool)}{env:List (Nat×AV)}{H:List Blk}{e:A7}{F:TyF}{n:Nat}{parts:Array (Nat×AZ)}{rows:List (List D)}(hT:tyf P T=some F)(he:F.elem=some e)(hE:tyf P e=some E)
 (hz:E.zero.length=E.size:=by rfl) (hc: ∀R:Option (List (List D))->Prop,R (some rows)->R ((fillA (fun i=>some (i*E.size,E.size)) env (Ad n (E.zero.map fun v=>AV.d (.v v))).flatten parts.toList).bind (chunk E.size n)):=by
   intro R hR;simp only[go_sem,chunk,Option.bind_some,List.replicate_succ,List.replicate_zero,List.flatten_cons,List.flatten_nil,List.append_nil,List.cons_append,List.nil_append,Nat.zero_mul,Nat.reduceMul,Nat.reduceEqDiff,Nat.reduceAdd,Nat.reduceLT,Nat.reduceLeDiff,↓reduceIte,reduceCtorEq,List.take_nil,List.drop_nil];exact hR)
 (hm:AN (n*E.size) 16777216=true:=by rfl) (hn:AN n 16777216=true:=by rfl):Loc P ⟨dst,.buildSlice T n parts,ty,pos,after,gd⟩ env H (.d (.sl true E.size rows)) none:=by
 have h:=hc (fun r=>r=some rows) rfl;obtain⟨res,h1,h2⟩:=An.1 h;obtain⟨hrl,hrs,hrg⟩:=QgX h2;exact QsQ hrl hrs (Qgl hT he hE hz h1 h2 (A5 hm) (A5 hn))
end Aw
end
section
open Go.RowKit
namespace Aw
namespace Fg
theorem Loc.env{P:A3}{o:A4}{env env':List (Nat×AV)}{H:List Blk}{x:AV}{nb:Option Blk}(h:Loc P o env H x nb)(he: ∀q,AP q∈o.op.operands->look env' q=look env q):Loc P o env' H x nb:=by
 intro B σ S H' a w hB hS hop;refine h B σ S H' a w hB hS fun u hu=>?_
 have:=hop u hu;cases u with
 |tmp q=>grind [aval]
 |_=>exact this
end Fg
namespace Fk
def maskP(p:Nat->Bool)(H:List Blk):List Blk:=H.zipIdx.map fun q=>bif p q.2 then Blk.none else q.1
theorem Qd7(p:Nat->Bool)(H:List Blk)(k:Nat):(maskP p H)[k]? =H[k]?.map fun C=>bif p k then Blk.none else C:=by
 grind [maskP]
theorem QfF(p:Nat->Bool)(H:List Blk):(maskP p H).length=H.length:=by simp[maskP]
theorem maskP_no{p:Nat->Bool}(h: ∀k,p k=false)(H:List Blk):maskP p H=H:=AO fun k=>by
 rw[Qd7]
 grind
theorem Qlr{p:Nat->Bool}{H:List Blk}(h: ∀k,p k=true->k<H.length)(L:List Blk):maskP p (H++L)=maskP p H++L:=AO fun k=>by
 grind [Qd7,QfF]
theorem Qir{p:Nat->Bool}{H:List Blk}{k:Nat}{C:Blk}(h:p k=false):(maskP p H).set k C=maskP p (H.set k C):=AO fun j=>by
 grind [Qd7,QfF]
theorem Qmv{p:Nat->Bool}{H H':List Blk}(h:Agree H H'):Agree H (maskP p H'):=fun k C hC=>by
 rw[Qd7];rcases h k C hC with h|h<;>rw[h]<;>cases p k<;>simp
structure Fas where
 l:List (Nat×Nat×Blk)
 kp:List (Nat×Blk)
def KPs(kp:List (Nat×Blk))(H:List Blk):Prop:= ∀q∈kp,H[q.1]? =some q.2
def opn(fa:Fas)(F:Nat->Bool)(k:Nat):Bool:=fa.l.any fun q=>B8 q.2.1 k&& !F q.1
def kof(fa:Fas)(f:Nat):Option (Nat×Blk):=(fa.l.find? fun q=>B8 q.1 f).map (·.2)
def mkFa(h:Nat):List (Nat×Blk)->List (Nat×Nat×Blk)
 |[]=>[]
 |(f,C)::r=>(f,h,C)::mkFa (h+1) r
def EffM(P:A3)(o:A4)(env:List (Nat×AV))(H:List Blk)(ks:List Nat)(R:AV->List Blk->Prop):Prop:=
 ∀p:Nat->Bool,(∀k,p k=true->k∈ks)->EffE P o env (maskP p H) fun x K'=> ∃K,R x K/\K'=maskP p K/\ ∀k,p k=true->K[k]? =H[k]?
def AStepM(P:A3)(ops:Array A4)(o:A4)(ks:List Nat)(K:St->Prop)(s:St):Prop:=
 ∃R,EffM P o s.env s.H ks R/\awanted ops s.env o=some true/\dstOk s.n o.dst=true/\gdOk ops s.n o=true/\ ∀x H',R x H'->K ⟨s.n,putE s.env o.dst x,H'⟩
def kap(ops:List A4)(fa:Fas)(m:Nat):List Nat:=(fa.l.filter fun q=> !((befs ops []).getD m 0).testBit q.1).map (·.2.1)
abbrev Tl:=List (Nat×Nat×AV)
def QuietO(ops:List A4)(fl:List Nat)(ts:Tl)(off q:Nat):Prop:= ∀(j:Nat) p,ops[j]? =some p->memN fl j=false->p.dst=some q->(∃t∈ts,j=t.1)/\j<off
def QuietO.of{ops:List A4}{fl:List Nat}{ts:Tl}{off q:Nat}(h:Quiet ops fl q):QuietO ops fl ts off q:=fun j p h1 h2 h3=>absurd h3 (h j p h1 h2)
def ungE(q:Nat):List (Nat×AV)->List (Nat×AV)
 |[]=>[]
 |(k,x)::r=>bif k==q then ungE q r else(k,x)::ungE q r
theorem Qie(q:Nat): ∀env,look (ungE q env) q= .d .any
 |[]=>rfl
 |(k,x)::r=>by
  unfold ungE;cases h:k==q
  ·have h: ¬k=q:=by grind
   rw[cond_false,Qdr h];exact Qie q r
  ·exact Qie q r
theorem QpA{q t:Nat}(hne:t≠q): ∀env,look (ungE q env) t=look env t
 :=by intro l;induction l<;>grind [ungE,Qdl,Qdr]
def ungs(ts:Tl)(env:List (Nat×AV)):List (Nat×AV):=ts.foldr (fun t e=>ungE t.2.1 e) env
theorem Qp8{t:Nat}{env:List (Nat×AV)}: ∀{ts:Tl},(∃r∈ts,r.2.1=t)->look (ungs ts env) t= .d .any
 :=by intro l;induction l<;>grind [ungs,Qie,QpA]
theorem Qp9{t:Nat}{env:List (Nat×AV)}: ∀{ts:Tl},(∀r∈ts,r.2.1≠t)->look (ungs ts env) t=look env t
 :=by intro l;induction l<;>grind [ungs,QpA]
theorem Qqz{t:Nat}{env:List (Nat×AV)}: ∀{ts:Tl},(∀r∈ts,r.2.1≠t)->look (ts.map (·.2)++env) t=look env t
 :=by intro l;induction l<;>grind [Qdr]
def Qgb(ops:List A4)(fl:List Nat)(ts:List Nat)(n:Nat):Bool:=ascN fl&&fl.all (float1 ops (ts++fl) n)&&fl.all (fun f=>float1 ops (ts.filter (fun m=>AA m f)++fl) n f)
def Gt(m:Nat)(env:List (Nat×AV)):Tl->Prop
 |[]=>True
 |(a,q,v)::r=>(m=a->look env q=v)/\Gt m env r
def Gt.get{m:Nat}{env:List (Nat×AV)}: ∀{ts:Tl},Gt m env ts-> ∀t∈ts,m=t.1->look env t.2.1=t.2.2
 |[],_,t,h=>by cases h
 |(a,q,v)::r,h,t,ht=>by
  rcases AX.1 ht with rfl|ht
  ·exact h.1
  ·exact h.2.get t ht
def Gs(m:Nat)(ts:Tl)(K:St->Prop)(s:St):Prop:=Gt m s.env ts/\K s
def Flts(P:A3)(ops:List A4)(fa:Fas)(K:List (Nat×AV)->Prop):List Nat->List (Nat×AV)->Prop
 |[],env=>K env
 |f::r,env=> ∃o x,ops[f]? =some o/\(match kof fa f with
  |none=> ∀H,KPs fa.kp H->Loc P o env H x none
  |some (κ,C)=> ∀H:List Blk,H.length=κ->Loc P o env H x (some C))/\Flts P ops fa K r (putE env o.dst x)
def pend(ops:List A4)(fl:List Nat):Nat->Bool
 |0=>true
 |m+1=>fl.any fun f=> !((befs ops []).getD m 0).testBit f
def PlanF(P:A3)(ops:List A4)(fl:List Nat)(fa:Fas)(ts:Tl)(Q:St->Prop):List Nat->Nat->St->Prop
 |[],off,s=>(pend ops fl off=true->KPs fa.kp s.H)/\ADraw P ops.toArray Q (segF fl ops.length off (ops.drop off)) s
 |m::ms,off,s=>(pend ops fl off=true->KPs fa.kp s.H)/\AN off m=true/\barOkF ops fl m=true/\ ∃o,ops[m]? =some o/\ADraw P ops.toArray (AStepM P ops.toArray o (kap ops fa m) (Gs m ts (PlanF P ops fl fa ts Q ms (m+1)))) (segF fl m off (ops.drop off)) s
def PlanEndF(P:A3)(ops:List A4)(fl:List Nat)(fa:Fas)(ts:Tl)(Q:St->Prop)(off:Nat):List Nat->St->Prop
 |[],s=>Q s
 |m::ms,s=>off<=m/\barOkF ops fl m=true/\ ∃o,ops[m]? =some o/\AStepM P ops.toArray o (kap ops fa m) (Gs m ts (PlanF P ops fl fa ts Q ms (m+1))) s
def segE(ops:List A4)(fl:List Nat)(off:Nat):List Nat->List A4
 |[]=>segD fl ops.length off (ops.drop off)
 |m::_=>segD fl m off (ops.drop off)
def FLoc(P:A3)(fa:Fas)(f:Nat)(o:A4)(env:List (Nat×AV))(x:AV):Prop:=
 match kof fa f with
 |none=> ∀H,KPs fa.kp H->Loc P o env H x none
 |some (κ,C)=> ∀H:List Blk,H.length=κ->Loc P o env H x (some C)
theorem FLoc.env{P:A3}{fa:Fas}{f:Nat}{o:A4}{env env':List (Nat×AV)}{x:AV}(h:FLoc P fa f o env x)(he: ∀q,AP q∈o.op.operands->look env' q=look env q):FLoc P fa f o env' x:=by grind [FLoc,Fg.Loc.env]
structure Fx(P:A3)(ops:List A4)(fl:List Nat)(ts:Tl)(fa:Fas)(n:Nat)(env:List (Nat×AV))(fx:List (Nat×Nat×AV)):Prop where
 ok: ∀f t x,(f,t,x)∈fx->memN fl f=true/\ ∃o,FlSt ops (ts.map (·.1)++fl) n f o t/\look env t=x/\FLoc P fa f o env x
 all: ∀f,memN fl f=true-> ∃t x,(f,t,x)∈fx
theorem flts_build{P:A3}{ops:List A4}{fl:List Nat}{fa:Fas}{n:Nat}{K:List (Nat×AV)->Prop}: ∀(r:List Nat) (env:List (Nat×AV)),Flts P ops fa K r env->(∀f∈r,float1 ops fl n f=true)->ascN r=true->
 ∃(env':List (Nat×AV)) (fx:List (Nat×Nat×AV)),K env'/\(∀f t x,(f,t,x)∈fx->f∈r/\ ∃o,FlSt ops fl n f o t/\look env' t=x/\FLoc P fa f o env' x)/\(∀f∈r,∃t x,(f,t,x)∈fx)/\
  ∀q,(∀f∈r,∀o,ops[f]? =some o->o.dst≠some q)->look env' q=look env q
 |[],env,h,_,_=>⟨env,[],h,fun f t x hm=>by simp at hm,fun f hf=>by simp at hf,fun _ _=>rfl⟩
 |f::r,env,⟨o,x,ho,hl,hk⟩,h1,ha=>by
  simp only[ascN,Af,AJ] at ha;obtain⟨env',fx,hK,hfx,hall,hq⟩:=flts_build (fl:=fl) (n:=n) r _ hk (fun g hg=>h1 g (AQ _ hg)) ha.2;obtain⟨o',t,hf⟩:=Qel (h1 f Aa);have:=hf.op;rw[ho] at this;obtain rfl:=A1 this;rw[hf.dst] at hq;have hlater: ∀g∈r,f<g:=fun g hg=>by simp_all
  have hqt:look env' t=x:=by
   rw[hq t fun g hg p hp=>hf.sole g p (by grind) hp];exact Qdl _ _ _
  refine⟨env',(f,t,x)::fx,hK,fun g u y hm=>?_,fun g hg=>?_,fun q hne=>?_⟩
  ·rcases AX.1 hm with e|hm
   ·simp only[BD] at e
    obtain⟨rfl,rfl,rfl⟩:=e;refine⟨Aa,o,hf,hqt,FLoc.env (P:=P) (fa:=fa) (show FLoc P fa g o env y from hl) fun q hq'=>?_⟩;have hqn:q∈names ops o:=A9 _ (A8 _ (Qhj hq'));rw[hq q fun g hg p hp e=>?_]
    ·refine Qdr (fun e=>hf.own ?_) _ _
     grind
    ·obtain⟨p',u,hg'⟩:=Qel (h1 g (AQ _ hg))
     have:=hg'.op;rw[hp] at this;obtain rfl:=A1 this;have hu:=hg'.dst;rw[e] at hu;obtain rfl:=A1 hu;exact hg'.before _ _ (hlater g hg) ho hqn
   grind
  ·grind
  ·rw[hq q fun g hg=>hne g (AQ _ hg)]
   exact Qdr (fun e=>hne f Aa o ho (by rw[hf.dst,e])) _ _
section
variable{P:A3}{ops:List A4}{fl:List Nat}{fa:Fas}{n:Nat}{ts:Tl}{envF:List (Nat×AV)}{fx:List (Nat×Nat×AV)}{B:Bs}
def PhF(fa:Fas)(fx:List (Nat×Nat×AV))(B:Bs)(F:Nat->Bool)(l:List A4)(s:St)(xv:Nat->AV)(nb:Nat->Option Blk)(E:Nat->Bool)(a:BG)(w:Ab):Prop:=
 ∃σ S,Sm B σ S (maskP (opn fa F) (HE s.H nb l.length E)) w/\a.defers=[]/\a.tmps.size=s.n/\(∀f t x,(f,t,x)∈fx->F f=true->Rel σ S (maskP (opn fa F) (HE s.H nb l.length E)) w x (a.tmps.getD t undef))/\ ∀t,(∀f x,(f,t,x)∉fx)->
  (∃i o,E i=true/\l[i]? =some o/\o.dst=some t/\(∀j o',E j=true->l[j]? =some o'->o'.dst=some t->j<=i)/\Rel σ S (maskP (opn fa F) (HE s.H nb l.length E)) w (xv i) (a.tmps.getD t undef))∨
  ((∀j o,E j=true->l[j]? =some o->o.dst≠some t)/\Rel σ S (maskP (opn fa F) (HE s.H nb l.length E)) w (look s.env t) (a.tmps.getD t undef))
def SmF(fa:Fas)(fx:List (Nat×Nat×AV))(B:Bs)(F:Nat->Bool)(σ:Sg)(S:Nat->Prop)(s:St)(a:BG)(w:Ab):Prop:=
 Sm B σ S (maskP (opn fa F) s.H) w/\a.defers=[]/\a.tmps.size=s.n/\(∀f t x,(f,t,x)∈fx->F f=true->Rel σ S (maskP (opn fa F) s.H) w x (a.tmps.getD t undef))/\ ∀t,(∀f x,(f,t,x)∉fx)->Rel σ S (maskP (opn fa F) s.H) w (look s.env t) (a.tmps.getD t undef)
theorem HE_mask{p:Nat->Bool}{H:List Blk}(h: ∀k,p k=true->k<H.length)(nb:Nat->Option Blk)(n:Nat)(E:Nat->Bool):HE (maskP p H) nb n E=maskP p (HE H nb n E):=by grind [HE,Qlr]
theorem Qlj{fa:Fas}{F:Nat->Bool}{f:Nat}(h: ∀q∈fa.l,q.1≠f):opn fa (fun j=>F j||decide (j=f))=opn fa F:=by grind [opn]
theorem QdY{fa:Fas}{F:Nat->Bool}{k:Nat}:opn fa F k=true↔ ∃q∈fa.l,q.2.1=k/\F q.1=false:=by
 unfold opn;simp
theorem KPs.mask{fa:Fas}{F:Nat->Bool}{H L:List Blk}(h:KPs fa.kp H)(hd: ∀q∈fa.l,∀p∈fa.kp,q.2.1≠p.1):KPs fa.kp (maskP (opn fa F) (H++L)):=fun p hp=>by
 have h1:=h p hp
 have h2:opn fa F p.1=false:=by
  cases ho:opn fa F p.1 with
  |false=>rfl
  |true=>obtain⟨q,h3,h4,_⟩:=QdY.1 ho;grind
 grind [Qd7]
def QsV{fa:Fas}{f:Nat}(h:kof fa f=none): ∀q∈fa.l,q.1≠f:=fun q hq e=>by
 unfold kof at h;rw[Ao,List.find?_eq_none] at h;exact h q hq (by simp[e])
theorem Qkj{fa:Fas}{f κ:Nat}{C:Blk}(h:kof fa f=some (κ,C)):(f,κ,C)∈fa.l:=by
 unfold kof at h;obtain⟨q,h1,h2⟩:=Ac.1 h;have h3:=List.find?_some h1;have h4:=List.mem_of_find?_eq_some h1;have:q.1=f:=by simp_all
 grind
theorem PhF.start{F:Nat->Bool}{l:List A4}{s:St}{xv:Nat->AV}{nb:Nat->Option Blk}{E:Nat->Bool}{a:BG}{w:Ab}{σ:Sg}{S:Nat->Prop}(hA:SmF fa fx B F σ S s a w)(hlow: ∀k,opn fa F k=true->k<s.H.length)(hE: ∀j o,l[j]? =some o->E j=true->o.dst=none/\nb j=none):PhF fa fx B F l s xv nb E a w:=by
 obtain⟨hsm,hdf,hsz,hfl,henv⟩:=hA
 have key: ∀m,∃σ',Sm B σ' S (HE (maskP (opn fa F) s.H) nb m (fun _=>false)) w/\Ev σ S (maskP (opn fa F) s.H) w σ' S (HE (maskP (opn fa F) s.H) nb m (fun _=>false)) w:=by
  intro m;induction m with
  |zero=>grind [HE,Ev.refl]
  |succ m ih=>
   obtain⟨σ',h1,h2⟩:=ih
   have hsucc:HE (maskP (opn fa F) s.H) nb (m+1) (fun _=>false)=HE (maskP (opn fa F) s.H) nb m (fun _=>false)++maskB false (nb m):=by
    grind [HE,List.range_succ]
   rw[hsucc];cases hnb:nb m with
   |none=>grind [maskB]
   |some C=>
    obtain⟨h3,h4⟩:=h1.keepPlace;exact⟨_,by simpa[maskB] using h3,by simpa[maskB] using h2.trans h4⟩
 obtain⟨σ',h1,h2⟩:=key l.length
 have e:HE s.H nb l.length E=HE s.H nb l.length (fun _=>false):=by
  unfold HE
  congr 1
  apply congrArg List.flatten;apply List.map_congr_left;intro j hj;have hj:=B9.1 hj;cases hEj:E j with
  |false=>rfl
  |true=>rw[(hE j _ (Ak hj) hEj).2];rfl
 rw[HE_mask hlow] at h1 h2;rw[<-e] at h1 h2;exact⟨σ',S,h1,hdf,hsz,fun f t x hm hF=>(hfl f t x hm hF).mono h2,fun t ht=> .inr ⟨fun j o hj ho=>by grind,(henv t ht).mono h2⟩⟩
theorem PhF.done{F:Nat->Bool}{l:List A4}{s:St}{st:Nat->St}{xv:Nat->AV}{nb:Nat->Option Blk}{E:Nat->Bool}{a:BG}{w:Ab}(hch:Chain P ops.toArray l st xv nb)(h0:st 0=s)
 (h:PhF fa fx B F l s xv nb E a w) (hall: ∀i,i<l.length->E i=true): ∃σ S,SmF fa fx B F σ S (st l.length) a w:=by
 obtain⟨σ,S,h1,h2,h3,h6,h4⟩:=h;have hn:=hch.n;have hheap:=hch.heap
 have hH:(st l.length).H=HE s.H nb l.length E:=by
  grind [HE_all]
 refine⟨σ,S,by grind,h2,by grind,by grind,fun t ht=>?_⟩;rw[hH];have hEi: ∀(j:Nat) o,l[j]? =some o->E j=true:=fun j o ho=>hall j (A0.1 ho).1
 have hlt: ∀(j:Nat) o,l[j]? =some o->j<l.length:=fun j o ho=>(A0.1 ho).1
 rcases hch.slot l.length (AD _) t with⟨j,o,g1,g2,g3,g4,g5⟩|⟨g1,g2⟩
 ·grind
 grind
theorem put_same{a:BG}{t n:Nat}{v:Aj}(h3:a.tmps.size=n)(ht:t<n):(a.put (some t) v).tmps.getD t undef=v:=by simp_all[B3]
theorem put_other{a:BG}{t:Nat}{d:Option BH}{v:Aj}(h:d≠some t):(a.put d v).tmps.getD t undef=a.tmps.getD t undef:=by
 cases hd':d with
 |none=>rfl
 |some d'=>
  simp_all[B3]
theorem slot_fx{F:Nat->Bool}{i:Nat}{o:A4}{t:Nat}(hX:Fx P ops fl ts fa n envF fx)(htmp:tmpOk ops=true)(ho:ops[i]? =some o)(hi:memN fl i=false)(hcl:Closed ops F)(hedge: ∀e∈o.after,Ap .any e=true->F e.on=true)
 (ht:t∈names ops o) {f:Nat} {x:AV} (hm:(f,t,x)∈fx):F f=true:=by
 obtain⟨h1,p,hf,_,_⟩:=hX.ok f t x hm;have hne:f≠i:=fun e=>by grind
 rcases AC f i with hlt|hge
 ·exact QdH hcl ho hedge ((QdV htmp ho hf.op ht hf.dst hne).1 hlt) hne
 ·exact absurd ht (hf.before i o (by omega) ho)
theorem PhF.step{F:Nat->Bool}{off i:Nat}{l:List A4}{s:St}{st:Nat->St}{xv:Nat->AV}{nb:Nat->Option Blk}{E:Nat->Bool}{a:BG}{w:Ab}{o:A4}{K:BG->Ab->Prop}{Q:BA->BG->Ab->Prop}(hB:Gd B)
 (hX:Fx P ops fl ts fa n envF fx) (htmp:tmpOk ops=true) (hgd: ∀(i:Nat) (o:A4) (j:Nat) (want:Bool),ops[i]? =some o->o.guard=some (j,want)-> ∀p,ops[j]? =some p-> ∀d,p.dst=some d->AA d s.n=true)
 (hch:Chain P ops.toArray l st xv nb) (h0:st 0=s) (hlget: ∀(j:Nat) o,l[j]? =some o->(o=dum/\memN fl (off+j)=true)∨(ops[off+j]? =some o/\memN fl (off+j)=false)) (hqs: ∀t,QuietO ops fl ts off t->look s.env t=look envF t)
 (hEF: ∀(j:Nat),memN fl (off+j)=false->E j=F (off+j))
 (hil:i<l.length) (ho:ops[off+i]? =some o) (hio:memN fl (off+i)=false) (hol:l[i]? =some o)
 (hcl:Closed ops F) (hedge: ∀e∈o.after,Ap .any e=true->F e.on=true) (hFi:F (off+i)=false) (hlow: ∀k,opn fa F k=true->k<s.H.length) (h:PhF fa fx B F l s xv nb E a w)
 (hK: ∀a' w',PhF fa fx B F l s xv nb (fun j=>E j||decide (j=i)) a' w'->K a' w'):wpOp P ops.toArray Q (off+i) K a w:=by
 obtain⟨σ,S,h1,h2,h3,h6,h4⟩:=h;have hn:=hch.n;have hheap:=hch.heap;have ho2:ops.toArray[off+i]? =some o:=by grind
 obtain⟨⟨hdst,hstep⟩,hnext⟩:=hch.step i o hol;have hHi:(st i).H=s.H++(B0 i).flatMap fun j=>(nb j).toList:=by grind
 have hHlen:(st i).H.length=(HE s.H nb i E).length:=by grind [HE_none]
 have hpos:opn fa F (st i).H.length=false:=by
  grind
 have hEi:E i=false:=by grind
 have hld: ∀(j:Nat) p t,l[j]? =some p->p.dst=some t->ops[off+j]? =some p/\memN fl (off+j)=false:=fun j p t hp hd=>by
  rcases hlget j p hp with⟨rfl,_⟩|h
  ·cases hd
  ·exact h
 have hqfx: ∀f t x,(f,t,x)∈fx->Quiet ops fl t:=fun f t x hm j p hp hj e=>by
  obtain⟨h5,p',hf,_⟩:=hX.ok f t x hm;exact hf.sole j p (fun e=>by subst e;rw[hj] at h5;cases h5) hp e
 have hslot: ∀t,t∈names ops o->Rel σ S (maskP (opn fa F) (HE s.H nb l.length E)) w (look (st i).env t) (a.tmps.getD t undef):=by
  intro t ht
  by_cases hfx: ∃f x,(f,t,x)∈fx
  ·obtain⟨f,x,hm⟩:=hfx
   have hFf:=slot_fx hX htmp ho hio hcl hedge ht hm;obtain⟨_,p,hf,hlk,_⟩:=hX.ok f t x hm
   have:look (st i).env t=x:=by
    rcases hch.slot i (by omega) t with⟨j,p',g1,g2,g3,g4,g5⟩|⟨g1,g2⟩
    ·obtain⟨g6,g7⟩:=hld j p' t g2 g3
     exact absurd g3 (hqfx f t x hm _ _ g6 g7)
    ·rw[g2,h0,hqs t (.of (hqfx f t x hm)),hlk]
   grind
  have hnf: ∀f x,(f,t,x)∉fx:=fun f x hm=>hfx ⟨f,x,hm⟩
  rcases hch.slot i (by omega) t with⟨j,p,g1,g2,g3,g4,g5⟩|⟨g1,g2⟩
  ·rw[g5]
   obtain⟨g7,g8⟩:=hld j p t g2 g3;have hEj:F (off+j)=true:=QdH hcl ho hedge ((QdV htmp ho g7 ht g3 (by omega)).1 (by omega)) (by omega);rw[<-hEF j g8] at hEj;rcases h4 t hnf with⟨i',o',k1,k2,k3,k4,k5⟩|⟨k1,_⟩
   ·obtain⟨k7,k8⟩:=hld i' o' t k2 k3
    have hne:i'≠i:=fun e=>by grind
    have hlt:i'<i:=by
     rcases AC i' i with h|h
     ·exact h
     ·rw[hEF i' k8] at k1
      have:=QhY hcl k1 ((QdV htmp ho k7 ht k3 (by omega)).2 (by omega))
      grind
    grind
   grind
  ·rw[g2,h0]
   rcases h4 t hnf with⟨i',o',k1,k2,k3,_⟩|⟨_,k5⟩
   ·obtain⟨k7,k8⟩:=hld i' o' t k2 k3
    have hne:i'≠i:=fun e=>by grind
    exfalso;rcases AC i' i with h|h
    ·grind
    ·rw[hEF i' k8] at k1
     have:=QhY hcl k1 ((QdV htmp ho k7 ht k3 (by omega)).2 (by omega))
     grind
   omega
 have fin: ∀v w' σ' S',Sm B σ' S' (setNb (maskP (opn fa F) (HE s.H nb l.length E)) (st i).H.length (nb i)) w'->Rel σ' S' (setNb (maskP (opn fa F) (HE s.H nb l.length E)) (st i).H.length (nb i)) w' (xv i) v->
  Ev σ S (maskP (opn fa F) (HE s.H nb l.length E)) w σ' S' (setNb (maskP (opn fa F) (HE s.H nb l.length E)) (st i).H.length (nb i)) w'->K (a.put o.dst v) w':=by
  intro v w' σ' S' hS hR hev
  have hset:setNb (maskP (opn fa F) (HE s.H nb l.length E)) (st i).H.length (nb i)=maskP (opn fa F) (HE s.H nb l.length (fun j=>E j||decide (j=i))):=by
   cases hnb:nb i with
   |none=>show maskP _ _=maskP _ _;rw[Qpz (nb:=nb) (E:=E) hnb]
   |some C=>show BI _ _ _=_;rw[Qir hpos,hHlen,(Qou hil hEi hnb).2]
  rw[hset] at hS hR hev;refine hK _ _ ⟨σ',S',hS,?_,?_,fun f t x hm hF=>?_,fun t hnf=>?_⟩
  ·cases hd:o.dst<;>exact h2
  ·cases hd:o.dst
   ·exact h3
   grind [B3]
  ·rw[put_other fun e=>hqfx f t x hm _ _ ho hio e]
   exact(h6 f t x hm hF).mono hev
  ·by_cases hd:o.dst=some t
   ·have htn:t∈names ops o:=by simp[names,hd]
    refine .inl ⟨i,o,by simp,hol,hd,fun j o' hj hoj hdj=>?_,?_⟩
    ·rcases AB.1 hj with hj|hj
     ·rcases AC i j with hlt|hge
      ·obtain⟨k7,k8⟩:=hld j o' t hoj hdj
       rw[hEF j k8] at hj;have:=QhY hcl hj ((QdV htmp ho k7 htn hdj (by omega)).2 (by omega))
       grind
      omega
     grind
    ·rw[hd,put_same h3 ?_]
     ·exact hR
     ·rw[hd] at hdst
      have:=(hn i (by omega)).symm;rw[h0] at this;rw[this];simpa[dstOk] using hdst
   ·rw[put_other hd]
    rcases h4 t hnf with⟨i',o',k1,k2,k3,k4,k5⟩|⟨k1,k5⟩
    ·refine .inl ⟨i',o',by grind,k2,k3,fun j o'' hj hoj hdj=>?_,k5.mono hev⟩
     grind
    ·refine .inr ⟨fun j o' hj hoj=>?_,k5.mono hev⟩
     grind
 have hw: ∀b,awanted ops.toArray (st i).env o=some b->Ay o (yielded ops.toArray a.tmps)=b:=by
  intro b hb;refine Qhy (σ:=σ) (S:=S) (H:=maskP (opn fa F) (HE s.H nb l.length E)) (w:=w) hb fun j want d hg hd=>?_
  have hd':(ops[j]?).bind (·.dst)=some d:=by grind
  have hdn:d∈names ops o:=by
   grind [names]
  refine⟨?_,hslot d hdn⟩
  obtain⟨p,hp,hpd⟩: ∃p,ops[j]? =some p/\p.dst=some d:=by
   cases hp:ops[j]? with
   |none=>grind
   |some p=>grind
  have hgj:=hgd (off+i) o j want ho (by rw[hg]) p hp d hpd
  simp_all
 unfold wpOp;rw[ho2];simp only;rcases hstep with⟨hwf,hx,hnb⟩|⟨hwt,hloc⟩
 ·rw[if_neg (by grind)]
  have:=fin undef w σ S;rw[hnb,hx] at this;exact this h1 (.d _ _ (.v _)) (Ev.refl _ _ _ _)
 ·rw[if_pos (hw _ hwt)]
  refine .inl (hloc B σ S _ a w hB h1 (fun u hu=>Qeg fun t ht=>hslot t ?_) ?_ (fun C hC=>?_) K _ fin)
  ·subst ht
   unfold names;refine A9 _ (A8 _ ?_);exact Ah.2 ⟨.tmp t,Ag.2 hu,rfl⟩
  ·grind [Qmv,QtL]
  ·rw[Qd7,hHlen,(Qou hil hEi hC).1];simp
theorem PhF.of{F:Nat->Bool}{l:List A4}{s:St}{xv:Nat->AV}{nb:Nat->Option Blk}{E:Nat->Bool}{a:BG}{w:Ab}{M:List Blk}(hM:M=maskP (opn fa F) (HE s.H nb l.length E))
 (h: ∃σ S,Sm B σ S M w/\a.defers=[]/\a.tmps.size=s.n/\(∀f t x,(f,t,x)∈fx->F f=true->Rel σ S M w x (a.tmps.getD t undef))/\ ∀t,(∀f x,(f,t,x)∉fx)->
 (∃i o,E i=true/\l[i]? =some o/\o.dst=some t/\(∀j o',E j=true->l[j]? =some o'->o'.dst=some t->j<=i)/\Rel σ S M w (xv i) (a.tmps.getD t undef))∨
 ((∀j o,E j=true->l[j]? =some o->o.dst≠some t)/\Rel σ S M w (look s.env t) (a.tmps.getD t undef))):PhF fa fx B F l s xv nb E a w:=by subst hM;exact h
theorem PhF.float{F:Nat->Bool}{off f:Nat}{l:List A4}{s:St}{xv:Nat->AV}{nb:Nat->Option Blk}{E:Nat->Bool}{a:BG}{w:Ab}{o:A4}{K:BG->Ab->Prop}{Q:BA->BG->Ab->Prop}(hB:Gd B)
 (hX:Fx P ops fl ts fa n envF fx) (htmp:tmpOk ops=true) (hns:s.n=n)
 (hlget: ∀(j:Nat) o,l[j]? =some o->(o=dum/\memN fl (off+j)=true)∨(ops[off+j]? =some o/\memN fl (off+j)=false)) (hqs: ∀t,QuietO ops fl ts off t->look s.env t=look envF t)
 (hqo: ∀o,ops[f]? =some o-> ∀q,AP q∈o.op.operands->QuietO ops fl ts off q) (ho:ops[f]? =some o) (hff:memN fl f=true) (hka:kof fa f=none) (hkps:KPs fa.kp s.H) (hkd: ∀q∈fa.l,∀p∈fa.kp,q.2.1≠p.1)
 (hcl:Closed ops F) (hedge: ∀e∈o.after,Ap .any e=true->F e.on=true) (h:PhF fa fx B F l s xv nb E a w)
 (hK: ∀a' w',PhF fa fx B (fun j=>F j||decide (j=f)) l s xv nb E a' w'->K a' w'):wpOp P ops.toArray Q f K a w:=by
 obtain⟨σ,S,h1,h2,h3,h6,h4⟩:=h;obtain⟨t,x,hm⟩:=hX.all f hff;obtain⟨_,o',hf,hlk,hloc⟩:=hX.ok f t x hm;unfold FLoc at hloc;rw[hka] at hloc;have hmk:=Qlj (F:=F) (QsV hka);have:=hf.op;rw[ho] at this;obtain rfl:=A1 this;have ho2:ops.toArray[f]? =some o:=by simpa using ho
 unfold wpOp;rw[ho2];simp only;rw[if_pos (by simp[Ay,hf.guard])];refine .inl (hloc (maskP (opn fa F) (HE s.H nb l.length E)) (hkps.mask hkd) B σ S _ a w hB h1 (fun u hu=>Qeg fun q hq=>?_) (fun k C hC=> .inl hC) (fun C hC=>by cases hC) K _ fun v w' σ' S' hS hR hev=>hK _ _ (PhF.of (M:=maskP (opn fa F) (HE s.H nb l.length E)) (by rw[hmk]) ⟨σ',S',hS,?_,?_,fun g u y hg hF=>?_,fun u hnf=>?_⟩))
 ·subst hq
  have hqq:=hqo o ho q hu;have hqn:q∈names ops o:=A9 _ (A8 _ (Qhj hu))
  by_cases hfx: ∃g y,(g,q,y)∈fx
  ·obtain⟨g,y,hg⟩:=hfx
   obtain⟨hg1,p,hgf,hglk,_⟩:=hX.ok g q y hg;rw[hglk]
   have hne:g≠f:=fun e=>by
    subst e;have:=hgf.op;rw[ho] at this;obtain rfl:=A1 this;have hd:=hgf.dst;exact hgf.own hu
   refine h6 g q y hg ?_;rcases AC g f with hlt|hge
   ·exact QdH hcl ho hedge ((QdV htmp ho hgf.op hqn hgf.dst hne).1 hlt) hne
   ·exact absurd hqn (hgf.before f o (by omega) ho)
  ·rw[<-hqs q hqq]
   rcases h4 q (fun g y hg=>hfx ⟨g,y,hg⟩) with⟨i',o',k1,k2,k3,k4,k5⟩|⟨_,k5⟩
   ·rcases hlget i' o' k2 with⟨rfl,_⟩|⟨g1,g2⟩
    ·cases k3
    ·have:=hqq _ _ g1 g2 k3;omega
   ·exact k5
 ·cases hd:o.dst<;>exact h2
 ·cases hd:o.dst
  ·exact h3
  ·simp only[B3,AY];exact h3
 ·by_cases hgf:g=f
  ·subst hgf
   obtain⟨_,p,hgf,hglk,_⟩:=hX.ok g u y hg;have:=hgf.op;rw[ho] at this;obtain rfl:=A1 this;have hu:=hgf.dst;rw[hf.dst] at hu;obtain rfl:=A1 hu;have hxy:x=y:=hlk.symm.trans hglk;subst hxy;rw[hf.dst,put_same h3 (by rw[hns];exact hf.lt)];exact hR
  ·have hFg:F g=true:=by
    rcases AB.1 hF with hF|hF
    ·exact hF
    ·exact absurd (of_decide_eq_true hF) hgf
   obtain⟨_,p,hgs,_⟩:=hX.ok g u y hg;rw[put_other fun e=>hgs.sole f o (fun e=>hgf e.symm) ho e];exact(h6 g u y hg hFg).mono hev
 ·have hd:o.dst≠some u:=fun e=>by
   rw[hf.dst] at e;obtain rfl:=A1 e;exact hnf f x hm
  rw[put_other hd];rcases h4 u hnf with⟨i',o',k1,k2,k3,k4,k5⟩|⟨k1,k5⟩
  ·exact .inl ⟨i',o',k1,k2,k3,k4,k5.mono hev⟩
  ·exact .inr ⟨k1,k5.mono hev⟩
theorem PhF.alloc{F:Nat->Bool}{off f κ:Nat}{C:Blk}{l:List A4}{s:St}{xv:Nat->AV}{nb:Nat->Option Blk}{E:Nat->Bool}{a:BG}{w:Ab}{o:A4}{K:BG->Ab->Prop}{Q:BA->BG->Ab->Prop}(hB:Gd B)
 (hX:Fx P ops fl ts fa n envF fx) (htmp:tmpOk ops=true) (hns:s.n=n)
 (hlget: ∀(j:Nat) o,l[j]? =some o->(o=dum/\memN fl (off+j)=true)∨(ops[off+j]? =some o/\memN fl (off+j)=false)) (hqs: ∀t,QuietO ops fl ts off t->look s.env t=look envF t)
 (hqo: ∀o,ops[f]? =some o-> ∀q,AP q∈o.op.operands->QuietO ops fl ts off q) (ho:ops[f]? =some o) (hff:memN fl f=true) (hka:kof fa f=some (κ,C)) (huq: ∀q∈fa.l,q.1=f↔q.2.1=κ) (hFf:F f=false) (hct:s.H[κ]? =some C)
 (hcl:Closed ops F) (hedge: ∀e∈o.after,Ap .any e=true->F e.on=true) (h:PhF fa fx B F l s xv nb E a w)
 (hK: ∀a' w',PhF fa fx B (fun j=>F j||decide (j=f)) l s xv nb E a' w'->K a' w'):wpOp P ops.toArray Q f K a w:=by
 obtain⟨σ,S,h1,h2,h3,h6,h4⟩:=h;obtain⟨t,x,hm⟩:=hX.all f hff;obtain⟨_,o',hf,hlk,hloc⟩:=hX.ok f t x hm;unfold FLoc at hloc;rw[hka] at hloc;have hkl:κ<s.H.length:=(A0.1 hct).1;have hL:(HE s.H nb l.length E)[κ]? =some C:=by grind [HE]
 have hon:opn fa F κ=true:=QdY.2 ⟨_,Qkj hka,rfl,hFf⟩
 have hlen:((maskP (opn fa F) (HE s.H nb l.length E)).take κ).length=κ:=by
  grind [QfF]
 have hfill:(maskP (opn fa F) (HE s.H nb l.length E)).set κ C=maskP (opn fa fun j=>F j||decide (j=f)) (HE s.H nb l.length E):=AO fun k=>by
  grind [Qd7,QfF,QdY]
 have:=hf.op;rw[ho] at this;obtain rfl:=A1 this;have ho2:ops.toArray[f]? =some o:=by simpa using ho
 unfold wpOp;rw[ho2];simp only;rw[if_pos (by simp[Ay,hf.guard])];refine .inl (hloc ((maskP (opn fa F) (HE s.H nb l.length E)).take κ) hlen B σ S _ a w hB h1 (fun u hu=>Qeg fun q hq=>?_) (fun k C hC=> .inl (by grind)) (fun C hC=>by grind [Qd7]) K _ fun v w' σ' S' hS hR hev=>hK _ _ (PhF.of (M:=setNb (maskP (opn fa F) (HE s.H nb l.length E)) ((maskP (opn fa F) (HE s.H nb l.length E)).take κ).length (some C)) (by rw[hlen];exact hfill) ⟨σ',S',hS,?_,?_,fun g u y hg hF=>?_,fun u hnf=>?_⟩))
 ·subst hq
  have hqq:=hqo o ho q hu;have hqn:q∈names ops o:=A9 _ (A8 _ (Qhj hu))
  by_cases hfx: ∃g y,(g,q,y)∈fx
  ·obtain⟨g,y,hg⟩:=hfx
   obtain⟨hg1,p,hgf,hglk,_⟩:=hX.ok g q y hg;rw[hglk]
   have hne:g≠f:=fun e=>by
    subst e;have:=hgf.op;rw[ho] at this;obtain rfl:=A1 this;have hd:=hgf.dst;exact hgf.own hu
   refine h6 g q y hg ?_;rcases AC g f with hlt|hge
   ·exact QdH hcl ho hedge ((QdV htmp ho hgf.op hqn hgf.dst hne).1 hlt) hne
   ·exact absurd hqn (hgf.before f o (by omega) ho)
  ·rw[<-hqs q hqq]
   rcases h4 q (fun g y hg=>hfx ⟨g,y,hg⟩) with⟨i',o',k1,k2,k3,k4,k5⟩|⟨_,k5⟩
   ·rcases hlget i' o' k2 with⟨rfl,_⟩|⟨g1,g2⟩
    ·cases k3
    ·have:=hqq _ _ g1 g2 k3;omega
   ·exact k5
 ·cases hd:o.dst<;>exact h2
 ·cases hd:o.dst
  ·exact h3
  ·simp only[B3,AY];exact h3
 ·by_cases hgf:g=f
  ·subst hgf
   obtain⟨_,p,hgf,hglk,_⟩:=hX.ok g u y hg;have:=hgf.op;rw[ho] at this;obtain rfl:=A1 this;have hu:=hgf.dst;rw[hf.dst] at hu;obtain rfl:=A1 hu;have hxy:x=y:=hlk.symm.trans hglk;subst hxy;rw[hf.dst,put_same h3 (by rw[hns];exact hf.lt)];exact hR
  ·have hFg:F g=true:=by
    rcases AB.1 hF with hF|hF
    ·exact hF
    ·exact absurd (of_decide_eq_true hF) hgf
   obtain⟨_,p,hgs,_⟩:=hX.ok g u y hg;rw[put_other fun e=>hgs.sole f o (fun e=>hgf e.symm) ho e];exact(h6 g u y hg hFg).mono hev
 ·have hd:o.dst≠some u:=fun e=>by
   rw[hf.dst] at e;obtain rfl:=A1 e;exact hnf f x hm
  rw[put_other hd];rcases h4 u hnf with⟨i',o',k1,k2,k3,k4,k5⟩|⟨k1,k5⟩
  ·exact .inl ⟨i',o',k1,k2,k3,k4,k5.mono hev⟩
  ·exact .inr ⟨k1,k5.mono hev⟩
def planF_chain{Q:St->Prop}: ∀(ms:List Nat) (off:Nat) (s:St),PlanF P ops fl fa ts Q ms off s->
 ∃st xv nb,Chain P ops.toArray (segE ops fl off ms) st xv nb/\st 0=s/\PlanEndF P ops fl fa ts Q off ms (st (segE ops fl off ms).length)/\ ∀k,memN fl (off+k)=true->nb k=none
 |[],off,s,h=>ADraw.chainF fl ops.length (ops.drop off) off s h.2
 |m::ms,off,s,⟨_,h1,h2,o,ho,h⟩=>by
  obtain⟨st,xv,nb,hc,h0,hK,hn⟩:=ADraw.chainF fl m (ops.drop off) off s h;exact⟨st,xv,nb,hc,h0,⟨A5 h1,h2,o,ho,hK⟩,hn⟩
theorem segE_get{off:Nat}{ms:List Nat}{j:Nat}{o:A4}(h:(segE ops fl off ms)[j]? =some o):(o=dum/\memN fl (off+j)=true)∨(ops[off+j]? =some o/\memN fl (off+j)=false):=by
 cases ms with
 |nil=>
  rcases QjX fl _ _ _ _ _ h with⟨h1,h2⟩|⟨h1,h2⟩
  ·grind
  grind
 |cons m ms=>
  rcases QjX fl _ _ _ _ _ h with⟨h1,h2⟩|⟨h1,h2⟩
  ·grind
  grind
end
theorem Qkd: ∀{h:Nat} {Cs:List (Nat×Blk)},∀q∈mkFa h Cs,∃i,Cs[i]? =some (q.1,q.2.2)/\q.2.1=h+i
 |_,[],q,hq=>by simp[mkFa] at hq
 |h,(f,C)::r,q,hq=>by
  rcases AX.1 hq with rfl|hq
  ·grind
  ·obtain⟨i,h1,h2⟩:=Qkd q hq
   exact⟨i+1,by grind,by omega⟩
theorem Qn0: ∀{h:Nat} {Cs:List (Nat×Blk)} {i:Nat},i<Cs.length-> ∃q∈mkFa h Cs,q.2.1=h+i
 |_,[],i,hi=>by simp at hi
 |h,(f,C)::r,0,_=>⟨(f,h,C),Aa,rfl⟩
 |h,(f,C)::r,i+1,hi=>by
  obtain⟨q,h1,h2⟩:=Qn0 (h:=h+1) (Cs:=r) (i:=i) (by grind);exact⟨q,AQ _ h1,by omega⟩
theorem Qqu(H:List Blk)(Cs kp:List (Nat×Blk)):maskP (opn ⟨mkFa H.length Cs,kp⟩ fun _=>false) (H++Cs.map (·.2))=H++Ad Cs.length Blk.none:=AO fun k=>by
 rw[Qd7]
 by_cases hk:k<H.length
 ·have:opn ⟨mkFa H.length Cs,kp⟩ (fun _=>false) k=false:=by
   cases h:opn ⟨mkFa H.length Cs,kp⟩ (fun _=>false) k with
   |false=>rfl
   |true=>
    obtain⟨q,h1,h2,_⟩:=QdY.1 h
    grind [Qkd]
  grind
 ·rw[AE (by omega),AE (by omega),B1,List.getElem?_replicate]
  by_cases hl:k -H.length<Cs.length
  ·obtain⟨q,h1,h2⟩:=Qn0 (h:=H.length) hl
   have:opn ⟨mkFa H.length Cs,kp⟩ (fun _=>false) k=true:=QdY.2 ⟨q,h1,by omega,rfl⟩
   grind
  grind
theorem QpO{B:Bs}{σ:Sg}{S:Nat->Prop}{H:List Blk}{w:Ab}(n:Nat)(h:Sm B σ S H w): ∃σ',Sm B σ' S (H++Ad n Blk.none) w/\Ev σ S H w σ' S (H++Ad n Blk.none) w:=by
 induction n with
 |zero=>grind [Ev.refl]
 |succ n ih=>
  obtain⟨σ',h1,h2⟩:=ih;obtain⟨h3,h4⟩:=h1.keepPlace;rw[List.append_assoc,<-List.replicate_succ'] at h3 h4;exact⟨_,h3,h2.trans h4⟩
theorem Qoi{m:Nat}{ms:List Nat}(h:ascN (m::ms)=true):(∀g∈ms,m<g)/\ascN ms=true:=by
 simp only[ascN,Af,AJ] at h
 simp_all
def PlanF.kps{P:A3}{ops:List A4}{fl:List Nat}{fa:Fas}{ts:Tl}{Q:St->Prop}: ∀{ms:List Nat} {off:Nat} {s:St},PlanF P ops fl fa ts Q ms off s->pend ops fl off=true->KPs fa.kp s.H
 |[],_,_,h=>h.1
 |_::_,_,_,h=>h.1
theorem awp_drawF0(fl ms:List Nat)(Cs kp:List (Nat×Blk))(ts:Tl){P:A3}{id:Nat}{ops:List A4}{Q:BA->St->Prop}{s:St}(hm:P.follows .mixedOrders=true)(hok:drawOk ops.toArray=true)(hgok:ops.all (gdOk ops.toArray s.n)=true)
 (hfo:Qgb ops fl (ts.map (·.1)) s.n=true) (hg0: ∀t∈ts,(∃o:A4,ops[t.1]? =some o/\o.dst=some t.2.1)/\memN fl t.1=false/\t.1∈ms/\ascN ms=true) (hgv: ∀t∈ts,look (ts.map (·.2)++s.env) t.2.1=t.2.2) (hcs:Cs.all (fun q=>memN fl q.1)=true) (hnd:(Cs.map (·.1)).Nodup) (hkp:KPs kp s.H) (h:Flts P ops ⟨mkFa s.H.length Cs,kp⟩ (fun env=>PlanF P ops fl ⟨mkFa s.H.length Cs,kp⟩ ts (Q .normal) ms 0 ⟨s.n,ungs ts env,s.H++Cs.map (·.2)⟩) fl (ts.map (·.2)++s.env)):AWP P (.region id ops.toArray true) Q s:=by
 intro B hB σ S a w hA;have hfa:=Qkd (h:=s.H.length) (Cs:=Cs);have emask:=Qqu s.H Cs kp;obtain⟨fa,hfe⟩: ∃fa:Fas,fa=⟨mkFa s.H.length Cs,kp⟩:=⟨_,rfl⟩;rw[<-hfe] at h emask;rw[show mkFa s.H.length Cs=fa.l by rw[hfe]] at hfa
 have hkd: ∀q∈fa.l,∀p∈fa.kp,q.2.1≠p.1:=fun q hq p hp=>by
  obtain⟨i,_,h2⟩:=hfa q hq;have:=(A0.1 (hkp p (by grind))).1;omega
 clear hfe
 have hfm: ∀q∈fa.l,memN fl q.1=true:=fun q hq=>by
  grind
 have hct0: ∀q∈fa.l,(s.H++Cs.map (·.2))[q.2.1]? =some q.2.2:=fun q hq=>by
  grind
 have huq: ∀q∈fa.l,∀q'∈fa.l,(q'.1=q.1↔q'.2.1=q.2.1):=fun q hq q' hq'=>by
  obtain⟨i,h1,h2⟩:=hfa q hq;obtain⟨j,h3,h4⟩:=hfa q' hq';have g1:(Cs.map (·.1))[i]? =some q.1:=by grind
  have g2:(Cs.map (·.1))[j]? =some q'.1:=by grind
  constructor
  ·intro e
   rw[e,<-g1] at g2;have:=(List.getElem?_inj (A0.1 g1).1 hnd).1 g2.symm;omega
  grind
 have hno: ∀(E:Nat->Bool) (i:Nat),memN fl i=false->opn fa (fun j=>E j||decide (j=i))=opn fa E:=fun E i hi=>Qlj fun q hq e=>by
  grind
 obtain⟨hback,htmp⟩:backB ops.toArray=true/\tmpOk ops=true:=by simpa[drawOk] using hok
 have hgd: ∀(n:Nat),n=s.n-> ∀(i:Nat) (o:A4) (j:Nat) (want:Bool),ops[i]? =some o->o.guard=some (j,want)-> ∀p,ops[j]? =some p-> ∀d,p.dst=some d->AA d n=true:=fun n hn i o j want ho hg p hp d hd=>by
  have h1:=AJ.1 hgok o (List.mem_of_getElem? ho);have:=QeH h1 j want d hg (by grind)
  simp_all
 obtain⟨⟨hasc,hfl⟩,hflb⟩:(ascN fl=true/\ ∀f∈fl,float1 ops (ts.map (·.1)++fl) s.n f=true)/\ ∀f∈fl,float1 ops ((ts.map (·.1)).filter (fun m=>AA m f)++fl) s.n f=true:=by
  unfold Qgb at hfo
  grind
 obtain⟨envF,fx,hplan,hfx,hall,hq⟩:=flts_build (fl:=ts.map (·.1)++fl) (n:=s.n) fl (ts.map (·.2)++s.env) h hfl hasc
 have hgq: ∀t∈ts,look envF t.2.1=t.2.2:=fun t ht=>by
  rw[hq t.2.1 fun f hf o ho e=>?_]
  ·grind
  ·obtain⟨p',u,hfs⟩:=Qel (hfl f hf)
   have:=hfs.op;rw[ho] at this;obtain rfl:=A1 this;have hu:=hfs.dst;rw[e] at hu;obtain rfl:=A1 hu;obtain⟨⟨o0,h1,h2⟩,h3,_⟩:=hg0 t ht;exact hfs.sole t.1 o0 (fun e=>by rw[e,Qd5.2 hf] at h3;cases h3) h1 h2
 have hX:Fx P ops fl ts fa s.n envF fx:=⟨fun f t x hm=>by obtain⟨h1,h2⟩:=hfx f t x hm;exact⟨Qd5.2 h1,h2⟩,fun f hf=>hall f (Qd5.1 hf)⟩
 have hqfx: ∀f t x,(f,t,x)∈fx->Quiet ops fl t:=fun f t x hm j p hp hj e=>by
  obtain⟨h5,p',hf,_⟩:=hX.ok f t x hm;exact hf.sole j p (fun e=>by subst e;rw[hj] at h5;cases h5) hp e
 refine QjS hm hback (fun E a w=> ∃ms off s1 st xv nb,s1.n=s.n/\Chain P ops.toArray (segE ops fl off ms) st xv nb/\st 0=s1/\PlanEndF P ops fl fa ts (Q .normal) off ms (st (segE ops fl off ms).length)/\(∀k,memN fl (off+k)=true->nb k=none)/\
  ((∀t,QuietO ops fl ts off t->look s1.env t=look envF t)/\ ∀t∈ts,t.1<off∨(t.1∈ms/\ascN ms=true))/\(∀q∈fa.l,E q.1=false->s1.H[q.2.1]? =some q.2.2)/\((∃f∈fl,E f=false)->KPs fa.kp s1.H)/\
  (∀j,j<off->memN fl j=false->E j=true)/\(∀j,off+(segE ops fl off ms).length<=j->memN fl j=false->E j=false)/\PhF fa fx B E (segE ops fl off ms) s1 xv nb (fun j=>E (off+j)||memN fl (off+j)) a w) ?h0 ?hop ?hend
 case h0=>
  obtain⟨st,xv,nb,hc,h0,hK,hn⟩:=planF_chain ms 0 _ hplan;obtain⟨h3,h4⟩:=hA.sm.sameHeap (w':={w with drawn:=w.drawn+1}) rfl rfl rfl rfl;obtain⟨σ',p1,p2⟩:=QpO Cs.length h3;rw[<-emask] at p1 p2;have hlt0: ∀q∈fa.l,q.2.1<(s.H++Cs.map (·.2)).length:=fun q hq=>(A0.1 (hct0 q hq)).1
  refine⟨ms,0,⟨s.n,ungs ts envF,s.H++Cs.map (·.2)⟩,st,xv,nb,rfl,hc,h0,hK,hn,⟨fun t ht=>?_,fun t ht=> .inr (hg0 t ht).2.2⟩,fun q hq _=>hct0 q hq,fun _=>hplan.kps rfl,fun j hj=>by omega,fun j _ _=>rfl,PhF.start (σ:=σ') (S:=S) ⟨p1,hA.defers,hA.size,fun f t x _ hF=>absurd hF (by simp),fun t ht=>?_⟩ (fun k hk=>by obtain⟨q,h1,h2,_⟩:=QdY.1 hk;grind) fun j o ho hE=>?_⟩
  ·show look (ungs ts envF) t=look envF t
   by_cases htq: ∃r∈ts,r.2.1=t
   ·obtain⟨r,hr,rfl⟩:=htq
    obtain⟨⟨o0,h1,h2⟩,h3,_⟩:=hg0 r hr;have:=(ht _ _ h1 h3 h2).2;omega
   ·exact Qp9 fun r hr e=>htq ⟨r,hr,e⟩
  ·show Rel _ _ _ _ (look (ungs ts envF) t) _
   by_cases htq: ∃r∈ts,r.2.1=t
   ·rw[Qp8 htq];exact .d _ _ (.any _)
   have htq': ∀r∈ts,r.2.1≠t:=fun r hr e=>htq ⟨r,hr,e⟩
   rw[Qp9 htq']
   have:look envF t=look (ts.map (·.2)++s.env) t:=hq t fun f hf o ho e=>by
    obtain⟨u,x,hm⟩:=hall f hf;obtain⟨_,o',hfs,_⟩:=hfx f u x hm;have:=hfs.op;rw[ho] at this;obtain rfl:=A1 this;have hu:=hfs.dst
    grind
   rw[this,Qqz htq'];exact(hA.env t).mono (h4.trans p2)
  ·simp only[Bool.false_or] at hE
   rcases segE_get ho with⟨rfl,_⟩|⟨_,h2⟩
   ·exact⟨rfl,hn j hE⟩
   grind
 case hop=>
  intro E i o ho a w hJ hEi hnone hcl hedge K hKK;have ho':ops[i]? =some o:=by grind
  have hilo:i<ops.length:=(A0.1 ho').1;have hcl':Closed ops E:=fun j o' hj hoj=>hcl j o' hj (by grind)
  obtain⟨ms,off,s1,st,xv,nb,hn1,hc,h0,hK,hnn,hqs,hct,hlt,hlo,hhi,hPh⟩:=hJ;have hlow: ∀k,opn fa E k=true->k<s1.H.length:=fun k hk=>by obtain⟨q,h1,h2,h3⟩:=QdY.1 hk;grind
  have hltm: ∀i,(∃f∈fl,(E f||decide (f=i))=false)->KPs fa.kp s1.H:=fun i ⟨f,h1,h2⟩=>hlt ⟨f,h1,(AR.1 h2).1⟩
  have hct': ∀i,∀q∈fa.l,(E q.1||decide (q.1=i))=false->s1.H[q.2.1]? =some q.2.2:=fun i q hq he=>hct q hq (AR.1 he).1
  have hmi: ∀t∈ts,memN fl t.1=false->E t.1=true->t.1<off:=fun t ht hm hE=>by
   rcases hqs.2 t ht with h|⟨hmem,hasc⟩
   ·exact h
   ·exfalso
    cases ms with
    |nil=>cases hmem
    |cons m ms'=>
     have hmm:m<=t.1:=by
      rcases AX.1 hmem with e|e
      ·omega
      ·have:=(Qoi hasc).1 _ e;omega
     have hlen:=QfT fl m (ops.drop off) off;have h1:off<=m:=hK.1
     have h2:m<ops.length:=by
      grind
     simp only[AK] at hlen;have:=hhi t.1 (by show off+(segD fl m off (ops.drop off)).length<=t.1;omega) hm
     grind
  cases hfi:memN fl i with
  |true=>
   have hqo: ∀o,ops[i]? =some o-> ∀q,AP q∈o.op.operands->QuietO ops fl ts off q:=fun o2 ho2 q hq2 j p hp hj hd=>by
    obtain⟨o3,t3,hf3⟩:=Qel (hfl i (Qd5.1 hfi));have:=hf3.op;rw[ho2] at this;obtain rfl:=A1 this
    obtain⟨g,hg,rfl⟩: ∃t∈ts,j=t.1:=by
     refine Decidable.byContradiction fun hne=>hf3.quiet q hq2 j p hp ?_ hd
     cases hb:memN (ts.map (·.1)++fl) j with
     |false=>rfl
     |true=>
      rcases As.1 (Qd5.1 hb) with h|h
      ·grind
      ·rw[Qd5.2 h] at hj;cases hj
    have hji:g.1<i:=by
     obtain⟨o4,t4,hf4⟩:=Qel (hflb i (Qd5.1 hfi));have:=hf4.op;rw[ho2] at this;obtain rfl:=A1 this;cases hb:memN ((ts.map (·.1)).filter (fun m=>AA m i)++fl) g.1 with
     |false=>exact absurd hd (hf4.quiet q hq2 g.1 p hp hb)
     |true=>
      rcases As.1 (Qd5.1 hb) with h|h
      ·exact A5 (B6.1 h).2
      ·rw[Qd5.2 h] at hj;cases hj
    rw[ho'] at ho2;obtain rfl:=A1 ho2;have hqn:q∈names ops o:=A9 _ (A8 _ (Qhj hq2));have hE:=QdH hcl' ho' hedge ((QdV htmp ho' hp hqn hd (by omega)).1 hji) (by omega)
    grind
   cases hka:kof fa i with
   |none=>
    refine PhF.float (off:=off) hB hX htmp hn1 (fun j o h=>segE_get h) hqs.1 hqo ho' hfi hka (hlt ⟨i,Qd5.1 hfi,hEi⟩) hkd hcl' hedge hPh fun a' w' hP'=>hKK a' w' ⟨ms,off,s1,st,xv,nb,hn1,hc,h0,hK,hnn,hqs,hct' i,hltm i,fun j hj hm=>by show(E j||_)=true;rw[hlo j hj hm];rfl,fun j hj hm=>?_,?_⟩
    ·show(E j||_)=false
     rw[hhi j hj hm];exact decide_eq_false (fun e=>by subst e;rw[hfi] at hm;cases hm)
    ·have e:(fun j=>(E (off+j)||decide (off+j=i))||memN fl (off+j))=fun j=>E (off+j)||memN fl (off+j):=funext fun j=>by
      by_cases h:off+j=i
      ·rw[h,hfi];simp
      ·simp[h]
     show PhF fa fx B (fun j=>E j||decide (j=i)) (segE ops fl off ms) s1 xv nb (fun j=>(E (off+j)||decide (off+j=i))||memN fl (off+j)) a' w';rw[e];exact hP'
   |some kc=>
    obtain⟨κ,C⟩:=kc;refine PhF.alloc (off:=off) hB hX htmp hn1 (fun j o h=>segE_get h) hqs.1 hqo ho' hfi hka (huq _ (Qkj hka)) hEi (hct _ (Qkj hka) hEi) hcl' hedge hPh fun a' w' hP'=>hKK a' w' ⟨ms,off,s1,st,xv,nb,hn1,hc,h0,hK,hnn,hqs,hct' i,hltm i,fun j hj hm=>by show(E j||_)=true;rw[hlo j hj hm];rfl,fun j hj hm=>?_,?_⟩
    ·show(E j||_)=false
     rw[hhi j hj hm];exact decide_eq_false (fun e=>by subst e;rw[hfi] at hm;cases hm)
    ·have e:(fun j=>(E (off+j)||decide (off+j=i))||memN fl (off+j))=fun j=>E (off+j)||memN fl (off+j):=funext fun j=>by
      by_cases h:off+j=i
      ·rw[h,hfi];simp
      ·simp[h]
     show PhF fa fx B (fun j=>E j||decide (j=i)) (segE ops fl off ms) s1 xv nb (fun j=>(E (off+j)||decide (off+j=i))||memN fl (off+j)) a' w';rw[e];exact hP'
  |false=>
  have hoi:off<=i:=by
   grind
  obtain⟨k,rfl⟩: ∃k,i=off+k:=⟨i -off,by omega⟩
  by_cases hk:k<(segE ops fl off ms).length
  ·have hol:(segE ops fl off ms)[k]? =some o:=by
    rcases segE_get (Ak hk) with⟨_,h2⟩|⟨h1,_⟩
    ·grind
    grind
   refine PhF.step (fl:=fl) (n:=s.n) (envF:=envF) hB hX htmp (hgd s1.n hn1) hc h0 (fun j o h=>segE_get h) hqs.1 (fun j h=>by simp[h]) hk ho' hfi hol hcl' hedge hEi hlow hPh fun a' w' hP'=>?_
   have e:(fun j=>(E (off+j)||decide (off+j=off+k))||memN fl (off+j))=fun j=>(E (off+j)||memN fl (off+j))||decide (j=k):=funext fun j=>by
    grind
   refine hKK a' w' ⟨ms,off,s1,st,xv,nb,hn1,hc,h0,hK,hnn,hqs,hct' _,hltm _,fun j hj hm=>by grind,fun j hj hm=>?_,?_⟩
   ·grind
   ·show PhF fa fx B (fun j=>E j||decide (j=off+k)) (segE ops fl off ms) s1 xv nb (fun j=>(E (off+j)||decide (off+j=off+k))||memN fl (off+j)) a' w'
    rw[e];obtain⟨σ1,S1,g1,g2,g3,g4,g5⟩:=hP';refine PhF.of (M:=maskP (opn fa E) _) (by grind) ⟨σ1,S1,g1,g2,g3,fun f t x hm hF=>g4 f t x hm ?_,g5⟩;rcases AB.1 hF with hF|hF
    ·exact hF
    ·have e1:=of_decide_eq_true hF
     have:=(hX.ok f t x hm).1
     grind
  ·cases ms with
   |nil=>
    have hlen:=QfT fl ops.length (ops.drop off) off;simp only[segE,AK] at hk hlen;omega
   |cons m ms=>
    obtain⟨hom,hbar,om,hom2,R,heff,hwt,hdst,hgdo,hplan⟩:=hK;obtain⟨hmf,hb1,hb2⟩:=QiQ hbar;have hmlt:m<ops.length:=(A0.1 hom2).1
    have hlen:(segE ops fl off (m::ms)).length=m -off:=by
     have:=QfT fl m (ops.drop off) off;simp only[segE,AK] at this⊢;omega
    have him:off+k=m:=by
     rcases AC m (off+k) with h|h
     ·have:=QdH hcl' ho' hedge (hb2 _ hilo h hfi) (by omega)
      grind
     ·omega
    rw[him] at ho' hEi ho hKK⊢;rw[hom2] at ho';obtain rfl:=A1 ho';have hall: ∀j,j<m->memN fl j=false->E j=true:=fun j hj hjf=>QdH hcl' hom2 hedge (hb1 j hj hjf) (by omega)
    obtain⟨σ1,S1,g1,g2,g3,g4,g5⟩:=PhF.done hc h0 hPh fun j hj=>by
     grind
    have hn2:(st (segE ops fl off (m::ms)).length).n=s.n:=by rw[hc.n _ (AD _),h0,hn1]
    have hqs2: ∀t,QuietO ops fl ts off t->look (st (segE ops fl off (m::ms)).length).env t=look envF t:=fun t ht=>by
     rcases hc.slot _ (AD _) t with⟨j,p,k1,k2,k3,k4,k5⟩|⟨k1,k2⟩
     ·rcases segE_get k2 with⟨rfl,_⟩|⟨k6,k7⟩
      ·cases k3
      ·have:=ht _ _ k6 k7 k3;omega
     grind
    have hslot: ∀t,t∈names ops om->Rel σ1 S1 (maskP (opn fa E) (st (segE ops fl off (m::ms)).length).H) w (look (st (segE ops fl off (m::ms)).length).env t) (a.tmps.getD t undef):=fun t ht=>by
     by_cases hfx: ∃f x,(f,t,x)∈fx
     ·obtain⟨f,x,hm⟩:=hfx
      have hFf:=slot_fx hX htmp hom2 hmf hcl' hedge ht hm;obtain⟨_,p,hf,hlk,_⟩:=hX.ok f t x hm;rw[hqs2 t (.of (hqfx f t x hm)),hlk]
      grind
     ·exact g5 t fun f x hm=>hfx ⟨f,x,hm⟩
    unfold wpOp;rw[ho];simp only;rw[if_pos ?hwant]
    case hwant=>
     refine Qhy (σ:=σ1) (S:=S1) (H:=maskP (opn fa E) (st (segE ops fl off (m::ms)).length).H) (w:=w) hwt fun j want d hg hd=>⟨?_,hslot d ?_⟩
     ·rw[g3];exact QeH hgdo j want d hg hd
     ·unfold names
      grind
    have hpnd: ∀f∈fl,E f=false->(!((befs ops []).getD m 0).testBit f)=true:=fun f h1 h3=>by
     cases hb:((befs ops []).getD m 0).testBit f with
     |false=>rfl
     |true=>
      have:=QdH hcl' hom2 hedge hb (fun e=>by have:=Qd5.2 h1;grind)
      grind
    have hkap: ∀k,opn fa E k=true->k∈kap ops fa m:=fun k hk=>by
     obtain⟨q,h1,h2,h3⟩:=QdY.1 hk;refine List.mem_map.2 ⟨q,B6.2 ⟨h1,?_⟩,h2⟩;cases hb:((befs ops []).getD m 0).testBit q.1 with
     |false=>rfl
     |true=>
      have:=QdH hcl' hom2 hedge hb (fun e=>by grind)
      grind
    refine .inl (heff (opn fa E) hkap B σ1 S1 a w hB g1 (fun u hu=>Qeg fun t ht=>hslot t ?_) K _ fun x K' hxR' v w' σ' S' hS hR hev=>?_)
    ·subst ht
     unfold names;refine A9 _ (A8 _ ?_);exact Ah.2 ⟨.tmp t,Ag.2 hu,rfl⟩
    obtain⟨H',hxR,rfl,hKc⟩:=hxR';have hstl:(st (segE ops fl off (m::ms)).length).H=s1.H++(B0 (segE ops fl off (m::ms)).length).flatMap fun j=>(nb j).toList:=by rw[hc.heap _ (AD _),h0]
    have hct2: ∀q∈fa.l,(E q.1||decide (q.1=m))=false->H'[q.2.1]? =some q.2.2:=fun q hq he=>by
     have he:=(AR.1 he).1;rw[hKc _ (QdY.2 ⟨q,hq,rfl,he⟩),hstl,AF (A0.1 (hct q hq he)).1]
     grind
    have hmk2:=hno E m hmf;obtain⟨st2,xv2,nb2,hc2,h02,hK2,hnn2⟩:=planF_chain ms (m+1) _ (hplan x H' hxR).2
    have hA2:SmF fa fx B (fun j=>E j||decide (j=m)) σ' S' ⟨(st (segE ops fl off (m::ms)).length).n,putE (st (segE ops fl off (m::ms)).length).env om.dst x,H'⟩ (a.put om.dst v) w':=by
     unfold SmF;rw[hmk2];refine⟨hS,?_,?_,fun f t y hm hF=>?_,fun t hnf=>?_⟩
     ·cases hd:om.dst<;>exact g2
     ·cases hd:om.dst
      ·exact g3
      ·simp only[B3,AY];exact g3
     ·have hEf:E f=true:=by
       rcases AB.1 hF with hF|hF
       ·exact hF
       ·have e1:=of_decide_eq_true hF
        have:=(hX.ok f t y hm).1
        grind
      rw[put_other fun e=>hqfx f t y hm _ _ hom2 hmf e];exact(g4 f t y hm hEf).mono hev
     ·show Rel _ _ _ _ (look (putE _ om.dst x) t) _
      by_cases hd:om.dst=some t
      ·rw[hd] at hdst⊢
       rw[put_same g3 (by simpa[dstOk] using hdst)];show Rel _ _ _ _ (look ((t,x)::_) t) _;rw[Qdl];exact hR
      ·rw[put_other hd]
       have:look (putE (st (segE ops fl off (m::ms)).length).env om.dst x) t=look (st (segE ops fl off (m::ms)).length).env t:=by
        cases hd':om.dst with
        |none=>rfl
        |some d=>exact Qdr (fun e=>hd (by rw[hd',e])) _ _
       rw[this];exact(g5 t hnf).mono hev
    refine hKK _ _ ⟨ms,m+1,(⟨(st (segE ops fl off (m::ms)).length).n,putE (st (segE ops fl off (m::ms)).length).env om.dst x,H'⟩:St),st2,xv2,nb2,hn2,hc2,h02,hK2,hnn2,⟨fun t ht=>?_,fun g hg=>?_⟩,hct2,fun⟨f,hf1,hf2⟩=>(hplan x H' hxR).2.kps (List.any_eq_true.2 ⟨f,hf1,hpnd f hf1 (AR.1 hf2).1⟩),fun j hj hjf=>?_,fun j hj hjf=>?_,PhF.start hA2 (fun k hk=>by obtain⟨q,h1,h2,h3⟩:=QdY.1 hk;grind) fun j o hj hE=>?_⟩
    ·show look (putE _ om.dst x) t=_
     by_cases hd':om.dst=some t
     ·obtain⟨⟨g,hg,hmm⟩,_⟩:=ht _ _ hom2 hmf hd'
      have hgs:=(hplan x H' hxR).1.get g hg hmm;obtain⟨⟨o0,h1,h2⟩,_⟩:=hg0 g hg
      grind
     ·have hto:QuietO ops fl ts off t:=fun j p hp hj hd=>by
       obtain⟨⟨g,hg,rfl⟩,h2⟩:=ht j p hp hj hd;refine⟨⟨g,hg,rfl⟩,?_⟩
       grind
      rw[<-hqs2 t hto];cases hd2:om.dst with
      |none=>rfl
      |some d=>exact Qdr (fun e=>hd' (by rw[hd2,e])) _ _
    ·rcases hqs.2 g hg with h|⟨hmem,hasc⟩
     ·omega
     ·rcases AX.1 hmem with e|e
      ·omega
      ·exact .inr ⟨e,(Qoi hasc).2⟩
    ·grind
    ·show(E j||_)=false;rw[hhi j (by omega) hjf];grind
    ·rcases segE_get hj with⟨rfl,h2⟩|⟨_,h2⟩
     ·exact⟨rfl,hnn2 j h2⟩
     grind
 case hend=>
  rintro E a w ⟨ms,off,s1,st,xv,nb,hn1,hc,h0,hK,hnn,hqs,hct,hlt,hlo,hhi,hPh⟩ hall hnone;have hall': ∀i,i<ops.length->E i=true:=fun i hi=>hall i (by omega)
  cases ms with
  |nil=>
   obtain⟨σ1,S1,g1,g2,g3,g4,g5⟩:=PhF.done hc h0 hPh fun j hj=>by
    have hlen:=QfT fl ops.length (ops.drop off) off;simp only[segE,AK] at hj hlen
    grind
   have hop: ∀k,opn fa E k=false:=fun k=>by
    cases hk:opn fa E k with
    |false=>rfl
    |true=>
     obtain⟨q,h1,_,h3⟩:=QdY.1 hk;obtain⟨o,t,hf⟩:=Qel (hfl q.1 (Qd5.1 (hfm q h1)));rw[hall' q.1 (A0.1 hf.op).1] at h3;cases h3
   simp only[maskP_no hop] at g1 g4 g5;refine⟨_,σ1,S1,hK,g1,g2,g3,fun t=>?_⟩
   by_cases hfx: ∃f x,(f,t,x)∈fx
   ·obtain⟨f,x,hm⟩:=hfx
    obtain⟨_,p,hf,hlk,_⟩:=hX.ok f t x hm
    have:look (st (segE ops fl off []).length).env t=x:=by
     rw[<-hlk,<-hqs.1 t (.of (hqfx f t x hm))];rcases hc.slot _ (AD _) t with⟨j,p',k1,k2,k3,k4,k5⟩|⟨k1,k2⟩
     ·rcases segE_get k2 with⟨rfl,_⟩|⟨k6,k7⟩
      ·cases k3
      ·exact absurd k3 (hqfx f t x hm _ _ k6 k7)
     grind
    rw[this];exact g4 f t x hm (hall' f (A0.1 hf.op).1)
   grind
  |cons m ms=>
   obtain⟨hom,hbar,om,hom2,_⟩:=hK;have hmlt:m<ops.length:=(A0.1 hom2).1
   have hlen:(segE ops fl off (m::ms)).length=m -off:=by
    have:=QfT fl m (ops.drop off) off;simp only[segE,AK] at this⊢;omega
   have h1:=hall' m hmlt;rw[hhi m (by omega) (QiQ hbar).1] at h1;cases h1
end Fk
end Aw
end
section
open Go.RowKit
namespace Aw
namespace Fg
def Flts(P:A3)(ops:List A4)(K:List (Nat×AV)->Prop):List Nat->List (Nat×AV)->Prop
 |[],env=>K env
 |f::r,env=> ∃o x,ops[f]? =some o/\(∀H,Loc P o env H x none)/\Flts P ops K r (putE env o.dst x)
def PlanF(P:A3)(ops:List A4)(fl:List Nat)(Q:St->Prop):List Nat->Nat->St->Prop
 |[],off,s=>ADraw P ops.toArray Q (segF fl ops.length off (ops.drop off)) s
 |m::ms,off,s=>AN off m=true/\barOkF ops fl m=true/\ ∃o,ops[m]? =some o/\ADraw P ops.toArray (AStep P ops.toArray o (PlanF P ops fl Q ms (m+1))) (segF fl m off (ops.drop off)) s
def QjN{P:A3}{ops:Array A4}{K K':St->Prop}(h: ∀s,K s->K' s): ∀(l:List A4) (s:St),ADraw P ops K l s->ADraw P ops K' l s
 |[],s,hk=>h s hk
 |o::l,s,⟨a,b,hs,hk⟩=>⟨a,b,hs,QjN h l _ hk⟩
def QtW{P:A3}{ops:List A4}{K K':List (Nat×AV)->Prop}(hK: ∀env,K env->K' env): ∀(r:List Nat) (env:List (Nat×AV)),Flts P ops K r env->Fk.Flts P ops ⟨[],[]⟩ K' r env
 |[],env,h=>hK env h
 |_::r,_,⟨o,x,ho,hl,hk⟩=>⟨o,x,ho,fun H _=>hl H,QtW hK r _ hk⟩
theorem QrV{P:A3}{ops:Array A4}{o:A4}{K K':St->Prop}{s:St}(hk: ∀s,K s->K' s)(h:AStep P ops o K s):Fk.AStepM P ops o [] K' s:=by
 obtain⟨R,h1,h2,h3,h4,h5⟩:=h;refine⟨R,fun p hp=>?_,h2,h3,h4,fun x H' hx=>hk _ (h5 x H' hx)⟩
 simp_all[Fk.maskP_no]
def Qqd{P:A3}{ops:List A4}{fl:List Nat}{Q:St->Prop}: ∀(ms:List Nat) (off:Nat) (s:St),PlanF P ops fl Q ms off s->Fk.PlanF P ops fl ⟨[],[]⟩ [] Q ms off s
 |[],_,_,h=>⟨fun _ q hq=>(by cases hq),h⟩
 |m::ms,off,s,⟨h1,h2,o,ho,h⟩=>⟨fun _ q hq=>(by cases hq),h1,h2,o,ho,QjN (fun _ hs=>QrV (fun s' hs'=>⟨trivial,Qqd ms (m+1) s' hs'⟩) hs) _ _ h⟩
def awp_drawF0(fl ms:List Nat){P:A3}{id:Nat}{ops:List A4}{Q:BA->St->Prop}{s:St}(hm:P.follows .mixedOrders=true)(hok:drawOk ops.toArray=true)(hgok:ops.all (gdOk ops.toArray s.n)=true)
 (hfo:floatOk ops fl s.n=true) (h:Flts P ops (fun env=>PlanF P ops fl (Q .normal) ms 0 ⟨s.n,env,s.H⟩) fl s.env):AWP P (.region id ops.toArray true) Q s:=by
 have e:s.H++([]:List (Nat×Blk)).map (·.2)=s.H:=List.append_nil _;refine Fk.awp_drawF0 fl ms [] [] [] hm hok hgok ?_ (fun t ht=>by cases ht) (fun t ht=>by cases ht) rfl List.nodup_nil (fun q hq=>by cases hq) (QtW (fun env hp=>?_) fl s.env h)
 ·show(ascN fl&&fl.all (float1 ops fl s.n)&&fl.all (float1 ops fl s.n))=true
  rw[show(ascN fl&&fl.all (float1 ops fl s.n))=true from hfo,Bool.true_and];exact(Bool.and_eq_true_iff.1 hfo).2
 ·show Fk.PlanF P ops fl ⟨[],[]⟩ [] (Q .normal) ms 0 ⟨s.n,env,s.H++([]:List (Nat×Blk)).map (·.2)⟩
  rw[e];exact Qqd ms 0 _ hp
def awp_drawF(fl ms:List Nat){P:A3}{id:Nat}{ops:List A4}{Q:BA->St->Prop}{n:Nat}{env:List (Nat×AV)}{H:List Blk}(h:Flts P ops (fun env=>PlanF P ops fl (Q .normal) ms 0 ⟨n,env,H⟩) fl env)(hm:P.follows .mixedOrders=true:=by exact follows_mixed)(hok:drawOk ops.toArray=true:=by kernel_rfl)(hgok:ops.all (gdOk ops.toArray n)=true:=by kernel_rfl)
 (hfo:floatOk ops fl n=true:=by kernel_rfl):AWP P (.region id ops.toArray true) Q ⟨n,env,H⟩:=awp_drawF0 fl ms hm hok hgok hfo h
section
variable{P:A3}{ops:List A4}{K:List (Nat×AV)->Prop}{f:Nat}{r:List Nat}{env:List (Nat×AV)}{d:BH}{op:Op}{ty:A7}{pos:String}{after:Array BF}{gd:Option (Nat×Bool)}{x:AV}
def aw_flt(ho:ops[f]? =some ⟨some d,op,ty,pos,after,gd⟩:=by rfl)(h: ∀H:List Blk,∀R:Option (AV×Option Blk)->Prop,R (some (x,none))->R (evOp P env H op):=by intro H R hR;simp only[go_sem,Nat.reduceEqDiff,Nat.reduceAdd,Nat.reduceLT,Nat.reduceLeDiff,↓reduceIte,reduceCtorEq];exact hR)
 (k:Flts P ops K r ((d,x)::env)):Flts P ops K (f::r) env:=⟨_,x,ho,fun H=>QiB (h H (fun q=>q=some (x,none)) rfl),k⟩
def aw_fltL(ho:ops[f]? =some ⟨some d,op,ty,pos,after,gd⟩:=by rfl)(hl: ∀H,Loc P ⟨some d,op,ty,pos,after,gd⟩ env H x none)(k:Flts P ops K r ((d,x)::env)):Flts P ops K (f::r) env:=⟨_,x,ho,hl,k⟩
def aw_fltN(k:K env):Flts P ops K [] env:=k
def aw_planFN{ops:List A4}{fl:List Nat}{Q:St->Prop}{off:Nat}{s:St}(h:ADraw P ops.toArray Q (segF fl ops.length off (ops.drop off)) s):PlanF P ops fl Q [] off s:=h
def aw_planFC{ops:List A4}{fl:List Nat}{Q:St->Prop}{off m:Nat}{ms:List Nat}{s:St}{o:A4}(h:ADraw P ops.toArray (AStep P ops.toArray o (PlanF P ops fl Q ms (m+1))) (segF fl m off (ops.drop off)) s)(h1:AN off m=true:=by rfl)(h2:barOkF ops fl m=true:=by kernel_rfl)(ho:ops[m]? =some o:=by rfl):PlanF P ops fl Q (m::ms) off s:=
 ⟨h1,h2,o,ho,h⟩
end
end Fg
def Qnp(n:Nat): ∀(l:List A4) (i:Nat),i+l.length=n->segF [] n i l=l
 |[],_,_=>rfl
 |o::l,i,h=>by
  simp only[Am] at h
  have hb:AN n i=false:=by
   cases hb:AN n i with
   |false=>rfl
   |true=>have:=A5 hb;omega
  unfold segF;rw[hb,Qnp n l (i+1) (by omega)];rfl
def QrS{P:A3}{id:Nat}{ops:List A4}{Q:BA->St->Prop}{s:St}(hm:P.follows .mixedOrders=true)(hok:drawOk ops.toArray=true)(hgok:ops.all (gdOk ops.toArray s.n)=true)
 (h:ADraw P ops.toArray (Q .normal) ops s):AWP P (.region id ops.toArray true) Q s:=
 Fg.awp_drawF0 [] [] hm hok hgok rfl (by
  show ADraw P ops.toArray (Q .normal) (segF [] ops.length 0 (ops.drop 0)) _
  rw[BB,Qnp _ ops 0 (by omega)];exact h)
def QgY{P:A3}{c:Code}{Q:BA->St->Prop}{s:St}(h:AWP P c (fun e s=> ∃s',Weak s s'/\Q e s') s):AWP P c Q s:=by
 intro B hB σ S a w hA;refine wp_mono (h B hB σ S a w hA) ?_;rintro e a w ⟨s',σ',S',⟨s'',hw,hq⟩,hA'⟩;obtain⟨σ2,S2,h2⟩:=hw B σ' S' a w hA';exact⟨s'',σ2,S2,hq,h2⟩
def Qg5(m:Nat){rs:List ResultVar}{x:AV}{H1:List Blk}{gl:List AV}{gvs:List Aj}{n:Nat}{env env':List (Nat×AV)}{H H':List Blk}(e:BA)(he:e= .normal∨e= .ret)(hk:keepE env [gslot]=env')(hH:H.take m=H')(h1:envLt m env'=true)(h2:H'.all (Blk.lt m)=true)
 (h3:resA env' rs=some x) (h4:H'=H1) (h5:look env' gslot= .gh gl gvs): ∃s',Weak ⟨n,env,H⟩ s'/\EndA rs x H1 gl gvs e s':=
 ⟨_,Qg7 [gslot] m hk hH h1 h2,by rcases he with rfl|rfl<;>exact⟨h3,h4,h5⟩⟩
end Aw
end
section
open Go.RowKit
namespace Aw
variable{j b k sz off:Nat}{es:Array BC}{w:Ab}{u x:AZ}{σ:Sg}{B:Bs}{E:TyF}{t tx:A7}{newrows:List (List D)}
class Ky (α:Type) where
 dec:DecidableEq α
 kv:α->Aj
 kd:TypeDesc
 isK: ∀a,Az kd (kv a)
 same: ∀a b,BE kd (kv a) (kv b)=some (@decide (a=b) (dec a b))
attribute [reducible,instance] Ky.dec
instance:Ky Int where
 dec:=inferInstance
 kv:=fun n=> .int .i64 n
 kd:= .int .i64
 isK:=fun n=>by simp[Az]
 same:=fun a b=>by simp[BE];rfl
instance:Ky (List UInt8) where
 dec:=inferInstance
 kv:=fun l=> .string ⟨l.toArray⟩
 kd:= .string
 isK:=fun n=>by simp[Az]
 same:=fun a b=>by
  show some (a.toArray==b.toArray)=_
  by_cases h:a=b
  ·subst h;simp
  ·rw[decide_eq_false h,beq_eq_false_iff_ne.2 fun e=>h (by simpa using congrArg Array.toList e)]
section
variable{α:Type} [Ky α]
def imap(m:List (α×D)):List (Aj×D):=m.map fun x=>(Ky.kv x.1,x.2)
def mget:List (α×D)->α->Option D
 |[],_=>none
 |x::m,n=>if x.1=n then some x.2 else mget m n
def mset:List (α×D)->α->D->List (α×D)
 |[],n,d=>[(n,d)]
 |x::m,n,d=>if x.1=n then(n,d)::m else x::mset m n d
def mIdx:List (α×D)->α->Option Nat
 |[],_=>none
 |x::m,n=>if x.1=n then some 0 else(mIdx m n).map (· +1)
theorem Qiu: ∀{m:List (α×D)} {n:α},mIdx m n=none->mget m n=none/\ ∀d,mset m n d=m++[(n,d)]
 |[],n,_=>⟨rfl,fun d=>rfl⟩
 |x::m,n,h=>by
  unfold mIdx at h;split at h
  ·cases h
  ·rename_i hx
   obtain⟨h1,h2⟩:=Qiu (Ao.1 h)
   grind [mget,mset]
theorem Qit: ∀{m:List (α×D)} {n:α} {j:Nat},mIdx m n=some j-> ∃d0,m[j]? =some (n,d0)/\mget m n=some d0/\ ∀d,mset m n d=m.set j (n,d)
 |[],n,j,h=>by cases h
 |x::m,n,j,h=>by
  unfold mIdx at h;split at h
  ·grind [mget,mset]
  ·rename_i hx
   obtain⟨j',h',rfl⟩:=Ac.1 h;obtain⟨d0,h1,h2,h3⟩:=Qit h'
   grind [mget,mset]
theorem QeP: ∀(m:List (α×D)) (n:α) (d:D),mget (mset m n d) n=some d
 :=by intro l;induction l<;>grind [mset,mget]
theorem Qh7{n k:α}(h:n≠k): ∀(m:List (α×D)) (d:D),mget (mset m n d) k=mget m k
 :=by intro l;induction l<;>grind [mset,mget]
theorem QsZ{m:List (α×D)}{n:α}{d:D}(h:m[j]? =some (n,d)):(imap m)[j]? =some (Ky.kv n,d):=by
 unfold imap;grind
theorem imap_get'{m:List (α×D)}{k:Aj}{d:D}(h:(imap m)[j]? =some (k,d)): ∃n,k=Ky.kv n/\m[j]? =some (n,d):=by grind [imap]
def Qf0(m:List (α×D)):(imap m).length=m.length:=by simp[imap]
theorem Qi8(n:α): ∀(es:List BC) (m:List (α×D)) (i:Nat),es.length=m.length->(∀(j:Nat) x,m[j]? =some x-> ∃e,es[j]? =some e/\e.key=Ky.kv x.1)->
 (mIdx m n=none/\AM (Ky.kd α) (Ky.kv n) es i=some none)∨ ∃j e,mIdx m n=some j/\es[j]? =some e/\AM (Ky.kd α) (Ky.kv n) es i=some (some (i+j,e.val))
 |[],[],i,_,_=> .inl ⟨rfl,rfl⟩
 |e::es,x::m,i,hl,h=>by
  obtain⟨e',he,hk⟩:=h 0 x rfl;obtain rfl:e=e':=by grind
  by_cases hx:x.1=n
  ·refine .inr ⟨0,e,by unfold mIdx;grind,rfl,?_⟩
   simp[AM,hk,Ky.same,hx]
  ·have hne: ¬n=x.1:=fun q=>hx q.symm
   rcases Qi8 n es m (i+1) (by grind) (fun j y hy=>h (j+1) y (by grind)) with⟨h1,h2⟩|⟨j,e',h1,h2,h3⟩
   ·refine .inl ⟨by unfold mIdx;grind,?_⟩
    have hb:decide (n=x.1)=false:=decide_eq_false hne;simp[AM,hk,Ky.same,hne,h2]
   ·refine .inr ⟨j+1,e',by unfold mIdx;grind,by grind,?_⟩
    have hb:decide (n=x.1)=false:=decide_eq_false hne;simp[AM,hk,Ky.same,hne,h3];omega
 |[],_::_,_,hl,_=>by simp at hl
 |_::_,[],_,hl,_=>by simp at hl
section
variable{P:A3}{T kt et:A7}{F:TyF}{z:Aj}
def EntOk(S:Nat->Prop)(w:Ab)(m:List (α×D))(es:Array BC):Prop:=es.size=m.length/\ ∀(j:Nat) n d,m[j]? =some (n,d)-> ∃e,es[j]? =some e/\e.key=Ky.kv n/\RelD S w d e.val
theorem EntOk.find{S:Nat->Prop}{m:List (α×D)}(h:EntOk S w m es)(n:α):
 (mIdx m n=none/\AM (Ky.kd α) (Ky.kv n) es.toList 0=some none)∨ ∃j e,mIdx m n=some j/\es[j]? =some e/\AM (Ky.kd α) (Ky.kv n) es.toList 0=some (some (j,e.val)):=by
 rcases Qi8 n es.toList m 0 (by simpa using h.1) (fun j x hx=>by
  obtain⟨e,h1,h2,_⟩:=h.2 j x.1 x.2 hx
  grind) with h1|⟨j,e,h1,h2,h3⟩
 ·grind
 grind
def Qsh(hz:(P.info? et).bind (·.zero)=some z)(w:Ab):(zeroValue et).run P w= .ok z w:=by
 obtain⟨i,hi,hz⟩:=An.1 hz;simp[zeroValue,typeInfo,hi,hz]
theorem QiL(hT:P.underlying T=some (.map kt et))(hk:P.underlying kt=some (Ky.kd α))(hz:(P.info? et).bind (·.zero)=some z){S:Nat->Prop}{clock:Nat}{m:List (α×D)}(n:α)
 (hb:w.heap[b]? =some (.map es clock)) (h:EntOk S w m es): ∃v,(B4 T (.map (some b)) (Ky.kv n) false).run P w= .ok v w/\RelD S w ((mget m n).getD (.v z)) v:=by
 rcases h.find n with⟨h1,h2⟩|⟨j,e,h1,h2,h3⟩
 ·have hz1:=Qsh hz w
  refine⟨z,?_,by rw[(Qiu h1).1];exact .v _⟩;simp[B4,AL hb,run_underlying hT,AS hk (Ky.isK n),AW hk h2,hz1,Ai]
 ·obtain⟨d0,g1,g2,_⟩:=Qit h1
  obtain⟨e',k1,k2,k3⟩:=h.2 j n d0 g1;rw[h2] at k1;obtain rfl:=A1 k1;refine⟨e.val,?_,by grind⟩;simp[B4,AL hb,run_underlying hT,AS hk (Ky.isK n),AW hk h3,Ai]
end
section
variable{P:A3}{T kt et:A7}{F:TyF}{z:Aj}{dst:Option BH}{ty:A7}{pos:String}{after:Array BF}{gd:Option (Nat×Bool)}{env:List (Nat×AV)}{H:List Blk}
def Qfu:Loc P ⟨dst,.makeMap T none,ty,pos,after,gd⟩ env H (.mp H.length 0) (some (.mp 0 [])):=by
 intro B σ S H' a w _ hS hop hag hk K Q k;have hκ:=hk _ rfl;obtain⟨h3,h4⟩:=hS.fill (o:= .map #[] 0) (C:= .mp 0 []) hκ trivial fun e=> .inl ⟨_, #[],0,Qdc _ _ _,QdP _ _,⟨rfl,rfl,fun i e h=>by simp at h⟩,fun i key d h=>by simp at h⟩
 have hl:H.length<H'.length:=(A0.1 hκ).1
 have hrun:(execOp a.eval ⟨dst,.makeMap T none,ty,pos,after,gd⟩).run P w= .ok (.value (.map (some w.heap.size))) (w.alloc (.map #[] 0)):=by
  simp[execOp,Instr.makeMap,newObj];rfl
 exact Qgg hrun (k _ _ _ _ h3 (.mp _ 0 _ rfl 0 [] (A6 hl) (AD _) fun _=>⟨_,Qdc _ _ _,rfl⟩) h4)
def Qkw{S:Nat->Prop}{m:List (α×D)}(h1:es.size=(imap m).length)(h2: ∀(i:Nat) key d,(imap m)[i]? =some (key,d)-> ∃e,es[i]? =some e/\e.key=key/\RelD S w d e.val):EntOk S w m es:=
 ⟨by rw[h1,Qf0],fun j n d h=>h2 j (Ky.kv n) d (QsZ h)⟩
theorem QoG(hT:P.underlying T=some (.map kt et))(hk:P.underlying kt=some (Ky.kd α))(hz:(P.info? et).bind (·.zero)=some z){v:AZ}{g:Nat}{m:List (α×D)}{n:α}
 (hu:aval env u= .mp k g) (hH:H[k]? =some (.mp g (imap m))) (hv:aval env v= .d (.v (Ky.kv n))):Loc P ⟨dst,.lookup T u v false,ty,pos,after,gd⟩ env H (.d ((mget m n).getD (.v z))) none:=by
 refine QQ fun σ S H' a w hblk hop hag2=>?_
 have h1:=hop u (by simp[AH]);have h2:=hop v (by simp[AH]);rw[hu] at h1;rw[hv] at h2
 have e2:a.eval v=Ky.kv n:=by
  generalize a.eval v=y at h2;cases h2 with|d _ _ h2=>cases h2;rfl
 generalize hx:a.eval u=y at h1;cases h1 with
 |mp _ _ _ ho g' l hk' hg hh=>
  rcases hag2 k _ hH with h3|h3
  ·rw[h3] at hk'
   obtain⟨rfl,rfl⟩:g=g'/\imap m=l:=by grind
   obtain⟨b,hb,rfl⟩:=hh rfl;rcases hblk k _ h3 with⟨b',es,clock,hb',hheap,hsz,hent⟩|⟨hno,_⟩
   ·rw[hb] at hb'
    obtain rfl:=A1 hb';obtain⟨r,hr1,hr2⟩:=QiL (P:=P) hT hk hz n hheap (Qkw hsz.1 hent);refine⟨r,?_,.d _ _ hr2⟩;simp only[execOp,hx,e2,Aq,hr1];rfl
   grind
  grind
theorem Qm0(hT:P.underlying T=some (.map kt et))(hk:P.underlying kt=some (Ky.kd α))(hz:(P.info? et).bind (·.zero)=some z){v:AZ}{m:List (α×D)}{n:α}
 (hu:aval env u= .d (.mp (imap m))) (hv:aval env v= .d (.v (Ky.kv n))):Loc P ⟨dst,.lookup T u v false,ty,pos,after,gd⟩ env H (.d ((mget m n).getD (.v z))) none:=by
 refine QQ fun σ S H' a w hblk hop hag2=>?_
 have h1:=hop u (by simp[AH]);have h2:=hop v (by simp[AH]);rw[hu] at h1;rw[hv] at h2
 have e2:a.eval v=Ky.kv n:=by
  generalize a.eval v=y at h2;cases h2 with|d _ _ h2=>cases h2;rfl
 generalize hx:a.eval u=y at h1;cases h1 with
 |d _ _ h1=>
  generalize hl:imap m=l at h1;cases h1 with
  |mp _ b es clock hS hb hsz hky hr=>
   subst hl
   have hE':EntOk S w m es:=Qkw hsz fun i key d hi=>by
    have hi':i<es.size:=by grind
    exact⟨es[i],AG hi',hky i key d _ hi (AG hi'),hr i key d _ hi (AG hi')⟩
   obtain⟨r,hr1,hr2⟩:=QiL (P:=P) hT hk hz n hb hE';refine⟨r,?_,.d _ _ hr2⟩;simp only[execOp,hx,e2,Aq,hr1];rfl
theorem Sm.setMap{S:Nat->Prop}{g:Nat}{l l':List (Aj×D)}{es':Array BC}{clock':Nat}(h:Sm B σ S H w)(hb:σ k=some b)(hC:H[k]? =some (.mp g l)){clock0:Nat}(hheap:w.heap[b]? =some (.map es clock0))
 (hsz:es'.size=l'.length/\clock'=l'.length/\ ∀(i:Nat) e,es'[i]? =some e->e.born=i) (hent: ∀(i:Nat) key d,l'[i]? =some (key,d)-> ∃e,es'[i]? =some e/\e.key=key/\RelD S w d e.val):
 Sm B σ S (H.set k (.mp g l')) {w with heap:=w.heap.setIfInBounds b (.map es' clock')}/\Ev σ S H w σ S (H.set k (.mp g l')) {w with heap:=w.heap.setIfInBounds b (.map es' clock')}:=by
 obtain⟨q1,q2⟩:=MapKept.heap_set (o':= .map es' clock') hheap;refine h.turn (C':= .mp g l') hb hC (AD _) rfl rfl rfl (by simp) q2 (fun cs T hc=>by grind) fun e=> .inl ⟨b,es',clock',hb,q1,hsz,fun i key d hi=>?_⟩
 obtain⟨en,h1,h2,h3⟩:=hent i key d hi;exact⟨en,h1,h2,h3.mono e.s e.same⟩
theorem Qky(hT:P.underlying T=some (.map kt et))(hk:P.underlying kt=some (Ky.kd α)){v:AZ}{g:Nat}{m:List (α×D)}{n:α}{d:D}
 (hu:aval env u= .mp k g) (hH:H[k]? =some (.mp g (imap m))) (hv:aval env v= .d (.v (Ky.kv n))) (hx:aval env x= .d d):
 Eff P ⟨none,.mapUpdate T u v x,ty,pos,after,gd⟩ env H (.d (.v undef)) (H.set k (.mp g (imap (mset m n d)))):=by
 intro B σ S a w hB hS hop K Q kk;have h1:=hop u (by simp[AH]);have h2:=hop v (by simp[AH]);have h3:=hop x (by simp[AH]);rw[hu] at h1;rw[hv] at h2;rw[hx] at h3
 have e2:a.eval v=Ky.kv n:=by
  generalize a.eval v=y at h2;cases h2 with|d _ _ h2=>cases h2;rfl
 cases h3 with
 |d _ _ h3=>
 generalize hxu:a.eval u=y at h1;cases h1 with
 |mp _ _ _ ho g' l hk' hg hh=>
  rw[hH] at hk';obtain⟨rfl,rfl⟩:g=g'/\imap m=l:=by injection (A1 hk') with h1 h2;exact⟨h1,h2⟩
  obtain⟨b,hb,rfl⟩:=hh rfl;rcases hS.blk k _ hH with⟨b',es,clock,hb',hheap,⟨hs1,rfl,hs3⟩,hent⟩|⟨hno,_⟩;rotate_left
  ·rw[hb] at hno;cases hno
  rw[hb] at hb';obtain rfl:=A1 hb';have hE:=Qkw hs1 hent;rcases hE.find n with⟨g1,g2⟩|⟨j,e,g1,g2,g3⟩
  ·have hl':=(Qiu g1).2 d
   have hrun:(execOp a.eval ⟨none,.mapUpdate T u v x,ty,pos,after,gd⟩).run P w= .ok .skip {w with heap:=w.heap.setIfInBounds b (.map (es.push ⟨Ky.kv n,a.eval x,(imap m).length⟩) ((imap m).length+1))}:=by
    simp[execOp,hxu,e2,B7,run_underlying hT,AL hheap,AS hk (Ky.isK n),AW hk g2,Ar _ hheap,Ai]
   obtain⟨q1,q2⟩:=Sm.setMap (l':=imap (mset m n d)) (es':=es.push ⟨Ky.kv n,a.eval x,(imap m).length⟩) (clock':=(imap m).length+1) hS hb hH hheap
    ⟨by simp[hs1,hl',Qf0],by simp[hl',Qf0],fun i e he=>by
      rw[Ax] at he;split at he
      ·obtain rfl:=A1 he;simp[hs1] at*;omega
      ·exact hs3 i e he⟩ fun i key d' hi=>by
      have hi3:=imap_get' hi;clear hi;obtain⟨n',rfl,hi⟩:=hi3;rw[hl'] at hi;rw[Ax];rcases AC i m.length with hlt|hge
      ·rw[AF hlt] at hi
       obtain⟨e,k1,k2,k3⟩:=hE.2 i n' d' hi;rw[if_neg (by rw[hs1,Qf0];omega)];exact⟨e,k1,k2,k3⟩
      ·rw[AE hge] at hi
       have:i -m.length=0:=by
        have:=(A0.1 hi).1;simp at this;omega
       rw[this] at hi;simp only[List.getElem?_cons_zero,B5,BD] at hi;obtain⟨rfl,rfl⟩:=hi;rw[if_pos (by rw[hs1,Qf0];omega)]
       grind
   unfold Oper.wp;rw[hrun];exact kk undef _ σ S q1 (.d _ _ (.v _)) q2
  ·obtain⟨d0,k1,k2,hl'⟩:=Qit g1
   have hl':=hl' d;obtain⟨e',k4,k5,k6⟩:=hE.2 j n d0 k1;rw[g2] at k4;obtain rfl:=A1 k4
   have hrun:(execOp a.eval ⟨none,.mapUpdate T u v x,ty,pos,after,gd⟩).run P w= .ok .skip {w with heap:=w.heap.setIfInBounds b (.map (es.modify j fun e=>{e with key:=Ky.kv n,val:=a.eval x}) (imap m).length)}:=by
    simp[execOp,hxu,e2,B7,run_underlying hT,AL hheap,AS hk (Ky.isK n),AW hk g3,Ar _ hheap,g2,k5,MapKept.run_keyThatStays (Ky.isK n),Ai]
   obtain⟨q1,q2⟩:=Sm.setMap (l':=imap (mset m n d)) (es':=es.modify j fun e=>{e with key:=Ky.kv n,val:=a.eval x}) (clock':=(imap m).length) hS hb hH hheap
    ⟨by simp[hs1,hl',Qf0],by simp[hl',Qf0],fun i e1 he=>by
      rw[Au] at he;split at he
      ·rename_i hij;subst hij
       rw[g2] at he;simp only[Option.map_some,B5] at he;subst he;exact(hs3 j e g2:)
      ·exact hs3 i e1 he⟩ fun i key d' hi=>by
      have hi3:=imap_get' hi;clear hi;obtain⟨n',rfl,hi⟩:=hi3;rw[hl'] at hi;rw[Au]
      by_cases hij:j=i
      ·grind
      ·rw[AT hij] at hi
       rw[if_neg hij];exact hE.2 i n' d' hi
   unfold Oper.wp;rw[hrun];exact kk undef _ σ S q1 (.d _ _ (.v _)) q2
end
end
variable{P:A3}
section
variable{dst:Option BH}{ty:A7}{pos:String}{after:Array BF}{gd:Option (Nat×Bool)}{env:List (Nat×AV)}{H:List Blk}
def QsO{T e:A7}{F:TyF}{n:Nat}{parts:Array (Nat×AZ)}{res:List AV}(hT:tyf P T=some F)(he:F.elem=some e)(hE:tyf P e=some E)(hz:E.zero.length=E.size:=by rfl)
 (hr: ∀R:Option (List AV)->Prop,R (some res)->R (fillA (fun i=>some (i*E.size,E.size)) env (Ad n (E.zero.map fun v=>AV.d (.v v))).flatten parts.toList):=by
   intro R hR;simp only[go_sem,Option.bind_some,List.replicate_succ,List.replicate_zero,List.flatten_cons,List.flatten_nil,List.append_nil,List.cons_append,List.nil_append,Nat.zero_mul,Nat.reduceMul,Nat.reduceEqDiff,Nat.reduceAdd,Nat.reduceLT,Nat.reduceLeDiff,↓reduceIte,reduceCtorEq,List.take_nil,List.drop_nil];exact hR)
 (hm:AN (n*E.size) 16777216=true:=by rfl) (hn:AN n 16777216=true:=by rfl):Loc P ⟨dst,.buildSlice T n parts,ty,pos,after,gd⟩ env H (.rsl H.length 0 n) (some (.row 0 res)):=by
 intro B σ S H' a w _ hS hop hag hk K Q k;have hκ:=hk _ rfl;obtain⟨cs,h1,_,_,h2⟩:=Qgk (dst:=dst) (ty:=ty) (pos:=pos) (after:=after) (gd:=gd) hT he hE hz (hr (fun r=>r=some res) rfl) (A5 hm) (A5 hn) σ S H' a w hop;obtain⟨h3,h4⟩:=hS.fillRow (T:=e) hκ h2;have hl:H.length<H'.length:=(A0.1 hκ).1;exact Qgg h1 (k _ _ _ _ h3 (.rsl _ 0 n _ rfl 0 res (A6 hl) (AD _) fun _=>⟨_,Qdc _ _ _,rfl⟩) h4)
def Qfv{T e:A7}{F:TyF}{v:AZ}{κ:IntKind}{i:Int}{g len:Nat}{cells:List AV}(hT:tyf P T=some F)(he:F.elem=some e)(hE:tyf P e=some E)
 (hn:E.size=1) (hu:aval env u= .rsl k g len) (hk:H[k]? =some (.row g cells)) (hv:aval env v= .d (.v (.int κ i))) (h0:0<=i) (h1:i<len):
 Loc P ⟨dst,.indexAddr T u v,ty,pos,after,gd⟩ env H (.ptr k g i.toNat) none:=
 QQ fun σ S H' a w _ hop hag=>by
  have h:=hop u (by simp[AH]);have h':=AV.conc_rel (hop v (by simp[AH])) (y:= .int κ i) (by rw[hv];rfl);rw[hu] at h;generalize hx:a.eval u=x at h;cases h with
  |rsl _ _ _ _ _ g' cells' hk' hg hh=>
   have hke:H'[k]? =some (.row g cells):=by
    rcases hag k _ hk with h|h
    ·exact h
    ·rw[hk'] at h;cases h
   rw[hk'] at hke;obtain⟨rfl,rfl⟩:g'=g/\cells'=cells:=by injection (A1 hke) with h1 h2;exact⟨h1,h2⟩
   obtain⟨b,hb,rfl⟩:=hh rfl;exact⟨_,by simp only[execOp,hx,h',Aq,Qgo hT he hE h0 h1 w];rfl,.ptr _ _ _ _ rfl g' cells' hk' hg fun _=>⟨b,hb,by simp[hn]⟩⟩
def Qm3{T e:A7}{F:TyF}{g len:Nat}{cells:List AV}(hT:tyf P T=some F)(he:F.elem=some e)(hu:aval env u= .rsl k g len)(hk:H[k]? =some (.row g cells)):
 Loc P ⟨dst,.call ⟨.builtin .len, #[u], #[T]⟩,ty,pos,after,gd⟩ env H (.d (.v (.int .i64 (len:Nat)))) none:=
 QQ fun σ S H' a w _ hop hag=>by
  have h:=hop u (by simp[AH,Call.operands]);rw[hu] at h;generalize hx:a.eval u=x at h;cases h with
  |rsl _ _ _ _ _ g' cells' hk' hg hh=>
   have hke:H'[k]? =some (.row g cells):=by
    rcases hag k _ hk with h|h
    ·exact h
    ·rw[hk'] at h;cases h
   rw[hk'] at hke;obtain⟨rfl,rfl⟩:g'=g/\cells'=cells:=by injection (A1 hke) with h1 h2;exact⟨h1,h2⟩
   obtain⟨b,hb,rfl⟩:=hh rfl;exact⟨_,by simp[execOp,resolve,invoke,builtin,Builtin.len_,hx,goInt,run_underlying (Qdy hT he)];try rfl,.d _ _ (.v _)⟩
end
theorem Qh1(b:Nat)(T:A7): ∀(vs:List Aj) (o:Nat) (w:Ab) (cs:Array Aj),w.heap[b]? =some (.cells cs T (0,0))->o+vs.length<=cs.size->
 ∃cs2,(w.setCells b o vs).heap[b]? =some (.cells cs2 T (0,0))/\cs2.size=cs.size/\(∀j,j<o->cs2[j]? =cs[j]?)/\(∀(j:Nat) u,vs[j]? =some u->cs2[o+j]? =some u)/\
  (∀j,j≠b->(w.setCells b o vs).heap[j]? =w.heap[j]?)/\(w.setCells b o vs).heap.size=w.heap.size/\(w.setCells b o vs).os=w.os/\(w.setCells b o vs).tape=w.tape/\(w.setCells b o vs).output=w.output
 |[],o,w,cs,h,_=>⟨cs,h,rfl,fun _ _=>rfl,fun j u hj=>by simp at hj,fun _ _=>rfl,rfl,rfl,rfl,rfl⟩
 |v::vs,o,w,cs,h,hl=>by
  rw[Am] at hl;have h1:=heap_setCell_same w b o cs T v h;obtain⟨cs2,g1,g2,g3,g4,g5,g6,g7,g8,g9⟩:=Qh1 b T vs (o+1) (w.setCell ⟨b,o,none⟩ v) _ h1 (by grind);refine⟨cs2,g1,by grind,fun j hj=>?_,fun j u hj=>?_,fun j hj=>(g5 j hj).trans (heap_setCell_other w _ j v hj),by rw[World.setCells,g6];simp,g7,g8,g9⟩
  ·grind
  grind
theorem Sm.appendO{S:Nat->Prop}{H:List Blk}{g len:Nat}{T:A7}{rows:List (List D)}{v x:Aj}{P:A3}{ty:A7}{i:TypeInfo}{z:Aj}{news:List Aj}
 (h:Sm B σ S H w) (hC:H[k]? =some (.arr g sz T rows)) (hv:OSl σ w k sz rows.length off len v) (hol:off+len=rows.length) (hsz:0<sz)
 (ht:P.underlying t=some (.slice T)) (hi:P.info? T=some i) (hz:i.zero=some z) (hsize:i.size=sz) (hzs:z.cells.size=sz)
 (hs:Src P sz tx x newrows.length news w) (hfl:Flat sz newrows (RelD S w) news) (hpos:0<newrows.length) (hbytes:(len+newrows.length)*i.bytes<=140737488355328) (hmax:len+newrows.length<=140737488355328):
 ∃v' w',(Builtin.append_ #[t,tx] ty #[v,x]).run P w= .ok v' w'/\
  ((∃σ',Sm B σ' S (H.set k (.arr (g+1) sz T (rows++newrows))) w'/\Ev σ S H w σ' S (H.set k (.arr (g+1) sz T (rows++newrows))) w'/\OSl σ' w' k sz (rows++newrows).length off (len+newrows.length) v')∨
   (∃σ',Sm B σ' S (H.set k (.arr (g+1) sz T (rows.drop off++newrows))) w'/\Ev σ S H w σ' S (H.set k (.arr (g+1) sz T (rows.drop off++newrows))) w'/\OSl σ' w' k sz (rows.drop off++newrows).length 0 (len+newrows.length) v')):=by
 subst hsize;obtain⟨hlen,hbk⟩:=h.blk k _ hC;have hdl:(rows.drop off).length=len:=by grind
 have hdlen: ∀r∈rows.drop off,r.length=i.size:=fun r hr=>hlen r (List.mem_of_mem_drop hr)
 have grown: ∀(xs:List Aj) (old:Nat),Flat i.size (rows.drop off) (RelD S w) xs->old<len+newrows.length-> ∃σ',
  Sm B σ' S (H.set k (.arr (g+1) i.size T (rows.drop off++newrows))) (w.drew.alloc (.cells ((xs++news).toArray++AI z.cells (grownCap w (len+newrows.length) old T -(len+newrows.length))) T))/\
  Ev σ S H w σ' S (H.set k (.arr (g+1) i.size T (rows.drop off++newrows))) (w.drew.alloc (.cells ((xs++news).toArray++AI z.cells (grownCap w (len+newrows.length) old T -(len+newrows.length))) T))/\
  OSl σ' (w.drew.alloc (.cells ((xs++news).toArray++AI z.cells (grownCap w (len+newrows.length) old T -(len+newrows.length))) T)) k i.size (rows.drop off++newrows).length 0 (len+newrows.length)
   (.slice (some ⟨w.heap.size,0,none⟩) (len+newrows.length) (grownCap w (len+newrows.length) old T)):=by
  intro xs old hxs hold;have hge:=grownCap_ge w (len+newrows.length) old T;have hcm:grownCap w (len+newrows.length) old T<=maxLen:=grownCap_le_maxLen w (len+newrows.length) old T (by unfold maxLen;omega);generalize grownCap w (len+newrows.length) old T=cap at*;obtain⟨hd,hed⟩:=h.sameHeap (w':=w.drew) rfl rfl rfl rfl;have hall:=(hxs.append hfl)
  have hcs:((xs++news).toArray++AI z.cells (cap -(len+newrows.length))).size=cap*i.size:=by
   rw[Array.size_append,size_zeroCells,hzs];simp only[List.size_toArray];have:=hall.1;have h2:(rows.drop off++newrows).length=len+newrows.length:=by grind
   rw[h2] at this;rw[this,<-Av];grind
  have hget: ∀(j:Nat) u,(xs++news)[j]? =some u->((xs++news).toArray++AI z.cells (cap -(len+newrows.length)))[j]? =some u:=by
   grind
  generalize (xs++news).toArray++AI z.cells (cap -(len+newrows.length))=cs at*;have hf:=hd.fill (κ:=k) (o:= .cells cs T) (C:= .arr (g+1) i.size T (rows.drop off++newrows)) hC ⟨by omega,rfl,rfl⟩ (fun e=>⟨hall.2.1,.inl ⟨w.heap.size,cs,Qdc _ _ _,QdP w.drew _,fun a b r d ha hb=>?_⟩⟩)
  ·refine⟨_,hf.1,?_,by grind,.inl ⟨w.heap.size,cap,cs,T,Qdc _ _ _,hge,hcm,by simp,QdP w.drew _,by grind⟩⟩
   exact⟨hf.2.s,hf.2.same,hf.2.row,hf.2.arr,hf.2.mp⟩
  ·obtain⟨u,hu,hr⟩:=hall.2.2 a b r d ha hb
   exact⟨u,hget _ _ hu,hr.mono (fun _ h=>h) e.same⟩
 rcases hv.2 with⟨b,cap,cs,T',hb,hl,hcm,rfl,hc,hcsz⟩|⟨hb,hl,rfl⟩
 ·rcases hbk with⟨b',cs',hb',hc',hrel⟩|⟨hb',_⟩
  rotate_left
  ·grind
  rw[hb] at hb';obtain rfl:=A1 hb';rw[hc] at hc';obtain⟨rfl,rfl⟩:cs=cs'/\T'=T:=by grind
  by_cases hroom:len+newrows.length<=cap
  ·have hfit:off*i.size+len*i.size+news.length<=cs.size:=by
    rw[hfl.1,hcsz,<-Av,<-Av];exact AU _ (by omega)
   obtain⟨cs2,g1,g2,g3,g4,g5,g6,g7,g8,g9⟩:=Qh1 b T' news (off*i.size+len*i.size) w cs hc hfit
   have hthere: ∀j,j<news.length-> ∃c,w.cell? ⟨b,off*i.size+len*i.size+j,none⟩=some c:=fun j hj=>
    ⟨_,by rw[cell_of_row w b _ cs T' (0,0) hc];exact AG (by omega)⟩
   have hr:=run_append_room_src (P:=P) w t tx ty T' i ht hi b (off*i.size) len cap x newrows.length news hs hroom (fun j hj=>by grind)
    (fun j hj=>frozen_of_row w b _ cs T' hc)
   have htn:=h.turn (w':=w.setCells b (off*i.size+len*i.size) news) (C':= .arr (g+1) i.size T' (rows++newrows)) hb hC ⟨by omega,rfl,rfl,fun e=>by omega⟩ g7 g8 g9 g6 g5
    (fun cs0 T0 h0=>by
      grind)
    (fun e=>⟨fun r hr=>by rcases As.1 hr with hr|hr;exact hlen r hr;exact hfl.2.1 r hr,.inl ⟨b,cs2,hb,g1,fun a j r d ha hj=>?_⟩⟩)
   ·exact⟨_,_,hr,.inl ⟨σ,htn.1,htn.2,by grind,.inl ⟨b,cap,cs2,T',hb,hroom,hcm,rfl,g1,by omega⟩⟩⟩
   ·have hrl:rows.length*i.size=off*i.size+len*i.size:=by grind
    rcases AC a rows.length with hlt|hge
    ·rw[AF hlt] at ha
     obtain⟨u,hu,hrr⟩:=hrel a j r d ha hj;have hjl:j<i.size:=by grind
     have hlt2:a*i.size+j<rows.length*i.size:=by
      have h2:(a+1)*i.size<=rows.length*i.size:=AU _ (by omega)
      grind
     exact⟨u,by grind,hrr.mono (fun _ h=>h) e.same⟩
    ·rw[AE hge] at ha
     obtain⟨u,hu,hrr⟩:=hfl.2.2 _ j r d ha hj;have:=g4 _ u hu;refine⟨u,?_,hrr.mono (fun _ h=>h) e.same⟩;rw[<-this];congr 1;have h3:(a -rows.length)*i.size+rows.length*i.size=a*i.size:=by rw[<-Av];grind
     omega
  ·have hxs:Flat i.size (rows.drop off) (RelD S w) ((cs.toList.drop (off*i.size)).take (len*i.size)):=by
    refine⟨?_,hdlen,fun a j r d ha hj=>?_⟩
    ·rw[hdl,List.length_take,AK,Array.length_toList,hcsz]
     have:len*i.size<=cap*i.size:=AU _ hl
     grind
    ·have ha2:=ha
     rw[List.getElem?_drop] at ha;obtain⟨u,hu,hrr⟩:=hrel _ j r d ha hj;refine⟨u,?_,hrr⟩;have hal:a<len:=by grind
     have hjl:j<i.size:=by grind
     have hlt2:a*i.size+j<len*i.size:=by
      have h2:(a+1)*i.size<=len*i.size:=AU _ (by omega)
      grind
     grind
   have holds:(Builtin.firstCells i.size len (.slice (some ⟨b,off*i.size,none⟩) len cap)).run P w.drew= .ok ((cs.toList.drop (off*i.size)).take (len*i.size)).toArray w.drew:=by
    refine run_firstCells_some w.drew i.size len ⟨b,off*i.size,none⟩ len cap _ (by rw[hxs.1,hdl]) fun j u hu=>?_
    rw[QdQ];show w.cell? _=_
    grind [cell_of_row]
   grind [run_append_grow_src,growslice_fits]
 ·have hro:rows=[]:=by
   grind
  subst hro;subst hl;have hr:=run_append_grow_src (P:=P) w t tx ty T i z ht hi hz none 0 0 [] (by grind [run_firstCells_none]) x newrows.length news hs (by omega) (by omega) (growslice_fits (by omega) hbytes);obtain⟨σ',h2,h3,h4⟩:=grown [] 0 ⟨by simp,fun r hr=>by simp at hr,fun i j r d hi=>by simp at hi⟩ (by omega)
  grind
def SrcOk(P:A3)(H:List Blk)(x:AV)(sz:Nat)(tx:A7)(newrows:List (List D)):Prop:=
 ∀B σ S w v,Sm B σ S H w->Rel σ S H w x v-> ∃news,Src P sz tx v newrows.length news w/\Flat sz newrows (RelD S w) news
theorem QpL{P:A3}{H:List Blk}{e:A7}{F:TyF} [ht:Ty P t F](he:F.elem=some e){g len:Nat}{T:A7}{rows:List (List D)}(hk:H[k]? =some (.arr g sz T rows))(hlen:len=rows.length)(hpos:0<len)(hcell: ∀r∈rows,∀d∈r,d.cell=true):
 SrcOk P H (.osl k g 0 len) sz t rows:=by
 intro B σ S w v hS h;subst hlen;cases h with
 |osl _ _ _ _ _ _ g' sz' T' rows' hk' hg hh=>
  rw[hk] at hk';obtain⟨rfl,rfl,rfl,rfl⟩:g=g'/\sz=sz'/\T=T'/\rows=rows':=by grind
  obtain⟨ax,cap,rfl,hn⟩:=OSl.cells hS hk (hh rfl) hcell;obtain⟨a,news,rfl,h3,h4,h5⟩:=hn hpos;rw[BB,List.take_length] at h3;exact⟨news,Src.ofSlice w (Qdy ht.h he) a rows.length cap news h3.1 h4 h5,h3⟩
section
variable{P:A3}{ops:Array A4}{Q:BA->St->Prop}{l:List A4}{n:Nat}{env:List (Nat×AV)}{H:List Blk}{d:BH}{ty:A7}{pos:String}{after:Array BF}{gd:Option (Nat×Bool)}
theorem aw_appO{e:A7}{F:TyF}{s:AZ}{g len:Nat}{rows:List (List D)} [ht:Ty P t F](he:F.elem=some e) [hE:Ty P e E](hz:E.zero.length=E.size:=by rfl)(hpos:AA 0 E.size=true:=by rfl)
 (hs:aval env s= .osl k g off len:=by rfl) (hk:H[k]? =some (.arr g E.size e rows):=by rfl) (hol:off+len=rows.length) (hx:SrcOk P H (aval env x) E.size tx newrows) (hnp:0<newrows.length)
 (hb:(len+newrows.length)*E.bytes<=140737488355328) (hm:len+newrows.length<=140737488355328)
 (hw:awanted ops env ⟨some d,.call ⟨.builtin .append, #[s,x], #[t,tx]⟩,ty,pos,after,gd⟩=some true:=by rfl) (hd:AA d n=true:=by rfl) (hg:gdOk ops n ⟨some d,.call ⟨.builtin .append, #[s,x], #[t,tx]⟩,ty,pos,after,gd⟩=true:=by rfl)
 (k1:ASeq P ops Q l ⟨n,(d,.osl k (g+1) off (len+newrows.length))::env,H.set k (.arr (g+1) E.size e (rows++newrows))⟩)
 (k2:ASeq P ops Q l ⟨n,(d,.osl k (g+1) 0 (len+newrows.length))::env,H.set k (.arr (g+1) E.size e (rows.drop off++newrows))⟩):
 ASeq P ops Q (⟨some d,.call ⟨.builtin .append, #[s,x], #[t,tx]⟩,ty,pos,after,gd⟩::l) ⟨n,env,H⟩:=by
 intro B hB σ S a w hA;unfold wpList;rw[if_pos (Qf7 hA hw (QeH hg))];refine .inl ?_;have hkl:k<H.length:=(A0.1 hk).1;have h1:Rel σ S H w (aval env s) (a.eval s):=Qeg fun t _=>hA.env t
 have h2:Rel σ S H w (aval env x) (a.eval x):=Qeg fun t _=>hA.env t
 rw[hs] at h1;generalize hv:a.eval s=v at h1;obtain⟨news,hsrc,hfl⟩:=hx B σ S w _ hA.sm h2;obtain⟨dd,i,z,hdd,hi,hzz,hsz,hby,hzl,_⟩:=QdL hE.h;have hzs:z.cells.size=E.size:=by rw[<-hz,<-hzl];simp
 have hu:=Qdy ht.h he;cases h1 with
 |osl _ _ _ _ _ _ g' sz' T' rows' hk' hgg hh=>
  rw[hk] at hk';obtain⟨rfl,rfl,rfl,rfl⟩:g=g'/\E.size=sz'/\e=T'/\rows=rows':=by injection (A1 hk') with h1 h2 h3 h4;exact⟨h1,h2,h3,h4⟩
  obtain⟨v',w',hr,hcase⟩:=hA.sm.appendO (P:=P) (ty:=ty) hk (hh rfl) hol (by simp_all) hu hi hzz hsz hzs hsrc hfl hnp (by grind) hm
  have hexec:(execOp a.eval ⟨some d,.call ⟨.builtin .append, #[s,x], #[t,tx]⟩,ty,pos,after,gd⟩).run P w= .ok (.value v') w':=by
   simp only[execOp,resolve,invoke,builtin,Aq,Sem.run_pure,Result.andThen_ok,List.map_toArray,List.map_cons,List.map_nil,hv,hr]
  have hone: ∀{o:Nat} {R:Nat},OSl σ w' k E.size R o (len+newrows.length) v'∨(∃σ',OSl σ' w' k E.size R o (len+newrows.length) v')->v'.oneCell'=true:=fun h=>by
   rcases h with⟨_,⟨b,cap,cs,T',_,_,_,rfl,_⟩|⟨_,_,rfl⟩⟩|⟨_,⟨_,⟨b,cap,cs,T',_,_,_,rfl,_⟩|⟨_,_,rfl⟩⟩⟩<;>rfl
  rcases hcase with⟨σ',g1,g2,g3⟩|⟨σ',g1,g2,g3⟩
  ·exact Qgg hexec (k1 B hB σ' S _ w' (hA.next' (dst:=some d) hd g1 (.osl k (g+1) off _ _ (hone (.inr ⟨σ',g3⟩)) (g+1) E.size e _ (A6 hkl) (AD _) fun _=>g3) g2))
  ·exact Qgg hexec (k2 B hB σ' S _ w' (hA.next' (dst:=some d) hd g1 (.osl k (g+1) 0 _ _ (hone (.inr ⟨σ',g3⟩)) (g+1) E.size e _ (A6 hkl) (AD _) fun _=>g3) g2))
end
end Aw
end
section
namespace Aw
instance TB_4:TyBool A2 4:=⟨by kernel_rfl⟩
instance T_3:Ty A2 3 ⟨false,1,8,[.int .i64 0],none,[],none,false⟩:=⟨by kernel_rfl⟩
instance T_4:Ty A2 4 ⟨false,1,1,[.bool false],none,[],none,false⟩:=⟨by kernel_rfl⟩
instance T_5:Ty A2 5 ⟨false,1,1,[.int .u8 0],none,[],none,false⟩:=⟨by kernel_rfl⟩
instance T_9:Ty A2 9 ⟨false,1,16,[.string ⟨#[]⟩],none,[],none,true⟩:=⟨by kernel_rfl⟩
instance T_22:Ty A2 22 ⟨false,1,24,[.slice none 0 0],some 5,[],none,false⟩:=⟨by kernel_rfl⟩
instance T_23:Ty A2 23 ⟨false,1,24,[.slice none 0 0],some 9,[],none,false⟩:=⟨by kernel_rfl⟩
instance T_24:Ty A2 24 ⟨false,1,24,[.slice none 0 0],some 3,[],none,false⟩:=⟨by kernel_rfl⟩
instance T_26:Ty A2 26 ⟨true,2,48,[.slice none 0 0,.slice none 0 0],none,[(0,1),(1,1)],some [(0,1),(1,1)],false⟩:=⟨by kernel_rfl⟩
instance T_27:Ty A2 27 ⟨false,1,24,[.slice none 0 0],some 31,[],none,false⟩:=⟨by kernel_rfl⟩
instance T_29:Ty A2 29 ⟨true,8,144,[.slice none 0 0,.slice none 0 0,.slice none 0 0,.int .i64 0,.slice none 0 0,.int .i64 0,.slice none 0 0,.bool false],none,[(0,1),(1,2),(3,1),(4,1),(5,1),(6,1),(7,1)],some [(0,1),(1,2),(3,1),(4,1),(5,1),(6,1),(7,1)],false⟩:=⟨by kernel_rfl⟩
instance T_31:Ty A2 31 ⟨true,5,40,[.int .i64 0,.int .i64 0,.int .i64 0,.int .i64 0,.int .i64 0],none,[(0,1),(1,1),(2,1),(3,1),(4,1)],some [(0,1),(1,1),(2,1),(3,1),(4,1)],false⟩:=⟨by kernel_rfl⟩
instance T_33:Ty A2 33 ⟨true,7,56,[.int .i64 0,.int .i64 0,.int .i64 0,.int .i64 0,.int .i64 0,.int .i64 0,.int .i64 0],none,[(0,5),(5,1),(6,1)],some [(0,5),(5,1),(6,1)],false⟩:=⟨by kernel_rfl⟩
instance T_39:Ty A2 39 ⟨false,1,24,[.slice none 0 0],some 43,[],none,false⟩:=⟨by kernel_rfl⟩
instance T_43:Ty A2 43 ⟨true,2,24,[.string ⟨#[]⟩,.int .i64 0],none,[(0,1),(1,1)],some [(0,1),(1,1)],false⟩:=⟨by kernel_rfl⟩
instance T_45:Ty A2 45 ⟨true,10,80,[.int .i64 0,.int .i64 0,.int .i64 0,.int .i64 0,.int .i64 0,.int .i64 0,.int .i64 0,.int .i64 0,.int .i64 0,.int .i64 0],none,[(0,1),(1,1),(2,1),(3,7)],some [(0,1),(1,1),(2,1),(3,7)],false⟩:=⟨by kernel_rfl⟩
instance T_53:Ty A2 53 ⟨false,1,24,[.slice none 0 0],some 68,[],none,false⟩:=⟨by kernel_rfl⟩
instance T_55:Ty A2 55 ⟨true,2,48,[.slice none 0 0,.slice none 0 0],none,[(0,1),(1,1)],some [(0,1),(1,1)],false⟩:=⟨by kernel_rfl⟩
instance T_68:Ty A2 68 ⟨true,3,32,[.int .i64 0,.bool false,.string ⟨#[]⟩],none,[(0,1),(1,1),(2,1)],some [(0,1),(1,1),(2,1)],false⟩:=⟨by kernel_rfl⟩
instance T_72:Ty A2 72 ⟨false,1,8,[.pointer none],none,[],none,false⟩:=⟨by kernel_rfl⟩
instance T_77:Ty A2 77 ⟨false,1,24,[.slice none 0 0],some 92,[],none,false⟩:=⟨by kernel_rfl⟩
instance T_86:Ty A2 86 ⟨false,1,24,[.slice none 0 0],some 4,[],none,false⟩:=⟨by kernel_rfl⟩
instance T_88:Ty A2 88 ⟨false,1,24,[.slice none 0 0],some 45,[],none,false⟩:=⟨by kernel_rfl⟩
instance T_92:Ty A2 92 ⟨false,1,8,[.pointer none],none,[],none,false⟩:=⟨by kernel_rfl⟩
instance T_93:Ty A2 93 ⟨false,1,8,[.pointer none],none,[],none,false⟩:=⟨by kernel_rfl⟩
instance T_94:Ty A2 94 ⟨false,1,8,[.map none],none,[],none,false⟩:=⟨by kernel_rfl⟩
instance T_96:Ty A2 96 ⟨true,10,96,[.pointer none,.int .i64 0,.int .i64 0,.int .i64 0,.int .i64 0,.int .i64 0,.int .i64 0,.int .i64 0,.slice none 0 0,.map none],none,[(0,1),(1,7),(8,1),(9,1)],some [(0,1),(1,7),(8,1),(9,1)],false⟩:=⟨by kernel_rfl⟩
instance T_99:Ty A2 99 ⟨true,2,32,[.slice none 0 0,.int .i64 0],none,[(0,1),(1,1)],some [(0,1),(1,1)],false⟩:=⟨by kernel_rfl⟩
instance T_110:Ty A2 110 ⟨false,1,24,[.slice none 0 0],some 112,[],none,false⟩:=⟨by kernel_rfl⟩
instance T_112:Ty A2 112 ⟨true,2,24,[.string ⟨#[]⟩,.int .i64 0],none,[(0,1),(1,1)],some [(0,1),(1,1)],false⟩:=⟨by kernel_rfl⟩
instance T_150:Ty A2 150 ⟨false,1,24,[.slice none 0 0],some 155,[],none,false⟩:=⟨by kernel_rfl⟩
instance T_155:Ty A2 155 ⟨true,5,64,[.int .i64 0,.string ⟨#[]⟩,.string ⟨#[]⟩,.int .i64 0,.string ⟨#[]⟩],none,[(0,1),(1,1),(2,1),(3,1),(4,1)],some [(0,1),(1,1),(2,1),(3,1),(4,1)],false⟩:=⟨by kernel_rfl⟩
instance T_180:Ty A2 180 ⟨false,1,8,[.map none],none,[],none,false⟩:=⟨by kernel_rfl⟩
instance T_203:Ty A2 203 ⟨true,16,208,[.slice none 0 0,.slice none 0 0,.slice none 0 0,.int .i64 0,.slice none 0 0,.int .i64 0,.slice none 0 0,.bool false,.int .i64 0,.int .i64 0,.int .i64 0,.int .i64 0,.int .i64 0,.int .i64 0,.int .i64 0,.bool false],none,[(0,8),(8,7),(15,1)],some [(0,8),(8,7),(15,1)],false⟩:=⟨by kernel_rfl⟩
instance T_224:Ty A2 224 ⟨false,1,8,[.pointer none],none,[],none,false⟩:=⟨by kernel_rfl⟩
instance T_225:Ty A2 225 ⟨false,1,24,[.slice none 0 0],some 224,[],none,false⟩:=⟨by kernel_rfl⟩
end Aw
end
section
open Go.RowKit
namespace Aw
variable{H0 H1:List Blk}{args caps:List AV}{tys:Array A7}{xs:Array AZ}{f:FuncId}{t:BH}
variable{P:A3}
section
variable{ops:Array A4}{Q:BA->St->Prop}{K:St->Prop}{l:List A4}{n:Nat}{env:List (Nat×AV)}{H H':List Blk}{d:BH}{op:Op}{ty:A7}{pos:String}{after:Array BF}{gd:Option (Nat×Bool)}{x x':AV}{gl:List AV}
def QlB(ks:List Nat)(h:Does P f args H0 gl x H1)(hf: ∀args w,(callFunc f args).run P w= .ok (.enter f args) w)
 (hargs:xs.toList.map (aval env)=AV.renL (rho ks H.length) args) (hks:ks.map (fun k=>H[k]?)=(H0.map (Blk.ren (rho ks H.length))).map some) (hnd:ks.Nodup)
 (hla:AV.ltL H0.length args=true) (hlg:AV.ltL H0.length gl=true) (hlH:H0.all (Blk.lt H0.length)=true) (hgl: ∀g∈gl,g.ren (rho ks H.length)∈(xs.toList.map (aval env)).flatMap AV.parts++H.flatMap Blk.parts)
 (hX: ∀R:AV->Prop,R x'->R (x.ren (rho ks H.length))) (hH: ∀R:List Blk->Prop,R H'->R (place (rho ks H.length) H ks H1++(H1.drop ks.length).map (Blk.ren (rho ks H.length)))):
 Eff P ⟨some d,.call ⟨.value (.func f),xs,tys⟩,ty,pos,after,gd⟩ env H x' H':=by
 have:=QhR (o:=⟨some d,.call ⟨.value (.func f),xs,tys⟩,ty,pos,after,gd⟩) ks h (Qec hf) hargs hks hnd hla hlg hlH hgl;have h1:=hX (fun r=>r=x') rfl;have h2:=hH (fun r=>r=H') rfl;rw[h1,h2] at this;exact this
def Qrq(ks:List Nat)(h:Does P f args H0 gl x H1)(hf: ∀args w,(callFunc f args).run P w= .ok (.enter f args) w)(ht:look env t= .fn (.func f) caps)
 (hargs:xs.toList.map (aval env)++caps=AV.renL (rho ks H.length) args) (hks:ks.map (fun k=>H[k]?)=(H0.map (Blk.ren (rho ks H.length))).map some) (hnd:ks.Nodup)
 (hla:AV.ltL H0.length args=true) (hlg:AV.ltL H0.length gl=true) (hlH:H0.all (Blk.lt H0.length)=true) (hgl: ∀g∈gl,g.ren (rho ks H.length)∈(xs.toList.map (aval env)++caps).flatMap AV.parts++H.flatMap Blk.parts)
 (hX: ∀R:AV->Prop,R x'->R (x.ren (rho ks H.length))) (hH: ∀R:List Blk->Prop,R H'->R (place (rho ks H.length) H ks H1++(H1.drop ks.length).map (Blk.ren (rho ks H.length)))):
 Eff P ⟨some d,.call ⟨.value (.tmp t),xs,tys⟩,ty,pos,after,gd⟩ env H x' H':=by
 have:=QhR (o:=⟨some d,.call ⟨.value (.tmp t),xs,tys⟩,ty,pos,after,gd⟩) ks h (QnW hf ht) hargs hks hnd hla hlg hlH hgl;have h1:=hX (fun r=>r=x') rfl;have h2:=hH (fun r=>r=H') rfl;rw[h1,h2] at this;exact this
def Qhb(ks:List Nat)(h:Does P f args H0 gl x H1)(hf: ∀args w,(callFunc f args).run P w= .ok (.enter f args) w)(ht:look env t= .fn (.func f) caps:=by rfl)
 (hargs:xs.toList.map (aval env)++caps=AV.renL (rho ks H.length) args:=by rfl) (hks:ks.map (fun k=>H[k]?)=(H0.map (Blk.ren (rho ks H.length))).map some:=by rfl) (hnd:ks.Nodup:=by decide)
 (hla:AV.ltL H0.length args=true:=by rfl) (hlg:AV.ltL H0.length gl=true:=by rfl) (hlH:H0.all (Blk.lt H0.length)=true:=by rfl) (hgl: ∀g∈gl,g.ren (rho ks H.length)∈(xs.toList.map (aval env)++caps).flatMap AV.parts++H.flatMap Blk.parts)
 (hX: ∀R:AV->Prop,R x'->R (x.ren (rho ks H.length)):=by intro R hR;simp only[AV.ren,AV.renL,rho,List.getElem?_cons_zero,List.getElem?_cons_succ];exact hR)
 (hH: ∀R:List Blk->Prop,R H'->R (place (rho ks H.length) H ks H1++(H1.drop ks.length).map (Blk.ren (rho ks H.length))):=by intro R hR;simp only[place,Blk.ren,AV.ren,AV.renL,rho,List.getElem?_cons_zero,List.getElem?_cons_succ,List.map_cons,List.map_nil,List.set_cons_zero,List.set_cons_succ,List.drop_succ_cons,List.drop_zero,List.drop_nil,List.append_nil,List.length_cons,List.length_nil,Nat.reduceAdd,Nat.zero_add];exact hR)
 (hw:awanted ops env ⟨some d,.call ⟨.value (.tmp t),xs,tys⟩,ty,pos,after,gd⟩=some true:=by rfl) (hd:AA d n=true:=by rfl) (hg:gdOk ops n ⟨some d,.call ⟨.value (.tmp t),xs,tys⟩,ty,pos,after,gd⟩=true:=by rfl)
 (k:ASeq P ops Q l ⟨n,(d,x')::env,H'⟩):ASeq P ops Q (⟨some d,.call ⟨.value (.tmp t),xs,tys⟩,ty,pos,after,gd⟩::l) ⟨n,env,H⟩:=
 QhH (Qrq ks h hf ht hargs hks hnd hla hlg hlH hgl hX hH) hw hd hg k
def Qha(ks:List Nat)(h:Does P f args H0 gl x H1)(hf: ∀args w,(callFunc f args).run P w= .ok (.enter f args) w)
 (hargs:xs.toList.map (aval env)=AV.renL (rho ks H.length) args:=by rfl) (hks:ks.map (fun k=>H[k]?)=(H0.map (Blk.ren (rho ks H.length))).map some:=by rfl) (hnd:ks.Nodup:=by decide)
 (hla:AV.ltL H0.length args=true:=by rfl) (hlg:AV.ltL H0.length gl=true:=by rfl) (hlH:H0.all (Blk.lt H0.length)=true:=by rfl) (hgl: ∀g∈gl,g.ren (rho ks H.length)∈(xs.toList.map (aval env)).flatMap AV.parts++H.flatMap Blk.parts)
 (hX: ∀R:AV->Prop,R x'->R (x.ren (rho ks H.length)):=by intro R hR;simp only[AV.ren,AV.renL,rho,List.getElem?_cons_zero,List.getElem?_cons_succ];exact hR)
 (hH: ∀R:List Blk->Prop,R H'->R (place (rho ks H.length) H ks H1++(H1.drop ks.length).map (Blk.ren (rho ks H.length))):=by intro R hR;simp only[place,Blk.ren,AV.ren,AV.renL,rho,List.getElem?_cons_zero,List.getElem?_cons_succ,List.map_cons,List.map_nil,List.set_cons_zero,List.set_cons_succ,List.drop_succ_cons,List.drop_zero,List.drop_nil,List.append_nil,List.length_cons,List.length_nil,Nat.reduceAdd,Nat.zero_add];exact hR)
 (hw:awanted ops env ⟨some d,.call ⟨.value (.func f),xs,tys⟩,ty,pos,after,gd⟩=some true:=by rfl) (hd:AA d n=true:=by rfl) (hg:gdOk ops n ⟨some d,.call ⟨.value (.func f),xs,tys⟩,ty,pos,after,gd⟩=true:=by rfl)
 (k:ASeq P ops Q l ⟨n,(d,x')::env,H'⟩):ASeq P ops Q (⟨some d,.call ⟨.value (.func f),xs,tys⟩,ty,pos,after,gd⟩::l) ⟨n,env,H⟩:=
 QhH (QlB ks h hf hargs hks hnd hla hlg hlH hgl hX hH) hw hd hg k
def QrT{dst:Option BH}(h:Eff P ⟨dst,op,ty,pos,after,gd⟩ env H x H')(hw:awanted ops env ⟨dst,op,ty,pos,after,gd⟩=some true:=by rfl)(hd:dstOk n dst=true:=by rfl)(hg:gdOk ops n ⟨dst,op,ty,pos,after,gd⟩=true:=by rfl)
 (k:K ⟨n,putE env dst x,H'⟩):AStep P ops ⟨dst,op,ty,pos,after,gd⟩ K ⟨n,env,H⟩:=astep h hw hd hg k
end
theorem Sm.recell{B:Bs}{σ:Sg}{S:Nat->Prop}{H:List Blk}{w:Ab}{k g o:Nat}{cells:List AV}{x y:AV}(h:Sm B σ S H w)(hC:H[k]? =some (.row g cells))(ho:cells[o]? =some x)(hxy: ∀v,Rel σ S H w x v->Rel σ S H w y v):
 Sm B σ S (H.set k (.row g (cells.set o y))) w/\Ev σ S H w σ S (H.set k (.row g (cells.set o y))) w:=by
 have hkl:k<H.length:=(A0.1 hC).1;have hol:o<cells.length:=(A0.1 ho).1;have hget: ∀j D,j≠k->H[j]? =some D->(H.set k (.row g (cells.set o y)))[j]? =some D:=fun j D hj hD=>(AT (fun e=>hj e.symm)).trans hD
 have e:Ev σ S H w σ S (H.set k (.row g (cells.set o y))) w:=by
  refine⟨fun _ h=>h,fun _ _=>rfl,fun j g' cells' hD=>?_,fun j g' sz T rows hD=>?_,fun j g' l hD=>?_⟩
  ·grind
  ·grind
  grind
 refine⟨⟨h.os,h.tape,h.output,h.size,h.keep,h.sLo,h.sUp,fun k' b hk=>h.σUp k' b (by grind),fun k1 k2 b h1 h2=>h.inj k1 k2 b (by grind) (by grind),fun j D hD=>?_⟩,e⟩
 by_cases hj:j=k
 ·subst hj
  rw[A6 hkl] at hD;obtain rfl:=A1 hD;rcases h.blk j _ hC with⟨b,cs,T,hb,hc,hr⟩|⟨_,hnil⟩
  ·refine .inl ⟨b,cs,T,hb,hc,fun i z hz=>?_⟩
   by_cases hi:i=o
   ·subst hi
    rw[A6 hol] at hz;obtain rfl:=A1 hz;obtain⟨v,hv,hrv⟩:=hr i x ho;exact⟨v,hv,(hxy v hrv).mono e⟩
   ·rw[AT (fun e=>hi e.symm)] at hz
    obtain⟨v,hv,hrv⟩:=hr i z hz;exact⟨v,hv,hrv.mono e⟩
  grind
 ·rw[AT (fun e=>hj e.symm)] at hD
  exact(h.blk j D hD).mono e rfl fun b _=>rfl
theorem Qk9(k o sz:Nat)(T:A7){c:Code}{Q:BA->St->Prop}{n g:Nat}{env:List (Nat×AV)}{H H':List Blk}{cells:List AV}(hk:H[k]? =some (.row g cells):=by rfl)(ho:cells[o]? =some (.d (.v (.slice none 0 0))):=by rfl)
 (hH: ∀R:List Blk->Prop,R H'->R (BI (H++[Blk.arr 0 sz T []]) k (Blk.row g (cells.set o (AV.osl H.length 0 0 0)))):=by intro R hR;simp only[List.cons_append,List.nil_append,List.set_cons_zero,List.set_cons_succ,List.length_cons,List.length_nil,Nat.zero_add,Nat.reduceAdd];exact hR)
 (h:AWP P c Q ⟨n,env,H'⟩):AWP P c Q ⟨n,env,H⟩:=by
 have:=hH (fun r=>r=H') rfl;subst this;refine Qgf ?_ h;intro B σ S a w hA;obtain⟨h1,h2,h3⟩:=hA.sm.virt sz T;have hkl:k<H.length:=(A0.1 hk).1
 obtain⟨h4,h5⟩:=h1.recell (y:= .osl H.length 0 0 0) (by rw[AF hkl];exact hk) ho (fun v hv=>by
  have:v= .slice none 0 0:=AV.conc_rel hv (y:= .slice none 0 0) rfl
  grind)
 exact⟨_,S,h4,hA.defers,hA.size,fun u=>((hA.env u).mono h2).mono h5⟩

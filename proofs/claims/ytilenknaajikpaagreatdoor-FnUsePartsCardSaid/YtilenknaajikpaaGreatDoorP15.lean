/- Of parts_card; no condition. -/
import Derived.Test.YtilenknaajikpaaGreatDoorP13
set_option linter.all false
set_option maxRecDepth 100000
set_option maxHeartbeats 8000000
open Array renaming replicate->AJ
open Go renaming ResultVar->A2,TypeId->A3,Program->A6,Operand->AB,FuncId->AP,Oper->AW,Exit->AX,Value->AY,Edge->Aa
open Go.Proofs.Tryz renaming prog->A1
open Go.RowKit renaming Hid->AU
open Go.Sem renaming run_bind->AQ
open Int renaming toNat_natCast->A7
open List renaming getElem?_eq_getElem->A0,range'->A4,map_cons->A8,mem_append_left->A9,mem_singleton->AD,getD_eq_getElem?_getD->AE,getElem?_eq_some_iff->AF,mem_of_find?_eq_some->AG,mem_range'_1->AH,all_eq_true->AI,getElem?_map->AM,mem_flatMap->AN,mapM_cons->AO,map_set->AR,map_nil->AS,map_map->AT
open Nat renaming zero_add->A5,blt->AC,le_of_ble_eq_true->AK,ble->AL,beq->AZ
open Option.some renaming inj->AA
namespace Go.Proofs.YtilenknaajikpaaGreatDoor
noncomputable section
open Go.RowKit
namespace Aw
variable{σ:Sg}{B:Bs}{c:Code}{x1 x2:AV}{gvs:List AY}{r1 r2:A2}{E:TyF}{p:Nat->Bool}{C C2:Blk}{o:AW}{a:Nat}
variable{P:A6}
def Qol(ρ:Nat->Nat): ∀(l:List AV),AV.renL ρ l=l.map (AV.ren ρ)
 |[]=>rfl
 |x::r=>by simp only[AV.renL,A8];rw[Qol ρ r]
def Qp7(ρ:Nat->Nat)(x:AV):(x.ren ρ).parts=x.parts.map (AV.ren ρ):=by
 cases x<;>simp[AV.parts,AV.ren,Qol]
theorem Qfu{ρ:Nat->Nat}{args:List AV}{g:AV}(h:g∈args.flatMap AV.parts):g.ren ρ∈(AV.renL ρ args).flatMap AV.parts:=by
 obtain⟨x,hx,hg⟩:=AN.1 h;refine AN.2 ⟨x.ren ρ,by rw[Qol];grind,?_⟩;rw[Qp7];grind
section
variable{ops:Array AW}{Q:AX->St->Prop}{K:St->Prop}{l:List AW}{n:Nat}{env:List (Nat×AV)}{H H' H1:List Blk}{d:Tmp}{ty:A3}{pos:String}{after:Array Aa}{gd:Option (Nat×Bool)}{x x':AV}{f:AP}{xs:Array AB}{tys:Array A3}{ds:List D}{gl args:List AV}{H0:List Blk}{Q0:AV->List Blk->Prop}
def QD(ks:List Nat)(h:DoesE P f args H0 gl Q0)(hf: ∀args w,(callFunc f args).run P w= .ok (.enter f args) w)
 (hargs:xs.toList.map (aval env)=AV.renL (rho ks H.length) args:=by rfl) (hks:ks.map (fun k=>H[k]?)=(H0.map (Blk.ren (rho ks H.length))).map some:=by rfl) (hnd:ks.Nodup:=by decide)
 (hla:AV.ltL H0.length args=true:=by rfl) (hlg:AV.ltL H0.length gl=true:=by rfl) (hlH:H0.all (Blk.lt H0.length)=true:=by rfl) (hgs: ∀g∈gl,g∈args.flatMap AV.parts:=by simp[AV.parts])
 (hw:awanted ops env ⟨some d,.call ⟨.value (.func f),xs,tys⟩,ty,pos,after,gd⟩=some true:=by rfl) (hd:AC d n=true:=by rfl) (hg:gdOk ops n ⟨some d,.call ⟨.value (.func f),xs,tys⟩,ty,pos,after,gd⟩=true:=by rfl)
 (k: ∀x H1,Q0 x H1->ASeq P ops Q l ⟨n,(d,x.ren (rho ks H.length))::env,place (rho ks H.length) H ks H1++(H1.drop ks.length).map (Blk.ren (rho ks H.length))⟩):
 ASeq P ops Q (⟨some d,.call ⟨.value (.func f),xs,tys⟩,ty,pos,after,gd⟩::l) ⟨n,env,H⟩:=
 QmG (Qf3 ks h (Qet hf) hargs hks hnd hla hlg hlH fun g hg=>A9 _ (by rw[hargs];exact Qfu (hgs g hg))) hd hg hw (by rintro _ _ ⟨x,H1,hq,rfl,rfl⟩;exact k x H1 hq)
def Qfb(ks:List Nat)(h:DoesE P f args H0 gl Q0)(hf: ∀args w,(callFunc f args).run P w= .ok (.enter f args) w)
 (hargs:xs.toList.map (aval env)=AV.renL (rho ks H.length) args:=by rfl) (hks:ks.map (fun k=>H[k]?)=(H0.map (Blk.ren (rho ks H.length))).map some:=by rfl) (hnd:ks.Nodup:=by decide)
 (hla:AV.ltL H0.length args=true:=by rfl) (hlg:AV.ltL H0.length gl=true:=by rfl) (hlH:H0.all (Blk.lt H0.length)=true:=by rfl) (hgs: ∀g∈gl,g∈args.flatMap AV.parts:=by simp[AV.parts])
 (hw:awanted ops env ⟨some d,.call ⟨.value (.func f),xs,tys⟩,ty,pos,after,gd⟩=some true:=by rfl) (hd:AC d n=true:=by rfl) (hg:gdOk ops n ⟨some d,.call ⟨.value (.func f),xs,tys⟩,ty,pos,after,gd⟩=true:=by rfl)
 (k: ∀x H1,Q0 x H1->K ⟨n,(d,x.ren (rho ks H.length))::env,place (rho ks H.length) H ks H1++(H1.drop ks.length).map (Blk.ren (rho ks H.length))⟩):
 AStep P ops ⟨some d,.call ⟨.value (.func f),xs,tys⟩,ty,pos,after,gd⟩ K ⟨n,env,H⟩:=
 ⟨_,Qf3 ks h (Qet hf) hargs hks hnd hla hlg hlH (fun g hg=>A9 _ (by rw[hargs];exact Qfu (hgs g hg))),hw,hd,hg,by rintro _ _ ⟨x,H1,hq,rfl,rfl⟩;exact k x H1 hq⟩
def QdF(hX: ∀R:AV->Prop,R x'->R x:=by intro R hR;simp only[AV.ren,AV.renL,rho,List.getElem?_cons_zero,List.getElem?_cons_succ,List.getElem?_nil,List.length_cons,List.length_nil,Nat.reduceAdd,Nat.reduceSub,Nat.zero_add];exact hR)
 (hH: ∀R:List Blk->Prop,R H'->R H:=by intro R hR;simp only[place,Blk.ren,AV.ren,AV.renL,rho,List.getElem?_cons_zero,List.getElem?_cons_succ,List.getElem?_nil,List.map_cons,List.map_nil,List.set_cons_zero,List.set_cons_succ,List.drop_succ_cons,List.drop_zero,List.drop_nil,List.append_nil,List.cons_append,List.nil_append,List.length_cons,List.length_nil,Nat.reduceAdd,Nat.reduceSub,Nat.zero_add];exact hR)
 (k:ASeq P ops Q l ⟨n,(d,x')::env,H'⟩):ASeq P ops Q l ⟨n,(d,x)::env,H⟩:=by
 have h1:=hX (fun r=>r=x') rfl;have h2:=hH (fun r=>r=H') rfl;rw[h1,h2];exact k
def Qlv(hX: ∀R:AV->Prop,R x'->R x:=by intro R hR;simp only[AV.ren,AV.renL,rho,List.getElem?_cons_zero,List.getElem?_cons_succ,List.getElem?_nil,List.length_cons,List.length_nil,Nat.reduceAdd,Nat.reduceSub,Nat.zero_add];exact hR)
 (hH: ∀R:List Blk->Prop,R H'->R H:=by intro R hR;simp only[place,Blk.ren,AV.ren,AV.renL,rho,List.getElem?_cons_zero,List.getElem?_cons_succ,List.getElem?_nil,List.map_cons,List.map_nil,List.set_cons_zero,List.set_cons_succ,List.drop_succ_cons,List.drop_zero,List.drop_nil,List.append_nil,List.cons_append,List.nil_append,List.length_cons,List.length_nil,Nat.reduceAdd,Nat.reduceSub,Nat.zero_add];exact hR)
 {ol:List AW} {fl ms:List Nat} {off:Nat} {Q:St->Prop} (k:Fg.PlanF P ol fl Q ms off ⟨n,(d,x')::env,H'⟩):Fg.PlanF P ol fl Q ms off ⟨n,(d,x)::env,H⟩:=by
 have h1:=hX (fun r=>r=x') rfl;have h2:=hH (fun r=>r=H') rfl;rw[h1,h2];exact k
theorem Qlw(h:Does P f (ds.map .d) [] [] x H1)(hf: ∀args w,(callFunc f args).run P w= .ok (.enter f args) w)(hd:D.weakL (xs.toList.map fun u=>(aval env u).ice H 4)=ds)(hx:x.flatA=true)(hH1:H1.all Blk.flat=true)
 (hX: ∀R:AV->Prop,R x'->R (x.ren (· +H.length)):=by intro R hR;simp only[AV.ren,AV.renL,List.length_cons,List.length_nil,Nat.reduceAdd,Nat.zero_add];exact hR) (hH: ∀R:List Blk->Prop,R H'->R (H++H1):=by intro R hR;simp only[List.cons_append,List.nil_append];exact hR)
 (hw:awanted ops env ⟨some d,.call ⟨.value (.func f),xs,tys⟩,ty,pos,after,gd⟩=some true:=by rfl) (hdn:AC d n=true:=by rfl) (hg:gdOk ops n ⟨some d,.call ⟨.value (.func f),xs,tys⟩,ty,pos,after,gd⟩=true:=by rfl)
 (k:ASeq P ops Q l ⟨n,(d,x')::env,H'⟩):ASeq P ops Q (⟨some d,.call ⟨.value (.func f),xs,tys⟩,ty,pos,after,gd⟩::l) ⟨n,env,H⟩:=by
 have h1:=hX (fun r=>r=x') rfl;have h2:=hH (fun r=>r=H') rfl;subst h1;subst h2;exact Qiv (QoL h hf hd hx hH1) hw hdn hg k
def pinL(gl:List AV):Nat->List Blk->List Blk->Prop
 |_,[],_=>True
 |i,C::r,C'::r'=>pin1 gl i C C'/\pinL gl (i+1) r r'
 |_,_::_,[]=>False
theorem Qos: ∀{H0 H1:List Blk} {j:Nat},pinL gl j H0 H1-> ∀i C,H0[i]? =some C-> ∃C',H1[i]? =some C'/\pin1 gl (j+i) C C'
 |[],_,_,_,i,C,hC=>by simp at hC
 |_::_,[],_,h,_,_,_=>h.elim
 |C0::r,C1::r',j,h,0,C,hC=>by simp at hC;subst hC;exact⟨C1,rfl,h.1⟩
 |C0::r,C1::r',j,h,i+1,C,hC=>by
  obtain⟨C',h1,h2⟩:=Qos h.2 i C (by grind)
  grind
end
inductive VRs(P:A6)(env:List (Nat×AV))(H:List Blk):List A2->List AV->Prop
 |nil:VRs P env H [] []
 |tmp {t:Tmp} {rs:List A2} {x:AV} {l:List AV} (h:look env t=x) (r:VRs P env H rs l):VRs P env H (.tmp t::rs) (x::l)
 |cell {a:Tmp} {T:A3} {rs:List A2} {k g:Nat} {cells:List AV} {F:TyF} {x:AV} {l:List AV} (h:look env a= .ptr k g 0) (hk:H[k]? =some (.row g cells)) (hT:tyf P T=some F) (hx:ldA F cells=some x) (r:VRs P env H rs l):
   VRs P env H (.cell a T::rs) (x::l)
def oneR:List AV->AV
 |[x]=>x
 |l=> .tup l
def EndR(P:A6)(H0:List Blk)(rs:List A2)(Q0:AV->List Blk->Prop)(gl:List AV)(gvs:List AY):AX->St->Prop
 |.normal,s| .ret,s=> ∃m l,VRs P s.env s.H rs l/\(oneR l).lt m=true/\(s.H.take m).all (Blk.lt m)=true/\AV.ltL m gl=true/\Q0 (oneR l) (s.H.take m)/\pinL gl 0 H0 (s.H.take m)/\look s.env gslot= .gh gl gvs
 |_,_=>False
theorem Qts{S:Nat->Prop}{s:St}{a:Act}{w:World}(hA:SmA B σ S s a w): ∀{rs:List A2} {l:List AV},VRs P s.env s.H rs l->
 ∃vs:List AY,(rs.mapM (rvS a.tmps)).run P w= .ok vs w/\l.length=vs.length/\rs.length=vs.length/\ ∀(i:Nat) d v,l[i]? =some d->vs[i]? =some v->Rel σ S s.H w d v:=by
 intro rs l h;induction h with
 |nil=>simp
 |@tmp t rs x l h r ih=>
  obtain⟨vs,h1,h2,h3,h4⟩:=ih;refine⟨a.tmps.getD t undef::vs,?_,by simp[h2],by simp[h3],fun i d v hd hv=>?_⟩
  ·rw[AO,AQ]
   show((Sem.pure (a.tmps.getD t undef)).run P w).andThen _=_
   simp_all
  ·cases i with
   |zero=>obtain rfl:=AA hd;obtain rfl:=AA hv;subst h;exact hA.env t
   |succ i=>grind
 |@cell ad T rs k g cells F x l h hk hT hld r ih=>
  obtain⟨vs,h1,h2,h3,h4⟩:=ih;have ht:=hA.env ad;rw[h] at ht;generalize hv:a.tmps.getD ad undef=tv at ht;cases ht with
  |ptr _ _ _ _ _ g' cells' hk' hgg hh=>
   rw[hk] at hk';injection (AA hk') with e1 e2;subst e1;subst e2;obtain⟨b,hb,rfl⟩:=hh rfl;rcases hA.sm.blk k _ hk with⟨b',cs,T',hb',hc,hr⟩|⟨hb',_⟩;rotate_left
   ·grind
   rw[hb] at hb';obtain rfl:=AA hb'
   obtain⟨y,g1,g2⟩:=QrS (b:=b) (o:=0) (w:=w) (S:=S) (σ:=σ) (H:=s.H) hT hld fun j d hd=>by
    obtain⟨u,hu,hr'⟩:=hr _ d hd;exact⟨u,by rw[A5,cell_of_row w b _ cs T' (0,0) hc];exact hu,hr'⟩
   refine⟨y::vs,?_,by simp[h2],by simp[h3],fun i d v hd hv=>?_⟩
   ·rw[AO,AQ]
    show((do loadVar T (<-asAddr (a.tmps.getD ad undef)):Sem AY).run P w).andThen _=_;rw[hv];have:(do loadVar T (<-asAddr (.pointer (some ⟨b,0,none⟩))):Sem AY).run P w= .ok y w:=g1
    simp_all
   grind
theorem Qh0{f:AP}{fn:Func}{args gl:List AV}{H0:List Blk}{Q0:AV->List Blk->Prop}{n:Nat}{rs:List A2}(hf:P.funcs[f]? =some fn)(hb:fn.body=some c)(hn:fn.ntmps=n)(hrs:fn.results=rs.toArray)(hle:AL args.length n=true)
 (hn2:AL n gslot=true) (h: ∀gvs,AWP P c (EndR P H0 rs Q0 gl gvs) ⟨n,(gslot,.gh gl gvs)::parA 0 args,H0⟩):DoesE P f args H0 gl Q0:=by
 have hlen:args.length<=n:=AK hle;have hn2:n<=gslot:=AK hn2;intro B σ S w cargs gvs hB hS hl hr hgl hgr;refine calls_of_wp hf hb ?_
 have hA:SmA B σ S ⟨n,(gslot,.gh gl gvs)::parA 0 args,H0⟩ {tmps:=cargs.toArray++AJ (fn.ntmps -cargs.toArray.size) undef,defers:=[]} w:=by
  refine⟨hS,rfl,?_,fun t=>?_⟩
  ·grind
  ·by_cases ht:gslot=t
   ·subst ht
    show Rel σ S H0 w (look ((gslot,.gh gl gvs)::parA 0 args) gslot) _;rw[Qdv];exact .gh _ _ _ hgl hgr
   show Rel σ S H0 w (look ((gslot,.gh gl gvs)::parA 0 args) t) _;rw[Qd1 ht];rcases Qhk args 0 t with⟨d,_,h2,h3⟩|h
   ·rw[h3]
    have ht:t<cargs.length:=by grind
    have:(cargs.toArray++AJ (fn.ntmps -cargs.toArray.size) undef).getD t undef=cargs[t]:=by
     rw[Array.getD_eq_getD_getElem?,Array.getElem?_append_left (by omega)];simp[ht]
    show Rel σ S H0 w d ((cargs.toArray++AJ (fn.ntmps -cargs.toArray.size) undef).getD t undef);rw[this];exact hr t d _ (by omega) (A0 ht)
   ·rw[h];exact .d _ _ (.any _)
 refine wp_mono (h gvs _ hB _ _ _ _ hA) ?_;rintro e a w' ⟨s',σ',S',hq,hA'⟩
 have fin:(∃m l,VRs P s'.env s'.H rs l/\(oneR l).lt m=true/\(s'.H.take m).all (Blk.lt m)=true/\AV.ltL m gl=true/\Q0 (oneR l) (s'.H.take m)/\pinL gl 0 H0 (s'.H.take m)/\look s'.env gslot= .gh gl gvs)->a.defers=[]/\ ∃v,(results fn a.tmps).run P w'= .ok v w'/\
  ∃x H1,Q0 x H1/\(∀i C,H0[i]? =some C-> ∃C',H1[i]? =some C'/\pin1 gl i C C')/\ ∃v' σ' S',Ending.returned v= .returned v'/\Sm B σ' S' H1 w'/\Rel σ' S' H1 w' x v'/\ ∀(i:Nat) d v,gl[i]? =some d->gvs[i]? =some v->Rel σ' S' H1 w' d v:=by
  rintro⟨m,l,hv,hlt,hH,hgm,hQ,hpin,hg⟩;refine⟨hA'.defers,?_⟩;obtain⟨vs,h1,h2,h3,h4⟩:=Qts hA' hv;obtain⟨h5,h6⟩:=hA'.sm.drop m hH
  have hgh: ∀(i:Nat) d v,gl[i]? =some d->gvs[i]? =some v->Rel σ' S' (s'.H.take m) w' d v:=by
   have:=hA'.env gslot;rw[hg] at this;cases this with
   |gh _ _ _ _ hh=>exact fun i d v hd hv=>h6 d v (hh i d v hd hv) (AV.ltL_get hgm hd)
  have gen:(fn.results.mapM (rvS a.tmps)).run P w'= .ok vs.toArray w':=by
   simp_all
  rw[Qfq];refine⟨if h:vs.toArray.size=1 then vs.toArray[0] else .tuple vs.toArray,?_,oneR l,s'.H.take m,hQ,fun i C hC=>by have:=Qos hpin i C hC;grind,_,σ',S',rfl,h5,h6 _ _ ?_ hlt,hgh⟩
  ·simp_all
  ·match l,vs,h2,h4 with
   |[x],[v],_,h4=>exact h4 0 x v rfl rfl
   |[],[],_,h4=>exact .tup [] [] rfl h4
   |x::y::l,u::v::vs,h2,h4=>
    have: ¬(u::v::vs).toArray.size=1:=by simp
    rw[dif_neg this];exact .tup (x::y::l) (u::v::vs) h2 h4
 cases e with
 |normal=>exact fin hq
 |ret=>exact fin hq
 |_=>exact hq.elim
inductive VR1(P:A6)(env:List (Nat×AV))(H:List Blk):A2->AV->Prop
 |tmp {t:Tmp} {x:AV} (h:look env t=x:=by rfl):VR1 P env H (.tmp t) x
 |cell {a:Tmp} {T:A3} {k g:Nat} {cells:List AV} {F:TyF} {x:AV} [hT:Ty P T F] (h:look env a= .ptr k g 0:=by rfl) (hk:H[k]? =some (.row g cells):=by rfl) (hx:ldA F cells=some x:=by rfl):VR1 P env H (.cell a T) x
def VRs.cons{P:A6}{env:List (Nat×AV)}{H:List Blk}{r:A2}{rs:List A2}{x:AV}{l:List AV}(h:VR1 P env H r x)(hr:VRs P env H rs l):VRs P env H (r::rs) (x::l):=by
 cases h with
 |tmp h=>exact .tmp h hr
 |cell h hk hx=>exact .cell h hk Ty.h hx hr
def Q3(m:Nat){P:A6}{Q:AX->St->Prop}{n:Nat}{env:List (Nat×AV)}{H H0:List Blk}{Q0:AV->List Blk->Prop}{gl:List AV}(hq:Q .ret ⟨n,env,H⟩=EndR P H0 [r1] Q0 gl gvs .ret ⟨n,env,H⟩:=by rfl)
 (h1:VR1 P env H r1 x1:=by first|exact VR1.tmp|exact VR1.cell) (hlt:(oneR [x1]).lt m=true:=by rfl) (hH:(H.take m).all (Blk.lt m)=true:=by rfl) (hgl:AV.ltL m gl=true:=by rfl) (hg:look env gslot= .gh gl gvs:=by rfl)
 (hp:pinL gl 0 H0 (H.take m):=by repeat' (first|exact True.intro|exact⟨rfl,rfl,.inl (by omega)⟩|exact⟨rfl,rfl,.inr ⟨rfl,by first|rfl|(simp;done)|(simp only[List.length_map];first|assumption|omega),_,_,by repeat(first|exact List.Mem.head _|apply List.Mem.tail)⟩⟩|exact .inr ⟨rfl,_,by repeat(first|exact List.Mem.head _|apply List.Mem.tail)⟩|refine⟨?_,?_⟩))
 (hx:Q0 (oneR [x1]) (H.take m)):AWP P .ret Q ⟨n,env,H⟩:=QfS (by rw[hq];exact⟨m,[x1],(.cons h1 .nil),hlt,hH,hgl,hx,hp,hg⟩)
def Qd3(m:Nat){P:A6}{Q:AX->St->Prop}{n:Nat}{env:List (Nat×AV)}{H H0:List Blk}{Q0:AV->List Blk->Prop}{gl:List AV}(hq:Q .ret ⟨n,env,H⟩=EndR P H0 [r1,r2] Q0 gl gvs .ret ⟨n,env,H⟩:=by rfl)
 (h1:VR1 P env H r1 x1:=by first|exact VR1.tmp|exact VR1.cell) (h2:VR1 P env H r2 x2:=by first|exact VR1.tmp|exact VR1.cell) (hlt:(oneR [x1,x2]).lt m=true:=by rfl) (hH:(H.take m).all (Blk.lt m)=true:=by rfl) (hgl:AV.ltL m gl=true:=by rfl) (hg:look env gslot= .gh gl gvs:=by rfl)
 (hp:pinL gl 0 H0 (H.take m):=by repeat' (first|exact True.intro|exact⟨rfl,rfl,.inl (by omega)⟩|exact⟨rfl,rfl,.inr ⟨rfl,by first|rfl|(simp;done)|(simp only[List.length_map];first|assumption|omega),_,_,by repeat(first|exact List.Mem.head _|apply List.Mem.tail)⟩⟩|exact .inr ⟨rfl,_,by repeat(first|exact List.Mem.head _|apply List.Mem.tail)⟩|refine⟨?_,?_⟩))
 (hx:Q0 (oneR [x1,x2]) (H.take m)):AWP P .ret Q ⟨n,env,H⟩:=QfS (by rw[hq];exact⟨m,[x1,x2],(.cons h1 (.cons h2 .nil)),hlt,hH,hgl,hx,hp,hg⟩)
def QN(m:Nat){P:A6}{Q:AX->St->Prop}{n:Nat}{env:List (Nat×AV)}{H H0:List Blk}{Q0:AV->List Blk->Prop}{r3:A2}{gl:List AV}{x3:AV}(hq:Q .ret ⟨n,env,H⟩=EndR P H0 [r1,r2,r3] Q0 gl gvs .ret ⟨n,env,H⟩:=by rfl)
 (h1:VR1 P env H r1 x1:=by first|exact VR1.tmp|exact VR1.cell) (h2:VR1 P env H r2 x2:=by first|exact VR1.tmp|exact VR1.cell) (h3:VR1 P env H r3 x3:=by first|exact VR1.tmp|exact VR1.cell) (hlt:(oneR [x1,x2,x3]).lt m=true:=by rfl) (hH:(H.take m).all (Blk.lt m)=true:=by rfl) (hgl:AV.ltL m gl=true:=by rfl) (hg:look env gslot= .gh gl gvs:=by rfl)
 (hp:pinL gl 0 H0 (H.take m):=by repeat' (first|exact True.intro|exact⟨rfl,rfl,.inl (by omega)⟩|exact⟨rfl,rfl,.inr ⟨rfl,by first|rfl|(simp;done)|(simp only[List.length_map];first|assumption|omega),_,_,by repeat(first|exact List.Mem.head _|apply List.Mem.tail)⟩⟩|exact .inr ⟨rfl,_,by repeat(first|exact List.Mem.head _|apply List.Mem.tail)⟩|refine⟨?_,?_⟩))
 (hx:Q0 (oneR [x1,x2,x3]) (H.take m)):AWP P .ret Q ⟨n,env,H⟩:=QfS (by rw[hq];exact⟨m,[x1,x2,x3],(.cons h1 (.cons h2 (.cons h3 .nil))),hlt,hH,hgl,hx,hp,hg⟩)
def pk(ks:List Nat)(i:Nat):Nat:=ks.getD i 0
def renE(ρ:Nat->Nat):List (Nat×AV)->List (Nat×AV)
 |[]=>[]
 |(t,x)::r=>(t,x.ren ρ)::renE ρ r
theorem Qma(ρ:Nat->Nat): ∀(env:List (Nat×AV)) (t:Nat),look (renE ρ env) t=(look env t).ren ρ
 |[],_=>rfl
 |(u,x)::r,t=>by
  by_cases h:u=t
  ·subst h;rw[Qdv];exact Qdv _ _ _
  ·rw[Qd1 h]
   have:look (renE ρ ((u,x)::r)) t=look (renE ρ r) t:=Qd1 h _ _;rw[this];exact Qma ρ r t
theorem Sm.pick{S:Nat->Prop}{H H':List Blk}{w:World}(hS:Sm B σ S H w)(ks:List Nat)(hks:ks.map (fun k=>H[k]?)=(H'.map (Blk.ren (pk ks))).map some)(hnd:ks.Nodup)(hlH:H'.all (Blk.lt H'.length)=true):
 Sm B (fun i=>σ (pk ks i)) S H' w/\ ∀x v,Rel σ S H w (x.ren (pk ks)) v->x.lt H'.length=true->Rel (fun i=>σ (pk ks i)) S H' w x v:=by
 have hlen:ks.length=H'.length:=by have:=congrArg List.length hks;grind
 have hk: ∀i C,H'[i]? =some C->ks[i]? =some (pk ks i)/\H[pk ks i]? =some (C.ren (pk ks)):=fun i C hC=>by
  have hi:i<ks.length:=by grind
  have e:ks[i]? =some (pk ks i):=by unfold pk;grind
  refine⟨e,?_⟩;have:=congrArg (fun l=>l[i]?) hks
  grind
 have hkl: ∀i,i<H'.length->ks[i]? =some (pk ks i)/\pk ks i<H.length:=fun i hi=>by
  obtain⟨h1,h2⟩:=hk i _ (A0 hi)
  grind
 have hm0: ∀i,i<H'.length-> ∃C,H'[i]? =some C/\H[pk ks i]? =some (C.ren (pk ks))/\σ (pk ks i)=(fun i=>σ (pk ks i)) i:=fun i hi=>
  ⟨_,A0 hi,(hk i _ (A0 hi)).2,rfl⟩
 refine⟨⟨hS.os,hS.tape,hS.output,hS.size,hS.keep,hS.sLo,hS.sUp,fun i b hi hb=>hS.σUp _ b (hkl i hi).2 hb,fun i j b hi hj hb hb'=>?_,fun i C hC=>?_⟩,fun x v h hx=>h.down hm0 x rfl hx⟩
 ·obtain⟨h1,h2⟩:=hkl i hi
  obtain⟨h3,h4⟩:=hkl j hj;have:=hS.inj _ _ b h2 h4 hb hb';rw[<-this] at h3;obtain⟨hi',e1⟩:=AF.1 h1;obtain⟨hj',e2⟩:=AF.1 h3;have hp:=List.pairwise_iff_getElem.1 hnd
  grind
 ·have hb:=hS.blk _ _ (hk i C hC).2
  have hlt:=AI.1 hlH C (List.mem_of_getElem? hC);cases C with
  |none=>exact hb
  |row g cells=>
   rcases hb with⟨b,cs,T,hb,hc,hr⟩|⟨hb,hc⟩
   ·refine .inl ⟨b,cs,T,hb,hc,fun j y hy=>?_⟩
    obtain⟨u,hu,hr'⟩:=hr j (y.ren (pk ks)) (by rw[AV.renL_get,hy];rfl);exact⟨u,hu,hr'.down hm0 y rfl (AV.ltL_get hlt hy)⟩
   ·refine .inr ⟨hb,?_⟩
    cases cells with
    |nil=>rfl
    |cons=>simp[AV.renL] at hc
  |arr g sz T rows=>exact hb
  |mp g l=>exact hb
def Ql5(ts ks:List Nat){n:Nat}{env env':List (Nat×AV)}{H H':List Blk}(he:keepE env ts=renE (pk ks) env')(hks:ks.map (fun k=>H[k]?)=(H'.map (Blk.ren (pk ks))).map some)(hnd:ks.Nodup)
 (h1:envLt H'.length env'=true) (h2:H'.all (Blk.lt H'.length)=true):Weak ⟨n,env,H⟩ ⟨n,env',H'⟩:=by
 intro B σ S a w hA;obtain⟨h3,h4⟩:=hA.sm.pick ks hks hnd h2;refine⟨_,S,h3,hA.defers,hA.size,fun t=>?_⟩;have hl:=Qma (pk ks) env' t;rw[<-he] at hl;rcases QjZ env ts t with h|h
 ·refine h4 _ _ ?_ (QhS h1 t)
  rw[<-hl,h];exact hA.env t
 ·rw[h] at hl
  simp only;cases hx:look env' t<;>rw[hx] at hl<;>simp only[AV.ren,reduceCtorEq,AV.d.injEq] at hl;rw[<-hl];exact .d _ _ (.any _)
def QdV(ts ks:List Nat){Q:AX->St->Prop}{n:Nat}{env env':List (Nat×AV)}{H H':List Blk}(he:keepE env ts=renE (pk ks) env':=by rfl)(hks:ks.map (fun k=>H[k]?)=(H'.map (Blk.ren (pk ks))).map some:=by rfl)(hnd:ks.Nodup:=by decide)
 (h1:envLt H'.length env'=true:=by rfl) (h2:H'.all (Blk.lt H'.length)=true:=by rfl) (h:AWP P c Q ⟨n,env',H'⟩):AWP P c Q ⟨n,env,H⟩:=QgD (Ql5 ts ks he hks hnd h1 h2) h
theorem QtS{P:A6}{dst:Option Tmp}{ty:A3}{pos:String}{after:Array Aa}{gd:Option (Nat×Bool)}{env:List (Nat×AV)}{H:List Blk}{κ:Nat}{T e:A3}{F:TyF}{n:Nat}{parts:Array (Nat×AB)}{rows:List (List D)}(hH:H.length=κ)(hT:tyf P T=some F)(he:F.elem=some e)(hE:tyf P e=some E)
 (hz:E.zero.length=E.size:=by rfl) (hc: ∀R:Option (List (List D))->Prop,R (some rows)->R ((fillA (fun i=>some (i*E.size,E.size)) env (List.replicate n (E.zero.map fun v=>AV.d (.v v))).flatten parts.toList).bind (chunk E.size n)):=by
   intro R hR;simp only[go_sem,chunk,Option.bind_some,List.replicate_succ,List.replicate_zero,List.flatten_cons,List.flatten_nil,List.append_nil,List.cons_append,List.nil_append,Nat.zero_mul,Nat.reduceMul,Nat.reduceEqDiff,Nat.reduceAdd,Nat.reduceLT,Nat.reduceLeDiff,↓reduceIte,reduceCtorEq,List.take_nil,List.drop_nil];exact hR)
 (hm:AL (n*E.size) 16777216=true:=by rfl) (hn:AL n 16777216=true:=by rfl):Loc P ⟨dst,.buildSlice T n parts,ty,pos,after,gd⟩ env H (.osl κ 0 0 n) (some (.arr 0 E.size e rows)):=by subst hH;exact Qjd hT he hE hz hc hm hn
namespace Fk
variable{P:A6}{ops:List AW}{fl:List Nat}{fa:Fas}
def QiY(p:Nat->Bool)(ρ:Nat->Nat): ∀(ks:List Nat) (H Cs:List Blk),(∀k∈ks,p k=false)->place ρ (maskP p H) ks Cs=maskP p (place ρ H ks Cs)
 |[],H,Cs,_=>by cases Cs<;>rfl
 |_::_,H,[],_=>rfl
 |k::ks,H,C::Cs,h=>by
  simp only[place];rw[QiX (h k List.mem_cons_self)];exact QiY p ρ ks _ Cs fun j hj=>h j (List.mem_cons_of_mem _ hj)
def kapOk(kp ks:List Nat)(h:Nat):Bool:=kp.all fun k=> !(ks.any (AZ k))&&AC k h
theorem Qke{kp ks:List Nat}{h:Nat}(hk:kapOk kp ks h=true)(hp: ∀k,p k=true->k∈kp):(∀k∈ks,p k=false)/\ ∀k,p k=true->k<h:=by
 have h0:=AI.1 hk;refine⟨fun k hkk=>?_,fun k hpk=>?_⟩
 ·cases hpk:p k with
  |false=>rfl
  |true=>
   have h1:=h0 k (hp k hpk);have:ks.any (AZ k)=true:=List.any_eq_true.2 ⟨k,hkk,by simp⟩
   grind
 simp_all
theorem Qs3{env:List (Nat×AV)}{H H0:List Blk}{d:Option Tmp}{ty:A3}{pos:String}{after:Array Aa}{gd:Option (Nat×Bool)}{f:AP}{xs:Array AB}{tys:Array A3}{gl args:List AV}{Q0:AV->List Blk->Prop}{kp:List Nat}
 (ks:List Nat) (h:DoesE P f args H0 gl Q0) (hf: ∀args w,(callFunc f args).run P w= .ok (.enter f args) w) (hargs:xs.toList.map (aval env)=AV.renL (rho ks H.length) args)
 (hks:ks.map (fun k=>H[k]?)=(H0.map (Blk.ren (rho ks H.length))).map some) (hnd:ks.Nodup) (hla:AV.ltL H0.length args=true) (hlg:AV.ltL H0.length gl=true) (hlH:H0.all (Blk.lt H0.length)=true) (hgs: ∀g∈gl,g∈args.flatMap AV.parts) (hkp:kapOk kp ks H.length=true):
 EffM P ⟨d,.call ⟨.value (.func f),xs,tys⟩,ty,pos,after,gd⟩ env H kp (fun y K=> ∃x H1,Q0 x H1/\y=x.ren (rho ks H.length)/\K=place (rho ks H.length) H ks H1++(H1.drop ks.length).map (Blk.ren (rho ks H.length))):=by
 intro p hp;obtain⟨hn,hl⟩:=Qke hkp hp;have e:=Qgh p H;intro B σ S a w hB hS hop K Q kk;refine Qf3 (H:=maskP p H) (env:=env) (avs:=xs.toList.map (aval env)) ks h (Qet hf) (by grind) ?_ hnd hla hlg hlH (fun g hg=>A9 _ (by rw[e,hargs];exact Qfu (hgs g hg))) B σ S a w hB hS hop K Q ?_
 ·rw[e,<-hks]
  refine List.map_congr_left fun k hk=>?_
  rw[QdK,hn k hk]
  grind
 ·rintro x K' ⟨x1,H1,hq,rfl,rfl⟩
  rw[e];refine kk _ _ ⟨_,⟨x1,H1,hq,rfl,rfl⟩,?_,fun k hk=>?_⟩
  ·rw[QiY p _ ks H H1 hn,QlZ (by rw[Qhh];exact hl)]
  ·rw[List.getElem?_append_left (by rw[Qhh];grind),QfH _ _ _ _ _ fun hm=>by grind]
section
variable{Q:AX->St->Prop}{K:St->Prop}{n m:Nat}{env:List (Nat×AV)}{H:List Blk}{d:Tmp}{ty:A3}{pos:String}{after:Array Aa}{gd:Option (Nat×Bool)}{f:AP}{xs:Array AB}{tys:Array A3}{gl args:List AV}{H0:List Blk}{Q0:AV->List Blk->Prop}
def guessOk(ops:List AW)(fl ms:List Nat)(mq:List (Nat×Nat)):Bool:=mq.all (fun t=>(match ops[t.1]? with|some o=>o.dst==some t.2|none=>false)&& !memN fl t.1&&memN ms t.1)&&ascN ms
def kps_nil{H:List Blk}:KPs [] H:=fun q hq=>by cases hq
theorem kps_no{ops:List AW}{fl:List Nat}{off:Nat}{kp:List (Nat×Blk)}{H:List Blk}(h:pend ops fl off=false):pend ops fl off=true->KPs kp H:=fun e=>by grind
theorem kps_one{k:Nat}{H:List Blk}(h:H[k]? =some C):KPs [(k,C)] H:=fun q hq=>by grind
theorem kps_two{k k2:Nat}{H:List Blk}(h:H[k]? =some C)(h2:H[k2]? =some C2):KPs [(k,C),(k2,C2)] H:=fun q hq=>by
 grind
theorem kps_three{k k2 k3:Nat}{C3:Blk}{H:List Blk}(h:H[k]? =some C)(h2:H[k2]? =some C2)(h3:H[k3]? =some C3):KPs [(k,C),(k2,C2),(k3,C3)] H:=fun q hq=>by
 grind
theorem Qj9(fl ms:List Nat)(Cs kp:List (Nat×Blk))(ts:Tl){id:Nat}(hm:P.follows .mixedOrders=true)(hok:drawOk ops.toArray=true)(hgok:ops.all (gdOk ops.toArray n)=true)
 (hfo:Qg8 ops fl (ts.map (·.1)) n=true) (hg0:guessOk ops fl ms (ts.map fun t=>(t.1,t.2.1))=true) (h:Flts P ops ⟨mkFa H.length Cs,kp⟩ (fun env=>PlanF P ops fl ⟨mkFa H.length Cs,kp⟩ ts (Q .normal) ms 0 ⟨n,ungs ts env,H++Cs.map (·.2)⟩) fl (ts.map (·.2)++env)) (hgv: ∀t∈ts,look (ts.map (·.2)++env) t.2.1=t.2.2) (hcs:Cs.all (fun q=>memN fl q.1)=true) (hnd:(Cs.map (·.1)).Nodup) (hkp:KPs kp H):
 AWP P (.region id ops.toArray true) Q ⟨n,env,H⟩:=awp_drawF0 fl ms Cs kp ts hm hok hgok hfo (fun t ht=>by
  unfold guessOk at hg0;simp only[Bool.and_eq_true,AI,Bool.not_eq_true'] at hg0;obtain⟨⟨h1,h2⟩,h3⟩:=hg0.1 (t.1,t.2.1) (List.mem_map.2 ⟨t,ht,rfl⟩);refine⟨?_,h2,QdI.1 h3,hg0.2⟩
  grind) hgv hcs hnd hkp h
def awp_drawG(fl ms:List Nat)(Cs kp:List (Nat×Blk))(m0 q0:Nat)(v0:AV){id:Nat}(h:Flts P ops ⟨mkFa H.length Cs,kp⟩ (fun env=>PlanF P ops fl ⟨mkFa H.length Cs,kp⟩ [(m0,q0,v0)] (Q .normal) ms 0 ⟨n,ungs [(m0,q0,v0)] env,H++Cs.map (·.2)⟩) fl ((q0,v0)::env))
 (hm:P.follows .mixedOrders=true:=by exact follows_mixed) (hok:drawOk ops.toArray=true:=by kernel_rfl) (hgok:ops.all (gdOk ops.toArray n)=true:=by kernel_rfl) (hfo:Qg8 ops fl [m0] n=true:=by kernel_rfl) (hg0:guessOk ops fl ms [(m0,q0)]=true:=by kernel_rfl) (hcs:Cs.all (fun q=>memN fl q.1)=true:=by rfl) (hnd:(Cs.map (·.1)).Nodup:=by simp) (hkp:KPs kp H:=by first|exact Fk.kps_nil|exact Fk.kps_one rfl|exact Fk.kps_two rfl rfl|exact Fk.kps_three rfl rfl rfl):
 AWP P (.region id ops.toArray true) Q ⟨n,env,H⟩:=Qj9 fl ms Cs kp [(m0,q0,v0)] hm hok hgok hfo hg0 h (fun t ht=>by rw[AD.1 ht];exact Qdv _ _ _) hcs hnd hkp
theorem awp_drawG2(fl ms:List Nat)(Cs kp:List (Nat×Blk))(m0 q0:Nat)(v0:AV)(m1 q1:Nat)(v1:AV){id:Nat}(h:Flts P ops ⟨mkFa H.length Cs,kp⟩ (fun env=>PlanF P ops fl ⟨mkFa H.length Cs,kp⟩ [(m0,q0,v0),(m1,q1,v1)] (Q .normal) ms 0 ⟨n,ungs [(m0,q0,v0),(m1,q1,v1)] env,H++Cs.map (·.2)⟩) fl ((q0,v0)::(q1,v1)::env))
 (hm:P.follows .mixedOrders=true:=by exact follows_mixed) (hok:drawOk ops.toArray=true:=by kernel_rfl) (hgok:ops.all (gdOk ops.toArray n)=true:=by kernel_rfl) (hfo:Qg8 ops fl [m0,m1] n=true:=by kernel_rfl) (hg0:guessOk ops fl ms [(m0,q0),(m1,q1)]=true:=by kernel_rfl) (hq:AZ q0 q1=false:=by rfl) (hcs:Cs.all (fun q=>memN fl q.1)=true:=by rfl) (hnd:(Cs.map (·.1)).Nodup:=by simp) (hkp:KPs kp H:=by first|exact Fk.kps_nil|exact Fk.kps_one rfl|exact Fk.kps_two rfl rfl|exact Fk.kps_three rfl rfl rfl):
 AWP P (.region id ops.toArray true) Q ⟨n,env,H⟩:=Qj9 fl ms Cs kp [(m0,q0,v0),(m1,q1,v1)] hm hok hgok hfo hg0 h (fun t ht=>by
  rcases List.mem_cons.1 ht with rfl|ht
  ·exact Qdv _ _ _
  ·rw[AD.1 ht]
   refine(Qd1 (fun e=>?_) _ _).trans (Qdv _ _ _)
   simp_all) hcs hnd hkp
def awp_drawF(fl ms:List Nat)(Cs kp:List (Nat×Blk)){id:Nat}(h:Flts P ops ⟨mkFa H.length Cs,kp⟩ (fun env=>PlanF P ops fl ⟨mkFa H.length Cs,kp⟩ [] (Q .normal) ms 0 ⟨n,ungs [] env,H++Cs.map (·.2)⟩) fl env)
 (hm:P.follows .mixedOrders=true:=by exact follows_mixed) (hok:drawOk ops.toArray=true:=by kernel_rfl) (hgok:ops.all (gdOk ops.toArray n)=true:=by kernel_rfl) (hfo:Qg8 ops fl [] n=true:=by kernel_rfl) (hg0:ascN ms=true:=by kernel_rfl) (hcs:Cs.all (fun q=>memN fl q.1)=true:=by rfl) (hnd:(Cs.map (·.1)).Nodup:=by simp) (hkp:KPs kp H:=by first|exact Fk.kps_nil|exact Fk.kps_one rfl|exact Fk.kps_two rfl rfl|exact Fk.kps_three rfl rfl rfl):
 AWP P (.region id ops.toArray true) Q ⟨n,env,H⟩:=Qj9 fl ms Cs kp [] hm hok hgok hfo hg0 h (fun t ht=>by cases ht) hcs hnd hkp
def aw_callM(ks:List Nat)(h:DoesE P f args H0 gl Q0)(hf: ∀args w,(callFunc f args).run P w= .ok (.enter f args) w)(hkp:kapOk (kap ops fa m) ks H.length=true:=by kernel_rfl)
 (hargs:xs.toList.map (aval env)=AV.renL (rho ks H.length) args:=by rfl) (hks:ks.map (fun k=>H[k]?)=(H0.map (Blk.ren (rho ks H.length))).map some:=by rfl) (hnd:ks.Nodup:=by decide)
 (hla:AV.ltL H0.length args=true:=by rfl) (hlg:AV.ltL H0.length gl=true:=by rfl) (hlH:H0.all (Blk.lt H0.length)=true:=by rfl) (hgs: ∀g∈gl,g∈args.flatMap AV.parts:=by simp[AV.parts])
 (hw:awanted ops.toArray env ⟨some d,.call ⟨.value (.func f),xs,tys⟩,ty,pos,after,gd⟩=some true:=by rfl) (hd:AC d n=true:=by rfl) (hg:gdOk ops.toArray n ⟨some d,.call ⟨.value (.func f),xs,tys⟩,ty,pos,after,gd⟩=true:=by rfl)
 (k: ∀x H1,Q0 x H1->K ⟨n,(d,x.ren (rho ks H.length))::env,place (rho ks H.length) H ks H1++(H1.drop ks.length).map (Blk.ren (rho ks H.length))⟩):
 AStepM P ops.toArray ⟨some d,.call ⟨.value (.func f),xs,tys⟩,ty,pos,after,gd⟩ (kap ops fa m) K ⟨n,env,H⟩:=
 ⟨_,Qs3 ks h hf hargs hks hnd hla hlg hlH hgs hkp,hw,hd,hg,by rintro _ _ ⟨x,H1,hq,rfl,rfl⟩;exact k x H1 hq⟩
def Grew(m:Nat)(K:St->Prop)(s:St):Prop:=AL m s.H.length=true/\K s
def aw_grew{m n:Nat}{K:St->Prop}{env:List (Nat×AV)}{H:List Blk}(h:AL m H.length=true:=by rfl)(k:K ⟨n,env,H⟩):Grew m K ⟨n,env,H⟩:=⟨h,k⟩
def aw_stepM(h:AStep P ops.toArray o K ⟨n,env,H⟩)(hkp:kap ops fa m=[]:=by kernel_rfl):AStepM P ops.toArray o (kap ops fa m) K ⟨n,env,H⟩:=by
 rw[hkp];exact Fg.Qtf (fun _ h=>h) h
variable{KE:List (Nat×AV)->Prop}{i:Nat}{r ms:List Nat}{op:Op}{x x':AV}{off:Nat}{s:St}{QS:St->Prop}
def aw_flt(ho:ops[i]? =some ⟨some d,op,ty,pos,after,gd⟩:=by rfl)(hk:kof fa i=none:=by rfl)(h: ∀H:List Blk,∀R:Option (AV×Option Blk)->Prop,R (some (x,none))->R (evOp P env H op):=by intro H R hR;simp only[go_sem,Nat.reduceEqDiff,Nat.reduceAdd,Nat.reduceLT,Nat.reduceLeDiff,↓reduceIte,reduceCtorEq];exact hR)
 (k:Flts P ops fa KE r ((d,x)::env)):Flts P ops fa KE (i::r) env:=⟨_,x,ho,by rw[hk];exact fun H _=>Qju (h H (fun q=>q=some (x,none)) rfl),k⟩
theorem aw_fltL(ho:ops[i]? =some ⟨some d,op,ty,pos,after,gd⟩:=by rfl)(hk:kof fa i=none:=by rfl)(hl: ∀H,Loc P ⟨some d,op,ty,pos,after,gd⟩ env H x none)(k:Flts P ops fa KE r ((d,x)::env)):Flts P ops fa KE (i::r) env:=⟨_,x,ho,by grind,k⟩
def aw_fltK(κ:Nat)(hl: ∀H:List Blk,H[κ]? =some C->Loc P ⟨some d,op,ty,pos,after,gd⟩ env H x none)(ho:ops[i]? =some ⟨some d,op,ty,pos,after,gd⟩:=by rfl)(hk:kof fa i=none:=by rfl)(hm:(κ,C)∈fa.kp:=by first|exact .head _|exact .tail _ (.head _)|exact .tail _ (.tail _ (.head _)))
 (k:Flts P ops fa KE r ((d,x)::env)):Flts P ops fa KE (i::r) env:=⟨_,x,ho,by rw[hk];exact fun H hH=>hl H (hH _ hm),k⟩
theorem aw_fltA(κ:Nat){T:A3}{F:TyF}(k:Flts P ops fa KE r ((d,.ptr κ 0 0)::env))(ho:ops[i]? =some ⟨some d,.alloc T,ty,pos,after,gd⟩:=by rfl)(hk:kof fa i=some (κ,C):=by rfl)(hT:tyf P T=some F:=by exact Ty.h)(hC:C= .row 0 (F.zero.map fun v=> .d (.v v)):=by rfl):Flts P ops fa KE (i::r) env:=
 ⟨_,.ptr κ 0 0,ho,by
   rw[hk];intro H hH;refine Qju ?_;show((tyf P T).map fun F=>(AV.ptr H.length 0 0,some (Blk.row 0 (F.zero.map fun v=> .d (.v v)))))=_
   grind,k⟩
variable{ts:Tl}{env':List (Nat×AV)}{H':List Blk}
theorem aw_fltN(k:PlanF P ops fl fa ts QS ms off ⟨n,env',H⟩)(he: ∀R:List (Nat×AV)->Prop,R env'->R (ungs ts env):=by intro R hR;simp only[Fk.ungs,List.foldr_cons,List.foldr_nil,Fk.ungE,Nat.reduceBEq,cond_true,cond_false];exact hR):Flts P ops fa (fun env=>PlanF P ops fl fa ts QS ms off ⟨n,ungs ts env,H⟩) [] env:=by
 have h1:=he (fun r=>r=env') rfl;show PlanF P ops fl fa ts QS ms off ⟨n,ungs ts env,H⟩
 grind
def aw_planFN(h:ADraw P ops.toArray QS (segF fl ops.length off (ops.drop off)) s)(hkp:pend ops fl off=true->KPs fa.kp s.H:=by first|exact fun _=>Fk.kps_nil|exact fun _=>Fk.kps_one rfl|exact fun _=>Fk.kps_two rfl rfl|exact fun _=>Fk.kps_three rfl rfl rfl|exact Fk.kps_no (by kernel_rfl)):PlanF P ops fl fa ts QS [] off s:=⟨hkp,h⟩
def aw_planFC(h:ADraw P ops.toArray (AStepM P ops.toArray o (kap ops fa m) (Gs m ts (PlanF P ops fl fa ts QS ms (m+1)))) (segF fl m off (ops.drop off)) s)(h1:AL off m=true:=by rfl)(h2:barOkF ops fl m=true:=by kernel_rfl)(ho:ops[m]? =some o:=by rfl)(hkp:pend ops fl off=true->KPs fa.kp s.H:=by first|exact fun _=>Fk.kps_nil|exact fun _=>Fk.kps_one rfl|exact fun _=>Fk.kps_two rfl rfl|exact fun _=>Fk.kps_three rfl rfl rfl|exact Fk.kps_no (by kernel_rfl)):PlanF P ops fl fa ts QS (m::ms) off s:=
 ⟨hkp,h1,h2,o,ho,h⟩
def aw_gs(hg:Gt m env ts:=by repeat' (first|exact trivial|refine And.intro ?_ ?_|(refine fun h=>absurd h ?_;decide)|(intro _;rfl)))(k:K ⟨n,env,H⟩):Gs m ts K ⟨n,env,H⟩:=⟨hg,k⟩
def aw_nrmM(hX: ∀R:AV->Prop,R x'->R x:=by intro R hR;simp only[AV.ren,AV.renL,rho,List.getElem?_cons_zero,List.getElem?_cons_succ,List.getElem?_nil,List.length_cons,List.length_nil,Nat.reduceAdd,Nat.reduceSub,Nat.zero_add];exact hR)
 (hH: ∀R:List Blk->Prop,R H'->R H:=by intro R hR;simp only[place,Blk.ren,AV.ren,AV.renL,rho,List.getElem?_cons_zero,List.getElem?_cons_succ,List.getElem?_nil,List.map_cons,List.map_nil,List.set_cons_zero,List.set_cons_succ,List.drop_succ_cons,List.drop_zero,List.drop_nil,List.append_nil,List.cons_append,List.nil_append,List.length_cons,List.length_nil,Nat.reduceAdd,Nat.reduceSub,Nat.zero_add];exact hR)
 (hg:Gt m ((d,x')::env) ts:=by repeat' (first|exact trivial|refine And.intro ?_ ?_|(refine fun h=>absurd h ?_;decide)|(intro _;rfl)))
 (k:PlanF P ops fl fa ts QS ms off ⟨n,(d,x')::env,H'⟩):Gs m ts (PlanF P ops fl fa ts QS ms off) ⟨n,(d,x)::env,H⟩:=by
 have h1:=hX (fun r=>r=x') rfl;have h2:=hH (fun r=>r=H') rfl;rw[h1,h2];exact⟨hg,k⟩
end
theorem Quq{env:List (Nat×AV)}{H:List Blk}{k:Nat}{x:AV}{kp:List Nat}(h: ∀H':List Blk,H'[k]? =H[k]? ->Eff P o env H' x (H'.set k C))(hk:kapOk kp [k] H.length=true):EffM P o env H kp (fun y K=>y=x/\K=H.set k C):=by
 intro p hp;obtain⟨hn,hl⟩:=Qke hk hp;have hpk:=hn k (AD.2 rfl);intro B σ S a w hB hS hop K Q kk;refine h (maskP p H) (by rw[QdK,hpk];grind) B σ S a w hB hS hop K Q ?_;intro v w' σ' S' h1 h2 h3;refine kk x _ ⟨H.set k C,⟨rfl,rfl⟩,QiX hpk,fun j hj=>?_⟩ v w' σ' S' h1 h2 h3
 grind
section
variable{K:St->Prop}{n m:Nat}{env:List (Nat×AV)}{H H':List Blk}{d:Tmp}{ty:A3}{pos:String}{after:Array Aa}{gd:Option (Nat×Bool)}{KE:List (Nat×AV)->Prop}{i:Nat}{r:List Nat}{op:Op}{x:AV}
theorem aw_fltB(κ:Nat)(ho:ops[i]? =some ⟨some d,op,ty,pos,after,gd⟩)(hk:kof fa i=some (κ,C))(hl: ∀H:List Blk,H.length=κ->Loc P ⟨some d,op,ty,pos,after,gd⟩ env H x (some C))(k:Flts P ops fa KE r ((d,x)::env)):Flts P ops fa KE (i::r) env:=
 ⟨_,x,ho,by grind,k⟩
theorem aw_fltS(κ:Nat){T e:A3}{F:TyF}{sz:Nat}(ho:ops[i]? =some ⟨some d,.buildSlice T 0 #[],ty,pos,after,gd⟩) [hT:Ty P T F](he:F.elem=some e) [hE:Ty P e E](hk:kof fa i=some (κ,.arr 0 sz e []))(hsz:E.size=sz)(hz:E.zero.length=E.size)(k:Flts P ops fa KE r ((d,.osl κ 0 0 0)::env)):Flts P ops fa KE (i::r) env:=
 aw_fltB κ ho hk (fun H hH=>by subst hsz;exact QtS hH hT.h he hE.h hz (by intro R hR;exact hR) (by simp) rfl) k
theorem aw_appM{T e:A3}{F:TyF}{s x:AB}{k g len:Nat}{c:Bool}{rows newrows:List (List D)}(hkp:kapOk (kap ops fa m) [k] H.length=true)(hT:tyf P T=some F)(he:F.elem=some e)(hE:tyf P e=some E)(hz:E.zero.length=E.size:=by rfl)(hpos:AC 0 E.size=true:=by rfl)
 (hs:aval env s= .osl k g 0 len:=by rfl) (hk:H[k]? =some (.arr g E.size e rows):=by rfl) (hlen:len=rows.length:=by first|rfl|simp)
 (hx:aval env x= .d (.sl c E.size newrows):=by rfl) (hcell: ∀r∈newrows,∀d∈r,d.cell=true)
 (hb:(rows.length+newrows.length)*E.bytes<=140737488355328)
 (hw:awanted ops.toArray env ⟨some d,.call ⟨.builtin .append, #[s,x], #[T,T]⟩,ty,pos,after,gd⟩=some true:=by rfl) (hd:AC d n=true:=by rfl) (hg:gdOk ops.toArray n ⟨some d,.call ⟨.builtin .append, #[s,x], #[T,T]⟩,ty,pos,after,gd⟩=true:=by rfl)
 (hH: ∀R:List Blk->Prop,R H'->R (H.set k (.arr (g+1) E.size e (rows++newrows))):=by intro R hR;simp only[List.set_cons_zero,List.set_cons_succ,Nat.zero_add,Nat.reduceAdd];exact hR)
 (hby:AC 0 E.bytes=true:=by rfl)
 (kk:K ⟨n,(d,.osl k (g+1) 0 (rows.length+newrows.length))::env,H'⟩):AStepM P ops.toArray ⟨some d,.call ⟨.builtin .append, #[s,x], #[T,T]⟩,ty,pos,after,gd⟩ (kap ops fa m) K ⟨n,env,H⟩:=by
 have hby':0<E.bytes:=by simp_all
 have hmul:rows.length+newrows.length<=(rows.length+newrows.length)*E.bytes:=Nat.le_mul_of_pos_right _ hby';have hq:=hH (fun r=>r=H') rfl;refine⟨_,Quq (fun H1 e=>Qjz (newrows:=newrows) hT he hE hz (by simp_all) hs (e.trans hk) hlen (QqV hx hcell) hb (by omega)) hkp,hw,hd,hg,?_⟩;rintro _ _ ⟨rfl,rfl⟩;rw[hq];exact kk
end
end Fk
attribute [local irreducible] ASeq ADraw AWP Loc AStep Fg.PlanF Fg.Flts EndR
section
variable{P:A6}{ops:Array AW}{K:St->Prop}{Q:AX->St->Prop}{l:List AW}{n:Nat}{env:List (Nat×AV)}{H H':List Blk}{ty:A3}{pos:String}{after:Array Aa}{gd:Option (Nat×Bool)}{T T0:A3}{F:TyF}{u v:AB}{k g i j sz:Nat}{rows rows':List (List D)}{r:List D}{x:D}
def QmA(hT:tyf P T=some F)(hu:aval env u= .ept k g i j)(hk:H[k]? =some (.arr g sz T0 rows))(hr:rows[i]? =some r)(hn:rows.set i (r.set j x)=rows')(hv:aval env v= .d x:=by rfl)(hj:AC j r.length=true:=by rfl)(hone:x.cell=true:=by rfl)(hsz:F.size=1:=by rfl)
 (hw:awanted ops env ⟨none,.store T u v,ty,pos,after,gd⟩=some true:=by rfl) (hg:gdOk ops n ⟨none,.store T u v,ty,pos,after,gd⟩=true:=by rfl)
 (hH: ∀R:List Blk->Prop,R H'->R (H.set k (.arr g sz T0 rows')):=by intro R hR;simp only[List.set_cons_zero,List.set_cons_succ,Nat.zero_add];exact hR)
 (kk:K ⟨n,env,H'⟩):AStep P ops ⟨none,.store T u v,ty,pos,after,gd⟩ K ⟨n,env,H⟩:=
 astep (QgA hT hu hk hr (by simpa using hj) hv hone hsz) hw rfl hg (by have:=hH (fun r=>r=H') rfl;rw[hn,this];exact kk)
def Qiu(hT:tyf P T=some F)(hu:aval env u= .ept k g i j)(hk:H[k]? =some (.arr g sz T0 rows))(hr:rows[i]? =some r)(hn:rows.set i (r.set j x)=rows')(hv:aval env v= .d x:=by rfl)(hj:AC j r.length=true:=by rfl)(hone:x.cell=true:=by rfl)(hsz:F.size=1:=by rfl)
 (hw:awanted ops env ⟨none,.store T u v,ty,pos,after,gd⟩=some true:=by rfl) (hg:gdOk ops n ⟨none,.store T u v,ty,pos,after,gd⟩=true:=by rfl)
 (hH: ∀R:List Blk->Prop,R H'->R (H.set k (.arr g sz T0 rows')):=by intro R hR;simp only[List.set_cons_zero,List.set_cons_succ,Nat.zero_add];exact hR)
 (kk:ASeq P ops Q l ⟨n,env,H'⟩):ASeq P ops Q (⟨none,.store T u v,ty,pos,after,gd⟩::l) ⟨n,env,H⟩:=
 QjE (QgA hT hu hk hr (by simpa using hj) hv hone hsz) hw hg (by have:=hH (fun r=>r=H') rfl;rw[hn,this];exact kk)
end
abbrev rI(l:List Int):List (List D):=l.map fun n=>[dI n]
abbrev rS(l:List (List UInt8)):List (List D):=l.map fun s=>[dS s]
def Qgb{l:List Int}(h:a<l.length):(rI l)[0+(a:Int).toNat]? =some [dI (l.getD a 0)]:=by
 rw[A5,A7,AM,AE,A0 h];rfl
def QjR{l:List Int}{x y:Int}:(rI l).set (0+(a:Int).toNat) ([dI x].set 0 (dI y))=rI (l.set a y):=by
 rw[A5,A7];exact AR.symm
def QjQ{l:List (List UInt8)}(h:a<l.length):(rS l)[0+(a:Int).toNat]? =some [dS (l.getD a [])]:=by
 rw[A5,A7,AM,AE,A0 h];rfl
def Qom{l:List (List UInt8)}{x y:List UInt8}:(rS l).set (0+(a:Int).toNat) ([dS x].set 0 (dS y))=rS (l.set a y):=by
 rw[A5,A7];exact AR.symm
abbrev oS(g:Nat)(w:Pl.Sto):AV:= .agg [.osl 0 1 0 64,.osl 1 1 0 64,.osl 2 1 0 64,.d (dI w.txg),.osl 3 g 0 w.gone.length,.d (dI 0),.osl 4 1 0 0,.d (dB w.same)]
abbrev hS(g:Nat)(w:Pl.Sto):List Blk:=[.arr 1 1 9 (rS w.rows),.arr 1 1 3 (rI w.refs),.arr 1 1 3 (rI w.last),.arr g 5 31 (w.gone.map rPtr),.arr 1 5 31 []]
abbrev gS(g:Nat)(w:Pl.Sto):List AV:=[.osl 0 1 0 64,.osl 1 1 0 64,.osl 2 1 0 64,.osl 3 g 0 w.gone.length,.osl 4 1 0 0]
def eGive(refs last:List Int)(a:Nat)(ha:a<64)(h1:refs.length=64)(h2:last.length=64)(hb: -1000000000<=refs.getD a 0/\refs.getD a 0<=1000000000):
 DoesE A1 194 [.agg [.osl 0 1 0 64,.osl 1 1 0 64],.d (dI a)] [.arr 1 1 3 (rI refs),.arr 1 1 3 (rI last)] [.osl 0 1 0 64,.osl 1 1 0 64]
  (fun x H=>x= .agg [.osl 0 1 0 64,.osl 1 1 0 64]/\H=[.arr 1 1 3 (rI (refs.set a (refs.getD a 0 -1))),.arr 1 1 3 (rI (if refs.getD a 0 -1=0 then last.set a 0 else last))]):=by
 have hr:=Qgb (l:=refs) (a:=a) (by omega);have hl:=Qgb (l:=last) (a:=a) (by omega);have hr2:=Qgb (l:=refs.set a (refs.getD a 0 -1)) (a:=a) (by simp;omega);rw[Pl.getD_set,if_pos ⟨rfl,by omega⟩] at hr2;have s1:=fun y=>QjR (l:=refs) (a:=a) (x:=refs.getD a 0) (y:=y)
 have s2:=fun y=>QjR (l:=last) (a:=a) (x:=last.getD a 0) (y:=y)
 generalize refs.getD a 0=rv at*;generalize last.getD a 0=lv at*;refine kH fun gvs=>?_
 repeat' first|refine kS ?_|(show AWP _ (.region 1 _ _) _ _;refine(Fg.awp_drawF (id:=1) [] [10] ?_))|refine qD (Qdf Ty.h rfl rfl hr rfl) ?_|refine qS (Qdf Ty.h rfl rfl hr2 rfl) ?_|refine(QmA Ty.h rfl rfl hr (s1 _) (kk:=?_))|refine(Qiu Ty.h rfl rfl hl (s2 _) (kk:=?_))|refine kU ?_|refine kV ?_ ?_<;>intro q|fail
 all_goals first|refine Q3 2 (hx:=?_);refine⟨rfl,?_⟩;rw[if_pos (by simpa using q)];rfl|refine Q3 2 (hx:=?_);refine⟨rfl,?_⟩;rw[if_neg (by simpa using q)];rfl|skip
def eDrop(g:Nat)(w:Pl.Sto)(N:Nat)(hN:N<=1000000)(hw:w.W N)(a:Nat)(ha:a<64):
 DoesE A1 129 [oS g w,.d (dI a)] (hS g w) (gS g w) (fun x H=>x=oS g (w.drop a)/\H=hS g (w.drop a)):=by
 have hb:=hw.ref _ (Pl.QdR (d:=0) (i:=a) (by rw[hw.refs];omega));have c:=eGive w.refs w.last a ha hw.refs hw.last (by omega);have hq:AU (w.drop a=⟨if w.refs.getD a 0 -1=0 then w.rows.set a [] else w.rows,w.refs.set a (w.refs.getD a 0 -1),if w.refs.getD a 0 -1=0 then w.last.set a 0 else w.last,w.txg,w.gone,w.same⟩):=Pm.hid rfl;have hr2:=Qgb (l:=w.refs.set a (w.refs.getD a 0 -1)) (a:=a) (by simp;have:=hw.refs;omega);rw[Pl.getD_set,if_pos ⟨rfl,by have:=hw.refs;omega⟩] at hr2;have hl:=QjQ (l:=w.rows) (a:=a) (by rw[hw.rows];omega);have s2:=fun y=>Qom (l:=w.rows) (a:=a) (x:=w.rows.getD a []) (y:=y)
 rw[hq.out];clear hq hw;obtain⟨rows,refs,last,txg,gone,same⟩:=w;simp only at*;have l1:(refs.set a (refs.getD a 0 -1)).length=refs.length:=by simp
 have l2:(if refs.getD a 0 -1=0 then last.set a 0 else last).length=last.length:=by split<;>simp
 generalize refs.getD a 0 -1=rv at*;generalize refs.set a rv=refs2 at*;generalize (if rv=0 then last.set a 0 else last)=last2 at*;generalize rows.getD a []=lv at*;refine kH fun gvs=>?_
 repeat' first|refine kS ?_|refine QD [1,2] c cK (k:=kX ?_)|refine qS (Qdf Ty.h rfl rfl hr2 rfl) ?_|refine(Qiu Ty.h rfl rfl hl (s2 _) (kk:=?_))|refine kU ?_|refine kV ?_ ?_<;>intro q|fail
 all_goals first|refine Q3 5 (hx:=?_);refine⟨rfl,?_⟩;rw[if_pos (by simpa using q)];rfl|refine Q3 5 (hx:=?_);refine⟨rfl,?_⟩;rw[if_neg (by simpa using q)];rfl|skip
theorem eFree(g:Nat)(w:Pl.Sto)(N:Nat)(hN:N<=1000000)(hw:w.W N)(p:Pl.Ptr)(hp:Pl.ptrOk p=true):
 DoesE A1 81 [oS g w,.d (dPtr p)] (hS g w) (gS g w) (fun x H=> ∃g',x=oS g' (w.free p)/\H=hS g' (w.free p)):=by
 have c0:=Qdt p;have hmany:=hw.many;cases hh:Pl.ptrHole p;rotate_left
 ·have hq:AU (w.free p=w):=Pm.hid (by unfold Pl.Sto.free;rw[if_pos hh])
  rw[hh] at c0;rw[hq.out];refine kH fun gvs=>?_
  refine Qa 6 (h:=?_)
  repeat refine kA ?_
  all_goals(refine Q3 5 (hx:=?_);exact⟨g,rfl,rfl⟩)
 rw[hh] at c0;have hat:=QdP hp hh
 have hbi:1<=p.birth:=by
  rw[QkF,hh] at hp;simp[Pl.inR] at hp;omega
 obtain⟨a,ha⟩:=Int.eq_ofNat_of_zero_le hat.1;have c:=eDrop g w N hN hw a (by omega);have hq:AU (w.free p=if p.birth<w.txg then⟨w.rows,w.refs,w.last,w.txg,w.gone++[p],w.same⟩ else w.drop a):=Pm.hid (by unfold Pl.Sto.free;rw[if_neg (by simp[hh]),ha];rfl);rw[hq.out];have hwd:=hw.drop (a:=a) (by omega);have l0:(w.drop a).rows.length=w.rows.length:=by rw[hwd.rows,hw.rows]
 have l1:(w.drop a).refs.length=w.refs.length:=by rw[hwd.refs,hw.refs]
 have l2:(w.drop a).last.length=w.last.length:=by rw[hwd.last,hw.last]
 have l3:(w.drop a).gone.length=w.gone.length:=rfl;clear hwd;generalize w.drop a=wd at*;clear hq hw hp hh;obtain⟨rows,refs,last,txg,gone,same⟩:=w;obtain⟨pat,birth,size,sum,level⟩:=p;simp only at*;subst ha
 by_cases hlt:birth<txg
 ·rw[if_pos hlt]
  clear c;refine kH fun gvs=>?_
  refine Qa 6 (h:=?_)
  repeat' first|refine kS ?_|refine QU Ty.h rfl Ty.h (hb:=?_) (kk:=?_)|refine kU ?_|refine kV ?_ ?_<;>intro q|fail
  all_goals first|exfalso;simp only[decide_eq_true_eq,decide_eq_false_iff_not] at*;omega|simp;omega|refine Q3 5 (hx:=?_);refine⟨g+1,?_,?_⟩<;>simp only[oS,hS,List.length_append,List.map_append,List.length_cons,List.length_nil]<;>rfl|skip
 ·rw[if_neg hlt]
  refine kH fun gvs=>?_
  refine Qa 6 (h:=?_)
  repeat' first|refine kS ?_|refine QD [0,1,2,3,4] c cK (k:=kX ?_)|refine kU ?_|refine kV ?_ ?_<;>intro q|fail
  all_goals first|exfalso;simp only[decide_eq_true_eq,decide_eq_false_iff_not] at*;omega|refine Q3 5 (hx:=?_);exact⟨g,rfl,rfl⟩|skip
def al5In0(a:Int):Pure A1 197 [.sl false 1 [],dI a] (dB false):=by
 refine kE ?_
 repeat refine kA ?_
 refine Qs (fun m st=>m=0/\st=⟨18,[(5,.d (dI 0)),(0,.d (.sl false 1 [])),(1,.d (dI a))],[]⟩) [5,0,1] 0 0 ⟨rfl,rfl⟩ (round:=?_);rintro m st ⟨rfl,rfl⟩
 repeat refine kA ?_
 all_goals exact Qb (hx:=rfl)
def Qiq{k:Nat}(h: ∀i,i<k->p (8+i)=false)(hk:k=56):(A4 8 56).find? p=none:=by
 rw[List.find?_eq_none];intro x hx;rw[AH] at hx;have:=h (x -8) (by omega);rw[show 8+(x -8)=x by omega] at this;rw[this];simp
def Qip{k:Nat}(h: ∀i,i<k->p (8+i)=false)(hk:k<56)(hp:p (8+k)=true):(A4 8 56).find? p=some (8+k):=by
 rw[List.find?_eq_some_iff_getElem];refine⟨hp,k,by simpa using hk,by simp,fun j hj=>?_⟩;simp only[List.getElem_range',Nat.one_mul,Bool.not_eq_eq_eq_not,Bool.not_true];exact h j hj
def QcP:Option Nat->Int
 |none=> -1
 |some a=>a
def al5Find(refs last:List Int)(h1:refs.length=64):Pure A1 136 [.agg [dInts refs,dInts last],dI 8,.sl false 1 []] (dI (QcP ((A4 8 56).find? fun i=>refs.getD i 0==0))):=by
 have c1:=al2Row 8;have hc:Pl.inR 8 8 63=true:=by decide
 rw[hc] at c1;have c2:=fun a=>al5In0 a
 refine kE ?_;refine Qa 0 (h:=?_)
 repeat refine kA ?_
 refine Qs (fun m st=> ∃k:Nat,k<=56/\m=56 -k/\AU (∀i,i<k->(refs.getD (8+i) 0==0)=false)/\st=⟨38,[(8,.d (dI k)),(7,.d (dI 56)),(1,.d (dI 8)),(2,.d (.sl false 1 [])),(3,.d (.pd [dInts refs,dInts last]))],[.row 1 []]⟩) [8,7,1,2,3] 1 56 ⟨0,by omega,rfl,Pm.hid (fun i hi=>by omega),rfl⟩ (round:=?_);rintro m st ⟨k,hk,rfl,hA,rfl⟩
 repeat refine kG ?_
 cases q4:decide ((k:Int)<56)
 ·have:k=56:=by simp at q4;omega
  rw[Qiq hA.out this]
  repeat refine kA ?_
  exact Qb (hx:=rfl)
 have hk2:k<56:=by simp at q4;omega
 have hr:=Qgb (l:=refs) (a:=8+k) (by omega);rw[A5] at hr;have hS:AU ((refs.getD (8+k) 0==0)=true->(A4 8 56).find? (fun i=>refs.getD i 0==0)=some (8+k)):=Pm.hid fun h=>Qip hA.out hk2 h
 have hF:AU ((refs.getD (8+k) 0==0)=false-> ∀i,i<k+1->(refs.getD (8+i) 0==0)=false):=Pm.hid fun h i hi=>by
  by_cases hik:i=k
  ·rw[hik];exact h
  ·exact hA.out i (by omega)
 have e2:(8:Int)+((8:Int) -8+k)%56=((8+k:Nat):Int):=by omega
 clear hA;generalize refs.getD (8+k) 0=rv at*
 repeat' first|refine kS ?_|refine qS (Qds cK (c2 _) rfl) ?_|refine qS (QhI rfl rfl (by omega) (by omega)) ?_|refine qS (Qdc Ty.h rfl Ty.h rfl rfl rfl (by rw[e2];omega) (by rw[e2];exact hr)) ?_|refine kU ?_|refine kV ?_ ?_<;>intro q|fail
 all_goals first|exact Qb (hx:=by rw[hS.out (by assumption),QcP,e2])|refine Qn (56 -(k+1)) (by omega) ⟨k+1,by omega,rfl,Pm.hid (hF.out (by assumption)),?_⟩;simp[keepE,go_sem]
section
variable{P:A6}{dst:Option Tmp}{ty:A3}{pos:String}{after:Array Aa}{gd:Option (Nat×Bool)}{env:List (Nat×AV)}{H:List Blk}{f:AP}{xs:Array AB}{tys:Array A3}{ds:List D}{x:D}{w:Pl.Sto}{N k0 k1 k2 k3 k4 g:Nat}{T0 T1 T2 T3 T4:A3}{u:AB}{us:List AB}
def QfF{α:Type}{l:List α}{n:Nat}(h:l.length=n):(l.drop 0).take n=l:=by rw[List.drop_zero,List.take_of_length_le (Nat.le_of_eq h)]
def QrZ(hw:w.W N)(h0:H[k0]? =some (.arr 1 1 T0 (rS w.rows)))(h1:H[k1]? =some (.arr 1 1 T1 (rI w.refs)))(h2:H[k2]? =some (.arr 1 1 T2 (rI w.last)))(h3:H[k3]? =some (.arr g 5 T3 (w.gone.map rPtr)))(h4:H[k4]? =some (.arr 1 5 T4 [])):
 (AV.ice H 4 (.agg [.osl k0 1 0 64,.osl k1 1 0 64,.osl k2 1 0 64,.d (dI w.txg),.osl k3 g 0 w.gone.length,.d (dI 0),.osl k4 1 0 0,.d (dB w.same)])).weak=dSt w.st:=by
 simp only[AV.ice,A8,AS,h0,h1,h2,h3,h4,if_true];rw[QfF (l:=rS w.rows) (by simp[hw.rows]),QfF (l:=rI w.refs) (by simp[hw.refs]),QfF (l:=rI w.last) (by simp[hw.last]),QfF (l:=w.gone.map rPtr) (by simp)];rfl
def ice_sp{refs last:List Int}(hr:refs.length=64)(hl:last.length=64)(h1:H[k1]? =some (.arr 1 1 T1 (rI refs)))(h2:H[k2]? =some (.arr 1 1 T2 (rI last))):
 (AV.ice H 4 (.agg [.osl k1 1 0 64,.osl k2 1 0 64])).weak= .agg [dInts refs,dInts last]:=by
 simp only[AV.ice,A8,AS,h1,h2,if_true];rw[QfF (l:=rI refs) (by simp[hr]),QfF (l:=rI last) (by simp[hl])];rfl
def Qo6: ∀{us:List AB} {ds:List D},allD (us.map (aval env))=some ds->us.map (fun u=>(aval env u).ice H 4)=ds:=by
 intro us ds h;have:=QfU h;have h2:=congrArg (List.map (AV.ice H 4)) this;rw[AT,AT] at h2;have h3: ∀l:List D,l.map (AV.ice H 4 ∘ AV.d)=l:=fun l=>by rw[show(AV.ice H 4 ∘ AV.d)=id from rfl,List.map_id]
 rw[h3] at h2;exact h2
def Qdh(hf: ∀args w,(callFunc f args).run P w= .ok (.enter f args) w)(h:Pure P f (dSt w.st::ds) x)(hw:w.W N)(hx:x.flat=true:=by rfl)(hxs:xs.toList=u::us:=by rfl)
 (hu:aval env u= .agg [.osl k0 1 0 64,.osl k1 1 0 64,.osl k2 1 0 64,.d (dI w.txg),.osl k3 g 0 w.gone.length,.d (dI 0),.osl k4 1 0 0,.d (dB w.same)]:=by rfl)
 (h0:H[k0]? =some (.arr 1 1 T0 (rS w.rows)):=by rfl) (h1:H[k1]? =some (.arr 1 1 T1 (rI w.refs)):=by rfl) (h2:H[k2]? =some (.arr 1 1 T2 (rI w.last)):=by rfl) (h3:H[k3]? =some (.arr g 5 T3 (w.gone.map rPtr)):=by rfl) (h4:H[k4]? =some (.arr 1 5 T4 []):=by rfl)
 (hd:allD (us.map (aval env))=some ds:=by rfl) (hwk:D.weakL ds=ds:=by rfl):Loc P ⟨dst,.call ⟨.value (.func f),xs,tys⟩,ty,pos,after,gd⟩ env H (.d x) none:=by
 refine QeB hf (Pure.arg (l:=xs.toList.map fun u=>(aval env u).ice H 4) h ?_) hx rfl;rw[hxs,A8,Qo6 hd,hu];show(AV.ice H 4 _).weak::D.weakL ds=_;rw[QrZ hw h0 h1 h2 h3 h4,hwk]
def QhK{refs last:List Int}(hf: ∀args w,(callFunc f args).run P w= .ok (.enter f args) w)(h:Pure P f (.agg [dInts refs,dInts last]::ds) x)(hr:refs.length=64)(hl:last.length=64)(hx:x.flat=true:=by rfl)(hxs:xs.toList=u::us:=by rfl)
 (hu:aval env u= .agg [.osl k1 1 0 64,.osl k2 1 0 64]:=by rfl) (h1:H[k1]? =some (.arr 1 1 T1 (rI refs)):=by rfl) (h2:H[k2]? =some (.arr 1 1 T2 (rI last)):=by rfl)
 (hd:D.weakL (us.map fun u=>(aval env u).ice H 4)=ds:=by rfl):Loc P ⟨dst,.call ⟨.value (.func f),xs,tys⟩,ty,pos,after,gd⟩ env H (.d x) none:=by
 refine QeB hf (Pure.arg (l:=xs.toList.map fun u=>(aval env u).ice H 4) h ?_) hx rfl;rw[hxs,A8,hu];show(AV.ice H 4 _).weak::D.weakL _=_;rw[ice_sp hr hl h1 h2,hd]
end
def QuH(s:List UInt8):Pure A1 195 [dS s] (dB (Pl.inR (s.length:Int) 1 128)):=by
 refine kE ?_
 repeat' first|refine kS ?_|refine qS (Qds cK (al6In _ _ _) rfl) ?_|refine kU ?_|fail
 all_goals exact Qb (hx:=rfl)
def aPtrOf(a birth level:Int)(text:List UInt8)(ht:text.length<=Pm.big):Pure A1 131 [dI a,dI birth,dI level,dS text] (.tup [dPtr (Pl.ptrOf a birth level text).1,dB (Pl.ptrOf a birth level text).2]):=by
 have hd:AU (Pl.ptrOf a birth level text=if Pl.inR (text.length:Int) 1 128&&Pl.ptrOk ⟨a,birth,text.length,(Pl.sumOf text:Nat),level⟩ then(⟨a,birth,text.length,(Pl.sumOf text:Nat),level⟩,true) else(Pl.hole,false)):=Pm.hid rfl;have c1:=QuH text;have c2:=aSumOf text ht;have c3:=aPtrOk ⟨a,birth,text.length,(Pl.sumOf text:Nat),level⟩;generalize Pl.ptrOk ⟨a,birth,text.length,(Pl.sumOf text:Nat),level⟩=ok at*;generalize Pl.inR (text.length:Int) 1 128=bl at*;rw[hd.out];clear hd;cases bl
 ·refine kD ?_
  repeat refine kA ?_
  all_goals((refine Qa 0 (h:=?_);refine QY (hx:=?_));rfl)
 cases ok
 ·refine kD ?_
  repeat refine kA ?_
  all_goals((refine Qa 0 (h:=?_);refine QY (hx:=?_));rfl)
 ·refine kD ?_
  repeat refine kA ?_
  all_goals((refine Qa 0 (h:=?_);refine QY (hx:=?_));rfl)
theorem al7Like(s:Pm.Store)(text:List UInt8)(h0:s.1.length=64)(h1:s.2.1.1.length=64)(h2:s.2.1.2.length=64):
 Pure A1 135 [dSt s,dS text] (dI (QcP ((A4 8 56).find? fun i=>s.1.getD i []==text&&decide (s.2.1.2.getD i 0<s.2.2.1)&&decide (s.2.1.1.getD i 0<s.2.2.1)))):=by
 obtain⟨rows,⟨refs,last⟩,txg,gone,keep,dead,same⟩:=s;simp only at*;refine kE ?_;refine Qa 0 (h:=?_)
 repeat refine kA ?_
 refine Qs (fun m st=> ∃k:Nat,k<=56/\m=56 -k/\AU (∀i,i<k->(rows.getD (8+i) []==text&&decide (last.getD (8+i) 0<txg)&&decide (refs.getD (8+i) 0<txg))=false)/\st=⟨40,[(5,.d (dI ((8+k:Nat)))),(1,.d (dS text)),(2,.d (.pd (rSt (rows,(refs,last),txg,gone,keep,dead,same))))],[.row 1 []]⟩) [5,1,2] 1 56 ⟨0,by omega,rfl,Pm.hid (fun i hi=>by omega),rfl⟩ (round:=?_);rintro m st ⟨k,hk,rfl,hA,rfl⟩
 repeat refine kG ?_
 cases q4:decide (((8+k:Nat):Int)<64)
 ·have:k=56:=by simp at q4;omega
  rw[Qiq (p:=fun i=>rows.getD i []==text&&decide (last.getD i 0<txg)&&decide (refs.getD i 0<txg)) hA.out this]
  repeat refine kA ?_
  exact Qb (hx:=rfl)
 have hk2:k<56:=by simp at q4;omega
 have hr0:=QjQ (l:=rows) (a:=8+k) (by omega);have hr1:=Qgb (l:=refs) (a:=8+k) (by omega);have hr2:=Qgb (l:=last) (a:=8+k) (by omega);rw[A5] at hr0 hr1 hr2
 have hS:AU ((rows.getD (8+k) []==text&&decide (last.getD (8+k) 0<txg)&&decide (refs.getD (8+k) 0<txg))=true->(A4 8 56).find? (fun i=>rows.getD i []==text&&decide (last.getD i 0<txg)&&decide (refs.getD i 0<txg))=some (8+k)):=
  Pm.hid fun h=>Qip (p:=fun i=>rows.getD i []==text&&decide (last.getD i 0<txg)&&decide (refs.getD i 0<txg)) hA.out hk2 h
 have hF:AU ((rows.getD (8+k) []==text&&decide (last.getD (8+k) 0<txg)&&decide (refs.getD (8+k) 0<txg))=false-> ∀i,i<k+1->(rows.getD (8+i) []==text&&decide (last.getD (8+i) 0<txg)&&decide (refs.getD (8+i) 0<txg))=false):=Pm.hid fun h i hi=>by
  by_cases hik:i=k
  ·rw[hik];exact h
  ·exact hA.out i (by omega)
 clear hA;generalize rows.getD (8+k) []=rv at*;generalize last.getD (8+k) 0=lv at*;generalize refs.getD (8+k) 0=fv at*
 repeat' first|refine kS ?_|refine qD (iy hr0) ?_|refine qD (iy hr1) ?_|refine qD (iy hr2) ?_|refine kU ?_|refine kV ?_ ?_<;>intro q|fail
 all_goals first|refine Qb (hx:=?_);rw[hS.out (by simp_all)];rfl|refine Qn (56 -(k+1)) (by omega) ⟨k+1,by omega,rfl,Pm.hid (hF.out (by first|(simp_all;done)|(simp_all;omega))),?_⟩;simp[keepE,go_sem];omega
theorem eWrite(g:Nat)(w:Pl.Sto)(N:Nat)(hN:N<=1000000)(hw:w.W N)(text:List UInt8)(ht:text.length<=Pm.big)(level:Int):
 DoesE A1 79 [oS g w,.d (dS text),.d (dI level)] (hS g w) (gS g w) (fun x H=>x= .tup [oS g (w.write text level).1,.d (dPtr (w.write text level).2.1),.d (dB (w.write text level).2.2)]/\H=hS g (w.write text level).1):=by
 have c1:=al7Like w.st text hw.rows hw.refs hw.last;have c2:=al5Find w.refs w.last hw.refs
 have hs1: ∀a,w.like text=some a->a<64:=fun a h=>by
  have h1:=AG h;rw[AH] at h1;omega
 have hs2: ∀a,w.room=some a->a<64:=fun a h=>by
  have h1:=AG h;rw[AH] at h1;omega
 have hd:AU (w.write text level=w.put text level ((if w.same&&level==0 then w.like text else none).or w.room)):=Pm.hid rfl;have e1:((A4 8 56).find? fun i=>w.st.1.getD i []==text&&decide (w.st.2.1.2.getD i 0<w.st.2.2.1)&&decide (w.st.2.1.1.getD i 0<w.st.2.2.1))=w.like text:=rfl;have e2:((A4 8 56).find? fun i=>w.refs.getD i 0==0)=w.room:=rfl;rw[e1] at c1;rw[e2] at c2;clear e1 e2;have hlen:=And.intro hw.refs hw.last;generalize w.write text level=wr at*;generalize w.like text=lk at*;generalize w.room=rm at*;have rows:=hw.rows
 have hbr: ∀a,a<64-> -1000000<=w.refs.getD a 0/\w.refs.getD a 0<=1000000:=fun a ha=>by
  have:=hw.ref _ (Pl.QdR (d:=0) (i:=a) (by rw[hw.refs];omega));omega
 have hf1:=fun a (ha:a<64)=>QjQ (l:=w.rows) (a:=a) (by omega)
 have hf2:=fun a (ha:a<64)=>Qgb (l:=w.refs) (a:=a) (by omega)
 have hf3:=fun a (ha:a<64)=>Qgb (l:=w.last) (a:=a) (by omega)
 have g1:=fun a=>Qom (l:=w.rows) (a:=a) (x:=w.rows.getD a []) (y:=text)
 have g2:=fun a y=>QjR (l:=w.refs) (a:=a) (x:=w.refs.getD a 0) (y:=y)
 have g3:=fun a y=>QjR (l:=w.last) (a:=a) (x:=w.last.getD a 0) (y:=y)
 have hw':=Pm.hid hw;have hla: ∀a,AU (w.lay1 a text=⟨w.rows.set a text,w.refs.set a (w.refs.getD a 0+1),w.last.set a w.txg,w.txg,w.gone,w.same⟩):=fun a=>Pm.hid rfl
 have hlay: ∀a,AU (hS g (w.lay1 a text)=[.arr 1 1 9 (rS (w.rows.set a text)),.arr 1 1 3 (rI (w.refs.set a (w.refs.getD a 0+1))),.arr 1 1 3 (rI (w.last.set a w.txg)),.arr g 5 31 (w.gone.map rPtr),.arr 1 5 31 []]):=fun a=>Pm.hid rfl
 have hlo: ∀a,AU (oS g (w.lay1 a text)=oS g w):=fun a=>Pm.hid rfl
 clear hw rows
 by_cases hc:w.same=true/\level=0/\ ∃a,lk=some a
 ·obtain⟨h1,rfl,a,rfl⟩:=hc
  have ha:=hs1 a rfl;have c1:Pure A1 135 [dSt w.st,dS text] (dI a):=c1;have c3:=aPtrOf a w.txg 0 text ht;have hq:AU (wr=if(Pl.ptrOf a w.txg 0 text).2 then(w.lay1 a text,(Pl.ptrOf a w.txg 0 text).1,true) else(w,Pl.hole,false)):=Pm.hid (by rw[hd.out,h1];rfl);have r1:=hf1 a ha;have r2:=hf2 a ha;have r3:=hf3 a ha;have hb:=hbr a ha;have g1:=g1 a;have g2:=g2 a;have g3:=g3 a;have hlay:=hlay a;have hlo:=hlo a;clear hd hf1 hf2 hf3 hs1 hs2 hbr c2 hla;generalize w.refs.getD a 0=fv at*;generalize w.last.getD a 0=lv at*;generalize w.rows.getD a []=rv at*;generalize Pl.ptrOf a w.txg 0 text=po at*;obtain⟨⟨p1,p2,p3,p4,p5⟩,ok⟩:=po;cases ok
  ·refine kH fun gvs=>?_
   repeat' first|refine kS ?_|refine qS (Qdh cK c1 hw'.out) ?_|refine kU ?_|refine kV ?_ ?_<;>intro q|fail
   all_goals first|exfalso;simp_all;done|exfalso;simp only[decide_eq_true_eq,decide_eq_false_iff_not,QcP] at*;omega|rw[hq.out];(refine QN 5 (hx:=?_);exact⟨rfl,rfl⟩)
  ·refine kH fun gvs=>?_
   repeat' first|refine kS ?_|refine qS (Qdh cK c1 hw'.out) ?_|refine(Qiu Ty.h rfl rfl r1 g1 (kk:=?_))|(show AWP _ (.region 12 _ _) _ _;refine(Fg.awp_drawF (id:=12) [] [12] ?_))|refine qD (Qdf Ty.h rfl rfl r2 rfl) ?_|refine(QmA Ty.h rfl rfl r2 (g2 _) (kk:=?_))|refine(Qiu Ty.h rfl rfl r3 (g3 _) (kk:=?_))|(show AWP _ (.region 14 _ _) _ _;refine(Qa 8 (h:=Fg.awp_drawF (id:=14) [1] [2,3] ?_)))|refine kU ?_|refine kV ?_ ?_<;>intro q|fail
   all_goals first|exfalso;simp_all;done|exfalso;simp only[decide_eq_true_eq,decide_eq_false_iff_not,QcP] at*;omega|rw[hq.out];refine QN 5 (hx:=?_);refine⟨?_,?_⟩;rfl;exact hlay.out.symm
 ·have hne:w.same=true->level=0->lk=none:=fun h1 h2=>by
   cases lk with
   |none=>rfl
   |some a=>exact absurd ⟨h1,h2,a,rfl⟩ hc
  clear hc
  have hq:AU (wr=w.put text level rm):=Pm.hid (by
   rw[hd.out];cases h1:w.same&&level==0
   ·rfl
   ·rw[hne (by simp at h1;exact h1.1) (by simp at h1;exact h1.2)];rfl)
  obtain⟨z,c1,hz⟩: ∃z:Int,Pure A1 135 [dSt w.st,dS text] (dI z)/\AU (w.same=true->level=0->z= -1):=⟨_,c1,Pm.hid fun h1 h2=>by rw[hne h1 h2];rfl⟩;clear hne hd;cases rm with
  |none=>
   have c2:Pure A1 136 [.agg [dInts w.refs,dInts w.last],dI 8,.sl false 1 []] (dI (-1)):=c2;have hq:AU (wr=(w,Pl.hole,false)):=Pm.hid hq.out;refine kH fun gvs=>?_
   repeat' first|refine kS ?_|refine qS (Qdh cK c1 hw'.out) ?_|refine qS (QhK cK c2 hlen.1 hlen.2) ?_|refine kU ?_|refine kV ?_ ?_<;>intro q|fail
   all_goals first|exfalso;simp only[decide_eq_true_eq,decide_eq_false_iff_not] at*;omega|exfalso;have hz:=hz.out (by assumption) (by simp only[beq_iff_eq] at*;assumption);simp only[decide_eq_true_eq,decide_eq_false_iff_not] at*;omega|rw[hq.out];(refine QN 5 (hx:=?_);exact⟨rfl,rfl⟩)
  |some a=>
  have ha:=hs2 a rfl;have c2:Pure A1 136 [.agg [dInts w.refs,dInts w.last],dI 8,.sl false 1 []] (dI a):=c2;have hq:AU (wr=if(Pl.ptrOf a w.txg level text).2 then(w.lay1 a text,(Pl.ptrOf a w.txg level text).1,true) else(w,Pl.hole,false)):=Pm.hid hq.out;have c3:=aPtrOf a w.txg level text ht;have r1:=hf1 a ha;have r2:=hf2 a ha;have r3:=hf3 a ha;have hb:=hbr a ha;have g1:=g1 a;have g2:=g2 a;have g3:=g3 a;have hlay:=hlay a;have hlo:=hlo a;clear hf1 hf2 hf3 hs1 hs2 hbr hla;generalize w.refs.getD a 0=fv at*;generalize w.last.getD a 0=lv at*;generalize w.rows.getD a []=rv at*;generalize Pl.ptrOf a w.txg level text=po at*;obtain⟨⟨p1,p2,p3,p4,p5⟩,ok⟩:=po;cases ok
  ·refine kH fun gvs=>?_
   repeat' first|refine kS ?_|refine qS (Qdh cK c1 hw'.out) ?_|refine qS (QhK cK c2 hlen.1 hlen.2) ?_|refine kU ?_|refine kV ?_ ?_<;>intro q|fail
   all_goals first|exfalso;simp only[decide_eq_true_eq,decide_eq_false_iff_not] at*;omega|exfalso;have hz:=hz.out (by assumption) (by simp only[beq_iff_eq] at*;assumption);simp only[decide_eq_true_eq,decide_eq_false_iff_not] at*;omega|rw[hq.out];(refine QN 5 (hx:=?_);exact⟨rfl,rfl⟩)
  ·refine kH fun gvs=>?_
   repeat' first|refine kS ?_|refine qS (Qdh cK c1 hw'.out) ?_|refine qS (QhK cK c2 hlen.1 hlen.2) ?_|refine(Qiu Ty.h rfl rfl r1 g1 (kk:=?_))|(show AWP _ (.region 12 _ _) _ _;refine(Fg.awp_drawF (id:=12) [] [12] ?_))|refine qD (Qdf Ty.h rfl rfl r2 rfl) ?_|refine(QmA Ty.h rfl rfl r2 (g2 _) (kk:=?_))|refine(Qiu Ty.h rfl rfl r3 (g3 _) (kk:=?_))|(show AWP _ (.region 14 _ _) _ _;refine(Qa 9 (h:=Fg.awp_drawF (id:=14) [1] [2,3] ?_)))|refine kU ?_|refine kV ?_ ?_<;>intro q|fail
   all_goals first|exfalso;simp only[decide_eq_true_eq,decide_eq_false_iff_not] at*;omega|exfalso;have hz:=hz.out (by assumption) (by simp only[beq_iff_eq] at*;assumption);simp only[decide_eq_true_eq,decide_eq_false_iff_not] at*;omega|rw[hq.out];refine QN 5 (hx:=?_);refine⟨?_,?_⟩;rfl;exact hlay.out.symm

/- Of fby_card; no condition. -/
import Derived.Test.YtfmnpmhadmcdkaaGreatDoorT06
import Derived.ChangeArms
import Derived.ChangeOld
import Derived.ChangeShapes
import Derived.WideShapes
import Derived.Deep.MidRow
import GoSem.ClaimJoined
import GoSem.Claim
import Derived.SizedLaws
import Derived.Shelf.Vars
import Derived.Lib.LaidU8
set_option linter.all false
open Array renaming replicate->AQ
open Go renaming TypeId->A0,Operand->A4,Program->A6,ResultVar->AE,Value->AF,Oper->AJ,World->AK,FuncId->AO,Edge->AT,Exit->AW,Addr->Ai,Tmp->Ak
open Go.Call renaming operands->Ac
open Go.ChangeSpec renaming post_blind->Ah
open Go.DataW.Whole renaming of_heap->Aj
open Go.Op renaming operands->AA,equalIn->AH
open Go.OpenSpec renaming ofChange->AU
open Go.Result renaming andThen_ok->A7
open Go.Sem renaming run_bind->A1
open Go.Value renaming bool->Aa
open List renaming mem_of_getElem?->A2,all_eq_true->A5,getElem?_eq_some_iff->A8,getElem?_eq_getElem->A9,mem_append_left->AB,mem_singleton->AC,mem_append->AD,getElem?_map->AM,ext_getElem?->AN,getElem?_set_self->AP,mem_append_right->AR,mem_cons_of_mem->AS,mem_flatMap->AX,mapM_cons->Ab,mem_cons->Ad,map_cons->Ae,mem_map->Af,set_set->Ag
open Nat renaming le_of_ble_eq_true->AG,blt->AI,ble->AL,beq->Al
open Option renaming map_some->AY,map_none->AZ
open Option.some renaming inj->A3
namespace Go.Proofs.YtfmnpmhadmcdkaaGreatDoor
noncomputable section
section
open Go.RowKit
namespace Aw
variable{E T' T0:A0}{u:A4}{c:Bool}{o:AJ}{k sz k2:Nat}{κ:IntKind}{C C2:Blk}{w:AK}{S':Nat->Prop}{σ σ':Sg}{B:Bs}{x1 x2:AV}{gvs:List AF}{r1 r2:AE}
variable{P:A6}
section
variable{dst:Option Ak}{ty:A0}{pos:String}{after:Array AT}{gd:Option (Nat×Bool)}{env:List (Nat×AV)}{H:List Blk}
def Ql4(op:BinOp)(T:A0)(x y:A4)(a b:Option Ai)(w:AK):(eqGuard op T x y (.pointer a) (.pointer b)).run P w= .ok () w:=by
 unfold eqGuard;simp
def QmD(op:BinOp)(T:A0)(x y:A4)(a b:Option Ai)(n n' c c':Nat)(w:AK):(eqGuard op T x y (.slice a n c) (.slice b n' c')).run P w= .ok () w:=by
 unfold eqGuard;simp
def Qrk{T:A0}(hT:P.underlying T=some (.pointer E))(a:Option Ai)(w:AK):(AH (9999+1) T (.pointer a) (.pointer none)).run P w= .ok a.isNone w:=by
 unfold AH;rw[A1,run_underlying hT,A7];cases a<;>rfl
def eq_snil{T:A0}(hT:P.underlying T=some (.slice E))(a:Option Ai)(n c:Nat)(w:AK):(AH (9999+1) T (.slice a n c) (.slice none 0 0)).run P w= .ok a.isNone w:=by
 unfold AH;rw[A1,run_underlying hT,A7];cases a<;>rfl
def QnZ{T:A0}(hT:P.underlying T=some (.pointer E))(x y:A4)(a:Option Ai)(w:AK):
 (do eqGuard .eql T x y (.pointer a) (.pointer none);binOp .eql T (.pointer a) (.pointer none):Sem AF).run P w= .ok (.bool (a.isNone)) w:=by
 rw[A1,Ql4,A7];show(AH (9999+1) T (.pointer a) (.pointer none)>>=fun b=>pure (Aa b)).run P w=_;rw[A1,Qrk hT];rfl
def QiO{T:A0}(hT:P.underlying T=some (.pointer E))(x y:A4)(a:Option Ai)(w:AK):
 (do eqGuard .neq T x y (.pointer a) (.pointer none);binOp .neq T (.pointer a) (.pointer none):Sem AF).run P w= .ok (.bool (!a.isNone)) w:=by
 rw[A1,Ql4,A7];show(AH (9999+1) T (.pointer a) (.pointer none)>>=fun b=>pure (Aa !b)).run P w=_;rw[A1,Qrk hT];rfl
def QnY{T:A0}(hT:P.underlying T=some (.slice E))(x y:A4)(a:Option Ai)(n c:Nat)(w:AK):
 (do eqGuard .eql T x y (.slice a n c) (.slice none 0 0);binOp .eql T (.slice a n c) (.slice none 0 0):Sem AF).run P w= .ok (.bool (a.isNone)) w:=by
 rw[A1,QmD,A7];show(AH (9999+1) T (.slice a n c) (.slice none 0 0)>>=fun b=>pure (Aa b)).run P w=_;rw[A1,eq_snil hT];rfl
def QeN{T:A0}{cells:List D}(hT:P.underlying T=some (.pointer E))(hu:aval env u= .d (.pd cells)):Loc P ⟨dst,.binOp .eql T u (.const (.pointer none)) T',ty,pos,after,gd⟩ env H (.d (.v (.bool false))) none:=
 QQ fun σ S H' a w _ hop _=>by
  have h:=hop u (by simp[AA]);rw[hu] at h;generalize hx:a.eval u=x at h;cases h with
  |d _ _ h=>cases h;exact⟨_,by simp only[execOp,hx];rw[A1,show a.eval (.const (.pointer none))= .pointer none from rfl,QnZ hT u (.const (.pointer none)) _ w];rfl,.d _ _ (.v _)⟩
def Qke{T:A0}{cells:List D}(hT:P.underlying T=some (.pointer E))(hu:aval env u= .d (.pd cells)):Loc P ⟨dst,.binOp .neq T u (.const (.pointer none)) T',ty,pos,after,gd⟩ env H (.d (.v (.bool true))) none:=
 QQ fun σ S H' a w _ hop _=>by
  have h:=hop u (by simp[AA]);rw[hu] at h;generalize hx:a.eval u=x at h;cases h with
  |d _ _ h=>cases h;exact⟨_,by simp only[execOp,hx];rw[A1,show a.eval (.const (.pointer none))= .pointer none from rfl,QiO hT u (.const (.pointer none)) _ w];rfl,.d _ _ (.v _)⟩
def Qgu{T:A0}(hT:P.underlying T=some (.pointer E))(hu:aval env u= .d (.v (.pointer none))):Loc P ⟨dst,.binOp .eql T u (.const (.pointer none)) T',ty,pos,after,gd⟩ env H (.d (.v (.bool true))) none:=
 loc_bin' (X:= .pointer none) (Y:= .pointer none) (by rw[hu];rfl) rfl fun w=>QnZ hT u (.const (.pointer none)) none w
def Qlw{T:A0}(hT:P.underlying T=some (.pointer E))(hu:aval env u= .d (.v (.pointer none))):Loc P ⟨dst,.binOp .neq T u (.const (.pointer none)) T',ty,pos,after,gd⟩ env H (.d (.v (.bool false))) none:=
 loc_bin' (X:= .pointer none) (Y:= .pointer none) (by rw[hu];rfl) rfl fun w=>QiO hT u (.const (.pointer none)) none w
def QoE{T:A0}(hT:P.underlying T=some (.slice E))(hu:aval env u= .d (.v (.slice none 0 0))):Loc P ⟨dst,.binOp .eql T u (.const (.slice none 0 0)) T',ty,pos,after,gd⟩ env H (.d (.v (.bool true))) none:=
 loc_bin' (X:= .slice none 0 0) (Y:= .slice none 0 0) (by rw[hu];rfl) rfl fun w=>QnY hT u (.const (.slice none 0 0)) none 0 0 w
def Qmw{T:A0}{n:Nat}{r:List D}{rows:List (List D)}(hT:P.underlying T=some (.slice E))(hu:aval env u= .d (.sl c n (r::rows))):Loc P ⟨dst,.binOp .eql T u (.const (.slice none 0 0)) T',ty,pos,after,gd⟩ env H (.d (.v (.bool false))) none:=
 QQ fun σ S H' a w _ hop _=>by
  have h:=hop u (by simp[AA]);rw[hu] at h;generalize hx:a.eval u=x at h;cases h with
  |d _ _ h=>cases h;exact⟨_,by simp only[execOp,hx];rw[A1,show a.eval (.const (.slice none 0 0))= .slice none 0 0 from rfl,QnY hT u (.const (.slice none 0 0)) _ _ _ w];rfl,.d _ _ (.v _)⟩
end
variable{P:A6}
section
variable{dst:Option Ak}{ty:A0}{pos:String}{after:Array AT}{gd:Option (Nat×Bool)}{env:List (Nat×AV)}{H:List Blk}
theorem QdJ{T:A0}{D1:TypeDesc}{x:A4}{k k':IntKind}{n m:Int}(h1:P.underlying T=some D1)(h2:P.underlying T'=some (.int k'))(hD:D1= .int k)(hx:aval env x= .d (.v (.int k n)))(hm:k'.wrap n=m):
 Loc P ⟨dst,.convert T T' x,ty,pos,after,gd⟩ env H (.d (.v (.int k' m))) none:=
 QQ fun σ S H' a w _ hop _=>by
  subst hD;have a1:=AV.conc_rel (hop x (by simp[AA])) (y:= .int k n) (by rw[hx];rfl);refine⟨.int k' m,?_,.d _ _ (.v _)⟩;simp only[execOp,a1];rw[A1]
  simp_all[convert,run_underlying,Conv.intToInt]
def QsM{T:A0}{x y:A4}{n:Int}(hx:aval env x= .d (.v (.int .u64 n)))(hy:aval env y= .d (.v (.int .u64 1)))(h:0<=n):
 Loc P ⟨dst,.binOp .shr T x y T',ty,pos,after,gd⟩ env H (.d (.v (.int .u64 (n/2)))) none:=
 loc_bin' (X:= .int .u64 n) (Y:= .int .u64 1) (by rw[hx];rfl) (by rw[hy];rfl) fun w=>by
  rw[A1,Qea,A7];have:n.fdiv 2=n/2:=Int.fdiv_eq_ediv_of_nonneg n (by omega);show(Op.shift .shr .u64 n .u64 1).run P w=_;unfold Op.shift;rw[if_neg (by omega)];show _=(Result.ok (Value.int .u64 (n/2)) w:Result AF);rw[<-this];rfl
def loc_as{x y:AV}(h:Loc P o env H x none)(hxy: ∀(σ:Sg) (S:Nat->Prop) (H':List Blk) (w:AK) (v:AF),Rel σ S H' w x v->Rel σ S H' w y v):Loc P o env H y none:=by
 intro B σ S H' a w hB hS hop hag hk K Q k;exact h B σ S H' a w hB hS hop hag hk K Q fun v w' σ' S' hS' hr hev=>k v w' σ' S' hS' (hxy _ _ _ _ _ hr) hev
theorem Qlv{T e:A0}{F E:TyF}{x:A4}{i:Int}{g off len:Nat}{rows:List (List D)} [hT:Ty P T F](he:F.elem=some e) [hE:Ty P e E](hu:aval env u= .osl k g off len)(hk:H[k]? =some (.arr g sz T0 rows))(hn:E.size=sz)(hx:aval env x= .d (.v (.int κ i)))
 (h0:0<=i) (h1:i<len):Loc P ⟨dst,.slice T u (some x) none none,ty,pos,after,gd⟩ env H (.osl k g (off+i.toNat) (len -i.toNat)) none:=
 QQ fun σ S H' a w _ hop hag=>by
  subst hn;have h:=hop u (by simp[AA]);have a2:=AV.conc_rel (hop x (by simp[AA])) (y:= .int κ i) (by rw[hx];rfl);rw[hu] at h;generalize hv:a.eval u=v at h;have hT':=Qdy hT.h he;have hel:=Qhs hT';have hT'':P.underlying T=some (.slice (P.elem T)):=by rw[hel];exact hT'
  cases h with
  |osl _ _ _ _ _ _ g' sz' T' rows' hk' hg hh=>
   have hke:H'[k]? =some (.arr g E.size T0 rows):=by
    rcases hag k _ hk with h|h
    ·exact h
    grind
   rw[hk'] at hke;obtain⟨rfl,rfl,rfl,rfl⟩:g'=g/\sz'=E.size/\T'=T0/\rows'=rows:=by grind
   obtain⟨hle,hh⟩:=hh rfl;rcases hh with⟨b,cap,cs,T',hb,hl,hm,rfl,hc,hs⟩|⟨hb,rfl,rfl⟩
   ·refine⟨.slice (some ⟨b,(off+i.toNat)*E.size,none⟩) (len -i.toNat) (cap -i.toNat),?_,?_⟩
    ·simp only[execOp,AY,AZ,hv,a2,A1,run_sliceAt_slice _ _ _ _ _ _ hT'']
     rw[run_slice_l w T _ len cap hT'' _ _ h0 (by omega),hel,QdM hE.h]
     have hsl:sliced (some ⟨b,off*E.size,none⟩) i.toNat len cap E.size= .slice (some ⟨b,(off+i.toNat)*E.size,none⟩) (len -i.toNat) (cap -i.toNat):=by
      grind [sliced,QdQ]
     simp_all
    ·refine .osl _ _ _ _ _ rfl g' E.size _ rows' hk' hg fun _=>⟨by omega,.inl ⟨b,cap -i.toNat,cs,T',hb,by omega,by omega,rfl,hc,?_⟩⟩
     grind
   ·omega
theorem QoF{T e:A0}{F E:TyF}{x:A4}{i:Int}{g off len:Nat}{rows:List (List D)} [hT:Ty P T F](he:F.elem=some e) [hE:Ty P e E](hu:aval env u= .osl k g off len)(hk:H[k]? =some (.arr g sz T0 rows))(hn:E.size=sz)(hx:aval env x= .d (.v (.int κ i)))
 (h0:0<=i) (h1:i=len):Loc P ⟨dst,.slice T u (some x) none none,ty,pos,after,gd⟩ env H (.d (.sl false sz [])) none:=
 QQ fun σ S H' a w _ hop hag=>by
  subst hn;have h:=hop u (by simp[AA]);have a2:=AV.conc_rel (hop x (by simp[AA])) (y:= .int κ i) (by rw[hx];rfl);rw[hu] at h;generalize hv:a.eval u=v at h;have hT':=Qdy hT.h he;have hel:=Qhs hT';have hT'':P.underlying T=some (.slice (P.elem T)):=by rw[hel];exact hT'
  obtain⟨ad,cap,rfl,hle⟩: ∃ad cap,v= .slice ad len cap/\len<=cap:=by
   cases h with
   |osl _ _ _ _ _ _ g' sz' T' rows' hk' hg hh=>
    have hke:H'[k]? =some (.arr g E.size T0 rows):=by
     rcases hag k _ hk with h|h
     ·exact h
     grind
    rw[hk'] at hke;obtain⟨rfl,rfl,rfl,rfl⟩:g'=g/\sz'=E.size/\T'=T0/\rows'=rows:=by grind
    obtain⟨_,hh⟩:=hh rfl
    grind
  refine⟨sliced ad i.toNat len cap E.size,?_,?_⟩
  ·simp only[execOp,AY,AZ,hv,a2,A1,run_sliceAt_slice _ _ _ _ _ _ hT'']
   rw[run_slice_l w T ad len cap hT'' _ _ h0 (by omega),hel,QdM hE.h];rfl
  ·unfold sliced
   rw[show len -i.toNat=0 by omega];split<;>exact .d _ _ (.slnil _ _ _ _)
section
variable{T kt et:A0}{z:AF}
theorem Qej(hT:P.underlying T=some (.map kt et))(hk:P.underlying kt=some (.int .i64))(hz:(P.info? et).bind (·.zero)=some z){v:A4}{g:Nat}{m:List (Int×D)}{n:Int}{d:D}
 (hu:aval env u= .mp k g) (hH:H[k]? =some (.mp g (imap m))) (hv:aval env v= .d (.v (.int .i64 n))) (hg:(mget m n).getD (.v z)=d):Loc P ⟨dst,.lookup T u v false,ty,pos,after,gd⟩ env H (.d d) none:=by
 subst hg;exact QoG hT hk hz hu hH hv
theorem QfI(hT:P.underlying T=some (.map kt et))(hk:P.underlying kt=some (.int .i64))(hz:(P.info? et).bind (·.zero)=some (.slice none 0 0)){v:A4}{m:List (Int×D)}{n:Int}{l:List (List D)}
 (hu:aval env u= .d (.mp (imap m))) (hv:aval env v= .d (.v (.int .i64 n))) (hg:mget m n=some (.sl c sz l)∨mget m n=none/\l=[]):Loc P ⟨dst,.lookup T u v false,ty,pos,after,gd⟩ env H (.d (.sl c sz l)) none:=by
 have h:=Qm0 (dst:=dst) (ty:=ty) (pos:=pos) (after:=after) (gd:=gd) (H:=H) hT hk hz hu hv;rcases hg with hg|⟨hg,rfl⟩
 ·grind
 ·rw[hg] at h
  refine loc_as h fun σ S H' w v hr=>?_
  cases hr with
  |d _ _ hr=>cases hr;exact .d _ _ (.slnil _ _ _ _)
end
end
theorem QhV{T kt et:A0}{ops:Array AJ}{Q:AW->St->Prop}{l:List AJ}{nt:Nat}{env:List (Nat×AV)}{H H':List Blk}{ty:A0}{pos:String}{after:Array AT}{gd:Option (Nat×Bool)}(hT:P.underlying T=some (.map kt et))(hk:P.underlying kt=some (.int .i64)){v x:A4}{g:Nat}{m:List (Int×D)}{n:Int}{d:D}
 (hu:aval env u= .mp k g:=by rfl) (hH0:H[k]? =some (.mp g (imap m)):=by rfl) (hv:aval env v= .d (.v (.int .i64 n)):=by rfl) (hx:aval env x= .d d:=by rfl)
 (hw:awanted ops env ⟨none,.mapUpdate T u v x,ty,pos,after,gd⟩=some true:=by rfl) (hg:gdOk ops nt ⟨none,.mapUpdate T u v x,ty,pos,after,gd⟩=true:=by rfl)
 (hH: ∀R:List Blk->Prop,R H'->R (H.set k (.mp g (imap (mset m n d)))):=by intro R hR;simp only[List.set_cons_zero,List.set_cons_succ];exact hR)
 (kk:ASeq P ops Q l ⟨nt,env,H'⟩):ASeq P ops Q (⟨none,.mapUpdate T u v x,ty,pos,after,gd⟩::l) ⟨nt,env,H⟩:=by
 refine QiW (Qky hT hk hu hH0 hv hx) hw hg ?_;have:=hH (fun r=>r=H') rfl
 grind
def QjK{ops:Array AJ}{K:St->Prop}{n:Nat}{env:List (Nat×AV)}{H H':List Blk}{ty:A0}{pos:String}{after:Array AT}{gd:Option (Nat×Bool)}{T:A0}{F:TyF}{v:A4}{g o:Nat}{cells lc:List AV} [hT:Ty P T F](hu:aval env u= .ptr k g o:=by rfl)(hk:H[k]? =some (.row g cells):=by rfl)
 (hv: ∀R:Option (List AV)->Prop,R (some lc)->R (aval env v).cells:=by intro R hR;simp only[go_sem,Nat.reduceEqDiff,Nat.reduceAdd,Nat.reduceLT,Nat.reduceLeDiff,↓reduceIte,reduceCtorEq];exact hR)
 (hone:lc.all AV.one=true:=by rfl) (hsz:lc.length=F.size:=by rfl) (hlen:AL (o+lc.length) cells.length=true:=by rfl) (hw:awanted ops env ⟨none,.store T u v,ty,pos,after,gd⟩=some true:=by rfl) (hg:gdOk ops n ⟨none,.store T u v,ty,pos,after,gd⟩=true:=by rfl)
 (hH: ∀R:List Blk->Prop,R H'->R (H.set k (.row g (setAt cells o lc))):=by intro R hR;simp only[setAt,List.set_cons_zero,List.set_cons_succ,Nat.zero_add,Nat.reduceAdd];exact hR)
 (kk:K ⟨n,env,H'⟩):AStep P ops ⟨none,.store T u v,ty,pos,after,gd⟩ K ⟨n,env,H⟩:=
 QrT (QlA hT.h hu hk (hv (fun r=>r=some lc) rfl) hone hsz (AG hlen)) hw rfl hg (by have:=hH (fun r=>r=H') rfl;rw[this];exact kk)
def aw_nilS(t:Nat)(b:Bool)(m:Nat){ops:Array AJ}{Q:AW->St->Prop}{l:List AJ}{n:Nat}{env:List (Nat×AV)}{H:List Blk}{a₀:Option Ai}{k₀:Nat}(ht:look env t= .d (.v (.slice a₀ 0 k₀)):=by rfl)
 (h:ASeq P ops Q l ⟨n,(t,.d (.sl b m []))::env,H⟩):ASeq P ops Q l ⟨n,env,H⟩:=QrW (Qsk t b m ht) h
def eff_frz{P:A6}{env:List (Nat×AV)}{H:List Blk}{x:AV}{H':List Blk}(k:Nat)(hC:H[k]? =some C)(h:Eff P o (frzE k C env) ((H.set k C.dead).map (Blk.frz k C)) x H'):Eff P o env H x H':=by
 intro B σ S a w hB hS hop K Q kk;obtain⟨σ1,S1,h1,h2,h3⟩:=hS.freeze hC;refine h B σ1 S1 a w hB h1 (fun u hu=>?_) K Q fun v w' σ' S' g1 g2 g3=>kk v w' σ' S' g1 g2 (h3.trans g3)
 have:=h2 _ _ (hop u hu);cases u with
 |tmp t=>simp only[aval] at this⊢;rw[Qiv];omega
 |_=>exact this
theorem QlQ{P:A6}{ops:Array AJ}{K:St->Prop}{n:Nat}{env env1:List (Nat×AV)}{H Hf H':List Blk}{d:Ak}{ty:A0}{pos:String}{after:Array AT}{gd:Option (Nat×Bool)}{x x':AV}{gl:List AV}(kf:Nat)(ks:List Nat){f:AO}{xs:Array A4}{tys:Array A0}{args:List AV}{H0 H1:List Blk}(h:Does P f args H0 gl x H1)(hf: ∀args w,(callFunc f args).run P w= .ok (.enter f args) w)
 (hC:H[kf]? =some C:=by rfl)
 (he: ∀R:List (Nat×AV)->Prop,R env1->R (frzE kf C env):=by intro R hR;simp only[frzE,AV.frz,AV.frzL,Blk.gen,Blk.iceP,Blk.iceS,Blk.iceM,AV.data,beq_self_eq_true,Nat.reduceBEq,Bool.and_self,Bool.and_true,Bool.true_and,Bool.false_and,Bool.and_false,cond_true,cond_false,List.drop_zero,List.drop_succ_cons,List.map_cons,List.map_nil];exact hR)
 (hh: ∀R:List Blk->Prop,R Hf->R ((H.set kf C.dead).map (Blk.frz kf C)):=by intro R hR;simp only[Blk.dead,Blk.frz,AV.frz,AV.frzL,Blk.gen,Blk.iceP,Blk.iceS,Blk.iceM,AV.data,List.set_cons_zero,List.set_cons_succ,List.map_cons,List.map_nil,Nat.zero_add,beq_self_eq_true,Nat.reduceBEq,Bool.and_self,Bool.and_true,Bool.true_and,Bool.false_and,Bool.and_false,cond_true,cond_false,List.drop_zero,List.drop_succ_cons];exact hR)
 (hargs:xs.toList.map (aval env1)=AV.renL (rho ks Hf.length) args:=by rfl) (hks:ks.map (fun k=>Hf[k]?)=(H0.map (Blk.ren (rho ks Hf.length))).map some:=by rfl) (hnd:ks.Nodup:=by decide)
 (hla:AV.ltL H0.length args=true:=by rfl) (hlg:AV.ltL H0.length gl=true:=by rfl) (hlH:H0.all (Blk.lt H0.length)=true:=by rfl) (hgl: ∀g∈gl,g.ren (rho ks Hf.length)∈(xs.toList.map (aval env1)).flatMap AV.parts++Hf.flatMap Blk.parts)
 (hX: ∀R:AV->Prop,R x'->R (x.ren (rho ks Hf.length)):=by intro R hR;simp only[AV.ren,AV.renL,rho,List.getElem?_cons_zero,List.getElem?_cons_succ];exact hR)
 (hH: ∀R:List Blk->Prop,R H'->R (place (rho ks Hf.length) Hf ks H1++(H1.drop ks.length).map (Blk.ren (rho ks Hf.length))):=by intro R hR;simp only[place,Blk.ren,AV.ren,AV.renL,rho,List.getElem?_cons_zero,List.getElem?_cons_succ,List.map_cons,List.map_nil,List.set_cons_zero,List.set_cons_succ,List.drop_succ_cons,List.drop_zero,List.drop_nil,List.append_nil,List.length_cons,List.length_nil,Nat.reduceAdd,Nat.zero_add];exact hR)
 (hw:awanted ops env ⟨some d,.call ⟨.value (.func f),xs,tys⟩,ty,pos,after,gd⟩=some true:=by rfl) (hd:AI d n=true:=by rfl) (hg:gdOk ops n ⟨some d,.call ⟨.value (.func f),xs,tys⟩,ty,pos,after,gd⟩=true:=by rfl)
 (k:K ⟨n,(d,x')::env,H'⟩):AStep P ops ⟨some d,.call ⟨.value (.func f),xs,tys⟩,ty,pos,after,gd⟩ K ⟨n,env,H⟩:=by
 have e1:=he (fun r=>r=env1) rfl;have e2:=hh (fun r=>r=Hf) rfl;subst e1;subst e2;exact astep (eff_frz kf hC (QlB ks h hf hargs hks hnd hla hlg hlH hgl hX hH)) hw hd hg k
variable{P:A6}
def Qpa{f:AO}{args gl:List AV}{H0:List Blk}{d:D}(hpin: ∀i C,H0[i]? =some C->pin1 gl i C C)
 (h: ∀(B:Bs) (σ:Sg) (S:Nat->Prop) (w:AK) (cargs:List AF),Gd B->Sm B σ S H0 w->args.length=cargs.length->(∀(i:Nat) d v,args[i]? =some d->cargs[i]? =some v->Rel σ S H0 w d v)->
   Calls P f cargs.toArray w fun e w'=> ∃v,e= .returned v/\Below w.heap.size w w'/\RelD (fun b=>S b∨w.heap.size<=b/\b<w'.heap.size) w' d v):Does P f args H0 gl (.d d) H0:=by
 refine⟨fun i C hC=>⟨C,hC,hpin i C hC⟩,fun B σ S w cargs gvs hB hS hl hr hgl hgr=>?_⟩;refine(h B σ S w cargs hB hS hl hr).mono ?_;rintro e w' ⟨v,rfl,hb,hv⟩;obtain⟨h3,h4⟩:=hS.below hb;exact⟨v,σ,_,rfl,h3,.d _ _ hv,fun i d v hd hv=>(hgr i d v hd hv).mono h4⟩
def AV.flat1:AV->Bool
 |.d x=>x.flat
 |.osl _ _ _ _=>true
 |_=>false
def AV.flatA:AV->Bool
 |.tup l=>l.all AV.flat1
 |.agg l=>l.all AV.flat1
 |x=>x.flat1
def Blk.flat:Blk->Bool
 |.arr _ _ _ rows=>rows.all fun r=>r.all D.flat
 |.row _ cells=>cells.isEmpty
 |.none=>true
 |_=>false
theorem Qks{S:Nat->Prop}{H H':List Blk}{m:Nat}(hm: ∀i C,H[i]? =some C->H'[i+m]? =some C/\σ' (i+m)=σ i){x:AV}{v:AF}(h:Rel σ S H w x v)(hx:x.flat1=true):Rel σ' S' H' w (x.ren (· +m)) v:=by
 cases h with
 |d _ _ h=>exact .d _ _ (h.flat hx)
 |osl k g off len v ho g' sz T rows hk hg h=>
  obtain⟨h1,h2⟩:=hm k _ hk;refine .osl (k+m) g off len v ho g' sz T rows h1 hg fun e=>?_
  have:=h e;unfold OSl at this⊢;simp_all
 |_=>cases hx
theorem Qtn{S:Nat->Prop}{H H':List Blk}{m:Nat}(hm: ∀i C,H[i]? =some C->H'[i+m]? =some C/\σ' (i+m)=σ i){x:AV}{v:AF}(h:Rel σ S H w x v)(hx:x.flatA=true):Rel σ' S' H' w (x.ren (· +m)) v:=by
 cases x with
 |tup l=>
  cases h with
  |tup _ cs hl hr=>
   refine .tup _ cs (by grind [AV.renL_len]) fun i d x hd hxx=>?_
   obtain⟨d0,h1,rfl⟩:=Qe7 hd;exact Qks hm (hr i d0 x h1 hxx) (A5.1 hx d0 (A2 h1))
 |agg l=>
  cases h with
  |agg _ cs hl hr=>
   refine .agg _ cs (by grind [AV.renL_len]) fun i d x hd hxx=>?_
   obtain⟨d0,h1,rfl⟩:=Qe7 hd;exact Qks hm (hr i d0 x h1 hxx) (A5.1 hx d0 (A2 h1))
 |_=>exact Qks hm h hx
theorem QnP{dst:Option Ak}{ty:A0}{pos:String}{after:Array AT}{gd:Option (Nat×Bool)}{env:List (Nat×AV)}{H H1:List Blk}{f:AO}{xs:Array A4}{tys:Array A0}{ds:List D}{x:AV}
 (h:Does P f (ds.map .d) [] [] x H1) (hf: ∀args w,(callFunc f args).run P w= .ok (.enter f args) w) (hd:D.weakL (xs.toList.map fun u=>(aval env u).ice H 4)=ds) (hx:x.flatA=true) (hH1:H1.all Blk.flat=true):
 Eff P ⟨dst,.call ⟨.value (.func f),xs,tys⟩,ty,pos,after,gd⟩ env H (x.ren (· +H.length)) (H++H1):=by
 intro B σ S a w hB hS hop K Q kk
 have hrun:(execOp a.eval ⟨dst,.call ⟨.value (.func f),xs,tys⟩,ty,pos,after,gd⟩).run P w= .ok (.enter f (xs.toList.map a.eval).toArray) w:=by
  have:execOp a.eval ⟨dst,.call ⟨.value (.func f),xs,tys⟩,ty,pos,after,gd⟩=callFunc f (#[]++xs.map a.eval++ #[]):=rfl;rw[this,hf]
  congr 2
  grind
 unfold Oper.wp;rw[hrun,Oper.upon_enter]
 let S2:Nat->Prop:=fun b=>S b∨ ∃k,k<H.length/\σ k=some b
 have hB':Gd ⟨w,B.G,fun _=>False,S2⟩:=hB.again hS S2
 have hS':Sm ⟨w,B.G,fun _=>False,S2⟩ (fun _=>none) S2 [] w:=by
  refine⟨rfl,rfl,rfl,Nat.le_refl _,fun _ _ _=>rfl,fun _ h=>h,fun b hb=>⟨?_,.inl hb⟩,fun k b hk=>by simp at hk,fun k k' b hk=>by simp at hk,fun k C hC=>by simp at hC⟩;rcases hb with hb|⟨k,hk,hb⟩
  ·exact(hS.sUp b hb).1
  ·exact(hS.σUp k b hk hb).1
 subst hd;refine(h.2 _ _ S2 w (xs.toList.map a.eval) [] hB' hS' (by simp[D.weakL_len]) (fun i d v hi hv=>?_) rfl (fun i d v hd=>by simp at hd)).mono ?_
 ·rw[AM,D.weakL_get,AM] at hi
  rw[AM] at hv;cases hx:xs.toList[i]? with
  |none=>grind
  |some u=>
   rw[hx] at hi hv;obtain rfl:=A3 hi;obtain rfl:=A3 hv;exact .d _ _ (Qhm hS (fun k C h=> .inl h) 4 _ _ (hop u (by grind [AA,Ac]))).weak
 rintro e w' ⟨v,σ',S',rfl,hS1,hR,_⟩;have hb:Below w.heap.size w w':=⟨hS1.os,hS1.tape,hS1.output,hS1.size,fun k hk=>hS1.keep k hk fun h=>h⟩;have hlt: ∀k b,k<H.length->σ k=some b->b<w.heap.size:=fun k b hk hb=>(hS.σUp k b hk hb).1
 let σ2:Sg:=fun k=>if k<H.length then σ k else σ' (k -H.length)
 have h2a: ∀k,k<H.length->σ2 k=σ k:=fun k hk=>if_pos hk
 have h2b: ∀k,¬k<H.length->σ2 k=σ' (k -H.length):=fun k hk=>if_neg hk
 have e0:Ev σ S H w σ2 S (H++H1) w':=Ev.more (fun b hb2=>hb.block b (hS.sUp b hb2).1) fun k C hC _=>by
  have hk:=(A8.1 hC).1;exact⟨by grind,h2a k hk,fun b hbb=>hb.block b (hlt k b hk hbb)⟩
 have hm: ∀i C,H1[i]? =some C->(H++H1)[i+H.length]? =some C/\σ2 (i+H.length)=σ' i:=fun i C hC=>
  ⟨by grind,by grind⟩
 have hnew: ∀k b,k<H1.length->σ' k=some b->b<w'.heap.size/\ ¬S2 b/\w.heap.size<=b:=fun k b hk hbb=>by
  obtain⟨g1,g2,g3⟩:=hS1.σUp k b hk hbb;exact⟨g1,fun h=>g2 (hS1.sLo b h),g3.resolve_left fun h=>h⟩
 refine kk v w' σ2 S ⟨hb.os.trans hS.os,hb.tape.trans hS.tape,hb.output.trans hS.output,Nat.le_trans hS.size hb.size,fun b hlt hn=>(hb.block b (by have:=hS.size;omega)).trans (hS.keep b hlt hn),hS.sLo,
  fun b hb2=>⟨by have:=(hS.sUp b hb2).1;have:=hb.size;omega,(hS.sUp b hb2).2⟩,fun k b hk hbb=>?_,fun k k' b hk hk' h1 h2=>?_,fun k C hC=>?_⟩ (Qtn hm hR hx) e0
 ·by_cases hkl:k<H.length
  ·rw[h2a k hkl] at hbb
   obtain⟨g1,g2⟩:=hS.σUp k b hkl hbb;exact⟨by have:=hb.size;omega,g2⟩
  ·rw[h2b k hkl] at hbb
   obtain⟨g1,g2,g3⟩:=hnew _ b (by grind) hbb;exact⟨g1,fun h=>g2 (.inl h),.inr (by have:=hS.size;omega)⟩
 ·by_cases hkl:k<H.length
  ·rw[h2a k hkl] at h1
   have:=hlt k b hkl h1
   by_cases hkl':k'<H.length
   ·rw[h2a k' hkl'] at h2;exact hS.inj k k' b hkl hkl' h1 h2
   grind
  ·rw[h2b k hkl] at h1
   by_cases hkl':k'<H.length
   ·grind
   ·rw[h2b k' hkl'] at h2
    have:=hS1.inj _ _ b (by grind) (by grind) h1 h2;omega
 ·by_cases hkl:k<H.length
  ·rw[List.getElem?_append_left hkl] at hC
   exact(hS.blk k C hC).mono e0 (h2a k hkl) fun b hbb=>hb.block b (hlt k b hkl hbb)
  ·rw[List.getElem?_append_right (by omega)] at hC
   have hfl:=A5.1 hH1 C (A2 hC);have hbk:=hS1.blk _ C hC;cases C with
   |arr g sz T rows=>
    obtain⟨g1,g2⟩:=hbk;refine⟨g1,?_⟩;rw[<-h2b k hkl] at g2;rcases g2 with⟨b,cs,hb1,hc,hr⟩|g2
    ·refine .inl ⟨b,cs,hb1,hc,fun i j r d hi hj=>?_⟩
     obtain⟨u,hu,hd⟩:=hr i j r d hi hj;exact⟨u,hu,hd.flat (A5.1 (A5.1 hfl r (A2 hi)) d (A2 hj))⟩
    grind
   |row g cells=>
    obtain rfl:cells=[]:=List.isEmpty_iff.1 hfl;rcases hbk with⟨b,cs,T,hb1,hc,_⟩|⟨hb1,_⟩
    ·exact .inl ⟨b,cs,T,(h2b k hkl).trans hb1,hc,fun j x hx=>by simp at hx⟩
    ·exact .inr ⟨(h2b k hkl).trans hb1,rfl⟩
   |none=>exact(h2b k hkl).trans hbk
   |mp g l=>cases hfl
section
variable{ops:Array AJ}{Q:AW->St->Prop}{K:St->Prop}{l:List AJ}{n:Nat}{env:List (Nat×AV)}{H H' H1:List Blk}{d:Ak}{ty:A0}{pos:String}{after:Array AT}{gd:Option (Nat×Bool)}{x x':AV}{f:AO}{xs:Array A4}{tys:Array A0}{ds:List D}
end
variable{P:A6}
theorem Qnr(ρ:Nat->Nat): ∀(l:List AV),AV.renL ρ l=l.map (AV.ren ρ)
 :=by intro l;induction l<;>grind [AV.renL]
theorem Qo6(ρ:Nat->Nat)(x:AV):(x.ren ρ).parts=x.parts.map (AV.ren ρ):=by
 cases x<;>simp[AV.parts,AV.ren,Qnr]
theorem Qfb{ρ:Nat->Nat}{args:List AV}{g:AV}(h:g∈args.flatMap AV.parts):g.ren ρ∈(AV.renL ρ args).flatMap AV.parts:=by grind [Qnr,Qo6]
section
variable{ops:Array AJ}{Q:AW->St->Prop}{K:St->Prop}{l:List AJ}{n:Nat}{env:List (Nat×AV)}{H H' H1:List Blk}{d:Ak}{ty:A0}{pos:String}{after:Array AT}{gd:Option (Nat×Bool)}{x x':AV}{f:AO}{xs:Array A4}{tys:Array A0}{ds:List D}{gl args:List AV}{H0:List Blk}{Q0:AV->List Blk->Prop}
theorem QA(ks:List Nat)(h:DoesE P f args H0 gl Q0)(hf: ∀args w,(callFunc f args).run P w= .ok (.enter f args) w)
 (hargs:xs.toList.map (aval env)=AV.renL (rho ks H.length) args:=by rfl) (hks:ks.map (fun k=>H[k]?)=(H0.map (Blk.ren (rho ks H.length))).map some:=by rfl) (hnd:ks.Nodup:=by decide)
 (hla:AV.ltL H0.length args=true:=by rfl) (hlg:AV.ltL H0.length gl=true:=by rfl) (hlH:H0.all (Blk.lt H0.length)=true:=by rfl) (hgs: ∀g∈gl,g∈args.flatMap AV.parts:=by simp[AV.parts])
 (hw:awanted ops env ⟨some d,.call ⟨.value (.func f),xs,tys⟩,ty,pos,after,gd⟩=some true:=by rfl) (hd:AI d n=true:=by rfl) (hg:gdOk ops n ⟨some d,.call ⟨.value (.func f),xs,tys⟩,ty,pos,after,gd⟩=true:=by rfl)
 (k: ∀x H1,Q0 x H1->ASeq P ops Q l ⟨n,(d,x.ren (rho ks H.length))::env,place (rho ks H.length) H ks H1++(H1.drop ks.length).map (Blk.ren (rho ks H.length))⟩):
 ASeq P ops Q (⟨some d,.call ⟨.value (.func f),xs,tys⟩,ty,pos,after,gd⟩::l) ⟨n,env,H⟩:=
 QlU (Qff ks h (Qec hf) hargs hks hnd hla hlg hlH fun g hg=>AB _ (by grind [Qfb])) hd hg hw (by rintro _ _ ⟨x,H1,hq,rfl,rfl⟩;exact k x H1 hq)
theorem QeL(ks:List Nat)(h:DoesE P f args H0 gl Q0)(hf: ∀args w,(callFunc f args).run P w= .ok (.enter f args) w)
 (hargs:xs.toList.map (aval env)=AV.renL (rho ks H.length) args:=by rfl) (hks:ks.map (fun k=>H[k]?)=(H0.map (Blk.ren (rho ks H.length))).map some:=by rfl) (hnd:ks.Nodup:=by decide)
 (hla:AV.ltL H0.length args=true:=by rfl) (hlg:AV.ltL H0.length gl=true:=by rfl) (hlH:H0.all (Blk.lt H0.length)=true:=by rfl) (hgs: ∀g∈gl,g∈args.flatMap AV.parts:=by simp[AV.parts])
 (hw:awanted ops env ⟨some d,.call ⟨.value (.func f),xs,tys⟩,ty,pos,after,gd⟩=some true:=by rfl) (hd:AI d n=true:=by rfl) (hg:gdOk ops n ⟨some d,.call ⟨.value (.func f),xs,tys⟩,ty,pos,after,gd⟩=true:=by rfl)
 (k: ∀x H1,Q0 x H1->K ⟨n,(d,x.ren (rho ks H.length))::env,place (rho ks H.length) H ks H1++(H1.drop ks.length).map (Blk.ren (rho ks H.length))⟩):
 AStep P ops ⟨some d,.call ⟨.value (.func f),xs,tys⟩,ty,pos,after,gd⟩ K ⟨n,env,H⟩:=
 ⟨_,Qff ks h (Qec hf) hargs hks hnd hla hlg hlH (fun g hg=>AB _ (by grind [Qfb])),hw,hd,hg,by rintro _ _ ⟨x,H1,hq,rfl,rfl⟩;exact k x H1 hq⟩
def Qd1(hX: ∀R:AV->Prop,R x'->R x:=by intro R hR;simp only[AV.ren,AV.renL,rho,List.getElem?_cons_zero,List.getElem?_cons_succ,List.getElem?_nil,List.length_cons,List.length_nil,Nat.reduceAdd,Nat.reduceSub,Nat.zero_add];exact hR)
 (hH: ∀R:List Blk->Prop,R H'->R H:=by intro R hR;simp only[place,Blk.ren,AV.ren,AV.renL,rho,List.getElem?_cons_zero,List.getElem?_cons_succ,List.getElem?_nil,List.map_cons,List.map_nil,List.set_cons_zero,List.set_cons_succ,List.drop_succ_cons,List.drop_zero,List.drop_nil,List.append_nil,List.cons_append,List.nil_append,List.length_cons,List.length_nil,Nat.reduceAdd,Nat.reduceSub,Nat.zero_add];exact hR)
 (k:ASeq P ops Q l ⟨n,(d,x')::env,H'⟩):ASeq P ops Q l ⟨n,(d,x)::env,H⟩:=by
 have h1:=hX (fun r=>r=x') rfl;have h2:=hH (fun r=>r=H') rfl;rw[h1,h2];exact k
def QkA(hX: ∀R:AV->Prop,R x'->R x:=by intro R hR;simp only[AV.ren,AV.renL,rho,List.getElem?_cons_zero,List.getElem?_cons_succ,List.getElem?_nil,List.length_cons,List.length_nil,Nat.reduceAdd,Nat.reduceSub,Nat.zero_add];exact hR)
 (hH: ∀R:List Blk->Prop,R H'->R H:=by intro R hR;simp only[place,Blk.ren,AV.ren,AV.renL,rho,List.getElem?_cons_zero,List.getElem?_cons_succ,List.getElem?_nil,List.map_cons,List.map_nil,List.set_cons_zero,List.set_cons_succ,List.drop_succ_cons,List.drop_zero,List.drop_nil,List.append_nil,List.cons_append,List.nil_append,List.length_cons,List.length_nil,Nat.reduceAdd,Nat.reduceSub,Nat.zero_add];exact hR)
 {ol:List AJ} {fl ms:List Nat} {off:Nat} {Q:St->Prop} (k:Fg.PlanF P ol fl Q ms off ⟨n,(d,x')::env,H'⟩):Fg.PlanF P ol fl Q ms off ⟨n,(d,x)::env,H⟩:=by
 have h1:=hX (fun r=>r=x') rfl;have h2:=hH (fun r=>r=H') rfl;rw[h1,h2];exact k
theorem QkB(h:Does P f (ds.map .d) [] [] x H1)(hf: ∀args w,(callFunc f args).run P w= .ok (.enter f args) w)(hd:D.weakL (xs.toList.map fun u=>(aval env u).ice H 4)=ds)(hx:x.flatA=true)(hH1:H1.all Blk.flat=true)
 (hX: ∀R:AV->Prop,R x'->R (x.ren (· +H.length)):=by intro R hR;simp only[AV.ren,AV.renL,List.length_cons,List.length_nil,Nat.reduceAdd,Nat.zero_add];exact hR) (hH: ∀R:List Blk->Prop,R H'->R (H++H1):=by intro R hR;simp only[List.cons_append,List.nil_append];exact hR)
 (hw:awanted ops env ⟨some d,.call ⟨.value (.func f),xs,tys⟩,ty,pos,after,gd⟩=some true:=by rfl) (hdn:AI d n=true:=by rfl) (hg:gdOk ops n ⟨some d,.call ⟨.value (.func f),xs,tys⟩,ty,pos,after,gd⟩=true:=by rfl)
 (k:ASeq P ops Q l ⟨n,(d,x')::env,H'⟩):ASeq P ops Q (⟨some d,.call ⟨.value (.func f),xs,tys⟩,ty,pos,after,gd⟩::l) ⟨n,env,H⟩:=by
 have h1:=hX (fun r=>r=x') rfl;have h2:=hH (fun r=>r=H') rfl;subst h1;subst h2;exact QhH (QnP h hf hd hx hH1) hw hdn hg k
def pinL(gl:List AV):Nat->List Blk->List Blk->Prop
 |_,[],_=>True
 |i,C::r,C'::r'=>pin1 gl i C C'/\pinL gl (i+1) r r'
 |_,_::_,[]=>False
theorem Qnx: ∀{H0 H1:List Blk} {j:Nat},pinL gl j H0 H1-> ∀i C,H0[i]? =some C-> ∃C',H1[i]? =some C'/\pin1 gl (j+i) C C'
 |[],_,_,_,i,C,hC=>by simp at hC
 |_::_,[],_,h,_,_,_=>h.elim
 |C0::r,C1::r',j,h,0,C,hC=>by simp at hC;subst hC;exact⟨C1,rfl,h.1⟩
 |C0::r,C1::r',j,h,i+1,C,hC=>by
  obtain⟨C',h1,h2⟩:=Qnx h.2 i C (by grind)
  grind
end
inductive VRs(P:A6)(env:List (Nat×AV))(H:List Blk):List AE->List AV->Prop
 |nil:VRs P env H [] []
 |tmp {t:Ak} {rs:List AE} {x:AV} {l:List AV} (h:look env t=x) (r:VRs P env H rs l):VRs P env H (.tmp t::rs) (x::l)
 |cell {a:Ak} {T:A0} {rs:List AE} {k g:Nat} {cells:List AV} {F:TyF} {x:AV} {l:List AV} (h:look env a= .ptr k g 0) (hk:H[k]? =some (.row g cells)) (hT:tyf P T=some F) (hx:ldA F cells=some x) (r:VRs P env H rs l):
   VRs P env H (.cell a T::rs) (x::l)
def oneR:List AV->AV
 |[x]=>x
 |l=> .tup l
def EndR(P:A6)(H0:List Blk)(rs:List AE)(Q0:AV->List Blk->Prop)(gl:List AV)(gvs:List AF):AW->St->Prop
 |.normal,s| .ret,s=> ∃m l,VRs P s.env s.H rs l/\(oneR l).lt m=true/\(s.H.take m).all (Blk.lt m)=true/\AV.ltL m gl=true/\Q0 (oneR l) (s.H.take m)/\pinL gl 0 H0 (s.H.take m)/\look s.env gslot= .gh gl gvs
 |_,_=>False
theorem Qsl{S:Nat->Prop}{s:St}{a:Act}(hA:SmA B σ S s a w): ∀{rs:List AE} {l:List AV},VRs P s.env s.H rs l->
 ∃vs:List AF,(rs.mapM (rvS a.tmps)).run P w= .ok vs w/\l.length=vs.length/\rs.length=vs.length/\ ∀(i:Nat) d v,l[i]? =some d->vs[i]? =some v->Rel σ S s.H w d v:=by
 intro rs l h;induction h with
 |nil=>simp
 |@tmp t rs x l h r ih=>
  obtain⟨vs,h1,h2,h3,h4⟩:=ih;refine⟨a.tmps.getD t undef::vs,?_,by simp[h2],by simp[h3],fun i d v hd hv=>?_⟩
  ·rw[Ab,A1]
   show((Sem.pure (a.tmps.getD t undef)).run P w).andThen _=_
   simp_all
  ·cases i with
   |zero=>obtain rfl:=A3 hd;obtain rfl:=A3 hv;subst h;exact hA.env t
   |succ i=>grind
 |@cell ad T rs k g cells F x l h hk hT hld r ih=>
  obtain⟨vs,h1,h2,h3,h4⟩:=ih;have ht:=hA.env ad;rw[h] at ht;generalize hv:a.tmps.getD ad undef=tv at ht;cases ht with
  |ptr _ _ _ _ _ g' cells' hk' hgg hh=>
   rw[hk] at hk';injection (A3 hk') with e1 e2;subst e1;subst e2;obtain⟨b,hb,rfl⟩:=hh rfl;rcases hA.sm.blk k _ hk with⟨b',cs,T',hb',hc,hr⟩|⟨hb',_⟩;rotate_left
   ·grind
   rw[hb] at hb';obtain rfl:=A3 hb'
   obtain⟨y,g1,g2⟩:=QqA (b:=b) (o:=0) (w:=w) (S:=S) (σ:=σ) (H:=s.H) hT hld fun j d hd=>by
    grind [cell_of_row]
   refine⟨y::vs,?_,by simp[h2],by simp[h3],fun i d v hd hv=>?_⟩
   ·rw[Ab,A1]
    show((do loadVar T (<-asAddr (a.tmps.getD ad undef)):Sem AF).run P w).andThen _=_;rw[hv];have:(do loadVar T (<-asAddr (.pointer (some ⟨b,0,none⟩))):Sem AF).run P w= .ok y w:=g1
    simp_all
   grind
theorem QgS{f:AO}{fn:Func}{c:Code}{args gl:List AV}{H0:List Blk}{Q0:AV->List Blk->Prop}{n:Nat}{rs:List AE}(hf:P.funcs[f]? =some fn)(hb:fn.body=some c)(hn:fn.ntmps=n)(hrs:fn.results=rs.toArray)(hle:AL args.length n=true)
 (hn2:AL n gslot=true) (h: ∀gvs,AWP P c (EndR P H0 rs Q0 gl gvs) ⟨n,(gslot,.gh gl gvs)::parA 0 args,H0⟩):DoesE P f args H0 gl Q0:=by
 have hlen:args.length<=n:=AG hle;have hn2:n<=gslot:=AG hn2;intro B σ S w cargs gvs hB hS hl hr hgl hgr;refine calls_of_wp hf hb ?_
 have hA:SmA B σ S ⟨n,(gslot,.gh gl gvs)::parA 0 args,H0⟩ {tmps:=cargs.toArray++AQ (fn.ntmps -cargs.toArray.size) undef,defers:=[]} w:=by
  refine⟨hS,rfl,?_,fun t=>?_⟩
  ·grind
  ·by_cases ht:gslot=t
   ·subst ht
    show Rel σ S H0 w (look ((gslot,.gh gl gvs)::parA 0 args) gslot) _;rw[Qdl];exact .gh _ _ _ hgl hgr
   show Rel σ S H0 w (look ((gslot,.gh gl gvs)::parA 0 args) t) _;rw[Qdr ht];rcases QgE args 0 t with⟨d,_,h2,h3⟩|h
   ·rw[h3]
    have ht:t<cargs.length:=by grind
    have:(cargs.toArray++AQ (fn.ntmps -cargs.toArray.size) undef).getD t undef=cargs[t]:=by
     rw[Array.getD_eq_getD_getElem?,Array.getElem?_append_left (by omega)];simp[ht]
    show Rel σ S H0 w d ((cargs.toArray++AQ (fn.ntmps -cargs.toArray.size) undef).getD t undef);rw[this];exact hr t d _ (by omega) (A9 ht)
   ·rw[h];exact .d _ _ (.any _)
 refine wp_mono (h gvs _ hB _ _ _ _ hA) ?_;rintro e a w' ⟨s',σ',S',hq,hA'⟩
 have fin:(∃m l,VRs P s'.env s'.H rs l/\(oneR l).lt m=true/\(s'.H.take m).all (Blk.lt m)=true/\AV.ltL m gl=true/\Q0 (oneR l) (s'.H.take m)/\pinL gl 0 H0 (s'.H.take m)/\look s'.env gslot= .gh gl gvs)->a.defers=[]/\ ∃v,(results fn a.tmps).run P w'= .ok v w'/\
  ∃x H1,Q0 x H1/\(∀i C,H0[i]? =some C-> ∃C',H1[i]? =some C'/\pin1 gl i C C')/\ ∃v' σ' S',Ending.returned v= .returned v'/\Sm B σ' S' H1 w'/\Rel σ' S' H1 w' x v'/\ ∀(i:Nat) d v,gl[i]? =some d->gvs[i]? =some v->Rel σ' S' H1 w' d v:=by
  rintro⟨m,l,hv,hlt,hH,hgm,hQ,hpin,hg⟩;refine⟨hA'.defers,?_⟩;obtain⟨vs,h1,h2,h3,h4⟩:=Qsl hA' hv;obtain⟨h5,h6⟩:=hA'.sm.drop m hH
  have hgh: ∀(i:Nat) d v,gl[i]? =some d->gvs[i]? =some v->Rel σ' S' (s'.H.take m) w' d v:=by
   have:=hA'.env gslot;rw[hg] at this;cases this with
   |gh _ _ _ _ hh=>grind [AV.ltL_get]
  have gen:(fn.results.mapM (rvS a.tmps)).run P w'= .ok vs.toArray w':=by
   simp_all
  rw[QeX];refine⟨if h:vs.toArray.size=1 then vs.toArray[0] else .tuple vs.toArray,?_,oneR l,s'.H.take m,hQ,fun i C hC=>by grind [Qnx],_,σ',S',rfl,h5,h6 _ _ ?_ hlt,hgh⟩
  ·simp_all
  ·match l,vs,h2,h4 with
   |[x],[v],_,h4=>exact h4 0 x v rfl rfl
   |[],[],_,h4=>exact .tup [] [] rfl h4
   |x::y::l,u::v::vs,h2,h4=>
    have: ¬(u::v::vs).toArray.size=1:=by simp
    rw[dif_neg this];exact .tup (x::y::l) (u::v::vs) h2 h4
 cases e with
 |normal=>exact fin hq
 |ret=>exact fin hq
 |_=>exact hq.elim
inductive VR1(P:A6)(env:List (Nat×AV))(H:List Blk):AE->AV->Prop
 |tmp {t:Ak} {x:AV} (h:look env t=x:=by rfl):VR1 P env H (.tmp t) x
 |cell {a:Ak} {T:A0} {k g:Nat} {cells:List AV} {F:TyF} {x:AV} [hT:Ty P T F] (h:look env a= .ptr k g 0:=by rfl) (hk:H[k]? =some (.row g cells):=by rfl) (hx:ldA F cells=some x:=by rfl):VR1 P env H (.cell a T) x
def VRs.cons{P:A6}{env:List (Nat×AV)}{H:List Blk}{r:AE}{rs:List AE}{x:AV}{l:List AV}(h:VR1 P env H r x)(hr:VRs P env H rs l):VRs P env H (r::rs) (x::l):=by
 cases h with
 |tmp h=>exact .tmp h hr
 |cell h hk hx=>exact .cell h hk Ty.h hx hr
def Q1(m:Nat){P:A6}{Q:AW->St->Prop}{n:Nat}{env:List (Nat×AV)}{H H0:List Blk}{Q0:AV->List Blk->Prop}{gl:List AV}(hq:Q .ret ⟨n,env,H⟩=EndR P H0 [r1] Q0 gl gvs .ret ⟨n,env,H⟩:=by rfl)
 (h1:VR1 P env H r1 x1:=by first|exact VR1.tmp|exact VR1.cell) (hlt:(oneR [x1]).lt m=true:=by rfl) (hH:(H.take m).all (Blk.lt m)=true:=by rfl) (hgl:AV.ltL m gl=true:=by rfl) (hg:look env gslot= .gh gl gvs:=by rfl)
 (hp:pinL gl 0 H0 (H.take m):=by repeat' (first|exact True.intro|exact⟨rfl,rfl,.inl (by omega)⟩|exact⟨rfl,rfl,.inr ⟨rfl,by first|rfl|(simp;done)|(simp only[List.length_map];first|assumption|omega),_,_,by repeat(first|exact List.Mem.head _|apply List.Mem.tail)⟩⟩|exact .inr ⟨rfl,_,by repeat(first|exact List.Mem.head _|apply List.Mem.tail)⟩|refine⟨?_,?_⟩))
 (hx:Q0 (oneR [x1]) (H.take m)):AWP P .ret Q ⟨n,env,H⟩:=Qg4 (by rw[hq];exact⟨m,[x1],(.cons h1 .nil),hlt,hH,hgl,hx,hp,hg⟩)
def Qdt(m:Nat){P:A6}{Q:AW->St->Prop}{n:Nat}{env:List (Nat×AV)}{H H0:List Blk}{Q0:AV->List Blk->Prop}{gl:List AV}(hq:Q .ret ⟨n,env,H⟩=EndR P H0 [r1,r2] Q0 gl gvs .ret ⟨n,env,H⟩:=by rfl)
 (h1:VR1 P env H r1 x1:=by first|exact VR1.tmp|exact VR1.cell) (h2:VR1 P env H r2 x2:=by first|exact VR1.tmp|exact VR1.cell) (hlt:(oneR [x1,x2]).lt m=true:=by rfl) (hH:(H.take m).all (Blk.lt m)=true:=by rfl) (hgl:AV.ltL m gl=true:=by rfl) (hg:look env gslot= .gh gl gvs:=by rfl)
 (hp:pinL gl 0 H0 (H.take m):=by repeat' (first|exact True.intro|exact⟨rfl,rfl,.inl (by omega)⟩|exact⟨rfl,rfl,.inr ⟨rfl,by first|rfl|(simp;done)|(simp only[List.length_map];first|assumption|omega),_,_,by repeat(first|exact List.Mem.head _|apply List.Mem.tail)⟩⟩|exact .inr ⟨rfl,_,by repeat(first|exact List.Mem.head _|apply List.Mem.tail)⟩|refine⟨?_,?_⟩))
 (hx:Q0 (oneR [x1,x2]) (H.take m)):AWP P .ret Q ⟨n,env,H⟩:=Qg4 (by rw[hq];exact⟨m,[x1,x2],(.cons h1 (.cons h2 .nil)),hlt,hH,hgl,hx,hp,hg⟩)
def QN(m:Nat){P:A6}{Q:AW->St->Prop}{n:Nat}{env:List (Nat×AV)}{H H0:List Blk}{Q0:AV->List Blk->Prop}{r3:AE}{gl:List AV}{x3:AV}(hq:Q .ret ⟨n,env,H⟩=EndR P H0 [r1,r2,r3] Q0 gl gvs .ret ⟨n,env,H⟩:=by rfl)
 (h1:VR1 P env H r1 x1:=by first|exact VR1.tmp|exact VR1.cell) (h2:VR1 P env H r2 x2:=by first|exact VR1.tmp|exact VR1.cell) (h3:VR1 P env H r3 x3:=by first|exact VR1.tmp|exact VR1.cell) (hlt:(oneR [x1,x2,x3]).lt m=true:=by rfl) (hH:(H.take m).all (Blk.lt m)=true:=by rfl) (hgl:AV.ltL m gl=true:=by rfl) (hg:look env gslot= .gh gl gvs:=by rfl)
 (hp:pinL gl 0 H0 (H.take m):=by repeat' (first|exact True.intro|exact⟨rfl,rfl,.inl (by omega)⟩|exact⟨rfl,rfl,.inr ⟨rfl,by first|rfl|(simp;done)|(simp only[List.length_map];first|assumption|omega),_,_,by repeat(first|exact List.Mem.head _|apply List.Mem.tail)⟩⟩|exact .inr ⟨rfl,_,by repeat(first|exact List.Mem.head _|apply List.Mem.tail)⟩|refine⟨?_,?_⟩))
 (hx:Q0 (oneR [x1,x2,x3]) (H.take m)):AWP P .ret Q ⟨n,env,H⟩:=Qg4 (by rw[hq];exact⟨m,[x1,x2,x3],(.cons h1 (.cons h2 (.cons h3 .nil))),hlt,hH,hgl,hx,hp,hg⟩)
def pk(ks:List Nat)(i:Nat):Nat:=ks.getD i 0
def renE(ρ:Nat->Nat):List (Nat×AV)->List (Nat×AV)
 |[]=>[]
 |(t,x)::r=>(t,x.ren ρ)::renE ρ r
theorem Qls(ρ:Nat->Nat): ∀(env:List (Nat×AV)) (t:Nat),look (renE ρ env) t=(look env t).ren ρ
 |[],_=>rfl
 |(u,x)::r,t=>by
  by_cases h:u=t
  ·subst h;rw[Qdl];exact Qdl _ _ _
  ·rw[Qdr h]
   have:look (renE ρ ((u,x)::r)) t=look (renE ρ r) t:=Qdr h _ _;rw[this];exact Qls ρ r t
theorem Sm.pick{S:Nat->Prop}{H H':List Blk}(hS:Sm B σ S H w)(ks:List Nat)(hks:ks.map (fun k=>H[k]?)=(H'.map (Blk.ren (pk ks))).map some)(hnd:ks.Nodup)(hlH:H'.all (Blk.lt H'.length)=true):
 Sm B (fun i=>σ (pk ks i)) S H' w/\ ∀x v,Rel σ S H w (x.ren (pk ks)) v->x.lt H'.length=true->Rel (fun i=>σ (pk ks i)) S H' w x v:=by
 have hlen:ks.length=H'.length:=by have:=congrArg List.length hks;grind
 have hk: ∀i C,H'[i]? =some C->ks[i]? =some (pk ks i)/\H[pk ks i]? =some (C.ren (pk ks)):=fun i C hC=>by
  have hi:i<ks.length:=by grind
  have e:ks[i]? =some (pk ks i):=by grind [pk]
  refine⟨e,?_⟩;have:=congrArg (fun l=>l[i]?) hks
  grind
 have hkl: ∀i,i<H'.length->ks[i]? =some (pk ks i)/\pk ks i<H.length:=fun i hi=>by
  obtain⟨h1,h2⟩:=hk i _ (A9 hi)
  grind
 have hm0: ∀i,i<H'.length-> ∃C,H'[i]? =some C/\H[pk ks i]? =some (C.ren (pk ks))/\σ (pk ks i)=(fun i=>σ (pk ks i)) i:=fun i hi=>
  ⟨_,A9 hi,(hk i _ (A9 hi)).2,rfl⟩
 refine⟨⟨hS.os,hS.tape,hS.output,hS.size,hS.keep,hS.sLo,hS.sUp,fun i b hi hb=>hS.σUp _ b (hkl i hi).2 hb,fun i j b hi hj hb hb'=>?_,fun i C hC=>?_⟩,fun x v h hx=>h.down hm0 x rfl hx⟩
 ·obtain⟨h1,h2⟩:=hkl i hi
  obtain⟨h3,h4⟩:=hkl j hj;have:=hS.inj _ _ b h2 h4 hb hb';rw[<-this] at h3;obtain⟨hi',e1⟩:=A8.1 h1;obtain⟨hj',e2⟩:=A8.1 h3;have hp:=List.pairwise_iff_getElem.1 hnd
  grind
 ·have hb:=hS.blk _ _ (hk i C hC).2
  have hlt:=A5.1 hlH C (A2 hC);cases C with
  |none=>exact hb
  |row g cells=>
   rcases hb with⟨b,cs,T,hb,hc,hr⟩|⟨hb,hc⟩
   ·refine .inl ⟨b,cs,T,hb,hc,fun j y hy=>?_⟩
    obtain⟨u,hu,hr'⟩:=hr j (y.ren (pk ks)) (by rw[AV.renL_get,hy];rfl);exact⟨u,hu,hr'.down hm0 y rfl (AV.ltL_get hlt hy)⟩
   ·refine .inr ⟨hb,?_⟩
    cases cells with
    |nil=>rfl
    |cons=>simp[AV.renL] at hc
  |arr g sz T rows=>exact hb
  |mp g l=>exact hb
def QkL(ts ks:List Nat){n:Nat}{env env':List (Nat×AV)}{H H':List Blk}(he:keepE env ts=renE (pk ks) env')(hks:ks.map (fun k=>H[k]?)=(H'.map (Blk.ren (pk ks))).map some)(hnd:ks.Nodup)
 (h1:envLt H'.length env'=true) (h2:H'.all (Blk.lt H'.length)=true):Weak ⟨n,env,H⟩ ⟨n,env',H'⟩:=by
 intro B σ S a w hA;obtain⟨h3,h4⟩:=hA.sm.pick ks hks hnd h2;refine⟨_,S,h3,hA.defers,hA.size,fun t=>?_⟩;have hl:=Qls (pk ks) env' t;rw[<-he] at hl;rcases Qju env ts t with h|h
 ·refine h4 _ _ ?_ (Qhp h1 t)
  rw[<-hl,h];exact hA.env t
 ·rw[h] at hl
  simp only;cases hx:look env' t<;>rw[hx] at hl<;>simp only[AV.ren,reduceCtorEq,AV.d.injEq] at hl;rw[<-hl];exact .d _ _ (.any _)
def QdI(ts ks:List Nat){c:Code}{Q:AW->St->Prop}{n:Nat}{env env':List (Nat×AV)}{H H':List Blk}(he:keepE env ts=renE (pk ks) env':=by rfl)(hks:ks.map (fun k=>H[k]?)=(H'.map (Blk.ren (pk ks))).map some:=by rfl)(hnd:ks.Nodup:=by decide)
 (h1:envLt H'.length env'=true:=by rfl) (h2:H'.all (Blk.lt H'.length)=true:=by rfl) (h:AWP P c Q ⟨n,env',H'⟩):AWP P c Q ⟨n,env,H⟩:=Qgf (QkL ts ks he hks hnd h1 h2) h
theorem QsP{P:A6}{dst:Option Ak}{ty:A0}{pos:String}{after:Array AT}{gd:Option (Nat×Bool)}{env:List (Nat×AV)}{H:List Blk}{κ:Nat}{T e:A0}{F E:TyF}{n:Nat}{parts:Array (Nat×A4)}{rows:List (List D)}(hH:H.length=κ)(hT:tyf P T=some F)(he:F.elem=some e)(hE:tyf P e=some E)
 (hz:E.zero.length=E.size:=by rfl) (hc: ∀R:Option (List (List D))->Prop,R (some rows)->R ((fillA (fun i=>some (i*E.size,E.size)) env (List.replicate n (E.zero.map fun v=>AV.d (.v v))).flatten parts.toList).bind (chunk E.size n)):=by
   intro R hR;simp only[go_sem,chunk,Option.bind_some,List.replicate_succ,List.replicate_zero,List.flatten_cons,List.flatten_nil,List.append_nil,List.cons_append,List.nil_append,Nat.zero_mul,Nat.reduceMul,Nat.reduceEqDiff,Nat.reduceAdd,Nat.reduceLT,Nat.reduceLeDiff,↓reduceIte,reduceCtorEq,List.take_nil,List.drop_nil];exact hR)
 (hm:AL (n*E.size) 16777216=true:=by rfl) (hn:AL n 16777216=true:=by rfl):Loc P ⟨dst,.buildSlice T n parts,ty,pos,after,gd⟩ env H (.osl κ 0 0 n) (some (.arr 0 E.size e rows)):=by subst hH;exact Qix hT he hE hz hc hm hn
namespace Fk
variable{P:A6}{ops:List AJ}{fl:List Nat}{fa:Fas}
theorem Qis(p:Nat->Bool)(ρ:Nat->Nat): ∀(ks:List Nat) (H Cs:List Blk),(∀k∈ks,p k=false)->place ρ (maskP p H) ks Cs=maskP p (place ρ H ks Cs)
 |[],H,Cs,_=>by cases Cs<;>rfl
 |_::_,H,[],_=>rfl
 |k::ks,H,C::Cs,h=>by
  simp only[place];rw[Qir (h k List.mem_cons_self)];exact Qis p ρ ks _ Cs fun j hj=>h j (AS _ hj)
def kapOk(kp ks:List Nat)(h:Nat):Bool:=kp.all fun k=> !(ks.any (Al k))&&AI k h
theorem Qj1{kp ks:List Nat}{h:Nat}(hk:kapOk kp ks h=true){p:Nat->Bool}(hp: ∀k,p k=true->k∈kp):(∀k∈ks,p k=false)/\ ∀k,p k=true->k<h:=by
 have h0:=A5.1 hk;refine⟨fun k hkk=>?_,fun k hpk=>?_⟩
 ·cases hpk:p k with
  |false=>rfl
  |true=>
   have h1:=h0 k (hp k hpk);have:ks.any (Al k)=true:=List.any_eq_true.2 ⟨k,hkk,by simp⟩
   grind
 simp_all
theorem Qrr{env:List (Nat×AV)}{H H0:List Blk}{d:Option Ak}{ty:A0}{pos:String}{after:Array AT}{gd:Option (Nat×Bool)}{f:AO}{xs:Array A4}{tys:Array A0}{gl args:List AV}{Q0:AV->List Blk->Prop}{kp:List Nat}
 (ks:List Nat) (h:DoesE P f args H0 gl Q0) (hf: ∀args w,(callFunc f args).run P w= .ok (.enter f args) w) (hargs:xs.toList.map (aval env)=AV.renL (rho ks H.length) args)
 (hks:ks.map (fun k=>H[k]?)=(H0.map (Blk.ren (rho ks H.length))).map some) (hnd:ks.Nodup) (hla:AV.ltL H0.length args=true) (hlg:AV.ltL H0.length gl=true) (hlH:H0.all (Blk.lt H0.length)=true) (hgs: ∀g∈gl,g∈args.flatMap AV.parts) (hkp:kapOk kp ks H.length=true):
 EffM P ⟨d,.call ⟨.value (.func f),xs,tys⟩,ty,pos,after,gd⟩ env H kp (fun y K=> ∃x H1,Q0 x H1/\y=x.ren (rho ks H.length)/\K=place (rho ks H.length) H ks H1++(H1.drop ks.length).map (Blk.ren (rho ks H.length))):=by
 intro p hp;obtain⟨hn,hl⟩:=Qj1 hkp hp;have e:=QfF p H;intro B σ S a w hB hS hop K Q kk;refine Qff (H:=maskP p H) (env:=env) (avs:=xs.toList.map (aval env)) ks h (Qec hf) (by grind) ?_ hnd hla hlg hlH (fun g hg=>AB _ (by grind [Qfb])) B σ S a w hB hS hop K Q ?_
 ·grind [List.map_congr_left,Qd7]
 grind [Qis,Qlr,QgB,Qfs]
section
variable{Q:AW->St->Prop}{K:St->Prop}{n m:Nat}{env:List (Nat×AV)}{H:List Blk}{d:Ak}{ty:A0}{pos:String}{after:Array AT}{gd:Option (Nat×Bool)}{f:AO}{xs:Array A4}{tys:Array A0}{gl args:List AV}{H0:List Blk}{Q0:AV->List Blk->Prop}
def guessOk(ops:List AJ)(fl ms:List Nat)(mq:List (Nat×Nat)):Bool:=mq.all (fun t=>(match ops[t.1]? with|some o=>o.dst==some t.2|none=>false)&& !memN fl t.1&&memN ms t.1)&&ascN ms
def kps_nil{H:List Blk}:KPs [] H:=fun q hq=>by cases hq
theorem kps_no{ops:List AJ}{fl:List Nat}{off:Nat}{kp:List (Nat×Blk)}{H:List Blk}(h:pend ops fl off=false):pend ops fl off=true->KPs kp H:=fun e=>by grind
theorem kps_one{H:List Blk}(h:H[k]? =some C):KPs [(k,C)] H:=fun q hq=>by grind
theorem kps_two{H:List Blk}(h:H[k]? =some C)(h2:H[k2]? =some C2):KPs [(k,C),(k2,C2)] H:=fun q hq=>by
 grind
theorem kps_three{k3:Nat}{C3:Blk}{H:List Blk}(h:H[k]? =some C)(h2:H[k2]? =some C2)(h3:H[k3]? =some C3):KPs [(k,C),(k2,C2),(k3,C3)] H:=fun q hq=>by
 grind
theorem QiR(fl ms:List Nat)(Cs kp:List (Nat×Blk))(ts:Tl){id:Nat}(hm:P.follows .mixedOrders=true)(hok:drawOk ops.toArray=true)(hgok:ops.all (gdOk ops.toArray n)=true)
 (hfo:Qgb ops fl (ts.map (·.1)) n=true) (hg0:guessOk ops fl ms (ts.map fun t=>(t.1,t.2.1))=true) (h:Flts P ops ⟨mkFa H.length Cs,kp⟩ (fun env=>PlanF P ops fl ⟨mkFa H.length Cs,kp⟩ ts (Q .normal) ms 0 ⟨n,ungs ts env,H++Cs.map (·.2)⟩) fl (ts.map (·.2)++env)) (hgv: ∀t∈ts,look (ts.map (·.2)++env) t.2.1=t.2.2) (hcs:Cs.all (fun q=>memN fl q.1)=true) (hnd:(Cs.map (·.1)).Nodup) (hkp:KPs kp H):
 AWP P (.region id ops.toArray true) Q ⟨n,env,H⟩:=awp_drawF0 fl ms Cs kp ts hm hok hgok hfo (fun t ht=>by
  unfold guessOk at hg0;simp only[Bool.and_eq_true,A5,Bool.not_eq_true'] at hg0;obtain⟨⟨h1,h2⟩,h3⟩:=hg0.1 (t.1,t.2.1) (Af.2 ⟨t,ht,rfl⟩);refine⟨?_,h2,Qd5.1 h3,hg0.2⟩
  grind) hgv hcs hnd hkp h
theorem awp_drawG(fl ms:List Nat)(Cs kp:List (Nat×Blk))(m0 q0:Nat)(v0:AV){id:Nat}(h:Flts P ops ⟨mkFa H.length Cs,kp⟩ (fun env=>PlanF P ops fl ⟨mkFa H.length Cs,kp⟩ [(m0,q0,v0)] (Q .normal) ms 0 ⟨n,ungs [(m0,q0,v0)] env,H++Cs.map (·.2)⟩) fl ((q0,v0)::env))
 (hm:P.follows .mixedOrders=true:=by exact follows_mixed) (hok:drawOk ops.toArray=true:=by kernel_rfl) (hgok:ops.all (gdOk ops.toArray n)=true:=by kernel_rfl) (hfo:Qgb ops fl [m0] n=true:=by kernel_rfl) (hg0:guessOk ops fl ms [(m0,q0)]=true:=by kernel_rfl) (hcs:Cs.all (fun q=>memN fl q.1)=true:=by rfl) (hnd:(Cs.map (·.1)).Nodup:=by simp) (hkp:KPs kp H:=by first|exact Fk.kps_nil|exact Fk.kps_one rfl|exact Fk.kps_two rfl rfl|exact Fk.kps_three rfl rfl rfl):
 AWP P (.region id ops.toArray true) Q ⟨n,env,H⟩:=QiR fl ms Cs kp [(m0,q0,v0)] hm hok hgok hfo hg0 h (fun t ht=>by grind [Qdl]) hcs hnd hkp
theorem awp_drawG2(fl ms:List Nat)(Cs kp:List (Nat×Blk))(m0 q0:Nat)(v0:AV)(m1 q1:Nat)(v1:AV){id:Nat}(h:Flts P ops ⟨mkFa H.length Cs,kp⟩ (fun env=>PlanF P ops fl ⟨mkFa H.length Cs,kp⟩ [(m0,q0,v0),(m1,q1,v1)] (Q .normal) ms 0 ⟨n,ungs [(m0,q0,v0),(m1,q1,v1)] env,H++Cs.map (·.2)⟩) fl ((q0,v0)::(q1,v1)::env))
 (hm:P.follows .mixedOrders=true:=by exact follows_mixed) (hok:drawOk ops.toArray=true:=by kernel_rfl) (hgok:ops.all (gdOk ops.toArray n)=true:=by kernel_rfl) (hfo:Qgb ops fl [m0,m1] n=true:=by kernel_rfl) (hg0:guessOk ops fl ms [(m0,q0),(m1,q1)]=true:=by kernel_rfl) (hq:Al q0 q1=false:=by rfl) (hcs:Cs.all (fun q=>memN fl q.1)=true:=by rfl) (hnd:(Cs.map (·.1)).Nodup:=by simp) (hkp:KPs kp H:=by first|exact Fk.kps_nil|exact Fk.kps_one rfl|exact Fk.kps_two rfl rfl|exact Fk.kps_three rfl rfl rfl):
 AWP P (.region id ops.toArray true) Q ⟨n,env,H⟩:=QiR fl ms Cs kp [(m0,q0,v0),(m1,q1,v1)] hm hok hgok hfo hg0 h (fun t ht=>by
  rcases Ad.1 ht with rfl|ht
  ·exact Qdl _ _ _
  ·rw[AC.1 ht]
   refine(Qdr (fun e=>?_) _ _).trans (Qdl _ _ _)
   simp_all) hcs hnd hkp
def awp_drawF(fl ms:List Nat)(Cs kp:List (Nat×Blk)){id:Nat}(h:Flts P ops ⟨mkFa H.length Cs,kp⟩ (fun env=>PlanF P ops fl ⟨mkFa H.length Cs,kp⟩ [] (Q .normal) ms 0 ⟨n,ungs [] env,H++Cs.map (·.2)⟩) fl env)
 (hm:P.follows .mixedOrders=true:=by exact follows_mixed) (hok:drawOk ops.toArray=true:=by kernel_rfl) (hgok:ops.all (gdOk ops.toArray n)=true:=by kernel_rfl) (hfo:Qgb ops fl [] n=true:=by kernel_rfl) (hg0:ascN ms=true:=by kernel_rfl) (hcs:Cs.all (fun q=>memN fl q.1)=true:=by rfl) (hnd:(Cs.map (·.1)).Nodup:=by simp) (hkp:KPs kp H:=by first|exact Fk.kps_nil|exact Fk.kps_one rfl|exact Fk.kps_two rfl rfl|exact Fk.kps_three rfl rfl rfl):
 AWP P (.region id ops.toArray true) Q ⟨n,env,H⟩:=QiR fl ms Cs kp [] hm hok hgok hfo hg0 h (fun t ht=>by cases ht) hcs hnd hkp
def aw_callM(ks:List Nat)(h:DoesE P f args H0 gl Q0)(hf: ∀args w,(callFunc f args).run P w= .ok (.enter f args) w)(hkp:kapOk (kap ops fa m) ks H.length=true:=by kernel_rfl)
 (hargs:xs.toList.map (aval env)=AV.renL (rho ks H.length) args:=by rfl) (hks:ks.map (fun k=>H[k]?)=(H0.map (Blk.ren (rho ks H.length))).map some:=by rfl) (hnd:ks.Nodup:=by decide)
 (hla:AV.ltL H0.length args=true:=by rfl) (hlg:AV.ltL H0.length gl=true:=by rfl) (hlH:H0.all (Blk.lt H0.length)=true:=by rfl) (hgs: ∀g∈gl,g∈args.flatMap AV.parts:=by simp[AV.parts])
 (hw:awanted ops.toArray env ⟨some d,.call ⟨.value (.func f),xs,tys⟩,ty,pos,after,gd⟩=some true:=by rfl) (hd:AI d n=true:=by rfl) (hg:gdOk ops.toArray n ⟨some d,.call ⟨.value (.func f),xs,tys⟩,ty,pos,after,gd⟩=true:=by rfl)
 (k: ∀x H1,Q0 x H1->K ⟨n,(d,x.ren (rho ks H.length))::env,place (rho ks H.length) H ks H1++(H1.drop ks.length).map (Blk.ren (rho ks H.length))⟩):
 AStepM P ops.toArray ⟨some d,.call ⟨.value (.func f),xs,tys⟩,ty,pos,after,gd⟩ (kap ops fa m) K ⟨n,env,H⟩:=
 ⟨_,Qrr ks h hf hargs hks hnd hla hlg hlH hgs hkp,hw,hd,hg,by rintro _ _ ⟨x,H1,hq,rfl,rfl⟩;exact k x H1 hq⟩
def Grew(m:Nat)(K:St->Prop)(s:St):Prop:=AL m s.H.length=true/\K s
def aw_grew{m n:Nat}{K:St->Prop}{env:List (Nat×AV)}{H:List Blk}(h:AL m H.length=true:=by rfl)(k:K ⟨n,env,H⟩):Grew m K ⟨n,env,H⟩:=⟨h,k⟩
theorem aw_stepM(h:AStep P ops.toArray o K ⟨n,env,H⟩)(hkp:kap ops fa m=[]:=by kernel_rfl):AStepM P ops.toArray o (kap ops fa m) K ⟨n,env,H⟩:=by grind [Fg.QrV]
variable{KE:List (Nat×AV)->Prop}{i:Nat}{r ms:List Nat}{op:Op}{x x':AV}{off:Nat}{s:St}{QS:St->Prop}
def aw_flt(ho:ops[i]? =some ⟨some d,op,ty,pos,after,gd⟩:=by rfl)(hk:kof fa i=none:=by rfl)(h: ∀H:List Blk,∀R:Option (AV×Option Blk)->Prop,R (some (x,none))->R (evOp P env H op):=by intro H R hR;simp only[go_sem,Nat.reduceEqDiff,Nat.reduceAdd,Nat.reduceLT,Nat.reduceLeDiff,↓reduceIte,reduceCtorEq];exact hR)
 (k:Flts P ops fa KE r ((d,x)::env)):Flts P ops fa KE (i::r) env:=⟨_,x,ho,by rw[hk];exact fun H _=>QiB (h H (fun q=>q=some (x,none)) rfl),k⟩
theorem aw_fltL(ho:ops[i]? =some ⟨some d,op,ty,pos,after,gd⟩:=by rfl)(hk:kof fa i=none:=by rfl)(hl: ∀H,Loc P ⟨some d,op,ty,pos,after,gd⟩ env H x none)(k:Flts P ops fa KE r ((d,x)::env)):Flts P ops fa KE (i::r) env:=⟨_,x,ho,by grind,k⟩
def aw_fltK(κ:Nat)(hl: ∀H:List Blk,H[κ]? =some C->Loc P ⟨some d,op,ty,pos,after,gd⟩ env H x none)(ho:ops[i]? =some ⟨some d,op,ty,pos,after,gd⟩:=by rfl)(hk:kof fa i=none:=by rfl)(hm:(κ,C)∈fa.kp:=by first|exact .head _|exact .tail _ (.head _)|exact .tail _ (.tail _ (.head _)))
 (k:Flts P ops fa KE r ((d,x)::env)):Flts P ops fa KE (i::r) env:=⟨_,x,ho,by rw[hk];exact fun H hH=>hl H (hH _ hm),k⟩
theorem aw_fltA(κ:Nat){T:A0}{F:TyF}(k:Flts P ops fa KE r ((d,.ptr κ 0 0)::env))(ho:ops[i]? =some ⟨some d,.alloc T,ty,pos,after,gd⟩:=by rfl)(hk:kof fa i=some (κ,C):=by rfl)(hT:tyf P T=some F:=by exact Ty.h)(hC:C= .row 0 (F.zero.map fun v=> .d (.v v)):=by rfl):Flts P ops fa KE (i::r) env:=
 ⟨_,.ptr κ 0 0,ho,by
   rw[hk];intro H hH;refine QiB ?_;show((tyf P T).map fun F=>(AV.ptr H.length 0 0,some (Blk.row 0 (F.zero.map fun v=> .d (.v v)))))=_
   grind,k⟩
variable{ts:Tl}{env':List (Nat×AV)}{H':List Blk}
theorem aw_fltN(k:PlanF P ops fl fa ts QS ms off ⟨n,env',H⟩)(he: ∀R:List (Nat×AV)->Prop,R env'->R (ungs ts env):=by intro R hR;simp only[Fk.ungs,List.foldr_cons,List.foldr_nil,Fk.ungE,Nat.reduceBEq,cond_true,cond_false];exact hR):Flts P ops fa (fun env=>PlanF P ops fl fa ts QS ms off ⟨n,ungs ts env,H⟩) [] env:=by
 have h1:=he (fun r=>r=env') rfl;show PlanF P ops fl fa ts QS ms off ⟨n,ungs ts env,H⟩
 grind
def aw_planFN(h:ADraw P ops.toArray QS (segF fl ops.length off (ops.drop off)) s)(hkp:pend ops fl off=true->KPs fa.kp s.H:=by first|exact fun _=>Fk.kps_nil|exact fun _=>Fk.kps_one rfl|exact fun _=>Fk.kps_two rfl rfl|exact fun _=>Fk.kps_three rfl rfl rfl|exact Fk.kps_no (by kernel_rfl)):PlanF P ops fl fa ts QS [] off s:=⟨hkp,h⟩
def aw_planFC(h:ADraw P ops.toArray (AStepM P ops.toArray o (kap ops fa m) (Gs m ts (PlanF P ops fl fa ts QS ms (m+1)))) (segF fl m off (ops.drop off)) s)(h1:AL off m=true:=by rfl)(h2:barOkF ops fl m=true:=by kernel_rfl)(ho:ops[m]? =some o:=by rfl)(hkp:pend ops fl off=true->KPs fa.kp s.H:=by first|exact fun _=>Fk.kps_nil|exact fun _=>Fk.kps_one rfl|exact fun _=>Fk.kps_two rfl rfl|exact fun _=>Fk.kps_three rfl rfl rfl|exact Fk.kps_no (by kernel_rfl)):PlanF P ops fl fa ts QS (m::ms) off s:=
 ⟨hkp,h1,h2,o,ho,h⟩
def aw_gs(hg:Gt m env ts:=by repeat' (first|exact trivial|refine And.intro ?_ ?_|(refine fun h=>absurd h ?_;decide)|(intro _;rfl)))(k:K ⟨n,env,H⟩):Gs m ts K ⟨n,env,H⟩:=⟨hg,k⟩
def aw_nrmM(hX: ∀R:AV->Prop,R x'->R x:=by intro R hR;simp only[AV.ren,AV.renL,rho,List.getElem?_cons_zero,List.getElem?_cons_succ,List.getElem?_nil,List.length_cons,List.length_nil,Nat.reduceAdd,Nat.reduceSub,Nat.zero_add];exact hR)
 (hH: ∀R:List Blk->Prop,R H'->R H:=by intro R hR;simp only[place,Blk.ren,AV.ren,AV.renL,rho,List.getElem?_cons_zero,List.getElem?_cons_succ,List.getElem?_nil,List.map_cons,List.map_nil,List.set_cons_zero,List.set_cons_succ,List.drop_succ_cons,List.drop_zero,List.drop_nil,List.append_nil,List.cons_append,List.nil_append,List.length_cons,List.length_nil,Nat.reduceAdd,Nat.reduceSub,Nat.zero_add];exact hR)
 (hg:Gt m ((d,x')::env) ts:=by repeat' (first|exact trivial|refine And.intro ?_ ?_|(refine fun h=>absurd h ?_;decide)|(intro _;rfl)))
 (k:PlanF P ops fl fa ts QS ms off ⟨n,(d,x')::env,H'⟩):Gs m ts (PlanF P ops fl fa ts QS ms off) ⟨n,(d,x)::env,H⟩:=by
 have h1:=hX (fun r=>r=x') rfl;have h2:=hH (fun r=>r=H') rfl;rw[h1,h2];exact⟨hg,k⟩
end
theorem Qtq{env:List (Nat×AV)}{H:List Blk}{x:AV}{kp:List Nat}(h: ∀H':List Blk,H'[k]? =H[k]? ->Eff P o env H' x (H'.set k C))(hk:kapOk kp [k] H.length=true):EffM P o env H kp (fun y K=>y=x/\K=H.set k C):=by
 intro p hp;obtain⟨hn,hl⟩:=Qj1 hk hp;have hpk:=hn k (AC.2 rfl);intro B σ S a w hB hS hop K Q kk;refine h (maskP p H) (by grind [Qd7]) B σ S a w hB hS hop K Q ?_
 grind [Qir]
section
variable{K:St->Prop}{n m:Nat}{env:List (Nat×AV)}{H H':List Blk}{d:Ak}{ty:A0}{pos:String}{after:Array AT}{gd:Option (Nat×Bool)}{KE:List (Nat×AV)->Prop}{i:Nat}{r:List Nat}{op:Op}{x:AV}
theorem aw_fltB(κ:Nat)(ho:ops[i]? =some ⟨some d,op,ty,pos,after,gd⟩)(hk:kof fa i=some (κ,C))(hl: ∀H:List Blk,H.length=κ->Loc P ⟨some d,op,ty,pos,after,gd⟩ env H x (some C))(k:Flts P ops fa KE r ((d,x)::env)):Flts P ops fa KE (i::r) env:=
 ⟨_,x,ho,by grind,k⟩
theorem aw_fltS(κ:Nat){T e:A0}{F E:TyF}(ho:ops[i]? =some ⟨some d,.buildSlice T 0 #[],ty,pos,after,gd⟩) [hT:Ty P T F](he:F.elem=some e) [hE:Ty P e E](hk:kof fa i=some (κ,.arr 0 sz e []))(hsz:E.size=sz)(hz:E.zero.length=E.size)(k:Flts P ops fa KE r ((d,.osl κ 0 0 0)::env)):Flts P ops fa KE (i::r) env:=
 aw_fltB κ ho hk (fun H hH=>by subst hsz;exact QsP hH hT.h he hE.h hz (by intro R hR;exact hR) (by simp) rfl) k
theorem aw_appM{T e:A0}{F E:TyF}{s x:A4}{g len:Nat}{rows newrows:List (List D)}(hkp:kapOk (kap ops fa m) [k] H.length=true)(hT:tyf P T=some F)(he:F.elem=some e)(hE:tyf P e=some E)(hz:E.zero.length=E.size:=by rfl)(hpos:AI 0 E.size=true:=by rfl)
 (hs:aval env s= .osl k g 0 len:=by rfl) (hk:H[k]? =some (.arr g E.size e rows):=by rfl) (hlen:len=rows.length:=by first|rfl|simp)
 (hx:aval env x= .d (.sl c E.size newrows):=by rfl) (hcell: ∀r∈newrows,∀d∈r,d.cell=true)
 (hb:(rows.length+newrows.length)*E.bytes<=140737488355328)
 (hw:awanted ops.toArray env ⟨some d,.call ⟨.builtin .append, #[s,x], #[T,T]⟩,ty,pos,after,gd⟩=some true:=by rfl) (hd:AI d n=true:=by rfl) (hg:gdOk ops.toArray n ⟨some d,.call ⟨.builtin .append, #[s,x], #[T,T]⟩,ty,pos,after,gd⟩=true:=by rfl)
 (hH: ∀R:List Blk->Prop,R H'->R (H.set k (.arr (g+1) E.size e (rows++newrows))):=by intro R hR;simp only[List.set_cons_zero,List.set_cons_succ,Nat.zero_add,Nat.reduceAdd];exact hR)
 (hby:AI 0 E.bytes=true:=by rfl)
 (kk:K ⟨n,(d,.osl k (g+1) 0 (rows.length+newrows.length))::env,H'⟩):AStepM P ops.toArray ⟨some d,.call ⟨.builtin .append, #[s,x], #[T,T]⟩,ty,pos,after,gd⟩ (kap ops fa m) K ⟨n,env,H⟩:=by
 have hby':0<E.bytes:=by simp_all
 have hmul:rows.length+newrows.length<=(rows.length+newrows.length)*E.bytes:=Nat.le_mul_of_pos_right _ hby';have hq:=hH (fun r=>r=H') rfl;refine⟨_,Qtq (fun H1 e=>QiI (newrows:=newrows) hT he hE hz (by simp_all) hs (e.trans hk) hlen (QpJ hx hcell) hb (by omega)) hkp,hw,hd,hg,?_⟩;rintro _ _ ⟨rfl,rfl⟩;rw[hq];exact kk
end
end Fk
end Aw
end
section
open Go.RowKit
namespace Aw
namespace Fk
variable{P:A6}{ops:List AJ}{fl ms:List Nat}{l:List (Nat×Nat×Blk)}{ts:Tl}{QS:St->Prop}{off m:Nat}{s:St}
def aw_planN0(h:ADraw P ops.toArray QS (segF fl ops.length off (ops.drop off)) s):PlanF P ops fl ⟨l,[]⟩ ts QS [] off s:=⟨fun _=>kps_nil,h⟩
def aw_planC0{o:AJ}(h:ADraw P ops.toArray (AStepM P ops.toArray o (kap ops ⟨l,[]⟩ m) (Gs m ts (PlanF P ops fl ⟨l,[]⟩ ts QS ms (m+1)))) (segF fl m off (ops.drop off)) s)(h1:AL off m=true:=by rfl)(h2:barOkF ops fl m=true:=by kernel_rfl)(ho:ops[m]? =some o:=by rfl):PlanF P ops fl ⟨l,[]⟩ ts QS (m::ms) off s:=
 ⟨fun _=>kps_nil,h1,h2,o,ho,h⟩
end Fk
end Aw
end
section
open Go.RowKit
namespace Aw
variable{ρ:Nat->Nat}{gvs:List AF}{nt:Nat}
def setD:List D->Nat->List D->List D
 |r,_,[]=>r
 |r,o,x::l=>setD (r.set o x) (o+1) l
theorem Qsu: ∀(l:List D) (r:List D) (o i:Nat),o+l.length<=r.length->(setD r o l)[i]? =if o<=i/\i<o+l.length then l[i -o]? else r[i]?
 :=by intro l;induction l<;>grind [setD]
theorem Qsv{l r:List D}(h:l.length=r.length):setD r 0 l=l:=by
 refine AN fun i=>?_
 grind [Qsu]
theorem QkU{P:A6}{B:Bs}{S:Nat->Prop}{k g sz i b:Nat}{T:A0}: ∀(l:List D) (vs:List AF) {σ:Sg} {H:List Blk} {w:AK} {rows:List (List D)} {r:List D} (j0:Nat),Sm B σ S H w->σ k=some b->H[k]? =some (.arr g sz T rows)->rows[i]? =some r->vs.length=l.length->
 (∀(j:Nat) x,l[j]? =some x-> ∃v,vs[j]? =some v/\Rel σ S H w (.d x) v/\v.oneCell'=true)->j0+l.length<=r.length->
 ∃w',(storeCells ⟨b,i*sz,none⟩ vs j0).run P w= .ok () w'/\Sm B σ S (H.set k (.arr g sz T (rows.set i (setD r j0 l)))) w'/\Ev σ S H w σ S (H.set k (.arr g sz T (rows.set i (setD r j0 l)))) w'
 |[],[],σ,H,w,rows,r,j0,hS,_,hk,hr,_,_,_=>by
  have hset2:rows.set i r=rows:=by
   apply AN
   grind
  have hset:H.set k (.arr g sz T rows)=H:=by
   apply AN
   grind
  exact⟨w,rfl,by grind [setD],by grind [setD,Ev.refl]⟩
 |[],v::vs,_,_,_,_,_,_,_,_,_,_,hl,_,_=>by simp at hl
 |x::l,[],_,_,_,_,_,_,_,_,_,_,hl,_,_=>by simp at hl
 |x::l,v::vs,σ,H,w,rows,r,j0,hS,hb,hk,hr,hl,hv,hlen=>by
  obtain⟨v',hv',hx,ho⟩:=hv 0 x rfl;simp at hv';subst hv';have hlt:j0<r.length:=by grind
  have hil:i<rows.length:=(A8.1 hr).1;have hkl:k<H.length:=(A8.1 hk).1;have hxd:RelD S w x v:=by cases hx;omega
  obtain⟨_,hbk⟩:=hS.blk k _ hk;rcases hbk with⟨b',cs,hb',hc,hrel⟩|⟨hb',_⟩;rotate_left
  ·grind
  rw[hb] at hb';obtain rfl:=A3 hb';obtain⟨c,hcc,_⟩:=hrel i j0 r _ hr (A9 hlt);have hcell:w.cell? ⟨b,i*sz+j0,none⟩=some c:=by grind [cell_of_row]
  have hfr:w.frozen? ⟨b,i*sz+j0,none⟩=false:=frozen_of_row w b _ cs T hc;obtain⟨h1,h2⟩:=hS.setArr hb hk hr hlt hxd
  obtain⟨w',h3,h4,h5⟩:=QkU l vs (rows:=rows.set i (r.set j0 x)) (r:=r.set j0 x) (j0+1) h1 hb (AP hkl) (AP hil) (by grind)
   (fun j y hy=>by
     obtain⟨u,hu,hru,hou⟩:=hv (j+1) y (by grind)
     exact⟨u,by grind,hru.mono h2,hou⟩) (by grind)
  refine⟨w',?_,?_,?_⟩
  ·unfold storeCells
   rw[A1];have:(⟨b,i*sz,none⟩:Ai).add j0=⟨b,i*sz+j0,none⟩:=QdQ b (i*sz) j0;rw[this,Qig hcell hfr ho,A7];exact h3
  ·simp only[Ag] at h4
   exact h4
  ·simp only[Ag] at h5
   exact h2.trans h5
theorem QmQ{P:A6}{T T0:A0}{F:TyF}{u v:A4}{k g i sz:Nat}{rows:List (List D)}{r l:List D}{ty:A0}{pos:String}{after:Array AT}{gd:Option (Nat×Bool)}{env:List (Nat×AV)}{H:List Blk}
 (hT:tyf P T=some F) (hu:aval env u= .ept k g i 0) (hk:H[k]? =some (.arr g sz T0 rows)) (hr:rows[i]? =some r) (hv:(aval env v).cells=some (l.map .d)) (hone:l.all D.cell=true) (hl:l.length=sz) (hsz:F.size=sz):
 Eff P ⟨none,.store T u v,ty,pos,after,gd⟩ env H (.d (.v undef)) (H.set k (.arr g sz T0 (rows.set i l))):=by
 intro B σ S a w hB hS hop K Q kk;have h1:=hop u (by simp[AA]);rw[hu] at h1;generalize hx:a.eval u=y at h1;cases h1 with
 |ept _ _ _ _ _ _ g' sz' T' rows' hk' hg hh=>
  rw[hk] at hk';obtain⟨rfl,rfl,rfl,rfl⟩:g=g'/\sz=sz'/\T0=T'/\rows=rows':=by grind
  obtain⟨b,hb,rfl⟩:=hh rfl;obtain⟨hs1,hs2⟩:=AV.cells_rel (hop v (by simp[AA])) hv;have hrs:r.length=sz:=(hS.blk k _ hk).1 r (A2 hr)
  obtain⟨w',h3,h4,h5⟩:=QkU (P:=P) l (a.eval v).cells.toList 0 hS hb hk hr (by grind) (fun j y hy=>by
   obtain⟨c,hc,hr⟩:=hs2 j (.d y) (by grind)
   exact⟨c,by grind,hr,AV.one_rel hr (A5.1 hone y (A2 hy))⟩) (by omega)
  rw[Qsv (by omega)] at h4 h5
  have hrun:(execOp a.eval ⟨none,.store T u v,ty,pos,after,gd⟩).run P w= .ok .skip w':=by
   grind [execOp,Instr.storeAt,Instr.sureAddr,storeVar,A1,Sem.run_pure,A7,QdM]
  unfold Oper.wp;rw[hrun];exact kk undef w' σ S h4 (.d _ _ (.v _)) h5
section
variable{P:A6}{ops:Array AJ}{Q:AW->St->Prop}{l:List AJ}{n:Nat}{env:List (Nat×AV)}{H H':List Blk}{ty:A0}{pos:String}{after:Array AT}{gd:Option (Nat×Bool)}{T T0:A0}{F:TyF}{u v:A4}{k g i sz:Nat}{rows rows':List (List D)}{r x:List D}
theorem Qnc(hT:tyf P T=some F)(hu:aval env u= .ept k g i 0)(hk:H[k]? =some (.arr g sz T0 rows))(hr:rows[i]? =some r)(hn:rows.set i x=rows')(hv:(aval env v).cells=some (x.map .d):=by rfl)(hone:x.all D.cell=true:=by rfl)(hl:x.length=sz:=by rfl)(hsz:F.size=sz:=by rfl)
 (hw:awanted ops env ⟨none,.store T u v,ty,pos,after,gd⟩=some true:=by rfl) (hg:gdOk ops n ⟨none,.store T u v,ty,pos,after,gd⟩=true:=by rfl)
 (hH: ∀R:List Blk->Prop,R H'->R (H.set k (.arr g sz T0 rows')):=by intro R hR;simp only[List.set_cons_zero,List.set_cons_succ,Nat.zero_add];exact hR)
 (kk:ASeq P ops Q l ⟨n,env,H'⟩):ASeq P ops Q (⟨none,.store T u v,ty,pos,after,gd⟩::l) ⟨n,env,H⟩:=
 QiW (QmQ hT hu hk hr hv hone hl hsz) hw hg (by have:=hH (fun r=>r=H') rfl;grind)
end
def Qqi{C:Blk}{g:AV}(h:g∈C.parts):g.ren ρ∈(C.ren ρ).parts:=by
 cases C with
 |row k cells=>exact Qfb h
 |_=>simp[Blk.parts] at h
theorem Qli{H H0:List Blk}{ks:List Nat}{g:AV}(hks:ks.map (fun k=>H[k]?)=(H0.map (Blk.ren ρ)).map some)(h:g∈H0.flatMap Blk.parts):g.ren ρ∈H.flatMap Blk.parts:=by
 obtain⟨C,hC,hg⟩:=AX.1 h;have h1:some (C.ren ρ)∈ks.map (fun k=>H[k]?):=by grind
 obtain⟨k,_,hk⟩:=Af.1 h1;exact AX.2 ⟨_,A2 hk,Qqi hg⟩
section
variable{P:A6}{ops:Array AJ}{Q:AW->St->Prop}{K:St->Prop}{l:List AJ}{n:Nat}{env:List (Nat×AV)}{H H' H1:List Blk}{d:Ak}{ty:A0}{pos:String}{after:Array AT}{gd:Option (Nat×Bool)}{x x':AV}{f:AO}{xs:Array A4}{tys:Array A0}{ds:List D}{gl args:List AV}{H0:List Blk}{Q0:AV->List Blk->Prop}
theorem Qdg(ks:List Nat)(h:DoesE P f args H0 gl Q0)(hf: ∀args w,(callFunc f args).run P w= .ok (.enter f args) w)
 (hargs:xs.toList.map (aval env)=AV.renL (rho ks H.length) args:=by rfl) (hks:ks.map (fun k=>H[k]?)=(H0.map (Blk.ren (rho ks H.length))).map some:=by rfl) (hnd:ks.Nodup:=by decide)
 (hla:AV.ltL H0.length args=true:=by rfl) (hlg:AV.ltL H0.length gl=true:=by rfl) (hlH:H0.all (Blk.lt H0.length)=true:=by rfl) (hgs: ∀g∈gl,g∈args.flatMap AV.parts++H0.flatMap Blk.parts:=by simp[AV.parts,Blk.parts])
 (hw:awanted ops env ⟨some d,.call ⟨.value (.func f),xs,tys⟩,ty,pos,after,gd⟩=some true:=by rfl) (hd:AI d n=true:=by rfl) (hg:gdOk ops n ⟨some d,.call ⟨.value (.func f),xs,tys⟩,ty,pos,after,gd⟩=true:=by rfl)
 (k: ∀x H1,Q0 x H1->ASeq P ops Q l ⟨n,(d,x.ren (rho ks H.length))::env,place (rho ks H.length) H ks H1++(H1.drop ks.length).map (Blk.ren (rho ks H.length))⟩):
 ASeq P ops Q (⟨some d,.call ⟨.value (.func f),xs,tys⟩,ty,pos,after,gd⟩::l) ⟨n,env,H⟩:=
 QlU (Qff ks h (Qec hf) hargs hks hnd hla hlg hlH fun g hg=>(AD.1 (hgs g hg)).elim (fun hm=>AB _ (by grind [Qfb])) (fun hm=>AR _ (Qli hks hm))) hd hg hw (by rintro _ _ ⟨x,H1,hq,rfl,rfl⟩;exact k x H1 hq)
theorem QlR(ks:List Nat)(h:DoesE P f args H0 gl Q0)(hf: ∀args w,(callFunc f args).run P w= .ok (.enter f args) w)
 (hargs:xs.toList.map (aval env)=AV.renL (rho ks H.length) args:=by rfl) (hks:ks.map (fun k=>H[k]?)=(H0.map (Blk.ren (rho ks H.length))).map some:=by rfl) (hnd:ks.Nodup:=by decide)
 (hla:AV.ltL H0.length args=true:=by rfl) (hlg:AV.ltL H0.length gl=true:=by rfl) (hlH:H0.all (Blk.lt H0.length)=true:=by rfl) (hgs: ∀g∈gl,g∈args.flatMap AV.parts++H0.flatMap Blk.parts:=by simp[AV.parts,Blk.parts])
 (hw:awanted ops env ⟨some d,.call ⟨.value (.func f),xs,tys⟩,ty,pos,after,gd⟩=some true:=by rfl) (hd:AI d n=true:=by rfl) (hg:gdOk ops n ⟨some d,.call ⟨.value (.func f),xs,tys⟩,ty,pos,after,gd⟩=true:=by rfl)
 (k: ∀x H1,Q0 x H1->K ⟨n,(d,x.ren (rho ks H.length))::env,place (rho ks H.length) H ks H1++(H1.drop ks.length).map (Blk.ren (rho ks H.length))⟩):
 AStep P ops ⟨some d,.call ⟨.value (.func f),xs,tys⟩,ty,pos,after,gd⟩ K ⟨n,env,H⟩:=
 ⟨_,Qff ks h (Qec hf) hargs hks hnd hla hlg hlH (fun g hg=>(AD.1 (hgs g hg)).elim (fun hm=>AB _ (by grind [Qfb])) (fun hm=>AR _ (Qli hks hm))),hw,hd,hg,by rintro _ _ ⟨x,H1,hq,rfl,rfl⟩;exact k x H1 hq⟩
end
def Qod(m:Nat){P:A6}{Q:AW->St->Prop}{n:Nat}{env:List (Nat×AV)}{H H0:List Blk}{Q0:AV->List Blk->Prop}{gl:List AV}(hq:Q .ret ⟨n,env,H⟩=EndR P H0 [] Q0 gl gvs .ret ⟨n,env,H⟩:=by rfl)
 (hH:(H.take m).all (Blk.lt m)=true:=by rfl) (hgl:AV.ltL m gl=true:=by rfl) (hg:look env gslot= .gh gl gvs:=by rfl)
 (hp:pinL gl 0 H0 (H.take m):=by repeat' (first|exact True.intro|exact⟨rfl,rfl,.inl (by omega)⟩|exact⟨rfl,rfl,.inr ⟨rfl,by first|rfl|(simp;done)|(simp only[List.length_map];first|assumption|omega),_,_,by repeat(first|exact List.Mem.head _|apply List.Mem.tail)⟩⟩|exact .inr ⟨rfl,_,by repeat(first|exact List.Mem.head _|apply List.Mem.tail)⟩|refine⟨?_,?_⟩))
 (hx:Q0 (.tup []) (H.take m)):AWP P .ret Q ⟨n,env,H⟩:=Qg4 (by rw[hq];exact⟨m,[],.nil,rfl,hH,hgl,hx,hp,hg⟩)
def endR0(m:Nat){P:A6}{n:Nat}{env:List (Nat×AV)}{H H0:List Blk}{Q0:AV->List Blk->Prop}{gl:List AV}
 (hH:(H.take m).all (Blk.lt m)=true:=by rfl) (hgl:AV.ltL m gl=true:=by rfl) (hg:look env gslot= .gh gl gvs:=by rfl)
 (hp:pinL gl 0 H0 (H.take m):=by repeat' (first|exact True.intro|exact⟨rfl,rfl,.inl (by omega)⟩|exact⟨rfl,rfl,.inr ⟨rfl,by first|rfl|(simp;done)|(simp only[List.length_map];first|assumption|omega),_,_,by repeat(first|exact List.Mem.head _|apply List.Mem.tail)⟩⟩|exact .inr ⟨rfl,_,by repeat(first|exact List.Mem.head _|apply List.Mem.tail)⟩|refine⟨?_,?_⟩))
 (hx:Q0 (.tup []) (H.take m)):EndR P H0 [] Q0 gl gvs .normal ⟨n,env,H⟩:=⟨m,[],.nil,rfl,hH,hgl,hx,hp,hg⟩
section
variable{P:A6}{T kt et:A0}{z:AF}{dst:Option Ak}{ty:A0}{pos:String}{after:Array AT}{gd:Option (Nat×Bool)}{env:List (Nat×AV)}{H:List Blk}{α:Type} [Ky α]
theorem QuC(hT:P.underlying T=some (.map kt et))(hk:P.underlying kt=some (Ky.kd α))(hz:(P.info? et).bind (·.zero)=some z){u v:A4}{k g:Nat}{m:List (α×D)}{n:α}{d:D}
 (hu:aval env u= .mp k g) (hH:H[k]? =some (.mp g (imap m))) (hv:aval env v= .d (.v (Ky.kv n))) (hg:(mget m n).getD (.v z)=d):Loc P ⟨dst,.lookup T u v false,ty,pos,after,gd⟩ env H (.d d) none:=by
 subst hg;exact QoG hT hk hz hu hH hv
def QuW(hT:P.underlying T=some (.map kt et)){u:A4}{k g:Nat}{l:List (AF×D)}(hu:aval env u= .mp k g)(hH:H[k]? =some (.mp g l)):
 Loc P ⟨dst,.call ⟨.builtin .len, #[u], #[T]⟩,ty,pos,after,gd⟩ env H (.d (.v (.int .i64 l.length))) none:=by
 refine QQ fun σ S H' a w hblk hop hag2=>?_
 have h1:=hop u (by simp[AA,Ac]);rw[hu] at h1;generalize hx:a.eval u=y at h1;cases h1 with
 |mp _ _ _ ho g' l' hk' hg hh=>
  rcases hag2 k _ hH with h3|h3
  ·rw[h3] at hk'
   obtain⟨rfl,rfl⟩:g=g'/\l=l':=by injection (A3 hk') with h1 h2;exact⟨h1,h2⟩
   obtain⟨b,hb,rfl⟩:=hh rfl;rcases hblk k _ h3 with⟨b',es,clock,hb',hheap,hsz,hent⟩|⟨hno,_⟩
   ·rw[hb] at hb'
    obtain rfl:=A3 hb';refine⟨_,?_,.d _ _ (.v _)⟩;simp[execOp,resolve,invoke,builtin,Builtin.len_,hx,goInt,run_underlying hT,MapKept.run_getObj_map hheap,hsz.1]
    try rfl
   ·rw[hb] at hno;cases hno
  ·rw[h3] at hk';cases hk'
def QuR{ops:Array AJ}{Q:AW->St->Prop}{l:List AJ}{H':List Blk}(hT:P.underlying T=some (.map kt et))(hk:P.underlying kt=some (Ky.kd α)){u v x:A4}{k g:Nat}{m:List (α×D)}{n:α}{d:D}
 (hu:aval env u= .mp k g:=by rfl) (hH0:H[k]? =some (.mp g (imap m)):=by rfl) (hv:aval env v= .d (.v (Ky.kv n)):=by rfl) (hx:aval env x= .d d:=by rfl)
 (hw:awanted ops env ⟨none,.mapUpdate T u v x,ty,pos,after,gd⟩=some true:=by rfl) (hg:gdOk ops nt ⟨none,.mapUpdate T u v x,ty,pos,after,gd⟩=true:=by rfl)
 (hH: ∀R:List Blk->Prop,R H'->R (H.set k (.mp g (imap (mset m n d)))):=by intro R hR;simp only[List.set_cons_zero,List.set_cons_succ];exact hR)
 (kk:ASeq P ops Q l ⟨nt,env,H'⟩):ASeq P ops Q (⟨none,.mapUpdate T u v x,ty,pos,after,gd⟩::l) ⟨nt,env,H⟩:=by
 refine QiW (Qky hT hk hu hH0 hv hx) hw hg ?_;have:=hH (fun r=>r=H') rfl;rw[this];exact kk
def Qvp{ops:Array AJ}{K:St->Prop}{H':List Blk}(hT:P.underlying T=some (.map kt et))(hk:P.underlying kt=some (Ky.kd α)){u v x:A4}{k g:Nat}{m:List (α×D)}{n:α}{d:D}
 (hu:aval env u= .mp k g:=by rfl) (hH0:H[k]? =some (.mp g (imap m)):=by rfl) (hv:aval env v= .d (.v (Ky.kv n)):=by rfl) (hx:aval env x= .d d:=by rfl)
 (hw:awanted ops env ⟨none,.mapUpdate T u v x,ty,pos,after,gd⟩=some true:=by rfl) (hg:gdOk ops nt ⟨none,.mapUpdate T u v x,ty,pos,after,gd⟩=true:=by rfl)
 (hH: ∀R:List Blk->Prop,R H'->R (H.set k (.mp g (imap (mset m n d)))):=by intro R hR;simp only[List.set_cons_zero,List.set_cons_succ];exact hR)
 (kk:K ⟨nt,env,H'⟩):AStep P ops ⟨none,.mapUpdate T u v x,ty,pos,after,gd⟩ K ⟨nt,env,H⟩:=
 QrT (Qky hT hk hu hH0 hv hx) hw rfl hg (by have:=hH (fun r=>r=H') rfl;rw[this];exact kk)
end
end Aw
end
section
namespace Aw
variable{α:Type} [Ky α]
def Qvi(m:List (α×D))(k:α)(d:D):(mset m k d).map (·.1)=if k∈m.map (·.1) then m.map (·.1) else m.map (·.1)++[k]:=by
 induction m with
 |nil=>simp[mset]
 |cons x m ih=>
  unfold mset;split
  ·rename_i h;simp[h]
  ·rename_i h
   rw[Ae,ih,Ae]
   by_cases h2:k∈m.map (·.1)
   ·rw[if_pos h2,if_pos (AS _ h2)]
   ·rw[if_neg h2,if_neg (by simp only[Ad,not_or];exact⟨fun e=>h e.symm,h2⟩)];rfl
structure Qux(m:List (α×D))(l:List α):Prop where
 get: ∀k,(mget m k).getD (.v (.int .i64 0))= .v (.int .i64 (l.count k:Nat))
 nd:(m.map (·.1)).Nodup
 mem: ∀k,k∈m.map (·.1)↔k∈l
theorem Qux.nil:Qux ([]:List (α×D)) []:=⟨fun _=>rfl,.nil,fun _=>Iff.rfl⟩
theorem Qux.step{m:List (α×D)}{l:List α}(h:Qux m l)(k:α):Qux (mset m k (.v (.int .i64 ((l.count k:Nat)+1)))) (l++[k]):=by
 refine⟨fun j=>?_,?_,fun j=>?_⟩
 ·by_cases hj:k=j
  ·subst hj;rw[QeP];simp
  ·rw[Qh7 hj,h.get j]
   have:([k]:List α).count j=0:=List.count_eq_zero.2 (by simpa using fun e=>hj e.symm);rw[List.count_append,this,Nat.add_zero]
 ·rw[Qvi]
  split
  ·exact h.nd
  ·rename_i hk
   exact List.nodup_append.2 ⟨h.nd,by simp,fun a ha b hb e=>hk (by rw[AC.1 hb] at e;rwa [e] at ha)⟩
 ·rw[Qvi]
  split
  ·rename_i hk
   rw[h.mem,AD,AC];exact⟨.inl,fun e=>e.elim id fun e=>by rw[e];exact(h.mem k).1 hk⟩
  ·rw[AD,AD,h.mem]
theorem Qux.len{m:List (α×D)}{l:List α}(h:Qux m l){T:List α}(ht:T.Nodup)(hm: ∀k,k∈T↔k∈l):m.length=T.length:=by
 have e:(m.map (·.1)).length=T.length:=((List.perm_ext_iff_of_nodup h.nd ht).2 fun k=>by rw[h.mem,hm]).length_eq
 rwa [List.length_map] at e
def Qu7(m:List (α×D))(l:List (α×D)):Prop:= ∀p∈l,mget m p.1=some p.2
def Qu7.step{m l:List (α×D)}(h:Qu7 m l){k:α}{d:D}(hn: ∀p∈l,p.1≠k):Qu7 (mset m k d) (l++[(k,d)]):=fun p hp=>by
 rcases AD.1 hp with hp|hp
 ·rw[Qh7 (fun e=>hn p hp e.symm)];exact h p hp
 ·rw[AC.1 hp];exact QeP m k d
end Aw
end
section
open Go.RowKit Go.ChangeShapes Go.WideShapes
namespace Pm
theorem QmV{α:Type}{p:Nat->α->Prop}(n:Nat)(h: ∀i,i<n-> ∃a,p i a): ∃l:List α,l.length=n/\ ∀i x,l[i]? =some x->p i x:=by
 induction n with
 |zero=>simp
 |succ n ih=>
  obtain⟨l,hl,hp⟩:=ih fun i hi=>h i (by omega)
  obtain⟨a,ha⟩:=h n (by omega);refine⟨l++[a],by simp[hl],fun i x hx=>?_⟩
  grind
theorem Qla{H:Type}{enc:A0×AF->H}{a:Assume}{C:Checked}{os:Os}{f:AO}{fn:Func}{s:ChangeSpec}{conds:List PathCond}{apart fresh handsOn again:Bool}{X:AK->Array AF->Prop}
 (hX: ∀(w w':AK) (args:Array AF),w.heap=w'.heap->X w args->X w' args)
 (own:ownKnob C.prog.godebug=none) (started:os.Started) (noInit:C.prog.inits.idxOf? f=none) (hfn:C.prog.funcs[f]? =some fn)
 (witness: ∃(w:AK) (tape:Tape) (i:Input),w.os=os/\(w.forCall tape i).Shaped C.prog/\i.vars=[]/\Input.okWide C.prog (w.forCall tape i) .any w.heap.size f i/\
   ((s.pre enc C.prog fn conds apart (w.forCall tape i).memory i.args/\X (w.forCall tape i).memory i.args)/\sizedMet enc C.prog fn (AU s) apart (w.forCall tape i).memory i.args)/\a.holds C.prog (lone (Frame.enter C.prog f i.args .normal) [] (w.forCall tape i)))
 (contract: ∀(W:AK) (base:Nat) (args:Array AF) (ds gs:List (DataW H)) (before:List MemPlace),
   (∀(j:Nat) t v,fn.params[j]? =some t->args[j]? =some v->Value.okWide C.prog W .any base t v)->
   DataW.Whole enc C.prog fn.params.toList s.vars apart W args.toList ds gs before->
   (DataW.weightsEach C.prog (fn.params.toList++s.plain.varTypes C.prog) (ds++gs)).all (· <=reachBytes)=true->X W args->W.ShapedOpen C.prog->
   Calls C.prog f args W fun e W'=> ∃v,e= .returned v/\s.post enc C.prog fn apart fresh handsOn again W args v W'):
 ReturnsInHanded a C os f .any (fun w args=>(s.pre enc C.prog fn conds apart w args/\X w args)/\sizedMet enc C.prog fn (AU s) apart w args) (s.post enc C.prog fn apart fresh handsOn again):=by
 refine returnsInHanded_of_calls own started noInit witness ?_;intro w tape i _ hsh _ hok hpre _;obtain⟨_,_,_,fn',hfn',_,_,_,_,hval⟩:=hok;have e:fn'=fn:=A3 (hfn'.symm.trans hfn);subst e;obtain⟨⟨⟨ds,gs,before,hw,hc⟩,hx⟩,hz⟩:=hpre;have hw':=Aj (w':=w.forCall tape i) (by rfl) hw;refine(contract (w.forCall tape i) w.heap.size i.args ds gs before hval hw' (hz.weights hw) (hX _ _ _ (by rfl) hx) hsh).mono fun e W' ⟨v,he,hp⟩=>?_
 subst he;exact Ah hp
theorem Qgh{P:A6}{w:AK}{n nm:String}{d:DataW Unit}{g:Nat}{ti:A0}{ms:Array (String×A0)}(h:Lib.VarReads P w n (.iface nm d))
 (hg:P.globalNamed n=some g) (ht:(P.globals[g]?).map (·.type)=some ti) (hi:P.underlying ti=some (.interface ms)): ∃te pe,w.cell? ⟨g,0,none⟩=some (.iface te pe):=by
 obtain⟨g',t',cs,fuel,p,h1,h2,h3,h4⟩:=h;obtain rfl:=A3 (hg.symm.trans h1);obtain rfl:=A3 (ht.symm.trans h2);obtain⟨_,u,v,e,_,_⟩:=iface_of_trod hi h4;refine⟨u,v,?_⟩;have:=World.var?_cell hg h3 0;have e2:cs[0]? =some (.iface u v):=by rw[<-Array.getElem?_toList,e];rfl
 grind

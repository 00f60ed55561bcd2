/- Of ftw_card; no condition. -/
import Derived.Test.YthbonbflkdonkaaGreatDoorP09
import Derived.Test.YthbonbflkdonkaaGreatDoorP10
import Derived.Laws.BytesArg
import Derived.Lib.SlBytesConst
set_option linter.all false
set_option maxRecDepth 100000
set_option maxHeartbeats 8000000
open BitVec renaming ofInt->A8
open Go renaming TypeId->AB,Operand->AM,Program->AN
open Go.IntKind renaming i64->AP
open Go.Op renaming operands->AQ,intBits->AS
open Go.Proofs.Tryz renaming underlying5->A1,prog->A5,underlying3->A6,underlying22->A9,underlying9->AK,call22->AR
open Go.Sem renaming run_bind->AJ
open Go.World renaming freeze->AF
open Int renaming emod_lt_of_pos->A3,emod_nonneg->A7,toNat_natCast->AE,toNat_of_nonneg->AH
open List renaming length_append->A0,length_cons->A2,length_nil->A4,length_map->AA,getD_eq_getElem?_getD->AC,getElem?_eq_some_iff->AD,append_nil->AL
open Nat renaming mul_assoc->AI,zero_mul->AO
open Option.some renaming inj->AG
namespace Go.Proofs.YthbonbflkdonkaaGreatDoor
noncomputable section
open Go.RowKit
namespace Aw
variable{a b c:Int}{x y u:AM}{T T' T0:AB}{k f:Nat}{α:Type}{gvs:List Value}{q r:List UInt8×Nat}{o:List UInt8}
def Qck(a b:Int):Int:=((a.toNat^^^b.toNat:Nat):Int)
def xorI_nn(a b:Int):0<=Qck a b:=by unfold Qck;omega
abbrev dU(b:UInt8):D:= .v (.int .u8 b.toNat)
abbrev rBy(l:List UInt8):List (List D):=l.map fun b=>[dU b]
abbrev dBy(l:List UInt8):D:= .sl true 1 (rBy l)
section
variable{P:AN}{dst:Option Tmp}{ty:AB}{pos:String}{after:Array Edge}{gd:Option (Nat×Bool)}{env:List (Nat×AV)}{H:List Blk}
theorem loc_xor(hx:aval env x= .d (.v (.int .i64 a)))(hy:aval env y= .d (.v (.int .i64 b)))(ha:0<=a/\a<4611686018427387904)(hb:0<=b/\b<4611686018427387904):
 Loc P ⟨dst,.binOp .xor T x y T',ty,pos,after,gd⟩ env H (.d (.v (.int .i64 (Qck a b)))) none:=
 loc_bin' (X:= .int .i64 a) (Y:= .int .i64 b) (by rw[hx];rfl) (by rw[hy];rfl) fun w=>by
  rw[AJ,Qek,Result.andThen_ok];have e1:(A8 64 a).toNat=a.toNat:=by grind
  have e2:(A8 64 b).toNat=b.toNat:=by grind
  have h3:a.toNat^^^b.toNat<2^62:=Nat.xor_lt_two_pow (by omega) (by omega);have h4:(A8 64 a^^^A8 64 b).toNat=a.toNat^^^b.toNat:=by grind
  have h5:=Pm.Qgz (Qck a b) (by unfold Qck;omega) (by unfold Qck;omega);unfold Qck at h5⊢;show(AS .xor .i64 a b).run P w=_;unfold AS;show Result.ok (Value.int .i64 (AP.wrap ((A8 64 a^^^A8 64 b).toNat:Nat))) w=_
  grind
theorem QhM{e:AB}{F E:TyF}{v:AM}{κ:IntKind}{i:Int}{l:List UInt8}(hT:tyf P T=some F)(he:F.elem=some e)(hE:tyf P e=some E)(hn:E.size=1)(hu:aval env u= .d (dBy l))(hv:aval env v= .d (.v (.int κ i)))(h0:0<=i/\i<l.length):
 Loc P ⟨dst,.indexAddr T u v,ty,pos,after,gd⟩ env H (.d (.pd [dU (l.getD i.toNat 0)])) none:=by grind [Qdd]
theorem Qia{Ts Td e:AB}{g n:Nat}{l:List UInt8}(h1:P.underlying Ts=some (.slice e))(h2:P.underlying e=some (.int .u8))(h3:P.underlying Td=some .string)
 (hu:aval env u= .osl k g 0 n) (hk:H[k]? =some (.arr g 1 T0 (rBy l))) (hn:l.length=n):
 Loc P ⟨dst,.convert Ts Td u,ty,pos,after,gd⟩ env H (.d (dS l)) none:=
 QP fun σ S H' a w hB hop hag=>by
  have h:=hop u (by simp[AQ]);rw[hu] at h;generalize hv:a.eval u=v at h;cases h with
  |osl _ _ _ _ _ _ g' sz' T' rows' hk' hg hh=>
   have hke:H'[k]? =some (.arr g 1 T0 (rBy l)):=by
    rcases hag k _ hk with h|h
    ·exact h
    grind
   rw[hk'] at hke;obtain⟨rfl,rfl,rfl,rfl⟩:g'=g/\sz'=1/\T'=T0/\rows'=rBy l:=by grind
   obtain⟨_,hbk⟩:=hB k _ hk';refine⟨.string ⟨l.toArray⟩,?_,.d _ _ (.v _)⟩;have hs:strOfNums (l.map fun b=>(b.toNat:Int))=⟨l.toArray⟩:=by unfold strOfNums;rw[List.map_map];simp[Function.comp_def]
   rcases(hh rfl).2 with⟨b,cap,cs,T,hb,_,_,rfl,hc,_⟩|⟨hb,hl,rfl⟩
   ·rcases hbk with⟨b',cs',hb',hc',hrel⟩|⟨hb',_⟩
    rotate_left
    ·grind
    rw[hb] at hb';obtain rfl:=AG hb'
    have hr:=run_convert_bytes_arg (P:=P) w Ts e h1 h2 b 0 n cap (l.map fun b=>(b.toNat:Int)) (by simp[hn]) (fun i hi=>by
     obtain⟨u,hu,hr⟩:=hrel i 0 [dU l[i]] (dU l[i]) (by grind) rfl;cases hr
     grind [cell_of_row]) Td h3
    simp only[execOp,hv,hr,hs,AJ,AO];rfl
   ·have hl0:l=[]:=List.eq_nil_iff_length_eq_zero.2 (by omega)
    subst hl0;have hr:=run_convert_bytes_nil (P:=P) w Ts e h1 h2 n 0 Td h3;subst hl;simp only[execOp,hv,hr,AJ];rfl
theorem Qop{e:AB}{g n:Nat}{rows:List (List D)}(h1:P.underlying T=some (.slice e))(h2:P.underlying e=some (.int .u8))(hu:aval env u= .osl k g 0 n)(hk:H[k]? =some (.arr g 1 T0 rows))(hn:rows.length=n)(hn0:0<n):
 Eff P ⟨dst,.convert T T u,ty,pos,after,gd⟩ env H (.d (.sl true 1 rows)) (H.set k (.arr (g+1) 1 T0 [])):=by
 intro B σ S a w hB hS hop K Q kk;have h:=hop u (by simp[AQ]);rw[hu] at h;generalize hv:a.eval u=v at h;have hkl:k<H.length:=(AD.1 hk).1;cases h with
 |osl _ _ _ _ _ _ g' sz' T' rows' hk' hg hh=>
  rw[hk] at hk';obtain⟨rfl,rfl,rfl,rfl⟩:g=g'/\1=sz'/\T0=T'/\rows=rows':=by grind
  obtain⟨hlen,hbk⟩:=hS.blk k _ hk;rcases(hh rfl).2 with⟨b,cap,cs,T',hb,hcap,_,rfl,hc,_⟩|⟨hb,hl,_⟩;rotate_left
  ·omega
  rcases hbk with⟨b',cs',hb',hc',hrel⟩|⟨hb',_⟩;rotate_left
  ·grind
  rw[hb] at hb';obtain rfl:=AG hb';rw[AO] at hv
  have hw1: ∀j,j≠b->(w.freeze ⟨b,cs'.size,none⟩ 1).heap[j]? =w.heap[j]? :=fun j hj=>by
   unfold AF;grind
  have hw2:(w.freeze ⟨b,cs'.size,none⟩ 1).heap[b]? =some (.cells cs' T0 (cs'.size,cs'.size+1)):=by
   unfold AF;grind
  have hsz:(w.freeze ⟨b,cs'.size,none⟩ 1).heap.size=w.heap.size:=by
   unfold AF;grind
  have hrest:(w.freeze ⟨b,cs'.size,none⟩ 1).os=w.os/\(w.freeze ⟨b,cs'.size,none⟩ 1).tape=w.tape/\(w.freeze ⟨b,cs'.size,none⟩ 1).output=w.output:=by
   unfold AF;grind
  have hsh:w.shape? b=some (T0,cs'.size):=by grind [World.shape?]
  have hrun:(execOp a.eval ⟨dst,.convert T T u,ty,pos,after,gd⟩).run P w= .ok (.value (.slice (some ⟨b,0,none⟩) n cap)) (w.freeze ⟨b,cs'.size,none⟩ 1):=by
   simp[execOp,hv,convert,run_underlying h1,run_underlying h2,markStringish,hsh]
  generalize w.freeze ⟨b,cs'.size,none⟩ 1=w' at*;obtain⟨q1,q2,q3⟩:=hrest;obtain⟨p1,p2,p3⟩:=hS.σUp k b hkl hb;have hS': ∀c,S c->c≠b:=fun c hc e=>p2 (e▸hc)
  have hget: ∀j,j≠k->(H.set k (.arr (g+1) 1 T0 []))[j]? =H[j]? :=fun j hj=>List.getElem?_set_ne (fun e=>hj e.symm)
  have hgk:(H.set k (.arr (g+1) 1 T0 []))[k]? =some (.arr (g+1) 1 T0 []):=List.getElem?_set_self hkl;have hinj: ∀j,j≠k->j<H.length->σ j≠some b:=fun j hj hl e=>hj (hS.inj j k b hl hkl e hb)
  have hlt: ∀{j:Nat} {C:Blk},H[j]? =some C->j<H.length:=fun h=>(AD.1 h).1
  have ev:Ev σ S H w (upS σ k none) (fun c=>S c∨c=b) (H.set k (.arr (g+1) 1 T0 [])) w':=by
   refine⟨fun c h=> .inl h,fun c h=>hw1 c (hS' c h),fun j g1 cells hj=>?_,fun j g1 sz T1 r1 hj=>?_,fun j g1 l hj=>?_⟩
   ·grind [Qdu]
   ·grind [Qdu]
   grind [Qdu]
  have hσ: ∀j c,j<(H.set k (.arr (g+1) 1 T0 [])).length->upS σ k none j=some c->j≠k/\j<H.length/\σ j=some c:=fun j c hj hc=>by
   grind [Qdk,Qdu]
  have sm:Sm B (upS σ k none) (fun c=>S c∨c=b) (H.set k (.arr (g+1) 1 T0 [])) w':=by
   refine⟨q1.trans hS.os,q2.trans hS.tape,q3.trans hS.output,by rw[hsz];exact hS.size,fun c hc ho=>?_,fun c h=> .inl (hS.sLo c h),fun c h=>?_,fun j c hj hc=>?_,fun j j' c hj hj' hc hc'=>?_,fun j C hj=>?_⟩
   ·rw[hw1 c fun e=>by grind];exact hS.keep c hc ho
   ·rw[hsz]
    rcases h with h|h
    ·exact hS.sUp c h
    grind
   ·obtain⟨hjk,hl,hc⟩:=hσ j c hj hc
    obtain⟨r1,r2,r3⟩:=hS.σUp j c hl hc
    grind
   ·obtain⟨_,hl,hc⟩:=hσ j c hj hc
    obtain⟨_,hl',hc'⟩:=hσ j' c hj' hc';exact hS.inj j j' c hl hl' hc hc'
   ·by_cases hjk:j=k
    ·subst hjk
     rw[hgk] at hj;obtain rfl:=AG hj;exact⟨fun r hr=>(by cases hr),.inr ⟨Qdk _ _ _,rfl⟩⟩
    ·rw[hget j hjk] at hj
     exact(hS.blk j C hj).mono ev (Qdu hjk) fun c hc=>hw1 c fun e=>hinj j hjk (hlt hj) (e▸hc)
  unfold Oper.wp;rw[hrun];refine kk _ w' _ _ sm (.d _ _ ?_) ev;subst hn;refine .sl true 1 rows b 0 cap (fun i j=>(cs'[i*1+j]?).getD undef) (.inr rfl) hlen (fun _=>hcap) (fun i j r d hi hj=>?_) fun i j r d hi hj=>?_
  ·grind [cell_of_row]
  ·obtain⟨u,hu,hr⟩:=hrel i j r d hi hj
   rw[hu];exact hr.mono (fun c h=> .inl h) fun c h=>hw1 c (hS' c h)
end
abbrev rdR(rows:List (List D))(p:Nat):Blk:= .row 0 [.d (.sl true 1 rows),.d (dI p)]
def RdOk(rows:List (List D)):Prop:= ∀r∈rows,∃c:Nat,c<256/\r=[.v (.int .u8 c)]
theorem Qq9{rows:List (List D)}(h:RdOk rows)(i:Nat): ∃c:Nat,c<256/\(i<rows.length->rows[i]? =some [.v (.int .u8 c)]):=by
 by_cases hi:i<rows.length
 ·obtain⟨c,h1,h2⟩:=h _ (List.getElem_mem hi)
  grind
 grind
def Qtk{P:AN}{dst:Option Tmp}{ty:AB}{pos:String}{after:Array Edge}{gd:Option (Nat×Bool)}{env:List (Nat×AV)}{H:List Blk}(hx:aval env x= .d (.v (.int .i64 a)))(hy:aval env y= .d (.v (.int .i64 b)))(hc:a -b=c)(h: -9223372036854775808<=a -b/\a -b<=9223372036854775807):
 Loc P ⟨dst,.binOp .sub T x y T',ty,pos,after,gd⟩ env H (.d (.v (.int .i64 c))) none:=hc▸Qhx hx hy h
def QnV{P:AN}{dst:Option Tmp}{ty:AB}{pos:String}{after:Array Edge}{gd:Option (Nat×Bool)}{env:List (Nat×AV)}{H:List Blk}(hx:aval env x= .d (.v (.int .i64 a)))(hy:aval env y= .d (.v (.int .i64 b)))(hc:a%b=c)(ha:0<=a)(hb:0<b):
 Loc P ⟨dst,.binOp .rem T x y T',ty,pos,after,gd⟩ env H (.d (.v (.int .i64 c))) none:=hc▸Qg5 hx hy ha hb
def QnW{P:AN}{dst:Option Tmp}{ty:AB}{pos:String}{after:Array Edge}{gd:Option (Nat×Bool)}{env:List (Nat×AV)}{H:List Blk}(hx:aval env x= .d (.v (.int .i64 a)))(hy:aval env y= .d (.v (.int .i64 b)))(hc:a/b=c)(ha:0<=a/\a<=9223372036854775807)(hb:0<b):
 Loc P ⟨dst,.binOp .quo T x y T',ty,pos,after,gd⟩ env H (.d (.v (.int .i64 c))) none:=hc▸Qg6 hx hy ha hb
def QcV(rows:List (List D))(i:Nat):Int:=match rows[i]? with
 |some [.v (.int _ c)]=>c
 |_=>0
def QcQ(rows:List (List D))(p:Int):Int:=QcV rows (p%rows.length).toNat*131+QcV rows ((p*7+3)%rows.length).toNat*1117+p*29+p/rows.length*53
def QaN(rows:List (List D))(p:Nat)(n:Int):Int:=
 if n<1∨rows.length=0 then 0 else if p<rows.length then QcV rows p%n else Qck (QcQ rows p) (QcQ rows p/64)%n
theorem Qsm{rows:List (List D)}{i c:Nat}(h:rows[i]? =some [.v (.int .u8 c)]):QcV rows i=c:=by grind [QcV]
def pkv_b{rows:List (List D)}(h:RdOk rows)(p:Nat)(n:Int):0<=QaN rows p n/\(QaN rows p n<n∨QaN rows p n=0):=by
 unfold QaN;split
 ·omega
 ·have hn:0<n:=by omega
  split
  ·exact⟨A7 _ (by omega),.inl (A3 _ hn)⟩
  ·exact⟨A7 _ (by omega),.inl (A3 _ hn)⟩
theorem Qqb{c:Nat}(h:c<256):AP.wrap (c:Int)=c:=by grind [Pm.Qgz]
attribute [local irreducible] ASeq ADraw AWP Loc AStep Fg.PlanF Fg.Flts EndR
def ePick(rows:List (List D))(hr:RdOk rows)(p:Nat)(hp:p<=1000000)(n:Int)(hn:n<=1000000):
 DoesE A5 22 [.ptr 0 0 0,.d (dI n)] [rdR rows p] [.ptr 0 0 0] (fun x H=>x= .d (dI (QaN rows p n))/\H=[rdR rows (p+1)]):=by
 have hd:=Pm.hid (QaN.eq_def rows p n);have hmx:QcQ rows p=QcV rows ((p:Int)%rows.length).toNat*131+QcV rows (((p:Int)*7+3)%rows.length).toNat*1117+(p:Int)*29+(p:Int)/rows.length*53:=rfl;generalize QaN rows p n=res at*;generalize QcQ rows p=mx at*;obtain⟨c0,h0,r0⟩:=Qq9 hr (p:Int).toNat;obtain⟨c1,h1,r1⟩:=Qq9 hr ((p:Int)%rows.length).toNat;obtain⟨c2,h2,r2⟩:=Qq9 hr (((p:Int)*7+3)%rows.length).toNat;have w0:=Qqb h0;have w1:=Qqb h1;have w2:=Qqb h2;have m1:0<rows.length->0<=(p:Int)%rows.length/\(p:Int)%rows.length<rows.length:=fun h=>⟨A7 _ (by omega),A3 _ (by omega)⟩
 have m2:0<rows.length->0<=((p:Int)*7+3)%rows.length/\((p:Int)*7+3)%rows.length<rows.length:=fun h=>⟨A7 _ (by omega),A3 _ (by omega)⟩
 have m3:0<rows.length->0<=(p:Int)/rows.length/\(p:Int)/rows.length<=p:=fun h=>⟨Int.ediv_nonneg (by omega) (by omega),Int.ediv_le_self _ (by omega)⟩
 by_cases hl:n<1∨rows.length=0
 ·clear r0 r1 r2 m1 m2 m3
  refine kH fun gvs=>?_
  repeat' first|refine kA ?_|refine kV ?_ ?_<;>intro q|fail
  all_goals first|refine Q1 1 (hx:=?_);rw[hd.out,if_pos hl];exact⟨rfl,rfl⟩|exfalso;simp only[beq_eq_false_iff_ne,decide_eq_false_iff_not,ne_eq] at*;omega
 replace m1:=m1 (by omega)
 replace m2:=m2 (by omega)
 replace m3:=m3 (by omega)
 generalize hk1:(p:Int)%rows.length=k1 at*;generalize hk2:((p:Int)*7+3)%rows.length=k2 at*;generalize hk3:(p:Int)/rows.length=k3 at*
 replace r1:=r1 (by omega)
 replace r2:=r2 (by omega)
 rw[Qsm r1,Qsm r2] at hmx;have hA:Hid (p<rows.length->res=c0%n):=Pm.hid fun h=>by rw[hd.out,if_neg hl,if_pos h,Qsm (i:=p) (r0 h)]
 have hB:Hid (¬p<rows.length->res=Qck ((c1:Int)*131+(c2:Int)*1117+(p:Int)*29+k3*53) (((c1:Int)*131+(c2:Int)*1117+(p:Int)*29+k3*53)/64)%n):=Pm.hid fun h=>by rw[hd.out,if_neg hl,if_neg h,hmx]
 clear hd hmx;have hn1:1<=n:=by omega
 have hl1:0<rows.length:=by omega
 clear hl;refine kH fun gvs=>?_
 repeat' first|refine kS ?_|refine qS (Qtk (c:=(p:Int)) rfl rfl (by omega) (by omega)) ?_|refine qS (Qdd Ty.h rfl Ty.h rfl rfl rfl (by omega) (r0 (by simp only[decide_eq_true_eq] at*;omega))) ?_|refine qD (iy r1) ?_|refine qD (iy r2) ?_|refine qS (QdD A1 A6 rfl rfl w0) ?_|refine qD (QdD A1 A6 rfl rfl w1) ?_|refine qD (QdD A1 A6 rfl rfl w2) ?_|refine qD (QnV rfl rfl hk1 (by omega) (by omega)) ?_|refine qD (QnV rfl rfl hk2 (by omega) (by omega)) ?_|refine qD (QnW rfl rfl hk3 (by omega) (by omega)) ?_|refine qD (Qd3 rfl rfl (by omega)) ?_|refine qS (Qg6 rfl rfl (by omega) (by omega)) ?_|refine qS (loc_xor rfl rfl (by omega) (by omega)) ?_|refine qS (Qg5 rfl rfl (xorI_nn _ _) (by omega)) ?_|refine qS (Qg5 rfl rfl (by omega) (by omega)) ?_|refine kU ?_|refine kV ?_ ?_<;>intro q|fail
 all_goals first|exfalso;simp only[beq_iff_eq,decide_eq_true_eq] at*;omega|refine Q1 1 (hx:=?_);rw[hA.out (by simp only[decide_eq_true_eq] at*;omega)];exact⟨rfl,rfl⟩|refine Q1 1 (hx:=?_);rw[hB.out (by simp only[decide_eq_false_iff_not] at*;omega)];exact⟨rfl,rfl⟩
section
variable{ops:Array Oper}{Q:Exit->St->Prop}{l:List Oper}{n:Nat}{env:List (Nat×AV)}{H H':List Blk}{d:Tmp}{ty:AB}{pos:String}{after:Array Edge}{gd:Option (Nat×Bool)}{xs:Array AM}{tys:Array AB}{rows:List (List D)}{p:Nat}{m:Int}
def aw_pk(k:Nat)(hr:RdOk rows)(hargs:xs.toList.map (aval env)=[.ptr k 0 0,.d (dI m)]:=by rfl)(hH:H[k]? =some (rdR rows p):=by rfl)(hp:p<=1000000:=by omega)(hm:m<=1000000:=by omega)
 (hw:awanted ops env ⟨some d,.call ⟨.value (.func 22),xs,tys⟩,ty,pos,after,gd⟩=some true:=by rfl) (hd:Nat.blt d n=true:=by rfl) (hg:gdOk ops n ⟨some d,.call ⟨.value (.func 22),xs,tys⟩,ty,pos,after,gd⟩=true:=by rfl)
 (hH': ∀R:List Blk->Prop,R H'->R (H.set k (rdR rows (p+1))):=by intro R hR;simp only[List.set_cons_zero,List.set_cons_succ];exact hR)
 (kk: ∀v:Nat,((v:Int)<m∨v=0)->ASeq A5 ops Q l ⟨n,(d,.d (dI v))::env,H'⟩):ASeq A5 ops Q (⟨some d,.call ⟨.value (.func 22),xs,tys⟩,ty,pos,after,gd⟩::l) ⟨n,env,H⟩:=by
 have e:=hH' (fun r=>r=H') rfl;obtain⟨h1,h2⟩:=pkv_b hr p m;refine QC [k] (ePick rows hr p hp m hm) AR (hargs:=hargs) (hks:=by simp[hH,Blk.ren,AV.renL,AV.ren]) (hnd:=by simp) (hw:=hw) (hd:=hd) (hg:=hg) (k:=?_);rintro _ _ ⟨rfl,rfl⟩;have:=kk (QaN rows p m).toNat (by omega);rw[AH h1] at this;rw[<-e] at this;show ASeq _ _ _ _ ⟨_,_,H.set k (rdR rows (p+1))++[]⟩;rw[AL];exact this
end
def Qoe{p:α->Prop}{l:List α}{d:α}(h: ∀x∈l,p x)(hd:p d)(i:Nat):p (l.getD i d):=by
 rw[AC];cases h2:l[i]? with
 |none=>exact hd
 |some x=>exact h x (List.mem_of_getElem? h2)
def Qei{f:α->List D}(l:List α)(d:α){v n:Nat}(hl:l.length=n)(h:v<n):(l.map f)[(v:Int).toNat]? =some (f (l.getD v d)):=by
 rw[AE,List.getElem?_map,AC,List.getElem?_eq_getElem (by omega)];rfl
def Qbx(x:Int):UInt8:=UInt8.ofNat (x%256).toNat
def Qus(x:Int):IntKind.u8.wrap x=((Qbx x).toNat:Int):=by
 have h1:=A7 x (show(256:Int)≠0 by decide);have h2:=A3 x (show(0:Int)<256 by decide);show x%256=_;unfold Qbx;rw[UInt8.toNat_ofNat'];omega
def eOpen(rows:List (List D))(hr:RdOk rows):DoesE A5 10 [.d (.sl true 1 rows)] [] [] (fun x H=> ∃r,RdOk r/\x= .ptr 0 0 0/\H=[rdR r 0]):=by
 refine kH fun gvs=>?_
 repeat' first|refine kS ?_|refine qS (Qgk rfl rfl rfl (by omega) (by simp only[decide_eq_true_eq] at*;omega)) ?_|refine kU ?_|refine kV ?_ ?_<;>intro q|fail
 all_goals first|refine Q1 1 (hx:=?_);exact⟨_,hr,rfl,rfl⟩|refine Q1 1 (hx:=?_);exact⟨_,fun r h=>hr r (List.mem_of_mem_take h),rfl,rfl⟩
def ePath(rows:List (List D))(hr:RdOk rows)(p:Nat)(hp:p<=900000):
 DoesE A5 101 [.ptr 0 0 0] [rdR rows p] [.ptr 0 0 0] (fun x H=> ∃s:List UInt8,s.length<=12/\x= .d (dS s)/\H=[rdR rows (p+2)]):=by
 refine kH fun gvs=>?_
 repeat' first|refine kS ?_|(refine aw_pk 0 hr (kk:=?_);intro v hv)|refine qS (QdO Ty.h rfl Ty.h) ?_|refine qS (Qdd Ty.h rfl Ty.h rfl rfl rfl (by omega) (Qei (f:=fun s=>[dS s]) [[],[97],[47,47],[47,97,47],[47,65],[47,97,47,98,47,99,47,97,47,98],[47,97,98,99,100,101],[47,97,47,47,98]] [] (n:=8) rfl (by omega))) ?_|refine qS (Qdd Ty.h rfl Ty.h rfl rfl rfl (by omega) (Qei (f:=fun s=>[dS s]) [[47,97],[47,98],[47,97,47,98],[47,97,47,99],[47,98,47,97],[47,99],[47,97,47,98,47,99],[47,99,47,97],[47,97,98],[47]] [] (n:=10) rfl (by omega))) ?_|refine kU ?_|refine kV ?_ ?_<;>intro q|fail
 all_goals first|refine Q1 1 (hx:=?_);exact⟨_,Qoe (p:=fun s:List UInt8=>s.length<=12) (by decide) (by decide) _,rfl,rfl⟩
def eRow(rows:List (List D))(hr:RdOk rows)(p:Nat)(hp:p<=900000):
 DoesE A5 107 [.ptr 0 0 0] [rdR rows p] [.ptr 0 0 0] (fun x H=> ∃z:Int,(-1<=z/\z<=64)/\x= .d (dI z)/\H=[rdR rows (p+2)]):=by
 refine kH fun gvs=>?_
 repeat' first|refine kS ?_|(refine aw_pk 0 hr (kk:=?_);intro v hv)|refine qS (QdO Ty.h rfl Ty.h) ?_|refine qS (Qdd Ty.h rfl Ty.h rfl rfl rfl (by omega) (Qei (f:=fun z=>[dI z]) [-1,0,3,7,64,63] 0 (n:=6) rfl (by omega))) ?_|refine kU ?_|refine kV ?_ ?_<;>intro q|fail
 all_goals first|refine Q1 1 (hx:=?_);exact⟨_,Qoe (p:=fun z:Int=> -1<=z/\z<=64) (by decide) (by decide) _,rfl,rfl⟩|refine Q1 1 (hx:=?_);exact⟨_,by omega,rfl,rfl⟩
def eMany6(s:List UInt8)(n:Nat)(hs:s.length*n<=1000000)(hs1:s.length<=1000000)(hn:n<=1000000):DoesE A5 102 [.d (dS s),.d (dI n)] [] [] (fun x H=> ∃t:List UInt8,t.length<=1000000/\x= .d (dS t)/\H=[]):=by
 refine kH fun gvs=>?_
 repeat refine kA ?_
 refine Qq (fun m st=> ∃(n:Nat) (out s:List UInt8),m=n/\n<=1000000/\out.length+s.length*n<=1000000/\s.length<=2000000/\st=⟨20,[(5,.d (dS out)),(0,.d (dS s)),(1,.d (dI n)),(1000000,.gh [] gvs)],[]⟩) [5,0,1,1000000] 0 n
  ⟨n,[],s,rfl,hn,by simpa using hs,by omega,rfl⟩ (round:=?_)
 clear hs hs1 hn s n;rintro n st ⟨_,out,s,rfl,hn,hb,hs,rfl⟩
 repeat refine kG ?_
 cases q3:decide ((n:Int)>0)
 ·repeat refine kA ?_
  all_goals first|refine Q1 0 (hx:=?_);exact⟨_,by omega,rfl,rfl⟩
 have hn0:0<n:=by simp only[decide_eq_true_eq] at q3;omega
 have h1:s.length<=s.length*n:=Nat.le_mul_of_pos_right _ hn0
 have h2:s.length*n=2*(s.length*(n/2))+s.length*(n%2):=by
  conv=>lhs;rw[<-Nat.div_add_mod n 2]
  rw[Nat.mul_add,<-AI,<-AI,Nat.mul_comm s.length 2]
 have h3:(s++s).length*(n/2)=2*(s.length*(n/2)):=by rw[A0,<-Nat.two_mul,AI]
 generalize s.length*(n/2)=X at*;have h4:((n:Int)/2).toNat=n/2:=by omega
 have h5:(n:Int)/2=((n/2:Nat):Int):=by omega
 repeat' first|refine kS ?_|refine qS (Qg5 rfl rfl (by omega) (by omega)) ?_|refine qS (QnW rfl rfl h5 (by omega) (by omega)) ?_|refine qS (Qdf rfl rfl (by omega)) ?_|refine kU ?_|refine kV ?_ ?_<;>intro q|fail
 all_goals first
  |(refine Qg (n/2) (by omega) ⟨n/2,out++s,s++s,rfl,by omega,?_,by simp;omega,?_⟩
    ·have:n%2=1:=by simp only[beq_iff_eq] at*;omega
     rw[this] at h2;rw[h3,A0];omega
    ·simp[keepE,go_sem];done)
  |(refine Qg (n/2) (by omega) ⟨n/2,out,s++s,rfl,by omega,by rw[h3];omega,by simp;omega,?_⟩
    simp[keepE,go_sem];done)
def QjS(l:List UInt8)(b:UInt8):rBy l++[[.v (.int .u8 b.toNat)]]=rBy (l++[b]):=by simp[rBy]
def TI(rows:List (List D))(p n many kind:Nat)(gvs:List Value)(m:Nat)(st:St):Prop:= ∃(out:List UInt8) (g p':Nat),m=many -out.length/\out.length<=n/\p'<=p+2+2*out.length/\
    st=⟨72,[(5,.osl 1 g 0 out.length),(6,.d (dI many)),(7,.d (dI kind)),(0,.ptr 0 0 0),(1000000,.gh [.ptr 0 0 0] gvs)],[rdR rows p',.arr g 1 5 (rBy out)]⟩
theorem TI_step{rows:List (List D)}{p n many kind g p':Nat}{out:List UInt8}{b:UInt8}{st:St}(h1:out.length<n)(hk:k=many -(out.length+1))
 (hs:st=⟨72,[(5,.osl 1 g 0 (out.length+1)),(6,.d (dI many)),(7,.d (dI kind)),(0,.ptr 0 0 0),(1000000,.gh [.ptr 0 0 0] gvs)],[rdR rows p',.arr g 1 5 (rBy out++[[.v (.int .u8 b.toNat)]])]⟩:=by simp only[keepE,go_sem];rfl) (h2:p'<=p+2+2*out.length+1:=by omega):TI rows p n many kind gvs k st:=by
 refine⟨out++[b],g,p',by grind,by grind,by grind,?_⟩
 grind
def eText(rows:List (List D))(hr:RdOk rows)(p:Nat)(hp:p<=900000)(n:Nat)(hn:n<=1000):
 DoesE A5 25 [.ptr 0 0 0,.d (dI n)] [rdR rows p] [.ptr 0 0 0] (fun x H=> ∃(s:List UInt8) (p':Nat),s.length<=n/\p'<=p+2+2*n/\x= .d (dS s)/\H=[rdR rows p']):=by
 refine kH fun gvs=>?_
 repeat' first|refine kS ?_|(refine aw_pk 0 hr (kk:=?_);intro v hv)|refine kU ?_|fail
 rename_i many hmany;generalize v=kind at*;refine Qq (TI rows p n many kind gvs) [5,6,7,0,1000000] 2 many ⟨[],0,p+1+1,by simp,by simp,by simp,rfl⟩ (round:=?_);rintro m st ⟨out,g,p',rfl,hol,hp',rfl⟩
 repeat refine kG ?_
 cases q3:decide ((out.length:Int)<(many:Int))
 ·repeat' first|refine kS ?_|refine qS (Qia A9 A1 AK rfl rfl rfl) ?_|refine kU ?_|fail
  all_goals first|refine Q1 1 (hx:=?_);exact⟨out,p',hol,by omega,rfl,rfl⟩
 have hlt:out.length<many:=by simp only[decide_eq_true_eq] at q3;omega
 have hmn:many<=n:=by omega
 repeat' first|refine kS ?_|(refine aw_pk 0 hr (kk:=?_);intro v hv)|(refine QhU (Qop A9 A1 rfl rfl rfl (by decide)) (k:=?_);refine QdE (hX:=fun _ hR=>hR) (k:=?_))|refine qS (QhM Ty.h rfl Ty.h rfl (l:=[97,98,126,48,58,59,61]) rfl rfl (by simp only[A2,A4];omega)) ?_|refine qS (QdD A6 A1 rfl rfl (Qus _)) ?_|refine qS (Qd3 rfl rfl (by omega)) ?_|refine QV Ty.h rfl Ty.h (hb:=?_) (kk:=?_)|refine kU ?_|refine kV ?_ ?_<;>intro q|fail
 all_goals first|show((rBy out).length+1)*1<=140737488355328;rw[AA];omega|refine Qg (many -(out.length+1)) (by omega) (TI_step (out:=out) (by omega) rfl)|skip
 rename_i v0 hv0;have hb: ∃b:UInt8,Qbx (97+(v0:Int))=b:=⟨_,rfl⟩;obtain⟨b,hb⟩:=hb;rw[hb]
 refine Qq (fun m st=> ∃(k:Int) (o:List UInt8) (g:Nat),m=(k+1).toNat/\k<=6/\o.length<=n/\(0<=k/\o.length=out.length∨out.length<o.length)/\
  st=⟨72,[(9,.d (dI k)),(8,.d (dU b)),(5,.osl 1 g 0 o.length),(6,.d (dI many)),(7,.d (dI kind)),(0,.ptr 0 0 0),(1000000,.gh [.ptr 0 0 0] gvs)],[rdR rows (p'+1+1),.arr g 1 5 (rBy o)]⟩) [9,8,5,6,7,0,1000000] 2 (v+1)
  ⟨v,out,g,by omega,by omega,hol,.inl ⟨by omega,rfl⟩,rfl⟩ (round:=?_)
 rintro m st ⟨k,o,g,rfl,hk6,hol2,hpr,rfl⟩
 repeat refine kG ?_
 by_cases hc:0<=k/\o.length<many
 ·repeat' first|refine kS ?_|refine QV Ty.h rfl Ty.h (hb:=?_) (kk:=?_)|refine kU ?_|refine kV ?_ ?_<;>intro q|fail
  all_goals first|exfalso;simp only[decide_eq_false_iff_not] at*;omega|show((rBy o).length+1)*1<=140737488355328;rw[AA];omega|refine Qg k.toNat (by omega) ⟨k -1,o++[b],g+1,by omega,by omega,by rw[A0];simp only[A2,A4];omega,.inr (by rw[A0];simp only[A2,A4];omega),?_⟩;simp only[keepE,go_sem,<-QjS,A0];rfl
 ·repeat' first|refine kA ?_|refine kV ?_ ?_<;>intro q|fail
  all_goals first|exfalso;simp only[decide_eq_true_eq] at*;omega|refine Qg (many -o.length) (by simp only[decide_eq_false_iff_not,decide_eq_true_eq] at*;omega) ⟨o,g,p'+1+1,rfl,hol2,by simp only[decide_eq_false_iff_not,decide_eq_true_eq] at*;omega,?_⟩;simp[keepE,go_sem];done
def Qbr(many:Nat)(b:UInt8):Nat->List UInt8->List UInt8
 |0,o=>o
 |k+1,o=>if o.length<many then Qbr many b k (o++[b]) else o
def Qa3(rows:List (List D))(many kind:Nat)(q:List UInt8×Nat):List UInt8×Nat:=
 if kind=0 then(q.1++[Qbx (QaN rows q.2 256)],q.2+1)
 else if kind=1 then(q.1++[([97,98,126,48,58,59,61]:List UInt8).getD (QaN rows q.2 7).toNat 0],q.2+1)
 else if kind=2 then(Qbr many (Qbx (97+QaN rows q.2 3)) ((QaN rows (q.2+1) 6).toNat+1) q.1,q.2+1+1)
 else(q.1++[Qbx (QaN rows q.2 2*97)],q.2+1)
def Qby(rows:List (List D))(many kind:Nat):Nat->List UInt8×Nat->List UInt8×Nat
 |0,q=>q
 |f+1,q=>if q.1.length<many then Qby rows many kind f (Qa3 rows many kind q) else q
def Qc9(rows:List (List D))(p n:Nat):List UInt8×Nat:=
 Qby rows (QaN rows p ((n:Int)+1)).toNat (QaN rows (p+1) 4).toNat (QaN rows p ((n:Int)+1)).toNat ([],p+1+1)
theorem Qq1(many:Nat)(b:UInt8): ∀(k:Nat) (o:List UInt8),o.length<=(Qbr many b k o).length/\(o.length<=many->(Qbr many b k o).length<=many)/\(0<k->o.length<many->o.length<(Qbr many b k o).length)
 |0,o=>⟨Nat.le_refl _,fun h=>h,fun h=>absurd h (by decide)⟩
 |k+1,o=>by
  unfold Qbr;obtain⟨h1,h2,_⟩:=Qq1 many b k (o++[b])
  grind
theorem QnE(rows:List (List D))(many kind:Nat)(q:List UInt8×Nat)(h:q.1.length<many):q.1.length<(Qa3 rows many kind q).1.length/\(Qa3 rows many kind q).1.length<=many/\(Qa3 rows many kind q).2<=q.2+2:=by
 unfold Qa3;split
 ·grind
 split
 ·grind
 split
 ·obtain⟨h1,h2,h3⟩:=Qq1 many (Qbx (97+QaN rows q.2 3)) ((QaN rows (q.2+1) 6).toNat+1) q.1
  grind
 grind
def Quz(rows:List (List D))(many kind:Nat): ∀(f:Nat) (q:List UInt8×Nat),q.1.length<=many->(Qby rows many kind f q).1.length<=many/\(Qby rows many kind f q).2<=q.2+2*(many -q.1.length)
 |0,q,h=>⟨h,by show q.2<=_;omega⟩
 |f+1,q,h=>by
  unfold Qby;split
  ·rename_i hlt
   obtain⟨h1,h2,h3⟩:=QnE rows many kind q hlt;obtain⟨h4,h5⟩:=Quz rows many kind f _ h2;omega
  omega
def txt_len{rows:List (List D)}(hr:RdOk rows)(p n:Nat):(Qc9 rows p n).1.length<=n/\(Qc9 rows p n).2<=p+2+2*n:=by
 obtain⟨h1,h2⟩:=pkv_b hr p ((n:Int)+1);obtain⟨h3,h4⟩:=Quz rows (QaN rows p ((n:Int)+1)).toNat (QaN rows (p+1) 4).toNat (QaN rows p ((n:Int)+1)).toNat ([],p+1+1) (Nat.zero_le _);unfold Qc9;omega
theorem go_end{rows:List (List D)}{many kind:Nat}(h:Qby rows many kind f q=r)(hq: ¬q.1.length<many):q=r:=by
 cases f with
 |zero=>exact h
 |succ f=>unfold Qby at h;grind
theorem Qru{rows:List (List D)}{many kind:Nat}(h:Qby rows many kind f q=r)(hq:q.1.length<many)(hf:many -q.1.length<=f): ∃f',many -(Qa3 rows many kind q).1.length<=f'/\Qby rows many kind f' (Qa3 rows many kind q)=r:=by
 cases f with
 |zero=>omega
 |succ f=>
  unfold Qby at h;rw[if_pos hq] at h;have:=(QnE rows many kind q hq).1
  grind
section
variable{ops:Array Oper}{Q:Exit->St->Prop}{l:List Oper}{n:Nat}{env:List (Nat×AV)}{H H':List Blk}{d:Tmp}{ty:AB}{pos:String}{after:Array Edge}{gd:Option (Nat×Bool)}{xs:Array AM}{tys:Array AB}{rows:List (List D)}{p:Nat}{m:Int}
def Qu9(k:Nat)(hr:RdOk rows)(hargs:xs.toList.map (aval env)=[.ptr k 0 0,.d (dI m)]:=by rfl)(hH:H[k]? =some (rdR rows p):=by rfl)(hp:p<=1000000:=by omega)(hm:m<=1000000:=by omega)
 (hw:awanted ops env ⟨some d,.call ⟨.value (.func 22),xs,tys⟩,ty,pos,after,gd⟩=some true:=by rfl) (hd:Nat.blt d n=true:=by rfl) (hg:gdOk ops n ⟨some d,.call ⟨.value (.func 22),xs,tys⟩,ty,pos,after,gd⟩=true:=by rfl)
 (hH': ∀R:List Blk->Prop,R H'->R (H.set k (rdR rows (p+1))):=by intro R hR;simp only[List.set_cons_zero,List.set_cons_succ];exact hR)
 (kk: ∀v:Nat,((v:Int)<m∨v=0)->QaN rows p m=v->ASeq A5 ops Q l ⟨n,(d,.d (dI v))::env,H'⟩):ASeq A5 ops Q (⟨some d,.call ⟨.value (.func 22),xs,tys⟩,ty,pos,after,gd⟩::l) ⟨n,env,H⟩:=by
 have e:=hH' (fun r=>r=H') rfl;obtain⟨h1,h2⟩:=pkv_b hr p m;refine QC [k] (ePick rows hr p hp m hm) AR (hargs:=hargs) (hks:=by simp[hH,Blk.ren,AV.renL,AV.ren]) (hnd:=by simp) (hw:=hw) (hd:=hd) (hg:=hg) (k:=?_);rintro _ _ ⟨rfl,rfl⟩;have:=kk (QaN rows p m).toNat (by omega) (by omega);rw[AH h1] at this;rw[<-e] at this;show ASeq _ _ _ _ ⟨_,_,H.set k (rdR rows (p+1))++[]⟩;rw[AL];exact this
end
def TX(rows:List (List D))(fin:List UInt8×Nat)(p n many kind:Nat)(gvs:List Value)(m:Nat)(st:St):Prop:= ∃(out:List UInt8) (g p' f:Nat),m=many -out.length/\out.length<=n/\p'<=p+2+2*out.length/\many -out.length<=f/\Qby rows many kind f (out,p')=fin/\
    st=⟨72,[(5,.osl 1 g 0 out.length),(6,.d (dI many)),(7,.d (dI kind)),(0,.ptr 0 0 0),(1000000,.gh [.ptr 0 0 0] gvs)],[rdR rows p',.arr g 1 5 (rBy out)]⟩
theorem Qn6{rows:List (List D)}{fin:List UInt8×Nat}{p n many kind g p':Nat}{out:List UInt8}{b:UInt8}{st:St}(hgo:Qby rows many kind f (out,p')=fin)(hlt:out.length<many)(hf:many -out.length<=f)(hstep:Qa3 rows many kind (out,p')=(out++[b],p'+1))(h1:out.length<n)(hk:k=many -(out.length+1))
 (hs:st=⟨72,[(5,.osl 1 g 0 (out.length+1)),(6,.d (dI many)),(7,.d (dI kind)),(0,.ptr 0 0 0),(1000000,.gh [.ptr 0 0 0] gvs)],[rdR rows (p'+1),.arr g 1 5 (rBy out++[[.v (.int .u8 b.toNat)]])]⟩:=by simp only[keepE,go_sem];rfl) (h2:p'+1<=p+2+2*out.length+1:=by omega):TX rows fin p n many kind gvs k st:=by
 obtain⟨f',h3,h4⟩:=Qru hgo hlt hf;rw[hstep] at h3 h4;refine⟨out++[b],g,p'+1,f',by grind,by grind,by grind,h3,h4,?_⟩
 grind
variable{rows:List (List D)}{many kind v p':Nat}{out:List UInt8}
theorem st0(h:((kind:Int)==0)=true)(ev:QaN rows p' 256=v):Qa3 rows many kind (out,p')=(out++[Qbx v],p'+1):=by grind [Qa3]
theorem st1(h0:((kind:Int)==0)=false)(h:((kind:Int)==1)=true)(ev:QaN rows p' 7=v):Qa3 rows many kind (out,p')=(out++[([97,98,126,48,58,59,61]:List UInt8).getD v 0],p'+1):=by grind [Qa3]
theorem st2(h0:((kind:Int)==0)=false)(h1:((kind:Int)==1)=false)(h:((kind:Int)==2)=true){v2:Nat}(ev:QaN rows p' 3=v)(ev2:QaN rows (p'+1) 6=v2):Qa3 rows many kind (out,p')=(Qbr many (Qbx (97+v)) (v2+1) out,p'+1+1):=by grind [Qa3]
theorem st3(h0:((kind:Int)==0)=false)(h1:((kind:Int)==1)=false)(h:((kind:Int)==2)=false)(ev:QaN rows p' 2=v):Qa3 rows many kind (out,p')=(out++[Qbx (v*97)],p'+1):=by grind [Qa3]
theorem QsQ{b:UInt8}{k:Int}{r:List UInt8}(h:Qbr many b (k+1).toNat o=r)(hc:0<=k/\o.length<many):Qbr many b (k -1+1).toNat (o++[b])=r:=by
 rw[show(k+1).toNat=(k -1+1).toNat+1 by omega] at h
 grind [Qbr]
theorem run_end{b:UInt8}{k:Int}(hc: ¬(0<=k/\o.length<many)):Qbr many b (k+1).toNat o=o:=by
 by_cases hk:0<=k
 ·rw[show(k+1).toNat=k.toNat+1 by omega]
  grind [Qbr]
 ·rw[show(k+1).toNat=0 by omega];rfl
theorem eTextX(rows:List (List D))(hr:RdOk rows)(p:Nat)(hp:p<=900000)(n:Nat)(hn:n<=1000):
 DoesE A5 25 [.ptr 0 0 0,.d (dI n)] [rdR rows p] [.ptr 0 0 0] (fun x H=>x= .d (dS (Qc9 rows p n).1)/\H=[rdR rows (Qc9 rows p n).2]):=by
 refine kH fun gvs=>?_
 repeat' first|refine kS ?_|(refine Qu9 0 hr (kk:=?_);intro v hv ev)|refine kU ?_|fail
 rename_i many hmany em;generalize v=kind at*;obtain⟨fin,hfin⟩: ∃r,Qc9 rows p n=r:=⟨_,rfl⟩;rw[hfin];have hgo:Qby rows many kind many ([],p+1+1)=fin:=by rw[<-hfin];unfold Qc9;rw[em,ev,AE,AE]
 clear em ev hfin;refine Qq (TX rows fin p n many kind gvs) [5,6,7,0,1000000] 2 many ⟨[],0,p+1+1,many,by simp,by simp,by simp,by simp,hgo,rfl⟩ (round:=?_);clear hgo;rintro m st ⟨out,g,p',f,rfl,hol,hp',hf,hgo,rfl⟩
 repeat refine kG ?_
 cases q3:decide ((out.length:Int)<(many:Int))
 ·repeat' first|refine kS ?_|refine qS (Qia A9 A1 AK rfl rfl rfl) ?_|refine kU ?_|fail
  all_goals first|refine Q1 1 (hx:=?_);have:=go_end hgo (by simp only[decide_eq_false_iff_not] at q3;exact fun h=>q3 (by exact_mod_cast h));subst this;exact⟨rfl,rfl⟩
 have hlt:out.length<many:=by simp only[decide_eq_true_eq] at q3;omega
 have hmn:many<=n:=by omega
 repeat' first|refine kS ?_|(refine Qu9 0 hr (kk:=?_);intro v hv ev)|(refine QhU (Qop A9 A1 rfl rfl rfl (by decide)) (k:=?_);refine QdE (hX:=fun _ hR=>hR) (k:=?_))|refine qS (QhM Ty.h rfl Ty.h rfl (l:=[97,98,126,48,58,59,61]) rfl rfl (by simp only[A2,A4];omega)) ?_|refine qS (QdD A6 A1 rfl rfl (Qus _)) ?_|refine qS (Qd3 rfl rfl (by omega)) ?_|refine QV Ty.h rfl Ty.h (hb:=?_) (kk:=?_)|refine kU ?_|refine kV ?_ ?_<;>intro q|fail
 all_goals first|show((rBy out).length+1)*1<=140737488355328;rw[AA];omega|refine Qg (many -(out.length+1)) (by omega) (Qn6 hgo hlt hf (st0 (by assumption) ev) (by omega) rfl)|refine Qg (many -(out.length+1)) (by omega) (Qn6 hgo hlt hf (st1 (by assumption) (by assumption) ev) (by omega) rfl)|refine Qg (many -(out.length+1)) (by omega) (Qn6 hgo hlt hf (st3 (by assumption) (by assumption) (by assumption) ev) (by omega) rfl)|skip
 rename_i v0 hv0 ev0;obtain⟨f',h3,h4⟩:=Qru hgo hlt hf;rw[st2 (by assumption) (by assumption) (by assumption) ev0 ev] at h3 h4;have hb: ∃b:UInt8,Qbx (97+(v0:Int))=b:=⟨_,rfl⟩;obtain⟨b,hb⟩:=hb;rw[hb];rw[hb] at h3 h4
 refine Qq (fun m st=> ∃(k:Int) (o:List UInt8) (g:Nat),m=(k+1).toNat/\k<=6/\o.length<=n/\(0<=k/\o.length=out.length∨out.length<o.length)/\Qbr many b (k+1).toNat o=Qbr many b (v+1) out/\
  st=⟨72,[(9,.d (dI k)),(8,.d (dU b)),(5,.osl 1 g 0 o.length),(6,.d (dI many)),(7,.d (dI kind)),(0,.ptr 0 0 0),(1000000,.gh [.ptr 0 0 0] gvs)],[rdR rows (p'+1+1),.arr g 1 5 (rBy o)]⟩) [9,8,5,6,7,0,1000000] 2 (v+1)
  ⟨v,out,g,by omega,by omega,hol,.inl ⟨by omega,rfl⟩,by rw[show((v:Int)+1).toNat=v+1 by omega],rfl⟩ (round:=?_)
 rintro m st ⟨k,o,g,rfl,hk6,hol2,hpr,hrun,rfl⟩
 repeat refine kG ?_
 by_cases hc:0<=k/\o.length<many
 ·repeat' first|refine kS ?_|refine QV Ty.h rfl Ty.h (hb:=?_) (kk:=?_)|refine kU ?_|refine kV ?_ ?_<;>intro q|fail
  all_goals first|exfalso;simp only[decide_eq_false_iff_not] at*;omega|show((rBy o).length+1)*1<=140737488355328;rw[AA];omega|refine Qg k.toNat (by omega) ⟨k -1,o++[b],g+1,by omega,by omega,by rw[A0];simp only[A2,A4];omega,.inr (by rw[A0];simp only[A2,A4];omega),QsQ hrun hc,?_⟩;simp only[keepE,go_sem,<-QjS,A0];rfl
 ·rw[<-hrun,run_end hc] at h3 h4
  repeat' first|refine kA ?_|refine kV ?_ ?_<;>intro q|fail
  all_goals first|exfalso;simp only[decide_eq_true_eq] at*;omega|refine Qg (many -o.length) (by simp only[decide_eq_false_iff_not,decide_eq_true_eq] at*;omega) ⟨o,g,p'+1+1,f',rfl,hol2,by simp only[decide_eq_false_iff_not,decide_eq_true_eq] at*;omega,h3,h4,?_⟩;simp[keepE,go_sem];done

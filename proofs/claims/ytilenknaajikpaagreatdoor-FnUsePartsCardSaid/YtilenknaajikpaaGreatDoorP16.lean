/- Of parts_card; no condition. -/
import Derived.Test.YtilenknaajikpaaGreatDoorP15
import Derived.Laws.BytesArg
import Derived.Lib.SlBytesConst
set_option linter.all false
set_option maxRecDepth 100000
set_option maxHeartbeats 8000000
open BitVec renaming ofInt->A3
open Go renaming Operand->AC,TypeId->AD
open Go.Op renaming operands->AJ,intBits->AL
open Go.Proofs.Tryz renaming prog->AB
open Go.RowKit renaming Hid->AK
open Go.Sem renaming run_bind->AF
open Go.World renaming freeze->A8
open List renaming replicate->A0,getElem?_eq_getElem->A1,take_of_length_le->A2,getElem?_eq_some_iff->A5,take_add_one->A6,cons_append->A7,mem_of_getElem?->AA,nil_append->AG,map->AI
open Nat renaming le_refl->A4,zero_add->AE,zero_mul->AH
open Option.some renaming inj->A9
namespace Go.Proofs.YtilenknaajikpaaGreatDoor
noncomputable section
open Go.RowKit
namespace Aw
def QC(s:Pm.Store)(t:Pl.Tree):List Pl.Ptr:=
 if t.depth=0∨Pl.ptrHole t.root=true then [] else t.root::(if t.depth=2 then(Qh s t.root 2).1.filter fun p=> !Pl.ptrHole p else [])
def QK(s:Pm.Store)(t:Pl.Tree)(depth level:Int):List Pl.Ptr:=
 if t.depth≠depth then A0 4 Pl.hole else if level=depth then [t.root] else if(Qh s t.root depth).2 then(Qh s t.root depth).1 else A0 4 Pl.hole
attribute [local irreducible] ASeq ADraw AWP Loc AStep Fg.PlanF Fg.Flts EndR
def eBelow(g:Nat)(w:Pl.Sto)(N:Nat)(hw:w.W N)(p:Pl.Ptr)(level:Int):
 DoesE AB 164 [oS g w,.d (dPtr p),.d (dI level)] (hS g w) (gS g w) (fun x H=>x= .tup [.d (tPtrs (Qh w.st p level).1),.d (dB (Qh w.st p level).2)]/\H=hS g w):=by
 cases h1:Pl.ptrHole p;rotate_left
 ·have hB:AK (Qh w.st p level=(A0 4 Pl.hole,true)):=Pm.hid (by unfold Qh;rw[if_pos h1])
  rw[hB.out];refine kH fun gvs=>?_
  refine Qa 6 (h:=?_)
  repeat' first|refine kS ?_|refine qS (lC (h1▸Qdt p)) ?_|refine qS (Qds cK (Qh9 4 (by omega)) rfl) ?_|refine kU ?_|fail
  refine Qd3 5 (hx:=?_);exact⟨rfl,rfl⟩
 cases h2:Pl.ptrOk p
 ·have hB:AK (Qh w.st p level=([],false)):=Pm.hid (by simp[Qh,h1,h2])
  rw[hB.out];refine kH fun gvs=>?_
  refine Qa 6 (h:=?_)
  repeat' first|refine kS ?_|refine qS (lC (h1▸Qdt p)) ?_|refine qS (lC (h2▸aPtrOk p)) ?_|refine kU ?_|fail
  refine Qa 7 (h:=?_);refine Qd3 5 (hx:=?_);exact⟨rfl,rfl⟩
 have c3:=al7R w.st hw.good p fun _=>h2
 have hlen:=QiO w.st hw.good p
 have hB:AK (Qh w.st p level=if(p.level==level)&&decide (p.birth<=w.txg)&&(Qj w.st.1 p).2 then
  if(QaH (Qj w.st.1 p).1).1.any (fun q=>decide (p.birth<q.birth)) then([],false) else QaH (Qj w.st.1 p).1 else([],false)):=Pm.hid (by unfold Qh;rw[if_neg (by simp[h1]),h2];simp only[Bool.true_and];rfl)
 generalize Qj w.st.1 p=tb at*;generalize Qh w.st p level=res at*;obtain⟨text,ok⟩:=tb;have c4:=aFanGet text (by simp only at hlen;omega);have hfl:=Qla text;simp only at hB;generalize QaH text=fb at*;obtain⟨l,fine⟩:=fb;simp only at hfl hlen;have hw':=Pm.hid hw;clear hw;refine kH fun gvs=>?_
 refine Qa 6 (h:=?_)
 repeat' first|refine kS ?_|refine qS (lC (h1▸Qdt p)) ?_|refine qS (lC (h2▸aPtrOk p)) ?_|refine qS (Qdh cK c3 hw'.out) ?_|refine kU ?_|refine kV ?_ ?_<;>intro q|fail
 ·refine Qa 7 (h:=?_)
  refine Qd3 5 (hx:=?_);rw[hB.out,if_neg (by simp at q;simp[q])];exact⟨rfl,rfl⟩
 ·refine Qa 7 (h:=?_)
  refine Qd3 5 (hx:=?_);rw[hB.out,if_neg (by simp at q;simp;intro _ _;omega)];exact⟨rfl,rfl⟩
 ·refine Qa 7 (h:=?_)
  refine Qd3 5 (hx:=?_);rw[hB.out,if_neg (by simp at q;simp[q])];exact⟨rfl,rfl⟩
 rename_i q1 q2
 refine Qs (fun m st=> ∃k:Nat,k<=l.length/\m=l.length -k/\AK ((l.take k).any (fun q=>decide (p.birth<q.birth))=false)/\
  st=⟨64,[(10,.d (tPtrs l)),(11,.d (dB fine)),(12,.d (dI k)),(4,.d (.pd [dI p.pat,dI p.birth,dI p.size,dI p.sum,dI p.level])),(1000000,.gh (gS g w) gvs)],hS g w⟩) [10,11,12,4,1000000] 5 l.length ⟨0,by omega,rfl,Pm.hid rfl,rfl⟩ (round:=?_)
 rintro m st ⟨k,hk,rfl,hF,rfl⟩
 repeat refine kG ?_
 have hC:((p.level==level)&&decide (p.birth<=w.txg)&&ok)=true:=by simp at q q1 q2;simp[q,q2];omega
 rw[if_pos hC] at hB;cases q3:decide ((k:Int)<(l.length:Int))
 ·repeat refine kA ?_
  refine Qd3 5 (hx:=?_);have:k=l.length:=by simp at q3;omega
  have h:=hF.out;rw[this,A2 (A4 _)] at h;rw[hB.out,if_neg (by simp[h])];exact⟨rfl,rfl⟩
 have hk2:k<l.length:=by simp at q3;omega
 obtain⟨x,hx⟩: ∃x,l[k]? =some x:=⟨_,A1 hk2⟩;have hr:=Qu (f:=fun p:Pl.Ptr=>[dI p.pat,dI p.birth,dI p.size,dI p.sum,dI p.level]) hx;have T:AK ((l.take (k+1)).any (fun q=>decide (p.birth<q.birth))=decide (p.birth<x.birth)):=Pm.hid (by rw[A6,hx,List.any_append,hF.out];simp)
 have F:AK (p.birth<x.birth->res=([],false)):=fun e=>by
  rw[hB.out,if_pos];rw[List.any_eq_true];exact⟨x,AA hx,by simpa using e⟩
 clear hx
 repeat' first|refine kS ?_|refine qD (iy hr) ?_|refine kU ?_|refine kV ?_ ?_<;>intro q|fail
 ·refine Qa 5 (h:=?_)
  refine Qd3 5 (hx:=?_);rw[F.out (by simpa using q)];exact⟨rfl,rfl⟩
 ·exact Qn (l.length -(k+1)) (by omega) ⟨k+1,by omega,rfl,Pm.hid (T.out.trans q),rfl⟩
def eOld(g:Nat)(w:Pl.Sto)(N:Nat)(hw:w.W N)(t:Pl.Tree)(depth level:Int):
 DoesE AB 138 [oS g w,.d (dTree t),.d (dI depth),.d (dI level)] (hS g w) (gS g w) (fun x H=>x= .d (tPtrs (QK w.st t depth level))/\H=hS g w):=by
 have c:=eBelow g w N hw t.root depth;have hd:=Pm.hid (QK.eq_def w.st t depth level);have ch:=Qh9 4 (by omega);generalize QK w.st t depth level=res at*;generalize Qh w.st t.root depth=bb at*;obtain⟨l,ok⟩:=bb;obtain⟨b1,hb1⟩: ∃b,AK (b=(t.depth !=depth)):=⟨_,Pm.hid rfl⟩;obtain⟨b2,hb2⟩: ∃b,AK (b=(level==depth)):=⟨_,Pm.hid rfl⟩;have hr:AK (res=if b1 then A0 4 Pl.hole else if b2 then [t.root] else if ok then l else A0 4 Pl.hole):=Pm.hid (by rw[hd.out,hb1.out,hb2.out];simp);clear hd
 cases b1<;>cases b2<;>cases ok<;>(
  refine kH fun gvs=>?_
  refine Qa 6 (h:=?_)
  repeat' first|refine kS ?_|refine QD [0,1,2,3,4] c cK (k:=kX ?_)|refine kU ?_|refine kV ?_ ?_<;>intro q|fail
  all_goals first
   |exact absurd (hb1.out.trans ‹(t.depth !=depth)=_›) (by decide)
   |exact absurd (hb2.out.trans ‹(level==depth)=_›) (by decide)
   |(refine Q3 5 (hx:=?_);rw[hr.out];exact⟨rfl,rfl⟩)
   |(refine Qa 7 (h:=?_);refine Q3 5 (hx:=?_);rw[hr.out];exact⟨rfl,rfl⟩))
theorem eInner(g:Nat)(w:Pl.Sto)(N:Nat)(hw:w.W N)(t:Pl.Tree):
 DoesE AB 137 [oS g w,.d (dTree t)] (hS g w) (gS g w) (fun x H=>x= .d (tPtrs (QC w.st t))/\H=hS g w):=by
 have c:=eBelow g w N hw t.root 2;have ch:=Qdt t.root;have hd:AK (QC w.st t=if t.depth=0∨Pl.ptrHole t.root=true then [] else t.root::(if t.depth=2 then(Qh w.st t.root 2).1.filter (fun p=> !Pl.ptrHole p) else [])):=Pm.hid rfl;have hl:=QeF w.st t.root 2;generalize QC w.st t=res at*;generalize Qh w.st t.root 2=bb at*;obtain⟨l,ok⟩:=bb;simp only at hl hd;have hl2:AK (l.length<=4):=Pm.hid hl
 by_cases h0:t.depth=0∨Pl.ptrHole t.root=true
 ·rw[if_pos h0] at hd
  clear c;refine kH fun gvs=>?_
  refine Qa 6 (h:=?_)
  repeat' first|refine kS ?_|refine QU Ty.h rfl Ty.h (hb:=?_) (kk:=?_)|refine kU ?_|refine kV ?_ ?_<;>intro q|fail
  all_goals first|simp;done|refine Qa 7 (h:=?_);refine Q3 5 (hx:=?_);rw[hd.out];exact⟨rfl,rfl⟩|exfalso;clear ch;simp_all;done
 rw[if_neg h0] at hd;obtain⟨h0,h1⟩:=not_or.1 h0
 by_cases h2:t.depth=2
 rotate_left
 ·rw[if_neg h2] at hd
  clear c;refine kH fun gvs=>?_
  refine Qa 6 (h:=?_)
  repeat' first|refine kS ?_|refine QU Ty.h rfl Ty.h (hb:=?_) (kk:=?_)|refine kU ?_|refine kV ?_ ?_<;>intro q|fail
  all_goals first|simp;done|refine Qa 7 (h:=?_);refine Q3 5 (hx:=?_);rw[hd.out];exact⟨rfl,rfl⟩|exfalso;clear ch;simp_all;done
 rw[if_pos h2] at hd;refine kH fun gvs=>?_
 refine Qa 6 (h:=?_)
 repeat' first|refine kS ?_|refine QU Ty.h rfl Ty.h (hb:=?_) (kk:=?_)|refine QD [0,1,2,3,4] c cK (k:=kX ?_)|refine kU ?_|refine kV ?_ ?_<;>intro q|fail
 all_goals first|simp;done|exfalso;clear ch c;simp_all;done|skip
 clear c;refine QdV [5,6,8,1000000] [0,1,2,3,4,7] (env':=[(5,.osl 5 1 0 1),(6,.d (tPtrs l)),(8,.d (dI 0)),(1000000,.gh (gS g w) gvs)]) (H':=hS g w++[.arr 1 5 31 [rPtr t.root]]) (h:=?_)
 refine Qs (fun m st=> ∃(k:Nat) (out:List Pl.Ptr),k<=l.length/\m=l.length -k/\out.length<=k+1/\AK (out=t.root::(l.take k).filter fun p=> !Pl.ptrHole p)/\
  st=⟨54,[(5,.osl 5 out.length 0 out.length),(6,.d (tPtrs l)),(8,.d (dI k)),(1000000,.gh (gS g w) gvs)],hS g w++[.arr out.length 5 31 (out.map rPtr)]⟩) [5,6,8,1000000] 6 l.length ⟨0,[t.root],by omega,rfl,by simp,Pm.hid rfl,rfl⟩ (round:=?_)
 rintro m st ⟨k,out,hk,rfl,hol,hO,rfl⟩;have hl:=hl2.out;simp only[hS,A7,AG]
 repeat refine kG ?_
 cases q3:decide ((k:Int)<(l.length:Int))
 ·repeat refine kA ?_
  refine Qa 5 (h:=?_);refine Q3 5 (hx:=?_);have:k=l.length:=by simp at q3;omega
  have h:=hO.out;rw[this,A2 (A4 _)] at h;rw[hd.out,<-h];refine⟨?_,rfl⟩;show AV.d (.sl true 5 (((out.map rPtr).drop 0).take out.length))=_;rw[QfF (by simp)]
 have hk2:k<l.length:=by simp at q3;omega
 obtain⟨x,hx⟩: ∃x,l[k]? =some x:=⟨_,A1 hk2⟩;have hr:=Qu (f:=rPtr) hx
 have T:AK (t.root::(l.take (k+1)).filter (fun p=> !Pl.ptrHole p)=if Pl.ptrHole x then out else out++[x]):=Pm.hid (by
  rw[A6,hx,List.filter_append,<-A7,<-hO.out]
  cases h:Pl.ptrHole x<;>simp[h])
 have c1:=Qdt x;clear hx hO hd ch h0 h1 h2;cases hh:Pl.ptrHole x
 ·rw[hh] at c1 T
  repeat' first|refine kS ?_|refine qS (iy hr) ?_|refine QU Ty.h rfl Ty.h (hb:=?_) (kk:=?_)|refine kU ?_|fail
  all_goals first|simp;omega|refine Qn (l.length -(k+1)) (by omega) ⟨k+1,out++[x],by omega,rfl,by simp;omega,Pm.hid T.out.symm,?_⟩;simp[keepE,go_sem];done
 ·rw[hh] at c1 T
  repeat' first|refine kS ?_|refine qS (iy hr) ?_|refine kU ?_|fail
  refine Qn (l.length -(k+1)) (by omega) ⟨k+1,out,by omega,rfl,by omega,Pm.hid T.out.symm,?_⟩;simp[keepE,go_sem]
section
variable{P:Program}{ops:Array Oper}{Q:Exit->St->Prop}{l:List Oper}{n:Nat}{d:Tmp}{ty:AD}{pos:String}{after:Array Edge}{gd:Option (Nat×Bool)}{env:List (Nat×AV)}{H H' H1:List Blk}{f:FuncId}{xs:Array AC}{tys:Array AD}{ds:List D}{x x':AV}{w:Pl.Sto}{N k0 k1 k2 k3 k4 g:Nat}{T0 T1 T2 T3 T4:AD}{u:AC}{us:List AC}
def QdY(h:Does P f (.d (dSt w.st)::ds.map .d) [] [] x H1)(hf: ∀args w,(callFunc f args).run P w= .ok (.enter f args) w)(hw:w.W N)(hx:x.flatA=true)(hH1:H1.all Blk.flat=true)(hxs:xs.toList=u::us:=by rfl)
 (hu:aval env u= .agg [.osl k0 1 0 64,.osl k1 1 0 64,.osl k2 1 0 64,.d (dI w.txg),.osl k3 g 0 w.gone.length,.d (dI 0),.osl k4 1 0 0,.d (dB w.same)]:=by rfl)
 (h0:H[k0]? =some (.arr 1 1 T0 (rS w.rows)):=by rfl) (h1:H[k1]? =some (.arr 1 1 T1 (rI w.refs)):=by rfl) (h2:H[k2]? =some (.arr 1 1 T2 (rI w.last)):=by rfl) (h3:H[k3]? =some (.arr g 5 T3 (w.gone.map rPtr)):=by rfl) (h4:H[k4]? =some (.arr 1 5 T4 []):=by rfl)
 (hd:allD (us.map (aval env))=some ds:=by rfl) (hwk:D.weakL ds=ds:=by rfl)
 (hX: ∀R:AV->Prop,R x'->R (x.ren (· +H.length)):=by intro R hR;simp only[AV.ren,AV.renL,List.length_cons,List.length_nil,Nat.reduceAdd,Nat.zero_add];exact hR) (hH: ∀R:List Blk->Prop,R H'->R (H++H1):=by intro R hR;simp only[List.cons_append,List.nil_append];exact hR)
 (hw2:awanted ops env ⟨some d,.call ⟨.value (.func f),xs,tys⟩,ty,pos,after,gd⟩=some true:=by rfl) (hdn:Nat.blt d n=true:=by rfl) (hg:gdOk ops n ⟨some d,.call ⟨.value (.func f),xs,tys⟩,ty,pos,after,gd⟩=true:=by rfl)
 (k:ASeq P ops Q l ⟨n,(d,x')::env,H'⟩):ASeq P ops Q (⟨some d,.call ⟨.value (.func f),xs,tys⟩,ty,pos,after,gd⟩::l) ⟨n,env,H⟩:=by
 refine Qlw (ds:=dSt w.st::ds) h hf ?_ hx hH1 hX hH hw2 hdn hg k;rw[hxs,List.map_cons,Qo6 hd,hu];show(AV.ice H 4 _).weak::D.weakL ds=_;rw[QrZ hw h0 h1 h2 h3 h4,hwk]
end
def dWide(s:Pm.Store)(hg:QM s)(t:Pl.Tree)(ht:Qx t):Does AB 77 [.d (dSt s),.d (dTree t)] [] [] (.osl 0 2 0 16) [.arr 2 5 31 ((Qg s t).map rPtr)]:=by
 have hc:=QjI s hg t ht.lo ht.hi;have hl:=Qg5 s ht.hi;have hw:=Pm.hid (Qg.eq_def s t);generalize QG s t=lb at*;obtain⟨l,ok⟩:=lb;simp only at hl hw;have hh:=Qh9 (16 -l.length) (by omega);have e:((16 -l.length:Nat):Int)=16 -(l.length:Int):=by omega
 rw[e] at hh;refine kL ?hpin fun gvs=>?_
 case hpin=>intro i C hC;simp at hC
 simp only[parA,gslot,AE];refine kR ?_;refine Qa 0 (h:=?_);refine Qa 1 (h:=?_)
 repeat' first|refine kS ?_|refine QdW Ty.h rfl Ty.h (hb:=?_) (hcell:=?_) (kk:=?_)|refine kU ?_|fail
 ·exact Qdy l
 ·simp;omega
 ·exact Qdy _
 ·simp;omega
 have e2:([]++AI (fun p:Pl.Ptr=>[dI p.pat,dI p.birth,dI p.size,dI p.sum,dI p.level]) l++AI (fun p:Pl.Ptr=>[dI p.pat,dI p.birth,dI p.size,dI p.sum,dI p.level]) (A0 (16 -l.length) Pl.hole))=(Qg s t).map rPtr:=by rw[hw.out,List.map_append];rfl
 have e3:([]++AI (fun p:Pl.Ptr=>[dI p.pat,dI p.birth,dI p.size,dI p.sum,dI p.level]) l).length+(A0 (16 -l.length) Pl.hole).length=16:=by simp;omega
 rw[e2,e3];refine QdV [4,1000000] [2] (env':=[(4,.osl 0 2 0 16),(1000000,.gh [] gvs)]) (H':=[.arr 2 5 31 ((Qg s t).map rPtr)]) (h:=?_);exact Qek (hx:=rfl) (hH:=rfl)
def Qcn(a b:Int):Int:=((a.toNat^^^b.toNat:Nat):Int)
def xorI_nn(a b:Int):0<=Qcn a b:=by unfold Qcn;omega
abbrev dU(b:UInt8):D:= .v (.int .u8 b.toNat)
abbrev rBy(l:List UInt8):List (List D):=l.map fun b=>[dU b]
abbrev dBy(l:List UInt8):D:= .sl true 1 (rBy l)
section
variable{P:Program}{dst:Option Tmp}{ty:AD}{pos:String}{after:Array Edge}{gd:Option (Nat×Bool)}{env:List (Nat×AV)}{H:List Blk}
theorem loc_xor{T T':AD}{x y:AC}{a b:Int}(hx:aval env x= .d (.v (.int .i64 a)))(hy:aval env y= .d (.v (.int .i64 b)))(ha:0<=a/\a<4611686018427387904)(hb:0<=b/\b<4611686018427387904):
 Loc P ⟨dst,.binOp .xor T x y T',ty,pos,after,gd⟩ env H (.d (.v (.int .i64 (Qcn a b)))) none:=
 loc_bin' (X:= .int .i64 a) (Y:= .int .i64 b) (by rw[hx];rfl) (by rw[hy];rfl) fun w=>by
  rw[AF,Qer,Result.andThen_ok];have e1:(A3 64 a).toNat=a.toNat:=by grind
  have e2:(A3 64 b).toNat=b.toNat:=by grind
  have h3:a.toNat^^^b.toNat<2^62:=Nat.xor_lt_two_pow (by omega) (by omega);have h4:(A3 64 a^^^A3 64 b).toNat=a.toNat^^^b.toNat:=by grind
  have h5:=Pm.QfB (Qcn a b) (by unfold Qcn;omega) (by unfold Qcn;omega);unfold Qcn at h5⊢;show(AL .xor .i64 a b).run P w=_;unfold AL;show Result.ok (Value.int .i64 (IntKind.i64.wrap ((A3 64 a^^^A3 64 b).toNat:Nat))) w=_;rw[h4,h5]
theorem Qin{T e:AD}{F E:TyF}{u v:AC}{κ:IntKind}{i:Int}{l:List UInt8}(hT:tyf P T=some F)(he:F.elem=some e)(hE:tyf P e=some E)(hn:E.size=1)(hu:aval env u= .d (dBy l))(hv:aval env v= .d (.v (.int κ i)))(h0:0<=i/\i<l.length):
 Loc P ⟨dst,.indexAddr T u v,ty,pos,after,gd⟩ env H (.d (.pd [dU (l.getD i.toNat 0)])) none:=
 Qdc hT he hE hn hu hv h0.1 (by grind)
theorem Qoy{Ts Td e T0:AD}{u:AC}{k g n:Nat}{l:List UInt8}(h1:P.underlying Ts=some (.slice e))(h2:P.underlying e=some (.int .u8))(h3:P.underlying Td=some .string)
 (hu:aval env u= .osl k g 0 n) (hk:H[k]? =some (.arr g 1 T0 (rBy l))) (hn:l.length=n):
 Loc P ⟨dst,.convert Ts Td u,ty,pos,after,gd⟩ env H (.d (dS l)) none:=
 QR fun σ S H' a w hB hop hag=>by
  have h:=hop u (by simp[AJ]);rw[hu] at h;generalize hv:a.eval u=v at h;cases h with
  |osl _ _ _ _ _ _ g' sz' T' rows' hk' hg hh=>
   have hke:H'[k]? =some (.arr g 1 T0 (rBy l)):=by
    rcases hag k _ hk with h|h
    ·exact h
    grind
   rw[hk'] at hke;obtain⟨rfl,rfl,rfl,rfl⟩:g'=g/\sz'=1/\T'=T0/\rows'=rBy l:=by grind
   obtain⟨_,hbk⟩:=hB k _ hk';refine⟨.string ⟨l.toArray⟩,?_,.d _ _ (.v _)⟩;have hs:strOfNums (l.map fun b=>(b.toNat:Int))=⟨l.toArray⟩:=by unfold strOfNums;rw[List.map_map];simp[Function.comp_def]
   rcases(hh rfl).2 with⟨b,cap,cs,T,hb,_,_,rfl,hc,_⟩|⟨hb,hl,rfl⟩
   ·rcases hbk with⟨b',cs',hb',hc',hrel⟩|⟨hb',_⟩
    rotate_left
    ·grind
    rw[hb] at hb';obtain rfl:=A9 hb'
    have hr:=run_convert_bytes_arg (P:=P) w Ts e h1 h2 b 0 n cap (l.map fun b=>(b.toNat:Int)) (by simp[hn]) (fun i hi=>by
     obtain⟨u,hu,hr⟩:=hrel i 0 [dU l[i]] (dU l[i]) (by grind) rfl;cases hr;rw[cell_of_row w b _ cs' T' (0,0) hc',AE,<-Nat.mul_one i,<-Nat.add_zero (i*1),hu]
     grind) Td h3
    simp only[execOp,hv,hr,hs,AF,AH];rfl
   ·have hl0:l=[]:=List.eq_nil_iff_length_eq_zero.2 (by omega)
    subst hl0;have hr:=run_convert_bytes_nil (P:=P) w Ts e h1 h2 n 0 Td h3;subst hl;simp only[execOp,hv,hr,AF];rfl
theorem QoK{T e T0:AD}{u:AC}{k g n:Nat}{rows:List (List D)}(h1:P.underlying T=some (.slice e))(h2:P.underlying e=some (.int .u8))(hu:aval env u= .osl k g 0 n)(hk:H[k]? =some (.arr g 1 T0 rows))(hn:rows.length=n)(hn0:0<n):
 Eff P ⟨dst,.convert T T u,ty,pos,after,gd⟩ env H (.d (.sl true 1 rows)) (H.set k (.arr (g+1) 1 T0 [])):=by
 intro B σ S a w hB hS hop K Q kk;have h:=hop u (by simp[AJ]);rw[hu] at h;generalize hv:a.eval u=v at h;have hkl:k<H.length:=(A5.1 hk).1;cases h with
 |osl _ _ _ _ _ _ g' sz' T' rows' hk' hg hh=>
  rw[hk] at hk';obtain⟨rfl,rfl,rfl,rfl⟩:g=g'/\1=sz'/\T0=T'/\rows=rows':=by grind
  obtain⟨hlen,hbk⟩:=hS.blk k _ hk;rcases(hh rfl).2 with⟨b,cap,cs,T',hb,hcap,_,rfl,hc,_⟩|⟨hb,hl,_⟩;rotate_left
  ·omega
  rcases hbk with⟨b',cs',hb',hc',hrel⟩|⟨hb',_⟩;rotate_left
  ·grind
  rw[hb] at hb';obtain rfl:=A9 hb';rw[AH] at hv
  have hw1: ∀j,j≠b->(w.freeze ⟨b,cs'.size,none⟩ 1).heap[j]? =w.heap[j]? :=fun j hj=>by
   unfold A8;grind
  have hw2:(w.freeze ⟨b,cs'.size,none⟩ 1).heap[b]? =some (.cells cs' T0 (cs'.size,cs'.size+1)):=by
   unfold A8;grind
  have hsz:(w.freeze ⟨b,cs'.size,none⟩ 1).heap.size=w.heap.size:=by
   unfold A8;grind
  have hrest:(w.freeze ⟨b,cs'.size,none⟩ 1).os=w.os/\(w.freeze ⟨b,cs'.size,none⟩ 1).tape=w.tape/\(w.freeze ⟨b,cs'.size,none⟩ 1).output=w.output:=by
   unfold A8;grind
  have hsh:w.shape? b=some (T0,cs'.size):=by unfold World.shape?;rw[hc']
  have hrun:(execOp a.eval ⟨dst,.convert T T u,ty,pos,after,gd⟩).run P w= .ok (.value (.slice (some ⟨b,0,none⟩) n cap)) (w.freeze ⟨b,cs'.size,none⟩ 1):=by
   simp[execOp,hv,convert,run_underlying h1,run_underlying h2,markStringish,hsh]
  generalize w.freeze ⟨b,cs'.size,none⟩ 1=w' at*;obtain⟨q1,q2,q3⟩:=hrest;obtain⟨p1,p2,p3⟩:=hS.σUp k b hkl hb;have hS': ∀c,S c->c≠b:=fun c hc e=>p2 (e▸hc)
  have hget: ∀j,j≠k->(H.set k (.arr (g+1) 1 T0 []))[j]? =H[j]? :=fun j hj=>List.getElem?_set_ne (fun e=>hj e.symm)
  have hgk:(H.set k (.arr (g+1) 1 T0 []))[k]? =some (.arr (g+1) 1 T0 []):=List.getElem?_set_self hkl;have hinj: ∀j,j≠k->j<H.length->σ j≠some b:=fun j hj hl e=>hj (hS.inj j k b hl hkl e hb)
  have hlt: ∀{j:Nat} {C:Blk},H[j]? =some C->j<H.length:=fun h=>(A5.1 h).1
  have ev:Ev σ S H w (upS σ k none) (fun c=>S c∨c=b) (H.set k (.arr (g+1) 1 T0 [])) w':=by
   refine⟨fun c h=> .inl h,fun c h=>hw1 c (hS' c h),fun j g1 cells hj=>?_,fun j g1 sz T1 r1 hj=>?_,fun j g1 l hj=>?_⟩
   ·have hjk:j≠k:=fun e=>by grind
    exact⟨g1,cells,(hget j hjk).trans hj,A4 _,fun _ c hc=>by rw[Qdw hjk];exact hc⟩
   ·by_cases hjk:j=k
    ·grind
    ·exact⟨g1,r1,(hget j hjk).trans hj,A4 _,fun _=>⟨Qdw hjk,rfl,fun c cs T2 hc hcs=>⟨cs,(hw1 c fun e=>hinj j hjk (hlt hj) (e▸hc)).trans hcs,rfl⟩⟩⟩
   ·have hjk:j≠k:=fun e=>by grind
    exact⟨g1,l,(hget j hjk).trans hj,A4 _,fun _ c hc=>by rw[Qdw hjk];exact hc⟩
  have hσ: ∀j c,j<(H.set k (.arr (g+1) 1 T0 [])).length->upS σ k none j=some c->j≠k/\j<H.length/\σ j=some c:=fun j c hj hc=>by
   have hjk:j≠k:=fun e=>by rw[e,Qdk] at hc;cases hc
   rw[Qdw hjk] at hc
   grind
  have sm:Sm B (upS σ k none) (fun c=>S c∨c=b) (H.set k (.arr (g+1) 1 T0 [])) w':=by
   refine⟨q1.trans hS.os,q2.trans hS.tape,q3.trans hS.output,by rw[hsz];exact hS.size,fun c hc ho=>?_,fun c h=> .inl (hS.sLo c h),fun c h=>?_,fun j c hj hc=>?_,fun j j' c hj hj' hc hc'=>?_,fun j C hj=>?_⟩
   ·rw[hw1 c fun e=>by grind];exact hS.keep c hc ho
   ·rw[hsz]
    rcases h with h|h
    ·exact hS.sUp c h
    grind
   ·obtain⟨hjk,hl,hc⟩:=hσ j c hj hc
    obtain⟨r1,r2,r3⟩:=hS.σUp j c hl hc
    grind
   ·obtain⟨_,hl,hc⟩:=hσ j c hj hc
    obtain⟨_,hl',hc'⟩:=hσ j' c hj' hc';exact hS.inj j j' c hl hl' hc hc'
   ·by_cases hjk:j=k
    ·subst hjk
     rw[hgk] at hj;obtain rfl:=A9 hj;exact⟨fun r hr=>(by cases hr),.inr ⟨Qdk _ _ _,rfl⟩⟩
    ·rw[hget j hjk] at hj
     exact(hS.blk j C hj).mono ev (Qdw hjk) fun c hc=>hw1 c fun e=>hinj j hjk (hlt hj) (e▸hc)
  unfold Oper.wp;rw[hrun];refine kk _ w' _ _ sm (.d _ _ ?_) ev;subst hn;refine .sl true 1 rows b 0 cap (fun i j=>(cs'[i*1+j]?).getD undef) (.inr rfl) hlen (fun _=>hcap) (fun i j r d hi hj=>?_) fun i j r d hi hj=>?_
  ·obtain⟨u,hu,_⟩:=hrel i j r d hi hj
   rw[cell_of_row w' b _ cs' T0 _ hw2,AE,hu];rfl
  ·obtain⟨u,hu,hr⟩:=hrel i j r d hi hj
   rw[hu];exact hr.mono (fun c h=> .inl h) fun c h=>hw1 c (hS' c h)
end
abbrev zSt2:List AV:=[.d (.v (.slice none 0 0)),.d (.v (.slice none 0 0)),.d (.v (.slice none 0 0)),.d (.v (.int .i64 0)),.d (.v (.slice none 0 0)),.d (.v (.int .i64 0)),.d (.v (.slice none 0 0)),.d (.v (.bool false))]
abbrev rowX(g:Nat)(w:Pl.Sto):List AV:=[.osl 0 1 0 64,.osl 1 1 0 64,.osl 2 1 0 64,.d (dI w.txg),.osl 3 g 0 w.gone.length,.d (dI 0),.osl 4 1 0 0,.d (dB w.same)]
theorem eNext(g:Nat)(w:Pl.Sto)(N:Nat)(hN:N<=400000)(hw:w.W N):
 DoesE AB 74 [oS g w] (hS g w) (gS g w) (fun x H=>x= .agg [.osl 0 1 0 64,.osl 1 1 0 64,.osl 2 1 0 64,.d (dI w.next.txg),.osl 5 0 0 0,.d (dI 0),.osl 4 1 0 0,.d (dB w.same)]/\
  H=[.arr 1 1 9 (rS w.next.rows),.arr 1 1 3 (rI w.next.refs),.arr 1 1 3 (rI w.next.last),.arr g 5 31 (w.gone.map rPtr),.arr 1 5 31 [],.arr 0 5 31 []]):=by
 have hd:AK (w.next={w.dropL w.gone with gone:=[],txg:=w.txg+1}):=Pm.hid rfl;have hgl:=hw.many;have htx:=hw.txg;generalize w.next=res at*;refine kH fun gvs=>?_
 repeat refine kA ?_
 refine Qs (fun m st=> ∃(i:Nat) (wi:Pl.Sto),i<=w.gone.length/\m=w.gone.length -i/\AK (wi=w.dropL (w.gone.take i))/\AK (wi.W (N+i)/\wi.gone=w.gone/\wi.txg=w.txg/\wi.same=w.same)/\
  st=⟨26,[(3,.d (dI i)),(1,.ptr 5 0 0),(2,.ptr 6 0 0),(1000000,.gh (gS g w) gvs)],hS g wi++[.row 0 (rowX g wi),.row 0 zSt2]⟩) [3,1,2,1000000] 7 w.gone.length
  ⟨0,w,by omega,rfl,Pm.hid rfl,Pm.hid ⟨hw,rfl,rfl,rfl⟩,rfl⟩ (round:=?_)
 rintro m st ⟨i,wi,hi,rfl,hwi,hWi,rfl⟩;obtain⟨hW,y1,y2,y3⟩:=hWi.out;simp only[hS,A7,AG]
 repeat refine kG ?_
 cases q4:decide ((i:Int)<(wi.gone.length:Int))
 ·have hio:i=w.gone.length:=by simp at q4;rw[y1] at q4;omega
  have hw2:=hwi.out;rw[hio,A2 (A4 _)] at hw2;have v0:wi.rows.length=w.rows.length:=by rw[hW.rows,hw.rows]
  have v1:wi.refs.length=w.refs.length:=by rw[hW.refs,hw.refs]
  have v2:wi.last.length=w.last.length:=by rw[hW.last,hw.last]
  have v3:wi.gone.length=w.gone.length:=by rw[y1]
  have hb2:wi.txg<=400000:=by rw[y2];omega
  have hb1:0<=wi.txg:=by rw[y2];omega
  repeat refine kA ?_
  refine QdV [2,1000000] [0,1,2,3,4,7,6] (env':=[(2,.ptr 6 0 0),(1000000,.gh (gS g w) gvs)]) (H':=[.arr 1 1 9 (rS wi.rows),.arr 1 1 3 (rI wi.refs),.arr 1 1 3 (rI wi.last),.arr g 5 31 (wi.gone.map rPtr),.arr 1 5 31 [],.arr 0 5 31 [],.row 0 [.osl 0 1 0 64,.osl 1 1 0 64,.osl 2 1 0 64,.d (dI (wi.txg+1)),.osl 5 0 0 0,.d (dI 0),.osl 4 1 0 0,.d (dB wi.same)]]) (h:=?_);refine Q3 6 (hx:=?_);rw[hd.out];dsimp only;rw[<-hw2,<-y1,<-y2,<-y3];exact⟨rfl,rfl⟩
 have hi2:i<w.gone.length:=by simp at q4;rw[y1] at q4;omega
 obtain⟨x,hx⟩: ∃x,w.gone[i]? =some x:=⟨_,A1 hi2⟩;have hr:=Qu (f:=rPtr) hx;rw[<-y1] at hr;obtain⟨o1,o2⟩:=hw.gone x (AA hx);have hat:=QdP o1 o2;obtain⟨a,ha⟩:=Int.eq_ofNat_of_zero_le hat.1;have cf:=eDrop g wi (N+i) (by omega) hW a (by omega)
 have hst:AK (w.dropL (w.gone.take (i+1))=wi.drop a):=Pm.hid (by
  rw[A6,hx,hwi.out];unfold Pl.Sto.dropL;rw[List.foldl_append]
  simp only[Option.toList,List.foldl_cons,List.foldl_nil,ha,Int.toNat_natCast])
 have hWd:=hW.drop (a:=a) (by omega);have z1:(wi.drop a).gone=wi.gone:=rfl;have z2:(wi.drop a).txg=wi.txg:=rfl;have z3:(wi.drop a).same=wi.same:=rfl;have z4:(wi.drop a).gone.length=wi.gone.length:=rfl;have hgl2:i<wi.gone.length:=by rw[y1];exact hi2
 clear hx hwi hWi;generalize wi.drop a=wd at*;obtain⟨pat,birth,size,sum,level⟩:=x;simp only at ha;subst ha
 repeat' first|refine kS ?_|(show AWP _ (.region 4 _ _) _ _;refine(Fg.awp_drawF (id:=4) [] [7,8] ?_))|refine qD (Qdf Ty.h rfl rfl hr rfl) ?_|refine Qfb [0,1,2,3,4] cf cK (k:=kZ ?_)|refine kU ?_|fail
 all_goals first|refine Qn (w.gone.length -(i+1)) (by omega) ⟨i+1,wd,by omega,rfl,Pm.hid hst.out.symm,Pm.hid ⟨hWd,z1.trans y1,z2.trans y2,z3.trans y3⟩,?_⟩;simp[keepE,go_sem,z1];done

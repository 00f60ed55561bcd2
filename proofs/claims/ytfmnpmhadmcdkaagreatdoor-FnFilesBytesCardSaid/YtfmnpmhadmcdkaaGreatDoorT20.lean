/- Of fby_card; no condition. -/
import Derived.Test.YtfmnpmhadmcdkaaGreatDoorT19
import Derived.Lib.LastIndexByte
set_option linter.all false
set_option maxRecDepth 100000
set_option maxHeartbeats 8000000
open Bool renaming and_eq_true->AA,toNat_false->AU,toNat_true->AX
open Go.Lib renaming lastIndexByte->AT
open Go.Proofs.Tryz renaming prog->A4
open Go.RowKit renaming Hid->AE
open Int renaming toNat_natCast->A9,le_refl->Ac
open List renaming getElem?_eq_getElem->A0,getD_eq_getElem?_getD->A1,mem_of_getElem?->A2,take_of_length_le->A3,mem_map->A5,getElem?_map->A6,take_add_one->A7,take_length->A8,length_map->AB,range->AF,mem_cons_self->AG,length_append->AH,getElem?_append_right->AI,ext_getElem->AJ,length_take->AK,length_tail->AL,all_eq_true->AM,length_cons->AN,mem_append->AP,mem_of_mem_take->AQ,mem_cons_of_mem->AR,length_pos_iff->AS,replicate->AY,map_take->AZ,mem_cons->Aa,map_set->Ab
open Nat renaming zero_add->AO
open Option renaming getD_some->AC
open Option.some renaming inj->AD
open UInt8 renaming toNat_inj->AW
namespace Go.Proofs.YtfmnpmhadmcdkaaGreatDoor
noncomputable section
section
namespace Aw
def QbC(E:Qj->List Qq×Bool)(ns:List Qj):Int->List (List UInt8)->Option Int
 |i,[]=>some i
 |i,n::q=>match(E (ns.getD i.toNat Qd)).1.find? (fun e=>e.1==n) with
  |none=>none
  |some e=>QbC E ns e.2 q
theorem Qi9(E:Qj->List Qq×Bool)(ns:List Qj)(i:Int):QbC E ns i []=some i:=rfl
theorem Qho(E:Qj->List Qq×Bool)(ns:List Qj)(i:Int)(n:List UInt8)(q:List (List UInt8)):QbC E ns i (n::q)=match(E (ns.getD i.toNat Qd)).1.find? (fun e=>e.1==n) with
 |none=>none
 |some e=>QbC E ns e.2 q:=rfl
def QbB(s:Pm.Store)(ns:List Qj):Int->List (List UInt8)->Option Int:=QbC (Qg s) ns
def Quo(out:List QaT)(q:List (List UInt8))(k:Nat):Bool:=out.any fun x=>(x.2==(k:Int))&&q.isPrefixOf x.1
def Quv(s:Pm.Store)(t:Pl.Tree)(q:List (List UInt8))(f:Qj->Int):Int:=
 Quj (fun k=>if Quo (QaI s t).1 q k then f ((Qk s t).getD k Qd) else 0) (Qk s t).length
def Qui(s:Pm.Store)(t:Pl.Tree)(path:List UInt8)(f:Qj->Int):Int×Bool:=
 match QT path with
 |none=>(0,false)
 |some q=>if Qaa s&&Qae s t then(match QbB s (Qk s t) 0 q with|none=>(0,false)|some _=>(Quv s t q f,true)) else(0,false)
def Quf(n:Qj):Int:=if n.kind=1 then n.size else 0
theorem QuG{s:Pm.Store}{ns:List Qj}: ∀{q:List (List UInt8)} {i j:Int},0<=i->QbB s ns i q=some j->0<=j
 |[],i,j,h,hf=>by unfold QbB at hf;grind [Qi9]
 |n::q,i,j,h,hf=>by
  unfold QbB at hf;rw[Qho] at hf;split at hf
  ·cases hf
  ·rename_i e he
   exact QuG (by grind [QiF]) hf
theorem QuX{s:Pm.Store}{ns:List Qj}(hN:QcK ns (Qg s)): ∀{q:List (List UInt8)} {i j:Int},QbB s ns i q=some j->Gr.find (Qs ns) (Qb1 ns (Qg s)) i.toNat q=some j.toNat
 |[],i,j,hf=>by unfold QbB at hf;rw[Qi9] at hf;obtain rfl:=AD hf;rfl
 |n::q,i,j,hf=>by
  unfold QbB at hf;rw[Qho] at hf;split at hf
  ·cases hf
  ·rename_i e he
   have hE:(Qg s (ns.getD i.toNat Qd)).2=true:=by
    grind [QdG]
   have hk:=QiD hE;unfold Gr.find;rw[if_pos (by unfold Qs;omega)];have h1:Qb1 ns (Qg s) i.toNat=some ((Qg s (ns.getD i.toNat Qd)).1.map fun e=>(e.1,e.2.toNat)):=by unfold Qb1;grind
   rw[h1,AC,List.find?_map];have h2:((fun e:List UInt8×Nat=>e.1==n) ∘ fun e:Qq=>(e.1,e.2.toNat))=fun e:Qq=>e.1==n:=rfl
   rw[h2,he];exact QuX hN hf
theorem Qwc(s:Pm.Store)(ns:List Qj): ∀k es,Qb1 ns (Qg s) k=some es->(es.map (·.1)).Nodup:=by
 intro k es h;unfold Qb1 at h;split at h
 ·rename_i hE
  obtain rfl:=AD h;rcases QdG s (ns.getD k Qd) with h|h
  ·rw[List.map_map];exact Qwa h.2
  grind
 ·cases h
theorem QuM{s:Pm.Store}{t:Pl.Tree}{q:List (List UInt8)}{j:Int}(hF:QcS s t)(hj:QbB s (Qk s t) 0 q=some j):
 ∃M,Gr.FD (Qs (Qk s t)) (Gr.chOf (Qb1 (Qk s t) (Qg s))) [j.toNat] M/\
  ∀f:Qj->Int,Quv s t q f=Quj (fun k=>if k∈M then f ((Qk s t).getD k Qd) else 0) (Qk s t).length:=by
 have hOk:=(QeI s t).2 hF;unfold Qae at hOk;simp only[AA,beq_iff_eq] at hOk;obtain⟨L,g1,g2,g3⟩:=QgM s hF.root hOk.1.2;obtain⟨M,hM,hi⟩:=Gr.QvE (p:=[]) (Qwc s _) g1 (QuX (nsOk s t) hj)
 grind [Quv,Quo,Qbo,List.any_map]
end Aw
end
section
open Go.RowKit
namespace Aw
variable{N:Nat}{name:List UInt8}{t:Pl.Tree}
attribute [local irreducible] ASeq ADraw AWP Loc AStep Fg.PlanF Fg.Flts
abbrev tFnds(l:List QaT):D:= .sl true 2 (l.map rFnd)
def QbU(s:Pm.Store)(t:Pl.Tree):List QaT×Bool:=if Qae s t then((QaI s t).1,true) else([],false)
def QbS(out:List QaT)(N:Nat):List Int:=(AF N).map fun k=>((Pl.many out k:Nat):Int)
def cnt_nil(N:Nat):QbS [] N=AY N 0:=by
 refine AJ (by simp[QbS]) fun i hi hi'=>by simp[QbS,Pl.many]
theorem Qr8(out:List QaT){k:Nat}(h:k<N):(QbS out N)[k]? =some ((Pl.many out k:Nat):Int):=by grind [QbS]
theorem Qtw(out:List QaT)(x:QaT)(h0:0<=x.2)(_h:x.2<N):QbS (out++[x]) N=(QbS out N).set x.2.toNat (((Pl.many out x.2.toNat:Nat):Int)+1):=by
 refine AJ (by simp[QbS]) fun i hi hi'=>?_
 grind [QbS,Pl.many]
theorem many_le(out:List QaT)(k:Nat):Pl.many out k<=out.length:=by grind [Pl.many,List.count_le_length]
theorem al15All(s:Pm.Store)(hg:QP s)(t:Pl.Tree):Pure A4 75 [dSt s,dTree t] (.tup [tFnds (QbU s t).1,dB (QbU s t).2]):=by
 have hd:=Pm.hid (QbU.eq_def s t);have hf:AE (Qae s t=(Qat s t&&((Qk s t).getD 0 Qd).kind==2&&(QaI s t).2&&(AF (Qk s t).length).all (Qa0 s (Qk s t) (QaI s t).1))):=Pm.hid rfl;have c0:=al11Ok s hg t;cases h0:Qat s t
 ·rw[h0] at c0
  have hx:AE (QbU s t=([],false)):=Pm.hid (by rw[hd.out,hf.out,h0];rfl);refine kE ?_;refine Qa 0 (h:=?_);refine Qa 1 (h:=?_)
  repeat refine kA ?_
  (refine Qa 2 (h:=?_);refine Qb (hx:=?_))
  rw[hx.out];rfl
 rw[h0] at c0 hf;have ht:Qx t:=Qdo (by unfold Qat at h0;rw[AA] at h0;exact h0.1);have c1:=QlW s hg t ht;have hnl:(Qk s t).length<=16:=by unfold Qk;rw[AB,texts_len s ht];have:=ht.manyHi;omega
 have hids:AE (((Qk s t).getD 0 Qd).kind=2->(QaI s t).2=true->(QaI s t).1.length<=144/\ ∀x∈(QaI s t).1,0<=x.2/\x.2<(Qk s t).length):=Pm.hid fun h1 h2=>by
  obtain⟨L,g1,g2,g3⟩:=QgM s h1 h2;rw[g3];refine⟨by simpa using g2,fun x hx=>?_⟩;obtain⟨y,hy,rfl⟩:=A5.1 hx;have:=g1.fd.kinds y.2 (A5.2 ⟨y,hy,rfl⟩);have hk:y.2<(Qk s t).length:=QdO (by rcases this with h|⟨h,_⟩<;>rw[h]<;>decide);simp only[Qbo];omega
 have W:=QtC s hg (Qk s t) hnl 145 [] 0 [] 0 (by simp) (by simp) (by simp) (by intro x hx;cases hx);have hfd:AE (QaI s t=Qbl (Qk s t) (Qg s) 145 ([],0) []):=Pm.hid rfl;rw[<-hfd.out] at W;rw[show QC []=[47] from rfl] at W
 have hB: ∀n∈Qk s t,n=Qd∨NodeB n:=fun n hn=>by
  unfold Qk at hn;obtain⟨x,_,rfl⟩:=A5.1 hn;rcases Qio x with h|h
  ·exact .inr h
  ·exact .inl h
 have hB:=Pm.hid hB;have c13:=Pm.hid fun n=>al13Ok s hg n
 have hnf:AE (∀out k nd,(Qk s t)[k]? =some nd->Qa0 s (Qk s t) out k=((nd.kind==0||((Pl.many out k:Int)==nd.links))&&(!(nd.kind==1)||QO s nd))):=Pm.hid fun out k nd h=>by
  unfold Qa0;rw[A1,h];rfl
 clear h0 ht hfd;generalize QaI s t=fo at*;generalize Qk s t=ns at*;obtain⟨out,ok⟩:=fo;simp only[List.map_nil,List.length_nil,Nat.sub_zero,AO] at W;simp only at hd hf hids;have hnm:(ns.map rNode).length=ns.length:=AB ..
 by_cases h2:(ns.getD 0 Qd).kind=2
 rotate_left
 ·have hx:AE (QbU s t=([],false)):=Pm.hid (by
   rw[hd.out,hf.out];have:((ns.getD 0 Qd).kind==2)=false:=by simpa using h2
   rw[this];rfl)
  cases ns with
  |nil=>
   refine kE ?_;refine Qa 0 (h:=?_);refine Qa 1 (h:=?_)
   repeat refine kA ?_
   (refine Qa 2 (h:=?_);refine Qb (hx:=?_))
   rw[hx.out];rfl
  |cons n0 ns=>
   have hr:((n0::ns).map rNode)[((0:Nat):Int).toNat]? =some (rNode n0):=rfl;have h2: ¬n0.kind=2:=h2;refine kE ?_;refine Qa 0 (h:=?_);refine Qa 1 (h:=?_)
   repeat' first|refine kS ?_|refine qS (iy hr) ?_|refine kU ?_|refine kV ?_ ?_<;>intro q|fail
   all_goals first|exfalso;simp at q;omega|((refine Qa 2 (h:=?_);refine Qb (hx:=?_));rw[hx.out];rfl)
 have hlen0:0<ns.length:=by
  cases ns with
  |nil=>exact absurd h2 (by decide)
  |cons n0 ns=>simp
 obtain⟨n0,hn0⟩: ∃n0,ns[0]? =some n0:=⟨_,A0 hlen0⟩;have hk0:n0.kind=2:=by rw[A1,hn0] at h2;exact h2
 have hr0:(ns.map rNode)[(0:Int).toNat]? =some (rNode n0):=by show(ns.map rNode)[0]? =_;rw[A6,hn0];rfl
 have h2b:((ns.getD 0 Qd).kind==2)=true:=by simpa using h2
 cases ok
 ·have hx:AE (QbU s t=([],false)):=Pm.hid (by rw[hd.out,hf.out,h2b];rfl)
  clear hB hnf hids hf hd;refine kE ?_;refine Qa 0 (h:=?_);refine Qa 1 (h:=?_)
  repeat' first|refine kS ?_|refine qS (iy hr0) ?_|refine(QkC [2] W cK (k:=?_))|refine kU ?_|refine kV ?_ ?_<;>intro q|fail
  all_goals first|exfalso;simp at q;omega|exfalso;simp only[beq_iff_eq] at q;omega|((refine Qa 3 (h:=?_);refine Qb (hx:=?_));rw[hx.out];rfl)
 obtain⟨hol,hid⟩:=hids.out h2 rfl;have hf2:AE (Qae s t=(AF ns.length).all (Qa0 s ns out)):=Pm.hid (by rw[hf.out,h2b];rfl);clear hids hf;have hid:=Pm.hid hid;refine kE ?_;refine Qa 0 (h:=?_);refine Qa 1 (h:=?_)
 repeat' first|refine kS ?_|refine qS (iy hr0) ?_|refine(QkC [2] W cK (k:=?_))|refine stepS2 (QhO Ty.h rfl Ty.h rfl rfl rfl (by simp;omega) (by omega)) (k:=?_)|refine kU ?_|refine kV ?_ ?_<;>intro q|fail
 all_goals first|exfalso;simp only[beq_iff_eq] at q;omega|exfalso;simp at q;omega|skip
 refine Qa 2 (h:=?_)
 refine Qo (fun m st=> ∃j:Nat,j<=out.length/\m=out.length -j/\st=⟨110,[(10,.d (dI j)),(9,.osl 3 0 0 ns.length),(7,.d (tFnds out)),(6,.d (.sl true 10 (ns.map rNode))),(2,.d (.pd (rSt s)))],
  [.row 1 [],.row 1 [],.arr (out.length+1) 2 43 [],.arr 0 1 3 ((QbS (out.take j) ns.length).map fun n=>[dI n])]⟩) [10,9,7,6,2] 4 out.length ⟨0,by omega,rfl,?_⟩ (round:=?_)
 ·simp[keepE,go_sem,cnt_nil,A3]
 rintro m st ⟨j,hj,rfl,rfl⟩
 repeat refine kG ?_
 cases q3:decide ((j:Int)<(out.length:Int));rotate_left
 ·have hj2:j<out.length:=by simp at q3;omega
  obtain⟨x,hx⟩: ∃x,out[j]? =some x:=⟨_,A0 hj2⟩;have hr:=Qt (f:=rFnd) hx;have hxi:=hid.out x (A2 hx)
  have hrm:((QbS (out.take j) ns.length).map fun n=>[dI n])[0+x.2.toNat]? =some [dI ((Pl.many (out.take j) x.2.toNat:Nat):Int)]:=by
   rw[AO,A6,Qr8 _ (by omega)];rfl
  have hml:=many_le (out.take j) x.2.toNat;rw[AK] at hml
  have T:AE (QbS (out.take (j+1)) ns.length=(QbS (out.take j) ns.length).set x.2.toNat (((Pl.many (out.take j) x.2.toNat:Nat):Int)+1)):=Pm.hid (by
   rw[A7,hx];exact Qtw _ x hxi.1 hxi.2)
  clear hx hf2 hd hB hnf c0 c1 W;generalize Pl.many (out.take j) x.2.toNat=c at*;generalize QbS (out.take j) ns.length=cl at*;obtain⟨xp,xi⟩:=x;simp only at hxi hrm T hr
  repeat' first|refine kS ?_|(show AWP _ (.region 13 _ _) _ _;refine(Fg.awp_drawF (id:=13) [] [16] ?_))|refine qD (iy hr) ?_|refine qD (Qdn Ty.h rfl Ty.h rfl rfl rfl rfl hxi.1 hxi.2) ?_|refine qD (QcY Ty.h rfl rfl hrm rfl) ?_|refine QiT Ty.h rfl rfl hrm rfl (kk:=?_)|refine kU ?_|fail
  refine Qh (out.length -(j+1)) (by omega) ⟨j+1,by omega,rfl,?_⟩;simp[keepE,go_sem,T.out,Ab]
 have hj2:j=out.length:=by simp at q3;omega
 subst hj2;rw[A8]
 repeat refine kA ?_
 refine Qo (fun m st=> ∃k:Nat,k<=ns.length/\m=16 -k/\AE ((AF k).all (Qa0 s ns out)=true)/\st=⟨110,[(11,.d (dI k)),(9,.osl 3 0 0 ns.length),(7,.d (tFnds out)),(6,.d (.sl true 10 (ns.map rNode))),(2,.d (.pd (rSt s)))],
  [.row 1 [],.row 1 [],.arr (out.length+1) 2 43 [],.arr 0 1 3 ((QbS out ns.length).map fun n=>[dI n])]⟩) [11,9,7,6,2] 4 16 ⟨0,by omega,rfl,Pm.hid rfl,rfl⟩ (round:=?_)
 rintro m st ⟨k,hk,rfl,hA,rfl⟩
 repeat refine kG ?_
 cases q4:decide ((k:Int)<(ns.length:Int))
 ·repeat refine kA ?_
  refine Qb (hx:=?_);have:k=ns.length:=by simp at q4;omega
  have h:=hA.out;rw[this] at h;rw[hd.out,hf2.out,h];rfl
 have hk2:k<ns.length:=by simp at q4;omega
 obtain⟨nd,hnd⟩: ∃nd,ns[k]? =some nd:=⟨_,A0 hk2⟩;have hr:=Qt (f:=rNode) hnd
 have hrm:((QbS out ns.length).map fun n=>[dI n])[0+(k:Int).toNat]? =some [dI ((Pl.many out k:Nat):Int)]:=by
  rw[AO,A9,A6,Qr8 _ hk2];rfl
 have he:=hnf.out out k nd hnd;have T:AE (Qa0 s ns out k=true->(AF (k+1)).all (Qa0 s ns out)=true):=fun h=>Pl.Qdd (p:=Qa0 s ns out) hA.out h
 have F:AE (Qa0 s ns out k=false->QbU s t=([],false)):=fun h=>by
  rw[hd.out,hf2.out,Pl.Qda (p:=Qa0 s ns out) hk2 h];rfl
 rw[he] at T F;have c4:=c13.out nd;clear hnd hA hd hf2 he hnf hB W c0 c1 c13;generalize Pl.many out k=c at*;generalize QO s nd=fok at*;obtain⟨kind,links,size,⟨⟨p1,p2,p3,p4,p5⟩,depth,many⟩⟩:=nd;simp only at T F;have hki:(0:Int)<=k/\(k:Int)<ns.length:=by omega
 repeat' first|refine kS ?_|refine qD (iy hr) ?_|refine qD (Qdn Ty.h rfl Ty.h rfl rfl rfl rfl hki.1 hki.2) ?_|refine qD (QcY Ty.h rfl rfl hrm rfl) ?_|refine kU ?_|refine kV ?_ ?_<;>intro q|fail
 all_goals clear c4 hr hrm
 all_goals first
  |(refine Qh (16 -(k+1)) (by omega) ⟨k+1,by omega,rfl,Pm.hid (T.out ?_),rfl⟩;clear T F;simp_all;done)
  |(refine Qa 4 (h:=?_)
    refine Qb (hx:=?_);have hz:=F.out (by clear T F;simp_all)
    rw[hz];rfl)
def Qa2(l:List Qq)(name:List UInt8):Int:=match l.findIdx? (fun e=>e.1==name) with
 |some i=>(i:Int)
 |none=> -1
theorem QlT{l:List Qq}(h:l.find? (fun e=>e.1==name)=none):Qa2 l name= -1:=by grind [Qa2]
theorem QlS{l:List Qq}{e:Qq}(h:l.find? (fun e=>e.1==name)=some e): ∃i:Nat,Qa2 l name=i/\l[i]? =some e:=by
 obtain⟨h1,l1,bs,rfl,h2⟩:=List.find?_eq_some_iff_append.1 h;refine⟨l1.length,?_,by simp⟩
 grind [Qa2]
theorem al12At(l:List Qq)(name:List UInt8)(hl:l.length<=1000):Pure A4 127 [dEnts l,dS name] (dI (Qa2 l name)):=by
 refine kB ?_
 repeat refine kA ?_
 refine Qo (fun m st=> ∃k:Nat,k<=l.length/\m=l.length -k/\AE (∀x∈l.take k,(x.1==name)=false)/\st=⟨20,[(5,.d (dI k)),(0,.d (dEnts l)),(1,.d (dS name))],[]⟩) [5,0,1] 0 l.length ⟨0,by omega,rfl,Pm.hid (by simp),rfl⟩ (round:=?_);rintro m st ⟨k,hk,rfl,hA,rfl⟩
 repeat refine kG ?_
 cases q3:decide ((k:Int)<(l.length:Int))
 ·repeat refine kA ?_
  refine Qb (hx:=?_);have:k=l.length:=by simp at q3;omega
  have h:=hA.out;rw[this,A8] at h;rw[QlT (by rw[List.find?_eq_none];intro x hx;rw[h x hx];simp)]
 have hk2:k<l.length:=by simp at q3;omega
 obtain⟨x,hx⟩: ∃x,l[k]? =some x:=⟨_,A0 hk2⟩;have hr:=Qt (f:=rEnt) hx
 have T:AE ((x.1==name)=false-> ∀y∈l.take (k+1),(y.1==name)=false):=Pm.hid fun h y hy=>by
  rw[A7,hx] at hy;rcases AP.1 hy with hy|hy
  ·exact hA.out y hy
  ·simp at hy;subst hy;exact h
 have F:AE ((x.1==name)=true->Qa2 l name=k):=Pm.hid fun h=>by
  have:l.findIdx? (fun e=>e.1==name)=some k:=by
   rw[List.findIdx?_eq_some_iff_getElem];refine⟨hk2,?_,fun j hj=>?_⟩
   ·rw[(List.getElem?_eq_some_iff.1 hx).2];exact h
   ·have:=hA.out l[j] (List.mem_iff_getElem?.2 ⟨j,by rw[List.getElem?_take,if_pos hj];exact A0 (by omega)⟩)
    rw[this];simp
  unfold Qa2;rw[this]
 clear hx hA
 repeat' first|refine kS ?_|refine qS (iy hr) ?_|refine kU ?_|refine kV ?_ ?_<;>intro q|fail
 all_goals first|exact Qh (l.length -(k+1)) (by omega) ⟨k+1,by omega,rfl,Pm.hid (T.out (by assumption)),rfl⟩|refine Qb (hx:=?_);rw[F.out (by assumption)]
def Qaf(s:Pm.Store)(t:Pl.Tree)(q:List (List UInt8)):Int:=(QbB s (Qk s t) 0 q).getD (-1)
theorem Qom(s:Pm.Store)(hg:QP s)(t:Pl.Tree)(ht:Qx t)(q:List (List UInt8))(hq:q.length<=1000):Pure A4 74 [dSt s,dTree t,dStrs q] (dI (Qaf s t q)):=by
 have hd:AE (Qaf s t q=(QbB s (Qk s t) 0 q).getD (-1)):=Pm.hid rfl;have c1:=Pm.hid fun k=>al11Get s hg t ht k
 have hnn:=Pm.hid fun k=>Qh6 s ht k
 have c2:=Pm.hid fun n=>Qjb s hg n
 generalize Qk s t=ns at*;refine kE ?_;refine Qa 0 (h:=?_);refine Qa 1 (h:=?_)
 repeat refine kA ?_
 refine Qo (fun m st=> ∃(k i:Nat),k<=q.length/\m=q.length -k/\AE (QbB s ns 0 q=QbB s ns i (q.drop k))/\st=⟨51,[(7,.d (dI i)),(8,.d (dI k)),(2,.d (dStrs q)),(3,.d (.pd (rSt s))),(4,.d (.pd (rTree t)))],[.row 1 [],.row 1 []]⟩) [7,8,2,3,4] 2 q.length ⟨0,0,by omega,rfl,Pm.hid rfl,rfl⟩ (round:=?_);rintro m st ⟨k,i,hk,rfl,hF,rfl⟩
 repeat refine kG ?_
 cases q3:decide ((k:Int)<(q.length:Int))
 ·repeat refine kA ?_
  refine Qb (hx:=?_);have:k=q.length:=by simp at q3;omega
  have h:=hF.out;rw[this,List.drop_length] at h;rw[hd.out,h];rfl
 have hk2:k<q.length:=by simp at q3;omega
 obtain⟨x,hx⟩: ∃x,q[k]? =some x:=⟨_,A0 hk2⟩;have hr:=Qt (f:=fun s=>[dS s]) hx
 have hF2:AE (QbB s ns 0 q=match(Qg s (ns.getD i Qd)).1.find? (fun e=>e.1==x) with|none=>none|some e=>QbB s ns e.2 (q.drop (k+1))):=Pm.hid (by
  rw[hF.out,QgR hx];exact Qho (Qg s) ns i x _)
 have c1k:=c1.out i;have hn:=hnn.out i;have hel:=Qe0 s (ns.getD i Qd);have heb:=QiF s (ns.getD i Qd);have hec:=QdG s (ns.getD i Qd);have c2k:=c2.out (ns.getD i Qd);rw[<-hn] at c2k hel heb hec hF2;clear hx hF hn c1 c2 hnn;generalize Q5 s t i=na at*;obtain⟨⟨kind,links,size,⟨⟨p1,p2,p3,p4,p5⟩,depth,many⟩⟩,nok⟩:=na;simp only at c2k hel heb hec hF2;generalize Qg s ⟨kind,links,size,⟨⟨p1,p2,p3,p4,p5⟩,depth,many⟩⟩=ee at*;obtain⟨es,ok⟩:=ee;simp only at hel heb hec hF2;have c3:=(al12At es x (by omega)).arg (l:=[tEnts es,dS x]);cases hf:es.find? (fun e=>e.1==x) with
 |none=>
  rw[QlT hf] at c3;have hx:AE (Qaf s t q= -1):=Pm.hid (by rw[hd.out,hF2.out,hf];rfl);clear hF2 hd hec heb hf
  repeat' first|refine kS ?_|refine qS (iy hr) ?_|refine kU ?_|refine kV ?_ ?_<;>intro q|fail
  all_goals first|exfalso;simp at*;done|refine Qb (hx:=?_);rw[hx.out]
 |some e=>
  obtain⟨j,hj,hje⟩:=QlS hf;rw[hj] at c3
  have hok:ok=true:=by
   rcases hec with h|h
   ·exact h.1
   ·obtain⟨rfl,rfl⟩:=Prod.mk.inj h;cases hf
  subst hok;have hre:=Qt (f:=rEnt) hje;have heb2:=heb e (A2 hje);have hT:AE (QbB s ns 0 q=QbB s ns (e.2.toNat:Nat) (q.drop (k+1))):=Pm.hid (by rw[hF2.out,hf];simp only;rw[show((e.2.toNat:Nat):Int)=e.2 by omega]);clear hF2 hd hec heb hf hj hje;obtain⟨nm,id⟩:=e;obtain⟨id,rfl⟩:=Int.eq_ofNat_of_zero_le (show 0<=id by have:=heb2.2.1;omega);simp only[A9] at hT
  repeat' first|refine kS ?_|refine qS (iy hr) ?_|refine qS (iy hre) ?_|refine kU ?_|fail
  all_goals first|exact Qh (q.length -(k+1)) (by omega) ⟨k+1,id,by omega,rfl,Pm.hid hT.out,rfl⟩|exfalso;simp only[decide_eq_true_eq] at*;omega
def Qy(s:List UInt8):List (List UInt8):=if s=[47] then [] else(Pl.cutB 47 s).tail
theorem QpF(l:List (List UInt8)):(l.map fun s=>[dS s]).drop 1=l.tail.map fun s=>[dS s]:=by simp_all
def QfR(s:List UInt8)(hs:s.length<=1000000000000):Pure A4 123 [dS s] (tStrs (Qy s)):=by
 have c:=al2Cut s 47 hs;have hd:AE (Qy s=if s=[47] then [] else(Pl.cutB 47 s).tail):=Pm.hid rfl;have hne:=AS.2 (Pl.Qhu 47 s);have ht:=Pm.hid (QpF (Pl.cutB 47 s));generalize Pl.cutB 47 s=l at*;refine kB ?_
 repeat' first|refine kS ?_|refine qS (Qdm (m:=[47]) rfl rfl) ?_|refine qS (QgF rfl rfl rfl (by omega) (by simp;omega)) ?_|refine kU ?_|refine kV ?_ ?_<;>intro q|fail
 ·(refine Qa 0 (h:=?_);refine Qb (hx:=?_))
  rw[hd.out,if_pos (by simpa using q)];rfl
 ·refine Qb (hx:=?_)
  rw[hd.out,if_neg (by simpa using q)];have h:=ht.out
  first|rw[<-h];rfl|simp[<-h]
theorem aPathOk(s:List UInt8)(hs:s.length<=1000000000000):Pure A4 122 [dS s] (dB (QT s).isSome):=by
 have c:=QfR s hs;have hd:AE (QT s=if s=[47] then some [] else if s.head? =some 47/\(Pl.cutB 47 s).tail.all QF=true/\(Pl.cutB 47 s).tail.length<=4 then some (Pl.cutB 47 s).tail else none):=Pm.hid rfl
 by_cases h1:s=[47]
 ·subst h1
  refine kB ?_
  repeat' first|refine kS ?_|refine qS (Qdm (m:=[47]) rfl rfl) ?_|refine kU ?_|fail
  all_goals first|exfalso;simp at q;done|refine Qb (hx:=?_);rw[hd.out,if_pos rfl];rfl|skip
 have hd2:AE (QT s=if s.head? =some 47/\(Pl.cutB 47 s).tail.all QF=true/\(Pl.cutB 47 s).tail.length<=4 then some (Pl.cutB 47 s).tail else none):=Pm.hid (by rw[hd.out,if_neg h1]);have hn:Qy s=(Pl.cutB 47 s).tail:=if_neg h1;rw[hn] at c;have hcl:=(Qe2 47 s);have hl:(Pl.cutB 47 s).tail.length<=s.length+1/\ ∀x∈(Pl.cutB 47 s).tail,x.length<=s.length:=⟨by rw[AL];omega,fun x hx=>hcl.2 x (List.mem_of_mem_tail hx)⟩;clear hd hn hcl;generalize (Pl.cutB 47 s).tail=l at*;cases s with
 |nil=>
  refine kB ?_
  repeat' first|refine kS ?_|refine qS (Qdm (m:=[47]) rfl rfl) ?_|refine kU ?_|fail
  all_goals first|exfalso;simp at q;done|refine Qb (hx:=?_);rw[hd2.out,if_neg (by simp)];rfl|skip
 |cons c0 s=>
  have hne:((c0::s)==[47])=false:=by simpa using h1
  have hc0:(c0::s)[(0:Int).toNat]? =some c0:=rfl;have h47:((c0.toNat:Nat):Int)=47↔c0=47:=⟨fun h=>AW.1 (by have:((47:UInt8).toNat:Int)=47:=rfl;omega),fun h=>by rw[h];rfl⟩
  by_cases h2:c0=47
  rotate_left
  ·have hx:AE (QT (c0::s)=none):=Pm.hid (by rw[hd2.out,if_neg (by simp[h2])])
   refine kB ?_
   repeat' first|refine kS ?_|refine qS (Qdm (m:=[47]) rfl rfl) ?_|refine qS (QdX Ty.h rfl rfl rfl (by omega) hc0) ?_|refine kU ?_|refine kV ?_ ?_<;>intro q|fail
   all_goals first|refine Qb (hx:=?_);rw[hx.out];rfl|exfalso;rw[hne] at q;exact absurd q (by decide)|exfalso;simp only[bne_eq_false_iff_eq] at*;exact h2 (h47.1 (by assumption))|skip
  subst h2;have hd3:AE (QT (47::s)=if l.all QF=true/\l.length<=4 then some l else none):=Pm.hid (by rw[hd2.out];simp);clear hd2 h47;refine kB ?_
  repeat' first|refine kS ?_|refine qS (Qdm (m:=[47]) rfl rfl) ?_|refine qS (QdX Ty.h rfl rfl rfl (by omega) hc0) ?_|refine kU ?_|refine kV ?_ ?_<;>intro q|fail
  all_goals first|exfalso;rw[hne] at q;exact absurd q (by decide)|exfalso;exact absurd q (by decide)|exfalso;simp at q;done|skip
  refine Qo (fun m st=> ∃k:Nat,k<=l.length/\m=l.length -k/\AE ((l.take k).all QF=true)/\st=⟨31,[(3,.d (tStrs l)),(4,.d (dI k))],[]⟩) [3,4] 0 l.length ⟨0,by omega,rfl,Pm.hid rfl,rfl⟩ (round:=?_);rintro m st ⟨k,hk,rfl,hA,rfl⟩
  repeat refine kG ?_
  cases q3:decide ((k:Int)<(l.length:Int))
  ·repeat refine kA ?_
   refine Qb (hx:=?_);have:k=l.length:=by simp at q3;omega
   have h:=hA.out;rw[this,A8] at h;rw[hd3.out,h];refine congrArg dB ?_
   by_cases h4:l.length<=4
   ·rw[if_pos ⟨rfl,h4⟩];simp;omega
   ·rw[if_neg (fun x=>h4 x.2)];simp;omega
  have hk2:k<l.length:=by simp at q3;omega
  obtain⟨x,hx⟩: ∃x,l[k]? =some x:=⟨_,A0 hk2⟩;have hr:=Qt (f:=fun s=>[dS s]) hx;have c2:=aNameOk x (by have:=hl.2 x (A2 hx);unfold Pm.big;omega);have T:AE (QF x=true->(l.take (k+1)).all QF=true):=Pm.hid fun h=>by rw[A7,hx,List.all_append,hA.out];simpa using h
  have F:AE (QF x=false->QT (47::s)=none):=Pm.hid fun h=>by
   rw[hd3.out,if_neg];rintro⟨h1,_⟩;have:=AM.1 h1 x (A2 hx);rw[h] at this;cases this
  clear hx hA hd3;generalize QF x=ok at*
  repeat' first|refine kS ?_|refine qS (iy hr) ?_|refine kU ?_|refine kV ?_ ?_<;>intro q|fail
  all_goals first|exact Qh (l.length -(k+1)) (by omega) ⟨k+1,by omega,rfl,Pm.hid (T.out (by simpa using q)),rfl⟩|refine Qb (hx:=?_);rw[F.out (by simpa using q)];rfl
theorem QjP(s:List UInt8)(hs:s.length<=1000000000000):Pure A4 72 [dS s] (.tup [tStrs ((QT s).getD []),dB (QT s).isSome]):=by
 have c1:=aPathOk s hs;have c2:=QfR s hs
 have hn:AE ((QT s).isSome=true->Qy s=(QT s).getD []):=Pm.hid fun h=>by
  unfold QT Qy at*;split
  ·rfl
  ·rename_i h1
   rw[if_neg h1] at h;split
   ·rfl
   ·rename_i h2;rw[if_neg h2] at h;cases h
 have hcl:=(Qe2 47 s)
 have hl:(Qy s).length<=s.length+1:=by
  unfold Qy;split
  ·simp
  ·rw[AL];omega
 have h0:AE ((QT s).isSome=false->(QT s).getD []=[]):=Pm.hid fun h=>by cases hx:QT s with|none=>rfl|some x=>rw[hx] at h;cases h
 generalize (QT s).getD []=r at*;generalize (QT s).isSome=ok at*;generalize Qy s=l at*;refine kB ?_
 repeat' first|refine kS ?_|refine Qet Ty.h rfl Ty.h (hb:=?_) (hcell:=?_) (kk:=?_)|refine kU ?_|refine kV ?_ ?_<;>intro q|fail
 ·(refine Qa 0 (h:=?_);refine Qb (hx:=?_))
  have h1:ok=false:=by simpa using q
  rw[h0.out h1,h1];rfl
 ·intro r hr d hd
  obtain⟨x,_,rfl⟩:=A5.1 hr;simp at hd;subst hd;rfl
 ·simp;omega
 ·(refine Qa 0 (h:=?_);refine Qb (hx:=?_))
  have h1:ok=true:=by simpa using q
  rw[<-hn.out h1,h1];simp[A3]
def Qc9(l:List (List UInt8)):List UInt8:=if l.flatMap (fun x=>47::x)=[] then [47] else l.flatMap (fun x=>47::x)
def al14Of(l:List (List UInt8))(hl:l.length<=1000)(hx: ∀x∈l,x.length<=1000000000000):Pure A4 283 [tStrs l] (dS (Qc9 l)):=by
 refine kE ?_
 repeat refine kA ?_
 refine Qo (fun m st=> ∃(k:Nat) (out:List UInt8),k<=l.length/\m=l.length -k/\out.length<=k*1000000000001/\AE (out=(l.take k).flatMap (fun x=>47::x))/\st=⟨21,[(4,.d (dI k)),(3,.d (dS out)),(0,.d (tStrs l))],[]⟩) [4,3,0] 0 l.length ⟨0,[],by omega,rfl,by simp,Pm.hid rfl,rfl⟩ (round:=?_);rintro m st ⟨k,out,hk,rfl,hlen,hO,rfl⟩
 repeat refine kG ?_
 cases q3:decide ((k:Int)<(l.length:Int))
 ·have hkl:k=l.length:=by simp at q3;omega
  rw[hkl,A8] at hO;have hd:AE (Qc9 l=if out=[] then [47] else out):=Pm.hid (by unfold Qc9;rw[<-hO.out]);clear hO
  repeat' first|refine kA ?_|refine kV ?_ ?_<;>intro q|fail
  all_goals first|exact Qb (hx:=by rw[hd.out,if_pos (by simpa using q)])|exact Qb (hx:=by rw[hd.out,if_neg (by simpa using q)])
 have hk2:k<l.length:=by simp at q3;omega
 obtain⟨x,hx1⟩: ∃x,l[k]? =some x:=⟨_,A0 hk2⟩;have hr:=Qt (f:=fun s=>[dS s]) hx1;have hxl:=hx x (A2 hx1);have T:AE ((l.take (k+1)).flatMap (fun x=>(47:UInt8)::x)=out++[47]++x):=Pm.hid (by rw[A7,hx1,hO.out];simp);clear hx1 hO
 repeat' first|refine kS ?_|refine qS (iy hr) ?_|refine qS (QcX (m:=[47]) rfl rfl (by simp;omega)) ?_|refine qS (QcX rfl rfl (by simp;omega)) ?_|refine kU ?_|fail
 all_goals first|refine Qh (l.length -(k+1)) (by omega) ⟨k+1,out++[47]++x,by omega,rfl,by simp;omega,Pm.hid T.out.symm,?_⟩;simp[keepE,go_sem];done
def Qhe(s:List UInt8)(hs:s.length<=1000000000000)(hn:Qy s≠[]):Pure A4 221 [dS s] (dS ((Qy s).getD ((Qy s).length -1) [])):=by
 have c1:=QfR s hs
 have hnl:(Qy s).length<=s.length+1:=by
  unfold Qy;split
  ·simp
  ·have:=(Qe2 47 s).1
   rw[AL];omega
 generalize Qy s=l at*;have hl:=AS.2 hn;obtain⟨x,hx1⟩: ∃x,l[l.length -1]? =some x:=⟨_,A0 (by omega)⟩;have hr:=Qt (f:=fun s=>[dS s]) hx1;rw[show((l.length -1:Nat):Int)=(l.length:Int) -1 by omega] at hr;have hd:AE (l.getD (l.length -1) []=x):=Pm.hid (by rw[A1,hx1];rfl);rw[hd.out];clear hx1 hd;refine kE ?_
 repeat' first|refine kS ?_|refine qS (iy hr) ?_|refine kU ?_|fail
 all_goals first|exact Qb (hx:=rfl)
def Qcw(s top:List UInt8):Bool:=
 if !(QT s).isSome|| !(QT top).isSome||decide (((QT s).getD []).length<((QT top).getD []).length) then false
 else Qc9 (((QT s).getD []).take ((QT top).getD []).length)==Qc9 ((QT top).getD [])
theorem Qpv(s top:List UInt8)(hs:s.length<=1000000000)(ht:top.length<=1000000000)(h1: ∀l,QT s=some l->l.length<=4/\ ∀x∈l,x.length<=4)(h2: ∀l,QT top=some l->l.length<=4/\ ∀x∈l,x.length<=4):Pure A4 227 [dS s,dS top] (dB (Qcw s top)):=by
 have c1:=QjP s (by omega);have c2:=QjP top (by omega);have hd:=Pm.hid (Qcw.eq_def s top);generalize Qcw s top=res at*
 have e1:((QT s).getD []).length<=4/\ ∀x∈(QT s).getD [],x.length<=1000000000000:=by
  cases hp:QT s with
  |none=>simp
  |some l=>have:=h1 l hp;exact⟨this.1,fun x hx=>by have:=this.2 x hx;omega⟩
 have e2:((QT top).getD []).length<=4/\ ∀x∈(QT top).getD [],x.length<=1000000000000:=by
  cases hp:QT top with
  |none=>simp
  |some l=>have:=h2 l hp;exact⟨this.1,fun x hx=>by have:=this.2 x hx;omega⟩
 generalize (QT s).getD []=a at*;generalize (QT top).getD []=b at*;generalize (QT s).isSome=p at*;generalize (QT top).isSome=q0 at*;obtain⟨y1,y2⟩:=e1;obtain⟨y3,y4⟩:=e2;have c3:=al14Of (a.take b.length) (by rw[AK];omega) fun x hx=>y2 x (AQ hx)
 have c4:=al14Of b (by omega) y4;have ht2:((a.map fun s=>[dS s]).take b.length)=(a.take b.length).map fun s=>[dS s]:=by rw[AZ]
 rw[show tStrs (a.take b.length)= .sl true 1 ((a.map fun s=>[dS s]).take ((b.length:Nat):Int).toNat) by rw[A9,ht2]] at c3;clear y2 y4 h1 h2 ht2;refine kE ?_
 repeat' first|refine kS ?_|refine qS (QfX rfl rfl rfl (by omega) (by simp only[decide_eq_false_iff_not,AB] at*;omega)) ?_|refine kU ?_|refine kV ?_ ?_<;>intro q|fail
 all_goals first|refine Qb (hx:=?_);rw[hd.out];simp_all;done
attribute [local irreducible] EndR Fk.PlanF Fk.Flts Fk.AStepM Fk.Grew Fk.Gs
def QtE(l:List Qq)(hb: ∀e∈l,e.1.length<=4/\0<=e.2/\e.2<=15)(hl:l.length<=1000):Pure A4 254 [tEnts l] (dS (QG l)):=by
 refine kB ?_
 repeat refine kA ?_
 refine Qo (fun m st=> ∃k:Nat,k<=l.length/\m=l.length -k/\st=⟨28,[(3,.d (dS (QG (l.take k)))),(4,.d (dI k)),(0,.d (tEnts l))],[]⟩) [3,4,0] 0 l.length ⟨0,by omega,rfl,rfl⟩ (round:=?_);rintro m st ⟨k,hk,rfl,rfl⟩
 repeat refine kG ?_
 cases q3:decide ((k:Int)<(l.length:Int))
 ·repeat refine kA ?_
  refine Qb (hx:=?_);have:k=l.length:=by simp at q3;omega
  rw[this,A8]
 have hk2:k<l.length:=by simp at q3;omega
 obtain⟨x,hx⟩: ∃x,l[k]? =some x:=⟨_,A0 hk2⟩;have hr:=Qt (f:=rEnt) hx;have hlen:=QiG (l:=l.take k) fun e he=>hb e (AQ he)
 rw[AK] at hlen;have hxb:=hb x (A2 hx);have T:AE (QG (l.take (k+1))=QG (l.take k)++x.1++[61]++Pl.dec x.2.toNat++[59]):=Pm.hid (by rw[A7,hx];simp[QG,Qas]);have hdl:=Pl.QcU 8 x.2.toNat (by omega);have c:=al6Dec x.2.toNat (by omega);rw[show((x.2.toNat:Nat):Int)=x.2 by omega] at c;clear hx hb;generalize QG (l.take k)=out at*;generalize Pl.dec x.2.toNat=d at*;obtain⟨nm,id⟩:=x;simp only at hxb c T hr
 repeat' first|refine kS ?_|refine qD (iy hr) ?_|refine qD (QcX (m:=[61]) rfl rfl (by first|omega|(simp;omega))) ?_|refine qD (QcX (m:=[59]) rfl rfl (by first|omega|(simp;omega))) ?_|refine qD (QcX rfl rfl (by first|omega|(simp;omega))) ?_|refine kU ?_|fail
 refine Qh (l.length -(k+1)) (by omega) ⟨k+1,by omega,rfl,?_⟩;simp[keepE,go_sem,T.out]
def Qjl(l:List Qq): ∀r∈l.map rEnt,∀d∈r,d.cell=true:=by
 intro r hr d hd;obtain⟨p,_,rfl⟩:=A5.1 hr;simp at hd;rcases hd with rfl|rfl<;>rfl
def Qon(l:List Qq)(i:Nat)(hi:i<l.length)(hl:l.length<=1000):Pure A4 225 [tEnts l,dI i] (tEnts (l.take i++l.drop (i+1))):=by
 refine kE ?_;have hc1:=Qjl (l.take i);have hc2:=Qjl (l.drop (i+1));have t1:(l.map rEnt).take (i:Int).toNat=(l.take i).map rEnt:=by rw[A9,AZ]
 have t2:(l.map rEnt).drop ((i:Int)+1).toNat=(l.drop (i+1)).map rEnt:=by rw[show((i:Int)+1).toNat=i+1 by omega,List.map_drop]
 repeat' first|refine kS ?_|(show AWP _ (.region 1 _ _) _ _;refine(Fk.awp_drawF (id:=1) [0,1,2,3,5,6,7,8] [4,9] [(0,.arr 0 2 112 [])] [] ?_))|refine(Fk.aw_fltS 0 rfl rfl rfl rfl rfl ?_)|refine(Fk.aw_fltL (ho:=rfl) (hk:=rfl) (hl:=fun H=>QfX rfl rfl rfl (by omega) (by simp;omega)) (k:=?_))|refine(Fk.aw_fltL (ho:=rfl) (hk:=rfl) (hl:=fun H=>Qiy rfl rfl (by omega)) (k:=?_))|refine(Fk.aw_fltL (ho:=rfl) (hk:=rfl) (hl:=fun H=>QgF rfl rfl rfl (by omega) (by simp;omega)) (k:=?_))|refine(Fk.aw_appM (by kernel_rfl) Ty.h rfl Ty.h (hcell:=?_) (hb:=?_) (kk:=?_))|refine kU ?_|fail
 ·rw[t1];exact hc1
 ·simp;omega
 ·rw[t2];exact hc2
 ·simp;omega
 rw[t1,t2];refine Qa 0 (h:=?_);refine Qb (hx:=?_);simp[A3]
def QcL(l m:List UInt8):Bool:= !(Op.bytesLess l m||l==m)
def Qar:List Qq->Qq->List Qq
 |[],e=>[e]
 |x::l,e=>if QcL x.1 e.1 then e::x::l else x::Qar l e
def QjO(x e:Qq)(l:List Qq):Qar (x::l) e=if QcL x.1 e.1 then e::x::l else x::Qar l e:=rfl
theorem Qsc{e x:Qq}: ∀{l:List Qq},x∈Qar l e->x=e∨x∈l
 :=by intro l;induction l<;>grind [Qar]
theorem Qsd(e:Qq): ∀l:List Qq,(Qar l e).length=l.length+1
 :=by intro l;induction l<;>grind [Qar]
def Qq0{P:Program}{dst:Option Tmp}{ty:TypeId}{pos:String}{after:Array Edge}{gd:Option (Nat×Bool)}{env:List (Nat×AV)}{H:List Blk}{T T':TypeId}{x y:Operand}{l m:List UInt8}(hx:aval env x= .d (.v (.string ⟨l.toArray⟩)))(hy:aval env y= .d (.v (.string ⟨m.toArray⟩))):
 Loc P ⟨dst,.binOp .gtr T x y T',ty,pos,after,gd⟩ env H (.d (.v (.bool (QcL l m)))) none:=
 loc_bin' (X:= .string ⟨l.toArray⟩) (Y:= .string ⟨m.toArray⟩) (by rw[hx];rfl) (by rw[hy];rfl) fun w=>by
  rw[Sem.run_bind,QfK,Result.andThen_ok];simp only[binOp,Op.stringOp,QhJ];rfl
def al12Add(l:List Qq)(e:Qq)(hl:l.length<=1000):Pure A4 220 [tEnts l,.agg (rEnt e)] (tEnts (Qar l e)):=by
 refine kE ?_;refine Qa 0 (h:=?_)
 repeat refine kA ?_
 refine Qo (fun m st=> ∃(k g:Nat) (out:List Qq) (done:Bool),k<=l.length/\m=l.length -k/\out.length<=k+done.toNat/\AE (done=false->Qar l e=out++Qar (l.drop k) e)/\AE (done=true->Qar l e=out++l.drop k)/\st=⟨45,[(7,.d (dI k)),(5,.osl 1 g 0 out.length),(6,.d (dB done)),(0,.d (tEnts l)),(3,.d (.pd (rEnt e)))],[.row 1 [],.arr g 2 112 (out.map rEnt)]⟩) [7,5,6,0,3] 2 l.length ⟨0,0,[],false,by omega,rfl,by simp,Pm.hid (fun _=>rfl),Pm.hid (fun h=>by cases h),rfl⟩ (round:=?_);rintro m st ⟨k,g,out,done,hk,rfl,hlen,hF,hT,rfl⟩
 repeat refine kG ?_
 cases q3:decide ((k:Int)<(l.length:Int))
 ·have hkl:k=l.length:=by simp at q3;omega
  have hdr:l.drop k=[]:=List.drop_of_length_le (by omega);rw[hdr] at hF hT;have hF2:AE (done=false->Qar l e=out++[e]):=hF;clear hF;cases done<;>simp only[AU,AX] at hlen
  ·repeat' first|refine kS ?_|refine QV Ty.h rfl Ty.h (hb:=?_) (kk:=?_)|refine kU ?_|fail
   all_goals first|simp;omega|((refine Qa 1 (h:=?_);refine Qb (hx:=?_));rw[hF2.out rfl];simp[A3])
  ·repeat refine kA ?_
   all_goals first|((refine Qa 1 (h:=?_);refine Qb (hx:=?_));rw[hT.out rfl];simp[A3])
 have hk2:k<l.length:=by simp at q3;omega
 obtain⟨x,hx⟩: ∃x,l[k]? =some x:=⟨_,A0 hk2⟩;have hr:=Qt (f:=rEnt) hx;have hdr:l.drop k=x::l.drop (k+1):=by rw[List.drop_eq_getElem_cons hk2];congr 1;rw[A0 hk2] at hx;exact AD hx
 rw[hdr] at hF hT;clear hx hdr;cases done<;>simp only[AU,AX] at hlen
 ·have hA:AE (QcL x.1 e.1=true->Qar l e=(out++[e]++[x])++l.drop (k+1)):=Pm.hid fun h=>by
   have:=hF.out rfl;rw[QjO,if_pos h] at this;rw[this];simp
  have hB:AE (QcL x.1 e.1=false->Qar l e=(out++[x])++Qar (l.drop (k+1)) e):=Pm.hid fun h=>by
   have:=hF.out rfl;rw[QjO,if_neg (by rw[h];decide)] at this;rw[this];simp
  clear hF hT
  repeat' first|refine kS ?_|refine qD (iy hr) ?_|refine qS (iy hr) ?_|refine qD (Qq0 rfl rfl) ?_|refine QV Ty.h rfl Ty.h (hb:=?_) (kk:=?_)|refine kU ?_|refine kV ?_ ?_<;>intro q|fail
  all_goals first|simp;omega|refine Qh (l.length -(k+1)) (by omega) ⟨k+1,g+1+1,out++[e]++[x],true,by omega,rfl,by simp;omega,Pm.hid (fun h=>by cases h),Pm.hid (fun _=>hA.out (by assumption)),?_⟩;simp[keepE,go_sem];done|refine Qh (l.length -(k+1)) (by omega) ⟨k+1,g+1,out++[x],false,by omega,rfl,by simp;omega,Pm.hid (fun _=>hB.out (by assumption)),Pm.hid (fun h=>by cases h),?_⟩;simp[keepE,go_sem];done
 ·have hA:AE (Qar l e=(out++[x])++l.drop (k+1)):=Pm.hid (by rw[hT.out rfl];simp)
  clear hF hT
  repeat' first|refine kS ?_|refine qS (iy hr) ?_|refine QV Ty.h rfl Ty.h (hb:=?_) (kk:=?_)|refine kU ?_|fail
  all_goals first|simp;omega|refine Qh (l.length -(k+1)) (by omega) ⟨k+1,g+1,out++[x],true,by omega,rfl,by simp;omega,Pm.hid (fun h=>by cases h),Pm.hid (fun _=>hA.out),?_⟩;simp[keepE,go_sem];done
structure QbQ(s:Pm.Store):Prop where
 b1:s.2.1.1.length<=Pm.big
 b2:s.2.1.2.length<=Pm.big
 b3:s.2.2.2.1.length<=1000000000000
 b4:s.2.2.2.2.2.1.length<=1000000000000
theorem QdW{s:Pm.Store}(h:Qaa s=true):QP s:=by
 unfold Qaa at h;simp only[AA,beq_iff_eq] at h;obtain⟨⟨⟨⟨⟨h1,_⟩,_⟩,_⟩,h2⟩,_⟩:=h;refine⟨h1,fun r hr=>?_⟩;obtain⟨i,hi,rfl⟩:=List.getElem_of_mem hr;unfold QbM at h2;have:=AM.1 h2 i (List.mem_range.2 (by omega))
 grind [Qbs]
def al15Ok(s:Pm.Store)(hg:QP s)(t:Pl.Tree):Pure A4 124 [dSt s,dTree t] (dB (Qae s t)):=by
 have c:=al15All s hg t;have hd:=Pm.hid (QbU.eq_def s t);have h2:AE ((QbU s t).2=Qae s t):=Pm.hid (by rw[hd.out];cases Qae s t<;>rfl);generalize QbU s t=r at*;obtain⟨l,ok⟩:=r;refine kE ?_;refine Qa 0 (h:=?_);refine Qa 1 (h:=?_)
 repeat refine kA ?_
 exact Qb (hx:=by rw[<-h2.out])
def Qw2(s:Pm.Store)(hl:QbQ s)(t:Pl.Tree):Pure A4 73 [dSt s,dTree t] (dB (Qaa s&&Qae s t)):=by
 have c1:=Qoo s hl.b1 hl.b2 hl.b3 hl.b4;cases h:Qaa s
 ·rw[h] at c1
  refine kE ?_;refine Qa 0 (h:=?_);refine Qa 1 (h:=?_)
  repeat refine kA ?_
  exact Qb (hx:=rfl)
 ·have c2:=al15Ok s (QdW h) t
  rw[h] at c1;refine kE ?_;refine Qa 0 (h:=?_);refine Qa 1 (h:=?_)
  repeat refine kA ?_
  exact Qb (hx:=rfl)
def Quh(s:Pm.Store)(t:Pl.Tree)(path:List UInt8):Int×Bool:=
 match QT path with
 |none=>(0,false)
 |some q=>if Qaa s&&Qae s t then(match QbB s (Qk s t) 0 q with|none=>(0,false)|some j=>(j,true)) else(0,false)
theorem Ql8{s:Pm.Store}(h:Qae s t=true):Qx t:=by grind [Qae,Qat,Qdo]
def QvP(s:Pm.Store)(hl:QbQ s)(t:Pl.Tree)(path:List UInt8)(hp:path.length<=1000000000000):Pure A4 38 [dSt s,dTree t,dS path] (.tup [dI (Quh s t path).1,dB (Quh s t path).2]):=by
 have hd:=Pm.hid (Quh.eq_def s t path);have c1:=QjP path hp;have c2:=Qw2 s hl t;cases hq:QT path with
 |none=>
  rw[hq] at c1 hd;refine kE ?_;refine Qa 0 (h:=?_);refine Qa 1 (h:=?_)
  repeat refine kA ?_
  exact Qb (hx:=by rw[hd.out])
 |some q=>
  have hql:q.length<=4:=(Qlg.1 hq).2.1;rw[hq] at c1 hd;simp only[AC,Option.isSome_some] at c1;cases hk:Qaa s&&Qae s t
  ·rw[hk] at c2 hd
   refine kE ?_;refine Qa 0 (h:=?_);refine Qa 1 (h:=?_)
   repeat refine kA ?_
   exact Qb (hx:=by rw[hd.out];rfl)
  ·have hk2:Qaa s=true/\Qae s t=true:=by simpa using hk
   have c3:=(Qom s (QdW hk2.1) t (Ql8 hk2.2) q (by omega)).arg (l:=[dSt s,dTree t,tStrs q]);unfold Qaf at c3;have hnn: ∀j,QbB s (Qk s t) 0 q=some j->0<=j:=fun j h=>QuG (Ac 0) h
   rw[hk] at c2 hd;dsimp only at hd;rw[if_pos rfl] at hd;generalize QbB s (Qk s t) 0 q=r at*;cases r with
   |none=>
    simp only[Option.getD_none] at c3;refine kE ?_;refine Qa 0 (h:=?_);refine Qa 1 (h:=?_)
    repeat refine kA ?_
    all_goals first|exfalso;simp only[decide_eq_false_iff_not] at*;omega|exact Qb (hx:=by rw[hd.out])|exact Qb (hx:=by rw[hd.out];rfl)
   |some j=>
    have hj:=hnn j rfl;simp only[AC] at c3;refine kE ?_;refine Qa 0 (h:=?_);refine Qa 1 (h:=?_)
    repeat' first|refine kA ?_|refine kV ?_ ?_<;>intro q|fail
    all_goals first|exfalso;simp only[decide_eq_true_eq] at*;omega|exact Qb (hx:=by rw[hd.out])|exact Qb (hx:=by rw[hd.out];rfl)
theorem QnG{kind:Nat->Nat}{en:Nat->Option Gr.En}(hen: ∀k es,en k=some es-> ∀e∈es,QF e.1=true){r L:List Gr.It}(h:Gr.FP kind en r L):(∀x∈r,∀n∈x.1,QF n=true)-> ∀x∈L,∀n∈x.1,QF n=true:=by
 induction h with
 |nil=>grind
 |file hk h ih=>
  intro hr x hx;rcases Aa.1 hx with rfl|hx
  ·exact hr _ AG
  ·exact ih (fun y hy=>hr y (AR _ hy)) x hx
 |dir hk he h1 h2 ih1 ih2=>
  intro hr x hx;rcases Aa.1 hx with rfl|hx
  ·exact hr _ AG
  ·rcases AP.1 hx with hx|hx
   ·refine ih1 (fun y hy n hn=>?_) x hx
    unfold Gr.kids at hy;obtain⟨e,hem,rfl⟩:=A5.1 hy;rcases AP.1 hn with hn|hn
    ·exact hr _ AG n hn
    grind
   ·exact ih2 (fun y hy=>hr y (AR _ hy)) x hx
theorem QuP{s:Pm.Store}(h:Qae s t=true):(∀x∈(QaI s t).1,(∀n∈x.1,QF n=true)/\0<=x.2/\x.2<16)/\(QaI s t).1.length<=144:=by
 have hF:=(QeI s t).1 h;have ht:=Ql8 h;unfold Qae at h;simp only[AA,beq_iff_eq] at h;obtain⟨L,g1,g2,g3⟩:=QgM s hF.root h.1.2;rw[g3];have hnl:(Qk s t).length<=16:=by unfold Qk;rw[AB,texts_len s ht];have:=ht.manyHi;omega
 refine⟨fun x hx=>?_,by grind⟩;obtain⟨y,hy,rfl⟩:=A5.1 hx;refine⟨QnG (fun k es he e hee=>?_) g1 (by simp) y hy,?_⟩
 ·unfold Qb1 at he
  split at he
  ·obtain rfl:=AD he
   obtain⟨e',he',rfl⟩:=A5.1 hee
   grind [QiF]
  grind
 ·have:=g1.fd.kinds y.2 (A5.2 ⟨y,hy,rfl⟩)
  have hk:y.2<(Qk s t).length:=QdO (by omega)
  grind [Qbo]
def Qu0(p path:List UInt8):Bool:=(path==[47])||(p==path)||(decide (path.length<p.length)&&(p.take (path.length+1)==path++[47]))
theorem Qv8{p q:List (List UInt8)}(hp: ∀n∈p,QF n=true)(hq: ∀n∈q,QF n=true):Qu0 (QC p) (QC q)=q.isPrefixOf p:=by
 rw[Bool.eq_iff_iff,List.isPrefixOf_iff_prefix,<-pre_iff (Qqt hq) (Qqt hp)];unfold Qu0;simp only[Bool.or_eq_true,AA,beq_iff_eq,decide_eq_true_eq];rw[Qjh (Qqt hq)];constructor
 ·grind
 ·rintro(h|h|⟨r,h⟩)
  ·grind
  ·grind
  grind
def Qvm{s:Pm.Store}{path:List UInt8}(h:(Quh s t path).2=true): ∃q j,QT path=some q/\(Qaa s&&Qae s t)=true/\QbB s (Qk s t) 0 q=some j/\Quh s t path=(j,true)/\0<=j:=by
 unfold Quh at*;split at h
 ·cases h
 ·rename_i q hq
  split at h
  ·rename_i hs
   split at h
   ·cases h
   ·rename_i j hj
    exact⟨q,j,hq,hs,hj,if_pos hs,QuG (Ac 0) hj⟩
  ·cases h
end Aw
end
section
namespace Aw
def QvA(a b:List UInt8)(hb:(47:UInt8)∉b):AT ⟨(a++47::b).toArray⟩ 47=(a.length:Nat):=by
 have hs:(⟨(a++47::b).toArray⟩:ByteArray).size=(a++47::b).length:=by simp[ByteArray.size]
 have hg: ∀j,j<(a++47::b).length->(⟨(a++47::b).toArray⟩:ByteArray).data[j]! =(a++47::b).getD j 0:=fun j h=>by
  rw[A1,A0 h];simp only[AH,AN] at h;simp[getElem!_pos,h]
 have hm:(a++47::b).getD a.length 0=47:=by rw[A1,AI (Nat.le_refl _)];simp
 have hl:a.length<(a++47::b).length:=by simp
 rcases Lib.lastIndexByte_spec ⟨(a++47::b).toArray⟩ 47 with⟨_,h⟩|⟨i,hi,e,hc,h⟩
 ·exact absurd (by rw[hg _ hl,hm];rfl) (h a.length (by rw[hs];exact hl))
 ·rw[hs] at hi
  rw[e];rcases Nat.lt_trichotomy i a.length with h1|h1|h1
  ·exact absurd (by rw[hg _ hl,hm];rfl) (h a.length h1 (by rw[hs];exact hl))
  ·rw[h1]
  ·exfalso
   rw[hg i hi,A1,AI (by omega)] at hc;obtain⟨j,hj⟩: ∃j,i -a.length=j+1:=⟨i -a.length -1,by omega⟩;rw[hj,List.getElem?_cons_succ] at hc;have hjb:j<b.length:=by simp only[AH,AN] at hi;omega
   rw[A0 hjb,AC] at hc;have:b[j]=47:=AW.1 (by show b[j].toNat=47;omega);exact hb (this▸List.getElem_mem hjb)
theorem Qvx(q:List (List UInt8))(n:List UInt8)(hn:(47:UInt8)∉n)(hq: ∀m∈q,m≠[]): ∃i:Nat,i<(QC (q++[n])).length/\AT ⟨(QC (q++[n])).toArray⟩ 47=(i:Nat)/\
 (QC (q++[n])).take (max i 1)=QC q/\(QC (q++[n])).drop (i+1)=n:=by
 have e:QC (q++[n])=q.flatMap (47:: ·)++47::n:=by unfold QC;rw[if_neg (by simp)];simp
 rw[e];refine⟨(q.flatMap (47:: ·)).length,by simp,QvA _ _ hn,?_,?_⟩
 ·unfold QC
  split
  ·rename_i h;subst h;rfl
  ·rename_i h
   have h1:1<=(q.flatMap ((47:UInt8):: ·)).length:=by
    cases q with
    |nil=>exact absurd rfl h
    |cons a q=>rw[List.flatMap_cons,AH,AN];omega
   rw[Nat.max_eq_left h1,List.take_left]
 ·rw[List.drop_append]
  simp
end Aw
end
section
open Go.RowKit
namespace Aw
variable{q:List (List UInt8)}{x:QaT}
attribute [local irreducible] ASeq ADraw AWP Loc AStep
def Qul(l:List QaT)(q:List (List UInt8)):List Bool:=(AF 16).map fun k=>Quo l q k
def QvU(q:List (List UInt8)):Qul [] q=AY 16 false:=by
 unfold Qul;rw[show(fun k=>Quo [] q k)=fun _=>false from rfl];rfl
def Qvl(l:List QaT)(q:List (List UInt8)){k:Nat}(h:k<16):(Qul l q)[k]? =some (Quo l q k):=by
 unfold Qul;rw[A6,List.getElem?_range h];rfl
def Qvj(l:List QaT)(x:QaT)(q:List (List UInt8))(k:Nat):Quo (l++[x]) q k=(Quo l q k||((x.2==(k:Int))&&q.isPrefixOf x.1)):=by
 unfold Quo;rw[List.any_append];simp
def QvD{l:List QaT}(h:q.isPrefixOf x.1=false):Qul (l++[x]) q=Qul l q:=by
 unfold Qul;refine List.map_congr_left fun k _=>?_
 rw[Qvj,h];simp
theorem QvV{l:List QaT}(h:q.isPrefixOf x.1=true)(h0:0<=x.2)(_h1:x.2<16):Qul (l++[x]) q=(Qul l q).set x.2.toNat true:=by
 refine AJ (by simp[Qul]) fun i hi hi'=>?_
 rw[List.getElem_set];simp only[Qul,List.getElem_map,List.getElem_range];rw[Qvj,h];split
 ·rename_i e;subst e
  have:((x.2.toNat:Nat):Int)=x.2:=by omega
  rw[this];simp
 ·rename_i e
  have:(x.2==(i:Int))=false:=by simp;omega
  rw[this];simp
theorem Qwj(s:Pm.Store)(hg:QP s)(t:Pl.Tree)(path:List UInt8)(hF:Qae s t=true)(q:List (List UInt8))(hq:QT path=some q):
 Pure A4 39 [dSt s,dTree t,dS path] (.sl true 1 ((Qul (QaI s t).1 q).map fun b=>[dB b])):=by
 have c:=al15All s hg t;have hd:QbU s t=((QaI s t).1,true):=by unfold QbU;rw[if_pos hF]
 rw[hd] at c;obtain⟨hfn,hfl⟩:=QuP hF;obtain⟨hq1,hq2,hq3⟩:=Qlg.1 hq;have hqn: ∀n∈q,QF n=true:=fun n hn=>AM.1 hq1 n hn
 have hpl:path.length<=21:=by
  rw[<-hq3];have:=QpM q fun x hx=>Qei (hqn x hx)
  omega
 clear hF hd hq hq1;generalize (QaI s t).1=out at*;have hfn:=Pm.hid hfn;have hqn:=Pm.hid hqn;have hq3:=Pm.hid hq3;refine kE ?_;refine Qa 0 (h:=?_);refine Qa 1 (h:=?_)
 repeat refine kA ?_
 refine Qo (fun m st=> ∃j:Nat,j<=out.length/\m=out.length -j/\st=⟨62,[(10,.d (dI j)),(9,.osl 2 0 0 16),(7,.d (tFnds out)),(2,.d (dS path))],
  [.row 1 [],.row 1 [],.arr 0 1 4 ((Qul (out.take j) q).map fun b=>[dB b])]⟩) [10,9,7,2] 3 out.length ⟨0,by omega,rfl,?_⟩ (round:=?_)
 ·rw[List.take_zero,QvU];rfl
 rintro m st ⟨j,hj,rfl,rfl⟩
 repeat refine kG ?_
 cases q3:decide ((j:Int)<(out.length:Int))
 ·repeat refine kA ?_
  (refine Qa 2 (h:=?_);refine Qb (hx:=?_))
  have:j=out.length:=by simp at q3;omega
  rw[this,A8];have:(Qul out q).length=16:=by simp[Qul]
  simp[A3,this]
 have hj2:j<out.length:=by simp at q3;omega
 obtain⟨x,hx⟩: ∃x,out[j]? =some x:=⟨_,A0 hj2⟩;have hr:=Qt (f:=rFnd) hx;obtain⟨hxn,hxi⟩:=hfn.out x (A2 hx);have hs:=Qv8 hxn hqn.out;rw[hq3.out] at hs;have htk:out.take (j+1)=out.take j++[x]:=by rw[A7,hx];rfl
 have T0:AE (Qu0 (QC x.1) path=false->Qul (out.take (j+1)) q=Qul (out.take j) q):=Pm.hid fun h=>by rw[htk];exact QvD (by rw[<-hs];exact h)
 have T1:AE (Qu0 (QC x.1) path=true->Qul (out.take (j+1)) q=(Qul (out.take j) q).set x.2.toNat true):=Pm.hid fun h=>by rw[htk];exact QvV (by rw[<-hs];exact h) hxi.1 hxi.2
 have hsd:AE (Qu0 (QC x.1) path=((path==[47])||(QC x.1==path)||(decide (path.length<(QC x.1).length)&&((QC x.1).take (path.length+1)==path++[47])))):=Pm.hid rfl;rw[hsd.out] at T0 T1;have hfl16:(Qul (out.take j) q).length=16:=by simp[Qul]
 have hrm:((Qul (out.take j) q).map fun b=>[dB b])[0+x.2.toNat]? =some [dB (Quo (out.take j) q x.2.toNat)]:=by
  rw[AO,A6,Qvl _ _ (by omega)];rfl
 clear hx hs htk hsd hfn hqn hxn c;generalize Quo (out.take j) q x.2.toNat=old at*;generalize Qul (out.take j) q=fl at*;obtain⟨xp,xi⟩:=x;simp only at hxi hrm T0 T1 hr
 change (out.map rFnd)[((j:Nat):Int).toNat]? =some [dS (QC xp),dI xi] at hr
 generalize QC xp=sp at*;have htn:((path.length:Int)+1).toNat=path.length+1:=by omega
 have hdec:decide (path.length<sp.length)=decide ((sp.length:Int)>(path.length:Int)):=decide_eq_decide.2 (by omega);rw[hdec,<-htn] at T0 T1;clear hdec
 repeat' first|refine kS ?_|refine qS (iy hr) ?_|refine qS (Qdm (m:=[47]) rfl rfl) ?_|refine qS (QfH rfl rfl rfl (by omega) (by simp only[decide_eq_true_eq] at*;omega)) ?_|refine qS (QcX (m:=[47]) rfl rfl (by first|omega|(simp;omega))) ?_|refine qS (Qdn Ty.h rfl Ty.h rfl rfl rfl rfl hxi.1 (by omega)) ?_|refine QlO Ty.h rfl rfl hrm rfl (kk:=?_)|refine kU ?_|refine kV ?_ ?_<;>intro q|fail
 all_goals refine Qh (out.length -(j+1)) (by omega) ⟨j+1,by omega,rfl,?_⟩
 all_goals generalize (path==[47])=u1 at*
 all_goals generalize (sp==path)=u2 at*
 all_goals generalize decide ((sp.length:Int)>(path.length:Int))=u3 at*
 all_goals generalize (List.take ((path.length:Int)+1).toNat sp==path++[47])=u4 at*
 all_goals first
  |(have h:=T1.out (by clear T0 T1;simp_all)
    rw[h];simp[keepE,go_sem,Ab];done)
  |(have h:=T0.out (by clear T0 T1;simp_all)
    rw[h];simp[keepE,go_sem];done)
theorem Qvy(s:Pm.Store)(hl:QbQ s)(t:Pl.Tree)(path:List UInt8)(hp:path.length<=1000000000000):Pure A4 14 [dSt s,dTree t,dS path] (.tup [dI (Qui s t path Quf).1,dB (Qui s t path Quf).2]):=by
 have hd:=Pm.hid (Qui.eq_def s t path Quf);have hf:=Pm.hid (Quh.eq_def s t path);have c1:=QvP s hl t path hp
 have hno:AE ((Quh s t path).2=false->Qui s t path Quf=(0,false)):=Pm.hid fun h=>by
  rw[hd.out];rw[hf.out] at h;cases h1:QT path with
  |none=>rfl
  |some q=>
   rw[h1] at h;dsimp only at h⊢;cases h2:Qaa s&&Qae s t
   ·rfl
   ·rw[h2] at h
    rw[if_pos rfl] at h⊢;cases h3:QbB s (Qk s t) 0 q with
    |none=>rfl
    |some j=>rw[h3] at h;cases h
 have hyes:AE ((Quh s t path).2=true-> ∃q,QT path=some q/\Qaa s=true/\Qae s t=true/\Qui s t path Quf=(Quv s t q Quf,true)):=Pm.hid fun h=>by
  rw[hd.out];rw[hf.out] at h;cases h1:QT path with
  |none=>rw[h1] at h;cases h
  |some q=>
   rw[h1] at h;dsimp only at h⊢;cases h2:Qaa s&&Qae s t
   ·rw[h2] at h;cases h
   ·rw[h2] at h
    rw[if_pos rfl] at h⊢;cases h3:QbB s (Qk s t) 0 q with
    |none=>rw[h3] at h;cases h
    |some j=>
     have:Qaa s=true/\Qae s t=true:=by simpa using h2
     exact⟨q,rfl,this.1,this.2,rfl⟩
 clear hd hf;generalize Quh s t path=r at*;obtain⟨j,ok⟩:=r;cases ok
 ·have hx:=Pm.hid (hno.out rfl)
  refine kE ?_;refine Qa 0 (h:=?_);refine Qa 1 (h:=?_)
  repeat refine kA ?_
  exact Qb (hx:=by rw[hx.out])
 obtain⟨q,hq,h1,h2,h3⟩:=hyes.out rfl;have h3:=Pm.hid h3;have hg:=QdW h1;have ht:=Ql8 h2;have c2:=Qwj s hg t path h2 q hq;have c3:=QlW s hg t ht;have hnl:(Qk s t).length<=16:=by unfold Qk;rw[AB,texts_len s ht];have:=ht.manyHi;omega
 have hB:AE (∀k,0<=Quf ((Qk s t).getD k Qd)/\Quf ((Qk s t).getD k Qd)<=2048):=Pm.hid fun k=>by
  rcases QgC s t k with h|h
  ·rw[h];decide
  ·unfold Quf;have:=h.size;split<;>omega
 have hsb:=Pm.hid (Quv.eq_def s t q Quf);clear hno hyes hq h1 h2 ht hp;generalize Qk s t=ns at*;generalize (QaI s t).1=out at*;refine kE ?_;refine Qa 0 (h:=?_);refine Qa 1 (h:=?_)
 repeat refine kA ?_
 refine Qo (fun m st=> ∃k:Nat,k<=ns.length/\m=16 -k/\st=⟨56,[(10,.d (dI (Quj (fun k=>if Quo out q k then Quf (ns.getD k Qd) else 0) k))),(13,.d (dI k)),(11,.d (.sl true 1 ((Qul out q).map fun b=>[dB b]))),(12,.d (.sl true 10 (ns.map rNode)))],[.row 1 [],.row 1 []]⟩) [10,13,11,12] 2 16 ⟨0,by omega,rfl,rfl⟩ (round:=?_);rintro m st ⟨k,hk,rfl,rfl⟩
 repeat refine kG ?_
 cases q4:decide ((k:Int)<(ns.length:Int))
 ·repeat refine kA ?_
  have:k=ns.length:=by simp at q4;omega
  subst this;exact Qb (hx:=by rw[h3.out,hsb.out])
 have hk2:k<ns.length:=by simp at q4;omega
 obtain⟨nd,hnd⟩: ∃nd,ns[k]? =some nd:=⟨_,A0 hk2⟩;have hr:=Qt (f:=rNode) hnd
 have hr2:((Qul out q).map fun b=>[dB b])[(k:Int).toNat]? =some [dB (Quo out q k)]:=by
  rw[A9,A6,Qvl _ _ (by omega)];rfl
 have hgd:ns.getD k Qd=nd:=by rw[A1,hnd];rfl
 have hbn:=hB.out k;rw[hgd] at hbn
 have hsum:=QuO (f:=fun k=>if Quo out q k then Quf (ns.getD k Qd) else 0) 2048 (n:=k) (fun i _=>by
  have:=hB.out i
  split<;>omega)
 have hnext:AE (Quj (fun k=>if Quo out q k then Quf (ns.getD k Qd) else 0) (k+1)=Quj (fun k=>if Quo out q k then Quf (ns.getD k Qd) else 0) k+if Quo out q k then Quf nd else 0):=Pm.hid (by
  show _+(if Quo out q k then Quf (ns.getD k Qd) else 0)=_
  rw[hgd])
 have hbo:AE (Quf nd=if nd.kind=1 then nd.size else 0):=Pm.hid rfl;clear hnd hgd hB h3 hsb c1 c2 c3;generalize Quj (fun k=>if Quo out q k then Quf (ns.getD k Qd) else 0) k=sm at*;generalize Quo out q k=inn at*;obtain⟨kind,links,size,⟨⟨p1,p2,p3,p4,p5⟩,depth,many⟩⟩:=nd;simp only at hbo;rw[hbo.out] at hbn hnext;clear hbo
 by_cases hk1:kind=1
 ·subst hk1
  rw[if_pos rfl] at hbn hnext
  repeat' first|refine kS ?_|refine qS (iy hr) ?_|refine qS (iy hr2) ?_|refine kU ?_|refine kV ?_ ?_<;>intro q|fail
  all_goals first|refine Qh (16 -(k+1)) (by omega) ⟨k+1,by omega,rfl,?_⟩;rw[hnext.out];simp[keepE,go_sem, *];done
 ·rw[if_neg hk1] at hbn hnext
  repeat' first|refine kS ?_|refine qS (iy hr) ?_|refine qS (iy hr2) ?_|refine kU ?_|refine kV ?_ ?_<;>intro q|fail
  all_goals first|exfalso;exact hk1 (by simpa using q)|refine Qh (16 -(k+1)) (by omega) ⟨k+1,by omega,rfl,?_⟩;rw[hnext.out];simp[keepE,go_sem, *];done

/- Of parts_card; no condition. -/
import Derived.Test.YtilenknaajikpaaGreatDoorP19
import Derived.Test.YtilenknaajikpaaGreatDoorP20
import Derived.Test.YtilenknaajikpaaGreatDoorP21
set_option linter.all false
set_option maxRecDepth 100000
set_option maxHeartbeats 8000000
open Bool renaming and_eq_true->AC,false_eq_true->AX
open Go.Proofs.Tryz renaming prog->A2,underlying22->An
open Go.RowKit renaming Hid->Af
open Go.Value renaming cells->Av
open Int renaming toNat_natCast->AB,le_refl->AH,eq_ofNat_of_zero_le->AK
open List renaming getD_eq_getElem?_getD->A0,getElem?_eq_getElem->A1,replicate->A3,mem_range->A4,range->A5,take_of_length_le->A6,perm_append_comm->A7,append_assoc->A8,mem_of_getElem?->AA,length_drop->AD,flatMap_def->AE,flatMap_cons->AF,mem_append_left->AG,length_pos_iff->AI,length_append->AJ,findIdx?_eq_some_iff_getElem->AL,getElem?_map->AM,foldl_append->AO,mem_append_right->AP,length_replicate->AQ,length_take->AR,mem_flatMap->AS,map_congr_left->AU,find?_eq_none->AW,getElem?_eq_some_iff->AY,mem_take_iff_getElem->AZ,take_add_one->Aa,length_cons->Ab,length_eq_zero_iff->Ac,drop_of_length_le->Ae,range_succ->Ag,foldl_cons->Ah,foldl_nil->Aj,mem_singleton->Ak,mem_map->Al,ext_getElem->Ao,take_length->Ap,length_map->Aq,length_nil->Ar,nil_append->As,append_nil->Au
open List.Perm renaming append_left->A9,append_right->AN
open List.Sublist renaming refl->Am,append->Ax
open Nat renaming zero_add->Ad,le_refl->Ai
open Option renaming getD_some->AT
namespace Go.Proofs.YtilenknaajikpaaGreatDoor
noncomputable section
open Go.RowKit
namespace Aw
variable{N k:Nat}{name:List UInt8}{t:Pl.Tree}{w w':Pl.Sto}{p:Pl.Ptr}
attribute [local irreducible] ASeq ADraw AWP Loc AStep Fg.PlanF Fg.Flts
abbrev tFnds(l:List QaW):D:= .sl true 2 (l.map rFnd)
def QbU(s:Pm.Store)(t:Pl.Tree):List QaW×Bool:=if Qaf s t then((QaN s t).1,true) else([],false)
def Qca(out:List QaW)(N:Nat):List Int:=(A5 N).map fun k=>((Pl.many out k:Nat):Int)
def cnt_nil(N:Nat):Qca [] N=A3 N 0:=by
 refine Ao (by simp[Qca]) fun i hi hi'=>by simp[Qca,Pl.many]
def QsK(out:List QaW)(h:k<N):(Qca out N)[k]? =some ((Pl.many out k:Nat):Int):=by
 unfold Qca;rw[AM,List.getElem?_range h];rfl
theorem Qux(out:List QaW)(x:QaW)(h0:0<=x.2)(_h:x.2<N):Qca (out++[x]) N=(Qca out N).set x.2.toNat (((Pl.many out x.2.toNat:Nat):Int)+1):=by
 refine Ao (by simp[Qca]) fun i hi hi'=>?_
 rw[List.getElem_set];simp only[Qca,List.getElem_map,List.getElem_range];unfold Pl.many;rw[List.map_append,List.count_append];split
 ·rename_i e;subst e
  have:((x.2.toNat:Nat):Int)=x.2:=by omega
  rw[this];simp
 ·rename_i e
  have:(x.2==(i:Int))=false:=by simp;omega
  simp[List.count_cons,this]
def many_le(out:List QaW)(k:Nat):Pl.many out k<=out.length:=by
 unfold Pl.many;refine Nat.le_trans (List.count_le_length) (by simp)
theorem al15All(s:Pm.Store)(hg:QM s)(t:Pl.Tree):Pure A2 159 [dSt s,dTree t] (.tup [tFnds (QbU s t).1,dB (QbU s t).2]):=by
 have hd:=Pm.hid (QbU.eq_def s t);have hf:Af (Qaf s t=(Qao s t&&((Qe s t).getD 0 Qd).kind==2&&(QaN s t).2&&(A5 (Qe s t).length).all (Qa1 s (Qe s t) (QaN s t).1))):=Pm.hid rfl;have c0:=al11Ok s hg t;cases h0:Qao s t
 ·rw[h0] at c0
  have hx:Af (QbU s t=([],false)):=Pm.hid (by rw[hd.out,hf.out,h0];rfl);refine kE ?_;refine Qa 0 (h:=?_);refine Qa 1 (h:=?_)
  repeat refine kA ?_
  (refine Qa 2 (h:=?_);refine Qb (hx:=?_))
  rw[hx.out];rfl
 rw[h0] at c0 hf;have ht:Qx t:=Qdu (by unfold Qao at h0;rw[AC] at h0;exact h0.1);have c1:=Qtj s hg t ht;have hnl:(Qe s t).length<=16:=by unfold Qe;rw[Aq,texts_len s ht];have:=ht.manyHi;omega
 have hids:Af (((Qe s t).getD 0 Qd).kind=2->(QaN s t).2=true->(QaN s t).1.length<=144/\ ∀x∈(QaN s t).1,0<=x.2/\x.2<(Qe s t).length):=Pm.hid fun h1 h2=>by
  obtain⟨L,g1,g2,g3⟩:=Qg7 s h1 h2;rw[g3];refine⟨by simpa using g2,fun x hx=>?_⟩;obtain⟨y,hy,rfl⟩:=Al.1 hx;have:=g1.fd.kinds y.2 (Al.2 ⟨y,hy,rfl⟩);have hk:y.2<(Qe s t).length:=Qd9 (by rcases this with h|⟨h,_⟩<;>rw[h]<;>decide);simp only[QbG];omega
 have W:=QuI s hg (Qe s t) hnl 145 [] 0 [] 0 (by simp) (by simp) (by simp) (by intro x hx;cases hx);have hfd:Af (QaN s t=Qbi (Qe s t) (Qf s) 145 ([],0) []):=Pm.hid rfl;rw[<-hfd.out] at W;rw[show QaI []=[47] from rfl] at W
 have hB: ∀n∈Qe s t,n=Qd∨NodeB n:=fun n hn=>by
  unfold Qe at hn;obtain⟨x,_,rfl⟩:=Al.1 hn;rcases QiU x with h|h
  ·exact .inr h
  ·exact .inl h
 have hB:=Pm.hid hB;have c13:=Pm.hid fun n=>al13Ok s hg n
 have hnf:Af (∀out k nd,(Qe s t)[k]? =some nd->Qa1 s (Qe s t) out k=((nd.kind==0||((Pl.many out k:Int)==nd.links))&&(!(nd.kind==1)||Qa0 s nd))):=Pm.hid fun out k nd h=>by
  unfold Qa1;rw[A0,h];rfl
 clear h0 ht hfd;generalize QaN s t=fo at*;generalize Qe s t=ns at*;obtain⟨out,ok⟩:=fo;simp only[List.map_nil,Ar,Nat.sub_zero,Ad] at W;simp only at hd hf hids;have hnm:(ns.map rNode).length=ns.length:=Aq ..
 by_cases h2:(ns.getD 0 Qd).kind=2
 rotate_left
 ·have hx:Af (QbU s t=([],false)):=Pm.hid (by
   rw[hd.out,hf.out];have:((ns.getD 0 Qd).kind==2)=false:=by simpa using h2
   rw[this];rfl)
  cases ns with
  |nil=>
   refine kE ?_;refine Qa 0 (h:=?_);refine Qa 1 (h:=?_)
   repeat refine kA ?_
   (refine Qa 2 (h:=?_);refine Qb (hx:=?_))
   rw[hx.out];rfl
  |cons n0 ns=>
   have hr:((n0::ns).map rNode)[((0:Nat):Int).toNat]? =some (rNode n0):=rfl;have h2: ¬n0.kind=2:=h2;refine kE ?_;refine Qa 0 (h:=?_);refine Qa 1 (h:=?_)
   repeat' first|refine kS ?_|refine qS (iy hr) ?_|refine kU ?_|refine kV ?_ ?_<;>intro q|fail
   all_goals first|exfalso;simp at q;omega|((refine Qa 2 (h:=?_);refine Qb (hx:=?_));rw[hx.out];rfl)
 have hlen0:0<ns.length:=by
  cases ns with
  |nil=>exact absurd h2 (by decide)
  |cons n0 ns=>simp
 obtain⟨n0,hn0⟩: ∃n0,ns[0]? =some n0:=⟨_,A1 hlen0⟩;have hk0:n0.kind=2:=by rw[A0,hn0] at h2;exact h2
 have hr0:(ns.map rNode)[(0:Int).toNat]? =some (rNode n0):=by show(ns.map rNode)[0]? =_;rw[AM,hn0];rfl
 have h2b:((ns.getD 0 Qd).kind==2)=true:=by simpa using h2
 cases ok
 ·have hx:Af (QbU s t=([],false)):=Pm.hid (by rw[hd.out,hf.out,h2b];rfl)
  clear hB hnf hids hf hd;refine kE ?_;refine Qa 0 (h:=?_);refine Qa 1 (h:=?_)
  repeat' first|refine kS ?_|refine qS (iy hr0) ?_|refine(QoZ [2] W cK (k:=?_))|refine kU ?_|refine kV ?_ ?_<;>intro q|fail
  all_goals first|exfalso;simp at q;omega|exfalso;simp only[beq_iff_eq] at q;omega|((refine Qa 3 (h:=?_);refine Qb (hx:=?_));rw[hx.out];rfl)
 obtain⟨hol,hid⟩:=hids.out h2 rfl;have hf2:Af (Qaf s t=(A5 ns.length).all (Qa1 s ns out)):=Pm.hid (by rw[hf.out,h2b];rfl);clear hids hf;have hid:=Pm.hid hid;refine kE ?_;refine Qa 0 (h:=?_);refine Qa 1 (h:=?_)
 repeat' first|refine kS ?_|refine qS (iy hr0) ?_|refine(QoZ [2] W cK (k:=?_))|refine stepS2 (Qi1 Ty.h rfl Ty.h rfl rfl rfl (by simp;omega) (by omega)) (k:=?_)|refine kU ?_|refine kV ?_ ?_<;>intro q|fail
 all_goals first|exfalso;simp only[beq_iff_eq] at q;omega|exfalso;simp at q;omega|skip
 refine Qa 2 (h:=?_)
 refine Qs (fun m st=> ∃j:Nat,j<=out.length/\m=out.length -j/\st=⟨110,[(10,.d (dI j)),(9,.osl 3 0 0 ns.length),(7,.d (tFnds out)),(6,.d (.sl true 10 (ns.map rNode))),(2,.d (.pd (rSt s)))],
  [.row 1 [],.row 1 [],.arr (out.length+1) 2 81 [],.arr 0 1 3 ((Qca (out.take j) ns.length).map fun n=>[dI n])]⟩) [10,9,7,6,2] 4 out.length ⟨0,by omega,rfl,?_⟩ (round:=?_)
 ·simp[keepE,go_sem,cnt_nil,A6]
 rintro m st ⟨j,hj,rfl,rfl⟩
 repeat refine kG ?_
 cases q3:decide ((j:Int)<(out.length:Int));rotate_left
 ·have hj2:j<out.length:=by simp at q3;omega
  obtain⟨x,hx⟩: ∃x,out[j]? =some x:=⟨_,A1 hj2⟩;have hr:=Qu (f:=rFnd) hx;have hxi:=hid.out x (AA hx)
  have hrm:((Qca (out.take j) ns.length).map fun n=>[dI n])[0+x.2.toNat]? =some [dI ((Pl.many (out.take j) x.2.toNat:Nat):Int)]:=by
   rw[Ad,AM,QsK _ (by omega)];rfl
  have hml:=many_le (out.take j) x.2.toNat;rw[AR] at hml
  have T:Af (Qca (out.take (j+1)) ns.length=(Qca (out.take j) ns.length).set x.2.toNat (((Pl.many (out.take j) x.2.toNat:Nat):Int)+1)):=Pm.hid (by
   rw[Aa,hx];exact Qux _ x hxi.1 hxi.2)
  clear hx hf2 hd hB hnf c0 c1 W;generalize Pl.many (out.take j) x.2.toNat=c at*;generalize Qca (out.take j) ns.length=cl at*;obtain⟨xp,xi⟩:=x;simp only at hxi hrm T hr
  repeat' first|refine kS ?_|(show AWP _ (.region 13 _ _) _ _;refine(Fg.awp_drawF (id:=13) [] [16] ?_))|refine qD (iy hr) ?_|refine qD (Qdx Ty.h rfl Ty.h rfl rfl rfl rfl hxi.1 hxi.2) ?_|refine qD (Qdf Ty.h rfl rfl hrm rfl) ?_|refine QjB Ty.h rfl rfl hrm rfl (kk:=?_)|refine kU ?_|fail
  refine Qn (out.length -(j+1)) (by omega) ⟨j+1,by omega,rfl,?_⟩;simp[keepE,go_sem,T.out,List.map_set]
 have hj2:j=out.length:=by simp at q3;omega
 subst hj2;rw[Ap]
 repeat refine kA ?_
 refine Qs (fun m st=> ∃k:Nat,k<=ns.length/\m=16 -k/\Af ((A5 k).all (Qa1 s ns out)=true)/\st=⟨110,[(11,.d (dI k)),(9,.osl 3 0 0 ns.length),(7,.d (tFnds out)),(6,.d (.sl true 10 (ns.map rNode))),(2,.d (.pd (rSt s)))],
  [.row 1 [],.row 1 [],.arr (out.length+1) 2 81 [],.arr 0 1 3 ((Qca out ns.length).map fun n=>[dI n])]⟩) [11,9,7,6,2] 4 16 ⟨0,by omega,rfl,Pm.hid rfl,rfl⟩ (round:=?_)
 rintro m st ⟨k,hk,rfl,hA,rfl⟩
 repeat refine kG ?_
 cases q4:decide ((k:Int)<(ns.length:Int))
 ·repeat refine kA ?_
  refine Qb (hx:=?_);have:k=ns.length:=by simp at q4;omega
  have h:=hA.out;rw[this] at h;rw[hd.out,hf2.out,h];rfl
 have hk2:k<ns.length:=by simp at q4;omega
 obtain⟨nd,hnd⟩: ∃nd,ns[k]? =some nd:=⟨_,A1 hk2⟩;have hr:=Qu (f:=rNode) hnd
 have hrm:((Qca out ns.length).map fun n=>[dI n])[0+(k:Int).toNat]? =some [dI ((Pl.many out k:Nat):Int)]:=by
  rw[Ad,AB,AM,QsK _ hk2];rfl
 have he:=hnf.out out k nd hnd;have T:Af (Qa1 s ns out k=true->(A5 (k+1)).all (Qa1 s ns out)=true):=fun h=>Pl.Qdn (p:=Qa1 s ns out) hA.out h
 have F:Af (Qa1 s ns out k=false->QbU s t=([],false)):=fun h=>by
  rw[hd.out,hf2.out,Pl.Qdj (p:=Qa1 s ns out) hk2 h];rfl
 rw[he] at T F;have c4:=c13.out nd;clear hnd hA hd hf2 he hnf hB W c0 c1 c13;generalize Pl.many out k=c at*;generalize Qa0 s nd=fok at*;obtain⟨kind,links,size,⟨⟨p1,p2,p3,p4,p5⟩,depth,many⟩⟩:=nd;simp only at T F;have hki:(0:Int)<=k/\(k:Int)<ns.length:=by omega
 repeat' first|refine kS ?_|refine qD (iy hr) ?_|refine qD (Qdx Ty.h rfl Ty.h rfl rfl rfl rfl hki.1 hki.2) ?_|refine qD (Qdf Ty.h rfl rfl hrm rfl) ?_|refine kU ?_|refine kV ?_ ?_<;>intro q|fail
 all_goals clear c4 hr hrm
 all_goals first
  |(refine Qn (16 -(k+1)) (by omega) ⟨k+1,by omega,rfl,Pm.hid (T.out ?_),rfl⟩;clear T F;simp_all;done)
  |(refine Qa 4 (h:=?_)
    refine Qb (hx:=?_);have hz:=F.out (by clear T F;simp_all)
    rw[hz];rfl)
def Qa8(l:List Ql)(name:List UInt8):Int:=match l.findIdx? (fun e=>e.1==name) with
 |some i=>(i:Int)
 |none=> -1
def QmE{l:List Ql}(h:l.find? (fun e=>e.1==name)=none):Qa8 l name= -1:=by
 have:l.findIdx? (fun e=>e.1==name)=none:=by
  rw[List.findIdx?_eq_none_iff];intro x hx;have:=AW.1 h x hx;simpa using this
 unfold Qa8;rw[this]
def QmD{l:List Ql}{e:Ql}(h:l.find? (fun e=>e.1==name)=some e): ∃i:Nat,Qa8 l name=i/\l[i]? =some e:=by
 obtain⟨h1,l1,bs,rfl,h2⟩:=List.find?_eq_some_iff_append.1 h;refine⟨l1.length,?_,by simp⟩
 have:(l1++e::bs).findIdx? (fun e=>e.1==name)=some l1.length:=by
  rw[AL];refine⟨by simp,by simpa using h1,fun j hj=>?_⟩;rw[List.getElem_append_left hj];have:=h2 l1[j] (List.getElem_mem hj);simpa using this
 unfold Qa8;rw[this]
theorem al12At(l:List Ql)(name:List UInt8)(hl:l.length<=1000):Pure A2 98 [dEnts l,dS name] (dI (Qa8 l name)):=by
 refine kB ?_
 repeat refine kA ?_
 refine Qs (fun m st=> ∃k:Nat,k<=l.length/\m=l.length -k/\Af (∀x∈l.take k,(x.1==name)=false)/\st=⟨20,[(5,.d (dI k)),(0,.d (dEnts l)),(1,.d (dS name))],[]⟩) [5,0,1] 0 l.length ⟨0,by omega,rfl,Pm.hid (by simp),rfl⟩ (round:=?_);rintro m st ⟨k,hk,rfl,hA,rfl⟩
 repeat refine kG ?_
 cases q3:decide ((k:Int)<(l.length:Int))
 ·repeat refine kA ?_
  refine Qb (hx:=?_);have:k=l.length:=by simp at q3;omega
  have h:=hA.out;rw[this,Ap] at h;rw[QmE (by rw[AW];intro x hx;rw[h x hx];simp)]
 have hk2:k<l.length:=by simp at q3;omega
 obtain⟨x,hx⟩: ∃x,l[k]? =some x:=⟨_,A1 hk2⟩;have hr:=Qu (f:=rEnt) hx
 have T:Af ((x.1==name)=false-> ∀y∈l.take (k+1),(y.1==name)=false):=Pm.hid fun h y hy=>by
  rw[Aa,hx] at hy;rcases List.mem_append.1 hy with hy|hy
  ·exact hA.out y hy
  ·simp at hy;subst hy;exact h
 have F:Af ((x.1==name)=true->Qa8 l name=k):=Pm.hid fun h=>by
  have:l.findIdx? (fun e=>e.1==name)=some k:=by
   rw[AL];refine⟨hk2,?_,fun j hj=>?_⟩
   ·rw[(AY.1 hx).2];exact h
   ·have:=hA.out l[j] (List.mem_iff_getElem?.2 ⟨j,by rw[List.getElem?_take,if_pos hj];exact A1 (by omega)⟩)
    rw[this];simp
  unfold Qa8;rw[this]
 clear hx hA
 repeat' first|refine kS ?_|refine qS (iy hr) ?_|refine kU ?_|refine kV ?_ ?_<;>intro q|fail
 all_goals first|exact Qn (l.length -(k+1)) (by omega) ⟨k+1,by omega,rfl,Pm.hid (T.out (by assumption)),rfl⟩|refine Qb (hx:=?_);rw[F.out (by assumption)]
def Qai(s:Pm.Store)(t:Pl.Tree)(q:List (List UInt8)):Int:=(Qah s (Qe s t) 0 q).getD (-1)
theorem Ql1(s:Pm.Store)(hg:QM s)(t:Pl.Tree)(ht:Qx t)(q:List (List UInt8))(hq:q.length<=1000):Pure A2 47 [dSt s,dTree t,dStrs q] (dI (Qai s t q)):=by
 have hd:Af (Qai s t q=(Qah s (Qe s t) 0 q).getD (-1)):=Pm.hid rfl;have c1:=Pm.hid fun k=>al11Get s hg t ht k
 have hnn:=Pm.hid fun k=>Qgf s ht k
 have c2:=Pm.hid fun n=>Qhb s hg n
 generalize Qe s t=ns at*;refine kE ?_;refine Qa 0 (h:=?_);refine Qa 1 (h:=?_)
 repeat refine kA ?_
 refine Qs (fun m st=> ∃(k i:Nat),k<=q.length/\m=q.length -k/\Af (Qah s ns 0 q=Qah s ns i (q.drop k))/\st=⟨51,[(7,.d (dI i)),(8,.d (dI k)),(2,.d (dStrs q)),(3,.d (.pd (rSt s))),(4,.d (.pd (rTree t)))],[.row 1 [],.row 1 []]⟩) [7,8,2,3,4] 2 q.length ⟨0,0,by omega,rfl,Pm.hid rfl,rfl⟩ (round:=?_);rintro m st ⟨k,i,hk,rfl,hF,rfl⟩
 repeat refine kG ?_
 cases q3:decide ((k:Int)<(q.length:Int))
 ·repeat refine kA ?_
  refine Qb (hx:=?_);have:k=q.length:=by simp at q3;omega
  have h:=hF.out;rw[this,List.drop_length] at h;rw[hd.out,h];rfl
 have hk2:k<q.length:=by simp at q3;omega
 obtain⟨x,hx⟩: ∃x,q[k]? =some x:=⟨_,A1 hk2⟩;have hr:=Qu (f:=fun s=>[dS s]) hx
 have hF2:Af (Qah s ns 0 q=match(Qf s (ns.getD i Qd)).1.find? (fun e=>e.1==x) with|none=>none|some e=>Qah s ns e.2 (q.drop (k+1))):=Pm.hid (by
  rw[hF.out,Qhz hx];exact Qeo (Qf s) ns i x _)
 have c1k:=c1.out i;have hn:=hnn.out i;have hel:=Qed s (ns.getD i Qd);have heb:=Qit s (ns.getD i Qd);have hec:=Qd0 s (ns.getD i Qd);have c2k:=c2.out (ns.getD i Qd);rw[<-hn] at c2k hel heb hec hF2;clear hx hF hn c1 c2 hnn;generalize Q4 s t i=na at*;obtain⟨⟨kind,links,size,⟨⟨p1,p2,p3,p4,p5⟩,depth,many⟩⟩,nok⟩:=na;simp only at c2k hel heb hec hF2;generalize Qf s ⟨kind,links,size,⟨⟨p1,p2,p3,p4,p5⟩,depth,many⟩⟩=ee at*;obtain⟨es,ok⟩:=ee;simp only at hel heb hec hF2;have c3:=(al12At es x (by omega)).arg (l:=[tEnts es,dS x]);cases hf:es.find? (fun e=>e.1==x) with
 |none=>
  rw[QmE hf] at c3;have hx:Af (Qai s t q= -1):=Pm.hid (by rw[hd.out,hF2.out,hf];rfl);clear hF2 hd hec heb hf
  repeat' first|refine kS ?_|refine qS (iy hr) ?_|refine kU ?_|refine kV ?_ ?_<;>intro q|fail
  all_goals first|exfalso;simp at*;done|refine Qb (hx:=?_);rw[hx.out]
 |some e=>
  obtain⟨j,hj,hje⟩:=QmD hf;rw[hj] at c3
  have hok:ok=true:=by
   rcases hec with h|h
   ·exact h.1
   ·obtain⟨rfl,rfl⟩:=Prod.mk.inj h;cases hf
  subst hok;have hre:=Qu (f:=rEnt) hje;have heb2:=heb e (AA hje);have hT:Af (Qah s ns 0 q=Qah s ns (e.2.toNat:Nat) (q.drop (k+1))):=Pm.hid (by rw[hF2.out,hf];simp only;rw[show((e.2.toNat:Nat):Int)=e.2 by omega]);clear hF2 hd hec heb hf hj hje;obtain⟨nm,id⟩:=e;obtain⟨id,rfl⟩:=AK (show 0<=id by have:=heb2.2.1;omega);simp only[AB] at hT
  repeat' first|refine kS ?_|refine qS (iy hr) ?_|refine qS (iy hre) ?_|refine kU ?_|fail
  all_goals first|exact Qn (q.length -(k+1)) (by omega) ⟨k+1,id,by omega,rfl,Pm.hid hT.out,rfl⟩|exfalso;simp only[decide_eq_true_eq] at*;omega
def Qcs:Nat->List UInt8->List (List UInt8)
 |0,_=>[]
 |n+1,s=>if s=[] then [] else s.take 128::Qcs n (s.drop 128)
def QaK(s:List UInt8):List (List UInt8):=Qcs s.length s
def Qrt: ∀(n:Nat) (s:List UInt8),s.length<=n->(Qcs n s).length=(s.length+127)/128
 |0,s,h=>by
  have:s.length=0:=by omega
  rw[this];rfl
 |n+1,s,h=>by
  unfold Qcs;split
  ·rename_i h0;rw[h0];rfl
  ·rename_i h0
   have h1:0<s.length:=AI.2 h0;rw[Ab,Qrt n _ (by rw[AD];omega),AD];omega
def Qaw(w:Pl.Sto)(t:Pl.Tree):List (List UInt8)->Nat->Pl.Sto×Pl.Tree×Bool
 |[],_=>(w,t,true)
 |x::l,k=>if(Qp w t k x).2.2 then Qaw (Qp w t k x).1 (Qp w t k x).2.1 l (k+1) else((Qp w t k x).1,t,false)
def Qa2(w:Pl.Sto)(t:Pl.Tree)(text:List UInt8):Pl.Sto×Pl.Tree×Bool:=
 if 16<(QaK text).length then(w,t,false) else
 if(Qaw w t (QaK text) 0).2.2 then QJ (Qaw w t (QaK text) 0).1 (Qaw w t (QaK text) 0).2.1 (QaK text).length else Qaw w t (QaK text) 0
structure QcE(w:Pl.Sto)(t:Pl.Tree)(w':Pl.Sto)(t':Pl.Tree)(X:List Pl.Ptr):Prop where
 tr:Qbu w' t'
 live:QT w' (QA w'.st t'++X)
 keep:QaG w w' X
 txg:w'.txg=w.txg
def QkB{X:List Pl.Ptr}: ∀(l:List (List UInt8)) (k:Nat) {w:Pl.Sto} {t:Pl.Tree},Qbu w t->QT w (QA w.st t++X)->k+l.length<=16->(Qaw w t l k).2.2=true->
 QcE w t (Qaw w t l k).1 (Qaw w t l k).2.1 X/\(Qaw w t l k).2.1.many=(if l=[] then t.many.toNat else max t.many.toNat (k+l.length):Nat)
 |[],k,w,t,hT,h,_,_=>⟨⟨hT,h,fun _ _=>rfl,rfl⟩,by have:=hT.good.manyLo;rw[if_pos rfl];show t.many=_;omega⟩
 |x::l,k,w,t,hT,h,hk,hok=>by
  simp only[Qaw] at hok⊢;rw[Ab] at hk;split at hok;rotate_left
  ·cases hok
  rename_i h1;rw[if_pos h1];obtain⟨a1,a2,a3,a4,a5,_⟩:=QmT hT (by omega) h h1;generalize Qp w t k x=y at*;obtain⟨⟨b1,b2,b3,b4⟩,b5⟩:=QkB l (k+1) a1 a3 (by omega) hok;refine⟨⟨b1,b2,fun q hq=>(b3 q hq).trans (a4 q hq),b4.trans a5⟩,?_⟩;rw[b5,a2,if_neg (show ¬x::l=[] by simp)];split
  ·rename_i h0;rw[h0,AB];simp
  ·rw[AB,Ab];omega
def bput_in{X:List Pl.Ptr}{text:List UInt8}(hT:Qbu w t)(h:QT w (QA w.st t++X))(hok:(Qa2 w t text).2.2=true):
 QcE w t (Qa2 w t text).1 (Qa2 w t text).2.1 X/\(Qa2 w t text).2.1.many=(text.length+127)/128/\text.length<=2048:=by
 have hc:(QaK text).length=(text.length+127)/128:=Qrt _ _ (Ai _);unfold Qa2 at hok⊢;split at hok
 ·cases hok
 rename_i h16;rw[if_neg h16];split at hok
 ·rename_i h1
  rw[if_pos h1];obtain⟨⟨a1,a2,a3,a4⟩,_⟩:=QkB (QaK text) 0 hT h (by omega) h1;generalize Qaw w t (QaK text) 0=y at*;obtain⟨b1,b2,b3,b4,b5,_⟩:=QsG a1 a2 (by omega) hok;refine⟨⟨b1,b3,fun q hq=>(b4 q hq).trans (a3 q hq),b5.trans a4⟩,?_,by omega⟩;rw[b2,hc];omega
 ·rename_i h1;exact absurd hok h1
def QuP(h:Qbu w t):Pl.ptrHole t.root=true∨t.root.level=t.depth:=by
 have hl:=h.lv
 have hbl: ∀{p:Pl.Ptr} {n:Int},(Qh w.st p n).2=true->Pl.ptrHole p=true∨p.level=n:=fun{p n} hb=>by
  unfold Qh at hb;split at hb
  ·exact .inl (by assumption)
  ·split at hb
   ·rename_i hc
    simp only[AC,beq_iff_eq] at hc;exact .inr hc.1.1.2
   ·cases hb
 have hd:t.depth=0∨t.depth=1∨t.depth=2:=by rw[h.dep];rcases Qgo t.many.toNat with e|e|e<;>rw[e]<;>simp
 rcases hd with hd|hd|hd
 ·have:=h.zero t.root (by rw[leaves0 _ hd];exact Ak.2 rfl)
  rw[hd];exact this
 ·rw[leaves1 _ hd] at hl
  split at hl
  ·rename_i hb;rw[hd];exact hbl hb
  ·cases hl
 ·rw[leaves2 _ hd] at hl
  split at hl
  ·rename_i hb;rw[hd];exact hbl hb
  ·cases hl
def Qr(w:Pl.Sto)(t:Pl.Tree)(k:Nat):Qi×Bool:=Qq (Qj w.rows ((Qg w.st t).getD k Pl.hole)).1
def Qbh(s:Pm.Store)(n:Qi×Bool):List Pl.Ptr:=if n.2 then QA s n.1.tree else []
def QbA(w:Pl.Sto)(t:Pl.Tree)(id:Nat):List Pl.Ptr:=(A5 16).flatMap fun k=>if k=id then [] else Qbh w.st (Qr w t k)
def Qcj(w:Pl.Sto)(t:Pl.Tree):List Pl.Ptr:=(A5 16).flatMap fun k=>Qbh w.st (Qr w t k)
theorem QoB{α:Type}(f:Nat->List α)(id:Nat): ∀l:List Nat,l.Nodup->id∈l->(l.flatMap f).Perm (f id++l.flatMap fun k=>if k=id then [] else f k)
 |[],_,h=>by cases h
 |k::l,hn,h=>by
  rw[List.nodup_cons] at hn;rw[AF,AF]
  by_cases hk:k=id
  ·subst hk
   rw[if_pos rfl,As]
   have:(l.flatMap fun j=>if j=k then [] else f j)=l.flatMap f:=by
    rw[AE,AE,AU fun j hj=>if_neg (fun e=>hn.1 (by rw[<-e];exact hj))]
   rw[this]
  ·rw[if_neg hk]
   have ih:=QoB f id l hn.2 (by rcases List.mem_cons.1 h with e|e;exact absurd e.symm hk;exact e);refine(A9 _ ih).trans ?_;rw[<-A8,<-A8];exact AN _ A7
def QrB(w:Pl.Sto)(t:Pl.Tree){id:Nat}(h:id<16):(Qcj w t).Perm (Qbh w.st (Qr w t id)++QbA w t id):=QoB _ id _ List.nodup_range (A4.2 h)
structure QcU(w:Pl.Sto)(t:Pl.Tree)(id:Nat)(E:List Pl.Ptr):Prop where
 tr:Qbu w t
 nod: ∀k,k<16->k≠id->(Qr w t k).2=true->Qbu w (Qr w t k).1.tree
 live:QT w (QA w.st t++(QbA w t id++E))
structure QbL(w:Pl.Sto)(t:Pl.Tree):Prop where
 tr:Qbu w t
 nod: ∀k,k<16->(Qr w t k).2=true->Qbu w (Qr w t k).1.tree
 live:QT w (QA w.st t++Qcj w t)
def Qib(h:QbL w t){id:Nat}(hid:id<16):QcU w t id (Qbh w.st (Qr w t id)):=
 ⟨h.tr,fun k hk _=>h.nod k hk,h.live.perm (A9 _ ((QrB w t hid).trans A7))⟩
def Qtr(hT:Qbu w t)(k:Nat):Pl.ptrHole ((Qg w.st t).getD k Pl.hole)=true∨(Qg w.st t).getD k Pl.hole∈QA w.st t:=by
 cases hh:Pl.ptrHole ((Qg w.st t).getD k Pl.hole)
 ·refine .inr ?_
  have hk:k<(Qg w.st t).length:=by
   rw[A0] at hh;cases hx:(Qg w.st t)[k]? with
   |none=>rw[hx] at hh;exact absurd hh (by decide)
   |some q=>exact(AY.1 hx).1
  unfold QA;rw[<-Qnh];exact AP _ (QeI.2 ⟨Pl.QdR hk,hh⟩)
 ·exact .inl rfl
def QmY(h:Pl.ptrHole p=true∨w'.rows.getD p.pat.toNat []=w.rows.getD p.pat.toNat []):Qj w'.rows p=Qj w.rows p:=by
 rcases h with h|h
 ·rw[Qgk h,QeG,QeG]
 ·unfold Qj;rw[h]
def Qfp{s:Pm.Store}{q:Pl.Ptr}(h:q∈QC s t):q∈QA s t:=AG _ h
def Ql2{id:Nat}{E E':List Pl.Ptr}(h:QcU w t id E)(hk:QaG w w' (QA w.st t++QbA w t id))(ht:w.txg<=w'.txg)(hl:QT w' (QA w.st t++(QbA w t id++E'))):
 QcU w' t id E'/\(∀k,Qr w' t k=Qr w t k)/\QA w'.st t=QA w.st t/\QbA w' t id=QbA w t id:=by
 obtain⟨k1,k2,k3,k4,k5⟩:=Qfl (w':=w') h.tr (fun q hq=>hk q (AG _ (Qfp hq))) ht
 have hnd: ∀k,Qr w' t k=Qr w t k:=fun k=>by
  unfold Qr;rw[k5,QmY ((Qtr h.tr k).imp (fun e=>e) fun e=>hk _ (AG _ e))]
 have hnp: ∀k,k<16->k≠id->Qbh w'.st (Qr w t k)=Qbh w.st (Qr w t k)/\((Qr w t k).2=true->Qbu w' (Qr w t k).1.tree):=fun k hk16 hki=>by
  cases hn:(Qr w t k).2
  ·unfold Qbh;rw[hn];exact⟨rfl,fun e=>by cases e⟩
  ·have hT2:=h.nod k hk16 hki hn
   have hin: ∀q∈QA w.st (Qr w t k).1.tree,q∈QbA w t id:=fun q hq=>by
    unfold QbA;refine AS.2 ⟨k,A4.2 hk16,?_⟩;rw[if_neg hki];unfold Qbh;rw[hn];exact hq
   obtain⟨j1,_,_,j4,_⟩:=Qfl (w':=w') hT2 (fun q hq=>hk q (AP _ (hin q (Qfp hq)))) ht;unfold Qbh;rw[hn];exact⟨j4,fun _=>j1⟩
 have hx:QbA w' t id=QbA w t id:=by
  unfold QbA;rw[AE,AE,AU fun k hk=>?_]
  by_cases hki:k=id
  ·rw[if_pos hki,if_pos hki]
  ·rw[if_neg hki,if_neg hki,hnd];exact(hnp k (A4.1 hk) hki).1
 exact⟨⟨k1,fun k hk16 hki hn=>by rw[hnd] at hn⊢;exact(hnp k hk16 hki).2 hn,by rw[k4,hx];exact hl⟩,hnd,k4,hx⟩
def Qny{x:List UInt8}(h:x.length<=100):(Pl.item x).length<=104:=by
 have:=Pl.Qdb 2 x.length (by omega);rw[Pl.QgS];omega
def Qrp(h:Pl.ptrOk p=true):(Pl.ptrPut p).length<=100:=by
 obtain⟨h1,h2,h3,h4,h5⟩:=Pl.QdC h;unfold Pl.ptrPut;rw[if_pos h];split
 ·decide
 ·have a1:=Pl.Qdb 9 p.pat.toNat (by omega)
  have a2:=Pl.Qdb 9 p.birth.toNat (by omega);have a3:=Pl.Qdb 9 p.size.toNat (by omega);have a4:=Pl.Qdb 9 p.sum.toNat (by omega);have a5:=Pl.Qdb 9 p.level.toNat (by omega);simp[Pl.ptrText,Pl.dots];omega
def Qng{n:Qi}(h:QL n=true):Qbp (Q9 n) n:=by
 have hb:=Qe5 h;have b1:=hb.kind;have b2:=hb.links;have b3:=hb.size;have b4:=hb.depth;have b5:=hb.many;have d: ∀k:Nat,k<=3000->(Pl.item (Pl.dec k)).length<=104:=fun k hk=>Qny (by have:=Pl.Qdb 9 k (by omega);omega)
 have a0:=d n.kind.toNat (by omega);have a1:=d n.links.toNat (by omega);have a2:=d n.size.toNat (by omega);have a3:=Qny (Qrp hb.ptr);have a4:=d n.tree.depth.toNat (by omega);have a5:=d n.tree.many.toNat (by omega);have a6:(Pl.item [101,110,100]).length<=104:=Qny (by decide)
 have he:(Pl.enc (Qaj n)).length<=2048:=by
  simp only[Qaj,Pl.enc,AF,List.flatMap_nil,AJ,Ar];omega
 have hf:Pl.Qdi (Qaj n)=some (Pl.enc (Qaj n)):=by unfold Pl.Qdi;rw[if_pos ⟨by simp[Qaj],he⟩]
 refine⟨h,?_⟩;unfold Q9 Pl.fp;rw[if_pos h,hf];exact Pl.QgH.1 hf
def QiV:Qq []=(Qd,false):=by
 refine QlX fun n h=>?_
 have h2:=h.2.2.2;simp only[Qaj,Pl.Qfg] at h2;exact Pl.QfN _ (List.append_eq_nil_iff.1 h2).1
def ng_put(n:Qi):Qq (Q9 n)=if QL n then(n,true) else(Qd,false):=by
 cases h:QL n
 ·have:Q9 n=[]:=by unfold Q9;rw[h];rfl
  rw[this,QiV];rfl
 ·exact ng_is (Qng h)
theorem Qpn{id:Nat}{n:Qi}(hid:id<16)(h:QcU w t id (QA w.st n.tree))(hn:QL n=true->Qbu w n.tree)(hok:(Qp w t id (Q9 n)).2.2=true):
 QbL (Qp w t id (Q9 n)).1 (Qp w t id (Q9 n)).2.1/\(Qp w t id (Q9 n)).2.1.many=(max t.many.toNat (id+1):Nat)/\
 (∀k,k≠id->Qr (Qp w t id (Q9 n)).1 (Qp w t id (Q9 n)).2.1 k=Qr w t k)/\Qr (Qp w t id (Q9 n)).1 (Qp w t id (Q9 n)).2.1 id=if QL n then(n,true) else(Qd,false):=by
 obtain⟨a1,a2,a3,a4,a5,a6,a7⟩:=QmT h.tr hid h.live hok;generalize Qp w t id (Q9 n)=y at*
 have hnd: ∀k,k≠id->Qr y.1 y.2.1 k=Qr w t k:=fun k hk=>by
  obtain⟨b1,b2⟩:=a6 k hk;unfold Qr;rw[b1,b2]
 have hndi:Qr y.1 y.2.1 id=if QL n then(n,true) else(Qd,false):=by unfold Qr;rw[a7,ng_put]
 have htr: ∀k,k<16->k≠id->(Qr w t k).2=true->Qbu y.1 (Qr w t k).1.tree/\QA y.1.st (Qr w t k).1.tree=QA w.st (Qr w t k).1.tree:=fun k hk16 hk hn2=>by
  have hin: ∀q∈QA w.st (Qr w t k).1.tree,q∈QbA w t id:=fun q hq=>by
   unfold QbA;refine AS.2 ⟨k,A4.2 hk16,?_⟩;rw[if_neg hk];unfold Qbh;rw[hn2];exact hq
  obtain⟨j1,_,_,j4,_⟩:=Qfl (w':=y.1) (h.nod k hk16 hk hn2) (fun q hq=>a4 q (AG _ (hin q (Qfp hq)))) (by rw[a5];exact AH _);exact⟨j1,j4⟩
 have hx:QbA y.1 y.2.1 id=QbA w t id:=by
  unfold QbA;rw[AE,AE,AU fun k hk=>?_]
  by_cases hki:k=id
  ·rw[if_pos hki,if_pos hki]
  ·rw[if_neg hki,if_neg hki,hnd k hki]
   unfold Qbh;cases hn2:(Qr w t k).2
   ·rfl
   ·exact(htr k (A4.1 hk) hki hn2).2
 have hni:QL n=true->Qbu y.1 n.tree/\QA y.1.st n.tree=QA w.st n.tree:=fun hno=>by
  obtain⟨j1,_,_,j4,_⟩:=Qfl (w':=y.1) (hn hno) (fun q hq=>a4 q (AP _ (Qfp hq))) (by rw[a5];exact AH _);exact⟨j1,j4⟩
 refine⟨⟨a1,fun k hk16 hn2=>?_,?_⟩,a2,hnd,hndi⟩
 ·by_cases hki:k=id
  ·subst hki
   rw[hndi] at hn2⊢;split at hn2
   ·rename_i hno;rw[if_pos hno];exact(hni hno).1
   ·cases hn2
  ·rw[hnd k hki] at hn2⊢
   exact(htr k hk16 hki hn2).1
 ·have hp:=QrB y.1 y.2.1 hid
  rw[hx,hndi] at hp;cases hno:QL n
  ·rw[hno] at hp
   refine QT.sub (R:=QA w.st n.tree) a3 ?_;rw[<-A8];exact AN _ (A9 _ hp.symm)
  ·rw[hno] at hp
   refine a3.perm (A9 _ ?_);refine(A7).trans ?_
   have e:Qbh y.1.st (if true=true then(n,true) else(Qd,false))=QA w.st n.tree:=by
    unfold Qbh;simp only[if_true];exact(hni hno).2
   rw[e] at hp;exact hp.symm
abbrev Q7:=Pl.Sto×Pl.Tree×Bool
def Qax(f:Q7)(id:Nat)(n:Qi):Q7:=
 if f.2.2 then f else((Qp f.1 f.2.1 id (Q9 n)).1,(Qp f.1 f.2.1 id (Q9 n)).2.1,!(Qp f.1 f.2.1 id (Q9 n)).2.2)
def Qk(f:Q7)(id:Nat):Qi:=(Q4 f.1.st f.2.1 id).1
def QX(f:Q7)(id:Nat)(l:List Ql):Q7:=
 if f.2.2 then f else Qax ((Qa2 f.1 (Qk f id).tree (QB l)).1,f.2.1,!(Qa2 f.1 (Qk f id).tree (QB l)).2.2) id
  {Qk f id with tree:=(Qa2 f.1 (Qk f id).tree (QB l)).2.1,size:=(QB l).length}
def QeT(hT:Qbu w t)(hk:k<16):Q4 w.st t k=Qr w t k:=by
 unfold Q4 Qr;split
 ·rename_i h;rw[texts_get w.st hT.good h];rfl
 ·rename_i h
  rw[hT.top k (by have:=hT.good.manyLo;omega),QeG,QiV]
def Qda(f:Q7):Prop:=f.2.2=false->QbL f.1 f.2.1
variable{f:Q7}
def Qn6{id:Nat}{n:Qi}(hid:id<16)(h:f.2.2=false->QcU f.1 f.2.1 id (QA f.1.st n.tree))(hn:f.2.2=false->QL n=true->Qbu f.1 n.tree)(hok:(Qax f id n).2.2=false):
 f.2.2=false/\QbL (Qax f id n).1 (Qax f id n).2.1/\(Qax f id n).2.1.many=(max f.2.1.many.toNat (id+1):Nat)/\
 (∀k,k≠id->Qr (Qax f id n).1 (Qax f id n).2.1 k=Qr f.1 f.2.1 k)/\Qr (Qax f id n).1 (Qax f id n).2.1 id=if QL n then(n,true) else(Qd,false):=by
 unfold Qax at hok⊢;cases hf:f.2.2
 ·rw[hf] at hok
  simp only[AX,if_false,Bool.not_eq_false'] at hok⊢;exact⟨trivial,Qpn hid (h hf) (hn hf) hok⟩
 ·rw[hf] at hok
  simp only[if_true] at hok;rw[hok] at hf;cases hf
def QtE{size:Nat}(h:size<=2048):Qak 2 size=((size+127)/128:Nat):=by
 unfold Qak;have e:QaY 2=128:=rfl;rw[e,if_neg (by decide),if_pos (by simp[Pl.inR];omega)];omega
def QnI(m:Nat):((Q5 m:Nat):Int)=Qbq m:=by
 unfold Q5 Qbq;split<;>split<;>(try split)<;>(try split)<;>first|rfl|omega
def QtL{n:Qi}{size:Nat}(h:QL n=true)(hk:n.kind=2)(hT:Qbu w t)(hm:t.many=(size+127)/128)(hs:size<=2048):QL {n with tree:=t,size:=size}=true:=by
 have hl:=(Qe5 h).one hk;unfold QL;dsimp only;rw[hk,QtE hs,hT.dep,hm];have e1:(((size:Int)+127)/128).toNat=(size+127)/128:=by omega
 have e2:((size:Int)+127)/128=(((size+127)/128:Nat):Int):=by omega
 rw[e1,e2,<-QnI,hl,hT.good.root];have hlv:=QuP hT;rw[hT.dep,hm,e1] at hlv;simp[Pl.inR];refine⟨by omega,?_⟩;rcases hlv with e|e
 ·exact .inl e
 ·exact .inr e
def Qsd{id:Nat}{l:List Ql}(hid:id<16)(h:Qda f)(hn:f.2.2=false->(Qr f.1 f.2.1 id).2=true/\(Qr f.1 f.2.1 id).1.kind=2)(hok:(QX f id l).2.2=false):
 f.2.2=false/\QbL (QX f id l).1 (QX f id l).2.1/\(QX f id l).2.1.many=(max f.2.1.many.toNat (id+1):Nat)/\
 (∀k,k≠id->Qr (QX f id l).1 (QX f id l).2.1 k=Qr f.1 f.2.1 k)/\(Qr (QX f id l).1 (QX f id l).2.1 id).2=true/\(Qr (QX f id l).1 (QX f id l).2.1 id).1.kind=2:=by
 unfold QX at hok⊢;cases hf:f.2.2;rotate_left
 ·rw[hf] at hok;simp only[if_true] at hok;rw[hok] at hf;cases hf
 rw[hf] at hok;simp only[AX,if_false] at hok⊢;have hF:=h hf;obtain⟨hn1,hn2⟩:=hn hf;have e1:Qk f id=(Qr f.1 f.2.1 id).1:=by unfold Qk;rw[QeT hF.tr hid]
 rw[e1] at hok⊢;have hop:=Qib hF hid;have hT:=hF.nod id hid hn1
 have hnok:QL (Qr f.1 f.2.1 id).1=true:=by
  unfold Qr at hn1⊢;rcases Qg0 (Qj f.1.rows ((Qg f.1.st f.2.1).getD id Pl.hole)).1 with e|e
  ·exact e.1.1
  ·rw[e] at hn1;cases hn1
 have hE:Qbh f.1.st (Qr f.1 f.2.1 id)=QA f.1.st (Qr f.1 f.2.1 id).1.tree:=by unfold Qbh;rw[hn1];rfl
 rw[hE] at hop;have hb: ∀(hb0:(Qa2 f.1 (Qr f.1 f.2.1 id).1.tree (QB l)).2.2=true),_:=fun hb0=>bput_in hT (X:=QA f.1.st f.2.1++QbA f.1 f.2.1 id) (hop.live.perm (by rw[<-A8];exact A7)) hb0
 generalize Qa2 f.1 (Qr f.1 f.2.1 id).1.tree (QB l)=y at*
 have key:y.2.2=true->QcU y.1 f.2.1 id (QA y.1.st y.2.1)/\(∀k,Qr y.1 f.2.1 k=Qr f.1 f.2.1 k)/\Qbu y.1 y.2.1/\QL {(Qr f.1 f.2.1 id).1 with tree:=y.2.1,size:=((QB l).length:Nat)}=true:=fun hy=>by
  obtain⟨⟨b1,b2,b3,b4⟩,b5,b6⟩:=hb hy;obtain⟨c1,c2,_⟩:=Ql2 (w':=y.1) (E':=QA y.1.st y.2.1) hop b3 (by rw[b4];exact AH _) (b2.perm (by rw[<-A8 (QA f.1.st f.2.1)];exact A7));exact⟨c1,c2,b1,QtL hnok hn2 b1 b5 b6⟩
 obtain⟨d1,d2,d3,d4,d5⟩:=Qn6 (f:=(y.1,f.2.1,!y.2.2)) hid (fun e=>(key (by simpa using e)).1) (fun e _=>(key (by simpa using e)).2.2.1) hok;have hy:y.2.2=true:=by simpa using d1
 obtain⟨_,k2,_,k4⟩:=key hy;refine⟨trivial,d2,d3,fun k hk=>by rw[d4 k hk];exact k2 k,?_⟩;rw[d5,k4];exact⟨rfl,hn2⟩
def QuR:QL Qd=false:=by decide
def QfX(w:Pl.Sto):Qbu w ⟨Pl.hole,0,0⟩/\QA w.st ⟨Pl.hole,0,0⟩=[]:=by
 have e:=leaves0 w.st (t:=⟨Pl.hole,0,0⟩) rfl;refine⟨⟨⟨by decide,by decide,QdN,by decide,by decide⟩,rfl,by rw[e],by rw[e];intro p hp;rw[Ak.1 hp];exact .inl Qdr,fun i _=>?_⟩,?_⟩
 ·unfold Qg
  rw[e];show(Pl.hole::A3 15 Pl.hole).getD i Pl.hole=_;rw[<-List.replicate_succ,A0,List.getElem?_replicate];split<;>rfl
 ·unfold QA
  rw[Qfz rfl,e];unfold Qt;simp[Qdr]
def Qa7(w:Pl.Sto)(t:Pl.Tree)(id:Nat)(l:List Pl.Ptr)(many:Nat):Q7:=
 if(Qp (w.freeL l) t id []).2.2 then QJ (Qp (w.freeL l) t id []).1 (Qp (w.freeL l) t id []).2.1 many else Qp (w.freeL l) t id []
def Qty{id many:Nat}{l:List Pl.Ptr}(h:QbL w t)(hid:id<16)(hl:l.Perm (Qbh w.st (Qr w t id)))(hm:many<=16)(hok:(Qa7 w t id l many).2.2=true):
 QbL (Qa7 w t id l many).1 (Qa7 w t id l many).2.1/\(Qa7 w t id l many).2.1.many=many:=by
 have hop:=Qib h hid
 have hlive:QT w (l++(QA w.st t++QbA w t id)):=hop.live.perm (by
  rw[<-A8]
  exact(A7).trans (AN _ hl.symm))
 obtain⟨g1,g2⟩:=QiD l hlive;have htx:=Qht l w;obtain⟨c1,c2,c3,c4⟩:=Ql2 (w':=w.freeL l) (E':=[]) hop g2 (by rw[htx];exact AH _) (by rw[Au];exact g1);unfold Qa7 at hok⊢;generalize w.freeL l=u at*;split at hok;rotate_left
 ·rename_i h1;exact absurd hok h1
 rename_i h1;rw[if_pos h1];have hz:Q9 Qd=[]:=by unfold Q9;rw[QuR];rfl
 have hcl:=Qpn (n:=Qd) hid (w:=u) (t:=t) (by rw[show Qd.tree=⟨Pl.hole,0,0⟩ from rfl,(QfX u).2];exact c1) (fun e=>by rw[QuR] at e;cases e) (by rw[hz];exact h1);rw[hz] at hcl;obtain⟨d1,d2,d3,d4⟩:=hcl;generalize Qp u t id []=y at*;obtain⟨e1,e2,e3,e4,e5,e6,e7⟩:=QsG d1.tr d1.live hm hok;generalize QJ y.1 y.2.1 many=z at*;refine⟨⟨e1,?_,?_⟩,e2⟩
 ·intro k hk hn
  by_cases hkm:k<many
  ·have hnd:Qr z.1 z.2.1 k=Qr y.1 y.2.1 k:=by
    unfold Qr;rw[e6 k hkm,QmY];cases hh:Pl.ptrHole ((Qg y.1.st y.2.1).getD k Pl.hole)
    ·refine .inr (e7 _ (QeI.2 ⟨?_,hh⟩))
     have hwl:=QdG y.1.st d1.tr.good.hi;rw[A0,A1 (by omega)];exact AZ.2 ⟨k,by omega,rfl⟩
    ·exact .inl rfl
   rw[hnd] at hn⊢;have hT:=d1.nod k hk hn;refine(Qfl (w':=z.1) hT (fun q hq=>e4 q ?_) (by rw[e5];exact AH _)).1;unfold Qcj;refine AS.2 ⟨k,A4.2 hk,?_⟩;unfold Qbh;rw[hn];exact Qfp hq
  ·unfold Qr at hn
   rw[e1.top k (by rw[e2];omega),QeG,QiV] at hn;cases hn
 ·have hsub:(Qcj z.1 z.2.1).Sublist (Qcj y.1 y.2.1):=by
   unfold Qcj
   have hg: ∀l:List Nat,(∀k∈l,k<16)->(l.flatMap fun k=>Qbh z.1.st (Qr z.1 z.2.1 k)).Sublist (l.flatMap fun k=>Qbh y.1.st (Qr y.1 y.2.1 k)):=by
    intro l;induction l with
    |nil=>intro _;exact .slnil
    |cons k l ih=>
     intro hl;rw[AF,AF];refine Ax ?_ (ih fun j hj=>hl j (List.mem_cons_of_mem _ hj));have hk:=hl k List.mem_cons_self
     by_cases hkm:k<many
     ·have hnd:Qr z.1 z.2.1 k=Qr y.1 y.2.1 k:=by
       unfold Qr;rw[e6 k hkm,QmY];cases hh:Pl.ptrHole ((Qg y.1.st y.2.1).getD k Pl.hole)
       ·refine .inr (e7 _ (QeI.2 ⟨?_,hh⟩))
        have hwl:=QdG y.1.st d1.tr.good.hi;rw[A0,A1 (by omega)];exact AZ.2 ⟨k,by omega,rfl⟩
       ·exact .inl rfl
      rw[hnd];unfold Qbh;cases hn:(Qr y.1 y.2.1 k).2
      ·exact Am _
      ·simp only[if_true]
       rw[(Qfl (w':=z.1) (d1.nod k hk hn) (fun q hq=>e4 q (by
        unfold Qcj;refine AS.2 ⟨k,A4.2 hk,?_⟩
        unfold Qbh;rw[hn];exact Qfp hq)) (by rw[e5];exact AH _)).2.2.2.1]
       exact Am _
     ·have:Qbh z.1.st (Qr z.1 z.2.1 k)=[]:=by
       unfold Qr;rw[e1.top k (by rw[e2];omega),QeG,QiV];rfl
      rw[this];exact List.nil_sublist _
   exact hg _ fun k hk=>A4.1 hk
  obtain⟨R,hR⟩:=Qof hsub;refine e3.sub (R:=R) ?_;rw[A8];exact A9 _ hR
attribute [local irreducible] EndR
theorem Qot: ∀(n m:Nat) (s:List UInt8),s.length<=n->s.length<=m->Qcs n s=Qcs m s
 |0,0,s,_,_=>rfl
 |0,m+1,s,h,_=>by
  have:s=[]:=Ac.1 (by omega);subst this;rfl
 |n+1,0,s,_,h=>by
  have:s=[]:=Ac.1 (by omega);subst this;rfl
 |n+1,m+1,s,h1,h2=>by
  unfold Qcs;split
  ·rfl
  ·rename_i h0
   have:=AI.2 h0;rw[Qot n m (s.drop 128) (by rw[AD];omega) (by rw[AD];omega)]
def QoR{s:List UInt8}(h:s≠[]):QaK s=s.take 128::QaK (s.drop 128):=by
 have:=AI.2 h;unfold QaK;obtain⟨n,hn⟩: ∃n,s.length=n+1:=⟨s.length -1,by omega⟩;rw[hn];show(if s=[] then [] else s.take 128::Qcs n (s.drop 128))=_;rw[if_neg h,Qot n (s.drop 128).length _ (by rw[AD];omega) (Ai _)]
def QoQ:QaK []=[]:=rfl
def Qqd{s:List UInt8}(h:s≠[])(h2:s.length<=128):QaK s=[s]:=by
 rw[QoR h,A6 h2,Ae h2,QoQ]
def Qti(s:List UInt8)(hs:s.length<=1000000000000):Pure A2 253 [dS s] (tStrs (QaK s)):=by
 refine kE ?_
 repeat refine kA ?_
 refine Qs (fun m st=> ∃(g:Nat) (out:List (List UInt8)) (r:List UInt8),m=r.length/\out.length+r.length<=s.length/\Af (out++QaK r=QaK s)/\st=⟨22,[(3,.osl 0 g 0 out.length),(0,.d (dS r))],[.arr g 1 9 (out.map fun s=>[dS s])]⟩) [3,0] 1 s.length ⟨0,[],s,rfl,by simp,Pm.hid rfl,rfl⟩ (round:=?_);rintro m st ⟨g,out,r,rfl,hlen,hO,rfl⟩
 repeat refine kG ?_
 cases q3:decide ((r.length:Int)>128)
 ·have hr:r.length<=128:=by simp at q3;omega
  have h1:Af (r=[]->out=QaK s):=Pm.hid fun h=>by have:=hO.out;rw[h,QoQ,Au] at this;exact this
  have h2:Af (r≠[]->out++[r]=QaK s):=Pm.hid fun h=>by have:=hO.out;rw[Qqd h hr] at this;exact this
  clear hO;generalize QaK s=res at*
  repeat' first|refine kS ?_|refine QU Ty.h rfl Ty.h (hb:=?_) (kk:=?_)|refine kU ?_|refine kV ?_ ?_<;>intro q|fail
  all_goals first
   |(simp;omega)
   |((refine Qa 0 (h:=?_);refine Qb (hx:=?_))
     first
      |(rw[<-h2.out (by simpa using q)];simp[A6];done)
      |(rw[<-h1.out (by simpa using q)];simp[A6];done))
 have hr:128<r.length:=by simp at q3;omega
 have h2:Af (QaK r=r.take 128::QaK (r.drop 128)):=Pm.hid (QoR (by intro e;rw[e] at hr;simp at hr))
 repeat' first|refine kS ?_|refine QU Ty.h rfl Ty.h (hb:=?_) (kk:=?_)|refine qS (Qfx rfl rfl rfl (by omega) (by omega)) ?_|refine qS (Qfw rfl rfl rfl (by omega) (by omega)) ?_|refine kU ?_|fail
 all_goals first
  |(simp;omega)
  |(refine Qn (r.drop 128).length (by rw[AD];omega) ⟨g+1,out++[r.take 128],r.drop 128,rfl,by simp;omega,Pm.hid (by rw[<-hO.out,h2.out];simp),?_⟩
    simp[keepE,go_sem];done)
def Qas(l:List (List UInt8))(but:Nat):Nat:=(A5 l.length).foldl (fun n k=>if k≠but/\l.getD k []≠[] then k+1 else n) 0
def Qhp(l:List (List UInt8))(but:Nat):Qas l but<=l.length:=by
 have: ∀n,n<=l.length->(A5 n).foldl (fun n k=>if k≠but/\l.getD k []≠[] then k+1 else n) 0<=n:=by
  intro n;induction n with
  |zero=>intro _;exact Ai _
  |succ n ih=>
   intro h;rw[Ag,AO];simp only[Ah,Aj];have:=ih (by omega);split<;>omega
 exact this _ (Ai _)
theorem QpP{l:List (List UInt8)}{but:Nat}(hk:k<l.length)(h1:k≠but)(h2:l.getD k []≠[]):1<=Qas l but:=by
 have: ∀n,k<n->1<=(A5 n).foldl (fun n k=>if k≠but/\l.getD k []≠[] then k+1 else n) 0:=by
  intro n;induction n with
  |zero=>intro h;omega
  |succ n ih=>
   intro h;rw[Ag,AO];simp only[Ah,Aj];split
   ·omega
   ·rename_i hc
    by_cases hkn:k=n
    ·subst hkn;exact absurd ⟨h1,h2⟩ hc
    ·exact ih (by omega)
 exact this _ hk
theorem QuK(s:Pm.Store)(hg:QM s)(t:Pl.Tree)(ht:Qx t)(but:Nat):Pure A2 226 [dSt s,dTree t,dI but] (dI (Qas (Qc s t) but)):=by
 have c1:=Qfi s hg t ht;have hl:=texts_len s ht;have hm0:=ht.manyLo;have hm1:=ht.manyHi;generalize Qc s t=l at*;refine kE ?_;refine Qa 0 (h:=?_);refine Qa 1 (h:=?_)
 repeat refine kA ?_
 refine Qs (fun m st=> ∃(k n:Nat),k<=l.length/\m=l.length -k/\n<=k/\Af (n=(A5 k).foldl (fun n k=>if k≠but/\l.getD k []≠[] then k+1 else n) 0)/\st=⟨32,[(9,.d (dI k)),(8,.d (tStrs l)),(7,.d (dI n)),(4,.d (.pd (rTree t))),(2,.d (dI but))],[.row 1 [],.row 1 []]⟩) [9,8,7,4,2] 2 l.length ⟨0,0,by omega,rfl,by omega,Pm.hid rfl,rfl⟩ (round:=?_);rintro m st ⟨k,n,hk,rfl,hnk,hn,rfl⟩
 repeat refine kG ?_
 cases q4:decide ((k:Int)<t.many)
 ·repeat refine kA ?_
  refine Qb (hx:=?_);have:k=l.length:=by simp at q4;omega
  rw[hn.out,this];rfl
 have hk2:k<l.length:=by simp at q4;omega
 obtain⟨x,hx⟩: ∃x,l[k]? =some x:=⟨_,A1 hk2⟩;have hr:=Qu (f:=fun s=>[dS s]) hx
 have T:Af ((A5 (k+1)).foldl (fun n k=>if k≠but/\l.getD k []≠[] then k+1 else n) 0=if k≠but/\x≠[] then k+1 else n):=Pm.hid (by
  rw[Ag,AO,<-hn.out];simp only[Ah,Aj]
  rw[A0,hx];rfl)
 clear hx hn
 repeat' first|refine kS ?_|refine qS (iy hr) ?_|refine kU ?_|refine kV ?_ ?_<;>intro q|fail
 all_goals first|refine Qn (l.length -(k+1)) (by omega) ⟨k+1,k+1,by omega,rfl,by omega,Pm.hid (by rw[T.out,if_pos (by simp_all;omega)]),?_⟩;simp[keepE,go_sem];done|refine Qn (l.length -(k+1)) (by omega) ⟨k+1,n,by omega,rfl,by omega,Pm.hid (by rw[T.out,if_neg (by simp_all;omega)]),?_⟩;simp[keepE,go_sem];done|refine Qn (l.length -(k+1)) (by omega) ⟨k+1,k+1,by omega,rfl,by omega,Pm.hid (by rw[T.out,if_pos (by simp_all)]),?_⟩;simp[keepE,go_sem];done|refine Qn (l.length -(k+1)) (by omega) ⟨k+1,n,by omega,rfl,by omega,Pm.hid (by rw[T.out,if_neg (by simp_all)]),?_⟩;simp[keepE,go_sem];done
def QbX(l:List (List UInt8)):Option Nat:=(A5 16).find? fun k=>decide (l.length<=k)||l.getD k []==[]
def Qjp{l:List (List UInt8)}(h:QbX l=some k):k<16/\l.getD k []=[]:=by
 have h1:=List.mem_of_find?_eq_some h;have h2:=List.find?_some h;refine⟨A4.1 h1,?_⟩;simp only[Bool.or_eq_true,decide_eq_true_eq,beq_iff_eq] at h2;rcases h2 with h2|h2
 ·rw[A0,List.getElem?_eq_none h2];rfl
 ·exact h2
def QnA{p:Nat->Bool}(h: ∀i,i<16->p i=false):(A5 16).find? p=none:=by
 rw[AW];intro x hx;rw[h x (A4.1 hx)];simp
def Qn9{p:Nat->Bool}(h: ∀i,i<k->p i=false)(hk:k<16)(hp:p k=true):(A5 16).find? p=some k:=by
 rw[List.find?_eq_some_iff_getElem];exact⟨hp,k,by simpa using hk,by simp,fun j hj=>by simp[h j hj]⟩
def QuL(s:Pm.Store)(hg:QM s)(t:Pl.Tree)(ht:Qx t):Pure A2 180 [dSt s,dTree t] (dI (QcP (QbX (Qc s t)))):=by
 have c1:=Qfi s hg t ht;have hl:=texts_len s ht;have hm0:=ht.manyLo;have hm1:=ht.manyHi;generalize Qc s t=l at*;refine kE ?_;refine Qa 0 (h:=?_);refine Qa 1 (h:=?_)
 repeat refine kA ?_
 refine Qs (fun m st=> ∃k:Nat,k<=16/\m=16 -k/\Af (∀i,i<k->(decide (l.length<=i)||l.getD i []==[])=false)/\st=⟨26,[(6,.d (dI k)),(5,.d (tStrs l))],[.row 1 [],.row 1 []]⟩) [6,5] 2 16 ⟨0,by omega,rfl,Pm.hid (fun i hi=>by omega),rfl⟩ (round:=?_);rintro m st ⟨k,hk,rfl,hA,rfl⟩
 repeat refine kG ?_
 cases q4:decide ((k:Int)<16)
 ·have:k=16:=by simp at q4;omega
  have hres:Af (QbX l=none):=Pm.hid (QnA fun i hi=>hA.out i (by omega))
  repeat refine kA ?_
  all_goals exact Qb (hx:=by rw[hres.out];rfl)
 have hk2:k<16:=by simp at q4;omega
 have F:Af ((decide (l.length<=k)||l.getD k []==[])=true->QbX l=some k):=Pm.hid fun h=>Qn9 hA.out hk2 h
 have T:Af ((decide (l.length<=k)||l.getD k []==[])=false-> ∀i,i<k+1->(decide (l.length<=i)||l.getD i []==[])=false):=Pm.hid fun h i hi=>by
  by_cases hik:i=k
  ·rw[hik];exact h
  ·exact hA.out i (by omega)
 clear hA
 by_cases hkl:k<l.length
 ·obtain⟨x,hx⟩: ∃x,l[k]? =some x:=⟨_,A1 hkl⟩
  have hr:=Qu (f:=fun s=>[dS s]) hx;rw[A0,hx,AT,decide_eq_false (by omega),Bool.false_or] at F T;clear hx
  repeat' first|refine kS ?_|refine qS (iy hr) ?_|refine kU ?_|refine kV ?_ ?_<;>intro q|fail
  all_goals first|exfalso;simp only[decide_eq_true_eq] at*;omega|exact Qb (hx:=by rw[F.out (by assumption)];rfl)|refine Qn (16 -(k+1)) (by omega) ⟨k+1,by omega,rfl,Pm.hid (T.out (by assumption)),?_⟩;simp[keepE,go_sem];done
 ·rw[decide_eq_true (by omega),Bool.true_or] at F
  repeat' first|refine kA ?_|refine kV ?_ ?_<;>intro q|fail
  all_goals first|exact Qb (hx:=by rw[F.out rfl];rfl)|exfalso;simp only[decide_eq_false_iff_not] at*;omega
def Qub:(A2.info? 5).map (fun i=>(i.zero,i.size,i.bytes))=some (some (.int .u8 0),1,1):=by kernel_rfl
def alZeros(z:Int)(h:z<=100000):Pure A2 231 [dI z] (dS (A3 z.toNat 0)):=by
 refine Qd6 (vs:=[.int .i64 z]) (x:= .string ⟨(A3 z.toNat (0:UInt8)).toArray⟩) rfl fun w _=>?_
 have hmx: ∃n:Nat,z.toNat=n/\max 0 z=(n:Int)/\n<=100000:=⟨z.toNat,rfl,by omega,by omega⟩;obtain⟨n,hn,hm,hnl⟩:=hmx;rw[hn];have hso:strOfNums (A3 n 0)=⟨(A3 n (0:UInt8)).toArray⟩:=by unfold strOfNums;rw[List.map_replicate];rfl
 have hmk:=Pm.run_mk (P:=A2) 22 5 _ 1 1 An Qub n (by omega) (by omega) w
 have hcv:=run_convert_bytes_arg (P:=A2) (w.alloc (.cells (madeCells (Value.int .u8 0).cells (n*1)) 5)) 22 5 An Tryz.underlying5 w.heap.size 0 n n (A3 n 0) (by simp) (fun i hi=>by
  rw[Ad,cell_of_row _ _ i _ _ _ (Qeq _ _)]
  simp[madeCells,Av,Nat.mod_one,A0,hi]) 9 Tryz.underlying9
 simp only[Av,Nat.mul_one] at hmk hcv;rw[hso] at hcv;clear hso;rw[<-hm] at hmk;clear h hm hn hnl
 go_enter Tryz.func231,Tryz.ntmps231
 go_wp2
 all_goals
  go_ret
  exact⟨rfl,Pm.bnew _ _⟩
def QbM(size:Int)(l:List (List UInt8)):Nat->List UInt8
 |0=>[]
 |k+1=>QbM size l k++l.getD k []++A3 (Qbe size k -(l.getD k []).length).toNat 0
def Qob(size:Int)(l:List (List UInt8))(h: ∀x∈l,x.length<=128): ∀k,(QbM size l k).length<=140*k
 |0=>by simp[QbM]
 |k+1=>by
  have h1:=Qob size l h k
  have h2:(l.getD k []).length<=128:=by
   rw[A0];cases h3:l[k]? with
   |none=>simp
   |some x=>exact h x (AA h3)
  have h4:Qbe size k<=12:=by unfold Qbe;split<;>omega
  simp only[QbM,AJ,AQ];omega
def QuV(size:Int)(l:List (List UInt8)): ∀k:Nat,(if size<12*k then size else 12*k)<=((QbM size l k).length:Int)
 |0=>by simp[QbM];split<;>omega
 |k+1=>by
  have h1:=QuV size l k;have h4:Qbe size k=if size -k*12<12 then size -k*12 else 12:=rfl
  simp only[QbM,AJ,AQ];rw[h4];split at h1<;>split<;>split<;>omega
def QmJ(s:Pm.Store)(hg:QM s)(n:Qi)(ht:Qx n.tree)(hs:0<=n.size/\n.size<=2048):Pure A2 230 [dSt s,dNode n] (dS (QbM n.size (Qc s n.tree) n.tree.many.toNat)):=by
 have c:=Qfi s hg n.tree ht;have hl:=texts_len s ht;have hx1:=texts_le s hg n.tree;have hm:=ht.manyHi;have hm0:=ht.manyLo;clear ht;generalize Qc s n.tree=l at*;obtain⟨kind,links,size,⟨⟨p1,p2,p3,p4,p5⟩,depth,many⟩⟩:=n;simp only at hs hl hm hm0 c⊢;rw[<-hl];refine kE ?_;refine Qa 0 (h:=?_);refine Qa 1 (h:=?_)
 repeat refine kA ?_
 refine Qs (fun m st=> ∃(k:Nat),k<=l.length/\m=16 -k/\
  st=⟨37,[(6,.d (tStrs l)),(7,.d (dI k)),(5,.d (dS (QbM size l k))),(3,.d (.pd (rNode ⟨kind,links,size,⟨⟨p1,p2,p3,p4,p5⟩,depth,many⟩⟩)))],[]⟩) [6,7,5,3] 0 16 ⟨0,by omega,rfl,rfl⟩ (round:=?_)
 rintro m st ⟨k,hk,rfl,rfl⟩
 repeat refine kG ?_
 cases q4:decide ((k:Int)<many)
 ·repeat refine kA ?_
  refine Qb (hx:=?_);have:k=l.length:=by simp at q4;omega
  rw[this]
 have hk2:k<l.length:=by simp at q4;omega
 obtain⟨x,hx⟩: ∃x,l[k]? =some x:=⟨_,A1 hk2⟩;have hr:=Qu (f:=fun s=>[dS s]) hx;have hxl:=hx1 x (AA hx);have hd:l.getD k []=x:=by rw[A0,hx];rfl
 have hst:Af (QbM size l (k+1)=QbM size l k++x++A3 (Qbe size k -x.length).toNat 0):=Pm.hid (by rw[<-hd];rfl);have c13:=Qpi size k hs.1 hs.2 (by omega);have h12:Qbe size k<=12:=by unfold Qbe;split<;>omega
 have h11: -2000<=Qbe size k:=by unfold Qbe;split<;>omega
 have cz:=alZeros (Qbe size k -x.length) (by omega);have hpl:=Qob size l hx1 k;have hlr:(A3 (Qbe size k -x.length).toNat (0:UInt8)).length<=12:=by rw[AQ];omega
 clear hx hx1 hd;generalize QbM size l k=tk at*;generalize A3 (Qbe size k -x.length).toNat (0:UInt8)=zs at*
 repeat' first|refine kS ?_|refine qS (iy hr) ?_|refine qS (Qdg rfl rfl (by first|omega|(simp only[AJ];omega))) ?_|refine kU ?_|fail
 all_goals first
  |(refine Qn (16 -(k+1)) (by omega) ⟨k+1,by omega,rfl,?_⟩
    rw[hst.out]
    simp[keepE,go_sem];done)
attribute [local irreducible] Fk.PlanF Fk.Flts Fk.AStepM Fk.Grew Fk.Gs
abbrev zNd0:List AV:=[.d (.v (.int .i64 0)),.d (.v (.int .i64 0)),.d (.v (.int .i64 0)),.d (.v (.int .i64 0)),.d (.v (.int .i64 0)),.d (.v (.int .i64 0)),.d (.v (.int .i64 0)),.d (.v (.int .i64 0)),.d (.v (.int .i64 0)),.d (.v (.int .i64 0))]
abbrev rFs(w:Pl.Sto)(t:Pl.Tree)(full:Bool):List D:=[dStrs w.rows,dInts w.refs,dInts w.last,dI w.txg,dPtrs w.gone,dI 0,dPtrs [],dB w.same,dI t.root.pat,dI t.root.birth,dI t.root.size,dI t.root.sum,dI t.root.level,dI t.depth,dI t.many,dB full]
def aNode(w:Pl.Sto)(N:Nat)(hw:w.W N)(t:Pl.Tree)(ht:Qx t)(full:Bool)(id:Nat):Pure A2 187 [.pd (rFs w t full),dI id] (dNode (Q4 w.st t id).1):=by
 have c:=al11Get w.st hw.good t ht id;generalize Q4 w.st t id=r at*;refine kD ?_
 repeat' first|refine kS ?_|(show AWP _ (.region 1 _ _) _ _;refine(Fk.awp_drawF (id:=1) [0,1,2,3,4,5,6,7,8,9,10,11,12,13] [14] [(13,.row 0 zNd0)] [] ?_))|refine(Fk.aw_fltA 1 ?_)|refine(Fk.aw_fltL (ho:=rfl) (hk:=rfl) (hl:=fun H=>Qdq rfl) (k:=?_))|refine(Fk.aw_fltL (ho:=rfl) (hk:=rfl) (hl:=fun H=>Qds cK c rfl) (k:=?_))|refine kU ?_|fail
 all_goals first|((refine Qa 0 (h:=?_);refine QY (hx:=?_));rfl)
def QF(w:Pl.Sto)(t:Pl.Tree)(path:List UInt8):Int:=Qai w.st t (Qy path)
def QiW(s:List UInt8):(Qy s).length<=s.length+1:=by
 unfold Qy;split
 ·simp
 ·have:=(QdT 47 s).1
  rw[List.length_tail];omega
def aFind(w:Pl.Sto)(N:Nat)(hw:w.W N)(t:Pl.Tree)(ht:Qx t)(full:Bool)(path:List UInt8)(hp:path.length<=900):Pure A2 186 [.pd (rFs w t full),dS path] (dI (QF w t path)):=by
 have c1:=Qgv path (by omega);have hn:=QiW path;have c2:=(Ql1 w.st hw.good t ht (Qy path) (by omega)).arg (l:=[dSt w.st,dTree t,tStrs (Qy path)]);have hd:Af (QF w t path=Qai w.st t (Qy path)):=Pm.hid rfl;rw[hd.out];clear hd hn;generalize Qy path=l at*;generalize Qai w.st t l=r at*;refine kE ?_
 repeat' first|refine kS ?_|refine qD (Qdq rfl) ?_|refine kU ?_|fail
 all_goals first|exact Qb (hx:=rfl)
def Qnu{dst:Option Tmp}{ty:TypeId}{pos:String}{after:Array Edge}{gd:Option (Nat×Bool)}{env:List (Nat×AV)}{H:List Blk}{x:Operand}{n:Qi}(hx:aval env x= .d (dNode n)):
 Loc A2 ⟨dst,.field 48 x 0,ty,pos,after,gd⟩ env H (.d (dI n.kind)) none:=
 QR fun σ S H' a w _ hop _=>by
  have a1:=AV.conc_rel (hop x (by simp[Op.operands])) (y:= .agg #[.int .i64 n.kind,.int .i64 n.links,.int .i64 n.size,.int .i64 n.tree.root.pat,.int .i64 n.tree.root.birth,.int .i64 n.tree.root.size,.int .i64 n.tree.root.sum,.int .i64 n.tree.root.level,.int .i64 n.tree.depth,.int .i64 n.tree.many]) (by rw[hx];rfl);refine⟨.int .i64 n.kind,?_,.d _ _ (.v _)⟩;have hf: ∀(a b c d e f g h i j:Int),(Instr.field 48 (.agg #[.int .i64 a,.int .i64 b,.int .i64 c,.int .i64 d,.int .i64 e,.int .i64 f,.int .i64 g,.int .i64 h,.int .i64 i,.int .i64 j]) 0).run A2 w= .ok (.int .i64 a) w:=fun a b c d e f g h i j=>by kernel_rfl
  simp only[execOp,a1,Sem.run_bind,hf];rfl
def QI(w:Pl.Sto)(t:Pl.Tree)(path:List UInt8):Int×Int:=
 if Qy path=[] then(0,3) else
 if Qai w.st t ((Qy path).take ((Qy path).length -1))<0 then(0,2) else
 if(Q4 w.st t (Qai w.st t ((Qy path).take ((Qy path).length -1))).toNat).1.kind=2 then(Qai w.st t ((Qy path).take ((Qy path).length -1)),0) else(0,4)
theorem aPlace(w:Pl.Sto)(N:Nat)(hw:w.W N)(t:Pl.Tree)(ht:Qx t)(full:Bool)(path:List UInt8)(hp:path.length<=900):Pure A2 188 [.pd (rFs w t full),dS path] (.tup [dI (QI w t path).1,dI (QI w t path).2]):=by
 have c1:=Qgv path (by omega);have hn:=QiW path;have c2:=Ql1 w.st hw.good t ht ((Qy path).take ((Qy path).length -1)) (by rw[AR];omega);have hd:=Pm.hid (QI.eq_def w t path);have c3:=fun id:Nat=>aNode w N hw t ht full id
 generalize QI w t path=res at*;generalize Qy path=l at*;generalize hf:Qai w.st t (l.take (l.length -1))=r at*;clear hf
 replace c2:Pure A2 47 [dSt w.st,dTree t,.sl true 1 ((l.map fun s=>[dS s]).take ((l.length:Int) -1).toNat)] (dI r):=by
  rw[show((l.length:Int) -1).toNat=l.length -1 by omega,<-List.map_take];exact c2.arg
 by_cases hl:l=[]
 ·rw[if_pos hl] at hd
  subst hl;rw[hd.out];clear c2 c3;refine kE ?_
  repeat refine kA ?_
  all_goals first|exact Qb (hx:=rfl)
 rw[if_neg hl] at hd;have hl2:=AI.2 hl;have hl3:Af (((l.length:Int)==0)=false):=Pm.hid (by simp;omega)
 by_cases hr:r<0
 ·rw[if_pos hr] at hd
  rw[hd.out];clear c3;refine kE ?_
  repeat' first|refine kS ?_|refine qD (Qdq rfl) ?_|refine qD (Qg3 rfl rfl rfl (by omega) (by simp;omega)) ?_|refine kU ?_|refine kV ?_ ?_<;>intro q|fail
  all_goals first|exact absurd (hl3.out.symm.trans ‹((l.length:Int)==0)=true›) (by decide)|exact Qb (hx:=rfl)|exfalso;simp only[decide_eq_false_iff_not] at*;omega
 rw[if_neg hr] at hd;obtain⟨a,ha⟩:=AK (show 0<=r by omega);subst ha
 replace c3:=c3 a
 rw[AB] at hd;generalize (Q4 w.st t a).1=n at*;refine kE ?_
 repeat' first|refine kS ?_|refine qD (Qdq rfl) ?_|refine qS (Qnu rfl) ?_|refine qD (Qg3 rfl rfl rfl (by omega) (by simp;omega)) ?_|refine kU ?_|refine kV ?_ ?_<;>intro q|fail
 all_goals first|exact absurd (hl3.out.symm.trans ‹((l.length:Int)==0)=true›) (by decide)|refine Qb (hx:=?_);rw[hd.out,if_pos (by simpa using q)];done|refine Qb (hx:=?_);rw[hd.out,if_neg (by simpa using q)];done|exfalso;simp only[decide_eq_true_eq] at*;omega
def Qat(w:Pl.Sto)(t:Pl.Tree)(path:List UInt8):Int×Int:=
 if 0<(QI w t path).2 then(0,(QI w t path).2) else if 0<=QF w t path then(0,3) else((QI w t path).1,0)
def aFresh(w:Pl.Sto)(N:Nat)(hw:w.W N)(t:Pl.Tree)(ht:Qx t)(full:Bool)(path:List UInt8)(hp:path.length<=900):Pure A2 179 [.pd (rFs w t full),dS path] (.tup [dI (Qat w t path).1,dI (Qat w t path).2]):=by
 have c1:=aPlace w N hw t ht full path hp;have c2:=aFind w N hw t ht full path hp;have hd:=Pm.hid (Qat.eq_def w t path);generalize Qat w t path=res at*;generalize QI w t path=p at*;generalize QF w t path=r at*;refine kE ?_
 repeat' first|refine kA ?_|refine kV ?_ ?_<;>intro q|fail
 all_goals first|refine Qb (hx:=?_);rw[hd.out,if_pos (by simp only[decide_eq_true_eq] at*;omega)];done|refine Qb (hx:=?_);rw[hd.out,if_neg (by simp only[decide_eq_false_iff_not,decide_eq_true_eq] at*;omega),if_pos (by simp only[decide_eq_true_eq] at*;omega)];done|refine Qb (hx:=?_);rw[hd.out,if_neg (by simp only[decide_eq_false_iff_not] at*;omega),if_neg (by simp only[decide_eq_false_iff_not] at*;omega)];done
def eCut(g:Nat)(w:Pl.Sto)(N:Nat)(hN:N<=800000)(hw:w.W N)(t:Pl.Tree)(ht:Qx t)(many:Nat)(hm:many<=16):
 DoesE A2 228 [oS g w,.d (dTree t),.d (dI many)] (hS g w) (gS g w) (fun x H=> ∃g',((QJ w t many).2.2=false->g'=g)/\x= .tup [oS g' (QJ w t many).1,.d (dTree (QJ w t many).2.1),.d (dB (QJ w t many).2.2)]/\H=hS g' (QJ w t many).1):=by
 have hd:=Pm.hid (QJ.eq_def w t many);have hgood:=hw.good;have c1:=dWide w.st hgood t ht;have hl:=QdG w.st ht.hi;have ho:=QfD w.st ht.root;have c2:=pinS (X:=fun g'=> .tup [oS g' (Qw w t (Qg w.st t) many).1,.d (dTree (Qw w t (Qg w.st t) many).2.1),.d (dB (Qw w t (Qg w.st t) many).2.2)]) (C:=fun g'=>(Qw w t (Qg w.st t) many).2.2=false->g'=g) (eLay g w N (by omega) hw t ht.root (Qg w.st t) hl ho many hm);have hW:=(lay_W hw ht.root ho hm).1;have hsim:=fun h=>Qjh (w:=w) (t:=t) (leaves:=Qg w.st t) (many:=many) h
 have hT:((Qg w.st t).map rPtr).take 16=(Qg w.st t).map rPtr:=A6 (by simp[hl])
 have hfl:[Blk.arr 2 5 31 ((Qg w.st t).map rPtr)].all Blk.flat=true:=by
  simp[Blk.flat];intro x _;exact⟨rfl,rfl,rfl,rfl,rfl⟩
 generalize QJ w t many=res at*;generalize Qg w.st t=wd at*;generalize Qw w t wd many=y at*;obtain⟨w2,t2,ok2⟩:=y;simp only at c2 hd hW hsim
 by_cases hq:(many:Int)=t.many
 ·rw[if_pos hq] at hd
  clear c1 c2 hsim;have hb:Af (((many:Int)==t.many)=true):=Pm.hid (by simpa using hq);refine kH fun gvs=>?_
  refine Qa 6 (h:=?_)
  repeat' first|refine kS ?_|(show AWP _ (.region 2 _ _) _ _;refine(Fg.awp_drawF (id:=2) [1] [2,3] ?_))|refine kU ?_|refine kV ?_ ?_<;>intro q|fail
  all_goals first|exact absurd (hb.out.symm.trans ‹((many:Int)==t.many)=false›) (by decide)|refine QN 5 (hx:=?_);rw[hd.out];exact⟨g,fun _=>rfl,rfl,rfl⟩
 rw[if_neg hq] at hd;have hb:Af (((many:Int)==t.many)=false):=Pm.hid (by simpa using hq);rw[<-show(AV.d (.sl true 5 ((wd.map rPtr).take 16)))= .d (tPtrs wd) by rw[hT]] at c2;have hm0:=ht.manyLo;have hm1:=ht.manyHi;have w0:w2.rows.length=w.rows.length:=by rw[hW.rows,hw.rows]
 have w1:w2.refs.length=w.refs.length:=by rw[hW.refs,hw.refs]
 have wl2:w2.last.length=w.last.length:=by rw[hW.last,hw.last]
 cases ok2
 ·obtain⟨z1,z2,z3⟩:=hsim rfl
  have z4:w2.gone.length=w.gone.length:=by rw[z1]
  simp only[AX,if_false] at hd;clear hsim;refine kH fun gvs=>?_
  refine Qa 6 (h:=?_)
  repeat' first|refine kS ?_|refine(QdY (ds:=[dTree t]) c1 cK hw rfl hfl (k:=?_))|refine(Qa 9 (C:= .arr 2 5 31 (wd.map rPtr)) (h:=?_))|(refine QD [0,1,2,3,4] c2 cK (k:=?_);rintro _ _ ⟨g2,hg2,hC,rfl,rfl⟩;refine QdF (k:=?_))|(show AWP _ (.region 6 _ _) _ _;refine(Fg.awp_drawF (id:=6) [1] [2,3] ?_))|refine kU ?_|refine kV ?_ ?_<;>intro q|fail
  all_goals first
   |exact absurd (hb.out.symm.trans ‹((many:Int)==t.many)=true›) (by decide)
   |(obtain rfl:=hC rfl
     refine QN 5 (hx:=?_);rw[hd.out];refine⟨_,fun _=>rfl,?_,rfl⟩
     simp only[oS,z1,z2,z3];rfl)
 simp only[if_true] at hd;clear hsim;refine kH fun gvs=>?_
 refine Qa 6 (h:=?_)
 repeat' first|refine kS ?_|refine(QdY (ds:=[dTree t]) c1 cK hw rfl hfl (k:=?_))|refine(Qa 9 (C:= .arr 2 5 31 (wd.map rPtr)) (h:=?_))|(refine QD [0,1,2,3,4] c2 cK (k:=?_);rintro _ _ ⟨g2,hg2,hC,rfl,rfl⟩;refine QdF (k:=?_))|refine kU ?_|refine kV ?_ ?_<;>intro q|fail
 all_goals first|exact absurd (hb.out.symm.trans ‹((many:Int)==t.many)=true›) (by decide)|skip
 refine Qa 11 (h:=?_);refine QdV [13,9,10,11,6,7,1000000] [0,1,2,3,4,7,8,10] (env':=[(13,.d (dI many)),(9,.d (.sl true 5 ((wd.map rPtr).take 16))),(10,.ptr 7 0 0),(11,.d (.pd [dI t2.root.pat,dI t2.root.birth,dI t2.root.size,dI t2.root.sum,dI t2.root.level,dI t2.depth,dI t2.many])),(6,.ptr 5 0 0),(7,.ptr 6 0 0),(1000000,.gh (gS g w) gvs)]) (H':=hS g2 w2++[.row 0 zSt,.row 0 zTr,.row 0 (rowS g2 w2)]) (h:=?_);rw[hT];clear c1 c2 hT hC
 refine Qs (fun m st=> ∃(i g3:Nat) (wi:Pl.Sto),many<=i/\i<=16/\m=16 -i/\Af (wi=w2.freeL ((wd.take i).drop many))/\Af (wi.W (N+13+(i -many)))/\(g<g3∨g3=g/\wi.gone.length=w.gone.length)/\
  st=⟨51,[(13,.d (dI i)),(9,.d (tPtrs wd)),(10,.ptr 7 0 0),(11,.d (.pd [dI t2.root.pat,dI t2.root.birth,dI t2.root.size,dI t2.root.sum,dI t2.root.level,dI t2.depth,dI t2.many])),(6,.ptr 5 0 0),(7,.ptr 6 0 0),(1000000,.gh (gS g w) gvs)],hS g3 wi++[.row 0 zSt,.row 0 zTr,.row 0 (rowS g3 wi)]⟩) [13,9,10,11,6,7,1000000] 8 (16 -many)
  ⟨many,g2,w2,by omega,hm,rfl,Pm.hid (by rw[Ae (by rw[AR];omega)];rfl),Pm.hid (hW.le (by omega)),hg2,rfl⟩ (round:=?_)
 rintro m st ⟨i,g3,wi,hi1,hi2,rfl,hwi,hWi,hg3,rfl⟩;have hW3:=hWi.out;simp only[hS,List.cons_append,As]
 repeat refine kG ?_
 cases q4:decide ((i:Int)<(wd.length:Int))
 ·have hi:i=16:=by simp at q4;omega
  have hw3:=hwi.out;rw[hi,A6 (by omega)] at hw3;rw[<-hw3] at hd;have v0:wi.rows.length=w.rows.length:=by rw[hW3.rows,hw.rows]
  have v1:wi.refs.length=w.refs.length:=by rw[hW3.refs,hw.refs]
  have v2:wi.last.length=w.last.length:=by rw[hW3.last,hw.last]
  clear hwi hWi hw3
  repeat' first|refine kS ?_|(show AWP _ (.region 11 _ _) _ _;refine(Fg.awp_drawF (id:=11) [1] [2,3] ?_))|refine kU ?_|fail
  all_goals first|(rcases hg3 with hg3|⟨rfl,hg3⟩<;>(refine QN 5 (hx:=?_);rw[hd.out];refine⟨_,?_,rfl,rfl⟩;intro h;cases h))
 have hi:i<wd.length:=by simp at q4;omega
 obtain⟨x,hx⟩: ∃x,wd[i]? =some x:=⟨_,A1 hi⟩;have hr:=Qu (f:=rPtr) hx;have hxo:=ho x (AA hx);have cf:=eFree2 g3 wi (N+13+(i -many)) (by omega) hW3 x hxo;have hWf:=(hW3.free hxo).le (M:=N+13+(i+1 -many)) (by omega)
 have hst:Af (w2.freeL ((wd.take (i+1)).drop many)=wi.free x):=Pm.hid (by
  rw[Aa,hx,List.drop_append_of_le_length (by rw[AR];omega),hwi.out];unfold Pl.Sto.freeL
  rw[AO];rfl)
 clear hx hwi hWi;generalize wi.free x=wf at*
 repeat' first|refine kS ?_|refine qD (iy hr) ?_|(show AWP _ (.region 10 _ _) _ _;refine(Fg.awp_drawF (id:=10) [] [5,6] ?_))|(refine Qfb [0,1,2,3,4] cf cK (k:=?_);rintro _ _ ⟨g4,hg4,rfl,rfl⟩;refine Qlv (k:=?_))|refine kU ?_|fail
 all_goals first|refine Qn (16 -(i+1)) (by omega) ⟨i+1,g4,wf,by omega,by omega,rfl,Pm.hid hst.out.symm,Pm.hid hWf,(by rcases hg3 with h1|⟨h1,h2⟩<;>rcases hg4 with h3|⟨h3,h4⟩<;>first|(left;omega)|(right;exact⟨by omega,by omega⟩)),?_⟩;simp[keepE,go_sem];done
structure Qch(s:Pm.Store):Prop where
 b1:s.2.1.1.length<=Pm.big
 b2:s.2.1.2.length<=Pm.big
 b3:s.2.2.2.1.length<=1000000000000
 b4:s.2.2.2.2.2.1.length<=1000000000000
def Qd5{s:Pm.Store}(h:QO s=true):QM s:=by
 unfold QO at h;simp only[AC,beq_iff_eq] at h;obtain⟨⟨⟨⟨⟨h1,_⟩,_⟩,_⟩,h2⟩,_⟩:=h;refine⟨h1,fun r hr=>?_⟩;obtain⟨i,hi,rfl⟩:=List.getElem_of_mem hr;unfold QbW at h2;have:=List.all_eq_true.1 h2 i (A4.2 (by omega));unfold Qbv at this;simp only[AC,decide_eq_true_eq,A0,A1 hi,AT] at this;exact this.1.1
def al15Ok(s:Pm.Store)(hg:QM s)(t:Pl.Tree):Pure A2 97 [dSt s,dTree t] (dB (Qaf s t)):=by
 have c:=al15All s hg t;have hd:=Pm.hid (QbU.eq_def s t);have h2:Af ((QbU s t).2=Qaf s t):=Pm.hid (by rw[hd.out];cases Qaf s t<;>rfl);generalize QbU s t=r at*;obtain⟨l,ok⟩:=r;refine kE ?_;refine Qa 0 (h:=?_);refine Qa 1 (h:=?_)
 repeat refine kA ?_
 exact Qb (hx:=by rw[<-h2.out])
def QuO(s:Pm.Store)(hl:Qch s)(t:Pl.Tree):Pure A2 46 [dSt s,dTree t] (dB (QO s&&Qaf s t)):=by
 have c1:=Qpk s hl.b1 hl.b2 hl.b3 hl.b4;cases h:QO s
 ·rw[h] at c1
  refine kE ?_;refine Qa 0 (h:=?_);refine Qa 1 (h:=?_)
  repeat refine kA ?_
  exact Qb (hx:=rfl)
 ·have c2:=al15Ok s (Qd5 h) t
  rw[h] at c1;refine kE ?_;refine Qa 0 (h:=?_);refine Qa 1 (h:=?_)
  repeat refine kA ?_
  exact Qb (hx:=rfl)
def QaA(s:Pm.Store)(t:Pl.Tree)(path:List UInt8):Int×Bool:=
 match Qz path with
 |none=>(0,false)
 |some q=>if QO s&&Qaf s t then(match Qah s (Qe s t) 0 q with|none=>(0,false)|some j=>(j,true)) else(0,false)
def Qir{s:Pm.Store}(h:Qaf s t=true):Qx t:=by
 unfold Qaf Qao at h;simp only[AC] at h;exact Qdu h.1.1.1.1
def Qq7(s:Pm.Store)(hl:Qch s)(t:Pl.Tree)(path:List UInt8)(hp:path.length<=1000000000000):Pure A2 23 [dSt s,dTree t,dS path] (.tup [dI (QaA s t path).1,dB (QaA s t path).2]):=by
 have hd:=Pm.hid (QaA.eq_def s t path);have c1:=Qia path hp;have c2:=QuO s hl t;cases hq:Qz path with
 |none=>
  rw[hq] at c1 hd;refine kE ?_;refine Qa 0 (h:=?_);refine Qa 1 (h:=?_)
  repeat refine kA ?_
  exact Qb (hx:=by rw[hd.out])
 |some q=>
  have hql:q.length<=4:=(Qe9.1 hq).2.1;rw[hq] at c1 hd;simp only[AT,Option.isSome_some] at c1;cases hk:QO s&&Qaf s t
  ·rw[hk] at c2 hd
   refine kE ?_;refine Qa 0 (h:=?_);refine Qa 1 (h:=?_)
   repeat refine kA ?_
   exact Qb (hx:=by rw[hd.out];rfl)
  ·have hk2:QO s=true/\Qaf s t=true:=by simpa using hk
   have c3:=(Ql1 s (Qd5 hk2.1) t (Qir hk2.2) q (by omega)).arg (l:=[dSt s,dTree t,tStrs q]);unfold Qai at c3;have hnn: ∀j,Qah s (Qe s t) 0 q=some j->0<=j:=fun j h=>Qi3 (AH 0) h
   rw[hk] at c2 hd;dsimp only at hd;rw[if_pos rfl] at hd;generalize Qah s (Qe s t) 0 q=r at*;cases r with
   |none=>
    simp only[Option.getD_none] at c3;refine kE ?_;refine Qa 0 (h:=?_);refine Qa 1 (h:=?_)
    repeat refine kA ?_
    all_goals first|exfalso;simp only[decide_eq_false_iff_not] at*;omega|exact Qb (hx:=by rw[hd.out])|exact Qb (hx:=by rw[hd.out];rfl)
   |some j=>
    have hj:=hnn j rfl;simp only[AT] at c3;refine kE ?_;refine Qa 0 (h:=?_);refine Qa 1 (h:=?_)
    repeat' first|refine kA ?_|refine kV ?_ ?_<;>intro q|fail
    all_goals first|exfalso;simp only[decide_eq_true_eq] at*;omega|exact Qb (hx:=by rw[hd.out])|exact Qb (hx:=by rw[hd.out];rfl)
def Qaq(s:Pm.Store)(t:Pl.Tree)(path:List UInt8):List Ql×Bool:=if(QaA s t path).2 then Qf s ((Qe s t).getD (QaA s t path).1.toNat Qd) else([],false)
def Qff{s:Pm.Store}{path:List UInt8}(h:(QaA s t path).2=true): ∃q j,Qz path=some q/\(QO s&&Qaf s t)=true/\Qah s (Qe s t) 0 q=some j/\QaA s t path=(j,true)/\0<=j:=by
 unfold QaA at*;split at h
 ·cases h
 ·rename_i q hq
  split at h
  ·rename_i hs
   split at h
   ·cases h
   ·rename_i j hj
    exact⟨q,j,hq,hs,hj,if_pos hs,Qi3 (AH 0) hj⟩
  ·cases h
def QpO(s:Pm.Store)(t:Pl.Tree)(p:List UInt8):(Qaq s t p).1.length<=12:=by
 unfold Qaq;split
 ·exact Qed _ _
 ·simp
def Qq6(s:Pm.Store)(hl:Qch s)(t:Pl.Tree)(path:List UInt8)(hp:path.length<=1000000000000):Pure A2 6 [dSt s,dTree t,dS path] (.tup [tEnts (Qaq s t path).1,dB (Qaq s t path).2]):=by
 have c1:=Qq7 s hl t path hp;have hd:=Pm.hid (Qaq.eq_def s t path);have hok:=fun h=>Qff (s:=s) (t:=t) (path:=path) h
 generalize QaA s t path=r at*;obtain⟨j,ok⟩:=r;cases ok
 ·rw[hd.out]
  clear hok hd;refine kE ?_;refine Qa 0 (h:=?_);refine Qa 1 (h:=?_)
  repeat refine kA ?_
  (refine Qa 2 (h:=?_);refine Qb (hx:=?_))
  rfl
 ·obtain⟨q,j',_,h1,_,h2,h0⟩:=hok rfl
  obtain rfl:j=j':=congrArg Prod.fst h2;obtain⟨k,rfl⟩:=AK h0;rw[AC] at h1;have hg:=Qd5 h1.1;have ht:=Qir h1.2;have c2:=al11Get s hg t ht k;rw[Qgf s ht] at c2;have c3:=Qhb s hg ((Qe s t).getD k Qd);rw[hd.out];simp only[if_true,AB] at c3⊢;generalize (Qe s t).getD k Qd=n at*;generalize Qf s n=es at*;generalize (Q4 s t k).2=b at*;clear hok hd hg ht h1 h2 hl;obtain⟨kd,links,size,⟨⟨p1,p2,p3,p4,p5⟩,depth,many⟩⟩:=n;refine kE ?_;refine Qa 0 (h:=?_);refine Qa 1 (h:=?_)
  repeat refine kA ?_
  all_goals first|exact Qb (hx:=rfl)

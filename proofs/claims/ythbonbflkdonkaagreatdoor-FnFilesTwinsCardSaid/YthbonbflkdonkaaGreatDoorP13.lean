/- Of ftw_card; no condition. -/
import Derived.Test.YthbonbflkdonkaaGreatDoorP09
import Derived.Test.YthbonbflkdonkaaGreatDoorP10
set_option linter.all false
set_option maxRecDepth 100000
set_option maxHeartbeats 8000000
open Bool renaming and_eq_true->AL
open Go renaming TypeId->AX
open Go.Proofs.Tryz renaming prog->A3
open Go.RowKit renaming Hid->AA
open Int.ofNat renaming inj->AS
open List renaming getElem?_eq_getElem->A0,take_of_length_le->A1,mem_of_getElem?->A2,take_add_one->A4,getD_eq_getElem?_getD->A5,range'->A6,all_append->A8,getElem?_eq_some_iff->A9,any_append->AD,getElem?_eq_none->AE,replicate->AF,getElem?_map->AH,all_eq_false->AI,length_take->AJ,length_cons->AK,length_nil->AO,map_append->AP,mem_append->AQ,map_cons->AT,map_nil->AU
open Nat renaming zero_add->AB,le_trans->AC,pow_le_pow_right->AG,le_refl->AM,one_mul->AW
open Option.some renaming inj->A7
open UInt8 renaming toNat_inj->AN,toNat_lt->AR
namespace Go.Proofs.YthbonbflkdonkaaGreatDoor
noncomputable section
section
open Go.RowKit
namespace Aw
variable{p:Pl.Ptr}{t:Pl.Tree}{k:Nat}{α:Type}
attribute [local irreducible] ASeq ADraw AWP Loc AStep Fg.PlanF Fg.Flts
abbrev dStore(rows:List (List UInt8))(refs last:List Int)(txg:Int)(gone:List Pl.Ptr)(keep:Int)(dead:List Pl.Ptr)(same:Bool):D:=
 .agg [dStrs rows,dInts refs,dInts last,dI txg,dPtrs gone,dI keep,dPtrs dead,dB same]
def Qi(rows:List (List UInt8))(p:Pl.Ptr):List UInt8×Bool:=
 if Pl.ptrHole p then([],true) else if QaX p (rows.getD p.pat.toNat []) then(rows.getD p.pat.toNat [],true) else([],false)
theorem al7Read(rows:List (List UInt8))(refs last:List Int)(txg:Int)(gone:List Pl.Ptr)(keep:Int)(dead:List Pl.Ptr)(same:Bool)(p:Pl.Ptr)
 (hs: ∀s∈rows,s.length<=Pm.big) (hp:Pl.ptrHole p=false->0<=p.pat/\p.pat<rows.length):
 Pure A3 56 [dStore rows refs last txg gone keep dead same,dPtr p] (.tup [dS (Qi rows p).1,dB (Qi rows p).2]):=by
 refine kN ?_;simp only[parE,dPtr,AB];refine kR ?_;refine Qa 0 (h:=?_);refine Qa 1 (h:=?_);cases h1:Pl.ptrHole p;rotate_left
 ·repeat' first|refine kS ?_|refine qS (lC (h1▸Qdt p)) ?_|refine kU ?_|fail
  all_goals exact Qb (hx:=by simp[Qi,h1])
 ·obtain⟨h2,h3⟩:=hp h1
  have hlt:p.pat.toNat<rows.length:=by omega
  obtain⟨s,hsd⟩: ∃s,s=rows[p.pat.toNat]:=⟨_,rfl⟩;have hr:(rows.map fun s=>[dS s])[p.pat.toNat]? =some [dS s]:=by rw[AH,A0 hlt,hsd];rfl
  have hg:AA (rows.getD p.pat.toNat []=s):=by rw[A5,A0 hlt,hsd];rfl
  have hsl:s.length<=Pm.big:=hs s (by rw[hsd];exact List.getElem_mem hlt);clear hsd
  repeat' first|refine kS ?_|refine qS (lC (h1▸Qdt p)) ?_|refine qD (lC (QoJ p s hsl)) ?_|refine qD (Qdd Ty.h rfl Ty.h rfl rfl rfl h2 hr) ?_|refine qS (Qdd Ty.h rfl Ty.h rfl rfl rfl h2 hr) ?_|refine kU ?_|refine kV ?_ ?_<;>intro q|fail
  all_goals exact Qb (hx:=by simp_all[Qi,hg.out])
abbrev tStrs(l:List (List UInt8)):D:= .sl true 1 (l.map fun s=>[dS s])
abbrev tPtrs(l:List Pl.Ptr):D:= .sl true 5 (l.map fun p=>[dI p.pat,dI p.birth,dI p.size,dI p.sum,dI p.level])
def Qhp(n:Nat)(hn:n<=16):Pure A3 109 [dI n] (tPtrs (AF n Pl.hole)):=by
 refine kN ?_;simp only[parE]
 repeat' first|refine kS ?_|refine stepS2 (Qib Ty.h rfl Ty.h rfl rfl rfl (by simp;omega) (by omega)) (k:=?_)|refine kU ?_|fail
 refine Qa 0 (h:=?_);exact Qb (hx:=by simp[Pl.hole])
theorem al2Cut(s:List UInt8)(b:UInt8)(hs:s.length<=1000000000000):Pure A3 184 [dS s,.v (.int .u8 b.toNat)] (tStrs (Pl.cutB b s)):=by
 have hb256:=AR b;refine kN ?_;simp only[parE,AB]
 repeat refine kA ?_
 refine Qq (fun m st=> ∃(k f g:Nat) (out:List (List UInt8)),k<=s.length/\m=s.length -k/\f<=k/\AA (Pl.cutB b s=out++Pl.cutB b (s.drop f))/\AA (b∉(s.drop f).take (k -f))/\out.length<=f/\
  st=⟨35,[(5,.osl 0 g 0 out.length),(6,.d (dI f)),(7,.d (dI k)),(0,.d (dS s)),(1,.d (.v (.int .u8 b.toNat)))],[.arr g 1 9 (out.map fun s=>[dS s])]⟩) [5,6,7,0,1] 1 s.length ⟨0,0,0,[],by omega,rfl,by omega,Pm.hid rfl,Pm.hid (by simp),by simp,rfl⟩ (round:=?_)
 rintro m st ⟨k,f,g,out,hk,rfl,hf,hO,hN,hlen,rfl⟩
 repeat refine kG ?_
 cases q3:decide ((k:Int)<(s.length:Int))
 ·have hA:(s.length:Int)<=s.length:=by omega
  repeat' first|refine kS ?_|refine qS (Qfi rfl rfl rfl (by omega) (by omega)) ?_|refine QV Ty.h rfl Ty.h (hb:=?_) (kk:=?_)|refine kU ?_|fail
  ·simp;omega
  refine Qa 0 (h:=?_);simp at q3;have:k=s.length:=by omega
  subst this;have h:=hN.out;rw[A1 (by simp)] at h;exact Qb (hx:=by rw[hO.out,Pl.Qe7 _ _ h];simp[A1])
 simp at q3;have q3:k<s.length:=by omega
 obtain⟨c,hc⟩: ∃c,s[k]? =some c:=⟨_,A0 q3⟩;have hc':s[(k:Int).toNat]? =some c:=hc;have hc2:=Pm.hid hc;clear hc
 repeat' first|refine kS ?_|refine qS (Qgj rfl rfl rfl rfl (by omega) (by omega) (by omega)) ?_|refine qS (Qef Ty.h rfl rfl rfl (by omega) hc') ?_|refine QV Ty.h rfl Ty.h (hb:=?_) (kk:=?_)|refine kU ?_|refine kV ?_ ?_<;>intro q|fail
 ·simp;omega
 ·have h:=Pl.QrZ hf q3 hN.out (by have h:=hc2.out;rw[A0 q3] at h;rw[A7 h];exact AN.1 (AS (by simpa using q)))
  refine Qg (s.length -(k+1)) (by omega) ⟨k+1,k+1,g+1,out++[(s.drop f).take (k -f)],by omega,rfl,by omega,Pm.hid (by rw[hO.out,h];simp),Pm.hid (by simp),by simp;omega,?_⟩;simp[List.drop_take,go_sem,keepE]
 ·refine Qg (s.length -(k+1)) (by omega) ⟨k+1,f,g,out,by omega,rfl,by omega,hO,Pm.hid (Pl.Ql4 hf q3 hN.out ?_),hlen,rfl⟩
  have h:=hc2.out;rw[A0 q3] at h;rw[A7 h];intro e;subst e;simp at q
def QD(s:List UInt8):Pl.Ptr×Bool:=open Classical in if h: ∃p,Pl.IsPtr s p then(Classical.choose h,true) else(Pl.hole,false)
theorem pg_is{s:List UInt8}(h:Pl.IsPtr s p):QD s=(p,true):=by
 unfold QD;have hx: ∃p,Pl.IsPtr s p:=⟨p,h⟩
 grind [Pl.QlL]
theorem Quv{s:List UInt8}(h: ∀p,¬Pl.IsPtr s p):QD s=(Pl.hole,false):=by grind [QD]
def Qtl{dst:Option Tmp}{ty:AX}{pos:String}{after:Array Edge}{gd:Option (Nat×Bool)}{env:List (Nat×AV)}{H:List Blk}{T T':AX}{x y:Operand}{a b:Int}(hx:aval env x= .d (.v (.int .u8 a)))(hy:aval env y= .d (.v (.int .u8 b)))(h:0<=a -b/\a -b<=255):
 Loc A3 ⟨dst,.binOp .sub T x y T',ty,pos,after,gd⟩ env H (.d (.v (.int .u8 (a -b)))) none:=
 loc_bin' (X:= .int .u8 a) (Y:= .int .u8 b) (by rw[hx];rfl) (by rw[hy];rfl) fun w=>by
  rw[Sem.run_bind,Qek,Result.andThen_ok];have:IntKind.u8.wrap (a -b)=a -b:=Int.emod_eq_of_lt h.1 (by show a -b<256;omega);simp[binOp,Op.intArith,this]
def al1Num(s:List UInt8)(hs:s.length<=Pm.big):Pure A3 183 [dS s] (.tup [dI ((Pl.l1num s).1:Nat),dI ((Pl.l1num s).2:Nat)]):=by
 simp only[Pm.big] at hs
 have hdf:AA (∀k,Pl.digs s=s.take k->(s.take k).length=k->Pl.l1num s=if 1<k/\s.head? =some 48 then(0,1) else(Pl.val (s.take k),k)):=Pm.hid fun k hd hl=>by
  unfold Pl.l1num;rw[hd,hl]
 obtain⟨c0,hc0⟩: ∃c0,0<s.length->s[(0:Int).toNat]? =some c0/\s.head? =some c0:=by
  cases s with
  |nil=>exact⟨0,fun h=>absurd h (by simp)⟩
  |cons a b=>exact⟨a,fun _=>⟨rfl,rfl⟩⟩
 generalize hr:Pl.l1num s=r at*;clear hr;refine kB ?_
 repeat refine kA ?_
 refine Qq (fun m st=> ∃k n:Nat,k<=s.length/\k<=9/\m=s.length -k/\n<1000000000/\AA (n=Pl.val (s.take k))/\AA ((s.take k).all Pl.isDig=true)/\st=⟨45,[(4,.d (dI n)),(5,.d (dI k)),(0,.d (dS s))],[]⟩) [4,5,0] 0 s.length ⟨0,0,by omega,by omega,rfl,by omega,Pm.hid rfl,Pm.hid (by simp),by simp[keepE,go_sem]⟩ (round:=?_);rintro m st ⟨k,n,hk,hk9,rfl,hn,hN,hA,rfl⟩
 obtain⟨c,hc⟩: ∃c,k<s.length->s[(k:Int).toNat]? =some c/\s[k]? =some c:=by
  by_cases h:k<s.length
  ·exact⟨s[k],fun _=>⟨A0 h,A0 h⟩⟩
  ·exact⟨0,fun h'=>absurd h' h⟩
 have hkl:(s.take k).length=k:=by rw[AJ];omega
 have X:AA ((k=9∨k=s.length∨ ¬(48<=c.toNat/\c.toNat<=57))->r=if 1<k/\s.head? =some 48 then(0,1) else(n,k)):=Pm.hid fun h=>by
  rw[hN.out];refine hdf.out k (Pl.QrV hk hA.out hk9 ?_) hkl;rcases h with h|h|h
  ·exact .inl h
  ·exact .inr fun d hd=>by rw[AE (by omega)] at hd;cases hd
  ·by_cases hlt:k<s.length
   ·refine .inr fun d hd=>?_
    rw[(hc hlt).2] at hd;obtain rfl:=A7 hd;cases hx:Pl.isDig c
    ·rfl
    ·exact absurd ((Pl.QeK c).1 hx) h
   ·exact .inr fun d hd=>by rw[AE (by omega)] at hd;cases hd
 have T:AA (k<s.length->k<9->48<=c.toNat->c.toNat<=57-> ∃n':Nat,n'<1000000000/\(n':Int)=10*n+((c.toNat:Int) -48)/\n'=Pl.val (s.take (k+1))/\(s.take (k+1)).all Pl.isDig=true):=Pm.hid fun h1 h2 h3 h4=>by
  have hcc:s[k]=c:=(A9.1 (hc h1).2).2;have hal:(s.take (k+1)).all Pl.isDig=true:=by rw[List.take_succ_eq_append_getElem h1,A8,hA.out,hcc];simp[Pl.isDig,h3,h4]
  have hv:=Pl.QsG s k h1;rw[hcc,<-hN.out] at hv;have hl:=Pl.Qqh (s.take (k+1)) hal;have hl2:Pl.val (s.take (k+1))<1000000000:=Nat.lt_of_lt_of_le hl (AC (AG (by omega) (show(s.take (k+1)).length<=9 by rw[AJ];omega)) (by decide));exact⟨_,hl2,by rw[hv];unfold Pl.dgt;omega,rfl,hal⟩
 have hcI:=Pm.hid fun h=>(hc h).1
 have h0I:=Pm.hid fun h=>(hc0 h).1
 have Y:AA (1<k->((c0.toNat:Int)=48->s.head? =some 48)/\((c0.toNat:Int)≠48->s.head? ≠some 48)):=Pm.hid fun h=>by
  rw[(hc0 (by omega)).2];exact⟨fun e=>by rw[show c0=48 from AN.1 (AS e)],fun e h=>e (by rw[A7 h];rfl)⟩
 clear hdf hN hA hc hc0 hkl;have hc256:=AR c
 repeat' first|refine kS ?_|refine qS (Qef Ty.h rfl rfl rfl (by omega) (hcI.out (by simp only[decide_eq_true_eq] at*;omega))) ?_|refine qS (Qef Ty.h rfl rfl rfl (by omega) (h0I.out (by simp only[decide_eq_true_eq] at*;omega))) ?_|refine qS (Qd3 rfl rfl (by omega)) ?_|refine qS (Qtl rfl rfl (by simp only[decide_eq_true_eq] at*;omega)) ?_|refine qS (QdD Tryz.underlying5 Tryz.underlying3 rfl rfl (Pm.Qgz _ (by simp only[decide_eq_true_eq] at*;omega) (by simp only[decide_eq_true_eq] at*;omega))) ?_|refine kU ?_|refine kV ?_ ?_<;>intro q|fail
 all_goals
  simp only[decide_eq_true_eq,decide_eq_false_iff_not,beq_iff_eq,beq_eq_false_iff_ne,ne_eq,gt_iff_lt,ge_iff_le] at*;clear hcI h0I
 all_goals first
  |(obtain⟨n',h1,h2,h3,h4⟩:=T.out (by omega) (by omega) (by omega) (by omega)
    refine Qg (s.length -(k+1)) (by omega) ⟨k+1,n',by omega,by omega,rfl,h1,Pm.hid h3,Pm.hid h4,?_⟩;rw[h2]
    simp[keepE,go_sem];done)
  |(refine Qb (hx:=?_)
    rw[X.out (by omega),if_pos ⟨by omega,(Y.out (by omega)).1 (by omega)⟩]
    rfl)
  |(refine Qb (hx:=?_)
    rw[X.out (by omega),if_neg (fun h=>(Y.out h.1).2 (by omega) h.2)])
  |(refine Qb (hx:=?_)
    rw[X.out (by omega),if_neg (fun h=>absurd h.1 (by omega))])
def aNumGet(s:List UInt8)(hs:s.length<=Pm.big):Pure A3 118 [dS s] (.tup [dI ((Pl.numGet s).getD 0:Nat),dB (Pl.numGet s).isSome]):=by
 have c:=al1Num s hs;have hd:=Pm.hid (Pl.Ql3 s);generalize Pl.numGet s=r at*;generalize Pl.l1num s=p at*;obtain⟨n,k⟩:=p;simp only at hd c;refine kB ?_
 repeat' first|refine kA ?_|refine kV ?_ ?_<;>intro q|fail
 all_goals
  simp only[beq_iff_eq,beq_eq_false_iff_ne,bne_iff_ne,bne_eq_false_iff_eq,ne_eq] at*;refine Qb (hx:=?_)
 all_goals first|rw[hd.out,if_pos (by omega)];rfl|rw[hd.out,if_neg (by omega)];rfl
theorem aPtrGet(s:List UInt8)(hs:s.length<=1000000000000):Pure A3 119 [dS s] (.tup [dPtr (QD s).1,dB (QD s).2]):=by
 by_cases h45:s=[45]
 ·rw[pg_is (h45▸Pl.QjJ)]
  subst h45;refine kC ?_
  repeat refine kA ?_
  all_goals
   (refine Qa 0 (h:=?_);refine QK (hx:=?_))
   rfl
 have hse:(s==[45])=false:=beq_eq_false_iff_ne.2 h45;have c1:=al2Cut s 46 hs;have hcl:=Pm.cutB_le' 46 s;have Hnl:=Pm.hid (Pl.QqD h45);have Hnn:=Pm.hid (fun k=>Pl.QqC (k:=k) h45);have Hnb:=Pm.hid (fun a b c d e=>Pl.ptr_bad (a:=a) (b:=b) (c:=c) (d:=d) (e:=e) h45);have Hng:=Pm.hid (fun a b c d e=>Pl.Qtb (s:=s) (a:=a) (b:=b) (c:=c) (d:=d) (e:=e));have hpn:AA ((∀p,¬Pl.IsPtr s p)->QD s=(Pl.hole,false)):=Pm.hid Quv;have hpy:AA (∀p,Pl.IsPtr s p->QD s=(p,true)):=Pm.hid fun p=>pg_is
 generalize QD s=r at*;generalize Pl.cutB 46 s=l at*
 by_cases h5:l.length=5
 rotate_left
 ·have hn:((l.length:Int) !=5)=true:=bne_iff_ne.2 (by omega)
  refine kC ?_
  repeat' first|refine kA ?_|refine kV ?_ ?_<;>intro q|fail
  all_goals first
   |(exfalso;rw[hn] at*;simp at*;done)
   |(exfalso;rw[hse] at*;simp at*;done)
   |((refine Qa 0 (h:=?_);refine QK (hx:=?_))
     rw[hpn.out (Hnl.out h5)]
     rfl)
 have hn:((l.length:Int) !=5)=false:=by rw[h5];rfl
 clear Hnl;refine kC ?_
 repeat' first|refine kA ?_|refine kV ?_ ?_<;>intro q|fail
 all_goals first|exfalso;rw[hn] at*;simp at*;done|exfalso;rw[hse] at*;simp at*;done|skip
 refine Qq (fun m st=> ∃(k:Nat) (nums:List Nat),k<=5/\m=5 -k/\nums.length=k/\AA (l.take k=nums.map Pl.dec)/\
  st=⟨64,[(2,.ptr 0 0 0),(4,.d (tStrs l)),(5,.osl 1 nums.length 0 nums.length),(6,.d (dI k))],[.row 0 [.d (dI 0),.d (dI 0),.d (dI 0),.d (dI 0),.d (dI 0)],.arr nums.length 1 3 (nums.map fun(n:Nat)=>[dI (n:Int)])]⟩) [2,4,5,6] 2 5 ⟨0,[],by omega,rfl,rfl,Pm.hid rfl,by simp[keepE,go_sem]⟩ (round:=?_)
 rintro m st ⟨k,nums,hk,rfl,hlen,hO,rfl⟩
 repeat refine kG ?_
 cases q3:decide ((k:Int)<5)
 ·have hk5:k=5:=by simp at q3;omega
  obtain⟨n1,n2,n3,n4,n5,rfl⟩: ∃n1 n2 n3 n4 n5,nums=[n1,n2,n3,n4,n5]:=by
   match nums,hlen.trans hk5 with
   |[a,b,c,d,e],_=>exact⟨a,b,c,d,e,rfl⟩
  subst hk5;rw[A1 (by omega)] at hO;have hO2:=hO.out;simp only[AT,AU] at hO2;have hb:=Pm.hid (Hnb.out n1 n2 n3 n4 n5 hO2);have hg:=Pm.hid (Hng.out n1 n2 n3 n4 n5 hO2);have c2:=aPtrOk ⟨n1,n2,n3,n4,n5⟩;have c3:=Qdt ⟨n1,n2,n3,n4,n5⟩;clear Hnb Hng Hnn hO hO2 hcl c1 h5 hn;generalize Pl.ptrOk ⟨n1,n2,n3,n4,n5⟩=o at*;generalize Pl.ptrHole ⟨n1,n2,n3,n4,n5⟩=u at*;simp only[AT,AU,AK,AO];refine Qa 1 (h:=?_)
  repeat' first|refine kS ?_|refine qD (iy rfl) ?_|(show AWP _ (.region 14 _ _) _ _;refine(Fg.awp_drawF (id:=14) [] [17] ?_))|refine kU ?_|refine kV ?_ ?_<;>intro q|fail
  all_goals first
   |((refine Qa 0 (h:=?_);refine QK (hx:=?_))
     rw[hpn.out (hb.out (by simp_all))]
     rfl)
   |((refine Qa 0 (h:=?_);refine QK (hx:=?_))
     rw[hpy.out _ (hg.out (by simp_all) (by simp_all))])
 have hk2:k<5:=by simp at q3;omega
 have hkl:k<l.length:=by omega
 obtain⟨x,hx⟩: ∃x,l[k]? =some x:=⟨_,A0 hkl⟩;have hxl:l[k]=x:=(A9.1 hx).2;have hr:=Qs (f:=fun s=>[dS s]) hx;have c4:=aNumGet x (by have:=hcl x (A2 hx);simp only[Pm.big];omega);have hnn:=Pm.hid (Hnn.out k hkl);rw[hxl] at hnn
 have hss:AA (∀n,Pl.numGet x=some n->l.take (k+1)=(nums++[n]).map Pl.dec):=Pm.hid fun n hq=>by
  rw[A4,hx,hO.out,(Pl.QdC hq).1,AP];rfl
 clear hx hxl hO Hnn Hnb Hng hcl c1;generalize Pl.numGet x=g at*;cases g with
 |none=>
  repeat' first|refine kS ?_|refine qS (iy hr) ?_|refine kU ?_|fail
  all_goals first
   |(exfalso;simp at*;done)
   |((refine Qa 0 (h:=?_);refine QK (hx:=?_))
     rw[hpn.out (hnn.out rfl)]
     rfl)
 |some n=>
  repeat' first|refine kS ?_|refine qS (iy hr) ?_|refine QV Ty.h rfl Ty.h (hb:=?_) (kk:=?_)|refine kU ?_|fail
  all_goals first
   |(exfalso;simp at*;done)
   |(simp;omega)
   |(refine Qg (5 -(k+1)) (by omega) ⟨k+1,nums++[n],by omega,rfl,by simp[hlen],Pm.hid (hss.out n rfl),?_⟩
     simp[go_sem,keepE];done)
def QaG(s:List UInt8):List Pl.Ptr×Bool:=
 let l:=(Pl.cutB 44 s).map QD
 if l.all (·.2)&&(l.length==4)&&l.any (fun q=> !Pl.ptrHole q.1) then(l.map (·.1),true) else([],false)
theorem Qex(b:UInt8): ∀(s:List UInt8),(Pl.cutB b s).length<=s.length+1/\ ∀x∈Pl.cutB b s,x.length<=s.length
 :=by intro l;induction l<;>grind [Pl.cutB]
theorem aFanGet(s:List UInt8)(hs:s.length<=1000000000000):Pure A3 227 [dS s] (.tup [tPtrs (QaG s).1,dB (QaG s).2]):=by
 refine kN ?_;simp only[parE,AB]
 repeat' first|refine kS ?_|refine qS (lC (al2Cut s 44 hs)) ?_|refine kU ?_|fail
 have hW:=Qex 44 s;have hfan:AA (QaG s=if((Pl.cutB 44 s).map QD).all (·.2)&&(((Pl.cutB 44 s).map QD).length==4)&&((Pl.cutB 44 s).map QD).any (fun q=> !Pl.ptrHole q.1) then(((Pl.cutB 44 s).map QD).map (·.1),true) else([],false)):=Pm.hid rfl;generalize Pl.cutB 44 s=l at*
 refine Qq (fun m st=> ∃(k g:Nat) (out:List Pl.Ptr) (sm:Bool),k<=l.length/\m=l.length -k/\AA (out=((l.map QD).take k).map (·.1))/\AA (((l.map QD).take k).all (·.2)=true)/\AA (sm=((l.map QD).take k).any (fun q=> !Pl.ptrHole q.1))/\out.length=k/\
  st=⟨49,[(4,.d (tStrs l)),(5,.osl 0 g 0 out.length),(6,.d (dB sm)),(7,.d (dI k))],[.arr g 5 31 (out.map fun p=>[dI p.pat,dI p.birth,dI p.size,dI p.sum,dI p.level])]⟩) [4,5,6,7] 1 l.length ⟨0,0,[],false,by omega,rfl,Pm.hid rfl,Pm.hid (by simp),Pm.hid rfl,rfl,rfl⟩ (round:=?_)
 rintro m st ⟨k,g,out,sm,hk,rfl,hO,hA,hM,hlen,rfl⟩
 repeat refine kG ?_
 cases q3:decide ((k:Int)<(l.length:Int))
 ·repeat' first|refine kA ?_|refine kV ?_ ?_<;>intro q|fail
  all_goals
   have hk2:k=l.length:=by simp at q3;omega
   rw[hk2,A1 (by simp)] at hO hA hM;have h1:QaG s=if out.length=4/\sm=true then(out,true) else([],false):=by rw[hfan.out,hA.out,<-hM.out,<-hO.out,hlen,hk2];simp
   rw[hlen] at h1;clear hO hA hM hfan
   (first|(refine Qa 0 (h:=?_);refine Qb (hx:=?_))|(refine Qa 1 (h:=?_);refine Qb (hx:=?_)))
   simp at q;split at h1<;>rename_i hc<;>rw[h1]
   ·first
     |simp[A1];done
     |(exfalso;obtain⟨h,h'⟩:=hc;first|omega|(rw[h'] at q;cases q))
   ·first
     |rfl
     |(rename_i q2;simp at q2;exact absurd (And.intro (by omega) q) hc)
 simp at q3;have q3:k<l.length:=by omega
 obtain⟨x,hx⟩: ∃x,l[k]? =some x:=⟨_,A0 q3⟩;have hr:=Qs (f:=fun s=>[dS s]) hx;have hx3:x.length<=1000000000000:=by have:=hW.2 x (A2 hx);omega
 obtain⟨p,ok,hp⟩: ∃p ok,QD x=(p,ok):=⟨_,_,rfl⟩;have hg:=aPtrGet x hx3;rw[hp] at hg;have hl:(l.map QD)[k]? =some (p,ok):=by rw[AH,hx];simp[hp]
 have hst:(l.map QD).take (k+1)=(l.map QD).take k++[(p,ok)]:=by rw[A4,hl];rfl
 have F:AA (ok=false->QaG s=([],false)):=fun e=>by
  rw[hfan.out,if_neg]
  have:(l.map QD).all (·.2)=false:=by
   rw[AI];exact⟨_,A2 hl,by simp[e]⟩
  simp[this]
 have hst2:=Pm.hid hst;clear hx hp hl hst
 repeat' first|refine kS ?_|refine qS (lC (Qdt p)) ?_|refine qS (iy hr) ?_|refine QV Ty.h rfl Ty.h (hb:=?_) (kk:=?_)|refine kU ?_|refine kV ?_ ?_<;>intro q|fail
 ·(refine Qa 2 (h:=?_);refine Qb (hx:=?_))
  rw[F.out (by simpa using q)];rfl
 ·simp;omega
 ·refine Qg (l.length -(k+1)) (by omega) ⟨k+1,g+1,out++[p],true,by omega,rfl,Pm.hid (by rw[hst2.out,hO.out];simp),Pm.hid (by rw[hst2.out,A8,hA.out];simp_all),Pm.hid (by rw[hst2.out,AD,<-hM.out];simp_all),by simp[hlen],?_⟩
  simp[go_sem,keepE]
 ·simp;omega
 ·refine Qg (l.length -(k+1)) (by omega) ⟨k+1,g+1,out++[p],!Pl.ptrHole p,by omega,rfl,Pm.hid (by rw[hst2.out,hO.out];simp),Pm.hid (by rw[hst2.out,A8,hA.out];simp_all),Pm.hid (by rw[hst2.out,AD,<-hM.out];simp_all),by simp[hlen],?_⟩
  simp[go_sem,keepE]
abbrev dSt(s:Pm.Store):D:= .agg [dStrs s.1,dInts s.2.1.1,dInts s.2.1.2,dI s.2.2.1,dPtrs s.2.2.2.1,dI s.2.2.2.2.1,dPtrs s.2.2.2.2.2.1,dB s.2.2.2.2.2.2]
structure QU(s:Pm.Store):Prop where
 many:s.1.length=64
 row: ∀r∈s.1,r.length<=128
theorem QdN(h:Pl.ptrOk p=true)(h2:Pl.ptrHole p=false):0<=p.pat/\p.pat<64:=by grind [Pl.ptrOk,Pl.rowOk]
theorem al7R(s:Pm.Store)(hg:QU s)(p:Pl.Ptr)(hp:Pl.ptrHole p=false->Pl.ptrOk p=true):Pure A3 56 [dSt s,dPtr p] (.tup [dS (Qi s.1 p).1,dB (Qi s.1 p).2]):=
 al7Read _ _ _ _ _ _ _ _ p (fun r hr=>by have:=hg.row r hr;grind [Pm.big]) fun h=>by have:=QdN (hp h) h;rw[hg.many];omega
theorem Qiy(s:Pm.Store)(hg:QU s)(p:Pl.Ptr):(Qi s.1 p).1.length<=128:=by
 unfold Qi;split
 ·simp
 ·split
  ·simp only
   rw[A5];cases h:s.1[p.pat.toNat]? with
   |none=>simp
   |some r=>exact hg.row r (A2 h)
  ·simp
def Qj(s:Pm.Store)(p:Pl.Ptr)(level:Int):List Pl.Ptr×Bool:=
 if Pl.ptrHole p then(AF 4 Pl.hole,true) else
 if Pl.ptrOk p&&(p.level==level)&&decide (p.birth<=s.2.2.1)&&(Qi s.1 p).2 then
  if(QaG (Qi s.1 p).1).1.any (fun q=>decide (p.birth<q.birth)) then([],false) else QaG (Qi s.1 p).1
 else([],false)
theorem QkB(s:List UInt8):(QaG s).1.length<=4:=by grind [QaG]
def QoF(s:Pm.Store)(hg:QU s)(p:Pl.Ptr)(level:Int):Pure A3 179 [dSt s,dPtr p,dI level] (.tup [tPtrs (Qj s p level).1,dB (Qj s p level).2]):=by
 refine kE ?_;refine Qa 0 (h:=?_);refine Qa 1 (h:=?_);cases h1:Pl.ptrHole p;rotate_left
 ·repeat' first|refine kS ?_|refine qS (lC (h1▸Qdt p)) ?_|refine qS (Qdr cK (Qhp 4 (by omega)) rfl) ?_|refine kU ?_|fail
  exact Qb (hx:=by simp[Qj,h1])
 cases h2:Pl.ptrOk p
 ·repeat' first|refine kS ?_|refine qS (lC (h1▸Qdt p)) ?_|refine qS (lC (h2▸aPtrOk p)) ?_|refine kU ?_|fail
  (refine Qa 2 (h:=?_);refine Qb (hx:=?_))
  simp[Qj,h1,h2]
 have c3:=al7R s hg p fun _=>h2
 have hlen:=Qiy s hg p
 have hB:AA (Qj s p level=if(p.level==level)&&decide (p.birth<=s.2.2.1)&&(Qi s.1 p).2 then
  if(QaG (Qi s.1 p).1).1.any (fun q=>decide (p.birth<q.birth)) then([],false) else QaG (Qi s.1 p).1 else([],false)):=Pm.hid (by simp[Qj,h1,h2])
 generalize Qi s.1 p=tb at*;obtain⟨text,ok⟩:=tb;have c4:=aFanGet text (by simp only at hlen;omega);have hfl:=QkB text;simp only at hB;generalize QaG text=fb at*;obtain⟨l,fine⟩:=fb;simp only at hfl hlen
 repeat' first|refine kS ?_|refine qS (lC (h1▸Qdt p)) ?_|refine qS (lC (h2▸aPtrOk p)) ?_|refine kU ?_|refine kV ?_ ?_<;>intro q|fail
 ·(refine Qa 2 (h:=?_);refine Qb (hx:=?_))
  rw[hB.out,if_neg (by simp at q;simp[q])]<;>rfl
 ·(refine Qa 2 (h:=?_);refine Qb (hx:=?_))
  rw[hB.out,if_neg (by simp at q;simp;intro _ _;omega)]<;>rfl
 ·(refine Qa 2 (h:=?_);refine Qb (hx:=?_))
  rw[hB.out,if_neg (by simp at q;simp[q])]<;>rfl
 rename_i q1 q2
 refine Qq (fun m st=> ∃k:Nat,k<=l.length/\m=l.length -k/\AA ((l.take k).any (fun q=>decide (p.birth<q.birth))=false)/\
  st=⟨64,[(10,.d (tPtrs l)),(11,.d (dB fine)),(12,.d (dI k)),(4,.d (.pd [dI p.pat,dI p.birth,dI p.size,dI p.sum,dI p.level]))],[]⟩) [10,11,12,4] 0 l.length ⟨0,by omega,rfl,Pm.hid rfl,rfl⟩ (round:=?_)
 rintro m st ⟨k,hk,rfl,hF,rfl⟩
 repeat refine kG ?_
 have hC:((p.level==level)&&decide (p.birth<=s.2.2.1)&&ok)=true:=by simp at q q1 q2;simp[q,q2];omega
 rw[if_pos hC] at hB;cases q3:decide ((k:Int)<(l.length:Int))
 ·repeat refine kA ?_
  refine Qb (hx:=?_);have:k=l.length:=by simp at q3;omega
  have h:=hF.out;rw[this,A1 (AM _)] at h;rw[hB.out,if_neg (by simp[h])]<;>rfl
 have hk2:k<l.length:=by simp at q3;omega
 obtain⟨x,hx⟩: ∃x,l[k]? =some x:=⟨_,A0 hk2⟩;have hr:=Qs (f:=fun p:Pl.Ptr=>[dI p.pat,dI p.birth,dI p.size,dI p.sum,dI p.level]) hx;have T:AA ((l.take (k+1)).any (fun q=>decide (p.birth<q.birth))=decide (p.birth<x.birth)):=Pm.hid (by rw[A4,hx,AD,hF.out];simp)
 have F:AA (p.birth<x.birth->Qj s p level=([],false)):=fun e=>by
  rw[hB.out,if_pos];rw[List.any_eq_true];exact⟨x,A2 hx,by simpa using e⟩
 clear hx
 repeat' first|refine kS ?_|refine qD (iy hr) ?_|refine kU ?_|refine kV ?_ ?_<;>intro q|fail
 ·(refine Qa 0 (h:=?_);refine Qb (hx:=?_))
  rw[F.out (by simpa using q)]<;>rfl
 ·exact Qg (l.length -(k+1)) (by omega) ⟨k+1,by omega,rfl,Pm.hid (T.out.trans q),rfl⟩
def Qla(n:Int):Pure A3 113 [dI n] (dI (if n<=1 then 0 else if n<=4 then 1 else 2)):=by
 refine kB ?_
 repeat' first|refine kA ?_|refine kV ?_ ?_<;>intro q|fail
 all_goals exact Qb (hx:=congrArg dI (by simp at*;split<;>(try split)<;>omega))
abbrev rPtr(p:Pl.Ptr):List D:=[dI p.pat,dI p.birth,dI p.size,dI p.sum,dI p.level]
abbrev dTree(t:Pl.Tree):D:= .agg [dI t.root.pat,dI t.root.birth,dI t.root.size,dI t.root.sum,dI t.root.level,dI t.depth,dI t.many]
def Qd0(l:List Pl.Ptr): ∀r∈l.map rPtr,∀d∈r,d.cell=true:=by
 intro r hr d hd;obtain⟨p,_,rfl⟩:=List.mem_map.1 hr;simp at hd;rcases hd with rfl|rfl|rfl|rfl|rfl<;>rfl
def Qbb(s:Pm.Store):Nat->List Pl.Ptr->List Pl.Ptr×Bool
 |0,l=>(l,true)
 |n+1,l=>if l.all (fun p=>(Qj s p (n+1:Nat)).2) then Qbb s n (l.flatMap fun p=>(Qj s p (n+1:Nat)).1) else([],false)
def QH(s:Pm.Store)(t:Pl.Tree):List Pl.Ptr×Bool:=Qbb s t.depth.toNat [t.root]
theorem QeO(s:Pm.Store)(p:Pl.Ptr)(n:Int):(Qj s p n).1.length<=4:=by grind [Qj,QkB]
theorem flat_len(f:Pl.Ptr->List Pl.Ptr)(hf: ∀p,(f p).length<=4): ∀l:List Pl.Ptr,(l.flatMap f).length<=l.length*4
 :=by intro l;induction l<;>grind
theorem Qra(s:Pm.Store): ∀(n:Nat) (l:List Pl.Ptr),(Qbb s n l).1.length<=l.length*4^n
 |0,l=>by simp[Qbb]
 |n+1,l=>by
  unfold Qbb;split
  ·refine AC (Qra s n _) ?_
   have:=flat_len (fun p=>(Qj s p (n+1:Nat)).1) (fun p=>QeO s p _) l
   calc _<=l.length*4*4^n:=Nat.mul_le_mul_right _ this
    _=l.length*4^(n+1):=by grind
  ·simp
def Qjr(s:Pm.Store)(hg:QU s)(t:Pl.Tree)(h0:0<=t.depth)(h2:t.depth<=2):Pure A3 108 [dSt s,dTree t] (.tup [tPtrs (QH s t).1,dB (QH s t).2]):=by
 have hlv:AA (QH s t=Qbb s t.depth.toNat [t.root]):=Pm.hid rfl;obtain⟨root,depth,many⟩:=t;simp only at h0 h2 hlv;obtain⟨n0,rfl⟩: ∃n0:Nat,depth=n0:=⟨depth.toNat,by omega⟩;have hn0:n0<=2:=by omega
 simp only[Int.toNat_natCast] at hlv;refine kE ?_;refine Qa 0 (h:=?_);refine Qa 1 (h:=?_)
 repeat refine kA ?_
 refine Qa 2 (h:=?_)
 refine Qq (fun m st=> ∃(n:Nat) (l:List Pl.Ptr),n<=2/\m=n/\l.length<=4^(2 -n)/\AA (QH s ⟨root,n0,many⟩=Qbb s n l)/\
  st=⟨46,[(6,.d (tPtrs l)),(7,.d (dI n)),(2,.d (.pd [dStrs s.1,dInts s.2.1.1,dInts s.2.1.2,dI s.2.2.1,dPtrs s.2.2.2.1,dI s.2.2.2.2.1,dPtrs s.2.2.2.2.2.1,dB s.2.2.2.2.2.2]))],[]⟩) [6,7,2] 0 n0 ⟨n0,[root],hn0,rfl,Nat.one_le_pow _ _ (by omega),hlv,rfl⟩ (round:=?_)
 clear hlv;rintro m st ⟨n,l,hn,rfl,hll,hL,rfl⟩
 repeat refine kG ?_
 rcases m with _|n
 ·repeat refine kA ?_
  refine Qb (hx:=?_);rw[hL.out];rfl
 have q3:decide (((n+1:Nat):Int)>0)=true:=by simp
 rw[q3]
 have hll2:l.length<=4:=by
  have h1:n=0∨n=1:=by omega
  have h2:(4:Nat)^(2 -(n+1))<=4:=by rcases h1 with rfl|rfl<;>decide
  omega
 repeat refine kA ?_
 have hv:AA (l.all (fun p=>(Qj s p (n+1:Nat)).2)=false->QH s ⟨root,n0,many⟩=([],false)):=fun e=>by rw[hL.out,Qbb,if_neg (by rw[e];simp)]
 refine Qq (fun m st=> ∃(k g:Nat) (out:List Pl.Ptr),k<=l.length/\m=l.length -k/\out.length<=4*k/\AA (out=(l.take k).flatMap fun p=>(Qj s p (n+1:Nat)).1)/\AA ((l.take k).all (fun p=>(Qj s p (n+1:Nat)).2)=true)/\
  st=⟨46,[(8,.osl 0 g 0 out.length),(9,.d (dI k)),(6,.d (tPtrs l)),(7,.d (dI (n+1:Nat))),(2,.d (.pd [dStrs s.1,dInts s.2.1.1,dInts s.2.1.2,dI s.2.2.1,dPtrs s.2.2.2.1,dI s.2.2.2.2.1,dPtrs s.2.2.2.2.2.1,dB s.2.2.2.2.2.2]))],[.arr g 5 31 (out.map rPtr)]⟩) [8,9,6,7,2] 1 l.length ⟨0,0,[],by omega,rfl,by simp,Pm.hid rfl,Pm.hid rfl,rfl⟩ (round:=?_)
 rintro m st ⟨k,g,out,hk,rfl,hol,hO,hA,rfl⟩
 repeat refine kG ?_
 cases q4:decide ((k:Int)<(l.length:Int))
 ·repeat refine kA ?_
  refine Qjk 0 (h:=?_);have:k=l.length:=by simp at q4;omega
  rw[this,A1 (AM _)] at hO hA;refine Qg n (by omega) ⟨n,out,by omega,rfl,?_,Pm.hid (by rw[hL.out,Qbb,if_pos hA.out,<-hO.out]),?_⟩
  ·have:n=0∨n=1:=by omega
   rcases this with rfl|rfl<;>simp at hll⊢ <;>omega
  ·simp[keepE,go_sem,A1]
 have hk2:k<l.length:=by simp at q4;omega
 obtain⟨x,hx⟩: ∃x,l[k]? =some x:=⟨_,A0 hk2⟩;have hr:=Qs (f:=rPtr) hx;have hc:=QoF s hg x (n+1:Nat);have hbl:=QeO s x (n+1:Nat)
 have F:AA ((Qj s x (n+1:Nat)).2=false->QH s ⟨root,n0,many⟩=([],false)):=fun e=>hv.out (by
  rw[AI];exact⟨x,A2 hx,by rw[e];simp⟩)
 have T1:AA ((l.take (k+1)).flatMap (fun p=>(Qj s p (n+1:Nat)).1)=out++(Qj s x (n+1:Nat)).1):=Pm.hid (by rw[A4,hx,hO.out];simp);have T2:AA ((Qj s x (n+1:Nat)).2=true->(l.take (k+1)).all (fun p=>(Qj s p (n+1:Nat)).2)=true):=fun e=>by rw[A4,hx,A8,hA.out];simpa using e
 clear hx;generalize Qj s x (n+1:Nat)=bb at*;obtain⟨bl,ok⟩:=bb;simp only at hbl
 repeat' first|refine kS ?_|refine qD (iy hr) ?_|refine Qe1 Ty.h rfl Ty.h (hb:=?_) (hcell:=?_) (kk:=?_)|refine kU ?_|refine kV ?_ ?_<;>intro q|fail
 ·(refine Qa 1 (h:=?_);refine Qb (hx:=?_))
  rw[F.out (by simpa using q)]<;>rfl
 ·exact Qd0 bl
 ·simp;omega
 ·refine Qg (l.length -(k+1)) (by omega) ⟨k+1,g+1,out++bl,by omega,rfl,by simp;omega,Pm.hid T1.out.symm,Pm.hid (T2.out (by simpa using q)),?_⟩
  simp[keepE,go_sem]
theorem QdK:Pl.ptrOk Pl.hole=true:=by decide
theorem pg_ok(s:List UInt8):Pl.ptrOk (QD s).1=true:=by
 unfold QD;split
 ·rename_i h;exact(Classical.choose_spec h).1
 ·exact QdK
theorem fan_ok(s:List UInt8): ∀p∈(QaG s).1,Pl.ptrOk p=true:=by grind [QaG,pg_ok]
theorem Qig(s:Pm.Store)(q:Pl.Ptr)(n:Int): ∀p∈(Qj s q n).1,Pl.ptrOk p=true:=by grind [Qj,QdK,fan_ok]
theorem lvl_ok(s:Pm.Store): ∀(n:Nat) (l:List Pl.Ptr),(∀p∈l,Pl.ptrOk p=true)-> ∀p∈(Qbb s n l).1,Pl.ptrOk p=true
 :=by intro l;induction l<;>grind [Qbb,Qig]
structure Qx(t:Pl.Tree):Prop where
 lo:0<=t.depth
 hi:t.depth<=2
 root:Pl.ptrOk t.root=true
 manyLo:0<=t.many
 manyHi:t.many<=16
theorem QiE(s:Pm.Store)(h:Pl.ptrOk t.root=true): ∀p∈(QH s t).1,Pl.ptrOk p=true:=lvl_ok s _ _ (by grind)
theorem Qgl(s:Pm.Store)(h1:t.depth<=2):(QH s t).1.length<=16:=by
 refine AC (Qra s _ _) ?_;simp only[List.length_singleton,AW];exact AC (AG (by omega) (show t.depth.toNat<=2 by omega)) (by decide)
def Qe(s:Pm.Store)(t:Pl.Tree):List Pl.Ptr:=(QH s t).1++AF (16 -(QH s t).1.length) Pl.hole
theorem QdF(s:Pm.Store)(h1:t.depth<=2):(Qe s t).length=16:=by grind [Qgl,Qe]
theorem Qft(s:Pm.Store)(h:Pl.ptrOk t.root=true): ∀p∈Qe s t,Pl.ptrOk p=true:=by
 intro p hp;rcases AQ.1 hp with hp|hp
 ·grind [QiE]
 grind [QdK]
def al8Wide(s:Pm.Store)(hg:QU s)(t:Pl.Tree)(ht:Qx t):Pure A3 55 [dSt s,dTree t] (tPtrs (Qe s t)):=by
 refine kE ?_;refine Qa 0 (h:=?_);refine Qa 1 (h:=?_);have hc:=Qjr s hg t ht.lo ht.hi;have hl:=Qgl s ht.hi;have hw:=Pm.hid (Qe.eq_def s t);generalize QH s t=lb at*;obtain⟨l,ok⟩:=lb;simp only at hl hw;have hh:=Qhp (16 -l.length) (by omega);have e:((16 -l.length:Nat):Int)=16 -(l.length:Int):=by omega
 rw[e] at hh
 repeat' first|refine kS ?_|refine Qe1 Ty.h rfl Ty.h (hb:=?_) (hcell:=?_) (kk:=?_)|refine kU ?_|fail
 ·exact Qd0 l
 ·simp;omega
 ·exact Qd0 _
 ·simp;omega
 (refine Qa 2 (h:=?_);refine Qb (hx:=?_))
 rw[hw.out];simp[A1]
def al8Get(s:Pm.Store)(hg:QU s)(t:Pl.Tree)(ht:Qx t)(k:Nat)(hk:k<16):Pure A3 251 [dSt s,dTree t,dI k] (dS (Qi s.1 ((Qe s t).getD k Pl.hole)).1):=by
 refine kE ?_;refine Qa 0 (h:=?_);refine Qa 1 (h:=?_);have hc:=al8Wide s hg t ht;have hl:=QdF s ht.hi;have ho:=Qft s ht.root;generalize Qe s t=l at*;obtain⟨x,hx⟩: ∃x,l[k]? =some x:=⟨_,A0 (by omega)⟩;have hr:=Qs (f:=rPtr) hx;have h7:=al7R s hg x fun _=>ho x (A2 hx)
 have hgd:l.getD k Pl.hole=x:=by rw[A5,hx];rfl
 rw[hgd];clear hx ho hgd
 repeat' first|refine kS ?_|refine qD (iy hr) ?_|refine kU ?_|fail
 all_goals exact Qb (hx:=rfl)
def Qc(s:Pm.Store)(t:Pl.Tree):List (List UInt8):=((Qe s t).take t.many.toNat).map fun p=>(Qi s.1 p).1
abbrev rSt(s:Pm.Store):List D:=[dStrs s.1,dInts s.2.1.1,dInts s.2.1.2,dI s.2.2.1,dPtrs s.2.2.2.1,dI s.2.2.2.2.1,dPtrs s.2.2.2.2.2.1,dB s.2.2.2.2.2.2]
abbrev rTree(t:Pl.Tree):List D:=[dI t.root.pat,dI t.root.birth,dI t.root.size,dI t.root.sum,dI t.root.level,dI t.depth,dI t.many]
def Qe8(s:Pm.Store)(hg:QU s)(t:Pl.Tree)(ht:Qx t):Pure A3 60 [dSt s,dTree t] (tStrs (Qc s t)):=by
 refine kE ?_;refine Qa 0 (h:=?_);refine Qa 1 (h:=?_);have hc:=al8Wide s hg t ht;have hl:=QdF s ht.hi;have ho:=Qft s ht.root;have h2:AA (Qc s t=((Qe s t).take t.many.toNat).map fun p=>(Qi s.1 p).1):=Pm.hid rfl;have hm0:=ht.manyLo;have hm1:=ht.manyHi;generalize Qe s t=l at*
 repeat refine kA ?_
 refine Qq (fun m st=> ∃(k g:Nat) (out:List (List UInt8)),k<=t.many.toNat/\m=16 -k/\out.length=k/\AA (out=(l.take k).map fun p=>(Qi s.1 p).1)/\
  st=⟨34,[(5,.osl 2 g 0 out.length),(6,.d (tPtrs l)),(7,.d (dI k)),(2,.d (.pd (rSt s))),(3,.d (.pd (rTree t)))],[.row 1 [],.row 1 [],.arr g 1 9 (out.map fun s=>[dS s])]⟩) [5,6,7,2,3] 3 16 ⟨0,0,[],by omega,rfl,rfl,Pm.hid rfl,rfl⟩ (round:=?_)
 rintro m st ⟨k,g,out,hk,rfl,hlen,hO,rfl⟩
 repeat refine kG ?_
 cases q4:decide ((k:Int)<t.many)
 ·repeat refine kA ?_
  (refine Qa 2 (h:=?_);refine Qb (hx:=?_))
  have:k=t.many.toNat:=by simp at q4;omega
  rw[h2.out,<-this,<-hO.out];simp[A1]
 have hk2:k<l.length:=by simp at q4;omega
 obtain⟨x,hx⟩: ∃x,l[k]? =some x:=⟨_,A0 hk2⟩;have hr:=Qs (f:=rPtr) hx;have h7:=al7R s hg x fun _=>ho x (A2 hx)
 have T:AA ((l.take (k+1)).map (fun p=>(Qi s.1 p).1)=out++[(Qi s.1 x).1]):=Pm.hid (by rw[A4,hx,hO.out];simp);clear hx
 repeat' first|refine kS ?_|refine qD (iy hr) ?_|refine QV Ty.h rfl Ty.h (hb:=?_) (kk:=?_)|refine kU ?_|fail
 ·simp;omega
 ·simp at q4
  refine Qg (16 -(k+1)) (by omega) ⟨k+1,g+1,out++[(Qi s.1 x).1],by omega,rfl,by simp[hlen],Pm.hid T.out.symm,?_⟩;simp[keepE,go_sem]
def Qat(s:Pm.Store)(many:Int)(i:Nat)(p:Pl.Ptr):Bool:=
 Pl.ptrHole p||((Qi s.1 p).2&&(p.level==0)&&decide (p.birth<=s.2.2.1)&&decide ((i:Int)<many))
def QL(s:Pm.Store)(t:Pl.Tree):Bool:=
 Pl.inR t.many 0 16&&(t.depth==(if t.many<=1 then 0 else if t.many<=4 then 1 else 2))&&Pl.ptrOk t.root&&(QH s t).2&&((QH s t).1.zipIdx.all fun q=>Qat s t.many q.2 q.1)
theorem Qdx{s:Pm.Store}(h:QL s t=true):Qx t:=by
 unfold QL at h;simp only[AL,beq_iff_eq] at h;obtain⟨⟨⟨⟨h1,h2⟩,h3⟩,_⟩,_⟩:=h;simp[Pl.inR] at h1;refine⟨?_,?_,h3,h1.1,h1.2⟩<;>rw[h2]<;>split<;>omega<;>decide
theorem Qn7{f:α×Nat->Bool}{l:List α}{x:α}(hx:l[k]? =some x):(l.take (k+1)).zipIdx.all f=((l.take k).zipIdx.all f&&f (x,k)):=by grind
theorem Qld{f:α×Nat->Bool}{l:List α}{x:α}(hx:l[k]? =some x)(h:f (x,k)=false):l.zipIdx.all f=false:=by grind
theorem al8Ok(s:Pm.Store)(hg:QU s)(t:Pl.Tree):Pure A3 191 [dSt s,dTree t] (dB (QL s t)):=by
 have hd:AA (QL s t=(Pl.inR t.many 0 16&&(t.depth==(if t.many<=1 then 0 else if t.many<=4 then 1 else 2))&&Pl.ptrOk t.root&&(QH s t).2&&((QH s t).1.zipIdx.all fun q=>Qat s t.many q.2 q.1))):=Pm.hid rfl;refine kE ?_;refine Qa 0 (h:=?_);refine Qa 1 (h:=?_);cases h1:Pl.inR t.many 0 16
 ·repeat' first|refine kS ?_|refine qD (lC (h1▸al6In t.many 0 16)) ?_|refine kU ?_|fail
  refine Qb (hx:=?_);rw[hd.out,h1];rfl
 have c1:=h1▸al6In t.many 0 16;have c2:=Qla t.many;have hdp:(if t.many<=1 then 0 else if t.many<=4 then 1 else 2:Int)=0∨(if t.many<=1 then 0 else if t.many<=4 then 1 else 2:Int)=1∨(if t.many<=1 then 0 else if t.many<=4 then 1 else 2:Int)=2:=by split<;>(try split)<;>simp
 generalize (if t.many<=1 then 0 else if t.many<=4 then 1 else 2:Int)=dp at*;cases h3:Pl.ptrOk t.root
 ·repeat' first|refine kS ?_|refine qD (lC (h3▸aPtrOk t.root)) ?_|refine kU ?_|refine kV ?_ ?_<;>intro q|fail
  all_goals
   refine Qb (hx:=?_);rw[hd.out,h3];simp
 by_cases h2:t.depth=dp
 rotate_left
 ·repeat' first|refine kS ?_|refine qD (lC (h3▸aPtrOk t.root)) ?_|refine kU ?_|refine kV ?_ ?_<;>intro q|fail
  ·refine Qb (hx:=?_)
   rw[hd.out];simp[h2]
  ·simp at q;exact absurd q h2
 have hdo:t.depth<=2/\0<=t.depth:=by omega
 have c3:=Qjr s hg t hdo.2 hdo.1;have hll:=Qgl s hdo.1;have hlo:=QiE s h3;have hd2:AA (QL s t=((QH s t).2&&((QH s t).1.zipIdx.all fun q=>Qat s t.many q.2 q.1))):=Pm.hid (by rw[hd.out,h1,h3,h2];simp);clear hd;generalize QH s t=lb at*;obtain⟨l,ok⟩:=lb;simp only at hll hlo hd2
 repeat' first|refine kS ?_|refine qD (lC (h3▸aPtrOk t.root)) ?_|refine kU ?_|refine kV ?_ ?_<;>intro q|fail
 ·simp at q;exact absurd h2 q
 ·refine Qb (hx:=?_)
  rw[hd2.out];simp at q;simp[q]
 have hok:ok=true:=by simpa using q
 subst hok
 refine Qq (fun m st=> ∃(k:Nat),k<=l.length/\m=16 -k/\AA ((l.take k).zipIdx.all (fun q=>Qat s t.many q.2 q.1)=true)/\
  st=⟨75,[(5,.d (tPtrs l)),(7,.d (dI k)),(2,.d (.pd (rSt s))),(3,.d (.pd (rTree t)))],[]⟩) [5,7,2,3] 0 16 ⟨0,by omega,rfl,Pm.hid rfl,rfl⟩ (round:=?_)
 rintro m st ⟨k,hk,rfl,hA,rfl⟩
 repeat refine kG ?_
 cases q4:decide ((k:Int)<(l.length:Int))
 ·repeat refine kA ?_
  refine Qb (hx:=?_);have:k=l.length:=by simp at q4;omega
  have h:=hA.out;rw[this,A1 (AM _)] at h;rw[hd2.out,h];rfl
 have hk2:k<l.length:=by simp at q4;omega
 obtain⟨x,hx⟩: ∃x,l[k]? =some x:=⟨_,A0 hk2⟩;have hr:=Qs (f:=rPtr) hx;have h7:=al7R s hg x fun _=>hlo x (A2 hx)
 have T:AA (Qat s t.many k x=true->(l.take (k+1)).zipIdx.all (fun q=>Qat s t.many q.2 q.1)=true):=fun e=>by rw[Qn7 hx,hA.out,e];rfl
 have F:AA (Qat s t.many k x=false->QL s t=false):=fun e=>by rw[hd2.out,Qld hx e];rfl
 have hlf:AA (Qat s t.many k x=(Pl.ptrHole x||((Qi s.1 x).2&&(x.level==0)&&decide (x.birth<=s.2.2.1)&&decide ((k:Int)<t.many)))):=Pm.hid rfl;clear hx;generalize Qi s.1 x=rb at*;obtain⟨tx,fine⟩:=rb
 repeat' first|refine kS ?_|refine qS (lC (Qdt x)) ?_|refine qS (iy hr) ?_|refine kU ?_|refine kV ?_ ?_<;>intro q|fail
 all_goals clear c1 c2 c3 h7 hr hlo hA hd2
 all_goals simp only at hlf
 all_goals first|refine Qg (16 -(k+1)) (by omega) ⟨k+1,by omega,rfl,Pm.hid (T.out ?_),rfl⟩;rw[hlf.out];clear T F hlf;simp_all;try omega|refine Qb (hx:=?_);rw[F.out ?_];rw[hlf.out];clear T F hlf;simp_all;try omega
end Aw
end
section
variable{N i a:Nat}{α:Type}
structure Pl.Sto where
 rows:List (List UInt8)
 refs:List Int
 last:List Int
 txg:Int
 gone:List Pl.Ptr
 same:Bool
namespace Pl
def Sto.st(w:Sto):Pm.Store:=(w.rows,(w.refs,w.last),w.txg,w.gone,0,[],w.same)
def Sto.drop(w:Sto)(a:Nat):Sto:=
 {w with refs:=w.refs.set a (w.refs.getD a 0 -1),last:=if w.refs.getD a 0 -1=0 then w.last.set a 0 else w.last,rows:=if w.refs.getD a 0 -1=0 then w.rows.set a [] else w.rows}
def Sto.free(w:Sto)(p:Ptr):Sto:=if ptrHole p then w else if p.birth<w.txg then{w with gone:=w.gone++[p]} else w.drop p.pat.toNat
def Sto.dropL(w:Sto)(l:List Ptr):Sto:=l.foldl (fun w p=>w.drop p.pat.toNat) w
def Sto.freeL(w:Sto)(l:List Ptr):Sto:=l.foldl Sto.free w
def Sto.next(w:Sto):Sto:={w.dropL w.gone with gone:=[],txg:=w.txg+1}
def Sto.like(w:Sto)(text:List UInt8):Option Nat:=(A6 8 56).find? fun i=>w.rows.getD i []==text&&decide (w.last.getD i 0<w.txg)&&decide (w.refs.getD i 0<w.txg)
def Sto.room(w:Sto):Option Nat:=(A6 8 56).find? fun i=>w.refs.getD i 0==0
def ptrOf(a birth level:Int)(text:List UInt8):Ptr×Bool:=
 if inR (text.length:Int) 1 128&&ptrOk ⟨a,birth,text.length,(sumOf text:Nat),level⟩ then(⟨a,birth,text.length,(sumOf text:Nat),level⟩,true) else(hole,false)
def Sto.lay1(w:Sto)(a:Nat)(text:List UInt8):Sto:={w with rows:=w.rows.set a text,refs:=w.refs.set a (w.refs.getD a 0+1),last:=w.last.set a w.txg}
def Sto.seek(w:Sto)(text:List UInt8)(level:Int):Option Nat:=(if w.same&&level==0 then w.like text else none).or w.room
def Sto.put(w:Sto)(text:List UInt8)(level:Int):Option Nat->Sto×Ptr×Bool
 |none=>(w,hole,false)
 |some a=>if(ptrOf a w.txg level text).2 then(w.lay1 a text,(ptrOf a w.txg level text).1,true) else(w,hole,false)
def Sto.write(w:Sto)(text:List UInt8)(level:Int):Sto×Ptr×Bool:=w.put text level (w.seek text level)
structure Sto.W(w:Sto)(N:Nat):Prop where
 rows:w.rows.length=64
 refs:w.refs.length=64
 last:w.last.length=64
 row: ∀r∈w.rows,r.length<=128
 ref: ∀x∈w.refs,-(N:Int)<=x/\x<=N
 las: ∀x∈w.last,0<=x/\x<=N
 txg:1<=w.txg/\w.txg<=N
 gone: ∀p∈w.gone,ptrOk p=true/\ptrHole p=false
 many:w.gone.length<=N
 blank: ∀i,w.refs.getD i 0<=0->w.rows.getD i []=[]
variable{w:Sto}
def Sto.W.le{M:Nat}(h:w.W N)(hNM:N<=M):w.W M:=
 ⟨h.rows,h.refs,h.last,h.row,fun x hx=>by have:=h.ref x hx;omega,fun x hx=>by have:=h.las x hx;omega,by have:=h.txg;omega,h.gone,by have:=h.many;omega,h.blank⟩
def Sto.W.good(h:w.W N):Aw.QU w.st:=⟨h.rows,h.row⟩
def mem_set{l:List α}{x y:α}(h:y∈l.set i x):y=x∨y∈l:=(List.mem_or_eq_of_mem_set h).symm
theorem getD_set(l:List α)(i j:Nat)(x d:α):(l.set i x).getD j d=if i=j/\j<l.length then x else l.getD j d:=by
 grind
theorem QdQ{l:List α}{d:α}(h:i<l.length):l.getD i d∈l:=by
 grind
theorem Sto.W.drop(h:w.W N)(ha:a<64):(w.drop a).W (N+1):=by
 have hr:=h.ref _ (QdQ (d:=0) (by rw[h.refs];exact ha));refine⟨?_,?_,?_,?_,?_,?_,?_,h.gone,?_,?_⟩
 ·unfold Sto.drop;dsimp only;split<;>simp[h.rows]
 ·unfold Sto.drop;simp[h.refs]
 ·unfold Sto.drop;dsimp only;split<;>simp[h.last]
 ·unfold Sto.drop;dsimp only;split
  ·intro r hr
   rcases mem_set hr with rfl|hr
   ·simp
   ·exact h.row r hr
  ·exact h.row
 ·intro x hx
  rcases mem_set hx with rfl|hx
  ·omega
  ·have:=h.ref x hx;omega
 ·unfold Sto.drop;dsimp only;split
  ·intro x hx
   rcases mem_set hx with rfl|hx
   ·omega
   ·have:=h.las x hx;omega
  ·intro x hx;have:=h.las x hx;omega
 ·have:=h.txg;grind [Sto.drop]
 ·have:=h.many;grind [Sto.drop]
 ·intro i hi
  unfold Sto.drop at hi⊢;dsimp only at hi⊢;rw[getD_set] at hi
  by_cases hai:a=i/\i<w.refs.length
  ·obtain⟨rfl,_⟩:=hai
   rw[if_pos ⟨rfl,by omega⟩] at hi;split
   ·grind
   ·exact h.blank a (by omega)
  ·rw[if_neg hai] at hi
   have:=h.blank i hi
   grind
theorem Sto.W.dropL{l:List Ptr}: ∀{w:Sto} {N:Nat},w.W N->(∀p∈l,ptrOk p=true/\ptrHole p=false)->(w.dropL l).W (N+l.length):=by
 induction l with
 |nil=>exact fun h _=>h
 |cons p l ih=>
  intro w N h hl;have hp:=hl p List.mem_cons_self;have:=ih (h.drop (a:=p.pat.toNat) (by have:=Aw.QdN hp.1 hp.2;omega)) fun q hq=>hl q (List.mem_cons_of_mem _ hq)
  exact this.le (by grind)
def Qfo: ∀(l:List Ptr) (w:Sto),(w.dropL l).gone=w.gone/\(w.dropL l).txg=w.txg/\(w.dropL l).same=w.same
 |[],w=>⟨rfl,rfl,rfl⟩
 |p::l,w=>Qfo l (w.drop p.pat.toNat)
theorem Sto.W.next(h:w.W N):w.next.W (2*N+1):=by
 have h1:=(Sto.W.dropL h h.gone).le (M:=2*N+1) (by have:=h.many;omega);have h2:=h.txg;have h3:=(Qfo w.gone w).2.1;exact⟨h1.rows,h1.refs,h1.last,h1.row,h1.ref,h1.las,by unfold Sto.next;grind,by grind [Sto.next],by simp[Sto.next],h1.blank⟩
theorem Sto.W.free(h:w.W N){p:Ptr}(hp:ptrOk p=true):(w.free p).W (N+1):=by
 unfold Sto.free;cases hh:ptrHole p
 ·simp only[Bool.false_eq_true,if_false]
  split
  ·refine⟨h.rows,h.refs,h.last,h.row,fun x hx=>by have:=h.ref x hx;omega,fun x hx=>by have:=h.las x hx;omega,by have:=h.txg;grind,fun q hq=>?_,by have:=h.many;grind,h.blank⟩
   rcases AQ.1 hq with hq|hq
   ·exact h.gone q hq
   grind
  ·exact h.drop (by have:=Aw.QdN hp hh;omega)
 ·simp only[if_true];exact h.le (by omega)
theorem Qlu{text:List UInt8}{level:Int}(h:w.seek text level=some a):8<=a/\a<64/\(w.refs.getD a 0=0∨level=0/\w.rows.getD a []=text/\w.last.getD a 0<w.txg):=by
 have key: ∀{p:Nat->Bool},(A6 8 56).find? p=some a->8<=a/\a<64/\p a=true:=fun{p} h=>by
  grind
 unfold Sto.seek at h;rcases Option.or_eq_some_iff.1 h with h|⟨_,h⟩
 ·split at h
  ·rename_i hc
   obtain⟨h1,h2,h3⟩:=key h
   grind
  ·cases h
 ·obtain⟨h1,h2,h3⟩:=key h
  grind
theorem QnM{a birth level:Int}{text:List UInt8}(h:(ptrOf a birth level text).2=true):
 (ptrOf a birth level text).1=⟨a,birth,text.length,(sumOf text:Nat),level⟩/\1<=text.length/\text.length<=128/\ptrOk (ptrOf a birth level text).1=true/\ptrHole (ptrOf a birth level text).1=false:=by
 unfold ptrOf at h⊢;split at h
 ·rename_i hc
  rw[if_pos hc];simp only[AL,inR,decide_eq_true_eq] at hc;refine⟨rfl,by omega,by omega,hc.2,?_⟩;refine decide_eq_false fun e=>?_
  grind [hole]
 ·cases h
theorem QeY(w:Sto)(text:List UInt8)(level:Int):(w.write text level).1.gone=w.gone:=by
 unfold Sto.write;cases w.seek text level with
 |none=>rfl
 |some a=>simp only[Sto.put];split<;>rfl
def QgL(w:Sto)(text:List UInt8)(level:Int):(w.write text level).1.txg=w.txg/\(w.write text level).1.same=w.same:=by
 unfold Sto.write;cases w.seek text level with
 |none=>exact⟨rfl,rfl⟩
 |some a=>simp only[Sto.put];split<;>exact⟨rfl,rfl⟩
theorem Sto.W.write(h:w.W N)(text:List UInt8)(level:Int):(w.write text level).1.W (N+1)/\ptrOk (w.write text level).2.1=true:=by
 unfold Sto.write;cases hs:w.seek text level with
 |none=>exact⟨h.le (by omega),Aw.QdK⟩
 |some a=>
  dsimp only[Sto.put];cases hp:(ptrOf a w.txg level text).2
  ·exact⟨h.le (by omega),Aw.QdK⟩
  ·obtain⟨h1,h2,h3,h4,h5⟩:=QnM hp
   obtain⟨g1,g2,g3⟩:=Qlu hs;rw[if_pos rfl];refine⟨?_,h4⟩;have hr:=h.ref _ (QdQ (d:=0) (by rw[h.refs];exact g2));have ht:=h.txg;refine⟨by simp[Sto.lay1,h.rows],by simp[Sto.lay1,h.refs],by simp[Sto.lay1,h.last],?_,?_,?_,by unfold Sto.lay1;grind,h.gone,by have:=h.many;grind [Sto.lay1],?_⟩
   ·intro r hr
    rcases mem_set hr with rfl|hr
    ·exact h3
    ·exact h.row r hr
   ·intro x hx
    rcases mem_set hx with rfl|hx
    ·omega
    ·have:=h.ref x hx;omega
   ·intro x hx
    rcases mem_set hx with rfl|hx
    ·omega
    ·have:=h.las x hx;omega
   ·intro i hi
    unfold Sto.lay1 at hi⊢;dsimp only at hi⊢;rw[getD_set] at hi⊢
    by_cases hai:a=i/\i<w.refs.length
    ·obtain⟨rfl,_⟩:=hai
     rw[if_pos ⟨rfl,by omega⟩] at hi;exfalso;rcases g3 with g3|⟨_,g3,_⟩
     ·omega
     ·have:=h.blank a (by omega)
      grind
    ·rw[if_neg hai] at hi
     rw[h.refs,<-h.rows] at hai;rw[if_neg hai];exact h.blank i hi
end Pl
end
section
open Go.RowKit
namespace Aw
variable{a:Nat}{p:Nat->Bool}
attribute [local irreducible] ASeq ADraw AWP Loc AStep Fg.PlanF Fg.Flts EndR
section
variable{P:Program}{ops:Array Oper}{K:St->Prop}{Q:Exit->St->Prop}{l:List Oper}{n:Nat}{env:List (Nat×AV)}{H H':List Blk}{ty:AX}{pos:String}{after:Array Edge}{gd:Option (Nat×Bool)}{T T0:AX}{F:TyF}{u v:Operand}{k g i j sz:Nat}{rows rows':List (List D)}{r:List D}{x:D}
theorem Qmi(hT:tyf P T=some F)(hu:aval env u= .ept k g i j)(hk:H[k]? =some (.arr g sz T0 rows))(hr:rows[i]? =some r)(hn:rows.set i (r.set j x)=rows')(hv:aval env v= .d x:=by rfl)(hj:Nat.blt j r.length=true:=by rfl)(hone:x.cell=true:=by rfl)(hsz:F.size=1:=by rfl)
 (hw:awanted ops env ⟨none,.store T u v,ty,pos,after,gd⟩=some true:=by rfl) (hg:gdOk ops n ⟨none,.store T u v,ty,pos,after,gd⟩=true:=by rfl)
 (hH: ∀R:List Blk->Prop,R H'->R (H.set k (.arr g sz T0 rows')):=by intro R hR;simp only[List.set_cons_zero,List.set_cons_succ,Nat.zero_add];exact hR)
 (kk:K ⟨n,env,H'⟩):AStep P ops ⟨none,.store T u v,ty,pos,after,gd⟩ K ⟨n,env,H⟩:=
 astep (Qgp hT hu hk hr (by simp_all) hv hone hsz) hw rfl hg (by have:=hH (fun r=>r=H') rfl;rw[hn,this];exact kk)
theorem QhT(hT:tyf P T=some F)(hu:aval env u= .ept k g i j)(hk:H[k]? =some (.arr g sz T0 rows))(hr:rows[i]? =some r)(hn:rows.set i (r.set j x)=rows')(hv:aval env v= .d x:=by rfl)(hj:Nat.blt j r.length=true:=by rfl)(hone:x.cell=true:=by rfl)(hsz:F.size=1:=by rfl)
 (hw:awanted ops env ⟨none,.store T u v,ty,pos,after,gd⟩=some true:=by rfl) (hg:gdOk ops n ⟨none,.store T u v,ty,pos,after,gd⟩=true:=by rfl)
 (hH: ∀R:List Blk->Prop,R H'->R (H.set k (.arr g sz T0 rows')):=by intro R hR;simp only[List.set_cons_zero,List.set_cons_succ,Nat.zero_add];exact hR)
 (kk:ASeq P ops Q l ⟨n,env,H'⟩):ASeq P ops Q (⟨none,.store T u v,ty,pos,after,gd⟩::l) ⟨n,env,H⟩:=
 Qjl (Qgp hT hu hk hr (by simp_all) hv hone hsz) hw hg (by have:=hH (fun r=>r=H') rfl;grind)
end
abbrev rI(l:List Int):List (List D):=l.map fun n=>[dI n]
abbrev rS(l:List (List UInt8)):List (List D):=l.map fun s=>[dS s]
theorem QfL{l:List Int}(h:a<l.length):(rI l)[0+(a:Int).toNat]? =some [dI (l.getD a 0)]:=by grind
theorem Qj1{l:List Int}{x y:Int}:(rI l).set (0+(a:Int).toNat) ([dI x].set 0 (dI y))=rI (l.set a y):=by simp_all
theorem Qj0{l:List (List UInt8)}(h:a<l.length):(rS l)[0+(a:Int).toNat]? =some [dS (l.getD a [])]:=by grind
theorem QnJ{l:List (List UInt8)}{x y:List UInt8}:(rS l).set (0+(a:Int).toNat) ([dS x].set 0 (dS y))=rS (l.set a y):=by simp_all
abbrev oS(g:Nat)(w:Pl.Sto):AV:= .agg [.osl 0 1 0 64,.osl 1 1 0 64,.osl 2 1 0 64,.d (dI w.txg),.osl 3 g 0 w.gone.length,.d (dI 0),.osl 4 1 0 0,.d (dB w.same)]
abbrev hS(g:Nat)(w:Pl.Sto):List Blk:=[.arr 1 1 9 (rS w.rows),.arr 1 1 3 (rI w.refs),.arr 1 1 3 (rI w.last),.arr g 5 31 (w.gone.map rPtr),.arr 1 5 31 []]
abbrev gS(g:Nat)(w:Pl.Sto):List AV:=[.osl 0 1 0 64,.osl 1 1 0 64,.osl 2 1 0 64,.osl 3 g 0 w.gone.length,.osl 4 1 0 0]
def eGive(refs last:List Int)(a:Nat)(ha:a<64)(h1:refs.length=64)(h2:last.length=64)(hb: -1000000000<=refs.getD a 0/\refs.getD a 0<=1000000000):
 DoesE A3 176 [.agg [.osl 0 1 0 64,.osl 1 1 0 64],.d (dI a)] [.arr 1 1 3 (rI refs),.arr 1 1 3 (rI last)] [.osl 0 1 0 64,.osl 1 1 0 64]
  (fun x H=>x= .agg [.osl 0 1 0 64,.osl 1 1 0 64]/\H=[.arr 1 1 3 (rI (refs.set a (refs.getD a 0 -1))),.arr 1 1 3 (rI (if refs.getD a 0 -1=0 then last.set a 0 else last))]):=by
 have hr:=QfL (l:=refs) (a:=a) (by omega);have hl:=QfL (l:=last) (a:=a) (by omega);have hr2:=QfL (l:=refs.set a (refs.getD a 0 -1)) (a:=a) (by simp;omega);rw[Pl.getD_set,if_pos ⟨rfl,by omega⟩] at hr2;have s1:=fun y=>Qj1 (l:=refs) (a:=a) (x:=refs.getD a 0) (y:=y)
 have s2:=fun y=>Qj1 (l:=last) (a:=a) (x:=last.getD a 0) (y:=y)
 generalize refs.getD a 0=rv at*;generalize last.getD a 0=lv at*;refine kH fun gvs=>?_
 repeat' first|refine kS ?_|(show AWP _ (.region 1 _ _) _ _;refine(Fg.awp_drawF (id:=1) [] [10] ?_))|refine qD (Qdg Ty.h rfl rfl hr rfl) ?_|refine qS (Qdg Ty.h rfl rfl hr2 rfl) ?_|refine(Qmi Ty.h rfl rfl hr (s1 _) (kk:=?_))|refine(QhT Ty.h rfl rfl hl (s2 _) (kk:=?_))|refine kU ?_|refine kV ?_ ?_<;>intro q|fail
 all_goals first|refine Q1 2 (hx:=?_);refine⟨rfl,?_⟩;rw[if_pos (by simpa using q)];rfl|refine Q1 2 (hx:=?_);refine⟨rfl,?_⟩;rw[if_neg (by simpa using q)];rfl|skip
def eDrop(g:Nat)(w:Pl.Sto)(N:Nat)(hN:N<=1000000)(hw:w.W N)(a:Nat)(ha:a<64):
 DoesE A3 104 [oS g w,.d (dI a)] (hS g w) (gS g w) (fun x H=>x=oS g (w.drop a)/\H=hS g (w.drop a)):=by
 have hb:=hw.ref _ (Pl.QdQ (d:=0) (i:=a) (by rw[hw.refs];omega));have c:=eGive w.refs w.last a ha hw.refs hw.last (by omega);have hq:AA (w.drop a=⟨if w.refs.getD a 0 -1=0 then w.rows.set a [] else w.rows,w.refs.set a (w.refs.getD a 0 -1),if w.refs.getD a 0 -1=0 then w.last.set a 0 else w.last,w.txg,w.gone,w.same⟩):=Pm.hid rfl;have hr2:=QfL (l:=w.refs.set a (w.refs.getD a 0 -1)) (a:=a) (by simp;have:=hw.refs;omega);rw[Pl.getD_set,if_pos ⟨rfl,by have:=hw.refs;omega⟩] at hr2;have hl:=Qj0 (l:=w.rows) (a:=a) (by rw[hw.rows];omega);have s2:=fun y=>QnJ (l:=w.rows) (a:=a) (x:=w.rows.getD a []) (y:=y)
 rw[hq.out];clear hq hw;obtain⟨rows,refs,last,txg,gone,same⟩:=w;simp only at*;have l1:(refs.set a (refs.getD a 0 -1)).length=refs.length:=by simp
 have l2:(if refs.getD a 0 -1=0 then last.set a 0 else last).length=last.length:=by split<;>simp
 generalize refs.getD a 0 -1=rv at*;generalize refs.set a rv=refs2 at*;generalize (if rv=0 then last.set a 0 else last)=last2 at*;generalize rows.getD a []=lv at*;refine kH fun gvs=>?_
 repeat' first|refine kS ?_|refine QC [1,2] c cK (k:=kX ?_)|refine qS (Qdg Ty.h rfl rfl hr2 rfl) ?_|refine(QhT Ty.h rfl rfl hl (s2 _) (kk:=?_))|refine kU ?_|refine kV ?_ ?_<;>intro q|fail
 all_goals first|refine Q1 5 (hx:=?_);refine⟨rfl,?_⟩;rw[if_pos (by simpa using q)];rfl|refine Q1 5 (hx:=?_);refine⟨rfl,?_⟩;rw[if_neg (by simpa using q)];rfl|skip
theorem eFree(g:Nat)(w:Pl.Sto)(N:Nat)(hN:N<=1000000)(hw:w.W N)(p:Pl.Ptr)(hp:Pl.ptrOk p=true):
 DoesE A3 59 [oS g w,.d (dPtr p)] (hS g w) (gS g w) (fun x H=> ∃g',x=oS g' (w.free p)/\H=hS g' (w.free p)):=by
 have c0:=Qdt p;have hmany:=hw.many;cases hh:Pl.ptrHole p;rotate_left
 ·have hq:AA (w.free p=w):=Pm.hid (by unfold Pl.Sto.free;rw[if_pos hh])
  rw[hh] at c0;rw[hq.out];refine kH fun gvs=>?_
  refine Qa 6 (h:=?_)
  repeat refine kA ?_
  all_goals(refine Q1 5 (hx:=?_);exact⟨g,rfl,rfl⟩)
 rw[hh] at c0;have hat:=QdN hp hh
 have hbi:1<=p.birth:=by
  rw[Qkn,hh] at hp;simp[Pl.inR] at hp;omega
 obtain⟨a,ha⟩:=Int.eq_ofNat_of_zero_le hat.1;have c:=eDrop g w N hN hw a (by omega);have hq:AA (w.free p=if p.birth<w.txg then⟨w.rows,w.refs,w.last,w.txg,w.gone++[p],w.same⟩ else w.drop a):=Pm.hid (by unfold Pl.Sto.free;rw[if_neg (by simp[hh]),ha];rfl);rw[hq.out];have hwd:=hw.drop (a:=a) (by omega);have l0:(w.drop a).rows.length=w.rows.length:=by rw[hwd.rows,hw.rows]
 have l1:(w.drop a).refs.length=w.refs.length:=by rw[hwd.refs,hw.refs]
 have l2:(w.drop a).last.length=w.last.length:=by rw[hwd.last,hw.last]
 have l3:(w.drop a).gone.length=w.gone.length:=rfl;clear hwd;generalize w.drop a=wd at*;clear hq hw hp hh;obtain⟨rows,refs,last,txg,gone,same⟩:=w;obtain⟨pat,birth,size,sum,level⟩:=p;simp only at*;subst ha
 by_cases hlt:birth<txg
 ·rw[if_pos hlt]
  clear c;refine kH fun gvs=>?_
  refine Qa 6 (h:=?_)
  repeat' first|refine kS ?_|refine QV Ty.h rfl Ty.h (hb:=?_) (kk:=?_)|refine kU ?_|refine kV ?_ ?_<;>intro q|fail
  all_goals first|exfalso;simp only[decide_eq_true_eq,decide_eq_false_iff_not] at*;omega|simp;omega|refine Q1 5 (hx:=?_);refine⟨g+1,?_,?_⟩<;>simp only[oS,hS,List.length_append,AP,AK,AO]<;>rfl|skip
 ·rw[if_neg hlt]
  refine kH fun gvs=>?_
  refine Qa 6 (h:=?_)
  repeat' first|refine kS ?_|refine QC [0,1,2,3,4] c cK (k:=kX ?_)|refine kU ?_|refine kV ?_ ?_<;>intro q|fail
  all_goals first|exfalso;simp only[decide_eq_true_eq,decide_eq_false_iff_not] at*;omega|refine Q1 5 (hx:=?_);exact⟨g,rfl,rfl⟩|skip
def al5In0(a:Int):Pure A3 180 [.sl false 1 [],dI a] (dB false):=by
 refine kE ?_
 repeat refine kA ?_
 refine Qq (fun m st=>m=0/\st=⟨18,[(5,.d (dI 0)),(0,.d (.sl false 1 [])),(1,.d (dI a))],[]⟩) [5,0,1] 0 0 ⟨rfl,rfl⟩ (round:=?_);rintro m st ⟨rfl,rfl⟩
 repeat refine kA ?_
 all_goals exact Qb (hx:=rfl)
def QhP{k:Nat}(h: ∀i,i<k->p (8+i)=false)(hk:k=56):(A6 8 56).find? p=none:=by
 rw[List.find?_eq_none];intro x hx;rw[List.mem_range'_1] at hx;have:=h (x -8) (by omega);rw[show 8+(x -8)=x by omega] at this;rw[this];simp
def QhO{k:Nat}(h: ∀i,i<k->p (8+i)=false)(hk:k<56)(hp:p (8+k)=true):(A6 8 56).find? p=some (8+k):=by
 rw[List.find?_eq_some_iff_getElem];refine⟨hp,k,by simpa using hk,by simp,fun j hj=>?_⟩;simp only[List.getElem_range',AW,Bool.not_eq_eq_eq_not,Bool.not_true];exact h j hj
def QcO:Option Nat->Int
 |none=> -1
 |some a=>a
def al5Find(refs last:List Int)(h1:refs.length=64):Pure A3 112 [.agg [dInts refs,dInts last],dI 8,.sl false 1 []] (dI (QcO ((A6 8 56).find? fun i=>refs.getD i 0==0))):=by
 have c1:=al2Row 8;have hc:Pl.inR 8 8 63=true:=by decide
 rw[hc] at c1;have c2:=fun a=>al5In0 a
 refine kE ?_;refine Qa 0 (h:=?_)
 repeat refine kA ?_
 refine Qq (fun m st=> ∃k:Nat,k<=56/\m=56 -k/\AA (∀i,i<k->(refs.getD (8+i) 0==0)=false)/\st=⟨38,[(8,.d (dI k)),(7,.d (dI 56)),(1,.d (dI 8)),(2,.d (.sl false 1 [])),(3,.d (.pd [dInts refs,dInts last]))],[.row 1 []]⟩) [8,7,1,2,3] 1 56 ⟨0,by omega,rfl,Pm.hid (fun i hi=>by omega),rfl⟩ (round:=?_);rintro m st ⟨k,hk,rfl,hA,rfl⟩
 repeat refine kG ?_
 cases q4:decide ((k:Int)<56)
 ·have:k=56:=by simp at q4;omega
  rw[QhP hA.out this]
  repeat refine kA ?_
  exact Qb (hx:=rfl)
 have hk2:k<56:=by simp at q4;omega
 have hr:=QfL (l:=refs) (a:=8+k) (by omega);rw[AB] at hr;have hS:AA ((refs.getD (8+k) 0==0)=true->(A6 8 56).find? (fun i=>refs.getD i 0==0)=some (8+k)):=Pm.hid fun h=>QhO hA.out hk2 h
 have hF:AA ((refs.getD (8+k) 0==0)=false-> ∀i,i<k+1->(refs.getD (8+i) 0==0)=false):=Pm.hid fun h i hi=>by
  by_cases hik:i=k
  ·rw[hik];exact h
  ·exact hA.out i (by omega)
 have e2:(8:Int)+((8:Int) -8+k)%56=((8+k:Nat):Int):=by omega
 clear hA;generalize refs.getD (8+k) 0=rv at*
 repeat' first|refine kS ?_|refine qS (Qdr cK (c2 _) rfl) ?_|refine qS (Qg5 rfl rfl (by omega) (by omega)) ?_|refine qS (Qdd Ty.h rfl Ty.h rfl rfl rfl (by rw[e2];omega) (by rw[e2];exact hr)) ?_|refine kU ?_|refine kV ?_ ?_<;>intro q|fail
 all_goals first|exact Qb (hx:=by rw[hS.out (by assumption),QcO,e2])|refine Qg (56 -(k+1)) (by omega) ⟨k+1,by omega,rfl,Pm.hid (hF.out (by assumption)),?_⟩;simp[keepE,go_sem]

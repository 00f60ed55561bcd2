/- Of fby_card; no condition. -/
import Derived.Test.YtfmnpmhadmcdkaaGreatDoorT07
import Derived.Test.YtfmnpmhadmcdkaaGreatDoorT08
set_option linter.all false
set_option maxRecDepth 100000
set_option maxHeartbeats 8000000
open Bool renaming not_false->AQ,true_and->AT,and_true->AU
open Go renaming Operand->AW
open Go.Proofs.Tryz renaming prog->A5
open Go.RowKit renaming Hid->AC
open Int.ofNat renaming inj->AR
open List renaming getElem?_eq_getElem->A0,take_of_length_le->A1,mem_of_getElem?->A2,getD_eq_getElem?_getD->A3,getElem?_map->A4,getElem?_eq_some_iff->A6,replicate->A7,take_add_one->A8,all_append->AB,mem_or_eq_of_mem_set->AD,getElem?_set_self->AG,any_append->AH,getElem?_eq_none->AI,all_eq_false->AK,length_take->AL,range->AP,map_cons->AS,map_nil->AX,map_set->AY
open Nat renaming zero_add->A9,le_trans->AF,pow_le_pow_right->AJ,le_refl->AM
open Option renaming getD_some->AE
open Option.some renaming inj->AA
open UInt8 renaming toNat_inj->AN,toNat_lt->AO
namespace Go.Proofs.YtfmnpmhadmcdkaaGreatDoor
noncomputable section
open Go.RowKit
namespace Aw
variable{p:Pl.Ptr}{T ty T0:TypeId}{after:Array Edge}{pos:String}{t:Pl.Tree}{k i j sz:Nat}{α:Type}{x:D}{r:List D}{u:AW}{H':List Blk}{ops:Array Oper}{P:Program}
attribute [local irreducible] ASeq ADraw AWP Loc AStep Fg.PlanF Fg.Flts
abbrev dStore(rows:List (List UInt8))(refs last:List Int)(txg:Int)(gone:List Pl.Ptr)(keep:Int)(dead:List Pl.Ptr)(same:Bool):D:=
 .agg [dStrs rows,dInts refs,dInts last,dI txg,dPtrs gone,dI keep,dPtrs dead,dB same]
def Qf(rows:List (List UInt8))(p:Pl.Ptr):List UInt8×Bool:=
 if Pl.ptrHole p then([],true) else if QaU p (rows.getD p.pat.toNat []) then(rows.getD p.pat.toNat [],true) else([],false)
theorem al7Read(rows:List (List UInt8))(refs last:List Int)(txg:Int)(gone:List Pl.Ptr)(keep:Int)(dead:List Pl.Ptr)(same:Bool)(p:Pl.Ptr)
 (hs: ∀s∈rows,s.length<=Pm.big) (hp:Pl.ptrHole p=false->0<=p.pat/\p.pat<rows.length):
 Pure A5 94 [dStore rows refs last txg gone keep dead same,dPtr p] (.tup [dS (Qf rows p).1,dB (Qf rows p).2]):=by
 refine kN ?_;simp only[parE,dPtr,A9];refine kR ?_;refine Qa 0 (h:=?_);refine Qa 1 (h:=?_);cases h1:Pl.ptrHole p;rotate_left
 ·repeat' first|refine kS ?_|refine qS (lC (h1▸Qdk p)) ?_|refine kU ?_|fail
  all_goals exact Qb (hx:=by simp[Qf,h1])
 ·obtain⟨h2,h3⟩:=hp h1
  have hlt:p.pat.toNat<rows.length:=by omega
  obtain⟨s,hsd⟩: ∃s,s=rows[p.pat.toNat]:=⟨_,rfl⟩;have hr:(rows.map fun s=>[dS s])[p.pat.toNat]? =some [dS s]:=by rw[A4,A0 hlt,hsd];rfl
  have hg:AC (rows.getD p.pat.toNat []=s):=by rw[A3,A0 hlt,hsd];rfl
  have hsl:s.length<=Pm.big:=hs s (by rw[hsd];exact List.getElem_mem hlt);clear hsd
  repeat' first|refine kS ?_|refine qS (lC (h1▸Qdk p)) ?_|refine qD (lC (Qop p s hsl)) ?_|refine qD (QcV Ty.h rfl Ty.h rfl rfl rfl h2 hr) ?_|refine qS (QcV Ty.h rfl Ty.h rfl rfl rfl h2 hr) ?_|refine kU ?_|refine kV ?_ ?_<;>intro q|fail
  all_goals exact Qb (hx:=by simp_all[Qf,hg.out])
abbrev tStrs(l:List (List UInt8)):D:= .sl true 1 (l.map fun s=>[dS s])
abbrev tPtrs(l:List Pl.Ptr):D:= .sl true 5 (l.map fun p=>[dI p.pat,dI p.birth,dI p.size,dI p.sum,dI p.level])
def Qhd(n:Nat)(hn:n<=16):Pure A5 159 [dI n] (tPtrs (A7 n Pl.hole)):=by
 refine kN ?_;simp only[parE]
 repeat' first|refine kS ?_|refine stepS2 (QhO Ty.h rfl Ty.h rfl rfl rfl (by simp;omega) (by omega)) (k:=?_)|refine kU ?_|fail
 refine Qa 0 (h:=?_);exact Qb (hx:=by simp[Pl.hole])
theorem al2Cut(s:List UInt8)(b:UInt8)(hs:s.length<=1000000000000):Pure A5 195 [dS s,.v (.int .u8 b.toNat)] (tStrs (Pl.cutB b s)):=by
 have hb256:=AO b;refine kN ?_;simp only[parE,A9]
 repeat refine kA ?_
 refine Qo (fun m st=> ∃(k f g:Nat) (out:List (List UInt8)),k<=s.length/\m=s.length -k/\f<=k/\AC (Pl.cutB b s=out++Pl.cutB b (s.drop f))/\AC (b∉(s.drop f).take (k -f))/\out.length<=f/\
  st=⟨35,[(5,.osl 0 g 0 out.length),(6,.d (dI f)),(7,.d (dI k)),(0,.d (dS s)),(1,.d (.v (.int .u8 b.toNat)))],[.arr g 1 9 (out.map fun s=>[dS s])]⟩) [5,6,7,0,1] 1 s.length ⟨0,0,0,[],by omega,rfl,by omega,Pm.hid rfl,Pm.hid (by simp),by simp,rfl⟩ (round:=?_)
 rintro m st ⟨k,f,g,out,hk,rfl,hf,hO,hN,hlen,rfl⟩
 repeat refine kG ?_
 cases q3:decide ((k:Int)<(s.length:Int))
 ·have hA:(s.length:Int)<=s.length:=by omega
  repeat' first|refine kS ?_|refine qS (QfG rfl rfl rfl (by omega) (by omega)) ?_|refine QV Ty.h rfl Ty.h (hb:=?_) (kk:=?_)|refine kU ?_|fail
  ·simp;omega
  refine Qa 0 (h:=?_);simp at q3;have:k=s.length:=by omega
  subst this;have h:=hN.out;rw[A1 (by simp)] at h;exact Qb (hx:=by rw[hO.out,Pl.Qe1 _ _ h];simp[A1])
 simp at q3;have q3:k<s.length:=by omega
 obtain⟨c,hc⟩: ∃c,s[k]? =some c:=⟨_,A0 q3⟩;have hc':s[(k:Int).toNat]? =some c:=hc;have hc2:=Pm.hid hc;clear hc
 repeat' first|refine kS ?_|refine qS (Qe5 rfl rfl rfl rfl (by omega) (by omega) (by omega)) ?_|refine qS (QdX Ty.h rfl rfl rfl (by omega) hc') ?_|refine QV Ty.h rfl Ty.h (hb:=?_) (kk:=?_)|refine kU ?_|refine kV ?_ ?_<;>intro q|fail
 ·simp;omega
 ·have h:=Pl.Qr5 hf q3 hN.out (by have h:=hc2.out;rw[A0 q3] at h;rw[AA h];exact AN.1 (AR (by simpa using q)))
  refine Qh (s.length -(k+1)) (by omega) ⟨k+1,k+1,g+1,out++[(s.drop f).take (k -f)],by omega,rfl,by omega,Pm.hid (by rw[hO.out,h];simp),Pm.hid (by simp),by simp;omega,?_⟩;simp[List.drop_take,go_sem,keepE]
 ·refine Qh (s.length -(k+1)) (by omega) ⟨k+1,f,g,out,by omega,rfl,by omega,hO,Pm.hid (Pl.Qll hf q3 hN.out ?_),hlen,rfl⟩
  have h:=hc2.out;rw[A0 q3] at h;rw[AA h];intro e;subst e;simp at q
def QB(s:List UInt8):Pl.Ptr×Bool:=open Classical in if h: ∃p,Pl.IsPtr s p then(Classical.choose h,true) else(Pl.hole,false)
theorem pg_is{s:List UInt8}(h:Pl.IsPtr s p):QB s=(p,true):=by
 unfold QB;have hx: ∃p,Pl.IsPtr s p:=⟨p,h⟩
 grind [Pl.Ql2]
theorem QtR{s:List UInt8}(h: ∀p,¬Pl.IsPtr s p):QB s=(Pl.hole,false):=by grind [QB]
def QsL{dst:Option Tmp}{gd:Option (Nat×Bool)}{env:List (Nat×AV)}{H:List Blk}{T':TypeId}{x y:AW}{a b:Int}(hx:aval env x= .d (.v (.int .u8 a)))(hy:aval env y= .d (.v (.int .u8 b)))(h:0<=a -b/\a -b<=255):
 Loc A5 ⟨dst,.binOp .sub T x y T',ty,pos,after,gd⟩ env H (.d (.v (.int .u8 (a -b)))) none:=
 loc_bin' (X:= .int .u8 a) (Y:= .int .u8 b) (by rw[hx];rfl) (by rw[hy];rfl) fun w=>by
  rw[Sem.run_bind,Qea,Result.andThen_ok];have:IntKind.u8.wrap (a -b)=a -b:=Int.emod_eq_of_lt h.1 (by show a -b<256;omega);simp[binOp,Op.intArith,this]
def al1Num(s:List UInt8)(hs:s.length<=Pm.big):Pure A5 201 [dS s] (.tup [dI ((Pl.l1num s).1:Nat),dI ((Pl.l1num s).2:Nat)]):=by
 simp only[Pm.big] at hs
 have hdf:AC (∀k,Pl.digs s=s.take k->(s.take k).length=k->Pl.l1num s=if 1<k/\s.head? =some 48 then(0,1) else(Pl.val (s.take k),k)):=Pm.hid fun k hd hl=>by
  unfold Pl.l1num;rw[hd,hl]
 obtain⟨c0,hc0⟩: ∃c0,0<s.length->s[(0:Int).toNat]? =some c0/\s.head? =some c0:=by
  cases s with
  |nil=>exact⟨0,fun h=>absurd h (by simp)⟩
  |cons a b=>exact⟨a,fun _=>⟨rfl,rfl⟩⟩
 generalize hr:Pl.l1num s=r at*;clear hr;refine kB ?_
 repeat refine kA ?_
 refine Qo (fun m st=> ∃k n:Nat,k<=s.length/\k<=9/\m=s.length -k/\n<1000000000/\AC (n=Pl.val (s.take k))/\AC ((s.take k).all Pl.isDig=true)/\st=⟨45,[(4,.d (dI n)),(5,.d (dI k)),(0,.d (dS s))],[]⟩) [4,5,0] 0 s.length ⟨0,0,by omega,by omega,rfl,by omega,Pm.hid rfl,Pm.hid (by simp),by simp[keepE,go_sem]⟩ (round:=?_);rintro m st ⟨k,n,hk,hk9,rfl,hn,hN,hA,rfl⟩
 obtain⟨c,hc⟩: ∃c,k<s.length->s[(k:Int).toNat]? =some c/\s[k]? =some c:=by
  by_cases h:k<s.length
  ·exact⟨s[k],fun _=>⟨A0 h,A0 h⟩⟩
  ·exact⟨0,fun h'=>absurd h' h⟩
 have hkl:(s.take k).length=k:=by rw[AL];omega
 have X:AC ((k=9∨k=s.length∨ ¬(48<=c.toNat/\c.toNat<=57))->r=if 1<k/\s.head? =some 48 then(0,1) else(n,k)):=Pm.hid fun h=>by
  rw[hN.out];refine hdf.out k (Pl.Qr1 hk hA.out hk9 ?_) hkl;rcases h with h|h|h
  ·exact .inl h
  ·exact .inr fun d hd=>by rw[AI (by omega)] at hd;cases hd
  ·by_cases hlt:k<s.length
   ·refine .inr fun d hd=>?_
    rw[(hc hlt).2] at hd;obtain rfl:=AA hd;cases hx:Pl.isDig c
    ·rfl
    ·exact absurd ((Pl.QeE c).1 hx) h
   ·exact .inr fun d hd=>by rw[AI (by omega)] at hd;cases hd
 have T:AC (k<s.length->k<9->48<=c.toNat->c.toNat<=57-> ∃n':Nat,n'<1000000000/\(n':Int)=10*n+((c.toNat:Int) -48)/\n'=Pl.val (s.take (k+1))/\(s.take (k+1)).all Pl.isDig=true):=Pm.hid fun h1 h2 h3 h4=>by
  have hcc:s[k]=c:=(A6.1 (hc h1).2).2;have hal:(s.take (k+1)).all Pl.isDig=true:=by rw[List.take_succ_eq_append_getElem h1,AB,hA.out,hcc];simp[Pl.isDig,h3,h4]
  have hv:=Pl.Qsm s k h1;rw[hcc,<-hN.out] at hv;have hl:=Pl.Qp7 (s.take (k+1)) hal;have hl2:Pl.val (s.take (k+1))<1000000000:=Nat.lt_of_lt_of_le hl (AF (AJ (by omega) (show(s.take (k+1)).length<=9 by rw[AL];omega)) (by decide));exact⟨_,hl2,by rw[hv];unfold Pl.dgt;omega,rfl,hal⟩
 have hcI:=Pm.hid fun h=>(hc h).1
 have h0I:=Pm.hid fun h=>(hc0 h).1
 have Y:AC (1<k->((c0.toNat:Int)=48->s.head? =some 48)/\((c0.toNat:Int)≠48->s.head? ≠some 48)):=Pm.hid fun h=>by
  rw[(hc0 (by omega)).2];exact⟨fun e=>by rw[show c0=48 from AN.1 (AR e)],fun e h=>e (by rw[AA h];rfl)⟩
 clear hdf hN hA hc hc0 hkl;have hc256:=AO c
 repeat' first|refine kS ?_|refine qS (QdX Ty.h rfl rfl rfl (by omega) (hcI.out (by simp only[decide_eq_true_eq] at*;omega))) ?_|refine qS (QdX Ty.h rfl rfl rfl (by omega) (h0I.out (by simp only[decide_eq_true_eq] at*;omega))) ?_|refine qS (Qdu rfl rfl (by omega)) ?_|refine qS (QsL rfl rfl (by simp only[decide_eq_true_eq] at*;omega)) ?_|refine qS (QdJ Tryz.underlying5 Tryz.underlying3 rfl rfl (Pm.Qgm _ (by simp only[decide_eq_true_eq] at*;omega) (by simp only[decide_eq_true_eq] at*;omega))) ?_|refine kU ?_|refine kV ?_ ?_<;>intro q|fail
 all_goals
  simp only[decide_eq_true_eq,decide_eq_false_iff_not,beq_iff_eq,beq_eq_false_iff_ne,ne_eq,gt_iff_lt,ge_iff_le] at*;clear hcI h0I
 all_goals first
  |(obtain⟨n',h1,h2,h3,h4⟩:=T.out (by omega) (by omega) (by omega) (by omega)
    refine Qh (s.length -(k+1)) (by omega) ⟨k+1,n',by omega,by omega,rfl,h1,Pm.hid h3,Pm.hid h4,?_⟩;rw[h2]
    simp[keepE,go_sem];done)
  |(refine Qb (hx:=?_)
    rw[X.out (by omega),if_pos ⟨by omega,(Y.out (by omega)).1 (by omega)⟩]
    rfl)
  |(refine Qb (hx:=?_)
    rw[X.out (by omega),if_neg (fun h=>(Y.out h.1).2 (by omega) h.2)])
  |(refine Qb (hx:=?_)
    rw[X.out (by omega),if_neg (fun h=>absurd h.1 (by omega))])
def aNumGet(s:List UInt8)(hs:s.length<=Pm.big):Pure A5 132 [dS s] (.tup [dI ((Pl.numGet s).getD 0:Nat),dB (Pl.numGet s).isSome]):=by
 have c:=al1Num s hs;have hd:=Pm.hid (Pl.Qlk s);generalize Pl.numGet s=r at*;generalize Pl.l1num s=p at*;obtain⟨n,k⟩:=p;simp only at hd c;refine kB ?_
 repeat' first|refine kA ?_|refine kV ?_ ?_<;>intro q|fail
 all_goals
  simp only[beq_iff_eq,beq_eq_false_iff_ne,bne_iff_ne,bne_eq_false_iff_eq,ne_eq] at*;refine Qb (hx:=?_)
 all_goals first|rw[hd.out,if_pos (by omega)];rfl|rw[hd.out,if_neg (by omega)];rfl
theorem aPtrGet(s:List UInt8)(hs:s.length<=1000000000000):Pure A5 133 [dS s] (.tup [dPtr (QB s).1,dB (QB s).2]):=by
 by_cases h45:s=[45]
 ·rw[pg_is (h45▸Pl.Qj4)]
  subst h45;refine kC ?_
  repeat refine kA ?_
  all_goals
   (refine Qa 0 (h:=?_);refine QR (hx:=?_))
   rfl
 have hse:(s==[45])=false:=beq_eq_false_iff_ne.2 h45;have c1:=al2Cut s 46 hs;have hcl:=Pm.cutB_le' 46 s;have Hnl:=Pm.hid (Pl.Qqb h45);have Hnn:=Pm.hid (fun k=>Pl.Qqa (k:=k) h45);have Hnb:=Pm.hid (fun a b c d e=>Pl.ptr_bad (a:=a) (b:=b) (c:=c) (d:=d) (e:=e) h45);have Hng:=Pm.hid (fun a b c d e=>Pl.QsB (s:=s) (a:=a) (b:=b) (c:=c) (d:=d) (e:=e));have hpn:AC ((∀p,¬Pl.IsPtr s p)->QB s=(Pl.hole,false)):=Pm.hid QtR;have hpy:AC (∀p,Pl.IsPtr s p->QB s=(p,true)):=Pm.hid fun p=>pg_is
 generalize QB s=r at*;generalize Pl.cutB 46 s=l at*
 by_cases h5:l.length=5
 rotate_left
 ·have hn:((l.length:Int) !=5)=true:=bne_iff_ne.2 (by omega)
  refine kC ?_
  repeat' first|refine kA ?_|refine kV ?_ ?_<;>intro q|fail
  all_goals first
   |(exfalso;rw[hn] at*;simp at*;done)
   |(exfalso;rw[hse] at*;simp at*;done)
   |((refine Qa 0 (h:=?_);refine QR (hx:=?_))
     rw[hpn.out (Hnl.out h5)]
     rfl)
 have hn:((l.length:Int) !=5)=false:=by rw[h5];rfl
 clear Hnl;refine kC ?_
 repeat' first|refine kA ?_|refine kV ?_ ?_<;>intro q|fail
 all_goals first|exfalso;rw[hn] at*;simp at*;done|exfalso;rw[hse] at*;simp at*;done|skip
 refine Qo (fun m st=> ∃(k:Nat) (nums:List Nat),k<=5/\m=5 -k/\nums.length=k/\AC (l.take k=nums.map Pl.dec)/\
  st=⟨64,[(2,.ptr 0 0 0),(4,.d (tStrs l)),(5,.osl 1 nums.length 0 nums.length),(6,.d (dI k))],[.row 0 [.d (dI 0),.d (dI 0),.d (dI 0),.d (dI 0),.d (dI 0)],.arr nums.length 1 3 (nums.map fun(n:Nat)=>[dI (n:Int)])]⟩) [2,4,5,6] 2 5 ⟨0,[],by omega,rfl,rfl,Pm.hid rfl,by simp[keepE,go_sem]⟩ (round:=?_)
 rintro m st ⟨k,nums,hk,rfl,hlen,hO,rfl⟩
 repeat refine kG ?_
 cases q3:decide ((k:Int)<5)
 ·have hk5:k=5:=by simp at q3;omega
  obtain⟨n1,n2,n3,n4,n5,rfl⟩: ∃n1 n2 n3 n4 n5,nums=[n1,n2,n3,n4,n5]:=by
   match nums,hlen.trans hk5 with
   |[a,b,c,d,e],_=>exact⟨a,b,c,d,e,rfl⟩
  subst hk5;rw[A1 (by omega)] at hO;have hO2:=hO.out;simp only[AS,AX] at hO2;have hb:=Pm.hid (Hnb.out n1 n2 n3 n4 n5 hO2);have hg:=Pm.hid (Hng.out n1 n2 n3 n4 n5 hO2);have c2:=aPtrOk ⟨n1,n2,n3,n4,n5⟩;have c3:=Qdk ⟨n1,n2,n3,n4,n5⟩;clear Hnb Hng Hnn hO hO2 hcl c1 h5 hn;generalize Pl.ptrOk ⟨n1,n2,n3,n4,n5⟩=o at*;generalize Pl.ptrHole ⟨n1,n2,n3,n4,n5⟩=u at*;simp only[AS,AX,List.length_cons,List.length_nil];refine Qa 1 (h:=?_)
  repeat' first|refine kS ?_|refine qD (iy rfl) ?_|(show AWP _ (.region 14 _ _) _ _;refine(Fg.awp_drawF (id:=14) [] [17] ?_))|refine kU ?_|refine kV ?_ ?_<;>intro q|fail
  all_goals first
   |((refine Qa 0 (h:=?_);refine QR (hx:=?_))
     rw[hpn.out (hb.out (by simp_all))]
     rfl)
   |((refine Qa 0 (h:=?_);refine QR (hx:=?_))
     rw[hpy.out _ (hg.out (by simp_all) (by simp_all))])
 have hk2:k<5:=by simp at q3;omega
 have hkl:k<l.length:=by omega
 obtain⟨x,hx⟩: ∃x,l[k]? =some x:=⟨_,A0 hkl⟩;have hxl:l[k]=x:=(A6.1 hx).2;have hr:=Qt (f:=fun s=>[dS s]) hx;have c4:=aNumGet x (by have:=hcl x (A2 hx);simp only[Pm.big];omega);have hnn:=Pm.hid (Hnn.out k hkl);rw[hxl] at hnn
 have hss:AC (∀n,Pl.numGet x=some n->l.take (k+1)=(nums++[n]).map Pl.dec):=Pm.hid fun n hq=>by
  rw[A8,hx,hO.out,(Pl.Qdz hq).1,List.map_append];rfl
 clear hx hxl hO Hnn Hnb Hng hcl c1;generalize Pl.numGet x=g at*;cases g with
 |none=>
  repeat' first|refine kS ?_|refine qS (iy hr) ?_|refine kU ?_|fail
  all_goals first
   |(exfalso;simp at*;done)
   |((refine Qa 0 (h:=?_);refine QR (hx:=?_))
     rw[hpn.out (hnn.out rfl)]
     rfl)
 |some n=>
  repeat' first|refine kS ?_|refine qS (iy hr) ?_|refine QV Ty.h rfl Ty.h (hb:=?_) (kk:=?_)|refine kU ?_|fail
  all_goals first
   |(exfalso;simp at*;done)
   |(simp;omega)
   |(refine Qh (5 -(k+1)) (by omega) ⟨k+1,nums++[n],by omega,rfl,by simp[hlen],Pm.hid (hss.out n rfl),?_⟩
     simp[go_sem,keepE];done)
def QaF(s:List UInt8):List Pl.Ptr×Bool:=
 let l:=(Pl.cutB 44 s).map QB
 if l.all (·.2)&&(l.length==4)&&l.any (fun q=> !Pl.ptrHole q.1) then(l.map (·.1),true) else([],false)
theorem Qe2(b:UInt8): ∀(s:List UInt8),(Pl.cutB b s).length<=s.length+1/\ ∀x∈Pl.cutB b s,x.length<=s.length
 :=by intro l;induction l<;>grind [Pl.cutB]
theorem aFanGet(s:List UInt8)(hs:s.length<=1000000000000):Pure A5 285 [dS s] (.tup [tPtrs (QaF s).1,dB (QaF s).2]):=by
 refine kN ?_;simp only[parE,A9]
 repeat' first|refine kS ?_|refine qS (lC (al2Cut s 44 hs)) ?_|refine kU ?_|fail
 have hW:=Qe2 44 s;have hfan:AC (QaF s=if((Pl.cutB 44 s).map QB).all (·.2)&&(((Pl.cutB 44 s).map QB).length==4)&&((Pl.cutB 44 s).map QB).any (fun q=> !Pl.ptrHole q.1) then(((Pl.cutB 44 s).map QB).map (·.1),true) else([],false)):=Pm.hid rfl;generalize Pl.cutB 44 s=l at*
 refine Qo (fun m st=> ∃(k g:Nat) (out:List Pl.Ptr) (sm:Bool),k<=l.length/\m=l.length -k/\AC (out=((l.map QB).take k).map (·.1))/\AC (((l.map QB).take k).all (·.2)=true)/\AC (sm=((l.map QB).take k).any (fun q=> !Pl.ptrHole q.1))/\out.length=k/\
  st=⟨49,[(4,.d (tStrs l)),(5,.osl 0 g 0 out.length),(6,.d (dB sm)),(7,.d (dI k))],[.arr g 5 31 (out.map fun p=>[dI p.pat,dI p.birth,dI p.size,dI p.sum,dI p.level])]⟩) [4,5,6,7] 1 l.length ⟨0,0,[],false,by omega,rfl,Pm.hid rfl,Pm.hid (by simp),Pm.hid rfl,rfl,rfl⟩ (round:=?_)
 rintro m st ⟨k,g,out,sm,hk,rfl,hO,hA,hM,hlen,rfl⟩
 repeat refine kG ?_
 cases q3:decide ((k:Int)<(l.length:Int))
 ·repeat' first|refine kA ?_|refine kV ?_ ?_<;>intro q|fail
  all_goals
   have hk2:k=l.length:=by simp at q3;omega
   rw[hk2,A1 (by simp)] at hO hA hM;have h1:QaF s=if out.length=4/\sm=true then(out,true) else([],false):=by rw[hfan.out,hA.out,<-hM.out,<-hO.out,hlen,hk2];simp
   rw[hlen] at h1;clear hO hA hM hfan
   (first|(refine Qa 0 (h:=?_);refine Qb (hx:=?_))|(refine Qa 1 (h:=?_);refine Qb (hx:=?_)))
   simp at q;split at h1<;>rename_i hc<;>rw[h1]
   ·first
     |simp[A1];done
     |(exfalso;obtain⟨h,h'⟩:=hc;first|omega|(rw[h'] at q;cases q))
   ·first
     |rfl
     |(rename_i q2;simp at q2;exact absurd (And.intro (by omega) q) hc)
 simp at q3;have q3:k<l.length:=by omega
 obtain⟨x,hx⟩: ∃x,l[k]? =some x:=⟨_,A0 q3⟩;have hr:=Qt (f:=fun s=>[dS s]) hx;have hx3:x.length<=1000000000000:=by have:=hW.2 x (A2 hx);omega
 obtain⟨p,ok,hp⟩: ∃p ok,QB x=(p,ok):=⟨_,_,rfl⟩;have hg:=aPtrGet x hx3;rw[hp] at hg;have hl:(l.map QB)[k]? =some (p,ok):=by rw[A4,hx];simp[hp]
 have hst:(l.map QB).take (k+1)=(l.map QB).take k++[(p,ok)]:=by rw[A8,hl];rfl
 have F:AC (ok=false->QaF s=([],false)):=fun e=>by
  rw[hfan.out,if_neg]
  have:(l.map QB).all (·.2)=false:=by
   rw[AK];exact⟨_,A2 hl,by simp[e]⟩
  simp[this]
 have hst2:=Pm.hid hst;clear hx hp hl hst
 repeat' first|refine kS ?_|refine qS (lC (Qdk p)) ?_|refine qS (iy hr) ?_|refine QV Ty.h rfl Ty.h (hb:=?_) (kk:=?_)|refine kU ?_|refine kV ?_ ?_<;>intro q|fail
 ·(refine Qa 2 (h:=?_);refine Qb (hx:=?_))
  rw[F.out (by simpa using q)];rfl
 ·simp;omega
 ·refine Qh (l.length -(k+1)) (by omega) ⟨k+1,g+1,out++[p],true,by omega,rfl,Pm.hid (by rw[hst2.out,hO.out];simp),Pm.hid (by rw[hst2.out,AB,hA.out];simp_all),Pm.hid (by rw[hst2.out,AH,<-hM.out];simp_all),by simp[hlen],?_⟩
  simp[go_sem,keepE]
 ·simp;omega
 ·refine Qh (l.length -(k+1)) (by omega) ⟨k+1,g+1,out++[p],!Pl.ptrHole p,by omega,rfl,Pm.hid (by rw[hst2.out,hO.out];simp),Pm.hid (by rw[hst2.out,AB,hA.out];simp_all),Pm.hid (by rw[hst2.out,AH,<-hM.out];simp_all),by simp[hlen],?_⟩
  simp[go_sem,keepE]
abbrev dSt(s:Pm.Store):D:= .agg [dStrs s.1,dInts s.2.1.1,dInts s.2.1.2,dI s.2.2.1,dPtrs s.2.2.2.1,dI s.2.2.2.2.1,dPtrs s.2.2.2.2.2.1,dB s.2.2.2.2.2.2]
structure QP(s:Pm.Store):Prop where
 many:s.1.length=64
 row: ∀r∈s.1,r.length<=128
theorem QdD(h:Pl.ptrOk p=true)(h2:Pl.ptrHole p=false):0<=p.pat/\p.pat<64:=by grind [Pl.ptrOk,Pl.rowOk]
theorem al7R(s:Pm.Store)(hg:QP s)(p:Pl.Ptr)(hp:Pl.ptrHole p=false->Pl.ptrOk p=true):Pure A5 94 [dSt s,dPtr p] (.tup [dS (Qf s.1 p).1,dB (Qf s.1 p).2]):=
 al7Read _ _ _ _ _ _ _ _ p (fun r hr=>by have:=hg.row r hr;grind [Pm.big]) fun h=>by have:=QdD (hp h) h;rw[hg.many];omega
theorem Qh4(s:Pm.Store)(hg:QP s)(p:Pl.Ptr):(Qf s.1 p).1.length<=128:=by
 unfold Qf;split
 ·simp
 ·split
  ·simp only
   rw[A3];cases h:s.1[p.pat.toNat]? with
   |none=>simp
   |some r=>exact hg.row r (A2 h)
  ·simp
def Qi(s:Pm.Store)(p:Pl.Ptr)(level:Int):List Pl.Ptr×Bool:=
 if Pl.ptrHole p then(A7 4 Pl.hole,true) else
 if Pl.ptrOk p&&(p.level==level)&&decide (p.birth<=s.2.2.1)&&(Qf s.1 p).2 then
  if(QaF (Qf s.1 p).1).1.any (fun q=>decide (p.birth<q.birth)) then([],false) else QaF (Qf s.1 p).1
 else([],false)
theorem Qku(s:List UInt8):(QaF s).1.length<=4:=by grind [QaF]
def Qol(s:Pm.Store)(hg:QP s)(p:Pl.Ptr)(level:Int):Pure A5 233 [dSt s,dPtr p,dI level] (.tup [tPtrs (Qi s p level).1,dB (Qi s p level).2]):=by
 refine kE ?_;refine Qa 0 (h:=?_);refine Qa 1 (h:=?_);cases h1:Pl.ptrHole p;rotate_left
 ·repeat' first|refine kS ?_|refine qS (lC (h1▸Qdk p)) ?_|refine qS (Qdh cK (Qhd 4 (by omega)) rfl) ?_|refine kU ?_|fail
  exact Qb (hx:=by simp[Qi,h1])
 cases h2:Pl.ptrOk p
 ·repeat' first|refine kS ?_|refine qS (lC (h1▸Qdk p)) ?_|refine qS (lC (h2▸aPtrOk p)) ?_|refine kU ?_|fail
  (refine Qa 2 (h:=?_);refine Qb (hx:=?_))
  simp[Qi,h1,h2]
 have c3:=al7R s hg p fun _=>h2
 have hlen:=Qh4 s hg p
 have hB:AC (Qi s p level=if(p.level==level)&&decide (p.birth<=s.2.2.1)&&(Qf s.1 p).2 then
  if(QaF (Qf s.1 p).1).1.any (fun q=>decide (p.birth<q.birth)) then([],false) else QaF (Qf s.1 p).1 else([],false)):=Pm.hid (by simp[Qi,h1,h2])
 generalize Qf s.1 p=tb at*;obtain⟨text,ok⟩:=tb;have c4:=aFanGet text (by simp only at hlen;omega);have hfl:=Qku text;simp only at hB;generalize QaF text=fb at*;obtain⟨l,fine⟩:=fb;simp only at hfl hlen
 repeat' first|refine kS ?_|refine qS (lC (h1▸Qdk p)) ?_|refine qS (lC (h2▸aPtrOk p)) ?_|refine kU ?_|refine kV ?_ ?_<;>intro q|fail
 ·(refine Qa 2 (h:=?_);refine Qb (hx:=?_))
  rw[hB.out,if_neg (by simp at q;simp[q])]<;>rfl
 ·(refine Qa 2 (h:=?_);refine Qb (hx:=?_))
  rw[hB.out,if_neg (by simp at q;simp;intro _ _;omega)]<;>rfl
 ·(refine Qa 2 (h:=?_);refine Qb (hx:=?_))
  rw[hB.out,if_neg (by simp at q;simp[q])]<;>rfl
 rename_i q1 q2
 refine Qo (fun m st=> ∃k:Nat,k<=l.length/\m=l.length -k/\AC ((l.take k).any (fun q=>decide (p.birth<q.birth))=false)/\
  st=⟨64,[(10,.d (tPtrs l)),(11,.d (dB fine)),(12,.d (dI k)),(4,.d (.pd [dI p.pat,dI p.birth,dI p.size,dI p.sum,dI p.level]))],[]⟩) [10,11,12,4] 0 l.length ⟨0,by omega,rfl,Pm.hid rfl,rfl⟩ (round:=?_)
 rintro m st ⟨k,hk,rfl,hF,rfl⟩
 repeat refine kG ?_
 have hC:((p.level==level)&&decide (p.birth<=s.2.2.1)&&ok)=true:=by simp at q q1 q2;simp[q,q2];omega
 rw[if_pos hC] at hB;cases q3:decide ((k:Int)<(l.length:Int))
 ·repeat refine kA ?_
  refine Qb (hx:=?_);have:k=l.length:=by simp at q3;omega
  have h:=hF.out;rw[this,A1 (AM _)] at h;rw[hB.out,if_neg (by simp[h])]<;>rfl
 have hk2:k<l.length:=by simp at q3;omega
 obtain⟨x,hx⟩: ∃x,l[k]? =some x:=⟨_,A0 hk2⟩;have hr:=Qt (f:=fun p:Pl.Ptr=>[dI p.pat,dI p.birth,dI p.size,dI p.sum,dI p.level]) hx;have T:AC ((l.take (k+1)).any (fun q=>decide (p.birth<q.birth))=decide (p.birth<x.birth)):=Pm.hid (by rw[A8,hx,AH,hF.out];simp)
 have F:AC (p.birth<x.birth->Qi s p level=([],false)):=fun e=>by
  rw[hB.out,if_pos];rw[List.any_eq_true];exact⟨x,A2 hx,by simpa using e⟩
 clear hx
 repeat' first|refine kS ?_|refine qD (iy hr) ?_|refine kU ?_|refine kV ?_ ?_<;>intro q|fail
 ·(refine Qa 0 (h:=?_);refine Qb (hx:=?_))
  rw[F.out (by simpa using q)]<;>rfl
 ·exact Qh (l.length -(k+1)) (by omega) ⟨k+1,by omega,rfl,Pm.hid (T.out.trans q),rfl⟩
def QkG(n:Int):Pure A5 163 [dI n] (dI (if n<=1 then 0 else if n<=4 then 1 else 2)):=by
 refine kB ?_
 repeat' first|refine kA ?_|refine kV ?_ ?_<;>intro q|fail
 all_goals exact Qb (hx:=congrArg dI (by simp at*;split<;>(try split)<;>omega))
abbrev rPtr(p:Pl.Ptr):List D:=[dI p.pat,dI p.birth,dI p.size,dI p.sum,dI p.level]
abbrev dTree(t:Pl.Tree):D:= .agg [dI t.root.pat,dI t.root.birth,dI t.root.size,dI t.root.sum,dI t.root.level,dI t.depth,dI t.many]
def Qdq(l:List Pl.Ptr): ∀r∈l.map rPtr,∀d∈r,d.cell=true:=by
 intro r hr d hd;obtain⟨p,_,rfl⟩:=List.mem_map.1 hr;simp at hd;rcases hd with rfl|rfl|rfl|rfl|rfl<;>rfl
def QaY(s:Pm.Store):Nat->List Pl.Ptr->List Pl.Ptr×Bool
 |0,l=>(l,true)
 |n+1,l=>if l.all (fun p=>(Qi s p (n+1:Nat)).2) then QaY s n (l.flatMap fun p=>(Qi s p (n+1:Nat)).1) else([],false)
def QI(s:Pm.Store)(t:Pl.Tree):List Pl.Ptr×Bool:=QaY s t.depth.toNat [t.root]
theorem QeK(s:Pm.Store)(p:Pl.Ptr)(n:Int):(Qi s p n).1.length<=4:=by grind [Qi,Qku]
theorem flat_len(f:Pl.Ptr->List Pl.Ptr)(hf: ∀p,(f p).length<=4): ∀l:List Pl.Ptr,(l.flatMap f).length<=l.length*4
 :=by intro l;induction l<;>grind
theorem Qqy(s:Pm.Store): ∀(n:Nat) (l:List Pl.Ptr),(QaY s n l).1.length<=l.length*4^n
 |0,l=>by simp[QaY]
 |n+1,l=>by
  unfold QaY;split
  ·refine AF (Qqy s n _) ?_
   have:=flat_len (fun p=>(Qi s p (n+1:Nat)).1) (fun p=>QeK s p _) l
   calc _<=l.length*4*4^n:=Nat.mul_le_mul_right _ this
    _=l.length*4^(n+1):=by grind
  ·simp
def Qja(s:Pm.Store)(hg:QP s)(t:Pl.Tree)(h0:0<=t.depth)(h2:t.depth<=2):Pure A5 158 [dSt s,dTree t] (.tup [tPtrs (QI s t).1,dB (QI s t).2]):=by
 have hlv:AC (QI s t=QaY s t.depth.toNat [t.root]):=Pm.hid rfl;obtain⟨root,depth,many⟩:=t;simp only at h0 h2 hlv;obtain⟨n0,rfl⟩: ∃n0:Nat,depth=n0:=⟨depth.toNat,by omega⟩;have hn0:n0<=2:=by omega
 simp only[Int.toNat_natCast] at hlv;refine kE ?_;refine Qa 0 (h:=?_);refine Qa 1 (h:=?_)
 repeat refine kA ?_
 refine Qa 2 (h:=?_)
 refine Qo (fun m st=> ∃(n:Nat) (l:List Pl.Ptr),n<=2/\m=n/\l.length<=4^(2 -n)/\AC (QI s ⟨root,n0,many⟩=QaY s n l)/\
  st=⟨46,[(6,.d (tPtrs l)),(7,.d (dI n)),(2,.d (.pd [dStrs s.1,dInts s.2.1.1,dInts s.2.1.2,dI s.2.2.1,dPtrs s.2.2.2.1,dI s.2.2.2.2.1,dPtrs s.2.2.2.2.2.1,dB s.2.2.2.2.2.2]))],[]⟩) [6,7,2] 0 n0 ⟨n0,[root],hn0,rfl,Nat.one_le_pow _ _ (by omega),hlv,rfl⟩ (round:=?_)
 clear hlv;rintro m st ⟨n,l,hn,rfl,hll,hL,rfl⟩
 repeat refine kG ?_
 rcases m with _|n
 ·repeat refine kA ?_
  refine Qb (hx:=?_);rw[hL.out];rfl
 have q3:decide (((n+1:Nat):Int)>0)=true:=by simp
 rw[q3]
 have hll2:l.length<=4:=by
  have h1:n=0∨n=1:=by omega
  have h2:(4:Nat)^(2 -(n+1))<=4:=by rcases h1 with rfl|rfl<;>decide
  omega
 repeat refine kA ?_
 have hv:AC (l.all (fun p=>(Qi s p (n+1:Nat)).2)=false->QI s ⟨root,n0,many⟩=([],false)):=fun e=>by rw[hL.out,QaY,if_neg (by rw[e];simp)]
 refine Qo (fun m st=> ∃(k g:Nat) (out:List Pl.Ptr),k<=l.length/\m=l.length -k/\out.length<=4*k/\AC (out=(l.take k).flatMap fun p=>(Qi s p (n+1:Nat)).1)/\AC ((l.take k).all (fun p=>(Qi s p (n+1:Nat)).2)=true)/\
  st=⟨46,[(8,.osl 0 g 0 out.length),(9,.d (dI k)),(6,.d (tPtrs l)),(7,.d (dI (n+1:Nat))),(2,.d (.pd [dStrs s.1,dInts s.2.1.1,dInts s.2.1.2,dI s.2.2.1,dPtrs s.2.2.2.1,dI s.2.2.2.2.1,dPtrs s.2.2.2.2.2.1,dB s.2.2.2.2.2.2]))],[.arr g 5 31 (out.map rPtr)]⟩) [8,9,6,7,2] 1 l.length ⟨0,0,[],by omega,rfl,by simp,Pm.hid rfl,Pm.hid rfl,rfl⟩ (round:=?_)
 rintro m st ⟨k,g,out,hk,rfl,hol,hO,hA,rfl⟩
 repeat refine kG ?_
 cases q4:decide ((k:Int)<(l.length:Int))
 ·repeat refine kA ?_
  refine QiV 0 (h:=?_);have:k=l.length:=by simp at q4;omega
  rw[this,A1 (AM _)] at hO hA;refine Qh n (by omega) ⟨n,out,by omega,rfl,?_,Pm.hid (by rw[hL.out,QaY,if_pos hA.out,<-hO.out]),?_⟩
  ·have:n=0∨n=1:=by omega
   rcases this with rfl|rfl<;>simp at hll⊢ <;>omega
  ·simp[keepE,go_sem,A1]
 have hk2:k<l.length:=by simp at q4;omega
 obtain⟨x,hx⟩: ∃x,l[k]? =some x:=⟨_,A0 hk2⟩;have hr:=Qt (f:=rPtr) hx;have hc:=Qol s hg x (n+1:Nat);have hbl:=QeK s x (n+1:Nat)
 have F:AC ((Qi s x (n+1:Nat)).2=false->QI s ⟨root,n0,many⟩=([],false)):=fun e=>hv.out (by
  rw[AK];exact⟨x,A2 hx,by rw[e];simp⟩)
 have T1:AC ((l.take (k+1)).flatMap (fun p=>(Qi s p (n+1:Nat)).1)=out++(Qi s x (n+1:Nat)).1):=Pm.hid (by rw[A8,hx,hO.out];simp);have T2:AC ((Qi s x (n+1:Nat)).2=true->(l.take (k+1)).all (fun p=>(Qi s p (n+1:Nat)).2)=true):=fun e=>by rw[A8,hx,AB,hA.out];simpa using e
 clear hx;generalize Qi s x (n+1:Nat)=bb at*;obtain⟨bl,ok⟩:=bb;simp only at hbl
 repeat' first|refine kS ?_|refine qD (iy hr) ?_|refine Qet Ty.h rfl Ty.h (hb:=?_) (hcell:=?_) (kk:=?_)|refine kU ?_|refine kV ?_ ?_<;>intro q|fail
 ·(refine Qa 1 (h:=?_);refine Qb (hx:=?_))
  rw[F.out (by simpa using q)]<;>rfl
 ·exact Qdq bl
 ·simp;omega
 ·refine Qh (l.length -(k+1)) (by omega) ⟨k+1,g+1,out++bl,by omega,rfl,by simp;omega,Pm.hid T1.out.symm,Pm.hid (T2.out (by simpa using q)),?_⟩
  simp[keepE,go_sem]
theorem QdA:Pl.ptrOk Pl.hole=true:=by decide
theorem pg_ok(s:List UInt8):Pl.ptrOk (QB s).1=true:=by
 unfold QB;split
 ·rename_i h;exact(Classical.choose_spec h).1
 ·exact QdA
theorem fan_ok(s:List UInt8): ∀p∈(QaF s).1,Pl.ptrOk p=true:=by grind [QaF,pg_ok]
theorem QhU(s:Pm.Store)(q:Pl.Ptr)(n:Int): ∀p∈(Qi s q n).1,Pl.ptrOk p=true:=by grind [Qi,QdA,fan_ok]
theorem lvl_ok(s:Pm.Store): ∀(n:Nat) (l:List Pl.Ptr),(∀p∈l,Pl.ptrOk p=true)-> ∀p∈(QaY s n l).1,Pl.ptrOk p=true
 :=by intro l;induction l<;>grind [QaY,QhU]
structure Qx(t:Pl.Tree):Prop where
 lo:0<=t.depth
 hi:t.depth<=2
 root:Pl.ptrOk t.root=true
 manyLo:0<=t.many
 manyHi:t.many<=16
theorem Qiz(s:Pm.Store)(h:Pl.ptrOk t.root=true): ∀p∈(QI s t).1,Pl.ptrOk p=true:=lvl_ok s _ _ (by grind)
theorem QfY(s:Pm.Store)(h1:t.depth<=2):(QI s t).1.length<=16:=by
 refine AF (Qqy s _ _) ?_;simp only[List.length_singleton,Nat.one_mul];exact AF (AJ (by omega) (show t.depth.toNat<=2 by omega)) (by decide)
def Qe(s:Pm.Store)(t:Pl.Tree):List Pl.Ptr:=(QI s t).1++A7 (16 -(QI s t).1.length) Pl.hole
theorem Qd3(s:Pm.Store)(h1:t.depth<=2):(Qe s t).length=16:=by grind [QfY,Qe]
theorem Qfn(s:Pm.Store)(h:Pl.ptrOk t.root=true): ∀p∈Qe s t,Pl.ptrOk p=true:=by
 intro p hp;rcases List.mem_append.1 hp with hp|hp
 ·grind [Qiz]
 grind [QdA]
def al8Wide(s:Pm.Store)(hg:QP s)(t:Pl.Tree)(ht:Qx t):Pure A5 93 [dSt s,dTree t] (tPtrs (Qe s t)):=by
 refine kE ?_;refine Qa 0 (h:=?_);refine Qa 1 (h:=?_);have hc:=Qja s hg t ht.lo ht.hi;have hl:=QfY s ht.hi;have hw:=Pm.hid (Qe.eq_def s t);generalize QI s t=lb at*;obtain⟨l,ok⟩:=lb;simp only at hl hw;have hh:=Qhd (16 -l.length) (by omega);have e:((16 -l.length:Nat):Int)=16 -(l.length:Int):=by omega
 rw[e] at hh
 repeat' first|refine kS ?_|refine Qet Ty.h rfl Ty.h (hb:=?_) (hcell:=?_) (kk:=?_)|refine kU ?_|fail
 ·exact Qdq l
 ·simp;omega
 ·exact Qdq _
 ·simp;omega
 (refine Qa 2 (h:=?_);refine Qb (hx:=?_))
 rw[hw.out];simp[A1]
def al8Get(s:Pm.Store)(hg:QP s)(t:Pl.Tree)(ht:Qx t)(k:Nat)(hk:k<16):Pure A5 196 [dSt s,dTree t,dI k] (dS (Qf s.1 ((Qe s t).getD k Pl.hole)).1):=by
 refine kE ?_;refine Qa 0 (h:=?_);refine Qa 1 (h:=?_);have hc:=al8Wide s hg t ht;have hl:=Qd3 s ht.hi;have ho:=Qfn s ht.root;generalize Qe s t=l at*;obtain⟨x,hx⟩: ∃x,l[k]? =some x:=⟨_,A0 (by omega)⟩;have hr:=Qt (f:=rPtr) hx;have h7:=al7R s hg x fun _=>ho x (A2 hx)
 have hgd:l.getD k Pl.hole=x:=by rw[A3,hx];rfl
 rw[hgd];clear hx ho hgd
 repeat' first|refine kS ?_|refine qD (iy hr) ?_|refine kU ?_|fail
 all_goals exact Qb (hx:=rfl)
def Qc(s:Pm.Store)(t:Pl.Tree):List (List UInt8):=((Qe s t).take t.many.toNat).map fun p=>(Qf s.1 p).1
abbrev rSt(s:Pm.Store):List D:=[dStrs s.1,dInts s.2.1.1,dInts s.2.1.2,dI s.2.2.1,dPtrs s.2.2.2.1,dI s.2.2.2.2.1,dPtrs s.2.2.2.2.2.1,dB s.2.2.2.2.2.2]
abbrev rTree(t:Pl.Tree):List D:=[dI t.root.pat,dI t.root.birth,dI t.root.size,dI t.root.sum,dI t.root.level,dI t.depth,dI t.many]
def Qe3(s:Pm.Store)(hg:QP s)(t:Pl.Tree)(ht:Qx t):Pure A5 76 [dSt s,dTree t] (tStrs (Qc s t)):=by
 refine kE ?_;refine Qa 0 (h:=?_);refine Qa 1 (h:=?_);have hc:=al8Wide s hg t ht;have hl:=Qd3 s ht.hi;have ho:=Qfn s ht.root;have h2:AC (Qc s t=((Qe s t).take t.many.toNat).map fun p=>(Qf s.1 p).1):=Pm.hid rfl;have hm0:=ht.manyLo;have hm1:=ht.manyHi;generalize Qe s t=l at*
 repeat refine kA ?_
 refine Qo (fun m st=> ∃(k g:Nat) (out:List (List UInt8)),k<=t.many.toNat/\m=16 -k/\out.length=k/\AC (out=(l.take k).map fun p=>(Qf s.1 p).1)/\
  st=⟨34,[(5,.osl 2 g 0 out.length),(6,.d (tPtrs l)),(7,.d (dI k)),(2,.d (.pd (rSt s))),(3,.d (.pd (rTree t)))],[.row 1 [],.row 1 [],.arr g 1 9 (out.map fun s=>[dS s])]⟩) [5,6,7,2,3] 3 16 ⟨0,0,[],by omega,rfl,rfl,Pm.hid rfl,rfl⟩ (round:=?_)
 rintro m st ⟨k,g,out,hk,rfl,hlen,hO,rfl⟩
 repeat refine kG ?_
 cases q4:decide ((k:Int)<t.many)
 ·repeat refine kA ?_
  (refine Qa 2 (h:=?_);refine Qb (hx:=?_))
  have:k=t.many.toNat:=by simp at q4;omega
  rw[h2.out,<-this,<-hO.out];simp[A1]
 have hk2:k<l.length:=by simp at q4;omega
 obtain⟨x,hx⟩: ∃x,l[k]? =some x:=⟨_,A0 hk2⟩;have hr:=Qt (f:=rPtr) hx;have h7:=al7R s hg x fun _=>ho x (A2 hx)
 have T:AC ((l.take (k+1)).map (fun p=>(Qf s.1 p).1)=out++[(Qf s.1 x).1]):=Pm.hid (by rw[A8,hx,hO.out];simp);clear hx
 repeat' first|refine kS ?_|refine qD (iy hr) ?_|refine QV Ty.h rfl Ty.h (hb:=?_) (kk:=?_)|refine kU ?_|fail
 ·simp;omega
 ·simp at q4
  refine Qh (16 -(k+1)) (by omega) ⟨k+1,g+1,out++[(Qf s.1 x).1],by omega,rfl,by simp[hlen],Pm.hid T.out.symm,?_⟩;simp[keepE,go_sem]
def Qau(s:Pm.Store)(many:Int)(i:Nat)(p:Pl.Ptr):Bool:=
 Pl.ptrHole p||((Qf s.1 p).2&&(p.level==0)&&decide (p.birth<=s.2.2.1)&&decide ((i:Int)<many))
def QH(s:Pm.Store)(t:Pl.Tree):Bool:=
 Pl.inR t.many 0 16&&(t.depth==(if t.many<=1 then 0 else if t.many<=4 then 1 else 2))&&Pl.ptrOk t.root&&(QI s t).2&&((QI s t).1.zipIdx.all fun q=>Qau s t.many q.2 q.1)
theorem Qdo{s:Pm.Store}(h:QH s t=true):Qx t:=by
 unfold QH at h;simp only[Bool.and_eq_true,beq_iff_eq] at h;obtain⟨⟨⟨⟨h1,h2⟩,h3⟩,_⟩,_⟩:=h;simp[Pl.inR] at h1;refine⟨?_,?_,h3,h1.1,h1.2⟩<;>rw[h2]<;>split<;>omega<;>decide
theorem Qng{f:α×Nat->Bool}{l:List α}{x:α}(hx:l[k]? =some x):(l.take (k+1)).zipIdx.all f=((l.take k).zipIdx.all f&&f (x,k)):=by grind
theorem QkJ{f:α×Nat->Bool}{l:List α}{x:α}(hx:l[k]? =some x)(h:f (x,k)=false):l.zipIdx.all f=false:=by grind
theorem al8Ok(s:Pm.Store)(hg:QP s)(t:Pl.Tree):Pure A5 197 [dSt s,dTree t] (dB (QH s t)):=by
 have hd:AC (QH s t=(Pl.inR t.many 0 16&&(t.depth==(if t.many<=1 then 0 else if t.many<=4 then 1 else 2))&&Pl.ptrOk t.root&&(QI s t).2&&((QI s t).1.zipIdx.all fun q=>Qau s t.many q.2 q.1))):=Pm.hid rfl;refine kE ?_;refine Qa 0 (h:=?_);refine Qa 1 (h:=?_);cases h1:Pl.inR t.many 0 16
 ·repeat' first|refine kS ?_|refine qD (lC (h1▸al6In t.many 0 16)) ?_|refine kU ?_|fail
  refine Qb (hx:=?_);rw[hd.out,h1];rfl
 have c1:=h1▸al6In t.many 0 16;have c2:=QkG t.many;have hdp:(if t.many<=1 then 0 else if t.many<=4 then 1 else 2:Int)=0∨(if t.many<=1 then 0 else if t.many<=4 then 1 else 2:Int)=1∨(if t.many<=1 then 0 else if t.many<=4 then 1 else 2:Int)=2:=by split<;>(try split)<;>simp
 generalize (if t.many<=1 then 0 else if t.many<=4 then 1 else 2:Int)=dp at*;cases h3:Pl.ptrOk t.root
 ·repeat' first|refine kS ?_|refine qD (lC (h3▸aPtrOk t.root)) ?_|refine kU ?_|refine kV ?_ ?_<;>intro q|fail
  all_goals
   refine Qb (hx:=?_);rw[hd.out,h3];simp
 by_cases h2:t.depth=dp
 rotate_left
 ·repeat' first|refine kS ?_|refine qD (lC (h3▸aPtrOk t.root)) ?_|refine kU ?_|refine kV ?_ ?_<;>intro q|fail
  ·refine Qb (hx:=?_)
   rw[hd.out];simp[h2]
  ·simp at q;exact absurd q h2
 have hdo:t.depth<=2/\0<=t.depth:=by omega
 have c3:=Qja s hg t hdo.2 hdo.1;have hll:=QfY s hdo.1;have hlo:=Qiz s h3;have hd2:AC (QH s t=((QI s t).2&&((QI s t).1.zipIdx.all fun q=>Qau s t.many q.2 q.1))):=Pm.hid (by rw[hd.out,h1,h3,h2];simp);clear hd;generalize QI s t=lb at*;obtain⟨l,ok⟩:=lb;simp only at hll hlo hd2
 repeat' first|refine kS ?_|refine qD (lC (h3▸aPtrOk t.root)) ?_|refine kU ?_|refine kV ?_ ?_<;>intro q|fail
 ·simp at q;exact absurd h2 q
 ·refine Qb (hx:=?_)
  rw[hd2.out];simp at q;simp[q]
 have hok:ok=true:=by simpa using q
 subst hok
 refine Qo (fun m st=> ∃(k:Nat),k<=l.length/\m=16 -k/\AC ((l.take k).zipIdx.all (fun q=>Qau s t.many q.2 q.1)=true)/\
  st=⟨75,[(5,.d (tPtrs l)),(7,.d (dI k)),(2,.d (.pd (rSt s))),(3,.d (.pd (rTree t)))],[]⟩) [5,7,2,3] 0 16 ⟨0,by omega,rfl,Pm.hid rfl,rfl⟩ (round:=?_)
 rintro m st ⟨k,hk,rfl,hA,rfl⟩
 repeat refine kG ?_
 cases q4:decide ((k:Int)<(l.length:Int))
 ·repeat refine kA ?_
  refine Qb (hx:=?_);have:k=l.length:=by simp at q4;omega
  have h:=hA.out;rw[this,A1 (AM _)] at h;rw[hd2.out,h];rfl
 have hk2:k<l.length:=by simp at q4;omega
 obtain⟨x,hx⟩: ∃x,l[k]? =some x:=⟨_,A0 hk2⟩;have hr:=Qt (f:=rPtr) hx;have h7:=al7R s hg x fun _=>hlo x (A2 hx)
 have T:AC (Qau s t.many k x=true->(l.take (k+1)).zipIdx.all (fun q=>Qau s t.many q.2 q.1)=true):=fun e=>by rw[Qng hx,hA.out,e];rfl
 have F:AC (Qau s t.many k x=false->QH s t=false):=fun e=>by rw[hd2.out,QkJ hx e];rfl
 have hlf:AC (Qau s t.many k x=(Pl.ptrHole x||((Qf s.1 x).2&&(x.level==0)&&decide (x.birth<=s.2.2.1)&&decide ((k:Int)<t.many)))):=Pm.hid rfl;clear hx;generalize Qf s.1 x=rb at*;obtain⟨tx,fine⟩:=rb
 repeat' first|refine kS ?_|refine qS (lC (Qdk x)) ?_|refine qS (iy hr) ?_|refine kU ?_|refine kV ?_ ?_<;>intro q|fail
 all_goals clear c1 c2 c3 h7 hr hlo hA hd2
 all_goals simp only at hlf
 all_goals first|refine Qh (16 -(k+1)) (by omega) ⟨k+1,by omega,rfl,Pm.hid (T.out ?_),rfl⟩;rw[hlf.out];clear T F hlf;simp_all;try omega|refine Qb (hx:=?_);rw[F.out ?_];rw[hlf.out];clear T F hlf;simp_all;try omega
theorem QiT{K:St->Prop}{n:Nat}{env:List (Nat×AV)}{H:List Blk}{gd:Option (Nat×Bool)}{F:TyF}{v:AW}{g:Nat}{rows:List (List D)}
 (hT:tyf P T=some F) (hu:aval env u= .ept k g i j) (hk:H[k]? =some (.arr g sz T0 rows)) (hr:rows[i]? =some r) (hv:aval env v= .d x) (hj:Nat.blt j r.length=true:=by rfl) (hone:x.cell=true:=by rfl) (hsz:F.size=1:=by rfl)
 (hw:awanted ops env ⟨none,.store T u v,ty,pos,after,gd⟩=some true:=by rfl) (hg:gdOk ops n ⟨none,.store T u v,ty,pos,after,gd⟩=true:=by rfl)
 (hH: ∀R:List Blk->Prop,R H'->R (H.set k (.arr g sz T0 (rows.set i (r.set j x)))):=by intro R hR;simp only[List.set_cons_zero,List.set_cons_succ,Nat.zero_add];exact hR)
 (kk:K ⟨n,env,H'⟩):AStep P ops ⟨none,.store T u v,ty,pos,after,gd⟩ K ⟨n,env,H⟩:=
 astep (Qgd hT hu hk hr (by simp_all) hv hone hsz) hw rfl hg (by have:=hH (fun r=>r=H') rfl;rw[this];exact kk)
theorem QlO{Q:Exit->St->Prop}{l:List Oper}{n:Nat}{env:List (Nat×AV)}{H:List Blk}{gd:Option (Nat×Bool)}{F:TyF}{v:AW}{g:Nat}{rows:List (List D)}
 (hT:tyf P T=some F) (hu:aval env u= .ept k g i j) (hk:H[k]? =some (.arr g sz T0 rows)) (hr:rows[i]? =some r) (hv:aval env v= .d x) (hj:Nat.blt j r.length=true:=by rfl) (hone:x.cell=true:=by rfl) (hsz:F.size=1:=by rfl)
 (hw:awanted ops env ⟨none,.store T u v,ty,pos,after,gd⟩=some true:=by rfl) (hg:gdOk ops n ⟨none,.store T u v,ty,pos,after,gd⟩=true:=by rfl)
 (hH: ∀R:List Blk->Prop,R H'->R (H.set k (.arr g sz T0 (rows.set i (r.set j x)))):=by intro R hR;simp only[List.set_cons_zero,List.set_cons_succ,Nat.zero_add];exact hR)
 (kk:ASeq P ops Q l ⟨n,env,H'⟩):ASeq P ops Q (⟨none,.store T u v,ty,pos,after,gd⟩::l) ⟨n,env,H⟩:=
 QiW (Qgd hT hu hk hr (by simp_all) hv hone hsz) hw hg (by have:=hH (fun r=>r=H') rfl;grind)
def Qbs(refs last:List Int)(txg:Int)(i:Nat)(r:List UInt8):Bool:=decide (r.length<=128)&&((r==[])==(refs.getD i 0==0))&&decide (last.getD i 0<=txg)
def QbM(s:Pm.Store):Bool:=(AP 64).all fun i=>Qbs s.2.1.1 s.2.1.2 s.2.2.1 i (s.1.getD i [])
def Qbx(refs:List Int):List (Pl.Ptr×Int)->List Int->Bool
 |[],_=>true
 |(p,top)::r,many=>Pl.ptrOk p&& !Pl.ptrHole p&&decide (p.birth<=top)&&decide (many.getD p.pat.toNat 0+1<=refs.getD p.pat.toNat 0)&&Qbx refs r (many.set p.pat.toNat (many.getD p.pat.toNat 0+1))
def Qbn(s:Pm.Store):List (Pl.Ptr×Int):=s.2.2.2.1.map (fun p=>(p,s.2.2.1 -1))++s.2.2.2.2.2.1.map (fun p=>(p,s.2.2.2.2.1))
def Qaa(s:Pm.Store):Bool:=(s.1.length==64)&&Pl.spaceOk s.2.1&&Pl.inR s.2.2.1 1 900&&Pl.inR s.2.2.2.2.1 0 (s.2.2.1 -1)&&QbM s&&Qbx s.2.1.1 (Qbn s) (A7 64 0)
theorem QgR{l:List α}{x:α}(h:l[j]? =some x):l.drop j=x::l.drop (j+1):=by grind [List.drop_eq_getElem_cons]
def Qoo(s:Pm.Store)(b1:s.2.1.1.length<=Pm.big)(b2:s.2.1.2.length<=Pm.big)(b3:s.2.2.2.1.length<=1000000000000)(b4:s.2.2.2.2.2.1.length<=1000000000000):
 Pure A5 50 [dSt s] (dB (Qaa s)):=by
 have hd:AC (Qaa s=((s.1.length==64)&&Pl.spaceOk s.2.1&&Pl.inR s.2.2.1 1 900&&Pl.inR s.2.2.2.2.1 0 (s.2.2.1 -1)&&QbM s&&Qbx s.2.1.1 (Qbn s) (A7 64 0))):=Pm.hid rfl;have cS:=QtI s.2.1 b1 b2;refine kE ?_;refine Qa 0 (h:=?_);cases hT:Pl.inR s.2.2.1 1 900
 ·repeat' first|refine kS ?_|refine qS (lC (hT▸al6In s.2.2.1 1 900)) ?_|refine kU ?_|refine kV ?_ ?_<;>intro q|fail
  all_goals
   refine Qb (hx:=?_);rw[hd.out,hT];simp
 have hTb:1<=s.2.2.1/\s.2.2.1<=900:=by simpa[Pl.inR] using hT
 cases hK:Pl.inR s.2.2.2.2.1 0 (s.2.2.1 -1)
 ·repeat' first|refine kS ?_|refine qS (lC (hT▸al6In s.2.2.1 1 900)) ?_|refine qS (Qdh cK (hK▸al6In _ _ _) rfl) ?_|refine kU ?_|refine kV ?_ ?_<;>intro q|fail
  all_goals
   refine Qb (hx:=?_);rw[hd.out,hK];simp
 repeat' first|refine kS ?_|refine qS (lC (hT▸al6In s.2.2.1 1 900)) ?_|refine qS (Qdh cK (hK▸al6In _ _ _) rfl) ?_|refine kU ?_|refine kV ?_ ?_<;>intro q|fail
 ·refine Qb (hx:=?_)
  rw[hd.out,(by simp at q⊢;omega:(s.1.length==64)=false)];rfl
 ·refine Qb (hx:=?_)
  rw[hd.out,(by simpa using q:Pl.spaceOk s.2.1=false)];simp
 rename_i q1;have hlen:s.1.length=64:=by simp at q1;omega
 have hsp:Pl.spaceOk s.2.1=true:=by simpa using q
 have hd2:AC (Qaa s=(QbM s&&Qbx s.2.1.1 (Qbn s) (A7 64 0))):=Pm.hid (by rw[hd.out,hT,hK,hsp,hlen];rfl);clear hd cS;have hsp1:s.2.1.1.length=64/\s.2.1.2.length=64:=by simp[Pl.spaceOk] at hsp;exact hsp.1
 have hrow:=Pm.hid (QbM.eq_def s);refine Qo (fun m st=> ∃k:Nat,k<=64/\m=64 -k/\AC ((AP k).all (fun i=>Qbs s.2.1.1 s.2.1.2 s.2.2.1 i (s.1.getD i []))=true)/\st=⟨144,[(3,.d (dI k)),(1,.d (.pd (rSt s)))],[]⟩) [3,1] 0 64 ⟨0,by omega,rfl,Pm.hid rfl,rfl⟩ (round:=?_);rintro m st ⟨k,hk,rfl,hA,rfl⟩
 repeat refine kG ?_
 cases q3:decide ((k:Int)<64);rotate_left
 ·have hk2:k<64:=by simp at q3;omega
  obtain⟨x,hx⟩: ∃x,s.1[k]? =some x:=⟨_,A0 (by omega)⟩;obtain⟨a,ha⟩: ∃x,s.2.1.1[k]? =some x:=⟨_,A0 (by omega)⟩;obtain⟨b,hb⟩: ∃x,s.2.1.2[k]? =some x:=⟨_,A0 (by omega)⟩;have hr:=Qt (f:=fun s=>[dS s]) hx;have hra:=Qt (f:=fun n=>[dI n]) ha;have hrb:=Qt (f:=fun n=>[dI n]) hb
  have e:AC (Qbs s.2.1.1 s.2.1.2 s.2.2.1 k (s.1.getD k [])=(decide (x.length<=128)&&((x==[])==(a==0))&&decide (b<=s.2.2.1))):=Pm.hid (by
   unfold Qbs;simp only[A3,hx,ha,hb,AE])
  have T:AC (Qbs s.2.1.1 s.2.1.2 s.2.2.1 k (s.1.getD k [])=true->(AP (k+1)).all (fun i=>Qbs s.2.1.1 s.2.1.2 s.2.2.1 i (s.1.getD i []))=true):=fun h=>Pl.Qdd (p:=fun i=>Qbs s.2.1.1 s.2.1.2 s.2.2.1 i (s.1.getD i [])) hA.out h
  have F:AC (Qbs s.2.1.1 s.2.1.2 s.2.2.1 k (s.1.getD k [])=false->Qaa s=false):=fun h=>by
   rw[hd2.out,hrow.out,Pl.Qda (p:=fun i=>Qbs s.2.1.1 s.2.1.2 s.2.2.1 i (s.1.getD i [])) hk2 h];rfl
  rw[e.out] at T F;clear hx ha hb e hsp hd2 hrow hA
  repeat' first|refine kS ?_|refine qD (iy hr) ?_|refine qD (iy hra) ?_|refine qD (iy hrb) ?_|refine kU ?_|refine kV ?_ ?_<;>intro q|fail
  all_goals clear hr hra hrb
  all_goals simp only[decide_eq_true_eq,decide_eq_false_iff_not] at*
  all_goals first|refine Qh (64 -(k+1)) (by omega) ⟨k+1,by omega,rfl,Pm.hid (T.out ?_),rfl⟩;clear T F;generalize (x==[])=u at*;generalize (a==0)=v at*;cases u<;>cases v<;>simp at* <;>omega|refine Qb (hx:=?_);rw[F.out ?_];clear T F;generalize (x==[])=u at*;generalize (a==0)=v at*;cases u<;>cases v<;>simp at* <;>omega
 have hk3:k=64:=by simp at q3;omega
 have hd3:AC (Qaa s=Qbx s.2.1.1 (Qbn s) (A7 64 0)):=Pm.hid (by
  have h:=hA.out;rw[hk3] at h
  rw[hd2.out,hrow.out,h];rfl)
 have how:AC (Qbn s=s.2.2.2.1.map (fun p=>(p,s.2.2.1 -1))++s.2.2.2.2.2.1.map (fun p=>(p,s.2.2.2.2.1))):=Pm.hid rfl
 have hbig:AC (∀(i:Nat) (n:Int),s.2.1.1[i]? =some n->n<=900):=fun i n h=>by
  have hi:i<64:=by have:=(A6.1 h).1;omega
  have h2:Pl.QdN s.2.1.1 s.2.1.2 i=true:=by
   simp[Pl.spaceOk] at hsp;exact hsp.2 i hi
  simp[Pl.QdN,Pl.QdC,Pl.inR,A3,h] at h2;omega
 clear hA hd2 hrow hsp;have hol:(Qbn s).length=s.2.2.2.1.length+s.2.2.2.2.2.1.length:=by rw[how.out];simp
 repeat refine kA ?_
 refine Qo (fun m st=> ∃(k:Nat) (many:List Int),k<=(Qbn s).length/\m=(Qbn s).length -k/\many.length=64/\AC (∀n∈many,0<=n/\n<=900)/\AC (Qaa s=Qbx s.2.1.1 ((Qbn s).drop k) many)/\
  st=⟨144,[(5,.d (dI k)),(4,.osl 0 0 0 64),(1,.d (.pd (rSt s)))],[.arr 0 1 3 (many.map fun n=>[dI n])]⟩) [5,4,1] 1 (Qbn s).length ⟨0,A7 64 0,by omega,rfl,by simp,Pm.hid (by intro n hn;rw[(List.mem_replicate.1 hn).2];decide),Pm.hid hd3.out,rfl⟩ (round:=?_)
 clear hd3 hk3 q3;rintro m st ⟨j,many,hj,rfl,hml,hmb,hD,rfl⟩
 repeat' first|refine kA ?_|refine kV ?_ ?_<;>intro q|fail
 rotate_right
 ·refine Qb (hx:=?_)
  have:j=(Qbn s).length:=by simp at q;omega
  rw[hD.out,this,List.drop_length];rfl
 ·have hj2:j<s.2.2.2.1.length:=by simp at q;omega
  obtain⟨x,hx⟩: ∃x,s.2.2.2.1[j]? =some x:=⟨_,A0 hj2⟩;have hr:=Qt (f:=rPtr) hx;have hit:(Qbn s)[j]? =some (x,s.2.2.1 -1):=by rw[how.out,List.getElem?_append_left (by simpa using hj2),A4,hx];rfl
  have hjl:=(A6.1 hit).1;have hst:=hD.out;rw[QgR hit,Qbx] at hst;have hD2:=Pm.hid hst;clear hst hD hit how hx;cases p1:Pl.ptrOk x
  ·repeat' first|refine kS ?_|refine qS (lC (p1▸aPtrOk x)) ?_|refine qS (iy hr) ?_|refine kU ?_|fail
   refine Qb (hx:=?_);rw[hD2.out,p1];rfl
  cases p2:Pl.ptrHole x;rotate_left
  ·repeat' first|refine kS ?_|refine qS (lC (p1▸aPtrOk x)) ?_|refine qS (lC (p2▸Qdk x)) ?_|refine qS (iy hr) ?_|refine kU ?_|fail
   refine Qb (hx:=?_);rw[hD2.out,p1,p2];rfl
  have hat:=QdD p1 p2;obtain⟨n,hn⟩: ∃n,many[x.pat.toNat]? =some n:=⟨_,A0 (by omega)⟩;obtain⟨a,ha⟩: ∃n,s.2.1.1[x.pat.toNat]? =some n:=⟨_,A0 (by omega)⟩;have hnb:=hmb.out n (A2 hn);have hab:=hbig.out _ a ha;have hrm:(many.map fun n=>[dI n])[0+x.pat.toNat]? =some [dI n]:=by rw[A9,A4,hn];rfl
  have hrm2:((many.map fun n=>[dI n]).set x.pat.toNat [dI (n+1)])[0+x.pat.toNat]? =some [dI (n+1)]:=by rw[A9];exact AG (by simp;omega)
  have hra:(s.2.1.1.map fun n=>[dI n])[x.pat.toNat]? =some [dI a]:=by rw[A4,ha];rfl
  have hst:=hD2.out;simp only[A3,hn,ha,AE,p1,p2,AQ,AT,AU] at hst;have hD3:=Pm.hid hst;clear hst hD2 ha hn hbig
  repeat' first|refine kS ?_|refine qS (lC (p1▸aPtrOk x)) ?_|refine qS (lC (p2▸Qdk x)) ?_|refine qS (iy hr) ?_|(show AWP _ (.region 20 _ _) _ _;refine(Fg.awp_drawF (id:=20) [] [10] ?_))|refine qD (Qdn Ty.h rfl Ty.h rfl rfl rfl rfl hat.1 hat.2) ?_|refine qD (QcY Ty.h rfl rfl hrm rfl) ?_|refine qD (QcY (r:=[dI (n+1)]) Ty.h rfl rfl hrm2 rfl) ?_|refine QiT Ty.h rfl rfl hrm rfl (kk:=?_)|refine qD (QcV Ty.h rfl Ty.h rfl rfl rfl hat.1 hra) ?_|refine kU ?_|refine kV ?_ ?_<;>intro q|fail
  all_goals clear hT hTb hK q1 hlen hsp1 hk hol hr hra hrm hrm2
  all_goals simp only[decide_eq_true_eq,decide_eq_false_iff_not] at*
  ·refine Qb (hx:=?_)
   rw[hD3.out,decide_eq_false (by omega)];rfl
  ·refine Qb (hx:=?_)
   rw[hD3.out,decide_eq_false (p:=n+1<=a) (by omega)];simp
  ·refine Qh ((Qbn s).length -(j+1)) (by omega) ⟨j+1,many.set x.pat.toNat (n+1),by omega,rfl,by simp[hml],Pm.hid fun y hy=>?_,Pm.hid (by rw[hD3.out,decide_eq_true (by omega),decide_eq_true (by omega)];rfl),?_⟩
   ·rcases AD hy with hy|rfl
    ·exact hmb.out y hy
    ·omega
   ·simp[keepE,go_sem,AY]
 ·have hj3:s.2.2.2.1.length<=j/\j -s.2.2.2.1.length<s.2.2.2.2.2.1.length:=by simp at q;rename_i qq;simp at qq;omega
  obtain⟨x,hx⟩: ∃x,s.2.2.2.2.2.1[j -s.2.2.2.1.length]? =some x:=⟨_,A0 hj3.2⟩
  have hr:(s.2.2.2.2.2.1.map rPtr)[((j:Int) -(s.2.2.2.1.length:Int)).toNat]? =some (rPtr x):=by
   rw[show((j:Int) -(s.2.2.2.1.length:Int)).toNat=j -s.2.2.2.1.length by omega,A4,hx];rfl
  have hit:(Qbn s)[j]? =some (x,s.2.2.2.2.1):=by rw[how.out,List.getElem?_append_right (by simpa using hj3.1),List.length_map,A4,hx];rfl
  have hjl:=(A6.1 hit).1;have hst:=hD.out;rw[QgR hit,Qbx] at hst;have hD2:=Pm.hid hst;clear hst hD hit how hx;cases p1:Pl.ptrOk x
  ·repeat' first|refine kS ?_|refine qS (lC (p1▸aPtrOk x)) ?_|refine qS (iy hr) ?_|refine kU ?_|fail
   refine Qb (hx:=?_);rw[hD2.out,p1];rfl
  cases p2:Pl.ptrHole x;rotate_left
  ·repeat' first|refine kS ?_|refine qS (lC (p1▸aPtrOk x)) ?_|refine qS (lC (p2▸Qdk x)) ?_|refine qS (iy hr) ?_|refine kU ?_|fail
   refine Qb (hx:=?_);rw[hD2.out,p1,p2];rfl
  have hat:=QdD p1 p2;obtain⟨n,hn⟩: ∃n,many[x.pat.toNat]? =some n:=⟨_,A0 (by omega)⟩;obtain⟨a,ha⟩: ∃n,s.2.1.1[x.pat.toNat]? =some n:=⟨_,A0 (by omega)⟩;have hnb:=hmb.out n (A2 hn);have hab:=hbig.out _ a ha;have hrm:(many.map fun n=>[dI n])[0+x.pat.toNat]? =some [dI n]:=by rw[A9,A4,hn];rfl
  have hrm2:((many.map fun n=>[dI n]).set x.pat.toNat [dI (n+1)])[0+x.pat.toNat]? =some [dI (n+1)]:=by rw[A9];exact AG (by simp;omega)
  have hra:(s.2.1.1.map fun n=>[dI n])[x.pat.toNat]? =some [dI a]:=by rw[A4,ha];rfl
  have hst:=hD2.out;simp only[A3,hn,ha,AE,p1,p2,AQ,AT,AU] at hst;have hD3:=Pm.hid hst;clear hst hD2 ha hn hbig
  repeat' first|refine kS ?_|refine qS (lC (p1▸aPtrOk x)) ?_|refine qS (lC (p2▸Qdk x)) ?_|refine qS (iy hr) ?_|(show AWP _ (.region 20 _ _) _ _;refine(Fg.awp_drawF (id:=20) [] [10] ?_))|refine qD (Qdn Ty.h rfl Ty.h rfl rfl rfl rfl hat.1 hat.2) ?_|refine qD (QcY Ty.h rfl rfl hrm rfl) ?_|refine qD (QcY (r:=[dI (n+1)]) Ty.h rfl rfl hrm2 rfl) ?_|refine QiT Ty.h rfl rfl hrm rfl (kk:=?_)|refine qD (QcV Ty.h rfl Ty.h rfl rfl rfl hat.1 hra) ?_|refine kU ?_|refine kV ?_ ?_<;>intro q|fail
  all_goals clear hT hTb hK q1 hlen hsp1 hk hol hr hra hrm hrm2
  all_goals simp only[decide_eq_true_eq,decide_eq_false_iff_not] at*
  ·refine Qb (hx:=?_)
   rw[hD3.out,decide_eq_false (by omega)];rfl
  ·refine Qb (hx:=?_)
   rw[hD3.out,decide_eq_false (p:=n+1<=a) (by omega)];simp
  ·refine Qh ((Qbn s).length -(j+1)) (by omega) ⟨j+1,many.set x.pat.toNat (n+1),by omega,rfl,by simp[hml],Pm.hid fun y hy=>?_,Pm.hid (by rw[hD3.out,decide_eq_true (by omega),decide_eq_true (by omega)];rfl),?_⟩
   ·rcases AD hy with hy|rfl
    ·exact hmb.out y hy
    ·omega
   ·simp[keepE,go_sem,AY]

/- Of fby_card; no condition. -/
import Derived.Test.YtfmnpmhadmcdkaaGreatDoorT15
import Derived.Test.YtfmnpmhadmcdkaaGreatDoorT16
set_option linter.all false
set_option maxRecDepth 100000
set_option maxHeartbeats 8000000
open Go.Proofs.Tryz renaming prog->A2
open Go.RowKit renaming Hid->A9
open List renaming getElem?_eq_getElem->A0,mem_of_getElem?->A1,take_add_one->A3,length_cons->A4,length_nil->A5,replicate->A6,range->A7,map->A8
namespace Go.Proofs.YtfmnpmhadmcdkaaGreatDoor
noncomputable section
open Go.RowKit
namespace Aw
section
variable{P:Program}{ops:Array Oper}{Q:Exit->St->Prop}{l:List Oper}{n:Nat}{d:Tmp}{ty:TypeId}{pos:String}{after:Array Edge}{gd:Option (Nat×Bool)}{env:List (Nat×AV)}{H H' H1:List Blk}{f:FuncId}{xs:Array Operand}{tys:Array TypeId}{ds:List D}{x x':AV}{w:Pl.Sto}{N k0 k1 k2 k3 k4 g:Nat}{T0 T1 T2 T3 T4:TypeId}{u:Operand}{us:List Operand}
def QdK(h:Does P f (.d (dSt w.st)::ds.map .d) [] [] x H1)(hf: ∀args w,(callFunc f args).run P w= .ok (.enter f args) w)(hw:w.W N)(hx:x.flatA=true)(hH1:H1.all Blk.flat=true)(hxs:xs.toList=u::us:=by rfl)
 (hu:aval env u= .agg [.osl k0 1 0 64,.osl k1 1 0 64,.osl k2 1 0 64,.d (dI w.txg),.osl k3 g 0 w.gone.length,.d (dI 0),.osl k4 1 0 0,.d (dB w.same)]:=by rfl)
 (h0:H[k0]? =some (.arr 1 1 T0 (rS w.rows)):=by rfl) (h1:H[k1]? =some (.arr 1 1 T1 (rI w.refs)):=by rfl) (h2:H[k2]? =some (.arr 1 1 T2 (rI w.last)):=by rfl) (h3:H[k3]? =some (.arr g 5 T3 (w.gone.map rPtr)):=by rfl) (h4:H[k4]? =some (.arr 1 5 T4 []):=by rfl)
 (hd:allD (us.map (aval env))=some ds:=by rfl) (hwk:D.weakL ds=ds:=by rfl)
 (hX: ∀R:AV->Prop,R x'->R (x.ren (· +H.length)):=by intro R hR;simp only[AV.ren,AV.renL,List.length_cons,List.length_nil,Nat.reduceAdd,Nat.zero_add];exact hR) (hH: ∀R:List Blk->Prop,R H'->R (H++H1):=by intro R hR;simp only[List.cons_append,List.nil_append];exact hR)
 (hw2:awanted ops env ⟨some d,.call ⟨.value (.func f),xs,tys⟩,ty,pos,after,gd⟩=some true:=by rfl) (hdn:Nat.blt d n=true:=by rfl) (hg:gdOk ops n ⟨some d,.call ⟨.value (.func f),xs,tys⟩,ty,pos,after,gd⟩=true:=by rfl)
 (k:ASeq P ops Q l ⟨n,(d,x')::env,H'⟩):ASeq P ops Q (⟨some d,.call ⟨.value (.func f),xs,tys⟩,ty,pos,after,gd⟩::l) ⟨n,env,H⟩:=by
 refine QkB (ds:=dSt w.st::ds) h hf ?_ hx hH1 hX hH hw2 hdn hg k;rw[hxs,List.map_cons,QnA hd,hu];show(AV.ice H 4 _).weak::D.weakL ds=_;rw[QqH hw h0 h1 h2 h3 h4,hwk]
end
attribute [local irreducible] ASeq ADraw AWP Loc AStep Fg.PlanF Fg.Flts EndR
def dWide(s:Pm.Store)(hg:QP s)(t:Pl.Tree)(ht:Qx t):Does A2 93 [.d (dSt s),.d (dTree t)] [] [] (.osl 0 2 0 16) [.arr 2 5 31 ((Qe s t).map rPtr)]:=by
 have hc:=Qja s hg t ht.lo ht.hi;have hl:=QfY s ht.hi;have hw:=Pm.hid (Qe.eq_def s t);generalize QI s t=lb at*;obtain⟨l,ok⟩:=lb;simp only at hl hw;have hh:=Qhd (16 -l.length) (by omega);have e:((16 -l.length:Nat):Int)=16 -(l.length:Int):=by omega
 rw[e] at hh;refine kL ?hpin fun gvs=>?_
 case hpin=>intro i C hC;simp at hC
 simp only[parA,gslot,Nat.zero_add];refine kR ?_;refine Qa 0 (h:=?_);refine Qa 1 (h:=?_)
 repeat' first|refine kS ?_|refine Qet Ty.h rfl Ty.h (hb:=?_) (hcell:=?_) (kk:=?_)|refine kU ?_|fail
 ·exact Qdq l
 ·simp;omega
 ·exact Qdq _
 ·simp;omega
 have e2:([]++A8 (fun p:Pl.Ptr=>[dI p.pat,dI p.birth,dI p.size,dI p.sum,dI p.level]) l++A8 (fun p:Pl.Ptr=>[dI p.pat,dI p.birth,dI p.size,dI p.sum,dI p.level]) (A6 (16 -l.length) Pl.hole))=(Qe s t).map rPtr:=by rw[hw.out,List.map_append];rfl
 have e3:([]++A8 (fun p:Pl.Ptr=>[dI p.pat,dI p.birth,dI p.size,dI p.sum,dI p.level]) l).length+(A6 (16 -l.length) Pl.hole).length=16:=by simp;omega
 rw[e2,e3];refine QdI [4,1000000] [2] (env':=[(4,.osl 0 2 0 16),(1000000,.gh [] gvs)]) (H':=[.arr 2 5 31 ((Qe s t).map rPtr)]) (h:=?_);exact QdB (hx:=rfl) (hH:=rfl)
def ePtrD(rows:List (List D))(hr:RdOk rows)(p:Nat)(hp:p<=800000):
 DoesE A2 92 [.ptr 0 0 0] [rdR rows p] [.ptr 0 0 0] (fun x H=> ∃(a b c d e:Int) (p':Nat),p'<=p+40/\x= .d (.agg [dI a,dI b,dI c,dI d,dI e])/\H=[rdR rows p']):=by
 have c1:=fun a b l (s:List UInt8) (h:s.length<=10)=>aPtrOf a b l ([116]++s) (by unfold Pm.big;rw[List.length_append];simp only[A4,A5];omega)
 refine kH fun gvs=>?_
 repeat' first|refine kS ?_|(refine aw_pk 0 hr (kk:=?_);intro v hv)|(refine QA [0] (eText rows hr _ ?_ 9 (by decide)) cK (k:=?_);omega;rintro _ _ ⟨s,p1,hs,hp1,rfl,rfl⟩;refine Qd1 (k:=?_))|(refine QA [0] (eRow rows hr _ ?_) cK (k:=?_);omega;rintro _ _ ⟨z,hz,rfl,rfl⟩;refine Qd1 (k:=?_))|refine qS (Qd0 Ty.h rfl Ty.h) ?_|refine qS (QcX (l:=[116]) rfl rfl (by simp only[A4,A5];omega)) ?_|refine qS (Qdh cK (c1 _ _ _ _ (by omega)) rfl) ?_|refine qS (QcV Ty.h rfl Ty.h rfl rfl rfl (by omega) (QdT (f:=fun z=>[dI z]) [0,-1,900,901] 0 (n:=4) rfl (by omega))) ?_|refine qS (QcV Ty.h rfl Ty.h rfl rfl rfl (by omega) (QdT (f:=fun z=>[dI z]) [0,-1,128,129] 0 (n:=4) rfl (by omega))) ?_|refine qS (QcV Ty.h rfl Ty.h rfl rfl rfl (by omega) (QdT (f:=fun z=>[dI z]) [-1,99460728,99460729,0] 0 (n:=4) rfl (by omega))) ?_|refine qS (QcV Ty.h rfl Ty.h rfl rfl rfl (by omega) (QdT (f:=fun z=>[dI z]) [-1,3,2] 0 (n:=3) rfl (by omega))) ?_|refine kU ?_|refine kV ?_ ?_<;>intro q|fail
 all_goals first|refine Q1 1 (hx:=?_);exact⟨_,_,_,_,_,_,by omega,rfl,rfl⟩
def QaZ(c:UInt8):Bool:=decide (97<=c.toNat)&&decide (c.toNat<=122)
theorem Qlq(s:List UInt8):QF s=(s.all QaZ&&Pl.inR s.length 1 4):=by
 unfold QF Pl.inR;rw[Bool.and_assoc]
 congr 2
 ·grind
 grind
def aNameOk(s:List UInt8)(hs:s.length<=Pm.big):Pure A2 194 [dS s] (dB (QF s)):=by
 simp only[Pm.big] at hs;have hd:=Pm.hid (Qlq s);have c:=al6In s.length 1 4;refine kB ?_
 repeat refine kA ?_
 refine Qo (fun m st=> ∃k:Nat,k<=s.length/\m=s.length -k/\A9 ((s.take k).all QaZ=true)/\st=⟨23,[(3,.d (dI k)),(0,.d (dS s))],[]⟩) [3,0] 0 s.length ⟨0,by omega,rfl,Pm.hid rfl,rfl⟩ (round:=?_);rintro m st ⟨k,hk,rfl,hA,rfl⟩
 repeat refine kG ?_
 cases q3:decide ((k:Int)<(s.length:Int))
 ·repeat refine kA ?_
  refine Qb (hx:=?_);have:k=s.length:=by simp at q3;omega
  have h:=hA.out;rw[this,List.take_length] at h;rw[hd.out,h];rfl
 have hk2:k<s.length:=by simp at q3;omega
 obtain⟨x,hx⟩: ∃x,s[k]? =some x:=⟨_,A0 hk2⟩;have hx':s[(k:Int).toNat]? =some x:=hx;have T:A9 (97<=x.toNat->x.toNat<=122->(s.take (k+1)).all QaZ=true):=fun h1 h2=>by rw[A3,hx,List.all_append,hA.out];simp[QaZ,h1,h2]
 have F:A9 ((x.toNat<97∨122<x.toNat)->QF s=false):=fun h=>by
  rw[hd.out];have:s.all QaZ=false:=by rw[List.all_eq_false];exact⟨x,A1 hx,by simp[QaZ];omega⟩
  rw[this];rfl
 clear hx hA hd
 repeat' first|refine kS ?_|refine qS (QdX Ty.h rfl rfl rfl (by omega) hx') ?_|refine kU ?_|refine kV ?_ ?_<;>intro q|fail
 all_goals simp only[decide_eq_true_eq,decide_eq_false_iff_not] at*
 all_goals first|exact Qh (s.length -(k+1)) (by omega) ⟨k+1,by omega,rfl,Pm.hid (T.out (by omega) (by omega)),rfl⟩|refine Qb (hx:=?_);rw[F.out (by omega)]
abbrev dEnts(l:List Qq):D:= .sl false 2 (l.map rEnt)
abbrev tEnts(l:List Qq):D:= .sl true 2 (l.map rEnt)
theorem Qpy(l:List Qq)(hl:l.length<=Pm.big)(hs: ∀e∈l,e.1.length<=Pm.big):Pure A2 253 [dEnts l] (dB (Qab l)):=by
 simp only[Pm.big] at hl;have hd:A9 (Qab l=((A7 l.length).all (QaD l)&&decide (l.length<=12))):=Pm.hid rfl;refine kB ?_
 repeat refine kA ?_
 refine Qo (fun m st=> ∃k:Nat,k<=l.length/\m=l.length -k/\A9 ((A7 k).all (QaD l)=true)/\st=⟨47,[(3,.d (dI k)),(0,.d (dEnts l))],[]⟩) [3,0] 0 l.length ⟨0,by omega,rfl,Pm.hid rfl,rfl⟩ (round:=?_);rintro m st ⟨k,hk,rfl,hA,rfl⟩
 repeat refine kG ?_
 cases q3:decide ((k:Int)<(l.length:Int))
 ·repeat refine kA ?_
  refine Qb (hx:=?_);have:k=l.length:=by simp at q3;omega
  have h:=hA.out;rw[this] at h;rw[hd.out,h];refine congrArg dB ?_;simp;omega
 have hk2:k<l.length:=by simp at q3;omega
 obtain⟨x,hx⟩: ∃x,l[k]? =some x:=⟨_,A0 hk2⟩;have hr:=Qt (f:=rEnt) hx;obtain⟨y,hy⟩: ∃y,l[k -1]? =some y:=⟨_,A0 (by omega)⟩
 have hr2:A9 (0<k->(l.map rEnt)[((k:Int) -1).toNat]? =some (rEnt y)):=fun h=>by
  rw[show((k:Int) -1).toNat=k -1 by omega,List.getElem?_map,hy];rfl
 have he:A9 (QaD l k=(QF x.1&&Pl.inR x.2 1 15&&(decide (k=0)||Op.bytesLess y.1 x.1))):=Pm.hid (by
  unfold QaD;simp only[List.getD_eq_getElem?_getD,hx,hy,Option.getD_some])
 have T:A9 (QaD l k=true->(A7 (k+1)).all (QaD l)=true):=fun h=>Pl.Qdd (p:=QaD l) hA.out h
 have F:A9 (QaD l k=false->Qab l=false):=fun h=>by
  rw[hd.out,Pl.Qda (p:=QaD l) hk2 h];rfl
 have c1:=aNameOk x.1 (hs x (A1 hx));have c2:=al6In x.2 1 15;rw[he.out] at T F;clear hx hy hA hd he;generalize QF x.1=o1 at*;generalize Pl.inR x.2 1 15=o2 at*
 repeat' first|refine kS ?_|refine qD (iy hr) ?_|refine qD (QcV Ty.h rfl Ty.h rfl rfl rfl (by simp only[decide_eq_true_eq] at*;omega) (hr2.out (by simp only[decide_eq_true_eq] at*;omega))) ?_|refine qD (Qjv rfl rfl) ?_|refine kU ?_|refine kV ?_ ?_<;>intro q|fail
 all_goals clear c1 c2 hr hr2
 all_goals simp only[decide_eq_true_eq,decide_eq_false_iff_not] at*
 all_goals first|refine Qh (l.length -(k+1)) (by omega) ⟨k+1,by omega,rfl,Pm.hid (T.out ?_),rfl⟩;clear T F;simp_all;try omega|refine Qb (hx:=?_);rw[F.out ?_];clear T F;simp_all;try omega
abbrev zSt2:List AV:=[.d (.v (.slice none 0 0)),.d (.v (.slice none 0 0)),.d (.v (.slice none 0 0)),.d (.v (.int .i64 0)),.d (.v (.slice none 0 0)),.d (.v (.int .i64 0)),.d (.v (.slice none 0 0)),.d (.v (.bool false))]
abbrev rowX(g:Nat)(w:Pl.Sto):List AV:=[.osl 0 1 0 64,.osl 1 1 0 64,.osl 2 1 0 64,.d (dI w.txg),.osl 3 g 0 w.gone.length,.d (dI 0),.osl 4 1 0 0,.d (dB w.same)]
theorem eNext(g:Nat)(w:Pl.Sto)(N:Nat)(hN:N<=400000)(hw:w.W N):
 DoesE A2 90 [oS g w] (hS g w) (gS g w) (fun x H=>x= .agg [.osl 0 1 0 64,.osl 1 1 0 64,.osl 2 1 0 64,.d (dI w.next.txg),.osl 5 0 0 0,.d (dI 0),.osl 4 1 0 0,.d (dB w.same)]/\
  H=[.arr 1 1 9 (rS w.next.rows),.arr 1 1 3 (rI w.next.refs),.arr 1 1 3 (rI w.next.last),.arr g 5 31 (w.gone.map rPtr),.arr 1 5 31 [],.arr 0 5 31 []]):=by
 have hd:A9 (w.next={w.dropL w.gone with gone:=[],txg:=w.txg+1}):=Pm.hid rfl;have hgl:=hw.many;have htx:=hw.txg;generalize w.next=res at*;refine kH fun gvs=>?_
 repeat refine kA ?_
 refine Qo (fun m st=> ∃(i:Nat) (wi:Pl.Sto),i<=w.gone.length/\m=w.gone.length -i/\A9 (wi=w.dropL (w.gone.take i))/\A9 (wi.W (N+i)/\wi.gone=w.gone/\wi.txg=w.txg/\wi.same=w.same)/\
  st=⟨26,[(3,.d (dI i)),(1,.ptr 5 0 0),(2,.ptr 6 0 0),(1000000,.gh (gS g w) gvs)],hS g wi++[.row 0 (rowX g wi),.row 0 zSt2]⟩) [3,1,2,1000000] 7 w.gone.length
  ⟨0,w,by omega,rfl,Pm.hid rfl,Pm.hid ⟨hw,rfl,rfl,rfl⟩,rfl⟩ (round:=?_)
 rintro m st ⟨i,wi,hi,rfl,hwi,hWi,rfl⟩;obtain⟨hW,y1,y2,y3⟩:=hWi.out;simp only[hS,List.cons_append,List.nil_append]
 repeat refine kG ?_
 cases q4:decide ((i:Int)<(wi.gone.length:Int))
 ·have hio:i=w.gone.length:=by simp at q4;rw[y1] at q4;omega
  have hw2:=hwi.out;rw[hio,List.take_of_length_le (Nat.le_refl _)] at hw2;have v0:wi.rows.length=w.rows.length:=by rw[hW.rows,hw.rows]
  have v1:wi.refs.length=w.refs.length:=by rw[hW.refs,hw.refs]
  have v2:wi.last.length=w.last.length:=by rw[hW.last,hw.last]
  have v3:wi.gone.length=w.gone.length:=by rw[y1]
  have hb2:wi.txg<=400000:=by rw[y2];omega
  have hb1:0<=wi.txg:=by rw[y2];omega
  repeat refine kA ?_
  refine QdI [2,1000000] [0,1,2,3,4,7,6] (env':=[(2,.ptr 6 0 0),(1000000,.gh (gS g w) gvs)]) (H':=[.arr 1 1 9 (rS wi.rows),.arr 1 1 3 (rI wi.refs),.arr 1 1 3 (rI wi.last),.arr g 5 31 (wi.gone.map rPtr),.arr 1 5 31 [],.arr 0 5 31 [],.row 0 [.osl 0 1 0 64,.osl 1 1 0 64,.osl 2 1 0 64,.d (dI (wi.txg+1)),.osl 5 0 0 0,.d (dI 0),.osl 4 1 0 0,.d (dB wi.same)]]) (h:=?_);refine Q1 6 (hx:=?_);rw[hd.out];dsimp only;rw[<-hw2,<-y1,<-y2,<-y3];exact⟨rfl,rfl⟩
 have hi2:i<w.gone.length:=by simp at q4;rw[y1] at q4;omega
 obtain⟨x,hx⟩: ∃x,w.gone[i]? =some x:=⟨_,A0 hi2⟩;have hr:=Qt (f:=rPtr) hx;rw[<-y1] at hr;obtain⟨o1,o2⟩:=hw.gone x (A1 hx);have hat:=QdD o1 o2;obtain⟨a,ha⟩:=Int.eq_ofNat_of_zero_le hat.1;have cf:=eDrop g wi (N+i) (by omega) hW a (by omega)
 have hst:A9 (w.dropL (w.gone.take (i+1))=wi.drop a):=Pm.hid (by
  rw[A3,hx,hwi.out];unfold Pl.Sto.dropL;rw[List.foldl_append]
  simp only[Option.toList,List.foldl_cons,List.foldl_nil,ha,Int.toNat_natCast])
 have hWd:=hW.drop (a:=a) (by omega);have z1:(wi.drop a).gone=wi.gone:=rfl;have z2:(wi.drop a).txg=wi.txg:=rfl;have z3:(wi.drop a).same=wi.same:=rfl;have z4:(wi.drop a).gone.length=wi.gone.length:=rfl;have hgl2:i<wi.gone.length:=by rw[y1];exact hi2
 clear hx hwi hWi;generalize wi.drop a=wd at*;obtain⟨pat,birth,size,sum,level⟩:=x;simp only at ha;subst ha
 repeat' first|refine kS ?_|(show AWP _ (.region 4 _ _) _ _;refine(Fg.awp_drawF (id:=4) [] [7,8] ?_))|refine qD (QcY Ty.h rfl rfl hr rfl) ?_|refine QeL [0,1,2,3,4] cf cK (k:=kZ ?_)|refine kU ?_|fail
 all_goals first|refine Qh (w.gone.length -(i+1)) (by omega) ⟨i+1,wd,by omega,rfl,Pm.hid hst.out.symm,Pm.hid ⟨hWd,z1.trans y1,z2.trans y2,z3.trans y3⟩,?_⟩;simp[keepE,go_sem,z1];done

/- Of fby_card; no condition. -/
import Derived.Test.YtfmnpmhadmcdkaaGreatDoorT32
set_option linter.all false
set_option maxRecDepth 100000
set_option maxHeartbeats 16000000
open Go.Op renaming bytesLess->AE
open Go.Proofs.Tryz renaming underlying142->A0,underlying3->A1,underlying9->A2,underlying143->A4,underlying104->A5,underlying144->A6,prog->A7
open List renaming getElem?_eq_getElem->A3,getElem?_eq_some_iff->A9,mem_of_getElem?->AA,take_add_one->AB,take_length->AC,map_append->AD,mem_map->AF
open Nat renaming eq_zero_or_pos->A8
namespace Go.Proofs.YtfmnpmhadmcdkaaGreatDoor
noncomputable section
open Go.RowKit
namespace Aw
attribute [local irreducible] ASeq ADraw AWP Loc mget mset AStep Fg.PlanF Fg.Flts
section
variable{P:Program}{dst:Option Tmp}{ty:TypeId}{pos:String}{after:Array Edge}{gd:Option (Nat×Bool)}{env:List (Nat×AV)}{H:List Blk}
theorem QuU{T T':TypeId}{x y:Operand}{l m:List UInt8}{b:Bool}(hx:aval env x= .d (.v (.string ⟨l.toArray⟩)))(hy:aval env y= .d (.v (.string ⟨m.toArray⟩)))(hb:(AE l m||l==m)=b):
 Loc P ⟨dst,.binOp .leq T x y T',ty,pos,after,gd⟩ env H (.d (.v (.bool b))) none:=by
 subst hb
 exact loc_bin' (X:= .string ⟨l.toArray⟩) (Y:= .string ⟨m.toArray⟩) (by rw[hx];rfl) (by rw[hy];rfl) fun w=>by
  rw[Sem.run_bind,QfK,Result.andThen_ok];simp only[binOp,Op.stringOp,QhJ];rfl
end
def QuV{dst:Option Tmp}{T' ty:TypeId}{pos:String}{after:Array Edge}{gd:Option (Nat×Bool)}{env:List (Nat×AV)}{H:List Blk}{x y:Tmp}{p:List UInt8}{n:Int}(hx:aval env (.tmp x)= .d (.agg [dS p,dI n]))(hy:aval env (.tmp y)= .d (.agg [dS p,dI n])):
 Loc A7 ⟨dst,.binOp .neq 43 (.tmp x) (.tmp y) T',ty,pos,after,gd⟩ env H (.d (dB false)) none:=
 loc_bin' (X:= .agg #[.string ⟨p.toArray⟩,.int .i64 n]) (Y:= .agg #[.string ⟨p.toArray⟩,.int .i64 n]) (by rw[hx];rfl) (by rw[hy];rfl) fun w=>by
  go_simp
def Qwy(s:List UInt8)(hs:s.length<=1000000):Pure A7 144 [dS s,.v (.int .u8 47)] (dI (Lib.lastIndexByte ⟨s.toArray⟩ 47)):=
 Qdv rfl fun w _=>(Tryz.strings_LastIndexByte ⟨s.toArray⟩ 47 (by rw[Pm.QhF];omega) w).mono fun e w' h=>⟨h.1,h.2▸Below.refl _ _⟩
theorem bAbove(q:List (List UInt8))(n:List UInt8)(hn:(47:UInt8)∉n)(hq: ∀m∈q,m≠[])(hl:(QC (q++[n])).length<=1000):Pure A7 82 [dS (QC (q++[n]))] (.tup [dS (QC q),dS n]):=by
 obtain⟨i,hi,e,h1,h2⟩:=Qvx q n hn hq;have c:=Qwy (QC (q++[n])) (by omega);rw[e] at c;have ht:(D.tup [dS (QC q),dS n])= .tup [dS ((QC (q++[n])).take (max i 1)),dS ((QC (q++[n])).drop (i+1))]:=by rw[h1,h2]
 rw[ht];clear ht;generalize QC (q++[n])=p at*;clear h1 h2 e hn hq
 have hm:((if(1:Int)>(i:Int) then 1 else(i:Int)))=((max i 1:Nat):Int):=by
  rcases Nat.lt_or_ge i 1 with h|h
  ·have:i=0:=by omega
   subst this;rfl
  ·rw[if_neg (by omega),Nat.max_eq_left h]
 refine kB ?_
 repeat' first|refine kS ?_|refine qD (QgH (m:=((max i 1:Nat):Int)) rfl rfl hm) ?_|refine qS (QgH (m:=((max i 1:Nat):Int)) rfl rfl hm) ?_|refine qD (QfH rfl rfl rfl (by omega) (by omega)) ?_|refine qS (QfH rfl rfl rfl (by omega) (by omega)) ?_|refine qD (QfG rfl rfl rfl (by omega) (by omega)) ?_|refine qS (QfG rfl rfl rfl (by omega) (by omega)) ?_|refine kU ?_|refine kV ?_ ?_<;>intro q|fail
 all_goals first|exact Qb (hx:=by simp)|exfalso;simp at*;omega
def Qw4(a:List UInt8)(l:List (List UInt8)): @List.count _ (@instBEqOfDecidableEq _ Ky.dec) a l=l.count a:=List.countP_congr fun x _=>by simp
structure QuB(Ns:List Gr.It)(y:Gr.It->Qb7)(i:Nat)(x:Gr.It):Prop where
 prev: ∀z,0<i->Ns[i -1]? =some z->(AE (QC x.1) (QC z.1)||QC x.1==QC z.1)=false
 up:0<i->x.1≠[]/\ ∃z∈Ns.take i,QC z.1=QC x.1.dropLast/\(y z).2.1=true
 top:i=0->x.1=[]
 few:0<i->(Qut (Ns.take i)).count (QC x.1.dropLast)+1<=12
 lnk:((Ns.take i).map fun x=>(x.2:Int)).count (x.2:Int)+1<=9
 one:(y x).2.1=true->((Ns.take i).map fun x=>(x.2:Int)).count (x.2:Int)+1<=1
 new: ∀z∈Ns.take i,QC z.1≠QC x.1
theorem Qwz(Ns:List Gr.It)(T:List Qb7)(hn:Ns.length<=144)(hT:T.length<=16)(hn0:Ns[0]? =some ([],0))(hT0:T[0]? =some (0,true,[]))
 (hTh: ∀(i:Nat) x,T[i]? =some x->x.1<=15/\(x.2.1=true->x.2.2=[])/\x.2.2.length<=192/\(∀z,0<i->T[i -1]? =some z->z.1<x.1))
 (y:Gr.It->Qb7) (cT: ∀x∈Ns,Pure A7 48 [.pd [.sl true 2 (Ns.map rIt),.sl true 3 (T.map rTh)],dI (x.2:Nat)] (.pd (rTh (y x))))
 (cA: ∀x∈Ns,x.1≠[]-> ∃n,Pure A7 82 [dS (QC x.1)] (.tup [dS (QC x.1.dropLast),dS n])/\Pure A7 83 [dS n] (dB true))
 (hR: ∀(i:Nat) x,Ns[i]? =some x->QuB Ns y i x)
 (hlen: ∀m:List (Int×D),Qux m (Ns.map fun x=>(x.2:Int))->m.length=T.length):Pure A7 43 [dFlat (Ns,T)] (dB true):=by
 have hT1:1<=T.length:=by have:=(A9.1 hT0).1;omega
 have hN1:1<=Ns.length:=by have:=(A9.1 hn0).1;omega
 have w1:=bIn (T.length:Int) 1 16;rw[show Pl.inR (T.length:Int) 1 16=true by unfold Pl.inR;simp;omega] at w1;have r0:(Ns.map rIt)[(0:Int).toNat]? =some [dS [47],dI 0]:=Qt (f:=rIt) (k:=0) hn0;have t0:(T.map rTh)[(0:Int).toNat]? =some [dI 0,dB true,dS []]:=Qt (f:=rTh) (k:=0) hT0;have hTh:=Pm.hid hTh;have cT:=Pm.hid cT;have cA:=Pm.hid cA;have hR:=Pm.hid hR;have hlen:=Pm.hid hlen;clear hn0 hT0;refine kE ?_;refine Qa 0 (h:=?_)
 repeat' first|refine kS ?_|refine qD (iy r0) ?_|refine qS (iy r0) ?_|refine qD (QuV rfl rfl) ?_|refine qS (QuV rfl rfl) ?_|refine kU ?_|refine kV ?_ ?_<;>intro q|fail
 all_goals first|exfalso;simp only[beq_iff_eq] at q;omega|exfalso;simp at*;done|skip
 refine Qo (fun mm st=> ∃i:Nat,i<=T.length/\mm=T.length -i/\
  st=⟨184,[(1,.d (.pd [.sl true 2 (Ns.map rIt),.sl true 3 (T.map rTh)])),(33,.d (.sl true 3 (T.map rTh))),(34,.d (dI T.length)),(35,.d (dI i))],[.row 1 []]⟩) [1,33,34,35] 1 T.length ⟨0,by omega,rfl,by simp[keepE,go_sem]⟩ (round:=?_)
 rintro mm st ⟨i,hi,rfl,rfl⟩;clear w1 r0
 repeat refine kG ?_
 cases q3:decide ((i:Int)<(T.length:Int));rotate_left
 ·have hi2:i<T.length:=by simp at q3;omega
  obtain⟨x,hx⟩: ∃x,T[i]? =some x:=⟨_,A3 hi2⟩;have hr:=Qt (f:=rTh) hx;obtain⟨g1,g2,g3,g4⟩:=hTh.out i x hx;have w2:=bIn (x.1:Int) 0 15;rw[show Pl.inR (x.1:Int) 0 15=true by unfold Pl.inR;simp;omega] at w2
  obtain⟨z,hz,hzx⟩: ∃z:Qb7,(0<i->(T.map rTh)[((i:Int) -1).toNat]? =some (rTh z))/\(0<i->z.1<x.1):=by
   rcases A8 i with h|h
   ·exact⟨x,fun h2=>by omega,fun h2=>by omega⟩
   ·obtain⟨z,hz⟩: ∃z,T[i -1]? =some z:=⟨_,A3 (by omega)⟩
    exact⟨z,fun _=>by rw[show((i:Int) -1).toNat=((i -1:Nat):Int).toNat by omega];exact Qt (f:=rTh) hz,fun h=>g4 z h hz⟩
  clear g4 hx;obtain⟨id,fo,tx⟩:=x;obtain⟨id2,fo2,tx2⟩:=z;simp only at g1 g2 g3 hzx w2;rcases A8 i with h0|h0
  ·subst h0
   clear hz hzx;cases fo
   ·repeat' first|refine kS ?_|refine qD (iy hr) ?_|refine qS (iy hr) ?_|refine kU ?_|refine kV ?_ ?_<;>intro q|fail
    all_goals first|exfalso;simp at*;omega|exact Qh (T.length -(0+1)) (by omega) ⟨0+1,by omega,rfl,by simp[keepE,go_sem]⟩
   ·obtain rfl:=g2 rfl
    repeat' first|refine kS ?_|refine qD (iy hr) ?_|refine qS (iy hr) ?_|refine kU ?_|refine kV ?_ ?_<;>intro q|fail
    all_goals first|exfalso;simp at*;omega|exact Qh (T.length -(0+1)) (by omega) ⟨0+1,by omega,rfl,by simp[keepE,go_sem]⟩
  ·have hz:=hz h0
   have hzx:=hzx h0;cases fo
   ·repeat' first|refine kS ?_|refine qD (iy hr) ?_|refine qS (iy hr) ?_|refine qD (iy hz) ?_|refine qS (iy hz) ?_|refine kU ?_|refine kV ?_ ?_<;>intro q|fail
    all_goals first|exfalso;simp at*;omega|exact Qh (T.length -(i+1)) (by omega) ⟨i+1,by omega,rfl,by simp[keepE,go_sem]⟩
   ·obtain rfl:=g2 rfl
    repeat' first|refine kS ?_|refine qD (iy hr) ?_|refine qS (iy hr) ?_|refine qD (iy hz) ?_|refine qS (iy hz) ?_|refine kU ?_|refine kV ?_ ?_<;>intro q|fail
    all_goals first|exfalso;simp at*;omega|exact Qh (T.length -(i+1)) (by omega) ⟨i+1,by omega,rfl,by simp[keepE,go_sem]⟩
 have hi3:i=T.length:=by simp at q3;omega
 subst hi3;clear hTh q3 hi
 repeat' first|refine kS ?_|refine qD (iy t0) ?_|refine qS (iy t0) ?_|refine stepD2 (Qfu) (k:=?_)|refine stepS2 (Qfu) (k:=?_)|refine kU ?_|refine kV ?_ ?_<;>intro q|fail
 all_goals first|exfalso;simp at*;done|skip
 refine Qo (fun mm st=> ∃(i:Nat) (ml:List (Int×D)) (mi mf:List (List UInt8×D)),i<=Ns.length/\mm=Ns.length -i/\Hid (Qux ml ((Ns.take i).map fun x=>(x.2:Int)))/\Hid (Qux mi (Qut (Ns.take i)))/\Hid (Qu7 mf ((Ns.take i).map fun x=>(QC x.1,dB (y x).2.1)))/\
  st=⟨184,[(1,.d (.pd [.sl true 2 (Ns.map rIt),.sl true 3 (T.map rTh)])),(5,.mp 1 0),(6,.mp 2 0),(7,.mp 3 0),(94,.d (.sl true 2 (Ns.map rIt))),(95,.d (dI Ns.length)),(96,.d (dI i))],[.row 1 [],.mp 0 (imap ml),.mp 0 (imap mi),.mp 0 (imap mf)]⟩)
  [1,5,6,7,94,95,96] 4 Ns.length ⟨0,[],[],[],by omega,rfl,Pm.hid Qux.nil,Pm.hid Qux.nil,Pm.hid (fun p hp=>by simp at hp),by simp[keepE,go_sem,imap]⟩ (round:=?_)
 rintro mm st ⟨i,ml,mi,mf,hi,rfl,hl,hn,hf,rfl⟩;clear t0
 repeat refine kG ?_
 cases q3:decide ((i:Int)<(Ns.length:Int))
 ·have hie:i=Ns.length:=by simp at q3;omega
  have h1:=hlen.out ml (by have:=hl.out;rwa [hie,AC] at this);clear hl hn hf hR cA cT hlen
  repeat' first|refine kS ?_|refine qD (QuW A0 rfl rfl) ?_|refine qS (QuW A0 rfl rfl) ?_|refine kU ?_|refine kV ?_ ?_<;>intro q|fail
  all_goals first|exact Qb (hx:=by simp[Qf0,h1])
 have hi2:i<Ns.length:=by simp at q3;omega
 obtain⟨x,hx⟩: ∃x,Ns[i]? =some x:=⟨_,A3 hi2⟩;have hxm:=AA hx;have hr:(Ns.map rIt)[((i:Nat):Int).toNat]? =some [dS (QC x.1),dI (x.2:Nat)]:=Qt (f:=rIt) hx;have R:=hR.out i x hx;have c1:=cT.out x hxm;have htk:Ns.take (i+1)=Ns.take i++[x]:=by rw[AB,hx];rfl
 have hlk:=hl.out.get (x.2:Int);have hl2:Hid (Qux _ ((Ns.take (i+1)).map fun x=>(x.2:Int))):=Pm.hid (by rw[htk,AD];exact hl.out.step (x.2:Int))
 have hf2:Hid (Qu7 _ ((Ns.take (i+1)).map fun x=>(QC x.1,dB (y x).2.1))):=Pm.hid (by
  rw[htk,AD]
  exact hf.out.step (k:=QC x.1) (d:=dB (y x).2.1) fun p hp=>by obtain⟨z,hz,rfl⟩:=AF.1 hp;exact R.new z hz)
 have hlnk:=R.lnk;have hone:=R.one;generalize ((Ns.take i).map fun x=>(x.2:Int)).count (x.2:Int)=cl at*;have hlk2:(mget (mset ml (x.2:Int) (.v (.int .i64 ((cl:Nat)+1)))) (x.2:Int)).getD (.v (.int .i64 0))=dI ((cl:Nat)+1):=by rw[QeP];rfl
 rcases A8 i with h0|h0
 ·subst h0
  have hn2:Hid (Qux mi (Qut (Ns.take (0+1)))):=Pm.hid (by rw[htk,Qwn (R.top rfl)];exact hn.out);clear R hn hl hf htk;generalize hyx:y x=yx at*;obtain⟨yi,yf,yt⟩:=yx;simp only at hone hf2;generalize QC x.1=sp at*;clear hyx hx hxm;cases yf
  all_goals
   try have hone:=hone rfl
   repeat' first|refine kS ?_|refine qD (iy hr) ?_|refine qS (iy hr) ?_|refine qD (QeN A5 rfl) ?_|refine qS (QeN A5 rfl) ?_|refine qD (QuC (α:=Int) A0 A1 (z:= .int .i64 0) (by kernel_rfl) rfl rfl rfl hlk) ?_|refine qS (QuC (α:=Int) A0 A1 (z:= .int .i64 0) (by kernel_rfl) rfl rfl rfl hlk) ?_|refine qD (QuC (α:=Int) A0 A1 (z:= .int .i64 0) (by kernel_rfl) rfl rfl rfl hlk2) ?_|refine qS (QuC (α:=Int) A0 A1 (z:= .int .i64 0) (by kernel_rfl) rfl rfl rfl hlk2) ?_|(show ASeq _ _ _ (⟨_,.mapUpdate _ _ _ _,_,_,_,_⟩::_) _;refine QuR (α:=Int) A0 A1 (kk:=?_))|refine qD (Qdi rfl) ?_|refine qS (Qdi rfl) ?_|(show AWP _ (.region 29 _ _) _ _;refine Qa 4 (h:=Fg.awp_drawF (id:=29) [0,1,2,3,4,5,6] [7] ?_))|(show Fg.Flts _ _ _ _ _;first|refine Fg.aw_fltN ?_|refine Fg.aw_flt (k:=?_)|refine Fg.aw_fltL (hl:=fun H=>Qdi rfl) (k:=?_))|(show Fg.PlanF _ _ _ _ _ _ _;first|refine Fg.aw_planFN ?_|refine Fg.aw_planFC ?_)|(show AStep _ _ _ _ _;refine Qvp (α:=List UInt8) A6 A2 (kk:=?_))|refine kU ?_|refine kV ?_ ?_<;>intro q|fail
   all_goals first|exfalso;simp only[decide_eq_true_eq,decide_eq_false_iff_not] at*;omega|refine Qh (Ns.length -(0+1)) (by omega) ⟨0+1,_,_,_,by omega,rfl,hl2,hn2,hf2,?_⟩;simp[keepE,go_sem];done
 ·obtain⟨hne,z,hz,hzp,hzo⟩:=R.up h0
  obtain⟨n,cAb,cNm⟩:=cA.out x hxm hne;have hfew:=R.few h0;have hnk:=hn.out.get (QC x.1.dropLast);rw[Qw4] at hnk;have hn2:Hid (Qux (mset mi (QC x.1.dropLast) (.v (.int .i64 (((Qut (Ns.take i)).count (QC x.1.dropLast):Nat)+1)))) (Qut (Ns.take (i+1)))):=Pm.hid (by rw[htk,Qwm hne,<-Qw4];exact hn.out.step (QC x.1.dropLast))
  have hfo:(mget mf (QC x.1.dropLast)).getD (.v (.bool false))=dB true:=by
   have h:=hf.out (QC z.1,dB (y z).2.1) (AF.2 ⟨z,hz,rfl⟩);rw[hzp,hzo] at h;rw[h];rfl
  obtain⟨w,hw⟩: ∃w,Ns[i -1]? =some w:=⟨_,A3 (by omega)⟩;have hrw:(Ns.map rIt)[((i:Int) -1).toNat]? =some [dS (QC w.1),dI (w.2:Nat)]:=by rw[show((i:Int) -1).toNat=((i -1:Nat):Int).toNat by omega];exact Qt (f:=rIt) hw
  have hprev:=R.prev w h0 hw;clear R hn hl hf htk hz hzp hzo hne hw;generalize hyx:y x=yx at*;obtain⟨yi,yf,yt⟩:=yx;simp only at hone hf2;generalize (Qut (Ns.take i)).count (QC x.1.dropLast)=ci at*;generalize QC x.1=sp at*;generalize QC x.1.dropLast=fo at*;generalize QC w.1=sw at*;have hnk2:(mget (mset mi fo (.v (.int .i64 ((ci:Nat)+1)))) fo).getD (.v (.int .i64 0))=dI ((ci:Nat)+1):=by rw[QeP];rfl
  clear hyx hx hxm;cases yf
  all_goals
   try have hone:=hone rfl
   repeat' first|refine kS ?_|refine qD (iy hr) ?_|refine qS (iy hr) ?_|refine qD (QeN A5 rfl) ?_|refine qS (QeN A5 rfl) ?_|refine qD (iy hrw) ?_|refine qS (iy hrw) ?_|refine qD (QuU rfl rfl hprev) ?_|refine qS (QuU rfl rfl hprev) ?_|refine qD (QuC (α:=List UInt8) A6 A2 (z:= .bool false) (by kernel_rfl) rfl rfl rfl hfo) ?_|refine qS (QuC (α:=List UInt8) A6 A2 (z:= .bool false) (by kernel_rfl) rfl rfl rfl hfo) ?_|refine qD (QuC (α:=List UInt8) A4 A2 (z:= .int .i64 0) (by kernel_rfl) rfl rfl rfl hnk) ?_|refine qS (QuC (α:=List UInt8) A4 A2 (z:= .int .i64 0) (by kernel_rfl) rfl rfl rfl hnk) ?_|refine qD (QuC (α:=List UInt8) A4 A2 (z:= .int .i64 0) (by kernel_rfl) rfl rfl rfl hnk2) ?_|refine qS (QuC (α:=List UInt8) A4 A2 (z:= .int .i64 0) (by kernel_rfl) rfl rfl rfl hnk2) ?_|(show ASeq _ _ _ (⟨_,.mapUpdate _ _ _ _,_,_,_,_⟩::_) _;refine QuR (α:=List UInt8) A4 A2 (kk:=?_))|refine qD (QuC (α:=Int) A0 A1 (z:= .int .i64 0) (by kernel_rfl) rfl rfl rfl hlk) ?_|refine qS (QuC (α:=Int) A0 A1 (z:= .int .i64 0) (by kernel_rfl) rfl rfl rfl hlk) ?_|refine qD (QuC (α:=Int) A0 A1 (z:= .int .i64 0) (by kernel_rfl) rfl rfl rfl hlk2) ?_|refine qS (QuC (α:=Int) A0 A1 (z:= .int .i64 0) (by kernel_rfl) rfl rfl rfl hlk2) ?_|(show ASeq _ _ _ (⟨_,.mapUpdate _ _ _ _,_,_,_,_⟩::_) _;refine QuR (α:=Int) A0 A1 (kk:=?_))|refine qD (Qdi rfl) ?_|refine qS (Qdi rfl) ?_|(show AWP _ (.region 29 _ _) _ _;refine Qa 4 (h:=Fg.awp_drawF (id:=29) [0,1,2,3,4,5,6] [7] ?_))|(show Fg.Flts _ _ _ _ _;first|refine Fg.aw_fltN ?_|refine Fg.aw_flt (k:=?_)|refine Fg.aw_fltL (hl:=fun H=>Qdi rfl) (k:=?_))|(show Fg.PlanF _ _ _ _ _ _ _;first|refine Fg.aw_planFN ?_|refine Fg.aw_planFC ?_)|(show AStep _ _ _ _ _;refine Qvp (α:=List UInt8) A6 A2 (kk:=?_))|refine kU ?_|refine kV ?_ ?_<;>intro q|fail
   all_goals first|exfalso;simp only[decide_eq_true_eq,decide_eq_false_iff_not] at*;omega|refine Qh (Ns.length -(i+1)) (by omega) ⟨i+1,_,_,_,by omega,rfl,hl2,hn2,hf2,?_⟩;simp[keepE,go_sem];done
def QvL(F:List Gr.It×List Qb7)(hT:F.2.length<=16)(h192: ∀x∈F.2,x.2.2.length<=192)(cOk:Pure A7 43 [dFlat F] (dB true)):Pure A7 17 [dFlat F] (dI (Quw F.2)):=by
 obtain⟨N,T⟩:=F;simp only at hT h192;have h192:=Pm.hid h192;have hsum:Hid (Quw T=(((T.map fun x=>x.2.2.length).sum:Nat):Int)):=Pm.hid rfl;show Pure _ _ _ (dI (Quw T));generalize Quw T=U at*;refine kE ?_;refine Qa 0 (h:=?_)
 repeat' first|refine kA ?_|refine kV ?_ ?_<;>intro q|fail
 refine Qo (fun mm st=> ∃k a:Nat,k<=T.length/\mm=T.length -k/\a<=k*192/\Hid (a=((T.take k).map fun x=>x.2.2.length).sum)/\
  st=⟨23,[(3,.d (dI a)),(10,.d (.sl true 3 (T.map rTh))),(11,.d (dI T.length)),(12,.d (dI k))],[.row 1 []]⟩) [3,10,11,12] 1 T.length ⟨0,0,by omega,rfl,by omega,Pm.hid rfl,by simp[keepE,go_sem]⟩ (round:=?_)
 rintro mm st ⟨k,a,hk,rfl,ha,hs,rfl⟩
 repeat refine kG ?_
 cases q3:decide ((k:Int)<(T.length:Int))
 ·have h1:(a:Int)=U:=by
   have:k=T.length:=by simp at q3;omega
   rw[hsum.out,hs.out,this,AC]
  repeat' first|refine kA ?_|refine kV ?_ ?_<;>intro q|fail
  all_goals first|exact Qb (hx:=by rw[<-h1])
 have hk2:k<T.length:=by simp at q3;omega
 obtain⟨x,hx⟩: ∃x,T[k]? =some x:=⟨_,A3 hk2⟩;have hr:=Qt (f:=rTh) hx;have hx1:=h192.out x (AA hx);have hs2:Hid (a+x.2.2.length=((T.take (k+1)).map fun x=>x.2.2.length).sum):=Pm.hid (by rw[AB,hx,hs.out];simp);clear hx hs;obtain⟨id,fo,tx⟩:=x;simp only at hx1 hs2
 repeat' first|refine kS ?_|refine qD (iy hr) ?_|refine qS (iy hr) ?_|refine kU ?_|refine kV ?_ ?_<;>intro q|fail
 all_goals first|exact Qh (T.length -(k+1)) (by omega) ⟨k+1,a+tx.length,by omega,rfl,by omega,hs2,by simp[keepE,go_sem]⟩

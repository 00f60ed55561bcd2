/- Of ftw_card; no condition. -/
import Derived.Test.YthbonbflkdonkaaGreatDoorP10
import Derived.Deep.AppendLies
import Derived.StillTailTactics
set_option linter.all false
set_option maxRecDepth 100000
set_option maxHeartbeats 1000000
open Go renaming World->A3,Calls->A6,Value->AR,TypeId->AT
open Go.Lib renaming byteCells_length->AB,atoiAll->AD,IsBuilder->AF,byteCells_append->AJ,byteCells->AL,BuilderAt->AW
open Go.Proofs.Tryz renaming prog->A1,ntmps77->A5,results210->A7,func77->AA,ntmps137->AE,func137->AG,ntmps74->AN,func74->AS,ntmps199->AU,ntmps234->AX,ntmps210->AY,func199->AZ,func234->Aa,func210->Ab
open Go.RowKit renaming Below->A4,Hid->AK
open Go.RowKit.Below renaming refl->AC
open Go.Value renaming int->Ae
open List renaming take_succ_eq_append_getElem->A2,length_append->A9,take_of_length_le->AH,length_singleton->AI,mem_cons_self->AM,take_length->AP,getElem_mem->AQ
open Nat renaming le_refl->A0,lt_of_lt_of_le->A8,le_of_lt->AO,mod_lt->Ac
open Option.some renaming injEq->Ad
open Or renaming inr->Af
namespace Go.Proofs.YthbonbflkdonkaaGreatDoor
noncomputable section
section
open Go.RowKit
namespace Pm
open Pl (dec dch inR Ptr Tree Root hole ptrHole ptrOk)
def Qpd(n:Int):(Pl.numPut n).length<=9:=by
 unfold Pl.numPut;split
 ·rename_i h;exact Pl.Qdc 8 n.toNat (by omega)
 ·simp
def ptrPut_len(p:Ptr):(Pl.ptrPut p).length<=60:=by
 unfold Pl.ptrPut;split
 ·rename_i h
  obtain⟨b1,b2,b3,b4,b5⟩:=Pl.QdA h;split
  ·simp
  ·have la:=Pl.Qdc 9 p.pat.toNat (by omega)
   have lb:=Pl.Qdc 9 p.birth.toNat (by omega);have lc:=Pl.Qdc 9 p.size.toNat (by omega);have ld:=Pl.Qdc 9 p.sum.toNat (by omega);have lf:=Pl.Qdc 9 p.level.toNat (by omega);simp[Pl.ptrText,Pl.dots];omega
 ·simp
def QqM(o:Option Str):optStr o= .tuple #[.string ⟨(o.getD []).toArray⟩,.bool o.isSome]:=by cases o<;>rfl
end Pm
end
section
open Go.RowKit
namespace Pm
theorem Qpb{w:A3}{base size n:Nat}{e:AT}{v:AR}{xs:List AR}(h:w.ownsRow base e size v n xs): ∃A c,v= .slice A n c:=by
 obtain⟨_,⟨hv,hn⟩|⟨g,cap,cur,hv,_⟩⟩:=h
 ·subst hn;exact⟨none,0,hv⟩
 ·exact⟨_,cap,hv⟩
section
variable{b3 base k:Nat}{l:List Disk}{v0:AR}{wr wx wy:A3}{D D':Nat->Bool}{rx ry:Nat->AR}
end
end Pm
end
section
open Go.RowKit
namespace Pm
open Pl (dec dch inR Ptr Tree Root hole ptrHole ptrOk)
theorem imIn(n a b:Int)(w:A3):A6 A1 74 #[.int .i64 n,.int .i64 a,.int .i64 b] w fun e w'=>e= .returned (.bool (inR n a b))/\w=w':=by
 by_cases h1:a<=n
 ·by_cases h2:n<=b
  ·have hf:=hid (show inR n a b=true by grind [inR])
   go_enter AS,AN
   go_wp2
   go_ret
   exact⟨Qd1 hf.out.symm,rfl⟩
  ·have hf:=hid (show inR n a b=false by simp[inR,h2])
   have h3:b<n:=by omega
   clear h2
   go_enter AS,AN
   go_wp2
   go_ret
   exact⟨Qd1 (by rw[hf.out,decide_eq_false (by omega)]),rfl⟩
 ·have hf:=hid (show inR n a b=false by simp[inR,h1])
  have h3:n<a:=by omega
  clear h1
  go_enter AS,AN
  go_wp2
  go_ret
  exact⟨Qd1 hf.out.symm,rfl⟩
def QiM(p:Ptr)(w:A3):A6 A1 78 #[vptr p] w fun e w'=>e= .returned (.bool (ptrHole p))/\A4 w.heap.size w w':=by
 obtain⟨pat,birth,size,sum,level⟩:=p;unfold vptr;dsimp only
 go_enter Tryz.func78,Tryz.ntmps78
 go_wp2
 all_goals(go_ret;exact⟨Qd1 (by simp[ptrHole,hole, *]),bnew _ _⟩)
def imRow(n:Int)(w:A3):A6 A1 134 #[.int .i64 n] w fun e w'=>e= .returned (.bool (inR n 8 63))/\w=w':=by
 go_enter Tryz.func134,Tryz.ntmps134
 go_wp2_with (go_at_call 74;refine(imIn n 8 63 w).mono ?_;rintro e w' ⟨rfl,rfl⟩)
 go_ret
 exact⟨rfl,rfl⟩
def imPtrOk(p:Ptr)(w:A3):A6 A1 77 #[vptr p] w fun e w'=>e= .returned (.bool (ptrOk p))/\A4 w.heap.size w w':=by
 have Hp:=hid (QiM p);obtain⟨pat,birth,size,sum,level⟩:=p;unfold vptr at*;dsimp only at*;generalize hq:ptrHole ⟨pat,birth,size,sum,level⟩=q;have Hq:=hid hq;rw[hq] at Hp;clear hq;cases q
 ·have Hd:AK (ptrOk ⟨pat,birth,size,sum,level⟩=(inR pat 8 63&&inR birth 1 900&&inR size 1 128&&inR sum 0 99460728&&inR level 0 2)):=hid (by unfold ptrOk;rw[Hq.out];rfl)
  generalize hq0:inR pat 8 63=q0 at Hd;have H1:=hid hq0;clear hq0;generalize hq1:inR birth 1 900=q1 at Hd;have H2:=hid hq1;clear hq1;generalize hq2:inR size 1 128=q2 at Hd;have H3:=hid hq2;clear hq2;generalize hq3:inR sum 0 99460728=q3 at Hd;have H4:=hid hq3;clear hq3;generalize hq4:inR level 0 2=q4 at Hd;have H5:=hid hq4;clear hq4;cases q0
  ·have Hr:AK (ptrOk ⟨pat,birth,size,sum,level⟩=false):=hid (by rw[Hd.out];simp)
   go_enter AA,A5
   go_wp2_with (first|(go_at_call 78;refine(Hp.out _).mono ?_;rintro e w1 ⟨rfl,hb1⟩;have c0:=Qdn hb1 0 _ rfl;have c1:=Qdn hb1 1 _ rfl;have c2:=Qdn hb1 2 _ rfl;have c3:=Qdn hb1 3 _ rfl;have c4:=Qdn hb1 4 _ rfl;have Hb1:=hid hb1;clear hb1)|(go_at_call 134;refine(imRow pat _).mono ?_;rintro e w' ⟨rfl,rfl⟩;rw[H1.out]))
   go_ret
   exact⟨Qd1 Hr.out.symm,btr (bnew _ _) Hb1.out⟩
  ·cases q1
   ·have Hr:AK (ptrOk ⟨pat,birth,size,sum,level⟩=false):=hid (by rw[Hd.out];simp)
    go_enter AA,A5
    go_wp2_with (first|(go_at_call 78;refine(Hp.out _).mono ?_;rintro e w1 ⟨rfl,hb1⟩;have c0:=Qdn hb1 0 _ rfl;have c1:=Qdn hb1 1 _ rfl;have c2:=Qdn hb1 2 _ rfl;have c3:=Qdn hb1 3 _ rfl;have c4:=Qdn hb1 4 _ rfl;have Hb1:=hid hb1;clear hb1)|(go_at_call 134;refine(imRow pat _).mono ?_;rintro e w' ⟨rfl,rfl⟩;rw[H1.out])|(go_at_call 74;refine(imIn _ _ _ _).mono ?_;rintro e w' ⟨rfl,rfl⟩;first|rw[H2.out]))
    go_ret
    exact⟨Qd1 Hr.out.symm,btr (bnew _ _) Hb1.out⟩
   ·cases q2
    ·have Hr:AK (ptrOk ⟨pat,birth,size,sum,level⟩=false):=hid (by rw[Hd.out];simp)
     go_enter AA,A5
     go_wp2_with (first|(go_at_call 78;refine(Hp.out _).mono ?_;rintro e w1 ⟨rfl,hb1⟩;have c0:=Qdn hb1 0 _ rfl;have c1:=Qdn hb1 1 _ rfl;have c2:=Qdn hb1 2 _ rfl;have c3:=Qdn hb1 3 _ rfl;have c4:=Qdn hb1 4 _ rfl;have Hb1:=hid hb1;clear hb1)|(go_at_call 134;refine(imRow pat _).mono ?_;rintro e w' ⟨rfl,rfl⟩;rw[H1.out])|(go_at_call 74;refine(imIn _ _ _ _).mono ?_;rintro e w' ⟨rfl,rfl⟩;first|rw[H2.out]|rw[H3.out]))
     go_ret
     exact⟨Qd1 Hr.out.symm,btr (bnew _ _) Hb1.out⟩
    ·cases q3
     ·have Hr:AK (ptrOk ⟨pat,birth,size,sum,level⟩=false):=hid (by rw[Hd.out];simp)
      go_enter AA,A5
      go_wp2_with (first|(go_at_call 78;refine(Hp.out _).mono ?_;rintro e w1 ⟨rfl,hb1⟩;have c0:=Qdn hb1 0 _ rfl;have c1:=Qdn hb1 1 _ rfl;have c2:=Qdn hb1 2 _ rfl;have c3:=Qdn hb1 3 _ rfl;have c4:=Qdn hb1 4 _ rfl;have Hb1:=hid hb1;clear hb1)|(go_at_call 134;refine(imRow pat _).mono ?_;rintro e w' ⟨rfl,rfl⟩;rw[H1.out])|(go_at_call 74;refine(imIn _ _ _ _).mono ?_;rintro e w' ⟨rfl,rfl⟩;first|rw[H2.out]|rw[H3.out]|rw[H4.out]))
      go_ret
      exact⟨Qd1 Hr.out.symm,btr (bnew _ _) Hb1.out⟩
     ·cases q4
      ·have Hr:AK (ptrOk ⟨pat,birth,size,sum,level⟩=false):=hid (by rw[Hd.out];simp)
       go_enter AA,A5
       go_wp2_with (first|(go_at_call 78;refine(Hp.out _).mono ?_;rintro e w1 ⟨rfl,hb1⟩;have c0:=Qdn hb1 0 _ rfl;have c1:=Qdn hb1 1 _ rfl;have c2:=Qdn hb1 2 _ rfl;have c3:=Qdn hb1 3 _ rfl;have c4:=Qdn hb1 4 _ rfl;have Hb1:=hid hb1;clear hb1)|(go_at_call 134;refine(imRow pat _).mono ?_;rintro e w' ⟨rfl,rfl⟩;rw[H1.out])|(go_at_call 74;refine(imIn _ _ _ _).mono ?_;rintro e w' ⟨rfl,rfl⟩;first|rw[H2.out]|rw[H3.out]|rw[H4.out]|rw[H5.out]))
       go_ret
       exact⟨Qd1 Hr.out.symm,btr (bnew _ _) Hb1.out⟩
      ·have Hr:AK (ptrOk ⟨pat,birth,size,sum,level⟩=true):=hid (by rw[Hd.out];simp)
       go_enter AA,A5
       go_wp2_with (first|(go_at_call 78;refine(Hp.out _).mono ?_;rintro e w1 ⟨rfl,hb1⟩;have c0:=Qdn hb1 0 _ rfl;have c1:=Qdn hb1 1 _ rfl;have c2:=Qdn hb1 2 _ rfl;have c3:=Qdn hb1 3 _ rfl;have c4:=Qdn hb1 4 _ rfl;have Hb1:=hid hb1;clear hb1)|(go_at_call 134;refine(imRow pat _).mono ?_;rintro e w' ⟨rfl,rfl⟩;rw[H1.out])|(go_at_call 74;refine(imIn _ _ _ _).mono ?_;rintro e w' ⟨rfl,rfl⟩;first|rw[H2.out]|rw[H3.out]|rw[H4.out]|rw[H5.out]))
       go_ret
       exact⟨Qd1 Hr.out.symm,btr (bnew _ _) Hb1.out⟩
 ·go_enter AA,A5
  go_wp2_with (go_at_call 78;refine(Hp.out _).mono ?_;rintro e w1 ⟨rfl,hb1⟩)
  go_ret
  exact⟨Qd1 (by unfold ptrOk;rw[Hq.out];rfl),btr (bnew _ _) hb1⟩
theorem imSumOf(s:Str)(w:A3)(hs:s.length<=big):
 A6 A1 152 #[.string ⟨s.toArray⟩] w fun e w'=>e= .returned (.int .i64 ((Pl.sumOf s:Nat):Int))/\w=w':=by
 unfold big at hs
 go_enter Tryz.func152,Tryz.ntmps152
 go_wp2
 go_loop [3,4,8] (fun av bv iv=> ∃k a b:Nat,k<=s.length/\iv= .int .i64 k/\av= .int .i64 a/\bv= .int .i64 b/\AK ((a,b)=Pl.sum2 (s.take k))/\a<9973/\b<9973) (fun _ _ iv=>s.length -(intOf iv).toNat)
 case atStart=>exact⟨0,1,0,by omega,rfl,rfl,rfl,hid rfl,by omega,by omega⟩
 case round=>
  obtain⟨k,a,b,hk,rfl,rfl,rfl,Hp,ha,hb⟩:=hrel
  by_cases hlt:k<s.length
  ·have hstep:AK (Pl.sum2 (s.take (k+1))=Pl.sumStep (a,b) s[k]):=hid (by rw[A2 hlt,Pl.Qlk,<-Hp.out])
   have hltI:(k:Int)<s.length:=by omega
   obtain⟨c,hc,hc256,hck⟩:=Qsl s k hlt;rw[<-hc] at hstep;have Hc:=hid hc;clear hc
   go_wp2
   go_round
   case rel=>
    refine⟨k+1,(a+c.toNat+1)%9973,(b+(a+c.toNat+1)%9973)%9973,by omega,by go_num,?_,?_,hid (by rw[hstep.out];rfl),Ac _ (by omega),Ac _ (by omega)⟩
    ·go_num
    ·go_num
   case measure=>simp[intOf];omega
  ·have hk':k=s.length:=by omega
   subst hk';rw[AP] at Hp;have hf:AK (Pl.sumOf s=a*9973+b):=hid (by unfold Pl.sumOf;rw[<-Hp.out])
   go_wp2
   go_ret
   exact⟨Qq2 (by rw[hf.out];omega),rfl⟩
end Pm
end
section
open Go.RowKit
namespace Pl
def Qtv(n:Nat):Lib.itoa (n:Int)=dec n:=by
 unfold Lib.itoa;rw[if_neg (by omega)];rfl
end Pl
namespace Pm
open Pl (dec dch inR)
theorem below_grow(w:A3)(k:Nat)(os:Array Obj):A4 w.heap.size w (Sort.grow (w.drewN k) os):=
 ⟨rfl,rfl,rfl,by simp_all,fun i hi=>by
   show(w.heap++os)[i]? =w.heap[i]?
   grind⟩
theorem atoiOk(s:Str)(v:Int)(w:A3)(hs:s.length<=9)(h:AD s= .ok v):
 A6 A1 198 #[.string ⟨s.toArray⟩] w fun e w'=>e= .returned (.tuple #[.int .i64 v,.nilIface])/\A4 w.heap.size w w':=
 (Tryz.strconv_Atoi_ok ⟨s.toArray⟩ (by show s.toArray.size<=_;grind) v (by omega) w).mono fun e w' ⟨he,hw⟩=>⟨he,by
   grind [AC,Lib.bytesWorld_below]⟩
theorem atoiBad(s:Str)(w:A3)(hs:s.length<=9)(hL:Lt w)(h: ∀v,AD s≠ .ok v):
 A6 A1 198 #[.string ⟨s.toArray⟩] w fun e w'=> ∃n M,e= .returned (.tuple #[.int .i64 n,.iface 289 (.pointer (some ⟨M,0,none⟩))])/\A4 w.heap.size w w':=by
 have hz:(⟨s.toArray⟩:ByteArray).size<=281474976710656:=by show s.toArray.size<=_;grind
 cases he:AD s
 case ok v=>grind
 case range=>
  obtain⟨t,p,hv⟩:=hL.ran;exact(Tryz.strconv_Atoi_range ⟨s.toArray⟩ hz (by omega) _ w hv (.inr ⟨t,p,rfl⟩)).mono fun e w' ⟨M,h1,_,_,h2⟩=>⟨_,M,h1,h2⟩
 obtain⟨t,p,hv⟩:=hL.syn;exact(Tryz.strconv_Atoi_syntax ⟨s.toArray⟩ hz (by rw[show(⟨s.toArray⟩:ByteArray).data.toList=s by simp];exact he) _ w hv (.inr ⟨t,p,rfl⟩)).mono fun e w' ⟨M,h1,_,_,h2⟩=>⟨0,M,h1,h2⟩
def itoaAt(n:Nat)(w:A3)(hn:n<=9223372036854775807)(hL:Lt w):
 A6 A1 240 #[.int .i64 n] w fun e w'=>e= .returned (.string ⟨(dec n).toArray⟩)/\A4 w.heap.size w w':=
 (Tryz.strconv_Itoa n (by omega) (by omega) w hL.tab).mono fun e w' ⟨he,k,os,hw⟩=>⟨by rw[he,Pl.Qtv],hw▸below_grow w k os⟩
def Qk2(n:Int)(w:A3)(hL:Lt w):
 A6 A1 199 #[.int .i64 n] w fun e w'=>e= .returned (.string ⟨(Pl.numPut n).toArray⟩)/\A4 w.heap.size w w':=by
 have HL:=hid hL;clear hL;generalize hq:inR n 0 999999999=q;have Hq:=hid hq;clear hq;cases q
 ·have Hr:AK (Pl.numPut n=[]):=hid (by have:=Hq.out;simp[inR] at this;unfold Pl.numPut;rw[if_neg (by omega)])
  go_enter AZ,AU
  go_wp2_with (go_at_call 74;refine(imIn n 0 999999999 _).mono ?_;rintro e w' ⟨rfl,rfl⟩;rw[Hq.out])
  go_ret
  exact⟨by rw[Hr.out];rfl,AC _ _⟩
 ·have hk:=Hq.out
  simp[inR] at hk;obtain⟨k,rfl⟩:=Int.eq_ofNat_of_zero_le hk.1;have Hk:=hid hk;have Hr:AK (Pl.numPut (k:Int)=dec k):=hid (by unfold Pl.numPut;rw[if_pos (by omega)];simp);clear hk
  go_enter AZ,AU
  go_wp2_with (first|(go_at_call 74;refine(imIn k 0 999999999 _).mono ?_;rintro e w' ⟨rfl,rfl⟩;rw[Hq.out])|(go_at_call 240;refine(itoaAt k _ (by have:=Hk.out;omega) HL.out).mono ?_;rintro e w1 ⟨rfl,hb1⟩))
  go_ret
  exact⟨by rw[Hr.out];rfl,hb1⟩
theorem Qoa(s:Str)(w:A3)(hs:s.length<=big)(hL:Lt w):
 A6 A1 137 #[.string ⟨s.toArray⟩] w fun e w'=>e= .returned (optNat (Pl.numGet s))/\A4 w.heap.size w w':=by
 unfold big at hs;have HL:=hid hL;clear hL
 by_cases h9:s.length<=9
 ·have h9': ¬(9:Int)<s.length:=by omega
  cases he:AD s with
  |ok v=>
   have Hg:=hid (Pl.QqP he);have Hc:=hid (fun w=>atoiOk s v w h9 he);have Hp:=hid (fun w (h:Lt w)=>Qk2 v w h);have Hv:=hid (fun h=>Pl.Qj7 (v:=v) (s:=s) h (by rintro rfl;cases he));generalize hq:Pl.numPut v=t at Hg Hp Hv;clear he h9 hq
   by_cases hts:t=s
   ·subst hts
    have Hr:AK (Pl.numGet t=some v.toNat/\((v.toNat:Nat):Int)=v):=hid ⟨by rw[Hg.out,if_pos rfl],by have:=(Hv.out rfl).1;omega⟩
    go_enter AG,AE
    go_wp2_with (first|(go_at_call 198;refine(Hc.out _).mono ?_;rintro e w1 ⟨rfl,hb1⟩;have Hb1:=hid hb1;clear hb1)|(go_at_call 199;refine(Hp.out _ (HL.out.below Hb1.out)).mono ?_;rintro e w2 ⟨rfl,hb2⟩;have Hb2:=hid (btr Hb1.out hb2);clear hb2))
    go_ret2
    exact⟨by rw[Hr.out.1];show _=Ending.returned (.tuple #[.int .i64 ((v.toNat:Nat):Int),.bool true]);rw[Hr.out.2];rfl,Hb2.out⟩
   ·have hts2:(t==s)=false:=by rw[beq_eq_false_iff_ne];exact hts
    have hts3: ¬s=t:=fun e=>hts e.symm
    have Hr:AK (Pl.numGet s=none):=hid (by rw[Hg.out,if_neg hts])
    go_enter AG,AE
    go_wp2_with (first|(go_at_call 198;refine(Hc.out _).mono ?_;rintro e w1 ⟨rfl,hb1⟩;have Hb1:=hid hb1;clear hb1)|(go_at_call 199;refine(Hp.out _ (HL.out.below Hb1.out)).mono ?_;rintro e w2 ⟨rfl,hb2⟩;have Hb2:=hid (btr Hb1.out hb2);clear hb2))
    go_ret2
    exact⟨by rw[Hr.out];rfl,Hb2.out⟩
  |_=>
   have hbad: ∀v,AD s≠ .ok v:=fun v e=>by rw[he] at e;cases e
   have Hr:=hid (Pl.Qpe hbad);have Hc:=hid (fun w h=>atoiBad s w h9 h hbad);clear he h9 hbad
   go_enter AG,AE
   go_wp2_with (go_at_call 198;refine(Hc.out _ HL.out).mono ?_;rintro e w1 ⟨n,M,rfl,hb1⟩)
   go_ret2
   exact⟨by rw[Hr.out];rfl,hb1⟩
 ·have h9':(9:Int)<s.length:=by omega
  have Hr:=hid (Pl.Qm8 (s:=s) (by omega))
  go_enter AG,AE
  go_wp2
  go_ret2
  exact⟨by rw[Hr.out];rfl,AC _ _⟩
end Pm
end
section
open Go.RowKit
namespace Pm
open Pl (dec dch inR)
variable{w w':A3}{bs:List AR}{B b:Nat}{T:AT}
def Qo1{e:AT}{p:AR}(h:AW T e B b p bs w)(hb:A4 w.heap.size w w'):AW T e B b p bs w':=by
 have hlt:=h.lt;obtain⟨h1,v,h2,h3,h4⟩:=h;exact⟨h1,v,(hb.block b hlt).trans h2,Qj6 h3 hb,h4⟩
def Qt3{e:AT}(h:AF T e B b bs w)(hb:A4 w.heap.size w w'):AF T e B b bs w':=by
 rcases h with h|h
 ·exact .inl (Qo1 h hb)
 ·exact .inr (Qo1 h hb)
def ib_new(w:A3)(T e:AT):AF T e w.heap.size w.heap.size (AL []) (w.alloc (.cells #[.pointer none,.slice none 0 0] T)):=
 .inl ⟨A0 _,_,heap_alloc_new w _,⟨rfl,.inl ⟨rfl,rfl⟩⟩,by simp[Value.ownBlock]⟩
def Qsj(s:Str):Lib.strCells ⟨s.toArray⟩=AL s:=by rw[Lib.strCells_eq]
theorem Qjg(s:Str):(⟨s.toArray⟩:ByteArray).size=s.length:=by show s.toArray.size=_;simp
def Bld(B:Nat)(s:Str)(w:A3):Prop:=AF 98 5 B B (AL s) w/\B<w.heap.size
def Bld.below{s:Str}(h:Bld B s w)(hb:A4 w.heap.size w w'):Bld B s w':=⟨Qt3 h.1 hb,A8 h.2 hb.size⟩
def bldNew(w:A3):Bld w.heap.size [] (w.alloc (.cells #[.pointer none,.slice none 0 0] 98)):=⟨ib_new w _ _,by simp⟩
theorem bldStr{s:Str}(h:Bld B s w)(t:Str)(hlen:s.length+t.length<=140737488355328):
 A6 A1 44 #[.pointer (some ⟨B,0,none⟩),.string ⟨t.toArray⟩] w fun e w'=>e= .returned (.tuple #[.int .i64 t.length,.nilIface])/\Bld B (s++t) w'/\A4 B w w':=
 (Tryz.Builder_WriteString B B _ ⟨t.toArray⟩ w h.1 (by grind [AB,Qjg]) (AO h.2)).mono fun e w' ⟨he,h1,h2⟩=>
   ⟨by rw[he,Qjg],⟨by rw[AJ,<-Qsj t];exact .inr h1,A8 h.2 h2.size⟩,h2⟩
theorem bldByte{s:Str}(h:Bld B s w)(c:UInt8)(hlen:s.length+1<=140737488355328):
 A6 A1 271 #[.pointer (some ⟨B,0,none⟩),.int .u8 c.toNat] w fun e w'=>e= .returned .nilIface/\Bld B (s++[c]) w'/\A4 B w w':=
 (Tryz.Builder_WriteByte B B _ c.toNat w h.1 (by grind [AB]) (AO h.2)).mono fun e w' ⟨he,h1,h2⟩=>
   ⟨he,⟨by rw[AJ];exact .inr h1,A8 h.2 h2.size⟩,h2⟩
def bldLen{s:Str}(h:Bld B s w):
 A6 A1 156 #[.pointer (some ⟨B,0,none⟩)] w fun e w'=>e= .returned (.int .i64 s.length)/\w=w':=
 (Tryz.Builder_Len B B _ w h.1).mono fun e w' ⟨he,h1⟩=>⟨by rw[he,AB],h1.symm⟩
def bldText{s:Str}(h:Bld B s w):
 A6 A1 45 #[.pointer (some ⟨B,0,none⟩)] w fun e w'=>e= .returned (.string ⟨s.toArray⟩)/\A4 B w w':=
 Tryz.Builder_String_any B B s w h.1 (AO h.2)
theorem QmV(A:Option Addr)(l:List Str)(c:Nat)(w:A3)(hl:l.length<=big)(h:At w w.heap.size A l)(hx: ∀x∈l,x.length<=4294967296)(hL:Lt w):
 A6 A1 234 #[.slice A l.length c] w fun e w'=>e= .returned (optStr (Pl.Qdi l))/\A4 w.heap.size w w':=by
 unfold big at hl;have HL:=hid hL;have Hat:=hid h;have Hx:=hid hx;clear hL h hx
 by_cases h60:l.length<=60
 ·have hA: ¬(60:Int)<l.length:=by omega
  go_enter Aa,AX
  go_wp2
  go_loopw [12] (fun iv wr=> ∃(k:Nat),k<=l.length/\iv= .int .i64 k/\AK (Bld w.heap.size (Pl.enc (l.take k)) wr)/\AK ((Pl.enc (l.take k)).length<=2048)/\AK (A4 w.heap.size w wr)) (fun iv _=>l.length -(intOf iv).toNat)
  case atStart=>exact⟨0,by omega,rfl,hid (bldNew w),hid (by simp[Pl.enc]),hid (bnew _ _)⟩
  case round=>
   obtain⟨k,hk,rfl,HB,Hlen,Hbel⟩:=hrel
   by_cases hlt:k<l.length
   ·have hltI:(k:Int)<l.length:=by omega
    obtain⟨b,off,cs,rfl,hb,hc,hv⟩:=(Hat.out.up Hbel.out).elem hlt;obtain⟨x,He⟩: ∃x,AK (x=l[k]):=⟨l[k],hid rfl⟩;rw[<-He.out] at hc;obtain⟨rfl,hs⟩:=Qlm hc;have e0:=hv 0 _ rfl;simp only[Rep.size,Nat.add_zero,Nat.mul_one,vstr] at e0;have hxl:x.length<=4294967296:=by rw[He.out];exact Hx.out _ (AQ hlt)
    have Hdl:=hid (Pl.Qdc 9 x.length (by omega));have Hfin:=hid (Pl.QkF l k hlt);rw[<-He.out] at Hfin;clear hv hc hs hb;generalize Pl.enc (l.take k)=out at HB Hlen Hfin
    go_wp2_with fail
    refine(itoaAt x.length _ (by omega) (HL.out.below Hbel.out)).mono ?_;rintro e w1 ⟨rfl,hb1⟩;have HB1:=hid (HB.out.below hb1);have Hbel1:=hid (btr Hbel.out hb1);clear hb1 e0
    go_wp2_with fail
    refine(bldStr HB1.out _ (by have:=Hlen.out;have:=Hdl.out;omega)).mono ?_;rintro e w2 ⟨rfl,hB2,hb2⟩;have HB2:=hid hB2;have Hbel2:=hid (Hbel1.out.trans hb2);clear hB2 hb2
    go_wp2_with fail
    refine(bldByte HB2.out 58 (by have:=Hlen.out;have:=Hdl.out;simp only[A9];omega)).mono ?_;rintro e w3 ⟨rfl,hB3,hb3⟩;have HB3:=hid hB3;have Hbel3:=hid (Hbel2.out.trans hb3);clear hB3 hb3
    go_wp2_with fail
    refine(bldStr HB3.out x (by have:=Hlen.out;have:=Hdl.out;simp only[A9,AI];omega)).mono ?_;rintro e w4 ⟨rfl,hB4,hb4⟩;have heq:out++dec x.length++[58]++x=out++Pl.item x:=by simp[Pl.item]
    rw[heq,<-Hfin.out] at hB4;have HB4:=hid hB4;have Hbel4:=hid (Hbel3.out.trans hb4);clear hB4 hb4 heq Hfin
    by_cases hlong:2048<(Pl.enc (l.take (k+1))).length
    ·have hf:=hid (Pl.QeV hlong)
     have hlong':(2048:Int)<(Pl.enc (l.take (k+1))).length:=by omega
     generalize Pl.enc (l.take (k+1))=o2 at*
     go_wp2_with (go_at_call 156;refine(bldLen HB4.out).mono ?_;rintro e w5 ⟨rfl,rfl⟩)
     go_ret2
     exact⟨by rw[hf.out];rfl,Hbel4.out⟩
    ·have hlong': ¬(2048:Int)<(Pl.enc (l.take (k+1))).length:=by omega
     have Hshort:=hid (Nat.le_of_not_lt hlong);clear hlong;generalize ho2:Pl.enc (l.take (k+1))=o2 at HB4 hlong' Hshort;have Ho2:=hid ho2;clear ho2
     go_wp2_with (go_at_call 156;refine(bldLen HB4.out).mono ?_;rintro e w5 ⟨rfl,rfl⟩)
     go_roundw
     case rel=>exact⟨k+1,by omega,by go_num,hid (by rw[Ho2.out];exact HB4.out),hid (by rw[Ho2.out];exact Hshort.out),Hbel4⟩
     case measure=>simp only[intOf];omega
   ·have hk':k=l.length:=by omega
    subst hk';rw[AP] at HB Hlen;have hf:=hid (Pl.QhS h60 Hlen.out)
    go_wp2_with (go_at_call 45;refine(bldText HB.out).mono ?_;rintro e w5 ⟨rfl,hb5⟩)
    go_ret2
    exact⟨by rw[hf.out];rfl,Hbel.out.trans hb5⟩
 ·have hA:(60:Int)<l.length:=by omega
  have hf:=hid (Pl.Qgw (l:=l) (by omega))
  go_enter Aa,AX
  go_wp2
  go_ret2
  exact⟨by rw[hf.out];rfl,AC _ _⟩
def QgI(w:A3)(n:Nat):A4 w.heap.size w (w.drewN n):=⟨rfl,rfl,rfl,A0 _,fun _ _=>rfl⟩
def cutHit(a r:Str)(h:(58:UInt8)∉a)(w:A3)(hs:(a++58::r).length<=4294967280)(hL:Lt w):
 A6 A1 136 #[.string ⟨(a++58::r).toArray⟩,.string ⟨#[58]⟩] w fun e w'=>e= .returned (.tuple #[.string ⟨a.toArray⟩,.string ⟨r.toArray⟩,.bool true])/\A4 w.heap.size w w':=by
 obtain⟨m,hm⟩:=hL.maxl;refine(Tryz.strings_Cut ⟨(a++58::r).toArray⟩ ⟨#[58]⟩ m w (by rw[Qjg];omega) hm).mono fun e w' ⟨he,n,hw⟩=>⟨?_,hw▸QgI w n⟩
 have hc:Lib.cut (⟨(a++58::r).toArray⟩:ByteArray).data.toList (⟨#[58]⟩:ByteArray).data.toList=(a,r,true):=by
  have:=Pl.Qh6 (r:=r) h;simpa using this
 rw[he,hc]
def cutMiss(a:Str)(h:(58:UInt8)∉a)(w:A3)(hs:a.length<=4294967280)(hL:Lt w):
 A6 A1 136 #[.string ⟨a.toArray⟩,.string ⟨#[58]⟩] w fun e w'=>e= .returned (.tuple #[.string ⟨a.toArray⟩,.string ⟨#[]⟩,.bool false])/\A4 w.heap.size w w':=by
 obtain⟨m,hm⟩:=hL.maxl;refine(Tryz.strings_Cut ⟨a.toArray⟩ ⟨#[58]⟩ m w (by rw[Qjg];omega) hm).mono fun e w' ⟨he,n,hw⟩=>⟨?_,hw▸QgI w n⟩
 have hc:Lib.cut (⟨a.toArray⟩:ByteArray).data.toList (⟨#[58]⟩:ByteArray).data.toList=(a,[],false):=by
  have:=Pl.Qif h;simpa using this
 rw[he,hc]
def imClone(s:Str)(w:A3)(hs:s.length<=big):
 A6 A1 138 #[.string ⟨s.toArray⟩] w fun e w'=>e= .returned (.string ⟨s.toArray⟩)/\A4 w.heap.size w w':=by
 have Hc:=hid (fun w=>Tryz.stringslite_Clone ⟨s.toArray⟩ w (by rw[Qjg];unfold big at hs;omega))
 go_enter Tryz.func138,Tryz.ntmps138
 go_wp2_with (go_at_call 200;refine(Hc.out _).mono ?_;rintro e w1 ⟨rfl,hb1⟩)
 go_ret
 exact⟨rfl,hb1⟩
def Qtd{base:Nat}{e:AT}{size:Nat}:w.ownsRow base e size (.slice none 0 0) 0 []:=⟨by simp,.inl ⟨rfl,rfl⟩⟩
end Pm
end
section
open Go.RowKit
namespace Pm
open Pl (dec dch inR Ptr hole ptrHole ptrOk)
variable{k:Nat}{p:Ptr}{ns:List Nat}
def imParts(b:Nat)(w:A3):
 A6 A1 246 #[.pointer (some ⟨b,0,none⟩)] w fun e w'=> ∃g,e= .returned (.slice (some ⟨g,0,none⟩) 5 5)/\Row w' g #[.pointer (some ⟨b,0,none⟩),.pointer (some ⟨b,1,none⟩),.pointer (some ⟨b,2,none⟩),.pointer (some ⟨b,3,none⟩),.pointer (some ⟨b,4,none⟩)]/\w.heap.size<=g/\A4 w.heap.size w w':=by
 go_enter Tryz.func246,Tryz.ntmps246
 go_wp2
 go_still_tail 15,(by kernel_rfl)
 change wpList _ _ _ _ _ w.drew
 go_wp2
 go_ret
 exact⟨_,rfl,Row.new _ _ _,by simp,bal (bdr (AC _ _)) _⟩
theorem imJoin(A:Option Addr)(l:List Str)(c:Nat)(w:A3)(h:At w w.heap.size A l)(hl:0<l.length)(hn:l.length<=140737488355328)(hcap:l.length<=c)(hlen:(Pl.dots l).length<=140737488355328):
 A6 A1 208 #[.slice A l.length c,.string ⟨#[46]⟩] w fun e w'=>e= .returned (.string ⟨(Pl.dots l).toArray⟩)/\A4 w.heap.size w w':=by
 obtain⟨b,off,rfl,hb,hc⟩:=Quc h hl;have hj:=Pl.Qrn l
 have k:=Tryz.strings_Join b off c (l.map Pl.ba) (Pl.ba [46]) w (fun j x hx=>hc j _ (by
  rw[List.getElem?_map] at hx⊢;cases hy:l[j]? with
  |none=>grind
  |some y=>rw[hy] at hx;simp only[Option.map_some,Ad] at hx⊢;rw[<-hx];rfl)) hb (by grind) (by grind) (by grind)
 rw[hj,List.length_map] at k;exact k
def QjR{b:Nat}(hk:k<5):(#[.pointer (some ⟨b,0,none⟩),.pointer (some ⟨b,1,none⟩),.pointer (some ⟨b,2,none⟩),.pointer (some ⟨b,3,none⟩),.pointer (some ⟨b,4,none⟩)]:Array AR)[k]? =some (.pointer (some ⟨b,k,none⟩)):=by
 match k,hk with
 |0,_=>rfl
 |1,_=>rfl
 |2,_=>rfl
 |3,_=>rfl
 |4,_=>rfl
def ptrNums(p:Ptr):List Int:=[p.pat,p.birth,p.size,p.sum,p.level]
def Qp9(hk:k<5):(#[.int .i64 p.pat,.int .i64 p.birth,.int .i64 p.size,.int .i64 p.sum,.int .i64 p.level]:Array AR)[k]? =some (.int .i64 ((ptrNums p).getD k 0)):=by
 match k,hk with
 |0,_=>rfl
 |1,_=>rfl
 |2,_=>rfl
 |3,_=>rfl
 |4,_=>rfl
def QdG(p:Ptr):List Str:=(ptrNums p).map Pl.numPut
theorem texts_len(p:Ptr):(QdG p).length=5:=rfl
theorem texts_get(hk:k<5):(QdG p)[k]'(by grind [texts_len])=Pl.numPut ((ptrNums p).getD k 0):=by
 match k,hk with
 |0,_=>rfl
 |1,_=>rfl
 |2,_=>rfl
 |3,_=>rfl
 |4,_=>rfl
def texts_le(p:Ptr): ∀x∈QdG p,x.length<=9:=by
 intro x hx;obtain⟨n,_,rfl⟩:=List.mem_map.1 hx;exact Qpd n
theorem QrR: ∀(l:List Str) (m:Nat),(∀x∈l,x.length<=m)->(Pl.dots l).length<=l.length*(m+1)
 |[],m,_=>by simp[Pl.dots]
 |[x],m,h=>by have:=h x AM;simp[Pl.dots];omega
 |x::y::l,m,h=>by
  have ih:=QrR (y::l) m fun z hz=>h z (List.mem_cons_of_mem _ hz)
  have:=h x AM;have e:Pl.dots (x::y::l)=x++46::Pl.dots (y::l):=by simp[Pl.dots]
  grind [Nat.succ_mul]
theorem text_ok(h1:ptrOk p=true)(h2:ptrHole p=false):Pl.ptrPut p=Pl.dots (QdG p):=by grind [Pl.QdA,Pl.ptrPut,Pl.ptrText,QdG,ptrNums,Pl.nine]
theorem QnZ(p:Ptr)(w:A3)(hL:Lt w):A6 A1 247 #[vptr p] w fun e w'=>e= .returned (.string ⟨(Pl.ptrPut p).toArray⟩)/\A4 w.heap.size w w':=by
 have HL:=hid hL;have Hok:=hid (imPtrOk p);have Hho:=hid (QiM p);have R0:=hid (Row.new w #[.int .i64 p.pat,.int .i64 p.birth,.int .i64 p.size,.int .i64 p.sum,.int .i64 p.level] 31);have Hb0:=hid (bnew w (.cells #[.int .i64 p.pat,.int .i64 p.birth,.int .i64 p.size,.int .i64 p.sum,.int .i64 p.level] 31));clear hL;unfold vptr at*;generalize hq1:ptrOk p=q1 at Hok;generalize hq2:ptrHole p=q2 at Hho;have Hq1:=hid hq1;have Hq2:=hid hq2;clear hq1 hq2
 go_enter Tryz.func247,Tryz.ntmps247
 go_wp2_with fail
 generalize w.alloc (.cells #[.int .i64 p.pat,.int .i64 p.birth,.int .i64 p.size,.int .i64 p.sum,.int .i64 p.level] 31)=W at*;refine(Hok.out _).mono ?_;rintro e w1 ⟨rfl,hb1⟩;have R1:=hid (R0.out.below hb1);have Hb1:=hid (btr Hb0.out hb1);clear hb1;cases q1
 ·have Hr:AK (Pl.ptrPut p=[]):=hid (by unfold Pl.ptrPut;rw[if_neg (by rw[Hq1.out];simp)])
  go_wp2
  go_ret
  exact⟨by rw[Hr.out];rfl,Hb1.out⟩
 ·have c0:=R1.out.get 0 rfl;have c1:=R1.out.get 1 rfl;have c2:=R1.out.get 2 rfl;have c3:=R1.out.get 3 rfl;have c4:=R1.out.get 4 rfl
  go_wp2_with fail
  refine(Hho.out _).mono ?_;rintro e w2 ⟨rfl,hb2⟩;have R2:=hid (R1.out.below hb2);have Hb2:=hid (btr Hb1.out hb2);clear hb2 c0 c1 c2 c3 c4;cases q2
  ·have Hr:=hid (text_ok Hq1.out Hq2.out)
   go_wp2_with fail
   refine(imParts _ _).mono ?_;rintro e w3 ⟨g,rfl,hg,hgw,hb3⟩;have R3:=hid (R2.out.below hb3);have Hb3:=hid (btr Hb2.out hb3);have G3:=hid hg;have Hgw:=hid (show w.heap.size<g from A8 R2.out.lt hgw);clear hg hgw hb3
   go_wp2
   go_loopw [3,15] (fun ov kv wr=> ∃(k:Nat),k<=5/\kv= .int .i64 k/\AK (wr.ownsRow w3.heap.size 9 1 ov ((QdG p).take k).length (((QdG p).take k).map vstr))/\AK (A4 w3.heap.size w3 wr)) (fun _ kv _=>5 -(intOf kv).toNat)
   case atStart=>exact⟨0,by omega,rfl,hid Qtd,hid (AC _ _)⟩
   case round=>
    obtain⟨k,hk,rfl,Hown,Hbel⟩:=hrel
    by_cases hlt:k<5
    ·have hltI:(k:Int)<5:=by omega
     have cp:=(G3.out.below Hbel.out).get k (QjR hlt);have cn:=(R3.out.below Hbel.out).get k (Qp9 hlt);have Ht:=hid (texts_get (p:=p) hlt);have Hstep:=hid (A2 (l:=QdG p) (i:=k) (by rw[texts_len];exact hlt));rw[Ht.out] at Hstep;have Hlen:AK (((QdG p).take k).length<=5):=hid (by rw[List.length_take,texts_len];omega);generalize (ptrNums p).getD k 0=n at*;generalize (QdG p).take k=out at Hown Hstep Hlen;have HLr:=hid (HL.out.below (btr Hb3.out Hbel.out));obtain⟨A,c,hov⟩:=Qpb Hown.out;subst hov
     go_wp2_with fail
     refine(Qk2 n _ HLr.out).mono ?_;rintro e w4 ⟨rfl,hb4⟩;have Hown4:=hid (Qj6 Hown.out hb4);have Hbel4:=hid (btr Hbel.out hb4);clear hb4 cp cn
     go_wp2_with (at_builtin;refine Qju rfl _ _ rfl w3.heap.size _ out rfl (Hown4.out.alloc _) _ _ (Pl.numPut n) rfl ?hc (by have:=Hlen.out;omega) (Nat.le_trans Hbel4.out.size (by simp)) fun v' w' h1 h2 h3=>?_;case hc=>simp)
     go_roundw
     case rel=>exact⟨k+1,by omega,by go_num,hid (by rw[Hstep.out];exact h1),hid ((bal Hbel4.out _).trans h2)⟩
     case measure=>simp only[intOf];omega
    ·have hk':k=5:=by omega
     subst hk';have ht5:(QdG p).take 5=QdG p:=AH (by rw[texts_len];exact A0 _);rw[ht5] at Hown;obtain⟨A,c,hov,hat⟩:=owns_at Hown.out (fun x hx=>by have:=texts_le p x hx;unfold big;omega) (by rw[texts_len];unfold big;omega);subst hov;have Hj:=hid (imJoin A (QdG p) c wr hat (by rw[texts_len];omega) (by rw[texts_len];omega) (Qte Hown.out) (by have:=QrR (QdG p) 9 (texts_le p);rw[texts_len] at this;omega));clear hat ht5
     go_wp2_with (go_at_call 208;refine Hj.out.mono ?_;rintro e w4 ⟨rfl,hb4⟩)
     go_ret
     exact⟨by rw[Hr.out];rfl,btr (btr Hb3.out Hbel.out) hb4⟩
  ·have Hr:AK (Pl.ptrPut p=[45]):=hid (by unfold Pl.ptrPut;rw[if_pos Hq1.out,Hq2.out];rfl)
   go_wp2
   go_ret
   exact⟨by rw[Hr.out];rfl,Hb2.out⟩
theorem imSplit(s:Str)(w:A3)(hs:s.length<=4294967280)(hL:Lt w):
 A6 A1 85 #[.string ⟨s.toArray⟩,.string ⟨#[46]⟩] w fun e w'=> ∃b,e= .returned (.slice (some ⟨b,0,none⟩) (Pl.cutB 46 s).length (Pl.cutB 46 s).length)/\Row w' b ((Pl.cutB 46 s).map vstr).toArray/\w.heap.size<=b/\A4 w.heap.size w w':=by
 obtain⟨m,hm⟩:=hL.maxl;have h:=Pl.Qlp 46 s.length s (A0 _);refine(Tryz.strings_Split (Pl.ba s) (Pl.ba [46]) m w (by rw[Pl.Qh8];omega) hm (by rw[Pl.Qh8];simp)).mono fun e w' ⟨he,hw⟩=>?_
 rw[h.1,List.map_map] at hw;rw[h.2] at he;subst hw;exact⟨_,he,Row.new _ _ _,A0 _,bnew _ _⟩
def pcells(ns:List Nat):Array AR:=List.toArray (ns.map (fun(n:Nat)=>Ae .i64 (n:Int))++List.replicate (5 -ns.length) (Ae .i64 0))
theorem Qm7(h:ns.length<=5):(pcells ns).size=5:=by simp[pcells];omega
theorem QoZ(n:Nat)(h:ns.length<5):(pcells ns).setIfInBounds ns.length (.int .i64 (n:Int))=pcells (ns++[n]):=by grind [pcells]
theorem QqJ(h:ns.length<=5)(hk:k<5): ∃v,(pcells ns)[k]? =some v:=⟨_,Array.getElem?_eq_getElem (by grind [Qm7])⟩
def vstr_at{l:List Str}(hk:k<l.length):((l.map vstr).toArray)[k]? =some (.string ⟨l[k].toArray⟩):=by
 simp[hk,vstr]
theorem Qtz(s:Str)(w:A3)(hs:s.length<=4294967280)(hL:Lt w):
 A6 A1 210 #[.string ⟨s.toArray⟩] w (PtrPost s w):=by
 have HL:=hid hL;clear hL;have Z0:=hid (Row.new w #[.int .i64 0,.int .i64 0,.int .i64 0,.int .i64 0,.int .i64 0] 31);have Hb0:=hid (bnew w (.cells #[.int .i64 0,.int .i64 0,.int .i64 0,.int .i64 0,.int .i64 0] 31))
 by_cases h45:s=[45]
 ·subst h45
  go_enter Ab,AY
  go_wp2
  refine bodyPost_ret (v:= .tuple #[vptr hole,.bool true]) (by simp[results,A7,go_sem,vptr,hole]) rfl ?_;exact⟨Or.inl ⟨_,Pl.QjJ,rfl⟩,bnew _ _⟩
 ·have h45': ¬[45]=s:=fun e=>h45 e.symm
  have hse:(s==[45])=false:=by rw[beq_eq_false_iff_ne];exact h45
  have Hcut:=hid (fun wx h=>imSplit s wx hs h);have hcl:=hid (cutB_le (b:=46) (s:=s) (n:=4294967280) hs);have Hnl:=hid (Pl.QqD h45);have Hnn:=hid (fun k=>Pl.QqC (k:=k) h45);have Hsame:=hid (fun p a b c d e=>Pl.QnL (p:=p) (a:=a) (b:=b) (c:=c) (d:=d) (e:=e) h45);have Hne:AK (s=[]->(Pl.cutB 46 s).length=1):=hid (by rintro rfl;rfl);generalize Pl.cutB 46 s=l at Hcut hcl Hnl Hnn Hsame Hne;clear h45 h45';have B1:=hid (bal Hb0.out (.cells #[.int .i64 0,.int .i64 0,.int .i64 0,.int .i64 0,.int .i64 0] 31));have Z1:=hid (Z0.out.alloc (.cells #[.int .i64 0,.int .i64 0,.int .i64 0,.int .i64 0,.int .i64 0] 31));have P1:=hid (Row.new (w.alloc (.cells #[.int .i64 0,.int .i64 0,.int .i64 0,.int .i64 0,.int .i64 0] 31)) #[.int .i64 0,.int .i64 0,.int .i64 0,.int .i64 0,.int .i64 0] 31);simp only[World.size_alloc] at P1;clear Z0 Hb0
  go_enter Ab,AY
  go_wp2_with fail
  generalize (w.alloc (.cells #[.int .i64 0,.int .i64 0,.int .i64 0,.int .i64 0,.int .i64 0] 31)).alloc (.cells #[.int .i64 0,.int .i64 0,.int .i64 0,.int .i64 0,.int .i64 0] 31)=W at*;refine(Hcut.out _ (HL.out.below B1.out)).mono ?_;rintro e w2 ⟨b,rfl,hl2,hb,hb2⟩;have Z2:=hid (Z1.out.below hb2);have P2:=hid (P1.out.below hb2);have L2:=hid hl2;have B2:=hid (btr B1.out hb2);have hbW:=P1.out.lt;clear hl2 hb2
  go_wp2_with fail
  refine(imParts _ _).mono ?_;rintro e w3 ⟨g,rfl,hg3,hg,hb3⟩;have Z3:=hid (Z2.out.below hb3);have P3:=hid (P2.out.below hb3);have L3:=hid (L2.out.below hb3);have G3:=hid hg3;have B3:=hid (btr B2.out hb3);have hbl:=L2.out.lt;have hne:w.heap.size+1≠b/\w.heap.size+1≠g/\w.heap.size≠b/\w.heap.size≠g:=by omega
  have Hne':=hid hne;clear hg3 hb3 hne hb hg hbl hbW
  by_cases h5:l.length=5
  ·have hA:((l.length:Int) !=5)=false:=by rw[bne_eq_false_iff_eq];omega
   have H5:=hid h5
   go_wp2
   go_loopw [25] (fun kv wr=> ∃(ns:List Nat),ns.length<=5/\kv= .int .i64 (ns.length:Int)/\AK (l.take ns.length=ns.map dec)/\AK (Row wr w.heap.size #[.int .i64 0,.int .i64 0,.int .i64 0,.int .i64 0,.int .i64 0])/\AK (Row wr (w.heap.size+1) (pcells ns))/\AK (Row wr b (l.map vstr).toArray)/\AK (Row wr g #[.pointer (some ⟨w.heap.size+1,0,none⟩),.pointer (some ⟨w.heap.size+1,1,none⟩),.pointer (some ⟨w.heap.size+1,2,none⟩),.pointer (some ⟨w.heap.size+1,3,none⟩),.pointer (some ⟨w.heap.size+1,4,none⟩)])/\AK (A4 w.heap.size w wr)) (fun kv _=>5 -(intOf kv).toNat)
   case atStart=>exact⟨[],by simp,rfl,hid rfl,Z3,P3,L3,G3,B3⟩
   case round=>
    obtain⟨ns,hk,rfl,Hns,Z,Pr,L,G,B⟩:=hrel
    by_cases hlt:ns.length<5
    ·have hltI:(ns.length:Int)<5:=by omega
     have hll:ns.length<l.length:=by omega
     have cl:=L.out.get ns.length (vstr_at hll);have Hnum:=hid (fun w h=>Qoa l[ns.length] w (by have:=hcl.out _ (AQ hll);unfold big;omega) h);have HLr:=hid (HL.out.below B.out);have Hstep:=hid (A2 hll);obtain⟨x,Hx⟩: ∃x,AK (x=l[ns.length]):=⟨_,hid rfl⟩;rw[<-Hx.out] at cl Hnum Hstep;cases hg:Pl.numGet x with
     |none=>
      have Hf:=hid (Hnn.out ns.length hll (by rw[<-Hx.out];exact hg));rw[hg] at Hnum;clear hg
      go_wp2_with fail
      refine(Hnum.out _ HLr.out).mono ?_;rintro e w4 ⟨rfl,hb4⟩;have Z4:=hid (Z.out.below hb4);have B4:=hid (btr B.out hb4);unfold optNat;have r0:=Z4.out.get 0 rfl;have rg0:=Z4.out.free 0;have r1:=Z4.out.get 1 rfl;have rg1:=Z4.out.free 1;have r2:=Z4.out.get 2 rfl;have rg2:=Z4.out.free 2;have r3:=Z4.out.get 3 rfl;have rg3:=Z4.out.free 3;have r4:=Z4.out.get 4 rfl;have rg4:=Z4.out.free 4;clear cl hb4
      go_wp2
      refine bodyPost_ret (v:= .tuple #[vptr hole,.bool false]) (by simp[results,A7,go_sem,vptr,hole,r0,r1,r2,r3,r4]) rfl ?_;exact⟨Af ⟨Hf.out,rfl⟩,(bset (bset (bset (bset (bset B4.out (A0 _) 0 _) (A0 _) 1 _) (A0 _) 2 _) (A0 _) 3 _) (A0 _) 4 _)⟩
     |some n=>
      have Hn:=hid (Pl.QdC hg);rw[hg] at Hnum;clear hg
      go_wp2_with fail
      refine(Hnum.out _ HLr.out).mono ?_;rintro e w4 ⟨rfl,hb4⟩;have Z4:=hid (Z.out.below hb4);have B4:=hid (btr B.out hb4);have P4:=hid (Pr.out.below hb4);have G4:=hid (G.out.below hb4);have L4:=hid (L.out.below hb4);have cg:=G4.out.get ns.length (QjR hlt);obtain⟨old,hold⟩:=QqJ hk hlt;have co:=P4.out.get ns.length hold;have fo:=P4.out.free ns.length;unfold optNat;clear cl hb4 hold
      go_wp2
      go_roundw
      case rel=>
       refine⟨ns++[n],by simp;omega,by simp,hid ?_,hid (Z4.out.far (by omega) _ _),hid ?_,hid (L4.out.far (fun e=>Hne'.out.1 e.symm) _ _),hid (G4.out.far (fun e=>Hne'.out.2.1 e.symm) _ _),hid (bset B4.out (by omega) _ _)⟩
       ·rw[A9,AI,Hstep.out,Hns.out,Hn.out.1,List.map_append];rfl
       ·have:=P4.out.set ns.length (.int .i64 (n:Int))
        rw[QoZ n hlt] at this;exact this
      case measure=>simp only[intOf,A9];omega
    ·have hk5:ns.length=5:=by omega
     match ns,hk5 with
     |[a1,a2,a3,a4,a5],_=>
     have hl:l=[dec a1,dec a2,dec a3,dec a4,dec a5]:=by
      have h:=Hns.out
      rwa [AH (by rw[h5];simp)] at h
     have c0:wr.cell? ⟨w.heap.size+1,0,none⟩=some (.int .i64 (a1:Int)):=Pr.out.get 0 rfl;have c1:wr.cell? ⟨w.heap.size+1,1,none⟩=some (.int .i64 (a2:Int)):=Pr.out.get 1 rfl;have c2:wr.cell? ⟨w.heap.size+1,2,none⟩=some (.int .i64 (a3:Int)):=Pr.out.get 2 rfl;have c3:wr.cell? ⟨w.heap.size+1,3,none⟩=some (.int .i64 (a4:Int)):=Pr.out.get 3 rfl;have c4:wr.cell? ⟨w.heap.size+1,4,none⟩=some (.int .i64 (a5:Int)):=Pr.out.get 4 rfl;have Hs:=hid (fun p=>Hsame.out p a1 a2 a3 a4 a5 hl);have Hput:=hid (fun w h=>QnZ ⟨a1,a2,a3,a4,a5⟩ w h);have Hnil:AK (s≠[]):=hid (fun e=>by have:=Hne.out e;omega);have HLr:=hid (HL.out.below B.out);unfold vptr at Hput;dsimp only at Hput;simp only[List.length_cons,List.length_nil,Nat.reduceAdd];clear hl Hns hk hlt;generalize hq:Pl.ptrPut ⟨a1,a2,a3,a4,a5⟩=t at Hput;have Hq:=hid hq;clear hq
     by_cases hts:t=s
     ·subst hts
      have Hok:AK (Pl.IsPtr t ⟨a1,a2,a3,a4,a5⟩):=hid ⟨by
       cases ho:ptrOk ⟨a1,a2,a3,a4,a5⟩ with
       |true=>rfl
       |false=>
        have h:=Hq.out;unfold Pl.ptrPut at h;rw[if_neg (by rw[ho];simp)] at h
        exact absurd h.symm Hnil.out,Hq.out⟩
      go_wp2_with (go_at_call 247;refine(Hput.out _ HLr.out).mono ?_;rintro e w4 ⟨rfl,hb4⟩;have Z4:=hid (Z.out.below hb4);have B4:=hid (btr B.out hb4);have P4:=hid (Pr.out.below hb4);clear c0 c1 c2 c3 c4 hb4;have r0:=Z4.out.get 0 rfl;have rg0:=Z4.out.free 0;have r1:=Z4.out.get 1 rfl;have rg1:=Z4.out.free 1;have r2:=Z4.out.get 2 rfl;have rg2:=Z4.out.free 2;have r3:=Z4.out.get 3 rfl;have rg3:=Z4.out.free 3;have r4:=Z4.out.get 4 rfl;have rg4:=Z4.out.free 4;have d0:w4.cell? ⟨w.heap.size+1,0,none⟩=some (.int .i64 (a1:Int)):=P4.out.get 0 rfl;have d1:w4.cell? ⟨w.heap.size+1,1,none⟩=some (.int .i64 (a2:Int)):=P4.out.get 1 rfl;have d2:w4.cell? ⟨w.heap.size+1,2,none⟩=some (.int .i64 (a3:Int)):=P4.out.get 2 rfl;have d3:w4.cell? ⟨w.heap.size+1,3,none⟩=some (.int .i64 (a4:Int)):=P4.out.get 3 rfl;have d4:w4.cell? ⟨w.heap.size+1,4,none⟩=some (.int .i64 (a5:Int)):=P4.out.get 4 rfl)
      refine bodyPost_ret (v:= .tuple #[vptr ⟨a1,a2,a3,a4,a5⟩,.bool true]) (by simp[results,A7,go_sem,vptr,r0,r1,r2,r3,r4]) rfl ?_;exact⟨Or.inl ⟨_,Hok.out,rfl⟩,(bset (bset (bset (bset (bset B4.out (A0 _) 0 _) (A0 _) 1 _) (A0 _) 2 _) (A0 _) 3 _) (A0 _) 4 _)⟩
     ·have hts2:(t==s)=false:=by rw[beq_eq_false_iff_ne];exact hts
      have hts3: ¬s=t:=fun e=>hts e.symm
      have Hf:AK (∀p,¬Pl.IsPtr s p):=hid (fun p hp=>by
       have:=Hs.out p hp;subst this
       exact hts (Hq.out.symm.trans hp.2))
      go_wp2_with (go_at_call 247;refine(Hput.out _ HLr.out).mono ?_;rintro e w4 ⟨rfl,hb4⟩;have Z4:=hid (Z.out.below hb4);have B4:=hid (btr B.out hb4);clear c0 c1 c2 c3 c4 hb4;have r0:=Z4.out.get 0 rfl;have rg0:=Z4.out.free 0;have r1:=Z4.out.get 1 rfl;have rg1:=Z4.out.free 1;have r2:=Z4.out.get 2 rfl;have rg2:=Z4.out.free 2;have r3:=Z4.out.get 3 rfl;have rg3:=Z4.out.free 3;have r4:=Z4.out.get 4 rfl;have rg4:=Z4.out.free 4)
      refine bodyPost_ret (v:= .tuple #[vptr hole,.bool false]) (by simp[results,A7,go_sem,vptr,hole,r0,r1,r2,r3,r4]) rfl ?_;exact⟨Af ⟨Hf.out,rfl⟩,(bset (bset (bset (bset (bset B4.out (A0 _) 0 _) (A0 _) 1 _) (A0 _) 2 _) (A0 _) 3 _) (A0 _) 4 _)⟩
  ·have hA:((l.length:Int) !=5)=true:=by rw[bne_iff_ne];omega
   have Hf:=hid (Hnl.out h5);have r0:=Z3.out.get 0 rfl;have rg0:=Z3.out.free 0;have r1:=Z3.out.get 1 rfl;have rg1:=Z3.out.free 1;have r2:=Z3.out.get 2 rfl;have rg2:=Z3.out.free 2;have r3:=Z3.out.get 3 rfl;have rg3:=Z3.out.free 3;have r4:=Z3.out.get 4 rfl;have rg4:=Z3.out.free 4;clear h5
   go_wp2
   refine bodyPost_ret (v:= .tuple #[vptr hole,.bool false]) (by simp[results,A7,go_sem,vptr,hole,r0,r1,r2,r3,r4]) rfl ?_;exact⟨Af ⟨Hf.out,rfl⟩,(bset (bset (bset (bset (bset B3.out (A0 _) 0 _) (A0 _) 1 _) (A0 _) 2 _) (A0 _) 3 _) (A0 _) 4 _)⟩

/- Of parts_card; no condition. -/
import Derived.Test.YtilenknaajikpaaGreatDoorP08
import Derived.Deep.QuietTactic
import Derived.BigQuiet
import Derived.Deep.RegionHeld3
import Derived.Deep.AppendLies
set_option linter.all false
set_option maxRecDepth 100000
set_option maxHeartbeats 1000000
open Go renaming World->A6,Value->A9,Calls->AC
open Go.Proofs.Tryz renaming prog->A0,ntmps87->A4,func87->A5,ntmps58->AA,func58->AD,ntmps141->AF,func141->AH
open Go.Region renaming binds->A1
open Go.RowKit renaming Below->AE,Hid->AI
open Go.RowKit.Below renaming refl->A3
open List renaming take_succ_eq_append_getElem->A2,range->A8,take_length->AB,mem_cons->AG
open Nat renaming mod_lt->A7
namespace Go.Proofs.YtilenknaajikpaaGreatDoor
noncomputable section
section
open Go.RowKit
namespace Pm
open Pl (dec dch)
def follows_mixed:A0.follows .mixedOrders=true:=by kernel_rfl
theorem QoP(wr:A6)(b k:Nat)(hk:k<10)(d:Int)(hd:d=48+(k:Int))(hc:wr.cell? ⟨b,0,none⟩=some (.int .u8 d)):
 (convert 22 9 (.slice (some ⟨b,0,none⟩) 1 1)).run A0 wr= .ok (.string ⟨[dch k].toArray⟩) wr:=by
 have hv:((dch k).toNat:Int)=d:=by rw[Pl.Qgp hk,hd];omega
 have:=run_convert_bytes_back (P:=A0) wr 22 9 5 ⟨b,0,none⟩ 1 [dch k] Tryz.underlying22 Tryz.underlying5 Tryz.underlying9 (by
  intro j hj;have:j=0:=by simp at hj;exact hj
  subst this;simp only[Addr.add,List.getElem_cons_zero,if_true];rw[hv]
  exact hc)
 simpa using this
def Qkq(wr:A6)(k:Nat)(hk:k<10)(d:Int)(hd:d=48+(k:Int)):
 (convert 22 9 (.slice (some ⟨wr.heap.size,0,none⟩) 1 1)).run A0 (wr.alloc (.cells #[.int .u8 d] 5))= .ok (.string ⟨[dch k].toArray⟩) (wr.alloc (.cells #[.int .u8 d] 5)):=
 QoP _ _ k hk d hd ((Row.new wr #[.int .u8 d] 5).get 0 rfl)
theorem l6Dec(k:Nat): ∀(w:A6),k<=4294967296->
 AC A0 141 #[.int .i64 k] w fun e w'=>e= .returned (.string ⟨(dec k).toArray⟩)/\AE w.heap.size w w':=by
 induction k using Nat.strongRecOn with
 |_ k ih=>
  intro w hk;have IH:=hid ih;clear ih;have hA:decide ((k:Int)< -9223372036854775807)=false:=by rw[decide_eq_false_iff_not];omega
  have hB:decide ((k:Int)<0)=false:=by rw[decide_eq_false_iff_not];omega
  by_cases h10:k<10
  ·have hC:decide ((k:Int)<10)=true:=by rw[decide_eq_true_iff];omega
   have hcv:=Qkq w k h10 (48+(k:Int)) rfl;have Hd:=hid (Pl.QeE h10)
   go_enter AH,AF
   go_wp2_with fail
   go_ret
   exact⟨by rw[Hd.out];rfl,bnew _ _⟩
  ·have Hd:=hid (Pl.QgW h10)
   have hC:decide ((k:Int)<10)=false:=by rw[decide_eq_false_iff_not];omega
   have hlt:k/10<k:=by omega
   have hcv:=fun wx=>Qkq wx (k%10) (by omega) (48+(k:Int)%10) (by omega)
   have hba:=Qm2 (dec (k/10)) [dch (k%10)]
   go_enter AH,AF
   go_wp2_with fail
   clear hA hB hC;have hw1:=QfB ((k:Int)/10) (by omega) (by omega);have hw2:=tmod_in (k:Int) 10 (by omega);have hw3:=QfB (48+(k:Int)%10) (by omega) (by omega);have hw4:=wrap_u8 (48+(k:Int)%10) (by omega) (by omega);have hl:=Pl.Qdb 9 (k/10) (by omega);have hadd:=fun wx=>QqU (P:=A0) (dec (k/10)) [dch (k%10)] (by simp only[List.length_singleton];omega) wx
   clear hba hcv;refine QmQ (P:=A0) follows_mixed (by kernel_rfl) (fun rx=>⟨#[.int .i64 k,undef,rx 10,.int .i64 k,.bool false,.int .i64 k,.bool false,undef,undef,undef,undef,.int .i64 k,.bool false,undef,undef,undef,undef,undef,rx 0,rx 1,rx 2,rx 3,rx 4,rx 5,rx 6,rx 7,rx 8,rx 9],[]⟩) (fun j=>([undef,undef,undef,undef,undef,undef,undef,undef,undef,undef,.string ⟨#[]⟩]:List A9).getD j undef) (fun j v wx=>match j with|0=>v= .int .i64 k|1=>v= .int .i64 ((k/10:Nat):Int)|2=>v= .string ⟨(dec (k/10)).toArray⟩|3=>v= .int .i64 k|4=>v= .int .i64 ((k%10:Nat):Int)|5=>v= .int .i64 (48+((k%10:Nat):Int))|6=>v= .int .u8 (48+((k%10:Nat):Int))|7=> ∃b,v= .slice (some ⟨b,0,none⟩) 1 1/\b<wx.heap.size/\wx.cell? ⟨b,0,none⟩=some (.int .u8 (48+((k%10:Nat):Int)))|8=>v= .string ⟨[dch (k%10)].toArray⟩|9=>v= .string ⟨(dec (k/10)++[dch (k%10)]).toArray⟩|10=>v= .string ⟨(dec (k/10)++[dch (k%10)]).toArray⟩|_=>True) (fun wx=>AE w.heap.size w wx) (fun wx wy=>AE wx.heap.size wx wy) ?hVa ?hSa ?hopa ?henda
   case hVa=>
    intro j v wx wy h hR
    match j,h with
    |0,h=>exact h
    |1,h=>exact h
    |2,h=>exact h
    |3,h=>exact h
    |4,h=>exact h
    |5,h=>exact h
    |6,h=>exact h
    |8,h=>exact h
    |9,h=>exact h
    |10,h=>exact h
    |7,h=>(let⟨b,h1,h2,h3⟩:=h;exact⟨b,h1,Nat.lt_of_lt_of_le h2 hR.size,(hR.cell (p:=⟨b,0,none⟩) h2).trans h3⟩)
    |_+11,_=>exact trivial
   case hSa=>exact bdr (A3 _ _)
   case hopa=>
    intro F hF;have Pa_0: ∀x v,(⟨(F x).tmps.setIfInBounds 18 v,(F x).defers⟩:Act)=F (upd x 0 v):=by subst hF;intro x v;rfl
    have Ea_0: ∀x,(F x).tmps[18]?.getD undef=x 0:=by subst hF;intro x;rfl
    have Pa_1: ∀x v,(⟨(F x).tmps.setIfInBounds 19 v,(F x).defers⟩:Act)=F (upd x 1 v):=by subst hF;intro x v;rfl
    have Ea_1: ∀x,(F x).tmps[19]?.getD undef=x 1:=by subst hF;intro x;rfl
    have Pa_2: ∀x v,(⟨(F x).tmps.setIfInBounds 20 v,(F x).defers⟩:Act)=F (upd x 2 v):=by subst hF;intro x v;rfl
    have Ea_2: ∀x,(F x).tmps[20]?.getD undef=x 2:=by subst hF;intro x;rfl
    have Pa_3: ∀x v,(⟨(F x).tmps.setIfInBounds 21 v,(F x).defers⟩:Act)=F (upd x 3 v):=by subst hF;intro x v;rfl
    have Ea_3: ∀x,(F x).tmps[21]?.getD undef=x 3:=by subst hF;intro x;rfl
    have Pa_4: ∀x v,(⟨(F x).tmps.setIfInBounds 22 v,(F x).defers⟩:Act)=F (upd x 4 v):=by subst hF;intro x v;rfl
    have Ea_4: ∀x,(F x).tmps[22]?.getD undef=x 4:=by subst hF;intro x;rfl
    have Pa_5: ∀x v,(⟨(F x).tmps.setIfInBounds 23 v,(F x).defers⟩:Act)=F (upd x 5 v):=by subst hF;intro x v;rfl
    have Ea_5: ∀x,(F x).tmps[23]?.getD undef=x 5:=by subst hF;intro x;rfl
    have Pa_6: ∀x v,(⟨(F x).tmps.setIfInBounds 24 v,(F x).defers⟩:Act)=F (upd x 6 v):=by subst hF;intro x v;rfl
    have Ea_6: ∀x,(F x).tmps[24]?.getD undef=x 6:=by subst hF;intro x;rfl
    have Pa_7: ∀x v,(⟨(F x).tmps.setIfInBounds 25 v,(F x).defers⟩:Act)=F (upd x 7 v):=by subst hF;intro x v;rfl
    have Ea_7: ∀x,(F x).tmps[25]?.getD undef=x 7:=by subst hF;intro x;rfl
    have Pa_8: ∀x v,(⟨(F x).tmps.setIfInBounds 26 v,(F x).defers⟩:Act)=F (upd x 8 v):=by subst hF;intro x v;rfl
    have Ea_8: ∀x,(F x).tmps[26]?.getD undef=x 8:=by subst hF;intro x;rfl
    have Pa_9: ∀x v,(⟨(F x).tmps.setIfInBounds 27 v,(F x).defers⟩:Act)=F (upd x 9 v):=by subst hF;intro x v;rfl
    have Ea_9: ∀x,(F x).tmps[27]?.getD undef=x 9:=by subst hF;intro x;rfl
    have Pa_10: ∀x v,(⟨(F x).tmps.setIfInBounds 2 v,(F x).defers⟩:Act)=F (upd x 10 v):=by subst hF;intro x v;rfl
    have Ea_10: ∀x,(F x).tmps[2]?.getD undef=x 10:=by subst hF;intro x;rfl
    have Ea_e0: ∀x,(F x).tmps[0]?.getD undef= .int .i64 k:=by subst hF;intro x;rfl
    clear hF;simp only[OpAll];refine⟨?_,?_,?_,?_,?_,?_,?_,?_,?_,?_,?_,trivial⟩
    ·intro rx wx hS hd hu K hK
     clear hu;simp[Deps] at hd
     go_simp
     exact hK _ _ (A3 _ _) hS (by simp)
    ·intro rx wx hS hd hu K hK
     clear hu;simp[Deps,A1] at hd
     go_simp
     exact hK _ _ (A3 _ _) hS (by simp)
    ·intro rx wx hS hd hu K hK
     clear hu;simp[Deps,A1] at hd
     go_simp
     rw[show((k:Int)/10)=((k/10:Nat):Int) from by omega];refine(IH.out (k/10) hlt _ (by omega)).mono ?_;rintro e w1 ⟨rfl,hb1⟩
     go_simp
     exact hK _ _ hb1 (btr hS hb1) rfl
    ·intro rx wx hS hd hu K hK
     clear hu;simp[Deps,A1] at hd
     go_simp
     exact hK _ _ (A3 _ _) hS (by simp)
    ·intro rx wx hS hd hu K hK
     clear hu;simp[Deps,A1] at hd
     go_simp
     exact hK _ _ (A3 _ _) hS (by simp)
    ·intro rx wx hS hd hu K hK
     clear hu;simp[Deps,A1] at hd
     go_simp
     exact hK _ _ (A3 _ _) hS (by simp)
    ·intro rx wx hS hd hu K hK
     clear hu;simp[Deps,A1] at hd
     go_simp
     exact hK _ _ (A3 _ _) hS (by simp)
    ·intro rx wx hS hd hu K hK
     clear hu;simp[Deps,A1] at hd
     go_simp
     exact hK _ _ (bnew _ _) (bal hS _) ⟨_,rfl,by simp,(Row.new wx _ _).get 0 (by simp)⟩
    ·intro rx wx hS hd hu K hK
     clear hu;simp[Deps,A1] at hd;obtain⟨b,h1,h2,h3⟩:=hd;have hcv:=QoP wx b (k%10) (by omega) (48+(k:Int)%10) (by omega) h3
     go_simp
     exact hK _ _ (A3 _ _) hS rfl
    ·intro rx wx hS hd hu K hK
     clear hu;simp[Deps,A1] at hd
     go_simp
     exact hK _ _ (A3 _ _) hS (by simp)
    ·intro rx wx hS hd hu K hK
     clear hu;simp[Deps,A1] at hd
     go_simp
     exact hK _ _ (A3 _ _) hS (by simp)
   intro x w1 hS hv;have h10:=hv 10 (by decide);simp only at h10
   go_wp2
   go_ret
   exact⟨by rw[Hd.out,<-h10];rfl,hS⟩
def optStr:Option Str->A9
 |some s=> .tuple #[.string ⟨s.toArray⟩,.bool true]
 |none=> .tuple #[.string ⟨#[]⟩,.bool false]
end Pm
end
section
namespace Aw
instance TB_4:TyBool A0 4:=⟨by kernel_rfl⟩
instance T_3:Ty A0 3 ⟨false,1,8,[.int .i64 0],none,[],none,false⟩:=⟨by kernel_rfl⟩
instance T_4:Ty A0 4 ⟨false,1,1,[.bool false],none,[],none,false⟩:=⟨by kernel_rfl⟩
instance T_5:Ty A0 5 ⟨false,1,1,[.int .u8 0],none,[],none,false⟩:=⟨by kernel_rfl⟩
instance T_9:Ty A0 9 ⟨false,1,16,[.string ⟨#[]⟩],none,[],none,true⟩:=⟨by kernel_rfl⟩
instance T_22:Ty A0 22 ⟨false,1,24,[.slice none 0 0],some 5,[],none,false⟩:=⟨by kernel_rfl⟩
instance T_23:Ty A0 23 ⟨false,1,24,[.slice none 0 0],some 9,[],none,false⟩:=⟨by kernel_rfl⟩
instance T_24:Ty A0 24 ⟨false,1,24,[.slice none 0 0],some 3,[],none,false⟩:=⟨by kernel_rfl⟩
instance T_26:Ty A0 26 ⟨true,2,48,[.slice none 0 0,.slice none 0 0],none,[(0,1),(1,1)],some [(0,1),(1,1)],false⟩:=⟨by kernel_rfl⟩
instance T_27:Ty A0 27 ⟨false,1,24,[.slice none 0 0],some 31,[],none,false⟩:=⟨by kernel_rfl⟩
instance T_29:Ty A0 29 ⟨true,8,144,[.slice none 0 0,.slice none 0 0,.slice none 0 0,.int .i64 0,.slice none 0 0,.int .i64 0,.slice none 0 0,.bool false],none,[(0,1),(1,2),(3,1),(4,1),(5,1),(6,1),(7,1)],some [(0,1),(1,2),(3,1),(4,1),(5,1),(6,1),(7,1)],false⟩:=⟨by kernel_rfl⟩
instance T_31:Ty A0 31 ⟨true,5,40,[.int .i64 0,.int .i64 0,.int .i64 0,.int .i64 0,.int .i64 0],none,[(0,1),(1,1),(2,1),(3,1),(4,1)],some [(0,1),(1,1),(2,1),(3,1),(4,1)],false⟩:=⟨by kernel_rfl⟩
instance T_33:Ty A0 33 ⟨true,7,56,[.int .i64 0,.int .i64 0,.int .i64 0,.int .i64 0,.int .i64 0,.int .i64 0,.int .i64 0],none,[(0,5),(5,1),(6,1)],some [(0,5),(5,1),(6,1)],false⟩:=⟨by kernel_rfl⟩
instance T_36:Ty A0 36 ⟨false,1,24,[.slice none 0 0],some 56,[],none,false⟩:=⟨by kernel_rfl⟩
instance T_42:Ty A0 42 ⟨false,1,24,[.slice none 0 0],some 81,[],none,false⟩:=⟨by kernel_rfl⟩
instance T_48:Ty A0 48 ⟨true,10,80,[.int .i64 0,.int .i64 0,.int .i64 0,.int .i64 0,.int .i64 0,.int .i64 0,.int .i64 0,.int .i64 0,.int .i64 0,.int .i64 0],none,[(0,1),(1,1),(2,1),(3,7)],some [(0,1),(1,1),(2,1),(3,7)],false⟩:=⟨by kernel_rfl⟩
instance T_56:Ty A0 56 ⟨true,2,24,[.string ⟨#[]⟩,.int .i64 0],none,[(0,1),(1,1)],some [(0,1),(1,1)],false⟩:=⟨by kernel_rfl⟩
instance T_64:Ty A0 64 ⟨false,1,8,[.pointer none],none,[],none,false⟩:=⟨by kernel_rfl⟩
instance T_71:Ty A0 71 ⟨false,1,24,[.slice none 0 0],some 78,[],none,false⟩:=⟨by kernel_rfl⟩
instance T_72:Ty A0 72 ⟨false,1,8,[.map none],none,[],none,false⟩:=⟨by kernel_rfl⟩
instance T_74:Ty A0 74 ⟨true,10,96,[.pointer none,.int .i64 0,.int .i64 0,.int .i64 0,.int .i64 0,.int .i64 0,.int .i64 0,.int .i64 0,.slice none 0 0,.map none],none,[(0,1),(1,7),(8,1),(9,1)],some [(0,1),(1,7),(8,1),(9,1)],false⟩:=⟨by kernel_rfl⟩
instance T_78:Ty A0 78 ⟨false,1,8,[.pointer none],none,[],none,false⟩:=⟨by kernel_rfl⟩
instance T_81:Ty A0 81 ⟨true,2,24,[.string ⟨#[]⟩,.int .i64 0],none,[(0,1),(1,1)],some [(0,1),(1,1)],false⟩:=⟨by kernel_rfl⟩
instance T_92:Ty A0 92 ⟨true,2,32,[.slice none 0 0,.int .i64 0],none,[(0,1),(1,1)],some [(0,1),(1,1)],false⟩:=⟨by kernel_rfl⟩
instance T_97:Ty A0 97 ⟨false,1,24,[.slice none 0 0],some 48,[],none,false⟩:=⟨by kernel_rfl⟩
instance T_122:Ty A0 122 ⟨false,1,24,[.slice none 0 0],some 127,[],none,false⟩:=⟨by kernel_rfl⟩
instance T_127:Ty A0 127 ⟨true,5,64,[.int .i64 0,.string ⟨#[]⟩,.string ⟨#[]⟩,.int .i64 0,.string ⟨#[]⟩],none,[(0,1),(1,1),(2,1),(3,1),(4,1)],some [(0,1),(1,1),(2,1),(3,1),(4,1)],false⟩:=⟨by kernel_rfl⟩
instance T_165:Ty A0 165 ⟨false,1,8,[.map none],none,[],none,false⟩:=⟨by kernel_rfl⟩
instance T_169:Ty A0 169 ⟨true,16,208,[.slice none 0 0,.slice none 0 0,.slice none 0 0,.int .i64 0,.slice none 0 0,.int .i64 0,.slice none 0 0,.bool false,.int .i64 0,.int .i64 0,.int .i64 0,.int .i64 0,.int .i64 0,.int .i64 0,.int .i64 0,.bool false],none,[(0,8),(8,7),(15,1)],some [(0,8),(8,7),(15,1)],false⟩:=⟨by kernel_rfl⟩
instance T_205:Ty A0 205 ⟨false,1,8,[.pointer none],none,[],none,false⟩:=⟨by kernel_rfl⟩
instance T_206:Ty A0 206 ⟨false,1,24,[.slice none 0 0],some 205,[],none,false⟩:=⟨by kernel_rfl⟩
end Aw
end
section
open Go.RowKit
namespace Pm
open Pl (dec dch)
theorem spSumOf(s:Str)(w:A6)(hs:s.length<=big):
 AC A0 196 #[.string ⟨s.toArray⟩] w fun e w'=>e= .returned (.int .i64 ((Pl.sumOf s:Nat):Int))/\w=w':=by
 unfold big at hs
 go_enter Tryz.func196,Tryz.ntmps196
 go_wp2
 go_loop [3,4,5] (fun av bv iv=> ∃k a b:Nat,k<=s.length/\iv= .int .i64 k/\av= .int .i64 a/\bv= .int .i64 b/\AI ((a,b)=Pl.sum2 (s.take k))/\a<9973/\b<9973) (fun _ _ iv=>s.length -(intOf iv).toNat)
 case atStart=>exact⟨0,1,0,by omega,rfl,rfl,rfl,hid rfl,by omega,by omega⟩
 case round=>
  obtain⟨k,a,b,hk,rfl,rfl,rfl,Hp,ha,hb⟩:=hrel
  by_cases hlt:k<s.length
  ·have hstep:AI (Pl.sum2 (s.take (k+1))=Pl.sumStep (a,b) s[k]):=hid (by rw[A2 hlt,Pl.QlA,<-Hp.out])
   have hltI:(k:Int)<s.length:=by omega
   obtain⟨c,hc,hc256,hck⟩:=QsR s k hlt;rw[<-hc] at hstep;have Hc:=hid hc;clear hc
   go_wp2
   go_round
   case rel=>
    refine⟨k+1,(a+c.toNat+1)%9973,(b+(a+c.toNat+1)%9973)%9973,by omega,by go_num,?_,?_,hid (by rw[hstep.out];rfl),A7 _ (by omega),A7 _ (by omega)⟩
    ·go_num
    ·go_num
   case measure=>simp[intOf];omega
  ·have hk':k=s.length:=by omega
   subst hk';rw[AB] at Hp;have hf:AI (Pl.sumOf s=a*9973+b):=hid (by unfold Pl.sumOf;rw[<-Hp.out])
   go_wp2
   go_ret
   exact⟨Qre (by rw[hf.out];omega),rfl⟩
def optNat:Option Nat->A9
 |some n=> .tuple #[.int .i64 (n:Int),.bool true]
 |none=> .tuple #[.int .i64 0,.bool false]
end Pm
end
section
open Go.RowKit
namespace Pm
open Pl (dec dch inR Ptr hole ptrHole ptrOk)
def vptr(p:Ptr):A9:= .agg #[.int .i64 p.pat,.int .i64 p.birth,.int .i64 p.size,.int .i64 p.sum,.int .i64 p.level]
def Qdm{w w1:A6}{cs:Array A9}{t:TypeId}(hb:AE (w.alloc (.cells cs t)).heap.size (w.alloc (.cells cs t)) w1)(i:Nat)(v:A9)(h:cs[i]? =some v):w1.cell? ⟨w.heap.size,i,none⟩=some v:=by
 rw[hb.cell (p:=⟨w.heap.size,i,none⟩) (by simp)];simpa using h
def QqZ(p:Ptr)(w:A6):AC A0 105 #[vptr p] w fun e w'=>e= .returned (.bool (ptrHole p))/\AE w.heap.size w w':=by
 obtain⟨pat,birth,size,sum,level⟩:=p;unfold vptr;dsimp only
 go_enter Tryz.func105,Tryz.ntmps105
 go_wp2
 all_goals(go_ret;exact⟨Qd2 (by simp[ptrHole,hole, *]),bnew _ _⟩)
def spRow(n:Int)(w:A6):AC A0 163 #[.int .i64 n] w fun e w'=>e= .returned (.bool (inR n 8 63))/\w=w':=by
 go_enter Tryz.func163,Tryz.ntmps163
 go_wp2_with (go_at_call 48;refine(l6In n 8 63 w).mono ?_;rintro e w' ⟨rfl,rfl⟩)
 go_ret
 exact⟨rfl,rfl⟩
end Pm
end
section
open Go.RowKit
namespace Pl
variable{f i:Nat}{b:UInt8}
def QsH{s:Str}(hf:f<=i)(hi:i<s.length)(hn:b∉(s.drop f).take (i -f))(hb:s[i]=b):
 cutB b (s.drop f)=(s.drop f).take (i -f)::cutB b (s.drop (i+1)):=by
 have h1:s.drop f=(s.drop f).take (i -f)++b::s.drop (i+1):=by
  conv=>lhs;rw[<-List.take_append_drop (i -f) (s.drop f)]
  rw[List.drop_drop,show f+(i -f)=i by omega,List.drop_eq_getElem_cons hi,hb]
 rw[h1,Qes _ _ _ hn,<-h1]
def QlU{s:Str}(hf:f<=i)(hi:i<s.length)(hn:b∉(s.drop f).take (i -f))(hb:s[i]≠b):b∉(s.drop f).take (i+1 -f):=by
 have hlt:i -f<(s.drop f).length:=by rw[List.length_drop];omega
 rw[show i+1 -f=(i -f)+1 by omega,A2 hlt,List.mem_append,List.mem_singleton];rintro(h|h)
 ·exact hn h
 ·apply hb;rw[h,List.getElem_drop];congr 1;omega
end Pl
end
section
open Go.RowKit
namespace Pm
open Pl (dec dch inR Ptr hole ptrHole ptrOk)
theorem cutB_le'(b:UInt8): ∀(s:Str),∀x∈Pl.cutB b s,x.length<=s.length
 |[],x,h=>by simp[Pl.cutB] at h;simp[h]
 |c::r,x,h=>by
  have ih:=cutB_le' b r;unfold Pl.cutB at h;split at h
  ·rcases AG.1 h with rfl|h
   ·simp
   ·have:=ih x h;simp;omega
  ·split at h
   ·rename_i hd t heq
    rw[heq] at ih;rcases AG.1 h with rfl|h
    ·have:=ih hd List.mem_cons_self;simp;omega
    ·have:=ih x (List.mem_cons_of_mem _ h);simp;omega
   ·simp at h;subst h;simp
def cutB_le{b:UInt8}{s:Str}{n:Nat}(h:s.length<=n): ∀x∈Pl.cutB b s,x.length<=n:=fun x hx=>Nat.le_trans (cutB_le' b s x hx) h
def PtrPost(s:Str)(w:A6)(e:Ending)(w':A6):Prop:=
 ((∃p,Pl.IsPtr s p/\e= .returned (.tuple #[vptr p,.bool true]))∨((∀p,¬Pl.IsPtr s p)/\e= .returned (.tuple #[vptr hole,.bool false])))/\AE w.heap.size w w'
end Pm
end
section
open Go.RowKit
namespace Pm
open Pl (dec dch inR Ptr Tree Root hole ptrHole ptrOk)
def QpD(n:Int):(Pl.numPut n).length<=9:=by
 unfold Pl.numPut;split
 ·rename_i h;exact Pl.Qdb 8 n.toNat (by omega)
 ·simp
def ptrPut_len(p:Ptr):(Pl.ptrPut p).length<=60:=by
 unfold Pl.ptrPut;split
 ·rename_i h
  obtain⟨b1,b2,b3,b4,b5⟩:=Pl.QdC h;split
  ·simp
  ·have la:=Pl.Qdb 9 p.pat.toNat (by omega)
   have lb:=Pl.Qdb 9 p.birth.toNat (by omega);have lc:=Pl.Qdb 9 p.size.toNat (by omega);have ld:=Pl.Qdb 9 p.sum.toNat (by omega);have lf:=Pl.Qdb 9 p.level.toNat (by omega);simp[Pl.ptrText,Pl.dots];omega
 ·simp
def Qr2(o:Option Str):optStr o= .tuple #[.string ⟨(o.getD []).toArray⟩,.bool o.isSome]:=by cases o<;>rfl
end Pm
end
section
open Go.RowKit
namespace Pm
theorem QpB{w:A6}{base size n:Nat}{e:TypeId}{v:A9}{xs:List A9}(h:w.ownsRow base e size v n xs): ∃A c,v= .slice A n c:=by
 obtain⟨_,⟨hv,hn⟩|⟨g,cap,cur,hv,_⟩⟩:=h
 ·subst hn;exact⟨none,0,hv⟩
 ·exact⟨_,cap,hv⟩
section
variable{b3 base k:Nat}{l:List Disk}{v0:A9}{wr wx wy:A6}{D D':Nat->Bool}{rx ry:Nat->A9}
end
end Pm
end
section
open Go.RowKit
namespace Pm
open Pl (dec dch inR Ptr Tree Root hole ptrHole ptrOk)
def imIn(n a b:Int)(w:A6):AC A0 58 #[.int .i64 n,.int .i64 a,.int .i64 b] w fun e w'=>e= .returned (.bool (inR n a b))/\w=w':=by
 by_cases h1:a<=n
 ·by_cases h2:n<=b
  ·have hf:=hid (show inR n a b=true by simp[inR,h1,h2])
   go_enter AD,AA
   go_wp2
   go_ret
   exact⟨Qd2 hf.out.symm,rfl⟩
  ·have hf:=hid (show inR n a b=false by simp[inR,h2])
   have h3:b<n:=by omega
   clear h2
   go_enter AD,AA
   go_wp2
   go_ret
   exact⟨Qd2 (by rw[hf.out,decide_eq_false (by omega)]),rfl⟩
 ·have hf:=hid (show inR n a b=false by simp[inR,h1])
  have h3:n<a:=by omega
  clear h1
  go_enter AD,AA
  go_wp2
  go_ret
  exact⟨Qd2 hf.out.symm,rfl⟩
def Qjm(p:Ptr)(w:A6):AC A0 88 #[vptr p] w fun e w'=>e= .returned (.bool (ptrHole p))/\AE w.heap.size w w':=by
 obtain⟨pat,birth,size,sum,level⟩:=p;unfold vptr;dsimp only
 go_enter Tryz.func88,Tryz.ntmps88
 go_wp2
 all_goals(go_ret;exact⟨Qd2 (by simp[ptrHole,hole, *]),bnew _ _⟩)
def imRow(n:Int)(w:A6):AC A0 143 #[.int .i64 n] w fun e w'=>e= .returned (.bool (inR n 8 63))/\w=w':=by
 go_enter Tryz.func143,Tryz.ntmps143
 go_wp2_with (go_at_call 58;refine(imIn n 8 63 w).mono ?_;rintro e w' ⟨rfl,rfl⟩)
 go_ret
 exact⟨rfl,rfl⟩
def imPtrOk(p:Ptr)(w:A6):AC A0 87 #[vptr p] w fun e w'=>e= .returned (.bool (ptrOk p))/\AE w.heap.size w w':=by
 have Hp:=hid (Qjm p);obtain⟨pat,birth,size,sum,level⟩:=p;unfold vptr at*;dsimp only at*;generalize hq:ptrHole ⟨pat,birth,size,sum,level⟩=q;have Hq:=hid hq;rw[hq] at Hp;clear hq;cases q
 ·have Hd:AI (ptrOk ⟨pat,birth,size,sum,level⟩=(inR pat 8 63&&inR birth 1 900&&inR size 1 128&&inR sum 0 99460728&&inR level 0 2)):=hid (by unfold ptrOk;rw[Hq.out];rfl)
  generalize hq0:inR pat 8 63=q0 at Hd;have H1:=hid hq0;clear hq0;generalize hq1:inR birth 1 900=q1 at Hd;have H2:=hid hq1;clear hq1;generalize hq2:inR size 1 128=q2 at Hd;have H3:=hid hq2;clear hq2;generalize hq3:inR sum 0 99460728=q3 at Hd;have H4:=hid hq3;clear hq3;generalize hq4:inR level 0 2=q4 at Hd;have H5:=hid hq4;clear hq4;cases q0
  ·have Hr:AI (ptrOk ⟨pat,birth,size,sum,level⟩=false):=hid (by rw[Hd.out];simp)
   go_enter A5,A4
   go_wp2_with (first|(go_at_call 88;refine(Hp.out _).mono ?_;rintro e w1 ⟨rfl,hb1⟩;have c0:=Qdm hb1 0 _ rfl;have c1:=Qdm hb1 1 _ rfl;have c2:=Qdm hb1 2 _ rfl;have c3:=Qdm hb1 3 _ rfl;have c4:=Qdm hb1 4 _ rfl;have Hb1:=hid hb1;clear hb1)|(go_at_call 143;refine(imRow pat _).mono ?_;rintro e w' ⟨rfl,rfl⟩;rw[H1.out]))
   go_ret
   exact⟨Qd2 Hr.out.symm,btr (bnew _ _) Hb1.out⟩
  ·cases q1
   ·have Hr:AI (ptrOk ⟨pat,birth,size,sum,level⟩=false):=hid (by rw[Hd.out];simp)
    go_enter A5,A4
    go_wp2_with (first|(go_at_call 88;refine(Hp.out _).mono ?_;rintro e w1 ⟨rfl,hb1⟩;have c0:=Qdm hb1 0 _ rfl;have c1:=Qdm hb1 1 _ rfl;have c2:=Qdm hb1 2 _ rfl;have c3:=Qdm hb1 3 _ rfl;have c4:=Qdm hb1 4 _ rfl;have Hb1:=hid hb1;clear hb1)|(go_at_call 143;refine(imRow pat _).mono ?_;rintro e w' ⟨rfl,rfl⟩;rw[H1.out])|(go_at_call 58;refine(imIn _ _ _ _).mono ?_;rintro e w' ⟨rfl,rfl⟩;first|rw[H2.out]))
    go_ret
    exact⟨Qd2 Hr.out.symm,btr (bnew _ _) Hb1.out⟩
   ·cases q2
    ·have Hr:AI (ptrOk ⟨pat,birth,size,sum,level⟩=false):=hid (by rw[Hd.out];simp)
     go_enter A5,A4
     go_wp2_with (first|(go_at_call 88;refine(Hp.out _).mono ?_;rintro e w1 ⟨rfl,hb1⟩;have c0:=Qdm hb1 0 _ rfl;have c1:=Qdm hb1 1 _ rfl;have c2:=Qdm hb1 2 _ rfl;have c3:=Qdm hb1 3 _ rfl;have c4:=Qdm hb1 4 _ rfl;have Hb1:=hid hb1;clear hb1)|(go_at_call 143;refine(imRow pat _).mono ?_;rintro e w' ⟨rfl,rfl⟩;rw[H1.out])|(go_at_call 58;refine(imIn _ _ _ _).mono ?_;rintro e w' ⟨rfl,rfl⟩;first|rw[H2.out]|rw[H3.out]))
     go_ret
     exact⟨Qd2 Hr.out.symm,btr (bnew _ _) Hb1.out⟩
    ·cases q3
     ·have Hr:AI (ptrOk ⟨pat,birth,size,sum,level⟩=false):=hid (by rw[Hd.out];simp)
      go_enter A5,A4
      go_wp2_with (first|(go_at_call 88;refine(Hp.out _).mono ?_;rintro e w1 ⟨rfl,hb1⟩;have c0:=Qdm hb1 0 _ rfl;have c1:=Qdm hb1 1 _ rfl;have c2:=Qdm hb1 2 _ rfl;have c3:=Qdm hb1 3 _ rfl;have c4:=Qdm hb1 4 _ rfl;have Hb1:=hid hb1;clear hb1)|(go_at_call 143;refine(imRow pat _).mono ?_;rintro e w' ⟨rfl,rfl⟩;rw[H1.out])|(go_at_call 58;refine(imIn _ _ _ _).mono ?_;rintro e w' ⟨rfl,rfl⟩;first|rw[H2.out]|rw[H3.out]|rw[H4.out]))
      go_ret
      exact⟨Qd2 Hr.out.symm,btr (bnew _ _) Hb1.out⟩
     ·cases q4
      ·have Hr:AI (ptrOk ⟨pat,birth,size,sum,level⟩=false):=hid (by rw[Hd.out];simp)
       go_enter A5,A4
       go_wp2_with (first|(go_at_call 88;refine(Hp.out _).mono ?_;rintro e w1 ⟨rfl,hb1⟩;have c0:=Qdm hb1 0 _ rfl;have c1:=Qdm hb1 1 _ rfl;have c2:=Qdm hb1 2 _ rfl;have c3:=Qdm hb1 3 _ rfl;have c4:=Qdm hb1 4 _ rfl;have Hb1:=hid hb1;clear hb1)|(go_at_call 143;refine(imRow pat _).mono ?_;rintro e w' ⟨rfl,rfl⟩;rw[H1.out])|(go_at_call 58;refine(imIn _ _ _ _).mono ?_;rintro e w' ⟨rfl,rfl⟩;first|rw[H2.out]|rw[H3.out]|rw[H4.out]|rw[H5.out]))
       go_ret
       exact⟨Qd2 Hr.out.symm,btr (bnew _ _) Hb1.out⟩
      ·have Hr:AI (ptrOk ⟨pat,birth,size,sum,level⟩=true):=hid (by rw[Hd.out];simp)
       go_enter A5,A4
       go_wp2_with (first|(go_at_call 88;refine(Hp.out _).mono ?_;rintro e w1 ⟨rfl,hb1⟩;have c0:=Qdm hb1 0 _ rfl;have c1:=Qdm hb1 1 _ rfl;have c2:=Qdm hb1 2 _ rfl;have c3:=Qdm hb1 3 _ rfl;have c4:=Qdm hb1 4 _ rfl;have Hb1:=hid hb1;clear hb1)|(go_at_call 143;refine(imRow pat _).mono ?_;rintro e w' ⟨rfl,rfl⟩;rw[H1.out])|(go_at_call 58;refine(imIn _ _ _ _).mono ?_;rintro e w' ⟨rfl,rfl⟩;first|rw[H2.out]|rw[H3.out]|rw[H4.out]|rw[H5.out]))
       go_ret
       exact⟨Qd2 Hr.out.symm,btr (bnew _ _) Hb1.out⟩
 ·go_enter A5,A4
  go_wp2_with (go_at_call 88;refine(Hp.out _).mono ?_;rintro e w1 ⟨rfl,hb1⟩)
  go_ret
  exact⟨Qd2 (by unfold ptrOk;rw[Hq.out];rfl),btr (bnew _ _) hb1⟩
theorem imSumOf(s:Str)(w:A6)(hs:s.length<=big):
 AC A0 213 #[.string ⟨s.toArray⟩] w fun e w'=>e= .returned (.int .i64 ((Pl.sumOf s:Nat):Int))/\w=w':=by
 unfold big at hs
 go_enter Tryz.func213,Tryz.ntmps213
 go_wp2
 go_loop [3,4,8] (fun av bv iv=> ∃k a b:Nat,k<=s.length/\iv= .int .i64 k/\av= .int .i64 a/\bv= .int .i64 b/\AI ((a,b)=Pl.sum2 (s.take k))/\a<9973/\b<9973) (fun _ _ iv=>s.length -(intOf iv).toNat)
 case atStart=>exact⟨0,1,0,by omega,rfl,rfl,rfl,hid rfl,by omega,by omega⟩
 case round=>
  obtain⟨k,a,b,hk,rfl,rfl,rfl,Hp,ha,hb⟩:=hrel
  by_cases hlt:k<s.length
  ·have hstep:AI (Pl.sum2 (s.take (k+1))=Pl.sumStep (a,b) s[k]):=hid (by rw[A2 hlt,Pl.QlA,<-Hp.out])
   have hltI:(k:Int)<s.length:=by omega
   obtain⟨c,hc,hc256,hck⟩:=QsR s k hlt;rw[<-hc] at hstep;have Hc:=hid hc;clear hc
   go_wp2
   go_round
   case rel=>
    refine⟨k+1,(a+c.toNat+1)%9973,(b+(a+c.toNat+1)%9973)%9973,by omega,by go_num,?_,?_,hid (by rw[hstep.out];rfl),A7 _ (by omega),A7 _ (by omega)⟩
    ·go_num
    ·go_num
   case measure=>simp[intOf];omega
  ·have hk':k=s.length:=by omega
   subst hk';rw[AB] at Hp;have hf:AI (Pl.sumOf s=a*9973+b):=hid (by unfold Pl.sumOf;rw[<-Hp.out])
   go_wp2
   go_ret
   exact⟨Qre (by rw[hf.out];omega),rfl⟩
end Pm
end
section
open Go.RowKit
namespace Pl
variable{k:Nat}{p:Nat->Bool}
def QdO(i:Nat)(n last:Int):Bool:=inR last 0 900&&inR n 0 last&& !(decide (n=0)&&decide (last≠0))&& !(!(inR i 8 63)&&decide (0<n))
def Qec(refs last:List Int):Nat->Bool:=fun i=>QdO i (refs.getD i 0) (last.getD i 0)
def spaceOk(s:List Int×List Int):Bool:=decide (s.1.length=64)&&decide (s.2.length=64)&&(A8 64).all (Qec s.1 s.2)
def Qdn(h:(A8 k).all p=true)(hk:p k=true):(A8 (k+1)).all p=true:=by
 rw[List.range_succ,List.all_append,h];simp[hk]
def Qdj{n:Nat}(hn:k<n)(hk:p k=false):(A8 n).all p=false:=by
 rw[List.all_eq_false];exact⟨k,List.mem_range.2 hn,by simp[hk]⟩

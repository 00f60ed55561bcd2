/- Of ftw_card; no condition. -/
import Derived.Test.YthbonbflkdonkaaGreatDoorP24
set_option linter.all false
set_option maxRecDepth 100000
set_option maxHeartbeats 8000000
open Bool renaming false_eq_true->A6
open Go.Proofs.Tryz renaming prog->AE
open Go.RowKit renaming Hid->AC
open List renaming take_of_length_le->A0,cons_append->A1,getElem?_eq_getElem->A2,nil_append->A3,mem_of_getElem?->A4,take_add_one->A7,length_take->A8,mem_append->A9,map_take->AA
open Nat renaming add_sub_cancel'->A5,add_assoc->AB,le_refl->AD
namespace Go.Proofs.YthbonbflkdonkaaGreatDoor
noncomputable section
open Go.RowKit
namespace Aw
variable{j:Int}{κ':IntKind}{rows':List (List D)}{u y:Operand}{E:TyF}{T ty:TypeId}{after:Array Edge}{pos:String}{P:Program}
attribute [local irreducible] ASeq ADraw AWP Loc AStep Fg.PlanF Fg.Flts EndR Fk.PlanF Fk.Flts Fk.AStepM Fk.Grew Fk.Gs
theorem QjC{dst:Option Tmp}{gd:Option (Nat×Bool)}{env:List (Nat×AV)}{H:List Blk}{e:TypeId}{F:TyF}{x:Operand}{rows:List (List D)}{κ:IntKind}{i:Int} [hT:Ty P T F](he:F.elem=some e) [hE:Ty P e E](hu:aval env u= .d (.sl true E.size rows))(hx:aval env x= .d (.v (.int κ i)))(hy:aval env y= .d (.v (.int κ' j)))
 (h0:0<=i) (h1:i<=j) (h2:j<=rows.length) (hq:(rows.take j.toNat).drop i.toNat=rows'):Loc P ⟨dst,.slice T u (some x) (some y) none,ty,pos,after,gd⟩ env H (.d (.sl true E.size rows')) none:=by grind [QlD]
theorem Qre{dst:Option Tmp}{gd:Option (Nat×Bool)}{env:List (Nat×AV)}{H:List Blk}{e:TypeId}{F:TyF}{rows:List (List D)} [hT:Ty P T F](he:F.elem=some e) [hE:Ty P e E](hu:aval env u= .d (.sl true E.size rows))(hy:aval env y= .d (.v (.int κ' j)))
 (h0:0<=j) (h2:j<=rows.length) (hq:rows.take j.toNat=rows'):Loc P ⟨dst,.slice T u none (some y) none,ty,pos,after,gd⟩ env H (.d (.sl true E.size rows')) none:=by grind [Qgk]
theorem fan_four'{s:List UInt8}(h:(QaG s).2=true):(QaG s).1.length=4:=by grind [QaG]
theorem QjU{s:Pm.Store}{p:Pl.Ptr}{n:Int}(h:(Qj s p n).2=true):(Qj s p n).1.length=4:=by grind [Qj,fan_four']
theorem Qth(s:Pm.Store)(t:Pl.Tree)(depth level:Int):level≠depth->(QM s t depth level).length=4:=by grind [QM,QjU]
theorem Qtg(s:Pm.Store)(t:Pl.Tree)(depth level:Int):1<=(QM s t depth level).length/\(QM s t depth level).length<=4:=by grind [QM,QjU]
theorem QqN(s:Pm.Store)(t:Pl.Tree)(depth level:Int)(ht:Pl.ptrOk t.root=true): ∀p∈QM s t depth level,Pl.ptrOk p=true:=by grind [QdK,QM,Qig]
abbrev zSt:List AV:=[.d (.v (.slice none 0 0)),.d (.v (.slice none 0 0)),.d (.v (.slice none 0 0)),.d (.v (.int .i64 0)),.d (.v (.slice none 0 0)),.d (.v (.int .i64 0)),.d (.v (.slice none 0 0)),.d (.v (.bool false))]
abbrev zTr:List AV:=[.d (.v (.int .i64 0)),.d (.v (.int .i64 0)),.d (.v (.int .i64 0)),.d (.v (.int .i64 0)),.d (.v (.int .i64 0)),.d (.v (.int .i64 0)),.d (.v (.int .i64 0))]
abbrev zPt:List AV:=[.d (.v (.int .i64 0)),.d (.v (.int .i64 0)),.d (.v (.int .i64 0)),.d (.v (.int .i64 0)),.d (.v (.int .i64 0))]
def Qen(n1:Nat)(ts ks:List Nat){I:Nat->St->Prop}{ts0:List Nat}{m n N:Nat}{env env':List (Nat×AV)}{H H':List Blk}(h1:n1<n)(h2:I n1 ⟨N,env',H'⟩)(he:keepE env ts=renE (pk ks) env':=by rfl)(hks:ks.map (fun k=>H[k]?)=(H'.map (Blk.ren (pk ks))).map some:=by rfl)(hnd:ks.Nodup:=by decide)
 (h3:envLt H'.length env'=true:=by rfl) (h4:H'.all (Blk.lt H'.length)=true:=by rfl):Back I ts0 m n ⟨N,env,H⟩:=⟨_,n1,Qlf ts ks he hks hnd h3 h4,h1,h2⟩
abbrev rowS(g:Nat)(w:Pl.Sto):List AV:=[.osl 0 1 0 64,.osl 1 1 0 64,.osl 2 1 0 64,.d (dI w.txg),.osl 3 g 0 w.gone.length,.d (dI 0),.osl 4 1 0 0,.d (dB w.same)]
theorem eLay(g:Nat)(w:Pl.Sto)(N:Nat)(hN:N<=900000)(hw:w.W N)(t:Pl.Tree)(ht:Pl.ptrOk t.root=true)(leaves:List Pl.Ptr)(hl:leaves.length=16)(hlo: ∀p∈leaves,Pl.ptrOk p=true)(many:Nat)(hm:many<=16):
 DoesE AE 58 [oS g w,.d (dTree t),.d (tPtrs leaves),.d (dI many)] (hS g w) (gS g w) (fun x H=> ∃g',((Qw w t leaves many).2.2=false->g'=g)/\x= .tup [oS g' (Qw w t leaves many).1,.d (dTree (Qw w t leaves many).2.1),.d (dB (Qw w t leaves many).2.2)]/\H=hS g' (Qw w t leaves many).1):=by
 have c1:Pure AE 113 [dI many] (dI (Q2 many)):=by
  have:=Qla many
  have e:(if(many:Int)<=1 then 0 else if(many:Int)<=4 then 1 else 2)=((Q2 many:Nat):Int):=by
   unfold Q2;split<;>split<;>(try split)<;>(try split)<;>first|rfl|omega
  rw[e] at this;exact this
 have c2:=eInner g w N hw t;have hd:=Pm.hid (Qw.eq_def w t leaves many);have hdep:AC (Q2 many<=2/\(Q2 many=1->many<=4)):=Pm.hid (by unfold Q2;split<;>(try split)<;>omega);have hE0:(leaves.map rPtr).take (many:Int).toNat=(leaves.take many).map rPtr:=by rw[Int.toNat_natCast,AA]
 have hl0:(leaves.take many).length=many:=by rw[A8];omega
 have hE1:([]:List (List D)).length+((leaves.take many).map rPtr).length=many:=by rw[List.length_map,hl0];simp
 have hlk:AC (∀p∈leaves.take many,Pl.ptrOk p=true):=Pm.hid fun p hp=>hlo p (List.mem_of_mem_take hp)
 generalize leaves.take many=l0 at*;have hold:AC (∀p∈QA w.st t,Pl.ptrOk p=true):=Pm.hid (Qk1 w.st t ht).1;have hol:(QA w.st t).length<=5:=(Qk1 w.st t ht).2;generalize QA w.st t=old at*;generalize Q2 many=dep at*;generalize Qw w t leaves many=res at*;refine kH fun gvs=>?_
 refine Qa 6 (h:=?_)
 repeat' first|refine kS ?_|refine qS (Qre rfl rfl rfl (by omega) (by simp;omega) hE0) ?_|refine Qe1 Ty.h rfl Ty.h (hb:=?_) (hcell:=?_) (kk:=?_)|refine QC [0,1,2,3,4] c2 cK (k:=kX ?_)|refine kU ?_|fail
 ·exact Qd0 l0
 ·simp;omega
 refine QdU [15,11,4,5,8,9,3,12,13,14,1000000] [0,1,2,3,4,5,7,8,9,10] (env':=[(15,.d (dI ((0+1:Nat):Int))),(11,.d (dI dep)),(4,.ptr 5 0 0),(5,.d (.pd [dI t.root.pat,dI t.root.birth,dI t.root.size,dI t.root.sum,dI t.root.level,dI t.depth,dI t.many])),(8,.ptr 6 0 0),(9,.ptr 7 0 0),(3,.d (dI many)),(12,.d (tPtrs old)),(13,.osl 8 1 0 l0.length),(14,.osl 9 0 0 0),(1000000,.gh (gS g w) gvs)])
  (H':=hS g w++[.row 0 (rowS g w),.row 0 zSt,.row 0 zTr,.arr 1 5 31 (l0.map rPtr),.arr 0 5 31 []]) (h:=?_)
 clear hlo hE0 hE1 c1 c2
 refine Qq (fun m st=> ∃(k gl:Nat) (wk:Pl.Sto) (l stays:List Pl.Ptr),k<=dep/\m=dep -k/\AC (Qv w t l0 dep k=(wk,l,stays,true))/\AC (wk.W (N+4*k)/\wk.gone=w.gone/\(∀p∈l,Pl.ptrOk p=true)/\(k=0->l.length=many)/\(k≠0->l.length<=4))/\l.length<=16/\stays.length<=4*k/\
  st=⟨145,[(15,.d (dI ((k+1:Nat):Int))),(11,.d (dI dep)),(4,.ptr 5 0 0),(5,.d (.pd [dI t.root.pat,dI t.root.birth,dI t.root.size,dI t.root.sum,dI t.root.level,dI t.depth,dI t.many])),(8,.ptr 6 0 0),(9,.ptr 7 0 0),(3,.d (dI many)),(12,.d (tPtrs old)),(13,.osl 8 gl 0 l.length),(14,.osl 9 stays.length 0 stays.length),(1000000,.gh (gS g w) gvs)],
   hS g wk++[.row 0 (rowS g wk),.row 0 zSt,.row 0 zTr,.arr gl 5 31 (l.map rPtr),.arr stays.length 5 31 (stays.map rPtr)]⟩) [15,11,4,5,8,9,3,12,13,14,1000000] 10 dep
  ⟨0,1,w,l0,[],by omega,rfl,Pm.hid rfl,Pm.hid ⟨hw,rfl,hlk.out,fun _=>hl0,fun h=>absurd rfl h⟩,by omega,by simp,rfl⟩ (round:=?_)
 rintro m st ⟨k,gl,wk,l,stays,hk,rfl,hL,hF,hll,hsl,rfl⟩;simp only[hS,A1,A3]
 repeat refine kG ?_
 cases q1:decide (((k+1:Nat):Int)<=(dep:Int))
 ·have hkd:k=dep:=by simp at q1;omega
  subst hkd;obtain⟨hWk,hgk,hlk1,_,_⟩:=hF.out;have hd2:=hdep.out.1;have hres:AC (res=(wk.freeL (QaR old stays),⟨l.getD 0 Pl.hole,k,many⟩,true)):=Pm.hid (by rw[hd.out,hL.out];simp);have z4:wk.gone.length=w.gone.length:=by rw[hgk]
  clear hd hL hF hdep hlk hl0;refine Qa 9 (h:=?_);refine Qa 8 (h:=?_);have hTs:(stays.map rPtr).take stays.length=stays.map rPtr:=A0 (by simp);have hTl:(l.map rPtr).take l.length=l.map rPtr:=A0 (by simp);rw[hTs,hTl]
  repeat refine kA ?_
  refine Qq (fun m st=> ∃(i g':Nat) (wi:Pl.Sto),i<=old.length/\m=old.length -i/\AC (wi=wk.freeL (QaR (old.take i) stays))/\AC (wi.W (N+4*k+i))/\(g<g'∨g'=g/\wi.gone.length=w.gone.length)/\
   st=⟨145,[(22,.d (dI i)),(11,.d (dI k)),(4,.ptr 5 0 0),(8,.ptr 6 0 0),(9,.ptr 7 0 0),(3,.d (dI many)),(12,.d (tPtrs old)),(13,.d (tPtrs l)),(14,.d (tPtrs stays)),(1000000,.gh (gS g w) gvs)],
    hS g' wi++[.row 0 (rowS g' wi),.row 0 zSt,.row 0 zTr]⟩) [22,11,4,8,9,3,12,13,14,1000000] 8 old.length
   ⟨0,g,wk,by omega,rfl,Pm.hid rfl,Pm.hid hWk,.inr ⟨rfl,z4⟩,rfl⟩ (round:=?_)
  rintro m st ⟨i,g',wi,hi,rfl,hwi,hWi,hgi,rfl⟩;simp only[hS,A1,A3]
  repeat refine kG ?_
  cases q4:decide ((i:Int)<(old.length:Int))
  ·have hio:i=old.length:=by simp at q4;omega
   have hw2:=hwi.out;rw[hio,A0 (AD _)] at hw2;have hW:=hWi.out;have v0:wi.rows.length=w.rows.length:=by rw[hW.rows,hw.rows]
   have v1:wi.refs.length=w.refs.length:=by rw[hW.refs,hw.refs]
   have v2:wi.last.length=w.last.length:=by rw[hW.last,hw.last]
   have hres2:AC (res=(wi,⟨l.getD 0 Pl.hole,k,many⟩,true)):=Pm.hid (by rw[hres.out,<-hw2]);clear hw2 hwi hWi hres hold hW;cases l with
   |nil=>
    repeat' first|refine kS ?_|(show AWP _ (.region 36 _ _) _ _;refine(Qa 8 (h:=Fg.awp_drawF (id:=36) [1,2,3,4] [5,6] ?_)))|refine kU ?_|fail
    all_goals first|(rcases hgi with hgi|⟨rfl,hgi⟩<;>(refine QO 5 (hx:=?_);rw[hres2.out];refine⟨_,?_,rfl,rfl⟩;intro h;cases h))
   |cons x0 l=>
    have hr0:((x0::l).map rPtr)[(0:Int).toNat]? =some (rPtr x0):=rfl
    repeat' first|refine kS ?_|refine qS (Qdd Ty.h rfl Ty.h rfl rfl rfl (by simp) hr0) ?_|(show AWP _ (.region 36 _ _) _ _;refine(Qa 8 (h:=Fg.awp_drawF (id:=36) [1,2,3,4] [5,6] ?_)))|refine kU ?_|refine kV ?_ ?_<;>intro q|fail
    all_goals first|exfalso;have:=of_decide_eq_false q;omega|(rcases hgi with hgi|⟨rfl,hgi⟩<;>(refine QO 5 (hx:=?_);rw[hres2.out];refine⟨_,?_,rfl,rfl⟩;intro h;cases h))
  have hi2:i<old.length:=by simp at q4;omega
  obtain⟨x,hx⟩: ∃x,old[i]? =some x:=⟨_,A2 hi2⟩;have hr:=Qs (f:=rPtr) hx;have hxo:=hold.out x (A4 hx);have hW:=hWi.out;have cf:=eFree2 g' wi (N+4*k+i) (by omega) hW x hxo;have hWf:=hW.free hxo
  have hun:AC (QaR (old.take (i+1)) stays=QaR (old.take i) stays++(if stays.contains x then [] else [x])):=Pm.hid (by
   unfold QaR;rw[A7,hx,List.filter_append]
   congr 1
   by_cases h:x∈stays<;>simp[h])
  have hF2:AC (wk.freeL (QaR (old.take (i+1)) stays)=if stays.contains x then wi else wi.free x):=Pm.hid (by
   rw[hun.out,hwi.out]
   cases h:stays.contains x<;>simp[Pl.Sto.freeL])
  clear hun hx;generalize wi.free x=wf at*
  repeat refine kA ?_
  refine Qq (fun m st=> ∃j:Nat,j<=stays.length/\m=stays.length -j/\
   st=⟨145,[(24,.d (dI j)),(23,.d (dB ((stays.take j).contains x))),(22,.d (dI i)),(11,.d (dI k)),(4,.ptr 5 0 0),(8,.ptr 6 0 0),(9,.ptr 7 0 0),(3,.d (dI many)),(12,.d (tPtrs old)),(13,.d (tPtrs l)),(14,.d (tPtrs stays)),(1000000,.gh (gS g w) gvs)],
    hS g' wi++[.row 0 (rowS g' wi),.row 0 zSt,.row 0 zTr]⟩) [24,23,22,11,4,8,9,3,12,13,14,1000000] 8 stays.length
   ⟨0,by omega,rfl,rfl⟩ (round:=?_)
  rintro m st ⟨j,hj,rfl,rfl⟩;simp only[hS,A1,A3]
  repeat refine kG ?_
  cases q5:decide ((j:Int)<(stays.length:Int))
  ·have hjs:j=stays.length:=by simp at q5;omega
   rw[hjs,A0 (AD _)];cases hkp:stays.contains x
   ·rw[hkp] at hF2
    simp only[A6,if_false] at hF2
    repeat' first|refine kS ?_|refine qD (iy hr) ?_|(show AWP _ (.region 32 _ _) _ _;refine(Fg.awp_drawF (id:=32) [] [5,6] ?_))|(refine QeP [0,1,2,3,4] cf cK (k:=?_);rintro _ _ ⟨g2,hg2,rfl,rfl⟩;refine QkS (k:=?_))|refine kU ?_|fail
    all_goals first|refine Qg (old.length -(i+1)) (by omega) ⟨i+1,g2,wf,by omega,rfl,Pm.hid hF2.out.symm,Pm.hid hWf,(by rcases hgi with h1|⟨h1,h2⟩<;>rcases hg2 with h3|⟨h3,h4⟩<;>first|(left;omega)|(right;exact⟨by omega,by omega⟩)),?_⟩;simp[keepE,go_sem];done
   ·rw[hkp] at hF2
    simp only[if_true] at hF2
    repeat refine kA ?_
    all_goals first|refine Qg (old.length -(i+1)) (by omega) ⟨i+1,g',wi,by omega,rfl,Pm.hid hF2.out.symm,Pm.hid (hW.le (by omega)),hgi,?_⟩;simp[keepE,go_sem];done
  have hj2:j<stays.length:=by simp at q5;omega
  obtain⟨y,hy⟩: ∃y,stays[j]? =some y:=⟨_,A2 hj2⟩;have hry:=Qs (f:=rPtr) hy
  have hT2:AC ((stays.take (j+1)).contains x=((stays.take j).contains x||decide (y=x))):=Pm.hid (by
   rw[A7,hy]
   by_cases h2:y=x
   ·subst h2;simp
   ·have h3: ¬x=y:=fun h=>h2 h.symm
    simp[h2,h3])
  clear hy cf hF2 hwi hWi hres;generalize (stays.take j).contains x=kb at*
  cases kb<;>(
   repeat' first|refine kS ?_|refine qD (iy hry) ?_|refine qD (iy hr) ?_|refine qD (QlH rfl rfl) ?_|refine kU ?_|fail
   all_goals first
    |(refine Qg (stays.length -(j+1)) (by omega) ⟨j+1,by omega,rfl,?_⟩;rw[hT2.out];simp[keepE,go_sem];done))
 have hk1:k+1<=dep:=by simp at q1;omega
 have hd2:=hdep.out.1;obtain⟨hWk,hgk,hlk1,hlk2,hlk3⟩:=hF.out;have c3:=eOld g wk (N+4*k) hWk t dep (k+1:Nat);have ho1:AC (((k+1:Nat):Int)≠dep->(QM wk.st t dep (k+1:Nat)).length=4):=Pm.hid (Qth _ _ _ _);have ho2:=Qtg wk.st t dep (k+1:Nat);have ho3:AC (∀p∈QM wk.st t dep (k+1:Nat),Pl.ptrOk p=true):=Pm.hid (QqN _ _ _ _ ht)
 have hLk:AC (Qv w t l0 dep (k+1)=((Qz wk (Q3 l) (k+1:Nat) (QM wk.st t dep (k+1:Nat)) ((Q3 l).length/4)).1,(Qz wk (Q3 l) (k+1:Nat) (QM wk.st t dep (k+1:Nat)) ((Q3 l).length/4)).2.1,
  stays++(Qz wk (Q3 l) (k+1:Nat) (QM wk.st t dep (k+1:Nat)) ((Q3 l).length/4)).2.2.1,(Qz wk (Q3 l) (k+1:Nat) (QM wk.st t dep (k+1:Nat)) ((Q3 l).length/4)).2.2.2)):=Pm.hid (by
   simp only[Qv];rw[if_pos (by rw[hL.out]),hL.out])
 generalize QM wk.st t dep (k+1:Nat)=was at*
 repeat' first|refine kS ?_|refine QC [0,1,2,3,4] c3 cK (k:=kX ?_)|refine kU ?_|fail
 clear c3
 refine Qq (fun m st=> ∃(j gl':Nat) (l':List Pl.Ptr),j<=(4 -l.length%4)%4/\m=(4 -l.length%4)%4 -j/\AC (l'=l++List.replicate j Pl.hole)/\l'.length=l.length+j/\
  st=⟨145,[(15,.d (dI ((k+1:Nat):Int))),(11,.d (dI dep)),(4,.ptr 5 0 0),(5,.d (.pd [dI t.root.pat,dI t.root.birth,dI t.root.size,dI t.root.sum,dI t.root.level,dI t.depth,dI t.many])),(8,.ptr 6 0 0),(9,.ptr 7 0 0),(3,.d (dI many)),(12,.d (tPtrs old)),(13,.osl 8 gl' 0 l'.length),(14,.osl 9 stays.length 0 stays.length),(16,.d (tPtrs was)),(17,.osl 10 0 0 0),(1000000,.gh (gS g w) gvs)],
   hS g wk++[.row 0 (rowS g wk),.row 0 zSt,.row 0 zTr,.arr gl' 5 31 (l'.map rPtr),.arr stays.length 5 31 (stays.map rPtr),.arr 0 5 31 []]⟩) [15,11,4,5,8,9,3,12,13,14,16,17,1000000] 11 ((4 -l.length%4)%4)
  ⟨0,gl,l,by omega,rfl,Pm.hid (by simp),by omega,rfl⟩ (round:=?_)
 rintro m st ⟨j,gl',l',hj,rfl,hP,hpl,rfl⟩;simp only[hS,A1,A3]
 repeat refine kG ?_
 repeat' first|refine kS ?_|refine qS (Qg5 rfl rfl (by omega) (by omega)) ?_|refine QV Ty.h rfl Ty.h (hb:=?_) (kk:=?_)|refine kU ?_|refine kV ?_ ?_<;>intro q|fail
 all_goals first|simp;omega|refine Qg ((4 -l.length%4)%4 -(j+1)) (by have:=bne_iff_ne.1 q;omega) ⟨j+1,gl'+1,l'++[Pl.hole],by have:=bne_iff_ne.1 q;omega,rfl,Pm.hid (by rw[hP.out,List.append_assoc,List.replicate_succ']),by simp;omega,?_⟩;simp[keepE,go_sem,Pl.hole];done|skip
 have hjp:j=(4 -l.length%4)%4:=by have:=bne_eq_false_iff_eq.1 q;omega
 have hl4:Q3 l=l':=by rw[hP.out,hjp];rfl
 have hl44:l'.length=4*(l'.length/4):=by have:=bne_eq_false_iff_eq.1 q;omega
 have hlow:AC (∀p∈l',Pl.ptrOk p=true):=Pm.hid fun p hp=>by
  rw[hP.out] at hp;rcases A9.1 hp with hp|hp
  ·exact hlk1 p hp
  ·rw[(List.mem_replicate.1 hp).2];exact QdK
 have hwl:l'.length/4<=was.length:=by
  by_cases h:((k+1:Nat):Int)=dep
  ·have hk4:l.length<=4:=by
    by_cases h0:k=0
    ·have:=hlk2 h0;have:=hdep.out.2 (by omega);omega
    ·exact hlk3 h0
   omega
  ·have:=ho1.out h;omega
 rw[hl4] at hLk;clear hP hl4 hpl hj hjp q hL ho1 hdep hlk1 hlk2 hlk3;refine Qa 8 (h:=?_);have hT:(l'.map rPtr).take l'.length=l'.map rPtr:=A0 (by simp);rw[hT]
 refine Qq (fun m st=> ∃(i:Nat) (wi:Pl.Sto) (next st2:List Pl.Ptr),i<=l'.length/4/\m=l'.length/4 -i/\AC (Qz wk l' (k+1:Nat) was i=(wi,next,st2,true))/\AC (wi.W (N+4*k+i)/\wi.gone=w.gone/\ ∀p∈next,Pl.ptrOk p=true)/\next.length=i/\st2.length<=i/\
  st=⟨145,[(18,.d (dI i)),(15,.d (dI ((k+1:Nat):Int))),(11,.d (dI dep)),(4,.ptr 5 0 0),(5,.d (.pd [dI t.root.pat,dI t.root.birth,dI t.root.size,dI t.root.sum,dI t.root.level,dI t.depth,dI t.many])),(8,.ptr 6 0 0),(9,.ptr 7 0 0),(3,.d (dI many)),(12,.d (tPtrs old)),(13,.d (tPtrs l')),(14,.osl 9 (stays++st2).length 0 (stays++st2).length),(16,.d (tPtrs was)),(17,.osl 10 next.length 0 next.length),(1000000,.gh (gS g w) gvs)],
   hS g wi++[.row 0 (rowS g wi),.row 0 zSt,.row 0 zTr,.arr (gl'+1) 5 31 [],.arr (stays++st2).length 5 31 ((stays++st2).map rPtr),.arr next.length 5 31 (next.map rPtr)]⟩) [18,15,11,4,5,8,9,3,12,13,14,16,17,1000000] 11 (l'.length/4)
  ⟨0,wk,[],[],by omega,rfl,Pm.hid rfl,Pm.hid ⟨hWk,hgk,by simp⟩,rfl,by simp,by simp[keepE,go_sem]⟩ (round:=?_)
 rintro m st ⟨i,wi,next,st2,hi,rfl,hFi,hGi,hnl,hs2,rfl⟩;simp only[hS,A1,A3]
 repeat refine kG ?_
 cases q3:decide (((i:Int)*4)<(l'.length:Int))
 ·have hic:i=l'.length/4:=by simp at q3;omega
  rw[<-hic,hFi.out] at hLk;obtain⟨g1,g2,g3⟩:=hGi.out;have g4:=g1.le (M:=N+4*(k+1)) (by omega);have hnl4:next.length<=4:=by omega
  clear hFi hGi hF hT hwl ho2 ho3 hlow
  repeat' first|refine kS ?_|refine qD (Qd3 rfl rfl (by omega)) ?_|refine qS (Qd3 rfl rfl (by omega)) ?_|refine kU ?_|refine kV ?_ ?_<;>intro q|fail
  all_goals first|exact absurd (‹decide ((i:Int)*4<(l'.length:Int))=true›.symm.trans q3) (by decide)|refine Qen (dep -(k+1)) [15,11,4,5,8,9,3,12,13,14,1000000] [0,1,2,3,4,5,6,7,10,9] (by omega) ⟨k+1,next.length,wi,next,stays++st2,hk1,rfl,hLk,Pm.hid ⟨g4,g2,g3,fun h=>by omega,fun _=>hnl4⟩,by omega,by simp;omega,rfl⟩
 have hic:i<l'.length/4:=by simp at q3;omega
 obtain⟨g1,g2,g3⟩:=hGi.out;obtain⟨x,hx⟩: ∃x,was[i]? =some x:=⟨_,A2 (by omega)⟩;have hxo:Pl.ptrOk x=true:=ho3.out x (A4 hx);have hr:=Qs (f:=rPtr) hx;have hxd:was.getD i Pl.hole=x:=by rw[List.getD_eq_getElem?_getD,hx];rfl
 have hch:((l'.map rPtr).take (((i:Int)+1)*4).toNat).drop ((i:Int)*4).toNat=((l'.take (4*(i+1))).drop (4*i)).map rPtr:=by
  have h1:(((i:Int)+1)*4).toNat=4*(i+1):=by omega
  have h2:((i:Int)*4).toNat=4*i:=by omega
  rw[h1,h2,List.map_drop,AA]
 have hcl:((l'.take (4*(i+1))).drop (4*i)).length=4:=by rw[List.length_drop,A8];omega
 have hy:=QrD g1 (l:=(l'.take (4*(i+1))).drop (4*i)) (level:=((k+1:Nat):Int)) hxo
 have hstep:AC (Qz wk l' (k+1:Nat) was (i+1)=if(Qaj wi ((l'.take (4*(i+1))).drop (4*i)) (k+1:Nat) x).2.2 then((Qaj wi ((l'.take (4*(i+1))).drop (4*i)) (k+1:Nat) x).1,next++[(Qaj wi ((l'.take (4*(i+1))).drop (4*i)) (k+1:Nat) x).2.1],st2++(if(Qaj wi ((l'.take (4*(i+1))).drop (4*i)) (k+1:Nat) x).2.1=x then [x] else []),true) else(wi,next,st2,false)):=Pm.hid (by
  simp only[Qz,hFi.out,hxd,if_true])
 have cF:=(eFan g wi (N+4*k+i) (by omega) g1 ((l'.take (4*(i+1))).drop (4*i)) hcl ((k+1:Nat):Int) x hxo).arg (l:=[oS g wi,.d (tPtrs ((l'.take (4*(i+1))).drop (4*i))),.d (dI ((k+1:Nat):Int)),.d (dPtr x)]);have hyf:=Qp3 (w:=wi) (l:=(l'.take (4*(i+1))).drop (4*i)) (level:=((k+1:Nat):Int)) (old:=x);generalize (l'.take (4*(i+1))).drop (4*i)=ch at*;generalize Qaj wi ch ((k+1:Nat):Int) x=y at*;obtain⟨w2,p2,ok2⟩:=y;simp only at hy hstep cF hyf;obtain⟨y1,y2,y3⟩:=hy;have z3:w2.gone.length=wi.gone.length:=by rw[y3]
 have hno: ∀p∈next++[p2],Pl.ptrOk p=true:=fun p hp=>by
  rcases A9.1 hp with hp|hp
  ·exact g3 p hp
  ·rw[List.mem_singleton.1 hp];exact y2
 cases ok2
 ·obtain rfl:w2=wi:=hyf rfl
  have hs2:Qz wk l' (k+1:Nat) was (l'.length/4)=(w2,next,st2,false):=by
   have h1:=hstep.out;simp only[A6,if_false] at h1;have h2:=QjN (show(Qz wk l' (k+1:Nat) was (i+1)).2.2.2=false by rw[h1]) (l'.length/4 -(i+1));rw[A5 (by omega:i+1<=l'.length/4),h1] at h2;exact h2
  have hs3:Qv w t l0 dep dep=(w2,next,stays++st2,false):=by
   have h1:=hLk.out;rw[hs2] at h1;have h2:=Qrk (show(Qv w t l0 dep (k+1)).2.2.2=false by rw[h1]) (dep -(k+1));rw[A5 hk1,h1] at h2;exact h2
  have hres:AC (res=(w2,⟨Pl.hole,0,0⟩,false)):=Pm.hid (by rw[hd.out,hs3];simp);have z4:w2.gone.length=w.gone.length:=by rw[g2]
  have v0:w2.rows.length=w.rows.length:=by rw[g1.rows,hw.rows]
  have v1:w2.refs.length=w.refs.length:=by rw[g1.refs,hw.refs]
  have v2:w2.last.length=w.last.length:=by rw[g1.last,hw.last]
  clear hs2 hs3 hd hLk hstep hFi hGi hF hno hT hlow ho3 hyf y3 z3
  repeat' first|refine kS ?_|refine qD (Qd3 rfl rfl (by omega)) ?_|refine qS (Qd3 rfl rfl (by omega)) ?_|refine qD (QjC rfl rfl rfl rfl (by omega) (by omega) (by simp;omega) hch) ?_|refine qD (iy hr) ?_|(show AWP _ (.region 15 _ _) _ _;refine(Fk.awp_drawG (id:=15) [14,16,17,18,19] [13,20,21] [(18,.row 0 zSt),(19,.row 0 zPt)] [] 13 77 (.tup [oS g w2,.d (dPtr p2),.d (dB false)]) ?_))|refine(Fk.aw_fltA 11 ?_)|refine(Fk.aw_fltA 12 ?_)|refine(Fk.aw_planC0 (by rfl) (by kernel_rfl) rfl ?_)|refine Fk.aw_callM [0,1,2,3,4] cF cK (k:=kY ?_)|refine kU ?_|refine kV ?_ ?_<;>intro q|fail
  all_goals first|exact absurd (‹decide ((i:Int)*4<(l'.length:Int))=false›.symm.trans q3) (by decide)|refine QO 5 (hx:=?_);rw[hres.out];exact⟨g,fun _=>rfl,rfl,rfl⟩
 simp only[if_true] at hstep
 repeat' first|refine kS ?_|refine qD (Qd3 rfl rfl (by omega)) ?_|refine qS (Qd3 rfl rfl (by omega)) ?_|refine qD (QjC rfl rfl rfl rfl (by omega) (by omega) (by simp;omega) hch) ?_|refine qD (iy hr) ?_|(show AWP _ (.region 15 _ _) _ _;refine(Fk.awp_drawG (id:=15) [14,16,17,18,19] [13,20,21] [(18,.row 0 zSt),(19,.row 0 zPt)] [] 13 77 (.tup [oS g w2,.d (dPtr p2),.d (dB true)]) ?_))|refine(Fk.aw_fltA 11 ?_)|refine(Fk.aw_fltA 12 ?_)|refine(Fk.aw_planC0 (by rfl) (by kernel_rfl) rfl ?_)|refine Fk.aw_callM [0,1,2,3,4] cF cK (k:=kY ?_)|refine qD (QlH rfl rfl) ?_|refine QV Ty.h rfl Ty.h (hb:=?_) (kk:=?_)|refine kU ?_|refine kV ?_ ?_<;>intro q|fail
 all_goals first
  |(simp;omega)
  |exact absurd (‹decide ((i:Int)*4<(l'.length:Int))=false›.symm.trans q3) (by decide)
  |(have hpx:p2=x:=of_decide_eq_true ‹decide (p2=x)=true›
    refine Qg (l'.length/4 -(i+1)) (by omega) ⟨i+1,w2,next++[p2],st2++[x],by omega,rfl,Pm.hid (by rw[hstep.out,if_pos hpx]),Pm.hid ⟨y1,y3.trans g2,hno⟩,by simp;omega,by simp;omega,?_⟩
    subst hpx;simp[keepE,go_sem,AB];done)
  |(have hpx: ¬p2=x:=of_decide_eq_false ‹decide (p2=x)=false›
    refine Qg (l'.length/4 -(i+1)) (by omega) ⟨i+1,w2,next++[p2],st2,by omega,rfl,Pm.hid (by rw[hstep.out,if_neg hpx,List.append_nil]),Pm.hid ⟨y1,y3.trans g2,hno⟩,by simp;omega,by omega,?_⟩
    simp[keepE,go_sem,AB];done)

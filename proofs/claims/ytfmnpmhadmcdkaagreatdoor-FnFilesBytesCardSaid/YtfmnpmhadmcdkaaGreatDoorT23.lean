/- Of fby_card; no condition. -/
import Derived.Test.YtfmnpmhadmcdkaaGreatDoorT20
import Derived.Test.YtfmnpmhadmcdkaaGreatDoorT21
import Derived.Test.YtfmnpmhadmcdkaaGreatDoorT22
set_option linter.all false
set_option maxRecDepth 100000
set_option maxHeartbeats 8000000
open Bool renaming false_eq_true->AO
open Go renaming Value->Ab
open Go.Proofs.Tryz renaming prog->A3,underlying22->AP
open Go.RowKit renaming Hid->AQ
open Go.Value renaming cells->Aa
open List renaming getElem?_eq_getElem->A0,getD_eq_getElem?_getD->A1,take_of_length_le->A2,replicate->A4,range->A5,flatMap_cons->A7,mem_append_left->A8,length_pos_iff->A9,mem_append_right->AA,map_congr_left->AB,length_append->AC,mem_take_iff_getElem->AD,append_assoc->AE,foldl_append->AF,length_cons->AG,length_take->AH,length_eq_zero_iff->AI,range_succ->AK,perm_append_comm->AL,mem_of_getElem?->AN,length_drop->AR,append_nil->AT,nil_append->AU,foldl_cons->AW,foldl_nil->AX
open List.Perm renaming append_left->A6,append_right->AJ
open List.Sublist renaming append->Ac
open Nat renaming mul_le_mul_right->AM,le_refl->AS,le_trans->AY,zero_add->AZ
namespace Go.Proofs.YtfmnpmhadmcdkaaGreatDoor
noncomputable section
section
open Go.RowKit
namespace Aw
attribute [local irreducible] ASeq ADraw AWP Loc
theorem Qtx(s:Pm.Space)(h1:s.1.length<=Pm.big)(h2:s.2.length<=Pm.big):Pure A3 58 [dSpace s] (dB (Pl.spaceOk s)):=by
 obtain⟨refs,last⟩:=s;simp only[Pm.big] at h1 h2
 skip
 refine kN ?_;simp only[parE,dSpace];refine kR ?_;refine Qa 0 (h:=?_)
 repeat refine kG ?_
 cases q1:((refs.length:Int) !=64);rotate_left
 ·repeat refine kG ?_
  exact Qb (hx:=congrArg dB (by simp at q1;simp[Pl.spaceOk];intros;omega))
 repeat refine kG ?_
 cases q2:((last.length:Int) !=64);rotate_left
 ·repeat refine kG ?_
  exact Qb (hx:=congrArg dB (by simp at q2;simp[Pl.spaceOk];intros;omega))
 repeat refine kG ?_
 simp at q1 q2;refine Qo (fun m s=> ∃k:Nat,k<=64/\m=64 -k/\(A5 k).all (Pl.QdN refs last)=true/\s=⟨55,[(19,.d (dI k)),(17,.d (dInts refs)),(18,.d (dI refs.length)),(1,.d (.pd [dInts refs,dInts last]))],[]⟩) [19,17,18,1] 0 64 ⟨0,by omega,rfl,rfl,rfl⟩ (round:=?_);rintro m s ⟨k,hk,rfl,hF,rfl⟩
 repeat refine kG ?_
 cases q3:decide ((k:Int)<(refs.length:Int))
 ·repeat refine kA ?_
  have:k=64:=by simp at q3;omega
  subst this;exact Qb (hx:=congrArg dB (by simp[Pl.spaceOk,hF];omega))
 simp at q3;have hk':k<64:=by omega
 have hk1:k<refs.length:=by omega
 have hk2:k<last.length:=by omega
 have hr1:=Qt (f:=fun n=>[dI n]) (A0 hk1);have hr2:=Qt (f:=fun n=>[dI n]) (A0 hk2)
 have hrow:Pl.QdN refs last k=Pl.QdC k refs[k] last[k]:=by
  unfold Pl.QdN;rw[A1,A1,A0 hk1,A0 hk2];rfl
 generalize refs[k]=a at*;generalize last[k]=b at*;have T:AQ (Pl.QdC k a b=true->(A5 (k+1)).all (Pl.QdN refs last)=true):=fun h=>Pl.Qdd hF (hrow.trans h)
 have F:AQ (Pl.QdC k a b=false->Pl.spaceOk (refs,last)=false):=fun h=>by simp[Pl.spaceOk,Pl.Qda hk' (hrow.trans h)]
 clear hrow hF
 repeat' first|refine kS ?_|refine qS (Qdh cK (bIn _ _ _) rfl) ?_|refine qS (iy hr1) ?_|refine qS (iy hr2) ?_|refine kU ?_|refine kV ?_ ?_<;>intro q|fail
 all_goals clear hr1 hr2
 all_goals first|exact Qb (hx:=congrArg dB (F.out (by simp_all[Pl.QdC,Pl.inR];try omega)).symm)|exact Qh (64 -(k+1)) (by omega) ⟨k+1,by omega,rfl,T.out (by simp_all[Pl.QdC,Pl.inR];try omega),rfl⟩
end Aw
end
section
namespace Aw
variable{p:Pl.Ptr}{α:Type}
def Qbc(s:Pm.Store):Nat->Pl.Ptr->List Pl.Ptr
 |0,p=>if Pl.ptrHole p then [] else [p]
 |n+1,p=>if Pl.ptrHole p then [] else p::(Qi s p (n+1:Nat)).1.flatMap (Qbc s n)
def Qce(s:Pm.Store):Nat->Pl.Ptr->Prop
 |0,p=>Pl.ptrHole p=true∨(Pl.ptrOk p=true/\p.level=0/\p.birth<=s.2.2.1)
 |n+1,p=>Pl.ptrHole p=true∨(Pl.ptrOk p=true/\p.level=(n+1:Nat)/\p.birth<=s.2.2.1/\(Qi s p (n+1:Nat)).2=true/\ ∀q∈(Qi s p (n+1:Nat)).1,Qce s n q)
theorem QfQ(s:Pm.Store)(n:Nat)(h:Pl.ptrHole p=true):Qbc s n p=[]:=by
 cases n<;>grind [Qbc]
theorem QmX{s:Pm.Store}{n:Int}(h:(Qi s p n).2=true)(hh:Pl.ptrHole p≠true):p.level=n:=by grind [Qi]
theorem QpI(s:Pm.Store)(htx:0<=s.2.2.1): ∀(n:Nat) (l:List Pl.Ptr),(QaY s n l).2=true->(∀p∈l,Pl.ptrOk p=true/\p.birth<=s.2.2.1)->(∀p∈(QaY s n l).1,Qce s 0 p)-> ∀p∈l,Qce s n p
 |0,l,_,_,h3=>h3
 |n+1,l,h1,h2,h3=>by
  unfold QaY at h1 h3;split at h1
  ·rename_i ha
   rw[if_pos ha] at h3;have hb: ∀p∈l,(Qi s p (n+1:Nat)).2=true:=fun p hp=>List.all_eq_true.1 ha p hp
   have ih:=QpI s htx n _ h1 (fun q hq=>by
    grind [QiP]) h3
   intro p hp
   by_cases hh:Pl.ptrHole p=true
   ·exact .inl hh
   ·exact .inr ⟨(h2 p hp).1,QmX (hb p hp) hh,(h2 p hp).2,hb p hp,fun q hq=>ih q (List.mem_flatMap.2 ⟨p,hp,hq⟩)⟩
  grind
theorem Qhn(h:Pl.ptrHole p=true):p.level=0:=by grind [Pl.hole,Pl.ptrHole]
theorem QkR{s:Pm.Store}{n:Nat}(h:Qce s n p):Qbc s n p=Qbc s p.level.toNat p/\Qce s p.level.toNat p/\0<=p.level/\p.level<=n/\Pl.ptrOk p=true:=by
 by_cases hh:Pl.ptrHole p=true
 ·refine⟨by grind [QfQ],?_,?_,?_,?_⟩
  ·rw[Qhn hh];exact .inl hh
  ·grind [Qhn]
  ·grind [Qhn]
  grind [Pl.ptrHole,QdA]
 ·have hl:p.level=n/\Pl.ptrOk p=true:=by
   cases n with
   |zero=>
    rcases h with h|h
    ·grind
    grind
   |succ n=>
    rcases h with h|h
    ·grind
    grind
  grind
theorem QoV{β:Type}(f g:α->List β): ∀l:List α,(∀x∈l,f x=g x)->l.flatMap f=l.flatMap g
 :=by intro l;induction l<;>grind
def Qb4:Nat->Nat
 |0=>1
 |n+1=>4*Qb4 n+1
theorem Qp5: ∀n,1<=Qb4 n
 :=by intro l;induction l<;>grind [Qb4]
theorem QjT{n m:Nat}(h:n<=m):Qb4 n<=Qb4 m:=by
 induction m with
 |zero=>grind
 |succ m ih=>
  grind [Qb4]
theorem sum_le(f:α->Nat)(c:Nat): ∀l:List α,(∀x∈l,f x<=c)->(l.map f).sum<=l.length*c
 :=by intro l;induction l<;>grind [Nat.succ_mul]
theorem Qok(s:Pm.Store): ∀(n:Nat) (p:Pl.Ptr),(Qbc s n p).length<=Qb4 n
 |0,p=>by grind [Qbc,Qb4]
 |n+1,p=>by
  unfold Qbc;split
  ·simp
  ·rw[AG,List.length_flatMap]
   have h1:=sum_le (fun q=>(Qbc s n q).length) (Qb4 n) (Qi s p (n+1:Nat)).1 fun q _=>Qok s n q
   have h2:=QeK s p (n+1:Nat);have h3:(Qi s p (n+1:Nat)).1.length*Qb4 n<=4*Qb4 n:=AM _ h2
   grind [Qb4]
def QaW(l:List Pl.Ptr):Nat:=(l.map fun p=>Qb4 p.level.toNat).sum
def Qb3(s:Pm.Store)(l:List Pl.Ptr):List Pl.Ptr:=l.flatMap fun p=>Qbc s p.level.toNat p
def QcC(s:Pm.Store)(l:List Pl.Ptr):Prop:= ∀p∈l,Qce s p.level.toNat p/\0<=p.level
theorem Qif(p:Pl.Ptr)(l:List Pl.Ptr):QaW (p::l)=Qb4 p.level.toNat+QaW l:=rfl
theorem Qsq(l m:List Pl.Ptr):QaW (l++m)=QaW l+QaW m:=by unfold QaW;grind
theorem Qnj(l:List Pl.Ptr):l.length<=QaW l:=by
 induction l with
 |nil=>simp
 |cons p l ih=>grind [Qif,Qp5]
theorem QtA{s:Pm.Store}{l:List Pl.Ptr}(h:Pl.ptrHole p=true):Qb3 s (p::l)=Qb3 s l:=by grind [Qb3,QfQ]
theorem Qt9{s:Pm.Store}{l:List Pl.Ptr}(h:Pl.ptrHole p=false)(h0:p.level=0):Qb3 s (p::l)=p::Qb3 s l:=by simp_all[Qb3,Qbc]
theorem Qt8{s:Pm.Store}{l:List Pl.Ptr}(h:Pl.ptrHole p=false)(h0:0<p.level)(hs:Qce s p.level.toNat p):
 Qb3 s (p::l)=p::Qb3 s ((Qi s p p.level).1++l)/\QcC s (Qi s p p.level).1/\QaW ((Qi s p p.level).1++l)<QaW (p::l):=by
 obtain⟨n,hn⟩: ∃n:Nat,p.level=(n+1:Nat):=⟨p.level.toNat -1,by omega⟩;have e:p.level.toNat=n+1:=by omega
 rw[e] at hs;rcases hs with hs|⟨_,_,_,h3,h4⟩
 ·grind
 refine⟨?_,?_,?_⟩
 ·grind [Qb3,Qbc,QoV,QkR]
 ·rw[hn];exact fun q hq=>⟨(QkR (h4 q hq)).2.1,(QkR (h4 q hq)).2.2.1⟩
 ·rw[Qsq,Qif,hn,show((n+1:Nat):Int).toNat=n+1 from rfl]
  have h1:=sum_le (fun q:Pl.Ptr=>Qb4 q.level.toNat) (Qb4 n) (Qi s p (n+1:Nat)).1 fun q hq=>QjT (by have:=(QkR (h4 q hq)).2.2.2.1;omega)
  have h2:=QeK s p (n+1:Nat);have h5:(Qi s p (n+1:Nat)).1.length*Qb4 n<=4*Qb4 n:=AM _ h2
  grind [Qb4,QaW]
def Qan(s:Pm.Store)(t:Pl.Tree):List Pl.Ptr:=Qbc s t.depth.toNat t.root
def QhX{s:Pm.Store}{t:Pl.Tree}(h:t.depth<=2):(Qan s t).length<=21:=
 AY (Qok s _ _) (AY (QjT (show t.depth.toNat<=2 by omega)) (by decide))
theorem Qe6{s:Pm.Store}(h:Qaa s=true):0<=s.2.2.1:=by grind [Qaa,Pl.inR]
end Aw
end
section
open Go.RowKit
namespace Aw
variable{t:Pl.Tree}{w w' w2:Pl.Sto}{p:Pl.Ptr}{k g1 g2:Nat}{wd:World}{σ:Sg}{a:D}{args:List AV}
attribute [local irreducible] ASeq ADraw AWP Loc AStep Fg.PlanF Fg.Flts EndR
def dAll(s:Pm.Store)(hg:QP s)(t:Pl.Tree)(ht:Qx t)(hsub:Qce s t.depth.toNat t.root):Does A3 281 [.d (dSt s),.d (dTree t)] [] [] (.osl 0 (Qan s t).length 0 (Qan s t).length) [.arr (Qan s t).length 5 31 ((Qan s t).map rPtr)]:=by
 obtain⟨e1,e2,e3,e4,_⟩:=QkR hsub;have hall:AQ ([]++Qb3 s [t.root]=Qan s t):=Pm.hid (by unfold Qan Qb3;rw[e1];simp);have hlen:=QhX (s:=s) ht.hi;have hL:AQ (QcC s [t.root]):=Pm.hid fun p hp=>by rw[List.mem_singleton.1 hp];exact⟨e2,e3⟩
 have hm0:QaW [t.root]<=21:=by
  have h1:=QjT (n:=t.root.level.toNat) (m:=2) (by have:=ht.hi;omega);have h2:Qb4 2=21:=rfl;have h3:QaW [t.root]=Qb4 t.root.level.toNat+0:=rfl;omega
 generalize Qan s t=all at*;clear e1 e2 e3 e4 hsub ht;refine kL ?hpin fun gvs=>?_
 case hpin=>intro i C hC;simp at hC
 simp only[parA,gslot,AZ];refine kR ?_;refine Qa 0 (h:=?_);refine Qa 1 (h:=?_)
 repeat refine kA ?_
 refine Qa 3 (h:=?_)
 refine Qo (fun m st=> ∃(out l:List Pl.Ptr),m=QaW l/\AQ (out++Qb3 s l=all)/\AQ (QcC s l)/\QaW l<=21/\
  st=⟨47,[(5,.osl 2 out.length 0 out.length),(6,.d (tPtrs l)),(2,.d (.pd (rSt s))),(1000000,.gh [] gvs)],[.row 1 [],.row 1 [],.arr out.length 5 31 (out.map rPtr)]⟩) [5,6,2,1000000] 3 (QaW [t.root]) ⟨[],[t.root],rfl,hall,hL,hm0,by simp[keepE,go_sem]⟩ (round:=?_)
 rintro m st ⟨out,l,rfl,hO,hS,hm,rfl⟩;have hol:out.length<=21:=by have:=congrArg List.length hO.out;rw[AC] at this;omega
 have hll:=Qnj l
 repeat refine kG ?_
 cases l with
 |nil=>
  repeat refine kA ?_
  all_goals first|exfalso;simp at*;done|skip
  have h:=hO.out;rw[show Qb3 s []=[] from rfl,AT] at h;rw[<-h];refine QdI [4,1000000] [2] (env':=[(4,.osl 0 out.length 0 out.length),(1000000,.gh [] gvs)]) (H':=[.arr out.length 5 31 (out.map rPtr)]) (h:=?_);exact QdB (hx:=rfl) (hH:=rfl)
 |cons p l=>
  have hp:=hS.out p (by simp);have hSl:AQ (QcC s l):=Pm.hid fun q hq=>hS.out q (by simp[hq])
  have hr:((p::l).map rPtr)[(0:Int).toNat]? =some (rPtr p):=rfl;have ch:=Qdk p;have hlt:QaW l<QaW (p::l):=by rw[Qif];have:=Qp5 p.level.toNat;omega
  have hll2:=Qnj l;cases hh:Pl.ptrHole p;rotate_left
  ·rw[hh] at ch
   have hO2:AQ (out++Qb3 s l=all):=Pm.hid (by rw[<-hO.out,QtA hh])
   repeat' first|refine kS ?_|refine qS (iy hr) ?_|refine qS (QgF rfl rfl rfl (by omega) (by first|(simp;done)|(simp;omega))) ?_|refine Qet Ty.h rfl Ty.h (hb:=?_) (hcell:=?_) (kk:=?_)|refine kU ?_|refine kV ?_ ?_<;>intro q|fail
   all_goals first|exact Qdq l|simp;omega|exfalso;simp at*;done|skip
   refine QiV 4 (h:=?_);refine Qh (QaW l) hlt ⟨out,l,rfl,hO2,hSl,by omega,?_⟩;simp[keepE,go_sem,A2]
  ·rw[hh] at ch
   have hob:=Qol s hg p p.level
   by_cases h0:p.level=0
   ·have hO2:AQ ((out++[p])++Qb3 s l=all):=Pm.hid (by rw[<-hO.out,Qt9 hh h0,AE];rfl)
    have hd0:decide (p.level>0)=false:=by rw[h0];rfl
    repeat' first|refine kS ?_|refine qS (iy hr) ?_|refine qS (QgF rfl rfl rfl (by omega) (by first|(simp;done)|(simp;omega))) ?_|refine Qet Ty.h rfl Ty.h (hb:=?_) (hcell:=?_) (kk:=?_)|refine QV Ty.h rfl Ty.h (hb:=?_) (kk:=?_)|refine kU ?_|refine kV ?_ ?_<;>intro q|fail
    all_goals first|exact Qdq l|simp;omega|exfalso;simp at*;done|exfalso;simp at*;omega|skip
    refine QiV 4 (h:=?_);refine Qh (QaW l) hlt ⟨out++[p],l,rfl,hO2,hSl,by omega,?_⟩;simp[keepE,go_sem,A2]
   ·obtain⟨k1,k2,k3⟩:=Qt8 (l:=l) hh (by omega) hp.1
    have hO2:AQ ((out++[p])++Qb3 s ((Qi s p p.level).1++l)=all):=Pm.hid (by rw[<-hO.out,k1,AE];rfl);have hSn:AQ (QcC s ((Qi s p p.level).1++l)):=Pm.hid fun q hq=>(List.mem_append.1 hq).elim (k2 q) (hSl.out q)
    have hbl:=QeK s p p.level;clear k1 k2;generalize Qi s p p.level=bb at*;obtain⟨bl,bok⟩:=bb;simp only at hO2 hSn hbl k3
    repeat' first|refine kS ?_|refine qS (iy hr) ?_|refine qS (QgF rfl rfl rfl (by omega) (by first|(simp;done)|(simp;omega))) ?_|refine Qet Ty.h rfl Ty.h (hb:=?_) (hcell:=?_) (kk:=?_)|refine QV Ty.h rfl Ty.h (hb:=?_) (kk:=?_)|refine kU ?_|refine kV ?_ ?_<;>intro q|fail
    all_goals first|exact Qdq l|exact Qdq bl|simp;omega|exfalso;simp at*;done|exfalso;simp at*;omega|skip
    refine Qeo 4 (h:=?_)
    repeat' first|refine kS ?_|refine Qet Ty.h rfl Ty.h (hb:=?_) (hcell:=?_) (kk:=?_)|refine kU ?_|fail
    ·intro r hr
     exact Qdq l r (by simpa[A2] using hr)
    ·simp;omega
    ·refine QiV 6 (h:=?_)
     refine Qh (QaW (bl++l)) k3 ⟨out++[p],bl++l,rfl,hO2,hSn,by omega,?_⟩;simp[keepE,go_sem,A2]
attribute [local irreducible] Fk.PlanF Fk.Flts Fk.AStepM Fk.Grew Fk.Gs
def eCut(g:Nat)(w:Pl.Sto)(N:Nat)(hN:N<=800000)(hw:w.W N)(t:Pl.Tree)(ht:Qx t)(many:Nat)(hm:many<=16):
 DoesE A3 282 [oS g w,.d (dTree t),.d (dI many)] (hS g w) (gS g w) (fun x H=> ∃g',((QM w t many).2.2=false->g'=g)/\x= .tup [oS g' (QM w t many).1,.d (dTree (QM w t many).2.1),.d (dB (QM w t many).2.2)]/\H=hS g' (QM w t many).1):=by
 have hd:=Pm.hid (QM.eq_def w t many);have hgood:=hw.good;have c1:=dWide w.st hgood t ht;have hl:=Qd3 w.st ht.hi;have ho:=Qfn w.st ht.root;have c2:=pinS (X:=fun g'=> .tup [oS g' (Qw w t (Qe w.st t) many).1,.d (dTree (Qw w t (Qe w.st t) many).2.1),.d (dB (Qw w t (Qe w.st t) many).2.2)]) (C:=fun g'=>(Qw w t (Qe w.st t) many).2.2=false->g'=g) (eLay g w N (by omega) hw t ht.root (Qe w.st t) hl ho many hm);have hW:=(lay_W hw ht.root ho hm).1;have hsim:=fun h=>Qi0 (w:=w) (t:=t) (leaves:=Qe w.st t) (many:=many) h
 have hT:((Qe w.st t).map rPtr).take 16=(Qe w.st t).map rPtr:=A2 (by simp[hl])
 have hfl:[Blk.arr 2 5 31 ((Qe w.st t).map rPtr)].all Blk.flat=true:=by
  simp[Blk.flat];intro x _;exact⟨rfl,rfl,rfl,rfl,rfl⟩
 generalize QM w t many=res at*;generalize Qe w.st t=wd at*;generalize Qw w t wd many=y at*;obtain⟨w2,t2,ok2⟩:=y;simp only at c2 hd hW hsim
 by_cases hq:(many:Int)=t.many
 ·rw[if_pos hq] at hd
  clear c1 c2 hsim;have hb:AQ (((many:Int)==t.many)=true):=Pm.hid (by simpa using hq);refine kH fun gvs=>?_
  refine Qa 6 (h:=?_)
  repeat' first|refine kS ?_|(show AWP _ (.region 2 _ _) _ _;refine(Fg.awp_drawF (id:=2) [1] [2,3] ?_))|refine kU ?_|refine kV ?_ ?_<;>intro q|fail
  all_goals first|exact absurd (hb.out.symm.trans ‹((many:Int)==t.many)=false›) (by decide)|refine QN 5 (hx:=?_);rw[hd.out];exact⟨g,fun _=>rfl,rfl,rfl⟩
 rw[if_neg hq] at hd;have hb:AQ (((many:Int)==t.many)=false):=Pm.hid (by simpa using hq);rw[<-show(AV.d (.sl true 5 ((wd.map rPtr).take 16)))= .d (tPtrs wd) by rw[hT]] at c2;have hm0:=ht.manyLo;have hm1:=ht.manyHi;have w0:w2.rows.length=w.rows.length:=by rw[hW.rows,hw.rows]
 have w1:w2.refs.length=w.refs.length:=by rw[hW.refs,hw.refs]
 have wl2:w2.last.length=w.last.length:=by rw[hW.last,hw.last]
 cases ok2
 ·obtain⟨z1,z2,z3⟩:=hsim rfl
  have z4:w2.gone.length=w.gone.length:=by rw[z1]
  simp only[AO,if_false] at hd;clear hsim;refine kH fun gvs=>?_
  refine Qa 6 (h:=?_)
  repeat' first|refine kS ?_|refine(QdK (ds:=[dTree t]) c1 cK hw rfl hfl (k:=?_))|refine(Qa 9 (C:= .arr 2 5 31 (wd.map rPtr)) (h:=?_))|(refine QA [0,1,2,3,4] c2 cK (k:=?_);rintro _ _ ⟨g2,hg2,hC,rfl,rfl⟩;refine Qd1 (k:=?_))|(show AWP _ (.region 6 _ _) _ _;refine(Fg.awp_drawF (id:=6) [1] [2,3] ?_))|refine kU ?_|refine kV ?_ ?_<;>intro q|fail
  all_goals first
   |exact absurd (hb.out.symm.trans ‹((many:Int)==t.many)=true›) (by decide)
   |(obtain rfl:=hC rfl
     refine QN 5 (hx:=?_);rw[hd.out];refine⟨_,fun _=>rfl,?_,rfl⟩
     simp only[oS,z1,z2,z3];rfl)
 simp only[if_true] at hd;clear hsim;refine kH fun gvs=>?_
 refine Qa 6 (h:=?_)
 repeat' first|refine kS ?_|refine(QdK (ds:=[dTree t]) c1 cK hw rfl hfl (k:=?_))|refine(Qa 9 (C:= .arr 2 5 31 (wd.map rPtr)) (h:=?_))|(refine QA [0,1,2,3,4] c2 cK (k:=?_);rintro _ _ ⟨g2,hg2,hC,rfl,rfl⟩;refine Qd1 (k:=?_))|refine kU ?_|refine kV ?_ ?_<;>intro q|fail
 all_goals first|exact absurd (hb.out.symm.trans ‹((many:Int)==t.many)=true›) (by decide)|skip
 refine Qa 11 (h:=?_);refine QdI [13,9,10,11,6,7,1000000] [0,1,2,3,4,7,8,10] (env':=[(13,.d (dI many)),(9,.d (.sl true 5 ((wd.map rPtr).take 16))),(10,.ptr 7 0 0),(11,.d (.pd [dI t2.root.pat,dI t2.root.birth,dI t2.root.size,dI t2.root.sum,dI t2.root.level,dI t2.depth,dI t2.many])),(6,.ptr 5 0 0),(7,.ptr 6 0 0),(1000000,.gh (gS g w) gvs)]) (H':=hS g2 w2++[.row 0 zSt,.row 0 zTr,.row 0 (rowS g2 w2)]) (h:=?_);rw[hT];clear c1 c2 hT hC
 refine Qo (fun m st=> ∃(i g3:Nat) (wi:Pl.Sto),many<=i/\i<=16/\m=16 -i/\AQ (wi=w2.freeL ((wd.take i).drop many))/\AQ (wi.W (N+13+(i -many)))/\(g<g3∨g3=g/\wi.gone.length=w.gone.length)/\
  st=⟨51,[(13,.d (dI i)),(9,.d (tPtrs wd)),(10,.ptr 7 0 0),(11,.d (.pd [dI t2.root.pat,dI t2.root.birth,dI t2.root.size,dI t2.root.sum,dI t2.root.level,dI t2.depth,dI t2.many])),(6,.ptr 5 0 0),(7,.ptr 6 0 0),(1000000,.gh (gS g w) gvs)],hS g3 wi++[.row 0 zSt,.row 0 zTr,.row 0 (rowS g3 wi)]⟩) [13,9,10,11,6,7,1000000] 8 (16 -many)
  ⟨many,g2,w2,by omega,hm,rfl,Pm.hid (by rw[List.drop_of_length_le (by rw[AH];omega)];rfl),Pm.hid (hW.le (by omega)),hg2,rfl⟩ (round:=?_)
 rintro m st ⟨i,g3,wi,hi1,hi2,rfl,hwi,hWi,hg3,rfl⟩;have hW3:=hWi.out;simp only[hS,List.cons_append,AU]
 repeat refine kG ?_
 cases q4:decide ((i:Int)<(wd.length:Int))
 ·have hi:i=16:=by simp at q4;omega
  have hw3:=hwi.out;rw[hi,A2 (by omega)] at hw3;rw[<-hw3] at hd;have v0:wi.rows.length=w.rows.length:=by rw[hW3.rows,hw.rows]
  have v1:wi.refs.length=w.refs.length:=by rw[hW3.refs,hw.refs]
  have v2:wi.last.length=w.last.length:=by rw[hW3.last,hw.last]
  clear hwi hWi hw3
  repeat' first|refine kS ?_|(show AWP _ (.region 11 _ _) _ _;refine(Fg.awp_drawF (id:=11) [1] [2,3] ?_))|refine kU ?_|fail
  all_goals first|(rcases hg3 with hg3|⟨rfl,hg3⟩<;>(refine QN 5 (hx:=?_);rw[hd.out];refine⟨_,?_,rfl,rfl⟩;intro h;cases h))
 have hi:i<wd.length:=by simp at q4;omega
 obtain⟨x,hx⟩: ∃x,wd[i]? =some x:=⟨_,A0 hi⟩;have hr:=Qt (f:=rPtr) hx;have hxo:=ho x (AN hx);have cf:=eFree2 g3 wi (N+13+(i -many)) (by omega) hW3 x hxo;have hWf:=(hW3.free hxo).le (M:=N+13+(i+1 -many)) (by omega)
 have hst:AQ (w2.freeL ((wd.take (i+1)).drop many)=wi.free x):=Pm.hid (by
  rw[List.take_add_one,hx,List.drop_append_of_le_length (by rw[AH];omega),hwi.out];unfold Pl.Sto.freeL
  rw[AF];rfl)
 clear hx hwi hWi;generalize wi.free x=wf at*
 repeat' first|refine kS ?_|refine qD (iy hr) ?_|(show AWP _ (.region 10 _ _) _ _;refine(Fg.awp_drawF (id:=10) [] [5,6] ?_))|(refine QeL [0,1,2,3,4] cf cK (k:=?_);rintro _ _ ⟨g4,hg4,rfl,rfl⟩;refine QkA (k:=?_))|refine kU ?_|fail
 all_goals first|refine Qh (16 -(i+1)) (by omega) ⟨i+1,g4,wf,by omega,by omega,rfl,Pm.hid hst.out.symm,Pm.hid hWf,(by rcases hg3 with h1|⟨h1,h2⟩<;>rcases hg4 with h3|⟨h3,h4⟩<;>first|(left;omega)|(right;exact⟨by omega,by omega⟩)),?_⟩;simp[keepE,go_sem];done
def Qcs:Nat->List UInt8->List (List UInt8)
 |0,_=>[]
 |n+1,s=>if s=[] then [] else s.take 128::Qcs n (s.drop 128)
def QaG(s:List UInt8):List (List UInt8):=Qcs s.length s
theorem Qqg: ∀(n:Nat) (s:List UInt8),s.length<=n->(Qcs n s).length=(s.length+127)/128
 |0,s,h=>by
  have:s.length=0:=by omega
  rw[this];rfl
 |n+1,s,h=>by
  unfold Qcs;split
  ·grind
  ·rename_i h0
   have h1:0<s.length:=A9.2 h0;rw[AG,Qqg n _ (by grind),AR];omega
def Qao(w:Pl.Sto)(t:Pl.Tree):List (List UInt8)->Nat->Pl.Sto×Pl.Tree×Bool
 |[],_=>(w,t,true)
 |x::l,k=>if(Qm w t k x).2.2 then Qao (Qm w t k x).1 (Qm w t k x).2.1 l (k+1) else((Qm w t k x).1,t,false)
def Qax(w:Pl.Sto)(t:Pl.Tree)(text:List UInt8):Pl.Sto×Pl.Tree×Bool:=
 if 16<(QaG text).length then(w,t,false) else
 if(Qao w t (QaG text) 0).2.2 then QM (Qao w t (QaG text) 0).1 (Qao w t (QaG text) 0).2.1 (QaG text).length else Qao w t (QaG text) 0
structure Qc5(w:Pl.Sto)(t:Pl.Tree)(w':Pl.Sto)(t':Pl.Tree)(X:List Pl.Ptr):Prop where
 tr:Qbr w' t'
 live:QU w' (Q7 w'.st t'++X)
 keep:QaC w w' X
 txg:w'.txg=w.txg
theorem QjW{X:List Pl.Ptr}: ∀(l:List (List UInt8)) (k:Nat) {w:Pl.Sto} {t:Pl.Tree},Qbr w t->QU w (Q7 w.st t++X)->k+l.length<=16->(Qao w t l k).2.2=true->
 Qc5 w t (Qao w t l k).1 (Qao w t l k).2.1 X/\(Qao w t l k).2.1.many=(if l=[] then t.many.toNat else max t.many.toNat (k+l.length):Nat)
 |[],k,w,t,hT,h,_,_=>⟨⟨hT,h,fun _ _=>rfl,rfl⟩,by have:=hT.good.manyLo;rw[if_pos rfl];show t.many=_;omega⟩
 |x::l,k,w,t,hT,h,hk,hok=>by
  simp only[Qao] at hok⊢;rw[AG] at hk;split at hok;rotate_left
  ·cases hok
  rename_i h1;rw[if_pos h1];obtain⟨a1,a2,a3,a4,a5,_⟩:=Qmd hT (by omega) h h1;generalize Qm w t k x=y at*;obtain⟨⟨b1,b2,b3,b4⟩,b5⟩:=QjW l (k+1) a1 a3 (by omega) hok;refine⟨⟨b1,b2,fun q hq=>(b3 q hq).trans (a4 q hq),b4.trans a5⟩,?_⟩
  grind
theorem bput_in{X:List Pl.Ptr}{text:List UInt8}(hT:Qbr w t)(h:QU w (Q7 w.st t++X))(hok:(Qax w t text).2.2=true):
 Qc5 w t (Qax w t text).1 (Qax w t text).2.1 X/\(Qax w t text).2.1.many=(text.length+127)/128/\text.length<=2048:=by
 have hc:(QaG text).length=(text.length+127)/128:=Qqg _ _ (AS _);unfold Qax at hok⊢;split at hok
 ·cases hok
 rename_i h16;rw[if_neg h16];split at hok
 ·rename_i h1
  rw[if_pos h1];obtain⟨⟨a1,a2,a3,a4⟩,_⟩:=QjW (QaG text) 0 hT h (by omega) h1;generalize Qao w t (QaG text) 0=y at*;obtain⟨b1,b2,b3,b4,b5,_⟩:=Qr4 a1 a2 (by omega) hok;refine⟨⟨b1,b3,fun q hq=>(b4 q hq).trans (a3 q hq),b5.trans a4⟩,?_,by omega⟩;omega
 grind
theorem QtK(h:Qbr w t):Pl.ptrHole t.root=true∨t.root.level=t.depth:=by
 have hl:=h.lv
 have hbl: ∀{p:Pl.Ptr} {n:Int},(Qi w.st p n).2=true->Pl.ptrHole p=true∨p.level=n:=fun{p n} hb=>by
  grind [Qi]
 have hd:t.depth=0∨t.depth=1∨t.depth=2:=by rw[h.dep];grind [QfM]
 rcases hd with hd|hd|hd
 ·have:=h.zero t.root (by grind [leaves0])
  grind
 ·grind [leaves1]
 grind [leaves2]
def Qn(w:Pl.Sto)(t:Pl.Tree)(k:Nat):Qj×Bool:=Qp (Qf w.rows ((Qe w.st t).getD k Pl.hole)).1
def Qbh(s:Pm.Store)(n:Qj×Bool):List Pl.Ptr:=if n.2 then Q7 s n.1.tree else []
def Qb6(w:Pl.Sto)(t:Pl.Tree)(id:Nat):List Pl.Ptr:=(A5 16).flatMap fun k=>if k=id then [] else Qbh w.st (Qn w t k)
def Qcb(w:Pl.Sto)(t:Pl.Tree):List Pl.Ptr:=(A5 16).flatMap fun k=>Qbh w.st (Qn w t k)
theorem QnI{α:Type}(f:Nat->List α)(id:Nat): ∀l:List Nat,l.Nodup->id∈l->(l.flatMap f).Perm (f id++l.flatMap fun k=>if k=id then [] else f k)
 |[],_,h=>by cases h
 |k::l,hn,h=>by
  rw[List.nodup_cons] at hn;rw[A7,A7]
  by_cases hk:k=id
  ·subst hk
   rw[if_pos rfl,AU]
   have:(l.flatMap fun j=>if j=k then [] else f j)=l.flatMap f:=by
    grind [AB]
   rw[this]
  ·rw[if_neg hk]
   have ih:=QnI f id l hn.2 (by grind);refine(A6 _ ih).trans ?_
   grind [AJ,AL]
def Qqs(w:Pl.Sto)(t:Pl.Tree){id:Nat}(h:id<16):(Qcb w t).Perm (Qbh w.st (Qn w t id)++Qb6 w t id):=QnI _ id _ List.nodup_range (List.mem_range.2 h)
structure QcN(w:Pl.Sto)(t:Pl.Tree)(id:Nat)(E:List Pl.Ptr):Prop where
 tr:Qbr w t
 nod: ∀k,k<16->k≠id->(Qn w t k).2=true->Qbr w (Qn w t k).1.tree
 live:QU w (Q7 w.st t++(Qb6 w t id++E))
structure QbE(w:Pl.Sto)(t:Pl.Tree):Prop where
 tr:Qbr w t
 nod: ∀k,k<16->(Qn w t k).2=true->Qbr w (Qn w t k).1.tree
 live:QU w (Q7 w.st t++Qcb w t)
def Qhz(h:QbE w t){id:Nat}(hid:id<16):QcN w t id (Qbh w.st (Qn w t id)):=
 ⟨h.tr,fun k hk _=>h.nod k hk,h.live.perm (A6 _ ((Qqs w t hid).trans AL))⟩
theorem Qsj(hT:Qbr w t)(k:Nat):Pl.ptrHole ((Qe w.st t).getD k Pl.hole)=true∨(Qe w.st t).getD k Pl.hole∈Q7 w.st t:=by
 cases hh:Pl.ptrHole ((Qe w.st t).getD k Pl.hole)
 ·refine .inr ?_
  have hk:k<(Qe w.st t).length:=by
   rw[A1] at hh;cases hx:(Qe w.st t)[k]? with
   |none=>rw[hx] at hh;exact absurd hh (by decide)
   |some q=>grind
  unfold Q7;rw[<-Qmp];exact AA _ (QeA.2 ⟨Pl.QdE hk,hh⟩)
 grind
theorem Qmj(h:Pl.ptrHole p=true∨w'.rows.getD p.pat.toNat []=w.rows.getD p.pat.toNat []):Qf w'.rows p=Qf w.rows p:=by grind [Qf]
theorem QeW{s:Pm.Store}{q:Pl.Ptr}(h:q∈Q9 s t):q∈Q7 s t:=A8 _ h
theorem QkI{id:Nat}{E E':List Pl.Ptr}(h:QcN w t id E)(hk:QaC w w' (Q7 w.st t++Qb6 w t id))(ht:w.txg<=w'.txg)(hl:QU w' (Q7 w.st t++(Qb6 w t id++E'))):
 QcN w' t id E'/\(∀k,Qn w' t k=Qn w t k)/\Q7 w'.st t=Q7 w.st t/\Qb6 w' t id=Qb6 w t id:=by
 obtain⟨k1,k2,k3,k4,k5⟩:=QeS (w':=w') h.tr (fun q hq=>hk q (A8 _ (QeW hq))) ht
 have hnd: ∀k,Qn w' t k=Qn w t k:=fun k=>by
  unfold Qn;rw[k5,Qmj ((Qsj h.tr k).imp (fun e=>e) fun e=>hk _ (A8 _ e))]
 have hnp: ∀k,k<16->k≠id->Qbh w'.st (Qn w t k)=Qbh w.st (Qn w t k)/\((Qn w t k).2=true->Qbr w' (Qn w t k).1.tree):=fun k hk16 hki=>by
  cases hn:(Qn w t k).2
  ·grind [Qbh]
  ·have hT2:=h.nod k hk16 hki hn
   have hin: ∀q∈Q7 w.st (Qn w t k).1.tree,q∈Qb6 w t id:=fun q hq=>by
    grind [Qb6,Qbh]
   obtain⟨j1,_,_,j4,_⟩:=QeS (w':=w') hT2 (fun q hq=>hk q (AA _ (hin q (QeW hq)))) ht
   grind [Qbh]
 have hx:Qb6 w' t id=Qb6 w t id:=by
  grind [Qb6,AB]
 exact⟨⟨k1,fun k hk16 hki hn=>by grind,by grind⟩,hnd,k4,hx⟩
def Qm9{x:List UInt8}(h:x.length<=100):(Pl.item x).length<=104:=by
 have:=Pl.QcU 2 x.length (by omega);rw[Pl.Qgv];omega
def Qqc(h:Pl.ptrOk p=true):(Pl.ptrPut p).length<=100:=by
 obtain⟨h1,h2,h3,h4,h5⟩:=Pl.Qdx h;unfold Pl.ptrPut;rw[if_pos h];split
 ·decide
 ·have a1:=Pl.QcU 9 p.pat.toNat (by omega)
  have a2:=Pl.QcU 9 p.birth.toNat (by omega);have a3:=Pl.QcU 9 p.size.toNat (by omega);have a4:=Pl.QcU 9 p.sum.toNat (by omega);have a5:=Pl.QcU 9 p.level.toNat (by omega);simp[Pl.ptrText,Pl.dots];omega
theorem Qmo{n:Qj}(h:Q8 n=true):Qbj (Q6 n) n:=by
 have hb:=QdZ h;have b1:=hb.kind;have b2:=hb.links;have b3:=hb.size;have b4:=hb.depth;have b5:=hb.many;have d: ∀k:Nat,k<=3000->(Pl.item (Pl.dec k)).length<=104:=fun k hk=>Qm9 (by have:=Pl.QcU 9 k (by omega);omega)
 have a0:=d n.kind.toNat (by omega);have a1:=d n.links.toNat (by omega);have a2:=d n.size.toNat (by omega);have a3:=Qm9 (Qqc hb.ptr);have a4:=d n.tree.depth.toNat (by omega);have a5:=d n.tree.many.toNat (by omega);have a6:(Pl.item [101,110,100]).length<=104:=Qm9 (by decide)
 have he:(Pl.enc (Qag n)).length<=2048:=by
  simp only[Qag,Pl.enc,A7,List.flatMap_nil,AC,List.length_nil];omega
 have hf:Pl.Qdb (Qag n)=some (Pl.enc (Qag n)):=by unfold Pl.Qdb;rw[if_pos ⟨by simp[Qag],he⟩]
 refine⟨h,?_⟩;unfold Q6 Pl.fp;rw[if_pos h,hf];exact Pl.Qgi.1 hf
theorem Qip:Qp []=(Qd,false):=by
 refine Qlo fun n h=>?_
 have h2:=h.2.2.2;simp only[Qag,Pl.QeO] at h2;exact Pl.Qfz _ (List.append_eq_nil_iff.1 h2).1
theorem ng_put(n:Qj):Qp (Q6 n)=if Q8 n then(n,true) else(Qd,false):=by grind [Q6,Qip,ng_is,Qmo]
theorem Qor{id:Nat}{n:Qj}(hid:id<16)(h:QcN w t id (Q7 w.st n.tree))(hn:Q8 n=true->Qbr w n.tree)(hok:(Qm w t id (Q6 n)).2.2=true):
 QbE (Qm w t id (Q6 n)).1 (Qm w t id (Q6 n)).2.1/\(Qm w t id (Q6 n)).2.1.many=(max t.many.toNat (id+1):Nat)/\
 (∀k,k≠id->Qn (Qm w t id (Q6 n)).1 (Qm w t id (Q6 n)).2.1 k=Qn w t k)/\Qn (Qm w t id (Q6 n)).1 (Qm w t id (Q6 n)).2.1 id=if Q8 n then(n,true) else(Qd,false):=by
 obtain⟨a1,a2,a3,a4,a5,a6,a7⟩:=Qmd h.tr hid h.live hok;generalize Qm w t id (Q6 n)=y at*
 have hnd: ∀k,k≠id->Qn y.1 y.2.1 k=Qn w t k:=fun k hk=>by
  grind [Qn]
 have hndi:Qn y.1 y.2.1 id=if Q8 n then(n,true) else(Qd,false):=by grind [Qn,ng_put]
 have htr: ∀k,k<16->k≠id->(Qn w t k).2=true->Qbr y.1 (Qn w t k).1.tree/\Q7 y.1.st (Qn w t k).1.tree=Q7 w.st (Qn w t k).1.tree:=fun k hk16 hk hn2=>by
  have hin: ∀q∈Q7 w.st (Qn w t k).1.tree,q∈Qb6 w t id:=fun q hq=>by
   grind [Qb6,Qbh]
  obtain⟨j1,_,_,j4,_⟩:=QeS (w':=y.1) (h.nod k hk16 hk hn2) (fun q hq=>a4 q (A8 _ (hin q (QeW hq)))) (by omega)
  grind
 have hx:Qb6 y.1 y.2.1 id=Qb6 w t id:=by
  grind [Qb6,AB,Qbh]
 have hni:Q8 n=true->Qbr y.1 n.tree/\Q7 y.1.st n.tree=Q7 w.st n.tree:=fun hno=>by
  obtain⟨j1,_,_,j4,_⟩:=QeS (w':=y.1) (hn hno) (fun q hq=>a4 q (AA _ (QeW hq))) (by omega)
  grind
 refine⟨⟨a1,fun k hk16 hn2=>?_,?_⟩,a2,hnd,hndi⟩
 ·grind
 ·have hp:=Qqs y.1 y.2.1 hid
  rw[hx,hndi] at hp;cases hno:Q8 n
  ·rw[hno] at hp
   refine QU.sub (R:=Q7 w.st n.tree) a3 ?_;rw[<-AE];exact AJ _ (A6 _ hp.symm)
  ·rw[hno] at hp
   refine a3.perm (A6 _ ?_)
   grind [Qbh]
abbrev Q4:=Pl.Sto×Pl.Tree×Bool
def Qaq(f:Q4)(id:Nat)(n:Qj):Q4:=
 if f.2.2 then f else((Qm f.1 f.2.1 id (Q6 n)).1,(Qm f.1 f.2.1 id (Q6 n)).2.1,!(Qm f.1 f.2.1 id (Q6 n)).2.2)
def Ql(f:Q4)(id:Nat):Qj:=(Q5 f.1.st f.2.1 id).1
def QW(f:Q4)(id:Nat)(l:List Qq):Q4:=
 if f.2.2 then f else Qaq ((Qax f.1 (Ql f id).tree (QG l)).1,f.2.1,!(Qax f.1 (Ql f id).tree (QG l)).2.2) id
  {Ql f id with tree:=(Qax f.1 (Ql f id).tree (QG l)).2.1,size:=(QG l).length}
def QeB(hT:Qbr w t)(hk:k<16):Q5 w.st t k=Qn w t k:=by
 unfold Q5 Qn;split
 ·rename_i h;rw[texts_get w.st hT.good h];rfl
 ·rename_i h
  rw[hT.top k (by omega),Qfq,Qip]
def QcT(f:Q4):Prop:=f.2.2=false->QbE f.1 f.2.1
variable{f:Q4}
theorem QmI{id:Nat}{n:Qj}(hid:id<16)(h:f.2.2=false->QcN f.1 f.2.1 id (Q7 f.1.st n.tree))(hn:f.2.2=false->Q8 n=true->Qbr f.1 n.tree)(hok:(Qaq f id n).2.2=false):
 f.2.2=false/\QbE (Qaq f id n).1 (Qaq f id n).2.1/\(Qaq f id n).2.1.many=(max f.2.1.many.toNat (id+1):Nat)/\
 (∀k,k≠id->Qn (Qaq f id n).1 (Qaq f id n).2.1 k=Qn f.1 f.2.1 k)/\Qn (Qaq f id n).1 (Qaq f id n).2.1 id=if Q8 n then(n,true) else(Qd,false):=by grind [Qaq,Qor]
theorem QsC{size:Nat}(h:size<=2048):Qac 2 size=((size+127)/128:Nat):=by grind [Qac,QaV,Pl.inR]
theorem QmU(m:Nat):((Q2 m:Nat):Int)=Qbk m:=by grind [Q2,Qbk]
theorem QsI{n:Qj}{size:Nat}(h:Q8 n=true)(hk:n.kind=2)(hT:Qbr w t)(hm:t.many=(size+127)/128)(hs:size<=2048):Q8 {n with tree:=t,size:=size}=true:=by
 have hl:=(QdZ h).one hk;unfold Q8;dsimp only;rw[hk,QsC hs,hT.dep,hm];have e1:(((size:Int)+127)/128).toNat=(size+127)/128:=by omega
 have e2:((size:Int)+127)/128=(((size+127)/128:Nat):Int):=by omega
 rw[e1,e2,<-QmU,hl,hT.good.root];have hlv:=QtK hT;rw[hT.dep,hm,e1] at hlv
 grind [Pl.inR]
theorem QqO{id:Nat}{l:List Qq}(hid:id<16)(h:QcT f)(hn:f.2.2=false->(Qn f.1 f.2.1 id).2=true/\(Qn f.1 f.2.1 id).1.kind=2)(hok:(QW f id l).2.2=false):
 f.2.2=false/\QbE (QW f id l).1 (QW f id l).2.1/\(QW f id l).2.1.many=(max f.2.1.many.toNat (id+1):Nat)/\
 (∀k,k≠id->Qn (QW f id l).1 (QW f id l).2.1 k=Qn f.1 f.2.1 k)/\(Qn (QW f id l).1 (QW f id l).2.1 id).2=true/\(Qn (QW f id l).1 (QW f id l).2.1 id).1.kind=2:=by
 unfold QW at hok⊢;cases hf:f.2.2;rotate_left
 ·grind
 rw[hf] at hok;simp only[AO,if_false] at hok⊢;have hF:=h hf;obtain⟨hn1,hn2⟩:=hn hf;have e1:Ql f id=(Qn f.1 f.2.1 id).1:=by unfold Ql;rw[QeB hF.tr hid]
 rw[e1] at hok⊢;have hop:=Qhz hF hid;have hT:=hF.nod id hid hn1
 have hnok:Q8 (Qn f.1 f.2.1 id).1=true:=by
  unfold Qn at hn1⊢;rcases QfV (Qf f.1.rows ((Qe f.1.st f.2.1).getD id Pl.hole)).1 with e|e
  ·exact e.1.1
  grind
 have hE:Qbh f.1.st (Qn f.1 f.2.1 id)=Q7 f.1.st (Qn f.1 f.2.1 id).1.tree:=by grind [Qbh]
 rw[hE] at hop;have hb: ∀(hb0:(Qax f.1 (Qn f.1 f.2.1 id).1.tree (QG l)).2.2=true),_:=fun hb0=>bput_in hT (X:=Q7 f.1.st f.2.1++Qb6 f.1 f.2.1 id) (hop.live.perm (by grind)) hb0
 generalize Qax f.1 (Qn f.1 f.2.1 id).1.tree (QG l)=y at*
 have key:y.2.2=true->QcN y.1 f.2.1 id (Q7 y.1.st y.2.1)/\(∀k,Qn y.1 f.2.1 k=Qn f.1 f.2.1 k)/\Qbr y.1 y.2.1/\Q8 {(Qn f.1 f.2.1 id).1 with tree:=y.2.1,size:=((QG l).length:Nat)}=true:=fun hy=>by
  obtain⟨⟨b1,b2,b3,b4⟩,b5,b6⟩:=hb hy;obtain⟨c1,c2,_⟩:=QkI (w':=y.1) (E':=Q7 y.1.st y.2.1) hop b3 (by omega) (b2.perm (by grind))
  grind [QsI]
 obtain⟨d1,d2,d3,d4,d5⟩:=QmI (f:=(y.1,f.2.1,!y.2.2)) hid (fun e=>(key (by grind)).1) (fun e _=>(key (by grind)).2.2.1) hok
 grind
theorem QtM:Q8 Qd=false:=by decide
theorem QfA(w:Pl.Sto):Qbr w ⟨Pl.hole,0,0⟩/\Q7 w.st ⟨Pl.hole,0,0⟩=[]:=by
 have e:=leaves0 w.st (t:=⟨Pl.hole,0,0⟩) rfl;refine⟨⟨⟨by decide,by decide,QdA,by decide,by decide⟩,rfl,by rw[e],by grind [Qdj],fun i _=>?_⟩,?_⟩
 ·grind [Qe]
 grind [Q7,QfZ,Qr,Qdj]
def Qay(w:Pl.Sto)(t:Pl.Tree)(id:Nat)(l:List Pl.Ptr)(many:Nat):Q4:=
 if(Qm (w.freeL l) t id []).2.2 then QM (Qm (w.freeL l) t id []).1 (Qm (w.freeL l) t id []).2.1 many else Qm (w.freeL l) t id []
theorem Qss{id many:Nat}{l:List Pl.Ptr}(h:QbE w t)(hid:id<16)(hl:l.Perm (Qbh w.st (Qn w t id)))(hm:many<=16)(hok:(Qay w t id l many).2.2=true):
 QbE (Qay w t id l many).1 (Qay w t id l many).2.1/\(Qay w t id l many).2.1.many=many:=by
 have hop:=Qhz h hid
 have hlive:QU w (l++(Q7 w.st t++Qb6 w t id)):=hop.live.perm (by
  grind)
 obtain⟨g1,g2⟩:=Qib l hlive;have htx:=QgK l w;obtain⟨c1,c2,c3,c4⟩:=QkI (w':=w.freeL l) (E':=[]) hop g2 (by omega) (by grind);unfold Qay at hok⊢;generalize w.freeL l=u at*;split at hok;rotate_left
 ·grind
 rename_i h1;rw[if_pos h1];have hz:Q6 Qd=[]:=by grind [Q6,QtM]
 have hcl:=Qor (n:=Qd) hid (w:=u) (t:=t) (by rw[show Qd.tree=⟨Pl.hole,0,0⟩ from rfl,(QfA u).2];exact c1) (fun e=>by grind [QtM]) (by grind);rw[hz] at hcl;obtain⟨d1,d2,d3,d4⟩:=hcl;generalize Qm u t id []=y at*;obtain⟨e1,e2,e3,e4,e5,e6,e7⟩:=Qr4 d1.tr d1.live hm hok;generalize QM y.1 y.2.1 many=z at*;refine⟨⟨e1,?_,?_⟩,e2⟩
 ·intro k hk hn
  by_cases hkm:k<many
  ·have hnd:Qn z.1 z.2.1 k=Qn y.1 y.2.1 k:=by
    unfold Qn;rw[e6 k hkm,Qmj];cases hh:Pl.ptrHole ((Qe y.1.st y.2.1).getD k Pl.hole)
    ·refine .inr (e7 _ (QeA.2 ⟨?_,hh⟩))
     have hwl:=Qd3 y.1.st d1.tr.good.hi;rw[A1,A0 (by omega)];exact AD.2 ⟨k,by omega,rfl⟩
    grind
   rw[hnd] at hn⊢;have hT:=d1.nod k hk hn;refine(QeS (w':=z.1) hT (fun q hq=>e4 q ?_) (by omega)).1
   grind [Qcb,Qbh,QeW]
  ·unfold Qn at hn
   rw[e1.top k (by omega),Qfq,Qip] at hn;cases hn
 ·have hsub:(Qcb z.1 z.2.1).Sublist (Qcb y.1 y.2.1):=by
   unfold Qcb
   have hg: ∀l:List Nat,(∀k∈l,k<16)->(l.flatMap fun k=>Qbh z.1.st (Qn z.1 z.2.1 k)).Sublist (l.flatMap fun k=>Qbh y.1.st (Qn y.1 y.2.1 k)):=by
    intro l;induction l with
    |nil=>grind
    |cons k l ih=>
     intro hl;rw[A7,A7];refine Ac ?_ (ih fun j hj=>hl j (List.mem_cons_of_mem _ hj));have hk:=hl k List.mem_cons_self
     by_cases hkm:k<many
     ·have hnd:Qn z.1 z.2.1 k=Qn y.1 y.2.1 k:=by
       unfold Qn;rw[e6 k hkm,Qmj];cases hh:Pl.ptrHole ((Qe y.1.st y.2.1).getD k Pl.hole)
       ·refine .inr (e7 _ (QeA.2 ⟨?_,hh⟩))
        have hwl:=Qd3 y.1.st d1.tr.good.hi;rw[A1,A0 (by omega)];exact AD.2 ⟨k,by omega,rfl⟩
       grind
      rw[hnd];unfold Qbh;cases hn:(Qn y.1 y.2.1 k).2
      ·grind
      ·simp only[if_true]
       rw[(QeS (w':=z.1) (d1.nod k hk hn) (fun q hq=>e4 q (by
        grind [Qcb,Qbh,QeW])) (by omega)).2.2.2.1]
       grind
     ·have:Qbh z.1.st (Qn z.1 z.2.1 k)=[]:=by
       unfold Qn;rw[e1.top k (by omega),Qfq,Qip];rfl
      grind
   grind
  obtain⟨R,hR⟩:=Qnm hsub;refine e3.sub (R:=R) ?_
  grind
theorem Qny: ∀(n m:Nat) (s:List UInt8),s.length<=n->s.length<=m->Qcs n s=Qcs m s
 |0,0,s,_,_=>rfl
 |0,m+1,s,h,_=>by
  have:s=[]:=AI.1 (by omega);subst this;rfl
 |n+1,0,s,_,h=>by
  have:s=[]:=AI.1 (by omega);subst this;rfl
 |n+1,m+1,s,h1,h2=>by
  unfold Qcs;split
  ·rfl
  ·rename_i h0
   have:=A9.2 h0;rw[Qny n m (s.drop 128) (by grind) (by grind)]
theorem QnU{s:List UInt8}(h:s≠[]):QaG s=s.take 128::QaG (s.drop 128):=by
 have:=A9.2 h;unfold QaG;obtain⟨n,hn⟩: ∃n,s.length=n+1:=⟨s.length -1,by omega⟩
 grind [Qcs,Qny]
theorem QnT:QaG []=[]:=rfl
theorem Qpb{s:List UInt8}(h:s≠[])(h2:s.length<=128):QaG s=[s]:=by grind [QnU,A2,QnT]
def QrY(s:List UInt8)(hs:s.length<=1000000000000):Pure A3 305 [dS s] (tStrs (QaG s)):=by
 refine kE ?_
 repeat refine kA ?_
 refine Qo (fun m st=> ∃(g:Nat) (out:List (List UInt8)) (r:List UInt8),m=r.length/\out.length+r.length<=s.length/\AQ (out++QaG r=QaG s)/\st=⟨22,[(3,.osl 0 g 0 out.length),(0,.d (dS r))],[.arr g 1 9 (out.map fun s=>[dS s])]⟩) [3,0] 1 s.length ⟨0,[],s,rfl,by simp,Pm.hid rfl,rfl⟩ (round:=?_);rintro m st ⟨g,out,r,rfl,hlen,hO,rfl⟩
 repeat refine kG ?_
 cases q3:decide ((r.length:Int)>128)
 ·have hr:r.length<=128:=by simp at q3;omega
  have h1:AQ (r=[]->out=QaG s):=Pm.hid fun h=>by have:=hO.out;rw[h,QnT,AT] at this;exact this
  have h2:AQ (r≠[]->out++[r]=QaG s):=Pm.hid fun h=>by have:=hO.out;rw[Qpb h hr] at this;exact this
  clear hO;generalize QaG s=res at*
  repeat' first|refine kS ?_|refine QV Ty.h rfl Ty.h (hb:=?_) (kk:=?_)|refine kU ?_|refine kV ?_ ?_<;>intro q|fail
  all_goals first
   |(simp;omega)
   |((refine Qa 0 (h:=?_);refine Qb (hx:=?_))
     first
      |(rw[<-h2.out (by simpa using q)];simp[A2];done)
      |(rw[<-h1.out (by simpa using q)];simp[A2];done))
 have hr:128<r.length:=by simp at q3;omega
 have h2:AQ (QaG r=r.take 128::QaG (r.drop 128)):=Pm.hid (QnU (by intro e;rw[e] at hr;simp at hr))
 repeat' first|refine kS ?_|refine QV Ty.h rfl Ty.h (hb:=?_) (kk:=?_)|refine qS (QfH rfl rfl rfl (by omega) (by omega)) ?_|refine qS (QfG rfl rfl rfl (by omega) (by omega)) ?_|refine kU ?_|fail
 all_goals first
  |(simp;omega)
  |(refine Qh (r.drop 128).length (by rw[AR];omega) ⟨g+1,out++[r.take 128],r.drop 128,rfl,by simp;omega,Pm.hid (by rw[<-hO.out,h2.out];simp),?_⟩
    simp[keepE,go_sem];done)
def Qal(l:List (List UInt8))(but:Nat):Nat:=(A5 l.length).foldl (fun n k=>if k≠but/\l.getD k []≠[] then k+1 else n) 0
theorem QgI(l:List (List UInt8))(but:Nat):Qal l but<=l.length:=by
 have: ∀n,n<=l.length->(A5 n).foldl (fun n k=>if k≠but/\l.getD k []≠[] then k+1 else n) 0<=n:=by
  intro n;induction n with
  |zero=>grind
  |succ n ih=>
   grind [AK]
 exact this _ (AS _)
theorem QoJ{l:List (List UInt8)}{but:Nat}(hk:k<l.length)(h1:k≠but)(h2:l.getD k []≠[]):1<=Qal l but:=by
 have: ∀n,k<n->1<=(A5 n).foldl (fun n k=>if k≠but/\l.getD k []≠[] then k+1 else n) 0:=by
  intro n;induction n with
  |zero=>omega
  |succ n ih=>
   intro h;rw[AK,AF];simp only[AW,AX]
   grind
 exact this _ hk
theorem QtF(s:Pm.Store)(hg:QP s)(t:Pl.Tree)(ht:Qx t)(but:Nat):Pure A3 280 [dSt s,dTree t,dI but] (dI (Qal (Qc s t) but)):=by
 have c1:=Qe3 s hg t ht;have hl:=texts_len s ht;have hm0:=ht.manyLo;have hm1:=ht.manyHi;generalize Qc s t=l at*;refine kE ?_;refine Qa 0 (h:=?_);refine Qa 1 (h:=?_)
 repeat refine kA ?_
 refine Qo (fun m st=> ∃(k n:Nat),k<=l.length/\m=l.length -k/\n<=k/\AQ (n=(A5 k).foldl (fun n k=>if k≠but/\l.getD k []≠[] then k+1 else n) 0)/\st=⟨32,[(9,.d (dI k)),(8,.d (tStrs l)),(7,.d (dI n)),(4,.d (.pd (rTree t))),(2,.d (dI but))],[.row 1 [],.row 1 []]⟩) [9,8,7,4,2] 2 l.length ⟨0,0,by omega,rfl,by omega,Pm.hid rfl,rfl⟩ (round:=?_);rintro m st ⟨k,n,hk,rfl,hnk,hn,rfl⟩
 repeat refine kG ?_
 cases q4:decide ((k:Int)<t.many)
 ·repeat refine kA ?_
  refine Qb (hx:=?_);have:k=l.length:=by simp at q4;omega
  rw[hn.out,this];rfl
 have hk2:k<l.length:=by simp at q4;omega
 obtain⟨x,hx⟩: ∃x,l[k]? =some x:=⟨_,A0 hk2⟩;have hr:=Qt (f:=fun s=>[dS s]) hx
 have T:AQ ((A5 (k+1)).foldl (fun n k=>if k≠but/\l.getD k []≠[] then k+1 else n) 0=if k≠but/\x≠[] then k+1 else n):=Pm.hid (by
  rw[AK,AF,<-hn.out];simp only[AW,AX]
  rw[A1,hx];rfl)
 clear hx hn
 repeat' first|refine kS ?_|refine qS (iy hr) ?_|refine kU ?_|refine kV ?_ ?_<;>intro q|fail
 all_goals first|refine Qh (l.length -(k+1)) (by omega) ⟨k+1,k+1,by omega,rfl,by omega,Pm.hid (by rw[T.out,if_pos (by simp_all;omega)]),?_⟩;simp[keepE,go_sem];done|refine Qh (l.length -(k+1)) (by omega) ⟨k+1,n,by omega,rfl,by omega,Pm.hid (by rw[T.out,if_neg (by simp_all;omega)]),?_⟩;simp[keepE,go_sem];done|refine Qh (l.length -(k+1)) (by omega) ⟨k+1,k+1,by omega,rfl,by omega,Pm.hid (by rw[T.out,if_pos (by simp_all)]),?_⟩;simp[keepE,go_sem];done|refine Qh (l.length -(k+1)) (by omega) ⟨k+1,n,by omega,rfl,by omega,Pm.hid (by rw[T.out,if_neg (by simp_all)]),?_⟩;simp[keepE,go_sem];done
def QbN(l:List (List UInt8)):Option Nat:=(A5 16).find? fun k=>decide (l.length<=k)||l.getD k []==[]
theorem Qi7{l:List (List UInt8)}(h:QbN l=some k):k<16/\l.getD k []=[]:=by
 have h1:=List.mem_of_find?_eq_some h;have h2:=List.find?_some h
 grind
theorem QmL{p:Nat->Bool}(h: ∀i,i<16->p i=false):(A5 16).find? p=none:=by grind
theorem QmK{p:Nat->Bool}(h: ∀i,i<k->p i=false)(hk:k<16)(hp:p k=true):(A5 16).find? p=some k:=by simp_all
def QtG(s:Pm.Store)(hg:QP s)(t:Pl.Tree)(ht:Qx t):Pure A3 216 [dSt s,dTree t] (dI (QcH (QbN (Qc s t)))):=by
 have c1:=Qe3 s hg t ht;have hl:=texts_len s ht;have hm0:=ht.manyLo;have hm1:=ht.manyHi;generalize Qc s t=l at*;refine kE ?_;refine Qa 0 (h:=?_);refine Qa 1 (h:=?_)
 repeat refine kA ?_
 refine Qo (fun m st=> ∃k:Nat,k<=16/\m=16 -k/\AQ (∀i,i<k->(decide (l.length<=i)||l.getD i []==[])=false)/\st=⟨26,[(6,.d (dI k)),(5,.d (tStrs l))],[.row 1 [],.row 1 []]⟩) [6,5] 2 16 ⟨0,by omega,rfl,Pm.hid (fun i hi=>by omega),rfl⟩ (round:=?_);rintro m st ⟨k,hk,rfl,hA,rfl⟩
 repeat refine kG ?_
 cases q4:decide ((k:Int)<16)
 ·have:k=16:=by simp at q4;omega
  have hres:AQ (QbN l=none):=Pm.hid (QmL fun i hi=>hA.out i (by omega))
  repeat refine kA ?_
  all_goals exact Qb (hx:=by rw[hres.out];rfl)
 have hk2:k<16:=by simp at q4;omega
 have F:AQ ((decide (l.length<=k)||l.getD k []==[])=true->QbN l=some k):=Pm.hid fun h=>QmK hA.out hk2 h
 have T:AQ ((decide (l.length<=k)||l.getD k []==[])=false-> ∀i,i<k+1->(decide (l.length<=i)||l.getD i []==[])=false):=Pm.hid fun h i hi=>by
  by_cases hik:i=k
  ·rw[hik];exact h
  ·exact hA.out i (by omega)
 clear hA
 by_cases hkl:k<l.length
 ·obtain⟨x,hx⟩: ∃x,l[k]? =some x:=⟨_,A0 hkl⟩
  have hr:=Qt (f:=fun s=>[dS s]) hx;rw[A1,hx,Option.getD_some,decide_eq_false (by omega),Bool.false_or] at F T;clear hx
  repeat' first|refine kS ?_|refine qS (iy hr) ?_|refine kU ?_|refine kV ?_ ?_<;>intro q|fail
  all_goals first|exfalso;simp only[decide_eq_true_eq] at*;omega|exact Qb (hx:=by rw[F.out (by assumption)];rfl)|refine Qh (16 -(k+1)) (by omega) ⟨k+1,by omega,rfl,Pm.hid (T.out (by assumption)),?_⟩;simp[keepE,go_sem];done
 ·rw[decide_eq_true (by omega),Bool.true_or] at F
  repeat' first|refine kA ?_|refine kV ?_ ?_<;>intro q|fail
  all_goals first|exact Qb (hx:=by rw[F.out rfl];rfl)|exfalso;simp only[decide_eq_false_iff_not] at*;omega
def QsY:(A3.info? 5).map (fun i=>(i.zero,i.size,i.bytes))=some (some (.int .u8 0),1,1):=by kernel_rfl
def alZeros(z:Int)(h:z<=100000):Pure A3 176 [dI z] (dS (A4 z.toNat 0)):=by
 refine Qdv (vs:=[.int .i64 z]) (x:= .string ⟨(A4 z.toNat (0:UInt8)).toArray⟩) rfl fun w _=>?_
 have hmx: ∃n:Nat,z.toNat=n/\max 0 z=(n:Int)/\n<=100000:=⟨z.toNat,rfl,by omega,by omega⟩;obtain⟨n,hn,hm,hnl⟩:=hmx;rw[hn];have hso:strOfNums (A4 n 0)=⟨(A4 n (0:UInt8)).toArray⟩:=by unfold strOfNums;rw[List.map_replicate];rfl
 have hmk:=Pm.run_mk (P:=A3) 22 5 _ 1 1 AP QsY n (by omega) (by omega) w
 have hcv:=run_convert_bytes_arg (P:=A3) (w.alloc (.cells (madeCells (Value.int .u8 0).cells (n*1)) 5)) 22 5 AP Tryz.underlying5 w.heap.size 0 n n (A4 n 0) (by simp) (fun i hi=>by
  rw[AZ,cell_of_row _ _ i _ _ _ (QdP _ _)]
  simp[madeCells,Aa,Nat.mod_one,A1,hi]) 9 Tryz.underlying9
 simp only[Aa,Nat.mul_one] at hmk hcv;rw[hso] at hcv;clear hso;rw[<-hm] at hmk;clear h hm hn hnl
 go_enter Tryz.func176,Tryz.ntmps176
 go_wp2
 all_goals
  go_ret
  exact⟨rfl,Pm.bnew _ _⟩
def QbR(size:Int)(l:List (List UInt8)):Nat->List UInt8
 |0=>[]
 |k+1=>QbR size l k++l.getD k []++A4 (Qa6 size k -(l.getD k []).length).toNat 0
theorem QpH(size:Int)(l:List (List UInt8))(h: ∀x∈l,x.length<=128): ∀k,(QbR size l k).length<=140*k
 :=by intro l;induction l<;>grind [QbR,Qa6]
theorem t13_ge(size:Int)(l:List (List UInt8)): ∀k:Nat,(if size<12*k then size else 12*k)<=((QbR size l k).length:Int)
 :=by intro l;induction l<;>grind [QbR,Qa6]
def QlX(s:Pm.Store)(hg:QP s)(n:Qj)(ht:Qx n.tree)(hs:0<=n.size/\n.size<=2048):Pure A3 107 [dSt s,dNode n] (dS (QbR n.size (Qc s n.tree) n.tree.many.toNat)):=by
 have c:=Qe3 s hg n.tree ht;have hl:=texts_len s ht;have hx1:=texts_le s hg n.tree;have hm:=ht.manyHi;have hm0:=ht.manyLo;clear ht;generalize Qc s n.tree=l at*;obtain⟨kind,links,size,⟨⟨p1,p2,p3,p4,p5⟩,depth,many⟩⟩:=n;simp only at hs hl hm hm0 c⊢;rw[<-hl];refine kE ?_;refine Qa 0 (h:=?_);refine Qa 1 (h:=?_)
 repeat refine kA ?_
 refine Qo (fun m st=> ∃(k:Nat),k<=l.length/\m=16 -k/\
  st=⟨37,[(6,.d (tStrs l)),(7,.d (dI k)),(5,.d (dS (QbR size l k))),(3,.d (.pd (rNode ⟨kind,links,size,⟨⟨p1,p2,p3,p4,p5⟩,depth,many⟩⟩)))],[]⟩) [6,7,5,3] 0 16 ⟨0,by omega,rfl,rfl⟩ (round:=?_)
 rintro m st ⟨k,hk,rfl,rfl⟩
 repeat refine kG ?_
 cases q4:decide ((k:Int)<many)
 ·repeat refine kA ?_
  refine Qb (hx:=?_);have:k=l.length:=by simp at q4;omega
  rw[this]
 have hk2:k<l.length:=by simp at q4;omega
 obtain⟨x,hx⟩: ∃x,l[k]? =some x:=⟨_,A0 hk2⟩;have hr:=Qt (f:=fun s=>[dS s]) hx;have hxl:=hx1 x (AN hx);have hd:l.getD k []=x:=by rw[A1,hx];rfl
 have hst:AQ (QbR size l (k+1)=QbR size l k++x++A4 (Qa6 size k -x.length).toNat 0):=Pm.hid (by rw[<-hd];rfl);have c13:=QkH size k hs.1 hs.2 (by omega);have h12:Qa6 size k<=12:=by unfold Qa6;split<;>omega
 have h11: -2000<=Qa6 size k:=by unfold Qa6;split<;>omega
 have cz:=alZeros (Qa6 size k -x.length) (by omega);have hpl:=QpH size l hx1 k;have hlr:(A4 (Qa6 size k -x.length).toNat (0:UInt8)).length<=12:=by rw[List.length_replicate];omega
 clear hx hx1 hd;generalize QbR size l k=tk at*;generalize A4 (Qa6 size k -x.length).toNat (0:UInt8)=zs at*
 repeat' first|refine kS ?_|refine qS (iy hr) ?_|refine qS (QcX rfl rfl (by first|omega|(simp only[AC];omega))) ?_|refine kU ?_|fail
 all_goals first
  |(refine Qh (16 -(k+1)) (by omega) ⟨k+1,by omega,rfl,?_⟩
    rw[hst.out]
    simp[keepE,go_sem];done)
abbrev zNd0:List AV:=[.d (.v (.int .i64 0)),.d (.v (.int .i64 0)),.d (.v (.int .i64 0)),.d (.v (.int .i64 0)),.d (.v (.int .i64 0)),.d (.v (.int .i64 0)),.d (.v (.int .i64 0)),.d (.v (.int .i64 0)),.d (.v (.int .i64 0)),.d (.v (.int .i64 0))]
abbrev rFs(w:Pl.Sto)(t:Pl.Tree)(full:Bool):List D:=[dStrs w.rows,dInts w.refs,dInts w.last,dI w.txg,dPtrs w.gone,dI 0,dPtrs [],dB w.same,dI t.root.pat,dI t.root.birth,dI t.root.size,dI t.root.sum,dI t.root.level,dI t.depth,dI t.many,dB full]
def aNode(w:Pl.Sto)(N:Nat)(hw:w.W N)(t:Pl.Tree)(ht:Qx t)(full:Bool)(id:Nat):Pure A3 223 [.pd (rFs w t full),dI id] (dNode (Q5 w.st t id).1):=by
 have c:=al11Get w.st hw.good t ht id;generalize Q5 w.st t id=r at*;refine kD ?_
 repeat' first|refine kS ?_|(show AWP _ (.region 1 _ _) _ _;refine(Fk.awp_drawF (id:=1) [0,1,2,3,4,5,6,7,8,9,10,11,12,13] [14] [(13,.row 0 zNd0)] [] ?_))|refine(Fk.aw_fltA 1 ?_)|refine(Fk.aw_fltL (ho:=rfl) (hk:=rfl) (hl:=fun H=>Qdi rfl) (k:=?_))|refine(Fk.aw_fltL (ho:=rfl) (hk:=rfl) (hl:=fun H=>Qdh cK c rfl) (k:=?_))|refine kU ?_|fail
 all_goals first|((refine Qa 0 (h:=?_);refine QR (hx:=?_));rfl)
def QE(w:Pl.Sto)(t:Pl.Tree)(path:List UInt8):Int:=Qaf w.st t (Qy path)
theorem Qiq(s:List UInt8):(Qy s).length<=s.length+1:=by grind [Qy,Qe2]
def aFind(w:Pl.Sto)(N:Nat)(hw:w.W N)(t:Pl.Tree)(ht:Qx t)(full:Bool)(path:List UInt8)(hp:path.length<=900):Pure A3 222 [.pd (rFs w t full),dS path] (dI (QE w t path)):=by
 have c1:=QfR path (by omega);have hn:=Qiq path;have c2:=(Qom w.st hw.good t ht (Qy path) (by omega)).arg (l:=[dSt w.st,dTree t,tStrs (Qy path)]);have hd:AQ (QE w t path=Qaf w.st t (Qy path)):=Pm.hid rfl;rw[hd.out];clear hd hn;generalize Qy path=l at*;generalize Qaf w.st t l=r at*;refine kE ?_
 repeat' first|refine kS ?_|refine qD (Qdi rfl) ?_|refine kU ?_|fail
 all_goals first|exact Qb (hx:=rfl)
def Qm5{dst:Option Tmp}{ty:TypeId}{pos:String}{after:Array Edge}{gd:Option (Nat×Bool)}{env:List (Nat×AV)}{H:List Blk}{x:Operand}{n:Qj}(hx:aval env x= .d (dNode n)):
 Loc A3 ⟨dst,.field 45 x 0,ty,pos,after,gd⟩ env H (.d (dI n.kind)) none:=
 QQ fun σ S H' a w _ hop _=>by
  have a1:=AV.conc_rel (hop x (by simp[Op.operands])) (y:= .agg #[.int .i64 n.kind,.int .i64 n.links,.int .i64 n.size,.int .i64 n.tree.root.pat,.int .i64 n.tree.root.birth,.int .i64 n.tree.root.size,.int .i64 n.tree.root.sum,.int .i64 n.tree.root.level,.int .i64 n.tree.depth,.int .i64 n.tree.many]) (by rw[hx];rfl);refine⟨.int .i64 n.kind,?_,.d _ _ (.v _)⟩;have hf: ∀(a b c d e f g h i j:Int),(Instr.field 45 (.agg #[.int .i64 a,.int .i64 b,.int .i64 c,.int .i64 d,.int .i64 e,.int .i64 f,.int .i64 g,.int .i64 h,.int .i64 i,.int .i64 j]) 0).run A3 w= .ok (.int .i64 a) w:=fun a b c d e f g h i j=>by kernel_rfl
  simp only[execOp,a1,Sem.run_bind,hf];rfl
def QJ(w:Pl.Sto)(t:Pl.Tree)(path:List UInt8):Int×Int:=
 if Qy path=[] then(0,3) else
 if Qaf w.st t ((Qy path).take ((Qy path).length -1))<0 then(0,2) else
 if(Q5 w.st t (Qaf w.st t ((Qy path).take ((Qy path).length -1))).toNat).1.kind=2 then(Qaf w.st t ((Qy path).take ((Qy path).length -1)),0) else(0,4)
theorem aPlace(w:Pl.Sto)(N:Nat)(hw:w.W N)(t:Pl.Tree)(ht:Qx t)(full:Bool)(path:List UInt8)(hp:path.length<=900):Pure A3 224 [.pd (rFs w t full),dS path] (.tup [dI (QJ w t path).1,dI (QJ w t path).2]):=by
 have c1:=QfR path (by omega);have hn:=Qiq path;have c2:=Qom w.st hw.good t ht ((Qy path).take ((Qy path).length -1)) (by rw[AH];omega);have hd:=Pm.hid (QJ.eq_def w t path);have c3:=fun id:Nat=>aNode w N hw t ht full id
 generalize QJ w t path=res at*;generalize Qy path=l at*;generalize hf:Qaf w.st t (l.take (l.length -1))=r at*;clear hf
 replace c2:Pure A3 74 [dSt w.st,dTree t,.sl true 1 ((l.map fun s=>[dS s]).take ((l.length:Int) -1).toNat)] (dI r):=by
  rw[show((l.length:Int) -1).toNat=l.length -1 by omega,<-List.map_take];exact c2.arg
 by_cases hl:l=[]
 ·rw[if_pos hl] at hd
  subst hl;rw[hd.out];clear c2 c3;refine kE ?_
  repeat refine kA ?_
  all_goals first|exact Qb (hx:=rfl)
 rw[if_neg hl] at hd;have hl2:=A9.2 hl;have hl3:AQ (((l.length:Int)==0)=false):=Pm.hid (by simp;omega)
 by_cases hr:r<0
 ·rw[if_pos hr] at hd
  rw[hd.out];clear c3;refine kE ?_
  repeat' first|refine kS ?_|refine qD (Qdi rfl) ?_|refine qD (QfX rfl rfl rfl (by omega) (by simp;omega)) ?_|refine kU ?_|refine kV ?_ ?_<;>intro q|fail
  all_goals first|exact absurd (hl3.out.symm.trans ‹((l.length:Int)==0)=true›) (by decide)|exact Qb (hx:=rfl)|exfalso;simp only[decide_eq_false_iff_not] at*;omega
 rw[if_neg hr] at hd;obtain⟨a,ha⟩:=Int.eq_ofNat_of_zero_le (show 0<=r by omega);subst ha
 replace c3:=c3 a
 rw[Int.toNat_natCast] at hd;generalize (Q5 w.st t a).1=n at*;refine kE ?_
 repeat' first|refine kS ?_|refine qD (Qdi rfl) ?_|refine qS (Qm5 rfl) ?_|refine qD (QfX rfl rfl rfl (by omega) (by simp;omega)) ?_|refine kU ?_|refine kV ?_ ?_<;>intro q|fail
 all_goals first|exact absurd (hl3.out.symm.trans ‹((l.length:Int)==0)=true›) (by decide)|refine Qb (hx:=?_);rw[hd.out,if_pos (by simpa using q)];done|refine Qb (hx:=?_);rw[hd.out,if_neg (by simpa using q)];done|exfalso;simp only[decide_eq_true_eq] at*;omega
def Qam(w:Pl.Sto)(t:Pl.Tree)(path:List UInt8):Int×Int:=
 if 0<(QJ w t path).2 then(0,(QJ w t path).2) else if 0<=QE w t path then(0,3) else((QJ w t path).1,0)
def aFresh(w:Pl.Sto)(N:Nat)(hw:w.W N)(t:Pl.Tree)(ht:Qx t)(full:Bool)(path:List UInt8)(hp:path.length<=900):Pure A3 215 [.pd (rFs w t full),dS path] (.tup [dI (Qam w t path).1,dI (Qam w t path).2]):=by
 have c1:=aPlace w N hw t ht full path hp;have c2:=aFind w N hw t ht full path hp;have hd:=Pm.hid (Qam.eq_def w t path);generalize Qam w t path=res at*;generalize QJ w t path=p at*;generalize QE w t path=r at*;refine kE ?_
 repeat' first|refine kA ?_|refine kV ?_ ?_<;>intro q|fail
 all_goals first|refine Qb (hx:=?_);rw[hd.out,if_pos (by simp only[decide_eq_true_eq] at*;omega)];done|refine Qb (hx:=?_);rw[hd.out,if_neg (by simp only[decide_eq_false_iff_not,decide_eq_true_eq] at*;omega),if_pos (by simp only[decide_eq_true_eq] at*;omega)];done|refine Qb (hx:=?_);rw[hd.out,if_neg (by simp only[decide_eq_false_iff_not] at*;omega),if_neg (by simp only[decide_eq_false_iff_not] at*;omega)];done
theorem QfC{S:Nat->Prop}{g:Nat}{len:Nat}{v:Ab}(hk:k≠3)(h:Rel σ S (hS g1 w') wd (.osl k g 0 len) v):Rel σ S (hS g2 w') wd (.osl k g 0 len) v:=by
 cases h with
 |osl _ _ _ _ _ ho g' sz T rows hb hg h=>
  refine .osl _ _ _ _ _ ho g' sz T rows ?_ hg h
  grind
def Qs6{S:Nat->Prop}{len:Nat}{v:Ab}(h:Rel σ S (hS g1 w') wd (.osl 3 g1 0 len) v):Rel σ S (hS g2 w') wd (.osl 3 g2 0 len) v:=by
 cases h with
 |osl _ _ _ _ _ ho g' sz T rows hb hg h=>
  cases hb;exact .osl _ _ _ _ _ ho _ _ _ _ rfl (AS _) fun _=>h rfl
def QgA{S:Nat->Prop}{x:D}{v:Ab}(h:Rel σ S (hS g1 w') wd (.d x) v):Rel σ S (hS g2 w') wd (.d x) v:=by
 cases h with
 |d _ _ h=>exact .d _ _ h
def rel_oS{S:Nat->Prop}{v:Ab}(h:Rel σ S (hS g1 w') wd (oS g1 w2) v):Rel σ S (hS g2 w') wd (oS g2 w2) v:=by
 cases h with
 |agg _ cs hl h=>
  refine .agg _ cs hl fun i d x hd hx=>?_
  match i,hd,hx with
  |0,hd,hx=>cases hd;exact QfC (by decide) (h 0 _ x rfl hx)
  |1,hd,hx=>cases hd;exact QfC (by decide) (h 1 _ x rfl hx)
  |2,hd,hx=>cases hd;exact QfC (by decide) (h 2 _ x rfl hx)
  |3,hd,hx=>cases hd;exact QgA (h 3 _ x rfl hx)
  |4,hd,hx=>cases hd;exact Qs6 (h 4 _ x rfl hx)
  |5,hd,hx=>cases hd;exact QgA (h 5 _ x rfl hx)
  |6,hd,hx=>cases hd;exact QfC (by decide) (h 6 _ x rfl hx)
  |7,hd,hx=>cases hd;exact QgA (h 7 _ x rfl hx)
  |i+8,hd,hx=>cases hd
def QfU{S:Nat->Prop}{b:D}{v:Ab}(h:Rel σ S (hS g1 w') wd (.tup [oS g1 w2,.d a,.d b]) v):Rel σ S (hS g2 w') wd (.tup [oS g2 w2,.d a,.d b]) v:=by
 cases h with
 |tup _ cs hl h=>
  refine .tup _ cs hl fun i d x hd hx=>?_
  match i,hd,hx with
  |0,hd,hx=>cases hd;exact rel_oS (h 0 _ x rfl hx)
  |1,hd,hx=>cases hd;exact QgA (h 1 _ x rfl hx)
  |2,hd,hx=>cases hd;exact QgA (h 2 _ x rfl hx)
  |i+3,hd,hx=>cases hd
def sm_tag{B:Bs}{S:Nat->Prop}(h:Sm B σ S (hS g1 w') wd):Sm B σ S (hS g2 w') wd:=
 {h with
  blk:=fun k C hC=>by
   match k,hC with
   |0,hC=>cases hC;exact h.blk 0 _ rfl
   |1,hC=>cases hC;exact h.blk 1 _ rfl
   |2,hC=>cases hC;exact h.blk 2 _ rfl
   |3,hC=>cases hC;exact h.blk 3 _ rfl
   |4,hC=>cases hC;exact h.blk 4 _ rfl
   |k+5,hC=>cases hC}
theorem DoesE.tag{f:FuncId}{g:Nat}{X:Nat->AV}{C:Nat->Prop}(h:DoesE A3 f args (hS g w) (gS g w) (fun x H=> ∃g',C g'/\x=X g'/\H=hS g' w'))
 (hX: ∀{σ:Sg} {S:Nat->Prop} {g1 g2:Nat} {wd:World} {v:Ab},Rel σ S (hS g1 w') wd (X g1) v->Rel σ S (hS g2 w') wd (X g2) v):
 DoesE A3 f args (hS g w) (gS g w) (fun x H=>x=X (g+1)/\H=hS (g+1) w'):=by
 intro B σ S w0 cargs gvs h1 h2 h3 h4 h5 h6;refine(h B σ S w0 cargs gvs h1 h2 h3 h4 h5 h6).mono ?_;rintro _ _ ⟨x,H1,⟨g',h0,rfl,rfl⟩,h7,v,σ',S',rfl,h8,h9,h10⟩;refine⟨_,_,⟨rfl,rfl⟩,fun i C0 hC=>?_,v,σ',S',rfl,sm_tag h8,hX h9,fun i d v hd hv=>?_⟩
 ·obtain⟨C',e1,e2⟩:=h7 i C0 hC
  match i,hC,e1 with
  |0,hC,e1=>grind
  |1,hC,e1=>grind
  |2,hC,e1=>grind
  |3,hC,e1=>cases hC;exact⟨_,rfl,rfl,rfl,.inl (Nat.lt_succ_self g)⟩
  |4,hC,e1=>grind
  |i+5,hC,e1=>cases hC
 ·have e:=h10 i d v hd hv
  match i,hd with
  |0,hd=>cases hd;exact QfC (by decide) e
  |1,hd=>cases hd;exact QfC (by decide) e
  |2,hd=>cases hd;exact QfC (by decide) e
  |3,hd=>cases hd;cases e with
   |osl _ _ _ _ _ ho g2 sz T rows hb hg h=>exact .osl _ _ _ _ _ ho _ _ _ _ rfl (Nat.le_succ g) fun h=>absurd h (by omega)
  |4,hd=>cases hd;exact QfC (by decide) e
  |i+5,hd=>cases hd
theorem DoesE.tag3{f:FuncId}{g:Nat}{ok:Bool}(h:DoesE A3 f args (hS g w) (gS g w) (fun x H=> ∃g',(ok=false->g'=g)/\x= .tup [oS g' w2,.d a,.d (dB ok)]/\H=hS g' w')):
 DoesE A3 f args (hS g w) (gS g w) (fun x H=>x= .tup [oS (if ok then g+1 else g) w2,.d a,.d (dB ok)]/\H=hS (if ok then g+1 else g) w'):=by
 cases ok
 ·grind
 ·exact h.tag QfU
def Qv0{f g:Nat->Int}: ∀{n:Nat},(∀k,k<n->f k<=g k)->Quj f n<=Quj g n
 |0,_=>Int.le_refl _
 |n+1,h=>by
  have:=Qv0 (f:=f) (g:=g) (n:=n) fun k hk=>h k (by omega)
  have:=h n (by omega);unfold Quj;omega
end Aw
end
section
namespace Gr
variable{kind:Nat->Nat}{en:Nat->Option En}{ch:Nat->Option (List Nat)}

/- Of fsk_card; no condition. -/
import Derived.Test.YtfmnpmhadmcdkaaGreatDoorS24
import Derived.Test.YtfmnpmhadmcdkaaGreatDoorS26
set_option linter.all false
set_option maxRecDepth 100000
set_option maxHeartbeats 16000000
open Bool renaming false_eq_true->A2
open Go.Proofs.Tryz renaming prog->A0
open List renaming getElem?_eq_getElem->A1
open Nat renaming le_refl->A3
namespace Go.Proofs.YtfmnpmhadmcdkaaGreatDoor
noncomputable section
open Go.RowKit
namespace Aw
attribute [local irreducible] ASeq ADraw AWP Loc AStep Fg.PlanF Fg.Flts Fk.PlanF Fk.Flts Fk.AStepM Fk.Grew Fk.Gs
abbrev zNd0:List AV:=[.d (.v (.int .i64 0)),.d (.v (.int .i64 0)),.d (.v (.int .i64 0)),.d (.v (.int .i64 0)),.d (.v (.int .i64 0)),.d (.v (.int .i64 0)),.d (.v (.int .i64 0)),.d (.v (.int .i64 0)),.d (.v (.int .i64 0)),.d (.v (.int .i64 0))]
abbrev rFs(w:Pl.Sto)(t:Pl.Tree)(full:Bool):List D:=[dStrs w.rows,dInts w.refs,dInts w.last,dI w.txg,dPtrs w.gone,dI 0,dPtrs [],dB w.same,dI t.root.pat,dI t.root.birth,dI t.root.size,dI t.root.sum,dI t.root.level,dI t.depth,dI t.many,dB full]
def aNode(w:Pl.Sto)(N:Nat)(hw:w.W N)(t:Pl.Tree)(ht:Qx t)(full:Bool)(id:Nat):Pure A0 223 [.pd (rFs w t full),dI id] (dNode (Q5 w.st t id).1):=by
 have c:=al11Get w.st hw.good t ht id;generalize Q5 w.st t id=r at*;refine kD ?_
 repeat' first|refine kS ?_|(show AWP _ (.region 1 _ _) _ _;refine(Fk.awp_drawF (id:=1) [0,1,2,3,4,5,6,7,8,9,10,11,12,13] [14] [(13,.row 0 zNd0)] [] ?_))|refine(Fk.aw_fltA 1 ?_)|refine(Fk.aw_fltL (ho:=rfl) (hk:=rfl) (hl:=fun H=>Qdi rfl) (k:=?_))|refine(Fk.aw_fltL (ho:=rfl) (hk:=rfl) (hl:=fun H=>Qdh cK c rfl) (k:=?_))|refine kU ?_|fail
 all_goals first|((refine Qa 0 (h:=?_);refine QR (hx:=?_));rfl)
def QE(w:Pl.Sto)(t:Pl.Tree)(path:List UInt8):Int:=Qaf w.st t (Qy path)
theorem Qiq(s:List UInt8):(Qy s).length<=s.length+1:=by grind [Qy,Qe2]
def aFind(w:Pl.Sto)(N:Nat)(hw:w.W N)(t:Pl.Tree)(ht:Qx t)(full:Bool)(path:List UInt8)(hp:path.length<=900):Pure A0 222 [.pd (rFs w t full),dS path] (dI (QE w t path)):=by
 have c1:=QfR path (by omega);have hn:=Qiq path;have c2:=(Qom w.st hw.good t ht (Qy path) (by omega)).arg (l:=[dSt w.st,dTree t,tStrs (Qy path)]);have hd:Hid (QE w t path=Qaf w.st t (Qy path)):=Pm.hid rfl;rw[hd.out];clear hd hn;generalize Qy path=l at*;generalize Qaf w.st t l=r at*;refine kE ?_
 repeat' first|refine kS ?_|refine qD (Qdi rfl) ?_|refine kU ?_|fail
 all_goals first|exact Qb (hx:=rfl)
def Qm5{dst:Option Tmp}{ty:TypeId}{pos:String}{after:Array Edge}{gd:Option (Nat×Bool)}{env:List (Nat×AV)}{H:List Blk}{x:Operand}{n:Qj}(hx:aval env x= .d (dNode n)):
 Loc A0 ⟨dst,.field 45 x 0,ty,pos,after,gd⟩ env H (.d (dI n.kind)) none:=
 QQ fun σ S H' a w _ hop _=>by
  have a1:=AV.conc_rel (hop x (by simp[Op.operands])) (y:= .agg #[.int .i64 n.kind,.int .i64 n.links,.int .i64 n.size,.int .i64 n.tree.root.pat,.int .i64 n.tree.root.birth,.int .i64 n.tree.root.size,.int .i64 n.tree.root.sum,.int .i64 n.tree.root.level,.int .i64 n.tree.depth,.int .i64 n.tree.many]) (by rw[hx];rfl);refine⟨.int .i64 n.kind,?_,.d _ _ (.v _)⟩;have hf: ∀(a b c d e f g h i j:Int),(Instr.field 45 (.agg #[.int .i64 a,.int .i64 b,.int .i64 c,.int .i64 d,.int .i64 e,.int .i64 f,.int .i64 g,.int .i64 h,.int .i64 i,.int .i64 j]) 0).run A0 w= .ok (.int .i64 a) w:=fun a b c d e f g h i j=>by kernel_rfl
  simp only[execOp,a1,Sem.run_bind,hf];rfl
def QJ(w:Pl.Sto)(t:Pl.Tree)(path:List UInt8):Int×Int:=
 if Qy path=[] then(0,3) else
 if Qaf w.st t ((Qy path).take ((Qy path).length -1))<0 then(0,2) else
 if(Q5 w.st t (Qaf w.st t ((Qy path).take ((Qy path).length -1))).toNat).1.kind=2 then(Qaf w.st t ((Qy path).take ((Qy path).length -1)),0) else(0,4)
theorem aPlace(w:Pl.Sto)(N:Nat)(hw:w.W N)(t:Pl.Tree)(ht:Qx t)(full:Bool)(path:List UInt8)(hp:path.length<=900):Pure A0 224 [.pd (rFs w t full),dS path] (.tup [dI (QJ w t path).1,dI (QJ w t path).2]):=by
 have c1:=QfR path (by omega);have hn:=Qiq path;have c2:=Qom w.st hw.good t ht ((Qy path).take ((Qy path).length -1)) (by rw[List.length_take];omega);have hd:=Pm.hid (QJ.eq_def w t path);have c3:=fun id:Nat=>aNode w N hw t ht full id
 generalize QJ w t path=res at*;generalize Qy path=l at*;generalize hf:Qaf w.st t (l.take (l.length -1))=r at*;clear hf
 replace c2:Pure A0 74 [dSt w.st,dTree t,.sl true 1 ((l.map fun s=>[dS s]).take ((l.length:Int) -1).toNat)] (dI r):=by
  rw[show((l.length:Int) -1).toNat=l.length -1 by omega,<-List.map_take];exact c2.arg
 by_cases hl:l=[]
 ·rw[if_pos hl] at hd
  subst hl;rw[hd.out];clear c2 c3;refine kE ?_
  repeat refine kA ?_
  all_goals first|exact Qb (hx:=rfl)
 rw[if_neg hl] at hd;have hl2:=List.length_pos_iff.2 hl;have hl3:Hid (((l.length:Int)==0)=false):=Pm.hid (by simp;omega)
 by_cases hr:r<0
 ·rw[if_pos hr] at hd
  rw[hd.out];clear c3;refine kE ?_
  repeat' first|refine kS ?_|refine qD (Qdi rfl) ?_|refine qD (QfX rfl rfl rfl (by omega) (by simp;omega)) ?_|refine kU ?_|refine kV ?_ ?_<;>intro q|fail
  all_goals first|exact absurd (hl3.out.symm.trans ‹((l.length:Int)==0)=true›) (by decide)|exact Qb (hx:=rfl)|exfalso;simp only[decide_eq_false_iff_not] at*;omega
 rw[if_neg hr] at hd;obtain⟨a,ha⟩:=Int.eq_ofNat_of_zero_le (show 0<=r by omega);subst ha
 replace c3:=c3 a
 rw[Int.toNat_natCast] at hd;generalize (Q5 w.st t a).1=n at*;refine kE ?_
 repeat' first|refine kS ?_|refine qD (Qdi rfl) ?_|refine qS (Qm5 rfl) ?_|refine qD (QfX rfl rfl rfl (by omega) (by simp;omega)) ?_|refine kU ?_|refine kV ?_ ?_<;>intro q|fail
 all_goals first|exact absurd (hl3.out.symm.trans ‹((l.length:Int)==0)=true›) (by decide)|refine Qb (hx:=?_);rw[hd.out,if_pos (by simpa using q)];done|refine Qb (hx:=?_);rw[hd.out,if_neg (by simpa using q)];done|exfalso;simp only[decide_eq_true_eq] at*;omega
def Qam(w:Pl.Sto)(t:Pl.Tree)(path:List UInt8):Int×Int:=
 if 0<(QJ w t path).2 then(0,(QJ w t path).2) else if 0<=QE w t path then(0,3) else((QJ w t path).1,0)
def aFresh(w:Pl.Sto)(N:Nat)(hw:w.W N)(t:Pl.Tree)(ht:Qx t)(full:Bool)(path:List UInt8)(hp:path.length<=900):Pure A0 215 [.pd (rFs w t full),dS path] (.tup [dI (Qam w t path).1,dI (Qam w t path).2]):=by
 have c1:=aPlace w N hw t ht full path hp;have c2:=aFind w N hw t ht full path hp;have hd:=Pm.hid (Qam.eq_def w t path);generalize Qam w t path=res at*;generalize QJ w t path=p at*;generalize QE w t path=r at*;refine kE ?_
 repeat' first|refine kA ?_|refine kV ?_ ?_<;>intro q|fail
 all_goals first|refine Qb (hx:=?_);rw[hd.out,if_pos (by simp only[decide_eq_true_eq] at*;omega)];done|refine Qb (hx:=?_);rw[hd.out,if_neg (by simp only[decide_eq_false_iff_not,decide_eq_true_eq] at*;omega),if_pos (by simp only[decide_eq_true_eq] at*;omega)];done|refine Qb (hx:=?_);rw[hd.out,if_neg (by simp only[decide_eq_false_iff_not] at*;omega),if_neg (by simp only[decide_eq_false_iff_not] at*;omega)];done
attribute [local irreducible] EndR
def ePut11(g:Nat)(w:Pl.Sto)(N:Nat)(hN:N<=800000)(hw:w.W N)(t:Pl.Tree)(ht:Qx t)(k:Nat)(hk:k<16)(n:Qj)(hn:(Q6 n).length<=Pm.big):
 DoesE A0 47 [oS g w,.d (dTree t),.d (dI k),.d (dNode n)] (hS g w) (gS g w) (fun x H=>x= .tup [oS (if(Qm w t k (Q6 n)).2.2 then g+1 else g) (Qm w t k (Q6 n)).1,.d (dTree (Qm w t k (Q6 n)).2.1),.d (dB (Qm w t k (Q6 n)).2.2)]/\H=hS (if(Qm w t k (Q6 n)).2.2 then g+1 else g) (Qm w t k (Q6 n)).1):=by
 have c1:=Qoq n;have c2:=(ePut g w N (by omega) hw t ht k hk (Q6 n) hn).tag3;have hWc:=QeV hw ht (k:=k) hk (Q6 n);have hsg:=Qeh (w:=w) (t:=t) (k:=k) (text:=Q6 n);generalize Qm w t k (Q6 n)=y at*;generalize Q6 n=text at*;obtain⟨w2,t2,ok⟩:=y;simp only at c2 hWc hsg;have v0:w2.rows.length=w.rows.length:=by rw[hWc.1.rows,hw.rows]
 have v1:w2.refs.length=w.refs.length:=by rw[hWc.1.refs,hw.refs]
 have v2:w2.last.length=w.last.length:=by rw[hWc.1.last,hw.last]
 have v3:ok=false->w2.gone.length=w.gone.length:=fun e=>by rw[(hsg e).1]
 clear hsg hWc;cases ok<;>simp only[A2,if_false,if_true,forall_const] at c2 v3
 all_goals
  refine kH fun gvs=>?_
  refine Qa 6 (h:=?_);refine Qa 7 (h:=?_)
  repeat' first|refine kS ?_|(show AWP _ (.region 1 _ _) _ _;refine(Fg.awp_drawF (id:=1) [] [5,9,10] ?_))|refine QeL [0,1,2,3,4] c2 cK (k:=kZ ?_)|refine kU ?_|fail
  all_goals first|refine QN 5 (hx:=?_);exact⟨rfl,rfl⟩
abbrev rowF(g:Nat)(w:Pl.Sto)(t:Pl.Tree)(full:Bool):List AV:=[.osl 0 1 0 64,.osl 1 1 0 64,.osl 2 1 0 64,.d (dI w.txg),.osl 3 g 0 w.gone.length,.d (dI 0),.osl 4 1 0 0,.d (dB w.same),.d (dI t.root.pat),.d (dI t.root.birth),.d (dI t.root.size),.d (dI t.root.sum),.d (dI t.root.level),.d (dI t.depth),.d (dI t.many),.d (dB full)]
abbrev hF(g:Nat)(f:Q4):List Blk:=[.arr 1 1 9 (rS f.1.rows),.arr 1 1 3 (rI f.1.refs),.arr 1 1 3 (rI f.1.last),.arr g 5 31 (f.1.gone.map rPtr),.arr 1 5 31 [],.row 0 (rowF g f.1 f.2.1 f.2.2)]
abbrev gF(g:Nat)(w:Pl.Sto):List AV:=[.osl 0 1 0 64,.osl 1 1 0 64,.osl 2 1 0 64,.osl 3 g 0 w.gone.length,.osl 4 1 0 0,.ptr 5 0 0]
section
variable{σ:Sg}{S:Nat->Prop}{f:Q4}{g1 g2:Nat}{wd:World}{v:Value}
theorem QeM{k g:Nat}{len:Nat}(hk:k≠3)(h:Rel σ S (hF g1 f) wd (.osl k g 0 len) v):Rel σ S (hF g2 f) wd (.osl k g 0 len) v:=by
 cases h with
 |osl _ _ _ _ _ ho g' sz T rows hb hg h=>
  refine .osl _ _ _ _ _ ho g' sz T rows ?_ hg h
  grind
def QpT{len:Nat}(h:Rel σ S (hF g1 f) wd (.osl 3 g1 0 len) v):Rel σ S (hF g2 f) wd (.osl 3 g2 0 len) v:=by
 cases h with
 |osl _ _ _ _ _ ho g' sz T rows hb hg h=>
  cases hb;exact .osl _ _ _ _ _ ho _ _ _ _ rfl (A3 _) fun _=>h rfl
def Qdp{x:D}(h:Rel σ S (hF g1 f) wd (.d x) v):Rel σ S (hF g2 f) wd (.d x) v:=by
 cases h with
 |d _ _ h=>exact .d _ _ h
def Qs8(h:Rel σ S (hF g1 f) wd (.ptr 5 0 0) v):Rel σ S (hF g2 f) wd (.ptr 5 0 0) v:=by
 cases h with
 |ptr _ _ _ _ ho g' cells hb hg h=>cases hb;exact .ptr _ _ _ _ ho _ _ rfl (A3 _) h
def Qlb(h:Rel σ S (hF g1 f) wd (.tup []) v):Rel σ S (hF g2 f) wd (.tup []) v:=by
 cases h with
 |tup _ cs hl h=>exact .tup _ cs hl fun i d x hd hx=>by cases hd
def Qs7{j:Nat}{x:AV}(hj:(rowF g2 f.1 f.2.1 f.2.2)[j]? =some x){y:AV}(hj1:(rowF g1 f.1 f.2.1 f.2.2)[j]? =some y)(h:Rel σ S (hF g1 f) wd y v):Rel σ S (hF g2 f) wd x v:=by
 match j,hj,hj1 with
 |0,hj,hj1=>cases hj;cases hj1;exact QeM (by decide) h
 |1,hj,hj1=>cases hj;cases hj1;exact QeM (by decide) h
 |2,hj,hj1=>cases hj;cases hj1;exact QeM (by decide) h
 |3,hj,hj1=>cases hj;cases hj1;exact Qdp h
 |4,hj,hj1=>cases hj;cases hj1;exact QpT h
 |5,hj,hj1=>cases hj;cases hj1;exact Qdp h
 |6,hj,hj1=>cases hj;cases hj1;exact QeM (by decide) h
 |7,hj,hj1=>cases hj;cases hj1;exact Qdp h
 |8,hj,hj1=>cases hj;cases hj1;exact Qdp h
 |9,hj,hj1=>cases hj;cases hj1;exact Qdp h
 |10,hj,hj1=>cases hj;cases hj1;exact Qdp h
 |11,hj,hj1=>cases hj;cases hj1;exact Qdp h
 |12,hj,hj1=>cases hj;cases hj1;exact Qdp h
 |13,hj,hj1=>cases hj;cases hj1;exact Qdp h
 |14,hj,hj1=>cases hj;cases hj1;exact Qdp h
 |15,hj,hj1=>cases hj;cases hj1;exact Qdp h
 |j+16,hj,hj1=>cases hj
theorem smF_tag{B:Bs}(h:Sm B σ S (hF g1 f) wd):Sm B σ S (hF g2 f) wd:=
 {h with
  blk:=fun k C hC=>by
   match k,hC with
   |0,hC=>cases hC;exact h.blk 0 _ rfl
   |1,hC=>cases hC;exact h.blk 1 _ rfl
   |2,hC=>cases hC;exact h.blk 2 _ rfl
   |3,hC=>cases hC;exact h.blk 3 _ rfl
   |4,hC=>cases hC;exact h.blk 4 _ rfl
   |5,hC=>
    cases hC;rcases h.blk 5 _ rfl with⟨b,cs,T,h1,h2,h3⟩|⟨_,h2⟩
    ·refine .inl ⟨b,cs,T,h1,h2,fun j x hj=>?_⟩
     have hl:j<16:=(List.getElem?_eq_some_iff.1 hj).1;obtain⟨u,hu,hr⟩:=h3 j _ (A1 (l:=rowF g1 f.1 f.2.1 f.2.2) hl);exact⟨u,hu,Qs7 hj (A1 (l:=rowF g1 f.1 f.2.1 f.2.2) hl) hr⟩
    grind
   |k+6,hC=>cases hC}
end
theorem DoesE.tagF{fn:FuncId}{args:List AV}{w:Pl.Sto}{f0 f:Q4}{g:Nat}{X:AV}{C:Nat->Prop}(h:DoesE A0 fn args (hF g f0) (gF g w) (fun x H=> ∃g',C g'/\x=X/\H=hF g' f))
 (hX: ∀{σ:Sg} {S:Nat->Prop} {g1 g2:Nat} {wd:World} {v:Value},Rel σ S (hF g1 f) wd X v->Rel σ S (hF g2 f) wd X v):
 DoesE A0 fn args (hF g f0) (gF g w) (fun x H=>x=X/\H=hF (g+1) f):=by
 intro B σ S w0 cargs gvs h1 h2 h3 h4 h5 h6;refine(h B σ S w0 cargs gvs h1 h2 h3 h4 h5 h6).mono ?_;rintro _ _ ⟨x,H1,⟨g',h0,rfl,rfl⟩,h7,v,σ',S',rfl,h8,h9,h10⟩;refine⟨_,_,⟨rfl,rfl⟩,fun i C0 hC=>?_,v,σ',S',rfl,smF_tag h8,hX h9,fun i d v hd hv=>?_⟩
 ·obtain⟨C',e1,e2⟩:=h7 i C0 hC
  match i,hC,e1 with
  |0,hC,e1=>grind
  |1,hC,e1=>grind
  |2,hC,e1=>grind
  |3,hC,e1=>cases hC;exact⟨_,rfl,rfl,rfl,.inl (Nat.lt_succ_self g)⟩
  |4,hC,e1=>grind
  |5,hC,e1=>cases hC;exact⟨_,rfl,.inr ⟨rfl,0,by simp⟩⟩
  |i+6,hC,e1=>cases hC
 ·have e:=h10 i d v hd hv
  match i,hd with
  |0,hd=>cases hd;exact QeM (by decide) e
  |1,hd=>cases hd;exact QeM (by decide) e
  |2,hd=>cases hd;exact QeM (by decide) e
  |3,hd=>cases hd;cases e with
   |osl _ _ _ _ _ ho g2 sz T rows hb hg h=>exact .osl _ _ _ _ _ ho _ _ _ _ rfl (Nat.le_succ g) fun h=>absurd h (by omega)
  |4,hd=>cases hd;exact QeM (by decide) e
  |5,hd=>cases hd;exact Qs8 e
  |i+6,hd=>cases hd
def ePutF(g:Nat)(f:Q4)(N:Nat)(hN:N<=800000)(hw:f.1.W N)(ht:Qx f.2.1)(k:Nat)(hk:k<16)(n:Qj)(hn:(Q6 n).length<=Pm.big):
 DoesE A0 218 [.ptr 5 0 0,.d (dI k),.d (dNode n)] (hF g f) (gF g f.1) (fun x H=>x= .tup []/\H=hF (g+1) (Qaq f k n)):=by
 refine DoesE.tagF (C:=fun _=>True) ?_ Qlb;obtain⟨w,t,full⟩:=f;simp only at hw ht⊢;cases full
 ·have hd:Hid (Qaq (w,t,false) k n=((Qm w t k (Q6 n)).1,(Qm w t k (Q6 n)).2.1,!(Qm w t k (Q6 n)).2.2)):=Pm.hid rfl
  generalize Qaq (w,t,false) k n=res at*;have cP:=ePut11 g w N hN hw t ht k hk n hn;have hWc:=(QeV hw ht hk (Q6 n)).1;have hsg:=Qeh (w:=w) (t:=t) (k:=k) (text:=Q6 n);generalize Qm w t k (Q6 n)=y at*;obtain⟨w2,t2,ok2⟩:=y;simp only at cP hWc hsg hd;have v0:w2.rows.length=w.rows.length:=by rw[hWc.rows,hw.rows]
  have v1:w2.refs.length=w.refs.length:=by rw[hWc.refs,hw.refs]
  have v2:w2.last.length=w.last.length:=by rw[hWc.last,hw.last]
  have v3:ok2=false->w2.gone.length=w.gone.length:=fun e=>by rw[(hsg e).1]
  clear hsg hWc hn;cases ok2<;>simp only[A2,if_false,if_true,forall_const] at cP v3
  ·refine kH fun gvs=>?_
   refine Qa 6 (h:=?_)
   repeat' first|refine kS ?_|(show AWP _ (.region 2 _ _) _ _;refine(Fk.awp_drawG (id:=2) [11,13,14,15,16] [10,17,18] [(15,.row 0 zSt),(16,.row 0 zTr)] [] 10 24 (.tup [oS g w2,.d (dTree t2),.d (dB false)]) ?_))|refine(Fk.aw_fltA 7 ?_)|refine(Fk.aw_fltA 8 ?_)|refine Fk.aw_callM [0,1,2,3,4] cP cK (k:=kY ?_)|refine kU ?_|fail
   all_goals first|refine endR0 6 (hx:=?_);rw[hd.out];exact⟨_,trivial,rfl,rfl⟩
  ·refine kH fun gvs=>?_
   refine Qa 6 (h:=?_)
   repeat' first|refine kS ?_|(show AWP _ (.region 2 _ _) _ _;refine(Fk.awp_drawG (id:=2) [11,13,14,15,16] [10,17,18] [(15,.row 0 zSt),(16,.row 0 zTr)] [] 10 24 (.tup [oS (g+1) w2,.d (dTree t2),.d (dB true)]) ?_))|refine(Fk.aw_fltA 7 ?_)|refine(Fk.aw_fltA 8 ?_)|refine Fk.aw_callM [0,1,2,3,4] cP cK (k:=kY ?_)|refine kU ?_|fail
   all_goals first|refine endR0 6 (hx:=?_);rw[hd.out];exact⟨_,trivial,rfl,rfl⟩
 ·refine kH fun gvs=>?_
  refine Qa 6 (h:=?_)
  repeat refine kA ?_
  all_goals first|refine Qod 6 (hx:=?_);exact⟨g,trivial,rfl,rfl⟩

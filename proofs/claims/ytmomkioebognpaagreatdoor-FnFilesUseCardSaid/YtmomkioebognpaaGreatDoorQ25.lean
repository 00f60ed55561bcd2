/- Of fuse_card; no condition. -/
import Derived.Test.YtmomkioebognpaaGreatDoorQ23
import Derived.Test.YtmomkioebognpaaGreatDoorQ24
set_option linter.all false
set_option maxRecDepth 100000
set_option maxHeartbeats 16000000
open Bool renaming false_eq_true->A6
open Go renaming Operand->AH
open Go.Lib renaming compareBytes->A0
open Go.Op renaming bytesLess->A1
open Go.Proofs.Tryz renaming prog->A2,underlying116->A7,underlying3->A9
open Go.RowKit renaming Hid->AJ
open List renaming getElem?_eq_some_iff->A3,getElem?_eq_getElem->A4,mem_of_getElem?->A5,getElem?_eq_none_iff->A8,takeWhile_cons->AB,getElem_of_mem->AC,find?_eq_none->AD,length_cons->AF
open Nat renaming le_refl->AG
open Option.some renaming injEq->AI
open UInt8 renaming not_lt->AA,le_antisymm->AE
namespace Go.Proofs.YtmomkioebognpaaGreatDoor
noncomputable section
open Go.RowKit
namespace Aw
variable{j:Nat}{m:List (Int×D)}{u:AH}
attribute [local irreducible] ASeq ADraw AWP Loc AStep Fg.PlanF Fg.Flts EndR Fk.PlanF Fk.Flts Fk.AStepM Fk.Grew Fk.Gs
def ePut11(g:Nat)(w:Pl.Sto)(N:Nat)(hN:N<=800000)(hw:w.W N)(t:Pl.Tree)(ht:Pl.TGood t)(k:Nat)(hk:k<16)(n:Pl.Node)(hn:(Pl.Qaf n).length<=Pm.big):
 DoesE A2 27 [oS g w,.d (dTree t),.d (dI k),.d (dNode n)] (hS g w) (gS g w) (fun x H=>x= .tup [oS (if(Pl.tput w t k (Pl.Qaf n)).2.2 then g+1 else g) (Pl.tput w t k (Pl.Qaf n)).1,.d (dTree (Pl.tput w t k (Pl.Qaf n)).2.1),.d (dB (Pl.tput w t k (Pl.Qaf n)).2.2)]/\H=hS (if(Pl.tput w t k (Pl.Qaf n)).2.2 then g+1 else g) (Pl.tput w t k (Pl.Qaf n)).1):=by
 have c1:=Qom n;have c2:=(ePut g w N (by omega) hw t ht k hk (Pl.Qaf n) hn).tag3;have hWc:=Qem hw ht (k:=k) hk (Pl.Qaf n);have hsg:=Qdy (w:=w) (t:=t) (k:=k) (text:=Pl.Qaf n);generalize Pl.tput w t k (Pl.Qaf n)=y at*;generalize Pl.Qaf n=text at*;obtain⟨w2,t2,ok⟩:=y;simp only at c2 hWc hsg;have v0:w2.rows.length=w.rows.length:=by rw[hWc.1.rows,hw.rows]
 have v1:w2.refs.length=w.refs.length:=by rw[hWc.1.refs,hw.refs]
 have v2:w2.last.length=w.last.length:=by rw[hWc.1.last,hw.last]
 have v3:ok=false->w2.gone.length=w.gone.length:=fun e=>by rw[(hsg e).1]
 clear hsg hWc;cases ok<;>simp only[A6,if_false,if_true,forall_const] at c2 v3
 all_goals
  refine kH fun gvs=>?_
  refine QbP 6 (h:=?_);refine QbP 7 (h:=?_)
  repeat' first|refine kS ?_|(show AWP _ (.region 1 _ _) _ _;refine(Fg.awp_drawF (id:=1) [] [5,9,10] ?_))|refine QdZ [0,1,2,3,4] c2 cK (k:=kZ ?_)|refine kU ?_|fail
  all_goals first|refine Qca 5 (hx:=?_);exact⟨rfl,rfl⟩
abbrev zNd0:List AV:=[.d (.v (.int .i64 0)),.d (.v (.int .i64 0)),.d (.v (.int .i64 0)),.d (.v (.int .i64 0)),.d (.v (.int .i64 0)),.d (.v (.int .i64 0)),.d (.v (.int .i64 0)),.d (.v (.int .i64 0)),.d (.v (.int .i64 0)),.d (.v (.int .i64 0))]
abbrev rFs(w:Pl.Sto)(t:Pl.Tree)(full:Bool):List D:=[dStrs w.rows,dInts w.refs,dInts w.last,dI w.txg,dPtrs w.gone,dI 0,dPtrs [],dB w.same,dI t.root.pat,dI t.root.birth,dI t.root.size,dI t.root.sum,dI t.root.level,dI t.depth,dI t.many,dB full]
def aNode(w:Pl.Sto)(N:Nat)(hw:w.W N)(t:Pl.Tree)(ht:Pl.TGood t)(full:Bool)(id:Nat):Pure A2 152 [.pd (rFs w t full),dI id] (dNode (Pl.Qal w.st t id).1):=by
 have c:=al11Get w.st hw.good t ht id;generalize Pl.Qal w.st t id=r at*;refine kD ?_
 repeat' first|refine kS ?_|(show AWP _ (.region 1 _ _) _ _;refine(Fk.awp_drawF (id:=1) [0,1,2,3,4,5,6,7,8,9,10,11,12,13] [14] [(13,.row 0 zNd0)] [] ?_))|refine(Fk.aw_fltA 1 ?_)|refine(Fk.aw_fltL (ho:=rfl) (hk:=rfl) (hl:=fun H=>Qcv rfl) (k:=?_))|refine(Fk.aw_fltL (ho:=rfl) (hk:=rfl) (hl:=fun H=>Qcu cK c rfl) (k:=?_))|refine kU ?_|fail
 all_goals first|((refine QbP 0 (h:=?_);refine Qch (hx:=?_));rfl)
def Pl.Qaz(w:Pl.Sto)(t:Pl.Tree)(path:List UInt8):Int:=Pl.Qa2 w.st t (Pl.Qac path)
def QhQ(s:List UInt8):(Pl.Qac s).length<=s.length+1:=by
 unfold Pl.Qac;split
 ·simp
 ·have:=(Qds 47 s).1
  rw[List.length_tail];omega
def aFind(w:Pl.Sto)(N:Nat)(hw:w.W N)(t:Pl.Tree)(ht:Pl.TGood t)(full:Bool)(path:List UInt8)(hp:path.length<=900):Pure A2 151 [.pd (rFs w t full),dS path] (dI (Pl.Qaz w t path)):=by
 have c1:=Qf0 path (by omega);have hn:=QhQ path;have c2:=(Qkz w.st hw.good t ht (Pl.Qac path) (by omega)).arg (l:=[dSt w.st,dTree t,tStrs (Pl.Qac path)]);have hd:AJ (Pl.Qaz w t path=Pl.Qa2 w.st t (Pl.Qac path)):=Pm.hid rfl;rw[hd.out];clear hd hn;generalize Pl.Qac path=l at*;generalize Pl.Qa2 w.st t l=r at*;refine kE ?_
 repeat' first|refine kS ?_|refine qD (Qcv rfl) ?_|refine kU ?_|fail
 all_goals first|exact QbQ (hx:=rfl)
def Qmr{dst:Option Tmp}{ty:TypeId}{pos:String}{after:Array Edge}{gd:Option (Nat×Bool)}{env:List (Nat×AV)}{H:List Blk}{x:AH}{n:Pl.Node}(hx:aval env x= .d (dNode n)):
 Loc A2 ⟨dst,.field 50 x 0,ty,pos,after,gd⟩ env H (.d (dI n.kind)) none:=
 Qcs fun σ S H' a w _ hop _=>by
  have a1:=AV.conc_rel (hop x (by simp[Op.operands])) (y:= .agg #[.int .i64 n.kind,.int .i64 n.links,.int .i64 n.size,.int .i64 n.tree.root.pat,.int .i64 n.tree.root.birth,.int .i64 n.tree.root.size,.int .i64 n.tree.root.sum,.int .i64 n.tree.root.level,.int .i64 n.tree.depth,.int .i64 n.tree.many]) (by rw[hx];rfl);refine⟨.int .i64 n.kind,?_,.d _ _ (.v _)⟩;have hf: ∀(a b c d e f g h i j:Int),(Instr.field 50 (.agg #[.int .i64 a,.int .i64 b,.int .i64 c,.int .i64 d,.int .i64 e,.int .i64 f,.int .i64 g,.int .i64 h,.int .i64 i,.int .i64 j]) 0).run A2 w= .ok (.int .i64 a) w:=fun a b c d e f g h i j=>by kernel_rfl
  simp only[execOp,a1,Sem.run_bind,hf];rfl
def Pl.Qaq(w:Pl.Sto)(t:Pl.Tree)(path:List UInt8):Int×Int:=
 if Pl.Qac path=[] then(0,3) else
 if Pl.Qa2 w.st t ((Pl.Qac path).take ((Pl.Qac path).length -1))<0 then(0,2) else
 if(Pl.Qal w.st t (Pl.Qa2 w.st t ((Pl.Qac path).take ((Pl.Qac path).length -1))).toNat).1.kind=2 then(Pl.Qa2 w.st t ((Pl.Qac path).take ((Pl.Qac path).length -1)),0) else(0,4)
theorem aPlace(w:Pl.Sto)(N:Nat)(hw:w.W N)(t:Pl.Tree)(ht:Pl.TGood t)(full:Bool)(path:List UInt8)(hp:path.length<=900):Pure A2 153 [.pd (rFs w t full),dS path] (.tup [dI (Pl.Qaq w t path).1,dI (Pl.Qaq w t path).2]):=by
 have c1:=Qf0 path (by omega);have hn:=QhQ path;have c2:=Qkz w.st hw.good t ht ((Pl.Qac path).take ((Pl.Qac path).length -1)) (by rw[List.length_take];omega);have hd:=Pm.hid (Pl.Qaq.eq_def w t path);have c3:=fun id:Nat=>aNode w N hw t ht full id
 generalize Pl.Qaq w t path=res at*;generalize Pl.Qac path=l at*;generalize hf:Pl.Qa2 w.st t (l.take (l.length -1))=r at*;clear hf
 replace c2:Pure A2 34 [dSt w.st,dTree t,.sl true 1 ((l.map fun s=>[dS s]).take ((l.length:Int) -1).toNat)] (dI r):=by
  rw[show((l.length:Int) -1).toNat=l.length -1 by omega,<-List.map_take];exact c2.arg
 by_cases hl:l=[]
 ·rw[if_pos hl] at hd
  subst hl;rw[hd.out];clear c2 c3;refine kE ?_
  repeat refine kA ?_
  all_goals first|exact QbQ (hx:=rfl)
 rw[if_neg hl] at hd;have hl2:=List.length_pos_iff.2 hl;have hl3:AJ (((l.length:Int)==0)=false):=Pm.hid (by simp;omega)
 by_cases hr:r<0
 ·rw[if_pos hr] at hd
  rw[hd.out];clear c3;refine kE ?_
  repeat' first|refine kS ?_|refine qD (Qcv rfl) ?_|refine qD (Qf8 rfl rfl rfl (by omega) (by simp;omega)) ?_|refine kU ?_|refine kV ?_ ?_<;>intro q|fail
  all_goals first|exact absurd (hl3.out.symm.trans ‹((l.length:Int)==0)=true›) (by decide)|exact QbQ (hx:=rfl)|exfalso;simp only[decide_eq_false_iff_not] at*;omega
 rw[if_neg hr] at hd;obtain⟨a,ha⟩:=Int.eq_ofNat_of_zero_le (show 0<=r by omega);subst ha
 replace c3:=c3 a
 rw[Int.toNat_natCast] at hd;generalize (Pl.Qal w.st t a).1=n at*;refine kE ?_
 repeat' first|refine kS ?_|refine qD (Qcv rfl) ?_|refine qS (Qmr rfl) ?_|refine qD (Qf8 rfl rfl rfl (by omega) (by simp;omega)) ?_|refine kU ?_|refine kV ?_ ?_<;>intro q|fail
 all_goals first|exact absurd (hl3.out.symm.trans ‹((l.length:Int)==0)=true›) (by decide)|refine QbQ (hx:=?_);rw[hd.out,if_pos (by simpa using q)];done|refine QbQ (hx:=?_);rw[hd.out,if_neg (by simpa using q)];done|exfalso;simp only[decide_eq_true_eq] at*;omega
def Pl.QaC(w:Pl.Sto)(t:Pl.Tree)(path:List UInt8):Int×Int:=
 if 0<(Pl.Qaq w t path).2 then(0,(Pl.Qaq w t path).2) else if 0<=Pl.Qaz w t path then(0,3) else((Pl.Qaq w t path).1,0)
def aFresh(w:Pl.Sto)(N:Nat)(hw:w.W N)(t:Pl.Tree)(ht:Pl.TGood t)(full:Bool)(path:List UInt8)(hp:path.length<=900):Pure A2 144 [.pd (rFs w t full),dS path] (.tup [dI (Pl.QaC w t path).1,dI (Pl.QaC w t path).2]):=by
 have c1:=aPlace w N hw t ht full path hp;have c2:=aFind w N hw t ht full path hp;have hd:=Pm.hid (Pl.QaC.eq_def w t path);generalize Pl.QaC w t path=res at*;generalize Pl.Qaq w t path=p at*;generalize Pl.Qaz w t path=r at*;refine kE ?_
 repeat' first|refine kA ?_|refine kV ?_ ?_<;>intro q|fail
 all_goals first|refine QbQ (hx:=?_);rw[hd.out,if_pos (by simp only[decide_eq_true_eq] at*;omega)];done|refine QbQ (hx:=?_);rw[hd.out,if_neg (by simp only[decide_eq_false_iff_not,decide_eq_true_eq] at*;omega),if_pos (by simp only[decide_eq_true_eq] at*;omega)];done|refine QbQ (hx:=?_);rw[hd.out,if_neg (by simp only[decide_eq_false_iff_not] at*;omega),if_neg (by simp only[decide_eq_false_iff_not] at*;omega)];done
abbrev rowF(g:Nat)(w:Pl.Sto)(t:Pl.Tree)(full:Bool):List AV:=[.osl 0 1 0 64,.osl 1 1 0 64,.osl 2 1 0 64,.d (dI w.txg),.osl 3 g 0 w.gone.length,.d (dI 0),.osl 4 1 0 0,.d (dB w.same),.d (dI t.root.pat),.d (dI t.root.birth),.d (dI t.root.size),.d (dI t.root.sum),.d (dI t.root.level),.d (dI t.depth),.d (dI t.many),.d (dB full)]
abbrev hF(g:Nat)(f:Pl.F):List Blk:=[.arr 1 1 9 (rS f.1.rows),.arr 1 1 3 (rI f.1.refs),.arr 1 1 3 (rI f.1.last),.arr g 5 31 (f.1.gone.map rPtr),.arr 1 5 31 [],.row 0 (rowF g f.1 f.2.1 f.2.2)]
abbrev gF(g:Nat)(w:Pl.Sto):List AV:=[.osl 0 1 0 64,.osl 1 1 0 64,.osl 2 1 0 64,.osl 3 g 0 w.gone.length,.osl 4 1 0 0,.ptr 5 0 0]
section
variable{σ:Sg}{S:Nat->Prop}{f:Pl.F}{g1 g2:Nat}{wd:World}{v:Value}
theorem Qea{k g:Nat}{len:Nat}(hk:k≠3)(h:Rel σ S (hF g1 f) wd (.osl k g 0 len) v):Rel σ S (hF g2 f) wd (.osl k g 0 len) v:=by
 cases h with
 |osl _ _ _ _ _ ho g' sz T rows hb hg h=>
  refine .osl _ _ _ _ _ ho g' sz T rows ?_ hg h
  grind
def QpQ{len:Nat}(h:Rel σ S (hF g1 f) wd (.osl 3 g1 0 len) v):Rel σ S (hF g2 f) wd (.osl 3 g2 0 len) v:=by
 cases h with
 |osl _ _ _ _ _ ho g' sz T rows hb hg h=>
  cases hb;exact .osl _ _ _ _ _ ho _ _ _ _ rfl (AG _) fun _=>h rfl
def Qc0{x:D}(h:Rel σ S (hF g1 f) wd (.d x) v):Rel σ S (hF g2 f) wd (.d x) v:=by
 cases h with
 |d _ _ h=>exact .d _ _ h
def Qsv(h:Rel σ S (hF g1 f) wd (.ptr 5 0 0) v):Rel σ S (hF g2 f) wd (.ptr 5 0 0) v:=by
 cases h with
 |ptr _ _ _ _ ho g' cells hb hg h=>cases hb;exact .ptr _ _ _ _ ho _ _ rfl (AG _) h
def QkI(h:Rel σ S (hF g1 f) wd (.tup []) v):Rel σ S (hF g2 f) wd (.tup []) v:=by
 cases h with
 |tup _ cs hl h=>exact .tup _ cs hl fun i d x hd hx=>by cases hd
def Qsu{x:AV}(hj:(rowF g2 f.1 f.2.1 f.2.2)[j]? =some x){y:AV}(hj1:(rowF g1 f.1 f.2.1 f.2.2)[j]? =some y)(h:Rel σ S (hF g1 f) wd y v):Rel σ S (hF g2 f) wd x v:=by
 match j,hj,hj1 with
 |0,hj,hj1=>cases hj;cases hj1;exact Qea (by decide) h
 |1,hj,hj1=>cases hj;cases hj1;exact Qea (by decide) h
 |2,hj,hj1=>cases hj;cases hj1;exact Qea (by decide) h
 |3,hj,hj1=>cases hj;cases hj1;exact Qc0 h
 |4,hj,hj1=>cases hj;cases hj1;exact QpQ h
 |5,hj,hj1=>cases hj;cases hj1;exact Qc0 h
 |6,hj,hj1=>cases hj;cases hj1;exact Qea (by decide) h
 |7,hj,hj1=>cases hj;cases hj1;exact Qc0 h
 |8,hj,hj1=>cases hj;cases hj1;exact Qc0 h
 |9,hj,hj1=>cases hj;cases hj1;exact Qc0 h
 |10,hj,hj1=>cases hj;cases hj1;exact Qc0 h
 |11,hj,hj1=>cases hj;cases hj1;exact Qc0 h
 |12,hj,hj1=>cases hj;cases hj1;exact Qc0 h
 |13,hj,hj1=>cases hj;cases hj1;exact Qc0 h
 |14,hj,hj1=>cases hj;cases hj1;exact Qc0 h
 |15,hj,hj1=>cases hj;cases hj1;exact Qc0 h
 |j+16,hj,hj1=>cases hj
def smF_tag{B:Bs}(h:Sm B σ S (hF g1 f) wd):Sm B σ S (hF g2 f) wd:=
 {h with
  blk:=fun k C hC=>by
   match k,hC with
   |0,hC=>cases hC;exact h.blk 0 _ rfl
   |1,hC=>cases hC;exact h.blk 1 _ rfl
   |2,hC=>cases hC;exact h.blk 2 _ rfl
   |3,hC=>cases hC;exact h.blk 3 _ rfl
   |4,hC=>cases hC;exact h.blk 4 _ rfl
   |5,hC=>
    cases hC;rcases h.blk 5 _ rfl with⟨b,cs,T,h1,h2,h3⟩|⟨_,h2⟩
    ·refine .inl ⟨b,cs,T,h1,h2,fun j x hj=>?_⟩
     have hl:j<16:=(A3.1 hj).1;obtain⟨u,hu,hr⟩:=h3 j _ (A4 (l:=rowF g1 f.1 f.2.1 f.2.2) hl);exact⟨u,hu,Qsu hj (A4 (l:=rowF g1 f.1 f.2.1 f.2.2) hl) hr⟩
    ·cases h2
   |k+6,hC=>cases hC}
end
theorem DoesE.tagF{fn:FuncId}{args:List AV}{w:Pl.Sto}{f0 f:Pl.F}{g:Nat}{X:AV}{C:Nat->Prop}(h:DoesE A2 fn args (hF g f0) (gF g w) (fun x H=> ∃g',C g'/\x=X/\H=hF g' f))
 (hX: ∀{σ:Sg} {S:Nat->Prop} {g1 g2:Nat} {wd:World} {v:Value},Rel σ S (hF g1 f) wd X v->Rel σ S (hF g2 f) wd X v):
 DoesE A2 fn args (hF g f0) (gF g w) (fun x H=>x=X/\H=hF (g+1) f):=by
 intro B σ S w0 cargs gvs h1 h2 h3 h4 h5 h6;refine(h B σ S w0 cargs gvs h1 h2 h3 h4 h5 h6).mono ?_;rintro _ _ ⟨x,H1,⟨g',h0,rfl,rfl⟩,h7,v,σ',S',rfl,h8,h9,h10⟩;refine⟨_,_,⟨rfl,rfl⟩,fun i C0 hC=>?_,v,σ',S',rfl,smF_tag h8,hX h9,fun i d v hd hv=>?_⟩
 ·obtain⟨C',e1,e2⟩:=h7 i C0 hC
  match i,hC,e1 with
  |0,hC,e1=>grind
  |1,hC,e1=>grind
  |2,hC,e1=>grind
  |3,hC,e1=>cases hC;exact⟨_,rfl,rfl,rfl,.inl (Nat.lt_succ_self g)⟩
  |4,hC,e1=>grind
  |5,hC,e1=>cases hC;exact⟨_,rfl,.inr ⟨rfl,0,by simp⟩⟩
  |i+6,hC,e1=>cases hC
 ·have e:=h10 i d v hd hv
  match i,hd with
  |0,hd=>cases hd;exact Qea (by decide) e
  |1,hd=>cases hd;exact Qea (by decide) e
  |2,hd=>cases hd;exact Qea (by decide) e
  |3,hd=>cases hd;cases e with
   |osl _ _ _ _ _ ho g2 sz T rows hb hg h=>exact .osl _ _ _ _ _ ho _ _ _ _ rfl (Nat.le_succ g) fun h=>absurd h (by omega)
  |4,hd=>cases hd;exact Qea (by decide) e
  |5,hd=>cases hd;exact Qsv e
  |i+6,hd=>cases hd
def ePutF(g:Nat)(f:Pl.F)(N:Nat)(hN:N<=800000)(hw:f.1.W N)(ht:Pl.TGood f.2.1)(k:Nat)(hk:k<16)(n:Pl.Node)(hn:(Pl.Qaf n).length<=Pm.big):
 DoesE A2 147 [.ptr 5 0 0,.d (dI k),.d (dNode n)] (hF g f) (gF g f.1) (fun x H=>x= .tup []/\H=hF (g+1) (Pl.fput f k n)):=by
 refine DoesE.tagF (C:=fun _=>True) ?_ QkI;obtain⟨w,t,full⟩:=f;simp only at hw ht⊢;cases full
 ·have hd:AJ (Pl.fput (w,t,false) k n=((Pl.tput w t k (Pl.Qaf n)).1,(Pl.tput w t k (Pl.Qaf n)).2.1,!(Pl.tput w t k (Pl.Qaf n)).2.2)):=Pm.hid rfl
  generalize Pl.fput (w,t,false) k n=res at*;have cP:=ePut11 g w N hN hw t ht k hk n hn;have hWc:=(Qem hw ht hk (Pl.Qaf n)).1;have hsg:=Qdy (w:=w) (t:=t) (k:=k) (text:=Pl.Qaf n);generalize Pl.tput w t k (Pl.Qaf n)=y at*;obtain⟨w2,t2,ok2⟩:=y;simp only at cP hWc hsg hd;have v0:w2.rows.length=w.rows.length:=by rw[hWc.rows,hw.rows]
  have v1:w2.refs.length=w.refs.length:=by rw[hWc.refs,hw.refs]
  have v2:w2.last.length=w.last.length:=by rw[hWc.last,hw.last]
  have v3:ok2=false->w2.gone.length=w.gone.length:=fun e=>by rw[(hsg e).1]
  clear hsg hWc hn;cases ok2<;>simp only[A6,if_false,if_true,forall_const] at cP v3
  ·refine kH fun gvs=>?_
   refine QbP 6 (h:=?_)
   repeat' first|refine kS ?_|(show AWP _ (.region 2 _ _) _ _;refine(Fk.awp_drawG (id:=2) [11,13,14,15,16] [10,17,18] [(15,.row 0 zSt),(16,.row 0 zTr)] [] 10 24 (.tup [oS g w2,.d (dTree t2),.d (dB false)]) ?_))|refine(Fk.aw_fltA 7 ?_)|refine(Fk.aw_fltA 8 ?_)|refine Fk.aw_callM [0,1,2,3,4] cP cK (k:=kY ?_)|refine kU ?_|fail
   all_goals first|refine endR0 6 (hx:=?_);rw[hd.out];exact⟨_,trivial,rfl,rfl⟩
  ·refine kH fun gvs=>?_
   refine QbP 6 (h:=?_)
   repeat' first|refine kS ?_|(show AWP _ (.region 2 _ _) _ _;refine(Fk.awp_drawG (id:=2) [11,13,14,15,16] [10,17,18] [(15,.row 0 zSt),(16,.row 0 zTr)] [] 10 24 (.tup [oS (g+1) w2,.d (dTree t2),.d (dB true)]) ?_))|refine(Fk.aw_fltA 7 ?_)|refine(Fk.aw_fltA 8 ?_)|refine Fk.aw_callM [0,1,2,3,4] cP cK (k:=kY ?_)|refine kU ?_|fail
   all_goals first|refine endR0 6 (hx:=?_);rw[hd.out];exact⟨_,trivial,rfl,rfl⟩
 ·refine kH fun gvs=>?_
  refine QbP 6 (h:=?_)
  repeat refine kA ?_
  all_goals first|refine QnW 6 (hx:=?_);exact⟨g,trivial,rfl,rfl⟩
theorem QtP: ∀a b:List UInt8,decide (A0 a b<0)=A1 a b
 |[],[]=>by simp[A0,A1]
 |[],_::_=>by simp[A0,A1]
 |_::_,[]=>by simp[A0,A1]
 |a::x,b::y=>by
  have ih:=QtP x y;unfold A0 A1
  by_cases h:a<b
  ·simp[h]
  ·by_cases h2:b<a
   ·have:a≠b:=by rintro rfl;exact h h2
    simp[h,h2,this]
   ·have:a=b:=AE (AA.1 h2) (AA.1 h)
    subst this;simp only[h,if_false,BEq.rfl,Bool.true_and,decide_false,Bool.false_or];exact ih
theorem QtQ: ∀a b:List UInt8,(A0 a b==0)=(a==b)
 |[],[]=>by simp[A0]
 |[],_::_=>by simp[A0]
 |_::_,[]=>by simp[A0]
 |a::x,b::y=>by
  have ih:=QtQ x y;unfold A0
  by_cases h:a<b
  ·have:a≠b:=by rintro rfl;exact absurd h (UInt8.lt_irrefl _)
   simp[h,this]
  ·by_cases h2:b<a
   ·have:a≠b:=by rintro rfl;exact h h2
    simp[h,h2,this]
   ·have:a=b:=AE (AA.1 h2) (AA.1 h)
    subst this;simp only[h,if_false,ih];rw[Bool.eq_iff_iff];simp
def Qts(a b:List UInt8):Pure A2 213 [dS a,dS b] (dI (A0 a b)):=
 Qc4 rfl fun w _=>(Tryz.strings_Compare ⟨a.toArray⟩ ⟨b.toArray⟩ w).mono fun e w' h=>⟨h.1,h.2▸Below.refl _ _⟩
def QrF(e:Pl.Ent)(n:List UInt8):Pure A2 212 [.agg (rEnt e),dS n] (dI (A0 e.1 n)):=by
 have c:=Qts e.1 n;generalize A0 e.1 n=r at*;refine kE ?_;refine QbP 0 (h:=?_)
 repeat refine kA ?_
 exact QbQ (hx:=rfl)
def Pl.lowB(l:List Pl.Ent)(n:List UInt8):Nat:=(l.takeWhile fun e=>A1 e.1 n).length
def Pl.QaX(l:List Pl.Ent)(n:List UInt8):Bool:=match l[Pl.lowB l n]? with
 |some e=>e.1==n
 |none=>false
theorem QgY{α:Type}(p:α->Bool): ∀(l:List α) (i:Nat),i<=l.length->(∀k (h:k<l.length),k<i->p l[k]=true)->(∀h:i<l.length,p l[i]=false)->(l.takeWhile p).length=i
 |[],i,hi,_,_=>by simp at hi;subst hi;rfl
 |a::l,0,_,_,h2=>by
  have:=h2 (by simp);simp at this;simp[List.takeWhile,this]
 |a::l,i+1,hi,h1,h2=>by
  have h:=h1 0 (by simp) (by omega);simp only[List.getElem_cons_zero] at h;rw[AB,if_pos h,AF,QgY p l i (by simpa using hi) (fun k hk hki=>h1 (k+1) (by simpa using hk) (by omega)) (fun hh=>h2 (by simpa using hh))]
theorem QeY{α:Type}(p:α->Bool): ∀(l:List α),(∀k (h:k<l.length),k<(l.takeWhile p).length->p l[k]=true)/\(∀e,l[(l.takeWhile p).length]? =some e->p e=false)
 |[]=>⟨fun k h=>by simp at h,fun e h=>by simp at h⟩
 |a::l=>by
  obtain⟨h1,h2⟩:=QeY p l;rw[AB]
  by_cases h:p a=true
  ·rw[if_pos h]
   refine⟨fun k hk hki=>?_,fun e he=>?_⟩
   ·cases k with
    |zero=>exact h
    |succ k=>exact h1 k (by simpa using hk) (by simpa using hki)
   ·rw[AF,List.getElem?_cons_succ] at he;exact h2 e he
  ·rw[if_neg h]
   refine⟨fun k hk hki=>by simp at hki,fun e he=>?_⟩;simp only[List.length_nil,List.getElem?_cons_zero,AI] at he;subst he;simpa using h
theorem QnC{l:List Pl.Ent}(h:Pl.Qam l=true)(n:List UInt8){i:Nat}(hi:i<l.length)(hj:j<l.length)(hij:i<=j)(hl:A1 l[j].1 n=true):A1 l[i].1 n=true:=by
 rcases Nat.eq_or_lt_of_le hij with e|e
 ·subst e;exact hl
 ·exact Qki (Qkb h hj e) hl
theorem QmE{l:List Pl.Ent}(h:Pl.Qam l=true)(n:List UInt8):l.find? (fun e=>e.1==n)=if Pl.QaX l n then l[Pl.lowB l n]? else none:=by
 unfold Pl.QaX;obtain⟨hlow,hat⟩:=QeY (fun e:Pl.Ent=>A1 e.1 n) l;rw[show(l.takeWhile fun e=>A1 e.1 n).length=Pl.lowB l n from rfl] at hlow hat;cases he:l[Pl.lowB l n]? with
 |none=>
  simp only[A6,if_false];rw[AD];intro x hx;obtain⟨k,hk,rfl⟩:=AC hx;have:=hlow k hk (by have:=A8.1 he;omega);simp only[beq_iff_eq];intro e;rw[e,Qfv] at this;cases this
 |some e=>
  have hb:=hat e he;obtain⟨hlt,hge⟩:=A3.1 he;simp only
  by_cases hn:e.1=n
  ·rw[if_pos (by simpa using hn),List.find?_eq_some_iff_getElem]
   refine⟨by simpa using hn,_,hlt,hge,fun j hj=>?_⟩;have:=hlow j (by omega) hj;simp only[Bool.not_eq_true',beq_eq_false_iff_ne];intro e2;rw[e2,Qfv] at this;cases this
  ·rw[if_neg (by simpa using hn),AD]
   intro x hx;obtain⟨k,hk,rfl⟩:=AC hx;simp only[beq_iff_eq];intro e2;rcases Nat.lt_trichotomy k (Pl.lowB l n) with h1|h1|h1
   ·have:=hlow k hk h1
    rw[e2,Qfv] at this;cases this
   ·subst h1;rw[hge] at e2;exact hn e2
   ·have:=Qkb h hk h1
    rw[hge,e2,hb] at this;cases this
theorem Qps(l:List Pl.Ent)(n:List UInt8)(hE:Pl.Qam l=true)(f:FuncId)(hf: ∀args w,(callFunc f args).run A2 w= .ok (.enter f args) w)(h: ∀e∈l,Pure A2 f [.agg (rEnt e),dS n] (dI (A0 e.1 n))):
 PureF A2 211 [.d (dEnts l),.d (dS n),.fn (.func f) []] (.tup [dI (Pl.lowB l n),dB (Pl.QaX l n)]):=by
 have hl:l.length<=12:=by have:=hE;unfold Pl.Qam at this;rw[Bool.and_eq_true,decide_eq_true_eq] at this;exact this.2
 have hEd:=Pm.hid hE;clear hE;refine kF ?_
 repeat refine kA ?_
 refine QbS (fun m st=> ∃i j:Nat,i<=j/\j<=l.length/\m=j -i/\AJ (∀k (h:k<l.length),k<i->A1 l[k].1 n=true)/\AJ (∀k (h:k<l.length),j<=k->A1 l[k].1 n=false)/\
  st=⟨49,[(9,.d (dI i)),(10,.d (dI j)),(8,.d (dI l.length)),(0,.d (dEnts l)),(1,.d (dS n)),(2,.fn (.func f) [])],[]⟩) [9,10,8,0,1,2] 0 l.length ⟨0,l.length,by omega,by omega,by omega,Pm.hid fun _ _ h=>by omega,Pm.hid fun _ _ h=>by omega,by simp[keepE,go_sem]⟩ (round:=?_)
 rintro m st ⟨i,j,hij,hj,rfl,hA,hB,rfl⟩
 repeat refine kG ?_
 by_cases q3:i<j
 rotate_left
 ·have e:i=j:=by omega
  subst e;have hlow:AJ (Pl.lowB l n=i):=Pm.hid (QgY _ l i hj (fun k hk hki=>hA.out k hk hki) (fun hh=>hB.out i hh (AG _)))
  by_cases q4:i<l.length
  ·obtain⟨x,hx⟩: ∃x,l[i]? =some x:=⟨_,A4 q4⟩
   have hr:=QbV (f:=rEnt) hx;have c:=h x (A5 hx);have hit:AJ (Pl.QaX l n=(x.1==n)):=Pm.hid (by unfold Pl.QaX;rw[hlow.out,hx]);rw[<-QtQ] at hit;clear hx hA hB hEd;generalize A0 x.1 n=r at*;generalize Pl.QaX l n=hh at*;generalize Pl.lowB l n=lo at*
   repeat' first|refine kS ?_|refine qS (iy hr) ?_|refine qS (Qd1 hf c rfl rfl) ?_|refine kU ?_|refine kV ?_ ?_<;>intro q|fail
   all_goals first
    |(exfalso;simp only[decide_eq_true_eq,decide_eq_false_iff_not] at*;omega)
    |(refine Qch (hx:=?_)
      rw[hlow.out,hit.out])
  ·have hit:AJ (Pl.QaX l n=false):=Pm.hid (by unfold Pl.QaX;rw[hlow.out,A8.2 (by omega)])
   clear hA hB hEd;generalize Pl.QaX l n=hh at*;generalize Pl.lowB l n=lo at*
   repeat' first|refine kA ?_|refine kV ?_ ?_<;>intro q|fail
   all_goals first
    |(exfalso;simp only[decide_eq_true_eq,decide_eq_false_iff_not] at*;omega)
    |(refine Qch (hx:=?_)
      rw[hlow.out,hit.out])
 have hm:(i+j)/2<l.length:=by omega
 obtain⟨x,hx⟩: ∃x,l[(i+j)/2]? =some x:=⟨_,A4 hm⟩;have hxe:l[(i+j)/2]=x:=(A3.1 hx).2;have hr:=QbV (f:=rEnt) hx;have c:=h x (A5 hx);have hlt:=Pm.hid (QtP x.1 n);have T:AJ (A1 x.1 n=true-> ∀k (h:k<l.length),k<(i+j)/2+1->A1 l[k].1 n=true):=Pm.hid fun hb k hk hki=>QnC hEd.out n hk hm (by omega) (by rw[hxe];exact hb)
 have F:AJ (A1 x.1 n=false-> ∀k (h:k<l.length),(i+j)/2<=k->A1 l[k].1 n=false):=Pm.hid fun hb k hk hki=>by
  cases hv:A1 l[k].1 n with
  |false=>rfl
  |true=>have:=QnC hEd.out n hm hk hki hv;rw[hxe,hb] at this;cases this
 generalize hmv:(i+j)/2=mm at*;have hmi:(((i:Int)+j)/2)=(mm:Int):=by omega
 clear hx hxe hEd;generalize A1 x.1 n=b at*;generalize A0 x.1 n=r at*
 repeat' first|refine kS ?_|refine qS (QdA (D1:= .int .i64) (k':= .u64) (m:=(i:Int)+j) (by kernel_rfl) (by kernel_rfl) rfl rfl (by rw[IntKind.wrap_u64];omega)) ?_|refine qS (Qs8 rfl rfl (by omega)) ?_|refine qS (QdA (D1:= .int .u64) (k':= .i64) (m:=(mm:Int)) (by kernel_rfl) (by kernel_rfl) rfl rfl (by rw[hmi,IntKind.wrap_i64];omega)) ?_|refine qS (iy hr) ?_|refine qS (Qd1 hf c rfl rfl) ?_|refine kU ?_|refine kV ?_ ?_<;>intro q|fail
 all_goals first
  |(exfalso;simp only[decide_eq_true_eq,decide_eq_false_iff_not] at*;omega)
  |(have hb:=hlt.out.symm.trans ‹decide (r<0)=true›
    exact QbR (j -(mm+1)) (by omega) ⟨mm+1,j,by omega,hj,by omega,Pm.hid (T.out hb),hB,by simp[keepE,go_sem]⟩)
  |(have hb:=hlt.out.symm.trans ‹decide (r<0)=false›
    exact QbR (mm -i) (by omega) ⟨i,mm,by omega,by omega,by omega,hA,Pm.hid (F.out hb),by simp[keepE,go_sem]⟩)
def QnU(l:List Pl.Ent)(n:List UInt8)(hE:Pl.Qam l=true):Pure A2 178 [dEnts l,dS n] (.tup [dI (Pl.lowB l n),dB (Pl.QaX l n)]):=by
 have c:=Qps l n hE 212 Tryz.call212 fun e _=>QrF e n
 clear hE;generalize Pl.lowB l n=lo at*;generalize Pl.QaX l n=hh at*;refine kB ?_
 repeat' first|refine kS ?_|refine qS (QcY cK c rfl rfl) ?_|refine kU ?_|fail
 exact QbQ (hx:=rfl)
abbrev rFiles(s:Pm.Store)(t:Pl.Tree)(x:List (List UInt8))(m:List (Int×D)):List D:=
 [.pd (rSt s),dI t.root.pat,dI t.root.birth,dI t.root.size,dI t.root.sum,dI t.root.level,dI t.depth,dI t.many,tNds x,.mp (imap m)]
def Pl.QbL(m:List (Int×D))(L:Int->List Pl.Ent):Prop:=
 ∀n,0<=n->Pl.Qam (L n)=true/\(mget m n=some (tEnts (L n))∨mget m n=none/\L n=[])
def Pl.Qbt(L:Int->List Pl.Ent):Int->List (List UInt8)->Option Int
 |i,[]=>some i
 |i,n::q=>match(L i).find? (fun e=>e.1==n) with
  |none=>none
  |some e=>Pl.Qbt L e.2 q
def QqP(L:Int->List Pl.Ent)(i:Int):Pl.Qbt L i []=some i:=rfl
def QgH(L:Int->List Pl.Ent)(i:Int)(n:List UInt8)(q:List (List UInt8)):Pl.Qbt L i (n::q)=match(L i).find? (fun e=>e.1==n) with
 |none=>none
 |some e=>Pl.Qbt L e.2 q:=rfl
def Qm8(E:Pl.Node->List Pl.Ent×Bool)(ns:List Pl.Node): ∀(q:List (List UInt8)) (i:Int),Pl.Qbt (fun i=>(E (ns.getD i.toNat Pl.zn)).1) i q=Pl.Qb2 E ns i q
 |[],_=>rfl
 |n::q,i=>by
  rw[QgH,Qdo];generalize (E (ns.getD i.toNat Pl.zn)).1.find? (fun e=>e.1==n)=r;cases r with
  |none=>rfl
  |some e=>exact Qm8 E ns q _
section
variable{P:Program}{dst:Option Tmp}{ty:TypeId}{pos:String}{after:Array Edge}{gd:Option (Nat×Bool)}{env:List (Nat×AV)}{H:List Blk}{T kt et:TypeId}{z:Value}
def QfI(hT:P.underlying T=some (.map kt et))(hk:P.underlying kt=some (.int .i64))(hz:(P.info? et).bind (·.zero)=some z){v:AH}{n:Int}{d:D}
 (hu:aval env u= .d (.mp (imap m))) (hv:aval env v= .d (.v (.int .i64 n))) (hg:mget m n=some d):Loc P ⟨dst,.lookup T u v false,ty,pos,after,gd⟩ env H (.d d) none:=by
 have h:=QfT (dst:=dst) (ty:=ty) (pos:=pos) (after:=after) (gd:=gd) (H:=H) hT hk hz hu hv;rw[hg] at h;exact h
def QiJ(hT:P.underlying T=some (.map kt et))(hk:P.underlying kt=some (.int .i64))(hz:(P.info? et).bind (·.zero)=some z){v:AH}{n:Int}
 (hu:aval env u= .d (.mp (imap m))) (hv:aval env v= .d (.v (.int .i64 n))) (hg:mget m n=none):Loc P ⟨dst,.lookup T u v false,ty,pos,after,gd⟩ env H (.d (.v z)) none:=by
 have h:=QfT (dst:=dst) (ty:=ty) (pos:=pos) (after:=after) (gd:=gd) (H:=H) hT hk hz hu hv;rw[hg] at h;exact h
end
attribute [local irreducible] mget
def bFind(s:Pm.Store)(t:Pl.Tree)(x:List (List UInt8))(m:List (Int×D))(L:Int->List Pl.Ent)(hm:Pl.QbL m L)(q:List (List UInt8))(hq:q.length<=1000000):
 Pure A2 120 [.pd (rFiles s t x m),tStrs q] (dI ((Pl.Qbt L 0 q).getD (-1))):=by
 refine kB ?_
 repeat refine kA ?_
 refine QbS (fun mm st=> ∃(k:Nat) (at_:Int),k<=q.length/\mm=q.length -k/\0<=at_/\at_<=1000000/\AJ (Pl.Qbt L 0 q=Pl.Qbt L at_ (q.drop k))/\
  st=⟨41,[(12,.d (dI k)),(11,.d (dI q.length)),(10,.d (tStrs q)),(5,.d (dI at_)),(0,.d (.pd (rFiles s t x m)))],[]⟩) [12,11,10,5,0] 0 q.length ⟨0,0,by omega,rfl,by omega,by omega,Pm.hid rfl,by simp[keepE,go_sem]⟩ (round:=?_)
 rintro mm st ⟨k,at_,hk,rfl,ha,hb,hF,rfl⟩
 repeat refine kG ?_
 cases q3:decide ((k:Int)<(q.length:Int))
 ·repeat refine kA ?_
  refine QbQ (hx:=?_);have:k=q.length:=by simp at q3;omega
  rw[hF.out,this,List.drop_length];rfl
 have hk2:k<q.length:=by simp at q3;omega
 obtain⟨n,hn⟩: ∃n,q[k]? =some n:=⟨_,A4 hk2⟩;have hr:=QbV (f:=fun s=>[dS s]) hn
 have hd:q.drop k=n::q.drop (k+1):=by
  rw[List.drop_eq_getElem_cons hk2,(A3.1 hn).2]
 have hst:=hF.out;rw[hd,QgH] at hst;obtain⟨hE,hg⟩:=hm at_ ha;rw[QmE hE] at hst;clear hn hd hF;have hs2:=Pm.hid hst;clear hst;rcases hg with hg|⟨hg,hl⟩
 ·have c:=(QnU (L at_) n hE).arg (l:=[tEnts (L at_),dS n])
  cases hh:Pl.QaX (L at_) n
  ·rw[hh] at c hs2
   generalize Pl.lowB (L at_) n=lo at*;clear hE
   repeat' first|refine kS ?_|refine qS (iy hr) ?_|refine qS (Qcv rfl) ?_|refine qS (QfI A7 A9 (z:= .slice none 0 0) (by kernel_rfl) rfl rfl hg) ?_|refine kU ?_|fail
   refine QbQ (hx:=?_);rw[hs2.out];rfl
  ·rw[hh] at c hs2
   have hlen: ∃e,(L at_)[Pl.lowB (L at_) n]? =some e:=by
    unfold Pl.QaX at hh;split at hh
    ·rename_i e he;exact⟨e,he⟩
    ·cases hh
   obtain⟨e,he⟩:=hlen;have hre:=QbV (f:=rEnt) he;have heb:=(ent_b hE e (A5 he)).2;have hs3:AJ (Pl.Qbt L 0 q=Pl.Qbt L e.2 (q.drop (k+1))):=Pm.hid (by rw[hs2.out,if_pos rfl,he]);have hll:=(A3.1 he).1;clear hs2 he hE;generalize Pl.lowB (L at_) n=lo at*
   repeat' first|refine kS ?_|refine qS (iy hr) ?_|refine qS (iy hre) ?_|refine qS (Qcv rfl) ?_|refine qS (QfI A7 A9 (z:= .slice none 0 0) (by kernel_rfl) rfl rfl hg) ?_|refine kU ?_|fail
   refine QbR (q.length -(k+1)) (by omega) ⟨k+1,e.2,by omega,rfl,by omega,by omega,hs3,by simp[keepE,go_sem]⟩
 ·rw[hl] at hs2 hE
  have c:=(QnU [] n hE);have c2:Pl.QaX [] n=false:=rfl;have c3:Pl.lowB [] n=0:=rfl;rw[c2,c3] at c;rw[c2] at hs2;clear hE c2 c3
  repeat' first|refine kS ?_|refine qS (iy hr) ?_|refine qS (Qcv rfl) ?_|refine qS (QiJ A7 A9 (z:= .slice none 0 0) (by kernel_rfl) rfl rfl hg) ?_|refine(aw_nilS 22 false 2 (h:=?_))|refine kU ?_|fail
  refine QbQ (hx:=?_);rw[hs2.out];rfl
def bPath(s:Pm.Store)(t:Pl.Tree)(x:List (List UInt8))(m:List (Int×D))(L:Int->List Pl.Ent)(hm:Pl.QbL m L)(p:List UInt8)(hp:p.length<=1000000000000):
 Pure A2 60 [.pd (rFiles s t x m),dS p] (dI (match Pl.Qae p with|none=> -1|some q=>(Pl.Qbt L 0 q).getD (-1))):=by
 have c1:=Qpj p hp;cases hq:Pl.Qae p with
 |none=>
  rw[hq] at c1;refine kB ?_
  repeat refine kA ?_
  exact QbQ (hx:=rfl)
 |some q=>
  rw[hq] at c1;have hl:=(Qeb.1 hq).2.1;have c2:=bFind s t x m L hm q (by omega);simp only[Option.getD_some,Option.isSome_some] at c1;simp only;generalize (Pl.Qbt L 0 q).getD (-1)=r at*;refine kB ?_
  repeat refine kA ?_
  exact QbQ (hx:=rfl)

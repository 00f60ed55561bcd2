/- Of parts_card; no condition. -/
import Derived.Test.YtilenknaajikpaaGreatDoorP25
set_option linter.all false
set_option maxRecDepth 100000
set_option maxHeartbeats 16000000
open Bool renaming not_eq_false'->A3
open Go.Proofs.Tryz renaming prog->A2
open List renaming take_of_length_le->A0,getElem?_eq_getElem->A1,map_cons->A4
open Nat renaming le_refl->A5
namespace Go.Proofs.YtilenknaajikpaaGreatDoor
noncomputable section
open Go.RowKit
namespace Aw
abbrev rowF(g:Nat)(w:Pl.Sto)(t:Pl.Tree)(full:Bool):List AV:=[.osl 0 1 0 64,.osl 1 1 0 64,.osl 2 1 0 64,.d (dI w.txg),.osl 3 g 0 w.gone.length,.d (dI 0),.osl 4 1 0 0,.d (dB w.same),.d (dI t.root.pat),.d (dI t.root.birth),.d (dI t.root.size),.d (dI t.root.sum),.d (dI t.root.level),.d (dI t.depth),.d (dI t.many),.d (dB full)]
abbrev hF(g:Nat)(f:Q7):List Blk:=[.arr 1 1 9 (rS f.1.rows),.arr 1 1 3 (rI f.1.refs),.arr 1 1 3 (rI f.1.last),.arr g 5 31 (f.1.gone.map rPtr),.arr 1 5 31 [],.row 0 (rowF g f.1 f.2.1 f.2.2)]
abbrev gF(g:Nat)(w:Pl.Sto):List AV:=[.osl 0 1 0 64,.osl 1 1 0 64,.osl 2 1 0 64,.osl 3 g 0 w.gone.length,.osl 4 1 0 0,.ptr 5 0 0]
section
variable{σ:Sg}{S:Nat->Prop}{f:Q7}{g1 g2:Nat}{wd:World}{v:Value}
theorem Qfc{k g:Nat}{len:Nat}(hk:k≠3)(h:Rel σ S (hF g1 f) wd (.osl k g 0 len) v):Rel σ S (hF g2 f) wd (.osl k g 0 len) v:=by
 cases h with
 |osl _ _ _ _ _ ho g' sz T rows hb hg h=>
  refine .osl _ _ _ _ _ ho g' sz T rows ?_ hg h
  grind
def Qrg{len:Nat}(h:Rel σ S (hF g1 f) wd (.osl 3 g1 0 len) v):Rel σ S (hF g2 f) wd (.osl 3 g2 0 len) v:=by
 cases h with
 |osl _ _ _ _ _ ho g' sz T rows hb hg h=>
  cases hb;exact .osl _ _ _ _ _ ho _ _ _ _ rfl (A5 _) fun _=>h rfl
def Qdz{x:D}(h:Rel σ S (hF g1 f) wd (.d x) v):Rel σ S (hF g2 f) wd (.d x) v:=by
 cases h with
 |d _ _ h=>exact .d _ _ h
def QtA(h:Rel σ S (hF g1 f) wd (.ptr 5 0 0) v):Rel σ S (hF g2 f) wd (.ptr 5 0 0) v:=by
 cases h with
 |ptr _ _ _ _ ho g' cells hb hg h=>cases hb;exact .ptr _ _ _ _ ho _ _ rfl (A5 _) h
def QlK(h:Rel σ S (hF g1 f) wd (.tup []) v):Rel σ S (hF g2 f) wd (.tup []) v:=by
 cases h with
 |tup _ cs hl h=>exact .tup _ cs hl fun i d x hd hx=>by cases hd
def Qt9{j:Nat}{x:AV}(hj:(rowF g2 f.1 f.2.1 f.2.2)[j]? =some x){y:AV}(hj1:(rowF g1 f.1 f.2.1 f.2.2)[j]? =some y)(h:Rel σ S (hF g1 f) wd y v):Rel σ S (hF g2 f) wd x v:=by
 match j,hj,hj1 with
 |0,hj,hj1=>cases hj;cases hj1;exact Qfc (by decide) h
 |1,hj,hj1=>cases hj;cases hj1;exact Qfc (by decide) h
 |2,hj,hj1=>cases hj;cases hj1;exact Qfc (by decide) h
 |3,hj,hj1=>cases hj;cases hj1;exact Qdz h
 |4,hj,hj1=>cases hj;cases hj1;exact Qrg h
 |5,hj,hj1=>cases hj;cases hj1;exact Qdz h
 |6,hj,hj1=>cases hj;cases hj1;exact Qfc (by decide) h
 |7,hj,hj1=>cases hj;cases hj1;exact Qdz h
 |8,hj,hj1=>cases hj;cases hj1;exact Qdz h
 |9,hj,hj1=>cases hj;cases hj1;exact Qdz h
 |10,hj,hj1=>cases hj;cases hj1;exact Qdz h
 |11,hj,hj1=>cases hj;cases hj1;exact Qdz h
 |12,hj,hj1=>cases hj;cases hj1;exact Qdz h
 |13,hj,hj1=>cases hj;cases hj1;exact Qdz h
 |14,hj,hj1=>cases hj;cases hj1;exact Qdz h
 |15,hj,hj1=>cases hj;cases hj1;exact Qdz h
 |j+16,hj,hj1=>cases hj
def smF_tag{B:Bs}(h:Sm B σ S (hF g1 f) wd):Sm B σ S (hF g2 f) wd:=
 {h with
  blk:=fun k C hC=>by
   match k,hC with
   |0,hC=>cases hC;exact h.blk 0 _ rfl
   |1,hC=>cases hC;exact h.blk 1 _ rfl
   |2,hC=>cases hC;exact h.blk 2 _ rfl
   |3,hC=>cases hC;exact h.blk 3 _ rfl
   |4,hC=>cases hC;exact h.blk 4 _ rfl
   |5,hC=>
    cases hC;rcases h.blk 5 _ rfl with⟨b,cs,T,h1,h2,h3⟩|⟨_,h2⟩
    ·refine .inl ⟨b,cs,T,h1,h2,fun j x hj=>?_⟩
     have hl:j<16:=(List.getElem?_eq_some_iff.1 hj).1;obtain⟨u,hu,hr⟩:=h3 j _ (A1 (l:=rowF g1 f.1 f.2.1 f.2.2) hl);exact⟨u,hu,Qt9 hj (A1 (l:=rowF g1 f.1 f.2.1 f.2.2) hl) hr⟩
    ·cases h2
   |k+6,hC=>cases hC}
end
theorem DoesE.tagF{fn:FuncId}{args:List AV}{w:Pl.Sto}{f0 f:Q7}{g:Nat}{X:AV}{C:Nat->Prop}(h:DoesE A2 fn args (hF g f0) (gF g w) (fun x H=> ∃g',C g'/\x=X/\H=hF g' f))
 (hX: ∀{σ:Sg} {S:Nat->Prop} {g1 g2:Nat} {wd:World} {v:Value},Rel σ S (hF g1 f) wd X v->Rel σ S (hF g2 f) wd X v):
 DoesE A2 fn args (hF g f0) (gF g w) (fun x H=>x=X/\H=hF (g+1) f):=by
 intro B σ S w0 cargs gvs h1 h2 h3 h4 h5 h6;refine(h B σ S w0 cargs gvs h1 h2 h3 h4 h5 h6).mono ?_;rintro _ _ ⟨x,H1,⟨g',h0,rfl,rfl⟩,h7,v,σ',S',rfl,h8,h9,h10⟩;refine⟨_,_,⟨rfl,rfl⟩,fun i C0 hC=>?_,v,σ',S',rfl,smF_tag h8,hX h9,fun i d v hd hv=>?_⟩
 ·obtain⟨C',e1,e2⟩:=h7 i C0 hC
  match i,hC,e1 with
  |0,hC,e1=>grind
  |1,hC,e1=>grind
  |2,hC,e1=>grind
  |3,hC,e1=>cases hC;exact⟨_,rfl,rfl,rfl,.inl (Nat.lt_succ_self g)⟩
  |4,hC,e1=>grind
  |5,hC,e1=>cases hC;exact⟨_,rfl,.inr ⟨rfl,0,by simp⟩⟩
  |i+6,hC,e1=>cases hC
 ·have e:=h10 i d v hd hv
  match i,hd with
  |0,hd=>cases hd;exact Qfc (by decide) e
  |1,hd=>cases hd;exact Qfc (by decide) e
  |2,hd=>cases hd;exact Qfc (by decide) e
  |3,hd=>cases hd;cases e with
   |osl _ _ _ _ _ ho g2 sz T rows hb hg h=>exact .osl _ _ _ _ _ ho _ _ _ _ rfl (Nat.le_succ g) fun h=>absurd h (by omega)
  |4,hd=>cases hd;exact Qfc (by decide) e
  |5,hd=>cases hd;exact QtA e
  |i+6,hd=>cases hd
attribute [local irreducible] ASeq ADraw AWP Loc AStep Fg.PlanF Fg.Flts EndR Fk.PlanF Fk.Flts Fk.AStepM Fk.Grew Fk.Gs
def ePutF(g:Nat)(f:Q7)(N:Nat)(hN:N<=800000)(hw:f.1.W N)(ht:Qx f.2.1)(k:Nat)(hk:k<16)(n:Qi)(hn:(Q9 n).length<=Pm.big):
 DoesE A2 182 [.ptr 5 0 0,.d (dI k),.d (dNode n)] (hF g f) (gF g f.1) (fun x H=>x= .tup []/\H=hF (g+1) (Qax f k n)):=by
 refine DoesE.tagF (C:=fun _=>True) ?_ QlK;obtain⟨w,t,full⟩:=f;simp only at hw ht⊢;cases full
 ·have hd:Hid (Qax (w,t,false) k n=((Qp w t k (Q9 n)).1,(Qp w t k (Q9 n)).2.1,!(Qp w t k (Q9 n)).2.2)):=Pm.hid rfl
  generalize Qax (w,t,false) k n=res at*;have cP:=ePut11 g w N hN hw t ht k hk n hn;have hWc:=(Qfo hw ht hk (Q9 n)).1;have hsg:=Qex (w:=w) (t:=t) (k:=k) (text:=Q9 n);generalize Qp w t k (Q9 n)=y at*;obtain⟨w2,t2,ok2⟩:=y;simp only at cP hWc hsg hd;have v0:w2.rows.length=w.rows.length:=by rw[hWc.rows,hw.rows]
  have v1:w2.refs.length=w.refs.length:=by rw[hWc.refs,hw.refs]
  have v2:w2.last.length=w.last.length:=by rw[hWc.last,hw.last]
  have v3:ok2=false->w2.gone.length=w.gone.length:=fun e=>by rw[(hsg e).1]
  clear hsg hWc hn;cases ok2<;>simp only[Bool.false_eq_true,if_false,if_true,forall_const] at cP v3
  ·refine kH fun gvs=>?_
   refine Qa 6 (h:=?_)
   repeat' first|refine kS ?_|(show AWP _ (.region 2 _ _) _ _;refine(Fk.awp_drawG (id:=2) [11,13,14,15,16] [10,17,18] [(15,.row 0 zSt),(16,.row 0 zTr)] [] 10 24 (.tup [oS g w2,.d (dTree t2),.d (dB false)]) ?_))|refine(Fk.aw_fltA 7 ?_)|refine(Fk.aw_fltA 8 ?_)|refine Fk.aw_callM [0,1,2,3,4] cP cK (k:=kY ?_)|refine kU ?_|fail
   all_goals first|refine endR0 6 (hx:=?_);rw[hd.out];exact⟨_,trivial,rfl,rfl⟩
  ·refine kH fun gvs=>?_
   refine Qa 6 (h:=?_)
   repeat' first|refine kS ?_|(show AWP _ (.region 2 _ _) _ _;refine(Fk.awp_drawG (id:=2) [11,13,14,15,16] [10,17,18] [(15,.row 0 zSt),(16,.row 0 zTr)] [] 10 24 (.tup [oS (g+1) w2,.d (dTree t2),.d (dB true)]) ?_))|refine(Fk.aw_fltA 7 ?_)|refine(Fk.aw_fltA 8 ?_)|refine Fk.aw_callM [0,1,2,3,4] cP cK (k:=kY ?_)|refine kU ?_|fail
   all_goals first|refine endR0 6 (hx:=?_);rw[hd.out];exact⟨_,trivial,rfl,rfl⟩
 ·refine kH fun gvs=>?_
  refine Qa 6 (h:=?_)
  repeat refine kA ?_
  all_goals first|refine QoY 6 (hx:=?_);exact⟨g,trivial,rfl,rfl⟩
theorem Qeg(n:Qi):(Q9 n).length<=Pm.big:=by
 have:(Q9 n).length<=2048:=by
  unfold Q9;split
  ·unfold Pl.fp Pl.Qdi
   grind
  ·simp
 unfold Pm.big;omega
section
variable{P:Program}{dst:Option Tmp}{ty:TypeId}{pos:String}{after:Array Edge}{gd:Option (Nat×Bool)}{env:List (Nat×AV)}{H:List Blk}{f:FuncId}{xs:Array Operand}{tys:Array TypeId}{ds:List D}{x:D}{fs:Q7}{N g:Nat}{T0 T1 T2 T3 T4:TypeId}{u:Operand}{us:List Operand}
def Qdd(hf: ∀args w,(callFunc f args).run P w= .ok (.enter f args) w)(h:Pure P f (.pd (rFs fs.1 fs.2.1 fs.2.2)::ds) x)(hw:fs.1.W N)(hx:x.flat=true:=by rfl)(hxs:xs.toList=u::us:=by rfl)
 (hu:aval env u= .ptr 5 0 0:=by rfl)
 (h0:H[0]? =some (.arr 1 1 T0 (rS fs.1.rows)):=by rfl) (h1:H[1]? =some (.arr 1 1 T1 (rI fs.1.refs)):=by rfl) (h2:H[2]? =some (.arr 1 1 T2 (rI fs.1.last)):=by rfl) (h3:H[3]? =some (.arr g 5 T3 (fs.1.gone.map rPtr)):=by rfl) (h4:H[4]? =some (.arr 1 5 T4 []):=by rfl)
 (h5:H[5]? =some (.row 0 (rowF g fs.1 fs.2.1 fs.2.2)):=by rfl)
 (hd:allD (us.map (aval env))=some ds:=by rfl) (hwk:D.weakL ds=ds:=by rfl):Loc P ⟨dst,.call ⟨.value (.func f),xs,tys⟩,ty,pos,after,gd⟩ env H (.d x) none:=by
 refine QeB hf (Pure.arg (l:=xs.toList.map fun u=>(aval env u).ice H 4) h ?_) hx rfl;rw[hxs,A4,Qo6 hd,hu];show(AV.ice H 4 _).weak::D.weakL ds=_;rw[hwk]
 congr 1
 simp only[AV.ice,h5,if_true,List.drop_zero,A4,List.map_nil,h0,h1,h2,h3,h4];rw[A0 (show(rS fs.1.rows).length<=64 by simp[hw.rows]),A0 (show(rI fs.1.refs).length<=64 by simp[hw.refs]),A0 (show(rI fs.1.last).length<=64 by simp[hw.last]),A0 (show(fs.1.gone.map rPtr).length<=fs.1.gone.length by simp)];rfl
end
def blob_le(s:Pm.Store)(hg:QM s){t:Pl.Tree}(ht:Qx t):(QaT (Qc s t)).1.length<=16*128:=by
 have hl:=texts_len s ht;have hm:=ht.manyHi;have hle:=texts_le s hg t;unfold QaT;split
 ·simp only
  have: ∀l:List (List UInt8),(∀x∈l,x.length<=128)->l.flatten.length<=l.length*128:=by
   intro l;induction l with
   |nil=>intro _;simp
   |cons a l ih=>intro h;have:=ih fun x hx=>h x (List.mem_cons_of_mem _ hx);have:=h a List.mem_cons_self;rw[List.flatten_cons,List.length_append,List.length_cons];omega
  have:=this _ hle;omega
 ·simp
def eEnts15(g:Nat)(w:Pl.Sto)(N:Nat)(hw:w.W N)(n:Qi):
 DoesE A2 25 [oS g w,.d (dNode n)] (hS g w) (gS g w) (fun x H=>x= .tup [.d (tEnts (Qf w.st n).1),.d (dB (Qf w.st n).2)]/\H=hS g w):=by
 have hd:=Pm.hid (Qf.eq_def w.st n);have c1:=aNodeOk n;have c2:=al8Ok w.st hw.good n.tree;generalize Qf w.st n=res at*;cases h1:Q8 w.st n.tree
 ·rw[h1] at c2 hd
  replace hd:Hid (res=([],false)):=Pm.hid (by rw[hd.out];simp)
  generalize QL n=ok at*;refine kH fun gvs=>?_
  refine Qa 6 (h:=?_)
  repeat' first|refine kS ?_|refine qS (Qdh cK c2 hw) ?_|refine kU ?_|refine kV ?_ ?_<;>intro q|fail
  all_goals first|refine Qa 7 (h:=?_);refine Qd3 5 (hx:=?_);rw[hd.out];exact⟨rfl,rfl⟩
 have ht:=Qdu h1;have c3:=al9Get w.st hw.good n.tree ht;have c4:=QjJ (QaT (Qc w.st n.tree)).1 (by have:=blob_le w.st hw.good ht;omega);rw[h1] at c2 hd;generalize QL n=ok at*;generalize QaT (Qc w.st n.tree)=bb at*;obtain⟨tx,fine⟩:=bb;simp only at c4 hd;generalize QbZ tx=r at*;obtain⟨es,good⟩:=r;clear h1 ht;refine kH fun gvs=>?_
 refine Qa 6 (h:=?_)
 repeat' first|refine kS ?_|refine qS (Qdh cK c2 hw) ?_|refine qS (Qdh cK c3 hw) ?_|refine kU ?_|refine kV ?_ ?_<;>intro q|fail
 all_goals first
  |(have e:res=([],false):=by
     rw[hd.out];clear c1 c2 c3 c4 hd;simp only[Bool.not_eq_true',A3,bne_iff_ne,bne_eq_false_iff_eq] at*;simp[*]
     done
    refine Qa 7 (h:=?_);refine Qd3 5 (hx:=?_);rw[e];exact⟨rfl,rfl⟩)
  |(have e:res=(es,good):=by
     rw[hd.out];clear c1 c2 c3 c4 hd;simp only[A3,bne_iff_ne,bne_eq_false_iff_eq] at*;simp[*]
     done
    refine Qd3 5 (hx:=?_);rw[e];exact⟨rfl,rfl⟩)
def Qf4(g:Nat)(f:Q7)(N:Nat)(hw:f.1.W N)(ht:Qx f.2.1)(k:Nat):
 DoesE A2 181 [.ptr 5 0 0,.d (dI k)] (hF g f) (gF g f.1) (fun x H=>x= .d (tEnts (Qf f.1.st (Qk f k)).1)/\H=hF g f):=by
 obtain⟨w,t,full⟩:=f;simp only at hw ht⊢;have c1:=aNode w N hw t ht full k;have c2:=eEnts15 g w N hw (Qk (w,t,full) k);rw[show(Q4 w.st t k).1=Qk (w,t,full) k from rfl] at c1;generalize Qk (w,t,full) k=n at*;generalize Qf w.st n=r at*;refine kH fun gvs=>?_
 repeat' first|refine kS ?_|(show AWP _ (.region 1 _ _) _ _;refine(Fg.awp_drawF (id:=1) [] [7] ?_))|refine qD (Qdd (fs:=(w,t,full)) cK c1 hw) ?_|refine Qfb [0,1,2,3,4] c2 cK (k:=kZ ?_)|refine kU ?_|fail
 all_goals first|refine Q3 6 (hx:=?_);exact⟨rfl,rfl⟩

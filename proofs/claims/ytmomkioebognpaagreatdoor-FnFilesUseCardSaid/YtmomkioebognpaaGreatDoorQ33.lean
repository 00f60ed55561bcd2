/- Of fuse_card; no condition. -/
import Derived.Test.YtmomkioebognpaaGreatDoorQ29
set_option linter.all false
set_option maxRecDepth 100000
set_option maxHeartbeats 16000000
open Bool renaming not_eq_false'->AD,and_eq_true->AF
open Classical renaming not_not->A7
open Go.Proofs.Tryz renaming prog->A3
open Int renaming toNat_natCast->A0
open List renaming take_of_length_le->A1,flatMap_cons->A2,length_pos_iff->A4,length_append->A5,mem_singleton->A6,getElem?_eq_getElem->A8,length_cons->A9,mem_append_right->AA,mem_cons_of_mem->AB,mem_cons_self->AC,nil_append->AG,map_cons->AH
open Option renaming bind_some->AE
namespace Go.Proofs.YtmomkioebognpaaGreatDoor
noncomputable section
open Go.RowKit
namespace Aw
variable{k a:Nat}{t:Pl.Tree}{w:Pl.Sto}{X:List Pl.Ptr}
theorem Qdg(n:Pl.Node):(Pl.Qaf n).length<=Pm.big:=by
 have:(Pl.Qaf n).length<=2048:=by
  unfold Pl.Qaf;split
  ·unfold Pl.fp Pl.Qce
   grind
  ·simp
 unfold Pm.big;omega
section
variable{P:Program}{dst:Option Tmp}{ty:TypeId}{pos:String}{after:Array Edge}{gd:Option (Nat×Bool)}{env:List (Nat×AV)}{H:List Blk}{f:FuncId}{xs:Array Operand}{tys:Array TypeId}{ds:List D}{x:D}{fs:Pl.F}{N g:Nat}{T0 T1 T2 T3 T4:TypeId}{u:Operand}{us:List Operand}
def QbY(hf: ∀args w,(callFunc f args).run P w= .ok (.enter f args) w)(h:Pure P f (.pd (rFs fs.1 fs.2.1 fs.2.2)::ds) x)(hw:fs.1.W N)(hx:x.flat=true:=by rfl)(hxs:xs.toList=u::us:=by rfl)
 (hu:aval env u= .ptr 5 0 0:=by rfl)
 (h0:H[0]? =some (.arr 1 1 T0 (rS fs.1.rows)):=by rfl) (h1:H[1]? =some (.arr 1 1 T1 (rI fs.1.refs)):=by rfl) (h2:H[2]? =some (.arr 1 1 T2 (rI fs.1.last)):=by rfl) (h3:H[3]? =some (.arr g 5 T3 (fs.1.gone.map rPtr)):=by rfl) (h4:H[4]? =some (.arr 1 5 T4 []):=by rfl)
 (h5:H[5]? =some (.row 0 (rowF g fs.1 fs.2.1 fs.2.2)):=by rfl)
 (hd:allD (us.map (aval env))=some ds:=by rfl) (hwk:D.weakL ds=ds:=by rfl):Loc P ⟨dst,.call ⟨.value (.func f),xs,tys⟩,ty,pos,after,gd⟩ env H (.d x) none:=by
 refine Qfh hf (Pure.arg (l:=xs.toList.map fun u=>(aval env u).ice H 4) h ?_) hx rfl;rw[hxs,AH,Qn1 hd,hu];show(AV.ice H 4 _).weak::D.weakL ds=_;rw[hwk]
 congr 1
 simp only[AV.ice,h5,if_true,List.drop_zero,AH,List.map_nil,h0,h1,h2,h3,h4];rw[A1 (show(rS fs.1.rows).length<=64 by simp[hw.rows]),A1 (show(rI fs.1.refs).length<=64 by simp[hw.refs]),A1 (show(rI fs.1.last).length<=64 by simp[hw.last]),A1 (show(fs.1.gone.map rPtr).length<=fs.1.gone.length by simp)];rfl
end
def Qgo{f:Pl.F}{N:Nat}(h:f.1.W N)(ht:Pl.TGood f.2.1)(hk:k<16)(n:Pl.Node):(Pl.fput f k n).1.W (N+15)/\Pl.TGood (Pl.fput f k n).2.1:=by
 unfold Pl.fput;split
 ·exact⟨h.le (by omega),ht⟩
 ·exact Qem h ht hk _
def QtR{N:Nat}(h:w.W N)(ht:Pl.TGood t)(text:List UInt8):(Pl.bput w t text).1.W (N+269)/\Pl.TGood (Pl.bput w t text).2.1:=by
 unfold Pl.bput;split
 ·exact⟨h.le (by omega),ht⟩
 ·rename_i h1
  have h2:=QlT (Pl.cuts text) 0 h ht (by omega);split
  ·have h3:=cut_W h2.1 h2.2 (many:=(Pl.cuts text).length) (by omega)
   exact⟨h3.1.le (by omega),h3.2⟩
  ·exact⟨h2.1.le (by omega),h2.2⟩
def QcK{f:Pl.F}{N:Nat}(h:f.1.W N)(ht:Pl.TGood f.2.1)(hk:k<16)(hn:f.2.2=false->Pl.TGood (Pl.Qag f k).tree)(l:List Pl.Ent):(Pl.Qau f k l).1.W (N+284)/\Pl.TGood (Pl.Qau f k l).2.1:=by
 unfold Pl.Qau;split
 ·exact⟨h.le (by omega),ht⟩
 ·rename_i h1
  have h2:=QtR h (hn (by simpa using h1)) (Pl.Qah l);have h3:=Qgo (f:=((Pl.bput f.1 (Pl.Qag f k).tree (Pl.Qah l)).1,f.2.1,!(Pl.bput f.1 (Pl.Qag f k).tree (Pl.Qah l)).2.2)) h2.1 ht hk {Pl.Qag f k with tree:=(Pl.bput f.1 (Pl.Qag f k).tree (Pl.Qah l)).2.1,size:=(Pl.Qah l).length};exact⟨h3.1.le (by omega),h3.2⟩
def eBputX(g:Nat)(w:Pl.Sto)(N:Nat)(hN:N<=700000)(hw:w.W N)(t:Pl.Tree)(ht:Pl.TGood t)(text:List UInt8)(htx:text.length<=1000000000000):
 DoesE A3 193 [oS g w,.d (dTree t),.d (dS text)] (hS g w) (gS g w) (fun x H=>x= .tup [oS (g+1) (Pl.bput w t text).1,.d (dTree (Pl.bput w t text).2.1),.d (dB (Pl.bput w t text).2.2)]/\H=hS (g+1) (Pl.bput w t text).1):=
 DoesE.tag (C:=fun _=>True) (X:=fun g'=> .tup [oS g' (Pl.bput w t text).1,.d (dTree (Pl.bput w t text).2.1),.d (dB (Pl.bput w t text).2.2)]) (fun B σ S w0 cargs gvs h1 h2 h3 h4 h5 h6=>(eBput g w N hN hw t ht text htx B σ S w0 cargs gvs h1 h2 h3 h4 h5 h6).mono fun _ _ ⟨x,H,⟨g',e1,e2⟩,h⟩=>⟨x,H,⟨g',trivial,e1,e2⟩,h⟩) Qf4
attribute [local irreducible] ASeq ADraw AWP Loc AStep Fg.PlanF Fg.Flts EndR Fk.PlanF Fk.Flts Fk.AStepM Fk.Grew Fk.Gs
def eWriteF(g:Nat)(f:Pl.F)(N:Nat)(hN:N<=600000)(hw:f.1.W N)(ht:Pl.TGood f.2.1)(k:Nat)(hk:k<16)(hnt:f.2.2=false->Pl.TGood (Pl.Qag f k).tree)(l:List Pl.Ent)(hb: ∀e∈l,e.1.length<=4/\0<=e.2/\e.2<=15)(hl:l.length<=1000)(htx:(Pl.Qah l).length<=1000000000000):
 DoesE A3 148 [.ptr 5 0 0,.d (dI k),.d (tEnts l)] (hF g f) (gF g f.1) (fun x H=>x= .tup []/\H=hF (g+1) (Pl.Qau f k l)):=by
 refine DoesE.tagF (C:=fun _=>True) ?_ QkI;have hWr:=(QcK hw ht hk hnt l).1;obtain⟨w,t,full⟩:=f;simp only at hw ht hnt⊢;cases full
 ·replace hnt:=hnt rfl
  have c1:=aNode w N hw t ht false k;have c2:=Qt1 l hb hl;have cB:=eBputX g w N (by omega) hw (Pl.Qag (w,t,false) k).tree hnt (Pl.Qah l) htx;have hWb:=(QtR hw hnt (Pl.Qah l)).1
  have hd:Hid (Pl.Qau (w,t,false) k l=Pl.fput ((Pl.bput w (Pl.Qag (w,t,false) k).tree (Pl.Qah l)).1,t,!(Pl.bput w (Pl.Qag (w,t,false) k).tree (Pl.Qah l)).2.2) k
   {Pl.Qag (w,t,false) k with tree:=(Pl.bput w (Pl.Qag (w,t,false) k).tree (Pl.Qah l)).2.1,size:=(Pl.Qah l).length}):=Pm.hid rfl
  rw[show(Pl.Qal w.st t k).1=Pl.Qag (w,t,false) k from rfl] at c1;generalize Pl.Qau (w,t,false) k l=res at*;generalize Pl.Qag (w,t,false) k=n at*;generalize Pl.Qah l=text at*;generalize Pl.bput w n.tree text=y at*;obtain⟨w2,t2,ok2⟩:=y;simp only at cB hWb hd;have cP:=ePutF (g+1) (w2,t,!ok2) (N+269) (by omega) hWb ht k hk {n with tree:=t2,size:=text.length} (Qdg _);rw[<-hd.out] at cP;have v0:res.1.rows.length=w.rows.length:=by rw[hWr.rows,hw.rows]
  have v1:res.1.refs.length=w.refs.length:=by rw[hWr.refs,hw.refs]
  have v2:res.1.last.length=w.last.length:=by rw[hWr.last,hw.last]
  clear hWr hWb hd;refine kJ fun gvs=>?_
  repeat' first|refine kS ?_|refine qS (QbY (fs:=(w,t,false)) cK c1 hw) ?_|(show AWP _ (.region 3 _ _) _ _;refine(Fk.awp_drawG (id:=3) [8,10,11,12,13] [7,14,15] [(12,.row 0 zSt),(13,.row 0 zTr)] [] 7 28 (.tup [oS (g+1) w2,.d (dTree t2),.d (dB ok2)]) ?_))|refine(Fk.aw_fltA 7 ?_)|refine(Fk.aw_fltA 8 ?_)|refine Fk.aw_callM [0,1,2,3,4] cB cK (k:=kY ?_)|refine Qcn [0,1,2,3,4,5] cP cK (k:=kX ?_)|refine kU ?_|fail
  all_goals first|refine endR0 6 (hx:=?_);exact⟨_,trivial,rfl,rfl⟩
 ·refine kJ fun gvs=>?_
  repeat refine kA ?_
  all_goals first|refine QnW 6 (hx:=?_);exact⟨g,trivial,rfl,rfl⟩
def blob_le(s:Pm.Store)(hg:Pl.Good s)(ht:Pl.TGood t):(Pl.blob (Pl.Qaa s t)).1.length<=16*128:=by
 have hl:=texts_len s ht;have hm:=ht.manyHi;have hle:=texts_le s hg t;unfold Pl.blob;split
 ·simp only
  have: ∀l:List (List UInt8),(∀x∈l,x.length<=128)->l.flatten.length<=l.length*128:=by
   intro l;induction l with
   |nil=>intro _;simp
   |cons a l ih=>intro h;have:=ih fun x hx=>h x (AB _ hx);have:=h a AC;rw[List.flatten_cons,A5,A9];omega
  have:=this _ hle;omega
 ·simp
def eEnts15(g:Nat)(w:Pl.Sto)(N:Nat)(hw:w.W N)(n:Pl.Node):
 DoesE A3 70 [oS g w,.d (dNode n)] (hS g w) (gS g w) (fun x H=>x= .tup [.d (tEnts (Pl.ents w.st n).1),.d (dB (Pl.ents w.st n).2)]/\H=hS g w):=by
 have hd:=Pm.hid (Pl.ents.eq_def w.st n);have c1:=aNodeOk n;have c2:=al8Ok w.st hw.good n.tree;generalize Pl.ents w.st n=res at*;cases h1:Pl.Qai w.st n.tree
 ·rw[h1] at c2 hd
  replace hd:Hid (res=([],false)):=Pm.hid (by rw[hd.out];simp)
  generalize Pl.Qar n=ok at*;refine kH fun gvs=>?_
  refine QbP 6 (h:=?_)
  repeat' first|refine kS ?_|refine qS (Qcd cK c2 hw) ?_|refine kU ?_|refine kV ?_ ?_<;>intro q|fail
  all_goals first|refine QbP 7 (h:=?_);refine Qc2 5 (hx:=?_);rw[hd.out];exact⟨rfl,rfl⟩
 have ht:=Qcf h1;have c3:=al9Get w.st hw.good n.tree ht;have c4:=QiH (Pl.blob (Pl.Qaa w.st n.tree)).1 (by have:=blob_le w.st hw.good ht;omega);rw[h1] at c2 hd;generalize Pl.Qar n=ok at*;generalize Pl.blob (Pl.Qaa w.st n.tree)=bb at*;obtain⟨tx,fine⟩:=bb;simp only at c4 hd;generalize Pl.eg tx=r at*;obtain⟨es,good⟩:=r;clear h1 ht;refine kH fun gvs=>?_
 refine QbP 6 (h:=?_)
 repeat' first|refine kS ?_|refine qS (Qcd cK c2 hw) ?_|refine qS (Qcd cK c3 hw) ?_|refine kU ?_|refine kV ?_ ?_<;>intro q|fail
 all_goals first
  |(have e:res=([],false):=by
     rw[hd.out];clear c1 c2 c3 c4 hd;simp only[Bool.not_eq_true',AD,bne_iff_ne,bne_eq_false_iff_eq] at*;simp[*]
     done
    refine QbP 7 (h:=?_);refine Qc2 5 (hx:=?_);rw[e];exact⟨rfl,rfl⟩)
  |(have e:res=(es,good):=by
     rw[hd.out];clear c1 c2 c3 c4 hd;simp only[AD,bne_iff_ne,bne_eq_false_iff_eq] at*;simp[*]
     done
    refine Qc2 5 (hx:=?_);rw[e];exact⟨rfl,rfl⟩)
def Qe3(g:Nat)(f:Pl.F)(N:Nat)(hw:f.1.W N)(ht:Pl.TGood f.2.1)(k:Nat):
 DoesE A3 146 [.ptr 5 0 0,.d (dI k)] (hF g f) (gF g f.1) (fun x H=>x= .d (tEnts (Pl.ents f.1.st (Pl.Qag f k)).1)/\H=hF g f):=by
 obtain⟨w,t,full⟩:=f;simp only at hw ht⊢;have c1:=aNode w N hw t ht full k;have c2:=eEnts15 g w N hw (Pl.Qag (w,t,full) k);rw[show(Pl.Qal w.st t k).1=Pl.Qag (w,t,full) k from rfl] at c1;generalize Pl.Qag (w,t,full) k=n at*;generalize Pl.ents w.st n=r at*;refine kH fun gvs=>?_
 repeat' first|refine kS ?_|(show AWP _ (.region 1 _ _) _ _;refine(Fg.awp_drawF (id:=1) [] [7] ?_))|refine qD (QbY (fs:=(w,t,full)) cK c1 hw) ?_|refine QdZ [0,1,2,3,4] c2 cK (k:=kZ ?_)|refine kU ?_|fail
 all_goals first|refine QbU 6 (hx:=?_);exact⟨rfl,rfl⟩
theorem Qck(s:Pm.Store)(t:Pl.Tree)(k:Nat):Pl.TGood (Pl.Qal s t k).1.tree/\(0<=(Pl.Qal s t k).1.size/\(Pl.Qal s t k).1.size<=2048):=by
 have h0:Pl.TGood Pl.zn.tree/\0<=Pl.zn.size/\Pl.zn.size<=2048:=⟨tgood0,by decide,by decide⟩;unfold Pl.Qal;split
 ·rcases QhM ((Pl.Qaa s t).getD k []) with h|h
  ·exact⟨⟨h.depth.1,h.depth.2,h.ptr,h.many.1,h.many.2⟩,h.size⟩
  grind
 ·exact h0
def Pl.EB(l:List Pl.Ent):Prop:=(∀e∈l,e.1.length<=4/\0<=e.2/\e.2<=15)/\l.length<=13
def Qit(s:Pm.Store)(n:Pl.Node):Pl.EB (Pl.ents s n).1:=⟨fun e he=>by
 obtain⟨h1,h2,h3⟩:=Qhm s n e he
 exact⟨Qdz h1,by omega,h3⟩,by have:=QdI s n;omega⟩
def Qiv: ∀l:List Pl.Ent,(∀e∈l,e.1.length<=4/\0<=e.2/\e.2<=15)->(Pl.Qah l).length<=8*l.length
 |[],_=>by simp[Pl.Qah]
 |e::l,h=>by
  have h1:=Qiv l fun x hx=>h x (AB _ hx)
  obtain⟨h2,h3,h4⟩:=h e AC;have h5:=Pl.QbT 1 e.2.toNat (by omega);unfold Pl.Qah at h1⊢;rw[A2,A5,A9];simp only[Pl.QaD,A5,A9,List.length_nil] at h1⊢;omega
def Qh5{l:List Pl.Ent}{e:Pl.Ent}(h:Pl.EB l)(hl:l.length<=12)(h1:e.1.length<=4)(h2:0<=e.2)(h3:e.2<=15):Pl.EB (Pl.QaQ l e):=
 ⟨fun x hx=>(QlL hx).elim (fun h4=>h4▸⟨h1,h2,h3⟩) (h.1 x),by rw[QlM];omega⟩
theorem Qle{l:List Pl.Ent}(h:Pl.EB l)(i:Nat):Pl.EB (l.take i++l.drop (i+1)):=
 ⟨fun x hx=>h.1 x ((List.mem_append.1 hx).elim (fun h1=>List.mem_of_mem_take h1) (fun h1=>List.mem_of_mem_drop h1)),by have:=h.2;grind⟩
def EB.text{l:List Pl.Ent}(h:Pl.EB l):(Pl.Qah l).length<=104:=by have:=Qiv l h.1;have:=h.2;omega
theorem Qm9(s:Pm.Store)(ns:List Pl.Node): ∀(q:List (List UInt8)) (i:Int),0<=i->i<=15-> ∀j,Pl.Qb2 (Pl.ents s) ns i q=some j->0<=j/\j<=15
 |[],i,h0,h1,j,h=>by rw[Qe0] at h;grind
 |n::q,i,h0,h1,j,h=>by
  rw[Qdo] at h;split at h
  ·cases h
  ·rename_i e he
   have:=Qhm s (ns.getD i.toNat Pl.zn) e (List.mem_of_find?_eq_some he);exact Qm9 s ns q e.2 (by omega) this.2.2 j h
theorem QcU(s:Pm.Store)(t:Pl.Tree)(q:List (List UInt8)):Pl.Qa2 s t q<0∨ ∃a:Nat,a<16/\Pl.Qa2 s t q=a:=by
 unfold Pl.Qa2 Pl.QaM;cases h:Pl.Qb2 (Pl.ents s) (Pl.Qab s t) 0 q with
 |none=>grind
 |some j=>
  have:=Qm9 s (Pl.Qab s t) q 0 (by omega) (by omega) j h;exact .inr ⟨j.toNat,by omega,by grind⟩
theorem QeN(w:Pl.Sto)(t:Pl.Tree)(path:List UInt8):(∃a:Nat,a<16/\(Pl.Qaq w t path).1=a)/\0<=(Pl.Qaq w t path).2/\((Pl.Qaq w t path).2=0->Pl.Qac path≠[]):=by
 unfold Pl.Qaq;split
 ·exact⟨⟨0,by omega,rfl⟩,by omega,fun h=>absurd h (by decide)⟩
 ·rename_i h0
  split
  ·grind
  ·rename_i h1
   split
   ·refine⟨?_,Int.le_refl _,fun _=>h0⟩
    rcases QcU w.st t ((Pl.Qac path).take ((Pl.Qac path).length -1)) with h2|h2
    ·omega
    ·exact h2
   grind
theorem QfC(w:Pl.Sto)(t:Pl.Tree)(path:List UInt8):(∃a:Nat,a<16/\(Pl.QaC w t path).1=a)/\0<=(Pl.QaC w t path).2/\((Pl.QaC w t path).2=0->Pl.Qac path≠[]):=by
 have h:=QeN w t path;unfold Pl.QaC;split
 ·rename_i h0
  exact⟨⟨0,by omega,rfl⟩,h.2.1,fun h1=>absurd h1 (by omega)⟩
 ·rename_i h0
  split
  ·exact⟨⟨0,by omega,rfl⟩,by omega,fun h1=>absurd h1 (by decide)⟩
  grind
abbrev Pl.base(path:List UInt8):List UInt8:=(Pl.Qac path).getD ((Pl.Qac path).length -1) []
def Pl.Qb1(f:Pl.F)(path:List UInt8)(kind:Int):Pl.F×Int:=
 if 0<(Pl.QaC f.1 f.2.1 path).2 then(f,(Pl.QaC f.1 f.2.1 path).2) else
 match Pl.Qbz (Pl.Qaa f.1.st f.2.1) with
 |none=>(f,6)
 |some id=>if 12<=(Pl.ents f.1.st (Pl.Qag f (Pl.QaC f.1 f.2.1 path).1.toNat)).1.length then(f,6) else
  (Pl.Qau (Pl.fput f id ⟨kind,1,0,⟨Pl.hole,0,0⟩⟩) (Pl.QaC f.1 f.2.1 path).1.toNat (Pl.QaQ (Pl.ents f.1.st (Pl.Qag f (Pl.QaC f.1 f.2.1 path).1.toNat)).1 (Pl.base path,id)),0)
theorem eMakeF(g:Nat)(f:Pl.F)(N:Nat)(hN:N<=500000)(hw:f.1.W N)(ht:Pl.TGood f.2.1)(path:List UInt8)(hp:path.length<=900)(hb:(Pl.base path).length<=4)(kind:Int):
 DoesE A3 87 [.ptr 5 0 0,.d (dS path),.d (dI kind)] (hF g f) (gF g f.1) (fun x H=>x= .d (dI (Pl.Qb1 f path kind).2)/\H=hF (g+1) (Pl.Qb1 f path kind).1):=by
 refine DoesE.tagF (C:=fun _=>True) ?_ Qc0;have c1:=aFresh f.1 N hw f.2.1 ht f.2.2 path hp;obtain⟨⟨a,ha,hae⟩,h2,h3⟩:=QfC f.1 f.2.1 path;have c2:=Qt3 f.1.st hw.good f.2.1 ht;have hd:=Pm.hid (Pl.Qb1.eq_def f path kind);rw[hae,A0] at hd;have c3:=Qe3 g f N hw ht a;have hes:=Qit f.1.st (Pl.Qag f a);have hel:=QdI f.1.st (Pl.Qag f a);have hidl:=fun id=>Qim (l:=Pl.Qaa f.1.st f.2.1) (k:=id)
 generalize Pl.Qb1 f path kind=res at*;generalize Pl.QaC f.1 f.2.1 path=p at*;obtain⟨p1,p2⟩:=p;simp only at hae h2 h3 hd c1;subst hae
 by_cases h0:0<p2
 ·rw[if_pos h0] at hd
  clear c2 c3;have hq:decide (p2>0)=true:=decide_eq_true h0;refine kH fun gvs=>?_
  repeat' first|refine kS ?_|refine qS (QbY (fs:=f) cK c1 hw) ?_|refine kU ?_|refine kV ?_ ?_<;>intro q|fail
  all_goals first|exact absurd (hq.symm.trans ‹decide (p2>0)=false›) (by decide)|refine QbU 6 (hx:=?_);rw[hd.out];exact⟨g,trivial,rfl,rfl⟩
 rw[if_neg h0] at hd;have hq:decide (p2>0)=false:=decide_eq_false h0;have hne:=h3 (by omega);have c6:=Qg4 path (by omega) hne;generalize (Pl.ents f.1.st (Pl.Qag f a)).1=l at*;cases hfr:Pl.Qbz (Pl.Qaa f.1.st f.2.1) with
 |none=>
  rw[hfr] at c2 hd;simp only at hd;refine kH fun gvs=>?_
  repeat' first|refine kS ?_|refine qS (QbY (fs:=f) cK c1 hw) ?_|refine qD (Qcd cK c2 hw) ?_|refine Qcn [0,1,2,3,4,5] c3 cK (k:=kX ?_)|refine kU ?_|refine kV ?_ ?_<;>intro q|fail
  all_goals first|exact absurd (hq.symm.trans ‹decide (p2>0)=true›) (by decide)|refine QbU 6 (hx:=?_);rw[hd.out];exact⟨g,trivial,rfl,rfl⟩
 |some id=>
  rw[hfr] at c2 hd;simp only at hd;have hid:=(hidl id hfr).1
  replace c2:Pure A3 145 [dSt f.1.st,dTree f.2.1] (dI id):=c2
  by_cases h12:12<=l.length
  ·rw[if_pos h12] at hd
   refine kH fun gvs=>?_
   repeat' first|refine kS ?_|refine qS (QbY (fs:=f) cK c1 hw) ?_|refine qD (Qcd cK c2 hw) ?_|refine Qcn [0,1,2,3,4,5] c3 cK (k:=kX ?_)|refine kU ?_|refine kV ?_ ?_<;>intro q|fail
   all_goals first|exact absurd (hq.symm.trans ‹decide (p2>0)=true›) (by decide)|exfalso;simp only[decide_eq_true_eq,decide_eq_false_iff_not] at*;omega|refine QbU 6 (hx:=?_);rw[hd.out];exact⟨g,trivial,rfl,rfl⟩
  rw[if_neg h12] at hd;have c4:=ePutF g f N (by omega) hw ht id hid ⟨kind,1,0,⟨Pl.hole,0,0⟩⟩ (Qdg _);have hWp:=Qgo hw ht hid ⟨kind,1,0,⟨Pl.hole,0,0⟩⟩;have c5:=al12Add l (Pl.base path,(id:Int)) (by omega);have hae:=Qh5 (e:=(Pl.base path,(id:Int))) hes hel hb (by simp) (by simp;omega);generalize Pl.fput f id ⟨kind,1,0,⟨Pl.hole,0,0⟩⟩=f2 at*;generalize Pl.QaQ l (Pl.base path,(id:Int))=l2 at*;have c7:=eWriteF (g+1) f2 (N+15) (by omega) hWp.1 hWp.2 a ha (fun _=>(Qck _ _ _).1) l2 hae.1 (by have:=hae.2;omega) (by have:=EB.text hae;omega);have hWr:=(QcK hWp.1 hWp.2 ha (fun _=>(Qck _ _ _).1) l2).1;generalize Pl.Qau f2 a l2=f3 at*;have v0:f3.1.rows.length=f.1.rows.length:=by rw[hWr.rows,hw.rows]
  have v1:f3.1.refs.length=f.1.refs.length:=by rw[hWr.refs,hw.refs]
  have v2:f3.1.last.length=f.1.last.length:=by rw[hWr.last,hw.last]
  clear hWp hWr;refine kH fun gvs=>?_
  repeat' first|refine kS ?_|refine qS (QbY (fs:=f) cK c1 hw) ?_|refine qD (Qcd cK c2 hw) ?_|refine Qcn [0,1,2,3,4,5] c3 cK (k:=kX ?_)|refine Qcn [0,1,2,3,4,5] c4 cK (k:=kX ?_)|refine Qcn [0,1,2,3,4,5] c7 cK (k:=kX ?_)|refine kU ?_|refine kV ?_ ?_<;>intro q|fail
  all_goals first|exact absurd (hq.symm.trans ‹decide (p2>0)=true›) (by decide)|exfalso;simp only[decide_eq_true_eq,decide_eq_false_iff_not] at*;omega|refine QbU 6 (hx:=?_);rw[hd.out];exact⟨_,trivial,rfl,rfl⟩
def QiX(s:Pm.Store)(t:Pl.Tree)(k:Nat):0<=(Pl.Qal s t k).1.links/\(Pl.Qal s t k).1.links<=9:=by
 have h0:0<=Pl.zn.links/\Pl.zn.links<=9:=by decide
 unfold Pl.Qal;split
 ·rcases QhM ((Pl.Qaa s t).getD k []) with h|h
  ·have:=h.links;omega
  ·rw[h];exact h0
 ·exact h0
def Pl.QbA(f:Pl.F)(path pt:List UInt8):Pl.F×Int:=
 if Pl.Qaz f.1 f.2.1 path<0 then(f,2) else
 if(Pl.Qag f (Pl.Qaz f.1 f.2.1 path).toNat).kind≠1 then(f,4) else
 if 0<(Pl.QaC f.1 f.2.1 pt).2 then(f,(Pl.QaC f.1 f.2.1 pt).2) else
 if 9<=(Pl.Qag f (Pl.Qaz f.1 f.2.1 path).toNat).links∨12<=(Pl.ents f.1.st (Pl.Qag f (Pl.QaC f.1 f.2.1 pt).1.toNat)).1.length then(f,6) else
 (Pl.Qau (Pl.fput f (Pl.Qaz f.1 f.2.1 path).toNat {Pl.Qag f (Pl.Qaz f.1 f.2.1 path).toNat with links:=(Pl.Qag f (Pl.Qaz f.1 f.2.1 path).toNat).links+1}) (Pl.QaC f.1 f.2.1 pt).1.toNat
   (Pl.QaQ (Pl.ents f.1.st (Pl.Qag f (Pl.QaC f.1 f.2.1 pt).1.toNat)).1 (Pl.base pt,Pl.Qaz f.1 f.2.1 path)),0)
theorem eLinkF(g:Nat)(f:Pl.F)(N:Nat)(hN:N<=500000)(hw:f.1.W N)(ht:Pl.TGood f.2.1)(path pt:List UInt8)(hp:path.length<=900)(hp2:pt.length<=900)(hb:(Pl.base pt).length<=4):
 DoesE A3 89 [.ptr 5 0 0,.d (dS path),.d (dS pt)] (hF g f) (gF g f.1) (fun x H=>x= .d (dI (Pl.QbA f path pt).2)/\H=hF (g+1) (Pl.QbA f path pt).1):=by
 refine DoesE.tagF (C:=fun _=>True) ?_ Qc0;have c0:=aFind f.1 N hw f.2.1 ht f.2.2 path hp;have c1:=aFresh f.1 N hw f.2.1 ht f.2.2 pt hp2;obtain⟨⟨a,ha,hae⟩,h2,h3⟩:=QfC f.1 f.2.1 pt;have hd:=Pm.hid (Pl.QbA.eq_def f path pt);rw[hae,A0] at hd;have c3:=Qe3 g f N hw ht a;have hes:=Qit f.1.st (Pl.Qag f a);have hel:=QdI f.1.st (Pl.Qag f a);have hfb:=QcU f.1.st f.2.1 (Pl.Qac path);rw[show Pl.Qa2 f.1.st f.2.1 (Pl.Qac path)=Pl.Qaz f.1 f.2.1 path from rfl] at hfb;generalize Pl.QbA f path pt=res at*;generalize Pl.QaC f.1 f.2.1 pt=p at*;obtain⟨p1,p2⟩:=p;simp only at hae h2 h3 hd c1;subst hae;generalize Pl.Qaz f.1 f.2.1 path=i at*;rcases hfb with hfb|⟨k,hk,rfl⟩
 ·rw[if_pos hfb] at hd
  have hq:decide (i<0)=true:=decide_eq_true hfb;refine kH fun gvs=>?_
  repeat' first|refine kS ?_|refine qS (QbY (fs:=f) cK c0 hw) ?_|refine kU ?_|refine kV ?_ ?_<;>intro q|fail
  all_goals first|exact absurd (hq.symm.trans ‹decide (i<0)=false›) (by decide)|refine QbU 6 (hx:=?_);rw[hd.out];exact⟨g,trivial,rfl,rfl⟩
 rw[if_neg (by omega),A0] at hd;have hq0:decide ((k:Int)<0)=false:=decide_eq_false (by omega);have c4:=aNode f.1 N hw f.2.1 ht f.2.2 k;have hln:=QiX f.1.st f.2.1 k;rw[show(Pl.Qal f.1.st f.2.1 k).1=Pl.Qag f k from rfl] at c4 hln;have c5:=fun n=>ePutF g f N (by omega) hw ht k hk n (Qdg _)
 have hWp:=fun n=>Qgo hw ht hk n
 generalize (Pl.ents f.1.st (Pl.Qag f a)).1=l at*;generalize Pl.Qag f k=n at*
 by_cases h0:0<p2
 ·rw[if_pos h0] at hd
  have hq:decide (p2>0)=true:=decide_eq_true h0;clear c5 hWp c3;refine kH fun gvs=>?_
  repeat' first|refine kS ?_|refine qS (QbY (fs:=f) cK c0 hw) ?_|refine qS (QbY (fs:=f) cK c4 hw) ?_|refine qS (QbY (fs:=f) cK c1 hw) ?_|refine kU ?_|refine kV ?_ ?_<;>intro q|fail
  all_goals first|exact absurd (hq.symm.trans ‹decide (p2>0)=false›) (by decide)|exact absurd (hq0.symm.trans ‹decide ((k:Int)<0)=true›) (by decide)|refine QbU 6 (hx:=?_);rw[hd.out,if_pos (bne_iff_ne.1 ‹(n.kind !=1)=true›)];exact⟨g,trivial,rfl,rfl⟩|refine QbU 6 (hx:=?_);rw[hd.out,if_neg (by simpa using ‹(n.kind !=1)=false›)];exact⟨g,trivial,rfl,rfl⟩
 rw[if_neg h0] at hd;have hq:decide (p2>0)=false:=decide_eq_false h0;have c6:=Qg4 pt (by omega) (h3 (by omega))
 replace c5:=c5 {n with links:=n.links+1}
 replace hWp:=hWp {n with links:=n.links+1}
 have c7:=al12Add l (Pl.base pt,(k:Int)) (by omega);have hae:=Qh5 (e:=(Pl.base pt,(k:Int))) hes hel hb (by simp) (by simp;omega);generalize Pl.fput f k {n with links:=n.links+1}=f2 at*;generalize Pl.QaQ l (Pl.base pt,(k:Int))=l2 at*;have c8:=eWriteF (g+1) f2 (N+15) (by omega) hWp.1 hWp.2 a ha (fun _=>(Qck _ _ _).1) l2 hae.1 (by have:=hae.2;omega) (by have:=EB.text hae;omega);have hWr:=(QcK hWp.1 hWp.2 ha (fun _=>(Qck _ _ _).1) l2).1;generalize Pl.Qau f2 a l2=f3 at*;have v0:f3.1.rows.length=f.1.rows.length:=by rw[hWr.rows,hw.rows]
 have v1:f3.1.refs.length=f.1.refs.length:=by rw[hWr.refs,hw.refs]
 have v2:f3.1.last.length=f.1.last.length:=by rw[hWr.last,hw.last]
 clear hWp hWr;refine kH fun gvs=>?_
 repeat' first|refine kS ?_|refine qS (QbY (fs:=f) cK c0 hw) ?_|refine qS (QbY (fs:=f) cK c4 hw) ?_|refine qS (QbY (fs:=f) cK c1 hw) ?_|refine Qcn [0,1,2,3,4,5] c3 cK (k:=kX ?_)|refine Qcn [0,1,2,3,4,5] c5 cK (k:=kX ?_)|refine Qcn [0,1,2,3,4,5] c8 cK (k:=kX ?_)|refine kU ?_|refine kV ?_ ?_<;>intro q|fail
 all_goals first|exact absurd (hq.symm.trans ‹decide (p2>0)=true›) (by decide)|exact absurd (hq0.symm.trans ‹decide ((k:Int)<0)=true›) (by decide)|refine QbU 6 (hx:=?_);rw[hd.out,if_pos (bne_iff_ne.1 ‹(n.kind !=1)=true›)];exact⟨g,trivial,rfl,rfl⟩|refine QbU 6 (hx:=?_);rw[hd.out,if_neg (by simpa using ‹(n.kind !=1)=false›),if_pos (by simp only[decide_eq_true_eq,decide_eq_false_iff_not] at*;omega)];exact⟨g,trivial,rfl,rfl⟩|refine QbU 6 (hx:=?_);rw[hd.out,if_neg (by simpa using ‹(n.kind !=1)=false›),if_neg (by simp only[decide_eq_false_iff_not] at*;omega)];exact⟨_,trivial,rfl,rfl⟩
theorem Qjo(E:Pl.Node->List Pl.Ent×Bool)(ns:List Pl.Node)(b:List UInt8): ∀(q:List (List UInt8)) (i:Int),Pl.Qb2 E ns i (q++[b])=(Pl.Qb2 E ns i q).bind fun j=>((E (ns.getD j.toNat Pl.zn)).1.find? (fun e=>e.1==b)).map (·.2)
 |[],i=>by
  rw[AG,Qdo,Qe0];simp only[AE];split
  ·grind
  ·rename_i e h;rw[h,Qe0];rfl
 |n::q,i=>by
  rw[List.cons_append,Qdo,Qdo];split
  ·rfl
  ·rename_i e h;exact Qjo E ns b q e.2
theorem Qpf{l:List (List UInt8)}(h:l≠[]):l=l.take (l.length -1)++[l.getD (l.length -1) []]:=by
 have hl:=A4.2 h
 have h1:l.take (l.length -1)++[l.getD (l.length -1) []]=l.take (l.length -1+1):=by
  rw[List.take_add_one,A8 (by omega),List.getD_eq_getElem?_getD,A8 (by omega)];rfl
 grind
theorem Qet(ht:Pl.TGood t){path:List UInt8}(h0:0<=Pl.Qaz w t path)(h1:Pl.Qaz w t path≠0):
 Pl.Qac path≠[]/\(Pl.Qaq w t path).2=0/\ ∃a:Nat,a<16/\(Pl.Qaq w t path).1=a/\ ∃i:Nat,i<(Pl.ents w.st (Pl.Qal w.st t a).1).1.length/\Pl.at12 (Pl.ents w.st (Pl.Qal w.st t a).1).1 (Pl.base path)=i:=by
 have hn:Pl.Qac path≠[]:=fun h=>h1 (by unfold Pl.Qaz Pl.Qa2 Pl.QaM;rw[h,Qe0];rfl)
 have hs:=Qpf hn;unfold Pl.Qaz Pl.Qa2 Pl.QaM at h0;rw[hs,Qjo] at h0;have hfb:=QcU w.st t ((Pl.Qac path).take ((Pl.Qac path).length -1));have hdef:Pl.Qa2 w.st t ((Pl.Qac path).take ((Pl.Qac path).length -1))=(Pl.Qb2 (Pl.ents w.st) (Pl.Qab w.st t) 0 ((Pl.Qac path).take ((Pl.Qac path).length -1))).getD (-1):=rfl;cases hg:Pl.Qb2 (Pl.ents w.st) (Pl.Qab w.st t) 0 ((Pl.Qac path).take ((Pl.Qac path).length -1)) with
 |none=>grind
 |some j=>
  rw[hg] at h0 hdef;have hj:Pl.Qa2 w.st t ((Pl.Qac path).take ((Pl.Qac path).length -1))=j:=hdef;have hjb:=Qm9 w.st (Pl.Qab w.st t) _ 0 (by omega) (by omega) j hg;obtain⟨a,ha⟩:=Int.eq_ofNat_of_zero_le hjb.1;subst ha;simp only[AE,A0] at h0;rw[<-Qhd w.st ht a] at h0;cases hf:(Pl.ents w.st (Pl.Qal w.st t a).1).1.find? (fun e=>e.1==(Pl.Qac path).getD ((Pl.Qac path).length -1) []) with
  |none=>grind
  |some e=>
   have hk:(Pl.Qal w.st t a).1.kind=2:=by
    refine Qgs (s:=w.st) ?_;rcases QcE w.st (Pl.Qal w.st t a).1 with h|h
    ·exact h.1
    grind
   have hp:Pl.Qaq w t path=((a:Int),0):=by
    unfold Pl.Qaq
    grind
   rw[hp];exact⟨hn,rfl,a,by omega,rfl,(by obtain⟨i,h1,h2⟩:=QlC hf;grind)⟩
def QpA{N:Nat}(h:w.W N)(ht:Pl.TGood t){id many:Nat}(hid:id<16)(hm:many<=16){l:List Pl.Ptr}(hl: ∀p∈l,Pl.ptrOk p=true)(hn:l.length<=21):(Pl.QaT w t id l many).1.W (N+65):=by
 have h1:=Qem ((Qm5 h hl).le (M:=N+21) (by omega)) ht hid [];unfold Pl.QaT;split
 ·exact(cut_W h1.1 h1.2 hm).1.le (by omega)
 ·exact h1.1.le (by omega)
def Pl.Qa4(f:Pl.F)(path:List UInt8):Pl.F:=
 Pl.Qau f (Pl.Qaq f.1 f.2.1 path).1.toNat ((Pl.ents f.1.st (Pl.Qag f (Pl.Qaq f.1 f.2.1 path).1.toNat)).1.take (Pl.at12 (Pl.ents f.1.st (Pl.Qag f (Pl.Qaq f.1 f.2.1 path).1.toNat)).1 (Pl.base path)).toNat++(Pl.ents f.1.st (Pl.Qag f (Pl.Qaq f.1 f.2.1 path).1.toNat)).1.drop ((Pl.at12 (Pl.ents f.1.st (Pl.Qag f (Pl.Qaq f.1 f.2.1 path).1.toNat)).1 (Pl.base path)).toNat+1))
def Pl.QbN(f:Pl.F)(id:Nat):Pl.F:=
 ((Pl.QaT f.1 f.2.1 id (Pl.allT f.1.st (Pl.Qag f id).tree) (Pl.QaB (Pl.Qaa f.1.st f.2.1) id)).1,(Pl.QaT f.1 f.2.1 id (Pl.allT f.1.st (Pl.Qag f id).tree) (Pl.QaB (Pl.Qaa f.1.st f.2.1) id)).2.1,!(Pl.QaT f.1 f.2.1 id (Pl.allT f.1.st (Pl.Qag f id).tree) (Pl.QaB (Pl.Qaa f.1.st f.2.1) id)).2.2)
def Pl.QbB(f:Pl.F)(path:List UInt8):Pl.F×Int:=
 if Pl.Qaz f.1 f.2.1 path<0 then(f,2) else
 if Pl.Qaz f.1 f.2.1 path=0∨((Pl.Qag f (Pl.Qaz f.1 f.2.1 path).toNat).kind=2/\0<(Pl.Qag f (Pl.Qaz f.1 f.2.1 path).toNat).size) then(f,5) else
 if 0<(Pl.Qag f (Pl.Qaz f.1 f.2.1 path).toNat).links -1 then(Pl.fput (Pl.Qa4 f path) (Pl.Qaz f.1 f.2.1 path).toNat {Pl.Qag f (Pl.Qaz f.1 f.2.1 path).toNat with links:=(Pl.Qag f (Pl.Qaz f.1 f.2.1 path).toNat).links -1},0) else
 if(Pl.Qa4 f path).2.2 then(Pl.Qa4 f path,0) else(Pl.QbN (Pl.Qa4 f path) (Pl.Qaz f.1 f.2.1 path).toNat,0)
theorem Qqm(s:Pm.Store)(t:Pl.Tree)(k:Nat)(h:(Pl.Qal s t k).1.kind=1):(0<=(Pl.Qal s t k).1.size/\(Pl.Qal s t k).1.size<=192)/\(Pl.Qal s t k).1.tree.many=((Pl.Qal s t k).1.size+11)/12:=by
 unfold Pl.Qal at h⊢;split
 ·rename_i h1
  rw[if_pos h1] at h;rcases Qf5 ((Pl.Qaa s t).getD k []) with h2|h2
  ·have h3:=h2.1.1
   unfold Pl.Qar at h3;have hb:=Qd6 h2.1.1;simp only[AF,beq_iff_eq,decide_eq_true_eq] at h3
   have h4: ∀x:Int,Pl.Qa3 1 x=if Pl.inR x 0 192 then(x+11)/12 else -1:=fun x=>by
    unfold Pl.Qa3;rw[show Pl.each 1=12 from rfl,if_neg (by decide)]
    grind
   have hm:=hb.many
   have h5:(Pl.ng ((Pl.Qaa s t).getD k [])).1.tree.many=Pl.Qa3 1 (Pl.ng ((Pl.Qaa s t).getD k [])).1.size:=by
    grind
   rw[h4] at h5;split at h5
   ·rename_i h6
    unfold Pl.inR at h6
    grind
   ·omega
  ·rw[h2] at h;exact absurd h (by decide)
 ·rename_i h1
  rw[if_neg h1] at h;exact absurd h (by decide)
structure Pl.Opn where
 kind:Int
 path:List UInt8
 pto:List UInt8
 at':Nat
 text:List UInt8
abbrev dOp(o:Pl.Opn):D:= .agg [dI o.kind,dS o.path,dS o.pto,dI o.at',dS o.text]
def Pl.fchg(f:Pl.F)(n:Pl.Node)(o:Pl.Opn):Pl.Sto×Pl.Node×Bool:=if o.kind=3 then Pl.Qbw f.1 n o.at' o.text else Pl.Qbx f.1 n o.at'
def Pl.QaV(f:Pl.F)(o:Pl.Opn):Pl.F×Int:=
 if Pl.Qaz f.1 f.2.1 o.path<0 then(f,2) else
 if(Pl.Qag f (Pl.Qaz f.1 f.2.1 o.path).toNat).kind≠1 then(f,4) else
 if 192<o.at'+o.text.length then(f,6) else
 (Pl.fput ((Pl.fchg f (Pl.Qag f (Pl.Qaz f.1 f.2.1 o.path).toNat) o).1,f.2.1,!(Pl.fchg f (Pl.Qag f (Pl.Qaz f.1 f.2.1 o.path).toNat) o).2.2) (Pl.Qaz f.1 f.2.1 o.path).toNat (Pl.fchg f (Pl.Qag f (Pl.Qaz f.1 f.2.1 o.path).toNat) o).2.1,0)
theorem QiC(s:Pm.Store)(l:List Pl.Ptr):l.flatMap (Pl.allP s 0)=Pl.nh l:=by
 induction l with
 |nil=>rfl
 |cons p l ih=>
  rw[A2,ih];unfold Pl.allP Pl.nh
  grind
theorem QiD(s:Pm.Store)(n:Nat)(p:Pl.Ptr):Pl.allP s (n+1) p=Pl.nh [p]++(Pl.Qad s p (n+1:Nat)).1.flatMap (Pl.allP s n):=by
 cases hh:Pl.ptrHole p
 ·show(if Pl.ptrHole p then [] else p::(Pl.Qad s p (n+1:Nat)).1.flatMap (Pl.allP s n))=_
  rw[hh];unfold Pl.nh;simp[hh]
 ·rw[Qda s _ hh]
  have:Pl.Qad s p (n+1:Nat)=(List.replicate 4 Pl.hole,true):=by unfold Pl.Qad;grind
  rw[this];unfold Pl.nh;simp[hh,Qda s n Qct]
theorem Qof(h:Pl.Tr w t):(Pl.allT w.st t).Perm (Pl.tps w.st t):=by
 have hl:=h.lv;have hd:t.depth=0∨t.depth=1∨t.depth=2:=by rw[h.dep];rcases Qfo t.many.toNat with e|e|e<;>rw[e]<;>simp
 unfold Pl.tps Pl.allT;rcases hd with hd|hd|hd
 ·rw[Qey hd,leaves0 _ hd,hd,AG]
  have:=QiC w.st [t.root]
  grind
 ·rw[leaves1 _ hd] at hl⊢
  split at hl
  ·rename_i hb
   rw[QdW hd,if_pos hb,hd,show(1:Int).toNat=0+1 from rfl,QiD,QiC]
   grind
  ·cases hl
 ·rw[leaves2 _ hd] at hl⊢
  split at hl
  ·rename_i hb
   rw[if_pos hb];split at hl
   ·rename_i hb2
    rw[QdB hd,if_pos hb2,hd,show(2:Int).toNat=1+1 from rfl,QiD,List.append_assoc];refine List.Perm.append_left _ ?_;show((Pl.Qad w.st t.root 2).1.flatMap (Pl.allP w.st 1)).Perm (Pl.nh (Pl.Qad w.st t.root 2).1++Pl.nh ((Pl.Qad w.st t.root 2).1.flatMap fun p=>(Pl.Qad w.st p 1).1));generalize (Pl.Qad w.st t.root 2).1=B;clear hb hb2 hd;induction B with
    |nil=>exact .refl _
    |cons b B ih=>
     rw[A2,A2,Qdx,show b::B=[b]++B from rfl,Qdx,show Pl.allP w.st 1 b=_ from QiD w.st 0 b,QiC]
     grind
   ·cases hl
  ·cases hl
theorem Qss(h:Pl.Tr w t)(hh:Pl.ptrHole t.root=false):t.root∈Pl.tps w.st t:=by
 have hd:t.depth=0∨t.depth=1∨t.depth=2:=by rw[h.dep];rcases Qfo t.many.toNat with e|e|e<;>rw[e]<;>simp
 have hn:t.root∈Pl.nh [t.root]:=QdF.2 ⟨A6.2 rfl,hh⟩;unfold Pl.tps;rcases hd with hd|hd|hd
 ·rw[leaves0 _ hd];grind
 ·rw[QdW hd];grind
 ·rw[QdB hd];grind
theorem Tr_sub{L:List Pl.Ptr}(h:Pl.Tr w t)(hl:Pl.Lv w L)(hs: ∀p∈Pl.tps w.st t,p∈L)(htx:0<=w.txg):Pl.Sub w.st t.depth.toNat t.root/\ ∀p∈Pl.allT w.st t,Pl.ptrOk p=true:=by
 have key: ∀p∈Pl.tps w.st t,Pl.ptrOk p=true/\p.birth<=w.txg:=fun p hp=>⟨(Qfl (hl.fit p (hs p hp))).1,hl.bir p (hs p hp)⟩
 refine⟨?_,fun p hp=>(key p ((Qof h).mem_iff.1 hp)).1⟩;have hlv:=h.lv;have hz:=h.zero;have hm: ∀p∈(Pl.Qap w.st t).1,Pl.ptrHole p=false->p∈Pl.tps w.st t:=fun p hp hh=>AA _ (QdF.2 ⟨hp,hh⟩)
 unfold Pl.Qap at hlv hz hm;refine QlW w.st htx _ [t.root] hlv (fun p hp=>?_) (fun p hp=>?_) _ (A6.2 rfl)
 ·rw[A6.1 hp]
  refine⟨h.good.root,?_⟩;cases hh:Pl.ptrHole t.root
  ·exact(key _ (Qss h hh)).2
  ·rw[Qfi hh];exact htx
 ·cases hh:Pl.ptrHole p
  ·have:=key p (hm p hp hh)
   exact .inr ⟨this.1,(hz p hp).resolve_left (by grind),this.2⟩
  ·exact .inl hh
def Qmg(h:(Pl.nd w t k).1.kind≠0):(Pl.nd w t k).2=true:=by
 unfold Pl.nd at h⊢;rcases Qf5 (Pl.rd w.rows ((Pl.wide w.st t).getD k Pl.hole)).1 with e|e
 ·exact e.2
 ·rw[e] at h;exact absurd rfl h
theorem Qmf(h:(Pl.nd w t k).2=false):(Pl.nd w t k).1=Pl.zn:=by
 unfold Pl.nd at h⊢;rcases Qf5 (Pl.rd w.rows ((Pl.wide w.st t).getD k Pl.hole)).1 with e|e
 ·grind
 ·rw[e]
theorem Qhv(h:(Pl.nd w t k).2=true):Pl.nps w.st (Pl.nd w t k)=Pl.tps w.st (Pl.nd w t k).1.tree:=by unfold Pl.nps;grind
theorem Fs_x(h:Pl.Fs w t)(htx:0<=w.txg)(k:Nat):
 Pl.Sub w.st (Pl.Qal w.st t k).1.tree.depth.toNat (Pl.Qal w.st t k).1.tree.root/\ ∀p∈Pl.allT w.st (Pl.Qal w.st t k).1.tree,Pl.ptrOk p=true:=by
 have hz:Pl.Sub w.st Pl.zn.tree.depth.toNat Pl.zn.tree.root/\ ∀p∈Pl.allT w.st Pl.zn.tree,Pl.ptrOk p=true:=by
  refine⟨.inl Qct,fun p hp=>?_⟩;rw[show Pl.allT w.st Pl.zn.tree=[] from Qda w.st _ Qct] at hp;cases hp
 by_cases hk:k<16
 ·rw[QdP h.tr hk]
  cases hn:(Pl.nd w t k).2
  ·rw[Qmf hn];exact hz
  ·refine Tr_sub (h.nod k hk hn) h.live (fun p hp=>AA _ ?_) htx
   unfold Pl.nds;refine List.mem_flatMap.2 ⟨k,List.mem_range.2 hk,?_⟩;rw[Qhv hn];exact hp
 ·have hm:=h.tr.good.manyHi
  unfold Pl.Qal
  grind
def Pl.Fk(f:Pl.F):Prop:=f.2.2=false->Pl.Fs f.1 f.2.1/\1<=f.2.1.many
def Fk_ok{f:Pl.F}(h:Pl.Fk f):Pl.Fok f:=fun e=>(h e).1
theorem QeM{f:Pl.F}{id:Nat}{l:List Pl.Ent}(hid:id<16)(h:Pl.Fk f)(hn:f.2.2=false->(Pl.nd f.1 f.2.1 id).1.kind=2):
 Pl.Fk (Pl.Qau f id l)/\((Pl.Qau f id l).2.2=false->f.2.2=false/\(id:Int)<(Pl.Qau f id l).2.1.many/\(∀k,k≠id->Pl.nd (Pl.Qau f id l).1 (Pl.Qau f id l).2.1 k=Pl.nd f.1 f.2.1 k)/\(Pl.nd (Pl.Qau f id l).1 (Pl.Qau f id l).2.1 id).1.kind=2):=by
 have key:=fun hok=>QqC (l:=l) hid (Fk_ok h) (fun e=>⟨Qmg (by grind),hn e⟩) hok
 refine⟨fun hok=>?_,fun hok=>?_⟩
 ·grind
 grind
theorem Qn5{f:Pl.F}{id:Nat}{n:Pl.Node}(hid:id<16)(h:f.2.2=false->Pl.Op f.1 f.2.1 id (Pl.tps f.1.st n.tree))(hn:f.2.2=false->Pl.Qar n=true->Pl.Tr f.1 n.tree):
 Pl.Fk (Pl.fput f id n)/\((Pl.fput f id n).2.2=false->f.2.2=false/\ ∀k,k≠id->Pl.nd (Pl.fput f id n).1 (Pl.fput f id n).2.1 k=Pl.nd f.1 f.2.1 k):=by
 refine⟨fun hok=>?_,fun hok=>?_⟩
 ·obtain⟨k1,k2,k3,_⟩:=Qm6 hid h hn hok
  grind
 ·obtain⟨k1,k2,k3,k4,_⟩:=Qm6 hid h hn hok
  grind
def Qlm{f:Pl.F}{id:Nat}{n:Pl.Node}(hid:id<16)(h:Pl.Fk f)(hn:f.2.2=false->(Pl.nd f.1 f.2.1 id).2=true/\n.tree=(Pl.nd f.1 f.2.1 id).1.tree):
 Pl.Fk (Pl.fput f id n)/\((Pl.fput f id n).2.2=false->f.2.2=false/\ ∀k,k≠id->Pl.nd (Pl.fput f id n).1 (Pl.fput f id n).2.1 k=Pl.nd f.1 f.2.1 k):=
 Qn5 hid (fun e=>by have:=QgT (h e).1 hid;rw[Qhv (hn e).1,<-(hn e).2] at this;omega) fun e _=>by rw[(hn e).2];exact(h e).1.nod id hid (hn e).1
theorem Qes{path:List UInt8}(h:Pl.Fs w t)(ha:a<16)(h1:(Pl.Qaq w t path).1=a)(h2:(Pl.Qaq w t path).2=0):(Pl.nd w t a).1.kind=2:=by
 rw[<-QdP h.tr ha];unfold Pl.Qaq at h1 h2
 grind
theorem Qjl{path:List UInt8}(h:Pl.Fs w t)(ha:a<16)(h1:(Pl.QaC w t path).1=a)(h2: ¬0<(Pl.QaC w t path).2):(Pl.nd w t a).1.kind=2:=by
 have hb:=(QeN w t path).2.1;unfold Pl.QaC at h1 h2;split at h1
 ·grind
 ·rename_i h3
  rw[if_neg h3] at h2;split at h1
  ·grind
  ·exact Qes h ha h1 (by omega)
def Qno(h:Pl.Fs w t){id:Nat}(he:(Pl.Qaa w.st t).getD id []=[]):Pl.nd w t id=(Pl.zn,false):=by
 unfold Pl.nd
 by_cases hi:(id:Int)<=t.many -1
 ·have:=texts_get w.st h.tr.good hi
  rw[he] at this;rw[show(Pl.rd w.rows ((Pl.wide w.st t).getD id Pl.hole)).1=[] from this.symm,QhO]
 ·have:=h.tr.good.manyLo
  rw[h.tr.top id (by omega),QdD,QhO]
theorem QqI{f:Pl.F}(h:Pl.Fk f)(hf:f.2.2=false)(path:List UInt8)(kind:Int):Pl.Fk (Pl.Qb1 f path kind).1:=by
 obtain⟨⟨a,ha,hae⟩,h2,h3⟩:=QfC f.1 f.2.1 path;have hF:=(h hf).1;unfold Pl.Qb1;rw[hae,A0];split
 ·exact h
 rename_i h0;have hka:=Qjl hF ha hae h0;cases hfr:Pl.Qbz (Pl.Qaa f.1.st f.2.1) with
 |none=>exact h
 |some id=>
  dsimp only;split
  ·exact h
  obtain⟨hid,hblank⟩:=Qim hfr;have hz:=Qno hF hblank;have hne:a≠id:=fun e=>by rw[e,hz] at hka;exact absurd hka (by decide)
  have hp:=Qn5 (f:=f) (id:=id) (n:=⟨kind,1,0,⟨Pl.hole,0,0⟩⟩) hid (fun e=>by
   have:=QgT (h e).1 hid;rw[hz] at this
   rw[(QeX f.1).2];exact this) fun _ _=>(QeX f.1).1
  exact(QeM ha hp.1 fun e=>by grind).1
theorem flink_k{f:Pl.F}(h:Pl.Fk f)(hf:f.2.2=false)(path pt:List UInt8):Pl.Fk (Pl.QbA f path pt).1:=by
 obtain⟨⟨a,ha,hae⟩,h2,h3⟩:=QfC f.1 f.2.1 pt;have hF:=(h hf).1;have hfb:=QcU f.1.st f.2.1 (Pl.Qac path);rw[show Pl.Qa2 f.1.st f.2.1 (Pl.Qac path)=Pl.Qaz f.1 f.2.1 path from rfl] at hfb;unfold Pl.QbA;rw[hae,A0];rcases hfb with hfb|⟨k,hk,hke⟩
 ·grind
 rw[hke,A0,if_neg (by omega)];have e1:Pl.Qag f k=(Pl.nd f.1 f.2.1 k).1:=by unfold Pl.Qag;rw[QdP hF.tr hk]
 split
 ·exact h
 rename_i h1;have hk1:(Pl.nd f.1 f.2.1 k).1.kind=1:=by rw[<-e1];exact A7.1 h1
 split
 ·exact h
 rename_i h0;have hka:=Qjl hF ha hae h0;split
 ·exact h
 have hne:a≠k:=fun e=>by grind
 have hp:=Qlm (f:=f) (id:=k) (n:={Pl.Qag f k with links:=(Pl.Qag f k).links+1}) hk h fun _=>⟨Qmg (by omega),by rw[<-e1]⟩
 exact(QeM ha hp.1 fun e=>by grind).1
def Qln{n:Pl.Node}{text:List UInt8}{b:Nat}(hT:Pl.Tr w n.tree)(h:Pl.Lv w (Pl.tps w.st n.tree++X))(hl:a+(Pl.Qbq text a (b+1 -a)).length<=16)(hok:(Pl.QaN w n text a b).2.2=true):
 Pl.Did w n.tree (Pl.QaN w n text a b).1 (Pl.QaN w n text a b).2.1.tree X:=(Qj9 _ a hT h hl hok).1
def QkK(text:List UInt8)(a m:Nat):(Pl.Qbq text a m).length=m:=by simp[Pl.Qbq]
def QrY{w' w'':Pl.Sto}{t' t'':Pl.Tree}(h:Pl.Did w t w' t' X)(h2:Pl.Did w' t' w'' t'' X):Pl.Did w t w'' t'' X:=
 ⟨h2.tr,h2.live,fun q hq=>(h2.keep q hq).trans (h.keep q hq),h2.txg.trans h.txg⟩
variable{o:Pl.Opn}
theorem fchg_in{f:Pl.F}{n:Pl.Node}(hT:Pl.Tr f.1 n.tree)(h:Pl.Lv f.1 (Pl.tps f.1.st n.tree++X))(hb:o.at'+o.text.length<=192)(hok:(Pl.fchg f n o).2.2=true):
 Pl.Did f.1 n.tree (Pl.fchg f n o).1 (Pl.fchg f n o).2.1.tree X:=by
 unfold Pl.fchg at hok⊢;split at hok
 ·rename_i h3
  rw[if_pos h3];unfold Pl.Qbw at hok⊢;split at hok
  ·rename_i h4;rw[if_pos h4];exact⟨hT,h,fun _ _=>rfl,rfl⟩
  ·rename_i h4
   rw[if_neg h4];have:=A4.2 h4;exact Qln hT h (by rw[QkK];omega) hok
 ·rename_i h3
  rw[if_neg h3];unfold Pl.Qbx at hok⊢;split at hok
  ·rename_i h4
   rw[if_pos h4];split at hok
   ·rename_i h5;rw[if_pos h5];exact⟨hT,h,fun _ _=>rfl,rfl⟩
   ·rename_i h5
    rw[if_neg h5];obtain⟨a1,_,a3,a4,a5,_⟩:=QlU hT (show(o.at'+11)/12 -1<16 by omega) h hok;exact⟨a1,a3,a4,a5⟩
  ·rename_i h4
   rw[if_neg h4];split at hok
   ·cases hok
   ·rename_i h5
    rw[if_neg h5];obtain⟨a1,_,a3,a4,a5,_⟩:=Qrw hT h (show(o.at'+11)/12<=16 by omega) (by grind);have hd:Pl.Did f.1 n.tree (Pl.cut f.1 n.tree ((o.at'+11)/12)).1 (Pl.cut f.1 n.tree ((o.at'+11)/12)).2.1 X:=⟨a1,a3,a4,a5⟩;split at hok
    ·grind
    ·rename_i h6
     rw[if_neg h6];exact QrY hd (Qln (n:={n with tree:=(Pl.cut f.1 n.tree ((o.at'+11)/12)).2.1,size:=(o.at':Int)}) a1 a3 (by rw[QkK];omega) hok)
theorem QqU{f:Pl.F}(h:Pl.Fk f)(hf:f.2.2=false)(o:Pl.Opn):Pl.Fk (Pl.QaV f o).1:=by
 have hF:=(h hf).1;have hfb:=QcU f.1.st f.2.1 (Pl.Qac o.path);rw[show Pl.Qa2 f.1.st f.2.1 (Pl.Qac o.path)=Pl.Qaz f.1 f.2.1 o.path from rfl] at hfb;unfold Pl.QaV;rcases hfb with hfb|⟨k,hk,hke⟩
 ·grind
 rw[hke,A0,if_neg (by omega)];have e1:Pl.Qag f k=(Pl.nd f.1 f.2.1 k).1:=by unfold Pl.Qag;rw[QdP hF.tr hk]
 split
 ·exact h
 rename_i h1;have hk1:(Pl.nd f.1 f.2.1 k).1.kind=1:=by rw[<-e1];exact A7.1 h1
 have hn2:(Pl.nd f.1 f.2.1 k).2=true:=Qmg (by omega);split
 ·exact h
 rename_i h2;have hop:=QgT hF hk;rw[Qhv hn2,<-e1] at hop;have hT:=hF.nod k hk hn2;rw[<-e1] at hT;have hd:=fun hok=>fchg_in (f:=f) (n:=Pl.Qag f k) (o:=o) hT (X:=Pl.tps f.1.st f.2.1++Pl.ndx f.1 f.2.1 k) (hop.live.perm (by grind)) (by omega) hok
 generalize Pl.fchg f (Pl.Qag f k) o=y at*;obtain⟨w2,n2,ok2⟩:=y;refine(Qn5 (f:=(w2,f.2.1,!ok2)) hk (fun e=>?_) fun e _=>?_).1
 ·obtain⟨b1,b2,b3,b4⟩:=hd (by grind)
  exact(Qk0 (w':=w2) (E':=Pl.tps w2.st n2.tree) hop b3 (by grind) (b2.perm (by grind))).1
 ·exact(hd (by grind)).tr
def QqZ{s:Pm.Store}{n:Pl.Node}(h:n.size=0):(Pl.ents s n).1=[]:=by
 unfold Pl.ents;split
 ·rename_i hc
  simp only[AF,decide_eq_true_eq] at hc;have h1:(Pl.blob (Pl.Qaa s n.tree)).1=[]:=List.eq_nil_iff_length_eq_zero.2 (by omega);rw[h1];rcases QnE [] with h2|h2
  ·have h3:=h2.1.2
   cases hl:(Pl.eg []).1 with
   |nil=>rfl
   |cons e l=>rw[hl] at h3;simp[Pl.Qah] at h3
  ·rw[h2]
 ·rfl
theorem fdrop_k{f:Pl.F}(h:Pl.Fk f)(hf:f.2.2=false)(path:List UInt8):Pl.Fk (Pl.QbB f path).1:=by
 have hF:=(h hf).1;have hfb:=QcU f.1.st f.2.1 (Pl.Qac path);rw[show Pl.Qa2 f.1.st f.2.1 (Pl.Qac path)=Pl.Qaz f.1 f.2.1 path from rfl] at hfb;have hpf:=Qet (w:=f.1) hF.tr.good (path:=path);unfold Pl.QbB;rcases hfb with hfb|⟨k,hk,hke⟩
 ·grind
 rw[hke] at hpf⊢;rw[A0,if_neg (by omega)];split
 ·exact h
 rename_i h1;obtain⟨hne,hp2,a,ha,hpa,i,hi,hi2⟩:=hpf (by omega) (by omega);have hka:=Qes hF ha hpa hp2;have e1:Pl.Qag f k=(Pl.nd f.1 f.2.1 k).1:=by unfold Pl.Qag;rw[QdP hF.tr hk]
 have hsz:=(Qck f.1.st f.2.1 k).2.1;rw[show(Pl.Qal f.1.st f.2.1 k).1=Pl.Qag f k from rfl] at hsz
 have hak:a≠k:=fun e=>by
  subst e;have e2:(Pl.Qal f.1.st f.2.1 a).1=Pl.Qag f a:=rfl;rw[e2,QqZ] at hi
  ·simp at hi
  grind
 have hw:Pl.Qa4 f path=Pl.Qau f a ((Pl.ents f.1.st (Pl.Qag f (Pl.Qaq f.1 f.2.1 path).1.toNat)).1.take (Pl.at12 (Pl.ents f.1.st (Pl.Qag f (Pl.Qaq f.1 f.2.1 path).1.toNat)).1 (Pl.base path)).toNat++(Pl.ents f.1.st (Pl.Qag f (Pl.Qaq f.1 f.2.1 path).1.toNat)).1.drop ((Pl.at12 (Pl.ents f.1.st (Pl.Qag f (Pl.Qaq f.1 f.2.1 path).1.toNat)).1 (Pl.base path)).toNat+1)):=by
  unfold Pl.Qa4;grind
 have hwk:=QeM (f:=f) (l:=(Pl.ents f.1.st (Pl.Qag f (Pl.Qaq f.1 f.2.1 path).1.toNat)).1.take (Pl.at12 (Pl.ents f.1.st (Pl.Qag f (Pl.Qaq f.1 f.2.1 path).1.toNat)).1 (Pl.base path)).toNat++(Pl.ents f.1.st (Pl.Qag f (Pl.Qaq f.1 f.2.1 path).1.toNat)).1.drop ((Pl.at12 (Pl.ents f.1.st (Pl.Qag f (Pl.Qaq f.1 f.2.1 path).1.toNat)).1 (Pl.base path)).toNat+1)) ha h fun _=>hka
 rw[<-hw] at hwk;generalize Pl.Qa4 f path=f2 at*;obtain⟨w1,w2⟩:=hwk;split
 ·rename_i hl
  have hn2:(Pl.nd f.1 f.2.1 k).2=true:=by
   cases hn:(Pl.nd f.1 f.2.1 k).2
   ·rw[e1,Qmf hn] at hl;exact absurd hl (by decide)
   ·rfl
  exact(Qlm hk w1 fun e=>by grind).1
 ·split
  ·exact w1
  ·rename_i hff
   have hff:f2.2.2=false:=by grind
   obtain⟨_,u1,u2,u3⟩:=w2 hff;have hF2:=(w1 hff).1;have hlen:=texts_len f2.1.st hF2.tr.good;intro hok;unfold Pl.QbN at hok⊢;have hm:Pl.QaB (Pl.Qaa f2.1.st f2.2.1) k<=16:=Nat.le_trans (Qgl _ _) (by rw[hlen];have:=hF2.tr.good.manyHi;omega)
   have hpm:(Pl.allT f2.1.st (Pl.Qag f2 k).tree).Perm (Pl.nps f2.1.st (Pl.nd f2.1 f2.2.1 k)):=by
    have e2:Pl.Qag f2 k=(Pl.nd f2.1 f2.2.1 k).1:=by unfold Pl.Qag;rw[QdP hF2.tr hk]
    rw[e2];cases hn:(Pl.nd f2.1 f2.2.1 k).2
    ·rw[Qmf hn];unfold Pl.nps;rw[hn]
     rw[show Pl.allT f2.1.st Pl.zn.tree=[] from Qda f2.1.st _ Qct];grind
    ·rw[Qhv hn];exact Qof (hF2.nod k hk hn)
   obtain⟨d1,d2⟩:=Qsj hF2 hk hpm hm (by grind);refine⟨d1,?_⟩;rw[d2];have:=QoK (l:=Pl.Qaa f2.1.st f2.2.1) (but:=k) (k:=a) (by omega) hak (fun e=>by rw[Qno hF2 e] at u3;exact absurd u3 (by decide));omega
def QtM{f:Pl.F}{N:Nat}(h:f.1.W N){n:Pl.Node}(ht:Pl.TGood n.tree)(ho:o.at'+o.text.length<=192):(Pl.fchg f n o).1.W (N+269):=by
 unfold Pl.fchg;split
 ·unfold Pl.Qbw
  split
  ·exact h.le (by omega)
  ·rename_i h1
   have:=A4.2 h1;exact(Qhy h ht (by omega)).1.le (by omega)
 ·have hm:(o.at'+11)/12<=16:=by omega
  have h2:=cut_W h ht (many:=(o.at'+11)/12) hm;have h3:=Qem h ht (k:=(o.at'+11)/12 -1) (by omega) [];unfold Pl.Qbx;split
  ·split
   ·exact h.le (by omega)
   ·exact h3.1.le (by omega)
  ·split
   ·exact h2.1.le (by omega)
   ·split
    ·exact h2.1.le (by omega)
    ·exact(Qhy h2.1 (n:={n with tree:=(Pl.cut f.1 n.tree ((o.at'+11)/12)).2.1,size:=o.at'}) h2.2 (by omega)).1.le (by omega)
def QnH(g:Nat)(f:Pl.F)(N:Nat)(hN:N<=500000)(hw:f.1.W N)(ht:Pl.TGood f.2.1)(o:Pl.Opn)(hp:o.path.length<=900)(ha:o.at'<=1000000)(htx:o.text.length<=1000000):
 DoesE A3 91 [.ptr 5 0 0,.d (dOp o)] (hF g f) (gF g f.1) (fun x H=>x= .d (dI (Pl.QaV f o).2)/\H=hF (g+1) (Pl.QaV f o).1):=by
 refine DoesE.tagF (C:=fun _=>True) ?_ Qc0;have c0:=aFind f.1 N hw f.2.1 ht f.2.2 o.path hp;have hd:=Pm.hid (Pl.QaV.eq_def f o);have hfb:=QcU f.1.st f.2.1 (Pl.Qac o.path);rw[show Pl.Qa2 f.1.st f.2.1 (Pl.Qac o.path)=Pl.Qaz f.1 f.2.1 o.path from rfl] at hfb;generalize Pl.QaV f o=res at*;generalize Pl.Qaz f.1 f.2.1 o.path=i at*;rcases hfb with hfb|⟨k,hk,rfl⟩
 ·rw[if_pos hfb] at hd
  have hq:decide (i<0)=true:=decide_eq_true hfb;refine kH fun gvs=>?_
  refine QbP 6 (h:=?_)
  repeat' first|refine kS ?_|refine qS (QbY (fs:=f) cK c0 hw) ?_|refine kU ?_|refine kV ?_ ?_<;>intro q|fail
  all_goals first|exact absurd (hq.symm.trans ‹decide (i<0)=false›) (by decide)|refine QbU 6 (hx:=?_);rw[hd.out];exact⟨g,trivial,rfl,rfl⟩
 rw[if_neg (by omega),A0] at hd;have hq0:decide ((k:Int)<0)=false:=decide_eq_false (by omega);have c4:=aNode f.1 N hw f.2.1 ht f.2.2 k;have hng:=Qck f.1.st f.2.1 k;have hnf:=Qqm f.1.st f.2.1 k;rw[show(Pl.Qal f.1.st f.2.1 k).1=Pl.Qag f k from rfl] at c4 hng hnf;generalize Pl.Qag f k=n at*
 by_cases h1:n.kind≠1
 ·rw[if_pos h1] at hd
  have hq1:(n.kind !=1)=true:=bne_iff_ne.2 h1;refine kH fun gvs=>?_
  refine QbP 6 (h:=?_)
  repeat' first|refine kS ?_|refine qS (QbY (fs:=f) cK c0 hw) ?_|refine qS (QbY (fs:=f) cK c4 hw) ?_|refine kU ?_|refine kV ?_ ?_<;>intro q|fail
  all_goals first|exact absurd (hq0.symm.trans ‹decide ((k:Int)<0)=true›) (by decide)|exact absurd (hq1.symm.trans ‹(n.kind !=1)=false›) (by decide)|refine QbU 6 (hx:=?_);rw[hd.out];exact⟨g,trivial,rfl,rfl⟩
 rw[if_neg h1] at hd;have hk1:n.kind=1:=A7.1 h1;have hq1:(n.kind !=1)=false:=by rw[hk1];rfl
 obtain⟨hns,hnm⟩:=hnf hk1
 by_cases h2:192<o.at'+o.text.length
 ·rw[if_pos h2] at hd
  have hq2:decide ((o.at':Int)+(o.text.length:Int)>192)=true:=decide_eq_true (by omega);refine kH fun gvs=>?_
  refine QbP 6 (h:=?_)
  repeat' first|refine kS ?_|refine qS (QbY (fs:=f) cK c0 hw) ?_|refine qS (QbY (fs:=f) cK c4 hw) ?_|refine kU ?_|refine kV ?_ ?_<;>intro q|fail
  all_goals first|exact absurd (hq0.symm.trans ‹decide ((k:Int)<0)=true›) (by decide)|exact absurd (hq1.symm.trans ‹(n.kind !=1)=true›) (by decide)|exact absurd (hq2.symm.trans ‹decide ((o.at':Int)+(o.text.length:Int)>192)=false›) (by decide)|refine QbU 6 (hx:=?_);rw[hd.out];exact⟨g,trivial,rfl,rfl⟩
 rw[if_neg h2] at hd;have hq2:decide ((o.at':Int)+(o.text.length:Int)>192)=false:=decide_eq_false (by omega);have hWc:=QtM (f:=f) hw (n:=n) hng.1 (o:=o) (by omega);have hfc:=Pm.hid (Pl.fchg.eq_def f n o);generalize Pl.fchg f n o=y at*;obtain⟨w2,n2,ok2⟩:=y;simp only at hWc hd;have cP:=ePutF (g+1) (w2,f.2.1,!ok2) (N+269) (by omega) hWc ht k hk n2 (Qdg _);have hWp:=(Qgo (f:=(w2,f.2.1,!ok2)) hWc ht hk n2).1;generalize Pl.fput (w2,f.2.1,!ok2) k n2=f3 at*;have v0:f3.1.rows.length=f.1.rows.length:=by rw[hWp.rows,hw.rows]
 have v1:f3.1.refs.length=f.1.refs.length:=by rw[hWp.refs,hw.refs]
 have v2:f3.1.last.length=f.1.last.length:=by rw[hWp.last,hw.last]
 clear hWp hWc
 by_cases h3:o.kind=3
 ·have hq3:(o.kind==3)=true:=by simpa using h3
  have c6:=Qtc g f.1 N (by omega) hw n hng.1 hng.2 o.at' o.text (by omega);rw[<-(show(w2,n2,ok2)=Pl.Qbw f.1 n o.at' o.text by rw[hfc.out,if_pos h3])] at c6;simp only at c6;refine kH fun gvs=>?_
  refine QbP 6 (h:=?_)
  repeat' first|refine kS ?_|refine qS (QbY (fs:=f) cK c0 hw) ?_|refine qS (QbY (fs:=f) cK c4 hw) ?_|(show AWP _ (.region 11 _ _) _ _;refine(Fk.awp_drawG (id:=11) [0,11,13,14] [10,17,18] [] [] 10 41 (.tup [oS (g+1) w2,.d (dNode n2),.d (dB ok2)]) ?_))|refine(Fk.aw_planC0 (by rfl) (by kernel_rfl) rfl ?_)|refine Fk.aw_callM [0,1,2,3,4] c6 cK (k:=kY ?_)|refine Qcn [0,1,2,3,4,5] cP cK (k:=kX ?_)|refine kU ?_|refine kV ?_ ?_<;>intro q|fail
  all_goals first|exact absurd (hq0.symm.trans ‹decide ((k:Int)<0)=true›) (by decide)|exact absurd (hq1.symm.trans ‹(n.kind !=1)=true›) (by decide)|exact absurd (hq2.symm.trans ‹decide ((o.at':Int)+(o.text.length:Int)>192)=true›) (by decide)|exact absurd (hq3.symm.trans ‹(o.kind==3)=false›) (by decide)|refine QbU 6 (hx:=?_);rw[hd.out];exact⟨_,trivial,rfl,rfl⟩
 have hq3:(o.kind==3)=false:=by simpa using h3
 have c6:=eCut13 g f.1 N (by omega) hw n hng.1 hns hnm o.at' (by omega);rw[<-(show(w2,n2,ok2)=Pl.Qbx f.1 n o.at' by rw[hfc.out,if_neg h3])] at c6;simp only at c6;refine kH fun gvs=>?_
 refine QbP 6 (h:=?_)
 repeat' first|refine kS ?_|refine qS (QbY (fs:=f) cK c0 hw) ?_|refine qS (QbY (fs:=f) cK c4 hw) ?_|(show AWP _ (.region 12 _ _) _ _;refine(Fk.awp_drawG (id:=12) [0,9,11,12] [8,15,16] [] [] 8 56 (.tup [oS (g+1) w2,.d (dNode n2),.d (dB ok2)]) ?_))|refine(Fk.aw_planC0 (by rfl) (by kernel_rfl) rfl ?_)|refine Fk.aw_callM [0,1,2,3,4] c6 cK (k:=kY ?_)|refine Qcn [0,1,2,3,4,5] cP cK (k:=kX ?_)|refine kU ?_|refine kV ?_ ?_<;>intro q|fail
 all_goals first|exact absurd (hq0.symm.trans ‹decide ((k:Int)<0)=true›) (by decide)|exact absurd (hq1.symm.trans ‹(n.kind !=1)=true›) (by decide)|exact absurd (hq2.symm.trans ‹decide ((o.at':Int)+(o.text.length:Int)>192)=true›) (by decide)|exact absurd (hq3.symm.trans ‹(o.kind==3)=true›) (by decide)|refine QbU 6 (hx:=?_);rw[hd.out];exact⟨_,trivial,rfl,rfl⟩

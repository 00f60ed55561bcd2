/- Of fsk_card; no condition. -/
import Derived.Test.YtfmnpmhadmcdkaaGreatDoorS33
set_option linter.all false
set_option maxRecDepth 100000
set_option maxHeartbeats 8000000
open Bool renaming and_eq_true->A0
open Go.Proofs.Tryz renaming prog->A1
open List renaming length_append->A2
namespace Go.Proofs.YtfmnpmhadmcdkaaGreatDoor
noncomputable section
section
open Go.RowKit
namespace Aw
attribute [local irreducible] ASeq ADraw AWP Loc mget mset AStep Fg.PlanF Fg.Flts
def bTable(s:Pm.Store)(cS:Pure A1 33 [dSt s] (dB true))(hg:QP s)(htx:0<=s.2.2.1)(t:Pl.Tree)(ht:Qat s t=true):Pure A1 31 [dSt s,dTree t] (.tup [tNds (Qc s t),dB true]):=by
 have c:=bNodes s hg htx t;rw[ht,if_pos rfl] at c;generalize Qc s t=x at*;clear ht;refine kE ?_;refine Qa 0 (h:=?_);refine Qa 1 (h:=?_)
 repeat refine kA ?_
 all_goals first|exact Qb (hx:=rfl)
def QrM(s:Pm.Store)(t:Pl.Tree)(x:List (List UInt8))(hx:x.length<=16)(c1:Pure A1 31 [dSt s,dTree t] (.tup [tNds x,dB true]))(k:Int):Pure A1 10 [dSt s,dTree t,dI k] (.tup [dNode (Qco x k).1,dB (Qco x k).2]):=by
 have c2:=bNodeAt x k (by omega);generalize Qco x k=r at*;obtain⟨⟨kd,links,size,⟨⟨p1,p2,p3,p4,p5⟩,depth,many⟩⟩,b⟩:=r;refine kD ?_;refine Qa 0 (h:=?_);refine Qa 1 (h:=?_)
 repeat refine kA ?_
 (refine Qa 2 (h:=?_);refine QR (hx:=?_))
 rfl
def Qrb{x:List UInt8}{n:Int}(h:(Qa1 x n).2=true):((Qa1 x n).1.length:Int)=n:=by
 unfold Qa1 at*;split at h
 ·rename_i hc
  rw[if_pos hc];unfold Pl.inR at hc;simp only[A0,decide_eq_true_eq] at hc;rw[A2,List.length_replicate];omega
 ·cases h
def Qle{n:Qj}(h:Q8 n=true)(hk:n.kind=1)(h0:0<=n.size){x:List (List UInt8)}: ∀{m:Nat},(m:Int)<=n.tree.many->(∀k,k<m->Qaz n.size k (x.getD k [])=true)->
 (m:Int)*12<=n.size/\((QaJ n.size x m).length:Int)=m*12∨n.size<=m*12/\((QaJ n.size x m).length:Int)=n.size
 |0,_,_=> .inl ⟨by omega,rfl⟩
 |m+1,hm,hp=>by
  have hb:=(QeJ h hk (k:=m) (by omega)).1;have hf:=hp m (by omega);unfold Qaz at hf;simp only[A0] at hf;have hl:=Qrb hf.1;have hz:=Qhi hb;unfold Qa6 at hz;have hi:=Qle h hk h0 (m:=m) (by omega) fun k hk=>hp k (by omega)
  rw[Qfr,A2];rcases hi with hi|hi
  ·split at hz<;>omega
  ·omega
def QoR{s:Pm.Store}{n:Qj}(h:QO s n=true):((Qad s n).length:Int)=n.size:=by
 have hf:=h;unfold QO at hf;simp only[A0,beq_iff_eq] at hf;obtain⟨⟨⟨hn,hk⟩,ht⟩,_⟩:=hf;have hp:=Qf3 (s:=s) hn hk;rw[h] at hp;have hp:=hp.symm;simp only[A0,List.all_eq_true] at hp;have hl:=(Qd9 ht).1;have hs:=hn;unfold Q8 at hs;simp only[A0,beq_iff_eq,decide_eq_true_eq] at hs;obtain⟨⟨⟨⟨⟨h1,h2⟩,_⟩,_⟩,_⟩,_⟩:=hs;have he:QaV n.kind=12:=by rw[hk];rfl
 unfold Qac at h1 h2;rw[he] at h1 h2;simp only[show ¬((12:Int)=0) by decide,if_false] at h1 h2;unfold Qad;rw[if_pos h];split at h1
 ·rename_i hi
  rw[if_pos hi] at h2;simp[Pl.inR] at hi;have:=Qle hn hk (by omega) (x:=(QD s n.tree).1.map fun p=>(Qf s.1 p).1) (m:=(QD s n.tree).1.length) (by omega) fun k hk=>hp.2 k (List.mem_range.2 hk)
  omega
 ·omega
end Aw
end
section
open Go.RowKit
namespace Aw
open Pm (Rep)
def Pure.at{f:FuncId}{args:List D}{x:D}(h:Pure A1 f args x){w:World}(hL:Pm.Lt w)(cargs:List Value)(hl:args.length=cargs.length)(hr: ∀(i:Nat) d v,args[i]? =some d->cargs[i]? =some v->RelD (fun b=>b<w.heap.size) w d v):
 Calls A1 f cargs.toArray w fun e w'=> ∃v,e= .returned v/\Below w.heap.size w w'/\RelD (fun b=>b<w'.heap.size) w' x v:=by
 have hS:Sm ⟨w,nG,fun _=>False,fun b=>b<w.heap.size⟩ (fun _=>none) (fun b=>b<w.heap.size) [] w:=
  ⟨rfl,rfl,rfl,Nat.le_refl _,fun _ _ _=>rfl,fun _ h=>h,fun b hb=>⟨hb,.inl hb⟩,fun k b hk=>by simp at hk,fun k k' b hk=>by simp at hk,fun k C hC=>by simp at hC⟩
 refine(h ⟨w,nG,fun _=>False,fun b=>b<w.heap.size⟩ (fun _=>none) (fun b=>b<w.heap.size) [] w cargs ⟨rfl,fun _ hb=>hb.elim,hL⟩ hS hl hr).mono fun e w' ⟨v,h1,h2,h3⟩=>⟨v,h1,h2,h3.mono (fun b hb=>?_) fun _ _=>rfl⟩
 have:=h2.size;omega

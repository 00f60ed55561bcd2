/- Of parts_card; no condition. -/
import Derived.Test.YtilenknaajikpaaGreatDoorP28
set_option linter.all false
open Bool renaming and_eq_true->A1
open Int renaming toNat_natCast->A0
open List renaming all_eq_true->A2
open Option.some renaming inj->A3
namespace Go.Proofs.YtilenknaajikpaaGreatDoor
noncomputable section
open Go.RowKit
namespace Aw
variable{k:Nat}{L:List Gr.It}{x:List (List UInt8)}
def Qb9(size:Int)(k:Nat)(x:List UInt8):Bool:=(QbP x (QbI size k)).2&& !(([0]:List UInt8).isSuffixOf x)
def Qjr{n:Qi}(h:QL n=true)(hk:n.kind=1)(hm:(k:Int)<n.tree.many):(k:Int)*12<n.size/\n.size<=192:=by
 unfold QL at h;simp only[A1,beq_iff_eq,decide_eq_true_eq] at h;obtain⟨⟨⟨⟨⟨h1,h2⟩,_⟩,_⟩,_⟩,_⟩:=h;have he:QaY n.kind=12:=by rw[hk];rfl
 unfold Qak at h1 h2;rw[he] at h1 h2;simp only[show ¬((12:Int)=0) by decide,if_false] at h1 h2;split at h1
 ·rename_i hs
  rw[if_pos hs] at h2;simp[Pl.inR] at hs;omega
 ·omega
theorem Qrs{n:Qi}(h:QL n=true)(hk:n.kind=1)(hm:(k:Int)<n.tree.many)(l:List (List UInt8)):Qb9 n.size k (l.getD k [])=QaQ n.size l k:=by
 obtain⟨h1,h2⟩:=Qjr h hk hm;unfold Qb9 QaQ QbP;rw[Qp4 h1,QmV,Bool.not_not]
 congr 1
 have hb:Pl.inR (Qbe n.size k) 0 12=true:=by
  unfold Pl.inR Qbe;simp only[A1,decide_eq_true_eq];omega
 grind
def QkY{s:Pm.Store}{n:Qi}(h:QL n=true)(hk:n.kind=1):
 Qa0 s n=(Q8 s n.tree&&(List.range (QV s n.tree).1.length).all fun k=>Qb9 n.size k (((QV s n.tree).1.map fun p=>(Qj s.1 p).1).getD k [])):=by
 unfold Qa0;rw[h,hk];cases ht:Q8 s n.tree
 ·simp
 ·have hl:=QeW ht
  rw[QfM ht,hl.1];simp only[BEq.rfl,Bool.true_and];have hg:=Qdu ht;rw[Bool.eq_iff_iff,A2,A2];refine forall_congr' fun k=>?_
  refine imp_congr_right fun hkm=>?_
  rw[List.mem_range] at hkm;rw[Qrs h hk (by omega)]
abbrev QcD(s:Pm.Store)(x:List (List UInt8)):List Gr.It->List Gr.It->Prop:=Gr.FP (Qo (Qm x)) (QaL (Qm x) (Qf s))
def Qvd{s:Pm.Store}{p:List (List UInt8)}(h:QcD s x [(p,k)] L):
 ∃L1,L=(p,k)::L1/\QcD s x ((Qav s x (k:Nat)).map fun e=>(p++[e.1],e.2.toNat)) L1/\Qo (Qm x) k≠0:=by
 cases h with
 |file hk h=>
  cases h;refine⟨[],rfl,?_,by omega⟩
  have:Qav s x (k:Nat)=[]:=by
   unfold Qav;rw[A0];rcases Qd0 s ((Qm x).getD k Qd) with h2|h2
   ·have:=QeD h2.1
    exfalso;unfold Qo at hk;rw[this] at hk;cases hk
   ·rw[h2]
  rw[this];exact .nil
 |dir hk hc h1 h2=>
  cases h2;refine⟨_,by rw[List.append_nil],?_,by omega⟩;unfold QaL at hc;split at hc
  ·obtain rfl:=A3 hc
   unfold Qav;rw[A0];unfold Gr.kids at h1;rw[List.map_map] at h1;exact h1
  ·cases hc
def fp_cons{s:Pm.Store}{y:Gr.It}{r:List Gr.It}(h:QcD s x (y::r) L): ∃M R,L=M++R/\QcD s x [y] M/\QcD s x r R:=by
 obtain⟨La,Lb,h1,h2,h3⟩:=Gr.FP.split (a:=[y]) h;exact⟨La,Lb,h1,h2,h3⟩

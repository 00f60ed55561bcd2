/- Of ftw_card; no condition. -/
import Derived.Test.YthbonbflkdonkaaGreatDoorP32
set_option linter.all false
open Bool renaming and_eq_true->A0
open List renaming all_eq_true->A1
namespace Go.Proofs.YthbonbflkdonkaaGreatDoor
noncomputable section
open Go.RowKit
namespace Aw
def Qb8(size:Int)(k:Nat)(x:List UInt8):Bool:=(Qbi x (QaY size k)).2&& !(([0]:List UInt8).isSuffixOf x)
theorem QgD{n:Qk}(h:QF n=true)(hk:n.kind=1){k:Nat}(hm:(k:Int)<n.tree.many):(k:Int)*12<n.size/\n.size<=192:=by
 unfold QF at h;simp only[A0,beq_iff_eq,decide_eq_true_eq] at h;obtain⟨⟨⟨⟨⟨h1,h2⟩,_⟩,_⟩,_⟩,_⟩:=h;have he:Qbj n.kind=12:=by rw[hk];rfl
 unfold Qag at h1 h2;rw[he] at h1 h2;simp only[show ¬((12:Int)=0) by decide,if_false] at h1 h2;split at h1
 ·rename_i hs
  rw[if_pos hs] at h2;simp[Pl.inR] at hs;omega
 ·omega
theorem QqH{n:Qk}(h:QF n=true)(hk:n.kind=1){k:Nat}(hm:(k:Int)<n.tree.many)(l:List (List UInt8)):Qb8 n.size k (l.getD k [])=Qa9 n.size l k:=by
 obtain⟨h1,h2⟩:=QgD h hk hm;unfold Qb8 Qa9 Qbi;rw[Qj3 h1,Qmz,Bool.not_not]
 congr 1
 have hb:Pl.inR (QaA n.size k) 0 12=true:=by
  unfold Pl.inR QaA;simp only[A0,decide_eq_true_eq];omega
 grind
def Qk9{s:Pm.Store}{n:Qk}(h:QF n=true)(hk:n.kind=1):
 Qac s n=(QL s n.tree&&(List.range (QX s n.tree).1.length).all fun k=>Qb8 n.size k (((QX s n.tree).1.map fun p=>(Qi s.1 p).1).getD k [])):=by
 unfold Qac;rw[h,hk];cases ht:QL s n.tree
 ·simp
 ·have hl:=QeJ ht
  rw[Qe5 ht,hl.1];simp only[BEq.rfl,Bool.true_and];have hg:=Qdx ht;rw[Bool.eq_iff_iff,A1,A1];refine forall_congr' fun k=>?_
  refine imp_congr_right fun hkm=>?_
  rw[List.mem_range] at hkm;rw[QqH h hk (by omega)]

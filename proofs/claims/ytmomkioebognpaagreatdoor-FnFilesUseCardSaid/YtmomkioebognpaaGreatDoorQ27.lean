/- Of fuse_card; no condition. -/
import Derived.Test.YtmomkioebognpaaGreatDoorQ26
set_option linter.all false
open Bool renaming and_eq_true->A0
open List renaming all_eq_true->A1
namespace Go.Proofs.YtmomkioebognpaaGreatDoor
noncomputable section
open Go.RowKit
namespace Aw
def Pl.Qbn(size:Int)(k:Nat)(x:List UInt8):Bool:=(Pl.fill x (Pl.Qb5 size k)).2&& !(([0]:List UInt8).isSuffixOf x)
def Qio{n:Pl.Node}(h:Pl.Qar n=true)(hk:n.kind=1){k:Nat}(hm:(k:Int)<n.tree.many):(k:Int)*12<n.size/\n.size<=192:=by
 unfold Pl.Qar at h;simp only[A0,beq_iff_eq,decide_eq_true_eq] at h;obtain⟨⟨⟨⟨⟨h1,h2⟩,_⟩,_⟩,_⟩,_⟩:=h;have he:Pl.each n.kind=12:=by rw[hk];rfl
 unfold Pl.Qa3 at h1 h2;rw[he] at h1 h2;simp only[show ¬((12:Int)=0) by decide,if_false] at h1 h2;split at h1
 ·rename_i hs
  rw[if_pos hs] at h2;simp[Pl.inR] at hs;omega
 ·omega
theorem Qqd{n:Pl.Node}(h:Pl.Qar n=true)(hk:n.kind=1){k:Nat}(hm:(k:Int)<n.tree.many)(l:List (List UInt8)):Pl.Qbn n.size k (l.getD k [])=Pl.QaP n.size l k:=by
 obtain⟨h1,h2⟩:=Qio h hk hm;unfold Pl.Qbn Pl.QaP Pl.fill;rw[Qo4 h1,QlV,Bool.not_not]
 congr 1
 have hb:Pl.inR (Pl.long n.size k) 0 12=true:=by
  unfold Pl.inR Pl.long;simp only[A0,decide_eq_true_eq];omega
 grind
def QjX{s:Pm.Store}{n:Pl.Node}(h:Pl.Qar n=true)(hk:n.kind=1):
 Pl.QaE s n=(Pl.Qai s n.tree&&(List.range (Pl.Qao s n.tree).1.length).all fun k=>Pl.Qbn n.size k (((Pl.Qao s n.tree).1.map fun p=>(Pl.rd s.1 p).1).getD k [])):=by
 unfold Pl.QaE;rw[h,hk];cases ht:Pl.Qai s n.tree
 ·simp
 ·have hl:=QdU ht
  rw[QeJ ht,hl.1];simp only[BEq.rfl,Bool.true_and];have hg:=Qcf ht;rw[Bool.eq_iff_iff,A1,A1];refine forall_congr' fun k=>?_
  refine imp_congr_right fun hkm=>?_
  rw[List.mem_range] at hkm;rw[Qqd h hk (by omega)]

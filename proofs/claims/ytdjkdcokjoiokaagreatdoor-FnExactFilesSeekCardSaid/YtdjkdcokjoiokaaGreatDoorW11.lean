/- Part 11 of seek_card: contracts, walks, laws; no condition beyond the statement's. -/
import Derived.Test.YtdjkdcokjoiokaaGreatDoorW03
set_option linter.all false
namespace Go.Proofs.YtdjkdcokjoiokaaGreatDoor
open Go.RowKit
namespace Pm
abbrev Ptr := Pl.Ptr
abbrev Tree := Pl.Tree
abbrev Space := List Int × List Int
abbrev Store := List Str × Space × Int × List Ptr × Int × List Ptr × Bool
instance instSpaceEq : DecidableEq Space := instDecidableEqProd
instance instStEq0 : DecidableEq (List Ptr × Bool) := instDecidableEqProd
instance instStEq1 : DecidableEq (Int × List Ptr × Bool) := instDecidableEqProd
instance instStEq2 : DecidableEq (List Ptr × Int × List Ptr × Bool) := instDecidableEqProd
instance instStEq3 : DecidableEq (Int × List Ptr × Int × List Ptr × Bool) := instDecidableEqProd
instance instStEq4 : DecidableEq (Space × Int × List Ptr × Int × List Ptr × Bool) := instDecidableEqProd
instance instStEq5 : DecidableEq (List Str × Space × Int × List Ptr × Int × List Ptr × Bool) := instDecidableEqProd
instance instStoreEq : DecidableEq Store := instStEq5
def PtrIn (p : Ptr) : Prop := InI p.pat /\ InI p.birth /\ InI p.size /\ InI p.sum /\ InI p.level
def TreeIn (t : Tree) : Prop := PtrIn t.root /\ InI t.depth /\ InI t.many
def ptrL (p : Ptr) : List Value := [.int .i64 p.pat, .int .i64 p.birth, .int .i64 p.size, .int .i64 p.sum, .int .i64 p.level]
def treeL (t : Tree) : List Value := [.int .i64 t.root.pat, .int .i64 t.root.birth, .int .i64 t.root.size, .int .i64 t.root.sum, .int .i64 t.root.level, .int .i64 t.depth, .int .i64 t.many]
instance instRepPtr : Rep Pl.Ptr where
 size := 5
 cells _ _ cs p := cs = ptrL p /\ PtrIn p
 len h := by rw [h.1]; rfl
 keep h _ _ := h
instance instRepTree : Rep Pl.Tree where
 size := 7
 cells _ _ cs t := cs = treeL t /\ TreeIn t
 len h := by rw [h.1]; rfl
 keep h _ _ := h
instance instOwPtr : Ow Pl.Ptr where
 own _ cs p fp := (cs = ptrL p /\ PtrIn p) /\ fp = []
 olen h := by rw [h.1.1]; rfl
 frame h _ := h
 reads h _ := h.1
 lt h := by rw [h.2]; simp
theorem Qha {w : World} {B : Nat} {cs : List Value} {p : Ptr} (h : Rep.cells w B cs p) : cs = [.int .i64 p.pat, .int .i64 p.birth, .int .i64 p.size, .int .i64 p.sum, .int .i64 p.level] /\ PtrIn p := h
theorem Qj9 {w : World} {B : Nat} {cs : List Value} {t : Tree} (h : Rep.cells w B cs t) : cs = treeL t /\ TreeIn t := h
structure StAt (w : World) (B : Nat) (s : Store) (A1 A2 A3 A4 A5 : Option Addr) : Prop where
 l1 : s.1.length <= big
 a1 : At w B A1 s.1
 l2 : s.2.1.1.length <= big
 a2 : At w B A2 s.2.1.1
 l3 : s.2.1.2.length <= big
 a3 : At w B A3 s.2.1.2
 i1 : InI s.2.2.1
 l4 : s.2.2.2.1.length <= big
 a4 : At w B A4 s.2.2.2.1
 i2 : InI s.2.2.2.2.1
 l5 : s.2.2.2.2.2.1.length <= big
 a5 : At w B A5 s.2.2.2.2.2.1
def stV (s : Store) (A1 A2 A3 A4 A5 : Option Addr) (c1 c2 c3 c4 c5 : Nat) : Array Value :=
 #[.slice A1 s.1.length c1, .slice A2 s.2.1.1.length c2, .slice A3 s.2.1.2.length c3, .int .i64 s.2.2.1, .slice A4 s.2.2.2.1.length c4, .int .i64 s.2.2.2.2.1, .slice A5 s.2.2.2.2.2.1.length c5, .bool s.2.2.2.2.2.2]
theorem QhS {w : World} {B : Nat} {cs : List Value} {s : Store} (h : Rep.cells w B cs s) : ∃ A1 A2 A3 A4 A5 c1 c2 c3 c4 c5, cs = (stV s A1 A2 A3 A4 A5 c1 c2 c3 c4 c5).toList /\ StAt w B s A1 A2 A3 A4 A5 := by
 obtain ⟨x1, y1, rfl, ⟨A1, c1, rfl, l1, a1⟩, x2, y2, rfl, ⟨x2a, x2b, rfl, ⟨A2, c2, rfl, l2, a2⟩, A3, c3, rfl, l3, a3⟩, x3, y3, rfl, ⟨rfl, i1⟩, x4, y4, rfl, ⟨A4, c4, rfl, l4, a4⟩, x5, y5, rfl, ⟨rfl, i2⟩, x6, y6, rfl, ⟨A5, c5, rfl, l5, a5⟩, rfl⟩ := h;exact ⟨A1, A2, A3, A4, A5, c1, c2, c3, c4, c5, rfl, l1, a1, l2, a2, l3, a3, i1, l4, a4, i2, l5, a5⟩
def wtSpace (s : Space) : Nat := s.1.length + s.2.length
def wtStore (s : Store) : Nat := wtL wtS s.1 + wtSpace s.2.1 + s.2.2.2.1.length + s.2.2.2.2.2.1.length
end Pm
end Go.Proofs.YtdjkdcokjoiokaaGreatDoor

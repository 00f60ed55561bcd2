/- Part 39 of the proof of use_card: contracts, walks, plain laws; no condition is assumed beyond those that a statement names. -/
import Derived.Test.YtdjkdcokjoiokaaGreatDoorU37
import Derived.Test.YtdjkdcokjoiokaaGreatDoorU38
set_option linter.all false
set_option maxRecDepth 100000
set_option maxHeartbeats 16000000
namespace Go.Proofs.YtdjkdcokjoiokaaGreatDoor
open Go.RowKit
namespace Aw
open Pm (Rep)
structure StB (s : Pm.Store) (n : Nat) : Prop where
 l1 : s.1.length <= n
 l2 : s.2.1.1.length <= n
 l3 : s.2.1.2.length <= n
 l4 : s.2.2.2.1.length <= n
 l5 : s.2.2.2.2.2.1.length <= n
 x1 : ∀ x ∈ s.1, x.length <= Pm.big
 x2 : ∀ x ∈ s.2.1.1, Pm.InI x
 x3 : ∀ x ∈ s.2.1.2, Pm.InI x
 x4 : ∀ x ∈ s.2.2.2.1, Pm.PtrIn x
 x5 : ∀ x ∈ s.2.2.2.2.2.1, Pm.PtrIn x
 i1 : Pm.InI s.2.2.1
 i2 : Pm.InI s.2.2.2.2.1
theorem StB.less {s : Pm.Store} {n m : Nat} (h : StB s n) (h1 : s.1.length <= m) (h2 : s.2.1.1.length <= m) (h3 : s.2.1.2.length <= m) (h4 : s.2.2.2.1.length <= m) (h5 : s.2.2.2.2.2.1.length <= m) : StB s m :=
 ⟨h1, h2, h3, h4, h5, h.x1, h.x2, h.x3, h.x4, h.x5, h.i1, h.i2⟩
theorem Qi3 {α : Type} [Rep α] {w : World} {N : Nat} {A : Option Addr} {l : List α} (h : Pm.At w N A l) : ∀ x ∈ l, ∃ cs, Rep.cells w N cs x := by
 intro x hx;obtain ⟨i, hi⟩ := List.getElem?_of_mem hx;obtain ⟨b, off, _, _, hc⟩ := h (List.length_pos_of_mem hx);obtain ⟨cs, h1, _⟩ := hc i x hi;exact ⟨cs, h1⟩
theorem QlC {w : World} {N : Nat} {s : Pm.Store} {A1 A2 A3 A4 A5 : Option Addr} (h : Pm.StAt w N s A1 A2 A3 A4 A5) : StB s Pm.big :=
 ⟨h.l1, h.l2, h.l3, h.l4, h.l5, fun x hx => by obtain ⟨cs, h1⟩ := Qi3 h.a1 x hx; exact (Pm.QcM h1).2, fun x hx => by obtain ⟨cs, h1⟩ := Qi3 h.a2 x hx; exact (Pm.QdH h1).2,
   fun x hx => by obtain ⟨cs, h1⟩ := Qi3 h.a3 x hx; exact (Pm.QdH h1).2, fun x hx => by obtain ⟨cs, h1⟩ := Qi3 h.a4 x hx; exact (Pm.QhK h1).2, fun x hx => by obtain ⟨cs, h1⟩ := Qi3 h.a5 x hx; exact (Pm.QhK h1).2, h.i1, h.i2⟩
theorem Qot (s : Pm.Store) (hb : StB s 1048576) : Pure Tryz.prog 18 [dSt s] (dSt s) := (Qng s hb.l1 hb.l2 hb.l3 hb.l4 hb.l5).res
theorem Qov (s : Pm.Store) (hb : StB s Pm.big) (q : Int) (h0 : 0 <= q) (h1 : q <= Pm.lim) : Pure Tryz.prog 16 [dSt s, dI q] (dI (Pm.less q (Pm.wtStore s))) := Qnh s hb.l1 hb.x1 hb.l2 hb.l3 hb.l4 hb.l5 q (by omega) h1
theorem Qo2 (s t : Pm.Store) (hs : StB s Pm.big) : Pure Tryz.prog 21 [dSt s, dSt t] (dB (decide (s = t))) := Qnj s t hs.l1 hs.l2 hs.l3 hs.l4 hs.l5
theorem QlB {s : Pm.Store} (hb : StB s Pm.big) (h : Pm.wtStore s <= 1048576) : StB s 1048576 /\ Pl.Lens s := by
 unfold Pm.wtStore Pm.wtSpace Pm.wtL at h;exact ⟨hb.less (by omega) (by omega) (by omega) (by omega) (by omega), by unfold Pm.big; omega, by unfold Pm.big; omega, by omega, by omega⟩
end Aw
end Go.Proofs.YtdjkdcokjoiokaaGreatDoor
namespace Go.Proofs.YtdjkdcokjoiokaaGreatDoor
open Go.RowKit
namespace Aw
attribute [local irreducible] ASeq ADraw AWP Loc mget mset AStep Fg.PlanF Fg.Flts
def Pl.ab (l : List Pl.Ptr) : List Blk := [.row 0 [.osl 1 l.length 0 l.length], .arr l.length 5 54 (l.map rPtr)]
def Pl.ag (l : List Pl.Ptr) : List AV := [.ptr 0 0 0, .osl 1 l.length 0 l.length]
theorem Qnf (l m : List Pl.Ptr) : ∀ i C, (Pl.ab l)[i]? = some C -> ∃ C', (Pl.ab (l ++ m))[i]? = some C' /\ pin1 (Pl.ag l) i C C' := by
 intro i C hC
 match i, hC with
 |0, hC => obtain rfl := Option.some.inj hC; exact ⟨_, rfl, .inr ⟨rfl, 0, by simp [Pl.ag]⟩⟩
 |1, hC =>
  obtain rfl := Option.some.inj hC;refine ⟨_, rfl, rfl, rfl, ?_⟩;rcases m with _ | ⟨x, m⟩
  ·exact .inr ⟨by simp, by simp, 0, l.length, by simp [Pl.ag]⟩
  ·exact .inl (by simp)
theorem Qne (l : List Pl.Ptr) (N : Nat) (Lx : List AV) (Hr : List Blk) (g : AV) (hg : g ∈ Pl.ag l) (ha : AV.ptr 0 0 0 ∈ Lx) : g.ren (rho [0, 1] N) ∈ Lx ++ (Pl.ab l ++ Hr).flatMap Blk.parts := by
 simp only [Pl.ag, List.mem_cons, List.not_mem_nil, or_false] at hg;rcases hg with rfl | rfl
 ·exact List.mem_append_left _ ha
 ·exact List.mem_append_right _ (by simp [Pl.ab, Blk.parts, AV.parts, AV.ren, rho])
theorem Qi1 (l : List Pl.Ptr) (hl : l.length <= 1000) (p : Pl.Ptr) : Does Tryz.prog 126 [.d (dPtr p), .ptr 0 0 0] (Pl.ab l) (Pl.ag l) (.tup []) (Pl.ab (l ++ [p])) := by
 refine Qca Tryz.func126 rfl Tryz.ntmps126 Tryz.results126 rfl rfl ?hpin (fun gvs => ?_)
 case hpin => exact Qnf l [p]
 simp only [parA, gslot, Nat.zero_add, Nat.reduceAdd, Pl.ab, Pl.ag];rw [List.length_append, List.length_singleton, List.map_append, List.map_cons, List.map_nil];refine Qd3 ?_
 (refine Qbt (Qbq ?_); (repeat (first | refine e2 (k := ?_) | fail)); refine Qbr ?_)
 refine Qbu 2 (h := ?_)
 (repeat' (first | refine e1 (k := ?_) | refine Qcf Ty.h rfl Ty.h (hb := ?_) (kk := ?_) | refine stepS2 (QbD Ty.h rfl Ty.h) (k := ?_) | refine QbA (kk := ?_) | refine QbF ?_ | refine Qbq ?_ | fail))
 all_goals first
  |(show ((l.map rPtr).length + 1) * 40 <= 140737488355328
    rw [List.length_map]; omega)
  |exact Qd4 2 .normal (.inl rfl) rfl rfl rfl rfl rfl rfl rfl
  |(rw [List.length_map]
    exact Qd4 2 .normal (.inl rfl) rfl rfl rfl rfl rfl rfl rfl)
theorem bWalkP (s : Pm.Store) (hg : Pl.Good s) : ∀ (n : Nat) (p : Pl.Ptr) (l : List Pl.Ptr), Pl.Sub s n p -> l.length + (Pl.allP s n p).length <= 1000 -> n <= 10 ->
 Does Tryz.prog 125 [.d (.pd (rSt s)), .d (dPtr p), .d (dI n), .fn (.func 126) [.ptr 0 0 0]] (Pl.ab l) (Pl.ag l) (.tup []) (Pl.ab (l ++ Pl.allP s n p)) := by
 intro n;induction n with
 |zero =>
  intro p l hs hlen _;have ch := Qc3 p;have hmem := fun (l : List Pl.Ptr) (N : Nat) => Qne l N
  have hpin := Qnf l (Pl.allP s 0 p);cases hh : Pl.ptrHole p;rotate_left
  ·rw [QdT s _ hh] at hpin ⊢
   rw [hh] at ch;rw [List.append_nil] at hpin ⊢;refine Qca Tryz.func125 rfl Tryz.ntmps125 Tryz.results125 rfl rfl ?hpin (fun gvs => ?_)
   case hpin => exact hpin
   simp only [parA, gslot, Nat.zero_add, Nat.reduceAdd, Pl.ab, Pl.ag];refine Qd3 ?_
   (refine Qbt (Qbq ?_); (repeat (first | refine e2 (k := ?_) | fail)); refine Qbr ?_)
   refine Qbu 2 (h := ?_)
   (repeat' (first | refine e1 (k := ?_) | refine stepS (Qbs Tryz.call199 ch rfl) (k := ?_) | refine Qbr ?_ | refine Qbt ?_ | refine Qbq ?_ | refine Qbz (ht := ?_) | fail))
   all_goals first
    |(refine Qgf ?_
      exact Qd4 2 .ret (.inr rfl) rfl rfl rfl rfl rfl rfl rfl)
  ·have e : Pl.allP s 0 p = [p] := by unfold Pl.allP; rw [if_neg (by simp [hh])]
   rw [e] at hpin hlen ⊢;rw [hh] at ch;have dv := Qi1 l (by simp at hlen; omega) p;refine Qca Tryz.func125 rfl Tryz.ntmps125 Tryz.results125 rfl rfl ?hpin (fun gvs => ?_)
   case hpin => exact hpin
   simp only [parA, gslot, Nat.zero_add, Nat.reduceAdd];generalize l ++ [p] = l1 at *
   clear hpin hlen e hh hs;refine Qd3 ?_;simp only [Pl.ab, Pl.ag] at dv ⊢
   (refine Qbt (Qbq ?_); (repeat (first | refine e2 (k := ?_) | fail)); refine Qbr ?_)
   refine Qbu 2 (h := ?_)
   (repeat' (first | refine e1 (k := ?_) | refine stepS (Qbs Tryz.call199 ch rfl) (k := ?_) | refine (QdS [0, 1] dv Tryz.call126 (hgl := fun g hg => hmem _ _ _ [_] g hg (by simp [AV.parts, go_sem])) (k := ?_)) | refine Qbr ?_ | refine Qbt ?_ | refine Qbq ?_ | refine Qb1 (hf := ?_) | refine Qby ?_ | fail))
   all_goals first
    |exact Qd4 2 .normal (.inl rfl) rfl rfl rfl rfl rfl rfl rfl
 |succ n ih =>
  intro p l hs hlen hn;have ch := Qc3 p;have hmem := fun (l : List Pl.Ptr) (N : Nat) => Qne l N
  have hpin := Qnf l (Pl.allP s (n + 1) p);cases hh : Pl.ptrHole p;rotate_left
  ·rw [QdT s _ hh] at hpin ⊢
   rw [hh] at ch;rw [List.append_nil] at hpin ⊢;refine Qca Tryz.func125 rfl Tryz.ntmps125 Tryz.results125 rfl rfl ?hpin (fun gvs => ?_)
   case hpin => exact hpin
   simp only [parA, gslot, Nat.zero_add, Nat.reduceAdd, Pl.ab, Pl.ag];refine Qd3 ?_
   (refine Qbt (Qbq ?_); (repeat (first | refine e2 (k := ?_) | fail)); refine Qbr ?_)
   refine Qbu 2 (h := ?_)
   (repeat' (first | refine e1 (k := ?_) | refine stepS (Qbs Tryz.call199 ch rfl) (k := ?_) | refine Qbr ?_ | refine Qbt ?_ | refine Qbq ?_ | refine Qbz (ht := ?_) | fail))
   all_goals first
    |(refine Qgf ?_
      exact Qd4 2 .ret (.inr rfl) rfl rfl rfl rfl rfl rfl rfl)
  ·rcases hs with hs | ⟨hok, _, hbi, hbo, hsub⟩
   ·rw [hh] at hs; cases hs
   have e : Pl.allP s (n + 1) p = p :: (Pl.Qak s p (n + 1 : Nat)).1.flatMap (Pl.allP s n) := by
    show (if Pl.ptrHole p then [] else p :: (Pl.Qak s p (n + 1 : Nat)).1.flatMap (Pl.allP s n)) = _;rw [if_neg (by simp [hh])]
   have cf := bFanOf s hg p (fun _ => hok) (n + 1 : Nat);rw [(QfT hok hbi).2 hbo, hbo] at cf;have hfl := Qdj s p (n + 1 : Nat);generalize (Pl.Qak s p (n + 1 : Nat)).1 = fan at *
   rw [e] at hpin hlen ⊢;rw [hh] at ch;simp only [List.length_cons] at hlen;have dv := Qi1 l (by omega) p;have hsub := Pm.hid hsub
   have hb : ∀ j, ((fan.take j).flatMap (Pl.allP s n)).length <= (fan.flatMap (Pl.allP s n)).length := fun j => by
    conv => rhs; rw [<- List.take_append_drop j fan, List.flatMap_append, List.length_append]
    omega
   replace hb := Pm.hid hb
   refine Qca Tryz.func125 rfl Tryz.ntmps125 Tryz.results125 rfl rfl ?hpin (fun gvs => ?_)
   case hpin => exact hpin
   simp only [parA, gslot, Nat.zero_add, Nat.reduceAdd];have hl1 : (l ++ [p]).length = l.length + 1 := by simp
   have hres : Hid (l ++ p :: fan.flatMap (Pl.allP s n) = (l ++ [p]) ++ fan.flatMap (Pl.allP s n)) := Pm.hid (by simp);rw [hres.out];generalize l ++ [p] = l1 at *
   clear hpin e hh hres hok hbi hbo;refine Qd3 ?_;simp only [Pl.ab, Pl.ag] at dv ⊢
   (refine Qbt (Qbq ?_); (repeat (first | refine e2 (k := ?_) | fail)); refine Qbr ?_)
   refine Qbu 2 (h := ?_);have hpos : decide (((n + 1 : Nat) : Int) > 0) = true := by simp
   (repeat' (first | refine e1 (k := ?_) | refine stepS (Qbs Tryz.call199 ch rfl) (k := ?_) | refine (QdS [0, 1] dv Tryz.call126 (hgl := fun g hg => hmem _ _ _ [_] g hg (by simp [AV.parts, go_sem])) (k := ?_)) | refine stepS (Qbs Tryz.call200 cf rfl) (k := ?_) | refine Qbr ?_ | refine Qbt ?_ | refine Qbq ?_ | refine Qb1 (hf := ?_) | refine Qb2 (ht := fun q => ?_) (hf := fun q => ?_) | refine Qby ?_ | refine Qbx ?_ | fail))
   rotate_left
   ·exfalso; rw [hpos] at q; cases q
   clear hpos dv cf ch;have hlv : ((n + 1 : Nat) : Int) - 1 = (n : Nat) := by omega
   refine QbC (fun mm st => ∃ j : Nat, j <= fan.length /\ mm = fan.length - j /\
    st = ⟨39, [(26, .d (tPtrs fan)), (27, .d (dI fan.length)), (28, .d (dI j)), (0, .d (.pd (rSt s))), (2, .d (dI (n + 1 : Nat))), (3, .fn (.func 126) [.ptr 0 0 0]), (1000000, .gh [.ptr 0 0 0, .osl 1 l.length 0 l.length] gvs)],
     [.row 0 [.osl 1 (l1 ++ (fan.take j).flatMap (Pl.allP s n)).length 0 (l1 ++ (fan.take j).flatMap (Pl.allP s n)).length], .arr (l1 ++ (fan.take j).flatMap (Pl.allP s n)).length 5 54 ((l1 ++ (fan.take j).flatMap (Pl.allP s n)).map rPtr)]⟩)
    [26, 27, 28, 0, 2, 3, 1000000] 2 fan.length ⟨0, by omega, rfl, by simp [keepE, go_sem]⟩ (round := ?_)
   rintro mm st ⟨j, hj, rfl, rfl⟩
   (repeat (first | refine e1 (k := ?_) | refine Qbr ?_ | refine Qbt ?_ | refine Qbq ?_ | fail))
   cases q3 : decide ((j : Int) < (fan.length : Int))
   ·have hjf : j = fan.length := by simp at q3; omega
    rw [hjf, List.take_length]
    (repeat' (first | refine Qb1 (hf := ?_) | refine Qb3 ?_ | refine Qlw ?_ | refine QiB ?_ | fail))
    exact Qd4 2 .normal (.inl rfl) rfl rfl rfl rfl rfl rfl rfl
   have hj2 : j < fan.length := by simp at q3; omega
   obtain ⟨x, hx⟩ : ∃ x, fan[j]? = some x := ⟨_, List.getElem?_eq_getElem hj2⟩;have hr := QbB (f := rPtr) hx;have htk : Hid ((fan.take (j + 1)).flatMap (Pl.allP s n) = (fan.take j).flatMap (Pl.allP s n) ++ Pl.allP s n x) := Pm.hid (by rw [List.take_add_one, hx]; simp);have hbj := hb.out (j + 1);rw [htk.out, List.length_append] at hbj;have ih2 := ih x (l1 ++ (fan.take j).flatMap (Pl.allP s n)) (hsub.out x (List.mem_of_getElem? hx)) (by rw [List.length_append]; omega) (by omega);rw [<- hlv, List.append_assoc, <- htk.out] at ih2;generalize ho3 : l1 ++ (fan.take (j + 1)).flatMap (Pl.allP s n) = o3 at *
   generalize l1 ++ (fan.take j).flatMap (Pl.allP s n) = o2 at *
   simp only [Pl.ab, Pl.ag] at ih2;clear hx hb hsub ih hbj htk
   (repeat' (first | refine e1 (k := ?_) | refine stepS (Qbw Ty.h rfl Ty.h rfl rfl rfl (by omega) hr) (k := ?_) | refine (Qgi [0, 1] ih2 Tryz.call125 (hgl := fun g hg => hmem _ _ _ [_] g hg (by simp [AV.parts, go_sem])) (k := ?_)) | refine stepS (Qb6 rfl rfl (by omega)) (k := ?_) | refine stepS (QbN rfl rfl (by omega)) (k := ?_) | refine QbA (kk := ?_) | refine Qbr ?_ | refine Qb4 ?_ | refine QbF ?_ | refine Qbt ?_ | refine Qbq ?_ | refine Qbz (ht := ?_) | refine Qby ?_ | refine Qbx ?_ | refine e2 (k := ?_) | fail))
   refine Qb8 (fan.length - (j + 1)) (by omega) ⟨j + 1, by omega, rfl, ?_⟩;rw [ho3];simp [keepE, go_sem]
theorem ag_mem0 (Lx : List AV) (Hx : List Blk) (g : AV) (hg : g ∈ Pl.ag []) (ha : AV.ptr 1 0 0 ∈ Lx) (hd : AV.osl 2 0 0 0 ∈ Hx.flatMap Blk.parts) (N : Nat) : g.ren (rho [1, 2] N) ∈ Lx ++ Hx.flatMap Blk.parts := by
 simp only [Pl.ag, List.mem_cons, List.not_mem_nil, or_false] at hg;rcases hg with rfl | rfl
 ·exact List.mem_append_left _ ha
 ·exact List.mem_append_right _ hd
theorem bAll (s : Pm.Store) (hg : Pl.Good s) (htx : 0 <= s.2.2.1) (t : Pl.Tree) (ht : Pl.Qae s t = true) : Pure Tryz.prog 67 [.pd (rSt s), dTree t] (tPtrs (Pl.allT s t)) := by
 have hT := QbS ht;have dw := bWalkP s hg t.depth.toNat t.root [] (Qgp ht htx) (by have := Qfv (s := s) hT.hi; unfold Pl.allT at this; simp only [List.length_nil]; omega) (by have := hT.hi; omega);have e : ((t.depth.toNat : Nat) : Int) = t.depth := by have := hT.lo; omega
 rw [e, List.nil_append] at dw
 change Does _ _ _ _ _ _ (Pl.ab (Pl.allT s t)) at dw
 generalize Pl.allT s t = al at *
 have hmem := fun (l : List Pl.Ptr) (N : Nat) => Qne l N
 clear e hT ht;simp only [Pl.ab, Pl.ag] at dw;obtain ⟨⟨p1, p2, p3, p4, p5⟩, depth, many⟩ := t
 (refine Qbv Tryz.func67 rfl Tryz.ntmps67 Tryz.results67 rfl ?_; simp only [parE, Nat.zero_add, Nat.reduceAdd])
 (refine Qbt (Qbq ?_); (repeat (first | refine e1 (k := ?_) | refine e2 (k := ?_) | fail)); refine Qbr ?_)
 refine Qbu 0 (h := ?_)
 (repeat' (first | refine e1 (k := ?_) | refine (Qkd 1 0 5 54 (h := ?_)) | refine stepS (Qdt rfl) (k := ?_) | refine (Qgi [1, 2] dw Tryz.call125 (hgl := fun g hg => ag_mem0 _ _ g hg (by simp [AV.parts, go_sem]) (by simp [Blk.parts, AV.parts]) _) (k := ?_)) | refine Qbr ?_ | refine Qbt ?_ | refine Qbq ?_ | refine e2 (k := ?_) | fail))
 refine QcF [4] 3 (h := ?_);refine Qbu 2 (h := ?_);refine Qb0 (hx := ?_);rw [List.take_of_length_le (by simp)]
theorem bUse1 (s : Pm.Store) (hg : Pl.Good s) (htx : 0 <= s.2.2.1) (n : Pl.Node) (ht : Pl.Qae s n.tree = true) : Pure Tryz.prog 66 [dNode n, .pd (rSt s)] (dI (Pl.Qas s n)) := by
 have c := bAll s hg htx n.tree ht;have hd : Hid (Pl.Qas s n = ((Pl.allT s n.tree).length : Nat)) := Pm.hid rfl;rw [hd.out];generalize Pl.allT s n.tree = al at *
 clear hd ht;obtain ⟨kd, links, size, ⟨⟨p1, p2, p3, p4, p5⟩, depth, many⟩⟩ := n;simp only at c ⊢
 (refine Qbv Tryz.func66 rfl Tryz.ntmps66 Tryz.results66 rfl ?_; simp only [parE, Nat.zero_add, Nat.reduceAdd])
 (refine Qbt (Qbq ?_); (repeat (first | refine e1 (k := ?_) | refine e2 (k := ?_) | fail)); refine Qbr ?_)
 refine Qbu 0 (h := ?_)
 (repeat' (first | refine e1 (k := ?_) | refine stepS (Qbs Tryz.call67 c rfl) (k := ?_) | refine Qbr ?_ | refine Qbt ?_ | refine Qbq ?_ | fail))
 exact Qb0 (hx := rfl)
theorem bSumC (s : Pm.Store) (t : Pl.Tree) (p : List UInt8) (hp : p.length <= 1000000000000) (cS : Pure Tryz.prog 146 [dSt s] (dB (Pl.Qag s))) (hg : Pl.Qag s = true -> Pl.Good s /\ 0 <= s.2.2.1) (hT : Pl.Qag s = true -> Pl.Qbp s)
 (f : FuncId) (cap : D) (F : Pl.Node -> Int) (hf : ∀ args w, (callFunc f args).run Tryz.prog w = .ok (.enter f args) w) (hF : Pl.Qag s = true -> ∀ n : Pl.Node, Pl.Qae s n.tree = true -> Pure Tryz.prog f [dNode n, cap] (dI (F n))) (hFb : ∀ n : Pl.Node, Pl.Qae s n.tree = true -> 0 <= F n /\ F n <= 1000000)
 (L : List Nat) (hL : Pl.Qag s = true -> Pl.QaL s t = true -> Pl.Qba s (Pl.Qaa s t) = true -> ¬ Pl.Qa0 s (Pl.Qaa s t) p < 0 -> L.length <= 1000 /\ Gr.FD (Pl.Qad (Pl.Qac (Pl.Qaa s t))) (Pl.chF s (Pl.Qaa s t)) [(Pl.Qa0 s (Pl.Qaa s t) p).toNat] L) :
 PureF Tryz.prog 61 [.d (dSt s), .d (dTree t), .d (dS p), .fn (.func f) [.d cap]] (.tup [dI (Pl.sumP s t p F (Pl.Qao [] L)).1, dB (Pl.sumP s t p F (Pl.Qao [] L)).2]) := by
 have c1 := Qoe s t cS hg hT;have hd : Hid (Pl.sumP s t p F (Pl.Qao [] L) = if Pl.Qag s && Pl.QaL s t && Pl.Qba s (Pl.Qaa s t) then (if Pl.Qa0 s (Pl.Qaa s t) p < 0 then (0, false) else (Pl.QaV F ((Pl.Qao [] L).map fun k => (Pl.Qac (Pl.Qaa s t)).getD k Pl.zn), true)) else (0, false)) := Pm.hid rfl;generalize Pl.sumP s t p F (Pl.Qao [] L) = res at *
 by_cases hok : (Pl.Qag s && Pl.QaL s t && Pl.Qba s (Pl.Qaa s t)) = true
 rotate_left
 ·have hbad := Pm.hid (hd.out.trans (if_neg hok))
  obtain ⟨a, ha⟩ : ∃ a, Pl.inD s t = .tup [a, dB false] := by
   unfold Pl.inD Pl.Qbi;simp only [Bool.and_eq_true, not_and] at hok;split
   ·split
    ·rename_i h1 h2
     have := hok ⟨h1, h2⟩;exact ⟨_, by rw [show Pl.Qba s (Pl.Qaa s t) = false by simpa using this]⟩
    ·exact ⟨_, rfl⟩
   ·exact ⟨_, rfl⟩
  rw [ha] at c1
  (refine Qcc Tryz.func61 rfl Tryz.ntmps61 Tryz.results61 rfl ?_; simp only [parA, Nat.zero_add, Nat.reduceAdd])
  (refine Qbt (Qbq ?_); (repeat (first | refine e1 (k := ?_) | refine e2 (k := ?_) | fail)); refine Qbr ?_)
  refine Qbu 0 (h := ?_);refine Qbu 1 (h := ?_)
  (repeat' (first | refine e1 (k := ?_) | refine stepS (Qbs Tryz.call119 c1 rfl) (k := ?_) | refine Qbr ?_ | refine Qbt ?_ | refine Qbq ?_ | refine Qbz (ht := ?_) | fail))
  refine QbO (hx := ?_);rw [hbad.out]
 have hok' := hok;rw [Bool.and_eq_true, Bool.and_eq_true] at hok';obtain ⟨⟨h1, h2⟩, h3⟩ := hok'
 have hin : Pl.inD s t = .tup [.pd (rFiles s t (Pl.Qaa s t) (Pl.dirM s (Pl.Qaa s t) (Pl.Qaa s t).length)), dB true] := by
  unfold Pl.inD Pl.Qbi;rw [if_pos h1, if_pos h2, h3]
 rw [hin] at c1;have htab : Pl.Qa5 s t = true := by unfold Pl.QaL at h2; rw [Bool.and_eq_true, Bool.and_eq_true] at h2; exact h2.1.1
 obtain ⟨hx, hx16, _⟩ := Qj0 htab
 have hgt : ∀ y ∈ Pl.Qaa s t, y ≠ [] -> Pl.Qae s (Pl.ng y).1.tree = true := fun y hy hne => by
  have h := htab;unfold Pl.Qa5 at h;rw [Bool.and_eq_true, List.all_eq_true] at h;have h := h.2 y hy;rw [Bool.or_eq_true, Bool.and_eq_true] at h;rcases h with h | h
  ·exact absurd (by simpa using h) hne
  ·exact h.2
 have hFs := hF h1;have hm := QmG s (Pl.Qaa s t);have hL := hL h1 h2 h3;have hd2 := hd.out.trans (if_pos hok);clear hin hok htab h1 h2 h3 hd cS hg hT;generalize Pl.Qaa s t = x at *
 generalize Pl.dirM s x x.length = m at *
 obtain ⟨N, fine, c2, hr, hNb, hNl⟩ : ∃ (N : List Pl.Node) (fine : Bool), Pure Tryz.prog 120 [.pd (rFiles s t x m), dS p] (.tup [.sl true 10 (N.map rNode), dB fine]) /\ res = (Pl.QaV F N, fine) /\ (∀ n ∈ N, Pl.Qae s n.tree = true) /\ N.length <= 1000 := by
  by_cases hneg : Pl.Qa0 s x p < 0
  ·exact ⟨[], false, Qoi s t x m hm p hp hneg, by rw [hd2, if_pos hneg]; rfl, fun n hn => by simp at hn, by simp⟩
  ·obtain ⟨hL1, hL2⟩ := hL hneg
   obtain ⟨j, hj⟩ := Int.eq_ofNat_of_zero_le (show 0 <= Pl.Qa0 s x p by omega);rw [hj, Int.toNat_natCast] at hL2;refine ⟨(Pl.Qao [] L).map fun k => (Pl.Qac x).getD k Pl.zn, true, ?_, by rw [hd2, if_neg hneg], ?_, ?_⟩
   ·have := QmZ s t x hx m hm p hp j hj L hL1 hL2
    rw [List.map_map]; exact this
   ·intro n hn
    obtain ⟨k, hk, rfl⟩ := List.mem_map.1 hn;rw [QeO] at hk;have hk := hk.resolve_left (by simp);have hkd := hL2.kinds k hk;rcases QcA hx k with ⟨_, h⟩ | ⟨g1, g2, _⟩
    ·exfalso; unfold Pl.Qad at hkd; rw [h] at hkd; rcases hkd with h | h
     ·cases h
     ·cases h.1
    ·rw [QcB]
     exact hgt _ (by rw [List.getD_eq_getElem?_getD, List.getElem?_eq_getElem g2]; exact List.getElem_mem g2) g1
   ·rw [List.length_map]; have := (QdV L []).2.1; simp at this; omega
 clear hd2 hL hm hx hx16 hgt hF;subst hr;have hFc := Pm.hid (fun n hn => hFs n (hNb n hn));have hNb := Pm.hid (fun n hn => hFb n (hNb n hn));clear hFs hFb
 (refine Qcc Tryz.func61 rfl Tryz.ntmps61 Tryz.results61 rfl ?_; simp only [parA, Nat.zero_add, Nat.reduceAdd])
 (refine Qbt (Qbq ?_); (repeat (first | refine e1 (k := ?_) | refine e2 (k := ?_) | fail)); refine Qbr ?_)
 refine Qbu 0 (h := ?_);refine Qbu 1 (h := ?_)
 (repeat' (first | refine e1 (k := ?_) | refine stepS (Qbs Tryz.call119 c1 rfl) (k := ?_) | refine stepS (Qbs Tryz.call120 c2 rfl) (k := ?_) | refine Qbr ?_ | refine Qbt ?_ | refine Qbq ?_ | refine Qb1 (hf := ?_) | refine Qby ?_ | refine Qbx ?_ | fail))
 refine QbC (fun mm st => ∃ k : Nat, k <= N.length /\ mm = N.length - k /\ 0 <= Pl.QaV F (N.take k) /\ Pl.QaV F (N.take k) <= k * 1000000 /\
  st = ⟨45, [(31, .d (.sl true 10 (N.map rNode))), (32, .d (dI N.length)), (33, .d (dI k)), (14, .d (dI (Pl.QaV F (N.take k)))), (3, .fn (.func f) [.d cap]), (13, .d (dB fine))], []⟩) [31, 32, 33, 14, 3, 13] 0 N.length ⟨0, by omega, rfl, by simp [Pl.QaV], by simp [Pl.QaV], by simp [keepE, go_sem, Pl.QaV]⟩ (round := ?_)
 rintro mm st ⟨k, hk, rfl, hs1, hs2, rfl⟩
 (repeat (first | refine e1 (k := ?_) | refine Qbr ?_ | refine Qbt ?_ | refine Qbq ?_ | fail))
 cases q3 : decide ((k : Int) < (N.length : Int))
 ·(repeat' (first | refine e1 (k := ?_) | refine Qbr ?_ | refine Qbt ?_ | refine Qbq ?_ | refine Qb1 (hf := ?_) | refine Qb3 ?_ | fail))
  refine QbO (hx := ?_);have : k = N.length := by simp at q3; omega
  rw [this, List.take_length]
 have hk2 : k < N.length := by simp at q3; omega
 obtain ⟨y, hy⟩ : ∃ y, N[k]? = some y := ⟨_, List.getElem?_eq_getElem hk2⟩;have hr := QbB (f := rNode) hy;have hyb := hNb.out y (List.mem_of_getElem? hy)
 have hstep : Hid (Pl.QaV F (N.take (k + 1)) = Pl.QaV F (N.take k) + F y) := Pm.hid (by
  unfold Pl.QaV
  rw [List.take_add_one, hy]; simp)
 have c := hFc.out y (List.mem_of_getElem? hy);clear hy hNb hFc;generalize hs : Pl.QaV F (N.take (k + 1)) = s2 at *
 generalize Pl.QaV F (N.take k) = s1 at *
 generalize F y = fy at *
 (repeat' (first | refine e1 (k := ?_) | refine stepS (Qbw Ty.h rfl Ty.h rfl rfl rfl (by omega) hr) (k := ?_) | refine stepS (Qc6 hf c rfl rfl) (k := ?_) | refine stepS (Qb6 rfl rfl (by omega)) (k := ?_) | refine QbA (kk := ?_) | refine Qbr ?_ | refine Qb4 ?_ | refine QbF ?_ | refine Qbt ?_ | refine Qbq ?_ | refine Qbz (ht := ?_) | refine Qby ?_ | refine Qbx ?_ | refine e2 (k := ?_) | fail))
 refine Qb8 (N.length - (k + 1)) (by omega) ⟨k + 1, by omega, rfl, ?_, ?_, ?_⟩
 ·rw [hs, hstep.out]; omega
 ·rw [hs, hstep.out]; omega
 ·rw [hs, hstep.out]; simp [keepE, go_sem]
theorem Qli (s : Pm.Store) (t : Pl.Tree) (p : List UInt8) (r : Int × Bool) (c : PureF Tryz.prog 61 [.d (dSt s), .d (dTree t), .d (dS p), .fn (.func 66) [.d (.pd (rSt s))]] (.tup [dI r.1, dB r.2])) :
 Pure Tryz.prog 23 [dSt s, dTree t, dS p] (.tup [dI r.1, dB r.2]) := by
 obtain ⟨a, b⟩ := r;simp only at c ⊢
 (refine Qbv Tryz.func23 rfl Tryz.ntmps23 Tryz.results23 rfl ?_; simp only [parE, Nat.zero_add, Nat.reduceAdd])
 (refine Qbt (Qbq ?_); (repeat (first | refine e1 (k := ?_) | refine e2 (k := ?_) | fail)); refine Qbr ?_)
 refine Qbu 0 (h := ?_);refine Qbu 1 (h := ?_)
 (repeat' (first | refine e1 (k := ?_) | refine stepS (Qdt rfl) (k := ?_) | refine stepS (Qcv Tryz.call61 c rfl rfl) (k := ?_) | refine Qbr ?_ | refine Qbt ?_ | refine Qbq ?_ | fail))
 exact Qb0 (hx := rfl)
theorem QmV (s : Pm.Store) (hl : Pl.Lens s) (i1 : ∀ n ∈ s.2.1.1, Pm.InI n) (i2 : ∀ n ∈ s.2.1.2, Pm.InI n) (t : Pl.Tree) (p : List UInt8) (hp : p.length <= 1000000000000) :
 Pure Tryz.prog 23 [dSt s, dTree t, dS p] (.tup [dI (Pl.Qa8 s t p (Pl.Qas s)).1, dB (Pl.Qa8 s t p (Pl.Qas s)).2]) := by
 obtain ⟨L, hL, hs⟩ := Qnu s t p (Pl.Qas s) (Pl.Qas s) (fun _ _ => rfl);rw [<- hs];have hg : Pl.Qag s = true -> Pl.Good s /\ 0 <= s.2.2.1 := fun h => ⟨QcR h, Qf3 h⟩
 refine Qli s t p _ (bSumC s t p hp (QnX s hl.b1 hl.b2 hl.b3 hl.b4 i1 i2) hg (fun h => bText s (hg h).1 (hg h).2 (QkJ s)) _ _ (Pl.Qas s) Tryz.call66 (fun h n hn => bUse1 s (hg h).1 (hg h).2 n hn) (fun n hn => ?_) L hL);have := Qfv (s := s) (QbS hn).hi;unfold Pl.Qas;omega
end Aw
end Go.Proofs.YtdjkdcokjoiokaaGreatDoor

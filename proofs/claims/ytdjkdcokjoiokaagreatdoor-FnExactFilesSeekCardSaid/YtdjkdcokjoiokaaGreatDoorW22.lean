/- Part 22 of seek_card: contracts, walks, laws; no condition beyond the statement's. -/
import Derived.Test.YtdjkdcokjoiokaaGreatDoorW20
import Derived.Test.YtdjkdcokjoiokaaGreatDoorW21
set_option linter.all false
set_option maxRecDepth 100000
set_option maxHeartbeats 8000000
namespace Go.Proofs.YtdjkdcokjoiokaaGreatDoor
open Go.RowKit
namespace Aw
attribute [local irreducible] ASeq ADraw AWP Loc
theorem Qnw {S : Nat -> Prop} {w : World} {b : Bool} {l : List (List UInt8)} {v : Value} (h : RelD S w (.sl b 1 (l.map fun s => [dS s])) v) (hS : ∀ b, S b -> b < w.heap.size) (hx : ∀ x ∈ l, x.length <= Pm.big) :
 ∃ A c, v = .slice A l.length c /\ Pm.At w w.heap.size A l := by
 generalize hr : (l.map fun s => [dS s]) = rows at h;cases h with
 |slnil a cap =>
  have : l = [] := by simpa using hr
  subst this;exact ⟨_, _, rfl, fun h => absurd h (by simp)⟩
 |sl _ _ _ bb o cap g hb hn hcap hc hrr =>
  subst hr;refine ⟨_, _, by rw [List.length_map], fun _ => ⟨bb, o, rfl, hS bb hb, fun i x hi => ⟨[.string ⟨x.toArray⟩], ⟨rfl, hx x (List.mem_of_getElem? hi)⟩, fun j v hj => ?_⟩⟩⟩
  match j, hj with
  |0, hj =>
   obtain rfl : _ = v := by simpa using hj
   have h1 : (l.map fun s => [dS s])[i]? = some [dS x] := by rw [List.getElem?_map, hi]; rfl
   have h2 := hc i 0 _ _ h1 rfl;have h3 := hrr i 0 _ _ h1 rfl;generalize g i 0 = y at *
   cases h3;exact h2
theorem QfV {S : Nat -> Prop} {w : World} {b : Bool} {l : List Int} {v : Value} (h : RelD S w (.sl b 1 (l.map fun n => [dI n])) v) (hS : ∀ b, S b -> b < w.heap.size) (hx : ∀ x ∈ l, Pm.InI x) :
 ∃ A c, v = .slice A l.length c /\ Pm.At w w.heap.size A l := by
 generalize hr : (l.map fun n => [dI n]) = rows at h;cases h with
 |slnil a cap =>
  have : l = [] := by simpa using hr
  subst this;exact ⟨_, _, rfl, fun h => absurd h (by simp)⟩
 |sl _ _ _ bb o cap g hb hn hcap hc hrr =>
  subst hr;refine ⟨_, _, by rw [List.length_map], fun _ => ⟨bb, o, rfl, hS bb hb, fun i x hi => ⟨[.int .i64 x], ⟨rfl, hx x (List.mem_of_getElem? hi)⟩, fun j v hj => ?_⟩⟩⟩
  match j, hj with
  |0, hj =>
   obtain rfl : _ = v := by simpa using hj
   have h1 : (l.map fun n => [dI n])[i]? = some [dI x] := by rw [List.getElem?_map, hi]; rfl
   have h2 := hc i 0 _ _ h1 rfl;have h3 := hrr i 0 _ _ h1 rfl;generalize g i 0 = y at *
   cases h3;exact h2
theorem QjF {S : Nat -> Prop} {w : World} {base : Nat} {e : TypeId} {v : Value} {l : List (List UInt8)} (h : w.ownsRow base e 1 v (l.map Pm.vstr).length (l.map Pm.vstr)) (hS : ∀ b, base <= b -> b < w.heap.size -> S b) : RelD S w (tStrs l) v := by
 rcases Nat.eq_zero_or_pos l.length with h0 | h0
 ·have : l = [] := List.length_eq_zero_iff.1 h0
  subst this;rcases h.2 with ⟨rfl, _⟩ | ⟨g, cap, cur, rfl, _⟩ <;> exact .slnil _ _ _ _
 ·obtain ⟨g, c, rfl, h1, h2, h3⟩ := Pm.QfL h (by simpa using h0)
  have hcap : (l.map Pm.vstr).length <= c := by
   rcases h.2 with ⟨h4, _⟩ | ⟨g', cap, cur, h4, _, _, h5, _⟩
   ·cases h4
   ·injection h4 with _ _ h6; rw [h6]; exact h5
  rw [List.length_map] at hcap ⊢;have hlen : (l.map fun s => [dS s]).length = l.length := by simp
  rw [<- hlen];refine .sl true 1 _ g 0 c (fun i _ => Pm.vstr (l.getD i [])) (hS g h1 h2) (fun r hr => by obtain ⟨x, _, rfl⟩ := List.mem_map.1 hr; rfl) (fun _ => by rw [hlen]; exact hcap) (fun i j r d hi hj => ?_) (fun i j r d hi hj => ?_)
  all_goals
   rw [List.getElem?_map] at hi;cases hx : l[i]? with
   |none => rw [hx] at hi; cases hi
   |some x =>
    rw [hx] at hi;obtain rfl : [dS x] = r := by simpa using hi
    match j, hj with
    |0, hj =>
     obtain rfl : dS x = d := by simpa using hj
     simp only [List.getD_eq_getElem?_getD, hx, Option.getD_some]
     first
      |exact .v _
      |(have := h3 i (Pm.vstr x) (by rw [List.getElem?_map, hx]; rfl)
        simpa using this)
theorem Sm.lt {B : Bs} {σ : Sg} {S : Nat -> Prop} {H : List Blk} {w : World} (h : Sm B σ S H w) : ∀ b, S b -> b < w.heap.size := fun b hb => (h.sUp b hb).1
theorem Qie {α : Type} {cargs : List α} (h : 1 = cargs.length) : ∃ v, cargs = [v] := by
 match cargs, h with
 |[v], _ => exact ⟨v, rfl⟩
theorem Qkz (l : List (List UInt8)) (h1 : l.length <= Pm.big) (h2 : ∀ s ∈ l, s.length <= 4294967296) : Pure Tryz.prog 246 [dStrs l] (.tup [dS ((Pl.Qb7 l).getD []), dB (Pl.Qb7 l).isSome]) := by
 intro B σ S H w cargs hB hS hl hr;obtain ⟨v, rfl⟩ := Qie hl;obtain ⟨A, c, rfl, hA⟩ := Qnw (hr 0 _ v rfl rfl) hS.lt fun x hx => by have := h2 x hx; unfold Pm.big; omega
 refine (Pm.Qis A l c w h1 hA h2 (hB.ltOf hS)).mono ?_;rintro e w' ⟨rfl, hb⟩;refine ⟨_, rfl, hb, ?_⟩;rw [Pm.Qlc];refine .tup _ [.string ⟨((Pl.Qb7 l).getD []).toArray⟩, .bool (Pl.Qb7 l).isSome] rfl fun i d x hd hx => ?_
 match i, hd, hx with
 |0, hd, hx => simp at hd hx; subst hd hx; exact .v _
 |1, hd, hx => simp at hd hx; subst hd hx; exact .v _
theorem Qi9 (t : Pl.Tree) (h1 : Pm.InI t.depth) (h2 : Pm.InI t.many) : Pure Tryz.prog 173 [dTree t] (tStrs (Pl.QbY t)) := by
 intro B σ S H w cargs hB hS hl hr;have ha : concL [dTree t] = some [Pm.vtree t] := rfl;obtain rfl := Qdb ha hl hr;refine (Pm.imTree t w h1 h2 (hB.ltOf hS)).mono ?_;rintro e w' ⟨v, rfl, ho, hb⟩;exact ⟨_, rfl, hb, QjF (by rw [List.length_map]; exact ho) fun b h1 h2 => .inr ⟨h1, h2⟩⟩
theorem QiB (kind size : Int) : Pure Tryz.prog 337 [dI kind, dI size] (dI (Pl.Qau kind size)) := by
 have hd : Hid (Pl.Qau kind size = if Pl.each kind = 0 then -1 else if Pl.inR size 0 (16 * Pl.each kind) then (size + Pl.each kind - 1) / Pl.each kind else -1) := Pm.hid rfl;have he : Hid (Pl.each kind = if kind = 1 then 12 else if kind = 2 then 128 else 0) := Pm.hid rfl
 have key : ∀ e : Int, Pl.each kind = e -> e = 12 ∨ e = 128 -> Pl.Qau kind size = if Pl.inR size 0 (16 * e) then (size + e - 1) / e else -1 := fun e h1 h2 => by
  rw [hd.out, h1, if_neg (by omega)]
 by_cases h1 : kind = 1
 ·rw [key 12 (by rw [he.out, if_pos h1]) (.inl rfl)]
  subst h1;clear hd he key;cases hR : Pl.inR size 0 (16 * 12)
  ·(refine Qbk Tryz.func337 rfl Tryz.ntmps337 Tryz.results337 rfl ?_; simp only [parE, Nat.zero_add, Nat.reduceAdd])
   (repeat' (first | refine e1 (k := ?_) | refine stepS (Qdw rfl rfl (by decide)) (k := ?_) | refine stepS (Qbe Tryz.call45 (hR ▸ bIn size 0 (16 * 12)) rfl) (k := ?_) | refine Qbd ?_ | refine Qb0 ?_ | refine Qbf ?_ | refine Qbc ?_ | refine Qbl (ht := ?_) | refine Qbi ?_ | fail))
   all_goals exact Qbn (hx := rfl)
  have hb : 0 <= size /\ size <= 16 * 12 := by simpa [Pl.inR] using hR
  (refine Qbk Tryz.func337 rfl Tryz.ntmps337 Tryz.results337 rfl ?_; simp only [parE, Nat.zero_add, Nat.reduceAdd])
  (repeat' (first | refine e1 (k := ?_) | refine stepS (Qdw rfl rfl (by decide)) (k := ?_) | refine stepS (Qbe Tryz.call45 (hR ▸ bIn size 0 (16 * 12)) rfl) (k := ?_) | refine stepS (Qij rfl rfl (by omega) (by omega)) (k := ?_) | refine stepS (Qbs rfl rfl (by omega)) (k := ?_) | refine stepS (QbB rfl rfl (by omega)) (k := ?_) | refine Qbd ?_ | refine Qb0 ?_ | refine Qbf ?_ | refine Qbc ?_ | refine Qbl (ht := ?_) | refine Qbm (hf := ?_) | refine Qbj ?_ | refine Qbi ?_ | fail))
  all_goals exact Qbn (hx := rfl)
 by_cases h2 : kind = 2
 ·rw [key 128 (by rw [he.out, if_neg h1, if_pos h2]) (.inr rfl)]
  subst h2;clear hd he key;cases hR : Pl.inR size 0 (16 * 128)
  ·(refine Qbk Tryz.func337 rfl Tryz.ntmps337 Tryz.results337 rfl ?_; simp only [parE, Nat.zero_add, Nat.reduceAdd])
   (repeat' (first | refine e1 (k := ?_) | refine stepS (Qdw rfl rfl (by decide)) (k := ?_) | refine stepS (Qbe Tryz.call45 (hR ▸ bIn size 0 (16 * 128)) rfl) (k := ?_) | refine Qbd ?_ | refine Qb0 ?_ | refine Qbf ?_ | refine Qbc ?_ | refine Qbl (ht := ?_) | refine Qbm (hf := ?_) | refine Qbi ?_ | fail))
   all_goals exact Qbn (hx := rfl)
  have hb : 0 <= size /\ size <= 16 * 128 := by simpa [Pl.inR] using hR
  (refine Qbk Tryz.func337 rfl Tryz.ntmps337 Tryz.results337 rfl ?_; simp only [parE, Nat.zero_add, Nat.reduceAdd])
  (repeat' (first | refine e1 (k := ?_) | refine stepS (Qdw rfl rfl (by decide)) (k := ?_) | refine stepS (Qbe Tryz.call45 (hR ▸ bIn size 0 (16 * 128)) rfl) (k := ?_) | refine stepS (Qij rfl rfl (by omega) (by omega)) (k := ?_) | refine stepS (Qbs rfl rfl (by omega)) (k := ?_) | refine stepS (QbB rfl rfl (by omega)) (k := ?_) | refine Qbd ?_ | refine Qb0 ?_ | refine Qbf ?_ | refine Qbc ?_ | refine Qbl (ht := ?_) | refine Qbm (hf := ?_) | refine Qbj ?_ | refine Qbi ?_ | fail))
  all_goals exact Qbn (hx := rfl)
 have hpz : Pl.Qau kind size = -1 := by rw [hd.out, if_pos (by rw [he.out, if_neg h1, if_neg h2])]
 rw [hpz];clear hd he key hpz
 (refine Qbk Tryz.func337 rfl Tryz.ntmps337 Tryz.results337 rfl ?_; simp only [parE, Nat.zero_add, Nat.reduceAdd])
 (repeat' (first | refine e1 (k := ?_) | refine e0 (k := ?_) | refine Qbd ?_ | refine Qb0 ?_ | refine Qbf ?_ | refine Qbc ?_ | refine Qbl (ht := ?_) | refine Qbo (ht := fun q => ?_) (hf := fun q => ?_) | refine Qbj ?_ | refine Qbi ?_ | fail))
 ·exact absurd (by simpa using q) h1
 ·exact absurd (by simpa using q) h2
 exact Qbn (hx := rfl)
theorem bNodeOk (n : Pl.Node) : Pure Tryz.prog 309 [dNode n] (dB (Pl.Qak n)) := by
 have hd : Hid (Pl.Qak n = (decide (0 <= Pl.Qau n.kind n.size) && (n.tree.many == Pl.Qau n.kind n.size) && (n.tree.depth == Pl.QaF (Pl.Qau n.kind n.size)) && Pl.ptrOk n.tree.root &&
  Pl.inR n.links 1 (if n.kind = 2 then 1 else 9) && (Pl.ptrHole n.tree.root || (n.tree.root.level == n.tree.depth)))) := Pm.hid rfl
 have c1 := QiB n.kind n.size;generalize Pl.Qau n.kind n.size = pc at *
 have c2 : Pure Tryz.prog 222 [dI pc] (dI (Pl.QaF pc)) := bDepth pc;generalize Pl.QaF pc = dp at *
 have c3 := bPtrOk n.tree.root;have c4 := Qc6 n.tree.root;generalize Pl.ptrOk n.tree.root = ok at *
 generalize Pl.ptrHole n.tree.root = ho at *
 (refine Qbk Tryz.func309 rfl Tryz.ntmps309 Tryz.results309 rfl ?_; simp only [parE, Nat.zero_add, Nat.reduceAdd])
 (refine Qbf (Qbc ?_); (repeat (first | refine e1 (k := ?_) | refine e2 (k := ?_) | fail)); refine Qbd ?_)
 refine Qbg 0 (h := ?_)
 (repeat' (first | refine f1 (k := ?_) | refine e1 (k := ?_) | refine f0 (k := ?_) | refine stepS (Qbe Tryz.call337 c1 rfl) (k := ?_) | refine stepD (Qbe Tryz.call222 c2 rfl) (k := ?_) | refine stepD (Qbe Tryz.call218 c3 rfl) (k := ?_) | refine stepD (Qbe Tryz.call199 c4 rfl) (k := ?_) | refine stepD (Qbe Tryz.call45 (bIn _ _ _) rfl) (k := ?_) | refine Qbd ?_ | refine Qbr ?_ | refine Qbf ?_ | refine Qbc ?_ | refine Qb1 follows_mixed (by kernel_rfl) (by kernel_rfl) ?_ | refine Qbo (ht := fun q => ?_) (hf := fun q => ?_) | refine Qbj ?_ | ((fail_if_success show ADraw _ _ _ _ ⟨_, (_, .d (.v (.bool true))) :: _, _⟩); (fail_if_success show ADraw _ _ _ _ ⟨_, (_, .d (.v (.bool false))) :: _, _⟩); refine splitD (fun q => ?_) (fun q => ?_))))
 all_goals
  refine Qbn (hx := ?_);refine congrArg dB ?_;rw [hd.out];clear c1 c2 c3 c4 hd
  simp_all
 all_goals
  intros
  omega
theorem Qdu {n : Int} (h0 : 0 <= n) (h1 : n <= 999999999) : Pl.numPut n = Pl.dec n.toNat := by unfold Pl.numPut; rw [if_pos ⟨h0, h1⟩]
theorem Qef {n : Pl.Node} (h : NodeB n) : [n.kind, n.links, n.size].map Pl.numPut ++ Pl.QbY n.tree ++ [[101, 110, 100]] = Pl.Qar n := by
 have h1 := h.kind;have h2 := h.links;have h3 := h.size;have h4 := h.depth;have h5 := h.many;simp only [Pl.QbY, Pl.Qar, List.map_cons, List.map_nil, List.cons_append, List.nil_append];rw [Qdu (n := n.kind) (by omega) (by omega), Qdu (n := n.links) (by omega) (by omega), Qdu (n := n.size) (by omega) (by omega), Qdu (n := n.tree.depth) (by omega) (by omega), Qdu (n := n.tree.many) (by omega) (by omega)]
theorem bCutHit (a r : List UInt8) (h : (58 : UInt8) ∉ a) (hs : (a ++ 58 :: r).length <= 4294967280) : Pure Tryz.prog 166 [dS (a ++ 58 :: r), dS [58]] (.tup [dS a, dS r, dB true]) :=
 Qci (xs := [.string ⟨a.toArray⟩, .string ⟨r.toArray⟩, .bool true]) rfl fun w hL => Pm.cutHit a r h w hs hL
theorem Qnt (a : List UInt8) (h : (58 : UInt8) ∉ a) (hs : a.length <= 4294967280) : Pure Tryz.prog 166 [dS a, dS [58]] (.tup [dS a, dS [], dB false]) :=
 Qci (xs := [.string ⟨a.toArray⟩, .string ⟨#[]⟩, .bool false]) rfl fun w hL => Pm.cutMiss a h w hs hL
theorem bClone (s : List UInt8) (hs : s.length <= Pm.big) : Pure Tryz.prog 167 [dS s] (dS s) := QbI rfl fun w _ => Pm.imClone s w hs
theorem Qk0 (s : List UInt8) (hs : s.length <= Pm.big) : Pure Tryz.prog 101 [dS s] (.tup [tStrs (Pl.rg s).1, dB (Pl.rg s).2]) := by
 simp only [Pm.big] at hs
 by_cases h20 : s.length <= 2048
 rotate_left
 ·have hr : Hid (Pl.rg s = ([], false)) := Pm.hid (Qfb fun l hl => h20 hl.2.1)
  generalize Pl.rg s = res at *
  (refine Qbk Tryz.func101 rfl Tryz.ntmps101 Tryz.results101 rfl ?_; simp only [parE, Nat.zero_add, Nat.reduceAdd])
  (repeat' (first | refine e1 (k := ?_) | refine Qbd ?_ | refine Qbf ?_ | refine Qbc ?_ | refine Qbo (ht := fun q => ?_) (hf := fun q => ?_) | refine Qbj ?_ | refine Qbi ?_ | fail))
  ·refine Qcl 2 true 1 (h := ?_)
   refine Qbn (hx := ?_);rw [hr.out]; rfl
  ·exfalso; simp at *; omega
 (refine Qbk Tryz.func101 rfl Tryz.ntmps101 Tryz.results101 rfl ?_; simp only [parE, Nat.zero_add, Nat.reduceAdd])
 (repeat' (first | refine e1 (k := ?_) | refine Qbd ?_ | refine Qbf ?_ | refine Qbc ?_ | refine Qbo (ht := fun q => ?_) (hf := fun q => ?_) | refine Qbj ?_ | refine Qbi ?_ | fail))
 ·exfalso; simp at *; omega
 refine Qd4 4 1 9 (h := ?_)
 refine Qby (fun m st => ∃ (g : Nat) (out : List (List UInt8)) (rest : List UInt8), m = rest.length /\ Hid (s = Pl.enc out ++ rest) /\ rest.length <= 2048 /\ out.length <= 60 /\
  st = ⟨56, [(4, .osl 0 g 0 out.length), (5, .d (dS rest))], [.arr g 1 9 (out.map fun s => [dS s])]⟩) [4, 5] 1 s.length ⟨0, [], s, rfl, Pm.hid rfl, h20, by simp, rfl⟩ (round := ?_)
 rintro m st ⟨g, out, rest, rfl, hO, hrl, hlen, rfl⟩
 (repeat (first | refine e1 (k := ?_) | refine Qbf ?_ | refine Qbc ?_ | fail))
 by_cases hr : rest = []
 ·subst hr
  have hr : Hid (Pl.rg s = (out, true)) := Pm.hid (rg_is ⟨hlen, h20, by rw [hO.out]; simp⟩);generalize Pl.rg s = res at *
  (repeat' (first | refine e1 (k := ?_) | refine stepS (QbH rfl rfl) (k := ?_) | refine Qbd ?_ | refine Qbf ?_ | refine Qbc ?_ | refine Qbm (hf := ?_) | refine Qbq ?_ | fail))
  (refine Qbg 0 (h := ?_); refine Qbn (hx := ?_))
  rw [hr.out]; simp [List.take_of_length_le]
 have hne : (!(rest == ([] : List UInt8))) = true := by simpa using hr
 by_cases hc : (58 : UInt8) ∈ rest
 rotate_left
 ·have hf : Hid (Pl.rg s = ([], false)) := Pm.hid (Qfb (Pl.Qix hO.out hr hc))
  have c1 := Qnt rest hc (by omega);have c2 := bNumGet rest (by unfold Pm.big; omega);generalize (Pl.numGet rest).getD 0 = n1 at *
  generalize (Pl.numGet rest).isSome = o1 at *
  generalize Pl.rg s = res at *
  (repeat' (first | refine e1 (k := ?_) | refine e0 (k := ?_) | refine stepS (Qbe Tryz.call166 c1 rfl) (k := ?_) | refine stepS (Qbe Tryz.call102 c2 rfl) (k := ?_) | refine stepS (QbH rfl rfl) (k := ?_) | refine Qbd ?_ | refine Qbf ?_ | refine Qbc ?_ | refine Qbl (ht := ?_) | refine Qbo (ht := fun q => ?_) (hf := fun q => ?_) | refine Qbj ?_ | refine QcN ?_ | refine Qbi ?_ | refine Qbq ?_ | fail))
  all_goals first
   |(refine Qcl 2 true 1 (h := ?_)
     refine Qbn (hx := ?_)
     rw [hf.out]; rfl)
   |exact absurd (hne.symm.trans ‹_ = false›) (by decide)
 obtain ⟨num, tail, rfl, hn⟩ := Pl.QcF hc;have hnl : num.length <= 2048 /\ tail.length <= 2048 := by simp only [List.length_append, List.length_cons] at hrl; omega
 have c1 := bCutHit num tail hn (by omega);have c2 := bNumGet num (by unfold Pm.big; omega);cases hg : Pl.numGet num with
 |none =>
  rw [hg] at c2;have hf : Hid (Pl.rg s = ([], false)) := Pm.hid (Qfb (Pl.Ql4 h20 hO.out hn (Or.inl hg)));generalize Pl.rg s = res at *
  (repeat' (first | refine e1 (k := ?_) | refine e0 (k := ?_) | refine stepS (Qbe Tryz.call166 c1 rfl) (k := ?_) | refine stepS (Qbe Tryz.call102 c2 rfl) (k := ?_) | refine stepS (QbH rfl rfl) (k := ?_) | refine Qbd ?_ | refine Qbf ?_ | refine Qbc ?_ | refine Qbl (ht := ?_) | refine Qbo (ht := fun q => ?_) (hf := fun q => ?_) | refine Qbj ?_ | refine QcN ?_ | refine Qbi ?_ | refine Qbq ?_ | fail))
  all_goals first
   |(refine Qcl 2 true 1 (h := ?_)
     refine Qbn (hx := ?_)
     rw [hf.out]; rfl)
   |exact absurd (hne.symm.trans ‹_ = false›) (by decide)
 |some n =>
  rw [hg] at c2;simp only [Option.getD_some, Option.isSome_some] at c2;have F1 : Hid (tail.length < n -> Pl.rg s = ([], false)) := Pm.hid fun h => Qfb (Pl.Ql4 h20 hO.out hn (Or.inr ⟨n, hg, h⟩))
  have F2 : Hid (out.length = 60 -> Pl.rg s = ([], false)) := Pm.hid fun h => Qfb (Pl.QmW hO.out hr (by omega))
  have T : Hid (n <= tail.length -> s = Pl.enc (out ++ [tail.take n]) ++ tail.drop n) := Pm.hid fun h => Pl.QmV hO.out hg h
  have c3 := bClone (tail.take n) (by rw [List.length_take]; unfold Pm.big; omega);generalize Pl.rg s = res at *
  (repeat' (first | refine e1 (k := ?_) | refine e0 (k := ?_) | refine stepS (Qbe Tryz.call166 c1 rfl) (k := ?_) | refine stepS (Qbe Tryz.call102 c2 rfl) (k := ?_) | refine stepS (Qhk rfl rfl rfl (by simp) (by simp at *; omega)) (k := ?_) | refine stepS (Qfn rfl rfl rfl (by simp) (by simp at *; omega)) (k := ?_) | refine stepS (Qbe Tryz.call167 c3 rfl) (k := ?_) | refine QbO Ty.h rfl Ty.h (hb := ?_) (kk := ?_) | refine stepS (QbH rfl rfl) (k := ?_) | refine stepS2 (Qbz Ty.h rfl Ty.h) (k := ?_) | refine Qbd ?_ | refine Qb0 ?_ | refine Qbf ?_ | refine Qbc ?_ | refine Qbl (ht := ?_) | refine Qbo (ht := fun q => ?_) (hf := fun q => ?_) | refine Qbj ?_ | refine QcN ?_ | refine Qbi ?_ | refine Qbq ?_ | refine Qfi ?_ | ((fail_if_success show ASeq _ _ _ _ ⟨_, (_, .d (.v (.bool true))) :: _, _⟩); (fail_if_success show ASeq _ _ _ _ ⟨_, (_, .d (.v (.bool false))) :: _, _⟩); refine splitS (fun q => ?_) (fun q => ?_))))
  all_goals first
   |exact absurd (hne.symm.trans ‹_ = false›) (by decide)
   |(refine Qcl 2 true 1 (h := ?_)
     refine Qbn (hx := ?_)
     first
      |(rw [F1.out (by simp at *; omega)]; rfl)
      |(rw [F2.out (by simp at *; omega)]; rfl))
   |(simp; omega)
   |(have hnt : n <= tail.length := by clear F1 F2 T; simp only [decide_eq_false_iff_not] at *; omega
     have hn60 : out.length ≠ 60 := fun e => by
      have : ((out.length : Int) == 60) = true := by rw [e]; rfl
      exact absurd (this.symm.trans ‹_ = false›) (by decide)
     refine Qbt (tail.drop n).length ?_ ⟨g + 1, out ++ [tail.take n], tail.drop n, rfl, Pm.hid (T.out hnt), ?_, ?_, ?_⟩
     ·rw [List.length_drop, List.length_append, List.length_cons]; omega
     ·rw [List.length_drop]; omega
     ·simp; omega
     ·simp [keepE, go_sem])
theorem Qme (l : List Int) (h1 : l.length <= 1000000) (h2 : ∀ n ∈ l, Pm.InI n) : Does Tryz.prog 248 [.osl 0 0 0 l.length] [.arr 0 1 3 (l.map fun n => [dI n])] [] (.osl 1 0 0 (l.map Pl.numPut).length)
 [.arr 1 1 3 (l.map fun n => [dI n]), .arr 0 1 9 ((l.map Pl.numPut).map fun s => [dS s])] := by
 refine ⟨fun i C hC => ?_, fun B σ S w cargs gvs hB hS hl hr hgl hgr => ?_⟩
 ·match i, hC with
  |0, hC =>
   simp at hC; subst hC;exact ⟨_, rfl, rfl, rfl, .inl (by decide)⟩
 obtain ⟨v, rfl⟩ := Qie hl;have hv := hr 0 _ v rfl rfl
 have hA : ∃ A c, v = .slice A l.length c /\ Pm.At w w.heap.size A l := by
  cases hv with
  |osl _ _ _ _ _ ho g' sz T rows hk hg h =>
   simp only [List.getElem?_cons_zero, Option.some.injEq, Blk.arr.injEq] at hk;obtain ⟨rfl, rfl, rfl, rfl⟩ := hk;obtain ⟨_, ⟨b, cap, cs, T, hb, hcap, hmax, rfl, hcs, hsz⟩ | ⟨_, hn, rfl⟩⟩ := h rfl
   ·refine ⟨_, _, rfl, fun _ => ⟨b, 0 * 1, rfl, (hS.σUp 0 b (by simp) hb).1, fun i x hi => ⟨[.int .i64 x], ⟨rfl, h2 x (List.mem_of_getElem? hi)⟩, fun j u hj => ?_⟩⟩⟩
    match j, hj with
    |0, hj =>
     obtain rfl : _ = u := by simpa using hj
     obtain ⟨_, ⟨b', cs', hb', hcs', hc⟩ | ⟨hno, _⟩⟩ := hS.blk 0 _ rfl
     ·rw [hb] at hb'
      obtain rfl := Option.some.inj hb';rw [hcs] at hcs'
      obtain ⟨rfl, rfl, _⟩ : cs = cs' /\ _ /\ True := by
       have := Option.some.inj hcs';injection this with e1 e2;exact ⟨e1, e2, trivial⟩
      obtain ⟨y, hy, hry⟩ := hc i 0 [dI x] (dI x) (by rw [List.getElem?_map, hi]; rfl) rfl;cases hry
      have : w.cell? ⟨b, i, none⟩ = some (.int .i64 x) := by
       simp only [World.cell?, hcs];simpa using hy
      simpa [Pm.Rep.size] using this
     ·rw [hb] at hno; cases hno
   ·have : l = [] := List.length_eq_zero_iff.1 hn
    subst this;exact ⟨_, _, rfl, fun h => absurd h (by simp)⟩
 obtain ⟨A, c, rfl, hat⟩ := hA;refine (Pm.Qhu A l c w h1 hat (hB.ltOf hS)).mono ?_;rintro e w' ⟨v, rfl, ho, hb⟩;clear hv hr hat hl;have hkeep : ∀ b, b < B.w0.heap.size -> ¬ B.own b -> w'.heap[b]? = B.w0.heap[b]? := fun b hlt hn => (hb.block b (by have := hS.size; omega)).trans (hS.keep b hlt hn)
 have hsUp : ∀ b, S b -> b < w'.heap.size /\ (B.S b ∨ B.own b ∨ B.w0.heap.size <= b) := fun b hbS => ⟨by have := (hS.sUp b hbS).1; have := hb.size; omega, (hS.sUp b hbS).2⟩
 have hB0 : ∀ σ' : Sg, σ' 0 = σ 0 -> ArrOk σ' S w' 0 1 3 (l.map fun n => [dI n]) := fun σ' hσ => by
  obtain ⟨h0, ⟨b', cs', hb', hcs', hc⟩ | ⟨hno, hnil⟩⟩ := hS.blk 0 _ rfl
  ·have hlt := (hS.σUp 0 b' (by simp) hb').1
   refine ⟨h0, .inl ⟨b', cs', hσ.trans hb', (hb.block b' hlt).trans hcs', fun i j r d hi hj => ?_⟩⟩;obtain ⟨y, hy, hry⟩ := hc i j r d hi hj;exact ⟨y, hy, hry.mono (fun _ h => h) fun b hbS => hb.block b (hS.sUp b hbS).1⟩
  ·exact ⟨h0, .inr ⟨hσ.trans hno, hnil⟩⟩
 have hgv : ∀ (σ' : Sg) (H : List Blk) (i : Nat) d v, ([] : List AV)[i]? = some d -> gvs[i]? = some v -> Rel σ' S H w' d v := fun σ' H i d v hd => by simp at hd
 rcases ho with ⟨_, ⟨rfl, hn⟩ | ⟨g, cap, cur, rfl, hbg, hg, hcap, hmax, hsz, htk⟩⟩
 ·have : l = [] := by simpa using hn
  subst this;refine ⟨_, fun k => if k = 0 then σ 0 else none, S, rfl, ⟨hb.os.trans hS.os, hb.tape.trans hS.tape, hb.output.trans hS.output, Nat.le_trans hS.size hb.size, hkeep, hS.sLo, hsUp, fun k b _ hkb => ?_, fun k k' b _ _ hk1 hk2 => ?_, fun k C hC => ?_⟩, ?_, hgv _ _⟩
  ·by_cases hk0 : k = 0
   ·subst hk0
    have := hS.σUp 0 b (by simp) (by simpa using hkb);exact ⟨by have := hb.size; omega, this.2⟩
   ·simp [hk0] at hkb
  ·by_cases h3 : k = 0
   ·by_cases h4 : k' = 0
    ·omega
    ·simp [h4] at hk2
   ·simp [h3] at hk1
  ·match k, hC with
   |0, hC => simp only [List.getElem?_cons_zero, Option.some.injEq] at hC; subst hC; exact hB0 _ rfl
   |1, hC => simp at hC; subst hC; exact ⟨by simp, .inr ⟨rfl, by simp⟩⟩
  ·exact .osl 1 0 0 0 _ rfl 0 1 9 _ rfl (Nat.le_refl _) fun _ => ⟨by simp, .inr ⟨rfl, rfl, rfl⟩⟩
 ·have hgS : ¬ S g := fun hx => by have := (hS.sUp g hx).1; omega
  have hglt : g < w'.heap.size := by
   rcases Nat.lt_or_ge g w'.heap.size with hlt | hge
   ·exact hlt
   ·rw [Array.getElem?_eq_none hge] at hg; cases hg
  have h0g : ∀ b, σ 0 = some b -> b ≠ g := fun b hb0 e => by have := (hS.σUp 0 b (by simp) hb0).1; omega
  refine ⟨_, fun k => if k = 0 then σ 0 else if k = 1 then some g else none, S, rfl, ⟨hb.os.trans hS.os, hb.tape.trans hS.tape, hb.output.trans hS.output, Nat.le_trans hS.size hb.size, hkeep, hS.sLo, hsUp, fun k b hk hkb => ?_, fun k k' b hk hk' hk1 hk2 => ?_, fun k C hC => ?_⟩, ?_, hgv _ _⟩
  ·match k, hk, hkb with
   |0, _, hkb =>
    have := hS.σUp 0 b (by simp) (by simpa using hkb);exact ⟨by have := hb.size; omega, this.2⟩
   |1, _, hkb =>
    obtain rfl : g = b := by simpa using hkb
    exact ⟨hglt, hgS, .inr (by have := hS.size; omega)⟩
  ·match k, k', hk, hk', hk1, hk2 with
   |0, 0, _, _, _, _ => rfl
   |1, 1, _, _, _, _ => rfl
   |0, 1, _, _, hk1, hk2 =>
    have e : g = b := by simpa using hk2
    exact absurd e.symm (h0g b (by simpa using hk1))
   |1, 0, _, _, hk1, hk2 =>
    have e : g = b := by simpa using hk1
    exact absurd e.symm (h0g b (by simpa using hk2))
  ·match k, hC with
   |0, hC => simp only [List.getElem?_cons_zero, Option.some.injEq] at hC; subst hC; exact hB0 _ rfl
   |1, hC =>
    simp only [List.getElem?_cons_succ, List.getElem?_cons_zero, Option.some.injEq] at hC; subst hC;refine ⟨fun r hr => by obtain ⟨x, _, rfl⟩ := List.mem_map.1 hr; rfl, .inl ⟨g, cur, rfl, hg, fun i j r d hi hj => ?_⟩⟩;generalize l.map Pl.numPut = ss at *
    rw [List.getElem?_map] at hi;cases hx : ss[i]? with
    |none => rw [hx] at hi; cases hi
    |some x =>
     rw [hx] at hi;obtain rfl : [dS x] = r := by simpa using hi
     match j, hj with
     |0, hj =>
      obtain rfl : dS x = d := by simpa using hj
      have hil : i < ss.length := (List.getElem?_eq_some_iff.1 hx).1;have h1 : (ss.map Pm.vstr)[i]? = some (Pm.vstr x) := by rw [List.getElem?_map, hx]; rfl
      rw [<- htk, List.getElem?_take, if_pos (by omega)] at h1;exact ⟨Pm.vstr x, by simpa using h1, .v _⟩
  ·exact .osl 1 0 0 (l.map Pl.numPut).length _ rfl 0 1 9 _ rfl (Nat.le_refl _) fun _ => ⟨by simp, .inl ⟨g, cap, cur, 9, rfl, hcap, hmax, by simp, hg, by simpa using hsz⟩⟩
end Aw
end Go.Proofs.YtdjkdcokjoiokaaGreatDoor

/- Part 30 of seek_card: contracts, walks, laws; no condition beyond the statement's. -/
import Derived.Test.YtdjkdcokjoiokaaGreatDoorW25
set_option linter.all false
set_option maxRecDepth 100000
set_option maxHeartbeats 8000000
namespace Go.Proofs.YtdjkdcokjoiokaaGreatDoor
section
open Go.RowKit
namespace Aw
attribute [local irreducible] ASeq ADraw AWP Loc AStep
theorem al9Get (s : Pm.Store) (hg : Pl.Good s) (t : Pl.Tree) (ht : Pl.TGood t) : Pure Tryz.prog 252 [dSt s, dTree t] (.tup [dS (Pl.blob (Pl.Qaa s t)).1, dB (Pl.blob (Pl.Qaa s t)).2]) := by
 have c := Qeu s hg t ht;have hl := texts_len s ht;have hle := texts_le s hg t;have hm := ht.manyHi;have hm0 := ht.manyLo;have hd : Hid (Pl.blob (Pl.Qaa s t) = if (List.range (Pl.Qaa s t).length).all (Pl.Qav (Pl.Qaa s t)) then ((Pl.Qaa s t).flatten, true) else ([], false)) := Pm.hid rfl;generalize Pl.Qaa s t = l at *
 (refine Qbk Tryz.func252 rfl Tryz.ntmps252 Tryz.results252 rfl ?_; simp only [parE, Nat.zero_add, Nat.reduceAdd])
 (refine Qbf (Qbc ?_); (repeat (first | refine e1 (k := ?_) | refine e2 (k := ?_) | fail)); refine Qbd ?_)
 refine Qbg 0 (h := ?_);refine Qbg 1 (h := ?_)
 (repeat' (first | refine e1 (k := ?_) | refine stepS (Qbe Tryz.call116 c rfl) (k := ?_) | refine Qbd ?_ | refine Qbf ?_ | refine Qbc ?_ | refine Qbi ?_ | fail))
 refine Qby (fun m st => ∃ (k : Nat) (out : List UInt8), k <= l.length /\ m = 16 - k /\ out.length <= 128 * k /\ Hid (out = (l.take k).flatten) /\ Hid ((List.range k).all (Pl.Qav l) = true) /\
  st = ⟨41, [(6, .d (dS out)), (7, .d (tStrs l)), (8, .d (dI k)), (3, .d (.pd (rTree t)))], [.row 1 [], .row 1 []]⟩) [6, 7, 8, 3] 2 16 ⟨0, [], by omega, rfl, by simp, Pm.hid rfl, Pm.hid rfl, rfl⟩ (round := ?_)
 rintro m st ⟨k, out, hk, rfl, hol, hO, hA, rfl⟩
 (repeat (first | refine e1 (k := ?_) | refine Qbd ?_ | refine Qbf ?_ | refine Qbc ?_ | fail))
 cases q4 : decide ((k : Int) < t.many)
 ·(repeat' (first | refine e1 (k := ?_) | refine Qbd ?_ | refine Qbf ?_ | refine Qbc ?_ | refine Qbm (hf := ?_) | refine Qbq ?_ | fail))
  refine Qbn (hx := ?_);have : k = l.length := by simp at q4; omega
  have h := hA.out;have ho := hO.out;rw [this] at h;rw [this, List.take_length] at ho;rw [hd.out, h, ho]; rfl
 have hk2 : k < l.length := by simp at q4; omega
 obtain ⟨x, hx⟩ : ∃ x, l[k]? = some x := ⟨_, List.getElem?_eq_getElem hk2⟩;have hr := Qbx (f := fun s => [dS s]) hx;have hxl := hle x (List.mem_of_getElem? hx);have he : Hid (Pl.Qav l k = (!(x == []) && (decide (k + 1 = l.length) || decide (x.length = 128)))) := Pm.hid (by unfold Pl.Qav; simp only [List.getD_eq_getElem?_getD, hx, Option.getD_some]);have T : Hid (Pl.Qav l k = true -> (List.range (k + 1)).all (Pl.Qav l) = true) := fun h => Pl.Qb8 (p := Pl.Qav l) hA.out h
 have T2 : Hid ((l.take (k + 1)).flatten = out ++ x) := Pm.hid (by rw [List.take_add_one, hx, hO.out]; simp)
 have F : Hid (Pl.Qav l k = false -> Pl.blob l = ([], false)) := fun h => by
  rw [hd.out, Pl.Qb5 (p := Pl.Qav l) hk2 h]; rfl
 rw [he.out] at T F;clear hx hA hO hd he hle c
 (repeat' (first | refine e1 (k := ?_) | refine e0 (k := ?_) | refine stepS (Qbh Ty.h rfl Ty.h rfl rfl rfl (by omega) hr) (k := ?_) | refine stepS (QbJ rfl rfl (by omega)) (k := ?_) | refine stepS (Qbs rfl rfl (by omega)) (k := ?_) | refine stepS (Qcj rfl rfl) (k := ?_) | refine Qbd ?_ | refine Qbp ?_ | refine Qb0 ?_ | refine Qbf ?_ | refine Qbc ?_ | refine Qbl (ht := ?_) | refine Qbm (hf := ?_) | refine Qbo (ht := fun q => ?_) (hf := fun q => ?_) | refine Qbj ?_ | refine Qbi ?_ | ((fail_if_success show ASeq _ _ _ _ ⟨_, (_, .d (.v (.bool true))) :: _, _⟩); (fail_if_success show ASeq _ _ _ _ ⟨_, (_, .d (.v (.bool false))) :: _, _⟩); refine splitS (fun q => ?_) (fun q => ?_))))
 all_goals clear hr
 all_goals simp only [decide_eq_true_eq, decide_eq_false_iff_not] at *
 all_goals generalize (x == []) = u at *
 all_goals first
  |(refine Qbt (16 - (k + 1)) (by omega) ⟨k + 1, out ++ x, by omega, rfl, by simp; omega, Pm.hid T2.out.symm, Pm.hid (T.out ?_), rfl⟩; clear T F T2; cases u <;> simp at * <;> omega)
  |(refine Qbn (hx := ?_); have hF : (!u && (decide (k + 1 = l.length) || decide (x.length = 128))) = false := by
     clear T F T2; cases u <;> simp at * <;> omega
    rw [F.out hF])
theorem QiE (s : Pm.Store) (hg : Pl.Good s) (n : Pl.Node) : Pure Tryz.prog 180 [dSt s, dNode n] (.tup [tEnts (Pl.ents s n).1, dB (Pl.ents s n).2]) := by
 have hd : Hid (Pl.ents s n = if Pl.Qak n && (n.kind == 2) && Pl.Qaf s n.tree && (Pl.blob (Pl.Qaa s n.tree)).2 && decide (((Pl.blob (Pl.Qaa s n.tree)).1.length : Int) = n.size) then Pl.eg (Pl.blob (Pl.Qaa s n.tree)).1 else ([], false)) := Pm.hid rfl;have c1 := aNodeOk n;have c2 := al8Ok s hg n.tree;cases h1 : Pl.Qaf s n.tree
 ·rw [h1] at c2 hd
  generalize Pl.Qak n = ok at *
  (refine Qbk Tryz.func180 rfl Tryz.ntmps180 Tryz.results180 rfl ?_; simp only [parE, Nat.zero_add, Nat.reduceAdd])
  (refine Qbf (Qbc ?_); (repeat (first | refine e1 (k := ?_) | refine e2 (k := ?_) | fail)); refine Qbd ?_)
  refine Qbg 0 (h := ?_);refine Qbg 1 (h := ?_)
  (repeat' (first | refine e1 (k := ?_) | refine e0 (k := ?_) | refine stepS (Qbe Tryz.call190 c1 rfl) (k := ?_) | refine stepS (Qbe Tryz.call138 c2 rfl) (k := ?_) | refine stepS2 (Qbz Ty.h rfl Ty.h) (k := ?_) | refine Qbd ?_ | refine Qbf ?_ | refine Qbc ?_ | refine Qbl (ht := ?_) | ((fail_if_success show ASeq _ _ _ _ ⟨_, (_, .d (.v (.bool true))) :: _, _⟩); (fail_if_success show ASeq _ _ _ _ ⟨_, (_, .d (.v (.bool false))) :: _, _⟩); refine splitS (fun q => ?_) (fun q => ?_))))
  all_goals
   (refine Qbg 2 (h := ?_); refine Qbn (hx := ?_))
   rw [hd.out]; simp
 have ht := QbL h1;have c3 := al9Get s hg n.tree ht
 have hb : (Pl.blob (Pl.Qaa s n.tree)).1.length <= 16 * 128 := by
  have hl := texts_len s ht;have hm := ht.manyHi;have hle := texts_le s hg n.tree;unfold Pl.blob;split
  ·simp only
   have : ∀ l : List (List UInt8), (∀ x ∈ l, x.length <= 128) -> l.flatten.length <= l.length * 128 := by
    intro l;induction l with
    |nil => intro _; simp
    |cons a l ih => intro h; have := ih fun x hx => h x (List.mem_cons_of_mem _ hx); have := h a List.mem_cons_self; rw [List.flatten_cons, List.length_append, List.length_cons]; omega
   have := this _ hle;omega
  ·simp
 have c4 := QiG (Pl.blob (Pl.Qaa s n.tree)).1 (by omega);rw [h1] at c2 hd;generalize Pl.Qak n = ok at *
 generalize Pl.blob (Pl.Qaa s n.tree) = bb at *
 obtain ⟨tx, fine⟩ := bb;simp only at hb c4 hd;generalize Pl.eg tx = r at *
 obtain ⟨es, good⟩ := r;clear h1 ht
 (refine Qbk Tryz.func180 rfl Tryz.ntmps180 Tryz.results180 rfl ?_; simp only [parE, Nat.zero_add, Nat.reduceAdd])
 (refine Qbf (Qbc ?_); (repeat (first | refine e1 (k := ?_) | refine e2 (k := ?_) | fail)); refine Qbd ?_)
 refine Qbg 0 (h := ?_);refine Qbg 1 (h := ?_)
 (repeat' (first | refine e1 (k := ?_) | refine e0 (k := ?_) | refine stepS (Qbe Tryz.call190 c1 rfl) (k := ?_) | refine stepS (Qbe Tryz.call138 c2 rfl) (k := ?_) | refine stepS (Qbe Tryz.call252 c3 rfl) (k := ?_) | refine stepS (Qbe Tryz.call253 c4 rfl) (k := ?_) | refine stepS2 (Qbz Ty.h rfl Ty.h) (k := ?_) | refine Qbd ?_ | refine Qbf ?_ | refine Qbc ?_ | refine Qbl (ht := ?_) | refine Qbm (hf := ?_) | refine Qbo (ht := fun q => ?_) (hf := fun q => ?_) | refine Qbj ?_ | ((fail_if_success show ASeq _ _ _ _ ⟨_, (_, .d (.v (.bool true))) :: _, _⟩); (fail_if_success show ASeq _ _ _ _ ⟨_, (_, .d (.v (.bool false))) :: _, _⟩); refine splitS (fun q => ?_) (fun q => ?_))))
 all_goals
  (first | refine Qbn (hx := ?_) | (refine Qbg 2 (h := ?_); refine Qbn (hx := ?_)))
  rw [hd.out];clear c1 c2 c3 c4 hd
  simp_all
theorem Qj5 (size : Int) (k : Nat) (h0 : 0 <= size) (h1 : size <= 2048) (hk : k <= 100) : Pure Tryz.prog 254 [dI size, dI k] (dI (Pl.long size k)) := by
 (refine Qbk Tryz.func254 rfl Tryz.ntmps254 Tryz.results254 rfl ?_; simp only [parE, Nat.zero_add, Nat.reduceAdd])
 (repeat' (first | refine e1 (k := ?_) | refine stepS (Qdw rfl rfl (by omega)) (k := ?_) | refine stepS (QbB rfl rfl (by omega)) (k := ?_) | refine stepS (Qlr rfl rfl) (k := ?_) | refine Qbd ?_ | refine Qbf ?_ | refine Qbc ?_ | fail))
 exact Qbn (hx := rfl)
theorem al13Ok (s : Pm.Store) (hg : Pl.Good s) (n : Pl.Node) : Pure Tryz.prog 184 [dSt s, dNode n] (dB (Pl.Qam s n)) := by
 have hd : Hid (Pl.Qam s n = (Pl.Qak n && (n.kind == 1) && Pl.Qaf s n.tree && (List.range n.tree.many.toNat).all (Pl.Qaz n.size (Pl.Qaa s n.tree)))) := Pm.hid rfl;have c1 := aNodeOk n;have c2 := al8Ok s hg n.tree
 by_cases hk : Pl.Qak n = true /\ n.kind = 1 /\ Pl.Qaf s n.tree = true
 rotate_left
 ·have hx : Hid (Pl.Qam s n = false) := Pm.hid (by
   rw [hd.out];cases h1 : Pl.Qak n
   ·rfl
   ·cases h2 : Pl.Qaf s n.tree
    ·simp
    ·have : (n.kind == 1) = false := by simpa using fun h => hk ⟨h1, h, h2⟩
     rw [this]; rfl)
  clear hd;generalize Pl.Qak n = ok at *
  generalize Pl.Qaf s n.tree = tok at *
  (refine Qbk Tryz.func184 rfl Tryz.ntmps184 Tryz.results184 rfl ?_; simp only [parE, Nat.zero_add, Nat.reduceAdd])
  (refine Qbf (Qbc ?_); (repeat (first | refine e1 (k := ?_) | refine e2 (k := ?_) | fail)); refine Qbd ?_)
  refine Qbg 0 (h := ?_);refine Qbg 1 (h := ?_)
  (repeat' (first | refine e1 (k := ?_) | refine e0 (k := ?_) | refine stepS (Qbe Tryz.call190 c1 rfl) (k := ?_) | refine stepS (Qbe Tryz.call138 c2 rfl) (k := ?_) | refine Qbd ?_ | refine Qbf ?_ | refine Qbc ?_ | refine Qbl (ht := ?_) | refine Qbo (ht := fun q => ?_) (hf := fun q => ?_) | refine Qbj ?_ | ((fail_if_success show ASeq _ _ _ _ ⟨_, (_, .d (.v (.bool true))) :: _, _⟩); (fail_if_success show ASeq _ _ _ _ ⟨_, (_, .d (.v (.bool false))) :: _, _⟩); refine splitS (fun q => ?_) (fun q => ?_))))
  all_goals first
   |(refine Qbn (hx := ?_); rw [hx.out]; done)
   |(exfalso; simp_all; done)
   |(exfalso; apply hk; simp_all)
 obtain ⟨h1, h2, h3⟩ := hk;have ht := QbL h3;have hb := QcI h1;have hs := hb.size;have c3 := Qeu s hg n.tree ht;have hl := texts_len s ht;have hle := texts_le s hg n.tree;have hm := ht.manyHi;have hm0 := ht.manyLo;have hd2 : Hid (Pl.Qam s n = (List.range n.tree.many.toNat).all (Pl.Qaz n.size (Pl.Qaa s n.tree))) := Pm.hid (by rw [hd.out, h1, h2, h3]; rfl);rw [h1] at c1;rw [h3] at c2;clear hd h1 h3 ht hb;generalize Pl.Qaa s n.tree = l at *
 obtain ⟨kind, links, size, ⟨root, depth, many⟩⟩ := n;simp only at h2 hs hl hm hm0 hd2 c1 c2 c3;subst h2
 (refine Qbk Tryz.func184 rfl Tryz.ntmps184 Tryz.results184 rfl ?_; simp only [parE, Nat.zero_add, Nat.reduceAdd])
 (refine Qbf (Qbc ?_); (repeat (first | refine e1 (k := ?_) | refine e2 (k := ?_) | fail)); refine Qbd ?_)
 refine Qbg 0 (h := ?_);refine Qbg 1 (h := ?_)
 (repeat' (first | refine e1 (k := ?_) | refine stepS (Qbe Tryz.call190 c1 rfl) (k := ?_) | refine stepS (Qbe Tryz.call138 c2 rfl) (k := ?_) | refine stepS (Qbe Tryz.call116 c3 rfl) (k := ?_) | refine Qbd ?_ | refine Qbf ?_ | refine Qbc ?_ | refine Qbm (hf := ?_) | refine Qbj ?_ | refine Qbi ?_ | fail))
 refine Qby (fun m st => ∃ (k : Nat), k <= l.length /\ m = 16 - k /\ Hid ((List.range k).all (Pl.Qaz size l) = true) /\
  st = ⟨51, [(5, .d (tStrs l)), (6, .d (dI k)), (3, .d (.pd (rNode ⟨1, links, size, ⟨root, depth, many⟩⟩)))], [.row 1 [], .row 1 []]⟩) [5, 6, 3] 2 16 ⟨0, by omega, rfl, Pm.hid rfl, rfl⟩ (round := ?_)
 rintro m st ⟨k, hk, rfl, hA, rfl⟩
 (repeat (first | refine e1 (k := ?_) | refine Qbd ?_ | refine Qbf ?_ | refine Qbc ?_ | fail))
 cases q4 : decide ((k : Int) < many)
 ·(repeat' (first | refine e1 (k := ?_) | refine Qbd ?_ | refine Qbf ?_ | refine Qbc ?_ | refine Qbm (hf := ?_) | refine Qbq ?_ | fail))
  refine Qbn (hx := ?_);have : k = many.toNat := by simp at q4; omega
  have h := hA.out;rw [this] at h;rw [hd2.out, h]
 have hk2 : k < l.length := by simp at q4; omega
 obtain ⟨x, hx⟩ : ∃ x, l[k]? = some x := ⟨_, List.getElem?_eq_getElem hk2⟩;have hr := Qbx (f := fun s => [dS s]) hx;have hxl := hle x (List.mem_of_getElem? hx);have he : Hid (Pl.Qaz size l k = (decide ((x.length : Int) <= Pl.long size k) && (Pl.cut0 x == x))) := Pm.hid (by unfold Pl.Qaz; simp only [List.getD_eq_getElem?_getD, hx, Option.getD_some]);have T : Hid (Pl.Qaz size l k = true -> (List.range (k + 1)).all (Pl.Qaz size l) = true) := fun h => Pl.Qb8 (p := Pl.Qaz size l) hA.out h
 have F : Hid (Pl.Qaz size l k = false -> Pl.Qam s ⟨1, links, size, ⟨root, depth, many⟩⟩ = false) := fun h => by
  rw [hd2.out, Pl.Qb5 (p := Pl.Qaz size l) (by omega) h]
 rw [he.out] at T F;have c4 := Qj5 size k hs.1 hs.2 (by omega);have c5 := al10Cut x (by unfold Pm.big; omega);clear hx hA hd2 he hle c1 c2 c3;generalize Pl.cut0 x = y at *
 generalize Pl.long size k = lg at *
 (repeat' (first | refine e1 (k := ?_) | refine e0 (k := ?_) | refine stepS (Qbe Tryz.call254 c4 rfl) (k := ?_) | refine stepS (Qbe Tryz.call255 c5 rfl) (k := ?_) | refine stepS (Qbh Ty.h rfl Ty.h rfl rfl rfl (by omega) hr) (k := ?_) | refine stepS (Qbs rfl rfl (by omega)) (k := ?_) | refine stepS (QbH rfl rfl) (k := ?_) | refine Qbd ?_ | refine Qbp ?_ | refine Qbf ?_ | refine Qbc ?_ | refine Qbl (ht := ?_) | refine Qbo (ht := fun q => ?_) (hf := fun q => ?_) | refine Qbj ?_ | refine Qbi ?_ | ((fail_if_success show ASeq _ _ _ _ ⟨_, (_, .d (.v (.bool true))) :: _, _⟩); (fail_if_success show ASeq _ _ _ _ ⟨_, (_, .d (.v (.bool false))) :: _, _⟩); refine splitS (fun q => ?_) (fun q => ?_))))
 all_goals clear hr c4 c5
 all_goals simp only [decide_eq_true_eq, decide_eq_false_iff_not] at *
 all_goals first
  |(refine Qbt (16 - (k + 1)) (by omega) ⟨k + 1, by omega, rfl, Pm.hid (T.out ?_), rfl⟩; clear T F; simp_all; try omega)
  |(refine Qbn (hx := ?_); rw [F.out ?_]; clear T F; simp_all; try omega)
end Aw
end
section
open Go.RowKit
namespace Aw
attribute [local irreducible] ASeq ADraw AWP Loc AStep Fg.PlanF Fg.Flts
theorem QkI : ∀ (p : List (List UInt8)), (∀ x ∈ p, x.length <= 4) -> (Pl.Qao p).length <= 5 * p.length + 1 := by
 intro p h
 have hf : ∀ p : List (List UInt8), (∀ x ∈ p, x.length <= 4) -> (p.flatMap (47 :: ·)).length <= 5 * p.length := by
  intro p;induction p with
  |nil => intro _; simp
  |cons a l ih =>
   intro h;have := ih fun x hx => h x (List.mem_cons_of_mem _ hx)
   have := h a List.mem_cons_self;rw [List.flatMap_cons, List.length_append, List.length_cons, List.length_cons]; omega
 unfold Pl.Qao;split
 ·simp
 ·have := hf p h; omega
theorem Qnb (s : Pm.Store) (n : Pl.Node) : (Pl.ents s n).1.length <= 12 := by
 rcases Qcs s n with h | h
 ·have := h.2
  unfold Pl.Qag at this;rw [Bool.and_eq_true, decide_eq_true_eq] at this;exact this.2
 ·rw [h]; decide
theorem Qex {x : List UInt8} (h : Pl.Qai x = true) : x.length <= 4 := by
 unfold Pl.Qai at h;simp at h; omega
theorem Qk8 (ns : List Pl.Node) (E : Pl.Node -> List Pl.Ent × Bool) : ∀ (n : Nat) (x : Pl.Fnd) (out : List Pl.Fnd), (Pl.wk ns E n x out).2 = true -> (Pl.wk ns E n x out).1.length <= 144
 |0, x, out, h => by cases h
 |n + 1, x, out, h => by
  have hf : ∀ (l : List Pl.Ent) (r : List Pl.Fnd × Bool), (r.2 = true -> r.1.length <= 144) -> (Pl.wks ns E n x.1 l r).2 = true -> (Pl.wks ns E n x.1 l r).1.length <= 144 := by
   intro l;induction l with
   |nil => intro r hr h; exact hr h
   |cons e l ih =>
    rintro ⟨o, b⟩ hr h;cases b
    ·rw [Qe7] at h; cases h
    ·rw [Qdg] at h ⊢
     exact ih _ (Qk8 ns E n _ o) h
  unfold Pl.wk at h ⊢;split at h
  ·cases h
  ·rename_i hc
   rw [if_neg hc];split at h
   ·rename_i hk
    rw [if_pos hk];have := not_or.1 hc;simp; omega
   ·rename_i hk
    rw [if_neg hk];refine hf _ _ (fun _ => ?_) h;have := not_or.1 hc;simp; omega
theorem Qny (s : Pm.Store) (hg : Pl.Good s) (ns : List Pl.Node) (hns : ns.length <= 16) : ∀ (n : Nat) (p : List (List UInt8)) (id : Int) (out : List Pl.Fnd) (g : Nat), 145 <= out.length + n -> out.length <= 144 -> p.length <= out.length -> (∀ x ∈ p, Pl.Qai x = true) ->
 Does Tryz.prog 183 [.d (dSt s), .d (.sl true 10 (ns.map rNode)), .d (.agg [dS (Pl.Qao p), dI id]), .osl 0 g 0 out.length] [.arr g 2 126 (out.map rFnd)] []
  (.tup [.osl 0 (g + ((Pl.wk ns (Pl.ents s) n (p, id) out).1.length - out.length)) 0 (Pl.wk ns (Pl.ents s) n (p, id) out).1.length, .d (dB (Pl.wk ns (Pl.ents s) n (p, id) out).2)])
  [.arr (g + ((Pl.wk ns (Pl.ents s) n (p, id) out).1.length - out.length)) 2 126 ((Pl.wk ns (Pl.ents s) n (p, id) out).1.map rFnd)] := by
 intro n;induction n with
 |zero => intro p id out g h1 h2; omega
 |succ n ih =>
  intro p id out g h1 h2 h3 hp;have hwl := (Qk9 ns (Pl.ents s) (n + 1) (p, id) out).2 (by omega)
  have hw : Hid (Pl.wk ns (Pl.ents s) (n + 1) (p, id) out = if 144 < out.length + 1 ∨ Pl.inR id 0 (ns.length - 1) = false ∨ (ns.getD id.toNat Pl.zn).kind = 0 then (out ++ [(p, id)], false) else
   if (ns.getD id.toNat Pl.zn).kind = 1 then (out ++ [(p, id)], true) else Pl.wks ns (Pl.ents s) n p (Pl.ents s (ns.getD id.toNat Pl.zn)).1 (out ++ [(p, id)], (Pl.ents s (ns.getD id.toNat Pl.zn)).2)) := Pm.hid rfl
  have hspl := QkI p fun x hx => Qex (hp x hx)
  have hnl : (ns.map rNode).length = ns.length := List.length_map ..;have hol : (out.map rFnd).length = out.length := List.length_map ..;have c1 := al6In id 0 (ns.length - 1);refine Qb9 Tryz.func183 rfl Tryz.ntmps183 Tryz.results183 rfl rfl ?hpin (fun gvs => ?_)
  case hpin =>
   intro i C hC
   match i, hC with
   |0, hC => obtain rfl := Option.some.inj hC; exact ⟨_, rfl, rfl, rfl, .inl (by omega)⟩
  simp only [parA, gslot, Nat.zero_add, Nat.reduceAdd]
  by_cases h144 : out.length = 144
  ·have hw2 : Hid (Pl.wk ns (Pl.ents s) (n + 1) (p, id) out = (out ++ [(p, id)], false)) := Pm.hid (by rw [hw.out, if_pos (.inl (by omega))])
   rw [hw2.out];clear hw hw2 ih hwl
   (refine Qbf (Qbc ?_); (repeat (first | refine e1 (k := ?_) | refine e2 (k := ?_) | fail)); refine Qbd ?_)
   refine Qbg 1 (h := ?_);refine Qbg 2 (h := ?_)
   (repeat' (first | refine e1 (k := ?_) | refine e0 (k := ?_) | refine stepS (Qbe Tryz.call40 c1 rfl) (k := ?_) | refine stepS (QbB rfl rfl (by omega)) (k := ?_) | refine QbO Ty.h rfl Ty.h (hb := ?_) (kk := ?_) | refine stepS2 (Qbz Ty.h rfl Ty.h) (k := ?_) | refine Qbd ?_ | refine Qbf ?_ | refine Qbc ?_ | refine Qbl (ht := ?_) | ((fail_if_success show ASeq _ _ _ _ ⟨_, (_, .d (.v (.bool true))) :: _, _⟩); (fail_if_success show ASeq _ _ _ _ ⟨_, (_, .d (.v (.bool false))) :: _, _⟩); refine splitS (fun q => ?_) (fun q => ?_))))
   all_goals first
    |(exfalso; simp only [decide_eq_false_iff_not] at *; omega)
    |(simp; omega)
    |(refine Qcm [8, 9, 1000000] 1 (h := ?_); refine QbN (hx := ?_) (hH := ?_) <;> simp <;> done)
  have h2' : out.length < 144 := by omega
  cases hR : Pl.inR id 0 (ns.length - 1)
  ·have hw2 : Hid (Pl.wk ns (Pl.ents s) (n + 1) (p, id) out = (out ++ [(p, id)], false)) := Pm.hid (by rw [hw.out, if_pos (.inr (.inl hR))])
   rw [hw2.out];rw [hR] at c1;clear hw hw2 ih hwl
   (refine Qbf (Qbc ?_); (repeat (first | refine e1 (k := ?_) | refine e2 (k := ?_) | fail)); refine Qbd ?_)
   refine Qbg 1 (h := ?_);refine Qbg 2 (h := ?_)
   (repeat' (first | refine e1 (k := ?_) | refine e0 (k := ?_) | refine stepS (Qbe Tryz.call40 c1 rfl) (k := ?_) | refine stepS (QbB rfl rfl (by omega)) (k := ?_) | refine QbO Ty.h rfl Ty.h (hb := ?_) (kk := ?_) | refine stepS2 (Qbz Ty.h rfl Ty.h) (k := ?_) | refine Qbd ?_ | refine Qbf ?_ | refine Qbc ?_ | refine Qbl (ht := ?_) | ((fail_if_success show ASeq _ _ _ _ ⟨_, (_, .d (.v (.bool true))) :: _, _⟩); (fail_if_success show ASeq _ _ _ _ ⟨_, (_, .d (.v (.bool false))) :: _, _⟩); refine splitS (fun q => ?_) (fun q => ?_))))
   all_goals first
    |(exfalso; simp only [decide_eq_true_eq] at *; omega)
    |(simp; omega)
    |(refine Qcm [8, 9, 1000000] 1 (h := ?_); refine QbN (hx := ?_) (hH := ?_) <;> simp <;> done)
  rw [hR] at c1;have hid : 0 <= id /\ id < ns.length := by simp [Pl.inR] at hR; omega
  obtain ⟨nd, hnd⟩ : ∃ nd, ns[id.toNat]? = some nd := ⟨_, List.getElem?_eq_getElem (by omega)⟩;have hgd : ns.getD id.toNat Pl.zn = nd := by rw [List.getD_eq_getElem?_getD, hnd]; rfl
  have hr : (ns.map rNode)[id.toNat]? = some (rNode nd) := by rw [List.getElem?_map, hnd]; rfl
  rw [hgd] at hw
  have hc : ¬ (144 < out.length + 1 ∨ Pl.inR id 0 (ns.length - 1) = false ∨ nd.kind = 0) ∨ nd.kind = 0 := by
   by_cases h0 : nd.kind = 0
   ·exact .inr h0
   ·exact .inl (by rw [hR]; simp [h0]; omega)
  clear hgd hnd
  by_cases hk0 : nd.kind = 0
  ·have hw2 : Hid (Pl.wk ns (Pl.ents s) (n + 1) (p, id) out = (out ++ [(p, id)], false)) := Pm.hid (by rw [hw.out, if_pos (.inr (.inr hk0))])
   rw [hw2.out];clear hw hw2 ih hwl hc
   (refine Qbf (Qbc ?_); (repeat (first | refine e1 (k := ?_) | refine e2 (k := ?_) | fail)); refine Qbd ?_)
   refine Qbg 1 (h := ?_);refine Qbg 2 (h := ?_)
   (repeat' (first | refine f1 (k := ?_) | refine e1 (k := ?_) | refine e0 (k := ?_) | refine stepS (Qbe Tryz.call40 c1 rfl) (k := ?_) | refine stepS (QbB rfl rfl (by omega)) (k := ?_) | refine stepD (Qbh Ty.h rfl Ty.h rfl rfl rfl hid.1 hr) (k := ?_) | refine stepS (Qbh Ty.h rfl Ty.h rfl rfl rfl hid.1 hr) (k := ?_) | refine QbO Ty.h rfl Ty.h (hb := ?_) (kk := ?_) | refine stepS2 (Qbz Ty.h rfl Ty.h) (k := ?_) | refine Qbd ?_ | refine Qbf ?_ | refine Qbc ?_ | refine Qb1 follows_mixed (by kernel_rfl) (by kernel_rfl) ?_ | refine Qbl (ht := ?_) | refine Qbo (ht := fun q => ?_) (hf := fun q => ?_) | refine Qbj ?_ | ((fail_if_success show ASeq _ _ _ _ ⟨_, (_, .d (.v (.bool true))) :: _, _⟩); (fail_if_success show ASeq _ _ _ _ ⟨_, (_, .d (.v (.bool false))) :: _, _⟩); refine splitS (fun q => ?_) (fun q => ?_))))
   all_goals first
    |(exfalso; simp only [decide_eq_true_eq] at *; omega)
    |(exfalso; simp only [beq_eq_false_iff_ne] at *; omega)
    |(simp; omega)
    |(refine Qcm [8, 9, 1000000] 1 (h := ?_); refine QbN (hx := ?_) (hH := ?_) <;> simp <;> done)
  have hc := hc.resolve_right hk0
  by_cases hk1 : nd.kind = 1
  ·have hw2 : Hid (Pl.wk ns (Pl.ents s) (n + 1) (p, id) out = (out ++ [(p, id)], true)) := Pm.hid (by rw [hw.out, if_neg hc, if_pos hk1])
   rw [hw2.out];clear hw hw2 ih hwl hc
   (refine Qbf (Qbc ?_); (repeat (first | refine e1 (k := ?_) | refine e2 (k := ?_) | fail)); refine Qbd ?_)
   refine Qbg 1 (h := ?_);refine Qbg 2 (h := ?_)
   (repeat' (first | refine f1 (k := ?_) | refine e1 (k := ?_) | refine e0 (k := ?_) | refine stepS (Qbe Tryz.call40 c1 rfl) (k := ?_) | refine stepS (QbB rfl rfl (by omega)) (k := ?_) | refine stepD (Qbh Ty.h rfl Ty.h rfl rfl rfl hid.1 hr) (k := ?_) | refine stepS (Qbh Ty.h rfl Ty.h rfl rfl rfl hid.1 hr) (k := ?_) | refine QbO Ty.h rfl Ty.h (hb := ?_) (kk := ?_) | refine stepS2 (Qbz Ty.h rfl Ty.h) (k := ?_) | refine Qbd ?_ | refine Qbf ?_ | refine Qbc ?_ | refine Qb1 follows_mixed (by kernel_rfl) (by kernel_rfl) ?_ | refine Qbl (ht := ?_) | refine Qbo (ht := fun q => ?_) (hf := fun q => ?_) | refine Qbj ?_ | ((fail_if_success show ASeq _ _ _ _ ⟨_, (_, .d (.v (.bool true))) :: _, _⟩); (fail_if_success show ASeq _ _ _ _ ⟨_, (_, .d (.v (.bool false))) :: _, _⟩); refine splitS (fun q => ?_) (fun q => ?_))))
   all_goals first
    |(exfalso; simp only [decide_eq_true_eq] at *; omega)
    |(exfalso; simp only [beq_eq_false_iff_ne, beq_iff_eq] at *; omega)
    |(simp; omega)
    |(refine Qcm [8, 9, 1000000] 1 (h := ?_); refine QbN (hx := ?_) (hH := ?_) <;> simp <;> done)
  have hw2 : Hid (Pl.wk ns (Pl.ents s) (n + 1) (p, id) out = Pl.wks ns (Pl.ents s) n p (Pl.ents s nd).1 (out ++ [(p, id)], (Pl.ents s nd).2)) := Pm.hid (by rw [hw.out, if_neg hc, if_neg hk1]);have c2 := QiE s hg nd;have heb := Qjl s nd;have hes := Qnb s nd;clear hw hc;generalize Pl.ents s nd = ee at *
  obtain ⟨es, ok0⟩ := ee;simp only at hw2 heb hes;obtain ⟨kind, links, size, ⟨⟨p1, p2, p3, p4, p5⟩, depth, many⟩⟩ := nd;simp only at hk0 hk1
  (refine Qbf (Qbc ?_); (repeat (first | refine e1 (k := ?_) | refine e2 (k := ?_) | fail)); refine Qbd ?_)
  refine Qbg 1 (h := ?_);refine Qbg 2 (h := ?_)
  (repeat' (first | refine f1 (k := ?_) | refine e1 (k := ?_) | refine e0 (k := ?_) | refine stepS (Qbe Tryz.call40 c1 rfl) (k := ?_) | refine stepD (Qbe Tryz.call180 c2 rfl) (k := ?_) | refine stepS (QbB rfl rfl (by omega)) (k := ?_) | refine stepD (Qbh Ty.h rfl Ty.h rfl rfl rfl hid.1 hr) (k := ?_) | refine stepS (Qbh Ty.h rfl Ty.h rfl rfl rfl hid.1 hr) (k := ?_) | refine QbO Ty.h rfl Ty.h (hb := ?_) (kk := ?_) | refine stepS2 (Qbz Ty.h rfl Ty.h) (k := ?_) | refine Qbd ?_ | refine Qbr ?_ | refine Qbf ?_ | refine Qbc ?_ | refine Qb1 follows_mixed (by kernel_rfl) (by kernel_rfl) ?_ | refine Qbl (ht := ?_) | refine Qbo (ht := fun q => ?_) (hf := fun q => ?_) | refine Qbj ?_ | refine Qbi ?_ | ((fail_if_success show ASeq _ _ _ _ ⟨_, (_, .d (.v (.bool true))) :: _, _⟩); (fail_if_success show ASeq _ _ _ _ ⟨_, (_, .d (.v (.bool false))) :: _, _⟩); refine splitS (fun q => ?_) (fun q => ?_))))
  all_goals first
   |(exfalso; simp only [decide_eq_true_eq] at *; omega)
   |(exfalso; simp only [beq_eq_false_iff_ne, beq_iff_eq] at *; omega)
   |(simp; omega)
   |skip
  generalize hsp : Pl.Qao p = sp at hspl
  refine Qby (fun m st => ∃ (k gg : Nat) (o : List Pl.Fnd) (b : Bool), k <= es.length /\ m = es.length - k /\ out.length + 1 <= o.length /\ gg = g + (o.length - out.length) /\ Hid (Pl.wk ns (Pl.ents s) (n + 1) (p, id) out = Pl.wks ns (Pl.ents s) n p (es.drop k) (o, b)) /\
   (b = true -> o.length <= 144) /\ st = ⟨101, [(3, .osl 0 gg 0 o.length), (10, .d (tEnts es)), (11, .d (dB b)), (12, .d (dI k)), (1, .d (.sl true 10 (ns.map rNode))), (4, .d (.pd (rSt s))), (6, .d (.pd [dS sp, dI id])), (1000000, .gh [] gvs)], [.arr gg 2 126 (o.map rFnd), .row 1 [], .row 1 []]⟩)
   [3, 10, 11, 12, 1, 4, 6, 1000000] 3 es.length ⟨0, g + 1, out ++ [(p, id)], ok0, by omega, rfl, by simp, by simp, Pm.hid hw2.out, fun _ => by simp; omega, ?_⟩ (round := ?_)
  ·rw [<- hsp]; simp [keepE, go_sem]
  rintro m st ⟨k, gg, o, b, hk, rfl, hol2, hgg, hW, hb, rfl⟩
  by_cases hkb : k < es.length /\ b = true
  rotate_left
  ·have hw3 : Hid (Pl.wk ns (Pl.ents s) (n + 1) (p, id) out = (o, b)) := Pm.hid (by
    rw [hW.out]
    by_cases hb2 : b = true
    ·have hk2 : k = es.length := by have : ¬ k < es.length := fun h => hkb ⟨h, hb2⟩; omega
     rw [hk2, List.drop_length]; rfl
    ·have : b = false := by simpa using hb2
     rw [this, Qe7])
   clear hW hw2 ih hwl
   (repeat' (first | refine f1 (k := ?_) | refine e1 (k := ?_) | refine e0 (k := ?_) | refine Qbd ?_ | refine Qbf ?_ | refine Qbc ?_ | refine Qb1 follows_mixed (by kernel_rfl) (by kernel_rfl) ?_ | refine Qbm (hf := ?_) | refine Qbo (ht := fun q => ?_) (hf := fun q => ?_) | refine Qbj ?_ | refine Qbi ?_ | refine Qbq ?_ | ((fail_if_success show ASeq _ _ _ _ ⟨_, (_, .d (.v (.bool true))) :: _, _⟩); (fail_if_success show ASeq _ _ _ _ ⟨_, (_, .d (.v (.bool false))) :: _, _⟩); refine splitS (fun q => ?_) (fun q => ?_))))
   all_goals first
    |(exfalso; simp only [decide_eq_true_eq] at *; exact hkb ⟨by omega, by assumption⟩)
    |(refine Qcm [8, 9, 1000000] 1 (h := ?_); refine QbN (hx := ?_) (hH := ?_) <;> rw [hw3.out, hgg]; done)
  obtain ⟨hk2, rfl⟩ := hkb;have hb := hb rfl;obtain ⟨e, he⟩ : ∃ e, es[k]? = some e := ⟨_, List.getElem?_eq_getElem hk2⟩;have hre := Qbx (f := rEnt) he;have hen := (heb e (List.mem_of_getElem? he)).1
  have IH := ih (p ++ [e.1]) e.2 o gg (by omega) hb (by simp; omega) (fun x hx => by
   rcases List.mem_append.1 hx with hx | hx
   ·exact hp x hx
   ·rw [List.mem_singleton] at hx; rw [hx]; exact hen)
  have hP := names_p hp;have hroot : Hid (sp = [47] ↔ p = []) := Pm.hid (by rw [<- hsp]; exact QjD hP);have hsn : Pl.Qao (p ++ [e.1]) = if p = [] then [47] ++ e.1 else sp ++ [47] ++ e.1 := by rw [QjC, hsp]; split <;> simp
  have hstep : Hid (Pl.wk ns (Pl.ents s) (n + 1) (p, id) out = Pl.wks ns (Pl.ents s) n p (es.drop (k + 1)) (Pl.wk ns (Pl.ents s) n (p ++ [e.1], e.2) o)) := Pm.hid (by rw [hW.out, QeQ he, Qdg]);have hlen := (Qk9 ns (Pl.ents s) n (p ++ [e.1], e.2) o).1;have htrue := Qk8 ns (Pl.ents s) n (p ++ [e.1], e.2) o;have hnl4 := Qex hen;rw [hsn] at IH;clear ih hW hw2 hwl he heb hsn hsp hp;generalize Pl.wk ns (Pl.ents s) n (p ++ [e.1], e.2) o = r at *
  obtain ⟨o', b'⟩ := r;obtain ⟨nm, eid⟩ := e;simp only at IH hlen htrue hnl4 hstep hre
  by_cases hp0 : p = []
  ·rw [if_pos hp0] at IH
   have hsp2 : sp = [47] := hroot.out.2 hp0;subst hsp2
   (repeat' (first | refine f1 (k := ?_) | refine e1 (k := ?_) | refine e0 (k := ?_) | refine (Fg.awp_drawF (id := 13) [] [10] follows_mixed (by kernel_rfl) (by kernel_rfl) (by kernel_rfl) ?_) | refine (Fg.aw_fltN ?_) | refine (Fg.aw_planFC (by rfl) (by kernel_rfl) rfl ?_) | refine (Fg.aw_planFN ?_) | refine stepD (Qbh Ty.h rfl Ty.h rfl rfl rfl (by omega) hre) (k := ?_) | refine stepS (Qbh Ty.h rfl Ty.h rfl rfl rfl (by omega) hre) (k := ?_) | refine stepD (QbJ (l := [47]) (m := [47]) rfl rfl (by first | omega | (simp; omega))) (k := ?_) | refine stepS (QbJ (l := [47]) rfl rfl (by first | omega | (simp; omega))) (k := ?_) | refine stepD (QbJ rfl rfl (by first | omega | (simp; omega))) (k := ?_) | refine (QeU [0] IH Tryz.call183 (k := ?_)) | refine stepS (Qbs rfl rfl (by omega)) (k := ?_) | refine stepS (Qcj rfl rfl) (k := ?_) | refine Qbd ?_ | refine Qbp ?_ | refine Qbr ?_ | refine QbE ?_ | refine Qbf ?_ | refine Qbc ?_ | refine Qb1 follows_mixed (by kernel_rfl) (by kernel_rfl) ?_ | refine Qbl (ht := ?_) | refine Qbm (hf := ?_) | refine Qbj ?_ | refine Qbi ?_ | refine Qbq ?_ | ((fail_if_success show ASeq _ _ _ _ ⟨_, (_, .d (.v (.bool true))) :: _, _⟩); (fail_if_success show ASeq _ _ _ _ ⟨_, (_, .d (.v (.bool false))) :: _, _⟩); refine splitS (fun q => ?_) (fun q => ?_))))
   all_goals first
    |(refine Qbt (es.length - (k + 1)) (by omega) ⟨k + 1, gg + (o'.length - o.length), o', b', by omega, rfl, by omega, by omega, Pm.hid hstep.out, htrue, ?_⟩; simp [keepE, go_sem]; done)
    |(exfalso; simp at q; done)
    |(exfalso; simp only [decide_eq_false_iff_not] at *; omega)
    |(exfalso; simp_all; done)
  ·rw [if_neg hp0] at IH
   have hsp2 : ¬ sp = [47] := fun h => hp0 (hroot.out.1 h)
   (repeat' (first | refine f1 (k := ?_) | refine e1 (k := ?_) | refine e0 (k := ?_) | refine (Fg.awp_drawF (id := 13) [] [10] follows_mixed (by kernel_rfl) (by kernel_rfl) (by kernel_rfl) ?_) | refine (Fg.aw_fltN ?_) | refine (Fg.aw_planFC (by rfl) (by kernel_rfl) rfl ?_) | refine (Fg.aw_planFN ?_) | refine stepD (Qbh Ty.h rfl Ty.h rfl rfl rfl (by omega) hre) (k := ?_) | refine stepS (Qbh Ty.h rfl Ty.h rfl rfl rfl (by omega) hre) (k := ?_) | refine stepD (QbJ (m := [47]) rfl rfl (by first | omega | (simp; omega))) (k := ?_) | refine stepS (QbJ (l := [47]) rfl rfl (by first | omega | (simp; omega))) (k := ?_) | refine stepD (QbJ rfl rfl (by first | omega | (simp; omega))) (k := ?_) | refine stepS (Qcj (m := [47]) rfl rfl) (k := ?_) | refine (QeU [0] IH Tryz.call183 (k := ?_)) | refine stepS (Qbs rfl rfl (by omega)) (k := ?_) | refine Qbd ?_ | refine Qbp ?_ | refine Qbr ?_ | refine QbE ?_ | refine Qbf ?_ | refine Qbc ?_ | refine Qb1 follows_mixed (by kernel_rfl) (by kernel_rfl) ?_ | refine Qbl (ht := ?_) | refine Qbm (hf := ?_) | refine Qbo (ht := fun q => ?_) (hf := fun q => ?_) | refine Qbj ?_ | refine Qbi ?_ | refine Qbq ?_ | ((fail_if_success show ASeq _ _ _ _ ⟨_, (_, .d (.v (.bool true))) :: _, _⟩); (fail_if_success show ASeq _ _ _ _ ⟨_, (_, .d (.v (.bool false))) :: _, _⟩); refine splitS (fun q => ?_) (fun q => ?_))))
   all_goals first
    |(refine Qbt (es.length - (k + 1)) (by omega) ⟨k + 1, gg + (o'.length - o.length), o', b', by omega, rfl, by omega, by omega, Pm.hid hstep.out, htrue, ?_⟩; simp [keepE, go_sem]; done)
    |(exfalso; simp at q; done)
    |(exfalso; simp only [decide_eq_false_iff_not] at *; omega)
    |(exfalso; simp_all; done)
abbrev tFnds (l : List Pl.Fnd) : D := .sl true 2 (l.map rFnd)
noncomputable def Pl.QaQ (s : Pm.Store) (t : Pl.Tree) : List Pl.Fnd × Bool := if Pl.Qaq s t then ((Pl.QaA s t).1, true) else ([], false)
def Pl.cnt (out : List Pl.Fnd) (N : Nat) : List Int := (List.range N).map fun k => ((Pl.many out k : Nat) : Int)
theorem cnt_nil (N : Nat) : Pl.cnt [] N = List.replicate N 0 := by
 refine List.ext_getElem (by simp [Pl.cnt]) fun i hi hi' => by simp [Pl.cnt, Pl.many]
theorem QlV (out : List Pl.Fnd) {N k : Nat} (h : k < N) : (Pl.cnt out N)[k]? = some ((Pl.many out k : Nat) : Int) := by
 unfold Pl.cnt; rw [List.getElem?_map, List.getElem?_range h]; rfl
theorem Qnk (out : List Pl.Fnd) (x : Pl.Fnd) {N : Nat} (h0 : 0 <= x.2) (_h : x.2 < N) : Pl.cnt (out ++ [x]) N = (Pl.cnt out N).set x.2.toNat (((Pl.many out x.2.toNat : Nat) : Int) + 1) := by
 refine List.ext_getElem (by simp [Pl.cnt]) fun i hi hi' => ?_
 rw [List.getElem_set];simp only [Pl.cnt, List.getElem_map, List.getElem_range];unfold Pl.many;rw [List.map_append, List.count_append];split
 ·rename_i e; subst e
  have : ((x.2.toNat : Nat) : Int) = x.2 := by omega
  rw [this]; simp
 ·rename_i e
  have : (x.2 == (i : Int)) = false := by simp; omega
  simp [List.count_cons, this]
theorem many_le (out : List Pl.Fnd) (k : Nat) : Pl.many out k <= out.length := by
 unfold Pl.many;refine Nat.le_trans (List.count_le_length) (by simp)
theorem al15All (s : Pm.Store) (hg : Pl.Good s) (t : Pl.Tree) : Pure Tryz.prog 115 [dSt s, dTree t] (.tup [tFnds (Pl.QaQ s t).1, dB (Pl.QaQ s t).2]) := by
 have hd : Hid (Pl.QaQ s t = if Pl.Qaq s t then ((Pl.QaA s t).1, true) else ([], false)) := Pm.hid rfl;have hf : Hid (Pl.Qaq s t = (Pl.Qa2 s t && ((Pl.Qac s t).getD 0 Pl.zn).kind == 2 && (Pl.QaA s t).2 && (List.range (Pl.Qac s t).length).all (Pl.Qat s (Pl.Qac s t) (Pl.QaA s t).1))) := Pm.hid rfl;have c0 := al11Ok s hg t;cases h0 : Pl.Qa2 s t
 ·rw [h0] at c0
  have hx : Hid (Pl.QaQ s t = ([], false)) := Pm.hid (by rw [hd.out, hf.out, h0]; rfl)
  (refine Qbk Tryz.func115 rfl Tryz.ntmps115 Tryz.results115 rfl ?_; simp only [parE, Nat.zero_add, Nat.reduceAdd])
  (refine Qbf (Qbc ?_); (repeat (first | refine e1 (k := ?_) | refine e2 (k := ?_) | fail)); refine Qbd ?_)
  refine Qbg 0 (h := ?_);refine Qbg 1 (h := ?_)
  (repeat' (first | refine e1 (k := ?_) | refine stepS (Qbe Tryz.call182 c0 rfl) (k := ?_) | refine stepS2 (Qbz Ty.h rfl Ty.h) (k := ?_) | refine Qbd ?_ | refine Qbf ?_ | refine Qbc ?_ | refine Qbl (ht := ?_) | fail))
  (refine Qbg 2 (h := ?_); refine Qbn (hx := ?_))
  rw [hx.out]; rfl
 rw [h0] at c0 hf;have ht : Pl.TGood t := QbL (by unfold Pl.Qa2 at h0; rw [Bool.and_eq_true] at h0; exact h0.1);have c1 := QhN s hg t ht;have hnl : (Pl.Qac s t).length <= 16 := by unfold Pl.Qac; rw [List.length_map, texts_len s ht]; have := ht.manyHi; omega
 have hids : Hid (((Pl.Qac s t).getD 0 Pl.zn).kind = 2 -> (Pl.QaA s t).2 = true -> (Pl.QaA s t).1.length <= 144 /\ ∀ x ∈ (Pl.QaA s t).1, 0 <= x.2 /\ x.2 < (Pl.Qac s t).length) := Pm.hid fun h1 h2 => by
  obtain ⟨L, g1, g2, g3⟩ := Qg1 s h1 h2;rw [g3];refine ⟨by simpa using g2, fun x hx => ?_⟩;obtain ⟨y, hy, rfl⟩ := List.mem_map.1 hx;have := g1.fd.kinds y.2 (List.mem_map.2 ⟨y, hy, rfl⟩);have hk : y.2 < (Pl.Qac s t).length := Qca (by rcases this with h | ⟨h, _⟩ <;> rw [h] <;> decide);simp only [Pl.itOf]; omega
 have W := Qny s hg (Pl.Qac s t) hnl 145 [] 0 [] 0 (by simp) (by simp) (by simp) (by intro x hx; cases hx);have hfd : Hid (Pl.QaA s t = Pl.wk (Pl.Qac s t) (Pl.ents s) 145 ([], 0) []) := Pm.hid rfl;rw [<- hfd.out] at W;rw [show Pl.Qao [] = [47] from rfl] at W
 have hB : ∀ n ∈ Pl.Qac s t, n = Pl.zn ∨ NodeB n := fun n hn => by
  unfold Pl.Qac at hn;obtain ⟨x, _, rfl⟩ := List.mem_map.1 hn;rcases Qig x with h | h
  ·exact .inr h
  ·exact .inl h
 have hB := Pm.hid hB;have c13 := Pm.hid fun n => al13Ok s hg n
 have hnf : Hid (∀ out k nd, (Pl.Qac s t)[k]? = some nd -> Pl.Qat s (Pl.Qac s t) out k = ((nd.kind == 0 || ((Pl.many out k : Int) == nd.links)) && (!(nd.kind == 1) || Pl.Qam s nd))) := Pm.hid fun out k nd h => by
  unfold Pl.Qat; rw [List.getD_eq_getElem?_getD, h]; rfl
 clear h0 ht hfd;generalize Pl.QaA s t = fo at *
 generalize Pl.Qac s t = ns at *
 obtain ⟨out, ok⟩ := fo;simp only [List.map_nil, List.length_nil, Nat.sub_zero, Nat.zero_add] at W;simp only at hd hf hids;have hnm : (ns.map rNode).length = ns.length := List.length_map ..
 by_cases h2 : (ns.getD 0 Pl.zn).kind = 2
 rotate_left
 ·have hx : Hid (Pl.QaQ s t = ([], false)) := Pm.hid (by
   rw [hd.out, hf.out];have : ((ns.getD 0 Pl.zn).kind == 2) = false := by simpa using h2
   rw [this]; rfl)
  cases ns with
  |nil =>
   (refine Qbk Tryz.func115 rfl Tryz.ntmps115 Tryz.results115 rfl ?_; simp only [parE, Nat.zero_add, Nat.reduceAdd])
   (refine Qbf (Qbc ?_); (repeat (first | refine e1 (k := ?_) | refine e2 (k := ?_) | fail)); refine Qbd ?_)
   refine Qbg 0 (h := ?_);refine Qbg 1 (h := ?_)
   (repeat' (first | refine e1 (k := ?_) | refine e0 (k := ?_) | refine stepS (Qbe Tryz.call182 c0 rfl) (k := ?_) | refine stepS (Qbe Tryz.call56 c1 rfl) (k := ?_) | refine stepS2 (Qbz Ty.h rfl Ty.h) (k := ?_) | refine Qbd ?_ | refine Qbf ?_ | refine Qbc ?_ | refine Qbl (ht := ?_) | refine Qbm (hf := ?_) | refine Qbj ?_ | fail))
   (refine Qbg 2 (h := ?_); refine Qbn (hx := ?_))
   rw [hx.out]; rfl
  |cons n0 ns =>
   have hr : ((n0 :: ns).map rNode)[((0 : Nat) : Int).toNat]? = some (rNode n0) := rfl;have h2 : ¬ n0.kind = 2 := h2
   (refine Qbk Tryz.func115 rfl Tryz.ntmps115 Tryz.results115 rfl ?_; simp only [parE, Nat.zero_add, Nat.reduceAdd])
   (refine Qbf (Qbc ?_); (repeat (first | refine e1 (k := ?_) | refine e2 (k := ?_) | fail)); refine Qbd ?_)
   refine Qbg 0 (h := ?_);refine Qbg 1 (h := ?_)
   (repeat' (first | refine e1 (k := ?_) | refine stepS (Qbe Tryz.call182 c0 rfl) (k := ?_) | refine stepS (Qbe Tryz.call56 c1 rfl) (k := ?_) | refine stepS (Qbh Ty.h rfl Ty.h rfl rfl rfl (by omega) hr) (k := ?_) | refine stepS2 (Qbz Ty.h rfl Ty.h) (k := ?_) | refine Qbd ?_ | refine Qbf ?_ | refine Qbc ?_ | refine Qbm (hf := ?_) | refine Qbo (ht := fun q => ?_) (hf := fun q => ?_) | refine Qbj ?_ | fail))
   all_goals first
    |(exfalso; simp at q; omega)
    |((refine Qbg 2 (h := ?_); refine Qbn (hx := ?_)); rw [hx.out]; rfl)
 have hlen0 : 0 < ns.length := by
  cases ns with
  |nil => exact absurd h2 (by decide)
  |cons n0 ns => simp
 obtain ⟨n0, hn0⟩ : ∃ n0, ns[0]? = some n0 := ⟨_, List.getElem?_eq_getElem hlen0⟩;have hk0 : n0.kind = 2 := by rw [List.getD_eq_getElem?_getD, hn0] at h2; exact h2
 have hr0 : (ns.map rNode)[(0 : Int).toNat]? = some (rNode n0) := by show (ns.map rNode)[0]? = _; rw [List.getElem?_map, hn0]; rfl
 have h2b : ((ns.getD 0 Pl.zn).kind == 2) = true := by simpa using h2
 cases ok
 ·have hx : Hid (Pl.QaQ s t = ([], false)) := Pm.hid (by rw [hd.out, hf.out, h2b]; rfl)
  clear hB hnf hids hf hd
  (refine Qbk Tryz.func115 rfl Tryz.ntmps115 Tryz.results115 rfl ?_; simp only [parE, Nat.zero_add, Nat.reduceAdd])
  (refine Qbf (Qbc ?_); (repeat (first | refine e1 (k := ?_) | refine e2 (k := ?_) | fail)); refine Qbd ?_)
  refine Qbg 0 (h := ?_);refine Qbg 1 (h := ?_)
  (repeat' (first | refine e1 (k := ?_) | refine e0 (k := ?_) | refine stepS (Qbe Tryz.call182 c0 rfl) (k := ?_) | refine stepS (Qbe Tryz.call56 c1 rfl) (k := ?_) | refine stepS (Qbh Ty.h rfl Ty.h rfl rfl rfl (by omega) hr0) (k := ?_) | refine (Qcy [2] W Tryz.call183 (k := ?_)) | refine stepS2 (Qbz Ty.h rfl Ty.h) (k := ?_) | refine Qbd ?_ | refine Qbf ?_ | refine Qbc ?_ | refine Qbl (ht := ?_) | refine Qbm (hf := ?_) | refine Qbo (ht := fun q => ?_) (hf := fun q => ?_) | refine Qbj ?_ | ((fail_if_success show ASeq _ _ _ _ ⟨_, (_, .d (.v (.bool true))) :: _, _⟩); (fail_if_success show ASeq _ _ _ _ ⟨_, (_, .d (.v (.bool false))) :: _, _⟩); refine splitS (fun q => ?_) (fun q => ?_))))
  all_goals first
   |(exfalso; simp at q; omega)
   |(exfalso; simp only [beq_iff_eq] at q; omega)
   |((refine Qbg 3 (h := ?_); refine Qbn (hx := ?_)); rw [hx.out]; rfl)
 obtain ⟨hol, hid⟩ := hids.out h2 rfl;have hf2 : Hid (Pl.Qaq s t = (List.range ns.length).all (Pl.Qat s ns out)) := Pm.hid (by rw [hf.out, h2b]; rfl);clear hids hf;have hid := Pm.hid hid
 (refine Qbk Tryz.func115 rfl Tryz.ntmps115 Tryz.results115 rfl ?_; simp only [parE, Nat.zero_add, Nat.reduceAdd])
 (refine Qbf (Qbc ?_); (repeat (first | refine e1 (k := ?_) | refine e2 (k := ?_) | fail)); refine Qbd ?_)
 refine Qbg 0 (h := ?_);refine Qbg 1 (h := ?_)
 (repeat' (first | refine e1 (k := ?_) | refine e0 (k := ?_) | refine stepS (Qbe Tryz.call182 c0 rfl) (k := ?_) | refine stepS (Qbe Tryz.call56 c1 rfl) (k := ?_) | refine stepS (Qbh Ty.h rfl Ty.h rfl rfl rfl (by omega) hr0) (k := ?_) | refine (Qcy [2] W Tryz.call183 (k := ?_)) | refine stepS2 (Qcw Ty.h rfl Ty.h rfl rfl rfl (by simp; omega) (by omega)) (k := ?_) | refine stepS2 (Qbz Ty.h rfl Ty.h) (k := ?_) | refine Qbd ?_ | refine Qbf ?_ | refine Qbc ?_ | refine Qbl (ht := ?_) | refine Qbm (hf := ?_) | refine Qbo (ht := fun q => ?_) (hf := fun q => ?_) | refine Qbj ?_ | refine Qbi ?_ | ((fail_if_success show ASeq _ _ _ _ ⟨_, (_, .d (.v (.bool true))) :: _, _⟩); (fail_if_success show ASeq _ _ _ _ ⟨_, (_, .d (.v (.bool false))) :: _, _⟩); refine splitS (fun q => ?_) (fun q => ?_))))
 all_goals first
  |(exfalso; simp only [beq_iff_eq] at q; omega)
  |(exfalso; simp at q; omega)
  |skip
 refine Qbg 2 (h := ?_)
 refine Qby (fun m st => ∃ j : Nat, j <= out.length /\ m = out.length - j /\ st = ⟨110, [(10, .d (dI j)), (9, .osl 3 0 0 ns.length), (7, .d (tFnds out)), (6, .d (.sl true 10 (ns.map rNode))), (2, .d (.pd (rSt s)))],
  [.row 1 [], .row 1 [], .arr (out.length + 1) 2 126 [], .arr 0 1 3 ((Pl.cnt (out.take j) ns.length).map fun n => [dI n])]⟩) [10, 9, 7, 6, 2] 4 out.length ⟨0, by omega, rfl, ?_⟩ (round := ?_)
 ·simp [keepE, go_sem, cnt_nil, List.take_of_length_le]
 rintro m st ⟨j, hj, rfl, rfl⟩
 (repeat (first | refine e1 (k := ?_) | refine Qbd ?_ | refine Qbf ?_ | refine Qbc ?_ | fail))
 cases q3 : decide ((j : Int) < (out.length : Int));rotate_left
 ·have hj2 : j < out.length := by simp at q3; omega
  obtain ⟨x, hx⟩ : ∃ x, out[j]? = some x := ⟨_, List.getElem?_eq_getElem hj2⟩;have hr := Qbx (f := rFnd) hx;have hxi := hid.out x (List.mem_of_getElem? hx)
  have hrm : ((Pl.cnt (out.take j) ns.length).map fun n => [dI n])[0 + x.2.toNat]? = some [dI ((Pl.many (out.take j) x.2.toNat : Nat) : Int)] := by
   rw [Nat.zero_add, List.getElem?_map, QlV _ (by omega)]; rfl
  have hml := many_le (out.take j) x.2.toNat;rw [List.length_take] at hml
  have T : Hid (Pl.cnt (out.take (j + 1)) ns.length = (Pl.cnt (out.take j) ns.length).set x.2.toNat (((Pl.many (out.take j) x.2.toNat : Nat) : Int) + 1)) := Pm.hid (by
   rw [List.take_add_one, hx]; exact Qnk _ x hxi.1 hxi.2)
  clear hx hf2 hd hB hnf c0 c1 W;generalize Pl.many (out.take j) x.2.toNat = c at *
  generalize Pl.cnt (out.take j) ns.length = cl at *
  obtain ⟨xp, xi⟩ := x;simp only at hxi hrm T hr
  (repeat' (first | refine f1 (k := ?_) | refine e1 (k := ?_) | refine (Fg.awp_drawF (id := 13) [] [16] follows_mixed (by kernel_rfl) (by kernel_rfl) (by kernel_rfl) ?_) | refine (Fg.aw_fltN ?_) | refine (Fg.aw_planFC (by rfl) (by kernel_rfl) rfl ?_) | refine (Fg.aw_planFN ?_) | refine stepD (Qbh Ty.h rfl Ty.h rfl rfl rfl (by omega) hr) (k := ?_) | refine stepD (Qb4 Ty.h rfl Ty.h rfl rfl rfl rfl hxi.1 hxi.2) (k := ?_) | refine stepD (QbK Ty.h rfl rfl hrm rfl) (k := ?_) | refine Qf7 Ty.h rfl rfl hrm rfl (kk := ?_) | refine stepD (Qbs rfl rfl (by omega)) (k := ?_) | refine stepS (Qbs rfl rfl (by omega)) (k := ?_) | refine Qbp ?_ | refine Qbr ?_ | refine QbE ?_ | refine Qbf ?_ | refine Qbc ?_ | refine Qbl (ht := ?_) | refine Qbj ?_ | refine Qbi ?_ | fail))
  refine Qbt (out.length - (j + 1)) (by omega) ⟨j + 1, by omega, rfl, ?_⟩;simp [keepE, go_sem, T.out, List.map_set]
 have hj2 : j = out.length := by simp at q3; omega
 subst hj2;rw [List.take_length]
 (repeat' (first | refine e1 (k := ?_) | refine Qbd ?_ | refine Qbf ?_ | refine Qbc ?_ | refine Qbm (hf := ?_) | refine Qbi ?_ | refine Qbq ?_ | fail))
 refine Qby (fun m st => ∃ k : Nat, k <= ns.length /\ m = 16 - k /\ Hid ((List.range k).all (Pl.Qat s ns out) = true) /\ st = ⟨110, [(11, .d (dI k)), (9, .osl 3 0 0 ns.length), (7, .d (tFnds out)), (6, .d (.sl true 10 (ns.map rNode))), (2, .d (.pd (rSt s)))],
  [.row 1 [], .row 1 [], .arr (out.length + 1) 2 126 [], .arr 0 1 3 ((Pl.cnt out ns.length).map fun n => [dI n])]⟩) [11, 9, 7, 6, 2] 4 16 ⟨0, by omega, rfl, Pm.hid rfl, rfl⟩ (round := ?_)
 rintro m st ⟨k, hk, rfl, hA, rfl⟩
 (repeat (first | refine e1 (k := ?_) | refine Qbd ?_ | refine Qbf ?_ | refine Qbc ?_ | fail))
 cases q4 : decide ((k : Int) < (ns.length : Int))
 ·(repeat' (first | refine e1 (k := ?_) | refine Qbd ?_ | refine Qbf ?_ | refine Qbc ?_ | refine Qbm (hf := ?_) | refine Qbq ?_ | fail))
  refine Qbn (hx := ?_);have : k = ns.length := by simp at q4; omega
  have h := hA.out;rw [this] at h;rw [hd.out, hf2.out, h]; rfl
 have hk2 : k < ns.length := by simp at q4; omega
 obtain ⟨nd, hnd⟩ : ∃ nd, ns[k]? = some nd := ⟨_, List.getElem?_eq_getElem hk2⟩;have hr := Qbx (f := rNode) hnd
 have hrm : ((Pl.cnt out ns.length).map fun n => [dI n])[0 + (k : Int).toNat]? = some [dI ((Pl.many out k : Nat) : Int)] := by
  rw [Nat.zero_add, Int.toNat_natCast, List.getElem?_map, QlV _ hk2]; rfl
 have he := hnf.out out k nd hnd;have T : Hid (Pl.Qat s ns out k = true -> (List.range (k + 1)).all (Pl.Qat s ns out) = true) := fun h => Pl.Qb8 (p := Pl.Qat s ns out) hA.out h
 have F : Hid (Pl.Qat s ns out k = false -> Pl.QaQ s t = ([], false)) := fun h => by
  rw [hd.out, hf2.out, Pl.Qb5 (p := Pl.Qat s ns out) hk2 h]; rfl
 rw [he] at T F;have c4 := c13.out nd;clear hnd hA hd hf2 he hnf hB W c0 c1 c13;generalize Pl.many out k = c at *
 generalize Pl.Qam s nd = fok at *
 obtain ⟨kind, links, size, ⟨⟨p1, p2, p3, p4, p5⟩, depth, many⟩⟩ := nd;simp only at T F;have hki : (0 : Int) <= k /\ (k : Int) < ns.length := by omega
 (repeat' (first | refine f1 (k := ?_) | refine e1 (k := ?_) | refine f0 (k := ?_) | refine stepD (Qbe Tryz.call184 c4 rfl) (k := ?_) | refine stepD (Qbh Ty.h rfl Ty.h rfl rfl rfl (by omega) hr) (k := ?_) | refine stepD (Qb4 Ty.h rfl Ty.h rfl rfl rfl rfl hki.1 hki.2) (k := ?_) | refine stepD (QbK Ty.h rfl rfl hrm rfl) (k := ?_) | refine stepS (Qbs rfl rfl (by omega)) (k := ?_) | refine stepS2 (Qbz Ty.h rfl Ty.h) (k := ?_) | refine Qbd ?_ | refine Qbp ?_ | refine Qbr ?_ | refine Qbf ?_ | refine Qbc ?_ | refine Qb1 follows_mixed (by kernel_rfl) (by kernel_rfl) ?_ | refine Qbl (ht := ?_) | refine Qbm (hf := ?_) | refine Qbo (ht := fun q => ?_) (hf := fun q => ?_) | refine Qbj ?_ | refine Qbi ?_ | ((fail_if_success show ADraw _ _ _ _ ⟨_, (_, .d (.v (.bool true))) :: _, _⟩); (fail_if_success show ADraw _ _ _ _ ⟨_, (_, .d (.v (.bool false))) :: _, _⟩); refine splitD (fun q => ?_) (fun q => ?_))))
 all_goals clear c4 hr hrm
 all_goals first
  |(refine Qbt (16 - (k + 1)) (by omega) ⟨k + 1, by omega, rfl, Pm.hid (T.out ?_), rfl⟩; clear T F; simp_all; done)
  |(refine Qbg 4 (h := ?_)
    refine Qbn (hx := ?_);have hz := F.out (by clear T F; simp_all)
    rw [hz]; rfl)
end Aw
end
section
open Go.RowKit
namespace Aw
attribute [local irreducible] ASeq ADraw AWP Loc AStep
end Aw
end
section
open Go.RowKit
namespace Aw
attribute [local irreducible] ASeq ADraw AWP Loc
end Aw
end
section
open Go.RowKit
namespace Aw
attribute [local irreducible] ASeq ADraw AWP Loc AStep
structure Pl.Lens (s : Pm.Store) : Prop where
 b1 : s.2.1.1.length <= Pm.big
 b2 : s.2.1.2.length <= Pm.big
 b3 : s.2.2.2.1.length <= 1000000000000
 b4 : s.2.2.2.2.2.1.length <= 1000000000000
theorem Qe9 {s : Pm.Store} (h : Pl.Qah s = true) : Pl.Good s := by
 unfold Pl.Qah at h;simp only [Bool.and_eq_true, beq_iff_eq] at h;obtain ⟨⟨⟨⟨⟨h1, _⟩, _⟩, _⟩, h2⟩, _⟩ := h;refine ⟨h1, fun r hr => ?_⟩;obtain ⟨i, hi, rfl⟩ := List.getElem_of_mem hr;unfold Pl.QaN at h2;have := List.all_eq_true.1 h2 i (List.mem_range.2 (by omega));unfold Pl.QaB at this;simp only [Bool.and_eq_true, decide_eq_true_eq, List.getD_eq_getElem?_getD, List.getElem?_eq_getElem hi, Option.getD_some] at this;exact this.1.1
theorem Qhz {s : Pm.Store} {t : Pl.Tree} (h : Pl.Qaq s t = true) : Pl.TGood t := by
 unfold Pl.Qaq Pl.Qa2 at h;simp only [Bool.and_eq_true] at h;exact QbL h.1.1.1.1
theorem Qjg {kind : Nat -> Nat} {en : Nat -> Option Gr.En} (hen : ∀ k es, en k = some es -> ∀ e ∈ es, Pl.Qai e.1 = true) {r L : List Gr.It} (h : Gr.FP kind en r L) : (∀ x ∈ r, ∀ n ∈ x.1, Pl.Qai n = true) -> ∀ x ∈ L, ∀ n ∈ x.1, Pl.Qai n = true := by
 induction h with
 |nil => intro _ x hx; cases hx
 |file hk h ih =>
  intro hr x hx;rcases List.mem_cons.1 hx with rfl | hx
  ·exact hr _ List.mem_cons_self
  ·exact ih (fun y hy => hr y (List.mem_cons_of_mem _ hy)) x hx
 |dir hk he h1 h2 ih1 ih2 =>
  intro hr x hx;rcases List.mem_cons.1 hx with rfl | hx
  ·exact hr _ List.mem_cons_self
  ·rcases List.mem_append.1 hx with hx | hx
   ·refine ih1 (fun y hy n hn => ?_) x hx
    unfold Gr.kids at hy;obtain ⟨e, hem, rfl⟩ := List.mem_map.1 hy;rcases List.mem_append.1 hn with hn | hn
    ·exact hr _ List.mem_cons_self n hn
    ·rw [List.mem_singleton] at hn; rw [hn]; exact hen _ _ he e hem
   ·exact ih2 (fun y hy => hr y (List.mem_cons_of_mem _ hy)) x hx
end Aw
end
end Go.Proofs.YtdjkdcokjoiokaaGreatDoor

/- A row of disks that is built by appending copies. -/
import Derived.Test.YtdjkdcokjoiokaaGreatDoorCopy
import Derived.Deep.AppendLies
namespace Go.Proofs.YtdjkdcokjoiokaaGreatDoor
open Go.RowKit
namespace Pm
/-- The disks that are copied so far: the row, what its disks own. -/
def Part (ban base hi : Nat) (w : World) (v : Value) (l : List Disk) : Prop :=
  ∃ xs fps, w.ownsRow base 90 3 v l.length xs ∧ Els w xs.toArray l fps ∧ fps.flatten.Nodup ∧ (∀ b ∈ fps.flatten, base ≤ b ∧ b < hi ∧ v.ownBlock ≠ some b ∧ b ≠ ban) ∧ (∀ b, v.ownBlock = some b → b < hi ∧ b ≠ ban) ∧ hi ≤ w.heap.size ∧ ban < hi
theorem owns_touch' {w w' : World} {fp : List Nat} {base : Nat} {e : TypeId} {size n : Nat} {v : Value} {xs : List Value} (h : w.ownsRow base e size v n xs) (ht : Touch fp w w') (hf : ∀ b, v.ownBlock = some b → b ∉ fp) : w'.ownsRow base e size v n xs := by
  obtain ⟨h1, ⟨hv, hn⟩ | ⟨g, cap, cur, hv, hg, hh, hr⟩⟩ := h
  · exact ⟨h1, .inl ⟨hv, hn⟩⟩
  · have hrow : Row w g cur := ⟨e, hh⟩
    exact ⟨h1, .inr ⟨g, cap, cur, hv, hg, (ht.block g hrow.lt (hf g (by rw [hv]; rfl))).trans hh, hr⟩⟩
theorem Part.touch {ban base hi : Nat} {w w' : World} {v : Value} {l : List Disk} (h : Part ban base hi w v l) (ht : Touch [ban] w w') : Part ban base hi w' v l := by
  obtain ⟨xs, fps, h1, h2, h3, h4, h5, h6, h7⟩ := h
  exact ⟨xs, fps, owns_touch' h1 ht fun b hb => by simpa using (h5 b hb).2, h2.frame fun b hb => ht.block b (by have := (h4 b hb).2.1; omega) (by simpa using (h4 b hb).2.2.2), h3, h4, h5, Nat.le_trans h6 ht.size, h7⟩
theorem Part.below {ban base hi : Nat} {w w' : World} {v : Value} {l : List Disk} (h : Part ban base hi w v l) (hb : Below w.heap.size w w') : Part ban base hi w' v l := h.touch (Touch.of_below hb)
theorem Part.mono {ban base hi hi' : Nat} {w : World} {v : Value} {l : List Disk} (h : Part ban base hi w v l) (h1 : hi ≤ hi') (h2 : hi' ≤ w.heap.size) : Part ban base hi' w v l := by
  obtain ⟨xs, fps, k1, k2, k3, k4, k5, k6, k7⟩ := h
  exact ⟨xs, fps, k1, k2, k3, fun b hb => ⟨(k4 b hb).1, by have := (k4 b hb).2.1; omega, (k4 b hb).2.2⟩, fun b hb => by have := k5 b hb; omega, h2, by omega⟩
theorem Part.start {ban base : Nat} {w : World} {v : Value} (h : w.ownsRow base 90 3 v 0 []) (hb : ban < w.heap.size) (hv : v.ownBlock ≠ some ban) : Part ban base w.heap.size w v [] := by
  refine ⟨[], [], h, Els.nil, List.nodup_nil, by simp, fun b hb => ?_, Nat.le_refl _, hb⟩
  obtain ⟨_, ⟨rfl, _⟩ | ⟨g, cap, cur, rfl, _, hh, _⟩⟩ := h
  · simp [Value.ownBlock] at hb
  · simp [Value.ownBlock] at hb hv
    subst hb
    exact ⟨Row.lt (cur := cur) ⟨_, hh⟩, hv⟩
theorem Part.slice {ban base hi : Nat} {w : World} {v : Value} {l : List Disk} (h : Part ban base hi w v l) : ∃ A c, v = .slice A l.length c := by
  obtain ⟨xs, fps, h1, _⟩ := h
  obtain ⟨_, ⟨hv, hn⟩ | ⟨g, cap, cur, hv, _⟩⟩ := h1
  · rw [hn]; exact ⟨none, 0, hv⟩
  · exact ⟨_, cap, hv⟩
theorem Part.own {ban base hi : Nat} {w : World} {A : Option Addr} {n c : Nat} {l : List Disk} (h : Part ban base hi w (.slice A n c) l) (hl : l.length ≤ big) : ∃ fp, n = l.length ∧ Ow.own w [.slice A l.length c] l fp ∧ Fp base w.heap.size fp := by
  obtain ⟨xs, fps, h1, h2, h3, h4, h5, h6, h7⟩ := h
  obtain ⟨hx, ⟨hv, hn⟩ | ⟨g, cap, cur, hv, hg, hh, hnc, hm, hs, ht⟩⟩ := h1
  · have : l = [] := List.eq_nil_of_length_eq_zero hn
    subst this
    injection hv with e1 e2 e3
    exact ⟨[], e2, own_nil, Fp.nil⟩
  · injection hv with e1 e2 e3
    subst e1; subst e2; subst e3
    have hrow : Row w g cur := ⟨_, hh⟩
    have hels : Els w cur l fps := h2.row fun i hi => by
      have h9 : (cur.toList.take (l.length * 3))[i]? = xs[i]? := by rw [ht]
      rw [List.getElem?_take, if_pos (show i < l.length * 3 from hi)] at h9
      simpa using h9
    refine ⟨_, rfl, own_list hl hnc hrow (by rw [hs]; exact Nat.mul_le_mul_right _ hnc) hels, ⟨List.nodup_cons.2 ⟨fun hm => (h4 g hm).2.2.1 rfl, h3⟩, fun b hb => ?_⟩⟩
    rcases List.mem_cons.1 hb with rfl | hb
    · exact ⟨hg, hrow.lt⟩
    · have := h4 b hb; omega

/-- One more. -/
theorem wp_part {w : World} {o : Oper} {a : Act} {K : Act → World → Prop} {Q : Exit → Act → World → Prop} (s x : Operand)
    (ho : o.op = .call { callee := .builtin .append, args := #[s, x], argTypes := #[26, 26] })
    (ban base hi : Nat) (v : Value) (l : List Disk) (hs : a.eval s = v) (hp : Part ban base hi w v l) (gb : Nat) (c0 c1 c2 : Value) (hx : a.eval x = .slice (some ⟨gb, 0, none⟩) 1 1) (hrow : Row w gb #[c0, c1, c2])
    (y : Disk) (f : List Nat) (hy : Ow.own w [c0, c1, c2] y f) (hf : Fp hi w.heap.size f) (h1 : ∀ u ∈ [c0, c1, c2], u.oneCell' = true) (hl : l.length < 1048576) (hbase : base ≤ hi)
    (h : ∀ v' w', Part ban base w'.heap.size w' v' (l ++ [y]) → w.grownBy w' v.ownBlock → K (a.put o.dst v') w') : o.wp Tryz.prog a w K Q := by
  obtain ⟨xs, fps, k1, k2, k3, k4, k5, k6, k7⟩ := hp
  obtain ⟨i, hi', hz, hs1, hs2⟩ := info_parts info_disk
  refine wp_append_lies (P := Tryz.prog) w s x 26 ho base 90 i _ 3 56 Tryz.underlying26 hi' hz hs1 hs2 rfl (by omega) v l.length xs hs k1 ⟨gb, 0, none⟩ 1 1 [c0, c1, c2] hx rfl (fun j u hj => ?_) h1 (by omega) (by unfold maxLen; omega) (by omega) (by omega) w.heap.size rfl fun g cap w' j2 j3 j4 j5 => ?_
  · rw [Addr.add_lit, Nat.zero_add, hrow.cell]
    rw [← hj]; simp
  · have hxl : xs.length = l.length * 3 := k1.1
    refine h _ _ ⟨xs ++ [c0, c1, c2], fps ++ [f], by simpa using j2, ?_, ?_, fun b hb => ?_, fun b hb => ?_, Nat.le_refl _, by have := j3.size; omega⟩ j3
    · have hfr : Els w' xs.toArray l fps := k2.frame fun b hb => j3.block b (by have := (k4 b hb).2.1; omega) (fun e => (k4 b hb).2.2.1 e.symm)
      have hyy : Ow.own w' [c0, c1, c2] y f := Ow.frame hy fun b hb => j3.block b (hf.2 b hb).2 (fun e => by have := (k5 b e.symm).1; have := (hf.2 b hb).1; omega)
      refine (hfr.row (cur' := (xs ++ [c0, c1, c2]).toArray) fun i hi => ?_).snoc (cs := [c0, c1, c2]) hyy fun j u hj => ?_
      · have hi3 : i < xs.length := by rw [hxl]; exact hi
        simp [List.getElem?_append_left hi3]
      · simp only [Rep.size, Nat.reduceAdd, List.getElem?_toArray]
        rw [List.getElem?_append_right (by omega), hxl, Nat.add_sub_cancel_left]; exact hj
    · rw [flatten_snoc]
      refine List.nodup_append.2 ⟨k3, hf.1, fun p hp q hq e => ?_⟩
      have := (k4 p hp).2.1; have := (hf.2 q hq).1; omega
    · rw [flatten_snoc] at hb
      rcases List.mem_append.1 hb with hb | hb
      · refine ⟨(k4 b hb).1, by have := (k4 b hb).2.1; have := j3.size; omega, ?_, (k4 b hb).2.2.2⟩
        simp only [Value.ownBlock, ne_eq, Option.some.injEq]
        rintro rfl
        rcases j4 with j4 | j4
        · exact (k4 _ hb).2.2.1 j4
        · have := (k4 _ hb).2.1; omega
      · have h8 := hf.2 b hb
        refine ⟨by omega, by have := j3.size; omega, ?_, by omega⟩
        simp only [Value.ownBlock, ne_eq, Option.some.injEq]
        rintro rfl
        rcases j4 with j4 | j4
        · have := (k5 _ j4).1; omega
        · omega
    · simp only [Value.ownBlock, Option.some.injEq] at hb
      subst hb
      refine ⟨j5, ?_⟩
      rcases j4 with j4 | j4
      · exact (k5 _ j4).2
      · omega
end Pm
end Go.Proofs.YtdjkdcokjoiokaaGreatDoor

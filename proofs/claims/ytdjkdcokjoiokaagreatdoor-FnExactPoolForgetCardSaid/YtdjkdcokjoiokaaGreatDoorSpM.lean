/- The reference's reading of a root, whole. -/
import Derived.Test.YtdjkdcokjoiokaaGreatDoorSpK
import Derived.Test.YtdjkdcokjoiokaaGreatDoorSpA
namespace Go.Proofs.YtdjkdcokjoiokaaGreatDoor
open Go.RowKit
namespace Pl
theorem enc_mem_le {l : List Str} {x : Str} (h : x ∈ l) : x.length ≤ (enc l).length := by
  induction l with
  | nil => cases h
  | cons y l ih =>
    rw [enc_cons, List.length_append]
    rcases List.mem_cons.1 h with rfl | h
    · unfold item; simp; omega
    · have := ih h; omega
theorem root_rec {s : Str} {r : Root} (h : IsRoot s r) : ∃ l, IsRec s l := by
  obtain ⟨h1, h2, h3⟩ := h
  unfold rootPut at h2
  rw [if_pos h1] at h2
  exact ⟨_, fp_some h2 h3⟩
theorem root_six {s : Str} {r : Root} {l : List Str} (h : IsRoot s r) (hw : IsRec s l) : l.length = 6 := by rw [(isRoot_fields h hw).1]; rfl
/-- What the fields of a root's text read as. -/
theorem root_read {s : Str} {r : Root} {a b c d e f : Str} {p : Ptr} (h : IsRoot s r) (hw : IsRec s [a, b, c, d, e, f]) (hp : ∀ q, IsPtr c q → q = p) :
    r = ⟨((numGet b).getD 0 : Nat), p, ((numGet d).getD 0 : Nat), ((numGet e).getD 0 : Nat)⟩ := by
  obtain ⟨h1, h2, h3, h4, h5, h6⟩ := isRoot_fields h hw
  simp only [List.cons.injEq, and_true] at h1
  obtain ⟨_, rfl, rfl, rfl, rfl, _⟩ := h1
  rw [numGet_dec h2, numGet_dec h3, numGet_dec h4, ← hp _ h5]
  simpa using h6
theorem root_found {s : Str} {r : Root} {l : List Str} (hw : IsRec s l) (h6 : l.length = 6) (h1 : rootOk r = true) (h2 : rootPut r = s) : IsRoot s r := ⟨h1, h2, isRec_len hw h6⟩
def noRoot : Root := ⟨0, hole, 0, 0⟩
end Pl
namespace Pm
open Pl (dec dch inR Ptr Tree Root hole ptrHole ptrOk noRoot)
/-- What reading a root leaves. -/
def RootPost (s : Str) (w : World) (e : Ending) (w' : World) : Prop :=
  ((∃ r, Pl.IsRoot s r ∧ e = .returned (.tuple #[vroot r, .bool true])) ∨ ((∀ r, ¬ Pl.IsRoot s r) ∧ e = .returned (.tuple #[vroot noRoot, .bool false]))) ∧ Below w.heap.size w w'
/-- A part of a row. -/
theorem At.sub {α : Type} [Rep α] {w : World} {B : Nat} {b off : Nat} {l : List α} (h : At w B (some ⟨b, off, none⟩) l) (k n : Nat) : At w B (some ⟨b, off + k * Rep.size α, none⟩) ((l.drop k).take n) := by
  intro hl
  have hl' : 0 < l.length := by
    rw [List.length_take, List.length_drop] at hl; omega
  obtain ⟨b', off', he, hb, hc⟩ := h hl'
  simp only [Option.some.injEq, Addr.mk.injEq, and_true] at he
  obtain ⟨rfl, rfl⟩ := he
  refine ⟨b, _, rfl, hb, fun i x hx => ?_⟩
  have hx' : l[k + i]? = some x := by
    rw [List.getElem?_take] at hx
    split at hx
    · rwa [List.getElem?_drop] at hx
    · cases hx
  obtain ⟨cs, h1, h2⟩ := hc (k + i) x hx'
  refine ⟨cs, h1, fun j v hj => ?_⟩
  rw [← h2 j v hj, Nat.add_mul, Nat.add_assoc off]

set_option maxRecDepth 100000 in
set_option maxHeartbeats 2000000 in
theorem spRootGet (s : Str) (w : World) (hs : s.length ≤ big) :
    Calls Tryz.prog 161 #[.string ⟨s.toArray⟩] w (RootPost s w) := by
  have Hg := hid (fun w => spFieldsGet s w hs)
  have R0 := hid (Row.new w #[.int .i64 0, .int .i64 0, .int .i64 0, .int .i64 0, .int .i64 0, .int .i64 0, .int .i64 0, .int .i64 0] 92)
  go_enter Tryz.func161, Tryz.ntmps161
  go_wp2_with fail
  refine (Hg.out _).mono ?_
  rintro e w1 (⟨l, A, c, hl, hcap, rfl, hat, hb1⟩ | ⟨hn, A, c, rfl, hb1⟩)
  · have Hl := hid hl
    have Hat := hid hat
    have Hb1 := hid hb1
    have R1 := hid (R0.out.below hb1)
    have Hb1' := hid (btr (bnew w _) hb1)
    clear hat hb1
    by_cases h6 : l.length = 6
    · have hle : ∀ x ∈ l, x.length ≤ 2048 := fun x hx => by
        have := Pl.enc_mem_le hx
        rw [hl.2.2] at this
        exact Nat.le_trans this hl.2.1
      clear hl Hb1
      match l, h6 with
      | [f0, f1, f2, f3, f4, f5], _ =>
      obtain ⟨b, off, rfl, hb, hc⟩ := at_cells Hat.out (by simp)
      have c1 := hc 1 _ rfl
      simp only [vstr] at c1
      have hsub := Hat.out.sub 2 3
      simp only [Rep.size, Nat.mul_one, List.drop_succ_cons, List.drop_zero, List.take_succ_cons, List.take_zero] at hsub
      have Hback := hid (fun c => spBack _ f2 f3 f4 c w1 hsub (hle _ (by simp)) (hle _ (by simp)) (hle _ (by simp)))
      have Hn := hid (fun w => spNumGet f1 w (by have := hle f1 (by simp); unfold big; omega))
      rw [optNat_eq] at Hn
      have Hrd := hid (fun r p h hp => Pl.root_read (s := s) (r := r) (p := p) h Hl.out hp)
      have Hfd := hid (fun r => Pl.root_found (r := r) Hl.out rfl)
      generalize ((Pl.numGet f1).getD 0) = n1 at *
      generalize ((Pl.numGet f1).isSome) = o1 at *
      generalize ((Pl.numGet f3).getD 0) = n3 at *
      generalize ((Pl.numGet f4).getD 0) = n4 at *
      have Hc1 := hid c1
      have Hb := hid hb
      clear hc hsub hle c1 hb Hat Hl
      simp only [List.length_cons, List.length_nil, Nat.reduceAdd]
      go_wp2_with fail
      refine (Hback.out _).mono ?_
      rintro e w2 ⟨p, rfl, hq, hb2⟩
      have c1 := cellBel hb2 Hb.out Hc1.out
      have hne : w.heap.size ≠ w2.heap.size := by have := R1.out.lt; have := hb2.size; omega
      have hle : w.heap.size ≤ w2.heap.size := by have := R1.out.lt; have := hb2.size; omega
      have hb3 := bnew w2 (.cells #[.int .i64 0, .int .i64 p.pat, .int .i64 p.birth, .int .i64 p.size, .int .i64 p.sum, .int .i64 p.level, .int .i64 (n3 : Int), .int .i64 (n4 : Int)] 92)
      have k1 := cellBel hb3 (Nat.lt_of_lt_of_le Hb.out hb2.size) c1
      have R2 := hid (R1.out.below (btr hb2 hb3))
      have Q2 := hid (Row.new w2 #[.int .i64 0, .int .i64 p.pat, .int .i64 p.birth, .int .i64 p.size, .int .i64 p.sum, .int .i64 p.level, .int .i64 (n3 : Int), .int .i64 (n4 : Int)] 92)
      have Hb2 := hid (btr Hb1'.out (btr hb2 hb3))
      unfold vtree
      dsimp only
      clear c1 hb2 hb3
      go_wp2_with fail
      refine (Hn.out _).mono ?_
      rintro e w' ⟨rfl, rfl⟩
      generalize w2.alloc (.cells #[.int .i64 0, .int .i64 p.pat, .int .i64 p.birth, .int .i64 p.size, .int .i64 p.sum, .int .i64 p.level, .int .i64 (n3 : Int), .int .i64 (n4 : Int)] 92) = W2 at *
      have R3 := hid (R2.out.far hne 0 (.int .i64 (n1 : Int)))
      have Q3 := hid (show Row (W2.setCell ⟨w2.heap.size, 0, none⟩ (.int .i64 (n1 : Int))) w2.heap.size #[.int .i64 (n1 : Int), .int .i64 p.pat, .int .i64 p.birth, .int .i64 p.size, .int .i64 p.sum, .int .i64 p.level, .int .i64 (n3 : Int), .int .i64 (n4 : Int)] from Q2.out.set 0 _)
      have HB3 := hid (show Below w.heap.size w (W2.setCell ⟨w2.heap.size, 0, none⟩ (.int .i64 (n1 : Int))) from bset Hb2.out hle 0 _)
      have q0 := Q2.out.get 0 rfl; have qg0 := Q2.out.free 0; have q1 := Q2.out.get 1 rfl; have qg1 := Q2.out.free 1; have q2 := Q2.out.get 2 rfl; have qg2 := Q2.out.free 2; have q3 := Q2.out.get 3 rfl; have qg3 := Q2.out.free 3; have q4 := Q2.out.get 4 rfl; have qg4 := Q2.out.free 4; have q5 := Q2.out.get 5 rfl; have qg5 := Q2.out.free 5; have q6 := Q2.out.get 6 rfl; have qg6 := Q2.out.free 6; have q7 := Q2.out.get 7 rfl; have qg7 := Q2.out.free 7
      have Hrr : Hid (∀ r, Pl.IsRoot s r → r = ⟨n1, ⟨p, n3, n4⟩⟩) := hid (fun r h => Hrd.out r p h hq.out)
      have Hok := hid (fun w => spRootOk ⟨n1, ⟨p, n3, n4⟩⟩ w)
      have Hput := hid (fun w => spRootPut ⟨n1, ⟨p, n3, n4⟩⟩ w)
      have Hfr := hid (Hfd.out ⟨n1, ⟨p, n3, n4⟩⟩)
      generalize hq1 : Pl.rootOk ⟨n1, ⟨p, n3, n4⟩⟩ = q1 at *
      generalize hq2 : Pl.rootPut ⟨n1, ⟨p, n3, n4⟩⟩ = t at *
      unfold vroot at Hok Hput
      dsimp only at Hok Hput
      clear Hrd Hfd Hback k1 hq Hn Hc1
      cases q1
      · have Hf : Hid (∀ r, ¬ Pl.IsRoot s r) := hid (fun r h => by have := Hrr.out r h; rw [this] at h; rw [h.1] at hq1; cases hq1)
        clear hq1 hq2 Hrr Hput Hfr
        go_wp2_with (go_at_call 232; refine (Hok.out _).mono ?_; rintro e w4 ⟨rfl, hb4⟩; have R4 := hid (R3.out.below hb4); have Hb4 := hid (btr HB3.out hb4); clear q0 q1 q2 q3 q4 q5 q6 q7 qg0 qg1 qg2 qg3 qg4 qg5 qg6 qg7 hb4; have r0 := R4.out.get 0 rfl; have rg0 := R4.out.free 0; have r1 := R4.out.get 1 rfl; have rg1 := R4.out.free 1; have r2 := R4.out.get 2 rfl; have rg2 := R4.out.free 2; have r3 := R4.out.get 3 rfl; have rg3 := R4.out.free 3; have r4 := R4.out.get 4 rfl; have rg4 := R4.out.free 4; have r5 := R4.out.get 5 rfl; have rg5 := R4.out.free 5; have r6 := R4.out.get 6 rfl; have rg6 := R4.out.free 6; have r7 := R4.out.get 7 rfl; have rg7 := R4.out.free 7)
        refine bodyPost_ret (v := .tuple #[vroot noRoot, .bool false]) (by simp [results, Tryz.results161, go_sem, vroot, noRoot, hole, r0, r1, r2, r3, r4, r5, r6, r7]) rfl ?_
        exact ⟨Or.inr ⟨Hf.out, rfl⟩, (bset (bset (bset (bset (bset (bset (bset (bset Hb4.out (Nat.le_refl _) 0 _) (Nat.le_refl _) 1 _) (Nat.le_refl _) 2 _) (Nat.le_refl _) 3 _) (Nat.le_refl _) 4 _) (Nat.le_refl _) 5 _) (Nat.le_refl _) 6 _) (Nat.le_refl _) 7 _)⟩
      · by_cases hts : t = s
        · have Hf := hid (Hfr.out rfl hts)
          clear hq1 hq2 Hrr Hfr
          subst hts
          go_wp2_with (first
            | (go_at_call 232; refine (Hok.out _).mono ?_; rintro e w4 ⟨rfl, hb4⟩; have Q4 := hid (Q3.out.below hb4); have R4 := hid (R3.out.below hb4); have Hb4 := hid (btr HB3.out hb4); clear q0 q1 q2 q3 q4 q5 q6 q7 qg0 qg1 qg2 qg3 qg4 qg5 qg6 qg7 hb4; have m0 := Q4.out.get 0 rfl; have mg0 := Q4.out.free 0; have m1 := Q4.out.get 1 rfl; have mg1 := Q4.out.free 1; have m2 := Q4.out.get 2 rfl; have mg2 := Q4.out.free 2; have m3 := Q4.out.get 3 rfl; have mg3 := Q4.out.free 3; have m4 := Q4.out.get 4 rfl; have mg4 := Q4.out.free 4; have m5 := Q4.out.get 5 rfl; have mg5 := Q4.out.free 5; have m6 := Q4.out.get 6 rfl; have mg6 := Q4.out.free 6; have m7 := Q4.out.get 7 rfl; have mg7 := Q4.out.free 7)
            | (go_at_call 233; refine (Hput.out _).mono ?_; rintro e w5 ⟨rfl, hb5⟩; have R5 := hid (R4.out.below hb5); have Q5 := hid (Q4.out.below hb5); have Hb5 := hid (btr Hb4.out hb5); clear m0 m1 m2 m3 m4 m5 m6 m7 mg0 mg1 mg2 mg3 mg4 mg5 mg6 mg7 hb5; have r0 := R5.out.get 0 rfl; have rg0 := R5.out.free 0; have r1 := R5.out.get 1 rfl; have rg1 := R5.out.free 1; have r2 := R5.out.get 2 rfl; have rg2 := R5.out.free 2; have r3 := R5.out.get 3 rfl; have rg3 := R5.out.free 3; have r4 := R5.out.get 4 rfl; have rg4 := R5.out.free 4; have r5 := R5.out.get 5 rfl; have rg5 := R5.out.free 5; have r6 := R5.out.get 6 rfl; have rg6 := R5.out.free 6; have r7 := R5.out.get 7 rfl; have rg7 := R5.out.free 7; have k0 := Q5.out.get 0 rfl; have kg0 := Q5.out.free 0; have k1 := Q5.out.get 1 rfl; have kg1 := Q5.out.free 1; have k2 := Q5.out.get 2 rfl; have kg2 := Q5.out.free 2; have k3 := Q5.out.get 3 rfl; have kg3 := Q5.out.free 3; have k4 := Q5.out.get 4 rfl; have kg4 := Q5.out.free 4; have k5 := Q5.out.get 5 rfl; have kg5 := Q5.out.free 5; have k6 := Q5.out.get 6 rfl; have kg6 := Q5.out.free 6; have k7 := Q5.out.get 7 rfl; have kg7 := Q5.out.free 7))
          refine bodyPost_ret (v := .tuple #[vroot ⟨n1, ⟨p, n3, n4⟩⟩, .bool true]) (by simp [results, Tryz.results161, go_sem, vroot, r0, r1, r2, r3, r4, r5, r6, r7]) rfl ?_
          exact ⟨Or.inl ⟨_, Hf.out, rfl⟩, (bset (bset (bset (bset (bset (bset (bset (bset Hb5.out (Nat.le_refl _) 0 _) (Nat.le_refl _) 1 _) (Nat.le_refl _) 2 _) (Nat.le_refl _) 3 _) (Nat.le_refl _) 4 _) (Nat.le_refl _) 5 _) (Nat.le_refl _) 6 _) (Nat.le_refl _) 7 _)⟩
        · have Hf : Hid (∀ r, ¬ Pl.IsRoot s r) := hid (fun r h => by have := Hrr.out r h; rw [this] at h; exact hts (hq2.symm.trans h.2.1))
          have hts2 : (t == s) = false := by rw [beq_eq_false_iff_ne]; exact hts
          have hts3 : ¬ s = t := fun e => hts e.symm
          clear hq1 hq2 Hrr Hfr
          go_wp2_with (first
            | (go_at_call 232; refine (Hok.out _).mono ?_; rintro e w4 ⟨rfl, hb4⟩; have Q4 := hid (Q3.out.below hb4); have R4 := hid (R3.out.below hb4); have Hb4 := hid (btr HB3.out hb4); clear q0 q1 q2 q3 q4 q5 q6 q7 qg0 qg1 qg2 qg3 qg4 qg5 qg6 qg7 hb4; have m0 := Q4.out.get 0 rfl; have mg0 := Q4.out.free 0; have m1 := Q4.out.get 1 rfl; have mg1 := Q4.out.free 1; have m2 := Q4.out.get 2 rfl; have mg2 := Q4.out.free 2; have m3 := Q4.out.get 3 rfl; have mg3 := Q4.out.free 3; have m4 := Q4.out.get 4 rfl; have mg4 := Q4.out.free 4; have m5 := Q4.out.get 5 rfl; have mg5 := Q4.out.free 5; have m6 := Q4.out.get 6 rfl; have mg6 := Q4.out.free 6; have m7 := Q4.out.get 7 rfl; have mg7 := Q4.out.free 7)
            | (go_at_call 233; refine (Hput.out _).mono ?_; rintro e w5 ⟨rfl, hb5⟩; have R5 := hid (R4.out.below hb5); have Q5 := hid (Q4.out.below hb5); have Hb5 := hid (btr Hb4.out hb5); clear m0 m1 m2 m3 m4 m5 m6 m7 mg0 mg1 mg2 mg3 mg4 mg5 mg6 mg7 hb5; have r0 := R5.out.get 0 rfl; have rg0 := R5.out.free 0; have r1 := R5.out.get 1 rfl; have rg1 := R5.out.free 1; have r2 := R5.out.get 2 rfl; have rg2 := R5.out.free 2; have r3 := R5.out.get 3 rfl; have rg3 := R5.out.free 3; have r4 := R5.out.get 4 rfl; have rg4 := R5.out.free 4; have r5 := R5.out.get 5 rfl; have rg5 := R5.out.free 5; have r6 := R5.out.get 6 rfl; have rg6 := R5.out.free 6; have r7 := R5.out.get 7 rfl; have rg7 := R5.out.free 7))
          refine bodyPost_ret (v := .tuple #[vroot noRoot, .bool false]) (by simp [results, Tryz.results161, go_sem, vroot, noRoot, hole, r0, r1, r2, r3, r4, r5, r6, r7]) rfl ?_
          exact ⟨Or.inr ⟨Hf.out, rfl⟩, (bset (bset (bset (bset (bset (bset (bset (bset Hb5.out (Nat.le_refl _) 0 _) (Nat.le_refl _) 1 _) (Nat.le_refl _) 2 _) (Nat.le_refl _) 3 _) (Nat.le_refl _) 4 _) (Nat.le_refl _) 5 _) (Nat.le_refl _) 6 _) (Nat.le_refl _) 7 _)⟩
    · have R1 := R1
      have hf := hid (fun r (h : Pl.IsRoot s r) => h6 (Pl.root_six h hl))
      have r0 := R1.out.get 0 rfl; have rg0 := R1.out.free 0; have r1 := R1.out.get 1 rfl; have rg1 := R1.out.free 1; have r2 := R1.out.get 2 rfl; have rg2 := R1.out.free 2; have r3 := R1.out.get 3 rfl; have rg3 := R1.out.free 3; have r4 := R1.out.get 4 rfl; have rg4 := R1.out.free 4; have r5 := R1.out.get 5 rfl; have rg5 := R1.out.free 5; have r6 := R1.out.get 6 rfl; have rg6 := R1.out.free 6; have r7 := R1.out.get 7 rfl; have rg7 := R1.out.free 7
      have hne : ((l.length : Int) != 6) = true := by rw [bne_iff_ne]; omega
      clear hl
      go_wp2
      refine bodyPost_ret (v := .tuple #[vroot noRoot, .bool false]) (by simp [results, Tryz.results161, go_sem, vroot, noRoot, hole, r0, r1, r2, r3, r4, r5, r6, r7]) rfl ?_
      exact ⟨Or.inr ⟨hf.out, rfl⟩, (bset (bset (bset (bset (bset (bset (bset (bset Hb1'.out (Nat.le_refl _) 0 _) (Nat.le_refl _) 1 _) (Nat.le_refl _) 2 _) (Nat.le_refl _) 3 _) (Nat.le_refl _) 4 _) (Nat.le_refl _) 5 _) (Nat.le_refl _) 6 _) (Nat.le_refl _) 7 _)⟩
  · have R1 := hid (R0.out.below hb1)
    have hf := hid (fun r (h : Pl.IsRoot s r) => (Pl.root_rec h).elim fun l hl => hn l hl)
    have r0 := R1.out.get 0 rfl; have rg0 := R1.out.free 0; have r1 := R1.out.get 1 rfl; have rg1 := R1.out.free 1; have r2 := R1.out.get 2 rfl; have rg2 := R1.out.free 2; have r3 := R1.out.get 3 rfl; have rg3 := R1.out.free 3; have r4 := R1.out.get 4 rfl; have rg4 := R1.out.free 4; have r5 := R1.out.get 5 rfl; have rg5 := R1.out.free 5; have r6 := R1.out.get 6 rfl; have rg6 := R1.out.free 6; have r7 := R1.out.get 7 rfl; have rg7 := R1.out.free 7
    clear hn
    go_wp2
    refine bodyPost_ret (v := .tuple #[vroot noRoot, .bool false]) (by simp [results, Tryz.results161, go_sem, vroot, noRoot, hole, r0, r1, r2, r3, r4, r5, r6, r7]) rfl ?_
    exact ⟨Or.inr ⟨hf.out, rfl⟩, (bset (bset (bset (bset (bset (bset (bset (bset (btr (bnew w _) hb1) (Nat.le_refl _) 0 _) (Nat.le_refl _) 1 _) (Nat.le_refl _) 2 _) (Nat.le_refl _) 3 _) (Nat.le_refl _) 4 _) (Nat.le_refl _) 5 _) (Nat.le_refl _) 6 _) (Nat.le_refl _) 7 _)⟩
end Pm
end Go.Proofs.YtdjkdcokjoiokaaGreatDoor

/- The reference: is a later root in a row? -/
namespace Go.Proofs.YtdjkdcokjoiokaaGreatDoor
open Go.RowKit
namespace Pl
theorem isRoot_unique {s : Str} {r q : Root} (h : IsRoot s r) (k : IsRoot s q) : r = q := by
  obtain ⟨l, hl⟩ := root_rec h
  have h6 := root_six h hl
  match l, h6 with
  | [a, b, c, d, e, f], _ =>
    have hp := (isRoot_fields h hl).1
    simp only [List.cons.injEq, and_true] at hp
    obtain ⟨_, _, hc, _⟩ := hp
    have hu : ∀ p, IsPtr c p → p = r.tree.root := fun p hp => by
      have := (isRoot_fields h hl).2.2.2.2.1
      rw [← hc] at this
      exact isPtr_unique hp this
    rw [root_read h hl hu, root_read k hl hu]
theorem later_of {s : Str} {r : Root} (h : IsRoot s r) (t : Int) : later s t = decide (t < r.txg) := by
  unfold later
  by_cases ht : t < r.txg
  · simp only [ht, decide_true, decide_eq_true_eq]; exact ⟨r, h, ht⟩
  · simp only [ht, decide_false, decide_eq_false_iff_not]
    rintro ⟨q, hq, hlt⟩
    rw [isRoot_unique h hq] at ht; exact ht hlt
theorem later_none {s : Str} (h : ∀ r, ¬ IsRoot s r) (t : Int) : later s t = false := by
  unfold later
  rw [decide_eq_false_iff_not]
  rintro ⟨q, hq, _⟩
  exact h q hq
theorem any_take_step {α : Type} {p : α → Bool} {l : List α} {k : Nat} (hlt : k < l.length) (h : (l.take k).any p = false) (hx : p l[k] = false) : (l.take (k + 1)).any p = false := by
  rw [List.take_succ_eq_append_getElem hlt, List.any_append, h]; simp [hx]
theorem any_of_get {α : Type} {p : α → Bool} {l : List α} {k : Nat} (hlt : k < l.length) (hx : p l[k] = true) : l.any p = true := List.any_eq_true.2 ⟨_, List.getElem_mem hlt, hx⟩
end Pl
namespace Pm
open Pl (dec dch inR Ptr Tree Root hole ptrHole ptrOk noRoot later rowLater)

set_option maxRecDepth 100000 in
set_option maxHeartbeats 2000000 in
theorem spLater (A : Option Addr) (l : Raid) (c row : Nat) (txg : Int) (w : World) (hl : l.length ≤ big) (h : At w w.heap.size A l) (hrow : ∀ d ∈ l, row < d.1.length) (hrb : row ≤ big) :
    Calls Tryz.prog 95 #[.agg #[.slice A l.length c], .int .i64 row, .int .i64 txg] w fun e w' => e = .returned (.bool (rowLater l row txg)) ∧ Below w.heap.size w w' := by
  unfold big at hl hrb
  have Hrow := hid hrow
  have H := hid (h.up (bnew w (.cells #[.slice A l.length c] 28)))
  have R := hid (Row.new w #[.slice A l.length c] 28)
  have HA := hid (bnew w (.cells #[.slice A l.length c] 28))
  clear hrow h
  go_enter Tryz.func95, Tryz.ntmps95
  go_wp2
  generalize w.alloc (.cells #[.slice A l.length c] 28) = W at *
  go_loopw [7] (fun iv wr => ∃ (k : Nat), k ≤ l.length ∧ iv = .int .i64 k ∧ Hid ((l.take k).any (fun d => later (d.1.getD row []) txg) = false) ∧ Below W.heap.size W wr) (fun iv _ => l.length - (intOf iv).toNat)
  case atStart => exact ⟨0, by omega, rfl, hid (by simp), Below.refl _ _⟩
  case round =>
    obtain ⟨k, hk, rfl, Hk, hbel⟩ := hrel
    have hbox := (R.out.below hbel).get 0 rfl
    by_cases hlt : k < l.length
    · obtain ⟨b, off, cs, rfl, hb, hc, hv⟩ := (H.out.up hbel).elem hlt
      obtain ⟨x, Hx⟩ : ∃ x, Hid (x = l[k]) := ⟨l[k], hid rfl⟩
      have hrx := Hrow.out _ (List.getElem_mem hlt)
      rw [← Hx.out] at hc hrx
      obtain ⟨A1, c1, A2, c2, rfl, hx1, ha1, hx2, ha2⟩ := disk_cells hc
      have e0 := hv 0 _ rfl
      simp only [Rep.size, Nat.add_zero, Nat.reduceAdd] at e0
      obtain ⟨b1, off1, cs1, rfl, hb1, hc1, hv1⟩ := ha1.elem hrx
      obtain ⟨s, Hs⟩ : ∃ s, Hid (s = x.1[row]) := ⟨x.1[row], hid rfl⟩
      rw [← Hs.out] at hc1
      obtain ⟨rfl, hs⟩ := str_cells hc1
      have e1 := hv1 0 _ rfl
      simp only [Rep.size, Nat.add_zero, Nat.mul_one, vstr] at e1
      have Hg : Hid (x.1.getD row [] = s) := hid (by rw [List.getD_eq_getElem?_getD, List.getElem?_eq_getElem hrx, Hs.out]; rfl)
      have hx1' := hx1
      unfold big at hx1'
      clear hv hc hb hv1 hc1 hb1 ha1 ha2 hx2 hx1
      have Hroot := hid (spRootGet s wr hs)
      clear hs
      go_wp2_with fail
      refine Hroot.out.mono ?_
      rintro e w1 ⟨⟨r, hr, rfl⟩ | ⟨hn, rfl⟩, hbw⟩
      · have Hw1 := hid (btr hbel hbw)
        have Hl := hid (Pl.later_of hr txg)
        unfold vroot
        dsimp only
        clear hbel hbw hr Hroot
        by_cases htx : txg < r.txg
        · have Hf : Hid (rowLater l row txg = true) := hid (Pl.any_of_get hlt (by rw [← Hx.out, Hg.out, Hl.out]; simpa using htx))
          have htx2 : decide (r.txg > txg) = true := by simpa using htx
          go_wp2
          go_ret
          exact ⟨ret_bool Hf.out.symm, btr HA.out (bal Hw1.out _)⟩
        · have Hf := hid (Pl.any_take_step (p := fun d => later (d.1.getD row []) txg) hlt Hk.out (by show later ((l[k]).1.getD row []) txg = false; rw [← Hx.out, Hg.out, Hl.out]; simpa using htx))
          have htx2 : decide (r.txg > txg) = false := by simpa using htx
          go_wp2
          go_roundw
          case rel => exact ⟨k + 1, by omega, by go_num, Hf, bal Hw1.out _⟩
          case measure => simp only [intOf]; omega
      · have Hw1 := hid (btr hbel hbw)
        have Hl := hid (Pl.later_none hn txg)
        have Hf := hid (Pl.any_take_step (p := fun d => later (d.1.getD row []) txg) hlt Hk.out (by show later ((l[k]).1.getD row []) txg = false; rw [← Hx.out, Hg.out, Hl.out]))
        unfold vroot
        dsimp only [noRoot, hole]
        clear hbel hbw hn Hroot
        go_wp2
        go_roundw
        case rel => exact ⟨k + 1, by omega, by go_num, Hf, bal Hw1.out _⟩
        case measure => simp only [intOf]; omega
    · have hk' : k = l.length := by omega
      subst hk'
      have Hf : Hid (rowLater l row txg = false) := hid (by have h := Hk.out; rw [List.take_length] at h; exact h)
      clear Hk
      go_wp2
      go_ret
      exact ⟨ret_bool Hf.out.symm, btr HA.out hbel⟩
end Pm
end Go.Proofs.YtdjkdcokjoiokaaGreatDoor

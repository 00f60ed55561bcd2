/- The program's reading of a root, whole. -/
import Derived.Test.YtdjkdcokjoiokaaGreatDoorImI
namespace Go.Proofs.YtdjkdcokjoiokaaGreatDoor
open Go.RowKit
namespace Pl
theorem root_flags {s : Str} {r : Root} {a b c d e f : Str} (h : IsRoot s r) (hw : IsRec s [a, b, c, d, e, f]) : (numGet b).isSome = true ∧ IsPtr c r.tree.root ∧ (numGet d).isSome = true ∧ (numGet e).isSome = true := by
  obtain ⟨h1, h2, h3, h4, h5, h6⟩ := isRoot_fields h hw
  simp only [List.cons.injEq, and_true] at h1
  obtain ⟨_, rfl, rfl, rfl, rfl, _⟩ := h1
  exact ⟨by rw [numGet_dec h2]; rfl, h5, by rw [numGet_dec h3]; rfl, by rw [numGet_dec h4]; rfl⟩
theorem root_ok_of {s : Str} {r : Root} {l : List Str} (hw : IsRec s l) (h6 : l.length = 6) (h : rootPut r = s) : IsRoot s r := by
  have hs := isRec_len hw h6
  refine ⟨?_, h, hs⟩
  cases ho : rootOk r with
  | true => rfl
  | false =>
    unfold rootPut at h
    rw [if_neg (by rw [ho]; simp)] at h
    exact absurd h.symm hs
end Pl
namespace Pm
open Pl (dec dch inR Ptr Tree Root hole ptrHole ptrOk noRoot)

set_option maxRecDepth 100000 in
set_option maxHeartbeats 2000000 in
theorem imRootGet (s : Str) (w : World) (hs : s.length ≤ big) (hL : Lt w) :
    Calls Tryz.prog 46 #[.string ⟨s.toArray⟩] w (RootPost s w) := by
  have HL := hid hL
  have Hg := hid (fun w h => imFieldsGet s w hs h)
  have Z0 := hid (Row.new w #[.int .i64 0, .int .i64 0, .int .i64 0, .int .i64 0, .int .i64 0, .int .i64 0, .int .i64 0, .int .i64 0] 92)
  have B0 := hid (bnew w (.cells #[.int .i64 0, .int .i64 0, .int .i64 0, .int .i64 0, .int .i64 0, .int .i64 0, .int .i64 0, .int .i64 0] 92))
  clear hL
  go_enter Tryz.func46, Tryz.ntmps46
  go_wp2_with fail
  generalize w.alloc (.cells #[.int .i64 0, .int .i64 0, .int .i64 0, .int .i64 0, .int .i64 0, .int .i64 0, .int .i64 0, .int .i64 0] 92) = W at *
  refine (Hg.out _ (HL.out.below B0.out)).mono ?_
  rintro e w1 (⟨l, A, c, hl, hcap, rfl, hat, hb1⟩ | ⟨hn, A, c, rfl, hb1⟩)
  · have Hl := hid hl
    have Hat := hid hat
    have Z1 := hid (Z0.out.below hb1)
    have B1 := hid (btr B0.out hb1)
    clear hat hb1
    by_cases h6 : l.length = 6
    · have hle : ∀ x ∈ l, x.length ≤ 2048 := fun x hx => by
        have := Pl.enc_mem_le hx
        rw [hl.2.2] at this
        exact Nat.le_trans this hl.2.1
      clear hl
      match l, h6 with
      | [f0, f1, f2, f3, f4, f5], _ =>
      obtain ⟨b, off, rfl, hb, hc⟩ := at_cells Hat.out (by simp)
      have c1 := hc 1 _ rfl
      simp only [vstr] at c1
      have hsub := Hat.out.sub 2 3
      simp only [Rep.size, Nat.mul_one, List.drop_succ_cons, List.drop_zero, List.take_succ_cons, List.take_zero] at hsub
      have Hback := hid (fun c w' (hb : Below w1.heap.size w1 w') h => imTreeOf _ f2 f3 f4 c w' (hsub.up hb) (hle _ (by simp)) (hle _ (by simp)) (hle _ (by simp)) h)
      have Hn := hid (fun w h => imNumGet f1 w (by have := hle f1 (by simp); unfold big; omega) h)
      rw [optNat_eq] at Hn
      have Hrd := hid (fun r p h hp => Pl.root_read (s := s) (r := r) (p := p) h Hl.out hp)
      have Hfd := hid (fun r h => Pl.root_ok_of (r := r) Hl.out rfl h)
      have Hfl := hid (fun r h => Pl.root_flags (s := s) (r := r) h Hl.out)
      generalize ((Pl.numGet f1).getD 0) = n1 at *
      generalize ((Pl.numGet f1).isSome) = o1 at *
      generalize ((Pl.numGet f3).getD 0) = n3 at *
      generalize ((Pl.numGet f4).getD 0) = n4 at *
      generalize ((Pl.numGet f3).isSome) = o3 at *
      generalize ((Pl.numGet f4).isSome) = o4 at *
      clear hc hsub hle hb Hat Hl
      simp only [List.length_cons, List.length_nil, Nat.reduceAdd]
      go_wp2_with fail
      refine (Hn.out _ (HL.out.below B1.out)).mono ?_
      rintro e w2 ⟨rfl, hb2⟩
      have Z2 := hid (Z1.out.below hb2); have B2 := hid (btr B1.out hb2)
      have Hb2 := hid hb2
      clear c1 hb2
      go_wp2_with fail
      refine (Hback.out _ _ Hb2.out (HL.out.below B2.out)).mono ?_
      rintro e w3 ⟨p, ok, rfl, hp, hb3⟩
      have Hf2 := hid (fun r h => show (ok && o3 && o4) = true from by
        have hp := hp.out
        obtain ⟨_, k2, k3, k4⟩ := Hfl.out r h
        cases ok with
        | true => rw [k3, k4]; rfl
        | false => exact absurd k2 (hp.2 rfl _))
      have Hf1 := hid (fun r h => (Hfl.out r h).1)
      have Hrr := hid (fun (hok : ok = true) r h => Hrd.out r p h (fun q hq => Pl.isPtr_unique hq (hp.out.1 hok)))
      have Hoo := hid (show (ok && o3 && o4) = true → ok = true from by cases ok <;> simp)
      generalize (ok && o3 && o4) = two at *
      clear hp Hrd Hfl Hback Hn
      have Z3 := hid (((Z2.out.below hb3).alloc (.cells #[.int .i64 p.pat, .int .i64 p.birth, .int .i64 p.size, .int .i64 p.sum, .int .i64 p.level, .int .i64 (n3 : Int), .int .i64 (n4 : Int)] 56)).alloc (.cells #[.int .i64 (n1 : Int), .int .i64 p.pat, .int .i64 p.birth, .int .i64 p.size, .int .i64 p.sum, .int .i64 p.level, .int .i64 (n3 : Int), .int .i64 (n4 : Int)] 92))
      have Q3 := hid (Row.new (w3.alloc (.cells #[.int .i64 p.pat, .int .i64 p.birth, .int .i64 p.size, .int .i64 p.sum, .int .i64 p.level, .int .i64 (n3 : Int), .int .i64 (n4 : Int)] 56)) #[.int .i64 (n1 : Int), .int .i64 p.pat, .int .i64 p.birth, .int .i64 p.size, .int .i64 p.sum, .int .i64 p.level, .int .i64 (n3 : Int), .int .i64 (n4 : Int)] 92)
      have B3 := hid (bal (bal (btr B2.out hb3) (.cells #[.int .i64 p.pat, .int .i64 p.birth, .int .i64 p.size, .int .i64 p.sum, .int .i64 p.level, .int .i64 (n3 : Int), .int .i64 (n4 : Int)] 56)) (.cells #[.int .i64 (n1 : Int), .int .i64 p.pat, .int .i64 p.birth, .int .i64 p.size, .int .i64 p.sum, .int .i64 p.level, .int .i64 (n3 : Int), .int .i64 (n4 : Int)] 92))
      simp only [World.size_alloc] at Q3
      have Hput := hid (fun w h => imRootPut ⟨n1, ⟨p, n3, n4⟩⟩ w h)
      have Hfr := hid (Hfd.out ⟨n1, ⟨p, n3, n4⟩⟩)
      generalize hq2 : Pl.rootPut ⟨n1, ⟨p, n3, n4⟩⟩ = t at *
      have Hq2 := hid hq2
      unfold vroot at Hput
      dsimp only at Hput
      unfold vtree
      dsimp only
      clear hb3 hq2 Hfd
      cases o1
      · have Hf : Hid (∀ r, ¬ Pl.IsRoot s r) := hid (fun r h => by have := Hf1.out r h; cases this)
        have r0 := Z3.out.get 0 rfl; have rg0 := Z3.out.free 0; have r1 := Z3.out.get 1 rfl; have rg1 := Z3.out.free 1; have r2 := Z3.out.get 2 rfl; have rg2 := Z3.out.free 2; have r3 := Z3.out.get 3 rfl; have rg3 := Z3.out.free 3; have r4 := Z3.out.get 4 rfl; have rg4 := Z3.out.free 4; have r5 := Z3.out.get 5 rfl; have rg5 := Z3.out.free 5; have r6 := Z3.out.get 6 rfl; have rg6 := Z3.out.free 6; have r7 := Z3.out.get 7 rfl; have rg7 := Z3.out.free 7
        clear Hf2 Hf1 Hrr Hoo Hfr
        go_wp2
        refine bodyPost_ret (v := .tuple #[vroot noRoot, .bool false]) (by simp [results, Tryz.results46, go_sem, vroot, noRoot, hole, r0, r1, r2, r3, r4, r5, r6, r7]) rfl ?_
        exact ⟨Or.inr ⟨Hf.out, rfl⟩, (bset (bset (bset (bset (bset (bset (bset (bset B3.out (Nat.le_refl _) 0 _) (Nat.le_refl _) 1 _) (Nat.le_refl _) 2 _) (Nat.le_refl _) 3 _) (Nat.le_refl _) 4 _) (Nat.le_refl _) 5 _) (Nat.le_refl _) 6 _) (Nat.le_refl _) 7 _)⟩
      · cases two
        · have Hf : Hid (∀ r, ¬ Pl.IsRoot s r) := hid (fun r h => by have := Hf2.out r h; cases this)
          have r0 := Z3.out.get 0 rfl; have rg0 := Z3.out.free 0; have r1 := Z3.out.get 1 rfl; have rg1 := Z3.out.free 1; have r2 := Z3.out.get 2 rfl; have rg2 := Z3.out.free 2; have r3 := Z3.out.get 3 rfl; have rg3 := Z3.out.free 3; have r4 := Z3.out.get 4 rfl; have rg4 := Z3.out.free 4; have r5 := Z3.out.get 5 rfl; have rg5 := Z3.out.free 5; have r6 := Z3.out.get 6 rfl; have rg6 := Z3.out.free 6; have r7 := Z3.out.get 7 rfl; have rg7 := Z3.out.free 7
          clear Hf2 Hf1 Hrr Hoo Hfr
          go_wp2
          refine bodyPost_ret (v := .tuple #[vroot noRoot, .bool false]) (by simp [results, Tryz.results46, go_sem, vroot, noRoot, hole, r0, r1, r2, r3, r4, r5, r6, r7]) rfl ?_
          exact ⟨Or.inr ⟨Hf.out, rfl⟩, (bset (bset (bset (bset (bset (bset (bset (bset B3.out (Nat.le_refl _) 0 _) (Nat.le_refl _) 1 _) (Nat.le_refl _) 2 _) (Nat.le_refl _) 3 _) (Nat.le_refl _) 4 _) (Nat.le_refl _) 5 _) (Nat.le_refl _) 6 _) (Nat.le_refl _) 7 _)⟩
        · have hok := Hoo.out rfl
          have Hr1 := hid (Hrr.out hok)
          clear Hf2 Hf1 Hrr Hoo hok
          by_cases hts : t = s
          · have Hf := hid (Hfr.out hts)
            clear Hfr
            subst hts
            go_wp2_with (go_at_call 104; refine (Hput.out _ (HL.out.below B3.out)).mono ?_; rintro e w4 ⟨rfl, hb4⟩; have Z4 := hid (Z3.out.below hb4); have Q4 := hid (Q3.out.below hb4); have B4 := hid (btr B3.out hb4); clear hb4; have r0 := Z4.out.get 0 rfl; have rg0 := Z4.out.free 0; have r1 := Z4.out.get 1 rfl; have rg1 := Z4.out.free 1; have r2 := Z4.out.get 2 rfl; have rg2 := Z4.out.free 2; have r3 := Z4.out.get 3 rfl; have rg3 := Z4.out.free 3; have r4 := Z4.out.get 4 rfl; have rg4 := Z4.out.free 4; have r5 := Z4.out.get 5 rfl; have rg5 := Z4.out.free 5; have r6 := Z4.out.get 6 rfl; have rg6 := Z4.out.free 6; have r7 := Z4.out.get 7 rfl; have rg7 := Z4.out.free 7; have k0 := Q4.out.get 0 rfl; have kg0 := Q4.out.free 0; have k1 := Q4.out.get 1 rfl; have kg1 := Q4.out.free 1; have k2 := Q4.out.get 2 rfl; have kg2 := Q4.out.free 2; have k3 := Q4.out.get 3 rfl; have kg3 := Q4.out.free 3; have k4 := Q4.out.get 4 rfl; have kg4 := Q4.out.free 4; have k5 := Q4.out.get 5 rfl; have kg5 := Q4.out.free 5; have k6 := Q4.out.get 6 rfl; have kg6 := Q4.out.free 6; have k7 := Q4.out.get 7 rfl; have kg7 := Q4.out.free 7)
            refine bodyPost_ret (v := .tuple #[vroot ⟨n1, ⟨p, n3, n4⟩⟩, .bool true]) (by simp [results, Tryz.results46, go_sem, vroot, r0, r1, r2, r3, r4, r5, r6, r7]) rfl ?_
            exact ⟨Or.inl ⟨_, Hf.out, rfl⟩, (bset (bset (bset (bset (bset (bset (bset (bset B4.out (Nat.le_refl _) 0 _) (Nat.le_refl _) 1 _) (Nat.le_refl _) 2 _) (Nat.le_refl _) 3 _) (Nat.le_refl _) 4 _) (Nat.le_refl _) 5 _) (Nat.le_refl _) 6 _) (Nat.le_refl _) 7 _)⟩
          · have Hf : Hid (∀ r, ¬ Pl.IsRoot s r) := hid (fun r h => by have := Hr1.out r h; rw [this] at h; exact hts (Hq2.out.symm.trans h.2.1))
            have hts2 : (t == s) = false := by rw [beq_eq_false_iff_ne]; exact hts
            have hts3 : ¬ s = t := fun e => hts e.symm
            clear Hfr
            go_wp2_with (go_at_call 104; refine (Hput.out _ (HL.out.below B3.out)).mono ?_; rintro e w4 ⟨rfl, hb4⟩; have Z4 := hid (Z3.out.below hb4); have B4 := hid (btr B3.out hb4); clear hb4; have r0 := Z4.out.get 0 rfl; have rg0 := Z4.out.free 0; have r1 := Z4.out.get 1 rfl; have rg1 := Z4.out.free 1; have r2 := Z4.out.get 2 rfl; have rg2 := Z4.out.free 2; have r3 := Z4.out.get 3 rfl; have rg3 := Z4.out.free 3; have r4 := Z4.out.get 4 rfl; have rg4 := Z4.out.free 4; have r5 := Z4.out.get 5 rfl; have rg5 := Z4.out.free 5; have r6 := Z4.out.get 6 rfl; have rg6 := Z4.out.free 6; have r7 := Z4.out.get 7 rfl; have rg7 := Z4.out.free 7)
            refine bodyPost_ret (v := .tuple #[vroot noRoot, .bool false]) (by simp [results, Tryz.results46, go_sem, vroot, noRoot, hole, r0, r1, r2, r3, r4, r5, r6, r7]) rfl ?_
            exact ⟨Or.inr ⟨Hf.out, rfl⟩, (bset (bset (bset (bset (bset (bset (bset (bset B4.out (Nat.le_refl _) 0 _) (Nat.le_refl _) 1 _) (Nat.le_refl _) 2 _) (Nat.le_refl _) 3 _) (Nat.le_refl _) 4 _) (Nat.le_refl _) 5 _) (Nat.le_refl _) 6 _) (Nat.le_refl _) 7 _)⟩
    · have hf := hid (fun r (h : Pl.IsRoot s r) => h6 (Pl.root_six h hl))
      have r0 := Z1.out.get 0 rfl; have rg0 := Z1.out.free 0; have r1 := Z1.out.get 1 rfl; have rg1 := Z1.out.free 1; have r2 := Z1.out.get 2 rfl; have rg2 := Z1.out.free 2; have r3 := Z1.out.get 3 rfl; have rg3 := Z1.out.free 3; have r4 := Z1.out.get 4 rfl; have rg4 := Z1.out.free 4; have r5 := Z1.out.get 5 rfl; have rg5 := Z1.out.free 5; have r6 := Z1.out.get 6 rfl; have rg6 := Z1.out.free 6; have r7 := Z1.out.get 7 rfl; have rg7 := Z1.out.free 7
      have hne : ((l.length : Int) != 6) = true := by rw [bne_iff_ne]; omega
      clear hl
      go_wp2
      refine bodyPost_ret (v := .tuple #[vroot noRoot, .bool false]) (by simp [results, Tryz.results46, go_sem, vroot, noRoot, hole, r0, r1, r2, r3, r4, r5, r6, r7]) rfl ?_
      exact ⟨Or.inr ⟨hf.out, rfl⟩, (bset (bset (bset (bset (bset (bset (bset (bset B1.out (Nat.le_refl _) 0 _) (Nat.le_refl _) 1 _) (Nat.le_refl _) 2 _) (Nat.le_refl _) 3 _) (Nat.le_refl _) 4 _) (Nat.le_refl _) 5 _) (Nat.le_refl _) 6 _) (Nat.le_refl _) 7 _)⟩
  · have Z1 := hid (Z0.out.below hb1)
    have hf := hid (fun r (h : Pl.IsRoot s r) => (Pl.root_rec h).elim fun l hl => hn l hl)
    have r0 := Z1.out.get 0 rfl; have rg0 := Z1.out.free 0; have r1 := Z1.out.get 1 rfl; have rg1 := Z1.out.free 1; have r2 := Z1.out.get 2 rfl; have rg2 := Z1.out.free 2; have r3 := Z1.out.get 3 rfl; have rg3 := Z1.out.free 3; have r4 := Z1.out.get 4 rfl; have rg4 := Z1.out.free 4; have r5 := Z1.out.get 5 rfl; have rg5 := Z1.out.free 5; have r6 := Z1.out.get 6 rfl; have rg6 := Z1.out.free 6; have r7 := Z1.out.get 7 rfl; have rg7 := Z1.out.free 7
    clear hn
    go_wp2
    refine bodyPost_ret (v := .tuple #[vroot noRoot, .bool false]) (by simp [results, Tryz.results46, go_sem, vroot, noRoot, hole, r0, r1, r2, r3, r4, r5, r6, r7]) rfl ?_
    exact ⟨Or.inr ⟨hf.out, rfl⟩, (bset (bset (bset (bset (bset (bset (bset (bset (btr B0.out hb1) (Nat.le_refl _) 0 _) (Nat.le_refl _) 1 _) (Nat.le_refl _) 2 _) (Nat.le_refl _) 3 _) (Nat.le_refl _) 4 _) (Nat.le_refl _) 5 _) (Nat.le_refl _) 6 _) (Nat.le_refl _) 7 _)⟩
end Pm
end Go.Proofs.YtdjkdcokjoiokaaGreatDoor

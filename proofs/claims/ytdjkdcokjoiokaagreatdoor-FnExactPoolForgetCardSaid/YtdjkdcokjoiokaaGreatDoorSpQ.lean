/- The reference's clearing of rows. -/
import Derived.Test.YtdjkdcokjoiokaaGreatDoorSpO
import Derived.Test.YtdjkdcokjoiokaaGreatDoorForget
namespace Go.Proofs.YtdjkdcokjoiokaaGreatDoor
open Go.RowKit
namespace Pm
open Pl (clr rowLater clears)

set_option maxRecDepth 100000 in
set_option maxHeartbeats 1000000 in
theorem spForget (A : Option Addr) (r : Raid) (c : Nat) (txg : Int) (fp : List Nat) (w : World) (hl : r.length ≤ big) (h0 : 0 < r.length) (ho : Ow.own w [.slice A r.length c] r fp) (hf : Fp 0 w.heap.size fp) (h64 : ∀ d ∈ r, d.1.length = 64) :
    Calls Tryz.prog 41 #[.agg #[.slice A r.length c], .int .i64 txg] w fun e w' => e = .returned (.agg #[.slice A r.length c]) ∧ Ow.own w' [.slice A r.length c] (Pl.forget r txg) fp ∧ Touch fp w w' := by
  have Hnd := hid hf.1; have H64 := hid h64; have Hl := hid hl
  have HFp := hid hf
  have HO : Hid (Ow.own ((w.alloc (.cells #[.slice A r.length c] 28)).alloc (.cells #[.slice none 0 0] 28)) [.slice A r.length c] (Pl.wipK r txg 0) fp) := hid (by rw [Pl.wipK_zero]; exact Ow.below ho (bal (bnew _ _) _) fun b hb => (hf.2 b hb).2)
  have HB := hid ((Row.new w #[.slice A r.length c] 28).alloc (.cells #[.slice none 0 0] 28))
  have HR := hid (Row.new (w.alloc (.cells #[.slice A r.length c] 28)) #[.slice none 0 0] 28)
  simp only [World.size_alloc] at HR
  have HT := hid (Touch.of_below (fp := fp) (bal (bnew w (.cells #[.slice A r.length c] 28)) (.cells #[.slice none 0 0] 28)))
  unfold big at hl
  clear ho hf h64
  go_enter Tryz.func41, Tryz.ntmps41
  go_wp2
  go_loopw [5] (fun kv wr => ∃ (k : Nat), k ≤ 8 ∧ kv = .int .i64 k ∧ Hid (Ow.own wr [.slice A r.length c] (Pl.wipK r txg k) fp) ∧ Hid (Row wr w.heap.size #[.slice A r.length c]) ∧ Hid (Row wr (w.heap.size + 1) #[.slice none 0 0]) ∧ Hid (Touch fp w wr)) (fun kv _ => 8 - (intOf kv).toNat)
  case atStart => exact ⟨0, by omega, rfl, HO, HB, HR, HT⟩
  case round =>
    clear HO HB HR HT
    obtain ⟨k, hk, rfl, HO, HB, HR, HT⟩ := hrel
    have a0 := HB.out.get 0 rfl
    by_cases h8 : k < 8
    · have h8I : (k : Int) < 8 := by omega
      by_cases h4 : k < 4
      · have h4I : (k : Int) < 4 := by omega
        obtain ⟨A', c', hv, hlen, hat⟩ := Ow.reads (B := wr.heap.size) HO.out (fun b hb => Ow.lt HO.out b hb)
        have hcc : A' = A ∧ c' = c := by
          simp only [List.cons.injEq, and_true] at hv
          injection hv with q1 q2 q3
          exact ⟨q1.symm, q3.symm⟩
        obtain ⟨rfl, rfl⟩ := hcc
        have Hlat := hid (spLater A' (Pl.wipK r txg k) c' k txg wr hlen hat (fun d hd => by
          obtain ⟨e, he, h1, _⟩ := Pl.wipK_mem hd
          rw [h1, H64.out e he]; omega) (by unfold big; omega))
        rw [Pl.later_wipK, Pl.wipK_len] at Hlat
        generalize hq : rowLater r k txg = q at Hlat
        have Hc : Hid (clears r txg k = q) := hid (by rw [Pl.clears_low h4]; exact hq)
        clear hv hlen hat hq
        cases q
        · go_wp2_with (go_at_call 95; refine Hlat.out.mono ?_; rintro e w1 ⟨rfl, hb1⟩)
          go_roundw
          case rel =>
            refine ⟨k + 1, by omega, by go_num, hid ?_, hid (HB.out.below hb1), hid (HR.out.below hb1), hid (HT.out.trans (Touch.of_below hb1))⟩
            rw [Pl.wipK_skip Hc.out]
            exact Ow.below HO.out hb1 fun b hb => Ow.lt HO.out b hb
          case measure => simp only [intOf]; omega
        · have HO1 := HO
          go_wp2_with (go_at_call 95; refine Hlat.out.mono ?_; rintro e w1 ⟨rfl, hb1⟩)
          go_loopw [6] (fun jv wr => ∃ (i : Nat), i ≤ r.length ∧ jv = .int .i64 i ∧ Hid (Ow.own wr [.slice A' r.length c'] (((Pl.wipK r txg k).take i).map (clr k) ++ (Pl.wipK r txg k).drop i) fp) ∧ Hid (Row wr w.heap.size #[.slice A' r.length c']) ∧ Hid (Row wr (w.heap.size + 1) #[.slice none 0 0]) ∧ Hid (Touch fp w wr)) (fun jv _ => r.length - (intOf jv).toNat)
          case atStart => exact ⟨0, by omega, rfl, hid (by simpa using (Ow.below HO.out hb1 fun b hb => Ow.lt HO.out b hb)), hid (HB.out.below hb1), hid (HR.out.below hb1), hid (HT.out.trans (Touch.of_below hb1))⟩
          case round =>
            obtain ⟨i, hi, rfl, HO2, HB2, HR2, HT2⟩ := hrel
            have b0 := HB2.out.get 0 rfl
            by_cases hlt : i < r.length
            · have hltw : i < (Pl.wipK r txg k).length := by rw [Pl.wipK_len]; exact hlt
              have hget := Pl.part_get (f := clr k) hltw
              obtain ⟨d, Hd⟩ : ∃ d, Hid (d = (Pl.wipK r txg k)[i]) := ⟨_, hid rfl⟩
              rw [← Hd.out] at hget
              have h64 : d.1.length = 64 := by
                obtain ⟨e, he, h1, _⟩ := Pl.wipK_mem (Hd.out ▸ List.getElem_mem hltw)
                rw [h1]; exact H64.out e he
              have hcell := own_cell HO2.out Hnd.out hget (k := k) (by omega)
              obtain ⟨b, g, c1, hA, _, hbm, hgm, e0, ⟨old, e1⟩, e2, hset⟩ := hcell
              rw [h64] at e0
              subst hA
              have Hset := hid (hset [] (by simp [big]))
              have Hgm := hid hgm
              have hgl := HFp.out.2 g hgm
              have hne1 : w.heap.size ≠ g := by omega
              have hne2 : w.heap.size + 1 ≠ g := by omega
              have hltI : (i : Int) < r.length := by omega
              have hkI : (k : Int) < 64 := by omega
              clear hset hget hgm hbm
              go_wp2
              go_roundw
              case rel =>
                refine ⟨i + 1, by omega, by go_num, hid ?_, hid (HB2.out.far hne1 _ _), hid (HR2.out.far hne2 _ _), hid (HT2.out.set Hgm.out _ _)⟩
                have h := Pl.part_set (f := clr k) hltw
                rw [← Hd.out] at h
                have h2 := Hset.out
                have h3 : clr k d = (d.1.set k [], d.2) := rfl
                rw [← h3, h] at h2
                exact h2
              case measure => simp only [intOf]; omega
            · have hi' : i = r.length := by omega
              subst hi'
              have HO3 : Hid (Ow.own wr [.slice A' r.length c'] (Pl.wipK r txg (k + 1)) fp) := hid (by
                have h := HO2.out
                rw [List.take_of_length_le (by rw [Pl.wipK_len]; exact Nat.le_refl _), List.drop_eq_nil_of_le (by rw [Pl.wipK_len]; exact Nat.le_refl _), List.append_nil, ← Pl.wipK_clear Hc.out] at h
                exact h)
              clear HO2
              go_wp2
              go_roundw
              case rel => exact ⟨k + 1, by omega, by go_num, HO3, HB2, HR2, HT2⟩
              case measure => simp only [intOf]; omega
      · have h4I : ¬ (k : Int) < 4 := by omega
        go_wp2_with fail
        go_loopw [6] (fun jv wr => ∃ (i : Nat), i ≤ r.length ∧ jv = .int .i64 i ∧ Hid (Ow.own wr [.slice A r.length c] (((Pl.wipK r txg k).take i).map (clr k) ++ (Pl.wipK r txg k).drop i) fp) ∧ Hid (Row wr w.heap.size #[.slice A r.length c]) ∧ Hid (Row wr (w.heap.size + 1) #[.slice none 0 0]) ∧ Hid (Touch fp w wr)) (fun jv _ => r.length - (intOf jv).toNat)
        case atStart => exact ⟨0, by omega, rfl, hid (by simpa using HO.out), HB, HR, HT⟩
        case round =>
          obtain ⟨i, hi, rfl, HO2, HB2, HR2, HT2⟩ := hrel
          have b0 := HB2.out.get 0 rfl
          by_cases hlt : i < r.length
          · have hltw : i < (Pl.wipK r txg k).length := by rw [Pl.wipK_len]; exact hlt
            have hget := Pl.part_get (f := clr k) hltw
            obtain ⟨d, Hd⟩ : ∃ d, Hid (d = (Pl.wipK r txg k)[i]) := ⟨_, hid rfl⟩
            rw [← Hd.out] at hget
            have h64 : d.1.length = 64 := by
              obtain ⟨e, he, h1, _⟩ := Pl.wipK_mem (Hd.out ▸ List.getElem_mem hltw)
              rw [h1]; exact H64.out e he
            have hcell := own_cell HO2.out Hnd.out hget (k := k) (by omega)
            obtain ⟨b, g, c1, hA, _, hbm, hgm, e0, ⟨old, e1⟩, e2, hset⟩ := hcell
            rw [h64] at e0
            subst hA
            have Hset := hid (hset [] (by simp [big]))
            have Hgm := hid hgm
            have hgl := HFp.out.2 g hgm
            have hne1 : w.heap.size ≠ g := by omega
            have hne2 : w.heap.size + 1 ≠ g := by omega
            have hltI : (i : Int) < r.length := by omega
            have hkI : (k : Int) < 64 := by omega
            clear hset hget hgm hbm
            go_wp2
            go_roundw
            case rel =>
              refine ⟨i + 1, by omega, by go_num, hid ?_, hid (HB2.out.far hne1 _ _), hid (HR2.out.far hne2 _ _), hid (HT2.out.set Hgm.out _ _)⟩
              have h := Pl.part_set (f := clr k) hltw
              rw [← Hd.out] at h
              have h2 := Hset.out
              have h3 : clr k d = (d.1.set k [], d.2) := rfl
              rw [← h3, h] at h2
              exact h2
            case measure => simp only [intOf]; omega
          · have hi' : i = r.length := by omega
            subst hi'
            have HO3 : Hid (Ow.own wr [.slice A r.length c] (Pl.wipK r txg (k + 1)) fp) := hid (by
              have h := HO2.out
              rw [List.take_of_length_le (by rw [Pl.wipK_len]; exact Nat.le_refl _), List.drop_eq_nil_of_le (by rw [Pl.wipK_len]; exact Nat.le_refl _), List.append_nil, ← Pl.wipK_clear (Pl.clears_high (by omega) h8)] at h
              exact h)
            clear HO2
            go_wp2
            go_roundw
            case rel => exact ⟨k + 1, by omega, by go_num, HO3, HB2, HR2, HT2⟩
            case measure => simp only [intOf]; omega
    · have hk8 : k = 8 := by omega
      subst hk8
      have HO3 := HO
      rw [Pl.wipK_end] at HO3
      have q0 := HR.out.get 0 rfl; have qg0 := HR.out.free 0
      clear HO
      go_wp2
      refine bodyPost_ret (v := .agg #[.slice A r.length c]) (by simp [results, Tryz.results41, go_sem, q0]) rfl ?_
      refine ⟨rfl, Ow.frame HO3.out fun b hb => heap_setCell_far _ _ _ _ _ ?_, ?_⟩
      · have := (HFp.out.2 b hb).2; omega
      · have ht := HT.out
        refine ⟨ht.os, ht.tape, ht.output, by rw [heap_setCell_size]; exact ht.size, fun p hp hn => ?_⟩
        rw [heap_setCell_far _ _ _ _ _ (by omega)]
        exact ht.block p hp hn
end Pm
end Go.Proofs.YtdjkdcokjoiokaaGreatDoor

/- The reference's PoolForget. -/
namespace Go.Proofs.YtdjkdcokjoiokaaGreatDoor
open Go.RowKit
namespace Pl
theorem raid_disk {l : Raid} (h : raidOk l = true) : l.length = 3 ∧ ∀ d ∈ l, d.1.length = 64 ∧ d.2.1.length ≤ 120 ∧ (∀ x ∈ d.1, x.length ≤ 200) ∧ (∀ x ∈ d.2.1, (0 ≤ x.1 ∧ x.1 ≤ 63) ∧ x.2.length ≤ 200) := by
  unfold raidOk at h
  simp only [Bool.and_eq_true, decide_eq_true_eq, List.all_eq_true] at h
  refine ⟨h.1, fun d hd => ?_⟩
  have := h.2 d hd
  unfold diskOk at this
  simp only [Bool.and_eq_true, decide_eq_true_eq, List.all_eq_true] at this
  obtain ⟨⟨⟨⟨a, b⟩, c⟩, _⟩, e⟩ := this
  refine ⟨a, b, fun x hx => ?_, fun x hx => ?_⟩
  · have := c x hx; unfold cellOk at this; simp only [Bool.and_eq_true, decide_eq_true_eq] at this; exact this.1
  · have := e x hx; unfold waitOk inR at this; simp only [Bool.and_eq_true, decide_eq_true_eq] at this; exact this
theorem forget_len (l : Raid) (t : Int) : (forget l t).length = l.length := by simp [forget]
end Pl
namespace Pm
open Pl (inR raidOk waits poolForget)
/-- What PoolForget hands back. -/
def PfPost (l : Raid) (txg : Int) (w : World) (e : Ending) (w' : World) : Prop :=
  ∃ A' c', e = .returned (.tuple #[.agg #[.slice A' (poolForget l txg).1.length c'], .bool (poolForget l txg).2]) ∧ (poolForget l txg).1.length ≤ big ∧ At w' w'.heap.size A' (poolForget l txg).1 ∧ Below w.heap.size w w'
theorem pf_bad {l : Raid} {txg : Int} (h : (raidOk l && !l.any waits && inR txg 1 900) = false) : poolForget l txg = ([], false) := by
  unfold poolForget Pl.still; rw [h]; rfl
theorem pf_good {l : Raid} {txg : Int} (h : (raidOk l && !l.any waits && inR txg 1 900) = true) : poolForget l txg = (Pl.forget l txg, true) := by
  unfold poolForget Pl.still; rw [h]; rfl

set_option maxRecDepth 100000 in
set_option maxHeartbeats 1000000 in
theorem spPoolForget (A : Option Addr) (l : Raid) (c : Nat) (txg : Int) (w : World) (hl : l.length ≤ big) (h : At w w.heap.size A l) :
    Calls Tryz.prog 10 #[.agg #[.slice A l.length c], .int .i64 txg] w (PfPost l txg w) := by
  have HB := hid (bal (bnew w (.cells #[.slice A l.length c] 28)) (.cells #[.slice none 0 0] 28))
  have RB := hid ((Row.new w #[.slice A l.length c] 28).alloc (.cells #[.slice none 0 0] 28))
  have RR := hid (Row.new (w.alloc (.cells #[.slice A l.length c] 28)) #[.slice none 0 0] 28)
  have Hz := hid (show ((w.alloc (.cells #[.slice A l.length c] 28)).alloc (.cells #[.slice none 0 0] 28)).heap.size = w.heap.size + 2 by simp)
  simp only [World.size_alloc] at RR
  have Ha := hid h
  have Hok := hid (fun w (h : At w w.heap.size A l) => spRaidOk A l c w hl h)
  have Hq := hid (fun w (h : At w w.heap.size A l) => spQuiet A l c w hl h)
  have Hin := hid (fun w => l6In txg 1 900 w)
  have Hbad := hid (pf_bad (l := l) (txg := txg))
  have Hgood := hid (pf_good (l := l) (txg := txg))
  generalize hq1 : raidOk l = q1 at Hok Hbad Hgood
  generalize hq2 : l.any waits = q2 at Hq Hbad Hgood
  generalize hq3 : inR txg 1 900 = q3 at Hin Hbad Hgood
  have Hq1 := hid hq1
  clear h hq1 hq2 hq3
  go_enter Tryz.func10, Tryz.ntmps10
  go_wp2_with fail
  generalize (w.alloc (.cells #[.slice A l.length c] 28)).alloc (.cells #[.slice none 0 0] 28) = W at *
  refine (Hok.out _ (Ha.out.up HB.out)).mono ?_
  rintro e w1 ⟨rfl, hb1⟩
  have R1 := hid (RR.out.below hb1); have B1 := hid (RB.out.below hb1); have Hb1 := hid (btr HB.out hb1)
  have Ha1 := hid (Ha.out.up Hb1.out)
  clear hb1
  cases q1
  · have Hf := hid (Hbad.out rfl)
    have r0 := R1.out.get 0 rfl; have g0 := R1.out.free 0
    go_wp2
    refine bodyPost_ret (v := .tuple #[.agg #[.slice none 0 0], .bool false]) (by simp [results, Tryz.results10, go_sem, r0]) rfl ?_
    exact ⟨none, 0, by rw [Hf.out]; rfl, by rw [Hf.out]; simp, by rw [Hf.out]; exact At.nil, bset Hb1.out (by omega) _ _⟩
  · have b0 := B1.out.get 0 rfl
    go_wp2_with fail
    refine (Hq.out _ Ha1.out).mono ?_
    rintro e w2 ⟨rfl, hb2⟩
    have R2 := hid (R1.out.below hb2); have B2 := hid (B1.out.below hb2); have Hb2 := hid (btr Hb1.out hb2)
    have Ha2 := hid (Ha.out.up Hb2.out)
    have Hlt2 := hid R2.out.lt
    clear hb2 b0
    have r0 := R2.out.get 0 rfl; have g0 := R2.out.free 0
    cases q2
    · cases q3
      · have Hf := hid (Hbad.out rfl)
        go_wp2_with (go_at_call 40; refine (Hin.out _).mono ?_; rintro e w' ⟨rfl, rfl⟩)
        refine bodyPost_ret (v := .tuple #[.agg #[.slice none 0 0], .bool false]) (by simp [results, Tryz.results10, go_sem, r0]) rfl ?_
        exact ⟨none, 0, by rw [Hf.out]; rfl, by rw [Hf.out]; simp, by rw [Hf.out]; exact At.nil, bset Hb2.out (by omega) _ _⟩
      · have Hf := hid (Hgood.out rfl)
        obtain ⟨h3, hd⟩ := Pl.raid_disk Hq1.out
        have Hc := hid (spCopy4 A l c w2 (by omega) Ha2.out (fun d hd' => by
          obtain ⟨k1, k2, k3, k4⟩ := hd d hd'
          refine ⟨by omega, by omega, fun x hx => ?_, fun x hx => ?_⟩
          · have := k3 x hx; unfold big; omega
          · have := k4 x hx; unfold InI big; omega))
        have H64 := hid (fun d hd' => (hd d hd').1)
        have Hl3 := hid h3
        have b0 := B2.out.get 0 rfl
        clear hd h3 r0 g0
        go_wp2_with (first | (go_at_call 40; refine (Hin.out _).mono ?_; rintro e w' ⟨rfl, rfl⟩) | (go_at_call 42; refine Hc.out.mono ?_; rintro e w3 ⟨A', c', fp, rfl, ho, hfp, hb3⟩))
        refine (spForget A' l c' txg fp w3 (by have := Hl3.out; unfold big; omega) (by have := Hl3.out; omega) ho (hfp.mono (Nat.zero_le _) (Nat.le_refl _)) H64.out).mono ?_
        rintro e w4 ⟨rfl, ho4, ht4⟩
        have hlt2 := Hlt2.out
        have R4 := hid ((R2.out.below hb3).keep (ht4.block _ (Nat.lt_of_lt_of_le hlt2 hb3.size) (fun hm => by have := (hfp.2 _ hm).1; omega)))
        have Hb4 := hid (show Below w.heap.size w w4 from (btr Hb2.out hb3).trans (ht4.below (by have := hb3.size; omega) (fun b hb => by have := (hfp.2 b hb).1; omega)))
        have Hfp := hid (show ∀ b ∈ fp, w.heap.size + 2 ≤ b from fun b hb => by have := (hfp.2 b hb).1; omega)
        have Ho4 := hid ho4
        have r0 := R4.out.get 0 rfl; have g0 := R4.out.free 0
        clear ho ho4 ht4 hfp hb3 b0
        go_wp2
        refine bodyPost_ret (v := .tuple #[.agg #[.slice A' l.length c'], .bool true]) (by simp [results, Tryz.results10, go_sem, r0]) rfl ?_
        have hown : Ow.own (w4.setCell ⟨w.heap.size + 1, 0, none⟩ (.slice A' l.length c')) [.slice A' l.length c'] (Pl.forget l txg) fp := Ow.frame Ho4.out fun b hb => heap_setCell_far _ _ _ _ _ (by have := Hfp.out b hb; omega)
        obtain ⟨A2, c2, hv, hlen, hat⟩ := Ow.reads (B := (w4.setCell ⟨w.heap.size + 1, 0, none⟩ (.slice A' l.length c')).heap.size) hown (fun b hb => Ow.lt hown b hb)
        have hcc : A2 = A' ∧ c2 = c' := by
          simp only [List.cons.injEq, and_true] at hv
          injection hv with q1 q2 q3
          exact ⟨q1.symm, q3.symm⟩
        obtain ⟨rfl, rfl⟩ := hcc
        exact ⟨A2, c2, by rw [Hf.out, Pl.forget_len], by rw [Hf.out]; exact hlen, by rw [Hf.out]; exact hat, bset Hb4.out (by omega) _ _⟩
    · have Hf := hid (Hbad.out rfl)
      go_wp2
      refine bodyPost_ret (v := .tuple #[.agg #[.slice none 0 0], .bool false]) (by simp [results, Tryz.results10, go_sem, r0]) rfl ?_
      exact ⟨none, 0, by rw [Hf.out]; rfl, by rw [Hf.out]; simp, by rw [Hf.out]; exact At.nil, bset Hb2.out (by omega) _ _⟩
end Pm
end Go.Proofs.YtdjkdcokjoiokaaGreatDoor

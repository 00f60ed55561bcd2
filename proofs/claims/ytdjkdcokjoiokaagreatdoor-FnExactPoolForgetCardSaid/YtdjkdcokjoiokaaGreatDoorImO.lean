/- The program's PoolForget. -/
import Derived.Test.YtdjkdcokjoiokaaGreatDoorImN
import Derived.Test.YtdjkdcokjoiokaaGreatDoorKeys
namespace Go.Proofs.YtdjkdcokjoiokaaGreatDoor
open Go.RowKit
namespace Pm
open Pl (inR raidOk waits poolForget later rowLater clears P1 P2 noRoot hole)
/-- What the program's PoolForget hands back. -/
def IfPost (l : Raid) (txg : Int) (w : World) (e : Ending) (w' : World) : Prop :=
  ∃ A' c' fp, e = .returned (.tuple #[.agg #[.slice A' (poolForget l txg).1.length c'], .bool (poolForget l txg).2]) ∧ Ow.own w' [.slice A' (poolForget l txg).1.length c'] (poolForget l txg).1 fp ∧ Fp w.heap.size w'.heap.size fp ∧ Below w.heap.size w w'
theorem pf_no {l : Raid} {txg : Int} (h : (Pl.still l && inR txg 1 900) = false) : poolForget l txg = ([], false) := by unfold poolForget; rw [h]; rfl
theorem pf_yes {l : Raid} {txg : Int} (h : (Pl.still l && inR txg 1 900) = true) : poolForget l txg = (Pl.forget l txg, true) := by unfold poolForget; rw [h]; rfl
theorem row_grown {w w' : World} {b mb : Nat} {cur : Array Value} (h : Row w b cur) (hg : w.grownBy w' (some mb)) (hne : b ≠ mb) : Row w' b cur := h.keep (hg.block _ h.lt fun e => hne (by injection e))
theorem set_grown (w : World) (g k : Nat) (v : Value) : w.grownBy (w.setCell ⟨g, k, none⟩ v) (some g) :=
  ⟨rfl, rfl, rfl, by rw [heap_setCell_size]; exact Nat.le_refl _, fun i _ hne => heap_setCell_far _ _ _ _ _ fun e => hne (by rw [e])⟩
theorem good_out {w w' : World} {l : Raid} {txg : Int} {A' : Option Addr} {c' : Nat} {fp : List Nat} {e : Ending} (hy : poolForget l txg = (Pl.forget l txg, true)) (he : e = .returned (.tuple #[.agg #[.slice A' l.length c'], .bool true]))
    (ho : Ow.own w' [.slice A' l.length c'] (Pl.forget l txg) fp) (hf : Fp w.heap.size w'.heap.size fp) (hb : Below w.heap.size w w') : IfPost l txg w e w' := by
  refine ⟨A', c', fp, ?_, ?_, hf, hb⟩
  · rw [hy, he, Pl.forget_len]
  · rw [hy]; rw [Pl.forget_len]; exact ho

theorem set_self {α : Type} {l : List α} {i : Nat} {x : α} (h : l[i]? = some x) : l.set i x = l := by
  apply List.ext_getElem?
  intro j
  by_cases hj : i = j
  · subst hj
    rw [List.getElem?_set_self (List.getElem?_eq_some_iff.1 h).1, h]
  · rw [List.getElem?_set_ne hj]
/-- One disk, the rows of cl cleared that are no more to come. -/
def wl (cl : Nat → Bool) (left : Lit → Bool) (d : Disk) : Disk := (Pl.wipe (fun j => cl j && !left (.int .i64 (j : Int))) d.1, d.2)
def wAll (cl : Nat → Bool) (d : Disk) : Disk := (Pl.wipe cl d.1, d.2)
theorem wl_none {cl : Nat → Bool} {left : Lit → Bool} (h : ∀ j : Nat, cl j = true → left (.int .i64 (j : Int)) = true) (d : Disk) : wl cl left d = d := by
  unfold wl
  rw [Pl.wipe_none fun j => by
    cases hc : cl j with
    | false => rfl
    | true => rw [h j hc]; rfl]
theorem wl_all {cl : Nat → Bool} {left : Lit → Bool} (h : ∀ kl, left kl = false) (d : Disk) : wl cl left d = wAll cl d := by
  unfold wl wAll
  rw [Pl.wipe_congr (q := cl) fun j => by rw [h]; simp]
theorem wl_strike {cl : Nat → Bool} {left : Lit → Bool} {k : Nat} (hk : cl k = true) (hl : left (.int .i64 (k : Int)) = true) (d : Disk) :
    ((wl cl left d).1.set k [], (wl cl left d).2) = wl cl (fun z => left z && !z.sameKey (.int .i64 (k : Int))) d := by
  unfold wl
  simp only
  rw [strike_wipe hk hl]

set_option maxRecDepth 100000 in
set_option maxHeartbeats 4000000 in
theorem imPoolForget (A : Option Addr) (l : Raid) (c : Nat) (txg : Int) (w : World) (hl : l.length ≤ big) (h : At w w.heap.size A l) (hL : Lt w) :
    Calls Tryz.prog 12 #[.agg #[.slice A l.length c], .int .i64 txg] w (IfPost l txg w) := by
  have HL := hid hL
  have HB := hid (bal (bnew w (.cells #[.slice A l.length c] 28)) (.cells #[.slice none 0 0] 28))
  have RB := hid ((Row.new w #[.slice A l.length c] 28).alloc (.cells #[.slice none 0 0] 28))
  have RR := hid (Row.new (w.alloc (.cells #[.slice A l.length c] 28)) #[.slice none 0 0] 28)
  have Hz := hid (show ((w.alloc (.cells #[.slice A l.length c] 28)).alloc (.cells #[.slice none 0 0] 28)).heap.size = w.heap.size + 2 by simp)
  simp only [World.size_alloc] at RR
  have Ha := hid h
  have Hst := hid (imStill A l c _ hl (h.up HB.out))
  have Hin := hid (fun w => imIn txg 1 900 w)
  have Hbad := hid (pf_no (l := l) (txg := txg))
  have Hgood := hid (pf_yes (l := l) (txg := txg))
  generalize hq1 : Pl.still l = q1 at Hst Hbad Hgood
  generalize hq3 : inR txg 1 900 = q3 at Hin Hbad Hgood
  have Hq1 := hid hq1
  have hmm := @run_makeMap Tryz.prog
  clear h hq1 hq3 hL
  go_enter Tryz.func12, Tryz.ntmps12
  go_wp2_with fail
  generalize (w.alloc (.cells #[.slice A l.length c] 28)).alloc (.cells #[.slice none 0 0] 28) = W at *
  refine Hst.out.mono ?_
  rintro e w1 ⟨rfl, hb1⟩
  have R1 := hid (RR.out.below hb1); have B1 := hid (RB.out.below hb1); have Hb1 := hid (btr HB.out hb1)
  have Ha1 := hid (Ha.out.up Hb1.out)
  have Hsz1 := hid (show w.heap.size + 2 ≤ w1.heap.size by have := hb1.size; have := Hz.out; omega)
  clear hb1
  cases q1
  · have Hf := hid (Hbad.out rfl)
    have r0 := R1.out.get 0 rfl; have g0 := R1.out.free 0
    go_wp2
    refine bodyPost_ret (v := .tuple #[.agg #[.slice none 0 0], .bool false]) (by simp [results, Tryz.results12, go_sem, r0]) rfl ?_
    exact ⟨none, 0, [], by rw [Hf.out]; rfl, by rw [Hf.out]; exact own_nil, Fp.nil, bset Hb1.out (by omega) _ _⟩
  · cases q3
    · have Hf := hid (Hbad.out rfl)
      have r0 := R1.out.get 0 rfl; have g0 := R1.out.free 0
      go_wp2_with (go_at_call 45; refine (Hin.out _).mono ?_; rintro e w' ⟨rfl, rfl⟩)
      refine bodyPost_ret (v := .tuple #[.agg #[.slice none 0 0], .bool false]) (by simp [results, Tryz.results12, go_sem, r0]) rfl ?_
      exact ⟨none, 0, [], by rw [Hf.out]; rfl, by rw [Hf.out]; exact own_nil, Fp.nil, bset Hb1.out (by omega) _ _⟩
    · have Hf := hid (Hgood.out rfl)
      have Hraid : Hid (raidOk l = true) := hid (by have h := Hq1.out; unfold Pl.still at h; rw [Bool.and_eq_true] at h; exact h.1)
      have Hd := hid (Pl.raid_disk Hraid.out)
      have h3 := Hd.out.1
      have Hin2 := hid (show ∀ d ∈ l, d.1.length ≤ 1048576 ∧ d.2.1.length ≤ 1048576 ∧ (∀ x ∈ d.1, x.length ≤ big) ∧ (∀ x ∈ d.2.1, InI x.1 ∧ x.2.length ≤ big) from fun d hd' => by
        obtain ⟨k1, k2, k3, k4⟩ := Hd.out.2 d hd'
        refine ⟨by omega, by omega, fun x hx => ?_, fun x hx => ?_⟩
        · have := k3 x hx; unfold big; omega
        · have := k4 x hx; unfold InI big; omega)
      have Hlen3 := hid h3
      have hl9 : l.length ≤ 1000 := by omega
      have B2 := hid (B1.out.alloc (.map #[] 0)); have R2 := hid (R1.out.alloc (.map #[] 0)); have K2 := hid ((keys_new w1).congr fun j => (Pl.P1_zero l txg j).symm); have Hb2 := hid (bal Hb1.out (.map #[] 0))
      clear h3 hl
      go_wp2_with (go_at_call 45; refine (Hin.out _).mono ?_; rintro e w' ⟨rfl, rfl⟩)
      generalize hmb : w1.heap.size = mb at *
      generalize w1.alloc (.map #[] 0) = W2 at *
      go_loopw [26] (fun kv wr => ∃ (k n : Nat), k ≤ 4 ∧ kv = .int .i64 k ∧ Hid (n ≤ 3 * k) ∧ Hid (Keys wr mb n (P1 l txg k 0)) ∧ Hid (Row wr w.heap.size #[.slice A l.length c]) ∧ Hid (Row wr (w.heap.size + 1) #[.slice none 0 0]) ∧ Hid (Below w.heap.size w wr)) (fun kv _ => 4 - (intOf kv).toNat)
      case atStart => exact ⟨0, 0, by omega, rfl, hid (by omega), K2, B2, R2, Hb2⟩
      case round =>
        clear K2 B2 R2 Hb2 B1 R1 Hb1
        obtain ⟨k, n, hk, rfl, Hn, K, B, R, Hbel⟩ := hrel
        have b0 := B.out.get 0 rfl
        by_cases h4 : k < 4
        · have h4I : (k : Int) < 4 := by omega
          go_wp2
          go_loopw [32] (fun iv wr => ∃ (i n : Nat), i ≤ l.length ∧ iv = .int .i64 i ∧ Hid (n ≤ 3 * k + i) ∧ Hid (Keys wr mb n (P1 l txg k i)) ∧ Hid (Row wr w.heap.size #[.slice A l.length c]) ∧ Hid (Row wr (w.heap.size + 1) #[.slice none 0 0]) ∧ Hid (Below w.heap.size w wr)) (fun iv _ => l.length - (intOf iv).toNat)
          case atStart => exact ⟨0, n, by omega, rfl, hid (by have := Hn.out; omega), K, B, R, Hbel⟩
          case round =>
            clear K B R Hbel b0 Hn
            obtain ⟨i, n, hi, rfl, Hn, K, B, R, Hbel⟩ := hrel
            by_cases hlt : i < l.length
            · have hltI : (i : Int) < l.length := by omega
              obtain ⟨b, off, cs, rfl, hb, hc, hv⟩ := (Ha.out.up Hbel.out).elem hlt
              obtain ⟨x, Hx⟩ : ∃ x, Hid (x = l[i]) := ⟨l[i], hid rfl⟩
              have Hx64 := hid ((Hd.out.2 _ (List.getElem_mem hlt)).1)
              rw [← Hx.out] at hc Hx64
              obtain ⟨A1, c1, A2, c2, rfl, hx1, ha1, hx2, ha2⟩ := disk_cells hc
              have e0 := hv 0 _ rfl
              have e1 := hv 1 _ rfl
              have e2 := hv 2 _ rfl
              simp only [Rep.size, Nat.add_zero, Nat.reduceAdd] at e0 e1 e2
              obtain ⟨b1, off1, cs1, rfl, hb1, hc1, hv1⟩ := ha1.elem (k := k) (by have := Hx64.out; omega)
              obtain ⟨s, Hs⟩ : ∃ s, Hid (s = x.1[k]'(by have := Hx64.out; omega)) := ⟨_, hid rfl⟩
              rw [← Hs.out] at hc1
              obtain ⟨rfl, hs⟩ := str_cells hc1
              have e3 := hv1 0 _ rfl
              simp only [Rep.size, Nat.add_zero, Nat.mul_one, vstr] at e3
              have Hg : Hid (l[i].1.getD k [] = s) := hid (by rw [← Hx.out, List.getD_eq_getElem?_getD, List.getElem?_eq_getElem (by have := Hx64.out; omega), Hs.out]; rfl)
              have e3' := cell_below e3 (bnew wr (.cells #[.slice (some ⟨b1, off1, none⟩) x.1.length c1, .slice A2 x.2.1.length c2, .bool x.2.2] 90))
              have hk64 : (k : Int) < x.1.length := by have := Hx64.out; omega
              have Hroot := hid (fun w h => imRootGet s w hs h)
              have HLr := hid (HL.out.below (bal Hbel.out (.cells #[.slice (some ⟨b1, off1, none⟩) x.1.length c1, .slice A2 x.2.1.length c2, .bool x.2.2] 90)))
              have Hb5 := hid (bnew wr (.cells #[.slice (some ⟨b1, off1, none⟩) x.1.length c1, .slice A2 x.2.1.length c2, .bool x.2.2] 90))
              clear hv hc hb hv1 hc1 hb1 hx1 hx2 ha1 ha2 hs
              go_wp2_with fail
              refine (Hroot.out _ HLr.out).mono ?_
              rintro e w5 ⟨⟨r, hr, rfl⟩ | ⟨hno, rfl⟩, hbw⟩
              · have Hla := hid (Pl.later_of hr txg)
                unfold vroot
                dsimp only
                generalize hro : (Obj.cells #[.int .i64 r.txg, .int .i64 r.tree.root.pat, .int .i64 r.tree.root.birth, .int .i64 r.tree.root.size, .int .i64 r.tree.root.sum, .int .i64 r.tree.root.level, .int .i64 r.tree.depth, .int .i64 r.tree.many] 92) = ro
                have Hb6 := hid (bal (btr Hb5.out hbw) ro)
                rw [← hro] at Hb6
                clear hro
                have K6 := hid (K.out.below Hb6.out); have B6 := hid (B.out.below Hb6.out); have R6 := hid (R.out.below Hb6.out); have Hbel6 := hid (btr Hbel.out Hb6.out)
                clear hbw hr e0 e1 e2 e3 e3'
                by_cases htx : txg < r.txg
                · have htx2 : decide (r.txg > txg) = true := by simpa using htx
                  have htx3 : decide (txg < r.txg) = true := by simpa using htx
                  have Hh := hid (Pl.P1_hit (k := k) hlt (by rw [Hg.out, Hla.out]; simpa using htx))
                  obtain ⟨D, hD⟩ := K6.out
                  have HD := hid hD
                  clear htx hD
                  go_wp2_with (at_mapUpdate; refine wpList_mapUpdate_own _ rfl _ _ _ 87 rfl 3 4 keyI Tryz.underlying87 _ mb n D rfl HD.out.1 (by have := Hn.out; have := Hlen3.out; unfold maxLen; omega) _ _ _ rfl rfl (Maps.keyOf_int_mk Tryz.underlying3 (wf_small (by omega) (by omega))) _ [] (plainElem_bool Tryz.underlying4 true) ?_; intro w7 hown7 hgrow7; have K7 := hid (keys_put HD.out rfl (by omega) hown7); have B7 := hid (row_grown B6.out hgrow7 (by have := Hsz1.out; omega)); have R7 := hid (row_grown R6.out hgrow7 (by have := Hsz1.out; omega)); have Hbel7 := hid (Hbel6.out.grown hgrow7 Hbel6.out.size (fun j hj => by cases hj; have := Hsz1.out; omega)); clear hown7 hgrow7; go_frame)
                  go_roundw
                  case rel => exact ⟨i + 1, n + 1, by omega, by go_num, hid (by have := Hn.out; omega), hid (K7.out.congr fun j => (Hh.out j).symm), B7, R7, Hbel7⟩
                  case measure => simp only [intOf]; omega
                · have htx2 : decide (r.txg > txg) = false := by simpa using htx
                  have htx3 : decide (txg < r.txg) = false := by simpa using htx
                  have Hh := hid (Pl.P1_miss (k := k) hlt (by rw [Hg.out, Hla.out]; simpa using htx))
                  clear htx
                  go_wp2
                  go_roundw
                  case rel => exact ⟨i + 1, n, by omega, by go_num, hid (by have := Hn.out; omega), hid (K6.out.congr fun j => (Hh.out j).symm), B6, R6, Hbel6⟩
                  case measure => simp only [intOf]; omega
              · have Hla := hid (Pl.later_none hno txg)
                have Hh := hid (Pl.P1_miss (k := k) hlt (by rw [Hg.out, Hla.out]))
                unfold vroot
                dsimp only [noRoot, hole]
                have Hb6 := hid (bal (btr Hb5.out hbw) (.cells #[.int .i64 0, .int .i64 0, .int .i64 0, .int .i64 0, .int .i64 0, .int .i64 0, .int .i64 0, .int .i64 0] 92))
                have K6 := hid (K.out.below Hb6.out); have B6 := hid (B.out.below Hb6.out); have R6 := hid (R.out.below Hb6.out); have Hbel6 := hid (btr Hbel.out Hb6.out)
                clear hbw hno e0 e1 e2 e3 e3'
                go_wp2
                go_roundw
                case rel => exact ⟨i + 1, n, by omega, by go_num, hid (by have := Hn.out; omega), hid (K6.out.congr fun j => (Hh.out j).symm), B6, R6, Hbel6⟩
                case measure => simp only [intOf]; omega
            · have hi' : i = l.length := by omega
              subst hi'
              go_wp2
              go_roundw
              case rel => exact ⟨k + 1, n, by omega, by go_num, hid (by have := Hn.out; have := Hlen3.out; omega), hid (K.out.congr fun j => Pl.P1_next l txg k j), B, R, Hbel⟩
              case measure => simp only [intOf]; omega
        · have hk4 : k = 4 := by omega
          subst hk4
          have K0 := hid (K.out.congr fun j => Pl.P2_start l txg j)
          clear K b0
          go_wp2
          go_loopw [56] (fun iv wr => ∃ (i n : Nat), i ≤ 4 ∧ iv = .int .i64 i ∧ Hid (n ≤ 3 * 4 + i) ∧ Hid (Keys wr mb n (P2 l txg i)) ∧ Hid (Row wr w.heap.size #[.slice A l.length c]) ∧ Hid (Row wr (w.heap.size + 1) #[.slice none 0 0]) ∧ Hid (Below w.heap.size w wr)) (fun iv _ => 4 - (intOf iv).toNat)
          case atStart => exact ⟨0, n, by omega, rfl, hid (by have := Hn.out; omega), K0, B, R, Hbel⟩
          case round =>
            clear K0 B R Hbel Hn
            obtain ⟨i, n, hi, rfl, Hn, K, B, R, Hbel⟩ := hrel
            by_cases hlt : i < 4
            · have hltI : (i : Int) < 4 := by omega
              obtain ⟨D, hD⟩ := K.out
              have HD := hid hD
              clear hD
              go_wp2_with (at_mapUpdate; refine wpList_mapUpdate_own _ rfl _ _ _ 87 rfl 3 4 keyI Tryz.underlying87 _ mb n D rfl HD.out.1 (by have := Hn.out; unfold maxLen; omega) _ _ _ rfl rfl (Maps.keyOf_int_mk Tryz.underlying3 (wf_small (by omega) (by omega))) _ [] (plainElem_bool Tryz.underlying4 true) ?_; intro w7 hown7 hgrow7; have K7 := hid (keys_put (k := 4 + i) HD.out (by omega) (by omega) hown7); have B7 := hid (row_grown B.out hgrow7 (by have := Hsz1.out; omega)); have R7 := hid (row_grown R.out hgrow7 (by have := Hsz1.out; omega)); have Hbel7 := hid (Hbel.out.grown hgrow7 Hbel.out.size (fun j hj => by cases hj; have := Hsz1.out; omega)); clear hown7 hgrow7; go_frame)
              go_roundw
              case rel => exact ⟨i + 1, n + 1, by omega, by go_num, hid (by have := Hn.out; omega), hid (K7.out.congr fun j => (Pl.P2_step l txg i j).symm), B7, R7, Hbel7⟩
              case measure => simp only [intOf]; omega
            · have hi4 : i = 4 := by omega
              subst hi4
              have K0 := hid (K.out.congr fun j => Pl.P2_end l txg j)
              have b0 := B.out.get 0 rfl
              clear K
              go_wp2_with fail
              refine (imRaidClone A l c wr (by omega) (Ha.out.up Hbel.out) Hin2.out).mono ?_
              rintro e w3 ⟨A', c', fp, rfl, ho, hf, hb3⟩
              have Hb3 := hid (bal hb3 (.cells #[.slice A' l.length c'] 28))
              have HO := hid (Ow.below ho (bnew w3 (.cells #[.slice A' l.length c'] 28)) (Ow.lt ho))
              have K3 := hid (K0.out.below Hb3.out); have R3 := hid (R.out.below Hb3.out); have Hbel3 := hid (btr Hbel.out Hb3.out)
              have OB := hid (Row.new w3 #[.slice A' l.length c'] 28)
              have Hmb : Hid (mb < wr.heap.size) := hid (by obtain ⟨D, h1, _⟩ := K0.out; exact h1.lt)
              have Hob := hid hb3.size
              have Hfp := hid hf
              have HRr := hid R.out.lt
              clear ho hf hb3 K0 B R Hbel Hn b0
              go_wp2
              generalize hob : w3.heap.size = ob at *
              generalize w3.alloc (.cells #[.slice A' l.length c'] 28) = W4 at *
              generalize wr.heap.size = lo at *
              go_loopw [68] (fun iv wr => ∃ (i : Nat), i ≤ l.length ∧ iv = .int .i64 i ∧ Hid (Ow.own wr [.slice A' l.length c'] ((l.take i).map (wAll (clears l txg)) ++ l.drop i) fp) ∧ Hid (Keys wr mb n (clears l txg)) ∧ Hid (Row wr ob #[.slice A' l.length c']) ∧ Hid (Row wr (w.heap.size + 1) #[.slice none 0 0]) ∧ Hid (Below w.heap.size w wr) ∧ Hid (ob < wr.heap.size)) (fun iv _ => l.length - (intOf iv).toNat)
              case atStart => exact ⟨0, by omega, rfl, hid (by simpa using HO.out), K3, OB, R3, Hbel3, hid OB.out.lt⟩
              case round =>
                clear HO K3 OB R3 Hbel3
                obtain ⟨i, hi, rfl, HO, K, OB, R, Hbel, Hlto⟩ := hrel
                have q0 := OB.out.get 0 rfl
                by_cases hlt : i < l.length
                · have hltI : (i : Int) < l.length := by omega
                  obtain ⟨wo, hwo⟩ : ∃ wo : World, wo = wr := ⟨_, rfl⟩
                  subst hwo
                  obtain ⟨D, hD⟩ := K.out
                  have HD := hid hD
                  have Hbase := hid (Pl.part_get (l := l) (f := wAll (clears l txg)) hlt)
                  have Hpart := hid (Pl.part_set (l := l) (f := wAll (clears l txg)) hlt)
                  have Hblen := hid (show ((l.take i).map (wAll (clears l txg)) ++ l.drop i).length = l.length by simp; omega)
                  generalize (l.take i).map (wAll (clears l txg)) ++ l.drop i = bs at *
                  obtain ⟨d, Hd0⟩ : ∃ d, Hid (d = l[i]) := ⟨_, hid rfl⟩
                  rw [← Hd0.out] at Hbase Hpart
                  have Hd64 : Hid (d.1.length = 64) := hid (by rw [Hd0.out]; exact (Hd.out.2 _ (List.getElem_mem hlt)).1)
                  clear hD
                  go_wp2_with (at_range; refine wpList_range_own _ rfl _ 87 rfl 3 4 keyI Tryz.underlying87 _ mb n D rfl HD.out.1 ?_; intro w0 hrg0 hg0 hs0)
                  go_frame
                  have Hrg0 := hid hrg0
                  have HO0 := hid (Ow.frame HO.out fun b hb => hg0.block b (Ow.lt HO.out b hb) (by simp))
                  have OB0 := hid (OB.out.keep (hg0.block _ OB.out.lt (by simp)))
                  have R0 := hid (R.out.keep (hg0.block _ R.out.lt (by simp)))
                  have Hbel0 := hid (Hbel.out.grown hg0 Hbel.out.size (fun j hj => by cases hj))
                  have hrbl := Hrg0.out.lt
                  generalize hrb : wo.heap.size = rb at *
                  have Hrb := hid (show ob < rb from Hlto.out)
                  clear hrg0 hg0 hs0 HO OB R Hbel Hlto q0 hrbl
                  go_loopw [15] (fun _ wr => ∃ (left : Lit → Bool) (cnt : Nat), Hid (wr.ranges Tryz.prog 3 (plainElem Tryz.prog 4) mb rb n D left cnt) ∧ Hid (∀ x : Int, left (.int .i64 x) = true → Maps.has D (.int .i64 x) = true) ∧ Hid (Ow.own wr [.slice A' l.length c'] (bs.set i (wl (clears l txg) left d)) fp) ∧ Hid (Row wr ob #[.slice A' l.length c']) ∧ Hid (Row wr (w.heap.size + 1) #[.slice none 0 0]) ∧ Hid (Below w.heap.size w wr)) (fun _ wr => wr.rangeLeft mb rb)
                  case atStart => exact ⟨_, _, Hrg0, hid (fun x h => h), hid (by rw [wl_none (fun j hj => by rw [HD.out.2, Int.toNat_natCast, hj, decide_eq_true (by have := Pl.clears_lt hj; omega)]; rfl), set_self Hbase.out]; exact HO0.out), OB0, R0, Hbel0⟩
                  case round =>
                    clear Hrg0 HO0 OB0 R0 Hbel0
                    obtain ⟨left, cnt, Hrg, Hle, HO, OB, R, Hbel⟩ := hrel
                    go_wp2_with (at_next; refine wpList_next_ranges _ rfl _ rfl 3 keyI (plainElem Tryz.prog 4) (fun x : Int => Value.int .i64 x) (fun v : Value => v) (fun key kl hkey => by obtain ⟨x, rfl, _⟩ := Maps.keyOf_int_inv Tryz.underlying3 hkey; exact ⟨x, rfl⟩) (fun v y hv => ⟨v, rfl⟩) mb rb n D left cnt rfl Hrg.out ?_ ?_)
                    · intro hc0 hl0
                      have HO1 : Hid (Ow.own wr [.slice A' l.length c'] ((l.take (i + 1)).map (wAll (clears l txg)) ++ l.drop (i + 1)) fp) := hid (by rw [← Hpart.out, ← wl_all hl0]; exact HO.out)
                      have K1 : Hid (Keys wr mb n (clears l txg)) := hid ⟨D, Hrg.out.owns, HD.out.2⟩
                      have Hl1 := hid OB.out.lt
                      clear hl0 hc0
                      go_wp2
                      go_roundw
                      case rel => exact ⟨i + 1, by omega, by go_num, HO1, K1, OB, R, Hbel, Hl1⟩
                      case measure => simp only [intOf]; omega
                    · intro x cv kl ya yb w1 cnt1 hkey hlx hv hat hrg1 hlt1 hg1 hs1 hen
                      clear hv hat
                      obtain ⟨x', ex, ekl, hwx⟩ := Maps.keyOf_int_inv Tryz.underlying3 hkey
                      cases ex
                      subst ekl
                      have hhas := Hle.out x hlx
                      rw [HD.out.2, Bool.and_eq_true, decide_eq_true_eq] at hhas
                      obtain ⟨k, rfl⟩ := Int.eq_ofNat_of_zero_le hhas.1.1
                      rw [Int.toNat_natCast] at hhas
                      have hk8 : k < 8 := by omega
                      have Hcl := hid hhas.2
                      have Hlx := hid hlx
                      have Hrg1 := hid hrg1
                      have Hcnt := hid hlt1
                      have Hne : Hid (∀ b ∈ fp, b ≠ rb ∧ b ≠ mb ∧ b ≠ ob ∧ b ≠ w.heap.size + 1 ∧ w.heap.size ≤ b) := hid (fun b hb => by have := Hfp.out.2 b hb; have := Hmb.out; have := Hob.out; have := Hrb.out; have := HRr.out; have := Hsz1.out; omega)
                      have HO1 := hid (Ow.frame HO.out fun b hb => hg1.block b (Ow.lt HO.out b hb) (fun e => (Hne.out b hb).1 (by injection e)))
                      have OB1 := hid (OB.out.keep (hg1.block _ OB.out.lt (fun e => by injection e with e; have := Hrb.out; omega)))
                      have R1 := hid (R.out.keep (hg1.block _ R.out.lt (fun e => by injection e with e; have := Hrb.out; have := HRr.out; have := Hob.out; omega)))
                      have Hbel1 := hid (Hbel.out.grown hg1 Hbel.out.size (fun j hj => by cases hj; have := Hrb.out; have := HRr.out; have := Hob.out; omega))
                      have hget : (bs.set i (wl (clears l txg) left d))[i]? = some (wl (clears l txg) left d) := List.getElem?_set_self (by rw [Hblen.out]; exact hlt)
                      have hwlen : (wl (clears l txg) left d).1.length = 64 := by show (Pl.wipe _ d.1).length = 64; rw [Pl.wipe_len]; exact Hd64.out
                      have hcell := own_cell HO1.out Hfp.out.1 hget (k := k) (by rw [hwlen]; omega)
                      obtain ⟨b, g, c1, hA, hnn, hbm, hgm, e0, ⟨old, e1⟩, e2, hset⟩ := hcell
                      rw [hwlen] at e0
                      subst hA
                      clear hnn
                      have Hset := hid (hset [] (by simp [big]))
                      have Hgm := hid hgm
                      have Hstr := hid (wl_strike Hcl.out Hlx.out d)
                      have q0 : w1.cell? ⟨ob, 0, none⟩ = some (.slice (some ⟨b, 0, none⟩) l.length c') := OB1.out.get 0 rfl
                      have hkI : (k : Int) < 64 := by omega
                      clear hset hget hgm hbm hwlen hhas hlx hrg1 hg1 hs1 hkey hlt1 hwx
                      go_wp2
                      go_roundw
                      case rel =>
                        have hg := Hne.out g Hgm.out
                        refine ⟨_, cnt1, hid (Hrg1.out.kept (set_grown w1 g k _) (fun e => hg.2.1 (by injection e with e; exact e.symm)) (fun e => hg.1 (by injection e with e; exact e.symm))), hid (fun x hx => ?_), hid ?_, hid (OB1.out.far (fun e => hg.2.2.1 e.symm) _ _), hid (R1.out.far (fun e => hg.2.2.2.1 e.symm) _ _), hid (bset Hbel1.out hg.2.2.2.2 _ _)⟩
                        · rw [Bool.and_eq_true] at hx; exact Hle.out x hx.1
                        · have h2 := Hset.out
                          rw [List.set_set, Hstr.out] at h2
                          exact h2
                      case measure => rw [(Hrg1.out.kept (set_grown w1 g k _) (fun e => (Hne.out g Hgm.out).2.1 (by injection e with e; exact e.symm)) (fun e => (Hne.out g Hgm.out).1 (by injection e with e; exact e.symm))).left_eq, Hrg.out.left_eq]; exact Hcnt.out
                · have hi' : i = l.length := by omega
                  subst hi'
                  have HO3 : Hid (Ow.own wr [.slice A' l.length c'] (Pl.forget l txg) fp) := hid (by have h := HO.out; rw [List.take_length, List.drop_length, List.append_nil] at h; exact h)
                  have r0 := R.out.get 0 rfl; have rg0 := R.out.free 0
                  have Hlo := hid Hlto.out
                  clear HO K
                  go_wp2
                  refine bodyPost_ret (v := .tuple #[.agg #[.slice A' l.length c'], .bool true]) (by simp [results, Tryz.results12, go_sem, r0]) rfl ?_
                  refine good_out Hf.out rfl (Ow.frame HO3.out fun b hb => heap_setCell_far _ _ _ _ _ ?_) ?_ (bset Hbel.out (by omega) _ _)
                  · have := Hfp.out.2 b hb; have := HRr.out; omega
                  · rw [heap_setCell_size]
                    exact Hfp.out.mono (by have := HRr.out; omega) (by have := Hlo.out; omega)
end Pm
end Go.Proofs.YtdjkdcokjoiokaaGreatDoor

/- The law's comparisons: true just where both values read as the same data. -/
import Derived.Test.YtdjkdcokjoiokaaGreatDoorProg
import Derived.Test.YtdjkdcokjoiokaaGreatDoorForget
import Derived.WalkKit
import Derived.WalkSpells
import Derived.WalkLawsBesides
import Derived.Deep.QuietTactic
import Derived.BigQuiet
import Derived.StillTailTactics
namespace Go.Proofs.YtdjkdcokjoiokaaGreatDoor
open Go.RowKit
namespace Pm
theorem eq_of_take {α : Type} {l m : List α} (hl : l.length = m.length) (h : l.take l.length = m.take l.length) : l = m := by
  rw [List.take_length, hl, List.take_length] at h; exact h
theorem take_step {α : Type} {l m : List α} {k : Nat} (h : l.take k = m.take k) (hk : k < l.length) (hm : k < m.length) (e : l[k] = m[k]) : l.take (k + 1) = m.take (k + 1) := by
  rw [List.take_succ_eq_append_getElem hk, List.take_succ_eq_append_getElem hm, h, e]
theorem ne_at {α : Type} {l m : List α} {k : Nat} (hk : k < l.length) (hm : k < m.length) (e : l[k] ≠ m[k]) : l ≠ m := by
  rintro rfl; exact e rfl

set_option maxHeartbeats 400000 in
theorem eqStringS (A1 A2 : Option Addr) (l m : List Str) (c1 c2 : Nat) (w : World) (hl : l.length ≤ big) (hm : m.length ≤ big) (h1 : At w w.heap.size A1 l) (h2 : At w w.heap.size A2 m) :
    Calls Tryz.prog 26 #[.slice A1 l.length c1, .slice A2 m.length c2] w fun e w' => e = .returned (.bool (decide (l = m))) ∧ Below w.heap.size w w' := by
  unfold big at hl hm
  by_cases hlen : l.length = m.length
  · go_enter Tryz.func26, Tryz.ntmps26
    have Hl := hid hlen
    have hb : ((l.length : Int) != m.length) = false := by rw [bne_eq_false_iff_eq]; omega
    have hb2 : ((l.length : Int) == m.length) = true := by rw [beq_iff_eq]; omega
    clear hlen
    go_wp2
    go_loopw [5] (fun iv wr => ∃ (k : Nat), k ≤ l.length ∧ iv = .int .i64 k ∧ Hid (l.take k = m.take k) ∧ Below w.heap.size w wr) (fun i _ => l.length - (intOf i).toNat)
    case atStart => exact ⟨0, by omega, rfl, hid (by simp), Below.refl _ _⟩
    case round =>
      obtain ⟨k, hk, rfl, Hk, hbel⟩ := hrel
      by_cases hlt : k < l.length
      · have hlt2 : k < m.length := by have := Hl.out; omega
        obtain ⟨b, off, cs, rfl, hb, hc, hv⟩ := (h1.below hbel).elem hlt
        obtain ⟨b', off', cs', rfl, hb', hc', hv'⟩ := (h2.below hbel).elem hlt2
        obtain ⟨rfl, hs⟩ := str_cells hc
        obtain ⟨rfl, hs'⟩ := str_cells hc'
        have e0 := hv 0 _ rfl
        have e1 := hv' 0 _ rfl
        simp only [Rep.size, Nat.add_zero, Nat.mul_one, vstr] at e0 e1
        clear hv hv' hc hc' h1 h2
        obtain ⟨x, Hx⟩ : ∃ x, Hid (x = l[k]) := ⟨l[k], hid rfl⟩
        obtain ⟨y, Hy⟩ : ∃ y, Hid (y = m[k]) := ⟨m[k], hid rfl⟩
        rw [← Hx.out] at e0
        rw [← Hy.out] at e1
        go_wp2_with fail
        go_quiet (fail)
        go_wp2
        · go_ret
          rename_i hne
          have hne' : l[k] ≠ m[k] := by rw [← Hx.out, ← Hy.out]; simpa using hne
          exact ⟨ret_bool (by simpa using ne_at hlt hlt2 hne'), bdrN hbel _⟩
        · rename_i heq
          go_roundw
          case rel =>
            have he : l[k] = m[k] := by rw [← Hx.out, ← Hy.out]; simpa using heq
            exact ⟨k + 1, by omega, by go_num, take_step Hk.out hlt hlt2 he, bdrN hbel _⟩
          case measure => simp [intOf]; omega
      · have hk' : k = l.length := by omega
        subst hk'
        go_wp2
        go_ret
        exact ⟨ret_bool (by simpa using eq_of_take Hl.out Hk.out), hbel⟩
  · go_enter Tryz.func26, Tryz.ntmps26
    have hb : ((l.length : Int) != m.length) = true := by rw [bne_iff_ne]; omega
    go_wp2
    go_ret
    exact ⟨ret_bool (by simp; intro e; exact hlen (by rw [e])), Below.refl _ _⟩

set_option maxHeartbeats 400000 in
theorem eqWait (x y : Wait) (w : World) :
    Calls Tryz.prog 249 #[.agg #[.int .i64 x.1, vstr x.2], .agg #[.int .i64 y.1, vstr y.2]] w fun e w' => e = .returned (.bool (decide (x = y))) ∧ Below w.heap.size w w' := by
  obtain ⟨n, s⟩ := x
  obtain ⟨m, t⟩ := y
  simp only [vstr] at *
  go_enter Tryz.func249, Tryz.ntmps249
  go_wp2
  · go_ret
    rename_i h
    exact ⟨ret_bool (by have : n ≠ m := by simpa using h
                        simp [this]), bal (bnew _ _) _⟩
  · go_ret
    rename_i h1 h2
    exact ⟨ret_bool (by have : s ≠ t := by simpa using h2
                        simp [this]), bal (bnew _ _) _⟩
  · go_ret
    rename_i h1 h2
    exact ⟨ret_bool (by have e1 : n = m := by simpa using h1
                        have e2 : s = t := by simpa using h2
                        simp [e1, e2]), bal (bnew _ _) _⟩

set_option maxRecDepth 100000 in
set_option maxHeartbeats 400000 in
theorem eqWaitS (A1 A2 : Option Addr) (l m : List Wait) (c1 c2 : Nat) (w : World) (hl : l.length ≤ big) (hm : m.length ≤ big) (h1 : At w w.heap.size A1 l) (h2 : At w w.heap.size A2 m) :
    Calls Tryz.prog 176 #[.slice A1 l.length c1, .slice A2 m.length c2] w fun e w' => e = .returned (.bool (decide (l = m))) ∧ Below w.heap.size w w' := by
  unfold big at hl hm
  by_cases hlen : l.length = m.length
  · go_enter Tryz.func176, Tryz.ntmps176
    have Hl := hid hlen
    have hb : ((l.length : Int) != m.length) = false := by rw [bne_eq_false_iff_eq]; omega
    have hb2 : ((l.length : Int) == m.length) = true := by rw [beq_iff_eq]; omega
    clear hlen
    go_wp2
    go_loopw [5] (fun iv wr => ∃ (k : Nat), k ≤ l.length ∧ iv = .int .i64 k ∧ Hid (l.take k = m.take k) ∧ Below w.heap.size w wr) (fun i _ => l.length - (intOf i).toNat)
    case atStart => exact ⟨0, by omega, rfl, hid (by simp), Below.refl _ _⟩
    case round =>
      obtain ⟨k, hk, rfl, Hk, hbel⟩ := hrel
      by_cases hlt : k < l.length
      · have hlt2 : k < m.length := by have := Hl.out; omega
        obtain ⟨b, off, cs, rfl, hb, hc, hv⟩ := (h1.below hbel).elem hlt
        obtain ⟨b', off', cs', rfl, hb', hc', hv'⟩ := (h2.below hbel).elem hlt2
        obtain ⟨rfl, hs0, hs⟩ := wait_cells hc
        obtain ⟨rfl, hs0', hs'⟩ := wait_cells hc'
        have e0 := hv 0 _ rfl
        have e1 := hv 1 _ rfl
        have e2 := hv' 0 _ rfl
        have e3 := hv' 1 _ rfl
        simp only [Rep.size, Nat.add_zero, Nat.reduceAdd] at e0 e1 e2 e3
        clear hv hv' hc hc' h1 h2 hs hs' hs0 hs0'
        obtain ⟨x, Hx⟩ : ∃ x, Hid (x = l[k]) := ⟨l[k], hid rfl⟩
        obtain ⟨y, Hy⟩ : ∃ y, Hid (y = m[k]) := ⟨m[k], hid rfl⟩
        rw [← Hx.out] at e0 e1
        rw [← Hy.out] at e2 e3
        go_wp2_with fail
        go_still_tail 8, (by kernel_rfl)
        change wpList _ _ _ _ _ wr.drew
        have hbd := hid (bdr hbel)
        clear hbel
        generalize wr.drew = w2 at *
        go_wp2_with (go_at_call 249; refine (eqWait x y _).mono ?_; rintro e w3 ⟨rfl, hb1⟩; have hbe := btr hbd.out hb1; clear hb1)
        · go_ret
          rename_i hne
          have hne' : l[k] ≠ m[k] := by rw [← Hx.out, ← Hy.out]; simpa using hne
          exact ⟨ret_bool (by simpa using ne_at hlt hlt2 hne'), hbe⟩
        · rename_i heq
          go_roundw
          case rel =>
            have he : l[k] = m[k] := by rw [← Hx.out, ← Hy.out]; simpa using heq
            exact ⟨k + 1, by omega, by go_num, take_step Hk.out hlt hlt2 he, hbe⟩
          case measure => simp [intOf]; omega
      · have hk' : k = l.length := by omega
        subst hk'
        go_wp2
        go_ret
        exact ⟨ret_bool (by simpa using eq_of_take Hl.out Hk.out), hbel⟩
  · go_enter Tryz.func176, Tryz.ntmps176
    have hb : ((l.length : Int) != m.length) = true := by rw [bne_iff_ne]; omega
    go_wp2
    go_ret
    exact ⟨ret_bool (by simp; intro e; exact hlen (by rw [e])), Below.refl _ _⟩

set_option maxHeartbeats 400000 in
theorem eqDisk (A1 A2 A3 A4 : Option Addr) (c1 c2 c3 c4 : Nat) (x y : Disk) (w : World) (hx1 : x.1.length ≤ big) (hx2 : x.2.1.length ≤ big) (hy1 : y.1.length ≤ big) (hy2 : y.2.1.length ≤ big)
    (h1 : At w w.heap.size A1 x.1) (h2 : At w w.heap.size A2 x.2.1) (h3 : At w w.heap.size A3 y.1) (h4 : At w w.heap.size A4 y.2.1) :
    Calls Tryz.prog 108 #[.agg #[.slice A1 x.1.length c1, .slice A2 x.2.1.length c2, .bool x.2.2], .agg #[.slice A3 y.1.length c3, .slice A4 y.2.1.length c4, .bool y.2.2]] w fun e w' => e = .returned (.bool (decide (x = y))) ∧ Below w.heap.size w w' := by
  obtain ⟨x1, x2, g⟩ := x
  obtain ⟨y1, y2, g'⟩ := y
  simp only at *
  have Ha1 := hid h1; have Ha2 := hid h2; have Ha3 := hid h3; have Ha4 := hid h4
  clear h1 h2 h3 h4
  have H0 := hid (bal (bnew w (.cells #[.slice A1 x1.length c1, .slice A2 x2.length c2, .bool g] 90)) (.cells #[.slice A3 y1.length c3, .slice A4 y2.length c4, .bool g'] 90))
  have R0 := hid ((Row.new w #[.slice A1 x1.length c1, .slice A2 x2.length c2, .bool g] 90).alloc (.cells #[.slice A3 y1.length c3, .slice A4 y2.length c4, .bool g'] 90))
  have R1 := hid (Row.new (w.alloc (.cells #[.slice A1 x1.length c1, .slice A2 x2.length c2, .bool g] 90)) #[.slice A3 y1.length c3, .slice A4 y2.length c4, .bool g'] 90)
  simp only [World.size_alloc] at R1
  go_enter Tryz.func108, Tryz.ntmps108
  go_wp2_with fail
  refine (eqStringS A1 A3 x1 y1 c1 c3 _ hx1 hy1 (Ha1.out.up H0.out) (Ha3.out.up H0.out)).mono ?_
  rintro e w1 ⟨rfl, hb1⟩
  have S0 := hid (R0.out.below hb1); have S1 := hid (R1.out.below hb1); have H1 := hid (btr H0.out hb1)
  clear R0 R1 hb1
  have d1 := S0.out.get 1 rfl
  have d2 := S1.out.get 1 rfl
  generalize hq : decide (x1 = y1) = q
  have Hq := hid hq
  clear hq
  cases q
  · go_wp2
    go_ret
    exact ⟨ret_bool (by have : x1 ≠ y1 := by simpa using Hq.out
                        simp [this]), H1.out⟩
  go_wp2_with fail
  clear d1 d2
  refine (eqWaitS A2 A4 x2 y2 c2 c4 _ hx2 hy2 (Ha2.out.up H1.out) (Ha4.out.up H1.out)).mono ?_
  rintro e w2 ⟨rfl, hb2⟩
  have H2 := hid (btr H1.out hb2)
  have d1 := (S0.out.below hb2).get 2 rfl
  have d2 := (S1.out.below hb2).get 2 rfl
  clear hb2
  go_wp2
  · go_ret
    rename_i h
    exact ⟨ret_bool (by have : x2 ≠ y2 := by simpa using h
                        simp [this]), H2.out⟩
  · go_ret
    rename_i h1 h2
    exact ⟨ret_bool (by have : g ≠ g' := by simpa using h2
                        simp [this]), H2.out⟩
  · go_ret
    rename_i h1 h2
    exact ⟨ret_bool (by have e0 : x1 = y1 := by simpa using Hq.out
                        have e1 : x2 = y2 := by simpa using h1
                        have e2 : g = g' := by simpa using h2
                        simp [e0, e1, e2]), H2.out⟩

set_option maxRecDepth 100000 in
set_option maxHeartbeats 400000 in
theorem eqDiskS (A1 A2 : Option Addr) (l m : List Disk) (c1 c2 : Nat) (w : World) (hl : l.length ≤ big) (hm : m.length ≤ big) (h1 : At w w.heap.size A1 l) (h2 : At w w.heap.size A2 m) :
    Calls Tryz.prog 48 #[.slice A1 l.length c1, .slice A2 m.length c2] w fun e w' => e = .returned (.bool (decide (l = m))) ∧ Below w.heap.size w w' := by
  unfold big at hl hm
  by_cases hlen : l.length = m.length
  · go_enter Tryz.func48, Tryz.ntmps48
    have Hl := hid hlen
    have hb : ((l.length : Int) != m.length) = false := by rw [bne_eq_false_iff_eq]; omega
    have hb2 : ((l.length : Int) == m.length) = true := by rw [beq_iff_eq]; omega
    clear hlen
    go_wp2
    go_loopw [5] (fun iv wr => ∃ (k : Nat), k ≤ l.length ∧ iv = .int .i64 k ∧ Hid (l.take k = m.take k) ∧ Below w.heap.size w wr) (fun i _ => l.length - (intOf i).toNat)
    case atStart => exact ⟨0, by omega, rfl, hid (by simp), Below.refl _ _⟩
    case round =>
      obtain ⟨k, hk, rfl, Hk, hbel⟩ := hrel
      by_cases hlt : k < l.length
      · have hlt2 : k < m.length := by have := Hl.out; omega
        obtain ⟨b, off, cs, rfl, hb, hc, hv⟩ := (h1.up hbel).elem hlt
        obtain ⟨b', off', cs', rfl, hb', hc', hv'⟩ := (h2.up hbel).elem hlt2
        obtain ⟨x, Hx⟩ : ∃ x, Hid (x = l[k]) := ⟨l[k], hid rfl⟩
        obtain ⟨y, Hy⟩ : ∃ y, Hid (y = m[k]) := ⟨m[k], hid rfl⟩
        rw [← Hx.out] at hc
        rw [← Hy.out] at hc'
        obtain ⟨B1, k1, B2, k2, rfl, hx1, ha1, hx2, ha2⟩ := disk_cells hc
        obtain ⟨B3, k3, B4, k4, rfl, hy1, ha3, hy2, ha4⟩ := disk_cells hc'
        have e0 := hv 0 _ rfl
        have e1 := hv 1 _ rfl
        have e2 := hv 2 _ rfl
        have e3 := hv' 0 _ rfl
        have e4 := hv' 1 _ rfl
        have e5 := hv' 2 _ rfl
        simp only [Rep.size, Nat.add_zero, Nat.reduceAdd] at e0 e1 e2 e3 e4 e5
        have Ha1 := hid ha1; have Ha2 := hid ha2; have Ha3 := hid ha3; have Ha4 := hid ha4
        clear hv hv' hc hc' h1 h2 ha1 ha2 ha3 ha4
        go_wp2_with fail
        go_still_tail 8, (by kernel_rfl)
        change wpList _ _ _ _ _ wr.drew
        have hbd := hid (bdr hbel)
        have hs1 := hid (show At wr.drew wr.drew.heap.size B1 x.1 from Ha1.out)
        have hs2 := hid (show At wr.drew wr.drew.heap.size B2 x.2.1 from Ha2.out)
        have hs3 := hid (show At wr.drew wr.drew.heap.size B3 y.1 from Ha3.out)
        have hs4 := hid (show At wr.drew wr.drew.heap.size B4 y.2.1 from Ha4.out)
        clear hbel Ha1 Ha2 Ha3 Ha4
        generalize wr.drew = w2 at *
        go_wp2_with (go_at_call 108; refine (eqDisk B1 B2 B3 B4 k1 k2 k3 k4 x y _ hx1 hx2 hy1 hy2 hs1.out hs2.out hs3.out hs4.out).mono ?_; rintro e w3 ⟨rfl, hb1⟩; have hbe := btr hbd.out hb1; clear hb1)
        · go_ret
          rename_i hne
          have hne' : l[k] ≠ m[k] := by rw [← Hx.out, ← Hy.out]; simpa using hne
          exact ⟨ret_bool (by simpa using ne_at hlt hlt2 hne'), hbe⟩
        · rename_i heq
          go_roundw
          case rel =>
            have he : l[k] = m[k] := by rw [← Hx.out, ← Hy.out]; simpa using heq
            exact ⟨k + 1, by omega, by go_num, take_step Hk.out hlt hlt2 he, hbe⟩
          case measure => simp [intOf]; omega
      · have hk' : k = l.length := by omega
        subst hk'
        go_wp2
        go_ret
        exact ⟨ret_bool (by simpa using eq_of_take Hl.out Hk.out), hbel⟩
  · go_enter Tryz.func48, Tryz.ntmps48
    have hb : ((l.length : Int) != m.length) = true := by rw [bne_iff_ne]; omega
    go_wp2
    go_ret
    exact ⟨ret_bool (by simp; intro e; exact hlen (by rw [e])), Below.refl _ _⟩

set_option maxHeartbeats 400000 in
theorem eqRaid (A1 A2 : Option Addr) (l m : Raid) (c1 c2 : Nat) (w : World) (hl : l.length ≤ big) (hm : m.length ≤ big) (h1 : At w w.heap.size A1 l) (h2 : At w w.heap.size A2 m) :
    Calls Tryz.prog 13 #[.agg #[.slice A1 l.length c1], .agg #[.slice A2 m.length c2]] w fun e w' => e = .returned (.bool (decide (l = m))) ∧ Below w.heap.size w w' := by
  have Ha1 := hid h1; have Ha2 := hid h2; clear h1 h2
  have H0 := hid (bal (bnew w (.cells #[.slice A1 l.length c1] 28)) (.cells #[.slice A2 m.length c2] 28))
  go_enter Tryz.func13, Tryz.ntmps13
  go_wp2_with fail
  refine (eqDiskS A1 A2 l m c1 c2 _ hl hm (Ha1.out.up H0.out) (Ha2.out.up H0.out)).mono ?_
  rintro e w1 ⟨rfl, hb1⟩
  have H1 := hid (btr H0.out hb1)
  clear hb1
  go_wp2
  · go_ret
    rename_i h
    exact ⟨ret_bool (by simpa using h), H1.out⟩
  · go_ret
    rename_i h
    exact ⟨ret_bool (by simpa using h), H1.out⟩
end Pm
end Go.Proofs.YtdjkdcokjoiokaaGreatDoor

/- The law's own measure of its arguments: it returns what is left of a bound, or -1. -/
import Derived.Test.YtdjkdcokjoiokaaGreatDoorProg
import Derived.Test.YtdjkdcokjoiokaaGreatDoorMem
import Derived.WalkKit
import Derived.WalkSpells
import Derived.WalkLawsBesides
namespace Go.Proofs.YtdjkdcokjoiokaaGreatDoor
open Go.RowKit
namespace Pm
def lim : Int := 1048576
def wtS (s : Str) : Nat := s.length
def wtL {α : Type} (f : α → Nat) (l : List α) : Nat := l.length + (l.map f).sum
def wtWait (x : Wait) : Nat := x.2.length
def wtDisk (d : Disk) : Nat := wtL wtS d.1 + wtL wtWait d.2.1
/-- What is left behind a part of weight n. -/
def less (l : Int) (n : Nat) : Int := if l < n then -1 else l - n
theorem less_le (l : Int) (n : Nat) (h : 0 ≤ l) : -1 ≤ less l n ∧ less l n ≤ l := by unfold less; split <;> omega
theorem less_less {l : Int} {a b : Nat} (h : 0 ≤ less l a) : less (less l a) b = less l (a + b) := by
  unfold less at h ⊢
  split at h
  · omega
  · rename_i h'
    rw [if_neg h']
    by_cases h2 : l - a < b
    · rw [if_pos h2, if_pos (by omega)]
    · rw [if_neg h2, if_neg (by omega)]; omega
theorem less_neg {l : Int} {a b : Nat} (h : less l a < 0) : less l (a + b) = -1 := by
  unfold less at h ⊢
  split at h
  · rw [if_pos (by omega)]
  · omega
theorem sum_take {α : Type} (f : α → Nat) (l : List α) (k : Nat) (hk : k < l.length) : ((l.take (k + 1)).map f).sum = ((l.take k).map f).sum + f l[k] := by
  rw [List.take_succ_eq_append_getElem hk, List.map_append, List.sum_append]; simp
theorem sum_split {α : Type} (f : α → Nat) (l : List α) (k : Nat) : (l.map f).sum = ((l.take k).map f).sum + ((l.drop k).map f).sum := by
  rw [← List.sum_append, ← List.map_append, List.take_append_drop]

set_option maxHeartbeats 400000 in
theorem szStringS (A : Option Addr) (l : List Str) (c : Nat) (q : Int) (w : World) (hl : l.length ≤ big) (h : At w w.heap.size A l) (h0 : 0 ≤ q) (h1 : q ≤ lim) :
    Calls Tryz.prog 51 #[.slice A l.length c, .int .i64 q] w fun e w' => e = .returned (.int .i64 (less q (wtL wtS l))) ∧ Below w.heap.size w w' := by
  unfold big at hl; unfold lim at h1
  go_enter Tryz.func51, Tryz.ntmps51
  go_wp2
  · go_ret
    exact ⟨ret_int (by unfold less wtL; rw [if_pos (by omega)]), Below.refl _ _⟩
  · go_loopw [1, 5] (fun lv iv wr => ∃ (k : Nat), k ≤ l.length ∧ iv = .int .i64 k ∧ lv = .int .i64 (q - l.length - ((l.take k).map wtS).sum) ∧ 0 ≤ q - l.length - ((l.take k).map wtS).sum ∧ wr = w) (fun _ i _ => l.length - (intOf i).toNat)
    case atStart => exact ⟨0, by omega, rfl, by simp, by simp; omega, rfl⟩
    case round =>
      obtain ⟨k, hk, rfl, rfl, hm0, rfl⟩ := hrel
      by_cases hlt : k < l.length
      · obtain ⟨b, off, cs, rfl, hb, hc, hv⟩ := h.elem hlt
        obtain ⟨rfl, hs⟩ := str_cells hc
        have e0 := hv 0 _ rfl
        simp only [Rep.size, vstr, Nat.mul_one, Nat.add_zero] at e0
        unfold big at hs
        have hst := sum_take wtS l k hlt
        have hsp := sum_split wtS l (k + 1)
        have Hs := hid hst
        have Hp := hid hsp
        clear hst hsp hv hc
        generalize hm : q - (l.length : Int) - (((l.take k).map wtS).sum : Nat) = m at *
        go_wp2
        · go_ret
          have hst := Hs.out; have hsp := Hp.out
          have : wtS l[k] = l[k].length := rfl
          exact ⟨ret_int (by unfold less wtL; rw [if_pos (by omega)]), Below.refl _ _⟩
        · go_roundw
          case rel =>
            have hst := Hs.out
            have : wtS l[k] = l[k].length := rfl
            exact ⟨k + 1, by omega, by go_num, by rw [hst]; go_num, by rw [hst]; omega, trivial⟩
          case measure => simp [intOf]; omega
      · have hk' : k = l.length := by omega
        subst hk'
        go_wp2
        go_ret
        rw [List.take_length] at hm0 ⊢
        exact ⟨ret_int (by unfold less wtL; rw [if_neg (by omega)]; omega), Below.refl _ _⟩

set_option maxHeartbeats 400000 in
theorem szWait (x : Wait) (q : Int) (w : World) (hx : x.2.length ≤ big) (h0 : 0 ≤ q) (h1 : q ≤ lim) :
    Calls Tryz.prog 230 #[.agg #[.int .i64 x.1, vstr x.2], .int .i64 q] w fun e w' => e = .returned (.int .i64 (less q (wtWait x))) ∧ Below w.heap.size w w' := by
  unfold big at hx; unfold lim at h1
  obtain ⟨n, s⟩ := x
  simp only [vstr] at *
  go_enter Tryz.func230, Tryz.ntmps230
  go_wp2
  · go_ret
    exact ⟨ret_int (by unfold less wtWait; simp only; rw [if_pos (by omega)]), (Below.refl _ _).alloc (Nat.le_refl _) _⟩
  · go_ret
    exact ⟨ret_int (by unfold less wtWait; simp only; rw [if_neg (by omega)]), (Below.refl _ _).alloc (Nat.le_refl _) _⟩

set_option maxHeartbeats 400000 in
theorem szWaitS (A : Option Addr) (l : List Wait) (c : Nat) (q : Int) (w : World) (hl : l.length ≤ big) (h : At w w.heap.size A l) (h0 : 0 ≤ q) (h1 : q ≤ lim) :
    Calls Tryz.prog 159 #[.slice A l.length c, .int .i64 q] w fun e w' => e = .returned (.int .i64 (less q (wtL wtWait l))) ∧ Below w.heap.size w w' := by
  unfold big at hl; unfold lim at h1
  go_enter Tryz.func159, Tryz.ntmps159
  go_wp2
  · go_ret
    exact ⟨ret_int (by unfold less wtL; rw [if_pos (by omega)]), Below.refl _ _⟩
  · go_loopw [1, 5] (fun lv iv wr => ∃ (k : Nat) (m : Int), k ≤ l.length ∧ iv = .int .i64 k ∧ lv = .int .i64 m ∧ Hid (m = q - l.length - ((l.take k).map wtWait).sum) ∧ 0 ≤ m ∧ m ≤ lim ∧ Below w.heap.size w wr) (fun _ i _ => l.length - (intOf i).toNat)
    case atStart => exact ⟨0, _, by omega, rfl, rfl, by simp [Hid], by omega, by unfold lim; omega, Below.refl _ _⟩
    case round =>
      obtain ⟨k, m, hk, rfl, rfl, Hm, hm0, hm1, hbel⟩ := hrel
      by_cases hlt : k < l.length
      · obtain ⟨b, off, cs, rfl, hb, hc, hv⟩ := (h.below hbel).elem hlt
        obtain ⟨rfl, hi, hs⟩ := wait_cells hc
        have e0 := hv 0 _ rfl
        have e1 := hv 1 _ rfl
        simp only [Rep.size, vstr, Nat.add_zero, Nat.reduceAdd] at e0 e1
        have Hs := hid (sum_take wtWait l k hlt)
        have Hp := hid (sum_split wtWait l (k + 1))
        clear hv hc h
        obtain ⟨x, Hx⟩ : ∃ x, Hid (x = l[k]) := ⟨_, hid rfl⟩
        rw [← Hx.out] at e0 e1 hs
        go_wp2_with (go_at_call 230; refine (szWait x m _ hs hm0 hm1).mono ?_; rintro e w1 ⟨rfl, hb1⟩; have hl1 := less_le m (wtWait x) hm0; have hb2 := hbel.trans (hb1.mono hbel.size))
        · go_ret
          rename_i hneg
          refine ⟨ret_int ?_, hb2⟩
          have hst := Hs.out; have hsp := Hp.out; have hm := Hm.out; have hx := Hx.out
          rw [← hx] at hst
          unfold less wtL at *
          rw [if_pos (by split at hneg <;> omega)]
        · go_roundw
          case rel =>
            have hst := Hs.out; have hm := Hm.out; have hx := Hx.out
            rw [← hx] at hst
            refine ⟨k + 1, _, by omega, by go_num, rfl, ?_, by omega, by omega, hb2⟩
            show _ = _
            unfold less at *
            rw [if_neg (by omega), hst]; omega
          case measure => simp [intOf]; omega
      · have hk' : k = l.length := by omega
        subst hk'
        go_wp2
        go_ret
        have hm := Hm.out
        rw [List.take_length] at hm
        exact ⟨ret_int (by unfold less wtL; rw [if_neg (by omega)]; omega), hbel⟩

set_option maxHeartbeats 400000 in
theorem szDisk (A1 A2 : Option Addr) (c1 c2 : Nat) (d : Disk) (q : Int) (w : World) (hl1 : d.1.length ≤ big) (ha1 : At w w.heap.size A1 d.1) (hl2 : d.2.1.length ≤ big) (ha2 : At w w.heap.size A2 d.2.1) (h0 : 0 ≤ q) (h1 : q ≤ lim) :
    Calls Tryz.prog 93 #[.agg #[.slice A1 d.1.length c1, .slice A2 d.2.1.length c2, .bool d.2.2], .int .i64 q] w fun e w' => e = .returned (.int .i64 (less q (wtDisk d))) ∧ Below w.heap.size w w' := by
  obtain ⟨l1, l2, g⟩ := d
  simp only at *
  have hA := (Below.refl w.heap.size w).alloc (Nat.le_refl _) (.cells #[.slice A1 l1.length c1, .slice A2 l2.length c2, .bool g] 154)
  have k1 := szStringS A1 l1 c1 q (w.alloc (.cells #[.slice A1 l1.length c1, .slice A2 l2.length c2, .bool g] 154)) hl1 ((ha1.below hA).mono hA.size) h0 h1
  have H1 := hid k1; have HA := hid hA; clear k1 hA
  go_enter Tryz.func93, Tryz.ntmps93
  go_wp2_with (go_at_call 51; refine H1.out.mono ?_; rintro e w1 ⟨rfl, hb1⟩; obtain ⟨hc, hf⟩ := bcell hb1; have hl := less_le q (wtL wtS l1) h0; refine Hid.out ?_)
  refine hid ?_
  generalize hm : less q (wtL wtS l1) = m at *
  have Hm := hid hm; clear hm
  have hb2 := HA.out.trans (hb1.mono HA.out.size)
  have hsz := hb2.size
  go_wp2_with (go_at_call 159; refine (szWaitS A2 l2 c2 m w1 hl2 ((ha2.below hb2).mono hsz) (by omega) (by omega)).mono ?_; rintro e w2 ⟨rfl, hb3⟩; have hl' := less_le m (wtL wtWait l2) (by omega); have hb4 := hb2.trans (hb3.mono hsz); clear hb3)
  · go_ret
    exact ⟨ret_int (less_neg (by rw [Hm.out]; assumption)).symm, hb2⟩
  · go_ret
    have : 0 ≤ m := by assumption
    refine ⟨ret_int ?_, hb4⟩
    show _ = less q (wtL wtS l1 + wtL wtWait l2)
    rw [← less_less (by rw [Hm.out]; assumption), Hm.out]
    omega
  · go_ret
    have : 0 ≤ m := by assumption
    refine ⟨ret_int ?_, hb4⟩
    show _ = less q (wtL wtS l1 + wtL wtWait l2)
    rw [← less_less (by rw [Hm.out]; assumption), Hm.out]

set_option maxHeartbeats 400000 in
theorem szDiskS (A : Option Addr) (l : List Disk) (c : Nat) (q : Int) (w : World) (hl : l.length ≤ big) (h : At w w.heap.size A l) (h0 : 0 ≤ q) (h1 : q ≤ lim) :
    Calls Tryz.prog 37 #[.slice A l.length c, .int .i64 q] w fun e w' => e = .returned (.int .i64 (less q (wtL wtDisk l))) ∧ Below w.heap.size w w' := by
  unfold big at hl; unfold lim at h1
  go_enter Tryz.func37, Tryz.ntmps37
  go_wp2
  · go_ret
    exact ⟨ret_int (by unfold less wtL; rw [if_pos (by omega)]), Below.refl _ _⟩
  · go_loopw [1, 5] (fun lv iv wr => ∃ (k : Nat) (m : Int), k ≤ l.length ∧ iv = .int .i64 k ∧ lv = .int .i64 m ∧ Hid (m = q - l.length - ((l.take k).map wtDisk).sum) ∧ 0 ≤ m ∧ m ≤ lim ∧ Below w.heap.size w wr) (fun _ i _ => l.length - (intOf i).toNat)
    case atStart => exact ⟨0, _, by omega, rfl, rfl, by simp [Hid], by omega, by unfold lim; omega, Below.refl _ _⟩
    case round =>
      obtain ⟨k, m, hk, rfl, rfl, Hm, hm0, hm1, hbel⟩ := hrel
      by_cases hlt : k < l.length
      · obtain ⟨b, off, cs, rfl, hb, hc, hv⟩ := (h.below hbel).elem hlt
        obtain ⟨A1, c1, A2, c2, rfl, hx1, ha1, hx2, ha2⟩ := disk_cells hc
        have e0 := hv 0 _ rfl
        have e1 := hv 1 _ rfl
        have e2 := hv 2 _ rfl
        simp only [Rep.size, Nat.add_zero, Nat.reduceAdd] at e0 e1 e2
        have Hs := hid (sum_take wtDisk l k hlt)
        have Hp := hid (sum_split wtDisk l (k + 1))
        clear hv hc h
        obtain ⟨x, Hx⟩ : ∃ x, Hid (x = l[k]) := ⟨l[k], hid rfl⟩
        rw [← Hx.out] at e0 e1 e2 hx1 hx2 ha1 ha2
        go_wp2_with (go_at_call 93; refine (szDisk A1 A2 c1 c2 x m _ hx1 (ha1.mono hbel.size) hx2 (ha2.mono hbel.size) hm0 hm1).mono ?_; rintro e w1 ⟨rfl, hb1⟩; have hl1 := less_le m (wtDisk x) hm0; have hb2 := hbel.trans (hb1.mono hbel.size))
        · go_ret
          rename_i hneg
          refine ⟨ret_int ?_, hb2⟩
          have hst := Hs.out; have hsp := Hp.out; have hm := Hm.out; have hx := Hx.out
          rw [← hx] at hst
          unfold less wtL at *
          rw [if_pos (by split at hneg <;> omega)]
        · go_roundw
          case rel =>
            have hst := Hs.out; have hm := Hm.out; have hx := Hx.out
            rw [← hx] at hst
            refine ⟨k + 1, _, by omega, by go_num, rfl, ?_, by omega, by omega, hb2⟩
            show _ = _
            unfold less at *
            rw [if_neg (by omega), hst]; omega
          case measure => simp [intOf]; omega
      · have hk' : k = l.length := by omega
        subst hk'
        go_wp2
        go_ret
        have hm := Hm.out
        rw [List.take_length] at hm
        exact ⟨ret_int (by unfold less wtL; rw [if_neg (by omega)]; omega), hbel⟩

set_option maxHeartbeats 400000 in
theorem szRaid (A : Option Addr) (l : Raid) (c : Nat) (q : Int) (w : World) (hl : l.length ≤ big) (h : At w w.heap.size A l) (h0 : 0 ≤ q) (h1 : q ≤ lim) :
    Calls Tryz.prog 9 #[.agg #[.slice A l.length c], .int .i64 q] w fun e w' => e = .returned (.int .i64 (less q (wtL wtDisk l))) ∧ Below w.heap.size w w' := by
  have hA := (Below.refl w.heap.size w).alloc (Nat.le_refl _) (.cells #[.slice A l.length c] 24)
  have k1 := szDiskS A l c q (w.alloc (.cells #[.slice A l.length c] 24)) hl ((h.below hA).mono hA.size) h0 h1
  have H1 := hid k1; have HA := hid hA; clear k1 hA
  go_enter Tryz.func9, Tryz.ntmps9
  go_wp2_with (go_at_call 37; refine H1.out.mono ?_; rintro e w1 ⟨rfl, hb1⟩; have hb2 := HA.out.trans (hb1.mono HA.out.size); clear hb1)
  · go_ret
    have := less_le q (wtL wtDisk l) h0
    exact ⟨ret_int (by omega), hb2⟩
  · go_ret
    exact ⟨rfl, hb2⟩
end Pm
end Go.Proofs.YtdjkdcokjoiokaaGreatDoor

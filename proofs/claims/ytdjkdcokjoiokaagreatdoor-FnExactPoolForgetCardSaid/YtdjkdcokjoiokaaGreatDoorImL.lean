/- The program's tests of sets of disks. -/
import Derived.Test.YtdjkdcokjoiokaaGreatDoorImK
namespace Go.Proofs.YtdjkdcokjoiokaaGreatDoor
open Go.RowKit
namespace Pm
open Pl (inR cellOk waitOk diskOk raidOk waits)

set_option maxHeartbeats 400000 in
theorem imDiskBad (A1 A2 : Option Addr) (c1 c2 : Nat) (d : Disk) (w : World) (hl1 : d.1.length ≤ big) (ha1 : At w w.heap.size A1 d.1) (hl2 : d.2.1.length ≤ big) (ha2 : At w w.heap.size A2 d.2.1) :
    Calls Tryz.prog 163 #[.agg #[.slice A1 d.1.length c1, .slice A2 d.2.1.length c2, .bool d.2.2]] w fun e w' => e = .returned (.bool (!diskOk d)) ∧ Below w.heap.size w w' := by
  have HA := hid (bnew w (.cells #[.slice A1 d.1.length c1, .slice A2 d.2.1.length c2, .bool d.2.2] 90))
  have Hd := hid (imDiskOk A1 A2 c1 c2 d _ hl1 (ha1.up HA.out) hl2 (ha2.up HA.out))
  generalize diskOk d = q at *
  clear ha1 ha2
  go_enter Tryz.func163, Tryz.ntmps163
  go_wp2_with (go_at_call 164; refine Hd.out.mono ?_; rintro e w2 ⟨rfl, hb2⟩)
  go_ret
  exact ⟨rfl, btr HA.out hb2⟩
theorem imDisksBad (A : Option Addr) (l : List Disk) (c : Nat) (w : World) (h0 : 0 < l.length) (hl : l.length ≤ big) (h : At w w.heap.size A l) :
    Calls Tryz.prog 99 #[.slice A l.length c, .func (.func 163) #[] #[]] w fun e w' => e = .returned (.bool (!l.all diskOk)) ∧ Below w.heap.size w w' := by
  rw [← any_not]
  exact contains_at (γ := Disk) Tryz.laysContainsFunc_Disk Tryz.isAgg90 Tryz.sizeOf90 _ (enters_of Tryz.func163 (by kernel_rfl) rfl) _ A l c w h0 hl h (fun x hx cs W hW hc => by
    obtain ⟨A1, c1, A2, c2, rfl, k1, k2, k3, k4⟩ := disk_cells hc
    exact imDiskBad A1 A2 c1 c2 x W k1 k2 k3 k4)

set_option maxHeartbeats 400000 in
theorem imWaits (A1 A2 : Option Addr) (c1 c2 : Nat) (d : Disk) (w : World) (hl2 : d.2.1.length ≤ big) :
    Calls Tryz.prog 100 #[.agg #[.slice A1 d.1.length c1, .slice A2 d.2.1.length c2, .bool d.2.2]] w fun e w' => e = .returned (.bool (waits d)) ∧ Below w.heap.size w w' := by
  obtain ⟨l1, l2, g⟩ := d
  unfold big at hl2
  dsimp only at *
  have HA := hid (bnew w (.cells #[.slice A1 l1.length c1, .slice A2 l2.length c2, .bool g] 90))
  have Hr : Hid (waits (l1, l2, g) = decide (0 < l2.length)) := hid rfl
  generalize hq : decide (0 < l2.length) = q at Hr
  have hq2 : decide ((0 : Int) < l2.length) = q := by
    rw [← hq]
    by_cases h : 0 < l2.length
    · rw [decide_eq_true h, decide_eq_true (by omega)]
    · rw [decide_eq_false h, decide_eq_false (by omega)]
  go_enter Tryz.func100, Tryz.ntmps100
  go_wp2
  go_ret
  exact ⟨ret_bool Hr.out.symm, HA.out⟩
theorem imAnyWaits (A : Option Addr) (l : List Disk) (c : Nat) (w : World) (h0 : 0 < l.length) (hl : l.length ≤ big) (h : At w w.heap.size A l) :
    Calls Tryz.prog 99 #[.slice A l.length c, .func (.func 100) #[] #[]] w fun e w' => e = .returned (.bool (l.any waits)) ∧ Below w.heap.size w w' :=
  contains_at (γ := Disk) Tryz.laysContainsFunc_Disk Tryz.isAgg90 Tryz.sizeOf90 _ (enters_of Tryz.func100 (by kernel_rfl) rfl) _ A l c w h0 hl h (fun x hx cs W hW hc => by
    obtain ⟨A1, c1, A2, c2, rfl, k1, k2, k3, k4⟩ := disk_cells hc
    exact imWaits A1 A2 c1 c2 x W k3)

set_option maxHeartbeats 400000 in
theorem imRaidOk (A : Option Addr) (l : Raid) (c : Nat) (w : World) (hl : l.length ≤ big) (h : At w w.heap.size A l) :
    Calls Tryz.prog 98 #[.agg #[.slice A l.length c]] w fun e w' => e = .returned (.bool (raidOk l)) ∧ Below w.heap.size w w' := by
  have HA := hid (bnew w (.cells #[.slice A l.length c] 28))
  by_cases h3 : l.length = 3
  · have Hr : Hid (raidOk l = l.all diskOk) := hid (by unfold raidOk; rw [decide_eq_true h3]; simp)
    have Hc := hid (imDisksBad A l c _ (by omega) hl (h.up HA.out))
    have e1 : ((l.length : Int) == 3) = true := by rw [beq_iff_eq]; omega
    generalize l.all diskOk = q at *
    clear h h3 hl
    go_enter Tryz.func98, Tryz.ntmps98
    go_wp2_with (go_at_call 99; refine Hc.out.mono ?_; rintro e w2 ⟨rfl, hb2⟩)
    go_ret
    exact ⟨ret_bool (by rw [Hr.out]), btr HA.out hb2⟩
  · have Hr : Hid (raidOk l = false) := hid (by unfold raidOk; rw [decide_eq_false h3]; simp)
    have e1 : ((l.length : Int) == 3) = false := by rw [beq_eq_false_iff_ne]; omega
    clear h h3 hl
    go_enter Tryz.func98, Tryz.ntmps98
    go_wp2
    go_ret
    exact ⟨ret_bool Hr.out.symm, HA.out⟩

set_option maxHeartbeats 400000 in
theorem imStill (A : Option Addr) (l : Raid) (c : Nat) (w : World) (hl : l.length ≤ big) (h : At w w.heap.size A l) :
    Calls Tryz.prog 44 #[.agg #[.slice A l.length c]] w fun e w' => e = .returned (.bool (Pl.still l)) ∧ Below w.heap.size w w' := by
  have HA := hid (bnew w (.cells #[.slice A l.length c] 28))
  have R0 := hid (Row.new w #[.slice A l.length c] 28)
  have Ha := hid (h.up HA.out)
  have Hok := hid (imRaidOk A l c _ hl Ha.out)
  have Hst : Hid (Pl.still l = (raidOk l && !l.any waits)) := hid rfl
  have Hl := hid hl
  have H3 := hid (fun hr => (Pl.raid_disk (l := l) hr).1)
  generalize hq : raidOk l = q at *
  have Hw := hid (fun h0 w h => imAnyWaits A l c w h0 Hl.out h)
  generalize l.any waits = q2 at *
  clear h hl hq
  go_enter Tryz.func44, Tryz.ntmps44
  go_wp2_with fail
  generalize w.alloc (.cells #[.slice A l.length c] 28) = W at *
  refine Hok.out.mono ?_
  rintro e w2 ⟨rfl, hb2⟩
  have c0 := (R0.out.below hb2).get 0 rfl
  have Ha2 := hid (Ha.out.up hb2)
  have B2 := hid (btr HA.out hb2)
  clear hb2
  cases q
  · have Hr : Hid (Pl.still l = false) := hid (by rw [Hst.out]; rfl)
    go_wp2
    go_ret
    exact ⟨ret_bool Hr.out.symm, B2.out⟩
  · have h3 := hid (H3.out rfl)
    have Hr : Hid (Pl.still l = !q2) := hid (by rw [Hst.out]; simp)
    go_wp2_with (go_at_call 99; refine (Hw.out (by have := h3.out; omega) _ Ha2.out).mono ?_; rintro e w3 ⟨rfl, hb3⟩)
    go_ret
    exact ⟨ret_bool Hr.out.symm, btr B2.out hb3⟩
end Pm
end Go.Proofs.YtdjkdcokjoiokaaGreatDoor

/- The law's marks: what it writes into what it was handed, and what it looks for afterwards. -/
import Derived.Test.YtdjkdcokjoiokaaGreatDoorProg
import Derived.Test.YtdjkdcokjoiokaaGreatDoorForget
import Derived.Test.YtdjkdcokjoiokaaGreatDoorPlainB
import Derived.WalkKit
import Derived.WalkSpells
import Derived.WalkLawsBesides
import Derived.Deep.QuietTactic
import Derived.BigQuiet
import Derived.Deep.RegionHeld3
import Derived.KernelRfl
namespace Go.Proofs.YtdjkdcokjoiokaaGreatDoor
open Go.RowKit
namespace Pm
open Pl (dec dch)
/-- The mark's text. -/
def mt (k : Nat) : Str := 109 :: dec k

set_option maxRecDepth 100000 in
set_option maxHeartbeats 400000 in
theorem markText (k : Nat) (w : World) (h0 : 0 < k) (h1 : k ≤ 4294967296) :
    Calls Tryz.prog 76 #[.int .i64 k] w fun e w' => e = .returned (vstr (mt k)) ∧ Below w.heap.size w w' := by
  go_enter Tryz.func76, Tryz.ntmps76
  go_wp2
  go_loopw [0, 3] (fun kv ov wr => ∃ (n : Nat) (out : Str), n ≤ k ∧ kv = .int .i64 n ∧ ov = vstr out ∧ Hid (dec k = if n = 0 then out else dec n ++ out) ∧ out.length + n ≤ k ∧ Below w.heap.size w wr) (fun kv _ _ => (intOf kv).toNat)
  case atStart => exact ⟨k, [], by omega, rfl, rfl, hid (by rw [if_neg (by omega)]; simp), by simp, Below.refl _ _⟩
  case round =>
    obtain ⟨n, out, hn, rfl, rfl, Hd, hl, hbel⟩ := hrel
    by_cases hz : 0 < n
    · simp only [vstr]
      have hd : ((dch (n % 10)).toNat : Int) = 48 + (n : Int) % 10 := by rw [Pl.dch_toNat (by omega)]; omega
      have hcv := run_convert_bytes_back (P := Tryz.prog) (wr.alloc (.cells #[.int .u8 (48 + (n : Int) % 10)] 5)) 197 9 5 ⟨wr.heap.size, 0, none⟩ 1 [dch (n % 10)] Tryz.underlying197 Tryz.underlying5 Tryz.underlying9 (by
        intro j hj
        have : j = 0 := by simp at hj; exact hj
        subst this
        simp only [Addr.add, List.getElem_cons_zero, if_true]
        rw [hd]
        exact (Row.new wr #[.int .u8 (48 + (n : Int) % 10)] 5).get 0 rfl)
      have hba := ba_append [dch (n % 10)] out
      have Hdd := hid hd
      clear hd
      simp only [List.length_singleton] at hcv
      go_wp2
      go_roundw
      case rel =>
        refine ⟨n / 10, dch (n % 10) :: out, by omega, by go_num, rfl, ?_, by simp only [List.length_cons]; omega, bal hbel _⟩
        show _ = _
        have hdk := Hd.out
        rw [hdk, if_neg (by omega)]
        by_cases h10 : n < 10
        · rw [if_pos (by omega), Pl.dec_small h10, Nat.mod_eq_of_lt h10]; rfl
        · rw [if_neg (by omega), Pl.dec_big h10]; simp
      case measure => simp [intOf]; omega
    · have hz' : n = 0 := by omega
      subst hz'
      simp only [vstr]
      have hba := ba_append [109] out
      have hdk := Hd.out
      rw [if_pos rfl] at hdk
      have Hk := hid hdk
      clear hdk Hd
      go_wp2
      go_ret
      exact ⟨by rw [mt, Hk.out]; rfl, hbel⟩

theorem markText' (k : Nat) (w : World) (h0 : 0 < k) (h1 : k ≤ 4294967296) :
    Calls Tryz.prog 76 #[.int .i64 k] w fun e w' => e = .returned (.string ⟨(mt k).toArray⟩) ∧ Below w.heap.size w w' := markText k w h0 h1
/-- What the marks turn a list of so many texts into, and of so many waiting writes. -/
def mStr (n k : Nat) : List Str := (List.range n).map fun i => mt (k + i)
def mWait (n k : Nat) : List Wait := (List.range n).map fun i => (((k + 2 * i : Nat) : Int), mt (k + 2 * i + 1))
theorem mStr_length (n k : Nat) : (mStr n k).length = n := by simp [mStr]
theorem mWait_length (n k : Nat) : (mWait n k).length = n := by simp [mWait]
theorem mStr_get (n k i : Nat) (h : i < n) : (mStr n k)[i]? = some (mt (k + i)) := by simp [mStr, h]
theorem mWait_get (n k i : Nat) (h : i < n) : (mWait n k)[i]? = some (((k + 2 * i : Nat) : Int), mt (k + 2 * i + 1)) := by simp [mWait, h]
theorem mt_length (k : Nat) (h : k ≤ 4294967296) : (mt k).length ≤ big := by
  have := Pl.dec_length_le 9 k (by omega)
  unfold mt big; simp only [List.length_cons]; omega

set_option maxRecDepth 100000 in
set_option maxHeartbeats 400000 in
theorem markStringS (A : Option Addr) (l : List Str) (c k : Nat) (fp : List Nat) (w : World) (h : Ow.own w [.slice A l.length c] l fp) (h0 : 0 < k) (h1 : k + l.length ≤ 4294967296) :
    Calls Tryz.prog 28 #[.slice A l.length c, .int .i64 k] w fun e w' => e = .returned (.int .i64 ((k + l.length : Nat) : Int)) ∧ Ow.own w' [.slice A l.length c] (mStr l.length k) fp ∧ Touch fp w w' := by
  by_cases hl : 0 < l.length
  · obtain ⟨b, cur0, fps0, rfl, _, hbig, hcap, hrow0, hsz0, hels0, rfl⟩ := own_row h hl
    clear h
    have Hr0 := hid hrow0; have He0 := hid hels0; have Hs0 := hid hsz0
    have Hbig := hid hbig; have Hcap := hid hcap
    clear hrow0 hels0 hsz0 hbig hcap
    go_enter Tryz.func28, Tryz.ntmps28
    go_wp2
    go_loopw [1, 5] (fun kv iv wr => ∃ (i : Nat) (cur : Array Value) (m : List Str), i ≤ l.length ∧ iv = .int .i64 i ∧ kv = .int .i64 ((k + i : Nat) : Int) ∧ Row wr b cur ∧ cur.size = cur0.size ∧ m.length = l.length ∧ Els wr cur m fps0 ∧ (∀ j, j < i → m[j]? = some (mt (k + j))) ∧ Touch (b :: fps0.flatten) w wr) (fun _ i _ => l.length - (intOf i).toNat)
    case atStart => exact ⟨0, cur0, l, by omega, rfl, rfl, Hr0.out, rfl, rfl, He0.out, fun j hj => absurd hj (by omega), Touch.refl _ _⟩
    case round =>
      obtain ⟨i, cur, m, hi, rfl, rfl, hrow, hsz, hml, hels, hm, ht⟩ := hrel
      by_cases hlt : i < l.length
      · have hcs : i < cur.size := by have := Hs0.out; simp only [Rep.size] at this; omega
        have HR := hid hrow; have HZ := hid hsz; have HE := hid hels; have HM := hid hm; have HT := hid ht; have HL := hid hml; have HC := hid hcs
        clear hrow hsz hels hm ht hml hcs
        go_wp2_with fail
        refine (markText (k + i) _ (by omega) (by omega)).mono ?_
        rintro e w1 ⟨rfl, hb1⟩
        have hrow := HR.out.below hb1
        obtain ⟨old, e1⟩ := hrow.at_ HC.out
        have e2 := hrow.free i
        have HR1 := hid hrow; have Hb1 := hid hb1
        clear hrow hb1
        simp only [vstr]
        go_wp2
        go_roundw
        case rel =>
          have hrow := HR1.out; have hsz := HZ.out; have hels := HE.out; have hm := HM.out; have ht := HT.out; have hml := HL.out; have hcs := HC.out; have hb1 := Hb1.out
          have hfl := els_strs hels
          have hels1 : Els w1 cur m fps0 := hels.frame (by rw [hfl]; simp)
          refine ⟨i + 1, _, m.set i (mt (k + i)), by omega, by go_num, by go_num, hrow.set i _, by rw [Array.size_setIfInBounds]; exact hsz, by rw [List.length_set]; exact hml, ?_, ?_, (ht.trans (Touch.of_below hb1)).set List.mem_cons_self _ _⟩
          · refine hels1.update (by omega) (flat_get hfl (by rw [hels.1]; omega)) (own_str (mt_length _ (by omega))) (fun j v hj => ?_) (fun i' j hi' hj => ?_) (fun i' f' _ hf' => ?_)
            · match j, hj with
              | 0, hj =>
                simp only [List.getElem?_cons_zero, Option.some.injEq] at hj
                simp only [Rep.size, Nat.mul_one, Nat.add_zero]
                rw [Array.getElem?_setIfInBounds_self_of_lt hcs, ← hj]; rfl
            · simp only [Rep.size, Nat.mul_one] at hj ⊢
              rw [Array.getElem?_setIfInBounds_ne (by omega)]
            · rw [flat_get' hfl hf']; simp
          · intro j hj
            by_cases hji : j = i
            · rw [hji, List.getElem?_set_self (by omega)]
            · rw [List.getElem?_set_ne (fun e => hji e.symm)]; exact hm j (by omega)
        case measure => simp [intOf]; omega
      · have hi' : i = l.length := by omega
        subst hi'
        have HR := hid hrow; have HZ := hid hsz; have HE := hid hels; have HM := hid hm; have HT := hid ht; have HL := hid hml
        clear hrow hsz hels hm ht hml
        go_wp2
        go_ret
        have hml := HL.out
        have hmm : m = mStr l.length k := by
          apply List.ext_getElem?
          intro j
          by_cases hj : j < l.length
          · rw [HM.out j hj, mStr_get _ _ _ hj]
          · rw [List.getElem?_eq_none (by omega), List.getElem?_eq_none (by rw [mStr_length]; omega)]
        have hs0 := Hs0.out
        rw [← hmm]
        refine ⟨rfl, ?_, HT.out⟩
        rw [← hml]
        exact own_list (by rw [hml]; exact Hbig.out) (by rw [hml]; exact Hcap.out) HR.out (by rw [hml, HZ.out]; exact hs0) HE.out
  · have hn : l = [] := List.eq_nil_of_length_eq_zero (by omega)
    subst hn
    have H := hid h
    clear h
    go_enter Tryz.func28, Tryz.ntmps28
    go_wp2
    refine wp_loop_rounds 1 ?_
    rw [rounds_succ]
    go_wp2
    go_ret
    exact ⟨by simp, by simpa [mStr] using H.out, Touch.refl _ _⟩

set_option maxRecDepth 100000 in
set_option maxHeartbeats 400000 in
theorem markWaitS (A : Option Addr) (l : List Wait) (c k : Nat) (fp : List Nat) (w : World) (h : Ow.own w [.slice A l.length c] l fp) (h0 : 0 < k) (h1 : k + 2 * l.length ≤ 4294967296) :
    Calls Tryz.prog 109 #[.slice A l.length c, .int .i64 k] w fun e w' => e = .returned (.int .i64 ((k + 2 * l.length : Nat) : Int)) ∧ Ow.own w' [.slice A l.length c] (mWait l.length k) fp ∧ Touch fp w w' := by
  by_cases hl : 0 < l.length
  · obtain ⟨b, cur0, fps0, rfl, _, hbig, hcap, hrow0, hsz0, hels0, rfl⟩ := own_row h hl
    clear h
    have Hr0 := hid hrow0; have He0 := hid hels0; have Hs0 := hid hsz0
    have Hbig := hid hbig; have Hcap := hid hcap
    clear hrow0 hels0 hsz0 hbig hcap
    go_enter Tryz.func109, Tryz.ntmps109
    go_wp2
    go_loopw [1, 5] (fun kv iv wr => ∃ (i : Nat) (cur : Array Value) (m : List Wait), i ≤ l.length ∧ iv = .int .i64 i ∧ kv = .int .i64 ((k + 2 * i : Nat) : Int) ∧ Row wr b cur ∧ cur.size = cur0.size ∧ m.length = l.length ∧ Els wr cur m fps0 ∧ (∀ j, j < i → m[j]? = some (((k + 2 * j : Nat) : Int), mt (k + 2 * j + 1))) ∧ Touch (b :: fps0.flatten) w wr) (fun _ i _ => l.length - (intOf i).toNat)
    case atStart => exact ⟨0, cur0, l, by omega, rfl, rfl, Hr0.out, rfl, rfl, He0.out, fun j hj => absurd hj (by omega), Touch.refl _ _⟩
    case round =>
      obtain ⟨i, cur, m, hi, rfl, rfl, hrow, hsz, hml, hels, hm, ht⟩ := hrel
      by_cases hlt : i < l.length
      · have hcs : i * 2 + 1 < cur.size := by have := Hs0.out; simp only [Rep.size] at this; omega
        obtain ⟨old0, e1⟩ := hrow.at_ (i := i * 2) (by omega)
        have e2 := hrow.free (i * 2)
        have HR := hid hrow; have HZ := hid hsz; have HE := hid hels; have HM := hid hm; have HT := hid ht; have HL := hid hml; have HC := hid hcs
        clear hrow hsz hels hm ht hml hcs
        go_wp2_with fail
        clear e1 e2
        refine (markText (k + 2 * i + 1) _ (by omega) (by omega)).mono ?_
        rintro e w1 ⟨rfl, hb1⟩
        have hrow := (HR.out.set (i * 2) (.int .i64 ((k : Int) + 2 * (i : Int)))).below hb1
        obtain ⟨old, e1⟩ := hrow.at_ (i := i * 2 + 1) (by rw [Array.size_setIfInBounds]; exact HC.out)
        have e2 := hrow.free (i * 2 + 1)
        have HR1 := hid hrow; have Hb1 := hid hb1
        clear hrow hb1
        simp only [vstr]
        go_wp2
        go_roundw
        case rel =>
          have hrow := HR1.out; have hsz := HZ.out; have hels := HE.out; have hm := HM.out; have ht := HT.out; have hml := HL.out; have hcs := HC.out; have hb1 := Hb1.out
          have hfl := els_waits hels
          have hels1 : Els w1 cur m fps0 := hels.frame (by rw [hfl]; simp)
          refine ⟨i + 1, _, m.set i (((k + 2 * i : Nat) : Int), mt (k + 2 * i + 1)), by omega, by go_num, by go_num, hrow.set (i * 2 + 1) _, by rw [Array.size_setIfInBounds, Array.size_setIfInBounds]; exact hsz, by rw [List.length_set]; exact hml, ?_, ?_, ((ht.set List.mem_cons_self _ _).trans (Touch.of_below hb1)).set List.mem_cons_self _ _⟩
          · refine hels1.update (by omega) (flat_get hfl (by rw [hels.1]; omega)) (own_wait (by constructor <;> simp only <;> omega) (mt_length _ (by omega))) (fun j v hj => ?_) (fun i' j hi' hj => ?_) (fun i' f' _ hf' => ?_)
            · match j, hj with
              | 0, hj =>
                simp only [List.getElem?_cons_zero, Option.some.injEq] at hj
                simp only [Rep.size, Nat.reduceAdd, Nat.add_zero]
                rw [Array.getElem?_setIfInBounds_ne (by omega), Array.getElem?_setIfInBounds_self_of_lt (by omega), ← hj]
                congr 1
              | 1, hj =>
                simp only [List.getElem?_cons_succ, List.getElem?_cons_zero, Option.some.injEq] at hj
                simp only [Rep.size, Nat.reduceAdd]
                rw [Array.getElem?_setIfInBounds_self_of_lt (by rw [Array.size_setIfInBounds]; exact hcs), ← hj]; rfl
            · simp only [Rep.size, Nat.reduceAdd] at hj ⊢
              rw [Array.getElem?_setIfInBounds_ne (by omega), Array.getElem?_setIfInBounds_ne (by omega)]
            · rw [flat_get' hfl hf']; simp
          · intro j hj
            by_cases hji : j = i
            · rw [hji, List.getElem?_set_self (by omega)]
            · rw [List.getElem?_set_ne (fun e => hji e.symm)]; exact hm j (by omega)
        case measure => simp [intOf]; omega
      · have hi' : i = l.length := by omega
        subst hi'
        have HR := hid hrow; have HZ := hid hsz; have HE := hid hels; have HM := hid hm; have HT := hid ht; have HL := hid hml
        clear hrow hsz hels hm ht hml
        go_wp2
        go_ret
        have hml := HL.out
        have hmm : m = mWait l.length k := by
          apply List.ext_getElem?
          intro j
          by_cases hj : j < l.length
          · rw [HM.out j hj, mWait_get _ _ _ hj]
          · rw [List.getElem?_eq_none (by omega), List.getElem?_eq_none (by rw [mWait_length]; omega)]
        have hs0 := Hs0.out
        rw [← hmm]
        refine ⟨ret_int (by omega), ?_, HT.out⟩
        rw [← hml]
        exact own_list (by rw [hml]; exact Hbig.out) (by rw [hml]; exact Hcap.out) HR.out (by rw [hml, HZ.out]; exact hs0) HE.out
  · have hn : l = [] := List.eq_nil_of_length_eq_zero (by omega)
    subst hn
    have H := hid h
    clear h
    go_enter Tryz.func109, Tryz.ntmps109
    go_wp2
    refine wp_loop_rounds 1 ?_
    rw [rounds_succ]
    go_wp2
    go_ret
    exact ⟨by simp, by simpa [mWait] using H.out, Touch.refl _ _⟩

def wtm (d : Disk) : Nat := d.1.length + 2 * d.2.1.length + 1
def kAt (l : List Disk) (k i : Nat) : Nat := k + ((l.take i).map wtm).sum
def mDisk (d : Disk) (k : Nat) : Disk := (mStr d.1.length k, mWait d.2.1.length (k + d.1.length), decide ((k + d.1.length + 2 * d.2.1.length) % 3 = 0))
def mDisks (l : List Disk) (k : Nat) : List Disk := (List.range l.length).map fun i => mDisk (l.getD i ([], [], false)) (kAt l k i)
theorem mDisks_length (l : List Disk) (k : Nat) : (mDisks l k).length = l.length := by simp [mDisks]
theorem mDisks_get (l : List Disk) (k i : Nat) (h : i < l.length) : (mDisks l k)[i]? = some (mDisk l[i] (kAt l k i)) := by simp [mDisks, h]
theorem kAt_step (l : List Disk) (k i : Nat) (h : i < l.length) : kAt l k (i + 1) = kAt l k i + wtm l[i] := by
  unfold kAt; rw [List.take_succ_eq_append_getElem h, List.map_append, List.sum_append]; simp; omega
theorem sum_mono (l : List Disk) (i : Nat) : ((l.take i).map wtm).sum ≤ (l.map wtm).sum := by
  conv => rhs; rw [← List.take_append_drop i l, List.map_append, List.sum_append]
  omega
theorem kAt_le (l : List Disk) (k i : Nat) : kAt l k i ≤ kAt l k l.length := by
  unfold kAt; rw [List.take_length]; have := sum_mono l i; omega

set_option maxRecDepth 100000 in
set_option maxHeartbeats 800000 in
theorem markDiskS (A : Option Addr) (l : List Disk) (c k : Nat) (fp : List Nat) (w : World) (h : Ow.own w [.slice A l.length c] l fp) (hnd : fp.Nodup) (h0 : 0 < k) (h1 : kAt l k l.length ≤ 4294967296) :
    Calls Tryz.prog 49 #[.slice A l.length c, .int .i64 k] w fun e w' => e = .returned (.int .i64 ((kAt l k l.length : Nat) : Int)) ∧ Ow.own w' [.slice A l.length c] (mDisks l k) fp ∧ Touch fp w w' := by
  by_cases hl : 0 < l.length
  · obtain ⟨b, cur0, fps0, rfl, _, hbig, hcap, hrow0, hsz0, hels0, rfl⟩ := own_row h hl
    clear h
    have Hr0 := hid hrow0; have He0 := hid hels0; have Hs0 := hid hsz0; have Hnd := hid hnd; have H1 := hid h1
    have Hbig := hid hbig; have Hcap := hid hcap
    clear hrow0 hels0 hsz0 hbig hcap hnd h1
    have hbk : l.length ≤ 140737488355328 := Hbig.out
    go_enter Tryz.func49, Tryz.ntmps49
    go_wp2
    go_loopw [1, 5] (fun kv iv wr => ∃ (i q : Nat) (cur : Array Value) (m : List Disk), i ≤ l.length ∧ iv = .int .i64 i ∧ kv = .int .i64 q ∧ Hid (q = kAt l k i) ∧ 0 < q ∧ Row wr b cur ∧ cur.size = cur0.size ∧ m.length = l.length ∧ Els wr cur m fps0 ∧ (∀ j, m[j]? = if j < i then (mDisks l k)[j]? else l[j]?) ∧ Touch (b :: fps0.flatten) w wr) (fun _ i _ => l.length - (intOf i).toNat)
    case atStart => exact ⟨0, k, cur0, l, by omega, rfl, rfl, hid (by simp [kAt]), h0, Hr0.out, rfl, rfl, He0.out, fun j => by simp, Touch.refl _ _⟩
    case round =>
      obtain ⟨i, q, cur, m, hi, rfl, rfl, Hq, hq0, hrow, hsz, hml, hels, hm, ht⟩ := hrel
      by_cases hlt : i < l.length
      · have hcs : i * 3 + 2 < cur.size := by have := Hs0.out; simp only [Rep.size] at this; omega
        have hmi : m[i]'(by omega) = l[i] := by
          have := hm i
          rw [if_neg (by omega), List.getElem?_eq_getElem hlt, List.getElem?_eq_getElem (by omega)] at this
          injection this
        obtain ⟨cs, f, hfi, hown, hcells⟩ := hels.get (k := i) (by omega)
        rw [hmi] at hown
        obtain ⟨d, Hd⟩ : ∃ d, Hid (d = l[i]) := ⟨l[i], hid rfl⟩
        rw [← Hd.out] at hown
        obtain ⟨A1, c1, A2, c2, f1, f2, rfl, rfl, ho1, ho2⟩ := own_disk_inv hown
        have e0 := hrow.get (i * 3) (by simpa [Rep.size] using hcells 0 _ rfl)
        have e1 := hrow.get (i * 3 + 1) (by simpa [Rep.size] using hcells 1 _ rfl)
        have hqs : q + wtm d ≤ 4294967296 := by
          have h1 := H1.out; have h2 := kAt_le l k (i + 1); rw [kAt_step l k i hlt, ← Hq.out, ← Hd.out] at h2; omega
        unfold wtm at hqs
        have HR := hid hrow; have HZ := hid hsz; have HE := hid hels; have HM := hid hm; have HT := hid ht; have HL := hid hml; have HC := hid hcs
        have HO1 := hid ho1; have HO2 := hid ho2; have HF := hid hfi
        have HC0 : Hid (cur[i * 3]? = some (.slice A1 d.1.length c1)) := hid (by simpa [Rep.size] using hcells 0 _ rfl)
        have HC1 : Hid (cur[i * 3 + 1]? = some (.slice A2 d.2.1.length c2)) := hid (by simpa [Rep.size] using hcells 1 _ rfl)
        have HC2 : Hid (cur[i * 3 + 2]? = some (.bool d.2.2)) := hid (by simpa [Rep.size] using hcells 2 _ rfl)
        have ndf := hid (flat_nodup (List.nodup_cons.1 Hnd.out).2 hfi)
        have nb := hid (fun hb => (List.nodup_cons.1 Hnd.out).1 (mem_flat hfi hb) : b ∉ f1 ++ f2)
        clear hrow hsz hels hm ht hml hcs ho1 ho2 hfi hcells hown hmi
        go_wp2_with fail
        clear e0 e1
        refine (markStringS A1 d.1 c1 q f1 _ HO1.out hq0 (by omega)).mono ?_
        rintro e w1 ⟨rfl, ho1', ht1⟩
        have hrow := HR.out.keep (ht1.block b HR.out.lt fun hb => nb.out (List.mem_append_left _ hb))
        have e1 := hrow.get (i * 3 + 1) HC1.out
        have HR1 := hid hrow; have HM1 := hid ho1'; have HT1 := hid ht1
        have ho2' : Ow.own w1 [.slice A2 d.2.1.length c2] d.2.1 f2 := Ow.frame HO2.out fun x hx => ht1.block x (Ow.lt HO2.out x hx) fun hx' => absurd rfl ((List.nodup_append.1 ndf.out).2.2 x hx' x hx)
        have HN2 := hid ho2'
        clear hrow ho1' ht1 ho2'
        go_wp2_with fail
        clear e1
        refine (markWaitS A2 d.2.1 c2 (q + d.1.length) f2 _ HN2.out (by omega) (by omega)).mono ?_
        rintro e w2 ⟨rfl, ho2', ht2⟩
        have hrow := HR1.out.keep (ht2.block b HR1.out.lt fun hb => nb.out (List.mem_append_right _ hb))
        have e1 := hrow.get (i * 3 + 2) HC2.out
        have e2 := hrow.free (i * 3 + 2)
        have HR2 := hid hrow; have HM2 := hid ho2'; have HT2 := hid ht2
        clear hrow ho2' ht2
        go_wp2
        go_roundw
        case rel =>
          have hml := HL.out; have hels := HE.out; have hcs := HC.out; have hfi := HF.out; have hm := HM.out; have hd := Hd.out
          have ht1 := HT1.out; have ht2 := HT2.out
          have hnd' := (List.nodup_cons.1 Hnd.out).2
          have hbn : ∀ x ∈ fps0.flatten, x ≠ b := fun x hx e => (List.nodup_cons.1 Hnd.out).1 (e ▸ hx)
          have sub : ∀ x ∈ f1 ++ f2, x ∈ b :: fps0.flatten := fun x hx => List.mem_cons_of_mem _ (mem_flat hfi hx)
          have hltx : ∀ x ∈ fps0.flatten, x < wr.heap.size := fun x hx => Ow.lt (own_list (l := m) (c := m.length) (by rw [hml]; exact Hbig.out) (Nat.le_refl _) HR.out (by rw [hml, HZ.out]; exact Hs0.out) hels) x (List.mem_cons_of_mem _ hx)
          have hbb : (((q : Int) + d.1.length + 2 * d.2.1.length) % 3 == 0) = decide ((q + d.1.length + 2 * d.2.1.length) % 3 = 0) := by
            rw [Bool.eq_iff_iff, beq_iff_eq, decide_eq_true_iff]; omega
          rw [hbb]
          refine ⟨i + 1, q + wtm d, _, m.set i (mDisk d q), by omega, by go_num, by unfold wtm; go_num, ?_, by unfold wtm; omega, HR2.out.set _ _, by rw [Array.size_setIfInBounds]; exact HZ.out, by rw [List.length_set]; exact hml, ?_, ?_,
            ((HT.out.trans (ht1.mono fun x hx => sub x (List.mem_append_left _ hx))).trans (ht2.mono fun x hx => sub x (List.mem_append_right _ hx))).set List.mem_cons_self _ _⟩
          · show _ = _
            rw [kAt_step l k i hlt, Hq.out, hd]
          · have o1 : Ow.own w2 [.slice A1 d.1.length c1] (mStr d.1.length q) f1 := Ow.frame HM1.out fun x hx => ht2.block x (Ow.lt HM1.out x hx) fun hx' => absurd rfl ((List.nodup_append.1 ndf.out).2.2 x hx x hx')
            have far : ∀ x ∈ fps0.flatten, (w2.setCell ⟨b, i * 3 + 2, none⟩ (.bool (decide ((q + d.1.length + 2 * d.2.1.length) % 3 = 0)))).heap[x]? = w2.heap[x]? := fun x hx => heap_setCell_far _ _ _ _ _ (hbn x hx)
            have o2 := HM2.out
            have e1 : d.1.length = (mDisk d q).1.length := (mStr_length _ _).symm
            have e2 : d.2.1.length = (mDisk d q).2.1.length := (mWait_length _ _).symm
            refine hels.update (by omega) hfi (cs' := [.slice A1 d.1.length c1, .slice A2 d.2.1.length c2, .bool (mDisk d q).2.2]) ?_ (fun j v hj => ?_) (fun i' j hi' hj => ?_) (fun i' f' hi' hf' x hx => ?_)
            · refine Ow.frame (w := w2) ?_ fun x hx => far x (mem_flat hfi hx)
              exact own_disk (d := mDisk d q) o1 o2
            · simp only [Rep.size, Nat.reduceAdd]
              match j, hj with
              | 0, hj => rw [Array.getElem?_setIfInBounds_ne (by omega), Nat.add_zero]; exact HC0.out.trans hj
              | 1, hj => rw [Array.getElem?_setIfInBounds_ne (by omega)]; exact HC1.out.trans hj
              | 2, hj => rw [Array.getElem?_setIfInBounds_self_of_lt hcs]; exact hj
            · simp only [Rep.size, Nat.reduceAdd] at hj ⊢
              rw [Array.getElem?_setIfInBounds_ne (by omega)]
            · have hx' := mem_flat hf' hx
              have hnf := flat_disj hnd' hfi hf' (fun e => hi' e.symm) x hx
              rw [far x hx', ht2.block x (Nat.lt_of_lt_of_le (hltx x hx') ht1.size) (fun h => hnf (List.mem_append_right _ h)), ht1.block x (hltx x hx') (fun h => hnf (List.mem_append_left _ h))]
          · intro j
            by_cases hji : j = i
            · rw [hji, List.getElem?_set_self (by omega), if_pos (by omega), mDisks_get l k i hlt, ← hd, ← Hq.out]
            · rw [List.getElem?_set_ne (fun e => hji e.symm), hm j]
              by_cases hj2 : j < i
              · rw [if_pos hj2, if_pos (by omega)]
              · rw [if_neg hj2, if_neg (by omega)]
        case measure => simp [intOf]; omega
      · have hi' : i = l.length := by omega
        subst hi'
        have HR := hid hrow; have HZ := hid hsz; have HE := hid hels; have HM := hid hm; have HT := hid ht; have HL := hid hml
        clear hrow hsz hels hm ht hml
        go_wp2
        go_ret
        have hml := HL.out
        have hmm : m = mDisks l k := by
          apply List.ext_getElem?
          intro j
          have := HM.out j
          by_cases hj : j < l.length
          · rw [if_pos hj] at this; exact this
          · rw [List.getElem?_eq_none (by omega), List.getElem?_eq_none (by rw [mDisks_length]; omega)]
        have hs0 := Hs0.out
        rw [← hmm]
        refine ⟨ret_int (by rw [Hq.out]), ?_, HT.out⟩
        rw [← hml]
        exact own_list (by rw [hml]; exact Hbig.out) (by rw [hml]; exact Hcap.out) HR.out (by rw [hml, HZ.out]; exact hs0) HE.out
  · have hn : l = [] := List.eq_nil_of_length_eq_zero (by omega)
    subst hn
    have H := hid h
    clear h
    go_enter Tryz.func49, Tryz.ntmps49
    go_wp2
    refine wp_loop_rounds 1 ?_
    rw [rounds_succ]
    go_wp2
    go_ret
    exact ⟨by simp [kAt], by simpa [mDisks] using H.out, Touch.refl _ _⟩

set_option maxHeartbeats 400000 in
theorem markRaid (A : Option Addr) (l : Raid) (c k : Nat) (fp : List Nat) (w : World) (h : Ow.own w [.slice A l.length c] l fp) (hnd : fp.Nodup) (h0 : 0 < k) (h1 : kAt l k l.length ≤ 4294967296) :
    Calls Tryz.prog 14 #[.agg #[.slice A l.length c], .int .i64 k] w fun e w' => e = .returned (.int .i64 ((kAt l k l.length : Nat) : Int)) ∧ Ow.own w' [.slice A l.length c] (mDisks l k) fp ∧ Touch fp w w' := by
  have H := hid (Ow.below h (bnew w (.cells #[.slice A l.length c] 28)) (Ow.lt h))
  have HT : Hid (Touch fp w (w.alloc (.cells #[.slice A l.length c] 28))) := hid (Touch.of_below (bnew _ _))
  clear h
  go_enter Tryz.func14, Tryz.ntmps14
  go_wp2_with fail
  refine (markDiskS A l c k fp _ H.out hnd h0 h1).mono ?_
  rintro e w1 ⟨rfl, ho, ht⟩
  have HO := hid ho; have HT1 := hid (HT.out.trans ht)
  clear ho ht
  go_wp2
  go_ret
  exact ⟨rfl, HO.out, HT1.out⟩

set_option maxRecDepth 100000 in
set_option maxHeartbeats 400000 in
theorem heldStringS (A : Option Addr) (n c k : Nat) (w : World) (h : At w w.heap.size A (mStr n k)) (h0 : 0 < k) (h1 : k + n ≤ 4294967296) :
    Calls Tryz.prog 29 #[.slice A n c, .int .i64 k] w fun e w' => e = .returned (.int .i64 ((k + n : Nat) : Int)) ∧ Below w.heap.size w w' := by
  go_enter Tryz.func29, Tryz.ntmps29
  go_wp2
  go_loopw [1, 5] (fun kv iv wr => ∃ (i : Nat), i ≤ n ∧ iv = .int .i64 i ∧ kv = .int .i64 ((k + i : Nat) : Int) ∧ Below w.heap.size w wr) (fun _ i _ => n - (intOf i).toNat)
  case atStart => exact ⟨0, by omega, rfl, rfl, Below.refl _ _⟩
  case round =>
    obtain ⟨i, hi, rfl, rfl, hbel⟩ := hrel
    by_cases hlt : i < n
    · obtain ⟨b, off, cs, rfl, hb, hc, hv⟩ := (h.up hbel).elem (k := i) (by rw [mStr_length]; exact hlt)
      have hg : (mStr n k)[i]'(by rw [mStr_length]; exact hlt) = mt (k + i) := by
        have := mStr_get n k i hlt
        rw [List.getElem?_eq_getElem (by rw [mStr_length]; exact hlt)] at this
        injection this
      rw [hg] at hc
      obtain ⟨rfl, hs⟩ := str_cells hc
      have e0 := hv 0 _ rfl
      simp only [Rep.size, Nat.add_zero, Nat.mul_one, vstr] at e0
      clear hv hc h hs hg
      have hbb := hid hb
      have hbel' := hid hbel
      clear hb hbel
      go_wp2_with fail
      go_region_held3 (fun w' => w'.cell? ⟨b, off + i, none⟩ = some (.string ⟨(mt (k + i)).toArray⟩) ∧ Hid (Below wr.heap.size wr w')) (first | exact ⟨e0, hid (bdr (Below.refl _ _))⟩ | exact ⟨(hb1.cell (p := ⟨b, off + i, none⟩) hbb.out).trans e0, hid (btr (bdr (Below.refl _ _)) hb1)⟩)
        (first | (go_at_call 76; refine (markText' (k + i) _ (by omega) (by omega)).mono ?_; rintro e w1 ⟨rfl, hb1⟩))
      go_wp2
      go_roundw
      case rel => exact ⟨i + 1, by omega, by go_num, by go_num, btr hbel'.out (btr (bdr (Below.refl _ _)) hb1)⟩
      case measure => simp [intOf]; omega
    · have hi' : i = n := by omega
      subst hi'
      go_wp2
      go_ret
      exact ⟨rfl, hbel⟩

set_option maxRecDepth 100000 in
set_option maxHeartbeats 400000 in
theorem heldWaitS (A : Option Addr) (n c k : Nat) (w : World) (h : At w w.heap.size A (mWait n k)) (h0 : 0 < k) (h1 : k + 2 * n ≤ 4294967296) :
    Calls Tryz.prog 110 #[.slice A n c, .int .i64 k] w fun e w' => e = .returned (.int .i64 ((k + 2 * n : Nat) : Int)) ∧ Below w.heap.size w w' := by
  go_enter Tryz.func110, Tryz.ntmps110
  go_wp2
  go_loopw [1, 5] (fun kv iv wr => ∃ (i : Nat), i ≤ n ∧ iv = .int .i64 i ∧ kv = .int .i64 ((k + 2 * i : Nat) : Int) ∧ Below w.heap.size w wr) (fun _ i _ => n - (intOf i).toNat)
  case atStart => exact ⟨0, by omega, rfl, rfl, Below.refl _ _⟩
  case round =>
    obtain ⟨i, hi, rfl, rfl, hbel⟩ := hrel
    by_cases hlt : i < n
    · obtain ⟨b, off, cs, rfl, hb, hc, hv⟩ := (h.up hbel).elem (k := i) (by rw [mWait_length]; exact hlt)
      have hg : (mWait n k)[i]'(by rw [mWait_length]; exact hlt) = (((k + 2 * i : Nat) : Int), mt (k + 2 * i + 1)) := by
        have := mWait_get n k i hlt
        rw [List.getElem?_eq_getElem (by rw [mWait_length]; exact hlt)] at this
        injection this
      rw [hg] at hc
      obtain ⟨rfl, hs0, hs⟩ := wait_cells hc
      have e0 := hv 0 _ rfl
      have e1 := hv 1 _ rfl
      simp only [Rep.size, Nat.add_zero, Nat.reduceAdd, vstr] at e0 e1
      clear hv hc h hs hs0 hg
      have hbb := hid hb
      have hbel' := hid hbel
      clear hb hbel
      go_wp2_with fail
      go_region_held3 (fun w' => w'.cell? ⟨b, off + i * 2 + 1, none⟩ = some (.string ⟨(mt (k + 2 * i + 1)).toArray⟩) ∧ Hid (Below wr.heap.size wr w')) (first | exact ⟨e1, hid (bdr (Below.refl _ _))⟩ | exact ⟨(hb1.cell (p := ⟨b, off + i * 2 + 1, none⟩) hbb.out).trans e1, hid (btr (bdr (Below.refl _ _)) hb1)⟩)
        (first | (go_at_call 76; refine (markText' (k + 2 * i + 1) _ (by omega) (by omega)).mono ?_; rintro e w1 ⟨rfl, hb1⟩))
      go_wp2
      go_roundw
      case rel => exact ⟨i + 1, by omega, by go_num, by go_num, btr hbel'.out (btr (bdr (Below.refl _ _)) hb1)⟩
      case measure => simp [intOf]; omega
    · have hi' : i = n := by omega
      subst hi'
      go_wp2
      go_ret
      exact ⟨ret_int (by omega), hbel⟩

set_option maxRecDepth 100000 in
set_option maxHeartbeats 400000 in
theorem heldDiskS (A : Option Addr) (l : List Disk) (c k : Nat) (w : World) (h : At w w.heap.size A (mDisks l k)) (h0 : 0 < k) (h1 : kAt l k l.length ≤ 4294967296) (hbig : l.length ≤ big) :
    Calls Tryz.prog 50 #[.slice A l.length c, .int .i64 k] w fun e w' => e = .returned (.int .i64 ((kAt l k l.length : Nat) : Int)) ∧ Below w.heap.size w w' := by
  unfold big at hbig
  go_enter Tryz.func50, Tryz.ntmps50
  go_wp2
  go_loopw [1, 5] (fun kv iv wr => ∃ (i q : Nat), i ≤ l.length ∧ iv = .int .i64 i ∧ kv = .int .i64 q ∧ Hid (q = kAt l k i) ∧ 0 < q ∧ Below w.heap.size w wr) (fun _ i _ => l.length - (intOf i).toNat)
  case atStart => exact ⟨0, k, by omega, rfl, rfl, hid (by simp [kAt]), h0, Below.refl _ _⟩
  case round =>
    obtain ⟨i, q, hi, rfl, rfl, Hq, hq0, hbel⟩ := hrel
    by_cases hlt : i < l.length
    · obtain ⟨b, off, cs, rfl, hb, hc, hv⟩ := (h.up hbel).elem (k := i) (by rw [mDisks_length]; exact hlt)
      have hg : (mDisks l k)[i]'(by rw [mDisks_length]; exact hlt) = mDisk l[i] (kAt l k i) := by
        have := mDisks_get l k i hlt
        rw [List.getElem?_eq_getElem (by rw [mDisks_length]; exact hlt)] at this
        injection this
      obtain ⟨d, Hd⟩ : ∃ d, Hid (d = l[i]) := ⟨l[i], hid rfl⟩
      rw [hg, ← Hq.out, ← Hd.out] at hc
      have hqs : q + wtm d ≤ 4294967296 := by
        have h2 := kAt_le l k (i + 1); rw [kAt_step l k i hlt, ← Hq.out, ← Hd.out] at h2; omega
      unfold wtm at hqs
      obtain ⟨A1, c1, A2, c2, rfl, hx1, ha1, hx2, ha2⟩ := disk_cells hc
      have hbb : (((q : Int) + d.1.length + 2 * d.2.1.length) % 3 == 0) = decide ((q + d.1.length + 2 * d.2.1.length) % 3 = 0) := by
        rw [Bool.eq_iff_iff, beq_iff_eq, decide_eq_true_iff]; omega
      have e0 := hv 0 _ rfl
      have e1 := hv 1 _ rfl
      have e2 := hv 2 _ rfl
      simp only [Rep.size, Nat.add_zero, Nat.reduceAdd] at e0 e1 e2
      have l1 : (mDisk d q).1.length = d.1.length := mStr_length _ _
      have l2 : (mDisk d q).2.1.length = d.2.1.length := mWait_length _ _
      rw [l1] at e0
      rw [l2] at e1
      have e2' : wr.cell? ⟨b, off + i * 3 + 2, none⟩ = some (.bool (((q : Int) + d.1.length + 2 * d.2.1.length) % 3 == 0)) := by rw [hbb]; exact e2
      have Hb := hid hb; have Hbel := hid hbel; have HA1 := hid ha1; have HA2 := hid ha2; have E1 := hid e1; have E2 := hid e2'; have H1 := hid h1; have H := hid h
      clear hv hc hg hx1 hx2 ha1 ha2 e1 e2 e2' hb hbel hbb l1 l2 h1 h
      go_wp2_with fail
      clear e0
      refine (heldStringS A1 d.1.length c1 q _ HA1.out hq0 (by omega)).mono ?_
      rintro e w1 ⟨rfl, hb1⟩
      have e1 := (hb1.cell (p := ⟨b, off + i * 3 + 1, none⟩) Hb.out).trans E1.out
      have H2 := hid hb1
      clear hb1
      go_wp2_with fail
      clear e1
      refine (heldWaitS A2 d.2.1.length c2 (q + d.1.length) _ (HA2.out.up H2.out) (by omega) (by omega)).mono ?_
      rintro e w2 ⟨rfl, hb2⟩
      have H3 := hid (btr H2.out hb2)
      have e1 := (H3.out.cell (p := ⟨b, off + i * 3 + 2, none⟩) Hb.out).trans E2.out
      clear hb2
      go_wp2
      go_roundw
      case rel => exact ⟨i + 1, q + wtm d, by omega, by go_num, by unfold wtm; go_num, hid (by rw [kAt_step l k i hlt, Hq.out, Hd.out]), by unfold wtm; omega, btr Hbel.out H3.out⟩
      case measure => simp [intOf]; omega
    · have hi' : i = l.length := by omega
      subst hi'
      go_wp2
      go_ret
      exact ⟨ret_int (by rw [Hq.out]), hbel⟩

set_option maxHeartbeats 400000 in
theorem heldRaid (A : Option Addr) (l : Raid) (c k : Nat) (w : World) (h : At w w.heap.size A (mDisks l k)) (h0 : 0 < k) (h1 : kAt l k l.length ≤ 4294967296) (hbig : l.length ≤ big) :
    Calls Tryz.prog 15 #[.agg #[.slice A l.length c], .int .i64 k] w fun e w' => e = .returned (.int .i64 ((kAt l k l.length : Nat) : Int)) ∧ Below w.heap.size w w' := by
  have H0 := hid (bnew w (.cells #[.slice A l.length c] 28))
  have H := hid (h.up H0.out)
  clear h
  go_enter Tryz.func15, Tryz.ntmps15
  go_wp2_with fail
  refine (heldDiskS A l c k _ H.out h0 h1 hbig).mono ?_
  rintro e w1 ⟨rfl, hb⟩
  have H1 := hid (btr H0.out hb)
  clear hb
  go_wp2
  go_ret
  exact ⟨rfl, H1.out⟩
end Pm
end Go.Proofs.YtdjkdcokjoiokaaGreatDoor

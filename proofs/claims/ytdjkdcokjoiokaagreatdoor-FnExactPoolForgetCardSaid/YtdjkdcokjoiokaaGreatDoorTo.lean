/- The law's copies of its arguments: what each lays is owned, new memory alone. -/
import Derived.Test.YtdjkdcokjoiokaaGreatDoorProg
import Derived.Test.YtdjkdcokjoiokaaGreatDoorForget
import Derived.WalkKit
import Derived.WalkSpells
import Derived.WalkLawsBesides
import Derived.KernelRfl
namespace Go.Proofs.YtdjkdcokjoiokaaGreatDoor
open Go.RowKit
namespace Pm
theorem run_mk {P : Program} (t e : TypeId) (z : Value) (size bytes : Nat) (ht : P.underlying t = some (.slice e)) (hinfo : (P.info? e).map (fun i => (i.zero, i.size, i.bytes)) = some (some z, size, bytes))
    (n : Nat) (hbytes : bytes * n ≤ 281474976710656) (h63 : n ≤ 9223372036854775807) (w : World) :
    (Instr.makeSlice t (.int .i64 (n : Int)) (.int .i64 (n : Int))).run P w = .ok (.slice (some ⟨w.heap.size, 0, none⟩) n n) (w.alloc (.cells (madeCells z.cells (n * size)) e)) := by
  obtain ⟨i, hi, hzz⟩ := Option.map_eq_some_iff.1 hinfo
  simp only [Prod.mk.injEq] at hzz
  obtain ⟨hz, hs, hb⟩ := hzz
  have hb' : (i.bytes : Int) * (n : Int) ≤ 281474976710656 := by
    rw [hb]
    have h : ((bytes * n : Nat) : Int) ≤ 281474976710656 := by omega
    rwa [Int.natCast_mul] at h
  have hr := run_make (P := P) w t e i z ht hi hz .i64 .i64 n n (by omega) (Int.le_refl _) hb' (by omega)
  simp only [Int.toNat_natCast, hs] at hr
  exact hr
theorem info_string : (Tryz.prog.info? 9).map (fun i => (i.zero, i.size, i.bytes)) = some (some (.string ⟨#[]⟩), 1, 16) := by kernel_rfl
theorem info_wait : (Tryz.prog.info? 225).map (fun i => (i.zero, i.size, i.bytes)) = some (some (.agg #[.int .i64 0, .string ⟨#[]⟩]), 2, 24) := by kernel_rfl
theorem info_disk : (Tryz.prog.info? 90).map (fun i => (i.zero, i.size, i.bytes)) = some (some (.agg #[.slice none 0 0, .slice none 0 0, .bool false]), 3, 56) := by kernel_rfl

set_option maxHeartbeats 400000 in
theorem toStringS (A : Option Addr) (l : List Str) (c : Nat) (w : World) (hl : l.length ≤ 1048576) (h : At w w.heap.size A l) :
    Calls Tryz.prog 57 #[.slice A l.length c] w fun e w' => ∃ A' c' fp, e = .returned (.slice A' l.length c') ∧ Ow.own w' [.slice A' l.length c'] l fp ∧ Fp w.heap.size w'.heap.size fp ∧ Below w.heap.size w w' := by
  have hmk := run_mk (P := Tryz.prog) 35 9 _ 1 16 Tryz.underlying35 info_string l.length (by omega) (by omega)
  go_enter Tryz.func57, Tryz.ntmps57
  go_wp2
  go_loopw [4] (fun iv wr => ∃ (k : Nat) (cur : Array Value), k ≤ l.length ∧ iv = .int .i64 k ∧ Row wr w.heap.size cur ∧ cur.size = l.length ∧ Els wr cur (l.take k) (List.replicate k []) ∧ Below w.heap.size w wr) (fun i _ => l.length - (intOf i).toNat)
  case atStart => exact ⟨0, _, by omega, rfl, Row.new _ _ _, by rw [size_madeCells], Els.nil, (Below.refl _ _).alloc (Nat.le_refl _) _⟩
  case round =>
    obtain ⟨k, cur, hk, rfl, hrow, hsz, hels, hbel⟩ := hrel
    by_cases hlt : k < l.length
    · obtain ⟨b, off, cs, rfl, hb, hc, hv⟩ := (h.below hbel).elem hlt
      obtain ⟨rfl, hs⟩ := str_cells hc
      have e0 := hv 0 _ rfl
      simp only [Rep.size, Nat.add_zero, Nat.mul_one] at e0
      obtain ⟨old, e1⟩ := hrow.at_ (i := k) (by omega)
      have e2 := hrow.free k
      have HR := hid hrow; have HZ := hid hsz; have HE := hid hels
      clear hv hc h hrow hsz hels hmk
      unfold vstr at e0
      go_wp2
      go_roundw
      case rel =>
        have hrow := HR.out; have hsz := HZ.out; have hels := HE.out
        refine ⟨k + 1, _, by omega, by go_num, hrow.set k _, by simpa using hsz, ?_, hbel.setCell (Nat.le_refl _) _⟩
        rw [List.take_succ_eq_append_getElem hlt, List.replicate_succ']
        refine ((hels.frame (by simp)).row fun i hi => ?_).snoc (cs := [vstr l[k]]) (own_str hs) fun j v hj => ?_
        · simp only [Rep.size, Nat.mul_one, List.length_take] at hi
          rw [Array.getElem?_setIfInBounds_ne (by omega)]
        · have hlk : (l.take k).length = k := by rw [List.length_take]; omega
          match j, hj with
          | 0, hj =>
            simp only [List.getElem?_cons_zero, Option.some.injEq] at hj
            simp only [Rep.size, hlk, Nat.mul_one, Nat.add_zero]
            rw [Array.getElem?_setIfInBounds_self_of_lt (by omega), ← hj]; rfl
      case measure => simp [intOf]; omega
    · have hk' : k = l.length := by omega
      subst hk'
      have HR := hid hrow; have HZ := hid hsz; have HE := hid hels
      clear hrow hsz hels h hmk
      go_wp2
      go_ret
      have hrow := HR.out; have hsz := HZ.out; have hels := HE.out
      rw [List.take_length] at hels
      refine ⟨_, _, _, rfl, own_list (by unfold big; omega) (Nat.le_refl _) hrow (by rw [hsz]; simp [Rep.size]) hels, ?_, hbel⟩
      have := hrow.lt
      simpa using Fp.one (lo := w.heap.size) (hi := wr.heap.size) ⟨Nat.le_refl _, this⟩

set_option maxHeartbeats 400000 in
theorem toWait (x : Wait) (w : World) :
    Calls Tryz.prog 234 #[.agg #[.int .i64 x.1, vstr x.2]] w fun e w' => e = .returned (.agg #[.int .i64 x.1, vstr x.2]) ∧ Below w.heap.size w w' := by
  obtain ⟨n, s⟩ := x
  simp only [vstr] at *
  go_enter Tryz.func234, Tryz.ntmps234
  go_wp2
  refine bodyPost_ret (v := .agg #[.int .i64 n, .string ⟨s.toArray⟩]) (by simp [results, Tryz.results234, go_sem]) rfl ⟨rfl, ?_⟩
  exact bal (bal (bnew _ _) _) _

set_option maxHeartbeats 400000 in
theorem toWaitS (A : Option Addr) (l : List Wait) (c : Nat) (w : World) (hl : l.length ≤ 1048576) (h : At w w.heap.size A l) :
    Calls Tryz.prog 162 #[.slice A l.length c] w fun e w' => ∃ A' c' fp, e = .returned (.slice A' l.length c') ∧ Ow.own w' [.slice A' l.length c'] l fp ∧ Fp w.heap.size w'.heap.size fp ∧ Below w.heap.size w w' := by
  have hmk := run_mk (P := Tryz.prog) 88 225 _ 2 24 Tryz.underlying88 info_wait l.length (by omega) (by omega)
  go_enter Tryz.func162, Tryz.ntmps162
  go_wp2
  go_loopw [4] (fun iv wr => ∃ (k : Nat) (cur : Array Value), k ≤ l.length ∧ iv = .int .i64 k ∧ Row wr w.heap.size cur ∧ cur.size = l.length * 2 ∧ Els wr cur (l.take k) (List.replicate k []) ∧ Below w.heap.size w wr) (fun i _ => l.length - (intOf i).toNat)
  case atStart => exact ⟨0, _, by omega, rfl, Row.new _ _ _, by rw [size_madeCells], Els.nil, bnew _ _⟩
  case round =>
    obtain ⟨k, cur, hk, rfl, hrow, hsz, hels, hbel⟩ := hrel
    by_cases hlt : k < l.length
    · obtain ⟨b, off, cs, rfl, hb, hc, hv⟩ := (h.below hbel).elem hlt
      obtain ⟨rfl, hi, hs⟩ := wait_cells hc
      have e0 := hv 0 _ rfl
      have e1 := hv 1 _ rfl
      simp only [Rep.size, Nat.add_zero, Nat.reduceAdd] at e0 e1
      have Hlt := hid hrow.lt
      obtain ⟨x, Hx⟩ : ∃ x, Hid (x = l[k]) := ⟨l[k], hid rfl⟩
      rw [← Hx.out] at e0 e1 hi hs
      have HR := hid hrow; have HZ := hid hsz; have HE := hid hels
      clear hv hc h hrow hsz hels hmk
      unfold vstr at e1
      go_wp2_with (go_at_call 234; refine (toWait x _).mono ?_; rintro e w1 ⟨rfl, hb1⟩; refine Hid.out ?_)
      refine hid ?_
      have hrow := HR.out.keep (hb1.block _ Hlt.out)
      obtain ⟨old0, e2⟩ := hrow.at_ (i := k * 2) (by rw [HZ.out]; omega)
      obtain ⟨old1, e3⟩ := hrow.at_ (i := k * 2 + 1) (by rw [HZ.out]; omega)
      have e4 := hrow.free (k * 2)
      have e5 := hrow.free (k * 2 + 1)
      have HR1 := hid hrow
      clear hrow HR e0 e1
      have Hb := hid (btr hbel hb1); have Hb1 := hid hb1
      clear hbel hb1
      unfold vstr
      go_wp2
      go_roundw
      case rel =>
        have hrow := HR1.out; have hsz := HZ.out
        have hels := HE.out.frame (w' := w1) (by simp)
        refine ⟨k + 1, _, by omega, by go_num, (hrow.set (k * 2) _).set (k * 2 + 1) _, by simpa using hsz, ?_, bset (bset Hb.out (Nat.le_refl _) _ _) (Nat.le_refl _) _ _⟩
        rw [List.take_succ_eq_append_getElem hlt, List.replicate_succ', ← Hx.out]
        have hlk : (l.take k).length = k := by rw [List.length_take]; omega
        refine ((hels.frame (by simp)).row fun i hi => ?_).snoc (cs := [.int .i64 x.1, vstr x.2]) (own_wait hi hs) fun j v hj => ?_
        · simp only [Rep.size, List.length_take] at hi
          rw [Array.getElem?_setIfInBounds_ne (by omega), Array.getElem?_setIfInBounds_ne (by omega)]
        · simp only [Rep.size, hlk, Nat.reduceAdd]
          match j, hj with
          | 0, hj =>
            simp only [List.getElem?_cons_zero, Option.some.injEq] at hj
            rw [Array.getElem?_setIfInBounds_ne (by omega), Nat.add_zero, Array.getElem?_setIfInBounds_self_of_lt (by omega), ← hj]
          | 1, hj =>
            simp only [List.getElem?_cons_succ, List.getElem?_cons_zero, Option.some.injEq] at hj
            rw [Array.getElem?_setIfInBounds_self_of_lt (by simp; omega), ← hj]; rfl
      case measure => simp [intOf]; omega
    · have hk' : k = l.length := by omega
      subst hk'
      have HR := hid hrow; have HZ := hid hsz; have HE := hid hels
      clear hrow hsz hels h hmk
      go_wp2
      go_ret
      have hrow := HR.out; have hsz := HZ.out; have hels := HE.out
      rw [List.take_length] at hels
      refine ⟨_, _, _, rfl, own_list (by unfold big; omega) (Nat.le_refl _) hrow (by rw [hsz]; simp [Rep.size]) hels, ?_, hbel⟩
      have := hrow.lt
      simpa using Fp.one (lo := w.heap.size) (hi := wr.heap.size) ⟨Nat.le_refl _, this⟩

set_option maxHeartbeats 400000 in
theorem toDisk (A1 A2 : Option Addr) (c1 c2 : Nat) (d : Disk) (w : World) (hl1 : d.1.length ≤ 1048576) (ha1 : At w w.heap.size A1 d.1) (hl2 : d.2.1.length ≤ 1048576) (ha2 : At w w.heap.size A2 d.2.1) :
    Calls Tryz.prog 97 #[.agg #[.slice A1 d.1.length c1, .slice A2 d.2.1.length c2, .bool d.2.2]] w fun e w' => ∃ B1 B2 k1 k2 fp, e = .returned (.agg #[.slice B1 d.1.length k1, .slice B2 d.2.1.length k2, .bool d.2.2]) ∧
      Ow.own w' [.slice B1 d.1.length k1, .slice B2 d.2.1.length k2, .bool d.2.2] d fp ∧ Fp w.heap.size w'.heap.size fp ∧ Below w.heap.size w w' := by
  obtain ⟨l1, l2, g⟩ := d
  simp only at *
  have Ha1 := hid ha1; have Ha2 := hid ha2
  clear ha1 ha2
  have H0 := hid (bal (bal (bnew w (.cells #[.slice A1 l1.length c1, .slice A2 l2.length c2, .bool g] 154)) (.cells #[.slice none 0 0, .slice none 0 0, .bool false] 90)) (.cells #[.slice none 0 0, .slice none 0 0, .bool false] 90))
  have R0 := hid (((Row.new w #[.slice A1 l1.length c1, .slice A2 l2.length c2, .bool g] 154).alloc (.cells #[.slice none 0 0, .slice none 0 0, .bool false] 90)).alloc (.cells #[.slice none 0 0, .slice none 0 0, .bool false] 90))
  have R1 := hid ((Row.new (w.alloc (.cells #[.slice A1 l1.length c1, .slice A2 l2.length c2, .bool g] 154)) #[.slice none 0 0, .slice none 0 0, .bool false] 90).alloc (.cells #[.slice none 0 0, .slice none 0 0, .bool false] 90))
  have R2 := hid (Row.new ((w.alloc (.cells #[.slice A1 l1.length c1, .slice A2 l2.length c2, .bool g] 154)).alloc (.cells #[.slice none 0 0, .slice none 0 0, .bool false] 90)) #[.slice none 0 0, .slice none 0 0, .bool false] 90)
  simp only [World.size_alloc] at R1 R2
  go_enter Tryz.func97, Tryz.ntmps97
  go_wp2_with fail
  refine (toStringS A1 l1 c1 _ hl1 (Ha1.out.up H0.out)).mono ?_
  rintro e w1 ⟨B1, k1, f1, rfl, ho1, hf1, hb1⟩
  have S0 := hid (R0.out.below hb1); have S1 := hid (R1.out.below hb1); have S2 := hid (R2.out.below hb1)
  have L1 := hid S2.out.lt
  have H1 := hid (btr H0.out hb1); have HO1 := hid ho1; have HF1 := hid hf1
  clear R0 R1 R2 hb1 ho1 hf1
  have c1 := S0.out.get 1 rfl
  have c2 := S2.out.get 0 rfl
  have c3 := S2.out.free 0
  go_wp2_with fail
  clear c1 c2 c3
  have T0 := hid (S0.out.far (b' := w.heap.size + 1 + 1) (by omega) 0 (.slice B1 l1.length k1))
  have T1 := hid (S1.out.far (b' := w.heap.size + 1 + 1) (by omega) 0 (.slice B1 l1.length k1))
  have T2 := hid (S2.out.set 0 (.slice B1 l1.length k1))
  have H2 := hid (bset H1.out (b := w.heap.size + 1 + 1) (by omega) 0 (.slice B1 l1.length k1))
  refine (toWaitS A2 l2 c2 _ hl2 (Ha2.out.up H2.out)).mono ?_
  rintro e w2 ⟨B2, k2, f2, rfl, ho2, hf2, hb2⟩
  have S0 := hid (T0.out.below hb2); have S1 := hid (T1.out.below hb2); have S2 := hid (T2.out.below hb2)
  have H3 := hid (btr H2.out hb2); have HO2 := hid ho2; have HF2 := hid hf2; have HB := hid hb2
  clear T0 T1 T2 ho2 hf2 hb2
  have c1 := S0.out.get 2 rfl
  have c2 := S2.out.get 0 rfl
  have c3 := S2.out.get 1 rfl
  have c4 := S2.out.get 2 rfl
  have c5 := S2.out.free 0
  have c6 := S2.out.free 1
  have c7 := S2.out.free 2
  have d0 := S1.out.get 0 rfl
  have d1 := S1.out.get 1 rfl
  have d2 := S1.out.get 2 rfl
  have d3 := S1.out.free 0
  have d4 := S1.out.free 1
  have d5 := S1.out.free 2
  go_wp2
  refine bodyPost_ret (v := .agg #[.slice B1 l1.length k1, .slice B2 l2.length k2, .bool g]) (by simp [results, Tryz.results97, go_sem, d0, d1, d2]) rfl ?_
  have hf1 := HF1.out; have hf2 := HF2.out; have hb1 := H1.out.size; have hb2 := HB.out.size; have hb3 := H3.out; have hl1 := L1.out
  simp only [World.size_alloc, heap_setCell_size] at hf1 hf2 hb2
  refine ⟨B1, B2, k1, k2, f1 ++ f2, rfl, own_disk (d := (l1, l2, g)) (Ow.frame HO1.out fun b hb => ?_) (Ow.frame HO2.out fun b hb => ?_), ?_, ?_⟩
  · have := hf1.2 b hb
    repeat rw [heap_setCell_far _ _ _ _ _ (by omega)]
    rw [HB.out.block b (by simp; omega), heap_setCell_far _ _ _ _ _ (by omega)]
  · have := hf2.2 b hb
    repeat rw [heap_setCell_far _ _ _ _ _ (by omega)]
  · simp only [heap_setCell_size]
    exact (hf1.append hf2 (by omega) hb2).mono (by omega) (Nat.le_refl _)
  · repeat (refine bset ?_ (by omega) _ _)
    exact hb3

theorem flatten_snoc {a : List (List Nat)} {f : List Nat} : (a ++ [f]).flatten = a.flatten ++ f := by simp

set_option maxHeartbeats 400000 in
theorem toDiskS (A : Option Addr) (l : List Disk) (c : Nat) (w : World) (hl : l.length ≤ 1048576) (hin : ∀ d ∈ l, d.1.length ≤ 1048576 ∧ d.2.1.length ≤ 1048576) (h : At w w.heap.size A l) :
    Calls Tryz.prog 43 #[.slice A l.length c] w fun e w' => ∃ A' c' fp, e = .returned (.slice A' l.length c') ∧ Ow.own w' [.slice A' l.length c'] l fp ∧ Fp w.heap.size w'.heap.size fp ∧ Below w.heap.size w w' := by
  have hmk := run_mk (P := Tryz.prog) 26 90 _ 3 56 Tryz.underlying26 info_disk l.length (by omega) (by omega)
  have Hin := hid hin; clear hin
  go_enter Tryz.func43, Tryz.ntmps43
  go_wp2
  go_loopw [4] (fun iv wr => ∃ (k : Nat) (cur : Array Value) (fps : List (List Nat)), k ≤ l.length ∧ iv = .int .i64 k ∧ Row wr w.heap.size cur ∧ cur.size = l.length * 3 ∧ Els wr cur (l.take k) fps ∧ Fp (w.heap.size + 1) wr.heap.size fps.flatten ∧ Below w.heap.size w wr) (fun i _ => l.length - (intOf i).toNat)
  case atStart => exact ⟨0, _, [], by omega, rfl, Row.new _ _ _, by rw [size_madeCells], Els.nil, Fp.nil, bnew _ _⟩
  case round =>
    obtain ⟨k, cur, fps, hk, rfl, hrow, hsz, hels, hfp, hbel⟩ := hrel
    by_cases hlt : k < l.length
    · obtain ⟨b, off, cs, rfl, hb, hc, hv⟩ := (h.up hbel).elem hlt
      have hin := Hin.out _ (List.getElem_mem hlt)
      obtain ⟨x, Hx⟩ : ∃ x, Hid (x = l[k]) := ⟨l[k], hid rfl⟩
      rw [← Hx.out] at hc hin
      obtain ⟨A1, c1, A2, c2, rfl, hx1, ha1, hx2, ha2⟩ := disk_cells hc
      have e0 := hv 0 _ rfl
      have e1 := hv 1 _ rfl
      have e2 := hv 2 _ rfl
      simp only [Rep.size, Nat.add_zero, Nat.reduceAdd] at e0 e1 e2
      have Hlt := hid hrow.lt
      have HR := hid hrow; have HZ := hid hsz; have HE := hid hels; have HF := hid hfp
      have Ha1 := hid ha1; have Ha2 := hid ha2
      clear hv hc h hrow hsz hels hmk hfp ha1 ha2
      go_wp2_with fail
      refine (toDisk A1 A2 c1 c2 x _ hin.1 Ha1.out hin.2 Ha2.out).mono ?_
      rintro e w1 ⟨B1, B2, k1, k2, f, rfl, ho, hf, hb1⟩
      have hrow := HR.out.below hb1
      obtain ⟨old0, e3⟩ := hrow.at_ (i := k * 3) (by rw [HZ.out]; omega)
      obtain ⟨old1, e4⟩ := hrow.at_ (i := k * 3 + 1) (by rw [HZ.out]; omega)
      obtain ⟨old2, e5⟩ := hrow.at_ (i := k * 3 + 2) (by rw [HZ.out]; omega)
      have e6 := hrow.free (k * 3)
      have e7 := hrow.free (k * 3 + 1)
      have e8 := hrow.free (k * 3 + 2)
      have HR1 := hid hrow; have HO := hid ho; have Hf := hid hf
      have Hb := hid (btr hbel hb1); have Hb1 := hid hb1
      clear hrow HR e0 e1 e2 ho hf hbel hb1
      go_wp2
      go_roundw
      case rel =>
        have hrow := HR1.out; have hsz := HZ.out; have hfp := HF.out; have hf := Hf.out; have hb1 := Hb1.out; have hlw := Hlt.out
        have hels := HE.out.frame (w' := w1) (fun b hb => hb1.block b (hfp.2 b hb).2)
        have far : ∀ b, w.heap.size < b → (((w1.setCell ⟨w.heap.size, k * 3, none⟩ (.slice B1 x.1.length k1)).setCell ⟨w.heap.size, k * 3 + 1, none⟩ (.slice B2 x.2.1.length k2)).setCell ⟨w.heap.size, k * 3 + 2, none⟩ (.bool x.2.2)).heap[b]? = w1.heap[b]? := fun b hb => by
          rw [heap_setCell_far _ _ _ _ _ (by omega), heap_setCell_far _ _ _ _ _ (by omega), heap_setCell_far _ _ _ _ _ (by omega)]
        refine ⟨k + 1, _, fps ++ [f], by omega, by go_num, ((hrow.set (k * 3) _).set (k * 3 + 1) _).set (k * 3 + 2) _, by simpa using hsz, ?_, ?_, bset (bset (bset Hb.out (Nat.le_refl _) _ _) (Nat.le_refl _) _ _) (Nat.le_refl _) _ _⟩
        · rw [List.take_succ_eq_append_getElem hlt, ← Hx.out]
          have hlk : (l.take k).length = k := by rw [List.length_take]; omega
          refine ((hels.frame fun b hb => far b (by have := hfp.2 b hb; omega)).row fun i hi => ?_).snoc (cs := [.slice B1 x.1.length k1, .slice B2 x.2.1.length k2, .bool x.2.2]) (Ow.frame HO.out fun b hb => far b (by have := hf.2 b hb; omega)) fun j v hj => ?_
          · simp only [Rep.size, List.length_take] at hi
            rw [Array.getElem?_setIfInBounds_ne (by omega), Array.getElem?_setIfInBounds_ne (by omega), Array.getElem?_setIfInBounds_ne (by omega)]
          · simp only [Rep.size, hlk, Nat.reduceAdd]
            match j, hj with
            | 0, hj =>
              simp only [List.getElem?_cons_zero, Option.some.injEq] at hj
              rw [Array.getElem?_setIfInBounds_ne (by omega), Array.getElem?_setIfInBounds_ne (by omega), Nat.add_zero, Array.getElem?_setIfInBounds_self_of_lt (by omega), ← hj]
            | 1, hj =>
              simp only [List.getElem?_cons_succ, List.getElem?_cons_zero, Option.some.injEq] at hj
              rw [Array.getElem?_setIfInBounds_ne (by omega), Array.getElem?_setIfInBounds_self_of_lt (by simp; omega), ← hj]
            | 2, hj =>
              simp only [List.getElem?_cons_succ, List.getElem?_cons_zero, Option.some.injEq] at hj
              rw [Array.getElem?_setIfInBounds_self_of_lt (by simp; omega), ← hj]
        · rw [flatten_snoc]
          simp only [heap_setCell_size]
          exact hfp.append hf (by omega) hb1.size
      case measure => simp [intOf]; omega
    · have hk' : k = l.length := by omega
      subst hk'
      have HR := hid hrow; have HZ := hid hsz; have HE := hid hels; have HF := hid hfp
      clear hrow hsz hels h hmk hfp
      go_wp2
      go_ret
      have hrow := HR.out; have hsz := HZ.out; have hels := HE.out
      rw [List.take_length] at hels
      refine ⟨_, _, _, rfl, own_list (by unfold big; omega) (Nat.le_refl _) hrow (by rw [hsz]; simp [Rep.size]) hels, ?_, hbel⟩
      have := hrow.lt
      exact Fp.cons ⟨Nat.le_refl _, by omega⟩ HF.out (by omega)

set_option maxHeartbeats 400000 in
theorem toRaid (A : Option Addr) (l : Raid) (c : Nat) (w : World) (hl : l.length ≤ 1048576) (hin : ∀ d ∈ l, d.1.length ≤ 1048576 ∧ d.2.1.length ≤ 1048576) (h : At w w.heap.size A l) :
    Calls Tryz.prog 11 #[.agg #[.slice A l.length c]] w fun e w' => ∃ A' c' fp, e = .returned (.agg #[.slice A' l.length c']) ∧ Ow.own w' [.slice A' l.length c'] l fp ∧ Fp w.heap.size w'.heap.size fp ∧ Below w.heap.size w w' := by
  have Ha := hid h; have Hin := hid hin; clear h hin
  have H0 := hid (bal (bal (bnew w (.cells #[.slice A l.length c] 24)) (.cells #[.slice none 0 0] 28)) (.cells #[.slice none 0 0] 28))
  have R1 := hid ((Row.new (w.alloc (.cells #[.slice A l.length c] 24)) #[.slice none 0 0] 28).alloc (.cells #[.slice none 0 0] 28))
  have R2 := hid (Row.new ((w.alloc (.cells #[.slice A l.length c] 24)).alloc (.cells #[.slice none 0 0] 28)) #[.slice none 0 0] 28)
  simp only [World.size_alloc] at R1 R2
  go_enter Tryz.func11, Tryz.ntmps11
  go_wp2_with fail
  refine (toDiskS A l c _ hl Hin.out (Ha.out.up H0.out)).mono ?_
  rintro e w1 ⟨A', c', f, rfl, ho, hf, hb1⟩
  have S1 := hid (R1.out.below hb1); have S2 := hid (R2.out.below hb1)
  have L1 := hid S2.out.lt
  have H1 := hid (btr H0.out hb1); have HO := hid ho; have HF := hid hf
  clear R1 R2 hb1 ho hf
  have c2 := S2.out.get 0 rfl
  have c3 := S2.out.free 0
  have d0 := S1.out.get 0 rfl
  have d3 := S1.out.free 0
  go_wp2
  refine bodyPost_ret (v := .agg #[.slice A' l.length c']) (by simp [results, Tryz.results11, go_sem, d0]) rfl ?_
  have hf := HF.out; have hl1 := L1.out; have hb := H1.out
  simp only [World.size_alloc] at hf
  refine ⟨A', c', f, rfl, Ow.frame HO.out fun b hb => ?_, ?_, ?_⟩
  · have := hf.2 b hb
    repeat rw [heap_setCell_far _ _ _ _ _ (by omega)]
  · simp only [heap_setCell_size]
    exact hf.mono (by omega) (Nat.le_refl _)
  · repeat (refine bset ?_ (by omega) _ _)
    exact hb
end Pm
end Go.Proofs.YtdjkdcokjoiokaaGreatDoor

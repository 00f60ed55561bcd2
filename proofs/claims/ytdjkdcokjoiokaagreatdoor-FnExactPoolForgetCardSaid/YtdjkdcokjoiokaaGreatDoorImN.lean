/- The program's copies of sets of disks. -/
import Derived.Test.YtdjkdcokjoiokaaGreatDoorImM
import Derived.Test.YtdjkdcokjoiokaaGreatDoorPart
namespace Go.Proofs.YtdjkdcokjoiokaaGreatDoor
open Go.RowKit
namespace Pm

set_option maxHeartbeats 800000 in
theorem imCloneFn (i : Int) (A1 A2 : Option Addr) (c1 c2 : Nat) (d : Disk) (w : World) (hl1 : d.1.length ≤ 1048576) (ha1 : At w w.heap.size A1 d.1) (hl2 : d.2.1.length ≤ 1048576) (ha2 : At w w.heap.size A2 d.2.1) (hs : ∀ x ∈ d.1, x.length ≤ big) (hw : ∀ x ∈ d.2.1, InI x.1 ∧ x.2.length ≤ big) :
    Calls Tryz.prog 106 #[.int .i64 i, .agg #[.slice A1 d.1.length c1, .slice A2 d.2.1.length c2, .bool d.2.2]] w fun e w' => ∃ B1 B2 k1 k2 fp, e = .returned (.tuple #[.agg #[.slice B1 d.1.length k1, .slice B2 d.2.1.length k2, .bool d.2.2], .bool true]) ∧ Ow.own w' [.slice B1 d.1.length k1, .slice B2 d.2.1.length k2, .bool d.2.2] d fp ∧ Fp w.heap.size w'.heap.size fp ∧ Below w.heap.size w w' := by
  have HB := hid (bal (bnew w (.cells #[.slice A1 d.1.length c1, .slice A2 d.2.1.length c2, .bool d.2.2] 90)) (.cells #[.slice none 0 0, .slice none 0 0, .bool false] 90))
  have HWr := hid (Row.new (w.alloc (.cells #[.slice A1 d.1.length c1, .slice A2 d.2.1.length c2, .bool d.2.2] 90)) #[.slice none 0 0, .slice none 0 0, .bool false] 90)
  have HWz := hid (show ((w.alloc (.cells #[.slice A1 d.1.length c1, .slice A2 d.2.1.length c2, .bool d.2.2] 90)).alloc (.cells #[.slice none 0 0, .slice none 0 0, .bool false] 90)).heap.size = w.heap.size + 2 by simp)
  simp only [World.size_alloc] at HWr
  have Hc := hid (fun W (hb : Below w.heap.size w W) => imDiskClone A1 A2 c1 c2 d W hl1 (ha1.up hb) hl2 (ha2.up hb) hs hw)
  clear ha1 ha2 hl1 hl2 hs hw
  go_enter Tryz.func106, Tryz.ntmps106
  go_wp2_with fail
  generalize (w.alloc (.cells #[.slice A1 d.1.length c1, .slice A2 d.2.1.length c2, .bool d.2.2] 90)).alloc (.cells #[.slice none 0 0, .slice none 0 0, .bool false] 90) = W at *
  refine (Hc.out _ HB.out).mono ?_
  rintro e w2 ⟨B1, B2, k1, k2, fp, rfl, ho, hf, hb2⟩
  have hr := HWr.out.below hb2
  have r0 := hr.get 0 rfl; have r1 := hr.get 1 rfl; have r2 := hr.get 2 rfl; have g0 := hr.free 0; have g1 := hr.free 1; have g2 := hr.free 2
  have Ho := hid ho; have Hf := hid hf; have Hb2 := hid (btr HB.out hb2)
  have Hfp := hid (show ∀ b ∈ fp, w.heap.size + 2 ≤ b from fun b hb => by have := (hf.2 b hb).1; have := HWz.out; omega)
  have Hlt := hid hr.lt
  clear ho hf hb2 hr
  go_wp2
  refine bodyPost_ret (v := .tuple #[.agg #[.slice B1 d.1.length k1, .slice B2 d.2.1.length k2, .bool d.2.2], .bool true]) (by simp [results, Tryz.results106, go_sem, r0, r1, r2]) rfl ?_
  refine ⟨B1, B2, k1, k2, fp, rfl, Ow.frame Ho.out fun b hb => ?_, ?_, bset (bset (bset Hb2.out (by omega) _ _) (by omega) _ _) (by omega) _ _⟩
  · have := Hfp.out b hb
    rw [heap_setCell_far _ _ _ _ _ (by omega), heap_setCell_far _ _ _ _ _ (by omega), heap_setCell_far _ _ _ _ _ (by omega)]
  · rw [heap_setCell_size, heap_setCell_size, heap_setCell_size]
    exact Hf.out.mono (by have := HWz.out; omega) (Nat.le_refl _)
theorem part_slice {ban base hi : Nat} {w : World} {v : Value} {l : List Disk} (h : Part ban base hi w v l) : ∃ A n c, v = .slice A n c := by
  obtain ⟨A, c, e⟩ := h.slice
  exact ⟨A, _, c, e⟩
theorem part_lt {base hi n : Nat} {w : World} {v : Value} {l : List Disk} (h : Part n base hi w v l) : n + 1 ≤ hi := by
  obtain ⟨xs, fps, k1, k2, k3, k4, k5, k6, k7⟩ := h
  exact k7
theorem part_base {ban base hi : Nat} {w : World} {v : Value} {l : List Disk} (h : Part ban base hi w v l) : ∀ b, v.ownBlock = some b → base ≤ b := by
  obtain ⟨xs, fps, k1, k2, k3, k4, k5, k6, k7⟩ := h
  intro b hb
  obtain ⟨_, ⟨rfl, _⟩ | ⟨g, cap, cur, rfl, hg, _⟩⟩ := k1
  · simp [Value.ownBlock] at hb
  · simp [Value.ownBlock] at hb; omega

set_option maxRecDepth 100000 in
set_option maxHeartbeats 1000000 in
theorem imEach (A : Option Addr) (l : Raid) (c : Nat) (w : World) (hl : l.length ≤ 1000) (h : At w w.heap.size A l)
    (hin : ∀ d ∈ l, d.1.length ≤ 1048576 ∧ d.2.1.length ≤ 1048576 ∧ (∀ x ∈ d.1, x.length ≤ big) ∧ (∀ x ∈ d.2.1, InI x.1 ∧ x.2.length ≤ big)) :
    Calls Tryz.prog 105 #[.agg #[.slice A l.length c], .func (.func 106) #[] #[]] w fun e w' => ∃ A' c' fp, e = .returned (.tuple #[.agg #[.slice A' l.length c'], .bool true]) ∧ Ow.own w' [.slice A' l.length c'] l fp ∧ Fp w.heap.size w'.heap.size fp ∧ Below w.heap.size w w' := by
  have Ha := hid h; have Hin := hid hin
  have Hl := hid hl
  clear h hin
  generalize hW : ((w.alloc (.cells #[.slice A l.length c] 28)).alloc (.cells #[.slice none 0 0] 28)).alloc (.cells #[.slice none 0 0] 28) = W
  have HB : Hid (Below w.heap.size w W) := hid (by rw [← hW]; exact bal (bal (bnew _ _) _) _)
  have HRb : Hid (Row W w.heap.size #[.slice A l.length c]) := hid (by rw [← hW]; exact ((Row.new _ _ _).alloc _).alloc _)
  have HRr : Hid (Row W (w.heap.size + 1) #[.slice none 0 0]) := hid (by rw [← hW]; have := (Row.new (w.alloc (.cells #[.slice A l.length c] 28)) #[.slice none 0 0] 28).alloc (.cells #[.slice none 0 0] 28); simpa using this)
  have HRo : Hid (Row W (w.heap.size + 1 + 1) #[.slice none 0 0]) := hid (by rw [← hW]; have := Row.new ((w.alloc (.cells #[.slice A l.length c] 28)).alloc (.cells #[.slice none 0 0] 28)) #[.slice none 0 0] 28; simpa using this)
  have Hsz : Hid (W.heap.size = w.heap.size + 3) := hid (by rw [← hW]; simp)
  have HP : Hid (Part (w.heap.size + 1 + 1) (w.heap.size + 3) W.heap.size W (.slice none 0 0) []) := hid (Part.start owns_nil (by rw [Hsz.out]; omega) (by simp [Value.ownBlock]))
  have hbox := HRb.out.get 0 rfl
  go_enter Tryz.func105, Tryz.ntmps105
  go_wp2
  try rw [hW]
  clear hW hbox
  go_loopw [14] (fun iv wr => ∃ (k : Nat) (VA : Option Addr) (vn vc : Nat), k ≤ l.length ∧ iv = .int .i64 k ∧ Hid (Part (w.heap.size + 1 + 1) (w.heap.size + 3) wr.heap.size wr (.slice VA vn vc) (l.take k)) ∧ Hid (Row wr (w.heap.size + 1 + 1) #[.slice VA vn vc]) ∧ Hid (Row wr (w.heap.size + 1) #[.slice none 0 0]) ∧ Hid (Below w.heap.size w wr)) (fun iv _ => l.length - (intOf iv).toNat)
  case atStart => exact ⟨0, none, 0, 0, by omega, rfl, HP, HRo, HRr, HB⟩
  case round =>
    clear HP HRo HRr HB HRb
    obtain ⟨k, VA, vn, vc, hk, rfl, HP, HRo, HRr, Hbel⟩ := hrel
    by_cases hlt : k < l.length
    · have hltI : (k : Int) < l.length := by omega
      obtain ⟨b, off, cs, rfl, hb, hc, hv⟩ := (Ha.out.up Hbel.out).elem hlt
      obtain ⟨x, Hx⟩ : ∃ x, Hid (x = l[k]) := ⟨l[k], hid rfl⟩
      have Hx1 := hid (Hin.out _ (List.getElem_mem hlt))
      rw [← Hx.out] at hc Hx1
      obtain ⟨A1, c1, A2, c2, rfl, hx1, ha1, hx2, ha2⟩ := disk_cells hc
      have e0 := hv 0 _ rfl
      have e1 := hv 1 _ rfl
      have e2 := hv 2 _ rfl
      simp only [Rep.size, Nat.add_zero, Nat.reduceAdd] at e0 e1 e2
      have Hc := hid (fun W (hb : Below wr.heap.size wr W) => imCloneFn k A1 A2 c1 c2 x W Hx1.out.1 (ha1.up hb) Hx1.out.2.1 (ha2.up hb) Hx1.out.2.2.1 Hx1.out.2.2.2)
      have Hstep : Hid (l.take (k + 1) = l.take k ++ [x]) := hid (by rw [List.take_succ_eq_append_getElem hlt, Hx.out])
      have Htl : Hid ((l.take k).length < 1048576) := hid (by rw [List.length_take]; omega)
      generalize l.take k = lk at HP Hstep Htl
      clear hv hc hb hx1 ha1 hx2 ha2
      go_wp2_with fail
      refine (Hc.out _ (bnew wr _)).mono ?_
      rintro e w2 ⟨B1, B2, k1, k2, fp, rfl, ho, hf, hb2⟩
      have Hb2 := hid (btr (bnew wr _) hb2)
      have HP2 := hid (HP.out.below Hb2.out)
      have HRo2 := hid (HRo.out.below Hb2.out)
      have HRr2 := hid (HRr.out.below Hb2.out)
      have Hbel2 := hid (btr Hbel.out Hb2.out)
      have Ho := hid ho
      have Hf : Hid (Fp wr.heap.size w2.heap.size fp) := hid (hf.mono (by simp) (Nat.le_refl _))
      clear e0 e1 e2 ho hf hb2
      have o0 := (HRo2.out.below (bnew w2 (.cells #[.slice B1 x.1.length k1, .slice B2 x.2.1.length k2, .bool x.2.2] 90))).get 0 rfl
      go_wp2_with (at_builtin; refine wpList_plain rfl fun K hK => ?_; refine wp_part _ _ rfl (w.heap.size + 1 + 1) (w.heap.size + 3) wr.heap.size (.slice VA vn vc) lk rfl (HP2.out.below (btr (bnew _ _) (bnew _ _))) (w2.heap.size + 1) (.slice B1 x.1.length k1) (.slice B2 x.2.1.length k2) (.bool x.2.2) rfl ?hrow x fp (Ow.below Ho.out (btr (bnew _ _) (bnew _ _)) (Ow.lt Ho.out)) (Hf.out.mono (Nat.le_refl _) (by simp; omega)) ?hone Htl.out ?hbase fun v' w4 p1 p2 => hK _ _ ?_; (case hrow => (have := Row.new (w2.alloc (.cells #[.slice B1 x.1.length k1, .slice B2 x.2.1.length k2, .bool x.2.2] 90)) #[.slice B1 x.1.length k1, .slice B2 x.2.1.length k2, .bool x.2.2] 90; simpa using this)); (case hone => (intro u hu; simp at hu; rcases hu with rfl | rfl | rfl <;> rfl)); (case hbase => exact (part_lt HP.out)); obtain ⟨VA', vn', vc', ev⟩ := part_slice p1; subst ev; have HP4 := hid p1; have HRo4 := hid ((HRo2.out.below (btr (bnew w2 _) (bnew _ _))).keep (p2.block _ (HRo2.out.below (btr (bnew w2 _) (bnew _ _))).lt (fun e => HP.out.ban e.symm))); have HRr4 := hid ((HRr2.out.below (btr (bnew w2 _) (bnew _ _))).keep (p2.block _ (HRr2.out.below (btr (bnew w2 _) (bnew _ _))).lt (fun e => by have := part_base HP.out _ e.symm; omega))); have Hbel4 := hid ((bal (bal Hbel2.out _) _).grown p2 (Nat.le_trans Hbel2.out.size (by simp; omega)) (fun k hk => by have := part_base HP.out _ hk; omega)); have q0 := HRo4.out.get 0 rfl; have qg0 := HRo4.out.free 0; clear p1 p2 o0)
      go_roundw
      case rel =>
        refine ⟨k + 1, VA', vn', vc', by omega, by go_num, hid ?_, hid (HRo4.out.set 0 _), hid (HRr4.out.far (by omega) _ _), hid (bset Hbel4.out (by omega) _ _)⟩
        rw [heap_setCell_size, Hstep.out]
        exact HP4.out.touch ((Touch.refl _ _).set (by simp) _ _)
      case measure => simp only [intOf]; omega
    · have hk' : k = l.length := by omega
      subst hk'
      rw [List.take_length] at HP
      obtain ⟨fp, hn, ho, hf⟩ := HP.out.own (by unfold big; omega)
      subst hn
      have r0 := HRo.out.get 0 rfl
      have q0 := HRr.out.get 0 rfl; have qg0 := HRr.out.free 0
      have Ho := hid ho; have Hf := hid hf
      clear ho hf
      go_wp2
      refine bodyPost_ret (v := .tuple #[.agg #[.slice VA l.length vc], .bool true]) (by simp [results, Tryz.results105, go_sem, q0]) rfl ?_
      refine ⟨VA, vc, fp, rfl, Ow.frame Ho.out fun b hb => heap_setCell_far _ _ _ _ _ ?_, ?_, ?_⟩
      · have := (Hf.out.2 b hb).1; omega
      · rw [heap_setCell_size]; exact Hf.out.mono (by omega) (Nat.le_refl _)
      · exact bset Hbel.out (by omega) _ _

set_option maxHeartbeats 800000 in
theorem imRaidClone (A : Option Addr) (l : Raid) (c : Nat) (w : World) (hl : l.length ≤ 1000) (h : At w w.heap.size A l)
    (hin : ∀ d ∈ l, d.1.length ≤ 1048576 ∧ d.2.1.length ≤ 1048576 ∧ (∀ x ∈ d.1, x.length ≤ big) ∧ (∀ x ∈ d.2.1, InI x.1 ∧ x.2.length ≤ big)) :
    Calls Tryz.prog 47 #[.agg #[.slice A l.length c]] w fun e w' => ∃ A' c' fp, e = .returned (.agg #[.slice A' l.length c']) ∧ Ow.own w' [.slice A' l.length c'] l fp ∧ Fp w.heap.size w'.heap.size fp ∧ Below w.heap.size w w' := by
  have HB := hid (bal (bnew w (.cells #[.slice A l.length c] 28)) (.cells #[.slice none 0 0] 28))
  have HRr := hid (Row.new (w.alloc (.cells #[.slice A l.length c] 28)) #[.slice none 0 0] 28)
  simp only [World.size_alloc] at HRr
  have Hsz := hid (show ((w.alloc (.cells #[.slice A l.length c] 28)).alloc (.cells #[.slice none 0 0] 28)).heap.size = w.heap.size + 2 by simp)
  have Hc := hid (imEach A l c _ hl (h.up HB.out) hin)
  clear h hin
  go_enter Tryz.func47, Tryz.ntmps47
  go_wp2_with fail
  generalize (w.alloc (.cells #[.slice A l.length c] 28)).alloc (.cells #[.slice none 0 0] 28) = W at *
  refine Hc.out.mono ?_
  rintro e w2 ⟨A', c', fp, rfl, ho, hf, hb2⟩
  have Ho := hid (Ow.below ho (bnew w2 (.cells #[.slice A' l.length c'] 28)) (Ow.lt ho))
  have Hf := hid hf
  have Hb2 := hid (bal (btr HB.out hb2) (.cells #[.slice A' l.length c'] 28))
  have R2 := hid ((HRr.out.below hb2).alloc (.cells #[.slice A' l.length c'] 28))
  have r0 := R2.out.get 0 rfl; have rg0 := R2.out.free 0
  have Hle := hid (show w.heap.size + 1 < w2.heap.size from (HRr.out.below hb2).lt)
  clear ho hf hb2
  go_wp2
  refine bodyPost_ret (v := .agg #[.slice A' l.length c']) (by simp [results, Tryz.results47, go_sem, r0]) rfl ?_
  refine ⟨A', c', fp, rfl, Ow.frame Ho.out fun b hb => heap_setCell_far _ _ _ _ _ ?_, ?_, bset Hb2.out (by omega) _ _⟩
  · have := (Hf.out.2 b hb).1; have := Hsz.out; omega
  · rw [heap_setCell_size]; exact Hf.out.mono (by have := Hsz.out; omega) (by simp)
end Pm
end Go.Proofs.YtdjkdcokjoiokaaGreatDoor

/- The program's reading of pointers. -/
import Derived.Test.YtdjkdcokjoiokaaGreatDoorImE
namespace Go.Proofs.YtdjkdcokjoiokaaGreatDoor
open Go.RowKit
namespace Pm
open Pl (dec dch inR Ptr hole ptrHole ptrOk)
theorem imSplit (s : Str) (w : World) (hs : s.length ≤ 4294967280) (hL : Lt w) :
    Calls Tryz.prog 243 #[.string ⟨s.toArray⟩, .string ⟨#[46]⟩] w fun e w' => ∃ b, e = .returned (.slice (some ⟨b, 0, none⟩) (Pl.cutB 46 s).length (Pl.cutB 46 s).length) ∧ Row w' b ((Pl.cutB 46 s).map vstr).toArray ∧ w.heap.size ≤ b ∧ Below w.heap.size w w' := by
  obtain ⟨m, hm⟩ := hL.maxl
  have h := Pl.split_all 46 s.length s (Nat.le_refl _)
  refine (Tryz.strings_Split (Pl.ba s) (Pl.ba [46]) m w (by rw [Pl.ba_size]; omega) hm (by rw [Pl.ba_size]; simp)).mono fun e w' ⟨he, hw⟩ => ?_
  rw [h.1, List.map_map] at hw
  rw [h.2] at he
  subst hw
  exact ⟨_, he, Row.new _ _ _, Nat.le_refl _, bnew _ _⟩
/-- The cells of a pointer, the first numbers of which are there. -/
def pcells (ns : List Nat) : Array Value := List.toArray (ns.map (fun (n : Nat) => Value.int .i64 (n : Int)) ++ List.replicate (5 - ns.length) (Value.int .i64 0))
theorem pcells_size {ns : List Nat} (h : ns.length ≤ 5) : (pcells ns).size = 5 := by simp [pcells]; omega
theorem pcells_set {ns : List Nat} (n : Nat) (h : ns.length < 5) : (pcells ns).setIfInBounds ns.length (.int .i64 (n : Int)) = pcells (ns ++ [n]) := by
  obtain ⟨m, hm⟩ : ∃ m, 5 - ns.length = m + 1 := ⟨4 - ns.length, by omega⟩
  have hm2 : 5 - (ns ++ [n]).length = m := by simp; omega
  unfold pcells
  rw [hm2, hm, List.setIfInBounds_toArray, List.set_append_right _ _ (by simp)]
  simp [List.replicate_succ]
theorem pcells_at {ns : List Nat} {k : Nat} (h : ns.length ≤ 5) (hk : k < 5) : ∃ v, (pcells ns)[k]? = some v := ⟨_, Array.getElem?_eq_getElem (by rw [pcells_size h]; exact hk)⟩
theorem vstr_at {l : List Str} {k : Nat} (hk : k < l.length) : ((l.map vstr).toArray)[k]? = some (.string ⟨l[k].toArray⟩) := by
  simp [hk, vstr]

set_option maxRecDepth 100000 in
set_option maxHeartbeats 1000000 in
theorem imPtrGet (s : Str) (w : World) (hs : s.length ≤ 4294967280) (hL : Lt w) :
    Calls Tryz.prog 170 #[.string ⟨s.toArray⟩] w (PtrPost s w) := by
  have HL := hid hL
  clear hL
  have Z0 := hid (Row.new w #[.int .i64 0, .int .i64 0, .int .i64 0, .int .i64 0, .int .i64 0] 54)
  have Hb0 := hid (bnew w (.cells #[.int .i64 0, .int .i64 0, .int .i64 0, .int .i64 0, .int .i64 0] 54))
  by_cases h45 : s = [45]
  · subst h45
    go_enter Tryz.func170, Tryz.ntmps170
    go_wp2
    refine bodyPost_ret (v := .tuple #[vptr hole, .bool true]) (by simp [results, Tryz.results170, go_sem, vptr, hole]) rfl ?_
    exact ⟨Or.inl ⟨_, Pl.isPtr_hole, rfl⟩, bnew _ _⟩
  · have h45' : ¬ [45] = s := fun e => h45 e.symm
    have hse : (s == [45]) = false := by rw [beq_eq_false_iff_ne]; exact h45
    have Hcut := hid (fun wx h => imSplit s wx hs h)
    have hcl := hid (cutB_le (b := 46) (s := s) (n := 4294967280) hs)
    have Hnl := hid (Pl.ptr_len h45)
    have Hnn := hid (fun k => Pl.ptr_num (k := k) h45)
    have Hsame := hid (fun p a b c d e => Pl.ptr_same (p := p) (a := a) (b := b) (c := c) (d := d) (e := e) h45)
    have Hne : Hid (s = [] → (Pl.cutB 46 s).length = 1) := hid (by rintro rfl; rfl)
    generalize Pl.cutB 46 s = l at Hcut hcl Hnl Hnn Hsame Hne
    clear h45 h45'
    have B1 := hid (bal Hb0.out (.cells #[.int .i64 0, .int .i64 0, .int .i64 0, .int .i64 0, .int .i64 0] 54))
    have Z1 := hid (Z0.out.alloc (.cells #[.int .i64 0, .int .i64 0, .int .i64 0, .int .i64 0, .int .i64 0] 54))
    have P1 := hid (Row.new (w.alloc (.cells #[.int .i64 0, .int .i64 0, .int .i64 0, .int .i64 0, .int .i64 0] 54)) #[.int .i64 0, .int .i64 0, .int .i64 0, .int .i64 0, .int .i64 0] 54)
    simp only [World.size_alloc] at P1
    clear Z0 Hb0
    go_enter Tryz.func170, Tryz.ntmps170
    go_wp2_with fail
    generalize (w.alloc (.cells #[.int .i64 0, .int .i64 0, .int .i64 0, .int .i64 0, .int .i64 0] 54)).alloc (.cells #[.int .i64 0, .int .i64 0, .int .i64 0, .int .i64 0, .int .i64 0] 54) = W at *
    refine (Hcut.out _ (HL.out.below B1.out)).mono ?_
    rintro e w2 ⟨b, rfl, hl2, hb, hb2⟩
    have Z2 := hid (Z1.out.below hb2); have P2 := hid (P1.out.below hb2); have L2 := hid hl2; have B2 := hid (btr B1.out hb2)
    have hbW := P1.out.lt
    clear hl2 hb2
    go_wp2_with fail
    refine (imParts _ _).mono ?_
    rintro e w3 ⟨g, rfl, hg3, hg, hb3⟩
    have Z3 := hid (Z2.out.below hb3); have P3 := hid (P2.out.below hb3); have L3 := hid (L2.out.below hb3); have G3 := hid hg3; have B3 := hid (btr B2.out hb3)
    have hbl := L2.out.lt
    have hne : w.heap.size + 1 ≠ b ∧ w.heap.size + 1 ≠ g ∧ w.heap.size ≠ b ∧ w.heap.size ≠ g := by omega
    have Hne' := hid hne
    clear hg3 hb3 hne hb hg hbl hbW
    by_cases h5 : l.length = 5
    · have hA : ((l.length : Int) != 5) = false := by rw [bne_eq_false_iff_eq]; omega
      have H5 := hid h5
      go_wp2
      go_loopw [25] (fun kv wr => ∃ (ns : List Nat), ns.length ≤ 5 ∧ kv = .int .i64 (ns.length : Int) ∧ Hid (l.take ns.length = ns.map dec) ∧ Hid (Row wr w.heap.size #[.int .i64 0, .int .i64 0, .int .i64 0, .int .i64 0, .int .i64 0]) ∧ Hid (Row wr (w.heap.size + 1) (pcells ns)) ∧ Hid (Row wr b (l.map vstr).toArray) ∧ Hid (Row wr g #[.pointer (some ⟨w.heap.size + 1, 0, none⟩), .pointer (some ⟨w.heap.size + 1, 1, none⟩), .pointer (some ⟨w.heap.size + 1, 2, none⟩), .pointer (some ⟨w.heap.size + 1, 3, none⟩), .pointer (some ⟨w.heap.size + 1, 4, none⟩)]) ∧ Hid (Below w.heap.size w wr)) (fun kv _ => 5 - (intOf kv).toNat)
      case atStart => exact ⟨[], by simp, rfl, hid rfl, Z3, P3, L3, G3, B3⟩
      case round =>
        obtain ⟨ns, hk, rfl, Hns, Z, Pr, L, G, B⟩ := hrel
        by_cases hlt : ns.length < 5
        · have hltI : (ns.length : Int) < 5 := by omega
          have hll : ns.length < l.length := by omega
          have cl := L.out.get ns.length (vstr_at hll)
          have Hnum := hid (fun w h => imNumGet l[ns.length] w (by have := hcl.out _ (List.getElem_mem hll); unfold big; omega) h)
          have HLr := hid (HL.out.below B.out)
          have Hstep := hid (List.take_succ_eq_append_getElem hll)
          obtain ⟨x, Hx⟩ : ∃ x, Hid (x = l[ns.length]) := ⟨_, hid rfl⟩
          rw [← Hx.out] at cl Hnum Hstep
          cases hg : Pl.numGet x with
          | none =>
            have Hf := hid (Hnn.out ns.length hll (by rw [← Hx.out]; exact hg))
            rw [hg] at Hnum
            clear hg
            go_wp2_with fail
            refine (Hnum.out _ HLr.out).mono ?_
            rintro e w4 ⟨rfl, hb4⟩
            have Z4 := hid (Z.out.below hb4); have B4 := hid (btr B.out hb4)
            unfold optNat
            have r0 := Z4.out.get 0 rfl; have rg0 := Z4.out.free 0; have r1 := Z4.out.get 1 rfl; have rg1 := Z4.out.free 1; have r2 := Z4.out.get 2 rfl; have rg2 := Z4.out.free 2; have r3 := Z4.out.get 3 rfl; have rg3 := Z4.out.free 3; have r4 := Z4.out.get 4 rfl; have rg4 := Z4.out.free 4
            clear cl hb4
            go_wp2
            refine bodyPost_ret (v := .tuple #[vptr hole, .bool false]) (by simp [results, Tryz.results170, go_sem, vptr, hole, r0, r1, r2, r3, r4]) rfl ?_
            exact ⟨Or.inr ⟨Hf.out, rfl⟩, (bset (bset (bset (bset (bset B4.out (Nat.le_refl _) 0 _) (Nat.le_refl _) 1 _) (Nat.le_refl _) 2 _) (Nat.le_refl _) 3 _) (Nat.le_refl _) 4 _)⟩
          | some n =>
            have Hn := hid (Pl.numGet_some hg)
            rw [hg] at Hnum
            clear hg
            go_wp2_with fail
            refine (Hnum.out _ HLr.out).mono ?_
            rintro e w4 ⟨rfl, hb4⟩
            have Z4 := hid (Z.out.below hb4); have B4 := hid (btr B.out hb4); have P4 := hid (Pr.out.below hb4); have G4 := hid (G.out.below hb4); have L4 := hid (L.out.below hb4)
            have cg := G4.out.get ns.length (cells_five hlt)
            obtain ⟨old, hold⟩ := pcells_at hk hlt
            have co := P4.out.get ns.length hold
            have fo := P4.out.free ns.length
            unfold optNat
            clear cl hb4 hold
            go_wp2
            go_roundw
            case rel =>
              refine ⟨ns ++ [n], by simp; omega, by simp, hid ?_, hid (Z4.out.far (by omega) _ _), hid ?_, hid (L4.out.far (fun e => Hne'.out.1 e.symm) _ _), hid (G4.out.far (fun e => Hne'.out.2.1 e.symm) _ _), hid (bset B4.out (by omega) _ _)⟩
              · rw [List.length_append, List.length_singleton, Hstep.out, Hns.out, Hn.out.1, List.map_append]; rfl
              · have := P4.out.set ns.length (.int .i64 (n : Int))
                rw [pcells_set n hlt] at this
                exact this
            case measure => simp only [intOf, List.length_append, List.length_singleton]; omega
        · have hk5 : ns.length = 5 := by omega
          match ns, hk5 with
          | [a1, a2, a3, a4, a5], _ =>
          have hl : l = [dec a1, dec a2, dec a3, dec a4, dec a5] := by
            have h := Hns.out
            rwa [List.take_of_length_le (by rw [h5]; simp)] at h
          have c0 : wr.cell? ⟨w.heap.size + 1, 0, none⟩ = some (.int .i64 (a1 : Int)) := Pr.out.get 0 rfl; have c1 : wr.cell? ⟨w.heap.size + 1, 1, none⟩ = some (.int .i64 (a2 : Int)) := Pr.out.get 1 rfl; have c2 : wr.cell? ⟨w.heap.size + 1, 2, none⟩ = some (.int .i64 (a3 : Int)) := Pr.out.get 2 rfl; have c3 : wr.cell? ⟨w.heap.size + 1, 3, none⟩ = some (.int .i64 (a4 : Int)) := Pr.out.get 3 rfl; have c4 : wr.cell? ⟨w.heap.size + 1, 4, none⟩ = some (.int .i64 (a5 : Int)) := Pr.out.get 4 rfl
          have Hs := hid (fun p => Hsame.out p a1 a2 a3 a4 a5 hl)
          have Hput := hid (fun w h => imPtrPut ⟨a1, a2, a3, a4, a5⟩ w h)
          have Hnil : Hid (s ≠ []) := hid (fun e => by have := Hne.out e; omega)
          have HLr := hid (HL.out.below B.out)
          unfold vptr at Hput
          dsimp only at Hput
          simp only [List.length_cons, List.length_nil, Nat.reduceAdd]
          clear hl Hns hk hlt
          generalize hq : Pl.ptrPut ⟨a1, a2, a3, a4, a5⟩ = t at Hput
          have Hq := hid hq
          clear hq
          by_cases hts : t = s
          · subst hts
            have Hok : Hid (Pl.IsPtr t ⟨a1, a2, a3, a4, a5⟩) := hid ⟨by
              cases ho : ptrOk ⟨a1, a2, a3, a4, a5⟩ with
              | true => rfl
              | false =>
                have h := Hq.out
                unfold Pl.ptrPut at h
                rw [if_neg (by rw [ho]; simp)] at h
                exact absurd h.symm Hnil.out, Hq.out⟩
            go_wp2_with (go_at_call 245; refine (Hput.out _ HLr.out).mono ?_; rintro e w4 ⟨rfl, hb4⟩; have Z4 := hid (Z.out.below hb4); have B4 := hid (btr B.out hb4); have P4 := hid (Pr.out.below hb4); clear c0 c1 c2 c3 c4 hb4; have r0 := Z4.out.get 0 rfl; have rg0 := Z4.out.free 0; have r1 := Z4.out.get 1 rfl; have rg1 := Z4.out.free 1; have r2 := Z4.out.get 2 rfl; have rg2 := Z4.out.free 2; have r3 := Z4.out.get 3 rfl; have rg3 := Z4.out.free 3; have r4 := Z4.out.get 4 rfl; have rg4 := Z4.out.free 4; have d0 : w4.cell? ⟨w.heap.size + 1, 0, none⟩ = some (.int .i64 (a1 : Int)) := P4.out.get 0 rfl; have d1 : w4.cell? ⟨w.heap.size + 1, 1, none⟩ = some (.int .i64 (a2 : Int)) := P4.out.get 1 rfl; have d2 : w4.cell? ⟨w.heap.size + 1, 2, none⟩ = some (.int .i64 (a3 : Int)) := P4.out.get 2 rfl; have d3 : w4.cell? ⟨w.heap.size + 1, 3, none⟩ = some (.int .i64 (a4 : Int)) := P4.out.get 3 rfl; have d4 : w4.cell? ⟨w.heap.size + 1, 4, none⟩ = some (.int .i64 (a5 : Int)) := P4.out.get 4 rfl)
            refine bodyPost_ret (v := .tuple #[vptr ⟨a1, a2, a3, a4, a5⟩, .bool true]) (by simp [results, Tryz.results170, go_sem, vptr, r0, r1, r2, r3, r4]) rfl ?_
            exact ⟨Or.inl ⟨_, Hok.out, rfl⟩, (bset (bset (bset (bset (bset B4.out (Nat.le_refl _) 0 _) (Nat.le_refl _) 1 _) (Nat.le_refl _) 2 _) (Nat.le_refl _) 3 _) (Nat.le_refl _) 4 _)⟩
          · have hts2 : (t == s) = false := by rw [beq_eq_false_iff_ne]; exact hts
            have hts3 : ¬ s = t := fun e => hts e.symm
            have Hf : Hid (∀ p, ¬ Pl.IsPtr s p) := hid (fun p hp => by
              have := Hs.out p hp
              subst this
              exact hts (Hq.out.symm.trans hp.2))
            go_wp2_with (go_at_call 245; refine (Hput.out _ HLr.out).mono ?_; rintro e w4 ⟨rfl, hb4⟩; have Z4 := hid (Z.out.below hb4); have B4 := hid (btr B.out hb4); clear c0 c1 c2 c3 c4 hb4; have r0 := Z4.out.get 0 rfl; have rg0 := Z4.out.free 0; have r1 := Z4.out.get 1 rfl; have rg1 := Z4.out.free 1; have r2 := Z4.out.get 2 rfl; have rg2 := Z4.out.free 2; have r3 := Z4.out.get 3 rfl; have rg3 := Z4.out.free 3; have r4 := Z4.out.get 4 rfl; have rg4 := Z4.out.free 4)
            refine bodyPost_ret (v := .tuple #[vptr hole, .bool false]) (by simp [results, Tryz.results170, go_sem, vptr, hole, r0, r1, r2, r3, r4]) rfl ?_
            exact ⟨Or.inr ⟨Hf.out, rfl⟩, (bset (bset (bset (bset (bset B4.out (Nat.le_refl _) 0 _) (Nat.le_refl _) 1 _) (Nat.le_refl _) 2 _) (Nat.le_refl _) 3 _) (Nat.le_refl _) 4 _)⟩
    · have hA : ((l.length : Int) != 5) = true := by rw [bne_iff_ne]; omega
      have Hf := hid (Hnl.out h5)
      have r0 := Z3.out.get 0 rfl; have rg0 := Z3.out.free 0; have r1 := Z3.out.get 1 rfl; have rg1 := Z3.out.free 1; have r2 := Z3.out.get 2 rfl; have rg2 := Z3.out.free 2; have r3 := Z3.out.get 3 rfl; have rg3 := Z3.out.free 3; have r4 := Z3.out.get 4 rfl; have rg4 := Z3.out.free 4
      clear h5
      go_wp2
      refine bodyPost_ret (v := .tuple #[vptr hole, .bool false]) (by simp [results, Tryz.results170, go_sem, vptr, hole, r0, r1, r2, r3, r4]) rfl ?_
      exact ⟨Or.inr ⟨Hf.out, rfl⟩, (bset (bset (bset (bset (bset B3.out (Nat.le_refl _) 0 _) (Nat.le_refl _) 1 _) (Nat.le_refl _) 2 _) (Nat.le_refl _) 3 _) (Nat.le_refl _) 4 _)⟩
end Pm
end Go.Proofs.YtdjkdcokjoiokaaGreatDoor

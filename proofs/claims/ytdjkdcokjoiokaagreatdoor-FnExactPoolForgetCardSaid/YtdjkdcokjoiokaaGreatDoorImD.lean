/- The program's reading of records. -/
import Derived.Test.YtdjkdcokjoiokaaGreatDoorImC
namespace Go.Proofs.YtdjkdcokjoiokaaGreatDoor
open Go.RowKit
namespace Pm
open Pl (dec dch inR)
def strLen : Value → Nat
  | .string b => b.size
  | _ => 0
theorem below_drewN (w : World) (n : Nat) : Below w.heap.size w (w.drewN n) := ⟨rfl, rfl, rfl, Nat.le_refl _, fun _ _ => rfl⟩
theorem cutHit (a r : Str) (h : (58 : UInt8) ∉ a) (w : World) (hs : (a ++ 58 :: r).length ≤ 4294967280) (hL : Lt w) :
    Calls Tryz.prog 166 #[.string ⟨(a ++ 58 :: r).toArray⟩, .string ⟨#[58]⟩] w fun e w' => e = .returned (.tuple #[.string ⟨a.toArray⟩, .string ⟨r.toArray⟩, .bool true]) ∧ Below w.heap.size w w' := by
  obtain ⟨m, hm⟩ := hL.maxl
  refine (Tryz.strings_Cut ⟨(a ++ 58 :: r).toArray⟩ ⟨#[58]⟩ m w (by rw [ba_len]; omega) hm).mono fun e w' ⟨he, n, hw⟩ => ⟨?_, hw ▸ below_drewN w n⟩
  have hc : Lib.cut (⟨(a ++ 58 :: r).toArray⟩ : ByteArray).data.toList (⟨#[58]⟩ : ByteArray).data.toList = (a, r, true) := by
    have := Pl.cut_hit (r := r) h
    simpa using this
  rw [he, hc]
theorem cutMiss (a : Str) (h : (58 : UInt8) ∉ a) (w : World) (hs : a.length ≤ 4294967280) (hL : Lt w) :
    Calls Tryz.prog 166 #[.string ⟨a.toArray⟩, .string ⟨#[58]⟩] w fun e w' => e = .returned (.tuple #[.string ⟨a.toArray⟩, .string ⟨#[]⟩, .bool false]) ∧ Below w.heap.size w w' := by
  obtain ⟨m, hm⟩ := hL.maxl
  refine (Tryz.strings_Cut ⟨a.toArray⟩ ⟨#[58]⟩ m w (by rw [ba_len]; omega) hm).mono fun e w' ⟨he, n, hw⟩ => ⟨?_, hw ▸ below_drewN w n⟩
  have hc : Lib.cut (⟨a.toArray⟩ : ByteArray).data.toList (⟨#[58]⟩ : ByteArray).data.toList = (a, [], false) := by
    have := Pl.cut_miss h
    simpa using this
  rw [he, hc]
theorem imClone (s : Str) (w : World) (hs : s.length ≤ big) :
    Calls Tryz.prog 167 #[.string ⟨s.toArray⟩] w fun e w' => e = .returned (.string ⟨s.toArray⟩) ∧ Below w.heap.size w w' := by
  have Hc := hid (fun w => Tryz.stringslite_Clone ⟨s.toArray⟩ w (by rw [ba_len]; unfold big at hs; omega))
  go_enter Tryz.func167, Tryz.ntmps167
  go_wp2_with (go_at_call 239; refine (Hc.out _).mono ?_; rintro e w1 ⟨rfl, hb1⟩)
  go_ret
  exact ⟨rfl, hb1⟩
theorem owns_nil {w : World} {base : Nat} {e : TypeId} {size : Nat} : w.ownsRow base e size (.slice none 0 0) 0 [] := ⟨by simp, .inl ⟨rfl, rfl⟩⟩

set_option maxRecDepth 100000 in
set_option maxHeartbeats 1000000 in
theorem imFieldsGet (s : Str) (w : World) (hs : s.length ≤ big) (hL : Lt w) :
    Calls Tryz.prog 101 #[.string ⟨s.toArray⟩] w (RecPost s w) := by
  unfold big at hs
  have HL := hid hL
  clear hL
  by_cases h20 : s.length ≤ 2048
  · have hA : ¬ (2048 : Int) < s.length := by omega
    have H20 := hid h20
    go_enter Tryz.func101, Tryz.ntmps101
    go_wp2
    go_loopw [4, 5] (fun ov rv wr => ∃ (out : List Str) (rest : Str), rv = .string ⟨rest.toArray⟩ ∧ Hid (wr.ownsRow w.heap.size 9 1 ov out.length (out.map vstr)) ∧ Hid (s = Pl.enc out ++ rest) ∧ Hid (∀ x ∈ out, x.length ≤ 2048) ∧ Hid (out.length ≤ 60) ∧ Hid (rest.length ≤ 2048) ∧ Hid (Below w.heap.size w wr)) (fun _ rv _ => strLen rv)
    case atStart => exact ⟨[], s, rfl, hid owns_nil, hid rfl, hid (by simp), hid (by simp), H20, hid (Below.refl _ _)⟩
    case round =>
      obtain ⟨out, rest, rfl, Hown, Ho, Hx, Hlen, Hrl, Hbel⟩ := hrel
      by_cases hr : rest = []
      · subst hr
        have He : Hid (Pl.enc out = s) := hid (by rw [Ho.out]; simp)
        obtain ⟨A, c, hov, hat⟩ := owns_at Hown.out (fun x hx => Nat.le_trans (Hx.out x hx) (by unfold big; omega)) (by have := Hlen.out; unfold big; omega)
        subst hov
        have Hat := hid hat
        clear hat
        go_wp2
        go_ret2
        exact Or.inl ⟨out, A, c, ⟨Hlen.out, H20.out, He.out⟩, owns_cap Hown.out, rfl, Hat.out, Hbel.out⟩
      · have hr1 : rest.isEmpty = false := by simpa using hr
        have hr2 : ¬ ([] : Str) = rest := fun e => hr e.symm
        have hlr := Hrl.out
        by_cases hc : (58 : UInt8) ∈ rest
        · obtain ⟨num, tail, rfl, hn⟩ := Pl.mem_parts hc
          have Hn := hid hn
          have hnl : num.length ≤ 2048 ∧ tail.length ≤ 2048 := by simp only [List.length_append, List.length_cons] at hlr; omega
          have Hc := hid (fun w h => cutHit num tail hn w (by omega) h)
          have Hg := hid (fun w h => imNumGet num w (by unfold big; omega) h)
          clear hc hn
          have hA2 : decide ((out.length : Int) = 60) = decide (out.length = 60) := by
            by_cases h : out.length = 60
            · rw [decide_eq_true h, decide_eq_true (by omega)]
            · rw [decide_eq_false h, decide_eq_false (by omega)]
          cases hg : Pl.numGet num with
          | none =>
            rw [hg] at Hg
            have Hf := hid (Pl.get_num H20.out Ho.out Hn.out (Or.inl hg))
            clear hg hA2
            go_wp2_with (first | (go_at_call 166; refine (Hc.out _ (HL.out.below Hbel.out)).mono ?_; rintro e w1 ⟨rfl, hb1⟩; have Hb1 := hid (btr Hbel.out hb1); clear hb1) | (go_at_call 102; refine (Hg.out _ (HL.out.below Hb1.out)).mono ?_; rintro e w2 ⟨rfl, hb2⟩; have Hb2 := hid (btr Hb1.out hb2); clear hb2; unfold optNat))
            go_ret2
            exact Or.inr ⟨Hf.out, _, _, rfl, Hb2.out⟩
          | some n =>
            rw [hg] at Hg
            have Hgs := hid hg
            clear hg
            by_cases hbig : tail.length < n
            · have Hf := hid (Pl.get_num H20.out Ho.out Hn.out (Or.inr ⟨n, Hgs.out, hbig⟩))
              have hA4 : decide ((n : Int) > tail.length) = true := by rw [decide_eq_true_iff]; omega
              clear hA2
              go_wp2_with (first | (go_at_call 166; refine (Hc.out _ (HL.out.below Hbel.out)).mono ?_; rintro e w1 ⟨rfl, hb1⟩; have Hb1 := hid (btr Hbel.out hb1); clear hb1) | (go_at_call 102; refine (Hg.out _ (HL.out.below Hb1.out)).mono ?_; rintro e w2 ⟨rfl, hb2⟩; have Hb2 := hid (btr Hb1.out hb2); clear hb2; unfold optNat))
              go_ret2
              exact Or.inr ⟨Hf.out, _, _, rfl, Hb2.out⟩
            · have hA4 : decide ((n : Int) > tail.length) = false := by rw [decide_eq_false_iff_not]; omega
              obtain ⟨A, c, hov⟩ := owns_slice Hown.out
              subst hov
              by_cases h60 : out.length = 60
              · have Hf := hid (Pl.get_many Ho.out hr (by omega))
                have hA5 : ((out.length : Int) == 60) = true := by rw [beq_iff_eq]; omega
                clear hA2 h60
                go_wp2_with (first | (go_at_call 166; refine (Hc.out _ (HL.out.below Hbel.out)).mono ?_; rintro e w1 ⟨rfl, hb1⟩; have Hb1 := hid (btr Hbel.out hb1); clear hb1) | (go_at_call 102; refine (Hg.out _ (HL.out.below Hb1.out)).mono ?_; rintro e w2 ⟨rfl, hb2⟩; have Hb2 := hid (btr Hb1.out hb2); clear hb2; unfold optNat))
                go_ret2
                exact Or.inr ⟨Hf.out, _, _, rfl, Hb2.out⟩
              · have hA5 : ((out.length : Int) == 60) = false := by rw [beq_eq_false_iff_ne]; omega
                have Hs := hid (Pl.get_step Ho.out Hgs.out (by omega))
                have hrng : 0 ≤ (n : Int) ∧ (n : Int) ≤ tail.length := by omega
                have Hx3 := hid (ba_extract tail 0 n)
                have Hx4 := hid (ba_extract tail n tail.length)
                rw [List.drop_zero] at Hx3
                rw [List.take_length] at Hx4
                have Hnle := hid (show n ≤ tail.length by omega)
                have Hne60 := hid h60
                clear hA2 h60
                go_wp2_with (first
                  | (go_at_call 166; refine (Hc.out _ (HL.out.below Hbel.out)).mono ?_; rintro e w1 ⟨rfl, hb1⟩; have Hb1 := hid (btr Hbel.out hb1); have Ho1 := hid (owns_below Hown.out hb1); clear hb1)
                  | (go_at_call 102; refine (Hg.out _ (HL.out.below Hb1.out)).mono ?_; rintro e w2 ⟨rfl, hb2⟩; have Hb2 := hid (btr Hb1.out hb2); have Ho2 := hid (owns_below Ho1.out hb2); clear hb2; unfold optNat)
                  | (go_at_call 167; rw [Hx3.out]; refine (imClone (tail.take n) _ (by rw [List.length_take]; unfold big; omega)).mono ?_; rintro e w3 ⟨rfl, hb3⟩; have Hb3 := hid (btr Hb2.out hb3); have Ho3 := hid (owns_below Ho2.out hb3); clear hb3)
                  | (at_builtin; refine wpList_app_str rfl _ _ rfl w.heap.size _ out rfl (Ho3.out.alloc _) _ _ (tail.take n) rfl ?hc (by have := Hlen.out; omega) (Nat.le_trans Hb3.out.size (by simp)) fun v' w' h1 h2 h3 => ?_; case hc => simp))
                go_roundw
                case rel =>
                  refine ⟨out ++ [tail.take n], tail.drop n, by rw [← Hx4.out], hid h1, Hs, hid ?_, hid ?_, hid ?_, hid ((bal Hb3.out _).trans h2)⟩
                  · intro x hx
                    rw [List.mem_append, List.mem_singleton] at hx
                    rcases hx with hx | rfl
                    · exact Hx.out x hx
                    · rw [List.length_take]; omega
                  · have := Hne60.out; have := Hlen.out
                    simp only [List.length_append, List.length_singleton]; omega
                  · rw [List.length_drop]; omega
                case measure =>
                  simp only [strLen]
                  rw [Hx4.out]
                  rw [ba_len, ba_len]
                  simp only [List.length_append, List.length_cons, List.length_drop]; omega
        · have Hf := hid (Pl.get_nocolon Ho.out hr hc)
          have Hc := hid (fun w h => cutMiss rest hc w (by omega) h)
          have Hg := hid (fun w h => imNumGet rest w (by unfold big; omega) h)
          clear hc
          rw [optNat_eq] at Hg
          generalize ((Pl.numGet rest).getD 0) = n1 at *
          generalize ((Pl.numGet rest).isSome) = o1 at *
          go_wp2_with (first | (go_at_call 166; refine (Hc.out _ (HL.out.below Hbel.out)).mono ?_; rintro e w1 ⟨rfl, hb1⟩; have Hb1 := hid (btr Hbel.out hb1); clear hb1) | (go_at_call 102; refine (Hg.out _ (HL.out.below Hb1.out)).mono ?_; rintro e w2 ⟨rfl, hb2⟩; have Hb2 := hid (btr Hb1.out hb2); clear hb2))
          all_goals (go_ret2; exact Or.inr ⟨Hf.out, _, _, rfl, Hb2.out⟩)
  · have hA : (2048 : Int) < s.length := by omega
    have Hr : Hid (∀ l, ¬ Pl.IsRec s l) := hid (fun l hl => h20 hl.2.1)
    go_enter Tryz.func101, Tryz.ntmps101
    go_wp2
    go_ret2
    exact Or.inr ⟨Hr.out, _, _, rfl, Below.refl _ _⟩
end Pm
end Go.Proofs.YtdjkdcokjoiokaaGreatDoor

/- The reference's NumGet, NumPut and FieldsGet. -/
import Derived.Test.YtdjkdcokjoiokaaGreatDoorSpC
import Derived.Test.YtdjkdcokjoiokaaGreatDoorApp
namespace Go.Proofs.YtdjkdcokjoiokaaGreatDoor
open Go.RowKit
namespace Pm
open Pl (dec dch)
/-- A number and whether there is one, as the program hands them back. -/
def optNat : Option Nat → Value
  | some n => .tuple #[.int .i64 (n : Int), .bool true]
  | none => .tuple #[.int .i64 0, .bool false]

set_option maxRecDepth 100000 in
set_option maxHeartbeats 400000 in
theorem spNumGet (s : Str) (w : World) (hs : s.length ≤ big) :
    Calls Tryz.prog 188 #[.string ⟨s.toArray⟩] w fun e w' => e = .returned (optNat (Pl.numGet s)) ∧ w = w' := by
  have HN := hid (Pl.numGet_l1num s)
  have Hc := hid (spL1Num s w hs)
  unfold big at hs
  generalize Pl.l1num s = p at HN Hc
  obtain ⟨n, k⟩ := p
  by_cases h0 : k = 0
  · subst h0
    have Hr : Hid (Pl.numGet s = none) := hid (by rw [HN.out]; simp)
    clear HN
    go_enter Tryz.func188, Tryz.ntmps188
    go_wp2_with (go_at_call 257; refine Hc.out.mono ?_; rintro e w' ⟨rfl, rfl⟩)
    go_ret2
    exact ⟨by rw [Hr.out]; rfl, rfl⟩
  · have hk1 : ((k : Int) == 0) = false := by rw [beq_eq_false_iff_ne]; omega
    by_cases h1 : k = s.length
    · have Hr : Hid (Pl.numGet s = some n) := hid (by rw [HN.out]; simp [h1]; intro e; apply h0; rw [h1, e]; rfl)
      have hk2 : ((k : Int) == s.length) = true := by rw [beq_iff_eq]; omega
      have hk3 : ((k : Int) != s.length) = false := by rw [bne_eq_false_iff_eq]; omega
      clear h0 h1 HN
      go_enter Tryz.func188, Tryz.ntmps188
      go_wp2_with (go_at_call 257; refine Hc.out.mono ?_; rintro e w' ⟨rfl, rfl⟩)
      go_ret2
      exact ⟨by rw [Hr.out]; rfl, rfl⟩
    · have Hr : Hid (Pl.numGet s = none) := hid (by rw [HN.out]; simp [h1])
      have hk2 : ((k : Int) == s.length) = false := by rw [beq_eq_false_iff_ne]; omega
      have hk3 : ((k : Int) != s.length) = true := by rw [bne_iff_ne]; omega
      clear h0 h1 HN
      go_enter Tryz.func188, Tryz.ntmps188
      go_wp2_with (go_at_call 257; refine Hc.out.mono ?_; rintro e w' ⟨rfl, rfl⟩)
      go_ret2
      exact ⟨by rw [Hr.out]; rfl, rfl⟩

set_option maxRecDepth 100000 in
set_option maxHeartbeats 400000 in
theorem spNumPut (n : Int) (w : World) (h0 : 0 ≤ n) (h1 : n ≤ 4294967296) :
    Calls Tryz.prog 329 #[.int .i64 n] w fun e w' => e = .returned (.string ⟨(Pl.numPut n).toArray⟩) ∧ Below w.heap.size w w' := by
  obtain ⟨k, rfl⟩ := Int.eq_ofNat_of_zero_le h0
  generalize hq : Pl.inR (k : Int) 0 999999999 = q
  have Hq := hid hq
  clear hq
  cases q
  · have Hr : Hid (Pl.numPut (k : Int) = []) := hid (by have := Hq.out; simp [Pl.inR] at this; unfold Pl.numPut; rw [if_neg (by omega)])
    go_enter Tryz.func329, Tryz.ntmps329
    go_wp2_with (go_at_call 40; refine (l6In k 0 999999999 _).mono ?_; rintro e w' ⟨rfl, rfl⟩; rw [Hq.out])
    go_ret
    exact ⟨by rw [Hr.out]; rfl, Below.refl _ _⟩
  · have Hr : Hid (Pl.numPut (k : Int) = dec k) := hid (by have := Hq.out; simp [Pl.inR] at this; unfold Pl.numPut; rw [if_pos (by omega)]; simp)
    go_enter Tryz.func329, Tryz.ntmps329
    go_wp2_with (first | (go_at_call 40; refine (l6In k 0 999999999 _).mono ?_; rintro e w' ⟨rfl, rfl⟩; rw [Hq.out]) | (go_at_call 260; refine (l6Dec k _ (by omega)).mono ?_; rintro e w1 ⟨rfl, hb1⟩))
    go_ret
    exact ⟨by rw [Hr.out]; rfl, hb1⟩

/-- What reading a record leaves. -/
def RecPost (s : Str) (w : World) (e : Ending) (w' : World) : Prop :=
  (∃ l A c, Pl.IsRec s l ∧ l.length ≤ c ∧ e = .returned (.tuple #[.slice A l.length c, .bool true]) ∧ At w' w'.heap.size A l ∧ Below w.heap.size w w') ∨
  ((∀ l, ¬ Pl.IsRec s l) ∧ ∃ A c, e = .returned (.tuple #[.slice A 0 c, .bool false]) ∧ Below w.heap.size w w')

set_option maxRecDepth 100000 in
set_option maxHeartbeats 1000000 in
theorem spFieldsGet (s : Str) (w : World) (hs : s.length ≤ big) :
    Calls Tryz.prog 187 #[.string ⟨s.toArray⟩] w (RecPost s w) := by
  unfold big at hs
  by_cases h20 : s.length ≤ 2048
  · have hA : decide ((s.length : Int) ≤ 2048) = true := by rw [decide_eq_true_iff]; omega
    go_enter Tryz.func187, Tryz.ntmps187
    go_wp2
    go_loopw [4, 5] (fun ov av wr => ∃ (k : Nat) (out : List Str), k ≤ s.length ∧ av = .int .i64 k ∧ wr.ownsRow w.heap.size 9 1 ov out.length (out.map vstr) ∧ Hid (s = Pl.enc out ++ s.drop k) ∧ Hid (∀ x ∈ out, x.length ≤ 2048) ∧ out.length ≤ k ∧ Below w.heap.size w wr) (fun _ av _ => s.length - (intOf av).toNat)
    case atStart => exact ⟨0, [], by omega, rfl, owns_new (Nat.le_refl _), hid rfl, hid (by simp), by simp, bnew _ _⟩
    case round =>
      obtain ⟨k, out, hk, rfl, hown, Ho, Hx, hlen, hbel⟩ := hrel
      have Hown := hid hown
      clear hown
      by_cases hlt : k < s.length
      · have hltI : (k : Int) < s.length := by omega
        have Hc := hid (spL1Num (s.drop k) wr (by rw [List.length_drop]; unfold big; omega))
        have Hx2 := hid (ba_extract s k s.length)
        rw [List.take_length] at Hx2
        generalize hq : Pl.l1num (s.drop k) = p at Hc
        obtain ⟨n, m⟩ := p
        have Hq := hid hq
        have hm9 : m ≤ 9 ∧ m ≤ s.length - k := by have := Pl.l1num_le (s.drop k); rw [hq, List.length_drop] at this; exact this
        have hn9 : n < 1000000000 := by have := Pl.l1num_lt (s.drop k); rw [hq] at this; exact this
        clear hq
        have hml := hm9.2
        have hml := hm9.1
        by_cases hm : m = 0
        · subst hm
          have Hf := hid (Pl.read_fail (by omega) hlt Ho.out Hq.out (Or.inl rfl))
          clear Ho
          go_wp2_with (go_at_call 257; rw [Hx2.out]; refine Hc.out.mono ?_; rintro e w1 ⟨rfl, rfl⟩)
          go_ret2
          exact Or.inr ⟨Hf.out, _, _, rfl, bal hbel _⟩
        · have hm1 : ((m : Int) == 0) = false := by rw [beq_eq_false_iff_ne]; omega
          by_cases hge : s.length ≤ k + m
          · have hA2 : decide ((k : Int) + m ≥ s.length) = true := by rw [decide_eq_true_iff]; omega
            have Hf := hid (Pl.read_fail (by omega) hlt Ho.out Hq.out (Or.inr (Or.inl (by rw [List.getElem?_eq_none (by rw [List.length_drop]; omega)]; simp))))
            clear Ho
            go_wp2_with (go_at_call 257; rw [Hx2.out]; refine Hc.out.mono ?_; rintro e w1 ⟨rfl, rfl⟩)
            go_ret2
            exact Or.inr ⟨Hf.out, _, _, rfl, bal hbel _⟩
          · have hA2 : decide ((k : Int) + m ≥ s.length) = false := by rw [decide_eq_false_iff_not]; omega
            obtain ⟨b, hb, hb256, hbat⟩ := byte_at s (k + m) (by omega)
            have hb2 := hbat (by show k + m < s.toArray.size; simp; omega)
            have Hb := hid hb
            clear hb hbat
            have hrng : 0 ≤ (k : Int) + m ∧ (k : Int) + m < s.length := by omega
            have htn : ((k : Int) + m).toNat = k + m := by omega
            have Hdm : Hid ((s.drop k)[m]? = some b) := hid (by rw [List.getElem?_drop, List.getElem?_eq_getElem (by omega), Hb.out])
            by_cases h58 : b = 58
            · have hA3 : (((b.toNat : Nat) : Int) != 58) = false := by rw [h58]; rfl
              rw [h58] at Hdm
              by_cases hbig : s.length - k - m - 1 < n
              · have hA4 : decide ((n : Int) > (s.length : Int) - k - m - 1) = true := by rw [decide_eq_true_iff]; omega
                have Hf := hid (Pl.read_fail (by omega) hlt Ho.out Hq.out (Or.inr (Or.inr (by rw [List.length_drop]; exact hbig))))
                clear Ho
                go_wp2_with (go_at_call 257; rw [Hx2.out]; refine Hc.out.mono ?_; rintro e w1 ⟨rfl, rfl⟩)
                go_ret2
                exact Or.inr ⟨Hf.out, _, _, rfl, bal hbel _⟩
              · have hA4 : decide ((n : Int) > (s.length : Int) - k - m - 1) = false := by rw [decide_eq_false_iff_not]; omega
                have Hs := hid (Pl.read_step Ho.out Hq.out (by omega) Hdm.out (by rw [List.length_drop]; omega))
                have hr1 : 0 ≤ (k : Int) + m + 1 ∧ (k : Int) + m + 1 ≤ (k : Int) + m + 1 + n ∧ (k : Int) + m + 1 + n ≤ s.length := by omega
                have ht1 : ((k : Int) + m + 1).toNat = k + m + 1 := by omega
                have ht2 : ((k : Int) + m + 1 + n).toNat = k + m + 1 + n := by omega
                have Hx3 := hid (ba_extract s (k + m + 1) (k + m + 1 + n))
                rw [List.drop_take, show k + m + 1 + n - (k + m + 1) = n by omega] at Hx3
                clear Ho
                go_wp2_with (first | (go_at_call 257; rw [Hx2.out]; refine Hc.out.mono ?_; rintro e w1 ⟨rfl, rfl⟩) | (at_builtin; refine wpList_app_str rfl _ _ rfl w.heap.size _ out rfl (Hown.out.alloc _) _ _ ((s.drop (k + m + 1)).take n) rfl ?hc (by omega) (Nat.le_trans hbel.size (by simp)) fun v' w' h1 h2 h3 => ?_; case hc => rw [← Hx3.out]; simp))
                go_roundw
                case rel =>
                  refine ⟨k + m + 1 + n, _, by omega, by go_num, h1, hid Hs.out, hid ?_, by simp; omega, (bal hbel _).trans h2⟩
                  intro x hx
                  rw [List.mem_append, List.mem_singleton] at hx
                  rcases hx with hx | rfl
                  · exact Hx.out x hx
                  · rw [List.length_take, List.length_drop]; omega
                case measure => simp only [intOf]; omega
            · have hA3 : (((b.toNat : Nat) : Int) != 58) = true := by rw [bne_iff_ne]; intro e; apply h58; apply UInt8.toNat_inj.1; exact Int.ofNat.inj e
              have Hf := hid (Pl.read_fail (by omega) hlt Ho.out Hq.out (Or.inr (Or.inl (by rw [Hdm.out]; simpa using h58))))
              clear Ho
              go_wp2_with (go_at_call 257; rw [Hx2.out]; refine Hc.out.mono ?_; rintro e w1 ⟨rfl, rfl⟩)
              go_ret2
              exact Or.inr ⟨Hf.out, _, _, rfl, bal hbel _⟩
      · have hks : k = s.length := by omega
        subst hks
        have He : Hid (Pl.enc out = s) := hid (by have h := Ho.out; rw [List.drop_length, List.append_nil] at h; exact h.symm)
        clear Ho
        obtain ⟨A, c, rfl, hat⟩ := owns_at Hown.out (fun x hx => Nat.le_trans (Hx.out x hx) (by unfold big; omega)) (by unfold big; omega)
        have Hc := hid (spFieldsPut A out c wr (by unfold big; omega) hat)
        have Hat := hid hat
        clear hat
        by_cases h60 : out.length ≤ 60
        · have hr : Pl.IsRec s out := ⟨h60, h20, He.out⟩
          rw [Pl.fieldsPut_some.2 hr] at Hc
          have Hr := hid hr
          clear hr
          go_wp2_with (go_at_call 258; refine Hc.out.mono ?_; rintro e w1 ⟨rfl, hb1⟩; unfold optStr)
          go_ret2
          exact Or.inl ⟨out, A, c, Hr.out, owns_cap Hown.out, rfl, Hat.out.up hb1, btr hbel hb1⟩
        · have hr : ∀ l, ¬ Pl.IsRec s l := by
            intro l hl
            rw [Pl.enc_inj (hl.2.2.trans He.out.symm)] at hl
            exact h60 hl.1
          have hn : Pl.fieldsPut out = none := by
            cases hf : Pl.fieldsPut out with
            | none => rfl
            | some t => exact absurd (Pl.fieldsPut_some.1 hf).1 h60
          rw [hn] at Hc
          have Hr := hid hr
          clear hr hn
          go_wp2_with (go_at_call 258; refine Hc.out.mono ?_; rintro e w1 ⟨rfl, hb1⟩; unfold optStr)
          go_ret2
          exact Or.inr ⟨Hr.out, _, _, rfl, bal (btr hbel hb1) _⟩
  · have hA : decide ((s.length : Int) ≤ 2048) = false := by rw [decide_eq_false_iff_not]; omega
    have Hr : Hid (∀ l, ¬ Pl.IsRec s l) := hid (fun l hl => h20 hl.2.1)
    have hne : ¬ ([] : Str) = s := by rintro rfl; simp at h20
    have hne2 : ¬ s = [] := by rintro rfl; simp at h20
    have hne3 : s ≠ [] := hne2
    have he : optStr (Pl.fieldsPut []) = .tuple #[.string ⟨#[]⟩, .bool true] := rfl
    have Hc := hid (fun A c wx => spFieldsPut A [] c wx (Nat.zero_le _) At.nil)
    rw [he] at Hc
    clear he
    go_enter Tryz.func187, Tryz.ntmps187
    go_wp2
    refine wp_loop_rounds 1 ?_
    rw [rounds_succ]
    go_wp2_with (go_at_call 258; refine (Hc.out _ _ _).mono ?_; rintro e w1 ⟨rfl, hb1⟩)
    · go_ret2
      exact Or.inr ⟨Hr.out, _, _, rfl, bal (btr (bnew _ _) hb1) _⟩
    · rename_i h
      exact absurd (by simpa using h) hne2
end Pm
end Go.Proofs.YtdjkdcokjoiokaaGreatDoor

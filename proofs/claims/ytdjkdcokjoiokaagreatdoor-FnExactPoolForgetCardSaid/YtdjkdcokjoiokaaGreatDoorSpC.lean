/- The reference's checksum, and how it reads numerals and records. -/
import Derived.Test.YtdjkdcokjoiokaaGreatDoorSpB
import Derived.Test.YtdjkdcokjoiokaaGreatDoorSpA
namespace Go.Proofs.YtdjkdcokjoiokaaGreatDoor
open Go.RowKit
namespace Pm
open Pl (dec dch)

set_option maxRecDepth 100000 in
set_option maxHeartbeats 400000 in
theorem spSumOf (s : Str) (w : World) (hs : s.length ≤ big) :
    Calls Tryz.prog 291 #[.string ⟨s.toArray⟩] w fun e w' => e = .returned (.int .i64 ((Pl.sumOf s : Nat) : Int)) ∧ w = w' := by
  unfold big at hs
  go_enter Tryz.func291, Tryz.ntmps291
  go_wp2
  go_loop [3, 4, 5] (fun av bv iv => ∃ k a b : Nat, k ≤ s.length ∧ iv = .int .i64 k ∧ av = .int .i64 a ∧ bv = .int .i64 b ∧ Hid ((a, b) = Pl.sum2 (s.take k)) ∧ a < 9973 ∧ b < 9973) (fun _ _ iv => s.length - (intOf iv).toNat)
  case atStart => exact ⟨0, 1, 0, by omega, rfl, rfl, rfl, hid rfl, by omega, by omega⟩
  case round =>
    obtain ⟨k, a, b, hk, rfl, rfl, rfl, Hp, ha, hb⟩ := hrel
    by_cases hlt : k < s.length
    · have hstep : Hid (Pl.sum2 (s.take (k + 1)) = Pl.sumStep (a, b) s[k]) := hid (by rw [List.take_succ_eq_append_getElem hlt, Pl.sum2_snoc, ← Hp.out])
      have hltI : (k : Int) < s.length := by omega
      obtain ⟨c, hc, hc256, hck⟩ := byte_at s k hlt
      rw [← hc] at hstep
      have Hc := hid hc
      clear hc
      go_wp2
      go_round
      case rel =>
        refine ⟨k + 1, (a + c.toNat + 1) % 9973, (b + (a + c.toNat + 1) % 9973) % 9973, by omega, by go_num, ?_, ?_, hid (by rw [hstep.out]; rfl), Nat.mod_lt _ (by omega), Nat.mod_lt _ (by omega)⟩
        · go_num
        · go_num
      case measure => simp [intOf]; omega
    · have hk' : k = s.length := by omega
      subst hk'
      rw [List.take_length] at Hp
      have hf : Hid (Pl.sumOf s = a * 9973 + b) := hid (by unfold Pl.sumOf; rw [← Hp.out])
      go_wp2
      go_ret
      exact ⟨ret_int (by rw [hf.out]; omega), rfl⟩

theorem notDig {s : Str} {k : Nat} {c : UInt8} (hlt : k < s.length) (hc : c = s[k]) (h : c.toNat < 48 ∨ 57 < c.toNat) : ∀ d, s[k]? = some d → Pl.isDig d = false := by
  intro d hd
  rw [List.getElem?_eq_getElem hlt, ← hc] at hd
  injection hd with hd
  rw [← hd]
  rcases Bool.eq_false_or_eq_true (Pl.isDig c) with h' | h'
  · rw [Pl.isDig_iff] at h'; omega
  · exact h'

set_option maxRecDepth 100000 in
set_option maxHeartbeats 800000 in
theorem spL1Num (s : Str) (w : World) (hs : s.length ≤ big) :
    Calls Tryz.prog 257 #[.string ⟨s.toArray⟩] w fun e w' => e = .returned (.tuple #[.int .i64 (((Pl.l1num s).1 : Nat) : Int), .int .i64 (((Pl.l1num s).2 : Nat) : Int)]) ∧ w = w' := by
  unfold big at hs
  go_enter Tryz.func257, Tryz.ntmps257
  go_wp2
  go_loop [4, 5] (fun nv kv => ∃ k n : Nat, k ≤ s.length ∧ k ≤ 9 ∧ kv = .int .i64 k ∧ nv = .int .i64 n ∧ n < 1000000000 ∧ Hid (n = Pl.val (s.take k)) ∧ Hid ((s.take k).all Pl.isDig = true)) (fun _ kv => s.length - (intOf kv).toNat)
  case atStart => exact ⟨0, 0, by omega, by omega, rfl, rfl, by omega, hid rfl, hid rfl⟩
  case round =>
    obtain ⟨k, n, hk, hk9, rfl, rfl, hn, Hn, Ha⟩ := hrel
    have fin : Pl.digs s = s.take k → Hid ((s.take k).length = k ∧ Pl.l1num s = if 1 < k ∧ s.head? = some 48 then (0, 1) else (n, k)) := fun hd => hid (by
      have hl : (s.take k).length = k := by rw [List.length_take]; omega
      refine ⟨hl, ?_⟩
      unfold Pl.l1num
      rw [hd, hl, ← Hn.out])
    by_cases hlt : k < s.length
    · obtain ⟨c, hc, hc256, hck⟩ := byte_at s k hlt
      have Hc := hid hc
      have hltI : (k : Int) < s.length := by omega
      by_cases h9 : k < 9
      · by_cases hlo : 48 ≤ c.toNat
        · by_cases hhi : c.toNat ≤ 57
          · have hdig : Pl.isDig s[k] = true := by rw [← hc, Pl.isDig_iff]; omega
            have hv := Pl.val_take s k hlt
            rw [← Hn.out, ← hc] at hv
            have Hv := hid hv
            have Hal : Hid ((s.take (k + 1)).all Pl.isDig = true) := hid (by rw [List.take_succ_eq_append_getElem hlt, List.all_append, Ha.out]; simp [hdig])
            have hlt9 := Pl.val_lt (s.take (k + 1)) Hal.out
            have hlt10 : Pl.val (s.take (k + 1)) < 1000000000 := Nat.lt_of_lt_of_le hlt9 (Nat.le_trans (Nat.pow_le_pow_right (by omega) (show (s.take (k + 1)).length ≤ 9 by rw [List.length_take]; omega)) (by decide))
            have Hl10 := hid hlt10
            clear hc hv hlt9 fin hdig hlt10
            go_wp2
            go_round
            case rel => exact ⟨k + 1, Pl.val (s.take (k + 1)), by omega, by omega, by go_num, by rw [Hv.out]; unfold Pl.dgt; go_num, Hl10.out, hid rfl, Hal⟩
            case measure => simp [intOf]; omega
          · have hhi' : 57 < c.toNat := by omega
            clear hhi hc
            have Hf := fin (Pl.digs_exit hk Ha.out hk9 (Or.inr (notDig hlt Hc.out (by omega))))
            clear fin
            by_cases h1 : 1 < k
            · obtain ⟨c0, hc0, _, hck0⟩ := byte_at s 0 (by omega)
              have hh : s.head? = some c0 := by rw [hc0]; cases s with | nil => simp at hk; omega | cons a b => rfl
              by_cases hz : c0.toNat = 48
              · have hz' : c0 = 48 := by apply UInt8.toNat_inj.1; rw [hz]; rfl
                have Hr : Hid (Pl.l1num s = (0, 1)) := hid (by rw [Hf.out.2, if_pos ⟨h1, by rw [hh, hz']⟩])
                have hz1 : ((c0.toNat : Int) == 48) = true := by rw [beq_iff_eq]; omega
                have h1I : (1 : Int) < k := by omega
                have h0I : (0 : Int) < s.length := by omega
                clear hh hz' Hf hc0 hz
                go_wp2
                go_ret2
                exact ⟨by rw [Hr.out]; rfl, rfl⟩
              · have hz' : c0 ≠ 48 := by intro e; apply hz; rw [e]; rfl
                have Hr : Hid (Pl.l1num s = (n, k)) := hid (by rw [Hf.out.2, if_neg (by rw [hh]; rintro ⟨_, e⟩; exact hz' (by injection e))])
                have hz1 : ((c0.toNat : Int) == 48) = false := by rw [beq_eq_false_iff_ne]; omega
                have h1I : (1 : Int) < k := by omega
                have h0I : (0 : Int) < s.length := by omega
                clear hh hz' Hf hc0 hz
                go_wp2
                go_ret2
                exact ⟨by rw [Hr.out]; rfl, rfl⟩
            · have Hr : Hid (Pl.l1num s = (n, k)) := hid (by rw [Hf.out.2, if_neg (fun h => h1 h.1)])
              have h1I : ¬ (1 : Int) < k := by omega
              clear Hf
              go_wp2
              go_ret2
              exact ⟨by rw [Hr.out]; rfl, rfl⟩
        · have hlo' : c.toNat < 48 := by omega
          clear hlo hc
          have Hf := fin (Pl.digs_exit hk Ha.out hk9 (Or.inr (notDig hlt Hc.out (by omega))))
          clear fin
          by_cases h1 : 1 < k
          · obtain ⟨c0, hc0, _, hck0⟩ := byte_at s 0 (by omega)
            have hh : s.head? = some c0 := by rw [hc0]; cases s with | nil => simp at hk; omega | cons a b => rfl
            by_cases hz : c0.toNat = 48
            · have hz' : c0 = 48 := by apply UInt8.toNat_inj.1; rw [hz]; rfl
              have Hr : Hid (Pl.l1num s = (0, 1)) := hid (by rw [Hf.out.2, if_pos ⟨h1, by rw [hh, hz']⟩])
              have hz1 : ((c0.toNat : Int) == 48) = true := by rw [beq_iff_eq]; omega
              have h1I : (1 : Int) < k := by omega
              have h0I : (0 : Int) < s.length := by omega
              clear hh hz' Hf hc0 hz
              go_wp2
              go_ret2
              exact ⟨by rw [Hr.out]; rfl, rfl⟩
            · have hz' : c0 ≠ 48 := by intro e; apply hz; rw [e]; rfl
              have Hr : Hid (Pl.l1num s = (n, k)) := hid (by rw [Hf.out.2, if_neg (by rw [hh]; rintro ⟨_, e⟩; exact hz' (by injection e))])
              have hz1 : ((c0.toNat : Int) == 48) = false := by rw [beq_eq_false_iff_ne]; omega
              have h1I : (1 : Int) < k := by omega
              have h0I : (0 : Int) < s.length := by omega
              clear hh hz' Hf hc0 hz
              go_wp2
              go_ret2
              exact ⟨by rw [Hr.out]; rfl, rfl⟩
          · have Hr : Hid (Pl.l1num s = (n, k)) := hid (by rw [Hf.out.2, if_neg (fun h => h1 h.1)])
            have h1I : ¬ (1 : Int) < k := by omega
            clear Hf
            go_wp2
            go_ret2
            exact ⟨by rw [Hr.out]; rfl, rfl⟩
      · have h9' : k = 9 := by omega
        clear hc h9
        have Hk9 := hid h9'
        clear h9'
        have h9I : ¬ (k : Int) < 9 := by have := Hk9.out; omega
        have Hf := fin (Pl.digs_exit hk Ha.out hk9 (Or.inl Hk9.out))
        clear fin
        by_cases h1 : 1 < k
        · obtain ⟨c0, hc0, _, hck0⟩ := byte_at s 0 (by omega)
          have hh : s.head? = some c0 := by rw [hc0]; cases s with | nil => simp at hk; omega | cons a b => rfl
          by_cases hz : c0.toNat = 48
          · have hz' : c0 = 48 := by apply UInt8.toNat_inj.1; rw [hz]; rfl
            have Hr : Hid (Pl.l1num s = (0, 1)) := hid (by rw [Hf.out.2, if_pos ⟨h1, by rw [hh, hz']⟩])
            have hz1 : ((c0.toNat : Int) == 48) = true := by rw [beq_iff_eq]; omega
            have h1I : (1 : Int) < k := by omega
            have h0I : (0 : Int) < s.length := by omega
            clear hh hz' Hf hc0 hz
            go_wp2
            go_ret2
            exact ⟨by rw [Hr.out]; rfl, rfl⟩
          · have hz' : c0 ≠ 48 := by intro e; apply hz; rw [e]; rfl
            have Hr : Hid (Pl.l1num s = (n, k)) := hid (by rw [Hf.out.2, if_neg (by rw [hh]; rintro ⟨_, e⟩; exact hz' (by injection e))])
            have hz1 : ((c0.toNat : Int) == 48) = false := by rw [beq_eq_false_iff_ne]; omega
            have h1I : (1 : Int) < k := by omega
            have h0I : (0 : Int) < s.length := by omega
            clear hh hz' Hf hc0 hz
            go_wp2
            go_ret2
            exact ⟨by rw [Hr.out]; rfl, rfl⟩
        · have Hr : Hid (Pl.l1num s = (n, k)) := hid (by rw [Hf.out.2, if_neg (fun h => h1 h.1)])
          have h1I : ¬ (1 : Int) < k := by omega
          clear Hf
          go_wp2
          go_ret2
          exact ⟨by rw [Hr.out]; rfl, rfl⟩
    · have hlI : ¬ (k : Int) < s.length := by omega
      have Hf := fin (Pl.digs_exit hk Ha.out hk9 (Or.inr (by intro d hd; rw [List.getElem?_eq_none (by omega)] at hd; cases hd)))
      clear fin
      by_cases h1 : 1 < k
      · obtain ⟨c0, hc0, _, hck0⟩ := byte_at s 0 (by omega)
        have hh : s.head? = some c0 := by rw [hc0]; cases s with | nil => simp at hk; omega | cons a b => rfl
        by_cases hz : c0.toNat = 48
        · have hz' : c0 = 48 := by apply UInt8.toNat_inj.1; rw [hz]; rfl
          have Hr : Hid (Pl.l1num s = (0, 1)) := hid (by rw [Hf.out.2, if_pos ⟨h1, by rw [hh, hz']⟩])
          have hz1 : ((c0.toNat : Int) == 48) = true := by rw [beq_iff_eq]; omega
          have h1I : (1 : Int) < k := by omega
          have h0I : (0 : Int) < s.length := by omega
          clear hh hz' Hf hc0 hz
          go_wp2
          go_ret2
          exact ⟨by rw [Hr.out]; rfl, rfl⟩
        · have hz' : c0 ≠ 48 := by intro e; apply hz; rw [e]; rfl
          have Hr : Hid (Pl.l1num s = (n, k)) := hid (by rw [Hf.out.2, if_neg (by rw [hh]; rintro ⟨_, e⟩; exact hz' (by injection e))])
          have hz1 : ((c0.toNat : Int) == 48) = false := by rw [beq_eq_false_iff_ne]; omega
          have h1I : (1 : Int) < k := by omega
          have h0I : (0 : Int) < s.length := by omega
          clear hh hz' Hf hc0 hz
          go_wp2
          go_ret2
          exact ⟨by rw [Hr.out]; rfl, rfl⟩
      · have Hr : Hid (Pl.l1num s = (n, k)) := hid (by rw [Hf.out.2, if_neg (fun h => h1 h.1)])
        have h1I : ¬ (1 : Int) < k := by omega
        clear Hf
        go_wp2
        go_ret2
        exact ⟨by rw [Hr.out]; rfl, rfl⟩
end Pm
end Go.Proofs.YtdjkdcokjoiokaaGreatDoor

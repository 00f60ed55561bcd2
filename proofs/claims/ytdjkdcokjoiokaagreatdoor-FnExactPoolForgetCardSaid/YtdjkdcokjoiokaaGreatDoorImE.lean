/- The program's pointers: the places of the numbers, writing, reading. -/
import Derived.Test.YtdjkdcokjoiokaaGreatDoorImD
import Derived.StillTailTactics
namespace Go.Proofs.YtdjkdcokjoiokaaGreatDoor
open Go.RowKit
namespace Pm
open Pl (dec dch inR Ptr hole ptrHole ptrOk)

set_option maxRecDepth 100000 in
set_option maxHeartbeats 800000 in
theorem imParts (b : Nat) (w : World) :
    Calls Tryz.prog 244 #[.pointer (some ⟨b, 0, none⟩)] w fun e w' => ∃ g, e = .returned (.slice (some ⟨g, 0, none⟩) 5 5) ∧ Row w' g #[.pointer (some ⟨b, 0, none⟩), .pointer (some ⟨b, 1, none⟩), .pointer (some ⟨b, 2, none⟩), .pointer (some ⟨b, 3, none⟩), .pointer (some ⟨b, 4, none⟩)] ∧ w.heap.size ≤ g ∧ Below w.heap.size w w' := by
  go_enter Tryz.func244, Tryz.ntmps244
  go_wp2
  go_still_tail 15, (by kernel_rfl)
  change wpList _ _ _ _ _ w.drew
  go_wp2
  go_ret
  exact ⟨_, rfl, Row.new _ _ _, by simp, bal (bdr (Below.refl _ _)) _⟩

theorem imJoin (A : Option Addr) (l : List Str) (c : Nat) (w : World) (h : At w w.heap.size A l) (hl : 0 < l.length) (hn : l.length ≤ 140737488355328) (hcap : l.length ≤ c) (hlen : (Pl.dots l).length ≤ 140737488355328) :
    Calls Tryz.prog 300 #[.slice A l.length c, .string ⟨#[46]⟩] w fun e w' => e = .returned (.string ⟨(Pl.dots l).toArray⟩) ∧ Below w.heap.size w w' := by
  obtain ⟨b, off, rfl, hb, hc⟩ := at_cells h hl
  have hj := Pl.join_dots l
  have k := Tryz.strings_Join b off c (l.map Pl.ba) (Pl.ba [46]) w (fun j x hx => hc j _ (by
    rw [List.getElem?_map] at hx ⊢
    cases hy : l[j]? with
    | none => rw [hy] at hx; cases hx
    | some y => rw [hy] at hx; simp only [Option.map_some, Option.some.injEq] at hx ⊢; rw [← hx]; rfl)) hb (by rw [List.length_map]; exact hn) (by rw [List.length_map]; exact hcap) (by rw [hj]; exact hlen)
  rw [hj, List.length_map] at k
  exact k
theorem cells_five {b : Nat} {k : Nat} (hk : k < 5) : (#[.pointer (some ⟨b, 0, none⟩), .pointer (some ⟨b, 1, none⟩), .pointer (some ⟨b, 2, none⟩), .pointer (some ⟨b, 3, none⟩), .pointer (some ⟨b, 4, none⟩)] : Array Value)[k]? = some (.pointer (some ⟨b, k, none⟩)) := by
  match k, hk with
  | 0, _ => rfl
  | 1, _ => rfl
  | 2, _ => rfl
  | 3, _ => rfl
  | 4, _ => rfl
/-- The numbers of a pointer. -/
def ptrNums (p : Ptr) : List Int := [p.pat, p.birth, p.size, p.sum, p.level]
theorem cells_nums {p : Ptr} {k : Nat} (hk : k < 5) : (#[.int .i64 p.pat, .int .i64 p.birth, .int .i64 p.size, .int .i64 p.sum, .int .i64 p.level] : Array Value)[k]? = some (.int .i64 ((ptrNums p).getD k 0)) := by
  match k, hk with
  | 0, _ => rfl
  | 1, _ => rfl
  | 2, _ => rfl
  | 3, _ => rfl
  | 4, _ => rfl
def ptrTexts (p : Ptr) : List Str := (ptrNums p).map Pl.numPut
theorem texts_len (p : Ptr) : (ptrTexts p).length = 5 := rfl
theorem texts_get {p : Ptr} {k : Nat} (hk : k < 5) : (ptrTexts p)[k]'(by rw [texts_len]; exact hk) = Pl.numPut ((ptrNums p).getD k 0) := by
  match k, hk with
  | 0, _ => rfl
  | 1, _ => rfl
  | 2, _ => rfl
  | 3, _ => rfl
  | 4, _ => rfl
theorem texts_le (p : Ptr) : ∀ x ∈ ptrTexts p, x.length ≤ 9 := by
  intro x hx
  obtain ⟨n, _, rfl⟩ := List.mem_map.1 hx
  exact numPut_len n
theorem dots_le : ∀ (l : List Str) (m : Nat), (∀ x ∈ l, x.length ≤ m) → (Pl.dots l).length ≤ l.length * (m + 1)
  | [], m, _ => by simp [Pl.dots]
  | [x], m, h => by have := h x List.mem_cons_self; simp [Pl.dots]; omega
  | x :: y :: l, m, h => by
    have ih := dots_le (y :: l) m fun z hz => h z (List.mem_cons_of_mem _ hz)
    have := h x List.mem_cons_self
    have e : Pl.dots (x :: y :: l) = x ++ 46 :: Pl.dots (y :: l) := by simp [Pl.dots]
    rw [e, List.length_append, List.length_cons, List.length_cons, Nat.succ_mul]
    omega
theorem text_ok {p : Ptr} (h1 : ptrOk p = true) (h2 : ptrHole p = false) : Pl.ptrPut p = Pl.dots (ptrTexts p) := by
  obtain ⟨b1, b2, b3, b4, b5⟩ := Pl.ptrOk_bounds h1
  unfold Pl.ptrPut
  rw [if_pos h1, h2]
  simp only [Bool.false_eq_true, if_false, Pl.ptrText, ptrTexts, ptrNums, List.map_cons, List.map_nil]
  rw [(Pl.nine p.pat (by omega) (by omega)).2, (Pl.nine p.birth (by omega) (by omega)).2, (Pl.nine p.size (by omega) (by omega)).2, (Pl.nine p.sum (by omega) (by omega)).2, (Pl.nine p.level (by omega) (by omega)).2]

set_option maxRecDepth 100000 in
set_option maxHeartbeats 1000000 in
theorem imPtrPut (p : Ptr) (w : World) (hL : Lt w) : Calls Tryz.prog 245 #[vptr p] w fun e w' => e = .returned (.string ⟨(Pl.ptrPut p).toArray⟩) ∧ Below w.heap.size w w' := by
  have HL := hid hL
  have Hok := hid (imPtrOk p)
  have Hho := hid (imPtrHole p)
  have R0 := hid (Row.new w #[.int .i64 p.pat, .int .i64 p.birth, .int .i64 p.size, .int .i64 p.sum, .int .i64 p.level] 54)
  have Hb0 := hid (bnew w (.cells #[.int .i64 p.pat, .int .i64 p.birth, .int .i64 p.size, .int .i64 p.sum, .int .i64 p.level] 54))
  clear hL
  unfold vptr at *
  generalize hq1 : ptrOk p = q1 at Hok
  generalize hq2 : ptrHole p = q2 at Hho
  have Hq1 := hid hq1
  have Hq2 := hid hq2
  clear hq1 hq2
  go_enter Tryz.func245, Tryz.ntmps245
  go_wp2_with fail
  generalize w.alloc (.cells #[.int .i64 p.pat, .int .i64 p.birth, .int .i64 p.size, .int .i64 p.sum, .int .i64 p.level] 54) = W at *
  refine (Hok.out _).mono ?_
  rintro e w1 ⟨rfl, hb1⟩
  have R1 := hid (R0.out.below hb1)
  have Hb1 := hid (btr Hb0.out hb1)
  clear hb1
  cases q1
  · have Hr : Hid (Pl.ptrPut p = []) := hid (by unfold Pl.ptrPut; rw [if_neg (by rw [Hq1.out]; simp)])
    go_wp2
    go_ret
    exact ⟨by rw [Hr.out]; rfl, Hb1.out⟩
  · have c0 := R1.out.get 0 rfl; have c1 := R1.out.get 1 rfl; have c2 := R1.out.get 2 rfl; have c3 := R1.out.get 3 rfl; have c4 := R1.out.get 4 rfl
    go_wp2_with fail
    refine (Hho.out _).mono ?_
    rintro e w2 ⟨rfl, hb2⟩
    have R2 := hid (R1.out.below hb2)
    have Hb2 := hid (btr Hb1.out hb2)
    clear hb2 c0 c1 c2 c3 c4
    cases q2
    · have Hr := hid (text_ok Hq1.out Hq2.out)
      go_wp2_with fail
      refine (imParts _ _).mono ?_
      rintro e w3 ⟨g, rfl, hg, hgw, hb3⟩
      have R3 := hid (R2.out.below hb3)
      have Hb3 := hid (btr Hb2.out hb3)
      have G3 := hid hg
      have Hgw := hid (show w.heap.size < g from Nat.lt_of_lt_of_le R2.out.lt hgw)
      clear hg hgw hb3
      go_wp2
      go_loopw [3, 15] (fun ov kv wr => ∃ (k : Nat), k ≤ 5 ∧ kv = .int .i64 k ∧ Hid (wr.ownsRow w3.heap.size 9 1 ov ((ptrTexts p).take k).length (((ptrTexts p).take k).map vstr)) ∧ Hid (Below w3.heap.size w3 wr)) (fun _ kv _ => 5 - (intOf kv).toNat)
      case atStart => exact ⟨0, by omega, rfl, hid owns_nil, hid (Below.refl _ _)⟩
      case round =>
        obtain ⟨k, hk, rfl, Hown, Hbel⟩ := hrel
        by_cases hlt : k < 5
        · have hltI : (k : Int) < 5 := by omega
          have cp := (G3.out.below Hbel.out).get k (cells_five hlt)
          have cn := (R3.out.below Hbel.out).get k (cells_nums hlt)
          have Ht := hid (texts_get (p := p) hlt)
          have Hstep := hid (List.take_succ_eq_append_getElem (l := ptrTexts p) (i := k) (by rw [texts_len]; exact hlt))
          rw [Ht.out] at Hstep
          have Hlen : Hid (((ptrTexts p).take k).length ≤ 5) := hid (by rw [List.length_take, texts_len]; omega)
          generalize (ptrNums p).getD k 0 = n at *
          generalize (ptrTexts p).take k = out at Hown Hstep Hlen
          have HLr := hid (HL.out.below (btr Hb3.out Hbel.out))
          obtain ⟨A, c, hov⟩ := owns_slice Hown.out
          subst hov
          go_wp2_with fail
          refine (imNumPut n _ HLr.out).mono ?_
          rintro e w4 ⟨rfl, hb4⟩
          have Hown4 := hid (owns_below Hown.out hb4)
          have Hbel4 := hid (btr Hbel.out hb4)
          clear hb4 cp cn
          go_wp2_with (at_builtin; refine wpList_app_str rfl _ _ rfl w3.heap.size _ out rfl (Hown4.out.alloc _) _ _ (Pl.numPut n) rfl ?hc (by have := Hlen.out; omega) (Nat.le_trans Hbel4.out.size (by simp)) fun v' w' h1 h2 h3 => ?_; case hc => simp)
          go_roundw
          case rel => exact ⟨k + 1, by omega, by go_num, hid (by rw [Hstep.out]; exact h1), hid ((bal Hbel4.out _).trans h2)⟩
          case measure => simp only [intOf]; omega
        · have hk' : k = 5 := by omega
          subst hk'
          have ht5 : (ptrTexts p).take 5 = ptrTexts p := List.take_of_length_le (by rw [texts_len]; exact Nat.le_refl _)
          rw [ht5] at Hown
          obtain ⟨A, c, hov, hat⟩ := owns_at Hown.out (fun x hx => by have := texts_le p x hx; unfold big; omega) (by rw [texts_len]; unfold big; omega)
          subst hov
          have Hj := hid (imJoin A (ptrTexts p) c wr hat (by rw [texts_len]; omega) (by rw [texts_len]; omega) (owns_cap Hown.out) (by have := dots_le (ptrTexts p) 9 (texts_le p); rw [texts_len] at this; omega))
          clear hat ht5
          go_wp2_with (go_at_call 300; refine Hj.out.mono ?_; rintro e w4 ⟨rfl, hb4⟩)
          go_ret
          exact ⟨by rw [Hr.out]; rfl, btr (btr Hb3.out Hbel.out) hb4⟩
    · have Hr : Hid (Pl.ptrPut p = [45]) := hid (by unfold Pl.ptrPut; rw [if_pos Hq1.out, Hq2.out]; rfl)
      go_wp2
      go_ret
      exact ⟨by rw [Hr.out]; rfl, Hb2.out⟩
end Pm
end Go.Proofs.YtdjkdcokjoiokaaGreatDoor

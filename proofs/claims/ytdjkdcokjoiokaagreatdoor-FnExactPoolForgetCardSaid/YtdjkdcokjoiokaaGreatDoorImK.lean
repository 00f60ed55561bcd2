/- The program's tests of disks. -/
import Derived.Test.YtdjkdcokjoiokaaGreatDoorImJ
namespace Go.Proofs.YtdjkdcokjoiokaaGreatDoor
open Go.RowKit
namespace Pm
open Pl (inR cellOk waitOk diskOk raidOk waits)

/-- slices.ContainsFunc over structs, at a test that reads what a value leads to. -/
theorem contains_at {γ : Type} [Rep γ] {P : Program} {ρ : Go.Shelf.Ren} (L : SlLaysH0.n8 P ρ) (aE : ∀ w, (isAgg (ρ.t 23)).run P w = .ok true w) (zE : ∀ w, (Go.sizeOf (ρ.t 23)).run P w = .ok (Rep.size γ) w) (g : Nat)
    (eg : ∀ args w, (callFunc g args).run P w = .ok (.enter g args) w) (q : γ → Bool) (A : Option Addr) (l : List γ) (c : Nat) (w : World) (h0 : 0 < l.length) (hl : l.length ≤ big) (h : At w w.heap.size A l)
    (hp : ∀ x ∈ l, ∀ cs W, Below w.heap.size w W → Rep.cells W W.heap.size cs x → Calls P g #[.agg cs.toArray] W fun e w' => e = .returned (.bool (q x)) ∧ Below W.heap.size W w') :
    Calls P (ρ.f 8) #[.slice A l.length c, .func (.func g) #[] #[]] w fun e w' => e = .returned (.bool (l.any q)) ∧ Below w.heap.size w w' := by
  obtain ⟨b, off, rfl, hb, hc⟩ := h h0
  let α := { x : List Value × Bool // x.1.length = Rep.size γ ∧ ∀ W, Below w.heap.size w W → Calls P g #[.agg x.1.toArray] W fun e w' => e = .returned (.bool x.2) ∧ Below W.heap.size W w' }
  have mk : ∀ i : Fin l.length, ∃ a : α, a.1.2 = q l[i] ∧ ∀ (j : Nat) (v : Value), a.1.1[j]? = some v → w.cell? ⟨b, off + i * Rep.size γ + j, none⟩ = some v := fun i => by
    obtain ⟨cs, h1, h2⟩ := hc i _ (List.getElem?_eq_getElem i.2)
    exact ⟨⟨(cs, q l[i]), Rep.len h1, fun W hW => hp _ (List.getElem_mem i.2) cs W hW (Rep.up h1 hW)⟩, rfl, h2⟩
  let f : Fin l.length → α := fun i => (mk i).choose
  have hf : ∀ i, (f i).1.2 = q l[i] ∧ ∀ (j : Nat) (v : Value), (f i).1.1[j]? = some v → w.cell? ⟨b, off + i * Rep.size γ + j, none⟩ = some v := fun i => (mk i).choose_spec
  let inst : Inhabited α := ⟨f ⟨0, h0⟩⟩
  have key := @AnyQ.slices_ContainsFunc P ρ α inst L (Rep.size γ) aE zE (fun x => x.1.1) (fun x => x.2.1) (fun x => x.1.2) g #[] eg b off l.length c ((List.finRange l.length).map f) w
    (fun W x hW => by
      have h := (x.2.2 W hW).mono fun e w' hh => (⟨hh.1, hW.trans (hh.2.mono hW.size)⟩ : e = .returned (.bool x.1.2) ∧ Below w.heap.size w w')
      simpa using h) (by simp) (by unfold big at hl; omega) hb (fun j hj i v hi => by
      have hj' : j < l.length := by simpa using hj
      have e : ((List.finRange l.length).map f)[j]! = f ⟨j, hj'⟩ := by
        rw [getElem!_pos _ j hj]; simp
      rw [e] at hi
      exact (hf ⟨j, hj'⟩).2 i v hi)
  have e : (((List.finRange l.length).map f).take l.length).any (fun x => x.1.2) = l.any q := by
    rw [List.take_of_length_le (by simp), List.any_map]
    have : (fun x : α => x.1.2) ∘ f = fun i : Fin l.length => q l[i] := funext fun i => (hf i).1
    rw [this]
    apply Bool.eq_iff_iff.2
    simp only [List.any_eq_true]
    constructor
    · rintro ⟨i, _, hi⟩; exact ⟨_, List.getElem_mem i.2, hi⟩
    · rintro ⟨x, hx, hi⟩
      obtain ⟨i, hi', rfl⟩ := List.getElem_of_mem hx
      exact ⟨⟨i, hi'⟩, List.mem_finRange _, hi⟩
  rw [e] at key
  exact key

set_option maxHeartbeats 400000 in
theorem imNoWaits (A : Option Addr) (c : Nat) (g : Value) (w : World) :
    Calls Tryz.prog 235 #[.slice A 0 c, g] w fun e w' => e = .returned (.bool false) ∧ w = w' := by
  go_enter Tryz.func235, Tryz.ntmps235
  go_wp2
  refine wp_loop_rounds 1 ?_
  rw [rounds_succ]
  go_wp2
  go_ret
  exact ⟨rfl, rfl⟩

set_option maxHeartbeats 400000 in
theorem imWaitBad (x : Wait) (w : World) (hx : x.2.length ≤ big) : Calls Tryz.prog 236 #[.agg #[.int .i64 x.1, vstr x.2]] w fun e w' => e = .returned (.bool (!waitOk x)) ∧ Below w.heap.size w w' := by
  unfold big at hx
  obtain ⟨n, s⟩ := x
  unfold vstr
  dsimp only at *
  generalize hq : inR n 0 63 = q
  have Hq := hid hq
  by_cases h : s.length ≤ 200
  · have h' : decide ((s.length : Int) > 200) = false := by rw [decide_eq_false_iff_not]; omega
    have h'' : decide ((200 : Int) < s.length) = false := h'
    have Hr : Hid ((!waitOk (n, s)) = !q) := hid (by unfold waitOk; simp only; rw [hq, decide_eq_true h]; simp)
    clear hq h
    cases q
    all_goals
      go_enter Tryz.func236, Tryz.ntmps236
      go_wp2_with (go_at_call 237; refine (imCell n _).mono ?_; rintro e w' ⟨rfl, rfl⟩; rw [Hq.out])
      go_ret
      exact ⟨ret_bool Hr.out.symm, bnew _ _⟩
  · have h' : decide ((s.length : Int) > 200) = true := by rw [decide_eq_true_iff]; omega
    have h'' : decide ((200 : Int) < s.length) = true := h'
    have Hr : Hid ((!waitOk (n, s)) = true) := hid (by unfold waitOk; simp only; rw [decide_eq_false h]; simp)
    clear hq h
    cases q
    all_goals
      go_enter Tryz.func236, Tryz.ntmps236
      go_wp2_with (go_at_call 237; refine (imCell n _).mono ?_; rintro e w' ⟨rfl, rfl⟩; rw [Hq.out])
      go_ret
      exact ⟨ret_bool Hr.out.symm, bnew _ _⟩
theorem imWaitsBad (A : Option Addr) (l : List Wait) (c : Nat) (w : World) (hl : l.length ≤ big) (h : At w w.heap.size A l) :
    Calls Tryz.prog 235 #[.slice A l.length c, .func (.func 236) #[] #[]] w fun e w' => e = .returned (.bool (l.any fun x => !waitOk x)) ∧ Below w.heap.size w w' := by
  rcases Nat.eq_zero_or_pos l.length with h0 | h0
  · have : l = [] := List.eq_nil_of_length_eq_zero h0
    subst this
    exact (imNoWaits A c _ w).mono fun e w' ⟨h1, h2⟩ => ⟨h1, h2 ▸ Below.refl _ _⟩
  · exact contains_at (γ := Wait) Tryz.laysContainsFunc_Wait Tryz.isAgg225 Tryz.sizeOf225 _ (enters_of Tryz.func236 (by kernel_rfl) rfl) _ A l c w h0 hl h (fun x hx cs W hW hc => by
      obtain ⟨rfl, _, h2⟩ := wait_cells hc
      exact imWaitBad x W h2)
theorem any_not {α : Type} (l : List α) (p : α → Bool) : (l.any fun x => !p x) = !l.all p := by
  induction l with
  | nil => rfl
  | cons x l ih => rw [List.any_cons, List.all_cons, ih, Bool.not_and]

set_option maxRecDepth 100000 in
set_option maxHeartbeats 1000000 in
theorem imDiskOk (A1 A2 : Option Addr) (c1 c2 : Nat) (d : Disk) (w : World) (hl1 : d.1.length ≤ big) (ha1 : At w w.heap.size A1 d.1) (hl2 : d.2.1.length ≤ big) (ha2 : At w w.heap.size A2 d.2.1) :
    Calls Tryz.prog 164 #[.agg #[.slice A1 d.1.length c1, .slice A2 d.2.1.length c2, .bool d.2.2]] w fun e w' => e = .returned (.bool (diskOk d)) ∧ Below w.heap.size w w' := by
  obtain ⟨l1, l2, g⟩ := d
  simp only at *
  have Hl2 := hid hl2
  unfold big at hl1 hl2
  have HA := hid (bnew w (.cells #[.slice A1 l1.length c1, .slice A2 l2.length c2, .bool g] 90))
  have Ha1 := hid (ha1.up HA.out); have Ha2 := hid (ha2.up HA.out)
  have Hw := hid (fun w h => imWaitsBad A2 l2 c2 w Hl2.out h)
  rw [any_not] at Hw
  clear ha1 ha2
  by_cases h64 : l1.length = 64
  · have h1 : ((l1.length : Int) != 64) = false := by rw [bne_eq_false_iff_eq]; omega
    by_cases h120 : l2.length ≤ 120
    · have h2' : decide ((l2.length : Int) > 120) = false := by rw [decide_eq_false_iff_not]; omega
      have Hd : Hid (diskOk (l1, l2, g) = (l1.all (cellOk g) && (!(g && decide (0 < l2.length))) && l2.all waitOk)) := hid (by simp [diskOk, h64, h120])
      clear h120 h64
      go_enter Tryz.func164, Tryz.ntmps164
      go_wp2
      go_loop [18] (fun iv => ∃ k : Nat, k ≤ l1.length ∧ iv = .int .i64 k ∧ Hid ((l1.take k).all (cellOk g) = true)) (fun iv => l1.length - (intOf iv).toNat)
      case atStart => exact ⟨0, by omega, rfl, hid (by simp)⟩
      case round =>
        obtain ⟨k, hk, rfl, Hk⟩ := hrel
        by_cases hlt : k < l1.length
        · have hltI : (k : Int) < l1.length := by omega
          obtain ⟨b, off, cs, rfl, hb, hc, hv⟩ := Ha1.out.elem hlt
          obtain ⟨x, Hx⟩ : ∃ x, Hid (x = l1[k]) := ⟨l1[k], hid rfl⟩
          rw [← Hx.out] at hc
          obtain ⟨rfl, hs⟩ := str_cells hc
          have e0 := hv 0 _ rfl
          simp only [Rep.size, Nat.add_zero, Nat.mul_one, vstr] at e0
          clear hv hc hb hs
          by_cases hx : x.length ≤ 200
          · have hx' : decide ((x.length : Int) > 200) = false := by rw [decide_eq_false_iff_not]; omega
            cases g
            · have Hs := hid (all_take_step hlt Hk.out (by rw [← Hx.out]; simp [cellOk, hx]))
              clear hx
              go_wp2
              go_round
              case rel => exact ⟨k + 1, by omega, by go_num, Hs⟩
              case measure => simp [intOf]; omega
            · by_cases hxe : x = []
              · subst hxe
                have Hs := hid (all_take_step hlt Hk.out (by rw [← Hx.out]; rfl))
                clear hx
                go_wp2
                go_round
                case rel => exact ⟨k + 1, by omega, by go_num, Hs⟩
                case measure => simp [intOf]; omega
              · have hf := hid (show l1.all (cellOk true) = false from all_take_false hlt (by rw [← Hx.out]; simp [cellOk, hxe]))
                have hx1 : x.isEmpty = false := by simpa using hxe
                have hx2 : ¬ ([] : Str) = x := fun e => hxe e.symm
                clear hx
                go_wp2
                go_ret
                exact ⟨ret_bool (by rw [Hd.out, hf.out]; rfl), HA.out⟩
          · have hx' : decide ((x.length : Int) > 200) = true := by rw [decide_eq_true_iff]; omega
            have hf := hid (show l1.all (cellOk g) = false from all_take_false hlt (by rw [← Hx.out]; simp [cellOk, hx]))
            clear hx
            go_wp2
            go_ret
            exact ⟨ret_bool (by rw [Hd.out, hf.out]; rfl), HA.out⟩
        · have hk' : k = l1.length := by omega
          subst hk'
          rw [List.take_length] at Hk
          generalize hq : l2.all waitOk = q at Hw Hd
          have Hq := hid hq
          clear hq
          cases g
          · have Hr : Hid (diskOk (l1, l2, false) = q) := hid (by rw [Hd.out, Hk.out]; simp)
            go_wp2_with (go_at_call 235; refine (Hw.out _ Ha2.out).mono ?_; rintro e w2 ⟨rfl, hb2⟩)
            go_ret
            exact ⟨ret_bool (by rw [Hr.out]), btr HA.out hb2⟩
          · by_cases h0 : l2 = []
            · have Hr : Hid (diskOk (l1, l2, true) = true) := hid (by rw [Hd.out, Hk.out, ← Hq.out, h0]; simp)
              have hqt : q = true := by rw [← Hq.out, h0]; rfl
              subst hqt
              subst h0
              simp only [List.length_nil] at Hw Ha2 HA
              go_wp2_with (go_at_call 235; refine (Hw.out _ Ha2.out).mono ?_; rintro e w2 ⟨rfl, hb2⟩)
              go_ret
              exact ⟨ret_bool (by rw [Hr.out]), btr HA.out hb2⟩
            · have hp : 0 < l2.length := List.length_pos_iff.2 h0
              have Hr : Hid (diskOk (l1, l2, true) = false) := hid (by rw [Hd.out, Hk.out, decide_eq_true hp]; simp)
              have h3 : decide (0 < l2.length) = true := decide_eq_true hp
              have h4 : decide ((0 : Int) < l2.length) = true := decide_eq_true (by omega)
              clear h0 hp
              go_wp2
              go_ret
              exact ⟨ret_bool (by rw [Hr.out]), HA.out⟩
    · have hf := hid (show diskOk (l1, l2, g) = false by simp [diskOk, h120])
      have h2 : decide ((l2.length : Int) > 120) = true := by rw [decide_eq_true_iff]; omega
      clear h120 h64
      go_enter Tryz.func164, Tryz.ntmps164
      go_wp2
      go_ret
      exact ⟨ret_bool hf.out.symm, HA.out⟩
  · have hf := hid (show diskOk (l1, l2, g) = false by simp [diskOk, h64])
    have h1 : ((l1.length : Int) != 64) = true := by rw [bne_iff_ne]; omega
    clear h64
    go_enter Tryz.func164, Tryz.ntmps164
    go_wp2
    go_ret
    exact ⟨ret_bool hf.out.symm, HA.out⟩
end Pm
end Go.Proofs.YtdjkdcokjoiokaaGreatDoor

/- The program's writing of records, by a strings.Builder. -/
import Derived.Test.YtdjkdcokjoiokaaGreatDoorImB
namespace Go.Proofs.YtdjkdcokjoiokaaGreatDoor
open Go.RowKit
namespace Pm
open Pl (dec dch inR)
theorem ba_below {T e : TypeId} {B b : Nat} {p : Value} {bs : List Value} {w w' : World} (h : Lib.BuilderAt T e B b p bs w) (hb : Below w.heap.size w w') : Lib.BuilderAt T e B b p bs w' := by
  have hlt := h.lt
  obtain ⟨h1, v, h2, h3, h4⟩ := h
  exact ⟨h1, v, (hb.block b hlt).trans h2, owns_below h3 hb, h4⟩
theorem ib_below {T e : TypeId} {B b : Nat} {bs : List Value} {w w' : World} (h : Lib.IsBuilder T e B b bs w) (hb : Below w.heap.size w w') : Lib.IsBuilder T e B b bs w' := by
  rcases h with h | h
  · exact .inl (ba_below h hb)
  · exact .inr (ba_below h hb)
theorem ib_new (w : World) (T e : TypeId) : Lib.IsBuilder T e w.heap.size w.heap.size (Lib.byteCells []) (w.alloc (.cells #[.pointer none, .slice none 0 0] T)) :=
  .inl ⟨Nat.le_refl _, _, heap_alloc_new w _, ⟨rfl, .inl ⟨rfl, rfl⟩⟩, by simp [Value.ownBlock]⟩
theorem cells_str (s : Str) : Lib.strCells ⟨s.toArray⟩ = Lib.byteCells s := by rw [Lib.strCells_eq]
theorem ba_len (s : Str) : (⟨s.toArray⟩ : ByteArray).size = s.length := by show s.toArray.size = _; simp

/-- A builder that holds a text. -/
def Bld (B : Nat) (s : Str) (w : World) : Prop := Lib.IsBuilder 338 5 B B (Lib.byteCells s) w ∧ B < w.heap.size
theorem Bld.below {B : Nat} {s : Str} {w w' : World} (h : Bld B s w) (hb : Below w.heap.size w w') : Bld B s w' := ⟨ib_below h.1 hb, Nat.lt_of_lt_of_le h.2 hb.size⟩
theorem bldNew (w : World) : Bld w.heap.size [] (w.alloc (.cells #[.pointer none, .slice none 0 0] 338)) := ⟨ib_new w _ _, by simp⟩
theorem bldStr {B : Nat} {s : Str} {w : World} (h : Bld B s w) (t : Str) (hlen : s.length + t.length ≤ 140737488355328) :
    Calls Tryz.prog 301 #[.pointer (some ⟨B, 0, none⟩), .string ⟨t.toArray⟩] w fun e w' => e = .returned (.tuple #[.int .i64 t.length, .nilIface]) ∧ Bld B (s ++ t) w' ∧ Below B w w' :=
  (Tryz.Builder_WriteString B B _ ⟨t.toArray⟩ w h.1 (by rw [Lib.byteCells_length, ba_len]; exact hlen) (Nat.le_of_lt h.2)).mono fun e w' ⟨he, h1, h2⟩ =>
    ⟨by rw [he, ba_len], ⟨by rw [Lib.byteCells_append, ← cells_str t]; exact .inr h1, Nat.lt_of_lt_of_le h.2 h2.size⟩, h2⟩
theorem bldByte {B : Nat} {s : Str} {w : World} (h : Bld B s w) (c : UInt8) (hlen : s.length + 1 ≤ 140737488355328) :
    Calls Tryz.prog 302 #[.pointer (some ⟨B, 0, none⟩), .int .u8 c.toNat] w fun e w' => e = .returned .nilIface ∧ Bld B (s ++ [c]) w' ∧ Below B w w' :=
  (Tryz.Builder_WriteByte B B _ c.toNat w h.1 (by rw [Lib.byteCells_length]; exact hlen) (Nat.le_of_lt h.2)).mono fun e w' ⟨he, h1, h2⟩ =>
    ⟨he, ⟨by rw [Lib.byteCells_append]; exact .inr h1, Nat.lt_of_lt_of_le h.2 h2.size⟩, h2⟩
theorem bldLen {B : Nat} {s : Str} {w : World} (h : Bld B s w) :
    Calls Tryz.prog 303 #[.pointer (some ⟨B, 0, none⟩)] w fun e w' => e = .returned (.int .i64 s.length) ∧ w = w' :=
  (Tryz.Builder_Len B B _ w h.1).mono fun e w' ⟨he, h1⟩ => ⟨by rw [he, Lib.byteCells_length], h1.symm⟩
theorem bldText {B : Nat} {s : Str} {w : World} (h : Bld B s w) :
    Calls Tryz.prog 304 #[.pointer (some ⟨B, 0, none⟩)] w fun e w' => e = .returned (.string ⟨s.toArray⟩) ∧ Below B w w' :=
  Tryz.Builder_String_any B B s w h.1 (Nat.le_of_lt h.2)

set_option maxRecDepth 100000 in
set_option maxHeartbeats 800000 in
theorem imFieldsPut (A : Option Addr) (l : List Str) (c : Nat) (w : World) (hl : l.length ≤ big) (h : At w w.heap.size A l) (hx : ∀ x ∈ l, x.length ≤ 4294967296) (hL : Lt w) :
    Calls Tryz.prog 246 #[.slice A l.length c] w fun e w' => e = .returned (optStr (Pl.fieldsPut l)) ∧ Below w.heap.size w w' := by
  unfold big at hl
  have HL := hid hL
  have Hat := hid h
  have Hx := hid hx
  clear hL h hx
  by_cases h60 : l.length ≤ 60
  · have hA : ¬ (60 : Int) < l.length := by omega
    go_enter Tryz.func246, Tryz.ntmps246
    go_wp2
    go_loopw [12] (fun iv wr => ∃ (k : Nat), k ≤ l.length ∧ iv = .int .i64 k ∧ Hid (Bld w.heap.size (Pl.enc (l.take k)) wr) ∧ Hid ((Pl.enc (l.take k)).length ≤ 2048) ∧ Hid (Below w.heap.size w wr)) (fun iv _ => l.length - (intOf iv).toNat)
    case atStart => exact ⟨0, by omega, rfl, hid (bldNew w), hid (by simp [Pl.enc]), hid (bnew _ _)⟩
    case round =>
      obtain ⟨k, hk, rfl, HB, Hlen, Hbel⟩ := hrel
      by_cases hlt : k < l.length
      · have hltI : (k : Int) < l.length := by omega
        obtain ⟨b, off, cs, rfl, hb, hc, hv⟩ := (Hat.out.up Hbel.out).elem hlt
        obtain ⟨x, He⟩ : ∃ x, Hid (x = l[k]) := ⟨l[k], hid rfl⟩
        rw [← He.out] at hc
        obtain ⟨rfl, hs⟩ := str_cells hc
        have e0 := hv 0 _ rfl
        simp only [Rep.size, Nat.add_zero, Nat.mul_one, vstr] at e0
        have hxl : x.length ≤ 4294967296 := by rw [He.out]; exact Hx.out _ (List.getElem_mem hlt)
        have Hdl := hid (Pl.dec_length_le 9 x.length (by omega))
        have Hfin := hid (Pl.enc_take l k hlt)
        rw [← He.out] at Hfin
        clear hv hc hs hb
        generalize Pl.enc (l.take k) = out at HB Hlen Hfin
        go_wp2_with fail
        refine (itoaAt x.length _ (by omega) (HL.out.below Hbel.out)).mono ?_
        rintro e w1 ⟨rfl, hb1⟩
        have HB1 := hid (HB.out.below hb1)
        have Hbel1 := hid (btr Hbel.out hb1)
        clear hb1 e0
        go_wp2_with fail
        refine (bldStr HB1.out _ (by have := Hlen.out; have := Hdl.out; omega)).mono ?_
        rintro e w2 ⟨rfl, hB2, hb2⟩
        have HB2 := hid hB2
        have Hbel2 := hid (Hbel1.out.trans hb2)
        clear hB2 hb2
        go_wp2_with fail
        refine (bldByte HB2.out 58 (by have := Hlen.out; have := Hdl.out; simp only [List.length_append]; omega)).mono ?_
        rintro e w3 ⟨rfl, hB3, hb3⟩
        have HB3 := hid hB3
        have Hbel3 := hid (Hbel2.out.trans hb3)
        clear hB3 hb3
        go_wp2_with fail
        refine (bldStr HB3.out x (by have := Hlen.out; have := Hdl.out; simp only [List.length_append, List.length_singleton]; omega)).mono ?_
        rintro e w4 ⟨rfl, hB4, hb4⟩
        have heq : out ++ dec x.length ++ [58] ++ x = out ++ Pl.item x := by simp [Pl.item]
        rw [heq, ← Hfin.out] at hB4
        have HB4 := hid hB4
        have Hbel4 := hid (Hbel3.out.trans hb4)
        clear hB4 hb4 heq Hfin
        by_cases hlong : 2048 < (Pl.enc (l.take (k + 1))).length
        · have hf := hid (Pl.fieldsPut_long hlong)
          have hlong' : (2048 : Int) < (Pl.enc (l.take (k + 1))).length := by omega
          generalize Pl.enc (l.take (k + 1)) = o2 at *
          go_wp2_with (go_at_call 303; refine (bldLen HB4.out).mono ?_; rintro e w5 ⟨rfl, rfl⟩)
          go_ret2
          exact ⟨by rw [hf.out]; rfl, Hbel4.out⟩
        · have hlong' : ¬ (2048 : Int) < (Pl.enc (l.take (k + 1))).length := by omega
          have Hshort := hid (Nat.le_of_not_lt hlong)
          clear hlong
          generalize ho2 : Pl.enc (l.take (k + 1)) = o2 at HB4 hlong' Hshort
          have Ho2 := hid ho2
          clear ho2
          go_wp2_with (go_at_call 303; refine (bldLen HB4.out).mono ?_; rintro e w5 ⟨rfl, rfl⟩)
          go_roundw
          case rel => exact ⟨k + 1, by omega, by go_num, hid (by rw [Ho2.out]; exact HB4.out), hid (by rw [Ho2.out]; exact Hshort.out), Hbel4⟩
          case measure => simp only [intOf]; omega
      · have hk' : k = l.length := by omega
        subst hk'
        rw [List.take_length] at HB Hlen
        have hf := hid (Pl.fieldsPut_ok h60 Hlen.out)
        go_wp2_with (go_at_call 304; refine (bldText HB.out).mono ?_; rintro e w5 ⟨rfl, hb5⟩)
        go_ret2
        exact ⟨by rw [hf.out]; rfl, Hbel.out.trans hb5⟩
  · have hA : (60 : Int) < l.length := by omega
    have hf := hid (Pl.fieldsPut_many (l := l) (by omega))
    go_enter Tryz.func246, Tryz.ntmps246
    go_wp2
    go_ret2
    exact ⟨by rw [hf.out]; rfl, Below.refl _ _⟩
end Pm
end Go.Proofs.YtdjkdcokjoiokaaGreatDoor

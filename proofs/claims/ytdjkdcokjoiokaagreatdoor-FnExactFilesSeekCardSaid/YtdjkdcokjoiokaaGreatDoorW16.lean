/- Part 16 of seek_card: contracts, walks, laws; no condition beyond the statement's. -/
import Derived.Test.YtdjkdcokjoiokaaGreatDoorW14
import Derived.Test.YtdjkdcokjoiokaaGreatDoorW15
import Derived.MapKept
set_option linter.all false
set_option maxRecDepth 100000
set_option maxHeartbeats 4000000
namespace Go.Proofs.YtdjkdcokjoiokaaGreatDoor
section
open Go.RowKit
namespace Aw
attribute [local irreducible] ASeq ADraw AWP Loc
abbrev dStore (rows : List (List UInt8)) (refs last : List Int) (txg : Int) (gone : List Pl.Ptr) (keep : Int) (dead : List Pl.Ptr) (same : Bool) : D :=
 .agg [dStrs rows, dInts refs, dInts last, dI txg, dPtrs gone, dI keep, dPtrs dead, dB same]
def Pl.rd (rows : List (List UInt8)) (p : Pl.Ptr) : List UInt8 × Bool :=
 if Pl.ptrHole p then ([], true) else if Pl.fits p (rows.getD p.pat.toNat []) then (rows.getD p.pat.toNat [], true) else ([], false)
theorem al7Read (rows : List (List UInt8)) (refs last : List Int) (txg : Int) (gone : List Pl.Ptr) (keep : Int) (dead : List Pl.Ptr) (same : Bool) (p : Pl.Ptr)
 (hs : ∀ s ∈ rows, s.length <= Pm.big) (hp : Pl.ptrHole p = false -> 0 <= p.pat /\ p.pat < rows.length) :
 Pure Tryz.prog 186 [dStore rows refs last txg gone keep dead same, dPtr p] (.tup [dS (Pl.rd rows p).1, dB (Pl.rd rows p).2]) := by
 refine Qbk Tryz.func186 rfl Tryz.ntmps186 Tryz.results186 rfl ?_;simp only [parE, dPtr, Nat.zero_add]
 (refine Qbf (Qbc ?_); (repeat (first | refine e1 (k := ?_) | refine e2 (k := ?_) | fail)); refine Qbd ?_)
 refine Qbg 0 (h := ?_);refine Qbg 1 (h := ?_);cases h1 : Pl.ptrHole p;rotate_left
 ·(repeat' (first | refine e1 (k := ?_) | refine stepS (Qbe Tryz.call123 (h1 ▸ Qcc p) rfl) (k := ?_) | refine Qbd ?_ | refine Qbf ?_ | refine Qbc ?_ | refine Qbl (ht := ?_) | fail))
  all_goals exact Qbn (hx := by simp [Pl.rd, h1])
 ·obtain ⟨h2, h3⟩ := hp h1
  have hlt : p.pat.toNat < rows.length := by omega
  obtain ⟨s, hsd⟩ : ∃ s, s = rows[p.pat.toNat] := ⟨_, rfl⟩;have hr : (rows.map fun s => [dS s])[p.pat.toNat]? = some [dS s] := by rw [List.getElem?_map, List.getElem?_eq_getElem hlt, hsd]; rfl
  have hg : Hid (rows.getD p.pat.toNat [] = s) := by rw [List.getD_eq_getElem?_getD, List.getElem?_eq_getElem hlt, hsd]; rfl
  have hsl : s.length <= Pm.big := hs s (by rw [hsd]; exact List.getElem_mem hlt);clear hsd
  (repeat' (first | refine f1 (k := ?_) | refine e1 (k := ?_) | refine stepS (Qbe Tryz.call123 (h1 ▸ Qcc p) rfl) (k := ?_) | refine stepD (Qbe Tryz.call256 (Qn8 p s hsl) rfl) (k := ?_) | refine stepD (Qbh Ty.h rfl Ty.h rfl rfl rfl h2 hr) (k := ?_) | refine stepS (Qbh Ty.h rfl Ty.h rfl rfl rfl h2 hr) (k := ?_) | refine Qbd ?_ | refine Qbr ?_ | refine Qbf ?_ | refine Qbc ?_ | refine Qb1 follows_mixed (by kernel_rfl) (by kernel_rfl) ?_ | refine Qbm (hf := ?_) | refine Qbo (ht := fun q => ?_) (hf := fun q => ?_) | refine Qbj ?_ | fail))
  all_goals exact Qbn (hx := by simp_all [Pl.rd, hg.out])
abbrev tInts (l : List Int) : D := .sl true 1 (l.map fun n => [dI n])
abbrev tStrs (l : List (List UInt8)) : D := .sl true 1 (l.map fun s => [dS s])
abbrev tPtrs (l : List Pl.Ptr) : D := .sl true 5 (l.map fun p => [dI p.pat, dI p.birth, dI p.size, dI p.sum, dI p.level])
theorem Qj3 (n : Nat) (hn : n <= 16) : Pure Tryz.prog 196 [dI n] (tPtrs (List.replicate n Pl.hole)) := by
 refine Qbk Tryz.func196 rfl Tryz.ntmps196 Tryz.results196 rfl ?_;simp only [parE]
 (repeat' (first | refine e1 (k := ?_) | refine stepS2 (Qcw Ty.h rfl Ty.h rfl rfl rfl (by simp; omega) (by omega)) (k := ?_) | refine Qbd ?_ | refine Qbf ?_ | refine Qbc ?_ | fail))
 refine Qbg 0 (h := ?_);exact Qbn (hx := by simp [Pl.hole])
theorem al2Cut (s : List UInt8) (b : UInt8) (hs : s.length <= 1000000000000) : Pure Tryz.prog 250 [dS s, .v (.int .u8 b.toNat)] (tStrs (Pl.cutB b s)) := by
 have hb256 := UInt8.toNat_lt b;refine Qbk Tryz.func250 rfl Tryz.ntmps250 Tryz.results250 rfl ?_;simp only [parE, Nat.zero_add]
 (repeat' (first | refine e1 (k := ?_) | refine stepS2 (Qbz Ty.h rfl Ty.h) (k := ?_) | refine Qbd ?_ | refine Qbf ?_ | refine Qbc ?_ | refine Qbi ?_ | fail))
 refine Qby (fun m st => ∃ (k f g : Nat) (out : List (List UInt8)), k <= s.length /\ m = s.length - k /\ f <= k /\ Hid (Pl.cutB b s = out ++ Pl.cutB b (s.drop f)) /\ Hid (b ∉ (s.drop f).take (k - f)) /\ out.length <= f /\
  st = ⟨35, [(5, .osl 0 g 0 out.length), (6, .d (dI f)), (7, .d (dI k)), (0, .d (dS s)), (1, .d (.v (.int .u8 b.toNat)))], [.arr g 1 9 (out.map fun s => [dS s])]⟩) [5, 6, 7, 0, 1] 1 s.length ⟨0, 0, 0, [], by omega, rfl, by omega, Pm.hid rfl, Pm.hid (by simp), by simp, rfl⟩ (round := ?_)
 rintro m st ⟨k, f, g, out, hk, rfl, hf, hO, hN, hlen, rfl⟩
 (repeat (first | refine e1 (k := ?_) | refine Qbd ?_ | refine Qbf ?_ | refine Qbc ?_ | fail))
 cases q3 : decide ((k : Int) < (s.length : Int))
 ·have hA : (s.length : Int) <= s.length := by omega
  (repeat' (first | refine e1 (k := ?_) | refine stepS (Qfn rfl rfl rfl (by omega) (by omega)) (k := ?_) | refine QbO Ty.h rfl Ty.h (hb := ?_) (kk := ?_) | refine stepS2 (Qbz Ty.h rfl Ty.h) (k := ?_) | refine Qbd ?_ | refine Qbf ?_ | refine Qbc ?_ | refine Qbm (hf := ?_) | refine Qbq ?_ | fail))
  ·simp; omega
  refine Qbg 0 (h := ?_);simp at q3;have : k = s.length := by omega
  subst this;have h := hN.out;rw [List.take_of_length_le (by simp)] at h;exact Qbn (hx := by rw [hO.out, Pl.Qcx _ _ h]; simp [List.take_of_length_le])
 simp at q3;have q3 : k < s.length := by omega
 obtain ⟨c, hc⟩ : ∃ c, s[k]? = some c := ⟨_, List.getElem?_eq_getElem q3⟩;have hc' : s[(k : Int).toNat]? = some c := hc;have hc2 := Pm.hid hc;clear hc
 (repeat' (first | refine e1 (k := ?_) | refine stepS (Qey rfl rfl rfl rfl (by omega) (by omega) (by omega)) (k := ?_) | refine stepS (QdB Ty.h rfl rfl rfl (by omega) hc') (k := ?_) | refine QbO Ty.h rfl Ty.h (hb := ?_) (kk := ?_) | refine stepS (Qbs rfl rfl (by omega)) (k := ?_) | refine stepS2 (Qbz Ty.h rfl Ty.h) (k := ?_) | refine Qbd ?_ | refine Qbp ?_ | refine Qb0 ?_ | refine Qbf ?_ | refine Qbc ?_ | refine Qbl (ht := ?_) | refine Qbo (ht := fun q => ?_) (hf := fun q => ?_) | refine Qbj ?_ | refine Qbi ?_ | fail))
 ·simp; omega
 ·have h := Pl.Qh8 hf q3 hN.out (by have h := hc2.out; rw [List.getElem?_eq_getElem q3] at h; rw [Option.some.inj h]; exact UInt8.toNat_inj.1 (Int.ofNat.inj (by simpa using q)))
  refine Qbt (s.length - (k + 1)) (by omega) ⟨k + 1, k + 1, g + 1, out ++ [(s.drop f).take (k - f)], by omega, rfl, by omega, Pm.hid (by rw [hO.out, h]; simp), Pm.hid (by simp), by simp; omega, ?_⟩;simp [List.drop_take, go_sem, keepE]
 ·refine Qbt (s.length - (k + 1)) (by omega) ⟨k + 1, f, g, out, by omega, rfl, by omega, hO, Pm.hid (Pl.QeD hf q3 hN.out ?_), hlen, rfl⟩
  have h := hc2.out; rw [List.getElem?_eq_getElem q3] at h; rw [Option.some.inj h]; intro e; subst e; simp at q
noncomputable def Pl.pg (s : List UInt8) : Pl.Ptr × Bool := open Classical in if h : ∃ p, Pl.IsPtr s p then (Classical.choose h, true) else (Pl.hole, false)
theorem pg_is {s : List UInt8} {p : Pl.Ptr} (h : Pl.IsPtr s p) : Pl.pg s = (p, true) := by
 unfold Pl.pg;have hx : ∃ p, Pl.IsPtr s p := ⟨p, h⟩;rw [dif_pos hx, Pl.Qhs (Classical.choose_spec hx) h]
theorem QnE {s : List UInt8} (h : ∀ p, ¬ Pl.IsPtr s p) : Pl.pg s = (Pl.hole, false) := by
 unfold Pl.pg;rw [dif_neg (fun ⟨p, hp⟩ => h p hp)]
theorem aPtrGet (s : List UInt8) (hs : s.length <= 1000000000000) : Pure Tryz.prog 189 [dS s] (.tup [dPtr (Pl.pg s).1, dB (Pl.pg s).2]) := by
 refine Qci (xs := [Pm.vptr (Pl.pg s).1, .bool (Pl.pg s).2]) rfl fun w _ => (Pm.Qm0 s w hs).mono ?_
 rintro e w' ⟨h | h, hb⟩
 ·obtain ⟨p, hp, rfl⟩ := h
  rw [pg_is hp]; exact ⟨rfl, hb⟩
 ·rw [QnE h.1]; exact ⟨h.2, hb⟩
noncomputable def Pl.fan (s : List UInt8) : List Pl.Ptr × Bool :=
 let l := (Pl.cutB 44 s).map Pl.pg
 if l.all (·.2) && (l.length == 4) && l.any (fun q => !Pl.ptrHole q.1) then (l.map (·.1), true) else ([], false)
theorem QdF (b : UInt8) : ∀ (s : List UInt8), (Pl.cutB b s).length <= s.length + 1 /\ ∀ x ∈ Pl.cutB b s, x.length <= s.length
 |[] => by simp [Pl.cutB]
 |c :: s => by
  have ih := QdF b s;unfold Pl.cutB;split
  ·refine ⟨by simp; omega, fun x hx => ?_⟩
   rcases List.mem_cons.1 hx with rfl | hx
   ·simp
   ·have := ih.2 x hx; simp; omega
  ·split
   ·rename_i h t e
    rw [e] at ih;refine ⟨by simp at ih ⊢; omega, fun x hx => ?_⟩;rcases List.mem_cons.1 hx with rfl | hx
    ·have := ih.2 h List.mem_cons_self; simp; omega
    ·have := ih.2 x (List.mem_cons_of_mem _ hx); simp; omega
   ·simp
theorem aFanGet (s : List UInt8) (hs : s.length <= 1000000000000) : Pure Tryz.prog 198 [dS s] (.tup [tPtrs (Pl.fan s).1, dB (Pl.fan s).2]) := by
 refine Qbk Tryz.func198 rfl Tryz.ntmps198 Tryz.results198 rfl ?_;simp only [parE, Nat.zero_add]
 (repeat' (first | refine e1 (k := ?_) | refine stepS (Qbe Tryz.call250 (al2Cut s 44 hs) rfl) (k := ?_) | refine stepS2 (Qbz Ty.h rfl Ty.h) (k := ?_) | refine Qbd ?_ | refine Qbf ?_ | refine Qbc ?_ | refine Qbi ?_ | fail))
 have hW := QdF 44 s;have hfan : Hid (Pl.fan s = if ((Pl.cutB 44 s).map Pl.pg).all (·.2) && (((Pl.cutB 44 s).map Pl.pg).length == 4) && ((Pl.cutB 44 s).map Pl.pg).any (fun q => !Pl.ptrHole q.1) then (((Pl.cutB 44 s).map Pl.pg).map (·.1), true) else ([], false)) := Pm.hid rfl;generalize Pl.cutB 44 s = l at *
 refine Qby (fun m st => ∃ (k g : Nat) (out : List Pl.Ptr) (sm : Bool), k <= l.length /\ m = l.length - k /\ Hid (out = ((l.map Pl.pg).take k).map (·.1)) /\ Hid (((l.map Pl.pg).take k).all (·.2) = true) /\ Hid (sm = ((l.map Pl.pg).take k).any (fun q => !Pl.ptrHole q.1)) /\ out.length = k /\
  st = ⟨49, [(4, .d (tStrs l)), (5, .osl 0 g 0 out.length), (6, .d (dB sm)), (7, .d (dI k))], [.arr g 5 54 (out.map fun p => [dI p.pat, dI p.birth, dI p.size, dI p.sum, dI p.level])]⟩) [4, 5, 6, 7] 1 l.length ⟨0, 0, [], false, by omega, rfl, Pm.hid rfl, Pm.hid (by simp), Pm.hid rfl, rfl, rfl⟩ (round := ?_)
 rintro m st ⟨k, g, out, sm, hk, rfl, hO, hA, hM, hlen, rfl⟩
 (repeat (first | refine e1 (k := ?_) | refine Qbd ?_ | refine Qbf ?_ | refine Qbc ?_ | fail))
 cases q3 : decide ((k : Int) < (l.length : Int))
 ·(repeat' (first | refine e1 (k := ?_) | refine e0 (k := ?_) | refine stepS2 (Qbz Ty.h rfl Ty.h) (k := ?_) | refine Qbd ?_ | refine Qbf ?_ | refine Qbc ?_ | refine Qbl (ht := ?_) | refine Qbm (hf := ?_) | refine Qbo (ht := fun q => ?_) (hf := fun q => ?_) | refine Qbj ?_ | refine Qbq ?_ | ((fail_if_success show ASeq _ _ _ _ ⟨_, (_, .d (.v (.bool true))) :: _, _⟩); (fail_if_success show ASeq _ _ _ _ ⟨_, (_, .d (.v (.bool false))) :: _, _⟩); refine splitS (fun q => ?_) (fun q => ?_))))
  all_goals
   have hk2 : k = l.length := by simp at q3; omega
   rw [hk2, List.take_of_length_le (by simp)] at hO hA hM;have h1 : Pl.fan s = if out.length = 4 /\ sm = true then (out, true) else ([], false) := by rw [hfan.out, hA.out, <- hM.out, <- hO.out, hlen, hk2]; simp
   rw [hlen] at h1;clear hO hA hM hfan
   (first | (refine Qbg 0 (h := ?_); refine Qbn (hx := ?_)) | (refine Qbg 1 (h := ?_); refine Qbn (hx := ?_)))
   simp at q;split at h1 <;> rename_i hc <;> rw [h1]
   ·first
     |simp [List.take_of_length_le]; done
     |(exfalso; obtain ⟨h, h'⟩ := hc; first | omega | (rw [h'] at q; cases q))
   ·first
     |rfl
     |(rename_i q2; simp at q2; exact absurd (And.intro (by omega) q) hc)
 simp at q3;have q3 : k < l.length := by omega
 obtain ⟨x, hx⟩ : ∃ x, l[k]? = some x := ⟨_, List.getElem?_eq_getElem q3⟩;have hr := Qbx (f := fun s => [dS s]) hx;have hx3 : x.length <= 1000000000000 := by have := hW.2 x (List.mem_of_getElem? hx); omega
 obtain ⟨p, ok, hp⟩ : ∃ p ok, Pl.pg x = (p, ok) := ⟨_, _, rfl⟩;have hg := aPtrGet x hx3;rw [hp] at hg;have hl : (l.map Pl.pg)[k]? = some (p, ok) := by rw [List.getElem?_map, hx]; simp [hp]
 have hst : (l.map Pl.pg).take (k + 1) = (l.map Pl.pg).take k ++ [(p, ok)] := by rw [List.take_add_one, hl]; rfl
 have F : Hid (ok = false -> Pl.fan s = ([], false)) := fun e => by
  rw [hfan.out, if_neg]
  have : (l.map Pl.pg).all (·.2) = false := by
   rw [List.all_eq_false]; exact ⟨_, List.mem_of_getElem? hl, by simp [e]⟩
  simp [this]
 have hst2 := Pm.hid hst;clear hx hp hl hst
 (repeat' (first | refine e1 (k := ?_) | refine e0 (k := ?_) | refine stepS (Qbe Tryz.call189 hg rfl) (k := ?_) | refine stepS (Qbe Tryz.call123 (Qcc p) rfl) (k := ?_) | refine stepS (Qbh Ty.h rfl Ty.h rfl rfl rfl (by omega) hr) (k := ?_) | refine QbO Ty.h rfl Ty.h (hb := ?_) (kk := ?_) | refine stepS (Qbs rfl rfl (by omega)) (k := ?_) | refine stepS2 (Qbz Ty.h rfl Ty.h) (k := ?_) | refine Qbu (kk := ?_) | refine Qbd ?_ | refine Qbp ?_ | refine Qb0 ?_ | refine Qbf ?_ | refine Qbc ?_ | refine Qbl (ht := ?_) | refine Qbo (ht := fun q => ?_) (hf := fun q => ?_) | refine Qbj ?_ | refine Qbi ?_ | refine e2 (k := ?_) | ((fail_if_success show ASeq _ _ _ _ ⟨_, (_, .d (.v (.bool true))) :: _, _⟩); (fail_if_success show ASeq _ _ _ _ ⟨_, (_, .d (.v (.bool false))) :: _, _⟩); refine splitS (fun q => ?_) (fun q => ?_))))
 ·(refine Qbg 2 (h := ?_); refine Qbn (hx := ?_))
  rw [F.out (by simpa using q)]; rfl
 ·simp; omega
 ·refine Qbt (l.length - (k + 1)) (by omega) ⟨k + 1, g + 1, out ++ [p], true, by omega, rfl, Pm.hid (by rw [hst2.out, hO.out]; simp), Pm.hid (by rw [hst2.out, List.all_append, hA.out]; simp_all), Pm.hid (by rw [hst2.out, List.any_append, <- hM.out]; simp_all), by simp [hlen], ?_⟩
  simp [go_sem, keepE]
 ·simp; omega
 ·refine Qbt (l.length - (k + 1)) (by omega) ⟨k + 1, g + 1, out ++ [p], !Pl.ptrHole p, by omega, rfl, Pm.hid (by rw [hst2.out, hO.out]; simp), Pm.hid (by rw [hst2.out, List.all_append, hA.out]; simp_all), Pm.hid (by rw [hst2.out, List.any_append, <- hM.out]; simp_all), by simp [hlen], ?_⟩
  simp [go_sem, keepE]
abbrev dSt (s : Pm.Store) : D := .agg [dStrs s.1, dInts s.2.1.1, dInts s.2.1.2, dI s.2.2.1, dPtrs s.2.2.2.1, dI s.2.2.2.2.1, dPtrs s.2.2.2.2.2.1, dB s.2.2.2.2.2.2]
structure Pl.Good (s : Pm.Store) : Prop where
 many : s.1.length = 64
 row : ∀ r ∈ s.1, r.length <= 128
theorem Qdi {p : Pl.Ptr} (h : Pl.ptrOk p = true) (h2 : Pl.ptrHole p = false) : 0 <= p.pat /\ p.pat < 64 := by
 simp [Pl.ptrOk, h2, Pl.rowOk] at h; omega
theorem al7R (s : Pm.Store) (hg : Pl.Good s) (p : Pl.Ptr) (hp : Pl.ptrHole p = false -> Pl.ptrOk p = true) : Pure Tryz.prog 186 [dSt s, dPtr p] (.tup [dS (Pl.rd s.1 p).1, dB (Pl.rd s.1 p).2]) :=
 al7Read _ _ _ _ _ _ _ _ p (fun r hr => by have := hg.row r hr; unfold Pm.big; omega) fun h => by have := Qdi (hp h) h; rw [hg.many]; exact this
theorem QfF (s : Pm.Store) (hg : Pl.Good s) (p : Pl.Ptr) : (Pl.rd s.1 p).1.length <= 128 := by
 unfold Pl.rd;split
 ·simp
 ·split
  ·simp only
   rw [List.getD_eq_getElem?_getD];cases h : s.1[p.pat.toNat]? with
   |none => simp
   |some r => exact hg.row r (List.mem_of_getElem? h)
  ·simp
noncomputable def Pl.Qan (s : Pm.Store) (p : Pl.Ptr) (level : Int) : List Pl.Ptr × Bool :=
 if Pl.ptrHole p then (List.replicate 4 Pl.hole, true) else
 if Pl.ptrOk p && (p.level == level) && decide (p.birth <= s.2.2.1) && (Pl.rd s.1 p).2 then
  if (Pl.fan (Pl.rd s.1 p).1).1.any (fun q => decide (p.birth < q.birth)) then ([], false) else Pl.fan (Pl.rd s.1 p).1
 else ([], false)
theorem Qiy (s : List UInt8) : (Pl.fan s).1.length <= 4 := by
 unfold Pl.fan;simp only;split
 ·rename_i h; simp at h; simp [h.1.2]
 ·simp
theorem Qnx (s : Pm.Store) (hg : Pl.Good s) (p : Pl.Ptr) (level : Int) : Pure Tryz.prog 124 [dSt s, dPtr p, dI level] (.tup [tPtrs (Pl.Qan s p level).1, dB (Pl.Qan s p level).2]) := by
 (refine Qbk Tryz.func124 rfl Tryz.ntmps124 Tryz.results124 rfl ?_; simp only [parE, Nat.zero_add, Nat.reduceAdd])
 (refine Qbf (Qbc ?_); (repeat (first | refine e1 (k := ?_) | refine e2 (k := ?_) | fail)); refine Qbd ?_)
 refine Qbg 0 (h := ?_);refine Qbg 1 (h := ?_);cases h1 : Pl.ptrHole p;rotate_left
 ·(repeat' (first | refine e1 (k := ?_) | refine stepS (Qbe Tryz.call123 (h1 ▸ Qcc p) rfl) (k := ?_) | refine stepS (Qbe Tryz.call196 (Qj3 4 (by omega)) rfl) (k := ?_) | refine Qbd ?_ | refine Qbf ?_ | refine Qbc ?_ | refine Qbl (ht := ?_) | fail))
  exact Qbn (hx := by simp [Pl.Qan, h1])
 cases h2 : Pl.ptrOk p
 ·(repeat' (first | refine e1 (k := ?_) | refine e0 (k := ?_) | refine stepS (Qbe Tryz.call123 (h1 ▸ Qcc p) rfl) (k := ?_) | refine stepS (Qbe Tryz.call197 (h2 ▸ aPtrOk p) rfl) (k := ?_) | refine stepS2 (Qbz Ty.h rfl Ty.h) (k := ?_) | refine Qbd ?_ | refine Qbf ?_ | refine Qbc ?_ | refine Qbl (ht := ?_) | refine Qbm (hf := ?_) | refine Qbj ?_ | fail))
  (refine Qbg 2 (h := ?_); refine Qbn (hx := ?_))
  simp [Pl.Qan, h1, h2]
 have c3 := al7R s hg p fun _ => h2
 have hlen := QfF s hg p
 have hB : Hid (Pl.Qan s p level = if (p.level == level) && decide (p.birth <= s.2.2.1) && (Pl.rd s.1 p).2 then
  if (Pl.fan (Pl.rd s.1 p).1).1.any (fun q => decide (p.birth < q.birth)) then ([], false) else Pl.fan (Pl.rd s.1 p).1 else ([], false)) := Pm.hid (by simp [Pl.Qan, h1, h2])
 generalize Pl.rd s.1 p = tb at *
 obtain ⟨text, ok⟩ := tb;have c4 := aFanGet text (by simp only at hlen; omega);have hfl := Qiy text;simp only at hB;generalize Pl.fan text = fb at *
 obtain ⟨l, fine⟩ := fb;simp only at hfl hlen
 (repeat' (first | refine e1 (k := ?_) | refine e0 (k := ?_) | refine stepS (Qbe Tryz.call123 (h1 ▸ Qcc p) rfl) (k := ?_) | refine stepS (Qbe Tryz.call197 (h2 ▸ aPtrOk p) rfl) (k := ?_) | refine stepS (Qbe Tryz.call186 c3 rfl) (k := ?_) | refine stepS (Qbe Tryz.call198 c4 rfl) (k := ?_) | refine stepS2 (Qbz Ty.h rfl Ty.h) (k := ?_) | refine Qbd ?_ | refine Qbf ?_ | refine Qbc ?_ | refine Qbl (ht := ?_) | refine Qbm (hf := ?_) | refine Qbo (ht := fun q => ?_) (hf := fun q => ?_) | refine Qbj ?_ | refine Qbi ?_ | ((fail_if_success show ASeq _ _ _ _ ⟨_, (_, .d (.v (.bool true))) :: _, _⟩); (fail_if_success show ASeq _ _ _ _ ⟨_, (_, .d (.v (.bool false))) :: _, _⟩); refine splitS (fun q => ?_) (fun q => ?_))))
 ·(refine Qbg 2 (h := ?_); refine Qbn (hx := ?_))
  rw [hB.out, if_neg (by simp at q; simp [q])] <;> rfl
 ·(refine Qbg 2 (h := ?_); refine Qbn (hx := ?_))
  rw [hB.out, if_neg (by simp at q; simp; intro _ _; omega)] <;> rfl
 ·(refine Qbg 2 (h := ?_); refine Qbn (hx := ?_))
  rw [hB.out, if_neg (by simp at q; simp [q])] <;> rfl
 rename_i q1 q2
 refine Qby (fun m st => ∃ k : Nat, k <= l.length /\ m = l.length - k /\ Hid ((l.take k).any (fun q => decide (p.birth < q.birth)) = false) /\
  st = ⟨64, [(10, .d (tPtrs l)), (11, .d (dB fine)), (12, .d (dI k)), (4, .d (.pd [dI p.pat, dI p.birth, dI p.size, dI p.sum, dI p.level]))], []⟩) [10, 11, 12, 4] 0 l.length ⟨0, by omega, rfl, Pm.hid rfl, rfl⟩ (round := ?_)
 rintro m st ⟨k, hk, rfl, hF, rfl⟩
 (repeat (first | refine e1 (k := ?_) | refine Qbd ?_ | refine Qbf ?_ | refine Qbc ?_ | fail))
 have hC : ((p.level == level) && decide (p.birth <= s.2.2.1) && ok) = true := by simp at q q1 q2; simp [q, q2]; omega
 rw [if_pos hC] at hB;cases q3 : decide ((k : Int) < (l.length : Int))
 ·(repeat' (first | refine e1 (k := ?_) | refine Qbd ?_ | refine Qbf ?_ | refine Qbc ?_ | refine Qbm (hf := ?_) | refine Qbq ?_ | fail))
  refine Qbn (hx := ?_);have : k = l.length := by simp at q3; omega
  have h := hF.out;rw [this, List.take_of_length_le (Nat.le_refl _)] at h;rw [hB.out, if_neg (by simp [h])] <;> rfl
 have hk2 : k < l.length := by simp at q3; omega
 obtain ⟨x, hx⟩ : ∃ x, l[k]? = some x := ⟨_, List.getElem?_eq_getElem hk2⟩;have hr := Qbx (f := fun p : Pl.Ptr => [dI p.pat, dI p.birth, dI p.size, dI p.sum, dI p.level]) hx;have T : Hid ((l.take (k + 1)).any (fun q => decide (p.birth < q.birth)) = decide (p.birth < x.birth)) := Pm.hid (by rw [List.take_add_one, hx, List.any_append, hF.out]; simp)
 have F : Hid (p.birth < x.birth -> Pl.Qan s p level = ([], false)) := fun e => by
  rw [hB.out, if_pos];rw [List.any_eq_true]; exact ⟨x, List.mem_of_getElem? hx, by simpa using e⟩
 clear hx
 (repeat' (first | refine f1 (k := ?_) | refine e1 (k := ?_) | refine stepD (Qbh Ty.h rfl Ty.h rfl rfl rfl (by omega) hr) (k := ?_) | refine stepS (Qbs rfl rfl (by omega)) (k := ?_) | refine stepS2 (Qbz Ty.h rfl Ty.h) (k := ?_) | refine Qbd ?_ | refine Qbp ?_ | refine Qbr ?_ | refine Qbf ?_ | refine Qbc ?_ | refine Qb1 follows_mixed (by kernel_rfl) (by kernel_rfl) ?_ | refine Qbl (ht := ?_) | refine Qbo (ht := fun q => ?_) (hf := fun q => ?_) | refine Qbj ?_ | refine Qbi ?_ | fail))
 ·(refine Qbg 0 (h := ?_); refine Qbn (hx := ?_))
  rw [F.out (by simpa using q)] <;> rfl
 ·exact Qbt (l.length - (k + 1)) (by omega) ⟨k + 1, by omega, rfl, Pm.hid (T.out.trans q), rfl⟩
theorem Qj4 (n : Int) : Pure Tryz.prog 210 [dI n] (dI (if n <= 1 then 0 else if n <= 4 then 1 else 2)) := by
 (refine Qbk Tryz.func210 rfl Tryz.ntmps210 Tryz.results210 rfl ?_; simp only [parE, Nat.zero_add, Nat.reduceAdd])
 (repeat' (first | refine e1 (k := ?_) | refine Qbd ?_ | refine Qbf ?_ | refine Qbc ?_ | refine Qbo (ht := fun q => ?_) (hf := fun q => ?_) | refine Qbj ?_ | refine Qbi ?_ | fail))
 all_goals exact Qbn (hx := congrArg dI (by simp at *; split <;> (try split) <;> omega))
abbrev rPtr (p : Pl.Ptr) : List D := [dI p.pat, dI p.birth, dI p.size, dI p.sum, dI p.level]
abbrev dTree (t : Pl.Tree) : D := .agg [dI t.root.pat, dI t.root.birth, dI t.root.size, dI t.root.sum, dI t.root.level, dI t.depth, dI t.many]
theorem Qd8 (l : List Pl.Ptr) : ∀ r ∈ l.map rPtr, ∀ d ∈ r, d.cell = true := by
 intro r hr d hd;obtain ⟨p, _, rfl⟩ := List.mem_map.1 hr;simp at hd;rcases hd with rfl | rfl | rfl | rfl | rfl <;> rfl
noncomputable def Pl.lvl (s : Pm.Store) : Nat -> List Pl.Ptr -> List Pl.Ptr × Bool
 |0, l => (l, true)
 |n + 1, l => if l.all (fun p => (Pl.Qan s p (n + 1 : Nat)).2) then Pl.lvl s n (l.flatMap fun p => (Pl.Qan s p (n + 1 : Nat)).1) else ([], false)
noncomputable def Pl.Qal (s : Pm.Store) (t : Pl.Tree) : List Pl.Ptr × Bool := Pl.lvl s t.depth.toNat [t.root]
theorem QhG (s : Pm.Store) (p : Pl.Ptr) (n : Int) : (Pl.Qan s p n).1.length <= 4 := by
 unfold Pl.Qan;split
 ·simp
 ·split
  ·split
   ·simp
   ·exact Qiy _
  ·simp
theorem flat_len (f : Pl.Ptr -> List Pl.Ptr) (hf : ∀ p, (f p).length <= 4) : ∀ l : List Pl.Ptr, (l.flatMap f).length <= l.length * 4
 |[] => by simp
 |p :: l => by have := flat_len f hf l; have := hf p; rw [List.flatMap_cons, List.length_append, List.length_cons]; omega
theorem Qll (s : Pm.Store) : ∀ (n : Nat) (l : List Pl.Ptr), (Pl.lvl s n l).1.length <= l.length * 4 ^ n
 |0, l => by simp [Pl.lvl]
 |n + 1, l => by
  unfold Pl.lvl;split
  ·refine Nat.le_trans (Qll s n _) ?_
   have := flat_len (fun p => (Pl.Qan s p (n + 1 : Nat)).1) (fun p => QhG s p _) l
   calc _ <= l.length * 4 * 4 ^ n := Nat.mul_le_mul_right _ this
    _ = l.length * 4 ^ (n + 1) := by rw [Nat.pow_succ]; rw [Nat.mul_assoc, Nat.mul_comm 4]
  ·simp
theorem QhM (s : Pm.Store) (hg : Pl.Good s) (t : Pl.Tree) (h0 : 0 <= t.depth) (h2 : t.depth <= 2) : Pure Tryz.prog 211 [dSt s, dTree t] (.tup [tPtrs (Pl.Qal s t).1, dB (Pl.Qal s t).2]) := by
 have hlv : Hid (Pl.Qal s t = Pl.lvl s t.depth.toNat [t.root]) := Pm.hid rfl;obtain ⟨root, depth, many⟩ := t;simp only at h0 h2 hlv;obtain ⟨n0, rfl⟩ : ∃ n0 : Nat, depth = n0 := ⟨depth.toNat, by omega⟩;have hn0 : n0 <= 2 := by omega
 simp only [Int.toNat_natCast] at hlv
 (refine Qbk Tryz.func211 rfl Tryz.ntmps211 Tryz.results211 rfl ?_; simp only [parE, Nat.zero_add, Nat.reduceAdd])
 (refine Qbf (Qbc ?_); (repeat (first | refine e1 (k := ?_) | refine e2 (k := ?_) | fail)); refine Qbd ?_)
 refine Qbg 0 (h := ?_);refine Qbg 1 (h := ?_)
 (repeat' (first | refine e1 (k := ?_) | refine stepS2 (Qbz Ty.h rfl Ty.h) (k := ?_) | refine Qbd ?_ | refine Qbf ?_ | refine Qbc ?_ | refine Qbi ?_ | fail))
 refine Qbg 2 (h := ?_)
 refine Qby (fun m st => ∃ (n : Nat) (l : List Pl.Ptr), n <= 2 /\ m = n /\ l.length <= 4 ^ (2 - n) /\ Hid (Pl.Qal s ⟨root, n0, many⟩ = Pl.lvl s n l) /\
  st = ⟨46, [(6, .d (tPtrs l)), (7, .d (dI n)), (2, .d (.pd [dStrs s.1, dInts s.2.1.1, dInts s.2.1.2, dI s.2.2.1, dPtrs s.2.2.2.1, dI s.2.2.2.2.1, dPtrs s.2.2.2.2.2.1, dB s.2.2.2.2.2.2]))], []⟩) [6, 7, 2] 0 n0 ⟨n0, [root], hn0, rfl, Nat.one_le_pow _ _ (by omega), hlv, rfl⟩ (round := ?_)
 clear hlv;rintro m st ⟨n, l, hn, rfl, hll, hL, rfl⟩
 (repeat (first | refine e1 (k := ?_) | refine Qbd ?_ | refine Qbf ?_ | refine Qbc ?_ | fail))
 rcases m with _ | n
 ·(repeat' (first | refine e1 (k := ?_) | refine Qbd ?_ | refine Qbf ?_ | refine Qbc ?_ | refine Qbm (hf := ?_) | refine Qbq ?_ | fail))
  refine Qbn (hx := ?_);rw [hL.out]; rfl
 have q3 : decide (((n + 1 : Nat) : Int) > 0) = true := by simp
 rw [q3]
 have hll2 : l.length <= 4 := by
  have h1 : n = 0 ∨ n = 1 := by omega
  have h2 : (4 : Nat) ^ (2 - (n + 1)) <= 4 := by rcases h1 with rfl | rfl <;> decide
  omega
 (repeat' (first | refine e1 (k := ?_) | refine stepS2 (Qbz Ty.h rfl Ty.h) (k := ?_) | refine Qbd ?_ | refine Qbf ?_ | refine Qbc ?_ | refine Qbl (ht := ?_) | refine Qbj ?_ | refine Qbi ?_ | fail))
 have hv : Hid (l.all (fun p => (Pl.Qan s p (n + 1 : Nat)).2) = false -> Pl.Qal s ⟨root, n0, many⟩ = ([], false)) := fun e => by rw [hL.out, Pl.lvl, if_neg (by rw [e]; simp)]
 refine Qby (fun m st => ∃ (k g : Nat) (out : List Pl.Ptr), k <= l.length /\ m = l.length - k /\ out.length <= 4 * k /\ Hid (out = (l.take k).flatMap fun p => (Pl.Qan s p (n + 1 : Nat)).1) /\ Hid ((l.take k).all (fun p => (Pl.Qan s p (n + 1 : Nat)).2) = true) /\
  st = ⟨46, [(8, .osl 0 g 0 out.length), (9, .d (dI k)), (6, .d (tPtrs l)), (7, .d (dI (n + 1 : Nat))), (2, .d (.pd [dStrs s.1, dInts s.2.1.1, dInts s.2.1.2, dI s.2.2.1, dPtrs s.2.2.2.1, dI s.2.2.2.2.1, dPtrs s.2.2.2.2.2.1, dB s.2.2.2.2.2.2]))], [.arr g 5 54 (out.map rPtr)]⟩) [8, 9, 6, 7, 2] 1 l.length ⟨0, 0, [], by omega, rfl, by simp, Pm.hid rfl, Pm.hid rfl, rfl⟩ (round := ?_)
 rintro m st ⟨k, g, out, hk, rfl, hol, hO, hA, rfl⟩
 (repeat (first | refine e1 (k := ?_) | refine Qbd ?_ | refine Qbf ?_ | refine Qbc ?_ | fail))
 cases q4 : decide ((k : Int) < (l.length : Int))
 ·(repeat' (first | refine e1 (k := ?_) | refine stepS (QbB rfl rfl (by omega)) (k := ?_) | refine Qbp ?_ | refine Qb0 ?_ | refine Qbc ?_ | refine Qbm (hf := ?_) | refine Qbq ?_ | fail))
  refine Qmi 0 (h := ?_);have : k = l.length := by simp at q4; omega
  rw [this, List.take_of_length_le (Nat.le_refl _)] at hO hA;refine Qbt n (by omega) ⟨n, out, by omega, rfl, ?_, Pm.hid (by rw [hL.out, Pl.lvl, if_pos hA.out, <- hO.out]), ?_⟩
  ·have : n = 0 ∨ n = 1 := by omega
   rcases this with rfl | rfl <;> simp at hll ⊢ <;> omega
  ·simp [keepE, go_sem, List.take_of_length_le]
 have hk2 : k < l.length := by simp at q4; omega
 obtain ⟨x, hx⟩ : ∃ x, l[k]? = some x := ⟨_, List.getElem?_eq_getElem hk2⟩;have hr := Qbx (f := rPtr) hx;have hc := Qnx s hg x (n + 1 : Nat);have hbl := QhG s x (n + 1 : Nat)
 have F : Hid ((Pl.Qan s x (n + 1 : Nat)).2 = false -> Pl.Qal s ⟨root, n0, many⟩ = ([], false)) := fun e => hv.out (by
  rw [List.all_eq_false]; exact ⟨x, List.mem_of_getElem? hx, by rw [e]; simp⟩)
 have T1 : Hid ((l.take (k + 1)).flatMap (fun p => (Pl.Qan s p (n + 1 : Nat)).1) = out ++ (Pl.Qan s x (n + 1 : Nat)).1) := Pm.hid (by rw [List.take_add_one, hx, hO.out]; simp);have T2 : Hid ((Pl.Qan s x (n + 1 : Nat)).2 = true -> (l.take (k + 1)).all (fun p => (Pl.Qan s p (n + 1 : Nat)).2) = true) := fun e => by rw [List.take_add_one, hx, List.all_append, hA.out]; simpa using e
 clear hx;generalize Pl.Qan s x (n + 1 : Nat) = bb at *
 obtain ⟨bl, ok⟩ := bb;simp only at hbl
 (repeat' (first | refine f1 (k := ?_) | refine e1 (k := ?_) | refine stepD (Qbe Tryz.call124 hc rfl) (k := ?_) | refine stepD (Qbh Ty.h rfl Ty.h rfl rfl rfl (by omega) hr) (k := ?_) | refine QgJ Ty.h rfl Ty.h (hb := ?_) (hcell := ?_) (kk := ?_) | refine stepS (Qbs rfl rfl (by omega)) (k := ?_) | refine stepS2 (Qbz Ty.h rfl Ty.h) (k := ?_) | refine Qbd ?_ | refine Qbp ?_ | refine Qb0 ?_ | refine Qbr ?_ | refine Qbf ?_ | refine Qbc ?_ | refine Qb1 follows_mixed (by kernel_rfl) (by kernel_rfl) ?_ | refine Qbl (ht := ?_) | refine Qbo (ht := fun q => ?_) (hf := fun q => ?_) | refine Qbj ?_ | refine Qbi ?_ | fail))
 ·(refine Qbg 1 (h := ?_); refine Qbn (hx := ?_))
  rw [F.out (by simpa using q)] <;> rfl
 ·exact Qd8 bl
 ·simp; omega
 ·refine Qbt (l.length - (k + 1)) (by omega) ⟨k + 1, g + 1, out ++ bl, by omega, rfl, by simp; omega, Pm.hid T1.out.symm, Pm.hid (T2.out (by simpa using q)), ?_⟩
  simp [keepE, go_sem]
end Aw
end
section
open Go.RowKit
namespace Aw
abbrev kI (n : Int) : Value := .int .i64 n
def imap (m : List (Int × D)) : List (Value × D) := m.map fun x => (kI x.1, x.2)
def mget : List (Int × D) -> Int -> Option D
 |[], _ => none
 |x :: m, n => if x.1 = n then some x.2 else mget m n
def mset : List (Int × D) -> Int -> D -> List (Int × D)
 |[], n, d => [(n, d)]
 |x :: m, n, d => if x.1 = n then (n, d) :: m else x :: mset m n d
def mIdx : List (Int × D) -> Int -> Option Nat
 |[], _ => none
 |x :: m, n => if x.1 = n then some 0 else (mIdx m n).map (· + 1)
theorem Qfk : ∀ {m : List (Int × D)} {n : Int}, mIdx m n = none -> mget m n = none /\ ∀ d, mset m n d = m ++ [(n, d)]
 |[], n, _ => ⟨rfl, fun d => rfl⟩
 |x :: m, n, h => by
  unfold mIdx at h;split at h
  ·cases h
  ·rename_i hx
   obtain ⟨h1, h2⟩ := Qfk (Option.map_eq_none_iff.1 h);exact ⟨by unfold mget; rw [if_neg hx, h1], fun d => by unfold mset; rw [if_neg hx, h2]; rfl⟩
theorem Qfj : ∀ {m : List (Int × D)} {n : Int} {j : Nat}, mIdx m n = some j -> ∃ d0, m[j]? = some (n, d0) /\ mget m n = some d0 /\ ∀ d, mset m n d = m.set j (n, d)
 |[], n, j, h => by cases h
 |x :: m, n, j, h => by
  unfold mIdx at h;split at h
  ·rename_i hx
   obtain rfl := Option.some.inj h;exact ⟨x.2, by rw [<- hx]; rfl, by unfold mget; rw [if_pos hx], fun d => by unfold mset; rw [if_pos hx]; rfl⟩
  ·rename_i hx
   obtain ⟨j', h', rfl⟩ := Option.map_eq_some_iff.1 h;obtain ⟨d0, h1, h2, h3⟩ := Qfj h';exact ⟨d0, by simpa using h1, by unfold mget; rw [if_neg hx, h2], fun d => by unfold mset; rw [if_neg hx, h3]; rfl⟩
theorem Qcv : ∀ (m : List (Int × D)) (n : Int) (d : D), mget (mset m n d) n = some d
 |[], n, d => by simp [mset, mget]
 |x :: m, n, d => by
  unfold mset;split
  ·simp [mget]
  ·rename_i h; unfold mget; rw [if_neg h]; exact Qcv m n d
theorem Qdv {n k : Int} (h : n ≠ k) : ∀ (m : List (Int × D)) (d : D), mget (mset m n d) k = mget m k
 |[], d => by simp [mset, mget, h]
 |x :: m, d => by
  unfold mset;split
  ·rename_i hx; subst hx; simp [mget, h]
  ·unfold mget; split
   ·rfl
   ·exact Qdv h m d
theorem QmR {m : List (Int × D)} {j : Nat} {n : Int} {d : D} (h : m[j]? = some (n, d)) : (imap m)[j]? = some (kI n, d) := by
 unfold imap; rw [List.getElem?_map, h]; rfl
theorem imap_get' {m : List (Int × D)} {j : Nat} {k : Value} {d : D} (h : (imap m)[j]? = some (k, d)) : ∃ n, k = kI n /\ m[j]? = some (n, d) := by
 unfold imap at h;rw [List.getElem?_map] at h;cases hj : m[j]? with
 |none => rw [hj] at h; cases h
 |some x =>
  rw [hj] at h;simp only [Option.map_some, Option.some.injEq, Prod.mk.injEq] at h;obtain ⟨rfl, rfl⟩ := h;exact ⟨x.1, rfl, rfl⟩
theorem Qdm (m : List (Int × D)) : (imap m).length = m.length := by simp [imap]
theorem Qfx (n : Int) : ∀ (es : List MapEntry) (m : List (Int × D)) (i : Nat), es.length = m.length -> (∀ (j : Nat) x, m[j]? = some x -> ∃ e, es[j]? = some e /\ e.key = kI x.1) ->
 (mIdx m n = none /\ Instr.findNow (.int .i64) (kI n) es i = some none) ∨ ∃ j e, mIdx m n = some j /\ es[j]? = some e /\ Instr.findNow (.int .i64) (kI n) es i = some (some (i + j, e.val))
 |[], [], i, _, _ => .inl ⟨rfl, rfl⟩
 |e :: es, x :: m, i, hl, h => by
  obtain ⟨e', he, hk⟩ := h 0 x rfl;obtain rfl : e = e' := by simpa using he
  by_cases hx : x.1 = n
  ·refine .inr ⟨0, e, by unfold mIdx; rw [if_pos hx], rfl, ?_⟩
   simp [Instr.findNow, hk, Instr.sameNow, hx]
  ·have hne : ¬ n = x.1 := fun q => hx q.symm
   rcases Qfx n es m (i + 1) (by simpa using hl) (fun j y hy => h (j + 1) y (by simpa using hy)) with ⟨h1, h2⟩ | ⟨j, e', h1, h2, h3⟩
   ·refine .inl ⟨by unfold mIdx; rw [if_neg hx, h1]; rfl, ?_⟩
    have hb : (n == x.1) = false := beq_eq_false_iff_ne.2 hne;simp [Instr.findNow, hk, Instr.sameNow, hb, h2]
   ·refine .inr ⟨j + 1, e', by unfold mIdx; rw [if_neg hx, h1]; rfl, by simpa using h2, ?_⟩
    have hb : (n == x.1) = false := beq_eq_false_iff_ne.2 hne;simp [Instr.findNow, hk, Instr.sameNow, hb, h3]; omega
 |[], _ :: _, _, hl, _ => by simp at hl
 |_ :: _, [], _, hl, _ => by simp at hl
section
variable {P : Program} {T kt et : TypeId} {F : TyF} {z : Value}
def EntOk (S : Nat -> Prop) (w : World) (m : List (Int × D)) (es : Array MapEntry) : Prop := es.size = m.length /\ ∀ (j : Nat) n d, m[j]? = some (n, d) -> ∃ e, es[j]? = some e /\ e.key = kI n /\ RelD S w d e.val
theorem EntOk.find {S : Nat -> Prop} {w : World} {m : List (Int × D)} {es : Array MapEntry} (h : EntOk S w m es) (n : Int) :
 (mIdx m n = none /\ Instr.findNow (.int .i64) (kI n) es.toList 0 = some none) ∨ ∃ j e, mIdx m n = some j /\ es[j]? = some e /\ Instr.findNow (.int .i64) (kI n) es.toList 0 = some (some (j, e.val)) := by
 rcases Qfx n es.toList m 0 (by simpa using h.1) (fun j x hx => by
  obtain ⟨e, h1, h2, _⟩ := h.2 j x.1 x.2 hx
  exact ⟨e, by simpa using h1, h2⟩) with h1 | ⟨j, e, h1, h2, h3⟩
 ·exact .inl h1
 ·exact .inr ⟨j, e, h1, by simpa using h2, by simpa using h3⟩
theorem Qmt (hz : (P.info? et).bind (·.zero) = some z) (w : World) : (zeroValue et).run P w = .ok z w := by
 obtain ⟨i, hi, hz⟩ := Option.bind_eq_some_iff.1 hz;simp [zeroValue, typeInfo, hi, hz]
theorem Qfr (n : Int) : MapKept.IsKey (.int .i64) (kI n) := by simp [MapKept.IsKey]
theorem Qf1 (hT : P.underlying T = some (.map kt et)) (hk : P.underlying kt = some (.int .i64)) (hz : (P.info? et).bind (·.zero) = some z) {S : Nat -> Prop} {w : World} {b : Nat} {es : Array MapEntry} {clock : Nat} {m : List (Int × D)} (n : Int)
 (hb : w.heap[b]? = some (.map es clock)) (h : EntOk S w m es) : ∃ v, (Instr.lookup T (.map (some b)) (kI n) false).run P w = .ok v w /\ RelD S w ((mget m n).getD (.v z)) v := by
 rcases h.find n with ⟨h1, h2⟩ | ⟨j, e, h1, h2, h3⟩
 ·have hz1 := Qmt hz w
  refine ⟨z, ?_, by rw [(Qfk h1).1]; exact .v _⟩;simp [Instr.lookup, MapKept.run_getObj_map hb, run_underlying hT, MapKept.run_checkKey hk (Qfr n), MapKept.run_findKey hk h2, hz1, Result.andThen]
 ·obtain ⟨d0, g1, g2, _⟩ := Qfj h1
  obtain ⟨e', k1, k2, k3⟩ := h.2 j n d0 g1;rw [h2] at k1;obtain rfl := Option.some.inj k1;refine ⟨e.val, ?_, by rw [g2]; exact k3⟩;simp [Instr.lookup, MapKept.run_getObj_map hb, run_underlying hT, MapKept.run_checkKey hk (Qfr n), MapKept.run_findKey hk h3, Result.andThen]
end
section
variable {P : Program} {T kt et : TypeId} {F : TyF} {z : Value} {dst : Option Tmp} {ty : TypeId} {pos : String} {after : Array Edge} {gd : Option (Nat × Bool)} {env : List (Nat × AV)} {H : List Blk}
theorem Qdj : Loc P ⟨dst, .makeMap T none, ty, pos, after, gd⟩ env H (.mp H.length 0) (some (.mp 0 [])) := by
 intro B σ S H' a w _ hS hop hag hk K Q k;have hκ := hk _ rfl;obtain ⟨h3, h4⟩ := hS.fill (o := .map #[] 0) (C := .mp 0 []) hκ trivial fun e => .inl ⟨_, #[], 0, Qb3 _ _ _, Qck _ _, ⟨rfl, rfl, fun i e h => by simp at h⟩, fun i key d h => by simp at h⟩
 have hl : H.length < H'.length := (List.getElem?_eq_some_iff.1 hκ).1
 have hrun : (execOp a.eval ⟨dst, .makeMap T none, ty, pos, after, gd⟩).run P w = .ok (.value (.map (some w.heap.size))) (w.alloc (.map #[] 0)) := by
  simp [execOp, Instr.makeMap, newObj]; rfl
 exact QdI hrun (k _ _ _ _ h3 (.mp _ 0 _ rfl 0 [] (List.getElem?_set_self hl) (Nat.le_refl _) fun _ => ⟨_, Qb3 _ _ _, rfl⟩) h4)
theorem Qg4 {S : Nat -> Prop} {w : World} {m : List (Int × D)} {es : Array MapEntry} (h1 : es.size = (imap m).length) (h2 : ∀ (i : Nat) key d, (imap m)[i]? = some (key, d) -> ∃ e, es[i]? = some e /\ e.key = key /\ RelD S w d e.val) : EntOk S w m es :=
 ⟨by rw [h1, Qdm], fun j n d h => h2 j (kI n) d (QmR h)⟩
theorem QjY (hT : P.underlying T = some (.map kt et)) (hk : P.underlying kt = some (.int .i64)) (hz : (P.info? et).bind (·.zero) = some z) {u v : Operand} {k g : Nat} {m : List (Int × D)} {n : Int}
 (hu : aval env u = .mp k g) (hH : H[k]? = some (.mp g (imap m))) (hv : aval env v = .d (.v (.int .i64 n))) : Loc P ⟨dst, .lookup T u v false, ty, pos, after, gd⟩ env H (.d ((mget m n).getD (.v z))) none := by
 refine QbD fun σ S H' a w hblk hop hag2 => ?_
 have h1 := hop u (by simp [Op.operands]);have h2 := hop v (by simp [Op.operands]);rw [hu] at h1;rw [hv] at h2
 have e2 : a.eval v = kI n := by
  generalize a.eval v = y at h2;cases h2 with | d _ _ h2 => cases h2; rfl
 generalize hx : a.eval u = y at h1;cases h1 with
 |mp _ _ _ ho g' l hk' hg hh =>
  rcases hag2 k _ hH with h3 | h3
  ·rw [h3] at hk'
   obtain ⟨rfl, rfl⟩ : g = g' /\ imap m = l := by injection (Option.some.inj hk') with h1 h2; exact ⟨h1, h2⟩
   obtain ⟨b, hb, rfl⟩ := hh rfl;rcases hblk k _ h3 with ⟨b', es, clock, hb', hheap, hsz, hent⟩ | ⟨hno, _⟩
   ·rw [hb] at hb'
    obtain rfl := Option.some.inj hb';obtain ⟨r, hr1, hr2⟩ := Qf1 (P := P) hT hk hz n hheap (Qg4 hsz.1 hent);refine ⟨r, ?_, .d _ _ hr2⟩;simp only [execOp, hx, e2, Sem.run_bind, hr1];rfl
   ·rw [hb] at hno; cases hno
  ·rw [h3] at hk'; cases hk'
theorem Qik (hT : P.underlying T = some (.map kt et)) (hk : P.underlying kt = some (.int .i64)) (hz : (P.info? et).bind (·.zero) = some z) {u v : Operand} {m : List (Int × D)} {n : Int}
 (hu : aval env u = .d (.mp (imap m))) (hv : aval env v = .d (.v (.int .i64 n))) : Loc P ⟨dst, .lookup T u v false, ty, pos, after, gd⟩ env H (.d ((mget m n).getD (.v z))) none := by
 refine QbD fun σ S H' a w hblk hop hag2 => ?_
 have h1 := hop u (by simp [Op.operands]);have h2 := hop v (by simp [Op.operands]);rw [hu] at h1;rw [hv] at h2
 have e2 : a.eval v = kI n := by
  generalize a.eval v = y at h2;cases h2 with | d _ _ h2 => cases h2; rfl
 generalize hx : a.eval u = y at h1;cases h1 with
 |d _ _ h1 =>
  generalize hl : imap m = l at h1;cases h1 with
  |mp _ b es clock hS hb hsz hky hr =>
   subst hl
   have hE' : EntOk S w m es := Qg4 hsz fun i key d hi => by
    have hi' : i < es.size := by rw [hsz]; exact (List.getElem?_eq_some_iff.1 hi).1
    exact ⟨es[i], Array.getElem?_eq_getElem hi', hky i key d _ hi (Array.getElem?_eq_getElem hi'), hr i key d _ hi (Array.getElem?_eq_getElem hi')⟩
   obtain ⟨r, hr1, hr2⟩ := Qf1 (P := P) hT hk hz n hb hE';refine ⟨r, ?_, .d _ _ hr2⟩;simp only [execOp, hx, e2, Sem.run_bind, hr1];rfl
theorem Sm.setMap {B : Bs} {σ : Sg} {S : Nat -> Prop} {w : World} {k g b : Nat} {l l' : List (Value × D)} {es es' : Array MapEntry} {clock' : Nat} (h : Sm B σ S H w) (hb : σ k = some b) (hC : H[k]? = some (.mp g l)) {clock0 : Nat} (hheap : w.heap[b]? = some (.map es clock0))
 (hsz : es'.size = l'.length /\ clock' = l'.length /\ ∀ (i : Nat) e, es'[i]? = some e -> e.born = i) (hent : ∀ (i : Nat) key d, l'[i]? = some (key, d) -> ∃ e, es'[i]? = some e /\ e.key = key /\ RelD S w d e.val) :
 Sm B σ S (H.set k (.mp g l')) { w with heap := w.heap.setIfInBounds b (.map es' clock') } /\ Ev σ S H w σ S (H.set k (.mp g l')) { w with heap := w.heap.setIfInBounds b (.map es' clock') } := by
 obtain ⟨q1, q2⟩ := MapKept.heap_set (o' := .map es' clock') hheap;refine h.turn (C' := .mp g l') hb hC (Nat.le_refl _) rfl rfl rfl (by simp) q2 (fun cs T hc => by rw [hheap] at hc; cases hc) fun e => .inl ⟨b, es', clock', hb, q1, hsz, fun i key d hi => ?_⟩
 obtain ⟨en, h1, h2, h3⟩ := hent i key d hi;exact ⟨en, h1, h2, h3.mono e.s e.same⟩
theorem Qg7 (hT : P.underlying T = some (.map kt et)) (hk : P.underlying kt = some (.int .i64)) {u v x : Operand} {k g : Nat} {m : List (Int × D)} {n : Int} {d : D}
 (hu : aval env u = .mp k g) (hH : H[k]? = some (.mp g (imap m))) (hv : aval env v = .d (.v (.int .i64 n))) (hx : aval env x = .d d) :
 Eff P ⟨none, .mapUpdate T u v x, ty, pos, after, gd⟩ env H (.d (.v undef)) (H.set k (.mp g (imap (mset m n d)))) := by
 intro B σ S a w hB hS hop K Q kk;have h1 := hop u (by simp [Op.operands]);have h2 := hop v (by simp [Op.operands]);have h3 := hop x (by simp [Op.operands]);rw [hu] at h1;rw [hv] at h2;rw [hx] at h3
 have e2 : a.eval v = kI n := by
  generalize a.eval v = y at h2;cases h2 with | d _ _ h2 => cases h2; rfl
 cases h3 with
 |d _ _ h3 =>
 generalize hxu : a.eval u = y at h1;cases h1 with
 |mp _ _ _ ho g' l hk' hg hh =>
  rw [hH] at hk';obtain ⟨rfl, rfl⟩ : g = g' /\ imap m = l := by injection (Option.some.inj hk') with h1 h2; exact ⟨h1, h2⟩
  obtain ⟨b, hb, rfl⟩ := hh rfl;rcases hS.blk k _ hH with ⟨b', es, clock, hb', hheap, ⟨hs1, rfl, hs3⟩, hent⟩ | ⟨hno, _⟩;rotate_left
  ·rw [hb] at hno; cases hno
  rw [hb] at hb';obtain rfl := Option.some.inj hb';have hE := Qg4 hs1 hent;rcases hE.find n with ⟨g1, g2⟩ | ⟨j, e, g1, g2, g3⟩
  ·have hl' := (Qfk g1).2 d
   have hrun : (execOp a.eval ⟨none, .mapUpdate T u v x, ty, pos, after, gd⟩).run P w = .ok .skip { w with heap := w.heap.setIfInBounds b (.map (es.push ⟨kI n, a.eval x, (imap m).length⟩) ((imap m).length + 1)) } := by
    simp [execOp, hxu, e2, Instr.mapUpdate, run_underlying hT, MapKept.run_getObj_map hheap, MapKept.run_checkKey hk (Qfr n), MapKept.run_findKey hk g2, MapKept.run_setObj_map _ hheap, Result.andThen]
   obtain ⟨q1, q2⟩ := Sm.setMap (l' := imap (mset m n d)) (es' := es.push ⟨kI n, a.eval x, (imap m).length⟩) (clock' := (imap m).length + 1) hS hb hH hheap
    ⟨by simp [hs1, hl', Qdm], by simp [hl', Qdm], fun i e he => by
      rw [Array.getElem?_push] at he;split at he
      ·obtain rfl := Option.some.inj he; simp [hs1] at *; omega
      ·exact hs3 i e he⟩ fun i key d' hi => by
      have hi3 := imap_get' hi; clear hi; obtain ⟨n', rfl, hi⟩ := hi3;rw [hl'] at hi;rw [Array.getElem?_push];rcases Nat.lt_or_ge i m.length with hlt | hge
      ·rw [List.getElem?_append_left hlt] at hi
       obtain ⟨e, k1, k2, k3⟩ := hE.2 i n' d' hi;rw [if_neg (by rw [hs1, Qdm]; omega)];exact ⟨e, k1, k2, k3⟩
      ·rw [List.getElem?_append_right hge] at hi
       have : i - m.length = 0 := by
        have := (List.getElem?_eq_some_iff.1 hi).1;simp at this; omega
       rw [this] at hi;simp only [List.getElem?_cons_zero, Option.some.injEq, Prod.mk.injEq] at hi;obtain ⟨rfl, rfl⟩ := hi;rw [if_pos (by rw [hs1, Qdm]; omega)];exact ⟨_, rfl, rfl, h3⟩
   unfold Oper.wp;rw [hrun];exact kk undef _ σ S q1 (.d _ _ (.v _)) q2
  ·obtain ⟨d0, k1, k2, hl'⟩ := Qfj g1
   have hl' := hl' d;obtain ⟨e', k4, k5, k6⟩ := hE.2 j n d0 k1;rw [g2] at k4;obtain rfl := Option.some.inj k4
   have hrun : (execOp a.eval ⟨none, .mapUpdate T u v x, ty, pos, after, gd⟩).run P w = .ok .skip { w with heap := w.heap.setIfInBounds b (.map (es.modify j fun e => { e with key := kI n, val := a.eval x }) (imap m).length) } := by
    simp [execOp, hxu, e2, Instr.mapUpdate, run_underlying hT, MapKept.run_getObj_map hheap, MapKept.run_checkKey hk (Qfr n), MapKept.run_findKey hk g3, MapKept.run_setObj_map _ hheap, g2, k5, MapKept.run_keyThatStays (Qfr n), Result.andThen]
   obtain ⟨q1, q2⟩ := Sm.setMap (l' := imap (mset m n d)) (es' := es.modify j fun e => { e with key := kI n, val := a.eval x }) (clock' := (imap m).length) hS hb hH hheap
    ⟨by simp [hs1, hl', Qdm], by simp [hl', Qdm], fun i e1 he => by
      rw [Array.getElem?_modify] at he;split at he
      ·rename_i hij; subst hij
       rw [g2] at he;simp only [Option.map_some, Option.some.injEq] at he;subst he;exact (hs3 j e g2 :)
      ·exact hs3 i e1 he⟩ fun i key d' hi => by
      have hi3 := imap_get' hi; clear hi; obtain ⟨n', rfl, hi⟩ := hi3;rw [hl'] at hi;rw [Array.getElem?_modify]
      by_cases hij : j = i
      ·subst hij
       rw [List.getElem?_set_self (List.getElem?_eq_some_iff.1 k1).1] at hi;simp only [Option.some.injEq, Prod.mk.injEq] at hi;obtain ⟨rfl, rfl⟩ := hi;rw [if_pos rfl, g2];exact ⟨_, rfl, rfl, h3⟩
      ·rw [List.getElem?_set_ne hij] at hi
       rw [if_neg hij];exact hE.2 i n' d' hi
   unfold Oper.wp;rw [hrun];exact kk undef _ σ S q1 (.d _ _ (.v _)) q2
end
variable {P : Program}
section
variable {dst : Option Tmp} {ty : TypeId} {pos : String} {after : Array Edge} {gd : Option (Nat × Bool)} {env : List (Nat × AV)} {H : List Blk}
theorem QmJ {T e : TypeId} {F E : TyF} {n : Nat} {parts : Array (Nat × Operand)} {res : List AV} (hT : tyf P T = some F) (he : F.elem = some e) (hE : tyf P e = some E) (hz : E.zero.length = E.size := by rfl)
 (hr : ∀ R : Option (List AV) -> Prop, R (some res) -> R (fillA (fun i => some (i * E.size, E.size)) env (List.replicate n (E.zero.map fun v => AV.d (.v v))).flatten parts.toList) := by
   intro R hR; simp only [go_sem, Option.bind_some, List.replicate_succ, List.replicate_zero, List.flatten_cons, List.flatten_nil, List.append_nil, List.cons_append, List.nil_append, Nat.zero_mul, Nat.reduceMul, Nat.reduceEqDiff, Nat.reduceAdd, Nat.reduceLT, Nat.reduceLeDiff, ↓reduceIte, reduceCtorEq, List.take_nil, List.drop_nil]; exact hR)
 (hm : Nat.ble (n * E.size) 16777216 = true := by rfl) (hn : Nat.ble n 16777216 = true := by rfl) : Loc P ⟨dst, .buildSlice T n parts, ty, pos, after, gd⟩ env H (.rsl H.length 0 n) (some (.row 0 res)) := by
 intro B σ S H' a w _ hS hop hag hk K Q k;have hκ := hk _ rfl;obtain ⟨cs, h1, _, _, h2⟩ := QdM (dst := dst) (ty := ty) (pos := pos) (after := after) (gd := gd) hT he hE hz (hr (fun r => r = some res) rfl) (Nat.le_of_ble_eq_true hm) (Nat.le_of_ble_eq_true hn) σ S H' a w hop;obtain ⟨h3, h4⟩ := hS.fillRow (T := e) hκ h2;have hl : H.length < H'.length := (List.getElem?_eq_some_iff.1 hκ).1;exact QdI h1 (k _ _ _ _ h3 (.rsl _ 0 n _ rfl 0 res (List.getElem?_set_self hl) (Nat.le_refl _) fun _ => ⟨_, Qb3 _ _ _, rfl⟩) h4)
theorem Qdl {T e : TypeId} {F E : TyF} {u v : Operand} {κ : IntKind} {i : Int} {k g len : Nat} {cells : List AV} (hT : tyf P T = some F) (he : F.elem = some e) (hE : tyf P e = some E)
 (hn : E.size = 1) (hu : aval env u = .rsl k g len) (hk : H[k]? = some (.row g cells)) (hv : aval env v = .d (.v (.int κ i))) (h0 : 0 <= i) (h1 : i < len) :
 Loc P ⟨dst, .indexAddr T u v, ty, pos, after, gd⟩ env H (.ptr k g i.toNat) none :=
 QbD fun σ S H' a w _ hop hag => by
  have h := hop u (by simp [Op.operands]);have h' := AV.conc_rel (hop v (by simp [Op.operands])) (y := .int κ i) (by rw [hv]; rfl);rw [hu] at h;generalize hx : a.eval u = x at h;cases h with
  |rsl _ _ _ _ _ g' cells' hk' hg hh =>
   have hke : H'[k]? = some (.row g cells) := by
    rcases hag k _ hk with h | h
    ·exact h
    ·rw [hk'] at h; cases h
   rw [hk'] at hke;obtain ⟨rfl, rfl⟩ : g' = g /\ cells' = cells := by injection (Option.some.inj hke) with h1 h2; exact ⟨h1, h2⟩
   obtain ⟨b, hb, rfl⟩ := hh rfl;exact ⟨_, by simp only [execOp, hx, h', Sem.run_bind, QdP hT he hE h0 h1 w]; rfl, .ptr _ _ _ _ rfl g' cells' hk' hg fun _ => ⟨b, hb, by simp [hn]⟩⟩
theorem Qin {u : Operand} {T e : TypeId} {F : TyF} {k g len : Nat} {cells : List AV} (hT : tyf P T = some F) (he : F.elem = some e) (hu : aval env u = .rsl k g len) (hk : H[k]? = some (.row g cells)) :
 Loc P ⟨dst, .call ⟨.builtin .len, #[u], #[T]⟩, ty, pos, after, gd⟩ env H (.d (.v (.int .i64 (len : Nat)))) none :=
 QbD fun σ S H' a w _ hop hag => by
  have h := hop u (by simp [Op.operands, Call.operands]);rw [hu] at h;generalize hx : a.eval u = x at h;cases h with
  |rsl _ _ _ _ _ g' cells' hk' hg hh =>
   have hke : H'[k]? = some (.row g cells) := by
    rcases hag k _ hk with h | h
    ·exact h
    ·rw [hk'] at h; cases h
   rw [hk'] at hke;obtain ⟨rfl, rfl⟩ : g' = g /\ cells' = cells := by injection (Option.some.inj hke) with h1 h2; exact ⟨h1, h2⟩
   obtain ⟨b, hb, rfl⟩ := hh rfl;exact ⟨_, by simp [execOp, resolve, invoke, builtin, Builtin.len_, hx, goInt, run_underlying (QbX hT he)]; try rfl, .d _ _ (.v _)⟩
end
end Aw
end
end Go.Proofs.YtdjkdcokjoiokaaGreatDoor

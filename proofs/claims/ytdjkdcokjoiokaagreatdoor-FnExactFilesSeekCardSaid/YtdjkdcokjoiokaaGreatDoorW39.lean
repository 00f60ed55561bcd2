/- Part 39 of seek_card: contracts, walks, laws; no condition beyond the statement's. -/
import Derived.Test.YtdjkdcokjoiokaaGreatDoorW38
set_option linter.all false
set_option maxRecDepth 100000
set_option maxHeartbeats 16000000
namespace Go.Proofs.YtdjkdcokjoiokaaGreatDoor
open Go.RowKit
namespace Aw
attribute [local irreducible] ASeq ADraw AWP Loc AStep Fg.PlanF Fg.Flts
def Pl.QaL (X : List UInt8) (x : Pl.Th) : Bool := Lib.contains x.2.2 X
theorem bSeek1 (N : List (List D)) (T : List Pl.Th) (X : List UInt8) (x : Pl.Th) (hx : x.2.2.length <= 192) : Pure Tryz.prog 78 [.agg [.sl true 2 N, .sl true 3 (T.map rTh)], .agg (rTh x), .pd [dS X]] (dB (Pl.QaL X x)) := by
 have c := Qmf x.2.2 X (by omega);have hd : Hid (Pl.QaL X x = Lib.contains x.2.2 X) := Pm.hid rfl;obtain ⟨i, a, u⟩ := x;simp only at c hd;rw [<- hd.out] at c;generalize Pl.QaL X (i, a, u) = r at *
 simp only [rTh] at *
 (refine Qbk Tryz.func78 rfl Tryz.ntmps78 Tryz.results78 rfl ?_; simp only [parE, Nat.zero_add, Nat.reduceAdd])
 (refine Qbf (Qbc ?_); (repeat (first | refine e1 (k := ?_) | refine e2 (k := ?_) | fail)); refine Qbd ?_)
 refine Qbg 0 (h := ?_);refine Qbg 1 (h := ?_)
 (repeat' (first | refine e1 (k := ?_) | refine stepS (Qbe Tryz.call79 c rfl) (k := ?_) | refine Qbd ?_ | refine Qbf ?_ | refine Qbc ?_ | fail))
 exact Qbn (hx := rfl)
theorem Qmb (s : Pm.Store) (t : Pl.Tree) (f : FuncId) (cap : D) (c : Pure Tryz.prog 130 [dSt s, dTree t] (.tup [dFlat ([], []), dB false])) :
 Does Tryz.prog 70 [.d (dSt s), .d (dTree t), .fn (.func f) [.d cap]] [] [] (.tup [.osl 3 0 0 0, .d (dB false)]) [.row 1 [], .row 1 [], .row 1 [], .arr 0 1 9 []] := by
 refine Qb9 Tryz.func70 rfl Tryz.ntmps70 Tryz.results70 rfl rfl ?hpin (fun gvs => ?_)
 case hpin => intro i C hC; simp at hC
 simp only [parA, gslot, Nat.zero_add, Nat.reduceAdd]
 (refine Qbf (Qbc ?_); (repeat (first | refine e1 (k := ?_) | refine e2 (k := ?_) | fail)); refine Qbd ?_)
 refine Qbg 0 (h := ?_);refine Qbg 1 (h := ?_)
 (repeat' (first | refine e1 (k := ?_) | refine stepS (Qbe Tryz.call130 c rfl) (k := ?_) | refine Qbu (kk := ?_) | refine Qbd ?_ | refine Qbf ?_ | refine Qbc ?_ | refine Qbl (ht := ?_) | refine e2 (k := ?_) | fail))
 refine Qbg 2 (h := ?_);refine Qd4 6 1 9 (h := ?_);refine Qcm [6, 7, 1000000] 4 (H' := [.row 1 [], .row 1 [], .row 1 [], .arr 0 1 9 []]) (hH := fun R hR => hR) (h := ?_);exact QbN (hx := rfl) (hH := rfl)
theorem Qkr (s : Pm.Store) (t : Pl.Tree) (Ns : List Gr.It) (T : List Pl.Th) (hF : Pl.FlatB (Ns, T)) (c : Pure Tryz.prog 130 [dSt s, dTree t] (.tup [dFlat (Ns, T), dB true])) (f : FuncId) (cap : D) (F : Pl.Th -> Bool)
 (hf : ∀ args w, (callFunc f args).run Tryz.prog w = .ok (.enter f args) w) (hc : ∀ x ∈ T, Pure Tryz.prog f [dFlat (Ns, T), .agg (rTh x), cap] (dB (F x))) :
 Does Tryz.prog 70 [.d (dSt s), .d (dTree t), .fn (.func f) [.d cap]] [] [] (.tup [.osl 3 (Pl.Qa3 (Ns, T) F Ns).length 0 (Pl.Qa3 (Ns, T) F Ns).length, .d (dB true)])
  [.row 1 [], .row 1 [], .row 1 [], .arr (Pl.Qa3 (Ns, T) F Ns).length 1 9 ((Pl.Qa3 (Ns, T) F Ns).map fun s => [dS s])] := by
 have hnl : Ns.length <= 144 := hF.nl;have htl : T.length <= 16 := hF.tl
 replace hF := Pm.hid hF
 have hw := Pm.hid (QeW (Ns, T) F);have hws := Pm.hid (QfE (Ns, T) F);have hw0 : Pl.Qa3 (Ns, T) F [] = [] := rfl;generalize Pl.Qa3 (Ns, T) F = W at *
 simp only at hws;refine Qb9 Tryz.func70 rfl Tryz.ntmps70 Tryz.results70 rfl rfl ?hpin (fun gvs => ?_)
 case hpin => intro i C hC; simp at hC
 simp only [parA, gslot, Nat.zero_add, Nat.reduceAdd]
 (refine Qbf (Qbc ?_); (repeat (first | refine e1 (k := ?_) | refine e2 (k := ?_) | fail)); refine Qbd ?_)
 refine Qbg 0 (h := ?_);refine Qbg 1 (h := ?_)
 (repeat' (first | refine e1 (k := ?_) | refine stepS (Qbe Tryz.call130 c rfl) (k := ?_) | refine Qbu (kk := ?_) | refine Qbd ?_ | refine Qbf ?_ | refine Qbc ?_ | refine Qbm (hf := ?_) | refine Qbj ?_ | refine Qbi ?_ | refine e2 (k := ?_) | fail))
 all_goals first
  |(exfalso; simp at *; done)
  |skip
 refine Qbg 2 (h := ?_);refine Qd4 10 1 9 (h := ?_)
 refine Qby (fun m st => ∃ i : Nat, i <= Ns.length /\ m = Ns.length - i /\ st = ⟨52, [(25, .d (dI i)), (23, .d (.sl true 2 (Ns.map rIt))), (24, .d (dI Ns.length)), (8, .d (.pd [.sl true 2 (Ns.map rIt), .sl true 3 (T.map rTh)])), (2, .fn (.func f) [.d cap]), (10, .osl 3 (W (Ns.take i)).length 0 (W (Ns.take i)).length), (1000000, .gh [] gvs)],
  [.row 1 [], .row 1 [], .row 1 [], .arr (W (Ns.take i)).length 1 9 ((W (Ns.take i)).map fun s => [dS s])]⟩) [25, 23, 24, 8, 2, 10, 1000000] 4 Ns.length ⟨0, by omega, rfl, by rw [List.take_zero, hw0]; simp [keepE, go_sem]⟩ (round := ?_)
 rintro m st ⟨i, hi, rfl, rfl⟩;have hwl := hw.out (Ns.take i);rw [List.length_take] at hwl
 (repeat (first | refine e1 (k := ?_) | refine Qbd ?_ | refine Qbf ?_ | refine Qbc ?_ | fail))
 cases q3 : decide ((i : Int) < (Ns.length : Int))
 ·have : i = Ns.length := by simp at q3; omega
  rw [this, List.take_length]
  (repeat' (first | refine e1 (k := ?_) | refine Qbd ?_ | refine Qbf ?_ | refine Qbc ?_ | refine Qbm (hf := ?_) | refine Qbq ?_ | fail))
  refine Qcm [6, 7, 1000000] 4 (H' := [.row 1 [], .row 1 [], .row 1 [], .arr (W Ns).length 1 9 ((W Ns).map fun s => [dS s])]) (hH := fun R hR => hR) (h := ?_);exact QbN (hx := rfl) (hH := rfl)
 have hi2 : i < Ns.length := by simp at q3; omega
 obtain ⟨n, hn⟩ : ∃ n, Ns[i]? = some n := ⟨_, List.getElem?_eq_getElem hi2⟩;have hr := Qbx (f := rIt) hn;obtain ⟨x, hx⟩ : ∃ x, Pl.thAt T n.2 = x := ⟨_, rfl⟩;obtain ⟨hxT, hx1⟩ := QiK hF.out (n := n) (List.mem_of_getElem? hn);simp only [hx] at hxT hx1
 have c3 : Pure Tryz.prog 131 [.pd [.sl true 2 (Ns.map rIt), .sl true 3 (T.map rTh)], dI (n.2 : Nat)] (.pd (rTh x)) := by
  rw [<- hx1]; exact bThing (Ns.map rIt) T hF.out.asc (by omega) x hxT
 have hstep : Hid (W (Ns.take (i + 1)) = W (Ns.take i) ++ if (!x.2.1 && F x) = true then [Pl.Qao n.1] else []) := Pm.hid (by
  rw [List.take_add_one, hn, Option.toList_some, hws.out, hx])
 have c4 := hc x hxT;clear hn hx1 hw hws hw0 hxT hx hc hF;generalize hW2 : W (Ns.take (i + 1)) = W2 at *
 generalize W (Ns.take i) = W1 at *
 generalize F x = fx at *
 obtain ⟨np, nid⟩ := n;obtain ⟨xi, xf, xt⟩ := x;simp only at c3 hstep;cases xf
 ·cases fx
  ·(repeat' (first | refine f1 (k := ?_) | refine e1 (k := ?_) | refine stepS (Qbh Ty.h rfl Ty.h rfl rfl rfl (by omega) hr) (k := ?_) | refine stepS (Qbe Tryz.call131 c3 rfl) (k := ?_) | refine stepD (QbF rfl) (k := ?_) | refine stepD (Qcp hf c4 rfl rfl) (k := ?_) | refine stepS (Qbs rfl rfl (by omega)) (k := ?_) | refine Qbu (kk := ?_) | refine Qbd ?_ | refine Qbp ?_ | refine Qbr ?_ | refine Qbf ?_ | refine Qbc ?_ | refine Qb1 follows_mixed (by kernel_rfl) (by kernel_rfl) ?_ | refine Qbl (ht := ?_) | refine Qbm (hf := ?_) | refine Qbj ?_ | refine Qbi ?_ | refine e2 (k := ?_) | fail))
   all_goals first
    |(exfalso; simp at *; done)
    |(refine Qbt (Ns.length - (i + 1)) (by omega) ⟨i + 1, by omega, rfl, ?_⟩
      rw [hW2, hstep.out]
      simp [keepE, go_sem]; done)
  ·(repeat' (first | refine f1 (k := ?_) | refine e1 (k := ?_) | refine stepS (Qbh Ty.h rfl Ty.h rfl rfl rfl (by omega) hr) (k := ?_) | refine stepS (Qbe Tryz.call131 c3 rfl) (k := ?_) | refine stepD (QbF rfl) (k := ?_) | refine stepD (Qcp hf c4 rfl rfl) (k := ?_) | refine QbO Ty.h rfl Ty.h (hb := ?_) (kk := ?_) | refine stepS (Qbs rfl rfl (by omega)) (k := ?_) | refine stepS2 (Qbz Ty.h rfl Ty.h) (k := ?_) | refine Qbu (kk := ?_) | refine Qbd ?_ | refine Qbp ?_ | refine Qb0 ?_ | refine Qbr ?_ | refine Qbf ?_ | refine Qbc ?_ | refine Qb1 follows_mixed (by kernel_rfl) (by kernel_rfl) ?_ | refine Qbl (ht := ?_) | refine Qbj ?_ | refine Qbi ?_ | refine e2 (k := ?_) | fail))
   all_goals first
    |(exfalso; simp at *; done)
    |(show ((W1.map fun s => [dS s]).length + 1) * 16 <= 140737488355328
      rw [List.length_map]; omega)
    |(refine Qbt (Ns.length - (i + 1)) (by omega) ⟨i + 1, by omega, rfl, ?_⟩
      rw [hW2, hstep.out]
      simp [keepE, go_sem]; done)
 ·(repeat' (first | refine f1 (k := ?_) | refine e1 (k := ?_) | refine f0 (k := ?_) | refine stepS (Qbh Ty.h rfl Ty.h rfl rfl rfl (by omega) hr) (k := ?_) | refine stepS (Qbe Tryz.call131 c3 rfl) (k := ?_) | refine stepD (QbF rfl) (k := ?_) | refine stepS (Qbs rfl rfl (by omega)) (k := ?_) | refine Qbu (kk := ?_) | refine Qbd ?_ | refine Qbp ?_ | refine Qbr ?_ | refine Qbf ?_ | refine Qbc ?_ | refine Qb1 follows_mixed (by kernel_rfl) (by kernel_rfl) ?_ | refine Qbl (ht := ?_) | refine Qbm (hf := ?_) | refine Qbj ?_ | refine Qbi ?_ | refine e2 (k := ?_) | fail))
  all_goals first
   |(exfalso; simp at *; done)
   |(refine Qbt (Ns.length - (i + 1)) (by omega) ⟨i + 1, by omega, rfl, ?_⟩
     rw [hW2, hstep.out]
     simp [keepE, go_sem]; done)
theorem aSeekNo (s : Pm.Store) (t : Pl.Tree) (X : List UInt8) (c : Pure Tryz.prog 68 [dSt s, dTree t] (.tup [dFlat ([], []), dB false])) : Pure Tryz.prog 30 [dSt s, dTree t, dS X] (.tup [tStrs [], dB false]) := by
 (refine Qbk Tryz.func30 rfl Tryz.ntmps30 Tryz.results30 rfl ?_; simp only [parE, Nat.zero_add, Nat.reduceAdd])
 (refine Qbf (Qbc ?_); (repeat (first | refine e1 (k := ?_) | refine e2 (k := ?_) | fail)); refine Qbd ?_)
 refine Qbg 0 (h := ?_);refine Qbg 1 (h := ?_)
 (repeat' (first | refine e1 (k := ?_) | refine stepS (Qbe Tryz.call68 c rfl) (k := ?_) | refine stepS2 (Qbz Ty.h rfl Ty.h) (k := ?_) | refine Qbu (kk := ?_) | refine Qbd ?_ | refine Qbf ?_ | refine Qbc ?_ | refine Qbl (ht := ?_) | refine e2 (k := ?_) | fail))
 (refine Qbg 2 (h := ?_); refine Qbn (hx := ?_))
 rfl
theorem Qn7 (s : Pm.Store) (t : Pl.Tree) (X : List UInt8) (hX : X.length <= 1000000000) (Ns : List Gr.It) (T : List Pl.Th) (hF : Pl.FlatB (Ns, T)) (hT : ∀ y ∈ T, y.2.2.length <= 192) (c : Pure Tryz.prog 68 [dSt s, dTree t] (.tup [dFlat (Ns, T), dB true])) : Pure Tryz.prog 30 [dSt s, dTree t, dS X] (.tup [tStrs (Pl.Qa3 (Ns, T) (Pl.QaL X) Ns), dB true]) := by
 have hnl : Ns.length <= 144 := hF.nl;have htl : T.length <= 16 := hF.tl
 replace hF := Pm.hid hF
 have hw := Pm.hid (QeW (Ns, T) (Pl.QaL X));have hws := Pm.hid (QfE (Ns, T) (Pl.QaL X));have hw0 : Pl.Qa3 (Ns, T) (Pl.QaL X) [] = [] := rfl;generalize Pl.Qa3 (Ns, T) (Pl.QaL X) = W at *
 simp only at hws
 (refine Qbk Tryz.func30 rfl Tryz.ntmps30 Tryz.results30 rfl ?_; simp only [parE, Nat.zero_add, Nat.reduceAdd])
 (refine Qbf (Qbc ?_); (repeat (first | refine e1 (k := ?_) | refine e2 (k := ?_) | fail)); refine Qbd ?_)
 refine Qbg 0 (h := ?_);refine Qbg 1 (h := ?_)
 (repeat' (first | refine e1 (k := ?_) | refine stepS (Qbe Tryz.call68 c rfl) (k := ?_) | refine stepS2 (Qbz Ty.h rfl Ty.h) (k := ?_) | refine Qbu (kk := ?_) | refine Qbd ?_ | refine Qbf ?_ | refine Qbc ?_ | refine Qbm (hf := ?_) | refine Qbj ?_ | refine Qbi ?_ | refine e2 (k := ?_) | fail))
 refine Qbg 3 (h := ?_)
 refine Qby (fun m st => ∃ i : Nat, i <= Ns.length /\ m = Ns.length - i /\ st = ⟨57, [(11, .d (dI i)), (9, .d (.pd [.sl true 2 (Ns.map rIt), .sl true 3 (T.map rTh)])), (2, .d (dS X)), (8, .osl 2 (W (Ns.take i)).length 0 (W (Ns.take i)).length)],
  [.row 1 [], .row 1 [], .arr (W (Ns.take i)).length 1 9 ((W (Ns.take i)).map fun s => [dS s]), .row 1 []]⟩) [11, 9, 2, 8] 4 Ns.length ⟨0, by omega, rfl, by rw [List.take_zero, hw0]; simp [keepE, go_sem]⟩ (round := ?_)
 rintro m st ⟨i, hi, rfl, rfl⟩;have hwl := hw.out (Ns.take i);rw [List.length_take] at hwl
 (repeat (first | refine e1 (k := ?_) | refine Qbd ?_ | refine Qbf ?_ | refine Qbc ?_ | fail))
 cases q3 : decide ((i : Int) < (Ns.length : Int))
 ·have : i = Ns.length := by simp at q3; omega
  rw [this, List.take_length]
  (repeat' (first | refine e1 (k := ?_) | refine Qbd ?_ | refine Qbf ?_ | refine Qbc ?_ | refine Qbm (hf := ?_) | refine Qbq ?_ | fail))
  (refine Qbg 2 (h := ?_); refine Qbn (hx := ?_))
  simp [List.take_of_length_le]
 have hi2 : i < Ns.length := by simp at q3; omega
 obtain ⟨n, hn⟩ : ∃ n, Ns[i]? = some n := ⟨_, List.getElem?_eq_getElem hi2⟩;have hr := Qbx (f := rIt) hn;obtain ⟨x, hx⟩ : ∃ x, Pl.thAt T n.2 = x := ⟨_, rfl⟩;obtain ⟨hxT, hx1⟩ := QiK hF.out (n := n) (List.mem_of_getElem? hn);simp only [hx] at hxT hx1
 have c3 : Pure Tryz.prog 69 [.agg [.sl true 2 (Ns.map rIt), .sl true 3 (T.map rTh)], dI (n.2 : Nat)] (.agg (rTh x)) := by
  rw [<- hx1]; exact Qmm (Ns.map rIt) T (by omega) x hxT hF.out.asc
 have hstep : Hid (W (Ns.take (i + 1)) = W (Ns.take i) ++ if (!x.2.1 && Pl.QaL X x) = true then [Pl.Qao n.1] else []) := Pm.hid (by
  rw [List.take_add_one, hn, Option.toList_some, hws.out, hx])
 have c5 := al33Has x.2.2 X (by have := hT x hxT; omega) hX;clear hn hx1 hw hws hw0 hxT hx hT hF;generalize hW2 : W (Ns.take (i + 1)) = W2 at *
 generalize W (Ns.take i) = W1 at *
 obtain ⟨np, nid⟩ := n;obtain ⟨xi, xf, xt⟩ := x;unfold Pl.QaL at hstep;simp only at c3 c5 hstep;generalize Lib.contains xt X = fx at *
 cases xf
 ·cases fx
  ·(repeat' (first | refine f1 (k := ?_) | refine e1 (k := ?_) | refine stepD (Qbh Ty.h rfl Ty.h rfl rfl rfl (by omega) hr) (k := ?_) | refine stepD (Qbe Tryz.call69 c3 rfl) (k := ?_) | refine (Fg.awp_drawF (id := 8) [] [9] follows_mixed (by kernel_rfl) (by kernel_rfl) (by kernel_rfl) ?_) | refine (Fg.aw_fltN ?_) | refine (Fg.aw_planFC (by rfl) (by kernel_rfl) rfl ?_) | refine (Fg.aw_planFN ?_) | refine (Qcb (kk := ?_)) | refine stepS (Qbe Tryz.call77 c5 rfl) (k := ?_) | refine stepS (Qbs rfl rfl (by omega)) (k := ?_) | refine Qbd ?_ | refine Qbp ?_ | refine Qbr ?_ | refine QbE ?_ | refine Qbf ?_ | refine Qbc ?_ | refine Qbl (ht := ?_) | refine Qbm (hf := ?_) | refine Qbj ?_ | refine Qbi ?_ | refine f2 (k := ?_) | fail))
   all_goals first
    |(exfalso; simp at *; done)
    |(refine Qbt (Ns.length - (i + 1)) (by omega) ⟨i + 1, by omega, rfl, ?_⟩
      rw [hW2, hstep.out]
      simp [keepE, go_sem]; done)
  ·(repeat' (first | refine f1 (k := ?_) | refine e1 (k := ?_) | refine stepD (Qbh Ty.h rfl Ty.h rfl rfl rfl (by omega) hr) (k := ?_) | refine stepS (Qbh Ty.h rfl Ty.h rfl rfl rfl (by omega) hr) (k := ?_) | refine stepD (Qbe Tryz.call69 c3 rfl) (k := ?_) | refine (Fg.awp_drawF (id := 8) [] [9] follows_mixed (by kernel_rfl) (by kernel_rfl) (by kernel_rfl) ?_) | refine (Fg.aw_fltN ?_) | refine (Fg.aw_planFC (by rfl) (by kernel_rfl) rfl ?_) | refine (Fg.aw_planFN ?_) | refine (Qcb (kk := ?_)) | refine stepS (Qbe Tryz.call77 c5 rfl) (k := ?_) | refine QbO Ty.h rfl Ty.h (hb := ?_) (kk := ?_) | refine stepS (Qbs rfl rfl (by omega)) (k := ?_) | refine stepS2 (Qbz Ty.h rfl Ty.h) (k := ?_) | refine Qbd ?_ | refine Qbp ?_ | refine Qb0 ?_ | refine Qbr ?_ | refine QbE ?_ | refine Qbf ?_ | refine Qbc ?_ | refine Qbl (ht := ?_) | refine Qbj ?_ | refine Qbi ?_ | refine f2 (k := ?_) | fail))
   all_goals first
    |(exfalso; simp at *; done)
    |(show ((W1.map fun s => [dS s]).length + 1) * 16 <= 140737488355328
      rw [List.length_map]; omega)
    |(refine Qbt (Ns.length - (i + 1)) (by omega) ⟨i + 1, by omega, rfl, ?_⟩
      rw [hW2, hstep.out]
      simp [keepE, go_sem]; done)
 ·(repeat' (first | refine f1 (k := ?_) | refine e1 (k := ?_) | refine e0 (k := ?_) | refine stepD (Qbh Ty.h rfl Ty.h rfl rfl rfl (by omega) hr) (k := ?_) | refine stepD (Qbe Tryz.call69 c3 rfl) (k := ?_) | refine (Fg.awp_drawF (id := 8) [] [9] follows_mixed (by kernel_rfl) (by kernel_rfl) (by kernel_rfl) ?_) | refine (Fg.aw_fltN ?_) | refine (Fg.aw_planFC (by rfl) (by kernel_rfl) rfl ?_) | refine (Fg.aw_planFN ?_) | refine (Qcb (kk := ?_)) | refine stepS (Qbs rfl rfl (by omega)) (k := ?_) | refine Qbd ?_ | refine Qbp ?_ | refine Qbr ?_ | refine QbE ?_ | refine Qbf ?_ | refine Qbc ?_ | refine Qbl (ht := ?_) | refine Qbm (hf := ?_) | refine Qbj ?_ | refine Qbi ?_ | refine f2 (k := ?_) | fail))
  all_goals first
   |(exfalso; simp at *; done)
   |(refine Qbt (Ns.length - (i + 1)) (by omega) ⟨i + 1, by omega, rfl, ?_⟩
     rw [hW2, hstep.out]
     simp [keepE, go_sem]; done)
theorem flatTx {s : Pm.Store} {t : Pl.Tree} (h : Pl.Qaq s t = true) : ∀ y ∈ (Pl.QaM s t).2, y.2.2.length <= 192 := by
 obtain ⟨L, hL, hll, hfd⟩ := Qc5 h;rw [Qdn hfd];exact Qmy
noncomputable def Pl.seek (s : Pm.Store) (t : Pl.Tree) (X : List UInt8) : List (List UInt8) × Bool := if Pl.Qah s && Pl.Qaq s t then (Pl.Qa3 (Pl.QaM s t) (Pl.QaL X) (Pl.QaM s t).1, true) else ([], false)
theorem QiQ (s : Pm.Store) (t : Pl.Tree) (X : List UInt8) : (Pl.seek s t X).1.length <= 144 := by
 unfold Pl.seek;split
 ·rename_i h
  rw [Bool.and_eq_true] at h;have := QeW (Pl.QaM s t) (Pl.QaL X) (Pl.QaM s t).1;have := (flatB h.2).nl;simp only; omega
 ·exact Nat.zero_le _
theorem Qk4 (s : Pm.Store) (hl : Pl.Lens s) (t : Pl.Tree) (X : List UInt8) (hX : X.length <= 1000000000) : Pure Tryz.prog 30 [dSt s, dTree t, dS X] (.tup [tStrs (Pl.seek s t X).1, dB (Pl.seek s t X).2]) := by
 have c := aFlatOf s hl t;unfold Pl.seek
 by_cases h : (Pl.Qah s && Pl.Qaq s t) = true
 ·rw [if_pos h] at c ⊢
  rw [Bool.and_eq_true] at h;exact Qn7 s t X hX _ _ (flatB h.2) (flatTx h.2) c
 ·rw [if_neg h] at c ⊢
  exact aSeekNo s t X c
theorem dSeek0 (s : Pm.Store) (t : Pl.Tree) (X : List UInt8) (R : List (List UInt8)) (ok : Bool) (c : Does Tryz.prog 70 [.d (dSt s), .d (dTree t), .fn (.func 78) [.d (.pd [dS X])]] [] [] (.tup [.osl 3 R.length 0 R.length, .d (dB ok)]) [.row 1 [], .row 1 [], .row 1 [], .arr R.length 1 9 (R.map fun s => [dS s])]) :
 Does Tryz.prog 31 [.d (dSt s), .d (dTree t), .d (dS X)] [] [] (.tup [.osl 6 R.length 0 R.length, .d (dB ok)]) [.row 1 [], .row 1 [], .row 1 [], .row 1 [], .row 1 [], .row 1 [], .arr R.length 1 9 (R.map fun s => [dS s])] := by
 generalize R.map (fun s => [dS s]) = r at *
 generalize R.length = n at *
 refine Qb9 Tryz.func31 rfl Tryz.ntmps31 Tryz.results31 rfl rfl ?hpin (fun gvs => ?_)
 case hpin => intro i C hC; simp at hC
 simp only [parA, gslot, Nat.zero_add, Nat.reduceAdd]
 (refine Qbf (Qbc ?_); (repeat (first | refine e1 (k := ?_) | refine e2 (k := ?_) | fail)); refine Qbd ?_)
 refine Qbg 0 (h := ?_);refine Qbg 1 (h := ?_);refine Qbg 2 (h := ?_)
 (repeat' (first | refine e1 (k := ?_) | refine stepS (Qdk rfl) (k := ?_) | refine (Qcy [] c Tryz.call70 (x' := .tup [.osl 6 n 0 n, .d (dB ok)]) (hX := fun _ h => h) (H' := [.row 1 [], .row 1 [], .row 1 [], .row 1 [], .row 1 [], .row 1 [], .arr n 1 9 r]) (hH := fun _ h => h) (k := ?_)) | refine Qbd ?_ | refine Qbf ?_ | refine Qbc ?_ | fail))
 all_goals first
  |exact QbN (hx := rfl) (hH := rfl)
theorem dSeek (s : Pm.Store) (hl : Pl.Lens s) (i1 : ∀ n ∈ s.2.1.1, Pm.InI n) (i2 : ∀ n ∈ s.2.1.2, Pm.InI n) (t : Pl.Tree) (X : List UInt8) :
 Does Tryz.prog 31 [.d (dSt s), .d (dTree t), .d (dS X)] [] [] (.tup [.osl 6 (Pl.seek s t X).1.length 0 (Pl.seek s t X).1.length, .d (dB (Pl.seek s t X).2)])
  [.row 1 [], .row 1 [], .row 1 [], .row 1 [], .row 1 [], .row 1 [], .arr (Pl.seek s t X).1.length 1 9 ((Pl.seek s t X).1.map fun s => [dS s])] := by
 refine dSeek0 s t X _ _ ?_;have c := bFlatOf s hl i1 i2 t;unfold Pl.seek
 by_cases h : (Pl.Qah s && Pl.Qaq s t) = true
 ·rw [if_pos h] at c ⊢
  rw [Bool.and_eq_true] at h;have hB := flatB h.2;have hT := flatTx h.2;exact Qkr s t _ _ hB c 78 (.pd [dS X]) (Pl.QaL X) Tryz.call78 fun x hx => bSeek1 _ (Pl.QaM s t).2 X x (hT x hx)
 ·rw [if_neg h] at c ⊢
  exact Qmb s t 78 (.pd [dS X]) c
theorem Qi0 (s : Pm.Store) (hb : StB s Pm.big) (t : Pl.Tree) (X : List UInt8) (_hX : X.length <= Pm.big) : Pure Tryz.prog 7 [dSt s, dTree t, dS X] (dB true) := by
 have cz := Qn3 s hb 1048576 (by decide) (by decide)
 by_cases hl : X.length <= 1048576
 rotate_left
 ·clear cz
  (refine Qbk Tryz.func7 rfl Tryz.ntmps7 Tryz.results7 rfl ?_; simp only [parE, Nat.zero_add, Nat.reduceAdd])
  (refine Qbf (Qbc ?_); (repeat (first | refine e1 (k := ?_) | refine e2 (k := ?_) | fail)); refine Qbd ?_)
  refine Qbg 0 (h := ?_);refine Qbg 1 (h := ?_);have hd : decide ((X.length : Int) > 1048576) = true := decide_eq_true (by omega)
  (repeat' (first | refine e1 (k := ?_) | refine Qbd ?_ | refine Qbf ?_ | refine Qbc ?_ | refine Qbo (ht := fun q => ?_) (hf := fun q => ?_) | refine Qbj ?_ | fail))
  all_goals first
   |exact Qbn (hx := rfl)
   |(exfalso; rw [hd] at *; simp at *; done)
 unfold Pm.less at cz
 by_cases hw : Pm.wtStore s <= 1048576
 rotate_left
 ·rw [if_pos (by omega)] at cz
  clear hb hw
  (refine Qbk Tryz.func7 rfl Tryz.ntmps7 Tryz.results7 rfl ?_; simp only [parE, Nat.zero_add, Nat.reduceAdd])
  (refine Qbf (Qbc ?_); (repeat (first | refine e1 (k := ?_) | refine e2 (k := ?_) | fail)); refine Qbd ?_)
  refine Qbg 0 (h := ?_);refine Qbg 1 (h := ?_)
  (repeat' (first | refine e1 (k := ?_) | refine stepS (Qbe Tryz.call16 cz rfl) (k := ?_) | refine Qbd ?_ | refine Qbf ?_ | refine Qbc ?_ | refine Qbl (ht := ?_) | refine Qbo (ht := fun q => ?_) (hf := fun q => ?_) | refine Qbj ?_ | fail))
  all_goals first
   |exact Qbn (hx := rfl)
   |(exfalso; simp at *; done)
   |(exfalso; simp at *; omega)
 obtain ⟨h1, h2⟩ := QkE hb hw;have d1 := Qng s h1.l1 h1.l2 h1.l3 h1.l4 h1.l5;have c1 := Qn1 s h1;have c2 := aToTree t;have c3 := Qk4 s h2 t X (by omega);have d4 := dSeek s h2 hb.x2 hb.x3 t X;have c4 : Pure Tryz.prog 31 [dSt s, dTree t, dS X] (.tup [tStrs (Pl.seek s t X).1, dB (Pl.seek s t X).2]) := Does.pure (ds := [dSt s, dTree t, dS X]) d4 (by simp [AV.ice, List.take_of_length_le]);have c5 := QnA s s hb;rw [decide_eq_true rfl] at c5;have c6 := aEqStrs (Pl.seek s t X).1 (Pl.seek s t X).1 (by have := QiQ s t X; omega);rw [decide_eq_true rfl] at c6;have d7 := Qkj s 1 h1.l1 h1.l2 h1.l3 h1.l4 h1.l5 (by decide) (by decide)
 obtain ⟨K, m1, m2, m3, m4, m5, d7⟩ : ∃ (K : Nat) (m1 m2 m3 m4 m5 : List (List D)), Does Tryz.prog 27 [.agg [.osl 0 0 0 s.1.length, .osl 1 0 0 s.2.1.1.length, .osl 2 0 0 s.2.1.2.length, .d (dI s.2.2.1), .osl 3 0 0 s.2.2.2.1.length, .d (dI s.2.2.2.2.1), .osl 4 0 0 s.2.2.2.2.2.1.length, .d (dB s.2.2.2.2.2.2)], .d (dI (1 : Nat))]
  [.arr 0 1 9 (s.1.map fun s => [dS s]), .arr 0 1 3 (s.2.1.1.map fun n => [dI n]), .arr 0 1 3 (s.2.1.2.map fun n => [dI n]), .arr 0 5 54 (s.2.2.2.1.map rPtr), .arr 0 5 54 (s.2.2.2.2.2.1.map rPtr)]
  [.osl 0 0 0 s.1.length, .osl 1 0 0 s.2.1.1.length, .osl 2 0 0 s.2.1.2.length, .osl 3 0 0 s.2.2.2.1.length, .osl 4 0 0 s.2.2.2.2.2.1.length]
  (.d (dI (K : Nat))) [.arr 0 1 9 m1, .arr 0 1 3 m2, .arr 0 1 3 m3, .arr 0 5 54 m4, .arr 0 5 54 m5] := ⟨_, _, _, _, _, _, d7⟩
 have htl := QiQ s t X;generalize Pl.seek s t X = R at *
 obtain ⟨R, ok⟩ := R;simp only at c3 c4 c6 d4 htl;have d8 := Qh5 R R.length 1 (by omega) (by decide) (by decide)
 have c9 := Qmr (Pl.mk (fun i => Pm.mt (1 + i)) R R.length) 1 (by decide) (by rw [QcE _ (Nat.le_refl _)]; omega) (by decide) (fun i hi => by
  rw [QcE _ (Nat.le_refl _)] at hi;unfold Pl.mk
  rw [List.getElem?_append_left (by simpa using hi), List.getElem?_map, List.getElem?_range hi]; rfl)
 rw [QcE _ (Nat.le_refl _)] at c9;have hml : (Pl.mk (fun i => Pm.mt (1 + i)) R R.length).length = R.length := QcE _ (Nat.le_refl _);rw [if_neg (by omega)] at cz;have hz : 0 <= (1048576 : Int) - Pm.wtStore s := by omega
 generalize (1048576 : Int) - Pm.wtStore s = left at *
 clear h1 h2 hb hw;generalize Pl.mk (fun i => Pm.mt (1 + i)) R R.length = M at *
 (refine Qbk Tryz.func7 rfl Tryz.ntmps7 Tryz.results7 rfl ?_; simp only [parE, Nat.zero_add, Nat.reduceAdd])
 (refine Qbf (Qbc ?_); (repeat (first | refine e1 (k := ?_) | refine e2 (k := ?_) | fail)); refine Qbd ?_)
 refine Qbg 0 (h := ?_);refine Qbg 1 (h := ?_)
 (repeat' (first | refine f1 (k := ?_) | refine e1 (k := ?_) | refine stepS (Qbe Tryz.call16 cz rfl) (k := ?_) | refine Qbd ?_ | refine Qbf ?_ | refine Qbc ?_ | refine Qb1 follows_mixed (by kernel_rfl) (by kernel_rfl) ?_ | refine Qbo (ht := fun q => ?_) (hf := fun q => ?_) | refine Qbj ?_ | fail))
 ·exfalso; rename_i q; simp at q; omega
 ·exfalso; rename_i q; simp at q; omega
 refine stepD (Qbe Tryz.call18 c1 rfl) (k := ?_)
 (repeat' (first | refine f1 (k := ?_) | refine e1 (k := ?_) | refine stepD (Qbe Tryz.call19 c2 rfl) (k := ?_) | refine stepD (Qbe Tryz.call30 c3 rfl) (k := ?_) | refine Qbr ?_ | refine Qbf ?_ | refine Qbc ?_ | fail))
 refine Qcy [] d1 Tryz.call18 (x' := .agg [.osl 5 0 0 s.1.length, .osl 9 0 0 s.2.1.1.length, .osl 10 0 0 s.2.1.2.length, .d (dI s.2.2.1), .osl 11 0 0 s.2.2.2.1.length, .d (dI s.2.2.2.2.1), .osl 12 0 0 s.2.2.2.2.2.1.length, .d (dB s.2.2.2.2.2.2)]) (hX := fun _ h => h) (H' := [.row 1 [], .row 1 [], .row 1 [], .row 0 [.osl 5 0 0 s.1.length, .osl 9 0 0 s.2.1.1.length, .osl 10 0 0 s.2.1.2.length, .d (dI s.2.2.1), .osl 11 0 0 s.2.2.2.1.length, .d (dI s.2.2.2.2.1), .osl 12 0 0 s.2.2.2.2.2.1.length, .d (dB s.2.2.2.2.2.2)], .row 0 [.osl 5 0 0 s.1.length, .osl 9 0 0 s.2.1.1.length, .osl 10 0 0 s.2.1.2.length, .d (dI s.2.2.1), .osl 11 0 0 s.2.2.2.1.length, .d (dI s.2.2.2.2.1), .osl 12 0 0 s.2.2.2.2.2.1.length, .d (dB s.2.2.2.2.2.2)], .arr 0 1 9 (s.1.map fun s => [dS s]), .row 1 [], .row 0 [.osl 9 0 0 s.2.1.1.length, .osl 10 0 0 s.2.1.2.length], .row 0 [.osl 9 0 0 s.2.1.1.length, .osl 10 0 0 s.2.1.2.length], .arr 0 1 3 (s.2.1.1.map fun n => [dI n]), .arr 0 1 3 (s.2.1.2.map fun n => [dI n]), .arr 0 5 54 (s.2.2.2.1.map rPtr), .arr 0 5 54 (s.2.2.2.2.2.1.map rPtr)]) (hH := fun _ h => h) (k := ?_);refine QcH 3 (h := ?_);refine QcH 4 (h := ?_);refine QcH 7 (h := ?_);refine QcH 8 (h := ?_)
 (repeat' (first | refine f1 (k := ?_) | refine e1 (k := ?_) | refine stepD (Qbe Tryz.call19 c2 rfl) (k := ?_) | refine (Fg.awp_drawF (id := 9) [] [4] follows_mixed (by kernel_rfl) (by kernel_rfl) (by kernel_rfl) ?_) | refine (Fg.aw_fltN ?_) | refine (Fg.aw_planFC (by rfl) (by kernel_rfl) rfl ?_) | refine (Fg.aw_planFN ?_) | refine (Qnv (ds := [dSt s, dTree t, dS X]) d4 Tryz.call31 (hd := ?_) (hx := rfl) (hH1 := ?_) (x' := .tup [.osl 20 R.length 0 R.length, .d (dB ok)]) (hX := fun _ h => h) (H' := [.row 1 [], .row 1 [], .row 1 [], .row 1 [], .row 1 [], .arr 0 1 9 (s.1.map fun s => [dS s]), .row 1 [], .row 1 [], .row 1 [], .arr 0 1 3 (s.2.1.1.map fun n => [dI n]), .arr 0 1 3 (s.2.1.2.map fun n => [dI n]), .arr 0 5 54 (s.2.2.2.1.map rPtr), .arr 0 5 54 (s.2.2.2.2.2.1.map rPtr), .row 0 [.osl 5 0 0 s.1.length, .osl 9 0 0 s.2.1.1.length, .osl 10 0 0 s.2.1.2.length, .d (dI s.2.2.1), .osl 11 0 0 s.2.2.2.1.length, .d (dI s.2.2.2.2.1), .osl 12 0 0 s.2.2.2.2.2.1.length, .d (dB s.2.2.2.2.2.2)], .row 1 [], .row 1 [], .row 1 [], .row 1 [], .row 1 [], .row 1 [], .arr R.length 1 9 (R.map fun s => [dS s])]) (hH := fun _ h => h) (k := ?_)) | refine stepS (QcU Tryz.call26 c6 rfl ?_) (k := ?_) | refine stepS (Qcq TyBool.h rfl rfl) (k := ?_) | refine Qbu (kk := ?_) | refine Qbd ?_ | refine Qbr ?_ | refine QbE ?_ | refine Qbf ?_ | refine Qbc ?_ | refine Qb1 follows_mixed (by kernel_rfl) (by kernel_rfl) ?_ | refine Qbo (ht := fun q => ?_) (hf := fun q => ?_) | refine Qbj ?_ | refine e2 (k := ?_) | fail))
 all_goals first
  |(show D.weakL _ = _
    simp [go_sem, AV.ice, D.weak, D.weakL, List.take_of_length_le, hml]; done)
  |(show List.all _ _ = true
    simp only [List.all_cons, Blk.flat, Qfw, List.isEmpty_nil, List.all_nil, Bool.and_self]; done)
  |(show ∀ g, _ -> _ ∈ _
    intro g hg;simp only [List.mem_cons, List.not_mem_nil, or_false] at hg
    rcases hg with rfl | rfl | rfl | rfl | rfl <;> simp [AV.parts, AV.ren, rho, go_sem])
  |(show ∀ g, _ -> _ ∈ _
    intro g hg;rw [List.mem_singleton.1 hg]
    simp [AV.parts, AV.ren, rho, go_sem])
  |(exfalso; simp at *; done)
  |(exfalso; simp at *; omega)
  |refine stepD (Qbe Tryz.call18 c1 rfl) (k := ?_)
 (repeat' (first | refine f1 (k := ?_) | refine e1 (k := ?_) | refine stepD (QcU Tryz.call21 c5 rfl ?_) (k := ?_) | refine stepS (QcU Tryz.call26 c6 rfl ?_) (k := ?_) | refine (QbW [5, 9, 10, 11, 12] d7 Tryz.call27 (hgl := ?_) (x' := .d (dI (K : Nat))) (hX := fun _ h => h) (H' := [.row 1 [], .row 1 [], .row 1 [], .row 1 [], .row 1 [], .arr 0 1 9 m1, .row 1 [], .row 1 [], .row 1 [], .arr 0 1 3 m2, .arr 0 1 3 m3, .arr 0 5 54 m4, .arr 0 5 54 m5, .row 0 [.osl 5 0 0 s.1.length, .osl 9 0 0 s.2.1.1.length, .osl 10 0 0 s.2.1.2.length, .d (dI s.2.2.1), .osl 11 0 0 s.2.2.2.1.length, .d (dI s.2.2.2.2.1), .osl 12 0 0 s.2.2.2.2.2.1.length, .d (dB s.2.2.2.2.2.2)], .row 1 [], .row 1 [], .row 1 [], .row 1 [], .row 1 [], .row 1 [], .arr R.length 1 9 (R.map fun s => [dS s])]) (hH := fun _ h => h) (k := ?_)) | refine (QbW [20] d8 Tryz.call28 (hgl := ?_) (x' := .d (dI ((1 + R.length : Nat) : Int))) (hX := fun _ h => h) (H' := [.row 1 [], .row 1 [], .row 1 [], .row 1 [], .row 1 [], .arr 0 1 9 m1, .row 1 [], .row 1 [], .row 1 [], .arr 0 1 3 m2, .arr 0 1 3 m3, .arr 0 5 54 m4, .arr 0 5 54 m5, .row 0 [.osl 5 0 0 s.1.length, .osl 9 0 0 s.2.1.1.length, .osl 10 0 0 s.2.1.2.length, .d (dI s.2.2.1), .osl 11 0 0 s.2.2.2.1.length, .d (dI s.2.2.2.2.1), .osl 12 0 0 s.2.2.2.2.2.1.length, .d (dB s.2.2.2.2.2.2)], .row 1 [], .row 1 [], .row 1 [], .row 1 [], .row 1 [], .row 1 [], .arr R.length 1 9 (M.map fun s => [dS s])]) (hH := fun _ h => h) (k := ?_)) | refine stepS (QcU Tryz.call29 c9 rfl ?_) (k := ?_) | refine stepS (Qcq TyBool.h rfl rfl) (k := ?_) | refine Qbd ?_ | refine Qbr ?_ | refine Qbf ?_ | refine Qbc ?_ | refine Qb1 follows_mixed (by kernel_rfl) (by kernel_rfl) ?_ | refine Qbm (hf := ?_) | refine Qbo (ht := fun q => ?_) (hf := fun q => ?_) | refine Qbj ?_ | fail))
 all_goals first
  |(show D.weakL _ = _
    simp [go_sem, AV.ice, D.weak, D.weakL, List.take_of_length_le, hml]; done)
  |(show List.all _ _ = true
    simp only [List.all_cons, Blk.flat, Qfw, List.isEmpty_nil, List.all_nil, Bool.and_self]; done)
  |(show ∀ g, _ -> _ ∈ _
    intro g hg;simp only [List.mem_cons, List.not_mem_nil, or_false] at hg
    rcases hg with rfl | rfl | rfl | rfl | rfl <;> simp [AV.parts, AV.ren, rho, go_sem])
  |(show ∀ g, _ -> _ ∈ _
    intro g hg;rw [List.mem_singleton.1 hg]
    simp [AV.parts, AV.ren, rho, go_sem])
  |(exfalso; simp at *; done)
  |(exfalso; simp at *; omega)
  |refine stepD (Qbe Tryz.call18 c1 rfl) (k := ?_)
 (repeat' (first | refine f1 (k := ?_) | refine e1 (k := ?_) | refine stepD (Qbe Tryz.call19 c2 rfl) (k := ?_) | refine stepD (Qbe Tryz.call31 c4 rfl) (k := ?_) | refine stepS (QcU Tryz.call26 c6 rfl ?_) (k := ?_) | refine stepS (QcU Tryz.call29 c9 rfl ?_) (k := ?_) | refine stepS (Qcq TyBool.h rfl rfl) (k := ?_) | refine Qbd ?_ | refine Qbr ?_ | refine Qbf ?_ | refine Qbc ?_ | refine Qbm (hf := ?_) | refine Qbo (ht := fun q => ?_) (hf := fun q => ?_) | refine Qbj ?_ | fail))
 all_goals first
  |(show D.weakL _ = _
    simp [go_sem, AV.ice, D.weak, D.weakL, List.take_of_length_le, hml]; done)
  |(show List.all _ _ = true
    simp only [List.all_cons, Blk.flat, Qfw, List.isEmpty_nil, List.all_nil, Bool.and_self]; done)
  |(show ∀ g, _ -> _ ∈ _
    intro g hg;simp only [List.mem_cons, List.not_mem_nil, or_false] at hg
    rcases hg with rfl | rfl | rfl | rfl | rfl <;> simp [AV.parts, AV.ren, rho, go_sem])
  |(show ∀ g, _ -> _ ∈ _
    intro g hg;rw [List.mem_singleton.1 hg]
    simp [AV.parts, AV.ren, rho, go_sem])
  |(exfalso; simp at *; done)
  |(exfalso; simp at *; omega)
  |exact Qbn (hx := rfl)
end Aw
end Go.Proofs.YtdjkdcokjoiokaaGreatDoor

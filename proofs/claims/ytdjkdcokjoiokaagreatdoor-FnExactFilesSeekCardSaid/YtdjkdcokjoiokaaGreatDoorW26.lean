/- Part 26 of seek_card: contracts, walks, laws; no condition beyond the statement's. -/
import Derived.Test.YtdjkdcokjoiokaaGreatDoorW24
import Derived.Test.YtdjkdcokjoiokaaGreatDoorW25
set_option linter.all false
set_option maxRecDepth 100000
set_option maxHeartbeats 8000000
namespace Go.Proofs.YtdjkdcokjoiokaaGreatDoor
open Go.RowKit
namespace Aw
attribute [local irreducible] ASeq ADraw AWP Loc
theorem set_mid {α : Type} {A R : List α} {a v : α} {k : Nat} (h : A.length = k) : (A ++ a :: R).set k v = A ++ v :: R := by subst h; simp
theorem get_mid {α : Type} {A R : List α} {a : α} {k : Nat} (h : A.length = k) : (A ++ a :: R)[k]? = some a := by subst h; simp
theorem bNodes (s : Pm.Store) (hg : Pl.Good s) (htx : 0 <= s.2.2.1) (t : Pl.Tree) : Pure Tryz.prog 226 [.pd (rSt s), dTree t] (.tup [tNds (if Pl.Qa2 s t then Pl.Qaa s t else []), dB (Pl.Qa2 s t)]) := by
 have c1 := bLeaves s hg htx t;have hd : Hid (Pl.Qa2 s t = (Pl.Qaf s t && (Pl.Qaa s t).all fun x => (x == []) || ((Pl.ng x).2 && Pl.Qaf s (Pl.ng x).1.tree))) := Pm.hid rfl;have hlv : Hid (∀ t, Pl.Qaf s t = (Pl.Qae s t).2) := Pm.hid fun t => by unfold Pl.Qae; split <;> simp_all
 cases ht : Pl.Qaf s t
 ·have e : Pl.Qae s t = ([], false) := by unfold Pl.Qae; rw [if_neg (by rw [ht]; simp)]
  rw [e] at c1;have hno : Pl.Qa2 s t = false := by rw [hd.out, ht]; rfl
  rw [hno]
  (refine Qbk Tryz.func226 rfl Tryz.ntmps226 Tryz.results226 rfl ?_; simp only [parE, Nat.zero_add, Nat.reduceAdd])
  (refine Qbf (Qbc ?_); (repeat (first | refine e1 (k := ?_) | refine e2 (k := ?_) | fail)); refine Qbd ?_)
  refine Qbg 0 (h := ?_)
  (repeat' (first | refine e1 (k := ?_) | refine stepS (Qbe Tryz.call148 c1 rfl) (k := ?_) | refine Qbd ?_ | refine Qbf ?_ | refine Qbc ?_ | refine Qbl (ht := ?_) | fail))
  refine Qcl 4 true 1 (h := ?_);exact Qbn (hx := rfl)
 have e2 : (Pl.Qae s t).2 = true := by rw [<- hlv.out, ht]
 have hlen := Qcr ht;have hho := Pm.hid (QcK ht);have htx2 := Pm.hid (Qc4 ht);rw [ht, Bool.true_and] at hd;rw [e2] at c1;rw [<- hlen.1] at hlen;generalize (Pl.Qae s t).1 = l at *
 have hl16 : l.length <= 16 := hlen.2
 have hNo : Hid (∀ (k : Nat) p, l[k]? = some p -> (((Pl.rd s.1 p).1 == []) || ((Pl.ng (Pl.rd s.1 p).1).2 && Pl.Qaf s (Pl.ng (Pl.rd s.1 p).1).1.tree)) = false -> Pl.Qa2 s t = false) := Pm.hid fun k p hk h => by
  rw [hd.out, <- htx2.out, List.all_map];exact QhL hk h
 have hYes : Hid (l.all (fun p => ((Pl.rd s.1 p).1 == []) || ((Pl.ng (Pl.rd s.1 p).1).2 && Pl.Qaf s (Pl.ng (Pl.rd s.1 p).1).1.tree)) = true -> Pl.Qa2 s t = true /\ (Pl.Qaa s t).map (fun x => [Pl.ndD x]) = l.map (fun p => [Pl.ndD (Pl.rd s.1 p).1])) := Pm.hid fun h => by
  rw [hd.out, <- htx2.out, List.all_map, List.map_map];exact ⟨h, rfl⟩
 clear hd htx2 hlen e2 ht;generalize hres : Pl.Qa2 s t = res at *
 generalize hrt : Pl.Qaa s t = txs at *
 clear hres hrt
 (refine Qbk Tryz.func226 rfl Tryz.ntmps226 Tryz.results226 rfl ?_; simp only [parE, Nat.zero_add, Nat.reduceAdd])
 (refine Qbf (Qbc ?_); (repeat (first | refine e1 (k := ?_) | refine e2 (k := ?_) | fail)); refine Qbd ?_)
 refine Qbg 0 (h := ?_)
 (repeat' (first | refine e1 (k := ?_) | refine stepS (Qbe Tryz.call148 c1 rfl) (k := ?_) | refine stepS2 (Qcw Ty.h rfl Ty.h rfl rfl rfl (by simp; omega) (by omega)) (k := ?_) | refine Qbd ?_ | refine Qbf ?_ | refine Qbc ?_ | refine Qbm (hf := ?_) | refine Qbj ?_ | refine Qbi ?_ | fail))
 refine Qby (fun m st => ∃ (k : Nat) (rows : List (List D)), k <= l.length /\ m = l.length - k /\ rows.length = l.length /\ Hid (rows = (l.take k).map (fun p => [Pl.ndD (Pl.rd s.1 p).1]) ++ List.replicate (l.length - k) [D.v (.pointer none)]) /\
  Hid ((l.take k).all (fun p => ((Pl.rd s.1 p).1 == []) || ((Pl.ng (Pl.rd s.1 p).1).2 && Pl.Qaf s (Pl.ng (Pl.rd s.1 p).1).1.tree)) = true) /\
  st = ⟨64, [(0, .d (.pd (rSt s))), (28, .d (tPtrs l)), (29, .d (dI l.length)), (30, .d (dI k)), (8, .osl 1 0 0 l.length)], [.row 1 [], .arr 0 1 261 rows]⟩) [0, 28, 29, 30, 8] 2 l.length
  ⟨0, List.replicate l.length [D.v (.pointer none)], by omega, rfl, by simp, Pm.hid (by simp), Pm.hid rfl, by simp [keepE, go_sem]⟩ (round := ?_)
 rintro m st ⟨k, rows, hk, rfl, hlen, hR, hA, rfl⟩
 (repeat (first | refine e1 (k := ?_) | refine Qbd ?_ | refine Qbf ?_ | refine Qbc ?_ | fail))
 cases q4 : decide ((k : Int) < (l.length : Int))
 ·(repeat' (first | refine e1 (k := ?_) | refine Qbd ?_ | refine Qbf ?_ | refine Qbc ?_ | refine Qbm (hf := ?_) | refine Qbq ?_ | fail))
  refine Qbg 1 (h := ?_);refine Qbn (hx := ?_);have : k = l.length := by simp at q4; omega
  subst this;rw [List.take_length] at hA hR;obtain ⟨r1, r2⟩ := hYes.out hA.out;rw [r1, if_pos rfl];show _ = D.tup [D.sl true 1 (txs.map fun x => [Pl.ndD x]), _];rw [r2, <- hlen, List.take_length, hR.out]; simp
 have hk2 : k < l.length := by simp at q4; omega
 obtain ⟨x, hx⟩ : ∃ x, l[k]? = some x := ⟨_, List.getElem?_eq_getElem hk2⟩;have hr := Qbx (f := rPtr) hx;obtain ⟨ho1, ho2⟩ := hho.out x (List.mem_of_getElem? hx);have c2 := Qc6 x;have c3 := bRead s hg x fun _ => ho1
 have c4 := Qnq (Pl.rd s.1 x).1 (by have := QfF s hg x; unfold Pm.big; omega);have c5 := bLeaves s hg htx (Pl.ng (Pl.rd s.1 x).1).1.tree;have hlt := hlv.out (Pl.ng (Pl.rd s.1 x).1).1.tree;have hBad := Pm.hid (hNo.out k x hx);have hGood : Hid ((((Pl.rd s.1 x).1 == []) || ((Pl.ng (Pl.rd s.1 x).1).2 && Pl.Qaf s (Pl.ng (Pl.rd s.1 x).1).1.tree)) = true -> (l.take (k + 1)).all (fun p => ((Pl.rd s.1 p).1 == []) || ((Pl.ng (Pl.rd s.1 p).1).2 && Pl.Qaf s (Pl.ng (Pl.rd s.1 p).1).1.tree)) = true) := Pm.hid fun h => QgN hx hA.out h
 have hstep : Hid (rows.set k [Pl.ndD (Pl.rd s.1 x).1] = (l.take (k + 1)).map (fun p => [Pl.ndD (Pl.rd s.1 p).1]) ++ List.replicate (l.length - (k + 1)) [D.v (.pointer none)]) := Pm.hid (by
  have e1 : l.length - k = (l.length - (k + 1)) + 1 := by omega
  rw [hR.out, e1, List.replicate_succ, set_mid (by rw [List.length_map, List.length_take, Nat.min_eq_left hk]), List.take_add_one, hx, List.map_append, List.append_assoc]; rfl)
 have hrow : rows[k]? = some [D.v (.pointer none)] := by
  have e1 : l.length - k = (l.length - (k + 1)) + 1 := by omega
  rw [hR.out, e1, List.replicate_succ, get_mid (by rw [List.length_map, List.length_take, Nat.min_eq_left hk])]
 have hsame : rows.set k [D.v (.pointer none)] = rows := by
  apply List.ext_getElem?;intro j
  by_cases hj : k = j
  ·subst hj; rw [List.getElem?_set_self (by omega), hrow]
  ·rw [List.getElem?_set_ne hj]
 have hnd : Hid (Pl.ndD (Pl.rd s.1 x).1 = if (Pl.rd s.1 x).1 = [] then D.v (.pointer none) else .pd (rNode (Pl.ng (Pl.rd s.1 x).1).1)) := Pm.hid rfl;have hrow2 : rows[0 + ((k : Nat) : Int).toNat]? = some [D.v (.pointer none)] := by simpa using hrow
 clear hx hho hA hYes hNo hlv hR;cases hh : Pl.ptrHole x;rotate_left
 ·have ht := ho2.2 hh
  rw [hh] at c2
  (repeat' (first | refine e1 (k := ?_) | refine stepS (Qbe Tryz.call199 c2 rfl) (k := ?_) | refine stepS (Qbh Ty.h rfl Ty.h rfl rfl rfl (by omega) hr) (k := ?_) | refine stepS (Qbs rfl rfl (by omega)) (k := ?_) | refine Qbu (kk := ?_) | refine Qbd ?_ | refine Qbp ?_ | refine Qbf ?_ | refine Qbc ?_ | refine Qbl (ht := ?_) | refine Qbj ?_ | refine Qbi ?_ | refine e2 (k := ?_) | refine Qbq ?_ | fail))
  refine Qbt (l.length - (k + 1)) (by omega) ⟨k + 1, rows, by omega, rfl, hlen, Pm.hid ?_, Pm.hid (hGood.out (by rw [ht]; rfl)), by simp [keepE, go_sem]⟩;rw [<- hstep.out, hnd.out, if_pos ht, hsame]
 rw [hh] at c2;have ht : (Pl.rd s.1 x).1 ≠ [] := fun e => by rw [ho2.1 e] at hh; cases hh
 rw [if_neg ht] at hnd;have hne : ((Pl.rd s.1 x).1 == []) = false := by simpa using ht
 rw [hne, Bool.false_or] at hBad hGood;clear ho1 ho2 hh hsame hne;generalize Pl.rd s.1 x = rb at *
 obtain ⟨tx, fine⟩ := rb;simp only at *
 generalize Pl.Qae s (Pl.ng tx).1.tree = lp at *
 obtain ⟨lp1, lp2⟩ := lp;simp only at hlt c5;rw [hlt] at hBad hGood;generalize Pl.ndD tx = ndx at *
 generalize Pl.ng tx = nn at *
 obtain ⟨⟨kind, links, size, ⟨⟨p1, p2, p3, p4, p5⟩, depth, many⟩⟩, nok⟩ := nn;simp only at *
 (repeat' (first | refine e1 (k := ?_) | refine stepS (Qbe Tryz.call199 c2 rfl) (k := ?_) | refine stepS (Qbe Tryz.call223 c3 rfl) (k := ?_) | refine stepS (Qbe Tryz.call287 c4 rfl) (k := ?_) | refine stepS (Qbe Tryz.call148 c5 rfl) (k := ?_) | refine stepS (Qbh Ty.h rfl Ty.h rfl rfl rfl (by omega) hr) (k := ?_) | refine stepS (Qb4 Ty.h rfl Ty.h rfl rfl rfl rfl (by omega) (by omega)) (k := ?_) | refine (Qce Ty.h rfl rfl hrow2 rfl (kk := ?_)) | (show ASeq _ _ _ (⟨none, .store _ (.tmp 61) _, _, _, _, _⟩ :: _) _; refine QcH 3 (C := .row 0 _) (h := ?_)) | refine stepS (Qbs rfl rfl (by omega)) (k := ?_) | refine Qbu (kk := ?_) | refine Qbd ?_ | refine Qbp ?_ | refine Qb0 ?_ | refine Qbf ?_ | refine Qbc ?_ | refine Qbl (ht := ?_) | refine Qbm (hf := ?_) | refine Qbo (ht := fun q => ?_) (hf := fun q => ?_) | refine Qbj ?_ | refine Qbi ?_ | refine e2 (k := ?_) | fail))
 ·refine Qcl 4 true 1 (h := ?_)
  refine Qbn (hx := ?_);rw [hBad.out (by simp_all)]; rfl
 ·refine Qcl 4 true 1 (h := ?_)
  refine Qbn (hx := ?_);rw [hBad.out (by simp_all)]; rfl
 ·refine Qbt (l.length - (k + 1)) (by omega) ⟨k + 1, rows.set k [ndx], by omega, rfl, by simpa using hlen, hstep, Pm.hid (hGood.out (by simp_all)), ?_⟩
  rw [hnd.out];simp [keepE, go_sem]
end Aw
end Go.Proofs.YtdjkdcokjoiokaaGreatDoor

/- Part 37 of seek_card: contracts, walks, laws; no condition beyond the statement's. -/
import Derived.Test.YtdjkdcokjoiokaaGreatDoorW36
import Derived.Laws.BytesArg
set_option linter.all false
set_option maxRecDepth 100000
set_option maxHeartbeats 16000000
namespace Go.Proofs.YtdjkdcokjoiokaaGreatDoor
section
open Go.RowKit
namespace Aw
attribute [local irreducible] ASeq ADraw AWP Loc AStep Fg.PlanF Fg.Flts
theorem info_U8 : (Tryz.prog.info? 5).map (fun i => (i.zero, i.size, i.bytes)) = some (some (.int .u8 0), 1, 1) := by kernel_rfl
theorem Qmo (n : Nat) (h : n <= 12) : Pure Tryz.prog 273 [dI n] (dS (List.replicate n 0)) := by
 refine QbI (vs := [.int .i64 n]) (x := .string ⟨(List.replicate n (0 : UInt8)).toArray⟩) rfl fun w _ => ?_
 have hso : strOfNums (List.replicate n 0) = ⟨(List.replicate n (0 : UInt8)).toArray⟩ := by unfold strOfNums; rw [List.map_replicate]; rfl
 have hmk := Pm.run_mk (P := Tryz.prog) 197 5 _ 1 1 Tryz.underlying197 info_U8 n (by omega) (by omega) w
 have hcv := run_convert_bytes_arg (P := Tryz.prog) (w.alloc (.cells (madeCells (Value.int .u8 0).cells (n * 1)) 5)) 197 5 Tryz.underlying197 Tryz.underlying5 w.heap.size 0 n n (List.replicate n 0) (by simp) (fun i hi => by
  rw [Nat.zero_add, cell_of_row _ _ i _ _ _ (Qck _ _)]
  simp [madeCells, Value.cells, Nat.mod_one, List.getD_eq_getElem?_getD, hi]) 9 Tryz.underlying9
 simp only [Value.cells, Nat.mul_one] at hmk hcv;rw [hso] at hcv;clear hso
 go_enter Tryz.func273, Tryz.ntmps273
 go_wp2
 all_goals
  go_ret
  exact ⟨rfl, Pm.bnew _ _⟩
theorem fill_eq {n : Pl.Node} (h : Pl.Qak n = true) (hk : n.kind = 1) {k : Nat} (hm : (k : Int) < n.tree.many) {l : List (List UInt8)} (hp : Pl.Qaz n.size l k = true) :
 ((l.getD k []).length : Int) <= Pl.long n.size k /\ Pl.long n.size k <= 12 /\ (Pl.fill (l.getD k []) (Pl.QaD n.size k)).1 = l.getD k [] ++ List.replicate (Pl.long n.size k - (l.getD k []).length).toNat 0 := by
 obtain ⟨h1, h2⟩ := QdW h hk hm
 have hb : Pl.inR (Pl.long n.size k) 0 12 = true := by
  unfold Pl.inR Pl.long;simp only [Bool.and_eq_true, decide_eq_true_eq];split <;> omega
 have hl : ((l.getD k []).length : Int) <= Pl.long n.size k := by
  unfold Pl.Qaz at hp;rw [Bool.and_eq_true, decide_eq_true_eq] at hp;exact hp.1
 refine ⟨hl, by unfold Pl.long; split <;> omega, ?_⟩;unfold Pl.fill;rw [QfI h1, hb, decide_eq_true hl]; rfl
theorem Qnz (s : Pm.Store) (hg : Pl.Good s) (n : Pl.Node) (hf : Pl.Qam s n = true) : Pure Tryz.prog 202 [dSt s, dNode n] (dS (Pl.Qa9 s n)) := by
 have hf2 := hf;unfold Pl.Qam at hf2;simp only [Bool.and_eq_true, beq_iff_eq] at hf2;obtain ⟨⟨⟨h1, h2⟩, h3⟩, h4⟩ := hf2;have ht := QbL h3;have hs := (QcI h1).size;have c := Qeu s hg n.tree ht;have hl := texts_len s ht;have hm := ht.manyHi;have hm0 := ht.manyLo
 have hX : Hid (Pl.Qa9 s n = Pl.Qa5 n.size (Pl.Qaa s n.tree) (Pl.Qaa s n.tree).length) := Pm.hid (by
  unfold Pl.Qa9
  rw [if_pos hf, Qc4 h3, (Qcr h3).1, hl])
 have hP : Hid (∀ k, k < (Pl.Qaa s n.tree).length -> (((Pl.Qaa s n.tree).getD k []).length : Int) <= Pl.long n.size k /\ Pl.long n.size k <= 12 /\ (Pl.fill ((Pl.Qaa s n.tree).getD k []) (Pl.QaD n.size k)).1 = (Pl.Qaa s n.tree).getD k [] ++ List.replicate (Pl.long n.size k - ((Pl.Qaa s n.tree).getD k []).length).toNat 0) := Pm.hid fun k hk =>
  fill_eq h1 h2 (by omega) (List.all_eq_true.1 h4 k (List.mem_range.2 (by omega)))
 rw [hX.out];clear hf h1 h3 h4 ht hX;generalize Pl.Qaa s n.tree = l at *
 obtain ⟨kind, links, size, ⟨⟨p1, p2, p3, p4, p5⟩, depth, many⟩⟩ := n;simp only at h2 hs hl hm hm0 hP c ⊢;subst h2
 (refine Qbk Tryz.func202 rfl Tryz.ntmps202 Tryz.results202 rfl ?_; simp only [parE, Nat.zero_add, Nat.reduceAdd])
 (refine Qbf (Qbc ?_); (repeat (first | refine e1 (k := ?_) | refine e2 (k := ?_) | fail)); refine Qbd ?_)
 refine Qbg 0 (h := ?_);refine Qbg 1 (h := ?_)
 (repeat' (first | refine e1 (k := ?_) | refine stepS (Qbe Tryz.call116 c rfl) (k := ?_) | refine Qbd ?_ | refine Qbf ?_ | refine Qbc ?_ | refine Qbi ?_ | fail))
 refine Qby (fun m st => ∃ (k : Nat), k <= l.length /\ m = 16 - k /\ (Pl.Qa5 size l k).length <= 12 * k /\
  st = ⟨37, [(6, .d (tStrs l)), (7, .d (dI k)), (5, .d (dS (Pl.Qa5 size l k))), (3, .d (.pd (rNode ⟨1, links, size, ⟨⟨p1, p2, p3, p4, p5⟩, depth, many⟩⟩)))], []⟩) [6, 7, 5, 3] 0 16 ⟨0, by omega, rfl, by simp [Pl.Qa5], rfl⟩ (round := ?_)
 rintro m st ⟨k, hk, rfl, hpl, rfl⟩
 (repeat (first | refine e1 (k := ?_) | refine Qbd ?_ | refine Qbf ?_ | refine Qbc ?_ | fail))
 cases q4 : decide ((k : Int) < many)
 ·(repeat' (first | refine e1 (k := ?_) | refine Qbd ?_ | refine Qbf ?_ | refine Qbc ?_ | refine Qbm (hf := ?_) | refine Qbq ?_ | fail))
  refine Qbn (hx := ?_);have : k = l.length := by simp at q4; omega
  rw [this]
 have hk2 : k < l.length := by simp at q4; omega
 obtain ⟨x, hx⟩ : ∃ x, l[k]? = some x := ⟨_, List.getElem?_eq_getElem hk2⟩;have hr := Qbx (f := fun s => [dS s]) hx;obtain ⟨f1, f2, f3⟩ := hP.out k hk2;have hd : l.getD k [] = x := by rw [List.getD_eq_getElem?_getD, hx]; rfl
 have hst := QdR size l k;rw [hd] at f1 f3 hst;rw [f3] at hst
 replace hst := Pm.hid hst
 have c13 := Qj5 size k hs.1 hs.2 (by omega);obtain ⟨z, hz⟩ := Int.eq_ofNat_of_zero_le (show 0 <= Pl.long size k - x.length by omega);have cz := Qmo z (by omega);rw [hz, Int.toNat_natCast] at hst
 have hlen : (Pl.Qa5 size l (k + 1)).length <= 12 * (k + 1) := by
  rw [hst.out]; simp only [List.length_append, List.length_replicate]; omega
 rw [hst.out] at hlen;clear hx hP f3 hd
 (repeat' (first | refine e1 (k := ?_) | refine stepS (Qbe Tryz.call254 c13 rfl) (k := ?_) | refine stepS (Qbh Ty.h rfl Ty.h rfl rfl rfl (by omega) hr) (k := ?_) | refine stepS (QbJ rfl rfl (by simp only [List.length_append, List.length_replicate] at *; omega)) (k := ?_) | ((rw [hz]; refine stepS (Qbe Tryz.call273 cz rfl) (k := ?_))) | refine stepS (Qbs rfl rfl (by omega)) (k := ?_) | refine stepS (QbB rfl rfl (by omega)) (k := ?_) | refine Qbd ?_ | refine Qbp ?_ | refine Qb0 ?_ | refine Qbf ?_ | refine Qbc ?_ | refine Qbl (ht := ?_) | refine Qbj ?_ | refine Qbi ?_ | fail))
 all_goals first
  |(refine Qbt (16 - (k + 1)) (by omega) ⟨k + 1, by omega, rfl, by rw [hst.out]; exact hlen, ?_⟩
    rw [hst.out]
    simp [keepE, go_sem]; done)
theorem Pure.imp {P : Program} {f : FuncId} {l : List D} {x y : D} (h : Pure P f l x) (hxy : ∀ (S : Nat -> Prop) (w : World) (v : Value), RelD S w x v -> RelD S w y v) : Pure P f l y := by
 intro B σ S H w cargs hB hS hl hr;refine (h B σ S H w cargs hB hS hl hr).mono ?_;rintro e w' ⟨v, h1, h2, h3⟩;exact ⟨v, h1, h2, hxy _ _ _ h3⟩
theorem RelD.nil {S : Nat -> Prop} {w : World} {v : Value} (h : RelD S w (.v (.slice none 0 0)) v) (n : Nat) : RelD S w (.sl true n []) v := by cases h; exact .slnil _ _ _ _
abbrev dFlat (F : List Gr.It × List Pl.Th) : D := .agg [.sl true 2 (F.1.map rIt), .sl true 3 (F.2.map rTh)]
theorem RelD.nilFlat {S : Nat -> Prop} {w : World} {v : Value} (h : RelD S w (.agg [.v (.slice none 0 0), .v (.slice none 0 0)]) v) : RelD S w (dFlat ([], [])) v := by
 cases h with
 |agg _ cs hl hr =>
  match cs, hl with
  |[a, b], _ =>
   refine .agg _ _ rfl fun i d x hd hx => ?_
   match i, hd, hx with
   |0, hd, hx => obtain rfl := Option.some.inj hd; exact (hr 0 _ x rfl hx).nil 2
   |1, hd, hx => obtain rfl := Option.some.inj hd; exact (hr 1 _ x rfl hx).nil 3
theorem RelD.nilFlat2 {S : Nat -> Prop} {w : World} {v : Value} {b : Bool} (h : RelD S w (.tup [.agg [.v (.slice none 0 0), .v (.slice none 0 0)], dB b]) v) : RelD S w (.tup [dFlat ([], []), dB b]) v := by
 cases h with
 |tup _ cs hl hr =>
  refine .tup _ cs hl fun i d x hd hx => ?_
  match i, hd with
  |0, hd => obtain rfl := Option.some.inj hd; exact (hr 0 _ x rfl hx).nilFlat
  |1, hd => obtain rfl := Option.some.inj hd; exact hr 1 _ x rfl hx
theorem Qc5 {s : Pm.Store} {t : Pl.Tree} (h : Pl.Qaq s t = true) : ∃ L, Pl.FPx s (Pl.Qaa s t) [([], 0)] L /\ L.length <= 144 /\ (Pl.QaA s t).1 = L.map Pl.itOf := by
 have hF := (Qdz s t).1 h;unfold Pl.Qaq at h;simp only [Bool.and_eq_true, beq_iff_eq] at h;obtain ⟨L, g1, g2, g3⟩ := Qg1 s hF.root h.1.2;exact ⟨L, g1, g2, by rw [g3]⟩
noncomputable def Pl.QaM (s : Pm.Store) (t : Pl.Tree) : List Gr.It × List Pl.Th := ((Pl.QaA s t).1.map fun x => (x.1, x.2.toNat), Pl.ths s (Pl.Qaa s t) (Pl.Qaa s t).length)
theorem Qdn {s : Pm.Store} {t : Pl.Tree} {L : List Gr.It} (h : (Pl.QaA s t).1 = L.map Pl.itOf) : Pl.QaM s t = (L, Pl.ths s (Pl.Qaa s t) (Pl.Qaa s t).length) := by
 unfold Pl.QaM;rw [h, List.map_map]
 congr 1
 conv => rhs; rw [<- List.map_id L]
 exact List.map_congr_left fun x _ => by simp [Pl.itOf]
theorem al17Of (s : Pm.Store) (hg : Pl.Good s) (t : Pl.Tree) : Pure Tryz.prog 128 [dSt s, dTree t] (if Pl.Qaq s t then .tup [dFlat (Pl.QaM s t), dB true] else .tup [dFlat ([], []), dB false]) := by
 have c1 := al15All s hg t;cases h0 : Pl.Qaq s t
 ·unfold Pl.QaQ at c1
  rw [h0] at c1;rw [if_neg (by simp)];refine Pure.imp (x := .tup [.agg [.v (.slice none 0 0), .v (.slice none 0 0)], dB false]) ?_ fun _ _ _ => RelD.nilFlat2
  (refine Qb2 Tryz.func128 rfl Tryz.ntmps128 Tryz.results128 rfl ?_; simp only [parE, Nat.zero_add, Nat.reduceAdd])
  (refine Qbf (Qbc ?_); (repeat (first | refine e1 (k := ?_) | refine e2 (k := ?_) | fail)); refine Qbd ?_)
  refine Qbg 0 (h := ?_);refine Qbg 1 (h := ?_)
  (repeat' (first | refine e1 (k := ?_) | refine stepS (Qbe Tryz.call115 c1 rfl) (k := ?_) | refine Qbu (kk := ?_) | refine Qbd ?_ | refine Qbf ?_ | refine Qbc ?_ | refine Qbl (ht := ?_) | fail))
  (refine Qbg 2 (h := ?_); refine QbA (hx := ?_))
  rfl
 ·rw [if_pos rfl]
  obtain ⟨L, hL, hl, hfd⟩ := Qc5 h0;rw [Qdn hfd];have hF := (Qdz s t).1 h0;have ht := Qhz h0;have c2 := QhN s hg t ht;obtain ⟨htx, hx16, hno⟩ := QeM hF.tab;unfold Pl.QaQ at c1;rw [h0, if_pos rfl, hfd] at c1;have hm : (L.map Pl.itOf).map rFnd = L.map rIt := by rw [List.map_map]; rfl
  simp only [tFnds] at c1;rw [hm] at c1;have c3 := Pm.hid fun k h => Qnz s hg _ (hF.file k h)
  have hnd : Pl.Qac s t = Pl.Qab (Pl.Qaa s t) := rfl
  have hkf : Hid (∀ k, k < (Pl.Qac s t).length -> ((Pl.Qac s t).getD k Pl.zn).kind = 0 /\ Pl.thg s (Pl.Qaa s t) k = [] ∨ ((Pl.Qac s t).getD k Pl.zn).kind = 2 /\ Pl.thg s (Pl.Qaa s t) k = [(k, true, [])] ∨
   ((Pl.Qac s t).getD k Pl.zn).kind = 1 /\ Pl.thg s (Pl.Qaa s t) k = [(k, false, Pl.Qa9 s ((Pl.Qac s t).getD k Pl.zn))]) := Pm.hid fun k _ => by
   have hc := Qch (nsOk s t) k;unfold Pl.thg;rw [<- hnd];rcases hc with hc | hc | hc
   ·exact .inl ⟨hc, by rw [if_pos (by unfold Pl.Qad; rw [hc]; rfl)]⟩
   ·exact .inr (.inr ⟨hc, by rw [if_neg (by unfold Pl.Qad; rw [hc]; decide), hc]; rfl⟩)
   ·refine .inr (.inl ⟨hc, ?_⟩)
    rw [if_neg (by unfold Pl.Qad; rw [hc]; decide), hc]
    have : Pl.Qa9 s ((Pl.Qac s t).getD k Pl.zn) = [] := by
     unfold Pl.Qa9 Pl.Qam;rw [hc]; simp
    rw [this]; rfl
  have hln : (Pl.Qaa s t).length = (Pl.Qac s t).length := by rw [hnd]; exact (List.length_map ..).symm
  have hst := Pm.hid (QeL s (Pl.Qaa s t));have htl := Pm.hid (Qgi s (Pl.Qaa s t));rw [hln] at hx16 ⊢;have hz : Pl.ths s (Pl.Qaa s t) 0 = [] := rfl;clear h0 hF ht htx hno hL hm hfd hnd hln;generalize Pl.ths s (Pl.Qaa s t) = th at *
  generalize Pl.thg s (Pl.Qaa s t) = tg at *
  generalize Pl.Qac s t = ns at *
  (refine Qb2 Tryz.func128 rfl Tryz.ntmps128 Tryz.results128 rfl ?_; simp only [parE, Nat.zero_add, Nat.reduceAdd])
  (refine Qbf (Qbc ?_); (repeat (first | refine e1 (k := ?_) | refine e2 (k := ?_) | fail)); refine Qbd ?_)
  refine Qbg 0 (h := ?_);refine Qbg 1 (h := ?_)
  (repeat' (first | refine e1 (k := ?_) | refine stepS (Qbe Tryz.call115 c1 rfl) (k := ?_) | refine stepS (Qbe Tryz.call56 c2 rfl) (k := ?_) | refine stepS2 (Qbz Ty.h rfl Ty.h) (k := ?_) | refine Qbu (kk := ?_) | refine Qbd ?_ | refine Qbf ?_ | refine Qbc ?_ | refine Qbm (hf := ?_) | refine Qbj ?_ | refine Qbi ?_ | refine e2 (k := ?_) | fail))
  refine Qby (fun mm st => ∃ k : Nat, k <= ns.length /\ mm = ns.length - k /\
   st = ⟨62, [(10, .d (dI k)), (9, .d (.sl true 10 (ns.map rNode))), (8, .ptr 4 0 0), (4, .ptr 2 0 0), (2, .d (.pd (rSt s)))],
    [.row 1 [], .row 1 [], .row 0 [.d (.v (.slice none 0 0)), .d (.v (.slice none 0 0))], .arr (th k).length 3 123 ((th k).map rTh), .row 0 [.d (.sl true 2 (L.map rIt)), .osl 3 (th k).length 0 (th k).length]]⟩) [10, 9, 8, 4, 2] 5 ns.length ⟨0, by omega, rfl, by rw [hz]; simp [keepE, go_sem]⟩ (round := ?_)
  rintro mm st ⟨k, hk, rfl, rfl⟩;have hlk := htl.out k
  (repeat (first | refine e1 (k := ?_) | refine Qbd ?_ | refine Qbf ?_ | refine Qbc ?_ | fail))
  cases q3 : decide ((k : Int) < (ns.length : Int))
  ·have : k = ns.length := by simp at q3; omega
   rw [<- this]
   (repeat' (first | refine e1 (k := ?_) | refine Qbu (kk := ?_) | refine Qbd ?_ | refine Qbf ?_ | refine Qbc ?_ | refine Qbm (hf := ?_) | refine Qbq ?_ | fail))
   refine Qbg 3 (h := ?_);refine Qbg 2 (h := ?_);refine QbA (hx := ?_);simp [List.take_of_length_le]
  have hk2 : k < ns.length := by simp at q3; omega
  obtain ⟨nd, hnd⟩ : ∃ nd, ns[k]? = some nd := ⟨_, List.getElem?_eq_getElem hk2⟩;have hgd : ns.getD k Pl.zn = nd := by rw [List.getD_eq_getElem?_getD, hnd]; rfl
  have hr := Qbx (f := rNode) hnd;have hkc := hkf.out k hk2;have hth := hst.out k;have c4 := c3.out k;rw [hgd] at hkc c4;clear hnd hgd hkf hst c3 htl;generalize Pl.Qa9 s nd = tx at *
  generalize hth2 : th (k + 1) = t2 at *
  generalize th k = t1 at *
  obtain ⟨kd, links, size, tree⟩ := nd;simp only at hkc c4;rcases hkc with ⟨rfl, htg⟩ | ⟨rfl, htg⟩ | ⟨rfl, htg⟩
  ·rw [htg, List.append_nil] at hth
   clear c4
   (repeat' (first | refine e1 (k := ?_) | refine stepS (Qbh Ty.h rfl Ty.h rfl rfl rfl (by omega) hr) (k := ?_) | refine stepS (Qbs rfl rfl (by omega)) (k := ?_) | refine Qbd ?_ | refine Qbp ?_ | refine Qbf ?_ | refine Qbc ?_ | refine Qbl (ht := ?_) | refine Qbm (hf := ?_) | refine Qbj ?_ | refine Qbi ?_ | fail))
   all_goals first
    |(exfalso; simp at *; done)
    |(refine Qbt (ns.length - (k + 1)) (by omega) ⟨k + 1, by omega, rfl, ?_⟩
      rw [hth2, hth]
      simp [keepE, go_sem]; done)
  ·rw [htg] at hth
   clear c4
   (repeat' (first | refine e1 (k := ?_) | refine stepS (Qbh Ty.h rfl Ty.h rfl rfl rfl (by omega) hr) (k := ?_) | refine QbO Ty.h rfl Ty.h (hb := ?_) (kk := ?_) | refine stepS (Qbs rfl rfl (by omega)) (k := ?_) | refine stepS2 (Qbz Ty.h rfl Ty.h) (k := ?_) | refine Qbu (kk := ?_) | refine Qbd ?_ | refine Qbp ?_ | refine Qb0 ?_ | refine Qbf ?_ | refine Qbc ?_ | refine Qbl (ht := ?_) | refine Qbj ?_ | refine Qbi ?_ | fail))
   all_goals first
    |(exfalso; simp at *; done)
    |(show ((t1.map rTh).length + 1) * 40 <= 140737488355328
      rw [List.length_map]; omega)
    |(show ((t1.map rTh).length + 1) * 32 <= 140737488355328
      rw [List.length_map]; omega)
    |(refine Qbt (ns.length - (k + 1)) (by omega) ⟨k + 1, by omega, rfl, ?_⟩
      rw [hth2, hth]
      simp [keepE, go_sem]; done)
  ·rw [htg] at hth
   have c4 := c4 rfl
   (repeat' (first | refine f1 (k := ?_) | refine e1 (k := ?_) | refine stepD (Qbh Ty.h rfl Ty.h rfl rfl rfl (by omega) hr) (k := ?_) | refine stepS (Qbh Ty.h rfl Ty.h rfl rfl rfl (by omega) hr) (k := ?_) | refine stepD (Qbe Tryz.call202 c4 rfl) (k := ?_) | refine (Fg.awp_drawF (id := 13) [] [11, 13] follows_mixed (by kernel_rfl) (by kernel_rfl) (by kernel_rfl) ?_) | refine (Fg.aw_fltN ?_) | refine (Fg.aw_planFC (by rfl) (by kernel_rfl) rfl ?_) | refine (Fg.aw_planFN ?_) | refine Qjz Ty.h rfl Ty.h (hb := ?_) (kk := ?_) | refine (Qcb (kk := ?_)) | refine stepS (Qbs rfl rfl (by omega)) (k := ?_) | refine stepD2 (Qbz Ty.h rfl Ty.h) (k := ?_) | refine Qbd ?_ | refine Qbp ?_ | refine Qbr ?_ | refine QbE ?_ | refine Qbf ?_ | refine Qbc ?_ | refine Qbl (ht := ?_) | refine Qbm (hf := ?_) | refine Qbj ?_ | refine Qbi ?_ | fail))
   all_goals first
    |(exfalso; simp at *; done)
    |(show ((t1.map rTh).length + 1) * 40 <= 140737488355328
      rw [List.length_map]; omega)
    |(show ((t1.map rTh).length + 1) * 32 <= 140737488355328
      rw [List.length_map]; omega)
    |(refine Qbt (ns.length - (k + 1)) (by omega) ⟨k + 1, by omega, rfl, ?_⟩
      rw [hth2, hth]
      simp [keepE, go_sem]; done)
end Aw
end
section
open Go.RowKit
namespace Aw
attribute [local irreducible] ASeq ADraw AWP Loc mget mset AStep Fg.PlanF Fg.Flts
theorem bFlatOf (s : Pm.Store) (hl : Pl.Lens s) (i1 : ∀ n ∈ s.2.1.1, Pm.InI n) (i2 : ∀ n ∈ s.2.1.2, Pm.InI n) (t : Pl.Tree) :
 Pure Tryz.prog 130 [dSt s, dTree t] (if Pl.Qah s && Pl.Qaq s t then .tup [dFlat (Pl.QaM s t), dB true] else .tup [dFlat ([], []), dB false]) := by
 have hg : Pl.Qah s = true -> Pl.Good s /\ 0 <= s.2.2.1 := fun h => ⟨Qe9 h, QhT h⟩
 have hTx : Pl.Qah s = true -> Pl.Qbb s := fun h n hn _ => (bTextA s (hg h).1 (hg h).2 n hn).imp fun S w v hv => by
  cases hv with
  |tup _ cs hl hr =>
   refine .tup _ cs hl fun i d x hd hx => ?_
   match i, hd with
   |0, hd => obtain rfl := Option.some.inj hd; exact .any _
   |1, hd => obtain rfl := Option.some.inj hd; exact hr 1 _ x rfl hx
 have c1 := Qnr s t (Qnl s hl.b1 hl.b2 hl.b3 hl.b4 i1 i2) hg hTx;have hlk := Qhy s t
 by_cases hok : (Pl.Qah s && Pl.Qaq s t) = true
 rotate_left
 ·rw [if_neg hok]
  obtain ⟨a, ha⟩ : ∃ a, Pl.inD s t = .tup [a, dB false] := by
   unfold Pl.inD Pl.QaS;split
   ·split
    ·rename_i h1 h2
     rw [h1, <- hlk, h2] at hok;exact ⟨_, by rw [show Pl.QaV s (Pl.Qaa s t) = false by simpa using hok]⟩
    ·exact ⟨_, rfl⟩
   ·exact ⟨_, rfl⟩
  rw [ha] at c1;refine Pure.imp (x := .tup [.agg [.v (.slice none 0 0), .v (.slice none 0 0)], dB false]) ?_ fun _ _ _ => RelD.nilFlat2
  (refine Qb2 Tryz.func130 rfl Tryz.ntmps130 Tryz.results130 rfl ?_; simp only [parE, Nat.zero_add, Nat.reduceAdd])
  (refine Qbf (Qbc ?_); (repeat (first | refine e1 (k := ?_) | refine e2 (k := ?_) | fail)); refine Qbd ?_)
  refine Qbg 0 (h := ?_);refine Qbg 1 (h := ?_)
  (repeat' (first | refine e1 (k := ?_) | refine stepS (Qbe Tryz.call119 c1 rfl) (k := ?_) | refine Qbu (kk := ?_) | refine Qbd ?_ | refine Qbf ?_ | refine Qbc ?_ | refine Qbl (ht := ?_) | fail))
  (refine Qbg 2 (h := ?_); refine QbA (hx := ?_))
  rfl
 ·rw [if_pos hok]
  rw [Bool.and_eq_true] at hok;obtain ⟨h1, h2⟩ := hok;have hF := (Qdz s t).1 h2;obtain ⟨L, hL, hll, hfd⟩ := Qc5 h2;rw [Qdn hfd];rw [h2, Bool.and_eq_true] at hlk
  have hin : Pl.inD s t = .tup [.pd (rFiles s t (Pl.Qaa s t) (Pl.dirM s (Pl.Qaa s t) (Pl.Qaa s t).length)), dB true] := by
   unfold Pl.inD Pl.QaS;rw [if_pos h1, if_pos hlk.1, hlk.2]
  rw [hin] at c1;obtain ⟨htx, hx16, hno⟩ := QeM hF.tab;have c2 := bFlat s (hg h1).1 (hg h1).2 t (Pl.Qaa s t) htx hx16 hno _ (QlN s (Pl.Qaa s t)) L hL hll;clear hin h1 h2 hF hL hll hfd hlk htx hx16 hno hg;generalize Pl.ths s (Pl.Qaa s t) (Pl.Qaa s t).length = th at *
  generalize Pl.dirM s (Pl.Qaa s t) (Pl.Qaa s t).length = m at *
  generalize Pl.Qaa s t = x at *
  (refine Qb2 Tryz.func130 rfl Tryz.ntmps130 Tryz.results130 rfl ?_; simp only [parE, Nat.zero_add, Nat.reduceAdd])
  (refine Qbf (Qbc ?_); (repeat (first | refine e1 (k := ?_) | refine e2 (k := ?_) | fail)); refine Qbd ?_)
  refine Qbg 0 (h := ?_);refine Qbg 1 (h := ?_)
  (repeat' (first | refine e1 (k := ?_) | refine stepS (Qbe Tryz.call119 c1 rfl) (k := ?_) | refine stepS (Qbe Tryz.call203 c2 rfl) (k := ?_) | refine Qbu (kk := ?_) | refine Qbd ?_ | refine Qbf ?_ | refine Qbc ?_ | refine Qbm (hf := ?_) | refine Qbj ?_ | fail))
  (refine Qbg 2 (h := ?_); refine QbA (hx := ?_))
  rfl
theorem bIsNaN (a : Int) : Pure Tryz.prog 276 [dI a] (dB false) := by
 (refine Qbk Tryz.func276 rfl Tryz.ntmps276 Tryz.results276 rfl ?_; simp only [parE, Nat.zero_add, Nat.reduceAdd])
 (repeat' (first | refine e1 (k := ?_) | refine Qbd ?_ | refine Qbf ?_ | refine Qbc ?_ | fail))
 exact Qbn (hx := by simp)
def Pl.cmpI (a b : Int) : Int := if a < b then -1 else if b < a then 1 else 0
theorem bCmpInt (a b : Int) : Pure Tryz.prog 206 [dI a, dI b] (dI (Pl.cmpI a b)) := by
 have hd : Hid (Pl.cmpI a b = if a < b then -1 else if b < a then 1 else 0) := Pm.hid rfl;generalize Pl.cmpI a b = r at *
 (refine Qbk Tryz.func206 rfl Tryz.ntmps206 Tryz.results206 rfl ?_; simp only [parE, Nat.zero_add, Nat.reduceAdd])
 (repeat' (first | refine e1 (k := ?_) | refine stepS (Qbe Tryz.call276 (bIsNaN _) rfl) (k := ?_) | refine Qbd ?_ | refine Qbf ?_ | refine Qbc ?_ | refine Qbm (hf := ?_) | refine Qbo (ht := fun q => ?_) (hf := fun q => ?_) | refine Qbj ?_ | fail))
 all_goals first
  |(exfalso; simp at *; done)
  |(refine Qbn (hx := ?_)
    rw [hd.out];simp only [decide_eq_true_eq, decide_eq_false_iff_not] at *
    first
     |rw [if_pos (by assumption)]
     |(rw [if_neg (by assumption), if_pos (by omega)]; done)
     |(rw [if_neg (by assumption), if_neg (by omega)]; done))
theorem bThing1 (x : Pl.Th) (k : Int) : Pure Tryz.prog 205 [.agg (rTh x), dI k] (dI (Pl.cmpI x.1 k)) := by
 have c := bCmpInt x.1 k;generalize Pl.cmpI x.1 k = r at *
 (refine Qbk Tryz.func205 rfl Tryz.ntmps205 Tryz.results205 rfl ?_; simp only [parE, Nat.zero_add, Nat.reduceAdd])
 (refine Qbf (Qbc ?_); (repeat (first | refine e1 (k := ?_) | refine e2 (k := ?_) | fail)); refine Qbd ?_)
 refine Qbg 0 (h := ?_)
 (repeat' (first | refine e1 (k := ?_) | refine stepS (Qbe Tryz.call206 c rfl) (k := ?_) | refine Qbd ?_ | refine Qbf ?_ | refine Qbc ?_ | fail))
 exact Qbn (hx := rfl)
def Pl.ThAsc (T : List Pl.Th) : Prop := T.Pairwise fun a b => a.1 < b.1
theorem QiL {T : List Pl.Th} (h : Pl.ThAsc T) {i j : Nat} (hi : i < T.length) (hj : j < T.length) (hij : i < j) : T[i].1 < T[j].1 := List.pairwise_iff_getElem.1 h i j hi hj hij
theorem Qmc (T : List Pl.Th) (ha : Pl.ThAsc T) (hl : T.length <= 1000) (i : Nat) (x : Pl.Th) (hx : T[i]? = some x) :
 PureF Tryz.prog 204 [.d (.sl true 3 (T.map rTh)), .d (dI (x.1 : Nat)), .fn (.func 205) []] (.tup [dI i, dB true]) := by
 have hi : i < T.length := (List.getElem?_eq_some_iff.1 hx).1;have hxi : T[i] = x := (List.getElem?_eq_some_iff.1 hx).2;have hTl : (T.map rTh).length = T.length := List.length_map ..
 have hc : Hid (∀ j y, T[j]? = some y -> (j < i -> Pl.cmpI y.1 x.1 = -1) /\ (j = i -> Pl.cmpI y.1 x.1 = 0) /\ (i < j -> Pl.cmpI y.1 x.1 = 1)) := Pm.hid fun j y hy => by
  have hj : j < T.length := (List.getElem?_eq_some_iff.1 hy).1;have hyj : T[j] = y := (List.getElem?_eq_some_iff.1 hy).2;unfold Pl.cmpI;refine ⟨fun h => ?_, fun h => ?_, fun h => ?_⟩
  ·have := QiL ha hj hi h
   rw [hxi, hyj] at this;rw [if_pos (by omega)]
  ·subst h
   rw [hyj] at hxi; subst hxi;rw [if_neg (by omega), if_neg (by omega)]
  ·have := QiL ha hi hj h
   rw [hxi, hyj] at this;rw [if_neg (by omega), if_pos (by omega)]
 replace ha := Pm.hid ha
 clear hxi
 (refine Qcz Tryz.func204 rfl Tryz.ntmps204 Tryz.results204 rfl ?_; simp only [parA, Nat.zero_add, Nat.reduceAdd])
 (repeat' (first | refine e1 (k := ?_) | refine Qbd ?_ | refine Qbf ?_ | refine Qbc ?_ | refine Qbi ?_ | fail))
 refine Qby (fun m st => ∃ a b : Nat, a <= i /\ i <= b /\ b <= T.length /\ m = b - a /\
  st = ⟨49, [(9, .d (dI a)), (10, .d (dI b)), (8, .d (dI T.length)), (0, .d (.sl true 3 (T.map rTh))), (1, .d (dI (x.1 : Nat))), (2, .fn (.func 205) [])], []⟩) [9, 10, 8, 0, 1, 2] 0 T.length ⟨0, T.length, by omega, by omega, by omega, by omega, by simp [keepE, go_sem]⟩ (round := ?_)
 rintro m st ⟨a, b, hai, hib, hb, rfl, rfl⟩
 (repeat (first | refine e1 (k := ?_) | refine Qbd ?_ | refine Qbf ?_ | refine Qbc ?_ | fail))
 by_cases q3 : a < b
 rotate_left
 ·have e : a = i := by omega
  subst e;have hr := Qbx (f := rTh) hx;have c := bThing1 x (x.1 : Nat);rw [(hc.out _ x hx).2.1 rfl] at c;clear hx hc
  (repeat' (first | refine e1 (k := ?_) | refine e0 (k := ?_) | refine stepS (Qbh Ty.h rfl Ty.h rfl rfl rfl (by omega) hr) (k := ?_) | refine stepS (Qcp Tryz.call205 c rfl rfl) (k := ?_) | refine stepS (Qbs rfl rfl (by omega)) (k := ?_) | refine Qbd ?_ | refine Qbf ?_ | refine Qbc ?_ | refine Qbo (ht := fun q => ?_) (hf := fun q => ?_) | refine Qbj ?_ | refine QcN ?_ | refine Qbi ?_ | refine Qbq ?_ | ((fail_if_success show ASeq _ _ _ _ ⟨_, (_, .d (.v (.bool true))) :: _, _⟩); (fail_if_success show ASeq _ _ _ _ ⟨_, (_, .d (.v (.bool false))) :: _, _⟩); refine splitS (fun q => ?_) (fun q => ?_))))
  all_goals first
   |(exfalso; simp only [decide_eq_true_eq, decide_eq_false_iff_not] at *; omega)
   |(refine QbA (hx := ?_); rfl)
 have hm : (a + b) / 2 < T.length := by omega
 obtain ⟨y, hy⟩ : ∃ y, T[(a + b) / 2]? = some y := ⟨_, List.getElem?_eq_getElem hm⟩;have hr := Qbx (f := rTh) hy;have c := bThing1 y (x.1 : Nat);have h3 := Pm.hid (hc.out _ y hy);generalize hmv : (a + b) / 2 = mm at *
 have hmi : (((a : Int) + b) / 2) = (mm : Int) := by omega
 clear hx hy hc;generalize Pl.cmpI y.1 x.1 = r at *
 (repeat' (first | refine e1 (k := ?_) | refine e0 (k := ?_) | refine stepS (Qho (D1 := .int .i64) (k' := .u64) (m := (a : Int) + b) (by kernel_rfl) (by kernel_rfl) rfl rfl (by rw [IntKind.wrap_u64]; omega)) (k := ?_) | refine stepS (QmH rfl rfl (by omega)) (k := ?_) | refine stepS (Qho (D1 := .int .u64) (k' := .i64) (m := (mm : Int)) (by kernel_rfl) (by kernel_rfl) rfl rfl (by rw [hmi, IntKind.wrap_i64]; omega)) (k := ?_) | refine stepS (Qbh Ty.h rfl Ty.h rfl rfl rfl (by omega) hr) (k := ?_) | refine stepS (Qcp Tryz.call205 c rfl rfl) (k := ?_) | refine stepS (Qbs rfl rfl (by omega)) (k := ?_) | refine Qbd ?_ | refine Qb0 ?_ | refine Qbf ?_ | refine Qbc ?_ | refine Qbo (ht := fun q => ?_) (hf := fun q => ?_) | refine Qbj ?_ | refine QcN ?_ | refine Qbi ?_ | refine Qbq ?_ | refine Qfi ?_ | ((fail_if_success show ASeq _ _ _ _ ⟨_, (_, .d (.v (.bool true))) :: _, _⟩); (fail_if_success show ASeq _ _ _ _ ⟨_, (_, .d (.v (.bool false))) :: _, _⟩); refine splitS (fun q => ?_) (fun q => ?_))))
 all_goals first
  |(exfalso; simp only [decide_eq_true_eq, decide_eq_false_iff_not] at *; omega)
  |(have hlt : mm < i := by
     rcases Nat.lt_trichotomy mm i with h | h | h
     ·exact h
     ·have := h3.out.2.1 h; simp only [decide_eq_true_eq] at *; omega
     ·have := h3.out.2.2 h; simp only [decide_eq_true_eq] at *; omega
    exact Qbt (b - (mm + 1)) (by omega) ⟨mm + 1, b, by omega, by omega, hb, rfl, by simp [keepE, go_sem]⟩)
  |(have hge : i <= mm := by
     rcases Nat.lt_or_ge mm i with h | h
     ·have := h3.out.1 h; simp only [decide_eq_false_iff_not] at *; omega
     ·exact h
    exact Qbt (mm - a) (by omega) ⟨a, mm, by omega, by omega, by omega, rfl, by simp [keepE, go_sem]⟩)
theorem bThing (N : List (List D)) (T : List Pl.Th) (ha : Pl.ThAsc T) (hl : T.length <= 1000) (x : Pl.Th) (hx : x ∈ T) : Pure Tryz.prog 131 [.pd [.sl true 2 N, .sl true 3 (T.map rTh)], dI (x.1 : Nat)] (.pd (rTh x)) := by
 obtain ⟨i, hi⟩ := List.getElem?_of_mem hx;have hr := Qbx (f := rTh) hi;have c := Qmc T ha hl i x hi;clear hi ha
 (refine Qbk Tryz.func131 rfl Tryz.ntmps131 Tryz.results131 rfl ?_; simp only [parE, Nat.zero_add, Nat.reduceAdd])
 (repeat' (first | refine e1 (k := ?_) | refine stepS (QbF rfl) (k := ?_) | refine stepS (Qc0 Tryz.call204 c rfl rfl) (k := ?_) | refine stepS (Qbh Ty.h rfl Ty.h rfl rfl rfl (by omega) hr) (k := ?_) | refine Qbd ?_ | refine Qbf ?_ | refine Qbc ?_ | refine Qbm (hf := ?_) | refine Qbj ?_ | fail))
 all_goals first
  |exact Qbn (hx := rfl)
  |(exfalso; simp at *; done)
end Aw
end
section
open Go.RowKit
namespace Aw
attribute [local irreducible] ASeq ADraw AWP Loc AStep Fg.PlanF Fg.Flts
def Pl.thAt (T : List Pl.Th) (k : Nat) : Pl.Th := (T.find? fun x => x.1 == k).getD (0, false, [])
structure Pl.FlatB (F : List Gr.It × List Pl.Th) : Prop where
 asc : F.2.Pairwise fun a b => a.1 < b.1
 has : ∀ n ∈ F.1, ∃ x ∈ F.2, x.1 = n.2
 nl : F.1.length <= 144
 tl : F.2.length <= 16
theorem QiK {F : List Gr.It × List Pl.Th} (h : Pl.FlatB F) {n : Gr.It} (hn : n ∈ F.1) : Pl.thAt F.2 n.2 ∈ F.2 /\ (Pl.thAt F.2 n.2).1 = n.2 := by
 obtain ⟨x, hx, hxn⟩ := h.has n hn;unfold Pl.thAt;cases hf : F.2.find? fun x => x.1 == n.2 with
 |none => exact absurd hxn (by have := List.find?_eq_none.1 hf x hx; simpa using this)
 |some y => exact ⟨List.mem_of_find?_eq_some hf, by have := List.find?_some hf; simpa using this⟩
def Pl.Qa3 (F : List Gr.It × List Pl.Th) (h : Pl.Th -> Bool) (l : List Gr.It) : List (List UInt8) := (l.filter fun n => !(Pl.thAt F.2 n.2).2.1 && h (Pl.thAt F.2 n.2)).map fun n => Pl.Qao n.1
theorem QfE (F : List Gr.It × List Pl.Th) (h : Pl.Th -> Bool) (l : List Gr.It) (n : Gr.It) : Pl.Qa3 F h (l ++ [n]) = Pl.Qa3 F h l ++ if (!(Pl.thAt F.2 n.2).2.1 && h (Pl.thAt F.2 n.2)) = true then [Pl.Qao n.1] else [] := by
 unfold Pl.Qa3;rw [List.filter_append, List.map_append, List.filter_cons, List.filter_nil]
 congr 1
 split <;> rfl
theorem QeW (F : List Gr.It × List Pl.Th) (h : Pl.Th -> Bool) (l : List Gr.It) : (Pl.Qa3 F h l).length <= l.length := by
 unfold Pl.Qa3; rw [List.length_map]; exact List.length_filter_le ..
theorem Qmn (N : List (List D)) (T : List Pl.Th) (hl : T.length <= 1000) (x : Pl.Th) (hx : x ∈ T) (ha : T.Pairwise fun a b => a.1 < b.1) (i : Nat) (hi : T[i]? = some x) : Pure Tryz.prog 129 [.agg [.sl true 2 N, .sl true 3 (T.map rTh)], dI (x.1 : Nat)] (dI i) := by
 have hil : i < T.length := (List.getElem?_eq_some_iff.1 hi).1;have hix : T[i] = x := (List.getElem?_eq_some_iff.1 hi).2;have hTl : (T.map rTh).length = T.length := List.length_map ..
 have hne : Hid (∀ k y, T[k]? = some y -> ((y.1 : Int) = x.1 ↔ k = i)) := Pm.hid fun k y hy => by
  have hk : k < T.length := (List.getElem?_eq_some_iff.1 hy).1;have hky : T[k] = y := (List.getElem?_eq_some_iff.1 hy).2;rw [List.pairwise_iff_getElem] at ha;constructor
  ·intro e
   rcases Nat.lt_trichotomy k i with h | h | h
   ·have := ha k i hk hil h; rw [hky, hix] at this; omega
   ·exact h
   ·have := ha i k hil hk h; rw [hky, hix] at this; omega
  ·rintro rfl; rw [<- hky, hix]
 clear ha hx hix
 (refine Qbk Tryz.func129 rfl Tryz.ntmps129 Tryz.results129 rfl ?_; simp only [parE, Nat.zero_add, Nat.reduceAdd])
 (refine Qbf (Qbc ?_); (repeat (first | refine e1 (k := ?_) | refine e2 (k := ?_) | fail)); refine Qbd ?_)
 refine Qbg 0 (h := ?_)
 (repeat (first | refine e1 (k := ?_) | refine Qbd ?_ | refine Qbf ?_ | refine Qbc ?_ | refine Qbi ?_ | fail))
 refine Qby (fun m st => ∃ k : Nat, k <= i /\ m = i - k /\ st = ⟨22, [(5, .d (dI k)), (1, .d (dI (x.1 : Nat))), (2, .d (.pd [.sl true 2 N, .sl true 3 (T.map rTh)]))], []⟩) [5, 1, 2] 0 i ⟨0, by omega, rfl, by simp [keepE, go_sem]⟩ (round := ?_);rintro m st ⟨k, hk, rfl, rfl⟩;obtain ⟨y, hy⟩ : ∃ y, T[k]? = some y := ⟨_, List.getElem?_eq_getElem (by omega)⟩;have hr := Qbx (f := rTh) hy;have hiff := Pm.hid (hne.out k y hy);clear hy hne
 (repeat' (first | refine e1 (k := ?_) | refine stepS (Qbh Ty.h rfl Ty.h rfl rfl rfl (by omega) hr) (k := ?_) | refine stepS (Qbs rfl rfl (by omega)) (k := ?_) | refine Qbd ?_ | refine Qbp ?_ | refine Qbf ?_ | refine Qbc ?_ | refine Qbo (ht := fun q => ?_) (hf := fun q => ?_) | refine Qbj ?_ | refine Qbi ?_ | refine Qbq ?_ | fail))
 all_goals first
  |(exfalso; simp only [decide_eq_true_eq, decide_eq_false_iff_not] at *; omega)
  |(have : k = i := hiff.out.1 (by simpa using q)
    subst this
    exact Qbn (hx := rfl))
  |(have hki : k ≠ i := fun e => by have := hiff.out.2 e; rw [this] at q; simp at q
    exact Qbt (i - (k + 1)) (by omega) ⟨k + 1, by omega, rfl, by simp [keepE, go_sem]⟩)
theorem Qmm (N : List (List D)) (T : List Pl.Th) (hl : T.length <= 1000) (x : Pl.Th) (hx : x ∈ T) (ha : T.Pairwise fun a b => a.1 < b.1) : Pure Tryz.prog 69 [.agg [.sl true 2 N, .sl true 3 (T.map rTh)], dI (x.1 : Nat)] (.agg (rTh x)) := by
 obtain ⟨i, hi⟩ := List.getElem?_of_mem hx;have c := Qmn N T hl x hx ha i hi;have hr := Qbx (f := rTh) hi;have hil : i < T.length := (List.getElem?_eq_some_iff.1 hi).1;clear hi ha hx
 (refine Qb2 Tryz.func69 rfl Tryz.ntmps69 Tryz.results69 rfl ?_; simp only [parE, Nat.zero_add, Nat.reduceAdd])
 (refine Qbf (Qbc ?_); (repeat (first | refine e2 (k := ?_) | fail)); refine Qbd ?_)
 refine Qbg 0 (h := ?_)
 (repeat' (first | refine e1 (k := ?_) | refine stepS (Qbe Tryz.call129 c rfl) (k := ?_) | refine stepS (Qbh Ty.h rfl Ty.h rfl rfl rfl (by omega) hr) (k := ?_) | refine Qbu (kk := ?_) | refine Qbd ?_ | refine Qbf ?_ | refine Qbc ?_ | fail))
 (refine Qbg 1 (h := ?_); refine QbA (hx := ?_))
 rfl
theorem aFlatOf (s : Pm.Store) (hl : Pl.Lens s) (t : Pl.Tree) : Pure Tryz.prog 68 [dSt s, dTree t] (if Pl.Qah s && Pl.Qaq s t then .tup [dFlat (Pl.QaM s t), dB true] else .tup [dFlat ([], []), dB false]) := by
 have c1 := Qn5 s hl.b1 hl.b2 hl.b3 hl.b4;cases h : Pl.Qah s
 ·rw [h] at c1
  rw [if_neg (by simp)];refine Pure.imp (x := .tup [.agg [.v (.slice none 0 0), .v (.slice none 0 0)], dB false]) ?_ fun _ _ _ => RelD.nilFlat2
  (refine Qb2 Tryz.func68 rfl Tryz.ntmps68 Tryz.results68 rfl ?_; simp only [parE, Nat.zero_add, Nat.reduceAdd])
  (refine Qbf (Qbc ?_); (repeat (first | refine e1 (k := ?_) | refine e2 (k := ?_) | fail)); refine Qbd ?_)
  refine Qbg 0 (h := ?_);refine Qbg 1 (h := ?_)
  (repeat' (first | refine e1 (k := ?_) | refine stepS (Qbe Tryz.call127 c1 rfl) (k := ?_) | refine Qbu (kk := ?_) | refine Qbd ?_ | refine Qbf ?_ | refine Qbc ?_ | refine Qbl (ht := ?_) | fail))
  (refine Qbg 2 (h := ?_); refine QbA (hx := ?_))
  rfl
 ·rw [h] at c1
  rw [Bool.true_and];have c2 := al17Of s (Qe9 h) t;obtain ⟨F, b, hFb⟩ : ∃ F b, (if Pl.Qaq s t then D.tup [dFlat (Pl.QaM s t), dB true] else .tup [dFlat ([], []), dB false]) = .tup [dFlat F, dB b] := by split <;> exact ⟨_, _, rfl⟩
  rw [hFb] at c2 ⊢;clear hFb h
  (refine Qb2 Tryz.func68 rfl Tryz.ntmps68 Tryz.results68 rfl ?_; simp only [parE, Nat.zero_add, Nat.reduceAdd])
  (refine Qbf (Qbc ?_); (repeat (first | refine e1 (k := ?_) | refine e2 (k := ?_) | fail)); refine Qbd ?_)
  refine Qbg 0 (h := ?_);refine Qbg 1 (h := ?_)
  (repeat' (first | refine e1 (k := ?_) | refine stepS (Qbe Tryz.call127 c1 rfl) (k := ?_) | refine stepS (Qbe Tryz.call128 c2 rfl) (k := ?_) | refine Qbu (kk := ?_) | refine Qbd ?_ | refine Qbf ?_ | refine Qbc ?_ | refine Qbm (hf := ?_) | refine Qbj ?_ | fail))
  (refine Qbg 2 (h := ?_); refine QbA (hx := ?_))
  rfl
end Aw
end
section
open Go.RowKit
namespace Aw
attribute [local irreducible] ASeq ADraw AWP Loc mget mset AStep Fg.PlanF Fg.Flts
end Aw
end
end Go.Proofs.YtdjkdcokjoiokaaGreatDoor

/- Part 28 of seek_card: contracts, walks, laws; no condition beyond the statement's. -/
import Derived.Test.YtdjkdcokjoiokaaGreatDoorW16
import Derived.Deep.AppendSrc
set_option linter.all false
namespace Go.Proofs.YtdjkdcokjoiokaaGreatDoor
open Go.RowKit
namespace Aw
theorem QeA (b : Nat) (T : TypeId) : ∀ (vs : List Value) (o : Nat) (w : World) (cs : Array Value), w.heap[b]? = some (.cells cs T (0, 0)) -> o + vs.length <= cs.size ->
 ∃ cs2, (w.setCells b o vs).heap[b]? = some (.cells cs2 T (0, 0)) /\ cs2.size = cs.size /\ (∀ j, j < o -> cs2[j]? = cs[j]?) /\ (∀ (j : Nat) u, vs[j]? = some u -> cs2[o + j]? = some u) /\
   (∀ j, j ≠ b -> (w.setCells b o vs).heap[j]? = w.heap[j]?) /\ (w.setCells b o vs).heap.size = w.heap.size /\ (w.setCells b o vs).os = w.os /\ (w.setCells b o vs).tape = w.tape /\ (w.setCells b o vs).output = w.output
 |[], o, w, cs, h, _ => ⟨cs, h, rfl, fun _ _ => rfl, fun j u hj => by simp at hj, fun _ _ => rfl, rfl, rfl, rfl, rfl⟩
 |v :: vs, o, w, cs, h, hl => by
  rw [List.length_cons] at hl;have h1 := heap_setCell_same w b o cs T v h;obtain ⟨cs2, g1, g2, g3, g4, g5, g6, g7, g8, g9⟩ := QeA b T vs (o + 1) (w.setCell ⟨b, o, none⟩ v) _ h1 (by simp; omega);refine ⟨cs2, g1, by rw [g2]; simp, fun j hj => ?_, fun j u hj => ?_, fun j hj => (g5 j hj).trans (heap_setCell_other w _ j v hj), by rw [World.setCells, g6]; simp [World.setCell], g7, g8, g9⟩
  ·rw [g3 j (by omega), Array.getElem?_setIfInBounds_ne (by omega)]
  ·match j, hj with
   |0, hj =>
    obtain rfl : v = u := by simpa using hj
    rw [Nat.add_zero, g3 o (by omega), Array.getElem?_setIfInBounds_self_of_lt (by omega)]
   |j + 1, hj =>
    have := g4 j u (by simpa using hj);rw [<- this]; congr 1; omega
theorem Sm.appendO {B : Bs} {σ : Sg} {S : Nat -> Prop} {H : List Blk} {w : World} {k g sz off len : Nat} {T : TypeId} {rows newrows : List (List D)} {v x : Value} {P : Program} {t tx ty : TypeId} {i : TypeInfo} {z : Value} {news : List Value}
 (h : Sm B σ S H w) (hC : H[k]? = some (.arr g sz T rows)) (hv : OSl σ w k sz rows.length off len v) (hol : off + len = rows.length) (hsz : 0 < sz)
 (ht : P.underlying t = some (.slice T)) (hi : P.info? T = some i) (hz : i.zero = some z) (hsize : i.size = sz) (hzs : z.cells.size = sz)
 (hs : Src P sz tx x newrows.length news w) (hfl : Flat sz newrows (RelD S w) news) (hpos : 0 < newrows.length) (hbytes : (len + newrows.length) * i.bytes <= 140737488355328) (hmax : len + newrows.length <= 140737488355328) :
 ∃ v' w', (Builtin.append_ #[t, tx] ty #[v, x]).run P w = .ok v' w' /\
   ((∃ σ', Sm B σ' S (H.set k (.arr (g + 1) sz T (rows ++ newrows))) w' /\ Ev σ S H w σ' S (H.set k (.arr (g + 1) sz T (rows ++ newrows))) w' /\ OSl σ' w' k sz (rows ++ newrows).length off (len + newrows.length) v') ∨
    (∃ σ', Sm B σ' S (H.set k (.arr (g + 1) sz T (rows.drop off ++ newrows))) w' /\ Ev σ S H w σ' S (H.set k (.arr (g + 1) sz T (rows.drop off ++ newrows))) w' /\ OSl σ' w' k sz (rows.drop off ++ newrows).length 0 (len + newrows.length) v')) := by
 subst hsize;obtain ⟨hlen, hbk⟩ := h.blk k _ hC;have hdl : (rows.drop off).length = len := by rw [List.length_drop]; omega
 have hdlen : ∀ r ∈ rows.drop off, r.length = i.size := fun r hr => hlen r (List.mem_of_mem_drop hr)
 have grown : ∀ (xs : List Value) (old : Nat), Flat i.size (rows.drop off) (RelD S w) xs -> old < len + newrows.length -> ∃ σ',
  Sm B σ' S (H.set k (.arr (g + 1) i.size T (rows.drop off ++ newrows))) (w.drew.alloc (.cells ((xs ++ news).toArray ++ Builtin.zeroCells z.cells (grownCap w (len + newrows.length) old T - (len + newrows.length))) T)) /\
  Ev σ S H w σ' S (H.set k (.arr (g + 1) i.size T (rows.drop off ++ newrows))) (w.drew.alloc (.cells ((xs ++ news).toArray ++ Builtin.zeroCells z.cells (grownCap w (len + newrows.length) old T - (len + newrows.length))) T)) /\
  OSl σ' (w.drew.alloc (.cells ((xs ++ news).toArray ++ Builtin.zeroCells z.cells (grownCap w (len + newrows.length) old T - (len + newrows.length))) T)) k i.size (rows.drop off ++ newrows).length 0 (len + newrows.length)
   (.slice (some ⟨w.heap.size, 0, none⟩) (len + newrows.length) (grownCap w (len + newrows.length) old T)) := by
  intro xs old hxs hold;have hge := grownCap_ge w (len + newrows.length) old T;have hcm : grownCap w (len + newrows.length) old T <= maxLen := grownCap_le_maxLen w (len + newrows.length) old T (by unfold maxLen; omega);generalize grownCap w (len + newrows.length) old T = cap at *
  obtain ⟨hd, hed⟩ := h.sameHeap (w' := w.drew) rfl rfl rfl rfl;have hall := (hxs.append hfl)
  have hcs : ((xs ++ news).toArray ++ Builtin.zeroCells z.cells (cap - (len + newrows.length))).size = cap * i.size := by
   rw [Array.size_append, size_zeroCells, hzs];simp only [List.size_toArray];have := hall.1;have h2 : (rows.drop off ++ newrows).length = len + newrows.length := by rw [List.length_append, hdl]
   rw [h2] at this;rw [this, <- Nat.add_mul]; congr 1; omega
  have hget : ∀ (j : Nat) u, (xs ++ news)[j]? = some u -> ((xs ++ news).toArray ++ Builtin.zeroCells z.cells (cap - (len + newrows.length)))[j]? = some u := by
   intro j u hu;have hjl : j < (xs ++ news).length := (List.getElem?_eq_some_iff.1 hu).1;rw [Array.getElem?_append_left (by simpa using hjl)];simpa using hu
  generalize (xs ++ news).toArray ++ Builtin.zeroCells z.cells (cap - (len + newrows.length)) = cs at *
  have hf := hd.fill (κ := k) (o := .cells cs T) (C := .arr (g + 1) i.size T (rows.drop off ++ newrows)) hC ⟨by omega, rfl, rfl⟩ (fun e => ⟨hall.2.1, .inl ⟨w.heap.size, cs, Qb3 _ _ _, Qck w.drew _, fun a b r d ha hb => ?_⟩⟩)
  ·refine ⟨_, hf.1, ?_, by rw [List.length_append, hdl]; omega, .inl ⟨w.heap.size, cap, cs, T, Qb3 _ _ _, hge, hcm, by simp, Qck w.drew _, by simpa using hcs⟩⟩
   exact ⟨hf.2.s, hf.2.same, hf.2.row, hf.2.arr, hf.2.mp⟩
  ·obtain ⟨u, hu, hr⟩ := hall.2.2 a b r d ha hb
   exact ⟨u, hget _ _ hu, hr.mono (fun _ h => h) e.same⟩
 rcases hv.2 with ⟨b, cap, cs, T', hb, hl, hcm, rfl, hc, hcsz⟩ | ⟨hb, hl, rfl⟩
 ·rcases hbk with ⟨b', cs', hb', hc', hrel⟩ | ⟨hb', _⟩
  rotate_left
  ·rw [hb] at hb'; cases hb'
  rw [hb] at hb'; obtain rfl := Option.some.inj hb';rw [hc] at hc';obtain ⟨rfl, rfl⟩ : cs = cs' /\ T' = T := by injection (Option.some.inj hc') with h1 h2; exact ⟨h1, h2⟩
  by_cases hroom : len + newrows.length <= cap
  ·have hfit : off * i.size + len * i.size + news.length <= cs.size := by
    rw [hfl.1, hcsz, <- Nat.add_mul, <- Nat.add_mul]; exact Nat.mul_le_mul_right _ (by omega)
   obtain ⟨cs2, g1, g2, g3, g4, g5, g6, g7, g8, g9⟩ := QeA b T' news (off * i.size + len * i.size) w cs hc hfit
   have hthere : ∀ j, j < news.length -> ∃ c, w.cell? ⟨b, off * i.size + len * i.size + j, none⟩ = some c := fun j hj =>
    ⟨_, by rw [cell_of_row w b _ cs T' (0, 0) hc]; exact Array.getElem?_eq_getElem (by omega)⟩
   have hr := run_append_room_src (P := P) w t tx ty T' i ht hi b (off * i.size) len cap x newrows.length news hs hroom (fun j hj => by obtain ⟨c, hc⟩ := hthere j hj; rw [hc]; rfl)
    (fun j hj => frozen_of_row w b _ cs T' hc)
   have htn := h.turn (w' := w.setCells b (off * i.size + len * i.size) news) (C' := .arr (g + 1) i.size T' (rows ++ newrows)) hb hC ⟨by omega, rfl, rfl, fun e => by omega⟩ g7 g8 g9 g6 g5
    (fun cs0 T0 h0 => by
      rw [hc] at h0;obtain ⟨rfl, rfl⟩ : cs = cs0 /\ T' = T0 := by injection (Option.some.inj h0) with h1 h2; exact ⟨h1, h2⟩
      exact ⟨_, g1, g2⟩)
    (fun e => ⟨fun r hr => by rcases List.mem_append.1 hr with hr | hr; exact hlen r hr; exact hfl.2.1 r hr, .inl ⟨b, cs2, hb, g1, fun a j r d ha hj => ?_⟩⟩)
   ·exact ⟨_, _, hr, .inl ⟨σ, htn.1, htn.2, by rw [List.length_append]; omega, .inl ⟨b, cap, cs2, T', hb, hroom, hcm, rfl, g1, by rw [g2]; exact hcsz⟩⟩⟩
   ·have hrl : rows.length * i.size = off * i.size + len * i.size := by rw [<- Nat.add_mul, hol]
    rcases Nat.lt_or_ge a rows.length with hlt | hge
    ·rw [List.getElem?_append_left hlt] at ha
     obtain ⟨u, hu, hrr⟩ := hrel a j r d ha hj;have hjl : j < i.size := by have := (List.getElem?_eq_some_iff.1 hj).1; rw [hlen r (List.mem_of_getElem? ha)] at this; exact this
     have hlt2 : a * i.size + j < rows.length * i.size := by
      have h2 : (a + 1) * i.size <= rows.length * i.size := Nat.mul_le_mul_right _ (by omega);rw [Nat.add_mul] at h2; omega
     exact ⟨u, by rw [g3 _ (by omega)]; exact hu, hrr.mono (fun _ h => h) e.same⟩
    ·rw [List.getElem?_append_right hge] at ha
     obtain ⟨u, hu, hrr⟩ := hfl.2.2 _ j r d ha hj;have := g4 _ u hu;refine ⟨u, ?_, hrr.mono (fun _ h => h) e.same⟩;rw [<- this]; congr 1;have h3 : (a - rows.length) * i.size + rows.length * i.size = a * i.size := by rw [<- Nat.add_mul]; congr 1; omega
     omega
  ·have hxs : Flat i.size (rows.drop off) (RelD S w) ((cs.toList.drop (off * i.size)).take (len * i.size)) := by
    refine ⟨?_, hdlen, fun a j r d ha hj => ?_⟩
    ·rw [hdl, List.length_take, List.length_drop, Array.length_toList, hcsz]
     have : len * i.size <= cap * i.size := Nat.mul_le_mul_right _ hl;rw [Nat.add_mul]; omega
    ·have ha2 := ha
     rw [List.getElem?_drop] at ha;obtain ⟨u, hu, hrr⟩ := hrel _ j r d ha hj;refine ⟨u, ?_, hrr⟩;have hal : a < len := by have := (List.getElem?_eq_some_iff.1 ha2).1; omega
     have hjl : j < i.size := by have := (List.getElem?_eq_some_iff.1 hj).1; rw [hlen r (List.mem_of_getElem? ha)] at this; exact this
     have hlt2 : a * i.size + j < len * i.size := by
      have h2 : (a + 1) * i.size <= len * i.size := Nat.mul_le_mul_right _ (by omega);rw [Nat.add_mul] at h2; omega
     rw [List.getElem?_take, if_pos hlt2, List.getElem?_drop];rw [Nat.add_mul] at hu;have : off * i.size + (a * i.size + j) = off * i.size + a * i.size + j := by omega
     rw [this]; simpa using hu
   have holds : (Builtin.firstCells i.size len (.slice (some ⟨b, off * i.size, none⟩) len cap)).run P w.drew = .ok ((cs.toList.drop (off * i.size)).take (len * i.size)).toArray w.drew := by
    refine run_firstCells_some w.drew i.size len ⟨b, off * i.size, none⟩ len cap _ (by rw [hxs.1, hdl]) fun j u hu => ?_
    rw [Qcg];show w.cell? _ = _;rw [cell_of_row w b _ cs T' (0, 0) hc];rw [List.getElem?_take] at hu;split at hu
    ·rw [List.getElem?_drop] at hu; simpa using hu
    ·cases hu
   have hr := run_append_grow_src (P := P) w t tx ty T' i z ht hi hz (some ⟨b, off * i.size, none⟩) len cap _ holds x newrows.length news hs (by omega) (by omega) (growslice_fits (by omega) hbytes);obtain ⟨σ', h2, h3, h4⟩ := grown _ cap hxs (by omega);exact ⟨_, _, hr, .inr ⟨σ', h2, h3, h4⟩⟩
 ·have hro : rows = [] := by
   rcases hbk with ⟨b', cs', hb', _⟩ | ⟨_, hro⟩
   ·rw [hb] at hb'; cases hb'
   ·exact hro
  subst hro;subst hl;have hr := run_append_grow_src (P := P) w t tx ty T i z ht hi hz none 0 0 [] (by simpa using run_firstCells_none w.drew i.size 0 0 0) x newrows.length news hs (by omega) (by omega) (growslice_fits (by omega) hbytes);obtain ⟨σ', h2, h3, h4⟩ := grown [] 0 ⟨by simp, fun r hr => by simp at hr, fun i j r d hi => by simp at hi⟩ (by omega);exact ⟨_, _, hr, .inr ⟨σ', h2, h3, h4⟩⟩
def SrcOk (P : Program) (H : List Blk) (x : AV) (sz : Nat) (tx : TypeId) (newrows : List (List D)) : Prop :=
 ∀ B σ S w v, Sm B σ S H w -> Rel σ S H w x v -> ∃ news, Src P sz tx v newrows.length news w /\ Flat sz newrows (RelD S w) news
theorem QkH {P : Program} {H : List Blk} {t e : TypeId} {F : TyF} [ht : Ty P t F] (he : F.elem = some e) {k g sz len : Nat} {T : TypeId} {rows : List (List D)} (hk : H[k]? = some (.arr g sz T rows)) (hlen : len = rows.length) (hpos : 0 < len) (hcell : ∀ r ∈ rows, ∀ d ∈ r, d.cell = true) :
 SrcOk P H (.osl k g 0 len) sz t rows := by
 intro B σ S w v hS h;subst hlen;cases h with
 |osl _ _ _ _ _ _ g' sz' T' rows' hk' hg hh =>
  rw [hk] at hk';obtain ⟨rfl, rfl, rfl, rfl⟩ : g = g' /\ sz = sz' /\ T = T' /\ rows = rows' := by injection (Option.some.inj hk') with h1 h2 h3 h4; exact ⟨h1, h2, h3, h4⟩
  obtain ⟨ax, cap, rfl, hn⟩ := OSl.cells hS hk (hh rfl) hcell;obtain ⟨a, news, rfl, h3, h4, h5⟩ := hn hpos;rw [List.drop_zero, List.take_length] at h3;exact ⟨news, Src.ofSlice w (QbX ht.h he) a rows.length cap news h3.1 h4 h5, h3⟩
section
variable {P : Program} {ops : Array Oper} {Q : Exit -> St -> Prop} {l : List Oper} {n : Nat} {env : List (Nat × AV)} {H : List Blk} {d : Tmp} {ty : TypeId} {pos : String} {after : Array Edge} {gd : Option (Nat × Bool)}
theorem aw_appO {t tx e : TypeId} {F E : TyF} {s x : Operand} {k g off len : Nat} {rows newrows : List (List D)} [ht : Ty P t F] (he : F.elem = some e) [hE : Ty P e E] (hz : E.zero.length = E.size := by rfl) (hpos : Nat.blt 0 E.size = true := by rfl)
 (hs : aval env s = .osl k g off len := by rfl) (hk : H[k]? = some (.arr g E.size e rows) := by rfl) (hol : off + len = rows.length) (hx : SrcOk P H (aval env x) E.size tx newrows) (hnp : 0 < newrows.length)
 (hb : (len + newrows.length) * E.bytes <= 140737488355328) (hm : len + newrows.length <= 140737488355328)
 (hw : awanted ops env ⟨some d, .call ⟨.builtin .append, #[s, x], #[t, tx]⟩, ty, pos, after, gd⟩ = some true := by rfl) (hd : Nat.blt d n = true := by rfl) (hg : gdOk ops n ⟨some d, .call ⟨.builtin .append, #[s, x], #[t, tx]⟩, ty, pos, after, gd⟩ = true := by rfl)
 (k1 : ASeq P ops Q l ⟨n, (d, .osl k (g + 1) off (len + newrows.length)) :: env, H.set k (.arr (g + 1) E.size e (rows ++ newrows))⟩)
 (k2 : ASeq P ops Q l ⟨n, (d, .osl k (g + 1) 0 (len + newrows.length)) :: env, H.set k (.arr (g + 1) E.size e (rows.drop off ++ newrows))⟩) :
 ASeq P ops Q (⟨some d, .call ⟨.builtin .append, #[s, x], #[t, tx]⟩, ty, pos, after, gd⟩ :: l) ⟨n, env, H⟩ := by
 intro B hB σ S a w hA;unfold wpList;rw [if_pos (Qeb hA hw (QcX hg))];refine .inl ?_;have hkl : k < H.length := (List.getElem?_eq_some_iff.1 hk).1;have h1 : Rel σ S H w (aval env s) (a.eval s) := Qc7 fun t _ => hA.env t
 have h2 : Rel σ S H w (aval env x) (a.eval x) := Qc7 fun t _ => hA.env t
 rw [hs] at h1;generalize hv : a.eval s = v at h1;obtain ⟨news, hsrc, hfl⟩ := hx B σ S w _ hA.sm h2;obtain ⟨dd, i, z, hdd, hi, hzz, hsz, hby, hzl, _⟩ := Qcf hE.h;have hzs : z.cells.size = E.size := by rw [<- hz, <- hzl]; simp
 have hu := QbX ht.h he;cases h1 with
 |osl _ _ _ _ _ _ g' sz' T' rows' hk' hgg hh =>
  rw [hk] at hk';obtain ⟨rfl, rfl, rfl, rfl⟩ : g = g' /\ E.size = sz' /\ e = T' /\ rows = rows' := by injection (Option.some.inj hk') with h1 h2 h3 h4; exact ⟨h1, h2, h3, h4⟩
  obtain ⟨v', w', hr, hcase⟩ := hA.sm.appendO (P := P) (ty := ty) hk (hh rfl) hol (by simpa using hpos) hu hi hzz hsz hzs hsrc hfl hnp (by rw [hby]; exact hb) hm
  have hexec : (execOp a.eval ⟨some d, .call ⟨.builtin .append, #[s, x], #[t, tx]⟩, ty, pos, after, gd⟩).run P w = .ok (.value v') w' := by
   simp only [execOp, resolve, invoke, builtin, Sem.run_bind, Sem.run_pure, Result.andThen_ok, List.map_toArray, List.map_cons, List.map_nil, hv, hr]
  have hone : ∀ {o : Nat} {R : Nat}, OSl σ w' k E.size R o (len + newrows.length) v' ∨ (∃ σ', OSl σ' w' k E.size R o (len + newrows.length) v') -> v'.oneCell' = true := fun h => by
   rcases h with ⟨_, ⟨b, cap, cs, T', _, _, _, rfl, _⟩ | ⟨_, _, rfl⟩⟩ | ⟨_, ⟨_, ⟨b, cap, cs, T', _, _, _, rfl, _⟩ | ⟨_, _, rfl⟩⟩⟩ <;> rfl
  rcases hcase with ⟨σ', g1, g2, g3⟩ | ⟨σ', g1, g2, g3⟩
  ·exact QdI hexec (k1 B hB σ' S _ w' (hA.next' (dst := some d) hd g1 (.osl k (g + 1) off _ _ (hone (.inr ⟨σ', g3⟩)) (g + 1) E.size e _ (List.getElem?_set_self hkl) (Nat.le_refl _) fun _ => g3) g2))
  ·exact QdI hexec (k2 B hB σ' S _ w' (hA.next' (dst := some d) hd g1 (.osl k (g + 1) 0 _ _ (hone (.inr ⟨σ', g3⟩)) (g + 1) E.size e _ (List.getElem?_set_self hkl) (Nat.le_refl _) fun _ => g3) g2))
end
variable {P : Program}
section
variable {ops : Array Oper} {Q : Exit -> St -> Prop} {K : St -> Prop} {l : List Oper} {n : Nat} {env : List (Nat × AV)} {H H' : List Blk} {d : Tmp} {op : Op} {ty : TypeId} {pos : String} {after : Array Edge} {gd : Option (Nat × Bool)} {x x' : AV} {gl : List AV}
theorem Qh4 (ks : List Nat) {f : FuncId} {xs : Array Operand} {tys : Array TypeId} {args : List AV} {H0 H1 : List Blk} (h : Does P f args H0 gl x H1) (hf : ∀ args w, (callFunc f args).run P w = .ok (.enter f args) w)
 (hargs : xs.toList.map (aval env) = AV.renL (rho ks H.length) args) (hks : ks.map (fun k => H[k]?) = (H0.map (Blk.ren (rho ks H.length))).map some) (hnd : ks.Nodup)
 (hla : AV.ltL H0.length args = true) (hlg : AV.ltL H0.length gl = true) (hlH : H0.all (Blk.lt H0.length) = true) (hgl : ∀ g ∈ gl, g.ren (rho ks H.length) ∈ (xs.toList.map (aval env)).flatMap AV.parts ++ H.flatMap Blk.parts)
 (hX : ∀ R : AV -> Prop, R x' -> R (x.ren (rho ks H.length))) (hH : ∀ R : List Blk -> Prop, R H' -> R (place (rho ks H.length) H ks H1 ++ (H1.drop ks.length).map (Blk.ren (rho ks H.length)))) :
 Eff P ⟨some d, .call ⟨.value (.func f), xs, tys⟩, ty, pos, after, gd⟩ env H x' H' := by
 have := QeP (o := ⟨some d, .call ⟨.value (.func f), xs, tys⟩, ty, pos, after, gd⟩) ks h (Qer hf) hargs hks hnd hla hlg hlH hgl;have h1 := hX (fun r => r = x') rfl;have h2 := hH (fun r => r = H') rfl;rw [h1, h2] at this; exact this
theorem QlJ (ks : List Nat) {f : FuncId} {t : Tmp} {caps : List AV} {xs : Array Operand} {tys : Array TypeId} {args : List AV} {H0 H1 : List Blk} (h : Does P f args H0 gl x H1) (hf : ∀ args w, (callFunc f args).run P w = .ok (.enter f args) w) (ht : look env t = .fn (.func f) caps)
 (hargs : xs.toList.map (aval env) ++ caps = AV.renL (rho ks H.length) args) (hks : ks.map (fun k => H[k]?) = (H0.map (Blk.ren (rho ks H.length))).map some) (hnd : ks.Nodup)
 (hla : AV.ltL H0.length args = true) (hlg : AV.ltL H0.length gl = true) (hlH : H0.all (Blk.lt H0.length) = true) (hgl : ∀ g ∈ gl, g.ren (rho ks H.length) ∈ (xs.toList.map (aval env) ++ caps).flatMap AV.parts ++ H.flatMap Blk.parts)
 (hX : ∀ R : AV -> Prop, R x' -> R (x.ren (rho ks H.length))) (hH : ∀ R : List Blk -> Prop, R H' -> R (place (rho ks H.length) H ks H1 ++ (H1.drop ks.length).map (Blk.ren (rho ks H.length)))) :
 Eff P ⟨some d, .call ⟨.value (.tmp t), xs, tys⟩, ty, pos, after, gd⟩ env H x' H' := by
 have := QeP (o := ⟨some d, .call ⟨.value (.tmp t), xs, tys⟩, ty, pos, after, gd⟩) ks h (Qjr hf ht) hargs hks hnd hla hlg hlH hgl;have h1 := hX (fun r => r = x') rfl;have h2 := hH (fun r => r = H') rfl;rw [h1, h2] at this; exact this
theorem Qf8 (ks : List Nat) {f : FuncId} {t : Tmp} {caps : List AV} {xs : Array Operand} {tys : Array TypeId} {args : List AV} {H0 H1 : List Blk} (h : Does P f args H0 gl x H1) (hf : ∀ args w, (callFunc f args).run P w = .ok (.enter f args) w) (ht : look env t = .fn (.func f) caps := by rfl)
 (hargs : xs.toList.map (aval env) ++ caps = AV.renL (rho ks H.length) args := by rfl) (hks : ks.map (fun k => H[k]?) = (H0.map (Blk.ren (rho ks H.length))).map some := by rfl) (hnd : ks.Nodup := by decide)
 (hla : AV.ltL H0.length args = true := by rfl) (hlg : AV.ltL H0.length gl = true := by rfl) (hlH : H0.all (Blk.lt H0.length) = true := by rfl) (hgl : ∀ g ∈ gl, g.ren (rho ks H.length) ∈ (xs.toList.map (aval env) ++ caps).flatMap AV.parts ++ H.flatMap Blk.parts)
 (hX : ∀ R : AV -> Prop, R x' -> R (x.ren (rho ks H.length)) := by intro R hR; simp only [AV.ren, AV.renL, rho, List.getElem?_cons_zero, List.getElem?_cons_succ]; exact hR)
 (hH : ∀ R : List Blk -> Prop, R H' -> R (place (rho ks H.length) H ks H1 ++ (H1.drop ks.length).map (Blk.ren (rho ks H.length))) := by intro R hR; simp only [place, Blk.ren, AV.ren, AV.renL, rho, List.getElem?_cons_zero, List.getElem?_cons_succ, List.map_cons, List.map_nil, List.set_cons_zero, List.set_cons_succ, List.drop_succ_cons, List.drop_zero, List.drop_nil, List.append_nil, List.length_cons, List.length_nil, Nat.reduceAdd, Nat.zero_add]; exact hR)
 (hw : awanted ops env ⟨some d, .call ⟨.value (.tmp t), xs, tys⟩, ty, pos, after, gd⟩ = some true := by rfl) (hd : Nat.blt d n = true := by rfl) (hg : gdOk ops n ⟨some d, .call ⟨.value (.tmp t), xs, tys⟩, ty, pos, after, gd⟩ = true := by rfl)
 (k : ASeq P ops Q l ⟨n, (d, x') :: env, H'⟩) : ASeq P ops Q (⟨some d, .call ⟨.value (.tmp t), xs, tys⟩, ty, pos, after, gd⟩ :: l) ⟨n, env, H⟩ :=
 QhI (QlJ ks h hf ht hargs hks hnd hla hlg hlH hgl hX hH) hw hd hg k
theorem QbW (ks : List Nat) {f : FuncId} {xs : Array Operand} {tys : Array TypeId} {args : List AV} {H0 H1 : List Blk} (h : Does P f args H0 gl x H1) (hf : ∀ args w, (callFunc f args).run P w = .ok (.enter f args) w)
 (hargs : xs.toList.map (aval env) = AV.renL (rho ks H.length) args := by rfl) (hks : ks.map (fun k => H[k]?) = (H0.map (Blk.ren (rho ks H.length))).map some := by rfl) (hnd : ks.Nodup := by decide)
 (hla : AV.ltL H0.length args = true := by rfl) (hlg : AV.ltL H0.length gl = true := by rfl) (hlH : H0.all (Blk.lt H0.length) = true := by rfl) (hgl : ∀ g ∈ gl, g.ren (rho ks H.length) ∈ (xs.toList.map (aval env)).flatMap AV.parts ++ H.flatMap Blk.parts)
 (hX : ∀ R : AV -> Prop, R x' -> R (x.ren (rho ks H.length)) := by intro R hR; simp only [AV.ren, AV.renL, rho, List.getElem?_cons_zero, List.getElem?_cons_succ]; exact hR)
 (hH : ∀ R : List Blk -> Prop, R H' -> R (place (rho ks H.length) H ks H1 ++ (H1.drop ks.length).map (Blk.ren (rho ks H.length))) := by intro R hR; simp only [place, Blk.ren, AV.ren, AV.renL, rho, List.getElem?_cons_zero, List.getElem?_cons_succ, List.map_cons, List.map_nil, List.set_cons_zero, List.set_cons_succ, List.drop_succ_cons, List.drop_zero, List.drop_nil, List.append_nil, List.length_cons, List.length_nil, Nat.reduceAdd, Nat.zero_add]; exact hR)
 (hw : awanted ops env ⟨some d, .call ⟨.value (.func f), xs, tys⟩, ty, pos, after, gd⟩ = some true := by rfl) (hd : Nat.blt d n = true := by rfl) (hg : gdOk ops n ⟨some d, .call ⟨.value (.func f), xs, tys⟩, ty, pos, after, gd⟩ = true := by rfl)
 (k : ASeq P ops Q l ⟨n, (d, x') :: env, H'⟩) : ASeq P ops Q (⟨some d, .call ⟨.value (.func f), xs, tys⟩, ty, pos, after, gd⟩ :: l) ⟨n, env, H⟩ :=
 QhI (Qh4 ks h hf hargs hks hnd hla hlg hlH hgl hX hH) hw hd hg k
theorem aw_effX {dst : Option Tmp} (h : Eff P ⟨dst, op, ty, pos, after, gd⟩ env H x H') (hw : awanted ops env ⟨dst, op, ty, pos, after, gd⟩ = some true := by rfl) (hd : dstOk n dst = true := by rfl) (hg : gdOk ops n ⟨dst, op, ty, pos, after, gd⟩ = true := by rfl)
 (k : K ⟨n, putE env dst x, H'⟩) : AStep P ops ⟨dst, op, ty, pos, after, gd⟩ K ⟨n, env, H⟩ := ⟨x, H', h, hw, hd, hg, k⟩
end
theorem Sm.recell {B : Bs} {σ : Sg} {S : Nat -> Prop} {H : List Blk} {w : World} {k g o : Nat} {cells : List AV} {x y : AV} (h : Sm B σ S H w) (hC : H[k]? = some (.row g cells)) (ho : cells[o]? = some x) (hxy : ∀ v, Rel σ S H w x v -> Rel σ S H w y v) :
 Sm B σ S (H.set k (.row g (cells.set o y))) w /\ Ev σ S H w σ S (H.set k (.row g (cells.set o y))) w := by
 have hkl : k < H.length := (List.getElem?_eq_some_iff.1 hC).1;have hol : o < cells.length := (List.getElem?_eq_some_iff.1 ho).1;have hget : ∀ j D, j ≠ k -> H[j]? = some D -> (H.set k (.row g (cells.set o y)))[j]? = some D := fun j D hj hD => (List.getElem?_set_ne (fun e => hj e.symm)).trans hD
 have e : Ev σ S H w σ S (H.set k (.row g (cells.set o y))) w := by
  refine ⟨fun _ h => h, fun _ _ => rfl, fun j g' cells' hD => ?_, fun j g' sz T rows hD => ?_, fun j g' l hD => ?_⟩
  ·by_cases hj : j = k
   ·subst hj; rw [hC] at hD; injection (Option.some.inj hD) with e1 e2; subst e1
    exact ⟨g, _, List.getElem?_set_self hkl, Nat.le_refl _, fun _ b hb => hb⟩
   ·exact ⟨g', cells', hget j _ hj hD, Nat.le_refl _, fun _ b hb => hb⟩
  ·have hj : j ≠ k := fun e => by subst e; rw [hC] at hD; simp at hD
   exact ⟨g', rows, hget j _ hj hD, Nat.le_refl _, fun _ => ⟨rfl, rfl, fun b cs T _ hc => ⟨cs, hc, rfl⟩⟩⟩
  ·have hj : j ≠ k := fun e => by subst e; rw [hC] at hD; simp at hD
   exact ⟨g', l, hget j _ hj hD, Nat.le_refl _, fun _ b hb => hb⟩
 refine ⟨⟨h.os, h.tape, h.output, h.size, h.keep, h.sLo, h.sUp, fun k' b hk => h.σUp k' b (by simpa using hk), fun k1 k2 b h1 h2 => h.inj k1 k2 b (by simpa using h1) (by simpa using h2), fun j D hD => ?_⟩, e⟩
 by_cases hj : j = k
 ·subst hj
  rw [List.getElem?_set_self hkl] at hD;obtain rfl := Option.some.inj hD;rcases h.blk j _ hC with ⟨b, cs, T, hb, hc, hr⟩ | ⟨_, hnil⟩
  ·refine .inl ⟨b, cs, T, hb, hc, fun i z hz => ?_⟩
   by_cases hi : i = o
   ·subst hi
    rw [List.getElem?_set_self hol] at hz;obtain rfl := Option.some.inj hz;obtain ⟨v, hv, hrv⟩ := hr i x ho;exact ⟨v, hv, (hxy v hrv).mono e⟩
   ·rw [List.getElem?_set_ne (fun e => hi e.symm)] at hz
    obtain ⟨v, hv, hrv⟩ := hr i z hz;exact ⟨v, hv, hrv.mono e⟩
  ·subst hnil; simp at ho
 ·rw [List.getElem?_set_ne (fun e => hj e.symm)] at hD
  exact (h.blk j D hD).mono e rfl fun b _ => rfl
theorem Qjx (k o sz : Nat) (T : TypeId) {c : Code} {Q : Exit -> St -> Prop} {n g : Nat} {env : List (Nat × AV)} {H H' : List Blk} {cells : List AV} (hk : H[k]? = some (.row g cells) := by rfl) (ho : cells[o]? = some (.d (.v (.slice none 0 0))) := by rfl)
 (hH : ∀ R : List Blk -> Prop, R H' -> R (List.set (H ++ [Blk.arr 0 sz T []]) k (Blk.row g (cells.set o (AV.osl H.length 0 0 0)))) := by intro R hR; simp only [List.cons_append, List.nil_append, List.set_cons_zero, List.set_cons_succ, List.length_cons, List.length_nil, Nat.zero_add, Nat.reduceAdd]; exact hR)
 (h : AWP P c Q ⟨n, env, H'⟩) : AWP P c Q ⟨n, env, H⟩ := by
 have := hH (fun r => r = H') rfl;subst this;refine Qet ?_ h;intro B σ S a w hA;obtain ⟨h1, h2, h3⟩ := hA.sm.virt sz T;have hkl : k < H.length := (List.getElem?_eq_some_iff.1 hk).1
 obtain ⟨h4, h5⟩ := h1.recell (y := .osl H.length 0 0 0) (by rw [List.getElem?_append_left hkl]; exact hk) ho (fun v hv => by
  have : v = .slice none 0 0 := AV.conc_rel hv (y := .slice none 0 0) rfl
  rw [this]; exact h3)
 exact ⟨_, S, h4, hA.defers, hA.size, fun u => ((hA.env u).mono h2).mono h5⟩
variable {P : Program}
section
variable {dst : Option Tmp} {ty : TypeId} {pos : String} {after : Array Edge} {gd : Option (Nat × Bool)} {env : List (Nat × AV)} {H : List Blk}
theorem Qhv (op : BinOp) (T : TypeId) (x y : Operand) (a b : Option Addr) (w : World) : (eqGuard op T x y (.pointer a) (.pointer b)).run P w = .ok () w := by
 unfold eqGuard; cases op <;> rfl
theorem Qiv (op : BinOp) (T : TypeId) (x y : Operand) (a b : Option Addr) (n n' c c' : Nat) (w : World) : (eqGuard op T x y (.slice a n c) (.slice b n' c')).run P w = .ok () w := by
 unfold eqGuard; cases op <;> rfl
theorem QlD {T E : TypeId} (hT : P.underlying T = some (.pointer E)) (a : Option Addr) (w : World) : (Op.equalIn (9999 + 1) T (.pointer a) (.pointer none)).run P w = .ok a.isNone w := by
 unfold Op.equalIn;rw [Sem.run_bind, run_underlying hT, Result.andThen_ok];cases a <;> rfl
theorem eq_snil {T E : TypeId} (hT : P.underlying T = some (.slice E)) (a : Option Addr) (n c : Nat) (w : World) : (Op.equalIn (9999 + 1) T (.slice a n c) (.slice none 0 0)).run P w = .ok a.isNone w := by
 unfold Op.equalIn;rw [Sem.run_bind, run_underlying hT, Result.andThen_ok];cases a <;> rfl
theorem Qju {T E : TypeId} (hT : P.underlying T = some (.pointer E)) (x y : Operand) (a : Option Addr) (w : World) :
 (do eqGuard .eql T x y (.pointer a) (.pointer none); binOp .eql T (.pointer a) (.pointer none) : Sem Value).run P w = .ok (.bool (a.isNone)) w := by
 rw [Sem.run_bind, Qhv, Result.andThen_ok];show (Op.equalIn (9999 + 1) T (.pointer a) (.pointer none) >>= fun b => pure (Value.bool b)).run P w = _;rw [Sem.run_bind, QlD hT]; rfl
theorem Qf4 {T E : TypeId} (hT : P.underlying T = some (.pointer E)) (x y : Operand) (a : Option Addr) (w : World) :
 (do eqGuard .neq T x y (.pointer a) (.pointer none); binOp .neq T (.pointer a) (.pointer none) : Sem Value).run P w = .ok (.bool (!a.isNone)) w := by
 rw [Sem.run_bind, Qhv, Result.andThen_ok];show (Op.equalIn (9999 + 1) T (.pointer a) (.pointer none) >>= fun b => pure (Value.bool !b)).run P w = _;rw [Sem.run_bind, QlD hT]; rfl
theorem Qjt {T E : TypeId} (hT : P.underlying T = some (.slice E)) (x y : Operand) (a : Option Addr) (n c : Nat) (w : World) :
 (do eqGuard .eql T x y (.slice a n c) (.slice none 0 0); binOp .eql T (.slice a n c) (.slice none 0 0) : Sem Value).run P w = .ok (.bool (a.isNone)) w := by
 rw [Sem.run_bind, Qiv, Result.andThen_ok];show (Op.equalIn (9999 + 1) T (.slice a n c) (.slice none 0 0) >>= fun b => pure (Value.bool b)).run P w = _;rw [Sem.run_bind, eq_snil hT]; rfl
theorem QcJ {T E T' : TypeId} {u : Operand} {cells : List D} (hT : P.underlying T = some (.pointer E)) (hu : aval env u = .d (.pd cells)) : Loc P ⟨dst, .binOp .eql T u (.const (.pointer none)) T', ty, pos, after, gd⟩ env H (.d (.v (.bool false))) none :=
 QbD fun σ S H' a w _ hop _ => by
  have h := hop u (by simp [Op.operands]);rw [hu] at h;generalize hx : a.eval u = x at h;cases h with
  |d _ _ h => cases h; exact ⟨_, by simp only [execOp, hx]; rw [Sem.run_bind, show a.eval (.const (.pointer none)) = .pointer none from rfl, Qju hT u (.const (.pointer none)) _ w]; rfl, .d _ _ (.v _)⟩
theorem Qgq {T E T' : TypeId} {u : Operand} {cells : List D} (hT : P.underlying T = some (.pointer E)) (hu : aval env u = .d (.pd cells)) : Loc P ⟨dst, .binOp .neq T u (.const (.pointer none)) T', ty, pos, after, gd⟩ env H (.d (.v (.bool true))) none :=
 QbD fun σ S H' a w _ hop _ => by
  have h := hop u (by simp [Op.operands]);rw [hu] at h;generalize hx : a.eval u = x at h;cases h with
  |d _ _ h => cases h; exact ⟨_, by simp only [execOp, hx]; rw [Sem.run_bind, show a.eval (.const (.pointer none)) = .pointer none from rfl, Qf4 hT u (.const (.pointer none)) _ w]; rfl, .d _ _ (.v _)⟩
theorem QdT {T E T' : TypeId} {u : Operand} (hT : P.underlying T = some (.pointer E)) (hu : aval env u = .d (.v (.pointer none))) : Loc P ⟨dst, .binOp .eql T u (.const (.pointer none)) T', ty, pos, after, gd⟩ env H (.d (.v (.bool true))) none :=
 loc_bin' (X := .pointer none) (Y := .pointer none) (by rw [hu]; rfl) rfl fun w => Qju hT u (.const (.pointer none)) none w
theorem Qhl {T E T' : TypeId} {u : Operand} (hT : P.underlying T = some (.pointer E)) (hu : aval env u = .d (.v (.pointer none))) : Loc P ⟨dst, .binOp .neq T u (.const (.pointer none)) T', ty, pos, after, gd⟩ env H (.d (.v (.bool false))) none :=
 loc_bin' (X := .pointer none) (Y := .pointer none) (by rw [hu]; rfl) rfl fun w => Qf4 hT u (.const (.pointer none)) none w
theorem QjW {T E T' : TypeId} {u : Operand} (hT : P.underlying T = some (.slice E)) (hu : aval env u = .d (.v (.slice none 0 0))) : Loc P ⟨dst, .binOp .eql T u (.const (.slice none 0 0)) T', ty, pos, after, gd⟩ env H (.d (.v (.bool true))) none :=
 loc_bin' (X := .slice none 0 0) (Y := .slice none 0 0) (by rw [hu]; rfl) rfl fun w => Qjt hT u (.const (.slice none 0 0)) none 0 0 w
theorem Qii {T E T' : TypeId} {u : Operand} {c : Bool} {n : Nat} {r : List D} {rows : List (List D)} (hT : P.underlying T = some (.slice E)) (hu : aval env u = .d (.sl c n (r :: rows))) : Loc P ⟨dst, .binOp .eql T u (.const (.slice none 0 0)) T', ty, pos, after, gd⟩ env H (.d (.v (.bool false))) none :=
 QbD fun σ S H' a w _ hop _ => by
  have h := hop u (by simp [Op.operands]);rw [hu] at h;generalize hx : a.eval u = x at h;cases h with
  |d _ _ h => cases h; exact ⟨_, by simp only [execOp, hx]; rw [Sem.run_bind, show a.eval (.const (.slice none 0 0)) = .slice none 0 0 from rfl, Qjt hT u (.const (.slice none 0 0)) _ _ _ w]; rfl, .d _ _ (.v _)⟩
end
variable {P : Program}
section
variable {dst : Option Tmp} {ty : TypeId} {pos : String} {after : Array Edge} {gd : Option (Nat × Bool)} {env : List (Nat × AV)} {H : List Blk}
theorem Qho {T T' : TypeId} {D1 : TypeDesc} {x : Operand} {k k' : IntKind} {n m : Int} (h1 : P.underlying T = some D1) (h2 : P.underlying T' = some (.int k')) (hD : D1 = .int k) (hx : aval env x = .d (.v (.int k n))) (hm : k'.wrap n = m) :
 Loc P ⟨dst, .convert T T' x, ty, pos, after, gd⟩ env H (.d (.v (.int k' m))) none :=
 QbD fun σ S H' a w _ hop _ => by
  subst hD;have a1 := AV.conc_rel (hop x (by simp [Op.operands])) (y := .int k n) (by rw [hx]; rfl);refine ⟨.int k' m, ?_, .d _ _ (.v _)⟩;simp only [execOp, a1];rw [Sem.run_bind];unfold convert;rw [Sem.run_bind, run_underlying h1, Result.andThen_ok, Sem.run_bind, run_underlying h2, Result.andThen_ok];simp only [Conv.intToInt, hm];rfl
theorem QmH {T T' : TypeId} {x y : Operand} {n : Int} (hx : aval env x = .d (.v (.int .u64 n))) (hy : aval env y = .d (.v (.int .u64 1))) (h : 0 <= n) :
 Loc P ⟨dst, .binOp .shr T x y T', ty, pos, after, gd⟩ env H (.d (.v (.int .u64 (n / 2)))) none :=
 loc_bin' (X := .int .u64 n) (Y := .int .u64 1) (by rw [hx]; rfl) (by rw [hy]; rfl) fun w => by
  rw [Sem.run_bind, QcW, Result.andThen_ok];have : n.fdiv 2 = n / 2 := Int.fdiv_eq_ediv_of_nonneg n (by omega);show (Op.shift .shr .u64 n .u64 1).run P w = _;unfold Op.shift;rw [if_neg (by omega)];show _ = (Result.ok (Value.int .u64 (n / 2)) w : Result Value);rw [<- this]; rfl
theorem loc_as {o : Oper} {x y : AV} (h : Loc P o env H x none) (hxy : ∀ (σ : Sg) (S : Nat -> Prop) (H' : List Blk) (w : World) (v : Value), Rel σ S H' w x v -> Rel σ S H' w y v) : Loc P o env H y none := by
 intro B σ S H' a w hB hS hop hag hk K Q k;exact h B σ S H' a w hB hS hop hag hk K Q fun v w' σ' S' hS' hr hev => k v w' σ' S' hS' (hxy _ _ _ _ _ hr) hev
theorem Qlp {T e T0 : TypeId} {F E : TyF} {u x : Operand} {κ : IntKind} {i : Int} {k g sz off len : Nat} {rows : List (List D)} [hT : Ty P T F] (he : F.elem = some e) [hE : Ty P e E] (hu : aval env u = .osl k g off len) (hk : H[k]? = some (.arr g sz T0 rows)) (hn : E.size = sz) (hx : aval env x = .d (.v (.int κ i)))
 (h0 : 0 <= i) (h1 : i < len) : Loc P ⟨dst, .slice T u (some x) none none, ty, pos, after, gd⟩ env H (.osl k g (off + i.toNat) (len - i.toNat)) none :=
 QbD fun σ S H' a w _ hop hag => by
  subst hn;have h := hop u (by simp [Op.operands]);have a2 := AV.conc_rel (hop x (by simp [Op.operands])) (y := .int κ i) (by rw [hx]; rfl);rw [hu] at h;generalize hv : a.eval u = v at h;have hT' := QbX hT.h he;have hel := Qg6 hT';have hT'' : P.underlying T = some (.slice (P.elem T)) := by rw [hel]; exact hT'
  cases h with
  |osl _ _ _ _ _ _ g' sz' T' rows' hk' hg hh =>
   have hke : H'[k]? = some (.arr g E.size T0 rows) := by
    rcases hag k _ hk with h | h
    ·exact h
    ·rw [hk'] at h; cases h
   rw [hk'] at hke;obtain ⟨rfl, rfl, rfl, rfl⟩ : g' = g /\ sz' = E.size /\ T' = T0 /\ rows' = rows := by injection (Option.some.inj hke) with h1 h2 h3 h4; exact ⟨h1, h2, h3, h4⟩
   obtain ⟨hle, hh⟩ := hh rfl;rcases hh with ⟨b, cap, cs, T', hb, hl, hm, rfl, hc, hs⟩ | ⟨hb, rfl, rfl⟩
   ·refine ⟨.slice (some ⟨b, (off + i.toNat) * E.size, none⟩) (len - i.toNat) (cap - i.toNat), ?_, ?_⟩
    ·simp only [execOp, Option.map_some, Option.map_none, hv, a2, Sem.run_bind, run_sliceAt_slice _ _ _ _ _ _ hT'']
     rw [run_slice_l w T _ len cap hT'' _ _ h0 (by omega), hel, Qcu hE.h]
     have hsl : sliced (some ⟨b, off * E.size, none⟩) i.toNat len cap E.size = .slice (some ⟨b, (off + i.toNat) * E.size, none⟩) (len - i.toNat) (cap - i.toNat) := by
      unfold sliced;rw [if_neg (by omega)];simp only [Option.map_some, Qcg, Nat.add_mul]
     rw [<- hsl]; rfl
    ·refine .osl _ _ _ _ _ rfl g' E.size _ rows' hk' hg fun _ => ⟨by omega, .inl ⟨b, cap - i.toNat, cs, T', hb, by omega, by omega, rfl, hc, ?_⟩⟩
     rw [hs]; congr 1; omega
   ·omega
theorem QjX {T e T0 : TypeId} {F E : TyF} {u x : Operand} {κ : IntKind} {i : Int} {k g sz off len : Nat} {rows : List (List D)} [hT : Ty P T F] (he : F.elem = some e) [hE : Ty P e E] (hu : aval env u = .osl k g off len) (hk : H[k]? = some (.arr g sz T0 rows)) (hn : E.size = sz) (hx : aval env x = .d (.v (.int κ i)))
 (h0 : 0 <= i) (h1 : i = len) : Loc P ⟨dst, .slice T u (some x) none none, ty, pos, after, gd⟩ env H (.d (.sl false sz [])) none :=
 QbD fun σ S H' a w _ hop hag => by
  subst hn;have h := hop u (by simp [Op.operands]);have a2 := AV.conc_rel (hop x (by simp [Op.operands])) (y := .int κ i) (by rw [hx]; rfl);rw [hu] at h;generalize hv : a.eval u = v at h;have hT' := QbX hT.h he;have hel := Qg6 hT';have hT'' : P.underlying T = some (.slice (P.elem T)) := by rw [hel]; exact hT'
  obtain ⟨ad, cap, rfl, hle⟩ : ∃ ad cap, v = .slice ad len cap /\ len <= cap := by
   cases h with
   |osl _ _ _ _ _ _ g' sz' T' rows' hk' hg hh =>
    have hke : H'[k]? = some (.arr g E.size T0 rows) := by
     rcases hag k _ hk with h | h
     ·exact h
     ·rw [hk'] at h; cases h
    rw [hk'] at hke;obtain ⟨rfl, rfl, rfl, rfl⟩ : g' = g /\ sz' = E.size /\ T' = T0 /\ rows' = rows := by injection (Option.some.inj hke) with h1 h2 h3 h4; exact ⟨h1, h2, h3, h4⟩
    obtain ⟨_, hh⟩ := hh rfl;rcases hh with ⟨b, cap, cs, T', hb, hl, hm, rfl, hc, hs⟩ | ⟨hb, rfl, rfl⟩
    ·exact ⟨_, _, rfl, hl⟩
    ·exact ⟨_, _, rfl, Nat.le_refl _⟩
  refine ⟨sliced ad i.toNat len cap E.size, ?_, ?_⟩
  ·simp only [execOp, Option.map_some, Option.map_none, hv, a2, Sem.run_bind, run_sliceAt_slice _ _ _ _ _ _ hT'']
   rw [run_slice_l w T ad len cap hT'' _ _ h0 (by omega), hel, Qcu hE.h]; rfl
  ·unfold sliced
   rw [show len - i.toNat = 0 by omega];split <;> exact .d _ _ (.slnil _ _ _ _)
section
variable {T kt et : TypeId} {z : Value}
theorem Qco (hT : P.underlying T = some (.map kt et)) (hk : P.underlying kt = some (.int .i64)) (hz : (P.info? et).bind (·.zero) = some z) {u v : Operand} {k g : Nat} {m : List (Int × D)} {n : Int} {d : D}
 (hu : aval env u = .mp k g) (hH : H[k]? = some (.mp g (imap m))) (hv : aval env v = .d (.v (.int .i64 n))) (hg : (mget m n).getD (.v z) = d) : Loc P ⟨dst, .lookup T u v false, ty, pos, after, gd⟩ env H (.d d) none := by
 subst hg;exact QjY hT hk hz hu hH hv
theorem QeF (hT : P.underlying T = some (.map kt et)) (hk : P.underlying kt = some (.int .i64)) (hz : (P.info? et).bind (·.zero) = some (.slice none 0 0)) {u v : Operand} {m : List (Int × D)} {n : Int} {c : Bool} {sz : Nat} {l : List (List D)}
 (hu : aval env u = .d (.mp (imap m))) (hv : aval env v = .d (.v (.int .i64 n))) (hg : mget m n = some (.sl c sz l) ∨ mget m n = none /\ l = []) : Loc P ⟨dst, .lookup T u v false, ty, pos, after, gd⟩ env H (.d (.sl c sz l)) none := by
 have h := Qik (dst := dst) (ty := ty) (pos := pos) (after := after) (gd := gd) (H := H) hT hk hz hu hv;rcases hg with hg | ⟨hg, rfl⟩
 ·rw [hg] at h; exact h
 ·rw [hg] at h
  refine loc_as h fun σ S H' w v hr => ?_
  cases hr with
  |d _ _ hr => cases hr; exact .d _ _ (.slnil _ _ _ _)
end
end
theorem QeT {T kt et : TypeId} {ops : Array Oper} {Q : Exit -> St -> Prop} {l : List Oper} {nt : Nat} {env : List (Nat × AV)} {H H' : List Blk} {ty : TypeId} {pos : String} {after : Array Edge} {gd : Option (Nat × Bool)} (hT : P.underlying T = some (.map kt et)) (hk : P.underlying kt = some (.int .i64)) {u v x : Operand} {k g : Nat} {m : List (Int × D)} {n : Int} {d : D}
 (hu : aval env u = .mp k g := by rfl) (hH0 : H[k]? = some (.mp g (imap m)) := by rfl) (hv : aval env v = .d (.v (.int .i64 n)) := by rfl) (hx : aval env x = .d d := by rfl)
 (hw : awanted ops env ⟨none, .mapUpdate T u v x, ty, pos, after, gd⟩ = some true := by rfl) (hg : gdOk ops nt ⟨none, .mapUpdate T u v x, ty, pos, after, gd⟩ = true := by rfl)
 (hH : ∀ R : List Blk -> Prop, R H' -> R (H.set k (.mp g (imap (mset m n d)))) := by intro R hR; simp only [List.set_cons_zero, List.set_cons_succ]; exact hR)
 (kk : ASeq P ops Q l ⟨nt, env, H'⟩) : ASeq P ops Q (⟨none, .mapUpdate T u v x, ty, pos, after, gd⟩ :: l) ⟨nt, env, H⟩ := by
 refine QgI (Qg7 hT hk hu hH0 hv hx) hw hg ?_;have := hH (fun r => r = H') rfl;rw [this]; exact kk
theorem Qcb {ops : Array Oper} {K : St -> Prop} {n : Nat} {env : List (Nat × AV)} {H H' : List Blk} {ty : TypeId} {pos : String} {after : Array Edge} {gd : Option (Nat × Bool)} {T : TypeId} {F : TyF} {u v : Operand} {k g o : Nat} {cells lc : List AV} [hT : Ty P T F] (hu : aval env u = .ptr k g o := by rfl) (hk : H[k]? = some (.row g cells) := by rfl)
 (hv : ∀ R : Option (List AV) -> Prop, R (some lc) -> R (aval env v).cells := by intro R hR; simp only [go_sem, Nat.reduceEqDiff, Nat.reduceAdd, Nat.reduceLT, Nat.reduceLeDiff, ↓reduceIte, reduceCtorEq]; exact hR)
 (hone : lc.all AV.one = true := by rfl) (hsz : lc.length = F.size := by rfl) (hlen : Nat.ble (o + lc.length) cells.length = true := by rfl) (hw : awanted ops env ⟨none, .store T u v, ty, pos, after, gd⟩ = some true := by rfl) (hg : gdOk ops n ⟨none, .store T u v, ty, pos, after, gd⟩ = true := by rfl)
 (hH : ∀ R : List Blk -> Prop, R H' -> R (H.set k (.row g (setAt cells o lc))) := by intro R hR; simp only [setAt, List.set_cons_zero, List.set_cons_succ, Nat.zero_add, Nat.reduceAdd]; exact hR)
 (kk : K ⟨n, env, H'⟩) : AStep P ops ⟨none, .store T u v, ty, pos, after, gd⟩ K ⟨n, env, H⟩ :=
 aw_effX (Qh3 hT.h hu hk (hv (fun r => r = some lc) rfl) hone hsz (Nat.le_of_ble_eq_true hlen)) hw rfl hg (by have := hH (fun r => r = H') rfl; rw [this]; exact kk)
end Aw
end Go.Proofs.YtdjkdcokjoiokaaGreatDoor

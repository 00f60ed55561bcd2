/- Part 7 of seek_card: contracts, walks, laws; no condition beyond the statement's. -/
import Derived.Test.YtdjkdcokjoiokaaGreatDoorW06
set_option linter.all false
namespace Go.Proofs.YtdjkdcokjoiokaaGreatDoor
open Go.RowKit
namespace Aw
variable {P : Program}
section
variable {dst : Option Tmp} {ty : TypeId} {pos : String} {after : Array Edge} {gd : Option (Nat × Bool)} {env : List (Nat × AV)} {H : List Blk}
theorem QiZ (z : Array Value) (n sz i j : Nat) (hz : z.size = sz) (hi : i < n) (hj : j < sz) : (madeCells z (n * sz))[i * sz + j]? = z[j]? := by
 have hlt : i * sz + j < n * sz := by
  have h2 : (i + 1) * sz <= n * sz := Nat.mul_le_mul_right sz (by omega);rw [Nat.add_mul] at h2; omega
 have hm : (i * sz + j) % z.size = j := by rw [hz, Nat.mul_comm, Nat.mul_add_mod, Nat.mod_eq_of_lt hj]
 unfold madeCells;rw [Array.getElem?_map, Array.getElem?_range, if_pos hlt];simp only [Option.map_some, hm];rw [getElem!_pos z j (by omega), Array.getElem?_eq_getElem (by omega)]
theorem Qcw {T e : TypeId} {F E : TyF} {u v : Operand} {k1 k2 : IntKind} {n : Nat} (hT : tyf P T = some F) (he : F.elem = some e) (hE : tyf P e = some E) (hu : aval env u = .d (.v (.int k1 (n : Int)))) (hv : aval env v = .d (.v (.int k2 (n : Int))))
 (hz : E.zero.length = E.size) (hb : E.bytes * n <= 281474976710656) (hm : n <= 140737488355328) :
 Loc P ⟨dst, .makeSlice T u v, ty, pos, after, gd⟩ env H (.osl H.length 0 0 n) (some (.arr 0 E.size e (List.replicate n (E.zero.map D.v)))) :=
 Qlu (by simp) (fun r hr => by rw [(List.mem_replicate.1 hr).2]; simpa using hz) fun σ S H' a w hop => by
  have h1 := AV.conc_rel (hop u (by simp [Op.operands])) (y := .int k1 (n : Int)) (by rw [hu]; rfl);have h2 := AV.conc_rel (hop v (by simp [Op.operands])) (y := .int k2 (n : Int)) (by rw [hv]; rfl);obtain ⟨d, i, z, _, hi, hzz, hs, hby, hzl, _⟩ := Qcf hE;have hzs : z.cells.size = E.size := by rw [<- hz, <- hzl]; simp
  have hr := run_make (P := P) w T e i z (QbX hT he) hi hzz k1 k2 n n (by omega) (Int.le_refl _) (by rw [hby]; have : ((E.bytes * n : Nat) : Int) <= 281474976710656 := by omega
                                                                                                     rwa [Int.natCast_mul] at this) (by omega)
  simp only [Int.toNat_natCast] at hr;refine ⟨madeCells z.cells (n * i.size), ?_, by rw [size_madeCells, hs], by unfold maxLen; omega, fun a b r d ha hb => ?_⟩
  ·simp only [execOp, h1, h2, Sem.run_bind, hr]; rfl
  ·have hal : a < n := by have := (List.getElem?_eq_some_iff.1 ha).1; simpa using this
   rw [List.getElem?_replicate, if_pos hal] at ha;obtain rfl := Option.some.inj ha;rw [List.getElem?_map] at hb;cases hzb : E.zero[b]? with
   |none => rw [hzb] at hb; cases hb
   |some c =>
    rw [hzb] at hb; obtain rfl := Option.some.inj hb;have hbl : b < E.size := by rw [<- hz]; exact (List.getElem?_eq_some_iff.1 hzb).1
    refine ⟨c, ?_, .v _⟩;rw [hs, QiZ z.cells n E.size a b hzs hal hbl];rw [<- hzl] at hzb; simpa using hzb
def chunk (sz : Nat) : Nat -> List AV -> Option (List (List D))
 |0, [] => some []
 |0, _ :: _ => none
 |n + 1, l => match allD (l.take sz), chunk sz n (l.drop sz) with
  |some r, some rs => if r.length = sz then some (r :: rs) else none
  |_, _ => none
theorem Qeq {sz : Nat} : ∀ {n : Nat} {l : List AV} {rows : List (List D)}, chunk sz n l = some rows -> rows.length = n /\ (∀ r ∈ rows, r.length = sz) /\ ∀ (i j : Nat) r d, rows[i]? = some r -> r[j]? = some d -> l[i * sz + j]? = some (.d d)
 |0, [], rows, h => by simp [chunk] at h; subst h; exact ⟨rfl, fun r hr => by simp at hr, fun i j r d hi => by simp at hi⟩
 |0, _ :: _, rows, h => by simp [chunk] at h
 |n + 1, l, rows, h => by
  simp only [chunk] at h;cases h1 : allD (l.take sz) with
  |none => rw [h1] at h; cases h
  |some r =>
   cases h2 : chunk sz n (l.drop sz) with
   |none => rw [h1, h2] at h; cases h
   |some rs =>
    rw [h1, h2] at h;simp only at h;split at h;rotate_left
    ·cases h
    rename_i hrs;obtain rfl := Option.some.inj h;obtain ⟨h3, h4, h5⟩ := Qeq h2;refine ⟨by simp [h3], fun r' hr' => ?_, fun i j r' d hi hj => ?_⟩
    ·rcases List.mem_cons.1 hr' with h | h
     ·rw [h]; exact hrs
     ·exact h4 r' h
    ·cases i with
     |zero =>
      simp at hi; subst hi;have he := Qd5 h1;have hjl : j < sz := by rw [<- hrs]; exact (List.getElem?_eq_some_iff.1 hj).1
      have : (l.take sz)[j]? = some (.d d) := by rw [he, List.getElem?_map, hj]; rfl
      rw [List.getElem?_take, if_pos hjl] at this;simpa using this
     |succ i =>
      have := h5 i j r' d (by simpa using hi) hj;rw [List.getElem?_drop] at this;rw [<- this]; congr 1; rw [Nat.add_mul]; omega
theorem QdM {T e : TypeId} {F E : TyF} {n : Nat} {parts : Array (Nat × Operand)} {res : List AV} (hT : tyf P T = some F) (he : F.elem = some e) (hE : tyf P e = some E)
 (hz : E.zero.length = E.size) (hr : fillA (fun i => some (i * E.size, E.size)) env (List.replicate n (E.zero.map fun v => AV.d (.v v))).flatten parts.toList = some res)
 (hm : n * E.size <= 16777216) (hn : n <= 16777216) (σ : Sg) (S : Nat -> Prop) (H' : List Blk) (a : Act) (w : World) (hop : ∀ u ∈ (⟨dst, .buildSlice T n parts, ty, pos, after, gd⟩ : Oper).op.operands, Rel σ S H' w (aval env u) (a.eval u)) :
 ∃ cs, (execOp a.eval ⟨dst, .buildSlice T n parts, ty, pos, after, gd⟩).run P w = .ok (.value (.slice (some ⟨w.heap.size, 0, none⟩) n n)) (w.alloc (.cells cs e)) /\ cs.size = n * E.size /\ n <= maxLen /\
   ∀ (j : Nat) x, res[j]? = some x -> ∃ v, cs[j]? = some v /\ Rel σ S H' w x v := by
 obtain ⟨d, i, z, hd, hi, hzz, hs, hby, hzl, _⟩ := Qcf hE;have hzs : z.cells.size = E.size := by rw [<- hz, <- hzl]; simp
 have hflen : ∀ m, (List.replicate m (E.zero.map fun v => AV.d (.v v))).flatten.length = m * E.size := fun m => by
  induction m with
  |zero => simp
  |succ m ih => rw [List.replicate_succ, List.flatten_cons, List.length_append, ih, List.length_map, hz, Nat.add_mul]; omega
 have hfget : ∀ (m j : Nat) x, (List.replicate m (E.zero.map fun v => AV.d (.v v))).flatten[j]? = some x -> ∃ v, (madeCells z.cells (m * E.size))[j]? = some v /\ x = .d (.v v) := by
  intro m j x hx;have hjl : j < m * E.size := by rw [<- hflen]; exact (List.getElem?_eq_some_iff.1 hx).1
  have hpos : 0 < E.size := by
   rcases Nat.eq_zero_or_pos E.size with h | h
   ·rw [h] at hjl; omega
   ·exact h
  have hq : j = (j / E.size) * E.size + j % E.size := by rw [Nat.mul_comm]; exact (Nat.div_add_mod j E.size).symm
  have hmod := Nat.mod_lt j hpos;have hdiv : j / E.size < m := Nat.div_lt_of_lt_mul (by rw [Nat.mul_comm]; exact hjl)
  have key : ∀ (m q : Nat), q < m -> ∀ t, t < E.size -> (List.replicate m (E.zero.map fun v => AV.d (.v v))).flatten[q * E.size + t]? = (E.zero.map fun v => AV.d (.v v))[t]? := by
   intro m;induction m with
   |zero => intro q hq; omega
   |succ m ih =>
    intro q hq t ht;rw [List.replicate_succ, List.flatten_cons];cases q with
    |zero => rw [Nat.zero_mul, Nat.zero_add, List.getElem?_append_left (by simpa [hz] using ht)]
    |succ q =>
     rw [List.getElem?_append_right (by simp [hz, Nat.add_mul]; omega)];have : (q + 1) * E.size + t - (E.zero.map fun v => AV.d (D.v v)).length = q * E.size + t := by simp [hz, Nat.add_mul]; omega
     rw [this];exact ih q (by omega) t ht
  rw [hq, key m _ hdiv _ hmod, List.getElem?_map] at hx;cases hzb : E.zero[j % E.size]? with
  |none => rw [hzb] at hx; cases hx
  |some c =>
   rw [hzb] at hx; obtain rfl := Option.some.inj hx;refine ⟨c, ?_, rfl⟩;rw [hq, QiZ z.cells m E.size _ _ hzs hdiv hmod];rw [<- hzl] at hzb; simpa using hzb
 obtain ⟨cs', h1, h2, h3⟩ := Qjj (env := env) (σ := σ) (S := S) (H' := H') (a := a) (w := w) (pl := fun i => some (i * E.size, E.size)) parts.toList _ (madeCells z.cells (n * E.size)) res
  (fun p hp => hop p.2 (by simp only [Op.operands]; exact List.mem_toArray.2 (List.mem_map.2 ⟨p, hp, rfl⟩))) hr (by rw [hflen, size_madeCells]) (fun j x hx => by
    obtain ⟨v, hv, rfl⟩ := hfget n j x hx
    exact ⟨v, hv, .d _ _ (.v _)⟩)
 have hlen : res.length = n * E.size := by
  have : ∀ (ps : List (Nat × Operand)) (cells r : List AV), fillA (fun i => some (i * E.size, E.size)) env cells ps = some r -> r.length = cells.length := by
   intro ps;induction ps with
   |nil => intro cells r h; simp [fillA] at h; rw [h]
   |cons p ps ih =>
    intro cells r h;simp only [fillA] at h;cases hcl : (aval env p.2).cells with
    |none => rw [hcl] at h; cases h
    |some l =>
     rw [hcl] at h;simp only at h;cases hb : (Nat.beq l.length E.size && Nat.ble (p.1 * E.size + l.length) cells.length) with
     |false => rw [hb] at h; cases h
     |true =>
      rw [hb] at h;rw [ih _ _ h, QeZ]
  rw [this _ _ _ hr, hflen]
 refine ⟨cs', ?_, by rw [h2, hlen], by unfold maxLen; omega, h3⟩
 ·have hi' : i.size = E.size := hs
  simp only [execOp, Instr.buildSlice, Sem.run_bind, run_underlying (QbX hT he), Result.andThen_ok, Qcu hE];rw [if_neg (by omega)]
  by_cases h0 : n * E.size = 0
  ·rw [if_pos h0]
   simp only [Sem.run_bind, Sem.run_pure, Result.andThen_ok];have hm0 : madeCells z.cells (n * E.size) = ((Array.range (n * E.size)).map fun x => (#[] : Array Value)[x % (#[] : Array Value).size]!) := by rw [h0]; simp [madeCells, Array.range_zero']
   rw [<- hm0];have h1' : Instr.fill (fun i => some (i * E.size, E.size)) (madeCells z.cells (n * E.size)) (parts.map fun x => (x.1, a.eval x.2)).toList = some cs' := by rw [<- h1]; simp
   rw [h1'];simp [newRow]
  ·rw [if_neg h0]
   have hzr : (zeroValue e).run P w = .ok z w := by simp [zeroValue, typeInfo, hi, hzz]
   simp only [Sem.run_bind, hzr, Sem.run_pure, Result.andThen_ok];have h1' : Instr.fill (fun i => some (i * E.size, E.size)) ((Array.range (n * E.size)).map fun x => z.cells[x % z.cells.size]!) (parts.map fun x => (x.1, a.eval x.2)).toList = some cs' := by rw [<- h1]; simp [madeCells]
   rw [h1'];simp [newRow]
theorem QdN {T e : TypeId} {F E : TyF} {n : Nat} {parts : Array (Nat × Operand)} {res : List AV} {rows : List (List D)} (hT : tyf P T = some F) (he : F.elem = some e) (hE : tyf P e = some E)
 (hz : E.zero.length = E.size) (hr : fillA (fun i => some (i * E.size, E.size)) env (List.replicate n (E.zero.map fun v => AV.d (.v v))).flatten parts.toList = some res) (hc : chunk E.size n res = some rows)
 (hm : n * E.size <= 16777216) (hn : n <= 16777216) (σ : Sg) (S : Nat -> Prop) (H' : List Blk) (a : Act) (w : World) (hop : ∀ u ∈ (⟨dst, .buildSlice T n parts, ty, pos, after, gd⟩ : Oper).op.operands, Rel σ S H' w (aval env u) (a.eval u)) :
 ∃ cs, (execOp a.eval ⟨dst, .buildSlice T n parts, ty, pos, after, gd⟩).run P w = .ok (.value (.slice (some ⟨w.heap.size, 0, none⟩) n n)) (w.alloc (.cells cs e)) /\ cs.size = n * E.size /\ n <= maxLen /\
   ∀ (i j : Nat) r d, rows[i]? = some r -> r[j]? = some d -> ∃ v, cs[i * E.size + j]? = some v /\ RelD S w d v := by
 obtain ⟨hrl, hrs, hrg⟩ := Qeq hc;obtain ⟨cs, h1, h2, h3, h4⟩ := QdM (dst := dst) (ty := ty) (pos := pos) (after := after) (gd := gd) hT he hE hz hr hm hn σ S H' a w hop;refine ⟨cs, h1, h2, h3, fun q j r d hq hj => ?_⟩;obtain ⟨v, hv, hrel⟩ := h4 _ _ (hrg q j r d hq hj);cases hrel with
 |d _ _ h => exact ⟨v, hv, h⟩
theorem QfB {T e : TypeId} {F E : TyF} {n : Nat} {parts : Array (Nat × Operand)} {res : List AV} {rows : List (List D)} (hT : tyf P T = some F) (he : F.elem = some e) (hE : tyf P e = some E)
 (hz : E.zero.length = E.size) (hr : fillA (fun i => some (i * E.size, E.size)) env (List.replicate n (E.zero.map fun v => AV.d (.v v))).flatten parts.toList = some res) (hc : chunk E.size n res = some rows)
 (hm : n * E.size <= 16777216) (hn : n <= 16777216) : Loc P ⟨dst, .buildSlice T n parts, ty, pos, after, gd⟩ env H (.osl H.length 0 0 n) (some (.arr 0 E.size e rows)) := by
 obtain ⟨hrl, hrs, hrg⟩ := Qeq hc;exact Qlu hrl hrs (QdN hT he hE hz hr hc hm hn)
end
theorem Qfa (w : World) (t ty e : TypeId) (i : TypeInfo) (ht : P.underlying t = some (.slice e)) (hi : P.info? e = some i) (b : Option Addr) (n cap : Nat) (hn : n <= cap) (ax : Option Addr) (c : Nat) :
 (Builtin.append_ #[t, t] ty #[.slice b n cap, .slice ax 0 c]).run P w = .ok (.slice b n cap) w := by
 cases ax <;> cases b <;> simp [Builtin.append_, run_underlying ht, sizeOf, typeInfo, hi, Builtin.lenOf, Builtin.firstCells, loadCells, loadCellsFrom, storeCells, hn]
theorem Sm.bump {B : Bs} {σ : Sg} {S : Nat -> Prop} {H : List Blk} {w : World} {k g sz : Nat} {T : TypeId} {rows : List (List D)} (h : Sm B σ S H w) (hC : H[k]? = some (.arr g sz T rows)) :
 Sm B σ S (H.set k (.arr (g + 1) sz T rows)) w /\ Ev σ S H w σ S (H.set k (.arr (g + 1) sz T rows)) w := by
 have hkl : k < H.length := (List.getElem?_eq_some_iff.1 hC).1
 have e : Ev σ S H w σ S (H.set k (.arr (g + 1) sz T rows)) w := by
  refine ⟨fun _ h => h, fun _ _ => rfl, fun j g' cells hD => ?_, fun j g' sz' T' rows' hD => ?_, fun j g' l hD => ?_⟩
  ·have hj : j ≠ k := fun e => by subst e; rw [hC] at hD; simp at hD
   exact ⟨g', cells, (List.getElem?_set_ne hj.symm).trans hD, Nat.le_refl _, fun _ b hb => hb⟩
  ·by_cases hj : j = k
   ·subst hj; rw [hC] at hD; injection (Option.some.inj hD) with e1 e2 e3 e4
    subst e1; subst e2; subst e3;exact ⟨g + 1, rows, List.getElem?_set_self hkl, by omega, fun e => by omega⟩
   ·exact ⟨g', rows', (List.getElem?_set_ne (fun e => hj e.symm)).trans hD, Nat.le_refl _, fun _ => ⟨rfl, rfl, fun b cs T _ hc => ⟨cs, hc, rfl⟩⟩⟩
  ·have hj : j ≠ k := fun e => by subst e; rw [hC] at hD; simp at hD
   exact ⟨g', l, (List.getElem?_set_ne hj.symm).trans hD, Nat.le_refl _, fun _ b hb => hb⟩
 refine ⟨⟨h.os, h.tape, h.output, h.size, h.keep, h.sLo, h.sUp, fun k' b hk => h.σUp k' b (by simpa using hk), fun k1 k2 b h1 h2 => h.inj k1 k2 b (by simpa using h1) (by simpa using h2), fun j D hD => ?_⟩, e⟩
 by_cases hj : j = k
 ·subst hj
  rw [List.getElem?_set_self hkl] at hD;obtain rfl := Option.some.inj hD;exact h.blk j _ hC
 ·rw [List.getElem?_set_ne (fun e => hj e.symm)] at hD
  exact (h.blk j D hD).mono e rfl fun b _ => rfl
theorem RelD.sl_cells {S : Nat -> Prop} {w : World} {c : Bool} {n : Nat} {rows : List (List D)} {v : Value} (h : RelD S w (.sl c n rows) v) (hcell : ∀ r ∈ rows, ∀ d ∈ r, d.cell = true) :
 ∃ ax cap, v = .slice ax rows.length cap /\ (0 < rows.length -> ∃ a news, ax = some a /\ Flat n rows (RelD S w) news /\ (∀ (j : Nat) u, news[j]? = some u -> w.cell? (a.add j) = some u) /\ ∀ u ∈ news, u.oneCell' = true) := by
 cases h with
 |slnil c n a cap => exact ⟨a, cap, rfl, fun h => by simp at h⟩
 |sl c n l b o cap g hS hn hcap hc hr =>
  refine ⟨some ⟨b, o, none⟩, cap, rfl, fun hpos => ⟨⟨b, o, none⟩, (List.range (rows.length * n)).map fun t => g (t / n) (t % n), rfl, ⟨by simp, hn, fun i j r d hi hj => ?_⟩, fun j u hu => ?_, fun u hu => ?_⟩⟩
  ·have hil : i < rows.length := (List.getElem?_eq_some_iff.1 hi).1
   have hjl : j < n := by rw [<- hn r (List.mem_of_getElem? hi)]; exact (List.getElem?_eq_some_iff.1 hj).1
   have hlt : i * n + j < rows.length * n := by
    have h2 : (i + 1) * n <= rows.length * n := Nat.mul_le_mul_right n (by omega);rw [Nat.add_mul] at h2; omega
   refine ⟨g i j, ?_, hr i j r d hi hj⟩;rw [List.getElem?_map, List.getElem?_range hlt];have h1 : (i * n + j) / n = i := by rw [Nat.mul_comm, Nat.mul_add_div (by omega), Nat.div_eq_of_lt hjl]; omega
   have h2 : (i * n + j) % n = j := by rw [Nat.mul_comm, Nat.mul_add_mod, Nat.mod_eq_of_lt hjl]
   simp [h1, h2]
  ·have key : ∀ t, t < rows.length * n -> ∃ r d, rows[t / n]? = some r /\ r[t % n]? = some d := fun t ht => by
    have hpos : 0 < n := by
     rcases Nat.eq_zero_or_pos n with h | h
     ·rw [h] at ht; omega
     ·exact h
    have hi : t / n < rows.length := Nat.div_lt_of_lt_mul (by rw [Nat.mul_comm]; exact ht);have hj : t % n < (rows[t / n]).length := by rw [hn _ (List.getElem_mem hi)]; exact Nat.mod_lt _ hpos
    exact ⟨_, _, List.getElem?_eq_getElem hi, List.getElem?_eq_getElem hj⟩
   rw [List.getElem?_map] at hu
   have hjl : j < rows.length * n := by
    rcases Nat.lt_or_ge j (rows.length * n) with h | h
    ·exact h
    ·rw [List.getElem?_eq_none (by simpa using h)] at hu; cases hu
   rw [List.getElem?_range hjl] at hu;simp only [Option.map_some, Option.some.injEq] at hu;subst hu;obtain ⟨r, d, h1, h2⟩ := key j hjl;have := hc _ _ r d h1 h2;rw [Qcg, <- this]
   congr 2
   have := Nat.div_add_mod j n;rw [Nat.mul_comm] at this;omega
  ·obtain ⟨t, ht, rfl⟩ := List.mem_map.1 hu
   have htl := List.mem_range.1 ht
   have hpos' : 0 < n := by
    rcases Nat.eq_zero_or_pos n with h | h
    ·rw [h] at htl; omega
    ·exact h
   have hi : t / n < rows.length := Nat.div_lt_of_lt_mul (by rw [Nat.mul_comm]; exact htl);have hj : t % n < (rows[t / n]).length := by rw [hn _ (List.getElem_mem hi)]; exact Nat.mod_lt _ hpos'
   exact D.cell_one (hr _ _ _ _ (List.getElem?_eq_getElem hi) (List.getElem?_eq_getElem hj)) (hcell _ (List.getElem_mem hi) _ (List.getElem_mem hj))
theorem OSl.cells {B : Bs} {σ : Sg} {S : Nat -> Prop} {H : List Blk} {w : World} {k g sz off len : Nat} {T : TypeId} {rows : List (List D)} {v : Value} (hS : Sm B σ S H w) (hk : H[k]? = some (.arr g sz T rows)) (h : OSl σ w k sz rows.length off len v)
 (hcell : ∀ r ∈ rows, ∀ d ∈ r, d.cell = true) :
 ∃ ax cap, v = .slice ax len cap /\ (0 < len -> ∃ a news, ax = some a /\ Flat sz ((rows.drop off).take len) (RelD S w) news /\ (∀ (j : Nat) u, news[j]? = some u -> w.cell? (a.add j) = some u) /\ ∀ u ∈ news, u.oneCell' = true) := by
 obtain ⟨hb, hv⟩ := h;obtain ⟨hlen, hbk⟩ := hS.blk k _ hk;rcases hv with ⟨b, cap, cs, T', hσ, hl, hcm, rfl, hc, hs⟩ | ⟨hσ, rfl, rfl⟩;rotate_left
 ·exact ⟨none, 0, rfl, fun h => by omega⟩
 rcases hbk with ⟨b', cs', hσ', hc', hrel⟩ | ⟨hσ', _⟩;rotate_left
 ·rw [hσ] at hσ'; cases hσ'
 rw [hσ] at hσ'; obtain rfl := Option.some.inj hσ';have hln : ((rows.drop off).take len).length = len := by rw [List.length_take, List.length_drop]; omega
 have hmem : ∀ (i : Nat) r, ((rows.drop off).take len)[i]? = some r -> rows[off + i]? = some r := fun i r hi => by
  rw [List.getElem?_take] at hi;split at hi
  ·rwa [List.getElem?_drop] at hi
  ·cases hi
 have key : ∀ (i j : Nat) r d, ((rows.drop off).take len)[i]? = some r -> r[j]? = some d -> ∃ u, cs'[off * sz + i * sz + j]? = some u /\ RelD S w d u := by
  intro i j r d hi hj;obtain ⟨u, hu, hr'⟩ := hrel _ j r d (hmem i r hi) hj;exact ⟨u, by rw [<- Nat.add_mul]; exact hu, hr'⟩
 have hfin : RelD (fun x => S x ∨ x = b) w (.sl false sz ((rows.drop off).take len)) (.slice (some ⟨b, off * sz, none⟩) ((rows.drop off).take len).length cap) := by
  refine .sl false sz _ b (off * sz) cap (fun i j => (cs'[off * sz + i * sz + j]?).getD undef) (.inr rfl) (fun r hr' => ?_) (fun h => by cases h) (fun i j r d hi hj => ?_) fun i j r d hi hj => ?_
  ·exact hlen r (List.mem_of_mem_drop (List.mem_of_mem_take hr'))
  ·obtain ⟨u, hu, _⟩ := key i j r d hi hj
   rw [cell_of_row w b _ cs' T (0, 0) hc', hu]; rfl
  ·obtain ⟨u, hu, hr'⟩ := key i j r d hi hj
   rw [hu]; exact hr'.mono (fun _ h => .inl h) fun _ _ => rfl
 rw [hln] at hfin;obtain ⟨ax, cap', h1, h2⟩ := hfin.sl_cells (fun r hr d hd => hcell r (List.mem_of_mem_drop (List.mem_of_mem_take hr)) d hd);rw [hln] at h1 h2;refine ⟨ax, cap', h1, fun hpos => ?_⟩;obtain ⟨a, news, h3, h4, h5, h6⟩ := h2 hpos;injection h1 with e1 e2 e3;subst h3;have e1' := Option.some.inj e1;subst e1';refine ⟨_, news, rfl, ⟨h4.1, h4.2.1, fun i j r d hi hj => ?_⟩, h5, h6⟩;obtain ⟨u, hu, _⟩ := h4.2.2 i j r d hi hj;refine ⟨u, hu, ?_⟩;obtain ⟨u', hu', hr'⟩ := key i j r d hi hj;have h7 := h5 _ u hu;rw [Qcg, cell_of_row w b _ cs' T (0, 0) hc'] at h7;have h8 : off * sz + (i * sz + j) = off * sz + i * sz + j := by omega
 rw [h8, hu'] at h7;obtain rfl := Option.some.inj h7;exact hr'
theorem Qg8 {T e : TypeId} {F E : TyF} {s x : Operand} {k g len : Nat} {rows newrows : List (List D)} {dst : Option Tmp} {ty : TypeId} {pos : String} {after : Array Edge} {gd : Option (Nat × Bool)} {env : List (Nat × AV)} {H : List Blk}
 (hT : tyf P T = some F) (he : F.elem = some e) (hE : tyf P e = some E) (hz : E.zero.length = E.size) (hpos : 0 < E.size)
 (hs : aval env s = .osl k g 0 len) (hk : H[k]? = some (.arr g E.size e rows)) (hlen : len = rows.length)
 (hx : ∀ B σ S w v, Sm B σ S H w -> Rel σ S H w (aval env x) v -> ∃ ax cap, v = .slice ax newrows.length cap /\ (0 < newrows.length -> ∃ a news, ax = some a /\ Flat E.size newrows (RelD S w) news /\ (∀ (j : Nat) u, news[j]? = some u -> w.cell? (a.add j) = some u) /\ ∀ u ∈ news, u.oneCell' = true))
 (hb : (rows.length + newrows.length) * E.bytes <= 140737488355328) (hm : rows.length + newrows.length <= 140737488355328) :
 Eff P ⟨dst, .call ⟨.builtin .append, #[s, x], #[T, T]⟩, ty, pos, after, gd⟩ env H (.osl k (g + 1) 0 (rows.length + newrows.length)) (H.set k (.arr (g + 1) E.size e (rows ++ newrows))) := by
 intro B σ S a w hB hS hop K Q kk;have hkl : k < H.length := (List.getElem?_eq_some_iff.1 hk).1;have h1 := hop s (by simp [Op.operands, Call.operands]);have h2 := hop x (by simp [Op.operands, Call.operands]);rw [hs] at h1;subst hlen;generalize hv : a.eval s = v at h1;obtain ⟨ax, c, hxv, hnews⟩ := hx B σ S w _ hS h2;obtain ⟨d, i, z, hd, hi, hzz, hsz, hby, hzl, _⟩ := Qcf hE;have hzs : z.cells.size = E.size := by rw [<- hz, <- hzl]; simp
 have hu := QbX hT he
 have hexec : ∀ v' w', (Builtin.append_ #[T, T] ty #[v, .slice ax newrows.length c]).run P w = .ok v' w' -> (execOp a.eval ⟨dst, .call ⟨.builtin .append, #[s, x], #[T, T]⟩, ty, pos, after, gd⟩).run P w = .ok (.value v') w' := fun v' w' hr => by
  simp only [execOp, resolve, invoke, builtin, Sem.run_bind, Sem.run_pure, Result.andThen_ok, List.map_toArray, List.map_cons, List.map_nil, hv, hxv, hr]
 cases h1 with
 |osl _ _ _ _ _ _ g' sz' T' rows' hk' hg hh =>
  rw [hk] at hk';obtain ⟨rfl, rfl, rfl, rfl⟩ : g = g' /\ E.size = sz' /\ e = T' /\ rows = rows' := by injection (Option.some.inj hk') with h1 h2 h3 h4; exact ⟨h1, h2, h3, h4⟩
  have hos := hh rfl;rcases Nat.eq_zero_or_pos newrows.length with h0 | hnpos
  ·have hnil : newrows = [] := List.eq_nil_of_length_eq_zero h0
   subst hnil;obtain ⟨h3, h4⟩ := hS.bump hk
   have hr : ∃ b cap, v = .slice b rows.length cap /\ rows.length <= cap := by
    rcases hos.2 with ⟨b, cap, cs, T', hσ, hl, hcm, rfl, hc, hs⟩ | ⟨hσ, hl, rfl⟩
    ·exact ⟨_, cap, rfl, hl⟩
    ·exact ⟨none, 0, by rw [hl], by omega⟩
   obtain ⟨b, cap, hvv, hcap⟩ := hr;have hrun := Qfa (P := P) w T ty e i hu hi b rows.length cap hcap ax c;rw [<- hvv] at hrun;refine QdI (hexec _ _ hrun) (kk _ w σ S (by simpa using h3) ?_ (by simpa using h4));simp only [List.length_nil, Nat.add_zero, List.append_nil];refine .osl k (g + 1) 0 rows.length _ (by rw [hvv]; rfl) (g + 1) E.size e rows (List.getElem?_set_self hkl) (Nat.le_refl _) fun _ => hos
  ·obtain ⟨aa, news, rfl, hfl, hcells, hone⟩ := hnews hnpos
   obtain ⟨v', w', σ', hr, h3, h4, h5⟩ := hS.append (P := P) (ty := ty) (c := c) hk hos hpos hu hi hzz hsz hzs hcells hone hfl (by rw [hby]; exact hb) hm;refine QdI (hexec _ _ hr) (kk _ w' σ' S h3 ?_ h4);refine .osl k (g + 1) 0 _ _ ?_ (g + 1) E.size e (rows ++ newrows) (List.getElem?_set_self hkl) (Nat.le_refl _) fun _ => by rw [List.length_append]; exact h5
   rcases h5.2 with ⟨b, cap, cs, T', _, _, _, rfl, _⟩ | ⟨_, _, rfl⟩ <;> rfl
theorem QnD {env : List (Nat × AV)} {H : List Blk} {x : Operand} {c : Bool} {n : Nat} {rows : List (List D)} (hx : aval env x = .d (.sl c n rows)) (hcell : ∀ r ∈ rows, ∀ d ∈ r, d.cell = true) :
 ∀ B σ S w v, Sm B σ S H w -> Rel σ S H w (aval env x) v -> ∃ ax cap, v = .slice ax rows.length cap /\ (0 < rows.length -> ∃ a news, ax = some a /\ Flat n rows (RelD S w) news /\ (∀ (j : Nat) u, news[j]? = some u -> w.cell? (a.add j) = some u) /\ ∀ u ∈ news, u.oneCell' = true) :=
 fun B σ S w v _ h => by
  rw [hx] at h;cases h with
  |d _ _ h => exact h.sl_cells hcell
theorem QkG {env : List (Nat × AV)} {H : List Blk} {x : Operand} {k g sz len : Nat} {T : TypeId} {rows : List (List D)} (hx : aval env x = .osl k g 0 len) (hk : H[k]? = some (.arr g sz T rows)) (hlen : len = rows.length) (hcell : ∀ r ∈ rows, ∀ d ∈ r, d.cell = true) :
 ∀ B σ S w v, Sm B σ S H w -> Rel σ S H w (aval env x) v -> ∃ ax cap, v = .slice ax rows.length cap /\ (0 < rows.length -> ∃ a news, ax = some a /\ Flat sz rows (RelD S w) news /\ (∀ (j : Nat) u, news[j]? = some u -> w.cell? (a.add j) = some u) /\ ∀ u ∈ news, u.oneCell' = true) :=
 fun B σ S w v hS h => by
  subst hlen;rw [hx] at h;cases h with
  |osl _ _ _ _ _ _ g' sz' T' rows' hk' hg hh =>
   rw [hk] at hk';obtain ⟨rfl, rfl, rfl, rfl⟩ : g = g' /\ sz = sz' /\ T = T' /\ rows = rows' := by injection (Option.some.inj hk') with h1 h2 h3 h4; exact ⟨h1, h2, h3, h4⟩
   have := OSl.cells hS hk (hh rfl) hcell;simpa using this
theorem Qd4 (t sz : Nat) (T : TypeId) {c : Code} {Q : Exit -> St -> Prop} {n : Nat} {env : List (Nat × AV)} {H : List Blk} {P : Program} (ht : look env t = .d (.v (.slice none 0 0)) := by rfl)
 (h : AWP P c Q ⟨n, (t, .osl H.length 0 0 0) :: env, H ++ [.arr 0 sz T []]⟩) : AWP P c Q ⟨n, env, H⟩ := by
 refine Qet ?_ h;intro B σ S a w hA;obtain ⟨h1, h2, h3⟩ := hA.sm.virt sz T;refine ⟨_, S, h1, hA.defers, hA.size, fun u => ?_⟩
 by_cases hu : t = u
 ·subst hu
  show Rel _ _ _ _ (look ((t, _) :: env) t) _;rw [QbM];have := AV.conc_rel (hA.env t) (y := .slice none 0 0) (by show (look env t).conc = _; rw [ht]; rfl);rw [this]; exact h3
 ·show Rel _ _ _ _ (look ((t, _) :: env) u) _
  rw [QbU hu];exact (hA.env u).mono h2
variable {P : Program}
section
variable {ops : Array Oper} {Q : Exit -> St -> Prop} {K : St -> Prop} {l : List Oper} {n : Nat} {env : List (Nat × AV)} {H H' : List Blk} {d : Tmp} {op : Op} {ty : TypeId} {pos : String} {after : Array Edge} {gd : Option (Nat × Bool)} {x x' : AV} {C C' : Blk}
theorem stepS2 (hl : Loc P ⟨some d, op, ty, pos, after, gd⟩ env H x (some C)) (hw : awanted ops env ⟨some d, op, ty, pos, after, gd⟩ = some true := by rfl) (hd : Nat.blt d n = true := by rfl) (hg : gdOk ops n ⟨some d, op, ty, pos, after, gd⟩ = true := by rfl)
 (hX : ∀ R : AV -> Prop, R x' -> R x := by intro R hR; simp only [List.length_cons, List.length_nil, Nat.reduceAdd, Nat.zero_add]; exact hR)
 (hH : ∀ R : List Blk -> Prop, R H' -> R (H ++ [C]) := by intro R hR; simp only [List.cons_append, List.nil_append]; exact hR)
 (k : ASeq P ops Q l ⟨n, (d, x') :: env, H'⟩) : ASeq P ops Q (⟨some d, op, ty, pos, after, gd⟩ :: l) ⟨n, env, H⟩ :=
 s2 hl hd hg hw (by have h1 := hX (fun r => r = x') rfl; have h2 := hH (fun r => r = H') rfl; rw [h1, h2]; exact k)
theorem stepD2 (hl : Loc P ⟨some d, op, ty, pos, after, gd⟩ env H x (some C)) (hw : awanted ops env ⟨some d, op, ty, pos, after, gd⟩ = some true := by rfl) (hd : Nat.blt d n = true := by rfl)
 (hX : ∀ R : AV -> Prop, R x' -> R x := by intro R hR; simp only [List.length_cons, List.length_nil, Nat.reduceAdd, Nat.zero_add]; exact hR)
 (hH : ∀ R : List Blk -> Prop, R H' -> R (H ++ [C]) := by intro R hR; simp only [List.cons_append, List.nil_append]; exact hR)
 (k : ADraw P ops K l ⟨n, (d, x') :: env, H'⟩) : ADraw P ops K (⟨some d, op, ty, pos, after, gd⟩ :: l) ⟨n, env, H⟩ :=
 d2 hl hd hw (by have h1 := hX (fun r => r = x') rfl; have h2 := hH (fun r => r = H') rfl; rw [h1, h2]; exact k)
theorem Qbz {dst : Option Tmp} {T e : TypeId} {F E : TyF} {n : Nat} {parts : Array (Nat × Operand)} {rows : List (List D)} (hT : tyf P T = some F) (he : F.elem = some e) (hE : tyf P e = some E)
 (hz : E.zero.length = E.size := by rfl) (hc : ∀ R : Option (List (List D)) -> Prop, R (some rows) -> R ((fillA (fun i => some (i * E.size, E.size)) env (List.replicate n (E.zero.map fun v => AV.d (.v v))).flatten parts.toList).bind (chunk E.size n)) := by
   intro R hR; simp only [go_sem, chunk, Option.bind_some, List.replicate_succ, List.replicate_zero, List.flatten_cons, List.flatten_nil, List.append_nil, List.cons_append, List.nil_append, Nat.zero_mul, Nat.reduceMul, Nat.reduceEqDiff, Nat.reduceAdd, Nat.reduceLT, Nat.reduceLeDiff, ↓reduceIte, reduceCtorEq, List.take_nil, List.drop_nil]; exact hR)
 (hm : Nat.ble (n * E.size) 16777216 = true := by rfl) (hn : Nat.ble n 16777216 = true := by rfl) : Loc P ⟨dst, .buildSlice T n parts, ty, pos, after, gd⟩ env H (.osl H.length 0 0 n) (some (.arr 0 E.size e rows)) := by
 have h := hc (fun r => r = some rows) rfl;obtain ⟨res, h1, h2⟩ := Option.bind_eq_some_iff.1 h;exact QfB hT he hE hz h1 h2 (Nat.le_of_ble_eq_true hm) (Nat.le_of_ble_eq_true hn)
theorem Qlq {dst : Option Tmp} {T e : TypeId} {F E : TyF} {u v : Operand} {k1 k2 : IntKind} {n : Nat} (hT : tyf P T = some F) (he : F.elem = some e) (hE : tyf P e = some E) (hu : aval env u = .d (.v (.int k1 (n : Int)))) (hv : aval env v = .d (.v (.int k2 (n : Int))))
 (hz : E.zero.length = E.size := by rfl) (hb : Nat.ble (E.bytes * n) 281474976710656 = true := by rfl) (hm : Nat.ble n 140737488355328 = true := by rfl) :
 Loc P ⟨dst, .makeSlice T u v, ty, pos, after, gd⟩ env H (.osl H.length 0 0 n) (some (.arr 0 E.size e (List.replicate n (E.zero.map D.v)))) :=
 Qcw hT he hE hu hv hz (Nat.le_of_ble_eq_true hb) (Nat.le_of_ble_eq_true hm)
theorem Qbu {T : TypeId} {F : TyF} {u v : Operand} {k g o : Nat} {cells lc : List AV} [hT : Ty P T F] (hu : aval env u = .ptr k g o := by rfl) (hk : H[k]? = some (.row g cells) := by rfl)
 (hv : ∀ R : Option (List AV) -> Prop, R (some lc) -> R (aval env v).cells := by intro R hR; simp only [go_sem, Nat.reduceEqDiff, Nat.reduceAdd, Nat.reduceLT, Nat.reduceLeDiff, ↓reduceIte, reduceCtorEq]; exact hR)
 (hone : lc.all AV.one = true := by rfl) (hsz : lc.length = F.size := by rfl) (hlen : Nat.ble (o + lc.length) cells.length = true := by rfl) (hw : awanted ops env ⟨none, .store T u v, ty, pos, after, gd⟩ = some true := by rfl) (hg : gdOk ops n ⟨none, .store T u v, ty, pos, after, gd⟩ = true := by rfl)
 (hH : ∀ R : List Blk -> Prop, R H' -> R (H.set k (.row g (setAt cells o lc))) := by intro R hR; simp only [setAt, List.set_cons_zero, List.set_cons_succ, Nat.zero_add, Nat.reduceAdd]; exact hR)
 (kk : ASeq P ops Q l ⟨n, env, H'⟩) : ASeq P ops Q (⟨none, .store T u v, ty, pos, after, gd⟩ :: l) ⟨n, env, H⟩ :=
 QgI (Qh3 hT.h hu hk (hv (fun r => r = some lc) rfl) hone hsz (Nat.le_of_ble_eq_true hlen)) hw hg (by have := hH (fun r => r = H') rfl; rw [this]; exact kk)
theorem cells1 (r : List D) (h : r.all D.cell = true) : ∀ q ∈ [r], ∀ d ∈ q, d.cell = true := fun q hq d hd => by
 rw [List.mem_singleton] at hq; subst hq; exact List.all_eq_true.1 h d hd
theorem QbO {T e : TypeId} {F E : TyF} {s x : Operand} {k g len k2 g2 : Nat} {T2 : TypeId} {rows : List (List D)} {r : List D} (hT : tyf P T = some F) (he : F.elem = some e) (hE : tyf P e = some E) (hz : E.zero.length = E.size := by rfl) (hpos : Nat.blt 0 E.size = true := by rfl)
 (hs : aval env s = .osl k g 0 len := by rfl) (hk : H[k]? = some (.arr g E.size e rows) := by rfl) (hlen : len = rows.length := by first | rfl | simp)
 (hx : aval env x = .osl k2 g2 0 1 := by rfl) (hk2 : H[k2]? = some (.arr g2 E.size T2 [r]) := by rfl) (hcell : r.all D.cell = true := by rfl)
 (hb : (rows.length + 1) * E.bytes <= 140737488355328) 
 (hw : awanted ops env ⟨some d, .call ⟨.builtin .append, #[s, x], #[T, T]⟩, ty, pos, after, gd⟩ = some true := by rfl) (hd : Nat.blt d n = true := by rfl) (hg : gdOk ops n ⟨some d, .call ⟨.builtin .append, #[s, x], #[T, T]⟩, ty, pos, after, gd⟩ = true := by rfl)
 (hH : ∀ R : List Blk -> Prop, R H' -> R (H.set k (.arr (g + 1) E.size e (rows ++ [r]))) := by intro R hR; simp only [List.set_cons_zero, List.set_cons_succ, Nat.zero_add, Nat.reduceAdd]; exact hR)
 (hby : Nat.blt 0 E.bytes = true := by rfl)
 (kk : ASeq P ops Q l ⟨n, (d, .osl k (g + 1) 0 (rows.length + 1)) :: env, H'⟩) : ASeq P ops Q (⟨some d, .call ⟨.builtin .append, #[s, x], #[T, T]⟩, ty, pos, after, gd⟩ :: l) ⟨n, env, H⟩ := by
 have hby' : 0 < E.bytes := by simpa using hby
 have hmul : rows.length + 1 <= (rows.length + 1) * E.bytes := Nat.le_mul_of_pos_right _ hby';refine QhI (Qg8 (newrows := [r]) hT he hE hz (by simpa using hpos) hs hk hlen (QkG hx hk2 rfl (cells1 r hcell)) (by simpa using hb) (by simp; omega)) hw hd hg ?_;have := hH (fun r => r = H') rfl;rw [this]; simpa using kk
theorem QgJ {T e : TypeId} {F E : TyF} {s x : Operand} {k g len : Nat} {c : Bool} {rows newrows : List (List D)} (hT : tyf P T = some F) (he : F.elem = some e) (hE : tyf P e = some E) (hz : E.zero.length = E.size := by rfl) (hpos : Nat.blt 0 E.size = true := by rfl)
 (hs : aval env s = .osl k g 0 len := by rfl) (hk : H[k]? = some (.arr g E.size e rows) := by rfl) (hlen : len = rows.length := by first | rfl | simp)
 (hx : aval env x = .d (.sl c E.size newrows) := by rfl) (hcell : ∀ r ∈ newrows, ∀ d ∈ r, d.cell = true)
 (hb : (rows.length + newrows.length) * E.bytes <= 140737488355328) 
 (hw : awanted ops env ⟨some d, .call ⟨.builtin .append, #[s, x], #[T, T]⟩, ty, pos, after, gd⟩ = some true := by rfl) (hd : Nat.blt d n = true := by rfl) (hg : gdOk ops n ⟨some d, .call ⟨.builtin .append, #[s, x], #[T, T]⟩, ty, pos, after, gd⟩ = true := by rfl)
 (hH : ∀ R : List Blk -> Prop, R H' -> R (H.set k (.arr (g + 1) E.size e (rows ++ newrows))) := by intro R hR; simp only [List.set_cons_zero, List.set_cons_succ, Nat.zero_add, Nat.reduceAdd]; exact hR)
 (hby : Nat.blt 0 E.bytes = true := by rfl)
 (kk : ASeq P ops Q l ⟨n, (d, .osl k (g + 1) 0 (rows.length + newrows.length)) :: env, H'⟩) : ASeq P ops Q (⟨some d, .call ⟨.builtin .append, #[s, x], #[T, T]⟩, ty, pos, after, gd⟩ :: l) ⟨n, env, H⟩ := by
 have hby' : 0 < E.bytes := by simpa using hby
 have hmul : rows.length + newrows.length <= (rows.length + newrows.length) * E.bytes := Nat.le_mul_of_pos_right _ hby';refine QhI (Qg8 (newrows := newrows) hT he hE hz (by simpa using hpos) hs hk hlen (QnD hx hcell) hb (by omega)) hw hd hg ?_;have := hH (fun r => r = H') rfl;rw [this]; exact kk
end
end Aw
end Go.Proofs.YtdjkdcokjoiokaaGreatDoor

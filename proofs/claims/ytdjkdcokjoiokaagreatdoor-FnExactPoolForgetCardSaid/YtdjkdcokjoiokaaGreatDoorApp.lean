/- Appending one element onto a row of the call's own. -/
import Derived.Test.YtdjkdcokjoiokaaGreatDoorProg
import Derived.Test.YtdjkdcokjoiokaaGreatDoorForget
import Derived.WalkKit
import Derived.ArgAppend
import Derived.KernelRfl
namespace Go.Proofs.YtdjkdcokjoiokaaGreatDoor
open Go.RowKit
namespace Pm
theorem grown_below {w w' : World} {base : Nat} {e : TypeId} {size n : Nat} {v : Value} {xs : List Value} (hown : w.ownsRow base e size v n xs) (hb : base ≤ w.heap.size) (hg : w.grownBy w' v.ownBlock) : Below base w w' :=
  (Below.refl _ _).grown hg hb fun k hk => by
    obtain ⟨_, ⟨rfl, _⟩ | ⟨g, cap, cur, rfl, hbg, _⟩⟩ := hown
    · simp [Value.ownBlock] at hk
    · simp [Value.ownBlock] at hk; omega

theorem wpList_app {P : Program} {w : World} {ops : Array Oper} {rest : List Oper} {o : Oper} {a : Act} {Q : Exit → Act → World → Prop} (hgd : o.guard = none) (s x : Operand) (t : TypeId)
    (ho : o.op = .call { callee := .builtin .append, args := #[s, x], argTypes := #[t, t] })
    (base : Nat) (e : TypeId) (z : Value) (size bytes : Nat) (ht : P.underlying t = some (.slice e)) (hinfo : (P.info? e).map (fun i => (i.zero, i.size, i.bytes)) = some (some z, size, bytes)) (hzs : z.cells.size = size) (hsz : 0 < size)
    (v : Value) (n : Nat) (xs : List Value) (hs : a.eval s = v) (hown : w.ownsRow base e size v n xs)
    (b c : Nat) (news : List Value) (hx : a.eval x = .slice (some ⟨b, 0, none⟩) 1 c) (hl : news.length = size) (hnews : ∀ j u, news[j]? = some u → w.cell? ⟨b, j, none⟩ = some u) (h1 : ∀ u ∈ news, u.oneCell' = true)
    (hbytes : (n + 1) * bytes ≤ 140737488355328) (hby : 0 < bytes) (hbase : base ≤ w.heap.size)
    (h : ∀ v' w', w'.ownsRow base e size v' (n + 1) (xs ++ news) → Below base w w' → base ≤ w'.heap.size → wpList P ops Q rest (a.put o.dst v') w') : wpList P ops Q (o :: rest) a w := by
  obtain ⟨i, hi, hz, hs1, hs2⟩ := info_parts hinfo
  refine wpList_append_own w hgd s x t ho base e i z size bytes ht hi hz hs1 hs2 hzs hsz v n xs hs hown ⟨b, 0, none⟩ 1 c news hx (by omega) (fun j u hj => ?_) h1 ?_ hbytes hbase fun v' w' h2 h3 _ => ?_
  · have := hnews j u hj
    by_cases h0 : j = 0
    · subst h0; simpa [Addr.add] using this
    · simpa [Addr.add, h0] using this
  · unfold maxLen
    have : (n + 1) * 1 ≤ (n + 1) * bytes := Nat.mul_le_mul_left _ hby
    omega
  · exact h v' w' h2 (grown_below hown hbase h3) (Nat.le_trans hbase h3.size)
theorem infoS : (Tryz.prog.info? 9).map (fun i => (i.zero, i.size, i.bytes)) = some (some (.string ⟨#[]⟩), 1, 16) := by kernel_rfl

/-- .. one text onto a []string. -/
theorem wpList_app_str {w : World} {ops : Array Oper} {rest : List Oper} {o : Oper} {a : Act} {Q : Exit → Act → World → Prop} (hgd : o.guard = none) (s x : Operand)
    (ho : o.op = .call { callee := .builtin .append, args := #[s, x], argTypes := #[35, 35] })
    (base : Nat) (v : Value) (l : List Str) (hs : a.eval s = v) (hown : w.ownsRow base 9 1 v l.length (l.map vstr))
    (b c : Nat) (y : Str) (hx : a.eval x = .slice (some ⟨b, 0, none⟩) 1 c) (hc : w.cell? ⟨b, 0, none⟩ = some (.string ⟨y.toArray⟩)) (hbytes : l.length < 8000000000000) (hbase : base ≤ w.heap.size)
    (h : ∀ v' w', w'.ownsRow base 9 1 v' (l ++ [y]).length ((l ++ [y]).map vstr) → Below base w w' → base ≤ w'.heap.size → wpList Tryz.prog ops Q rest (a.put o.dst v') w') : wpList Tryz.prog ops Q (o :: rest) a w := by
  refine wpList_app hgd s x _ ho base _ _ 1 16 Tryz.underlying35 infoS rfl (by omega) v _ _ hs hown b c [vstr y] hx rfl (fun j u hj => ?_) (fun u hu => ?_) (by omega) (by omega) hbase fun v' w' h1 h2 h3 => h v' w' (by simpa using h1) h2 h3
  · match j, hj with
    | 0, hj =>
      simp only [List.getElem?_cons_zero, Option.some.injEq] at hj
      rw [← hj]; exact hc
  · simp only [List.mem_singleton] at hu
    subst hu; rfl
theorem infoI : (Tryz.prog.info? 3).map (fun i => (i.zero, i.size, i.bytes)) = some (some (.int .i64 0), 1, 8) := by kernel_rfl
def vnat (n : Nat) : Value := .int .i64 (n : Int)
/-- .. one number onto a []int. -/
theorem wpList_app_int {w : World} {ops : Array Oper} {rest : List Oper} {o : Oper} {a : Act} {Q : Exit → Act → World → Prop} (hgd : o.guard = none) (s x : Operand)
    (ho : o.op = .call { callee := .builtin .append, args := #[s, x], argTypes := #[36, 36] })
    (base : Nat) (v : Value) (l : List Nat) (hs : a.eval s = v) (hown : w.ownsRow base 3 1 v l.length (l.map vnat))
    (b c : Nat) (y : Nat) (hx : a.eval x = .slice (some ⟨b, 0, none⟩) 1 c) (hc : w.cell? ⟨b, 0, none⟩ = some (.int .i64 (y : Int))) (hbytes : l.length < 8000000000000) (hbase : base ≤ w.heap.size)
    (h : ∀ v' w', w'.ownsRow base 3 1 v' (l ++ [y]).length ((l ++ [y]).map vnat) → Below base w w' → base ≤ w'.heap.size → wpList Tryz.prog ops Q rest (a.put o.dst v') w') : wpList Tryz.prog ops Q (o :: rest) a w := by
  refine wpList_app hgd s x _ ho base _ _ 1 8 Tryz.underlying36 infoI rfl (by omega) v _ _ hs hown b c [vnat y] hx rfl (fun j u hj => ?_) (fun u hu => ?_) (by omega) (by omega) hbase fun v' w' h1 h2 h3 => h v' w' (by simpa using h1) h2 h3
  · match j, hj with
    | 0, hj =>
      simp only [List.getElem?_cons_zero, Option.some.injEq] at hj
      rw [← hj]; exact hc
  · simp only [List.mem_singleton] at hu
    subst hu; rfl
theorem owns_newI {w : World} {base : Nat} (hb : base ≤ w.heap.size) : (w.alloc (.cells #[] 3)).ownsRow base 3 1 (.slice (some ⟨w.heap.size, 0, none⟩) 0 0) 0 [] := owns_new hb
/-- A full row of numbers, element by element. -/
theorem owns_cells {w : World} {base : Nat} {e : TypeId} {v : Value} {l : List Value} (h : w.ownsRow base e 1 v l.length l) (hl : 0 < l.length) : ∃ g c, v = .slice (some ⟨g, 0, none⟩) l.length c ∧ base ≤ g ∧ g < w.heap.size ∧ ∀ (i : Nat) (x : Value), l[i]? = some x → w.cell? ⟨g, i, none⟩ = some x := by
  obtain ⟨_, ⟨_, hn⟩ | ⟨g, cap, _, rfl, _⟩⟩ := id h
  · omega
  · obtain ⟨cur, hr, hbg, _, _, ht⟩ := Row.of_owns h
    refine ⟨g, cap, rfl, hbg, hr.lt, fun i x hx => hr.get i ?_⟩
    have : (cur.toList.take (l.length * 1))[i]? = some x := by rw [ht]; exact hx
    rw [List.getElem?_take] at this
    split at this
    · simpa using this
    · cases this
theorem at_cells {w : World} {B : Nat} {A : Option Addr} {l : List Str} (h : At w B A l) (hl : 0 < l.length) : ∃ b off, A = some ⟨b, off, none⟩ ∧ b < B ∧ ∀ (j : Nat) (u : Value), (l.map vstr)[j]? = some u → w.cell? ⟨b, off + j, none⟩ = some u := by
  obtain ⟨b, off, rfl, hb, hc⟩ := h hl
  refine ⟨b, off, rfl, hb, fun j u hj => ?_⟩
  rw [List.getElem?_map] at hj
  cases hx : l[j]? with
  | none => rw [hx] at hj; cases hj
  | some x =>
    rw [hx] at hj
    simp only [Option.map_some, Option.some.injEq] at hj
    subst hj
    obtain ⟨cs, h1, h2⟩ := hc j x hx
    obtain ⟨rfl, _⟩ := str_cells h1
    have := h2 0 _ rfl
    simpa [Rep.size, vstr] using this
/-- A row of the call's own stays. -/
theorem owns_below {w w' : World} {base : Nat} {e : TypeId} {size n : Nat} {v : Value} {xs : List Value} (h : w.ownsRow base e size v n xs) (hb : Below w.heap.size w w') : w'.ownsRow base e size v n xs := by
  obtain ⟨h1, ⟨hv, hn⟩ | ⟨g, cap, cur, hv, hg, hh, hr⟩⟩ := h
  · exact ⟨h1, .inl ⟨hv, hn⟩⟩
  · refine ⟨h1, .inr ⟨g, cap, cur, hv, hg, ?_, hr⟩⟩
    have hlt : g < w.heap.size := by
      rcases Nat.lt_or_ge g w.heap.size with hlt | hge
      · exact hlt
      · rw [Array.getElem?_eq_none hge] at hh; cases hh
    rw [hb.block g hlt]; exact hh
theorem owns_base {w : World} {base base' : Nat} {e : TypeId} {size n : Nat} {v : Value} {xs : List Value} (h : w.ownsRow base e size v n xs) (hb : base' ≤ base) : w.ownsRow base' e size v n xs := by
  obtain ⟨h1, ⟨hv, hn⟩ | ⟨g, cap, cur, hv, hg, hh, hr⟩⟩ := h
  · exact ⟨h1, .inl ⟨hv, hn⟩⟩
  · exact ⟨h1, .inr ⟨g, cap, cur, hv, Nat.le_trans hb hg, hh, hr⟩⟩
/-- A full []string with texts appended: a new row. -/
theorem wp_grow_str {w : World} {o : Oper} {a : Act} {K : Act → World → Prop} {Q : Exit → Act → World → Prop} (s x : Operand)
    (ho : o.op = .call { callee := .builtin .append, args := #[s, x], argTypes := #[35, 35] })
    (A A2 : Option Addr) (l l2 : List Str) (c c2 : Nat) (hs : a.eval s = .slice A l.length c) (hat : At w w.heap.size A l) (hl : 0 < l.length)
    (hx : a.eval x = .slice A2 l2.length c2) (hat2 : At w w.heap.size A2 l2) (hl2 : 0 < l2.length) (hfull : c < l.length + l2.length) (hbytes : l.length + l2.length < 8000000000000)
    (h : ∀ v' w', w'.ownsRow w.heap.size 9 1 v' (l ++ l2).length ((l ++ l2).map vstr) → Below w.heap.size w w' → K (a.put o.dst v') w') : o.wp Tryz.prog a w K Q := by
  obtain ⟨b, off, rfl, _, hc⟩ := at_cells hat hl
  obtain ⟨b2, off2, rfl, _, hc2⟩ := at_cells hat2 hl2
  obtain ⟨i, hi, hz, hs1, hs2⟩ := info_parts infoS
  obtain ⟨v', w', hr, h2, h3⟩ := run_append_arg_grows (P := Tryz.prog) w 35 o.type 9 i (.string ⟨#[]⟩) 1 16 Tryz.underlying35 hi hz hs1 hs2 rfl (by omega) ⟨b, off, none⟩ l.length c (l.map vstr) (by simp)
    (fun j u hj => by rw [Addr.add_lit]; exact hc j u hj) ⟨b2, off2, none⟩ l2.length c2 (l2.map vstr) (by simp) (fun j u hj => by rw [Addr.add_lit]; exact hc2 j u hj) hfull (by simp only [maxLen]; omega) (by omega)
  unfold Oper.wp execOp
  simp only [ho, resolve, invoke, builtin, Sem.run_bind, Sem.run_pure, Result.andThen_ok, List.map_toArray, List.map_cons, List.map_nil, hs, hx, hr]
  exact h v' w' (by simpa using h2) ((Below.refl _ _).grown h3 (Nat.le_refl _) fun k hk => by cases hk)
end Pm
end Go.Proofs.YtdjkdcokjoiokaaGreatDoor

/-
  Slices of structs: what is laid end to end; append of a whole slice. General: without a function of the program.
-/
import Derived.Test.YtkgpnikmdmpfaaaGreatDoorBackP1
import Derived.Test.YtkgpnikmdmpfaaaGreatDoorBackP2
import Derived.LoopN
set_option linter.unusedVariables false
set_option linter.unusedSimpArgs false
namespace Go.Proofs.YtkgpnikmdmpfaaaGreatDoor
open Go.RowKit Go.Maps

section
variable {α : Type} {enc : α → List Value} {size : Nat}
theorem flat_to (hsz : ∀ x, (enc x).length = size) : ∀ (l : List α) (i : Nat) (x : α), l[i]? = some x → ∀ j u, (enc x)[j]? = some u → (l.flatMap enc)[i * size + j]? = some u
  | [], i, x, h, _, _, _ => by simp at h
  | a :: t, 0, x, h, j, u, hj => by
    simp at h; subst h
    have hlt := (List.getElem?_eq_some_iff.1 hj).1
    rw [List.flatMap_cons, List.getElem?_append_left (by omega)]
    simpa using hj
  | a :: t, i + 1, x, h, j, u, hj => by
    rw [List.flatMap_cons, List.getElem?_append_right (by rw [hsz, Nat.add_mul]; omega), hsz]
    have := flat_to hsz t i x (by simpa using h) j u hj
    rw [show (i + 1) * size + j - size = i * size + j by rw [Nat.add_mul]; omega]
    exact this
theorem flat_of (hsz : ∀ x, (enc x).length = size) : ∀ (l : List α) (k : Nat) (u : Value), (l.flatMap enc)[k]? = some u → ∃ i j x, k = i * size + j ∧ l[i]? = some x ∧ (enc x)[j]? = some u
  | [], k, u, h => by simp at h
  | a :: t, k, u, h => by
    rw [List.flatMap_cons] at h
    rcases Nat.lt_or_ge k (enc a).length with hk | hk
    · rw [List.getElem?_append_left hk] at h
      exact ⟨0, k, a, by omega, rfl, h⟩
    · rw [List.getElem?_append_right hk] at h
      obtain ⟨i, j, x, h1, h2, h3⟩ := flat_of hsz t _ u h
      refine ⟨i + 1, j, x, ?_, by simpa using h2, h3⟩
      rw [hsz] at h1 hk
      rw [Nat.add_mul]; omega
theorem flat_len (hsz : ∀ x, (enc x).length = size) (l : List α) : (l.flatMap enc).length = l.length * size := by
  induction l with
  | nil => simp
  | cons a t ih => rw [List.flatMap_cons, List.length_append, ih, hsz, List.length_cons, Nat.add_mul]; omega
theorem own_len (hsz : ∀ x, (enc x).length = size) {w : World} {base n : Nat} {e : TypeId} {v : Value} {l : List α} (hpos : 0 < size) (h : w.ownsRow base e size v n (l.flatMap enc)) : n = l.length := by
  have h1 := h.1
  rw [flat_len hsz] at h1
  exact (Nat.eq_of_mul_eq_mul_right hpos h1).symm
theorem slc_of_own (hsz : ∀ x, (enc x).length = size) {w : World} {base n : Nat} {e : TypeId} {v : Value} {l : List α} (hpos : 0 < size) (h : w.ownsRow base e size v n (l.flatMap enc)) : Slc enc size w v l := by
  have hn := own_len hsz hpos h
  subst hn
  rcases h.2 with ⟨rfl, h0⟩ | ⟨g, cap, cur, rfl, hb, hg, hcap, _, _, htake⟩
  · exact .inl ⟨rfl, List.eq_nil_of_length_eq_zero h0⟩
  · refine .inr ⟨g, cap, rfl, hcap, (Array.getElem?_eq_some_iff.1 hg).1, fun i x hi j u hj => ?_⟩
    have h1 := flat_to hsz l i x hi j u hj
    rw [cell_of_row _ _ _ _ _ _ hg]
    rw [← htake, List.getElem?_take] at h1
    split at h1
    · simpa using h1
    · cases h1
theorem slc_same {w w' : World} {v : Value} {l : List α} (h : Slc enc size w v l) (hs : ∀ k, v.ownBlock = some k → w'.heap[k]? = w.heap[k]?) (hb : w.heap.size ≤ w'.heap.size) : Slc enc size w' v l := by
  rcases h with h | ⟨b, cap, rfl, h2, h3, h4⟩
  · exact .inl h
  · refine .inr ⟨b, cap, rfl, h2, by omega, fun i x hi j u hj => ?_⟩
    have := h4 i x hi j u hj
    have e : w'.cell? ⟨b, i * size + j, none⟩ = w.cell? ⟨b, i * size + j, none⟩ := World.cell?_of_block (hs b rfl)
    rw [e]; exact this
theorem slc_shape {w : World} {v : Value} {l : List α} (h : Slc enc size w v l) : ∃ p c, v = .slice p l.length c := by
  rcases h with ⟨rfl, rfl⟩ | ⟨b, cap, rfl, _⟩
  · exact ⟨_, _, rfl⟩
  · exact ⟨_, _, rfl⟩
/-- append(v, u...): v is the call's own, u whatever slice of such elements. -/
theorem run_appAll {P : Program} {w : World} (hsz : ∀ x, (enc x).length = size) (base : Nat) (t ty e : TypeId) (z : Value) (bytes : Nat)
    (ht : P.underlying t = some (.slice e)) (hinfo : (P.info? e).map (fun i => (i.zero, i.size, i.bytes)) = some (some z, size, bytes)) (hz : z.cells.size = size) (hpos : 0 < size)
    (v : Value) (n : Nat) (xs : List Value) (HO : w.ownsRow base e size v n xs) (u : Value) (l : List α) (hu : Slc enc size w u l) (h1 : ∀ x, ∀ c ∈ enc x, c.oneCell' = true)
    (hm : n + l.length ≤ maxLen) (hl : (n + l.length) * bytes ≤ 140737488355328) (hbase : base ≤ w.heap.size) :
    ∃ v1 w1, (Builtin.append_ #[t, t] ty #[v, u]).run P w = .ok v1 w1 ∧ w1.ownsRow base e size v1 (n + l.length) (xs ++ l.flatMap enc) ∧ w.grownBy w1 v.ownBlock ∧ (v1.ownBlock = v.ownBlock ∨ v1.ownBlock = some w.heap.size) := by
  obtain ⟨i0, hi, hzz⟩ := Option.map_eq_some_iff.1 hinfo
  simp only [Prod.mk.injEq] at hzz
  obtain ⟨hz0, hz1, hz2⟩ := hzz
  rcases hu with ⟨rfl, rfl⟩ | ⟨b, cap, rfl, hcap, hb, hc⟩
  · have hrun := run_append_owned_none (P := P) (w := w) base t ty e i0 size ht hi v n xs HO
    refine ⟨v, w, hrun, by simpa using HO, ⟨rfl, rfl, rfl, Nat.le_refl _, fun _ _ _ => rfl⟩, .inl rfl⟩
  · obtain ⟨v1, w1, hr, h2, h3, _, h5⟩ := run_append_own_at (P := P) (w := w) base t ty e i0 z size bytes ht hi hz0 hz1 hz2 hz hpos v n xs HO ⟨b, 0, none⟩ l.length cap (l.flatMap enc) (flat_len hsz l)
      (fun j c hj => by
        obtain ⟨i, r, x, rfl, hx, hr⟩ := flat_of hsz l j c hj
        rw [add_plain]
        exact hc i x hx r c hr)
      (fun c hc' => by
        obtain ⟨x, _, hx⟩ := List.mem_flatMap.1 hc'
        exact h1 x c hx) hm hl hbase
    exact ⟨v1, w1, hr, h2, h3, h5⟩
end
/-- append of a whole slice onto nil: at the operation. -/
theorem wpList_app {P : Program} {w w1 : World} {ops : Array Oper} {rest : List Oper} {o : Oper} {a : Act} {Q : Exit → Act → World → Prop} (hgd : o.guard = none) (s x : Operand) {t u : TypeId} {v y v1 : Value}
    (ho : o.op = .call { callee := .builtin .append, args := #[s, x], argTypes := #[t, u] }) (hs : a.eval s = v) (hx : a.eval x = y) (hr : (Builtin.append_ #[t, u] o.type #[v, y]).run P w = .ok v1 w1)
    (h : wpList P ops Q rest (a.put o.dst v1) w1) : wpList P ops Q (o :: rest) a w := by
  refine wpList_plain hgd fun K hK => ?_
  unfold Oper.wp execOp
  simp only [ho, resolve, invoke, builtin, Sem.run_bind, Sem.run_pure, Result.andThen_ok, List.map_toArray, List.map_cons, List.map_nil, hs, hx, hr]
  exact hK _ _ h
end Go.Proofs.YtkgpnikmdmpfaaaGreatDoor

/-
  The walks of package saga's functions but Valid.
-/

set_option linter.unusedVariables false
set_option linter.unusedSimpArgs false
namespace Go.Proofs.YtkgpnikmdmpfaaaGreatDoor
open Go.RowKit

theorem deedAt (v0 v1 v2 v3 v4 v5 : Value) : 
    (∀ w : World, (Instr.index 74 (.agg #[v0, v1, v2, v3, v4, v5]) (.int .i64 0)).run Tryz.prog w = .ok v0 w) ∧
    (∀ w : World, (Instr.index 74 (.agg #[v0, v1, v2, v3, v4, v5]) (.int .i64 1)).run Tryz.prog w = .ok v1 w) ∧
    (∀ w : World, (Instr.index 74 (.agg #[v0, v1, v2, v3, v4, v5]) (.int .i64 2)).run Tryz.prog w = .ok v2 w) ∧
    (∀ w : World, (Instr.index 74 (.agg #[v0, v1, v2, v3, v4, v5]) (.int .i64 3)).run Tryz.prog w = .ok v3 w) ∧
    (∀ w : World, (Instr.index 74 (.agg #[v0, v1, v2, v3, v4, v5]) (.int .i64 4)).run Tryz.prog w = .ok v4 w) ∧
    (∀ w : World, (Instr.index 74 (.agg #[v0, v1, v2, v3, v4, v5]) (.int .i64 5)).run Tryz.prog w = .ok v5 w) :=
  ⟨fun _ => by kernel_rfl, fun _ => by kernel_rfl, fun _ => by kernel_rfl, fun _ => by kernel_rfl, fun _ => by kernel_rfl, fun _ => by kernel_rfl⟩

/-- How Waits answers. -/
def waitsRes (s : Sp.Saga) : Value := .tuple #[.int .i64 (if 0 ≤ Sp.waits s then Sp.waits s else 0), .bool (decide (0 ≤ Sp.waits s))]

set_option maxRecDepth 100000 in
set_option maxHeartbeats 2000000 in
theorem Waits_any (s : Sp.Saga) (w : World) :
    Calls Tryz.prog 89 #[sagaVal s] w fun e w' => e = .returned (waitsRes s) ∧ Below w.heap.size w w' := by
  obtain ⟨⟨id, ref, sku, qty, amount⟩, d0, d1, d2, d3, d4, d5, cancel⟩ := s
  simp only [sagaVal]
  obtain ⟨i0, i1, i2, i3, i4, i5⟩ := deedAt (.int .i64 d0) (.int .i64 d1) (.int .i64 d2) (.int .i64 d3) (.int .i64 d4) (.int .i64 d5)
  go_enter Tryz.func89, Tryz.ntmps89
  go_wp2
  refine wp_loop_rounds 7 ?_
  iterate 7 (all_goals (try (rw [rounds_succ]; go_wp2)))
  all_goals
    go_ret2
    refine ⟨?_, alloc_grew _ _⟩
    clear i0 i1 i2 i3 i4 i5
    (try simp only [beq_iff_eq, beq_eq_false_iff_ne, ne_eq] at *)
    simp [waitsRes, Sp.waits, *]

theorem waits_range (s : Sp.Saga) : Sp.waits s = -1 ∨ Sp.waits s = 0 ∨ Sp.waits s = 1 ∨ Sp.waits s = 2 ∨ Sp.waits s = 3 ∨ Sp.waits s = 4 ∨ Sp.waits s = 5 := by
  unfold Sp.waits
  repeat' split
  all_goals simp

set_option maxRecDepth 100000 in
set_option maxHeartbeats 2000000 in
theorem back_any (s : Sp.Saga) (w : World) :
    Calls Tryz.prog 116 #[sagaVal s] w fun e w' => e = .returned (.bool (Sp.back s)) ∧ Below w.heap.size w w' := by
  obtain ⟨⟨id, ref, sku, qty, amount⟩, d0, d1, d2, d3, d4, d5, cancel⟩ := s
  simp only [sagaVal]
  have h0 : d0 = 3 ∨ d0 ≠ 3 := by omega
  have h1 : d1 = 3 ∨ d1 ≠ 3 := by omega
  have h2 : d2 = 3 ∨ d2 ≠ 3 := by omega
  cases cancel
  case' false => rcases h0 with rfl | h0
  case' false.inr => rcases h1 with rfl | h1
  case' false.inr.inr => rcases h2 with rfl | h2
  case' false.inl => clear h1 h2
  case' true => clear h0 h1 h2
  case' false.inr.inl => clear h2
  all_goals
    go_enter Tryz.func116, Tryz.ntmps116
    go_wp2
    refine wp_loop_rounds 4 ?_
    iterate 4 (all_goals (try (rw [rounds_succ]; go_wp2)))
    all_goals
      go_ret
      refine ⟨ret_bool ?_, alloc_grew _ _⟩
      simp [Sp.back, *]

end Go.Proofs.YtkgpnikmdmpfaaaGreatDoor

/-
  The walks of package saga: State, Begin, onward, Reply, Stop, Net.
-/

set_option linter.unusedVariables false
set_option linter.unusedSimpArgs false
namespace Go.Proofs.YtkgpnikmdmpfaaaGreatDoor
open Go.RowKit

theorem waitsRes_yes {s : Sp.Saga} {n : Int} (h : Sp.waits s = n) (h0 : 0 ≤ n) : waitsRes s = .tuple #[.int .i64 n, .bool true] := by simp [waitsRes, h, h0]
theorem waitsRes_no {s : Sp.Saga} (h : Sp.waits s = -1) : waitsRes s = .tuple #[.int .i64 0, .bool false] := by simp [waitsRes, h]

set_option maxRecDepth 100000 in
set_option maxHeartbeats 2000000 in
theorem State_any (s : Sp.Saga) (w : World) :
    Calls Tryz.prog 88 #[sagaVal s] w fun e w' => e = .returned (.int .i64 (Sp.state s)) ∧ Below w.heap.size w w' := by
  obtain ⟨⟨id, ref, sku, qty, amount⟩, d0, d1, d2, d3, d4, d5, cancel⟩ := s
  have HS := Lib.hid (show ∀ (s : Sp.Saga) (n : Int), Sp.state s = n → Ending.returned (.int .i64 n) = .returned (.int .i64 (Sp.state s)) from fun s n h => by rw [h])
  have HX : ∃ s : Sp.Saga, Hid (s = ⟨⟨id, ref, sku, qty, amount⟩, d0, d1, d2, d3, d4, d5, cancel⟩) := ⟨_, rfl⟩
  have HW : (Hid (0 ≤ Sp.waits ⟨⟨id, ref, sku, qty, amount⟩, d0, d1, d2, d3, d4, d5, cancel⟩) ∧ waitsRes ⟨⟨id, ref, sku, qty, amount⟩, d0, d1, d2, d3, d4, d5, cancel⟩ = .tuple #[.int .i64 (Sp.waits ⟨⟨id, ref, sku, qty, amount⟩, d0, d1, d2, d3, d4, d5, cancel⟩), .bool true]) ∨
      (Hid (¬ 0 ≤ Sp.waits ⟨⟨id, ref, sku, qty, amount⟩, d0, d1, d2, d3, d4, d5, cancel⟩) ∧ waitsRes ⟨⟨id, ref, sku, qty, amount⟩, d0, d1, d2, d3, d4, d5, cancel⟩ = .tuple #[.int .i64 0, .bool false]) := by
    by_cases h : 0 ≤ Sp.waits ⟨⟨id, ref, sku, qty, amount⟩, d0, d1, d2, d3, d4, d5, cancel⟩
    · exact .inl ⟨h, by simp [waitsRes, h]⟩
    · exact .inr ⟨h, by simp [waitsRes, h]⟩
  rcases HW with ⟨h1, h2⟩ | ⟨h1, h2⟩ <;> cases HB : Sp.back ⟨⟨id, ref, sku, qty, amount⟩, d0, d1, d2, d3, d4, d5, cancel⟩
  case' inr.true => cases cancel
  all_goals
    simp only [sagaVal]
    go_enter Tryz.func88, Tryz.ntmps88
    go_wp2_with (first | (go_at_call 89; refine Calls.mono (Waits_any ⟨⟨_, _, _, _, _⟩, _, _, _, _, _, _, _⟩ _) ?_; rintro e w1 ⟨rfl, hb⟩; obtain ⟨hc, hf, hz⟩ := bcell hb; (try simp at hz)) | (go_at_call 116; refine Calls.mono (back_any ⟨⟨_, _, _, _, _⟩, _, _, _, _, _, _, _⟩ _) ?_; rintro e w1 ⟨rfl, hb⟩; obtain ⟨hc, hf, hz⟩ := bcell hb; (try simp at hz)))
    all_goals

      go_ret
      refine ⟨HS.out _ _ ?_, ?_⟩
      · have := h1.out
        simp [Sp.state, *]
      · repeat (first | exact alloc_grew _ _ | (refine Grew.trans ?_ (by assumption)))
end Go.Proofs.YtkgpnikmdmpfaaaGreatDoor

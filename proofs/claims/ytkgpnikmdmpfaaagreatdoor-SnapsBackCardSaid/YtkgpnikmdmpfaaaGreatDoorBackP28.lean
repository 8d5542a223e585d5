/-
  core.Core: Order, stop.
-/
import Derived.Test.YtkgpnikmdmpfaaaGreatDoorBackP27
set_option linter.unusedVariables false
set_option linter.unusedSimpArgs false
namespace Go.Proofs.YtkgpnikmdmpfaaaGreatDoor
open Go.RowKit Go.Maps

theorem slc_at' {α : Type} {enc : α → List Value} {size : Nat} {w : World} {q : Option Addr} {n c i : Nat} {l : List α} (h : Slc enc size w (.slice q n c) l) (hi : i < l.length) : ∃ b, q = some ⟨b, 0, none⟩ ∧ b < w.heap.size ∧ (∀ i x, l[i]? = some x → ∀ j u, (enc x)[j]? = some u → w.cell? ⟨b, i * size + j, none⟩ = some u) := by
  rcases h with ⟨_, h0⟩ | ⟨b, cap, e, _, h1, h2⟩
  · rw [h0] at hi; simp at hi
  · cases e; exact ⟨b, rfl, h1, h2⟩
/-! ### a saga is another one -/
/-- A row of equal parts, one of which is another one. -/
theorem splice_flat {α : Type} {f : α → List Value} {size : Nat} (hf : ∀ x, (f x).length = size) : ∀ (l : List α) (k : Nat) (t : α) (xs : List Value), xs.take (l.length * size) = l.flatMap f → k < l.length → (xs.take (k * size) ++ f t ++ xs.drop (k * size + size)).take (l.length * size) = (l.set k t).flatMap f
  | [], k, t, xs, _, hk => by simp at hk
  | a :: l, k, t, xs, h, hk => by
    have hsz : (l.length + 1) * size = size + l.length * size := by rw [Nat.succ_mul]; omega
    simp only [List.length_cons] at h hk ⊢
    rw [hsz] at h ⊢
    have hxs : xs.take size = f a ∧ (xs.drop size).take (l.length * size) = l.flatMap f := by
      rw [List.take_add, List.flatMap_cons] at h
      have hlen : (xs.take size).length = size := by
        have := congrArg List.length h
        simp only [List.length_append, List.length_take, List.length_drop, hf] at this
        simp only [List.length_take]
        omega
      exact List.append_inj h (by rw [hlen, hf])
    obtain ⟨h1, h2⟩ := hxs
    have hx : xs = f a ++ xs.drop size := by rw [← h1]; exact (List.take_append_drop size xs).symm
    cases k with
    | zero =>
      rw [Nat.zero_mul, Nat.zero_add, List.take_zero, List.nil_append, List.set_cons_zero, List.flatMap_cons, List.take_append, List.take_of_length_le (by rw [hf]; omega), hf, Nat.add_sub_cancel_left, h2]
    | succ k =>
      have ih := splice_flat hf l k t (xs.drop size) h2 (by omega)
      have e1 : (k + 1) * size = size + k * size := by rw [Nat.succ_mul]; omega
      have e2 : xs.take ((k + 1) * size) = f a ++ (xs.drop size).take (k * size) := by rw [e1, List.take_add, h1]
      have e3 : xs.drop ((k + 1) * size + size) = (xs.drop size).drop (k * size + size) := by rw [List.drop_drop]; congr 1; omega
      rw [e2, e3, List.set_cons_succ, List.flatMap_cons, ← ih, List.append_assoc, List.append_assoc, List.take_append, List.take_of_length_le (by rw [hf]; omega), hf, Nat.add_sub_cancel_left, List.append_assoc]
def sagaSplice (cur : Array Value) (k : Nat) (t : Sp.Saga) : Array Value := (cur.toList.take (k * 12) ++ sagaCells t ++ cur.toList.drop (k * 12 + 12)).toArray
theorem CoreIs.sagaSet {W : World} {base pc pb P Q g kl k : Nat} {vb v0 v1 v2 : Value} {m : Option Nat} {C : Sp.Core} (h : CoreIs W base pc (.slice (some ⟨g, 0, none⟩) C.l.length kl) pb vb P Q v0 v1 v2 m C) (hk : k < C.l.length) {t : Sp.Saga} (ht : Sp.orderCheck t.o = 0) :
    ∃ cur, (Instr.storeAt 89 (.pointer (some ⟨g, k * 12, none⟩)) (.agg #[.int .i64 t.o.id, .string (str t.o.ref), .string (str t.o.sku), .int .i64 t.o.qty, .int .i64 t.o.amount, .int .i64 t.d0, .int .i64 t.d1, .int .i64 t.d2, .int .i64 t.d3, .int .i64 t.d4, .int .i64 t.d5, .bool t.cancel])).run Tryz.prog W = .ok () (W.setRow g (sagaSplice cur k t)) ∧
      CoreIs (W.setRow g (sagaSplice cur k t)) base pc (.slice (some ⟨g, 0, none⟩) C.l.length kl) pb vb P Q v0 v1 v2 m ⟨C.l.set k t, C.b, C.i⟩ ∧ Below base W (W.setRow g (sagaSplice cur k t)) := by
  rcases h.own.2 with ⟨e, _⟩ | ⟨g', cap, cur, e, hgb, hcc, hn, hcap, hcs, htk⟩
  · cases e
  · cases e
    have hle : (k + 1) * 12 ≤ C.l.length * 12 := Nat.mul_le_mul_right 12 hk
    have hle2 : C.l.length * 12 ≤ kl * 12 := Nat.mul_le_mul_right 12 hn
    have keep : ∀ x, x ≠ g → (W.setRow g (sagaSplice cur k t)).heap[x]? = W.heap[x]? := fun x hne => setRow_other W g x _ hne
    have hsl : (sagaSplice cur k t).toList.length = cur.size := by
      unfold sagaSplice
      simp only [List.length_append, List.length_take, List.length_drop, sagaCells_len, Array.length_toList]
      omega
    refine ⟨cur, ?_, ⟨(keep _ (ne_of_types h.head hcc (by decide))).trans h.head, ?_, ?_, ?_, h.ge, h.mne, by simp only [List.length_set]; exact h.orders, fun s hs => ?_⟩, (Below.refl base W).setRow hgb _⟩
    · rw [run_storeAt_row 89 12 (by kernel_rfl), row?_of hcc, rowStore_some, if_pos ⟨by omega, rfl, by simp [Value.oneCell']⟩]
      rfl
    · simp only [List.length_set]
      refine ⟨by rw [flat_len sagaCells_len]; simp, .inr ⟨g, kl, sagaSplice cur k t, rfl, hgb, setRow_heap W g cur _ _ _ hcc, hn, hcap, ?_, ?_⟩⟩
      · rw [← Array.length_toList, hsl, hcs]
      · unfold sagaSplice
        exact splice_flat sagaCells_len C.l k t cur.toList htk hk
    · exact h.books.same (fun x hx => keep x (h.books.ne_cells hcc (by decide) (by decide) hx))
    · exact h.inn.same (fun x hx => keep x (h.inn.ne_cells hcc (by decide) hx))
    · rcases List.mem_or_eq_of_mem_set hs with hs | rfl
      · exact h.checked s hs
      · exact ht

/-! ### Order -/
def orderNone : Ending := .returned (.tuple #[.agg #[.int .i64 0, .string (str []), .string (str []), .int .i64 0, .int .i64 0, .int .i64 0, .int .i64 0, .int .i64 0, .int .i64 0, .int .i64 0, .int .i64 0, .bool false], .int .i64 4])
set_option maxRecDepth 100000 in
set_option maxHeartbeats 4000000 in
theorem order_none (w : World) (base pc pb P Q : Nat) (vl vb v0 v1 v2 : Value) (m : Option Nat) (C : Sp.Core) (h : CoreIs w base pc vl pb vb P Q v0 v1 v2 m C) (id : Int) (hid : id < 1 ∨ (C.l.length : Int) < id) :
    Calls Tryz.prog 52 #[.pointer (some ⟨pc, 0, none⟩), .int .i64 id] w fun e w' => e = orderNone ∧ Below w.heap.size w w' := by
  obtain ⟨ql, kl, rfl⟩ := own_slice' h.own
  have hlt := (Array.getElem?_eq_some_iff.1 h.head).1
  have hx := cells_at h.head 0
  simp only [List.getElem?_toArray, List.getElem?_cons_zero] at hx
  have hn := Lib.hid (fun W (hW : Below w.heap.size w W) => coreNone_no W pc _ (cells_at (h.below hW).head 1))
  have hmany := h.orders
  clear h
  rcases hid with hid | hid
  · go_enter Tryz.func52, Tryz.ntmps52
    go_wp2_with (go_at_call 20; refine (hn.out _ (by (repeat (first | (with_reducible first | exact zR _ _ | exact zA _ _ | assumption | refine zL ?_ _ | refine zD ?_ | refine zN ?_ _) | ((with_reducible first | refine zC ?_ ?_ _ | refine zW ?_ ?_ _); rotate_left; focus (first | exact Nat.le_refl _ | (simp; done) | (simp; omega) | omega)) | with_reducible refine zT ?_ (by assumption))))).mono ?_; rintro e w1 ⟨rfl, rfl⟩)
    refine bodyPost_ret (v := .tuple #[.agg #[.int .i64 0, .string (str []), .string (str []), .int .i64 0, .int .i64 0, .int .i64 0, .int .i64 0, .int .i64 0, .int .i64 0, .int .i64 0, .int .i64 0, .bool false], .int .i64 4]) ?_ rfl ⟨rfl, ?_⟩
    · simp [results, Tryz.results52, go_sem, ↓IntWalk.iteOmega, *]
    · (repeat (first | (with_reducible first | exact zR _ _ | exact zA _ _ | assumption | refine zL ?_ _ | refine zD ?_ | refine zN ?_ _) | ((with_reducible first | refine zC ?_ ?_ _ | refine zW ?_ ?_ _); rotate_left; focus (first | exact Nat.le_refl _ | (simp; done) | (simp; omega) | omega)) | with_reducible refine zT ?_ (by assumption)))
  · have h1 : 1 ≤ id := by omega
    go_enter Tryz.func52, Tryz.ntmps52
    go_wp2_with (go_at_call 20; refine (hn.out _ (by (repeat (first | (with_reducible first | exact zR _ _ | exact zA _ _ | assumption | refine zL ?_ _ | refine zD ?_ | refine zN ?_ _) | ((with_reducible first | refine zC ?_ ?_ _ | refine zW ?_ ?_ _); rotate_left; focus (first | exact Nat.le_refl _ | (simp; done) | (simp; omega) | omega)) | with_reducible refine zT ?_ (by assumption))))).mono ?_; rintro e w1 ⟨rfl, rfl⟩)
    refine bodyPost_ret (v := .tuple #[.agg #[.int .i64 0, .string (str []), .string (str []), .int .i64 0, .int .i64 0, .int .i64 0, .int .i64 0, .int .i64 0, .int .i64 0, .int .i64 0, .int .i64 0, .bool false], .int .i64 4]) ?_ rfl ⟨rfl, ?_⟩
    · simp [results, Tryz.results52, go_sem, ↓IntWalk.iteOmega, *]
    · (repeat (first | (with_reducible first | exact zR _ _ | exact zA _ _ | assumption | refine zL ?_ _ | refine zD ?_ | refine zN ?_ _) | ((with_reducible first | refine zC ?_ ?_ _ | refine zW ?_ ?_ _); rotate_left; focus (first | exact Nat.le_refl _ | (simp; done) | (simp; omega) | omega)) | with_reducible refine zT ?_ (by assumption)))
set_option maxRecDepth 100000 in
set_option maxHeartbeats 4000000 in
theorem order_some (w : World) (base pc pb P Q : Nat) (vl vb v0 v1 v2 : Value) (m : Option Nat) (C : Sp.Core) (h : CoreIs w base pc vl pb vb P Q v0 v1 v2 m C) (k : Nat) (s : Sp.Saga) (hs : C.l[k]? = some s) :
    Calls Tryz.prog 52 #[.pointer (some ⟨pc, 0, none⟩), .int .i64 ((k : Int) + 1)] w fun e w' => e = .returned (.tuple #[sagaVal s, .int .i64 0]) ∧ Below w.heap.size w w' := by
  have hkl := (List.getElem?_eq_some_iff.1 hs).1
  have hn := Lib.hid (fun W (hW : Below w.heap.size w W) => coreNone_no W pc _ (cells_at (h.below hW).head 1))
  have hmany := h.orders
  have hlt := (Array.getElem?_eq_some_iff.1 h.head).1
  obtain ⟨ql, kl, rfl⟩ := own_slice' h.own
  obtain ⟨b, rfl, hb, hcells⟩ : ∃ b, ql = some ⟨b, 0, none⟩ ∧ b < w.heap.size ∧ ∀ i x, C.l[i]? = some x → ∀ j u, (sagaCells x)[j]? = some u → w.cell? ⟨b, i * 12 + j, none⟩ = some u := by
    rcases h.slc with ⟨_, h0⟩ | ⟨b, cap, e, _, h1, h2⟩
    · rw [h0] at hkl; simp at hkl
    · exact ⟨b, by cases e; rfl, h1, h2⟩
  have hx := cells_at h.head 0
  simp only [List.getElem?_toArray, List.getElem?_cons_zero] at hx
  obtain ⟨g0, g1, g2, g3, g4, g5, g6, g7, g8, g9, g10, g11⟩ := saga_facts hcells (Below.refl _ _) hs
  clear h hcells hs
  obtain ⟨⟨id, ref, sku, qty, amount⟩, d0, d1, d2, d3, d4, d5, cancel⟩ := s
  simp only at g0 g1 g2 g3 g4 g5 g6 g7 g8 g9 g10 g11
  simp only [sagaVal]
  go_enter Tryz.func52, Tryz.ntmps52
  go_wp2_with (go_at_call 20; refine (hn.out _ (by (repeat (first | (with_reducible first | exact zR _ _ | exact zA _ _ | assumption | refine zL ?_ _ | refine zD ?_ | refine zN ?_ _) | ((with_reducible first | refine zC ?_ ?_ _ | refine zW ?_ ?_ _); rotate_left; focus (first | exact Nat.le_refl _ | (simp; done) | (simp; omega) | omega)) | with_reducible refine zT ?_ (by assumption))))).mono ?_; rintro e w1 ⟨rfl, rfl⟩)
  refine bodyPost_ret (v := .tuple #[.agg #[.int .i64 id, .string (str ref), .string (str sku), .int .i64 qty, .int .i64 amount, .int .i64 d0, .int .i64 d1, .int .i64 d2, .int .i64 d3, .int .i64 d4, .int .i64 d5, .bool cancel], .int .i64 0]) ?_ rfl ⟨rfl, ?_⟩
  · simp [results, Tryz.results52, go_sem, ↓IntWalk.iteOmega, *]
  · (repeat (first | (with_reducible first | exact zR _ _ | exact zA _ _ | assumption | refine zL ?_ _ | refine zD ?_ | refine zN ?_ _) | ((with_reducible first | refine zC ?_ ?_ _ | refine zW ?_ ?_ _); rotate_left; focus (first | exact Nat.le_refl _ | (simp; done) | (simp; omega) | omega)) | with_reducible refine zT ?_ (by assumption)))

/-! ### stop -/
theorem state_waits (s : Sp.Saga) : Sp.state s = 0 → 0 ≤ Sp.waits s := by
  intro h
  unfold Sp.state at h
  split at h
  · split at h
    · omega
    · split at h <;> omega
  · split at h
    · assumption
    · omega
theorem stop_order {s t : Sp.Saga} (h : Sp.stop s = some t) : t.o = s.o := by
  unfold Sp.stop at h
  split at h
  · cases h
    unfold Sp.onward
    have e : ({ Sp.setD s (Sp.waits s) 4 with cancel := true } : Sp.Saga).o = s.o := by
      unfold Sp.setD
      repeat' split
      all_goals rfl
    split
    · repeat' split
      all_goals exact e
    · repeat' split
      all_goals exact e
  · cases h
def sagaArr (s : Sp.Saga) : Array Value := #[.int .i64 s.o.id, .string (str s.o.ref), .string (str s.o.sku), .int .i64 s.o.qty, .int .i64 s.o.amount, .int .i64 s.d0, .int .i64 s.d1, .int .i64 s.d2, .int .i64 s.d3, .int .i64 s.d4, .int .i64 s.d5, .bool s.cancel]
def set12 (W : World) (b : Nat) (t : Sp.Saga) : World :=
  ((((((((((((W.setCell ⟨b, 0, none⟩ (.int .i64 t.o.id)).setCell ⟨b, 1, none⟩ (.string (str t.o.ref))).setCell ⟨b, 2, none⟩ (.string (str t.o.sku))).setCell ⟨b, 3, none⟩ (.int .i64 t.o.qty)).setCell ⟨b, 4, none⟩ (.int .i64 t.o.amount)).setCell ⟨b, 5, none⟩ (.int .i64 t.d0)).setCell ⟨b, 6, none⟩ (.int .i64 t.d1)).setCell ⟨b, 7, none⟩ (.int .i64 t.d2)).setCell ⟨b, 8, none⟩ (.int .i64 t.d3)).setCell ⟨b, 9, none⟩ (.int .i64 t.d4)).setCell ⟨b, 10, none⟩ (.int .i64 t.d5)).setCell ⟨b, 11, none⟩ (.bool t.cancel))
theorem row12 {W : World} {b : Nat} {s t : Sp.Saga} (h : W.heap[b]? = some (.cells (sagaArr s) 89 (0, 0))) : (set12 W b t).heap[b]? = some (.cells (sagaArr t) 89 (0, 0)) := by
  have e0 : (W.setCell ⟨b, 0, none⟩ (.int .i64 t.o.id)).heap[b]? = some (.cells #[.int .i64 t.o.id, .string (str s.o.ref), .string (str s.o.sku), .int .i64 s.o.qty, .int .i64 s.o.amount, .int .i64 s.d0, .int .i64 s.d1, .int .i64 s.d2, .int .i64 s.d3, .int .i64 s.d4, .int .i64 s.d5, .bool s.cancel] 89 (0, 0)) := setCell_row h 0 _
  have e1 : ((W.setCell ⟨b, 0, none⟩ (.int .i64 t.o.id)).setCell ⟨b, 1, none⟩ (.string (str t.o.ref))).heap[b]? = some (.cells #[.int .i64 t.o.id, .string (str t.o.ref), .string (str s.o.sku), .int .i64 s.o.qty, .int .i64 s.o.amount, .int .i64 s.d0, .int .i64 s.d1, .int .i64 s.d2, .int .i64 s.d3, .int .i64 s.d4, .int .i64 s.d5, .bool s.cancel] 89 (0, 0)) := setCell_row e0 1 _
  have e2 : (((W.setCell ⟨b, 0, none⟩ (.int .i64 t.o.id)).setCell ⟨b, 1, none⟩ (.string (str t.o.ref))).setCell ⟨b, 2, none⟩ (.string (str t.o.sku))).heap[b]? = some (.cells #[.int .i64 t.o.id, .string (str t.o.ref), .string (str t.o.sku), .int .i64 s.o.qty, .int .i64 s.o.amount, .int .i64 s.d0, .int .i64 s.d1, .int .i64 s.d2, .int .i64 s.d3, .int .i64 s.d4, .int .i64 s.d5, .bool s.cancel] 89 (0, 0)) := setCell_row e1 2 _
  have e3 : ((((W.setCell ⟨b, 0, none⟩ (.int .i64 t.o.id)).setCell ⟨b, 1, none⟩ (.string (str t.o.ref))).setCell ⟨b, 2, none⟩ (.string (str t.o.sku))).setCell ⟨b, 3, none⟩ (.int .i64 t.o.qty)).heap[b]? = some (.cells #[.int .i64 t.o.id, .string (str t.o.ref), .string (str t.o.sku), .int .i64 t.o.qty, .int .i64 s.o.amount, .int .i64 s.d0, .int .i64 s.d1, .int .i64 s.d2, .int .i64 s.d3, .int .i64 s.d4, .int .i64 s.d5, .bool s.cancel] 89 (0, 0)) := setCell_row e2 3 _
  have e4 : (((((W.setCell ⟨b, 0, none⟩ (.int .i64 t.o.id)).setCell ⟨b, 1, none⟩ (.string (str t.o.ref))).setCell ⟨b, 2, none⟩ (.string (str t.o.sku))).setCell ⟨b, 3, none⟩ (.int .i64 t.o.qty)).setCell ⟨b, 4, none⟩ (.int .i64 t.o.amount)).heap[b]? = some (.cells #[.int .i64 t.o.id, .string (str t.o.ref), .string (str t.o.sku), .int .i64 t.o.qty, .int .i64 t.o.amount, .int .i64 s.d0, .int .i64 s.d1, .int .i64 s.d2, .int .i64 s.d3, .int .i64 s.d4, .int .i64 s.d5, .bool s.cancel] 89 (0, 0)) := setCell_row e3 4 _
  have e5 : ((((((W.setCell ⟨b, 0, none⟩ (.int .i64 t.o.id)).setCell ⟨b, 1, none⟩ (.string (str t.o.ref))).setCell ⟨b, 2, none⟩ (.string (str t.o.sku))).setCell ⟨b, 3, none⟩ (.int .i64 t.o.qty)).setCell ⟨b, 4, none⟩ (.int .i64 t.o.amount)).setCell ⟨b, 5, none⟩ (.int .i64 t.d0)).heap[b]? = some (.cells #[.int .i64 t.o.id, .string (str t.o.ref), .string (str t.o.sku), .int .i64 t.o.qty, .int .i64 t.o.amount, .int .i64 t.d0, .int .i64 s.d1, .int .i64 s.d2, .int .i64 s.d3, .int .i64 s.d4, .int .i64 s.d5, .bool s.cancel] 89 (0, 0)) := setCell_row e4 5 _
  have e6 : (((((((W.setCell ⟨b, 0, none⟩ (.int .i64 t.o.id)).setCell ⟨b, 1, none⟩ (.string (str t.o.ref))).setCell ⟨b, 2, none⟩ (.string (str t.o.sku))).setCell ⟨b, 3, none⟩ (.int .i64 t.o.qty)).setCell ⟨b, 4, none⟩ (.int .i64 t.o.amount)).setCell ⟨b, 5, none⟩ (.int .i64 t.d0)).setCell ⟨b, 6, none⟩ (.int .i64 t.d1)).heap[b]? = some (.cells #[.int .i64 t.o.id, .string (str t.o.ref), .string (str t.o.sku), .int .i64 t.o.qty, .int .i64 t.o.amount, .int .i64 t.d0, .int .i64 t.d1, .int .i64 s.d2, .int .i64 s.d3, .int .i64 s.d4, .int .i64 s.d5, .bool s.cancel] 89 (0, 0)) := setCell_row e5 6 _
  have e7 : ((((((((W.setCell ⟨b, 0, none⟩ (.int .i64 t.o.id)).setCell ⟨b, 1, none⟩ (.string (str t.o.ref))).setCell ⟨b, 2, none⟩ (.string (str t.o.sku))).setCell ⟨b, 3, none⟩ (.int .i64 t.o.qty)).setCell ⟨b, 4, none⟩ (.int .i64 t.o.amount)).setCell ⟨b, 5, none⟩ (.int .i64 t.d0)).setCell ⟨b, 6, none⟩ (.int .i64 t.d1)).setCell ⟨b, 7, none⟩ (.int .i64 t.d2)).heap[b]? = some (.cells #[.int .i64 t.o.id, .string (str t.o.ref), .string (str t.o.sku), .int .i64 t.o.qty, .int .i64 t.o.amount, .int .i64 t.d0, .int .i64 t.d1, .int .i64 t.d2, .int .i64 s.d3, .int .i64 s.d4, .int .i64 s.d5, .bool s.cancel] 89 (0, 0)) := setCell_row e6 7 _
  have e8 : (((((((((W.setCell ⟨b, 0, none⟩ (.int .i64 t.o.id)).setCell ⟨b, 1, none⟩ (.string (str t.o.ref))).setCell ⟨b, 2, none⟩ (.string (str t.o.sku))).setCell ⟨b, 3, none⟩ (.int .i64 t.o.qty)).setCell ⟨b, 4, none⟩ (.int .i64 t.o.amount)).setCell ⟨b, 5, none⟩ (.int .i64 t.d0)).setCell ⟨b, 6, none⟩ (.int .i64 t.d1)).setCell ⟨b, 7, none⟩ (.int .i64 t.d2)).setCell ⟨b, 8, none⟩ (.int .i64 t.d3)).heap[b]? = some (.cells #[.int .i64 t.o.id, .string (str t.o.ref), .string (str t.o.sku), .int .i64 t.o.qty, .int .i64 t.o.amount, .int .i64 t.d0, .int .i64 t.d1, .int .i64 t.d2, .int .i64 t.d3, .int .i64 s.d4, .int .i64 s.d5, .bool s.cancel] 89 (0, 0)) := setCell_row e7 8 _
  have e9 : ((((((((((W.setCell ⟨b, 0, none⟩ (.int .i64 t.o.id)).setCell ⟨b, 1, none⟩ (.string (str t.o.ref))).setCell ⟨b, 2, none⟩ (.string (str t.o.sku))).setCell ⟨b, 3, none⟩ (.int .i64 t.o.qty)).setCell ⟨b, 4, none⟩ (.int .i64 t.o.amount)).setCell ⟨b, 5, none⟩ (.int .i64 t.d0)).setCell ⟨b, 6, none⟩ (.int .i64 t.d1)).setCell ⟨b, 7, none⟩ (.int .i64 t.d2)).setCell ⟨b, 8, none⟩ (.int .i64 t.d3)).setCell ⟨b, 9, none⟩ (.int .i64 t.d4)).heap[b]? = some (.cells #[.int .i64 t.o.id, .string (str t.o.ref), .string (str t.o.sku), .int .i64 t.o.qty, .int .i64 t.o.amount, .int .i64 t.d0, .int .i64 t.d1, .int .i64 t.d2, .int .i64 t.d3, .int .i64 t.d4, .int .i64 s.d5, .bool s.cancel] 89 (0, 0)) := setCell_row e8 9 _
  have e10 : (((((((((((W.setCell ⟨b, 0, none⟩ (.int .i64 t.o.id)).setCell ⟨b, 1, none⟩ (.string (str t.o.ref))).setCell ⟨b, 2, none⟩ (.string (str t.o.sku))).setCell ⟨b, 3, none⟩ (.int .i64 t.o.qty)).setCell ⟨b, 4, none⟩ (.int .i64 t.o.amount)).setCell ⟨b, 5, none⟩ (.int .i64 t.d0)).setCell ⟨b, 6, none⟩ (.int .i64 t.d1)).setCell ⟨b, 7, none⟩ (.int .i64 t.d2)).setCell ⟨b, 8, none⟩ (.int .i64 t.d3)).setCell ⟨b, 9, none⟩ (.int .i64 t.d4)).setCell ⟨b, 10, none⟩ (.int .i64 t.d5)).heap[b]? = some (.cells #[.int .i64 t.o.id, .string (str t.o.ref), .string (str t.o.sku), .int .i64 t.o.qty, .int .i64 t.o.amount, .int .i64 t.d0, .int .i64 t.d1, .int .i64 t.d2, .int .i64 t.d3, .int .i64 t.d4, .int .i64 t.d5, .bool s.cancel] 89 (0, 0)) := setCell_row e9 10 _
  have e11 : ((((((((((((W.setCell ⟨b, 0, none⟩ (.int .i64 t.o.id)).setCell ⟨b, 1, none⟩ (.string (str t.o.ref))).setCell ⟨b, 2, none⟩ (.string (str t.o.sku))).setCell ⟨b, 3, none⟩ (.int .i64 t.o.qty)).setCell ⟨b, 4, none⟩ (.int .i64 t.o.amount)).setCell ⟨b, 5, none⟩ (.int .i64 t.d0)).setCell ⟨b, 6, none⟩ (.int .i64 t.d1)).setCell ⟨b, 7, none⟩ (.int .i64 t.d2)).setCell ⟨b, 8, none⟩ (.int .i64 t.d3)).setCell ⟨b, 9, none⟩ (.int .i64 t.d4)).setCell ⟨b, 10, none⟩ (.int .i64 t.d5)).setCell ⟨b, 11, none⟩ (.bool t.cancel)).heap[b]? = some (.cells #[.int .i64 t.o.id, .string (str t.o.ref), .string (str t.o.sku), .int .i64 t.o.qty, .int .i64 t.o.amount, .int .i64 t.d0, .int .i64 t.d1, .int .i64 t.d2, .int .i64 t.d3, .int .i64 t.d4, .int .i64 t.d5, .bool t.cancel] 89 (0, 0)) := setCell_row e10 11 _
  exact e11
theorem set12_below {W W' : World} {B b : Nat} {t : Sp.Saga} (h : Below B W W') (hb : B ≤ b) : Below B W (set12 W' b t) := by
  unfold set12
  exact (((((((((((h.setCell hb _).setCell hb _).setCell hb _).setCell hb _).setCell hb _).setCell hb _).setCell hb _).setCell hb _).setCell hb _).setCell hb _).setCell hb _).setCell hb _
set_option maxRecDepth 100000 in
set_option maxHeartbeats 8000000 in
theorem stop_any (w : World) (base pc pb P Q : Nat) (vl vb v0 v1 v2 : Value) (m : Option Nat) (C : Sp.Core) (h : CoreIs w base pc vl pb vb P Q v0 v1 v2 m C) (id : Int) :
    Calls Tryz.prog 22 #[.pointer (some ⟨pc, 0, none⟩), .int .i64 id] w (ApplyPost w base pc pb P Q (Sp.stopAt C id)) := by
  by_cases hid : id < 1 ∨ (C.l.length : Int) < id
  · have hS : Sp.stopAt C id = (C, 4) := by
      have hn : Sp.sagaAt C.l id = none := by
        unfold Sp.sagaAt
        split
        · exact List.getElem?_eq_none (by omega)
        · rfl
      unfold Sp.stopAt
      rw [hn]
    rw [hS]
    have HO := Lib.hid (order_none w base pc pb P Q vl vb v0 v1 v2 m C h id hid)
    have HC := Lib.hid h
    clear h hid hS
    unfold orderNone at HO
    go_enter Tryz.func22, Tryz.ntmps22
    go_wp2_with (go_at_call 52; refine Calls.mono HO.out ?_; rintro e w1 ⟨rfl, hb1⟩; replace hb1 := Lib.hid hb1)
    go_ret
    refine ApplyPost.same HC.out ?_
    have := hb1.out
    (repeat (first | (with_reducible first | exact zR _ _ | exact zA _ _ | assumption | refine zL ?_ _ | refine zD ?_ | refine zN ?_ _) | ((with_reducible first | refine zC ?_ ?_ _ | refine zW ?_ ?_ _); rotate_left; focus (first | exact Nat.le_refl _ | (simp; done) | (simp; omega) | omega)) | with_reducible refine zT ?_ (by assumption)))
  · obtain ⟨k, rfl⟩ : ∃ k : Nat, id = (k : Int) + 1 := ⟨id.toNat - 1, by omega⟩
    have hk : k < C.l.length := by omega
    obtain ⟨s, hs⟩ : ∃ s, C.l[k]? = some s := ⟨_, List.getElem?_eq_getElem hk⟩
    have hat : Sp.sagaAt C.l ((k : Int) + 1) = some s := by
      unfold Sp.sagaAt
      rw [if_pos (by omega), show ((k : Int) + 1).toNat - 1 = k by omega, hs]
    have HO := Lib.hid (order_some w base pc pb P Q vl vb v0 v1 v2 m C h k s hs)
    have HS := fun W => Stop_any s W (state_waits s)
    rcases hst : Sp.stop s with _ | t
    · have hS : Sp.stopAt C ((k : Int) + 1) = (C, 92) := by unfold Sp.stopAt; rw [hat]; simp only [hst]
      rw [hS]
      rw [hst] at HS
      simp only [stopRes, Option.isSome_none] at HS
      have HC := Lib.hid h
      clear h hS hat hs hid hst
      obtain ⟨⟨oid, ref, sku, qty, amount⟩, d0, d1, d2, d3, d4, d5, cancel⟩ := s
      obtain ⟨⟨zid, zref, zsku, zqty, zamount⟩, z0, z1, z2, z3, z4, z5, zcancel⟩ : Sp.Saga := default
      simp only [sagaVal] at HO HS
      replace HS := Lib.hid HS
      go_enter Tryz.func22, Tryz.ntmps22
      go_wp2_with (first
        | (go_at_call 52; refine Calls.mono HO.out ?_; rintro e w1 ⟨rfl, hb1⟩; have hz1 := hb1.size; replace hb1 := Lib.hid hb1)
        | (go_at_call 53; refine Calls.mono (HS.out _) ?_; rintro e w2 ⟨rfl, hb2⟩; have hz2 := hb2.size; (try simp at hz2); obtain ⟨hc2, hf2, _, _⟩ := brow hb2; replace hb2 := Lib.hid hb2))
      go_ret
      refine ApplyPost.same HC.out ?_
      have := hb1.out
      have := hb2.out
      (repeat (first | (with_reducible first | exact zR _ _ | exact zA _ _ | assumption | refine zL ?_ _ | refine zD ?_ | refine zN ?_ _) | ((with_reducible first | refine zC ?_ ?_ _ | refine zW ?_ ?_ _); rotate_left; focus (first | exact Nat.le_refl _ | (simp; done) | (simp; omega) | omega)) | with_reducible refine zT ?_ (by assumption)))
    · have hS : Sp.stopAt C ((k : Int) + 1) = (⟨C.l.set k t, C.b, C.i⟩, 0) := by
        unfold Sp.stopAt Sp.setAt
        rw [hat]
        simp only [hst]
        rw [show ((k : Int) + 1).toNat - 1 = k by omega]
      rw [hS]
      have hto := stop_order hst
      have hchk := h.checked s (List.mem_of_getElem? hs)
      rw [← hto] at hchk
      rw [hst] at HS
      simp only [stopRes, Option.isSome_some, if_true, Option.getD_some] at HS
      obtain ⟨ql, kl, rfl⟩ := own_slice' h.own
      obtain ⟨g, rfl⟩ : ∃ g, ql = some ⟨g, 0, none⟩ := by
        rcases h.slc with ⟨_, h0⟩ | ⟨b, cap, e, _⟩
        · rw [h0] at hk; simp at hk
        · exact ⟨b, by cases e; rfl⟩
      have hmany := h.orders
      have HC := Lib.hid h
      clear h hS hat hs hid hst hto
      obtain ⟨⟨oid, ref, sku, qty, amount⟩, d0, d1, d2, d3, d4, d5, cancel⟩ := s
      obtain ⟨⟨tid, tref, tsku, tqty, tamount⟩, t0, t1, t2, t3, t4, t5, tcancel⟩ := t
      simp only [sagaVal] at HO HS
      replace HS := Lib.hid HS
      replace hchk := Lib.hid hchk
      go_enter Tryz.func22, Tryz.ntmps22
      go_wp2_with (first
        | (go_at_call 52; refine Calls.mono HO.out ?_; rintro e w1 ⟨rfl, hb1⟩; have hz1 := hb1.size; replace hb1 := Lib.hid hb1)
        | (go_at_call 53; refine Calls.mono (HS.out _) ?_; rintro e w2 ⟨rfl, hb2⟩; have hz2 := hb2.size; (try simp at hz2); obtain ⟨hc2, hf2, _, _⟩ := brow hb2; replace hb2 := Lib.hid hb2))
      have hX2 : w2.heap[w1.heap.size]? = some (.cells (sagaArr ⟨⟨oid, ref, sku, qty, amount⟩, d0, d1, d2, d3, d4, d5, cancel⟩) 89 (0, 0)) := heap_below hb2.out (heap_at rfl)
      have hB2 : Below w.heap.size w (set12 w2 w1.heap.size ⟨⟨tid, tref, tsku, tqty, tamount⟩, t0, t1, t2, t3, t4, t5, tcancel⟩) := by
        have := hb1.out
        have := hb2.out
        refine set12_below ?_ hz1
        (repeat (first | (with_reducible first | exact zR _ _ | exact zA _ _ | assumption | refine zL ?_ _ | refine zD ?_ | refine zN ?_ _) | ((with_reducible first | refine zC ?_ ?_ _ | refine zW ?_ ?_ _); rotate_left; focus (first | exact Nat.le_refl _ | (simp; done) | (simp; omega) | omega)) | with_reducible refine zT ?_ (by assumption)))
      have hR2 := row12 (t := ⟨⟨tid, tref, tsku, tqty, tamount⟩, t0, t1, t2, t3, t4, t5, tcancel⟩) hX2
      show Code.wp _ _ _ _ (set12 w2 w1.heap.size ⟨⟨tid, tref, tsku, tqty, tamount⟩, t0, t1, t2, t3, t4, t5, tcancel⟩)
      generalize set12 w2 w1.heap.size ⟨⟨tid, tref, tsku, tqty, tamount⟩, t0, t1, t2, t3, t4, t5, tcancel⟩ = W3 at hB2 hR2 ⊢
      have hC3 := HC.out.below hB2
      have hB3 := hB2
      have hX3 := hR2
      clear hB2 hR2
      have hk3 : k < C.l.length := hk
      have hXc := cells_at hX3
      have hH : (fun W' => W'.cell? ⟨pc, 0, none⟩ = some (.slice (some ⟨g, 0, none⟩) C.l.length kl) ∧ W'.cell? ⟨w1.heap.size, 0, none⟩ = some (.int .i64 tid) ∧ W'.cell? ⟨w1.heap.size, 1, none⟩ = some (.string (str tref)) ∧ W'.cell? ⟨w1.heap.size, 2, none⟩ = some (.string (str tsku)) ∧ W'.cell? ⟨w1.heap.size, 3, none⟩ = some (.int .i64 tqty) ∧ W'.cell? ⟨w1.heap.size, 4, none⟩ = some (.int .i64 tamount) ∧ W'.cell? ⟨w1.heap.size, 5, none⟩ = some (.int .i64 t0) ∧ W'.cell? ⟨w1.heap.size, 6, none⟩ = some (.int .i64 t1) ∧ W'.cell? ⟨w1.heap.size, 7, none⟩ = some (.int .i64 t2) ∧ W'.cell? ⟨w1.heap.size, 8, none⟩ = some (.int .i64 t3) ∧ W'.cell? ⟨w1.heap.size, 9, none⟩ = some (.int .i64 t4) ∧ W'.cell? ⟨w1.heap.size, 10, none⟩ = some (.int .i64 t5) ∧ W'.cell? ⟨w1.heap.size, 11, none⟩ = some (.bool tcancel)) W3.drew := ⟨cells_at hC3.head 0, hXc 0, hXc 1, hXc 2, hXc 3, hXc 4, hXc 5, hXc 6, hXc 7, hXc 8, hXc 9, hXc 10, hXc 11⟩
      obtain ⟨cur, hrun, hfin1, hfin2⟩ := (hC3.below (Below.refl _ _).drew).sagaSet (k := k) (t := ⟨⟨tid, tref, tsku, tqty, tamount⟩, t0, t1, t2, t3, t4, t5, tcancel⟩) hk3 hchk.out
      simp only at hrun hfin1 hfin2
      have hfin := Lib.hid (And.intro hfin1 hfin2)
      replace hrun := Lib.hid hrun
      clear hfin1 hfin2
      simp only at hH
      replace hC3 := Lib.hid hC3
      replace hX3 := Lib.hid hX3
      clear hXc hc2 hf2 hX2
      have hwk : IntKind.i64.wrap (k : Int) = (k : Int) := by rw [IntKind.wrap_i64]; omega
      have hk0 : 0 ≤ (k : Int) := by omega
      have hkn : (k : Int).toNat = k := by omega
      refine any_begin (S := (fun W' => W'.cell? ⟨pc, 0, none⟩ = some (.slice (some ⟨g, 0, none⟩) C.l.length kl) ∧ W'.cell? ⟨w1.heap.size, 0, none⟩ = some (.int .i64 tid) ∧ W'.cell? ⟨w1.heap.size, 1, none⟩ = some (.string (str tref)) ∧ W'.cell? ⟨w1.heap.size, 2, none⟩ = some (.string (str tsku)) ∧ W'.cell? ⟨w1.heap.size, 3, none⟩ = some (.int .i64 tqty) ∧ W'.cell? ⟨w1.heap.size, 4, none⟩ = some (.int .i64 tamount) ∧ W'.cell? ⟨w1.heap.size, 5, none⟩ = some (.int .i64 t0) ∧ W'.cell? ⟨w1.heap.size, 6, none⟩ = some (.int .i64 t1) ∧ W'.cell? ⟨w1.heap.size, 7, none⟩ = some (.int .i64 t2) ∧ W'.cell? ⟨w1.heap.size, 8, none⟩ = some (.int .i64 t3) ∧ W'.cell? ⟨w1.heap.size, 9, none⟩ = some (.int .i64 t4) ∧ W'.cell? ⟨w1.heap.size, 10, none⟩ = some (.int .i64 t5) ∧ W'.cell? ⟨w1.heap.size, 11, none⟩ = some (.bool tcancel))) 8 (by kernel_rfl) ?_ (fun hHeld => ?_)
      focus (first | exact hH | assumption)
      have hq := plan [0, 1, 2, 3, 4, 5, 6, 7]
      iterate 8 (refine tk hq ?_ rfl (by kernel_rfl) (by assumption) (by rfl) (fun _ _ _ h => h) ?hy ?_; (case hy => (intro w hSw; (try dsimp only at hSw); go_simp; (try with_reducible rfl))); replace hq := hq.tl; (try simp only [Act.put, yA, yB, yC]))
      clear hq
      refine al 8 rfl (by kernel_rfl) rfl (by rfl) (fun K hK => ?_)
      refine wp_store (.tmp 30) (.tmp 29) rfl rfl rfl hrun.out ?_
      refine hK.out _ _ ?_
      clear hK K
      (try simp only [Act.put, yA, yB, yC])
      go_wp2
      go_ret
      refine ⟨?_, _, _, _, _, _, _, rfl, hfin.out.1⟩
      exact (hB3.drew.mono HC.out.low).trans hfin.out.2
end Go.Proofs.YtkgpnikmdmpfaaaGreatDoor

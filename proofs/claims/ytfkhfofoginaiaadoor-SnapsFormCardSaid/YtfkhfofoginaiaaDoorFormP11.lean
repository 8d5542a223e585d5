/-
  Package intake: amount, Net, Newest.
-/
import Derived.Test.YtfkhfofoginaiaaDoorFormP10
import Derived.Test.YtfkhfofoginaiaaDoorFormP3
set_option linter.unusedVariables false
set_option linter.unusedSimpArgs false
namespace Go.Proofs.YtfkhfofoginaiaaDoor
open Go.RowKit Go.Maps

theorem rowCells_len (r : Sp.Row) : (rowCells r).length = 5 := rfl
theorem rowCells_one (r : Sp.Row) : ∀ c ∈ rowCells r, c.oneCell' = true := by simp [rowCells, Value.oneCell']
/-- Rows in a block of rows. -/
def RowsO (w : World) (v : Value) (l : List Sp.Row) : Prop := w.ownsRow 0 95 5 v l.length (l.flatMap rowCells)
theorem own_base {w : World} {base base' size n : Nat} {e : TypeId} {v : Value} {xs : List Value} (h : w.ownsRow base e size v n xs) (hb : base' ≤ base) : w.ownsRow base' e size v n xs := by
  refine ⟨h.1, ?_⟩
  rcases h.2 with h0 | ⟨g, cap, cur, h1, h2, h3⟩
  · exact .inl h0
  · exact .inr ⟨g, cap, cur, h1, Nat.le_trans hb h2, h3⟩
theorem RowsO.slc {w : World} {v : Value} {l : List Sp.Row} (h : RowsO w v l) : RowsAt w v l := slc_of_own rowCells_len (by omega) h
theorem RowsO.same {w w' : World} {v : Value} {l : List Sp.Row} (h : RowsO w v l) (hs : ∀ k, v.ownBlock = some k → w'.heap[k]? = w.heap[k]?) : RowsO w' v l := own_same h hs
theorem RowsO.below {w w' : World} {v : Value} {l : List Sp.Row} (h : RowsO w v l) (hb : Below w.heap.size w w') : RowsO w' v l :=
  h.same (fun k hk => hb.block k (by obtain ⟨c, hc⟩ := own_block h hk; exact (Array.getElem?_eq_some_iff.1 hc).1))
theorem rowsO_nil (w : World) : RowsO w (.slice none 0 0) [] := World.ownsRow_nil _ _ _ _
def rowVal' (r : Sp.Row) : Value := .agg #[.int .i64 r.order, .int .i64 r.deed, .int .i64 r.code, .int .i64 r.amount, .int .i64 r.qty]
/-- An intake's value. -/
def inVal (i : Sp.Intake) (v0 v1 v2 : Value) (m : Option Nat) : Value :=
  .agg #[.int .i64 i.s0.party, .int .i64 i.s0.seq, v0, .int .i64 i.s1.party, .int .i64 i.s1.seq, v1, .int .i64 i.s2.party, .int .i64 i.s2.seq, v2, .map m]
structure RowIn (r : Sp.Row) : Prop where
  order : Sp.in64 r.order = true
  deed : Sp.in64 r.deed = true
  lo : 0 ≤ r.amount
  hi : r.amount ≤ 1099511627776
  code : Sp.in64 r.code = true
  qty : Sp.in64 r.qty = true
structure InIs (w : World) (i : Sp.Intake) (v0 v1 v2 : Value) (m : Option Nat) : Prop where
  r0 : RowsO w v0 i.s0.rows
  r1 : RowsO w v1 i.s1.rows
  r2 : RowsO w v2 i.s2.rows
  few : i.s0.rows.length ≤ 400 ∧ i.s1.rows.length ≤ 400 ∧ i.s2.rows.length ≤ 400
  map : (∀ b, m = some b → MapAt Tryd.prog 93 pairEnc w b 1200 (fun a => (i.row a.1 a.2).map rowVal')) ∧ (m = none → ∀ o d, i.row o d = none)
  amt : ∀ o d r, i.row o d = some r → 0 ≤ r.amount ∧ r.amount ≤ 1099511627776
  rok : ∀ r, r ∈ i.s0.rows ∨ r ∈ i.s1.rows ∨ r ∈ i.s2.rows → RowIn r
theorem InIs.same {w w' : World} {i : Sp.Intake} {v0 v1 v2 : Value} {m : Option Nat} (h : InIs w i v0 v1 v2 m) (hs : ∀ k, (v0.ownBlock = some k ∨ v1.ownBlock = some k ∨ v2.ownBlock = some k ∨ m = some k) → w'.heap[k]? = w.heap[k]?) : InIs w' i v0 v1 v2 m where
  r0 := h.r0.same (fun k hk => hs k (.inl hk))
  r1 := h.r1.same (fun k hk => hs k (.inr (.inl hk)))
  r2 := h.r2.same (fun k hk => hs k (.inr (.inr (.inl hk))))
  few := h.few
  map := ⟨fun b hb => (h.map.1 b hb).same (hs b (.inr (.inr (.inr hb)))), h.map.2⟩
  amt := h.amt
  rok := h.rok
theorem InIs.lt {w : World} {i : Sp.Intake} {v0 v1 v2 : Value} {m : Option Nat} (h : InIs w i v0 v1 v2 m) {k : Nat} (hk : v0.ownBlock = some k ∨ v1.ownBlock = some k ∨ v2.ownBlock = some k ∨ m = some k) : k < w.heap.size := by
  rcases hk with hk | hk | hk | hk
  · obtain ⟨c, hc⟩ := own_block h.r0 hk; exact (Array.getElem?_eq_some_iff.1 hc).1
  · obtain ⟨c, hc⟩ := own_block h.r1 hk; exact (Array.getElem?_eq_some_iff.1 hc).1
  · obtain ⟨c, hc⟩ := own_block h.r2 hk; exact (Array.getElem?_eq_some_iff.1 hc).1
  · exact (h.map.1 k hk).lt
theorem InIs.below {w w' : World} {i : Sp.Intake} {v0 v1 v2 : Value} {m : Option Nat} (h : InIs w i v0 v1 v2 m) (hb : Below w.heap.size w w') : InIs w' i v0 v1 v2 m :=
  h.same (fun k hk => hb.block k (h.lt hk))
theorem zeroRow (w : World) : (zeroValue 95).run Tryd.prog w = .ok (.agg #[.int .i64 0, .int .i64 0, .int .i64 0, .int .i64 0, .int .i64 0]) w := by kernel_rfl
theorem InIs.look {w : World} {i : Sp.Intake} {v0 v1 v2 : Value} {m : Option Nat} (h : InIs w i v0 v1 v2 m) {o d : Int} (ho : Sp.in64 o = true) (hd : Sp.in64 d = true) :
    (Instr.lookup 61 (.map m) (.agg #[.int .i64 o, .int .i64 d]) true).run Tryd.prog w =
      .ok (.tuple #[((i.row o d).map rowVal').getD (.agg #[.int .i64 0, .int .i64 0, .int .i64 0, .int .i64 0, .int .i64 0]), .bool (i.row o d).isSome]) w := by
  cases m with
  | some b =>
    have hl := (h.map.1 b rfl).look key_law Tryd.underlying61 (zeroRow w) (a := (o, d)) (key_key ho hd) true
    rw [if_pos rfl, Option.isSome_map] at hl
    exact hl
  | none =>
    obtain ⟨kl, hkl⟩ := Option.isSome_iff_exists.1 (key_key (a := (o, d)) ho hd)
    rw [h.map.2 rfl o d]
    have := look_nil (P := Tryd.prog) (w := w) true key_law Tryd.underlying61 (zeroRow w) hkl
    simpa [pairEnc] using this

set_option maxRecDepth 100000 in
set_option maxHeartbeats 1000000 in
theorem amount_any (w : World) (i : Sp.Intake) (v0 v1 v2 : Value) (m : Option Nat) (o d : Int) (h : InIs w i v0 v1 v2 m) (ho : Sp.in64 o = true) (hd : Sp.in64 d = true) :
    Calls Tryd.prog 60 #[inVal i v0 v1 v2 m, .int .i64 o, .int .i64 d] w fun e w' => e = .returned (.int .i64 (Sp.amountOf i o d)) ∧ Below w.heap.size w w' := by
  have hl := fun O => (h.below (w' := w.alloc O) (alloc_grew _ _)).look ho hd
  obtain ⟨q0, k0, rfl⟩ := own_slice' h.r0
  obtain ⟨q1, k1, rfl⟩ := own_slice' h.r1
  obtain ⟨q2, k2, rfl⟩ := own_slice' h.r2
  simp only [inVal]
  clear h ho hd
  cases hr : i.row o d with
  | none =>
    have hS : Sp.amountOf i o d = 0 := by unfold Sp.amountOf; rw [hr]
    rw [hS]
    rw [hr] at hl
    simp only [Option.map_none, Option.getD_none, Option.isSome_none] at hl
    clear hr hS
    go_enter Tryd.func60, Tryd.ntmps60
    go_wp2
    go_ret
    exact ⟨rfl, by (repeat (first | (with_reducible exact Below.refl _ _) | (with_reducible exact alloc_grew _ _) | (with_reducible assumption) | (with_reducible refine Grew.alloc ?_ _) | ((with_reducible refine Below.setCell ?_ ?_ _); rotate_left; focus (first | exact Nat.le_refl _ | (simp; done) | (simp; omega))) | ((with_reducible refine Below.setRow ?_ ?_ _); rotate_left; focus (first | exact Nat.le_refl _ | (simp; done) | (simp; omega) | omega)) | (with_reducible refine Grew.drew ?_) | (with_reducible refine Below.trans ?_ (keeps_drewN _ _)) | (with_reducible refine Grew.trans ?_ (by assumption))))⟩
  | some r =>
    obtain ⟨o', d', c, a, q⟩ := r
    have hS : Sp.amountOf i o d = if c = 1 then a else 0 := by unfold Sp.amountOf; rw [hr]
    rw [hS]
    rw [hr] at hl
    simp only [Option.map_some, Option.getD_some, Option.isSome_some, rowVal'] at hl
    clear hr hS
    by_cases hc : c = 1
    · subst hc
      simp only [if_true]
      go_enter Tryd.func60, Tryd.ntmps60
      go_wp2
      go_ret
      exact ⟨rfl, by (repeat (first | (with_reducible exact Below.refl _ _) | (with_reducible exact alloc_grew _ _) | (with_reducible assumption) | (with_reducible refine Grew.alloc ?_ _) | ((with_reducible refine Below.setCell ?_ ?_ _); rotate_left; focus (first | exact Nat.le_refl _ | (simp; done) | (simp; omega))) | ((with_reducible refine Below.setRow ?_ ?_ _); rotate_left; focus (first | exact Nat.le_refl _ | (simp; done) | (simp; omega) | omega)) | (with_reducible refine Grew.drew ?_) | (with_reducible refine Below.trans ?_ (keeps_drewN _ _)) | (with_reducible refine Grew.trans ?_ (by assumption))))⟩
    · rw [if_neg hc]
      go_enter Tryd.func60, Tryd.ntmps60
      go_wp2
      go_ret
      exact ⟨rfl, by (repeat (first | (with_reducible exact Below.refl _ _) | (with_reducible exact alloc_grew _ _) | (with_reducible assumption) | (with_reducible refine Grew.alloc ?_ _) | ((with_reducible refine Below.setCell ?_ ?_ _); rotate_left; focus (first | exact Nat.le_refl _ | (simp; done) | (simp; omega))) | ((with_reducible refine Below.setRow ?_ ?_ _); rotate_left; focus (first | exact Nat.le_refl _ | (simp; done) | (simp; omega) | omega)) | (with_reducible refine Grew.drew ?_) | (with_reducible refine Below.trans ?_ (keeps_drewN _ _)) | (with_reducible refine Grew.trans ?_ (by assumption))))⟩

theorem amountOf_le {w : World} {i : Sp.Intake} {v0 v1 v2 : Value} {m : Option Nat} (h : InIs w i v0 v1 v2 m) (o d : Int) : 0 ≤ Sp.amountOf i o d ∧ Sp.amountOf i o d ≤ 1099511627776 := by
  unfold Sp.amountOf
  split
  · rename_i r hr
    split
    · exact h.amt o d r hr
    · omega
  · omega
/-- What is held while an intake is looked up in twice. -/
theorem netS {w w1 w2 : World} {B : Nat} {i : Sp.Intake} {v0 v1 v2 : Value} {m : Option Nat} {a0 a1 a2 a3 a4 a5 a6 a7 a8 a9 : Value}
    (h : w1.cell? ⟨B, 0, none⟩ = some a0 ∧ w1.cell? ⟨B, 1, none⟩ = some a1 ∧ w1.cell? ⟨B, 2, none⟩ = some a2 ∧ w1.cell? ⟨B, 3, none⟩ = some a3 ∧ w1.cell? ⟨B, 4, none⟩ = some a4 ∧
      w1.cell? ⟨B, 5, none⟩ = some a5 ∧ w1.cell? ⟨B, 6, none⟩ = some a6 ∧ w1.cell? ⟨B, 7, none⟩ = some a7 ∧ w1.cell? ⟨B, 8, none⟩ = some a8 ∧ w1.cell? ⟨B, 9, none⟩ = some a9 ∧ Hid (InIs w1 i v0 v1 v2 m ∧ Below w.heap.size w w1)) (hb : Below w1.heap.size w1 w2) :
    w2.cell? ⟨B, 0, none⟩ = some a0 ∧ w2.cell? ⟨B, 1, none⟩ = some a1 ∧ w2.cell? ⟨B, 2, none⟩ = some a2 ∧ w2.cell? ⟨B, 3, none⟩ = some a3 ∧ w2.cell? ⟨B, 4, none⟩ = some a4 ∧
      w2.cell? ⟨B, 5, none⟩ = some a5 ∧ w2.cell? ⟨B, 6, none⟩ = some a6 ∧ w2.cell? ⟨B, 7, none⟩ = some a7 ∧ w2.cell? ⟨B, 8, none⟩ = some a8 ∧ w2.cell? ⟨B, 9, none⟩ = some a9 ∧ Hid (InIs w2 i v0 v1 v2 m ∧ Below w.heap.size w w2) := by
  obtain ⟨h0, h1, h2, h3, h4, h5, h6, h7, h8, h9, hh⟩ := h
  exact ⟨heldc hb h0, heldc hb h1, heldc hb h2, heldc hb h3, heldc hb h4, heldc hb h5, heldc hb h6, heldc hb h7, heldc hb h8, heldc hb h9, ⟨hh.out.1.below hb, hh.out.2.trans (hb.mono hh.out.2.size)⟩⟩
theorem netS_is {w w1 : World} {B : Nat} {i : Sp.Intake} {v0 v1 v2 : Value} {m : Option Nat} {a0 a1 a2 a3 a4 a5 a6 a7 a8 a9 : Value}
    (h : w1.cell? ⟨B, 0, none⟩ = some a0 ∧ w1.cell? ⟨B, 1, none⟩ = some a1 ∧ w1.cell? ⟨B, 2, none⟩ = some a2 ∧ w1.cell? ⟨B, 3, none⟩ = some a3 ∧ w1.cell? ⟨B, 4, none⟩ = some a4 ∧
      w1.cell? ⟨B, 5, none⟩ = some a5 ∧ w1.cell? ⟨B, 6, none⟩ = some a6 ∧ w1.cell? ⟨B, 7, none⟩ = some a7 ∧ w1.cell? ⟨B, 8, none⟩ = some a8 ∧ w1.cell? ⟨B, 9, none⟩ = some a9 ∧ Hid (InIs w1 i v0 v1 v2 m ∧ Below w.heap.size w w1)) : InIs w1 i v0 v1 v2 m ∧ Below w.heap.size w w1 := h.2.2.2.2.2.2.2.2.2.2.out
set_option maxRecDepth 100000 in
set_option maxHeartbeats 4000000 in
theorem inNet_any (w : World) (i : Sp.Intake) (v0 v1 v2 : Value) (m : Option Nat) (o : Int) (h : InIs w i v0 v1 v2 m) (ho : Sp.in64 o = true) :
    Calls Tryd.prog 36 #[inVal i v0 v1 v2 m, .int .i64 o] w fun e w' => e = .returned (.int .i64 (Sp.inNet i o)) ∧ Below w.heap.size w w' := by
  obtain ⟨hA1, hA2⟩ := amountOf_le h o 1
  obtain ⟨hC1, hC2⟩ := amountOf_le h o 4
  have cA : Hid (∀ W d, InIs W i v0 v1 v2 m → Sp.in64 d = true → Calls Tryd.prog 60 #[inVal i v0 v1 v2 m, .int .i64 o, .int .i64 d] W fun e w' => e = .returned (.int .i64 (Sp.amountOf i o d)) ∧ Below W.heap.size W w') :=
    Lib.hid (fun W d hW hd => amount_any W i v0 v1 v2 m o d hW ho hd)
  have HI := Lib.hid h
  obtain ⟨q0, k0, rfl⟩ := own_slice' h.r0
  obtain ⟨q1, k1, rfl⟩ := own_slice' h.r1
  obtain ⟨q2, k2, rfl⟩ := own_slice' h.r2
  simp only [inVal] at cA ⊢
  clear h ho
  have hw : IntKind.i64.wrap (Sp.amountOf i o 1 - Sp.amountOf i o 4) = Sp.amountOf i o 1 - Sp.amountOf i o 4 := IntWalk.i64_in _ (by omega)
  go_enter Tryd.func36, Tryd.ntmps36
  go_wp2
  have hS0 : Hid _ := Lib.hid (netS (w := w) (i := i) (m := m) (B := w.heap.size) (w2 := (w.alloc (.cells #[.int .i64 i.s0.party, .int .i64 i.s0.seq, .slice q0 i.s0.rows.length k0, .int .i64 i.s1.party, .int .i64 i.s1.seq, .slice q1 i.s1.rows.length k1, .int .i64 i.s2.party, .int .i64 i.s2.seq, .slice q2 i.s2.rows.length k2, .map m] 63)).drew)
    (w1 := w.alloc (.cells #[.int .i64 i.s0.party, .int .i64 i.s0.seq, .slice q0 i.s0.rows.length k0, .int .i64 i.s1.party, .int .i64 i.s1.seq, .slice q1 i.s1.rows.length k1, .int .i64 i.s2.party, .int .i64 i.s2.seq, .slice q2 i.s2.rows.length k2, .map m] 63))
    ⟨by rw [cell_of_row _ _ _ _ _ _ (heap_alloc_new w _)]; rfl, by rw [cell_of_row _ _ _ _ _ _ (heap_alloc_new w _)]; rfl, by rw [cell_of_row _ _ _ _ _ _ (heap_alloc_new w _)]; rfl, by rw [cell_of_row _ _ _ _ _ _ (heap_alloc_new w _)]; rfl, by rw [cell_of_row _ _ _ _ _ _ (heap_alloc_new w _)]; rfl,
     by rw [cell_of_row _ _ _ _ _ _ (heap_alloc_new w _)]; rfl, by rw [cell_of_row _ _ _ _ _ _ (heap_alloc_new w _)]; rfl, by rw [cell_of_row _ _ _ _ _ _ (heap_alloc_new w _)]; rfl, by rw [cell_of_row _ _ _ _ _ _ (heap_alloc_new w _)]; rfl, by rw [cell_of_row _ _ _ _ _ _ (heap_alloc_new w _)]; rfl,
     ⟨HI.out.below (alloc_grew _ _), alloc_grew _ _⟩⟩ ((Below.refl _ _).drew))
  go_region_held3 (fun w1 => w1.cell? ⟨w.heap.size, 0, none⟩ = some (.int .i64 i.s0.party) ∧ w1.cell? ⟨w.heap.size, 1, none⟩ = some (.int .i64 i.s0.seq) ∧ w1.cell? ⟨w.heap.size, 2, none⟩ = some (.slice q0 i.s0.rows.length k0) ∧ w1.cell? ⟨w.heap.size, 3, none⟩ = some (.int .i64 i.s1.party) ∧ w1.cell? ⟨w.heap.size, 4, none⟩ = some (.int .i64 i.s1.seq) ∧
      w1.cell? ⟨w.heap.size, 5, none⟩ = some (.slice q1 i.s1.rows.length k1) ∧ w1.cell? ⟨w.heap.size, 6, none⟩ = some (.int .i64 i.s2.party) ∧ w1.cell? ⟨w.heap.size, 7, none⟩ = some (.int .i64 i.s2.seq) ∧ w1.cell? ⟨w.heap.size, 8, none⟩ = some (.slice q2 i.s2.rows.length k2) ∧ w1.cell? ⟨w.heap.size, 9, none⟩ = some (.map m) ∧ Hid (InIs w1 i (.slice q0 i.s0.rows.length k0) (.slice q1 i.s1.rows.length k1) (.slice q2 i.s2.rows.length k2) m ∧ Below w.heap.size w w1))
    (first | exact hS0.out | exact netS (by assumption) (by assumption) | assumption)
    (first
      | (go_at_call 60; refine Calls.mono (cA.out _ _ (netS_is (w := w) (by assumption)).1 (by rfl)) ?_; rintro e w3 ⟨rfl, hb3⟩))
  rename_i hHeld
  have hlow := Lib.hid (netS_is hHeld).2
  clear hHeld
  go_wp2
  go_ret
  exact ⟨rfl, hlow.out⟩
end Go.Proofs.YtfkhfofoginaiaaDoor

/-
  A copy of a slice by append onto nil. General: without a function of the program.
-/

set_option linter.unusedVariables false
set_option linter.unusedSimpArgs false
namespace Go.Proofs.YtfkhfofoginaiaaDoor
open Go.RowKit Go.Maps

/-- append([]T(nil), u...): a copy of u in new memory. -/
theorem wpList_clone {P : Program} {α : Type} {enc : α → List Value} {size : Nat} {w : World} {ops : Array Oper} {rest : List Oper} {o : Oper} {a : Act} {Q : Exit → Act → World → Prop} (hsz : ∀ x, (enc x).length = size) (h1 : ∀ x, ∀ c ∈ enc x, c.oneCell' = true)
    {t e : TypeId} {z : Value} {bytes : Nat} (ht : P.underlying t = some (.slice e)) (hinfo : (P.info? e).map (fun i => (i.zero, i.size, i.bytes)) = some (some z, size, bytes)) (hz : z.cells.size = size) (hpos : 0 < size)
    (hgd : o.guard = none) (x : Operand) (ho : o.op = .call { callee := .builtin .append, args := #[.const (.slice none 0 0), x], argTypes := #[t, t] }) {u : Value} {l : List α} (hx : a.eval x = u) (hu : Slc enc size w u l)
    (hm : l.length ≤ maxLen) (hl : l.length * bytes ≤ 140737488355328)
    (h : ∀ q c w1, w1.ownsRow w.heap.size e size (.slice q l.length c) l.length (l.flatMap enc) → Below w.heap.size w w1 → wpList P ops Q rest (a.put o.dst (.slice q l.length c)) w1) : wpList P ops Q (o :: rest) a w := by
  obtain ⟨v1, w1, hr, h2, h3, _⟩ := run_appAll (P := P) (w := w) hsz w.heap.size t o.type e z bytes ht hinfo hz hpos (.slice none 0 0) 0 [] (World.ownsRow_nil _ _ _ _) u l hu h1 (by omega) (by rw [Nat.zero_add]; exact hl) (Nat.le_refl _)
  simp only [Nat.zero_add, List.nil_append] at h2
  have hshape : ∃ q c, v1 = .slice q l.length c := by
    rcases h2.2 with ⟨rfl, h0⟩ | ⟨g, cap, cur, rfl, _⟩
    · exact ⟨_, _, by rw [h0]⟩
    · exact ⟨_, _, rfl⟩
  obtain ⟨q, c, rfl⟩ := hshape
  exact wpList_app hgd (.const (.slice none 0 0)) x ho rfl hx hr (h q c w1 h2 ⟨h3.os, h3.tape, h3.output, h3.size, fun k hk => h3.block k hk (by simp [Value.ownBlock])⟩)
end Go.Proofs.YtfkhfofoginaiaaDoor

/-
  intake.Newest.
-/

set_option linter.unusedVariables false
set_option linter.unusedSimpArgs false
namespace Go.Proofs.YtfkhfofoginaiaaDoor
open Go.RowKit Go.Maps

/-- A statement, handed back with rows of its own. -/
def StmtOut (w : World) (s : Sp.Stmt) (e : Ending) (w' : World) : Prop :=
  ∃ q c, e = .returned (.agg #[.int .i64 s.party, .int .i64 s.seq, .slice q s.rows.length c]) ∧ w'.ownsRow w.heap.size 95 5 (.slice q s.rows.length c) s.rows.length (s.rows.flatMap rowCells) ∧ Below w.heap.size w w'
theorem stmtOut_mk {w w1 W : World} {s : Sp.Stmt} {q : Option Addr} {c B : Nat} (hB : w.heap.size ≤ B) (ho : w1.ownsRow B 95 5 (.slice q s.rows.length c) s.rows.length (s.rows.flatMap rowCells)) (hk : Keeps (fun k => k < B) w1 W) (h3 : Below w.heap.size w W) :
    StmtOut w s (.returned (.agg #[.int .i64 s.party, .int .i64 s.seq, .slice q s.rows.length c])) W :=
  ⟨q, c, rfl, own_base (own_same ho (fun k hk' => by
    obtain ⟨cc, hc⟩ := own_block ho hk'
    refine hk.block k (Array.getElem?_eq_some_iff.1 hc).1 ?_
    rcases ho.2 with ⟨e, _⟩ | ⟨g, cap, cur, e, hg, _⟩
    · rw [e] at hk'; simp [Value.ownBlock] at hk'
    · rw [e] at hk'; simp [Value.ownBlock] at hk'; omega)) hB, h3⟩
set_option maxRecDepth 100000 in
set_option maxHeartbeats 2000000 in
theorem newest0_any (w : World) (i : Sp.Intake) (v0 v1 v2 : Value) (m : Option Nat) (h : InIs w i v0 v1 v2 m) :
    Calls Tryd.prog 39 #[inVal i v0 v1 v2 m, .int .i64 0] w (StmtOut w i.s0) := by
  have hU := Lib.hid h.r0.slc
  have hF := h.few
  obtain ⟨q0, k0, rfl⟩ := own_slice' h.r0
  obtain ⟨q1, k1, rfl⟩ := own_slice' h.r1
  obtain ⟨q2, k2, rfl⟩ := own_slice' h.r2
  simp only [inVal]
  clear h
  go_enter Tryd.func39, Tryd.ntmps39
  go_wp2_with (at_builtin; refine wpList_clone rowCells_len rowCells_one Tryd.underlying43 info_row rfl (by omega) rfl (.tmp 18) rfl rfl (Slc.mono hU.out (by (repeat (first | (with_reducible exact Below.refl _ _) | (with_reducible exact alloc_grew _ _) | (with_reducible assumption) | (with_reducible refine Grew.alloc ?_ _) | ((with_reducible refine Below.setCell ?_ ?_ _); rotate_left; focus (first | exact Nat.le_refl _ | (simp; done) | (simp; omega))) | ((with_reducible refine Below.setRow ?_ ?_ _); rotate_left; focus (first | exact Nat.le_refl _ | (simp; done) | (simp; omega) | omega)) | (with_reducible refine Grew.drew ?_) | (with_reducible refine Below.trans ?_ (keeps_drewN _ _)) | (with_reducible refine Grew.trans ?_ (by assumption)))))) (by unfold maxLen; omega) (by omega) ?_; intro q c w1 ho hb; obtain ⟨hc, hf, hr, hz⟩ := brow hb; replace ho := Lib.hid ho; replace hb := Lib.hid hb; (try simp at hz))
  refine bodyPost_ret (v := .agg #[.int .i64 i.s0.party, .int .i64 i.s0.seq, .slice q i.s0.rows.length c]) ?_ rfl ?_
  · simp [results, Tryd.results39, go_sem, ↓IntWalk.iteOmega, *]
  · have hb1 := hb.out
    have hlow : Below w.heap.size w w1 := by (repeat (first | (with_reducible exact Below.refl _ _) | (with_reducible exact alloc_grew _ _) | (with_reducible assumption) | (with_reducible refine Grew.alloc ?_ _) | ((with_reducible refine Below.setCell ?_ ?_ _); rotate_left; focus (first | exact Nat.le_refl _ | (simp; done) | (simp; omega))) | ((with_reducible refine Below.setRow ?_ ?_ _); rotate_left; focus (first | exact Nat.le_refl _ | (simp; done) | (simp; omega) | omega)) | (with_reducible refine Grew.drew ?_) | (with_reducible refine Below.trans ?_ (keeps_drewN _ _)) | (with_reducible refine Grew.trans ?_ (by assumption))))
    refine stmtOut_mk (B := w.heap.size + 3) (by omega) (own_base ho.out (by simp)) (w1 := w1) ?_ ?_
    · (repeat (first | (with_reducible exact Keeps.refl _ _) | (with_reducible assumption) | (with_reducible refine Keeps.alloc ?_ _) | ((with_reducible refine Keeps.setCell ?_ ?_ _); rotate_left; focus (first | (left; first | omega | (simp; done) | (simp; omega)) | (right; first | exact Nat.le_refl _ | (simp; done) | (simp; omega) | omega))) | ((with_reducible refine Keeps.setRow ?_ ?_ _); rotate_left; focus (first | (left; first | omega | (simp; done) | (simp; omega)) | (right; first | exact Nat.le_refl _ | (simp; done) | (simp; omega) | omega))) | (with_reducible refine Keeps.drew ?_) | (with_reducible refine Keeps.drewN ?_ _)))
    · (repeat (first | (with_reducible exact Below.refl _ _) | (with_reducible exact alloc_grew _ _) | (with_reducible assumption) | (with_reducible refine Grew.alloc ?_ _) | ((with_reducible refine Below.setCell ?_ ?_ _); rotate_left; focus (first | exact Nat.le_refl _ | (simp; done) | (simp; omega))) | ((with_reducible refine Below.setRow ?_ ?_ _); rotate_left; focus (first | exact Nat.le_refl _ | (simp; done) | (simp; omega) | omega)) | (with_reducible refine Grew.drew ?_) | (with_reducible refine Below.trans ?_ (keeps_drewN _ _)) | (with_reducible refine Grew.trans ?_ (by assumption))))
set_option maxRecDepth 100000 in
set_option maxHeartbeats 2000000 in
theorem newest1_any (w : World) (i : Sp.Intake) (v0 v1 v2 : Value) (m : Option Nat) (h : InIs w i v0 v1 v2 m) :
    Calls Tryd.prog 39 #[inVal i v0 v1 v2 m, .int .i64 1] w (StmtOut w i.s1) := by
  have hU := Lib.hid h.r1.slc
  have hF := h.few
  obtain ⟨q0, k0, rfl⟩ := own_slice' h.r0
  obtain ⟨q1, k1, rfl⟩ := own_slice' h.r1
  obtain ⟨q2, k2, rfl⟩ := own_slice' h.r2
  simp only [inVal]
  clear h
  go_enter Tryd.func39, Tryd.ntmps39
  go_wp2_with (at_builtin; refine wpList_clone rowCells_len rowCells_one Tryd.underlying43 info_row rfl (by omega) rfl (.tmp 18) rfl rfl (Slc.mono hU.out (by (repeat (first | (with_reducible exact Below.refl _ _) | (with_reducible exact alloc_grew _ _) | (with_reducible assumption) | (with_reducible refine Grew.alloc ?_ _) | ((with_reducible refine Below.setCell ?_ ?_ _); rotate_left; focus (first | exact Nat.le_refl _ | (simp; done) | (simp; omega))) | ((with_reducible refine Below.setRow ?_ ?_ _); rotate_left; focus (first | exact Nat.le_refl _ | (simp; done) | (simp; omega) | omega)) | (with_reducible refine Grew.drew ?_) | (with_reducible refine Below.trans ?_ (keeps_drewN _ _)) | (with_reducible refine Grew.trans ?_ (by assumption)))))) (by unfold maxLen; omega) (by omega) ?_; intro q c w1 ho hb; obtain ⟨hc, hf, hr, hz⟩ := brow hb; replace ho := Lib.hid ho; replace hb := Lib.hid hb; (try simp at hz))
  refine bodyPost_ret (v := .agg #[.int .i64 i.s1.party, .int .i64 i.s1.seq, .slice q i.s1.rows.length c]) ?_ rfl ?_
  · simp [results, Tryd.results39, go_sem, ↓IntWalk.iteOmega, *]
  · have hb1 := hb.out
    have hlow : Below w.heap.size w w1 := by (repeat (first | (with_reducible exact Below.refl _ _) | (with_reducible exact alloc_grew _ _) | (with_reducible assumption) | (with_reducible refine Grew.alloc ?_ _) | ((with_reducible refine Below.setCell ?_ ?_ _); rotate_left; focus (first | exact Nat.le_refl _ | (simp; done) | (simp; omega))) | ((with_reducible refine Below.setRow ?_ ?_ _); rotate_left; focus (first | exact Nat.le_refl _ | (simp; done) | (simp; omega) | omega)) | (with_reducible refine Grew.drew ?_) | (with_reducible refine Below.trans ?_ (keeps_drewN _ _)) | (with_reducible refine Grew.trans ?_ (by assumption))))
    refine stmtOut_mk (B := w.heap.size + 3) (by omega) (own_base ho.out (by simp)) (w1 := w1) ?_ ?_
    · (repeat (first | (with_reducible exact Keeps.refl _ _) | (with_reducible assumption) | (with_reducible refine Keeps.alloc ?_ _) | ((with_reducible refine Keeps.setCell ?_ ?_ _); rotate_left; focus (first | (left; first | omega | (simp; done) | (simp; omega)) | (right; first | exact Nat.le_refl _ | (simp; done) | (simp; omega) | omega))) | ((with_reducible refine Keeps.setRow ?_ ?_ _); rotate_left; focus (first | (left; first | omega | (simp; done) | (simp; omega)) | (right; first | exact Nat.le_refl _ | (simp; done) | (simp; omega) | omega))) | (with_reducible refine Keeps.drew ?_) | (with_reducible refine Keeps.drewN ?_ _)))
    · (repeat (first | (with_reducible exact Below.refl _ _) | (with_reducible exact alloc_grew _ _) | (with_reducible assumption) | (with_reducible refine Grew.alloc ?_ _) | ((with_reducible refine Below.setCell ?_ ?_ _); rotate_left; focus (first | exact Nat.le_refl _ | (simp; done) | (simp; omega))) | ((with_reducible refine Below.setRow ?_ ?_ _); rotate_left; focus (first | exact Nat.le_refl _ | (simp; done) | (simp; omega) | omega)) | (with_reducible refine Grew.drew ?_) | (with_reducible refine Below.trans ?_ (keeps_drewN _ _)) | (with_reducible refine Grew.trans ?_ (by assumption))))
set_option maxRecDepth 100000 in
set_option maxHeartbeats 2000000 in
theorem newest2_any (w : World) (i : Sp.Intake) (v0 v1 v2 : Value) (m : Option Nat) (h : InIs w i v0 v1 v2 m) :
    Calls Tryd.prog 39 #[inVal i v0 v1 v2 m, .int .i64 2] w (StmtOut w i.s2) := by
  have hU := Lib.hid h.r2.slc
  have hF := h.few
  obtain ⟨q0, k0, rfl⟩ := own_slice' h.r0
  obtain ⟨q1, k1, rfl⟩ := own_slice' h.r1
  obtain ⟨q2, k2, rfl⟩ := own_slice' h.r2
  simp only [inVal]
  clear h
  go_enter Tryd.func39, Tryd.ntmps39
  go_wp2_with (at_builtin; refine wpList_clone rowCells_len rowCells_one Tryd.underlying43 info_row rfl (by omega) rfl (.tmp 18) rfl rfl (Slc.mono hU.out (by (repeat (first | (with_reducible exact Below.refl _ _) | (with_reducible exact alloc_grew _ _) | (with_reducible assumption) | (with_reducible refine Grew.alloc ?_ _) | ((with_reducible refine Below.setCell ?_ ?_ _); rotate_left; focus (first | exact Nat.le_refl _ | (simp; done) | (simp; omega))) | ((with_reducible refine Below.setRow ?_ ?_ _); rotate_left; focus (first | exact Nat.le_refl _ | (simp; done) | (simp; omega) | omega)) | (with_reducible refine Grew.drew ?_) | (with_reducible refine Below.trans ?_ (keeps_drewN _ _)) | (with_reducible refine Grew.trans ?_ (by assumption)))))) (by unfold maxLen; omega) (by omega) ?_; intro q c w1 ho hb; obtain ⟨hc, hf, hr, hz⟩ := brow hb; replace ho := Lib.hid ho; replace hb := Lib.hid hb; (try simp at hz))
  refine bodyPost_ret (v := .agg #[.int .i64 i.s2.party, .int .i64 i.s2.seq, .slice q i.s2.rows.length c]) ?_ rfl ?_
  · simp [results, Tryd.results39, go_sem, ↓IntWalk.iteOmega, *]
  · have hb1 := hb.out
    have hlow : Below w.heap.size w w1 := by (repeat (first | (with_reducible exact Below.refl _ _) | (with_reducible exact alloc_grew _ _) | (with_reducible assumption) | (with_reducible refine Grew.alloc ?_ _) | ((with_reducible refine Below.setCell ?_ ?_ _); rotate_left; focus (first | exact Nat.le_refl _ | (simp; done) | (simp; omega))) | ((with_reducible refine Below.setRow ?_ ?_ _); rotate_left; focus (first | exact Nat.le_refl _ | (simp; done) | (simp; omega) | omega)) | (with_reducible refine Grew.drew ?_) | (with_reducible refine Below.trans ?_ (keeps_drewN _ _)) | (with_reducible refine Grew.trans ?_ (by assumption))))
    refine stmtOut_mk (B := w.heap.size + 3) (by omega) (own_base ho.out (by simp)) (w1 := w1) ?_ ?_
    · (repeat (first | (with_reducible exact Keeps.refl _ _) | (with_reducible assumption) | (with_reducible refine Keeps.alloc ?_ _) | ((with_reducible refine Keeps.setCell ?_ ?_ _); rotate_left; focus (first | (left; first | omega | (simp; done) | (simp; omega)) | (right; first | exact Nat.le_refl _ | (simp; done) | (simp; omega) | omega))) | ((with_reducible refine Keeps.setRow ?_ ?_ _); rotate_left; focus (first | (left; first | omega | (simp; done) | (simp; omega)) | (right; first | exact Nat.le_refl _ | (simp; done) | (simp; omega) | omega))) | (with_reducible refine Keeps.drew ?_) | (with_reducible refine Keeps.drewN ?_ _)))
    · (repeat (first | (with_reducible exact Below.refl _ _) | (with_reducible exact alloc_grew _ _) | (with_reducible assumption) | (with_reducible refine Grew.alloc ?_ _) | ((with_reducible refine Below.setCell ?_ ?_ _); rotate_left; focus (first | exact Nat.le_refl _ | (simp; done) | (simp; omega))) | ((with_reducible refine Below.setRow ?_ ?_ _); rotate_left; focus (first | exact Nat.le_refl _ | (simp; done) | (simp; omega) | omega)) | (with_reducible refine Grew.drew ?_) | (with_reducible refine Below.trans ?_ (keeps_drewN _ _)) | (with_reducible refine Grew.trans ?_ (by assumption))))
end Go.Proofs.YtfkhfofoginaiaaDoor

/-
  intake.Accept: what is refused.
-/

set_option linter.unusedVariables false
set_option linter.unusedSimpArgs false
namespace Go.Proofs.YtfkhfofoginaiaaDoor
open Go.RowKit Go.Maps

def inZero : Value := .agg #[.int .i64 0, .int .i64 0, .slice none 0 0, .int .i64 0, .int .i64 0, .slice none 0 0, .int .i64 0, .int .i64 0, .slice none 0 0, .map none]
def AccBad (w : World) (n : Int) (e : Ending) (w' : World) : Prop := e = .returned (.tuple #[inZero, .int .i64 n]) ∧ Below w.heap.size w w'
set_option maxRecDepth 100000 in
set_option maxHeartbeats 2000000 in
theorem accept_bad (w : World) (i : Sp.Intake) (v0 v1 v2 : Value) (m : Option Nat) (h : InIs w i v0 v1 v2 m) (party seq : Int) (v : Value) (l : List Sp.Row) (hp : Parties w) (hl : RowsAt w v l) (hno : stmtOk party seq l = false) :
    Calls Tryd.prog 33 #[inVal i v0 v1 v2 m, .agg #[.int .i64 party, .int .i64 seq, v]] w (AccBad w 2) := by
  obtain ⟨q0, k0, rfl⟩ := own_slice' h.r0
  obtain ⟨q1, k1, rfl⟩ := own_slice' h.r1
  obtain ⟨q2, k2, rfl⟩ := own_slice' h.r2
  obtain ⟨q, k, rfl⟩ := slc_shape hl
  have HV := Lib.hid (fun W (hW : Below w.heap.size w W) => rowsValid_any party seq _ l W (hp.grew hW) (hl.mono hW) rfl)
  rw [hno] at HV
  simp only [inVal]
  clear h hp hl hno
  go_enter Tryd.func33, Tryd.ntmps33
  go_wp2_with (go_at_call 41; refine Calls.mono (HV.out _ (by (repeat (first | (with_reducible exact Below.refl _ _) | (with_reducible exact alloc_grew _ _) | (with_reducible assumption) | (with_reducible refine Grew.alloc ?_ _) | ((with_reducible refine Below.setCell ?_ ?_ _); rotate_left; focus (first | exact Nat.le_refl _ | (simp; done) | (simp; omega))) | ((with_reducible refine Below.setRow ?_ ?_ _); rotate_left; focus (first | exact Nat.le_refl _ | (simp; done) | (simp; omega) | omega)) | (with_reducible refine Grew.drew ?_) | (with_reducible refine Below.trans ?_ (keeps_drewN _ _)) | (with_reducible refine Grew.trans ?_ (by assumption)))))) ?_; rintro e w1 ⟨rfl, hb⟩; obtain ⟨hc, hf, hr, hz⟩ := brow hb; (try simp at hz); have hlt : w.heap.size + 2 < w1.heap.size := (by omega); replace hb := Lib.hid hb)
  refine bodyPost_ret (v := .tuple #[inZero, .int .i64 2]) ?_ rfl ⟨rfl, ?_⟩
  · simp [results, Tryd.results33, go_sem, inZero, ↓IntWalk.iteOmega, *]
  · have hb1 := hb.out
    (repeat (first | (with_reducible exact Below.refl _ _) | (with_reducible exact alloc_grew _ _) | (with_reducible assumption) | (with_reducible refine Grew.alloc ?_ _) | ((with_reducible refine Below.setCell ?_ ?_ _); rotate_left; focus (first | exact Nat.le_refl _ | (simp; done) | (simp; omega))) | ((with_reducible refine Below.setRow ?_ ?_ _); rotate_left; focus (first | exact Nat.le_refl _ | (simp; done) | (simp; omega) | omega)) | (with_reducible refine Grew.drew ?_) | (with_reducible refine Below.trans ?_ (keeps_drewN _ _)) | (with_reducible refine Grew.trans ?_ (by assumption))))

set_option maxRecDepth 100000 in
set_option maxHeartbeats 2000000 in
theorem accept_stale0 (w : World) (i : Sp.Intake) (v0 v1 v2 : Value) (m : Option Nat) (h : InIs w i v0 v1 v2 m) (seq : Int) (v : Value) (l : List Sp.Row) (hp : Parties w) (hl : RowsAt w v l) (hyes : stmtOk 0 seq l = true) (hst : seq ≤ i.s0.seq) :
    Calls Tryd.prog 33 #[inVal i v0 v1 v2 m, .agg #[.int .i64 0, .int .i64 seq, v]] w (AccBad w 93) := by
  obtain ⟨q0, k0, rfl⟩ := own_slice' h.r0
  obtain ⟨q1, k1, rfl⟩ := own_slice' h.r1
  obtain ⟨q2, k2, rfl⟩ := own_slice' h.r2
  obtain ⟨q, k, rfl⟩ := slc_shape hl
  have HV := Lib.hid (fun W (hW : Below w.heap.size w W) => rowsValid_any 0 seq _ l W (hp.grew hW) (hl.mono hW) rfl)
  rw [hyes] at HV
  simp only [inVal]
  clear h hp hl hyes
  go_enter Tryd.func33, Tryd.ntmps33
  go_wp2_with (go_at_call 41; refine Calls.mono (HV.out _ (by (repeat (first | (with_reducible exact Below.refl _ _) | (with_reducible exact alloc_grew _ _) | (with_reducible assumption) | (with_reducible refine Grew.alloc ?_ _) | ((with_reducible refine Below.setCell ?_ ?_ _); rotate_left; focus (first | exact Nat.le_refl _ | (simp; done) | (simp; omega))) | ((with_reducible refine Below.setRow ?_ ?_ _); rotate_left; focus (first | exact Nat.le_refl _ | (simp; done) | (simp; omega) | omega)) | (with_reducible refine Grew.drew ?_) | (with_reducible refine Below.trans ?_ (keeps_drewN _ _)) | (with_reducible refine Grew.trans ?_ (by assumption)))))) ?_; rintro e w1 ⟨rfl, hb⟩; obtain ⟨hc, hf, hr, hz⟩ := brow hb; (try simp at hz); have hlt : w.heap.size + 2 < w1.heap.size := (by omega); replace hb := Lib.hid hb)
  go_quiet (fail)
  go_wp2
  refine bodyPost_ret (v := .tuple #[inZero, .int .i64 93]) ?_ rfl ⟨rfl, ?_⟩
  · simp [results, Tryd.results33, go_sem, inZero, ↓IntWalk.iteOmega, *]
  · have hb1 := hb.out
    (repeat (first | (with_reducible exact Below.refl _ _) | (with_reducible exact alloc_grew _ _) | (with_reducible assumption) | (with_reducible refine Grew.alloc ?_ _) | ((with_reducible refine Below.setCell ?_ ?_ _); rotate_left; focus (first | exact Nat.le_refl _ | (simp; done) | (simp; omega))) | ((with_reducible refine Below.setRow ?_ ?_ _); rotate_left; focus (first | exact Nat.le_refl _ | (simp; done) | (simp; omega) | omega)) | (with_reducible refine Grew.drew ?_) | (with_reducible refine Below.trans ?_ (keeps_drewN _ _)) | (with_reducible refine Grew.trans ?_ (by assumption))))

set_option maxRecDepth 100000 in
set_option maxHeartbeats 2000000 in
theorem accept_stale1 (w : World) (i : Sp.Intake) (v0 v1 v2 : Value) (m : Option Nat) (h : InIs w i v0 v1 v2 m) (seq : Int) (v : Value) (l : List Sp.Row) (hp : Parties w) (hl : RowsAt w v l) (hyes : stmtOk 1 seq l = true) (hst : seq ≤ i.s1.seq) :
    Calls Tryd.prog 33 #[inVal i v0 v1 v2 m, .agg #[.int .i64 1, .int .i64 seq, v]] w (AccBad w 93) := by
  obtain ⟨q0, k0, rfl⟩ := own_slice' h.r0
  obtain ⟨q1, k1, rfl⟩ := own_slice' h.r1
  obtain ⟨q2, k2, rfl⟩ := own_slice' h.r2
  obtain ⟨q, k, rfl⟩ := slc_shape hl
  have HV := Lib.hid (fun W (hW : Below w.heap.size w W) => rowsValid_any 1 seq _ l W (hp.grew hW) (hl.mono hW) rfl)
  rw [hyes] at HV
  simp only [inVal]
  clear h hp hl hyes
  go_enter Tryd.func33, Tryd.ntmps33
  go_wp2_with (go_at_call 41; refine Calls.mono (HV.out _ (by (repeat (first | (with_reducible exact Below.refl _ _) | (with_reducible exact alloc_grew _ _) | (with_reducible assumption) | (with_reducible refine Grew.alloc ?_ _) | ((with_reducible refine Below.setCell ?_ ?_ _); rotate_left; focus (first | exact Nat.le_refl _ | (simp; done) | (simp; omega))) | ((with_reducible refine Below.setRow ?_ ?_ _); rotate_left; focus (first | exact Nat.le_refl _ | (simp; done) | (simp; omega) | omega)) | (with_reducible refine Grew.drew ?_) | (with_reducible refine Below.trans ?_ (keeps_drewN _ _)) | (with_reducible refine Grew.trans ?_ (by assumption)))))) ?_; rintro e w1 ⟨rfl, hb⟩; obtain ⟨hc, hf, hr, hz⟩ := brow hb; (try simp at hz); have hlt : w.heap.size + 2 < w1.heap.size := (by omega); replace hb := Lib.hid hb)
  go_quiet (fail)
  go_wp2
  refine bodyPost_ret (v := .tuple #[inZero, .int .i64 93]) ?_ rfl ⟨rfl, ?_⟩
  · simp [results, Tryd.results33, go_sem, inZero, ↓IntWalk.iteOmega, *]
  · have hb1 := hb.out
    (repeat (first | (with_reducible exact Below.refl _ _) | (with_reducible exact alloc_grew _ _) | (with_reducible assumption) | (with_reducible refine Grew.alloc ?_ _) | ((with_reducible refine Below.setCell ?_ ?_ _); rotate_left; focus (first | exact Nat.le_refl _ | (simp; done) | (simp; omega))) | ((with_reducible refine Below.setRow ?_ ?_ _); rotate_left; focus (first | exact Nat.le_refl _ | (simp; done) | (simp; omega) | omega)) | (with_reducible refine Grew.drew ?_) | (with_reducible refine Below.trans ?_ (keeps_drewN _ _)) | (with_reducible refine Grew.trans ?_ (by assumption))))

set_option maxRecDepth 100000 in
set_option maxHeartbeats 2000000 in
theorem accept_stale2 (w : World) (i : Sp.Intake) (v0 v1 v2 : Value) (m : Option Nat) (h : InIs w i v0 v1 v2 m) (seq : Int) (v : Value) (l : List Sp.Row) (hp : Parties w) (hl : RowsAt w v l) (hyes : stmtOk 2 seq l = true) (hst : seq ≤ i.s2.seq) :
    Calls Tryd.prog 33 #[inVal i v0 v1 v2 m, .agg #[.int .i64 2, .int .i64 seq, v]] w (AccBad w 93) := by
  obtain ⟨q0, k0, rfl⟩ := own_slice' h.r0
  obtain ⟨q1, k1, rfl⟩ := own_slice' h.r1
  obtain ⟨q2, k2, rfl⟩ := own_slice' h.r2
  obtain ⟨q, k, rfl⟩ := slc_shape hl
  have HV := Lib.hid (fun W (hW : Below w.heap.size w W) => rowsValid_any 2 seq _ l W (hp.grew hW) (hl.mono hW) rfl)
  rw [hyes] at HV
  simp only [inVal]
  clear h hp hl hyes
  go_enter Tryd.func33, Tryd.ntmps33
  go_wp2_with (go_at_call 41; refine Calls.mono (HV.out _ (by (repeat (first | (with_reducible exact Below.refl _ _) | (with_reducible exact alloc_grew _ _) | (with_reducible assumption) | (with_reducible refine Grew.alloc ?_ _) | ((with_reducible refine Below.setCell ?_ ?_ _); rotate_left; focus (first | exact Nat.le_refl _ | (simp; done) | (simp; omega))) | ((with_reducible refine Below.setRow ?_ ?_ _); rotate_left; focus (first | exact Nat.le_refl _ | (simp; done) | (simp; omega) | omega)) | (with_reducible refine Grew.drew ?_) | (with_reducible refine Below.trans ?_ (keeps_drewN _ _)) | (with_reducible refine Grew.trans ?_ (by assumption)))))) ?_; rintro e w1 ⟨rfl, hb⟩; obtain ⟨hc, hf, hr, hz⟩ := brow hb; (try simp at hz); have hlt : w.heap.size + 2 < w1.heap.size := (by omega); replace hb := Lib.hid hb)
  go_quiet (fail)
  go_wp2
  refine bodyPost_ret (v := .tuple #[inZero, .int .i64 93]) ?_ rfl ⟨rfl, ?_⟩
  · simp [results, Tryd.results33, go_sem, inZero, ↓IntWalk.iteOmega, *]
  · have hb1 := hb.out
    (repeat (first | (with_reducible exact Below.refl _ _) | (with_reducible exact alloc_grew _ _) | (with_reducible assumption) | (with_reducible refine Grew.alloc ?_ _) | ((with_reducible refine Below.setCell ?_ ?_ _); rotate_left; focus (first | exact Nat.le_refl _ | (simp; done) | (simp; omega))) | ((with_reducible refine Below.setRow ?_ ?_ _); rotate_left; focus (first | exact Nat.le_refl _ | (simp; done) | (simp; omega) | omega)) | (with_reducible refine Grew.drew ?_) | (with_reducible refine Below.trans ?_ (keeps_drewN _ _)) | (with_reducible refine Grew.trans ?_ (by assumption))))
end Go.Proofs.YtfkhfofoginaiaaDoor

/-
  intake.Accept: what is taken in.
-/

set_option linter.unusedVariables false
set_option linter.unusedSimpArgs false
namespace Go.Proofs.YtfkhfofoginaiaaDoor
open Go.RowKit Go.Maps

@[go_sem] theorem drewN_size (w : World) (n : Nat) : (w.drewN n).heap.size = w.heap.size := rfl
@[go_sem] theorem drewN_alloc (w : World) (n : Nat) (o : Obj) : (w.drewN n).alloc o = (w.alloc o).drewN n := rfl
@[go_sem] theorem drewN_setCell (w : World) (n : Nat) (a : Addr) (v : Value) : (w.drewN n).setCell a v = (w.setCell a v).drewN n := rfl
@[go_sem] theorem drewN_setRow (w : World) (n g : Nat) (c : Array Value) : (w.drewN n).setRow g c = (w.setRow g c).drewN n := rfl
/-- Three blocks laid, and what made memory alone behind them. -/
theorem blocks3 {w w1 : World} {a b c : Array Value} {A B C : TypeId} (hb : Below (((w.alloc (.cells a A)).alloc (.cells b B)).alloc (.cells c C)).heap.size (((w.alloc (.cells a A)).alloc (.cells b B)).alloc (.cells c C)) w1) :
    w1.heap[w.heap.size]? = some (.cells a A (0, 0)) ∧ w1.heap[w.heap.size + 1]? = some (.cells b B (0, 0)) ∧ w1.heap[w.heap.size + 2]? = some (.cells c C (0, 0)) ∧ w.heap.size + 3 ≤ w1.heap.size ∧ Below w.heap.size w w1 := by
  have hs := hb.size
  simp at hs
  refine ⟨?_, ?_, ?_, hs, ?_⟩
  · rw [hb.block _ (by simp; omega), Below.heap_alloc _ _ _ (by simp; omega), Below.heap_alloc _ _ _ (by simp), heap_alloc_new]
  · rw [hb.block _ (by simp), Below.heap_alloc _ _ _ (by simp)]; exact heap_at (by simp)
  · rw [hb.block _ (by simp)]; exact heap_at (by simp)
  · exact (((alloc_grew w _).alloc (by simp) _).alloc (by simp; omega) _).trans (hb.mono (by simp; omega))
theorem cells_at {w : World} {b : Nat} {c : Array Value} {t : TypeId} (h : w.heap[b]? = some (.cells c t (0, 0))) (o : Nat) : w.cell? ⟨b, o, none⟩ = c[o]? := cell_of_row _ _ _ _ _ _ h
theorem frozen_at {w : World} {b : Nat} {c : Array Value} {t : TypeId} (h : w.heap[b]? = some (.cells c t (0, 0))) (o : Nat) : w.frozen? ⟨b, o, none⟩ = false := by simp [World.frozen?, h]
theorem size_alloc' (w : World) (o : Obj) : (w.alloc o).heap.size = w.heap.size + 1 := by simp
/-! what is laid into the new table of rows -/
def lstK (i : Sp.Intake) (k : Nat) : List Sp.Row := if k = 0 then i.s0.rows else if k = 1 then i.s1.rows else i.s2.rows
def rowsK (i : Sp.Intake) : Nat → Sp.RowMap
  | 0 => fun _ _ => none
  | k + 1 => Sp.rowsIn (rowsK i k) (lstK i k)
def cntK (i : Sp.Intake) : Nat → Nat
  | 0 => 0
  | k + 1 => cntK i k + (lstK i k).length
/-- While the table of rows is filled. -/
structure AccAt (w : World) (out M : Nat) (i : Sp.Intake) (v0 v1 v2 : Value) (n : Nat) (f : Int × Int → Option Sp.Row) (W : World) : Prop where
  low : Below w.heap.size w W
  r0 : RowsO W v0 i.s0.rows
  r1 : RowsO W v1 i.s1.rows
  r2 : RowsO W v2 i.s2.rows
  head : W.heap[out]? = some (.cells #[.int .i64 i.s0.party, .int .i64 i.s0.seq, v0, .int .i64 i.s1.party, .int .i64 i.s1.seq, v1, .int .i64 i.s2.party, .int .i64 i.s2.seq, v2, .map (some M)] 63 (0, 0))
  map : MapAt Tryd.prog 93 pairEnc W M n (fun a => (f a).map rowVal')
  res : W.heap[w.heap.size + 2]? = some (.cells #[.int .i64 0, .int .i64 0, .slice none 0 0, .int .i64 0, .int .i64 0, .slice none 0 0, .int .i64 0, .int .i64 0, .slice none 0 0, .map none] 63 (0, 0))
  ge : w.heap.size ≤ M ∧ w.heap.size + 2 < out
theorem AccAt.keep {w W W' : World} {out M n : Nat} {i : Sp.Intake} {v0 v1 v2 : Value} {f : Int × Int → Option Sp.Row} (h : AccAt w out M i v0 v1 v2 n f W) (hb : Below W.heap.size W W') : AccAt w out M i v0 v1 v2 n f W' where
  low := h.low.trans (hb.mono h.low.size)
  r0 := h.r0.below hb
  r1 := h.r1.below hb
  r2 := h.r2.below hb
  head := (hb.block _ (Array.getElem?_eq_some_iff.1 h.head).1).trans h.head
  map := h.map.below hb
  res := (hb.block _ (Array.getElem?_eq_some_iff.1 h.res).1).trans h.res
  ge := h.ge
theorem AccAt.put {w W W' : World} {out M n : Nat} {i : Sp.Intake} {v0 v1 v2 : Value} {f f' : Int × Int → Option Sp.Row} (h : AccAt w out M i v0 v1 v2 n f W) (hg : W.grownBy W' (some M)) (hm : MapAt Tryd.prog 93 pairEnc W' M (n + 1) (fun a => (f' a).map rowVal')) : AccAt w out M i v0 v1 v2 (n + 1) f' W' := by
  obtain ⟨es, cl, hM⟩ := h.map.heap
  have same : ∀ {k : Nat} {c : Array Value} {t : TypeId} {fr : Nat × Nat}, W.heap[k]? = some (.cells c t fr) → W'.heap[k]? = W.heap[k]? := fun {k c t fr} hk => hg.block k (Array.getElem?_eq_some_iff.1 hk).1 (fun e => ne_of_map hk hM (Option.some.inj e))
  have rows : ∀ {v : Value} {l : List Sp.Row}, RowsO W v l → RowsO W' v l := fun hr => hr.same (fun k hk => by obtain ⟨c, hc⟩ := own_block hr hk; exact same hc)
  exact ⟨h.low.grown hg h.low.size (fun j hj => by cases hj; exact h.ge.1), rows h.r0, rows h.r1, rows h.r2, (same h.head).trans h.head, hm, (same h.res).trans h.res, h.ge⟩
def AccOk (w : World) (i : Sp.Intake) (e : Ending) (w' : World) : Prop :=
  ∃ v0 v1 v2 M, e = .returned (.tuple #[inVal i v0 v1 v2 (some M), .int .i64 0]) ∧ InIs w' i v0 v1 v2 (some M) ∧ w.heap.size ≤ M ∧ Below w.heap.size w w'
/-- What an intake holds behind a statement that may be. -/
structure SetOk (i : Sp.Intake) : Prop where
  few : i.s0.rows.length ≤ 400 ∧ i.s1.rows.length ≤ 400 ∧ i.s2.rows.length ≤ 400
  rok : ∀ r, r ∈ i.s0.rows ∨ r ∈ i.s1.rows ∨ r ∈ i.s2.rows → RowIn r
  row : i.row = rowsK i 3
theorem rowIn_of_ok {r : Sp.Row} {p : Int} (h : Sp.rowOk r p = true) : RowIn r := by
  simp only [Sp.rowOk, Sp.keyOk, Sp.isDeed, Bool.and_eq_true, decide_eq_true_eq, Bool.or_eq_true] at h
  obtain ⟨⟨⟨⟨⟨h1, h2⟩, h3, h4⟩, _⟩, h6⟩, h5⟩ := h
  have h7 : (0 ≤ r.amount ∧ r.amount ≤ 1099511627776) ∧ 0 ≤ r.qty ∧ r.qty ≤ 999 := by
    split at h5
    · simp only [Bool.and_eq_true, decide_eq_true_eq] at h5; omega
    · split at h5
      · simp only [Bool.and_eq_true, decide_eq_true_eq] at h5; omega
      · simp only [Bool.and_eq_true, decide_eq_true_eq] at h5; omega
  exact ⟨by simp [Sp.in64]; omega, by simp [Sp.in64]; omega, by omega, by omega, by simp [Sp.in64]; omega, by simp [Sp.in64]; omega⟩
theorem rowsChk_all {p : Int} : ∀ {l : List Sp.Row} {q : Option Sp.Row}, rowsChk p q l = true → ∀ r ∈ l, Sp.rowOk r p = true
  | [], _, _, r, hr => by simp at hr
  | a :: t, q, h, r, hr => by
    simp only [rowsChk, Bool.and_eq_true] at h
    rcases List.mem_cons.1 hr with rfl | hr
    · exact h.1.1
    · exact rowsChk_all h.2 r hr
theorem stmtOk_rows {party seq : Int} {l : List Sp.Row} (h : stmtOk party seq l = true) : ∀ r ∈ l, Sp.rowOk r party = true := by
  simp only [stmtOk, rowsOk, Bool.and_eq_true, decide_eq_true_eq] at h
  exact rowsChk_all h.2.2
theorem stmtOk_party {party seq : Int} {l : List Sp.Row} (h : stmtOk party seq l = true) : party = 0 ∨ party = 1 ∨ party = 2 := by
  simp only [stmtOk, rowsOk, Bool.and_eq_true, decide_eq_true_eq] at h
  omega
theorem setStmt_ok {w : World} {i : Sp.Intake} {v0 v1 v2 : Value} {m : Option Nat} {party seq : Int} {l : List Sp.Row} (h : InIs w i v0 v1 v2 m) (hy : stmtOk party seq l = true) : SetOk (Sp.setStmt i ⟨party, seq, l⟩) := by
  have hr : ∀ r ∈ l, RowIn r := fun r hr => rowIn_of_ok (stmtOk_rows hy r hr)
  have hl := stmtOk_len hy
  have hf := h.few
  have hi := h.rok
  have h0 : ∀ r ∈ i.s0.rows, RowIn r := fun r hr => hi r (.inl hr)
  have h1 : ∀ r ∈ i.s1.rows, RowIn r := fun r hr => hi r (.inr (.inl hr))
  have h2 : ∀ r ∈ i.s2.rows, RowIn r := fun r hr => hi r (.inr (.inr hr))
  rcases stmtOk_party hy with rfl | rfl | rfl
  · refine ⟨⟨hl, hf.2.1, hf.2.2⟩, ?_, rfl⟩
    rintro r (h | h | h)
    · exact hr r h
    · exact h1 r h
    · exact h2 r h
  · refine ⟨⟨hf.1, hl, hf.2.2⟩, ?_, rfl⟩
    rintro r (h | h | h)
    · exact h0 r h
    · exact hr r h
    · exact h2 r h
  · refine ⟨⟨hf.1, hf.2.1, hl⟩, ?_, rfl⟩
    rintro r (h | h | h)
    · exact h0 r h
    · exact h1 r h
    · exact hr r h

/-! the loops -/
def sel3 {α : Type} (k : Nat) (a b c : α) : α := if k = 0 then a else if k = 1 then b else c
theorem idx9_0 (p0 s0 : Int) (v0 : Value) (p1 s1 : Int) (v1 : Value) (p2 s2 : Int) (v2 : Value) (w : World) : (Instr.index 46 (.agg #[.int .i64 p0, .int .i64 s0, v0, .int .i64 p1, .int .i64 s1, v1, .int .i64 p2, .int .i64 s2, v2]) (.int .i64 0)).run Tryd.prog w = .ok (.agg #[.int .i64 p0, .int .i64 s0, v0]) w := by kernel_rfl
theorem idx9_1 (p0 s0 : Int) (v0 : Value) (p1 s1 : Int) (v1 : Value) (p2 s2 : Int) (v2 : Value) (w : World) : (Instr.index 46 (.agg #[.int .i64 p0, .int .i64 s0, v0, .int .i64 p1, .int .i64 s1, v1, .int .i64 p2, .int .i64 s2, v2]) (.int .i64 1)).run Tryd.prog w = .ok (.agg #[.int .i64 p1, .int .i64 s1, v1]) w := by kernel_rfl
theorem idx9_2 (p0 s0 : Int) (v0 : Value) (p1 s1 : Int) (v1 : Value) (p2 s2 : Int) (v2 : Value) (w : World) : (Instr.index 46 (.agg #[.int .i64 p0, .int .i64 s0, v0, .int .i64 p1, .int .i64 s1, v1, .int .i64 p2, .int .i64 s2, v2]) (.int .i64 2)).run Tryd.prog w = .ok (.agg #[.int .i64 p2, .int .i64 s2, v2]) w := by kernel_rfl
theorem idx9 (p0 s0 : Int) (v0 : Value) (p1 s1 : Int) (v1 : Value) (p2 s2 : Int) (v2 : Value) {k : Nat} (hk : k < 3) (w : World) :
    (Instr.index 46 (.agg #[.int .i64 p0, .int .i64 s0, v0, .int .i64 p1, .int .i64 s1, v1, .int .i64 p2, .int .i64 s2, v2]) (.int .i64 k)).run Tryd.prog w = .ok (.agg #[.int .i64 (sel3 k p0 p1 p2), .int .i64 (sel3 k s0 s1 s2), sel3 k v0 v1 v2]) w := by
  have : k = 0 ∨ k = 1 ∨ k = 2 := by omega
  rcases this with rfl | rfl | rfl
  · exact idx9_0 ..
  · exact idx9_1 ..
  · exact idx9_2 ..
theorem AccAt.rows {w W : World} {out M n : Nat} {i : Sp.Intake} {v0 v1 v2 : Value} {f : Int × Int → Option Sp.Row} (h : AccAt w out M i v0 v1 v2 n f W) {k : Nat} (hk : k < 3) : RowsO W (sel3 k v0 v1 v2) (lstK i k) := by
  have : k = 0 ∨ k = 1 ∨ k = 2 := by omega
  rcases this with rfl | rfl | rfl
  · exact h.r0
  · exact h.r1
  · exact h.r2
def RelAcc (w : World) (out M : Nat) (i : Sp.Intake) (v0 v1 v2 : Value) (x : Value) (wr : World) : Prop :=
  ∃ k : Nat, k ≤ 3 ∧ x = .int .i64 k ∧ AccAt w out M i v0 v1 v2 (cntK i k) (fun a => rowsK i k a.1 a.2) wr
def RelIn (w : World) (out M : Nat) (i : Sp.Intake) (v0 v1 v2 : Value) (k : Nat) (x : Value) (wr : World) : Prop :=
  ∃ j : Nat, j ≤ (lstK i k).length ∧ x = .int .i64 j ∧ AccAt w out M i v0 v1 v2 (cntK i k + j) (fun a => Sp.rowsIn (rowsK i k) ((lstK i k).take j) a.1 a.2) wr
theorem rowsIn_snoc (f : Sp.RowMap) (l : List Sp.Row) (r : Sp.Row) : Sp.rowsIn f (l ++ [r]) = Sp.rowSet (Sp.rowsIn f l) r := by simp [Sp.rowsIn, List.foldl_append]
theorem take_snoc' {l : List Sp.Row} {j : Nat} {r : Sp.Row} (h : l[j]? = some r) : l.take (j + 1) = l.take j ++ [r] := by
  obtain ⟨hlt, rfl⟩ := List.getElem?_eq_some_iff.1 h
  rw [List.take_succ_eq_append_getElem hlt]
theorem cntK_le {i : Sp.Intake} (h : SetOk i) {k : Nat} (hk : k ≤ 3) : cntK i k ≤ k * 400 := by
  have hf := h.few
  have : k = 0 ∨ k = 1 ∨ k = 2 ∨ k = 3 := by omega
  rcases this with rfl | rfl | rfl | rfl <;> simp [cntK, lstK] <;> omega
theorem lstK_le {i : Sp.Intake} (h : SetOk i) (k : Nat) : (lstK i k).length ≤ 400 := by
  unfold lstK; split
  · exact h.few.1
  · split
    · exact h.few.2.1
    · exact h.few.2.2
theorem lstK_in {i : Sp.Intake} (h : SetOk i) {k : Nat} {r : Sp.Row} (hr : r ∈ lstK i k) : RowIn r := by
  unfold lstK at hr
  split at hr
  · exact h.rok r (.inl hr)
  · split at hr
    · exact h.rok r (.inr (.inl hr))
    · exact h.rok r (.inr (.inr hr))
theorem rowsIn_mem {f : Sp.RowMap} : ∀ {l : List Sp.Row} {o d : Int} {r : Sp.Row}, Sp.rowsIn f l o d = some r → r ∈ l ∨ f o d = some r := by
  intro l
  induction l generalizing f with
  | nil => intro o d r h; exact .inr h
  | cons a t ih =>
    intro o d r h
    have h' : Sp.rowsIn (Sp.rowSet f a) t o d = some r := h
    rcases ih h' with h1 | h1
    · exact .inl (List.mem_cons_of_mem _ h1)
    · unfold Sp.rowSet at h1
      split at h1
      · cases h1; exact .inl (by simp)
      · exact .inr h1
theorem RelIn.next {w W W' : World} {out M k j : Nat} {i : Sp.Intake} {v0 v1 v2 : Value} {r : Sp.Row} (hr : (lstK i k)[j]? = some r) (h : AccAt w out M i v0 v1 v2 (cntK i k + j) (fun a => Sp.rowsIn (rowsK i k) ((lstK i k).take j) a.1 a.2) W) (hg : W.grownBy W' (some M))
    (hm : MapAt Tryd.prog 93 pairEnc W' M (cntK i k + j + 1) (fun x => if x = (r.order, r.deed) then some (rowVal' r) else (Sp.rowsIn (rowsK i k) ((lstK i k).take j) x.1 x.2).map rowVal')) :
    RelIn w out M i v0 v1 v2 k (.int .i64 (j + 1)) W' := by
  have hlt := (List.getElem?_eq_some_iff.1 hr).1
  refine ⟨j + 1, by omega, by simp, ?_⟩
  have h2 := h.put (f' := fun a => Sp.rowsIn (rowsK i k) ((lstK i k).take (j + 1)) a.1 a.2) hg (hm.congr (fun a _ => by
    rw [take_snoc' hr, rowsIn_snoc]
    unfold Sp.rowSet
    by_cases e : a = (r.order, r.deed)
    · subst e; simp
    · rw [if_neg e, if_neg (fun h => e (Prod.ext h.1 h.2))]))
  exact h2
theorem RelAcc.next {w W : World} {out M k : Nat} {i : Sp.Intake} {v0 v1 v2 : Value} (hk : k < 3) (h : AccAt w out M i v0 v1 v2 (cntK i k + (lstK i k).length) (fun a => Sp.rowsIn (rowsK i k) ((lstK i k).take (lstK i k).length) a.1 a.2) W) : RelAcc w out M i v0 v1 v2 (.int .i64 (k + 1)) W := by
  rw [List.take_length] at h
  exact ⟨k + 1, by omega, by simp, h⟩
theorem AccAt.out {w W : World} {out M : Nat} {i : Sp.Intake} {v0 v1 v2 : Value} (hs : SetOk i) (h : AccAt w out M i v0 v1 v2 (cntK i 3) (fun a => rowsK i 3 a.1 a.2) W) : InIs W i v0 v1 v2 (some M) where
  r0 := h.r0
  r1 := h.r1
  r2 := h.r2
  few := hs.few
  map := ⟨fun b hb => by cases hb; rw [hs.row]; exact h.map.mono (cntK_le hs (Nat.le_refl _)), fun e => by cases e⟩
  amt := fun o d r hr => by
    rw [hs.row] at hr
    have : RowIn r := by
      rcases rowsIn_mem (f := rowsK i 2) (l := lstK i 2) hr with h1 | h1
      · exact lstK_in hs h1
      · rcases rowsIn_mem (f := rowsK i 1) (l := lstK i 1) h1 with h2 | h2
        · exact lstK_in hs h2
        · rcases rowsIn_mem (f := rowsK i 0) (l := lstK i 0) h2 with h3 | h3
          · exact lstK_in hs h3
          · cases h3
    exact ⟨this.lo, this.hi⟩
  rok := hs.rok
theorem rowsO_at {W : World} {q : Option Addr} {n c j : Nat} {l : List Sp.Row} {r : Sp.Row} (h : RowsO W (.slice q n c) l) (hj : l[j]? = some r) :
    ∃ b, q = some ⟨b, 0, none⟩ ∧ W.cell? ⟨b, j * 5, none⟩ = some (.int .i64 r.order) ∧ W.cell? ⟨b, j * 5 + 1, none⟩ = some (.int .i64 r.deed) ∧ W.cell? ⟨b, j * 5 + 2, none⟩ = some (.int .i64 r.code) ∧ W.cell? ⟨b, j * 5 + 3, none⟩ = some (.int .i64 r.amount) ∧
      W.cell? ⟨b, j * 5 + 4, none⟩ = some (.int .i64 r.qty) ∧ b < W.heap.size := by
  rcases h.slc with ⟨_, rfl⟩ | ⟨b, cap, e, _, hb, hc⟩
  · simp at hj
  · cases e
    exact ⟨b, rfl, hc j r hj 0 _ rfl, hc j r hj 1 _ rfl, hc j r hj 2 _ rfl, hc j r hj 3 _ rfl, hc j r hj 4 _ rfl, hb⟩
theorem InIs.keeps1 {w w' : World} {i : Sp.Intake} {v0 v1 v2 : Value} {m : Option Nat} {X : Nat} {c : Array Value} {t : TypeId} {fr : Nat × Nat} (h : InIs w i v0 v1 v2 m) (hX : w.heap[X]? = some (.cells c t fr)) (ht : t ≠ 95) (hk : Keeps (fun k => k = X) w w') : InIs w' i v0 v1 v2 m :=
  h.same (fun k hk' => by
    refine hk.block k (h.lt hk') ?_
    have hr : ∀ {v : Value} {l : List Sp.Row}, RowsO w v l → v.ownBlock = some k → k ≠ X := fun hr e => by
      obtain ⟨cc, hc⟩ := own_block hr e
      exact ne_of_types hc hX (Ne.symm ht)
    rcases hk' with e | e | e | e
    · exact hr h.r0 e
    · exact hr h.r1 e
    · exact hr h.r2 e
    · obtain ⟨es, cl, hM⟩ := (h.map.1 k e).heap
      exact Ne.symm (ne_of_map hX hM))
end Go.Proofs.YtfkhfofoginaiaaDoor

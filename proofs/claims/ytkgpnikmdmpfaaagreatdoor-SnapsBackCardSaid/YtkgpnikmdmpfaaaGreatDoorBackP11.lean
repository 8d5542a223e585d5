/-
  Package intake: amount, Net, Newest.
-/
import Derived.Test.YtkgpnikmdmpfaaaGreatDoorBackP10
import Derived.Test.YtkgpnikmdmpfaaaGreatDoorBackP3
set_option linter.unusedVariables false
set_option linter.unusedSimpArgs false
namespace Go.Proofs.YtkgpnikmdmpfaaaGreatDoor
open Go.RowKit Go.Maps

theorem rowCells_len (r : Sp.Row) : (rowCells r).length = 5 := rfl
theorem rowCells_one (r : Sp.Row) : ∀ c ∈ rowCells r, c.oneCell' = true := by simp [rowCells, Value.oneCell']
/-- Rows in a block of rows. -/
def RowsO (w : World) (v : Value) (l : List Sp.Row) : Prop := w.ownsRow 0 127 5 v l.length (l.flatMap rowCells)
theorem own_base {w : World} {base base' size n : Nat} {e : TypeId} {v : Value} {xs : List Value} (h : w.ownsRow base e size v n xs) (hb : base' ≤ base) : w.ownsRow base' e size v n xs := by
  refine ⟨h.1, ?_⟩
  rcases h.2 with h0 | ⟨g, cap, cur, h1, h2, h3⟩
  · exact .inl h0
  · exact .inr ⟨g, cap, cur, h1, Nat.le_trans hb h2, h3⟩
theorem RowsO.slc {w : World} {v : Value} {l : List Sp.Row} (h : RowsO w v l) : RowsAt w v l := slc_of_own rowCells_len (by omega) h
theorem RowsO.same {w w' : World} {v : Value} {l : List Sp.Row} (h : RowsO w v l) (hs : ∀ k, v.ownBlock = some k → w'.heap[k]? = w.heap[k]?) : RowsO w' v l := own_same h hs
theorem RowsO.below {w w' : World} {v : Value} {l : List Sp.Row} (h : RowsO w v l) (hb : Below w.heap.size w w') : RowsO w' v l :=
  h.same (fun k hk => hb.block k (by obtain ⟨c, hc⟩ := own_block h hk; exact (Array.getElem?_eq_some_iff.1 hc).1))
theorem rowsO_nil (w : World) : RowsO w (.slice none 0 0) [] := World.ownsRow_nil _ _ _ _
def rowVal' (r : Sp.Row) : Value := .agg #[.int .i64 r.order, .int .i64 r.deed, .int .i64 r.code, .int .i64 r.amount, .int .i64 r.qty]
/-- An intake's value. -/
def inVal (i : Sp.Intake) (v0 v1 v2 : Value) (m : Option Nat) : Value :=
  .agg #[.int .i64 i.s0.party, .int .i64 i.s0.seq, v0, .int .i64 i.s1.party, .int .i64 i.s1.seq, v1, .int .i64 i.s2.party, .int .i64 i.s2.seq, v2, .map m]
structure RowIn (r : Sp.Row) : Prop where
  order : Sp.in64 r.order = true
  deed : Sp.in64 r.deed = true
  lo : 0 ≤ r.amount
  hi : r.amount ≤ 1099511627776
  code : Sp.in64 r.code = true
  qty : Sp.in64 r.qty = true
structure InIs (w : World) (i : Sp.Intake) (v0 v1 v2 : Value) (m : Option Nat) : Prop where
  r0 : RowsO w v0 i.s0.rows
  r1 : RowsO w v1 i.s1.rows
  r2 : RowsO w v2 i.s2.rows
  few : i.s0.rows.length ≤ 400 ∧ i.s1.rows.length ≤ 400 ∧ i.s2.rows.length ≤ 400
  map : (∀ b, m = some b → MapAt Tryz.prog 34 pairEnc w b 1200 (fun a => (i.row a.1 a.2).map rowVal')) ∧ (m = none → ∀ o d, i.row o d = none)
  amt : ∀ o d r, i.row o d = some r → 0 ≤ r.amount ∧ r.amount ≤ 1099511627776
  rok : ∀ r, r ∈ i.s0.rows ∨ r ∈ i.s1.rows ∨ r ∈ i.s2.rows → RowIn r
theorem InIs.same {w w' : World} {i : Sp.Intake} {v0 v1 v2 : Value} {m : Option Nat} (h : InIs w i v0 v1 v2 m) (hs : ∀ k, (v0.ownBlock = some k ∨ v1.ownBlock = some k ∨ v2.ownBlock = some k ∨ m = some k) → w'.heap[k]? = w.heap[k]?) : InIs w' i v0 v1 v2 m where
  r0 := h.r0.same (fun k hk => hs k (.inl hk))
  r1 := h.r1.same (fun k hk => hs k (.inr (.inl hk)))
  r2 := h.r2.same (fun k hk => hs k (.inr (.inr (.inl hk))))
  few := h.few
  map := ⟨fun b hb => (h.map.1 b hb).same (hs b (.inr (.inr (.inr hb)))), h.map.2⟩
  amt := h.amt
  rok := h.rok
theorem InIs.lt {w : World} {i : Sp.Intake} {v0 v1 v2 : Value} {m : Option Nat} (h : InIs w i v0 v1 v2 m) {k : Nat} (hk : v0.ownBlock = some k ∨ v1.ownBlock = some k ∨ v2.ownBlock = some k ∨ m = some k) : k < w.heap.size := by
  rcases hk with hk | hk | hk | hk
  · obtain ⟨c, hc⟩ := own_block h.r0 hk; exact (Array.getElem?_eq_some_iff.1 hc).1
  · obtain ⟨c, hc⟩ := own_block h.r1 hk; exact (Array.getElem?_eq_some_iff.1 hc).1
  · obtain ⟨c, hc⟩ := own_block h.r2 hk; exact (Array.getElem?_eq_some_iff.1 hc).1
  · exact (h.map.1 k hk).lt
theorem InIs.below {w w' : World} {i : Sp.Intake} {v0 v1 v2 : Value} {m : Option Nat} (h : InIs w i v0 v1 v2 m) (hb : Below w.heap.size w w') : InIs w' i v0 v1 v2 m :=
  h.same (fun k hk => hb.block k (h.lt hk))
theorem zeroRow (w : World) : (zeroValue 127).run Tryz.prog w = .ok (.agg #[.int .i64 0, .int .i64 0, .int .i64 0, .int .i64 0, .int .i64 0]) w := by kernel_rfl
theorem InIs.look {w : World} {i : Sp.Intake} {v0 v1 v2 : Value} {m : Option Nat} (h : InIs w i v0 v1 v2 m) {o d : Int} (ho : Sp.in64 o = true) (hd : Sp.in64 d = true) :
    (Instr.lookup 58 (.map m) (.agg #[.int .i64 o, .int .i64 d]) true).run Tryz.prog w =
      .ok (.tuple #[((i.row o d).map rowVal').getD (.agg #[.int .i64 0, .int .i64 0, .int .i64 0, .int .i64 0, .int .i64 0]), .bool (i.row o d).isSome]) w := by
  cases m with
  | some b =>
    have hl := (h.map.1 b rfl).look key_law Tryz.underlying58 (zeroRow w) (a := (o, d)) (key_key ho hd) true
    rw [if_pos rfl, Option.isSome_map] at hl
    exact hl
  | none =>
    obtain ⟨kl, hkl⟩ := Option.isSome_iff_exists.1 (key_key (a := (o, d)) ho hd)
    rw [h.map.2 rfl o d]
    have := look_nil (P := Tryz.prog) (w := w) true key_law Tryz.underlying58 (zeroRow w) hkl
    simpa [pairEnc] using this

set_option maxRecDepth 100000 in
set_option maxHeartbeats 1000000 in
theorem amount_any (w : World) (i : Sp.Intake) (v0 v1 v2 : Value) (m : Option Nat) (o d : Int) (h : InIs w i v0 v1 v2 m) (ho : Sp.in64 o = true) (hd : Sp.in64 d = true) :
    Calls Tryz.prog 99 #[inVal i v0 v1 v2 m, .int .i64 o, .int .i64 d] w fun e w' => e = .returned (.int .i64 (Sp.amountOf i o d)) ∧ Below w.heap.size w w' := by
  have hl := fun O => (h.below (w' := w.alloc O) (alloc_grew _ _)).look ho hd
  obtain ⟨q0, k0, rfl⟩ := own_slice' h.r0
  obtain ⟨q1, k1, rfl⟩ := own_slice' h.r1
  obtain ⟨q2, k2, rfl⟩ := own_slice' h.r2
  simp only [inVal]
  clear h ho hd
  cases hr : i.row o d with
  | none =>
    have hS : Sp.amountOf i o d = 0 := by unfold Sp.amountOf; rw [hr]
    rw [hS]
    rw [hr] at hl
    simp only [Option.map_none, Option.getD_none, Option.isSome_none] at hl
    clear hr hS
    go_enter Tryz.func99, Tryz.ntmps99
    go_wp2
    go_ret
    exact ⟨rfl, by (repeat (first | (with_reducible first | exact zR _ _ | exact zA _ _ | assumption | refine zL ?_ _ | refine zD ?_ | refine zN ?_ _) | ((with_reducible first | refine zC ?_ ?_ _ | refine zW ?_ ?_ _); rotate_left; focus (first | exact Nat.le_refl _ | (simp; done) | (simp; omega) | omega)) | with_reducible refine zT ?_ (by assumption)))⟩
  | some r =>
    obtain ⟨o', d', c, a, q⟩ := r
    have hS : Sp.amountOf i o d = if c = 1 then a else 0 := by unfold Sp.amountOf; rw [hr]
    rw [hS]
    rw [hr] at hl
    simp only [Option.map_some, Option.getD_some, Option.isSome_some, rowVal'] at hl
    clear hr hS
    by_cases hc : c = 1
    · subst hc
      simp only [if_true]
      go_enter Tryz.func99, Tryz.ntmps99
      go_wp2
      go_ret
      exact ⟨rfl, by (repeat (first | (with_reducible first | exact zR _ _ | exact zA _ _ | assumption | refine zL ?_ _ | refine zD ?_ | refine zN ?_ _) | ((with_reducible first | refine zC ?_ ?_ _ | refine zW ?_ ?_ _); rotate_left; focus (first | exact Nat.le_refl _ | (simp; done) | (simp; omega) | omega)) | with_reducible refine zT ?_ (by assumption)))⟩
    · rw [if_neg hc]
      go_enter Tryz.func99, Tryz.ntmps99
      go_wp2
      go_ret
      exact ⟨rfl, by (repeat (first | (with_reducible first | exact zR _ _ | exact zA _ _ | assumption | refine zL ?_ _ | refine zD ?_ | refine zN ?_ _) | ((with_reducible first | refine zC ?_ ?_ _ | refine zW ?_ ?_ _); rotate_left; focus (first | exact Nat.le_refl _ | (simp; done) | (simp; omega) | omega)) | with_reducible refine zT ?_ (by assumption)))⟩

theorem amountOf_le {w : World} {i : Sp.Intake} {v0 v1 v2 : Value} {m : Option Nat} (h : InIs w i v0 v1 v2 m) (o d : Int) : 0 ≤ Sp.amountOf i o d ∧ Sp.amountOf i o d ≤ 1099511627776 := by
  unfold Sp.amountOf
  split
  · rename_i r hr
    split
    · exact h.amt o d r hr
    · omega
  · omega
/-- What is held while an intake is looked up in twice. -/
theorem netS {w w1 w2 : World} {B : Nat} {i : Sp.Intake} {v0 v1 v2 : Value} {m : Option Nat} {a0 a1 a2 a3 a4 a5 a6 a7 a8 a9 : Value}
    (h : w1.cell? ⟨B, 0, none⟩ = some a0 ∧ w1.cell? ⟨B, 1, none⟩ = some a1 ∧ w1.cell? ⟨B, 2, none⟩ = some a2 ∧ w1.cell? ⟨B, 3, none⟩ = some a3 ∧ w1.cell? ⟨B, 4, none⟩ = some a4 ∧
      w1.cell? ⟨B, 5, none⟩ = some a5 ∧ w1.cell? ⟨B, 6, none⟩ = some a6 ∧ w1.cell? ⟨B, 7, none⟩ = some a7 ∧ w1.cell? ⟨B, 8, none⟩ = some a8 ∧ w1.cell? ⟨B, 9, none⟩ = some a9 ∧ Hid (InIs w1 i v0 v1 v2 m ∧ Below w.heap.size w w1)) (hb : Below w1.heap.size w1 w2) :
    w2.cell? ⟨B, 0, none⟩ = some a0 ∧ w2.cell? ⟨B, 1, none⟩ = some a1 ∧ w2.cell? ⟨B, 2, none⟩ = some a2 ∧ w2.cell? ⟨B, 3, none⟩ = some a3 ∧ w2.cell? ⟨B, 4, none⟩ = some a4 ∧
      w2.cell? ⟨B, 5, none⟩ = some a5 ∧ w2.cell? ⟨B, 6, none⟩ = some a6 ∧ w2.cell? ⟨B, 7, none⟩ = some a7 ∧ w2.cell? ⟨B, 8, none⟩ = some a8 ∧ w2.cell? ⟨B, 9, none⟩ = some a9 ∧ Hid (InIs w2 i v0 v1 v2 m ∧ Below w.heap.size w w2) := by
  obtain ⟨h0, h1, h2, h3, h4, h5, h6, h7, h8, h9, hh⟩ := h
  exact ⟨heldc hb h0, heldc hb h1, heldc hb h2, heldc hb h3, heldc hb h4, heldc hb h5, heldc hb h6, heldc hb h7, heldc hb h8, heldc hb h9, ⟨hh.out.1.below hb, hh.out.2.trans (hb.mono hh.out.2.size)⟩⟩
theorem netS_is {w w1 : World} {B : Nat} {i : Sp.Intake} {v0 v1 v2 : Value} {m : Option Nat} {a0 a1 a2 a3 a4 a5 a6 a7 a8 a9 : Value}
    (h : w1.cell? ⟨B, 0, none⟩ = some a0 ∧ w1.cell? ⟨B, 1, none⟩ = some a1 ∧ w1.cell? ⟨B, 2, none⟩ = some a2 ∧ w1.cell? ⟨B, 3, none⟩ = some a3 ∧ w1.cell? ⟨B, 4, none⟩ = some a4 ∧
      w1.cell? ⟨B, 5, none⟩ = some a5 ∧ w1.cell? ⟨B, 6, none⟩ = some a6 ∧ w1.cell? ⟨B, 7, none⟩ = some a7 ∧ w1.cell? ⟨B, 8, none⟩ = some a8 ∧ w1.cell? ⟨B, 9, none⟩ = some a9 ∧ Hid (InIs w1 i v0 v1 v2 m ∧ Below w.heap.size w w1)) : InIs w1 i v0 v1 v2 m ∧ Below w.heap.size w w1 := h.2.2.2.2.2.2.2.2.2.2.out
set_option maxRecDepth 100000 in
set_option maxHeartbeats 4000000 in
theorem inNet_any (w : World) (i : Sp.Intake) (v0 v1 v2 : Value) (m : Option Nat) (o : Int) (h : InIs w i v0 v1 v2 m) (ho : Sp.in64 o = true) :
    Calls Tryz.prog 60 #[inVal i v0 v1 v2 m, .int .i64 o] w fun e w' => e = .returned (.int .i64 (Sp.inNet i o)) ∧ Below w.heap.size w w' := by
  obtain ⟨hA1, hA2⟩ := amountOf_le h o 1
  obtain ⟨hC1, hC2⟩ := amountOf_le h o 4
  have cA : Hid (∀ W d, InIs W i v0 v1 v2 m → Sp.in64 d = true → Calls Tryz.prog 99 #[inVal i v0 v1 v2 m, .int .i64 o, .int .i64 d] W fun e w' => e = .returned (.int .i64 (Sp.amountOf i o d)) ∧ Below W.heap.size W w') :=
    Lib.hid (fun W d hW hd => amount_any W i v0 v1 v2 m o d hW ho hd)
  have HI := Lib.hid h
  obtain ⟨q0, k0, rfl⟩ := own_slice' h.r0
  obtain ⟨q1, k1, rfl⟩ := own_slice' h.r1
  obtain ⟨q2, k2, rfl⟩ := own_slice' h.r2
  simp only [inVal] at cA ⊢
  clear h ho
  have hw : IntKind.i64.wrap (Sp.amountOf i o 1 - Sp.amountOf i o 4) = Sp.amountOf i o 1 - Sp.amountOf i o 4 := IntWalk.i64_in _ (by omega)
  go_enter Tryz.func60, Tryz.ntmps60
  go_wp2
  have hS0 : Hid _ := Lib.hid (netS (w := w) (i := i) (m := m) (B := w.heap.size) (w2 := (w.alloc (.cells #[.int .i64 i.s0.party, .int .i64 i.s0.seq, .slice q0 i.s0.rows.length k0, .int .i64 i.s1.party, .int .i64 i.s1.seq, .slice q1 i.s1.rows.length k1, .int .i64 i.s2.party, .int .i64 i.s2.seq, .slice q2 i.s2.rows.length k2, .map m] 60)).drew)
    (w1 := w.alloc (.cells #[.int .i64 i.s0.party, .int .i64 i.s0.seq, .slice q0 i.s0.rows.length k0, .int .i64 i.s1.party, .int .i64 i.s1.seq, .slice q1 i.s1.rows.length k1, .int .i64 i.s2.party, .int .i64 i.s2.seq, .slice q2 i.s2.rows.length k2, .map m] 60))
    ⟨by rw [cell_of_row _ _ _ _ _ _ (heap_alloc_new w _)]; rfl, by rw [cell_of_row _ _ _ _ _ _ (heap_alloc_new w _)]; rfl, by rw [cell_of_row _ _ _ _ _ _ (heap_alloc_new w _)]; rfl, by rw [cell_of_row _ _ _ _ _ _ (heap_alloc_new w _)]; rfl, by rw [cell_of_row _ _ _ _ _ _ (heap_alloc_new w _)]; rfl,
     by rw [cell_of_row _ _ _ _ _ _ (heap_alloc_new w _)]; rfl, by rw [cell_of_row _ _ _ _ _ _ (heap_alloc_new w _)]; rfl, by rw [cell_of_row _ _ _ _ _ _ (heap_alloc_new w _)]; rfl, by rw [cell_of_row _ _ _ _ _ _ (heap_alloc_new w _)]; rfl, by rw [cell_of_row _ _ _ _ _ _ (heap_alloc_new w _)]; rfl,
     ⟨HI.out.below (alloc_grew _ _), alloc_grew _ _⟩⟩ ((Below.refl _ _).drew))
  go_region_held3 (fun w1 => w1.cell? ⟨w.heap.size, 0, none⟩ = some (.int .i64 i.s0.party) ∧ w1.cell? ⟨w.heap.size, 1, none⟩ = some (.int .i64 i.s0.seq) ∧ w1.cell? ⟨w.heap.size, 2, none⟩ = some (.slice q0 i.s0.rows.length k0) ∧ w1.cell? ⟨w.heap.size, 3, none⟩ = some (.int .i64 i.s1.party) ∧ w1.cell? ⟨w.heap.size, 4, none⟩ = some (.int .i64 i.s1.seq) ∧
      w1.cell? ⟨w.heap.size, 5, none⟩ = some (.slice q1 i.s1.rows.length k1) ∧ w1.cell? ⟨w.heap.size, 6, none⟩ = some (.int .i64 i.s2.party) ∧ w1.cell? ⟨w.heap.size, 7, none⟩ = some (.int .i64 i.s2.seq) ∧ w1.cell? ⟨w.heap.size, 8, none⟩ = some (.slice q2 i.s2.rows.length k2) ∧ w1.cell? ⟨w.heap.size, 9, none⟩ = some (.map m) ∧ Hid (InIs w1 i (.slice q0 i.s0.rows.length k0) (.slice q1 i.s1.rows.length k1) (.slice q2 i.s2.rows.length k2) m ∧ Below w.heap.size w w1))
    (first | exact hS0.out | exact netS (by assumption) (by assumption) | assumption)
    (first
      | (go_at_call 99; refine Calls.mono (cA.out _ _ (netS_is (w := w) (by assumption)).1 (by rfl)) ?_; rintro e w3 ⟨rfl, hb3⟩))
  rename_i hHeld
  have hlow := Lib.hid (netS_is hHeld).2
  clear hHeld
  go_wp2
  go_ret
  exact ⟨rfl, hlow.out⟩
end Go.Proofs.YtkgpnikmdmpfaaaGreatDoor

/-
  A copy of a slice by append onto nil. General: without a function of the program.
-/

set_option linter.unusedVariables false
set_option linter.unusedSimpArgs false
namespace Go.Proofs.YtkgpnikmdmpfaaaGreatDoor
open Go.RowKit Go.Maps

/-- append([]T(nil), u...): a copy of u in new memory. -/
theorem wpList_clone {P : Program} {α : Type} {enc : α → List Value} {size : Nat} {w : World} {ops : Array Oper} {rest : List Oper} {o : Oper} {a : Act} {Q : Exit → Act → World → Prop} (hsz : ∀ x, (enc x).length = size) (h1 : ∀ x, ∀ c ∈ enc x, c.oneCell' = true)
    {t e : TypeId} {z : Value} {bytes : Nat} (ht : P.underlying t = some (.slice e)) (hinfo : (P.info? e).map (fun i => (i.zero, i.size, i.bytes)) = some (some z, size, bytes)) (hz : z.cells.size = size) (hpos : 0 < size)
    (hgd : o.guard = none) (x : Operand) (ho : o.op = .call { callee := .builtin .append, args := #[.const (.slice none 0 0), x], argTypes := #[t, t] }) {u : Value} {l : List α} (hx : a.eval x = u) (hu : Slc enc size w u l)
    (hm : l.length ≤ maxLen) (hl : l.length * bytes ≤ 140737488355328)
    (h : ∀ q c w1, w1.ownsRow w.heap.size e size (.slice q l.length c) l.length (l.flatMap enc) → Below w.heap.size w w1 → wpList P ops Q rest (a.put o.dst (.slice q l.length c)) w1) : wpList P ops Q (o :: rest) a w := by
  obtain ⟨v1, w1, hr, h2, h3, _⟩ := run_appAll (P := P) (w := w) hsz w.heap.size t o.type e z bytes ht hinfo hz hpos (.slice none 0 0) 0 [] (World.ownsRow_nil _ _ _ _) u l hu h1 (by omega) (by rw [Nat.zero_add]; exact hl) (Nat.le_refl _)
  simp only [Nat.zero_add, List.nil_append] at h2
  have hshape : ∃ q c, v1 = .slice q l.length c := by
    rcases h2.2 with ⟨rfl, h0⟩ | ⟨g, cap, cur, rfl, _⟩
    · exact ⟨_, _, by rw [h0]⟩
    · exact ⟨_, _, rfl⟩
  obtain ⟨q, c, rfl⟩ := hshape
  exact wpList_app hgd (.const (.slice none 0 0)) x ho rfl hx hr (h q c w1 h2 ⟨h3.os, h3.tape, h3.output, h3.size, fun k hk => h3.block k hk (by simp [Value.ownBlock])⟩)
end Go.Proofs.YtkgpnikmdmpfaaaGreatDoor

/-
  intake.Newest.
-/

set_option linter.unusedVariables false
set_option linter.unusedSimpArgs false
namespace Go.Proofs.YtkgpnikmdmpfaaaGreatDoor
open Go.RowKit Go.Maps

/-- A statement, handed back with rows of its own. -/
def StmtOut (w : World) (s : Sp.Stmt) (e : Ending) (w' : World) : Prop :=
  ∃ q c, e = .returned (.agg #[.int .i64 s.party, .int .i64 s.seq, .slice q s.rows.length c]) ∧ w'.ownsRow w.heap.size 127 5 (.slice q s.rows.length c) s.rows.length (s.rows.flatMap rowCells) ∧ Below w.heap.size w w'
theorem stmtOut_mk {w w1 W : World} {s : Sp.Stmt} {q : Option Addr} {c B : Nat} (hB : w.heap.size ≤ B) (ho : w1.ownsRow B 127 5 (.slice q s.rows.length c) s.rows.length (s.rows.flatMap rowCells)) (hk : Keeps (fun k => k < B) w1 W) (h3 : Below w.heap.size w W) :
    StmtOut w s (.returned (.agg #[.int .i64 s.party, .int .i64 s.seq, .slice q s.rows.length c])) W :=
  ⟨q, c, rfl, own_base (own_same ho (fun k hk' => by
    obtain ⟨cc, hc⟩ := own_block ho hk'
    refine hk.block k (Array.getElem?_eq_some_iff.1 hc).1 ?_
    rcases ho.2 with ⟨e, _⟩ | ⟨g, cap, cur, e, hg, _⟩
    · rw [e] at hk'; simp [Value.ownBlock] at hk'
    · rw [e] at hk'; simp [Value.ownBlock] at hk'; omega)) hB, h3⟩
set_option maxRecDepth 100000 in
set_option maxHeartbeats 2000000 in
theorem newest0_any (w : World) (i : Sp.Intake) (v0 v1 v2 : Value) (m : Option Nat) (h : InIs w i v0 v1 v2 m) :
    Calls Tryz.prog 72 #[inVal i v0 v1 v2 m, .int .i64 0] w (StmtOut w i.s0) := by
  have hU := Lib.hid h.r0.slc
  have hF := h.few
  obtain ⟨q0, k0, rfl⟩ := own_slice' h.r0
  obtain ⟨q1, k1, rfl⟩ := own_slice' h.r1
  obtain ⟨q2, k2, rfl⟩ := own_slice' h.r2
  simp only [inVal]
  clear h
  go_enter Tryz.func72, Tryz.ntmps72
  go_wp2_with (at_builtin; refine wpList_clone rowCells_len rowCells_one Tryz.underlying35 info_row rfl (by omega) rfl (.tmp 18) rfl rfl (Slc.mono hU.out (by (repeat (first | (with_reducible first | exact zR _ _ | exact zA _ _ | assumption | refine zL ?_ _ | refine zD ?_ | refine zN ?_ _) | ((with_reducible first | refine zC ?_ ?_ _ | refine zW ?_ ?_ _); rotate_left; focus (first | exact Nat.le_refl _ | (simp; done) | (simp; omega) | omega)) | with_reducible refine zT ?_ (by assumption))))) (by unfold maxLen; omega) (by omega) ?_; intro q c w1 ho hb; obtain ⟨hc, hf, hr, hz⟩ := brow hb; replace ho := Lib.hid ho; replace hb := Lib.hid hb; (try simp at hz))
  refine bodyPost_ret (v := .agg #[.int .i64 i.s0.party, .int .i64 i.s0.seq, .slice q i.s0.rows.length c]) ?_ rfl ?_
  · simp [results, Tryz.results72, go_sem, ↓IntWalk.iteOmega, *]
  · have hb1 := hb.out
    have hlow : Below w.heap.size w w1 := by (repeat (first | (with_reducible first | exact zR _ _ | exact zA _ _ | assumption | refine zL ?_ _ | refine zD ?_ | refine zN ?_ _) | ((with_reducible first | refine zC ?_ ?_ _ | refine zW ?_ ?_ _); rotate_left; focus (first | exact Nat.le_refl _ | (simp; done) | (simp; omega) | omega)) | with_reducible refine zT ?_ (by assumption)))
    refine stmtOut_mk (B := w.heap.size + 3) (by omega) (own_base ho.out (by simp)) (w1 := w1) ?_ ?_
    · (repeat (first | (with_reducible exact Keeps.refl _ _) | (with_reducible assumption) | (with_reducible refine Keeps.alloc ?_ _) | ((with_reducible refine Keeps.setCell ?_ ?_ _); rotate_left; focus (first | (left; first | omega | (simp; done) | (simp; omega)) | (right; first | exact Nat.le_refl _ | (simp; done) | (simp; omega) | omega))) | ((with_reducible refine Keeps.setRow ?_ ?_ _); rotate_left; focus (first | (left; first | omega | (simp; done) | (simp; omega)) | (right; first | exact Nat.le_refl _ | (simp; done) | (simp; omega) | omega))) | (with_reducible refine Keeps.drew ?_) | (with_reducible refine Keeps.drewN ?_ _)))
    · (repeat (first | (with_reducible first | exact zR _ _ | exact zA _ _ | assumption | refine zL ?_ _ | refine zD ?_ | refine zN ?_ _) | ((with_reducible first | refine zC ?_ ?_ _ | refine zW ?_ ?_ _); rotate_left; focus (first | exact Nat.le_refl _ | (simp; done) | (simp; omega) | omega)) | with_reducible refine zT ?_ (by assumption)))
set_option maxRecDepth 100000 in
set_option maxHeartbeats 2000000 in
theorem newest1_any (w : World) (i : Sp.Intake) (v0 v1 v2 : Value) (m : Option Nat) (h : InIs w i v0 v1 v2 m) :
    Calls Tryz.prog 72 #[inVal i v0 v1 v2 m, .int .i64 1] w (StmtOut w i.s1) := by
  have hU := Lib.hid h.r1.slc
  have hF := h.few
  obtain ⟨q0, k0, rfl⟩ := own_slice' h.r0
  obtain ⟨q1, k1, rfl⟩ := own_slice' h.r1
  obtain ⟨q2, k2, rfl⟩ := own_slice' h.r2
  simp only [inVal]
  clear h
  go_enter Tryz.func72, Tryz.ntmps72
  go_wp2_with (at_builtin; refine wpList_clone rowCells_len rowCells_one Tryz.underlying35 info_row rfl (by omega) rfl (.tmp 18) rfl rfl (Slc.mono hU.out (by (repeat (first | (with_reducible first | exact zR _ _ | exact zA _ _ | assumption | refine zL ?_ _ | refine zD ?_ | refine zN ?_ _) | ((with_reducible first | refine zC ?_ ?_ _ | refine zW ?_ ?_ _); rotate_left; focus (first | exact Nat.le_refl _ | (simp; done) | (simp; omega) | omega)) | with_reducible refine zT ?_ (by assumption))))) (by unfold maxLen; omega) (by omega) ?_; intro q c w1 ho hb; obtain ⟨hc, hf, hr, hz⟩ := brow hb; replace ho := Lib.hid ho; replace hb := Lib.hid hb; (try simp at hz))
  refine bodyPost_ret (v := .agg #[.int .i64 i.s1.party, .int .i64 i.s1.seq, .slice q i.s1.rows.length c]) ?_ rfl ?_
  · simp [results, Tryz.results72, go_sem, ↓IntWalk.iteOmega, *]
  · have hb1 := hb.out
    have hlow : Below w.heap.size w w1 := by (repeat (first | (with_reducible first | exact zR _ _ | exact zA _ _ | assumption | refine zL ?_ _ | refine zD ?_ | refine zN ?_ _) | ((with_reducible first | refine zC ?_ ?_ _ | refine zW ?_ ?_ _); rotate_left; focus (first | exact Nat.le_refl _ | (simp; done) | (simp; omega) | omega)) | with_reducible refine zT ?_ (by assumption)))
    refine stmtOut_mk (B := w.heap.size + 3) (by omega) (own_base ho.out (by simp)) (w1 := w1) ?_ ?_
    · (repeat (first | (with_reducible exact Keeps.refl _ _) | (with_reducible assumption) | (with_reducible refine Keeps.alloc ?_ _) | ((with_reducible refine Keeps.setCell ?_ ?_ _); rotate_left; focus (first | (left; first | omega | (simp; done) | (simp; omega)) | (right; first | exact Nat.le_refl _ | (simp; done) | (simp; omega) | omega))) | ((with_reducible refine Keeps.setRow ?_ ?_ _); rotate_left; focus (first | (left; first | omega | (simp; done) | (simp; omega)) | (right; first | exact Nat.le_refl _ | (simp; done) | (simp; omega) | omega))) | (with_reducible refine Keeps.drew ?_) | (with_reducible refine Keeps.drewN ?_ _)))
    · (repeat (first | (with_reducible first | exact zR _ _ | exact zA _ _ | assumption | refine zL ?_ _ | refine zD ?_ | refine zN ?_ _) | ((with_reducible first | refine zC ?_ ?_ _ | refine zW ?_ ?_ _); rotate_left; focus (first | exact Nat.le_refl _ | (simp; done) | (simp; omega) | omega)) | with_reducible refine zT ?_ (by assumption)))
set_option maxRecDepth 100000 in
set_option maxHeartbeats 2000000 in
theorem newest2_any (w : World) (i : Sp.Intake) (v0 v1 v2 : Value) (m : Option Nat) (h : InIs w i v0 v1 v2 m) :
    Calls Tryz.prog 72 #[inVal i v0 v1 v2 m, .int .i64 2] w (StmtOut w i.s2) := by
  have hU := Lib.hid h.r2.slc
  have hF := h.few
  obtain ⟨q0, k0, rfl⟩ := own_slice' h.r0
  obtain ⟨q1, k1, rfl⟩ := own_slice' h.r1
  obtain ⟨q2, k2, rfl⟩ := own_slice' h.r2
  simp only [inVal]
  clear h
  go_enter Tryz.func72, Tryz.ntmps72
  go_wp2_with (at_builtin; refine wpList_clone rowCells_len rowCells_one Tryz.underlying35 info_row rfl (by omega) rfl (.tmp 18) rfl rfl (Slc.mono hU.out (by (repeat (first | (with_reducible first | exact zR _ _ | exact zA _ _ | assumption | refine zL ?_ _ | refine zD ?_ | refine zN ?_ _) | ((with_reducible first | refine zC ?_ ?_ _ | refine zW ?_ ?_ _); rotate_left; focus (first | exact Nat.le_refl _ | (simp; done) | (simp; omega) | omega)) | with_reducible refine zT ?_ (by assumption))))) (by unfold maxLen; omega) (by omega) ?_; intro q c w1 ho hb; obtain ⟨hc, hf, hr, hz⟩ := brow hb; replace ho := Lib.hid ho; replace hb := Lib.hid hb; (try simp at hz))
  refine bodyPost_ret (v := .agg #[.int .i64 i.s2.party, .int .i64 i.s2.seq, .slice q i.s2.rows.length c]) ?_ rfl ?_
  · simp [results, Tryz.results72, go_sem, ↓IntWalk.iteOmega, *]
  · have hb1 := hb.out
    have hlow : Below w.heap.size w w1 := by (repeat (first | (with_reducible first | exact zR _ _ | exact zA _ _ | assumption | refine zL ?_ _ | refine zD ?_ | refine zN ?_ _) | ((with_reducible first | refine zC ?_ ?_ _ | refine zW ?_ ?_ _); rotate_left; focus (first | exact Nat.le_refl _ | (simp; done) | (simp; omega) | omega)) | with_reducible refine zT ?_ (by assumption)))
    refine stmtOut_mk (B := w.heap.size + 3) (by omega) (own_base ho.out (by simp)) (w1 := w1) ?_ ?_
    · (repeat (first | (with_reducible exact Keeps.refl _ _) | (with_reducible assumption) | (with_reducible refine Keeps.alloc ?_ _) | ((with_reducible refine Keeps.setCell ?_ ?_ _); rotate_left; focus (first | (left; first | omega | (simp; done) | (simp; omega)) | (right; first | exact Nat.le_refl _ | (simp; done) | (simp; omega) | omega))) | ((with_reducible refine Keeps.setRow ?_ ?_ _); rotate_left; focus (first | (left; first | omega | (simp; done) | (simp; omega)) | (right; first | exact Nat.le_refl _ | (simp; done) | (simp; omega) | omega))) | (with_reducible refine Keeps.drew ?_) | (with_reducible refine Keeps.drewN ?_ _)))
    · (repeat (first | (with_reducible first | exact zR _ _ | exact zA _ _ | assumption | refine zL ?_ _ | refine zD ?_ | refine zN ?_ _) | ((with_reducible first | refine zC ?_ ?_ _ | refine zW ?_ ?_ _); rotate_left; focus (first | exact Nat.le_refl _ | (simp; done) | (simp; omega) | omega)) | with_reducible refine zT ?_ (by assumption)))
end Go.Proofs.YtkgpnikmdmpfaaaGreatDoor

/-
  snaps.Put.
-/
import Derived.Test.YtkgpnikmdmpfaaaGreatDoorBackP24
import Derived.Test.YtkgpnikmdmpfaaaGreatDoorBackP19
set_option linter.unusedVariables false
set_option linter.unusedSimpArgs false
namespace Go.Proofs.YtkgpnikmdmpfaaaGreatDoor
open Go.RowKit Go.Maps

/-! lengths -/
theorem orShl_range (n d : Int) (k : Nat) : 0 ≤ orShl n d k ∧ orShl n d k ≤ 18446744073709551615 := by
  unfold orShl bits
  rw [IntKind.wrap_u64]
  omega
theorem deedsN_range (s : Sp.Saga) : 0 ≤ deedsN s ∧ deedsN s ≤ 18446744073709551615 := by
  unfold deedsN
  split
  · unfold bits
    rw [IntKind.wrap_u64]
    omega
  · exact orShl_range _ _ _
theorem orderB_len {o : Sp.Order} (h : Sp.orderCheck o = 0) : (orderB o).length ≤ 74 := by
  have hr16 : o.ref.length ≤ 16 ∧ o.sku.length ≤ 8 := by
    unfold Sp.orderCheck at h
    split at h
    · simp at h
    · split at h
      · simp at h
      · rename_i h; omega
  unfold orderB
  rw [if_pos h]
  have h1 := varB_len64 (n := u64 o.id) (by have := u64_le o.id; omega)
  have h2 := textB_len (s := o.ref) (by omega)
  have h3 := textB_len (s := o.sku) (by omega)
  have h4 := varB_len64 (n := u64 o.qty) (by have := u64_le o.qty; omega)
  have h5 := varB_len64 (n := u64 o.amount) (by have := u64_le o.amount; omega)
  simp only [List.length_append]
  omega
theorem sagaB_len {s : Sp.Saga} (h : Sp.orderCheck s.o = 0) : (sagaB s).length ≤ 100 := by
  have h1 := orderB_len h
  have h2 := textB_len (s := orderB s.o) (by omega)
  have h3 := varB_len64 (n := (deedsN s).toNat) (by have := deedsN_range s; omega)
  unfold sagaB
  simp only [List.length_append]
  omega
theorem order_len {o : Sp.Order} (h : Sp.orderCheck o = 0) : o.ref.length ≤ 16 ∧ o.sku.length ≤ 8 := by
  unfold Sp.orderCheck at h
  split at h
  · simp at h
  · split at h
    · simp at h
    · rename_i h; omega
theorem flat_le {α : Type} {f : α → Bytes} {n : Nat} : ∀ {l : List α}, (∀ x ∈ l, (f x).length ≤ n) → (l.flatMap f).length ≤ l.length * n
  | [], _ => by simp
  | a :: t, h => by
    have h1 := h a (by simp)
    have h2 := flat_le (l := t) (fun x hx => h x (List.mem_cons_of_mem _ hx))
    rw [List.flatMap_cons, List.length_append, List.length_cons, Nat.add_mul]
    omega
theorem postB_len {p : Sp.Posting} (h : PostIn p) : (postB p).length ≤ 1000100 := by
  have h0 := h.id
  have h1 := textB_len (s := p.id) (by omega)
  have h2 := varB_len64 (n := u64 p.order) (by have := u64_le p.order; omega)
  have h3 := varB_len64 (n := u64 p.debit) (by have := u64_le p.debit; omega)
  have h4 := varB_len64 (n := u64 p.credit) (by have := u64_le p.credit; omega)
  have h5 := varB_len64 (n := (signN p.amount).toNat) (by
    have := h.amount
    simp only [Sp.in64, Bool.and_eq_true, decide_eq_true_eq] at this
    unfold signN; split <;> omega)
  unfold postB
  simp only [List.length_append]
  omega
theorem stmtB_len (party seq : Int) (l : List Sp.Row) : (stmtB party seq l).length ≤ 30000 := by
  unfold stmtB
  split
  · rename_i h
    have h1 := stmtOk_len h
    have h2 := rowsB_len l
    have h3 := flatVar_len [party, seq, (l.length : Int)] (by simp)
    rw [List.length_append]
    omega
  · simp
theorem take_flat {α : Type} {f : α → Bytes} {l : List α} {i : Nat} {x : α} (h : l[i]? = some x) : (l.take (i + 1)).flatMap f = (l.take i).flatMap f ++ f x := by
  obtain ⟨hlt, rfl⟩ := List.getElem?_eq_some_iff.1 h
  rw [List.take_succ_eq_append_getElem hlt, List.flatMap_append]
  simp
theorem wrapLen {n : Nat} (h : n ≤ 1000000000000) : IntKind.u64.wrap (n : Int) = n := by rw [IntKind.wrap_u64]; omega

/-- While a core's bytes are put together. -/
structure PutAt (w : World) (X : Nat) (arr : Array Value) (vs vp u0 u1 u2 : Value) (C : Sp.Core) (W : World) : Prop where
  low : Below w.heap.size w W
  box : W.heap[X]? = some (.cells arr 87 (0, 0))
  sagas : SagasAt W vs C.l
  posts : Slc postCells 5 W vp C.b.l
  r0 : RowsAt W u0 C.i.s0.rows
  r1 : RowsAt W u1 C.i.s1.rows
  r2 : RowsAt W u2 C.i.s2.rows
  par : Parties W
theorem PutAt.keep {w W W' : World} {X : Nat} {arr : Array Value} {vs vp u0 u1 u2 : Value} {C : Sp.Core} (h : PutAt w X arr vs vp u0 u1 u2 C W) (hb : Below W.heap.size W W') : PutAt w X arr vs vp u0 u1 u2 C W' :=
  ⟨h.low.trans (hb.mono h.low.size), heap_below hb h.box, h.sagas.mono hb, h.posts.mono hb, h.r0.mono hb, h.r1.mono hb, h.r2.mono hb, h.par.grew hb⟩
theorem held12 {W W1 W2 : World} {B : Nat} {s : Sp.Saga} (h : W1.cell? ⟨B, 0, none⟩ = some (.int .i64 s.o.id) ∧ W1.cell? ⟨B, 1, none⟩ = some (.string (str s.o.ref)) ∧ W1.cell? ⟨B, 2, none⟩ = some (.string (str s.o.sku)) ∧ W1.cell? ⟨B, 3, none⟩ = some (.int .i64 s.o.qty) ∧ W1.cell? ⟨B, 4, none⟩ = some (.int .i64 s.o.amount) ∧ W1.cell? ⟨B, 5, none⟩ = some (.int .i64 s.d0) ∧ W1.cell? ⟨B, 6, none⟩ = some (.int .i64 s.d1) ∧ W1.cell? ⟨B, 7, none⟩ = some (.int .i64 s.d2) ∧ W1.cell? ⟨B, 8, none⟩ = some (.int .i64 s.d3) ∧ W1.cell? ⟨B, 9, none⟩ = some (.int .i64 s.d4) ∧ W1.cell? ⟨B, 10, none⟩ = some (.int .i64 s.d5) ∧ W1.cell? ⟨B, 11, none⟩ = some (.bool s.cancel) ∧ Hid (Below W.heap.size W W1)) (hb : Below W1.heap.size W1 W2) : W2.cell? ⟨B, 0, none⟩ = some (.int .i64 s.o.id) ∧ W2.cell? ⟨B, 1, none⟩ = some (.string (str s.o.ref)) ∧ W2.cell? ⟨B, 2, none⟩ = some (.string (str s.o.sku)) ∧ W2.cell? ⟨B, 3, none⟩ = some (.int .i64 s.o.qty) ∧ W2.cell? ⟨B, 4, none⟩ = some (.int .i64 s.o.amount) ∧ W2.cell? ⟨B, 5, none⟩ = some (.int .i64 s.d0) ∧ W2.cell? ⟨B, 6, none⟩ = some (.int .i64 s.d1) ∧ W2.cell? ⟨B, 7, none⟩ = some (.int .i64 s.d2) ∧ W2.cell? ⟨B, 8, none⟩ = some (.int .i64 s.d3) ∧ W2.cell? ⟨B, 9, none⟩ = some (.int .i64 s.d4) ∧ W2.cell? ⟨B, 10, none⟩ = some (.int .i64 s.d5) ∧ W2.cell? ⟨B, 11, none⟩ = some (.bool s.cancel) ∧ Hid (Below W.heap.size W W2) := by
  obtain ⟨h0, h1, h2, h3, h4, h5, h6, h7, h8, h9, h10, h11, hh⟩ := h
  exact ⟨heldc hb h0, heldc hb h1, heldc hb h2, heldc hb h3, heldc hb h4, heldc hb h5, heldc hb h6, heldc hb h7, heldc hb h8, heldc hb h9, heldc hb h10, heldc hb h11, hh.out.trans (hb.mono hh.out.size)⟩
theorem held12_new {W : World} {t : TypeId} (s : Sp.Saga) : (W.alloc (.cells #[.int .i64 s.o.id, .string (str s.o.ref), .string (str s.o.sku), .int .i64 s.o.qty, .int .i64 s.o.amount, .int .i64 s.d0, .int .i64 s.d1, .int .i64 s.d2, .int .i64 s.d3, .int .i64 s.d4, .int .i64 s.d5, .bool s.cancel] t)).drew.cell? ⟨W.heap.size, 0, none⟩ = some (.int .i64 s.o.id) ∧ (W.alloc (.cells #[.int .i64 s.o.id, .string (str s.o.ref), .string (str s.o.sku), .int .i64 s.o.qty, .int .i64 s.o.amount, .int .i64 s.d0, .int .i64 s.d1, .int .i64 s.d2, .int .i64 s.d3, .int .i64 s.d4, .int .i64 s.d5, .bool s.cancel] t)).drew.cell? ⟨W.heap.size, 1, none⟩ = some (.string (str s.o.ref)) ∧ (W.alloc (.cells #[.int .i64 s.o.id, .string (str s.o.ref), .string (str s.o.sku), .int .i64 s.o.qty, .int .i64 s.o.amount, .int .i64 s.d0, .int .i64 s.d1, .int .i64 s.d2, .int .i64 s.d3, .int .i64 s.d4, .int .i64 s.d5, .bool s.cancel] t)).drew.cell? ⟨W.heap.size, 2, none⟩ = some (.string (str s.o.sku)) ∧ (W.alloc (.cells #[.int .i64 s.o.id, .string (str s.o.ref), .string (str s.o.sku), .int .i64 s.o.qty, .int .i64 s.o.amount, .int .i64 s.d0, .int .i64 s.d1, .int .i64 s.d2, .int .i64 s.d3, .int .i64 s.d4, .int .i64 s.d5, .bool s.cancel] t)).drew.cell? ⟨W.heap.size, 3, none⟩ = some (.int .i64 s.o.qty) ∧ (W.alloc (.cells #[.int .i64 s.o.id, .string (str s.o.ref), .string (str s.o.sku), .int .i64 s.o.qty, .int .i64 s.o.amount, .int .i64 s.d0, .int .i64 s.d1, .int .i64 s.d2, .int .i64 s.d3, .int .i64 s.d4, .int .i64 s.d5, .bool s.cancel] t)).drew.cell? ⟨W.heap.size, 4, none⟩ = some (.int .i64 s.o.amount) ∧ (W.alloc (.cells #[.int .i64 s.o.id, .string (str s.o.ref), .string (str s.o.sku), .int .i64 s.o.qty, .int .i64 s.o.amount, .int .i64 s.d0, .int .i64 s.d1, .int .i64 s.d2, .int .i64 s.d3, .int .i64 s.d4, .int .i64 s.d5, .bool s.cancel] t)).drew.cell? ⟨W.heap.size, 5, none⟩ = some (.int .i64 s.d0) ∧ (W.alloc (.cells #[.int .i64 s.o.id, .string (str s.o.ref), .string (str s.o.sku), .int .i64 s.o.qty, .int .i64 s.o.amount, .int .i64 s.d0, .int .i64 s.d1, .int .i64 s.d2, .int .i64 s.d3, .int .i64 s.d4, .int .i64 s.d5, .bool s.cancel] t)).drew.cell? ⟨W.heap.size, 6, none⟩ = some (.int .i64 s.d1) ∧ (W.alloc (.cells #[.int .i64 s.o.id, .string (str s.o.ref), .string (str s.o.sku), .int .i64 s.o.qty, .int .i64 s.o.amount, .int .i64 s.d0, .int .i64 s.d1, .int .i64 s.d2, .int .i64 s.d3, .int .i64 s.d4, .int .i64 s.d5, .bool s.cancel] t)).drew.cell? ⟨W.heap.size, 7, none⟩ = some (.int .i64 s.d2) ∧ (W.alloc (.cells #[.int .i64 s.o.id, .string (str s.o.ref), .string (str s.o.sku), .int .i64 s.o.qty, .int .i64 s.o.amount, .int .i64 s.d0, .int .i64 s.d1, .int .i64 s.d2, .int .i64 s.d3, .int .i64 s.d4, .int .i64 s.d5, .bool s.cancel] t)).drew.cell? ⟨W.heap.size, 8, none⟩ = some (.int .i64 s.d3) ∧ (W.alloc (.cells #[.int .i64 s.o.id, .string (str s.o.ref), .string (str s.o.sku), .int .i64 s.o.qty, .int .i64 s.o.amount, .int .i64 s.d0, .int .i64 s.d1, .int .i64 s.d2, .int .i64 s.d3, .int .i64 s.d4, .int .i64 s.d5, .bool s.cancel] t)).drew.cell? ⟨W.heap.size, 9, none⟩ = some (.int .i64 s.d4) ∧ (W.alloc (.cells #[.int .i64 s.o.id, .string (str s.o.ref), .string (str s.o.sku), .int .i64 s.o.qty, .int .i64 s.o.amount, .int .i64 s.d0, .int .i64 s.d1, .int .i64 s.d2, .int .i64 s.d3, .int .i64 s.d4, .int .i64 s.d5, .bool s.cancel] t)).drew.cell? ⟨W.heap.size, 10, none⟩ = some (.int .i64 s.d5) ∧ (W.alloc (.cells #[.int .i64 s.o.id, .string (str s.o.ref), .string (str s.o.sku), .int .i64 s.o.qty, .int .i64 s.o.amount, .int .i64 s.d0, .int .i64 s.d1, .int .i64 s.d2, .int .i64 s.d3, .int .i64 s.d4, .int .i64 s.d5, .bool s.cancel] t)).drew.cell? ⟨W.heap.size, 11, none⟩ = some (.bool s.cancel) ∧ Hid (Below W.heap.size W (W.alloc (.cells #[.int .i64 s.o.id, .string (str s.o.ref), .string (str s.o.sku), .int .i64 s.o.qty, .int .i64 s.o.amount, .int .i64 s.d0, .int .i64 s.d1, .int .i64 s.d2, .int .i64 s.d3, .int .i64 s.d4, .int .i64 s.d5, .bool s.cancel] t)).drew) := by
  have hc := cells_at (heap_alloc_new W (.cells #[.int .i64 s.o.id, .string (str s.o.ref), .string (str s.o.sku), .int .i64 s.o.qty, .int .i64 s.o.amount, .int .i64 s.d0, .int .i64 s.d1, .int .i64 s.d2, .int .i64 s.d3, .int .i64 s.d4, .int .i64 s.d5, .bool s.cancel] t))
  exact ⟨hc 0, hc 1, hc 2, hc 3, hc 4, hc 5, hc 6, hc 7, hc 8, hc 9, hc 10, hc 11, (alloc_grew _ _).drew⟩
theorem held12_low {W W1 : World} {B : Nat} {s : Sp.Saga} (h : W1.cell? ⟨B, 0, none⟩ = some (.int .i64 s.o.id) ∧ W1.cell? ⟨B, 1, none⟩ = some (.string (str s.o.ref)) ∧ W1.cell? ⟨B, 2, none⟩ = some (.string (str s.o.sku)) ∧ W1.cell? ⟨B, 3, none⟩ = some (.int .i64 s.o.qty) ∧ W1.cell? ⟨B, 4, none⟩ = some (.int .i64 s.o.amount) ∧ W1.cell? ⟨B, 5, none⟩ = some (.int .i64 s.d0) ∧ W1.cell? ⟨B, 6, none⟩ = some (.int .i64 s.d1) ∧ W1.cell? ⟨B, 7, none⟩ = some (.int .i64 s.d2) ∧ W1.cell? ⟨B, 8, none⟩ = some (.int .i64 s.d3) ∧ W1.cell? ⟨B, 9, none⟩ = some (.int .i64 s.d4) ∧ W1.cell? ⟨B, 10, none⟩ = some (.int .i64 s.d5) ∧ W1.cell? ⟨B, 11, none⟩ = some (.bool s.cancel) ∧ Hid (Below W.heap.size W W1)) : Below W.heap.size W W1 := h.2.2.2.2.2.2.2.2.2.2.2.2.out
def RelS1 (w : World) (X : Nat) (arr : Array Value) (vs vp u0 u1 u2 : Value) (C : Sp.Core) (s x : Value) (wr : World) : Prop :=
  ∃ i : Nat, i ≤ C.l.length ∧ x = .int .i64 i ∧ s = .string (str (varB C.l.length ++ (C.l.take i).flatMap sagaB)) ∧ PutAt w X arr vs vp u0 u1 u2 C wr
theorem acc1_len {C : Sp.Core} (hc : ∀ s ∈ C.l, Sp.orderCheck s.o = 0) (hl : C.l.length ≤ 60) (i : Nat) : (varB C.l.length ++ (C.l.take i).flatMap sagaB).length ≤ 7000 := by
  have h1 := varB_len64 (n := C.l.length) (by omega)
  have h2 := flat_le (f := sagaB) (n := 100) (l := C.l.take i) (fun s hs => sagaB_len (hc s (List.mem_of_mem_take hs)))
  have h3 : (C.l.take i).length ≤ 60 := by rw [List.length_take]; omega
  rw [List.length_append]
  have : (C.l.take i).length * 100 ≤ 60 * 100 := Nat.mul_le_mul_right _ h3
  omega
def RelS2 (w : World) (X : Nat) (arr : Array Value) (vs vp u0 u1 u2 : Value) (C : Sp.Core) (hd : Bytes) (s x : Value) (wr : World) : Prop :=
  ∃ i : Nat, i ≤ C.b.l.length ∧ x = .int .i64 i ∧ s = .string (str (hd ++ (C.b.l.take i).flatMap (fun p => textB (postB p)))) ∧ PutAt w X arr vs vp u0 u1 u2 C wr
theorem acc2_len {C : Sp.Core} (hp : ∀ p ∈ C.b.l, PostIn p) (hl : C.b.l.length ≤ 1000000) (i : Nat) : ((C.b.l.take i).flatMap (fun p => textB (postB p))).length ≤ 1000200000000 := by
  have h2 := flat_le (f := fun p => textB (postB p)) (n := 1000200) (l := C.b.l.take i) (fun p hpm => by
    have h1 := postB_len (hp p (List.mem_of_mem_take hpm))
    have h2 := textB_len (s := postB p) (by omega)
    omega)
  have h3 : (C.b.l.take i).length ≤ 1000000 := by rw [List.length_take]; omega
  have : (C.b.l.take i).length * 1000200 ≤ 1000000 * 1000200 := Nat.mul_le_mul_right _ h3
  omega
def stK (i : Sp.Intake) (k : Nat) : Sp.Stmt := sel3 k i.s0 i.s1 i.s2
theorem sel_party (i : Sp.Intake) {k : Nat} (hk : k < 3) : sel3 k i.s0.party i.s1.party i.s2.party = (stK i k).party := by
  have : k = 0 ∨ k = 1 ∨ k = 2 := by omega
  rcases this with rfl | rfl | rfl <;> rfl
theorem sel_seq (i : Sp.Intake) {k : Nat} (hk : k < 3) : sel3 k i.s0.seq i.s1.seq i.s2.seq = (stK i k).seq := by
  have : k = 0 ∨ k = 1 ∨ k = 2 := by omega
  rcases this with rfl | rfl | rfl <;> rfl
def nbK (C : Sp.Core) : Nat → Bytes
  | 0 => []
  | k + 1 => nbK C k ++ newestB (stK C.i k)
theorem newestB_len (s : Sp.Stmt) : (newestB s).length ≤ 30010 := by
  unfold newestB
  split
  · have h1 := stmtB_len s.party s.seq s.rows
    have h2 := textB_len (s := stmtB s.party s.seq s.rows) (by omega)
    omega
  · have h2 := textB_len (s := []) (by simp)
    simp at h2 ⊢; omega
theorem nbK_len (C : Sp.Core) (k : Nat) : (nbK C k).length ≤ k * 30010 := by
  induction k with
  | zero => simp [nbK]
  | succ k ih =>
    have := newestB_len (stK C.i k)
    simp only [nbK, List.length_append]
    omega
def RelS3 (w : World) (X : Nat) (arr : Array Value) (vs vp u0 u1 u2 : Value) (C : Sp.Core) (hd : Bytes) (s x : Value) (wr : World) : Prop :=
  ∃ k : Nat, k ≤ 3 ∧ x = .int .i64 k ∧ s = .string (str (hd ++ nbK C k)) ∧ PutAt w X arr vs vp u0 u1 u2 C wr
theorem PutAt.rowsK {w W : World} {X : Nat} {arr : Array Value} {vs vp u0 u1 u2 : Value} {C : Sp.Core} (h : PutAt w X arr vs vp u0 u1 u2 C W) {k : Nat} (hk : k < 3) : RowsAt W (sel3 k u0 u1 u2) (stK C.i k).rows := by
  have : k = 0 ∨ k = 1 ∨ k = 2 := by omega
  rcases this with rfl | rfl | rfl
  · exact h.r0
  · exact h.r1
  · exact h.r2
theorem coreB_eq (C : Sp.Core) : varB C.l.length ++ C.l.flatMap sagaB ++ varB C.b.l.length ++ C.b.l.flatMap (fun p => textB (postB p)) ++ nbK C 3 = coreB C := by
  simp [coreB, nbK, stK, sel3, List.append_assoc]
theorem post_facts {w : World} {l : List Sp.Posting} {b i : Nat} {p : Sp.Posting} (h : ∀ i x, l[i]? = some x → ∀ j u, (postCells x)[j]? = some u → w.cell? ⟨b, i * 5 + j, none⟩ = some u) (hi : l[i]? = some p) :
    w.cell? ⟨b, i * 5, none⟩ = some (.string (str p.id)) ∧ w.cell? ⟨b, i * 5 + 1, none⟩ = some (.int .i64 p.order) ∧ w.cell? ⟨b, i * 5 + 2, none⟩ = some (.int .i64 p.debit) ∧ w.cell? ⟨b, i * 5 + 3, none⟩ = some (.int .i64 p.credit) ∧ w.cell? ⟨b, i * 5 + 4, none⟩ = some (.int .i64 p.amount) :=
  ⟨h i p hi 0 _ rfl, h i p hi 1 _ rfl, h i p hi 2 _ rfl, h i p hi 3 _ rfl, h i p hi 4 _ rfl⟩
def PutPost (w : World) (C : Sp.Core) (e : Ending) (w' : World) : Prop := e = .returned (.tuple #[.string (str (putB C).1), .int .i64 (putB C).2]) ∧ Below w.heap.size w w'
set_option maxRecDepth 100000 in
set_option maxHeartbeats 4000000 in
theorem put_any (w : World) (base pc pb P Q : Nat) (vl vb v0 v1 v2 : Value) (m : Option Nat) (C : Sp.Core) (h : CoreIs w base pc vl pb vb P Q v0 v1 v2 m C) (hpar : Parties w) :
    Calls Tryz.prog 11 #[.pointer (some ⟨pc, 0, none⟩)] w (PutPost w C) := by
  have HC := Lib.hid h
  have HF := h.orders
  have HP := Lib.hid hpar
  have hFp := h.books.few
  clear h hpar
  go_enter Tryz.func11, Tryz.ntmps11
  go_wp2_with (first
    | (go_at_call 35; refine Calls.mono (coreCopy_any _ _ _ _ _ _ _ _ _ _ _ _ _ HC.out) ?_; rintro e w1 ⟨pc', vl', pb', vb', P', Q', rfl, _, hb1⟩; replace hb1 := Lib.hid hb1)
    | (go_at_call 36; refine Calls.mono (coreParts_any _ _ _ _ _ _ _ _ _ _ _ _ _ (HC.out.below hb1.out)) ?_; rintro e w2 ⟨vs, vp, r0, r1, r2, n0, n1, n2, rfl, hvs, hvp, hr0, hr1, hr2, hb2⟩; replace hvs := Lib.hid hvs; replace hvp := Lib.hid hvp; replace hr0 := Lib.hid hr0; replace hr1 := Lib.hid hr1; replace hr2 := Lib.hid hr2; replace hb2 := Lib.hid hb2; obtain ⟨qs, ks, rfl⟩ := slc_shape hvs.out; obtain ⟨qp, kp, rfl⟩ := slc_shape hvp.out)
    | (go_at_call 18; refine Calls.mono (Var_any _ _ ?_ ?_) ?_; (focus (first | omega | (rw [wrapLen (by omega)]; omega))); (focus (first | omega | (rw [wrapLen (by omega)]; omega))); rintro e w3 ⟨rfl, hb3⟩; (try rw [wrapLen (by omega)]); (try rw [Int.toNat_natCast]); obtain ⟨hc3, hf3, hrr3, hz3⟩ := brow hb3; (try simp at hz3); replace hb3 := Lib.hid hb3))
  have hP0 : PutAt w w2.heap.size #[.slice qs C.l.length ks, .slice qp C.b.l.length kp, .int .i64 C.i.s0.party, .int .i64 C.i.s0.seq, .slice r0 C.i.s0.rows.length n0, .int .i64 C.i.s1.party, .int .i64 C.i.s1.seq, .slice r1 C.i.s1.rows.length n1, .int .i64 C.i.s2.party, .int .i64 C.i.s2.seq, .slice r2 C.i.s2.rows.length n2]
      (.slice qs C.l.length ks) (.slice qp C.b.l.length kp) (.slice r0 C.i.s0.rows.length n0) (.slice r1 C.i.s1.rows.length n1) (.slice r2 C.i.s2.rows.length n2) C w3 := by
    have h2 : Below w.heap.size w w2 := hb1.out.trans (hb2.out.mono hb1.out.size)
    have h3 := hb3.out
    exact PutAt.keep (W := w2.alloc _) ⟨h2.trans ((alloc_grew _ _).mono h2.size), heap_at rfl, hvs.out.mono (alloc_grew _ _), hvp.out.mono (alloc_grew _ _), hr0.out.mono (alloc_grew _ _), hr1.out.mono (alloc_grew _ _), hr2.out.mono (alloc_grew _ _), Parties.grew HP.out (h2.trans ((alloc_grew _ _).mono h2.size))⟩ h3
  clear hc3 hf3 hrr3
  obtain ⟨X, hX⟩ : ∃ X, X = w2.heap.size := ⟨_, rfl⟩
  obtain ⟨arr, harr⟩ : ∃ arr : Array Value, Hid (arr = #[.slice qs C.l.length ks, .slice qp C.b.l.length kp, .int .i64 C.i.s0.party, .int .i64 C.i.s0.seq, .slice r0 C.i.s0.rows.length n0, .int .i64 C.i.s1.party, .int .i64 C.i.s1.seq, .slice r1 C.i.s1.rows.length n1, .int .i64 C.i.s2.party, .int .i64 C.i.s2.seq, .slice r2 C.i.s2.rows.length n2]) := ⟨_, rfl⟩
  rw [← harr.out] at hP0
  rw [← hX] at hP0 ⊢
  have hXl : X < w3.heap.size := by omega
  clear hX hz3 hb1 hb2 hb3 hvs hvp hr0 hr1 hr2
  have hck := Lib.hid HC.out.checked
  have hpi := Lib.hid HC.out.books.posts
  go_loopw [5, 26] (fun s x wr => RelS1 w X arr (.slice qs C.l.length ks) (.slice qp C.b.l.length kp) (.slice r0 C.i.s0.rows.length n0) (.slice r1 C.i.s1.rows.length n1) (.slice r2 C.i.s2.rows.length n2) C s x wr) (fun _ x _ => (C.l.length : Nat) - (intOf x).toNat)
  case atStart => exact ⟨0, by omega, rfl, by simp, hP0⟩
  case round =>
    obtain ⟨i, hi, rfl, rfl, hPA⟩ := hrel
    have hacc := acc1_len hck.out HF i
    by_cases hlt : i < C.l.length
    · obtain ⟨s, hs⟩ : ∃ s, C.l[i]? = some s := ⟨_, List.getElem?_eq_getElem hlt⟩
      have hso := hck.out s (List.mem_of_getElem? hs)
      have htk := Lib.hid (take_flat (f := sagaB) hs)
      rcases hPA.sagas with ⟨_, h0⟩ | ⟨b, cap, e, hcap, hb, hcells⟩
      · rw [h0] at hlt; simp at hlt
      · cases e
        obtain ⟨g0, g1, g2, g3, g4, g5, g6, g7, g8, g9, g10, g11⟩ := saga_facts hcells (Below.refl _ _) hs
        have L1 := orderB_len hso
        have L2 := textB_len (s := orderB s.o) (by omega)
        have hr16 : s.o.ref.length ≤ 16 ∧ s.o.sku.length ≤ 8 := order_len hso
        have hdr := deedsN_range s
        have L3 := varB_len64 (n := (deedsN s).toNat) (by omega)
        generalize hgo : varB C.l.length ++ (C.l.take i).flatMap sagaB = acc at hacc ⊢
        replace hgo := Lib.hid hgo
        have hSg := Lib.hid (show sagaB s = textB (orderB s.o) ++ varB (deedsN s).toNat from rfl)
        have HO := Lib.hid (fun W => orderPut_any s.o W (by omega) (by omega))
        have HD := Lib.hid (fun W => deeds_any s W)
        have A1 : (9223372036854775807 < (textB (orderB s.o)).length + (varB (deedsN s).toNat).length) = False := eq_false (by omega)
        have A2 : (9223372036854775807 < acc.length + ((textB (orderB s.o)).length + (varB (deedsN s).toNat).length)) = False := eq_false (by omega)
        have hdr1 := Lib.hid hdr.1
        have hdr2 := Lib.hid hdr.2
        have hL4 := Lib.hid (show (orderB s.o).length ≤ 4611686018427387904 by omega)
        have hPA' := Lib.hid hPA
        clear hdr L1 L2 L3 hacc hr16 hPA hcells hs hso
        obtain ⟨⟨id, ref, sku, qty, amount⟩, d0, d1, d2, d3, d4, d5, cancel⟩ := s
        simp only at g0 g1 g2 g3 g4 g5 g6 g7 g8 g9 g10 g11 HO
        simp only [orderVal] at HO
        simp only [sagaVal] at HD
        generalize orderB ⟨id, ref, sku, qty, amount⟩ = ob at HO hSg A1 A2 hL4
        generalize deedsN ⟨⟨id, ref, sku, qty, amount⟩, d0, d1, d2, d3, d4, d5, cancel⟩ = dn at HD hSg A1 A2 hdr1 hdr2
        replace HO := Lib.hid HO
        replace HD := Lib.hid HD
        go_wp2
        have hN := held12_new (W := wr) (t := 89) ⟨⟨id, ref, sku, qty, amount⟩, d0, d1, d2, d3, d4, d5, cancel⟩
        simp only at hN
        replace hN := Lib.hid hN
        go_region_held3 (fun W' => W'.cell? ⟨wr.heap.size, 0, none⟩ = some (.int .i64 id) ∧ W'.cell? ⟨wr.heap.size, 1, none⟩ = some (.string (str ref)) ∧ W'.cell? ⟨wr.heap.size, 2, none⟩ = some (.string (str sku)) ∧ W'.cell? ⟨wr.heap.size, 3, none⟩ = some (.int .i64 qty) ∧ W'.cell? ⟨wr.heap.size, 4, none⟩ = some (.int .i64 amount) ∧ W'.cell? ⟨wr.heap.size, 5, none⟩ = some (.int .i64 d0) ∧ W'.cell? ⟨wr.heap.size, 6, none⟩ = some (.int .i64 d1) ∧ W'.cell? ⟨wr.heap.size, 7, none⟩ = some (.int .i64 d2) ∧ W'.cell? ⟨wr.heap.size, 8, none⟩ = some (.int .i64 d3) ∧ W'.cell? ⟨wr.heap.size, 9, none⟩ = some (.int .i64 d4) ∧ W'.cell? ⟨wr.heap.size, 10, none⟩ = some (.int .i64 d5) ∧ W'.cell? ⟨wr.heap.size, 11, none⟩ = some (.bool cancel) ∧ Hid (Below wr.heap.size wr W'))
          (first | exact hN.out | exact held12 (s := ⟨⟨id, ref, sku, qty, amount⟩, d0, d1, d2, d3, d4, d5, cancel⟩) (by assumption) (by assumption) | assumption)
          (first
            | (go_at_call 17; refine Calls.mono (HO.out _) ?_; rintro e wa ⟨rfl, hba⟩)
            | (go_at_call 16; refine Calls.mono (Text_any _ _ hL4.out) ?_; rintro e wb ⟨rfl, hbb⟩)
            | (go_at_call 37; refine Calls.mono (HD.out _) ?_; rintro e wc ⟨rfl, hbc⟩)
            | (go_at_call 18; refine Calls.mono (Var_any _ _ hdr1.out hdr2.out) ?_; rintro e wd ⟨rfl, hbd⟩))
        rename_i hHeld
        have hlow := Lib.hid (held12_low (s := ⟨⟨id, ref, sku, qty, amount⟩, d0, d1, d2, d3, d4, d5, cancel⟩) hHeld)
        go_wp2
        refine ⟨⟨i + 1, by omega, by go_num, ?_, hPA'.out.keep hlow.out⟩, by simp [intOf]; omega⟩
        rw [htk.out, hSg.out, ← hgo.out]
        simp only [List.append_assoc]
    · obtain rfl : i = C.l.length := by omega
      rw [List.take_length] at hacc ⊢
      generalize hgo : varB C.l.length ++ C.l.flatMap sagaB = acc at hacc ⊢
      replace hgo := Lib.hid hgo
      have hbx := cells_at hPA.box
      rw [harr.out] at hbx
      have L1 := varB_len64 (n := C.b.l.length) (by omega)
      have A1 : (9223372036854775807 < acc.length + (varB C.b.l.length).length) = False := eq_false (by omega)
      have hXr := (Array.getElem?_eq_some_iff.1 hPA.box).1
      replace hPA := Lib.hid hPA
      replace hacc := Lib.hid hacc
      replace L1 := Lib.hid L1
      go_wp2_with (go_at_call 18; refine Calls.mono (Var_any _ _ ?_ ?_) ?_; (focus (first | omega | (rw [wrapLen (by omega)]; omega))); (focus (first | omega | (rw [wrapLen (by omega)]; omega))); rintro e w4 ⟨rfl, hb4⟩; (try rw [wrapLen (by omega)]); (try rw [Int.toNat_natCast]); have hbx4 := cells_at (heap_below hb4 hPA.out.box); rw [harr.out] at hbx4; replace hb4 := Lib.hid hb4)
      have hPA4 := hPA.out.keep hb4.out
      have hhl : (acc ++ varB C.b.l.length).length ≤ 8000 := by
        have := hacc.out; have := L1.out; rw [List.length_append]; omega
      generalize hgo2 : acc ++ varB C.b.l.length = hd at hhl ⊢
      replace hgo2 := Lib.hid hgo2
      clear hbx4 hPA hb4 A1 hacc L1 hbx
      go_loopw [5, 51] (fun s x wr => RelS2 w X arr (.slice qs C.l.length ks) (.slice qp C.b.l.length kp) (.slice r0 C.i.s0.rows.length n0) (.slice r1 C.i.s1.rows.length n1) (.slice r2 C.i.s2.rows.length n2) C hd s x wr) (fun _ x _ => (C.b.l.length : Nat) - (intOf x).toNat)
      case atStart => exact ⟨0, by omega, rfl, by simp, hPA4⟩
      case round =>
        obtain ⟨i, hi, rfl, rfl, hPA⟩ := hrel
        have hacc := acc2_len hpi.out hFp i
        by_cases hlt : i < C.b.l.length
        · obtain ⟨p, hp⟩ : ∃ p, C.b.l[i]? = some p := ⟨_, List.getElem?_eq_getElem hlt⟩
          have hpp := hpi.out p (List.mem_of_getElem? hp)
          have htk := Lib.hid (take_flat (f := fun p => textB (postB p)) hp)
          rcases hPA.posts with ⟨_, h0⟩ | ⟨b, cap, e, hcap, hb, hcells⟩
          · rw [h0] at hlt; simp at hlt
          · cases e
            obtain ⟨g0, g1, g2, g3, g4⟩ := post_facts hcells hp
            have L1 := postB_len hpp
            have L2 := textB_len (s := postB p) (by omega)
            have HPo := fun W => posting_any p W (by have := hpp.id; omega) hpp.amount
            have A1 : (9223372036854775807 < (hd ++ (C.b.l.take i).flatMap (fun p => textB (postB p))).length + (textB (postB p)).length) = False := eq_false (by rw [List.length_append]; omega)
            generalize hgo3 : hd ++ (C.b.l.take i).flatMap (fun p => textB (postB p)) = ac2 at A1 ⊢
            replace hgo3 := Lib.hid hgo3
            have hL4 := Lib.hid (show (postB p).length ≤ 4611686018427387904 by omega)
            have hPA' := Lib.hid hPA
            clear L1 L2 hacc hPA hcells hp hpp
            obtain ⟨id, order, debit, credit, amount⟩ := p
            simp only at g0 g1 g2 g3 g4
            simp only [postVal] at HPo
            generalize postB ⟨id, order, debit, credit, amount⟩ = ob at HPo A1 hL4 htk
            replace HPo := Lib.hid HPo
            go_wp2_with (first
              | (go_at_call 38; refine Calls.mono (HPo.out _) ?_; rintro e wa ⟨rfl, hba⟩; have hza := hba.size; (try simp at hza); replace hba := Lib.hid hba)
              | (go_at_call 16; refine Calls.mono (Text_any _ _ hL4.out) ?_; rintro e wb ⟨rfl, hbb⟩; have hzb := hbb.size; replace hbb := Lib.hid hbb))
            have hlow : Below wr.heap.size wr wb := (Below.trans (alloc_grew _ _) (hba.out.mono (by simp))).trans (hbb.out.mono (by omega))
            refine ⟨⟨i + 1, by omega, by go_num, ?_, hPA'.out.keep hlow⟩, by simp [intOf]; omega⟩
            rw [htk.out, ← hgo3.out]
            simp only [List.append_assoc]
        · obtain rfl : i = C.b.l.length := by omega
          rw [List.take_length] at hacc ⊢
          have hhl2 : (hd ++ C.b.l.flatMap (fun p => textB (postB p))).length ≤ 2000000000000 := by rw [List.length_append]; omega
          generalize hgo4 : hd ++ C.b.l.flatMap (fun p => textB (postB p)) = hd3 at hhl2 ⊢
          replace hgo4 := Lib.hid hgo4
          have hbx := cells_at hPA.box
          rw [harr.out] at hbx
          have hXr := (Array.getElem?_eq_some_iff.1 hPA.box).1
          replace hPA := Lib.hid hPA
          clear hacc
          go_wp2
          clear hbx
          go_loopw [5, 63] (fun s x wr => RelS3 w X arr (.slice qs C.l.length ks) (.slice qp C.b.l.length kp) (.slice r0 C.i.s0.rows.length n0) (.slice r1 C.i.s1.rows.length n1) (.slice r2 C.i.s2.rows.length n2) C hd3 s x wr) (fun _ x _ => (3 - intOf x).toNat)
          case atStart => exact ⟨0, by omega, rfl, by simp [nbK], hPA.out⟩
          case round =>
            obtain ⟨k, hk, rfl, rfl, hPB⟩ := hrel
            have hnl := nbK_len C k
            by_cases hk3 : k < 3
            · have hidx := idx9 C.i.s0.party C.i.s0.seq (.slice r0 C.i.s0.rows.length n0) C.i.s1.party C.i.s1.seq (.slice r1 C.i.s1.rows.length n1) C.i.s2.party C.i.s2.seq (.slice r2 C.i.s2.rows.length n2) hk3
              have hR := hPB.rowsK hk3
              obtain ⟨qk, ck, eK⟩ := slc_shape hR
              rw [eK] at hidx hR
              have hpk : sel3 k C.i.s0.party C.i.s1.party C.i.s2.party = (stK C.i k).party := sel_party _ hk3
              have hsk : sel3 k C.i.s0.seq C.i.s1.seq C.i.s2.seq = (stK C.i k).seq := sel_seq _ hk3
              rw [hpk, hsk] at hidx
              have hnx : Hid (nbK C (k + 1) = nbK C k ++ newestB (stK C.i k)) := Lib.hid rfl
              have hnB := newestB_len (stK C.i k)
              have hA1 : (9223372036854775807 < (hd3 ++ nbK C k).length + (newestB (stK C.i k)).length) = False := eq_false (by rw [List.length_append]; omega)
              have hnd : Hid (newestB (stK C.i k) = textB (if 0 < (stK C.i k).seq then stmtB (stK C.i k).party (stK C.i k).seq (stK C.i k).rows else [])) := Lib.hid rfl
              have hsl := Lib.hid (stmtB_len (stK C.i k).party (stK C.i k).seq (stK C.i k).rows)
              generalize hgo5 : hd3 ++ nbK C k = ac3 at hA1 ⊢
              replace hgo5 := Lib.hid hgo5
              have hPB' := Lib.hid hPB
              have hRR := Lib.hid hR
              have hPar := Lib.hid hPB.par
              clear hnl hpk hsk hR hPB hnB
              generalize stK C.i k = st at hidx hnx hnd hsl hA1 hRR
              obtain ⟨party, seq, rows⟩ := st
              simp only at hidx hnx hnd hsl hA1 hRR
              by_cases hsq : 0 < seq
              · have hnd2 := hnd.out
                rw [if_pos hsq] at hnd2
                rw [hnd2] at hA1
                replace hnd2 := Lib.hid hnd2
                go_wp2_with (first
                  | (go_at_call 39; refine Calls.mono (rowsPut_any party seq _ rows _ (Parties.grew hPar.out (alloc_grew _ _)) (hRR.out.mono (alloc_grew _ _))) ?_; rintro e wa ⟨rfl, hba⟩; have hza := hba.size; (try simp at hza); replace hba := Lib.hid hba)
                  | (go_at_call 16; refine Calls.mono (Text_any _ _ (by have := hsl.out; omega)) ?_; rintro e wb ⟨rfl, hbb⟩; have hzb := hbb.size; replace hbb := Lib.hid hbb))
                have hlow : Below wr.heap.size wr wb := (Below.trans (alloc_grew _ _) (hba.out.mono (by simp))).trans (hbb.out.mono (by omega))
                refine ⟨⟨k + 1, by omega, by go_num, ?_, hPB'.out.keep hlow⟩, by simp [intOf]; omega⟩
                rw [hnx.out, hnd2.out, ← hgo5.out]
                simp only [List.append_assoc]
              · have hnd2 := hnd.out
                rw [if_neg hsq] at hnd2
                rw [hnd2] at hA1
                replace hnd2 := Lib.hid hnd2
                go_wp2_with (go_at_call 16; refine Calls.mono (Text_any [] _ (by simp)) ?_; rintro e wb ⟨rfl, hbb⟩; have hzb := hbb.size; replace hbb := Lib.hid hbb)
                have hlow : Below wr.heap.size wr wb := Below.trans (alloc_grew _ _) (hbb.out.mono (by simp))
                refine ⟨⟨k + 1, by omega, by go_num, ?_, hPB'.out.keep hlow⟩, by simp [intOf]; omega⟩
                rw [hnx.out, hnd2.out, ← hgo5.out]
                simp only [List.append_assoc]
            · obtain rfl : k = 3 := by omega
              have hcB : hd3 ++ nbK C 3 = coreB C := by rw [← hgo4.out, ← hgo2.out, ← hgo.out]; exact coreB_eq C
              rw [hcB]
              have hcl : (coreB C).length ≤ 3000000000000 := by rw [← hcB, List.length_append]; omega
              have hlowF := Lib.hid hPB.low
              have hpB : Hid (putB C = if (coreB C).length > 65536 then ([], 3) else (coreB C, 0)) := Lib.hid rfl
              clear hnl hPB hcB
              generalize coreB C = cb at hcl hpB ⊢
              by_cases hgt : cb.length > 65536
              · have hp2 := hpB.out
                rw [if_pos hgt] at hp2
                replace hp2 := Lib.hid hp2
                go_wp2
                go_ret2
                exact ⟨by rw [hp2.out]; rfl, hlowF.out⟩
              · have hp2 := hpB.out
                rw [if_neg hgt] at hp2
                replace hp2 := Lib.hid hp2
                go_wp2
                go_ret2
                exact ⟨by rw [hp2.out]; rfl, hlowF.out⟩
end Go.Proofs.YtkgpnikmdmpfaaaGreatDoor

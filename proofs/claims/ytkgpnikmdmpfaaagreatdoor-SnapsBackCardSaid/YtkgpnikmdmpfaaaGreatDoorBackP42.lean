/-
  The row's argument opened: entries in memory.
-/
import Derived.Test.YtkgpnikmdmpfaaaGreatDoorBackP32
import Derived.Deep.Slices
set_option linter.unusedVariables false
namespace Go.Proofs.YtkgpnikmdmpfaaaGreatDoor
open Go.RowKit Go.Maps Go.ChangeShapes Go.WideShapes Go.Deep

theorem add_any' (b off n : Nat) : (⟨b, off, none⟩ : Addr).add n = ⟨b, off + n, none⟩ := by
  unfold Addr.add
  by_cases h : n = 0 <;> simp [h]
section
variable {H : Type} {enc : TypeId × Value → H} {w : World} {base : Nat} {spare : Nat → Bool} {held : Bool}
theorem Lo.nth {α : Type} {xs : List α} {n i : Nat} (h : xs.length = n) (hi : i < n) : ∃ y, xs[i]? = some y := ⟨_, List.getElem?_eq_getElem (by omega)⟩
theorem Lo.int {n : Nat} {cs : List Value} {x : DataW H × List MemPlace} {t : TypeId} (ht : Tryz.prog.underlying t = some (.int .i64)) (h : DataW.trod enc Tryz.prog w base spare held n t cs = some x) : ∃ k : Int, cs = [.int .i64 k] ∧ k ≤ 9223372036854775807 := by
  obtain ⟨k, h1, _, h2⟩ := DataW.trod_int ht h
  refine ⟨k, h1, ?_⟩
  simp [Lit.wf] at h2
  omega
theorem Lo.string {n : Nat} {cs : List Value} {x : DataW H × List MemPlace} (h : DataW.trod enc Tryz.prog w base spare held n 9 cs = some x) : ∃ s : Bytes, cs = [.string (str s)] ∧ s.length ≤ 9223372036854775807 := by
  obtain ⟨s, h1, _, h2⟩ := DataW.trod_string Tryz.underlying9 h
  refine ⟨s.data.toList, by rw [← str_of s]; exact h1, ?_⟩
  have h3 : s.data.toList.length = s.size := by rw [Array.length_toList]; rfl
  have h4 : maxLen = 9223372036854775807 := by decide
  omega
theorem Lo.field {fs : Array Field} {k : Nat} {cs : List Value} {xs : List (DataW H × List MemPlace)} (hf : ∀ (i : Nat) (f : Field), fs[i]? = some f → DataW.trod enc Tryz.prog w base spare held k f.type ((cs.drop f.offset).take (Tryz.prog.cellsOf f.type)) = xs[i]?)
    (hx : xs.length = fs.size) (i : Nat) {f : Field} (hi : fs[i]? = some f) {t : TypeId} {off c : Nat} (ht : f.type = t) (ho : f.offset = off) (hc : Tryz.prog.cellsOf t = c) : ∃ y, DataW.trod enc Tryz.prog w base spare held k t ((cs.drop off).take c) = some y := by
  have h := hf i f hi
  rw [ht, ho, hc] at h
  obtain ⟨hlt, _⟩ := Array.getElem?_eq_some_iff.1 hi
  exact ⟨xs[i], by rw [h]; exact List.getElem?_eq_getElem (by omega)⟩
theorem Lo.c1 : Tryz.prog.cellsOf 3 = 1 := by kernel_rfl
theorem Lo.c2 : Tryz.prog.cellsOf 34 = 2 := by kernel_rfl
set_option maxRecDepth 100000 in
theorem Lo.key {n : Nat} {cs : List Value} {x : DataW H × List MemPlace} (h : DataW.trod enc Tryz.prog w base spare held n 34 cs = some x) : ∃ o d : Int, cs = [.int .i64 o, .int .i64 d] := by
  obtain ⟨xs, k, _, _, hl, hx, hf⟩ := DataW.trod_struct Tryz.underlying34 h
  rw [Lo.c2] at hl
  match cs, hl with
  | [a, b], _ =>
    obtain ⟨y0, g0⟩ := Lo.field hf hx 0 rfl rfl rfl Lo.c1
    obtain ⟨y1, g1⟩ := Lo.field hf hx 1 rfl rfl rfl Lo.c1
    obtain ⟨o, e0, _⟩ := Lo.int Tryz.underlying3 g0
    obtain ⟨d, e1, _⟩ := Lo.int Tryz.underlying3 g1
    simp at e0 e1
    subst e0 e1
    exact ⟨o, d, rfl⟩
theorem Lo.c5r : Tryz.prog.cellsOf 127 = 5 := by kernel_rfl
set_option maxRecDepth 100000 in
theorem Lo.row {n : Nat} {cs : List Value} {x : DataW H × List MemPlace} (h : DataW.trod enc Tryz.prog w base spare held n 127 cs = some x) : ∃ r : Sp.Row, cs = rowCells r := by
  obtain ⟨xs, k, _, _, hl, hx, hf⟩ := DataW.trod_struct Tryz.underlying127 h
  rw [Lo.c5r] at hl
  match cs, hl with
  | [a, b, c, d, e], _ =>
    obtain ⟨y0, g0⟩ := Lo.field hf hx 0 rfl rfl rfl Lo.c2
    obtain ⟨y1, g1⟩ := Lo.field hf hx 1 rfl rfl rfl Lo.c1
    obtain ⟨y2, g2⟩ := Lo.field (c := 1) hf hx 2 rfl rfl rfl (by kernel_rfl)
    obtain ⟨y3, g3⟩ := Lo.field hf hx 3 rfl rfl rfl Lo.c1
    obtain ⟨o, dd, e0⟩ := Lo.key g0
    obtain ⟨q1, e1, _⟩ := Lo.int Tryz.underlying3 g1
    obtain ⟨q2, e2, _⟩ := Lo.int (by kernel_rfl) g2
    obtain ⟨q3, e3, _⟩ := Lo.int Tryz.underlying3 g3
    simp at e0 e1 e2 e3
    obtain ⟨rfl, rfl⟩ := e0
    subst e1 e2 e3
    exact ⟨{ order := o, deed := dd, code := q1, amount := q2, qty := q3 }, rfl⟩
/-- A slice of structs opened: whatever the elements are. -/
theorem Lo.slice {α : Type} [Inhabited α] {f : α → List Value} {p : α → Prop} {size n : Nat} {t e : TypeId} {cs : List Value} {x : DataW H × List MemPlace} (ht : Tryz.prog.underlying t = some (.slice e)) (hc : Tryz.prog.cellsOf e = size) (hpos : 0 < size)
    (hel : ∀ (n : Nat) cs x, DataW.trod enc Tryz.prog w base spare held n e cs = some x → ∃ y, cs = f y ∧ p y) (h : DataW.trod enc Tryz.prog w base spare held n t cs = some x) :
    ∃ v l, cs = [v] ∧ SlcA f size w v l ∧ l.length ≤ maxLen ∧ ∀ y ∈ l, p y := by
  rcases open_slice ht h with ⟨rfl, _⟩ | ⟨a, len, cap, m, n', D, Pl, rfl, _, hlc, hcm, hm, _, hx⟩
  · exact ⟨_, [], rfl, .inl ⟨rfl, _, _, rfl, fun _ => rfl⟩, by simp, by simp⟩
  · have hlm : len ≤ m := by rw [hm]; split <;> omega
    have each : ∀ i, i < len → ∃ y : α, w.cells? base (a.add (i * size)) size = some (f y) ∧ p y := fun i hi => by
      obtain ⟨cs', h1, h2⟩ := hx i (by omega)
      obtain ⟨y, rfl, hp⟩ := hel _ _ _ h2
      rw [hc] at h1
      exact ⟨y, h1, hp⟩
    obtain ⟨g, hg⟩ := choose_lt each
    refine ⟨_, (List.range len).map g, rfl, ?_, by simp; omega, fun y hy => ?_⟩
    · by_cases h0 : len = 0
      · subst h0
        exact .inl ⟨rfl, _, _, rfl, fun h => by cases h⟩
      · obtain ⟨b, off, spot⟩ := a
        have hcell : ∀ i, i < len → ∀ j u, (f (g i))[j]? = some u → w.cell? ((⟨b, off, spot⟩ : Addr).add (i * size + j)) = some u := fun i hi j u hu => by
          obtain ⟨_, hlen, hcl⟩ := World.cells?_some (hg i hi).1
          have hj : j < size := by have := (List.getElem?_eq_some_iff.1 hu).1; omega
          have := hcl j hj
          rw [add_add] at this
          rw [this, hu]
        obtain ⟨u0, hu0⟩ : ∃ u, (f (g 0))[0]? = some u := by
          obtain ⟨_, hlen, _⟩ := World.cells?_some (hg 0 (by omega)).1
          exact ⟨_, List.getElem?_eq_getElem (by omega)⟩
        have h00 := hcell 0 (by omega) 0 u0 hu0
        have hb := World.block_lt_of_cell? w _ h00
        have hsp : spot = none := by
          cases spot with
          | none => rfl
          | some k => simp [Addr.add, World.cell?] at h00; split at h00 <;> simp at h00
        subst hsp
        refine .inr ⟨b, off, cap, by simp, by simpa using hlc, by simpa [Addr.add] using hb, fun i x hx j u hu => ?_⟩
        have hi : i < len := by have := (List.getElem?_eq_some_iff.1 hx).1; simpa using this
        simp [hi] at hx
        subst hx
        have := hcell i hi j u hu
        rwa [show (⟨b, off, none⟩ : Addr).add (i * size + j) = ⟨b, off + (i * size + j), none⟩ from add_any' _ _ _] at this
    · obtain ⟨i, hi, rfl⟩ := List.mem_map.1 hy
      exact (hg i (List.mem_range.1 hi)).2
instance : Inhabited Sp.Row := ⟨{ order := 0, deed := 0, code := 0, amount := 0, qty := 0 }⟩
theorem Lo.rows {n : Nat} {cs : List Value} {x : DataW H × List MemPlace} (h : DataW.trod enc Tryz.prog w base spare held n 35 cs = some x) : ∃ v l, cs = [v] ∧ RowsArg w v l := by
  obtain ⟨v, l, h1, h2, _⟩ := Lo.slice (f := rowCells) (p := fun _ => True) Tryz.underlying35 Lo.c5r (by decide) (fun _ _ _ h => (Lo.row h).imp fun _ e => ⟨e, trivial⟩) h
  exact ⟨v, l, h1, h2⟩
theorem Lo.c5o : Tryz.prog.cellsOf 32 = 5 := by kernel_rfl
theorem Lo.c3 : Tryz.prog.cellsOf 37 = 3 := by kernel_rfl
theorem Lo.c12 : Tryz.prog.cellsOf 39 = 12 := by kernel_rfl
theorem Lo.cs1 : Tryz.prog.cellsOf 9 = 1 := by kernel_rfl
set_option maxRecDepth 100000 in
theorem Lo.order {n : Nat} {cs : List Value} {x : DataW H × List MemPlace} (h : DataW.trod enc Tryz.prog w base spare held n 32 cs = some x) : ∃ o : Sp.Order, cs = [.int .i64 o.id, .string (str o.ref), .string (str o.sku), .int .i64 o.qty, .int .i64 o.amount] ∧ o.ref.length ≤ 9223372036854775807 ∧ o.sku.length ≤ 9223372036854775807 := by
  obtain ⟨xs, k, _, _, hl, hx, hf⟩ := DataW.trod_struct Tryz.underlying32 h
  rw [Lo.c5o] at hl
  match cs, hl with
  | [a, b, c, d, e], _ =>
    obtain ⟨y0, g0⟩ := Lo.field hf hx 0 rfl rfl rfl Lo.c1
    obtain ⟨y1, g1⟩ := Lo.field hf hx 1 rfl rfl rfl Lo.cs1
    obtain ⟨y2, g2⟩ := Lo.field hf hx 2 rfl rfl rfl Lo.cs1
    obtain ⟨y3, g3⟩ := Lo.field hf hx 3 rfl rfl rfl Lo.c1
    obtain ⟨y4, g4⟩ := Lo.field (c := 1) hf hx 4 rfl rfl rfl (by kernel_rfl)
    obtain ⟨q0, e0, _⟩ := Lo.int Tryz.underlying3 g0
    obtain ⟨q1, e1, b1⟩ := Lo.string g1
    obtain ⟨q2, e2, b2⟩ := Lo.string g2
    obtain ⟨q3, e3, _⟩ := Lo.int Tryz.underlying3 g3
    obtain ⟨q4, e4, _⟩ := Lo.int (by kernel_rfl) g4
    simp at e0 e1 e2 e3 e4
    subst e0 e1 e2 e3 e4
    exact ⟨⟨q0, q1, q2, q3, q4⟩, rfl, b1, b2⟩
set_option maxRecDepth 100000 in
theorem Lo.stmt {n : Nat} {cs : List Value} {x : DataW H × List MemPlace} (h : DataW.trod enc Tryz.prog w base spare held n 37 cs = some x) : ∃ (s : Sp.Stmt) (v : Value), cs = [.int .i64 s.party, .int .i64 s.seq, v] ∧ RowsArg w v s.rows ∧ s.seq ≤ 9223372036854775807 := by
  obtain ⟨xs, k, _, _, hl, hx, hf⟩ := DataW.trod_struct Tryz.underlying37 h
  rw [Lo.c3] at hl
  match cs, hl with
  | [a, b, c], _ =>
    obtain ⟨y0, g0⟩ := Lo.field hf hx 0 rfl rfl rfl Lo.c1
    obtain ⟨y1, g1⟩ := Lo.field hf hx 1 rfl rfl rfl Lo.c1
    obtain ⟨y2, g2⟩ := Lo.field (c := 1) hf hx 2 rfl rfl rfl (by kernel_rfl)
    obtain ⟨q0, e0, _⟩ := Lo.int Tryz.underlying3 g0
    obtain ⟨q1, e1, b1⟩ := Lo.int Tryz.underlying3 g1
    obtain ⟨v, l, e2, hr⟩ := Lo.rows g2
    simp at e0 e1 e2
    subst e0 e1 e2
    exact ⟨⟨q0, q1, l⟩, c, rfl, hr, b1⟩
set_option maxRecDepth 100000 in
theorem Lo.ent {n : Nat} {cs : List Value} {x : DataW H × List MemPlace} (h : DataW.trod enc Tryz.prog w base spare held n 39 cs = some x) : ∃ y : Ent, cs = entCells y ∧ RowsArg w y.2 y.1.st.rows ∧ y.1.o.ref.length ≤ 9223372036854775807 ∧ y.1.o.sku.length ≤ 9223372036854775807 ∧ y.1.st.seq ≤ 9223372036854775807 := by
  obtain ⟨xs, k, _, _, hl, hx, hf⟩ := DataW.trod_struct Tryz.underlying39 h
  rw [Lo.c12] at hl
  match cs, hl with
  | [a0, a1, a2, a3, a4, a5, a6, a7, a8, a9, a10, a11], _ =>
    obtain ⟨y0, g0⟩ := Lo.field hf hx 0 rfl rfl rfl Lo.c1
    obtain ⟨y1, g1⟩ := Lo.field hf hx 1 rfl rfl rfl Lo.c5o
    obtain ⟨y2, g2⟩ := Lo.field hf hx 2 rfl rfl rfl Lo.c2
    obtain ⟨y3, g3⟩ := Lo.field hf hx 3 rfl rfl rfl Lo.c1
    obtain ⟨y4, g4⟩ := Lo.field hf hx 4 rfl rfl rfl Lo.c3
    obtain ⟨q0, e0, _⟩ := Lo.int Tryz.underlying3 g0
    obtain ⟨o, e1, b1, b2⟩ := Lo.order g1
    obtain ⟨ko, kd, e2⟩ := Lo.key g2
    obtain ⟨q3, e3, _⟩ := Lo.int Tryz.underlying3 g3
    obtain ⟨s, v, e4, hr, hs⟩ := Lo.stmt g4
    simp at e0 e1 e2 e3 e4
    obtain ⟨rfl, rfl, rfl, rfl, rfl⟩ := e1
    obtain ⟨rfl, rfl⟩ := e2
    obtain ⟨rfl, rfl, rfl⟩ := e4
    subst e0 e3
    exact ⟨(⟨q0, o, ko, kd, q3, s⟩, _), rfl, hr, b1, b2, hs⟩
instance : Inhabited Ent := ⟨(⟨0, ⟨0, [], [], 0, 0⟩, 0, 0, 0, ⟨0, 0, []⟩⟩, .slice none 0 0)⟩
theorem Lo.ents {n : Nat} {cs : List Value} {x : DataW H × List MemPlace} (h : DataW.trod enc Tryz.prog w base spare held n 22 cs = some x) : ∃ v l, cs = [v] ∧ SlcA entCells 12 w v l ∧ l.length ≤ maxLen ∧ ∀ y ∈ l, RowsArg w y.2 y.1.st.rows ∧ y.1.o.ref.length ≤ 9223372036854775807 ∧ y.1.o.sku.length ≤ 9223372036854775807 ∧ y.1.st.seq ≤ 9223372036854775807 :=
  Lo.slice (f := entCells) Tryz.underlying22 Lo.c12 (by decide) (fun _ _ _ h => Lo.ent h) h
end
end Go.Proofs.YtkgpnikmdmpfaaaGreatDoor

/-
  Package core: New, none, has.
-/
import Derived.Test.YtkgpnikmdmpfaaaGreatDoorBackP20
import Derived.Test.YtkgpnikmdmpfaaaGreatDoorBackP18
set_option linter.unusedVariables false
set_option linter.unusedSimpArgs false
namespace Go.Proofs.YtkgpnikmdmpfaaaGreatDoor
open Go.RowKit Go.Maps

def sagaCells (s : Sp.Saga) : List Value := [.int .i64 s.o.id, .string (str s.o.ref), .string (str s.o.sku), .int .i64 s.o.qty, .int .i64 s.o.amount, .int .i64 s.d0, .int .i64 s.d1, .int .i64 s.d2, .int .i64 s.d3, .int .i64 s.d4, .int .i64 s.d5, .bool s.cancel]
theorem sagaCells_len (s : Sp.Saga) : (sagaCells s).length = 12 := rfl
theorem sagaCells_one (s : Sp.Saga) : ∀ c ∈ sagaCells s, c.oneCell' = true := by simp [sagaCells, Value.oneCell']
abbrev SagasAt := Slc sagaCells 12
theorem info_saga : (Tryz.prog.info? 89).map (fun i => (i.zero, i.size, i.bytes)) = some (some (.agg #[.int .i64 0, .string (str []), .string (str []), .int .i64 0, .int .i64 0, .int .i64 0, .int .i64 0, .int .i64 0, .int .i64 0, .int .i64 0, .int .i64 0, .bool false]), 12, 112) := by kernel_rfl
/-- The core at block pc of w is C; all that it leads to, but rows of statements, lies from base on. -/
structure CoreIs (w : World) (base pc : Nat) (vl : Value) (pb : Nat) (vb : Value) (P Q : Nat) (v0 v1 v2 : Value) (m : Option Nat) (C : Sp.Core) : Prop where
  head : w.heap[pc]? = some (.cells #[vl, .pointer (some ⟨pb, 0, none⟩), .int .i64 C.i.s0.party, .int .i64 C.i.s0.seq, v0, .int .i64 C.i.s1.party, .int .i64 C.i.s1.seq, v1, .int .i64 C.i.s2.party, .int .i64 C.i.s2.seq, v2, .map m] 62 (0, 0))
  own : w.ownsRow base 89 12 vl C.l.length (C.l.flatMap sagaCells)
  books : BooksIs w base pb vb P Q C.b
  inn : InIs w C.i v0 v1 v2 m
  ge : base ≤ pc
  mne : m ≠ some P ∧ m ≠ some Q
  orders : C.l.length ≤ 60
  checked : ∀ s ∈ C.l, Sp.orderCheck s.o = 0
theorem CoreIs.below {w w' : World} {base pc pb P Q : Nat} {vl vb v0 v1 v2 : Value} {m : Option Nat} {C : Sp.Core} (h : CoreIs w base pc vl pb vb P Q v0 v1 v2 m C) (hb : Below w.heap.size w w') : CoreIs w' base pc vl pb vb P Q v0 v1 v2 m C where
  head := (hb.block _ (Array.getElem?_eq_some_iff.1 h.head).1).trans h.head
  own := own_same h.own (fun k hk => hb.block k (by obtain ⟨c, hc⟩ := own_block h.own hk; exact (Array.getElem?_eq_some_iff.1 hc).1))
  books := h.books.below hb
  inn := h.inn.below hb
  ge := h.ge
  mne := h.mne
  orders := h.orders
  checked := h.checked
theorem CoreIs.slc {w : World} {base pc pb P Q : Nat} {vl vb v0 v1 v2 : Value} {m : Option Nat} {C : Sp.Core} (h : CoreIs w base pc vl pb vb P Q v0 v1 v2 m C) : SagasAt w vl C.l := slc_of_own sagaCells_len (by omega) h.own
theorem inIs_none (w : World) : InIs w Sp.noIntake (.slice none 0 0) (.slice none 0 0) (.slice none 0 0) none where
  r0 := rowsO_nil w
  r1 := rowsO_nil w
  r2 := rowsO_nil w
  few := by simp [Sp.noIntake, Sp.noStmt]
  map := ⟨fun b h => by (cases h), fun _ _ _ => rfl⟩
  amt := fun _ _ _ h => by (cases h)
  rok := by simp [Sp.noIntake, Sp.noStmt]

/-- A new core: where it lies. -/
def NewAt (w : World) (pc pb P Q : Nat) (w' : World) : Prop := CoreIs w' w.heap.size pc (.slice none 0 0) pb (.slice none 0 0) P Q (.slice none 0 0) (.slice none 0 0) (.slice none 0 0) none Sp.noCore ∧ Below w.heap.size w w'
set_option maxRecDepth 100000 in
theorem coreNew_any (w : World) : Calls Tryz.prog 7 #[] w fun e w' => ∃ pc pb P Q, e = .returned (.pointer (some ⟨pc, 0, none⟩)) ∧ NewAt w pc pb P Q w' := by
  go_enter Tryz.func7, Tryz.ntmps7
  go_wp2_with (go_at_call 19; refine Calls.mono (booksNew_any _) ?_; rintro e w1 ⟨rfl, hb1, hb2, hb3⟩; replace hb1 := Lib.hid hb1; replace hb2 := Lib.hid hb2)
  go_ret
  refine ⟨_, _, _, _, rfl, ⟨heap_at (by omega), World.ownsRow_nil _ _ _ _, hb1.out.below (alloc_grew _ _), inIs_none _, by omega, by simp, by simp [Sp.noCore], by simp [Sp.noCore]⟩, ?_⟩
  have := hb2.out
  (repeat (first | (with_reducible first | exact zR _ _ | exact zA _ _ | assumption | refine zL ?_ _ | refine zD ?_ | refine zN ?_ _) | ((with_reducible first | refine zC ?_ ?_ _ | refine zW ?_ ?_ _); rotate_left; focus (first | exact Nat.le_refl _ | (simp; done) | (simp; omega) | omega)) | with_reducible refine zT ?_ (by assumption)))
theorem coreNone_no (w : World) (pc : Nat) (p : Addr) (h : w.cell? ⟨pc, 1, none⟩ = some (.pointer (some p))) : Calls Tryz.prog 20 #[.pointer (some ⟨pc, 0, none⟩)] w fun e w' => e = .returned (.bool false) ∧ w = w' := by
  go_enter Tryz.func20, Tryz.ntmps20
  go_wp2
  go_ret
  exact ⟨rfl, rfl⟩
theorem coreNone_yes (w : World) : Calls Tryz.prog 20 #[.pointer none] w fun e w' => e = .returned (.bool true) ∧ w = w' := by
  go_enter Tryz.func20, Tryz.ntmps20
  go_wp2
  go_ret
  exact ⟨rfl, rfl⟩

theorem saga_facts {w w' : World} {l : List Sp.Saga} {b i : Nat} {s : Sp.Saga} (h : ∀ i x, l[i]? = some x → ∀ j u, (sagaCells x)[j]? = some u → w.cell? ⟨b, i * 12 + j, none⟩ = some u) (hb : Below w.heap.size w w') (hi : l[i]? = some s) :
    w'.cell? ⟨b, i * 12, none⟩ = some (.int .i64 s.o.id) ∧ w'.cell? ⟨b, i * 12 + 1, none⟩ = some (.string (str s.o.ref)) ∧ w'.cell? ⟨b, i * 12 + 2, none⟩ = some (.string (str s.o.sku)) ∧ w'.cell? ⟨b, i * 12 + 3, none⟩ = some (.int .i64 s.o.qty) ∧ w'.cell? ⟨b, i * 12 + 4, none⟩ = some (.int .i64 s.o.amount) ∧
    w'.cell? ⟨b, i * 12 + 5, none⟩ = some (.int .i64 s.d0) ∧ w'.cell? ⟨b, i * 12 + 6, none⟩ = some (.int .i64 s.d1) ∧ w'.cell? ⟨b, i * 12 + 7, none⟩ = some (.int .i64 s.d2) ∧ w'.cell? ⟨b, i * 12 + 8, none⟩ = some (.int .i64 s.d3) ∧ w'.cell? ⟨b, i * 12 + 9, none⟩ = some (.int .i64 s.d4) ∧ w'.cell? ⟨b, i * 12 + 10, none⟩ = some (.int .i64 s.d5) ∧ w'.cell? ⟨b, i * 12 + 11, none⟩ = some (.bool s.cancel) :=
  ⟨heldc hb (h i s hi 0 _ rfl), heldc hb (h i s hi 1 _ rfl), heldc hb (h i s hi 2 _ rfl), heldc hb (h i s hi 3 _ rfl), heldc hb (h i s hi 4 _ rfl), heldc hb (h i s hi 5 _ rfl), heldc hb (h i s hi 6 _ rfl), heldc hb (h i s hi 7 _ rfl), heldc hb (h i s hi 8 _ rfl), heldc hb (h i s hi 9 _ rfl), heldc hb (h i s hi 10 _ rfl), heldc hb (h i s hi 11 _ rfl)⟩
def RelHas (w : World) (l : List Sp.Saga) (ref : Bytes) (x : Value) (wr : World) : Prop := ∃ i : Nat, i ≤ l.length ∧ x = .int .i64 i ∧ Sp.hasRef (l.take i) ref = false ∧ Below w.heap.size w wr
theorem hasRef_take {l : List Sp.Saga} {ref : Bytes} {i : Nat} {s : Sp.Saga} (h : l[i]? = some s) : Sp.hasRef (l.take (i + 1)) ref = (Sp.hasRef (l.take i) ref || (s.o.ref == ref)) := by
  obtain ⟨hlt, rfl⟩ := List.getElem?_eq_some_iff.1 h
  rw [List.take_succ_eq_append_getElem hlt]
  unfold Sp.hasRef
  rw [List.any_append]
  simp
theorem hasRef_yes {l : List Sp.Saga} {ref : Bytes} {i : Nat} {s : Sp.Saga} (h : l[i]? = some s) (he : s.o.ref = ref) : Sp.hasRef l ref = true := by
  unfold Sp.hasRef
  exact List.any_eq_true.2 ⟨s, List.mem_of_getElem? h, by simp [he]⟩
set_option maxRecDepth 100000 in
set_option maxHeartbeats 1000000 in
theorem has_any (w : World) (pc : Nat) (vl : Value) (l : List Sp.Saga) (ref : Bytes) (hc : w.cell? ⟨pc, 0, none⟩ = some vl) (hs : SagasAt w vl l) (hll : l.length ≤ 1000000) :
    Calls Tryz.prog 50 #[.pointer (some ⟨pc, 0, none⟩), .string (str ref)] w fun e w' => e = .returned (.bool (Sp.hasRef l ref)) ∧ Below w.heap.size w w' := by
  obtain ⟨q, c, rfl⟩ := slc_shape hs
  have HS := Lib.hid hs
  clear hs
  go_enter Tryz.func50, Tryz.ntmps50
  go_wp2
  go_loopw [12] (fun x wr => RelHas w l ref x wr) (fun x _ => l.length - (intOf x).toNat)
  case atStart => exact ⟨0, by omega, rfl, rfl, Below.refl _ _⟩
  case round =>
    obtain ⟨i, hi, rfl, hno, hB⟩ := hrel
    by_cases hlt : i < l.length
    · obtain ⟨s, hs⟩ : ∃ s, l[i]? = some s := ⟨_, List.getElem?_eq_getElem hlt⟩
      rcases HS.out with ⟨_, rfl⟩ | ⟨b, cap, e, hcap, hb, hcells⟩
      · simp at hlt
      · cases e
        obtain ⟨g0, g1, g2, g3, g4, g5, g6, g7, g8, g9, g10, g11⟩ := saga_facts hcells hB hs
        have hb' : b < wr.heap.size := Nat.lt_of_lt_of_le hb hB.size
        have htk := Lib.hid (hasRef_take (ref := ref) hs)
        replace hno := Lib.hid hno
        replace hB := Lib.hid hB
        have hsS := Lib.hid hs
        clear hcells hs
        obtain ⟨⟨id, rf, sku, qty, amount⟩, d0, d1, d2, d3, d4, d5, cancel⟩ := s
        simp only at g0 g1 g2 g3 g4 g5 g6 g7 g8 g9 g10 g11
        by_cases he : rf = ref
        · subst he
          have hy := Lib.hid (hasRef_yes hsS.out rfl)
          go_wp2
          go_ret
          refine ⟨by rw [hy.out]; rfl, ?_⟩
          have := hB.out
          (repeat (first | (with_reducible first | exact zR _ _ | exact zA _ _ | assumption | refine zL ?_ _ | refine zD ?_ | refine zN ?_ _) | ((with_reducible first | refine zC ?_ ?_ _ | refine zW ?_ ?_ _); rotate_left; focus (first | exact Nat.le_refl _ | (simp; done) | (simp; omega) | omega)) | with_reducible refine zT ?_ (by assumption)))
        · have hne : (rf == ref) = false := by simpa using he
          go_wp2
          refine ⟨⟨i + 1, by omega, by go_num, ?_, ?_⟩, by simp [intOf]; omega⟩
          · rw [htk.out, hno.out]; exact hne
          · have := hB.out
            (repeat (first | (with_reducible first | exact zR _ _ | exact zA _ _ | assumption | refine zL ?_ _ | refine zD ?_ | refine zN ?_ _) | ((with_reducible first | refine zC ?_ ?_ _ | refine zW ?_ ?_ _); rotate_left; focus (first | exact Nat.le_refl _ | (simp; done) | (simp; omega) | omega)) | with_reducible refine zT ?_ (by assumption)))
    · obtain rfl : i = l.length := by omega
      rw [List.take_length] at hno
      replace hno := Lib.hid hno
      replace hB := Lib.hid hB
      go_wp2
      go_ret
      exact ⟨by rw [hno.out]; rfl, hB.out⟩
end Go.Proofs.YtkgpnikmdmpfaaaGreatDoor

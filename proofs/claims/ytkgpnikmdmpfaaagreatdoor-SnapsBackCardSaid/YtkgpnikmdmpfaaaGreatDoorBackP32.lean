/-
  The laws' measures of entries (Great) and the entries in memory.
-/
import Derived.Test.YtkgpnikmdmpfaaaGreatDoorBackP28
import Derived.Test.YtkgpnikmdmpfaaaGreatDoorBackP19
import Derived.Test.YtkgpnikmdmpfaaaGreatDoorBackP12
set_option linter.unusedVariables false
set_option linter.unusedSimpArgs false
namespace Go.Proofs.YtkgpnikmdmpfaaaGreatDoor
open Go.RowKit Go.Maps

/-- An entry, and the row that its statement has in memory. -/
abbrev Ent := Sp.Entry × Value
def entCells (x : Ent) : List Value := [.int .i64 x.1.kind, .int .i64 x.1.o.id, .string (str x.1.o.ref), .string (str x.1.o.sku), .int .i64 x.1.o.qty, .int .i64 x.1.o.amount, .int .i64 x.1.ko, .int .i64 x.1.kd, .int .i64 x.1.code, .int .i64 x.1.st.party, .int .i64 x.1.st.seq, x.2]
def entVal (x : Ent) : Value := .agg #[.int .i64 x.1.kind, .int .i64 x.1.o.id, .string (str x.1.o.ref), .string (str x.1.o.sku), .int .i64 x.1.o.qty, .int .i64 x.1.o.amount, .int .i64 x.1.ko, .int .i64 x.1.kd, .int .i64 x.1.code, .int .i64 x.1.st.party, .int .i64 x.1.st.seq, x.2]
/-- The entries in memory. -/
structure EntsAt (w : World) (v : Value) (l : List Ent) : Prop where
  slc : SlcA entCells 12 w v l
  rows : ∀ x ∈ l, RowsArg w x.2 x.1.st.rows
  inn : ∀ x ∈ l, x.1.o.ref.length ≤ 9223372036854775807 ∧ x.1.o.sku.length ≤ 9223372036854775807 ∧ x.1.st.seq ≤ 9223372036854775807
  many : l.length ≤ 9223372036854775807
theorem EntsAt.mono {w w' : World} {v : Value} {l : List Ent} (h : EntsAt w v l) (hb : Below w.heap.size w w') : EntsAt w' v l :=
  ⟨h.slc.mono hb, fun x hx => (h.rows x hx).mono hb, h.inn, h.many⟩
def great20 (x : Ent) : Bool := decide (200 < x.1.o.ref.length) || decide (200 < x.1.o.sku.length) || decide (100 < x.1.st.rows.length)
def great24 (l : List Ent) (n : Int) : Bool := l.any (fun x => great20 x || decide (60 < x.1.st.rows.length)) || decide (n < l.length)
set_option maxRecDepth 100000 in
set_option maxHeartbeats 4000000 in
theorem great20_any (w : World) (x : Ent) (hl : RowsArg w x.2 x.1.st.rows) (h1 : x.1.o.ref.length ≤ 9223372036854775807) (h2 : x.1.o.sku.length ≤ 9223372036854775807) :
    Calls Tryz.prog 15 #[entVal x] w fun e w' => e = .returned (.bool (great20 x)) ∧ Below w.heap.size w w' := by
  obtain ⟨⟨kind, ⟨id, ref, sku, qty, amount⟩, ko, kd, code, ⟨party, seq, rows⟩⟩, v⟩ := x
  simp only at hl h1 h2
  obtain ⟨rr, nn, rfl⟩ := slcA_shape hl
  clear hl
  simp only [entVal, great20]
  by_cases c1 : 200 < ref.length
  · have c1' : (200 : Int) < ref.length := by omega
    go_enter Tryz.func15, Tryz.ntmps15
    go_wp2
    go_ret
    exact ⟨by simp [c1], by (repeat (first | (with_reducible first | exact zR _ _ | exact zA _ _ | assumption | refine zL ?_ _ | refine zD ?_ | refine zN ?_ _) | ((with_reducible first | refine zC ?_ ?_ _ | refine zW ?_ ?_ _); rotate_left; focus (first | exact Nat.le_refl _ | (simp; done) | (simp; omega) | omega)) | with_reducible refine zT ?_ (by assumption)))⟩
  · have c1' : ¬ (200 : Int) < ref.length := by omega
    by_cases c2 : 200 < sku.length
    · have c2' : (200 : Int) < sku.length := by omega
      go_enter Tryz.func15, Tryz.ntmps15
      go_wp2
      go_ret
      exact ⟨by simp [c2], by (repeat (first | (with_reducible first | exact zR _ _ | exact zA _ _ | assumption | refine zL ?_ _ | refine zD ?_ | refine zN ?_ _) | ((with_reducible first | refine zC ?_ ?_ _ | refine zW ?_ ?_ _); rotate_left; focus (first | exact Nat.le_refl _ | (simp; done) | (simp; omega) | omega)) | with_reducible refine zT ?_ (by assumption)))⟩
    · have c2' : ¬ (200 : Int) < sku.length := by omega
      by_cases c3 : 100 < rows.length
      · have c3' : (100 : Int) < rows.length := by omega
        go_enter Tryz.func15, Tryz.ntmps15
        go_wp2
        go_ret
        exact ⟨by simp [c3], by (repeat (first | (with_reducible first | exact zR _ _ | exact zA _ _ | assumption | refine zL ?_ _ | refine zD ?_ | refine zN ?_ _) | ((with_reducible first | refine zC ?_ ?_ _ | refine zW ?_ ?_ _); rotate_left; focus (first | exact Nat.le_refl _ | (simp; done) | (simp; omega) | omega)) | with_reducible refine zT ?_ (by assumption)))⟩
      · have c3' : ¬ (100 : Int) < rows.length := by omega
        go_enter Tryz.func15, Tryz.ntmps15
        go_wp2
        go_ret
        exact ⟨by simp [c1, c2, c3], by (repeat (first | (with_reducible first | exact zR _ _ | exact zA _ _ | assumption | refine zL ?_ _ | refine zD ?_ | refine zN ?_ _) | ((with_reducible first | refine zC ?_ ?_ _ | refine zW ?_ ?_ _); rotate_left; focus (first | exact Nat.le_refl _ | (simp; done) | (simp; omega) | omega)) | with_reducible refine zT ?_ (by assumption)))⟩
theorem ent_facts {w w' : World} {l : List Ent} {b off i : Nat} {x : Ent} (h : ∀ i x, l[i]? = some x → ∀ j u, (entCells x)[j]? = some u → w.cell? ⟨b, off + (i * 12 + j), none⟩ = some u) (hb : Below w.heap.size w w') (hi : l[i]? = some x) :
    w'.cell? ⟨b, off + i * 12, none⟩ = some (.int .i64 x.1.kind) ∧ w'.cell? ⟨b, off + i * 12 + 1, none⟩ = some (.int .i64 x.1.o.id) ∧ w'.cell? ⟨b, off + i * 12 + 2, none⟩ = some (.string (str x.1.o.ref)) ∧ w'.cell? ⟨b, off + i * 12 + 3, none⟩ = some (.string (str x.1.o.sku)) ∧ w'.cell? ⟨b, off + i * 12 + 4, none⟩ = some (.int .i64 x.1.o.qty) ∧ w'.cell? ⟨b, off + i * 12 + 5, none⟩ = some (.int .i64 x.1.o.amount) ∧
    w'.cell? ⟨b, off + i * 12 + 6, none⟩ = some (.int .i64 x.1.ko) ∧ w'.cell? ⟨b, off + i * 12 + 7, none⟩ = some (.int .i64 x.1.kd) ∧ w'.cell? ⟨b, off + i * 12 + 8, none⟩ = some (.int .i64 x.1.code) ∧ w'.cell? ⟨b, off + i * 12 + 9, none⟩ = some (.int .i64 x.1.st.party) ∧ w'.cell? ⟨b, off + i * 12 + 10, none⟩ = some (.int .i64 x.1.st.seq) ∧ w'.cell? ⟨b, off + i * 12 + 11, none⟩ = some x.2 :=
  ⟨heldc hb (h i x hi 0 _ rfl), heldc hb (h i x hi 1 _ rfl), heldc hb (h i x hi 2 _ rfl), heldc hb (h i x hi 3 _ rfl), heldc hb (h i x hi 4 _ rfl), heldc hb (h i x hi 5 _ rfl), heldc hb (h i x hi 6 _ rfl), heldc hb (h i x hi 7 _ rfl), heldc hb (h i x hi 8 _ rfl), heldc hb (h i x hi 9 _ rfl), heldc hb (h i x hi 10 _ rfl), heldc hb (h i x hi 11 _ rfl)⟩
def big24 (x : Ent) : Bool := great20 x || decide (60 < x.1.st.rows.length)
def RelGreat (w : World) (l : List Ent) (x : Value) (wr : World) : Prop := ∃ i : Nat, i ≤ l.length ∧ x = .int .i64 i ∧ (l.take i).any big24 = false ∧ Below w.heap.size w wr
theorem any_take_succ {α : Type} {f : α → Bool} {l : List α} {i : Nat} {x : α} (h : l[i]? = some x) : (l.take (i + 1)).any f = ((l.take i).any f || f x) := by
  obtain ⟨hlt, rfl⟩ := List.getElem?_eq_some_iff.1 h
  rw [List.take_succ_eq_append_getElem hlt, List.any_append]
  simp
set_option maxRecDepth 100000 in
set_option maxHeartbeats 4000000 in
theorem great24_any (w : World) (v : Value) (l : List Ent) (n : Int) (h : EntsAt w v l) :
    Calls Tryz.prog 5 #[v, .int .i64 n] w fun e w' => e = .returned (.bool (great24 l n)) ∧ Below w.heap.size w w' := by
  obtain ⟨q, c, rfl⟩ := slcA_shape h.slc
  have hll := h.many
  have HS := Lib.hid h
  clear h
  go_enter Tryz.func5, Tryz.ntmps5
  go_wp2
  go_loopw [5] (fun x wr => RelGreat w l x wr) (fun x _ => l.length - (intOf x).toNat)
  case atStart => exact ⟨0, by omega, rfl, rfl, Below.refl _ _⟩
  case round =>
    obtain ⟨i, hi, rfl, hno, hB⟩ := hrel
    by_cases hlt : i < l.length
    · obtain ⟨x, hs⟩ : ∃ s, l[i]? = some s := ⟨_, List.getElem?_eq_getElem hlt⟩
      have hx := List.mem_of_getElem? hs
      rcases HS.out.slc with ⟨rfl, _⟩ | ⟨b, off, cap, e, hcap, hb, hcells⟩
      · simp at hlt
      · cases e
        obtain ⟨g0, g1, g2, g3, g4, g5, g6, g7, g8, g9, g10, g11⟩ := ent_facts hcells hB hs
        have hb' : b < wr.heap.size := Nat.lt_of_lt_of_le hb hB.size
        have htk := Lib.hid (any_take_succ (f := big24) hs)
        have HG := Lib.hid (fun W (hW : Below w.heap.size w W) => great20_any W x ((HS.out.rows x hx).mono hW) (HS.out.inn x hx).1 (HS.out.inn x hx).2.1)
        have hyes : big24 x = true → great24 l n = true := fun h => by
          unfold great24
          rw [show l.any (fun x => great20 x || decide (60 < x.1.st.rows.length)) = true from List.any_eq_true.2 ⟨x, hx, h⟩]
          rfl
        have hrw := HS.out.rows x hx
        obtain ⟨⟨kind, ⟨id, ref, sku, qty, amount⟩, ko, kd, code, ⟨party, seq, rows⟩⟩, sv⟩ := x
        simp only at g0 g1 g2 g3 g4 g5 g6 g7 g8 g9 g10 g11 hrw
        obtain ⟨rr, nn, rfl⟩ := slcA_shape hrw
        simp only [entVal] at HG
        have hbg : big24 (⟨kind, ⟨id, ref, sku, qty, amount⟩, ko, kd, code, ⟨party, seq, rows⟩⟩, .slice rr rows.length nn) = (great20 (⟨kind, ⟨id, ref, sku, qty, amount⟩, ko, kd, code, ⟨party, seq, rows⟩⟩, .slice rr rows.length nn) || decide (60 < rows.length)) := rfl
        generalize big24 (⟨kind, ⟨id, ref, sku, qty, amount⟩, ko, kd, code, ⟨party, seq, rows⟩⟩, .slice rr rows.length nn) = bg at htk hyes hbg
        generalize great20 (⟨kind, ⟨id, ref, sku, qty, amount⟩, ko, kd, code, ⟨party, seq, rows⟩⟩, .slice rr rows.length nn) = g2 at HG hbg
        replace hno := Lib.hid hno
        replace hB := Lib.hid hB
        replace hyes := Lib.hid hyes
        clear hcells hs hx hrw
        cases g2 with
        | true =>
          have hy := Lib.hid (hyes.out (by rw [hbg]; rfl))
          clear hbg hyes htk
          go_wp2_with (go_at_call 15; refine Calls.mono (HG.out _ (by have := hB.out; (repeat (first | (with_reducible first | exact zR _ _ | exact zA _ _ | assumption | refine zL ?_ _ | refine zD ?_ | refine zN ?_ _) | ((with_reducible first | refine zC ?_ ?_ _ | refine zW ?_ ?_ _); rotate_left; focus (first | exact Nat.le_refl _ | (simp; done) | (simp; omega) | omega)) | with_reducible refine zT ?_ (by assumption))))) ?_; rintro e w1 ⟨rfl, hb1⟩)
          go_ret
          refine ⟨by rw [hy.out]; rfl, ?_⟩
          have := hB.out
          (repeat (first | (with_reducible first | exact zR _ _ | exact zA _ _ | assumption | refine zL ?_ _ | refine zD ?_ | refine zN ?_ _) | ((with_reducible first | refine zC ?_ ?_ _ | refine zW ?_ ?_ _); rotate_left; focus (first | exact Nat.le_refl _ | (simp; done) | (simp; omega) | omega)) | with_reducible refine zT ?_ (by assumption)))
        | false =>
          by_cases c1 : 60 < rows.length
          · have c1' : (60 : Int) < rows.length := by omega
            have hy := Lib.hid (hyes.out (by rw [hbg]; simp [c1]))
            clear hbg hyes htk
            go_wp2_with (go_at_call 15; refine Calls.mono (HG.out _ (by have := hB.out; (repeat (first | (with_reducible first | exact zR _ _ | exact zA _ _ | assumption | refine zL ?_ _ | refine zD ?_ | refine zN ?_ _) | ((with_reducible first | refine zC ?_ ?_ _ | refine zW ?_ ?_ _); rotate_left; focus (first | exact Nat.le_refl _ | (simp; done) | (simp; omega) | omega)) | with_reducible refine zT ?_ (by assumption))))) ?_; rintro e w1 ⟨rfl, hb1⟩; obtain ⟨hc1, hf1, hr1, hz1⟩ := brow hb1)
            go_ret
            refine ⟨by rw [hy.out]; rfl, ?_⟩
            have := hB.out
            (repeat (first | (with_reducible first | exact zR _ _ | exact zA _ _ | assumption | refine zL ?_ _ | refine zD ?_ | refine zN ?_ _) | ((with_reducible first | refine zC ?_ ?_ _ | refine zW ?_ ?_ _); rotate_left; focus (first | exact Nat.le_refl _ | (simp; done) | (simp; omega) | omega)) | with_reducible refine zT ?_ (by assumption)))
          · have c1' : ¬ (60 : Int) < rows.length := by omega
            have hbn : bg = false := by rw [hbg]; simp [c1]
            subst hbn
            clear hbg hyes
            go_wp2_with (go_at_call 15; refine Calls.mono (HG.out _ (by have := hB.out; (repeat (first | (with_reducible first | exact zR _ _ | exact zA _ _ | assumption | refine zL ?_ _ | refine zD ?_ | refine zN ?_ _) | ((with_reducible first | refine zC ?_ ?_ _ | refine zW ?_ ?_ _); rotate_left; focus (first | exact Nat.le_refl _ | (simp; done) | (simp; omega) | omega)) | with_reducible refine zT ?_ (by assumption))))) ?_; rintro e w1 ⟨rfl, hb1⟩; obtain ⟨hc1, hf1, hr1, hz1⟩ := brow hb1)
            refine ⟨⟨i + 1, by omega, by go_num, by rw [htk.out, hno.out]; rfl, ?_⟩, by simp [intOf]; omega⟩
            have := hB.out
            (repeat (first | (with_reducible first | exact zR _ _ | exact zA _ _ | assumption | refine zL ?_ _ | refine zD ?_ | refine zN ?_ _) | ((with_reducible first | refine zC ?_ ?_ _ | refine zW ?_ ?_ _); rotate_left; focus (first | exact Nat.le_refl _ | (simp; done) | (simp; omega) | omega)) | with_reducible refine zT ?_ (by assumption)))
    · obtain rfl : i = l.length := by omega
      rw [List.take_length] at hno
      have hg : great24 l n = decide (n < (l.length : Int)) := by
        unfold great24
        rw [show l.any (fun x => great20 x || decide (60 < x.1.st.rows.length)) = false from hno]
        rfl
      replace hB := Lib.hid hB
      replace hg := Lib.hid hg
      clear hno
      go_wp2
      go_ret
      exact ⟨by rw [hg.out]; first | rfl | simp, hB.out⟩
end Go.Proofs.YtkgpnikmdmpfaaaGreatDoor

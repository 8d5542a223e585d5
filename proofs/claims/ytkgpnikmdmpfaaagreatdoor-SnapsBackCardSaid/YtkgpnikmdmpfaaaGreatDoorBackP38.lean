/-
  rows.Same.
-/
import Derived.Test.YtkgpnikmdmpfaaaGreatDoorBackP13
import Derived.Test.YtkgpnikmdmpfaaaGreatDoorBackP17
import Derived.Test.YtkgpnikmdmpfaaaGreatDoorBackP1
set_option linter.unusedVariables false
set_option linter.unusedSimpArgs false
namespace Go.Proofs.YtkgpnikmdmpfaaaGreatDoor
open Go.RowKit Go.Maps

theorem row_formed (a b c d e : Int) : (Tryz.prog.keyType 127 && (Value.agg #[.int .i64 a, .int .i64 b, .int .i64 c, .int .i64 d, .int .i64 e]).formed Tryz.prog 127) = true := by kernel_rfl
set_option maxRecDepth 100000 in
theorem rowv_key {r : Sp.Row} (h : RowIn r) : (keyOf Tryz.prog 127 (rowVal' r)).isSome = true := by
  obtain ⟨o, d, c, a, q⟩ := r
  obtain ⟨n, hn⟩ := types_two
  have h0 := row_formed o d c a q
  have w1 := wf64 h.order
  have w2 := wf64 h.deed
  have w3 := wf64 h.code
  have w4 : (Lit.int .i64 a).wf = true := WalkArith.wf_i64 (by have := h.lo; have := h.hi; simp only at *; omega)
  have w5 := wf64 h.qty
  simp only at w1 w2 w3 w5
  unfold keyOf
  rw [Tryz.underlying127]
  simp only [rowVal', h0, if_true, hn]
  simp [Program.keyLits, Tryz.underlying127, Tryz.underlying34, Tryz.underlying3, Tryz.underlying2, c_int, c_i64, c_row, c_key, Value.cells, w1, w2, w3, w4, w5]
  rw [if_pos (by decide)]
  rfl
set_option maxRecDepth 100000 in
theorem eq_row (p q : Sp.Row) (hp : RowIn p) (hq : RowIn q) (w : World) :
    (Op.equalIn 10000 127 (rowVal' p) (rowVal' q)).run Tryz.prog w = .ok (decide (p = q)) w := by
  obtain ⟨r, h1, h2⟩ := eq_of_keys (t := 127) (by kernel_rfl) (by kernel_rfl) (by kernel_rfl) (rowv_key hp) (rowv_key hq) w
  rw [h1]
  congr 1
  rw [Bool.eq_iff_iff, h2, decide_eq_true_eq]
  obtain ⟨o, d, c, a, n⟩ := p
  obtain ⟨o', d', c', a', n'⟩ := q
  simp only [rowVal', Value.agg.injEq, Array.mk.injEq, List.cons.injEq, Value.int.injEq, Sp.Row.mk.injEq, true_and, and_true]

set_option maxRecDepth 100000 in
theorem rowEq_any (p q : Sp.Row) (hp : RowIn p) (hq : RowIn q) (w : World) : Calls Tryz.prog 85 #[rowVal' p, rowVal' q] w fun e w' => e = .returned (.bool (decide (p = q))) ∧ Below w.heap.size w w' := by
  have HE := fun W => eq_row p q hp hq W
  generalize decide (p = q) = b at HE ⊢
  obtain ⟨o, d, c, a, n⟩ := p
  obtain ⟨o', d', c', a', n'⟩ := q
  clear hp hq
  simp only [rowVal'] at HE ⊢
  go_enter Tryz.func85, Tryz.ntmps85
  go_wp2
  go_ret
  refine ⟨rfl, ?_⟩
  (repeat (first | (with_reducible first | exact zR _ _ | exact zA _ _ | assumption | refine zL ?_ _ | refine zD ?_ | refine zN ?_ _) | ((with_reducible first | refine zC ?_ ?_ _ | refine zW ?_ ?_ _); rotate_left; focus (first | exact Nat.le_refl _ | (simp; done) | (simp; omega) | omega)) | with_reducible refine zT ?_ (by assumption)))

def RelEqR (w : World) (l l' : List Sp.Row) (x : Value) (wr : World) : Prop := ∃ i : Nat, i ≤ l.length ∧ x = .int .i64 i ∧ l.take i = l'.take i ∧ Below w.heap.size w wr
def EqPost {α : Type} [DecidableEq α] (w : World) (l l' : α) (e : Ending) (w' : World) : Prop := e = .returned (.bool (decide (l = l'))) ∧ Below w.heap.size w w'
theorem EqPost.yes {α : Type} [DecidableEq α] {w w' : World} {l l' : α} (h : l = l') (hb : Below w.heap.size w w') : EqPost w l l' (.returned (.bool true)) w' := ⟨by rw [decide_eq_true h], hb⟩
theorem EqPost.no {α : Type} [DecidableEq α] {w w' : World} {l l' : α} (h : l ≠ l') (hb : Below w.heap.size w w') : EqPost w l l' (.returned (.bool false)) w' := ⟨by rw [decide_eq_false h], hb⟩
set_option maxRecDepth 100000 in
set_option maxHeartbeats 1000000 in
theorem eqRows_any (w : World) (v v' : Value) (l l' : List Sp.Row) (hl : RowsAt w v l) (hl' : RowsAt w v' l') (hr : ∀ r ∈ l, RowIn r) (hr' : ∀ r ∈ l', RowIn r) (h4 : l.length ≤ 400) (h4' : l'.length ≤ 400) :
    Calls Tryz.prog 86 #[v, v', .func (.func 85) #[] #[]] w (EqPost w l l') := by
  obtain ⟨q, k, rfl⟩ := slc_shape hl
  obtain ⟨q', k', rfl⟩ := slc_shape hl'
  replace hr := Lib.hid hr
  replace hr' := Lib.hid hr'
  by_cases hn : l.length = l'.length
  · have hn2 := Lib.hid hn
    replace hl := Lib.hid hl
    replace hl' := Lib.hid hl'
    go_enter Tryz.func86, Tryz.ntmps86
    go_wp2
    clear hn
    go_loopw [17] (fun x wr => RelEqR w l l' x wr) (fun x _ => l.length - (intOf x).toNat)
    case atStart => exact ⟨0, by omega, rfl, rfl, Below.refl _ _⟩
    case round =>
      obtain ⟨i, hi, rfl, heq, hB⟩ := hrel
      by_cases hlt : i < l.length
      · have hlt' : i < l'.length := by have := hn2.out; omega
        rcases hl.out with ⟨_, h0⟩ | ⟨b, cap, e, hcap, hb0, hcells⟩
        · rw [h0] at hlt; simp at hlt
        · cases e
          rcases hl'.out with ⟨_, h0⟩ | ⟨b', cap', e', hcap', hb0', hcells'⟩
          · rw [h0] at hlt'; simp at hlt'
          · cases e'
            obtain ⟨r, hri⟩ : ∃ r, l[i]? = some r := ⟨l[i], List.getElem?_eq_getElem hlt⟩
            obtain ⟨r', hri'⟩ : ∃ r, l'[i]? = some r := ⟨l'[i], List.getElem?_eq_getElem hlt'⟩
            obtain ⟨f0, f1, f2, f3, f4⟩ := row_facts hcells hB hri
            obtain ⟨g0, g1, g2, g3, g4⟩ := row_facts hcells' hB hri'
            have HC := fun W => rowEq_any r r' (hr.out r (List.mem_of_getElem? hri)) (hr'.out r' (List.mem_of_getElem? hri')) W
            have hsz := hB.size
            have hbs : b < wr.heap.size := by omega
            have hbs' : b' < wr.heap.size := by omega
            clear hcells hcells'
            by_cases hrr : r = r'
            · have hd : decide (r = r') = true := decide_eq_true hrr
              simp only [hd, rowVal'] at HC
              clear hd
              have heq2 : Hid (l.take (i + 1) = l'.take (i + 1)) := Lib.hid (by
                obtain ⟨h1, e1⟩ := List.getElem?_eq_some_iff.1 hri
                obtain ⟨h2, e2⟩ := List.getElem?_eq_some_iff.1 hri'
                rw [List.take_succ_eq_append_getElem h1, List.take_succ_eq_append_getElem h2, heq, e1, e2, hrr])
              replace HC := Lib.hid HC
              replace hri := Lib.hid hri
              replace hri' := Lib.hid hri'
              replace hrr := Lib.hid hrr
              replace heq := Lib.hid heq
              go_wp2_with (go_at_call 85; refine Calls.mono (HC.out _) ?_; rintro e wc ⟨rfl, hbc⟩)
              refine ⟨⟨i + 1, by omega, by go_num, heq2.out, ?_⟩, by simp [intOf]; omega⟩
              refine hB.trans (Below.mono (B := wr.heap.size) ?_ hsz)
              (repeat (first | (with_reducible first | exact zR _ _ | exact zA _ _ | assumption | refine zL ?_ _ | refine zD ?_ | refine zN ?_ _) | ((with_reducible first | refine zC ?_ ?_ _ | refine zW ?_ ?_ _); rotate_left; focus (first | exact Nat.le_refl _ | (simp; done) | (simp; omega) | omega)) | with_reducible refine zT ?_ (by assumption)))
            · have hd : decide (r = r') = false := decide_eq_false hrr
              simp only [hd, rowVal'] at HC
              clear hd
              have hne : Hid (l ≠ l') := Lib.hid (fun e => hrr (by rw [e, hri'] at hri; exact (Option.some.inj hri).symm))
              replace HC := Lib.hid HC
              replace hri := Lib.hid hri
              replace hri' := Lib.hid hri'
              replace hrr := Lib.hid hrr
              replace heq := Lib.hid heq
              go_wp2_with (go_at_call 85; refine Calls.mono (HC.out _) ?_; rintro e wc ⟨rfl, hbc⟩)
              go_ret
              refine EqPost.no hne.out (hB.trans (Below.mono (B := wr.heap.size) ?_ hsz))
              (repeat (first | (with_reducible first | exact zR _ _ | exact zA _ _ | assumption | refine zL ?_ _ | refine zD ?_ | refine zN ?_ _) | ((with_reducible first | refine zC ?_ ?_ _ | refine zW ?_ ?_ _); rotate_left; focus (first | exact Nat.le_refl _ | (simp; done) | (simp; omega) | omega)) | with_reducible refine zT ?_ (by assumption)))
      · have hee : Hid (l = l') := Lib.hid (by rw [List.take_of_length_le (by omega), List.take_of_length_le (by have := hn2.out; omega)] at heq; exact heq)
        replace heq := Lib.hid heq
        have hil : i = l'.length := by have := hn2.out; omega
        subst hil
        clear hlt hi
        go_wp2
        go_ret
        exact EqPost.yes hee.out hB
  · have hne : Hid (l ≠ l') := Lib.hid (fun e => hn (by rw [e]))
    clear hl hl'
    go_enter Tryz.func86, Tryz.ntmps86
    go_wp2
    go_ret
    exact EqPost.no hne.out (Below.refl _ _)

set_option maxRecDepth 100000 in
set_option maxHeartbeats 1000000 in
theorem rowsSame_any (w : World) (s s' : Sp.Stmt) (v v' : Value) (hl : RowsAt w v s.rows) (hl' : RowsAt w v' s'.rows) (hr : ∀ r ∈ s.rows, RowIn r) (hr' : ∀ r ∈ s'.rows, RowIn r) (h4 : s.rows.length ≤ 400) (h4' : s'.rows.length ≤ 400) :
    Calls Tryz.prog 48 #[.agg #[.int .i64 s.party, .int .i64 s.seq, v], .agg #[.int .i64 s'.party, .int .i64 s'.seq, v']] w (EqPost w s s') := by
  obtain ⟨p, n, l⟩ := s
  obtain ⟨p', n', l'⟩ := s'
  simp only at hl hl' hr hr' h4 h4' ⊢
  obtain ⟨q, k, rfl⟩ := slc_shape hl
  obtain ⟨q', k', rfl⟩ := slc_shape hl'
  have HC := Lib.hid (fun W (hW : Below w.heap.size w W) => eqRows_any W _ _ l l' (hl.mono hW) (hl'.mono hW) hr hr' h4 h4')
  clear hl hl' hr hr' h4 h4'
  by_cases hp : p = p'
  · subst hp
    by_cases hn : n = n'
    · subst hn
      by_cases hll : l = l'
      · have hd : decide (l = l') = true := decide_eq_true hll
        unfold EqPost at HC
        simp only [hd] at HC
        clear hd
        replace hll := Lib.hid hll
        go_enter Tryz.func48, Tryz.ntmps48
        go_wp2_with (go_at_call 86; refine Calls.mono (HC.out _ (by (repeat (first | (with_reducible first | exact zR _ _ | exact zA _ _ | assumption | refine zL ?_ _ | refine zD ?_ | refine zN ?_ _) | ((with_reducible first | refine zC ?_ ?_ _ | refine zW ?_ ?_ _); rotate_left; focus (first | exact Nat.le_refl _ | (simp; done) | (simp; omega) | omega)) | with_reducible refine zT ?_ (by assumption))))) ?_; rintro e wc ⟨rfl, hbc⟩)
        go_ret
        refine EqPost.yes (by rw [hll.out]) ?_
        (repeat (first | (with_reducible first | exact zR _ _ | exact zA _ _ | assumption | refine zL ?_ _ | refine zD ?_ | refine zN ?_ _) | ((with_reducible first | refine zC ?_ ?_ _ | refine zW ?_ ?_ _); rotate_left; focus (first | exact Nat.le_refl _ | (simp; done) | (simp; omega) | omega)) | with_reducible refine zT ?_ (by assumption)))
      · have hd : decide (l = l') = false := decide_eq_false hll
        unfold EqPost at HC
        simp only [hd] at HC
        clear hd
        replace hll := Lib.hid hll
        go_enter Tryz.func48, Tryz.ntmps48
        go_wp2_with (go_at_call 86; refine Calls.mono (HC.out _ (by (repeat (first | (with_reducible first | exact zR _ _ | exact zA _ _ | assumption | refine zL ?_ _ | refine zD ?_ | refine zN ?_ _) | ((with_reducible first | refine zC ?_ ?_ _ | refine zW ?_ ?_ _); rotate_left; focus (first | exact Nat.le_refl _ | (simp; done) | (simp; omega) | omega)) | with_reducible refine zT ?_ (by assumption))))) ?_; rintro e wc ⟨rfl, hbc⟩)
        go_ret
        refine EqPost.no (fun e => hll.out (by cases e; rfl)) ?_
        (repeat (first | (with_reducible first | exact zR _ _ | exact zA _ _ | assumption | refine zL ?_ _ | refine zD ?_ | refine zN ?_ _) | ((with_reducible first | refine zC ?_ ?_ _ | refine zW ?_ ?_ _); rotate_left; focus (first | exact Nat.le_refl _ | (simp; done) | (simp; omega) | omega)) | with_reducible refine zT ?_ (by assumption)))
    · have hne : Hid ((⟨p, n, l⟩ : Sp.Stmt) ≠ ⟨p, n', l'⟩) := Lib.hid (fun e => hn (by cases e; rfl))
      go_enter Tryz.func48, Tryz.ntmps48
      go_wp2
      go_ret
      refine EqPost.no hne.out ?_
      (repeat (first | (with_reducible first | exact zR _ _ | exact zA _ _ | assumption | refine zL ?_ _ | refine zD ?_ | refine zN ?_ _) | ((with_reducible first | refine zC ?_ ?_ _ | refine zW ?_ ?_ _); rotate_left; focus (first | exact Nat.le_refl _ | (simp; done) | (simp; omega) | omega)) | with_reducible refine zT ?_ (by assumption)))
  · have hne : Hid ((⟨p, n, l⟩ : Sp.Stmt) ≠ ⟨p', n', l'⟩) := Lib.hid (fun e => hp (by cases e; rfl))
    go_enter Tryz.func48, Tryz.ntmps48
    go_wp2
    go_ret
    refine EqPost.no hne.out ?_
    (repeat (first | (with_reducible first | exact zR _ _ | exact zA _ _ | assumption | refine zL ?_ _ | refine zD ?_ | refine zN ?_ _) | ((with_reducible first | refine zC ?_ ?_ _ | refine zW ?_ ?_ _); rotate_left; focus (first | exact Nat.le_refl _ | (simp; done) | (simp; omega) | omega)) | with_reducible refine zT ?_ (by assumption)))
end Go.Proofs.YtkgpnikmdmpfaaaGreatDoor

/-
  What '==' says of sagas.
-/

set_option linter.unusedVariables false
set_option linter.unusedSimpArgs false
namespace Go.Proofs.YtkgpnikmdmpfaaaGreatDoor
open Go.RowKit
theorem eqIntD (d : Nat) (w : World) (a b : Int) : (Op.equalIn (d + 1) 3 (.int .i64 a) (.int .i64 b)).run Tryz.prog w = .ok (a == b) w := run_equalIn_int w d _ .i64 .i64 a b Tryz.underlying3
set_option maxRecDepth 100000 in
theorem eq_deedsD (d : Nat) (w : World) (a0 a1 a2 a3 a4 a5 b0 b1 b2 b3 b4 b5 : Int) :
    (Op.equalIn (d + 2) 74 (.agg #[.int .i64 a0, .int .i64 a1, .int .i64 a2, .int .i64 a3, .int .i64 a4, .int .i64 a5]) (.agg #[.int .i64 b0, .int .i64 b1, .int .i64 b2, .int .i64 b3, .int .i64 b4, .int .i64 b5])).run Tryz.prog w =
      .ok (a0 == b0 && a1 == b1 && a2 == b2 && a3 == b3 && a4 == b4 && a5 == b5) w := by
  obtain ⟨i, hi⟩ := info_int
  rw [run_equalIn_array w (d + 1) _ _ Tryz.underlying74 hi]
  obtain ⟨p0, p1, p2, p3, p4, p5⟩ := part6 (.int .i64 a0) (.int .i64 a1) (.int .i64 a2) (.int .i64 a3) (.int .i64 a4) (.int .i64 a5)
  obtain ⟨q0, q1, q2, q3, q4, q5⟩ := part6 (.int .i64 b0) (.int .i64 b1) (.int .i64 b2) (.int .i64 b3) (.int .i64 b4) (.int .i64 b5)
  simp only [List.range, List.range.loop, Op.eqItems, cellsOf_int, Nat.mul_one, Sem.run_bind, p0, p1, p2, p3, p4, p5, q0, q1, q2, q3, q4, q5, eqIntD, Result.andThen_ok]
  cases h0 : a0 == b0 <;> cases h1 : a1 == b1 <;> cases h2 : a2 == b2 <;> cases h3 : a3 == b3 <;> cases h4 : a4 == b4 <;> cases h5 : a5 == b5 <;>
    simp [eqIntD, q0, q1, q2, q3, q4, q5, p0, p1, p2, p3, p4, p5, h0, h1, h2, h3, h4, h5]
theorem fields_saga : Tryz.prog.underlying 89 = some (.struct (Tryz.prog.fieldsOf 89)) := by kernel_rfl
theorem fields_order : Tryz.prog.underlying 32 = some (.struct (Tryz.prog.fieldsOf 32)) := by kernel_rfl
theorem held_saga : Tryz.prog.stoodInHeld 89 = false := by kernel_rfl
theorem held_order : Tryz.prog.stoodInHeld 32 = false := by kernel_rfl
set_option maxRecDepth 100000 in
set_option maxHeartbeats 2000000 in
theorem eq_saga (s t : Sp.Saga) (w : World) : (Op.equalIn 10000 89 (sagaVal s) (sagaVal t)).run Tryz.prog w = .ok (decide (s = t)) w := by
  obtain ⟨⟨id, ref, sku, qty, amount⟩, d0, d1, d2, d3, d4, d5, cancel⟩ := s
  obtain ⟨⟨id', ref', sku', qty', amount'⟩, d0', d1', d2', d3', d4', d5', cancel'⟩ := t
  simp only [sagaVal]
  rw [run_equalIn_agg (P := Tryz.prog) w 9999 _ _ _ fields_saga held_saga]
  go_simp
  rw [eq_deedsD 9997]
  simp only [Result.andThen_ok]
  repeat' split
  all_goals simp_all
end Go.Proofs.YtkgpnikmdmpfaaaGreatDoor

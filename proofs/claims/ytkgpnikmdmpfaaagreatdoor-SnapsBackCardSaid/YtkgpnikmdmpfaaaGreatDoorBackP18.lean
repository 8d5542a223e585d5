/-
  The walk of saga.Valid.
-/
import Derived.Test.YtkgpnikmdmpfaaaGreatDoorBackP17
set_option linter.unusedVariables false
set_option linter.unusedSimpArgs false
namespace Go.Proofs.YtkgpnikmdmpfaaaGreatDoor
open Go.RowKit
namespace Sp
def same (s t : Saga) : Bool := s.d0 == t.d0 && s.d1 == t.d1 && s.d2 == t.d2 && s.d3 == t.d3 && s.d4 == t.d4 && s.d5 == t.d5 && s.cancel == t.cancel
def step (s t : Saga) : Option Saga := if getD s (waits t) = 4 then stop t else if getD s (waits t) = 3 then reply t (waits t) 2 else reply t (waits t) 1
def next (s t : Saga) : Option Saga :=
  if waits t < 0 then none else
  match step s t with
  | none => none
  | some t' => if getD t' (waits t) = getD s (waits t) then some t' else none
def validAt : Nat → Saga → Saga → Bool
  | 0, _, _ => false
  | f + 1, s, t => if same t s then true else match next s t with | none => false | some t' => validAt f s t'
def valid (s : Saga) : Bool := decide (orderCheck s.o = 0) && validAt 7 s (begin_ s.o)
theorem opens_stop {t t' : Saga} (h : stop t = some t') (hw : 0 ≤ waits t) : opens t' + 1 = opens t := by
  unfold stop at h
  split at h
  · cases h
    rw [opens_onward]
    exact opens_set t 4 (by omega) hw
  · cases h
theorem opens_reply {t t' : Saga} {d c : Int} (h : reply t d c = some t') (hw : 0 ≤ waits t) : opens t' + 1 = opens t := by
  unfold reply at h
  split at h
  · cases h
  · split at h
    · cases h; rw [opens_onward]; exact opens_set t 2 (by omega) hw
    · split at h
      · cases h; rw [opens_onward]; exact opens_set t 3 (by omega) hw
      · cases h
theorem opens_next {s t t' : Saga} (h : next s t = some t') : opens t' + 1 = opens t := by
  unfold next at h
  split at h
  · cases h
  · rename_i hw
    split at h
    · cases h
    · rename_i t2 hs
      split at h
      · cases h
        unfold step at hs
        split at hs
        · exact opens_stop hs (by omega)
        · split at hs
          · exact opens_reply hs (by omega)
          · exact opens_reply hs (by omega)
      · cases h
theorem validAt_step {s t t' : Saga} (hns : ¬ same t s = true) (hn : next s t = some t') : validAt (opens t + 1) s t = validAt (opens t' + 1) s t' := by
  rw [opens_next hn]
  conv => lhs; unfold validAt
  rw [if_neg hns, hn]
theorem validAt_none {s t : Saga} (hns : ¬ same t s = true) (hn : next s t = none) : validAt (opens t + 1) s t = false := by
  unfold validAt
  rw [if_neg hns, hn]
theorem next_stop {s t t' : Saga} {m : Nat} (hm : waits t = m) (hg : getD s m = 4) (hst : stop t = some t') : next s t = if getD t' m = 4 then some t' else none := by
  unfold next step
  rw [hm, if_neg (by omega), hg, if_pos rfl, hst]
theorem next_some {s t t' : Saga} {m : Nat} (hst : step s t = some t') (hm : waits t = m) : next s t = if getD t' m = getD s m then some t' else none := by
  unfold next
  rw [hst, hm, if_neg (by omega)]
theorem next_none {s t : Saga} (hst : step s t = none) : next s t = none := by
  unfold next
  rw [hst]
  split <;> rfl
theorem step_stop {s t : Saga} {m : Nat} {r : Option Saga} (hm : waits t = m) (hg : getD s m = 4) (h : stop t = r) : step s t = r := by unfold step; rw [hm, hg, if_pos rfl, h]
theorem step_r2 {s t : Saga} {m : Nat} {r : Option Saga} (hm : waits t = m) (hg : getD s m = 3) (h : reply t m 2 = r) : step s t = r := by unfold step; rw [hm, hg, if_neg (by omega), if_pos rfl, h]
theorem step_r1 {s t : Saga} {m : Nat} {g : Int} {r : Option Saga} (hm : waits t = m) (hg : getD s m = g) (h4 : ¬ g = 4) (h3 : ¬ g = 3) (h : reply t m 1 = r) : step s t = r := by unfold step; rw [hm, hg, if_neg h4, if_neg h3, h]
end Sp
def sagaRow (s : Sp.Saga) : Array Value := #[.int .i64 s.o.id, .string (str s.o.ref), .string (str s.o.sku), .int .i64 s.o.qty, .int .i64 s.o.amount, .int .i64 s.d0, .int .i64 s.d1, .int .i64 s.d2, .int .i64 s.d3, .int .i64 s.d4, .int .i64 s.d5, .bool s.cancel]
def opensAt (w : World) (T : Nat) : Nat :=
  match w.row? T with
  | some c => (match c.toList.map intOf with | [_, _, _, _, _, a, b, c, d, e, f, _] => Sp.opens ⟨⟨0, [], [], 0, 0⟩, a, b, c, d, e, f, false⟩ | _ => 0)
  | none => 0
theorem opensAt_of {w : World} {T : Nat} {t : Sp.Saga} (h : w.row? T = some (sagaRow t)) : opensAt w T = Sp.opens t := by
  unfold opensAt
  rw [h]
  rfl
theorem sagaRow_at {w : World} {b m : Nat} {s : Sp.Saga} (h : w.row? b = some (sagaRow s)) (hm : m ≤ 5) : w.cell? ⟨b, 5 + m, none⟩ = some (.int .i64 (Sp.getD s m)) := by
  rw [cell?_of_row? h]
  have : m = 0 ∨ m = 1 ∨ m = 2 ∨ m = 3 ∨ m = 4 ∨ m = 5 := by omega
  rcases this with rfl | rfl | rfl | rfl | rfl | rfl <;> rfl
theorem row_set12 {w : World} {T : Nat} {a0 a1 a2 a3 a4 a5 a6 a7 a8 a9 a10 a11 v0 v1 v2 v3 v4 v5 v6 v7 v8 v9 v10 v11 : Value} (h : w.row? T = some #[a0, a1, a2, a3, a4, a5, a6, a7, a8, a9, a10, a11]) :
    ((((((((((((w.setCell ⟨T, 0, none⟩ v0).setCell ⟨T, 1, none⟩ v1).setCell ⟨T, 2, none⟩ v2).setCell ⟨T, 3, none⟩ v3).setCell ⟨T, 4, none⟩ v4).setCell ⟨T, 5, none⟩ v5).setCell ⟨T, 6, none⟩ v6).setCell ⟨T, 7, none⟩ v7).setCell ⟨T, 8, none⟩ v8).setCell ⟨T, 9, none⟩ v9).setCell ⟨T, 10, none⟩ v10).setCell ⟨T, 11, none⟩ v11).row? T = some #[v0, v1, v2, v3, v4, v5, v6, v7, v8, v9, v10, v11] := by
  simp only [row?_setCell, if_true, h, Option.map_some, List.setIfInBounds_toArray, List.set_cons_zero, List.set_cons_succ]
theorem row_other12 {w : World} {T b : Nat} {v0 v1 v2 v3 v4 v5 v6 v7 v8 v9 v10 v11 : Value} (h : b ≠ T) : ((((((((((((w.setCell ⟨T, 0, none⟩ v0).setCell ⟨T, 1, none⟩ v1).setCell ⟨T, 2, none⟩ v2).setCell ⟨T, 3, none⟩ v3).setCell ⟨T, 4, none⟩ v4).setCell ⟨T, 5, none⟩ v5).setCell ⟨T, 6, none⟩ v6).setCell ⟨T, 7, none⟩ v7).setCell ⟨T, 8, none⟩ v8).setCell ⟨T, 9, none⟩ v9).setCell ⟨T, 10, none⟩ v10).setCell ⟨T, 11, none⟩ v11).row? b = w.row? b := by
  simp only [row?_setCell, if_neg h]
def RelVal (w : World) (T : Nat) (s : Sp.Saga) (wr : World) : Prop :=
  ∃ t : Sp.Saga, wr.row? T = some (sagaRow t) ∧ wr.row? w.heap.size = some (sagaRow s) ∧ Below w.heap.size w wr ∧ w.heap.size < T ∧ Sp.validAt (Sp.opens t + 1) s t = Sp.validAt 7 s (Sp.begin_ s.o)

set_option maxRecDepth 100000 in
set_option maxHeartbeats 8000000 in
theorem Valid_any (s : Sp.Saga) (w : World) (h1 : s.o.ref.length ≤ 4611686018427387900) (h2 : s.o.sku.length ≤ 4611686018427387900) :
    Calls Tryz.prog 82 #[sagaVal s] w fun e w' => e = .returned (.bool (Sp.valid s)) ∧ Below w.heap.size w w' := by
  by_cases hk : Sp.orderCheck s.o = 0
  · have hv : Sp.valid s = Sp.validAt 7 s (Sp.begin_ s.o) := by simp [Sp.valid, hk]
    rw [hv]
    obtain ⟨⟨id, ref, sku, qty, amount⟩, d0, d1, d2, d3, d4, d5, cancel⟩ := s
    simp only [sagaVal]
    simp only at hk h1 h2
    replace hk := Lib.hid hk
    clear hv
    go_enter Tryz.func82, Tryz.ntmps82
    go_wp2_with (first | (go_at_call 49; refine Calls.mono (orderCheck_any _ _ _ _ _ _ (by omega) (by omega)) ?_; rw [hk.out]; rintro e w1 ⟨rfl, hb⟩; obtain ⟨hc, hf, hr, hz⟩ := brow hb; (try simp at hz); have hlt : w.heap.size < w1.heap.size := (by omega); have hB1 := Lib.hid (Grew.trans (alloc_grew w _) hb)) | (go_at_call 51; refine Calls.mono (Begin_any ⟨_, _, _, _, _⟩ _) ?_; rintro e w2 ⟨rfl, hb2⟩; obtain ⟨hc2, hf2, hr2, hz2⟩ := brow hb2; have hlt2 : w.heap.size < w2.heap.size := (by omega); simp only [sagaVal, Sp.begin_]))
    have hB2 := hB1.out.trans (hb2.mono (by omega))
    have hs0 : w2.row? w.heap.size = some (sagaRow ⟨⟨id, ref, sku, qty, amount⟩, d0, d1, d2, d3, d4, d5, cancel⟩) := by
      rw [hr2, if_pos (by omega), hr, if_pos (by simp), row?_alloc, if_pos rfl]; rfl
    clear hc hf hr hc2 hf2 hr2
    replace hs0 := Lib.hid hs0
    replace hB2 := Lib.hid hB2
    go_loopw [] (fun wr => RelVal w w2.heap.size ⟨⟨id, ref, sku, qty, amount⟩, d0, d1, d2, d3, d4, d5, cancel⟩ wr) (fun wr => opensAt wr w2.heap.size)
    case atStart =>
      refine ⟨Sp.begin_ ⟨id, ref, sku, qty, amount⟩, by rw [row?_alloc, if_pos rfl]; rfl, by rw [row?_alloc, if_neg (by omega)]; exact hs0.out, Grew.alloc hB2.out _, hlt2, rfl⟩
    case round =>
      obtain ⟨⟨⟨i, r, k, q, a⟩, e0, e1, e2, e3, e4, e5, c⟩, hT, hS, hB, hlt3, HV⟩ := hrel
      have hTc := fun o => cell?_of_row? hT o
      have hTf := fun o => frozen?_of_row? hT o
      have hSc := fun o => cell?_of_row? hS o
      simp only [sagaRow] at hTc hSc
      have hS5 := hSc 5
      have hS6 := hSc 6
      have hS7 := hSc 7
      have hS8 := hSc 8
      have hS9 := hSc 9
      have hS10 := hSc 10
      have hS11 := hSc 11
      simp only [List.getElem?_toArray, List.getElem?_cons_succ, List.getElem?_cons_zero] at hS5 hS6 hS7 hS8 hS9 hS10 hS11
      have hSl := row?_lt hS
      replace hSc := Lib.hid hSc
      have hTl := row?_lt hT
      replace hT := Lib.hid hT
      replace hS := Lib.hid hS
      replace HV := Lib.hid HV
      have heq := eq_deeds
      have hcase : ((e0 == d0 && e1 == d1 && e2 == d2 && e3 == d3 && e4 == d4 && e5 == d5) = true ∧ c = cancel) ∨ ((e0 == d0 && e1 == d1 && e2 == d2 && e3 == d3 && e4 == d4 && e5 == d5) = true ∧ c = !cancel) ∨ (e0 == d0 && e1 == d1 && e2 == d2 && e3 == d3 && e4 == d4 && e5 == d5) = false := by
        cases (e0 == d0 && e1 == d1 && e2 == d2 && e3 == d3 && e4 == d4 && e5 == d5) <;> cases c <;> cases cancel <;> simp
      rcases hcase with ⟨hD, rfl⟩ | ⟨hD, hcc⟩ | hD
      · have hfin : Sp.validAt 7 ⟨⟨id, ref, sku, qty, amount⟩, d0, d1, d2, d3, d4, d5, c⟩ (Sp.begin_ ⟨id, ref, sku, qty, amount⟩) = true := by
          rw [← HV.out, Sp.validAt, if_pos (by simp only [Sp.same, hD]; cases c <;> rfl)]
        replace hfin := Lib.hid hfin
        cases c
        all_goals
          go_wp2
          go_ret
          exact ⟨congrArg (fun b => Ending.returned (.bool b)) hfin.out.symm, hB⟩
      · have hns : ¬ Sp.same ⟨⟨i, r, k, q, a⟩, e0, e1, e2, e3, e4, e5, c⟩ ⟨⟨id, ref, sku, qty, amount⟩, d0, d1, d2, d3, d4, d5, cancel⟩ = true := by
          simp only [Sp.same, hD, hcc]; cases cancel <;> simp
        have hcc1 : (c == cancel) = false := by rw [hcc]; cases cancel <;> rfl
        have hcc2 : (c != cancel) = true := by rw [hcc]; cases cancel <;> rfl
        clear hcc
        have hw := waits_range ⟨⟨i, r, k, q, a⟩, e0, e1, e2, e3, e4, e5, c⟩
        rcases (show Sp.waits ⟨⟨i, r, k, q, a⟩, e0, e1, e2, e3, e4, e5, c⟩ < 0 ∨ 0 ≤ Sp.waits ⟨⟨i, r, k, q, a⟩, e0, e1, e2, e3, e4, e5, c⟩ by omega) with hw0 | hw0
        · have hr := waitsRes_no (show Sp.waits ⟨⟨i, r, k, q, a⟩, e0, e1, e2, e3, e4, e5, c⟩ = -1 by omega)
          have hnx : Sp.next ⟨⟨id, ref, sku, qty, amount⟩, d0, d1, d2, d3, d4, d5, cancel⟩ ⟨⟨i, r, k, q, a⟩, e0, e1, e2, e3, e4, e5, c⟩ = none := by unfold Sp.next; rw [if_pos hw0]
          replace hnx := Lib.hid hnx
          clear hw hw0
          go_wp2_with (go_at_call 89; refine Calls.mono (Waits_any ⟨⟨_, _, _, _, _⟩, _, _, _, _, _, _, _⟩ _) ?_; rintro e w3 ⟨rfl, hb3⟩; rw [hr]; obtain ⟨hc3, hf3, hr3, hz3⟩ := brow hb3)
          go_ret
          exact ⟨congrArg (fun b => Ending.returned (.bool b)) ((Sp.validAt_none hns hnx.out).symm.trans HV.out), Grew.trans hB hb3⟩
        · obtain ⟨m, hm⟩ := Int.eq_ofNat_of_zero_le hw0
          have hr := waitsRes_yes hm (by omega)
          have hm5 : m ≤ 5 := by omega
          have hsm : wr.cell? ⟨w.heap.size, 5 + m, none⟩ = some (.int .i64 (Sp.getD ⟨⟨id, ref, sku, qty, amount⟩, d0, d1, d2, d3, d4, d5, cancel⟩ m)) := by
            rw [hSc.out]
            have : m = 0 ∨ m = 1 ∨ m = 2 ∨ m = 3 ∨ m = 4 ∨ m = 5 := by omega
            rcases this with rfl | rfl | rfl | rfl | rfl | rfl <;> rfl
          generalize hg : Sp.getD ⟨⟨id, ref, sku, qty, amount⟩, d0, d1, d2, d3, d4, d5, cancel⟩ m = g at hsm
          clear hw
          replace hm := Lib.hid hm
          by_cases h4 : g = 4
          · subst h4
            cases hst : Sp.stop ⟨⟨i, r, k, q, a⟩, e0, e1, e2, e3, e4, e5, c⟩ with
            | none =>
              have hv : stopRes (Sp.stop ⟨⟨i, r, k, q, a⟩, e0, e1, e2, e3, e4, e5, c⟩) = .tuple #[.agg #[.int .i64 0, .string (str []), .string (str []), .int .i64 0, .int .i64 0, .int .i64 0, .int .i64 0, .int .i64 0, .int .i64 0, .int .i64 0, .int .i64 0, .bool false], .int .i64 92] := by rw [hst]; rfl
              replace hv := Lib.hid hv
              replace hst := Lib.hid hst
              go_wp2_with (first | (go_at_call 89; refine Calls.mono (Waits_any ⟨⟨_, _, _, _, _⟩, _, _, _, _, _, _, _⟩ _) ?_; rintro e w3 ⟨rfl, hb3⟩; rw [hr]; obtain ⟨hc3, hf3, hr3, hz3⟩ := brow hb3) | (go_at_call 53; refine Calls.mono (Stop_any ⟨⟨_, _, _, _, _⟩, _, _, _, _, _, _, _⟩ _ (fun _ => hw0)) ?_; rintro e w4 ⟨rfl, hb4⟩; rw [hv.out]; obtain ⟨hc4, hf4, hr4, hz4⟩ := brow hb4; have hlt4 : w2.heap.size < w4.heap.size := (by omega); have hlt5 : w.heap.size < w4.heap.size := (by omega)))
              have hrT : w4.row? w2.heap.size = some (sagaRow ⟨⟨i, r, k, q, a⟩, e0, e1, e2, e3, e4, e5, c⟩) := by rw [hr4, if_pos (by omega), hr3, if_pos (by omega)]; exact hT.out
              have hrS : w4.row? w.heap.size = some (sagaRow ⟨⟨id, ref, sku, qty, amount⟩, d0, d1, d2, d3, d4, d5, cancel⟩) := by rw [hr4, if_pos (by omega), hr3, if_pos (by omega)]; exact hS.out
              refine wp_world (fun w' => w'.row? w2.heap.size = some (sagaRow ⟨⟨0, [], [], 0, 0⟩, 0, 0, 0, 0, 0, 0, false⟩) ∧ w'.row? w.heap.size = some (sagaRow ⟨⟨id, ref, sku, qty, amount⟩, d0, d1, d2, d3, d4, d5, cancel⟩) ∧ Below w.heap.size w w') ⟨?_, ?_, ?_⟩ ?_
              · exact row_set12 hrT
              · rw [row_other12 (show w.heap.size ≠ w2.heap.size by omega)]; exact hrS
              · have h34 := Grew.trans (Grew.trans hB hb3) hb4
                (repeat (first | (with_reducible first | exact zR _ _ | exact zA _ _ | assumption | refine zL ?_ _ | refine zD ?_ | refine zN ?_ _) | ((with_reducible first | refine zC ?_ ?_ _ | refine zW ?_ ?_ _); rotate_left; focus (first | exact Nat.le_refl _ | (simp; done) | (simp; omega) | omega)) | with_reducible refine zT ?_ (by assumption)))
              rintro w5 ⟨h5T, h5S, h5B⟩
              have hsm5 := sagaRow_at h5S hm5
              have htm5 := sagaRow_at h5T hm5
              rw [hg] at hsm5
              have hl5 := row?_lt h5T
              clear hc3 hf3 hr3 hz3 hc4 hf4 hr4 hz4 hTc hTf hrT hrS hS5 hS6 hS7 hS8 hS9 hS10 hS11 hsm heq
              generalize hg5 : Sp.getD ⟨⟨0, [], [], 0, 0⟩, 0, 0, 0, 0, 0, 0, false⟩ m = g5 at htm5
              replace hg5 := Lib.hid hg5
              replace h5T := Lib.hid h5T
              replace h5S := Lib.hid h5S
              have hmI : (0 : Int) ≤ m ∧ (m : Int) < 6 := by omega
              obtain ⟨hmI0, hmI1⟩ := hmI
              have h54 : g5 = 0 := by rw [← hg5.out]; (have hm6 : m = 0 ∨ m = 1 ∨ m = 2 ∨ m = 3 ∨ m = 4 ∨ m = 5 := by omega); rcases hm6 with rfl | rfl | rfl | rfl | rfl | rfl <;> rfl
              subst h54
              go_quiet (fail)
              go_wp2
              go_ret
              have hnx := Sp.next_none (Sp.step_stop hm.out hg hst.out)
              exact ⟨congrArg (fun b => Ending.returned (.bool b)) ((Sp.validAt_none hns hnx).symm.trans HV.out), Below.trans h5B ((below_drewN w5 nq).mono h5B.size)⟩
            | some t2 =>
              obtain ⟨ti, tr, tk, tq, ta, t0, t1, t2', t3, t4, t5, tc, rfl, hlit⟩ := sagaVal_lit t2
              have hv : stopRes (Sp.stop ⟨⟨i, r, k, q, a⟩, e0, e1, e2, e3, e4, e5, c⟩) = .tuple #[.agg #[.int .i64 ti, .string (str tr), .string (str tk), .int .i64 tq, .int .i64 ta, .int .i64 t0, .int .i64 t1, .int .i64 t2', .int .i64 t3, .int .i64 t4, .int .i64 t5, .bool tc], .int .i64 0] := by rw [hst]; rfl
              replace hv := Lib.hid hv
              replace hst := Lib.hid hst
              replace hlit := Lib.hid hlit
              go_wp2_with (first | (go_at_call 89; refine Calls.mono (Waits_any ⟨⟨_, _, _, _, _⟩, _, _, _, _, _, _, _⟩ _) ?_; rintro e w3 ⟨rfl, hb3⟩; rw [hr]; obtain ⟨hc3, hf3, hr3, hz3⟩ := brow hb3) | (go_at_call 53; refine Calls.mono (Stop_any ⟨⟨_, _, _, _, _⟩, _, _, _, _, _, _, _⟩ _ (fun _ => hw0)) ?_; rintro e w4 ⟨rfl, hb4⟩; rw [hv.out]; obtain ⟨hc4, hf4, hr4, hz4⟩ := brow hb4; have hlt4 : w2.heap.size < w4.heap.size := (by omega); have hlt5 : w.heap.size < w4.heap.size := (by omega)))
              have hrT : w4.row? w2.heap.size = some (sagaRow ⟨⟨i, r, k, q, a⟩, e0, e1, e2, e3, e4, e5, c⟩) := by rw [hr4, if_pos (by omega), hr3, if_pos (by omega)]; exact hT.out
              have hrS : w4.row? w.heap.size = some (sagaRow ⟨⟨id, ref, sku, qty, amount⟩, d0, d1, d2, d3, d4, d5, cancel⟩) := by rw [hr4, if_pos (by omega), hr3, if_pos (by omega)]; exact hS.out
              refine wp_world (fun w' => w'.row? w2.heap.size = some (sagaRow ⟨⟨ti, tr, tk, tq, ta⟩, t0, t1, t2', t3, t4, t5, tc⟩) ∧ w'.row? w.heap.size = some (sagaRow ⟨⟨id, ref, sku, qty, amount⟩, d0, d1, d2, d3, d4, d5, cancel⟩) ∧ Below w.heap.size w w') ⟨?_, ?_, ?_⟩ ?_
              · exact row_set12 hrT
              · rw [row_other12 (show w.heap.size ≠ w2.heap.size by omega)]; exact hrS
              · have h34 := Grew.trans (Grew.trans hB hb3) hb4
                (repeat (first | (with_reducible first | exact zR _ _ | exact zA _ _ | assumption | refine zL ?_ _ | refine zD ?_ | refine zN ?_ _) | ((with_reducible first | refine zC ?_ ?_ _ | refine zW ?_ ?_ _); rotate_left; focus (first | exact Nat.le_refl _ | (simp; done) | (simp; omega) | omega)) | with_reducible refine zT ?_ (by assumption)))
              rintro w5 ⟨h5T, h5S, h5B⟩
              have hsm5 := sagaRow_at h5S hm5
              have htm5 := sagaRow_at h5T hm5
              rw [hg] at hsm5
              have hl5 := row?_lt h5T
              clear hc3 hf3 hr3 hz3 hc4 hf4 hr4 hz4 hTc hTf hrT hrS hS5 hS6 hS7 hS8 hS9 hS10 hS11 hsm heq
              generalize hg5 : Sp.getD ⟨⟨ti, tr, tk, tq, ta⟩, t0, t1, t2', t3, t4, t5, tc⟩ m = g5 at htm5
              replace hg5 := Lib.hid hg5
              replace h5T := Lib.hid h5T
              replace h5S := Lib.hid h5S
              have hmI : (0 : Int) ≤ m ∧ (m : Int) < 6 := by omega
              obtain ⟨hmI0, hmI1⟩ := hmI
              by_cases h54 : g5 = 4
              · subst h54
                go_quiet (fail)
                go_wp2
                have hnx := Sp.next_some (Sp.step_stop hm.out hg hst.out) hm.out
                rw [hg5.out, hg, if_pos rfl] at hnx
                refine ⟨⟨_, h5T.out, h5S.out, Below.trans h5B ((below_drewN w5 nq).mono h5B.size), hlt3, (Sp.validAt_step hns hnx).symm.trans HV.out⟩, ?_⟩
                rw [opensAt_of (show (w5.drewN nq).row? w2.heap.size = _ from h5T.out), opensAt_of hT.out]
                have := Sp.opens_next hnx
                omega
              · have h54' : (g5 == 4) = false := by simpa using h54
                go_quiet (fail)
                go_wp2
                go_ret
                have hnx := Sp.next_some (Sp.step_stop hm.out hg hst.out) hm.out
                rw [hg5.out, hg, if_neg h54] at hnx
                exact ⟨congrArg (fun b => Ending.returned (.bool b)) ((Sp.validAt_none hns hnx).symm.trans HV.out), Below.trans h5B ((below_drewN w5 nq).mono h5B.size)⟩
          · have h4' : (g == 4) = false := by simpa using h4
            by_cases h3 : g = 3
            · subst h3
              cases hst : Sp.reply ⟨⟨i, r, k, q, a⟩, e0, e1, e2, e3, e4, e5, c⟩ m 2 with
              | none =>
                have hv : replyRes (Sp.reply ⟨⟨i, r, k, q, a⟩, e0, e1, e2, e3, e4, e5, c⟩ m 2) = .tuple #[.agg #[.int .i64 0, .string (str []), .string (str []), .int .i64 0, .int .i64 0, .int .i64 0, .int .i64 0, .int .i64 0, .int .i64 0, .int .i64 0, .int .i64 0, .bool false], .bool false] := by rw [hst]; rfl
                replace hv := Lib.hid hv
                replace hst := Lib.hid hst
                go_wp2_with (first | (go_at_call 89; refine Calls.mono (Waits_any ⟨⟨_, _, _, _, _⟩, _, _, _, _, _, _, _⟩ _) ?_; rintro e w3 ⟨rfl, hb3⟩; rw [hr]; obtain ⟨hc3, hf3, hr3, hz3⟩ := brow hb3) | (go_at_call 54; refine Calls.mono (Reply_any ⟨⟨_, _, _, _, _⟩, _, _, _, _, _, _, _⟩ m 2 _) ?_; rintro e w4 ⟨rfl, hb4⟩; rw [hv.out]; obtain ⟨hc4, hf4, hr4, hz4⟩ := brow hb4; have hlt4 : w2.heap.size < w4.heap.size := (by omega); have hlt5 : w.heap.size < w4.heap.size := (by omega)))
                have hrT : w4.row? w2.heap.size = some (sagaRow ⟨⟨i, r, k, q, a⟩, e0, e1, e2, e3, e4, e5, c⟩) := by rw [hr4, if_pos (by omega), hr3, if_pos (by omega)]; exact hT.out
                have hrS : w4.row? w.heap.size = some (sagaRow ⟨⟨id, ref, sku, qty, amount⟩, d0, d1, d2, d3, d4, d5, cancel⟩) := by rw [hr4, if_pos (by omega), hr3, if_pos (by omega)]; exact hS.out
                refine wp_world (fun w' => w'.row? w2.heap.size = some (sagaRow ⟨⟨0, [], [], 0, 0⟩, 0, 0, 0, 0, 0, 0, false⟩) ∧ w'.row? w.heap.size = some (sagaRow ⟨⟨id, ref, sku, qty, amount⟩, d0, d1, d2, d3, d4, d5, cancel⟩) ∧ Below w.heap.size w w') ⟨?_, ?_, ?_⟩ ?_
                · exact row_set12 hrT
                · rw [row_other12 (show w.heap.size ≠ w2.heap.size by omega)]; exact hrS
                · have h34 := Grew.trans (Grew.trans hB hb3) hb4
                  (repeat (first | (with_reducible first | exact zR _ _ | exact zA _ _ | assumption | refine zL ?_ _ | refine zD ?_ | refine zN ?_ _) | ((with_reducible first | refine zC ?_ ?_ _ | refine zW ?_ ?_ _); rotate_left; focus (first | exact Nat.le_refl _ | (simp; done) | (simp; omega) | omega)) | with_reducible refine zT ?_ (by assumption)))
                rintro w5 ⟨h5T, h5S, h5B⟩
                have hsm5 := sagaRow_at h5S hm5
                have htm5 := sagaRow_at h5T hm5
                rw [hg] at hsm5
                have hl5 := row?_lt h5T
                clear hc3 hf3 hr3 hz3 hc4 hf4 hr4 hz4 hTc hTf hrT hrS hS5 hS6 hS7 hS8 hS9 hS10 hS11 hsm heq
                generalize hg5 : Sp.getD ⟨⟨0, [], [], 0, 0⟩, 0, 0, 0, 0, 0, 0, false⟩ m = g5 at htm5
                replace hg5 := Lib.hid hg5
                replace h5T := Lib.hid h5T
                replace h5S := Lib.hid h5S
                have hmI : (0 : Int) ≤ m ∧ (m : Int) < 6 := by omega
                obtain ⟨hmI0, hmI1⟩ := hmI
                go_quiet (fail)
                go_wp2
                go_ret
                have hnx := Sp.next_none (Sp.step_r2 hm.out hg hst.out)
                exact ⟨congrArg (fun b => Ending.returned (.bool b)) ((Sp.validAt_none hns hnx).symm.trans HV.out), Below.trans h5B ((below_drewN w5 nq).mono h5B.size)⟩
              | some t2 =>
                obtain ⟨ti, tr, tk, tq, ta, t0, t1, t2', t3, t4, t5, tc, rfl, hlit⟩ := sagaVal_lit t2
                have hv : replyRes (Sp.reply ⟨⟨i, r, k, q, a⟩, e0, e1, e2, e3, e4, e5, c⟩ m 2) = .tuple #[.agg #[.int .i64 ti, .string (str tr), .string (str tk), .int .i64 tq, .int .i64 ta, .int .i64 t0, .int .i64 t1, .int .i64 t2', .int .i64 t3, .int .i64 t4, .int .i64 t5, .bool tc], .bool true] := by rw [hst]; rfl
                replace hv := Lib.hid hv
                replace hst := Lib.hid hst
                replace hlit := Lib.hid hlit
                go_wp2_with (first | (go_at_call 89; refine Calls.mono (Waits_any ⟨⟨_, _, _, _, _⟩, _, _, _, _, _, _, _⟩ _) ?_; rintro e w3 ⟨rfl, hb3⟩; rw [hr]; obtain ⟨hc3, hf3, hr3, hz3⟩ := brow hb3) | (go_at_call 54; refine Calls.mono (Reply_any ⟨⟨_, _, _, _, _⟩, _, _, _, _, _, _, _⟩ m 2 _) ?_; rintro e w4 ⟨rfl, hb4⟩; rw [hv.out]; obtain ⟨hc4, hf4, hr4, hz4⟩ := brow hb4; have hlt4 : w2.heap.size < w4.heap.size := (by omega); have hlt5 : w.heap.size < w4.heap.size := (by omega)))
                have hrT : w4.row? w2.heap.size = some (sagaRow ⟨⟨i, r, k, q, a⟩, e0, e1, e2, e3, e4, e5, c⟩) := by rw [hr4, if_pos (by omega), hr3, if_pos (by omega)]; exact hT.out
                have hrS : w4.row? w.heap.size = some (sagaRow ⟨⟨id, ref, sku, qty, amount⟩, d0, d1, d2, d3, d4, d5, cancel⟩) := by rw [hr4, if_pos (by omega), hr3, if_pos (by omega)]; exact hS.out
                refine wp_world (fun w' => w'.row? w2.heap.size = some (sagaRow ⟨⟨ti, tr, tk, tq, ta⟩, t0, t1, t2', t3, t4, t5, tc⟩) ∧ w'.row? w.heap.size = some (sagaRow ⟨⟨id, ref, sku, qty, amount⟩, d0, d1, d2, d3, d4, d5, cancel⟩) ∧ Below w.heap.size w w') ⟨?_, ?_, ?_⟩ ?_
                · exact row_set12 hrT
                · rw [row_other12 (show w.heap.size ≠ w2.heap.size by omega)]; exact hrS
                · have h34 := Grew.trans (Grew.trans hB hb3) hb4
                  (repeat (first | (with_reducible first | exact zR _ _ | exact zA _ _ | assumption | refine zL ?_ _ | refine zD ?_ | refine zN ?_ _) | ((with_reducible first | refine zC ?_ ?_ _ | refine zW ?_ ?_ _); rotate_left; focus (first | exact Nat.le_refl _ | (simp; done) | (simp; omega) | omega)) | with_reducible refine zT ?_ (by assumption)))
                rintro w5 ⟨h5T, h5S, h5B⟩
                have hsm5 := sagaRow_at h5S hm5
                have htm5 := sagaRow_at h5T hm5
                rw [hg] at hsm5
                have hl5 := row?_lt h5T
                clear hc3 hf3 hr3 hz3 hc4 hf4 hr4 hz4 hTc hTf hrT hrS hS5 hS6 hS7 hS8 hS9 hS10 hS11 hsm heq
                generalize hg5 : Sp.getD ⟨⟨ti, tr, tk, tq, ta⟩, t0, t1, t2', t3, t4, t5, tc⟩ m = g5 at htm5
                replace hg5 := Lib.hid hg5
                replace h5T := Lib.hid h5T
                replace h5S := Lib.hid h5S
                have hmI : (0 : Int) ≤ m ∧ (m : Int) < 6 := by omega
                obtain ⟨hmI0, hmI1⟩ := hmI
                by_cases h54 : g5 = 3
                · subst h54
                  go_quiet (fail)
                  go_wp2
                  have hnx := Sp.next_some (Sp.step_r2 hm.out hg hst.out) hm.out
                  rw [hg5.out, hg, if_pos rfl] at hnx
                  refine ⟨⟨_, h5T.out, h5S.out, Below.trans h5B ((below_drewN w5 nq).mono h5B.size), hlt3, (Sp.validAt_step hns hnx).symm.trans HV.out⟩, ?_⟩
                  rw [opensAt_of (show (w5.drewN nq).row? w2.heap.size = _ from h5T.out), opensAt_of hT.out]
                  have := Sp.opens_next hnx
                  omega
                · have h54' : (g5 == 3) = false := by simpa using h54
                  go_quiet (fail)
                  go_wp2
                  go_ret
                  have hnx := Sp.next_some (Sp.step_r2 hm.out hg hst.out) hm.out
                  rw [hg5.out, hg, if_neg h54] at hnx
                  exact ⟨congrArg (fun b => Ending.returned (.bool b)) ((Sp.validAt_none hns hnx).symm.trans HV.out), Below.trans h5B ((below_drewN w5 nq).mono h5B.size)⟩
            · have h3' : (g == 3) = false := by simpa using h3
              cases hst : Sp.reply ⟨⟨i, r, k, q, a⟩, e0, e1, e2, e3, e4, e5, c⟩ m 1 with
              | none =>
                have hv : replyRes (Sp.reply ⟨⟨i, r, k, q, a⟩, e0, e1, e2, e3, e4, e5, c⟩ m 1) = .tuple #[.agg #[.int .i64 0, .string (str []), .string (str []), .int .i64 0, .int .i64 0, .int .i64 0, .int .i64 0, .int .i64 0, .int .i64 0, .int .i64 0, .int .i64 0, .bool false], .bool false] := by rw [hst]; rfl
                replace hv := Lib.hid hv
                replace hst := Lib.hid hst
                go_wp2_with (first | (go_at_call 89; refine Calls.mono (Waits_any ⟨⟨_, _, _, _, _⟩, _, _, _, _, _, _, _⟩ _) ?_; rintro e w3 ⟨rfl, hb3⟩; rw [hr]; obtain ⟨hc3, hf3, hr3, hz3⟩ := brow hb3) | (go_at_call 54; refine Calls.mono (Reply_any ⟨⟨_, _, _, _, _⟩, _, _, _, _, _, _, _⟩ m 1 _) ?_; rintro e w4 ⟨rfl, hb4⟩; rw [hv.out]; obtain ⟨hc4, hf4, hr4, hz4⟩ := brow hb4; have hlt4 : w2.heap.size < w4.heap.size := (by omega); have hlt5 : w.heap.size < w4.heap.size := (by omega)))
                have hrT : w4.row? w2.heap.size = some (sagaRow ⟨⟨i, r, k, q, a⟩, e0, e1, e2, e3, e4, e5, c⟩) := by rw [hr4, if_pos (by omega), hr3, if_pos (by omega)]; exact hT.out
                have hrS : w4.row? w.heap.size = some (sagaRow ⟨⟨id, ref, sku, qty, amount⟩, d0, d1, d2, d3, d4, d5, cancel⟩) := by rw [hr4, if_pos (by omega), hr3, if_pos (by omega)]; exact hS.out
                refine wp_world (fun w' => w'.row? w2.heap.size = some (sagaRow ⟨⟨0, [], [], 0, 0⟩, 0, 0, 0, 0, 0, 0, false⟩) ∧ w'.row? w.heap.size = some (sagaRow ⟨⟨id, ref, sku, qty, amount⟩, d0, d1, d2, d3, d4, d5, cancel⟩) ∧ Below w.heap.size w w') ⟨?_, ?_, ?_⟩ ?_
                · exact row_set12 hrT
                · rw [row_other12 (show w.heap.size ≠ w2.heap.size by omega)]; exact hrS
                · have h34 := Grew.trans (Grew.trans hB hb3) hb4
                  (repeat (first | (with_reducible first | exact zR _ _ | exact zA _ _ | assumption | refine zL ?_ _ | refine zD ?_ | refine zN ?_ _) | ((with_reducible first | refine zC ?_ ?_ _ | refine zW ?_ ?_ _); rotate_left; focus (first | exact Nat.le_refl _ | (simp; done) | (simp; omega) | omega)) | with_reducible refine zT ?_ (by assumption)))
                rintro w5 ⟨h5T, h5S, h5B⟩
                have hsm5 := sagaRow_at h5S hm5
                have htm5 := sagaRow_at h5T hm5
                rw [hg] at hsm5
                have hl5 := row?_lt h5T
                clear hc3 hf3 hr3 hz3 hc4 hf4 hr4 hz4 hTc hTf hrT hrS hS5 hS6 hS7 hS8 hS9 hS10 hS11 hsm heq
                generalize hg5 : Sp.getD ⟨⟨0, [], [], 0, 0⟩, 0, 0, 0, 0, 0, 0, false⟩ m = g5 at htm5
                replace hg5 := Lib.hid hg5
                replace h5T := Lib.hid h5T
                replace h5S := Lib.hid h5S
                have hmI : (0 : Int) ≤ m ∧ (m : Int) < 6 := by omega
                obtain ⟨hmI0, hmI1⟩ := hmI
                go_quiet (fail)
                go_wp2
                go_ret
                have hnx := Sp.next_none (Sp.step_r1 hm.out hg h4 h3 hst.out)
                exact ⟨congrArg (fun b => Ending.returned (.bool b)) ((Sp.validAt_none hns hnx).symm.trans HV.out), Below.trans h5B ((below_drewN w5 nq).mono h5B.size)⟩
              | some t2 =>
                obtain ⟨ti, tr, tk, tq, ta, t0, t1, t2', t3, t4, t5, tc, rfl, hlit⟩ := sagaVal_lit t2
                have hv : replyRes (Sp.reply ⟨⟨i, r, k, q, a⟩, e0, e1, e2, e3, e4, e5, c⟩ m 1) = .tuple #[.agg #[.int .i64 ti, .string (str tr), .string (str tk), .int .i64 tq, .int .i64 ta, .int .i64 t0, .int .i64 t1, .int .i64 t2', .int .i64 t3, .int .i64 t4, .int .i64 t5, .bool tc], .bool true] := by rw [hst]; rfl
                replace hv := Lib.hid hv
                replace hst := Lib.hid hst
                replace hlit := Lib.hid hlit
                go_wp2_with (first | (go_at_call 89; refine Calls.mono (Waits_any ⟨⟨_, _, _, _, _⟩, _, _, _, _, _, _, _⟩ _) ?_; rintro e w3 ⟨rfl, hb3⟩; rw [hr]; obtain ⟨hc3, hf3, hr3, hz3⟩ := brow hb3) | (go_at_call 54; refine Calls.mono (Reply_any ⟨⟨_, _, _, _, _⟩, _, _, _, _, _, _, _⟩ m 1 _) ?_; rintro e w4 ⟨rfl, hb4⟩; rw [hv.out]; obtain ⟨hc4, hf4, hr4, hz4⟩ := brow hb4; have hlt4 : w2.heap.size < w4.heap.size := (by omega); have hlt5 : w.heap.size < w4.heap.size := (by omega)))
                have hrT : w4.row? w2.heap.size = some (sagaRow ⟨⟨i, r, k, q, a⟩, e0, e1, e2, e3, e4, e5, c⟩) := by rw [hr4, if_pos (by omega), hr3, if_pos (by omega)]; exact hT.out
                have hrS : w4.row? w.heap.size = some (sagaRow ⟨⟨id, ref, sku, qty, amount⟩, d0, d1, d2, d3, d4, d5, cancel⟩) := by rw [hr4, if_pos (by omega), hr3, if_pos (by omega)]; exact hS.out
                refine wp_world (fun w' => w'.row? w2.heap.size = some (sagaRow ⟨⟨ti, tr, tk, tq, ta⟩, t0, t1, t2', t3, t4, t5, tc⟩) ∧ w'.row? w.heap.size = some (sagaRow ⟨⟨id, ref, sku, qty, amount⟩, d0, d1, d2, d3, d4, d5, cancel⟩) ∧ Below w.heap.size w w') ⟨?_, ?_, ?_⟩ ?_
                · exact row_set12 hrT
                · rw [row_other12 (show w.heap.size ≠ w2.heap.size by omega)]; exact hrS
                · have h34 := Grew.trans (Grew.trans hB hb3) hb4
                  (repeat (first | (with_reducible first | exact zR _ _ | exact zA _ _ | assumption | refine zL ?_ _ | refine zD ?_ | refine zN ?_ _) | ((with_reducible first | refine zC ?_ ?_ _ | refine zW ?_ ?_ _); rotate_left; focus (first | exact Nat.le_refl _ | (simp; done) | (simp; omega) | omega)) | with_reducible refine zT ?_ (by assumption)))
                rintro w5 ⟨h5T, h5S, h5B⟩
                have hsm5 := sagaRow_at h5S hm5
                have htm5 := sagaRow_at h5T hm5
                rw [hg] at hsm5
                have hl5 := row?_lt h5T
                clear hc3 hf3 hr3 hz3 hc4 hf4 hr4 hz4 hTc hTf hrT hrS hS5 hS6 hS7 hS8 hS9 hS10 hS11 hsm heq
                generalize hg5 : Sp.getD ⟨⟨ti, tr, tk, tq, ta⟩, t0, t1, t2', t3, t4, t5, tc⟩ m = g5 at htm5
                replace hg5 := Lib.hid hg5
                replace h5T := Lib.hid h5T
                replace h5S := Lib.hid h5S
                have hmI : (0 : Int) ≤ m ∧ (m : Int) < 6 := by omega
                obtain ⟨hmI0, hmI1⟩ := hmI
                by_cases h54 : g5 = g
                · subst h54
                  go_quiet (fail)
                  go_wp2
                  have hnx := Sp.next_some (Sp.step_r1 hm.out hg h4 h3 hst.out) hm.out
                  rw [hg5.out, hg, if_pos rfl] at hnx
                  refine ⟨⟨_, h5T.out, h5S.out, Below.trans h5B ((below_drewN w5 nq).mono h5B.size), hlt3, (Sp.validAt_step hns hnx).symm.trans HV.out⟩, ?_⟩
                  rw [opensAt_of (show (w5.drewN nq).row? w2.heap.size = _ from h5T.out), opensAt_of hT.out]
                  have := Sp.opens_next hnx
                  omega
                · have h54' : (g5 == g) = false := by simpa using h54
                  go_quiet (fail)
                  go_wp2
                  go_ret
                  have hnx := Sp.next_some (Sp.step_r1 hm.out hg h4 h3 hst.out) hm.out
                  rw [hg5.out, hg, if_neg h54] at hnx
                  exact ⟨congrArg (fun b => Ending.returned (.bool b)) ((Sp.validAt_none hns hnx).symm.trans HV.out), Below.trans h5B ((below_drewN w5 nq).mono h5B.size)⟩
      · have hns : ¬ Sp.same ⟨⟨i, r, k, q, a⟩, e0, e1, e2, e3, e4, e5, c⟩ ⟨⟨id, ref, sku, qty, amount⟩, d0, d1, d2, d3, d4, d5, cancel⟩ = true := by
          simp only [Sp.same, hD]; simp
        have hw := waits_range ⟨⟨i, r, k, q, a⟩, e0, e1, e2, e3, e4, e5, c⟩
        rcases (show Sp.waits ⟨⟨i, r, k, q, a⟩, e0, e1, e2, e3, e4, e5, c⟩ < 0 ∨ 0 ≤ Sp.waits ⟨⟨i, r, k, q, a⟩, e0, e1, e2, e3, e4, e5, c⟩ by omega) with hw0 | hw0
        · have hr := waitsRes_no (show Sp.waits ⟨⟨i, r, k, q, a⟩, e0, e1, e2, e3, e4, e5, c⟩ = -1 by omega)
          have hnx : Sp.next ⟨⟨id, ref, sku, qty, amount⟩, d0, d1, d2, d3, d4, d5, cancel⟩ ⟨⟨i, r, k, q, a⟩, e0, e1, e2, e3, e4, e5, c⟩ = none := by unfold Sp.next; rw [if_pos hw0]
          replace hnx := Lib.hid hnx
          clear hw hw0
          go_wp2_with (go_at_call 89; refine Calls.mono (Waits_any ⟨⟨_, _, _, _, _⟩, _, _, _, _, _, _, _⟩ _) ?_; rintro e w3 ⟨rfl, hb3⟩; rw [hr]; obtain ⟨hc3, hf3, hr3, hz3⟩ := brow hb3)
          go_ret
          exact ⟨congrArg (fun b => Ending.returned (.bool b)) ((Sp.validAt_none hns hnx.out).symm.trans HV.out), Grew.trans hB hb3⟩
        · obtain ⟨m, hm⟩ := Int.eq_ofNat_of_zero_le hw0
          have hr := waitsRes_yes hm (by omega)
          have hm5 : m ≤ 5 := by omega
          have hsm : wr.cell? ⟨w.heap.size, 5 + m, none⟩ = some (.int .i64 (Sp.getD ⟨⟨id, ref, sku, qty, amount⟩, d0, d1, d2, d3, d4, d5, cancel⟩ m)) := by
            rw [hSc.out]
            have : m = 0 ∨ m = 1 ∨ m = 2 ∨ m = 3 ∨ m = 4 ∨ m = 5 := by omega
            rcases this with rfl | rfl | rfl | rfl | rfl | rfl <;> rfl
          generalize hg : Sp.getD ⟨⟨id, ref, sku, qty, amount⟩, d0, d1, d2, d3, d4, d5, cancel⟩ m = g at hsm
          clear hw
          replace hm := Lib.hid hm
          by_cases h4 : g = 4
          · subst h4
            cases hst : Sp.stop ⟨⟨i, r, k, q, a⟩, e0, e1, e2, e3, e4, e5, c⟩ with
            | none =>
              have hv : stopRes (Sp.stop ⟨⟨i, r, k, q, a⟩, e0, e1, e2, e3, e4, e5, c⟩) = .tuple #[.agg #[.int .i64 0, .string (str []), .string (str []), .int .i64 0, .int .i64 0, .int .i64 0, .int .i64 0, .int .i64 0, .int .i64 0, .int .i64 0, .int .i64 0, .bool false], .int .i64 92] := by rw [hst]; rfl
              replace hv := Lib.hid hv
              replace hst := Lib.hid hst
              go_wp2_with (first | (go_at_call 89; refine Calls.mono (Waits_any ⟨⟨_, _, _, _, _⟩, _, _, _, _, _, _, _⟩ _) ?_; rintro e w3 ⟨rfl, hb3⟩; rw [hr]; obtain ⟨hc3, hf3, hr3, hz3⟩ := brow hb3) | (go_at_call 53; refine Calls.mono (Stop_any ⟨⟨_, _, _, _, _⟩, _, _, _, _, _, _, _⟩ _ (fun _ => hw0)) ?_; rintro e w4 ⟨rfl, hb4⟩; rw [hv.out]; obtain ⟨hc4, hf4, hr4, hz4⟩ := brow hb4; have hlt4 : w2.heap.size < w4.heap.size := (by omega); have hlt5 : w.heap.size < w4.heap.size := (by omega)))
              have hrT : w4.row? w2.heap.size = some (sagaRow ⟨⟨i, r, k, q, a⟩, e0, e1, e2, e3, e4, e5, c⟩) := by rw [hr4, if_pos (by omega), hr3, if_pos (by omega)]; exact hT.out
              have hrS : w4.row? w.heap.size = some (sagaRow ⟨⟨id, ref, sku, qty, amount⟩, d0, d1, d2, d3, d4, d5, cancel⟩) := by rw [hr4, if_pos (by omega), hr3, if_pos (by omega)]; exact hS.out
              refine wp_world (fun w' => w'.row? w2.heap.size = some (sagaRow ⟨⟨0, [], [], 0, 0⟩, 0, 0, 0, 0, 0, 0, false⟩) ∧ w'.row? w.heap.size = some (sagaRow ⟨⟨id, ref, sku, qty, amount⟩, d0, d1, d2, d3, d4, d5, cancel⟩) ∧ Below w.heap.size w w') ⟨?_, ?_, ?_⟩ ?_
              · exact row_set12 hrT
              · rw [row_other12 (show w.heap.size ≠ w2.heap.size by omega)]; exact hrS
              · have h34 := Grew.trans (Grew.trans hB hb3) hb4
                (repeat (first | (with_reducible first | exact zR _ _ | exact zA _ _ | assumption | refine zL ?_ _ | refine zD ?_ | refine zN ?_ _) | ((with_reducible first | refine zC ?_ ?_ _ | refine zW ?_ ?_ _); rotate_left; focus (first | exact Nat.le_refl _ | (simp; done) | (simp; omega) | omega)) | with_reducible refine zT ?_ (by assumption)))
              rintro w5 ⟨h5T, h5S, h5B⟩
              have hsm5 := sagaRow_at h5S hm5
              have htm5 := sagaRow_at h5T hm5
              rw [hg] at hsm5
              have hl5 := row?_lt h5T
              clear hc3 hf3 hr3 hz3 hc4 hf4 hr4 hz4 hTc hTf hrT hrS hS5 hS6 hS7 hS8 hS9 hS10 hS11 hsm heq
              generalize hg5 : Sp.getD ⟨⟨0, [], [], 0, 0⟩, 0, 0, 0, 0, 0, 0, false⟩ m = g5 at htm5
              replace hg5 := Lib.hid hg5
              replace h5T := Lib.hid h5T
              replace h5S := Lib.hid h5S
              have hmI : (0 : Int) ≤ m ∧ (m : Int) < 6 := by omega
              obtain ⟨hmI0, hmI1⟩ := hmI
              have h54 : g5 = 0 := by rw [← hg5.out]; (have hm6 : m = 0 ∨ m = 1 ∨ m = 2 ∨ m = 3 ∨ m = 4 ∨ m = 5 := by omega); rcases hm6 with rfl | rfl | rfl | rfl | rfl | rfl <;> rfl
              subst h54
              go_quiet (fail)
              go_wp2
              go_ret
              have hnx := Sp.next_none (Sp.step_stop hm.out hg hst.out)
              exact ⟨congrArg (fun b => Ending.returned (.bool b)) ((Sp.validAt_none hns hnx).symm.trans HV.out), Below.trans h5B ((below_drewN w5 nq).mono h5B.size)⟩
            | some t2 =>
              obtain ⟨ti, tr, tk, tq, ta, t0, t1, t2', t3, t4, t5, tc, rfl, hlit⟩ := sagaVal_lit t2
              have hv : stopRes (Sp.stop ⟨⟨i, r, k, q, a⟩, e0, e1, e2, e3, e4, e5, c⟩) = .tuple #[.agg #[.int .i64 ti, .string (str tr), .string (str tk), .int .i64 tq, .int .i64 ta, .int .i64 t0, .int .i64 t1, .int .i64 t2', .int .i64 t3, .int .i64 t4, .int .i64 t5, .bool tc], .int .i64 0] := by rw [hst]; rfl
              replace hv := Lib.hid hv
              replace hst := Lib.hid hst
              replace hlit := Lib.hid hlit
              go_wp2_with (first | (go_at_call 89; refine Calls.mono (Waits_any ⟨⟨_, _, _, _, _⟩, _, _, _, _, _, _, _⟩ _) ?_; rintro e w3 ⟨rfl, hb3⟩; rw [hr]; obtain ⟨hc3, hf3, hr3, hz3⟩ := brow hb3) | (go_at_call 53; refine Calls.mono (Stop_any ⟨⟨_, _, _, _, _⟩, _, _, _, _, _, _, _⟩ _ (fun _ => hw0)) ?_; rintro e w4 ⟨rfl, hb4⟩; rw [hv.out]; obtain ⟨hc4, hf4, hr4, hz4⟩ := brow hb4; have hlt4 : w2.heap.size < w4.heap.size := (by omega); have hlt5 : w.heap.size < w4.heap.size := (by omega)))
              have hrT : w4.row? w2.heap.size = some (sagaRow ⟨⟨i, r, k, q, a⟩, e0, e1, e2, e3, e4, e5, c⟩) := by rw [hr4, if_pos (by omega), hr3, if_pos (by omega)]; exact hT.out
              have hrS : w4.row? w.heap.size = some (sagaRow ⟨⟨id, ref, sku, qty, amount⟩, d0, d1, d2, d3, d4, d5, cancel⟩) := by rw [hr4, if_pos (by omega), hr3, if_pos (by omega)]; exact hS.out
              refine wp_world (fun w' => w'.row? w2.heap.size = some (sagaRow ⟨⟨ti, tr, tk, tq, ta⟩, t0, t1, t2', t3, t4, t5, tc⟩) ∧ w'.row? w.heap.size = some (sagaRow ⟨⟨id, ref, sku, qty, amount⟩, d0, d1, d2, d3, d4, d5, cancel⟩) ∧ Below w.heap.size w w') ⟨?_, ?_, ?_⟩ ?_
              · exact row_set12 hrT
              · rw [row_other12 (show w.heap.size ≠ w2.heap.size by omega)]; exact hrS
              · have h34 := Grew.trans (Grew.trans hB hb3) hb4
                (repeat (first | (with_reducible first | exact zR _ _ | exact zA _ _ | assumption | refine zL ?_ _ | refine zD ?_ | refine zN ?_ _) | ((with_reducible first | refine zC ?_ ?_ _ | refine zW ?_ ?_ _); rotate_left; focus (first | exact Nat.le_refl _ | (simp; done) | (simp; omega) | omega)) | with_reducible refine zT ?_ (by assumption)))
              rintro w5 ⟨h5T, h5S, h5B⟩
              have hsm5 := sagaRow_at h5S hm5
              have htm5 := sagaRow_at h5T hm5
              rw [hg] at hsm5
              have hl5 := row?_lt h5T
              clear hc3 hf3 hr3 hz3 hc4 hf4 hr4 hz4 hTc hTf hrT hrS hS5 hS6 hS7 hS8 hS9 hS10 hS11 hsm heq
              generalize hg5 : Sp.getD ⟨⟨ti, tr, tk, tq, ta⟩, t0, t1, t2', t3, t4, t5, tc⟩ m = g5 at htm5
              replace hg5 := Lib.hid hg5
              replace h5T := Lib.hid h5T
              replace h5S := Lib.hid h5S
              have hmI : (0 : Int) ≤ m ∧ (m : Int) < 6 := by omega
              obtain ⟨hmI0, hmI1⟩ := hmI
              by_cases h54 : g5 = 4
              · subst h54
                go_quiet (fail)
                go_wp2
                have hnx := Sp.next_some (Sp.step_stop hm.out hg hst.out) hm.out
                rw [hg5.out, hg, if_pos rfl] at hnx
                refine ⟨⟨_, h5T.out, h5S.out, Below.trans h5B ((below_drewN w5 nq).mono h5B.size), hlt3, (Sp.validAt_step hns hnx).symm.trans HV.out⟩, ?_⟩
                rw [opensAt_of (show (w5.drewN nq).row? w2.heap.size = _ from h5T.out), opensAt_of hT.out]
                have := Sp.opens_next hnx
                omega
              · have h54' : (g5 == 4) = false := by simpa using h54
                go_quiet (fail)
                go_wp2
                go_ret
                have hnx := Sp.next_some (Sp.step_stop hm.out hg hst.out) hm.out
                rw [hg5.out, hg, if_neg h54] at hnx
                exact ⟨congrArg (fun b => Ending.returned (.bool b)) ((Sp.validAt_none hns hnx).symm.trans HV.out), Below.trans h5B ((below_drewN w5 nq).mono h5B.size)⟩
          · have h4' : (g == 4) = false := by simpa using h4
            by_cases h3 : g = 3
            · subst h3
              cases hst : Sp.reply ⟨⟨i, r, k, q, a⟩, e0, e1, e2, e3, e4, e5, c⟩ m 2 with
              | none =>
                have hv : replyRes (Sp.reply ⟨⟨i, r, k, q, a⟩, e0, e1, e2, e3, e4, e5, c⟩ m 2) = .tuple #[.agg #[.int .i64 0, .string (str []), .string (str []), .int .i64 0, .int .i64 0, .int .i64 0, .int .i64 0, .int .i64 0, .int .i64 0, .int .i64 0, .int .i64 0, .bool false], .bool false] := by rw [hst]; rfl
                replace hv := Lib.hid hv
                replace hst := Lib.hid hst
                go_wp2_with (first | (go_at_call 89; refine Calls.mono (Waits_any ⟨⟨_, _, _, _, _⟩, _, _, _, _, _, _, _⟩ _) ?_; rintro e w3 ⟨rfl, hb3⟩; rw [hr]; obtain ⟨hc3, hf3, hr3, hz3⟩ := brow hb3) | (go_at_call 54; refine Calls.mono (Reply_any ⟨⟨_, _, _, _, _⟩, _, _, _, _, _, _, _⟩ m 2 _) ?_; rintro e w4 ⟨rfl, hb4⟩; rw [hv.out]; obtain ⟨hc4, hf4, hr4, hz4⟩ := brow hb4; have hlt4 : w2.heap.size < w4.heap.size := (by omega); have hlt5 : w.heap.size < w4.heap.size := (by omega)))
                have hrT : w4.row? w2.heap.size = some (sagaRow ⟨⟨i, r, k, q, a⟩, e0, e1, e2, e3, e4, e5, c⟩) := by rw [hr4, if_pos (by omega), hr3, if_pos (by omega)]; exact hT.out
                have hrS : w4.row? w.heap.size = some (sagaRow ⟨⟨id, ref, sku, qty, amount⟩, d0, d1, d2, d3, d4, d5, cancel⟩) := by rw [hr4, if_pos (by omega), hr3, if_pos (by omega)]; exact hS.out
                refine wp_world (fun w' => w'.row? w2.heap.size = some (sagaRow ⟨⟨0, [], [], 0, 0⟩, 0, 0, 0, 0, 0, 0, false⟩) ∧ w'.row? w.heap.size = some (sagaRow ⟨⟨id, ref, sku, qty, amount⟩, d0, d1, d2, d3, d4, d5, cancel⟩) ∧ Below w.heap.size w w') ⟨?_, ?_, ?_⟩ ?_
                · exact row_set12 hrT
                · rw [row_other12 (show w.heap.size ≠ w2.heap.size by omega)]; exact hrS
                · have h34 := Grew.trans (Grew.trans hB hb3) hb4
                  (repeat (first | (with_reducible first | exact zR _ _ | exact zA _ _ | assumption | refine zL ?_ _ | refine zD ?_ | refine zN ?_ _) | ((with_reducible first | refine zC ?_ ?_ _ | refine zW ?_ ?_ _); rotate_left; focus (first | exact Nat.le_refl _ | (simp; done) | (simp; omega) | omega)) | with_reducible refine zT ?_ (by assumption)))
                rintro w5 ⟨h5T, h5S, h5B⟩
                have hsm5 := sagaRow_at h5S hm5
                have htm5 := sagaRow_at h5T hm5
                rw [hg] at hsm5
                have hl5 := row?_lt h5T
                clear hc3 hf3 hr3 hz3 hc4 hf4 hr4 hz4 hTc hTf hrT hrS hS5 hS6 hS7 hS8 hS9 hS10 hS11 hsm heq
                generalize hg5 : Sp.getD ⟨⟨0, [], [], 0, 0⟩, 0, 0, 0, 0, 0, 0, false⟩ m = g5 at htm5
                replace hg5 := Lib.hid hg5
                replace h5T := Lib.hid h5T
                replace h5S := Lib.hid h5S
                have hmI : (0 : Int) ≤ m ∧ (m : Int) < 6 := by omega
                obtain ⟨hmI0, hmI1⟩ := hmI
                go_quiet (fail)
                go_wp2
                go_ret
                have hnx := Sp.next_none (Sp.step_r2 hm.out hg hst.out)
                exact ⟨congrArg (fun b => Ending.returned (.bool b)) ((Sp.validAt_none hns hnx).symm.trans HV.out), Below.trans h5B ((below_drewN w5 nq).mono h5B.size)⟩
              | some t2 =>
                obtain ⟨ti, tr, tk, tq, ta, t0, t1, t2', t3, t4, t5, tc, rfl, hlit⟩ := sagaVal_lit t2
                have hv : replyRes (Sp.reply ⟨⟨i, r, k, q, a⟩, e0, e1, e2, e3, e4, e5, c⟩ m 2) = .tuple #[.agg #[.int .i64 ti, .string (str tr), .string (str tk), .int .i64 tq, .int .i64 ta, .int .i64 t0, .int .i64 t1, .int .i64 t2', .int .i64 t3, .int .i64 t4, .int .i64 t5, .bool tc], .bool true] := by rw [hst]; rfl
                replace hv := Lib.hid hv
                replace hst := Lib.hid hst
                replace hlit := Lib.hid hlit
                go_wp2_with (first | (go_at_call 89; refine Calls.mono (Waits_any ⟨⟨_, _, _, _, _⟩, _, _, _, _, _, _, _⟩ _) ?_; rintro e w3 ⟨rfl, hb3⟩; rw [hr]; obtain ⟨hc3, hf3, hr3, hz3⟩ := brow hb3) | (go_at_call 54; refine Calls.mono (Reply_any ⟨⟨_, _, _, _, _⟩, _, _, _, _, _, _, _⟩ m 2 _) ?_; rintro e w4 ⟨rfl, hb4⟩; rw [hv.out]; obtain ⟨hc4, hf4, hr4, hz4⟩ := brow hb4; have hlt4 : w2.heap.size < w4.heap.size := (by omega); have hlt5 : w.heap.size < w4.heap.size := (by omega)))
                have hrT : w4.row? w2.heap.size = some (sagaRow ⟨⟨i, r, k, q, a⟩, e0, e1, e2, e3, e4, e5, c⟩) := by rw [hr4, if_pos (by omega), hr3, if_pos (by omega)]; exact hT.out
                have hrS : w4.row? w.heap.size = some (sagaRow ⟨⟨id, ref, sku, qty, amount⟩, d0, d1, d2, d3, d4, d5, cancel⟩) := by rw [hr4, if_pos (by omega), hr3, if_pos (by omega)]; exact hS.out
                refine wp_world (fun w' => w'.row? w2.heap.size = some (sagaRow ⟨⟨ti, tr, tk, tq, ta⟩, t0, t1, t2', t3, t4, t5, tc⟩) ∧ w'.row? w.heap.size = some (sagaRow ⟨⟨id, ref, sku, qty, amount⟩, d0, d1, d2, d3, d4, d5, cancel⟩) ∧ Below w.heap.size w w') ⟨?_, ?_, ?_⟩ ?_
                · exact row_set12 hrT
                · rw [row_other12 (show w.heap.size ≠ w2.heap.size by omega)]; exact hrS
                · have h34 := Grew.trans (Grew.trans hB hb3) hb4
                  (repeat (first | (with_reducible first | exact zR _ _ | exact zA _ _ | assumption | refine zL ?_ _ | refine zD ?_ | refine zN ?_ _) | ((with_reducible first | refine zC ?_ ?_ _ | refine zW ?_ ?_ _); rotate_left; focus (first | exact Nat.le_refl _ | (simp; done) | (simp; omega) | omega)) | with_reducible refine zT ?_ (by assumption)))
                rintro w5 ⟨h5T, h5S, h5B⟩
                have hsm5 := sagaRow_at h5S hm5
                have htm5 := sagaRow_at h5T hm5
                rw [hg] at hsm5
                have hl5 := row?_lt h5T
                clear hc3 hf3 hr3 hz3 hc4 hf4 hr4 hz4 hTc hTf hrT hrS hS5 hS6 hS7 hS8 hS9 hS10 hS11 hsm heq
                generalize hg5 : Sp.getD ⟨⟨ti, tr, tk, tq, ta⟩, t0, t1, t2', t3, t4, t5, tc⟩ m = g5 at htm5
                replace hg5 := Lib.hid hg5
                replace h5T := Lib.hid h5T
                replace h5S := Lib.hid h5S
                have hmI : (0 : Int) ≤ m ∧ (m : Int) < 6 := by omega
                obtain ⟨hmI0, hmI1⟩ := hmI
                by_cases h54 : g5 = 3
                · subst h54
                  go_quiet (fail)
                  go_wp2
                  have hnx := Sp.next_some (Sp.step_r2 hm.out hg hst.out) hm.out
                  rw [hg5.out, hg, if_pos rfl] at hnx
                  refine ⟨⟨_, h5T.out, h5S.out, Below.trans h5B ((below_drewN w5 nq).mono h5B.size), hlt3, (Sp.validAt_step hns hnx).symm.trans HV.out⟩, ?_⟩
                  rw [opensAt_of (show (w5.drewN nq).row? w2.heap.size = _ from h5T.out), opensAt_of hT.out]
                  have := Sp.opens_next hnx
                  omega
                · have h54' : (g5 == 3) = false := by simpa using h54
                  go_quiet (fail)
                  go_wp2
                  go_ret
                  have hnx := Sp.next_some (Sp.step_r2 hm.out hg hst.out) hm.out
                  rw [hg5.out, hg, if_neg h54] at hnx
                  exact ⟨congrArg (fun b => Ending.returned (.bool b)) ((Sp.validAt_none hns hnx).symm.trans HV.out), Below.trans h5B ((below_drewN w5 nq).mono h5B.size)⟩
            · have h3' : (g == 3) = false := by simpa using h3
              cases hst : Sp.reply ⟨⟨i, r, k, q, a⟩, e0, e1, e2, e3, e4, e5, c⟩ m 1 with
              | none =>
                have hv : replyRes (Sp.reply ⟨⟨i, r, k, q, a⟩, e0, e1, e2, e3, e4, e5, c⟩ m 1) = .tuple #[.agg #[.int .i64 0, .string (str []), .string (str []), .int .i64 0, .int .i64 0, .int .i64 0, .int .i64 0, .int .i64 0, .int .i64 0, .int .i64 0, .int .i64 0, .bool false], .bool false] := by rw [hst]; rfl
                replace hv := Lib.hid hv
                replace hst := Lib.hid hst
                go_wp2_with (first | (go_at_call 89; refine Calls.mono (Waits_any ⟨⟨_, _, _, _, _⟩, _, _, _, _, _, _, _⟩ _) ?_; rintro e w3 ⟨rfl, hb3⟩; rw [hr]; obtain ⟨hc3, hf3, hr3, hz3⟩ := brow hb3) | (go_at_call 54; refine Calls.mono (Reply_any ⟨⟨_, _, _, _, _⟩, _, _, _, _, _, _, _⟩ m 1 _) ?_; rintro e w4 ⟨rfl, hb4⟩; rw [hv.out]; obtain ⟨hc4, hf4, hr4, hz4⟩ := brow hb4; have hlt4 : w2.heap.size < w4.heap.size := (by omega); have hlt5 : w.heap.size < w4.heap.size := (by omega)))
                have hrT : w4.row? w2.heap.size = some (sagaRow ⟨⟨i, r, k, q, a⟩, e0, e1, e2, e3, e4, e5, c⟩) := by rw [hr4, if_pos (by omega), hr3, if_pos (by omega)]; exact hT.out
                have hrS : w4.row? w.heap.size = some (sagaRow ⟨⟨id, ref, sku, qty, amount⟩, d0, d1, d2, d3, d4, d5, cancel⟩) := by rw [hr4, if_pos (by omega), hr3, if_pos (by omega)]; exact hS.out
                refine wp_world (fun w' => w'.row? w2.heap.size = some (sagaRow ⟨⟨0, [], [], 0, 0⟩, 0, 0, 0, 0, 0, 0, false⟩) ∧ w'.row? w.heap.size = some (sagaRow ⟨⟨id, ref, sku, qty, amount⟩, d0, d1, d2, d3, d4, d5, cancel⟩) ∧ Below w.heap.size w w') ⟨?_, ?_, ?_⟩ ?_
                · exact row_set12 hrT
                · rw [row_other12 (show w.heap.size ≠ w2.heap.size by omega)]; exact hrS
                · have h34 := Grew.trans (Grew.trans hB hb3) hb4
                  (repeat (first | (with_reducible first | exact zR _ _ | exact zA _ _ | assumption | refine zL ?_ _ | refine zD ?_ | refine zN ?_ _) | ((with_reducible first | refine zC ?_ ?_ _ | refine zW ?_ ?_ _); rotate_left; focus (first | exact Nat.le_refl _ | (simp; done) | (simp; omega) | omega)) | with_reducible refine zT ?_ (by assumption)))
                rintro w5 ⟨h5T, h5S, h5B⟩
                have hsm5 := sagaRow_at h5S hm5
                have htm5 := sagaRow_at h5T hm5
                rw [hg] at hsm5
                have hl5 := row?_lt h5T
                clear hc3 hf3 hr3 hz3 hc4 hf4 hr4 hz4 hTc hTf hrT hrS hS5 hS6 hS7 hS8 hS9 hS10 hS11 hsm heq
                generalize hg5 : Sp.getD ⟨⟨0, [], [], 0, 0⟩, 0, 0, 0, 0, 0, 0, false⟩ m = g5 at htm5
                replace hg5 := Lib.hid hg5
                replace h5T := Lib.hid h5T
                replace h5S := Lib.hid h5S
                have hmI : (0 : Int) ≤ m ∧ (m : Int) < 6 := by omega
                obtain ⟨hmI0, hmI1⟩ := hmI
                go_quiet (fail)
                go_wp2
                go_ret
                have hnx := Sp.next_none (Sp.step_r1 hm.out hg h4 h3 hst.out)
                exact ⟨congrArg (fun b => Ending.returned (.bool b)) ((Sp.validAt_none hns hnx).symm.trans HV.out), Below.trans h5B ((below_drewN w5 nq).mono h5B.size)⟩
              | some t2 =>
                obtain ⟨ti, tr, tk, tq, ta, t0, t1, t2', t3, t4, t5, tc, rfl, hlit⟩ := sagaVal_lit t2
                have hv : replyRes (Sp.reply ⟨⟨i, r, k, q, a⟩, e0, e1, e2, e3, e4, e5, c⟩ m 1) = .tuple #[.agg #[.int .i64 ti, .string (str tr), .string (str tk), .int .i64 tq, .int .i64 ta, .int .i64 t0, .int .i64 t1, .int .i64 t2', .int .i64 t3, .int .i64 t4, .int .i64 t5, .bool tc], .bool true] := by rw [hst]; rfl
                replace hv := Lib.hid hv
                replace hst := Lib.hid hst
                replace hlit := Lib.hid hlit
                go_wp2_with (first | (go_at_call 89; refine Calls.mono (Waits_any ⟨⟨_, _, _, _, _⟩, _, _, _, _, _, _, _⟩ _) ?_; rintro e w3 ⟨rfl, hb3⟩; rw [hr]; obtain ⟨hc3, hf3, hr3, hz3⟩ := brow hb3) | (go_at_call 54; refine Calls.mono (Reply_any ⟨⟨_, _, _, _, _⟩, _, _, _, _, _, _, _⟩ m 1 _) ?_; rintro e w4 ⟨rfl, hb4⟩; rw [hv.out]; obtain ⟨hc4, hf4, hr4, hz4⟩ := brow hb4; have hlt4 : w2.heap.size < w4.heap.size := (by omega); have hlt5 : w.heap.size < w4.heap.size := (by omega)))
                have hrT : w4.row? w2.heap.size = some (sagaRow ⟨⟨i, r, k, q, a⟩, e0, e1, e2, e3, e4, e5, c⟩) := by rw [hr4, if_pos (by omega), hr3, if_pos (by omega)]; exact hT.out
                have hrS : w4.row? w.heap.size = some (sagaRow ⟨⟨id, ref, sku, qty, amount⟩, d0, d1, d2, d3, d4, d5, cancel⟩) := by rw [hr4, if_pos (by omega), hr3, if_pos (by omega)]; exact hS.out
                refine wp_world (fun w' => w'.row? w2.heap.size = some (sagaRow ⟨⟨ti, tr, tk, tq, ta⟩, t0, t1, t2', t3, t4, t5, tc⟩) ∧ w'.row? w.heap.size = some (sagaRow ⟨⟨id, ref, sku, qty, amount⟩, d0, d1, d2, d3, d4, d5, cancel⟩) ∧ Below w.heap.size w w') ⟨?_, ?_, ?_⟩ ?_
                · exact row_set12 hrT
                · rw [row_other12 (show w.heap.size ≠ w2.heap.size by omega)]; exact hrS
                · have h34 := Grew.trans (Grew.trans hB hb3) hb4
                  (repeat (first | (with_reducible first | exact zR _ _ | exact zA _ _ | assumption | refine zL ?_ _ | refine zD ?_ | refine zN ?_ _) | ((with_reducible first | refine zC ?_ ?_ _ | refine zW ?_ ?_ _); rotate_left; focus (first | exact Nat.le_refl _ | (simp; done) | (simp; omega) | omega)) | with_reducible refine zT ?_ (by assumption)))
                rintro w5 ⟨h5T, h5S, h5B⟩
                have hsm5 := sagaRow_at h5S hm5
                have htm5 := sagaRow_at h5T hm5
                rw [hg] at hsm5
                have hl5 := row?_lt h5T
                clear hc3 hf3 hr3 hz3 hc4 hf4 hr4 hz4 hTc hTf hrT hrS hS5 hS6 hS7 hS8 hS9 hS10 hS11 hsm heq
                generalize hg5 : Sp.getD ⟨⟨ti, tr, tk, tq, ta⟩, t0, t1, t2', t3, t4, t5, tc⟩ m = g5 at htm5
                replace hg5 := Lib.hid hg5
                replace h5T := Lib.hid h5T
                replace h5S := Lib.hid h5S
                have hmI : (0 : Int) ≤ m ∧ (m : Int) < 6 := by omega
                obtain ⟨hmI0, hmI1⟩ := hmI
                by_cases h54 : g5 = g
                · subst h54
                  go_quiet (fail)
                  go_wp2
                  have hnx := Sp.next_some (Sp.step_r1 hm.out hg h4 h3 hst.out) hm.out
                  rw [hg5.out, hg, if_pos rfl] at hnx
                  refine ⟨⟨_, h5T.out, h5S.out, Below.trans h5B ((below_drewN w5 nq).mono h5B.size), hlt3, (Sp.validAt_step hns hnx).symm.trans HV.out⟩, ?_⟩
                  rw [opensAt_of (show (w5.drewN nq).row? w2.heap.size = _ from h5T.out), opensAt_of hT.out]
                  have := Sp.opens_next hnx
                  omega
                · have h54' : (g5 == g) = false := by simpa using h54
                  go_quiet (fail)
                  go_wp2
                  go_ret
                  have hnx := Sp.next_some (Sp.step_r1 hm.out hg h4 h3 hst.out) hm.out
                  rw [hg5.out, hg, if_neg h54] at hnx
                  exact ⟨congrArg (fun b => Ending.returned (.bool b)) ((Sp.validAt_none hns hnx).symm.trans HV.out), Below.trans h5B ((below_drewN w5 nq).mono h5B.size)⟩
  · have hv : Sp.valid s = false := by simp [Sp.valid, hk]
    rw [hv]
    obtain ⟨⟨id, ref, sku, qty, amount⟩, d0, d1, d2, d3, d4, d5, cancel⟩ := s
    simp only [sagaVal]
    have hk' : (Sp.orderCheck ⟨id, ref, sku, qty, amount⟩ == 0) = false := by simpa using hk
    replace hk' := Lib.hid hk'
    clear hk hv
    simp only at h1 h2
    go_enter Tryz.func82, Tryz.ntmps82
    go_wp2_with (go_at_call 49; refine Calls.mono (orderCheck_any _ _ _ _ _ _ (by omega) (by omega)) ?_; rintro e w1 ⟨rfl, hb⟩; have hh := hk'.out; obtain ⟨hc, hf, hr, hz⟩ := brow hb; (try simp at hz))
    go_ret
    exact ⟨rfl, Grew.trans (alloc_grew _ _) hb⟩
end Go.Proofs.YtkgpnikmdmpfaaaGreatDoor

/-
  saga.Reply, saga.Stop as one contract each; the walk of saga.Valid.
-/
import Derived.Test.YtkgpnikmdmpfaaaGreatDoorBackP14
import Derived.Test.YtkgpnikmdmpfaaaGreatDoorBackP15
import Derived.Test.YtkgpnikmdmpfaaaGreatDoorBackP16
import Derived.Test.YtkgpnikmdmpfaaaGreatDoorBackP1
import Derived.ChangeKeysEq
import Derived.DeepKeys
set_option linter.unusedVariables false
set_option linter.unusedSimpArgs false
namespace Go.Proofs.YtkgpnikmdmpfaaaGreatDoor
open Go.RowKit

set_option maxHeartbeats 1000000 in
theorem Reply_any (s : Sp.Saga) (deed code : Int) (w : World) :
    Calls Tryz.prog 54 #[sagaVal s, .int .i64 deed, .int .i64 code] w fun e w' => e = .returned (replyRes (Sp.reply s deed code)) ∧ Below w.heap.size w w' := by
  by_cases h : Sp.waits s < 0 ∨ Sp.waits s ≠ deed ∨ (code ≠ 1 ∧ (code ≠ 2 ∨ 2 < Sp.waits s))
  · have hr : Sp.reply s deed code = none := by
      unfold Sp.reply
      split
      · rfl
      · split
        · omega
        · split
          · omega
          · rfl
    rw [hr]
    exact Reply_none s deed code w h
  · obtain ⟨⟨id, ref, sku, qty, amount⟩, d0, d1, d2, d3, d4, d5, cancel⟩ := s
    have hn0 : ¬ Sp.waits ⟨⟨id, ref, sku, qty, amount⟩, d0, d1, d2, d3, d4, d5, cancel⟩ < 0 := fun e => h (.inl e)
    have hn1 : Sp.waits ⟨⟨id, ref, sku, qty, amount⟩, d0, d1, d2, d3, d4, d5, cancel⟩ = deed := by
      by_cases e : Sp.waits ⟨⟨id, ref, sku, qty, amount⟩, d0, d1, d2, d3, d4, d5, cancel⟩ = deed
      · exact e
      · exact absurd (.inr (.inl e)) h
    have hn2 : code = 1 ∨ (code = 2 ∧ deed ≤ 2) := by omega
    have hrange := waits_range ⟨⟨id, ref, sku, qty, amount⟩, d0, d1, d2, d3, d4, d5, cancel⟩
    have hr : Sp.reply ⟨⟨id, ref, sku, qty, amount⟩, d0, d1, d2, d3, d4, d5, cancel⟩ deed code = some (Sp.onward (Sp.setD ⟨⟨id, ref, sku, qty, amount⟩, d0, d1, d2, d3, d4, d5, cancel⟩ deed (if code = 1 then 2 else 3))) := by
      unfold Sp.reply
      rw [hn1] at hn0 ⊢
      rw [if_neg (by omega)]
      rcases hn2 with rfl | ⟨rfl, hd⟩
      · simp
      · simp [hd]
    rw [hr]
    rw [hn1] at hrange
    clear h hr
    rcases hn2 with rfl | ⟨rfl, hd⟩
    · rcases hrange with rfl | rfl | rfl | rfl | rfl | rfl | rfl
      · omega
      · exact Reply_0_2 id ref sku qty amount d0 d1 d2 d3 d4 d5 cancel w hn1
      · exact Reply_1_2 id ref sku qty amount d0 d1 d2 d3 d4 d5 cancel w hn1
      · exact Reply_2_2 id ref sku qty amount d0 d1 d2 d3 d4 d5 cancel w hn1
      · exact Reply_3_2 id ref sku qty amount d0 d1 d2 d3 d4 d5 cancel w hn1
      · exact Reply_4_2 id ref sku qty amount d0 d1 d2 d3 d4 d5 cancel w hn1
      · exact Reply_5_2 id ref sku qty amount d0 d1 d2 d3 d4 d5 cancel w hn1
    · rcases hrange with rfl | rfl | rfl | rfl | rfl | rfl | rfl
      · omega
      · exact Reply_0_3 id ref sku qty amount d0 d1 d2 d3 d4 d5 cancel w hn1
      · exact Reply_1_3 id ref sku qty amount d0 d1 d2 d3 d4 d5 cancel w hn1
      · exact Reply_2_3 id ref sku qty amount d0 d1 d2 d3 d4 d5 cancel w hn1
      · omega
      · omega
      · omega

set_option maxRecDepth 100000 in
set_option maxHeartbeats 8000000 in
theorem Stop_none (s : Sp.Saga) (w : World) (h : Sp.state s ≠ 0) :
    Calls Tryz.prog 53 #[sagaVal s] w fun e w' => e = .returned (stopRes none) ∧ Below w.heap.size w w' := by
  obtain ⟨⟨id, ref, sku, qty, amount⟩, d0, d1, d2, d3, d4, d5, cancel⟩ := s
  have h' : (Sp.state ⟨⟨id, ref, sku, qty, amount⟩, d0, d1, d2, d3, d4, d5, cancel⟩ == 0) = false := by simpa using h
  replace h' := Lib.hid h'
  clear h
  simp only [sagaVal]
  go_enter Tryz.func53, Tryz.ntmps53
  go_wp2_with (go_at_call 88; refine Calls.mono (State_any ⟨⟨_, _, _, _, _⟩, _, _, _, _, _, _, _⟩ _) ?_; rintro e w1 ⟨rfl, hb⟩; have hh := h'.out; obtain ⟨hc, hf, hrr, hz⟩ := brow hb; (try simp at hz); have hlt : w.heap.size + 1 < w1.heap.size := (by omega))
  refine bodyPost_ret (v := stopRes none) ?_ rfl ⟨rfl, ?_⟩
  · simp [results, Tryz.results53, go_sem, stopRes, sagaVal_default, ↓IntWalk.iteOmega, *]
  · (repeat (first | (with_reducible first | exact zR _ _ | exact zA _ _ | assumption | refine zL ?_ _ | refine zD ?_ | refine zN ?_ _) | ((with_reducible first | refine zC ?_ ?_ _ | refine zW ?_ ?_ _); rotate_left; focus (first | exact Nat.le_refl _ | (simp; done) | (simp; omega) | omega)) | with_reducible refine zT ?_ (by assumption)))

set_option maxHeartbeats 1000000 in
theorem Stop_any (s : Sp.Saga) (w : World) (hst : Sp.state s = 0 → 0 ≤ Sp.waits s) :
    Calls Tryz.prog 53 #[sagaVal s] w fun e w' => e = .returned (stopRes (Sp.stop s)) ∧ Below w.heap.size w w' := by
  by_cases h : Sp.state s = 0
  · have hr : Sp.stop s = some (Sp.onward { Sp.setD s (Sp.waits s) 4 with cancel := true }) := by unfold Sp.stop; rw [if_pos h]
    rw [hr]
    have hw := hst h
    have hrange := waits_range s
    obtain ⟨⟨id, ref, sku, qty, amount⟩, d0, d1, d2, d3, d4, d5, cancel⟩ := s
    generalize hn : Sp.waits ⟨⟨id, ref, sku, qty, amount⟩, d0, d1, d2, d3, d4, d5, cancel⟩ = n at hw hrange
    clear hr hst
    rcases hrange with rfl | rfl | rfl | rfl | rfl | rfl | rfl
    · omega
    · exact Stop_0_4 id ref sku qty amount d0 d1 d2 d3 d4 d5 cancel w hn h
    · exact Stop_1_4 id ref sku qty amount d0 d1 d2 d3 d4 d5 cancel w hn h
    · exact Stop_2_4 id ref sku qty amount d0 d1 d2 d3 d4 d5 cancel w hn h
    · exact Stop_3_4 id ref sku qty amount d0 d1 d2 d3 d4 d5 cancel w hn h
    · exact Stop_4_4 id ref sku qty amount d0 d1 d2 d3 d4 d5 cancel w hn h
    · exact Stop_5_4 id ref sku qty amount d0 d1 d2 d3 d4 d5 cancel w hn h
  · have hr : Sp.stop s = none := by unfold Sp.stop; rw [if_neg h]
    rw [hr]
    exact Stop_none s w h
end Go.Proofs.YtkgpnikmdmpfaaaGreatDoor

/-
  saga.Valid's law: how it goes on, and that it ends.
-/

set_option linter.unusedVariables false
set_option linter.unusedSimpArgs false
namespace Go.Proofs.YtkgpnikmdmpfaaaGreatDoor
namespace Sp
def open1 (d : Int) : Nat := if d = 0 ∨ d = 1 then 1 else 0
/-- How many deeds are not told yet. -/
def opens (t : Saga) : Nat := open1 t.d0 + open1 t.d1 + open1 t.d2 + open1 t.d3 + open1 t.d4 + open1 t.d5
theorem opens_onward (t : Saga) : opens (onward t) = opens t := by
  unfold onward
  repeat' split
  all_goals (simp_all [opens, open1] <;> omega)
theorem opens_set (t : Saga) (v : Int) (hv : 2 ≤ v) (hw : 0 ≤ waits t) : opens (setD t (waits t) v) + 1 = opens t := by
  have h1 : open1 v = 0 := by unfold open1; rw [if_neg (by omega)]
  have h2 : open1 1 = 1 := rfl
  unfold waits at hw ⊢
  repeat' split at hw
  all_goals simp_all [setD, opens] <;> omega
end Sp
end Go.Proofs.YtkgpnikmdmpfaaaGreatDoor

/-
  What '==' says of this program's arrays and structs.
-/

set_option linter.unusedVariables false
set_option linter.unusedSimpArgs false
namespace Go.Proofs.YtkgpnikmdmpfaaaGreatDoor
open Go.RowKit

theorem info_int : ∃ i, Tryz.prog.info? 3 = some i := by
  have h : (Tryz.prog.info? 3).isSome = true := by kernel_rfl
  exact Option.isSome_iff_exists.1 h
theorem cellsOf_int : Tryz.prog.cellsOf 3 = 1 := by kernel_rfl
theorem eqInt (w : World) (a b : Int) : (Op.equalIn 9999 3 (.int .i64 a) (.int .i64 b)).run Tryz.prog w = .ok (a == b) w := by kernel_rfl
theorem part6 (v0 v1 v2 v3 v4 v5 : Value) : 
    (∀ w : World, (part 3 #[v0, v1, v2, v3, v4, v5] 0).run Tryz.prog w = .ok v0 w) ∧ (∀ w : World, (part 3 #[v0, v1, v2, v3, v4, v5] 1).run Tryz.prog w = .ok v1 w) ∧
    (∀ w : World, (part 3 #[v0, v1, v2, v3, v4, v5] 2).run Tryz.prog w = .ok v2 w) ∧ (∀ w : World, (part 3 #[v0, v1, v2, v3, v4, v5] 3).run Tryz.prog w = .ok v3 w) ∧
    (∀ w : World, (part 3 #[v0, v1, v2, v3, v4, v5] 4).run Tryz.prog w = .ok v4 w) ∧ (∀ w : World, (part 3 #[v0, v1, v2, v3, v4, v5] 5).run Tryz.prog w = .ok v5 w) :=
  ⟨fun _ => by kernel_rfl, fun _ => by kernel_rfl, fun _ => by kernel_rfl, fun _ => by kernel_rfl, fun _ => by kernel_rfl, fun _ => by kernel_rfl⟩
set_option maxRecDepth 100000 in
theorem eq_deeds (w : World) (a0 a1 a2 a3 a4 a5 b0 b1 b2 b3 b4 b5 : Int) :
    (Op.equalIn 10000 74 (.agg #[.int .i64 a0, .int .i64 a1, .int .i64 a2, .int .i64 a3, .int .i64 a4, .int .i64 a5]) (.agg #[.int .i64 b0, .int .i64 b1, .int .i64 b2, .int .i64 b3, .int .i64 b4, .int .i64 b5])).run Tryz.prog w =
      .ok (a0 == b0 && a1 == b1 && a2 == b2 && a3 == b3 && a4 == b4 && a5 == b5) w := by
  obtain ⟨i, hi⟩ := info_int
  rw [run_equalIn_array w 9999 _ _ Tryz.underlying74 hi]
  obtain ⟨p0, p1, p2, p3, p4, p5⟩ := part6 (.int .i64 a0) (.int .i64 a1) (.int .i64 a2) (.int .i64 a3) (.int .i64 a4) (.int .i64 a5)
  obtain ⟨q0, q1, q2, q3, q4, q5⟩ := part6 (.int .i64 b0) (.int .i64 b1) (.int .i64 b2) (.int .i64 b3) (.int .i64 b4) (.int .i64 b5)
  simp only [List.range, List.range.loop, Op.eqItems, cellsOf_int, Nat.mul_one, Sem.run_bind, p0, p1, p2, p3, p4, p5, q0, q1, q2, q3, q4, q5, eqInt, Result.andThen_ok]
  cases h0 : a0 == b0 <;> cases h1 : a1 == b1 <;> cases h2 : a2 == b2 <;> cases h3 : a3 == b3 <;> cases h4 : a4 == b4 <;> cases h5 : a5 == b5 <;>
    simp [eqInt, q0, q1, q2, q3, q4, q5, p0, p1, p2, p3, p4, p5, h0, h1, h2, h3, h4, h5]
end Go.Proofs.YtkgpnikmdmpfaaaGreatDoor

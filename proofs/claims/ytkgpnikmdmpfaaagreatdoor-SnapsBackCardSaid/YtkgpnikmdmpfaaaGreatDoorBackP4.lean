/-
  The walks of package saga: Begin, onward, Reply, Stop, Net.
-/
import Derived.Test.YtkgpnikmdmpfaaaGreatDoorBackP3
set_option linter.unusedVariables false
set_option linter.unusedSimpArgs false
namespace Go.Proofs.YtkgpnikmdmpfaaaGreatDoor
open Go.RowKit

set_option maxRecDepth 100000 in
set_option maxHeartbeats 2000000 in
theorem Begin_any (o : Sp.Order) (w : World) :
    Calls Tryz.prog 51 #[orderVal o] w fun e w' => e = .returned (sagaVal (Sp.begin_ o)) ∧ Below w.heap.size w w' := by
  obtain ⟨id, ref, sku, qty, amount⟩ := o
  simp only [orderVal]
  go_enter Tryz.func51, Tryz.ntmps51
  go_wp2
  refine bodyPost_ret (v := sagaVal (Sp.begin_ ⟨id, ref, sku, qty, amount⟩)) ?_ rfl ⟨rfl, ?_⟩
  · simp [results, Tryz.results51, go_sem, sagaVal, Sp.begin_]
  · (repeat (first | (with_reducible first | exact zR _ _ | exact zA _ _ | assumption | refine zL ?_ _ | refine zD ?_ | refine zN ?_ _) | ((with_reducible first | refine zC ?_ ?_ _ | refine zW ?_ ?_ _); rotate_left; focus (first | exact Nat.le_refl _ | (simp; done) | (simp; omega) | omega)) | with_reducible refine zT ?_ (by assumption)))

set_option maxRecDepth 100000 in
set_option maxHeartbeats 2000000 in
theorem Net_any (s : Sp.Saga) (w : World) :
    Calls Tryz.prog 55 #[sagaVal s] w fun e w' => e = .returned (.int .i64 (Sp.net s)) ∧ Below w.heap.size w w' := by
  obtain ⟨⟨id, ref, sku, qty, amount⟩, d0, d1, d2, d3, d4, d5, cancel⟩ := s
  simp only [sagaVal]
  have h1 : d1 = 2 ∨ d1 ≠ 2 := by omega
  have h4 : d4 = 2 ∨ d4 ≠ 2 := by omega
  rcases h1 with rfl | h1 <;> rcases h4 with rfl | h4
  all_goals
    go_enter Tryz.func55, Tryz.ntmps55
    go_wp2
    go_ret
    refine ⟨ret_i64 ?_, alloc_grew _ _⟩
    simp [Sp.net, *]

/-- The second loop of onward: of the deeds behind the counter none fits. -/
def OnRel (d0 d1 d2 d3 d4 d5 : Int) (v : Value) : Prop :=
  ∃ d : Int, v = .int .i64 d ∧ -1 ≤ d ∧ d ≤ 2 ∧ (d < 2 → ¬ ((d2 = 2 ∨ d2 = 4) ∧ d5 = 0)) ∧ (d < 1 → ¬ ((d1 = 2 ∨ d1 = 4) ∧ d4 = 0)) ∧ (d < 0 → ¬ ((d0 = 2 ∨ d0 = 4) ∧ d3 = 0))

set_option maxRecDepth 100000 in
set_option maxHeartbeats 4000000 in
theorem onward_any (s : Sp.Saga) (w : World) :
    Calls Tryz.prog 90 #[sagaVal s] w fun e w' => e = .returned (sagaVal (Sp.onward s)) ∧ Below w.heap.size w w' := by
  obtain ⟨⟨id, ref, sku, qty, amount⟩, d0, d1, d2, d3, d4, d5, cancel⟩ := s
  have HS := Lib.hid (show ∀ (s : Sp.Saga) (v : Value), sagaVal (Sp.onward s) = v → Ending.returned v = .returned (sagaVal (Sp.onward s)) from fun s n h => by rw [h])
  cases HB : Sp.back ⟨⟨id, ref, sku, qty, amount⟩, d0, d1, d2, d3, d4, d5, cancel⟩
  case false =>
    have h0 : d0 = 0 ∨ d0 ≠ 0 := by omega
    have h1 : d1 = 0 ∨ d1 ≠ 0 := by omega
    have h2 : d2 = 0 ∨ d2 ≠ 0 := by omega
    rcases h0 with rfl | h0
    case' inr => rcases h1 with rfl | h1
    case' inr.inr => rcases h2 with rfl | h2
    case' inl => clear h1 h2
    case' inr.inl => clear h2
    all_goals
      simp only [sagaVal]
      go_enter Tryz.func90, Tryz.ntmps90
      go_wp2_with (go_at_call 116; refine Calls.mono (back_any ⟨⟨_, _, _, _, _⟩, _, _, _, _, _, _, _⟩ _) ?_; rintro e w1 ⟨rfl, hb⟩; obtain ⟨hc, hf, hz⟩ := bcell hb; (try simp at hz))
      refine wp_loop_rounds 4 ?_
      iterate 4 (all_goals (try (rw [rounds_succ]; go_wp2)))
      refine bodyPost_ret (v := sagaVal (Sp.onward ⟨⟨id, ref, sku, qty, amount⟩, _, _, _, d3, d4, d5, cancel⟩)) ?_ rfl ⟨rfl, ?_⟩
      · simp [results, Tryz.results90, go_sem, Sp.onward, sagaVal, *]
      · (repeat (first | (with_reducible first | exact zR _ _ | exact zA _ _ | assumption | refine zL ?_ _ | refine zD ?_ | refine zN ?_ _) | ((with_reducible first | refine zC ?_ ?_ _ | refine zW ?_ ?_ _); rotate_left; focus (first | exact Nat.le_refl _ | (simp; done) | (simp; omega) | omega)) | with_reducible refine zT ?_ (by assumption)))
  case true =>
    simp only [sagaVal]
    go_enter Tryz.func90, Tryz.ntmps90
    go_wp2_with (go_at_call 116; refine Calls.mono (back_any ⟨⟨_, _, _, _, _⟩, _, _, _, _, _, _, _⟩ _) ?_; rintro e w1 ⟨rfl, hb⟩; obtain ⟨hc, hf, hz⟩ := bcell hb; (try simp at hz))
    go_loopw [4] (fun v wr => OnRel d0 d1 d2 d3 d4 d5 v ∧ wr = w1) (fun v _ => (intOf v + 1).toNat)
    case atStart => exact ⟨⟨2, rfl, by omega, by omega, by omega, by omega, by omega⟩, rfl⟩
    case round =>
      obtain ⟨⟨d, rfl, hd0, hd1, h2, h1, h0⟩, rfl⟩ := hrel
      have H2 := Lib.hid h2
      have H1 := Lib.hid h1
      have H0 := Lib.hid h0
      clear h2 h1 h0
      have hd : d = -1 ∨ d = 0 ∨ d = 1 ∨ d = 2 := by omega
      have K : ∀ {a b : Int}, (a = 2 ∧ b = 0) ∨ (a = 4 ∧ b = 0) ∨ (a = 2 ∧ b ≠ 0) ∨ (a = 4 ∧ b ≠ 0) ∨ (a ≠ 2 ∧ a ≠ 4) := by intro a b; omega
      rcases hd with rfl | rfl | rfl | rfl
      case' inl => clear K
      case' inr.inl => rcases K (a := d0) (b := d3) with ⟨rfl, rfl⟩ | ⟨rfl, rfl⟩ | ⟨rfl, k⟩ | ⟨rfl, k⟩ | ⟨k, k'⟩
      case' inr.inr.inl => rcases K (a := d1) (b := d4) with ⟨rfl, rfl⟩ | ⟨rfl, rfl⟩ | ⟨rfl, k⟩ | ⟨rfl, k⟩ | ⟨k, k'⟩
      case' inr.inr.inr => rcases K (a := d2) (b := d5) with ⟨rfl, rfl⟩ | ⟨rfl, rfl⟩ | ⟨rfl, k⟩ | ⟨rfl, k⟩ | ⟨k, k'⟩
      all_goals
        go_wp2
        try
          (refine ⟨⟨⟨_, by go_num, by omega, by omega, fun _ => ?_, fun _ => ?_, fun _ => ?_⟩, trivial⟩, by simp [intOf]⟩
           · have := H2.out; omega
           · have := H1.out; omega
           · have := H0.out; omega)
      all_goals
        refine bodyPost_ret (v := sagaVal (Sp.onward ⟨⟨id, ref, sku, qty, amount⟩, _, _, _, _, _, _, cancel⟩)) ?_ rfl ⟨rfl, ?_⟩
        · try have G2 := H2.out (by omega)
          try have G1 := H1.out (by omega)
          try have G0 := H0.out (by omega)
          clear H0 H1 H2
          simp [results, Tryz.results90, go_sem, Sp.onward, sagaVal, *]
        · (repeat (first | (with_reducible first | exact zR _ _ | exact zA _ _ | assumption | refine zL ?_ _ | refine zD ?_ | refine zN ?_ _) | ((with_reducible first | refine zC ?_ ?_ _ | refine zW ?_ ?_ _); rotate_left; focus (first | exact Nat.le_refl _ | (simp; done) | (simp; omega) | omega)) | with_reducible refine zT ?_ (by assumption)))
end Go.Proofs.YtkgpnikmdmpfaaaGreatDoor

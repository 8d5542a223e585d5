/-
  The words of saga.Reply, saga.Stop. Written by mkreply.py.
-/
import Derived.Test.YtfkhfofoginaiaaDoorFormP5
set_option linter.unusedVariables false
set_option linter.unusedSimpArgs false
namespace Go.Proofs.YtfkhfofoginaiaaDoor
open Go.RowKit

def replyRes (r : Option Sp.Saga) : Value := .tuple #[sagaVal (r.getD default), .bool r.isSome]
def stopRes (r : Option Sp.Saga) : Value := .tuple #[sagaVal (r.getD default), .int .i64 (if r.isSome then 0 else 92)]
theorem sagaVal_lit (t : Sp.Saga) : ∃ id ref sku qty amount d0 d1 d2 d3 d4 d5 c, t = ⟨⟨id, ref, sku, qty, amount⟩, d0, d1, d2, d3, d4, d5, c⟩ ∧ sagaVal t = .agg #[.int .i64 id, .string (str ref), .string (str sku), .int .i64 qty, .int .i64 amount, .int .i64 d0, .int .i64 d1, .int .i64 d2, .int .i64 d3, .int .i64 d4, .int .i64 d5, .bool c] := by
  obtain ⟨⟨id, ref, sku, qty, amount⟩, d0, d1, d2, d3, d4, d5, cancel⟩ := t
  exact ⟨_, _, _, _, _, _, _, _, _, _, _, _, rfl, rfl⟩

theorem sagaVal_default : sagaVal default = .agg #[.int .i64 0, .string (str []), .string (str []), .int .i64 0, .int .i64 0, .int .i64 0, .int .i64 0, .int .i64 0, .int .i64 0, .int .i64 0, .int .i64 0, .bool false] := rfl

set_option maxRecDepth 100000 in
set_option maxHeartbeats 8000000 in
/-- The reply is another one's, or says what may not be. -/
theorem Reply_none (s : Sp.Saga) (deed code : Int) (w : World) (h : Sp.waits s < 0 ∨ Sp.waits s ≠ deed ∨ (code ≠ 1 ∧ (code ≠ 2 ∨ 2 < Sp.waits s))) :
    Calls Tryd.prog 55 #[sagaVal s, .int .i64 deed, .int .i64 code] w fun e w' => e = .returned (replyRes none) ∧ Below w.heap.size w w' := by
  have hcase : Sp.waits s = -1 ∨ (0 ≤ Sp.waits s ∧ Sp.waits s ≠ deed) ∨ (0 ≤ Sp.waits s ∧ Sp.waits s = deed ∧ code ≠ 1 ∧ code ≠ 2) ∨ (0 ≤ Sp.waits s ∧ Sp.waits s = deed ∧ code = 2 ∧ 2 < Sp.waits s) := by
    have := waits_range s
    omega
  obtain ⟨⟨id, ref, sku, qty, amount⟩, d0, d1, d2, d3, d4, d5, cancel⟩ := s
  rcases hcase with h1 | ⟨h1, h2⟩ | ⟨h1, h2, h3, h4⟩ | ⟨h1, h2, h3, h4⟩
  case' inl => have hr := waitsRes_no h1
  case' inr.inl =>
    generalize hn : Sp.waits _ = n at *
    have hr := waitsRes_yes hn h1
    have hd : (n == deed) = false := by simpa using h2
  case' inr.inr.inl =>
    generalize hn : Sp.waits _ = n at *
    have hr := waitsRes_yes hn h1
    subst h2
    have hd : (code == 1) = false := by simpa using h3
    have hd2 : (code == 2) = false := by simpa using h4
  case' inr.inr.inr =>
    generalize hn : Sp.waits _ = n at *
    have hr := waitsRes_yes hn h1
    subst h2
    subst h3
  all_goals
    clear h
    (try replace hn := Lib.hid hn)
    simp only [sagaVal]
    go_enter Tryd.func55, Tryd.ntmps55
    go_wp2_with (go_at_call 53; refine Calls.mono (Waits_any ⟨⟨_, _, _, _, _⟩, _, _, _, _, _, _, _⟩ _) ?_; rintro e w1 ⟨rfl, hb⟩; rw [hr]; obtain ⟨hc, hf, hrr, hz⟩ := brow hb; (try simp at hz))
    refine bodyPost_ret (v := replyRes none) ?_ rfl ⟨rfl, ?_⟩
    · simp [results, Tryd.results55, go_sem, replyRes, sagaVal_default, *]
    · (repeat (first | (with_reducible exact Below.refl _ _) | (with_reducible exact alloc_grew _ _) | (with_reducible assumption) | (with_reducible refine Grew.alloc ?_ _) | ((with_reducible refine Below.setCell ?_ ?_ _); rotate_left; focus (first | exact Nat.le_refl _ | (simp; done) | (simp; omega))) | ((with_reducible refine Below.setRow ?_ ?_ _); rotate_left; focus (first | exact Nat.le_refl _ | (simp; done) | (simp; omega) | omega)) | (with_reducible refine Grew.drew ?_) | (with_reducible refine Below.trans ?_ (keeps_drewN _ _)) | (with_reducible refine Grew.trans ?_ (by assumption))))
end Go.Proofs.YtfkhfofoginaiaaDoor

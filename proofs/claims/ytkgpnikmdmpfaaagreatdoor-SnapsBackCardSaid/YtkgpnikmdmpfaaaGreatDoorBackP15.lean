/-
  saga.Reply, where a deed was refused. Written by mkreply.py.
-/
import Derived.Test.YtkgpnikmdmpfaaaGreatDoorBackP13
set_option linter.unusedVariables false
set_option linter.unusedSimpArgs false
namespace Go.Proofs.YtkgpnikmdmpfaaaGreatDoor
open Go.RowKit

set_option maxRecDepth 100000 in
set_option maxHeartbeats 8000000 in
theorem Reply_0_3 (id : Int) (ref sku : Bytes) (qty amount d0 d1 d2 d3 d4 d5 : Int) (cancel : Bool) (w : World) (hn : Sp.waits ⟨⟨id, ref, sku, qty, amount⟩, d0, d1, d2, d3, d4, d5, cancel⟩ = 0) :
    Calls Tryz.prog 54 #[sagaVal ⟨⟨id, ref, sku, qty, amount⟩, d0, d1, d2, d3, d4, d5, cancel⟩, .int .i64 0, .int .i64 2] w fun e w' => e = .returned (replyRes (some (Sp.onward ⟨⟨id, ref, sku, qty, amount⟩, 3, d1, d2, d3, d4, d5, cancel⟩))) ∧ Below w.heap.size w w' := by
  have hr := waitsRes_yes hn (by omega)
  have HN := Lib.hid hn
  clear hn
  obtain ⟨i, r, k, q, a, e0, e1, e2, e3, e4, e5, c, ht, hv⟩ := sagaVal_lit (Sp.onward ⟨⟨id, ref, sku, qty, amount⟩, 3, d1, d2, d3, d4, d5, cancel⟩)
  have HR : replyRes (some (Sp.onward ⟨⟨id, ref, sku, qty, amount⟩, 3, d1, d2, d3, d4, d5, cancel⟩)) = .tuple #[.agg #[.int .i64 i, .string (str r), .string (str k), .int .i64 q, .int .i64 a, .int .i64 e0, .int .i64 e1, .int .i64 e2, .int .i64 e3, .int .i64 e4, .int .i64 e5, .bool c], .bool true] := by simp [replyRes, hv]
  rw [HR]
  replace HR := Lib.hid HR
  replace ht := Lib.hid ht
  replace hv := Lib.hid hv
  simp only [sagaVal]
  go_enter Tryz.func54, Tryz.ntmps54
  go_wp2_with (first | (go_at_call 89; refine Calls.mono (Waits_any ⟨⟨_, _, _, _, _⟩, _, _, _, _, _, _, _⟩ _) ?_; rintro e w1 ⟨rfl, hb⟩; rw [hr]; obtain ⟨hc, hf, hrr, hz⟩ := brow hb; (try simp at hz)) | (go_at_call 90; refine Calls.mono (onward_any ⟨⟨_, _, _, _, _⟩, _, _, _, _, _, _, _⟩ _) ?_; rintro e w2 ⟨rfl, hb2⟩; rw [hv.out]; obtain ⟨hc2, hf2, hrr2, hz2⟩ := brow hb2; (try simp at hz2)))
  refine bodyPost_ret (v := .tuple #[.agg #[.int .i64 i, .string (str r), .string (str k), .int .i64 q, .int .i64 a, .int .i64 e0, .int .i64 e1, .int .i64 e2, .int .i64 e3, .int .i64 e4, .int .i64 e5, .bool c], .bool true]) ?_ rfl ⟨rfl, ?_⟩
  · simp [results, Tryz.results54, go_sem, ↓IntWalk.iteOmega, *]
  · (repeat (first | (with_reducible first | exact zR _ _ | exact zA _ _ | assumption | refine zL ?_ _ | refine zD ?_ | refine zN ?_ _) | ((with_reducible first | refine zC ?_ ?_ _ | refine zW ?_ ?_ _); rotate_left; focus (first | exact Nat.le_refl _ | (simp; done) | (simp; omega) | omega)) | with_reducible refine zT ?_ (by assumption)))

set_option maxRecDepth 100000 in
set_option maxHeartbeats 8000000 in
theorem Reply_1_3 (id : Int) (ref sku : Bytes) (qty amount d0 d1 d2 d3 d4 d5 : Int) (cancel : Bool) (w : World) (hn : Sp.waits ⟨⟨id, ref, sku, qty, amount⟩, d0, d1, d2, d3, d4, d5, cancel⟩ = 1) :
    Calls Tryz.prog 54 #[sagaVal ⟨⟨id, ref, sku, qty, amount⟩, d0, d1, d2, d3, d4, d5, cancel⟩, .int .i64 1, .int .i64 2] w fun e w' => e = .returned (replyRes (some (Sp.onward ⟨⟨id, ref, sku, qty, amount⟩, d0, 3, d2, d3, d4, d5, cancel⟩))) ∧ Below w.heap.size w w' := by
  have hr := waitsRes_yes hn (by omega)
  have HN := Lib.hid hn
  clear hn
  obtain ⟨i, r, k, q, a, e0, e1, e2, e3, e4, e5, c, ht, hv⟩ := sagaVal_lit (Sp.onward ⟨⟨id, ref, sku, qty, amount⟩, d0, 3, d2, d3, d4, d5, cancel⟩)
  have HR : replyRes (some (Sp.onward ⟨⟨id, ref, sku, qty, amount⟩, d0, 3, d2, d3, d4, d5, cancel⟩)) = .tuple #[.agg #[.int .i64 i, .string (str r), .string (str k), .int .i64 q, .int .i64 a, .int .i64 e0, .int .i64 e1, .int .i64 e2, .int .i64 e3, .int .i64 e4, .int .i64 e5, .bool c], .bool true] := by simp [replyRes, hv]
  rw [HR]
  replace HR := Lib.hid HR
  replace ht := Lib.hid ht
  replace hv := Lib.hid hv
  simp only [sagaVal]
  go_enter Tryz.func54, Tryz.ntmps54
  go_wp2_with (first | (go_at_call 89; refine Calls.mono (Waits_any ⟨⟨_, _, _, _, _⟩, _, _, _, _, _, _, _⟩ _) ?_; rintro e w1 ⟨rfl, hb⟩; rw [hr]; obtain ⟨hc, hf, hrr, hz⟩ := brow hb; (try simp at hz)) | (go_at_call 90; refine Calls.mono (onward_any ⟨⟨_, _, _, _, _⟩, _, _, _, _, _, _, _⟩ _) ?_; rintro e w2 ⟨rfl, hb2⟩; rw [hv.out]; obtain ⟨hc2, hf2, hrr2, hz2⟩ := brow hb2; (try simp at hz2)))
  refine bodyPost_ret (v := .tuple #[.agg #[.int .i64 i, .string (str r), .string (str k), .int .i64 q, .int .i64 a, .int .i64 e0, .int .i64 e1, .int .i64 e2, .int .i64 e3, .int .i64 e4, .int .i64 e5, .bool c], .bool true]) ?_ rfl ⟨rfl, ?_⟩
  · simp [results, Tryz.results54, go_sem, ↓IntWalk.iteOmega, *]
  · (repeat (first | (with_reducible first | exact zR _ _ | exact zA _ _ | assumption | refine zL ?_ _ | refine zD ?_ | refine zN ?_ _) | ((with_reducible first | refine zC ?_ ?_ _ | refine zW ?_ ?_ _); rotate_left; focus (first | exact Nat.le_refl _ | (simp; done) | (simp; omega) | omega)) | with_reducible refine zT ?_ (by assumption)))

set_option maxRecDepth 100000 in
set_option maxHeartbeats 8000000 in
theorem Reply_2_3 (id : Int) (ref sku : Bytes) (qty amount d0 d1 d2 d3 d4 d5 : Int) (cancel : Bool) (w : World) (hn : Sp.waits ⟨⟨id, ref, sku, qty, amount⟩, d0, d1, d2, d3, d4, d5, cancel⟩ = 2) :
    Calls Tryz.prog 54 #[sagaVal ⟨⟨id, ref, sku, qty, amount⟩, d0, d1, d2, d3, d4, d5, cancel⟩, .int .i64 2, .int .i64 2] w fun e w' => e = .returned (replyRes (some (Sp.onward ⟨⟨id, ref, sku, qty, amount⟩, d0, d1, 3, d3, d4, d5, cancel⟩))) ∧ Below w.heap.size w w' := by
  have hr := waitsRes_yes hn (by omega)
  have HN := Lib.hid hn
  clear hn
  obtain ⟨i, r, k, q, a, e0, e1, e2, e3, e4, e5, c, ht, hv⟩ := sagaVal_lit (Sp.onward ⟨⟨id, ref, sku, qty, amount⟩, d0, d1, 3, d3, d4, d5, cancel⟩)
  have HR : replyRes (some (Sp.onward ⟨⟨id, ref, sku, qty, amount⟩, d0, d1, 3, d3, d4, d5, cancel⟩)) = .tuple #[.agg #[.int .i64 i, .string (str r), .string (str k), .int .i64 q, .int .i64 a, .int .i64 e0, .int .i64 e1, .int .i64 e2, .int .i64 e3, .int .i64 e4, .int .i64 e5, .bool c], .bool true] := by simp [replyRes, hv]
  rw [HR]
  replace HR := Lib.hid HR
  replace ht := Lib.hid ht
  replace hv := Lib.hid hv
  simp only [sagaVal]
  go_enter Tryz.func54, Tryz.ntmps54
  go_wp2_with (first | (go_at_call 89; refine Calls.mono (Waits_any ⟨⟨_, _, _, _, _⟩, _, _, _, _, _, _, _⟩ _) ?_; rintro e w1 ⟨rfl, hb⟩; rw [hr]; obtain ⟨hc, hf, hrr, hz⟩ := brow hb; (try simp at hz)) | (go_at_call 90; refine Calls.mono (onward_any ⟨⟨_, _, _, _, _⟩, _, _, _, _, _, _, _⟩ _) ?_; rintro e w2 ⟨rfl, hb2⟩; rw [hv.out]; obtain ⟨hc2, hf2, hrr2, hz2⟩ := brow hb2; (try simp at hz2)))
  refine bodyPost_ret (v := .tuple #[.agg #[.int .i64 i, .string (str r), .string (str k), .int .i64 q, .int .i64 a, .int .i64 e0, .int .i64 e1, .int .i64 e2, .int .i64 e3, .int .i64 e4, .int .i64 e5, .bool c], .bool true]) ?_ rfl ⟨rfl, ?_⟩
  · simp [results, Tryz.results54, go_sem, ↓IntWalk.iteOmega, *]
  · (repeat (first | (with_reducible first | exact zR _ _ | exact zA _ _ | assumption | refine zL ?_ _ | refine zD ?_ | refine zN ?_ _) | ((with_reducible first | refine zC ?_ ?_ _ | refine zW ?_ ?_ _); rotate_left; focus (first | exact Nat.le_refl _ | (simp; done) | (simp; omega) | omega)) | with_reducible refine zT ?_ (by assumption)))
end Go.Proofs.YtkgpnikmdmpfaaaGreatDoor

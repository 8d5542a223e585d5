/-
  core.Copy.
-/
import Derived.Test.YtkgpnikmdmpfaaaGreatDoorBackP21
set_option linter.unusedVariables false
set_option linter.unusedSimpArgs false
namespace Go.Proofs.YtkgpnikmdmpfaaaGreatDoor
open Go.RowKit Go.Maps

section
variable {w W W' : World} {base pc pb P Q : Nat} {vl vb v0 v1 v2 : Value} {m : Option Nat} {C : Sp.Core}
theorem coreS (h : CoreIs W base pc vl pb vb P Q v0 v1 v2 m C) (hb : Below w.heap.size w W) : (W.cell? ⟨pc, 0, none⟩ = some (vl) ∧ W.cell? ⟨pc, 1, none⟩ = some (.pointer (some ⟨pb, 0, none⟩)) ∧ W.cell? ⟨pc, 2, none⟩ = some (.int .i64 C.i.s0.party) ∧ W.cell? ⟨pc, 3, none⟩ = some (.int .i64 C.i.s0.seq) ∧ W.cell? ⟨pc, 4, none⟩ = some (v0) ∧ W.cell? ⟨pc, 5, none⟩ = some (.int .i64 C.i.s1.party) ∧ W.cell? ⟨pc, 6, none⟩ = some (.int .i64 C.i.s1.seq) ∧ W.cell? ⟨pc, 7, none⟩ = some (v1) ∧ W.cell? ⟨pc, 8, none⟩ = some (.int .i64 C.i.s2.party) ∧ W.cell? ⟨pc, 9, none⟩ = some (.int .i64 C.i.s2.seq) ∧ W.cell? ⟨pc, 10, none⟩ = some (v2) ∧ W.cell? ⟨pc, 11, none⟩ = some (.map m) ∧ Hid (CoreIs W base pc (vl) pb vb P Q (v0) (v1) (v2) m C ∧ Below w.heap.size w W)) := by
  have hc := fun o => cells_at h.head o
  exact ⟨hc 0, hc 1, hc 2, hc 3, hc 4, hc 5, hc 6, hc 7, hc 8, hc 9, hc 10, hc 11, ⟨h, hb⟩⟩
theorem coreS_is (h : (W.cell? ⟨pc, 0, none⟩ = some (vl) ∧ W.cell? ⟨pc, 1, none⟩ = some (.pointer (some ⟨pb, 0, none⟩)) ∧ W.cell? ⟨pc, 2, none⟩ = some (.int .i64 C.i.s0.party) ∧ W.cell? ⟨pc, 3, none⟩ = some (.int .i64 C.i.s0.seq) ∧ W.cell? ⟨pc, 4, none⟩ = some (v0) ∧ W.cell? ⟨pc, 5, none⟩ = some (.int .i64 C.i.s1.party) ∧ W.cell? ⟨pc, 6, none⟩ = some (.int .i64 C.i.s1.seq) ∧ W.cell? ⟨pc, 7, none⟩ = some (v1) ∧ W.cell? ⟨pc, 8, none⟩ = some (.int .i64 C.i.s2.party) ∧ W.cell? ⟨pc, 9, none⟩ = some (.int .i64 C.i.s2.seq) ∧ W.cell? ⟨pc, 10, none⟩ = some (v2) ∧ W.cell? ⟨pc, 11, none⟩ = some (.map m) ∧ Hid (CoreIs W base pc (vl) pb vb P Q (v0) (v1) (v2) m C ∧ Below w.heap.size w W))) : CoreIs W base pc vl pb vb P Q v0 v1 v2 m C ∧ Below w.heap.size w W := h.2.2.2.2.2.2.2.2.2.2.2.2.out
theorem coreS_below (h : (W.cell? ⟨pc, 0, none⟩ = some (vl) ∧ W.cell? ⟨pc, 1, none⟩ = some (.pointer (some ⟨pb, 0, none⟩)) ∧ W.cell? ⟨pc, 2, none⟩ = some (.int .i64 C.i.s0.party) ∧ W.cell? ⟨pc, 3, none⟩ = some (.int .i64 C.i.s0.seq) ∧ W.cell? ⟨pc, 4, none⟩ = some (v0) ∧ W.cell? ⟨pc, 5, none⟩ = some (.int .i64 C.i.s1.party) ∧ W.cell? ⟨pc, 6, none⟩ = some (.int .i64 C.i.s1.seq) ∧ W.cell? ⟨pc, 7, none⟩ = some (v1) ∧ W.cell? ⟨pc, 8, none⟩ = some (.int .i64 C.i.s2.party) ∧ W.cell? ⟨pc, 9, none⟩ = some (.int .i64 C.i.s2.seq) ∧ W.cell? ⟨pc, 10, none⟩ = some (v2) ∧ W.cell? ⟨pc, 11, none⟩ = some (.map m) ∧ Hid (CoreIs W base pc (vl) pb vb P Q (v0) (v1) (v2) m C ∧ Below w.heap.size w W))) (hb : Below W.heap.size W W') : (W'.cell? ⟨pc, 0, none⟩ = some (vl) ∧ W'.cell? ⟨pc, 1, none⟩ = some (.pointer (some ⟨pb, 0, none⟩)) ∧ W'.cell? ⟨pc, 2, none⟩ = some (.int .i64 C.i.s0.party) ∧ W'.cell? ⟨pc, 3, none⟩ = some (.int .i64 C.i.s0.seq) ∧ W'.cell? ⟨pc, 4, none⟩ = some (v0) ∧ W'.cell? ⟨pc, 5, none⟩ = some (.int .i64 C.i.s1.party) ∧ W'.cell? ⟨pc, 6, none⟩ = some (.int .i64 C.i.s1.seq) ∧ W'.cell? ⟨pc, 7, none⟩ = some (v1) ∧ W'.cell? ⟨pc, 8, none⟩ = some (.int .i64 C.i.s2.party) ∧ W'.cell? ⟨pc, 9, none⟩ = some (.int .i64 C.i.s2.seq) ∧ W'.cell? ⟨pc, 10, none⟩ = some (v2) ∧ W'.cell? ⟨pc, 11, none⟩ = some (.map m) ∧ Hid (CoreIs W' base pc (vl) pb vb P Q (v0) (v1) (v2) m C ∧ Below w.heap.size w W')) :=
  coreS ((coreS_is h).1.below hb) ((coreS_is h).2.trans (hb.mono (coreS_is h).2.size))
end
theorem BooksIs.base {w : World} {base base' pb P Q : Nat} {v : Value} {b : Sp.Books} (h : BooksIs w base pb v P Q b) (hb : base' ≤ base) : BooksIs w base' pb v P Q b :=
  ⟨h.head, own_base h.own hb, h.posted, h.bals, h.ne, ⟨Nat.le_trans hb h.ge.1, Nat.le_trans hb h.ge.2.1, Nat.le_trans hb h.ge.2.2⟩, h.inb, h.posts, h.few⟩
theorem copy_is {w W1 W2 : World} {base pc pb P Q kb P' Q' : Nat} {vl vb vb' v0 v1 v2 vz : Value} {m : Option Nat} {C : Sp.Core} (h : CoreIs w base pc vl pb vb P Q v0 v1 v2 m C) (ho : W1.ownsRow w.heap.size 89 12 vz C.l.length (C.l.flatMap sagaCells)) (hB1 : Below w.heap.size w W1)
    (hbk : BooksIs W2 W1.heap.size kb vb' P' Q' C.b) (hb2 : Below W1.heap.size W1 W2) :
    CoreIs (W2.alloc (.cells #[vz, .pointer (some ⟨kb, 0, none⟩), .int .i64 C.i.s0.party, .int .i64 C.i.s0.seq, v0, .int .i64 C.i.s1.party, .int .i64 C.i.s1.seq, v1, .int .i64 C.i.s2.party, .int .i64 C.i.s2.seq, v2, .map m] 62)) w.heap.size W2.heap.size vz kb vb' P' Q' v0 v1 v2 m C := by
  have s1 := hB1.size
  have s2 := hb2.size
  have hb12 : Below w.heap.size w W2 := hB1.trans (hb2.mono s1)
  have hg := hbk.ge
  refine ⟨heap_alloc_new _ _, ?_, (hbk.base s1).below (alloc_grew _ _), h.inn.below (hb12.trans ((alloc_grew W2 _).mono (Nat.le_trans s1 s2))), Nat.le_trans s1 s2, ⟨fun e => ?_, fun e => ?_⟩, h.orders, h.checked⟩
  · refine own_same ho (fun k hk => ?_)
    obtain ⟨c, hc⟩ := own_block ho hk
    have hlt := (Array.getElem?_eq_some_iff.1 hc).1
    rw [Below.heap_alloc _ _ _ (by omega), hb2.block k hlt]
  · have := h.inn.lt (.inr (.inr (.inr e))); omega
  · have := h.inn.lt (.inr (.inr (.inr e))); omega
set_option maxRecDepth 100000 in
set_option maxHeartbeats 4000000 in
theorem coreCopy_any (w : World) (base pc pb P Q : Nat) (vl vb v0 v1 v2 : Value) (m : Option Nat) (C : Sp.Core) (h : CoreIs w base pc vl pb vb P Q v0 v1 v2 m C) :
    Calls Tryz.prog 35 #[.pointer (some ⟨pc, 0, none⟩)] w fun e w' => ∃ pc' vl' pb' vb' P' Q', e = .returned (.pointer (some ⟨pc', 0, none⟩)) ∧ CoreIs w' w.heap.size pc' vl' pb' vb' P' Q' v0 v1 v2 m C ∧ Below w.heap.size w w' := by
  obtain ⟨ql, kl, rfl⟩ := own_slice' h.own
  obtain ⟨q0, k0, rfl⟩ := own_slice' h.inn.r0
  obtain ⟨q1, k1, rfl⟩ := own_slice' h.inn.r1
  obtain ⟨q2, k2, rfl⟩ := own_slice' h.inn.r2
  have h1c : w.cell? ⟨pc, 1, none⟩ = some (.pointer (some ⟨pb, 0, none⟩)) := cells_at h.head 1
  have hn := coreNone_no w pc _ h1c
  have hS0 := coreS (w := w) (h.below (Below.refl _ _).drew) (Below.refl _ _).drew
  obtain ⟨vv, W1, hr1, ho1, hg1, _⟩ := run_appAll (P := Tryz.prog) (w := w.drew) sagaCells_len w.drew.heap.size 56 56 89 _ 112 Tryz.underlying56 info_saga rfl (by omega) (.slice none 0 0) 0 [] (World.ownsRow_nil _ _ _ _) (.slice ql C.l.length kl) C.l
    (h.below (Below.refl _ _).drew).slc sagaCells_one (by have := h.orders; unfold maxLen; omega) (by have := h.orders; omega) (Nat.le_refl _)
  have hB1 : Below w.drew.heap.size w.drew W1 := ⟨hg1.os, hg1.tape, hg1.output, hg1.size, fun k hk => hg1.block k hk (by simp [Value.ownBlock])⟩
  simp only [Nat.zero_add, List.nil_append] at ho1
  obtain ⟨zq, zk, rfl⟩ := own_slice' ho1
  have hS1 := coreS_below hS0 hB1
  have HC := Lib.hid h
  replace hS0 := Lib.hid hS0
  replace hS1 := Lib.hid hS1
  replace hr1 := Lib.hid hr1
  replace ho1 := Lib.hid ho1
  replace hB1 := Lib.hid hB1
  clear h hg1
  go_enter Tryz.func35, Tryz.ntmps35
  go_wp2_with (go_at_call 20; refine hn.mono ?_; rintro e w1 ⟨rfl, rfl⟩)
  refine any_begin (S := (fun W' => (W'.cell? ⟨pc, 0, none⟩ = some (.slice ql C.l.length kl) ∧ W'.cell? ⟨pc, 1, none⟩ = some (.pointer (some ⟨pb, 0, none⟩)) ∧ W'.cell? ⟨pc, 2, none⟩ = some (.int .i64 C.i.s0.party) ∧ W'.cell? ⟨pc, 3, none⟩ = some (.int .i64 C.i.s0.seq) ∧ W'.cell? ⟨pc, 4, none⟩ = some (.slice q0 C.i.s0.rows.length k0) ∧ W'.cell? ⟨pc, 5, none⟩ = some (.int .i64 C.i.s1.party) ∧ W'.cell? ⟨pc, 6, none⟩ = some (.int .i64 C.i.s1.seq) ∧ W'.cell? ⟨pc, 7, none⟩ = some (.slice q1 C.i.s1.rows.length k1) ∧ W'.cell? ⟨pc, 8, none⟩ = some (.int .i64 C.i.s2.party) ∧ W'.cell? ⟨pc, 9, none⟩ = some (.int .i64 C.i.s2.seq) ∧ W'.cell? ⟨pc, 10, none⟩ = some (.slice q2 C.i.s2.rows.length k2) ∧ W'.cell? ⟨pc, 11, none⟩ = some (.map m) ∧ Hid (CoreIs W' base pc (.slice ql C.l.length kl) pb vb P Q (.slice q0 C.i.s0.rows.length k0) (.slice q1 C.i.s1.rows.length k1) (.slice q2 C.i.s2.rows.length k2) m C ∧ Below w.heap.size w W')))) 17 (by kernel_rfl) ?_ (fun hHeld => ?_)
  focus (first | exact hS0.out | exact hS1.out | exact coreS_below (by assumption) (by assumption) | exact coreS_below (by assumption) (alloc_grew _ _) | assumption)
  have hq := plan [0, 1, 2, 3, 5, 6, 7, 8, 10, 11, 12, 13]
  iterate 12 (refine tk hq ?_ rfl (by kernel_rfl) (by assumption) (by rfl) (fun _ _ _ h => h) ?hy ?_; (case hy => (intro w hSw; (try dsimp only at hSw); go_simp; (try with_reducible rfl))); replace hq := hq.tl; (try simp only [Act.put, yA, yB, yC]))
  clear hq
  refine ao 4 rfl (by kernel_rfl) (by rfl) (fun K hK => ?_)
  refine wp_append (.const (.slice none 0 0)) (.tmp 8) rfl rfl rfl hr1.out ?_
  refine hK.out _ _ ?_ (fun hHeld => ?_)
  focus (first | exact hS0.out | exact hS1.out | exact coreS_below (by assumption) (by assumption) | exact coreS_below (by assumption) (alloc_grew _ _) | assumption)
  clear hK K
  (try simp only [Act.put, yA, yB, yC])
  refine ao 9 rfl (by kernel_rfl) (by rfl) (fun K hK => ?_)
  go_simp
  (go_at_call 70; refine Calls.mono (booksCopy_any _ base pb P Q vb C.b (coreS_is (w := w) (by assumption)).1.books) ?_; rintro e W2 ⟨kb, vb', P', Q', rfl, hbk, hb2⟩)
  refine hK.out _ _ ?_ (fun hHeld => ?_)
  focus (first | exact hS0.out | exact hS1.out | exact coreS_below (by assumption) (by assumption) | exact coreS_below (by assumption) (alloc_grew _ _) | assumption)
  clear hK K
  (try simp only [Act.put, yA, yB, yC])
  have hq := plan [14]
  iterate 1 (refine tk hq ?_ rfl (by kernel_rfl) (by assumption) (by rfl) (fun _ _ _ h => h) ?hy ?_; (case hy => (intro w hSw; (try dsimp only at hSw); go_simp; (try with_reducible rfl))); replace hq := hq.tl; (try simp only [Act.put, yA, yB, yC]))
  clear hq
  refine ao 15 rfl (by kernel_rfl) (by rfl) (fun K hK => ?_)
  go_simp
  refine hK.out _ _ ?_ (fun hHeld => ?_)
  focus (first | exact hS0.out | exact hS1.out | exact coreS_below (by assumption) (by assumption) | exact coreS_below (by assumption) (alloc_grew _ _) | assumption)
  clear hK K
  (try simp only [Act.put, yA, yB, yC])
  have hq := plan [16]
  iterate 1 (refine tk hq ?_ rfl (by kernel_rfl) (by assumption) (by rfl) (fun _ _ _ h => h) ?hy ?_; (case hy => (intro w hSw; (try dsimp only at hSw); go_simp; (try with_reducible rfl))); replace hq := hq.tl; (try simp only [Act.put, yA, yB, yC]))
  clear hq
  refine any_done (by kernel_rfl) ?_
  have hB1' : Below w.heap.size w W1 := (Below.drew (Below.refl w.heap.size w)).trans hB1.out
  have hfin := Lib.hid (copy_is HC.out ho1.out hB1' hbk hb2)
  have hlow : Hid (Below w.heap.size w W2) := Lib.hid (hB1'.trans (hb2.mono hB1'.size))
  clear hbk hb2
  go_wp2
  go_ret
  refine ⟨_, _, _, _, _, _, rfl, hfin.out, ?_⟩
  have := hlow.out
  (repeat (first | (with_reducible first | exact zR _ _ | exact zA _ _ | assumption | refine zL ?_ _ | refine zD ?_ | refine zN ?_ _) | ((with_reducible first | refine zC ?_ ?_ _ | refine zW ?_ ?_ _); rotate_left; focus (first | exact Nat.le_refl _ | (simp; done) | (simp; omega) | omega)) | with_reducible refine zT ?_ (by assumption)))
end Go.Proofs.YtkgpnikmdmpfaaaGreatDoor

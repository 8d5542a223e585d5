/-
  core.Core.Apply.
-/
import Derived.Test.YtkgpnikmdmpfaaaGreatDoorBackP31
import Derived.Test.YtkgpnikmdmpfaaaGreatDoorBackP32
set_option linter.unusedVariables false
set_option linter.unusedSimpArgs false
namespace Go.Proofs.YtkgpnikmdmpfaaaGreatDoor
open Go.RowKit Go.Maps

theorem ApplyPost.from {w W : World} {base pc pb P Q : Nat} {r : Sp.Core × Int} {e : Ending} {w' : World} (hb : Below w.heap.size w W) (hl : base ≤ w.heap.size) (h : ApplyPost W base pc pb P Q r e w') : ApplyPost w base pc pb P Q r e w' :=
  ⟨(hb.mono hl).trans h.1, h.2⟩
set_option maxRecDepth 100000 in
set_option maxHeartbeats 4000000 in
theorem apply_any (w : World) (base pc pb P Q : Nat) (vl vb v0 v1 v2 : Value) (m : Option Nat) (C : Sp.Core) (h : CoreIs w base pc vl pb vb P Q v0 v1 v2 m C) (htab : ∀ W, Below base w W → Tabs W) (hfew : C.b.l.length + 60 < 1000000)
    (x : Ent) (hl : RowsArg w x.2 x.1.st.rows) (hr : x.1.o.ref.length ≤ 1000) (hs : x.1.o.sku.length ≤ 1000) (hq : x.1.st.seq ≤ 9223372036854775807) :
    Calls Tryz.prog 9 #[.pointer (some ⟨pc, 0, none⟩), entVal x] w (ApplyPost w base pc pb P Q (Sp.apply C x.1)) := by
  obtain ⟨⟨kind, ⟨id, ref, sku, qty, amount⟩, ko, kd, code, ⟨party, seq, rows⟩⟩, v⟩ := x
  simp only at hl hr hs hq ⊢
  obtain ⟨rr, nn, rfl⟩ := slcA_shape hl
  have hlow := h.low
  have hT : ∀ W, Below w.heap.size w W → ∀ W', Below base W W' → Tabs W' := fun W hW W' hb => htab W' ((hW.mono hlow).trans hb)
  have HP := Lib.hid (fun W (hW : Below w.heap.size w W) => place_any W base pc pb P Q vl vb v0 v1 v2 m C (h.below hW) ⟨id, ref, sku, qty, amount⟩ hr hs)
  have HS := Lib.hid (fun W (hW : Below w.heap.size w W) => stop_any W base pc pb P Q vl vb v0 v1 v2 m C (h.below hW) ko)
  have HR := Lib.hid (fun W (hW : Below w.heap.size w W) => reply_any W base pc pb P Q vl vb v0 v1 v2 m C (h.below hW) (hT W hW) (by omega) ko kd code)
  have HM := Lib.hid (fun W (hW : Below w.heap.size w W) => statement_any W base pc pb P Q vl vb v0 v1 v2 m C (h.below hW) (hT W hW) hfew ⟨party, seq, rows⟩ (.slice rr rows.length nn) (hl.mono hW) hq)
  have hn := Lib.hid (fun W (hW : Below w.heap.size w W) => coreNone_no W pc _ (cells_at (h.below hW).head 1))
  have HC := Lib.hid h
  simp only [orderVal] at HP
  simp only [entVal, Sp.apply]
  clear h hl htab hT
  by_cases h1 : kind = 1
  · subst h1
    rw [if_pos rfl]
    generalize Sp.place C ⟨id, ref, sku, qty, amount⟩ = r at HP ⊢
    go_enter Tryz.func9, Tryz.ntmps9
    go_wp2_with (first
      | (go_at_call 20; refine (hn.out _ (by (repeat (first | (with_reducible first | exact zR _ _ | exact zA _ _ | assumption | refine zL ?_ _ | refine zD ?_ | refine zN ?_ _) | ((with_reducible first | refine zC ?_ ?_ _ | refine zW ?_ ?_ _); rotate_left; focus (first | exact Nat.le_refl _ | (simp; done) | (simp; omega) | omega)) | with_reducible refine zT ?_ (by assumption))))).mono ?_; rintro e w1 ⟨rfl, rfl⟩)
      | (go_at_call 21; refine Calls.mono (HP.out _ (by (repeat (first | (with_reducible first | exact zR _ _ | exact zA _ _ | assumption | refine zL ?_ _ | refine zD ?_ | refine zN ?_ _) | ((with_reducible first | refine zC ?_ ?_ _ | refine zW ?_ ?_ _); rotate_left; focus (first | exact Nat.le_refl _ | (simp; done) | (simp; omega) | omega)) | with_reducible refine zT ?_ (by assumption))))) ?_; rintro e w2 ⟨hb2, z0, z1, z2, z3, z4, zm, rfl, hc2⟩; replace hb2 := Lib.hid hb2; replace hc2 := Lib.hid hc2))
    go_ret
    exact ApplyPost.from (alloc_grew w _) hlow ⟨hb2.out, _, _, _, _, _, _, rfl, hc2.out⟩
  · rw [if_neg h1]
    have h1' : (kind == 1) = false := by simpa using h1
    by_cases h2 : kind = 2
    · subst h2
      rw [if_pos rfl]
      generalize Sp.stopAt C ko = r at HS ⊢
      go_enter Tryz.func9, Tryz.ntmps9
      go_wp2_with (first
        | (go_at_call 20; refine (hn.out _ (by (repeat (first | (with_reducible first | exact zR _ _ | exact zA _ _ | assumption | refine zL ?_ _ | refine zD ?_ | refine zN ?_ _) | ((with_reducible first | refine zC ?_ ?_ _ | refine zW ?_ ?_ _); rotate_left; focus (first | exact Nat.le_refl _ | (simp; done) | (simp; omega) | omega)) | with_reducible refine zT ?_ (by assumption))))).mono ?_; rintro e w1 ⟨rfl, rfl⟩)
        | (go_at_call 22; refine Calls.mono (HS.out _ (by (repeat (first | (with_reducible first | exact zR _ _ | exact zA _ _ | assumption | refine zL ?_ _ | refine zD ?_ | refine zN ?_ _) | ((with_reducible first | refine zC ?_ ?_ _ | refine zW ?_ ?_ _); rotate_left; focus (first | exact Nat.le_refl _ | (simp; done) | (simp; omega) | omega)) | with_reducible refine zT ?_ (by assumption))))) ?_; rintro e w2 ⟨hb2, z0, z1, z2, z3, z4, zm, rfl, hc2⟩; replace hb2 := Lib.hid hb2; replace hc2 := Lib.hid hc2))
      go_ret
      exact ApplyPost.from (alloc_grew w _) hlow ⟨hb2.out, _, _, _, _, _, _, rfl, hc2.out⟩
    · rw [if_neg h2]
      have h2' : (kind == 2) = false := by simpa using h2
      by_cases h3 : kind = 3
      · subst h3
        rw [if_pos rfl]
        generalize Sp.replyAt C ko kd code = r at HR ⊢
        go_enter Tryz.func9, Tryz.ntmps9
        go_wp2_with (first
          | (go_at_call 20; refine (hn.out _ (by (repeat (first | (with_reducible first | exact zR _ _ | exact zA _ _ | assumption | refine zL ?_ _ | refine zD ?_ | refine zN ?_ _) | ((with_reducible first | refine zC ?_ ?_ _ | refine zW ?_ ?_ _); rotate_left; focus (first | exact Nat.le_refl _ | (simp; done) | (simp; omega) | omega)) | with_reducible refine zT ?_ (by assumption))))).mono ?_; rintro e w1 ⟨rfl, rfl⟩)
          | (go_at_call 23; refine Calls.mono (HR.out _ (by (repeat (first | (with_reducible first | exact zR _ _ | exact zA _ _ | assumption | refine zL ?_ _ | refine zD ?_ | refine zN ?_ _) | ((with_reducible first | refine zC ?_ ?_ _ | refine zW ?_ ?_ _); rotate_left; focus (first | exact Nat.le_refl _ | (simp; done) | (simp; omega) | omega)) | with_reducible refine zT ?_ (by assumption))))) ?_; rintro e w2 ⟨hb2, z0, z1, z2, z3, z4, zm, rfl, hc2⟩; replace hb2 := Lib.hid hb2; replace hc2 := Lib.hid hc2))
        go_ret
        exact ApplyPost.from (alloc_grew w _) hlow ⟨hb2.out, _, _, _, _, _, _, rfl, hc2.out⟩
      · rw [if_neg h3]
        have h3' : (kind == 3) = false := by simpa using h3
        by_cases h4 : kind = 4
        · subst h4
          rw [if_pos rfl]
          generalize Sp.statementAt C ⟨party, seq, rows⟩ = r at HM ⊢
          go_enter Tryz.func9, Tryz.ntmps9
          go_wp2_with (first
            | (go_at_call 20; refine (hn.out _ (by (repeat (first | (with_reducible first | exact zR _ _ | exact zA _ _ | assumption | refine zL ?_ _ | refine zD ?_ | refine zN ?_ _) | ((with_reducible first | refine zC ?_ ?_ _ | refine zW ?_ ?_ _); rotate_left; focus (first | exact Nat.le_refl _ | (simp; done) | (simp; omega) | omega)) | with_reducible refine zT ?_ (by assumption))))).mono ?_; rintro e w1 ⟨rfl, rfl⟩)
            | (go_at_call 24; refine Calls.mono (HM.out _ (by (repeat (first | (with_reducible first | exact zR _ _ | exact zA _ _ | assumption | refine zL ?_ _ | refine zD ?_ | refine zN ?_ _) | ((with_reducible first | refine zC ?_ ?_ _ | refine zW ?_ ?_ _); rotate_left; focus (first | exact Nat.le_refl _ | (simp; done) | (simp; omega) | omega)) | with_reducible refine zT ?_ (by assumption))))) ?_; rintro e w2 ⟨hb2, z0, z1, z2, z3, z4, zm, rfl, hc2⟩; replace hb2 := Lib.hid hb2; replace hc2 := Lib.hid hc2))
          go_ret
          exact ApplyPost.from (alloc_grew w _) hlow ⟨hb2.out, _, _, _, _, _, _, rfl, hc2.out⟩
        · rw [if_neg h4]
          have h4' : (kind == 4) = false := by simpa using h4
          go_enter Tryz.func9, Tryz.ntmps9
          go_wp2_with (go_at_call 20; refine (hn.out _ (by (repeat (first | (with_reducible first | exact zR _ _ | exact zA _ _ | assumption | refine zL ?_ _ | refine zD ?_ | refine zN ?_ _) | ((with_reducible first | refine zC ?_ ?_ _ | refine zW ?_ ?_ _); rotate_left; focus (first | exact Nat.le_refl _ | (simp; done) | (simp; omega) | omega)) | with_reducible refine zT ?_ (by assumption))))).mono ?_; rintro e w1 ⟨rfl, rfl⟩)
          go_ret
          exact ApplyPost.same HC.out (alloc_grew w _)
end Go.Proofs.YtkgpnikmdmpfaaaGreatDoor

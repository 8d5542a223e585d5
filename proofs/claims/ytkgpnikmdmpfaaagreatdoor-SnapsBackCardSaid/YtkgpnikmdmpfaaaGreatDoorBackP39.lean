/-
  core.Same.
-/
import Derived.Test.YtkgpnikmdmpfaaaGreatDoorBackP38
import Derived.Test.YtkgpnikmdmpfaaaGreatDoorBackP25
set_option linter.unusedVariables false
set_option linter.unusedSimpArgs false
namespace Go.Proofs.YtkgpnikmdmpfaaaGreatDoor
open Go.RowKit Go.Maps

/-- The same, beside maps. -/
structure Alike (C C' : Sp.Core) : Prop where
  l : C'.l = C.l
  b : C'.b.l = C.b.l
  s0 : C'.i.s0 = C.i.s0
  s1 : C'.i.s1 = C.i.s1
  s2 : C'.i.s2 = C.i.s2
theorem PartsOut.alike {w w' : World} {C C' : Sp.Core} {e : Ending} (h : PartsOut w C' e w') (ha : Alike C C') : PartsOut w C e w' := by
  unfold PartsOut at *
  rw [ha.l, ha.b, ha.s0, ha.s1, ha.s2] at h
  exact h
theorem and6' {a b c d e f P : Prop} (h : a ∧ b ∧ c ∧ d ∧ e ∧ f ∧ P) : P := h.2.2.2.2.2.2
/-- While the parts are compared. -/
structure SmAt (w : World) (X : Nat) (qs qp r0 r1 r2 qs' qp' r0' r1' r2' : Option Addr) (ks kp n0 n1 n2 ks' kp' n0' n1' n2' : Nat) (C : Sp.Core) (W : World) : Prop where
  low : Below w.heap.size w W
  x : W.heap[X]? = some (.cells #[.slice qs C.l.length ks, .slice qp C.b.l.length kp, .int .i64 C.i.s0.party, .int .i64 C.i.s0.seq, .slice r0 C.i.s0.rows.length n0, .int .i64 C.i.s1.party, .int .i64 C.i.s1.seq, .slice r1 C.i.s1.rows.length n1, .int .i64 C.i.s2.party, .int .i64 C.i.s2.seq, .slice r2 C.i.s2.rows.length n2] 87 (0, 0))
  y : W.heap[X + 1]? = some (.cells #[.slice qs' C.l.length ks', .slice qp' C.b.l.length kp', .int .i64 C.i.s0.party, .int .i64 C.i.s0.seq, .slice r0' C.i.s0.rows.length n0', .int .i64 C.i.s1.party, .int .i64 C.i.s1.seq, .slice r1' C.i.s1.rows.length n1', .int .i64 C.i.s2.party, .int .i64 C.i.s2.seq, .slice r2' C.i.s2.rows.length n2'] 87 (0, 0))
  sg : SagasAt W (.slice qs C.l.length ks) C.l
  sg' : SagasAt W (.slice qs' C.l.length ks') C.l
  po : Slc postCells 5 W (.slice qp C.b.l.length kp) C.b.l
  po' : Slc postCells 5 W (.slice qp' C.b.l.length kp') C.b.l
  r0 : RowsAt W (.slice r0 C.i.s0.rows.length n0) C.i.s0.rows
  r0' : RowsAt W (.slice r0' C.i.s0.rows.length n0') C.i.s0.rows
  r1 : RowsAt W (.slice r1 C.i.s1.rows.length n1) C.i.s1.rows
  r1' : RowsAt W (.slice r1' C.i.s1.rows.length n1') C.i.s1.rows
  r2 : RowsAt W (.slice r2 C.i.s2.rows.length n2) C.i.s2.rows
  r2' : RowsAt W (.slice r2' C.i.s2.rows.length n2') C.i.s2.rows
section
variable {w W W' : World} {X : Nat} {qs qp r0 r1 r2 qs' qp' r0' r1' r2' : Option Addr} {ks kp n0 n1 n2 ks' kp' n0' n1' n2' : Nat} {C : Sp.Core}
theorem SmAt.next (h : SmAt w X qs qp r0 r1 r2 qs' qp' r0' r1' r2' ks kp n0 n1 n2 ks' kp' n0' n1' n2' C W) (hb : Below W.heap.size W W') : SmAt w X qs qp r0 r1 r2 qs' qp' r0' r1' r2' ks kp n0 n1 n2 ks' kp' n0' n1' n2' C W' :=
  ⟨h.low.trans (hb.mono h.low.size), heap_below hb h.x, heap_below hb h.y, h.sg.mono hb, h.sg'.mono hb, h.po.mono hb, h.po'.mono hb, h.r0.mono hb, h.r0'.mono hb, h.r1.mono hb, h.r1'.mono hb, h.r2.mono hb, h.r2'.mono hb⟩
end
def RelSm (w : World) (X : Nat) (qs qp r0 r1 r2 qs' qp' r0' r1' r2' : Option Addr) (ks kp n0 n1 n2 ks' kp' n0' n1' n2' : Nat) (C : Sp.Core) (n : Nat) (x : Value) (W : World) : Prop :=
  ∃ i : Nat, i ≤ n ∧ x = .int .i64 i ∧ SmAt w X qs qp r0 r1 r2 qs' qp' r0' r1' r2' ks kp n0 n1 n2 ks' kp' n0' n1' n2' C W
theorem slc_at {α : Type} {enc : α → List Value} {size : Nat} {w : World} {q : Option Addr} {n c i : Nat} {l : List α} (h : Slc enc size w (.slice q n c) l) (hi : i < l.length) : ∃ b, q = some ⟨b, 0, none⟩ ∧ b < w.heap.size ∧ (∀ i x, l[i]? = some x → ∀ j u, (enc x)[j]? = some u → w.cell? ⟨b, i * size + j, none⟩ = some u) := by
  rcases h with ⟨_, h0⟩ | ⟨b, cap, e, _, h1, h2⟩
  · rw [h0] at hi; simp at hi
  · cases e; exact ⟨b, rfl, h1, h2⟩
theorem smFact {α : Type} [DecidableEq α] (s : α) : decide (s = s) = true := decide_eq_true rfl
set_option maxRecDepth 100000 in
set_option maxHeartbeats 4000000 in
theorem coreSame_yes (w : World) (base pc pb P Q base' pc' pb' P' Q' : Nat) (vl vb v0 v1 v2 vl' vb' v0' v1' v2' : Value) (m m' : Option Nat) (C C' : Sp.Core) (h : CoreIs w base pc vl pb vb P Q v0 v1 v2 m C) (h' : CoreIs w base' pc' vl' pb' vb' P' Q' v0' v1' v2' m' C') (ha : Alike C C') :
    Calls Tryz.prog 14 #[.pointer (some ⟨pc, 0, none⟩), .pointer (some ⟨pc', 0, none⟩)] w fun e w' => e = .returned (.bool true) ∧ Below w.heap.size w w' := by
  have hn := coreNone_no w pc _ (cells_at h.head 1)
  have hn' := coreNone_no w pc' _ (cells_at h'.head 1)
  have HC := Lib.hid h
  have HC' := Lib.hid h'
  replace hn := Lib.hid hn
  replace hn' := Lib.hid hn'
  replace ha := Lib.hid ha
  clear h h'
  go_enter Tryz.func14, Tryz.ntmps14
  go_wp2_with fail
  refine hn.out.mono ?_; rintro e w1 ⟨rfl, rfl⟩
  go_wp2_with fail
  refine hn'.out.mono ?_; rintro e w1 ⟨rfl, rfl⟩
  go_wp2_with fail
  refine Calls.mono (coreParts_any _ _ _ _ _ _ _ _ _ _ _ _ _ HC.out) ?_
  rintro e w1 ⟨vs, vp, r0, r1, r2, n0, n1, n2, rfl, hvs, hvp, hr0, hr1, hr2, hb1⟩
  obtain ⟨qs, ks, rfl⟩ := slc_shape hvs
  obtain ⟨qp, kp, rfl⟩ := slc_shape hvp
  replace hvs := Lib.hid hvs
  replace hvp := Lib.hid hvp
  replace hr0 := Lib.hid hr0
  replace hr1 := Lib.hid hr1
  replace hr2 := Lib.hid hr2
  replace hb1 := Lib.hid hb1
  go_wp2_with fail
  refine Calls.mono (coreParts_any _ _ _ _ _ _ _ _ _ _ _ _ _ (HC'.out.below hb1.out)) ?_
  intro e w2 hpo
  obtain ⟨vs', vp', r0', r1', r2', n0', n1', n2', rfl, hvs', hvp', hr0', hr1', hr2', hb2⟩ := hpo.alike ha.out
  clear hpo
  obtain ⟨qs', ks', rfl⟩ := slc_shape hvs'
  obtain ⟨qp', kp', rfl⟩ := slc_shape hvp'
  replace hvs' := Lib.hid hvs'
  replace hvp' := Lib.hid hvp'
  replace hr0' := Lib.hid hr0'
  replace hr1' := Lib.hid hr1'
  replace hr2' := Lib.hid hr2'
  replace hb2 := Lib.hid hb2
  go_wp2
  have hSm : SmAt w w2.heap.size qs qp r0 r1 r2 qs' qp' r0' r1' r2' ks kp n0 n1 n2 ks' kp' n0' n1' n2' C ((w2.alloc (.cells #[.slice qs C.l.length ks, .slice qp C.b.l.length kp, .int .i64 C.i.s0.party, .int .i64 C.i.s0.seq, .slice r0 C.i.s0.rows.length n0, .int .i64 C.i.s1.party, .int .i64 C.i.s1.seq, .slice r1 C.i.s1.rows.length n1, .int .i64 C.i.s2.party, .int .i64 C.i.s2.seq, .slice r2 C.i.s2.rows.length n2] 87)).alloc (.cells #[.slice qs' C.l.length ks', .slice qp' C.b.l.length kp', .int .i64 C.i.s0.party, .int .i64 C.i.s0.seq, .slice r0' C.i.s0.rows.length n0', .int .i64 C.i.s1.party, .int .i64 C.i.s1.seq, .slice r1' C.i.s1.rows.length n1', .int .i64 C.i.s2.party, .int .i64 C.i.s2.seq, .slice r2' C.i.s2.rows.length n2'] 87)) := by
    have hb : Below w2.heap.size w2 ((w2.alloc (.cells #[.slice qs C.l.length ks, .slice qp C.b.l.length kp, .int .i64 C.i.s0.party, .int .i64 C.i.s0.seq, .slice r0 C.i.s0.rows.length n0, .int .i64 C.i.s1.party, .int .i64 C.i.s1.seq, .slice r1 C.i.s1.rows.length n1, .int .i64 C.i.s2.party, .int .i64 C.i.s2.seq, .slice r2 C.i.s2.rows.length n2] 87)).alloc (.cells #[.slice qs' C.l.length ks', .slice qp' C.b.l.length kp', .int .i64 C.i.s0.party, .int .i64 C.i.s0.seq, .slice r0' C.i.s0.rows.length n0', .int .i64 C.i.s1.party, .int .i64 C.i.s1.seq, .slice r1' C.i.s1.rows.length n1', .int .i64 C.i.s2.party, .int .i64 C.i.s2.seq, .slice r2' C.i.s2.rows.length n2'] 87)) := Grew.alloc (alloc_grew _ _) _
    have hb12 := Below.trans hb2.out (hb.mono hb2.out.size)
    exact ⟨hb1.out.trans (hb12.mono hb1.out.size), heap_past (heap_at rfl), heap_at (by simp), hvs.out.mono hb12, hvs'.out.mono hb, hvp.out.mono hb12, hvp'.out.mono hb, hr0.out.mono hb12, hr0'.out.mono hb, hr1.out.mono hb12, hr1'.out.mono hb, hr2.out.mono hb12, hr2'.out.mono hb⟩
  clear hvs hvs' hvp hvp' hr0 hr0' hr1 hr1' hr2 hr2' hb1 hb2 HC' hn hn' ha
  go_loopw [44] (fun x wr => RelSm w w2.heap.size qs qp r0 r1 r2 qs' qp' r0' r1' r2' ks kp n0 n1 n2 ks' kp' n0' n1' n2' C C.l.length x wr) (fun x _ => (C.l.length : Nat) - (intOf x).toNat)
  case atStart => exact ⟨0, Nat.zero_le _, rfl, hSm⟩
  case round =>
    clear hSm
    obtain ⟨i, hi, rfl, hR⟩ := hrel
    have hx0 := cells_at hR.x 0
    have hy0 := cells_at hR.y 0
    have hx1 := cells_at hR.x 1
    have hlx := (Array.getElem?_eq_some_iff.1 hR.x).1
    have hly := (Array.getElem?_eq_some_iff.1 hR.y).1
    simp only [List.getElem?_toArray, List.getElem?_cons_zero, List.getElem?_cons_succ] at hx0 hy0 hx1
    by_cases hlt : i < C.l.length
    · as_aux_lemma =>
      have hC60 := HC.out.orders
      obtain ⟨b, hqb, hbl, hcells⟩ := slc_at hR.sg hlt
      obtain ⟨b', hqb', hbl', hcells'⟩ := slc_at hR.sg' hlt
      subst hqb hqb'
      obtain ⟨s, hs⟩ : ∃ s, C.l[i]? = some s := ⟨_, List.getElem?_eq_getElem hlt⟩
      obtain ⟨f0, f1, f2, f3, f4, f5, f6, f7, f8, f9, f10, f11⟩ := saga_facts hcells (Below.refl _ _) hs
      obtain ⟨g0, g1, g2, g3, g4, g5, g6, g7, g8, g9, g10, g11⟩ := saga_facts hcells' (Below.refl _ _) hs
      have HE := fun W => eq_saga s s W
      simp only [smFact, sagaVal] at HE
      clear hcells hcells' hs
      replace hR := Lib.hid hR
      go_wp2
      go_quiet (fail)
      go_wp2
      exact ⟨⟨i + 1, by omega, by go_num, hR.out.next (keeps_drewN _ _)⟩, by simp [intOf]; omega⟩
    · have hil : i = C.l.length := by omega
      subst hil
      replace hR := Lib.hid hR
      clear hlt hi
      go_wp2
      go_loopw [62] (fun x wr => RelSm w w2.heap.size qs qp r0 r1 r2 qs' qp' r0' r1' r2' ks kp n0 n1 n2 ks' kp' n0' n1' n2' C C.b.l.length x wr) (fun x _ => (C.b.l.length : Nat) - (intOf x).toNat)
      case atStart => exact ⟨0, Nat.zero_le _, rfl, hR.out⟩
      case round =>
        clear hR hx0 hy0 hx1 hlx hly
        obtain ⟨i, hi, rfl, hR⟩ := hrel
        have hx1 := cells_at hR.x 1
        have hy1 := cells_at hR.y 1
        have hlx := (Array.getElem?_eq_some_iff.1 hR.x).1
        have hly := (Array.getElem?_eq_some_iff.1 hR.y).1
        simp only [List.getElem?_toArray, List.getElem?_cons_zero, List.getElem?_cons_succ] at hx1 hy1
        by_cases hlt : i < C.b.l.length
        · as_aux_lemma =>
          have hC60 := HC.out.books.few
          obtain ⟨b, hqb, hbl, hcells⟩ := slc_at hR.po hlt
          obtain ⟨b', hqb', hbl', hcells'⟩ := slc_at hR.po' hlt
          subst hqb hqb'
          obtain ⟨s, hs⟩ : ∃ s, C.b.l[i]? = some s := ⟨_, List.getElem?_eq_getElem hlt⟩
          obtain ⟨f0, f1, f2, f3, f4⟩ := post_facts hcells hs
          obtain ⟨g0, g1, g2, g3, g4⟩ := post_facts hcells' hs
          have hps := HC.out.books.posts s (List.mem_of_getElem? hs)
          have HE := fun W => eq_post s s hps hps W
          simp only [smFact, postVal'] at HE
          clear hcells hcells' hs hps
          replace hR := Lib.hid hR
          go_wp2
          go_quiet (fail)
          go_wp2
          exact ⟨⟨i + 1, by omega, by go_num, hR.out.next (keeps_drewN _ _)⟩, by simp [intOf]; omega⟩
        · have hil : i = C.b.l.length := by omega
          subst hil
          replace hR := Lib.hid hR
          clear hlt hi hx1 hy1 hlx hly
          go_wp2
          go_loopw [77] (fun x wr => RelSm w w2.heap.size qs qp r0 r1 r2 qs' qp' r0' r1' r2' ks kp n0 n1 n2 ks' kp' n0' n1' n2' C 3 x wr) (fun x _ => (3 : Nat) - (intOf x).toNat)
          case atStart => exact ⟨0, Nat.zero_le _, rfl, hR.out⟩
          case round =>
            clear hR
            obtain ⟨k, hk, rfl, hR⟩ := hrel
            have hk4 : k = 0 ∨ k = 1 ∨ k = 2 ∨ k = 3 := by omega
            rcases hk4 with rfl | rfl | rfl | rfl
            · as_aux_lemma =>
              have hS0 : ∀ W', Below wr.heap.size wr W' → (fun W' => W'.cell? ⟨w2.heap.size, 2, none⟩ = some (.int .i64 C.i.s0.party) ∧ W'.cell? ⟨w2.heap.size, 3, none⟩ = some (.int .i64 C.i.s0.seq) ∧ W'.cell? ⟨w2.heap.size, 4, none⟩ = some (.slice r0 C.i.s0.rows.length n0) ∧ W'.cell? ⟨w2.heap.size + 1, 2, none⟩ = some (.int .i64 C.i.s0.party) ∧ W'.cell? ⟨w2.heap.size + 1, 3, none⟩ = some (.int .i64 C.i.s0.seq) ∧ W'.cell? ⟨w2.heap.size + 1, 4, none⟩ = some (.slice r0' C.i.s0.rows.length n0') ∧ Hid (SmAt w w2.heap.size qs qp r0 r1 r2 qs' qp' r0' r1' r2' ks kp n0 n1 n2 ks' kp' n0' n1' n2' C W')) W' := fun W' hb => by
                have h2 := hR.next hb
                have hx := cells_at h2.x
                have hy := cells_at h2.y
                exact ⟨hx 2, hx 3, hx 4, hy 2, hy 3, hy 4, Lib.hid h2⟩
              replace hS0 := Lib.hid hS0
              have hS1 := Lib.hid (fun W' (h : (fun W' => W'.cell? ⟨w2.heap.size, 2, none⟩ = some (.int .i64 C.i.s0.party) ∧ W'.cell? ⟨w2.heap.size, 3, none⟩ = some (.int .i64 C.i.s0.seq) ∧ W'.cell? ⟨w2.heap.size, 4, none⟩ = some (.slice r0 C.i.s0.rows.length n0) ∧ W'.cell? ⟨w2.heap.size + 1, 2, none⟩ = some (.int .i64 C.i.s0.party) ∧ W'.cell? ⟨w2.heap.size + 1, 3, none⟩ = some (.int .i64 C.i.s0.seq) ∧ W'.cell? ⟨w2.heap.size + 1, 4, none⟩ = some (.slice r0' C.i.s0.rows.length n0') ∧ Hid (SmAt w w2.heap.size qs qp r0 r1 r2 qs' qp' r0' r1' r2' ks kp n0 n1 n2 ks' kp' n0' n1' n2' C W')) W') => (and6' h).out)
              have HR := Lib.hid (fun W (h : SmAt w w2.heap.size qs qp r0 r1 r2 qs' qp' r0' r1' r2' ks kp n0 n1 n2 ks' kp' n0' n1' n2' C W) => rowsSame_any W C.i.s0 C.i.s0 _ _ h.r0 h.r0' (fun r hr => HC.out.inn.rok r (.inl hr)) (fun r hr => HC.out.inn.rok r (.inl hr)) HC.out.inn.few.1 HC.out.inn.few.1)
              unfold EqPost at HR
              simp only [smFact] at HR
              replace hR := Lib.hid hR
              clear hk
              go_wp2
              refine any_begin (S := (fun W' => W'.cell? ⟨w2.heap.size, 2, none⟩ = some (.int .i64 C.i.s0.party) ∧ W'.cell? ⟨w2.heap.size, 3, none⟩ = some (.int .i64 C.i.s0.seq) ∧ W'.cell? ⟨w2.heap.size, 4, none⟩ = some (.slice r0 C.i.s0.rows.length n0) ∧ W'.cell? ⟨w2.heap.size + 1, 2, none⟩ = some (.int .i64 C.i.s0.party) ∧ W'.cell? ⟨w2.heap.size + 1, 3, none⟩ = some (.int .i64 C.i.s0.seq) ∧ W'.cell? ⟨w2.heap.size + 1, 4, none⟩ = some (.slice r0' C.i.s0.rows.length n0') ∧ Hid (SmAt w w2.heap.size qs qp r0 r1 r2 qs' qp' r0' r1' r2' ks kp n0 n1 n2 ks' kp' n0' n1' n2' C W'))) 10 (by kernel_rfl) ?_ (fun hHeld => ?_)
              focus (exact hS0.out _ (by (repeat (first | (with_reducible first | exact zR _ _ | exact zA _ _ | assumption | refine zL ?_ _ | refine zD ?_ | refine zN ?_ _) | ((with_reducible first | refine zC ?_ ?_ _ | refine zW ?_ ?_ _); rotate_left; focus (first | exact Nat.le_refl _ | (simp; done) | (simp; omega) | omega)) | with_reducible refine zT ?_ (by assumption)))))
              have hq := plan [0, 1, 2, 3, 4, 5, 6, 7]
              iterate 8 (refine tk hq ?_ rfl (by kernel_rfl) (by assumption) (by rfl) (fun _ _ _ h => h) ?hy ?_; (case hy => (intro w hSw; (try dsimp only at hSw); go_simp; (try with_reducible rfl))); replace hq := hq.tl; (try simp only [Act.put, yA, yB, yC]))
              clear hq
              refine ao 8 rfl (by kernel_rfl) (by rfl) (fun K hK => ?_)
              go_simp
              (go_at_call 48; refine Calls.mono (HR.out _ (hS1.out _ (by assumption))) ?_; rintro e w4 ⟨rfl, hb4⟩)
              refine hK.out _ _ ?_ (fun hHeld => ?_)
              focus (exact hS0.out _ (by (repeat (first | (with_reducible first | exact zR _ _ | exact zA _ _ | assumption | refine zL ?_ _ | refine zD ?_ | refine zN ?_ _) | ((with_reducible first | refine zC ?_ ?_ _ | refine zW ?_ ?_ _); rotate_left; focus (first | exact Nat.le_refl _ | (simp; done) | (simp; omega) | omega)) | with_reducible refine zT ?_ (by assumption)))))
              clear hK K
              (try simp only [Act.put, yA, yB, yC])
              have hq := plan [9]
              iterate 1 (refine tk hq ?_ rfl (by kernel_rfl) (by assumption) (by rfl) (fun _ _ _ h => h) ?hy ?_; (case hy => (intro w hSw; (try dsimp only at hSw); go_simp; (try with_reducible rfl))); replace hq := hq.tl; (try simp only [Act.put, yA, yB, yC]))
              clear hq
              refine any_done (by kernel_rfl) ?_
              go_wp2
              exact ⟨⟨1, by omega, rfl, hS1.out _ hHeld⟩, by simp [intOf]⟩
            · as_aux_lemma =>
              have hS0 : ∀ W', Below wr.heap.size wr W' → (fun W' => W'.cell? ⟨w2.heap.size, 5, none⟩ = some (.int .i64 C.i.s1.party) ∧ W'.cell? ⟨w2.heap.size, 6, none⟩ = some (.int .i64 C.i.s1.seq) ∧ W'.cell? ⟨w2.heap.size, 7, none⟩ = some (.slice r1 C.i.s1.rows.length n1) ∧ W'.cell? ⟨w2.heap.size + 1, 5, none⟩ = some (.int .i64 C.i.s1.party) ∧ W'.cell? ⟨w2.heap.size + 1, 6, none⟩ = some (.int .i64 C.i.s1.seq) ∧ W'.cell? ⟨w2.heap.size + 1, 7, none⟩ = some (.slice r1' C.i.s1.rows.length n1') ∧ Hid (SmAt w w2.heap.size qs qp r0 r1 r2 qs' qp' r0' r1' r2' ks kp n0 n1 n2 ks' kp' n0' n1' n2' C W')) W' := fun W' hb => by
                have h2 := hR.next hb
                have hx := cells_at h2.x
                have hy := cells_at h2.y
                exact ⟨hx 5, hx 6, hx 7, hy 5, hy 6, hy 7, Lib.hid h2⟩
              replace hS0 := Lib.hid hS0
              have hS1 := Lib.hid (fun W' (h : (fun W' => W'.cell? ⟨w2.heap.size, 5, none⟩ = some (.int .i64 C.i.s1.party) ∧ W'.cell? ⟨w2.heap.size, 6, none⟩ = some (.int .i64 C.i.s1.seq) ∧ W'.cell? ⟨w2.heap.size, 7, none⟩ = some (.slice r1 C.i.s1.rows.length n1) ∧ W'.cell? ⟨w2.heap.size + 1, 5, none⟩ = some (.int .i64 C.i.s1.party) ∧ W'.cell? ⟨w2.heap.size + 1, 6, none⟩ = some (.int .i64 C.i.s1.seq) ∧ W'.cell? ⟨w2.heap.size + 1, 7, none⟩ = some (.slice r1' C.i.s1.rows.length n1') ∧ Hid (SmAt w w2.heap.size qs qp r0 r1 r2 qs' qp' r0' r1' r2' ks kp n0 n1 n2 ks' kp' n0' n1' n2' C W')) W') => (and6' h).out)
              have HR := Lib.hid (fun W (h : SmAt w w2.heap.size qs qp r0 r1 r2 qs' qp' r0' r1' r2' ks kp n0 n1 n2 ks' kp' n0' n1' n2' C W) => rowsSame_any W C.i.s1 C.i.s1 _ _ h.r1 h.r1' (fun r hr => HC.out.inn.rok r (.inr (.inl hr))) (fun r hr => HC.out.inn.rok r (.inr (.inl hr))) HC.out.inn.few.2.1 HC.out.inn.few.2.1)
              unfold EqPost at HR
              simp only [smFact] at HR
              replace hR := Lib.hid hR
              clear hk
              go_wp2
              refine any_begin (S := (fun W' => W'.cell? ⟨w2.heap.size, 5, none⟩ = some (.int .i64 C.i.s1.party) ∧ W'.cell? ⟨w2.heap.size, 6, none⟩ = some (.int .i64 C.i.s1.seq) ∧ W'.cell? ⟨w2.heap.size, 7, none⟩ = some (.slice r1 C.i.s1.rows.length n1) ∧ W'.cell? ⟨w2.heap.size + 1, 5, none⟩ = some (.int .i64 C.i.s1.party) ∧ W'.cell? ⟨w2.heap.size + 1, 6, none⟩ = some (.int .i64 C.i.s1.seq) ∧ W'.cell? ⟨w2.heap.size + 1, 7, none⟩ = some (.slice r1' C.i.s1.rows.length n1') ∧ Hid (SmAt w w2.heap.size qs qp r0 r1 r2 qs' qp' r0' r1' r2' ks kp n0 n1 n2 ks' kp' n0' n1' n2' C W'))) 10 (by kernel_rfl) ?_ (fun hHeld => ?_)
              focus (exact hS0.out _ (by (repeat (first | (with_reducible first | exact zR _ _ | exact zA _ _ | assumption | refine zL ?_ _ | refine zD ?_ | refine zN ?_ _) | ((with_reducible first | refine zC ?_ ?_ _ | refine zW ?_ ?_ _); rotate_left; focus (first | exact Nat.le_refl _ | (simp; done) | (simp; omega) | omega)) | with_reducible refine zT ?_ (by assumption)))))
              have hq := plan [0, 1, 2, 3, 4, 5, 6, 7]
              iterate 8 (refine tk hq ?_ rfl (by kernel_rfl) (by assumption) (by rfl) (fun _ _ _ h => h) ?hy ?_; (case hy => (intro w hSw; (try dsimp only at hSw); go_simp; (try with_reducible rfl))); replace hq := hq.tl; (try simp only [Act.put, yA, yB, yC]))
              clear hq
              refine ao 8 rfl (by kernel_rfl) (by rfl) (fun K hK => ?_)
              go_simp
              (go_at_call 48; refine Calls.mono (HR.out _ (hS1.out _ (by assumption))) ?_; rintro e w4 ⟨rfl, hb4⟩)
              refine hK.out _ _ ?_ (fun hHeld => ?_)
              focus (exact hS0.out _ (by (repeat (first | (with_reducible first | exact zR _ _ | exact zA _ _ | assumption | refine zL ?_ _ | refine zD ?_ | refine zN ?_ _) | ((with_reducible first | refine zC ?_ ?_ _ | refine zW ?_ ?_ _); rotate_left; focus (first | exact Nat.le_refl _ | (simp; done) | (simp; omega) | omega)) | with_reducible refine zT ?_ (by assumption)))))
              clear hK K
              (try simp only [Act.put, yA, yB, yC])
              have hq := plan [9]
              iterate 1 (refine tk hq ?_ rfl (by kernel_rfl) (by assumption) (by rfl) (fun _ _ _ h => h) ?hy ?_; (case hy => (intro w hSw; (try dsimp only at hSw); go_simp; (try with_reducible rfl))); replace hq := hq.tl; (try simp only [Act.put, yA, yB, yC]))
              clear hq
              refine any_done (by kernel_rfl) ?_
              go_wp2
              exact ⟨⟨2, by omega, rfl, hS1.out _ hHeld⟩, by simp [intOf]⟩
            · as_aux_lemma =>
              have hS0 : ∀ W', Below wr.heap.size wr W' → (fun W' => W'.cell? ⟨w2.heap.size, 8, none⟩ = some (.int .i64 C.i.s2.party) ∧ W'.cell? ⟨w2.heap.size, 9, none⟩ = some (.int .i64 C.i.s2.seq) ∧ W'.cell? ⟨w2.heap.size, 10, none⟩ = some (.slice r2 C.i.s2.rows.length n2) ∧ W'.cell? ⟨w2.heap.size + 1, 8, none⟩ = some (.int .i64 C.i.s2.party) ∧ W'.cell? ⟨w2.heap.size + 1, 9, none⟩ = some (.int .i64 C.i.s2.seq) ∧ W'.cell? ⟨w2.heap.size + 1, 10, none⟩ = some (.slice r2' C.i.s2.rows.length n2') ∧ Hid (SmAt w w2.heap.size qs qp r0 r1 r2 qs' qp' r0' r1' r2' ks kp n0 n1 n2 ks' kp' n0' n1' n2' C W')) W' := fun W' hb => by
                have h2 := hR.next hb
                have hx := cells_at h2.x
                have hy := cells_at h2.y
                exact ⟨hx 8, hx 9, hx 10, hy 8, hy 9, hy 10, Lib.hid h2⟩
              replace hS0 := Lib.hid hS0
              have hS1 := Lib.hid (fun W' (h : (fun W' => W'.cell? ⟨w2.heap.size, 8, none⟩ = some (.int .i64 C.i.s2.party) ∧ W'.cell? ⟨w2.heap.size, 9, none⟩ = some (.int .i64 C.i.s2.seq) ∧ W'.cell? ⟨w2.heap.size, 10, none⟩ = some (.slice r2 C.i.s2.rows.length n2) ∧ W'.cell? ⟨w2.heap.size + 1, 8, none⟩ = some (.int .i64 C.i.s2.party) ∧ W'.cell? ⟨w2.heap.size + 1, 9, none⟩ = some (.int .i64 C.i.s2.seq) ∧ W'.cell? ⟨w2.heap.size + 1, 10, none⟩ = some (.slice r2' C.i.s2.rows.length n2') ∧ Hid (SmAt w w2.heap.size qs qp r0 r1 r2 qs' qp' r0' r1' r2' ks kp n0 n1 n2 ks' kp' n0' n1' n2' C W')) W') => (and6' h).out)
              have HR := Lib.hid (fun W (h : SmAt w w2.heap.size qs qp r0 r1 r2 qs' qp' r0' r1' r2' ks kp n0 n1 n2 ks' kp' n0' n1' n2' C W) => rowsSame_any W C.i.s2 C.i.s2 _ _ h.r2 h.r2' (fun r hr => HC.out.inn.rok r (.inr (.inr hr))) (fun r hr => HC.out.inn.rok r (.inr (.inr hr))) HC.out.inn.few.2.2 HC.out.inn.few.2.2)
              unfold EqPost at HR
              simp only [smFact] at HR
              replace hR := Lib.hid hR
              clear hk
              go_wp2
              refine any_begin (S := (fun W' => W'.cell? ⟨w2.heap.size, 8, none⟩ = some (.int .i64 C.i.s2.party) ∧ W'.cell? ⟨w2.heap.size, 9, none⟩ = some (.int .i64 C.i.s2.seq) ∧ W'.cell? ⟨w2.heap.size, 10, none⟩ = some (.slice r2 C.i.s2.rows.length n2) ∧ W'.cell? ⟨w2.heap.size + 1, 8, none⟩ = some (.int .i64 C.i.s2.party) ∧ W'.cell? ⟨w2.heap.size + 1, 9, none⟩ = some (.int .i64 C.i.s2.seq) ∧ W'.cell? ⟨w2.heap.size + 1, 10, none⟩ = some (.slice r2' C.i.s2.rows.length n2') ∧ Hid (SmAt w w2.heap.size qs qp r0 r1 r2 qs' qp' r0' r1' r2' ks kp n0 n1 n2 ks' kp' n0' n1' n2' C W'))) 10 (by kernel_rfl) ?_ (fun hHeld => ?_)
              focus (exact hS0.out _ (by (repeat (first | (with_reducible first | exact zR _ _ | exact zA _ _ | assumption | refine zL ?_ _ | refine zD ?_ | refine zN ?_ _) | ((with_reducible first | refine zC ?_ ?_ _ | refine zW ?_ ?_ _); rotate_left; focus (first | exact Nat.le_refl _ | (simp; done) | (simp; omega) | omega)) | with_reducible refine zT ?_ (by assumption)))))
              have hq := plan [0, 1, 2, 3, 4, 5, 6, 7]
              iterate 8 (refine tk hq ?_ rfl (by kernel_rfl) (by assumption) (by rfl) (fun _ _ _ h => h) ?hy ?_; (case hy => (intro w hSw; (try dsimp only at hSw); go_simp; (try with_reducible rfl))); replace hq := hq.tl; (try simp only [Act.put, yA, yB, yC]))
              clear hq
              refine ao 8 rfl (by kernel_rfl) (by rfl) (fun K hK => ?_)
              go_simp
              (go_at_call 48; refine Calls.mono (HR.out _ (hS1.out _ (by assumption))) ?_; rintro e w4 ⟨rfl, hb4⟩)
              refine hK.out _ _ ?_ (fun hHeld => ?_)
              focus (exact hS0.out _ (by (repeat (first | (with_reducible first | exact zR _ _ | exact zA _ _ | assumption | refine zL ?_ _ | refine zD ?_ | refine zN ?_ _) | ((with_reducible first | refine zC ?_ ?_ _ | refine zW ?_ ?_ _); rotate_left; focus (first | exact Nat.le_refl _ | (simp; done) | (simp; omega) | omega)) | with_reducible refine zT ?_ (by assumption)))))
              clear hK K
              (try simp only [Act.put, yA, yB, yC])
              have hq := plan [9]
              iterate 1 (refine tk hq ?_ rfl (by kernel_rfl) (by assumption) (by rfl) (fun _ _ _ h => h) ?hy ?_; (case hy => (intro w hSw; (try dsimp only at hSw); go_simp; (try with_reducible rfl))); replace hq := hq.tl; (try simp only [Act.put, yA, yB, yC]))
              clear hq
              refine any_done (by kernel_rfl) ?_
              go_wp2
              exact ⟨⟨3, by omega, rfl, hS1.out _ hHeld⟩, by simp [intOf]⟩
            · have hlow := hR.low
              replace hR := Lib.hid hR
              go_wp2
              go_ret
              exact ⟨rfl, hlow⟩
end Go.Proofs.YtkgpnikmdmpfaaaGreatDoor

/-
  core.Of.
-/
import Derived.Test.YtkgpnikmdmpfaaaGreatDoorBackP26
set_option linter.unusedVariables false
set_option linter.unusedSimpArgs false
namespace Go.Proofs.YtkgpnikmdmpfaaaGreatDoor
open Go.RowKit Go.Maps

set_option maxRecDepth 100000 in
set_option maxHeartbeats 20000000 in
theorem of_any (w : World) (pt : Parts) (vs vp u0 u1 u2 : Value) (hS : SagasAt w vs pt.sagas) (hPp : Slc postCells 5 w vp pt.posts) (hr0 : RowsAt w u0 pt.s0.rows) (hr1 : RowsAt w u1 pt.s1.rows) (hr2 : RowsAt w u2 pt.s2.rows) (hpar : Parties w)
    (hlen : ∀ s ∈ pt.sagas, s.o.ref.length ≤ 4611686018427387900 ∧ s.o.sku.length ≤ 4611686018427387900) (hpi : ∀ p ∈ pt.posts, PostIn p) (hmany : pt.posts.length < 1000000) :
    Calls Tryz.prog 47 #[.agg #[vs, vp, .int .i64 pt.s0.party, .int .i64 pt.s0.seq, u0, .int .i64 pt.s1.party, .int .i64 pt.s1.seq, u1, .int .i64 pt.s2.party, .int .i64 pt.s2.seq, u2]] w (OfPost w pt) := by
  obtain ⟨qs, ks, rfl⟩ := slc_shape hS
  obtain ⟨qp, kp, rfl⟩ := slc_shape hPp
  obtain ⟨r0, n0, rfl⟩ := slc_shape hr0
  obtain ⟨r1, n1, rfl⟩ := slc_shape hr1
  obtain ⟨r2, n2, rfl⟩ := slc_shape hr2
  replace hS := Lib.hid hS
  replace hPp := Lib.hid hPp
  replace hr0 := Lib.hid hr0
  replace hr1 := Lib.hid hr1
  replace hr2 := Lib.hid hr2
  replace hpar := Lib.hid hpar
  replace hlen := Lib.hid hlen
  replace hpi := Lib.hid hpi
  go_enter Tryz.func47, Tryz.ntmps47
  by_cases hfew : 60 < pt.sagas.length
  · have hN := Lib.hid (coreOf_none1 hfew)
    go_wp2_with (go_at_call 7; refine Calls.mono (coreNew_any _) ?_; rintro e w1 ⟨pc, pb, P, Q, rfl, hC1, hb1⟩; have hz1 := hb1.size; (try simp at hz1); obtain ⟨hc1, hf1, hrr1, _⟩ := brow hb1; replace hC1 := Lib.hid hC1; replace hb1 := Lib.hid hb1)
    refine bodyPost_ret (v := .tuple #[.pointer none, .int .i64 2]) ?_ rfl (ofPost_none hN.out ?_)
    · simp [results, Tryz.results47, go_sem, ↓IntWalk.iteOmega, *]
    · have := hb1.out
      (repeat (first | (with_reducible first | exact zR _ _ | exact zA _ _ | assumption | refine zL ?_ _ | refine zD ?_ | refine zN ?_ _) | ((with_reducible first | refine zC ?_ ?_ _ | refine zW ?_ ?_ _); rotate_left; focus (first | exact Nat.le_refl _ | (simp; done) | (simp; omega) | omega)) | with_reducible refine zT ?_ (by assumption)))
  · go_wp2_with (go_at_call 7; refine Calls.mono (coreNew_any _) ?_; rintro e w1 ⟨pc, pb, P, Q, rfl, hC1, hb1⟩; have hz1 := hb1.size; (try simp at hz1); obtain ⟨hc1, hf1, hrr1, _⟩ := brow hb1; replace hC1 := Lib.hid hC1; replace hb1 := Lib.hid hb1)
    have hO1 : OAt w _ (w.heap.size + 1) pc (.slice none 0 0) pb (.slice none 0 0) P Q (.slice none 0 0) (.slice none 0 0) (.slice none 0 0) none Sp.noCore w1 := ⟨((alloc_grew w (.cells #[.slice qs pt.sagas.length ks, .slice qp pt.posts.length kp, .int .i64 pt.s0.party, .int .i64 pt.s0.seq, .slice r0 pt.s0.rows.length n0, .int .i64 pt.s1.party, .int .i64 pt.s1.seq, .slice r1 pt.s1.rows.length n1, .int .i64 pt.s2.party, .int .i64 pt.s2.seq, .slice r2 pt.s2.rows.length n2] 87)).trans (hb1.out.mono (by simp))), heap_below hb1.out (heap_at rfl), by simpa using hC1.out, Nat.lt_succ_self _⟩
    clear hb1 hC1 hc1 hf1 hrr1
    obtain ⟨arr, harr⟩ : ∃ arr : Array Value, Hid (arr = #[.slice qs pt.sagas.length ks, .slice qp pt.posts.length kp, .int .i64 pt.s0.party, .int .i64 pt.s0.seq, .slice r0 pt.s0.rows.length n0, .int .i64 pt.s1.party, .int .i64 pt.s1.seq, .slice r1 pt.s1.rows.length n1, .int .i64 pt.s2.party, .int .i64 pt.s2.seq, .slice r2 pt.s2.rows.length n2]) := ⟨_, Lib.hid rfl⟩
    rw [← harr.out] at hO1
    go_loopw [23] (fun x wr => RelO1 w arr (w.heap.size + 1) pc pb P Q pt x wr) (fun x _ => (pt.sagas.length : Nat) - (intOf x).toNat)
    case atStart => exact ⟨0, _, Nat.zero_le _, rfl, hO1, rfl⟩
    case round =>
      obtain ⟨i, vl, hi, rfl, hO, hof⟩ := hrel
      have hlen' : (pt.sagas.take i).length = i := by rw [List.length_take]; omega
      obtain ⟨acc, hacc⟩ : ∃ acc, Hid (acc = pt.sagas.take i) := ⟨_, Lib.hid rfl⟩
      rw [← hacc.out] at hO hof hlen'
      subst hlen'
      by_cases hlt : acc.length < pt.sagas.length
      · obtain ⟨s, hs⟩ : ∃ s, pt.sagas[acc.length]? = some s := ⟨_, List.getElem?_eq_getElem hlt⟩
        have hstep := ofSagas_step hs
        rw [← hacc.out] at hstep
        have hl2 := hlen.out s (List.mem_of_getElem? hs)
        rcases hS.out.mono hO.low with ⟨_, h0⟩ | ⟨b, cap, e, hcap, hb, hcells⟩
        · rw [h0] at hlt; simp at hlt
        · cases e
          obtain ⟨g0, g1, g2, g3, g4, g5, g6, g7, g8, g9, g10, g11⟩ := saga_facts hcells (Below.refl _ _) hs
          have HV := fun W => Valid_any s W hl2.1 hl2.2
          have htk : pt.sagas.take (acc.length + 1) = acc ++ [s] := by
            obtain ⟨hlt, rfl⟩ := List.getElem?_eq_some_iff.1 hs
            rw [List.take_succ_eq_append_getElem hlt, ← hacc.out]
          obtain ⟨ql, kl, rfl⟩ := own_slice' hO.core.own
          have hchk : Sp.valid s = true → Sp.orderCheck s.o = 0 := fun h => by simp [Sp.valid] at h; exact h.1
          replace htk := Lib.hid htk
          replace hchk := Lib.hid hchk
          replace hO := Lib.hid hO
          clear hcells hs hl2
          obtain ⟨⟨id, ref, sku, qty, amount⟩, d0, d1, d2, d3, d4, d5, cancel⟩ := s
          simp only at g0 g1 g2 g3 g4 g5 g6 g7 g8 g9 g10 g11 hstep HV hchk
          simp only [sagaVal] at HV
          generalize Sp.valid ⟨⟨id, ref, sku, qty, amount⟩, d0, d1, d2, d3, d4, d5, cancel⟩ = vld at HV hstep hchk
          replace HV := Lib.hid HV
          by_cases hid : id = (acc.length : Int) + 1
          · subst hid
            cases vld
            · have hN := Lib.hid (coreOf_none2 (pt := pt) (by rw [hof, hstep]; simp))
              go_wp2_with (go_at_call 82; refine Calls.mono (HV.out _) ?_; rintro e wv ⟨rfl, hbv⟩; have hzv := hbv.size; (try simp at hzv); replace hbv := Lib.hid hbv)
              refine bodyPost_ret (v := .tuple #[.pointer none, .int .i64 2]) ?_ rfl (ofPost_none hN.out ?_)
              · simp [results, Tryz.results47, go_sem, ↓IntWalk.iteOmega, *]
              · exact hO.out.low.trans ((Below.trans (alloc_grew _ _) (hbv.out.mono (by simp))).mono hO.out.low.size)
            · cases hhas : Sp.hasRef acc ref
              · replace hhas := Lib.hid hhas
                have hof2 := Lib.hid (show ofSagas [] pt.sagas = ofSagas (pt.sagas.take (acc.length + 1)) (pt.sagas.drop (acc.length + 1)) by rw [hof, hstep, hhas.out]; simp)
                go_wp2_with (first
                | (go_at_call 50; refine Calls.mono (has_any _ pc _ acc ref (cells_at hOv.out.core.head 0) hOv.out.core.slc (by omega)) ?_; rw [hhas.out]; rintro e wh ⟨rfl, hbh⟩; have hzh := hbh.size; replace hbh := Lib.hid hbh)
                | (go_at_call 82; refine Calls.mono (HV.out _) ?_; rintro e wv ⟨rfl, hbv⟩; have hzv := hbv.size; (try simp at hzv); have hOv := Lib.hid (hO.out.next (Below.trans (alloc_grew _ _) (hbv.mono (by simp)))); obtain ⟨hcv, hfv, hrv, _⟩ := brow hbv; replace hbv := Lib.hid hbv))
                have hOh := hOv.out.next hbh.out
                have hOd := hOh.next (Below.refl _ _).drew
                have hH : (fun w' => w'.cell? ⟨pc, 0, none⟩ = some (.slice ql acc.length kl) ∧ w'.frozen? ⟨pc, 0, none⟩ = false ∧ w'.cell? ⟨wr.heap.size, 0, none⟩ = some (.int .i64 ((acc.length : Int) + 1)) ∧ w'.cell? ⟨wr.heap.size, 1, none⟩ = some (.string (str ref)) ∧ w'.cell? ⟨wr.heap.size, 2, none⟩ = some (.string (str sku)) ∧ w'.cell? ⟨wr.heap.size, 3, none⟩ = some (.int .i64 qty) ∧ w'.cell? ⟨wr.heap.size, 4, none⟩ = some (.int .i64 amount) ∧ w'.cell? ⟨wr.heap.size, 5, none⟩ = some (.int .i64 d0) ∧ w'.cell? ⟨wr.heap.size, 6, none⟩ = some (.int .i64 d1) ∧ w'.cell? ⟨wr.heap.size, 7, none⟩ = some (.int .i64 d2) ∧ w'.cell? ⟨wr.heap.size, 8, none⟩ = some (.int .i64 d3) ∧ w'.cell? ⟨wr.heap.size, 9, none⟩ = some (.int .i64 d4) ∧ w'.cell? ⟨wr.heap.size, 10, none⟩ = some (.int .i64 d5) ∧ w'.cell? ⟨wr.heap.size, 11, none⟩ = some (.bool cancel)) wh.drew := by
                  have hn := cells_at (heap_below hbh.out (heap_below hbv.out (heap_alloc_new wr (.cells #[.int .i64 ((acc.length : Int) + 1), .string (str ref), .string (str sku), .int .i64 qty, .int .i64 amount, .int .i64 d0, .int .i64 d1, .int .i64 d2, .int .i64 d3, .int .i64 d4, .int .i64 d5, .bool cancel] 89))))
                  exact ⟨cells_at hOd.core.head 0, frozen_at hOd.core.head 0, hn 0, hn 1, hn 2, hn 3, hn 4, hn 5, hn 6, hn 7, hn 8, hn 9, hn 10, hn 11⟩
                have hne1 : (Value.slice ql acc.length kl).ownBlock ≠ some pc := fun he => by
                  obtain ⟨cc, hc⟩ := own_block hOd.core.own he
                  exact ne_of_types hc hOd.core.head (by decide) rfl
                have hne2 : (Value.slice ql acc.length kl).ownBlock ≠ some wr.heap.size := fun he => by
                  obtain ⟨cc, hc⟩ := own_block hO.out.core.own he
                  have := (Array.getElem?_eq_some_iff.1 hc).1
                  omega
                simp only at hH
                replace hne1 := Lib.hid hne1
                replace hne2 := Lib.hid hne2
                replace hOd := Lib.hid hOd
                replace hOh := Lib.hid hOh
                clear hcv hfv hrv hbv hbh
                refine any_begin (S := (fun w' => w'.cell? ⟨pc, 0, none⟩ = some (.slice ql acc.length kl) ∧ w'.frozen? ⟨pc, 0, none⟩ = false ∧ w'.cell? ⟨wr.heap.size, 0, none⟩ = some (.int .i64 ((acc.length : Int) + 1)) ∧ w'.cell? ⟨wr.heap.size, 1, none⟩ = some (.string (str ref)) ∧ w'.cell? ⟨wr.heap.size, 2, none⟩ = some (.string (str sku)) ∧ w'.cell? ⟨wr.heap.size, 3, none⟩ = some (.int .i64 qty) ∧ w'.cell? ⟨wr.heap.size, 4, none⟩ = some (.int .i64 amount) ∧ w'.cell? ⟨wr.heap.size, 5, none⟩ = some (.int .i64 d0) ∧ w'.cell? ⟨wr.heap.size, 6, none⟩ = some (.int .i64 d1) ∧ w'.cell? ⟨wr.heap.size, 7, none⟩ = some (.int .i64 d2) ∧ w'.cell? ⟨wr.heap.size, 8, none⟩ = some (.int .i64 d3) ∧ w'.cell? ⟨wr.heap.size, 9, none⟩ = some (.int .i64 d4) ∧ w'.cell? ⟨wr.heap.size, 10, none⟩ = some (.int .i64 d5) ∧ w'.cell? ⟨wr.heap.size, 11, none⟩ = some (.bool cancel))) 10 (by kernel_rfl) ?_ (fun hHeld => ?_)
                focus (first | exact hH | exact keep13 (s := ⟨⟨(acc.length : Int) + 1, ref, sku, qty, amount⟩, d0, d1, d2, d3, d4, d5, cancel⟩) (by assumption) (World.grownBy_alloc _ _ none) (by simp) (by simp) | exact keep13 (s := ⟨⟨(acc.length : Int) + 1, ref, sku, qty, amount⟩, d0, d1, d2, d3, d4, d5, cancel⟩) (by assumption) hgi hne1.out.symm hne2.out.symm | assumption)
                have hq := plan [0, 1, 2, 3, 4, 5]
                iterate 6 (refine tk hq ?_ rfl (by kernel_rfl) (by assumption) (by rfl) (fun _ _ _ h => h) ?hy ?_; (case hy => (intro w hSw; (try dsimp only at hSw); go_simp; (try with_reducible rfl))); replace hq := hq.tl; (try simp only [Act.put, yA, yB, yC]))
                clear hq
                refine ao 6 rfl (by kernel_rfl) (by rfl) (fun K hK => ?_)
                go_simp
                refine hK.out _ _ ?_ (fun hHeld => ?_)
                focus (first | exact hH | exact keep13 (s := ⟨⟨(acc.length : Int) + 1, ref, sku, qty, amount⟩, d0, d1, d2, d3, d4, d5, cancel⟩) (by assumption) (World.grownBy_alloc _ _ none) (by simp) (by simp) | exact keep13 (s := ⟨⟨(acc.length : Int) + 1, ref, sku, qty, amount⟩, d0, d1, d2, d3, d4, d5, cancel⟩) (by assumption) hgi hne1.out.symm hne2.out.symm | assumption)
                clear hK K
                (try simp only [Act.put, yA, yB, yC])
                refine ao 7 rfl (by kernel_rfl) (by rfl) (fun K hK => ?_)
                obtain ⟨v1, wi, hri, hoi, hgi, _⟩ := run_app1 (P := Tryz.prog) (W := wh.drew) (w.heap.size + 1) 56 56 89 _ 12 112 Tryz.underlying56 info_saga rfl (by decide) (.slice ql acc.length kl) acc.length (acc.flatMap sagaCells) #[.int .i64 ((acc.length : Int) + 1), .string (str ref), .string (str sku), .int .i64 qty, .int .i64 amount, .int .i64 d0, .int .i64 d1, .int .i64 d2, .int .i64 d3, .int .i64 d4, .int .i64 d5, .bool cancel] rfl (by simp [Value.oneCell']) hOd.out.core.own (by have := (Array.getElem?_eq_some_iff.1 hOd.out.core.head).1; have := hOd.out.core.ge; omega) (by omega) (by unfold maxLen; omega); obtain ⟨z1, z3, rfl⟩ := own_slice' hoi; rw [alloc_drew, size_drew] at hri; refine wp_append (.tmp 50) (.tmp 52) rfl rfl rfl hri ?_
                refine hK.out _ _ ?_ (fun hHeld => ?_)
                focus (first | exact hH | exact keep13 (s := ⟨⟨(acc.length : Int) + 1, ref, sku, qty, amount⟩, d0, d1, d2, d3, d4, d5, cancel⟩) (by assumption) (World.grownBy_alloc _ _ none) (by simp) (by simp) | exact keep13 (s := ⟨⟨(acc.length : Int) + 1, ref, sku, qty, amount⟩, d0, d1, d2, d3, d4, d5, cancel⟩) (by assumption) hgi hne1.out.symm hne2.out.symm | assumption)
                clear hK K
                (try simp only [Act.put, yA, yB, yC])
                refine ao 8 rfl (by kernel_rfl) (by rfl) (fun K hK => ?_)
                go_simp
                refine hK.out _ _ ?_ (fun hHeld => ?_)
                focus (first | exact hH | exact keep13 (s := ⟨⟨(acc.length : Int) + 1, ref, sku, qty, amount⟩, d0, d1, d2, d3, d4, d5, cancel⟩) (by assumption) (World.grownBy_alloc _ _ none) (by simp) (by simp) | exact keep13 (s := ⟨⟨(acc.length : Int) + 1, ref, sku, qty, amount⟩, d0, d1, d2, d3, d4, d5, cancel⟩) (by assumption) hgi hne1.out.symm hne2.out.symm | assumption)
                clear hK K
                (try simp only [Act.put, yA, yB, yC])
                have hq := plan [9]
                iterate 1 (refine tk hq ?_ rfl (by kernel_rfl) (by assumption) (by rfl) (fun _ _ _ h => h) ?hy ?_; (case hy => (intro w hSw; (try dsimp only at hSw); go_simp; (try with_reducible rfl))); replace hq := hq.tl; (try simp only [Act.put, yA, yB, yC]))
                clear hq
                refine al 10 rfl (by kernel_rfl) rfl (by rfl) (fun K hK => ?_)
                go_simp
                refine hK.out _ _ ?_
                clear hK K
                (try simp only [Act.put, yA, yB, yC])
                have hCi := CoreIs.saga (s := ⟨⟨(acc.length : Int) + 1, ref, sku, qty, amount⟩, d0, d1, d2, d3, d4, d5, cancel⟩) hOd.out.core hgi hoi (hchk.out (by trivial)) (by simp only; omega)
                have hOi := OAt.saga hOd.out hgi hCi
                rw [← htk.out] at hOi
                go_wp2
                exact ⟨⟨acc.length + 1, _, by omega, by go_num, hOi, hof2.out⟩, by simp [intOf]; omega⟩
              · have hN := Lib.hid (coreOf_none2 (pt := pt) (by rw [hof, hstep, hhas]; simp))
                replace hhas := Lib.hid hhas
                go_wp2_with (first
                | (go_at_call 50; refine Calls.mono (has_any _ pc _ acc ref (cells_at hOv.out.core.head 0) hOv.out.core.slc (by omega)) ?_; rw [hhas.out]; rintro e wh ⟨rfl, hbh⟩; have hzh := hbh.size; replace hbh := Lib.hid hbh)
                | (go_at_call 82; refine Calls.mono (HV.out _) ?_; rintro e wv ⟨rfl, hbv⟩; have hzv := hbv.size; (try simp at hzv); have hOv := Lib.hid (hO.out.next (Below.trans (alloc_grew _ _) (hbv.mono (by simp)))); obtain ⟨hcv, hfv, hrv, _⟩ := brow hbv; replace hbv := Lib.hid hbv))
                refine bodyPost_ret (v := .tuple #[.pointer none, .int .i64 2]) ?_ rfl (ofPost_none hN.out ?_)
                · simp [results, Tryz.results47, go_sem, ↓IntWalk.iteOmega, *]
                · exact (hOv.out.next hbh.out).low
          · have hN := Lib.hid (coreOf_none2 (pt := pt) (by rw [hof, hstep]; simp [hid]))
            go_wp2
            refine bodyPost_ret (v := .tuple #[.pointer none, .int .i64 2]) ?_ rfl (ofPost_none hN.out ?_)
            · simp [results, Tryz.results47, go_sem, ↓IntWalk.iteOmega, *]
            · have := hO.out.low
              have hz := this.size
              (repeat (first | (with_reducible first | exact zR _ _ | exact zA _ _ | assumption | refine zL ?_ _ | refine zD ?_ | refine zN ?_ _) | ((with_reducible first | refine zC ?_ ?_ _ | refine zW ?_ ?_ _); rotate_left; focus (first | exact Nat.le_refl _ | (simp; done) | (simp; omega) | omega)) | with_reducible refine zT ?_ (by assumption)))
      · have hll : acc.length = pt.sagas.length := by omega
        obtain rfl : acc = pt.sagas := by rw [hacc.out]; exact List.take_of_length_le (by omega)
        have hOS : ofSagas [] pt.sagas = true := by rw [hof, List.drop_of_length_le (by omega)]; simp [ofSagas]
        replace hOS := Lib.hid hOS
        have hbx := cells_at hO.box
        rw [harr.out] at hbx
        obtain ⟨ql, kl, rfl⟩ := own_slice' hO.core.own
        have hxl := (Array.getElem?_eq_some_iff.1 hO.box).1
        replace hO := Lib.hid hO
        clear hO1 hof hll hlt hi hacc
        go_wp2
        go_loopw [60] (fun x wr => RelO2 w arr (w.heap.size + 1) pc (.slice ql pt.sagas.length kl) pb P Q pt x wr) (fun x _ => (pt.posts.length : Nat) - (intOf x).toNat)
        case atStart => exact ⟨Sp.noBooks, _, Nat.zero_le _, rfl, hO.out, rfl⟩
        case round =>
          clear hO hbx
          obtain ⟨b, vb, hi, rfl, hO, hof⟩ := hrel
          by_cases hlt : b.l.length < pt.posts.length
          · obtain ⟨p, hp⟩ : ∃ p, pt.posts[b.l.length]? = some p := ⟨_, List.getElem?_eq_getElem hlt⟩
            have hpp := hpi.out p (List.mem_of_getElem? hp)
            have hstep := ofPosts_step (b := b) hp
            rcases hPp.out.mono hO.low with ⟨_, h0⟩ | ⟨bb, cap, e, hcap, hbb, hcells⟩
            · rw [h0] at hlt; simp at hlt
            · cases e
              obtain ⟨g0, g1, g2, g3, g4⟩ := post_facts hcells hp
              have HPo := fun W h => post_any W (w.heap.size + 1) pb P Q vb b p h hpp (by omega)
              have hcode := post_code b p
              unfold PostPost at HPo
              clear hcells hp hpp
              obtain ⟨id, order, debit, credit, amount⟩ := p
              simp only [postVal'] at HPo
              simp only at g0 g1 g2 g3 g4
              rcases hq : Sp.post b ⟨id, order, debit, credit, amount⟩ with ⟨b', er⟩
              simp only [hq] at HPo hcode hstep
              clear hq
              replace HPo := Lib.hid HPo
              replace hO := Lib.hid hO
              go_wp2
              have hOd := (hO.out.next (alloc_grew wr (.cells #[.string (str id), .int .i64 order, .int .i64 debit, .int .i64 credit, .int .i64 amount] 92))).next (Below.refl _ _).drew
              have hH : (fun w' => w'.cell? ⟨pc, 1, none⟩ = some (.pointer (some ⟨pb, 0, none⟩)) ∧ w'.cell? ⟨wr.heap.size, 0, none⟩ = some (.string (str id)) ∧ w'.cell? ⟨wr.heap.size, 1, none⟩ = some (.int .i64 order) ∧ w'.cell? ⟨wr.heap.size, 2, none⟩ = some (.int .i64 debit) ∧ w'.cell? ⟨wr.heap.size, 3, none⟩ = some (.int .i64 credit) ∧ w'.cell? ⟨wr.heap.size, 4, none⟩ = some (.int .i64 amount)) (wr.alloc (.cells #[.string (str id), .int .i64 order, .int .i64 debit, .int .i64 credit, .int .i64 amount] 92)).drew := by
                have hn := cells_at (heap_alloc_new wr (.cells #[.string (str id), .int .i64 order, .int .i64 debit, .int .i64 credit, .int .i64 amount] 92))
                exact ⟨cells_at hOd.core.head 1, hn 0, hn 1, hn 2, hn 3, hn 4⟩
              simp only at hH
              have hpcF : ¬ (pc = pb ∨ pc = P ∨ pc = Q ∨ vb.ownBlock = some pc) := fun e => hOd.core.books.ne_cells hOd.core.head (by decide) (by decide) e rfl
              have hBF : ¬ (wr.heap.size = pb ∨ wr.heap.size = P ∨ wr.heap.size = Q ∨ vb.ownBlock = some wr.heap.size) := fun e => by have := hO.out.core.books.lt' e; omega
              replace hpcF := Lib.hid hpcF
              replace hBF := Lib.hid hBF
              replace hOd := Lib.hid hOd
              rcases hcode with rfl | rfl | rfl | rfl
              · by_cases hbl : b'.l.length = b.l.length + 1
                · have hof2 := Lib.hid (show ofPosts Sp.noBooks pt.posts = ofPosts b' (pt.posts.drop b'.l.length) by rw [hof, hstep, if_pos ⟨rfl, hbl⟩, hbl])
                  have hbl2 := Lib.hid hbl
                  have hbi : (b'.l.length : Int) = (b.l.length : Int) + 1 := by omega
                  have hw : IntKind.i64.wrap ((b.l.length : Int) + 1) = (b.l.length : Int) + 1 := by rw [IntKind.wrap_i64]; omega
                  clear hstep hof hbl
                  refine any_begin (S := (fun w' => w'.cell? ⟨pc, 1, none⟩ = some (.pointer (some ⟨pb, 0, none⟩)) ∧ w'.cell? ⟨wr.heap.size, 0, none⟩ = some (.string (str id)) ∧ w'.cell? ⟨wr.heap.size, 1, none⟩ = some (.int .i64 order) ∧ w'.cell? ⟨wr.heap.size, 2, none⟩ = some (.int .i64 debit) ∧ w'.cell? ⟨wr.heap.size, 3, none⟩ = some (.int .i64 credit) ∧ w'.cell? ⟨wr.heap.size, 4, none⟩ = some (.int .i64 amount))) 17 (by kernel_rfl) ?_ (fun hHeld => ?_)
                  focus (first | exact hH | exact keep6 (by assumption) hkp hpcF.out hBF.out | assumption)
                  have hq := plan [0, 1, 2, 3, 4]
                  iterate 5 (refine tk hq ?_ rfl (by kernel_rfl) (by assumption) (by rfl) (fun _ _ _ h => h) ?hy ?_; (case hy => (intro w hSw; (try dsimp only at hSw); go_simp; (try with_reducible rfl))); replace hq := hq.tl; (try simp only [Act.put, yA, yB, yC]))
                  clear hq
                  refine ao 5 rfl (by kernel_rfl) (by rfl) (fun K hK => ?_)
                  go_simp
                  (first   | (go_at_call 83; refine Calls.mono (many_any _ (w.heap.size + 1) pb P Q _ b' hbz) ?_; rintro e wm ⟨rfl, rfl⟩)   | (go_at_call 56; refine Calls.mono (HPo.out _ hOd.out.core.books) ?_; rintro e wp ⟨rfl, ⟨z, hbz, hz⟩, hkp⟩))
                  refine hK.out _ _ ?_ (fun hHeld => ?_)
                  focus (first | exact hH | exact keep6 (by assumption) hkp hpcF.out hBF.out | assumption)
                  clear hK K
                  (try simp only [Act.put, yA, yB, yC])
                  have hq := plan [6, 7, 8, 9, 10, 11, 13, 14]
                  iterate 8 (refine tk hq ?_ rfl (by kernel_rfl) (by assumption) (by rfl) (fun _ _ _ h => h) ?hy ?_; (case hy => (intro w hSw; (try dsimp only at hSw); go_simp; (try with_reducible rfl))); replace hq := hq.tl; (try simp only [Act.put, yA, yB, yC]))
                  clear hq
                  refine ao 12 rfl (by kernel_rfl) (by rfl) (fun K hK => ?_)
                  go_simp
                  (first   | (go_at_call 83; refine Calls.mono (many_any _ (w.heap.size + 1) pb P Q _ b' hbz) ?_; rintro e wm ⟨rfl, rfl⟩)   | (go_at_call 56; refine Calls.mono (HPo.out _ hOd.out.core.books) ?_; rintro e wp ⟨rfl, ⟨z, hbz, hz⟩, hkp⟩))
                  refine hK.out _ _ ?_ (fun hHeld => ?_)
                  focus (first | exact hH | exact keep6 (by assumption) hkp hpcF.out hBF.out | assumption)
                  clear hK K
                  (try simp only [Act.put, yA, yB, yC])
                  have hq := plan [15, 16]
                  iterate 2 (refine tk hq ?_ rfl (by kernel_rfl) (by assumption) (by rfl) (fun _ _ _ h => h) ?hy ?_; (case hy => (intro w hSw; (try dsimp only at hSw); go_simp; (try with_reducible rfl))); replace hq := hq.tl; (try simp only [Act.put, yA, yB, yC]))
                  clear hq
                  refine any_done (by kernel_rfl) ?_
                  go_wp2
                  refine ⟨⟨b', z, by have := hbl2.out; omega, ?_, hOd.out.post hbz hkp, hof2.out⟩, by simp [intOf]; omega⟩
                  rw [hbl2.out]
                  go_num
                · have hN := Lib.hid (coreOf_none3 (pt := pt) (by rw [hof, hstep, if_neg (fun h => hbl h.2)]))
                  have hbi : ¬ (b'.l.length : Int) = (b.l.length : Int) + 1 := by omega
                  have hw : IntKind.i64.wrap ((b.l.length : Int) + 1) = (b.l.length : Int) + 1 := by rw [IntKind.wrap_i64]; omega
                  clear hstep hof hbl
                  refine any_begin (S := (fun w' => w'.cell? ⟨pc, 1, none⟩ = some (.pointer (some ⟨pb, 0, none⟩)) ∧ w'.cell? ⟨wr.heap.size, 0, none⟩ = some (.string (str id)) ∧ w'.cell? ⟨wr.heap.size, 1, none⟩ = some (.int .i64 order) ∧ w'.cell? ⟨wr.heap.size, 2, none⟩ = some (.int .i64 debit) ∧ w'.cell? ⟨wr.heap.size, 3, none⟩ = some (.int .i64 credit) ∧ w'.cell? ⟨wr.heap.size, 4, none⟩ = some (.int .i64 amount))) 17 (by kernel_rfl) ?_ (fun hHeld => ?_)
                  focus (first | exact hH | exact keep6 (by assumption) hkp hpcF.out hBF.out | assumption)
                  have hq := plan [0, 1, 2, 3, 4]
                  iterate 5 (refine tk hq ?_ rfl (by kernel_rfl) (by assumption) (by rfl) (fun _ _ _ h => h) ?hy ?_; (case hy => (intro w hSw; (try dsimp only at hSw); go_simp; (try with_reducible rfl))); replace hq := hq.tl; (try simp only [Act.put, yA, yB, yC]))
                  clear hq
                  refine ao 5 rfl (by kernel_rfl) (by rfl) (fun K hK => ?_)
                  go_simp
                  (first   | (go_at_call 83; refine Calls.mono (many_any _ (w.heap.size + 1) pb P Q _ b' hbz) ?_; rintro e wm ⟨rfl, rfl⟩)   | (go_at_call 56; refine Calls.mono (HPo.out _ hOd.out.core.books) ?_; rintro e wp ⟨rfl, ⟨z, hbz, hz⟩, hkp⟩))
                  refine hK.out _ _ ?_ (fun hHeld => ?_)
                  focus (first | exact hH | exact keep6 (by assumption) hkp hpcF.out hBF.out | assumption)
                  clear hK K
                  (try simp only [Act.put, yA, yB, yC])
                  have hq := plan [6, 7, 8, 9, 10, 11, 13, 14]
                  iterate 8 (refine tk hq ?_ rfl (by kernel_rfl) (by assumption) (by rfl) (fun _ _ _ h => h) ?hy ?_; (case hy => (intro w hSw; (try dsimp only at hSw); go_simp; (try with_reducible rfl))); replace hq := hq.tl; (try simp only [Act.put, yA, yB, yC]))
                  clear hq
                  refine ao 12 rfl (by kernel_rfl) (by rfl) (fun K hK => ?_)
                  go_simp
                  (first   | (go_at_call 83; refine Calls.mono (many_any _ (w.heap.size + 1) pb P Q _ b' hbz) ?_; rintro e wm ⟨rfl, rfl⟩)   | (go_at_call 56; refine Calls.mono (HPo.out _ hOd.out.core.books) ?_; rintro e wp ⟨rfl, ⟨z, hbz, hz⟩, hkp⟩))
                  refine hK.out _ _ ?_ (fun hHeld => ?_)
                  focus (first | exact hH | exact keep6 (by assumption) hkp hpcF.out hBF.out | assumption)
                  clear hK K
                  (try simp only [Act.put, yA, yB, yC])
                  have hq := plan [15, 16]
                  iterate 2 (refine tk hq ?_ rfl (by kernel_rfl) (by assumption) (by rfl) (fun _ _ _ h => h) ?hy ?_; (case hy => (intro w hSw; (try dsimp only at hSw); go_simp; (try with_reducible rfl))); replace hq := hq.tl; (try simp only [Act.put, yA, yB, yC]))
                  clear hq
                  refine any_done (by kernel_rfl) ?_
                  go_wp2
                  refine bodyPost_ret (v := .tuple #[.pointer none, .int .i64 2]) ?_ rfl (ofPost_none hN.out ?_)
                  · simp [results, Tryz.results47, go_sem, ↓IntWalk.iteOmega, *]
                  · exact (hOd.out.post hbz hkp).low
              all_goals
                have hN := Lib.hid (coreOf_none3 (pt := pt) (by rw [hof, hstep]; simp))
                refine any_begin (S := (fun w' => w'.cell? ⟨pc, 1, none⟩ = some (.pointer (some ⟨pb, 0, none⟩)) ∧ w'.cell? ⟨wr.heap.size, 0, none⟩ = some (.string (str id)) ∧ w'.cell? ⟨wr.heap.size, 1, none⟩ = some (.int .i64 order) ∧ w'.cell? ⟨wr.heap.size, 2, none⟩ = some (.int .i64 debit) ∧ w'.cell? ⟨wr.heap.size, 3, none⟩ = some (.int .i64 credit) ∧ w'.cell? ⟨wr.heap.size, 4, none⟩ = some (.int .i64 amount))) 17 (by kernel_rfl) ?_ (fun hHeld => ?_)
                focus (first | exact hH | exact keep6 (by assumption) hkp hpcF.out hBF.out | assumption)
                have hq := plan [0, 1, 2, 3, 4]
                iterate 5 (refine tk hq ?_ rfl (by kernel_rfl) (by assumption) (by rfl) (fun _ _ _ h => h) ?hy ?_; (case hy => (intro w hSw; (try dsimp only at hSw); go_simp; (try with_reducible rfl))); replace hq := hq.tl; (try simp only [Act.put, yA, yB, yC]))
                clear hq
                refine ao 5 rfl (by kernel_rfl) (by rfl) (fun K hK => ?_)
                go_simp
                (first   | (go_at_call 83; refine Calls.mono (many_any _ (w.heap.size + 1) pb P Q _ b' hbz) ?_; rintro e wm ⟨rfl, rfl⟩)   | (go_at_call 56; refine Calls.mono (HPo.out _ hOd.out.core.books) ?_; rintro e wp ⟨rfl, ⟨z, hbz, hz⟩, hkp⟩))
                refine hK.out _ _ ?_ (fun hHeld => ?_)
                focus (first | exact hH | exact keep6 (by assumption) hkp hpcF.out hBF.out | assumption)
                clear hK K
                (try simp only [Act.put, yA, yB, yC])
                have hq := plan [6, 7]
                iterate 2 (refine tk hq ?_ rfl (by kernel_rfl) (by assumption) (by rfl) (fun _ _ _ h => h) ?hy ?_; (case hy => (intro w hSw; (try dsimp only at hSw); go_simp; (try with_reducible rfl))); replace hq := hq.tl; (try simp only [Act.put, yA, yB, yC]))
                clear hq
                have hq := plan [8, 9, 10, 11, 12, 13, 14, 15]
                iterate 8 (refine tks hq rfl (by kernel_rfl) (by assumption) (by rfl) (fun _ _ _ h => h) ?_; replace hq := hq.tl; (try simp only [Act.put, yA, yB, yC]))
                clear hq
                have hq := plan [16]
                iterate 1 (refine tk hq ?_ rfl (by kernel_rfl) (by assumption) (by rfl) (fun _ _ _ h => h) ?hy ?_; (case hy => (intro w hSw; (try dsimp only at hSw); go_simp; (try with_reducible rfl))); replace hq := hq.tl; (try simp only [Act.put, yA, yB, yC]))
                clear hq
                refine any_done (by kernel_rfl) ?_
                go_wp2
                refine bodyPost_ret (v := .tuple #[.pointer none, .int .i64 2]) ?_ rfl (ofPost_none hN.out ?_)
                · simp [results, Tryz.results47, go_sem, ↓IntWalk.iteOmega, *]
                · exact (hOd.out.post hbz hkp).low
          · have hll : b.l.length = pt.posts.length := by omega
            have hOB : ofPosts Sp.noBooks pt.posts = some b := by rw [hof, List.drop_of_length_le (by omega)]; simp [ofPosts]
            replace hOB := Lib.hid hOB
            have hbx := cells_at hO.box
            rw [harr.out] at hbx
            obtain ⟨qb, kb, rfl⟩ := own_slice' hO.core.books.own
            have hxl := (Array.getElem?_eq_some_iff.1 hO.box).1
            replace hO := Lib.hid hO
            clear hof hll hi
            go_wp2
            clear hlt
            go_loopw [85] (fun x wr => RelO3 w arr (w.heap.size + 1) pc (.slice ql pt.sagas.length kl) pb (.slice qb b.l.length kb) P Q pt b x wr) (fun x _ => (3 - intOf x).toNat)
            case atStart => exact ⟨0, Sp.noIntake, _, _, _, _, by omega, rfl, hO.out, rfl⟩
            case round =>
              clear hO hbx
              obtain ⟨k, ii, v0, v1, v2, m, hk, rfl, hO, hof⟩ := hrel
              by_cases hk3 : k < 3
              · obtain ⟨s, rr, nn, hs, hidx, hrows⟩ : ∃ (s : Sp.Stmt) (rr : Option Addr) (nn : Nat), ofRest pt k ii = (match ofStmt ii k s with | none => none | some i => ofRest pt (k + 1) i) ∧
                    (∀ W, (Instr.index 57 (.agg #[.int .i64 pt.s0.party, .int .i64 pt.s0.seq, .slice r0 pt.s0.rows.length n0, .int .i64 pt.s1.party, .int .i64 pt.s1.seq, .slice r1 pt.s1.rows.length n1, .int .i64 pt.s2.party, .int .i64 pt.s2.seq, .slice r2 pt.s2.rows.length n2]) (.int .i64 k)).run Tryz.prog W = .ok (.agg #[.int .i64 s.party, .int .i64 s.seq, .slice rr s.rows.length nn]) W) ∧ RowsAt w (.slice rr s.rows.length nn) s.rows := by
                  have hk4 : k = 0 ∨ k = 1 ∨ k = 2 := by omega
                  rcases hk4 with rfl | rfl | rfl
                  · exact ⟨pt.s0, r0, n0, ofRest0 _ _, fun W => idx9_0 _ _ _ _ _ _ _ _ _ W, hr0.out⟩
                  · exact ⟨pt.s1, r1, n1, ofRest1 _ _, fun W => idx9_1 _ _ _ _ _ _ _ _ _ W, hr1.out⟩
                  · exact ⟨pt.s2, r2, n2, ofRest2 _ _, fun W => idx9_2 _ _ _ _ _ _ _ _ _ W, hr2.out⟩
                rw [hs] at hof
                clear hs
                obtain ⟨party, seq, rows⟩ := s
                simp only at hidx hrows
                replace hO := Lib.hid hO
                replace hrows := Lib.hid hrows
                by_cases hsk : seq = 0 ∧ rows.length = 0 ∧ party = 0
                · obtain ⟨e1, e2, e3⟩ := hsk
                  obtain rfl := List.eq_nil_of_length_eq_zero e2
                  subst e1 e3
                  rw [ofStmt_skip ⟨rfl, rfl, rfl⟩] at hof
                  replace hof := Lib.hid hof
                  have hO2 := Lib.hid (hO.out.next (alloc_grew wr (.cells #[.int .i64 0, .int .i64 0, .slice rr 0 nn] 37)))
                  clear e2
                  go_wp2
                  exact ⟨⟨k + 1, ii, v0, v1, v2, m, by omega, by go_num, hO2.out, hof.out⟩, by simp [intOf]; omega⟩
                · have hsk2 : ¬((⟨party, seq, rows⟩ : Sp.Stmt).seq = 0 ∧ (⟨party, seq, rows⟩ : Sp.Stmt).rows = [] ∧ (⟨party, seq, rows⟩ : Sp.Stmt).party = 0) := fun ⟨a, b, c⟩ => hsk ⟨a, by rw [show rows = [] from b]; rfl, c⟩
                  obtain ⟨q0, k0, rfl⟩ := own_slice' hO.out.core.inn.r0
                  obtain ⟨q1, k1, rfl⟩ := own_slice' hO.out.core.inn.r1
                  obtain ⟨q2, k2, rfl⟩ := own_slice' hO.out.core.inn.r2
                  have hS0 : ∀ W', Below (wr.alloc (.cells #[.int .i64 party, .int .i64 seq, .slice rr rows.length nn] 37)).heap.size (wr.alloc (.cells #[.int .i64 party, .int .i64 seq, .slice rr rows.length nn] 37)) W' → (fun W' => W'.cell? ⟨pc, 2, none⟩ = some (.int .i64 ii.s0.party) ∧ W'.cell? ⟨pc, 3, none⟩ = some (.int .i64 ii.s0.seq) ∧ W'.cell? ⟨pc, 4, none⟩ = some (.slice q0 ii.s0.rows.length k0) ∧ W'.cell? ⟨pc, 5, none⟩ = some (.int .i64 ii.s1.party) ∧ W'.cell? ⟨pc, 6, none⟩ = some (.int .i64 ii.s1.seq) ∧ W'.cell? ⟨pc, 7, none⟩ = some (.slice q1 ii.s1.rows.length k1) ∧ W'.cell? ⟨pc, 8, none⟩ = some (.int .i64 ii.s2.party) ∧ W'.cell? ⟨pc, 9, none⟩ = some (.int .i64 ii.s2.seq) ∧ W'.cell? ⟨pc, 10, none⟩ = some (.slice q2 ii.s2.rows.length k2) ∧ W'.cell? ⟨pc, 11, none⟩ = some (.map m) ∧ W'.cell? ⟨wr.heap.size, 0, none⟩ = some (.int .i64 party) ∧ W'.cell? ⟨wr.heap.size, 1, none⟩ = some (.int .i64 seq) ∧ W'.cell? ⟨wr.heap.size, 2, none⟩ = some (.slice rr rows.length nn) ∧ Hid (OAt w arr (w.heap.size + 1) pc (.slice ql pt.sagas.length kl) pb (.slice qb b.l.length kb) P Q (.slice q0 ii.s0.rows.length k0) (.slice q1 ii.s1.rows.length k1) (.slice q2 ii.s2.rows.length k2) m ⟨pt.sagas, b, ii⟩ W' ∧ Below (wr.alloc (.cells #[.int .i64 party, .int .i64 seq, .slice rr rows.length nn] 37)).heap.size (wr.alloc (.cells #[.int .i64 party, .int .i64 seq, .slice rr rows.length nn] 37)) W')) W' := fun W' hb => by
                    have hO2 := (hO.out.next (alloc_grew wr (.cells #[.int .i64 party, .int .i64 seq, .slice rr rows.length nn] 37))).next hb
                    have hx := cells_at (heap_below hb (heap_alloc_new wr (.cells #[.int .i64 party, .int .i64 seq, .slice rr rows.length nn] 37)))
                    have hh := cells_at hO2.core.head
                    exact ⟨hh 2, hh 3, hh 4, hh 5, hh 6, hh 7, hh 8, hh 9, hh 10, hh 11, hx 0, hx 1, hx 2, Lib.hid ⟨hO2, hb⟩⟩
                  replace hS0 := Lib.hid hS0
                  have hS1 := Lib.hid (fun W' (h : (fun W' => W'.cell? ⟨pc, 2, none⟩ = some (.int .i64 ii.s0.party) ∧ W'.cell? ⟨pc, 3, none⟩ = some (.int .i64 ii.s0.seq) ∧ W'.cell? ⟨pc, 4, none⟩ = some (.slice q0 ii.s0.rows.length k0) ∧ W'.cell? ⟨pc, 5, none⟩ = some (.int .i64 ii.s1.party) ∧ W'.cell? ⟨pc, 6, none⟩ = some (.int .i64 ii.s1.seq) ∧ W'.cell? ⟨pc, 7, none⟩ = some (.slice q1 ii.s1.rows.length k1) ∧ W'.cell? ⟨pc, 8, none⟩ = some (.int .i64 ii.s2.party) ∧ W'.cell? ⟨pc, 9, none⟩ = some (.int .i64 ii.s2.seq) ∧ W'.cell? ⟨pc, 10, none⟩ = some (.slice q2 ii.s2.rows.length k2) ∧ W'.cell? ⟨pc, 11, none⟩ = some (.map m) ∧ W'.cell? ⟨wr.heap.size, 0, none⟩ = some (.int .i64 party) ∧ W'.cell? ⟨wr.heap.size, 1, none⟩ = some (.int .i64 seq) ∧ W'.cell? ⟨wr.heap.size, 2, none⟩ = some (.slice rr rows.length nn) ∧ Hid (OAt w arr (w.heap.size + 1) pc (.slice ql pt.sagas.length kl) pb (.slice qb b.l.length kb) P Q (.slice q0 ii.s0.rows.length k0) (.slice q1 ii.s1.rows.length k1) (.slice q2 ii.s2.rows.length k2) m ⟨pt.sagas, b, ii⟩ W' ∧ Below (wr.alloc (.cells #[.int .i64 party, .int .i64 seq, .slice rr rows.length nn] 37)).heap.size (wr.alloc (.cells #[.int .i64 party, .int .i64 seq, .slice rr rows.length nn] 37)) W')) W') => (and13 h).out)
                  rcases accept_cases ii ⟨party, seq, rows⟩ with ⟨n, hn, hacc⟩ | ⟨hacc, hseq⟩
                  · have hN := Lib.hid (coreOf_none4 (pt := pt) (by
                      rw [hof]
                      by_cases hp : party = k
                      · rw [ofStmt_acc hsk2 hp, hacc]
                      · rw [ofStmt_other hsk2 hp]))
                    replace hacc := Lib.hid hacc
                    clear hof hsk2
                    have h3 : seq ≠ 0 ∨ (seq = 0 ∧ rows.length ≠ 0) ∨ (seq = 0 ∧ rows.length = 0 ∧ party ≠ 0) := by omega
                    clear hsk
                    have hn0 : ¬ n = 0 := by omega
                    clear hn
                    rcases h3 with e1 | ⟨rfl, e2⟩ | ⟨rfl, e2, e3⟩
                    · as_aux_lemma =>
                      go_wp2
                      refine any_begin (S := (fun W' => W'.cell? ⟨pc, 2, none⟩ = some (.int .i64 ii.s0.party) ∧ W'.cell? ⟨pc, 3, none⟩ = some (.int .i64 ii.s0.seq) ∧ W'.cell? ⟨pc, 4, none⟩ = some (.slice q0 ii.s0.rows.length k0) ∧ W'.cell? ⟨pc, 5, none⟩ = some (.int .i64 ii.s1.party) ∧ W'.cell? ⟨pc, 6, none⟩ = some (.int .i64 ii.s1.seq) ∧ W'.cell? ⟨pc, 7, none⟩ = some (.slice q1 ii.s1.rows.length k1) ∧ W'.cell? ⟨pc, 8, none⟩ = some (.int .i64 ii.s2.party) ∧ W'.cell? ⟨pc, 9, none⟩ = some (.int .i64 ii.s2.seq) ∧ W'.cell? ⟨pc, 10, none⟩ = some (.slice q2 ii.s2.rows.length k2) ∧ W'.cell? ⟨pc, 11, none⟩ = some (.map m) ∧ W'.cell? ⟨wr.heap.size, 0, none⟩ = some (.int .i64 party) ∧ W'.cell? ⟨wr.heap.size, 1, none⟩ = some (.int .i64 seq) ∧ W'.cell? ⟨wr.heap.size, 2, none⟩ = some (.slice rr rows.length nn) ∧ Hid (OAt w arr (w.heap.size + 1) pc (.slice ql pt.sagas.length kl) pb (.slice qb b.l.length kb) P Q (.slice q0 ii.s0.rows.length k0) (.slice q1 ii.s1.rows.length k1) (.slice q2 ii.s2.rows.length k2) m ⟨pt.sagas, b, ii⟩ W' ∧ Below (wr.alloc (.cells #[.int .i64 party, .int .i64 seq, .slice rr rows.length nn] 37)).heap.size (wr.alloc (.cells #[.int .i64 party, .int .i64 seq, .slice rr rows.length nn] 37)) W'))) 12 (by kernel_rfl) ?_ (fun hHeld => ?_)
                      focus (exact hS0.out _ (by (repeat (first | (with_reducible first | exact zR _ _ | exact zA _ _ | assumption | refine zL ?_ _ | refine zD ?_ | refine zN ?_ _) | ((with_reducible first | refine zC ?_ ?_ _ | refine zW ?_ ?_ _); rotate_left; focus (first | exact Nat.le_refl _ | (simp; done) | (simp; omega) | omega)) | with_reducible refine zT ?_ (by assumption)))))
                      have hq := plan [0, 1, 2, 3, 4]
                      iterate 5 (refine tk hq ?_ rfl (by kernel_rfl) (by assumption) (by rfl) (fun _ _ _ h => h) ?hy ?_; (case hy => (intro w hSw; (try dsimp only at hSw); go_simp; (try with_reducible rfl))); replace hq := hq.tl; (try simp only [Act.put, yA, yB, yC]))
                      clear hq
                      refine at2 5 9 rfl rfl (by kernel_rfl) (by rfl) (by rfl) (fun K hK => ?br2) (fun K hK => ?br3)
                      case' br2 =>
                       go_simp
                       (go_at_call 58; refine Calls.mono (accept_no _ ii _ _ _ m (hS1.out _ (by assumption)).1.core.inn ⟨party, seq, rows⟩ (.slice rr rows.length nn) (hpar.out.grew (hS1.out _ (by assumption)).1.low) (hrows.out.mono (hS1.out _ (by assumption)).1.low).arg hacc.out) ?_; rintro e wa ⟨rfl, hba⟩; have hza := hba.size; (try simp at hza); obtain ⟨hca, hfa, hra, _⟩ := brow hba)
                       refine hK.out _ _ ?_ (fun hHeld => ?_)
                       focus (exact hS0.out _ (by (repeat (first | (with_reducible first | exact zR _ _ | exact zA _ _ | assumption | refine zL ?_ _ | refine zD ?_ | refine zN ?_ _) | ((with_reducible first | refine zC ?_ ?_ _ | refine zW ?_ ?_ _); rotate_left; focus (first | exact Nat.le_refl _ | (simp; done) | (simp; omega) | omega)) | with_reducible refine zT ?_ (by assumption)))))
                       clear hK K
                       (try simp only [Act.put, yA, yB, yC])
                       have hq := plan [6, 7, 8]
                       iterate 3 (refine tk hq ?_ rfl (by kernel_rfl) (by assumption) (by rfl) (fun _ _ _ h => h) ?hy ?_; (case hy => (intro w hSw; (try dsimp only at hSw); go_simp; (try with_reducible rfl))); replace hq := hq.tl; (try simp only [Act.put, yA, yB, yC]))
                       clear hq
                       refine ao 9 rfl (by kernel_rfl) (by rfl) (fun K hK => ?_)
                       go_simp
                       refine hK.out _ _ ?_ (fun hHeld => ?_)
                       focus (exact hS0.out _ (by (repeat (first | (with_reducible first | exact zR _ _ | exact zA _ _ | assumption | refine zL ?_ _ | refine zD ?_ | refine zN ?_ _) | ((with_reducible first | refine zC ?_ ?_ _ | refine zW ?_ ?_ _); rotate_left; focus (first | exact Nat.le_refl _ | (simp; done) | (simp; omega) | omega)) | with_reducible refine zT ?_ (by assumption)))))
                       clear hK K
                       (try simp only [Act.put, yA, yB, yC])
                       refine ao 10 rfl (by kernel_rfl) (by rfl) (fun K hK => ?_)
                       refine wp_store (.tmp 11) (.tmp 110) rfl rfl rfl (run_storeRow (n := 10) (by kernel_rfl) (by repeat (first | exact row?_new (by simp) | exact row?_new rfl | (apply row?_below; assumption))) rfl rfl rfl) ?_
                       refine hK.out _ _ ?_ (fun hHeld => ?_)
                       focus (exact hS0.out _ (by (repeat (first | (with_reducible first | exact zR _ _ | exact zA _ _ | assumption | refine zL ?_ _ | refine zD ?_ | refine zN ?_ _) | ((with_reducible first | refine zC ?_ ?_ _ | refine zW ?_ ?_ _); rotate_left; focus (first | exact Nat.le_refl _ | (simp; done) | (simp; omega) | omega)) | with_reducible refine zT ?_ (by assumption)))))
                       clear hK K
                       (try simp only [Act.put, yA, yB, yC])
                       have hq := plan [11]
                       iterate 1 (refine tk hq ?_ rfl (by kernel_rfl) (by assumption) (by rfl) (fun _ _ _ h => h) ?hy ?_; (case hy => (intro w hSw; (try dsimp only at hSw); go_simp; (try with_reducible rfl))); replace hq := hq.tl; (try simp only [Act.put, yA, yB, yC]))
                       clear hq
                       refine any_done (by kernel_rfl) ?_
                      case' br3 =>
                       go_simp
                       refine hK.out _ _ ?_ (fun hHeld => ?_)
                       focus (exact hS0.out _ (by (repeat (first | (with_reducible first | exact zR _ _ | exact zA _ _ | assumption | refine zL ?_ _ | refine zD ?_ | refine zN ?_ _) | ((with_reducible first | refine zC ?_ ?_ _ | refine zW ?_ ?_ _); rotate_left; focus (first | exact Nat.le_refl _ | (simp; done) | (simp; omega) | omega)) | with_reducible refine zT ?_ (by assumption)))))
                       clear hK K
                       (try simp only [Act.put, yA, yB, yC])
                       refine ao 5 rfl (by kernel_rfl) (by rfl) (fun K hK => ?_)
                       go_simp
                       (go_at_call 58; refine Calls.mono (accept_no _ ii _ _ _ m (hS1.out _ (by assumption)).1.core.inn ⟨party, seq, rows⟩ (.slice rr rows.length nn) (hpar.out.grew (hS1.out _ (by assumption)).1.low) (hrows.out.mono (hS1.out _ (by assumption)).1.low).arg hacc.out) ?_; rintro e wa ⟨rfl, hba⟩; have hza := hba.size; (try simp at hza); obtain ⟨hca, hfa, hra, _⟩ := brow hba)
                       refine hK.out _ _ ?_ (fun hHeld => ?_)
                       focus (exact hS0.out _ (by (repeat (first | (with_reducible first | exact zR _ _ | exact zA _ _ | assumption | refine zL ?_ _ | refine zD ?_ | refine zN ?_ _) | ((with_reducible first | refine zC ?_ ?_ _ | refine zW ?_ ?_ _); rotate_left; focus (first | exact Nat.le_refl _ | (simp; done) | (simp; omega) | omega)) | with_reducible refine zT ?_ (by assumption)))))
                       clear hK K
                       (try simp only [Act.put, yA, yB, yC])
                       have hq := plan [6, 7, 8]
                       iterate 3 (refine tk hq ?_ rfl (by kernel_rfl) (by assumption) (by rfl) (fun _ _ _ h => h) ?hy ?_; (case hy => (intro w hSw; (try dsimp only at hSw); go_simp; (try with_reducible rfl))); replace hq := hq.tl; (try simp only [Act.put, yA, yB, yC]))
                       clear hq
                       refine ao 10 rfl (by kernel_rfl) (by rfl) (fun K hK => ?_)
                       refine wp_store (.tmp 11) (.tmp 110) rfl rfl rfl (run_storeRow (n := 10) (by kernel_rfl) (by repeat (first | exact row?_new (by simp) | exact row?_new rfl | (apply row?_below; assumption))) rfl rfl rfl) ?_
                       refine hK.out _ _ ?_ (fun hHeld => ?_)
                       focus (exact hS0.out _ (by (repeat (first | (with_reducible first | exact zR _ _ | exact zA _ _ | assumption | refine zL ?_ _ | refine zD ?_ | refine zN ?_ _) | ((with_reducible first | refine zC ?_ ?_ _ | refine zW ?_ ?_ _); rotate_left; focus (first | exact Nat.le_refl _ | (simp; done) | (simp; omega) | omega)) | with_reducible refine zT ?_ (by assumption)))))
                       clear hK K
                       (try simp only [Act.put, yA, yB, yC])
                       have hq := plan [11]
                       iterate 1 (refine tk hq ?_ rfl (by kernel_rfl) (by assumption) (by rfl) (fun _ _ _ h => h) ?hy ?_; (case hy => (intro w hSw; (try dsimp only at hSw); go_simp; (try with_reducible rfl))); replace hq := hq.tl; (try simp only [Act.put, yA, yB, yC]))
                       clear hq
                       refine any_done (by kernel_rfl) ?_
                      all_goals
                        go_wp2
                        refine bodyPost_ret (v := .tuple #[.pointer none, .int .i64 2]) ?_ rfl (ofPost_none hN.out ?_)
                        · simp [results, Tryz.results47, go_sem, ↓IntWalk.iteOmega, *]
                        · exact (hS1.out _ hHeld).1.low
                    · as_aux_lemma =>
                      go_wp2
                      refine any_begin (S := (fun W' => W'.cell? ⟨pc, 2, none⟩ = some (.int .i64 ii.s0.party) ∧ W'.cell? ⟨pc, 3, none⟩ = some (.int .i64 ii.s0.seq) ∧ W'.cell? ⟨pc, 4, none⟩ = some (.slice q0 ii.s0.rows.length k0) ∧ W'.cell? ⟨pc, 5, none⟩ = some (.int .i64 ii.s1.party) ∧ W'.cell? ⟨pc, 6, none⟩ = some (.int .i64 ii.s1.seq) ∧ W'.cell? ⟨pc, 7, none⟩ = some (.slice q1 ii.s1.rows.length k1) ∧ W'.cell? ⟨pc, 8, none⟩ = some (.int .i64 ii.s2.party) ∧ W'.cell? ⟨pc, 9, none⟩ = some (.int .i64 ii.s2.seq) ∧ W'.cell? ⟨pc, 10, none⟩ = some (.slice q2 ii.s2.rows.length k2) ∧ W'.cell? ⟨pc, 11, none⟩ = some (.map m) ∧ W'.cell? ⟨wr.heap.size, 0, none⟩ = some (.int .i64 party) ∧ W'.cell? ⟨wr.heap.size, 1, none⟩ = some (.int .i64 0) ∧ W'.cell? ⟨wr.heap.size, 2, none⟩ = some (.slice rr rows.length nn) ∧ Hid (OAt w arr (w.heap.size + 1) pc (.slice ql pt.sagas.length kl) pb (.slice qb b.l.length kb) P Q (.slice q0 ii.s0.rows.length k0) (.slice q1 ii.s1.rows.length k1) (.slice q2 ii.s2.rows.length k2) m ⟨pt.sagas, b, ii⟩ W' ∧ Below (wr.alloc (.cells #[.int .i64 party, .int .i64 0, .slice rr rows.length nn] 37)).heap.size (wr.alloc (.cells #[.int .i64 party, .int .i64 0, .slice rr rows.length nn] 37)) W'))) 12 (by kernel_rfl) ?_ (fun hHeld => ?_)
                      focus (exact hS0.out _ (by (repeat (first | (with_reducible first | exact zR _ _ | exact zA _ _ | assumption | refine zL ?_ _ | refine zD ?_ | refine zN ?_ _) | ((with_reducible first | refine zC ?_ ?_ _ | refine zW ?_ ?_ _); rotate_left; focus (first | exact Nat.le_refl _ | (simp; done) | (simp; omega) | omega)) | with_reducible refine zT ?_ (by assumption)))))
                      have hq := plan [0, 1, 2, 3, 4]
                      iterate 5 (refine tk hq ?_ rfl (by kernel_rfl) (by assumption) (by rfl) (fun _ _ _ h => h) ?hy ?_; (case hy => (intro w hSw; (try dsimp only at hSw); go_simp; (try with_reducible rfl))); replace hq := hq.tl; (try simp only [Act.put, yA, yB, yC]))
                      clear hq
                      refine at2 5 9 rfl rfl (by kernel_rfl) (by rfl) (by rfl) (fun K hK => ?br4) (fun K hK => ?br5)
                      case' br4 =>
                       go_simp
                       (go_at_call 58; refine Calls.mono (accept_no _ ii _ _ _ m (hS1.out _ (by assumption)).1.core.inn ⟨party, 0, rows⟩ (.slice rr rows.length nn) (hpar.out.grew (hS1.out _ (by assumption)).1.low) (hrows.out.mono (hS1.out _ (by assumption)).1.low).arg hacc.out) ?_; rintro e wa ⟨rfl, hba⟩; have hza := hba.size; (try simp at hza); obtain ⟨hca, hfa, hra, _⟩ := brow hba)
                       refine hK.out _ _ ?_ (fun hHeld => ?_)
                       focus (exact hS0.out _ (by (repeat (first | (with_reducible first | exact zR _ _ | exact zA _ _ | assumption | refine zL ?_ _ | refine zD ?_ | refine zN ?_ _) | ((with_reducible first | refine zC ?_ ?_ _ | refine zW ?_ ?_ _); rotate_left; focus (first | exact Nat.le_refl _ | (simp; done) | (simp; omega) | omega)) | with_reducible refine zT ?_ (by assumption)))))
                       clear hK K
                       (try simp only [Act.put, yA, yB, yC])
                       have hq := plan [6, 7, 8]
                       iterate 3 (refine tk hq ?_ rfl (by kernel_rfl) (by assumption) (by rfl) (fun _ _ _ h => h) ?hy ?_; (case hy => (intro w hSw; (try dsimp only at hSw); go_simp; (try with_reducible rfl))); replace hq := hq.tl; (try simp only [Act.put, yA, yB, yC]))
                       clear hq
                       refine ao 9 rfl (by kernel_rfl) (by rfl) (fun K hK => ?_)
                       go_simp
                       refine hK.out _ _ ?_ (fun hHeld => ?_)
                       focus (exact hS0.out _ (by (repeat (first | (with_reducible first | exact zR _ _ | exact zA _ _ | assumption | refine zL ?_ _ | refine zD ?_ | refine zN ?_ _) | ((with_reducible first | refine zC ?_ ?_ _ | refine zW ?_ ?_ _); rotate_left; focus (first | exact Nat.le_refl _ | (simp; done) | (simp; omega) | omega)) | with_reducible refine zT ?_ (by assumption)))))
                       clear hK K
                       (try simp only [Act.put, yA, yB, yC])
                       refine ao 10 rfl (by kernel_rfl) (by rfl) (fun K hK => ?_)
                       refine wp_store (.tmp 11) (.tmp 110) rfl rfl rfl (run_storeRow (n := 10) (by kernel_rfl) (by repeat (first | exact row?_new (by simp) | exact row?_new rfl | (apply row?_below; assumption))) rfl rfl rfl) ?_
                       refine hK.out _ _ ?_ (fun hHeld => ?_)
                       focus (exact hS0.out _ (by (repeat (first | (with_reducible first | exact zR _ _ | exact zA _ _ | assumption | refine zL ?_ _ | refine zD ?_ | refine zN ?_ _) | ((with_reducible first | refine zC ?_ ?_ _ | refine zW ?_ ?_ _); rotate_left; focus (first | exact Nat.le_refl _ | (simp; done) | (simp; omega) | omega)) | with_reducible refine zT ?_ (by assumption)))))
                       clear hK K
                       (try simp only [Act.put, yA, yB, yC])
                       have hq := plan [11]
                       iterate 1 (refine tk hq ?_ rfl (by kernel_rfl) (by assumption) (by rfl) (fun _ _ _ h => h) ?hy ?_; (case hy => (intro w hSw; (try dsimp only at hSw); go_simp; (try with_reducible rfl))); replace hq := hq.tl; (try simp only [Act.put, yA, yB, yC]))
                       clear hq
                       refine any_done (by kernel_rfl) ?_
                      case' br5 =>
                       go_simp
                       refine hK.out _ _ ?_ (fun hHeld => ?_)
                       focus (exact hS0.out _ (by (repeat (first | (with_reducible first | exact zR _ _ | exact zA _ _ | assumption | refine zL ?_ _ | refine zD ?_ | refine zN ?_ _) | ((with_reducible first | refine zC ?_ ?_ _ | refine zW ?_ ?_ _); rotate_left; focus (first | exact Nat.le_refl _ | (simp; done) | (simp; omega) | omega)) | with_reducible refine zT ?_ (by assumption)))))
                       clear hK K
                       (try simp only [Act.put, yA, yB, yC])
                       refine ao 5 rfl (by kernel_rfl) (by rfl) (fun K hK => ?_)
                       go_simp
                       (go_at_call 58; refine Calls.mono (accept_no _ ii _ _ _ m (hS1.out _ (by assumption)).1.core.inn ⟨party, 0, rows⟩ (.slice rr rows.length nn) (hpar.out.grew (hS1.out _ (by assumption)).1.low) (hrows.out.mono (hS1.out _ (by assumption)).1.low).arg hacc.out) ?_; rintro e wa ⟨rfl, hba⟩; have hza := hba.size; (try simp at hza); obtain ⟨hca, hfa, hra, _⟩ := brow hba)
                       refine hK.out _ _ ?_ (fun hHeld => ?_)
                       focus (exact hS0.out _ (by (repeat (first | (with_reducible first | exact zR _ _ | exact zA _ _ | assumption | refine zL ?_ _ | refine zD ?_ | refine zN ?_ _) | ((with_reducible first | refine zC ?_ ?_ _ | refine zW ?_ ?_ _); rotate_left; focus (first | exact Nat.le_refl _ | (simp; done) | (simp; omega) | omega)) | with_reducible refine zT ?_ (by assumption)))))
                       clear hK K
                       (try simp only [Act.put, yA, yB, yC])
                       have hq := plan [6, 7, 8]
                       iterate 3 (refine tk hq ?_ rfl (by kernel_rfl) (by assumption) (by rfl) (fun _ _ _ h => h) ?hy ?_; (case hy => (intro w hSw; (try dsimp only at hSw); go_simp; (try with_reducible rfl))); replace hq := hq.tl; (try simp only [Act.put, yA, yB, yC]))
                       clear hq
                       refine ao 10 rfl (by kernel_rfl) (by rfl) (fun K hK => ?_)
                       refine wp_store (.tmp 11) (.tmp 110) rfl rfl rfl (run_storeRow (n := 10) (by kernel_rfl) (by repeat (first | exact row?_new (by simp) | exact row?_new rfl | (apply row?_below; assumption))) rfl rfl rfl) ?_
                       refine hK.out _ _ ?_ (fun hHeld => ?_)
                       focus (exact hS0.out _ (by (repeat (first | (with_reducible first | exact zR _ _ | exact zA _ _ | assumption | refine zL ?_ _ | refine zD ?_ | refine zN ?_ _) | ((with_reducible first | refine zC ?_ ?_ _ | refine zW ?_ ?_ _); rotate_left; focus (first | exact Nat.le_refl _ | (simp; done) | (simp; omega) | omega)) | with_reducible refine zT ?_ (by assumption)))))
                       clear hK K
                       (try simp only [Act.put, yA, yB, yC])
                       have hq := plan [11]
                       iterate 1 (refine tk hq ?_ rfl (by kernel_rfl) (by assumption) (by rfl) (fun _ _ _ h => h) ?hy ?_; (case hy => (intro w hSw; (try dsimp only at hSw); go_simp; (try with_reducible rfl))); replace hq := hq.tl; (try simp only [Act.put, yA, yB, yC]))
                       clear hq
                       refine any_done (by kernel_rfl) ?_
                      all_goals
                        go_wp2
                        refine bodyPost_ret (v := .tuple #[.pointer none, .int .i64 2]) ?_ rfl (ofPost_none hN.out ?_)
                        · simp [results, Tryz.results47, go_sem, ↓IntWalk.iteOmega, *]
                        · exact (hS1.out _ hHeld).1.low
                    · as_aux_lemma =>
                      obtain rfl := List.eq_nil_of_length_eq_zero e2
                      clear e2
                      simp only [List.length_nil] at hS0 hS1
                      go_wp2
                      refine any_begin (S := (fun W' => W'.cell? ⟨pc, 2, none⟩ = some (.int .i64 ii.s0.party) ∧ W'.cell? ⟨pc, 3, none⟩ = some (.int .i64 ii.s0.seq) ∧ W'.cell? ⟨pc, 4, none⟩ = some (.slice q0 ii.s0.rows.length k0) ∧ W'.cell? ⟨pc, 5, none⟩ = some (.int .i64 ii.s1.party) ∧ W'.cell? ⟨pc, 6, none⟩ = some (.int .i64 ii.s1.seq) ∧ W'.cell? ⟨pc, 7, none⟩ = some (.slice q1 ii.s1.rows.length k1) ∧ W'.cell? ⟨pc, 8, none⟩ = some (.int .i64 ii.s2.party) ∧ W'.cell? ⟨pc, 9, none⟩ = some (.int .i64 ii.s2.seq) ∧ W'.cell? ⟨pc, 10, none⟩ = some (.slice q2 ii.s2.rows.length k2) ∧ W'.cell? ⟨pc, 11, none⟩ = some (.map m) ∧ W'.cell? ⟨wr.heap.size, 0, none⟩ = some (.int .i64 party) ∧ W'.cell? ⟨wr.heap.size, 1, none⟩ = some (.int .i64 0) ∧ W'.cell? ⟨wr.heap.size, 2, none⟩ = some (.slice rr 0 nn) ∧ Hid (OAt w arr (w.heap.size + 1) pc (.slice ql pt.sagas.length kl) pb (.slice qb b.l.length kb) P Q (.slice q0 ii.s0.rows.length k0) (.slice q1 ii.s1.rows.length k1) (.slice q2 ii.s2.rows.length k2) m ⟨pt.sagas, b, ii⟩ W' ∧ Below (wr.alloc (.cells #[.int .i64 party, .int .i64 0, .slice rr 0 nn] 37)).heap.size (wr.alloc (.cells #[.int .i64 party, .int .i64 0, .slice rr 0 nn] 37)) W'))) 12 (by kernel_rfl) ?_ (fun hHeld => ?_)
                      focus (exact hS0.out _ (by (repeat (first | (with_reducible first | exact zR _ _ | exact zA _ _ | assumption | refine zL ?_ _ | refine zD ?_ | refine zN ?_ _) | ((with_reducible first | refine zC ?_ ?_ _ | refine zW ?_ ?_ _); rotate_left; focus (first | exact Nat.le_refl _ | (simp; done) | (simp; omega) | omega)) | with_reducible refine zT ?_ (by assumption)))))
                      have hq := plan [0, 1, 2, 3, 4]
                      iterate 5 (refine tk hq ?_ rfl (by kernel_rfl) (by assumption) (by rfl) (fun _ _ _ h => h) ?hy ?_; (case hy => (intro w hSw; (try dsimp only at hSw); go_simp; (try with_reducible rfl))); replace hq := hq.tl; (try simp only [Act.put, yA, yB, yC]))
                      clear hq
                      refine at2 5 9 rfl rfl (by kernel_rfl) (by rfl) (by rfl) (fun K hK => ?br6) (fun K hK => ?br7)
                      case' br6 =>
                       go_simp
                       (go_at_call 58; refine Calls.mono (accept_no _ ii _ _ _ m (hS1.out _ (by assumption)).1.core.inn ⟨party, 0, []⟩ (.slice rr 0 nn) (hpar.out.grew (hS1.out _ (by assumption)).1.low) (hrows.out.mono (hS1.out _ (by assumption)).1.low).arg hacc.out) ?_; rintro e wa ⟨rfl, hba⟩; have hza := hba.size; (try simp at hza); obtain ⟨hca, hfa, hra, _⟩ := brow hba)
                       refine hK.out _ _ ?_ (fun hHeld => ?_)
                       focus (exact hS0.out _ (by (repeat (first | (with_reducible first | exact zR _ _ | exact zA _ _ | assumption | refine zL ?_ _ | refine zD ?_ | refine zN ?_ _) | ((with_reducible first | refine zC ?_ ?_ _ | refine zW ?_ ?_ _); rotate_left; focus (first | exact Nat.le_refl _ | (simp; done) | (simp; omega) | omega)) | with_reducible refine zT ?_ (by assumption)))))
                       clear hK K
                       (try simp only [Act.put, yA, yB, yC])
                       have hq := plan [6, 7, 8]
                       iterate 3 (refine tk hq ?_ rfl (by kernel_rfl) (by assumption) (by rfl) (fun _ _ _ h => h) ?hy ?_; (case hy => (intro w hSw; (try dsimp only at hSw); go_simp; (try with_reducible rfl))); replace hq := hq.tl; (try simp only [Act.put, yA, yB, yC]))
                       clear hq
                       refine ao 9 rfl (by kernel_rfl) (by rfl) (fun K hK => ?_)
                       go_simp
                       refine hK.out _ _ ?_ (fun hHeld => ?_)
                       focus (exact hS0.out _ (by (repeat (first | (with_reducible first | exact zR _ _ | exact zA _ _ | assumption | refine zL ?_ _ | refine zD ?_ | refine zN ?_ _) | ((with_reducible first | refine zC ?_ ?_ _ | refine zW ?_ ?_ _); rotate_left; focus (first | exact Nat.le_refl _ | (simp; done) | (simp; omega) | omega)) | with_reducible refine zT ?_ (by assumption)))))
                       clear hK K
                       (try simp only [Act.put, yA, yB, yC])
                       refine ao 10 rfl (by kernel_rfl) (by rfl) (fun K hK => ?_)
                       refine wp_store (.tmp 11) (.tmp 110) rfl rfl rfl (run_storeRow (n := 10) (by kernel_rfl) (by repeat (first | exact row?_new (by simp) | exact row?_new rfl | (apply row?_below; assumption))) rfl rfl rfl) ?_
                       refine hK.out _ _ ?_ (fun hHeld => ?_)
                       focus (exact hS0.out _ (by (repeat (first | (with_reducible first | exact zR _ _ | exact zA _ _ | assumption | refine zL ?_ _ | refine zD ?_ | refine zN ?_ _) | ((with_reducible first | refine zC ?_ ?_ _ | refine zW ?_ ?_ _); rotate_left; focus (first | exact Nat.le_refl _ | (simp; done) | (simp; omega) | omega)) | with_reducible refine zT ?_ (by assumption)))))
                       clear hK K
                       (try simp only [Act.put, yA, yB, yC])
                       have hq := plan [11]
                       iterate 1 (refine tk hq ?_ rfl (by kernel_rfl) (by assumption) (by rfl) (fun _ _ _ h => h) ?hy ?_; (case hy => (intro w hSw; (try dsimp only at hSw); go_simp; (try with_reducible rfl))); replace hq := hq.tl; (try simp only [Act.put, yA, yB, yC]))
                       clear hq
                       refine any_done (by kernel_rfl) ?_
                      case' br7 =>
                       go_simp
                       refine hK.out _ _ ?_ (fun hHeld => ?_)
                       focus (exact hS0.out _ (by (repeat (first | (with_reducible first | exact zR _ _ | exact zA _ _ | assumption | refine zL ?_ _ | refine zD ?_ | refine zN ?_ _) | ((with_reducible first | refine zC ?_ ?_ _ | refine zW ?_ ?_ _); rotate_left; focus (first | exact Nat.le_refl _ | (simp; done) | (simp; omega) | omega)) | with_reducible refine zT ?_ (by assumption)))))
                       clear hK K
                       (try simp only [Act.put, yA, yB, yC])
                       refine ao 5 rfl (by kernel_rfl) (by rfl) (fun K hK => ?_)
                       go_simp
                       (go_at_call 58; refine Calls.mono (accept_no _ ii _ _ _ m (hS1.out _ (by assumption)).1.core.inn ⟨party, 0, []⟩ (.slice rr 0 nn) (hpar.out.grew (hS1.out _ (by assumption)).1.low) (hrows.out.mono (hS1.out _ (by assumption)).1.low).arg hacc.out) ?_; rintro e wa ⟨rfl, hba⟩; have hza := hba.size; (try simp at hza); obtain ⟨hca, hfa, hra, _⟩ := brow hba)
                       refine hK.out _ _ ?_ (fun hHeld => ?_)
                       focus (exact hS0.out _ (by (repeat (first | (with_reducible first | exact zR _ _ | exact zA _ _ | assumption | refine zL ?_ _ | refine zD ?_ | refine zN ?_ _) | ((with_reducible first | refine zC ?_ ?_ _ | refine zW ?_ ?_ _); rotate_left; focus (first | exact Nat.le_refl _ | (simp; done) | (simp; omega) | omega)) | with_reducible refine zT ?_ (by assumption)))))
                       clear hK K
                       (try simp only [Act.put, yA, yB, yC])
                       have hq := plan [6, 7, 8]
                       iterate 3 (refine tk hq ?_ rfl (by kernel_rfl) (by assumption) (by rfl) (fun _ _ _ h => h) ?hy ?_; (case hy => (intro w hSw; (try dsimp only at hSw); go_simp; (try with_reducible rfl))); replace hq := hq.tl; (try simp only [Act.put, yA, yB, yC]))
                       clear hq
                       refine ao 10 rfl (by kernel_rfl) (by rfl) (fun K hK => ?_)
                       refine wp_store (.tmp 11) (.tmp 110) rfl rfl rfl (run_storeRow (n := 10) (by kernel_rfl) (by repeat (first | exact row?_new (by simp) | exact row?_new rfl | (apply row?_below; assumption))) rfl rfl rfl) ?_
                       refine hK.out _ _ ?_ (fun hHeld => ?_)
                       focus (exact hS0.out _ (by (repeat (first | (with_reducible first | exact zR _ _ | exact zA _ _ | assumption | refine zL ?_ _ | refine zD ?_ | refine zN ?_ _) | ((with_reducible first | refine zC ?_ ?_ _ | refine zW ?_ ?_ _); rotate_left; focus (first | exact Nat.le_refl _ | (simp; done) | (simp; omega) | omega)) | with_reducible refine zT ?_ (by assumption)))))
                       clear hK K
                       (try simp only [Act.put, yA, yB, yC])
                       have hq := plan [11]
                       iterate 1 (refine tk hq ?_ rfl (by kernel_rfl) (by assumption) (by rfl) (fun _ _ _ h => h) ?hy ?_; (case hy => (intro w hSw; (try dsimp only at hSw); go_simp; (try with_reducible rfl))); replace hq := hq.tl; (try simp only [Act.put, yA, yB, yC]))
                       clear hq
                       refine any_done (by kernel_rfl) ?_
                      all_goals
                        go_wp2
                        refine bodyPost_ret (v := .tuple #[.pointer none, .int .i64 2]) ?_ rfl (ofPost_none hN.out ?_)
                        · simp [results, Tryz.results47, go_sem, ↓IntWalk.iteOmega, *]
                        · exact (hS1.out _ hHeld).1.low
                  · have h1 : 1 ≤ seq := hseq
                    have HY := Lib.hid (fun W hW hI => accept_yes W ii (.slice q0 ii.s0.rows.length k0) (.slice q1 ii.s1.rows.length k1) (.slice q2 ii.s2.rows.length k2) m hI ⟨party, seq, rows⟩ (.slice rr rows.length nn) (hpar.out.grew hW) (hrows.out.mono hW).arg hacc)
                    by_cases hp : party = k
                    · rw [ofStmt_acc hsk2 hp, hacc] at hof
                      simp only at hof
                      generalize Sp.setStmt ii ⟨party, seq, rows⟩ = ii2 at HY hof
                      replace hof := Lib.hid hof
                      clear hacc hsk2 hsk hseq
                      subst hp
                      go_wp2
                      refine any_begin (S := (fun W' => W'.cell? ⟨pc, 2, none⟩ = some (.int .i64 ii.s0.party) ∧ W'.cell? ⟨pc, 3, none⟩ = some (.int .i64 ii.s0.seq) ∧ W'.cell? ⟨pc, 4, none⟩ = some (.slice q0 ii.s0.rows.length k0) ∧ W'.cell? ⟨pc, 5, none⟩ = some (.int .i64 ii.s1.party) ∧ W'.cell? ⟨pc, 6, none⟩ = some (.int .i64 ii.s1.seq) ∧ W'.cell? ⟨pc, 7, none⟩ = some (.slice q1 ii.s1.rows.length k1) ∧ W'.cell? ⟨pc, 8, none⟩ = some (.int .i64 ii.s2.party) ∧ W'.cell? ⟨pc, 9, none⟩ = some (.int .i64 ii.s2.seq) ∧ W'.cell? ⟨pc, 10, none⟩ = some (.slice q2 ii.s2.rows.length k2) ∧ W'.cell? ⟨pc, 11, none⟩ = some (.map m) ∧ W'.cell? ⟨wr.heap.size, 0, none⟩ = some (.int .i64 k) ∧ W'.cell? ⟨wr.heap.size, 1, none⟩ = some (.int .i64 seq) ∧ W'.cell? ⟨wr.heap.size, 2, none⟩ = some (.slice rr rows.length nn) ∧ Hid (OAt w arr (w.heap.size + 1) pc (.slice ql pt.sagas.length kl) pb (.slice qb b.l.length kb) P Q (.slice q0 ii.s0.rows.length k0) (.slice q1 ii.s1.rows.length k1) (.slice q2 ii.s2.rows.length k2) m ⟨pt.sagas, b, ii⟩ W' ∧ Below (wr.alloc (.cells #[.int .i64 k, .int .i64 seq, .slice rr rows.length nn] 37)).heap.size (wr.alloc (.cells #[.int .i64 k, .int .i64 seq, .slice rr rows.length nn] 37)) W'))) 12 (by kernel_rfl) ?_ (fun hHeld => ?_)
                      focus (exact hS0.out _ (by (repeat (first | (with_reducible first | exact zR _ _ | exact zA _ _ | assumption | refine zL ?_ _ | refine zD ?_ | refine zN ?_ _) | ((with_reducible first | refine zC ?_ ?_ _ | refine zW ?_ ?_ _); rotate_left; focus (first | exact Nat.le_refl _ | (simp; done) | (simp; omega) | omega)) | with_reducible refine zT ?_ (by assumption)))))
                      have hq := plan [0, 1, 2, 3, 4]
                      iterate 5 (refine tk hq ?_ rfl (by kernel_rfl) (by assumption) (by rfl) (fun _ _ _ h => h) ?hy ?_; (case hy => (intro w hSw; (try dsimp only at hSw); go_simp; (try with_reducible rfl))); replace hq := hq.tl; (try simp only [Act.put, yA, yB, yC]))
                      clear hq
                      refine at2 5 9 rfl rfl (by kernel_rfl) (by rfl) (by rfl) (fun K hK => ?br8) (fun K hK => ?br9)
                      case' br8 =>
                       go_simp
                       (go_at_call 58; refine Calls.mono (HY.out _ (hS1.out _ (by assumption)).1.low (hS1.out _ (by assumption)).1.core.inn) ?_; rintro e wa ⟨z0, z1, z2, M, rfl, hia, hMa, hba⟩; obtain ⟨x0, y0, rfl⟩ := own_slice' hia.r0; obtain ⟨x1, y1, rfl⟩ := own_slice' hia.r1; obtain ⟨x2, y2, rfl⟩ := own_slice' hia.r2; have hza := hba.size; (try simp at hza); obtain ⟨hca, hfa, hra, _⟩ := brow hba; replace hia := Lib.hid hia; replace hMa := Lib.hid hMa)
                       refine hK.out _ _ ?_ (fun hHeld => ?_)
                       focus (exact hS0.out _ (by (repeat (first | (with_reducible first | exact zR _ _ | exact zA _ _ | assumption | refine zL ?_ _ | refine zD ?_ | refine zN ?_ _) | ((with_reducible first | refine zC ?_ ?_ _ | refine zW ?_ ?_ _); rotate_left; focus (first | exact Nat.le_refl _ | (simp; done) | (simp; omega) | omega)) | with_reducible refine zT ?_ (by assumption)))))
                       clear hK K
                       (try simp only [Act.put, yA, yB, yC])
                       have hq := plan [6, 7, 8]
                       iterate 3 (refine tk hq ?_ rfl (by kernel_rfl) (by assumption) (by rfl) (fun _ _ _ h => h) ?hy ?_; (case hy => (intro w hSw; (try dsimp only at hSw); go_simp; (try with_reducible rfl))); replace hq := hq.tl; (try simp only [Act.put, yA, yB, yC]))
                       clear hq
                       refine ao 9 rfl (by kernel_rfl) (by rfl) (fun K hK => ?_)
                       go_simp
                       refine hK.out _ _ ?_ (fun hHeld => ?_)
                       focus (exact hS0.out _ (by (repeat (first | (with_reducible first | exact zR _ _ | exact zA _ _ | assumption | refine zL ?_ _ | refine zD ?_ | refine zN ?_ _) | ((with_reducible first | refine zC ?_ ?_ _ | refine zW ?_ ?_ _); rotate_left; focus (first | exact Nat.le_refl _ | (simp; done) | (simp; omega) | omega)) | with_reducible refine zT ?_ (by assumption)))))
                       clear hK K
                       (try simp only [Act.put, yA, yB, yC])
                       refine ao 10 rfl (by kernel_rfl) (by rfl) (fun K hK => ?_)
                       refine wp_store (.tmp 11) (.tmp 110) rfl rfl rfl (run_storeRow (n := 10) (by kernel_rfl) (by repeat (first | exact row?_new (by simp) | exact row?_new rfl | (apply row?_below; assumption))) rfl rfl rfl) ?_
                       refine hK.out _ _ ?_ (fun hHeld => ?_)
                       focus (exact hS0.out _ (by (repeat (first | (with_reducible first | exact zR _ _ | exact zA _ _ | assumption | refine zL ?_ _ | refine zD ?_ | refine zN ?_ _) | ((with_reducible first | refine zC ?_ ?_ _ | refine zW ?_ ?_ _); rotate_left; focus (first | exact Nat.le_refl _ | (simp; done) | (simp; omega) | omega)) | with_reducible refine zT ?_ (by assumption)))))
                       clear hK K
                       (try simp only [Act.put, yA, yB, yC])
                       have hq := plan [11]
                       iterate 1 (refine tk hq ?_ rfl (by kernel_rfl) (by assumption) (by rfl) (fun _ _ _ h => h) ?hy ?_; (case hy => (intro w hSw; (try dsimp only at hSw); go_simp; (try with_reducible rfl))); replace hq := hq.tl; (try simp only [Act.put, yA, yB, yC]))
                       clear hq
                       refine any_done (by kernel_rfl) ?_
                      case' br9 =>
                       go_simp
                       refine hK.out _ _ ?_ (fun hHeld => ?_)
                       focus (exact hS0.out _ (by (repeat (first | (with_reducible first | exact zR _ _ | exact zA _ _ | assumption | refine zL ?_ _ | refine zD ?_ | refine zN ?_ _) | ((with_reducible first | refine zC ?_ ?_ _ | refine zW ?_ ?_ _); rotate_left; focus (first | exact Nat.le_refl _ | (simp; done) | (simp; omega) | omega)) | with_reducible refine zT ?_ (by assumption)))))
                       clear hK K
                       (try simp only [Act.put, yA, yB, yC])
                       refine ao 5 rfl (by kernel_rfl) (by rfl) (fun K hK => ?_)
                       go_simp
                       (go_at_call 58; refine Calls.mono (HY.out _ (hS1.out _ (by assumption)).1.low (hS1.out _ (by assumption)).1.core.inn) ?_; rintro e wa ⟨z0, z1, z2, M, rfl, hia, hMa, hba⟩; obtain ⟨x0, y0, rfl⟩ := own_slice' hia.r0; obtain ⟨x1, y1, rfl⟩ := own_slice' hia.r1; obtain ⟨x2, y2, rfl⟩ := own_slice' hia.r2; have hza := hba.size; (try simp at hza); obtain ⟨hca, hfa, hra, _⟩ := brow hba; replace hia := Lib.hid hia; replace hMa := Lib.hid hMa)
                       refine hK.out _ _ ?_ (fun hHeld => ?_)
                       focus (exact hS0.out _ (by (repeat (first | (with_reducible first | exact zR _ _ | exact zA _ _ | assumption | refine zL ?_ _ | refine zD ?_ | refine zN ?_ _) | ((with_reducible first | refine zC ?_ ?_ _ | refine zW ?_ ?_ _); rotate_left; focus (first | exact Nat.le_refl _ | (simp; done) | (simp; omega) | omega)) | with_reducible refine zT ?_ (by assumption)))))
                       clear hK K
                       (try simp only [Act.put, yA, yB, yC])
                       have hq := plan [6, 7, 8]
                       iterate 3 (refine tk hq ?_ rfl (by kernel_rfl) (by assumption) (by rfl) (fun _ _ _ h => h) ?hy ?_; (case hy => (intro w hSw; (try dsimp only at hSw); go_simp; (try with_reducible rfl))); replace hq := hq.tl; (try simp only [Act.put, yA, yB, yC]))
                       clear hq
                       refine ao 10 rfl (by kernel_rfl) (by rfl) (fun K hK => ?_)
                       refine wp_store (.tmp 11) (.tmp 110) rfl rfl rfl (run_storeRow (n := 10) (by kernel_rfl) (by repeat (first | exact row?_new (by simp) | exact row?_new rfl | (apply row?_below; assumption))) rfl rfl rfl) ?_
                       refine hK.out _ _ ?_ (fun hHeld => ?_)
                       focus (exact hS0.out _ (by (repeat (first | (with_reducible first | exact zR _ _ | exact zA _ _ | assumption | refine zL ?_ _ | refine zD ?_ | refine zN ?_ _) | ((with_reducible first | refine zC ?_ ?_ _ | refine zW ?_ ?_ _); rotate_left; focus (first | exact Nat.le_refl _ | (simp; done) | (simp; omega) | omega)) | with_reducible refine zT ?_ (by assumption)))))
                       clear hK K
                       (try simp only [Act.put, yA, yB, yC])
                       have hq := plan [11]
                       iterate 1 (refine tk hq ?_ rfl (by kernel_rfl) (by assumption) (by rfl) (fun _ _ _ h => h) ?hy ?_; (case hy => (intro w hSw; (try dsimp only at hSw); go_simp; (try with_reducible rfl))); replace hq := hq.tl; (try simp only [Act.put, yA, yB, yC]))
                       clear hq
                       refine any_done (by kernel_rfl) ?_
                      all_goals
                        have hO5 := (hS1.out _ hHeld).1
                        have hfz := frozen_at hO5.core.head
                        replace hO5 := Lib.hid hO5
                        go_wp2
                      · have hI := hia.out.keeps1 (X := wr.heap.size + 1) (heap_below hba (heap_at (by simp))) (by decide) (w' := wa.setRow (wr.heap.size + 1) #[.int .i64 ii2.s0.party, .int .i64 ii2.s0.seq, .slice x0 ii2.s0.rows.length y0, .int .i64 ii2.s1.party, .int .i64 ii2.s1.seq, .slice x1 ii2.s1.rows.length y1, .int .i64 ii2.s2.party, .int .i64 ii2.s2.seq, .slice x2 ii2.s2.rows.length y2, .map (some M)]) (by (repeat (first | (with_reducible exact Keeps.refl _ _) | (with_reducible assumption) | (with_reducible refine Keeps.alloc ?_ _) | ((with_reducible refine Keeps.setCell ?_ ?_ _); rotate_left; focus (first | (left; first | omega | (simp; done) | (simp; omega)) | (right; first | exact Nat.le_refl _ | (simp; done) | (simp; omega) | omega))) | ((with_reducible refine Keeps.setRow ?_ ?_ _); rotate_left; focus (first | (left; first | omega | (simp; done) | (simp; omega)) | (right; first | exact Nat.le_refl _ | (simp; done) | (simp; omega) | omega))) | (with_reducible refine Keeps.drew ?_) | (with_reducible refine Keeps.drewN ?_ _))))
                        have hM2 := hMa.out
                        have hlb := hO.out.core.books.lt
                        simp at hM2
                        exact ⟨⟨k + 1, ii2, _, _, _, _, by omega, by go_num, hO5.out.intake hI ⟨by omega, by omega⟩, hof.out⟩, by simp [intOf]; omega⟩
                      · have hI := hia.out.below (w' := (wa.alloc (.cells #[.int .i64 0, .int .i64 0, .slice none 0 0, .int .i64 0, .int .i64 0, .slice none 0 0, .int .i64 0, .int .i64 0, .slice none 0 0, .map none] 60)).setRow wa.heap.size #[.int .i64 ii2.s0.party, .int .i64 ii2.s0.seq, .slice x0 ii2.s0.rows.length y0, .int .i64 ii2.s1.party, .int .i64 ii2.s1.seq, .slice x1 ii2.s1.rows.length y1, .int .i64 ii2.s2.party, .int .i64 ii2.s2.seq, .slice x2 ii2.s2.rows.length y2, .map (some M)]) (by (repeat (first | (with_reducible first | exact zR _ _ | exact zA _ _ | assumption | refine zL ?_ _ | refine zD ?_ | refine zN ?_ _) | ((with_reducible first | refine zC ?_ ?_ _ | refine zW ?_ ?_ _); rotate_left; focus (first | exact Nat.le_refl _ | (simp; done) | (simp; omega) | omega)) | with_reducible refine zT ?_ (by assumption))))
                        have hM2 := hMa.out
                        have hlb := hO.out.core.books.lt
                        simp at hM2
                        exact ⟨⟨k + 1, ii2, _, _, _, _, by omega, by go_num, hO5.out.intake hI ⟨by omega, by omega⟩, hof.out⟩, by simp [intOf]; omega⟩
                    · as_aux_lemma =>
                      have hN := Lib.hid (coreOf_none4 (pt := pt) (by rw [hof, ofStmt_other hsk2 hp]))
                      generalize Sp.setStmt ii ⟨party, seq, rows⟩ = ii2 at HY
                      clear hacc hsk2 hsk hseq hof
                      go_wp2
                      refine any_begin (S := (fun W' => W'.cell? ⟨pc, 2, none⟩ = some (.int .i64 ii.s0.party) ∧ W'.cell? ⟨pc, 3, none⟩ = some (.int .i64 ii.s0.seq) ∧ W'.cell? ⟨pc, 4, none⟩ = some (.slice q0 ii.s0.rows.length k0) ∧ W'.cell? ⟨pc, 5, none⟩ = some (.int .i64 ii.s1.party) ∧ W'.cell? ⟨pc, 6, none⟩ = some (.int .i64 ii.s1.seq) ∧ W'.cell? ⟨pc, 7, none⟩ = some (.slice q1 ii.s1.rows.length k1) ∧ W'.cell? ⟨pc, 8, none⟩ = some (.int .i64 ii.s2.party) ∧ W'.cell? ⟨pc, 9, none⟩ = some (.int .i64 ii.s2.seq) ∧ W'.cell? ⟨pc, 10, none⟩ = some (.slice q2 ii.s2.rows.length k2) ∧ W'.cell? ⟨pc, 11, none⟩ = some (.map m) ∧ W'.cell? ⟨wr.heap.size, 0, none⟩ = some (.int .i64 party) ∧ W'.cell? ⟨wr.heap.size, 1, none⟩ = some (.int .i64 seq) ∧ W'.cell? ⟨wr.heap.size, 2, none⟩ = some (.slice rr rows.length nn) ∧ Hid (OAt w arr (w.heap.size + 1) pc (.slice ql pt.sagas.length kl) pb (.slice qb b.l.length kb) P Q (.slice q0 ii.s0.rows.length k0) (.slice q1 ii.s1.rows.length k1) (.slice q2 ii.s2.rows.length k2) m ⟨pt.sagas, b, ii⟩ W' ∧ Below (wr.alloc (.cells #[.int .i64 party, .int .i64 seq, .slice rr rows.length nn] 37)).heap.size (wr.alloc (.cells #[.int .i64 party, .int .i64 seq, .slice rr rows.length nn] 37)) W'))) 12 (by kernel_rfl) ?_ (fun hHeld => ?_)
                      focus (exact hS0.out _ (by (repeat (first | (with_reducible first | exact zR _ _ | exact zA _ _ | assumption | refine zL ?_ _ | refine zD ?_ | refine zN ?_ _) | ((with_reducible first | refine zC ?_ ?_ _ | refine zW ?_ ?_ _); rotate_left; focus (first | exact Nat.le_refl _ | (simp; done) | (simp; omega) | omega)) | with_reducible refine zT ?_ (by assumption)))))
                      have hq := plan [0, 1, 2, 3, 4]
                      iterate 5 (refine tk hq ?_ rfl (by kernel_rfl) (by assumption) (by rfl) (fun _ _ _ h => h) ?hy ?_; (case hy => (intro w hSw; (try dsimp only at hSw); go_simp; (try with_reducible rfl))); replace hq := hq.tl; (try simp only [Act.put, yA, yB, yC]))
                      clear hq
                      refine at2 5 9 rfl rfl (by kernel_rfl) (by rfl) (by rfl) (fun K hK => ?br10) (fun K hK => ?br11)
                      case' br10 =>
                       go_simp
                       (go_at_call 58; refine Calls.mono (HY.out _ (hS1.out _ (by assumption)).1.low (hS1.out _ (by assumption)).1.core.inn) ?_; rintro e wa ⟨z0, z1, z2, M, rfl, hia, hMa, hba⟩; obtain ⟨x0, y0, rfl⟩ := own_slice' hia.r0; obtain ⟨x1, y1, rfl⟩ := own_slice' hia.r1; obtain ⟨x2, y2, rfl⟩ := own_slice' hia.r2; have hza := hba.size; (try simp at hza); obtain ⟨hca, hfa, hra, _⟩ := brow hba; replace hia := Lib.hid hia; replace hMa := Lib.hid hMa)
                       refine hK.out _ _ ?_ (fun hHeld => ?_)
                       focus (exact hS0.out _ (by (repeat (first | (with_reducible first | exact zR _ _ | exact zA _ _ | assumption | refine zL ?_ _ | refine zD ?_ | refine zN ?_ _) | ((with_reducible first | refine zC ?_ ?_ _ | refine zW ?_ ?_ _); rotate_left; focus (first | exact Nat.le_refl _ | (simp; done) | (simp; omega) | omega)) | with_reducible refine zT ?_ (by assumption)))))
                       clear hK K
                       (try simp only [Act.put, yA, yB, yC])
                       have hq := plan [6, 7, 8]
                       iterate 3 (refine tk hq ?_ rfl (by kernel_rfl) (by assumption) (by rfl) (fun _ _ _ h => h) ?hy ?_; (case hy => (intro w hSw; (try dsimp only at hSw); go_simp; (try with_reducible rfl))); replace hq := hq.tl; (try simp only [Act.put, yA, yB, yC]))
                       clear hq
                       refine ao 9 rfl (by kernel_rfl) (by rfl) (fun K hK => ?_)
                       go_simp
                       refine hK.out _ _ ?_ (fun hHeld => ?_)
                       focus (exact hS0.out _ (by (repeat (first | (with_reducible first | exact zR _ _ | exact zA _ _ | assumption | refine zL ?_ _ | refine zD ?_ | refine zN ?_ _) | ((with_reducible first | refine zC ?_ ?_ _ | refine zW ?_ ?_ _); rotate_left; focus (first | exact Nat.le_refl _ | (simp; done) | (simp; omega) | omega)) | with_reducible refine zT ?_ (by assumption)))))
                       clear hK K
                       (try simp only [Act.put, yA, yB, yC])
                       refine ao 10 rfl (by kernel_rfl) (by rfl) (fun K hK => ?_)
                       refine wp_store (.tmp 11) (.tmp 110) rfl rfl rfl (run_storeRow (n := 10) (by kernel_rfl) (by repeat (first | exact row?_new (by simp) | exact row?_new rfl | (apply row?_below; assumption))) rfl rfl rfl) ?_
                       refine hK.out _ _ ?_ (fun hHeld => ?_)
                       focus (exact hS0.out _ (by (repeat (first | (with_reducible first | exact zR _ _ | exact zA _ _ | assumption | refine zL ?_ _ | refine zD ?_ | refine zN ?_ _) | ((with_reducible first | refine zC ?_ ?_ _ | refine zW ?_ ?_ _); rotate_left; focus (first | exact Nat.le_refl _ | (simp; done) | (simp; omega) | omega)) | with_reducible refine zT ?_ (by assumption)))))
                       clear hK K
                       (try simp only [Act.put, yA, yB, yC])
                       have hq := plan [11]
                       iterate 1 (refine tk hq ?_ rfl (by kernel_rfl) (by assumption) (by rfl) (fun _ _ _ h => h) ?hy ?_; (case hy => (intro w hSw; (try dsimp only at hSw); go_simp; (try with_reducible rfl))); replace hq := hq.tl; (try simp only [Act.put, yA, yB, yC]))
                       clear hq
                       refine any_done (by kernel_rfl) ?_
                      case' br11 =>
                       go_simp
                       refine hK.out _ _ ?_ (fun hHeld => ?_)
                       focus (exact hS0.out _ (by (repeat (first | (with_reducible first | exact zR _ _ | exact zA _ _ | assumption | refine zL ?_ _ | refine zD ?_ | refine zN ?_ _) | ((with_reducible first | refine zC ?_ ?_ _ | refine zW ?_ ?_ _); rotate_left; focus (first | exact Nat.le_refl _ | (simp; done) | (simp; omega) | omega)) | with_reducible refine zT ?_ (by assumption)))))
                       clear hK K
                       (try simp only [Act.put, yA, yB, yC])
                       refine ao 5 rfl (by kernel_rfl) (by rfl) (fun K hK => ?_)
                       go_simp
                       (go_at_call 58; refine Calls.mono (HY.out _ (hS1.out _ (by assumption)).1.low (hS1.out _ (by assumption)).1.core.inn) ?_; rintro e wa ⟨z0, z1, z2, M, rfl, hia, hMa, hba⟩; obtain ⟨x0, y0, rfl⟩ := own_slice' hia.r0; obtain ⟨x1, y1, rfl⟩ := own_slice' hia.r1; obtain ⟨x2, y2, rfl⟩ := own_slice' hia.r2; have hza := hba.size; (try simp at hza); obtain ⟨hca, hfa, hra, _⟩ := brow hba; replace hia := Lib.hid hia; replace hMa := Lib.hid hMa)
                       refine hK.out _ _ ?_ (fun hHeld => ?_)
                       focus (exact hS0.out _ (by (repeat (first | (with_reducible first | exact zR _ _ | exact zA _ _ | assumption | refine zL ?_ _ | refine zD ?_ | refine zN ?_ _) | ((with_reducible first | refine zC ?_ ?_ _ | refine zW ?_ ?_ _); rotate_left; focus (first | exact Nat.le_refl _ | (simp; done) | (simp; omega) | omega)) | with_reducible refine zT ?_ (by assumption)))))
                       clear hK K
                       (try simp only [Act.put, yA, yB, yC])
                       have hq := plan [6, 7, 8]
                       iterate 3 (refine tk hq ?_ rfl (by kernel_rfl) (by assumption) (by rfl) (fun _ _ _ h => h) ?hy ?_; (case hy => (intro w hSw; (try dsimp only at hSw); go_simp; (try with_reducible rfl))); replace hq := hq.tl; (try simp only [Act.put, yA, yB, yC]))
                       clear hq
                       refine ao 10 rfl (by kernel_rfl) (by rfl) (fun K hK => ?_)
                       refine wp_store (.tmp 11) (.tmp 110) rfl rfl rfl (run_storeRow (n := 10) (by kernel_rfl) (by repeat (first | exact row?_new (by simp) | exact row?_new rfl | (apply row?_below; assumption))) rfl rfl rfl) ?_
                       refine hK.out _ _ ?_ (fun hHeld => ?_)
                       focus (exact hS0.out _ (by (repeat (first | (with_reducible first | exact zR _ _ | exact zA _ _ | assumption | refine zL ?_ _ | refine zD ?_ | refine zN ?_ _) | ((with_reducible first | refine zC ?_ ?_ _ | refine zW ?_ ?_ _); rotate_left; focus (first | exact Nat.le_refl _ | (simp; done) | (simp; omega) | omega)) | with_reducible refine zT ?_ (by assumption)))))
                       clear hK K
                       (try simp only [Act.put, yA, yB, yC])
                       have hq := plan [11]
                       iterate 1 (refine tk hq ?_ rfl (by kernel_rfl) (by assumption) (by rfl) (fun _ _ _ h => h) ?hy ?_; (case hy => (intro w hSw; (try dsimp only at hSw); go_simp; (try with_reducible rfl))); replace hq := hq.tl; (try simp only [Act.put, yA, yB, yC]))
                       clear hq
                       refine any_done (by kernel_rfl) ?_
                      all_goals
                        go_wp2
                        refine bodyPost_ret (v := .tuple #[.pointer none, .int .i64 2]) ?_ rfl (ofPost_none hN.out ?_)
                        · simp [results, Tryz.results47, go_sem, ↓IntWalk.iteOmega, *]
                        · exact (hS1.out _ hHeld).1.low
              · obtain rfl : k = 3 := by omega
                have hOI : ofStmts Sp.noIntake pt.s0 pt.s1 pt.s2 = some ii := hof
                obtain ⟨q0, k0, rfl⟩ := own_slice' hO.core.inn.r0
                obtain ⟨q1, k1, rfl⟩ := own_slice' hO.core.inn.r1
                obtain ⟨q2, k2, rfl⟩ := own_slice' hO.core.inn.r2
                replace hOI := Lib.hid hOI
                replace hO := Lib.hid hO
                clear hof hk hk3
                go_wp2
                go_loopw [13] (fun x wr => RelO4 w arr (w.heap.size + 1) pc (.slice ql pt.sagas.length kl) pb (.slice qb b.l.length kb) P Q (.slice q0 ii.s0.rows.length k0) (.slice q1 ii.s1.rows.length k1) (.slice q2 ii.s2.rows.length k2) m ⟨pt.sagas, b, ii⟩ x wr) (fun x _ => (61 - intOf x).toNat)
                case atStart => exact ⟨0, by omega, rfl, hO.out, balPre_zero _⟩
                case round =>
                  clear hO
                  obtain ⟨j, hj, rfl, hO, hpre⟩ := hrel
                  by_cases hlt : j < 60
                  · have hin : Sp.in64 ((j : Int) + 1) = true := by simp [Sp.in64]; omega
                    have HB1 := Lib.hid (fun W (h : OAt w arr (w.heap.size + 1) pc (.slice ql pt.sagas.length kl) pb (.slice qb b.l.length kb) P Q (.slice q0 ii.s0.rows.length k0) (.slice q1 ii.s1.rows.length k1) (.slice q2 ii.s2.rows.length k2) m ⟨pt.sagas, b, ii⟩ W) => balance_any W _ pb P Q _ b 1 ((j : Int) + 1) h.core.books (by decide) hin)
                    have HB2 := Lib.hid (fun W (h : OAt w arr (w.heap.size + 1) pc (.slice ql pt.sagas.length kl) pb (.slice qb b.l.length kb) P Q (.slice q0 ii.s0.rows.length k0) (.slice q1 ii.s1.rows.length k1) (.slice q2 ii.s2.rows.length k2) m ⟨pt.sagas, b, ii⟩ W) => balance_any W _ pb P Q _ b 2 ((j : Int) + 1) h.core.books (by decide) hin)
                    have HI := Lib.hid (fun W (h : OAt w arr (w.heap.size + 1) pc (.slice ql pt.sagas.length kl) pb (.slice qb b.l.length kb) P Q (.slice q0 ii.s0.rows.length k0) (.slice q1 ii.s1.rows.length k1) (.slice q2 ii.s2.rows.length k2) m ⟨pt.sagas, b, ii⟩ W) => inNet_any W ii _ _ _ m ((j : Int) + 1) h.core.inn hin)
                    have hri := inNet_range hO.core.inn ((j : Int) + 1)
                    have hrn := netAt_range hO.core.checked (j + 1)
                    simp only at hrn
                    have hbk := balK_eq ⟨pt.sagas, b, ii⟩ j
                    simp only at hbk
                    have hS0 : ∀ W', Below wr.heap.size wr W' → (fun W' => W'.cell? ⟨pc, 1, none⟩ = some (.pointer (some ⟨pb, 0, none⟩)) ∧ W'.cell? ⟨pc, 2, none⟩ = some (.int .i64 ii.s0.party) ∧ W'.cell? ⟨pc, 3, none⟩ = some (.int .i64 ii.s0.seq) ∧ W'.cell? ⟨pc, 4, none⟩ = some (.slice q0 ii.s0.rows.length k0) ∧ W'.cell? ⟨pc, 5, none⟩ = some (.int .i64 ii.s1.party) ∧ W'.cell? ⟨pc, 6, none⟩ = some (.int .i64 ii.s1.seq) ∧ W'.cell? ⟨pc, 7, none⟩ = some (.slice q1 ii.s1.rows.length k1) ∧ W'.cell? ⟨pc, 8, none⟩ = some (.int .i64 ii.s2.party) ∧ W'.cell? ⟨pc, 9, none⟩ = some (.int .i64 ii.s2.seq) ∧ W'.cell? ⟨pc, 10, none⟩ = some (.slice q2 ii.s2.rows.length k2) ∧ W'.cell? ⟨pc, 11, none⟩ = some (.map m) ∧ Hid (OAt w arr (w.heap.size + 1) pc (.slice ql pt.sagas.length kl) pb (.slice qb b.l.length kb) P Q (.slice q0 ii.s0.rows.length k0) (.slice q1 ii.s1.rows.length k1) (.slice q2 ii.s2.rows.length k2) m ⟨pt.sagas, b, ii⟩ W')) W' := fun W' hb => by
                      have hO2 := hO.next hb
                      have hh := cells_at hO2.core.head
                      exact ⟨hh 1, hh 2, hh 3, hh 4, hh 5, hh 6, hh 7, hh 8, hh 9, hh 10, hh 11, Lib.hid hO2⟩
                    replace hS0 := Lib.hid hS0
                    have hS1 := Lib.hid (fun W' (h : (fun W' => W'.cell? ⟨pc, 1, none⟩ = some (.pointer (some ⟨pb, 0, none⟩)) ∧ W'.cell? ⟨pc, 2, none⟩ = some (.int .i64 ii.s0.party) ∧ W'.cell? ⟨pc, 3, none⟩ = some (.int .i64 ii.s0.seq) ∧ W'.cell? ⟨pc, 4, none⟩ = some (.slice q0 ii.s0.rows.length k0) ∧ W'.cell? ⟨pc, 5, none⟩ = some (.int .i64 ii.s1.party) ∧ W'.cell? ⟨pc, 6, none⟩ = some (.int .i64 ii.s1.seq) ∧ W'.cell? ⟨pc, 7, none⟩ = some (.slice q1 ii.s1.rows.length k1) ∧ W'.cell? ⟨pc, 8, none⟩ = some (.int .i64 ii.s2.party) ∧ W'.cell? ⟨pc, 9, none⟩ = some (.int .i64 ii.s2.seq) ∧ W'.cell? ⟨pc, 10, none⟩ = some (.slice q2 ii.s2.rows.length k2) ∧ W'.cell? ⟨pc, 11, none⟩ = some (.map m) ∧ Hid (OAt w arr (w.heap.size + 1) pc (.slice ql pt.sagas.length kl) pb (.slice qb b.l.length kb) P Q (.slice q0 ii.s0.rows.length k0) (.slice q1 ii.s1.rows.length k1) (.slice q2 ii.s2.rows.length k2) m ⟨pt.sagas, b, ii⟩ W')) W') => (and11 h).out)
                    replace hO := Lib.hid hO
                    generalize Sp.inNet ii ((j : Int) + 1) = inn at HI hri hbk
                    generalize hnv : netAt pt.sagas (j + 1) = nv at hrn hbk
                    generalize b.bal 1 ((j : Int) + 1) = x1 at HB1 hbk
                    generalize b.bal 2 ((j : Int) + 1) = x2 at HB2 hbk
                    replace hnv := Lib.hid hnv
                    have hw : IntKind.i64.wrap (nv - inn) = nv - inn := by rw [IntKind.wrap_i64]; omega
                    clear hin
                    by_cases h1 : x1 = nv - inn
                    · by_cases h2 : x2 = inn
                      · have hpre2 := Lib.hid (balPre_succ hpre (by rw [hbk, h1, h2]; simp))
                        subst h1 h2
                        clear hbk hpre
                        by_cases hlo : j < pt.sagas.length
                        · as_aux_lemma =>
                          obtain ⟨s, hs⟩ : ∃ s, pt.sagas[j]? = some s := ⟨_, List.getElem?_eq_getElem hlo⟩
                          have hnv2 : netAt pt.sagas (j + 1) = Sp.net s := by unfold netAt; rw [Nat.add_sub_cancel, hs]
                          have HNet := fun W => Net_any s W
                          rw [← hnv2, hnv.out] at HNet
                          obtain ⟨b0, hql, hb0, hcells⟩ : ∃ b0, ql = some ⟨b0, 0, none⟩ ∧ b0 < wr.heap.size ∧ ∀ i x, pt.sagas[i]? = some x → ∀ j u, (sagaCells x)[j]? = some u → wr.cell? ⟨b0, i * 12 + j, none⟩ = some u := by
                            rcases hO.out.core.slc with ⟨_, h0⟩ | ⟨b0, cap, e, _, h1, h2⟩
                            · simp only at h0; rw [h0] at hlo; simp at hlo
                            · exact ⟨b0, by cases e; rfl, h1, h2⟩
                          subst hql
                          obtain ⟨g0, g1, g2, g3, g4, g5, g6, g7, g8, g9, g10, g11⟩ := saga_facts hcells (Below.refl _ _) hs
                          have hh0 := cells_at hO.out.core.head 0
                          simp only [List.getElem?_toArray, List.getElem?_cons_zero] at hh0
                          obtain ⟨⟨id, ref, sku, qty, amount⟩, d0, d1, d2, d3, d4, d5, cancel⟩ := s
                          simp only at g0 g1 g2 g3 g4 g5 g6 g7 g8 g9 g10 g11
                          simp only [sagaVal] at HNet
                          replace HNet := Lib.hid HNet
                          clear hcells hs hnv2
                          go_wp2_with (go_at_call 55; refine Calls.mono (HNet.out _) ?_; rintro e wn ⟨rfl, hbn⟩)
                          refine any_begin (S := (fun W' => W'.cell? ⟨pc, 1, none⟩ = some (.pointer (some ⟨pb, 0, none⟩)) ∧ W'.cell? ⟨pc, 2, none⟩ = some (.int .i64 ii.s0.party) ∧ W'.cell? ⟨pc, 3, none⟩ = some (.int .i64 ii.s0.seq) ∧ W'.cell? ⟨pc, 4, none⟩ = some (.slice q0 ii.s0.rows.length k0) ∧ W'.cell? ⟨pc, 5, none⟩ = some (.int .i64 ii.s1.party) ∧ W'.cell? ⟨pc, 6, none⟩ = some (.int .i64 ii.s1.seq) ∧ W'.cell? ⟨pc, 7, none⟩ = some (.slice q1 ii.s1.rows.length k1) ∧ W'.cell? ⟨pc, 8, none⟩ = some (.int .i64 ii.s2.party) ∧ W'.cell? ⟨pc, 9, none⟩ = some (.int .i64 ii.s2.seq) ∧ W'.cell? ⟨pc, 10, none⟩ = some (.slice q2 ii.s2.rows.length k2) ∧ W'.cell? ⟨pc, 11, none⟩ = some (.map m) ∧ Hid (OAt w arr (w.heap.size + 1) pc (.slice (some ⟨b0, 0, none⟩) pt.sagas.length kl) pb (.slice qb b.l.length kb) P Q (.slice q0 ii.s0.rows.length k0) (.slice q1 ii.s1.rows.length k1) (.slice q2 ii.s2.rows.length k2) m ⟨pt.sagas, b, ii⟩ W'))) 30 (by kernel_rfl) ?_ (fun hHeld => ?_)
                          focus (exact hS0.out _ (by (repeat (first | (with_reducible first | exact zR _ _ | exact zA _ _ | assumption | refine zL ?_ _ | refine zD ?_ | refine zN ?_ _) | ((with_reducible first | refine zC ?_ ?_ _ | refine zW ?_ ?_ _); rotate_left; focus (first | exact Nat.le_refl _ | (simp; done) | (simp; omega) | omega)) | with_reducible refine zT ?_ (by assumption)))))
                          have hq := plan [0, 1, 2, 3, 4, 6, 7, 8, 9, 10, 11]
                          iterate 11 (refine tk hq ?_ rfl (by kernel_rfl) (by assumption) (by rfl) (fun _ _ _ h => h) ?hy ?_; (case hy => (intro w hSw; (try dsimp only at hSw); go_simp; (try with_reducible rfl))); replace hq := hq.tl; (try simp only [Act.put, yA, yB, yC]))
                          clear hq
                          refine ao 5 rfl (by kernel_rfl) (by rfl) (fun K hK => ?_)
                          go_simp; go_at_call 84; refine Calls.mono (HB1.out _ (hS1.out _ (by assumption))) ?_; rintro e w3 ⟨rfl, rfl⟩
                          refine hK.out _ _ ?_ (fun hHeld => ?_)
                          focus (exact hS0.out _ (by (repeat (first | (with_reducible first | exact zR _ _ | exact zA _ _ | assumption | refine zL ?_ _ | refine zD ?_ | refine zN ?_ _) | ((with_reducible first | refine zC ?_ ?_ _ | refine zW ?_ ?_ _); rotate_left; focus (first | exact Nat.le_refl _ | (simp; done) | (simp; omega) | omega)) | with_reducible refine zT ?_ (by assumption)))))
                          clear hK K
                          (try simp only [Act.put, yA, yB, yC])
                          refine ao 12 rfl (by kernel_rfl) (by rfl) (fun K hK => ?_)
                          go_simp
                          (go_at_call 60; refine Calls.mono (HI.out _ (hS1.out _ (by assumption))) ?_; rintro e w4 ⟨rfl, hb4⟩)
                          refine hK.out _ _ ?_ (fun hHeld => ?_)
                          focus (exact hS0.out _ (by (repeat (first | (with_reducible first | exact zR _ _ | exact zA _ _ | assumption | refine zL ?_ _ | refine zD ?_ | refine zN ?_ _) | ((with_reducible first | refine zC ?_ ?_ _ | refine zW ?_ ?_ _); rotate_left; focus (first | exact Nat.le_refl _ | (simp; done) | (simp; omega) | omega)) | with_reducible refine zT ?_ (by assumption)))))
                          clear hK K
                          (try simp only [Act.put, yA, yB, yC])
                          have hq := plan [13, 14, 15, 16, 17, 18, 19, 20, 22, 23, 24, 25, 26]
                          iterate 13 (refine tk hq ?_ rfl (by kernel_rfl) (by assumption) (by rfl) (fun _ _ _ h => h) ?hy ?_; (case hy => (intro w hSw; (try dsimp only at hSw); go_simp; (try with_reducible rfl))); replace hq := hq.tl; (try simp only [Act.put, yA, yB, yC]))
                          clear hq
                          refine ao 21 rfl (by kernel_rfl) (by rfl) (fun K hK => ?_)
                          go_simp; go_at_call 84; refine Calls.mono (HB2.out _ (hS1.out _ (by assumption))) ?_; rintro e w3 ⟨rfl, rfl⟩
                          refine hK.out _ _ ?_ (fun hHeld => ?_)
                          focus (exact hS0.out _ (by (repeat (first | (with_reducible first | exact zR _ _ | exact zA _ _ | assumption | refine zL ?_ _ | refine zD ?_ | refine zN ?_ _) | ((with_reducible first | refine zC ?_ ?_ _ | refine zW ?_ ?_ _); rotate_left; focus (first | exact Nat.le_refl _ | (simp; done) | (simp; omega) | omega)) | with_reducible refine zT ?_ (by assumption)))))
                          clear hK K
                          (try simp only [Act.put, yA, yB, yC])
                          refine ao 27 rfl (by kernel_rfl) (by rfl) (fun K hK => ?_)
                          go_simp
                          (go_at_call 60; refine Calls.mono (HI.out _ (hS1.out _ (by assumption))) ?_; rintro e w4 ⟨rfl, hb4⟩)
                          refine hK.out _ _ ?_ (fun hHeld => ?_)
                          focus (exact hS0.out _ (by (repeat (first | (with_reducible first | exact zR _ _ | exact zA _ _ | assumption | refine zL ?_ _ | refine zD ?_ | refine zN ?_ _) | ((with_reducible first | refine zC ?_ ?_ _ | refine zW ?_ ?_ _); rotate_left; focus (first | exact Nat.le_refl _ | (simp; done) | (simp; omega) | omega)) | with_reducible refine zT ?_ (by assumption)))))
                          clear hK K
                          (try simp only [Act.put, yA, yB, yC])
                          have hq := plan [28, 29]
                          iterate 2 (refine tk hq ?_ rfl (by kernel_rfl) (by assumption) (by rfl) (fun _ _ _ h => h) ?hy ?_; (case hy => (intro w hSw; (try dsimp only at hSw); go_simp; (try with_reducible rfl))); replace hq := hq.tl; (try simp only [Act.put, yA, yB, yC]))
                          clear hq
                          refine any_done (by kernel_rfl) ?_
                          go_wp2
                          exact ⟨⟨j + 1, by omega, by go_num, hS1.out _ hHeld, hpre2.out⟩, by simp [intOf]; omega⟩
                        · as_aux_lemma =>
                          have hnv2 : netAt pt.sagas (j + 1) = 0 := by unfold netAt; rw [Nat.add_sub_cancel, List.getElem?_eq_none (by omega)]
                          have hnv0 : nv = 0 := by rw [← hnv.out, hnv2]
                          subst hnv0
                          (try simp only [Int.zero_sub] at HB1)
                          (try simp only [Int.zero_sub] at hw)
                          (try simp only [Int.zero_sub] at h3)
                          (try simp only [Int.zero_sub] at h4)
                          (try simp only [Int.zero_sub] at h1)
                          clear hnv2
                          have hh0 := cells_at hO.out.core.head 0
                          simp only [List.getElem?_toArray, List.getElem?_cons_zero] at hh0
                          go_wp2
                          refine any_begin (S := (fun W' => W'.cell? ⟨pc, 1, none⟩ = some (.pointer (some ⟨pb, 0, none⟩)) ∧ W'.cell? ⟨pc, 2, none⟩ = some (.int .i64 ii.s0.party) ∧ W'.cell? ⟨pc, 3, none⟩ = some (.int .i64 ii.s0.seq) ∧ W'.cell? ⟨pc, 4, none⟩ = some (.slice q0 ii.s0.rows.length k0) ∧ W'.cell? ⟨pc, 5, none⟩ = some (.int .i64 ii.s1.party) ∧ W'.cell? ⟨pc, 6, none⟩ = some (.int .i64 ii.s1.seq) ∧ W'.cell? ⟨pc, 7, none⟩ = some (.slice q1 ii.s1.rows.length k1) ∧ W'.cell? ⟨pc, 8, none⟩ = some (.int .i64 ii.s2.party) ∧ W'.cell? ⟨pc, 9, none⟩ = some (.int .i64 ii.s2.seq) ∧ W'.cell? ⟨pc, 10, none⟩ = some (.slice q2 ii.s2.rows.length k2) ∧ W'.cell? ⟨pc, 11, none⟩ = some (.map m) ∧ Hid (OAt w arr (w.heap.size + 1) pc (.slice ql pt.sagas.length kl) pb (.slice qb b.l.length kb) P Q (.slice q0 ii.s0.rows.length k0) (.slice q1 ii.s1.rows.length k1) (.slice q2 ii.s2.rows.length k2) m ⟨pt.sagas, b, ii⟩ W'))) 30 (by kernel_rfl) ?_ (fun hHeld => ?_)
                          focus (exact hS0.out _ (by (repeat (first | (with_reducible first | exact zR _ _ | exact zA _ _ | assumption | refine zL ?_ _ | refine zD ?_ | refine zN ?_ _) | ((with_reducible first | refine zC ?_ ?_ _ | refine zW ?_ ?_ _); rotate_left; focus (first | exact Nat.le_refl _ | (simp; done) | (simp; omega) | omega)) | with_reducible refine zT ?_ (by assumption)))))
                          have hq := plan [0, 1, 2, 3, 4, 6, 7, 8, 9, 10, 11]
                          iterate 11 (refine tk hq ?_ rfl (by kernel_rfl) (by assumption) (by rfl) (fun _ _ _ h => h) ?hy ?_; (case hy => (intro w hSw; (try dsimp only at hSw); go_simp; (try with_reducible rfl))); replace hq := hq.tl; (try simp only [Act.put, yA, yB, yC]))
                          clear hq
                          refine ao 5 rfl (by kernel_rfl) (by rfl) (fun K hK => ?_)
                          go_simp; go_at_call 84; refine Calls.mono (HB1.out _ (hS1.out _ (by assumption))) ?_; rintro e w3 ⟨rfl, rfl⟩
                          refine hK.out _ _ ?_ (fun hHeld => ?_)
                          focus (exact hS0.out _ (by (repeat (first | (with_reducible first | exact zR _ _ | exact zA _ _ | assumption | refine zL ?_ _ | refine zD ?_ | refine zN ?_ _) | ((with_reducible first | refine zC ?_ ?_ _ | refine zW ?_ ?_ _); rotate_left; focus (first | exact Nat.le_refl _ | (simp; done) | (simp; omega) | omega)) | with_reducible refine zT ?_ (by assumption)))))
                          clear hK K
                          (try simp only [Act.put, yA, yB, yC])
                          refine ao 12 rfl (by kernel_rfl) (by rfl) (fun K hK => ?_)
                          go_simp
                          (go_at_call 60; refine Calls.mono (HI.out _ (hS1.out _ (by assumption))) ?_; rintro e w4 ⟨rfl, hb4⟩)
                          refine hK.out _ _ ?_ (fun hHeld => ?_)
                          focus (exact hS0.out _ (by (repeat (first | (with_reducible first | exact zR _ _ | exact zA _ _ | assumption | refine zL ?_ _ | refine zD ?_ | refine zN ?_ _) | ((with_reducible first | refine zC ?_ ?_ _ | refine zW ?_ ?_ _); rotate_left; focus (first | exact Nat.le_refl _ | (simp; done) | (simp; omega) | omega)) | with_reducible refine zT ?_ (by assumption)))))
                          clear hK K
                          (try simp only [Act.put, yA, yB, yC])
                          have hq := plan [13, 14, 15, 16, 17, 18, 19, 20, 22, 23, 24, 25, 26]
                          iterate 13 (refine tk hq ?_ rfl (by kernel_rfl) (by assumption) (by rfl) (fun _ _ _ h => h) ?hy ?_; (case hy => (intro w hSw; (try dsimp only at hSw); go_simp; (try with_reducible rfl))); replace hq := hq.tl; (try simp only [Act.put, yA, yB, yC]))
                          clear hq
                          refine ao 21 rfl (by kernel_rfl) (by rfl) (fun K hK => ?_)
                          go_simp; go_at_call 84; refine Calls.mono (HB2.out _ (hS1.out _ (by assumption))) ?_; rintro e w3 ⟨rfl, rfl⟩
                          refine hK.out _ _ ?_ (fun hHeld => ?_)
                          focus (exact hS0.out _ (by (repeat (first | (with_reducible first | exact zR _ _ | exact zA _ _ | assumption | refine zL ?_ _ | refine zD ?_ | refine zN ?_ _) | ((with_reducible first | refine zC ?_ ?_ _ | refine zW ?_ ?_ _); rotate_left; focus (first | exact Nat.le_refl _ | (simp; done) | (simp; omega) | omega)) | with_reducible refine zT ?_ (by assumption)))))
                          clear hK K
                          (try simp only [Act.put, yA, yB, yC])
                          refine ao 27 rfl (by kernel_rfl) (by rfl) (fun K hK => ?_)
                          go_simp
                          (go_at_call 60; refine Calls.mono (HI.out _ (hS1.out _ (by assumption))) ?_; rintro e w4 ⟨rfl, hb4⟩)
                          refine hK.out _ _ ?_ (fun hHeld => ?_)
                          focus (exact hS0.out _ (by (repeat (first | (with_reducible first | exact zR _ _ | exact zA _ _ | assumption | refine zL ?_ _ | refine zD ?_ | refine zN ?_ _) | ((with_reducible first | refine zC ?_ ?_ _ | refine zW ?_ ?_ _); rotate_left; focus (first | exact Nat.le_refl _ | (simp; done) | (simp; omega) | omega)) | with_reducible refine zT ?_ (by assumption)))))
                          clear hK K
                          (try simp only [Act.put, yA, yB, yC])
                          have hq := plan [28, 29]
                          iterate 2 (refine tk hq ?_ rfl (by kernel_rfl) (by assumption) (by rfl) (fun _ _ _ h => h) ?hy ?_; (case hy => (intro w hSw; (try dsimp only at hSw); go_simp; (try with_reducible rfl))); replace hq := hq.tl; (try simp only [Act.put, yA, yB, yC]))
                          clear hq
                          refine any_done (by kernel_rfl) ?_
                          go_wp2
                          exact ⟨⟨j + 1, by omega, by go_num, hS1.out _ hHeld, hpre2.out⟩, by simp [intOf]; omega⟩

                      · have hN := Lib.hid (coreOf_none5 (pt := pt) hOB.out hOI.out (balanced_no (C := ⟨pt.sagas, b, ii⟩) hlt (by rw [hbk]; simp [h2])))
                        subst h1
                        clear hbk hpre
                        have h3 : (x2 == inn) = false := by simp [h2]
                        have h4 : (x2 != inn) = true := by simp [h2]
                        by_cases hlo : j < pt.sagas.length
                        · as_aux_lemma =>
                          obtain ⟨s, hs⟩ : ∃ s, pt.sagas[j]? = some s := ⟨_, List.getElem?_eq_getElem hlo⟩
                          have hnv2 : netAt pt.sagas (j + 1) = Sp.net s := by unfold netAt; rw [Nat.add_sub_cancel, hs]
                          have HNet := fun W => Net_any s W
                          rw [← hnv2, hnv.out] at HNet
                          obtain ⟨b0, hql, hb0, hcells⟩ : ∃ b0, ql = some ⟨b0, 0, none⟩ ∧ b0 < wr.heap.size ∧ ∀ i x, pt.sagas[i]? = some x → ∀ j u, (sagaCells x)[j]? = some u → wr.cell? ⟨b0, i * 12 + j, none⟩ = some u := by
                            rcases hO.out.core.slc with ⟨_, h0⟩ | ⟨b0, cap, e, _, h1, h2⟩
                            · simp only at h0; rw [h0] at hlo; simp at hlo
                            · exact ⟨b0, by cases e; rfl, h1, h2⟩
                          subst hql
                          obtain ⟨g0, g1, g2, g3, g4, g5, g6, g7, g8, g9, g10, g11⟩ := saga_facts hcells (Below.refl _ _) hs
                          have hh0 := cells_at hO.out.core.head 0
                          simp only [List.getElem?_toArray, List.getElem?_cons_zero] at hh0
                          obtain ⟨⟨id, ref, sku, qty, amount⟩, d0, d1, d2, d3, d4, d5, cancel⟩ := s
                          simp only at g0 g1 g2 g3 g4 g5 g6 g7 g8 g9 g10 g11
                          simp only [sagaVal] at HNet
                          replace HNet := Lib.hid HNet
                          clear hcells hs hnv2
                          go_wp2_with (go_at_call 55; refine Calls.mono (HNet.out _) ?_; rintro e wn ⟨rfl, hbn⟩)
                          refine any_begin (S := (fun W' => W'.cell? ⟨pc, 1, none⟩ = some (.pointer (some ⟨pb, 0, none⟩)) ∧ W'.cell? ⟨pc, 2, none⟩ = some (.int .i64 ii.s0.party) ∧ W'.cell? ⟨pc, 3, none⟩ = some (.int .i64 ii.s0.seq) ∧ W'.cell? ⟨pc, 4, none⟩ = some (.slice q0 ii.s0.rows.length k0) ∧ W'.cell? ⟨pc, 5, none⟩ = some (.int .i64 ii.s1.party) ∧ W'.cell? ⟨pc, 6, none⟩ = some (.int .i64 ii.s1.seq) ∧ W'.cell? ⟨pc, 7, none⟩ = some (.slice q1 ii.s1.rows.length k1) ∧ W'.cell? ⟨pc, 8, none⟩ = some (.int .i64 ii.s2.party) ∧ W'.cell? ⟨pc, 9, none⟩ = some (.int .i64 ii.s2.seq) ∧ W'.cell? ⟨pc, 10, none⟩ = some (.slice q2 ii.s2.rows.length k2) ∧ W'.cell? ⟨pc, 11, none⟩ = some (.map m) ∧ Hid (OAt w arr (w.heap.size + 1) pc (.slice (some ⟨b0, 0, none⟩) pt.sagas.length kl) pb (.slice qb b.l.length kb) P Q (.slice q0 ii.s0.rows.length k0) (.slice q1 ii.s1.rows.length k1) (.slice q2 ii.s2.rows.length k2) m ⟨pt.sagas, b, ii⟩ W'))) 30 (by kernel_rfl) ?_ (fun hHeld => ?_)
                          focus (exact hS0.out _ (by (repeat (first | (with_reducible first | exact zR _ _ | exact zA _ _ | assumption | refine zL ?_ _ | refine zD ?_ | refine zN ?_ _) | ((with_reducible first | refine zC ?_ ?_ _ | refine zW ?_ ?_ _); rotate_left; focus (first | exact Nat.le_refl _ | (simp; done) | (simp; omega) | omega)) | with_reducible refine zT ?_ (by assumption)))))
                          have hq := plan [0, 1, 2, 3, 4, 6, 7, 8, 9, 10, 11]
                          iterate 11 (refine tk hq ?_ rfl (by kernel_rfl) (by assumption) (by rfl) (fun _ _ _ h => h) ?hy ?_; (case hy => (intro w hSw; (try dsimp only at hSw); go_simp; (try with_reducible rfl))); replace hq := hq.tl; (try simp only [Act.put, yA, yB, yC]))
                          clear hq
                          refine ao 5 rfl (by kernel_rfl) (by rfl) (fun K hK => ?_)
                          go_simp; go_at_call 84; refine Calls.mono (HB1.out _ (hS1.out _ (by assumption))) ?_; rintro e w3 ⟨rfl, rfl⟩
                          refine hK.out _ _ ?_ (fun hHeld => ?_)
                          focus (exact hS0.out _ (by (repeat (first | (with_reducible first | exact zR _ _ | exact zA _ _ | assumption | refine zL ?_ _ | refine zD ?_ | refine zN ?_ _) | ((with_reducible first | refine zC ?_ ?_ _ | refine zW ?_ ?_ _); rotate_left; focus (first | exact Nat.le_refl _ | (simp; done) | (simp; omega) | omega)) | with_reducible refine zT ?_ (by assumption)))))
                          clear hK K
                          (try simp only [Act.put, yA, yB, yC])
                          refine ao 12 rfl (by kernel_rfl) (by rfl) (fun K hK => ?_)
                          go_simp
                          (go_at_call 60; refine Calls.mono (HI.out _ (hS1.out _ (by assumption))) ?_; rintro e w4 ⟨rfl, hb4⟩)
                          refine hK.out _ _ ?_ (fun hHeld => ?_)
                          focus (exact hS0.out _ (by (repeat (first | (with_reducible first | exact zR _ _ | exact zA _ _ | assumption | refine zL ?_ _ | refine zD ?_ | refine zN ?_ _) | ((with_reducible first | refine zC ?_ ?_ _ | refine zW ?_ ?_ _); rotate_left; focus (first | exact Nat.le_refl _ | (simp; done) | (simp; omega) | omega)) | with_reducible refine zT ?_ (by assumption)))))
                          clear hK K
                          (try simp only [Act.put, yA, yB, yC])
                          have hq := plan [13, 14, 15, 16, 17, 18, 19, 20, 22, 23, 24, 25, 26]
                          iterate 13 (refine tk hq ?_ rfl (by kernel_rfl) (by assumption) (by rfl) (fun _ _ _ h => h) ?hy ?_; (case hy => (intro w hSw; (try dsimp only at hSw); go_simp; (try with_reducible rfl))); replace hq := hq.tl; (try simp only [Act.put, yA, yB, yC]))
                          clear hq
                          refine ao 21 rfl (by kernel_rfl) (by rfl) (fun K hK => ?_)
                          go_simp; go_at_call 84; refine Calls.mono (HB2.out _ (hS1.out _ (by assumption))) ?_; rintro e w3 ⟨rfl, rfl⟩
                          refine hK.out _ _ ?_ (fun hHeld => ?_)
                          focus (exact hS0.out _ (by (repeat (first | (with_reducible first | exact zR _ _ | exact zA _ _ | assumption | refine zL ?_ _ | refine zD ?_ | refine zN ?_ _) | ((with_reducible first | refine zC ?_ ?_ _ | refine zW ?_ ?_ _); rotate_left; focus (first | exact Nat.le_refl _ | (simp; done) | (simp; omega) | omega)) | with_reducible refine zT ?_ (by assumption)))))
                          clear hK K
                          (try simp only [Act.put, yA, yB, yC])
                          refine ao 27 rfl (by kernel_rfl) (by rfl) (fun K hK => ?_)
                          go_simp
                          (go_at_call 60; refine Calls.mono (HI.out _ (hS1.out _ (by assumption))) ?_; rintro e w4 ⟨rfl, hb4⟩)
                          refine hK.out _ _ ?_ (fun hHeld => ?_)
                          focus (exact hS0.out _ (by (repeat (first | (with_reducible first | exact zR _ _ | exact zA _ _ | assumption | refine zL ?_ _ | refine zD ?_ | refine zN ?_ _) | ((with_reducible first | refine zC ?_ ?_ _ | refine zW ?_ ?_ _); rotate_left; focus (first | exact Nat.le_refl _ | (simp; done) | (simp; omega) | omega)) | with_reducible refine zT ?_ (by assumption)))))
                          clear hK K
                          (try simp only [Act.put, yA, yB, yC])
                          have hq := plan [28, 29]
                          iterate 2 (refine tk hq ?_ rfl (by kernel_rfl) (by assumption) (by rfl) (fun _ _ _ h => h) ?hy ?_; (case hy => (intro w hSw; (try dsimp only at hSw); go_simp; (try with_reducible rfl))); replace hq := hq.tl; (try simp only [Act.put, yA, yB, yC]))
                          clear hq
                          refine any_done (by kernel_rfl) ?_
                          go_wp2
                          refine bodyPost_ret (v := .tuple #[.pointer none, .int .i64 2]) ?_ rfl (ofPost_none hN.out ?_)
                          · simp [results, Tryz.results47, go_sem, ↓IntWalk.iteOmega, *]
                          · exact (hS1.out _ hHeld).low
                        · as_aux_lemma =>
                          have hnv2 : netAt pt.sagas (j + 1) = 0 := by unfold netAt; rw [Nat.add_sub_cancel, List.getElem?_eq_none (by omega)]
                          have hnv0 : nv = 0 := by rw [← hnv.out, hnv2]
                          subst hnv0
                          (try simp only [Int.zero_sub] at HB1)
                          (try simp only [Int.zero_sub] at hw)
                          (try simp only [Int.zero_sub] at h3)
                          (try simp only [Int.zero_sub] at h4)
                          (try simp only [Int.zero_sub] at h1)
                          clear hnv2
                          have hh0 := cells_at hO.out.core.head 0
                          simp only [List.getElem?_toArray, List.getElem?_cons_zero] at hh0
                          go_wp2
                          refine any_begin (S := (fun W' => W'.cell? ⟨pc, 1, none⟩ = some (.pointer (some ⟨pb, 0, none⟩)) ∧ W'.cell? ⟨pc, 2, none⟩ = some (.int .i64 ii.s0.party) ∧ W'.cell? ⟨pc, 3, none⟩ = some (.int .i64 ii.s0.seq) ∧ W'.cell? ⟨pc, 4, none⟩ = some (.slice q0 ii.s0.rows.length k0) ∧ W'.cell? ⟨pc, 5, none⟩ = some (.int .i64 ii.s1.party) ∧ W'.cell? ⟨pc, 6, none⟩ = some (.int .i64 ii.s1.seq) ∧ W'.cell? ⟨pc, 7, none⟩ = some (.slice q1 ii.s1.rows.length k1) ∧ W'.cell? ⟨pc, 8, none⟩ = some (.int .i64 ii.s2.party) ∧ W'.cell? ⟨pc, 9, none⟩ = some (.int .i64 ii.s2.seq) ∧ W'.cell? ⟨pc, 10, none⟩ = some (.slice q2 ii.s2.rows.length k2) ∧ W'.cell? ⟨pc, 11, none⟩ = some (.map m) ∧ Hid (OAt w arr (w.heap.size + 1) pc (.slice ql pt.sagas.length kl) pb (.slice qb b.l.length kb) P Q (.slice q0 ii.s0.rows.length k0) (.slice q1 ii.s1.rows.length k1) (.slice q2 ii.s2.rows.length k2) m ⟨pt.sagas, b, ii⟩ W'))) 30 (by kernel_rfl) ?_ (fun hHeld => ?_)
                          focus (exact hS0.out _ (by (repeat (first | (with_reducible first | exact zR _ _ | exact zA _ _ | assumption | refine zL ?_ _ | refine zD ?_ | refine zN ?_ _) | ((with_reducible first | refine zC ?_ ?_ _ | refine zW ?_ ?_ _); rotate_left; focus (first | exact Nat.le_refl _ | (simp; done) | (simp; omega) | omega)) | with_reducible refine zT ?_ (by assumption)))))
                          have hq := plan [0, 1, 2, 3, 4, 6, 7, 8, 9, 10, 11]
                          iterate 11 (refine tk hq ?_ rfl (by kernel_rfl) (by assumption) (by rfl) (fun _ _ _ h => h) ?hy ?_; (case hy => (intro w hSw; (try dsimp only at hSw); go_simp; (try with_reducible rfl))); replace hq := hq.tl; (try simp only [Act.put, yA, yB, yC]))
                          clear hq
                          refine ao 5 rfl (by kernel_rfl) (by rfl) (fun K hK => ?_)
                          go_simp; go_at_call 84; refine Calls.mono (HB1.out _ (hS1.out _ (by assumption))) ?_; rintro e w3 ⟨rfl, rfl⟩
                          refine hK.out _ _ ?_ (fun hHeld => ?_)
                          focus (exact hS0.out _ (by (repeat (first | (with_reducible first | exact zR _ _ | exact zA _ _ | assumption | refine zL ?_ _ | refine zD ?_ | refine zN ?_ _) | ((with_reducible first | refine zC ?_ ?_ _ | refine zW ?_ ?_ _); rotate_left; focus (first | exact Nat.le_refl _ | (simp; done) | (simp; omega) | omega)) | with_reducible refine zT ?_ (by assumption)))))
                          clear hK K
                          (try simp only [Act.put, yA, yB, yC])
                          refine ao 12 rfl (by kernel_rfl) (by rfl) (fun K hK => ?_)
                          go_simp
                          (go_at_call 60; refine Calls.mono (HI.out _ (hS1.out _ (by assumption))) ?_; rintro e w4 ⟨rfl, hb4⟩)
                          refine hK.out _ _ ?_ (fun hHeld => ?_)
                          focus (exact hS0.out _ (by (repeat (first | (with_reducible first | exact zR _ _ | exact zA _ _ | assumption | refine zL ?_ _ | refine zD ?_ | refine zN ?_ _) | ((with_reducible first | refine zC ?_ ?_ _ | refine zW ?_ ?_ _); rotate_left; focus (first | exact Nat.le_refl _ | (simp; done) | (simp; omega) | omega)) | with_reducible refine zT ?_ (by assumption)))))
                          clear hK K
                          (try simp only [Act.put, yA, yB, yC])
                          have hq := plan [13, 14, 15, 16, 17, 18, 19, 20, 22, 23, 24, 25, 26]
                          iterate 13 (refine tk hq ?_ rfl (by kernel_rfl) (by assumption) (by rfl) (fun _ _ _ h => h) ?hy ?_; (case hy => (intro w hSw; (try dsimp only at hSw); go_simp; (try with_reducible rfl))); replace hq := hq.tl; (try simp only [Act.put, yA, yB, yC]))
                          clear hq
                          refine ao 21 rfl (by kernel_rfl) (by rfl) (fun K hK => ?_)
                          go_simp; go_at_call 84; refine Calls.mono (HB2.out _ (hS1.out _ (by assumption))) ?_; rintro e w3 ⟨rfl, rfl⟩
                          refine hK.out _ _ ?_ (fun hHeld => ?_)
                          focus (exact hS0.out _ (by (repeat (first | (with_reducible first | exact zR _ _ | exact zA _ _ | assumption | refine zL ?_ _ | refine zD ?_ | refine zN ?_ _) | ((with_reducible first | refine zC ?_ ?_ _ | refine zW ?_ ?_ _); rotate_left; focus (first | exact Nat.le_refl _ | (simp; done) | (simp; omega) | omega)) | with_reducible refine zT ?_ (by assumption)))))
                          clear hK K
                          (try simp only [Act.put, yA, yB, yC])
                          refine ao 27 rfl (by kernel_rfl) (by rfl) (fun K hK => ?_)
                          go_simp
                          (go_at_call 60; refine Calls.mono (HI.out _ (hS1.out _ (by assumption))) ?_; rintro e w4 ⟨rfl, hb4⟩)
                          refine hK.out _ _ ?_ (fun hHeld => ?_)
                          focus (exact hS0.out _ (by (repeat (first | (with_reducible first | exact zR _ _ | exact zA _ _ | assumption | refine zL ?_ _ | refine zD ?_ | refine zN ?_ _) | ((with_reducible first | refine zC ?_ ?_ _ | refine zW ?_ ?_ _); rotate_left; focus (first | exact Nat.le_refl _ | (simp; done) | (simp; omega) | omega)) | with_reducible refine zT ?_ (by assumption)))))
                          clear hK K
                          (try simp only [Act.put, yA, yB, yC])
                          have hq := plan [28, 29]
                          iterate 2 (refine tk hq ?_ rfl (by kernel_rfl) (by assumption) (by rfl) (fun _ _ _ h => h) ?hy ?_; (case hy => (intro w hSw; (try dsimp only at hSw); go_simp; (try with_reducible rfl))); replace hq := hq.tl; (try simp only [Act.put, yA, yB, yC]))
                          clear hq
                          refine any_done (by kernel_rfl) ?_
                          go_wp2
                          refine bodyPost_ret (v := .tuple #[.pointer none, .int .i64 2]) ?_ rfl (ofPost_none hN.out ?_)
                          · simp [results, Tryz.results47, go_sem, ↓IntWalk.iteOmega, *]
                          · exact (hS1.out _ hHeld).low

                    · have hN := Lib.hid (coreOf_none5 (pt := pt) hOB.out hOI.out (balanced_no (C := ⟨pt.sagas, b, ii⟩) hlt (by rw [hbk]; simp [h1])))
                      clear hbk hpre
                      have h3 : (x1 == nv - inn) = false := by simp [h1]
                      have h4 : (x1 != nv - inn) = true := by simp [h1]
                      by_cases hlo : j < pt.sagas.length
                      · as_aux_lemma =>
                        obtain ⟨s, hs⟩ : ∃ s, pt.sagas[j]? = some s := ⟨_, List.getElem?_eq_getElem hlo⟩
                        have hnv2 : netAt pt.sagas (j + 1) = Sp.net s := by unfold netAt; rw [Nat.add_sub_cancel, hs]
                        have HNet := fun W => Net_any s W
                        rw [← hnv2, hnv.out] at HNet
                        obtain ⟨b0, hql, hb0, hcells⟩ : ∃ b0, ql = some ⟨b0, 0, none⟩ ∧ b0 < wr.heap.size ∧ ∀ i x, pt.sagas[i]? = some x → ∀ j u, (sagaCells x)[j]? = some u → wr.cell? ⟨b0, i * 12 + j, none⟩ = some u := by
                          rcases hO.out.core.slc with ⟨_, h0⟩ | ⟨b0, cap, e, _, h1, h2⟩
                          · simp only at h0; rw [h0] at hlo; simp at hlo
                          · exact ⟨b0, by cases e; rfl, h1, h2⟩
                        subst hql
                        obtain ⟨g0, g1, g2, g3, g4, g5, g6, g7, g8, g9, g10, g11⟩ := saga_facts hcells (Below.refl _ _) hs
                        have hh0 := cells_at hO.out.core.head 0
                        simp only [List.getElem?_toArray, List.getElem?_cons_zero] at hh0
                        obtain ⟨⟨id, ref, sku, qty, amount⟩, d0, d1, d2, d3, d4, d5, cancel⟩ := s
                        simp only at g0 g1 g2 g3 g4 g5 g6 g7 g8 g9 g10 g11
                        simp only [sagaVal] at HNet
                        replace HNet := Lib.hid HNet
                        clear hcells hs hnv2
                        go_wp2_with (go_at_call 55; refine Calls.mono (HNet.out _) ?_; rintro e wn ⟨rfl, hbn⟩)
                        refine any_begin (S := (fun W' => W'.cell? ⟨pc, 1, none⟩ = some (.pointer (some ⟨pb, 0, none⟩)) ∧ W'.cell? ⟨pc, 2, none⟩ = some (.int .i64 ii.s0.party) ∧ W'.cell? ⟨pc, 3, none⟩ = some (.int .i64 ii.s0.seq) ∧ W'.cell? ⟨pc, 4, none⟩ = some (.slice q0 ii.s0.rows.length k0) ∧ W'.cell? ⟨pc, 5, none⟩ = some (.int .i64 ii.s1.party) ∧ W'.cell? ⟨pc, 6, none⟩ = some (.int .i64 ii.s1.seq) ∧ W'.cell? ⟨pc, 7, none⟩ = some (.slice q1 ii.s1.rows.length k1) ∧ W'.cell? ⟨pc, 8, none⟩ = some (.int .i64 ii.s2.party) ∧ W'.cell? ⟨pc, 9, none⟩ = some (.int .i64 ii.s2.seq) ∧ W'.cell? ⟨pc, 10, none⟩ = some (.slice q2 ii.s2.rows.length k2) ∧ W'.cell? ⟨pc, 11, none⟩ = some (.map m) ∧ Hid (OAt w arr (w.heap.size + 1) pc (.slice (some ⟨b0, 0, none⟩) pt.sagas.length kl) pb (.slice qb b.l.length kb) P Q (.slice q0 ii.s0.rows.length k0) (.slice q1 ii.s1.rows.length k1) (.slice q2 ii.s2.rows.length k2) m ⟨pt.sagas, b, ii⟩ W'))) 30 (by kernel_rfl) ?_ (fun hHeld => ?_)
                        focus (exact hS0.out _ (by (repeat (first | (with_reducible first | exact zR _ _ | exact zA _ _ | assumption | refine zL ?_ _ | refine zD ?_ | refine zN ?_ _) | ((with_reducible first | refine zC ?_ ?_ _ | refine zW ?_ ?_ _); rotate_left; focus (first | exact Nat.le_refl _ | (simp; done) | (simp; omega) | omega)) | with_reducible refine zT ?_ (by assumption)))))
                        have hq := plan [0, 1, 2, 3, 4, 6, 7, 8, 9, 10, 11]
                        iterate 11 (refine tk hq ?_ rfl (by kernel_rfl) (by assumption) (by rfl) (fun _ _ _ h => h) ?hy ?_; (case hy => (intro w hSw; (try dsimp only at hSw); go_simp; (try with_reducible rfl))); replace hq := hq.tl; (try simp only [Act.put, yA, yB, yC]))
                        clear hq
                        refine ao 5 rfl (by kernel_rfl) (by rfl) (fun K hK => ?_)
                        go_simp; go_at_call 84; refine Calls.mono (HB1.out _ (hS1.out _ (by assumption))) ?_; rintro e w3 ⟨rfl, rfl⟩
                        refine hK.out _ _ ?_ (fun hHeld => ?_)
                        focus (exact hS0.out _ (by (repeat (first | (with_reducible first | exact zR _ _ | exact zA _ _ | assumption | refine zL ?_ _ | refine zD ?_ | refine zN ?_ _) | ((with_reducible first | refine zC ?_ ?_ _ | refine zW ?_ ?_ _); rotate_left; focus (first | exact Nat.le_refl _ | (simp; done) | (simp; omega) | omega)) | with_reducible refine zT ?_ (by assumption)))))
                        clear hK K
                        (try simp only [Act.put, yA, yB, yC])
                        refine ao 12 rfl (by kernel_rfl) (by rfl) (fun K hK => ?_)
                        go_simp
                        (go_at_call 60; refine Calls.mono (HI.out _ (hS1.out _ (by assumption))) ?_; rintro e w4 ⟨rfl, hb4⟩)
                        refine hK.out _ _ ?_ (fun hHeld => ?_)
                        focus (exact hS0.out _ (by (repeat (first | (with_reducible first | exact zR _ _ | exact zA _ _ | assumption | refine zL ?_ _ | refine zD ?_ | refine zN ?_ _) | ((with_reducible first | refine zC ?_ ?_ _ | refine zW ?_ ?_ _); rotate_left; focus (first | exact Nat.le_refl _ | (simp; done) | (simp; omega) | omega)) | with_reducible refine zT ?_ (by assumption)))))
                        clear hK K
                        (try simp only [Act.put, yA, yB, yC])
                        have hq := plan [13, 14, 15]
                        iterate 3 (refine tk hq ?_ rfl (by kernel_rfl) (by assumption) (by rfl) (fun _ _ _ h => h) ?hy ?_; (case hy => (intro w hSw; (try dsimp only at hSw); go_simp; (try with_reducible rfl))); replace hq := hq.tl; (try simp only [Act.put, yA, yB, yC]))
                        clear hq
                        have hq := plan [16, 17, 18, 19, 20, 21, 22, 23, 24, 25, 26, 27, 28]
                        iterate 13 (refine tks hq rfl (by kernel_rfl) (by assumption) (by rfl) (fun _ _ _ h => h) ?_; replace hq := hq.tl; (try simp only [Act.put, yA, yB, yC]))
                        clear hq
                        have hq := plan [29]
                        iterate 1 (refine tk hq ?_ rfl (by kernel_rfl) (by assumption) (by rfl) (fun _ _ _ h => h) ?hy ?_; (case hy => (intro w hSw; (try dsimp only at hSw); go_simp; (try with_reducible rfl))); replace hq := hq.tl; (try simp only [Act.put, yA, yB, yC]))
                        clear hq
                        refine any_done (by kernel_rfl) ?_
                        go_wp2
                        refine bodyPost_ret (v := .tuple #[.pointer none, .int .i64 2]) ?_ rfl (ofPost_none hN.out ?_)
                        · simp [results, Tryz.results47, go_sem, ↓IntWalk.iteOmega, *]
                        · exact (hS1.out _ hHeld).low
                      · as_aux_lemma =>
                        have hnv2 : netAt pt.sagas (j + 1) = 0 := by unfold netAt; rw [Nat.add_sub_cancel, List.getElem?_eq_none (by omega)]
                        have hnv0 : nv = 0 := by rw [← hnv.out, hnv2]
                        subst hnv0
                        (try simp only [Int.zero_sub] at HB1)
                        (try simp only [Int.zero_sub] at hw)
                        (try simp only [Int.zero_sub] at h3)
                        (try simp only [Int.zero_sub] at h4)
                        (try simp only [Int.zero_sub] at h1)
                        clear hnv2
                        have hh0 := cells_at hO.out.core.head 0
                        simp only [List.getElem?_toArray, List.getElem?_cons_zero] at hh0
                        go_wp2
                        refine any_begin (S := (fun W' => W'.cell? ⟨pc, 1, none⟩ = some (.pointer (some ⟨pb, 0, none⟩)) ∧ W'.cell? ⟨pc, 2, none⟩ = some (.int .i64 ii.s0.party) ∧ W'.cell? ⟨pc, 3, none⟩ = some (.int .i64 ii.s0.seq) ∧ W'.cell? ⟨pc, 4, none⟩ = some (.slice q0 ii.s0.rows.length k0) ∧ W'.cell? ⟨pc, 5, none⟩ = some (.int .i64 ii.s1.party) ∧ W'.cell? ⟨pc, 6, none⟩ = some (.int .i64 ii.s1.seq) ∧ W'.cell? ⟨pc, 7, none⟩ = some (.slice q1 ii.s1.rows.length k1) ∧ W'.cell? ⟨pc, 8, none⟩ = some (.int .i64 ii.s2.party) ∧ W'.cell? ⟨pc, 9, none⟩ = some (.int .i64 ii.s2.seq) ∧ W'.cell? ⟨pc, 10, none⟩ = some (.slice q2 ii.s2.rows.length k2) ∧ W'.cell? ⟨pc, 11, none⟩ = some (.map m) ∧ Hid (OAt w arr (w.heap.size + 1) pc (.slice ql pt.sagas.length kl) pb (.slice qb b.l.length kb) P Q (.slice q0 ii.s0.rows.length k0) (.slice q1 ii.s1.rows.length k1) (.slice q2 ii.s2.rows.length k2) m ⟨pt.sagas, b, ii⟩ W'))) 30 (by kernel_rfl) ?_ (fun hHeld => ?_)
                        focus (exact hS0.out _ (by (repeat (first | (with_reducible first | exact zR _ _ | exact zA _ _ | assumption | refine zL ?_ _ | refine zD ?_ | refine zN ?_ _) | ((with_reducible first | refine zC ?_ ?_ _ | refine zW ?_ ?_ _); rotate_left; focus (first | exact Nat.le_refl _ | (simp; done) | (simp; omega) | omega)) | with_reducible refine zT ?_ (by assumption)))))
                        have hq := plan [0, 1, 2, 3, 4, 6, 7, 8, 9, 10, 11]
                        iterate 11 (refine tk hq ?_ rfl (by kernel_rfl) (by assumption) (by rfl) (fun _ _ _ h => h) ?hy ?_; (case hy => (intro w hSw; (try dsimp only at hSw); go_simp; (try with_reducible rfl))); replace hq := hq.tl; (try simp only [Act.put, yA, yB, yC]))
                        clear hq
                        refine ao 5 rfl (by kernel_rfl) (by rfl) (fun K hK => ?_)
                        go_simp; go_at_call 84; refine Calls.mono (HB1.out _ (hS1.out _ (by assumption))) ?_; rintro e w3 ⟨rfl, rfl⟩
                        refine hK.out _ _ ?_ (fun hHeld => ?_)
                        focus (exact hS0.out _ (by (repeat (first | (with_reducible first | exact zR _ _ | exact zA _ _ | assumption | refine zL ?_ _ | refine zD ?_ | refine zN ?_ _) | ((with_reducible first | refine zC ?_ ?_ _ | refine zW ?_ ?_ _); rotate_left; focus (first | exact Nat.le_refl _ | (simp; done) | (simp; omega) | omega)) | with_reducible refine zT ?_ (by assumption)))))
                        clear hK K
                        (try simp only [Act.put, yA, yB, yC])
                        refine ao 12 rfl (by kernel_rfl) (by rfl) (fun K hK => ?_)
                        go_simp
                        (go_at_call 60; refine Calls.mono (HI.out _ (hS1.out _ (by assumption))) ?_; rintro e w4 ⟨rfl, hb4⟩)
                        refine hK.out _ _ ?_ (fun hHeld => ?_)
                        focus (exact hS0.out _ (by (repeat (first | (with_reducible first | exact zR _ _ | exact zA _ _ | assumption | refine zL ?_ _ | refine zD ?_ | refine zN ?_ _) | ((with_reducible first | refine zC ?_ ?_ _ | refine zW ?_ ?_ _); rotate_left; focus (first | exact Nat.le_refl _ | (simp; done) | (simp; omega) | omega)) | with_reducible refine zT ?_ (by assumption)))))
                        clear hK K
                        (try simp only [Act.put, yA, yB, yC])
                        have hq := plan [13, 14, 15]
                        iterate 3 (refine tk hq ?_ rfl (by kernel_rfl) (by assumption) (by rfl) (fun _ _ _ h => h) ?hy ?_; (case hy => (intro w hSw; (try dsimp only at hSw); go_simp; (try with_reducible rfl))); replace hq := hq.tl; (try simp only [Act.put, yA, yB, yC]))
                        clear hq
                        have hq := plan [16, 17, 18, 19, 20, 21, 22, 23, 24, 25, 26, 27, 28]
                        iterate 13 (refine tks hq rfl (by kernel_rfl) (by assumption) (by rfl) (fun _ _ _ h => h) ?_; replace hq := hq.tl; (try simp only [Act.put, yA, yB, yC]))
                        clear hq
                        have hq := plan [29]
                        iterate 1 (refine tk hq ?_ rfl (by kernel_rfl) (by assumption) (by rfl) (fun _ _ _ h => h) ?hy ?_; (case hy => (intro w hSw; (try dsimp only at hSw); go_simp; (try with_reducible rfl))); replace hq := hq.tl; (try simp only [Act.put, yA, yB, yC]))
                        clear hq
                        refine any_done (by kernel_rfl) ?_
                        go_wp2
                        refine bodyPost_ret (v := .tuple #[.pointer none, .int .i64 2]) ?_ rfl (ofPost_none hN.out ?_)
                        · simp [results, Tryz.results47, go_sem, ↓IntWalk.iteOmega, *]
                        · exact (hS1.out _ hHeld).low

                  · obtain rfl : j = 60 := by omega
                    have hfin := Lib.hid (coreOf_yes (pt := pt) hfew hOS.out hOB.out hOI.out (balanced_yes hpre))
                    replace hO := Lib.hid hO
                    clear hpre hlt hj
                    go_wp2
                    refine bodyPost_ret (v := .tuple #[.pointer (some ⟨pc, 0, none⟩), .int .i64 0]) ?_ rfl ⟨hO.out.low, .inr ⟨_, _, _, _, _, _, _, _, _, _, _, _, hfin.out, rfl, hO.out.core⟩⟩
                    simp [results, Tryz.results47, go_sem, ↓IntWalk.iteOmega, *]
end Go.Proofs.YtkgpnikmdmpfaaaGreatDoor

/-
  The reader's posting.
-/
import Derived.Test.YtkgpnikmdmpfaaaGreatDoorBackP25
set_option linter.unusedVariables false
set_option linter.unusedSimpArgs false
namespace Go.Proofs.YtkgpnikmdmpfaaaGreatDoor
open Go.RowKit Go.Maps

theorem Rd.kept {w w' : World} {p q : Nat} {s : Bytes} {ok : Bool} (h : Rd w p s ok) (hg : w.grownBy w' (some q)) (hne : p ≠ q) : Rd w' p s ok := by
  unfold Rd at *
  rw [row?_congr (hg.block p (row?_lt h) (fun e => hne (Option.some.inj e)))]; exact h
theorem Rd.low {w w' : World} {p : Nat} {s : Bytes} {ok : Bool} (h : Rd w p s ok) (hb : Below w.heap.size w w') : Rd w' p s ok := by
  unfold Rd at *
  rw [row?_congr (hb.block p (row?_lt h))]; exact h
theorem rdPost_def {s tx s1 id s2 s3 s4 s5 s6 : Bytes} {ok k1 k2 k3 k4 k5 k6 : Bool} {av bv cv dv : Int} (h1 : rdText s ok = (tx, s1, k1)) (h2 : rdText tx k1 = (id, s2, k2)) (h3 : rdNum s2 k2 = (av, s3, k3)) (h4 : rdNum s3 k3 = (bv, s4, k4)) (h5 : rdNum s4 k4 = (cv, s5, k5)) (h6 : rdNum s5 k5 = (dv, s6, k6)) :
    rdPost s ok = (⟨id, wrap64 av, wrap64 bv, wrap64 cv, backN dv⟩, s1, k1 && k6 && s6.isEmpty) := by
  simp only [rdPost, h1, h2, h3, h4, h5, h6]
def ReadPost (w : World) (p : Nat) (s : Bytes) (ok : Bool) (e : Ending) (w' : World) : Prop :=
  e = .returned (postVal (rdPost s ok).1) ∧ w.grownBy w' (some p) ∧ Rd w' p (rdPost s ok).2.1 (rdPost s ok).2.2
/-- While an inner reader q is read: the outer one, and the result's block, are as they were. -/
structure PostAt (w : World) (p q : Nat) (s1 : Bytes) (k1 : Bool) (W : World) : Prop where
  grown : w.grownBy W (some p)
  outer : Rd W p s1 k1
  res : W.row? w.heap.size = some #[.string (str []), .int .i64 0, .int .i64 0, .int .i64 0, .int .i64 0]
  q : w.heap.size < q
theorem PostAt.next {w W W' : World} {p q : Nat} {s1 : Bytes} {k1 : Bool} (h : PostAt w p q s1 k1 W) (hp : p < w.heap.size) (hg : W.grownBy W' (some q)) : PostAt w p q s1 k1 W' where
  grown := ⟨hg.os.trans h.grown.os, hg.tape.trans h.grown.tape, hg.output.trans h.grown.output, Nat.le_trans h.grown.size hg.size, fun k hk hne => (hg.block k (Nat.lt_of_lt_of_le hk h.grown.size) (fun e => by have := Option.some.inj e; have := h.q; omega)).trans (h.grown.block k hk hne)⟩
  outer := h.outer.kept hg (by have := h.q; omega)
  res := by rw [row?_congr (hg.block _ (row?_lt h.res) (fun e => by have := Option.some.inj e; have := h.q; omega))]; exact h.res
  q := h.q
theorem setCell_size (w : World) (a : Addr) (v : Value) : (w.setCell a v).heap.size = w.heap.size := by simp [World.setCell]
theorem ReadPost.mk {w w6 : World} {p : Nat} {s s1 s6 id : Bytes} {ok k1 k6 x : Bool} {av bv cv dv : Int} {o : Obj} (hD : rdPost s ok = (⟨id, av, bv, cv, dv⟩, s1, k1 && k6 && s6.isEmpty)) (hg : w.grownBy w6 (some p)) (hr : Rd w6 p s1 k1) (hp : p < w.heap.size) (hlt : w.heap.size < w6.heap.size)
    (hx : x = (k1 && k6 && s6.isEmpty)) :
    ReadPost w p s ok (.returned (.agg #[.string (str id), .int .i64 av, .int .i64 bv, .int .i64 cv, .int .i64 dv])) (((((((w6.setCell ⟨p, 1, none⟩ (.bool x)).setCell ⟨w.heap.size, 0, none⟩ (.string (str id))).setCell ⟨w.heap.size, 1, none⟩ (.int .i64 av)).setCell ⟨w.heap.size, 2, none⟩ (.int .i64 bv)).setCell
      ⟨w.heap.size, 3, none⟩ (.int .i64 cv)).setCell ⟨w.heap.size, 4, none⟩ (.int .i64 dv)).alloc o) := by
  unfold ReadPost
  rw [hD]
  refine ⟨rfl, ?_, ?_⟩
  · have hk : Keeps (fun k => k = p ∨ w.heap.size ≤ k) w6 (((((((w6.setCell ⟨p, 1, none⟩ (.bool x)).setCell ⟨w.heap.size, 0, none⟩ (.string (str id))).setCell ⟨w.heap.size, 1, none⟩ (.int .i64 av)).setCell ⟨w.heap.size, 2, none⟩ (.int .i64 bv)).setCell
      ⟨w.heap.size, 3, none⟩ (.int .i64 cv)).setCell ⟨w.heap.size, 4, none⟩ (.int .i64 dv)).alloc o) :=
      Keeps.alloc (Keeps.setCell (Keeps.setCell (Keeps.setCell (Keeps.setCell (Keeps.setCell (Keeps.setCell (Keeps.refl _ _) (.inl (.inl rfl)) _) (.inl (.inr (Nat.le_refl _))) _) (.inl (.inr (Nat.le_refl _))) _) (.inl (.inr (Nat.le_refl _))) _) (.inl (.inr (Nat.le_refl _))) _) (.inl (.inr (Nat.le_refl _))) _) _
    exact ⟨hk.os.trans hg.os, hk.tape.trans hg.tape, hk.output.trans hg.output, Nat.le_trans hg.size hk.size, fun k hk' hne => (hk.block k (Nat.lt_of_lt_of_le hk' hg.size) (fun h => by rcases h with h | h; exact hne (by rw [h]); omega)).trans (hg.block k hk' hne)⟩
  · unfold Rd at *
    have hpl := row?_lt (show w6.row? p = _ from hr)
    rw [row?_alloc, if_neg (by simp only [setCell_size]; omega), row?_setCell, if_neg (by omega), row?_setCell, if_neg (by omega), row?_setCell, if_neg (by omega), row?_setCell, if_neg (by omega), row?_setCell, if_neg (by omega), row?_setCell, if_pos rfl, hr, hx]
    rfl
set_option maxRecDepth 100000 in
set_option maxHeartbeats 1000000 in
theorem readPost_any (p : Nat) (s : Bytes) (ok : Bool) (w : World) (hp : Rd w p s ok) (hs : s.length ≤ 1000000) :
    Calls Tryz.prog 80 #[.pointer (some ⟨p, 0, none⟩)] w (ReadPost w p s ok) := by
  rcases h1 : rdText s ok with ⟨tx, s1, k1⟩
  have q1 : tx.length + s1.length ≤ s.length := by have := rdText_len s ok; rw [h1] at this; exact this
  rcases h2 : rdText tx k1 with ⟨id, s2, k2⟩
  have q2 : id.length + s2.length ≤ tx.length := by have := rdText_len tx k1; rw [h2] at this; exact this
  rcases h3 : rdNum s2 k2 with ⟨av, s3, k3⟩
  obtain ⟨q3, q31, q32⟩ : s3.length ≤ s2.length ∧ 0 ≤ av ∧ av ≤ 18446744073709551615 := by have := rdNum_len s2 k2; rw [h3] at this; exact this
  rcases h4 : rdNum s3 k3 with ⟨bv, s4, k4⟩
  obtain ⟨q4, q41, q42⟩ : s4.length ≤ s3.length ∧ 0 ≤ bv ∧ bv ≤ 18446744073709551615 := by have := rdNum_len s3 k3; rw [h4] at this; exact this
  rcases h5 : rdNum s4 k4 with ⟨cv, s5, k5⟩
  obtain ⟨q5, q51, q52⟩ : s5.length ≤ s4.length ∧ 0 ≤ cv ∧ cv ≤ 18446744073709551615 := by have := rdNum_len s4 k4; rw [h5] at this; exact this
  rcases h6 : rdNum s5 k5 with ⟨dv, s6, k6⟩
  obtain ⟨q6, q61, q62⟩ : s6.length ≤ s5.length ∧ 0 ≤ dv ∧ dv ≤ 18446744073709551615 := by have := rdNum_len s5 k5; rw [h6] at this; exact this
  have hD := Lib.hid (rdPost_def h1 h2 h3 h4 h5 h6)
  replace h1 := Lib.hid h1
  replace h2 := Lib.hid h2
  replace h3 := Lib.hid h3
  replace h4 := Lib.hid h4
  replace h5 := Lib.hid h5
  replace h6 := Lib.hid h6
  have hpl := row?_lt hp
  replace hp := Lib.hid hp
  go_enter Tryz.func80, Tryz.ntmps80
  go_wp2_with fail
  refine Calls.mono (snapText_any p s ok _ (Rd.alloc hp.out _) (by omega)) ?_
  rw [h1.out]
  rintro e w1 ⟨rfl, hg1, hrd1⟩
  simp only
  have hz1 : w.heap.size < w1.heap.size := by have := hg1.size; simp at this; omega
  have hA1 : PostAt w p w1.heap.size s1 k1 w1 := ⟨⟨hg1.os, hg1.tape, hg1.output, by omega, fun k hk hne => (hg1.block k (by simp; omega) hne).trans (Below.heap_alloc _ _ _ hk)⟩, hrd1, by rw [row?_congr (hg1.block _ (by simp) (by simp; omega)), row?_alloc, if_pos rfl]; rfl, hz1⟩
  obtain ⟨cp0, cp1, fp0, fp1, lp⟩ := row2_cells hrd1
  replace hA1 := Lib.hid hA1
  replace hrd1 := Lib.hid hrd1
  clear hg1
  go_wp2_with fail
  refine Calls.mono (snapText_any w1.heap.size tx k1 _ ?_ (by omega)) ?_
  · unfold Rd; rw [row?_alloc, if_pos rfl]; rfl
  rw [h2.out]
  rintro e w2 ⟨rfl, hg2, hrd2⟩
  simp only
  have hA2 := Lib.hid (PostAt.next (W := w1.alloc _) ⟨hA1.out.grown.trans (World.grownBy_alloc _ _ _), hA1.out.outer.alloc _, by rw [row?_alloc, if_neg (by omega)]; exact hA1.out.res, hA1.out.q⟩ hpl hg2)
  have hz2 := hg2.size
  simp at hz2
  replace hrd2 := Lib.hid hrd2
  clear hg2 cp0 cp1 fp0 fp1
  go_wp2_with fail
  refine Calls.mono (snapNum_any w1.heap.size s2 k2 w2 hrd2.out (by omega)) ?_
  rw [h3.out]
  rintro e w3 ⟨rfl, hg3, hrd3⟩
  simp only
  have hA3 := Lib.hid (hA2.out.next hpl hg3)
  have hz3 := hg3.size
  replace hrd3 := Lib.hid hrd3
  clear hg3
  go_wp2_with fail
  refine Calls.mono (snapNum_any w1.heap.size s3 k3 w3 hrd3.out (by omega)) ?_
  rw [h4.out]
  rintro e w4 ⟨rfl, hg4, hrd4⟩
  simp only
  have hA4 := Lib.hid (hA3.out.next hpl hg4)
  have hz4 := hg4.size
  replace hrd4 := Lib.hid hrd4
  clear hg4
  go_wp2_with fail
  refine Calls.mono (snapNum_any w1.heap.size s4 k4 w4 hrd4.out (by omega)) ?_
  rw [h5.out]
  rintro e w5 ⟨rfl, hg5, hrd5⟩
  simp only
  have hA5 := Lib.hid (hA4.out.next hpl hg5)
  have hz5 := hg5.size
  replace hrd5 := Lib.hid hrd5
  clear hg5
  go_wp2_with fail
  refine Calls.mono (snapNum_any w1.heap.size s5 k5 w5 hrd5.out (by omega)) ?_
  rw [h6.out]
  rintro e w6 ⟨rfl, hg6, hrd6⟩
  simp only
  have hA6 := Lib.hid (hA5.out.next hpl hg6)
  have hz6 := hg6.size
  replace hrd6 := Lib.hid hrd6
  clear hg6
  obtain ⟨cp0, cp1, fp0, fp1, lp6⟩ := row2_cells hA6.out.outer
  obtain ⟨cq0, cq1, _, _, lq6⟩ := row2_cells hrd6.out
  have hrs := hA6.out.res
  have hrc := fun o => cell?_of_row? hrs o
  have hrf := fun o => frozen?_of_row? hrs o
  have hrl := row?_lt hrs
  go_wp2_with (go_at_call 114; refine Calls.mono (Back_any _ _ q61 q62) ?_; rintro e w7 ⟨rfl, rfl⟩)
  all_goals
    refine bodyPost_ret (v := .agg #[.string (str id), .int .i64 (wrap64 av), .int .i64 (wrap64 bv), .int .i64 (wrap64 cv), .int .i64 (backN dv)]) ?_ rfl ?_
    · simp [results, Tryz.results80, go_sem, ↓IntWalk.iteOmega, *]
    · have hro := hA6.out.outer
      have hgr := hA6.out.grown
      refine ReadPost.mk hD.out hgr hro hpl (by omega) ?_
      clear hro hgr hA1 hA2 hA3 hA4 hA5 hA6 hD h1 h2 h3 h4 h5 h6 cp0 cp1 cq0 cq1
      simp_all
end Go.Proofs.YtkgpnikmdmpfaaaGreatDoor

/-
  The reader's parts: what is kept from step to step.
-/

set_option linter.unusedVariables false
set_option linter.unusedSimpArgs false
namespace Go.Proofs.YtkgpnikmdmpfaaaGreatDoor
open Go.RowKit Go.Maps

/-- Rows stay while a block is written that does not begin with a number. -/
theorem rowsAt_other {w w' : World} {v c : Value} {l : List Sp.Row} {k : Nat} (h : RowsAt w v l) (hk : w.cell? ⟨k, 0, none⟩ = some c) (hc : ∀ n, c ≠ .int .i64 n) (hg : w.grownBy w' (some k)) : RowsAt w' v l := by
  rcases h with h | ⟨b, cap, rfl, h2, h3, h4⟩
  · exact .inl h
  · cases l with
    | nil => exact .inr ⟨b, cap, rfl, h2, Nat.lt_of_lt_of_le h3 hg.size, fun i x hi => by simp at hi⟩
    | cons r t =>
      have h0 := h4 0 r rfl 0 _ rfl
      have hne : b ≠ k := by
        intro e
        subst e
        simp only [Nat.zero_mul, Nat.add_zero] at h0
        rw [hk] at h0
        exact hc _ (Option.some.inj h0)
      refine .inr ⟨b, cap, rfl, h2, Nat.lt_of_lt_of_le h3 hg.size, fun i x hi j u hj => ?_⟩
      have e : w'.cell? ⟨b, i * 5 + j, none⟩ = w.cell? ⟨b, i * 5 + j, none⟩ := World.cell?_of_block (hg.block b h3 (fun e => hne (Option.some.inj e)))
      rw [e]; exact h4 i x hi j u hj
/-- While parts are read. -/
structure PSt (w : World) (p X : Nat) (pt : Parts) (vs vp u0 u1 u2 : Value) (s : Bytes) (ok : Bool) (W : World) : Prop where
  grown : w.grownBy W (some p)
  rd : Rd W p s ok
  box : W.heap[X]? = some (.cells #[vs, vp, .int .i64 pt.s0.party, .int .i64 pt.s0.seq, u0, .int .i64 pt.s1.party, .int .i64 pt.s1.seq, u1, .int .i64 pt.s2.party, .int .i64 pt.s2.seq, u2] 87 (0, 0))
  res : W.heap[w.heap.size]? = some (.cells zero11 87 (0, 0))
  sagas : W.ownsRow (X + 1) 89 12 vs pt.sagas.length (pt.sagas.flatMap sagaCells)
  posts : W.ownsRow (X + 1) 92 5 vp pt.posts.length (pt.posts.flatMap postCells)
  r0 : RowsAt W u0 pt.s0.rows
  r1 : RowsAt W u1 pt.s1.rows
  r2 : RowsAt W u2 pt.s2.rows
  par : Parties W
  ord : p < w.heap.size ∧ w.heap.size < X ∧ 2 < p
  slice : (∃ a n c, vs = .slice a n c)
theorem PSt.cells {w W : World} {p X : Nat} {pt : Parts} {vs vp u0 u1 u2 : Value} {s : Bytes} {ok : Bool} (h : PSt w p X pt vs vp u0 u1 u2 s ok W) : W.cell? ⟨p, 0, none⟩ = some (.string (str s)) ∧ W.cell? ⟨p, 1, none⟩ = some (.bool ok) ∧ W.frozen? ⟨p, 0, none⟩ = false ∧ W.frozen? ⟨p, 1, none⟩ = false ∧ p < W.heap.size := row2_cells h.rd
/-- The reader was read on, and new memory made. -/
theorem PSt.read {w W W' : World} {p X : Nat} {pt : Parts} {vs vp u0 u1 u2 : Value} {s s' : Bytes} {ok ok' : Bool} (h : PSt w p X pt vs vp u0 u1 u2 s ok W) (hg : W.grownBy W' (some p)) (hr : Rd W' p s' ok') (hpar : Parties W') : PSt w p X pt vs vp u0 u1 u2 s' ok' W' := by
  obtain ⟨hp0, hp1, hp2⟩ := h.ord
  have hc := h.cells.1
  have same : ∀ k, k < W.heap.size → k ≠ p → W'.heap[k]? = W.heap[k]? := fun k hk hne => hg.block k hk (fun e => hne (Option.some.inj e))
  refine ⟨⟨hg.os.trans h.grown.os, hg.tape.trans h.grown.tape, hg.output.trans h.grown.output, Nat.le_trans h.grown.size hg.size, fun k hk hne => (hg.block k (Nat.lt_of_lt_of_le hk h.grown.size) hne).trans (h.grown.block k hk hne)⟩, hr, (same X (Array.getElem?_eq_some_iff.1 h.box).1 (by omega)).trans h.box, (same _ (Array.getElem?_eq_some_iff.1 h.res).1 (by omega)).trans h.res,
    h.sagas.kept hg (.inr (own_not h.sagas (by omega))), h.posts.kept hg (.inr (own_not h.posts (by omega))), rowsAt_other h.r0 hc (by simp) hg, rowsAt_other h.r1 hc (by simp) hg, rowsAt_other h.r2 hc (by simp) hg, hpar, h.ord, h.slice⟩
theorem parties_other {w w' : World} {p : Nat} (h : Parties w) (hp : 2 < p) (hg : w.grownBy w' (some p)) : Parties w' := fun i hi => by
  have h1 := h i hi
  have hlt := World.block_lt_of_cell? w _ h1
  rw [World.cell?_of_block (hg.block _ hlt (by simp; omega))]; exact h1
theorem PSt.low {w W W' : World} {p X : Nat} {pt : Parts} {vs vp u0 u1 u2 : Value} {s : Bytes} {ok : Bool} (h : PSt w p X pt vs vp u0 u1 u2 s ok W) (hb : Below W.heap.size W W') : PSt w p X pt vs vp u0 u1 u2 s ok W' :=
  h.read (grown_below hb _) (h.rd.low hb) (h.par.grew hb)
/-- rdText, rdNum go on only where all was well, and then take a byte at least. -/
theorem rdText_ok {s a t : Bytes} {ok : Bool} (h : rdText s ok = (a, t, true)) : ok = true ∧ t.length < s.length := by
  unfold rdText at h
  cases hc : cutB s with
  | none => rw [hc] at h; simp at h
  | some r =>
    obtain ⟨a', t'⟩ := r
    rw [hc] at h
    simp only [Prod.mk.injEq] at h
    obtain ⟨rfl, rfl, rfl⟩ := h
    exact ⟨rfl, by have := cutB_range hc; omega⟩
theorem rdNum_ok {s t : Bytes} {n : Int} {ok : Bool} (h : rdNum s ok = (n, t, true)) : ok = true ∧ t.length < s.length := by
  unfold rdNum at h
  cases hr : readB s with
  | none => rw [hr] at h; simp at h
  | some r =>
    obtain ⟨n', q⟩ := r
    rw [hr] at h
    simp only [Prod.mk.injEq] at h
    obtain ⟨rfl, rfl, rfl⟩ := h
    exact ⟨rfl, (readB_range hr).2.2⟩
end Go.Proofs.YtkgpnikmdmpfaaaGreatDoor

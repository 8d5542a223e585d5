/-
  The reader's parts: the walk.
-/
import Derived.Test.YtkgpnikmdmpfaaaGreatDoorBackP35
set_option linter.unusedVariables false
set_option linter.unusedSimpArgs false
namespace Go.Proofs.YtkgpnikmdmpfaaaGreatDoor
open Go.RowKit Go.Maps

theorem rdSagas_stop {f : Nat} {n : Int} {s : Bytes} {ok : Bool} {acc : List Sp.Saga} {r : List Sp.Saga × Bytes × Bool} (hC : ¬(ok = true ∧ 0 < n)) (h : rdSagas f n s ok acc = r) : (acc, s, ok) = r := by
  cases f with
  | zero => exact h
  | succ f => rw [rdSagas, if_neg hC] at h; exact h
theorem rdPosts_stop {f : Nat} {n : Int} {s : Bytes} {ok : Bool} {acc : List Sp.Posting} {r : List Sp.Posting × Bytes × Bool} (hC : ¬(ok = true ∧ 0 < n)) (h : rdPosts f n s ok acc = r) : (acc, s, ok) = r := by
  cases f with
  | zero => exact h
  | succ f => rw [rdPosts, if_neg hC] at h; exact h
def RelS (w : World) (p X len : Nat) (tgt : List Sp.Saga × Bytes × Bool) (x : Value) (wr : World) : Prop :=
  ∃ (n : Int) (sx : Bytes) (ok : Bool) (acc : List Sp.Saga) (vs : Value) (f : Nat), x = .int .u64 n ∧ 0 ≤ n ∧ n ≤ 18446744073709551615 ∧
    PSt w p X ⟨acc, [], Sp.noStmt, Sp.noStmt, Sp.noStmt⟩ vs (.slice none 0 0) (.slice none 0 0) (.slice none 0 0) (.slice none 0 0) sx ok wr ∧
    rdSagas f n sx ok acc = tgt ∧ (ok = true → sx.length < f) ∧ sx.length ≤ len ∧ acc.length ≤ len + 1 ∧ (ok = true → acc.length + sx.length ≤ len)
theorem PSt.start {w w1 : World} {p : Nat} {s1 : Bytes} {k1 : Bool} (hpl : p < w.heap.size) (hp0 : 2 < p) (hpar : Parties w) (hg : ((w.alloc (.cells zero11 87)).alloc (.cells zero11 87)).grownBy w1 (some p)) (hr : Rd w1 p s1 k1) :
    PSt w p (w.heap.size + 1) ⟨[], [], Sp.noStmt, Sp.noStmt, Sp.noStmt⟩ (.slice none 0 0) (.slice none 0 0) (.slice none 0 0) (.slice none 0 0) (.slice none 0 0) s1 k1 w1 := by
  have hgg : w.grownBy w1 (some p) := ⟨hg.os, hg.tape, hg.output, by have := hg.size; simp at this; omega, fun k hk hne => (hg.block k (by simp; omega) hne).trans ((Below.heap_alloc _ _ _ (by simp; omega)).trans (Below.heap_alloc _ _ _ hk))⟩
  refine ⟨hgg, hr, ?_, ?_, World.ownsRow_nil _ _ _ _, World.ownsRow_nil _ _ _ _, .inl ⟨rfl, rfl⟩, .inl ⟨rfl, rfl⟩, .inl ⟨rfl, rfl⟩, parties_other hpar hp0 hgg, ⟨hpl, Nat.lt_succ_self _, hp0⟩, ⟨_, _, _, rfl⟩⟩
  · rw [hg.block _ (by simp) (by simp; omega)]; exact heap_at (by simp)
  · rw [hg.block _ (by simp; omega) (by simp; omega)]; exact heap_past (heap_at rfl)
def held7 (B X : Nat) (v : Value) (o : Sp.Order) (W : World) : Prop := W.cell? ⟨X, 0, none⟩ = some v ∧ W.frozen? ⟨X, 0, none⟩ = false ∧ W.cell? ⟨B, 0, none⟩ = some (.int .i64 o.id) ∧ W.cell? ⟨B, 1, none⟩ = some (.string (str o.ref)) ∧ W.cell? ⟨B, 2, none⟩ = some (.string (str o.sku)) ∧ W.cell? ⟨B, 3, none⟩ = some (.int .i64 o.qty) ∧ W.cell? ⟨B, 4, none⟩ = some (.int .i64 o.amount)
theorem held7.next {W W' : World} {B X : Nat} {v : Value} {o : Sp.Order} {row : Option Nat} (h : held7 B X v o W) (hg : W.grownBy W' row) (hX : some X ≠ row) (hB : some B ≠ row) : held7 B X v o W' := by
  obtain ⟨h0, h1, h2, h3, h4, h5, h6⟩ := h
  have hXl := World.block_lt_of_cell? W _ h0
  exact ⟨hg.cell h0 hX, by rw [World.frozen?_of_block (w := W) (a := ⟨X, 0, none⟩) (hg.block X hXl hX)]; exact h1, hg.cell h2 hB, hg.cell h3 hB, hg.cell h4 hB, hg.cell h5 hB, hg.cell h6 hB⟩
theorem PSt.drew {w W : World} {p X : Nat} {pt : Parts} {vs vp u0 u1 u2 : Value} {s : Bytes} {ok : Bool} (h : PSt w p X pt vs vp u0 u1 u2 s ok W) : PSt w p X pt vs vp u0 u1 u2 s ok W.drew := h.low (Below.refl _ _).drew
theorem PSt.setOk {w W : World} {p X : Nat} {pt : Parts} {vs vp u0 u1 u2 : Value} {s : Bytes} {ok : Bool} (h : PSt w p X pt vs vp u0 u1 u2 s ok W) (k : Bool) : PSt w p X pt vs vp u0 u1 u2 s k (W.setCell ⟨p, 1, none⟩ (.bool k)) := by
  have hg : W.grownBy (W.setCell ⟨p, 1, none⟩ (.bool k)) (some p) := grown_setCell _ _ _ _
  refine h.read hg ?_ (parties_other h.par h.ord.2.2 hg)
  have := h.rd
  unfold Rd at *
  rw [row?_setCell, if_pos rfl, this]; rfl
theorem PSt.saga {w W W' : World} {p X : Nat} {acc : List Sp.Saga} {posts : List Sp.Posting} {vs vp v1 : Value} {s : Bytes} {ok : Bool} {x : Sp.Saga} (h : PSt w p X ⟨acc, posts, Sp.noStmt, Sp.noStmt, Sp.noStmt⟩ vs vp (.slice none 0 0) (.slice none 0 0) (.slice none 0 0) s ok W)
    (hg : W.grownBy W' vs.ownBlock) (ho : W'.ownsRow (X + 1) 89 12 v1 (acc.length + 1) (acc.flatMap sagaCells ++ sagaCells x)) :
    PSt w p X ⟨acc ++ [x], posts, Sp.noStmt, Sp.noStmt, Sp.noStmt⟩ v1 vp (.slice none 0 0) (.slice none 0 0) (.slice none 0 0) s ok (W'.setCell ⟨X, 0, none⟩ v1) := by
  obtain ⟨hp0, hp1, hp2⟩ := h.ord
  have hne : ∀ k, k ≤ X → some k ≠ vs.ownBlock := fun k hk e => own_not h.sagas (Nat.lt_succ_of_le hk) e.symm
  have old : ∀ k, k < W.heap.size → k < X → (W'.setCell ⟨X, 0, none⟩ v1).heap[k]? = W.heap[k]? := fun k hk hx => by
    rw [Below.heap_setCell _ _ _ _ (by simp; omega)]; exact hg.block k hk (hne k (by omega))
  have hXl := (Array.getElem?_eq_some_iff.1 h.box).1
  have hw := h.grown.size
  have hbox : W'.heap[X]? = _ := (hg.block X hXl (hne X (Nat.le_refl _))).trans h.box
  obtain ⟨z1, z2, z3⟩ := own_slice' ho
  refine ⟨⟨hg.os.trans h.grown.os, hg.tape.trans h.grown.tape, hg.output.trans h.grown.output, by have := hg.size; simp [World.setCell]; omega, fun k hk hkp => (old k (by omega) (by omega)).trans (h.grown.block k hk hkp)⟩, ?_, setCell_row hbox 0 v1, (old _ (by omega) hp1).trans h.res, ?_, ?_, .inl ⟨rfl, rfl⟩, .inl ⟨rfl, rfl⟩, .inl ⟨rfl, rfl⟩, ?_, h.ord, ⟨_, _, _, z3⟩⟩
  · have := h.rd
    unfold Rd at *
    rw [row?_congr (old p (by omega) (by omega))]; exact this
  · have := ownsRow_setCell_below ho (a := ⟨X, 0, none⟩) (Nat.lt_succ_self X) v1
    simpa using this
  · refine own_same h.posts (fun k hk => ?_)
    obtain ⟨cc, hc⟩ := own_block h.posts hk
    have hlt := (Array.getElem?_eq_some_iff.1 hc).1
    have hkX := (h.posts.lt k hk).1
    rw [Below.heap_setCell _ _ _ _ (by simp; omega)]
    refine hg.block k hlt (fun e => ?_)
    obtain ⟨c2, hc2⟩ := own_block h.sagas e.symm
    exact ne_of_types hc hc2 (by decide) rfl
  · intro i hi
    have h1 := h.par i hi
    have hlt := World.block_lt_of_cell? W _ h1
    rw [World.cell?_of_block (old _ hlt (by simp; omega))]; exact h1
def RelP (w : World) (p X len : Nat) (vs : Value) (sg : List Sp.Saga) (tgt : List Sp.Posting × Bytes × Bool) (x : Value) (wr : World) : Prop :=
  ∃ (n : Int) (sx : Bytes) (ok : Bool) (acc : List Sp.Posting) (vp : Value) (f : Nat), x = .int .u64 n ∧ 0 ≤ n ∧ n ≤ 18446744073709551615 ∧
    PSt w p X ⟨sg, acc, Sp.noStmt, Sp.noStmt, Sp.noStmt⟩ vs vp (.slice none 0 0) (.slice none 0 0) (.slice none 0 0) sx ok wr ∧
    rdPosts f n sx ok acc = tgt ∧ (ok = true → sx.length < f) ∧ sx.length ≤ len ∧ acc.length ≤ len + 1 ∧ (ok = true → acc.length + sx.length ≤ len)
theorem PSt.post {w W W' : World} {p X : Nat} {acc : List Sp.Posting} {sg : List Sp.Saga} {vs vp v1 : Value} {s : Bytes} {ok : Bool} {x : Sp.Posting} (h : PSt w p X ⟨sg, acc, Sp.noStmt, Sp.noStmt, Sp.noStmt⟩ vs vp (.slice none 0 0) (.slice none 0 0) (.slice none 0 0) s ok W)
    (hg : W.grownBy W' vp.ownBlock) (ho : W'.ownsRow (X + 1) 92 5 v1 (acc.length + 1) (acc.flatMap postCells ++ postCells x)) :
    PSt w p X ⟨sg, acc ++ [x], Sp.noStmt, Sp.noStmt, Sp.noStmt⟩ vs v1 (.slice none 0 0) (.slice none 0 0) (.slice none 0 0) s ok (W'.setCell ⟨X, 1, none⟩ v1) := by
  obtain ⟨hp0, hp1, hp2⟩ := h.ord
  have hne : ∀ k, k ≤ X → some k ≠ vp.ownBlock := fun k hk e => own_not h.posts (Nat.lt_succ_of_le hk) e.symm
  have old : ∀ k, k < W.heap.size → k < X → (W'.setCell ⟨X, 1, none⟩ v1).heap[k]? = W.heap[k]? := fun k hk hx => by
    rw [Below.heap_setCell _ _ _ _ (by simp; omega)]; exact hg.block k hk (hne k (by omega))
  have hXl := (Array.getElem?_eq_some_iff.1 h.box).1
  have hw := h.grown.size
  have hbox : W'.heap[X]? = _ := (hg.block X hXl (hne X (Nat.le_refl _))).trans h.box
  refine ⟨⟨hg.os.trans h.grown.os, hg.tape.trans h.grown.tape, hg.output.trans h.grown.output, by have := hg.size; simp [World.setCell]; omega, fun k hk hkp => (old k (by omega) (by omega)).trans (h.grown.block k hk hkp)⟩, ?_, setCell_row hbox 1 v1, (old _ (by omega) hp1).trans h.res, ?_, ?_, .inl ⟨rfl, rfl⟩, .inl ⟨rfl, rfl⟩, .inl ⟨rfl, rfl⟩, ?_, h.ord, h.slice⟩
  · have := h.rd
    unfold Rd at *
    rw [row?_congr (old p (by omega) (by omega))]; exact this
  · refine own_same h.sagas (fun k hk => ?_)
    obtain ⟨cc, hc⟩ := own_block h.sagas hk
    have hlt := (Array.getElem?_eq_some_iff.1 hc).1
    have hkX := (h.sagas.lt k hk).1
    rw [Below.heap_setCell _ _ _ _ (by simp; omega)]
    refine hg.block k hlt (fun e => ?_)
    obtain ⟨c2, hc2⟩ := own_block h.posts e.symm
    exact ne_of_types hc hc2 (by decide) rfl
  · have := ownsRow_setCell_below ho (a := ⟨X, 1, none⟩) (Nat.lt_succ_self X) v1
    simpa using this
  · intro i hi
    have h1 := h.par i hi
    have hlt := World.block_lt_of_cell? W _ h1
    rw [World.cell?_of_block (old _ hlt (by simp; omega))]; exact h1
theorem held2 {W W' : World} {X : Nat} {v : Value} {row : Option Nat} (h : W.cell? ⟨X, 1, none⟩ = some v ∧ W.frozen? ⟨X, 1, none⟩ = false) (hg : W.grownBy W' row) (hX : some X ≠ row) : W'.cell? ⟨X, 1, none⟩ = some v ∧ W'.frozen? ⟨X, 1, none⟩ = false := by
  obtain ⟨h0, h1⟩ := h
  have hXl := World.block_lt_of_cell? W _ h0
  exact ⟨hg.cell h0 hX, by rw [World.frozen?_of_block (w := W) (a := ⟨X, 1, none⟩) (hg.block X hXl hX)]; exact h1⟩
theorem rdPost_rest (s : Bytes) (ok : Bool) : (rdPost s ok).2.1.length ≤ s.length ∧ ((rdPost s ok).2.2 = true → (rdPost s ok).2.1.length < s.length) := by
  have e : (rdPost s ok).2.1 = (rdText s ok).2.1 := rfl
  rw [e]
  refine ⟨by have := rdText_len s ok; omega, fun h => ?_⟩
  rcases hh : rdText s ok with ⟨a, t, k⟩
  have h2 : (rdPost s ok).2.2 = (k && ((rdPost s ok).2.2)) := by
    simp only [rdPost, hh]
    cases k <;> simp
  rw [h] at h2
  have hk : k = true := by simpa using h2.symm
  subst hk
  exact (rdText_ok hh).2
theorem PSt.st0 {w W : World} {p X : Nat} {acc : List Sp.Posting} {sg : List Sp.Saga} {s0 s1 s2 r : Sp.Stmt} {vs vp u0 u1 u2 v : Value} {s : Bytes} {ok : Bool} (h : PSt w p X ⟨sg, acc, s0, s1, s2⟩ vs vp u0 u1 u2 s ok W) (hr : RowsAt W v r.rows) :
    PSt w p X ⟨sg, acc, r, s1, s2⟩ vs vp v u1 u2 s ok (((W.setCell ⟨X, 2, none⟩ (.int .i64 r.party)).setCell ⟨X, 3, none⟩ (.int .i64 r.seq)).setCell ⟨X, 4, none⟩ v) := by
  obtain ⟨hp0, hp1, hp2⟩ := h.ord
  have hX0 := cells_at h.box 0
  have hsl : ∀ n, vs ≠ .int .i64 n := by obtain ⟨_, _, _, e⟩ := h.slice; rw [e]; simp
  have hgX : W.grownBy (((W.setCell ⟨X, 2, none⟩ (.int .i64 r.party)).setCell ⟨X, 3, none⟩ (.int .i64 r.seq)).setCell ⟨X, 4, none⟩ v) (some X) := ((grown_setCell _ _ _ _).trans (grown_setCell _ _ _ _)).trans (grown_setCell _ _ _ _)
  have old : ∀ k, k < W.heap.size → k ≠ X → (((W.setCell ⟨X, 2, none⟩ (.int .i64 r.party)).setCell ⟨X, 3, none⟩ (.int .i64 r.seq)).setCell ⟨X, 4, none⟩ v).heap[k]? = W.heap[k]? := fun k hk hne => hgX.block k hk (fun e => hne (Option.some.inj e))
  have hw := h.grown.size
  refine ⟨⟨hgX.os.trans h.grown.os, hgX.tape.trans h.grown.tape, hgX.output.trans h.grown.output, Nat.le_trans h.grown.size hgX.size, fun k hk hkp => (old k (by omega) (by omega)).trans (h.grown.block k hk hkp)⟩, h.rd.kept hgX (by omega), setCell_row (setCell_row (setCell_row h.box 2 _) 3 _) 4 _, (old _ (Array.getElem?_eq_some_iff.1 h.res).1 (by omega)).trans h.res,
    h.sagas.kept hgX (.inr (own_not h.sagas (by omega))), h.posts.kept hgX (.inr (own_not h.posts (by omega))), ?_, ?_, ?_, ?_, h.ord, h.slice⟩
  · exact rowsAt_other hr hX0 hsl hgX
  · exact rowsAt_other h.r1 hX0 hsl hgX
  · exact rowsAt_other h.r2 hX0 hsl hgX
  · intro i hi
    have h1 := h.par i hi
    have hlt := World.block_lt_of_cell? W _ h1
    rw [World.cell?_of_block (old _ hlt (by simp; omega))]; exact h1
theorem PSt.st1 {w W : World} {p X : Nat} {acc : List Sp.Posting} {sg : List Sp.Saga} {s0 s1 s2 r : Sp.Stmt} {vs vp u0 u1 u2 v : Value} {s : Bytes} {ok : Bool} (h : PSt w p X ⟨sg, acc, s0, s1, s2⟩ vs vp u0 u1 u2 s ok W) (hr : RowsAt W v r.rows) :
    PSt w p X ⟨sg, acc, s0, r, s2⟩ vs vp u0 v u2 s ok (((W.setCell ⟨X, 5, none⟩ (.int .i64 r.party)).setCell ⟨X, 6, none⟩ (.int .i64 r.seq)).setCell ⟨X, 7, none⟩ v) := by
  obtain ⟨hp0, hp1, hp2⟩ := h.ord
  have hX0 := cells_at h.box 0
  have hsl : ∀ n, vs ≠ .int .i64 n := by obtain ⟨_, _, _, e⟩ := h.slice; rw [e]; simp
  have hgX : W.grownBy (((W.setCell ⟨X, 5, none⟩ (.int .i64 r.party)).setCell ⟨X, 6, none⟩ (.int .i64 r.seq)).setCell ⟨X, 7, none⟩ v) (some X) := ((grown_setCell _ _ _ _).trans (grown_setCell _ _ _ _)).trans (grown_setCell _ _ _ _)
  have old : ∀ k, k < W.heap.size → k ≠ X → (((W.setCell ⟨X, 5, none⟩ (.int .i64 r.party)).setCell ⟨X, 6, none⟩ (.int .i64 r.seq)).setCell ⟨X, 7, none⟩ v).heap[k]? = W.heap[k]? := fun k hk hne => hgX.block k hk (fun e => hne (Option.some.inj e))
  have hw := h.grown.size
  refine ⟨⟨hgX.os.trans h.grown.os, hgX.tape.trans h.grown.tape, hgX.output.trans h.grown.output, Nat.le_trans h.grown.size hgX.size, fun k hk hkp => (old k (by omega) (by omega)).trans (h.grown.block k hk hkp)⟩, h.rd.kept hgX (by omega), setCell_row (setCell_row (setCell_row h.box 5 _) 6 _) 7 _, (old _ (Array.getElem?_eq_some_iff.1 h.res).1 (by omega)).trans h.res,
    h.sagas.kept hgX (.inr (own_not h.sagas (by omega))), h.posts.kept hgX (.inr (own_not h.posts (by omega))), ?_, ?_, ?_, ?_, h.ord, h.slice⟩
  · exact rowsAt_other h.r0 hX0 hsl hgX
  · exact rowsAt_other hr hX0 hsl hgX
  · exact rowsAt_other h.r2 hX0 hsl hgX
  · intro i hi
    have h1 := h.par i hi
    have hlt := World.block_lt_of_cell? W _ h1
    rw [World.cell?_of_block (old _ hlt (by simp; omega))]; exact h1
theorem PSt.st2 {w W : World} {p X : Nat} {acc : List Sp.Posting} {sg : List Sp.Saga} {s0 s1 s2 r : Sp.Stmt} {vs vp u0 u1 u2 v : Value} {s : Bytes} {ok : Bool} (h : PSt w p X ⟨sg, acc, s0, s1, s2⟩ vs vp u0 u1 u2 s ok W) (hr : RowsAt W v r.rows) :
    PSt w p X ⟨sg, acc, s0, s1, r⟩ vs vp u0 u1 v s ok (((W.setCell ⟨X, 8, none⟩ (.int .i64 r.party)).setCell ⟨X, 9, none⟩ (.int .i64 r.seq)).setCell ⟨X, 10, none⟩ v) := by
  obtain ⟨hp0, hp1, hp2⟩ := h.ord
  have hX0 := cells_at h.box 0
  have hsl : ∀ n, vs ≠ .int .i64 n := by obtain ⟨_, _, _, e⟩ := h.slice; rw [e]; simp
  have hgX : W.grownBy (((W.setCell ⟨X, 8, none⟩ (.int .i64 r.party)).setCell ⟨X, 9, none⟩ (.int .i64 r.seq)).setCell ⟨X, 10, none⟩ v) (some X) := ((grown_setCell _ _ _ _).trans (grown_setCell _ _ _ _)).trans (grown_setCell _ _ _ _)
  have old : ∀ k, k < W.heap.size → k ≠ X → (((W.setCell ⟨X, 8, none⟩ (.int .i64 r.party)).setCell ⟨X, 9, none⟩ (.int .i64 r.seq)).setCell ⟨X, 10, none⟩ v).heap[k]? = W.heap[k]? := fun k hk hne => hgX.block k hk (fun e => hne (Option.some.inj e))
  have hw := h.grown.size
  refine ⟨⟨hgX.os.trans h.grown.os, hgX.tape.trans h.grown.tape, hgX.output.trans h.grown.output, Nat.le_trans h.grown.size hgX.size, fun k hk hkp => (old k (by omega) (by omega)).trans (h.grown.block k hk hkp)⟩, h.rd.kept hgX (by omega), setCell_row (setCell_row (setCell_row h.box 8 _) 9 _) 10 _, (old _ (Array.getElem?_eq_some_iff.1 h.res).1 (by omega)).trans h.res,
    h.sagas.kept hgX (.inr (own_not h.sagas (by omega))), h.posts.kept hgX (.inr (own_not h.posts (by omega))), ?_, ?_, ?_, ?_, h.ord, h.slice⟩
  · exact rowsAt_other h.r0 hX0 hsl hgX
  · exact rowsAt_other h.r1 hX0 hsl hgX
  · exact rowsAt_other hr hX0 hsl hgX
  · intro i hi
    have h1 := h.par i hi
    have hlt := World.block_lt_of_cell? W _ h1
    rw [World.cell?_of_block (old _ hlt (by simp; omega))]; exact h1
def RelT (w : World) (p X : Nat) (vs vp : Value) (sg : List Sp.Saga) (ps : List Sp.Posting) (t0 t1 t2 : Sp.Stmt) (b b0 b1 b2 : Bytes) (kb kk0 kk1 kk2 : Bool) (x : Value) (wr : World) : Prop :=
  (x = .int .i64 0 ∧ PSt w p X ⟨sg, ps, Sp.noStmt, Sp.noStmt, Sp.noStmt⟩ vs vp (.slice none 0 0) (.slice none 0 0) (.slice none 0 0) b kb wr) ∨ (∃ u0, x = .int .i64 1 ∧ PSt w p X ⟨sg, ps, t0, Sp.noStmt, Sp.noStmt⟩ vs vp u0 (.slice none 0 0) (.slice none 0 0) b0 kk0 wr) ∨ (∃ u0 u1, x = .int .i64 2 ∧ PSt w p X ⟨sg, ps, t0, t1, Sp.noStmt⟩ vs vp u0 u1 (.slice none 0 0) b1 kk1 wr) ∨ (∃ u0 u1 u2, x = .int .i64 3 ∧ PSt w p X ⟨sg, ps, t0, t1, t2⟩ vs vp u0 u1 u2 b2 kk2 wr)
theorem rdStmt_len (s : Bytes) (ok : Bool) : (rdStmt s ok).2.1.length ≤ s.length := by
  unfold rdStmt
  have := rdText_len s ok
  dsimp only
  split <;> simp only <;> omega
theorem ne_nil_beq {tx : Bytes} (he : tx ≠ []) : (tx == []) = false := by cases tx <;> simp_all
def ReadParts (w : World) (p : Nat) (s : Bytes) (e : Ending) (w' : World) : Prop :=
  ∃ (vs vp u0 u1 u2 : Value), e = .returned (.agg #[vs, vp, .int .i64 (rdParts s).1.s0.party, .int .i64 (rdParts s).1.s0.seq, u0, .int .i64 (rdParts s).1.s1.party, .int .i64 (rdParts s).1.s1.seq, u1, .int .i64 (rdParts s).1.s2.party, .int .i64 (rdParts s).1.s2.seq, u2]) ∧
    SagasAt w' vs (rdParts s).1.sagas ∧ Slc postCells 5 w' vp (rdParts s).1.posts ∧ RowsAt w' u0 (rdParts s).1.s0.rows ∧ RowsAt w' u1 (rdParts s).1.s1.rows ∧ RowsAt w' u2 (rdParts s).1.s2.rows ∧
    w.grownBy w' (some p) ∧ Rd w' p (rdParts s).2.1 (rdParts s).2.2
theorem ReadParts.mk {w W W' : World} {p X : Nat} {s sx : Bytes} {ok : Bool} {sg : List Sp.Saga} {ps : List Sp.Posting} {t0 t1 t2 : Sp.Stmt} {vs vp u0 u1 u2 : Value} (hD : rdParts s = (⟨sg, ps, t0, t1, t2⟩, sx, ok)) (h : PSt w p X ⟨sg, ps, t0, t1, t2⟩ vs vp u0 u1 u2 sx ok W) (hg : W.grownBy W' (some w.heap.size)) :
    ReadParts w p s (.returned (.agg #[vs, vp, .int .i64 t0.party, .int .i64 t0.seq, u0, .int .i64 t1.party, .int .i64 t1.seq, u1, .int .i64 t2.party, .int .i64 t2.seq, u2])) W' := by
  obtain ⟨hp0, hp1, hp2⟩ := h.ord
  have hX0 : W.cell? ⟨w.heap.size, 0, none⟩ = some (.slice none 0 0) := cells_at h.res 0
  have hw := h.grown.size
  unfold ReadParts
  rw [hD]
  refine ⟨vs, vp, u0, u1, u2, rfl, slc_of_own sagaCells_len (by omega) (h.sagas.kept hg (.inr (own_not h.sagas (by omega)))), slc_of_own postCells_len (by omega) (h.posts.kept hg (.inr (own_not h.posts (by omega)))), rowsAt_other h.r0 hX0 (by simp) hg, rowsAt_other h.r1 hX0 (by simp) hg, rowsAt_other h.r2 hX0 (by simp) hg, ?_, h.rd.kept hg (by omega)⟩
  exact ⟨hg.os.trans h.grown.os, hg.tape.trans h.grown.tape, hg.output.trans h.grown.output, Nat.le_trans h.grown.size hg.size, fun k hk hkp => (hg.block k (by omega) (by simp; omega)).trans (h.grown.block k hk hkp)⟩
theorem rdParts_def {s s1 sx s3 s4 b0 b1 b2 : Bytes} {k1 ok k3 k4 kk0 kk1 kk2 : Bool} {n0 m0 : Int} {sg : List Sp.Saga} {ps : List Sp.Posting} {t0 t1 t2 : Sp.Stmt} (h1 : rdNum s true = (n0, s1, k1)) (h2 : rdSagas (s.length + 1) n0 s1 k1 [] = (sg, sx, ok)) (h3 : rdNum sx ok = (m0, s3, k3))
    (h4 : rdPosts (s.length + 1) m0 s3 k3 [] = (ps, s4, k4)) (h5 : rdStmt s4 k4 = (t0, b0, kk0)) (h6 : rdStmt b0 kk0 = (t1, b1, kk1)) (h7 : rdStmt b1 kk1 = (t2, b2, kk2)) : rdParts s = (⟨sg, ps, t0, t1, t2⟩, b2, kk2) := by
  simp only [rdParts, h1, h2, h3, h4, h5, h6, h7]
set_option maxRecDepth 100000 in
set_option maxHeartbeats 8000000 in
theorem readParts_any (p : Nat) (s : Bytes) (w : World) (hp : Rd w p s true) (hs : s.length ≤ 1000000) (hpar : Parties w) (hp0 : 2 < p) :
    Calls Tryz.prog 46 #[.pointer (some ⟨p, 0, none⟩)] w (ReadParts w p s) := by
  rcases h1 : rdNum s true with ⟨n0, s1, k1⟩
  obtain ⟨q1, q11, q12⟩ : s1.length ≤ s.length ∧ 0 ≤ n0 ∧ n0 ≤ 18446744073709551615 := by have := rdNum_len s true; rw [h1] at this; exact this
  rcases h2 : rdSagas (s.length + 1) n0 s1 k1 [] with ⟨sg', s2', k2'⟩
  replace h1 := Lib.hid h1
  replace h2 := Lib.hid h2
  have hpl := row?_lt hp
  replace hp := Lib.hid hp
  replace hpar := Lib.hid hpar
  go_enter Tryz.func46, Tryz.ntmps46
  go_wp2_with fail
  refine Calls.mono (snapNum_any p s true _ ((hp.out.alloc _).alloc _) (by omega)) ?_
  rw [h1.out]
  rintro e w1 ⟨rfl, hg1, hrd1⟩
  simp only
  have hP1 := PSt.start hpl hp0 hpar.out hg1 hrd1
  clear hg1 hrd1 hp
  go_wp2
  go_loopw [4] (fun x wr => RelS w p (w.heap.size + 1) s.length (sg', s2', k2') x wr) (fun x _ => (intOf x).toNat)
  case atStart => exact ⟨n0, s1, k1, [], .slice none 0 0, s.length + 1, rfl, q11, q12, hP1, h2.out, fun _ => by omega, q1, by simp, fun _ => by simpa using q1⟩
  case round =>
    obtain ⟨n, sx, ok, acc, vs, f, rfl, hn0, hn1, hP, HR, hf, hsl, hal, hal2⟩ := hrel
    obtain ⟨cp0, cp1, fp0, fp1, lp⟩ := hP.cells
    by_cases hC : ok = true ∧ 0 < n
    · obtain ⟨rfl, hn⟩ := hC
      have hf1 := hf rfl
      have hal3 := hal2 rfl
      obtain ⟨f, rfl⟩ : ∃ g, f = g + 1 := ⟨f - 1, by omega⟩
      rw [rdSagas, if_pos ⟨rfl, hn⟩] at HR
      rcases h1 : rdText sx true with ⟨tx, s1, k1⟩
      have q1 : tx.length + s1.length ≤ sx.length := by have := rdText_len sx true; rw [h1] at this; exact this
      rcases h2 : rdNum s1 k1 with ⟨dn, s2, k2⟩
      obtain ⟨q2, q21, q22⟩ : s2.length ≤ s1.length ∧ 0 ≤ dn ∧ dn ≤ 18446744073709551615 := by have := rdNum_len s1 k1; rw [h2] at this; exact this
      have hdec : k2 = true → s2.length < s1.length ∧ s1.length < sx.length := by
        rintro rfl
        obtain ⟨rfl, h⟩ := rdNum_ok h2
        exact ⟨h, (rdText_ok h1).2⟩
      simp only [h1, h2] at HR
      replace h1 := Lib.hid h1
      replace h2 := Lib.hid h2
      have HO := fun W => orderGet_any tx W (by omega)
      unfold orderGetRes at HO
      generalize (orderGet tx).getD orderZero = o at HO HR
      have HU := fun W => undeeds_any o dn W q21 q22
      obtain ⟨id, ref, sku, qty, amount⟩ := o
      simp only [orderVal] at HO HU
      generalize undeeds ⟨id, ref, sku, qty, amount⟩ dn = sg at HU HR
      obtain ⟨⟨sid, sref, ssku, sqty, samount⟩, e0, e1, e2, e3, e4, e5, can⟩ := sg
      simp only [sagaVal] at HU
      replace HU := Lib.hid HU
      generalize (orderGet tx).isSome = good at HO HR
      obtain ⟨er, her⟩ : ∃ er : Int, er = if good = true then 0 else 10 := ⟨_, rfl⟩
      rw [← her] at HO
      have hgood : good = decide (er = 0) := by cases good <;> simp [her]
      clear her
      replace HO := Lib.hid HO
      replace HR := Lib.hid HR
      have hlen : sx.length ≤ 1000000 := by omega
      replace hP := Lib.hid hP
      replace hdec := Lib.hid hdec
      replace hf1 := Lib.hid hf1
      clear hf hal2
      go_wp2_with fail
      refine Calls.mono (snapText_any p sx true _ hP.out.rd (by omega)) ?_
      rw [h1.out]; rintro e w1 ⟨rfl, hg1, hrd1⟩; simp only
      have hP1 := hP.out.read hg1 hrd1 (parties_other hP.out.par hp0 hg1)
      clear hg1 hrd1
      replace hP1 := Lib.hid hP1
      go_wp2_with fail
      refine Calls.mono (HO.out w1) ?_
      rintro e w2 ⟨rfl, hb2⟩
      simp only
      have hP2 := hP1.out.low hb2
      clear hb2
      obtain ⟨q1', q3', rfl⟩ := own_slice' hP2.sagas
      replace hP2 := Lib.hid hP2
      go_wp2
      have hP3 := hP2.out.low (alloc_grew w2 (.cells #[.int .i64 id, .string (str ref), .string (str sku), .int .i64 qty, .int .i64 amount] 32))
      have hPd := hP3.drew
      have hH : held7 w2.heap.size (w.heap.size + 1) (.slice q1' acc.length q3') ⟨id, ref, sku, qty, amount⟩ (w2.alloc (.cells #[.int .i64 id, .string (str ref), .string (str sku), .int .i64 qty, .int .i64 amount] 32)).drew := by
        have hc := cells_at (heap_alloc_new w2 (.cells #[.int .i64 id, .string (str ref), .string (str sku), .int .i64 qty, .int .i64 amount] 32))
        exact ⟨cells_at hPd.box 0, frozen_at hPd.box 0, hc 0, hc 1, hc 2, hc 3, hc 4⟩
      have hXp := Lib.hid (show some (w.heap.size + 1) ≠ some p by simp; omega)
      have hBp := Lib.hid (show some w2.heap.size ≠ some p by have := hP2.out.cells.2.2.2.2; simp; omega)
      have hne1 : (Value.slice q1' acc.length q3').ownBlock ≠ some (w.heap.size + 1) := own_not hP2.out.sagas (Nat.lt_succ_self _)
      have hne2 : (Value.slice q1' acc.length q3').ownBlock ≠ some w2.heap.size := fun he => by have := (hP2.out.sagas.lt _ he).2; omega
      replace hne1 := Lib.hid hne1
      replace hne2 := Lib.hid hne2
      replace hPd := Lib.hid hPd
      clear hP3
      refine any_begin (S := (fun w' => w'.cell? ⟨w.heap.size + 1, 0, none⟩ = some (.slice q1' acc.length q3') ∧ w'.frozen? ⟨w.heap.size + 1, 0, none⟩ = false ∧ w'.cell? ⟨w2.heap.size, 0, none⟩ = some (.int .i64 id) ∧ w'.cell? ⟨w2.heap.size, 1, none⟩ = some (.string (str ref)) ∧ w'.cell? ⟨w2.heap.size, 2, none⟩ = some (.string (str sku)) ∧ w'.cell? ⟨w2.heap.size, 3, none⟩ = some (.int .i64 qty) ∧ w'.cell? ⟨w2.heap.size, 4, none⟩ = some (.int .i64 amount))) 9 (by kernel_rfl) ?_ (fun hHeld => ?_)
      focus (first | exact hH | exact held7.next (o := ⟨id, ref, sku, qty, amount⟩) (by assumption) (by assumption) hXp.out hBp.out | exact held7.next (o := ⟨id, ref, sku, qty, amount⟩) (by assumption) (grown_below (by assumption) none) (by simp) (by simp) | exact held7.next (o := ⟨id, ref, sku, qty, amount⟩) (by assumption) (World.grownBy_alloc _ _ none) (by simp) (by simp) | exact held7.next (o := ⟨id, ref, sku, qty, amount⟩) (by assumption) hgi hne1.out.symm hne2.out.symm)
      have hq := plan [0, 1, 2, 3]
      iterate 4 (refine tk hq ?_ rfl (by kernel_rfl) (by assumption) (by rfl) (fun _ _ _ h => h) ?hy ?_; (case hy => (intro w hSw; (try dsimp only at hSw); go_simp; (try with_reducible rfl))); replace hq := hq.tl; (try simp only [Act.put, yA, yB, yC]))
      clear hq
      refine ao 4 rfl (by kernel_rfl) (by rfl) (fun K hK => ?_)
      go_simp
      (first | (go_at_call 79; refine Calls.mono (HU.out _) ?_; rintro e wu ⟨rfl, hbu⟩; simp only) | (go_at_call 76; refine Calls.mono (snapNum_any p s1 k1 _ hPd.out.rd (by omega)) ?_; rw [h2.out]; rintro e wn ⟨rfl, hgn, hrdn⟩; simp only))
      refine hK.out _ _ ?_ (fun hHeld => ?_)
      focus (first | exact hH | exact held7.next (o := ⟨id, ref, sku, qty, amount⟩) (by assumption) (by assumption) hXp.out hBp.out | exact held7.next (o := ⟨id, ref, sku, qty, amount⟩) (by assumption) (grown_below (by assumption) none) (by simp) (by simp) | exact held7.next (o := ⟨id, ref, sku, qty, amount⟩) (by assumption) (World.grownBy_alloc _ _ none) (by simp) (by simp) | exact held7.next (o := ⟨id, ref, sku, qty, amount⟩) (by assumption) hgi hne1.out.symm hne2.out.symm)
      clear hK K
      (try simp only [Act.put, yA, yB, yC])
      refine ao 5 rfl (by kernel_rfl) (by rfl) (fun K hK => ?_)
      go_simp
      (first | (go_at_call 79; refine Calls.mono (HU.out _) ?_; rintro e wu ⟨rfl, hbu⟩; simp only) | (go_at_call 76; refine Calls.mono (snapNum_any p s1 k1 _ hPd.out.rd (by omega)) ?_; rw [h2.out]; rintro e wn ⟨rfl, hgn, hrdn⟩; simp only))
      refine hK.out _ _ ?_ (fun hHeld => ?_)
      focus (first | exact hH | exact held7.next (o := ⟨id, ref, sku, qty, amount⟩) (by assumption) (by assumption) hXp.out hBp.out | exact held7.next (o := ⟨id, ref, sku, qty, amount⟩) (by assumption) (grown_below (by assumption) none) (by simp) (by simp) | exact held7.next (o := ⟨id, ref, sku, qty, amount⟩) (by assumption) (World.grownBy_alloc _ _ none) (by simp) (by simp) | exact held7.next (o := ⟨id, ref, sku, qty, amount⟩) (by assumption) hgi hne1.out.symm hne2.out.symm)
      clear hK K
      (try simp only [Act.put, yA, yB, yC])
      refine ao 6 rfl (by kernel_rfl) (by rfl) (fun K hK => ?_)
      go_simp
      refine hK.out _ _ ?_ (fun hHeld => ?_)
      focus (first | exact hH | exact held7.next (o := ⟨id, ref, sku, qty, amount⟩) (by assumption) (by assumption) hXp.out hBp.out | exact held7.next (o := ⟨id, ref, sku, qty, amount⟩) (by assumption) (grown_below (by assumption) none) (by simp) (by simp) | exact held7.next (o := ⟨id, ref, sku, qty, amount⟩) (by assumption) (World.grownBy_alloc _ _ none) (by simp) (by simp) | exact held7.next (o := ⟨id, ref, sku, qty, amount⟩) (by assumption) hgi hne1.out.symm hne2.out.symm)
      clear hK K
      (try simp only [Act.put, yA, yB, yC])
      refine ao 7 rfl (by kernel_rfl) (by rfl) (fun K hK => ?_)
      have hPn := hPd.out.read hgn hrdn (parties_other hPd.out.par hp0 hgn); have hPu := hPn.low hbu; obtain ⟨v1, wi, hri, hoi, hgi, _⟩ := run_app1 (P := Tryz.prog) (W := wu) (w.heap.size + 1 + 1) 56 56 89 _ 12 112 Tryz.underlying56 info_saga rfl (by decide) (.slice q1' acc.length q3') acc.length (acc.flatMap sagaCells) #[.int .i64 sid, .string (str sref), .string (str ssku), .int .i64 sqty, .int .i64 samount, .int .i64 e0, .int .i64 e1, .int .i64 e2, .int .i64 e3, .int .i64 e4, .int .i64 e5, .bool can] rfl (by simp [Value.oneCell']) hPu.sagas (by have := (Array.getElem?_eq_some_iff.1 hPu.box).1; omega) (by omega) (by unfold maxLen; omega); obtain ⟨z1, z3, rfl⟩ := own_slice' hoi; replace hPu := Lib.hid hPu; refine wp_append (.tmp 32) (.tmp 37) rfl rfl rfl hri ?_
      refine hK.out _ _ ?_ (fun hHeld => ?_)
      focus (first | exact hH | exact held7.next (o := ⟨id, ref, sku, qty, amount⟩) (by assumption) (by assumption) hXp.out hBp.out | exact held7.next (o := ⟨id, ref, sku, qty, amount⟩) (by assumption) (grown_below (by assumption) none) (by simp) (by simp) | exact held7.next (o := ⟨id, ref, sku, qty, amount⟩) (by assumption) (World.grownBy_alloc _ _ none) (by simp) (by simp) | exact held7.next (o := ⟨id, ref, sku, qty, amount⟩) (by assumption) hgi hne1.out.symm hne2.out.symm)
      clear hK K
      (try simp only [Act.put, yA, yB, yC])
      have hq := plan [8]
      iterate 1 (refine tk hq ?_ rfl (by kernel_rfl) (by assumption) (by rfl) (fun _ _ _ h => h) ?hy ?_; (case hy => (intro w hSw; (try dsimp only at hSw); go_simp; (try with_reducible rfl))); replace hq := hq.tl; (try simp only [Act.put, yA, yB, yC]))
      clear hq
      refine al 9 rfl (by kernel_rfl) rfl (by rfl) (fun K hK => ?_)
      go_simp
      refine hK.out _ _ ?_
      clear hK K
      (try simp only [Act.put, yA, yB, yC])
      have hPi := PSt.saga (x := ⟨⟨sid, sref, ssku, sqty, samount⟩, e0, e1, e2, e3, e4, e5, can⟩) hPu.out hgi hoi
      generalize wi.setCell ⟨w.heap.size + 1, 0, none⟩ (.slice z1 (acc.length + 1) z3) = ws at hPi ⊢
      obtain ⟨cs0, cs1, fs0, fs1, ls⟩ := hPi.cells
      clear hri hoi hgi hP1 hP2 hPu hXp hBp hne1 hne2 hHeld
      replace hPi := Lib.hid hPi
      have hgood2 : k2 = true ∧ er = 0 ∨ k2 = true ∧ er ≠ 0 ∨ k2 = false := by cases k2 <;> simp; omega
      have HR' : ∀ b, b = (k2 && good) → rdSagas f (n - 1) s2 b (acc ++ [⟨⟨sid, sref, ssku, sqty, samount⟩, e0, e1, e2, e3, e4, e5, can⟩]) = (sg', s2', k2') := fun b hb => by rw [hb]; exact HR.out
      clear HR
      rcases hgood2 with ⟨rfl, rfl⟩ | ⟨rfl, her⟩ | rfl
      all_goals
        go_wp2
        refine ⟨⟨n - 1, s2, _, _, _, f, rfl, by omega, by omega, PSt.setOk hPi.out _, HR' _ ?_, ?_, by omega, ?_, ?_⟩, ?_⟩
        · first | (simp [hgood]; done) | (simp [hgood, her]; done) | (rw [hgood]; simp [her])
        · intro h
          first
            | (have := hdec.out rfl; have := hf1.out; omega)
            | (exfalso; simp at h)
        · rw [List.length_append]; simp; omega
        · intro h
          rw [List.length_append]
          first
            | (have := hdec.out rfl; simp; omega)
            | (exfalso; simp at h)
        · simp [intOf]; omega
    · have HS := rdSagas_stop hC HR
      simp only [Prod.mk.injEq] at HS
      obtain ⟨rfl, rfl, rfl⟩ := HS
      rcases h3 : rdNum sx ok with ⟨m0, s3, k3⟩
      obtain ⟨q3, q31, q32⟩ : s3.length ≤ sx.length ∧ 0 ≤ m0 ∧ m0 ≤ 18446744073709551615 := by have := rdNum_len sx ok; rw [h3] at this; exact this
      rcases h4 : rdPosts (s.length + 1) m0 s3 k3 [] with ⟨pg', s4', k4'⟩
      replace h3 := Lib.hid h3
      replace h4 := Lib.hid h4
      have hcase : ok = false ∨ ok = true ∧ n ≤ 0 := by
        cases ok
        · exact .inl rfl
        · exact .inr ⟨rfl, Int.not_lt.1 (fun h => hC ⟨rfl, h⟩)⟩
      have hvs := hP.slice
      replace hP := Lib.hid hP
      clear HR hf hal2 hal hP1
      rcases hcase with rfl | ⟨rfl, hcase⟩
      all_goals
        go_wp2_with fail
        refine Calls.mono (snapNum_any p sx _ _ hP.out.rd (by omega)) ?_
        rw [h3.out]; rintro e w1 ⟨rfl, hg1, hrd1⟩; simp only
        have hP1 := hP.out.read hg1 hrd1 (parties_other hP.out.par hp0 hg1)
        clear hg1 hrd1 hP
        go_wp2
        go_loopw [7] (fun x wr => RelP w p (w.heap.size + 1) s.length vs acc (pg', s4', k4') x wr) (fun x _ => (intOf x).toNat)
        case atStart => exact ⟨m0, s3, k3, [], .slice none 0 0, s.length + 1, rfl, q31, q32, hP1, h4.out, fun _ => by omega, by omega, by simp, fun _ => by simp; omega⟩
        case round =>
          obtain ⟨n, sx, ok, ac2, vp, f, rfl, hn0, hn1, hP, HR, hf, hsl, hal, hal2⟩ := hrel
          obtain ⟨cp0, cp1, fp0, fp1, lp⟩ := hP.cells
          by_cases hC : ok = true ∧ 0 < n
          · obtain ⟨rfl, hn⟩ := hC
            have hf1 := hf rfl
            have hal3 := hal2 rfl
            obtain ⟨f, rfl⟩ : ∃ g, f = g + 1 := ⟨f - 1, by omega⟩
            rw [rdPosts, if_pos ⟨rfl, hn⟩] at HR
            obtain ⟨q5, q51⟩ := rdPost_rest sx true
            have HG := fun W h => readPost_any p sx true W h (by omega)
            unfold ReadPost at HG
            generalize rdPost sx true = rp at q5 q51 HG HR
            obtain ⟨⟨id, order, debit, credit, amount⟩, s5, k5⟩ := rp
            simp only [postVal] at q5 q51 HG HR
            replace HG := Lib.hid HG
            replace HR := Lib.hid HR
            obtain ⟨q1', q3', rfl⟩ := own_slice' hP.posts
            have hPd := hP.drew
            have hH : wr.drew.cell? ⟨w.heap.size + 1, 1, none⟩ = some (.slice q1' ac2.length q3') ∧ wr.drew.frozen? ⟨w.heap.size + 1, 1, none⟩ = false := ⟨cells_at hPd.box 1, frozen_at hPd.box 1⟩
            have hXp := Lib.hid (show some (w.heap.size + 1) ≠ some p by simp; omega)
            have hne1 : (Value.slice q1' ac2.length q3').ownBlock ≠ some (w.heap.size + 1) := own_not hP.posts (Nat.lt_succ_self _)
            replace hne1 := Lib.hid hne1
            replace hP := Lib.hid hP
            replace hPd := Lib.hid hPd
            replace q51 := Lib.hid q51
            clear hf hal2
            go_wp2_with fail
            refine any_begin (S := (fun w' => w'.cell? ⟨w.heap.size + 1, 1, none⟩ = some (.slice q1' ac2.length q3') ∧ w'.frozen? ⟨w.heap.size + 1, 1, none⟩ = false)) 7 (by kernel_rfl) ?_ (fun hHeld => ?_)
            focus (first | exact hH | exact held2 (by assumption) (by assumption) hXp.out | exact held2 (by assumption) (World.grownBy_alloc _ _ none) (by simp) | exact held2 (by assumption) hgi hne1.out.symm)
            have hq := plan [0, 1, 2]
            iterate 3 (refine tk hq ?_ rfl (by kernel_rfl) (by assumption) (by rfl) (fun _ _ _ h => h) ?hy ?_; (case hy => (intro w hSw; (try dsimp only at hSw); go_simp; (try with_reducible rfl))); replace hq := hq.tl; (try simp only [Act.put, yA, yB, yC]))
            clear hq
            refine ao 3 rfl (by kernel_rfl) (by rfl) (fun K hK => ?_)
            go_simp
            (go_at_call 80; refine Calls.mono (HG.out _ hPd.out.rd) ?_; rintro e wn ⟨rfl, hgn, hrdn⟩; simp only)
            refine hK.out _ _ ?_ (fun hHeld => ?_)
            focus (first | exact hH | exact held2 (by assumption) (by assumption) hXp.out | exact held2 (by assumption) (World.grownBy_alloc _ _ none) (by simp) | exact held2 (by assumption) hgi hne1.out.symm)
            clear hK K
            (try simp only [Act.put, yA, yB, yC])
            refine ao 4 rfl (by kernel_rfl) (by rfl) (fun K hK => ?_)
            go_simp
            refine hK.out _ _ ?_ (fun hHeld => ?_)
            focus (first | exact hH | exact held2 (by assumption) (by assumption) hXp.out | exact held2 (by assumption) (World.grownBy_alloc _ _ none) (by simp) | exact held2 (by assumption) hgi hne1.out.symm)
            clear hK K
            (try simp only [Act.put, yA, yB, yC])
            refine ao 5 rfl (by kernel_rfl) (by rfl) (fun K hK => ?_)
            have hPn := hPd.out.read hgn hrdn (parties_other hPd.out.par hp0 hgn); obtain ⟨v1, wi, hri, hoi, hgi, _⟩ := run_app1 (P := Tryz.prog) (W := wn) (w.heap.size + 1 + 1) 64 64 92 _ 5 48 Tryz.underlying64 info_post rfl (by decide) (.slice q1' ac2.length q3') ac2.length (ac2.flatMap postCells) #[.string (str id), .int .i64 order, .int .i64 debit, .int .i64 credit, .int .i64 amount] rfl (by simp [Value.oneCell']) hPn.posts (by have := (Array.getElem?_eq_some_iff.1 hPn.box).1; omega) (by omega) (by unfold maxLen; omega); obtain ⟨z1, z3, rfl⟩ := own_slice' hoi; replace hPn := Lib.hid hPn; refine wp_append (.tmp 64) (.tmp 67) rfl rfl rfl hri ?_
            refine hK.out _ _ ?_ (fun hHeld => ?_)
            focus (first | exact hH | exact held2 (by assumption) (by assumption) hXp.out | exact held2 (by assumption) (World.grownBy_alloc _ _ none) (by simp) | exact held2 (by assumption) hgi hne1.out.symm)
            clear hK K
            (try simp only [Act.put, yA, yB, yC])
            have hq := plan [6]
            iterate 1 (refine tk hq ?_ rfl (by kernel_rfl) (by assumption) (by rfl) (fun _ _ _ h => h) ?hy ?_; (case hy => (intro w hSw; (try dsimp only at hSw); go_simp; (try with_reducible rfl))); replace hq := hq.tl; (try simp only [Act.put, yA, yB, yC]))
            clear hq
            refine al 7 rfl (by kernel_rfl) rfl (by rfl) (fun K hK => ?_)
            go_simp
            refine hK.out _ _ ?_
            clear hK K
            (try simp only [Act.put, yA, yB, yC])
            have hPi := PSt.post (x := ⟨id, order, debit, credit, amount⟩) hPn.out hgi hoi
            generalize wi.setCell ⟨w.heap.size + 1, 1, none⟩ (.slice z1 (ac2.length + 1) z3) = ws at hPi ⊢
            clear hri hoi hgi hgn hrdn hPn hXp hne1 hHeld hPd
            replace hPi := Lib.hid hPi
            go_wp2
            refine ⟨⟨n - 1, s5, k5, _, _, f, rfl, by omega, by omega, hPi.out, HR.out, ?_, by omega, ?_, ?_⟩, ?_⟩
            · intro h; have := q51.out h; omega
            · rw [List.length_append]; simp; omega
            · intro h; have := q51.out h; rw [List.length_append]; simp; omega
            · simp [intOf]; omega
          · have HS := rdPosts_stop hC HR
            simp only [Prod.mk.injEq] at HS
            obtain ⟨rfl, rfl, rfl⟩ := HS
            rcases hT0 : rdStmt sx ok with ⟨t0, b0, kk0⟩
            have q6 : b0.length ≤ sx.length := by have := rdStmt_len sx ok; rw [hT0] at this; exact this
            rcases hT1 : rdStmt b0 kk0 with ⟨t1, b1, kk1⟩
            have q7 : b1.length ≤ b0.length := by have := rdStmt_len b0 kk0; rw [hT1] at this; exact this
            rcases hT2 : rdStmt b1 kk1 with ⟨t2, b2, kk2⟩
            have q8 : b2.length ≤ b1.length := by have := rdStmt_len b1 kk1; rw [hT2] at this; exact this
            have hD := Lib.hid (rdParts_def h1.out h2.out h3.out h4.out hT0 hT1 hT2)
            replace hT0 := Lib.hid hT0
            replace hT1 := Lib.hid hT1
            replace hT2 := Lib.hid hT2
            have hcase : ok = false ∨ ok = true ∧ n ≤ 0 := by
              cases ok
              · exact .inl rfl
              · exact .inr ⟨rfl, Int.not_lt.1 (fun h => hC ⟨rfl, h⟩)⟩
            replace hP := Lib.hid hP
            clear HR hf hal2 hal
            obtain ⟨b, kb, hb, hkb⟩ : ∃ b kb, Hid (b = sx) ∧ Hid (kb = ok) := ⟨_, _, Lib.hid rfl, Lib.hid rfl⟩
            rw [← hb.out, ← hkb.out] at hP hT0
            have hbl : b.length ≤ sx.length := by rw [hb.out]; omega
            rcases hcase with rfl | ⟨rfl, hcase⟩
            all_goals
              go_wp2
              go_loopw [70] (fun x wr => RelT w p (w.heap.size + 1) vs vp _ _ t0 t1 t2 b b0 b1 b2 kb kk0 kk1 kk2 x wr) (fun x _ => (3 - intOf x).toNat)
              case atStart => exact .inl ⟨rfl, hP.out⟩
              case round =>
                clear hP
                rcases hrel with ⟨rfl, hP⟩ | ⟨u0, rfl, hP⟩ | ⟨u0, u1, rfl, hP⟩ | ⟨u0, u1, u2, rfl, hP⟩
                · obtain ⟨cp0, cp1, fp0, fp1, lp⟩ := hP.cells
                  rcases ht : rdText b kb with ⟨tx, bx, kx⟩
                  have qt : tx.length + bx.length ≤ b.length := by have := rdText_len b kb; rw [ht] at this; exact this
                  have hT := hT0.out
                  unfold rdStmt at hT
                  simp only [ht] at hT
                  replace ht := Lib.hid ht
                  replace hP := Lib.hid hP
                  by_cases he : tx = []
                  · subst he
                    simp only [List.isEmpty_nil, if_true, Prod.mk.injEq] at hT
                    obtain ⟨hTa, hTb, hTc⟩ := hT
                    go_wp2_with fail
                    refine Calls.mono (snapText_any p b _ _ hP.out.rd (by omega)) ?_
                    rw [ht.out]; rintro e w1 ⟨rfl, hg1, hrd1⟩; simp only
                    have hP1 := hP.out.read hg1 hrd1 (parties_other hP.out.par hp0 hg1)
                    simp only [hTb, hTc] at hP1
                    clear hg1 hrd1 hP
                    replace hP1 := Lib.hid hP1
                    go_wp2
                    refine ⟨.inr (.inl ⟨(.slice none 0 0), rfl, ?_⟩), by simp [intOf]⟩
                    rw [← hTa]; exact hP1.out
                  · have hte : tx.isEmpty = false := by cases tx <;> simp_all
                    simp only [hte, Bool.false_eq_true, if_false] at hT
                    go_wp2_with fail
                    refine Calls.mono (snapText_any p b _ _ hP.out.rd (by omega)) ?_
                    rw [ht.out]; rintro e w1 ⟨rfl, hg1, hrd1⟩; simp only
                    have hP1 := hP.out.read hg1 hrd1 (parties_other hP.out.par hp0 hg1)
                    simp only at hP1
                    clear hg1 hrd1 hP
                    have HO := fun W h => stmtGet_any tx W h (by omega)
                    unfold stmtGetRes at HO
                    generalize (stmtGet tx).getD (0, 0, []) = rs at HO hT
                    generalize (stmtGet tx).isSome = good at HO hT
                    obtain ⟨er, her⟩ : ∃ er : Int, er = if good = true then 0 else 10 := ⟨_, rfl⟩
                    rw [← her] at HO
                    have hgood : good = decide (er = 0) := by cases good <;> simp [her]
                    clear her
                    obtain ⟨party, seq, rows⟩ := rs
                    unfold StmtAt at HO
                    simp only at HO
                    replace HO := Lib.hid HO
                    simp only [Prod.mk.injEq] at hT
                    obtain ⟨rfl, rfl, hTc⟩ := hT
                    replace hP1 := Lib.hid hP1
                    have htl := Lib.hid (show tx ≠ [] from he)
                    have hne : (tx == []) = false := ne_nil_beq he
                    go_wp2_with fail
                    refine Calls.mono (HO.out w1 hP1.out.par) ?_
                    rintro e w2 ⟨⟨x, rfl, v, rfl, hv⟩, hb2⟩
                    simp only
                    obtain ⟨vq, vk, rfl⟩ := slc_shape hv
                    have hP2 := hP1.out.low hb2
                    clear hb2 hP1
                    obtain ⟨cs0, cs1, fs0, fs1, ls⟩ := hP2.cells
                    have hx := cells_at hP2.box
                    have hfx := frozen_at hP2.box
                    have hXl := (Array.getElem?_eq_some_iff.1 hP2.box).1
                    replace hP2 := Lib.hid hP2
                    replace hv := Lib.hid hv
                    have hgood2 : kx = true ∧ er = 0 ∨ kx = true ∧ er ≠ 0 ∨ kx = false := by cases kx <;> simp; omega
                    rcases hgood2 with ⟨rfl, rfl⟩ | ⟨rfl, her⟩ | rfl
                    · go_wp2
                      refine ⟨.inr (.inl ⟨(.slice vq rows.length vk), rfl, ?_⟩), by simp [intOf]⟩
                      have hk : kk0 = true := by rw [← hTc]; first | (simp [hgood]; done) | (simp [hgood, her]; done) | (rw [hgood]; simp [her])
                      rw [hk]
                      exact (PSt.setOk (PSt.st0 (r := stmtOf (party, seq, rows)) hP2.out hv.out) _).low (alloc_grew _ _)
                    · go_wp2
                      refine ⟨.inr (.inl ⟨(.slice vq rows.length vk), rfl, ?_⟩), by simp [intOf]⟩
                      have hk : kk0 = (er == 0) := by rw [← hTc]; first | (simp [hgood]; done) | (simp [hgood, her]; done) | (rw [hgood]; simp [her])
                      rw [hk]
                      exact (PSt.setOk (PSt.st0 (r := stmtOf (party, seq, rows)) hP2.out hv.out) _).low (alloc_grew _ _)
                    · go_wp2
                      refine ⟨.inr (.inl ⟨(.slice vq rows.length vk), rfl, ?_⟩), by simp [intOf]⟩
                      have hk : kk0 = false := by rw [← hTc]; first | (simp [hgood]; done) | (simp [hgood, her]; done) | (rw [hgood]; simp [her])
                      rw [hk]
                      exact (PSt.setOk (PSt.st0 (r := stmtOf (party, seq, rows)) hP2.out hv.out) _).low (alloc_grew _ _)
                · obtain ⟨cp0, cp1, fp0, fp1, lp⟩ := hP.cells
                  rcases ht : rdText b0 kk0 with ⟨tx, bx, kx⟩
                  have qt : tx.length + bx.length ≤ b0.length := by have := rdText_len b0 kk0; rw [ht] at this; exact this
                  have hT := hT1.out
                  unfold rdStmt at hT
                  simp only [ht] at hT
                  replace ht := Lib.hid ht
                  replace hP := Lib.hid hP
                  by_cases he : tx = []
                  · subst he
                    simp only [List.isEmpty_nil, if_true, Prod.mk.injEq] at hT
                    obtain ⟨hTa, hTb, hTc⟩ := hT
                    go_wp2_with fail
                    refine Calls.mono (snapText_any p b0 _ _ hP.out.rd (by omega)) ?_
                    rw [ht.out]; rintro e w1 ⟨rfl, hg1, hrd1⟩; simp only
                    have hP1 := hP.out.read hg1 hrd1 (parties_other hP.out.par hp0 hg1)
                    simp only [hTb, hTc] at hP1
                    clear hg1 hrd1 hP
                    replace hP1 := Lib.hid hP1
                    go_wp2
                    refine ⟨.inr (.inr (.inl ⟨u0, (.slice none 0 0), rfl, ?_⟩)), by simp [intOf]⟩
                    rw [← hTa]; exact hP1.out
                  · have hte : tx.isEmpty = false := by cases tx <;> simp_all
                    simp only [hte, Bool.false_eq_true, if_false] at hT
                    go_wp2_with fail
                    refine Calls.mono (snapText_any p b0 _ _ hP.out.rd (by omega)) ?_
                    rw [ht.out]; rintro e w1 ⟨rfl, hg1, hrd1⟩; simp only
                    have hP1 := hP.out.read hg1 hrd1 (parties_other hP.out.par hp0 hg1)
                    simp only at hP1
                    clear hg1 hrd1 hP
                    have HO := fun W h => stmtGet_any tx W h (by omega)
                    unfold stmtGetRes at HO
                    generalize (stmtGet tx).getD (0, 0, []) = rs at HO hT
                    generalize (stmtGet tx).isSome = good at HO hT
                    obtain ⟨er, her⟩ : ∃ er : Int, er = if good = true then 0 else 10 := ⟨_, rfl⟩
                    rw [← her] at HO
                    have hgood : good = decide (er = 0) := by cases good <;> simp [her]
                    clear her
                    obtain ⟨party, seq, rows⟩ := rs
                    unfold StmtAt at HO
                    simp only at HO
                    replace HO := Lib.hid HO
                    simp only [Prod.mk.injEq] at hT
                    obtain ⟨rfl, rfl, hTc⟩ := hT
                    replace hP1 := Lib.hid hP1
                    have htl := Lib.hid (show tx ≠ [] from he)
                    have hne : (tx == []) = false := ne_nil_beq he
                    go_wp2_with fail
                    refine Calls.mono (HO.out w1 hP1.out.par) ?_
                    rintro e w2 ⟨⟨x, rfl, v, rfl, hv⟩, hb2⟩
                    simp only
                    obtain ⟨vq, vk, rfl⟩ := slc_shape hv
                    have hP2 := hP1.out.low hb2
                    clear hb2 hP1
                    obtain ⟨cs0, cs1, fs0, fs1, ls⟩ := hP2.cells
                    have hx := cells_at hP2.box
                    have hfx := frozen_at hP2.box
                    have hXl := (Array.getElem?_eq_some_iff.1 hP2.box).1
                    replace hP2 := Lib.hid hP2
                    replace hv := Lib.hid hv
                    have hgood2 : kx = true ∧ er = 0 ∨ kx = true ∧ er ≠ 0 ∨ kx = false := by cases kx <;> simp; omega
                    rcases hgood2 with ⟨rfl, rfl⟩ | ⟨rfl, her⟩ | rfl
                    · go_wp2
                      refine ⟨.inr (.inr (.inl ⟨u0, (.slice vq rows.length vk), rfl, ?_⟩)), by simp [intOf]⟩
                      have hk : kk1 = true := by rw [← hTc]; first | (simp [hgood]; done) | (simp [hgood, her]; done) | (rw [hgood]; simp [her])
                      rw [hk]
                      exact (PSt.setOk (PSt.st1 (r := stmtOf (party, seq, rows)) hP2.out hv.out) _).low (alloc_grew _ _)
                    · go_wp2
                      refine ⟨.inr (.inr (.inl ⟨u0, (.slice vq rows.length vk), rfl, ?_⟩)), by simp [intOf]⟩
                      have hk : kk1 = (er == 0) := by rw [← hTc]; first | (simp [hgood]; done) | (simp [hgood, her]; done) | (rw [hgood]; simp [her])
                      rw [hk]
                      exact (PSt.setOk (PSt.st1 (r := stmtOf (party, seq, rows)) hP2.out hv.out) _).low (alloc_grew _ _)
                    · go_wp2
                      refine ⟨.inr (.inr (.inl ⟨u0, (.slice vq rows.length vk), rfl, ?_⟩)), by simp [intOf]⟩
                      have hk : kk1 = false := by rw [← hTc]; first | (simp [hgood]; done) | (simp [hgood, her]; done) | (rw [hgood]; simp [her])
                      rw [hk]
                      exact (PSt.setOk (PSt.st1 (r := stmtOf (party, seq, rows)) hP2.out hv.out) _).low (alloc_grew _ _)
                · obtain ⟨cp0, cp1, fp0, fp1, lp⟩ := hP.cells
                  rcases ht : rdText b1 kk1 with ⟨tx, bx, kx⟩
                  have qt : tx.length + bx.length ≤ b1.length := by have := rdText_len b1 kk1; rw [ht] at this; exact this
                  have hT := hT2.out
                  unfold rdStmt at hT
                  simp only [ht] at hT
                  replace ht := Lib.hid ht
                  replace hP := Lib.hid hP
                  by_cases he : tx = []
                  · subst he
                    simp only [List.isEmpty_nil, if_true, Prod.mk.injEq] at hT
                    obtain ⟨hTa, hTb, hTc⟩ := hT
                    go_wp2_with fail
                    refine Calls.mono (snapText_any p b1 _ _ hP.out.rd (by omega)) ?_
                    rw [ht.out]; rintro e w1 ⟨rfl, hg1, hrd1⟩; simp only
                    have hP1 := hP.out.read hg1 hrd1 (parties_other hP.out.par hp0 hg1)
                    simp only [hTb, hTc] at hP1
                    clear hg1 hrd1 hP
                    replace hP1 := Lib.hid hP1
                    go_wp2
                    refine ⟨.inr (.inr (.inr ⟨u0, u1, (.slice none 0 0), rfl, ?_⟩)), by simp [intOf]⟩
                    rw [← hTa]; exact hP1.out
                  · have hte : tx.isEmpty = false := by cases tx <;> simp_all
                    simp only [hte, Bool.false_eq_true, if_false] at hT
                    go_wp2_with fail
                    refine Calls.mono (snapText_any p b1 _ _ hP.out.rd (by omega)) ?_
                    rw [ht.out]; rintro e w1 ⟨rfl, hg1, hrd1⟩; simp only
                    have hP1 := hP.out.read hg1 hrd1 (parties_other hP.out.par hp0 hg1)
                    simp only at hP1
                    clear hg1 hrd1 hP
                    have HO := fun W h => stmtGet_any tx W h (by omega)
                    unfold stmtGetRes at HO
                    generalize (stmtGet tx).getD (0, 0, []) = rs at HO hT
                    generalize (stmtGet tx).isSome = good at HO hT
                    obtain ⟨er, her⟩ : ∃ er : Int, er = if good = true then 0 else 10 := ⟨_, rfl⟩
                    rw [← her] at HO
                    have hgood : good = decide (er = 0) := by cases good <;> simp [her]
                    clear her
                    obtain ⟨party, seq, rows⟩ := rs
                    unfold StmtAt at HO
                    simp only at HO
                    replace HO := Lib.hid HO
                    simp only [Prod.mk.injEq] at hT
                    obtain ⟨rfl, rfl, hTc⟩ := hT
                    replace hP1 := Lib.hid hP1
                    have htl := Lib.hid (show tx ≠ [] from he)
                    have hne : (tx == []) = false := ne_nil_beq he
                    go_wp2_with fail
                    refine Calls.mono (HO.out w1 hP1.out.par) ?_
                    rintro e w2 ⟨⟨x, rfl, v, rfl, hv⟩, hb2⟩
                    simp only
                    obtain ⟨vq, vk, rfl⟩ := slc_shape hv
                    have hP2 := hP1.out.low hb2
                    clear hb2 hP1
                    obtain ⟨cs0, cs1, fs0, fs1, ls⟩ := hP2.cells
                    have hx := cells_at hP2.box
                    have hfx := frozen_at hP2.box
                    have hXl := (Array.getElem?_eq_some_iff.1 hP2.box).1
                    replace hP2 := Lib.hid hP2
                    replace hv := Lib.hid hv
                    have hgood2 : kx = true ∧ er = 0 ∨ kx = true ∧ er ≠ 0 ∨ kx = false := by cases kx <;> simp; omega
                    rcases hgood2 with ⟨rfl, rfl⟩ | ⟨rfl, her⟩ | rfl
                    · go_wp2
                      refine ⟨.inr (.inr (.inr ⟨u0, u1, (.slice vq rows.length vk), rfl, ?_⟩)), by simp [intOf]⟩
                      have hk : kk2 = true := by rw [← hTc]; first | (simp [hgood]; done) | (simp [hgood, her]; done) | (rw [hgood]; simp [her])
                      rw [hk]
                      exact (PSt.setOk (PSt.st2 (r := stmtOf (party, seq, rows)) hP2.out hv.out) _).low (alloc_grew _ _)
                    · go_wp2
                      refine ⟨.inr (.inr (.inr ⟨u0, u1, (.slice vq rows.length vk), rfl, ?_⟩)), by simp [intOf]⟩
                      have hk : kk2 = (er == 0) := by rw [← hTc]; first | (simp [hgood]; done) | (simp [hgood, her]; done) | (rw [hgood]; simp [her])
                      rw [hk]
                      exact (PSt.setOk (PSt.st2 (r := stmtOf (party, seq, rows)) hP2.out hv.out) _).low (alloc_grew _ _)
                    · go_wp2
                      refine ⟨.inr (.inr (.inr ⟨u0, u1, (.slice vq rows.length vk), rfl, ?_⟩)), by simp [intOf]⟩
                      have hk : kk2 = false := by rw [← hTc]; first | (simp [hgood]; done) | (simp [hgood, her]; done) | (rw [hgood]; simp [her])
                      rw [hk]
                      exact (PSt.setOk (PSt.st2 (r := stmtOf (party, seq, rows)) hP2.out hv.out) _).low (alloc_grew _ _)
                · obtain ⟨a1, a2, a3, rfl⟩ := hP.slice
                  obtain ⟨p1', p3', rfl⟩ := own_slice' hP.posts
                  obtain ⟨r0', n0', rfl⟩ := slc_shape hP.r0
                  obtain ⟨r1', n1', rfl⟩ := slc_shape hP.r1
                  obtain ⟨r2', n2', rfl⟩ := slc_shape hP.r2
                  have hx := cells_at hP.box
                  have hres := hP.res
                  unfold zero11 at hres
                  have hrx := cells_at hres
                  have hrf := frozen_at hres
                  have hXl := (Array.getElem?_eq_some_iff.1 hP.box).1
                  replace hP := Lib.hid hP
                  go_wp2
                  refine bodyPost_ret (v := .agg #[.slice a1 a2 a3, .slice p1' ac2.length p3', .int .i64 t0.party, .int .i64 t0.seq, .slice r0' t0.rows.length n0', .int .i64 t1.party, .int .i64 t1.seq, .slice r1' t1.rows.length n1', .int .i64 t2.party, .int .i64 t2.seq, .slice r2' t2.rows.length n2']) ?_ rfl ?_
                  · simp [results, Tryz.results46, go_sem, ↓IntWalk.iteOmega, *]
                  · refine ReadParts.mk hD.out hP.out ?_
                    iterate 10 refine World.grownBy.trans ?_ (grown_setCell _ _ _ _)
                    exact grown_setCell _ _ _ _
end Go.Proofs.YtkgpnikmdmpfaaaGreatDoor

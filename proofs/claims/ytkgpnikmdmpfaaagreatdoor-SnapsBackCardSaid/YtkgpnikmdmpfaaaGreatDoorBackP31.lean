/-
  core.Core.statement.
-/
import Derived.Test.YtkgpnikmdmpfaaaGreatDoorBackP30
set_option linter.unusedVariables false
set_option linter.unusedSimpArgs false
namespace Go.Proofs.YtkgpnikmdmpfaaaGreatDoor
open Go.RowKit Go.Maps

/-- The core while a statement is taken in. -/
structure SAt (w : World) (base pc pb P Q X3 X5 : Nat) (vl vb v0 v1 v2 u0 u1 u2 sv : Value) (m : Option Nat) (M : Nat) (party seq : Int) (j : Sp.Intake) (C : Sp.Core) (W : World) : Prop where
  core : CoreIs W base pc vl pb vb P Q v0 v1 v2 m C
  inn : InIs W j u0 u1 u2 (some M)
  mne : M ≠ P ∧ M ≠ Q
  x3 : W.heap[X3]? = some (.cells #[.int .i64 party, .int .i64 seq, sv] 37 (0, 0))
  x5 : W.heap[X5]? = some (.cells #[.int .i64 j.s0.party, .int .i64 j.s0.seq, u0, .int .i64 j.s1.party, .int .i64 j.s1.seq, u1, .int .i64 j.s2.party, .int .i64 j.s2.seq, u2, .map (some M)] 60 (0, 0))
  low : Below base w W
section
variable {w W W' : World} {base pc pb P Q X3 X5 : Nat} {vl vb v0 v1 v2 u0 u1 u2 sv : Value} {m : Option Nat} {M : Nat} {party seq : Int} {j : Sp.Intake} {C : Sp.Core}
theorem SAt.next (h : SAt w base pc pb P Q X3 X5 vl vb v0 v1 v2 u0 u1 u2 sv m M party seq j C W) (hb : Below W.heap.size W W') : SAt w base pc pb P Q X3 X5 vl vb v0 v1 v2 u0 u1 u2 sv m M party seq j C W' :=
  ⟨h.core.below hb, h.inn.below hb, h.mne, heap_below hb h.x3, heap_below hb h.x5, h.low.trans (hb.mono h.core.low)⟩
theorem SAt.post (h : SAt w base pc pb P Q X3 X5 vl vb v0 v1 v2 u0 u1 u2 sv m M party seq j C W) {b : Sp.Books} {z : Value} (hb : BooksIs W' base pb z P Q b) (hk : Keeps (fun k => k = pb ∨ k = P ∨ k = Q ∨ vb.ownBlock = some k) W W') :
    SAt w base pc pb P Q X3 X5 vl z v0 v1 v2 u0 u1 u2 sv m M party seq j ⟨C.l, b, C.i⟩ W' := by
  obtain ⟨h1, h2⟩ := core_post h.core hb hk
  refine ⟨h1, h.inn.same (fun k hk' => hk.block k (h.inn.lt hk') (fun e => ?_)), h.mne, (hk.block _ (Array.getElem?_eq_some_iff.1 h.x3).1 (fun e => h.core.books.ne_cells h.x3 (by decide) (by decide) e rfl)).trans h.x3, (hk.block _ (Array.getElem?_eq_some_iff.1 h.x5).1 (fun e => h.core.books.ne_cells h.x5 (by decide) (by decide) e rfl)).trans h.x5, h.low.trans h2⟩
  rcases e with rfl | rfl | rfl | e
  · exact h.inn.ne_cells h.core.books.head (by decide) hk' rfl
  · obtain ⟨es, clk, hc⟩ := h.core.books.posted.heap; exact h.inn.ne_map hc (by simp [h.mne.1]) hk' rfl
  · obtain ⟨g, h1, _⟩ := h.core.books.bals
    obtain ⟨es, clk, hc⟩ := h1.heap; exact h.inn.ne_map hc (by simp [h.mne.2]) hk' rfl
  · obtain ⟨cc, hc⟩ := own_block h.core.books.own e; exact h.inn.ne_cells hc (by decide) hk' rfl
end
theorem post_l (b : Sp.Books) (p : Sp.Posting) : (Sp.post b p).1.l.length ≤ b.l.length + 1 := by
  unfold Sp.post
  split
  · simp
  · split
    · simp
    · split <;> simp
theorem stmtPost_l (i j : Sp.Intake) (sq : Nat) (b : Sp.Books) (o : Nat) : (Sp.stmtPost i j sq b o).l.length ≤ b.l.length + 1 := by
  unfold Sp.stmtPost
  split
  · exact post_l _ _
  · split
    · exact post_l _ _
    · omega
theorem stmtPosts_l (i j : Sp.Intake) (sq : Nat) (b : Sp.Books) : ∀ k, (Sp.stmtPosts i j sq b k).l.length ≤ b.l.length + k
  | 0 => by simp [Sp.stmtPosts]
  | k + 1 => by
    have h1 := stmtPosts_l i j sq b k
    have h2 := stmtPost_l i j sq (Sp.stmtPosts i j sq b k) (k + 1)
    simp only [Sp.stmtPosts]
    omega
theorem stmtText_len (sq o : Nat) (h : sq ≤ 9223372036854775807) (ho : o ≤ 60) : (Sp.stmtText sq o).length ≤ 100 := by
  have h1 := Sp.dec_len 20 sq (by omega) (by omega)
  have h2 := Sp.dec_len 2 o (by omega) (by omega)
  simp only [Sp.stmtText, List.length_cons, List.length_append]
  omega
/-- One round's start. -/
def RelStat (w : World) (base pc pb P Q X3 X5 : Nat) (vl v0 v1 v2 u0 u1 u2 sv : Value) (m : Option Nat) (M : Nat) (party seq : Int) (j : Sp.Intake) (C : Sp.Core) (sq : Nat) (x : Value) (W : World) : Prop :=
  ∃ (k : Nat) (vb : Value), k ≤ 60 ∧ x = .int .i64 ((k : Int) + 1) ∧ SAt w base pc pb P Q X3 X5 vl vb v0 v1 v2 u0 u1 u2 sv m M party seq j ⟨C.l, Sp.stmtPosts C.i j sq C.b k, C.i⟩ W
theorem and21 {a0 a1 a2 a3 a4 a5 a6 a7 a8 a9 a10 a11 a12 a13 a14 a15 a16 a17 a18 a19 a20 X : Prop} (h : a0 ∧ a1 ∧ a2 ∧ a3 ∧ a4 ∧ a5 ∧ a6 ∧ a7 ∧ a8 ∧ a9 ∧ a10 ∧ a11 ∧ a12 ∧ a13 ∧ a14 ∧ a15 ∧ a16 ∧ a17 ∧ a18 ∧ a19 ∧ a20 ∧ X) : X := h.2.2.2.2.2.2.2.2.2.2.2.2.2.2.2.2.2.2.2.2.2
theorem st13 {a0 a1 a2 a3 a4 a5 a6 a7 a8 a9 a10 a11 a12 X : Prop} (h : a0 ∧ a1 ∧ a2 ∧ a3 ∧ a4 ∧ a5 ∧ a6 ∧ a7 ∧ a8 ∧ a9 ∧ a10 ∧ a11 ∧ a12 ∧ X) : X := h.2.2.2.2.2.2.2.2.2.2.2.2.2
set_option maxRecDepth 100000 in
set_option maxHeartbeats 20000000 in
theorem statement_any (w : World) (base pc pb P Q : Nat) (vl vb v0 v1 v2 : Value) (m : Option Nat) (C : Sp.Core) (h : CoreIs w base pc vl pb vb P Q v0 v1 v2 m C) (htab : ∀ W, Below base w W → Tabs W) (hfew : C.b.l.length + 60 < 1000000)
    (s : Sp.Stmt) (v : Value) (hl : RowsArg w v s.rows) (hseq : s.seq ≤ 9223372036854775807) :
    Calls Tryz.prog 24 #[.pointer (some ⟨pc, 0, none⟩), .agg #[.int .i64 s.party, .int .i64 s.seq, v]] w (ApplyPost w base pc pb P Q (Sp.statementAt C s)) := by
  obtain ⟨party, seq, rows⟩ := s
  simp only at hl hseq ⊢
  obtain ⟨rr, nn, rfl⟩ := slcA_shape hl
  obtain ⟨q0, k0, rfl⟩ := own_slice' h.inn.r0
  obtain ⟨q1, k1, rfl⟩ := own_slice' h.inn.r1
  obtain ⟨q2, k2, rfl⟩ := own_slice' h.inn.r2
  have hpar := Lib.hid (htab w (Below.refl _ _)).par
  have hrows := Lib.hid hl
  have hpcl := (Array.getElem?_eq_some_iff.1 h.head).1
  have hS0 : ∀ W', Below (w.alloc (.cells #[.int .i64 party, .int .i64 seq, .slice rr rows.length nn] 37)).heap.size (w.alloc (.cells #[.int .i64 party, .int .i64 seq, .slice rr rows.length nn] 37)) W' → (fun W' => W'.cell? ⟨pc, 2, none⟩ = some (.int .i64 C.i.s0.party) ∧ W'.cell? ⟨pc, 3, none⟩ = some (.int .i64 C.i.s0.seq) ∧ W'.cell? ⟨pc, 4, none⟩ = some (.slice q0 C.i.s0.rows.length k0) ∧ W'.cell? ⟨pc, 5, none⟩ = some (.int .i64 C.i.s1.party) ∧ W'.cell? ⟨pc, 6, none⟩ = some (.int .i64 C.i.s1.seq) ∧ W'.cell? ⟨pc, 7, none⟩ = some (.slice q1 C.i.s1.rows.length k1) ∧ W'.cell? ⟨pc, 8, none⟩ = some (.int .i64 C.i.s2.party) ∧ W'.cell? ⟨pc, 9, none⟩ = some (.int .i64 C.i.s2.seq) ∧ W'.cell? ⟨pc, 10, none⟩ = some (.slice q2 C.i.s2.rows.length k2) ∧ W'.cell? ⟨pc, 11, none⟩ = some (.map m) ∧ W'.cell? ⟨w.heap.size, 0, none⟩ = some (.int .i64 party) ∧ W'.cell? ⟨w.heap.size, 1, none⟩ = some (.int .i64 seq) ∧ W'.cell? ⟨w.heap.size, 2, none⟩ = some (.slice rr rows.length nn) ∧ Hid (Below (w.alloc (.cells #[.int .i64 party, .int .i64 seq, .slice rr rows.length nn] 37)).heap.size (w.alloc (.cells #[.int .i64 party, .int .i64 seq, .slice rr rows.length nn] 37)) W')) W' := fun W' hb => by
    have hx := cells_at (heap_below hb (heap_alloc_new w (.cells #[.int .i64 party, .int .i64 seq, .slice rr rows.length nn] 37)))
    have hh := cells_at (h.below ((alloc_grew w _).trans (hb.mono (by simp)))).head
    exact ⟨hh 2, hh 3, hh 4, hh 5, hh 6, hh 7, hh 8, hh 9, hh 10, hh 11, hx 0, hx 1, hx 2, Lib.hid hb⟩
  replace hS0 := Lib.hid hS0
  have hS1 := Lib.hid (show ∀ W', (fun W' => W'.cell? ⟨pc, 2, none⟩ = some (.int .i64 C.i.s0.party) ∧ W'.cell? ⟨pc, 3, none⟩ = some (.int .i64 C.i.s0.seq) ∧ W'.cell? ⟨pc, 4, none⟩ = some (.slice q0 C.i.s0.rows.length k0) ∧ W'.cell? ⟨pc, 5, none⟩ = some (.int .i64 C.i.s1.party) ∧ W'.cell? ⟨pc, 6, none⟩ = some (.int .i64 C.i.s1.seq) ∧ W'.cell? ⟨pc, 7, none⟩ = some (.slice q1 C.i.s1.rows.length k1) ∧ W'.cell? ⟨pc, 8, none⟩ = some (.int .i64 C.i.s2.party) ∧ W'.cell? ⟨pc, 9, none⟩ = some (.int .i64 C.i.s2.seq) ∧ W'.cell? ⟨pc, 10, none⟩ = some (.slice q2 C.i.s2.rows.length k2) ∧ W'.cell? ⟨pc, 11, none⟩ = some (.map m) ∧ W'.cell? ⟨w.heap.size, 0, none⟩ = some (.int .i64 party) ∧ W'.cell? ⟨w.heap.size, 1, none⟩ = some (.int .i64 seq) ∧ W'.cell? ⟨w.heap.size, 2, none⟩ = some (.slice rr rows.length nn) ∧ Hid (Below (w.alloc (.cells #[.int .i64 party, .int .i64 seq, .slice rr rows.length nn] 37)).heap.size (w.alloc (.cells #[.int .i64 party, .int .i64 seq, .slice rr rows.length nn] 37)) W')) W' → CoreIs W' base pc vl pb vb P Q (.slice q0 C.i.s0.rows.length k0) (.slice q1 C.i.s1.rows.length k1) (.slice q2 C.i.s2.rows.length k2) m C ∧ Below w.heap.size w W' from fun W' hs => by
    have hb := (alloc_grew w (.cells #[.int .i64 party, .int .i64 seq, .slice rr rows.length nn] 37)).trans (hs.2.2.2.2.2.2.2.2.2.2.2.2.2.out.mono (by simp))
    exact ⟨h.below hb, hb⟩)
  rcases accept_cases C.i ⟨party, seq, rows⟩ with ⟨n, hn, hacc⟩ | ⟨hacc, hsq⟩
  · have hS : Sp.statementAt C ⟨party, seq, rows⟩ = (C, n) := by unfold Sp.statementAt; rw [hacc]
    rw [hS]
    replace hacc := Lib.hid hacc
    have hn0 : ¬ n = 0 := by omega
    have HC := Lib.hid h
    clear h hn hS htab hl
    go_enter Tryz.func24, Tryz.ntmps24
    go_wp2
    refine any_begin (S := (fun W' => W'.cell? ⟨pc, 2, none⟩ = some (.int .i64 C.i.s0.party) ∧ W'.cell? ⟨pc, 3, none⟩ = some (.int .i64 C.i.s0.seq) ∧ W'.cell? ⟨pc, 4, none⟩ = some (.slice q0 C.i.s0.rows.length k0) ∧ W'.cell? ⟨pc, 5, none⟩ = some (.int .i64 C.i.s1.party) ∧ W'.cell? ⟨pc, 6, none⟩ = some (.int .i64 C.i.s1.seq) ∧ W'.cell? ⟨pc, 7, none⟩ = some (.slice q1 C.i.s1.rows.length k1) ∧ W'.cell? ⟨pc, 8, none⟩ = some (.int .i64 C.i.s2.party) ∧ W'.cell? ⟨pc, 9, none⟩ = some (.int .i64 C.i.s2.seq) ∧ W'.cell? ⟨pc, 10, none⟩ = some (.slice q2 C.i.s2.rows.length k2) ∧ W'.cell? ⟨pc, 11, none⟩ = some (.map m) ∧ W'.cell? ⟨w.heap.size, 0, none⟩ = some (.int .i64 party) ∧ W'.cell? ⟨w.heap.size, 1, none⟩ = some (.int .i64 seq) ∧ W'.cell? ⟨w.heap.size, 2, none⟩ = some (.slice rr rows.length nn) ∧ Hid (Below (w.alloc (.cells #[.int .i64 party, .int .i64 seq, .slice rr rows.length nn] 37)).heap.size (w.alloc (.cells #[.int .i64 party, .int .i64 seq, .slice rr rows.length nn] 37)) W'))) 12 (by kernel_rfl) ?_ (fun hHeld => ?_)
    focus (exact hS0.out _ (by (repeat (first | (with_reducible first | exact zR _ _ | exact zA _ _ | assumption | refine zL ?_ _ | refine zD ?_ | refine zN ?_ _) | ((with_reducible first | refine zC ?_ ?_ _ | refine zW ?_ ?_ _); rotate_left; focus (first | exact Nat.le_refl _ | (simp; done) | (simp; omega) | omega)) | with_reducible refine zT ?_ (by assumption)))))
    have hq := plan [0, 1, 2, 3, 4]
    iterate 5 (refine tk hq ?_ rfl (by kernel_rfl) (by assumption) (by rfl) (fun _ _ _ h => h) ?hy ?_; (case hy => (intro w hSw; (try dsimp only at hSw); go_simp; (try with_reducible rfl))); replace hq := hq.tl; (try simp only [Act.put, yA, yB, yC]))
    clear hq
    refine at2 5 9 rfl rfl (by kernel_rfl) (by rfl) (by rfl) (fun K hK => ?_) (fun K hK => ?_)
    focus
     go_simp
     (go_at_call 58; refine Calls.mono (accept_no _ C.i _ _ _ m (hS1.out _ (by assumption)).1.inn ⟨party, seq, rows⟩ (.slice rr rows.length nn) (hpar.out.grew (hS1.out _ (by assumption)).2) (hrows.out.mono (hS1.out _ (by assumption)).2) hacc.out) ?_; rintro e wa ⟨rfl, hba⟩; have hza := hba.size; (try simp at hza); obtain ⟨hca, hfa, hra, _⟩ := brow hba)
     refine hK.out _ _ ?_ (fun hHeld => ?_)
     focus (exact hS0.out _ (by (repeat (first | (with_reducible first | exact zR _ _ | exact zA _ _ | assumption | refine zL ?_ _ | refine zD ?_ | refine zN ?_ _) | ((with_reducible first | refine zC ?_ ?_ _ | refine zW ?_ ?_ _); rotate_left; focus (first | exact Nat.le_refl _ | (simp; done) | (simp; omega) | omega)) | with_reducible refine zT ?_ (by assumption)))))
     clear hK K
     (try simp only [Act.put, yA, yB, yC])
     have hq := plan [6, 7, 8]
     iterate 3 (refine tk hq ?_ rfl (by kernel_rfl) (by assumption) (by rfl) (fun _ _ _ h => h) ?hy ?_; (case hy => (intro w hSw; (try dsimp only at hSw); go_simp; (try with_reducible rfl))); replace hq := hq.tl; (try simp only [Act.put, yA, yB, yC]))
     clear hq
     refine ao 9 rfl (by kernel_rfl) (by rfl) (fun K hK => ?_)
     go_simp
     refine hK.out _ _ ?_ (fun hHeld => ?_)
     focus (exact hS0.out _ (by (repeat (first | (with_reducible first | exact zR _ _ | exact zA _ _ | assumption | refine zL ?_ _ | refine zD ?_ | refine zN ?_ _) | ((with_reducible first | refine zC ?_ ?_ _ | refine zW ?_ ?_ _); rotate_left; focus (first | exact Nat.le_refl _ | (simp; done) | (simp; omega) | omega)) | with_reducible refine zT ?_ (by assumption)))))
     clear hK K
     (try simp only [Act.put, yA, yB, yC])
     refine ao 10 rfl (by kernel_rfl) (by rfl) (fun K hK => ?_)
     refine wp_store (.tmp 5) (.tmp 16) rfl rfl rfl (run_storeRow (n := 10) (by kernel_rfl) (by repeat (first | exact row?_new (by simp) | exact row?_new rfl | (apply row?_below; assumption))) rfl rfl rfl) ?_
     refine hK.out _ _ ?_ (fun hHeld => ?_)
     focus (exact hS0.out _ (by (repeat (first | (with_reducible first | exact zR _ _ | exact zA _ _ | assumption | refine zL ?_ _ | refine zD ?_ | refine zN ?_ _) | ((with_reducible first | refine zC ?_ ?_ _ | refine zW ?_ ?_ _); rotate_left; focus (first | exact Nat.le_refl _ | (simp; done) | (simp; omega) | omega)) | with_reducible refine zT ?_ (by assumption)))))
     clear hK K
     (try simp only [Act.put, yA, yB, yC])
     have hq := plan [11]
     iterate 1 (refine tk hq ?_ rfl (by kernel_rfl) (by assumption) (by rfl) (fun _ _ _ h => h) ?hy ?_; (case hy => (intro w hSw; (try dsimp only at hSw); go_simp; (try with_reducible rfl))); replace hq := hq.tl; (try simp only [Act.put, yA, yB, yC]))
     clear hq
     refine any_done (by kernel_rfl) ?_
    rotate_left 1
    focus
     go_simp
     refine hK.out _ _ ?_ (fun hHeld => ?_)
     focus (exact hS0.out _ (by (repeat (first | (with_reducible first | exact zR _ _ | exact zA _ _ | assumption | refine zL ?_ _ | refine zD ?_ | refine zN ?_ _) | ((with_reducible first | refine zC ?_ ?_ _ | refine zW ?_ ?_ _); rotate_left; focus (first | exact Nat.le_refl _ | (simp; done) | (simp; omega) | omega)) | with_reducible refine zT ?_ (by assumption)))))
     clear hK K
     (try simp only [Act.put, yA, yB, yC])
     refine ao 5 rfl (by kernel_rfl) (by rfl) (fun K hK => ?_)
     go_simp
     (go_at_call 58; refine Calls.mono (accept_no _ C.i _ _ _ m (hS1.out _ (by assumption)).1.inn ⟨party, seq, rows⟩ (.slice rr rows.length nn) (hpar.out.grew (hS1.out _ (by assumption)).2) (hrows.out.mono (hS1.out _ (by assumption)).2) hacc.out) ?_; rintro e wa ⟨rfl, hba⟩; have hza := hba.size; (try simp at hza); obtain ⟨hca, hfa, hra, _⟩ := brow hba)
     refine hK.out _ _ ?_ (fun hHeld => ?_)
     focus (exact hS0.out _ (by (repeat (first | (with_reducible first | exact zR _ _ | exact zA _ _ | assumption | refine zL ?_ _ | refine zD ?_ | refine zN ?_ _) | ((with_reducible first | refine zC ?_ ?_ _ | refine zW ?_ ?_ _); rotate_left; focus (first | exact Nat.le_refl _ | (simp; done) | (simp; omega) | omega)) | with_reducible refine zT ?_ (by assumption)))))
     clear hK K
     (try simp only [Act.put, yA, yB, yC])
     have hq := plan [6, 7, 8]
     iterate 3 (refine tk hq ?_ rfl (by kernel_rfl) (by assumption) (by rfl) (fun _ _ _ h => h) ?hy ?_; (case hy => (intro w hSw; (try dsimp only at hSw); go_simp; (try with_reducible rfl))); replace hq := hq.tl; (try simp only [Act.put, yA, yB, yC]))
     clear hq
     refine ao 10 rfl (by kernel_rfl) (by rfl) (fun K hK => ?_)
     refine wp_store (.tmp 5) (.tmp 16) rfl rfl rfl (run_storeRow (n := 10) (by kernel_rfl) (by repeat (first | exact row?_new (by simp) | exact row?_new rfl | (apply row?_below; assumption))) rfl rfl rfl) ?_
     refine hK.out _ _ ?_ (fun hHeld => ?_)
     focus (exact hS0.out _ (by (repeat (first | (with_reducible first | exact zR _ _ | exact zA _ _ | assumption | refine zL ?_ _ | refine zD ?_ | refine zN ?_ _) | ((with_reducible first | refine zC ?_ ?_ _ | refine zW ?_ ?_ _); rotate_left; focus (first | exact Nat.le_refl _ | (simp; done) | (simp; omega) | omega)) | with_reducible refine zT ?_ (by assumption)))))
     clear hK K
     (try simp only [Act.put, yA, yB, yC])
     have hq := plan [11]
     iterate 1 (refine tk hq ?_ rfl (by kernel_rfl) (by assumption) (by rfl) (fun _ _ _ h => h) ?hy ?_; (case hy => (intro w hSw; (try dsimp only at hSw); go_simp; (try with_reducible rfl))); replace hq := hq.tl; (try simp only [Act.put, yA, yB, yC]))
     clear hq
     refine any_done (by kernel_rfl) ?_
    all_goals
      have hB := Lib.hid (hS1.out _ hHeld).2
      go_wp2
      go_ret
      exact ApplyPost.same HC.out hB.out
  · simp only at hsq
    obtain ⟨sq, rfl⟩ : ∃ n : Nat, seq = n := ⟨seq.toNat, by omega⟩
    have hS : Sp.statementAt C ⟨party, sq, rows⟩ = (⟨C.l, Sp.stmtPosts C.i (Sp.setStmt C.i ⟨party, sq, rows⟩) sq C.b 60, Sp.setStmt C.i ⟨party, sq, rows⟩⟩, 0) := by
      unfold Sp.statementAt
      rw [hacc]
      rfl
    rw [hS]
    have HY := Lib.hid (fun W hW hI => accept_yes W C.i (.slice q0 C.i.s0.rows.length k0) (.slice q1 C.i.s1.rows.length k1) (.slice q2 C.i.s2.rows.length k2) m hI ⟨party, sq, rows⟩ (.slice rr rows.length nn) (hpar.out.grew hW) (hrows.out.mono hW) hacc)
    generalize Sp.setStmt C.i ⟨party, sq, rows⟩ = j at HY ⊢
    have HC := Lib.hid h
    replace htab := Lib.hid htab
    clear h hS hacc hl
    go_enter Tryz.func24, Tryz.ntmps24
    go_wp2
    refine any_begin (S := (fun W' => W'.cell? ⟨pc, 2, none⟩ = some (.int .i64 C.i.s0.party) ∧ W'.cell? ⟨pc, 3, none⟩ = some (.int .i64 C.i.s0.seq) ∧ W'.cell? ⟨pc, 4, none⟩ = some (.slice q0 C.i.s0.rows.length k0) ∧ W'.cell? ⟨pc, 5, none⟩ = some (.int .i64 C.i.s1.party) ∧ W'.cell? ⟨pc, 6, none⟩ = some (.int .i64 C.i.s1.seq) ∧ W'.cell? ⟨pc, 7, none⟩ = some (.slice q1 C.i.s1.rows.length k1) ∧ W'.cell? ⟨pc, 8, none⟩ = some (.int .i64 C.i.s2.party) ∧ W'.cell? ⟨pc, 9, none⟩ = some (.int .i64 C.i.s2.seq) ∧ W'.cell? ⟨pc, 10, none⟩ = some (.slice q2 C.i.s2.rows.length k2) ∧ W'.cell? ⟨pc, 11, none⟩ = some (.map m) ∧ W'.cell? ⟨w.heap.size, 0, none⟩ = some (.int .i64 party) ∧ W'.cell? ⟨w.heap.size, 1, none⟩ = some (.int .i64 sq) ∧ W'.cell? ⟨w.heap.size, 2, none⟩ = some (.slice rr rows.length nn) ∧ Hid (Below (w.alloc (.cells #[.int .i64 party, .int .i64 sq, .slice rr rows.length nn] 37)).heap.size (w.alloc (.cells #[.int .i64 party, .int .i64 sq, .slice rr rows.length nn] 37)) W'))) 12 (by kernel_rfl) ?_ (fun hHeld => ?_)
    focus (exact hS0.out _ (by (repeat (first | (with_reducible first | exact zR _ _ | exact zA _ _ | assumption | refine zL ?_ _ | refine zD ?_ | refine zN ?_ _) | ((with_reducible first | refine zC ?_ ?_ _ | refine zW ?_ ?_ _); rotate_left; focus (first | exact Nat.le_refl _ | (simp; done) | (simp; omega) | omega)) | with_reducible refine zT ?_ (by assumption)))))
    have hq := plan [0, 1, 2, 3, 4]
    iterate 5 (refine tk hq ?_ rfl (by kernel_rfl) (by assumption) (by rfl) (fun _ _ _ h => h) ?hy ?_; (case hy => (intro w hSw; (try dsimp only at hSw); go_simp; (try with_reducible rfl))); replace hq := hq.tl; (try simp only [Act.put, yA, yB, yC]))
    clear hq
    refine at2 5 9 rfl rfl (by kernel_rfl) (by rfl) (by rfl) (fun K hK => ?_) (fun K hK => ?_)
    focus
     go_simp
     (go_at_call 58; refine Calls.mono (HY.out _ (hS1.out _ (by assumption)).2 (hS1.out _ (by assumption)).1.inn) ?_; rintro e wa ⟨z0, z1, z2, M, rfl, hia, hMa, hba⟩; obtain ⟨x0, y0, rfl⟩ := own_slice' hia.r0; obtain ⟨x1, y1, rfl⟩ := own_slice' hia.r1; obtain ⟨x2, y2, rfl⟩ := own_slice' hia.r2; have hza := hba.size; (try simp at hza); obtain ⟨hca, hfa, hra, _⟩ := brow hba; replace hia := Lib.hid hia; replace hMa := Lib.hid hMa)
     refine hK.out _ _ ?_ (fun hHeld => ?_)
     focus (exact hS0.out _ (by (repeat (first | (with_reducible first | exact zR _ _ | exact zA _ _ | assumption | refine zL ?_ _ | refine zD ?_ | refine zN ?_ _) | ((with_reducible first | refine zC ?_ ?_ _ | refine zW ?_ ?_ _); rotate_left; focus (first | exact Nat.le_refl _ | (simp; done) | (simp; omega) | omega)) | with_reducible refine zT ?_ (by assumption)))))
     clear hK K
     (try simp only [Act.put, yA, yB, yC])
     have hq := plan [6, 7, 8]
     iterate 3 (refine tk hq ?_ rfl (by kernel_rfl) (by assumption) (by rfl) (fun _ _ _ h => h) ?hy ?_; (case hy => (intro w hSw; (try dsimp only at hSw); go_simp; (try with_reducible rfl))); replace hq := hq.tl; (try simp only [Act.put, yA, yB, yC]))
     clear hq
     refine ao 9 rfl (by kernel_rfl) (by rfl) (fun K hK => ?_)
     go_simp
     refine hK.out _ _ ?_ (fun hHeld => ?_)
     focus (exact hS0.out _ (by (repeat (first | (with_reducible first | exact zR _ _ | exact zA _ _ | assumption | refine zL ?_ _ | refine zD ?_ | refine zN ?_ _) | ((with_reducible first | refine zC ?_ ?_ _ | refine zW ?_ ?_ _); rotate_left; focus (first | exact Nat.le_refl _ | (simp; done) | (simp; omega) | omega)) | with_reducible refine zT ?_ (by assumption)))))
     clear hK K
     (try simp only [Act.put, yA, yB, yC])
     refine ao 10 rfl (by kernel_rfl) (by rfl) (fun K hK => ?_)
     refine wp_store (.tmp 5) (.tmp 16) rfl rfl rfl (run_storeRow (n := 10) (by kernel_rfl) (by repeat (first | exact row?_new (by simp) | exact row?_new rfl | (apply row?_below; assumption))) rfl rfl rfl) ?_
     refine hK.out _ _ ?_ (fun hHeld => ?_)
     focus (exact hS0.out _ (by (repeat (first | (with_reducible first | exact zR _ _ | exact zA _ _ | assumption | refine zL ?_ _ | refine zD ?_ | refine zN ?_ _) | ((with_reducible first | refine zC ?_ ?_ _ | refine zW ?_ ?_ _); rotate_left; focus (first | exact Nat.le_refl _ | (simp; done) | (simp; omega) | omega)) | with_reducible refine zT ?_ (by assumption)))))
     clear hK K
     (try simp only [Act.put, yA, yB, yC])
     have hq := plan [11]
     iterate 1 (refine tk hq ?_ rfl (by kernel_rfl) (by assumption) (by rfl) (fun _ _ _ h => h) ?hy ?_; (case hy => (intro w hSw; (try dsimp only at hSw); go_simp; (try with_reducible rfl))); replace hq := hq.tl; (try simp only [Act.put, yA, yB, yC]))
     clear hq
     refine any_done (by kernel_rfl) ?_
    rotate_left 1
    focus
     go_simp
     refine hK.out _ _ ?_ (fun hHeld => ?_)
     focus (exact hS0.out _ (by (repeat (first | (with_reducible first | exact zR _ _ | exact zA _ _ | assumption | refine zL ?_ _ | refine zD ?_ | refine zN ?_ _) | ((with_reducible first | refine zC ?_ ?_ _ | refine zW ?_ ?_ _); rotate_left; focus (first | exact Nat.le_refl _ | (simp; done) | (simp; omega) | omega)) | with_reducible refine zT ?_ (by assumption)))))
     clear hK K
     (try simp only [Act.put, yA, yB, yC])
     refine ao 5 rfl (by kernel_rfl) (by rfl) (fun K hK => ?_)
     go_simp
     (go_at_call 58; refine Calls.mono (HY.out _ (hS1.out _ (by assumption)).2 (hS1.out _ (by assumption)).1.inn) ?_; rintro e wa ⟨z0, z1, z2, M, rfl, hia, hMa, hba⟩; obtain ⟨x0, y0, rfl⟩ := own_slice' hia.r0; obtain ⟨x1, y1, rfl⟩ := own_slice' hia.r1; obtain ⟨x2, y2, rfl⟩ := own_slice' hia.r2; have hza := hba.size; (try simp at hza); obtain ⟨hca, hfa, hra, _⟩ := brow hba; replace hia := Lib.hid hia; replace hMa := Lib.hid hMa)
     refine hK.out _ _ ?_ (fun hHeld => ?_)
     focus (exact hS0.out _ (by (repeat (first | (with_reducible first | exact zR _ _ | exact zA _ _ | assumption | refine zL ?_ _ | refine zD ?_ | refine zN ?_ _) | ((with_reducible first | refine zC ?_ ?_ _ | refine zW ?_ ?_ _); rotate_left; focus (first | exact Nat.le_refl _ | (simp; done) | (simp; omega) | omega)) | with_reducible refine zT ?_ (by assumption)))))
     clear hK K
     (try simp only [Act.put, yA, yB, yC])
     have hq := plan [6, 7, 8]
     iterate 3 (refine tk hq ?_ rfl (by kernel_rfl) (by assumption) (by rfl) (fun _ _ _ h => h) ?hy ?_; (case hy => (intro w hSw; (try dsimp only at hSw); go_simp; (try with_reducible rfl))); replace hq := hq.tl; (try simp only [Act.put, yA, yB, yC]))
     clear hq
     refine ao 10 rfl (by kernel_rfl) (by rfl) (fun K hK => ?_)
     refine wp_store (.tmp 5) (.tmp 16) rfl rfl rfl (run_storeRow (n := 10) (by kernel_rfl) (by repeat (first | exact row?_new (by simp) | exact row?_new rfl | (apply row?_below; assumption))) rfl rfl rfl) ?_
     refine hK.out _ _ ?_ (fun hHeld => ?_)
     focus (exact hS0.out _ (by (repeat (first | (with_reducible first | exact zR _ _ | exact zA _ _ | assumption | refine zL ?_ _ | refine zD ?_ | refine zN ?_ _) | ((with_reducible first | refine zC ?_ ?_ _ | refine zW ?_ ?_ _); rotate_left; focus (first | exact Nat.le_refl _ | (simp; done) | (simp; omega) | omega)) | with_reducible refine zT ?_ (by assumption)))))
     clear hK K
     (try simp only [Act.put, yA, yB, yC])
     have hq := plan [11]
     iterate 1 (refine tk hq ?_ rfl (by kernel_rfl) (by assumption) (by rfl) (fun _ _ _ h => h) ?hy ?_; (case hy => (intro w hSw; (try dsimp only at hSw); go_simp; (try with_reducible rfl))); replace hq := hq.tl; (try simp only [Act.put, yA, yB, yC]))
     clear hq
     refine any_done (by kernel_rfl) ?_
    focus
      have hX5 : (wa.setRow (w.heap.size + 1) #[.int .i64 j.s0.party, .int .i64 j.s0.seq, .slice x0 j.s0.rows.length y0, .int .i64 j.s1.party, .int .i64 j.s1.seq, .slice x1 j.s1.rows.length y1, .int .i64 j.s2.party, .int .i64 j.s2.seq, .slice x2 j.s2.rows.length y2, .map (some M)]).heap[w.heap.size + 1]? = some (.cells #[.int .i64 j.s0.party, .int .i64 j.s0.seq, .slice x0 j.s0.rows.length y0, .int .i64 j.s1.party, .int .i64 j.s1.seq, .slice x1 j.s1.rows.length y1, .int .i64 j.s2.party, .int .i64 j.s2.seq, .slice x2 j.s2.rows.length y2, .map (some M)] 60 (0, 0)) := setRow_heap _ _ _ _ _ _ (heap_below hba (heap_at (by simp)))
      have hI := hia.out.keeps1 (X := w.heap.size + 1) (heap_below hba (heap_at (by simp))) (by decide) (w' := wa.setRow (w.heap.size + 1) #[.int .i64 j.s0.party, .int .i64 j.s0.seq, .slice x0 j.s0.rows.length y0, .int .i64 j.s1.party, .int .i64 j.s1.seq, .slice x1 j.s1.rows.length y1, .int .i64 j.s2.party, .int .i64 j.s2.seq, .slice x2 j.s2.rows.length y2, .map (some M)]) (by (repeat (first | (with_reducible exact Keeps.refl _ _) | (with_reducible assumption) | (with_reducible refine Keeps.alloc ?_ _) | ((with_reducible refine Keeps.setCell ?_ ?_ _); rotate_left; focus (first | (left; first | omega | (simp; done) | (simp; omega)) | (right; first | exact Nat.le_refl _ | (simp; done) | (simp; omega) | omega))) | ((with_reducible refine Keeps.setRow ?_ ?_ _); rotate_left; focus (first | (left; first | omega | (simp; done) | (simp; omega)) | (right; first | exact Nat.le_refl _ | (simp; done) | (simp; omega) | omega))) | (with_reducible refine Keeps.drew ?_) | (with_reducible refine Keeps.drewN ?_ _))))
      have hA : SAt w base pc pb P Q w.heap.size (w.heap.size + 1) vl vb (.slice q0 C.i.s0.rows.length k0) (.slice q1 C.i.s1.rows.length k1) (.slice q2 C.i.s2.rows.length k2) (.slice x0 j.s0.rows.length y0) (.slice x1 j.s1.rows.length y1) (.slice x2 j.s2.rows.length y2) (.slice rr rows.length nn) m M party sq j C (wa.setRow (w.heap.size + 1) #[.int .i64 j.s0.party, .int .i64 j.s0.seq, .slice x0 j.s0.rows.length y0, .int .i64 j.s1.party, .int .i64 j.s1.seq, .slice x1 j.s1.rows.length y1, .int .i64 j.s2.party, .int .i64 j.s2.seq, .slice x2 j.s2.rows.length y2, .map (some M)]) := by
        have hM := hMa.out
        have hlb := HC.out.books.lt
        simp at hM
        exact ⟨(hS1.out _ hHeld).1, hI, ⟨by omega, by omega⟩, heap_below (st13 hHeld).out (heap_alloc_new w _), hX5, (hS1.out _ hHeld).2.mono HC.out.low⟩
      generalize (wa.setRow (w.heap.size + 1) #[.int .i64 j.s0.party, .int .i64 j.s0.seq, .slice x0 j.s0.rows.length y0, .int .i64 j.s1.party, .int .i64 j.s1.seq, .slice x1 j.s1.rows.length y1, .int .i64 j.s2.party, .int .i64 j.s2.seq, .slice x2 j.s2.rows.length y2, .map (some M)]) = W5 at hA ⊢
      generalize w.heap.size + 1 = X5 at hA ⊢
      replace hA := Lib.hid hA
    rotate_left
    focus
      have hX5 : ((wa.alloc (.cells #[.int .i64 0, .int .i64 0, .slice none 0 0, .int .i64 0, .int .i64 0, .slice none 0 0, .int .i64 0, .int .i64 0, .slice none 0 0, .map none] 60)).setRow wa.heap.size #[.int .i64 j.s0.party, .int .i64 j.s0.seq, .slice x0 j.s0.rows.length y0, .int .i64 j.s1.party, .int .i64 j.s1.seq, .slice x1 j.s1.rows.length y1, .int .i64 j.s2.party, .int .i64 j.s2.seq, .slice x2 j.s2.rows.length y2, .map (some M)]).heap[wa.heap.size]? = some (.cells #[.int .i64 j.s0.party, .int .i64 j.s0.seq, .slice x0 j.s0.rows.length y0, .int .i64 j.s1.party, .int .i64 j.s1.seq, .slice x1 j.s1.rows.length y1, .int .i64 j.s2.party, .int .i64 j.s2.seq, .slice x2 j.s2.rows.length y2, .map (some M)] 60 (0, 0)) := setRow_heap _ _ _ _ _ _ (heap_at rfl)
      have hI := hia.out.below (w' := (wa.alloc (.cells #[.int .i64 0, .int .i64 0, .slice none 0 0, .int .i64 0, .int .i64 0, .slice none 0 0, .int .i64 0, .int .i64 0, .slice none 0 0, .map none] 60)).setRow wa.heap.size #[.int .i64 j.s0.party, .int .i64 j.s0.seq, .slice x0 j.s0.rows.length y0, .int .i64 j.s1.party, .int .i64 j.s1.seq, .slice x1 j.s1.rows.length y1, .int .i64 j.s2.party, .int .i64 j.s2.seq, .slice x2 j.s2.rows.length y2, .map (some M)]) (by (repeat (first | (with_reducible first | exact zR _ _ | exact zA _ _ | assumption | refine zL ?_ _ | refine zD ?_ | refine zN ?_ _) | ((with_reducible first | refine zC ?_ ?_ _ | refine zW ?_ ?_ _); rotate_left; focus (first | exact Nat.le_refl _ | (simp; done) | (simp; omega) | omega)) | with_reducible refine zT ?_ (by assumption))))
      have hA : SAt w base pc pb P Q w.heap.size (wa.heap.size) vl vb (.slice q0 C.i.s0.rows.length k0) (.slice q1 C.i.s1.rows.length k1) (.slice q2 C.i.s2.rows.length k2) (.slice x0 j.s0.rows.length y0) (.slice x1 j.s1.rows.length y1) (.slice x2 j.s2.rows.length y2) (.slice rr rows.length nn) m M party sq j C ((wa.alloc (.cells #[.int .i64 0, .int .i64 0, .slice none 0 0, .int .i64 0, .int .i64 0, .slice none 0 0, .int .i64 0, .int .i64 0, .slice none 0 0, .map none] 60)).setRow wa.heap.size #[.int .i64 j.s0.party, .int .i64 j.s0.seq, .slice x0 j.s0.rows.length y0, .int .i64 j.s1.party, .int .i64 j.s1.seq, .slice x1 j.s1.rows.length y1, .int .i64 j.s2.party, .int .i64 j.s2.seq, .slice x2 j.s2.rows.length y2, .map (some M)]) := by
        have hM := hMa.out
        have hlb := HC.out.books.lt
        simp at hM
        exact ⟨(hS1.out _ hHeld).1, hI, ⟨by omega, by omega⟩, heap_below (st13 hHeld).out (heap_alloc_new w _), hX5, (hS1.out _ hHeld).2.mono HC.out.low⟩
      generalize ((wa.alloc (.cells #[.int .i64 0, .int .i64 0, .slice none 0 0, .int .i64 0, .int .i64 0, .slice none 0 0, .int .i64 0, .int .i64 0, .slice none 0 0, .map none] 60)).setRow wa.heap.size #[.int .i64 j.s0.party, .int .i64 j.s0.seq, .slice x0 j.s0.rows.length y0, .int .i64 j.s1.party, .int .i64 j.s1.seq, .slice x1 j.s1.rows.length y1, .int .i64 j.s2.party, .int .i64 j.s2.seq, .slice x2 j.s2.rows.length y2, .map (some M)]) = W5 at hA ⊢
      generalize wa.heap.size = X5 at hA ⊢
      replace hA := Lib.hid hA
    rotate_left
    all_goals
      go_wp2
      go_loopw [7] (fun x W => RelStat w base pc pb P Q w.heap.size X5 vl (.slice q0 C.i.s0.rows.length k0) (.slice q1 C.i.s1.rows.length k1) (.slice q2 C.i.s2.rows.length k2) (.slice x0 j.s0.rows.length y0) (.slice x1 j.s1.rows.length y1) (.slice x2 j.s2.rows.length y2) (.slice rr rows.length nn) m M party sq j C sq x W) (fun x _ => (61 - intOf x).toNat)
      case atStart => exact ⟨0, _, by omega, rfl, hA.out⟩
      case round =>
        clear hA
        obtain ⟨k, vb, hk, rfl, hA⟩ := hrel
        by_cases hlt : k < 60
        · have hrj := inNet_range hA.inn ((k : Int) + 1)
          have hri := inNet_range hA.core.inn ((k : Int) + 1)
          simp only at hri
          have hlen := stmtPosts_l C.i j sq C.b k
          have htl := stmtText_len sq (k + 1) (by omega) (by omega)
          have hk64 : Sp.in64 ((k : Int) + 1) = true := by simp [Sp.in64]; omega
          have HI1 := Lib.hid (fun W (hW : Below wr.heap.size wr W) => Itoa_any sq W (by omega) (htab.out W (hA.low.trans (hW.mono hA.core.low))))
          have HI2 := Lib.hid (fun W (hW : Below wr.heap.size wr W) => Itoa_any (k + 1) W (by omega) (htab.out W (hA.low.trans (hW.mono hA.core.low))))
          rw [show (((k + 1 : Nat) : Int)) = (k : Int) + 1 from rfl] at HI2
          have HN1 := Lib.hid (fun W (hW : Below wr.heap.size wr W) => inNet_any W j _ _ _ (some M) ((k : Int) + 1) (hA.next hW).inn hk64)
          have HN2 := Lib.hid (fun W (hW : Below wr.heap.size wr W) => inNet_any W C.i _ _ _ m ((k : Int) + 1) (hA.next hW).core.inn hk64)
          have hposts : Sp.stmtPosts C.i j sq C.b (k + 1) = if Sp.inNet C.i ((k : Int) + 1) < Sp.inNet j ((k : Int) + 1) then (Sp.post (Sp.stmtPosts C.i j sq C.b k) ⟨Sp.stmtText sq (k + 1), (k : Int) + 1, 2, 1, Sp.inNet j ((k : Int) + 1) - Sp.inNet C.i ((k : Int) + 1)⟩).1 else if Sp.inNet j ((k : Int) + 1) < Sp.inNet C.i ((k : Int) + 1) then (Sp.post (Sp.stmtPosts C.i j sq C.b k) ⟨Sp.stmtText sq (k + 1), (k : Int) + 1, 1, 2, Sp.inNet C.i ((k : Int) + 1) - Sp.inNet j ((k : Int) + 1)⟩).1 else Sp.stmtPosts C.i j sq C.b k := rfl
          replace hlen := Lib.hid (show (Sp.stmtPosts C.i j sq C.b k).l.length < 1000000 by omega)
          replace hposts := Lib.hid hposts
          replace htl := Lib.hid htl
          generalize Sp.stmtPosts C.i j sq C.b k = bk at hA hlen hposts
          generalize Sp.inNet j ((k : Int) + 1) = nj at hrj HN1 hposts
          generalize Sp.inNet C.i ((k : Int) + 1) = ni at hri HN2 hposts
          have hS7 := Lib.hid (show ∀ W', Below wr.heap.size wr W' → (fun W' => W'.cell? ⟨pc, 2, none⟩ = some (.int .i64 C.i.s0.party) ∧ W'.cell? ⟨pc, 3, none⟩ = some (.int .i64 C.i.s0.seq) ∧ W'.cell? ⟨pc, 4, none⟩ = some (.slice q0 C.i.s0.rows.length k0) ∧ W'.cell? ⟨pc, 5, none⟩ = some (.int .i64 C.i.s1.party) ∧ W'.cell? ⟨pc, 6, none⟩ = some (.int .i64 C.i.s1.seq) ∧ W'.cell? ⟨pc, 7, none⟩ = some (.slice q1 C.i.s1.rows.length k1) ∧ W'.cell? ⟨pc, 8, none⟩ = some (.int .i64 C.i.s2.party) ∧ W'.cell? ⟨pc, 9, none⟩ = some (.int .i64 C.i.s2.seq) ∧ W'.cell? ⟨pc, 10, none⟩ = some (.slice q2 C.i.s2.rows.length k2) ∧ W'.cell? ⟨pc, 11, none⟩ = some (.map m) ∧ W'.cell? ⟨w.heap.size, 1, none⟩ = some (.int .i64 sq) ∧ W'.cell? ⟨X5, 0, none⟩ = some (.int .i64 j.s0.party) ∧ W'.cell? ⟨X5, 1, none⟩ = some (.int .i64 j.s0.seq) ∧ W'.cell? ⟨X5, 2, none⟩ = some (.slice x0 j.s0.rows.length y0) ∧ W'.cell? ⟨X5, 3, none⟩ = some (.int .i64 j.s1.party) ∧ W'.cell? ⟨X5, 4, none⟩ = some (.int .i64 j.s1.seq) ∧ W'.cell? ⟨X5, 5, none⟩ = some (.slice x1 j.s1.rows.length y1) ∧ W'.cell? ⟨X5, 6, none⟩ = some (.int .i64 j.s2.party) ∧ W'.cell? ⟨X5, 7, none⟩ = some (.int .i64 j.s2.seq) ∧ W'.cell? ⟨X5, 8, none⟩ = some (.slice x2 j.s2.rows.length y2) ∧ W'.cell? ⟨X5, 9, none⟩ = some (.map (some M)) ∧ Hid (Below wr.heap.size wr W')) W' from fun W' hb => by
            have hh := cells_at (hA.next hb).core.head
            have q3 := cells_at (hA.next hb).x3
            have q5 := cells_at (hA.next hb).x5
            exact ⟨hh 2, hh 3, hh 4, hh 5, hh 6, hh 7, hh 8, hh 9, hh 10, hh 11, q3 1, q5 0, q5 1, q5 2, q5 3, q5 4, q5 5, q5 6, q5 7, q5 8, q5 9, Lib.hid hb⟩)
          have hS7b := Lib.hid (fun W' (h : (fun W' => W'.cell? ⟨pc, 2, none⟩ = some (.int .i64 C.i.s0.party) ∧ W'.cell? ⟨pc, 3, none⟩ = some (.int .i64 C.i.s0.seq) ∧ W'.cell? ⟨pc, 4, none⟩ = some (.slice q0 C.i.s0.rows.length k0) ∧ W'.cell? ⟨pc, 5, none⟩ = some (.int .i64 C.i.s1.party) ∧ W'.cell? ⟨pc, 6, none⟩ = some (.int .i64 C.i.s1.seq) ∧ W'.cell? ⟨pc, 7, none⟩ = some (.slice q1 C.i.s1.rows.length k1) ∧ W'.cell? ⟨pc, 8, none⟩ = some (.int .i64 C.i.s2.party) ∧ W'.cell? ⟨pc, 9, none⟩ = some (.int .i64 C.i.s2.seq) ∧ W'.cell? ⟨pc, 10, none⟩ = some (.slice q2 C.i.s2.rows.length k2) ∧ W'.cell? ⟨pc, 11, none⟩ = some (.map m) ∧ W'.cell? ⟨w.heap.size, 1, none⟩ = some (.int .i64 sq) ∧ W'.cell? ⟨X5, 0, none⟩ = some (.int .i64 j.s0.party) ∧ W'.cell? ⟨X5, 1, none⟩ = some (.int .i64 j.s0.seq) ∧ W'.cell? ⟨X5, 2, none⟩ = some (.slice x0 j.s0.rows.length y0) ∧ W'.cell? ⟨X5, 3, none⟩ = some (.int .i64 j.s1.party) ∧ W'.cell? ⟨X5, 4, none⟩ = some (.int .i64 j.s1.seq) ∧ W'.cell? ⟨X5, 5, none⟩ = some (.slice x1 j.s1.rows.length y1) ∧ W'.cell? ⟨X5, 6, none⟩ = some (.int .i64 j.s2.party) ∧ W'.cell? ⟨X5, 7, none⟩ = some (.int .i64 j.s2.seq) ∧ W'.cell? ⟨X5, 8, none⟩ = some (.slice x2 j.s2.rows.length y2) ∧ W'.cell? ⟨X5, 9, none⟩ = some (.map (some M)) ∧ Hid (Below wr.heap.size wr W')) W') => (and21 h).out)
          have hE : ((⟨#[115]⟩ : ByteArray) ++ str (Sp.dec sq) ++ ⟨#[45]⟩ ++ str (Sp.dec (k + 1))) = str (Sp.stmtText sq (k + 1)) := by
            rw [show (⟨#[115]⟩ : ByteArray) = str [115] from rfl, show (⟨#[45]⟩ : ByteArray) = str [45] from rfl]
            simp [Sp.stmtText]
          replace hE := Lib.hid hE
          have hl1 := Sp.dec_len 20 sq (by omega) (by omega)
          have hl2 := Sp.dec_len 2 (k + 1) (by omega) (by omega)
          have A1 : (9223372036854775807 < 1 + (Sp.dec sq).length) = False := eq_false (by omega)
          have A2 : (9223372036854775807 < 1 + (Sp.dec sq).length + 1) = False := eq_false (by omega)
          have A3 : (9223372036854775807 < 1 + (Sp.dec sq).length + 1 + (Sp.dec (k + 1)).length) = False := eq_false (by omega)
          have hw : IntKind.i64.wrap (nj - ni) = nj - ni := by rw [IntKind.wrap_i64]; omega
          replace hA := Lib.hid hA
          clear hk64
          go_wp2
          refine any_begin (S := (fun W' => W'.cell? ⟨pc, 2, none⟩ = some (.int .i64 C.i.s0.party) ∧ W'.cell? ⟨pc, 3, none⟩ = some (.int .i64 C.i.s0.seq) ∧ W'.cell? ⟨pc, 4, none⟩ = some (.slice q0 C.i.s0.rows.length k0) ∧ W'.cell? ⟨pc, 5, none⟩ = some (.int .i64 C.i.s1.party) ∧ W'.cell? ⟨pc, 6, none⟩ = some (.int .i64 C.i.s1.seq) ∧ W'.cell? ⟨pc, 7, none⟩ = some (.slice q1 C.i.s1.rows.length k1) ∧ W'.cell? ⟨pc, 8, none⟩ = some (.int .i64 C.i.s2.party) ∧ W'.cell? ⟨pc, 9, none⟩ = some (.int .i64 C.i.s2.seq) ∧ W'.cell? ⟨pc, 10, none⟩ = some (.slice q2 C.i.s2.rows.length k2) ∧ W'.cell? ⟨pc, 11, none⟩ = some (.map m) ∧ W'.cell? ⟨w.heap.size, 1, none⟩ = some (.int .i64 sq) ∧ W'.cell? ⟨X5, 0, none⟩ = some (.int .i64 j.s0.party) ∧ W'.cell? ⟨X5, 1, none⟩ = some (.int .i64 j.s0.seq) ∧ W'.cell? ⟨X5, 2, none⟩ = some (.slice x0 j.s0.rows.length y0) ∧ W'.cell? ⟨X5, 3, none⟩ = some (.int .i64 j.s1.party) ∧ W'.cell? ⟨X5, 4, none⟩ = some (.int .i64 j.s1.seq) ∧ W'.cell? ⟨X5, 5, none⟩ = some (.slice x1 j.s1.rows.length y1) ∧ W'.cell? ⟨X5, 6, none⟩ = some (.int .i64 j.s2.party) ∧ W'.cell? ⟨X5, 7, none⟩ = some (.int .i64 j.s2.seq) ∧ W'.cell? ⟨X5, 8, none⟩ = some (.slice x2 j.s2.rows.length y2) ∧ W'.cell? ⟨X5, 9, none⟩ = some (.map (some M)) ∧ Hid (Below wr.heap.size wr W'))) 22 (by kernel_rfl) ?_ (fun hHeld => ?_)
          focus (exact hS7.out _ (by (repeat (first | (with_reducible first | exact zR _ _ | exact zA _ _ | assumption | refine zL ?_ _ | refine zD ?_ | refine zN ?_ _) | ((with_reducible first | refine zC ?_ ?_ _ | refine zW ?_ ?_ _); rotate_left; focus (first | exact Nat.le_refl _ | (simp; done) | (simp; omega) | omega)) | with_reducible refine zT ?_ (by assumption)))))
          have hq := plan [0, 1, 5, 8, 9, 10, 12, 13, 14, 15, 16]
          iterate 11 (refine tk hq ?_ rfl (by kernel_rfl) (by assumption) (by rfl) (fun _ _ _ h => h) ?hy ?_; (case hy => (intro w hSw; (try dsimp only at hSw); go_simp; (try with_reducible rfl))); replace hq := hq.tl; (try simp only [Act.put, yA, yB, yC]))
          clear hq
          refine at2 2 20 rfl rfl (by kernel_rfl) (by rfl) (by rfl) (fun K hK => ?_) (fun K hK => ?_)
          focus
           go_simp; go_at_call 59; refine Calls.mono (HI1.out _ (hS7b.out _ (by assumption))) ?_; rintro e w1 ⟨rfl, hb1⟩; obtain ⟨hc1, hf1, hr1, hz1⟩ := brow hb1; (try simp at hz1)
           refine hK.out _ _ ?_ (fun hHeld => ?_)
           focus (exact hS7.out _ (by (repeat (first | (with_reducible first | exact zR _ _ | exact zA _ _ | assumption | refine zL ?_ _ | refine zD ?_ | refine zN ?_ _) | ((with_reducible first | refine zC ?_ ?_ _ | refine zW ?_ ?_ _); rotate_left; focus (first | exact Nat.le_refl _ | (simp; done) | (simp; omega) | omega)) | with_reducible refine zT ?_ (by assumption)))))
           clear hK K
           (try simp only [Act.put, yA, yB, yC])
           have hq := plan [3, 4]
           iterate 2 (refine tk hq ?_ rfl (by kernel_rfl) (by assumption) (by rfl) (fun _ _ _ h => h) ?hy ?_; (case hy => (intro w hSw; (try dsimp only at hSw); go_simp; (try with_reducible rfl))); replace hq := hq.tl; (try simp only [Act.put, yA, yB, yC]))
           clear hq
           refine at2 6 20 rfl rfl (by kernel_rfl) (by rfl) (by rfl) (fun K hK => ?_) (fun K hK => ?_)
           focus
            go_simp; go_at_call 59; refine Calls.mono (HI2.out _ (hS7b.out _ (by assumption))) ?_; rintro e w2 ⟨rfl, hb2⟩; obtain ⟨hc2, hf2, hr2, hz2⟩ := brow hb2; (try simp at hz2)
            refine hK.out _ _ ?_ (fun hHeld => ?_)
            focus (exact hS7.out _ (by (repeat (first | (with_reducible first | exact zR _ _ | exact zA _ _ | assumption | refine zL ?_ _ | refine zD ?_ | refine zN ?_ _) | ((with_reducible first | refine zC ?_ ?_ _ | refine zW ?_ ?_ _); rotate_left; focus (first | exact Nat.le_refl _ | (simp; done) | (simp; omega) | omega)) | with_reducible refine zT ?_ (by assumption)))))
            clear hK K
            (try simp only [Act.put, yA, yB, yC])
            have hq := plan [7]
            iterate 1 (refine tk hq ?_ rfl (by kernel_rfl) (by assumption) (by rfl) (fun _ _ _ h => h) ?hy ?_; (case hy => (intro w hSw; (try dsimp only at hSw); go_simp; (try with_reducible rfl))); replace hq := hq.tl; (try simp only [Act.put, yA, yB, yC]))
            clear hq
            refine at2 11 20 rfl rfl (by kernel_rfl) (by rfl) (by rfl) (fun K hK => ?_) (fun K hK => ?_)
            focus
             go_simp; go_at_call 60; refine Calls.mono (HN1.out _ (hS7b.out _ (by assumption))) ?_; rintro e w3 ⟨rfl, hb3⟩; obtain ⟨hc3, hf3, hr3, hz3⟩ := brow hb3; (try simp at hz3)
             refine hK.out _ _ ?_ (fun hHeld => ?_)
             focus (exact hS7.out _ (by (repeat (first | (with_reducible first | exact zR _ _ | exact zA _ _ | assumption | refine zL ?_ _ | refine zD ?_ | refine zN ?_ _) | ((with_reducible first | refine zC ?_ ?_ _ | refine zW ?_ ?_ _); rotate_left; focus (first | exact Nat.le_refl _ | (simp; done) | (simp; omega) | omega)) | with_reducible refine zT ?_ (by assumption)))))
             clear hK K
             (try simp only [Act.put, yA, yB, yC])
             refine at2 17 20 rfl rfl (by kernel_rfl) (by rfl) (by rfl) (fun K hK => ?_) (fun K hK => ?_)
             focus
              go_simp; go_at_call 60; refine Calls.mono (HN2.out _ (hS7b.out _ (by assumption))) ?_; rintro e w4 ⟨rfl, hb4⟩; obtain ⟨hc4, hf4, hr4, hz4⟩ := brow hb4; (try simp at hz4)
              refine hK.out _ _ ?_ (fun hHeld => ?_)
              focus (exact hS7.out _ (by (repeat (first | (with_reducible first | exact zR _ _ | exact zA _ _ | assumption | refine zL ?_ _ | refine zD ?_ | refine zN ?_ _) | ((with_reducible first | refine zC ?_ ?_ _ | refine zW ?_ ?_ _); rotate_left; focus (first | exact Nat.le_refl _ | (simp; done) | (simp; omega) | omega)) | with_reducible refine zT ?_ (by assumption)))))
              clear hK K
              (try simp only [Act.put, yA, yB, yC])
              have hq := plan [18, 19]
              iterate 2 (refine tk hq ?_ rfl (by kernel_rfl) (by assumption) (by rfl) (fun _ _ _ h => h) ?hy ?_; (case hy => (intro w hSw; (try dsimp only at hSw); go_simp; (try with_reducible rfl))); replace hq := hq.tl; (try simp only [Act.put, yA, yB, yC]))
              clear hq
              refine ao 20 rfl (by kernel_rfl) (by rfl) (fun K hK => ?_)
              go_simp
              refine hK.out _ _ ?_ (fun hHeld => ?_)
              focus (exact hS7.out _ (by (repeat (first | (with_reducible first | exact zR _ _ | exact zA _ _ | assumption | refine zL ?_ _ | refine zD ?_ | refine zN ?_ _) | ((with_reducible first | refine zC ?_ ?_ _ | refine zW ?_ ?_ _); rotate_left; focus (first | exact Nat.le_refl _ | (simp; done) | (simp; omega) | omega)) | with_reducible refine zT ?_ (by assumption)))))
              clear hK K
              (try simp only [Act.put, yA, yB, yC])
              refine ao 21 rfl (by kernel_rfl) (by rfl) (fun K hK => ?_)
              refine wp_store (.tmp 8) (.tmp 44) rfl rfl rfl (run_storeRow (n := 5) (by kernel_rfl) (by repeat (first | exact row?_new (by simp) | exact row?_new rfl | (apply row?_below; assumption))) rfl rfl rfl) ?_
              refine hK.out _ _ ?_ (fun hHeld => ?_)
              focus (exact hS7.out _ (by (repeat (first | (with_reducible first | exact zR _ _ | exact zA _ _ | assumption | refine zL ?_ _ | refine zD ?_ | refine zN ?_ _) | ((with_reducible first | refine zC ?_ ?_ _ | refine zW ?_ ?_ _); rotate_left; focus (first | exact Nat.le_refl _ | (simp; done) | (simp; omega) | omega)) | with_reducible refine zT ?_ (by assumption)))))
              clear hK K
              (try simp only [Act.put, yA, yB, yC])
              refine any_done (by kernel_rfl) ?_
             rotate_left 1
             focus
              go_simp
              refine hK.out _ _ ?_ (fun hHeld => ?_)
              focus (exact hS7.out _ (by (repeat (first | (with_reducible first | exact zR _ _ | exact zA _ _ | assumption | refine zL ?_ _ | refine zD ?_ | refine zN ?_ _) | ((with_reducible first | refine zC ?_ ?_ _ | refine zW ?_ ?_ _); rotate_left; focus (first | exact Nat.le_refl _ | (simp; done) | (simp; omega) | omega)) | with_reducible refine zT ?_ (by assumption)))))
              clear hK K
              (try simp only [Act.put, yA, yB, yC])
              refine ao 17 rfl (by kernel_rfl) (by rfl) (fun K hK => ?_)
              go_simp; go_at_call 60; refine Calls.mono (HN2.out _ (hS7b.out _ (by assumption))) ?_; rintro e w4 ⟨rfl, hb4⟩; obtain ⟨hc4, hf4, hr4, hz4⟩ := brow hb4; (try simp at hz4)
              refine hK.out _ _ ?_ (fun hHeld => ?_)
              focus (exact hS7.out _ (by (repeat (first | (with_reducible first | exact zR _ _ | exact zA _ _ | assumption | refine zL ?_ _ | refine zD ?_ | refine zN ?_ _) | ((with_reducible first | refine zC ?_ ?_ _ | refine zW ?_ ?_ _); rotate_left; focus (first | exact Nat.le_refl _ | (simp; done) | (simp; omega) | omega)) | with_reducible refine zT ?_ (by assumption)))))
              clear hK K
              (try simp only [Act.put, yA, yB, yC])
              have hq := plan [18, 19]
              iterate 2 (refine tk hq ?_ rfl (by kernel_rfl) (by assumption) (by rfl) (fun _ _ _ h => h) ?hy ?_; (case hy => (intro w hSw; (try dsimp only at hSw); go_simp; (try with_reducible rfl))); replace hq := hq.tl; (try simp only [Act.put, yA, yB, yC]))
              clear hq
              refine ao 21 rfl (by kernel_rfl) (by rfl) (fun K hK => ?_)
              refine wp_store (.tmp 8) (.tmp 44) rfl rfl rfl (run_storeRow (n := 5) (by kernel_rfl) (by repeat (first | exact row?_new (by simp) | exact row?_new rfl | (apply row?_below; assumption))) rfl rfl rfl) ?_
              refine hK.out _ _ ?_ (fun hHeld => ?_)
              focus (exact hS7.out _ (by (repeat (first | (with_reducible first | exact zR _ _ | exact zA _ _ | assumption | refine zL ?_ _ | refine zD ?_ | refine zN ?_ _) | ((with_reducible first | refine zC ?_ ?_ _ | refine zW ?_ ?_ _); rotate_left; focus (first | exact Nat.le_refl _ | (simp; done) | (simp; omega) | omega)) | with_reducible refine zT ?_ (by assumption)))))
              clear hK K
              (try simp only [Act.put, yA, yB, yC])
              refine any_done (by kernel_rfl) ?_
            rotate_left 2
            focus
             go_simp
             refine hK.out _ _ ?_ (fun hHeld => ?_)
             focus (exact hS7.out _ (by (repeat (first | (with_reducible first | exact zR _ _ | exact zA _ _ | assumption | refine zL ?_ _ | refine zD ?_ | refine zN ?_ _) | ((with_reducible first | refine zC ?_ ?_ _ | refine zW ?_ ?_ _); rotate_left; focus (first | exact Nat.le_refl _ | (simp; done) | (simp; omega) | omega)) | with_reducible refine zT ?_ (by assumption)))))
             clear hK K
             (try simp only [Act.put, yA, yB, yC])
             refine ao 11 rfl (by kernel_rfl) (by rfl) (fun K hK => ?_)
             go_simp; go_at_call 60; refine Calls.mono (HN1.out _ (hS7b.out _ (by assumption))) ?_; rintro e w3 ⟨rfl, hb3⟩; obtain ⟨hc3, hf3, hr3, hz3⟩ := brow hb3; (try simp at hz3)
             refine hK.out _ _ ?_ (fun hHeld => ?_)
             focus (exact hS7.out _ (by (repeat (first | (with_reducible first | exact zR _ _ | exact zA _ _ | assumption | refine zL ?_ _ | refine zD ?_ | refine zN ?_ _) | ((with_reducible first | refine zC ?_ ?_ _ | refine zW ?_ ?_ _); rotate_left; focus (first | exact Nat.le_refl _ | (simp; done) | (simp; omega) | omega)) | with_reducible refine zT ?_ (by assumption)))))
             clear hK K
             (try simp only [Act.put, yA, yB, yC])
             refine ao 17 rfl (by kernel_rfl) (by rfl) (fun K hK => ?_)
             go_simp; go_at_call 60; refine Calls.mono (HN2.out _ (hS7b.out _ (by assumption))) ?_; rintro e w4 ⟨rfl, hb4⟩; obtain ⟨hc4, hf4, hr4, hz4⟩ := brow hb4; (try simp at hz4)
             refine hK.out _ _ ?_ (fun hHeld => ?_)
             focus (exact hS7.out _ (by (repeat (first | (with_reducible first | exact zR _ _ | exact zA _ _ | assumption | refine zL ?_ _ | refine zD ?_ | refine zN ?_ _) | ((with_reducible first | refine zC ?_ ?_ _ | refine zW ?_ ?_ _); rotate_left; focus (first | exact Nat.le_refl _ | (simp; done) | (simp; omega) | omega)) | with_reducible refine zT ?_ (by assumption)))))
             clear hK K
             (try simp only [Act.put, yA, yB, yC])
             have hq := plan [18, 19]
             iterate 2 (refine tk hq ?_ rfl (by kernel_rfl) (by assumption) (by rfl) (fun _ _ _ h => h) ?hy ?_; (case hy => (intro w hSw; (try dsimp only at hSw); go_simp; (try with_reducible rfl))); replace hq := hq.tl; (try simp only [Act.put, yA, yB, yC]))
             clear hq
             refine ao 21 rfl (by kernel_rfl) (by rfl) (fun K hK => ?_)
             refine wp_store (.tmp 8) (.tmp 44) rfl rfl rfl (run_storeRow (n := 5) (by kernel_rfl) (by repeat (first | exact row?_new (by simp) | exact row?_new rfl | (apply row?_below; assumption))) rfl rfl rfl) ?_
             refine hK.out _ _ ?_ (fun hHeld => ?_)
             focus (exact hS7.out _ (by (repeat (first | (with_reducible first | exact zR _ _ | exact zA _ _ | assumption | refine zL ?_ _ | refine zD ?_ | refine zN ?_ _) | ((with_reducible first | refine zC ?_ ?_ _ | refine zW ?_ ?_ _); rotate_left; focus (first | exact Nat.le_refl _ | (simp; done) | (simp; omega) | omega)) | with_reducible refine zT ?_ (by assumption)))))
             clear hK K
             (try simp only [Act.put, yA, yB, yC])
             refine any_done (by kernel_rfl) ?_
           rotate_left 3
           focus
            go_simp
            refine hK.out _ _ ?_ (fun hHeld => ?_)
            focus (exact hS7.out _ (by (repeat (first | (with_reducible first | exact zR _ _ | exact zA _ _ | assumption | refine zL ?_ _ | refine zD ?_ | refine zN ?_ _) | ((with_reducible first | refine zC ?_ ?_ _ | refine zW ?_ ?_ _); rotate_left; focus (first | exact Nat.le_refl _ | (simp; done) | (simp; omega) | omega)) | with_reducible refine zT ?_ (by assumption)))))
            clear hK K
            (try simp only [Act.put, yA, yB, yC])
            refine ao 6 rfl (by kernel_rfl) (by rfl) (fun K hK => ?_)
            go_simp; go_at_call 59; refine Calls.mono (HI2.out _ (hS7b.out _ (by assumption))) ?_; rintro e w2 ⟨rfl, hb2⟩; obtain ⟨hc2, hf2, hr2, hz2⟩ := brow hb2; (try simp at hz2)
            refine hK.out _ _ ?_ (fun hHeld => ?_)
            focus (exact hS7.out _ (by (repeat (first | (with_reducible first | exact zR _ _ | exact zA _ _ | assumption | refine zL ?_ _ | refine zD ?_ | refine zN ?_ _) | ((with_reducible first | refine zC ?_ ?_ _ | refine zW ?_ ?_ _); rotate_left; focus (first | exact Nat.le_refl _ | (simp; done) | (simp; omega) | omega)) | with_reducible refine zT ?_ (by assumption)))))
            clear hK K
            (try simp only [Act.put, yA, yB, yC])
            have hq := plan [7]
            iterate 1 (refine tk hq ?_ rfl (by kernel_rfl) (by assumption) (by rfl) (fun _ _ _ h => h) ?hy ?_; (case hy => (intro w hSw; (try dsimp only at hSw); go_simp; (try with_reducible rfl))); replace hq := hq.tl; (try simp only [Act.put, yA, yB, yC]))
            clear hq
            refine ao 11 rfl (by kernel_rfl) (by rfl) (fun K hK => ?_)
            go_simp; go_at_call 60; refine Calls.mono (HN1.out _ (hS7b.out _ (by assumption))) ?_; rintro e w3 ⟨rfl, hb3⟩; obtain ⟨hc3, hf3, hr3, hz3⟩ := brow hb3; (try simp at hz3)
            refine hK.out _ _ ?_ (fun hHeld => ?_)
            focus (exact hS7.out _ (by (repeat (first | (with_reducible first | exact zR _ _ | exact zA _ _ | assumption | refine zL ?_ _ | refine zD ?_ | refine zN ?_ _) | ((with_reducible first | refine zC ?_ ?_ _ | refine zW ?_ ?_ _); rotate_left; focus (first | exact Nat.le_refl _ | (simp; done) | (simp; omega) | omega)) | with_reducible refine zT ?_ (by assumption)))))
            clear hK K
            (try simp only [Act.put, yA, yB, yC])
            refine ao 17 rfl (by kernel_rfl) (by rfl) (fun K hK => ?_)
            go_simp; go_at_call 60; refine Calls.mono (HN2.out _ (hS7b.out _ (by assumption))) ?_; rintro e w4 ⟨rfl, hb4⟩; obtain ⟨hc4, hf4, hr4, hz4⟩ := brow hb4; (try simp at hz4)
            refine hK.out _ _ ?_ (fun hHeld => ?_)
            focus (exact hS7.out _ (by (repeat (first | (with_reducible first | exact zR _ _ | exact zA _ _ | assumption | refine zL ?_ _ | refine zD ?_ | refine zN ?_ _) | ((with_reducible first | refine zC ?_ ?_ _ | refine zW ?_ ?_ _); rotate_left; focus (first | exact Nat.le_refl _ | (simp; done) | (simp; omega) | omega)) | with_reducible refine zT ?_ (by assumption)))))
            clear hK K
            (try simp only [Act.put, yA, yB, yC])
            have hq := plan [18, 19]
            iterate 2 (refine tk hq ?_ rfl (by kernel_rfl) (by assumption) (by rfl) (fun _ _ _ h => h) ?hy ?_; (case hy => (intro w hSw; (try dsimp only at hSw); go_simp; (try with_reducible rfl))); replace hq := hq.tl; (try simp only [Act.put, yA, yB, yC]))
            clear hq
            refine ao 21 rfl (by kernel_rfl) (by rfl) (fun K hK => ?_)
            refine wp_store (.tmp 8) (.tmp 44) rfl rfl rfl (run_storeRow (n := 5) (by kernel_rfl) (by repeat (first | exact row?_new (by simp) | exact row?_new rfl | (apply row?_below; assumption))) rfl rfl rfl) ?_
            refine hK.out _ _ ?_ (fun hHeld => ?_)
            focus (exact hS7.out _ (by (repeat (first | (with_reducible first | exact zR _ _ | exact zA _ _ | assumption | refine zL ?_ _ | refine zD ?_ | refine zN ?_ _) | ((with_reducible first | refine zC ?_ ?_ _ | refine zW ?_ ?_ _); rotate_left; focus (first | exact Nat.le_refl _ | (simp; done) | (simp; omega) | omega)) | with_reducible refine zT ?_ (by assumption)))))
            clear hK K
            (try simp only [Act.put, yA, yB, yC])
            refine any_done (by kernel_rfl) ?_
          rotate_left 4
          focus
           go_simp
           refine hK.out _ _ ?_ (fun hHeld => ?_)
           focus (exact hS7.out _ (by (repeat (first | (with_reducible first | exact zR _ _ | exact zA _ _ | assumption | refine zL ?_ _ | refine zD ?_ | refine zN ?_ _) | ((with_reducible first | refine zC ?_ ?_ _ | refine zW ?_ ?_ _); rotate_left; focus (first | exact Nat.le_refl _ | (simp; done) | (simp; omega) | omega)) | with_reducible refine zT ?_ (by assumption)))))
           clear hK K
           (try simp only [Act.put, yA, yB, yC])
           refine ao 2 rfl (by kernel_rfl) (by rfl) (fun K hK => ?_)
           go_simp; go_at_call 59; refine Calls.mono (HI1.out _ (hS7b.out _ (by assumption))) ?_; rintro e w1 ⟨rfl, hb1⟩; obtain ⟨hc1, hf1, hr1, hz1⟩ := brow hb1; (try simp at hz1)
           refine hK.out _ _ ?_ (fun hHeld => ?_)
           focus (exact hS7.out _ (by (repeat (first | (with_reducible first | exact zR _ _ | exact zA _ _ | assumption | refine zL ?_ _ | refine zD ?_ | refine zN ?_ _) | ((with_reducible first | refine zC ?_ ?_ _ | refine zW ?_ ?_ _); rotate_left; focus (first | exact Nat.le_refl _ | (simp; done) | (simp; omega) | omega)) | with_reducible refine zT ?_ (by assumption)))))
           clear hK K
           (try simp only [Act.put, yA, yB, yC])
           have hq := plan [3, 4]
           iterate 2 (refine tk hq ?_ rfl (by kernel_rfl) (by assumption) (by rfl) (fun _ _ _ h => h) ?hy ?_; (case hy => (intro w hSw; (try dsimp only at hSw); go_simp; (try with_reducible rfl))); replace hq := hq.tl; (try simp only [Act.put, yA, yB, yC]))
           clear hq
           refine ao 6 rfl (by kernel_rfl) (by rfl) (fun K hK => ?_)
           go_simp; go_at_call 59; refine Calls.mono (HI2.out _ (hS7b.out _ (by assumption))) ?_; rintro e w2 ⟨rfl, hb2⟩; obtain ⟨hc2, hf2, hr2, hz2⟩ := brow hb2; (try simp at hz2)
           refine hK.out _ _ ?_ (fun hHeld => ?_)
           focus (exact hS7.out _ (by (repeat (first | (with_reducible first | exact zR _ _ | exact zA _ _ | assumption | refine zL ?_ _ | refine zD ?_ | refine zN ?_ _) | ((with_reducible first | refine zC ?_ ?_ _ | refine zW ?_ ?_ _); rotate_left; focus (first | exact Nat.le_refl _ | (simp; done) | (simp; omega) | omega)) | with_reducible refine zT ?_ (by assumption)))))
           clear hK K
           (try simp only [Act.put, yA, yB, yC])
           have hq := plan [7]
           iterate 1 (refine tk hq ?_ rfl (by kernel_rfl) (by assumption) (by rfl) (fun _ _ _ h => h) ?hy ?_; (case hy => (intro w hSw; (try dsimp only at hSw); go_simp; (try with_reducible rfl))); replace hq := hq.tl; (try simp only [Act.put, yA, yB, yC]))
           clear hq
           refine ao 11 rfl (by kernel_rfl) (by rfl) (fun K hK => ?_)
           go_simp; go_at_call 60; refine Calls.mono (HN1.out _ (hS7b.out _ (by assumption))) ?_; rintro e w3 ⟨rfl, hb3⟩; obtain ⟨hc3, hf3, hr3, hz3⟩ := brow hb3; (try simp at hz3)
           refine hK.out _ _ ?_ (fun hHeld => ?_)
           focus (exact hS7.out _ (by (repeat (first | (with_reducible first | exact zR _ _ | exact zA _ _ | assumption | refine zL ?_ _ | refine zD ?_ | refine zN ?_ _) | ((with_reducible first | refine zC ?_ ?_ _ | refine zW ?_ ?_ _); rotate_left; focus (first | exact Nat.le_refl _ | (simp; done) | (simp; omega) | omega)) | with_reducible refine zT ?_ (by assumption)))))
           clear hK K
           (try simp only [Act.put, yA, yB, yC])
           refine ao 17 rfl (by kernel_rfl) (by rfl) (fun K hK => ?_)
           go_simp; go_at_call 60; refine Calls.mono (HN2.out _ (hS7b.out _ (by assumption))) ?_; rintro e w4 ⟨rfl, hb4⟩; obtain ⟨hc4, hf4, hr4, hz4⟩ := brow hb4; (try simp at hz4)
           refine hK.out _ _ ?_ (fun hHeld => ?_)
           focus (exact hS7.out _ (by (repeat (first | (with_reducible first | exact zR _ _ | exact zA _ _ | assumption | refine zL ?_ _ | refine zD ?_ | refine zN ?_ _) | ((with_reducible first | refine zC ?_ ?_ _ | refine zW ?_ ?_ _); rotate_left; focus (first | exact Nat.le_refl _ | (simp; done) | (simp; omega) | omega)) | with_reducible refine zT ?_ (by assumption)))))
           clear hK K
           (try simp only [Act.put, yA, yB, yC])
           have hq := plan [18, 19]
           iterate 2 (refine tk hq ?_ rfl (by kernel_rfl) (by assumption) (by rfl) (fun _ _ _ h => h) ?hy ?_; (case hy => (intro w hSw; (try dsimp only at hSw); go_simp; (try with_reducible rfl))); replace hq := hq.tl; (try simp only [Act.put, yA, yB, yC]))
           clear hq
           refine ao 21 rfl (by kernel_rfl) (by rfl) (fun K hK => ?_)
           refine wp_store (.tmp 8) (.tmp 44) rfl rfl rfl (run_storeRow (n := 5) (by kernel_rfl) (by repeat (first | exact row?_new (by simp) | exact row?_new rfl | (apply row?_below; assumption))) rfl rfl rfl) ?_
           refine hK.out _ _ ?_ (fun hHeld => ?_)
           focus (exact hS7.out _ (by (repeat (first | (with_reducible first | exact zR _ _ | exact zA _ _ | assumption | refine zL ?_ _ | refine zD ?_ | refine zN ?_ _) | ((with_reducible first | refine zC ?_ ?_ _ | refine zW ?_ ?_ _); rotate_left; focus (first | exact Nat.le_refl _ | (simp; done) | (simp; omega) | omega)) | with_reducible refine zT ?_ (by assumption)))))
           clear hK K
           (try simp only [Act.put, yA, yB, yC])
           refine any_done (by kernel_rfl) ?_
          focus
            rw [hE.out]
            have hbox : (w4.setRow wr.heap.size #[.string (str (Sp.stmtText sq (k + 1))), .int .i64 ((k : Int) + 1), .int .i64 2, .int .i64 1, .int .i64 (nj - ni)]).heap[wr.heap.size]? = some (.cells #[.string (str (Sp.stmtText sq (k + 1))), .int .i64 ((k : Int) + 1), .int .i64 2, .int .i64 1, .int .i64 (nj - ni)] 92 (0, 0)) := setRow_heap _ _ _ _ _ _ (heap_below hb4 (heap_below hb3 (heap_below hb2 (heap_below hb1 (heap_at (by simp))))))
            have hb8 := Lib.hid (hS7b.out _ hHeld)
            rw [hE.out] at hb8
            clear hHeld
            generalize (w4.setRow wr.heap.size #[.string (str (Sp.stmtText sq (k + 1))), .int .i64 ((k : Int) + 1), .int .i64 2, .int .i64 1, .int .i64 (nj - ni)]) = W8 at hbox hb8 ⊢
            generalize hX8 : wr.heap.size = X8 at hbox ⊢
            have hz8 : wr.heap.size ≤ X8 := by omega
            clear hX8
          rotate_left
          focus
            rw [hE.out]
            have hbox : (w4.setRow w1.heap.size #[.string (str (Sp.stmtText sq (k + 1))), .int .i64 ((k : Int) + 1), .int .i64 2, .int .i64 1, .int .i64 (nj - ni)]).heap[w1.heap.size]? = some (.cells #[.string (str (Sp.stmtText sq (k + 1))), .int .i64 ((k : Int) + 1), .int .i64 2, .int .i64 1, .int .i64 (nj - ni)] 92 (0, 0)) := setRow_heap _ _ _ _ _ _ (heap_below hb4 (heap_below hb3 (heap_below hb2 (heap_at (by simp)))))
            have hb8 := Lib.hid (hS7b.out _ hHeld)
            rw [hE.out] at hb8
            clear hHeld
            generalize (w4.setRow w1.heap.size #[.string (str (Sp.stmtText sq (k + 1))), .int .i64 ((k : Int) + 1), .int .i64 2, .int .i64 1, .int .i64 (nj - ni)]) = W8 at hbox hb8 ⊢
            generalize hX8 : w1.heap.size = X8 at hbox ⊢
            have hz8 : wr.heap.size ≤ X8 := by omega
            clear hX8
          rotate_left
          focus
            rw [hE.out]
            have hbox : (w4.setRow w2.heap.size #[.string (str (Sp.stmtText sq (k + 1))), .int .i64 ((k : Int) + 1), .int .i64 2, .int .i64 1, .int .i64 (nj - ni)]).heap[w2.heap.size]? = some (.cells #[.string (str (Sp.stmtText sq (k + 1))), .int .i64 ((k : Int) + 1), .int .i64 2, .int .i64 1, .int .i64 (nj - ni)] 92 (0, 0)) := setRow_heap _ _ _ _ _ _ (heap_below hb4 (heap_below hb3 (heap_at (by simp))))
            have hb8 := Lib.hid (hS7b.out _ hHeld)
            rw [hE.out] at hb8
            clear hHeld
            generalize (w4.setRow w2.heap.size #[.string (str (Sp.stmtText sq (k + 1))), .int .i64 ((k : Int) + 1), .int .i64 2, .int .i64 1, .int .i64 (nj - ni)]) = W8 at hbox hb8 ⊢
            generalize hX8 : w2.heap.size = X8 at hbox ⊢
            have hz8 : wr.heap.size ≤ X8 := by omega
            clear hX8
          rotate_left
          focus
            rw [hE.out]
            have hbox : (w4.setRow w3.heap.size #[.string (str (Sp.stmtText sq (k + 1))), .int .i64 ((k : Int) + 1), .int .i64 2, .int .i64 1, .int .i64 (nj - ni)]).heap[w3.heap.size]? = some (.cells #[.string (str (Sp.stmtText sq (k + 1))), .int .i64 ((k : Int) + 1), .int .i64 2, .int .i64 1, .int .i64 (nj - ni)] 92 (0, 0)) := setRow_heap _ _ _ _ _ _ (heap_below hb4 (heap_at (by simp)))
            have hb8 := Lib.hid (hS7b.out _ hHeld)
            rw [hE.out] at hb8
            clear hHeld
            generalize (w4.setRow w3.heap.size #[.string (str (Sp.stmtText sq (k + 1))), .int .i64 ((k : Int) + 1), .int .i64 2, .int .i64 1, .int .i64 (nj - ni)]) = W8 at hbox hb8 ⊢
            generalize hX8 : w3.heap.size = X8 at hbox ⊢
            have hz8 : wr.heap.size ≤ X8 := by omega
            clear hX8
          rotate_left
          focus
            rw [hE.out]
            have hbox : ((w4.alloc (.cells #[.string (str []), .int .i64 0, .int .i64 0, .int .i64 0, .int .i64 0] 92)).setRow w4.heap.size #[.string (str (Sp.stmtText sq (k + 1))), .int .i64 ((k : Int) + 1), .int .i64 2, .int .i64 1, .int .i64 (nj - ni)]).heap[w4.heap.size]? = some (.cells #[.string (str (Sp.stmtText sq (k + 1))), .int .i64 ((k : Int) + 1), .int .i64 2, .int .i64 1, .int .i64 (nj - ni)] 92 (0, 0)) := setRow_heap _ _ _ _ _ _ (heap_at (by simp))
            have hb8 := Lib.hid (hS7b.out _ hHeld)
            rw [hE.out] at hb8
            clear hHeld
            generalize ((w4.alloc (.cells #[.string (str []), .int .i64 0, .int .i64 0, .int .i64 0, .int .i64 0] 92)).setRow w4.heap.size #[.string (str (Sp.stmtText sq (k + 1))), .int .i64 ((k : Int) + 1), .int .i64 2, .int .i64 1, .int .i64 (nj - ni)]) = W8 at hbox hb8 ⊢
            generalize hX8 : w4.heap.size = X8 at hbox ⊢
            have hz8 : wr.heap.size ≤ X8 := by omega
            clear hX8
          rotate_left
          all_goals
            have hq8 := cells_at hbox
            have hf8 := frozen_at hbox
            rcases Int.lt_trichotomy ni nj with hl | he | hg
            · have h1 : ¬ (nj - ni < 0) := by omega
              have h2 : 0 < nj - ni := by omega
              have hbR : Sp.stmtPosts C.i j sq C.b (k + 1) = (Sp.post bk ⟨Sp.stmtText sq (k + 1), (k : Int) + 1, 2, 1, nj - ni⟩).1 := by rw [hposts.out, if_pos hl]
              have hpi : PostIn ⟨Sp.stmtText sq (k + 1), (k : Int) + 1, 2, 1, nj - ni⟩ := by
                have := htl.out
                exact ⟨by simp only; omega, by simp [Sp.in64]; omega, by simp [Sp.in64], by simp [Sp.in64], by simp [Sp.in64]; omega⟩
              replace hpi := Lib.hid hpi
              replace hbR := Lib.hid hbR
              clear hposts hrj hri htl
              go_wp2
              refine wp_world (fun W9 => SAt w base pc pb P Q w.heap.size X5 vl vb (.slice q0 C.i.s0.rows.length k0) (.slice q1 C.i.s1.rows.length k1) (.slice q2 C.i.s2.rows.length k2) (.slice x0 j.s0.rows.length y0) (.slice x1 j.s1.rows.length y1) (.slice x2 j.s2.rows.length y2) (.slice rr rows.length nn) m M party sq j ⟨C.l, bk, C.i⟩ W9 ∧ W9.heap[X8]? = some (.cells #[.string (str (Sp.stmtText sq (k + 1))), .int .i64 ((k : Int) + 1), .int .i64 2, .int .i64 1, .int .i64 (nj - ni)] 92 (0, 0))) ⟨hA.out.next (by have := hb8.out; (repeat (first | (with_reducible first | exact zR _ _ | exact zA _ _ | assumption | refine zL ?_ _ | refine zD ?_ | refine zN ?_ _) | ((with_reducible first | refine zC ?_ ?_ _ | refine zW ?_ ?_ _); rotate_left; focus (first | exact Nat.le_refl _ | (simp; done) | (simp; omega) | omega)) | with_reducible refine zT ?_ (by assumption)))), hbox⟩ (fun W9 h9 => ?_)
              obtain ⟨hA9, hbox9⟩ := h9
              clear hA hb8 hbox hq8 hz8 hf8
              have hS11 := Lib.hid (show ∀ W', Below W9.heap.size W9 W' → (fun W' => W'.cell? ⟨pc, 1, none⟩ = some (.pointer (some ⟨pb, 0, none⟩)) ∧ W'.cell? ⟨X8, 0, none⟩ = some (.string (str (Sp.stmtText sq (k + 1)))) ∧ W'.cell? ⟨X8, 1, none⟩ = some (.int .i64 ((k : Int) + 1)) ∧ W'.cell? ⟨X8, 2, none⟩ = some (.int .i64 2) ∧ W'.cell? ⟨X8, 3, none⟩ = some (.int .i64 1) ∧ W'.cell? ⟨X8, 4, none⟩ = some (.int .i64 (nj - ni)) ∧ Hid (Below W9.heap.size W9 W')) W' from fun W' hb => by
                have q := cells_at (heap_below hb hbox9)
                exact ⟨cells_at (hA9.next hb).core.head 1, q 0, q 1, q 2, q 3, q 4, Lib.hid hb⟩)
              have hS11b := Lib.hid (fun W' (h : (fun W' => W'.cell? ⟨pc, 1, none⟩ = some (.pointer (some ⟨pb, 0, none⟩)) ∧ W'.cell? ⟨X8, 0, none⟩ = some (.string (str (Sp.stmtText sq (k + 1)))) ∧ W'.cell? ⟨X8, 1, none⟩ = some (.int .i64 ((k : Int) + 1)) ∧ W'.cell? ⟨X8, 2, none⟩ = some (.int .i64 2) ∧ W'.cell? ⟨X8, 3, none⟩ = some (.int .i64 1) ∧ W'.cell? ⟨X8, 4, none⟩ = some (.int .i64 (nj - ni)) ∧ Hid (Below W9.heap.size W9 W')) W') => h.2.2.2.2.2.2.out)
              replace hA9 := Lib.hid hA9
              clear hbox9
              refine any_begin (S := (fun W' => W'.cell? ⟨pc, 1, none⟩ = some (.pointer (some ⟨pb, 0, none⟩)) ∧ W'.cell? ⟨X8, 0, none⟩ = some (.string (str (Sp.stmtText sq (k + 1)))) ∧ W'.cell? ⟨X8, 1, none⟩ = some (.int .i64 ((k : Int) + 1)) ∧ W'.cell? ⟨X8, 2, none⟩ = some (.int .i64 2) ∧ W'.cell? ⟨X8, 3, none⟩ = some (.int .i64 1) ∧ W'.cell? ⟨X8, 4, none⟩ = some (.int .i64 (nj - ni)) ∧ Hid (Below W9.heap.size W9 W'))) 5 (by kernel_rfl) ?_ (fun hHeld => ?_)
              focus (exact hS11.out _ (by (repeat (first | (with_reducible first | exact zR _ _ | exact zA _ _ | assumption | refine zL ?_ _ | refine zD ?_ | refine zN ?_ _) | ((with_reducible first | refine zC ?_ ?_ _ | refine zW ?_ ?_ _); rotate_left; focus (first | exact Nat.le_refl _ | (simp; done) | (simp; omega) | omega)) | with_reducible refine zT ?_ (by assumption)))))
              refine tkC [5, 3, 2, 1] 0 ?_ rfl (by kernel_rfl) (by assumption) (by rfl) (fun _ _ _ h => h) ?hy ?_
              case hy => (intro w hSw; (try dsimp only at hSw); go_simp; (try with_reducible rfl))
              (try simp only [Act.put, yA, yB, yC])
              refine tkC [5, 3, 2] 1 ?_ rfl (by kernel_rfl) (by assumption) (by rfl) (fun _ _ _ h => h) ?hy ?_
              case hy => (intro w hSw; (try dsimp only at hSw); go_simp; (try with_reducible rfl))
              (try simp only [Act.put, yA, yB, yC])
              refine tkC [5, 3] 2 ?_ rfl (by kernel_rfl) (by assumption) (by rfl) (fun _ _ _ h => h) ?hy ?_
              case hy => (intro w hSw; (try dsimp only at hSw); go_simp; (try with_reducible rfl))
              (try simp only [Act.put, yA, yB, yC])
              have hq := plan [3, 4]
              iterate 2 (refine tk hq ?_ rfl (by kernel_rfl) (by assumption) (by rfl) (fun _ _ _ h => h) ?hy ?_; (case hy => (intro w hSw; (try dsimp only at hSw); go_simp; (try with_reducible rfl))); replace hq := hq.tl; (try simp only [Act.put, yA, yB, yC]))
              clear hq
              refine al 5 rfl (by kernel_rfl) rfl (by rfl) (fun K hK => ?_)
              have hA1 := hA9.out.next (hS11b.out _ hHeld); go_simp; go_at_call 56; refine Calls.mono (post_any _ base pb P Q vb bk ⟨Sp.stmtText sq (k + 1), (k : Int) + 1, 2, 1, nj - ni⟩ hA1.core.books hpi.out hlen.out) ?_; rintro e wp ⟨rfl, ⟨z, hbz, hz⟩, hkp⟩; have hA2 := Lib.hid (hA1.post hbz hkp); clear hkp hbz hz hA1
              refine hK.out _ _ ?_
              clear hK K
              (try simp only [Act.put, yA, yB, yC])
              clear hHeld
              go_wp2
              exact ⟨⟨k + 1, z, by omega, by go_num, by rw [hbR.out]; exact hA2.out⟩, by simp [intOf]; omega⟩
            · have h1 : ¬ (nj - ni < 0) := by omega
              have h2 : ¬ (0 < nj - ni) := by omega
              have hbR : Sp.stmtPosts C.i j sq C.b (k + 1) = bk := by rw [hposts.out, if_neg (by omega), if_neg (by omega)]
              replace hbR := Lib.hid hbR
              clear hposts hrj hri htl
              have e0 : nj - ni = 0 := by omega
              go_wp2
              exact ⟨⟨k + 1, _, by omega, by go_num, by rw [hbR.out]; exact hA.out.next (by have := hb8.out; (repeat (first | (with_reducible first | exact zR _ _ | exact zA _ _ | assumption | refine zL ?_ _ | refine zD ?_ | refine zN ?_ _) | ((with_reducible first | refine zC ?_ ?_ _ | refine zW ?_ ?_ _); rotate_left; focus (first | exact Nat.le_refl _ | (simp; done) | (simp; omega) | omega)) | with_reducible refine zT ?_ (by assumption))))⟩, by simp [intOf]; omega⟩
            · have h1 : nj - ni < 0 := by omega
              have h2 : 0 < ni - nj := by omega
              have hwn : IntKind.i64.wrap (-(nj - ni)) = ni - nj := by rw [IntKind.wrap_i64]; omega
              have hbR : Sp.stmtPosts C.i j sq C.b (k + 1) = (Sp.post bk ⟨Sp.stmtText sq (k + 1), (k : Int) + 1, 1, 2, ni - nj⟩).1 := by rw [hposts.out, if_neg (by omega), if_pos hg]
              have hpi : PostIn ⟨Sp.stmtText sq (k + 1), (k : Int) + 1, 1, 2, ni - nj⟩ := by
                have := htl.out
                exact ⟨by simp only; omega, by simp [Sp.in64]; omega, by simp [Sp.in64], by simp [Sp.in64], by simp [Sp.in64]; omega⟩
              replace hpi := Lib.hid hpi
              replace hbR := Lib.hid hbR
              clear hposts hrj hri htl
              go_wp2
              refine wp_world (fun W9 => SAt w base pc pb P Q w.heap.size X5 vl vb (.slice q0 C.i.s0.rows.length k0) (.slice q1 C.i.s1.rows.length k1) (.slice q2 C.i.s2.rows.length k2) (.slice x0 j.s0.rows.length y0) (.slice x1 j.s1.rows.length y1) (.slice x2 j.s2.rows.length y2) (.slice rr rows.length nn) m M party sq j ⟨C.l, bk, C.i⟩ W9 ∧ W9.heap[X8]? = some (.cells #[.string (str (Sp.stmtText sq (k + 1))), .int .i64 ((k : Int) + 1), .int .i64 1, .int .i64 2, .int .i64 (ni - nj)] 92 (0, 0))) ⟨hA.out.next (by have := hb8.out; (repeat (first | (with_reducible first | exact zR _ _ | exact zA _ _ | assumption | refine zL ?_ _ | refine zD ?_ | refine zN ?_ _) | ((with_reducible first | refine zC ?_ ?_ _ | refine zW ?_ ?_ _); rotate_left; focus (first | exact Nat.le_refl _ | (simp; done) | (simp; omega) | omega)) | with_reducible refine zT ?_ (by assumption)))), setCell_row (setCell_row (setCell_row hbox 2 _) 3 _) 4 _⟩ (fun W9 h9 => ?_)
              obtain ⟨hA9, hbox9⟩ := h9
              clear hA hb8 hbox hq8 hz8 hf8
              have hS11 := Lib.hid (show ∀ W', Below W9.heap.size W9 W' → (fun W' => W'.cell? ⟨pc, 1, none⟩ = some (.pointer (some ⟨pb, 0, none⟩)) ∧ W'.cell? ⟨X8, 0, none⟩ = some (.string (str (Sp.stmtText sq (k + 1)))) ∧ W'.cell? ⟨X8, 1, none⟩ = some (.int .i64 ((k : Int) + 1)) ∧ W'.cell? ⟨X8, 2, none⟩ = some (.int .i64 1) ∧ W'.cell? ⟨X8, 3, none⟩ = some (.int .i64 2) ∧ W'.cell? ⟨X8, 4, none⟩ = some (.int .i64 (ni - nj)) ∧ Hid (Below W9.heap.size W9 W')) W' from fun W' hb => by
                have q := cells_at (heap_below hb hbox9)
                exact ⟨cells_at (hA9.next hb).core.head 1, q 0, q 1, q 2, q 3, q 4, Lib.hid hb⟩)
              have hS11b := Lib.hid (fun W' (h : (fun W' => W'.cell? ⟨pc, 1, none⟩ = some (.pointer (some ⟨pb, 0, none⟩)) ∧ W'.cell? ⟨X8, 0, none⟩ = some (.string (str (Sp.stmtText sq (k + 1)))) ∧ W'.cell? ⟨X8, 1, none⟩ = some (.int .i64 ((k : Int) + 1)) ∧ W'.cell? ⟨X8, 2, none⟩ = some (.int .i64 1) ∧ W'.cell? ⟨X8, 3, none⟩ = some (.int .i64 2) ∧ W'.cell? ⟨X8, 4, none⟩ = some (.int .i64 (ni - nj)) ∧ Hid (Below W9.heap.size W9 W')) W') => h.2.2.2.2.2.2.out)
              replace hA9 := Lib.hid hA9
              clear hbox9
              refine any_begin (S := (fun W' => W'.cell? ⟨pc, 1, none⟩ = some (.pointer (some ⟨pb, 0, none⟩)) ∧ W'.cell? ⟨X8, 0, none⟩ = some (.string (str (Sp.stmtText sq (k + 1)))) ∧ W'.cell? ⟨X8, 1, none⟩ = some (.int .i64 ((k : Int) + 1)) ∧ W'.cell? ⟨X8, 2, none⟩ = some (.int .i64 1) ∧ W'.cell? ⟨X8, 3, none⟩ = some (.int .i64 2) ∧ W'.cell? ⟨X8, 4, none⟩ = some (.int .i64 (ni - nj)) ∧ Hid (Below W9.heap.size W9 W'))) 5 (by kernel_rfl) ?_ (fun hHeld => ?_)
              focus (exact hS11.out _ (by (repeat (first | (with_reducible first | exact zR _ _ | exact zA _ _ | assumption | refine zL ?_ _ | refine zD ?_ | refine zN ?_ _) | ((with_reducible first | refine zC ?_ ?_ _ | refine zW ?_ ?_ _); rotate_left; focus (first | exact Nat.le_refl _ | (simp; done) | (simp; omega) | omega)) | with_reducible refine zT ?_ (by assumption)))))
              refine tkC [5, 3, 2, 1] 0 ?_ rfl (by kernel_rfl) (by assumption) (by rfl) (fun _ _ _ h => h) ?hy ?_
              case hy => (intro w hSw; (try dsimp only at hSw); go_simp; (try with_reducible rfl))
              (try simp only [Act.put, yA, yB, yC])
              refine tkC [5, 3, 2] 1 ?_ rfl (by kernel_rfl) (by assumption) (by rfl) (fun _ _ _ h => h) ?hy ?_
              case hy => (intro w hSw; (try dsimp only at hSw); go_simp; (try with_reducible rfl))
              (try simp only [Act.put, yA, yB, yC])
              refine tkC [5, 3] 2 ?_ rfl (by kernel_rfl) (by assumption) (by rfl) (fun _ _ _ h => h) ?hy ?_
              case hy => (intro w hSw; (try dsimp only at hSw); go_simp; (try with_reducible rfl))
              (try simp only [Act.put, yA, yB, yC])
              have hq := plan [3, 4]
              iterate 2 (refine tk hq ?_ rfl (by kernel_rfl) (by assumption) (by rfl) (fun _ _ _ h => h) ?hy ?_; (case hy => (intro w hSw; (try dsimp only at hSw); go_simp; (try with_reducible rfl))); replace hq := hq.tl; (try simp only [Act.put, yA, yB, yC]))
              clear hq
              refine al 5 rfl (by kernel_rfl) rfl (by rfl) (fun K hK => ?_)
              have hA1 := hA9.out.next (hS11b.out _ hHeld); go_simp; go_at_call 56; refine Calls.mono (post_any _ base pb P Q vb bk ⟨Sp.stmtText sq (k + 1), (k : Int) + 1, 1, 2, ni - nj⟩ hA1.core.books hpi.out hlen.out) ?_; rintro e wp ⟨rfl, ⟨z, hbz, hz⟩, hkp⟩; have hA2 := Lib.hid (hA1.post hbz hkp); clear hkp hbz hz hA1
              refine hK.out _ _ ?_
              clear hK K
              (try simp only [Act.put, yA, yB, yC])
              clear hHeld
              go_wp2
              exact ⟨⟨k + 1, z, by omega, by go_num, by rw [hbR.out]; exact hA2.out⟩, by simp [intOf]; omega⟩
        · have hh := cells_at hA.core.head
          have hf := frozen_at hA.core.head
          have q5 := cells_at hA.x5
          obtain ⟨g0, g1, g2, g3, g4, g5, g6, g7, g8, g9⟩ : wr.cell? ⟨X5, 0, none⟩ = some (.int .i64 j.s0.party) ∧ wr.cell? ⟨X5, 1, none⟩ = some (.int .i64 j.s0.seq) ∧ wr.cell? ⟨X5, 2, none⟩ = some (.slice x0 j.s0.rows.length y0) ∧ wr.cell? ⟨X5, 3, none⟩ = some (.int .i64 j.s1.party) ∧ wr.cell? ⟨X5, 4, none⟩ = some (.int .i64 j.s1.seq) ∧ wr.cell? ⟨X5, 5, none⟩ = some (.slice x1 j.s1.rows.length y1) ∧ wr.cell? ⟨X5, 6, none⟩ = some (.int .i64 j.s2.party) ∧ wr.cell? ⟨X5, 7, none⟩ = some (.int .i64 j.s2.seq) ∧ wr.cell? ⟨X5, 8, none⟩ = some (.slice x2 j.s2.rows.length y2) ∧ wr.cell? ⟨X5, 9, none⟩ = some (.map (some M)) := ⟨q5 0, q5 1, q5 2, q5 3, q5 4, q5 5, q5 6, q5 7, q5 8, q5 9⟩
          obtain ⟨c0, c1, c2, c3, c4, c5, c6, c7, c8, c9⟩ : wr.cell? ⟨pc, 2, none⟩ = some (.int .i64 C.i.s0.party) ∧ wr.cell? ⟨pc, 3, none⟩ = some (.int .i64 C.i.s0.seq) ∧ wr.cell? ⟨pc, 4, none⟩ = some (.slice q0 C.i.s0.rows.length k0) ∧ wr.cell? ⟨pc, 5, none⟩ = some (.int .i64 C.i.s1.party) ∧ wr.cell? ⟨pc, 6, none⟩ = some (.int .i64 C.i.s1.seq) ∧ wr.cell? ⟨pc, 7, none⟩ = some (.slice q1 C.i.s1.rows.length k1) ∧ wr.cell? ⟨pc, 8, none⟩ = some (.int .i64 C.i.s2.party) ∧ wr.cell? ⟨pc, 9, none⟩ = some (.int .i64 C.i.s2.seq) ∧ wr.cell? ⟨pc, 10, none⟩ = some (.slice q2 C.i.s2.rows.length k2) ∧ wr.cell? ⟨pc, 11, none⟩ = some (.map m) := ⟨hh 2, hh 3, hh 4, hh 5, hh 6, hh 7, hh 8, hh 9, hh 10, hh 11⟩
          obtain ⟨f0, f1, f2, f3, f4, f5, f6, f7, f8, f9⟩ : wr.frozen? ⟨pc, 2, none⟩ = false ∧ wr.frozen? ⟨pc, 3, none⟩ = false ∧ wr.frozen? ⟨pc, 4, none⟩ = false ∧ wr.frozen? ⟨pc, 5, none⟩ = false ∧ wr.frozen? ⟨pc, 6, none⟩ = false ∧ wr.frozen? ⟨pc, 7, none⟩ = false ∧ wr.frozen? ⟨pc, 8, none⟩ = false ∧ wr.frozen? ⟨pc, 9, none⟩ = false ∧ wr.frozen? ⟨pc, 10, none⟩ = false ∧ wr.frozen? ⟨pc, 11, none⟩ = false := ⟨hf 2, hf 3, hf 4, hf 5, hf 6, hf 7, hf 8, hf 9, hf 10, hf 11⟩
          have hfin := hA.core.intake hA.inn hA.mne
          rw [show k = 60 by omega] at hfin
          replace hfin := Lib.hid hfin
          have hge := hA.core.ge
          replace hA := Lib.hid hA
          clear hh hf q5
          go_wp2
          go_ret
          exact ⟨by have := hA.out.low; (repeat (first | (with_reducible first | exact zR _ _ | exact zA _ _ | assumption | refine zL ?_ _ | refine zD ?_ | refine zN ?_ _) | ((with_reducible first | refine zC ?_ ?_ _ | refine zW ?_ ?_ _); rotate_left; focus (first | exact Nat.le_refl _ | (simp; done) | (simp; omega) | omega)) | with_reducible refine zT ?_ (by assumption))), _, _, _, _, _, _, rfl, hfin.out⟩
end Go.Proofs.YtkgpnikmdmpfaaaGreatDoor

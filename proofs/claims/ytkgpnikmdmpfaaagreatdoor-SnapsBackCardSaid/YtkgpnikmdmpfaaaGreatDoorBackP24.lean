/-
  core.Parts.
-/
import Derived.Test.YtkgpnikmdmpfaaaGreatDoorBackP22
import Derived.Test.YtkgpnikmdmpfaaaGreatDoorBackP23
set_option linter.unusedVariables false
set_option linter.unusedSimpArgs false
namespace Go.Proofs.YtkgpnikmdmpfaaaGreatDoor
open Go.RowKit Go.Maps

/-- The core's sagas, copied by append onto nil. -/
theorem app_sagas {w : World} {vl : Value} {l : List Sp.Saga} (h : SagasAt w vl l) (hl : l.length ≤ 60) :
    ∃ q k w1, (Builtin.append_ #[56, 56] 56 #[.slice none 0 0, vl]).run Tryz.prog w = .ok (.slice q l.length k) w1 ∧ w1.ownsRow w.heap.size 89 12 (.slice q l.length k) l.length (l.flatMap sagaCells) ∧ Below w.heap.size w w1 := by
  obtain ⟨vv, W1, hr1, ho1, hg1, _⟩ := run_appAll (P := Tryz.prog) (w := w) sagaCells_len w.heap.size 56 56 89 _ 112 Tryz.underlying56 info_saga rfl (by omega) (.slice none 0 0) 0 [] (World.ownsRow_nil _ _ _ _) vl l
    h sagaCells_one (by unfold maxLen; omega) (by omega) (Nat.le_refl _)
  simp only [Nat.zero_add, List.nil_append] at ho1
  obtain ⟨zq, zk, rfl⟩ := own_slice' ho1
  exact ⟨zq, zk, W1, hr1, ho1, ⟨hg1.os, hg1.tape, hg1.output, hg1.size, fun k hk => hg1.block k hk (by simp [Value.ownBlock])⟩⟩
theorem row?_new {W : World} {c : Array Value} {t : TypeId} {X : Nat} (h : X = W.heap.size) : (W.alloc (.cells c t)).row? X = some c := row?_of (heap_at h)
theorem row?_below {W W' : World} {X : Nat} {c : Array Value} (hb : Below W.heap.size W W') (h : W.row? X = some c) : W'.row? X = some c := by rw [row?_congr (hb.block X (row?_lt h))]; exact h
theorem wp_store {P : Program} {Q : Exit → Act → World → Prop} {o : Oper} {a : Act} {w w1 : World} {K : Act → World → Prop} (x v : Operand) {t : TypeId} {xv vv : Value} (hop : o.op = Op.store t x v)
    (hx : a.eval x = xv) (hv : a.eval v = vv) (hr : (Instr.storeAt t xv vv).run P w = .ok () w1) (h : K (a.put o.dst undef) w1) : o.wp P a w K Q := by
  unfold Oper.wp
  simp [execOp, hop, hx, hv, hr, Result.andThen]
  exact h
theorem run_storeRow {P : Program} {t : TypeId} {n : Nat} (ha : aggB P t n = true) {w : World} {b : Nat} {c vs : Array Value} (hc : w.row? b = some c) (h1 : c.size = n) (h2 : vs.size = n) (h3 : vs.toList.all Value.oneCell' = true) :
    (Instr.storeAt t (.pointer (some ⟨b, 0, none⟩)) (.agg vs)).run P w = .ok () (w.setRow b vs) := by
  rw [run_storeAt_row t n ha, hc, rowStore_some, if_pos ⟨by omega, h2, h3⟩]
  have : c.toList.drop n = [] := List.drop_eq_nil_of_le (by simp; omega)
  simp [this]
def zero11 : Array Value := #[.slice none 0 0, .slice none 0 0, .int .i64 0, .int .i64 0, .slice none 0 0, .int .i64 0, .int .i64 0, .slice none 0 0, .int .i64 0, .int .i64 0, .slice none 0 0]
/-- The parts, while the newest statements are laid in. -/
structure PartsAt (w : World) (X : Nat) (vs vp : Value) (arr : Array Value) (C : Sp.Core) (W : World) : Prop where
  low : Below w.heap.size w W
  row : W.heap[X]? = some (.cells arr 87 (0, 0))
  res : W.heap[w.heap.size]? = some (.cells zero11 87 (0, 0))
  gt : w.heap.size < X
  sagas : W.ownsRow w.heap.size 89 12 vs C.l.length (C.l.flatMap sagaCells)
  posts : W.ownsRow w.heap.size 92 5 vp C.b.l.length (C.b.l.flatMap postCells)
theorem PartsAt.start {w W W1 W2 : World} {X B1 B2 : Nat} {vs vp : Value} {C : Sp.Core} {c : Array Value} (hlow : Below w.heap.size w W) (hX : W.heap[X]? = some (.cells c 87 (0, 0))) (hres : W.heap[w.heap.size]? = some (.cells zero11 87 (0, 0))) (hgt : w.heap.size < X)
    (h1 : W1.ownsRow B1 89 12 vs C.l.length (C.l.flatMap sagaCells)) (hB1 : w.heap.size ≤ B1) (hb1 : Below W1.heap.size W1 W) (h2 : W2.ownsRow B2 92 5 vp C.b.l.length (C.b.l.flatMap postCells)) (hB2 : w.heap.size ≤ B2) (hb2 : Below W2.heap.size W2 W) :
    PartsAt w X vs vp #[vs, vp, .int .i64 0, .int .i64 0, .slice none 0 0, .int .i64 0, .int .i64 0, .slice none 0 0, .int .i64 0, .int .i64 0, .slice none 0 0] C (W.setRow X #[vs, vp, .int .i64 0, .int .i64 0, .slice none 0 0, .int .i64 0, .int .i64 0, .slice none 0 0, .int .i64 0, .int .i64 0, .slice none 0 0]) := by
  have own1 : W.ownsRow B1 89 12 vs C.l.length (C.l.flatMap sagaCells) := own_same h1 (fun k hk => hb1.block k (by obtain ⟨c, hc⟩ := own_block h1 hk; exact (Array.getElem?_eq_some_iff.1 hc).1))
  have own2 : W.ownsRow B2 92 5 vp C.b.l.length (C.b.l.flatMap postCells) := own_same h2 (fun k hk => hb2.block k (by obtain ⟨c, hc⟩ := own_block h2 hk; exact (Array.getElem?_eq_some_iff.1 hc).1))
  refine ⟨hlow.setRow (by omega) _, setRow_heap W X c _ _ _ hX, (setRow_other W X _ _ (by omega)).trans hres, hgt, own_same (own_base own1 hB1) (fun k hk => setRow_other W X k _ ?_), own_same (own_base own2 hB2) (fun k hk => setRow_other W X k _ ?_)⟩
  · obtain ⟨c, hc⟩ := own_block own1 hk
    exact ne_of_types hc hX (by decide)
  · obtain ⟨c, hc⟩ := own_block own2 hk
    exact ne_of_types hc hX (by decide)
theorem PartsAt.store {w W WN : World} {X o : Nat} {vs vp a b c : Value} {arr : Array Value} {C : Sp.Core} (h : PartsAt w X vs vp arr C W) (hb : Below W.heap.size W WN) :
    PartsAt w X vs vp (((arr.setIfInBounds o a).setIfInBounds (o + 1) b).setIfInBounds (o + 2) c) C (((WN.setCell ⟨X, o, none⟩ a).setCell ⟨X, o + 1, none⟩ b).setCell ⟨X, o + 2, none⟩ c) ∧
    ∀ k, k ≠ X → (((WN.setCell ⟨X, o, none⟩ a).setCell ⟨X, o + 1, none⟩ b).setCell ⟨X, o + 2, none⟩ c).heap[k]? = WN.heap[k]? := by
  have hX : WN.heap[X]? = some (.cells arr 87 (0, 0)) := (hb.block _ (Array.getElem?_eq_some_iff.1 h.row).1).trans h.row
  have other : ∀ k, k ≠ X → (((WN.setCell ⟨X, o, none⟩ a).setCell ⟨X, o + 1, none⟩ b).setCell ⟨X, o + 2, none⟩ c).heap[k]? = WN.heap[k]? := fun k hk => by
    rw [Below.heap_setCell _ _ _ _ (by simpa using hk), Below.heap_setCell _ _ _ _ (by simpa using hk), Below.heap_setCell _ _ _ _ (by simpa using hk)]
  have hgt := h.gt
  refine ⟨⟨((((h.low.trans (hb.mono h.low.size)).setCell (by simp; omega) _).setCell (by simp; omega) _).setCell (by simp; omega) _), setCell_row (setCell_row (setCell_row hX o a) (o + 1) b) (o + 2) c, ?_, h.gt, own_same h.sagas (fun k hk => ?_), own_same h.posts (fun k hk => ?_)⟩, other⟩
  · rw [other _ (by omega), hb.block _ (Array.getElem?_eq_some_iff.1 h.res).1]; exact h.res
  · obtain ⟨cc, hc⟩ := own_block h.sagas hk
    rw [other k (ne_of_types hc h.row (by decide)), hb.block _ (Array.getElem?_eq_some_iff.1 hc).1]
  · obtain ⟨cc, hc⟩ := own_block h.posts hk
    rw [other k (ne_of_types hc h.row (by decide)), hb.block _ (Array.getElem?_eq_some_iff.1 hc).1]
theorem RowsO.store {W WN W' : World} {X : Nat} {v : Value} {l : List Sp.Row} {c : Array Value} (h : RowsO W v l) (hX : W.heap[X]? = some (.cells c 87 (0, 0))) (hb : Below W.heap.size W WN) (ho : ∀ k, k ≠ X → W'.heap[k]? = WN.heap[k]?) : RowsO W' v l :=
  h.same (fun k hk => by
    obtain ⟨cc, hc⟩ := own_block h hk
    rw [ho k (ne_of_types hc hX (by decide)), hb.block _ (Array.getElem?_eq_some_iff.1 hc).1])
def RelParts (w : World) (X : Nat) (vs vp : Value) (C : Sp.Core) (x : Value) (W : World) : Prop :=
  ∃ (k : Nat) (q0 q1 q2 : Option Addr) (k0 k1 k2 : Nat), k ≤ 3 ∧ x = .int .i64 k ∧
    PartsAt w X vs vp #[vs, vp, if 0 < k then .int .i64 C.i.s0.party else .int .i64 0, if 0 < k then .int .i64 C.i.s0.seq else .int .i64 0, if 0 < k then .slice q0 C.i.s0.rows.length k0 else .slice none 0 0,
      if 1 < k then .int .i64 C.i.s1.party else .int .i64 0, if 1 < k then .int .i64 C.i.s1.seq else .int .i64 0, if 1 < k then .slice q1 C.i.s1.rows.length k1 else .slice none 0 0,
      if 2 < k then .int .i64 C.i.s2.party else .int .i64 0, if 2 < k then .int .i64 C.i.s2.seq else .int .i64 0, if 2 < k then .slice q2 C.i.s2.rows.length k2 else .slice none 0 0] C W ∧
    (0 < k → RowsO W (.slice q0 C.i.s0.rows.length k0) C.i.s0.rows) ∧ (1 < k → RowsO W (.slice q1 C.i.s1.rows.length k1) C.i.s1.rows) ∧ (2 < k → RowsO W (.slice q2 C.i.s2.rows.length k2) C.i.s2.rows)
def PartsOut (w : World) (C : Sp.Core) (e : Ending) (w' : World) : Prop :=
  ∃ (vs vp : Value) (q0 q1 q2 : Option Addr) (k0 k1 k2 : Nat), e = .returned (.agg #[vs, vp, .int .i64 C.i.s0.party, .int .i64 C.i.s0.seq, .slice q0 C.i.s0.rows.length k0, .int .i64 C.i.s1.party, .int .i64 C.i.s1.seq, .slice q1 C.i.s1.rows.length k1, .int .i64 C.i.s2.party, .int .i64 C.i.s2.seq, .slice q2 C.i.s2.rows.length k2]) ∧
    SagasAt w' vs C.l ∧ Slc postCells 5 w' vp C.b.l ∧ RowsAt w' (.slice q0 C.i.s0.rows.length k0) C.i.s0.rows ∧ RowsAt w' (.slice q1 C.i.s1.rows.length k1) C.i.s1.rows ∧ RowsAt w' (.slice q2 C.i.s2.rows.length k2) C.i.s2.rows ∧ Below w.heap.size w w'
theorem heap_below {W W' : World} {X : Nat} {o : Obj} (hb : Below W.heap.size W W') (h : W.heap[X]? = some o) : W'.heap[X]? = some o := (hb.block X (Array.getElem?_eq_some_iff.1 h).1).trans h
theorem heap_past {W : World} {X : Nat} {o o' : Obj} (h : W.heap[X]? = some o) : (W.alloc o').heap[X]? = some o := heap_below (alloc_grew W o') h
theorem heap_drew {W : World} {X : Nat} {o : Obj} (h : W.heap[X]? = some o) : W.drew.heap[X]? = some o := h
theorem PartsAt.rowIs {w W : World} {X : Nat} {vs vp : Value} {C : Sp.Core} (arr : Array Value) (h : PartsAt w X vs vp arr C W) : W.heap[X]? = some (.cells arr 87 (0, 0)) := h.row
theorem PartsOut.mk {w W W' : World} {X : Nat} {vs vp : Value} {arr : Array Value} {C : Sp.Core} {r0 r1 r2 : Option Addr} {n0 n1 n2 : Nat} (hP : PartsAt w X vs vp arr C W)
    (h0 : RowsO W (.slice r0 C.i.s0.rows.length n0) C.i.s0.rows) (h1 : RowsO W (.slice r1 C.i.s1.rows.length n1) C.i.s1.rows) (h2 : RowsO W (.slice r2 C.i.s2.rows.length n2) C.i.s2.rows) (hk : Keeps (fun k => k = w.heap.size) W W') :
    PartsOut w C (.returned (.agg #[vs, vp, .int .i64 C.i.s0.party, .int .i64 C.i.s0.seq, .slice r0 C.i.s0.rows.length n0, .int .i64 C.i.s1.party, .int .i64 C.i.s1.seq, .slice r1 C.i.s1.rows.length n1, .int .i64 C.i.s2.party, .int .i64 C.i.s2.seq, .slice r2 C.i.s2.rows.length n2])) W' := by
  have same : ∀ {v : Value} {e : TypeId} {size n base : Nat} {xs : List Value}, W.ownsRow base e size v n xs → e ≠ 87 → W'.ownsRow base e size v n xs := fun ho he => own_same ho (fun k hk' => by
    obtain ⟨cc, hc⟩ := own_block ho hk'
    exact hk.block k (Array.getElem?_eq_some_iff.1 hc).1 (ne_of_types hc hP.res he))
  refine ⟨vs, vp, r0, r1, r2, n0, n1, n2, rfl, slc_of_own sagaCells_len (by omega) (same hP.sagas (by decide)), slc_of_own postCells_len (by omega) (same hP.posts (by decide)), RowsO.slc (same h0 (by decide)), RowsO.slc (same h1 (by decide)), RowsO.slc (same h2 (by decide)), ?_⟩
  exact hk.below hP.low hP.low.size (fun k hk => by omega)
set_option maxRecDepth 100000 in
set_option maxHeartbeats 4000000 in
theorem coreParts_any (w : World) (base pc pb P Q : Nat) (vl vb v0 v1 v2 : Value) (m : Option Nat) (C : Sp.Core) (h : CoreIs w base pc vl pb vb P Q v0 v1 v2 m C) :
    Calls Tryz.prog 36 #[.pointer (some ⟨pc, 0, none⟩)] w (PartsOut w C) := by
  obtain ⟨ql, kl, rfl⟩ := own_slice' h.own
  obtain ⟨q0, k0, rfl⟩ := own_slice' h.inn.r0
  obtain ⟨q1, k1, rfl⟩ := own_slice' h.inn.r1
  obtain ⟨q2, k2, rfl⟩ := own_slice' h.inn.r2
  have hlt := (Array.getElem?_eq_some_iff.1 h.head).1
  have hn := fun W (hW : Below w.heap.size w W) => coreNone_no W pc _ (cells_at (h.below hW).head 1)
  have hS0 := fun W (hb : Below w.heap.size w W) => coreS (w := w) (h.below hb) hb
  have HC := Lib.hid h
  replace hS0 := Lib.hid hS0
  replace hn := Lib.hid hn
  clear h
  go_enter Tryz.func36, Tryz.ntmps36
  go_wp2_with (go_at_call 20; refine (hn.out _ (by (repeat (first | (with_reducible first | exact zR _ _ | exact zA _ _ | assumption | refine zL ?_ _ | refine zD ?_ | refine zN ?_ _) | ((with_reducible first | refine zC ?_ ?_ _ | refine zW ?_ ?_ _); rotate_left; focus (first | exact Nat.le_refl _ | (simp; done) | (simp; omega) | omega)) | with_reducible refine zT ?_ (by assumption))))).mono ?_; rintro e w1 ⟨rfl, rfl⟩)
  refine any_begin (S := (fun W' => (W'.cell? ⟨pc, 0, none⟩ = some (.slice ql C.l.length kl) ∧ W'.cell? ⟨pc, 1, none⟩ = some (.pointer (some ⟨pb, 0, none⟩)) ∧ W'.cell? ⟨pc, 2, none⟩ = some (.int .i64 C.i.s0.party) ∧ W'.cell? ⟨pc, 3, none⟩ = some (.int .i64 C.i.s0.seq) ∧ W'.cell? ⟨pc, 4, none⟩ = some (.slice q0 C.i.s0.rows.length k0) ∧ W'.cell? ⟨pc, 5, none⟩ = some (.int .i64 C.i.s1.party) ∧ W'.cell? ⟨pc, 6, none⟩ = some (.int .i64 C.i.s1.seq) ∧ W'.cell? ⟨pc, 7, none⟩ = some (.slice q1 C.i.s1.rows.length k1) ∧ W'.cell? ⟨pc, 8, none⟩ = some (.int .i64 C.i.s2.party) ∧ W'.cell? ⟨pc, 9, none⟩ = some (.int .i64 C.i.s2.seq) ∧ W'.cell? ⟨pc, 10, none⟩ = some (.slice q2 C.i.s2.rows.length k2) ∧ W'.cell? ⟨pc, 11, none⟩ = some (.map m) ∧ Hid (CoreIs W' base pc (.slice ql C.l.length kl) pb vb P Q (.slice q0 C.i.s0.rows.length k0) (.slice q1 C.i.s1.rows.length k1) (.slice q2 C.i.s2.rows.length k2) m C ∧ Below w.heap.size w W')))) 13 (by kernel_rfl) ?_ (fun hHeld => ?_)
  focus (exact hS0.out _ (by (repeat (first | (with_reducible first | exact zR _ _ | exact zA _ _ | assumption | refine zL ?_ _ | refine zD ?_ | refine zN ?_ _) | ((with_reducible first | refine zC ?_ ?_ _ | refine zW ?_ ?_ _); rotate_left; focus (first | exact Nat.le_refl _ | (simp; done) | (simp; omega) | omega)) | with_reducible refine zT ?_ (by assumption)))))
  have hq := plan [0, 1, 2, 3, 5, 6, 7, 8]
  iterate 8 (refine tk hq ?_ rfl (by kernel_rfl) (by assumption) (by rfl) (fun _ _ _ h => h) ?hy ?_; (case hy => (intro w hSw; (try dsimp only at hSw); go_simp; (try with_reducible rfl))); replace hq := hq.tl; (try simp only [Act.put, yA, yB, yC]))
  clear hq
  refine at2 4 11 rfl rfl (by kernel_rfl) (by rfl) (by rfl) (fun K hK => ?br2) (fun K hK => ?br3)
  case' br2 =>
   obtain ⟨zq, zk, W1, hr1, ho1, hb1⟩ := app_sagas (coreS_is (w := w) (by assumption)).1.slc HC.out.orders; have hzy := hb1.size; (try simp at hzy); refine wp_append (.const (.slice none 0 0)) (.tmp 11) rfl rfl rfl hr1 ?_
   refine hK.out _ _ ?_ (fun hHeld => ?_)
   focus (exact hS0.out _ (by (repeat (first | (with_reducible first | exact zR _ _ | exact zA _ _ | assumption | refine zL ?_ _ | refine zD ?_ | refine zN ?_ _) | ((with_reducible first | refine zC ?_ ?_ _ | refine zW ?_ ?_ _); rotate_left; focus (first | exact Nat.le_refl _ | (simp; done) | (simp; omega) | omega)) | with_reducible refine zT ?_ (by assumption)))))
   clear hK K
   (try simp only [Act.put, yA, yB, yC])
   refine at2 9 11 rfl rfl (by kernel_rfl) (by rfl) (by rfl) (fun K hK => ?br4) (fun K hK => ?br5)
   case' br4 =>
    go_simp
    (go_at_call 71; refine Calls.mono (list_any _ base pb P Q vb C.b (coreS_is (w := w) (by assumption)).1.books) ?_; rintro e W2 ⟨vp, rfl, ho2, hb2⟩; obtain ⟨qp, kp, rfl⟩ := own_slice' ho2; have hzx := hb2.size; (try simp at hzx))
    refine hK.out _ _ ?_ (fun hHeld => ?_)
    focus (exact hS0.out _ (by (repeat (first | (with_reducible first | exact zR _ _ | exact zA _ _ | assumption | refine zL ?_ _ | refine zD ?_ | refine zN ?_ _) | ((with_reducible first | refine zC ?_ ?_ _ | refine zW ?_ ?_ _); rotate_left; focus (first | exact Nat.le_refl _ | (simp; done) | (simp; omega) | omega)) | with_reducible refine zT ?_ (by assumption)))))
    clear hK K
    (try simp only [Act.put, yA, yB, yC])
    have hq := plan [10]
    iterate 1 (refine tk hq ?_ rfl (by kernel_rfl) (by assumption) (by rfl) (fun _ _ _ h => h) ?hy ?_; (case hy => (intro w hSw; (try dsimp only at hSw); go_simp; (try with_reducible rfl))); replace hq := hq.tl; (try simp only [Act.put, yA, yB, yC]))
    clear hq
    refine ao 11 rfl (by kernel_rfl) (by rfl) (fun K hK => ?_)
    go_simp
    refine hK.out _ _ ?_ (fun hHeld => ?_)
    focus (exact hS0.out _ (by (repeat (first | (with_reducible first | exact zR _ _ | exact zA _ _ | assumption | refine zL ?_ _ | refine zD ?_ | refine zN ?_ _) | ((with_reducible first | refine zC ?_ ?_ _ | refine zW ?_ ?_ _); rotate_left; focus (first | exact Nat.le_refl _ | (simp; done) | (simp; omega) | omega)) | with_reducible refine zT ?_ (by assumption)))))
    clear hK K
    (try simp only [Act.put, yA, yB, yC])
    refine ao 12 rfl (by kernel_rfl) (by rfl) (fun K hK => ?_)
    refine wp_store (.tmp 3) (.tmp 18) rfl rfl rfl (run_storeRow (n := 11) (by kernel_rfl) (by repeat (first | exact row?_new (by simp) | exact row?_new rfl | (apply row?_below; assumption))) rfl rfl rfl) ?_
    refine hK.out _ _ ?_ (fun hHeld => ?_)
    focus (exact hS0.out _ (by (repeat (first | (with_reducible first | exact zR _ _ | exact zA _ _ | assumption | refine zL ?_ _ | refine zD ?_ | refine zN ?_ _) | ((with_reducible first | refine zC ?_ ?_ _ | refine zW ?_ ?_ _); rotate_left; focus (first | exact Nat.le_refl _ | (simp; done) | (simp; omega) | omega)) | with_reducible refine zT ?_ (by assumption)))))
    clear hK K
    (try simp only [Act.put, yA, yB, yC])
    refine any_done (by kernel_rfl) ?_
   case' br5 =>
    go_simp
    refine hK.out _ _ ?_ (fun hHeld => ?_)
    focus (exact hS0.out _ (by (repeat (first | (with_reducible first | exact zR _ _ | exact zA _ _ | assumption | refine zL ?_ _ | refine zD ?_ | refine zN ?_ _) | ((with_reducible first | refine zC ?_ ?_ _ | refine zW ?_ ?_ _); rotate_left; focus (first | exact Nat.le_refl _ | (simp; done) | (simp; omega) | omega)) | with_reducible refine zT ?_ (by assumption)))))
    clear hK K
    (try simp only [Act.put, yA, yB, yC])
    refine ao 9 rfl (by kernel_rfl) (by rfl) (fun K hK => ?_)
    go_simp
    (go_at_call 71; refine Calls.mono (list_any _ base pb P Q vb C.b (coreS_is (w := w) (by assumption)).1.books) ?_; rintro e W2 ⟨vp, rfl, ho2, hb2⟩; obtain ⟨qp, kp, rfl⟩ := own_slice' ho2; have hzx := hb2.size; (try simp at hzx))
    refine hK.out _ _ ?_ (fun hHeld => ?_)
    focus (exact hS0.out _ (by (repeat (first | (with_reducible first | exact zR _ _ | exact zA _ _ | assumption | refine zL ?_ _ | refine zD ?_ | refine zN ?_ _) | ((with_reducible first | refine zC ?_ ?_ _ | refine zW ?_ ?_ _); rotate_left; focus (first | exact Nat.le_refl _ | (simp; done) | (simp; omega) | omega)) | with_reducible refine zT ?_ (by assumption)))))
    clear hK K
    (try simp only [Act.put, yA, yB, yC])
    have hq := plan [10]
    iterate 1 (refine tk hq ?_ rfl (by kernel_rfl) (by assumption) (by rfl) (fun _ _ _ h => h) ?hy ?_; (case hy => (intro w hSw; (try dsimp only at hSw); go_simp; (try with_reducible rfl))); replace hq := hq.tl; (try simp only [Act.put, yA, yB, yC]))
    clear hq
    refine ao 12 rfl (by kernel_rfl) (by rfl) (fun K hK => ?_)
    refine wp_store (.tmp 3) (.tmp 18) rfl rfl rfl (run_storeRow (n := 11) (by kernel_rfl) (by repeat (first | exact row?_new (by simp) | exact row?_new rfl | (apply row?_below; assumption))) rfl rfl rfl) ?_
    refine hK.out _ _ ?_ (fun hHeld => ?_)
    focus (exact hS0.out _ (by (repeat (first | (with_reducible first | exact zR _ _ | exact zA _ _ | assumption | refine zL ?_ _ | refine zD ?_ | refine zN ?_ _) | ((with_reducible first | refine zC ?_ ?_ _ | refine zW ?_ ?_ _); rotate_left; focus (first | exact Nat.le_refl _ | (simp; done) | (simp; omega) | omega)) | with_reducible refine zT ?_ (by assumption)))))
    clear hK K
    (try simp only [Act.put, yA, yB, yC])
    refine any_done (by kernel_rfl) ?_
  case' br3 =>
   go_simp
   refine hK.out _ _ ?_ (fun hHeld => ?_)
   focus (exact hS0.out _ (by (repeat (first | (with_reducible first | exact zR _ _ | exact zA _ _ | assumption | refine zL ?_ _ | refine zD ?_ | refine zN ?_ _) | ((with_reducible first | refine zC ?_ ?_ _ | refine zW ?_ ?_ _); rotate_left; focus (first | exact Nat.le_refl _ | (simp; done) | (simp; omega) | omega)) | with_reducible refine zT ?_ (by assumption)))))
   clear hK K
   (try simp only [Act.put, yA, yB, yC])
   refine ao 4 rfl (by kernel_rfl) (by rfl) (fun K hK => ?_)
   obtain ⟨zq, zk, W1, hr1, ho1, hb1⟩ := app_sagas (coreS_is (w := w) (by assumption)).1.slc HC.out.orders; have hzy := hb1.size; (try simp at hzy); refine wp_append (.const (.slice none 0 0)) (.tmp 11) rfl rfl rfl hr1 ?_
   refine hK.out _ _ ?_ (fun hHeld => ?_)
   focus (exact hS0.out _ (by (repeat (first | (with_reducible first | exact zR _ _ | exact zA _ _ | assumption | refine zL ?_ _ | refine zD ?_ | refine zN ?_ _) | ((with_reducible first | refine zC ?_ ?_ _ | refine zW ?_ ?_ _); rotate_left; focus (first | exact Nat.le_refl _ | (simp; done) | (simp; omega) | omega)) | with_reducible refine zT ?_ (by assumption)))))
   clear hK K
   (try simp only [Act.put, yA, yB, yC])
   refine ao 9 rfl (by kernel_rfl) (by rfl) (fun K hK => ?_)
   go_simp
   (go_at_call 71; refine Calls.mono (list_any _ base pb P Q vb C.b (coreS_is (w := w) (by assumption)).1.books) ?_; rintro e W2 ⟨vp, rfl, ho2, hb2⟩; obtain ⟨qp, kp, rfl⟩ := own_slice' ho2; have hzx := hb2.size; (try simp at hzx))
   refine hK.out _ _ ?_ (fun hHeld => ?_)
   focus (exact hS0.out _ (by (repeat (first | (with_reducible first | exact zR _ _ | exact zA _ _ | assumption | refine zL ?_ _ | refine zD ?_ | refine zN ?_ _) | ((with_reducible first | refine zC ?_ ?_ _ | refine zW ?_ ?_ _); rotate_left; focus (first | exact Nat.le_refl _ | (simp; done) | (simp; omega) | omega)) | with_reducible refine zT ?_ (by assumption)))))
   clear hK K
   (try simp only [Act.put, yA, yB, yC])
   have hq := plan [10]
   iterate 1 (refine tk hq ?_ rfl (by kernel_rfl) (by assumption) (by rfl) (fun _ _ _ h => h) ?hy ?_; (case hy => (intro w hSw; (try dsimp only at hSw); go_simp; (try with_reducible rfl))); replace hq := hq.tl; (try simp only [Act.put, yA, yB, yC]))
   clear hq
   refine ao 12 rfl (by kernel_rfl) (by rfl) (fun K hK => ?_)
   refine wp_store (.tmp 3) (.tmp 18) rfl rfl rfl (run_storeRow (n := 11) (by kernel_rfl) (by repeat (first | exact row?_new (by simp) | exact row?_new rfl | (apply row?_below; assumption))) rfl rfl rfl) ?_
   refine hK.out _ _ ?_ (fun hHeld => ?_)
   focus (exact hS0.out _ (by (repeat (first | (with_reducible first | exact zR _ _ | exact zA _ _ | assumption | refine zL ?_ _ | refine zD ?_ | refine zN ?_ _) | ((with_reducible first | refine zC ?_ ?_ _ | refine zW ?_ ?_ _); rotate_left; focus (first | exact Nat.le_refl _ | (simp; done) | (simp; omega) | omega)) | with_reducible refine zT ?_ (by assumption)))))
   clear hK K
   (try simp only [Act.put, yA, yB, yC])
   refine any_done (by kernel_rfl) ?_
  all_goals go_wp2
  all_goals
    refine wp_world (PartsAt w _ (.slice zq C.l.length zk) (.slice qp C.b.l.length kp) #[.slice zq C.l.length zk, .slice qp C.b.l.length kp, .int .i64 0, .int .i64 0, .slice none 0 0, .int .i64 0, .int .i64 0, .slice none 0 0, .int .i64 0, .int .i64 0, .slice none 0 0] C) (PartsAt.start (c := zero11) ?_ ?_ ?_ ?_ ho1 ?_ ?_ ho2 ?_ ?_) ?_
    · (repeat (first | (with_reducible first | exact zR _ _ | exact zA _ _ | assumption | refine zL ?_ _ | refine zD ?_ | refine zN ?_ _) | ((with_reducible first | refine zC ?_ ?_ _ | refine zW ?_ ?_ _); rotate_left; focus (first | exact Nat.le_refl _ | (simp; done) | (simp; omega) | omega)) | with_reducible refine zT ?_ (by assumption)))
    · (repeat (first | exact heap_at (by simp) | exact heap_at rfl | (apply heap_below; assumption) | apply heap_past | apply heap_drew))
    · (repeat (first | exact heap_at rfl | (apply heap_below; assumption) | apply heap_past | apply heap_drew))
    · first | omega | (simp; done) | (simp; omega)
    · first | omega | (simp; done) | (simp; omega)
    · (repeat (first | (with_reducible first | exact zR _ _ | exact zA _ _ | assumption | refine zL ?_ _ | refine zD ?_ | refine zN ?_ _) | ((with_reducible first | refine zC ?_ ?_ _ | refine zW ?_ ?_ _); rotate_left; focus (first | exact Nat.le_refl _ | (simp; done) | (simp; omega) | omega)) | with_reducible refine zT ?_ (by assumption)))
    · first | omega | (simp; done) | (simp; omega)
    · (repeat (first | (with_reducible first | exact zR _ _ | exact zA _ _ | assumption | refine zL ?_ _ | refine zD ?_ | refine zN ?_ _) | ((with_reducible first | refine zC ?_ ?_ _ | refine zW ?_ ?_ _); rotate_left; focus (first | exact Nat.le_refl _ | (simp; done) | (simp; omega) | omega)) | with_reducible refine zT ?_ (by assumption)))
  all_goals
    intro WX hP
    replace hS0 := Lib.hid hS0
    have hP0 : RelParts w _ (.slice zq C.l.length zk) (.slice qp C.b.l.length kp) C (.int .i64 (0 : Nat)) WX := ⟨0, none, none, none, 0, 0, 0, by omega, rfl, hP, by omega, by omega, by omega⟩
    clear hP
    go_loopw [19] (fun x wr => RelParts w _ (.slice zq C.l.length zk) (.slice qp C.b.l.length kp) C x wr) (fun x _ => (3 - intOf x).toNat)
    case atStart => exact hP0
    case round =>
      obtain ⟨k, r0, r1, r2, n0, n1, n2, hk, rfl, hP, g0, g1, g2⟩ := hrel
      have hS := hS0.out wr hP.low
      have hwl := hP.low.size
      have hIn := Lib.hid (HC.out.inn.below (hP.low.mono (Nat.le_refl _)))
      have hk4 : k = 0 ∨ k = 1 ∨ k = 2 ∨ k = 3 := by omega
      rcases hk4 with rfl | rfl | rfl | rfl
      · have hrow := PartsAt.rowIs #[(.slice zq C.l.length zk), (.slice qp C.b.l.length kp), .int .i64 0, .int .i64 0, .slice none 0 0, .int .i64 0, .int .i64 0, .slice none 0 0, .int .i64 0, .int .i64 0, .slice none 0 0] hP
        clear hk
        replace hP := Lib.hid hP
        go_wp2_with (go_at_call 72; refine Calls.mono (newest0_any _ _ _ _ _ _ hIn.out) ?_; rintro e WN ⟨rN, nN, rfl, hoN, hbN⟩; have hrowN := heap_below hbN hrow; have hxN := cells_at hrowN; have hfN := frozen_at hrowN; have hzN := hbN.size; replace hbN := Lib.hid hbN; replace hoN := Lib.hid hoN; replace hrowN := Lib.hid hrowN)
        obtain ⟨hst, hoth⟩ := hP.out.store (o := 2) (a := .int .i64 C.i.s0.party) (b := .int .i64 C.i.s0.seq) (c := .slice rN C.i.s0.rows.length nN) hbN.out
        exact ⟨⟨1, rN, none, none, nN, 0, 0, by omega, rfl, hst, fun _ => RowsO.same (own_base hoN.out (Nat.zero_le _)) (fun kk hkk => hoth kk (fun e => by obtain ⟨cc, hc⟩ := own_block hoN.out hkk; rw [e, hrowN.out] at hc; simp at hc)), fun h => absurd h (by omega), fun h => absurd h (by omega)⟩, by simp [intOf]⟩
      · have hrow := PartsAt.rowIs #[(.slice zq C.l.length zk), (.slice qp C.b.l.length kp), .int .i64 C.i.s0.party, .int .i64 C.i.s0.seq, .slice r0 C.i.s0.rows.length n0, .int .i64 0, .int .i64 0, .slice none 0 0, .int .i64 0, .int .i64 0, .slice none 0 0] hP
        clear hk
        replace hP := Lib.hid hP
        go_wp2_with (go_at_call 72; refine Calls.mono (newest1_any _ _ _ _ _ _ hIn.out) ?_; rintro e WN ⟨rN, nN, rfl, hoN, hbN⟩; have hrowN := heap_below hbN hrow; have hxN := cells_at hrowN; have hfN := frozen_at hrowN; have hzN := hbN.size; replace hbN := Lib.hid hbN; replace hoN := Lib.hid hoN; replace hrowN := Lib.hid hrowN)
        obtain ⟨hst, hoth⟩ := hP.out.store (o := 5) (a := .int .i64 C.i.s1.party) (b := .int .i64 C.i.s1.seq) (c := .slice rN C.i.s1.rows.length nN) hbN.out
        exact ⟨⟨2, r0, rN, none, n0, nN, 0, by omega, rfl, hst, fun _ => (g0 (by omega)).store hP.row hbN.out hoth, fun _ => RowsO.same (own_base hoN.out (Nat.zero_le _)) (fun kk hkk => hoth kk (fun e => by obtain ⟨cc, hc⟩ := own_block hoN.out hkk; rw [e, hrowN.out] at hc; simp at hc)), fun h => absurd h (by omega)⟩, by simp [intOf]⟩
      · have hrow := PartsAt.rowIs #[(.slice zq C.l.length zk), (.slice qp C.b.l.length kp), .int .i64 C.i.s0.party, .int .i64 C.i.s0.seq, .slice r0 C.i.s0.rows.length n0, .int .i64 C.i.s1.party, .int .i64 C.i.s1.seq, .slice r1 C.i.s1.rows.length n1, .int .i64 0, .int .i64 0, .slice none 0 0] hP
        clear hk
        replace hP := Lib.hid hP
        go_wp2_with (go_at_call 72; refine Calls.mono (newest2_any _ _ _ _ _ _ hIn.out) ?_; rintro e WN ⟨rN, nN, rfl, hoN, hbN⟩; have hrowN := heap_below hbN hrow; have hxN := cells_at hrowN; have hfN := frozen_at hrowN; have hzN := hbN.size; replace hbN := Lib.hid hbN; replace hoN := Lib.hid hoN; replace hrowN := Lib.hid hrowN)
        obtain ⟨hst, hoth⟩ := hP.out.store (o := 8) (a := .int .i64 C.i.s2.party) (b := .int .i64 C.i.s2.seq) (c := .slice rN C.i.s2.rows.length nN) hbN.out
        exact ⟨⟨3, r0, r1, rN, n0, n1, nN, by omega, rfl, hst, fun _ => (g0 (by omega)).store hP.row hbN.out hoth, fun _ => (g1 (by omega)).store hP.row hbN.out hoth, fun _ => RowsO.same (own_base hoN.out (Nat.zero_le _)) (fun kk hkk => hoth kk (fun e => by obtain ⟨cc, hc⟩ := own_block hoN.out hkk; rw [e, hrowN.out] at hc; simp at hc))⟩, by simp [intOf]⟩
      · have hrow := PartsAt.rowIs #[(.slice zq C.l.length zk), (.slice qp C.b.l.length kp), .int .i64 C.i.s0.party, .int .i64 C.i.s0.seq, .slice r0 C.i.s0.rows.length n0, .int .i64 C.i.s1.party, .int .i64 C.i.s1.seq, .slice r1 C.i.s1.rows.length n1, .int .i64 C.i.s2.party, .int .i64 C.i.s2.seq, .slice r2 C.i.s2.rows.length n2] hP
        have hx := cells_at hrow
        have hres := hP.res
        unfold zero11 at hres
        have hrx := cells_at hres
        have hrf := frozen_at hres
        have hgt := hP.gt
        have hXl := (Array.getElem?_eq_some_iff.1 hP.row).1
        replace hrow := Lib.hid hrow
        replace hres := Lib.hid hres
        have h0 := Lib.hid (g0 (by omega))
        have h1 := Lib.hid (g1 (by omega))
        have h2 := Lib.hid (g2 (by omega))
        replace hP := Lib.hid hP
        clear g0 g1 g2 hk
        go_wp2
        refine bodyPost_ret (v := .agg #[(.slice zq C.l.length zk), (.slice qp C.b.l.length kp), .int .i64 C.i.s0.party, .int .i64 C.i.s0.seq, .slice r0 C.i.s0.rows.length n0, .int .i64 C.i.s1.party, .int .i64 C.i.s1.seq, .slice r1 C.i.s1.rows.length n1, .int .i64 C.i.s2.party, .int .i64 C.i.s2.seq, .slice r2 C.i.s2.rows.length n2]) ?_ rfl ?_
        · simp [results, Tryz.results36, go_sem, ↓IntWalk.iteOmega, *]
        · refine PartsOut.mk (W := wr) (r0 := r0) (r1 := r1) (r2 := r2) (n0 := n0) (n1 := n1) (n2 := n2) hP.out h0.out h1.out h2.out ?_
          (repeat (first | (with_reducible exact Keeps.refl _ _) | (with_reducible assumption) | (with_reducible refine Keeps.alloc ?_ _) | ((with_reducible refine Keeps.setCell ?_ ?_ _); rotate_left; focus (first | (left; first | omega | (simp; done) | (simp; omega)) | (right; first | exact Nat.le_refl _ | (simp; done) | (simp; omega) | omega))) | ((with_reducible refine Keeps.setRow ?_ ?_ _); rotate_left; focus (first | (left; first | omega | (simp; done) | (simp; omega)) | (right; first | exact Nat.le_refl _ | (simp; done) | (simp; omega) | omega))) | (with_reducible refine Keeps.drew ?_) | (with_reducible refine Keeps.drewN ?_ _)))
end Go.Proofs.YtkgpnikmdmpfaaaGreatDoor

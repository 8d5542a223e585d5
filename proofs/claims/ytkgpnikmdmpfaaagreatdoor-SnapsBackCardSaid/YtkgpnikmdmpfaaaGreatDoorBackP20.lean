/-
  intake.Accept: what is taken in. Written by mkacc.py.
-/
import Derived.Test.YtkgpnikmdmpfaaaGreatDoorBackP13
import Derived.Test.YtkgpnikmdmpfaaaGreatDoorBackP19
set_option linter.unusedVariables false
set_option linter.unusedSimpArgs false
namespace Go.Proofs.YtkgpnikmdmpfaaaGreatDoor
open Go.RowKit Go.Maps

theorem accW {w w1 w2 : World} {nq o : Nat} {c10 : Array Value} {a b v' : Value} (hlow : Below w.heap.size w w1) (hz : w.heap.size + 3 ≤ w1.heap.size)
    (hb2 : Below (((w1.alloc (.map #[] 0)).alloc (.cells c10 60)).drewN nq).heap.size (((w1.alloc (.map #[] 0)).alloc (.cells c10 60)).drewN nq) w2) :
    Below w.heap.size w ((((w2.setCell ⟨w.heap.size + 1, 2, none⟩ v').setCell ⟨w1.heap.size + 1, o, none⟩ a).setCell ⟨w1.heap.size + 1, o + 1, none⟩ b).setCell ⟨w1.heap.size + 1, o + 2, none⟩ v') ∧
    (∀ k, k ≠ w.heap.size + 1 → k ≠ w1.heap.size + 1 → ((((w2.setCell ⟨w.heap.size + 1, 2, none⟩ v').setCell ⟨w1.heap.size + 1, o, none⟩ a).setCell ⟨w1.heap.size + 1, o + 1, none⟩ b).setCell ⟨w1.heap.size + 1, o + 2, none⟩ v').heap[k]? = w2.heap[k]?) ∧
    ((((w2.setCell ⟨w.heap.size + 1, 2, none⟩ v').setCell ⟨w1.heap.size + 1, o, none⟩ a).setCell ⟨w1.heap.size + 1, o + 1, none⟩ b).setCell ⟨w1.heap.size + 1, o + 2, none⟩ v').heap[w1.heap.size + 1]? =
      some (.cells (((c10.setIfInBounds o a).setIfInBounds (o + 1) b).setIfInBounds (o + 2) v') 60 (0, 0)) := by
  have e0 : (((w1.alloc (.map #[] 0)).alloc (.cells c10 60)).drewN nq).heap.size = w1.heap.size + 2 := by simp [drewN_size]
  rw [e0] at hb2
  have hB : Below w.heap.size w w2 := ((hlow.alloc (by omega) _).alloc (by simp; omega) _).trans ((keeps_drewN _ nq).trans (hb2.mono (by omega)))
  have h0 : w2.heap[w1.heap.size + 1]? = some (.cells c10 60 (0, 0)) := by
    rw [hb2.block _ (by omega)]; exact heap_at (by simp)
  refine ⟨(((hB.setCell (by simp) _).setCell (by simp; omega) _).setCell (by simp; omega) _).setCell (by simp; omega) _, fun k h1 h2 => ?_, ?_⟩
  · rw [Below.heap_setCell _ _ _ _ (by simpa using h2), Below.heap_setCell _ _ _ _ (by simpa using h2), Below.heap_setCell _ _ _ _ (by simpa using h2), Below.heap_setCell _ _ _ _ (by simpa using h1)]
  · exact setCell_row (setCell_row (setCell_row (by rw [Below.heap_setCell _ _ _ _ (by simp; omega)]; exact h0) o a) (o + 1) b) (o + 2) v'
theorem rowsO_far {w1 W w2 : World} {v : Value} {l : List Sp.Row} {B C : Nat} (h : RowsO w2 v l) (hB : ∀ c, w2.heap[B]? ≠ some (.cells c 127 (0, 0))) (hC : ∀ c, w2.heap[C]? ≠ some (.cells c 127 (0, 0))) (hs : ∀ k, k ≠ B → k ≠ C → W.heap[k]? = w2.heap[k]?) : RowsO W v l :=
  h.same (fun k hk => by
    obtain ⟨c, hc⟩ := own_block h hk
    exact hs k (fun e => by subst e; exact hB c hc) (fun e => by subst e; exact hC c hc))

theorem accAt_start0 {w w1 w2 : World} {nq : Nat} {i : Sp.Intake} {v0 v1 v2 v' : Value} {m : Option Nat} {seq : Int} {l : List Sp.Row} {x2 : Array Value} {M : Value} (hi : InIs w i v0 v1 v2 m) (hlow : Below w.heap.size w w1) (hz : w.heap.size + 3 ≤ w1.heap.size)
    (hM : M = .map (some w1.heap.size)) (h2 : w1.heap[w.heap.size + 1]? = some (.cells x2 37 (0, 0))) (h3 : w1.heap[w.heap.size + 2]? = some (.cells #[.int .i64 0, .int .i64 0, .slice none 0 0, .int .i64 0, .int .i64 0, .slice none 0 0, .int .i64 0, .int .i64 0, .slice none 0 0, .map none] 60 (0, 0)))
    (hb2 : Below (((w1.alloc (.map #[] 0)).alloc (.cells #[.int .i64 i.s0.party, .int .i64 i.s0.seq, v0, .int .i64 i.s1.party, .int .i64 i.s1.seq, v1, .int .i64 i.s2.party, .int .i64 i.s2.seq, v2, M] 60)).drewN nq).heap.size (((w1.alloc (.map #[] 0)).alloc (.cells #[.int .i64 i.s0.party, .int .i64 i.s0.seq, v0, .int .i64 i.s1.party, .int .i64 i.s1.seq, v1, .int .i64 i.s2.party, .int .i64 i.s2.seq, v2, M] 60)).drewN nq) w2)
    (ho : w2.ownsRow (((w1.alloc (.map #[] 0)).alloc (.cells #[.int .i64 i.s0.party, .int .i64 i.s0.seq, v0, .int .i64 i.s1.party, .int .i64 i.s1.seq, v1, .int .i64 i.s2.party, .int .i64 i.s2.seq, v2, M] 60)).drewN nq).heap.size 127 5 v' l.length (l.flatMap rowCells)) :
    AccAt w (w1.heap.size + 1) w1.heap.size (Sp.setStmt i ⟨0, seq, l⟩) v' v1 v2 0 (fun _ => none)
      ((((w2.setCell ⟨w.heap.size + 1, 2, none⟩ v').setCell ⟨w1.heap.size + 1, 0, none⟩ (.int .i64 0)).setCell ⟨w1.heap.size + 1, 1, none⟩ (.int .i64 seq)).setCell ⟨w1.heap.size + 1, 2, none⟩ v') := by
  subst hM
  obtain ⟨a1, a2, a3⟩ := accW (o := 0) (a := .int .i64 0) (b := .int .i64 seq) (v' := v') hlow hz hb2
  have e0 : (((w1.alloc (.map #[] 0)).alloc (.cells #[.int .i64 i.s0.party, .int .i64 i.s0.seq, v0, .int .i64 i.s1.party, .int .i64 i.s1.seq, v1, .int .i64 i.s2.party, .int .i64 i.s2.seq, v2, .map (some w1.heap.size)] 60)).drewN nq).heap.size = w1.heap.size + 2 := by simp [drewN_size]
  have hsz := hb2.size
  rw [e0] at hsz
  have hold : ∀ k, k < w1.heap.size → w2.heap[k]? = w1.heap[k]? := fun k hk => by
    rw [hb2.block k (by rw [e0]; omega)]
    show ((w1.alloc _).alloc _).heap[k]? = _
    rw [Below.heap_alloc _ _ _ (by simp; omega), Below.heap_alloc _ _ _ hk]
  have hlow2 : ∀ k, k < w.heap.size → w2.heap[k]? = w.heap[k]? := fun k hk => (hold k (by omega)).trans (hlow.block k hk)
  have hi2 := hi.same (w' := w2) (fun k hk => hlow2 k (hi.lt hk))
  have nB : ∀ c, w2.heap[w.heap.size + 1]? ≠ some (.cells c 127 (0, 0)) := fun c h => by
    rw [hold _ (by omega), h2] at h; simp at h
  have hbox : w2.heap[w1.heap.size + 1]? = some (.cells #[.int .i64 i.s0.party, .int .i64 i.s0.seq, v0, .int .i64 i.s1.party, .int .i64 i.s1.seq, v1, .int .i64 i.s2.party, .int .i64 i.s2.seq, v2, .map (some w1.heap.size)] 60 (0, 0)) := by
    rw [hb2.block _ (by rw [e0]; omega)]; exact heap_at (by simp)
  have nC : ∀ c, w2.heap[w1.heap.size + 1]? ≠ some (.cells c 127 (0, 0)) := fun c h => by
    rw [hbox] at h; simp at h
  have rN : RowsO w2 v' l := own_base ho (Nat.zero_le _)
  have r0 := hi2.r0
  have r1 := hi2.r1
  have r2 := hi2.r2
  have hmap : MapAt Tryz.prog 34 pairEnc w2 w1.heap.size 0 (fun _ => none) := by
    have h := mapAt_new (P := Tryz.prog) (k := 34) (enc := pairEnc) w1
    refine h.same ?_
    rw [hb2.block _ (by rw [e0]; omega)]
    show ((w1.alloc _).alloc _).heap[w1.heap.size]? = _
    rw [Below.heap_alloc _ _ _ (by simp)]
  exact ⟨a1, rowsO_far (w1 := w1) rN nB nC a2, rowsO_far (w1 := w1) r1 nB nC a2, rowsO_far (w1 := w1) r2 nB nC a2, a3, hmap.same (a2 _ (by omega) (by omega)), by
    rw [a2 _ (by omega) (by omega), hold _ (by omega)]; exact h3, by omega, by omega⟩

theorem accAt_start1 {w w1 w2 : World} {nq : Nat} {i : Sp.Intake} {v0 v1 v2 v' : Value} {m : Option Nat} {seq : Int} {l : List Sp.Row} {x2 : Array Value} {M : Value} (hi : InIs w i v0 v1 v2 m) (hlow : Below w.heap.size w w1) (hz : w.heap.size + 3 ≤ w1.heap.size)
    (hM : M = .map (some w1.heap.size)) (h2 : w1.heap[w.heap.size + 1]? = some (.cells x2 37 (0, 0))) (h3 : w1.heap[w.heap.size + 2]? = some (.cells #[.int .i64 0, .int .i64 0, .slice none 0 0, .int .i64 0, .int .i64 0, .slice none 0 0, .int .i64 0, .int .i64 0, .slice none 0 0, .map none] 60 (0, 0)))
    (hb2 : Below (((w1.alloc (.map #[] 0)).alloc (.cells #[.int .i64 i.s0.party, .int .i64 i.s0.seq, v0, .int .i64 i.s1.party, .int .i64 i.s1.seq, v1, .int .i64 i.s2.party, .int .i64 i.s2.seq, v2, M] 60)).drewN nq).heap.size (((w1.alloc (.map #[] 0)).alloc (.cells #[.int .i64 i.s0.party, .int .i64 i.s0.seq, v0, .int .i64 i.s1.party, .int .i64 i.s1.seq, v1, .int .i64 i.s2.party, .int .i64 i.s2.seq, v2, M] 60)).drewN nq) w2)
    (ho : w2.ownsRow (((w1.alloc (.map #[] 0)).alloc (.cells #[.int .i64 i.s0.party, .int .i64 i.s0.seq, v0, .int .i64 i.s1.party, .int .i64 i.s1.seq, v1, .int .i64 i.s2.party, .int .i64 i.s2.seq, v2, M] 60)).drewN nq).heap.size 127 5 v' l.length (l.flatMap rowCells)) :
    AccAt w (w1.heap.size + 1) w1.heap.size (Sp.setStmt i ⟨1, seq, l⟩) v0 v' v2 0 (fun _ => none)
      ((((w2.setCell ⟨w.heap.size + 1, 2, none⟩ v').setCell ⟨w1.heap.size + 1, 3, none⟩ (.int .i64 1)).setCell ⟨w1.heap.size + 1, 4, none⟩ (.int .i64 seq)).setCell ⟨w1.heap.size + 1, 5, none⟩ v') := by
  subst hM
  obtain ⟨a1, a2, a3⟩ := accW (o := 3) (a := .int .i64 1) (b := .int .i64 seq) (v' := v') hlow hz hb2
  have e0 : (((w1.alloc (.map #[] 0)).alloc (.cells #[.int .i64 i.s0.party, .int .i64 i.s0.seq, v0, .int .i64 i.s1.party, .int .i64 i.s1.seq, v1, .int .i64 i.s2.party, .int .i64 i.s2.seq, v2, .map (some w1.heap.size)] 60)).drewN nq).heap.size = w1.heap.size + 2 := by simp [drewN_size]
  have hsz := hb2.size
  rw [e0] at hsz
  have hold : ∀ k, k < w1.heap.size → w2.heap[k]? = w1.heap[k]? := fun k hk => by
    rw [hb2.block k (by rw [e0]; omega)]
    show ((w1.alloc _).alloc _).heap[k]? = _
    rw [Below.heap_alloc _ _ _ (by simp; omega), Below.heap_alloc _ _ _ hk]
  have hlow2 : ∀ k, k < w.heap.size → w2.heap[k]? = w.heap[k]? := fun k hk => (hold k (by omega)).trans (hlow.block k hk)
  have hi2 := hi.same (w' := w2) (fun k hk => hlow2 k (hi.lt hk))
  have nB : ∀ c, w2.heap[w.heap.size + 1]? ≠ some (.cells c 127 (0, 0)) := fun c h => by
    rw [hold _ (by omega), h2] at h; simp at h
  have hbox : w2.heap[w1.heap.size + 1]? = some (.cells #[.int .i64 i.s0.party, .int .i64 i.s0.seq, v0, .int .i64 i.s1.party, .int .i64 i.s1.seq, v1, .int .i64 i.s2.party, .int .i64 i.s2.seq, v2, .map (some w1.heap.size)] 60 (0, 0)) := by
    rw [hb2.block _ (by rw [e0]; omega)]; exact heap_at (by simp)
  have nC : ∀ c, w2.heap[w1.heap.size + 1]? ≠ some (.cells c 127 (0, 0)) := fun c h => by
    rw [hbox] at h; simp at h
  have rN : RowsO w2 v' l := own_base ho (Nat.zero_le _)
  have r0 := hi2.r0
  have r1 := hi2.r1
  have r2 := hi2.r2
  have hmap : MapAt Tryz.prog 34 pairEnc w2 w1.heap.size 0 (fun _ => none) := by
    have h := mapAt_new (P := Tryz.prog) (k := 34) (enc := pairEnc) w1
    refine h.same ?_
    rw [hb2.block _ (by rw [e0]; omega)]
    show ((w1.alloc _).alloc _).heap[w1.heap.size]? = _
    rw [Below.heap_alloc _ _ _ (by simp)]
  exact ⟨a1, rowsO_far (w1 := w1) r0 nB nC a2, rowsO_far (w1 := w1) rN nB nC a2, rowsO_far (w1 := w1) r2 nB nC a2, a3, hmap.same (a2 _ (by omega) (by omega)), by
    rw [a2 _ (by omega) (by omega), hold _ (by omega)]; exact h3, by omega, by omega⟩

theorem accAt_start2 {w w1 w2 : World} {nq : Nat} {i : Sp.Intake} {v0 v1 v2 v' : Value} {m : Option Nat} {seq : Int} {l : List Sp.Row} {x2 : Array Value} {M : Value} (hi : InIs w i v0 v1 v2 m) (hlow : Below w.heap.size w w1) (hz : w.heap.size + 3 ≤ w1.heap.size)
    (hM : M = .map (some w1.heap.size)) (h2 : w1.heap[w.heap.size + 1]? = some (.cells x2 37 (0, 0))) (h3 : w1.heap[w.heap.size + 2]? = some (.cells #[.int .i64 0, .int .i64 0, .slice none 0 0, .int .i64 0, .int .i64 0, .slice none 0 0, .int .i64 0, .int .i64 0, .slice none 0 0, .map none] 60 (0, 0)))
    (hb2 : Below (((w1.alloc (.map #[] 0)).alloc (.cells #[.int .i64 i.s0.party, .int .i64 i.s0.seq, v0, .int .i64 i.s1.party, .int .i64 i.s1.seq, v1, .int .i64 i.s2.party, .int .i64 i.s2.seq, v2, M] 60)).drewN nq).heap.size (((w1.alloc (.map #[] 0)).alloc (.cells #[.int .i64 i.s0.party, .int .i64 i.s0.seq, v0, .int .i64 i.s1.party, .int .i64 i.s1.seq, v1, .int .i64 i.s2.party, .int .i64 i.s2.seq, v2, M] 60)).drewN nq) w2)
    (ho : w2.ownsRow (((w1.alloc (.map #[] 0)).alloc (.cells #[.int .i64 i.s0.party, .int .i64 i.s0.seq, v0, .int .i64 i.s1.party, .int .i64 i.s1.seq, v1, .int .i64 i.s2.party, .int .i64 i.s2.seq, v2, M] 60)).drewN nq).heap.size 127 5 v' l.length (l.flatMap rowCells)) :
    AccAt w (w1.heap.size + 1) w1.heap.size (Sp.setStmt i ⟨2, seq, l⟩) v0 v1 v' 0 (fun _ => none)
      ((((w2.setCell ⟨w.heap.size + 1, 2, none⟩ v').setCell ⟨w1.heap.size + 1, 6, none⟩ (.int .i64 2)).setCell ⟨w1.heap.size + 1, 7, none⟩ (.int .i64 seq)).setCell ⟨w1.heap.size + 1, 8, none⟩ v') := by
  subst hM
  obtain ⟨a1, a2, a3⟩ := accW (o := 6) (a := .int .i64 2) (b := .int .i64 seq) (v' := v') hlow hz hb2
  have e0 : (((w1.alloc (.map #[] 0)).alloc (.cells #[.int .i64 i.s0.party, .int .i64 i.s0.seq, v0, .int .i64 i.s1.party, .int .i64 i.s1.seq, v1, .int .i64 i.s2.party, .int .i64 i.s2.seq, v2, .map (some w1.heap.size)] 60)).drewN nq).heap.size = w1.heap.size + 2 := by simp [drewN_size]
  have hsz := hb2.size
  rw [e0] at hsz
  have hold : ∀ k, k < w1.heap.size → w2.heap[k]? = w1.heap[k]? := fun k hk => by
    rw [hb2.block k (by rw [e0]; omega)]
    show ((w1.alloc _).alloc _).heap[k]? = _
    rw [Below.heap_alloc _ _ _ (by simp; omega), Below.heap_alloc _ _ _ hk]
  have hlow2 : ∀ k, k < w.heap.size → w2.heap[k]? = w.heap[k]? := fun k hk => (hold k (by omega)).trans (hlow.block k hk)
  have hi2 := hi.same (w' := w2) (fun k hk => hlow2 k (hi.lt hk))
  have nB : ∀ c, w2.heap[w.heap.size + 1]? ≠ some (.cells c 127 (0, 0)) := fun c h => by
    rw [hold _ (by omega), h2] at h; simp at h
  have hbox : w2.heap[w1.heap.size + 1]? = some (.cells #[.int .i64 i.s0.party, .int .i64 i.s0.seq, v0, .int .i64 i.s1.party, .int .i64 i.s1.seq, v1, .int .i64 i.s2.party, .int .i64 i.s2.seq, v2, .map (some w1.heap.size)] 60 (0, 0)) := by
    rw [hb2.block _ (by rw [e0]; omega)]; exact heap_at (by simp)
  have nC : ∀ c, w2.heap[w1.heap.size + 1]? ≠ some (.cells c 127 (0, 0)) := fun c h => by
    rw [hbox] at h; simp at h
  have rN : RowsO w2 v' l := own_base ho (Nat.zero_le _)
  have r0 := hi2.r0
  have r1 := hi2.r1
  have r2 := hi2.r2
  have hmap : MapAt Tryz.prog 34 pairEnc w2 w1.heap.size 0 (fun _ => none) := by
    have h := mapAt_new (P := Tryz.prog) (k := 34) (enc := pairEnc) w1
    refine h.same ?_
    rw [hb2.block _ (by rw [e0]; omega)]
    show ((w1.alloc _).alloc _).heap[w1.heap.size]? = _
    rw [Below.heap_alloc _ _ _ (by simp)]
  exact ⟨a1, rowsO_far (w1 := w1) r0 nB nC a2, rowsO_far (w1 := w1) r1 nB nC a2, rowsO_far (w1 := w1) rN nB nC a2, a3, hmap.same (a2 _ (by omega) (by omega)), by
    rw [a2 _ (by omega) (by omega), hold _ (by omega)]; exact h3, by omega, by omega⟩
set_option maxRecDepth 100000 in
set_option maxHeartbeats 4000000 in
theorem accept_ok0 (w : World) (i : Sp.Intake) (v0 v1 v2 : Value) (m : Option Nat) (h : InIs w i v0 v1 v2 m) (seq : Int) (v : Value) (l : List Sp.Row) (hp : Parties w) (hl : RowsArg w v l) (hyes : stmtOk 0 seq l = true) (hst : i.s0.seq < seq) :
    Calls Tryz.prog 58 #[inVal i v0 v1 v2 m, .agg #[.int .i64 0, .int .i64 seq, v]] w (AccOk w (Sp.setStmt i ⟨0, seq, l⟩)) := by
  have hmm := @run_makeMap Tryz.prog
  have hll := stmtOk_len hyes
  have HI := Lib.hid h
  have HS := setStmt_ok h hyes
  obtain ⟨i', hi'⟩ : ∃ i', i' = Sp.setStmt i ⟨0, seq, l⟩ := ⟨_, rfl⟩
  rw [← hi'] at HS ⊢
  replace hi' := Lib.hid hi'
  replace HS := Lib.hid HS
  obtain ⟨q0, k0, rfl⟩ := own_slice' h.r0
  obtain ⟨q1, k1, rfl⟩ := own_slice' h.r1
  obtain ⟨q2, k2, rfl⟩ := own_slice' h.r2
  obtain ⟨q, k, rfl⟩ := slcA_shape hl
  have HV := Lib.hid (fun W (hW : Below w.heap.size w W) => rowsValid_arg 0 seq _ l W (hp.grew hW) (hl.mono hW) rfl)
  rw [hyes] at HV
  have HU := Lib.hid hl
  simp only [inVal]
  clear h hp hl hyes
  go_enter Tryz.func58, Tryz.ntmps58
  go_wp2_with (go_at_call 74; refine Calls.mono (HV.out _ (by (repeat (first | (with_reducible first | exact zR _ _ | exact zA _ _ | assumption | refine zL ?_ _ | refine zD ?_ | refine zN ?_ _) | ((with_reducible first | refine zC ?_ ?_ _ | refine zW ?_ ?_ _); rotate_left; focus (first | exact Nat.le_refl _ | (simp; done) | (simp; omega) | omega)) | with_reducible refine zT ?_ (by assumption))))) ?_; rintro e w1 ⟨rfl, hb⟩; obtain ⟨b1, b2, b3, hz, hlow⟩ := blocks3 hb; have hlt0 : w.heap.size < w1.heap.size := (by omega); have hlt1 : w.heap.size + 1 < w1.heap.size := (by omega); have hlt2 : w.heap.size + 2 < w1.heap.size := (by omega); have x1 := cells_at b1; have x2 := cells_at b2; have x3 := cells_at b3; have f1 := frozen_at b1; have f2 := frozen_at b2; have f3 := frozen_at b3; have y1 := row?_of b1; have y2 := row?_of b2; have y3 := row?_of b3; replace b1 := Lib.hid b1; replace b2 := Lib.hid b2; replace b3 := Lib.hid b3; replace hlow := Lib.hid hlow; clear hb)
  go_quiet (fail)
  go_wp2_with (at_builtin; refine wpList_cloneA rowCells_len rowCells_one Tryz.underlying35 info_row rfl (by omega) rfl (.tmp 30) rfl rfl (SlcA.mono HU.out (by have := hlow.out; (repeat (first | (with_reducible first | exact zR _ _ | exact zA _ _ | assumption | refine zL ?_ _ | refine zD ?_ | refine zN ?_ _) | ((with_reducible first | refine zC ?_ ?_ _ | refine zW ?_ ?_ _); rotate_left; focus (first | exact Nat.le_refl _ | (simp; done) | (simp; omega) | omega)) | with_reducible refine zT ?_ (by assumption))))) (by unfold maxLen; omega) (by omega) ?_; intro q' c' w2 ho hb2; obtain ⟨hc2, hf2, hr2, hz2⟩ := brow hb2; (try simp at hz2); replace ho := Lib.hid ho; replace hb2 := Lib.hid hb2)
  have hMid : AccAt w (w1.heap.size + 1) w1.heap.size (Sp.setStmt i ⟨0, seq, l⟩) (.slice q' l.length c') (.slice q1 i.s1.rows.length k1) (.slice q2 i.s2.rows.length k2) 0 (fun _ => none) ((((w2.setCell ⟨w.heap.size + 1, 2, none⟩ (.slice q' l.length c')).setCell ⟨w1.heap.size + 1, 0, none⟩ (.int .i64 0)).setCell ⟨w1.heap.size + 1, 1, none⟩ (.int .i64 seq)).setCell ⟨w1.heap.size + 1, 2, none⟩ (.slice q' l.length c')) :=
    accAt_start0 HI.out hlow.out hz rfl b2.out b3.out hb2.out ho.out
  rw [← hi'.out] at hMid
  refine wp_world (AccAt w (w1.heap.size + 1) w1.heap.size i' (.slice q' l.length c') (.slice q1 i.s1.rows.length k1) (.slice q2 i.s2.rows.length k2) 0 (fun _ => none)) hMid ?_
  clear hMid hb2 ho hc2 hf2 hr2 hz2 x1 x2 x3 f1 f2 f3 y1 y2 y3 b1 b2 b3 hlow
  clear HI HU HV
  intro W hW
  obtain ⟨B1, hB1⟩ : ∃ B1, B1 = w1.heap.size := ⟨_, rfl⟩
  rw [← hB1] at hlt0 hlt1 hlt2 hW ⊢
  clear hB1 hz
  go_loopw [40] (fun x wr => RelAcc w (B1 + 1) B1 i' (.slice q' l.length c') (.slice q1 i.s1.rows.length k1) (.slice q2 i.s2.rows.length k2) x wr) (fun x _ => (3 - intOf x).toNat)
  case atStart => exact ⟨0, by omega, rfl, hW⟩
  case round =>
    obtain ⟨kk, hkk, rfl, hA⟩ := hrel
    by_cases hk3 : kk < 3
    · have hidx := idx9 0 seq (.slice q' l.length c') i.s1.party i.s1.seq (.slice q1 i.s1.rows.length k1) i.s2.party i.s2.seq (.slice q2 i.s2.rows.length k2) hk3
      have hR := hA.rows hk3
      obtain ⟨qk, ck, eK⟩ := own_slice' hR
      rw [eK] at hidx
      obtain ⟨pk, hpk⟩ : ∃ pk, pk = sel3 kk 0 i.s1.party i.s2.party := ⟨_, rfl⟩
      obtain ⟨sk, hsk⟩ : ∃ sk, sk = sel3 kk seq i.s1.seq i.s2.seq := ⟨_, rfl⟩
      rw [← hpk, ← hsk] at hidx
      clear hpk hsk hR
      replace eK := Lib.hid eK
      replace hA := Lib.hid hA
      go_wp2
      obtain ⟨W1, hW1⟩ : ∃ W1 : World, Hid (W1 = wr.alloc (.cells #[.int .i64 pk, .int .i64 sk, .slice qk (lstK i' kk).length ck] 37)) := ⟨_, rfl⟩
      refine wp_world (AccAt w (B1 + 1) B1 i' (.slice q' l.length c') (.slice q1 i.s1.rows.length k1) (.slice q2 i.s2.rows.length k2) (cntK i' kk) (fun a => rowsK i' kk a.1 a.2)) (hA.out.keep (alloc_grew _ _)) ?_
      clear hidx hA hW1 W1
      intro W1 hA1
      go_loopw [46] (fun x wr2 => RelIn w (B1 + 1) B1 i' (.slice q' l.length c') (.slice q1 i.s1.rows.length k1) (.slice q2 i.s2.rows.length k2) kk x wr2) (fun x _ => (lstK i' kk).length - (intOf x).toNat)
      case atStart => exact ⟨0, by omega, rfl, hA1⟩
      case round =>
        obtain ⟨j, hj, rfl, hA2⟩ := hrel
        by_cases hlt : j < (lstK i' kk).length
        · obtain ⟨r, hr⟩ : ∃ r, (lstK i' kk)[j]? = some r := ⟨_, List.getElem?_eq_getElem hlt⟩
          have hRR := hA2.rows hk3
          rw [eK.out] at hRR
          obtain ⟨b, rfl, g0, g1, g2, g3, g4, hbl⟩ := rowsO_at hRR hr
          have hin := lstK_in HS.out (List.mem_of_getElem? hr)
          have hcl := Lib.hid (cntK_le HS.out (show kk ≤ 3 by omega))
          have hll2 := Lib.hid (lstK_le HS.out kk)
          have hll3 : (lstK i' kk).length ≤ 400 := lstK_le HS.out kk
          have hmp := (hA2.keep (alloc_grew wr (.cells #[.int .i64 r.order, .int .i64 r.deed, .int .i64 r.code, .int .i64 r.amount, .int .i64 r.qty] 127))).map
          obtain ⟨W3, hr3, hm3, hg3⟩ := hmp.put key_law Tryz.underlying58 (by have := hcl.out; have := hll2.out; unfold maxLen; omega) pairEnc_inj (a := (r.order, r.deed)) (key_key hin.order hin.deed) (rowVal' r)
          have hh := hA2.head
          have hho := cells_at hh
          have hhl := (Array.getElem?_eq_some_iff.1 hh).1
          have hnext := RelIn.next hr (hA2.keep (alloc_grew wr (.cells #[.int .i64 r.order, .int .i64 r.deed, .int .i64 r.code, .int .i64 r.amount, .int .i64 r.qty] 127))) hg3 hm3
          have hh9 := hho 9
          simp only [List.getElem?_toArray, List.getElem?_cons_succ, List.getElem?_cons_zero] at hh9
          simp only [pairEnc, rowVal'] at hr3
          replace hr3 := Lib.hid hr3
          replace hnext := Lib.hid hnext
          clear hRR hA2 hmp hm3 hg3 hh hho hin hr
          obtain ⟨ro, rd, rc, ra, rq⟩ := r
          simp only at g0 g1 g2 g3 g4
          go_wp2_with (at_mapUpdate; refine wpList_upd rfl (.tmp 51) (.tmp 53) (.tmp 54) _ rfl rfl rfl rfl hr3.out ?_; go_frame)
          exact ⟨hnext.out, by simp [intOf]; omega⟩
        · obtain rfl : j = (lstK i' kk).length := by omega
          have hnext := Lib.hid (RelAcc.next hk3 hA2)
          clear hA2
          go_wp2
          exact ⟨hnext.out, by simp [intOf]; omega⟩
    · obtain rfl : kk = 3 := by omega
      have hout := Lib.hid (hA.out HS.out)
      have hlow := Lib.hid hA.low
      have hh := hA.head
      have hho := cells_at hh
      have hhl := (Array.getElem?_eq_some_iff.1 hh).1
      have hhr := row?_of hh
      have hrs : wr.heap[w.heap.size + 1 + 1]? = _ := hA.res
      have hrr := row?_of hrs
      have hrf := frozen_at hrs
      have hrc := cells_at hrs
      have hrl := (Array.getElem?_eq_some_iff.1 hrs).1
      have hge := hA.ge.1
      have hrs' := Lib.hid hrs
      clear hA hh hrs
      go_wp2
      refine bodyPost_ret (v := .tuple #[inVal i' (.slice q' l.length c') (.slice q1 i.s1.rows.length k1) (.slice q2 i.s2.rows.length k2) (some B1), .int .i64 0]) ?_ rfl ⟨_, _, _, _, rfl, hout.out.keeps1 hrs'.out (by decide) ?_, hge, ?_⟩
      · simp [results, Tryz.results58, go_sem, inVal, ↓IntWalk.iteOmega, *]
      · (repeat (first | (with_reducible exact Keeps.refl _ _) | (with_reducible assumption) | (with_reducible refine Keeps.alloc ?_ _) | ((with_reducible refine Keeps.setCell ?_ ?_ _); rotate_left; focus (first | (left; first | omega | (simp; done) | (simp; omega)) | (right; first | exact Nat.le_refl _ | (simp; done) | (simp; omega) | omega))) | ((with_reducible refine Keeps.setRow ?_ ?_ _); rotate_left; focus (first | (left; first | omega | (simp; done) | (simp; omega)) | (right; first | exact Nat.le_refl _ | (simp; done) | (simp; omega) | omega))) | (with_reducible refine Keeps.drew ?_) | (with_reducible refine Keeps.drewN ?_ _)))
      · have := hlow.out
        (repeat (first | (with_reducible first | exact zR _ _ | exact zA _ _ | assumption | refine zL ?_ _ | refine zD ?_ | refine zN ?_ _) | ((with_reducible first | refine zC ?_ ?_ _ | refine zW ?_ ?_ _); rotate_left; focus (first | exact Nat.le_refl _ | (simp; done) | (simp; omega) | omega)) | with_reducible refine zT ?_ (by assumption)))
set_option maxRecDepth 100000 in
set_option maxHeartbeats 4000000 in
theorem accept_ok1 (w : World) (i : Sp.Intake) (v0 v1 v2 : Value) (m : Option Nat) (h : InIs w i v0 v1 v2 m) (seq : Int) (v : Value) (l : List Sp.Row) (hp : Parties w) (hl : RowsArg w v l) (hyes : stmtOk 1 seq l = true) (hst : i.s1.seq < seq) :
    Calls Tryz.prog 58 #[inVal i v0 v1 v2 m, .agg #[.int .i64 1, .int .i64 seq, v]] w (AccOk w (Sp.setStmt i ⟨1, seq, l⟩)) := by
  have hmm := @run_makeMap Tryz.prog
  have hll := stmtOk_len hyes
  have HI := Lib.hid h
  have HS := setStmt_ok h hyes
  obtain ⟨i', hi'⟩ : ∃ i', i' = Sp.setStmt i ⟨1, seq, l⟩ := ⟨_, rfl⟩
  rw [← hi'] at HS ⊢
  replace hi' := Lib.hid hi'
  replace HS := Lib.hid HS
  obtain ⟨q0, k0, rfl⟩ := own_slice' h.r0
  obtain ⟨q1, k1, rfl⟩ := own_slice' h.r1
  obtain ⟨q2, k2, rfl⟩ := own_slice' h.r2
  obtain ⟨q, k, rfl⟩ := slcA_shape hl
  have HV := Lib.hid (fun W (hW : Below w.heap.size w W) => rowsValid_arg 1 seq _ l W (hp.grew hW) (hl.mono hW) rfl)
  rw [hyes] at HV
  have HU := Lib.hid hl
  simp only [inVal]
  clear h hp hl hyes
  go_enter Tryz.func58, Tryz.ntmps58
  go_wp2_with (go_at_call 74; refine Calls.mono (HV.out _ (by (repeat (first | (with_reducible first | exact zR _ _ | exact zA _ _ | assumption | refine zL ?_ _ | refine zD ?_ | refine zN ?_ _) | ((with_reducible first | refine zC ?_ ?_ _ | refine zW ?_ ?_ _); rotate_left; focus (first | exact Nat.le_refl _ | (simp; done) | (simp; omega) | omega)) | with_reducible refine zT ?_ (by assumption))))) ?_; rintro e w1 ⟨rfl, hb⟩; obtain ⟨b1, b2, b3, hz, hlow⟩ := blocks3 hb; have hlt0 : w.heap.size < w1.heap.size := (by omega); have hlt1 : w.heap.size + 1 < w1.heap.size := (by omega); have hlt2 : w.heap.size + 2 < w1.heap.size := (by omega); have x1 := cells_at b1; have x2 := cells_at b2; have x3 := cells_at b3; have f1 := frozen_at b1; have f2 := frozen_at b2; have f3 := frozen_at b3; have y1 := row?_of b1; have y2 := row?_of b2; have y3 := row?_of b3; replace b1 := Lib.hid b1; replace b2 := Lib.hid b2; replace b3 := Lib.hid b3; replace hlow := Lib.hid hlow; clear hb)
  go_quiet (fail)
  go_wp2_with (at_builtin; refine wpList_cloneA rowCells_len rowCells_one Tryz.underlying35 info_row rfl (by omega) rfl (.tmp 30) rfl rfl (SlcA.mono HU.out (by have := hlow.out; (repeat (first | (with_reducible first | exact zR _ _ | exact zA _ _ | assumption | refine zL ?_ _ | refine zD ?_ | refine zN ?_ _) | ((with_reducible first | refine zC ?_ ?_ _ | refine zW ?_ ?_ _); rotate_left; focus (first | exact Nat.le_refl _ | (simp; done) | (simp; omega) | omega)) | with_reducible refine zT ?_ (by assumption))))) (by unfold maxLen; omega) (by omega) ?_; intro q' c' w2 ho hb2; obtain ⟨hc2, hf2, hr2, hz2⟩ := brow hb2; (try simp at hz2); replace ho := Lib.hid ho; replace hb2 := Lib.hid hb2)
  have hMid : AccAt w (w1.heap.size + 1) w1.heap.size (Sp.setStmt i ⟨1, seq, l⟩) (.slice q0 i.s0.rows.length k0) (.slice q' l.length c') (.slice q2 i.s2.rows.length k2) 0 (fun _ => none) ((((w2.setCell ⟨w.heap.size + 1, 2, none⟩ (.slice q' l.length c')).setCell ⟨w1.heap.size + 1, 3, none⟩ (.int .i64 1)).setCell ⟨w1.heap.size + 1, 4, none⟩ (.int .i64 seq)).setCell ⟨w1.heap.size + 1, 5, none⟩ (.slice q' l.length c')) :=
    accAt_start1 HI.out hlow.out hz rfl b2.out b3.out hb2.out ho.out
  rw [← hi'.out] at hMid
  refine wp_world (AccAt w (w1.heap.size + 1) w1.heap.size i' (.slice q0 i.s0.rows.length k0) (.slice q' l.length c') (.slice q2 i.s2.rows.length k2) 0 (fun _ => none)) hMid ?_
  clear hMid hb2 ho hc2 hf2 hr2 hz2 x1 x2 x3 f1 f2 f3 y1 y2 y3 b1 b2 b3 hlow
  clear HI HU HV
  intro W hW
  obtain ⟨B1, hB1⟩ : ∃ B1, B1 = w1.heap.size := ⟨_, rfl⟩
  rw [← hB1] at hlt0 hlt1 hlt2 hW ⊢
  clear hB1 hz
  go_loopw [40] (fun x wr => RelAcc w (B1 + 1) B1 i' (.slice q0 i.s0.rows.length k0) (.slice q' l.length c') (.slice q2 i.s2.rows.length k2) x wr) (fun x _ => (3 - intOf x).toNat)
  case atStart => exact ⟨0, by omega, rfl, hW⟩
  case round =>
    obtain ⟨kk, hkk, rfl, hA⟩ := hrel
    by_cases hk3 : kk < 3
    · have hidx := idx9 i.s0.party i.s0.seq (.slice q0 i.s0.rows.length k0) 1 seq (.slice q' l.length c') i.s2.party i.s2.seq (.slice q2 i.s2.rows.length k2) hk3
      have hR := hA.rows hk3
      obtain ⟨qk, ck, eK⟩ := own_slice' hR
      rw [eK] at hidx
      obtain ⟨pk, hpk⟩ : ∃ pk, pk = sel3 kk i.s0.party 1 i.s2.party := ⟨_, rfl⟩
      obtain ⟨sk, hsk⟩ : ∃ sk, sk = sel3 kk i.s0.seq seq i.s2.seq := ⟨_, rfl⟩
      rw [← hpk, ← hsk] at hidx
      clear hpk hsk hR
      replace eK := Lib.hid eK
      replace hA := Lib.hid hA
      go_wp2
      obtain ⟨W1, hW1⟩ : ∃ W1 : World, Hid (W1 = wr.alloc (.cells #[.int .i64 pk, .int .i64 sk, .slice qk (lstK i' kk).length ck] 37)) := ⟨_, rfl⟩
      refine wp_world (AccAt w (B1 + 1) B1 i' (.slice q0 i.s0.rows.length k0) (.slice q' l.length c') (.slice q2 i.s2.rows.length k2) (cntK i' kk) (fun a => rowsK i' kk a.1 a.2)) (hA.out.keep (alloc_grew _ _)) ?_
      clear hidx hA hW1 W1
      intro W1 hA1
      go_loopw [46] (fun x wr2 => RelIn w (B1 + 1) B1 i' (.slice q0 i.s0.rows.length k0) (.slice q' l.length c') (.slice q2 i.s2.rows.length k2) kk x wr2) (fun x _ => (lstK i' kk).length - (intOf x).toNat)
      case atStart => exact ⟨0, by omega, rfl, hA1⟩
      case round =>
        obtain ⟨j, hj, rfl, hA2⟩ := hrel
        by_cases hlt : j < (lstK i' kk).length
        · obtain ⟨r, hr⟩ : ∃ r, (lstK i' kk)[j]? = some r := ⟨_, List.getElem?_eq_getElem hlt⟩
          have hRR := hA2.rows hk3
          rw [eK.out] at hRR
          obtain ⟨b, rfl, g0, g1, g2, g3, g4, hbl⟩ := rowsO_at hRR hr
          have hin := lstK_in HS.out (List.mem_of_getElem? hr)
          have hcl := Lib.hid (cntK_le HS.out (show kk ≤ 3 by omega))
          have hll2 := Lib.hid (lstK_le HS.out kk)
          have hll3 : (lstK i' kk).length ≤ 400 := lstK_le HS.out kk
          have hmp := (hA2.keep (alloc_grew wr (.cells #[.int .i64 r.order, .int .i64 r.deed, .int .i64 r.code, .int .i64 r.amount, .int .i64 r.qty] 127))).map
          obtain ⟨W3, hr3, hm3, hg3⟩ := hmp.put key_law Tryz.underlying58 (by have := hcl.out; have := hll2.out; unfold maxLen; omega) pairEnc_inj (a := (r.order, r.deed)) (key_key hin.order hin.deed) (rowVal' r)
          have hh := hA2.head
          have hho := cells_at hh
          have hhl := (Array.getElem?_eq_some_iff.1 hh).1
          have hnext := RelIn.next hr (hA2.keep (alloc_grew wr (.cells #[.int .i64 r.order, .int .i64 r.deed, .int .i64 r.code, .int .i64 r.amount, .int .i64 r.qty] 127))) hg3 hm3
          have hh9 := hho 9
          simp only [List.getElem?_toArray, List.getElem?_cons_succ, List.getElem?_cons_zero] at hh9
          simp only [pairEnc, rowVal'] at hr3
          replace hr3 := Lib.hid hr3
          replace hnext := Lib.hid hnext
          clear hRR hA2 hmp hm3 hg3 hh hho hin hr
          obtain ⟨ro, rd, rc, ra, rq⟩ := r
          simp only at g0 g1 g2 g3 g4
          go_wp2_with (at_mapUpdate; refine wpList_upd rfl (.tmp 51) (.tmp 53) (.tmp 54) _ rfl rfl rfl rfl hr3.out ?_; go_frame)
          exact ⟨hnext.out, by simp [intOf]; omega⟩
        · obtain rfl : j = (lstK i' kk).length := by omega
          have hnext := Lib.hid (RelAcc.next hk3 hA2)
          clear hA2
          go_wp2
          exact ⟨hnext.out, by simp [intOf]; omega⟩
    · obtain rfl : kk = 3 := by omega
      have hout := Lib.hid (hA.out HS.out)
      have hlow := Lib.hid hA.low
      have hh := hA.head
      have hho := cells_at hh
      have hhl := (Array.getElem?_eq_some_iff.1 hh).1
      have hhr := row?_of hh
      have hrs : wr.heap[w.heap.size + 1 + 1]? = _ := hA.res
      have hrr := row?_of hrs
      have hrf := frozen_at hrs
      have hrc := cells_at hrs
      have hrl := (Array.getElem?_eq_some_iff.1 hrs).1
      have hge := hA.ge.1
      have hrs' := Lib.hid hrs
      clear hA hh hrs
      go_wp2
      refine bodyPost_ret (v := .tuple #[inVal i' (.slice q0 i.s0.rows.length k0) (.slice q' l.length c') (.slice q2 i.s2.rows.length k2) (some B1), .int .i64 0]) ?_ rfl ⟨_, _, _, _, rfl, hout.out.keeps1 hrs'.out (by decide) ?_, hge, ?_⟩
      · simp [results, Tryz.results58, go_sem, inVal, ↓IntWalk.iteOmega, *]
      · (repeat (first | (with_reducible exact Keeps.refl _ _) | (with_reducible assumption) | (with_reducible refine Keeps.alloc ?_ _) | ((with_reducible refine Keeps.setCell ?_ ?_ _); rotate_left; focus (first | (left; first | omega | (simp; done) | (simp; omega)) | (right; first | exact Nat.le_refl _ | (simp; done) | (simp; omega) | omega))) | ((with_reducible refine Keeps.setRow ?_ ?_ _); rotate_left; focus (first | (left; first | omega | (simp; done) | (simp; omega)) | (right; first | exact Nat.le_refl _ | (simp; done) | (simp; omega) | omega))) | (with_reducible refine Keeps.drew ?_) | (with_reducible refine Keeps.drewN ?_ _)))
      · have := hlow.out
        (repeat (first | (with_reducible first | exact zR _ _ | exact zA _ _ | assumption | refine zL ?_ _ | refine zD ?_ | refine zN ?_ _) | ((with_reducible first | refine zC ?_ ?_ _ | refine zW ?_ ?_ _); rotate_left; focus (first | exact Nat.le_refl _ | (simp; done) | (simp; omega) | omega)) | with_reducible refine zT ?_ (by assumption)))
set_option maxRecDepth 100000 in
set_option maxHeartbeats 4000000 in
theorem accept_ok2 (w : World) (i : Sp.Intake) (v0 v1 v2 : Value) (m : Option Nat) (h : InIs w i v0 v1 v2 m) (seq : Int) (v : Value) (l : List Sp.Row) (hp : Parties w) (hl : RowsArg w v l) (hyes : stmtOk 2 seq l = true) (hst : i.s2.seq < seq) :
    Calls Tryz.prog 58 #[inVal i v0 v1 v2 m, .agg #[.int .i64 2, .int .i64 seq, v]] w (AccOk w (Sp.setStmt i ⟨2, seq, l⟩)) := by
  have hmm := @run_makeMap Tryz.prog
  have hll := stmtOk_len hyes
  have HI := Lib.hid h
  have HS := setStmt_ok h hyes
  obtain ⟨i', hi'⟩ : ∃ i', i' = Sp.setStmt i ⟨2, seq, l⟩ := ⟨_, rfl⟩
  rw [← hi'] at HS ⊢
  replace hi' := Lib.hid hi'
  replace HS := Lib.hid HS
  obtain ⟨q0, k0, rfl⟩ := own_slice' h.r0
  obtain ⟨q1, k1, rfl⟩ := own_slice' h.r1
  obtain ⟨q2, k2, rfl⟩ := own_slice' h.r2
  obtain ⟨q, k, rfl⟩ := slcA_shape hl
  have HV := Lib.hid (fun W (hW : Below w.heap.size w W) => rowsValid_arg 2 seq _ l W (hp.grew hW) (hl.mono hW) rfl)
  rw [hyes] at HV
  have HU := Lib.hid hl
  simp only [inVal]
  clear h hp hl hyes
  go_enter Tryz.func58, Tryz.ntmps58
  go_wp2_with (go_at_call 74; refine Calls.mono (HV.out _ (by (repeat (first | (with_reducible first | exact zR _ _ | exact zA _ _ | assumption | refine zL ?_ _ | refine zD ?_ | refine zN ?_ _) | ((with_reducible first | refine zC ?_ ?_ _ | refine zW ?_ ?_ _); rotate_left; focus (first | exact Nat.le_refl _ | (simp; done) | (simp; omega) | omega)) | with_reducible refine zT ?_ (by assumption))))) ?_; rintro e w1 ⟨rfl, hb⟩; obtain ⟨b1, b2, b3, hz, hlow⟩ := blocks3 hb; have hlt0 : w.heap.size < w1.heap.size := (by omega); have hlt1 : w.heap.size + 1 < w1.heap.size := (by omega); have hlt2 : w.heap.size + 2 < w1.heap.size := (by omega); have x1 := cells_at b1; have x2 := cells_at b2; have x3 := cells_at b3; have f1 := frozen_at b1; have f2 := frozen_at b2; have f3 := frozen_at b3; have y1 := row?_of b1; have y2 := row?_of b2; have y3 := row?_of b3; replace b1 := Lib.hid b1; replace b2 := Lib.hid b2; replace b3 := Lib.hid b3; replace hlow := Lib.hid hlow; clear hb)
  go_quiet (fail)
  go_wp2_with (at_builtin; refine wpList_cloneA rowCells_len rowCells_one Tryz.underlying35 info_row rfl (by omega) rfl (.tmp 30) rfl rfl (SlcA.mono HU.out (by have := hlow.out; (repeat (first | (with_reducible first | exact zR _ _ | exact zA _ _ | assumption | refine zL ?_ _ | refine zD ?_ | refine zN ?_ _) | ((with_reducible first | refine zC ?_ ?_ _ | refine zW ?_ ?_ _); rotate_left; focus (first | exact Nat.le_refl _ | (simp; done) | (simp; omega) | omega)) | with_reducible refine zT ?_ (by assumption))))) (by unfold maxLen; omega) (by omega) ?_; intro q' c' w2 ho hb2; obtain ⟨hc2, hf2, hr2, hz2⟩ := brow hb2; (try simp at hz2); replace ho := Lib.hid ho; replace hb2 := Lib.hid hb2)
  have hMid : AccAt w (w1.heap.size + 1) w1.heap.size (Sp.setStmt i ⟨2, seq, l⟩) (.slice q0 i.s0.rows.length k0) (.slice q1 i.s1.rows.length k1) (.slice q' l.length c') 0 (fun _ => none) ((((w2.setCell ⟨w.heap.size + 1, 2, none⟩ (.slice q' l.length c')).setCell ⟨w1.heap.size + 1, 6, none⟩ (.int .i64 2)).setCell ⟨w1.heap.size + 1, 7, none⟩ (.int .i64 seq)).setCell ⟨w1.heap.size + 1, 8, none⟩ (.slice q' l.length c')) :=
    accAt_start2 HI.out hlow.out hz rfl b2.out b3.out hb2.out ho.out
  rw [← hi'.out] at hMid
  refine wp_world (AccAt w (w1.heap.size + 1) w1.heap.size i' (.slice q0 i.s0.rows.length k0) (.slice q1 i.s1.rows.length k1) (.slice q' l.length c') 0 (fun _ => none)) hMid ?_
  clear hMid hb2 ho hc2 hf2 hr2 hz2 x1 x2 x3 f1 f2 f3 y1 y2 y3 b1 b2 b3 hlow
  clear HI HU HV
  intro W hW
  obtain ⟨B1, hB1⟩ : ∃ B1, B1 = w1.heap.size := ⟨_, rfl⟩
  rw [← hB1] at hlt0 hlt1 hlt2 hW ⊢
  clear hB1 hz
  go_loopw [40] (fun x wr => RelAcc w (B1 + 1) B1 i' (.slice q0 i.s0.rows.length k0) (.slice q1 i.s1.rows.length k1) (.slice q' l.length c') x wr) (fun x _ => (3 - intOf x).toNat)
  case atStart => exact ⟨0, by omega, rfl, hW⟩
  case round =>
    obtain ⟨kk, hkk, rfl, hA⟩ := hrel
    by_cases hk3 : kk < 3
    · have hidx := idx9 i.s0.party i.s0.seq (.slice q0 i.s0.rows.length k0) i.s1.party i.s1.seq (.slice q1 i.s1.rows.length k1) 2 seq (.slice q' l.length c') hk3
      have hR := hA.rows hk3
      obtain ⟨qk, ck, eK⟩ := own_slice' hR
      rw [eK] at hidx
      obtain ⟨pk, hpk⟩ : ∃ pk, pk = sel3 kk i.s0.party i.s1.party 2 := ⟨_, rfl⟩
      obtain ⟨sk, hsk⟩ : ∃ sk, sk = sel3 kk i.s0.seq i.s1.seq seq := ⟨_, rfl⟩
      rw [← hpk, ← hsk] at hidx
      clear hpk hsk hR
      replace eK := Lib.hid eK
      replace hA := Lib.hid hA
      go_wp2
      obtain ⟨W1, hW1⟩ : ∃ W1 : World, Hid (W1 = wr.alloc (.cells #[.int .i64 pk, .int .i64 sk, .slice qk (lstK i' kk).length ck] 37)) := ⟨_, rfl⟩
      refine wp_world (AccAt w (B1 + 1) B1 i' (.slice q0 i.s0.rows.length k0) (.slice q1 i.s1.rows.length k1) (.slice q' l.length c') (cntK i' kk) (fun a => rowsK i' kk a.1 a.2)) (hA.out.keep (alloc_grew _ _)) ?_
      clear hidx hA hW1 W1
      intro W1 hA1
      go_loopw [46] (fun x wr2 => RelIn w (B1 + 1) B1 i' (.slice q0 i.s0.rows.length k0) (.slice q1 i.s1.rows.length k1) (.slice q' l.length c') kk x wr2) (fun x _ => (lstK i' kk).length - (intOf x).toNat)
      case atStart => exact ⟨0, by omega, rfl, hA1⟩
      case round =>
        obtain ⟨j, hj, rfl, hA2⟩ := hrel
        by_cases hlt : j < (lstK i' kk).length
        · obtain ⟨r, hr⟩ : ∃ r, (lstK i' kk)[j]? = some r := ⟨_, List.getElem?_eq_getElem hlt⟩
          have hRR := hA2.rows hk3
          rw [eK.out] at hRR
          obtain ⟨b, rfl, g0, g1, g2, g3, g4, hbl⟩ := rowsO_at hRR hr
          have hin := lstK_in HS.out (List.mem_of_getElem? hr)
          have hcl := Lib.hid (cntK_le HS.out (show kk ≤ 3 by omega))
          have hll2 := Lib.hid (lstK_le HS.out kk)
          have hll3 : (lstK i' kk).length ≤ 400 := lstK_le HS.out kk
          have hmp := (hA2.keep (alloc_grew wr (.cells #[.int .i64 r.order, .int .i64 r.deed, .int .i64 r.code, .int .i64 r.amount, .int .i64 r.qty] 127))).map
          obtain ⟨W3, hr3, hm3, hg3⟩ := hmp.put key_law Tryz.underlying58 (by have := hcl.out; have := hll2.out; unfold maxLen; omega) pairEnc_inj (a := (r.order, r.deed)) (key_key hin.order hin.deed) (rowVal' r)
          have hh := hA2.head
          have hho := cells_at hh
          have hhl := (Array.getElem?_eq_some_iff.1 hh).1
          have hnext := RelIn.next hr (hA2.keep (alloc_grew wr (.cells #[.int .i64 r.order, .int .i64 r.deed, .int .i64 r.code, .int .i64 r.amount, .int .i64 r.qty] 127))) hg3 hm3
          have hh9 := hho 9
          simp only [List.getElem?_toArray, List.getElem?_cons_succ, List.getElem?_cons_zero] at hh9
          simp only [pairEnc, rowVal'] at hr3
          replace hr3 := Lib.hid hr3
          replace hnext := Lib.hid hnext
          clear hRR hA2 hmp hm3 hg3 hh hho hin hr
          obtain ⟨ro, rd, rc, ra, rq⟩ := r
          simp only at g0 g1 g2 g3 g4
          go_wp2_with (at_mapUpdate; refine wpList_upd rfl (.tmp 51) (.tmp 53) (.tmp 54) _ rfl rfl rfl rfl hr3.out ?_; go_frame)
          exact ⟨hnext.out, by simp [intOf]; omega⟩
        · obtain rfl : j = (lstK i' kk).length := by omega
          have hnext := Lib.hid (RelAcc.next hk3 hA2)
          clear hA2
          go_wp2
          exact ⟨hnext.out, by simp [intOf]; omega⟩
    · obtain rfl : kk = 3 := by omega
      have hout := Lib.hid (hA.out HS.out)
      have hlow := Lib.hid hA.low
      have hh := hA.head
      have hho := cells_at hh
      have hhl := (Array.getElem?_eq_some_iff.1 hh).1
      have hhr := row?_of hh
      have hrs : wr.heap[w.heap.size + 1 + 1]? = _ := hA.res
      have hrr := row?_of hrs
      have hrf := frozen_at hrs
      have hrc := cells_at hrs
      have hrl := (Array.getElem?_eq_some_iff.1 hrs).1
      have hge := hA.ge.1
      have hrs' := Lib.hid hrs
      clear hA hh hrs
      go_wp2
      refine bodyPost_ret (v := .tuple #[inVal i' (.slice q0 i.s0.rows.length k0) (.slice q1 i.s1.rows.length k1) (.slice q' l.length c') (some B1), .int .i64 0]) ?_ rfl ⟨_, _, _, _, rfl, hout.out.keeps1 hrs'.out (by decide) ?_, hge, ?_⟩
      · simp [results, Tryz.results58, go_sem, inVal, ↓IntWalk.iteOmega, *]
      · (repeat (first | (with_reducible exact Keeps.refl _ _) | (with_reducible assumption) | (with_reducible refine Keeps.alloc ?_ _) | ((with_reducible refine Keeps.setCell ?_ ?_ _); rotate_left; focus (first | (left; first | omega | (simp; done) | (simp; omega)) | (right; first | exact Nat.le_refl _ | (simp; done) | (simp; omega) | omega))) | ((with_reducible refine Keeps.setRow ?_ ?_ _); rotate_left; focus (first | (left; first | omega | (simp; done) | (simp; omega)) | (right; first | exact Nat.le_refl _ | (simp; done) | (simp; omega) | omega))) | (with_reducible refine Keeps.drew ?_) | (with_reducible refine Keeps.drewN ?_ _)))
      · have := hlow.out
        (repeat (first | (with_reducible first | exact zR _ _ | exact zA _ _ | assumption | refine zL ?_ _ | refine zD ?_ | refine zN ?_ _) | ((with_reducible first | refine zC ?_ ?_ _ | refine zW ?_ ?_ _); rotate_left; focus (first | exact Nat.le_refl _ | (simp; done) | (simp; omega) | omega)) | with_reducible refine zT ?_ (by assumption)))
end Go.Proofs.YtkgpnikmdmpfaaaGreatDoor

/-
  intake.Accept: what is refused.
-/
import Derived.Test.YtkgpnikmdmpfaaaGreatDoorBackP11
import Derived.Test.YtkgpnikmdmpfaaaGreatDoorBackP12
import Derived.Test.YtkgpnikmdmpfaaaGreatDoorBackP5
set_option linter.unusedVariables false
set_option linter.unusedSimpArgs false
namespace Go.Proofs.YtkgpnikmdmpfaaaGreatDoor
open Go.RowKit Go.Maps

def inZero : Value := .agg #[.int .i64 0, .int .i64 0, .slice none 0 0, .int .i64 0, .int .i64 0, .slice none 0 0, .int .i64 0, .int .i64 0, .slice none 0 0, .map none]
def AccBad (w : World) (n : Int) (e : Ending) (w' : World) : Prop := e = .returned (.tuple #[inZero, .int .i64 n]) ∧ Below w.heap.size w w'
set_option maxRecDepth 100000 in
set_option maxHeartbeats 2000000 in
theorem accept_bad (w : World) (i : Sp.Intake) (v0 v1 v2 : Value) (m : Option Nat) (h : InIs w i v0 v1 v2 m) (party seq : Int) (v : Value) (l : List Sp.Row) (hp : Parties w) (hl : RowsArg w v l) (hno : stmtOk party seq l = false) :
    Calls Tryz.prog 58 #[inVal i v0 v1 v2 m, .agg #[.int .i64 party, .int .i64 seq, v]] w (AccBad w 2) := by
  obtain ⟨q0, k0, rfl⟩ := own_slice' h.r0
  obtain ⟨q1, k1, rfl⟩ := own_slice' h.r1
  obtain ⟨q2, k2, rfl⟩ := own_slice' h.r2
  obtain ⟨q, k, rfl⟩ := slcA_shape hl
  have HV := Lib.hid (fun W (hW : Below w.heap.size w W) => rowsValid_arg party seq _ l W (hp.grew hW) (hl.mono hW) rfl)
  rw [hno] at HV
  simp only [inVal]
  clear h hp hl hno
  go_enter Tryz.func58, Tryz.ntmps58
  go_wp2_with (go_at_call 74; refine Calls.mono (HV.out _ (by (repeat (first | (with_reducible first | exact zR _ _ | exact zA _ _ | assumption | refine zL ?_ _ | refine zD ?_ | refine zN ?_ _) | ((with_reducible first | refine zC ?_ ?_ _ | refine zW ?_ ?_ _); rotate_left; focus (first | exact Nat.le_refl _ | (simp; done) | (simp; omega) | omega)) | with_reducible refine zT ?_ (by assumption))))) ?_; rintro e w1 ⟨rfl, hb⟩; obtain ⟨hc, hf, hr, hz⟩ := brow hb; (try simp at hz); have hlt : w.heap.size + 2 < w1.heap.size := (by omega); replace hb := Lib.hid hb)
  refine bodyPost_ret (v := .tuple #[inZero, .int .i64 2]) ?_ rfl ⟨rfl, ?_⟩
  · simp [results, Tryz.results58, go_sem, inZero, ↓IntWalk.iteOmega, *]
  · have hb1 := hb.out
    (repeat (first | (with_reducible first | exact zR _ _ | exact zA _ _ | assumption | refine zL ?_ _ | refine zD ?_ | refine zN ?_ _) | ((with_reducible first | refine zC ?_ ?_ _ | refine zW ?_ ?_ _); rotate_left; focus (first | exact Nat.le_refl _ | (simp; done) | (simp; omega) | omega)) | with_reducible refine zT ?_ (by assumption)))

set_option maxRecDepth 100000 in
set_option maxHeartbeats 2000000 in
theorem accept_stale0 (w : World) (i : Sp.Intake) (v0 v1 v2 : Value) (m : Option Nat) (h : InIs w i v0 v1 v2 m) (seq : Int) (v : Value) (l : List Sp.Row) (hp : Parties w) (hl : RowsArg w v l) (hyes : stmtOk 0 seq l = true) (hst : seq ≤ i.s0.seq) :
    Calls Tryz.prog 58 #[inVal i v0 v1 v2 m, .agg #[.int .i64 0, .int .i64 seq, v]] w (AccBad w 93) := by
  obtain ⟨q0, k0, rfl⟩ := own_slice' h.r0
  obtain ⟨q1, k1, rfl⟩ := own_slice' h.r1
  obtain ⟨q2, k2, rfl⟩ := own_slice' h.r2
  obtain ⟨q, k, rfl⟩ := slcA_shape hl
  have HV := Lib.hid (fun W (hW : Below w.heap.size w W) => rowsValid_arg 0 seq _ l W (hp.grew hW) (hl.mono hW) rfl)
  rw [hyes] at HV
  simp only [inVal]
  clear h hp hl hyes
  go_enter Tryz.func58, Tryz.ntmps58
  go_wp2_with (go_at_call 74; refine Calls.mono (HV.out _ (by (repeat (first | (with_reducible first | exact zR _ _ | exact zA _ _ | assumption | refine zL ?_ _ | refine zD ?_ | refine zN ?_ _) | ((with_reducible first | refine zC ?_ ?_ _ | refine zW ?_ ?_ _); rotate_left; focus (first | exact Nat.le_refl _ | (simp; done) | (simp; omega) | omega)) | with_reducible refine zT ?_ (by assumption))))) ?_; rintro e w1 ⟨rfl, hb⟩; obtain ⟨hc, hf, hr, hz⟩ := brow hb; (try simp at hz); have hlt : w.heap.size + 2 < w1.heap.size := (by omega); replace hb := Lib.hid hb)
  go_quiet (fail)
  go_wp2
  refine bodyPost_ret (v := .tuple #[inZero, .int .i64 93]) ?_ rfl ⟨rfl, ?_⟩
  · simp [results, Tryz.results58, go_sem, inZero, ↓IntWalk.iteOmega, *]
  · have hb1 := hb.out
    (repeat (first | (with_reducible first | exact zR _ _ | exact zA _ _ | assumption | refine zL ?_ _ | refine zD ?_ | refine zN ?_ _) | ((with_reducible first | refine zC ?_ ?_ _ | refine zW ?_ ?_ _); rotate_left; focus (first | exact Nat.le_refl _ | (simp; done) | (simp; omega) | omega)) | with_reducible refine zT ?_ (by assumption)))

set_option maxRecDepth 100000 in
set_option maxHeartbeats 2000000 in
theorem accept_stale1 (w : World) (i : Sp.Intake) (v0 v1 v2 : Value) (m : Option Nat) (h : InIs w i v0 v1 v2 m) (seq : Int) (v : Value) (l : List Sp.Row) (hp : Parties w) (hl : RowsArg w v l) (hyes : stmtOk 1 seq l = true) (hst : seq ≤ i.s1.seq) :
    Calls Tryz.prog 58 #[inVal i v0 v1 v2 m, .agg #[.int .i64 1, .int .i64 seq, v]] w (AccBad w 93) := by
  obtain ⟨q0, k0, rfl⟩ := own_slice' h.r0
  obtain ⟨q1, k1, rfl⟩ := own_slice' h.r1
  obtain ⟨q2, k2, rfl⟩ := own_slice' h.r2
  obtain ⟨q, k, rfl⟩ := slcA_shape hl
  have HV := Lib.hid (fun W (hW : Below w.heap.size w W) => rowsValid_arg 1 seq _ l W (hp.grew hW) (hl.mono hW) rfl)
  rw [hyes] at HV
  simp only [inVal]
  clear h hp hl hyes
  go_enter Tryz.func58, Tryz.ntmps58
  go_wp2_with (go_at_call 74; refine Calls.mono (HV.out _ (by (repeat (first | (with_reducible first | exact zR _ _ | exact zA _ _ | assumption | refine zL ?_ _ | refine zD ?_ | refine zN ?_ _) | ((with_reducible first | refine zC ?_ ?_ _ | refine zW ?_ ?_ _); rotate_left; focus (first | exact Nat.le_refl _ | (simp; done) | (simp; omega) | omega)) | with_reducible refine zT ?_ (by assumption))))) ?_; rintro e w1 ⟨rfl, hb⟩; obtain ⟨hc, hf, hr, hz⟩ := brow hb; (try simp at hz); have hlt : w.heap.size + 2 < w1.heap.size := (by omega); replace hb := Lib.hid hb)
  go_quiet (fail)
  go_wp2
  refine bodyPost_ret (v := .tuple #[inZero, .int .i64 93]) ?_ rfl ⟨rfl, ?_⟩
  · simp [results, Tryz.results58, go_sem, inZero, ↓IntWalk.iteOmega, *]
  · have hb1 := hb.out
    (repeat (first | (with_reducible first | exact zR _ _ | exact zA _ _ | assumption | refine zL ?_ _ | refine zD ?_ | refine zN ?_ _) | ((with_reducible first | refine zC ?_ ?_ _ | refine zW ?_ ?_ _); rotate_left; focus (first | exact Nat.le_refl _ | (simp; done) | (simp; omega) | omega)) | with_reducible refine zT ?_ (by assumption)))

set_option maxRecDepth 100000 in
set_option maxHeartbeats 2000000 in
theorem accept_stale2 (w : World) (i : Sp.Intake) (v0 v1 v2 : Value) (m : Option Nat) (h : InIs w i v0 v1 v2 m) (seq : Int) (v : Value) (l : List Sp.Row) (hp : Parties w) (hl : RowsArg w v l) (hyes : stmtOk 2 seq l = true) (hst : seq ≤ i.s2.seq) :
    Calls Tryz.prog 58 #[inVal i v0 v1 v2 m, .agg #[.int .i64 2, .int .i64 seq, v]] w (AccBad w 93) := by
  obtain ⟨q0, k0, rfl⟩ := own_slice' h.r0
  obtain ⟨q1, k1, rfl⟩ := own_slice' h.r1
  obtain ⟨q2, k2, rfl⟩ := own_slice' h.r2
  obtain ⟨q, k, rfl⟩ := slcA_shape hl
  have HV := Lib.hid (fun W (hW : Below w.heap.size w W) => rowsValid_arg 2 seq _ l W (hp.grew hW) (hl.mono hW) rfl)
  rw [hyes] at HV
  simp only [inVal]
  clear h hp hl hyes
  go_enter Tryz.func58, Tryz.ntmps58
  go_wp2_with (go_at_call 74; refine Calls.mono (HV.out _ (by (repeat (first | (with_reducible first | exact zR _ _ | exact zA _ _ | assumption | refine zL ?_ _ | refine zD ?_ | refine zN ?_ _) | ((with_reducible first | refine zC ?_ ?_ _ | refine zW ?_ ?_ _); rotate_left; focus (first | exact Nat.le_refl _ | (simp; done) | (simp; omega) | omega)) | with_reducible refine zT ?_ (by assumption))))) ?_; rintro e w1 ⟨rfl, hb⟩; obtain ⟨hc, hf, hr, hz⟩ := brow hb; (try simp at hz); have hlt : w.heap.size + 2 < w1.heap.size := (by omega); replace hb := Lib.hid hb)
  go_quiet (fail)
  go_wp2
  refine bodyPost_ret (v := .tuple #[inZero, .int .i64 93]) ?_ rfl ⟨rfl, ?_⟩
  · simp [results, Tryz.results58, go_sem, inZero, ↓IntWalk.iteOmega, *]
  · have hb1 := hb.out
    (repeat (first | (with_reducible first | exact zR _ _ | exact zA _ _ | assumption | refine zL ?_ _ | refine zD ?_ | refine zN ?_ _) | ((with_reducible first | refine zC ?_ ?_ _ | refine zW ?_ ?_ _); rotate_left; focus (first | exact Nat.le_refl _ | (simp; done) | (simp; omega) | omega)) | with_reducible refine zT ?_ (by assumption)))
end Go.Proofs.YtkgpnikmdmpfaaaGreatDoor

/-
  intake.Accept: what is taken in.
-/

set_option linter.unusedVariables false
set_option linter.unusedSimpArgs false
namespace Go.Proofs.YtkgpnikmdmpfaaaGreatDoor
open Go.RowKit Go.Maps

@[go_sem] theorem drewN_size (w : World) (n : Nat) : (w.drewN n).heap.size = w.heap.size := rfl
@[go_sem] theorem drewN_alloc (w : World) (n : Nat) (o : Obj) : (w.drewN n).alloc o = (w.alloc o).drewN n := rfl
@[go_sem] theorem drewN_setCell (w : World) (n : Nat) (a : Addr) (v : Value) : (w.drewN n).setCell a v = (w.setCell a v).drewN n := rfl
@[go_sem] theorem drewN_setRow (w : World) (n g : Nat) (c : Array Value) : (w.drewN n).setRow g c = (w.setRow g c).drewN n := rfl
/-- Three blocks laid, and what made memory alone behind them. -/
theorem blocks3 {w w1 : World} {a b c : Array Value} {A B C : TypeId} (hb : Below (((w.alloc (.cells a A)).alloc (.cells b B)).alloc (.cells c C)).heap.size (((w.alloc (.cells a A)).alloc (.cells b B)).alloc (.cells c C)) w1) :
    w1.heap[w.heap.size]? = some (.cells a A (0, 0)) ∧ w1.heap[w.heap.size + 1]? = some (.cells b B (0, 0)) ∧ w1.heap[w.heap.size + 2]? = some (.cells c C (0, 0)) ∧ w.heap.size + 3 ≤ w1.heap.size ∧ Below w.heap.size w w1 := by
  have hs := hb.size
  simp at hs
  refine ⟨?_, ?_, ?_, hs, ?_⟩
  · rw [hb.block _ (by simp; omega), Below.heap_alloc _ _ _ (by simp; omega), Below.heap_alloc _ _ _ (by simp), heap_alloc_new]
  · rw [hb.block _ (by simp), Below.heap_alloc _ _ _ (by simp)]; exact heap_at (by simp)
  · rw [hb.block _ (by simp)]; exact heap_at (by simp)
  · exact (((alloc_grew w _).alloc (by simp) _).alloc (by simp; omega) _).trans (hb.mono (by simp; omega))
theorem cells_at {w : World} {b : Nat} {c : Array Value} {t : TypeId} (h : w.heap[b]? = some (.cells c t (0, 0))) (o : Nat) : w.cell? ⟨b, o, none⟩ = c[o]? := cell_of_row _ _ _ _ _ _ h
theorem frozen_at {w : World} {b : Nat} {c : Array Value} {t : TypeId} (h : w.heap[b]? = some (.cells c t (0, 0))) (o : Nat) : w.frozen? ⟨b, o, none⟩ = false := by simp [World.frozen?, h]
theorem size_alloc' (w : World) (o : Obj) : (w.alloc o).heap.size = w.heap.size + 1 := by simp
/-! what is laid into the new table of rows -/
def lstK (i : Sp.Intake) (k : Nat) : List Sp.Row := if k = 0 then i.s0.rows else if k = 1 then i.s1.rows else i.s2.rows
def rowsK (i : Sp.Intake) : Nat → Sp.RowMap
  | 0 => fun _ _ => none
  | k + 1 => Sp.rowsIn (rowsK i k) (lstK i k)
def cntK (i : Sp.Intake) : Nat → Nat
  | 0 => 0
  | k + 1 => cntK i k + (lstK i k).length
/-- While the table of rows is filled. -/
structure AccAt (w : World) (out M : Nat) (i : Sp.Intake) (v0 v1 v2 : Value) (n : Nat) (f : Int × Int → Option Sp.Row) (W : World) : Prop where
  low : Below w.heap.size w W
  r0 : RowsO W v0 i.s0.rows
  r1 : RowsO W v1 i.s1.rows
  r2 : RowsO W v2 i.s2.rows
  head : W.heap[out]? = some (.cells #[.int .i64 i.s0.party, .int .i64 i.s0.seq, v0, .int .i64 i.s1.party, .int .i64 i.s1.seq, v1, .int .i64 i.s2.party, .int .i64 i.s2.seq, v2, .map (some M)] 60 (0, 0))
  map : MapAt Tryz.prog 34 pairEnc W M n (fun a => (f a).map rowVal')
  res : W.heap[w.heap.size + 2]? = some (.cells #[.int .i64 0, .int .i64 0, .slice none 0 0, .int .i64 0, .int .i64 0, .slice none 0 0, .int .i64 0, .int .i64 0, .slice none 0 0, .map none] 60 (0, 0))
  ge : w.heap.size ≤ M ∧ w.heap.size + 2 < out
theorem AccAt.keep {w W W' : World} {out M n : Nat} {i : Sp.Intake} {v0 v1 v2 : Value} {f : Int × Int → Option Sp.Row} (h : AccAt w out M i v0 v1 v2 n f W) (hb : Below W.heap.size W W') : AccAt w out M i v0 v1 v2 n f W' where
  low := h.low.trans (hb.mono h.low.size)
  r0 := h.r0.below hb
  r1 := h.r1.below hb
  r2 := h.r2.below hb
  head := (hb.block _ (Array.getElem?_eq_some_iff.1 h.head).1).trans h.head
  map := h.map.below hb
  res := (hb.block _ (Array.getElem?_eq_some_iff.1 h.res).1).trans h.res
  ge := h.ge
theorem AccAt.put {w W W' : World} {out M n : Nat} {i : Sp.Intake} {v0 v1 v2 : Value} {f f' : Int × Int → Option Sp.Row} (h : AccAt w out M i v0 v1 v2 n f W) (hg : W.grownBy W' (some M)) (hm : MapAt Tryz.prog 34 pairEnc W' M (n + 1) (fun a => (f' a).map rowVal')) : AccAt w out M i v0 v1 v2 (n + 1) f' W' := by
  obtain ⟨es, cl, hM⟩ := h.map.heap
  have same : ∀ {k : Nat} {c : Array Value} {t : TypeId} {fr : Nat × Nat}, W.heap[k]? = some (.cells c t fr) → W'.heap[k]? = W.heap[k]? := fun {k c t fr} hk => hg.block k (Array.getElem?_eq_some_iff.1 hk).1 (fun e => ne_of_map hk hM (Option.some.inj e))
  have rows : ∀ {v : Value} {l : List Sp.Row}, RowsO W v l → RowsO W' v l := fun hr => hr.same (fun k hk => by obtain ⟨c, hc⟩ := own_block hr hk; exact same hc)
  exact ⟨h.low.grown hg h.low.size (fun j hj => by cases hj; exact h.ge.1), rows h.r0, rows h.r1, rows h.r2, (same h.head).trans h.head, hm, (same h.res).trans h.res, h.ge⟩
def AccOk (w : World) (i : Sp.Intake) (e : Ending) (w' : World) : Prop :=
  ∃ v0 v1 v2 M, e = .returned (.tuple #[inVal i v0 v1 v2 (some M), .int .i64 0]) ∧ InIs w' i v0 v1 v2 (some M) ∧ w.heap.size ≤ M ∧ Below w.heap.size w w'
/-- What an intake holds behind a statement that may be. -/
structure SetOk (i : Sp.Intake) : Prop where
  few : i.s0.rows.length ≤ 400 ∧ i.s1.rows.length ≤ 400 ∧ i.s2.rows.length ≤ 400
  rok : ∀ r, r ∈ i.s0.rows ∨ r ∈ i.s1.rows ∨ r ∈ i.s2.rows → RowIn r
  row : i.row = rowsK i 3
theorem rowIn_of_ok {r : Sp.Row} {p : Int} (h : Sp.rowOk r p = true) : RowIn r := by
  simp only [Sp.rowOk, Sp.keyOk, Sp.isDeed, Bool.and_eq_true, decide_eq_true_eq, Bool.or_eq_true] at h
  obtain ⟨⟨⟨⟨⟨h1, h2⟩, h3, h4⟩, _⟩, h6⟩, h5⟩ := h
  have h7 : (0 ≤ r.amount ∧ r.amount ≤ 1099511627776) ∧ 0 ≤ r.qty ∧ r.qty ≤ 999 := by
    split at h5
    · simp only [Bool.and_eq_true, decide_eq_true_eq] at h5; omega
    · split at h5
      · simp only [Bool.and_eq_true, decide_eq_true_eq] at h5; omega
      · simp only [Bool.and_eq_true, decide_eq_true_eq] at h5; omega
  exact ⟨by simp [Sp.in64]; omega, by simp [Sp.in64]; omega, by omega, by omega, by simp [Sp.in64]; omega, by simp [Sp.in64]; omega⟩
theorem rowsChk_all {p : Int} : ∀ {l : List Sp.Row} {q : Option Sp.Row}, rowsChk p q l = true → ∀ r ∈ l, Sp.rowOk r p = true
  | [], _, _, r, hr => by simp at hr
  | a :: t, q, h, r, hr => by
    simp only [rowsChk, Bool.and_eq_true] at h
    rcases List.mem_cons.1 hr with rfl | hr
    · exact h.1.1
    · exact rowsChk_all h.2 r hr
theorem stmtOk_rows {party seq : Int} {l : List Sp.Row} (h : stmtOk party seq l = true) : ∀ r ∈ l, Sp.rowOk r party = true := by
  simp only [stmtOk, rowsOk, Bool.and_eq_true, decide_eq_true_eq] at h
  exact rowsChk_all h.2.2
theorem stmtOk_party {party seq : Int} {l : List Sp.Row} (h : stmtOk party seq l = true) : party = 0 ∨ party = 1 ∨ party = 2 := by
  simp only [stmtOk, rowsOk, Bool.and_eq_true, decide_eq_true_eq] at h
  omega
theorem setStmt_ok {w : World} {i : Sp.Intake} {v0 v1 v2 : Value} {m : Option Nat} {party seq : Int} {l : List Sp.Row} (h : InIs w i v0 v1 v2 m) (hy : stmtOk party seq l = true) : SetOk (Sp.setStmt i ⟨party, seq, l⟩) := by
  have hr : ∀ r ∈ l, RowIn r := fun r hr => rowIn_of_ok (stmtOk_rows hy r hr)
  have hl := stmtOk_len hy
  have hf := h.few
  have hi := h.rok
  have h0 : ∀ r ∈ i.s0.rows, RowIn r := fun r hr => hi r (.inl hr)
  have h1 : ∀ r ∈ i.s1.rows, RowIn r := fun r hr => hi r (.inr (.inl hr))
  have h2 : ∀ r ∈ i.s2.rows, RowIn r := fun r hr => hi r (.inr (.inr hr))
  rcases stmtOk_party hy with rfl | rfl | rfl
  · refine ⟨⟨hl, hf.2.1, hf.2.2⟩, ?_, rfl⟩
    rintro r (h | h | h)
    · exact hr r h
    · exact h1 r h
    · exact h2 r h
  · refine ⟨⟨hf.1, hl, hf.2.2⟩, ?_, rfl⟩
    rintro r (h | h | h)
    · exact h0 r h
    · exact hr r h
    · exact h2 r h
  · refine ⟨⟨hf.1, hf.2.1, hl⟩, ?_, rfl⟩
    rintro r (h | h | h)
    · exact h0 r h
    · exact h1 r h
    · exact hr r h

/-! the loops -/
def sel3 {α : Type} (k : Nat) (a b c : α) : α := if k = 0 then a else if k = 1 then b else c
theorem idx9_0 (p0 s0 : Int) (v0 : Value) (p1 s1 : Int) (v1 : Value) (p2 s2 : Int) (v2 : Value) (w : World) : (Instr.index 57 (.agg #[.int .i64 p0, .int .i64 s0, v0, .int .i64 p1, .int .i64 s1, v1, .int .i64 p2, .int .i64 s2, v2]) (.int .i64 0)).run Tryz.prog w = .ok (.agg #[.int .i64 p0, .int .i64 s0, v0]) w := by kernel_rfl
theorem idx9_1 (p0 s0 : Int) (v0 : Value) (p1 s1 : Int) (v1 : Value) (p2 s2 : Int) (v2 : Value) (w : World) : (Instr.index 57 (.agg #[.int .i64 p0, .int .i64 s0, v0, .int .i64 p1, .int .i64 s1, v1, .int .i64 p2, .int .i64 s2, v2]) (.int .i64 1)).run Tryz.prog w = .ok (.agg #[.int .i64 p1, .int .i64 s1, v1]) w := by kernel_rfl
theorem idx9_2 (p0 s0 : Int) (v0 : Value) (p1 s1 : Int) (v1 : Value) (p2 s2 : Int) (v2 : Value) (w : World) : (Instr.index 57 (.agg #[.int .i64 p0, .int .i64 s0, v0, .int .i64 p1, .int .i64 s1, v1, .int .i64 p2, .int .i64 s2, v2]) (.int .i64 2)).run Tryz.prog w = .ok (.agg #[.int .i64 p2, .int .i64 s2, v2]) w := by kernel_rfl
theorem idx9 (p0 s0 : Int) (v0 : Value) (p1 s1 : Int) (v1 : Value) (p2 s2 : Int) (v2 : Value) {k : Nat} (hk : k < 3) (w : World) :
    (Instr.index 57 (.agg #[.int .i64 p0, .int .i64 s0, v0, .int .i64 p1, .int .i64 s1, v1, .int .i64 p2, .int .i64 s2, v2]) (.int .i64 k)).run Tryz.prog w = .ok (.agg #[.int .i64 (sel3 k p0 p1 p2), .int .i64 (sel3 k s0 s1 s2), sel3 k v0 v1 v2]) w := by
  have : k = 0 ∨ k = 1 ∨ k = 2 := by omega
  rcases this with rfl | rfl | rfl
  · exact idx9_0 ..
  · exact idx9_1 ..
  · exact idx9_2 ..
theorem AccAt.rows {w W : World} {out M n : Nat} {i : Sp.Intake} {v0 v1 v2 : Value} {f : Int × Int → Option Sp.Row} (h : AccAt w out M i v0 v1 v2 n f W) {k : Nat} (hk : k < 3) : RowsO W (sel3 k v0 v1 v2) (lstK i k) := by
  have : k = 0 ∨ k = 1 ∨ k = 2 := by omega
  rcases this with rfl | rfl | rfl
  · exact h.r0
  · exact h.r1
  · exact h.r2
def RelAcc (w : World) (out M : Nat) (i : Sp.Intake) (v0 v1 v2 : Value) (x : Value) (wr : World) : Prop :=
  ∃ k : Nat, k ≤ 3 ∧ x = .int .i64 k ∧ AccAt w out M i v0 v1 v2 (cntK i k) (fun a => rowsK i k a.1 a.2) wr
def RelIn (w : World) (out M : Nat) (i : Sp.Intake) (v0 v1 v2 : Value) (k : Nat) (x : Value) (wr : World) : Prop :=
  ∃ j : Nat, j ≤ (lstK i k).length ∧ x = .int .i64 j ∧ AccAt w out M i v0 v1 v2 (cntK i k + j) (fun a => Sp.rowsIn (rowsK i k) ((lstK i k).take j) a.1 a.2) wr
theorem rowsIn_snoc (f : Sp.RowMap) (l : List Sp.Row) (r : Sp.Row) : Sp.rowsIn f (l ++ [r]) = Sp.rowSet (Sp.rowsIn f l) r := by simp [Sp.rowsIn, List.foldl_append]
theorem take_snoc' {l : List Sp.Row} {j : Nat} {r : Sp.Row} (h : l[j]? = some r) : l.take (j + 1) = l.take j ++ [r] := by
  obtain ⟨hlt, rfl⟩ := List.getElem?_eq_some_iff.1 h
  rw [List.take_succ_eq_append_getElem hlt]
theorem cntK_le {i : Sp.Intake} (h : SetOk i) {k : Nat} (hk : k ≤ 3) : cntK i k ≤ k * 400 := by
  have hf := h.few
  have : k = 0 ∨ k = 1 ∨ k = 2 ∨ k = 3 := by omega
  rcases this with rfl | rfl | rfl | rfl <;> simp [cntK, lstK] <;> omega
theorem lstK_le {i : Sp.Intake} (h : SetOk i) (k : Nat) : (lstK i k).length ≤ 400 := by
  unfold lstK; split
  · exact h.few.1
  · split
    · exact h.few.2.1
    · exact h.few.2.2
theorem lstK_in {i : Sp.Intake} (h : SetOk i) {k : Nat} {r : Sp.Row} (hr : r ∈ lstK i k) : RowIn r := by
  unfold lstK at hr
  split at hr
  · exact h.rok r (.inl hr)
  · split at hr
    · exact h.rok r (.inr (.inl hr))
    · exact h.rok r (.inr (.inr hr))
theorem rowsIn_mem {f : Sp.RowMap} : ∀ {l : List Sp.Row} {o d : Int} {r : Sp.Row}, Sp.rowsIn f l o d = some r → r ∈ l ∨ f o d = some r := by
  intro l
  induction l generalizing f with
  | nil => intro o d r h; exact .inr h
  | cons a t ih =>
    intro o d r h
    have h' : Sp.rowsIn (Sp.rowSet f a) t o d = some r := h
    rcases ih h' with h1 | h1
    · exact .inl (List.mem_cons_of_mem _ h1)
    · unfold Sp.rowSet at h1
      split at h1
      · cases h1; exact .inl (by simp)
      · exact .inr h1
theorem RelIn.next {w W W' : World} {out M k j : Nat} {i : Sp.Intake} {v0 v1 v2 : Value} {r : Sp.Row} (hr : (lstK i k)[j]? = some r) (h : AccAt w out M i v0 v1 v2 (cntK i k + j) (fun a => Sp.rowsIn (rowsK i k) ((lstK i k).take j) a.1 a.2) W) (hg : W.grownBy W' (some M))
    (hm : MapAt Tryz.prog 34 pairEnc W' M (cntK i k + j + 1) (fun x => if x = (r.order, r.deed) then some (rowVal' r) else (Sp.rowsIn (rowsK i k) ((lstK i k).take j) x.1 x.2).map rowVal')) :
    RelIn w out M i v0 v1 v2 k (.int .i64 (j + 1)) W' := by
  have hlt := (List.getElem?_eq_some_iff.1 hr).1
  refine ⟨j + 1, by omega, by simp, ?_⟩
  have h2 := h.put (f' := fun a => Sp.rowsIn (rowsK i k) ((lstK i k).take (j + 1)) a.1 a.2) hg (hm.congr (fun a _ => by
    rw [take_snoc' hr, rowsIn_snoc]
    unfold Sp.rowSet
    by_cases e : a = (r.order, r.deed)
    · subst e; simp
    · rw [if_neg e, if_neg (fun h => e (Prod.ext h.1 h.2))]))
  exact h2
theorem RelAcc.next {w W : World} {out M k : Nat} {i : Sp.Intake} {v0 v1 v2 : Value} (hk : k < 3) (h : AccAt w out M i v0 v1 v2 (cntK i k + (lstK i k).length) (fun a => Sp.rowsIn (rowsK i k) ((lstK i k).take (lstK i k).length) a.1 a.2) W) : RelAcc w out M i v0 v1 v2 (.int .i64 (k + 1)) W := by
  rw [List.take_length] at h
  exact ⟨k + 1, by omega, by simp, h⟩
theorem AccAt.out {w W : World} {out M : Nat} {i : Sp.Intake} {v0 v1 v2 : Value} (hs : SetOk i) (h : AccAt w out M i v0 v1 v2 (cntK i 3) (fun a => rowsK i 3 a.1 a.2) W) : InIs W i v0 v1 v2 (some M) where
  r0 := h.r0
  r1 := h.r1
  r2 := h.r2
  few := hs.few
  map := ⟨fun b hb => by cases hb; rw [hs.row]; exact h.map.mono (cntK_le hs (Nat.le_refl _)), fun e => by cases e⟩
  amt := fun o d r hr => by
    rw [hs.row] at hr
    have : RowIn r := by
      rcases rowsIn_mem (f := rowsK i 2) (l := lstK i 2) hr with h1 | h1
      · exact lstK_in hs h1
      · rcases rowsIn_mem (f := rowsK i 1) (l := lstK i 1) h1 with h2 | h2
        · exact lstK_in hs h2
        · rcases rowsIn_mem (f := rowsK i 0) (l := lstK i 0) h2 with h3 | h3
          · exact lstK_in hs h3
          · cases h3
    exact ⟨this.lo, this.hi⟩
  rok := hs.rok
theorem rowsO_at {W : World} {q : Option Addr} {n c j : Nat} {l : List Sp.Row} {r : Sp.Row} (h : RowsO W (.slice q n c) l) (hj : l[j]? = some r) :
    ∃ b, q = some ⟨b, 0, none⟩ ∧ W.cell? ⟨b, j * 5, none⟩ = some (.int .i64 r.order) ∧ W.cell? ⟨b, j * 5 + 1, none⟩ = some (.int .i64 r.deed) ∧ W.cell? ⟨b, j * 5 + 2, none⟩ = some (.int .i64 r.code) ∧ W.cell? ⟨b, j * 5 + 3, none⟩ = some (.int .i64 r.amount) ∧
      W.cell? ⟨b, j * 5 + 4, none⟩ = some (.int .i64 r.qty) ∧ b < W.heap.size := by
  rcases h.slc with ⟨_, rfl⟩ | ⟨b, cap, e, _, hb, hc⟩
  · simp at hj
  · cases e
    exact ⟨b, rfl, hc j r hj 0 _ rfl, hc j r hj 1 _ rfl, hc j r hj 2 _ rfl, hc j r hj 3 _ rfl, hc j r hj 4 _ rfl, hb⟩
theorem InIs.keeps1 {w w' : World} {i : Sp.Intake} {v0 v1 v2 : Value} {m : Option Nat} {X : Nat} {c : Array Value} {t : TypeId} {fr : Nat × Nat} (h : InIs w i v0 v1 v2 m) (hX : w.heap[X]? = some (.cells c t fr)) (ht : t ≠ 127) (hk : Keeps (fun k => k = X) w w') : InIs w' i v0 v1 v2 m :=
  h.same (fun k hk' => by
    refine hk.block k (h.lt hk') ?_
    have hr : ∀ {v : Value} {l : List Sp.Row}, RowsO w v l → v.ownBlock = some k → k ≠ X := fun hr e => by
      obtain ⟨cc, hc⟩ := own_block hr e
      exact ne_of_types hc hX (Ne.symm ht)
    rcases hk' with e | e | e | e
    · exact hr h.r0 e
    · exact hr h.r1 e
    · exact hr h.r2 e
    · obtain ⟨es, cl, hM⟩ := (h.map.1 k e).heap
      exact Ne.symm (ne_of_map hX hM))
end Go.Proofs.YtkgpnikmdmpfaaaGreatDoor

/-
  The words of saga.Reply, saga.Stop. Written by mkreply.py.
-/

set_option linter.unusedVariables false
set_option linter.unusedSimpArgs false
namespace Go.Proofs.YtkgpnikmdmpfaaaGreatDoor
open Go.RowKit

def replyRes (r : Option Sp.Saga) : Value := .tuple #[sagaVal (r.getD default), .bool r.isSome]
def stopRes (r : Option Sp.Saga) : Value := .tuple #[sagaVal (r.getD default), .int .i64 (if r.isSome then 0 else 92)]
theorem sagaVal_lit (t : Sp.Saga) : ∃ id ref sku qty amount d0 d1 d2 d3 d4 d5 c, t = ⟨⟨id, ref, sku, qty, amount⟩, d0, d1, d2, d3, d4, d5, c⟩ ∧ sagaVal t = .agg #[.int .i64 id, .string (str ref), .string (str sku), .int .i64 qty, .int .i64 amount, .int .i64 d0, .int .i64 d1, .int .i64 d2, .int .i64 d3, .int .i64 d4, .int .i64 d5, .bool c] := by
  obtain ⟨⟨id, ref, sku, qty, amount⟩, d0, d1, d2, d3, d4, d5, cancel⟩ := t
  exact ⟨_, _, _, _, _, _, _, _, _, _, _, _, rfl, rfl⟩

theorem sagaVal_default : sagaVal default = .agg #[.int .i64 0, .string (str []), .string (str []), .int .i64 0, .int .i64 0, .int .i64 0, .int .i64 0, .int .i64 0, .int .i64 0, .int .i64 0, .int .i64 0, .bool false] := rfl

set_option maxRecDepth 100000 in
set_option maxHeartbeats 8000000 in
/-- The reply is another one's, or says what may not be. -/
theorem Reply_none (s : Sp.Saga) (deed code : Int) (w : World) (h : Sp.waits s < 0 ∨ Sp.waits s ≠ deed ∨ (code ≠ 1 ∧ (code ≠ 2 ∨ 2 < Sp.waits s))) :
    Calls Tryz.prog 54 #[sagaVal s, .int .i64 deed, .int .i64 code] w fun e w' => e = .returned (replyRes none) ∧ Below w.heap.size w w' := by
  have hcase : Sp.waits s = -1 ∨ (0 ≤ Sp.waits s ∧ Sp.waits s ≠ deed) ∨ (0 ≤ Sp.waits s ∧ Sp.waits s = deed ∧ code ≠ 1 ∧ code ≠ 2) ∨ (0 ≤ Sp.waits s ∧ Sp.waits s = deed ∧ code = 2 ∧ 2 < Sp.waits s) := by
    have := waits_range s
    omega
  obtain ⟨⟨id, ref, sku, qty, amount⟩, d0, d1, d2, d3, d4, d5, cancel⟩ := s
  rcases hcase with h1 | ⟨h1, h2⟩ | ⟨h1, h2, h3, h4⟩ | ⟨h1, h2, h3, h4⟩
  case' inl => have hr := waitsRes_no h1
  case' inr.inl =>
    generalize hn : Sp.waits _ = n at *
    have hr := waitsRes_yes hn h1
    have hd : (n == deed) = false := by simpa using h2
  case' inr.inr.inl =>
    generalize hn : Sp.waits _ = n at *
    have hr := waitsRes_yes hn h1
    subst h2
    have hd : (code == 1) = false := by simpa using h3
    have hd2 : (code == 2) = false := by simpa using h4
  case' inr.inr.inr =>
    generalize hn : Sp.waits _ = n at *
    have hr := waitsRes_yes hn h1
    subst h2
    subst h3
  all_goals
    clear h
    (try replace hn := Lib.hid hn)
    simp only [sagaVal]
    go_enter Tryz.func54, Tryz.ntmps54
    go_wp2_with (go_at_call 89; refine Calls.mono (Waits_any ⟨⟨_, _, _, _, _⟩, _, _, _, _, _, _, _⟩ _) ?_; rintro e w1 ⟨rfl, hb⟩; rw [hr]; obtain ⟨hc, hf, hrr, hz⟩ := brow hb; (try simp at hz))
    refine bodyPost_ret (v := replyRes none) ?_ rfl ⟨rfl, ?_⟩
    · simp [results, Tryz.results54, go_sem, replyRes, sagaVal_default, *]
    · (repeat (first | (with_reducible first | exact zR _ _ | exact zA _ _ | assumption | refine zL ?_ _ | refine zD ?_ | refine zN ?_ _) | ((with_reducible first | refine zC ?_ ?_ _ | refine zW ?_ ?_ _); rotate_left; focus (first | exact Nat.le_refl _ | (simp; done) | (simp; omega) | omega)) | with_reducible refine zT ?_ (by assumption)))
end Go.Proofs.YtkgpnikmdmpfaaaGreatDoor

/-
  The walks of rows.Valid, snaps.deeds, snaps.undeeds.
-/
import Derived.Test.YtkgpnikmdmpfaaaGreatDoorBackP2
import Derived.Test.YtkgpnikmdmpfaaaGreatDoorBackP4
import Derived.Lib.AppendStr
set_option linter.unusedVariables false
set_option linter.unusedSimpArgs false
namespace Go.Proofs.YtkgpnikmdmpfaaaGreatDoor
open Go.RowKit

def stmtOk (party seq : Int) (l : List Sp.Row) : Bool := decide (1 ≤ seq) && decide (seq ≤ 1073741824) && rowsOk l party

set_option maxRecDepth 100000 in
set_option maxHeartbeats 4000000 in
theorem rowsValid_any (party seq : Int) (v : Value) (l : List Sp.Row) (w : World) (hp : Parties w) (hl : RowsAt w v l) (hv : v.oneCell' = true) :
    Calls Tryz.prog 74 #[.agg #[.int .i64 party, .int .i64 seq, v]] w fun e w' => e = .returned (.bool (stmtOk party seq l)) ∧ Below w.heap.size w w' := by
  have h : seq < 1 ∨ (1 ≤ seq ∧ 1073741824 < seq) ∨ (1 ≤ seq ∧ seq ≤ 1073741824) := by omega
  replace hp := Lib.hid hp
  replace hl := Lib.hid hl
  rcases h with h | ⟨h0, h⟩ | ⟨h0, h⟩
  · have HO : stmtOk party seq l = false := by simp [stmtOk]; omega
    rw [HO]
    clear HO
    go_enter Tryz.func74, Tryz.ntmps74
    go_wp2
    go_ret
    exact ⟨rfl, by (repeat (first | (with_reducible first | exact zR _ _ | exact zA _ _ | assumption | refine zL ?_ _ | refine zD ?_ | refine zN ?_ _) | ((with_reducible first | refine zC ?_ ?_ _ | refine zW ?_ ?_ _); rotate_left; focus (first | exact Nat.le_refl _ | (simp; done) | (simp; omega) | omega)) | with_reducible refine zT ?_ (by assumption)))⟩
  · have HO : stmtOk party seq l = false := by simp [stmtOk]; omega
    rw [HO]
    clear HO
    go_enter Tryz.func74, Tryz.ntmps74
    go_wp2
    go_ret
    exact ⟨rfl, by (repeat (first | (with_reducible first | exact zR _ _ | exact zA _ _ | assumption | refine zL ?_ _ | refine zD ?_ | refine zN ?_ _) | ((with_reducible first | refine zC ?_ ?_ _ | refine zW ?_ ?_ _); rotate_left; focus (first | exact Nat.le_refl _ | (simp; done) | (simp; omega) | omega)) | with_reducible refine zT ?_ (by assumption)))⟩
  · have HO : stmtOk party seq l = rowsOk l party := by simp [stmtOk, h0, h]
    rw [HO]
    clear HO
    go_enter Tryz.func74, Tryz.ntmps74
    go_wp2_with (go_at_call 109; refine Calls.mono (rowsCheck_any l party _ _ (hp.out.grew (alloc_grew _ _)) (hl.out.mono (alloc_grew _ _))) ?_; rintro e w1 ⟨rfl, hb⟩)
    go_ret
    exact ⟨rfl, Grew.trans (alloc_grew _ _) hb⟩

/-- How a saga's deeds are, and whether it was cancelled, as a number (the model's spelling). -/
def orShl (n d : Int) (k : Nat) : Int := bits .or .u64 n (IntKind.u64.wrap (IntKind.u64.wrap d * 2 ^ k))
def deedsN (s : Sp.Saga) : Int :=
  let n := orShl (orShl (orShl (orShl (orShl (orShl 0 s.d0 0) s.d1 3) s.d2 6) s.d3 9) s.d4 12) s.d5 15
  if s.cancel then bits .or .u64 n 262144 else n

set_option maxRecDepth 100000 in
set_option maxHeartbeats 4000000 in
theorem deeds_any (s : Sp.Saga) (w : World) :
    Calls Tryz.prog 37 #[sagaVal s] w fun e w' => e = .returned (.int .u64 (deedsN s)) ∧ Below w.heap.size w w' := by
  obtain ⟨⟨id, ref, sku, qty, amount⟩, d0, d1, d2, d3, d4, d5, cancel⟩ := s
  simp only [sagaVal]
  obtain ⟨i0, i1, i2, i3, i4, i5⟩ := deedAt (.int .i64 d0) (.int .i64 d1) (.int .i64 d2) (.int .i64 d3) (.int .i64 d4) (.int .i64 d5)
  cases cancel
  all_goals
    go_enter Tryz.func37, Tryz.ntmps37
    go_wp2
    refine wp_loop_rounds 7 ?_
    iterate 7 (all_goals (try (rw [rounds_succ]; go_wp2)))
    go_ret
    refine ⟨?_, alloc_grew _ _⟩
    clear i0 i1 i2 i3 i4 i5
    simp [deedsN, orShl]

/-- A saga of an order, and that number. -/
def deedOf (n : Int) : Int := wrap64 (bits .and .u64 n 7)
def undeeds (o : Sp.Order) (n : Int) : Sp.Saga :=
  ⟨o, deedOf n, deedOf (n / 8), deedOf (n / 64), deedOf (n / 512), deedOf (n / 4096), deedOf (n / 32768), bits .and .u64 (n / 262144) 1 == 1⟩

set_option maxRecDepth 100000 in
set_option maxHeartbeats 8000000 in
theorem undeeds_any (o : Sp.Order) (n : Int) (w : World) (h0 : 0 ≤ n) (h1 : n ≤ 18446744073709551615) :
    Calls Tryz.prog 79 #[orderVal o, .int .u64 n] w fun e w' => e = .returned (sagaVal (undeeds o n)) ∧ Below w.heap.size w w' := by
  obtain ⟨id, ref, sku, qty, amount⟩ := o
  simp only [orderVal]
  go_enter Tryz.func79, Tryz.ntmps79
  go_wp2
  refine wp_loop_rounds 7 ?_
  iterate 7 (all_goals (try (rw [rounds_succ]; go_wp2)))
  refine bodyPost_ret (v := sagaVal (undeeds ⟨id, ref, sku, qty, amount⟩ n)) ?_ rfl ⟨rfl, ?_⟩
  · simp [results, Tryz.results79, go_sem, undeeds, deedOf, sagaVal]
  · (repeat (first | (with_reducible first | exact zR _ _ | exact zA _ _ | assumption | refine zL ?_ _ | refine zD ?_ | refine zN ?_ _) | ((with_reducible first | refine zC ?_ ?_ _ | refine zW ?_ ?_ _); rotate_left; focus (first | exact Nat.le_refl _ | (simp; done) | (simp; omega) | omega)) | with_reducible refine zT ?_ (by assumption)))
end Go.Proofs.YtkgpnikmdmpfaaaGreatDoor

/-
  The walk of rows.Put's closure.
-/

set_option linter.unusedVariables false
set_option linter.unusedSimpArgs false
namespace Go.Proofs.YtkgpnikmdmpfaaaGreatDoor
open Go.RowKit

/-- The variable of bytes at pb holds these. -/
def Buf (w : World) (pb : Nat) (done : Bytes) : Prop := ∃ v, w.row? pb = some #[v] ∧ w.ownsRow (pb + 1) 5 1 v done.length (bv done)
def flatVar (ns : List Int) : Bytes := ns.flatMap fun n => varB (u64 n)
theorem strCells_bv (l : Bytes) : Lib.strCells (str l) = bv l := by
  simp [Lib.strCells, bv, str]
theorem info_u8' : ∃ i, Tryz.prog.info? 5 = some i ∧ i.zero = some (.int .u8 0) ∧ i.size = 1 ∧ i.bytes = 1 := by
  obtain ⟨i, h1, h2⟩ := Option.map_eq_some_iff.1 info_u8
  simp only [Prod.mk.injEq] at h2
  exact ⟨i, h1, h2.1, h2.2.1, h2.2.2⟩
/-- Appending a string's bytes to bytes that are owned. -/
theorem app_str {w : World} {base : Nat} {v : Value} {done t : Bytes} (hown : w.ownsRow base 5 1 v done.length (bv done)) (hbase : base ≤ w.heap.size) (hl : done.length + t.length ≤ 140737488355328) :
    ∃ v' w', (Builtin.append_ #[101, 9] 101 #[v, .string (str t)]).run Tryz.prog w = .ok v' w' ∧ w'.ownsRow base 5 1 v' (done ++ t).length (bv (done ++ t)) ∧ w.grownBy w' v.ownBlock := by
  obtain ⟨i, h1, h2, h3, h4⟩ := info_u8'
  obtain ⟨v', w', hr, ho, hg, _⟩ := Lib.run_append_own_string (P := Tryz.prog) w base 101 9 101 5 i Tryz.underlying101 Tryz.underlying9 h1 h2 h3 h4 v done.length (bv done) hown (str t) (by simp [maxLen]; omega) (by simpa using hl) hbase
  refine ⟨v', w', hr, ?_, hg⟩
  rw [strCells_bv, str_size, ← bv_append, ← List.length_append] at ho
  exact ho
theorem own_slice {w : World} {base size n : Nat} {e : TypeId} {v : Value} {xs : List Value} (h : w.ownsRow base e size v n xs) : ∃ p l c, v = .slice p l c := by
  rcases h.2 with ⟨rfl, _⟩ | ⟨g, cap, cur, rfl, _⟩ <;> exact ⟨_, _, _, rfl⟩
theorem own_ne {w : World} {base : Nat} {v : Value} {n : Nat} {xs : List Value} (h : w.ownsRow base 5 1 v n xs) {g : Nat} {cs : Array Value} {fr : Nat × Nat} (hg : w.heap[g]? = some (.cells cs 2 fr)) : some g ≠ v.ownBlock := by
  intro he
  rcases h.2 with ⟨rfl, _⟩ | ⟨g', cap, cur, rfl, _, hgg, _⟩
  · simp [Value.ownBlock] at he
  · simp [Value.ownBlock] at he
    subst he
    rw [hg] at hgg
    cases hgg

theorem flatVar_len : ∀ ns : List Int, ns.length ≤ 5 → (flatVar ns).length ≤ 50 := by
  have h : ∀ ns : List Int, (flatVar ns).length ≤ ns.length * 10 := by
    intro ns
    induction ns with
    | nil => simp [flatVar]
    | cons a t ih =>
      have h1 : (flatVar (a :: t)).length = (varB (u64 a)).length + (flatVar t).length := by simp [flatVar]
      have h2 : (varB (u64 a)).length ≤ 10 := varB_len64 (by have := u64_le a; omega)
      rw [h1]; simp; omega
  intro ns hn
  have := h ns
  omega
theorem putS {wr w1 w2 : World} {pb : Nat} {v : Value} (h : w1.cell? ⟨pb, 0, none⟩ = some v ∧ w1.frozen? ⟨pb, 0, none⟩ = false ∧ wr.grownBy w1 v.ownBlock) (hne : some pb ≠ v.ownBlock) (hg : w1.grownBy w2 v.ownBlock) :
    w2.cell? ⟨pb, 0, none⟩ = some v ∧ w2.frozen? ⟨pb, 0, none⟩ = false ∧ wr.grownBy w2 v.ownBlock := by
  have hlt := World.block_lt_of_cell? w1 _ h.1
  have hb := hg.block pb hlt hne
  exact ⟨by rw [World.cell?_of_block (w := w1) hb]; exact h.1, by rw [World.frozen?_of_block (w := w1) hb]; exact h.2.1, h.2.2.trans hg⟩

def RelVar (w : World) (pb g : Nat) (ns : List Int) (done : Bytes) (x : Value) (wr : World) : Prop :=
  ∃ k, k ≤ ns.length ∧ x = .int .i64 k ∧ Buf wr pb (done ++ flatVar (ns.take k)) ∧ Below pb w wr ∧ w.heap.size ≤ wr.heap.size ∧ wr.heap[g]? = some (.cells (ns.map (Value.int .i64)).toArray 2 (0, 0))

set_option maxRecDepth 100000 in
set_option maxHeartbeats 4000000 in
theorem putVar_any (ns : List Int) (done : Bytes) (g cap pb : Nat) (w : World) (hb : Buf w pb done) (hg : w.heap[g]? = some (.cells (ns.map (Value.int .i64)).toArray 2 (0, 0)))
    (hpg : pb ≠ g) (hns : ns.length ≤ 5) (hcap : ns.length ≤ cap) (hl : done.length ≤ 100000000) :
    Calls Tryz.prog 75 #[.slice (some ⟨g, 0, none⟩) ns.length cap, .pointer (some ⟨pb, 0, none⟩)] w fun e w' => e = .returned (.tuple #[]) ∧ Buf w' pb (done ++ flatVar ns) ∧ Below pb w w' ∧ w.heap.size ≤ w'.heap.size := by
  have hb0 := Lib.hid hb
  have hg0 := Lib.hid hg
  clear hb hg
  go_enter Tryz.func75, Tryz.ntmps75
  go_wp2
  go_loopw [7] (fun x wr => RelVar w pb g ns done x wr) (fun x _ => ns.length - (intOf x).toNat)
  case atStart => exact ⟨0, by omega, rfl, by simpa [flatVar] using hb0.out, Below.refl _ _, Nat.le_refl _, hg0.out⟩
  case round =>
    obtain ⟨k, hk, rfl, ⟨v, hrow, hown⟩, hB, hsz, hgw⟩ := hrel
    by_cases hlt : k < ns.length
    · have hne : some pb ≠ v.ownBlock := fun h => by have := (hown.lt pb h.symm).1; omega
      have hgne : some g ≠ v.ownBlock := own_ne hown hgw
      have hpb := row?_lt hrow
      have hc := cell?_of_row? hrow 0
      have hf := frozen?_of_row? hrow 0
      simp only [List.getElem?_toArray, List.getElem?_cons_zero] at hc
      have hx : wr.cell? ⟨g, k, none⟩ = some (.int .i64 ns[k]) := by
        rw [cell_of_row wr g k _ _ (0, 0) hgw]; simp [hlt]
      have hgk : (0 : Int) ≤ k ∧ (k : Int) < ns.length := by omega
      obtain ⟨hk0, hk1⟩ := hgk
      have hL : (flatVar (ns.take k)).length ≤ 50 := flatVar_len _ (by simp; omega)
      replace hL := Lib.hid hL
      replace hrow := Lib.hid hrow
      replace hB := Lib.hid hB
      replace hgw := Lib.hid hgw
      replace hown := Lib.hid hown
      replace hne := Lib.hid hne
      replace hgne := Lib.hid hgne
      generalize hm : ns[k] = m at hx
      go_wp2
      refine any_begin (S := (fun w' => w'.cell? ⟨pb, 0, none⟩ = some v ∧ w'.frozen? ⟨pb, 0, none⟩ = false ∧ wr.grownBy w' v.ownBlock)) 5 (by kernel_rfl) ?_ (fun hHeld => ?_)
      focus (first | exact putS (by assumption) hne.out (grown_below (by assumption) _) | exact putS (by assumption) hne.out (by assumption) | exact ⟨hc, hf, ⟨rfl, rfl, rfl, Nat.le_refl _, fun _ _ _ => rfl⟩⟩)
      have hq := plan [0, 1, 2]
      iterate 3 (refine tk hq ?_ rfl (by kernel_rfl) (by assumption) (by rfl) (fun _ _ _ h => h) ?hy ?_; (case hy => (intro w hSw; (try dsimp only at hSw); go_simp; (try with_reducible rfl))); replace hq := hq.tl; (try simp only [Act.put, yA, yB, yC]))
      clear hq
      refine ao 3 rfl (by kernel_rfl) (by rfl) (fun K hK => ?_)
      go_simp
      (go_at_call 18; refine Calls.mono (Var_any _ _ (by rw [u64_wrap]; omega) (by rw [u64_wrap]; exact u64_le _)) ?_; rintro e w1 ⟨rfl, hb1⟩)
      refine hK.out _ _ ?_ (fun hHeld => ?_)
      focus (first | exact putS (by assumption) hne.out (grown_below (by assumption) _) | exact putS (by assumption) hne.out (by assumption) | exact ⟨hc, hf, ⟨rfl, rfl, rfl, Nat.le_refl _, fun _ _ _ => rfl⟩⟩)
      clear hK K
      (try simp only [Act.put, yA, yB, yC])
      refine ao 4 rfl (by kernel_rfl) (by rfl) (fun K hK => ?_)
      (have hown1 := World.ownsRow.kept (w := wr.drew) (w' := w1) (row := none) hown.out (grown_below hb1 none) (by cases hv : v.ownBlock <;> simp)); (obtain ⟨v1, w2, hr2, ho2, hg2⟩ := app_str (t := varB (IntKind.u64.wrap m).toNat) hown1 (by have := hb1.size; simp at this; omega) (by have := hL.out; have := varB_wrap m; simp; omega)); obtain ⟨q1, q2, q3, rfl⟩ := own_slice ho2; refine wp_append (.tmp 11) (.tmp 14) rfl rfl rfl hr2 ?_
      refine hK.out _ _ ?_ (fun hHeld => ?_)
      focus (first | exact putS (by assumption) hne.out (grown_below (by assumption) _) | exact putS (by assumption) hne.out (by assumption) | exact ⟨hc, hf, ⟨rfl, rfl, rfl, Nat.le_refl _, fun _ _ _ => rfl⟩⟩)
      clear hK K
      (try simp only [Act.put, yA, yB, yC])
      refine al 5 rfl (by kernel_rfl) rfl (by rfl) (fun K hK => ?_)
      go_simp
      refine hK.out _ _ ?_
      clear hK K
      (try simp only [Act.put, yA, yB, yC])
      go_wp2
      have hgr : wr.grownBy w2 v.ownBlock := hHeld.2.2
      have hown2 := hown.out
      have hrow2 : w2.row? pb = some #[v] := by rw [row?_congr (w := wr) (hgr.block pb hpb hne.out)]; exact hrow.out
      have hB2 : Below pb w w2 := hB.out.grown hgr (by omega) (fun k hk => by have := (hown2.lt k hk).1; omega)
      refine ⟨⟨k + 1, by omega, by go_num, ⟨.slice q1 q2 q3, ?_, ?_⟩, hB2.setCell (Nat.le_refl _) _, ?_, ?_⟩, by simp [intOf]; omega⟩
      · rw [row?_setCell, if_pos rfl, hrow2]; rfl
      · have := ownsRow_setCell_below ho2 (a := ⟨pb, 0, none⟩) (Nat.lt_succ_self pb) (.slice q1 q2 q3)
        rw [IntKind.wrap_u64] at this
        rw [List.take_succ_eq_append_getElem hlt, hm]
        simpa [flatVar, u64, List.append_assoc] using this
      · have := hgr.size; simp [World.setCell]; omega
      · rw [Below.heap_setCell _ _ _ _ (fun h => hpg h.symm), hgr.block g (Array.getElem?_eq_some_iff.1 hgw.out).1 hgne.out]; exact hgw.out
    · go_wp2
      refine bodyPost_end (v := .tuple #[]) ?_ rfl ⟨rfl, ?_⟩
      · simp [results, Tryz.results75, go_sem]
      · have hkk : k = ns.length := by omega
        subst hkk
        exact ⟨⟨v, hrow, by simpa using hown⟩, hB, hsz⟩
end Go.Proofs.YtkgpnikmdmpfaaaGreatDoor

/-
  The walk of rows.Put.
-/

set_option linter.unusedVariables false
set_option linter.unusedSimpArgs false
namespace Go.Proofs.YtkgpnikmdmpfaaaGreatDoor
open Go.RowKit

def rowInts (r : Sp.Row) : List Int := [r.order, r.deed, r.code, r.amount, r.qty]
def rowsB (l : List Sp.Row) : Bytes := l.flatMap fun r => flatVar (rowInts r)
/-- A statement's bytes. -/
def stmtB (party seq : Int) (l : List Sp.Row) : Bytes := if stmtOk party seq l then flatVar [party, seq, l.length] ++ rowsB l else []

def RelPut (w : World) (pb : Nat) (hd : Bytes) (l : List Sp.Row) (x : Value) (wr : World) : Prop :=
  ∃ i : Nat, i ≤ l.length ∧ x = .int .i64 i ∧ Buf wr pb (hd ++ rowsB (l.take i)) ∧ Below pb w wr ∧ pb < wr.heap.size

theorem buf_lt {w : World} {pb : Nat} {l : Bytes} (h : Buf w pb l) : pb < w.heap.size := by
  obtain ⟨v, h1, _⟩ := h
  exact row?_lt h1
theorem buf_new (W : World) (ty : TypeId) : Buf (W.alloc (.cells #[.slice none 0 0] ty)) W.heap.size [] :=
  ⟨_, by rw [row?_alloc, if_pos rfl]; rfl, World.ownsRow_nil _ _ _ _⟩
theorem Buf.alloc {w : World} {pb : Nat} {l : Bytes} (h : Buf w pb l) (o : Obj) : Buf (w.alloc o) pb l := by
  obtain ⟨v, h1, h2⟩ := h
  exact ⟨v, by rw [row?_alloc, if_neg (by have := row?_lt h1; omega)]; exact h1, h2.alloc o⟩
theorem stmtOk_len {party seq : Int} {l : List Sp.Row} (h : stmtOk party seq l = true) : l.length ≤ 400 := by
  simp [stmtOk, rowsOk] at h; omega
theorem rowsB_len (l : List Sp.Row) : (rowsB l).length ≤ l.length * 50 := by
  induction l with
  | nil => simp [rowsB]
  | cons a t ih =>
    have h1 : (rowsB (a :: t)).length = (flatVar (rowInts a)).length + (rowsB t).length := by simp [rowsB]
    have h2 := flatVar_len (rowInts a) (by simp [rowInts])
    rw [h1]; simp; omega

theorem heap_at {W : World} {g : Nat} {cs : Array Value} {ty : TypeId} (hg : g = W.heap.size) : (W.alloc (.cells cs ty)).heap[g]? = some (.cells cs ty) := by
  subst hg; exact heap_alloc_new W _
/-- What a walk wants behind a call that writes to block p and beyond. -/
theorem bpb {W w1 : World} {p : Nat} (hb : Below p W w1) : (∀ b o, w1.cell? ⟨b, o, none⟩ = if b < p then W.cell? ⟨b, o, none⟩ else later w1 b o) ∧
    (∀ b o, w1.frozen? ⟨b, o, none⟩ = if b < p then W.frozen? ⟨b, o, none⟩ else laterF w1 b o) ∧ (∀ b, w1.row? b = if b < p then W.row? b else laterR w1 b) :=
  ⟨fun b o => by split
                 · exact hb.cell (p := ⟨b, o, none⟩) (by assumption)
                 · rfl, fun b o => by split
                                      · exact hb.frozen (p := ⟨b, o, none⟩) (by assumption)
                                      · rfl, fun b => by split
                                                         · exact row?_congr (hb.block b (by assumption))
                                                         · rfl⟩

set_option maxRecDepth 100000 in
set_option maxHeartbeats 4000000 in
theorem rowsPut_any (party seq : Int) (v : Value) (l : List Sp.Row) (w : World) (hp : Parties w) (hl : RowsAt w v l) :
    Calls Tryz.prog 39 #[.agg #[.int .i64 party, .int .i64 seq, v]] w fun e w' => e = .returned (.string (str (stmtB party seq l))) ∧ Below w.heap.size w w' := by
  have hv : v.oneCell' = true := by rcases hl with ⟨rfl, _⟩ | ⟨b, cap, rfl, _⟩ <;> rfl
  have hlen : ∃ a c, v = .slice a l.length c := by
    rcases hl with ⟨rfl, rfl⟩ | ⟨b, cap, rfl, _⟩
    · exact ⟨none, 0, rfl⟩
    · exact ⟨_, _, rfl⟩
  obtain ⟨va, vc, rfl⟩ := hlen
  replace hp := Lib.hid hp
  replace hl := Lib.hid hl
  have HS : stmtOk party seq l = true ∨ stmtOk party seq l = false := by cases stmtOk party seq l <;> simp
  rcases HS with HS | HS
  · have HO : stmtB party seq l = flatVar [party, seq, l.length] ++ rowsB l := by simp [stmtB, HS]
    rw [HO]
    clear HO
    have hl4 := stmtOk_len HS
    replace HS := Lib.hid HS
    go_enter Tryz.func39, Tryz.ntmps39
    go_wp2_with (first
      | (go_at_call 74; refine Calls.mono (rowsValid_any party seq _ l _ (hp.out.grew (alloc_grew _ _)) (hl.out.mono (alloc_grew _ _)) hv) ?_; rw [HS.out]; rintro e w1 ⟨rfl, hb⟩; obtain ⟨hc, hf, hr, hz⟩ := brow hb; (try simp at hz); have hlt : w.heap.size < w1.heap.size := (by omega); have HW := Lib.hid (Grew.trans (alloc_grew _ _) hb))
      | (go_at_call 75; refine Calls.mono (putVar_any [party, seq, l.length] [] _ _ _ _ (Buf.alloc (buf_new _ _) _) (heap_at (by simp)) (by simp) (by simp) (by simp) (by simp)) ?_; rintro e w2 ⟨rfl, hbuf, hb2, hz2⟩; obtain ⟨hc2, hf2, hr2⟩ := bpb hb2; (try simp at hz2); have hlt2 : w.heap.size < w2.heap.size := (by omega); have hlt3 : w.heap.size < w1.heap.size := hlt; have HW2 := Lib.hid hb2; have HB2 := Lib.hid hbuf; clear hbuf))
    go_loopw [24] (fun x wr => RelPut w2 w1.heap.size (flatVar [party, seq, l.length]) l x wr) (fun x _ => l.length - (intOf x).toNat)
    case atStart => exact ⟨0, by omega, rfl, by simpa [rowsB] using HB2.out, Below.refl _ _, by omega⟩
    case round =>
      obtain ⟨i, hi, rfl, hbuf, hB, hpb⟩ := hrel
      have hB3 : Below w1.heap.size w1 wr := (((Below.refl _ _).alloc (Nat.le_refl _) _).alloc (by simp) _).trans (HW2.out.trans hB)
      have hB4 : Below w.heap.size w wr := Grew.trans HW.out hB3
      have hsz := hB4.size
      replace hB3 := Lib.hid hB3
      clear hc hf hr hc2 hf2 hr2
      by_cases hlt : i < l.length
      · rcases hl.out with ⟨_, rfl⟩ | ⟨b, cap, hve, hcap, hb0, hcells⟩
        · simp at hlt
        · simp only [Value.slice.injEq] at hve
          obtain ⟨rfl, _, rfl⟩ := hve
          obtain ⟨r, hr⟩ : ∃ r, l[i]? = some r := ⟨l[i], List.getElem?_eq_getElem hlt⟩
          obtain ⟨f0, f1, f2, f3, f4⟩ := row_facts hcells hB4 hr
          replace hcells := Lib.hid hcells
          have hbl := Lib.hid (rowsB_len (l.take i))
          replace hbuf := Lib.hid hbuf
          have hfl := Lib.hid (flatVar_len [party, seq, l.length] (by simp))
          go_wp2_with (go_at_call 75; refine Calls.mono (putVar_any [r.order, r.deed, r.code, r.amount, r.qty] _ _ _ _ _ (Buf.alloc (Buf.alloc hbuf.out _) _) (heap_at (by simp)) (by omega) (by simp) (by simp) (by have := hbl.out; have := hfl.out; simp at *; omega)) ?_; rintro e w3 ⟨rfl, hbuf3, hb3, hz3⟩)
          refine ⟨⟨i + 1, by omega, by go_num, ?_, hB.trans ((((Below.refl _ _).alloc (Nat.le_of_lt hpb) _).alloc (by simp; omega) _).trans hb3), buf_lt hbuf3⟩, by simp [intOf]; omega⟩
          obtain ⟨hlt', he⟩ := List.getElem?_eq_some_iff.1 hr
          rw [List.take_succ_eq_append_getElem hlt', he]
          simpa [rowsB, rowInts, List.append_assoc] using hbuf3
      · have hil : i = l.length := by omega
        subst hil
        obtain ⟨vb, hrow, hown⟩ := hbuf
        have hcb := cell?_of_row? hrow 0
        simp only [List.getElem?_toArray, List.getElem?_cons_zero] at hcb
        have hcv := run_str_own (P := Tryz.prog) (src := 101) (dst := 9) Tryz.underlying101 Tryz.underlying5 Tryz.underlying9 hown
        obtain ⟨q1, q2, q3, rfl⟩ := own_slice hown
        clear hown hrow
        go_wp2
        go_ret
        exact ⟨rfl, hB4⟩
  · have HO : stmtB party seq l = [] := by simp [stmtB, HS]
    rw [HO]
    clear HO
    replace HS := Lib.hid HS
    go_enter Tryz.func39, Tryz.ntmps39
    go_wp2_with (go_at_call 74; refine Calls.mono (rowsValid_any party seq _ l _ (hp.out.grew (alloc_grew _ _)) (hl.out.mono (alloc_grew _ _)) hv) ?_; rw [HS.out]; rintro e w1 ⟨rfl, hb⟩; obtain ⟨hc, hf, hr, hz⟩ := brow hb; (try simp at hz))
    go_ret
    exact ⟨rfl, Grew.trans (alloc_grew _ _) hb⟩
end Go.Proofs.YtkgpnikmdmpfaaaGreatDoor

/-
  books.moves.
-/
import Derived.Test.YtkgpnikmdmpfaaaGreatDoorBackP7
import Derived.Deep.QuietTactic
import Derived.RegionTactic
import Derived.BigRegion
set_option linter.unusedVariables false
set_option linter.unusedSimpArgs false
namespace Go.Proofs.YtkgpnikmdmpfaaaGreatDoor
open Go.RowKit Go.Maps
theorem idx2_0 (a b : Int) (w : World) : (Instr.index 178 (.agg #[.int .i64 a, .int .i64 b]) (.int .i64 0)).run Tryz.prog w = .ok (.int .i64 a) w := by kernel_rfl
theorem idx2_1 (a b : Int) (w : World) : (Instr.index 178 (.agg #[.int .i64 a, .int .i64 b]) (.int .i64 1)).run Tryz.prog w = .ok (.int .i64 b) w := by kernel_rfl
theorem idx2 (p : Sp.Posting) (k : Nat) (hk : k < 2) (w : World) : (Instr.index 178 (.agg #[.int .i64 0, .int .i64 p.order]) (.int .i64 k)).run Tryz.prog w = .ok (.int .i64 (Sp.ordAt p k)) w := by
  have : k = 0 ∨ k = 1 := by omega
  rcases this with rfl | rfl
  · exact idx2_0 _ _ w
  · exact idx2_1 _ _ w
def RelMov (w : World) (out : Nat) (b : Sp.Bal) (p : Sp.Posting) (x : Value) (wr : World) : Prop :=
  ∃ k : Nat, k ≤ 2 ∧ x = .int .i64 k ∧ Below w.heap.size w wr ∧ wr.row? w.heap.size = some #[.string (str p.id), .int .i64 p.order, .int .i64 p.debit, .int .i64 p.credit, .int .i64 p.amount] ∧
    MapAt Tryz.prog 156 pairEnc wr out (2 * k) (fun a => (Sp.mapAt b p k a).map (Value.int .i64)) ∧ (k = 1 → Sp.stepOk b p 0 = true) ∧ (k = 2 → Sp.movesOk b p = true)
/-- Between the regions of a round of moves. -/
structure MovAt (w : World) (out : Nat) (b : Sp.Bal) (p : Sp.Posting) (k a c : Nat) (W : World) : Prop where
  low : Below w.heap.size w W
  row : W.row? w.heap.size = some #[.string (str p.id), .int .i64 p.order, .int .i64 p.debit, .int .i64 p.credit, .int .i64 p.amount]
  ra : W.row? a = some #[.int .i64 p.debit, .int .i64 (Sp.ordAt p k)]
  rc : W.row? c = some #[.int .i64 p.credit, .int .i64 (Sp.ordAt p k)]
  map : MapAt Tryz.prog 156 pairEnc W out (2 * k) (fun a => (Sp.mapAt b p k a).map (Value.int .i64))
theorem MovAt.start {w wr : World} {out k : Nat} {b : Sp.Bal} {p : Sp.Posting} {t : TypeId} (hB : Below w.heap.size w wr) (hrow : wr.row? w.heap.size = some #[.string (str p.id), .int .i64 p.order, .int .i64 p.debit, .int .i64 p.credit, .int .i64 p.amount])
    (hmap : MapAt Tryz.prog 156 pairEnc wr out (2 * k) (fun a => (Sp.mapAt b p k a).map (Value.int .i64))) :
    MovAt w out b p k wr.heap.size (wr.heap.size + 1) ((wr.alloc (.cells #[.int .i64 p.debit, .int .i64 (Sp.ordAt p k)] t)).alloc (.cells #[.int .i64 p.credit, .int .i64 (Sp.ordAt p k)] t)).drew ∧
    MovAt w out b p k (wr.heap.size + 1) wr.heap.size ((wr.alloc (.cells #[.int .i64 p.credit, .int .i64 (Sp.ordAt p k)] t)).alloc (.cells #[.int .i64 p.debit, .int .i64 (Sp.ordAt p k)] t)).drew := by
  have hlt := row?_lt hrow
  have e : ∀ o1 o2 : Obj, ((wr.alloc o1).alloc o2).drew.row? w.heap.size = wr.row? w.heap.size := fun o1 o2 => by
    rw [row?_drew, row?_alloc, if_neg (by simp; omega), row?_alloc, if_neg (by omega)]
  have e1 : ∀ cs o2, ((wr.alloc (.cells cs t)).alloc o2).drew.row? wr.heap.size = some cs := fun cs o2 => by
    rw [row?_drew, row?_alloc, if_neg (by simp), row?_alloc, if_pos rfl]; rfl
  have e2 : ∀ o1 cs, ((wr.alloc o1).alloc (.cells cs t)).drew.row? (wr.heap.size + 1) = some cs := fun o1 cs => by
    rw [row?_drew, row?_alloc, if_pos (by simp)]; rfl
  have hb : ∀ o1 o2 : Obj, Below w.heap.size w ((wr.alloc o1).alloc o2).drew := fun o1 o2 => ((hB.alloc hB.size o1).alloc (by have := hB.size; simp; omega) o2).drew
  exact ⟨⟨hb _ _, (e _ _).trans hrow, e1 _ _, e2 _ _, ((hmap.alloc _).alloc _).same rfl⟩, ⟨hb _ _, (e _ _).trans hrow, e2 _ _, e1 _ _, ((hmap.alloc _).alloc _).same rfl⟩⟩

def MovPost (w : World) (b : Sp.Bal) (p : Sp.Posting) (e : Ending) (w' : World) : Prop :=
  (if Sp.movesOk b p = true then ∃ k, e = .returned (.tuple #[.map (some k), .bool true]) ∧ w.heap.size ≤ k ∧ MapAt Tryz.prog 156 pairEnc w' k 4 (fun a => (Sp.mapAt b p 2 a).map (Value.int .i64))
       else e = .returned (.tuple #[.map none, .bool false])) ∧ Below w.heap.size w w'
theorem MovPost.no {w w' : World} {b : Sp.Bal} {p : Sp.Posting} {k : Nat} (h : Sp.stepOk b p (Sp.ordAt p k) = false) (hk : k < 2) (hb : Below w.heap.size w w') : MovPost w b p (.returned (.tuple #[.map none, .bool false])) w' := by
  have hn : ¬ Sp.movesOk b p = true := by
    have : k = 0 ∨ k = 1 := by omega
    rcases this with rfl | rfl
    · have h' : Sp.stepOk b p 0 = false := h
      simp [Sp.movesOk, h']
    · have h' : Sp.stepOk b p p.order = false := h
      simp [Sp.movesOk, h']
  exact ⟨by rw [if_neg hn], hb⟩
theorem MovPost.yes {w w' : World} {b : Sp.Bal} {p : Sp.Posting} {k : Nat} (h : Sp.movesOk b p = true) (hk : w.heap.size ≤ k) (hm : MapAt Tryz.prog 156 pairEnc w' k 4 (fun a => (Sp.mapAt b p 2 a).map (Value.int .i64))) (hb : Below w.heap.size w w') :
    MovPost w b p (.returned (.tuple #[.map (some k), .bool true])) w' := ⟨by rw [if_pos h]; exact ⟨k, rfl, hk, hm⟩, hb⟩
theorem keeps_drewN (W : World) (n : Nat) {B : Nat} : Below B W (W.drewN n) := ⟨rfl, rfl, rfl, Nat.le_refl _, fun _ _ => rfl⟩
theorem cells22 {W : World} {a c : Nat} {u v x y : Value} (h1 : W.row? a = some #[u, v]) (h2 : W.row? c = some #[x, y]) : W.cell? ⟨a, 0, none⟩ = some u ∧ W.cell? ⟨a, 1, none⟩ = some v ∧ W.cell? ⟨c, 0, none⟩ = some x ∧ W.cell? ⟨c, 1, none⟩ = some y :=
  ⟨(row2_cells h1).1, (row2_cells h1).2.1, (row2_cells h2).1, (row2_cells h2).2.1⟩
theorem mapAt_next (b : Sp.Bal) (p : Sp.Posting) {k : Nat} (hk : k < 2) (a : Int × Int) : (Sp.mapAt b p (k + 1) a).map (Value.int .i64) =
    if a = (p.credit, Sp.ordAt p k) then some (Value.int .i64 (b p.credit (Sp.ordAt p k) - p.amount)) else if a = (p.debit, Sp.ordAt p k) then some (Value.int .i64 (b p.debit (Sp.ordAt p k) + p.amount)) else (Sp.mapAt b p k a).map (Value.int .i64) := by
  have e : Sp.mapAt b p (k + 1) = Sp.stepMap b p (Sp.ordAt p k) (Sp.mapAt b p k) := by
    have : k = 0 ∨ k = 1 := by omega
    rcases this with rfl | rfl
    · rfl
    · rfl
  rw [e]
  unfold Sp.stepMap
  split
  · rfl
  · split <;> rfl
theorem RelMov.next {w W Wb Wc : World} {out k a c n : Nat} {b : Sp.Bal} {p : Sp.Posting} (hk : k < 2) (hW : MovAt w out b p k a c W) (hs : k = 1 → Sp.stepOk b p 0 = true) (hst : Sp.stepOk b p (Sp.ordAt p k) = true)
    (hgb : (W.drewN n).drew.grownBy Wb (some out)) (hgc : Wb.grownBy Wc (some out)) (hout : w.heap.size ≤ out)
    (hm : MapAt Tryz.prog 156 pairEnc Wc out (2 * k + 1 + 1) (fun x => if x = (p.credit, Sp.ordAt p k) then some (Value.int .i64 (b p.credit (Sp.ordAt p k) - p.amount)) else if x = (p.debit, Sp.ordAt p k) then some (Value.int .i64 (b p.debit (Sp.ordAt p k) + p.amount)) else (Sp.mapAt b p k x).map (Value.int .i64))) :
    RelMov w out b p (.int .i64 (k + 1)) Wc := by
  have hsz : (W.drewN n).drew.heap.size = W.heap.size := rfl
  have hlt := row?_lt hW.row
  obtain ⟨es, cl, hmm⟩ := hW.map.heap
  obtain ⟨e', he⟩ := row?_some hW.row
  have hne : w.heap.size ≠ out := ne_of_map he hmm
  refine ⟨k + 1, by omega, by simp, ?_, ?_, ?_, ?_, ?_⟩
  · refine Below.grown (Below.grown ((hW.low.trans (keeps_drewN _ n)).drew) hgb (by rw [hsz]; exact hW.low.size) (fun j hj => by cases hj; exact hout)) hgc ?_ (fun j hj => by cases hj; exact hout)
    have := hgb.size; rw [hsz] at this; exact Nat.le_trans hW.low.size this
  · rw [row?_congr (hgc.block _ (by have := hgb.size; rw [hsz] at this; omega) (fun e => hne (Option.some.inj e))), row?_congr (hgb.block _ (by rw [hsz]; exact hlt) (fun e => hne (Option.some.inj e)))]
    exact hW.row
  · have e : 2 * (k + 1) = 2 * k + 1 + 1 := by omega
    rw [e]
    exact hm.congr (fun x _ => mapAt_next b p hk x)
  · intro h; have : k = 0 := by omega
    subst this; exact hst
  · intro h; have : k = 1 := by omega
    subst this
    have h2 : Sp.stepOk b p p.order = true := hst
    simp [Sp.movesOk, hs rfl, h2]
theorem quietL {P : Program} {f : FuncId} {args : Array Value} {w : World} {n : Nat} {v : Value} (c : ∀ W : World, Calls P f args W fun e w' => e = .returned v ∧ W = w') :
    Calls P f args (w.drewN n) fun e w'' => e = .returned v ∧ ∃ m, w'' = w.drewN m := (c _).mono fun _ _ h => ⟨h.1, n, h.2.symm⟩
theorem quietL2 {P : Program} {f : FuncId} {args : Array Value} {w : World} {a n : Nat} {v : Value} (c : ∀ W : World, Calls P f args W fun e w' => e = .returned v ∧ W = w') :
    Calls P f args (w.drewN (a + n)) fun e w'' => e = .returned v ∧ ∃ m, w'' = w.drewN (a + m) := (c _).mono fun _ _ h => ⟨h.1, n, h.2.symm⟩
theorem wp_upd {P : Program} {Q : Exit → Act → World → Prop} {o : Oper} {a : Act} {w w1 : World} {K : Act → World → Prop} (m x v : Operand) {t : TypeId} {mv xv vv : Value} (hop : o.op = Op.mapUpdate t m x v)
    (hm : a.eval m = mv) (hx : a.eval x = xv) (hv : a.eval v = vv) (hr : (Instr.mapUpdate t mv xv vv).run P w = .ok () w1) (h : K (a.put o.dst undef) w1) : o.wp P a w K Q := by
  unfold Oper.wp
  simp [execOp, hop, hm, hx, hv, hr, Result.andThen]
  exact h
theorem BooksIs.look {w W : World} {base pb P Q : Nat} {v : Value} {b : Sp.Books} (h : BooksIs w base pb v P Q b) (hW : W.heap[Q]? = w.heap[Q]?) {x o : Int} (hx : Sp.in64 x = true) (ho : Sp.in64 o = true) :
    (Instr.lookup 104 (.map (some Q)) (.agg #[.int .i64 x, .int .i64 o]) false).run Tryz.prog W = .ok (.int .i64 (b.bal x o)) W := by
  obtain ⟨g, h1, h2⟩ := h.bals
  have hl := (h1.same hW).look slot_law Tryz.underlying104 (zero_i64 W) (a := (x, o)) (slot_key hx ho) false
  rw [if_neg (by simp), getD_int, h2] at hl
  exact hl
theorem sumOr_in {n : Int} (h : Sp.in64 n = true) : Sp.sumOr n = n := by simp [Sp.sumOr, h]
set_option maxRecDepth 100000 in
set_option maxHeartbeats 4000000 in
theorem moves_any (w : World) (base pb P Q : Nat) (v : Value) (b : Sp.Books) (p : Sp.Posting) (hb : BooksIs w base pb v P Q b) (hp : PostIn p) :
    Calls Tryz.prog 93 #[.pointer (some ⟨pb, 0, none⟩), postVal' p] w (MovPost w b.bal p) := by
  have hmm := @run_makeMap Tryz.prog
  obtain ⟨c0, c1, c2, _⟩ := hb.cells
  have hlb := hb.lt
  have HB := Lib.hid hb
  have HP := Lib.hid hp
  clear hb hp
  obtain ⟨id, order, debit, credit, amount⟩ := p
  simp only [postVal']
  go_enter Tryz.func93, Tryz.ntmps93
  go_wp2
  go_loopw [19] (fun x wr => RelMov w (w.heap.size + 1) b.bal ⟨id, order, debit, credit, amount⟩ x wr) (fun x _ => (2 - intOf x).toNat)
  case atStart =>
    refine ⟨0, by omega, rfl, (alloc_grew w _).alloc (by simp) _, by rw [row?_alloc, if_neg (by simp), row?_alloc, if_pos rfl]; rfl, ?_, by omega, by omega⟩
    have := mapAt_new (P := Tryz.prog) (k := 156) (enc := pairEnc) (w.alloc (.cells #[.string (str id), .int .i64 order, .int .i64 debit, .int .i64 credit, .int .i64 amount] 92))
    simpa [Sp.mapAt] using this
  case round =>
    obtain ⟨k, hk, rfl, hB, hrow, hmap, hs1, hs2⟩ := hrel
    have hB' := brow hB
    have hr := fun o => cell?_of_row? hrow o
    have hr1 := hr 1
    have hr2 := hr 2
    have hr3 := hr 3
    have hr4 := hr 4
    simp only [List.getElem?_toArray, List.getElem?_cons_succ, List.getElem?_cons_zero] at hr1 hr2 hr3 hr4
    have hlt := row?_lt hrow
    clear hr hB'
    replace hrow := Lib.hid hrow
    replace hmap := Lib.hid hmap
    replace hB := Lib.hid hB
    by_cases hk2 : k < 2
    · have hidx := fun w => idx2 ⟨id, order, debit, credit, amount⟩ k hk2 w
      obtain ⟨o, ho⟩ : ∃ o, o = Sp.ordAt ⟨id, order, debit, credit, amount⟩ k := ⟨_, rfl⟩
      have hst := MovAt.start (t := 156) hB.out hrow.out hmap.out
      rw [← ho] at hst hidx
      simp only at hst hidx
      replace hst := Lib.hid hst
      replace ho := Lib.hid ho
      go_wp2
      go_region
      all_goals go_wp2
      all_goals first
        | refine wp_world (MovAt w (w.heap.size + 1) b.bal ⟨id, order, debit, credit, amount⟩ k wr.heap.size (wr.heap.size + 1)) hst.out.1 ?_
        | refine wp_world (MovAt w (w.heap.size + 1) b.bal ⟨id, order, debit, credit, amount⟩ k (wr.heap.size + 1) wr.heap.size) hst.out.2 ?_
      all_goals
        clear hr1 hr2 hr3 hr4 hidx hrow hmap hB hst
        intro W hW
        clear hlt
        first
          | (have htok : MovAt w (w.heap.size + 1) b.bal ⟨id, order, debit, credit, amount⟩ k wr.heap.size (wr.heap.size + 1) W := hW; clear hW; generalize wr.heap.size + 1 = c at htok ⊢; generalize wr.heap.size = a at htok ⊢)
          | (have htok : MovAt w (w.heap.size + 1) b.bal ⟨id, order, debit, credit, amount⟩ k (wr.heap.size + 1) wr.heap.size W := hW; clear hW; generalize wr.heap.size + 1 = a at htok ⊢; generalize wr.heap.size = c at htok ⊢)
        have hW := htok
        have hr := fun o => cell?_of_row? hW.row o
        have hr4 := hr 4
        simp only [List.getElem?_toArray, List.getElem?_cons_succ, List.getElem?_cons_zero] at hr4
        have hA := hW.ra
        have hC := hW.rc
        simp only [← ho.out] at hA hC
        obtain ⟨hA0, hA1, _, _, _⟩ := row2_cells hA
        obtain ⟨hC0, hC1, _, _, _⟩ := row2_cells hC
        have hBc := (brow hW.low).1
        clear hr
        have hQ : W.heap[Q]? = w.heap[Q]? := hW.low.block Q hlb.2.2.1
        have hoi : Sp.in64 o = true := by
          rw [ho.out]; unfold Sp.ordAt; split
          · rfl
          · exact HP.out.order
        have hl6 := fun n => HB.out.look (W := W.drewN n) hQ HP.out.debit hoi
        have hl7 := fun n => HB.out.look (W := W.drewN n) hQ HP.out.credit hoi
        have hX := HB.out.inb debit o
        have hY := HB.out.inb credit o
        have ham := HP.out.amount
        simp only at hl6 hl7 ham
        obtain ⟨X, eX⟩ : ∃ X, Hid (X = b.bal debit o) := ⟨_, rfl⟩
        obtain ⟨Y, eY⟩ : ∃ Y, Hid (Y = b.bal credit o) := ⟨_, rfl⟩
        rw [← eX.out] at hl6 hX
        rw [← eY.out] at hl7 hY
        replace hX := Lib.hid hX
        replace hY := Lib.hid hY
        replace ham := Lib.hid ham
        replace hW := Lib.hid hW
        clear hQ
        have hl7' := fun n m => HB.out.look (W := (W.drewN n).drewN m) (by exact hW.out.low.block Q hlb.2.2.1) HP.out.credit hoi
        simp only [← eY.out] at hl7'
        cases h1 : Sp.in64 (X + amount)
        · have hno : Hid (Sp.stepOk b.bal ⟨id, order, debit, credit, amount⟩ (Sp.ordAt ⟨id, order, debit, credit, amount⟩ k) = false) := Lib.hid (by
            rw [← ho.out]; unfold Sp.stepOk; simp only; rw [← eX.out, h1]; rfl)
          go_quiet ((go_at_call 118; exact quietL (fun W => Add_any X amount W hX.out ham.out)))
          go_wp2
          go_quiet ((go_at_call 119; exact quietL2 (fun W => Sub_any Y amount W hY.out ham.out)))
          go_wp2
          all_goals
            go_ret2
            exact MovPost.no hno.out hk2 (hW.out.low.trans (keeps_drewN _ _))
        · cases h2 : Sp.in64 (Y - amount)
          · have hno : Hid (Sp.stepOk b.bal ⟨id, order, debit, credit, amount⟩ (Sp.ordAt ⟨id, order, debit, credit, amount⟩ k) = false) := Lib.hid (by
              rw [← ho.out]; unfold Sp.stepOk; simp only; rw [← eY.out, h2]; simp)
            go_quiet ((go_at_call 118; exact quietL (fun W => Add_any X amount W hX.out ham.out)))
            go_wp2
            go_quiet ((go_at_call 119; exact quietL2 (fun W => Sub_any Y amount W hY.out ham.out)))
            go_wp2
            all_goals
              go_ret2
              exact MovPost.no hno.out hk2 (hW.out.low.trans (keeps_drewN _ _))
          · have hsm1 := sumOr_in h1
            have hsm2 := sumOr_in h2
            go_quiet ((go_at_call 118; exact quietL (fun W => Add_any X amount W hX.out ham.out)))
            go_wp2
            go_quiet ((go_at_call 119; exact quietL2 (fun W => Sub_any Y amount W hY.out ham.out)))
            go_wp2
            refine wp_world (fun W' => ∃ n, W' = W.drewN n) ⟨_, rfl⟩ ?_
            rintro W1 ⟨n1, rfl⟩
            clear hl6 hl7 hl7' hsm1 hsm2 c0 c1 c2 hBc hr4
            have hma : MapAt Tryz.prog 156 pairEnc (W.drewN n1).drew (w.heap.size + 1) (2 * k) (fun a => (Sp.mapAt b.bal ⟨id, order, debit, credit, amount⟩ k a).map (Value.int .i64)) := hW.out.map.same rfl
            obtain ⟨Wb, hrb, hmb, hgb⟩ := hma.put slot_law Tryz.underlying104 (by unfold maxLen; omega) pairEnc_inj (a := (debit, o)) (slot_key HP.out.debit hoi) (.int .i64 (X + amount))
            obtain ⟨Wc, hrc, hmc, hgc⟩ := hmb.put slot_law Tryz.underlying104 (by unfold maxLen; omega) pairEnc_inj (a := (credit, o)) (slot_key HP.out.credit hoi) (.int .i64 (Y - amount))
            have hA' : (W.drewN n1).drew.row? a = some #[.int .i64 debit, .int .i64 o] := hA
            have hC' : (W.drewN n1).drew.row? c = some #[.int .i64 credit, .int .i64 o] := hC
            have hm := hW.out.map.heap
            have hAb : Wb.row? a = some #[.int .i64 debit, .int .i64 o] := by
              rw [row?_congr (hgb.block a (row?_lt hA') (fun e => by
                obtain ⟨es, cl, hm⟩ := hm
                obtain ⟨e', he⟩ := row?_some hA
                exact ne_of_map he hm (Option.some.inj e)))]; exact hA'
            have hCb : Wb.row? c = some #[.int .i64 credit, .int .i64 o] := by
              rw [row?_congr (hgb.block c (row?_lt hC') (fun e => by
                obtain ⟨es, cl, hm⟩ := hm
                obtain ⟨e', he⟩ := row?_some hC
                exact ne_of_map he hm (Option.some.inj e)))]; exact hC'
            simp only [pairEnc] at hrb hrc
            replace hrb := Lib.hid hrb
            replace hrc := Lib.hid hrc
            replace hmc := Lib.hid hmc
            clear hm hma hmb hA0 hA1 hC0 hC1 hA hC
            have hS0 := Lib.hid (cells22 hA' hC')
            have hS1 := Lib.hid (cells22 hAb hCb)
            clear hA' hC' hAb hCb
            refine any_begin (S := (fun W' => W'.cell? ⟨a, 0, none⟩ = some (.int .i64 debit) ∧ W'.cell? ⟨a, 1, none⟩ = some (.int .i64 o) ∧ W'.cell? ⟨c, 0, none⟩ = some (.int .i64 credit) ∧ W'.cell? ⟨c, 1, none⟩ = some (.int .i64 o))) 7 (by kernel_rfl) ?_ (fun hHeld => ?_)
            focus (first | exact hS0.out | exact hS1.out)
            have hq := plan [0, 1, 2, 3, 4, 5]
            iterate 6 (refine tk hq ?_ rfl (by kernel_rfl) (by assumption) (by rfl) (fun _ _ _ h => h) ?hy ?_; (case hy => (intro w hSw; (try dsimp only at hSw); go_simp; (try with_reducible rfl))); replace hq := hq.tl; (try simp only [Act.put, yA, yB, yC]))
            clear hq
            refine ao 6 rfl (by kernel_rfl) (by rfl) (fun K hK => ?_)
            refine wp_upd (.tmp 60) (.tmp 61) (.tmp 64) rfl rfl rfl rfl hrb.out ?_
            refine hK.out _ _ ?_ (fun hHeld => ?_)
            focus (first | exact hS0.out | exact hS1.out)
            clear hK K
            (try simp only [Act.put, yA, yB, yC])
            refine al 7 rfl (by kernel_rfl) rfl (by rfl) (fun K hK => ?_)
            refine wp_upd (.tmp 62) (.tmp 63) (.tmp 65) rfl rfl rfl rfl hrc.out ?_
            refine hK.out _ _ ?_
            clear hK K
            (try simp only [Act.put, yA, yB, yC])
            go_wp2
            go_roundw
            case rel => exact RelMov.next hk2 hW.out hs1 (by rw [← ho.out]; unfold Sp.stepOk; simp only; rw [← eX.out, ← eY.out, h1, h2]; rfl) hgb hgc (by omega) (by rw [← ho.out]; simp only; rw [← eX.out, ← eY.out]; exact hmc.out)
            case measure => simp [intOf]; omega
    · have hk3 : k = 2 := by omega
      subst hk3
      have hyes := hs2 rfl
      replace hyes := Lib.hid hyes
      clear hs1 hs2 hk2
      go_wp2
      go_ret2
      exact MovPost.yes hyes.out (by omega) hmap.out hB.out
end Go.Proofs.YtkgpnikmdmpfaaaGreatDoor

/-
  The walk of rows.Get.
-/
import Derived.Test.YtkgpnikmdmpfaaaGreatDoorBackP5
set_option linter.unusedVariables false
set_option linter.unusedSimpArgs false
namespace Go.Proofs.YtkgpnikmdmpfaaaGreatDoor
open Go.RowKit

abbrev rdN (s : Bytes) (ok : Bool) : Int × Bytes × Bool := rdMost 1099511627776 s ok
/-- One row. -/
def rdRow (s : Bytes) (ok : Bool) : Sp.Row × Bytes × Bool :=
  let a := rdN s ok
  let b := rdN a.2.1 a.2.2
  let c := rdN b.2.1 b.2.2
  let d := rdN c.2.1 c.2.2
  let e := rdN d.2.1 d.2.2
  (⟨a.1, b.1, c.1, d.1, e.1⟩, e.2)
def rdRows : Nat → Int → Bytes → Bool → List Sp.Row → List Sp.Row × Bytes × Bool
  | 0, _, s, ok, acc => (acc, s, ok)
  | f + 1, n, s, ok, acc =>
    if 0 < n ∧ ok = true ∧ acc.length ≤ 400 then rdRows f (n - 1) (rdRow s ok).2.1 (rdRow s ok).2.2 (acc ++ [(rdRow s ok).1])
    else (acc, s, ok)
theorem rdRows_stop {f : Nat} {n : Int} {s : Bytes} {ok : Bool} {acc : List Sp.Row} {r : List Sp.Row × Bytes × Bool} (hC : ¬(0 < n ∧ ok = true ∧ acc.length ≤ 400)) (h : rdRows f n s ok acc = r) : (acc, s, ok) = r := by
  cases f with
  | zero => exact h
  | succ f => rw [rdRows, if_neg hC] at h; exact h
def stmtRead (s : Bytes) : Int × Int × List Sp.Row × Bytes × Bool :=
  let a := rdN s true
  let b := rdN a.2.1 a.2.2
  let c := rdN b.2.1 b.2.2
  (a.1, b.1, rdRows 402 c.1 c.2.1 c.2.2 [])
def stmtGood (s : Bytes) : Bool := (stmtRead s).2.2.2.2 && (stmtRead s).2.2.2.1.isEmpty && stmtOk (stmtRead s).1 (stmtRead s).2.1 (stmtRead s).2.2.1
/-- rows.Get. -/
def stmtGet (s : Bytes) : Option (Int × Int × List Sp.Row) := if stmtGood s then some ((stmtRead s).1, (stmtRead s).2.1, (stmtRead s).2.2.1) else none
def StmtAt (w : World) (x : Value) (r : Int × Int × List Sp.Row) : Prop := ∃ v, x = .agg #[.int .i64 r.1, .int .i64 r.2.1, v] ∧ RowsAt w v r.2.2
def stmtGetRes (r : Option (Int × Int × List Sp.Row)) (e : Ending) (w : World) : Prop :=
  ∃ x, e = .returned (.tuple #[x, .int .i64 (if r.isSome then 0 else 10)]) ∧ StmtAt w x (r.getD (0, 0, []))

theorem Rd.alloc {w : World} {p : Nat} {s : Bytes} {ok : Bool} (h : Rd w p s ok) (o : Obj) : Rd (w.alloc o) p s ok := by
  unfold Rd at *
  rw [row?_alloc, if_neg (by have := row?_lt h; omega)]; exact h
theorem flat_at : ∀ (l : List Sp.Row) (i : Nat) (x : Sp.Row), l[i]? = some x → ∀ j u, (rowCells x)[j]? = some u → (l.flatMap rowCells)[i * 5 + j]? = some u
  | [], i, x, h, _, _, _ => by simp at h
  | a :: t, 0, x, h, j, u, hj => by
    simp at h
    subst h
    rw [List.flatMap_cons, Nat.zero_mul, Nat.zero_add, List.getElem?_append_left (List.getElem?_eq_some_iff.1 hj).1]
    exact hj
  | a :: t, i + 1, x, h, j, u, hj => by
    have h5 : (rowCells a).length = 5 := rfl
    rw [List.flatMap_cons, List.getElem?_append_right (by rw [h5]; omega), h5, show (i + 1) * 5 + j - 5 = i * 5 + j by omega]
    exact flat_at t i x (by simpa using h) j u hj
theorem Slc.other {α : Type} {enc : α → List Value} {size : Nat} {w w' : World} {v : Value} {l : List α} {k : Nat} (h : Slc enc size w v l) (hne : v.ownBlock ≠ some k) (hg : w.grownBy w' (some k)) : Slc enc size w' v l := by
  rcases h with h | ⟨b, cap, rfl, h2, h3, h4⟩
  · exact .inl h
  · have hb : some b ≠ some k := by simpa [Value.ownBlock] using hne
    exact .inr ⟨b, cap, rfl, h2, by have := hg.size; omega, fun i x hx j u hu => hg.cell (h4 i x hx j u hu) hb⟩
theorem slc_own {w : World} {base n : Nat} {e : TypeId} {v : Value} {l : List Sp.Row} (h : w.ownsRow base e 5 v n (l.flatMap rowCells)) (hn : n = l.length) : RowsAt w v l := by
  subst hn
  rcases h.2 with ⟨rfl, h0⟩ | ⟨g, cap, cur, rfl, hb, hg, hcap, _, _, htake⟩
  · exact .inl ⟨rfl, List.eq_nil_of_length_eq_zero h0⟩
  · refine .inr ⟨g, cap, rfl, hcap, (Array.getElem?_eq_some_iff.1 hg).1, fun i x hi j u hj => ?_⟩
    have hc := h.cells (g := g) rfl (i * 5 + j) u (flat_at l i x hi j u hj)
    rw [add_plain] at hc
    exact hc

theorem rdRow_def (s : Bytes) (ok : Bool) : rdRow s ok =
    (let a := rdMost 1099511627776 s ok
     let b := rdMost 1099511627776 a.2.1 a.2.2
     let c := rdMost 1099511627776 b.2.1 b.2.2
     let d := rdMost 1099511627776 c.2.1 c.2.2
     let e := rdMost 1099511627776 d.2.1 d.2.2
     ((⟨a.1, b.1, c.1, d.1, e.1⟩ : Sp.Row), e.2)) := rfl
theorem own_slice' {W : World} {base size n : Nat} {e : TypeId} {v : Value} {xs : List Value} (h : W.ownsRow base e size v n xs) : ∃ p c, v = .slice p n c := by
  rcases h.2 with ⟨rfl, h0⟩ | ⟨g, cap, cur, rfl, _⟩
  · exact ⟨_, _, by rw [h0]⟩
  · exact ⟨_, _, rfl⟩
theorem row3_cells {w : World} {p : Nat} {a b c : Value} (hp : w.row? p = some #[a, b, c]) : w.cell? ⟨p, 0, none⟩ = some a ∧ w.cell? ⟨p, 1, none⟩ = some b ∧ w.cell? ⟨p, 2, none⟩ = some c ∧ w.frozen? ⟨p, 2, none⟩ = false ∧ p < w.heap.size :=
  ⟨by rw [cell?_of_row? hp]; rfl, by rw [cell?_of_row? hp]; rfl, by rw [cell?_of_row? hp]; rfl, frozen?_of_row? hp _, row?_lt hp⟩

theorem info_row : (Tryz.prog.info? 127).map (fun i => (i.zero, i.size, i.bytes)) = some (some (.agg #[.int .i64 0, .int .i64 0, .int .i64 0, .int .i64 0, .int .i64 0]), 5, 40) := by kernel_rfl
theorem getS {w1 w2 : World} {T K : Nat} {c k0 k1 : Value} {row : Option Nat} (h : w1.cell? ⟨T, 2, none⟩ = some c ∧ w1.frozen? ⟨T, 2, none⟩ = false ∧ w1.cell? ⟨K, 0, none⟩ = some k0 ∧ w1.cell? ⟨K, 1, none⟩ = some k1)
    (hg : w1.grownBy w2 row) (hT : some T ≠ row) (hK : some K ≠ row) : w2.cell? ⟨T, 2, none⟩ = some c ∧ w2.frozen? ⟨T, 2, none⟩ = false ∧ w2.cell? ⟨K, 0, none⟩ = some k0 ∧ w2.cell? ⟨K, 1, none⟩ = some k1 := by
  obtain ⟨h0, h1, h2, h3⟩ := h
  have hTl := World.block_lt_of_cell? w1 _ h0
  have hb := hg.block T hTl hT
  refine ⟨hg.cell h0 hT, ?_, hg.cell h2 hK, hg.cell h3 hK⟩
  rw [World.frozen?_of_block (w := w1) (a := ⟨T, 2, none⟩) hb]; exact h1
theorem getS0 {W : World} {T : Nat} {c : Value} {ty : TypeId} (h0 : W.cell? ⟨T, 2, none⟩ = some c) (h1 : W.frozen? ⟨T, 2, none⟩ = false) (k0 k1 : Value) :
    (W.alloc (.cells #[k0, k1] ty)).drew.cell? ⟨T, 2, none⟩ = some c ∧ (W.alloc (.cells #[k0, k1] ty)).drew.frozen? ⟨T, 2, none⟩ = false ∧
    (W.alloc (.cells #[k0, k1] ty)).drew.cell? ⟨W.heap.size, 0, none⟩ = some k0 ∧ (W.alloc (.cells #[k0, k1] ty)).drew.cell? ⟨W.heap.size, 1, none⟩ = some k1 := by
  have hTl : T < W.heap.size := World.block_lt_of_cell? W _ h0
  refine ⟨heldc (Grew.drew (alloc_grew _ _)) h0, ?_, ?_, ?_⟩
  · show (W.alloc _).frozen? _ = _
    rw [World.frozen?_of_block (w := W) (a := ⟨T, 2, none⟩) (heap_alloc_old W _ hTl)]; exact h1
  · show (W.alloc _).cell? _ = _
    rw [cell_of_row _ _ _ _ _ (0, 0) (heap_alloc_new W _)]; rfl
  · show (W.alloc _).cell? _ = _
    rw [cell_of_row _ _ _ _ _ (0, 0) (heap_alloc_new W _)]; rfl

/-- What holds while the rows are read: the statement's variable at t, the reader at p, the rows' own array. -/
structure GI (w W : World) (p t : Nat) (party seq : Int) (v : Value) (acc : List Sp.Row) : Prop where
  row : W.row? t = some #[.int .i64 party, .int .i64 seq, v]
  own : W.ownsRow (t + 1) 127 5 v acc.length (acc.flatMap rowCells)
  low : Below w.heap.size w W
  tl : t < W.heap.size
  row0 : W.row? w.heap.size = some #[.int .i64 0, .int .i64 0, .slice none 0 0]
  ord : w.heap.size < p ∧ p < t
theorem own_not {W : World} {base size n : Nat} {e : TypeId} {v : Value} {xs : List Value} (h : W.ownsRow base e size v n xs) {k : Nat} (hk : k < base) : v.ownBlock ≠ some k := fun he => by
  have := (h.lt k he).1; omega
theorem GI.next {w W W' : World} {p t : Nat} {party seq : Int} {v : Value} {acc : List Sp.Row} (h : GI w W p t party seq v acc) (hg : W.grownBy W' (some p)) : GI w W' p t party seq v acc where
  row := by rw [row?_congr (hg.block t h.tl (by have := h.ord; simp; omega))]; exact h.row
  own := h.own.kept hg (.inr (own_not h.own (by have := h.ord; omega)))
  low := below_rd h.low hg h.low.size (by have := h.ord; omega)
  tl := Nat.lt_of_lt_of_le h.tl hg.size
  row0 := by rw [row?_congr (hg.block _ (row?_lt h.row0) (by have := h.ord; simp; omega))]; exact h.row0
  ord := h.ord
theorem GI.alloc {w W : World} {p t : Nat} {party seq : Int} {v : Value} {acc : List Sp.Row} (h : GI w W p t party seq v acc) (o : Obj) : GI w (W.alloc o) p t party seq v acc where
  row := by rw [row?_alloc, if_neg (by have := h.tl; omega)]; exact h.row
  own := h.own.alloc o
  low := h.low.alloc h.low.size o
  tl := by have := h.tl; simp; omega
  row0 := by rw [row?_alloc, if_neg (by have := row?_lt h.row0; omega)]; exact h.row0
  ord := h.ord
theorem GI.drew {w W : World} {p t : Nat} {party seq : Int} {v : Value} {acc : List Sp.Row} (h : GI w W p t party seq v acc) : GI w W.drew p t party seq v acc := ⟨h.row, h.own, h.low.drew, h.tl, h.row0, h.ord⟩
theorem GI.store {w W W' : World} {p t : Nat} {party seq : Int} {v v1 : Value} {acc : List Sp.Row} {r : Sp.Row} {s : Bytes} {ok : Bool} (h : GI w W p t party seq v acc) (hrd : Rd W p s ok) (hg : W.grownBy W' v.ownBlock)
    (ho : W'.ownsRow (t + 1) 127 5 v1 (acc.length + 1) (acc.flatMap rowCells ++ rowCells r)) :
    GI w (W'.setCell ⟨t, 2, none⟩ v1) p t party seq v1 (acc ++ [r]) ∧ Rd (W'.setCell ⟨t, 2, none⟩ v1) p s ok := by
  have hord := h.ord
  have hsz := hg.size
  have hr : W'.row? t = some #[.int .i64 party, .int .i64 seq, v] := by rw [row?_congr (hg.block t h.tl (fun e => own_not h.own (Nat.lt_succ_self t) e.symm))]; exact h.row
  refine ⟨⟨?_, ?_, ?_, ?_, ?_, hord⟩, ?_⟩
  · rw [row?_setCell, if_pos rfl, hr]; rfl
  · have := ownsRow_setCell_below ho (a := ⟨t, 2, none⟩) (Nat.lt_succ_self t) v1
    simpa using this
  · exact (h.low.grown hg h.low.size (fun k hk => by have := (h.own.lt k hk).1; omega)).setCell (by show w.heap.size ≤ t; omega) _
  · have := h.tl; simp [World.setCell]; omega
  · rw [row?_setCell, if_neg (by omega), row?_congr (hg.block _ (row?_lt h.row0) (fun e => own_not h.own (by omega) e.symm))]; exact h.row0
  · unfold Rd at *
    rw [row?_setCell, if_neg (by omega), row?_congr (hg.block p (row?_lt hrd) (fun e => own_not h.own (by omega) e.symm))]; exact hrd

def RelGet (w : World) (p t : Nat) (party seq : Int) (all : List Sp.Row × Bytes × Bool) (len : Nat) (x : Value) (wr : World) : Prop :=
  ∃ (n : Int) (s : Bytes) (ok : Bool) (acc : List Sp.Row) (v : Value) (f : Nat), x = .int .i64 n ∧ -1099511627777 ≤ n ∧ n ≤ 1099511627776 ∧ Rd wr p s ok ∧ s.length ≤ len ∧
    GI w wr p t party seq v acc ∧ f + acc.length = 402 ∧ rdRows f n s ok acc = all
set_option maxRecDepth 100000 in
set_option maxHeartbeats 8000000 in
theorem stmtGet_any (s : Bytes) (w : World) (hp : Parties w) (hs : s.length ≤ 4611686018427387900) :
    Calls Tryz.prog 81 #[.string (str s)] w fun e w' => stmtGetRes (stmtGet s) e w' ∧ Below w.heap.size w w' := by
  have hR : stmtRead s = stmtRead s := rfl
  have hG : stmtGood s = stmtGood s := rfl
  conv at hR => lhs; unfold stmtRead
  conv at hG => lhs; unfold stmtGood
  rcases h1 : rdN s true with ⟨party, s1, k1⟩
  obtain ⟨q1, q11, q12⟩ : s1.length ≤ s.length ∧ 0 ≤ party ∧ party ≤ 1099511627776 := by have := rdMost_len 1099511627776 s true (by omega); rw [show rdMost 1099511627776 s true = _ from h1] at this; exact this
  rcases h2 : rdN s1 k1 with ⟨seq, s2, k2⟩
  obtain ⟨q2, q21, q22⟩ : s2.length ≤ s1.length ∧ 0 ≤ seq ∧ seq ≤ 1099511627776 := by have := rdMost_len 1099511627776 s1 k1 (by omega); rw [show rdMost 1099511627776 s1 k1 = _ from h2] at this; exact this
  rcases h3 : rdN s2 k2 with ⟨n3, s3, k3⟩
  obtain ⟨q3, q31, q32⟩ : s3.length ≤ s2.length ∧ 0 ≤ n3 ∧ n3 ≤ 1099511627776 := by have := rdMost_len 1099511627776 s2 k2 (by omega); rw [show rdMost 1099511627776 s2 k2 = _ from h3] at this; exact this
  rcases h4 : rdRows 402 n3 s3 k3 [] with ⟨all, sR, kR⟩
  simp only [h1, h2, h3, h4] at hR
  rw [← hR] at hG
  simp only at hG
  have hO : stmtGet s = if stmtGood s then some (party, seq, all) else none := by unfold stmtGet; rw [← hR]
  rw [hO]
  clear hO hR
  replace h1 := Lib.hid (show rdMost 1099511627776 s true = (party, s1, k1) from h1)
  replace h2 := Lib.hid (show rdMost 1099511627776 s1 k1 = (seq, s2, k2) from h2)
  replace h3 := Lib.hid (show rdMost 1099511627776 s2 k2 = (n3, s3, k3) from h3)
  replace h4 := Lib.hid h4
  replace hp := Lib.hid hp
  generalize stmtGood s = good at hG
  replace hG := Lib.hid hG
  go_enter Tryz.func81, Tryz.ntmps81
  go_wp2_with (first
      | (go_at_call 115; refine Calls.mono (rowNext_any _ s2 k2 _ ?_ (by omega)) ?_; (focus (first | with_reducible assumption | (refine Rd.alloc ?_ _; with_reducible assumption) | (simp [Rd, row?_alloc, objRow]; done))); rw [h3.out]; rintro e wc ⟨rfl, hg, hrdwc⟩; obtain ⟨hcwc, hfwc, hrwc, hz, hlt⟩ := brd hg hrdwc; (try simp at hz); have hltwc : w.heap.size < wc.heap.size := (by omega); have hBwc : Below w.heap.size w wc := (below_rd (by first | assumption | (repeat (first | (with_reducible first | exact zR _ _ | exact zA _ _ | assumption | refine zL ?_ _ | refine zD ?_ | refine zN ?_ _) | ((with_reducible first | refine zC ?_ ?_ _ | refine zW ?_ ?_ _); rotate_left; focus (first | exact Nat.le_refl _ | (simp; done) | (simp; omega) | omega)) | with_reducible refine zT ?_ (by assumption)))) hg (by first | omega | (simp; done) | (simp; omega)) (by omega)); simp only)
      | (go_at_call 115; refine Calls.mono (rowNext_any _ s1 k1 _ ?_ (by omega)) ?_; (focus (first | with_reducible assumption | (refine Rd.alloc ?_ _; with_reducible assumption) | (simp [Rd, row?_alloc, objRow]; done))); rw [h2.out]; rintro e wb ⟨rfl, hg, hrdwb⟩; obtain ⟨hcwb, hfwb, hrwb, hz, hlt⟩ := brd hg hrdwb; (try simp at hz); have hltwb : w.heap.size < wb.heap.size := (by omega); have hBwb : Below w.heap.size w wb := (below_rd (by first | assumption | (repeat (first | (with_reducible first | exact zR _ _ | exact zA _ _ | assumption | refine zL ?_ _ | refine zD ?_ | refine zN ?_ _) | ((with_reducible first | refine zC ?_ ?_ _ | refine zW ?_ ?_ _); rotate_left; focus (first | exact Nat.le_refl _ | (simp; done) | (simp; omega) | omega)) | with_reducible refine zT ?_ (by assumption)))) hg (by first | omega | (simp; done) | (simp; omega)) (by omega)); simp only)
      | (go_at_call 115; refine Calls.mono (rowNext_any _ s true _ ?_ (by omega)) ?_; (focus (first | with_reducible assumption | (refine Rd.alloc ?_ _; with_reducible assumption) | (simp [Rd, row?_alloc, objRow]; done))); rw [h1.out]; rintro e wa ⟨rfl, hg, hrdwa⟩; obtain ⟨hcwa, hfwa, hrwa, hz, hlt⟩ := brd hg hrdwa; (try simp at hz); have hltwa : w.heap.size < wa.heap.size := (by omega); have hBwa : Below w.heap.size w wa := (below_rd (by first | assumption | (repeat (first | (with_reducible first | exact zR _ _ | exact zA _ _ | assumption | refine zL ?_ _ | refine zD ?_ | refine zN ?_ _) | ((with_reducible first | refine zC ?_ ?_ _ | refine zW ?_ ?_ _); rotate_left; focus (first | exact Nat.le_refl _ | (simp; done) | (simp; omega) | omega)) | with_reducible refine zT ?_ (by assumption)))) hg (by first | omega | (simp; done) | (simp; omega)) (by omega)); simp only))
  have hrt : wc.row? wb.heap.size = some #[.int .i64 party, .int .i64 seq, .slice none 0 0] := by
    rw [hrwc, if_neg (by omega), if_pos (by simp), row?_alloc, if_pos rfl]; rfl
  have hr0 : wc.row? w.heap.size = some #[.int .i64 0, .int .i64 0, .slice none 0 0] := by
    rw [hrwc, if_neg (by omega), if_pos (by simp; omega), row?_alloc, if_neg (by omega), hrwb, if_neg (by omega), if_pos (by omega), hrwa, if_neg (by omega), if_pos (by simp; omega), row?_alloc, if_neg (by simp), row?_alloc, if_pos rfl]; rfl
  have hwt : wb.heap.size < wc.heap.size := by omega
  have hrdc : Rd wc (w.heap.size + 1) s3 k3 := by assumption
  clear hcwa hfwa hrwa hcwb hfwb hrwb hcwc hfwc hrwc
  replace hBwc := Lib.hid hBwc
  replace hr0 := Lib.hid hr0
  replace hrt := Lib.hid hrt
  replace hrdc := Lib.hid hrdc
  go_loopw [6] (fun x wr => RelGet w (w.heap.size + 1) wb.heap.size party seq (all, sR, kR) s.length x wr) (fun x _ => (intOf x).toNat)
  case atStart => exact ⟨n3, s3, k3, [], .slice none 0 0, 402, rfl, by omega, by omega, hrdc.out, by omega, ⟨hrt.out, World.ownsRow_nil _ _ _ _, hBwc.out, hwt, hr0.out, by omega⟩, rfl, h4.out⟩
  case round =>
    obtain ⟨n, sx, ok, acc, v, f, rfl, hn0, hn1, hrd, hsl, hG1, hfa, HR⟩ := hrel
    by_cases hC : 0 < n ∧ ok = true ∧ acc.length ≤ 400
    · obtain ⟨hn, rfl, hacc⟩ := hC
      obtain ⟨f, rfl⟩ : ∃ g, f = g + 1 := ⟨f - 1, by omega⟩
      rw [rdRows, if_pos ⟨hn, rfl, hacc⟩] at HR
      have hrow := rdRow_def sx true
      rcases e1 : rdMost 1099511627776 sx true with ⟨a1, x1, j1⟩
      have p1 := rdMost_len 1099511627776 sx true (by omega)
      rw [e1] at p1 hrow
      simp only at hrow
      rcases e2 : rdMost 1099511627776 x1 j1 with ⟨a2, x2, j2⟩
      have p2 := rdMost_len 1099511627776 x1 j1 (by omega)
      rw [e2] at p2 hrow
      simp only at hrow
      rcases e3 : rdMost 1099511627776 x2 j2 with ⟨a3, x3, j3⟩
      have p3 := rdMost_len 1099511627776 x2 j2 (by omega)
      rw [e3] at p3 hrow
      simp only at hrow
      rcases e4 : rdMost 1099511627776 x3 j3 with ⟨a4, x4, j4⟩
      have p4 := rdMost_len 1099511627776 x3 j3 (by omega)
      rw [e4] at p4 hrow
      simp only at hrow
      rcases e5 : rdMost 1099511627776 x4 j4 with ⟨a5, x5, j5⟩
      have p5 := rdMost_len 1099511627776 x4 j4 (by omega)
      rw [e5] at p5 hrow
      simp only at hrow p1 p2 p3 p4 p5
      rw [hrow] at HR
      simp only at HR
      obtain ⟨p1, p11, p12⟩ := p1
      obtain ⟨p2, p21, p22⟩ := p2
      obtain ⟨p3, p31, p32⟩ := p3
      obtain ⟨p4, p41, p42⟩ := p4
      obtain ⟨p5, p51, p52⟩ := p5
      clear hrow
      replace e1 := Lib.hid e1
      replace e2 := Lib.hid e2
      replace e3 := Lib.hid e3
      replace e4 := Lib.hid e4
      replace e5 := Lib.hid e5
      replace HR := Lib.hid HR
      obtain ⟨q1, q3, rfl⟩ := own_slice' hG1.own
      obtain ⟨hr0, hr1, hfr0, hfr1, hltr⟩ := row2_cells hrd
      obtain ⟨ht0, ht1, ht2, hft, hltt⟩ := row3_cells hG1.row
      have hne1 : (Value.slice q1 acc.length q3).ownBlock ≠ some wb.heap.size := own_not hG1.own (Nat.lt_succ_self _)
      replace hG1 := Lib.hid hG1
      replace hne1 := Lib.hid hne1
      go_wp2_with (first | (go_at_call 115; refine Calls.mono (rowNext_any _ x1 j1 _ ?_ (by omega)) ?_; (focus (first | with_reducible assumption | (refine Rd.alloc ?_ _; with_reducible assumption))); rw [e2.out]; rintro e we ⟨rfl, hgwe, hrdwe⟩; simp only; have hGe := hGd.out.next hgwe; obtain ⟨hce0, hce1, hfe0, hfe1, hlte⟩ := row2_cells hrdwe; obtain ⟨hte0, hte1, hte2, hfte, hltt⟩ := row3_cells hGe.row; replace hGe := Lib.hid hGe) | (go_at_call 115; refine Calls.mono (rowNext_any _ sx true _ ?_ (by omega)) ?_; (focus (first | with_reducible assumption | (refine Rd.alloc ?_ _; with_reducible assumption))); rw [e1.out]; rintro e wd ⟨rfl, hgwd, hrdwd⟩; simp only; have hGd := Lib.hid (hG1.out.next hgwd)))
      have hne2 : (Value.slice q1 acc.length q3).ownBlock ≠ some we.heap.size := fun he => by have := (hGe.out.own.lt _ he).2; omega
      replace hne2 := Lib.hid hne2
      have hTp := Lib.hid (show some wb.heap.size ≠ some (w.heap.size + 1) by simp; omega)
      have hKp := Lib.hid (show some we.heap.size ≠ some (w.heap.size + 1) by simp; omega)
      have hRd0 := Lib.hid (show Rd (we.alloc (.cells #[.int .i64 a1, .int .i64 a2] 34)).drew (w.heap.size + 1) x2 j2 from Rd.alloc hrdwe _)
      have hS0 := getS0 (ty := 34) hte2 hfte (.int .i64 a1) (.int .i64 a2)
      have hGf := Lib.hid ((hGe.out.alloc (.cells #[.int .i64 a1, .int .i64 a2] 34)).drew)
      refine any_begin (S := (fun w' => w'.cell? ⟨wb.heap.size, 2, none⟩ = some (.slice q1 acc.length q3) ∧ w'.frozen? ⟨wb.heap.size, 2, none⟩ = false ∧ w'.cell? ⟨we.heap.size, 0, none⟩ = some (.int .i64 a1) ∧ w'.cell? ⟨we.heap.size, 1, none⟩ = some (.int .i64 a2))) 13 (by kernel_rfl) ?_ (fun hHeld => ?_)
      focus (first | with_reducible exact hS0 | exact getS (by with_reducible assumption) (by with_reducible assumption) hTp.out hKp.out | exact getS (by with_reducible assumption) (World.grownBy_alloc _ _ none) (by simp) (by simp) | exact getS (by with_reducible assumption) hgi hne1.out.symm hne2.out.symm)
      have hq := plan [0, 1, 2, 3, 5, 7]
      iterate 6 (refine tk hq ?_ rfl (by kernel_rfl) (by assumption) (by rfl) (fun _ _ _ h => h) ?hy ?_; (case hy => (intro w hSw; (try dsimp only at hSw); go_simp; (try with_reducible rfl))); replace hq := hq.tl; (try simp only [Act.put, yA, yB, yC]))
      clear hq
      refine ao 4 rfl (by kernel_rfl) (by rfl) (fun K hK => ?_)
      go_simp
      (first | (go_at_call 115; refine Calls.mono (rowNext_any _ x4 j4 _ ?_ (by omega)) ?_; (focus (first | with_reducible assumption | exact hRd0.out)); rw [e5.out]; rintro e wh ⟨rfl, hgwh, hrdwh⟩; simp only) | (go_at_call 115; refine Calls.mono (rowNext_any _ x3 j3 _ ?_ (by omega)) ?_; (focus (first | with_reducible assumption | exact hRd0.out)); rw [e4.out]; rintro e wg ⟨rfl, hgwg, hrdwg⟩; simp only) | (go_at_call 115; refine Calls.mono (rowNext_any _ x2 j2 _ ?_ (by omega)) ?_; (focus (first | with_reducible assumption | exact hRd0.out)); rw [e3.out]; rintro e wf ⟨rfl, hgwf, hrdwf⟩; simp only))
      refine hK.out _ _ ?_ (fun hHeld => ?_)
      focus (first | with_reducible exact hS0 | exact getS (by with_reducible assumption) (by with_reducible assumption) hTp.out hKp.out | exact getS (by with_reducible assumption) (World.grownBy_alloc _ _ none) (by simp) (by simp) | exact getS (by with_reducible assumption) hgi hne1.out.symm hne2.out.symm)
      clear hK K
      (try simp only [Act.put, yA, yB, yC])
      refine ao 6 rfl (by kernel_rfl) (by rfl) (fun K hK => ?_)
      go_simp
      (first | (go_at_call 115; refine Calls.mono (rowNext_any _ x4 j4 _ ?_ (by omega)) ?_; (focus (first | with_reducible assumption | exact hRd0.out)); rw [e5.out]; rintro e wh ⟨rfl, hgwh, hrdwh⟩; simp only) | (go_at_call 115; refine Calls.mono (rowNext_any _ x3 j3 _ ?_ (by omega)) ?_; (focus (first | with_reducible assumption | exact hRd0.out)); rw [e4.out]; rintro e wg ⟨rfl, hgwg, hrdwg⟩; simp only) | (go_at_call 115; refine Calls.mono (rowNext_any _ x2 j2 _ ?_ (by omega)) ?_; (focus (first | with_reducible assumption | exact hRd0.out)); rw [e3.out]; rintro e wf ⟨rfl, hgwf, hrdwf⟩; simp only))
      refine hK.out _ _ ?_ (fun hHeld => ?_)
      focus (first | with_reducible exact hS0 | exact getS (by with_reducible assumption) (by with_reducible assumption) hTp.out hKp.out | exact getS (by with_reducible assumption) (World.grownBy_alloc _ _ none) (by simp) (by simp) | exact getS (by with_reducible assumption) hgi hne1.out.symm hne2.out.symm)
      clear hK K
      (try simp only [Act.put, yA, yB, yC])
      refine ao 8 rfl (by kernel_rfl) (by rfl) (fun K hK => ?_)
      go_simp
      (first | (go_at_call 115; refine Calls.mono (rowNext_any _ x4 j4 _ ?_ (by omega)) ?_; (focus (first | with_reducible assumption | exact hRd0.out)); rw [e5.out]; rintro e wh ⟨rfl, hgwh, hrdwh⟩; simp only) | (go_at_call 115; refine Calls.mono (rowNext_any _ x3 j3 _ ?_ (by omega)) ?_; (focus (first | with_reducible assumption | exact hRd0.out)); rw [e4.out]; rintro e wg ⟨rfl, hgwg, hrdwg⟩; simp only) | (go_at_call 115; refine Calls.mono (rowNext_any _ x2 j2 _ ?_ (by omega)) ?_; (focus (first | with_reducible assumption | exact hRd0.out)); rw [e3.out]; rintro e wf ⟨rfl, hgwf, hrdwf⟩; simp only))
      refine hK.out _ _ ?_ (fun hHeld => ?_)
      focus (first | with_reducible exact hS0 | exact getS (by with_reducible assumption) (by with_reducible assumption) hTp.out hKp.out | exact getS (by with_reducible assumption) (World.grownBy_alloc _ _ none) (by simp) (by simp) | exact getS (by with_reducible assumption) hgi hne1.out.symm hne2.out.symm)
      clear hK K
      (try simp only [Act.put, yA, yB, yC])
      have hq := plan [9]
      iterate 1 (refine tk hq ?_ rfl (by kernel_rfl) (by assumption) (by rfl) (fun _ _ _ h => h) ?hy ?_; (case hy => (intro w hSw; (try dsimp only at hSw); go_simp; (try with_reducible rfl))); replace hq := hq.tl; (try simp only [Act.put, yA, yB, yC]))
      clear hq
      refine ao 10 rfl (by kernel_rfl) (by rfl) (fun K hK => ?_)
      go_simp
      refine hK.out _ _ ?_ (fun hHeld => ?_)
      focus (first | with_reducible exact hS0 | exact getS (by with_reducible assumption) (by with_reducible assumption) hTp.out hKp.out | exact getS (by with_reducible assumption) (World.grownBy_alloc _ _ none) (by simp) (by simp) | exact getS (by with_reducible assumption) hgi hne1.out.symm hne2.out.symm)
      clear hK K
      (try simp only [Act.put, yA, yB, yC])
      refine ao 11 rfl (by kernel_rfl) (by rfl) (fun K hK => ?_)
      have hGh := ((hGf.out.next hgwf).next hgwg).next hgwh; obtain ⟨v1, wi, hri, hoi, hgi, _⟩ := run_app1 (P := Tryz.prog) (W := wh) (wb.heap.size + 1) 35 35 127 (.agg #[.int .i64 0, .int .i64 0, .int .i64 0, .int .i64 0, .int .i64 0]) 5 40 Tryz.underlying35 info_row rfl (by decide) (.slice q1 acc.length q3) acc.length (acc.flatMap rowCells) #[.int .i64 a1, .int .i64 a2, .int .i64 a3, .int .i64 a4, .int .i64 a5] rfl (by simp [Value.oneCell']) hGh.own (by have := hGh.tl; omega) (by omega) (by unfold maxLen; omega); obtain ⟨z1, z3, rfl⟩ := own_slice' hoi; replace hGh := Lib.hid hGh; refine wp_append (.tmp 40) (.tmp 49) rfl rfl rfl hri ?_
      refine hK.out _ _ ?_ (fun hHeld => ?_)
      focus (first | with_reducible exact hS0 | exact getS (by with_reducible assumption) (by with_reducible assumption) hTp.out hKp.out | exact getS (by with_reducible assumption) (World.grownBy_alloc _ _ none) (by simp) (by simp) | exact getS (by with_reducible assumption) hgi hne1.out.symm hne2.out.symm)
      clear hK K
      (try simp only [Act.put, yA, yB, yC])
      have hq := plan [12]
      iterate 1 (refine tk hq ?_ rfl (by kernel_rfl) (by assumption) (by rfl) (fun _ _ _ h => h) ?hy ?_; (case hy => (intro w hSw; (try dsimp only at hSw); go_simp; (try with_reducible rfl))); replace hq := hq.tl; (try simp only [Act.put, yA, yB, yC]))
      clear hq
      refine al 13 rfl (by kernel_rfl) rfl (by rfl) (fun K hK => ?_)
      go_simp
      refine hK.out _ _ ?_
      clear hK K
      (try simp only [Act.put, yA, yB, yC])
      go_wp2
      obtain ⟨hGI, hRI⟩ := GI.store (r := ⟨a1, a2, a3, a4, a5⟩) hGh.out hrdwh hgi hoi
      exact ⟨⟨n - 1, x5, j5, acc ++ [⟨a1, a2, a3, a4, a5⟩], _, f, rfl, by omega, by omega, hRI, by omega, hGI, by simp; omega, HR.out⟩, by simp [intOf]; omega⟩
    · have HS := rdRows_stop hC HR
      simp only [Prod.mk.injEq] at HS
      obtain ⟨rfl, rfl, rfl⟩ := HS
      obtain ⟨q1, q3, rfl⟩ := own_slice' hG1.own
      obtain ⟨hr0, hr1, hfr0, hfr1, hltr⟩ := row2_cells hrd
      obtain ⟨ht0, ht1, ht2, hft, hltt⟩ := row3_cells hG1.row
      obtain ⟨hs0, hs1, hs2, _, hls⟩ := row3_cells hG1.row0
      have hsf := fun o => frozen?_of_row? hG1.row0 o
      have hsf0 := hsf 0
      have hsf1 := hsf 1
      have hsf2 := hsf 2
      have hV := slc_own hG1.own rfl
      have hW := hG1.low
      have hPW := hp.out.grew hG1.low
      have hord := hG1.ord
      have hvt : (Value.slice q1 acc.length q3).ownBlock ≠ some w.heap.size := own_not hG1.own (by omega)
      have hG2 := hG.out
      have hcase : (n ≤ 0 ∨ 0 < n) ∧ (ok = false ∨ ok = true ∧ (sx.isEmpty = false ∨ sx = [] ∧ (stmtOk party seq acc = false ∨ stmtOk party seq acc = true))) := by
        refine ⟨by omega, ?_⟩
        cases ok
        · exact .inl rfl
        · refine .inr ⟨rfl, ?_⟩
          cases sx
          · refine .inr ⟨rfl, ?_⟩
            cases stmtOk party seq acc <;> simp
          · exact .inl rfl
      clear hsf h4 hG HR hG1 hrd
      replace hV := Lib.hid hV
      replace hW := Lib.hid hW
      replace hPW := Lib.hid hPW
      replace hvt := Lib.hid hvt
      obtain ⟨hcn, hco⟩ := hcase
      rcases hco with rfl | ⟨rfl, hco | ⟨rfl, hco | hco⟩⟩
      · simp only [Bool.false_and] at hG2
        subst hG2
        rcases hcn with hcn | hcn
        all_goals
          go_wp2
          refine bodyPost_ret (v := .tuple #[.agg #[.int .i64 0, .int .i64 0, .slice none 0 0], .int .i64 10]) ?_ rfl ⟨⟨_, rfl, ⟨_, rfl, .inl ⟨rfl, rfl⟩⟩⟩, ?_⟩
          · simp [results, Tryz.results81, go_sem, ↓IntWalk.iteOmega, *]
          · have := hW.out; (repeat (first | (with_reducible first | exact zR _ _ | exact zA _ _ | assumption | refine zL ?_ _ | refine zD ?_ | refine zN ?_ _) | ((with_reducible first | refine zC ?_ ?_ _ | refine zW ?_ ?_ _); rotate_left; focus (first | exact Nat.le_refl _ | (simp; done) | (simp; omega) | omega)) | with_reducible refine zT ?_ (by assumption)))
      · have hsx : (sx == []) = false := by cases sx <;> simp_all
        simp only [hco, Bool.and_false, Bool.false_and] at hG2
        subst hG2
        rcases hcn with hcn | hcn
        all_goals
          (try have hlen : 400 < acc.length := by apply Nat.lt_of_not_le; intro h; exact hC ⟨hcn, rfl, h⟩)
          go_wp2
          refine bodyPost_ret (v := .tuple #[.agg #[.int .i64 0, .int .i64 0, .slice none 0 0], .int .i64 10]) ?_ rfl ⟨⟨_, rfl, ⟨_, rfl, .inl ⟨rfl, rfl⟩⟩⟩, ?_⟩
          · simp [results, Tryz.results81, go_sem, ↓IntWalk.iteOmega, *]
          · have := hW.out; (repeat (first | (with_reducible first | exact zR _ _ | exact zA _ _ | assumption | refine zL ?_ _ | refine zD ?_ | refine zN ?_ _) | ((with_reducible first | refine zC ?_ ?_ _ | refine zW ?_ ?_ _); rotate_left; focus (first | exact Nat.le_refl _ | (simp; done) | (simp; omega) | omega)) | with_reducible refine zT ?_ (by assumption)))
      · simp only [hco, Bool.and_false] at hG2
        subst hG2
        replace hco := Lib.hid hco
        rcases hcn with hcn | hcn
        all_goals
          (try have hlen : 400 < acc.length := by apply Nat.lt_of_not_le; intro h; exact hC ⟨hcn, rfl, h⟩)
          go_wp2_with (go_at_call 74; refine Calls.mono (rowsValid_any party seq _ acc _ hPW.out hV.out rfl) ?_; rw [hco.out]; rintro e w8 ⟨rfl, hb8⟩; obtain ⟨hc8, hf8, hr8, hz8⟩ := brow hb8)
          refine bodyPost_ret (v := .tuple #[.agg #[.int .i64 0, .int .i64 0, .slice none 0 0], .int .i64 10]) ?_ rfl ⟨⟨_, rfl, ⟨_, rfl, .inl ⟨rfl, rfl⟩⟩⟩, ?_⟩
          · simp [results, Tryz.results81, go_sem, ↓IntWalk.iteOmega, *]
          · have := hW.out; (repeat (first | (with_reducible first | exact zR _ _ | exact zA _ _ | assumption | refine zL ?_ _ | refine zD ?_ | refine zN ?_ _) | ((with_reducible first | refine zC ?_ ?_ _ | refine zW ?_ ?_ _); rotate_left; focus (first | exact Nat.le_refl _ | (simp; done) | (simp; omega) | omega)) | with_reducible refine zT ?_ (by assumption)))
      · have hlen := stmtOk_len hco
        simp only [hco, List.isEmpty_nil, Bool.and_true] at hG2
        subst hG2
        replace hco := Lib.hid hco
        have hcn : n ≤ 0 := by
          rcases hcn with h | h
          · exact h
          · exact absurd ⟨h, rfl, hlen⟩ hC
        go_wp2_with (go_at_call 74; refine Calls.mono (rowsValid_any party seq _ acc _ hPW.out hV.out rfl) ?_; rw [hco.out]; rintro e w8 ⟨rfl, hb8⟩; obtain ⟨hc8, hf8, hr8, hz8⟩ := brow hb8)
        refine bodyPost_ret (v := .tuple #[.agg #[.int .i64 party, .int .i64 seq, .slice q1 acc.length q3], .int .i64 0]) ?_ rfl ⟨⟨_, rfl, ⟨_, rfl, ?_⟩⟩, ?_⟩
        · simp [results, Tryz.results81, go_sem, ↓IntWalk.iteOmega, *]
        · exact Slc.other hV.out hvt.out ((((grown_below hb8 _).trans (grown_setCell _ _ _ _)).trans (grown_setCell _ _ _ _)).trans (grown_setCell _ _ _ _))
        · have := hW.out; (repeat (first | (with_reducible first | exact zR _ _ | exact zA _ _ | assumption | refine zL ?_ _ | refine zD ?_ | refine zN ?_ _) | ((with_reducible first | refine zC ?_ ?_ _ | refine zW ?_ ?_ _); rotate_left; focus (first | exact Nat.le_refl _ | (simp; done) | (simp; omega) | omega)) | with_reducible refine zT ?_ (by assumption)))
end Go.Proofs.YtkgpnikmdmpfaaaGreatDoor

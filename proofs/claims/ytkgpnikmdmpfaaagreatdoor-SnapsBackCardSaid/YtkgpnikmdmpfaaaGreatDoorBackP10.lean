/-
  books.Post: a new posting.
-/
import Derived.Test.YtkgpnikmdmpfaaaGreatDoorBackP9
set_option linter.unusedVariables false
set_option linter.unusedSimpArgs false
namespace Go.Proofs.YtkgpnikmdmpfaaaGreatDoor
open Go.RowKit Go.Maps

/-- Behind the balances; behind the table of what was posted. -/
structure PMid (w : World) (base pb : Nat) (v : Value) (P Q : Nat) (b : Sp.Books) (p : Sp.Posting) (n : Nat) (f : Bytes → Option Sp.Posting) (W : World) : Prop where
  head : W.heap[pb]? = some (.cells #[v, .map (some P), .map (some Q)] 106 (0, 0))
  own : W.ownsRow base 92 5 v b.l.length (b.l.flatMap postCells)
  posted : MapAt Tryz.prog 9 idEnc W P n (fun id => (f id).map postVal')
  bals : ∃ g : Int × Int → Option Int, MapAt Tryz.prog 156 pairEnc W Q (4 * b.l.length + 4) (fun a => (g a).map (Value.int .i64)) ∧ ∀ a, (g a).getD 0 = Sp.moved b.bal p a.1 a.2
  box : W.row? w.heap.size = some #[.string (str p.id), .int .i64 p.order, .int .i64 p.debit, .int .i64 p.credit, .int .i64 p.amount]
  keeps : Keeps (fun k => k = pb ∨ k = P ∨ k = Q ∨ v.ownBlock = some k) w W
theorem PMid.start {w w2 w3 : World} {base pb k P Q : Nat} {v : Value} {b : Sp.Books} {p : Sp.Posting} {g : Int × Int → Option Int} (hb : BooksIs w base pb v P Q b) (hK : Old w w2)
    (hbox : w2.row? w.heap.size = some #[.string (str p.id), .int .i64 p.order, .int .i64 p.debit, .int .i64 p.credit, .int .i64 p.amount]) (hg : w2.grownBy w3 (some Q)) (hgg : ∀ a, (g a).getD 0 = b.bal a.1 a.2)
    (hm : MapAt Tryz.prog 156 pairEnc w3 Q (4 * b.l.length + 4) (fun a => ((Sp.mapAt b.bal p 2 a).map (Value.int .i64)).or ((g a).map (Value.int .i64)))) : PMid w base pb v P Q b p b.l.length (fun id => Sp.findPost b.l id) w3 := by
  obtain ⟨l1, l2, l3, l4⟩ := hb.lt
  have hsz := hK.size
  have same : ∀ j, j < w.heap.size → j ≠ Q → w3.heap[j]? = w.heap[j]? := fun j hj hn => (hg.block j (by omega) (fun e => hn (Option.some.inj e))).trans (hK.block j hj (fun h => h))
  obtain ⟨g0, hg1, _⟩ := hb.bals
  obtain ⟨es, cl, hQ⟩ := hg1.heap
  refine ⟨(same pb l1 (ne_of_map hb.head hQ)).trans hb.head, own_same hb.own (fun j hj => same j (l4 j hj) ?_), hb.posted.same (same P l2 hb.ne), ⟨fun a => (Sp.mapAt b.bal p 2 a).or (g a), ?_, fun a => ?_⟩, ?_, ?_⟩
  · obtain ⟨c, hc⟩ := own_block hb.own hj
    exact ne_of_map hc hQ
  · have e : (fun a => ((Sp.mapAt b.bal p 2 a).map (Value.int .i64)).or ((g a).map (Value.int .i64))) = (fun a => ((Sp.mapAt b.bal p 2 a).or (g a)).map (Value.int .i64)) := by
      funext a
      cases Sp.mapAt b.bal p 2 a <;> cases g a <;> rfl
    rw [e] at hm
    exact hm
  · show ((Sp.mapAt b.bal p 2 a).or (g a)).getD 0 = (Sp.mapAt b.bal p 2 (a.1, a.2)).getD (b.bal a.1 a.2)
    rw [← hgg a]
    cases Sp.mapAt b.bal p 2 a <;> rfl
  · rw [row?_congr (hg.block _ (row?_lt hbox) (fun e => by have := Option.some.inj e; omega))]
    exact hbox
  · exact ⟨hg.os.trans hK.os, hg.tape.trans hK.tape, hg.output.trans hK.output, Nat.le_trans hsz hg.size, fun j hj hn => same j hj (fun e => hn (.inr (.inr (.inl e))))⟩
theorem PMid.cells {w W : World} {base pb P Q n : Nat} {v : Value} {b : Sp.Books} {p : Sp.Posting} {f : Bytes → Option Sp.Posting} (h : PMid w base pb v P Q b p n f W) :
    W.cell? ⟨pb, 0, none⟩ = some v ∧ W.cell? ⟨pb, 1, none⟩ = some (.map (some P)) ∧ W.cell? ⟨w.heap.size, 0, none⟩ = some (.string (str p.id)) ∧ W.cell? ⟨w.heap.size, 1, none⟩ = some (.int .i64 p.order) ∧
    W.cell? ⟨w.heap.size, 2, none⟩ = some (.int .i64 p.debit) ∧ W.cell? ⟨w.heap.size, 3, none⟩ = some (.int .i64 p.credit) ∧ W.cell? ⟨w.heap.size, 4, none⟩ = some (.int .i64 p.amount) :=
  ⟨by rw [cell_of_row _ _ _ _ _ _ h.head]; rfl, by rw [cell_of_row _ _ _ _ _ _ h.head]; rfl, by rw [cell?_of_row? h.box]; rfl, by rw [cell?_of_row? h.box]; rfl, by rw [cell?_of_row? h.box]; rfl, by rw [cell?_of_row? h.box]; rfl, by rw [cell?_of_row? h.box]; rfl⟩
theorem cells7 {W W' : World} {pb B : Nat} {F : Nat → Prop} {a0 a1 b0 b1 b2 b3 b4 : Value} (h : W.cell? ⟨pb, 0, none⟩ = some a0 ∧ W.cell? ⟨pb, 1, none⟩ = some a1 ∧ W.cell? ⟨B, 0, none⟩ = some b0 ∧ W.cell? ⟨B, 1, none⟩ = some b1 ∧
    W.cell? ⟨B, 2, none⟩ = some b2 ∧ W.cell? ⟨B, 3, none⟩ = some b3 ∧ W.cell? ⟨B, 4, none⟩ = some b4) (hk : Keeps F W W') (h1 : ¬ F pb) (h2 : ¬ F B) :
    W'.cell? ⟨pb, 0, none⟩ = some a0 ∧ W'.cell? ⟨pb, 1, none⟩ = some a1 ∧ W'.cell? ⟨B, 0, none⟩ = some b0 ∧ W'.cell? ⟨B, 1, none⟩ = some b1 ∧ W'.cell? ⟨B, 2, none⟩ = some b2 ∧ W'.cell? ⟨B, 3, none⟩ = some b3 ∧ W'.cell? ⟨B, 4, none⟩ = some b4 :=
  ⟨hk.cell h.1 h1, hk.cell h.2.1 h1, hk.cell h.2.2.1 h2, hk.cell h.2.2.2.1 h2, hk.cell h.2.2.2.2.1 h2, hk.cell h.2.2.2.2.2.1 h2, hk.cell h.2.2.2.2.2.2 h2⟩
theorem PMid.next {w W W1 : World} {base pb P Q n m : Nat} {v : Value} {b : Sp.Books} {p : Sp.Posting} {f f' : Bytes → Option Sp.Posting} (h : PMid w base pb v P Q b p n f W) (hne : P ≠ Q) (hP : P < w.heap.size) (hg : W.grownBy W1 (some P))
    (hm : MapAt Tryz.prog 9 idEnc W1 P m (fun id => (f' id).map postVal')) : PMid w base pb v P Q b p m f' W1 := by
  obtain ⟨es, cl, hPm⟩ := h.posted.heap
  obtain ⟨g, hg1, hg2⟩ := h.bals
  have hsz := h.keeps.size
  have same : ∀ j, j < W.heap.size → j ≠ P → W1.heap[j]? = W.heap[j]? := fun j hj hn => hg.block j hj (fun e => hn (Option.some.inj e))
  refine ⟨(same pb (Array.getElem?_eq_some_iff.1 h.head).1 (ne_of_map h.head hPm)).trans h.head, own_same h.own (fun j hj => ?_), hm, ⟨g, hg1.same (same Q hg1.lt hne.symm), hg2⟩, ?_, ?_⟩
  · obtain ⟨c, hc⟩ := own_block h.own hj
    exact same j (Array.getElem?_eq_some_iff.1 hc).1 (ne_of_map hc hPm)
  · rw [row?_congr (same _ (row?_lt h.box) (by omega))]
    exact h.box
  · exact h.keeps.trans ⟨hg.os, hg.tape, hg.output, hg.size, fun j hj hn => same j hj (fun e => hn (.inr (.inl e)))⟩
theorem PMid.drew {w W : World} {base pb P Q n : Nat} {v : Value} {b : Sp.Books} {p : Sp.Posting} {f : Bytes → Option Sp.Posting} (h : PMid w base pb v P Q b p n f W) : PMid w base pb v P Q b p n f W.drew :=
  ⟨h.head, h.own, h.posted.same rfl, by obtain ⟨g, h1, h2⟩ := h.bals; exact ⟨g, h1.same rfl, h2⟩, h.box, h.keeps.drew⟩
theorem findPost_snoc {l : List Sp.Posting} {p : Sp.Posting} (h : Sp.findPost l p.id = none) (i : List UInt8) : Sp.findPost (l ++ [p]) i = if i = p.id then some p else Sp.findPost l i := by
  unfold Sp.findPost at *
  rw [List.find?_append]
  by_cases e : i = p.id
  · subst e
    rw [h, if_pos rfl]
    simp
  · rw [if_neg e]
    have : ([p].find? fun p => p.id == i) = none := by simp [Ne.symm e]
    rw [this, Option.or_none]
theorem moved_in {b : Sp.Bal} {p : Sp.Posting} (hb : ∀ x y, Sp.in64 (b x y) = true) (hm : Sp.movesOk b p = true) (x y : Int) : Sp.in64 (Sp.moved b p x y) = true := by
  simp only [Sp.movesOk, Sp.stepOk, Bool.and_eq_true] at hm
  obtain ⟨⟨h1, h2⟩, h3, h4⟩ := hm
  show Sp.in64 ((Sp.stepMap b p p.order (Sp.stepMap b p 0 (fun _ => none)) (x, y)).getD (b x y)) = true
  unfold Sp.stepMap
  split
  · exact h4
  · split
    · exact h3
    · split
      · exact h2
      · split
        · exact h1
        · exact hb x y
theorem setCell_row {W : World} {pb : Nat} {c : Array Value} {t : TypeId} {f : Nat × Nat} (h : W.heap[pb]? = some (.cells c t f)) (o : Nat) (u : Value) : (W.setCell ⟨pb, o, none⟩ u).heap[pb]? = some (.cells (c.setIfInBounds o u) t f) := by
  rw [setCell_eq_setRow W pb o c t f u h]
  exact setRow_heap W pb c _ t f h
theorem PMid.post {w W W3 : World} {base pb P Q n : Nat} {vq : Option Addr} {vc : Nat} {b : Sp.Books} {p : Sp.Posting} {v1 : Value} (hb : BooksIs w base pb (.slice vq n vc) P Q b) (hp : PostIn p) (hfew : b.l.length < 1000000)
    (hR : Sp.post b p = (⟨b.l ++ [p], Sp.moved b.bal p⟩, 0)) (hq : Sp.findPost b.l p.id = none) (hm : Sp.movesOk b.bal p = true)
    (hW : PMid w base pb (.slice vq n vc) P Q b p (b.l.length + 1) (fun i => if i = p.id then some p else Sp.findPost b.l i) W) (hK : Keeps (fun k => (Value.slice vq n vc).ownBlock = some k) W.drew W3) (hpn : (Value.slice vq n vc).ownBlock ≠ some pb)
    (ho : W3.ownsRow base 92 5 v1 (b.l.length + 1) (b.l.flatMap postCells ++ postCells p)) (hl : v1.ownBlock = (Value.slice vq n vc).ownBlock ∨ ∃ k, v1.ownBlock = some k ∧ W.drew.heap.size ≤ k) :
    PostPost w base pb (.slice vq n vc) P Q b p (.returned (.int .i64 0)) (W3.setCell ⟨pb, 0, none⟩ v1) := by
  obtain ⟨l1, l2, l3, l4⟩ := hb.lt
  have hsz := hW.keeps.size
  have hsz3 : W.heap.size ≤ W3.heap.size := hK.size
  have hhead : W3.heap[pb]? = some (.cells #[.slice vq n vc, .map (some P), .map (some Q)] 106 (0, 0)) := (hK.block pb (by have := (Array.getElem?_eq_some_iff.1 hW.head).1; exact this) hpn).trans hW.head
  have other : ∀ j, j ≠ pb → (W3.setCell ⟨pb, 0, none⟩ v1).heap[j]? = W3.heap[j]? := fun j hj => Below.heap_setCell _ _ _ _ hj
  obtain ⟨g, hg1, hg2⟩ := hW.bals
  have notown : ∀ (j : Nat) (es : Array MapEntry) (k : Nat), W.heap[j]? = some (.map es k) → ¬ (Value.slice vq n vc).ownBlock = some j := fun j es k hj e => by
    obtain ⟨c, hc⟩ := own_block hW.own e
    rw [hj] at hc; cases hc
  have mapsame : ∀ (j : Nat) (es : Array MapEntry) (k : Nat), W.heap[j]? = some (.map es k) → (W3.setCell ⟨pb, 0, none⟩ v1).heap[j]? = W.heap[j]? := fun j es k hj => by
    rw [other j (Ne.symm (ne_of_map hW.head hj))]
    exact hK.block j (Array.getElem?_eq_some_iff.1 hj).1 (notown j es k hj)
  obtain ⟨es1, k1, e1⟩ := hW.posted.heap
  obtain ⟨es2, k2, e2⟩ := hg1.heap
  refine ⟨by rw [hR], ⟨v1, ?_, ?_⟩, ?_⟩
  · rw [hR]
    refine ⟨setCell_row hhead 0 v1, ?_, ?_, ⟨g, ?_, hg2⟩, hb.ne, hb.ge, moved_in hb.inb hm, ?_, ?_⟩
    · have ho' : W3.ownsRow base 92 5 v1 (b.l ++ [p]).length ((b.l ++ [p]).flatMap postCells) := by simpa using ho
      refine own_same ho' (fun j hj => other j ?_)
      obtain ⟨c, hc⟩ := own_block ho hj
      exact ne_of_types hc hhead (by decide)
    · have h := hW.posted.same (mapsame P es1 k1 e1)
      rw [show (b.l ++ [p]).length = b.l.length + 1 by simp]
      exact h.congr (fun a _ => by rw [findPost_snoc hq])
    · rw [show (4 * (b.l ++ [p]).length) = 4 * b.l.length + 4 by simp; omega]
      exact hg1.same (mapsame Q es2 k2 e2)
    · intro q hq'
      rcases List.mem_append.1 hq' with h | h
      · exact hb.posts q h
      · simp at h; subst h; exact hp
    · simp; omega
  · rcases hl with h | ⟨k, h, hk⟩
    · exact .inl h
    · exact .inr ⟨k, h, by have e : W.drew.heap.size = W.heap.size := rfl; omega⟩
  · refine hW.keeps.trans ⟨hK.os, hK.tape, hK.output, by simpa [World.setCell] using hsz3, fun k hk hn => ?_⟩
    rw [other k (fun e => hn (.inl e))]
    exact hK.block k hk (fun e => hn (.inr (.inr (.inr e))))
set_option maxRecDepth 100000 in
set_option maxHeartbeats 4000000 in
theorem post_new (w : World) (base pb P Q : Nat) (v : Value) (b : Sp.Books) (p : Sp.Posting) (hb : BooksIs w base pb v P Q b) (hp : PostIn p) (hfew : b.l.length < 1000000) (hyes : Sp.postOk p = true) (hq : Sp.findPost b.l p.id = none) :
    Calls Tryz.prog 56 #[.pointer (some ⟨pb, 0, none⟩), postVal' p] w (PostPost w base pb v P Q b p) := by
  obtain ⟨vq, vc, rfl⟩ := own_slice' hb.own
  obtain ⟨c0, c1, c2, _⟩ := hb.cells
  have hpl := hb.lt
  have HL : ∀ W : World, W.heap[P]? = w.heap[P]? → (Instr.lookup 103 (.map (some P)) (.string (str p.id)) true).run Tryz.prog W = .ok (.tuple #[.agg #[.string (str []), .int .i64 0, .int .i64 0, .int .i64 0, .int .i64 0], .bool false]) W :=
    fun W hW => by have := hb.lookP (W := W) hW hp.id; rw [hq] at this; exact this
  have HB := Lib.hid hb
  have HN := Lib.hid hyes
  have HP := Lib.hid hp
  clear hb hyes hp
  replace HL := Lib.hid HL
  replace hq := Lib.hid hq
  obtain ⟨id, order, debit, credit, amount⟩ := p
  simp only [postVal'] at HL ⊢
  go_enter Tryz.func56, Tryz.ntmps56
  go_wp2_with (first | (go_at_call 91; refine (booksNone_no _ pb P (by go_simp)).mono ?_; rintro e w1 ⟨rfl, rfl⟩) | (go_at_call 92; refine Calls.mono (may_any _ _ _ _ _ _) ?_; rw [HN.out]; rintro e w1 ⟨rfl, hb⟩; obtain ⟨hc, hf, hrr, hz⟩ := brow hb; (try simp at hz); have hlt : w.heap.size < w1.heap.size := (by omega); have hB := Lib.hid hb))
  have hP1 : Hid (w1.heap[P]? = w.heap[P]? ∧ P < w1.heap.size) := ⟨(hB.out.block P (by simp; omega)).trans (Below.heap_alloc _ _ _ hpl.2.1), by omega⟩
  have hx1 : w1.cell? ⟨pb, 1, none⟩ = some (.map (some P)) := by go_simp
  have hx2 : w1.cell? ⟨w.heap.size, 0, none⟩ = some (.string (str id)) := by go_simp
  have hX := Lib.hid (fun W (hk : Old w1 W) => postS HL.out hx1 hx2 hP1.out hk)
  clear hx1 hx2
  refine any_begin (S := (fun W' => W'.cell? ⟨pb, 1, none⟩ = some (.map (some P)) ∧ W'.cell? ⟨w.heap.size, 0, none⟩ = some (.string (str id)) ∧ (Instr.lookup 103 (.map (some P)) (.string (str id)) true).run Tryz.prog W' = .ok (.tuple #[.agg #[.string (str []), .int .i64 0, .int .i64 0, .int .i64 0, .int .i64 0], .bool false]) W')) 13 (by kernel_rfl) ?_ (fun hHeld => ?_)
  focus (exact hX.out _ (by (repeat (first | (with_reducible exact Keeps.refl _ _) | (with_reducible assumption) | (with_reducible refine Keeps.alloc ?_ _) | ((with_reducible refine Keeps.setCell ?_ ?_ _); rotate_left; focus (first | (left; first | omega | (simp; done) | (simp; omega)) | (right; first | exact Nat.le_refl _ | (simp; done) | (simp; omega) | omega))) | ((with_reducible refine Keeps.setRow ?_ ?_ _); rotate_left; focus (first | (left; first | omega | (simp; done) | (simp; omega)) | (right; first | exact Nat.le_refl _ | (simp; done) | (simp; omega) | omega))) | (with_reducible refine Keeps.drew ?_) | (with_reducible refine Keeps.drewN ?_ _)))))
  have hq := plan [0, 1, 2, 3, 4, 5, 6, 7, 8, 9]
  iterate 10 (refine tk hq ?_ rfl (by kernel_rfl) (by assumption) (by rfl) (fun _ _ _ h => h) ?hy ?_; (case hy => (intro w hSw; (try dsimp only at hSw); go_simp; (try with_reducible rfl))); replace hq := hq.tl; (try simp only [Act.put, yA, yB, yC]))
  clear hq
  refine ao 10 rfl (by kernel_rfl) (by rfl) (fun K hK => ?_)
  go_simp
  refine hK.out _ _ ?_ (fun hHeld => ?_)
  focus (exact hX.out _ (by (repeat (first | (with_reducible exact Keeps.refl _ _) | (with_reducible assumption) | (with_reducible refine Keeps.alloc ?_ _) | ((with_reducible refine Keeps.setCell ?_ ?_ _); rotate_left; focus (first | (left; first | omega | (simp; done) | (simp; omega)) | (right; first | exact Nat.le_refl _ | (simp; done) | (simp; omega) | omega))) | ((with_reducible refine Keeps.setRow ?_ ?_ _); rotate_left; focus (first | (left; first | omega | (simp; done) | (simp; omega)) | (right; first | exact Nat.le_refl _ | (simp; done) | (simp; omega) | omega))) | (with_reducible refine Keeps.drew ?_) | (with_reducible refine Keeps.drewN ?_ _)))))
  clear hK K
  (try simp only [Act.put, yA, yB, yC])
  refine ao 11 rfl (by kernel_rfl) (by rfl) (fun K hK => ?_)
  go_simp
  refine hK.out _ _ ?_ (fun hHeld => ?_)
  focus (exact hX.out _ (by (repeat (first | (with_reducible exact Keeps.refl _ _) | (with_reducible assumption) | (with_reducible refine Keeps.alloc ?_ _) | ((with_reducible refine Keeps.setCell ?_ ?_ _); rotate_left; focus (first | (left; first | omega | (simp; done) | (simp; omega)) | (right; first | exact Nat.le_refl _ | (simp; done) | (simp; omega) | omega))) | ((with_reducible refine Keeps.setRow ?_ ?_ _); rotate_left; focus (first | (left; first | omega | (simp; done) | (simp; omega)) | (right; first | exact Nat.le_refl _ | (simp; done) | (simp; omega) | omega))) | (with_reducible refine Keeps.drew ?_) | (with_reducible refine Keeps.drewN ?_ _)))))
  clear hK K
  (try simp only [Act.put, yA, yB, yC])
  have hq := plan [12]
  iterate 1 (refine tk hq ?_ rfl (by kernel_rfl) (by assumption) (by rfl) (fun _ _ _ h => h) ?hy ?_; (case hy => (intro w hSw; (try dsimp only at hSw); go_simp; (try with_reducible rfl))); replace hq := hq.tl; (try simp only [Act.put, yA, yB, yC]))
  clear hq
  refine any_done (by kernel_rfl) ?_
  clear hX
  go_wp2_with fail
  refine Calls.mono (moves_any _ base pb P Q _ b ⟨id, order, debit, credit, amount⟩ (HB.out.keeps (F := fun _ => False) (keeps_below (by have := hB.out; (repeat (first | (with_reducible first | exact zR _ _ | exact zA _ _ | assumption | refine zL ?_ _ | refine zD ?_ | refine zN ?_ _) | ((with_reducible first | refine zC ?_ ?_ _ | refine zW ?_ ?_ _); rotate_left; focus (first | exact Nat.le_refl _ | (simp; done) | (simp; omega) | omega)) | with_reducible refine zT ?_ (by assumption))))) (fun h => h) (fun h => h) (fun h => h) (fun _ _ h => h)) HP.out) ?_
  rintro e w2 ⟨hif, hB2⟩
  have hK2 : Old w w2 := (keeps_below (F := fun _ => False) (by have := hB.out; (repeat (first | (with_reducible first | exact zR _ _ | exact zA _ _ | assumption | refine zL ?_ _ | refine zD ?_ | refine zN ?_ _) | ((with_reducible first | refine zC ?_ ?_ _ | refine zW ?_ ?_ _); rotate_left; focus (first | exact Nat.le_refl _ | (simp; done) | (simp; omega) | omega)) | with_reducible refine zT ?_ (by assumption))) : Below w.heap.size w (w1.alloc (.cells #[.string (str []), .int .i64 0, .int .i64 0, .int .i64 0, .int .i64 0] 92)).drew)).trans (keeps_below hB2)
  have hbox : w2.row? w.heap.size = some #[.string (str id), .int .i64 order, .int .i64 debit, .int .i64 credit, .int .i64 amount] := by
    rw [row?_congr (hB2.block _ (by simp; omega)), row?_drew, row?_alloc, if_neg (by omega), hrr, if_pos (by simp), row?_alloc, if_pos rfl]; rfl
  by_cases hm : Sp.movesOk b.bal ⟨id, order, debit, credit, amount⟩ = true
  · rw [if_pos hm] at hif
    obtain ⟨k, rfl, hk, hmap⟩ := hif
    obtain ⟨g, hg1, hg2⟩ := HB.out.bals
    have hw2 := hK2.size
    have c2' : w2.cell? ⟨pb, 2, none⟩ = some (.map (some Q)) := hK2.cell c2 (fun h => h)
    have hCp := copyBal_any w2 Q k (4 * b.l.length) 4 _ _ (hg1.same (hK2.block Q hpl.2.2.1 (fun h => h))) hmap (by simp at hk; omega) (by unfold maxLen; omega)
    have hSt := Lib.hid (fun w3 hg hm => PMid.start (w3 := w3) (k := k) (p := ⟨id, order, debit, credit, amount⟩) HB.out hK2 hbox hg hg2 hm)
    replace hCp := Lib.hid hCp
    replace hm := Lib.hid hm
    clear hc hf hrr hB2 hbox hmap hg1 hg2 c0 c1 c2
    go_wp2_with (go_at_call 94; refine Calls.mono hCp.out ?_; rintro e w3 ⟨rfl, hm3, hg3⟩; replace hg3 := Lib.hid hg3; replace hm3 := Lib.hid hm3)
    have hMid := hSt.out w3 hg3.out hm3.out
    refine wp_world (PMid w base pb (.slice vq b.l.length vc) P Q b ⟨id, order, debit, credit, amount⟩ b.l.length (fun id => Sp.findPost b.l id)) hMid ?_
    clear hMid hSt hg3 hm3 hCp c2' hK2
    intro W hW
    obtain ⟨W1, hrP, hmP, hgP⟩ := hW.drew.posted.put string_law Tryz.underlying103 (by unfold maxLen; omega) idEnc_inj (a := id) (id_key (by have := HP.out.id; unfold maxLen; simp only at this; omega)) (postVal' ⟨id, order, debit, credit, amount⟩)
    have hS := Lib.hid hW.drew.cells
    simp only [postVal', idEnc] at hrP
    replace hrP := Lib.hid hrP
    replace hmP := Lib.hid hmP
    replace hgP := Lib.hid hgP
    replace hW := Lib.hid hW
    refine any_begin (S := (fun W' => W'.cell? ⟨pb, 0, none⟩ = some (.slice vq b.l.length vc) ∧ W'.cell? ⟨pb, 1, none⟩ = some (.map (some P)) ∧ W'.cell? ⟨w.heap.size, 0, none⟩ = some (.string (str id)) ∧ W'.cell? ⟨w.heap.size, 1, none⟩ = some (.int .i64 order) ∧ W'.cell? ⟨w.heap.size, 2, none⟩ = some (.int .i64 debit) ∧ W'.cell? ⟨w.heap.size, 3, none⟩ = some (.int .i64 credit) ∧ W'.cell? ⟨w.heap.size, 4, none⟩ = some (.int .i64 amount))) 7 (by kernel_rfl) ?_ (fun hHeld => ?_)
    focus (exact hS.out)
    have hq := plan [0, 1, 2, 3, 4, 5, 6]
    iterate 7 (refine tk hq ?_ rfl (by kernel_rfl) (by assumption) (by rfl) (fun _ _ _ h => h) ?hy ?_; (case hy => (intro w hSw; (try dsimp only at hSw); go_simp; (try with_reducible rfl))); replace hq := hq.tl; (try simp only [Act.put, yA, yB, yC]))
    clear hq
    refine al 7 rfl (by kernel_rfl) rfl (by rfl) (fun K hK => ?_)
    refine wp_upd (.tmp 47) (.tmp 49) (.tmp 50) rfl rfl rfl rfl hrP.out ?_
    refine hK.out _ _ ?_
    clear hK K
    (try simp only [Act.put, yA, yB, yC])
    go_wp2
    have hMid := hW.out.drew.next (f' := fun i => if i = id then some ⟨id, order, debit, credit, amount⟩ else Sp.findPost b.l i) HB.out.ne hpl.2.1 hgP.out (hmP.out.congr (fun a _ => by split <;> rfl))
    refine wp_world (PMid w base pb (.slice vq b.l.length vc) P Q b ⟨id, order, debit, credit, amount⟩ (b.l.length + 1) (fun i => if i = id then some ⟨id, order, debit, credit, amount⟩ else Sp.findPost b.l i)) hMid ?_
    clear hMid hS hrP hmP hgP hW
    intro W2 hW2
    obtain ⟨v1, W3, hr3, ho3, hg3, hl3⟩ := run_app1 (P := Tryz.prog) (W := W2.drew) base 64 64 92 _ 5 48 Tryz.underlying64 info_post rfl (by decide) (.slice vq b.l.length vc) b.l.length (b.l.flatMap postCells)
      #[.string (str id), .int .i64 order, .int .i64 debit, .int .i64 credit, .int .i64 amount] rfl (by simp [Value.oneCell']) hW2.drew.own (by have := HB.out.ge; have := hW2.keeps.size; show base ≤ W2.heap.size; omega) (by omega) (by unfold maxLen; omega)
    obtain ⟨zq, zc, rfl⟩ := own_slice' ho3
    have hS0 := Lib.hid hW2.drew.cells
    have hK1 : Keeps (fun k => (Value.slice vq b.l.length vc).ownBlock = some k) W2.drew W3 := (keeps_grown hg3).mono (fun k _ h => h.symm)
    have hpn : (Value.slice vq b.l.length vc).ownBlock ≠ some pb := fun e => by
      obtain ⟨c, hc⟩ := own_block hW2.own e
      exact ne_of_types hc hW2.head (by decide) rfl
    have hbn : (Value.slice vq b.l.length vc).ownBlock ≠ some w.heap.size := fun e => by have := hpl.2.2.2 _ e; omega
    have hS1 := Lib.hid (cells7 hS0.out (Keeps.alloc (Keeps.refl (fun _ => False) _) (.cells #[.string (str id), .int .i64 order, .int .i64 debit, .int .i64 credit, .int .i64 amount] 92)) (fun h => h) (fun h => h))
    have hS2 := Lib.hid (cells7 hS0.out hK1 hpn hbn)
    have hpf : W3.frozen? ⟨pb, 0, none⟩ = false := by
      have e : W3.heap[pb]? = W2.heap[pb]? := hK1.block pb (Array.getElem?_eq_some_iff.1 hW2.head).1 hpn
      simp [World.frozen?, e, hW2.head]
    replace hr3 := Lib.hid hr3
    replace ho3 := Lib.hid ho3
    replace hK1 := Lib.hid hK1
    replace hpn := Lib.hid hpn
    replace hbn := Lib.hid hbn
    replace hl3 := Lib.hid hl3
    replace hW2 := Lib.hid hW2
    clear hg3
    refine any_begin (S := (fun W' => W'.cell? ⟨pb, 0, none⟩ = some (.slice vq b.l.length vc) ∧ W'.cell? ⟨pb, 1, none⟩ = some (.map (some P)) ∧ W'.cell? ⟨w.heap.size, 0, none⟩ = some (.string (str id)) ∧ W'.cell? ⟨w.heap.size, 1, none⟩ = some (.int .i64 order) ∧ W'.cell? ⟨w.heap.size, 2, none⟩ = some (.int .i64 debit) ∧ W'.cell? ⟨w.heap.size, 3, none⟩ = some (.int .i64 credit) ∧ W'.cell? ⟨w.heap.size, 4, none⟩ = some (.int .i64 amount))) 10 (by kernel_rfl) ?_ (fun hHeld => ?_)
    focus (first | exact hS0.out | exact hS1.out | exact hS2.out)
    have hq := plan [0, 1, 2, 3, 4, 5]
    iterate 6 (refine tk hq ?_ rfl (by kernel_rfl) (by assumption) (by rfl) (fun _ _ _ h => h) ?hy ?_; (case hy => (intro w hSw; (try dsimp only at hSw); go_simp; (try with_reducible rfl))); replace hq := hq.tl; (try simp only [Act.put, yA, yB, yC]))
    clear hq
    refine ao 6 rfl (by kernel_rfl) (by rfl) (fun K hK => ?_)
    go_simp
    refine hK.out _ _ ?_ (fun hHeld => ?_)
    focus (first | exact hS0.out | exact hS1.out | exact hS2.out)
    clear hK K
    (try simp only [Act.put, yA, yB, yC])
    refine ao 7 rfl (by kernel_rfl) (by rfl) (fun K hK => ?_)
    refine wp_append (.tmp 55) (.tmp 57) rfl rfl rfl hr3.out ?_
    refine hK.out _ _ ?_ (fun hHeld => ?_)
    focus (first | exact hS0.out | exact hS1.out | exact hS2.out)
    clear hK K
    (try simp only [Act.put, yA, yB, yC])
    refine ao 8 rfl (by kernel_rfl) (by rfl) (fun K hK => ?_)
    go_simp
    refine hK.out _ _ ?_ (fun hHeld => ?_)
    focus (first | exact hS0.out | exact hS1.out | exact hS2.out)
    clear hK K
    (try simp only [Act.put, yA, yB, yC])
    have hq := plan [9]
    iterate 1 (refine tk hq ?_ rfl (by kernel_rfl) (by assumption) (by rfl) (fun _ _ _ h => h) ?hy ?_; (case hy => (intro w hSw; (try dsimp only at hSw); go_simp; (try with_reducible rfl))); replace hq := hq.tl; (try simp only [Act.put, yA, yB, yC]))
    clear hq
    refine al 10 rfl (by kernel_rfl) rfl (by rfl) (fun K hK => ?_)
    go_simp
    refine hK.out _ _ ?_
    clear hK K
    (try simp only [Act.put, yA, yB, yC])
    have hR : Sp.post b ⟨id, order, debit, credit, amount⟩ = (⟨b.l ++ [⟨id, order, debit, credit, amount⟩], Sp.moved b.bal ⟨id, order, debit, credit, amount⟩⟩, 0) := by
      unfold Sp.post
      rw [if_neg (by rw [HN.out]; simp), hq.out]
      simp only
      rw [if_neg (by rw [hm.out]; simp)]
    have hfin := PMid.post HB.out HP.out hfew hR hq.out hm.out hW2.out hK1.out hpn.out ho3.out hl3.out
    replace hfin := Lib.hid hfin
    replace hR := Lib.hid hR
    clear hS0 hS1 hS2 hpf
    go_wp2
    go_ret
    exact hfin.out
  · rw [if_neg hm] at hif
    subst hif
    have hR : Sp.post b ⟨id, order, debit, credit, amount⟩ = (b, 90) := by
      unfold Sp.post
      rw [if_neg (by rw [HN.out]; simp), hq.out]
      simp only
      rw [if_pos (by simpa using hm)]
    replace hR := Lib.hid hR
    replace hK2 := Lib.hid hK2
    clear hc hf hrr hB2 hbox hm
    go_wp2
    go_ret
    exact PostPost.same hR.out HB.out ⟨hK2.out.os, hK2.out.tape, hK2.out.output, hK2.out.size, fun k hk => hK2.out.block k hk (fun h => h)⟩

theorem post_any (w : World) (base pb P Q : Nat) (v : Value) (b : Sp.Books) (p : Sp.Posting) (hb : BooksIs w base pb v P Q b) (hp : PostIn p) (hfew : b.l.length < 1000000) :
    Calls Tryz.prog 56 #[.pointer (some ⟨pb, 0, none⟩), postVal' p] w (PostPost w base pb v P Q b p) := by
  cases h : Sp.postOk p with
  | false => exact post_bad w base pb P Q v b p hb h
  | true =>
    cases hq : Sp.findPost b.l p.id with
    | some q => exact post_twice w base pb P Q v b p q hb hp h hq
    | none => exact post_new w base pb P Q v b p hb hp hfew h hq
end Go.Proofs.YtkgpnikmdmpfaaaGreatDoor

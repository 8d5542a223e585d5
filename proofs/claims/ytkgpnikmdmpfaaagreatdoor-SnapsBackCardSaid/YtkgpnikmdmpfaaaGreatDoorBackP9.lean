/-
  books.Post.
-/
import Derived.Test.YtkgpnikmdmpfaaaGreatDoorBackP8
set_option linter.unusedVariables false
set_option linter.unusedSimpArgs false
namespace Go.Proofs.YtkgpnikmdmpfaaaGreatDoor
open Go.RowKit Go.Maps

def PostPost (w : World) (base pb : Nat) (v : Value) (P Q : Nat) (b : Sp.Books) (p : Sp.Posting) (e : Ending) (w' : World) : Prop :=
  e = .returned (.int .i64 (Sp.post b p).2) ∧ (∃ v', BooksIs w' base pb v' P Q (Sp.post b p).1 ∧ (v'.ownBlock = v.ownBlock ∨ ∃ k, v'.ownBlock = some k ∧ w.heap.size ≤ k)) ∧
    Keeps (fun k => k = pb ∨ k = P ∨ k = Q ∨ v.ownBlock = some k) w w'
theorem PostPost.same {w w' : World} {base pb P Q : Nat} {v : Value} {b : Sp.Books} {p : Sp.Posting} {n : Int} (h : Sp.post b p = (b, n)) (hb : BooksIs w base pb v P Q b) (hB : Below w.heap.size w w') :
    PostPost w base pb v P Q b p (.returned (.int .i64 n)) w' := by
  unfold PostPost
  rw [h]
  exact ⟨rfl, ⟨v, hb.below hB, .inl rfl⟩, keeps_below hB⟩
theorem zero_posting' (w : World) : (zeroValue 92).run Tryz.prog w = .ok (.agg #[.string (str []), .int .i64 0, .int .i64 0, .int .i64 0, .int .i64 0]) w := by kernel_rfl
theorem BooksIs.lookP {w W : World} {base pb P Q : Nat} {v : Value} {b : Sp.Books} (h : BooksIs w base pb v P Q b) (hW : W.heap[P]? = w.heap[P]?) {id : Bytes} (hi : id.length ≤ 1000000) :
    (Instr.lookup 103 (.map (some P)) (.string (str id)) true).run Tryz.prog W =
      .ok (.tuple #[((Sp.findPost b.l id).map postVal').getD (.agg #[.string (str []), .int .i64 0, .int .i64 0, .int .i64 0, .int .i64 0]), .bool (Sp.findPost b.l id).isSome]) W := by
  have hl := (h.posted.same hW).look string_law Tryz.underlying103 (zero_posting' W) (a := id) (id_key (by unfold maxLen; omega)) true
  rw [if_pos rfl, Option.isSome_map] at hl
  exact hl

set_option maxRecDepth 100000 in
set_option maxHeartbeats 2000000 in
theorem post_bad (w : World) (base pb P Q : Nat) (v : Value) (b : Sp.Books) (p : Sp.Posting) (hb : BooksIs w base pb v P Q b) (hno : Sp.postOk p = false) :
    Calls Tryz.prog 56 #[.pointer (some ⟨pb, 0, none⟩), postVal' p] w (PostPost w base pb v P Q b p) := by
  have hr : Sp.post b p = (b, 2) := by unfold Sp.post; rw [if_pos hno]
  obtain ⟨c0, c1, c2, _⟩ := hb.cells
  have hpl := hb.lt.1
  have HB := Lib.hid hb
  have HR := Lib.hid hr
  have HN := Lib.hid hno
  clear hb hr hno
  obtain ⟨id, order, debit, credit, amount⟩ := p
  simp only [postVal']
  go_enter Tryz.func56, Tryz.ntmps56
  go_wp2_with (first | (go_at_call 91; refine (booksNone_no _ pb P (by go_simp)).mono ?_; rintro e w1 ⟨rfl, rfl⟩) | (go_at_call 92; refine Calls.mono (may_any _ _ _ _ _ _) ?_; rw [HN.out]; rintro e w1 ⟨rfl, hb⟩; replace hb := Lib.hid hb))
  go_ret
  exact PostPost.same HR.out HB.out (by have := hb.out; (repeat (first | (with_reducible first | exact zR _ _ | exact zA _ _ | assumption | refine zL ?_ _ | refine zD ?_ | refine zN ?_ _) | ((with_reducible first | refine zC ?_ ?_ _ | refine zW ?_ ?_ _); rotate_left; focus (first | exact Nat.le_refl _ | (simp; done) | (simp; omega) | omega)) | with_reducible refine zT ?_ (by assumption))))

theorem findPost_id {l : List Sp.Posting} {id : List UInt8} {q : Sp.Posting} (h : Sp.findPost l id = some q) : q ∈ l ∧ q.id = id := by
  unfold Sp.findPost at h
  exact ⟨List.mem_of_find?_eq_some h, by have := List.find?_some h; simpa using this⟩
/-- While nothing old is written. -/
abbrev Old (w w' : World) : Prop := Keeps (fun _ => False) w w'
theorem postS {w w1 W : World} {pb P B : Nat} {id : Bytes} {R : Value} (HL : ∀ W : World, W.heap[P]? = w.heap[P]? → (Instr.lookup 103 (.map (some P)) (.string (str id)) true).run Tryz.prog W = .ok R W)
    (h1 : w1.cell? ⟨pb, 1, none⟩ = some (.map (some P))) (h2 : w1.cell? ⟨B, 0, none⟩ = some (.string (str id))) (h3 : w1.heap[P]? = w.heap[P]? ∧ P < w1.heap.size) (hk : Old w1 W) :
    W.cell? ⟨pb, 1, none⟩ = some (.map (some P)) ∧ W.cell? ⟨B, 0, none⟩ = some (.string (str id)) ∧ (Instr.lookup 103 (.map (some P)) (.string (str id)) true).run Tryz.prog W = .ok R W :=
  ⟨hk.cell h1 (fun h => h), hk.cell h2 (fun h => h), HL W ((hk.block P h3.2 (fun h => h)).trans h3.1)⟩
set_option maxRecDepth 100000 in
set_option maxHeartbeats 4000000 in
theorem post_twice (w : World) (base pb P Q : Nat) (v : Value) (b : Sp.Books) (p q : Sp.Posting) (hb : BooksIs w base pb v P Q b) (hp : PostIn p) (hyes : Sp.postOk p = true) (hq : Sp.findPost b.l p.id = some q) :
    Calls Tryz.prog 56 #[.pointer (some ⟨pb, 0, none⟩), postVal' p] w (PostPost w base pb v P Q b p) := by
  have hr : Sp.post b p = (b, if q = p then 0 else 91) := by unfold Sp.post; rw [if_neg (by rw [hyes]; simp), hq]
  obtain ⟨c0, c1, c2, _⟩ := hb.cells
  have hpl := hb.lt
  have HL : ∀ W : World, W.heap[P]? = w.heap[P]? → (Instr.lookup 103 (.map (some P)) (.string (str p.id)) true).run Tryz.prog W = .ok (.tuple #[postVal' q, .bool true]) W :=
    fun W hW => by have := hb.lookP (W := W) hW hp.id; rw [hq] at this; exact this
  have HE := Lib.hid (fun W => eq_post q p (hb.posts q (findPost_id hq).1) hp W)
  have HB := Lib.hid hb
  have HR := Lib.hid hr
  have HN := Lib.hid hyes
  clear hb hr hyes hp hq
  obtain ⟨id, order, debit, credit, amount⟩ := p
  obtain ⟨qid, qo, qd, qc, qa⟩ := q
  simp only [postVal'] at HL ⊢
  replace HL := Lib.hid HL
  go_enter Tryz.func56, Tryz.ntmps56
  go_wp2_with (first | (go_at_call 91; refine (booksNone_no _ pb P (by go_simp)).mono ?_; rintro e w1 ⟨rfl, rfl⟩) | (go_at_call 92; refine Calls.mono (may_any _ _ _ _ _ _) ?_; rw [HN.out]; rintro e w1 ⟨rfl, hb⟩; obtain ⟨hc, hf, hrr, hz⟩ := brow hb; (try simp at hz); have hlt : w.heap.size < w1.heap.size := (by omega); have hB := Lib.hid hb))
  have hP1 : Hid (w1.heap[P]? = w.heap[P]? ∧ P < w1.heap.size) := ⟨(hB.out.block P (by simp; omega)).trans (Below.heap_alloc _ _ _ hpl.2.1), by omega⟩
  have hx1 : w1.cell? ⟨pb, 1, none⟩ = some (.map (some P)) := by go_simp
  have hx2 : w1.cell? ⟨w.heap.size, 0, none⟩ = some (.string (str id)) := by go_simp
  have hX := Lib.hid (fun W (hk : Old w1 W) => postS HL.out hx1 hx2 hP1.out hk)
  clear hx1 hx2
  refine any_begin (S := (fun W' => W'.cell? ⟨pb, 1, none⟩ = some (.map (some P)) ∧ W'.cell? ⟨w.heap.size, 0, none⟩ = some (.string (str id)) ∧ (Instr.lookup 103 (.map (some P)) (.string (str id)) true).run Tryz.prog W' = .ok (.tuple #[.agg #[.string (str qid), .int .i64 qo, .int .i64 qd, .int .i64 qc, .int .i64 qa], .bool true]) W')) 13 (by kernel_rfl) ?_ (fun hHeld => ?_)
  focus (exact hX.out _ (by (repeat (first | (with_reducible exact Keeps.refl _ _) | (with_reducible assumption) | (with_reducible refine Keeps.alloc ?_ _) | ((with_reducible refine Keeps.setCell ?_ ?_ _); rotate_left; focus (first | (left; first | omega | (simp; done) | (simp; omega)) | (right; first | exact Nat.le_refl _ | (simp; done) | (simp; omega) | omega))) | ((with_reducible refine Keeps.setRow ?_ ?_ _); rotate_left; focus (first | (left; first | omega | (simp; done) | (simp; omega)) | (right; first | exact Nat.le_refl _ | (simp; done) | (simp; omega) | omega))) | (with_reducible refine Keeps.drew ?_) | (with_reducible refine Keeps.drewN ?_ _)))))
  have hq := plan [0, 1, 2, 3, 4, 5, 6, 7, 8, 9]
  iterate 10 (refine tk hq ?_ rfl (by kernel_rfl) (by assumption) (by rfl) (fun _ _ _ h => h) ?hy ?_; (case hy => (intro w hSw; (try dsimp only at hSw); go_simp; (try with_reducible rfl))); replace hq := hq.tl; (try simp only [Act.put, yA, yB, yC]))
  clear hq
  refine ao 10 rfl (by kernel_rfl) (by rfl) (fun K hK => ?_)
  go_simp
  refine hK.out _ _ ?_ (fun hHeld => ?_)
  focus (exact hX.out _ (by (repeat (first | (with_reducible exact Keeps.refl _ _) | (with_reducible assumption) | (with_reducible refine Keeps.alloc ?_ _) | ((with_reducible refine Keeps.setCell ?_ ?_ _); rotate_left; focus (first | (left; first | omega | (simp; done) | (simp; omega)) | (right; first | exact Nat.le_refl _ | (simp; done) | (simp; omega) | omega))) | ((with_reducible refine Keeps.setRow ?_ ?_ _); rotate_left; focus (first | (left; first | omega | (simp; done) | (simp; omega)) | (right; first | exact Nat.le_refl _ | (simp; done) | (simp; omega) | omega))) | (with_reducible refine Keeps.drew ?_) | (with_reducible refine Keeps.drewN ?_ _)))))
  clear hK K
  (try simp only [Act.put, yA, yB, yC])
  refine ao 11 rfl (by kernel_rfl) (by rfl) (fun K hK => ?_)
  go_simp
  refine hK.out _ _ ?_ (fun hHeld => ?_)
  focus (exact hX.out _ (by (repeat (first | (with_reducible exact Keeps.refl _ _) | (with_reducible assumption) | (with_reducible refine Keeps.alloc ?_ _) | ((with_reducible refine Keeps.setCell ?_ ?_ _); rotate_left; focus (first | (left; first | omega | (simp; done) | (simp; omega)) | (right; first | exact Nat.le_refl _ | (simp; done) | (simp; omega) | omega))) | ((with_reducible refine Keeps.setRow ?_ ?_ _); rotate_left; focus (first | (left; first | omega | (simp; done) | (simp; omega)) | (right; first | exact Nat.le_refl _ | (simp; done) | (simp; omega) | omega))) | (with_reducible refine Keeps.drew ?_) | (with_reducible refine Keeps.drewN ?_ _)))))
  clear hK K
  (try simp only [Act.put, yA, yB, yC])
  have hq := plan [12]
  iterate 1 (refine tk hq ?_ rfl (by kernel_rfl) (by assumption) (by rfl) (fun _ _ _ h => h) ?hy ?_; (case hy => (intro w hSw; (try dsimp only at hSw); go_simp; (try with_reducible rfl))); replace hq := hq.tl; (try simp only [Act.put, yA, yB, yC]))
  clear hq
  refine any_done (by kernel_rfl) ?_
  have HE2 := HE.out
  simp only [postVal'] at HE2
  clear hX
  go_wp2
  all_goals
    have hR := HR.out
    have hb := hB.out
    first
      | rw [if_pos (by simp only [Sp.Posting.mk.injEq]; assumption)] at hR
      | rw [if_neg (by intro h; simp only [Sp.Posting.mk.injEq] at h; simp_all)] at hR
    replace hR := Lib.hid hR
    replace hb := Lib.hid hb
    go_ret
    exact PostPost.same hR.out HB.out (by have := hb.out; (repeat (first | (with_reducible first | exact zR _ _ | exact zA _ _ | assumption | refine zL ?_ _ | refine zD ?_ | refine zN ?_ _) | ((with_reducible first | refine zC ?_ ?_ _ | refine zW ?_ ?_ _); rotate_left; focus (first | exact Nat.le_refl _ | (simp; done) | (simp; omega) | omega)) | with_reducible refine zT ?_ (by assumption))))

end Go.Proofs.YtkgpnikmdmpfaaaGreatDoor

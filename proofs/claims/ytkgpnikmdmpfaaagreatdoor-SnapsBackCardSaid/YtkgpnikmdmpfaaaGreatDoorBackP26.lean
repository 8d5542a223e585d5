/-
  What core.Of does to the core, step by step.
-/
import Derived.Test.YtkgpnikmdmpfaaaGreatDoorBackP25
set_option linter.unusedVariables false
set_option linter.unusedSimpArgs false
namespace Go.Proofs.YtkgpnikmdmpfaaaGreatDoor
open Go.RowKit Go.Maps

theorem InIs.ne_cells {w : World} {i : Sp.Intake} {v0 v1 v2 : Value} {m : Option Nat} (h : InIs w i v0 v1 v2 m) {x : Nat} {c : Array Value} {t : TypeId} {f : Nat × Nat} (hx : w.heap[x]? = some (.cells c t f)) (ht : 127 ≠ t) {k : Nat}
    (hk : v0.ownBlock = some k ∨ v1.ownBlock = some k ∨ v2.ownBlock = some k ∨ m = some k) : k ≠ x := by
  rcases hk with hk | hk | hk | hk
  · obtain ⟨cc, hc⟩ := own_block h.r0 hk; exact ne_of_types hc hx ht
  · obtain ⟨cc, hc⟩ := own_block h.r1 hk; exact ne_of_types hc hx ht
  · obtain ⟨cc, hc⟩ := own_block h.r2 hk; exact ne_of_types hc hx ht
  · obtain ⟨es, clk, hc⟩ := (h.map.1 k hk).heap; exact (ne_of_map hx hc).symm
theorem InIs.ne_map {w : World} {i : Sp.Intake} {v0 v1 v2 : Value} {m : Option Nat} (h : InIs w i v0 v1 v2 m) {x : Nat} {es : Array MapEntry} {clk : Nat} (hx : w.heap[x]? = some (.map es clk)) (hm : m ≠ some x) {k : Nat}
    (hk : v0.ownBlock = some k ∨ v1.ownBlock = some k ∨ v2.ownBlock = some k ∨ m = some k) : k ≠ x := by
  rcases hk with hk | hk | hk | hk
  · obtain ⟨cc, hc⟩ := own_block h.r0 hk; exact ne_of_map hc hx
  · obtain ⟨cc, hc⟩ := own_block h.r1 hk; exact ne_of_map hc hx
  · obtain ⟨cc, hc⟩ := own_block h.r2 hk; exact ne_of_map hc hx
  · exact fun e => hm (by rw [hk, e])
theorem BooksIs.ne_cells {w : World} {base pb P Q : Nat} {v : Value} {b : Sp.Books} (h : BooksIs w base pb v P Q b) {x : Nat} {c : Array Value} {t : TypeId} {f : Nat × Nat} (hx : w.heap[x]? = some (.cells c t f)) (ht : 106 ≠ t) (ht2 : 92 ≠ t) {k : Nat}
    (hk : k = pb ∨ k = P ∨ k = Q ∨ v.ownBlock = some k) : k ≠ x := by
  rcases hk with rfl | rfl | rfl | hk
  · exact ne_of_types h.head hx ht
  · obtain ⟨es, clk, hc⟩ := h.posted.heap; exact (ne_of_map hx hc).symm
  · obtain ⟨g, h1, _⟩ := h.bals
    obtain ⟨es, clk, hc⟩ := h1.heap; exact (ne_of_map hx hc).symm
  · obtain ⟨cc, hc⟩ := own_block h.own hk; exact ne_of_types hc hx ht2
theorem BooksIs.lt' {w : World} {base pb P Q : Nat} {v : Value} {b : Sp.Books} (h : BooksIs w base pb v P Q b) {k : Nat} (hk : k = pb ∨ k = P ∨ k = Q ∨ v.ownBlock = some k) : k < w.heap.size := by
  rcases hk with rfl | rfl | rfl | hk
  · exact (Array.getElem?_eq_some_iff.1 h.head).1
  · exact h.posted.lt
  · obtain ⟨g, h1, _⟩ := h.bals; exact h1.lt
  · obtain ⟨cc, hc⟩ := own_block h.own hk; exact (Array.getElem?_eq_some_iff.1 hc).1
section
variable {W W' : World} {base pc pb P Q : Nat} {vl vb v0 v1 v2 : Value} {m : Option Nat} {C : Sp.Core}
/-- One saga more. -/
theorem CoreIs.saga (h : CoreIs W base pc vl pb vb P Q v0 v1 v2 m C) {s : Sp.Saga} {z : Value} (hg : W.grownBy W' vl.ownBlock) (ho : W'.ownsRow base 89 12 z (C.l.length + 1) (C.l.flatMap sagaCells ++ sagaCells s)) (hc : Sp.orderCheck s.o = 0) (hl : C.l.length < 60) :
    CoreIs (W'.setCell ⟨pc, 0, none⟩ z) base pc z pb vb P Q v0 v1 v2 m ⟨C.l ++ [s], C.b, C.i⟩ := by
  have hpl := (Array.getElem?_eq_some_iff.1 h.head).1
  have hne : ∀ {x : Nat} {c : Array Value} {t : TypeId} {f : Nat × Nat}, W.heap[x]? = some (.cells c t f) → 89 ≠ t → some x ≠ vl.ownBlock := fun hx ht e => by
    obtain ⟨cc, hcc⟩ := own_block h.own e.symm
    exact ne_of_types hcc hx ht rfl
  have hne2 : ∀ {x : Nat} {es : Array MapEntry} {clk : Nat}, W.heap[x]? = some (.map es clk) → some x ≠ vl.ownBlock := fun hx e => by
    obtain ⟨cc, hcc⟩ := own_block h.own e.symm
    exact ne_of_map hcc hx rfl
  have hhead : W'.heap[pc]? = _ := (hg.block pc hpl (hne h.head (by decide))).trans h.head
  have keep : ∀ k, k < W.heap.size → k ≠ pc → some k ≠ vl.ownBlock → (W'.setCell ⟨pc, 0, none⟩ z).heap[k]? = W.heap[k]? := fun k hk h1 h2 => by
    rw [Below.heap_setCell _ _ _ _ (by simpa using h1)]; exact hg.block k hk h2
  refine ⟨setCell_row hhead 0 z, ?_, ?_, ?_, h.ge, h.mne, by simp; omega, fun x hx => ?_⟩
  · have := own_same (w' := W'.setCell ⟨pc, 0, none⟩ z) ho (fun k hk => by
      obtain ⟨cc, hcc⟩ := own_block ho hk
      rw [Below.heap_setCell _ _ _ _ (by simpa using ne_of_types hcc hhead (by decide))])
    simpa using this
  · refine h.books.same (fun k hk => keep k (h.books.lt' hk) (h.books.ne_cells h.head (by decide) (by decide) hk) ?_)
    rcases hk with rfl | rfl | rfl | hk
    · exact hne h.books.head (by decide)
    · obtain ⟨es, clk, hc⟩ := h.books.posted.heap; exact hne2 hc
    · obtain ⟨g, h1, _⟩ := h.books.bals
      obtain ⟨es, clk, hc⟩ := h1.heap; exact hne2 hc
    · obtain ⟨cc, hc⟩ := own_block h.books.own hk; exact hne hc (by decide)
  · refine h.inn.same (fun k hk => keep k (h.inn.lt hk) (h.inn.ne_cells h.head (by decide) hk) (fun e => ?_))
    obtain ⟨cc, hcc⟩ := own_block h.own e.symm
    exact h.inn.ne_cells hcc (by decide) hk rfl
  · rcases List.mem_append.1 hx with hx | hx
    · exact h.checked x hx
    · simp at hx; subst hx; exact hc
/-- One posting more. -/
theorem CoreIs.post (h : CoreIs W base pc vl pb vb P Q v0 v1 v2 m C) {b : Sp.Books} {z : Value} (hb : BooksIs W' base pb z P Q b) (hk : Keeps (fun k => k = pb ∨ k = P ∨ k = Q ∨ vb.ownBlock = some k) W W') :
    CoreIs W' base pc vl pb z P Q v0 v1 v2 m ⟨C.l, b, C.i⟩ := by
  refine ⟨(hk.block _ (Array.getElem?_eq_some_iff.1 h.head).1 (fun e => h.books.ne_cells h.head (by decide) (by decide) e rfl)).trans h.head, own_same h.own (fun k hk' => ?_), hb, h.inn.same (fun k hk' => hk.block k (h.inn.lt hk') (fun e => ?_)), h.ge, h.mne, h.orders, h.checked⟩
  · obtain ⟨cc, hc⟩ := own_block h.own hk'
    exact hk.block k (Array.getElem?_eq_some_iff.1 hc).1 (fun e => h.books.ne_cells hc (by decide) (by decide) e rfl)
  · rcases e with rfl | rfl | rfl | e
    · exact h.inn.ne_cells h.books.head (by decide) hk' rfl
    · obtain ⟨es, clk, hc⟩ := h.books.posted.heap; exact h.inn.ne_map hc h.mne.1 hk' rfl
    · obtain ⟨g, h1, _⟩ := h.books.bals
      obtain ⟨es, clk, hc⟩ := h1.heap; exact h.inn.ne_map hc h.mne.2 hk' rfl
    · obtain ⟨cc, hc⟩ := own_block h.books.own e; exact h.inn.ne_cells hc (by decide) hk' rfl
def setIn (W : World) (pc : Nat) (i : Sp.Intake) (u0 u1 u2 : Value) (M : Nat) : World :=
  (((((((((W.setCell ⟨pc, 2, none⟩ (.int .i64 i.s0.party)).setCell ⟨pc, 3, none⟩ (.int .i64 i.s0.seq)).setCell ⟨pc, 4, none⟩ u0).setCell ⟨pc, 5, none⟩ (.int .i64 i.s1.party)).setCell ⟨pc, 6, none⟩ (.int .i64 i.s1.seq)).setCell ⟨pc, 7, none⟩ u1).setCell ⟨pc, 8, none⟩ (.int .i64 i.s2.party)).setCell ⟨pc, 9, none⟩ (.int .i64 i.s2.seq)).setCell ⟨pc, 10, none⟩ u2).setCell ⟨pc, 11, none⟩ (.map (some M))
/-- Another intake. -/
theorem CoreIs.intake (h : CoreIs W base pc vl pb vb P Q v0 v1 v2 m C) {i : Sp.Intake} {u0 u1 u2 : Value} {M : Nat} (hi : InIs W i u0 u1 u2 (some M)) (hM : M ≠ P ∧ M ≠ Q) :
    CoreIs (setIn W pc i u0 u1 u2 M) base pc vl pb vb P Q u0 u1 u2 (some M) ⟨C.l, C.b, i⟩ := by
  have keep : ∀ k, k ≠ pc → (setIn W pc i u0 u1 u2 M).heap[k]? = W.heap[k]? := fun k hk => by
    unfold setIn
    rw [Below.heap_setCell _ _ _ _ (by simpa using hk), Below.heap_setCell _ _ _ _ (by simpa using hk), Below.heap_setCell _ _ _ _ (by simpa using hk), Below.heap_setCell _ _ _ _ (by simpa using hk), Below.heap_setCell _ _ _ _ (by simpa using hk), Below.heap_setCell _ _ _ _ (by simpa using hk), Below.heap_setCell _ _ _ _ (by simpa using hk), Below.heap_setCell _ _ _ _ (by simpa using hk), Below.heap_setCell _ _ _ _ (by simpa using hk), Below.heap_setCell _ _ _ _ (by simpa using hk)]
  have e2 : (W.setCell ⟨pc, 2, none⟩ (.int .i64 i.s0.party)).heap[pc]? = some (.cells #[vl, .pointer (some ⟨pb, 0, none⟩), .int .i64 i.s0.party, .int .i64 C.i.s0.seq, v0, .int .i64 C.i.s1.party, .int .i64 C.i.s1.seq, v1, .int .i64 C.i.s2.party, .int .i64 C.i.s2.seq, v2, .map m] 62 (0, 0)) := setCell_row h.head 2 _
  have e3 : ((W.setCell ⟨pc, 2, none⟩ (.int .i64 i.s0.party)).setCell ⟨pc, 3, none⟩ (.int .i64 i.s0.seq)).heap[pc]? = some (.cells #[vl, .pointer (some ⟨pb, 0, none⟩), .int .i64 i.s0.party, .int .i64 i.s0.seq, v0, .int .i64 C.i.s1.party, .int .i64 C.i.s1.seq, v1, .int .i64 C.i.s2.party, .int .i64 C.i.s2.seq, v2, .map m] 62 (0, 0)) := setCell_row e2 3 _
  have e4 : (((W.setCell ⟨pc, 2, none⟩ (.int .i64 i.s0.party)).setCell ⟨pc, 3, none⟩ (.int .i64 i.s0.seq)).setCell ⟨pc, 4, none⟩ u0).heap[pc]? = some (.cells #[vl, .pointer (some ⟨pb, 0, none⟩), .int .i64 i.s0.party, .int .i64 i.s0.seq, u0, .int .i64 C.i.s1.party, .int .i64 C.i.s1.seq, v1, .int .i64 C.i.s2.party, .int .i64 C.i.s2.seq, v2, .map m] 62 (0, 0)) := setCell_row e3 4 _
  have e5 : ((((W.setCell ⟨pc, 2, none⟩ (.int .i64 i.s0.party)).setCell ⟨pc, 3, none⟩ (.int .i64 i.s0.seq)).setCell ⟨pc, 4, none⟩ u0).setCell ⟨pc, 5, none⟩ (.int .i64 i.s1.party)).heap[pc]? = some (.cells #[vl, .pointer (some ⟨pb, 0, none⟩), .int .i64 i.s0.party, .int .i64 i.s0.seq, u0, .int .i64 i.s1.party, .int .i64 C.i.s1.seq, v1, .int .i64 C.i.s2.party, .int .i64 C.i.s2.seq, v2, .map m] 62 (0, 0)) := setCell_row e4 5 _
  have e6 : (((((W.setCell ⟨pc, 2, none⟩ (.int .i64 i.s0.party)).setCell ⟨pc, 3, none⟩ (.int .i64 i.s0.seq)).setCell ⟨pc, 4, none⟩ u0).setCell ⟨pc, 5, none⟩ (.int .i64 i.s1.party)).setCell ⟨pc, 6, none⟩ (.int .i64 i.s1.seq)).heap[pc]? = some (.cells #[vl, .pointer (some ⟨pb, 0, none⟩), .int .i64 i.s0.party, .int .i64 i.s0.seq, u0, .int .i64 i.s1.party, .int .i64 i.s1.seq, v1, .int .i64 C.i.s2.party, .int .i64 C.i.s2.seq, v2, .map m] 62 (0, 0)) := setCell_row e5 6 _
  have e7 : ((((((W.setCell ⟨pc, 2, none⟩ (.int .i64 i.s0.party)).setCell ⟨pc, 3, none⟩ (.int .i64 i.s0.seq)).setCell ⟨pc, 4, none⟩ u0).setCell ⟨pc, 5, none⟩ (.int .i64 i.s1.party)).setCell ⟨pc, 6, none⟩ (.int .i64 i.s1.seq)).setCell ⟨pc, 7, none⟩ u1).heap[pc]? = some (.cells #[vl, .pointer (some ⟨pb, 0, none⟩), .int .i64 i.s0.party, .int .i64 i.s0.seq, u0, .int .i64 i.s1.party, .int .i64 i.s1.seq, u1, .int .i64 C.i.s2.party, .int .i64 C.i.s2.seq, v2, .map m] 62 (0, 0)) := setCell_row e6 7 _
  have e8 : (((((((W.setCell ⟨pc, 2, none⟩ (.int .i64 i.s0.party)).setCell ⟨pc, 3, none⟩ (.int .i64 i.s0.seq)).setCell ⟨pc, 4, none⟩ u0).setCell ⟨pc, 5, none⟩ (.int .i64 i.s1.party)).setCell ⟨pc, 6, none⟩ (.int .i64 i.s1.seq)).setCell ⟨pc, 7, none⟩ u1).setCell ⟨pc, 8, none⟩ (.int .i64 i.s2.party)).heap[pc]? = some (.cells #[vl, .pointer (some ⟨pb, 0, none⟩), .int .i64 i.s0.party, .int .i64 i.s0.seq, u0, .int .i64 i.s1.party, .int .i64 i.s1.seq, u1, .int .i64 i.s2.party, .int .i64 C.i.s2.seq, v2, .map m] 62 (0, 0)) := setCell_row e7 8 _
  have e9 : ((((((((W.setCell ⟨pc, 2, none⟩ (.int .i64 i.s0.party)).setCell ⟨pc, 3, none⟩ (.int .i64 i.s0.seq)).setCell ⟨pc, 4, none⟩ u0).setCell ⟨pc, 5, none⟩ (.int .i64 i.s1.party)).setCell ⟨pc, 6, none⟩ (.int .i64 i.s1.seq)).setCell ⟨pc, 7, none⟩ u1).setCell ⟨pc, 8, none⟩ (.int .i64 i.s2.party)).setCell ⟨pc, 9, none⟩ (.int .i64 i.s2.seq)).heap[pc]? = some (.cells #[vl, .pointer (some ⟨pb, 0, none⟩), .int .i64 i.s0.party, .int .i64 i.s0.seq, u0, .int .i64 i.s1.party, .int .i64 i.s1.seq, u1, .int .i64 i.s2.party, .int .i64 i.s2.seq, v2, .map m] 62 (0, 0)) := setCell_row e8 9 _
  have e10 : (((((((((W.setCell ⟨pc, 2, none⟩ (.int .i64 i.s0.party)).setCell ⟨pc, 3, none⟩ (.int .i64 i.s0.seq)).setCell ⟨pc, 4, none⟩ u0).setCell ⟨pc, 5, none⟩ (.int .i64 i.s1.party)).setCell ⟨pc, 6, none⟩ (.int .i64 i.s1.seq)).setCell ⟨pc, 7, none⟩ u1).setCell ⟨pc, 8, none⟩ (.int .i64 i.s2.party)).setCell ⟨pc, 9, none⟩ (.int .i64 i.s2.seq)).setCell ⟨pc, 10, none⟩ u2).heap[pc]? = some (.cells #[vl, .pointer (some ⟨pb, 0, none⟩), .int .i64 i.s0.party, .int .i64 i.s0.seq, u0, .int .i64 i.s1.party, .int .i64 i.s1.seq, u1, .int .i64 i.s2.party, .int .i64 i.s2.seq, u2, .map m] 62 (0, 0)) := setCell_row e9 10 _
  have e11 : ((((((((((W.setCell ⟨pc, 2, none⟩ (.int .i64 i.s0.party)).setCell ⟨pc, 3, none⟩ (.int .i64 i.s0.seq)).setCell ⟨pc, 4, none⟩ u0).setCell ⟨pc, 5, none⟩ (.int .i64 i.s1.party)).setCell ⟨pc, 6, none⟩ (.int .i64 i.s1.seq)).setCell ⟨pc, 7, none⟩ u1).setCell ⟨pc, 8, none⟩ (.int .i64 i.s2.party)).setCell ⟨pc, 9, none⟩ (.int .i64 i.s2.seq)).setCell ⟨pc, 10, none⟩ u2).setCell ⟨pc, 11, none⟩ (.map (some M))).heap[pc]? = some (.cells #[vl, .pointer (some ⟨pb, 0, none⟩), .int .i64 i.s0.party, .int .i64 i.s0.seq, u0, .int .i64 i.s1.party, .int .i64 i.s1.seq, u1, .int .i64 i.s2.party, .int .i64 i.s2.seq, u2, .map (some M)] 62 (0, 0)) := setCell_row e10 11 _
  refine ⟨e11, own_same h.own (fun k hk => ?_), h.books.same (fun k hk => keep k (h.books.ne_cells h.head (by decide) (by decide) hk)), hi.same (fun k hk => keep k (hi.ne_cells h.head (by decide) hk)), h.ge, ⟨by simp [hM.1], by simp [hM.2]⟩, h.orders, h.checked⟩
  obtain ⟨cc, hc⟩ := own_block h.own hk
  exact keep k (ne_of_types hc h.head (by decide))
end
def AccRes (w : World) (i : Sp.Intake) (s : Sp.Stmt) (e : Ending) (w' : World) : Prop :=
  (∃ n, n ≠ 0 ∧ accept i s = (none, n) ∧ AccBad w n e w') ∨ (accept i s = (some (Sp.setStmt i s), 0) ∧ AccOk w (Sp.setStmt i s) e w')
theorem accept_any (w : World) (i : Sp.Intake) (v0 v1 v2 : Value) (m : Option Nat) (h : InIs w i v0 v1 v2 m) (s : Sp.Stmt) (v : Value) (hp : Parties w) (hl : RowsArg w v s.rows) :
    Calls Tryz.prog 58 #[inVal i v0 v1 v2 m, .agg #[.int .i64 s.party, .int .i64 s.seq, v]] w (AccRes w i s) := by
  obtain ⟨party, seq, l⟩ := s
  have hb : ∀ n e w', n ≠ 0 → accept i ⟨party, seq, l⟩ = (none, n) → AccBad w n e w' → AccRes w i ⟨party, seq, l⟩ e w' := fun n e w' h1 h2 h3 => .inl ⟨n, h1, h2, h3⟩
  have hg : ∀ e w', accept i ⟨party, seq, l⟩ = (some (Sp.setStmt i ⟨party, seq, l⟩), 0) → AccOk w (Sp.setStmt i ⟨party, seq, l⟩) e w' → AccRes w i ⟨party, seq, l⟩ e w' := fun e w' h1 h2 => .inr ⟨h1, h2⟩
  cases hno : stmtOk party seq l with
  | false => exact (accept_bad w i v0 v1 v2 m h party seq v l hp hl hno).mono (fun e w' ha => hb 2 e w' (by decide) (by simp [accept, hno]) ha)
  | true =>
    have h3 : party = 0 ∨ party = 1 ∨ party = 2 := by
      have := hno
      unfold stmtOk rowsOk at this
      simp at this
      omega
    rcases h3 with rfl | rfl | rfl
    · by_cases hs : seq ≤ i.s0.seq
      · exact (accept_stale0 w i v0 v1 v2 m h seq v l hp hl hno hs).mono (fun e w' ha => hb 93 e w' (by decide) (by simp [accept, hno, Sp.newest, hs]) ha)
      · exact (accept_ok0 w i v0 v1 v2 m h seq v l hp hl hno (by omega)).mono (fun e w' ha => hg e w' (by simp [accept, hno, Sp.newest, hs]) ha)
    · by_cases hs : seq ≤ i.s1.seq
      · exact (accept_stale1 w i v0 v1 v2 m h seq v l hp hl hno hs).mono (fun e w' ha => hb 93 e w' (by decide) (by simp [accept, hno, Sp.newest, hs]) ha)
      · exact (accept_ok1 w i v0 v1 v2 m h seq v l hp hl hno (by omega)).mono (fun e w' ha => hg e w' (by simp [accept, hno, Sp.newest, hs]) ha)
    · by_cases hs : seq ≤ i.s2.seq
      · exact (accept_stale2 w i v0 v1 v2 m h seq v l hp hl hno hs).mono (fun e w' ha => hb 93 e w' (by decide) (by simp [accept, hno, Sp.newest, hs]) ha)
      · exact (accept_ok2 w i v0 v1 v2 m h seq v l hp hl hno (by omega)).mono (fun e w' ha => hg e w' (by simp [accept, hno, Sp.newest, hs]) ha)
end Go.Proofs.YtkgpnikmdmpfaaaGreatDoor

/-
  core.Of: what its loops keep.
-/

set_option linter.unusedVariables false
set_option linter.unusedSimpArgs false
namespace Go.Proofs.YtkgpnikmdmpfaaaGreatDoor
open Go.RowKit Go.Maps

def OfPost (w : World) (pt : Parts) (e : Ending) (w' : World) : Prop :=
  Below w.heap.size w w' ∧ ((coreOf pt = none ∧ e = .returned (.tuple #[.pointer none, .int .i64 2])) ∨
    ∃ C base pc vl pb vb P Q v0 v1 v2 m, coreOf pt = some C ∧ e = .returned (.tuple #[.pointer (some ⟨pc, 0, none⟩), .int .i64 0]) ∧ CoreIs w' base pc vl pb vb P Q v0 v1 v2 m C)
structure OAt (w : World) (arr : Array Value) (base pc : Nat) (vl : Value) (pb : Nat) (vb : Value) (P Q : Nat) (v0 v1 v2 : Value) (m : Option Nat) (C : Sp.Core) (W : World) : Prop where
  low : Below w.heap.size w W
  box : W.heap[w.heap.size]? = some (.cells arr 87 (0, 0))
  core : CoreIs W base pc vl pb vb P Q v0 v1 v2 m C
  ge : w.heap.size < base
theorem OAt.next {w W W' : World} {arr : Array Value} {base pc pb P Q : Nat} {vl vb v0 v1 v2 : Value} {m : Option Nat} {C : Sp.Core} (h : OAt w arr base pc vl pb vb P Q v0 v1 v2 m C W) (hb : Below W.heap.size W W') : OAt w arr base pc vl pb vb P Q v0 v1 v2 m C W' :=
  ⟨h.low.trans (hb.mono h.low.size), heap_below hb h.box, h.core.below hb, h.ge⟩
theorem alloc_drew (W : World) (o : Obj) : W.drew.alloc o = (W.alloc o).drew := rfl
theorem size_drew (W : World) : W.drew.heap.size = W.heap.size := rfl
theorem keep13 {W W' : World} {X pc : Nat} {vl : Value} {s : Sp.Saga} {row : Option Nat} (h : W.cell? ⟨pc, 0, none⟩ = some vl ∧ W.frozen? ⟨pc, 0, none⟩ = false ∧ W.cell? ⟨X, 0, none⟩ = some (.int .i64 s.o.id) ∧ W.cell? ⟨X, 1, none⟩ = some (.string (str s.o.ref)) ∧ W.cell? ⟨X, 2, none⟩ = some (.string (str s.o.sku)) ∧ W.cell? ⟨X, 3, none⟩ = some (.int .i64 s.o.qty) ∧ W.cell? ⟨X, 4, none⟩ = some (.int .i64 s.o.amount) ∧ W.cell? ⟨X, 5, none⟩ = some (.int .i64 s.d0) ∧ W.cell? ⟨X, 6, none⟩ = some (.int .i64 s.d1) ∧ W.cell? ⟨X, 7, none⟩ = some (.int .i64 s.d2) ∧ W.cell? ⟨X, 8, none⟩ = some (.int .i64 s.d3) ∧ W.cell? ⟨X, 9, none⟩ = some (.int .i64 s.d4) ∧ W.cell? ⟨X, 10, none⟩ = some (.int .i64 s.d5) ∧ W.cell? ⟨X, 11, none⟩ = some (.bool s.cancel)) (hg : W.grownBy W' row) (hp : some pc ≠ row) (hX : some X ≠ row) :
    W'.cell? ⟨pc, 0, none⟩ = some vl ∧ W'.frozen? ⟨pc, 0, none⟩ = false ∧ W'.cell? ⟨X, 0, none⟩ = some (.int .i64 s.o.id) ∧ W'.cell? ⟨X, 1, none⟩ = some (.string (str s.o.ref)) ∧ W'.cell? ⟨X, 2, none⟩ = some (.string (str s.o.sku)) ∧ W'.cell? ⟨X, 3, none⟩ = some (.int .i64 s.o.qty) ∧ W'.cell? ⟨X, 4, none⟩ = some (.int .i64 s.o.amount) ∧ W'.cell? ⟨X, 5, none⟩ = some (.int .i64 s.d0) ∧ W'.cell? ⟨X, 6, none⟩ = some (.int .i64 s.d1) ∧ W'.cell? ⟨X, 7, none⟩ = some (.int .i64 s.d2) ∧ W'.cell? ⟨X, 8, none⟩ = some (.int .i64 s.d3) ∧ W'.cell? ⟨X, 9, none⟩ = some (.int .i64 s.d4) ∧ W'.cell? ⟨X, 10, none⟩ = some (.int .i64 s.d5) ∧ W'.cell? ⟨X, 11, none⟩ = some (.bool s.cancel) := by
  obtain ⟨h0, h1, h2, h3, h4, h5, h6, h7, h8, h9, h10, h11, h12, h13⟩ := h
  exact ⟨hg.cell h0 hp, by rw [World.frozen?_of_block (w := W) (a := ⟨pc, 0, none⟩) (hg.block pc (World.block_lt_of_cell? W _ h0) hp)]; exact h1, hg.cell h2 hX, hg.cell h3 hX, hg.cell h4 hX, hg.cell h5 hX, hg.cell h6 hX, hg.cell h7 hX, hg.cell h8 hX, hg.cell h9 hX, hg.cell h10 hX, hg.cell h11 hX, hg.cell h12 hX, hg.cell h13 hX⟩
theorem OAt.saga {w W W' : World} {arr : Array Value} {base pc pb P Q : Nat} {vl z vb v0 v1 v2 : Value} {m : Option Nat} {C C' : Sp.Core} (h : OAt w arr base pc vl pb vb P Q v0 v1 v2 m C W) (hg : W.grownBy W' vl.ownBlock) (hc : CoreIs (W'.setCell ⟨pc, 0, none⟩ z) base pc z pb vb P Q v0 v1 v2 m C') :
    OAt w arr base pc z pb vb P Q v0 v1 v2 m C' (W'.setCell ⟨pc, 0, none⟩ z) := by
  have hge := h.ge
  have hpc := h.core.ge
  refine ⟨(h.low.grown hg h.low.size (fun k hk => by have := (h.core.own.lt k hk).1; omega)).setCell (by show w.heap.size ≤ pc; omega) _, ?_, hc, h.ge⟩
  rw [Below.heap_setCell _ _ _ _ (by simp; omega), hg.block _ (Array.getElem?_eq_some_iff.1 h.box).1 (fun e => by have := (h.core.own.lt _ e.symm).1; omega)]
  exact h.box
theorem keep6 {W W' : World} {X pc : Nat} {a : Value} {id : Bytes} {c1 c2 c3 c4 : Int} {F : Nat → Prop} (h : W.cell? ⟨pc, 1, none⟩ = some a ∧ W.cell? ⟨X, 0, none⟩ = some (.string (str id)) ∧ W.cell? ⟨X, 1, none⟩ = some (.int .i64 c1) ∧ W.cell? ⟨X, 2, none⟩ = some (.int .i64 c2) ∧ W.cell? ⟨X, 3, none⟩ = some (.int .i64 c3) ∧ W.cell? ⟨X, 4, none⟩ = some (.int .i64 c4)) (hk : Keeps F W W') (hp : ¬ F pc) (hX : ¬ F X) :
    W'.cell? ⟨pc, 1, none⟩ = some a ∧ W'.cell? ⟨X, 0, none⟩ = some (.string (str id)) ∧ W'.cell? ⟨X, 1, none⟩ = some (.int .i64 c1) ∧ W'.cell? ⟨X, 2, none⟩ = some (.int .i64 c2) ∧ W'.cell? ⟨X, 3, none⟩ = some (.int .i64 c3) ∧ W'.cell? ⟨X, 4, none⟩ = some (.int .i64 c4) := by
  obtain ⟨h0, h1, h2, h3, h4, h5⟩ := h
  have hc : ∀ {b o : Nat} {v : Value}, W.cell? ⟨b, o, none⟩ = some v → ¬ F b → W'.cell? ⟨b, o, none⟩ = some v := fun hv hn => by
    rw [World.cell?_of_block (w := W) (hk.block _ (World.block_lt_of_cell? W _ hv) hn)]; exact hv
  exact ⟨hc h0 hp, hc h1 hX, hc h2 hX, hc h3 hX, hc h4 hX, hc h5 hX⟩
theorem OAt.post {w W W' : World} {arr : Array Value} {base pc pb P Q : Nat} {vl z vb v0 v1 v2 : Value} {m : Option Nat} {C : Sp.Core} {b : Sp.Books} (h : OAt w arr base pc vl pb vb P Q v0 v1 v2 m C W) (hb : BooksIs W' base pb z P Q b) (hk : Keeps (fun k => k = pb ∨ k = P ∨ k = Q ∨ vb.ownBlock = some k) W W') :
    OAt w arr base pc vl pb z P Q v0 v1 v2 m ⟨C.l, b, C.i⟩ W' := by
  have hge := h.ge
  have hg3 := h.core.books.ge
  refine ⟨hk.below h.low h.low.size (fun k hk' => ?_), ?_, h.core.post hb hk, h.ge⟩
  · rcases hk' with rfl | rfl | rfl | hk'
    · omega
    · omega
    · omega
    · have := (h.core.books.own.lt k hk').1; omega
  · rw [hk.block _ (Array.getElem?_eq_some_iff.1 h.box).1 (fun e => h.core.books.ne_cells h.box (by decide) (by decide) e rfl)]
    exact h.box
theorem post_code (b : Sp.Books) (p : Sp.Posting) : (Sp.post b p).2 = 0 ∨ (Sp.post b p).2 = 2 ∨ (Sp.post b p).2 = 90 ∨ (Sp.post b p).2 = 91 := by
  unfold Sp.post
  split
  · simp
  · split
    · split <;> simp
    · split <;> simp
theorem coreOf_none3 {pt : Parts} (h : ofPosts Sp.noBooks pt.posts = none) : coreOf pt = none := by
  unfold coreOf
  simp only [h]
  split
  · rfl
  · split <;> rfl
theorem ofPosts_step {b : Sp.Books} {l : List Sp.Posting} {i : Nat} {p : Sp.Posting} (h : l[i]? = some p) : ofPosts b (l.drop i) = if (Sp.post b p).2 = 0 ∧ (Sp.post b p).1.l.length = b.l.length + 1 then ofPosts (Sp.post b p).1 (l.drop (i + 1)) else none := by
  obtain ⟨hlt, rfl⟩ := List.getElem?_eq_some_iff.1 h
  rw [List.drop_eq_getElem_cons hlt, ofPosts]
def RelO2 (w : World) (arr : Array Value) (base pc : Nat) (vl : Value) (pb P Q : Nat) (pt : Parts) (x : Value) (wr : World) : Prop :=
  ∃ (b : Sp.Books) (vb : Value), b.l.length ≤ pt.posts.length ∧ x = .int .i64 b.l.length ∧ OAt w arr base pc vl pb vb P Q (.slice none 0 0) (.slice none 0 0) (.slice none 0 0) none ⟨pt.sagas, b, Sp.noIntake⟩ wr ∧
    ofPosts Sp.noBooks pt.posts = ofPosts b (pt.posts.drop b.l.length)
def ofRest (pt : Parts) : Nat → Sp.Intake → Option Sp.Intake
  | 0, i => ofStmts i pt.s0 pt.s1 pt.s2
  | 1, i => match ofStmt i 1 pt.s1 with
    | none => none
    | some i => ofStmt i 2 pt.s2
  | 2, i => ofStmt i 2 pt.s2
  | _, i => some i
theorem ofRest0 (pt : Parts) (i : Sp.Intake) : ofRest pt 0 i = (match ofStmt i 0 pt.s0 with | none => none | some i => ofRest pt 1 i) := rfl
theorem ofRest1 (pt : Parts) (i : Sp.Intake) : ofRest pt 1 i = (match ofStmt i 1 pt.s1 with | none => none | some i => ofRest pt 2 i) := rfl
theorem ofRest2 (pt : Parts) (i : Sp.Intake) : ofRest pt 2 i = (match ofStmt i 2 pt.s2 with | none => none | some i => ofRest pt 3 i) := by
  show ofStmt i 2 pt.s2 = _
  cases ofStmt i 2 pt.s2 <;> rfl
theorem ofStmt_skip {i : Sp.Intake} {p : Int} {s : Sp.Stmt} (h : s.seq = 0 ∧ s.rows = [] ∧ s.party = 0) : ofStmt i p s = some i := by unfold ofStmt; rw [if_pos h]
theorem ofStmt_other {i : Sp.Intake} {p : Int} {s : Sp.Stmt} (h : ¬(s.seq = 0 ∧ s.rows = [] ∧ s.party = 0)) (hp : s.party ≠ p) : ofStmt i p s = none := by unfold ofStmt; rw [if_neg h, if_neg hp]
theorem ofStmt_acc {i : Sp.Intake} {p : Int} {s : Sp.Stmt} (h : ¬(s.seq = 0 ∧ s.rows = [] ∧ s.party = 0)) (hp : s.party = p) : ofStmt i p s = (accept i s).1 := by unfold ofStmt; rw [if_neg h, if_pos hp]
theorem coreOf_none4 {pt : Parts} (h : ofRest pt 0 Sp.noIntake = none) : coreOf pt = none := by
  unfold coreOf
  simp only [show ofStmts Sp.noIntake pt.s0 pt.s1 pt.s2 = none from h]
  split
  · rfl
  · split
    · rfl
    · split <;> rfl
def RelO3 (w : World) (arr : Array Value) (base pc : Nat) (vl : Value) (pb : Nat) (vb : Value) (P Q : Nat) (pt : Parts) (b : Sp.Books) (x : Value) (wr : World) : Prop :=
  ∃ (k : Nat) (i : Sp.Intake) (v0 v1 v2 : Value) (m : Option Nat), k ≤ 3 ∧ x = .int .i64 k ∧ OAt w arr base pc vl pb vb P Q v0 v1 v2 m ⟨pt.sagas, b, i⟩ wr ∧ ofRest pt 0 Sp.noIntake = ofRest pt k i
theorem OAt.intake {w W : World} {arr : Array Value} {base pc pb P Q : Nat} {vl vb v0 v1 v2 : Value} {m : Option Nat} {C : Sp.Core} (h : OAt w arr base pc vl pb vb P Q v0 v1 v2 m C W) {i : Sp.Intake} {u0 u1 u2 : Value} {M : Nat} (hi : InIs W i u0 u1 u2 (some M)) (hM : M ≠ P ∧ M ≠ Q) :
    OAt w arr base pc vl pb vb P Q u0 u1 u2 (some M) ⟨C.l, C.b, i⟩ (setIn W pc i u0 u1 u2 M) := by
  have hge := h.ge
  have hpc := h.core.ge
  refine ⟨?_, ?_, h.core.intake hi hM, h.ge⟩
  · unfold setIn
    have hw : w.heap.size ≤ pc := by omega
    exact (((((((((h.low.setCell hw _).setCell hw _).setCell hw _).setCell hw _).setCell hw _).setCell hw _).setCell hw _).setCell hw _).setCell hw _).setCell hw _
  · have hne : w.heap.size ≠ pc := by omega
    unfold setIn
    rw [Below.heap_setCell _ _ _ _ (by simpa using hne), Below.heap_setCell _ _ _ _ (by simpa using hne), Below.heap_setCell _ _ _ _ (by simpa using hne), Below.heap_setCell _ _ _ _ (by simpa using hne), Below.heap_setCell _ _ _ _ (by simpa using hne), Below.heap_setCell _ _ _ _ (by simpa using hne), Below.heap_setCell _ _ _ _ (by simpa using hne), Below.heap_setCell _ _ _ _ (by simpa using hne), Below.heap_setCell _ _ _ _ (by simpa using hne), Below.heap_setCell _ _ _ _ (by simpa using hne)]
    exact h.box
theorem accept_no (w : World) (i : Sp.Intake) (v0 v1 v2 : Value) (m : Option Nat) (h : InIs w i v0 v1 v2 m) (s : Sp.Stmt) (v : Value) (hp : Parties w) (hl : RowsArg w v s.rows) {n : Int} (hn : accept i s = (none, n)) :
    Calls Tryz.prog 58 #[inVal i v0 v1 v2 m, .agg #[.int .i64 s.party, .int .i64 s.seq, v]] w (AccBad w n) :=
  (accept_any w i v0 v1 v2 m h s v hp hl).mono (fun e w' ha => by
    rcases ha with ⟨k, _, h1, h2⟩ | ⟨h1, _⟩
    · rw [hn] at h1; cases h1; exact h2
    · rw [hn] at h1; cases h1)
theorem accept_yes (w : World) (i : Sp.Intake) (v0 v1 v2 : Value) (m : Option Nat) (h : InIs w i v0 v1 v2 m) (s : Sp.Stmt) (v : Value) (hp : Parties w) (hl : RowsArg w v s.rows) (hy : accept i s = (some (Sp.setStmt i s), 0)) :
    Calls Tryz.prog 58 #[inVal i v0 v1 v2 m, .agg #[.int .i64 s.party, .int .i64 s.seq, v]] w (AccOk w (Sp.setStmt i s)) :=
  (accept_any w i v0 v1 v2 m h s v hp hl).mono (fun e w' ha => by
    rcases ha with ⟨k, _, h1, h2⟩ | ⟨_, h2⟩
    · rw [hy] at h1; cases h1
    · exact h2)
theorem accept_cases (i : Sp.Intake) (s : Sp.Stmt) : (∃ n, (n = 2 ∨ n = 93) ∧ accept i s = (none, n)) ∨ (accept i s = (some (Sp.setStmt i s), 0) ∧ 1 ≤ s.seq) := by
  unfold accept
  split
  · exact .inl ⟨2, .inl rfl, rfl⟩
  · rename_i h
    split
    · exact .inl ⟨93, .inr rfl, rfl⟩
    · refine .inr ⟨rfl, ?_⟩
      simp only [Bool.not_eq_false] at h
      unfold stmtOk at h
      simp at h
      omega
theorem and13 {a0 a1 a2 a3 a4 a5 a6 a7 a8 a9 b0 b1 b2 X : Prop} (h : a0 ∧ a1 ∧ a2 ∧ a3 ∧ a4 ∧ a5 ∧ a6 ∧ a7 ∧ a8 ∧ a9 ∧ b0 ∧ b1 ∧ b2 ∧ X) : X := h.2.2.2.2.2.2.2.2.2.2.2.2.2
def balK (C : Sp.Core) (j : Nat) : Bool := decide (C.b.bal 1 (j + 1 : Nat) = netAt C.l (j + 1) - Sp.inNet C.i (j + 1 : Nat)) && decide (C.b.bal 2 (j + 1 : Nat) = Sp.inNet C.i (j + 1 : Nat))
theorem balK_eq (C : Sp.Core) (j : Nat) : balK C j = (decide (C.b.bal 1 ((j : Int) + 1) = netAt C.l (j + 1) - Sp.inNet C.i ((j : Int) + 1)) && decide (C.b.bal 2 ((j : Int) + 1) = Sp.inNet C.i ((j : Int) + 1))) := rfl
def BalPre (C : Sp.Core) (k : Nat) : Prop := ∀ j, j < k → balK C j = true
theorem balPre_zero (C : Sp.Core) : BalPre C 0 := fun j h => by omega
theorem balPre_succ {C : Sp.Core} {k : Nat} (h : BalPre C k) (hk : balK C k = true) : BalPre C (k + 1) := fun j hj => by
  by_cases e : j = k
  · subst e; exact hk
  · exact h j (by omega)
theorem balanced_yes {C : Sp.Core} (h : BalPre C 60) : balanced C = true := by
  unfold balanced
  rw [List.all_eq_true]
  intro j hj
  exact h j (by simpa using hj)
theorem balanced_no {C : Sp.Core} {j : Nat} (hj : j < 60) (h : balK C j = false) : balanced C = false := by
  unfold balanced
  rw [List.all_eq_false]
  exact ⟨j, by simpa using hj, by rw [show (decide (C.b.bal 1 (j + 1 : Nat) = netAt C.l (j + 1) - Sp.inNet C.i (j + 1 : Nat)) && decide (C.b.bal 2 (j + 1 : Nat) = Sp.inNet C.i (j + 1 : Nat))) = false from h]; simp⟩
theorem coreOf_none5 {pt : Parts} {b : Sp.Books} {i : Sp.Intake} (hb : ofPosts Sp.noBooks pt.posts = some b) (hi : ofStmts Sp.noIntake pt.s0 pt.s1 pt.s2 = some i) (h : balanced ⟨pt.sagas, b, i⟩ = false) : coreOf pt = none := by
  unfold coreOf
  simp only [hb, hi, h]
  split
  · rfl
  · split <;> rfl
theorem coreOf_yes {pt : Parts} {b : Sp.Books} {i : Sp.Intake} (hf : ¬ 60 < pt.sagas.length) (hs : ofSagas [] pt.sagas = true) (hb : ofPosts Sp.noBooks pt.posts = some b) (hi : ofStmts Sp.noIntake pt.s0 pt.s1 pt.s2 = some i) (h : balanced ⟨pt.sagas, b, i⟩ = true) : coreOf pt = some ⟨pt.sagas, b, i⟩ := by
  unfold coreOf
  simp only [hb, hi, h, hs]
  rw [if_neg (by omega)]
  simp
theorem inNet_range {w : World} {i : Sp.Intake} {v0 v1 v2 : Value} {m : Option Nat} (h : InIs w i v0 v1 v2 m) (o : Int) : -1099511627776 ≤ Sp.inNet i o ∧ Sp.inNet i o ≤ 1099511627776 := by
  have ha : ∀ d, 0 ≤ Sp.amountOf i o d ∧ Sp.amountOf i o d ≤ 1099511627776 := fun d => by
    unfold Sp.amountOf
    split
    · rename_i r hr
      have := h.amt o d r hr
      split <;> omega
    · omega
  have h1 := ha 1
  have h4 := ha 4
  unfold Sp.inNet
  omega
theorem netAt_range {l : List Sp.Saga} (h : ∀ s ∈ l, Sp.orderCheck s.o = 0) (o : Nat) : 0 ≤ netAt l o ∧ netAt l o ≤ 1099511627776 := by
  unfold netAt
  split
  · rename_i s hs
    have := h s (List.mem_of_getElem? hs)
    unfold Sp.net
    split
    · omega
    · unfold Sp.orderCheck at this
      split at this
      · simp at this
      · omega
  · omega
theorem and11 {a0 a1 a2 a3 a4 a5 a6 a7 a8 a9 b0 X : Prop} (h : a0 ∧ a1 ∧ a2 ∧ a3 ∧ a4 ∧ a5 ∧ a6 ∧ a7 ∧ a8 ∧ a9 ∧ b0 ∧ X) : X := h.2.2.2.2.2.2.2.2.2.2.2
def RelO4 (w : World) (arr : Array Value) (base pc : Nat) (vl : Value) (pb : Nat) (vb : Value) (P Q : Nat) (v0 v1 v2 : Value) (m : Option Nat) (C : Sp.Core) (x : Value) (wr : World) : Prop :=
  ∃ j : Nat, j ≤ 60 ∧ x = .int .i64 ((j : Int) + 1) ∧ OAt w arr base pc vl pb vb P Q v0 v1 v2 m C wr ∧ BalPre C j
def RelO1 (w : World) (arr : Array Value) (base pc pb P Q : Nat) (pt : Parts) (x : Value) (wr : World) : Prop :=
  ∃ (i : Nat) (vl : Value), i ≤ pt.sagas.length ∧ x = .int .i64 i ∧ OAt w arr base pc vl pb (.slice none 0 0) P Q (.slice none 0 0) (.slice none 0 0) (.slice none 0 0) none ⟨pt.sagas.take i, Sp.noBooks, Sp.noIntake⟩ wr ∧
    ofSagas [] pt.sagas = ofSagas (pt.sagas.take i) (pt.sagas.drop i)
theorem ofPost_none {w w' : World} {pt : Parts} (h : coreOf pt = none) (hb : Below w.heap.size w w') : OfPost w pt (.returned (.tuple #[.pointer none, .int .i64 2])) w' := ⟨hb, .inl ⟨h, rfl⟩⟩
theorem coreOf_none1 {pt : Parts} (h : 60 < pt.sagas.length) : coreOf pt = none := by unfold coreOf; rw [if_pos h]
theorem coreOf_none2 {pt : Parts} (h : ofSagas [] pt.sagas = false) : coreOf pt = none := by
  unfold coreOf
  simp [h]
theorem ofSagas_step {l : List Sp.Saga} {i : Nat} {s : Sp.Saga} (h : l[i]? = some s) : ofSagas (l.take i) (l.drop i) = (decide (s.o.id = (i : Int) + 1) && Sp.valid s && !Sp.hasRef (l.take i) s.o.ref && ofSagas (l.take (i + 1)) (l.drop (i + 1))) := by
  obtain ⟨hlt, rfl⟩ := List.getElem?_eq_some_iff.1 h
  rw [List.drop_eq_getElem_cons hlt, ofSagas, List.length_take, Nat.min_eq_left (by omega), List.take_succ_eq_append_getElem hlt]
end Go.Proofs.YtkgpnikmdmpfaaaGreatDoor

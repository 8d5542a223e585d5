/-
  Package books: New, none, Balance, Many, List; slices.Clone.
-/
import Derived.Test.YtkgpnikmdmpfaaaGreatDoorBackP1
import Derived.Test.YtkgpnikmdmpfaaaGreatDoorBackP6
import Derived.Test.YtkgpnikmdmpfaaaGreatDoorBackP3
import Derived.Shelf.SlMaps.Clone
import Derived.Lib.SlMapMerge
import Derived.DeepKeys2
set_option linter.unusedVariables false
set_option linter.unusedSimpArgs false
namespace Go.Proofs.YtkgpnikmdmpfaaaGreatDoor
open Go.RowKit Go.Maps

def postCells (p : Sp.Posting) : List Value := [.string (str p.id), .int .i64 p.order, .int .i64 p.debit, .int .i64 p.credit, .int .i64 p.amount]
/-- The books at block pb of w are b; all that they lead to lies from base on. -/
structure BooksIs (w : World) (base pb : Nat) (v : Value) (P Q : Nat) (b : Sp.Books) : Prop where
  head : w.heap[pb]? = some (.cells #[v, .map (some P), .map (some Q)] 106 (0, 0))
  own : w.ownsRow base 92 5 v b.l.length (b.l.flatMap postCells)
  posted : MapAt Tryz.prog 9 idEnc w P b.l.length (fun id => (Sp.findPost b.l id).map postVal')
  bals : ∃ g : Int × Int → Option Int, MapAt Tryz.prog 156 pairEnc w Q (4 * b.l.length) (fun a => (g a).map (Value.int .i64)) ∧ ∀ a, (g a).getD 0 = b.bal a.1 a.2
  ne : P ≠ Q
  ge : base ≤ pb ∧ base ≤ P ∧ base ≤ Q
  inb : ∀ x y, Sp.in64 (b.bal x y) = true
  posts : ∀ p ∈ b.l, PostIn p
  few : b.l.length ≤ 1000000
theorem BooksIs.same {w w' : World} {base pb P Q : Nat} {v : Value} {b : Sp.Books} (h : BooksIs w base pb v P Q b) (hs : ∀ k, (k = pb ∨ k = P ∨ k = Q ∨ v.ownBlock = some k) → w'.heap[k]? = w.heap[k]?) : BooksIs w' base pb v P Q b where
  head := (hs pb (.inl rfl)).trans h.head
  own := own_same h.own (fun k hk => hs k (.inr (.inr (.inr hk))))
  posted := h.posted.same (hs P (.inr (.inl rfl)))
  bals := by obtain ⟨g, h1, h2⟩ := h.bals; exact ⟨g, h1.same (hs Q (.inr (.inr (.inl rfl)))), h2⟩
  ne := h.ne
  ge := h.ge
  inb := h.inb
  posts := h.posts
  few := h.few
theorem BooksIs.lt {w : World} {base pb P Q : Nat} {v : Value} {b : Sp.Books} (h : BooksIs w base pb v P Q b) : pb < w.heap.size ∧ P < w.heap.size ∧ Q < w.heap.size ∧ ∀ k, v.ownBlock = some k → k < w.heap.size := by
  obtain ⟨g, h1, _⟩ := h.bals
  refine ⟨(Array.getElem?_eq_some_iff.1 h.head).1, h.posted.lt, h1.lt, fun k hk => ?_⟩
  obtain ⟨c, hc⟩ := own_block h.own hk
  exact (Array.getElem?_eq_some_iff.1 hc).1
theorem BooksIs.below {w w' : World} {base pb P Q : Nat} {v : Value} {b : Sp.Books} (h : BooksIs w base pb v P Q b) (hb : Below w.heap.size w w') : BooksIs w' base pb v P Q b :=
  h.same (fun k hk => hb.block k (by obtain ⟨h1, h2, h3, h4⟩ := h.lt; rcases hk with rfl | rfl | rfl | hk; exact h1; exact h2; exact h3; exact h4 k hk))
theorem BooksIs.keeps {w w' : World} {base pb P Q : Nat} {v : Value} {b : Sp.Books} {F : Nat → Prop} (h : BooksIs w base pb v P Q b) (hk : Keeps F w w') (h1 : ¬ F pb) (h2 : ¬ F P) (h3 : ¬ F Q) (h4 : ∀ k, v.ownBlock = some k → ¬ F k) : BooksIs w' base pb v P Q b :=
  h.same (fun k hk' => by
    obtain ⟨q1, q2, q3, q4⟩ := h.lt
    rcases hk' with rfl | rfl | rfl | hk'
    · exact hk.block _ q1 h1
    · exact hk.block _ q2 h2
    · exact hk.block _ q3 h3
    · exact hk.block _ (q4 k hk') (h4 k hk'))
theorem BooksIs.cells {w : World} {base pb P Q : Nat} {v : Value} {b : Sp.Books} (h : BooksIs w base pb v P Q b) : w.cell? ⟨pb, 0, none⟩ = some v ∧ w.cell? ⟨pb, 1, none⟩ = some (.map (some P)) ∧ w.cell? ⟨pb, 2, none⟩ = some (.map (some Q)) ∧
    w.frozen? ⟨pb, 0, none⟩ = false :=
  ⟨by rw [cell_of_row _ _ _ _ _ _ h.head]; rfl, by rw [cell_of_row _ _ _ _ _ _ h.head]; rfl, by rw [cell_of_row _ _ _ _ _ _ h.head]; rfl, by simp [World.frozen?, h.head]⟩

set_option maxRecDepth 100000 in
theorem booksNew_any (w : World) : Calls Tryz.prog 19 #[] w fun e w' => e = .returned (.pointer (some ⟨w.heap.size + 2, 0, none⟩)) ∧
    BooksIs w' w.heap.size (w.heap.size + 2) (.slice none 0 0) w.heap.size (w.heap.size + 1) Sp.noBooks ∧ Below w.heap.size w w' ∧ w'.heap.size = w.heap.size + 3 := by
  have hmm := @run_makeMap Tryz.prog
  go_enter Tryz.func19, Tryz.ntmps19
  go_wp2
  go_ret
  refine ⟨rfl, ⟨?_, World.ownsRow_nil _ _ _ _, ?_, ⟨fun _ => none, ?_, fun _ => rfl⟩, by omega, by omega, fun _ _ => rfl, by simp [Sp.noBooks], by simp [Sp.noBooks]⟩, by (repeat (first | (with_reducible first | exact zR _ _ | exact zA _ _ | assumption | refine zL ?_ _ | refine zD ?_ | refine zN ?_ _) | ((with_reducible first | refine zC ?_ ?_ _ | refine zW ?_ ?_ _); rotate_left; focus (first | exact Nat.le_refl _ | (simp; done) | (simp; omega) | omega)) | with_reducible refine zT ?_ (by assumption))), by simp⟩
  · exact heap_at (by simp)
  · exact ((mapAt_new w).alloc _).alloc _
  · have h := (mapAt_new (P := Tryz.prog) (k := 156) (enc := pairEnc) (w.alloc (.map #[] 0))).alloc (.cells #[.slice none 0 0, .map (some w.heap.size), .map (some (w.heap.size + 1))] 106)
    simpa [Sp.noBooks] using h

theorem eql_map_nil (w : World) (t k e : TypeId) (p : Option Nat) (h : Tryz.prog.underlying t = some (.map k e)) : (binOp .eql t (.map p) (.map none)).run Tryz.prog w = .ok (.bool p.isNone) w := run_eql_map_nil _ _ _ _ _ h
theorem booksNone_no (w : World) (pb : Nat) (P : Nat) (h : w.cell? ⟨pb, 1, none⟩ = some (.map (some P))) : Calls Tryz.prog 91 #[.pointer (some ⟨pb, 0, none⟩)] w fun e w' => e = .returned (.bool false) ∧ w = w' := by
  have hq := fun w : World => eql_map_nil w 103 9 92 (some P) Tryz.underlying103
  go_enter Tryz.func91, Tryz.ntmps91
  go_wp2
  go_ret
  exact ⟨rfl, rfl⟩
theorem booksNone_yes (w : World) : Calls Tryz.prog 91 #[.pointer none] w fun e w' => e = .returned (.bool true) ∧ w = w' := by
  go_enter Tryz.func91, Tryz.ntmps91
  go_wp2
  go_ret
  exact ⟨rfl, rfl⟩
theorem zero_i64 (w : World) : (zeroValue 2).run Tryz.prog w = .ok (.int .i64 0) w := by kernel_rfl
theorem getD_int (o : Option Int) : (o.map (Value.int .i64)).getD (.int .i64 0) = .int .i64 (o.getD 0) := by cases o <;> rfl
theorem balance_any (w : World) (base pb P Q : Nat) (v : Value) (b : Sp.Books) (a o : Int) (hb : BooksIs w base pb v P Q b) (ha : Sp.in64 a = true) (ho : Sp.in64 o = true) :
    Calls Tryz.prog 84 #[.pointer (some ⟨pb, 0, none⟩), .int .i64 a, .int .i64 o] w fun e w' => e = .returned (.int .i64 (b.bal a o)) ∧ w = w' := by
  obtain ⟨g, h1, h2⟩ := hb.bals
  obtain ⟨c0, c1, c2, _⟩ := hb.cells
  have hl := h1.look slot_law Tryz.underlying104 (zero_i64 w) (a := (a, o)) (slot_key ha ho) false
  rw [if_neg (by simp), getD_int, h2] at hl
  simp only [pairEnc] at hl
  have hn := booksNone_no w pb P c1
  clear h1 h2 hb
  go_enter Tryz.func84, Tryz.ntmps84
  go_wp2_with (go_at_call 91; refine hn.mono ?_; rintro e w1 ⟨rfl, rfl⟩)
  go_ret
  exact ⟨rfl, rfl⟩
theorem many_any (w : World) (base pb P Q : Nat) (v : Value) (b : Sp.Books) (hb : BooksIs w base pb v P Q b) :
    Calls Tryz.prog 83 #[.pointer (some ⟨pb, 0, none⟩)] w fun e w' => e = .returned (.int .i64 b.l.length) ∧ w = w' := by
  obtain ⟨c0, c1, c2, _⟩ := hb.cells
  have hn := booksNone_no w pb P c1
  obtain ⟨q, c, rfl⟩ := own_slice' hb.own
  clear hb
  go_enter Tryz.func83, Tryz.ntmps83
  go_wp2_with (go_at_call 91; refine hn.mono ?_; rintro e w1 ⟨rfl, rfl⟩)
  go_ret
  exact ⟨rfl, rfl⟩
end Go.Proofs.YtkgpnikmdmpfaaaGreatDoor

/-
  maps.Clone, maps.Copy, slices.Clone at this program's types.
-/

set_option linter.unusedVariables false
set_option linter.unusedSimpArgs false
namespace Go.Proofs.YtkgpnikmdmpfaaaGreatDoor
open Go.RowKit Go.Maps

set_option maxRecDepth 100000 in
set_option maxHeartbeats 2000000 in
theorem clonePosted_run (b : Nat) (es : Array MapEntry) (clock : Nat) (w : World) (hb : w.heap[b]? = some (.map es clock)) :
    Calls Tryz.prog 107 #[.map (some b)] w fun e w' => e = .returned (.map (some w.heap.size)) ∧ w' = w.alloc (.map es clock) := by
  have hq := fun w => run_eql_map_nil_sl (P := Tryz.prog) w 103 _ _ (some b) Tryz.underlying103
  go_enter Tryz.func107, Tryz.ntmps107
  go_wp2
  rw [run_callFunc_extern Tryz.func126 (by kernel_rfl) (by kernel_rfl) (by kernel_rfl) (e := Extern.MapsClone.clone) (by kernel_rfl), run_maps_clone_sl w 103 hb]
  simp only [Result.andThen]
  rw [Oper.upon_value]
  go_wp2
  rw [run_typeAssert_map_sl _ 103 _ _ _ _ Tryz.underlying103]
  simp only [Result.andThen]
  rw [Oper.upon_value]
  go_wp2
  go_ret
  exact ⟨rfl, rfl⟩
set_option maxRecDepth 100000 in
set_option maxHeartbeats 2000000 in
theorem cloneBals_run (b : Nat) (es : Array MapEntry) (clock : Nat) (w : World) (hb : w.heap[b]? = some (.map es clock)) :
    Calls Tryz.prog 108 #[.map (some b)] w fun e w' => e = .returned (.map (some w.heap.size)) ∧ w' = w.alloc (.map es clock) := by
  have hq := fun w => run_eql_map_nil_sl (P := Tryz.prog) w 104 _ _ (some b) Tryz.underlying104
  go_enter Tryz.func108, Tryz.ntmps108
  go_wp2
  rw [run_callFunc_extern Tryz.func126 (by kernel_rfl) (by kernel_rfl) (by kernel_rfl) (e := Extern.MapsClone.clone) (by kernel_rfl), run_maps_clone_sl w 104 hb]
  simp only [Result.andThen]
  rw [Oper.upon_value]
  go_wp2
  rw [run_typeAssert_map_sl _ 104 _ _ _ _ Tryz.underlying104]
  simp only [Result.andThen]
  rw [Oper.upon_value]
  go_wp2
  go_ret
  exact ⟨rfl, rfl⟩
end Go.Proofs.YtkgpnikmdmpfaaaGreatDoor

/-
  maps.Copy, slices.Clone at this program's types; books.List, books.Copy.
-/

set_option linter.unusedVariables false
set_option linter.unusedSimpArgs false
namespace Go.Proofs.YtkgpnikmdmpfaaaGreatDoor
open Go.RowKit Go.Maps

theorem slot_inv (key : Value) (kl : Lit) (h : keyOf Tryz.prog 156 key = some kl) : ∃ a : Int × Int, key = .agg #[.int .i64 a.1, .int .i64 a.2] := by
  obtain ⟨xs, L, rfl, hl, _⟩ := keyOf_top (by kernel_rfl) h
  obtain ⟨n, hn⟩ := types_two
  rw [hn] at hl
  unfold Program.keyLits at hl
  simp only [Tryz.underlying156, c_slot] at hl
  split at hl
  · rename_i hc
    obtain ⟨hlen, _⟩ := hc
    match hx : xs.toList, hlen with
    | [c0, c1], _ =>
      rw [hx] at hl
      obtain ⟨ls, hls, _⟩ := Option.map_eq_some_iff.1 hl
      simp only [List.mapM_cons, List.mapM_nil, bind, Option.bind_eq_some_iff, pure, c_int] at hls
      obtain ⟨l0, h0, l1, ⟨l2, h2, _⟩, _⟩ := hls
      simp only [List.drop_zero, List.drop_succ_cons, List.take_succ_cons, List.take_zero] at h0 h2
      obtain ⟨a, ha, _⟩ := keyLits_int' Tryz.underlying3 h0
      obtain ⟨b, hb, _⟩ := keyLits_int' Tryz.underlying3 h2
      simp only [List.cons.injEq, and_true] at ha hb
      subst ha hb
      refine ⟨(a, b), ?_⟩
      have : xs = #[.int .i64 a, .int .i64 b] := by rw [← Array.toList_inj, hx]
      rw [this]
  · cases hl
theorem MapAt.clone {P : Program} {k : TypeId} {α : Type} [DecidableEq α] {enc : α → Value} {w : World} {b n : Nat} {f : α → Option Value} (h : MapAt P k enc w b n f) :
    ∃ es clock, w.heap[b]? = some (.map es clock) ∧ ∀ w', w'.heap[w.heap.size]? = some (.map es clock) → MapAt P k enc w' w.heap.size n f := by
  obtain ⟨D, ⟨es, clock, h1, h2, h3, h4⟩, hv⟩ := h
  exact ⟨es, clock, h1, fun w' hw => ⟨D, ⟨es, clock, hw, h2, h3, h4⟩, hv⟩⟩

set_option maxRecDepth 100000 in
set_option maxHeartbeats 2000000 in
theorem copyBal_any (w : World) (bd bs nd ns : Nat) (f g : Int × Int → Option Value) (hd' : MapAt Tryz.prog 156 pairEnc w bd nd f) (hs' : MapAt Tryz.prog 156 pairEnc w bs ns g) (hne : bd ≠ bs) (hroom : nd + ns ≤ maxLen) :
    Calls Tryz.prog 94 #[.map (some bd), .map (some bs)] w fun e w' => e = .returned (.tuple #[]) ∧
      MapAt Tryz.prog 156 pairEnc w' bd (nd + ns) (fun a => (g a).or (f a)) ∧ w.grownBy w' (some bd) := by
  obtain ⟨Dd, hd, vd⟩ := hd'
  obtain ⟨Ds, hs, vs⟩ := hs'
  have hsz := size_le hs slot_law
  have hbd := hd.lt
  have hbs := hs.lt
  go_enter Tryz.func94, Tryz.ntmps94
  go_wp2_with (first
    | (at_range; refine wpList_range_own _ rfl _ 104 rfl 156 2 slot_law Tryz.underlying104 RV bs ns _ rfl hs ?_; intro w0 hrg0 hg0 hs0)
    | go_in)
  go_frame
  go_loopw [8] (fun _ wr => ∃ (left : Lit → Bool) (cnt : Nat) (Dout : DataW Value), wr.ranges Tryz.prog 156 RV bs w.heap.size ns Ds left cnt ∧ cnt ≤ Maps.size Ds ∧
      wr.ownsMap Tryz.prog 156 RV bd (nd + (Maps.size Ds - cnt)) Dout ∧ Merged Dout Dd Ds left ∧ w.grownBy wr (some bd))
    (fun _ wr => wr.rangeLeft bs w.heap.size)
  case atStart =>
    exact ⟨_, _, Dd, hrg0, Nat.le_refl _, (hd.kept hg0 (by simp)).mono (by omega), merged_start Dd Ds, hg0.but _⟩
  case round =>
    obtain ⟨left, cnt, Dout, hrg, hcs, hout, hM, hgw⟩ := hrel
    go_wp2_with (first
      | (at_next; refine wpList_next_ranges _ rfl _ rfl 156 slot_law RV (fun a : Int × Int => Value.agg #[.int .i64 a.1, .int .i64 a.2]) id slot_inv (fun v _ _ => ⟨v, rfl⟩) bs w.heap.size ns _ _ _ rfl hrg ?_ ?_)
      | go_in)
    · intro hc0 hl0
      go_wp2
      go_end0
      subst hc0
      have e := merged_eq slot_law.one hM hl0 (hout.canon slot_law) (hd.canonK slot_law) (hs.canonK slot_law)
      subst e
      exact ⟨rfl, ⟨_, hout.mono (by omega), fun a kl hk => merge_view slot_law hd hs (vd a kl hk) (vs a kl hk)⟩, hgw⟩
    · intro a o c kl yd yp w1 cnt1 hkey hlx hv hat hrg1 hlt hg1 hs1 hen
      have hout1 := hout.kept hg1 (fun e => by have := Option.some.inj e; omega)
      have hltw : w.heap.size < w1.heap.size := hrg1.lt
      go_wp2_with (first
        | (at_mapUpdate; refine wpList_mapUpdate_own _ rfl _ _ _ 104 rfl 156 2 slot_law Tryz.underlying104 RV bd _ _ rfl (hout1.alloc _) (by omega) _ _ _ rfl rfl hkey yd yp hv ?_; intro w2 hout2 hg2; go_frame)
        | go_in)
      have hrg2 := (hrg1.alloc _).kept hg2 (fun e => hne (Option.some.inj e).symm) (fun e => by have := Option.some.inj e; omega)
      go_roundw
      case rel =>
        exact ⟨_, cnt1, _, hrg2, by omega, hout2.mono (by omega), merged_step hM hout.isMap (slot_law.key hkey) hat, ((hgw.andThen hg1 (fun j hj => .inl (by cases hj; exact Nat.le_refl _))).andThen (World.grownBy_alloc _ _ none) (fun j hj => by cases hj)).andThen hg2 (fun j hj => .inr hj)⟩
      case measure => rw [hrg2.left_eq, hrg.left_eq]; exact hlt
end Go.Proofs.YtkgpnikmdmpfaaaGreatDoor

/-
  slices.Clone at postings; books.List, books.Copy.
-/

set_option linter.unusedVariables false
set_option linter.unusedSimpArgs false
namespace Go.Proofs.YtkgpnikmdmpfaaaGreatDoor
open Go.RowKit Go.Maps

theorem postCells_len (p : Sp.Posting) : (postCells p).length = 5 := rfl
theorem postCells_one (p : Sp.Posting) : ∀ c ∈ postCells p, c.oneCell' = true := by simp [postCells, Value.oneCell']
theorem info_post : (Tryz.prog.info? 92).map (fun i => (i.zero, i.size, i.bytes)) = some (some (.agg #[.string (str []), .int .i64 0, .int .i64 0, .int .i64 0, .int .i64 0]), 5, 48) := by kernel_rfl

set_option maxRecDepth 100000 in
set_option maxHeartbeats 1000000 in
theorem clonePosts_any (w : World) (v : Value) (l : List Sp.Posting) (hv : Slc postCells 5 w v l) (hl : l.length ≤ 2000000) :
    Calls Tryz.prog 106 #[v] w fun e w' => ∃ v1, e = .returned v1 ∧ w'.ownsRow w.heap.size 92 5 v1 l.length (l.flatMap postCells) ∧ Below w.heap.size w w' := by
  have hq := fun (w : World) (a : Option Addr) (n c : Nat) => Lib.run_eql_slice_nil (P := Tryz.prog) w 64 _ a n c 0 0 Tryz.underlying64
  rcases hv with ⟨rfl, rfl⟩ | ⟨b, cap, rfl, hcap, hb, hc⟩
  · go_enter Tryz.func106, Tryz.ntmps106
    go_wp2
    go_ret
    exact ⟨_, rfl, World.ownsRow_nil _ _ _ _, Below.refl _ _⟩
  · have hv : Slc postCells 5 (w.alloc (.cells #[] 92)) (.slice (some ⟨b, 0, none⟩) l.length cap) l := Slc.mono (.inr ⟨b, cap, rfl, hcap, hb, hc⟩) (alloc_grew _ _)
    clear hc
    obtain ⟨v1, w1, hr, ho, hg, _⟩ := run_appAll (P := Tryz.prog) (w := w.alloc (.cells #[] 92)) postCells_len w.heap.size 64 64 92 _ 48 Tryz.underlying64 info_post rfl (by omega)
      (.slice (some ⟨w.heap.size, 0, none⟩) 0 0) 0 [] ⟨rfl, .inr ⟨w.heap.size, 0, #[], rfl, Nat.le_refl _, heap_alloc_new w _, Nat.le_refl _, by unfold maxLen; omega, rfl, rfl⟩⟩ (.slice (some ⟨b, 0, none⟩) l.length cap) l hv postCells_one (by unfold maxLen; omega) (by omega) (by simp)
    obtain ⟨q, c, rfl⟩ := own_slice' ho
    simp only [Nat.zero_add, List.nil_append] at ho hr
    have hB : Below w.heap.size w w1 := (alloc_grew w _).grown hg (by simp) (fun k hk => by simp [Value.ownBlock] at hk; omega)
    clear hv hg
    replace hr := Lib.hid hr
    replace ho := Lib.hid ho
    replace hB := Lib.hid hB
    go_enter Tryz.func106, Tryz.ntmps106
    go_wp2_with (at_builtin; refine wpList_app rfl (.tmp 5) (.tmp 6) rfl rfl rfl hr.out ?_)
    go_ret
    exact ⟨_, rfl, ho.out, hB.out⟩
end Go.Proofs.YtkgpnikmdmpfaaaGreatDoor

/-
  books.List, books.Copy.
-/

set_option linter.unusedVariables false
set_option linter.unusedSimpArgs false
namespace Go.Proofs.YtkgpnikmdmpfaaaGreatDoor
open Go.RowKit Go.Maps

theorem BooksIs.slc {w : World} {base pb P Q : Nat} {v : Value} {b : Sp.Books} (h : BooksIs w base pb v P Q b) : Slc postCells 5 w v b.l := slc_of_own postCells_len (by omega) h.own

set_option maxRecDepth 100000 in
theorem list_any (w : World) (base pb P Q : Nat) (v : Value) (b : Sp.Books) (hb : BooksIs w base pb v P Q b) :
    Calls Tryz.prog 71 #[.pointer (some ⟨pb, 0, none⟩)] w fun e w' => ∃ v1, e = .returned v1 ∧ w'.ownsRow w.heap.size 92 5 v1 b.l.length (b.l.flatMap postCells) ∧ Below w.heap.size w w' := by
  obtain ⟨c0, c1, c2, _⟩ := hb.cells
  have hn := booksNone_no w pb P c1
  have hc := clonePosts_any w v b.l hb.slc (by have := hb.few; omega)
  clear hb
  go_enter Tryz.func71, Tryz.ntmps71
  go_wp2_with (first | (go_at_call 91; refine hn.mono ?_; rintro e w1 ⟨rfl, rfl⟩) | (go_at_call 106; refine hc.mono ?_; rintro e w1 ⟨v1, rfl, ho, hb1⟩; replace ho := Lib.hid ho; replace hb1 := Lib.hid hb1))
  go_ret
  exact ⟨_, rfl, ho.out, hb1.out⟩

theorem clonePosted_any (w : World) (b : Nat) {n : Nat} {f : Bytes → Option Value} (h : MapAt Tryz.prog 9 idEnc w b n f) :
    Calls Tryz.prog 107 #[.map (some b)] w fun e w' => ∃ k, e = .returned (.map (some k)) ∧ MapAt Tryz.prog 9 idEnc w' k n f ∧ k = w.heap.size ∧ Below w.heap.size w w' := by
  obtain ⟨es, clock, h1, h2⟩ := h.clone
  refine (clonePosted_run b es clock w h1).mono ?_
  rintro e w' ⟨rfl, rfl⟩
  exact ⟨_, rfl, h2 _ (heap_alloc_new w _), rfl, alloc_grew _ _⟩
theorem cloneBals_any (w : World) (b : Nat) {n : Nat} {f : Int × Int → Option Value} (h : MapAt Tryz.prog 156 pairEnc w b n f) :
    Calls Tryz.prog 108 #[.map (some b)] w fun e w' => ∃ k, e = .returned (.map (some k)) ∧ MapAt Tryz.prog 156 pairEnc w' k n f ∧ k = w.heap.size ∧ Below w.heap.size w w' := by
  obtain ⟨es, clock, h1, h2⟩ := h.clone
  refine (cloneBals_run b es clock w h1).mono ?_
  rintro e w' ⟨rfl, rfl⟩
  exact ⟨_, rfl, h2 _ (heap_alloc_new w _), rfl, alloc_grew _ _⟩
/-- What is held while books are copied. -/
theorem copyS {w w1 w2 : World} {base pb P Q : Nat} {v : Value} {b : Sp.Books} {c1 c2 : Value}
    (h : w1.cell? ⟨pb, 0, none⟩ = some v ∧ w1.cell? ⟨pb, 1, none⟩ = some c1 ∧ w1.cell? ⟨pb, 2, none⟩ = some c2 ∧ Hid (BooksIs w1 base pb v P Q b ∧ Below w.heap.size w w1)) (hb : Below w1.heap.size w1 w2) :
    w2.cell? ⟨pb, 0, none⟩ = some v ∧ w2.cell? ⟨pb, 1, none⟩ = some c1 ∧ w2.cell? ⟨pb, 2, none⟩ = some c2 ∧ Hid (BooksIs w2 base pb v P Q b ∧ Below w.heap.size w w2) := by
  obtain ⟨h0, h1, h2, h3⟩ := h
  exact ⟨heldc hb h0, heldc hb h1, heldc hb h2, ⟨h3.out.1.below hb, h3.out.2.trans (hb.mono h3.out.2.size)⟩⟩
theorem copyS_is {w w1 : World} {base pb P Q : Nat} {v : Value} {b : Sp.Books} {c1 c2 : Value}
    (h : w1.cell? ⟨pb, 0, none⟩ = some v ∧ w1.cell? ⟨pb, 1, none⟩ = some c1 ∧ w1.cell? ⟨pb, 2, none⟩ = some c2 ∧ Hid (BooksIs w1 base pb v P Q b ∧ Below w.heap.size w w1)) : BooksIs w1 base pb v P Q b := h.2.2.2.out.1
theorem copyS_low {w w1 : World} {base pb P Q : Nat} {v : Value} {b : Sp.Books} {c1 c2 : Value}
    (h : w1.cell? ⟨pb, 0, none⟩ = some v ∧ w1.cell? ⟨pb, 1, none⟩ = some c1 ∧ w1.cell? ⟨pb, 2, none⟩ = some c2 ∧ Hid (BooksIs w1 base pb v P Q b ∧ Below w.heap.size w w1)) : Below w.heap.size w w1 := h.2.2.2.out.2
set_option maxRecDepth 100000 in
set_option maxHeartbeats 2000000 in
theorem booksCopy_any (w : World) (base pb P Q : Nat) (v : Value) (b : Sp.Books) (hb : BooksIs w base pb v P Q b) :
    Calls Tryz.prog 70 #[.pointer (some ⟨pb, 0, none⟩)] w fun e w' => ∃ k v1 P1 Q1, e = .returned (.pointer (some ⟨k, 0, none⟩)) ∧ BooksIs w' w.heap.size k v1 P1 Q1 b ∧ Below w.heap.size w w' := by
  obtain ⟨c0, c1, c2, _⟩ := hb.cells
  have hn := booksNone_no w pb P c1
  obtain ⟨g, hg1, hg2⟩ := hb.bals
  have hH : Hid (BooksIs w base pb v P Q b ∧ Below w.heap.size w w.drew) := ⟨hb, (Below.refl _ _).drew⟩
  have HG : Hid (MapAt Tryz.prog 156 pairEnc w Q (4 * b.l.length) (fun a => (g a).map (Value.int .i64)) ∧ ∀ a, (g a).getD 0 = b.bal a.1 a.2) := ⟨hg1, hg2⟩
  have HB := Lib.hid hb
  have HF : Hid (b.l.length ≤ 2000000) := Lib.hid (by have := hb.few; omega)
  clear hb hg1 hg2
  go_enter Tryz.func70, Tryz.ntmps70
  go_wp2_with (go_at_call 91; refine hn.mono ?_; rintro e w1 ⟨rfl, rfl⟩)
  have hH2 : w.drew.cell? ⟨pb, 0, none⟩ = some v ∧ w.drew.cell? ⟨pb, 1, none⟩ = some (.map (some P)) ∧ w.drew.cell? ⟨pb, 2, none⟩ = some (.map (some Q)) ∧ Hid (BooksIs w.drew base pb v P Q b ∧ Below w.heap.size w w.drew) :=
    ⟨c0, c1, c2, ⟨hH.out.1.below ((Below.refl _ _).drew), hH.out.2⟩⟩
  go_region_held3 (fun w' => w'.cell? ⟨pb, 0, none⟩ = some v ∧ w'.cell? ⟨pb, 1, none⟩ = some (.map (some P)) ∧ w'.cell? ⟨pb, 2, none⟩ = some (.map (some Q)) ∧ Hid (BooksIs w' base pb v P Q b ∧ Below w.heap.size w w'))
    (first | exact hH2 | exact copyS (by assumption) (by assumption) | exact copyS (by assumption) (alloc_grew _ _) | assumption)
    (first
      | (go_at_call 106; refine Calls.mono (clonePosts_any _ v b.l (copyS_is (w := w) (base := base) (P := P) (Q := Q) (b := b) (by assumption)).slc HF.out) ?_; rintro e w1 ⟨v1, rfl, ho1, hb1⟩; obtain ⟨q1, q2, rfl⟩ := own_slice' ho1; replace ho1 := Lib.hid ho1)
      | (go_at_call 107; refine Calls.mono (clonePosted_any _ P (copyS_is (w := w) (base := base) (P := P) (Q := Q) (b := b) (by assumption)).posted) ?_; rintro e w2 ⟨k2, rfl, hm2, hk2, hb2⟩)
      | (go_at_call 108; refine Calls.mono (cloneBals_any _ Q (HG.out.1.below (copyS_low (w := w) (base := base) (P := P) (Q := Q) (b := b) (by assumption)))) ?_; rintro e w3 ⟨k3, rfl, hm3, hk3, hb3⟩))
  rename_i hHeld
  subst hk2 hk3
  have hlow := copyS_low (w := w) (base := base) (P := P) (Q := Q) (b := b) hHeld
  have s1 := hb1.size
  have s2 := hb2.size
  have s3 := hb3.size
  have e0 : w.drew.heap.size = w.heap.size := rfl
  have ho := ho1.out
  rw [e0] at ho s1
  have ho2 := own_same ho (w' := w3.alloc (.cells #[.slice q1 b.l.length q2, .map (some w1.heap.size), .map (some w2.heap.size)] 106)) (fun k hk => by
    obtain ⟨c, hc⟩ := own_block ho hk
    have hlt := (Array.getElem?_eq_some_iff.1 hc).1
    rw [Below.heap_alloc _ _ _ (by omega), hb3.block k (by omega), hb2.block k hlt])
  have hfin : BooksIs (w3.alloc (.cells #[.slice q1 b.l.length q2, .map (some w1.heap.size), .map (some w2.heap.size)] 106)) w.heap.size w3.heap.size (.slice q1 b.l.length q2) w1.heap.size w2.heap.size b :=
    ⟨heap_at rfl, ho2, (hm2.below hb3).alloc _, ⟨g, hm3.alloc _, HG.out.2⟩, by have := hm2.lt; omega, ⟨by omega, by omega, by omega⟩, HB.out.inb, HB.out.posts, HB.out.few⟩
  replace hfin := Lib.hid hfin
  replace hlow := Lib.hid hlow
  clear hm2 hm3 ho1 ho ho2 hb1 hb2 hb3 hHeld
  go_wp2
  go_ret
  exact ⟨_, _, _, _, rfl, hfin.out, hlow.out⟩
end Go.Proofs.YtkgpnikmdmpfaaaGreatDoor

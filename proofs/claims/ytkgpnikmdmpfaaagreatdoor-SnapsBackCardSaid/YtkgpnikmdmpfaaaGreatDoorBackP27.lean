/-
  core.Core.place.
-/
import Derived.Test.YtkgpnikmdmpfaaaGreatDoorBackP19
import Derived.Test.YtkgpnikmdmpfaaaGreatDoorBackP26
import Derived.Test.YtkgpnikmdmpfaaaGreatDoorBackP17
set_option linter.unusedVariables false
set_option linter.unusedSimpArgs false
namespace Go.Proofs.YtkgpnikmdmpfaaaGreatDoor
open Go.RowKit Go.Maps

/-- What an entry does to the core at block pc. -/
def ApplyPost (w : World) (base pc pb P Q : Nat) (r : Sp.Core × Int) (e : Ending) (w' : World) : Prop :=
  Below base w w' ∧ ∃ vl vb v0 v1 v2 m, e = .returned (.int .i64 r.2) ∧ CoreIs w' base pc vl pb vb P Q v0 v1 v2 m r.1
theorem CoreIs.low {w : World} {base pc pb P Q : Nat} {vl vb v0 v1 v2 : Value} {m : Option Nat} {C : Sp.Core} (h : CoreIs w base pc vl pb vb P Q v0 v1 v2 m C) : base ≤ w.heap.size := by
  have := h.ge
  have := (Array.getElem?_eq_some_iff.1 h.head).1
  omega
theorem ApplyPost.same {w w' : World} {base pc pb P Q : Nat} {vl vb v0 v1 v2 : Value} {m : Option Nat} {C : Sp.Core} {n : Int} (h : CoreIs w base pc vl pb vb P Q v0 v1 v2 m C) (hb : Below w.heap.size w w') : ApplyPost w base pc pb P Q (C, n) (.returned (.int .i64 n)) w' :=
  ⟨hb.mono h.low, _, _, _, _, _, _, rfl, h.below hb⟩
theorem keep7 {W W' : World} {X pc : Nat} {vl : Value} {o : Sp.Order} {row : Option Nat} (h : W.cell? ⟨pc, 0, none⟩ = some vl ∧ W.frozen? ⟨pc, 0, none⟩ = false ∧ W.cell? ⟨X, 0, none⟩ = some (.int .i64 o.id) ∧ W.cell? ⟨X, 1, none⟩ = some (.string (str o.ref)) ∧ W.cell? ⟨X, 2, none⟩ = some (.string (str o.sku)) ∧ W.cell? ⟨X, 3, none⟩ = some (.int .i64 o.qty) ∧ W.cell? ⟨X, 4, none⟩ = some (.int .i64 o.amount)) (hg : W.grownBy W' row) (hp : some pc ≠ row) (hX : some X ≠ row) :
    W'.cell? ⟨pc, 0, none⟩ = some vl ∧ W'.frozen? ⟨pc, 0, none⟩ = false ∧ W'.cell? ⟨X, 0, none⟩ = some (.int .i64 o.id) ∧ W'.cell? ⟨X, 1, none⟩ = some (.string (str o.ref)) ∧ W'.cell? ⟨X, 2, none⟩ = some (.string (str o.sku)) ∧ W'.cell? ⟨X, 3, none⟩ = some (.int .i64 o.qty) ∧ W'.cell? ⟨X, 4, none⟩ = some (.int .i64 o.amount) := by
  obtain ⟨h0, h1, h2, h3, h4, h5, h6⟩ := h
  exact ⟨hg.cell h0 hp, by rw [World.frozen?_of_block (w := W) (a := ⟨pc, 0, none⟩) (hg.block pc (World.block_lt_of_cell? W _ h0) hp)]; exact h1, hg.cell h2 hX, hg.cell h3 hX, hg.cell h4 hX, hg.cell h5 hX, hg.cell h6 hX⟩
set_option maxRecDepth 100000 in
set_option maxHeartbeats 4000000 in
theorem place_any (w : World) (base pc pb P Q : Nat) (vl vb v0 v1 v2 : Value) (m : Option Nat) (C : Sp.Core) (h : CoreIs w base pc vl pb vb P Q v0 v1 v2 m C) (o : Sp.Order) (hr : o.ref.length ≤ 1000) (hs : o.sku.length ≤ 1000) :
    Calls Tryz.prog 21 #[.pointer (some ⟨pc, 0, none⟩), orderVal o] w (ApplyPost w base pc pb P Q (Sp.place C o)) := by
  obtain ⟨ql, kl, rfl⟩ := own_slice' h.own
  have hlow := h.low
  have hlt := (Array.getElem?_eq_some_iff.1 h.head).1
  have hge := h.ge
  have hmany := h.orders
  obtain ⟨id, ref, sku, qty, amount⟩ := o
  simp only at hr hs
  have HK := fun W => orderCheck_any id ref sku qty amount W (by omega) (by omega)
  have hpl : Sp.place C ⟨id, ref, sku, qty, amount⟩ = if Sp.orderCheck ⟨id, ref, sku, qty, amount⟩ ≠ 0 then (C, Sp.orderCheck ⟨id, ref, sku, qty, amount⟩) else if Sp.hasRef C.l ref then (C, 91) else if 60 ≤ C.l.length then (C, 60) else if id ≠ C.l.length + 1 then (C, 2) else (⟨C.l ++ [Sp.begin_ ⟨id, ref, sku, qty, amount⟩], C.b, C.i⟩, 0) := rfl
  have hchk : Hid (Sp.orderCheck ⟨id, ref, sku, qty, amount⟩ = 0 → True) := Lib.hid (fun _ => trivial)
  rw [hpl]
  clear hpl
  generalize hk : Sp.orderCheck ⟨id, ref, sku, qty, amount⟩ = k at HK
  simp only [orderVal]
  replace HK := Lib.hid HK
  by_cases hk0 : k = 0
  · subst hk0
    rw [if_neg (by simp)]
    cases hh : Sp.hasRef C.l ref
    · rw [if_neg (by simp)]
      by_cases hl : 60 ≤ C.l.length
      · rw [if_pos hl]
        have HC := Lib.hid h
        replace hh := Lib.hid hh
        replace hk := Lib.hid hk
        clear h
        go_enter Tryz.func21, Tryz.ntmps21
        go_wp2_with (first
          | (go_at_call 49; refine Calls.mono (HK.out _) ?_; rintro e w1 ⟨rfl, hb1⟩; have hz1 := hb1.size; (try simp at hz1); have HC1 := Lib.hid (HC.out.below (Below.trans (alloc_grew w _) (hb1.mono (by simp)))); obtain ⟨hc1, hf1, hr1, _⟩ := brow hb1; replace hb1 := Lib.hid hb1)
          | (go_at_call 50; refine Calls.mono (has_any _ pc _ C.l ref (cells_at HC1.out.head 0) HC1.out.slc (by omega)) ?_; rw [hh.out]; rintro e w2 ⟨rfl, hb2⟩; have hz2 := hb2.size; have HC2 := Lib.hid (HC1.out.below hb2); have hx2 := cells_at HC2.out.head 0; (simp only [List.getElem?_toArray, List.getElem?_cons_zero] at hx2); replace hb2 := Lib.hid hb2))
        go_ret
        refine ApplyPost.same HC.out ?_
        have := hb1.out
        have := hb2.out
        (repeat (first | (with_reducible first | exact zR _ _ | exact zA _ _ | assumption | refine zL ?_ _ | refine zD ?_ | refine zN ?_ _) | ((with_reducible first | refine zC ?_ ?_ _ | refine zW ?_ ?_ _); rotate_left; focus (first | exact Nat.le_refl _ | (simp; done) | (simp; omega) | omega)) | with_reducible refine zT ?_ (by assumption)))
      · rw [if_neg hl]
        have HC := Lib.hid h
        replace hh := Lib.hid hh
        replace hk := Lib.hid hk
        clear h
        by_cases hid : id = (C.l.length : Int) + 1
        · rw [if_neg (by simpa using hid)]
          have HB := fun W => Begin_any ⟨id, ref, sku, qty, amount⟩ W
          simp only [orderVal, sagaVal, Sp.begin_] at HB
          replace HB := Lib.hid HB
          have hid2 := Lib.hid hid
          have hidn : (id != (C.l.length : Int) + 1) = false := by simp [hid]
          have hide : (id == (C.l.length : Int) + 1) = true := by simp [hid]
          clear hid
          go_enter Tryz.func21, Tryz.ntmps21
          go_wp2_with (first
            | (go_at_call 49; refine Calls.mono (HK.out _) ?_; rintro e w1 ⟨rfl, hb1⟩; have hz1 := hb1.size; (try simp at hz1); have HC1 := Lib.hid (HC.out.below (Below.trans (alloc_grew w _) (hb1.mono (by simp)))); obtain ⟨hc1, hf1, hr1, _⟩ := brow hb1; replace hb1 := Lib.hid hb1)
            | (go_at_call 50; refine Calls.mono (has_any _ pc _ C.l ref (cells_at HC1.out.head 0) HC1.out.slc (by omega)) ?_; rw [hh.out]; rintro e w2 ⟨rfl, hb2⟩; have hz2 := hb2.size; have HC2 := Lib.hid (HC1.out.below hb2); have hx2 := cells_at HC2.out.head 0; (simp only [List.getElem?_toArray, List.getElem?_cons_zero] at hx2); have hX2 := cells_at (heap_below hb2 (heap_below hb1.out (heap_alloc_new w (.cells #[.int .i64 id, .string (str ref), .string (str sku), .int .i64 qty, .int .i64 amount] 32)))); replace hb2 := Lib.hid hb2; clear hc1 hf1 hr1))
          go_quiet (fail)
          go_wp2
          have hS0 := Lib.hid (show ∀ W', Below w2.heap.size w2 W' → (fun W' => W'.cell? ⟨pc, 0, none⟩ = some (.slice ql C.l.length kl) ∧ W'.frozen? ⟨pc, 0, none⟩ = false ∧ W'.cell? ⟨w.heap.size, 0, none⟩ = some (.int .i64 id) ∧ W'.cell? ⟨w.heap.size, 1, none⟩ = some (.string (str ref)) ∧ W'.cell? ⟨w.heap.size, 2, none⟩ = some (.string (str sku)) ∧ W'.cell? ⟨w.heap.size, 3, none⟩ = some (.int .i64 qty) ∧ W'.cell? ⟨w.heap.size, 4, none⟩ = some (.int .i64 amount)) W' from fun W' hb => by
            have hx := cells_at (heap_below hb (heap_below hb2.out (heap_below hb1.out (heap_alloc_new w (.cells #[.int .i64 id, .string (str ref), .string (str sku), .int .i64 qty, .int .i64 amount] 32)))))
            have hC4 := HC2.out.below hb
            exact ⟨cells_at hC4.head 0, frozen_at hC4.head 0, hx 0, hx 1, hx 2, hx 3, hx 4⟩)
          have hne1 := Lib.hid (show (Value.slice ql C.l.length kl).ownBlock ≠ some pc from fun he => by
            obtain ⟨cc, hc⟩ := own_block HC.out.own he
            exact ne_of_types hc HC.out.head (by decide) rfl)
          have hne2 := Lib.hid (show (Value.slice ql C.l.length kl).ownBlock ≠ some w.heap.size from fun he => by
            obtain ⟨cc, hc⟩ := own_block HC.out.own he
            have := (Array.getElem?_eq_some_iff.1 hc).1
            omega)
          clear hx2 hX2
          refine any_begin (S := (fun W' => W'.cell? ⟨pc, 0, none⟩ = some (.slice ql C.l.length kl) ∧ W'.frozen? ⟨pc, 0, none⟩ = false ∧ W'.cell? ⟨w.heap.size, 0, none⟩ = some (.int .i64 id) ∧ W'.cell? ⟨w.heap.size, 1, none⟩ = some (.string (str ref)) ∧ W'.cell? ⟨w.heap.size, 2, none⟩ = some (.string (str sku)) ∧ W'.cell? ⟨w.heap.size, 3, none⟩ = some (.int .i64 qty) ∧ W'.cell? ⟨w.heap.size, 4, none⟩ = some (.int .i64 amount))) 11 (by kernel_rfl) ?_ (fun hHeld => ?_)
          focus (first | exact keep7 (o := ⟨id, ref, sku, qty, amount⟩) (by assumption) (World.grownBy_alloc w3 _ none) (by simp) (by simp) | exact keep7 (o := ⟨id, ref, sku, qty, amount⟩) (by assumption) hgi hne1.out.symm hne2.out.symm | exact hS0.out _ (by (repeat (first | (with_reducible first | exact zR _ _ | exact zA _ _ | assumption | refine zL ?_ _ | refine zD ?_ | refine zN ?_ _) | ((with_reducible first | refine zC ?_ ?_ _ | refine zW ?_ ?_ _); rotate_left; focus (first | exact Nat.le_refl _ | (simp; done) | (simp; omega) | omega)) | with_reducible refine zT ?_ (by assumption)))))
          have hq := plan [0, 1, 2, 3, 4, 5]
          iterate 6 (refine tk hq ?_ rfl (by kernel_rfl) (by assumption) (by rfl) (fun _ _ _ h => h) ?hy ?_; (case hy => (intro w hSw; (try dsimp only at hSw); go_simp; (try with_reducible rfl))); replace hq := hq.tl; (try simp only [Act.put, yA, yB, yC]))
          clear hq
          refine ao 6 rfl (by kernel_rfl) (by rfl) (fun K hK => ?_)
          go_simp
          (go_at_call 51; refine Calls.mono (HB.out _) ?_; rintro e w3 ⟨rfl, hb3⟩; have HC3 := Lib.hid (HC2.out.below (w' := w3) (by (repeat (first | (with_reducible first | exact zR _ _ | exact zA _ _ | assumption | refine zL ?_ _ | refine zD ?_ | refine zN ?_ _) | ((with_reducible first | refine zC ?_ ?_ _ | refine zW ?_ ?_ _); rotate_left; focus (first | exact Nat.le_refl _ | (simp; done) | (simp; omega) | omega)) | with_reducible refine zT ?_ (by assumption))))); have hB3 := Lib.hid (show Below w2.heap.size w2 w3 by (repeat (first | (with_reducible first | exact zR _ _ | exact zA _ _ | assumption | refine zL ?_ _ | refine zD ?_ | refine zN ?_ _) | ((with_reducible first | refine zC ?_ ?_ _ | refine zW ?_ ?_ _); rotate_left; focus (first | exact Nat.le_refl _ | (simp; done) | (simp; omega) | omega)) | with_reducible refine zT ?_ (by assumption)))))
          refine hK.out _ _ ?_ (fun hHeld => ?_)
          focus (first | exact keep7 (o := ⟨id, ref, sku, qty, amount⟩) (by assumption) (World.grownBy_alloc w3 _ none) (by simp) (by simp) | exact keep7 (o := ⟨id, ref, sku, qty, amount⟩) (by assumption) hgi hne1.out.symm hne2.out.symm | exact hS0.out _ (by (repeat (first | (with_reducible first | exact zR _ _ | exact zA _ _ | assumption | refine zL ?_ _ | refine zD ?_ | refine zN ?_ _) | ((with_reducible first | refine zC ?_ ?_ _ | refine zW ?_ ?_ _); rotate_left; focus (first | exact Nat.le_refl _ | (simp; done) | (simp; omega) | omega)) | with_reducible refine zT ?_ (by assumption)))))
          clear hK K
          (try simp only [Act.put, yA, yB, yC])
          refine ao 7 rfl (by kernel_rfl) (by rfl) (fun K hK => ?_)
          go_simp
          refine hK.out _ _ ?_ (fun hHeld => ?_)
          focus (first | exact keep7 (o := ⟨id, ref, sku, qty, amount⟩) (by assumption) (World.grownBy_alloc w3 _ none) (by simp) (by simp) | exact keep7 (o := ⟨id, ref, sku, qty, amount⟩) (by assumption) hgi hne1.out.symm hne2.out.symm | exact hS0.out _ (by (repeat (first | (with_reducible first | exact zR _ _ | exact zA _ _ | assumption | refine zL ?_ _ | refine zD ?_ | refine zN ?_ _) | ((with_reducible first | refine zC ?_ ?_ _ | refine zW ?_ ?_ _); rotate_left; focus (first | exact Nat.le_refl _ | (simp; done) | (simp; omega) | omega)) | with_reducible refine zT ?_ (by assumption)))))
          clear hK K
          (try simp only [Act.put, yA, yB, yC])
          refine ao 8 rfl (by kernel_rfl) (by rfl) (fun K hK => ?_)
          obtain ⟨z, wi, hri, hoi, hgi, _⟩ := run_app1 (P := Tryz.prog) (W := w3) base 56 56 89 _ 12 112 Tryz.underlying56 info_saga rfl (by decide) (.slice ql C.l.length kl) C.l.length (C.l.flatMap sagaCells) #[.int .i64 id, .string (str ref), .string (str sku), .int .i64 qty, .int .i64 amount, .int .i64 1, .int .i64 0, .int .i64 0, .int .i64 0, .int .i64 0, .int .i64 0, .bool false] rfl (by simp [Value.oneCell']) HC3.out.own (Nat.le_trans hlow (Nat.le_trans (by omega) hB3.out.size)) (by omega) (by unfold maxLen; omega); obtain ⟨z1, z3, rfl⟩ := own_slice' hoi; refine wp_append (.tmp 38) (.tmp 41) rfl rfl rfl hri ?_
          refine hK.out _ _ ?_ (fun hHeld => ?_)
          focus (first | exact keep7 (o := ⟨id, ref, sku, qty, amount⟩) (by assumption) (World.grownBy_alloc w3 _ none) (by simp) (by simp) | exact keep7 (o := ⟨id, ref, sku, qty, amount⟩) (by assumption) hgi hne1.out.symm hne2.out.symm | exact hS0.out _ (by (repeat (first | (with_reducible first | exact zR _ _ | exact zA _ _ | assumption | refine zL ?_ _ | refine zD ?_ | refine zN ?_ _) | ((with_reducible first | refine zC ?_ ?_ _ | refine zW ?_ ?_ _); rotate_left; focus (first | exact Nat.le_refl _ | (simp; done) | (simp; omega) | omega)) | with_reducible refine zT ?_ (by assumption)))))
          clear hK K
          (try simp only [Act.put, yA, yB, yC])
          refine ao 9 rfl (by kernel_rfl) (by rfl) (fun K hK => ?_)
          go_simp
          refine hK.out _ _ ?_ (fun hHeld => ?_)
          focus (first | exact keep7 (o := ⟨id, ref, sku, qty, amount⟩) (by assumption) (World.grownBy_alloc w3 _ none) (by simp) (by simp) | exact keep7 (o := ⟨id, ref, sku, qty, amount⟩) (by assumption) hgi hne1.out.symm hne2.out.symm | exact hS0.out _ (by (repeat (first | (with_reducible first | exact zR _ _ | exact zA _ _ | assumption | refine zL ?_ _ | refine zD ?_ | refine zN ?_ _) | ((with_reducible first | refine zC ?_ ?_ _ | refine zW ?_ ?_ _); rotate_left; focus (first | exact Nat.le_refl _ | (simp; done) | (simp; omega) | omega)) | with_reducible refine zT ?_ (by assumption)))))
          clear hK K
          (try simp only [Act.put, yA, yB, yC])
          have hq := plan [10]
          iterate 1 (refine tk hq ?_ rfl (by kernel_rfl) (by assumption) (by rfl) (fun _ _ _ h => h) ?hy ?_; (case hy => (intro w hSw; (try dsimp only at hSw); go_simp; (try with_reducible rfl))); replace hq := hq.tl; (try simp only [Act.put, yA, yB, yC]))
          clear hq
          refine al 11 rfl (by kernel_rfl) rfl (by rfl) (fun K hK => ?_)
          go_simp
          refine hK.out _ _ ?_
          clear hK K
          (try simp only [Act.put, yA, yB, yC])
          have hfin := Lib.hid (CoreIs.saga (s := Sp.begin_ ⟨id, ref, sku, qty, amount⟩) HC3.out hgi hoi hk.out (by omega))
          have hlow3 : Hid (Below base w wi) := Lib.hid (by
            have h3 : Below w.heap.size w w3 := by
              have := hb1.out
              have := hb2.out
              have := hB3.out
              (repeat (first | (with_reducible first | exact zR _ _ | exact zA _ _ | assumption | refine zL ?_ _ | refine zD ?_ | refine zN ?_ _) | ((with_reducible first | refine zC ?_ ?_ _ | refine zW ?_ ?_ _); rotate_left; focus (first | exact Nat.le_refl _ | (simp; done) | (simp; omega) | omega)) | with_reducible refine zT ?_ (by assumption)))
            refine (h3.mono hlow).grown hgi (Nat.le_trans hlow h3.size) (fun k hk => ?_)
            have := HC3.out.own.lt k hk
            omega)
          go_wp2
          go_ret
          exact ⟨hlow3.out.setCell (by show base ≤ pc; omega) _, _, _, _, _, _, _, rfl, hfin.out⟩
        · rw [if_pos (by simpa using hid)]
          have hidn : (id != (C.l.length : Int) + 1) = true := by simp [hid]
          have hide : (id == (C.l.length : Int) + 1) = false := by simp [hid]
          go_enter Tryz.func21, Tryz.ntmps21
          go_wp2_with (first
            | (go_at_call 49; refine Calls.mono (HK.out _) ?_; rintro e w1 ⟨rfl, hb1⟩; have hz1 := hb1.size; (try simp at hz1); have HC1 := Lib.hid (HC.out.below (Below.trans (alloc_grew w _) (hb1.mono (by simp)))); obtain ⟨hc1, hf1, hr1, _⟩ := brow hb1; replace hb1 := Lib.hid hb1)
            | (go_at_call 50; refine Calls.mono (has_any _ pc _ C.l ref (cells_at HC1.out.head 0) HC1.out.slc (by omega)) ?_; rw [hh.out]; rintro e w2 ⟨rfl, hb2⟩; have hz2 := hb2.size; have HC2 := Lib.hid (HC1.out.below hb2); have hx2 := cells_at HC2.out.head 0; (simp only [List.getElem?_toArray, List.getElem?_cons_zero] at hx2); have hX2 := cells_at (heap_below hb2 (heap_below hb1.out (heap_alloc_new w (.cells #[.int .i64 id, .string (str ref), .string (str sku), .int .i64 qty, .int .i64 amount] 32)))); replace hb2 := Lib.hid hb2; clear hc1 hf1 hr1))
          go_quiet (fail)
          go_wp2
          go_ret
          refine ApplyPost.same HC.out ?_
          have := hb1.out
          have := hb2.out
          refine Below.trans ?_ (keeps_drewN _ _)
          (repeat (first | (with_reducible first | exact zR _ _ | exact zA _ _ | assumption | refine zL ?_ _ | refine zD ?_ | refine zN ?_ _) | ((with_reducible first | refine zC ?_ ?_ _ | refine zW ?_ ?_ _); rotate_left; focus (first | exact Nat.le_refl _ | (simp; done) | (simp; omega) | omega)) | with_reducible refine zT ?_ (by assumption)))
    · rw [if_pos (by simp)]
      have HC := Lib.hid h
      replace hh := Lib.hid hh
      replace hk := Lib.hid hk
      clear h
      go_enter Tryz.func21, Tryz.ntmps21
      go_wp2_with (first
        | (go_at_call 49; refine Calls.mono (HK.out _) ?_; rintro e w1 ⟨rfl, hb1⟩; have hz1 := hb1.size; (try simp at hz1); have HC1 := Lib.hid (HC.out.below (Below.trans (alloc_grew w _) (hb1.mono (by simp)))); obtain ⟨hc1, hf1, hr1, _⟩ := brow hb1; replace hb1 := Lib.hid hb1)
        | (go_at_call 50; refine Calls.mono (has_any _ pc _ C.l ref (cells_at HC1.out.head 0) HC1.out.slc (by omega)) ?_; rw [hh.out]; rintro e w2 ⟨rfl, hb2⟩; replace hb2 := Lib.hid hb2))
      go_ret
      refine ApplyPost.same HC.out ?_
      have := hb1.out
      have := hb2.out
      (repeat (first | (with_reducible first | exact zR _ _ | exact zA _ _ | assumption | refine zL ?_ _ | refine zD ?_ | refine zN ?_ _) | ((with_reducible first | refine zC ?_ ?_ _ | refine zW ?_ ?_ _); rotate_left; focus (first | exact Nat.le_refl _ | (simp; done) | (simp; omega) | omega)) | with_reducible refine zT ?_ (by assumption)))
  · rw [if_pos hk0]
    have HC := Lib.hid h
    replace hk := Lib.hid hk
    clear h
    go_enter Tryz.func21, Tryz.ntmps21
    go_wp2_with (go_at_call 49; refine Calls.mono (HK.out _) ?_; rintro e w1 ⟨rfl, hb1⟩; replace hb1 := Lib.hid hb1)
    go_ret
    refine ApplyPost.same HC.out ?_
    have := hb1.out
    (repeat (first | (with_reducible first | exact zR _ _ | exact zA _ _ | assumption | refine zL ?_ _ | refine zD ?_ | refine zN ?_ _) | ((with_reducible first | refine zC ?_ ?_ _ | refine zW ?_ ?_ _); rotate_left; focus (first | exact Nat.le_refl _ | (simp; done) | (simp; omega) | omega)) | with_reducible refine zT ?_ (by assumption)))
end Go.Proofs.YtkgpnikmdmpfaaaGreatDoor

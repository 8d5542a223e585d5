/-
  Slices of structs in memory; the walks of rows.Check, Valid.
-/
import Derived.Test.YtkgpnikmdmpfaaaGreatDoorBackP1
set_option linter.unusedVariables false
set_option linter.unusedSimpArgs false
namespace Go.Proofs.YtkgpnikmdmpfaaaGreatDoor
open Go.RowKit

/-- A slice of structs: its value, and the elements' cells. -/
def Slc {α : Type} (enc : α → List Value) (size : Nat) (w : World) (v : Value) (l : List α) : Prop :=
  (v = .slice none 0 0 ∧ l = []) ∨ ∃ b cap, v = .slice (some ⟨b, 0, none⟩) l.length cap ∧ l.length ≤ cap ∧ b < w.heap.size ∧
    ∀ i x, l[i]? = some x → ∀ j u, (enc x)[j]? = some u → w.cell? ⟨b, i * size + j, none⟩ = some u
theorem Slc.mono {α : Type} {enc : α → List Value} {size : Nat} {w w' : World} {v : Value} {l : List α} (h : Slc enc size w v l) (hb : Below w.heap.size w w') : Slc enc size w' v l := by
  rcases h with h | ⟨b, cap, h1, h2, h3, h4⟩
  · exact .inl h
  · exact .inr ⟨b, cap, h1, h2, by have := hb.size; omega, fun i x hx j u hu => by rw [hb.cell (by exact h3)]; exact h4 i x hx j u hu⟩
def rowCells (r : Sp.Row) : List Value := [.int .i64 r.order, .int .i64 r.deed, .int .i64 r.code, .int .i64 r.amount, .int .i64 r.qty]
abbrev RowsAt := Slc rowCells 5

def rowsChk (p : Int) : Option Sp.Row → List Sp.Row → Bool
  | _, [] => true
  | q, r :: t => Sp.rowOk r p && (match q with | none => true | some q => Sp.keyLess q.order q.deed r.order r.deed) && rowsChk p (some r) t
def rowsOk (l : List Sp.Row) (p : Int) : Bool := decide (0 ≤ p) && decide (p ≤ 2) && decide (l.length ≤ 400) && rowsChk p none l

theorem and6 {a b c d e P : Prop} (h : a ∧ b ∧ c ∧ d ∧ e ∧ P) : P := h.2.2.2.2.2
theorem and8 {a b c d e f g P : Prop} (h : a ∧ b ∧ c ∧ d ∧ e ∧ f ∧ g ∧ P) : P := h.2.2.2.2.2.2.2
theorem heldc {w1 w2 : World} {a : Addr} {c : Value} (hb : Below w1.heap.size w1 w2) (h : w1.cell? a = some c) : w2.cell? a = some c := by
  rw [hb.cell (World.block_lt_of_cell? w1 a h)]; exact h
theorem row_facts {w w' : World} {l : List Sp.Row} {b i : Nat} {r : Sp.Row} (h : ∀ i x, l[i]? = some x → ∀ j u, (rowCells x)[j]? = some u → w.cell? ⟨b, i * 5 + j, none⟩ = some u) (hb : Below w.heap.size w w') (hi : l[i]? = some r) :
    w'.cell? ⟨b, i * 5, none⟩ = some (.int .i64 r.order) ∧ w'.cell? ⟨b, i * 5 + 1, none⟩ = some (.int .i64 r.deed) ∧ w'.cell? ⟨b, i * 5 + 2, none⟩ = some (.int .i64 r.code) ∧ w'.cell? ⟨b, i * 5 + 3, none⟩ = some (.int .i64 r.amount) ∧ w'.cell? ⟨b, i * 5 + 4, none⟩ = some (.int .i64 r.qty) :=
  ⟨heldc hb (h i r hi 0 _ rfl), heldc hb (h i r hi 1 _ rfl), heldc hb (h i r hi 2 _ rfl), heldc hb (h i r hi 3 _ rfl), heldc hb (h i r hi 4 _ rfl)⟩
def prevAt (l : List Sp.Row) (i : Nat) : Option Sp.Row := if i = 0 then none else l[i - 1]?
def RelChk (l : List Sp.Row) (p : Int) (x : Value) : Prop := ∃ i : Nat, i ≤ l.length ∧ x = .int .i64 i ∧ rowsChk p (prevAt l i) (l.drop i) = rowsChk p none l

theorem rowsChk_zero {l : List Sp.Row} {p : Int} {r : Sp.Row} {x : Bool} (h : rowsChk p (prevAt l 0) (l.drop 0) = x) (hr : l[0]? = some r) : (Sp.rowOk r p && rowsChk p (some r) (l.drop 1)) = x := by
  cases l with
  | nil => simp at hr
  | cons a t =>
    simp at hr
    subst hr
    rw [← h]; simp [prevAt, rowsChk]
theorem rowsChk_succ {l : List Sp.Row} {p : Int} {k : Nat} {q r : Sp.Row} {x : Bool} (h : rowsChk p (prevAt l (k + 1)) (l.drop (k + 1)) = x) (hq : l[k]? = some q) (hr : l[k + 1]? = some r) :
    (Sp.rowOk r p && Sp.keyLess q.order q.deed r.order r.deed && rowsChk p (some r) (l.drop (k + 2))) = x := by
  obtain ⟨hlt, he⟩ := List.getElem?_eq_some_iff.1 hr
  rw [← h, List.drop_eq_getElem_cons hlt, he]
  simp [prevAt, hq, rowsChk]

set_option maxRecDepth 100000 in
set_option maxHeartbeats 4000000 in
theorem rowsCheck_any (l : List Sp.Row) (p : Int) (v : Value) (w : World) (hp : Parties w) (hl : RowsAt w v l) :
    Calls Tryz.prog 109 #[v, .int .i64 p] w fun e w' => e = .returned (.bool (rowsOk l p)) ∧ Below w.heap.size w w' := by
  rcases hl with ⟨rfl, rfl⟩ | ⟨b, cap, rfl, hcap, hb, hcells⟩
  · have HO : rowsOk [] p = (decide (0 ≤ p) && decide (p ≤ 2)) := by simp [rowsOk, rowsChk]
    rw [HO]
    clear HO
    go_enter Tryz.func109, Tryz.ntmps109
    have hp0 : p < 0 ∨ (0 ≤ p ∧ p ≤ 2) ∨ 2 < p := by omega
    rcases hp0 with hp0 | ⟨hp0, hp1⟩ | hp0
    · go_wp2
      go_ret
      exact ⟨congrArg (fun b => Ending.returned (.bool b)) (by simp; omega), Below.refl _ _⟩
    · go_wp2
      refine wp_loop_rounds 1 ?_
      rw [rounds_succ]
      go_wp2
      go_ret
      exact ⟨congrArg (fun b => Ending.returned (.bool b)) (by simp; omega), Below.refl _ _⟩
    · go_wp2
      go_ret
      exact ⟨congrArg (fun b => Ending.returned (.bool b)) (by simp; omega), Below.refl _ _⟩
  · by_cases h0 : 0 ≤ p
    · by_cases h1 : p ≤ 2
      · by_cases h2 : l.length ≤ 400
        · have HO : rowsOk l p = rowsChk p none l := by simp [rowsOk, h0, h1, h2]
          rw [HO]
          clear HO
          replace hp := Lib.hid hp
          replace hcells := Lib.hid hcells
          go_enter Tryz.func109, Tryz.ntmps109
          go_wp2
          go_loopw [20] (fun x wr => RelChk l p x ∧ Below w.heap.size w wr) (fun x _ => l.length - (intOf x).toNat)
          case atStart => exact ⟨⟨0, by omega, rfl, rfl⟩, Below.refl _ _⟩
          case round =>
            obtain ⟨⟨i, hi, rfl, HR⟩, hB⟩ := hrel
            have hsz := hB.size
            replace HR := Lib.hid HR
            by_cases hlt : i < l.length
            · obtain ⟨r, hr⟩ : ∃ r, l[i]? = some r := ⟨l[i], List.getElem?_eq_getElem hlt⟩
              obtain ⟨f0, f1, f2, f3, f4⟩ := row_facts hcells.out hB hr
              have HP : Parties wr := hp.out.grew hB
              have HM : Sp.rowOk r p = true ∨ Sp.rowOk r p = false := by cases Sp.rowOk r p <;> simp
              rcases i with _ | k
              · have HR2 := rowsChk_zero HR.out hr
                rcases HM with HM | HM
                · rw [HM] at HR2
                  replace HR2 := Lib.hid HR2
                  replace HM := Lib.hid HM
                  go_wp2
                  refine any_begin (S := (fun w' => w'.cell? ⟨wr.heap.size, 0, none⟩ = some (.int .i64 r.order) ∧ w'.cell? ⟨wr.heap.size, 1, none⟩ = some (.int .i64 r.deed) ∧ w'.cell? ⟨wr.heap.size, 2, none⟩ = some (.int .i64 r.code) ∧ w'.cell? ⟨wr.heap.size, 3, none⟩ = some (.int .i64 r.amount) ∧ w'.cell? ⟨wr.heap.size, 4, none⟩ = some (.int .i64 r.qty) ∧ Below wr.heap.size wr w')) 20 (by kernel_rfl) ?_ (fun hHeld => ?_)
                  focus (first | exact (And.imp (heldc (by assumption)) (And.imp (heldc (by assumption)) (And.imp (heldc (by assumption)) (And.imp (heldc (by assumption)) (And.imp (heldc (by assumption)) (fun h => Grew.trans h (by assumption))))))) (by assumption) | (refine ⟨?_, ?_, ?_, ?_, ?_, ?_⟩ <;> first | (exact heldc (Grew.drew (alloc_grew _ _)) (by assumption)) | (simp [go_sem, *]; done) | (repeat (first | (with_reducible first | exact zR _ _ | exact zA _ _ | assumption | refine zL ?_ _ | refine zD ?_ | refine zN ?_ _) | ((with_reducible first | refine zC ?_ ?_ _ | refine zW ?_ ?_ _); rotate_left; focus (first | exact Nat.le_refl _ | (simp; done) | (simp; omega) | omega)) | with_reducible refine zT ?_ (by assumption)))))
                  have hq := plan [0, 1]
                  iterate 2 (refine tk hq ?_ rfl (by kernel_rfl) (by assumption) (by rfl) (fun _ _ _ h => h) ?hy ?_; (case hy => (intro w hSw; (try dsimp only at hSw); go_simp; (try with_reducible rfl))); replace hq := hq.tl; (try simp only [Act.put, yA, yB, yC]))
                  clear hq
                  refine ao 2 rfl (by kernel_rfl) (by rfl) (fun K hK => ?_)
                  go_simp
                  (first | (go_at_call 127; refine Calls.mono (rowsMay_any ⟨_, _, _, _, _⟩ _ _ (Parties.grew HP (by first | exact and6 (by assumption) | exact and8 (by assumption)))) ?_; rintro e w1 ⟨rfl, hb⟩; simp only [HM.out]) | (go_at_call 128; refine Calls.mono (keysLess_any _ _ _ _ _) ?_; rintro e w1 ⟨rfl, hb⟩; simp only [HL.out]))
                  refine hK.out _ _ ?_ (fun hHeld => ?_)
                  focus (first | exact (And.imp (heldc (by assumption)) (And.imp (heldc (by assumption)) (And.imp (heldc (by assumption)) (And.imp (heldc (by assumption)) (And.imp (heldc (by assumption)) (fun h => Grew.trans h (by assumption))))))) (by assumption) | (refine ⟨?_, ?_, ?_, ?_, ?_, ?_⟩ <;> first | (exact heldc (Grew.drew (alloc_grew _ _)) (by assumption)) | (simp [go_sem, *]; done) | (repeat (first | (with_reducible first | exact zR _ _ | exact zA _ _ | assumption | refine zL ?_ _ | refine zD ?_ | refine zN ?_ _) | ((with_reducible first | refine zC ?_ ?_ _ | refine zW ?_ ?_ _); rotate_left; focus (first | exact Nat.le_refl _ | (simp; done) | (simp; omega) | omega)) | with_reducible refine zT ?_ (by assumption)))))
                  clear hK K
                  (try simp only [Act.put, yA, yB, yC])
                  have hq := plan [3, 4, 5, 6, 7]
                  iterate 5 (refine tk hq ?_ rfl (by kernel_rfl) (by assumption) (by rfl) (fun _ _ _ h => h) ?hy ?_; (case hy => (intro w hSw; (try dsimp only at hSw); go_simp; (try with_reducible rfl))); replace hq := hq.tl; (try simp only [Act.put, yA, yB, yC]))
                  clear hq
                  have hq := plan [8, 9, 10, 11, 12, 13, 14, 15, 16, 17]
                  iterate 10 (refine tks hq rfl (by kernel_rfl) (by assumption) (by rfl) (fun _ _ _ h => h) ?_; replace hq := hq.tl; (try simp only [Act.put, yA, yB, yC]))
                  clear hq
                  have hq := plan [18, 19]
                  iterate 2 (refine tk hq ?_ rfl (by kernel_rfl) (by assumption) (by rfl) (fun _ _ _ h => h) ?hy ?_; (case hy => (intro w hSw; (try dsimp only at hSw); go_simp; (try with_reducible rfl))); replace hq := hq.tl; (try simp only [Act.put, yA, yB, yC]))
                  clear hq
                  refine any_done (by kernel_rfl) ?_
                  go_wp2
                  refine ⟨⟨⟨1, by omega, by go_num, ?_⟩, Grew.trans hB (and6 (by assumption))⟩, by simp [intOf]; omega⟩
                  simpa [prevAt, hr] using HR2.out
                · rw [HM] at HR2
                  replace HR2 := Lib.hid HR2
                  replace HM := Lib.hid HM
                  go_wp2
                  refine any_begin (S := (fun w' => w'.cell? ⟨wr.heap.size, 0, none⟩ = some (.int .i64 r.order) ∧ w'.cell? ⟨wr.heap.size, 1, none⟩ = some (.int .i64 r.deed) ∧ w'.cell? ⟨wr.heap.size, 2, none⟩ = some (.int .i64 r.code) ∧ w'.cell? ⟨wr.heap.size, 3, none⟩ = some (.int .i64 r.amount) ∧ w'.cell? ⟨wr.heap.size, 4, none⟩ = some (.int .i64 r.qty) ∧ Below wr.heap.size wr w')) 20 (by kernel_rfl) ?_ (fun hHeld => ?_)
                  focus (first | exact (And.imp (heldc (by assumption)) (And.imp (heldc (by assumption)) (And.imp (heldc (by assumption)) (And.imp (heldc (by assumption)) (And.imp (heldc (by assumption)) (fun h => Grew.trans h (by assumption))))))) (by assumption) | (refine ⟨?_, ?_, ?_, ?_, ?_, ?_⟩ <;> first | (exact heldc (Grew.drew (alloc_grew _ _)) (by assumption)) | (simp [go_sem, *]; done) | (repeat (first | (with_reducible first | exact zR _ _ | exact zA _ _ | assumption | refine zL ?_ _ | refine zD ?_ | refine zN ?_ _) | ((with_reducible first | refine zC ?_ ?_ _ | refine zW ?_ ?_ _); rotate_left; focus (first | exact Nat.le_refl _ | (simp; done) | (simp; omega) | omega)) | with_reducible refine zT ?_ (by assumption)))))
                  have hq := plan [0, 1]
                  iterate 2 (refine tk hq ?_ rfl (by kernel_rfl) (by assumption) (by rfl) (fun _ _ _ h => h) ?hy ?_; (case hy => (intro w hSw; (try dsimp only at hSw); go_simp; (try with_reducible rfl))); replace hq := hq.tl; (try simp only [Act.put, yA, yB, yC]))
                  clear hq
                  refine ao 2 rfl (by kernel_rfl) (by rfl) (fun K hK => ?_)
                  go_simp
                  (first | (go_at_call 127; refine Calls.mono (rowsMay_any ⟨_, _, _, _, _⟩ _ _ (Parties.grew HP (by first | exact and6 (by assumption) | exact and8 (by assumption)))) ?_; rintro e w1 ⟨rfl, hb⟩; simp only [HM.out]) | (go_at_call 128; refine Calls.mono (keysLess_any _ _ _ _ _) ?_; rintro e w1 ⟨rfl, hb⟩; simp only [HL.out]))
                  refine hK.out _ _ ?_ (fun hHeld => ?_)
                  focus (first | exact (And.imp (heldc (by assumption)) (And.imp (heldc (by assumption)) (And.imp (heldc (by assumption)) (And.imp (heldc (by assumption)) (And.imp (heldc (by assumption)) (fun h => Grew.trans h (by assumption))))))) (by assumption) | (refine ⟨?_, ?_, ?_, ?_, ?_, ?_⟩ <;> first | (exact heldc (Grew.drew (alloc_grew _ _)) (by assumption)) | (simp [go_sem, *]; done) | (repeat (first | (with_reducible first | exact zR _ _ | exact zA _ _ | assumption | refine zL ?_ _ | refine zD ?_ | refine zN ?_ _) | ((with_reducible first | refine zC ?_ ?_ _ | refine zW ?_ ?_ _); rotate_left; focus (first | exact Nat.le_refl _ | (simp; done) | (simp; omega) | omega)) | with_reducible refine zT ?_ (by assumption)))))
                  clear hK K
                  (try simp only [Act.put, yA, yB, yC])
                  have hq := plan [3, 4]
                  iterate 2 (refine tk hq ?_ rfl (by kernel_rfl) (by assumption) (by rfl) (fun _ _ _ h => h) ?hy ?_; (case hy => (intro w hSw; (try dsimp only at hSw); go_simp; (try with_reducible rfl))); replace hq := hq.tl; (try simp only [Act.put, yA, yB, yC]))
                  clear hq
                  have hq := plan [5, 6, 7, 8, 9, 10, 11, 12, 13, 14, 15, 16, 17, 18]
                  iterate 14 (refine tks hq rfl (by kernel_rfl) (by assumption) (by rfl) (fun _ _ _ h => h) ?_; replace hq := hq.tl; (try simp only [Act.put, yA, yB, yC]))
                  clear hq
                  have hq := plan [19]
                  iterate 1 (refine tk hq ?_ rfl (by kernel_rfl) (by assumption) (by rfl) (fun _ _ _ h => h) ?hy ?_; (case hy => (intro w hSw; (try dsimp only at hSw); go_simp; (try with_reducible rfl))); replace hq := hq.tl; (try simp only [Act.put, yA, yB, yC]))
                  clear hq
                  refine any_done (by kernel_rfl) ?_
                  go_wp2
                  go_ret
                  refine ⟨congrArg (fun b => Ending.returned (.bool b)) ?_, Grew.trans hB (and6 (by assumption))⟩
                  simpa using HR2.out
              · obtain ⟨q, hq⟩ : ∃ q, l[k]? = some q := ⟨l[k], List.getElem?_eq_getElem (by omega)⟩
                have HR2 := rowsChk_succ HR.out hq hr
                obtain ⟨g0, g1, g2, g3, g4⟩ := row_facts hcells.out hB hq
                have hwk : IntKind.i64.wrap (k : Int) = k := by rw [wrap_i64_val]; omega
                have hk0 : (0 : Int) ≤ k := by omega
                have hk1 : (k : Int) < l.length := by omega
                rcases HM with HM | HM
                · have HL : Sp.keyLess q.order q.deed r.order r.deed = true ∨ Sp.keyLess q.order q.deed r.order r.deed = false := by cases Sp.keyLess q.order q.deed r.order r.deed <;> simp
                  rcases HL with HL | HL
                  · rw [HM, HL] at HR2
                    replace HR2 := Lib.hid HR2
                    replace HM := Lib.hid HM
                    replace HL := Lib.hid HL
                    go_wp2
                    refine any_begin (S := (fun w' => w'.cell? ⟨wr.heap.size, 0, none⟩ = some (.int .i64 r.order) ∧ w'.cell? ⟨wr.heap.size, 1, none⟩ = some (.int .i64 r.deed) ∧ w'.cell? ⟨wr.heap.size, 2, none⟩ = some (.int .i64 r.code) ∧ w'.cell? ⟨wr.heap.size, 3, none⟩ = some (.int .i64 r.amount) ∧ w'.cell? ⟨wr.heap.size, 4, none⟩ = some (.int .i64 r.qty) ∧ w'.cell? ⟨b, k * 5, none⟩ = some (.int .i64 q.order) ∧ w'.cell? ⟨b, k * 5 + 1, none⟩ = some (.int .i64 q.deed) ∧ Below wr.heap.size wr w')) 20 (by kernel_rfl) ?_ (fun hHeld => ?_)
                    focus (first | exact (And.imp (heldc (by assumption)) (And.imp (heldc (by assumption)) (And.imp (heldc (by assumption)) (And.imp (heldc (by assumption)) (And.imp (heldc (by assumption)) (And.imp (heldc (by assumption)) (And.imp (heldc (by assumption)) (fun h => Grew.trans h (by assumption))))))))) (by assumption) | (refine ⟨?_, ?_, ?_, ?_, ?_, ?_, ?_, ?_⟩ <;> first | (exact heldc (Grew.drew (alloc_grew _ _)) (by assumption)) | (simp [go_sem, *]; done) | (repeat (first | (with_reducible first | exact zR _ _ | exact zA _ _ | assumption | refine zL ?_ _ | refine zD ?_ | refine zN ?_ _) | ((with_reducible first | refine zC ?_ ?_ _ | refine zW ?_ ?_ _); rotate_left; focus (first | exact Nat.le_refl _ | (simp; done) | (simp; omega) | omega)) | with_reducible refine zT ?_ (by assumption)))))
                    have hq := plan [0, 1]
                    iterate 2 (refine tk hq ?_ rfl (by kernel_rfl) (by assumption) (by rfl) (fun _ _ _ h => h) ?hy ?_; (case hy => (intro w hSw; (try dsimp only at hSw); go_simp; (try with_reducible rfl))); replace hq := hq.tl; (try simp only [Act.put, yA, yB, yC]))
                    clear hq
                    refine ao 2 rfl (by kernel_rfl) (by rfl) (fun K hK => ?_)
                    go_simp
                    (first | (go_at_call 127; refine Calls.mono (rowsMay_any ⟨_, _, _, _, _⟩ _ _ (Parties.grew HP (by first | exact and6 (by assumption) | exact and8 (by assumption)))) ?_; rintro e w1 ⟨rfl, hb⟩; simp only [HM.out]) | (go_at_call 128; refine Calls.mono (keysLess_any _ _ _ _ _) ?_; rintro e w1 ⟨rfl, hb⟩; simp only [HL.out]))
                    refine hK.out _ _ ?_ (fun hHeld => ?_)
                    focus (first | exact (And.imp (heldc (by assumption)) (And.imp (heldc (by assumption)) (And.imp (heldc (by assumption)) (And.imp (heldc (by assumption)) (And.imp (heldc (by assumption)) (And.imp (heldc (by assumption)) (And.imp (heldc (by assumption)) (fun h => Grew.trans h (by assumption))))))))) (by assumption) | (refine ⟨?_, ?_, ?_, ?_, ?_, ?_, ?_, ?_⟩ <;> first | (exact heldc (Grew.drew (alloc_grew _ _)) (by assumption)) | (simp [go_sem, *]; done) | (repeat (first | (with_reducible first | exact zR _ _ | exact zA _ _ | assumption | refine zL ?_ _ | refine zD ?_ | refine zN ?_ _) | ((with_reducible first | refine zC ?_ ?_ _ | refine zW ?_ ?_ _); rotate_left; focus (first | exact Nat.le_refl _ | (simp; done) | (simp; omega) | omega)) | with_reducible refine zT ?_ (by assumption)))))
                    clear hK K
                    (try simp only [Act.put, yA, yB, yC])
                    have hq := plan [3, 4, 5, 6, 7, 8, 9, 10, 11, 12, 13, 14, 15]
                    iterate 13 (refine tk hq ?_ rfl (by kernel_rfl) (by assumption) (by rfl) (fun _ _ _ h => h) ?hy ?_; (case hy => (intro w hSw; (try dsimp only at hSw); go_simp; (try with_reducible rfl))); replace hq := hq.tl; (try simp only [Act.put, yA, yB, yC]))
                    clear hq
                    refine ao 16 rfl (by kernel_rfl) (by rfl) (fun K hK => ?_)
                    go_simp
                    (first | (go_at_call 127; refine Calls.mono (rowsMay_any ⟨_, _, _, _, _⟩ _ _ (Parties.grew HP (by first | exact and6 (by assumption) | exact and8 (by assumption)))) ?_; rintro e w1 ⟨rfl, hb⟩; simp only [HM.out]) | (go_at_call 128; refine Calls.mono (keysLess_any _ _ _ _ _) ?_; rintro e w1 ⟨rfl, hb⟩; simp only [HL.out]))
                    refine hK.out _ _ ?_ (fun hHeld => ?_)
                    focus (first | exact (And.imp (heldc (by assumption)) (And.imp (heldc (by assumption)) (And.imp (heldc (by assumption)) (And.imp (heldc (by assumption)) (And.imp (heldc (by assumption)) (And.imp (heldc (by assumption)) (And.imp (heldc (by assumption)) (fun h => Grew.trans h (by assumption))))))))) (by assumption) | (refine ⟨?_, ?_, ?_, ?_, ?_, ?_, ?_, ?_⟩ <;> first | (exact heldc (Grew.drew (alloc_grew _ _)) (by assumption)) | (simp [go_sem, *]; done) | (repeat (first | (with_reducible first | exact zR _ _ | exact zA _ _ | assumption | refine zL ?_ _ | refine zD ?_ | refine zN ?_ _) | ((with_reducible first | refine zC ?_ ?_ _ | refine zW ?_ ?_ _); rotate_left; focus (first | exact Nat.le_refl _ | (simp; done) | (simp; omega) | omega)) | with_reducible refine zT ?_ (by assumption)))))
                    clear hK K
                    (try simp only [Act.put, yA, yB, yC])
                    have hq := plan [17, 18, 19]
                    iterate 3 (refine tk hq ?_ rfl (by kernel_rfl) (by assumption) (by rfl) (fun _ _ _ h => h) ?hy ?_; (case hy => (intro w hSw; (try dsimp only at hSw); go_simp; (try with_reducible rfl))); replace hq := hq.tl; (try simp only [Act.put, yA, yB, yC]))
                    clear hq
                    refine any_done (by kernel_rfl) ?_
                    go_wp2
                    refine ⟨⟨⟨k + 2, by omega, by go_num, ?_⟩, Grew.trans hB (and8 (by assumption))⟩, by simp [intOf]; omega⟩
                    simpa [prevAt, hr] using HR2.out
                  · rw [HM, HL] at HR2
                    replace HR2 := Lib.hid HR2
                    replace HM := Lib.hid HM
                    replace HL := Lib.hid HL
                    go_wp2
                    refine any_begin (S := (fun w' => w'.cell? ⟨wr.heap.size, 0, none⟩ = some (.int .i64 r.order) ∧ w'.cell? ⟨wr.heap.size, 1, none⟩ = some (.int .i64 r.deed) ∧ w'.cell? ⟨wr.heap.size, 2, none⟩ = some (.int .i64 r.code) ∧ w'.cell? ⟨wr.heap.size, 3, none⟩ = some (.int .i64 r.amount) ∧ w'.cell? ⟨wr.heap.size, 4, none⟩ = some (.int .i64 r.qty) ∧ w'.cell? ⟨b, k * 5, none⟩ = some (.int .i64 q.order) ∧ w'.cell? ⟨b, k * 5 + 1, none⟩ = some (.int .i64 q.deed) ∧ Below wr.heap.size wr w')) 20 (by kernel_rfl) ?_ (fun hHeld => ?_)
                    focus (first | exact (And.imp (heldc (by assumption)) (And.imp (heldc (by assumption)) (And.imp (heldc (by assumption)) (And.imp (heldc (by assumption)) (And.imp (heldc (by assumption)) (And.imp (heldc (by assumption)) (And.imp (heldc (by assumption)) (fun h => Grew.trans h (by assumption))))))))) (by assumption) | (refine ⟨?_, ?_, ?_, ?_, ?_, ?_, ?_, ?_⟩ <;> first | (exact heldc (Grew.drew (alloc_grew _ _)) (by assumption)) | (simp [go_sem, *]; done) | (repeat (first | (with_reducible first | exact zR _ _ | exact zA _ _ | assumption | refine zL ?_ _ | refine zD ?_ | refine zN ?_ _) | ((with_reducible first | refine zC ?_ ?_ _ | refine zW ?_ ?_ _); rotate_left; focus (first | exact Nat.le_refl _ | (simp; done) | (simp; omega) | omega)) | with_reducible refine zT ?_ (by assumption)))))
                    have hq := plan [0, 1]
                    iterate 2 (refine tk hq ?_ rfl (by kernel_rfl) (by assumption) (by rfl) (fun _ _ _ h => h) ?hy ?_; (case hy => (intro w hSw; (try dsimp only at hSw); go_simp; (try with_reducible rfl))); replace hq := hq.tl; (try simp only [Act.put, yA, yB, yC]))
                    clear hq
                    refine ao 2 rfl (by kernel_rfl) (by rfl) (fun K hK => ?_)
                    go_simp
                    (first | (go_at_call 127; refine Calls.mono (rowsMay_any ⟨_, _, _, _, _⟩ _ _ (Parties.grew HP (by first | exact and6 (by assumption) | exact and8 (by assumption)))) ?_; rintro e w1 ⟨rfl, hb⟩; simp only [HM.out]) | (go_at_call 128; refine Calls.mono (keysLess_any _ _ _ _ _) ?_; rintro e w1 ⟨rfl, hb⟩; simp only [HL.out]))
                    refine hK.out _ _ ?_ (fun hHeld => ?_)
                    focus (first | exact (And.imp (heldc (by assumption)) (And.imp (heldc (by assumption)) (And.imp (heldc (by assumption)) (And.imp (heldc (by assumption)) (And.imp (heldc (by assumption)) (And.imp (heldc (by assumption)) (And.imp (heldc (by assumption)) (fun h => Grew.trans h (by assumption))))))))) (by assumption) | (refine ⟨?_, ?_, ?_, ?_, ?_, ?_, ?_, ?_⟩ <;> first | (exact heldc (Grew.drew (alloc_grew _ _)) (by assumption)) | (simp [go_sem, *]; done) | (repeat (first | (with_reducible first | exact zR _ _ | exact zA _ _ | assumption | refine zL ?_ _ | refine zD ?_ | refine zN ?_ _) | ((with_reducible first | refine zC ?_ ?_ _ | refine zW ?_ ?_ _); rotate_left; focus (first | exact Nat.le_refl _ | (simp; done) | (simp; omega) | omega)) | with_reducible refine zT ?_ (by assumption)))))
                    clear hK K
                    (try simp only [Act.put, yA, yB, yC])
                    have hq := plan [3, 4, 5, 6, 7, 8, 9, 10, 11, 12, 13, 14, 15]
                    iterate 13 (refine tk hq ?_ rfl (by kernel_rfl) (by assumption) (by rfl) (fun _ _ _ h => h) ?hy ?_; (case hy => (intro w hSw; (try dsimp only at hSw); go_simp; (try with_reducible rfl))); replace hq := hq.tl; (try simp only [Act.put, yA, yB, yC]))
                    clear hq
                    refine ao 16 rfl (by kernel_rfl) (by rfl) (fun K hK => ?_)
                    go_simp
                    (first | (go_at_call 127; refine Calls.mono (rowsMay_any ⟨_, _, _, _, _⟩ _ _ (Parties.grew HP (by first | exact and6 (by assumption) | exact and8 (by assumption)))) ?_; rintro e w1 ⟨rfl, hb⟩; simp only [HM.out]) | (go_at_call 128; refine Calls.mono (keysLess_any _ _ _ _ _) ?_; rintro e w1 ⟨rfl, hb⟩; simp only [HL.out]))
                    refine hK.out _ _ ?_ (fun hHeld => ?_)
                    focus (first | exact (And.imp (heldc (by assumption)) (And.imp (heldc (by assumption)) (And.imp (heldc (by assumption)) (And.imp (heldc (by assumption)) (And.imp (heldc (by assumption)) (And.imp (heldc (by assumption)) (And.imp (heldc (by assumption)) (fun h => Grew.trans h (by assumption))))))))) (by assumption) | (refine ⟨?_, ?_, ?_, ?_, ?_, ?_, ?_, ?_⟩ <;> first | (exact heldc (Grew.drew (alloc_grew _ _)) (by assumption)) | (simp [go_sem, *]; done) | (repeat (first | (with_reducible first | exact zR _ _ | exact zA _ _ | assumption | refine zL ?_ _ | refine zD ?_ | refine zN ?_ _) | ((with_reducible first | refine zC ?_ ?_ _ | refine zW ?_ ?_ _); rotate_left; focus (first | exact Nat.le_refl _ | (simp; done) | (simp; omega) | omega)) | with_reducible refine zT ?_ (by assumption)))))
                    clear hK K
                    (try simp only [Act.put, yA, yB, yC])
                    have hq := plan [17, 18, 19]
                    iterate 3 (refine tk hq ?_ rfl (by kernel_rfl) (by assumption) (by rfl) (fun _ _ _ h => h) ?hy ?_; (case hy => (intro w hSw; (try dsimp only at hSw); go_simp; (try with_reducible rfl))); replace hq := hq.tl; (try simp only [Act.put, yA, yB, yC]))
                    clear hq
                    refine any_done (by kernel_rfl) ?_
                    go_wp2
                    go_ret
                    refine ⟨congrArg (fun b => Ending.returned (.bool b)) ?_, Grew.trans hB (and8 (by assumption))⟩
                    simpa using HR2.out
                · rw [HM] at HR2
                  replace HR2 := Lib.hid HR2
                  replace HM := Lib.hid HM
                  go_wp2
                  refine any_begin (S := (fun w' => w'.cell? ⟨wr.heap.size, 0, none⟩ = some (.int .i64 r.order) ∧ w'.cell? ⟨wr.heap.size, 1, none⟩ = some (.int .i64 r.deed) ∧ w'.cell? ⟨wr.heap.size, 2, none⟩ = some (.int .i64 r.code) ∧ w'.cell? ⟨wr.heap.size, 3, none⟩ = some (.int .i64 r.amount) ∧ w'.cell? ⟨wr.heap.size, 4, none⟩ = some (.int .i64 r.qty) ∧ Below wr.heap.size wr w')) 20 (by kernel_rfl) ?_ (fun hHeld => ?_)
                  focus (first | exact (And.imp (heldc (by assumption)) (And.imp (heldc (by assumption)) (And.imp (heldc (by assumption)) (And.imp (heldc (by assumption)) (And.imp (heldc (by assumption)) (fun h => Grew.trans h (by assumption))))))) (by assumption) | (refine ⟨?_, ?_, ?_, ?_, ?_, ?_⟩ <;> first | (exact heldc (Grew.drew (alloc_grew _ _)) (by assumption)) | (simp [go_sem, *]; done) | (repeat (first | (with_reducible first | exact zR _ _ | exact zA _ _ | assumption | refine zL ?_ _ | refine zD ?_ | refine zN ?_ _) | ((with_reducible first | refine zC ?_ ?_ _ | refine zW ?_ ?_ _); rotate_left; focus (first | exact Nat.le_refl _ | (simp; done) | (simp; omega) | omega)) | with_reducible refine zT ?_ (by assumption)))))
                  have hq := plan [0, 1]
                  iterate 2 (refine tk hq ?_ rfl (by kernel_rfl) (by assumption) (by rfl) (fun _ _ _ h => h) ?hy ?_; (case hy => (intro w hSw; (try dsimp only at hSw); go_simp; (try with_reducible rfl))); replace hq := hq.tl; (try simp only [Act.put, yA, yB, yC]))
                  clear hq
                  refine ao 2 rfl (by kernel_rfl) (by rfl) (fun K hK => ?_)
                  go_simp
                  (first | (go_at_call 127; refine Calls.mono (rowsMay_any ⟨_, _, _, _, _⟩ _ _ (Parties.grew HP (by first | exact and6 (by assumption) | exact and8 (by assumption)))) ?_; rintro e w1 ⟨rfl, hb⟩; simp only [HM.out]) | (go_at_call 128; refine Calls.mono (keysLess_any _ _ _ _ _) ?_; rintro e w1 ⟨rfl, hb⟩; simp only [HL.out]))
                  refine hK.out _ _ ?_ (fun hHeld => ?_)
                  focus (first | exact (And.imp (heldc (by assumption)) (And.imp (heldc (by assumption)) (And.imp (heldc (by assumption)) (And.imp (heldc (by assumption)) (And.imp (heldc (by assumption)) (fun h => Grew.trans h (by assumption))))))) (by assumption) | (refine ⟨?_, ?_, ?_, ?_, ?_, ?_⟩ <;> first | (exact heldc (Grew.drew (alloc_grew _ _)) (by assumption)) | (simp [go_sem, *]; done) | (repeat (first | (with_reducible first | exact zR _ _ | exact zA _ _ | assumption | refine zL ?_ _ | refine zD ?_ | refine zN ?_ _) | ((with_reducible first | refine zC ?_ ?_ _ | refine zW ?_ ?_ _); rotate_left; focus (first | exact Nat.le_refl _ | (simp; done) | (simp; omega) | omega)) | with_reducible refine zT ?_ (by assumption)))))
                  clear hK K
                  (try simp only [Act.put, yA, yB, yC])
                  have hq := plan [3, 4]
                  iterate 2 (refine tk hq ?_ rfl (by kernel_rfl) (by assumption) (by rfl) (fun _ _ _ h => h) ?hy ?_; (case hy => (intro w hSw; (try dsimp only at hSw); go_simp; (try with_reducible rfl))); replace hq := hq.tl; (try simp only [Act.put, yA, yB, yC]))
                  clear hq
                  have hq := plan [5, 6, 7, 8, 9, 10, 11, 12, 13, 14, 15, 16, 17, 18]
                  iterate 14 (refine tks hq rfl (by kernel_rfl) (by assumption) (by rfl) (fun _ _ _ h => h) ?_; replace hq := hq.tl; (try simp only [Act.put, yA, yB, yC]))
                  clear hq
                  have hq := plan [19]
                  iterate 1 (refine tk hq ?_ rfl (by kernel_rfl) (by assumption) (by rfl) (fun _ _ _ h => h) ?hy ?_; (case hy => (intro w hSw; (try dsimp only at hSw); go_simp; (try with_reducible rfl))); replace hq := hq.tl; (try simp only [Act.put, yA, yB, yC]))
                  clear hq
                  refine any_done (by kernel_rfl) ?_
                  go_wp2
                  go_ret
                  refine ⟨congrArg (fun b => Ending.returned (.bool b)) ?_, Grew.trans hB (and6 (by assumption))⟩
                  simpa using HR2.out
            · go_wp2
              go_ret
              refine ⟨?_, hB⟩
              have := HR.out
              rw [List.drop_eq_nil_of_le (by omega)] at this
              exact congrArg (fun b => Ending.returned (.bool b)) this
        · have HO : rowsOk l p = false := by simp [rowsOk, h2]
          rw [HO]
          clear HO hcells
          go_enter Tryz.func109, Tryz.ntmps109
          go_wp2
          go_ret
          exact ⟨rfl, Below.refl _ _⟩
      · have HO : rowsOk l p = false := by simp [rowsOk, h1]
        rw [HO]
        clear HO hcells
        go_enter Tryz.func109, Tryz.ntmps109
        go_wp2
        go_ret
        exact ⟨rfl, Below.refl _ _⟩
    · have HO : rowsOk l p = false := by simp [rowsOk, h0]
      rw [HO]
      clear HO hcells
      go_enter Tryz.func109, Tryz.ntmps109
      go_wp2
      go_ret
      exact ⟨rfl, Below.refl _ _⟩
end Go.Proofs.YtkgpnikmdmpfaaaGreatDoor

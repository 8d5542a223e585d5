/-
  Slices of structs in memory; the walks of rows.Check, Valid.
-/
import Derived.Test.YtfkhfofoginaiaaDoorFormP1
set_option linter.unusedVariables false
set_option linter.unusedSimpArgs false
namespace Go.Proofs.YtfkhfofoginaiaaDoor
open Go.RowKit

/-- A slice of structs: its value, and the elements' cells. -/
def Slc {α : Type} (enc : α → List Value) (size : Nat) (w : World) (v : Value) (l : List α) : Prop :=
  (v = .slice none 0 0 ∧ l = []) ∨ ∃ b cap, v = .slice (some ⟨b, 0, none⟩) l.length cap ∧ l.length ≤ cap ∧ b < w.heap.size ∧
    ∀ i x, l[i]? = some x → ∀ j u, (enc x)[j]? = some u → w.cell? ⟨b, i * size + j, none⟩ = some u
theorem Slc.mono {α : Type} {enc : α → List Value} {size : Nat} {w w' : World} {v : Value} {l : List α} (h : Slc enc size w v l) (hb : Below w.heap.size w w') : Slc enc size w' v l := by
  rcases h with h | ⟨b, cap, h1, h2, h3, h4⟩
  · exact .inl h
  · exact .inr ⟨b, cap, h1, h2, by have := hb.size; omega, fun i x hx j u hu => by rw [hb.cell (by exact h3)]; exact h4 i x hx j u hu⟩
def rowCells (r : Sp.Row) : List Value := [.int .i64 r.order, .int .i64 r.deed, .int .i64 r.code, .int .i64 r.amount, .int .i64 r.qty]
abbrev RowsAt := Slc rowCells 5

def rowsChk (p : Int) : Option Sp.Row → List Sp.Row → Bool
  | _, [] => true
  | q, r :: t => Sp.rowOk r p && (match q with | none => true | some q => Sp.keyLess q.order q.deed r.order r.deed) && rowsChk p (some r) t
def rowsOk (l : List Sp.Row) (p : Int) : Bool := decide (0 ≤ p) && decide (p ≤ 2) && decide (l.length ≤ 400) && rowsChk p none l

theorem and6 {a b c d e P : Prop} (h : a ∧ b ∧ c ∧ d ∧ e ∧ P) : P := h.2.2.2.2.2
theorem and8 {a b c d e f g P : Prop} (h : a ∧ b ∧ c ∧ d ∧ e ∧ f ∧ g ∧ P) : P := h.2.2.2.2.2.2.2
theorem heldc {w1 w2 : World} {a : Addr} {c : Value} (hb : Below w1.heap.size w1 w2) (h : w1.cell? a = some c) : w2.cell? a = some c := by
  rw [hb.cell (World.block_lt_of_cell? w1 a h)]; exact h
theorem row_facts {w w' : World} {l : List Sp.Row} {b i : Nat} {r : Sp.Row} (h : ∀ i x, l[i]? = some x → ∀ j u, (rowCells x)[j]? = some u → w.cell? ⟨b, i * 5 + j, none⟩ = some u) (hb : Below w.heap.size w w') (hi : l[i]? = some r) :
    w'.cell? ⟨b, i * 5, none⟩ = some (.int .i64 r.order) ∧ w'.cell? ⟨b, i * 5 + 1, none⟩ = some (.int .i64 r.deed) ∧ w'.cell? ⟨b, i * 5 + 2, none⟩ = some (.int .i64 r.code) ∧ w'.cell? ⟨b, i * 5 + 3, none⟩ = some (.int .i64 r.amount) ∧ w'.cell? ⟨b, i * 5 + 4, none⟩ = some (.int .i64 r.qty) :=
  ⟨heldc hb (h i r hi 0 _ rfl), heldc hb (h i r hi 1 _ rfl), heldc hb (h i r hi 2 _ rfl), heldc hb (h i r hi 3 _ rfl), heldc hb (h i r hi 4 _ rfl)⟩
def prevAt (l : List Sp.Row) (i : Nat) : Option Sp.Row := if i = 0 then none else l[i - 1]?
def RelChk (l : List Sp.Row) (p : Int) (x : Value) : Prop := ∃ i : Nat, i ≤ l.length ∧ x = .int .i64 i ∧ rowsChk p (prevAt l i) (l.drop i) = rowsChk p none l

theorem rowsChk_zero {l : List Sp.Row} {p : Int} {r : Sp.Row} {x : Bool} (h : rowsChk p (prevAt l 0) (l.drop 0) = x) (hr : l[0]? = some r) : (Sp.rowOk r p && rowsChk p (some r) (l.drop 1)) = x := by
  cases l with
  | nil => simp at hr
  | cons a t =>
    simp at hr
    subst hr
    rw [← h]; simp [prevAt, rowsChk]
theorem rowsChk_succ {l : List Sp.Row} {p : Int} {k : Nat} {q r : Sp.Row} {x : Bool} (h : rowsChk p (prevAt l (k + 1)) (l.drop (k + 1)) = x) (hq : l[k]? = some q) (hr : l[k + 1]? = some r) :
    (Sp.rowOk r p && Sp.keyLess q.order q.deed r.order r.deed && rowsChk p (some r) (l.drop (k + 2))) = x := by
  obtain ⟨hlt, he⟩ := List.getElem?_eq_some_iff.1 hr
  rw [← h, List.drop_eq_getElem_cons hlt, he]
  simp [prevAt, hq, rowsChk]

set_option maxRecDepth 100000 in
set_option maxHeartbeats 4000000 in
theorem rowsCheck_any (l : List Sp.Row) (p : Int) (v : Value) (w : World) (hp : Parties w) (hl : RowsAt w v l) :
    Calls Tryd.prog 64 #[v, .int .i64 p] w fun e w' => e = .returned (.bool (rowsOk l p)) ∧ Below w.heap.size w w' := by
  rcases hl with ⟨rfl, rfl⟩ | ⟨b, cap, rfl, hcap, hb, hcells⟩
  · have HO : rowsOk [] p = (decide (0 ≤ p) && decide (p ≤ 2)) := by simp [rowsOk, rowsChk]
    rw [HO]
    clear HO
    go_enter Tryd.func64, Tryd.ntmps64
    have hp0 : p < 0 ∨ (0 ≤ p ∧ p ≤ 2) ∨ 2 < p := by omega
    rcases hp0 with hp0 | ⟨hp0, hp1⟩ | hp0
    · go_wp2
      go_ret
      exact ⟨congrArg (fun b => Ending.returned (.bool b)) (by simp; omega), Below.refl _ _⟩
    · go_wp2
      refine wp_loop_rounds 1 ?_
      rw [rounds_succ]
      go_wp2
      go_ret
      exact ⟨congrArg (fun b => Ending.returned (.bool b)) (by simp; omega), Below.refl _ _⟩
    · go_wp2
      go_ret
      exact ⟨congrArg (fun b => Ending.returned (.bool b)) (by simp; omega), Below.refl _ _⟩
  · by_cases h0 : 0 ≤ p
    · by_cases h1 : p ≤ 2
      · by_cases h2 : l.length ≤ 400
        · have HO : rowsOk l p = rowsChk p none l := by simp [rowsOk, h0, h1, h2]
          rw [HO]
          clear HO
          replace hp := Lib.hid hp
          replace hcells := Lib.hid hcells
          go_enter Tryd.func64, Tryd.ntmps64
          go_wp2
          go_loopw [20] (fun x wr => RelChk l p x ∧ Below w.heap.size w wr) (fun x _ => l.length - (intOf x).toNat)
          case atStart => exact ⟨⟨0, by omega, rfl, rfl⟩, Below.refl _ _⟩
          case round =>
            obtain ⟨⟨i, hi, rfl, HR⟩, hB⟩ := hrel
            have hsz := hB.size
            replace HR := Lib.hid HR
            by_cases hlt : i < l.length
            · obtain ⟨r, hr⟩ : ∃ r, l[i]? = some r := ⟨l[i], List.getElem?_eq_getElem hlt⟩
              obtain ⟨f0, f1, f2, f3, f4⟩ := row_facts hcells.out hB hr
              have HP : Parties wr := hp.out.grew hB
              have HM : Sp.rowOk r p = true ∨ Sp.rowOk r p = false := by cases Sp.rowOk r p <;> simp
              rcases i with _ | k
              · have HR2 := rowsChk_zero HR.out hr
                rcases HM with HM | HM
                · rw [HM] at HR2
                  replace HR2 := Lib.hid HR2
                  replace HM := Lib.hid HM
                  go_wp2
                  refine any_begin (S := (fun w' => w'.cell? ⟨wr.heap.size, 0, none⟩ = some (.int .i64 r.order) ∧ w'.cell? ⟨wr.heap.size, 1, none⟩ = some (.int .i64 r.deed) ∧ w'.cell? ⟨wr.heap.size, 2, none⟩ = some (.int .i64 r.code) ∧ w'.cell? ⟨wr.heap.size, 3, none⟩ = some (.int .i64 r.amount) ∧ w'.cell? ⟨wr.heap.size, 4, none⟩ = some (.int .i64 r.qty) ∧ Below wr.heap.size wr w')) 20 (by kernel_rfl) ?_ (fun hHeld => ?_)
                  focus (first | exact (And.imp (heldc (by assumption)) (And.imp (heldc (by assumption)) (And.imp (heldc (by assumption)) (And.imp (heldc (by assumption)) (And.imp (heldc (by assumption)) (fun h => Grew.trans h (by assumption))))))) (by assumption) | (refine ⟨?_, ?_, ?_, ?_, ?_, ?_⟩ <;> first | (exact heldc (Grew.drew (alloc_grew _ _)) (by assumption)) | (simp [go_sem, *]; done) | (repeat (first | (with_reducible exact Below.refl _ _) | (with_reducible exact alloc_grew _ _) | (with_reducible assumption) | (with_reducible refine Grew.alloc ?_ _) | ((with_reducible refine Below.setCell ?_ ?_ _); rotate_left; focus (first | exact Nat.le_refl _ | (simp; done) | (simp; omega))) | ((with_reducible refine Below.setRow ?_ ?_ _); rotate_left; focus (first | exact Nat.le_refl _ | (simp; done) | (simp; omega) | omega)) | (with_reducible refine Grew.drew ?_) | (with_reducible refine Below.trans ?_ (keeps_drewN _ _)) | (with_reducible refine Grew.trans ?_ (by assumption))))))
                  refine any_take 0 (by kernel_rfl) (by assumption) (fun oi hoi => ?_)
                  simp only [List.getElem?_toArray, List.getElem?_cons_succ, List.getElem?_cons_zero, Option.some.injEq] at hoi; subst hoi
                  refine ⟨?_, fun _ _ _ h => h, Or.inl ⟨by rfl, ?hy⟩, ?_⟩
                  case hy => (intro w hSw; (try dsimp only at hSw); go_simp; (try with_reducible rfl))
                  (try simp only [Act.put, List.setIfInBounds_toArray, List.set_cons_zero, List.set_cons_succ])
                  refine any_take 1 (by kernel_rfl) (by assumption) (fun oi hoi => ?_)
                  simp only [List.getElem?_toArray, List.getElem?_cons_succ, List.getElem?_cons_zero, Option.some.injEq] at hoi; subst hoi
                  refine ⟨?_, fun _ _ _ h => h, Or.inl ⟨by rfl, ?hy⟩, ?_⟩
                  case hy => (intro w hSw; (try dsimp only at hSw); go_simp; (try with_reducible rfl))
                  (try simp only [Act.put, List.setIfInBounds_toArray, List.set_cons_zero, List.set_cons_succ])
                  refine any_only 2 (by kernel_rfl) (fun oi hoi K hK => ?_)
                  simp only [List.getElem?_toArray, List.getElem?_cons_succ, List.getElem?_cons_zero, Option.some.injEq] at hoi; subst hoi
                  rw [if_pos (by rfl)]
                  go_simp
                  (first | (go_at_call 71; refine Calls.mono (rowsMay_any ⟨_, _, _, _, _⟩ _ _ (Parties.grew HP (by first | exact and6 (by assumption) | exact and8 (by assumption)))) ?_; rintro e w1 ⟨rfl, hb⟩; simp only [HM.out]) | (go_at_call 72; refine Calls.mono (keysLess_any _ _ _ _ _) ?_; rintro e w1 ⟨rfl, hb⟩; simp only [HL.out]))
                  refine hK.out _ _ ?_ (fun hHeld => ?_)
                  focus (first | exact (And.imp (heldc (by assumption)) (And.imp (heldc (by assumption)) (And.imp (heldc (by assumption)) (And.imp (heldc (by assumption)) (And.imp (heldc (by assumption)) (fun h => Grew.trans h (by assumption))))))) (by assumption) | (refine ⟨?_, ?_, ?_, ?_, ?_, ?_⟩ <;> first | (exact heldc (Grew.drew (alloc_grew _ _)) (by assumption)) | (simp [go_sem, *]; done) | (repeat (first | (with_reducible exact Below.refl _ _) | (with_reducible exact alloc_grew _ _) | (with_reducible assumption) | (with_reducible refine Grew.alloc ?_ _) | ((with_reducible refine Below.setCell ?_ ?_ _); rotate_left; focus (first | exact Nat.le_refl _ | (simp; done) | (simp; omega))) | ((with_reducible refine Below.setRow ?_ ?_ _); rotate_left; focus (first | exact Nat.le_refl _ | (simp; done) | (simp; omega) | omega)) | (with_reducible refine Grew.drew ?_) | (with_reducible refine Below.trans ?_ (keeps_drewN _ _)) | (with_reducible refine Grew.trans ?_ (by assumption))))))
                  clear hK K
                  (try simp only [Act.put, List.setIfInBounds_toArray, List.set_cons_zero, List.set_cons_succ])
                  refine any_take 3 (by kernel_rfl) (by assumption) (fun oi hoi => ?_)
                  simp only [List.getElem?_toArray, List.getElem?_cons_succ, List.getElem?_cons_zero, Option.some.injEq] at hoi; subst hoi
                  refine ⟨?_, fun _ _ _ h => h, Or.inl ⟨by rfl, ?hy⟩, ?_⟩
                  case hy => (intro w hSw; (try dsimp only at hSw); go_simp; (try with_reducible rfl))
                  (try simp only [Act.put, List.setIfInBounds_toArray, List.set_cons_zero, List.set_cons_succ])
                  refine any_take 4 (by kernel_rfl) (by assumption) (fun oi hoi => ?_)
                  simp only [List.getElem?_toArray, List.getElem?_cons_succ, List.getElem?_cons_zero, Option.some.injEq] at hoi; subst hoi
                  refine ⟨?_, fun _ _ _ h => h, Or.inl ⟨by rfl, ?hy⟩, ?_⟩
                  case hy => (intro w hSw; (try dsimp only at hSw); go_simp; (try with_reducible rfl))
                  (try simp only [Act.put, List.setIfInBounds_toArray, List.set_cons_zero, List.set_cons_succ])
                  refine any_take 5 (by kernel_rfl) (by assumption) (fun oi hoi => ?_)
                  simp only [List.getElem?_toArray, List.getElem?_cons_succ, List.getElem?_cons_zero, Option.some.injEq] at hoi; subst hoi
                  refine ⟨?_, fun _ _ _ h => h, Or.inl ⟨by rfl, ?hy⟩, ?_⟩
                  case hy => (intro w hSw; (try dsimp only at hSw); go_simp; (try with_reducible rfl))
                  (try simp only [Act.put, List.setIfInBounds_toArray, List.set_cons_zero, List.set_cons_succ])
                  refine any_take 6 (by kernel_rfl) (by assumption) (fun oi hoi => ?_)
                  simp only [List.getElem?_toArray, List.getElem?_cons_succ, List.getElem?_cons_zero, Option.some.injEq] at hoi; subst hoi
                  refine ⟨?_, fun _ _ _ h => h, Or.inl ⟨by rfl, ?hy⟩, ?_⟩
                  case hy => (intro w hSw; (try dsimp only at hSw); go_simp; (try with_reducible rfl))
                  (try simp only [Act.put, List.setIfInBounds_toArray, List.set_cons_zero, List.set_cons_succ])
                  refine any_take 7 (by kernel_rfl) (by assumption) (fun oi hoi => ?_)
                  simp only [List.getElem?_toArray, List.getElem?_cons_succ, List.getElem?_cons_zero, Option.some.injEq] at hoi; subst hoi
                  refine ⟨?_, fun _ _ _ h => h, Or.inl ⟨by rfl, ?hy⟩, ?_⟩
                  case hy => (intro w hSw; (try dsimp only at hSw); go_simp; (try with_reducible rfl))
                  (try simp only [Act.put, List.setIfInBounds_toArray, List.set_cons_zero, List.set_cons_succ])
                  refine any_take 8 (by kernel_rfl) (by assumption) (fun oi hoi => ?_)
                  simp only [List.getElem?_toArray, List.getElem?_cons_succ, List.getElem?_cons_zero, Option.some.injEq] at hoi; subst hoi
                  refine ⟨undef, fun _ _ _ h => h, Or.inr ⟨by rfl, rfl⟩, ?_⟩
                  (try simp only [Act.put, List.setIfInBounds_toArray, List.set_cons_zero, List.set_cons_succ])
                  refine any_take 9 (by kernel_rfl) (by assumption) (fun oi hoi => ?_)
                  simp only [List.getElem?_toArray, List.getElem?_cons_succ, List.getElem?_cons_zero, Option.some.injEq] at hoi; subst hoi
                  refine ⟨undef, fun _ _ _ h => h, Or.inr ⟨by rfl, rfl⟩, ?_⟩
                  (try simp only [Act.put, List.setIfInBounds_toArray, List.set_cons_zero, List.set_cons_succ])
                  refine any_take 10 (by kernel_rfl) (by assumption) (fun oi hoi => ?_)
                  simp only [List.getElem?_toArray, List.getElem?_cons_succ, List.getElem?_cons_zero, Option.some.injEq] at hoi; subst hoi
                  refine ⟨undef, fun _ _ _ h => h, Or.inr ⟨by rfl, rfl⟩, ?_⟩
                  (try simp only [Act.put, List.setIfInBounds_toArray, List.set_cons_zero, List.set_cons_succ])
                  refine any_take 11 (by kernel_rfl) (by assumption) (fun oi hoi => ?_)
                  simp only [List.getElem?_toArray, List.getElem?_cons_succ, List.getElem?_cons_zero, Option.some.injEq] at hoi; subst hoi
                  refine ⟨undef, fun _ _ _ h => h, Or.inr ⟨by rfl, rfl⟩, ?_⟩
                  (try simp only [Act.put, List.setIfInBounds_toArray, List.set_cons_zero, List.set_cons_succ])
                  refine any_take 12 (by kernel_rfl) (by assumption) (fun oi hoi => ?_)
                  simp only [List.getElem?_toArray, List.getElem?_cons_succ, List.getElem?_cons_zero, Option.some.injEq] at hoi; subst hoi
                  refine ⟨undef, fun _ _ _ h => h, Or.inr ⟨by rfl, rfl⟩, ?_⟩
                  (try simp only [Act.put, List.setIfInBounds_toArray, List.set_cons_zero, List.set_cons_succ])
                  refine any_take 13 (by kernel_rfl) (by assumption) (fun oi hoi => ?_)
                  simp only [List.getElem?_toArray, List.getElem?_cons_succ, List.getElem?_cons_zero, Option.some.injEq] at hoi; subst hoi
                  refine ⟨undef, fun _ _ _ h => h, Or.inr ⟨by rfl, rfl⟩, ?_⟩
                  (try simp only [Act.put, List.setIfInBounds_toArray, List.set_cons_zero, List.set_cons_succ])
                  refine any_take 14 (by kernel_rfl) (by assumption) (fun oi hoi => ?_)
                  simp only [List.getElem?_toArray, List.getElem?_cons_succ, List.getElem?_cons_zero, Option.some.injEq] at hoi; subst hoi
                  refine ⟨undef, fun _ _ _ h => h, Or.inr ⟨by rfl, rfl⟩, ?_⟩
                  (try simp only [Act.put, List.setIfInBounds_toArray, List.set_cons_zero, List.set_cons_succ])
                  refine any_take 15 (by kernel_rfl) (by assumption) (fun oi hoi => ?_)
                  simp only [List.getElem?_toArray, List.getElem?_cons_succ, List.getElem?_cons_zero, Option.some.injEq] at hoi; subst hoi
                  refine ⟨undef, fun _ _ _ h => h, Or.inr ⟨by rfl, rfl⟩, ?_⟩
                  (try simp only [Act.put, List.setIfInBounds_toArray, List.set_cons_zero, List.set_cons_succ])
                  refine any_take 16 (by kernel_rfl) (by assumption) (fun oi hoi => ?_)
                  simp only [List.getElem?_toArray, List.getElem?_cons_succ, List.getElem?_cons_zero, Option.some.injEq] at hoi; subst hoi
                  refine ⟨undef, fun _ _ _ h => h, Or.inr ⟨by rfl, rfl⟩, ?_⟩
                  (try simp only [Act.put, List.setIfInBounds_toArray, List.set_cons_zero, List.set_cons_succ])
                  refine any_take 17 (by kernel_rfl) (by assumption) (fun oi hoi => ?_)
                  simp only [List.getElem?_toArray, List.getElem?_cons_succ, List.getElem?_cons_zero, Option.some.injEq] at hoi; subst hoi
                  refine ⟨undef, fun _ _ _ h => h, Or.inr ⟨by rfl, rfl⟩, ?_⟩
                  (try simp only [Act.put, List.setIfInBounds_toArray, List.set_cons_zero, List.set_cons_succ])
                  refine any_take 18 (by kernel_rfl) (by assumption) (fun oi hoi => ?_)
                  simp only [List.getElem?_toArray, List.getElem?_cons_succ, List.getElem?_cons_zero, Option.some.injEq] at hoi; subst hoi
                  refine ⟨?_, fun _ _ _ h => h, Or.inl ⟨by rfl, ?hy⟩, ?_⟩
                  case hy => (intro w hSw; (try dsimp only at hSw); go_simp; (try with_reducible rfl))
                  (try simp only [Act.put, List.setIfInBounds_toArray, List.set_cons_zero, List.set_cons_succ])
                  refine any_take 19 (by kernel_rfl) (by assumption) (fun oi hoi => ?_)
                  simp only [List.getElem?_toArray, List.getElem?_cons_succ, List.getElem?_cons_zero, Option.some.injEq] at hoi; subst hoi
                  refine ⟨?_, fun _ _ _ h => h, Or.inl ⟨by rfl, ?hy⟩, ?_⟩
                  case hy => (intro w hSw; (try dsimp only at hSw); go_simp; (try with_reducible rfl))
                  (try simp only [Act.put, List.setIfInBounds_toArray, List.set_cons_zero, List.set_cons_succ])
                  refine any_done (by kernel_rfl) ?_
                  go_wp2
                  refine ⟨⟨⟨1, by omega, by go_num, ?_⟩, Grew.trans hB (and6 (by assumption))⟩, by simp [intOf]; omega⟩
                  simpa [prevAt, hr] using HR2.out
                · rw [HM] at HR2
                  replace HR2 := Lib.hid HR2
                  replace HM := Lib.hid HM
                  go_wp2
                  refine any_begin (S := (fun w' => w'.cell? ⟨wr.heap.size, 0, none⟩ = some (.int .i64 r.order) ∧ w'.cell? ⟨wr.heap.size, 1, none⟩ = some (.int .i64 r.deed) ∧ w'.cell? ⟨wr.heap.size, 2, none⟩ = some (.int .i64 r.code) ∧ w'.cell? ⟨wr.heap.size, 3, none⟩ = some (.int .i64 r.amount) ∧ w'.cell? ⟨wr.heap.size, 4, none⟩ = some (.int .i64 r.qty) ∧ Below wr.heap.size wr w')) 20 (by kernel_rfl) ?_ (fun hHeld => ?_)
                  focus (first | exact (And.imp (heldc (by assumption)) (And.imp (heldc (by assumption)) (And.imp (heldc (by assumption)) (And.imp (heldc (by assumption)) (And.imp (heldc (by assumption)) (fun h => Grew.trans h (by assumption))))))) (by assumption) | (refine ⟨?_, ?_, ?_, ?_, ?_, ?_⟩ <;> first | (exact heldc (Grew.drew (alloc_grew _ _)) (by assumption)) | (simp [go_sem, *]; done) | (repeat (first | (with_reducible exact Below.refl _ _) | (with_reducible exact alloc_grew _ _) | (with_reducible assumption) | (with_reducible refine Grew.alloc ?_ _) | ((with_reducible refine Below.setCell ?_ ?_ _); rotate_left; focus (first | exact Nat.le_refl _ | (simp; done) | (simp; omega))) | ((with_reducible refine Below.setRow ?_ ?_ _); rotate_left; focus (first | exact Nat.le_refl _ | (simp; done) | (simp; omega) | omega)) | (with_reducible refine Grew.drew ?_) | (with_reducible refine Below.trans ?_ (keeps_drewN _ _)) | (with_reducible refine Grew.trans ?_ (by assumption))))))
                  refine any_take 0 (by kernel_rfl) (by assumption) (fun oi hoi => ?_)
                  simp only [List.getElem?_toArray, List.getElem?_cons_succ, List.getElem?_cons_zero, Option.some.injEq] at hoi; subst hoi
                  refine ⟨?_, fun _ _ _ h => h, Or.inl ⟨by rfl, ?hy⟩, ?_⟩
                  case hy => (intro w hSw; (try dsimp only at hSw); go_simp; (try with_reducible rfl))
                  (try simp only [Act.put, List.setIfInBounds_toArray, List.set_cons_zero, List.set_cons_succ])
                  refine any_take 1 (by kernel_rfl) (by assumption) (fun oi hoi => ?_)
                  simp only [List.getElem?_toArray, List.getElem?_cons_succ, List.getElem?_cons_zero, Option.some.injEq] at hoi; subst hoi
                  refine ⟨?_, fun _ _ _ h => h, Or.inl ⟨by rfl, ?hy⟩, ?_⟩
                  case hy => (intro w hSw; (try dsimp only at hSw); go_simp; (try with_reducible rfl))
                  (try simp only [Act.put, List.setIfInBounds_toArray, List.set_cons_zero, List.set_cons_succ])
                  refine any_only 2 (by kernel_rfl) (fun oi hoi K hK => ?_)
                  simp only [List.getElem?_toArray, List.getElem?_cons_succ, List.getElem?_cons_zero, Option.some.injEq] at hoi; subst hoi
                  rw [if_pos (by rfl)]
                  go_simp
                  (first | (go_at_call 71; refine Calls.mono (rowsMay_any ⟨_, _, _, _, _⟩ _ _ (Parties.grew HP (by first | exact and6 (by assumption) | exact and8 (by assumption)))) ?_; rintro e w1 ⟨rfl, hb⟩; simp only [HM.out]) | (go_at_call 72; refine Calls.mono (keysLess_any _ _ _ _ _) ?_; rintro e w1 ⟨rfl, hb⟩; simp only [HL.out]))
                  refine hK.out _ _ ?_ (fun hHeld => ?_)
                  focus (first | exact (And.imp (heldc (by assumption)) (And.imp (heldc (by assumption)) (And.imp (heldc (by assumption)) (And.imp (heldc (by assumption)) (And.imp (heldc (by assumption)) (fun h => Grew.trans h (by assumption))))))) (by assumption) | (refine ⟨?_, ?_, ?_, ?_, ?_, ?_⟩ <;> first | (exact heldc (Grew.drew (alloc_grew _ _)) (by assumption)) | (simp [go_sem, *]; done) | (repeat (first | (with_reducible exact Below.refl _ _) | (with_reducible exact alloc_grew _ _) | (with_reducible assumption) | (with_reducible refine Grew.alloc ?_ _) | ((with_reducible refine Below.setCell ?_ ?_ _); rotate_left; focus (first | exact Nat.le_refl _ | (simp; done) | (simp; omega))) | ((with_reducible refine Below.setRow ?_ ?_ _); rotate_left; focus (first | exact Nat.le_refl _ | (simp; done) | (simp; omega) | omega)) | (with_reducible refine Grew.drew ?_) | (with_reducible refine Below.trans ?_ (keeps_drewN _ _)) | (with_reducible refine Grew.trans ?_ (by assumption))))))
                  clear hK K
                  (try simp only [Act.put, List.setIfInBounds_toArray, List.set_cons_zero, List.set_cons_succ])
                  refine any_take 3 (by kernel_rfl) (by assumption) (fun oi hoi => ?_)
                  simp only [List.getElem?_toArray, List.getElem?_cons_succ, List.getElem?_cons_zero, Option.some.injEq] at hoi; subst hoi
                  refine ⟨?_, fun _ _ _ h => h, Or.inl ⟨by rfl, ?hy⟩, ?_⟩
                  case hy => (intro w hSw; (try dsimp only at hSw); go_simp; (try with_reducible rfl))
                  (try simp only [Act.put, List.setIfInBounds_toArray, List.set_cons_zero, List.set_cons_succ])
                  refine any_take 4 (by kernel_rfl) (by assumption) (fun oi hoi => ?_)
                  simp only [List.getElem?_toArray, List.getElem?_cons_succ, List.getElem?_cons_zero, Option.some.injEq] at hoi; subst hoi
                  refine ⟨?_, fun _ _ _ h => h, Or.inl ⟨by rfl, ?hy⟩, ?_⟩
                  case hy => (intro w hSw; (try dsimp only at hSw); go_simp; (try with_reducible rfl))
                  (try simp only [Act.put, List.setIfInBounds_toArray, List.set_cons_zero, List.set_cons_succ])
                  refine any_take 5 (by kernel_rfl) (by assumption) (fun oi hoi => ?_)
                  simp only [List.getElem?_toArray, List.getElem?_cons_succ, List.getElem?_cons_zero, Option.some.injEq] at hoi; subst hoi
                  refine ⟨undef, fun _ _ _ h => h, Or.inr ⟨by rfl, rfl⟩, ?_⟩
                  (try simp only [Act.put, List.setIfInBounds_toArray, List.set_cons_zero, List.set_cons_succ])
                  refine any_take 6 (by kernel_rfl) (by assumption) (fun oi hoi => ?_)
                  simp only [List.getElem?_toArray, List.getElem?_cons_succ, List.getElem?_cons_zero, Option.some.injEq] at hoi; subst hoi
                  refine ⟨undef, fun _ _ _ h => h, Or.inr ⟨by rfl, rfl⟩, ?_⟩
                  (try simp only [Act.put, List.setIfInBounds_toArray, List.set_cons_zero, List.set_cons_succ])
                  refine any_take 7 (by kernel_rfl) (by assumption) (fun oi hoi => ?_)
                  simp only [List.getElem?_toArray, List.getElem?_cons_succ, List.getElem?_cons_zero, Option.some.injEq] at hoi; subst hoi
                  refine ⟨undef, fun _ _ _ h => h, Or.inr ⟨by rfl, rfl⟩, ?_⟩
                  (try simp only [Act.put, List.setIfInBounds_toArray, List.set_cons_zero, List.set_cons_succ])
                  refine any_take 8 (by kernel_rfl) (by assumption) (fun oi hoi => ?_)
                  simp only [List.getElem?_toArray, List.getElem?_cons_succ, List.getElem?_cons_zero, Option.some.injEq] at hoi; subst hoi
                  refine ⟨undef, fun _ _ _ h => h, Or.inr ⟨by rfl, rfl⟩, ?_⟩
                  (try simp only [Act.put, List.setIfInBounds_toArray, List.set_cons_zero, List.set_cons_succ])
                  refine any_take 9 (by kernel_rfl) (by assumption) (fun oi hoi => ?_)
                  simp only [List.getElem?_toArray, List.getElem?_cons_succ, List.getElem?_cons_zero, Option.some.injEq] at hoi; subst hoi
                  refine ⟨undef, fun _ _ _ h => h, Or.inr ⟨by rfl, rfl⟩, ?_⟩
                  (try simp only [Act.put, List.setIfInBounds_toArray, List.set_cons_zero, List.set_cons_succ])
                  refine any_take 10 (by kernel_rfl) (by assumption) (fun oi hoi => ?_)
                  simp only [List.getElem?_toArray, List.getElem?_cons_succ, List.getElem?_cons_zero, Option.some.injEq] at hoi; subst hoi
                  refine ⟨undef, fun _ _ _ h => h, Or.inr ⟨by rfl, rfl⟩, ?_⟩
                  (try simp only [Act.put, List.setIfInBounds_toArray, List.set_cons_zero, List.set_cons_succ])
                  refine any_take 11 (by kernel_rfl) (by assumption) (fun oi hoi => ?_)
                  simp only [List.getElem?_toArray, List.getElem?_cons_succ, List.getElem?_cons_zero, Option.some.injEq] at hoi; subst hoi
                  refine ⟨undef, fun _ _ _ h => h, Or.inr ⟨by rfl, rfl⟩, ?_⟩
                  (try simp only [Act.put, List.setIfInBounds_toArray, List.set_cons_zero, List.set_cons_succ])
                  refine any_take 12 (by kernel_rfl) (by assumption) (fun oi hoi => ?_)
                  simp only [List.getElem?_toArray, List.getElem?_cons_succ, List.getElem?_cons_zero, Option.some.injEq] at hoi; subst hoi
                  refine ⟨undef, fun _ _ _ h => h, Or.inr ⟨by rfl, rfl⟩, ?_⟩
                  (try simp only [Act.put, List.setIfInBounds_toArray, List.set_cons_zero, List.set_cons_succ])
                  refine any_take 13 (by kernel_rfl) (by assumption) (fun oi hoi => ?_)
                  simp only [List.getElem?_toArray, List.getElem?_cons_succ, List.getElem?_cons_zero, Option.some.injEq] at hoi; subst hoi
                  refine ⟨undef, fun _ _ _ h => h, Or.inr ⟨by rfl, rfl⟩, ?_⟩
                  (try simp only [Act.put, List.setIfInBounds_toArray, List.set_cons_zero, List.set_cons_succ])
                  refine any_take 14 (by kernel_rfl) (by assumption) (fun oi hoi => ?_)
                  simp only [List.getElem?_toArray, List.getElem?_cons_succ, List.getElem?_cons_zero, Option.some.injEq] at hoi; subst hoi
                  refine ⟨undef, fun _ _ _ h => h, Or.inr ⟨by rfl, rfl⟩, ?_⟩
                  (try simp only [Act.put, List.setIfInBounds_toArray, List.set_cons_zero, List.set_cons_succ])
                  refine any_take 15 (by kernel_rfl) (by assumption) (fun oi hoi => ?_)
                  simp only [List.getElem?_toArray, List.getElem?_cons_succ, List.getElem?_cons_zero, Option.some.injEq] at hoi; subst hoi
                  refine ⟨undef, fun _ _ _ h => h, Or.inr ⟨by rfl, rfl⟩, ?_⟩
                  (try simp only [Act.put, List.setIfInBounds_toArray, List.set_cons_zero, List.set_cons_succ])
                  refine any_take 16 (by kernel_rfl) (by assumption) (fun oi hoi => ?_)
                  simp only [List.getElem?_toArray, List.getElem?_cons_succ, List.getElem?_cons_zero, Option.some.injEq] at hoi; subst hoi
                  refine ⟨undef, fun _ _ _ h => h, Or.inr ⟨by rfl, rfl⟩, ?_⟩
                  (try simp only [Act.put, List.setIfInBounds_toArray, List.set_cons_zero, List.set_cons_succ])
                  refine any_take 17 (by kernel_rfl) (by assumption) (fun oi hoi => ?_)
                  simp only [List.getElem?_toArray, List.getElem?_cons_succ, List.getElem?_cons_zero, Option.some.injEq] at hoi; subst hoi
                  refine ⟨undef, fun _ _ _ h => h, Or.inr ⟨by rfl, rfl⟩, ?_⟩
                  (try simp only [Act.put, List.setIfInBounds_toArray, List.set_cons_zero, List.set_cons_succ])
                  refine any_take 18 (by kernel_rfl) (by assumption) (fun oi hoi => ?_)
                  simp only [List.getElem?_toArray, List.getElem?_cons_succ, List.getElem?_cons_zero, Option.some.injEq] at hoi; subst hoi
                  refine ⟨undef, fun _ _ _ h => h, Or.inr ⟨by rfl, rfl⟩, ?_⟩
                  (try simp only [Act.put, List.setIfInBounds_toArray, List.set_cons_zero, List.set_cons_succ])
                  refine any_take 19 (by kernel_rfl) (by assumption) (fun oi hoi => ?_)
                  simp only [List.getElem?_toArray, List.getElem?_cons_succ, List.getElem?_cons_zero, Option.some.injEq] at hoi; subst hoi
                  refine ⟨?_, fun _ _ _ h => h, Or.inl ⟨by rfl, ?hy⟩, ?_⟩
                  case hy => (intro w hSw; (try dsimp only at hSw); go_simp; (try with_reducible rfl))
                  (try simp only [Act.put, List.setIfInBounds_toArray, List.set_cons_zero, List.set_cons_succ])
                  refine any_done (by kernel_rfl) ?_
                  go_wp2
                  go_ret
                  refine ⟨congrArg (fun b => Ending.returned (.bool b)) ?_, Grew.trans hB (and6 (by assumption))⟩
                  simpa using HR2.out
              · obtain ⟨q, hq⟩ : ∃ q, l[k]? = some q := ⟨l[k], List.getElem?_eq_getElem (by omega)⟩
                have HR2 := rowsChk_succ HR.out hq hr
                obtain ⟨g0, g1, g2, g3, g4⟩ := row_facts hcells.out hB hq
                have hwk : IntKind.i64.wrap (k : Int) = k := by rw [wrap_i64_val]; omega
                have hk0 : (0 : Int) ≤ k := by omega
                have hk1 : (k : Int) < l.length := by omega
                rcases HM with HM | HM
                · have HL : Sp.keyLess q.order q.deed r.order r.deed = true ∨ Sp.keyLess q.order q.deed r.order r.deed = false := by cases Sp.keyLess q.order q.deed r.order r.deed <;> simp
                  rcases HL with HL | HL
                  · rw [HM, HL] at HR2
                    replace HR2 := Lib.hid HR2
                    replace HM := Lib.hid HM
                    replace HL := Lib.hid HL
                    go_wp2
                    refine any_begin (S := (fun w' => w'.cell? ⟨wr.heap.size, 0, none⟩ = some (.int .i64 r.order) ∧ w'.cell? ⟨wr.heap.size, 1, none⟩ = some (.int .i64 r.deed) ∧ w'.cell? ⟨wr.heap.size, 2, none⟩ = some (.int .i64 r.code) ∧ w'.cell? ⟨wr.heap.size, 3, none⟩ = some (.int .i64 r.amount) ∧ w'.cell? ⟨wr.heap.size, 4, none⟩ = some (.int .i64 r.qty) ∧ w'.cell? ⟨b, k * 5, none⟩ = some (.int .i64 q.order) ∧ w'.cell? ⟨b, k * 5 + 1, none⟩ = some (.int .i64 q.deed) ∧ Below wr.heap.size wr w')) 20 (by kernel_rfl) ?_ (fun hHeld => ?_)
                    focus (first | exact (And.imp (heldc (by assumption)) (And.imp (heldc (by assumption)) (And.imp (heldc (by assumption)) (And.imp (heldc (by assumption)) (And.imp (heldc (by assumption)) (And.imp (heldc (by assumption)) (And.imp (heldc (by assumption)) (fun h => Grew.trans h (by assumption))))))))) (by assumption) | (refine ⟨?_, ?_, ?_, ?_, ?_, ?_, ?_, ?_⟩ <;> first | (exact heldc (Grew.drew (alloc_grew _ _)) (by assumption)) | (simp [go_sem, *]; done) | (repeat (first | (with_reducible exact Below.refl _ _) | (with_reducible exact alloc_grew _ _) | (with_reducible assumption) | (with_reducible refine Grew.alloc ?_ _) | ((with_reducible refine Below.setCell ?_ ?_ _); rotate_left; focus (first | exact Nat.le_refl _ | (simp; done) | (simp; omega))) | ((with_reducible refine Below.setRow ?_ ?_ _); rotate_left; focus (first | exact Nat.le_refl _ | (simp; done) | (simp; omega) | omega)) | (with_reducible refine Grew.drew ?_) | (with_reducible refine Below.trans ?_ (keeps_drewN _ _)) | (with_reducible refine Grew.trans ?_ (by assumption))))))
                    refine any_take 0 (by kernel_rfl) (by assumption) (fun oi hoi => ?_)
                    simp only [List.getElem?_toArray, List.getElem?_cons_succ, List.getElem?_cons_zero, Option.some.injEq] at hoi; subst hoi
                    refine ⟨?_, fun _ _ _ h => h, Or.inl ⟨by rfl, ?hy⟩, ?_⟩
                    case hy => (intro w hSw; (try dsimp only at hSw); go_simp; (try with_reducible rfl))
                    (try simp only [Act.put, List.setIfInBounds_toArray, List.set_cons_zero, List.set_cons_succ])
                    refine any_take 1 (by kernel_rfl) (by assumption) (fun oi hoi => ?_)
                    simp only [List.getElem?_toArray, List.getElem?_cons_succ, List.getElem?_cons_zero, Option.some.injEq] at hoi; subst hoi
                    refine ⟨?_, fun _ _ _ h => h, Or.inl ⟨by rfl, ?hy⟩, ?_⟩
                    case hy => (intro w hSw; (try dsimp only at hSw); go_simp; (try with_reducible rfl))
                    (try simp only [Act.put, List.setIfInBounds_toArray, List.set_cons_zero, List.set_cons_succ])
                    refine any_only 2 (by kernel_rfl) (fun oi hoi K hK => ?_)
                    simp only [List.getElem?_toArray, List.getElem?_cons_succ, List.getElem?_cons_zero, Option.some.injEq] at hoi; subst hoi
                    rw [if_pos (by rfl)]
                    go_simp
                    (first | (go_at_call 71; refine Calls.mono (rowsMay_any ⟨_, _, _, _, _⟩ _ _ (Parties.grew HP (by first | exact and6 (by assumption) | exact and8 (by assumption)))) ?_; rintro e w1 ⟨rfl, hb⟩; simp only [HM.out]) | (go_at_call 72; refine Calls.mono (keysLess_any _ _ _ _ _) ?_; rintro e w1 ⟨rfl, hb⟩; simp only [HL.out]))
                    refine hK.out _ _ ?_ (fun hHeld => ?_)
                    focus (first | exact (And.imp (heldc (by assumption)) (And.imp (heldc (by assumption)) (And.imp (heldc (by assumption)) (And.imp (heldc (by assumption)) (And.imp (heldc (by assumption)) (And.imp (heldc (by assumption)) (And.imp (heldc (by assumption)) (fun h => Grew.trans h (by assumption))))))))) (by assumption) | (refine ⟨?_, ?_, ?_, ?_, ?_, ?_, ?_, ?_⟩ <;> first | (exact heldc (Grew.drew (alloc_grew _ _)) (by assumption)) | (simp [go_sem, *]; done) | (repeat (first | (with_reducible exact Below.refl _ _) | (with_reducible exact alloc_grew _ _) | (with_reducible assumption) | (with_reducible refine Grew.alloc ?_ _) | ((with_reducible refine Below.setCell ?_ ?_ _); rotate_left; focus (first | exact Nat.le_refl _ | (simp; done) | (simp; omega))) | ((with_reducible refine Below.setRow ?_ ?_ _); rotate_left; focus (first | exact Nat.le_refl _ | (simp; done) | (simp; omega) | omega)) | (with_reducible refine Grew.drew ?_) | (with_reducible refine Below.trans ?_ (keeps_drewN _ _)) | (with_reducible refine Grew.trans ?_ (by assumption))))))
                    clear hK K
                    (try simp only [Act.put, List.setIfInBounds_toArray, List.set_cons_zero, List.set_cons_succ])
                    refine any_take 3 (by kernel_rfl) (by assumption) (fun oi hoi => ?_)
                    simp only [List.getElem?_toArray, List.getElem?_cons_succ, List.getElem?_cons_zero, Option.some.injEq] at hoi; subst hoi
                    refine ⟨?_, fun _ _ _ h => h, Or.inl ⟨by rfl, ?hy⟩, ?_⟩
                    case hy => (intro w hSw; (try dsimp only at hSw); go_simp; (try with_reducible rfl))
                    (try simp only [Act.put, List.setIfInBounds_toArray, List.set_cons_zero, List.set_cons_succ])
                    refine any_take 4 (by kernel_rfl) (by assumption) (fun oi hoi => ?_)
                    simp only [List.getElem?_toArray, List.getElem?_cons_succ, List.getElem?_cons_zero, Option.some.injEq] at hoi; subst hoi
                    refine ⟨?_, fun _ _ _ h => h, Or.inl ⟨by rfl, ?hy⟩, ?_⟩
                    case hy => (intro w hSw; (try dsimp only at hSw); go_simp; (try with_reducible rfl))
                    (try simp only [Act.put, List.setIfInBounds_toArray, List.set_cons_zero, List.set_cons_succ])
                    refine any_take 5 (by kernel_rfl) (by assumption) (fun oi hoi => ?_)
                    simp only [List.getElem?_toArray, List.getElem?_cons_succ, List.getElem?_cons_zero, Option.some.injEq] at hoi; subst hoi
                    refine ⟨?_, fun _ _ _ h => h, Or.inl ⟨by rfl, ?hy⟩, ?_⟩
                    case hy => (intro w hSw; (try dsimp only at hSw); go_simp; (try with_reducible rfl))
                    (try simp only [Act.put, List.setIfInBounds_toArray, List.set_cons_zero, List.set_cons_succ])
                    refine any_take 6 (by kernel_rfl) (by assumption) (fun oi hoi => ?_)
                    simp only [List.getElem?_toArray, List.getElem?_cons_succ, List.getElem?_cons_zero, Option.some.injEq] at hoi; subst hoi
                    refine ⟨?_, fun _ _ _ h => h, Or.inl ⟨by rfl, ?hy⟩, ?_⟩
                    case hy => (intro w hSw; (try dsimp only at hSw); go_simp; (try with_reducible rfl))
                    (try simp only [Act.put, List.setIfInBounds_toArray, List.set_cons_zero, List.set_cons_succ])
                    refine any_take 7 (by kernel_rfl) (by assumption) (fun oi hoi => ?_)
                    simp only [List.getElem?_toArray, List.getElem?_cons_succ, List.getElem?_cons_zero, Option.some.injEq] at hoi; subst hoi
                    refine ⟨?_, fun _ _ _ h => h, Or.inl ⟨by rfl, ?hy⟩, ?_⟩
                    case hy => (intro w hSw; (try dsimp only at hSw); go_simp; (try with_reducible rfl))
                    (try simp only [Act.put, List.setIfInBounds_toArray, List.set_cons_zero, List.set_cons_succ])
                    refine any_take 8 (by kernel_rfl) (by assumption) (fun oi hoi => ?_)
                    simp only [List.getElem?_toArray, List.getElem?_cons_succ, List.getElem?_cons_zero, Option.some.injEq] at hoi; subst hoi
                    refine ⟨?_, fun _ _ _ h => h, Or.inl ⟨by rfl, ?hy⟩, ?_⟩
                    case hy => (intro w hSw; (try dsimp only at hSw); go_simp; (try with_reducible rfl))
                    (try simp only [Act.put, List.setIfInBounds_toArray, List.set_cons_zero, List.set_cons_succ])
                    refine any_take 9 (by kernel_rfl) (by assumption) (fun oi hoi => ?_)
                    simp only [List.getElem?_toArray, List.getElem?_cons_succ, List.getElem?_cons_zero, Option.some.injEq] at hoi; subst hoi
                    refine ⟨?_, fun _ _ _ h => h, Or.inl ⟨by rfl, ?hy⟩, ?_⟩
                    case hy => (intro w hSw; (try dsimp only at hSw); go_simp; (try with_reducible rfl))
                    (try simp only [Act.put, List.setIfInBounds_toArray, List.set_cons_zero, List.set_cons_succ])
                    refine any_take 10 (by kernel_rfl) (by assumption) (fun oi hoi => ?_)
                    simp only [List.getElem?_toArray, List.getElem?_cons_succ, List.getElem?_cons_zero, Option.some.injEq] at hoi; subst hoi
                    refine ⟨?_, fun _ _ _ h => h, Or.inl ⟨by rfl, ?hy⟩, ?_⟩
                    case hy => (intro w hSw; (try dsimp only at hSw); go_simp; (try with_reducible rfl))
                    (try simp only [Act.put, List.setIfInBounds_toArray, List.set_cons_zero, List.set_cons_succ])
                    refine any_take 11 (by kernel_rfl) (by assumption) (fun oi hoi => ?_)
                    simp only [List.getElem?_toArray, List.getElem?_cons_succ, List.getElem?_cons_zero, Option.some.injEq] at hoi; subst hoi
                    refine ⟨?_, fun _ _ _ h => h, Or.inl ⟨by rfl, ?hy⟩, ?_⟩
                    case hy => (intro w hSw; (try dsimp only at hSw); go_simp; (try with_reducible rfl))
                    (try simp only [Act.put, List.setIfInBounds_toArray, List.set_cons_zero, List.set_cons_succ])
                    refine any_take 12 (by kernel_rfl) (by assumption) (fun oi hoi => ?_)
                    simp only [List.getElem?_toArray, List.getElem?_cons_succ, List.getElem?_cons_zero, Option.some.injEq] at hoi; subst hoi
                    refine ⟨?_, fun _ _ _ h => h, Or.inl ⟨by rfl, ?hy⟩, ?_⟩
                    case hy => (intro w hSw; (try dsimp only at hSw); go_simp; (try with_reducible rfl))
                    (try simp only [Act.put, List.setIfInBounds_toArray, List.set_cons_zero, List.set_cons_succ])
                    refine any_take 13 (by kernel_rfl) (by assumption) (fun oi hoi => ?_)
                    simp only [List.getElem?_toArray, List.getElem?_cons_succ, List.getElem?_cons_zero, Option.some.injEq] at hoi; subst hoi
                    refine ⟨?_, fun _ _ _ h => h, Or.inl ⟨by rfl, ?hy⟩, ?_⟩
                    case hy => (intro w hSw; (try dsimp only at hSw); go_simp; (try with_reducible rfl))
                    (try simp only [Act.put, List.setIfInBounds_toArray, List.set_cons_zero, List.set_cons_succ])
                    refine any_take 14 (by kernel_rfl) (by assumption) (fun oi hoi => ?_)
                    simp only [List.getElem?_toArray, List.getElem?_cons_succ, List.getElem?_cons_zero, Option.some.injEq] at hoi; subst hoi
                    refine ⟨?_, fun _ _ _ h => h, Or.inl ⟨by rfl, ?hy⟩, ?_⟩
                    case hy => (intro w hSw; (try dsimp only at hSw); go_simp; (try with_reducible rfl))
                    (try simp only [Act.put, List.setIfInBounds_toArray, List.set_cons_zero, List.set_cons_succ])
                    refine any_take 15 (by kernel_rfl) (by assumption) (fun oi hoi => ?_)
                    simp only [List.getElem?_toArray, List.getElem?_cons_succ, List.getElem?_cons_zero, Option.some.injEq] at hoi; subst hoi
                    refine ⟨?_, fun _ _ _ h => h, Or.inl ⟨by rfl, ?hy⟩, ?_⟩
                    case hy => (intro w hSw; (try dsimp only at hSw); go_simp; (try with_reducible rfl))
                    (try simp only [Act.put, List.setIfInBounds_toArray, List.set_cons_zero, List.set_cons_succ])
                    refine any_only 16 (by kernel_rfl) (fun oi hoi K hK => ?_)
                    simp only [List.getElem?_toArray, List.getElem?_cons_succ, List.getElem?_cons_zero, Option.some.injEq] at hoi; subst hoi
                    rw [if_pos (by rfl)]
                    go_simp
                    (first | (go_at_call 71; refine Calls.mono (rowsMay_any ⟨_, _, _, _, _⟩ _ _ (Parties.grew HP (by first | exact and6 (by assumption) | exact and8 (by assumption)))) ?_; rintro e w1 ⟨rfl, hb⟩; simp only [HM.out]) | (go_at_call 72; refine Calls.mono (keysLess_any _ _ _ _ _) ?_; rintro e w1 ⟨rfl, hb⟩; simp only [HL.out]))
                    refine hK.out _ _ ?_ (fun hHeld => ?_)
                    focus (first | exact (And.imp (heldc (by assumption)) (And.imp (heldc (by assumption)) (And.imp (heldc (by assumption)) (And.imp (heldc (by assumption)) (And.imp (heldc (by assumption)) (And.imp (heldc (by assumption)) (And.imp (heldc (by assumption)) (fun h => Grew.trans h (by assumption))))))))) (by assumption) | (refine ⟨?_, ?_, ?_, ?_, ?_, ?_, ?_, ?_⟩ <;> first | (exact heldc (Grew.drew (alloc_grew _ _)) (by assumption)) | (simp [go_sem, *]; done) | (repeat (first | (with_reducible exact Below.refl _ _) | (with_reducible exact alloc_grew _ _) | (with_reducible assumption) | (with_reducible refine Grew.alloc ?_ _) | ((with_reducible refine Below.setCell ?_ ?_ _); rotate_left; focus (first | exact Nat.le_refl _ | (simp; done) | (simp; omega))) | ((with_reducible refine Below.setRow ?_ ?_ _); rotate_left; focus (first | exact Nat.le_refl _ | (simp; done) | (simp; omega) | omega)) | (with_reducible refine Grew.drew ?_) | (with_reducible refine Below.trans ?_ (keeps_drewN _ _)) | (with_reducible refine Grew.trans ?_ (by assumption))))))
                    clear hK K
                    (try simp only [Act.put, List.setIfInBounds_toArray, List.set_cons_zero, List.set_cons_succ])
                    refine any_take 17 (by kernel_rfl) (by assumption) (fun oi hoi => ?_)
                    simp only [List.getElem?_toArray, List.getElem?_cons_succ, List.getElem?_cons_zero, Option.some.injEq] at hoi; subst hoi
                    refine ⟨?_, fun _ _ _ h => h, Or.inl ⟨by rfl, ?hy⟩, ?_⟩
                    case hy => (intro w hSw; (try dsimp only at hSw); go_simp; (try with_reducible rfl))
                    (try simp only [Act.put, List.setIfInBounds_toArray, List.set_cons_zero, List.set_cons_succ])
                    refine any_take 18 (by kernel_rfl) (by assumption) (fun oi hoi => ?_)
                    simp only [List.getElem?_toArray, List.getElem?_cons_succ, List.getElem?_cons_zero, Option.some.injEq] at hoi; subst hoi
                    refine ⟨?_, fun _ _ _ h => h, Or.inl ⟨by rfl, ?hy⟩, ?_⟩
                    case hy => (intro w hSw; (try dsimp only at hSw); go_simp; (try with_reducible rfl))
                    (try simp only [Act.put, List.setIfInBounds_toArray, List.set_cons_zero, List.set_cons_succ])
                    refine any_take 19 (by kernel_rfl) (by assumption) (fun oi hoi => ?_)
                    simp only [List.getElem?_toArray, List.getElem?_cons_succ, List.getElem?_cons_zero, Option.some.injEq] at hoi; subst hoi
                    refine ⟨?_, fun _ _ _ h => h, Or.inl ⟨by rfl, ?hy⟩, ?_⟩
                    case hy => (intro w hSw; (try dsimp only at hSw); go_simp; (try with_reducible rfl))
                    (try simp only [Act.put, List.setIfInBounds_toArray, List.set_cons_zero, List.set_cons_succ])
                    refine any_done (by kernel_rfl) ?_
                    go_wp2
                    refine ⟨⟨⟨k + 2, by omega, by go_num, ?_⟩, Grew.trans hB (and8 (by assumption))⟩, by simp [intOf]; omega⟩
                    simpa [prevAt, hr] using HR2.out
                  · rw [HM, HL] at HR2
                    replace HR2 := Lib.hid HR2
                    replace HM := Lib.hid HM
                    replace HL := Lib.hid HL
                    go_wp2
                    refine any_begin (S := (fun w' => w'.cell? ⟨wr.heap.size, 0, none⟩ = some (.int .i64 r.order) ∧ w'.cell? ⟨wr.heap.size, 1, none⟩ = some (.int .i64 r.deed) ∧ w'.cell? ⟨wr.heap.size, 2, none⟩ = some (.int .i64 r.code) ∧ w'.cell? ⟨wr.heap.size, 3, none⟩ = some (.int .i64 r.amount) ∧ w'.cell? ⟨wr.heap.size, 4, none⟩ = some (.int .i64 r.qty) ∧ w'.cell? ⟨b, k * 5, none⟩ = some (.int .i64 q.order) ∧ w'.cell? ⟨b, k * 5 + 1, none⟩ = some (.int .i64 q.deed) ∧ Below wr.heap.size wr w')) 20 (by kernel_rfl) ?_ (fun hHeld => ?_)
                    focus (first | exact (And.imp (heldc (by assumption)) (And.imp (heldc (by assumption)) (And.imp (heldc (by assumption)) (And.imp (heldc (by assumption)) (And.imp (heldc (by assumption)) (And.imp (heldc (by assumption)) (And.imp (heldc (by assumption)) (fun h => Grew.trans h (by assumption))))))))) (by assumption) | (refine ⟨?_, ?_, ?_, ?_, ?_, ?_, ?_, ?_⟩ <;> first | (exact heldc (Grew.drew (alloc_grew _ _)) (by assumption)) | (simp [go_sem, *]; done) | (repeat (first | (with_reducible exact Below.refl _ _) | (with_reducible exact alloc_grew _ _) | (with_reducible assumption) | (with_reducible refine Grew.alloc ?_ _) | ((with_reducible refine Below.setCell ?_ ?_ _); rotate_left; focus (first | exact Nat.le_refl _ | (simp; done) | (simp; omega))) | ((with_reducible refine Below.setRow ?_ ?_ _); rotate_left; focus (first | exact Nat.le_refl _ | (simp; done) | (simp; omega) | omega)) | (with_reducible refine Grew.drew ?_) | (with_reducible refine Below.trans ?_ (keeps_drewN _ _)) | (with_reducible refine Grew.trans ?_ (by assumption))))))
                    refine any_take 0 (by kernel_rfl) (by assumption) (fun oi hoi => ?_)
                    simp only [List.getElem?_toArray, List.getElem?_cons_succ, List.getElem?_cons_zero, Option.some.injEq] at hoi; subst hoi
                    refine ⟨?_, fun _ _ _ h => h, Or.inl ⟨by rfl, ?hy⟩, ?_⟩
                    case hy => (intro w hSw; (try dsimp only at hSw); go_simp; (try with_reducible rfl))
                    (try simp only [Act.put, List.setIfInBounds_toArray, List.set_cons_zero, List.set_cons_succ])
                    refine any_take 1 (by kernel_rfl) (by assumption) (fun oi hoi => ?_)
                    simp only [List.getElem?_toArray, List.getElem?_cons_succ, List.getElem?_cons_zero, Option.some.injEq] at hoi; subst hoi
                    refine ⟨?_, fun _ _ _ h => h, Or.inl ⟨by rfl, ?hy⟩, ?_⟩
                    case hy => (intro w hSw; (try dsimp only at hSw); go_simp; (try with_reducible rfl))
                    (try simp only [Act.put, List.setIfInBounds_toArray, List.set_cons_zero, List.set_cons_succ])
                    refine any_only 2 (by kernel_rfl) (fun oi hoi K hK => ?_)
                    simp only [List.getElem?_toArray, List.getElem?_cons_succ, List.getElem?_cons_zero, Option.some.injEq] at hoi; subst hoi
                    rw [if_pos (by rfl)]
                    go_simp
                    (first | (go_at_call 71; refine Calls.mono (rowsMay_any ⟨_, _, _, _, _⟩ _ _ (Parties.grew HP (by first | exact and6 (by assumption) | exact and8 (by assumption)))) ?_; rintro e w1 ⟨rfl, hb⟩; simp only [HM.out]) | (go_at_call 72; refine Calls.mono (keysLess_any _ _ _ _ _) ?_; rintro e w1 ⟨rfl, hb⟩; simp only [HL.out]))
                    refine hK.out _ _ ?_ (fun hHeld => ?_)
                    focus (first | exact (And.imp (heldc (by assumption)) (And.imp (heldc (by assumption)) (And.imp (heldc (by assumption)) (And.imp (heldc (by assumption)) (And.imp (heldc (by assumption)) (And.imp (heldc (by assumption)) (And.imp (heldc (by assumption)) (fun h => Grew.trans h (by assumption))))))))) (by assumption) | (refine ⟨?_, ?_, ?_, ?_, ?_, ?_, ?_, ?_⟩ <;> first | (exact heldc (Grew.drew (alloc_grew _ _)) (by assumption)) | (simp [go_sem, *]; done) | (repeat (first | (with_reducible exact Below.refl _ _) | (with_reducible exact alloc_grew _ _) | (with_reducible assumption) | (with_reducible refine Grew.alloc ?_ _) | ((with_reducible refine Below.setCell ?_ ?_ _); rotate_left; focus (first | exact Nat.le_refl _ | (simp; done) | (simp; omega))) | ((with_reducible refine Below.setRow ?_ ?_ _); rotate_left; focus (first | exact Nat.le_refl _ | (simp; done) | (simp; omega) | omega)) | (with_reducible refine Grew.drew ?_) | (with_reducible refine Below.trans ?_ (keeps_drewN _ _)) | (with_reducible refine Grew.trans ?_ (by assumption))))))
                    clear hK K
                    (try simp only [Act.put, List.setIfInBounds_toArray, List.set_cons_zero, List.set_cons_succ])
                    refine any_take 3 (by kernel_rfl) (by assumption) (fun oi hoi => ?_)
                    simp only [List.getElem?_toArray, List.getElem?_cons_succ, List.getElem?_cons_zero, Option.some.injEq] at hoi; subst hoi
                    refine ⟨?_, fun _ _ _ h => h, Or.inl ⟨by rfl, ?hy⟩, ?_⟩
                    case hy => (intro w hSw; (try dsimp only at hSw); go_simp; (try with_reducible rfl))
                    (try simp only [Act.put, List.setIfInBounds_toArray, List.set_cons_zero, List.set_cons_succ])
                    refine any_take 4 (by kernel_rfl) (by assumption) (fun oi hoi => ?_)
                    simp only [List.getElem?_toArray, List.getElem?_cons_succ, List.getElem?_cons_zero, Option.some.injEq] at hoi; subst hoi
                    refine ⟨?_, fun _ _ _ h => h, Or.inl ⟨by rfl, ?hy⟩, ?_⟩
                    case hy => (intro w hSw; (try dsimp only at hSw); go_simp; (try with_reducible rfl))
                    (try simp only [Act.put, List.setIfInBounds_toArray, List.set_cons_zero, List.set_cons_succ])
                    refine any_take 5 (by kernel_rfl) (by assumption) (fun oi hoi => ?_)
                    simp only [List.getElem?_toArray, List.getElem?_cons_succ, List.getElem?_cons_zero, Option.some.injEq] at hoi; subst hoi
                    refine ⟨?_, fun _ _ _ h => h, Or.inl ⟨by rfl, ?hy⟩, ?_⟩
                    case hy => (intro w hSw; (try dsimp only at hSw); go_simp; (try with_reducible rfl))
                    (try simp only [Act.put, List.setIfInBounds_toArray, List.set_cons_zero, List.set_cons_succ])
                    refine any_take 6 (by kernel_rfl) (by assumption) (fun oi hoi => ?_)
                    simp only [List.getElem?_toArray, List.getElem?_cons_succ, List.getElem?_cons_zero, Option.some.injEq] at hoi; subst hoi
                    refine ⟨?_, fun _ _ _ h => h, Or.inl ⟨by rfl, ?hy⟩, ?_⟩
                    case hy => (intro w hSw; (try dsimp only at hSw); go_simp; (try with_reducible rfl))
                    (try simp only [Act.put, List.setIfInBounds_toArray, List.set_cons_zero, List.set_cons_succ])
                    refine any_take 7 (by kernel_rfl) (by assumption) (fun oi hoi => ?_)
                    simp only [List.getElem?_toArray, List.getElem?_cons_succ, List.getElem?_cons_zero, Option.some.injEq] at hoi; subst hoi
                    refine ⟨?_, fun _ _ _ h => h, Or.inl ⟨by rfl, ?hy⟩, ?_⟩
                    case hy => (intro w hSw; (try dsimp only at hSw); go_simp; (try with_reducible rfl))
                    (try simp only [Act.put, List.setIfInBounds_toArray, List.set_cons_zero, List.set_cons_succ])
                    refine any_take 8 (by kernel_rfl) (by assumption) (fun oi hoi => ?_)
                    simp only [List.getElem?_toArray, List.getElem?_cons_succ, List.getElem?_cons_zero, Option.some.injEq] at hoi; subst hoi
                    refine ⟨?_, fun _ _ _ h => h, Or.inl ⟨by rfl, ?hy⟩, ?_⟩
                    case hy => (intro w hSw; (try dsimp only at hSw); go_simp; (try with_reducible rfl))
                    (try simp only [Act.put, List.setIfInBounds_toArray, List.set_cons_zero, List.set_cons_succ])
                    refine any_take 9 (by kernel_rfl) (by assumption) (fun oi hoi => ?_)
                    simp only [List.getElem?_toArray, List.getElem?_cons_succ, List.getElem?_cons_zero, Option.some.injEq] at hoi; subst hoi
                    refine ⟨?_, fun _ _ _ h => h, Or.inl ⟨by rfl, ?hy⟩, ?_⟩
                    case hy => (intro w hSw; (try dsimp only at hSw); go_simp; (try with_reducible rfl))
                    (try simp only [Act.put, List.setIfInBounds_toArray, List.set_cons_zero, List.set_cons_succ])
                    refine any_take 10 (by kernel_rfl) (by assumption) (fun oi hoi => ?_)
                    simp only [List.getElem?_toArray, List.getElem?_cons_succ, List.getElem?_cons_zero, Option.some.injEq] at hoi; subst hoi
                    refine ⟨?_, fun _ _ _ h => h, Or.inl ⟨by rfl, ?hy⟩, ?_⟩
                    case hy => (intro w hSw; (try dsimp only at hSw); go_simp; (try with_reducible rfl))
                    (try simp only [Act.put, List.setIfInBounds_toArray, List.set_cons_zero, List.set_cons_succ])
                    refine any_take 11 (by kernel_rfl) (by assumption) (fun oi hoi => ?_)
                    simp only [List.getElem?_toArray, List.getElem?_cons_succ, List.getElem?_cons_zero, Option.some.injEq] at hoi; subst hoi
                    refine ⟨?_, fun _ _ _ h => h, Or.inl ⟨by rfl, ?hy⟩, ?_⟩
                    case hy => (intro w hSw; (try dsimp only at hSw); go_simp; (try with_reducible rfl))
                    (try simp only [Act.put, List.setIfInBounds_toArray, List.set_cons_zero, List.set_cons_succ])
                    refine any_take 12 (by kernel_rfl) (by assumption) (fun oi hoi => ?_)
                    simp only [List.getElem?_toArray, List.getElem?_cons_succ, List.getElem?_cons_zero, Option.some.injEq] at hoi; subst hoi
                    refine ⟨?_, fun _ _ _ h => h, Or.inl ⟨by rfl, ?hy⟩, ?_⟩
                    case hy => (intro w hSw; (try dsimp only at hSw); go_simp; (try with_reducible rfl))
                    (try simp only [Act.put, List.setIfInBounds_toArray, List.set_cons_zero, List.set_cons_succ])
                    refine any_take 13 (by kernel_rfl) (by assumption) (fun oi hoi => ?_)
                    simp only [List.getElem?_toArray, List.getElem?_cons_succ, List.getElem?_cons_zero, Option.some.injEq] at hoi; subst hoi
                    refine ⟨?_, fun _ _ _ h => h, Or.inl ⟨by rfl, ?hy⟩, ?_⟩
                    case hy => (intro w hSw; (try dsimp only at hSw); go_simp; (try with_reducible rfl))
                    (try simp only [Act.put, List.setIfInBounds_toArray, List.set_cons_zero, List.set_cons_succ])
                    refine any_take 14 (by kernel_rfl) (by assumption) (fun oi hoi => ?_)
                    simp only [List.getElem?_toArray, List.getElem?_cons_succ, List.getElem?_cons_zero, Option.some.injEq] at hoi; subst hoi
                    refine ⟨?_, fun _ _ _ h => h, Or.inl ⟨by rfl, ?hy⟩, ?_⟩
                    case hy => (intro w hSw; (try dsimp only at hSw); go_simp; (try with_reducible rfl))
                    (try simp only [Act.put, List.setIfInBounds_toArray, List.set_cons_zero, List.set_cons_succ])
                    refine any_take 15 (by kernel_rfl) (by assumption) (fun oi hoi => ?_)
                    simp only [List.getElem?_toArray, List.getElem?_cons_succ, List.getElem?_cons_zero, Option.some.injEq] at hoi; subst hoi
                    refine ⟨?_, fun _ _ _ h => h, Or.inl ⟨by rfl, ?hy⟩, ?_⟩
                    case hy => (intro w hSw; (try dsimp only at hSw); go_simp; (try with_reducible rfl))
                    (try simp only [Act.put, List.setIfInBounds_toArray, List.set_cons_zero, List.set_cons_succ])
                    refine any_only 16 (by kernel_rfl) (fun oi hoi K hK => ?_)
                    simp only [List.getElem?_toArray, List.getElem?_cons_succ, List.getElem?_cons_zero, Option.some.injEq] at hoi; subst hoi
                    rw [if_pos (by rfl)]
                    go_simp
                    (first | (go_at_call 71; refine Calls.mono (rowsMay_any ⟨_, _, _, _, _⟩ _ _ (Parties.grew HP (by first | exact and6 (by assumption) | exact and8 (by assumption)))) ?_; rintro e w1 ⟨rfl, hb⟩; simp only [HM.out]) | (go_at_call 72; refine Calls.mono (keysLess_any _ _ _ _ _) ?_; rintro e w1 ⟨rfl, hb⟩; simp only [HL.out]))
                    refine hK.out _ _ ?_ (fun hHeld => ?_)
                    focus (first | exact (And.imp (heldc (by assumption)) (And.imp (heldc (by assumption)) (And.imp (heldc (by assumption)) (And.imp (heldc (by assumption)) (And.imp (heldc (by assumption)) (And.imp (heldc (by assumption)) (And.imp (heldc (by assumption)) (fun h => Grew.trans h (by assumption))))))))) (by assumption) | (refine ⟨?_, ?_, ?_, ?_, ?_, ?_, ?_, ?_⟩ <;> first | (exact heldc (Grew.drew (alloc_grew _ _)) (by assumption)) | (simp [go_sem, *]; done) | (repeat (first | (with_reducible exact Below.refl _ _) | (with_reducible exact alloc_grew _ _) | (with_reducible assumption) | (with_reducible refine Grew.alloc ?_ _) | ((with_reducible refine Below.setCell ?_ ?_ _); rotate_left; focus (first | exact Nat.le_refl _ | (simp; done) | (simp; omega))) | ((with_reducible refine Below.setRow ?_ ?_ _); rotate_left; focus (first | exact Nat.le_refl _ | (simp; done) | (simp; omega) | omega)) | (with_reducible refine Grew.drew ?_) | (with_reducible refine Below.trans ?_ (keeps_drewN _ _)) | (with_reducible refine Grew.trans ?_ (by assumption))))))
                    clear hK K
                    (try simp only [Act.put, List.setIfInBounds_toArray, List.set_cons_zero, List.set_cons_succ])
                    refine any_take 17 (by kernel_rfl) (by assumption) (fun oi hoi => ?_)
                    simp only [List.getElem?_toArray, List.getElem?_cons_succ, List.getElem?_cons_zero, Option.some.injEq] at hoi; subst hoi
                    refine ⟨?_, fun _ _ _ h => h, Or.inl ⟨by rfl, ?hy⟩, ?_⟩
                    case hy => (intro w hSw; (try dsimp only at hSw); go_simp; (try with_reducible rfl))
                    (try simp only [Act.put, List.setIfInBounds_toArray, List.set_cons_zero, List.set_cons_succ])
                    refine any_take 18 (by kernel_rfl) (by assumption) (fun oi hoi => ?_)
                    simp only [List.getElem?_toArray, List.getElem?_cons_succ, List.getElem?_cons_zero, Option.some.injEq] at hoi; subst hoi
                    refine ⟨?_, fun _ _ _ h => h, Or.inl ⟨by rfl, ?hy⟩, ?_⟩
                    case hy => (intro w hSw; (try dsimp only at hSw); go_simp; (try with_reducible rfl))
                    (try simp only [Act.put, List.setIfInBounds_toArray, List.set_cons_zero, List.set_cons_succ])
                    refine any_take 19 (by kernel_rfl) (by assumption) (fun oi hoi => ?_)
                    simp only [List.getElem?_toArray, List.getElem?_cons_succ, List.getElem?_cons_zero, Option.some.injEq] at hoi; subst hoi
                    refine ⟨?_, fun _ _ _ h => h, Or.inl ⟨by rfl, ?hy⟩, ?_⟩
                    case hy => (intro w hSw; (try dsimp only at hSw); go_simp; (try with_reducible rfl))
                    (try simp only [Act.put, List.setIfInBounds_toArray, List.set_cons_zero, List.set_cons_succ])
                    refine any_done (by kernel_rfl) ?_
                    go_wp2
                    go_ret
                    refine ⟨congrArg (fun b => Ending.returned (.bool b)) ?_, Grew.trans hB (and8 (by assumption))⟩
                    simpa using HR2.out
                · rw [HM] at HR2
                  replace HR2 := Lib.hid HR2
                  replace HM := Lib.hid HM
                  go_wp2
                  refine any_begin (S := (fun w' => w'.cell? ⟨wr.heap.size, 0, none⟩ = some (.int .i64 r.order) ∧ w'.cell? ⟨wr.heap.size, 1, none⟩ = some (.int .i64 r.deed) ∧ w'.cell? ⟨wr.heap.size, 2, none⟩ = some (.int .i64 r.code) ∧ w'.cell? ⟨wr.heap.size, 3, none⟩ = some (.int .i64 r.amount) ∧ w'.cell? ⟨wr.heap.size, 4, none⟩ = some (.int .i64 r.qty) ∧ Below wr.heap.size wr w')) 20 (by kernel_rfl) ?_ (fun hHeld => ?_)
                  focus (first | exact (And.imp (heldc (by assumption)) (And.imp (heldc (by assumption)) (And.imp (heldc (by assumption)) (And.imp (heldc (by assumption)) (And.imp (heldc (by assumption)) (fun h => Grew.trans h (by assumption))))))) (by assumption) | (refine ⟨?_, ?_, ?_, ?_, ?_, ?_⟩ <;> first | (exact heldc (Grew.drew (alloc_grew _ _)) (by assumption)) | (simp [go_sem, *]; done) | (repeat (first | (with_reducible exact Below.refl _ _) | (with_reducible exact alloc_grew _ _) | (with_reducible assumption) | (with_reducible refine Grew.alloc ?_ _) | ((with_reducible refine Below.setCell ?_ ?_ _); rotate_left; focus (first | exact Nat.le_refl _ | (simp; done) | (simp; omega))) | ((with_reducible refine Below.setRow ?_ ?_ _); rotate_left; focus (first | exact Nat.le_refl _ | (simp; done) | (simp; omega) | omega)) | (with_reducible refine Grew.drew ?_) | (with_reducible refine Below.trans ?_ (keeps_drewN _ _)) | (with_reducible refine Grew.trans ?_ (by assumption))))))
                  refine any_take 0 (by kernel_rfl) (by assumption) (fun oi hoi => ?_)
                  simp only [List.getElem?_toArray, List.getElem?_cons_succ, List.getElem?_cons_zero, Option.some.injEq] at hoi; subst hoi
                  refine ⟨?_, fun _ _ _ h => h, Or.inl ⟨by rfl, ?hy⟩, ?_⟩
                  case hy => (intro w hSw; (try dsimp only at hSw); go_simp; (try with_reducible rfl))
                  (try simp only [Act.put, List.setIfInBounds_toArray, List.set_cons_zero, List.set_cons_succ])
                  refine any_take 1 (by kernel_rfl) (by assumption) (fun oi hoi => ?_)
                  simp only [List.getElem?_toArray, List.getElem?_cons_succ, List.getElem?_cons_zero, Option.some.injEq] at hoi; subst hoi
                  refine ⟨?_, fun _ _ _ h => h, Or.inl ⟨by rfl, ?hy⟩, ?_⟩
                  case hy => (intro w hSw; (try dsimp only at hSw); go_simp; (try with_reducible rfl))
                  (try simp only [Act.put, List.setIfInBounds_toArray, List.set_cons_zero, List.set_cons_succ])
                  refine any_only 2 (by kernel_rfl) (fun oi hoi K hK => ?_)
                  simp only [List.getElem?_toArray, List.getElem?_cons_succ, List.getElem?_cons_zero, Option.some.injEq] at hoi; subst hoi
                  rw [if_pos (by rfl)]
                  go_simp
                  (first | (go_at_call 71; refine Calls.mono (rowsMay_any ⟨_, _, _, _, _⟩ _ _ (Parties.grew HP (by first | exact and6 (by assumption) | exact and8 (by assumption)))) ?_; rintro e w1 ⟨rfl, hb⟩; simp only [HM.out]) | (go_at_call 72; refine Calls.mono (keysLess_any _ _ _ _ _) ?_; rintro e w1 ⟨rfl, hb⟩; simp only [HL.out]))
                  refine hK.out _ _ ?_ (fun hHeld => ?_)
                  focus (first | exact (And.imp (heldc (by assumption)) (And.imp (heldc (by assumption)) (And.imp (heldc (by assumption)) (And.imp (heldc (by assumption)) (And.imp (heldc (by assumption)) (fun h => Grew.trans h (by assumption))))))) (by assumption) | (refine ⟨?_, ?_, ?_, ?_, ?_, ?_⟩ <;> first | (exact heldc (Grew.drew (alloc_grew _ _)) (by assumption)) | (simp [go_sem, *]; done) | (repeat (first | (with_reducible exact Below.refl _ _) | (with_reducible exact alloc_grew _ _) | (with_reducible assumption) | (with_reducible refine Grew.alloc ?_ _) | ((with_reducible refine Below.setCell ?_ ?_ _); rotate_left; focus (first | exact Nat.le_refl _ | (simp; done) | (simp; omega))) | ((with_reducible refine Below.setRow ?_ ?_ _); rotate_left; focus (first | exact Nat.le_refl _ | (simp; done) | (simp; omega) | omega)) | (with_reducible refine Grew.drew ?_) | (with_reducible refine Below.trans ?_ (keeps_drewN _ _)) | (with_reducible refine Grew.trans ?_ (by assumption))))))
                  clear hK K
                  (try simp only [Act.put, List.setIfInBounds_toArray, List.set_cons_zero, List.set_cons_succ])
                  refine any_take 3 (by kernel_rfl) (by assumption) (fun oi hoi => ?_)
                  simp only [List.getElem?_toArray, List.getElem?_cons_succ, List.getElem?_cons_zero, Option.some.injEq] at hoi; subst hoi
                  refine ⟨?_, fun _ _ _ h => h, Or.inl ⟨by rfl, ?hy⟩, ?_⟩
                  case hy => (intro w hSw; (try dsimp only at hSw); go_simp; (try with_reducible rfl))
                  (try simp only [Act.put, List.setIfInBounds_toArray, List.set_cons_zero, List.set_cons_succ])
                  refine any_take 4 (by kernel_rfl) (by assumption) (fun oi hoi => ?_)
                  simp only [List.getElem?_toArray, List.getElem?_cons_succ, List.getElem?_cons_zero, Option.some.injEq] at hoi; subst hoi
                  refine ⟨?_, fun _ _ _ h => h, Or.inl ⟨by rfl, ?hy⟩, ?_⟩
                  case hy => (intro w hSw; (try dsimp only at hSw); go_simp; (try with_reducible rfl))
                  (try simp only [Act.put, List.setIfInBounds_toArray, List.set_cons_zero, List.set_cons_succ])
                  refine any_take 5 (by kernel_rfl) (by assumption) (fun oi hoi => ?_)
                  simp only [List.getElem?_toArray, List.getElem?_cons_succ, List.getElem?_cons_zero, Option.some.injEq] at hoi; subst hoi
                  refine ⟨undef, fun _ _ _ h => h, Or.inr ⟨by rfl, rfl⟩, ?_⟩
                  (try simp only [Act.put, List.setIfInBounds_toArray, List.set_cons_zero, List.set_cons_succ])
                  refine any_take 6 (by kernel_rfl) (by assumption) (fun oi hoi => ?_)
                  simp only [List.getElem?_toArray, List.getElem?_cons_succ, List.getElem?_cons_zero, Option.some.injEq] at hoi; subst hoi
                  refine ⟨undef, fun _ _ _ h => h, Or.inr ⟨by rfl, rfl⟩, ?_⟩
                  (try simp only [Act.put, List.setIfInBounds_toArray, List.set_cons_zero, List.set_cons_succ])
                  refine any_take 7 (by kernel_rfl) (by assumption) (fun oi hoi => ?_)
                  simp only [List.getElem?_toArray, List.getElem?_cons_succ, List.getElem?_cons_zero, Option.some.injEq] at hoi; subst hoi
                  refine ⟨undef, fun _ _ _ h => h, Or.inr ⟨by rfl, rfl⟩, ?_⟩
                  (try simp only [Act.put, List.setIfInBounds_toArray, List.set_cons_zero, List.set_cons_succ])
                  refine any_take 8 (by kernel_rfl) (by assumption) (fun oi hoi => ?_)
                  simp only [List.getElem?_toArray, List.getElem?_cons_succ, List.getElem?_cons_zero, Option.some.injEq] at hoi; subst hoi
                  refine ⟨undef, fun _ _ _ h => h, Or.inr ⟨by rfl, rfl⟩, ?_⟩
                  (try simp only [Act.put, List.setIfInBounds_toArray, List.set_cons_zero, List.set_cons_succ])
                  refine any_take 9 (by kernel_rfl) (by assumption) (fun oi hoi => ?_)
                  simp only [List.getElem?_toArray, List.getElem?_cons_succ, List.getElem?_cons_zero, Option.some.injEq] at hoi; subst hoi
                  refine ⟨undef, fun _ _ _ h => h, Or.inr ⟨by rfl, rfl⟩, ?_⟩
                  (try simp only [Act.put, List.setIfInBounds_toArray, List.set_cons_zero, List.set_cons_succ])
                  refine any_take 10 (by kernel_rfl) (by assumption) (fun oi hoi => ?_)
                  simp only [List.getElem?_toArray, List.getElem?_cons_succ, List.getElem?_cons_zero, Option.some.injEq] at hoi; subst hoi
                  refine ⟨undef, fun _ _ _ h => h, Or.inr ⟨by rfl, rfl⟩, ?_⟩
                  (try simp only [Act.put, List.setIfInBounds_toArray, List.set_cons_zero, List.set_cons_succ])
                  refine any_take 11 (by kernel_rfl) (by assumption) (fun oi hoi => ?_)
                  simp only [List.getElem?_toArray, List.getElem?_cons_succ, List.getElem?_cons_zero, Option.some.injEq] at hoi; subst hoi
                  refine ⟨undef, fun _ _ _ h => h, Or.inr ⟨by rfl, rfl⟩, ?_⟩
                  (try simp only [Act.put, List.setIfInBounds_toArray, List.set_cons_zero, List.set_cons_succ])
                  refine any_take 12 (by kernel_rfl) (by assumption) (fun oi hoi => ?_)
                  simp only [List.getElem?_toArray, List.getElem?_cons_succ, List.getElem?_cons_zero, Option.some.injEq] at hoi; subst hoi
                  refine ⟨undef, fun _ _ _ h => h, Or.inr ⟨by rfl, rfl⟩, ?_⟩
                  (try simp only [Act.put, List.setIfInBounds_toArray, List.set_cons_zero, List.set_cons_succ])
                  refine any_take 13 (by kernel_rfl) (by assumption) (fun oi hoi => ?_)
                  simp only [List.getElem?_toArray, List.getElem?_cons_succ, List.getElem?_cons_zero, Option.some.injEq] at hoi; subst hoi
                  refine ⟨undef, fun _ _ _ h => h, Or.inr ⟨by rfl, rfl⟩, ?_⟩
                  (try simp only [Act.put, List.setIfInBounds_toArray, List.set_cons_zero, List.set_cons_succ])
                  refine any_take 14 (by kernel_rfl) (by assumption) (fun oi hoi => ?_)
                  simp only [List.getElem?_toArray, List.getElem?_cons_succ, List.getElem?_cons_zero, Option.some.injEq] at hoi; subst hoi
                  refine ⟨undef, fun _ _ _ h => h, Or.inr ⟨by rfl, rfl⟩, ?_⟩
                  (try simp only [Act.put, List.setIfInBounds_toArray, List.set_cons_zero, List.set_cons_succ])
                  refine any_take 15 (by kernel_rfl) (by assumption) (fun oi hoi => ?_)
                  simp only [List.getElem?_toArray, List.getElem?_cons_succ, List.getElem?_cons_zero, Option.some.injEq] at hoi; subst hoi
                  refine ⟨undef, fun _ _ _ h => h, Or.inr ⟨by rfl, rfl⟩, ?_⟩
                  (try simp only [Act.put, List.setIfInBounds_toArray, List.set_cons_zero, List.set_cons_succ])
                  refine any_take 16 (by kernel_rfl) (by assumption) (fun oi hoi => ?_)
                  simp only [List.getElem?_toArray, List.getElem?_cons_succ, List.getElem?_cons_zero, Option.some.injEq] at hoi; subst hoi
                  refine ⟨undef, fun _ _ _ h => h, Or.inr ⟨by rfl, rfl⟩, ?_⟩
                  (try simp only [Act.put, List.setIfInBounds_toArray, List.set_cons_zero, List.set_cons_succ])
                  refine any_take 17 (by kernel_rfl) (by assumption) (fun oi hoi => ?_)
                  simp only [List.getElem?_toArray, List.getElem?_cons_succ, List.getElem?_cons_zero, Option.some.injEq] at hoi; subst hoi
                  refine ⟨undef, fun _ _ _ h => h, Or.inr ⟨by rfl, rfl⟩, ?_⟩
                  (try simp only [Act.put, List.setIfInBounds_toArray, List.set_cons_zero, List.set_cons_succ])
                  refine any_take 18 (by kernel_rfl) (by assumption) (fun oi hoi => ?_)
                  simp only [List.getElem?_toArray, List.getElem?_cons_succ, List.getElem?_cons_zero, Option.some.injEq] at hoi; subst hoi
                  refine ⟨undef, fun _ _ _ h => h, Or.inr ⟨by rfl, rfl⟩, ?_⟩
                  (try simp only [Act.put, List.setIfInBounds_toArray, List.set_cons_zero, List.set_cons_succ])
                  refine any_take 19 (by kernel_rfl) (by assumption) (fun oi hoi => ?_)
                  simp only [List.getElem?_toArray, List.getElem?_cons_succ, List.getElem?_cons_zero, Option.some.injEq] at hoi; subst hoi
                  refine ⟨?_, fun _ _ _ h => h, Or.inl ⟨by rfl, ?hy⟩, ?_⟩
                  case hy => (intro w hSw; (try dsimp only at hSw); go_simp; (try with_reducible rfl))
                  (try simp only [Act.put, List.setIfInBounds_toArray, List.set_cons_zero, List.set_cons_succ])
                  refine any_done (by kernel_rfl) ?_
                  go_wp2
                  go_ret
                  refine ⟨congrArg (fun b => Ending.returned (.bool b)) ?_, Grew.trans hB (and6 (by assumption))⟩
                  simpa using HR2.out
            · go_wp2
              go_ret
              refine ⟨?_, hB⟩
              have := HR.out
              rw [List.drop_eq_nil_of_le (by omega)] at this
              exact congrArg (fun b => Ending.returned (.bool b)) this
        · have HO : rowsOk l p = false := by simp [rowsOk, h2]
          rw [HO]
          clear HO hcells
          go_enter Tryd.func64, Tryd.ntmps64
          go_wp2
          go_ret
          exact ⟨rfl, Below.refl _ _⟩
      · have HO : rowsOk l p = false := by simp [rowsOk, h1]
        rw [HO]
        clear HO hcells
        go_enter Tryd.func64, Tryd.ntmps64
        go_wp2
        go_ret
        exact ⟨rfl, Below.refl _ _⟩
    · have HO : rowsOk l p = false := by simp [rowsOk, h0]
      rw [HO]
      clear HO hcells
      go_enter Tryd.func64, Tryd.ntmps64
      go_wp2
      go_ret
      exact ⟨rfl, Below.refl _ _⟩
end Go.Proofs.YtfkhfofoginaiaaDoor

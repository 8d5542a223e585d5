/-
  A region that draws its order: two operations may come up now.
-/
import Derived.Test.YtkgpnikmdmpfaaaGreatDoorBackP1
set_option linter.unusedVariables false
set_option linter.unusedSimpArgs false
namespace Go.Proofs.YtkgpnikmdmpfaaaGreatDoor
open Go.RowKit
section
variable {P : Program} {ops : Array Oper} {Q : Exit → Act → World → Prop} {md : Region.Mode} {S : World → Prop} {n : Nat}
def twoB (md : Region.Mode) (ops : Array Oper) (listed : Array Bool) (i j : Nat) : Bool := (Region.ready md ops listed) == [i, j] && (ops[i]?).isSome && (ops[j]?).isSome
theorem any_two (i j : Nat) {fuel : Nat} {listed : Array Bool} {a : Act} {w : World} (hc : twoB md ops listed i j = true)
    (h1 : ∀ oi, ops[i]? = some oi → ∀ K' : Act → World → Prop, Shut (∀ a w, S w → (S w → wpAnyE P md ops Q S n fuel (listed.setIfInBounds i true) a w) → K' a w) →
      if Region.wanted oi (yielded ops a.tmps) = true then Oper.wp P oi a w K' Q else K' (a.put oi.dst undef) w)
    (h2 : ∀ oi, ops[j]? = some oi → ∀ K' : Act → World → Prop, Shut (∀ a w, S w → (S w → wpAnyE P md ops Q S n fuel (listed.setIfInBounds j true) a w) → K' a w) →
      if Region.wanted oi (yielded ops a.tmps) = true then Oper.wp P oi a w K' Q else K' (a.put oi.dst undef) w) : wpAnyE P md ops Q S n (fuel + 1) listed a w := by
  simp only [twoB, Bool.and_eq_true, beq_iff_eq] at hc
  obtain ⟨⟨hr, hi⟩, hj⟩ := hc
  obtain ⟨oi, hoi⟩ := Option.isSome_iff_exists.1 hi
  obtain ⟨oj, hoj⟩ := Option.isSome_iff_exists.1 hj
  refine ⟨fun h => (by rw [h] at hr; cases hr), fun k hk => ?_⟩
  rw [hr] at hk
  simp only [List.mem_cons, List.not_mem_nil, or_false] at hk
  rcases hk with rfl | rfl
  · unfold wpOp
    simp only [hoi]
    have hh := h1 oi hoi (fun a w => (k ≠ n → S w) ∧ wpAnyE P md ops Q S n fuel (listed.setIfInBounds k true) a w) (fun a w hS hr => ⟨fun _ => hS, hr hS⟩)
    split
    · rename_i hw; rw [if_pos hw] at hh; exact .inl hh
    · rename_i hw; rw [if_neg hw] at hh; exact hh
  · unfold wpOp
    simp only [hoj]
    have hh := h2 oj hoj (fun a w => (k ≠ n → S w) ∧ wpAnyE P md ops Q S n fuel (listed.setIfInBounds k true) a w) (fun a w hS hr => ⟨fun _ => hS, hr hS⟩)
    split
    · rename_i hw; rw [if_pos hw] at hh; exact .inl hh
    · rename_i hw; rw [if_neg hw] at hh; exact hh
theorem at2 (i j : Nat) {oi oj : Oper} {fuel : Nat} {listed : Array Bool} {a : Act} {w : World} (hi : ops.toList[i]? = some oi) (hj : ops.toList[j]? = some oj) (hc : twoB md ops listed i j = true)
    (hwi : Region.wanted oi (yielded ops a.tmps) = true) (hwj : Region.wanted oj (yielded ops a.tmps) = true)
    (h1 : ∀ K' : Act → World → Prop, Shut (∀ a w, S w → (S w → wpAnyE P md ops Q S n fuel (listed.setIfInBounds i true) a w) → K' a w) → Oper.wp P oi a w K' Q)
    (h2 : ∀ K' : Act → World → Prop, Shut (∀ a w, S w → (S w → wpAnyE P md ops Q S n fuel (listed.setIfInBounds j true) a w) → K' a w) → Oper.wp P oj a w K' Q) : wpAnyE P md ops Q S n (fuel + 1) listed a w :=
  any_two i j hc (fun o ho K' hK => by rw [← Array.getElem?_toList, hi] at ho; cases ho; rw [if_pos hwi]; exact h1 K' hK) (fun o ho K' hK => by rw [← Array.getElem?_toList, hj] at ho; cases ho; rw [if_pos hwj]; exact h2 K' hK)
end
end Go.Proofs.YtkgpnikmdmpfaaaGreatDoor

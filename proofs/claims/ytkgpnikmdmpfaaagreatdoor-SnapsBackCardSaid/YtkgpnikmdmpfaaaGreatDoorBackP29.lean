/-
  A region that draws its order: one operation ahead of the last, by way of others.
-/
import Derived.Test.YtkgpnikmdmpfaaaGreatDoorBackP1
set_option linter.unusedVariables false
set_option linter.unusedSimpArgs false
namespace Go.Proofs.YtkgpnikmdmpfaaaGreatDoor
open Go.RowKit

section
variable {P : Program} {ops : Array Oper} {Q : Exit → Act → World → Prop} {md : Region.Mode} {S : World → Prop} {n : Nat}
theorem wpAnyE_chain {i : Nat} {oi : Oper} {v : Value} (ch : List Nat) (hi : ops[i]? = some oi) (hsel : ∀ (j : Nat) (o : Oper) cs b, ops[j]? = some o → o.op ≠ .select cs b)
    (hQ : ∀ c a w, Q (.panic c) (a.put oi.dst v) w → Q (.panic c) a w) (hch : ∀ c ∈ ch, ∃ x, (x = i ∨ x ∈ ch) ∧ Region.waitsFor md ops c x = true) (hnc : n ∈ ch) :
    ∀ (fuel : Nat) (listed : Array Bool) (a : Act) (w : World),
      (∀ j oj, ops[j]? = some oj → j ≠ i → listed.getD j true = false → (∀ e ∈ oj.after, Region.binds md e = true → e.on ≠ i) → oi.apart ops oj = true) →
      (∀ c ∈ ch, listed.getD c true = false) →
      i ∈ Region.ready md ops listed → YieldsIf P ops S oi v a → S w →
      wpAnyE P md ops Q S n fuel (listed.setIfInBounds i true) (a.put oi.dst v) w → wpAnyE P md ops Q S n (fuel + 1) listed a w := by
  intro fuel
  induction fuel with
  | zero =>
    intro listed a w _ _ hr hy hS H
    refine ⟨fun h => (by rw [h] at hr; cases hr), fun j hj => ?_⟩
    by_cases hji : j = i
    · subst hji; exact hy.wpOp hi hS ⟨fun _ => hS, H⟩
    · have := ready_mono hj hji
      rw [H.1] at this
      cases this
  | succ fuel ih =>
    intro listed a w hfree hun hr hy hS H
    refine ⟨fun h => (by rw [h] at hr; cases hr), fun j hj => ?_⟩
    by_cases hji : j = i
    · subst hji; exact hy.wpOp hi hS ⟨fun _ => hS, H⟩
    · have h1 := H.2 j (ready_mono hj hji)
      obtain ⟨hjun, oj, hoj, hall⟩ := mem_ready.1 hj
      have hlate : ∀ x, listed.getD x true = false → ∀ e ∈ oj.after, Region.binds md e = true → e.on ≠ x := fun x hx e he hb heq => by
        have h1 := hall e he hb
        rw [heq] at h1
        rcases Nat.lt_or_ge x listed.size with h' | h'
        · simp [h'] at hx h1; rw [hx] at h1; cases h1
        · simp [Array.getElem?_eq_none h'] at h1
      have hnot := hlate i (mem_ready.1 hr).1
      have hjc : j ∉ ch := fun hc => by
        obtain ⟨x, hx, hw⟩ := hch j hc
        obtain ⟨oj', ho', e, he, hb, heq⟩ := Region.waitsFor_spec hw
        rw [hoj] at ho'
        cases ho'
        refine hlate x ?_ e he hb heq
        rcases hx with rfl | hx
        · exact (mem_ready.1 hr).1
        · exact hun x hx
      have hjn : j ≠ n := by
        rintro rfl
        exact hjc hnc
      have h2 := wpOp_putIf hoj (hfree j oj hoj hji hjun hnot) (fun cs b => hsel i oi cs b hi) (fun cs b => hsel j oj cs b hoj) hQ hy h1
      have hfree' : ∀ k ok, ops[k]? = some ok → k ≠ i → (listed.setIfInBounds j true).getD k true = false →
          (∀ e ∈ ok.after, Region.binds md e = true → e.on ≠ i) → oi.apart ops ok = true := fun k ok hk hki hun hno => by
        refine hfree k ok hk hki ?_ hno
        by_cases hjk : j = k
        · subst hjk; exact hjun
        · rw [getD_set_ne true hjk] at hun; exact hun
      have hun' : ∀ c ∈ ch, (listed.setIfInBounds j true).getD c true = false := fun c hc => by
        have hjk : j ≠ c := by
          rintro rfl
          exact hjc hc
        rw [getD_set_ne true hjk]
        exact hun c hc
      refine wpOp_mono (fun a' w' h3 => ⟨h3.2.1, ih (listed.setIfInBounds j true) a' w' hfree' hun' (ready_mono hr (Ne.symm hji)) h3.1 (h3.2.1 hjn) ?_⟩) h2
      rw [Array.setIfInBounds_comm _ _ hji]
      exact h3.2.2
def takeCB (md : Region.Mode) (ops : Array Oper) (n : Nat) (ch : List Nat) (listed : Array Bool) (i : Nat) : Bool :=
  Region.noSelect ops && Region.free md ops listed i && (Region.ready md ops listed).contains i && (ops[i]?).isSome && (ch.contains n && (ch.all (fun c => (i :: ch).any (fun x => Region.waitsFor md ops c x)) && ch.all (fun c => !(listed.getD c true))))
/-- One operation that the last one waits for by way of the operations of ch. -/
theorem any_takeC (ch : List Nat) (i : Nat) {fuel : Nat} {listed : Array Bool} {a : Act} {w : World} (hc : takeCB md ops n ch listed i = true) (hS : S w)
    (h : ∀ oi, ops[i]? = some oi → ∃ v, (∀ c a w, Q (.panic c) (a.put oi.dst v) w → Q (.panic c) a w) ∧ YieldsIf P ops S oi v a ∧
      wpAnyE P md ops Q S n fuel (listed.setIfInBounds i true) (a.put oi.dst v) w) : wpAnyE P md ops Q S n (fuel + 1) listed a w := by
  simp only [takeCB, Bool.and_eq_true, List.all_eq_true, List.any_eq_true, List.contains_iff_mem, Bool.not_eq_true', List.mem_cons] at hc
  obtain ⟨⟨⟨⟨h1, h2⟩, h3⟩, h4⟩, h5, h6, h7⟩ := hc
  obtain ⟨oi, ho⟩ := Option.isSome_iff_exists.1 h4
  obtain ⟨v, hq, hy, hr⟩ := h oi ho
  exact wpAnyE_chain ch ho (Region.noSelect_spec h1) hq h6 h5 fuel listed a w (Region.free_spec ho h2) h7 (by simpa using h3) hy hS hr
theorem tkC (ch : List Nat) (i : Nat) {oi : Oper} {fuel : Nat} {listed : Array Bool} {a : Act} {w : World} (v : Value) (ho : ops.toList[i]? = some oi) (hc : takeCB md ops n ch listed i = true) (hS : S w)
    (hw : Region.wanted oi (yielded ops a.tmps) = true) (hq : ∀ c a w, Q (.panic c) (a.put oi.dst v) w → Q (.panic c) a w) (hy : ∀ w, S w → (execOp a.eval oi).run P w = .ok (.value v) w)
    (h : wpAnyE P md ops Q S n fuel (listed.setIfInBounds i true) (a.put oi.dst v) w) : wpAnyE P md ops Q S n (fuel + 1) listed a w :=
  any_takeC ch i hc hS (fun oj hj => by rw [← Array.getElem?_toList, ho] at hj; cases hj; exact ⟨v, hq, .inl ⟨hw, hy⟩, h⟩)
end
end Go.Proofs.YtkgpnikmdmpfaaaGreatDoor

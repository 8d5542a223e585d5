/-
  SnapsForm: for whatever bytes, what is got of them, where that is a core, is put as these bytes; where it is none, the refusal is ErrForm: the law returns true and leaves its argument as it was. Conditions: the row's own (keys.parties as the program's text lays it: tied).
-/
import Derived.Test.YtfkhfofoginaiaaDoorRows
import Derived.Test.YtfkhfofoginaiaaDoorTie
import Derived.Test.YtfkhfofoginaiaaDoorCards
import Derived.Test.YtfkhfofoginaiaaDoorFormP32
import Derived.ProofKit
import Derived.LaidMore
import Derived.OpenShut
import Derived.SevenTiedAt
import Derived.Stop.Joined
set_option linter.unusedVariables false
namespace Go.Proofs.YtfkhfofoginaiaaDoor
open Go.ChangeShapes Go.WideShapes Go.ChangeAt Go.WideMaps Go.RowKit

theorem L.own : ownKnob Tryd.prog.godebug = none := by kernel_rfl
theorem L.gPar : Tryd.prog.globalNamed "consignor/keys.parties" = some 0 := by kernel_rfl
theorem L.tPar : (Tryd.prog.globals[0]?).map (·.type) = some 51 := by kernel_rfl
theorem L.c1 : Tryd.prog.cellsOf 3 = 1 := by kernel_rfl
theorem L.c6 : Tryd.prog.cellsOf 51 = 6 := by kernel_rfl
/-- What the condition gives the walks: the table of parties. -/
theorem L.parties {W : World} (h : laidMetH Tryd.prog [("consignor/keys.parties", Rows.laid_consignor_keys_parties)] W) : Parties W := by
  rw [MakeChecks.laidMetH_plain _ _ _ (by kernel_rfl)] at h
  obtain ⟨ps, ⟨g0, t0, cs0, f0, p0, q0, hg0, ht0, hv0, hd0, _, _⟩, _⟩ := h
  obtain rfl := Option.some.inj (L.gPar.symm.trans hg0)
  obtain rfl := Option.some.inj (L.tPar.symm.trans ht0)
  obtain ⟨xs, m1, rfl, hx1, hlen, hn6, hel⟩ := DataW.trod_array Tryd.underlying51 hd0
  simp only [Rows.laid_consignor_keys_parties, Prod.mk.injEq, DataW.agg.injEq] at hx1
  obtain ⟨hx1, _⟩ := hx1
  rw [L.c6] at hlen
  intro i hi
  have hi' := hel i hi
  rw [L.c1, Nat.mul_one] at hi'
  obtain ⟨x, hx⟩ : ∃ x, xs[i]? = some x := ⟨_, List.getElem?_eq_getElem (by omega)⟩
  rw [hx] at hi'
  obtain ⟨n, e1, e2, _⟩ := DataW.trod_int Tryd.underlying3 hi'
  have hc : cs0[i]? = some (.int .i64 n) := by
    have := congrArg (fun l => l[0]?) e1
    simpa [List.getElem?_take, List.getElem?_drop] using this
  have hm : (xs.map (·.1))[i]? = some x.1 := by rw [List.getElem?_map, hx]; rfl
  rw [← hx1, e2] at hm
  have hv := World.var?_cell hg0 hv0 i
  rw [hv, hc]
  have h6 : i = 0 ∨ i = 1 ∨ i = 2 ∨ i = 3 ∨ i = 4 ∨ i = 5 := by omega
  rcases h6 with rfl | rfl | rfl | rfl | rfl | rfl <;> simp at hm <;> subst hm <;> rfl
theorem L.door (os : Os) (args : Array Value) : laidMetH Tryd.prog [("consignor/keys.parties", Rows.laid_consignor_keys_parties)] ((World.doorLaid Tryd.prog 400 os).forCall (fun _ _ => 0) ⟨#[], args, []⟩).memory :=
  laidMetH_of_parts3 (fuel := 8) (laidMet_of_run' 8 (by kernel_rfl) (by kernel_rfl)) (by kernel_rfl) (by kernel_rfl)
section
variable {H : Type} {enc : TypeId × Value → H} {P : Program}
/-- The row's last step: one string came in, a bool goes out, and what was there is as it was. -/
theorem L.post {f : Func} {s : ChangeSpec} {apart fresh handsOn again : Bool} {W W' : World} {args : Array Value} {v : Value} {ds : List (DataW H)}
    (hW : DataW.Whole enc P f.params.toList s.vars apart W args.toList ds [] [])
    (hres : ∀ (b : Nat) (sp : Nat → Bool) (hd : Bool), DataW.TrodAll enc P W' b sp hd f.resultTypes.toList (v.resultList f.resultTypes.size) (s.fn H (ds ++ [])).results [])
    (hargs : ∀ sp : Nat → Bool, DataW.TrodAll enc P W' 0 sp true f.params.toList args.toList (s.fn H (ds ++ [])).args [])
    (hvars : ∀ sp : Nat → Bool, DataW.TrodVars enc P W' sp s.vars (s.fn H (ds ++ [])).vars []) (hb : Below W.heap.size W W')
    (hok : ∀ (j : Nat) (t : TypeId) (r : Value), f.resultTypes[j]? = some t → (v.resultList f.resultTypes.size)[j]? = some r → Value.okWide P W' .any 0 t r) :
    s.post enc P f apart fresh handsOn again W args v W' := by
  refine ⟨ds, [], [], [], [], [], hW, hres _ _ _, hargs _, hvars _, World.keptBut_mono (fun p hp => by cases hp) (hb.frame (· ∈ ([] : List MemPlace))), fun _ => ?_⟩
  obtain ⟨_, _, _, _, _, _, _⟩ := hW
  exact ⟨hok, _, _, [], ⟨[], [], trodAll_append (hargs _) (hres _ _ _), hvars _, rfl, fun b off hp => (by cases hp), fun _ => List.nodup_nil⟩, fun p hp => (by cases hp)⟩
end
set_option maxRecDepth 100000 in
theorem L.lifted (os : Os) (started : os.Started) (H : Type) (enc : TypeId × Value → H) :
    ReturnsInHanded {} Tryd.checked os 3 .any (fun w args => (Rows.snapsFormSpec.pre enc Tryd.prog Tryd.f3 [] false w args ∧ laidMetH Tryd.prog [("consignor/keys.parties", Rows.laid_consignor_keys_parties)] w) ∧ sizedMet enc Tryd.prog Tryd.f3 (OpenSpec.ofChange Rows.snapsFormSpec) false w args)
      (Rows.snapsFormSpec.post enc Tryd.prog Tryd.f3 false true false false) := by
  refine returnsInHanded_of_change_and (C := Tryd.checked) (X := fun w _ => laidMetH Tryd.prog [("consignor/keys.parties", Rows.laid_consignor_keys_parties)] w) (fun _ _ _ hh h => h.of_heap hh) L.own started (by kernel_rfl) Tryd.func3
    (ChangeSpec.witness_shaped (enc := enc) (C := Tryd.checked) (os := os) (X := fun w _ => laidMetH Tryd.prog [("consignor/keys.parties", Rows.laid_consignor_keys_parties)] w) false (World.doorLaid Tryd.prog 400 os) #[.string ⟨#[]⟩] 8 rfl (World.shaped_of_RefB (by kernel_rfl) (by kernel_rfl)) (by kernel_rfl) (by kernel_rfl) (by kernel_rfl) (L.door os _)) ?_
  intro W base args ds gs before hval0 hW _ _ hL _
  have hval : ∀ (j : Nat) t v, Tryd.f3.params[j]? = some t → args[j]? = some v → Value.okWide Tryd.prog W .any base t v := hval0
  have hW' := hW
  obtain ⟨p, q, hA0, hV, rfl, hfz, hnd⟩ := hW
  have hA : DataW.TrodAll enc Tryd.prog W 0 (fun _ => true) true Tryd.f3.params.toList args.toList ds p := hA0
  rw [Tryd.params3] at hA hval
  obtain ⟨v0, d0, rfl, rfl, h0⟩ := trodAll_one hA
  obtain ⟨rfl, rfl⟩ := trodVars_none hV
  obtain ⟨s, rfl, rfl, rfl, hs⟩ := Go.ChangeMaps.open_string Tryd.underlying9 (hval 0 9 v0 rfl rfl) h0
  have hp := L.parties hL
  clear hA0 hval0
  simp only [List.append_nil] at hW'
  have hw := law_any W hp s.data.toList
  rw [← str_of s] at hw
  refine hw.mono fun e W' ⟨he, hb⟩ => ?_
  subst he
  exact ⟨_, rfl, L.post hW' (fun _ _ _ => trodAll_mk1 (shut_bool Tryd.underlying4 _)) (fun sp => trodAll_mk1 (Go.ChangeMaps.shut_string Tryd.underlying9 hs)) (fun _ => rfl) hb (ok_one (by kernel_rfl) rfl (okWide_bool_mk Tryd.underlying4 _))⟩
theorem snapsForm_holds : Rows.SnapsFormSaid :=
  OpenClaim.holds_of_wide 3 Tryd.f3 rfl rfl rfl rfl rfl rfl rfl ⟨rfl, rfl, rfl, rfl, rfl⟩ rfl rfl rfl rfl rfl (by kernel_rfl) Tryd.func3 (by kernel_rfl)
    (of_decide_eq_true (by kernel_rfl)) (by unfold Func.isWrapper; first | (rw [if_pos (by decide +kernel)]; kernel_rfl) | (rw [if_neg (by decide +kernel)]; exact ⟨rfl, rfl⟩))
    (fun os started H enc _ => L.lifted os started H enc)
theorem snapsForm_card : Rows.SnapsFormCardSaid :=
  Claim7.holds_tied_plain_at .later [] [.data] true (true, "4ef757e38e1cb31763107eff6bd8e334e8ae0dee2d5d786ba810d300aa5f6f06") true
    snapsForm_holds (fun _ h => by cases h) (by kernel_rfl) (fun _ h => by cases h) snapsForm_row_tie rfl ⟨rfl, rfl⟩ (by kernel_rfl) rfl
    (fun f fn hf hfn => by
      obtain rfl : f = 3 := Option.some.inj ((show Tryd.prog.funcNamed "consignor/consignorlaw25.SnapsForm" = some 3 by kernel_rfl).symm.trans hf) |>.symm
      obtain rfl : fn = Tryd.f3 := (Option.some.inj (Tryd.func3.symm.trans hfn)).symm
      exact ⟨by kernel_rfl, fun j t ht => by
        rw [Tryd.params3] at ht
        have hm : t ∈ [9] := by simpa using Array.mem_of_getElem? ht
        have hall : ([9].all fun u => !Tryd.prog.wantsStandIn u) = true := by kernel_rfl
        exact (show Tryd.prog.wantsStandIn t = false by simpa using List.all_eq_true.1 hall t hm)⟩)
    (by kernel_rfl)
#print axioms snapsForm_card
end Go.Proofs.YtfkhfofoginaiaaDoor

/-
  SnapsBack: for whatever entries (at most 60 of at most 60 rows; else the chapter's own cores alone) and whatever cut: what is put of what they come to is got as the same core; cut off, or with a byte behind it, it is refused: the law returns true and leaves its arguments as they were. Conditions: the row's own (the listed tables as the program's text lays them: tied).
-/
import Derived.Test.YtkgpnikmdmpfaaaGreatDoorRows
import Derived.Test.YtkgpnikmdmpfaaaGreatDoorTie
import Derived.Test.YtkgpnikmdmpfaaaGreatDoorCards
import Derived.Test.YtkgpnikmdmpfaaaGreatDoorBackP41
import Derived.Test.YtkgpnikmdmpfaaaGreatDoorBackP42
import Derived.ProofKit
import Derived.LaidMore
import Derived.OpenShut
import Derived.SevenTiedAt
import Derived.Stop.Joined
import Derived.Carry
import Derived.Lib.LaidTab
import Derived.WideKeyArgs2
set_option linter.unusedVariables false
namespace Go.Proofs.YtkgpnikmdmpfaaaGreatDoor
open Go.ChangeShapes Go.WideShapes Go.ChangeAt Go.WideMaps Go.RowKit

theorem L.own : ownKnob Tryz.prog.godebug = none := by kernel_rfl
theorem L.laidOut : laidOutB Tryz.prog = true := by kernel_rfl
theorem L.gPar : Tryz.prog.globalNamed "consignor/keys.parties" = some 2 := by kernel_rfl
theorem L.tPar : (Tryz.prog.globals[2]?).map (·.type) = some 74 := by kernel_rfl
theorem L.gDeeds : Tryz.prog.globalNamed "consignor/keys.deeds" = some 0 := by kernel_rfl
theorem L.tDeeds : (Tryz.prog.globals[0]?).map (·.type) = some 182 := by kernel_rfl
theorem L.gPow : Tryz.prog.globalNamed "internal/strconv.uint64pow10" = some 1 := by kernel_rfl
theorem L.tPow : (Tryz.prog.globals[1]?).map (·.type) = some 194 := by kernel_rfl
theorem L.c1 : Tryz.prog.cellsOf 3 = 1 := by kernel_rfl
theorem L.c6 : Tryz.prog.cellsOf 74 = 6 := by kernel_rfl
theorem L.cu : Tryz.prog.cellsOf 53 = 1 := by kernel_rfl
theorem L.c20 : Tryz.prog.cellsOf 194 = 20 := by kernel_rfl
/-- The listed tables. -/
abbrev L.laid : List (String × DataW Unit) := [("math/bits.deBruijn32tab", Rows.laid_math_bits_deBruijn32tab), ("math/bits.deBruijn64tab", Rows.laid_math_bits_deBruijn64tab), ("internal/strconv.uint64pow10", Rows.laid_internal_strconv_uint64pow10), ("consignor/keys.parties", Rows.laid_consignor_keys_parties), ("consignor/keys.deeds", Rows.laid_consignor_keys_deeds)]
/-- What the condition says of one listed variable, wherever it stands on the list. -/
theorem L.var {P : Program} {W : World} {n : String} {d : DataW Unit} : ∀ {l : List (String × DataW Unit)} {ps : List MemPlace}, DataW.LaidVars P W l ps → (n, d) ∈ l →
    ∃ (g : Nat) (t : TypeId) (cs : Array Value) (m : Nat) (q : List MemPlace), P.globalNamed n = some g ∧ (P.globals[g]?).map (·.type) = some t ∧ W.var? P n = some cs ∧ DataW.trod (fun _ => ()) P W 0 (fun _ => true) false m t cs.toList = some (d, q)
  | [], _, _, hm => absurd hm (List.not_mem_nil)
  | (n', d') :: r, _, h, hm => by
    obtain ⟨g, t, cs, m, q, q', a1, a2, a3, a4, a5, _⟩ := h
    rcases List.mem_cons.1 hm with e | e
    · obtain ⟨rfl, rfl⟩ := Prod.mk.inj e
      exact ⟨g, t, cs, m, q, a1, a2, a3, a4⟩
    · exact L.var a5 e
theorem L.parties {W : World} (h : laidMet Tryz.prog L.laid W) : Parties W := by
  obtain ⟨ps, hv, _⟩ := h
  obtain ⟨g0, t0, cs0, f0, p0, hg0, ht0, hv0, hd0⟩ := L.var hv (.tail _ (.tail _ (.tail _ (.head _))))
  obtain rfl := Option.some.inj (L.gPar.symm.trans hg0)
  obtain rfl := Option.some.inj (L.tPar.symm.trans ht0)
  obtain ⟨xs, m1, rfl, hx1, hlen, hn6, hel⟩ := DataW.trod_array Tryz.underlying74 hd0
  simp only [Rows.laid_consignor_keys_parties, Prod.mk.injEq, DataW.agg.injEq] at hx1
  obtain ⟨hx1, _⟩ := hx1
  rw [L.c6] at hlen
  intro i hi
  have hi' := hel i hi
  rw [L.c1, Nat.mul_one] at hi'
  obtain ⟨x, hx⟩ : ∃ x, xs[i]? = some x := ⟨_, List.getElem?_eq_getElem (by omega)⟩
  rw [hx] at hi'
  obtain ⟨n, e1, e2, _⟩ := DataW.trod_int Tryz.underlying3 hi'
  have hc : cs0[i]? = some (.int .i64 n) := by
    have := congrArg (fun l => l[0]?) e1
    simpa [List.getElem?_take, List.getElem?_drop] using this
  have hm : (xs.map (·.1))[i]? = some x.1 := by rw [List.getElem?_map, hx]; rfl
  rw [← hx1, e2] at hm
  have hv := World.var?_cell hg0 hv0 i
  rw [hv, hc]
  have h6 : i = 0 ∨ i = 1 ∨ i = 2 ∨ i = 3 ∨ i = 4 ∨ i = 5 := by omega
  rcases h6 with rfl | rfl | rfl | rfl | rfl | rfl <;> simp at hm <;> subst hm <;> rfl
theorem L.pow {W : World} (h : laidMet Tryz.prog L.laid W) : Lib.TabIs Tryz.prog W "internal/strconv.uint64pow10" .u64 Lib.pow10Tab := by
  obtain ⟨ps, hv, _⟩ := h
  obtain ⟨g0, t0, cs0, f0, p0, hg0, ht0, hv0, hd0⟩ := L.var hv (.tail _ (.tail _ (.head _)))
  obtain rfl := Option.some.inj (L.gPow.symm.trans hg0)
  obtain rfl := Option.some.inj (L.tPow.symm.trans ht0)
  have hd : DataW.trod (fun _ => ()) Tryz.prog W 0 (fun _ => true) false f0 194 cs0.toList = some (Lib.tabData .u64 Lib.pow10Tab, p0) := hd0
  unfold Lib.TabIs
  rw [hv0, ← Lib.cells_of_tab Tryz.underlying194 Tryz.underlying53 L.cu L.c20 hd]
theorem L.words {W : World} (h : laidMet Tryz.prog L.laid W) : WordsAt W := by
  obtain ⟨ps, hv, _⟩ := h
  obtain ⟨g0, t0, cs0, f0, p0, hg0, ht0, hv0, hd0⟩ := L.var hv (.tail _ (.tail _ (.tail _ (.tail _ (.head _)))))
  obtain rfl := Option.some.inj (L.gDeeds.symm.trans hg0)
  obtain rfl := Option.some.inj (L.tDeeds.symm.trans ht0)
  rcases WideElems.open_map Tryz.underlying182 hd0 with ⟨_, hx⟩ | ⟨bm, es, clk, n', _, hcs, hb, _, F, hx⟩
  · simp [Rows.laid_consignor_keys_deeds] at hx
  · simp only [Rows.laid_consignor_keys_deeds, Prod.mk.injEq, DataW.map.injEq] at hx
    obtain ⟨hx, _⟩ := hx
    have hperm := WideShapes.sorted_perm (es.toList.map (WideElems.rg Tryz.prog 9 (WideElems.elemAt (fun _ => ()) Tryz.prog W 0 (fun _ => true) false n' 3)))
    rw [← hx] at hperm
    have each : ∀ x ∈ es.toList, ∃ (s : ByteArray) (d : Int), x.key = .string s ∧ x.val = .int .i64 d ∧ WideElems.rg Tryz.prog 9 (WideElems.elemAt (fun _ => ()) Tryz.prog W 0 (fun _ => true) false n' 3) x = (.string s.data.toList, .lit (.int .i64 d)) := fun x hxm => by
      obtain ⟨y, hy⟩ := F.reads x hxm
      have hy2 := hy
      unfold WideElems.rd at hy
      simp only [Option.bind_eq_some_iff, Option.map_eq_some_iff] at hy
      obtain ⟨l, hk, z, hz, rfl⟩ := hy
      obtain ⟨s, e1, e2, _⟩ := string_of_keyOf Tryz.underlying9 hk
      obtain ⟨d, e3, rfl, _⟩ := WideElems.elemAt_int Tryz.underlying3 hz
      refine ⟨s, d, e1, e3, ?_⟩
      unfold WideElems.rg
      rw [hy2, e2]
      rfl
    refine ⟨bm, es, clk, ?_, hb, F.stamped, fun x hxm => ?_, fun d hd0 hd5 => ?_⟩
    · have := World.var?_cell hg0 hv0 0
      rw [this]
      have h2 : cs0.toList[0]? = some (.map (some bm)) := by rw [hcs]; rfl
      simpa using h2
    · obtain ⟨s, d, e1, e2, e3⟩ := each x hxm
      have hmem := hperm.mem_iff.2 (List.mem_map.2 ⟨x, hxm, e3⟩)
      have hw : ∀ t : List UInt8, s.data.toList = t → s = str t := fun t ht => by rw [str_of s, ht]
      simp only [List.mem_cons, Prod.mk.injEq, Lit.string.injEq, DataW.lit.injEq, Lit.int.injEq, true_and, List.not_mem_nil, or_false] at hmem
      rcases hmem with ⟨a, b⟩ | ⟨a, b⟩ | ⟨a, b⟩ | ⟨a, b⟩ | ⟨a, b⟩ | ⟨a, b⟩ <;> subst b <;> exact ⟨_, by decide, by decide, e2, by rw [e1, hw _ a]; rfl⟩
    · have hin : ∃ t, ((.string t, .lit (.int .i64 d)) : Lit × DataW Unit) ∈ [((.string [99, 104, 97, 114, 103, 101], .lit (.int .i64 1)) : Lit × DataW Unit), (.string [114, 101, 102, 117, 110, 100], .lit (.int .i64 4)), (.string [114, 101, 108, 101, 97, 115, 101], .lit (.int .i64 3)), (.string [114, 101, 115, 101, 114, 118, 101], .lit (.int .i64 0)), (.string [115, 104, 105, 112], .lit (.int .i64 2)), (.string [118, 111, 105, 100], .lit (.int .i64 5))] := by
        have h6 : d = 0 ∨ d = 1 ∨ d = 2 ∨ d = 3 ∨ d = 4 ∨ d = 5 := by omega
        refine ⟨Sp.word d, ?_⟩
        rcases h6 with rfl | rfl | rfl | rfl | rfl | rfl <;> simp [Sp.word]
      obtain ⟨t, ht⟩ := hin
      obtain ⟨x, hxm, e⟩ := List.mem_map.1 (hperm.mem_iff.1 ht)
      obtain ⟨s, d', e1, e2, e3⟩ := each x hxm
      refine ⟨x, hxm, ?_⟩
      rw [e3] at e
      simp at e
      rw [e2, e.2]
theorem L.tabs {W : World} (h : laidMetH Tryz.prog L.laid W) : Tabs W := by
  rw [MakeChecks.laidMetH_plain _ _ _ (by kernel_rfl)] at h
  exact ⟨L.parties h, L.words h, L.pow h⟩
theorem L.door (os : Os) (args : Array Value) : laidMetH Tryz.prog L.laid ((World.doorLaid Tryz.prog 4000 os).forCall (fun _ _ => 0) ⟨#[], args, []⟩).memory :=
  laidMetH_of_parts3 (fuel := 8) (laidMet_of_run' 8 (by kernel_rfl) (by kernel_rfl)) (by kernel_rfl) (by kernel_rfl)
set_option maxRecDepth 100000 in
theorem L.lifted (os : Os) (started : os.Started) (H : Type) (enc : TypeId × Value → H) :
    ReturnsInHanded {} Tryz.checked os 4 .any (fun w args => (Rows.snapsBackSpec.pre enc Tryz.prog Tryz.f4 [] false w args ∧ laidMetH Tryz.prog L.laid w) ∧ sizedMet enc Tryz.prog Tryz.f4 (OpenSpec.ofChange Rows.snapsBackSpec) false w args)
      (Rows.snapsBackSpec.post enc Tryz.prog Tryz.f4 false true false false) := by
  refine returnsInHanded_of_change_and (C := Tryz.checked) (X := fun w _ => laidMetH Tryz.prog L.laid w) (fun _ _ _ hh h => h.of_heap hh) L.own started (by kernel_rfl) Tryz.func4
    (ChangeSpec.witness_shaped (enc := enc) (C := Tryz.checked) (os := os) (X := fun w _ => laidMetH Tryz.prog L.laid w) false (World.doorLaid Tryz.prog 4000 os) #[.slice none 0 0, .int .u16 0] 8 rfl (World.shaped_of_RefB (by kernel_rfl) (by kernel_rfl)) (by kernel_rfl) (by kernel_rfl) (by kernel_rfl) (L.door os _)) ?_
  intro W base args ds gs before hval0 hW _ _ hL _
  have hval : ∀ (j : Nat) t v, Tryz.f4.params[j]? = some t → args[j]? = some v → Value.okWide Tryz.prog W .any base t v := hval0
  have hW' := hW
  obtain ⟨p, q, hA0, hV, rfl, hfz, hnd⟩ := hW
  have hA : DataW.TrodAll enc Tryz.prog W 0 (fun _ => true) true Tryz.f4.params.toList args.toList ds p := hA0
  rw [Tryz.params4] at hA hval
  obtain ⟨v0, v1, d0, d1, p0, p1, rfl, rfl, rfl, h0, h1⟩ := trodAll_two hA
  obtain ⟨rfl, rfl⟩ := trodVars_none hV
  obtain ⟨x, rfl, rfl, rfl, wx⟩ := open_int Tryz.underlying44 (hval 1 44 v1 rfl rfl) h1
  obtain ⟨a0, len, cap, rfl⟩ := okWide_slice Tryz.underlying22 (hval 0 22 v0 rfl rfl)
  clear hA0 hval0
  simp only [List.append_nil] at hW'
  have hlt : ∀ y ∈ p0, y.block < W.heap.size := fun y hy => by simpa using hW'.lt y (by simp [hy])
  have h0k := h0
  obtain ⟨fuel, hf⟩ := h0
  obtain ⟨v, l, e1, hs, hm, hin⟩ := Lo.ents hf
  simp [Value.cells] at e1
  subst e1
  have hmax : maxLen = 9223372036854775807 := by decide
  have hE : EntsAt W (.slice a0 len cap) l := ⟨hs, fun y hy => (hin y hy).1, fun y hy => (hin y hy).2, by omega⟩
  have hk0 : IntKind.u16.min = 0 := rfl
  have hk1 : IntKind.u16.max = 65535 := rfl
  have hn : 0 ≤ x ∧ x ≤ 65535 := by simp [Lit.wf] at wx; omega
  refine (law_back_any W _ l x hE hn (L.tabs hL)).mono fun e W' ⟨he, hb⟩ => ?_
  subst he
  refine ⟨_, rfl, _, _, _, [], p0 ++ [], [], hW', ?_, trodAll_mk2 (Below.trod L.laidOut (by kernel_rfl) (of_decide_eq_true (by kernel_rfl)) h0k hb hlt) (shut_int Tryz.underlying44 wx), rfl, hb.frame _, fun h => by cases h⟩
  exact trodAll_mk1 (shut_bool Tryz.underlying4 _)
theorem snapsBack_holds : Rows.SnapsBackSaid :=
  OpenClaim.holds_of_wide 4 Tryz.f4 rfl rfl rfl rfl rfl rfl rfl ⟨rfl, rfl, rfl, rfl, rfl⟩ rfl rfl rfl rfl rfl (by kernel_rfl) Tryz.func4 (by kernel_rfl)
    (of_decide_eq_true (by kernel_rfl)) (by unfold Func.isWrapper; first | (rw [if_pos (by decide +kernel)]; kernel_rfl) | (rw [if_neg (by decide +kernel)]; exact ⟨rfl, rfl⟩))
    (fun os started H enc _ => L.lifted os started H enc)
theorem snapsBack_card : Rows.SnapsBackCardSaid :=
  Claim7.holds_tied_plain_at .later [] [.data, .data, .data, .data, .mapped] true (true, "50dcdd935cfa2c859bc0cbae3654295996a3e6dd3abfe55b4f4bdc6ae03520f4") true
    snapsBack_holds (fun _ h => by cases h) (by kernel_rfl) (fun _ h => by cases h) snapsBack_row_tie rfl ⟨rfl, rfl⟩ (by kernel_rfl) rfl
    (fun f fn hf hfn => by
      obtain rfl : f = 4 := Option.some.inj ((show Tryz.prog.funcNamed "consignor/consignorlaw25.SnapsBack" = some 4 by kernel_rfl).symm.trans hf) |>.symm
      obtain rfl : fn = Tryz.f4 := (Option.some.inj (Tryz.func4.symm.trans hfn)).symm
      exact ⟨by kernel_rfl, fun j t ht => by
        rw [Tryz.params4] at ht
        have hm : t ∈ [22, 44] := by simpa using Array.mem_of_getElem? ht
        have hall : ([22, 44].all fun u => !Tryz.prog.wantsStandIn u) = true := by kernel_rfl
        exact (show Tryz.prog.wantsStandIn t = false by simpa using List.all_eq_true.1 hall t hm)⟩)
    (by kernel_rfl)
#print axioms snapsBack_card
end Go.Proofs.YtkgpnikmdmpfaaaGreatDoor

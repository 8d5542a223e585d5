/-
  consignorlaw25.SnapsBack.
-/
import Derived.Test.YtkgpnikmdmpfaaaGreatDoorBackP33
import Derived.Test.YtkgpnikmdmpfaaaGreatDoorBackP40
set_option linter.unusedVariables false
set_option linter.unusedSimpArgs false
namespace Go.Proofs.YtkgpnikmdmpfaaaGreatDoor
open Go.RowKit Go.Maps

theorem newestB_pos (s : Sp.Stmt) : 1 ≤ (newestB s).length := by
  unfold newestB
  exact textB_pos _
theorem coreB_five (C : Sp.Core) : 5 ≤ (coreB C).length := by
  have h1 := varB_pos C.l.length
  have h2 := varB_pos C.b.l.length
  have h3 := newestB_pos C.i.s0
  have h4 := newestB_pos C.i.s1
  have h5 := newestB_pos C.i.s2
  unfold coreB
  simp only [List.length_append]
  omega
theorem Tabs.par' {w W : World} (h : Tabs w) (hb : Below w.heap.size w W) : Parties W := (h.grew hb).par
/-- The core behind the first entries. -/
def RelBack (w : World) (base pc pb P Q : Nat) (l : List Ent) (x : Value) (W : World) : Prop :=
  ∃ (i : Nat) (vl vb v0 v1 v2 : Value) (m : Option Nat) (C : Sp.Core), i ≤ l.length ∧ x = .int .i64 i ∧ CoreIs W base pc vl pb vb P Q v0 v1 v2 m C ∧ Sp.Inv C (i * 60) ∧ Below w.heap.size w W
theorem not_great {l : List Ent} (h : great24 l 60 = false) : l.length ≤ 60 ∧ ∀ x ∈ l, x.1.o.ref.length ≤ 1000 ∧ x.1.o.sku.length ≤ 1000 := by
  unfold great24 at h
  simp only [Bool.or_eq_false_iff, decide_eq_false_iff_not, List.any_eq_false, Bool.or_eq_true, decide_eq_true_eq, not_or] at h
  refine ⟨by omega, fun x hx => ?_⟩
  have := (h.1 x hx).1
  unfold great20 at this
  simp at this
  omega
set_option maxRecDepth 100000 in
set_option maxHeartbeats 8000000 in
theorem law_back_any (w : World) (v : Value) (l : List Ent) (n : Int) (h : EntsAt w v l) (hn : 0 ≤ n ∧ n ≤ 65535) (hT : Tabs w) :
    Calls Tryz.prog 4 #[v, .int .u16 n] w fun e w' => e = .returned (.bool true) ∧ Below w.heap.size w w' := by
  obtain ⟨q, c, rfl⟩ := slcA_shape h.slc
  have HG := great24_any w _ l 60 h
  have HK := Lib.hid (fun W (hW : Below w.heap.size w W) => kept_any W (hT.par' hW))
  have hT2 := Lib.hid (fun W (hW : Below w.heap.size w W) => hT.grew hW)
  have HE := Lib.hid h
  clear h hT
  cases hg : great24 l 60 with
  | true =>
    rw [hg] at HG
    replace HG := Lib.hid HG
    clear hg
    go_enter Tryz.func4, Tryz.ntmps4
    go_wp2_with (first
      | (go_at_call 5; refine Calls.mono HG.out ?_; rintro e w1 ⟨rfl, hb1⟩; replace hb1 := Lib.hid hb1)
      | (go_at_call 6; refine Calls.mono (HK.out _ (by have := hb1.out; (repeat (first | (with_reducible first | exact zR _ _ | exact zA _ _ | assumption | refine zL ?_ _ | refine zD ?_ | refine zN ?_ _) | ((with_reducible first | refine zC ?_ ?_ _ | refine zW ?_ ?_ _); rotate_left; focus (first | exact Nat.le_refl _ | (simp; done) | (simp; omega) | omega)) | with_reducible refine zT ?_ (by assumption))))) ?_; rintro e w2 ⟨rfl, hb2⟩; replace hb2 := Lib.hid hb2))
    go_ret
    refine ⟨rfl, ?_⟩
    have := hb1.out
    have := hb2.out
    (repeat (first | (with_reducible first | exact zR _ _ | exact zA _ _ | assumption | refine zL ?_ _ | refine zD ?_ | refine zN ?_ _) | ((with_reducible first | refine zC ?_ ?_ _ | refine zW ?_ ?_ _); rotate_left; focus (first | exact Nat.le_refl _ | (simp; done) | (simp; omega) | omega)) | with_reducible refine zT ?_ (by assumption)))
  | false =>
    rw [hg] at HG
    obtain ⟨hl60, hin⟩ := not_great hg
    replace HG := Lib.hid HG
    replace hin := Lib.hid hin
    clear hg
    go_enter Tryz.func4, Tryz.ntmps4
    go_wp2_with (first
      | (go_at_call 5; refine Calls.mono HG.out ?_; rintro e w1 ⟨rfl, hb1⟩)
      | (go_at_call 7; refine Calls.mono (coreNew_any _) ?_; rintro e w2 ⟨pc, pb, P, Q, rfl, hC, hb2⟩))
    have hB2 : Below w.heap.size w w2 := hb1.trans (hb2.mono hb1.size)
    have hbase := hb1.size
    have hTb := Lib.hid (fun W W' (hW : Below w.heap.size w W) (hW' : Below w1.heap.size W W') => hT2.out W' (hW.trans (hW'.mono hbase)))
    replace hC := Lib.hid hC
    replace hB2 := Lib.hid hB2
    clear hb1 hb2 HG
    go_loopw [6] (fun x W => RelBack w w1.heap.size pc pb P Q l x W) (fun x _ => l.length - (intOf x).toNat)
    case atStart => exact ⟨0, _, _, _, _, _, _, _, by omega, rfl, hC.out, Sp.inv_start, hB2.out⟩
    case round =>
      clear hC hB2
      obtain ⟨i, vl, vb, v0, v1, v2, m, C, hi, rfl, hC, hI, hB⟩ := hrel
      by_cases hlt : i < l.length
      · obtain ⟨x, hs⟩ : ∃ s, l[i]? = some s := ⟨_, List.getElem?_eq_getElem hlt⟩
        have hx := List.mem_of_getElem? hs
        have HE2 := HE.out.mono hB
        rcases HE.out.slc with ⟨rfl, _⟩ | ⟨b, off, cap, e, hcap, hb, hcells⟩
        · simp at hlt
        · cases e
          obtain ⟨g0, g1, g2, g3, g4, g5, g6, g7, g8, g9, g10, g11⟩ := ent_facts hcells hB hs
          have hb' : b < wr.heap.size := Nat.lt_of_lt_of_le hb hB.size
          have hcnt := hI.cnt
          have hI2 := Lib.hid (Sp.inv_apply hI (by omega) x.1)
          have HA := apply_any wr w1.heap.size pc pb P Q vl vb v0 v1 v2 m C hC (fun W hW => hTb.out _ _ hB hW) (by omega) x (HE2.rows x hx) (hin.out x hx).1 (hin.out x hx).2 (HE2.inn x hx).2.2
          have hB' := Lib.hid (fun W' (h : Below w1.heap.size wr W') => hB.trans (h.mono hbase))
          obtain ⟨⟨kind, ⟨id, ref, sku, qty, amount⟩, ko, kd, code, ⟨party, seq, rows⟩⟩, sv⟩ := x
          simp only at g0 g1 g2 g3 g4 g5 g6 g7 g8 g9 g10 g11 hI2
          simp only [entVal] at HA
          generalize Sp.apply C ⟨kind, ⟨id, ref, sku, qty, amount⟩, ko, kd, code, ⟨party, seq, rows⟩⟩ = r at HA hI2
          replace HA := Lib.hid HA
          replace hB := Lib.hid hB
          clear hcells hs hx HE2 hC hI
          go_wp2_with (go_at_call 9; refine Calls.mono HA.out ?_; rintro e w3 ⟨hb3, z0, z1, z2, z3, z4, zm, rfl, hc3⟩; replace hb3 := Lib.hid hb3; replace hc3 := Lib.hid hc3)
          exact ⟨⟨i + 1, _, _, _, _, _, _, _, by omega, by go_num, hc3.out, hI2.out.mono (by omega), hB'.out _ hb3.out⟩, by simp [intOf]; omega⟩
      · by_cases hlong : (coreB C).length > 65536
        · have hp : putB C = ([], 3) := by unfold putB; rw [if_pos hlong]
          have HP := put_any wr _ _ _ _ _ _ _ _ _ _ _ C hC (hT2.out _ hB).par
          unfold PutPost at HP
          rw [hp] at HP
          simp only at HP
          replace HP := Lib.hid HP
          replace hB := Lib.hid hB
          clear hp hlong hC hI
          go_wp2_with (first
            | (go_at_call 11; refine Calls.mono HP.out ?_; rintro e w3 ⟨rfl, hb3⟩; replace hb3 := Lib.hid hb3)
            | (go_at_call 6; refine Calls.mono (HK.out _ (by have := hb3.out; have := hB.out; (repeat (first | (with_reducible first | exact zR _ _ | exact zA _ _ | assumption | refine zL ?_ _ | refine zD ?_ | refine zN ?_ _) | ((with_reducible first | refine zC ?_ ?_ _ | refine zW ?_ ?_ _); rotate_left; focus (first | exact Nat.le_refl _ | (simp; done) | (simp; omega) | omega)) | with_reducible refine zT ?_ (by assumption))))) ?_; rintro e w4 ⟨rfl, hb4⟩; replace hb4 := Lib.hid hb4))
          go_ret
          refine ⟨rfl, ?_⟩
          have := hB.out
          have := hb3.out
          have := hb4.out
          (repeat (first | (with_reducible first | exact zR _ _ | exact zA _ _ | assumption | refine zL ?_ _ | refine zD ?_ | refine zN ?_ _) | ((with_reducible first | refine zC ?_ ?_ _ | refine zW ?_ ?_ _); rotate_left; focus (first | exact Nat.le_refl _ | (simp; done) | (simp; omega) | omega)) | with_reducible refine zT ?_ (by assumption)))
        · have hp : putB C = (coreB C, 0) := by unfold putB; rw [if_neg hlong]
          have HP := put_any wr _ _ _ _ _ _ _ _ _ _ _ C hC (hT2.out _ hB).par
          unfold PutPost at HP
          rw [hp] at HP
          simp only at HP
          have hget := snapGet_put (Sp.inv_form hI (by omega)) (Sp.inv_of hI) hp
          have h5 := coreB_five C
          generalize coreB C = s at HP hget hlong h5
          replace hget := Lib.hid hget
          replace HP := Lib.hid HP
          replace hB := Lib.hid hB
          replace hC := Lib.hid hC
          have hs0 : s ≠ [] := fun e => by rw [e] at h5; simp at h5
          have hbeh := snapGet_behind (t := [0]) hget.out hs0 (by simp)
          obtain ⟨k, hk⟩ : ∃ k : Nat, (k : Int) = n.tmod ((s.length : Int) - 1) := ⟨(n.tmod ((s.length : Int) - 1)).toNat, by have := Int.tmod_nonneg ((s.length : Int) - 1) hn.1; omega⟩
          have hkl : (k : Int) < (s.length : Int) - 1 := by rw [hk]; exact Int.tmod_lt_of_pos _ (by omega)
          have hcut : snapGet (s.take (1 + k)) = none := by
            refine snapGet_cut (t := s.drop (1 + k)) (C := C) (by rw [List.take_append_drop]; exact hget.out) (fun e => ?_) (fun e => ?_)
            · have h := congrArg List.length e
              rw [List.length_take, List.length_nil] at h
              omega
            · have h := congrArg List.length e
              rw [List.length_drop, List.length_nil] at h
              omega
          have hGet := Lib.hid (fun W (hW : Below w.heap.size w W) => get_some W s C (hT2.out _ hW).par (by omega) hget.out)
          have hGetC := Lib.hid (fun W (hW : Below w.heap.size w W) => get_none W (s.take (1 + k)) (hT2.out _ hW).par (by simp; omega) hcut)
          have hGetB := Lib.hid (fun W (hW : Below w.heap.size w W) => get_none W (s ++ [0]) (hT2.out _ hW).par (by simp; omega) hbeh)
          clear hp hI hcut hbeh hs0 hget
          have hwn : IntKind.i64.wrap n = n := by rw [IntKind.wrap_i64]; omega
          have hwl : IntKind.i64.wrap ((s.length : Int) - 1) = (s.length : Int) - 1 := by rw [IntKind.wrap_i64]; omega
          have hwk : IntKind.i64.wrap (1 + (k : Int)) = 1 + (k : Int) := by rw [IntKind.wrap_i64]; omega
          have hlN : (s.length : Int) - 1 ≠ 0 := by omega
          have hk' := hk.symm
          clear hk
          go_wp2_with fail
          refine Calls.mono HP.out ?_
          rintro e w3 ⟨rfl, hb3⟩
          replace hb3 := Lib.hid hb3
          simp only
          go_wp2_with fail
          refine Calls.mono (hGet.out _ (by have := hb3.out; have := hB.out; (repeat (first | (with_reducible first | exact zR _ _ | exact zA _ _ | assumption | refine zL ?_ _ | refine zD ?_ | refine zN ?_ _) | ((with_reducible first | refine zC ?_ ?_ _ | refine zW ?_ ?_ _); rotate_left; focus (first | exact Nat.le_refl _ | (simp; done) | (simp; omega) | omega)) | with_reducible refine zT ?_ (by assumption))))) ?_
          rintro e w4 ⟨base', pc', vl', pb', vb', P', Q', v0', v1', v2', m', rfl, hC4, hb4⟩
          replace hb4 := Lib.hid hb4
          replace hC4 := Lib.hid hC4
          simp only
          go_wp2_with fail
          refine Calls.mono (coreSame_yes _ w1.heap.size pc pb P Q base' pc' pb' P' Q' vl vb v0 v1 v2 vl' vb' v0' v1' v2' m m' C C (hC.out.below (by have := hb3.out; have := hb4.out; (repeat (first | (with_reducible first | exact zR _ _ | exact zA _ _ | assumption | refine zL ?_ _ | refine zD ?_ | refine zN ?_ _) | ((with_reducible first | refine zC ?_ ?_ _ | refine zW ?_ ?_ _); rotate_left; focus (first | exact Nat.le_refl _ | (simp; done) | (simp; omega) | omega)) | with_reducible refine zT ?_ (by assumption))))) hC4.out ⟨rfl, rfl, rfl, rfl, rfl⟩) ?_
          rintro e w5 ⟨rfl, hb5⟩
          replace hb5 := Lib.hid hb5
          simp only
          clear hC hC4
          go_wp2_with fail
          refine Calls.mono (hGetC.out _ (by have := hb3.out; have := hb4.out; have := hb5.out; have := hB.out; (repeat (first | (with_reducible first | exact zR _ _ | exact zA _ _ | assumption | refine zL ?_ _ | refine zD ?_ | refine zN ?_ _) | ((with_reducible first | refine zC ?_ ?_ _ | refine zW ?_ ?_ _); rotate_left; focus (first | exact Nat.le_refl _ | (simp; done) | (simp; omega) | omega)) | with_reducible refine zT ?_ (by assumption))))) ?_
          rintro e w6 ⟨rfl, hb6⟩
          replace hb6 := Lib.hid hb6
          simp only
          have A1 : (9223372036854775807 < s.length + 1) = False := eq_false (by omega)
          go_wp2_with fail
          refine Calls.mono (hGetB.out _ (by have := hb3.out; have := hb4.out; have := hb5.out; have := hb6.out; have := hB.out; (repeat (first | (with_reducible first | exact zR _ _ | exact zA _ _ | assumption | refine zL ?_ _ | refine zD ?_ | refine zN ?_ _) | ((with_reducible first | refine zC ?_ ?_ _ | refine zW ?_ ?_ _); rotate_left; focus (first | exact Nat.le_refl _ | (simp; done) | (simp; omega) | omega)) | with_reducible refine zT ?_ (by assumption))))) ?_
          rintro e w7 ⟨rfl, hb7⟩
          replace hb7 := Lib.hid hb7
          simp only
          go_wp2_with fail
          refine Calls.mono (HK.out _ (by have := hb3.out; have := hb4.out; have := hb5.out; have := hb6.out; have := hb7.out; have := hB.out; (repeat (first | (with_reducible first | exact zR _ _ | exact zA _ _ | assumption | refine zL ?_ _ | refine zD ?_ | refine zN ?_ _) | ((with_reducible first | refine zC ?_ ?_ _ | refine zW ?_ ?_ _); rotate_left; focus (first | exact Nat.le_refl _ | (simp; done) | (simp; omega) | omega)) | with_reducible refine zT ?_ (by assumption))))) ?_
          rintro e w8 ⟨rfl, hb8⟩
          replace hb8 := Lib.hid hb8
          simp only
          go_wp2_with fail
          go_ret
          refine ⟨rfl, ?_⟩
          have := hB.out
          have := hb3.out
          have := hb4.out
          have := hb5.out
          have := hb6.out
          have := hb7.out
          have := hb8.out
          (repeat (first | (with_reducible first | exact zR _ _ | exact zA _ _ | assumption | refine zL ?_ _ | refine zD ?_ | refine zN ?_ _) | ((with_reducible first | refine zC ?_ ?_ _ | refine zW ?_ ?_ _); rotate_left; focus (first | exact Nat.le_refl _ | (simp; done) | (simp; omega) | omega)) | with_reducible refine zT ?_ (by assumption)))
end Go.Proofs.YtkgpnikmdmpfaaaGreatDoor

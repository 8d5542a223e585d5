/-
  The chapter's cores, by the plain functions.
-/
import Derived.Test.YtfkhfofoginaiaaDoorFormP23
import Derived.Test.YtfkhfofoginaiaaDoorFormP29
import Derived.Test.YtfkhfofoginaiaaDoorFormP31
set_option linter.unusedVariables false
set_option linter.unusedSimpArgs false
namespace Go.Proofs.YtfkhfofoginaiaaDoor
open Go.RowKit

def orderA : Sp.Order := ⟨1, [97], [98], 2, 500⟩
theorem kept_put : putB Sp.noCore = ([0, 0, 0, 0, 0], 0) := by decide +kernel
theorem kept_o : orderB orderA = [1, 1, 97, 1, 98, 2, 244, 3] := by decide +kernel
theorem kept_nul : snapGet [0] = none := by
  have : (snapGet [0]).isNone = true := by decide +kernel
  simpa using this
theorem kept_one : (snapGet ([1] ++ textB (orderB orderA) ++ varB 1 ++ [0, 0, 0, 0])).isSome = true := by decide +kernel
theorem kept_two : (snapGet ([1] ++ textB (orderB orderA) ++ varB 524289 ++ [0, 0, 0, 0])).isSome = false := by decide +kernel
end Go.Proofs.YtfkhfofoginaiaaDoor

/-
  snaps.Put of none; the chapter's cores; the law.
-/

set_option linter.unusedVariables false
set_option linter.unusedSimpArgs false
namespace Go.Proofs.YtfkhfofoginaiaaDoor
open Go.RowKit Go.Maps

theorem coreCopy_none (w : World) : Calls Tryd.prog 14 #[.pointer none] w fun e w' => e = .returned (.pointer none) ∧ w = w' := by
  go_enter Tryd.func14, Tryd.ntmps14
  go_wp2_with (go_at_call 21; refine (coreNone_yes _).mono ?_; rintro e w1 ⟨rfl, rfl⟩)
  go_ret
  exact ⟨rfl, rfl⟩
theorem put_none (w : World) : Calls Tryd.prog 6 #[.pointer none] w fun e w' => e = .returned (.tuple #[.string (str []), .int .i64 1]) ∧ Below w.heap.size w w' := by
  go_enter Tryd.func6, Tryd.ntmps6
  go_wp2_with (go_at_call 14; refine (coreCopy_none _).mono ?_; rintro e w1 ⟨rfl, rfl⟩)
  refine bodyPost_ret (v := .tuple #[.string (str []), .int .i64 1]) ?_ rfl ⟨rfl, ?_⟩
  · simp [results, Tryd.results6, go_sem]
  · (repeat (first | (with_reducible exact Below.refl _ _) | (with_reducible exact alloc_grew _ _) | (with_reducible assumption) | (with_reducible refine Grew.alloc ?_ _) | ((with_reducible refine Below.setCell ?_ ?_ _); rotate_left; focus (first | exact Nat.le_refl _ | (simp; done) | (simp; omega))) | ((with_reducible refine Below.setRow ?_ ?_ _); rotate_left; focus (first | exact Nat.le_refl _ | (simp; done) | (simp; omega) | omega)) | (with_reducible refine Grew.drew ?_) | (with_reducible refine Below.trans ?_ (keeps_drewN _ _)) | (with_reducible refine Grew.trans ?_ (by assumption))))
theorem get_none (w : World) (s : Bytes) (hpar : Parties w) (hlen : s.length ≤ 900000) (h : snapGet s = none) : Calls Tryd.prog 5 #[.string (str s)] w fun e w' => e = .returned (.tuple #[.pointer none, .int .i64 10]) ∧ Below w.heap.size w w' :=
  (get_any w s hpar hlen).mono (fun e w' hg => by
    obtain ⟨h1, h2⟩ := hg
    refine ⟨?_, h1⟩
    rcases h2 with ⟨_, h3⟩ | ⟨C, _, _, _, _, _, _, _, _, _, _, _, h3, _⟩
    · exact h3
    · rw [h] at h3; cases h3)
def GotCore (w : World) (C : Sp.Core) (e : Ending) (w' : World) : Prop :=
  ∃ base pc vl pb vb P Q v0 v1 v2 m, e = .returned (.tuple #[.pointer (some ⟨pc, 0, none⟩), .int .i64 0]) ∧ CoreIs w' base pc vl pb vb P Q v0 v1 v2 m C ∧ Below w.heap.size w w'
theorem get_some (w : World) (s : Bytes) (C : Sp.Core) (hpar : Parties w) (hlen : s.length ≤ 900000) (h : snapGet s = some C) : Calls Tryd.prog 5 #[.string (str s)] w (GotCore w C) :=
  (get_any w s hpar hlen).mono (fun e w' hg => by
    obtain ⟨h1, h2⟩ := hg
    rcases h2 with ⟨h3, _⟩ | ⟨C', base, pc, vl, pb, vb, P, Q, v0, v1, v2, m, h3, h4, h5⟩
    · rw [h] at h3; cases h3
    · rw [h] at h3; cases h3; exact ⟨_, _, _, _, _, _, _, _, _, _, _, h4, h5, h1⟩)
theorem kept_text : textB (orderB orderA) = [8, 1, 1, 97, 1, 98, 2, 244, 3] := by decide +kernel
theorem kept_one' : (snapGet [1, 8, 1, 1, 97, 1, 98, 2, 244, 3, 1, 0, 0, 0, 0]).isSome = true := by decide +kernel
theorem kept_two' : snapGet [1, 8, 1, 1, 97, 1, 98, 2, 244, 3, 129, 128, 32, 0, 0, 0, 0] = none := by
  have : (snapGet [1, 8, 1, 1, 97, 1, 98, 2, 244, 3, 129, 128, 32, 0, 0, 0, 0]).isNone = true := by decide +kernel
  simpa using this
theorem kept_v1 : varB 1 = [1] := by decide +kernel
theorem kept_v2 : varB 524289 = [129, 128, 32] := by decide +kernel
set_option maxRecDepth 100000 in
set_option maxHeartbeats 8000000 in
theorem kept_any (w : World) (hpar : Parties w) : Calls Tryd.prog 4 #[] w fun e w' => e = .returned (.bool true) ∧ Below w.heap.size w w' := by
  have hpar2 := Lib.hid (fun W (h : Below w.heap.size w W) => hpar.grew h)
  obtain ⟨C1, hC1⟩ := Option.isSome_iff_exists.1 kept_one'
  replace hC1 := Lib.hid hC1
  clear hpar
  go_enter Tryd.func4, Tryd.ntmps4
  go_wp2_with fail
  refine Calls.mono (coreNew_any _) ?_
  rintro e w1 ⟨pc, pb, P, Q, rfl, hC, hb1⟩
  go_wp2_with fail
  refine Calls.mono (put_any _ _ _ _ _ _ _ _ _ _ _ _ _ hC (hpar2.out _ (by (repeat (first | (with_reducible exact Below.refl _ _) | (with_reducible exact alloc_grew _ _) | (with_reducible assumption) | (with_reducible refine Grew.alloc ?_ _) | ((with_reducible refine Below.setCell ?_ ?_ _); rotate_left; focus (first | exact Nat.le_refl _ | (simp; done) | (simp; omega))) | ((with_reducible refine Below.setRow ?_ ?_ _); rotate_left; focus (first | exact Nat.le_refl _ | (simp; done) | (simp; omega) | omega)) | (with_reducible refine Grew.drew ?_) | (with_reducible refine Below.trans ?_ (keeps_drewN _ _)) | (with_reducible refine Grew.trans ?_ (by assumption))))))) ?_
  unfold PutPost
  rw [kept_put]
  rintro e w2 ⟨rfl, hb2⟩
  clear hC
  simp only
  go_wp2_with fail
  refine Calls.mono (put_none _) ?_
  rintro e w3 ⟨rfl, hb3⟩
  go_wp2_with fail
  refine Calls.mono (get_some _ [] Sp.noCore (hpar2.out _ (by (repeat (first | (with_reducible exact Below.refl _ _) | (with_reducible exact alloc_grew _ _) | (with_reducible assumption) | (with_reducible refine Grew.alloc ?_ _) | ((with_reducible refine Below.setCell ?_ ?_ _); rotate_left; focus (first | exact Nat.le_refl _ | (simp; done) | (simp; omega))) | ((with_reducible refine Below.setRow ?_ ?_ _); rotate_left; focus (first | exact Nat.le_refl _ | (simp; done) | (simp; omega) | omega)) | (with_reducible refine Grew.drew ?_) | (with_reducible refine Below.trans ?_ (keeps_drewN _ _)) | (with_reducible refine Grew.trans ?_ (by assumption)))))) (by simp) (by simp [snapGet])) ?_
  rintro e w4 ⟨base, pcg, vl, pbg, vb, Pg, Qg, v0, v1, v2, m, rfl, hC, hb4⟩
  replace hC := Lib.hid hC
  go_wp2_with fail
  refine Calls.mono (get_none _ [0] (hpar2.out _ (by (repeat (first | (with_reducible exact Below.refl _ _) | (with_reducible exact alloc_grew _ _) | (with_reducible assumption) | (with_reducible refine Grew.alloc ?_ _) | ((with_reducible refine Below.setCell ?_ ?_ _); rotate_left; focus (first | exact Nat.le_refl _ | (simp; done) | (simp; omega))) | ((with_reducible refine Below.setRow ?_ ?_ _); rotate_left; focus (first | exact Nat.le_refl _ | (simp; done) | (simp; omega) | omega)) | (with_reducible refine Grew.drew ?_) | (with_reducible refine Below.trans ?_ (keeps_drewN _ _)) | (with_reducible refine Grew.trans ?_ (by assumption)))))) (by simp) kept_nul) ?_
  rintro e w5 ⟨rfl, hb5⟩
  go_wp2_with fail
  refine Calls.mono (orderPut_any orderA _ (by decide) (by decide)) ?_
  rintro e w6 ⟨rfl, hb6⟩
  go_wp2_with fail
  refine Calls.mono (Text_any _ _ (by rw [kept_o]; decide)) ?_
  rw [kept_text]
  rintro e w7 ⟨rfl, hb7⟩
  go_wp2_with fail
  refine Calls.mono (Var_any 1 _ (by omega) (by omega)) ?_
  rw [show (1 : Int).toNat = 1 from rfl, kept_v1]
  rintro e w8 ⟨rfl, hb8⟩
  go_wp2_with fail
  rw [show ({ data := #[1] } ++ str [8, 1, 1, 97, 1, 98, 2, 244, 3] ++ str [1] ++ { data := #[0, 0, 0, 0] } : ByteArray) = str [1, 8, 1, 1, 97, 1, 98, 2, 244, 3, 1, 0, 0, 0, 0] from by
    rw [show ({ data := #[1] } : ByteArray) = str [1] from rfl, show ({ data := #[0, 0, 0, 0] } : ByteArray) = str [0, 0, 0, 0] from rfl]; simp]
  refine Calls.mono (get_some _ _ C1 (hpar2.out _ (by (repeat (first | (with_reducible exact Below.refl _ _) | (with_reducible exact alloc_grew _ _) | (with_reducible assumption) | (with_reducible refine Grew.alloc ?_ _) | ((with_reducible refine Below.setCell ?_ ?_ _); rotate_left; focus (first | exact Nat.le_refl _ | (simp; done) | (simp; omega))) | ((with_reducible refine Below.setRow ?_ ?_ _); rotate_left; focus (first | exact Nat.le_refl _ | (simp; done) | (simp; omega) | omega)) | (with_reducible refine Grew.drew ?_) | (with_reducible refine Below.trans ?_ (keeps_drewN _ _)) | (with_reducible refine Grew.trans ?_ (by assumption)))))) (by simp) hC1.out) ?_
  rintro e w9 ⟨_, pcx, _, _, _, _, _, _, _, _, _, rfl, _, hb9⟩
  go_wp2_with fail
  refine Calls.mono (Var_any 524289 _ (by omega) (by omega)) ?_
  rw [show (524289 : Int).toNat = 524289 from rfl, kept_v2]
  rintro e w10 ⟨rfl, hb10⟩
  go_wp2_with fail
  rw [show ({ data := #[1] } ++ str [8, 1, 1, 97, 1, 98, 2, 244, 3] ++ str [129, 128, 32] ++ { data := #[0, 0, 0, 0] } : ByteArray) = str [1, 8, 1, 1, 97, 1, 98, 2, 244, 3, 129, 128, 32, 0, 0, 0, 0] from by
    rw [show ({ data := #[1] } : ByteArray) = str [1] from rfl, show ({ data := #[0, 0, 0, 0] } : ByteArray) = str [0, 0, 0, 0] from rfl]; simp]
  refine Calls.mono (get_none _ _ (hpar2.out _ (by (repeat (first | (with_reducible exact Below.refl _ _) | (with_reducible exact alloc_grew _ _) | (with_reducible assumption) | (with_reducible refine Grew.alloc ?_ _) | ((with_reducible refine Below.setCell ?_ ?_ _); rotate_left; focus (first | exact Nat.le_refl _ | (simp; done) | (simp; omega))) | ((with_reducible refine Below.setRow ?_ ?_ _); rotate_left; focus (first | exact Nat.le_refl _ | (simp; done) | (simp; omega) | omega)) | (with_reducible refine Grew.drew ?_) | (with_reducible refine Below.trans ?_ (keeps_drewN _ _)) | (with_reducible refine Grew.trans ?_ (by assumption)))))) (by simp) kept_two') ?_
  rintro e w11 ⟨rfl, hb11⟩
  go_wp2_with fail
  refine Calls.mono (coreNew_any _) ?_
  rintro e w12 ⟨pcn, pbn, Pn, Qn, rfl, hCn, hb12⟩
  go_wp2_with fail
  refine Calls.mono (coreSame_yes _ _ _ _ _ _ _ _ _ _ _ _ _ _ _ _ _ _ _ _ _ _ _ Sp.noCore Sp.noCore (hC.out.below (by (repeat (first | (with_reducible exact Below.refl _ _) | (with_reducible exact alloc_grew _ _) | (with_reducible assumption) | (with_reducible refine Grew.alloc ?_ _) | ((with_reducible refine Below.setCell ?_ ?_ _); rotate_left; focus (first | exact Nat.le_refl _ | (simp; done) | (simp; omega))) | ((with_reducible refine Below.setRow ?_ ?_ _); rotate_left; focus (first | exact Nat.le_refl _ | (simp; done) | (simp; omega) | omega)) | (with_reducible refine Grew.drew ?_) | (with_reducible refine Below.trans ?_ (keeps_drewN _ _)) | (with_reducible refine Grew.trans ?_ (by assumption)))))) hCn ⟨rfl, rfl, rfl, rfl, rfl⟩) ?_
  rintro e w13 ⟨rfl, hb13⟩
  go_wp2
  go_ret
  refine ⟨rfl, ?_⟩
  (repeat (first | (with_reducible exact Below.refl _ _) | (with_reducible exact alloc_grew _ _) | (with_reducible assumption) | (with_reducible refine Grew.alloc ?_ _) | ((with_reducible refine Below.setCell ?_ ?_ _); rotate_left; focus (first | exact Nat.le_refl _ | (simp; done) | (simp; omega))) | ((with_reducible refine Below.setRow ?_ ?_ _); rotate_left; focus (first | exact Nat.le_refl _ | (simp; done) | (simp; omega) | omega)) | (with_reducible refine Grew.drew ?_) | (with_reducible refine Below.trans ?_ (keeps_drewN _ _)) | (with_reducible refine Grew.trans ?_ (by assumption))))
set_option maxRecDepth 100000 in
set_option maxHeartbeats 8000000 in
theorem law_any (w : World) (hpar : Parties w) (s : Bytes) : Calls Tryd.prog 3 #[.string (str s)] w fun e w' => e = .returned (.bool true) ∧ Below w.heap.size w w' := by
  have hK := Lib.hid (fun W (h : Below w.heap.size w W) => kept_any W (hpar.grew h))
  by_cases hl : 2000 < s.length
  · clear hpar
    go_enter Tryd.func3, Tryd.ntmps3
    go_wp2_with (go_at_call 4; refine Calls.mono (hK.out _ (by (repeat (first | (with_reducible exact Below.refl _ _) | (with_reducible exact alloc_grew _ _) | (with_reducible assumption) | (with_reducible refine Grew.alloc ?_ _) | ((with_reducible refine Below.setCell ?_ ?_ _); rotate_left; focus (first | exact Nat.le_refl _ | (simp; done) | (simp; omega))) | ((with_reducible refine Below.setRow ?_ ?_ _); rotate_left; focus (first | exact Nat.le_refl _ | (simp; done) | (simp; omega) | omega)) | (with_reducible refine Grew.drew ?_) | (with_reducible refine Below.trans ?_ (keeps_drewN _ _)) | (with_reducible refine Grew.trans ?_ (by assumption)))))) ?_; rintro e w1 ⟨rfl, hb1⟩)
    go_ret
    refine ⟨rfl, ?_⟩
    (repeat (first | (with_reducible exact Below.refl _ _) | (with_reducible exact alloc_grew _ _) | (with_reducible assumption) | (with_reducible refine Grew.alloc ?_ _) | ((with_reducible refine Below.setCell ?_ ?_ _); rotate_left; focus (first | exact Nat.le_refl _ | (simp; done) | (simp; omega))) | ((with_reducible refine Below.setRow ?_ ?_ _); rotate_left; focus (first | exact Nat.le_refl _ | (simp; done) | (simp; omega) | omega)) | (with_reducible refine Grew.drew ?_) | (with_reducible refine Below.trans ?_ (keeps_drewN _ _)) | (with_reducible refine Grew.trans ?_ (by assumption))))
  · by_cases hs : s = []
    · subst hs
      clear hpar
      go_enter Tryd.func3, Tryd.ntmps3
      go_wp2_with (go_at_call 4; refine Calls.mono (hK.out _ (by (repeat (first | (with_reducible exact Below.refl _ _) | (with_reducible exact alloc_grew _ _) | (with_reducible assumption) | (with_reducible refine Grew.alloc ?_ _) | ((with_reducible refine Below.setCell ?_ ?_ _); rotate_left; focus (first | exact Nat.le_refl _ | (simp; done) | (simp; omega))) | ((with_reducible refine Below.setRow ?_ ?_ _); rotate_left; focus (first | exact Nat.le_refl _ | (simp; done) | (simp; omega) | omega)) | (with_reducible refine Grew.drew ?_) | (with_reducible refine Below.trans ?_ (keeps_drewN _ _)) | (with_reducible refine Grew.trans ?_ (by assumption)))))) ?_; rintro e w1 ⟨rfl, hb1⟩)
      go_ret
      refine ⟨rfl, ?_⟩
      (repeat (first | (with_reducible exact Below.refl _ _) | (with_reducible exact alloc_grew _ _) | (with_reducible assumption) | (with_reducible refine Grew.alloc ?_ _) | ((with_reducible refine Below.setCell ?_ ?_ _); rotate_left; focus (first | exact Nat.le_refl _ | (simp; done) | (simp; omega))) | ((with_reducible refine Below.setRow ?_ ?_ _); rotate_left; focus (first | exact Nat.le_refl _ | (simp; done) | (simp; omega) | omega)) | (with_reducible refine Grew.drew ?_) | (with_reducible refine Below.trans ?_ (keeps_drewN _ _)) | (with_reducible refine Grew.trans ?_ (by assumption))))
    · have hne := ne_nil_beq hs
      rcases hg : snapGet s with _ | C
      · have HG := Lib.hid (get_none w s hpar (by omega) hg)
        replace hs := Lib.hid hs
        replace hg := Lib.hid hg
        replace hpar := Lib.hid hpar
        go_enter Tryd.func3, Tryd.ntmps3
        go_wp2_with (first
          | (go_at_call 4; refine Calls.mono (hK.out _ (by (repeat (first | (with_reducible exact Below.refl _ _) | (with_reducible exact alloc_grew _ _) | (with_reducible assumption) | (with_reducible refine Grew.alloc ?_ _) | ((with_reducible refine Below.setCell ?_ ?_ _); rotate_left; focus (first | exact Nat.le_refl _ | (simp; done) | (simp; omega))) | ((with_reducible refine Below.setRow ?_ ?_ _); rotate_left; focus (first | exact Nat.le_refl _ | (simp; done) | (simp; omega) | omega)) | (with_reducible refine Grew.drew ?_) | (with_reducible refine Below.trans ?_ (keeps_drewN _ _)) | (with_reducible refine Grew.trans ?_ (by assumption)))))) ?_; rintro e w1 ⟨rfl, hb1⟩)
          | (go_at_call 5; refine Calls.mono HG.out ?_; rintro e w2 ⟨rfl, hb2⟩))
        go_ret
        refine ⟨rfl, ?_⟩
        (repeat (first | (with_reducible exact Below.refl _ _) | (with_reducible exact alloc_grew _ _) | (with_reducible assumption) | (with_reducible refine Grew.alloc ?_ _) | ((with_reducible refine Below.setCell ?_ ?_ _); rotate_left; focus (first | exact Nat.le_refl _ | (simp; done) | (simp; omega))) | ((with_reducible refine Below.setRow ?_ ?_ _); rotate_left; focus (first | exact Nat.le_refl _ | (simp; done) | (simp; omega) | omega)) | (with_reducible refine Grew.drew ?_) | (with_reducible refine Below.trans ?_ (keeps_drewN _ _)) | (with_reducible refine Grew.trans ?_ (by assumption))))
      · have HG := Lib.hid (get_some w s C hpar (by omega) hg)
        have hput : putB C = (s, 0) := by
          unfold snapGet at hg
          rw [if_neg hs] at hg
          simp only at hg
          split at hg
          · split at hg
            · cases hg
            · split at hg
              · cases hg; assumption
              · cases hg
          · cases hg
        replace hs := Lib.hid hs
        replace hg := Lib.hid hg
        replace hput := Lib.hid hput
        have hpar2 := Lib.hid (fun W (h : Below w.heap.size w W) => hpar.grew h)
        clear hpar
        go_enter Tryd.func3, Tryd.ntmps3
        go_wp2_with (first
          | (go_at_call 4; refine Calls.mono (hK.out _ (by (repeat (first | (with_reducible exact Below.refl _ _) | (with_reducible exact alloc_grew _ _) | (with_reducible assumption) | (with_reducible refine Grew.alloc ?_ _) | ((with_reducible refine Below.setCell ?_ ?_ _); rotate_left; focus (first | exact Nat.le_refl _ | (simp; done) | (simp; omega))) | ((with_reducible refine Below.setRow ?_ ?_ _); rotate_left; focus (first | exact Nat.le_refl _ | (simp; done) | (simp; omega) | omega)) | (with_reducible refine Grew.drew ?_) | (with_reducible refine Below.trans ?_ (keeps_drewN _ _)) | (with_reducible refine Grew.trans ?_ (by assumption)))))) ?_; rintro e w1 ⟨rfl, hb1⟩)
          | (go_at_call 5; refine Calls.mono HG.out ?_; rintro e w2 ⟨base, pcg, vl, pbg, vb, Pg, Qg, v0, v1, v2, m, rfl, hC, hb2⟩; replace hC := Lib.hid hC)
          | (go_at_call 6; refine Calls.mono (put_any _ _ _ _ _ _ _ _ _ _ _ _ _ hC.out (hpar2.out _ (by (repeat (first | (with_reducible exact Below.refl _ _) | (with_reducible exact alloc_grew _ _) | (with_reducible assumption) | (with_reducible refine Grew.alloc ?_ _) | ((with_reducible refine Below.setCell ?_ ?_ _); rotate_left; focus (first | exact Nat.le_refl _ | (simp; done) | (simp; omega))) | ((with_reducible refine Below.setRow ?_ ?_ _); rotate_left; focus (first | exact Nat.le_refl _ | (simp; done) | (simp; omega) | omega)) | (with_reducible refine Grew.drew ?_) | (with_reducible refine Below.trans ?_ (keeps_drewN _ _)) | (with_reducible refine Grew.trans ?_ (by assumption))))))) ?_; unfold PutPost; rw [hput.out]; rintro e w3 ⟨rfl, hb3⟩))
        go_ret
        refine ⟨rfl, ?_⟩
        (repeat (first | (with_reducible exact Below.refl _ _) | (with_reducible exact alloc_grew _ _) | (with_reducible assumption) | (with_reducible refine Grew.alloc ?_ _) | ((with_reducible refine Below.setCell ?_ ?_ _); rotate_left; focus (first | exact Nat.le_refl _ | (simp; done) | (simp; omega))) | ((with_reducible refine Below.setRow ?_ ?_ _); rotate_left; focus (first | exact Nat.le_refl _ | (simp; done) | (simp; omega) | omega)) | (with_reducible refine Grew.drew ?_) | (with_reducible refine Below.trans ?_ (keeps_drewN _ _)) | (with_reducible refine Grew.trans ?_ (by assumption))))
end Go.Proofs.YtfkhfofoginaiaaDoor

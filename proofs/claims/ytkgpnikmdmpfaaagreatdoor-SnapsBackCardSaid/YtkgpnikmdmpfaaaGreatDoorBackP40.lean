/-
  The chapter's cores, by the plain functions.
-/
import Derived.Test.YtkgpnikmdmpfaaaGreatDoorBackP19
import Derived.Test.YtkgpnikmdmpfaaaGreatDoorBackP37
import Derived.Test.YtkgpnikmdmpfaaaGreatDoorBackP39
import Derived.Test.YtkgpnikmdmpfaaaGreatDoorBackP1
import Derived.Test.YtkgpnikmdmpfaaaGreatDoorBackP25
set_option linter.unusedVariables false
set_option linter.unusedSimpArgs false
namespace Go.Proofs.YtkgpnikmdmpfaaaGreatDoor
open Go.RowKit

def orderA : Sp.Order := ⟨1, [97], [98], 2, 500⟩
theorem kept_put : putB Sp.noCore = ([0, 0, 0, 0, 0], 0) := by decide +kernel
theorem kept_o : orderB orderA = [1, 1, 97, 1, 98, 2, 244, 3] := by decide +kernel
theorem kept_nul : snapGet [0] = none := by
  have : (snapGet [0]).isNone = true := by decide +kernel
  simpa using this
theorem kept_one : (snapGet ([1] ++ textB (orderB orderA) ++ varB 1 ++ [0, 0, 0, 0])).isSome = true := by decide +kernel
theorem kept_two : (snapGet ([1] ++ textB (orderB orderA) ++ varB 524289 ++ [0, 0, 0, 0])).isSome = false := by decide +kernel
end Go.Proofs.YtkgpnikmdmpfaaaGreatDoor

/-
  snaps.Put of none; the chapter's cores; the law.
-/

set_option linter.unusedVariables false
set_option linter.unusedSimpArgs false
namespace Go.Proofs.YtkgpnikmdmpfaaaGreatDoor
open Go.RowKit Go.Maps

theorem coreCopy_none (w : World) : Calls Tryz.prog 35 #[.pointer none] w fun e w' => e = .returned (.pointer none) ∧ w = w' := by
  go_enter Tryz.func35, Tryz.ntmps35
  go_wp2_with (go_at_call 20; refine (coreNone_yes _).mono ?_; rintro e w1 ⟨rfl, rfl⟩)
  go_ret
  exact ⟨rfl, rfl⟩
theorem put_none (w : World) : Calls Tryz.prog 11 #[.pointer none] w fun e w' => e = .returned (.tuple #[.string (str []), .int .i64 1]) ∧ Below w.heap.size w w' := by
  go_enter Tryz.func11, Tryz.ntmps11
  go_wp2_with (go_at_call 35; refine (coreCopy_none _).mono ?_; rintro e w1 ⟨rfl, rfl⟩)
  refine bodyPost_ret (v := .tuple #[.string (str []), .int .i64 1]) ?_ rfl ⟨rfl, ?_⟩
  · simp [results, Tryz.results11, go_sem]
  · (repeat (first | (with_reducible first | exact zR _ _ | exact zA _ _ | assumption | refine zL ?_ _ | refine zD ?_ | refine zN ?_ _) | ((with_reducible first | refine zC ?_ ?_ _ | refine zW ?_ ?_ _); rotate_left; focus (first | exact Nat.le_refl _ | (simp; done) | (simp; omega) | omega)) | with_reducible refine zT ?_ (by assumption)))
theorem get_none (w : World) (s : Bytes) (hpar : Parties w) (hlen : s.length ≤ 900000) (h : snapGet s = none) : Calls Tryz.prog 13 #[.string (str s)] w fun e w' => e = .returned (.tuple #[.pointer none, .int .i64 10]) ∧ Below w.heap.size w w' :=
  (get_any w s hpar hlen).mono (fun e w' hg => by
    obtain ⟨h1, h2⟩ := hg
    refine ⟨?_, h1⟩
    rcases h2 with ⟨_, h3⟩ | ⟨C, _, _, _, _, _, _, _, _, _, _, _, h3, _⟩
    · exact h3
    · rw [h] at h3; cases h3)
def GotCore (w : World) (C : Sp.Core) (e : Ending) (w' : World) : Prop :=
  ∃ base pc vl pb vb P Q v0 v1 v2 m, e = .returned (.tuple #[.pointer (some ⟨pc, 0, none⟩), .int .i64 0]) ∧ CoreIs w' base pc vl pb vb P Q v0 v1 v2 m C ∧ Below w.heap.size w w'
theorem get_some (w : World) (s : Bytes) (C : Sp.Core) (hpar : Parties w) (hlen : s.length ≤ 900000) (h : snapGet s = some C) : Calls Tryz.prog 13 #[.string (str s)] w (GotCore w C) :=
  (get_any w s hpar hlen).mono (fun e w' hg => by
    obtain ⟨h1, h2⟩ := hg
    rcases h2 with ⟨h3, _⟩ | ⟨C', base, pc, vl, pb, vb, P, Q, v0, v1, v2, m, h3, h4, h5⟩
    · rw [h] at h3; cases h3
    · rw [h] at h3; cases h3; exact ⟨_, _, _, _, _, _, _, _, _, _, _, h4, h5, h1⟩)
theorem kept_text : textB (orderB orderA) = [8, 1, 1, 97, 1, 98, 2, 244, 3] := by decide +kernel
theorem kept_one' : (snapGet [1, 8, 1, 1, 97, 1, 98, 2, 244, 3, 1, 0, 0, 0, 0]).isSome = true := by decide +kernel
theorem kept_two' : snapGet [1, 8, 1, 1, 97, 1, 98, 2, 244, 3, 129, 128, 32, 0, 0, 0, 0] = none := by
  have : (snapGet [1, 8, 1, 1, 97, 1, 98, 2, 244, 3, 129, 128, 32, 0, 0, 0, 0]).isNone = true := by decide +kernel
  simpa using this
theorem kept_v1 : varB 1 = [1] := by decide +kernel
theorem kept_v2 : varB 524289 = [129, 128, 32] := by decide +kernel
set_option maxRecDepth 100000 in
set_option maxHeartbeats 8000000 in
theorem kept_any (w : World) (hpar : Parties w) : Calls Tryz.prog 6 #[] w fun e w' => e = .returned (.bool true) ∧ Below w.heap.size w w' := by
  have hpar2 := Lib.hid (fun W (h : Below w.heap.size w W) => hpar.grew h)
  obtain ⟨C1, hC1⟩ := Option.isSome_iff_exists.1 kept_one'
  replace hC1 := Lib.hid hC1
  clear hpar
  go_enter Tryz.func6, Tryz.ntmps6
  go_wp2_with fail
  refine Calls.mono (coreNew_any _) ?_
  rintro e w1 ⟨pc, pb, P, Q, rfl, hC, hb1⟩
  go_wp2_with fail
  refine Calls.mono (put_any _ _ _ _ _ _ _ _ _ _ _ _ _ hC (hpar2.out _ (by (repeat (first | (with_reducible first | exact zR _ _ | exact zA _ _ | assumption | refine zL ?_ _ | refine zD ?_ | refine zN ?_ _) | ((with_reducible first | refine zC ?_ ?_ _ | refine zW ?_ ?_ _); rotate_left; focus (first | exact Nat.le_refl _ | (simp; done) | (simp; omega) | omega)) | with_reducible refine zT ?_ (by assumption)))))) ?_
  unfold PutPost
  rw [kept_put]
  rintro e w2 ⟨rfl, hb2⟩
  clear hC
  simp only
  go_wp2_with fail
  refine Calls.mono (put_none _) ?_
  rintro e w3 ⟨rfl, hb3⟩
  go_wp2_with fail
  refine Calls.mono (get_some _ [] Sp.noCore (hpar2.out _ (by (repeat (first | (with_reducible first | exact zR _ _ | exact zA _ _ | assumption | refine zL ?_ _ | refine zD ?_ | refine zN ?_ _) | ((with_reducible first | refine zC ?_ ?_ _ | refine zW ?_ ?_ _); rotate_left; focus (first | exact Nat.le_refl _ | (simp; done) | (simp; omega) | omega)) | with_reducible refine zT ?_ (by assumption))))) (by simp) (by simp [snapGet])) ?_
  rintro e w4 ⟨base, pcg, vl, pbg, vb, Pg, Qg, v0, v1, v2, m, rfl, hC, hb4⟩
  replace hC := Lib.hid hC
  go_wp2_with fail
  refine Calls.mono (get_none _ [0] (hpar2.out _ (by (repeat (first | (with_reducible first | exact zR _ _ | exact zA _ _ | assumption | refine zL ?_ _ | refine zD ?_ | refine zN ?_ _) | ((with_reducible first | refine zC ?_ ?_ _ | refine zW ?_ ?_ _); rotate_left; focus (first | exact Nat.le_refl _ | (simp; done) | (simp; omega) | omega)) | with_reducible refine zT ?_ (by assumption))))) (by simp) kept_nul) ?_
  rintro e w5 ⟨rfl, hb5⟩
  go_wp2_with fail
  refine Calls.mono (orderPut_any orderA _ (by decide) (by decide)) ?_
  rintro e w6 ⟨rfl, hb6⟩
  go_wp2_with fail
  refine Calls.mono (Text_any _ _ (by rw [kept_o]; decide)) ?_
  rw [kept_text]
  rintro e w7 ⟨rfl, hb7⟩
  go_wp2_with fail
  refine Calls.mono (Var_any 1 _ (by omega) (by omega)) ?_
  rw [show (1 : Int).toNat = 1 from rfl, kept_v1]
  rintro e w8 ⟨rfl, hb8⟩
  go_wp2_with fail
  rw [show ({ data := #[1] } ++ str [8, 1, 1, 97, 1, 98, 2, 244, 3] ++ str [1] ++ { data := #[0, 0, 0, 0] } : ByteArray) = str [1, 8, 1, 1, 97, 1, 98, 2, 244, 3, 1, 0, 0, 0, 0] from by
    rw [show ({ data := #[1] } : ByteArray) = str [1] from rfl, show ({ data := #[0, 0, 0, 0] } : ByteArray) = str [0, 0, 0, 0] from rfl]; simp]
  refine Calls.mono (get_some _ _ C1 (hpar2.out _ (by (repeat (first | (with_reducible first | exact zR _ _ | exact zA _ _ | assumption | refine zL ?_ _ | refine zD ?_ | refine zN ?_ _) | ((with_reducible first | refine zC ?_ ?_ _ | refine zW ?_ ?_ _); rotate_left; focus (first | exact Nat.le_refl _ | (simp; done) | (simp; omega) | omega)) | with_reducible refine zT ?_ (by assumption))))) (by simp) hC1.out) ?_
  rintro e w9 ⟨_, pcx, _, _, _, _, _, _, _, _, _, rfl, _, hb9⟩
  go_wp2_with fail
  refine Calls.mono (Var_any 524289 _ (by omega) (by omega)) ?_
  rw [show (524289 : Int).toNat = 524289 from rfl, kept_v2]
  rintro e w10 ⟨rfl, hb10⟩
  go_wp2_with fail
  rw [show ({ data := #[1] } ++ str [8, 1, 1, 97, 1, 98, 2, 244, 3] ++ str [129, 128, 32] ++ { data := #[0, 0, 0, 0] } : ByteArray) = str [1, 8, 1, 1, 97, 1, 98, 2, 244, 3, 129, 128, 32, 0, 0, 0, 0] from by
    rw [show ({ data := #[1] } : ByteArray) = str [1] from rfl, show ({ data := #[0, 0, 0, 0] } : ByteArray) = str [0, 0, 0, 0] from rfl]; simp]
  refine Calls.mono (get_none _ _ (hpar2.out _ (by (repeat (first | (with_reducible first | exact zR _ _ | exact zA _ _ | assumption | refine zL ?_ _ | refine zD ?_ | refine zN ?_ _) | ((with_reducible first | refine zC ?_ ?_ _ | refine zW ?_ ?_ _); rotate_left; focus (first | exact Nat.le_refl _ | (simp; done) | (simp; omega) | omega)) | with_reducible refine zT ?_ (by assumption))))) (by simp) kept_two') ?_
  rintro e w11 ⟨rfl, hb11⟩
  go_wp2_with fail
  refine Calls.mono (coreNew_any _) ?_
  rintro e w12 ⟨pcn, pbn, Pn, Qn, rfl, hCn, hb12⟩
  go_wp2_with fail
  refine Calls.mono (coreSame_yes _ _ _ _ _ _ _ _ _ _ _ _ _ _ _ _ _ _ _ _ _ _ _ Sp.noCore Sp.noCore (hC.out.below (by (repeat (first | (with_reducible first | exact zR _ _ | exact zA _ _ | assumption | refine zL ?_ _ | refine zD ?_ | refine zN ?_ _) | ((with_reducible first | refine zC ?_ ?_ _ | refine zW ?_ ?_ _); rotate_left; focus (first | exact Nat.le_refl _ | (simp; done) | (simp; omega) | omega)) | with_reducible refine zT ?_ (by assumption))))) hCn ⟨rfl, rfl, rfl, rfl, rfl⟩) ?_
  rintro e w13 ⟨rfl, hb13⟩
  go_wp2
  go_ret
  refine ⟨rfl, ?_⟩
  (repeat (first | (with_reducible first | exact zR _ _ | exact zA _ _ | assumption | refine zL ?_ _ | refine zD ?_ | refine zN ?_ _) | ((with_reducible first | refine zC ?_ ?_ _ | refine zW ?_ ?_ _); rotate_left; focus (first | exact Nat.le_refl _ | (simp; done) | (simp; omega) | omega)) | with_reducible refine zT ?_ (by assumption)))
end Go.Proofs.YtkgpnikmdmpfaaaGreatDoor

/-
  What is written as a number, or a text, is read as it; what is read is read with whatever stands behind.
-/

set_option linter.unusedVariables false
set_option linter.unusedSimpArgs false
namespace Go.Proofs.YtkgpnikmdmpfaaaGreatDoor
open Go.RowKit

/-! ### or, and: digits -/
theorem nat_or_add (a b i : Nat) (h : a < 2 ^ i) : a ||| (b * 2 ^ i) = a + b * 2 ^ i := by
  have := Nat.two_pow_add_eq_or_of_lt h b
  rw [Nat.mul_comm] at this
  rw [Nat.or_comm, ← this]
  omega
theorem or_u64_add (a b i : Nat) (h : a < 2 ^ i) (hb : a + b * 2 ^ i < 18446744073709551616) : bits .or .u64 (a : Int) ((b * 2 ^ i : Nat) : Int) = ((a + b * 2 ^ i : Nat) : Int) := by
  rw [bits_or_u64_nat a (b * 2 ^ i) (by omega) (by omega), nat_or_add a b i h]
theorem and_u8_127 : ∀ c : Nat, c < 256 → bits .and .u8 (c : Int) 127 = ((c % 128 : Nat) : Int) := by decide +kernel
theorem pow128 (k : Nat) : 2 ^ (7 * k) = 128 ^ k := by rw [Nat.pow_mul]
/-- One step of a number's reading, in plain numbers. -/
theorem readStep_eq (a c k : Nat) (hc : c < 256) (ha : a < 128 ^ k) (hb : a + c % 128 * 128 ^ k < 18446744073709551616) : readStep (a : Int) (c : Int) k = ((a + c % 128 * 128 ^ k : Nat) : Int) := by
  unfold readStep
  rw [and_u8_127 c hc]
  have h1 : IntKind.u64.wrap ((c % 128 : Nat) : Int) = ((c % 128 : Nat) : Int) := by rw [IntKind.wrap_u64]; omega
  rw [h1]
  have h2 : ((c % 128 : Nat) : Int) * 2 ^ (7 * k) = ((c % 128 * 2 ^ (7 * k) : Nat) : Int) := by push_cast; try rfl
  rw [h2]
  have h3 : IntKind.u64.wrap ((c % 128 * 2 ^ (7 * k) : Nat) : Int) = ((c % 128 * 2 ^ (7 * k) : Nat) : Int) := by
    rw [IntKind.wrap_u64, pow128]; omega
  rw [h3, or_u64_add _ _ _ (by rw [pow128]; exact ha) (by rw [pow128]; exact hb), pow128]
theorem small_k {n k : Nat} (hn : 1 ≤ n) (h : n * 128 ^ k < 18446744073709551616) : k ≤ 9 := by
  rcases Nat.lt_or_ge k 10 with h1 | h1
  · omega
  · exfalso
    have h2 : 128 ^ 10 ≤ 128 ^ k := Nat.pow_le_pow_right (by omega) h1
    have h3 : (128 : Nat) ^ 10 = 1180591620717411303424 := by decide
    have h4 : 1 * 128 ^ k ≤ n * 128 ^ k := Nat.mul_le_mul_right _ hn
    omega
theorem readAt_var : ∀ (m n k a : Nat) (p t : Bytes), n ≤ m → p.length = k → a < 128 ^ k → a + n * 128 ^ k < 18446744073709551616 → (k = 0 ∨ 1 ≤ n) → k ≤ 9 →
    readAt (p ++ varB n ++ t) (10 - k) k (a : Int) = some (((a + n * 128 ^ k : Nat) : Int), t)
  | 0, n, k, a, p, t, hm, hp, ha, hb, h0, hk => by
    obtain rfl : n = 0 := by omega
    obtain rfl : k = 0 := by omega
    obtain rfl := List.eq_nil_of_length_eq_zero hp
    obtain rfl : a = 0 := by simpa using ha
    rw [varB_small (by omega)]
    simp only [Nat.sub_zero, List.nil_append, List.singleton_append]
    rw [readAt]
    simp only [List.getElem?_cons_zero]
    rw [if_neg (by decide), if_neg (by decide)]
    have := readStep_eq 0 (UInt8.ofNat 0).toNat 0 (by decide) (by decide) (by decide)
    simp at this ⊢
    exact this
  | m + 1, n, k, a, p, t, hm, hp, ha, hb, h0, hk => by
    by_cases hn : n < 128
    · rw [varB_small hn, show 10 - k = (9 - k) + 1 by omega, readAt]
      have hat : (p ++ [UInt8.ofNat n] ++ t)[k]? = some (UInt8.ofNat n) := by
        rw [List.append_assoc, List.getElem?_append_right (by omega), hp]; simp
      have hto : (UInt8.ofNat n).toNat = n := by simp [UInt8.toNat_ofNat']; omega
      rw [hat]
      simp only [hto]
      have h9 : ¬ (k = 9 ∧ 1 < n) := by
        rintro ⟨rfl, h⟩
        have h3 : (128 : Nat) ^ 9 = 9223372036854775808 := by decide
        rw [h3] at hb; omega
      rw [if_neg (by omega), if_neg (by omega), readStep_eq a n k (by omega) ha (by rw [Nat.mod_eq_of_lt hn]; exact hb), Nat.mod_eq_of_lt hn]
      congr 2
      rw [List.append_assoc, List.drop_append, List.drop_eq_nil_of_le (by omega), hp, show k + 1 - k = 1 by omega]
      simp
    · have hb2 : a + n % 128 * 128 ^ k + n / 128 * 128 ^ (k + 1) = a + n * 128 ^ k := by
        have e : n / 128 * 128 ^ (k + 1) = (128 * (n / 128)) * 128 ^ k := by rw [Nat.pow_succ]; rw [Nat.mul_comm (128 ^ k) 128, ← Nat.mul_assoc, Nat.mul_comm (n / 128) 128]
        rw [e, Nat.add_assoc, ← Nat.add_mul, Nat.mod_add_div]
      have hk9 : k + 1 ≤ 9 := by
        refine small_k (n := n / 128) (by omega) ?_
        omega
      have hpow : (128 : Nat) ^ (k + 1) = 128 * 128 ^ k := by rw [Nat.pow_succ, Nat.mul_comm]
      have hat : (p ++ (UInt8.ofNat (n % 128 + 128) :: varB (n / 128)) ++ t)[k]? = some (UInt8.ofNat (n % 128 + 128)) := by
        rw [List.append_assoc, List.getElem?_append_right (by omega), hp]; simp
      have hto : (UInt8.ofNat (n % 128 + 128)).toNat = n % 128 + 128 := by simp [UInt8.toNat_ofNat']; omega
      have hmd : (n % 128 + 128) % 128 = n % 128 := by omega
      have hlt : n % 128 * 128 ^ k ≤ n * 128 ^ k := Nat.mul_le_mul_right _ (Nat.mod_le _ _)
      have hlt2 : n % 128 * 128 ^ k ≤ 127 * 128 ^ k := Nat.mul_le_mul_right _ (by omega)
      rw [varB_great (by omega), show 10 - k = (9 - k) + 1 by omega, readAt, hat]
      simp only [hto]
      rw [if_pos (by omega), readStep_eq a (n % 128 + 128) k (by omega) ha (by rw [hmd]; omega), hmd]
      have ih := readAt_var m (n / 128) (k + 1) (a + n % 128 * 128 ^ k) (p ++ [UInt8.ofNat (n % 128 + 128)]) t (by omega) (by simp [hp]) (by rw [hpow]; omega) (by rw [hb2]; exact hb) (.inr (by omega)) hk9
      rw [hb2, show 10 - (k + 1) = 9 - k by omega] at ih
      rw [← ih]
      simp
/-- A number that is written is read. -/
theorem readB_var (n : Nat) (t : Bytes) (h : n < 18446744073709551616) : readB (varB n ++ t) = some ((n : Int), t) := by
  have := readAt_var n n 0 0 [] t (Nat.le_refl _) rfl (by decide) (by simpa using h) (.inl rfl) (by omega)
  simpa [readB] using this
/-- A text that is written is read. -/
theorem cutB_text (s t : Bytes) (h : s.length < 18446744073709551616) : cutB (textB s ++ t) = some (s, t) := by
  unfold cutB textB
  rw [List.append_assoc, readB_var _ _ h]
  simp
theorem rdNum_var (n : Nat) (t : Bytes) (ok : Bool) (h : n < 18446744073709551616) : rdNum (varB n ++ t) ok = ((n : Int), t, ok) := by unfold rdNum; rw [readB_var n t h]
theorem rdText_text (s t : Bytes) (ok : Bool) (h : s.length < 18446744073709551616) : rdText (textB s ++ t) ok = (s, t, ok) := by unfold rdText; rw [cutB_text s t h]
theorem rdMost_var (most : Int) (n : Nat) (t : Bytes) (h : n < 18446744073709551616) (hm : (n : Int) ≤ most) : rdMost most (varB n ++ t) true = ((n : Int), t, true) := by
  unfold rdMost; rw [readB_var n t h]; simp [hm]

/-! ### what stands behind -/
theorem readAt_more (s t : Bytes) : ∀ (f k : Nat) (a n : Int) (r : Bytes), readAt s f k a = some (n, r) → readAt (s ++ t) f k a = some (n, r ++ t)
  | 0, _, _, _, _, h => by simp [readAt] at h
  | f + 1, k, a, n, r, h => by
    rw [readAt] at h ⊢
    cases hc : s[k]? with
    | none => rw [hc] at h; cases h
    | some c =>
      have hl := (List.getElem?_eq_some_iff.1 hc).1
      rw [List.getElem?_append_left hl, hc]
      rw [hc] at h
      simp only at h ⊢
      split at h
      · rename_i h1; rw [if_pos h1]; exact readAt_more s t f _ _ n r h
      · rename_i h1
        rw [if_neg h1]
        split at h
        · cases h
        · rename_i h2
          rw [if_neg h2]
          cases h
          rw [List.drop_append_of_le_length (by omega)]
theorem readB_more {s r : Bytes} {n : Int} (t : Bytes) (h : readB s = some (n, r)) : readB (s ++ t) = some (n, r ++ t) := readAt_more s t _ _ _ n r h
theorem cutB_more {s a r : Bytes} (t : Bytes) (h : cutB s = some (a, r)) : cutB (s ++ t) = some (a, r ++ t) := by
  unfold cutB at h ⊢
  cases hr : readB s with
  | none => rw [hr] at h; cases h
  | some q =>
    obtain ⟨n, u⟩ := q
    rw [hr] at h
    rw [readB_more t hr]
    simp only at h ⊢
    split at h
    · rename_i hl
      cases h
      rw [if_pos (by simp; omega), List.take_append_of_le_length hl, List.drop_append_of_le_length hl]
    · cases h
theorem rdNum_more {s r : Bytes} {n : Int} {ok : Bool} (t : Bytes) (h : rdNum s ok = (n, r, true)) : rdNum (s ++ t) ok = (n, r ++ t, true) := by
  unfold rdNum at h ⊢
  cases hr : readB s with
  | none => rw [hr] at h; simp at h
  | some q =>
    obtain ⟨m, u⟩ := q
    rw [hr] at h
    rw [readB_more t hr]
    simp only [Prod.mk.injEq] at h ⊢
    obtain ⟨rfl, rfl, rfl⟩ := h
    exact ⟨rfl, rfl, rfl⟩
theorem rdText_more {s a r : Bytes} {ok : Bool} (t : Bytes) (h : rdText s ok = (a, r, true)) : rdText (s ++ t) ok = (a, r ++ t, true) := by
  unfold rdText at h ⊢
  cases hr : cutB s with
  | none => rw [hr] at h; simp at h
  | some q =>
    obtain ⟨m, u⟩ := q
    rw [hr] at h
    rw [cutB_more t hr]
    simp only [Prod.mk.injEq] at h ⊢
    obtain ⟨rfl, rfl, rfl⟩ := h
    exact ⟨rfl, rfl, rfl⟩
end Go.Proofs.YtkgpnikmdmpfaaaGreatDoor

/-
  What is put of orders, sagas, postings and statements is got.
-/

set_option linter.unusedVariables false
set_option linter.unusedSimpArgs false
namespace Go.Proofs.YtkgpnikmdmpfaaaGreatDoor
open Go.RowKit

/-! ### deeds -/
structure DeedIn (s : Sp.Saga) : Prop where
  d0 : 0 ≤ s.d0 ∧ s.d0 ≤ 7
  d1 : 0 ≤ s.d1 ∧ s.d1 ≤ 7
  d2 : 0 ≤ s.d2 ∧ s.d2 ≤ 7
  d3 : 0 ≤ s.d3 ∧ s.d3 ≤ 7
  d4 : 0 ≤ s.d4 ∧ s.d4 ≤ 7
  d5 : 0 ≤ s.d5 ∧ s.d5 ≤ 7
theorem orShl_eq (n d k : Nat) (hn : n < 2 ^ k) (hd : d ≤ 7) (hk : k ≤ 18) : orShl (n : Int) (d : Int) k = ((n + d * 2 ^ k : Nat) : Int) := by
  have h1 : (2 : Nat) ^ k ≤ 2 ^ 18 := Nat.pow_le_pow_right (by omega) hk
  have h2 : (2 : Nat) ^ 18 = 262144 := by decide
  have h3 : d * 2 ^ k ≤ 7 * 262144 := Nat.mul_le_mul hd (by omega)
  unfold orShl
  have e1 : IntKind.u64.wrap (d : Int) = (d : Int) := by rw [IntKind.wrap_u64]; omega
  have e2 : (d : Int) * 2 ^ k = ((d * 2 ^ k : Nat) : Int) := by push_cast; try rfl
  have e3 : IntKind.u64.wrap ((d * 2 ^ k : Nat) : Int) = ((d * 2 ^ k : Nat) : Int) := by rw [IntKind.wrap_u64]; omega
  rw [e1, e2, e3, or_u64_add n d k hn (by omega)]
def deedsNat (a b c d e f g : Nat) : Nat := a + b * 8 + c * 64 + d * 512 + e * 4096 + f * 32768 + g * 262144
theorem deedsN_eq {s : Sp.Saga} (h : DeedIn s) : deedsN s = (deedsNat s.d0.toNat s.d1.toNat s.d2.toNat s.d3.toNat s.d4.toNat s.d5.toNat (if s.cancel then 1 else 0) : Nat) := by
  obtain ⟨o, d0, d1, d2, d3, d4, d5, cancel⟩ := s
  obtain ⟨h0, h1, h2, h3, h4, h5⟩ := h
  simp only at h0 h1 h2 h3 h4 h5
  obtain ⟨a, rfl⟩ := Int.eq_ofNat_of_zero_le h0.1
  obtain ⟨b, rfl⟩ := Int.eq_ofNat_of_zero_le h1.1
  obtain ⟨c, rfl⟩ := Int.eq_ofNat_of_zero_le h2.1
  obtain ⟨d, rfl⟩ := Int.eq_ofNat_of_zero_le h3.1
  obtain ⟨e, rfl⟩ := Int.eq_ofNat_of_zero_le h4.1
  obtain ⟨f, rfl⟩ := Int.eq_ofNat_of_zero_le h5.1
  simp only [Int.toNat_natCast]
  unfold deedsN
  have e0 := orShl_eq 0 a 0 (by omega) (by omega) (by omega)
  have e1 := orShl_eq (0 + a * 2 ^ 0) b 3 (by omega) (by omega) (by omega)
  have e2 := orShl_eq (0 + a * 2 ^ 0 + b * 2 ^ 3) c 6 (by omega) (by omega) (by omega)
  have e3 := orShl_eq (0 + a * 2 ^ 0 + b * 2 ^ 3 + c * 2 ^ 6) d 9 (by omega) (by omega) (by omega)
  have e4 := orShl_eq (0 + a * 2 ^ 0 + b * 2 ^ 3 + c * 2 ^ 6 + d * 2 ^ 9) e 12 (by omega) (by omega) (by omega)
  have e5 := orShl_eq (0 + a * 2 ^ 0 + b * 2 ^ 3 + c * 2 ^ 6 + d * 2 ^ 9 + e * 2 ^ 12) f 15 (by omega) (by omega) (by omega)
  simp only at e0 ⊢
  rw [show ((0 : Nat) : Int) = 0 from rfl] at e0
  rw [e0, e1, e2, e3, e4, e5]
  cases cancel
  · simp only [Bool.false_eq_true, if_false]
    unfold deedsNat
    congr 1
    omega
  · simp only [if_true]
    have := or_u64_add (0 + a * 2 ^ 0 + b * 2 ^ 3 + c * 2 ^ 6 + d * 2 ^ 9 + e * 2 ^ 12 + f * 2 ^ 15) 1 18 (by omega) (by omega)
    rw [show ((1 * 2 ^ 18 : Nat) : Int) = 262144 from rfl] at this
    rw [this]
    unfold deedsNat
    congr 1
    omega
theorem and_u64_7 (a : Nat) (ha : a < 18446744073709551616) : bits .and .u64 (a : Int) 7 = ((a % 8 : Nat) : Int) := by
  have h := bits_and_u64_nat a 7 ha (by omega)
  rw [show (7 : Nat) = 2 ^ 3 - 1 from rfl, Nat.and_two_pow_sub_one_eq_mod] at h
  exact h
theorem deedOf_eq (a : Nat) (ha : a < 18446744073709551616) : deedOf (a : Int) = ((a % 8 : Nat) : Int) := by
  unfold deedOf
  rw [and_u64_7 a ha]
  unfold wrap64
  omega
theorem undeeds_deeds {s : Sp.Saga} (h : DeedIn s) : undeeds s.o (deedsN s) = s := by
  rw [deedsN_eq h]
  obtain ⟨o, d0, d1, d2, d3, d4, d5, cancel⟩ := s
  obtain ⟨h0, h1, h2, h3, h4, h5⟩ := h
  simp only at h0 h1 h2 h3 h4 h5
  obtain ⟨a, rfl⟩ := Int.eq_ofNat_of_zero_le h0.1
  obtain ⟨b, rfl⟩ := Int.eq_ofNat_of_zero_le h1.1
  obtain ⟨c, rfl⟩ := Int.eq_ofNat_of_zero_le h2.1
  obtain ⟨d, rfl⟩ := Int.eq_ofNat_of_zero_le h3.1
  obtain ⟨e, rfl⟩ := Int.eq_ofNat_of_zero_le h4.1
  obtain ⟨f, rfl⟩ := Int.eq_ofNat_of_zero_le h5.1
  simp only [Int.toNat_natCast]
  have hg : (if cancel = true then 1 else 0) ≤ 1 := by split <;> omega
  have hgc : (if cancel = true then 1 else 0 : Nat) = 1 ↔ cancel = true := by cases cancel <;> simp
  generalize hge : (if cancel = true then 1 else 0 : Nat) = g at hg hgc
  have hN : deedsNat a b c d e f g < 18446744073709551616 := by unfold deedsNat; omega
  have dv : ∀ k : Nat, ((deedsNat a b c d e f g : Nat) : Int) / (k : Int) = ((deedsNat a b c d e f g / k : Nat) : Int) := fun k => by simp
  have q1 := dv 8
  have q2 := dv 64
  have q3 := dv 512
  have q4 := dv 4096
  have q5 := dv 32768
  have q6 := dv 262144
  unfold undeeds
  rw [show ((8 : Nat) : Int) = 8 from rfl] at q1
  rw [show ((64 : Nat) : Int) = 64 from rfl] at q2
  rw [show ((512 : Nat) : Int) = 512 from rfl] at q3
  rw [show ((4096 : Nat) : Int) = 4096 from rfl] at q4
  rw [show ((32768 : Nat) : Int) = 32768 from rfl] at q5
  rw [show ((262144 : Nat) : Int) = 262144 from rfl] at q6
  rw [q1, q2, q3, q4, q5, q6, deedOf_eq _ hN, deedOf_eq _ (by omega), deedOf_eq _ (by omega), deedOf_eq _ (by omega), deedOf_eq _ (by omega), deedOf_eq _ (by omega), and_u64_1 _ (by omega)]
  have hc : (((deedsNat a b c d e f g / 262144 % 2 : Nat) : Int) == 1) = cancel := by
    have : deedsNat a b c d e f g / 262144 % 2 = g := by unfold deedsNat; omega
    rw [this, Bool.eq_iff_iff, beq_iff_eq, ← hgc]
    omega
  rw [hc]
  simp only [Sp.Saga.mk.injEq, and_true, true_and]
  unfold deedsNat
  refine ⟨?_, ?_, ?_, ?_, ?_, ?_⟩ <;> congr 1 <;> omega

/-! ### orders -/
theorem orderCheck_in {o : Sp.Order} (h : Sp.orderCheck o = 0) : 1 ≤ o.id ∧ o.id ≤ 60 ∧ 1 ≤ o.qty ∧ o.qty ≤ 999 ∧ 1 ≤ o.amount ∧ o.amount ≤ 1099511627776 := by
  unfold Sp.orderCheck at h
  split at h
  · simp at h
  · omega
theorem u64_of {n : Int} (h0 : 0 ≤ n) (h1 : n < 18446744073709551616) : u64 n = n.toNat := by unfold u64; omega
theorem orderGet_put {o : Sp.Order} (h : Sp.orderCheck o = 0) : orderGet (orderB o) = some o := by
  have hi := orderCheck_in h
  have hl := order_len h
  have h1 := u64_of (n := o.id) (by omega) (by omega)
  have h2 := u64_of (n := o.qty) (by omega) (by omega)
  have h3 := u64_of (n := o.amount) (by omega) (by omega)
  have hr : ordRead (orderB o) = (o, [], true) := by
    unfold orderB
    rw [if_pos h, h1, h2, h3]
    unfold ordRead
    simp only [List.append_assoc]
    rw [rdMost_var 60 _ _ (by omega) (by omega)]
    simp only
    rw [rdText_text _ _ _ (by omega)]
    simp only
    rw [rdText_text _ _ _ (by omega)]
    simp only
    rw [rdMost_var 999 _ _ (by omega) (by omega)]
    simp only
    have := rdMost_var 1099511627776 o.amount.toNat [] (by omega) (by omega)
    rw [List.append_nil] at this
    rw [this]
    simp only
    rw [Int.toNat_of_nonneg (by omega), Int.toNat_of_nonneg (by omega), Int.toNat_of_nonneg (by omega)]
  unfold orderGet ordGood
  rw [hr]
  simp [h]

/-! ### postings -/
theorem backN_signN {n : Int} (h : Sp.in64 n = true) : backN (signN n) = n ∧ 0 ≤ signN n ∧ signN n < 18446744073709551616 := by
  simp only [Sp.in64, Bool.and_eq_true, decide_eq_true_eq] at h
  have hs : (n < 0 ∧ signN n = (-1 - n) * 2 + 1) ∨ (0 ≤ n ∧ signN n = n * 2) := by
    unfold signN
    by_cases hn : n < 0
    · rw [if_pos hn]; exact .inl ⟨hn, rfl⟩
    · rw [if_neg hn]; exact .inr ⟨by omega, rfl⟩
  unfold backN
  rcases hs with ⟨h1, h2⟩ | ⟨h1, h2⟩
  · rw [h2, if_pos (by omega)]; omega
  · rw [h2, if_neg (by omega)]; omega
theorem wrap64_u64 {n : Int} (h : Sp.in64 n = true) : wrap64 ((u64 n : Nat) : Int) = n := by
  simp only [Sp.in64, Bool.and_eq_true, decide_eq_true_eq] at h
  unfold wrap64 u64
  omega
theorem u64_lt (n : Int) : u64 n < 18446744073709551616 := by unfold u64; omega
theorem rdPost_put {p : Sp.Posting} (h : PostIn p) (t : Bytes) : rdPost (textB (postB p) ++ t) true = (p, t, true) := by
  have hl := postB_len h
  obtain ⟨b1, b2, b3⟩ := backN_signN h.amount
  have hid := h.id
  unfold rdPost
  rw [rdText_text _ _ _ (by omega)]
  simp only
  unfold postB
  simp only [List.append_assoc]
  rw [rdText_text _ _ _ (by omega)]
  simp only
  rw [rdNum_var _ _ _ (u64_lt _)]
  simp only
  rw [rdNum_var _ _ _ (u64_lt _)]
  simp only
  rw [rdNum_var _ _ _ (u64_lt _)]
  simp only
  have := rdNum_var (signN p.amount).toNat [] true (by omega)
  rw [List.append_nil] at this
  rw [this]
  simp only
  rw [wrap64_u64 h.order, wrap64_u64 h.debit, wrap64_u64 h.credit, Int.toNat_of_nonneg b2, b1]
  rfl

/-! ### statements -/
theorem rdN_var (n : Nat) (t : Bytes) (h : n < 18446744073709551616) (hm : (n : Int) ≤ 1099511627776) : rdN (varB n ++ t) true = ((n : Int), t, true) := rdMost_var _ n t h hm
theorem rdRow_put {r : Sp.Row} {p : Int} (h : Sp.rowOk r p = true) (t : Bytes) : rdRow (flatVar (rowInts r) ++ t) true = (r, t, true) := by
  have hb : (0 ≤ r.order ∧ r.order ≤ 60) ∧ (0 ≤ r.deed ∧ r.deed ≤ 6) ∧ (0 ≤ r.code ∧ r.code ≤ 2) ∧ (0 ≤ r.amount ∧ r.amount ≤ 1099511627776) ∧ 0 ≤ r.qty ∧ r.qty ≤ 999 := by
    simp only [Sp.rowOk, Sp.keyOk, Sp.isDeed, Bool.and_eq_true, decide_eq_true_eq, Bool.or_eq_true] at h
    obtain ⟨⟨⟨⟨⟨h1, h2⟩, h3, h4⟩, _⟩, h6⟩, h5⟩ := h
    have h7 : (0 ≤ r.amount ∧ r.amount ≤ 1099511627776) ∧ 0 ≤ r.qty ∧ r.qty ≤ 999 := by
      split at h5
      · simp only [Bool.and_eq_true, decide_eq_true_eq] at h5; omega
      · split at h5
        · simp only [Bool.and_eq_true, decide_eq_true_eq] at h5; omega
        · simp only [Bool.and_eq_true, decide_eq_true_eq] at h5; omega
    omega
  obtain ⟨o, d, c, a, q⟩ := r
  simp only at hb
  unfold rdRow rowInts flatVar
  simp only [List.flatMap_cons, List.flatMap_nil, List.append_nil, List.append_assoc]
  rw [u64_of (n := o) (by omega) (by omega), u64_of (n := d) (by omega) (by omega), u64_of (n := c) (by omega) (by omega), u64_of (n := a) (by omega) (by omega), u64_of (n := q) (by omega) (by omega)]
  rw [rdN_var _ _ (by omega) (by omega)]
  simp only
  rw [rdN_var _ _ (by omega) (by omega)]
  simp only
  rw [rdN_var _ _ (by omega) (by omega)]
  simp only
  rw [rdN_var _ _ (by omega) (by omega)]
  simp only
  rw [rdN_var _ _ (by omega) (by omega)]
  simp only
  rw [Int.toNat_of_nonneg (by omega), Int.toNat_of_nonneg (by omega), Int.toNat_of_nonneg (by omega), Int.toNat_of_nonneg (by omega), Int.toNat_of_nonneg (by omega)]
theorem rdRows_put {p : Int} : ∀ (l : List Sp.Row) (f : Nat) (n : Int) (acc : List Sp.Row) (t : Bytes), (∀ r ∈ l, Sp.rowOk r p = true) → l.length < f → n = l.length → acc.length + l.length ≤ 400 →
    rdRows f n (rowsB l ++ t) true acc = (acc ++ l, t, true)
  | [], f, n, acc, t, _, hf, hn, _ => by
    have : rdRows f n (rowsB [] ++ t) true acc = (acc, rowsB [] ++ t, true) := by
      obtain ⟨g, rfl⟩ : ∃ g, f = g + 1 := ⟨f - 1, by simp at hf; omega⟩
      rw [rdRows, if_neg (by simp at hn; omega)]
    rw [this]
    simp [rowsB]
  | r :: l, f, n, acc, t, hr, hf, hn, ha => by
    obtain ⟨g, rfl⟩ : ∃ g, f = g + 1 := ⟨f - 1, by simp at hf; omega⟩
    simp only [List.length_cons] at hn hf ha
    have hc : rowsB (r :: l) ++ t = flatVar (rowInts r) ++ (rowsB l ++ t) := by simp [rowsB]
    rw [rdRows, if_pos ⟨by omega, rfl, by omega⟩, hc, rdRow_put (hr r (by simp)) _]
    simp only
    rw [rdRows_put l g (n - 1) (acc ++ [r]) t (fun x hx => hr x (by simp [hx])) (by omega) (by omega) (by simp; omega)]
    simp
theorem stmtGet_put {party seq : Int} {l : List Sp.Row} (h : stmtOk party seq l = true) : stmtGet (stmtB party seq l) = some (party, seq, l) := by
  have hp := stmtOk_party h
  have hl := stmtOk_len h
  have hs : 1 ≤ seq ∧ seq ≤ 1073741824 := by unfold stmtOk at h; simp at h; omega
  have hrd : stmtRead (stmtB party seq l) = (party, seq, l, [], true) := by
    unfold stmtB
    rw [if_pos h]
    unfold stmtRead flatVar
    simp only [List.flatMap_cons, List.flatMap_nil, List.append_nil, List.append_assoc]
    rw [u64_of (n := party) (by omega) (by omega), u64_of (n := seq) (by omega) (by omega), u64_of (n := (l.length : Int)) (by omega) (by omega)]
    rw [rdN_var _ _ (by omega) (by omega)]
    simp only
    rw [rdN_var _ _ (by omega) (by omega)]
    simp only
    rw [rdN_var _ _ (by omega) (by omega)]
    simp only
    have := rdRows_put l 402 ((l.length : Int).toNat : Int) [] [] (stmtOk_rows h) (by omega) (by simp) (by simp; omega)
    rw [List.append_nil] at this
    rw [this]
    simp only [List.nil_append]
    rw [Int.toNat_of_nonneg (by omega), Int.toNat_of_nonneg (by omega)]
  unfold stmtGet stmtGood
  rw [hrd]
  simp [h]
theorem stmtB_ne {party seq : Int} {l : List Sp.Row} (h : stmtOk party seq l = true) : (stmtB party seq l).isEmpty = false := by
  unfold stmtB
  rw [if_pos h]
  have := varB_pos (u64 party)
  unfold flatVar
  simp only [List.flatMap_cons]
  generalize varB (u64 party) = v at *
  cases v
  · simp at this
  · rfl
end Go.Proofs.YtkgpnikmdmpfaaaGreatDoor

/-
  What is put of a core is got; with bytes behind it, or cut off, it is none.
-/

set_option linter.unusedVariables false
set_option linter.unusedSimpArgs false
namespace Go.Proofs.YtkgpnikmdmpfaaaGreatDoor
open Go.RowKit

/-- A core whose parts may be. -/
structure FormOk (C : Sp.Core) : Prop where
  sagas : ∀ s ∈ C.l, Sp.orderCheck s.o = 0 ∧ DeedIn s
  many : C.l.length ≤ 60
  posts : ∀ p ∈ C.b.l, PostIn p
  few : C.b.l.length ≤ 1000000
  s0 : C.i.s0 = Sp.noStmt ∨ stmtOk C.i.s0.party C.i.s0.seq C.i.s0.rows = true
  s1 : C.i.s1 = Sp.noStmt ∨ stmtOk C.i.s1.party C.i.s1.seq C.i.s1.rows = true
  s2 : C.i.s2 = Sp.noStmt ∨ stmtOk C.i.s2.party C.i.s2.seq C.i.s2.rows = true
theorem deedsNat_lt {a b c d e f g : Nat} (h : a ≤ 7 ∧ b ≤ 7 ∧ c ≤ 7 ∧ d ≤ 7 ∧ e ≤ 7 ∧ f ≤ 7 ∧ g ≤ 1) : deedsNat a b c d e f g < 18446744073709551616 := by unfold deedsNat; omega
theorem rdSaga_put {s : Sp.Saga} (ho : Sp.orderCheck s.o = 0) (hd : DeedIn s) (t : Bytes) : rdText (sagaB s ++ t) true = (orderB s.o, varB (deedsN s).toNat ++ t, true) ∧ rdNum (varB (deedsN s).toNat ++ t) true = (deedsN s, t, true) := by
  have h1 := orderB_len ho
  have h2 := deedsN_range s
  unfold sagaB
  rw [List.append_assoc, rdText_text _ _ _ (by omega)]
  refine ⟨rfl, ?_⟩
  rw [rdNum_var _ _ _ (by omega), Int.toNat_of_nonneg h2.1]
theorem rdSagas_put : ∀ (l : List Sp.Saga) (f : Nat) (n : Int) (acc : List Sp.Saga) (t : Bytes), (∀ s ∈ l, Sp.orderCheck s.o = 0 ∧ DeedIn s) → l.length < f → n = l.length →
    rdSagas f n (l.flatMap sagaB ++ t) true acc = (acc ++ l, t, true)
  | [], f, n, acc, t, _, hf, hn => by
    obtain ⟨g, rfl⟩ : ∃ g, f = g + 1 := ⟨f - 1, by simp at hf; omega⟩
    rw [rdSagas, if_neg (by simp at hn; omega)]
    simp
  | s :: l, f, n, acc, t, hs, hf, hn => by
    obtain ⟨g, rfl⟩ : ∃ g, f = g + 1 := ⟨f - 1, by simp at hf; omega⟩
    simp only [List.length_cons] at hn hf
    obtain ⟨h1, h2⟩ := hs s (by simp)
    obtain ⟨r1, r2⟩ := rdSaga_put h1 h2 (l.flatMap sagaB ++ t)
    rw [rdSagas, if_pos ⟨rfl, by omega⟩, List.flatMap_cons, List.append_assoc]
    simp only [r1, r2]
    rw [orderGet_put h1]
    simp only [Option.isSome_some, Bool.and_true, Option.getD_some]
    rw [undeeds_deeds h2, rdSagas_put l g (n - 1) (acc ++ [s]) t (fun x hx => hs x (by simp [hx])) (by omega) (by omega)]
    simp
theorem rdPosts_put : ∀ (l : List Sp.Posting) (f : Nat) (n : Int) (acc : List Sp.Posting) (t : Bytes), (∀ p ∈ l, PostIn p) → l.length < f → n = l.length →
    rdPosts f n (l.flatMap (fun p => textB (postB p)) ++ t) true acc = (acc ++ l, t, true)
  | [], f, n, acc, t, _, hf, hn => by
    obtain ⟨g, rfl⟩ : ∃ g, f = g + 1 := ⟨f - 1, by simp at hf; omega⟩
    rw [rdPosts, if_neg (by simp at hn; omega)]
    simp
  | p :: l, f, n, acc, t, hs, hf, hn => by
    obtain ⟨g, rfl⟩ : ∃ g, f = g + 1 := ⟨f - 1, by simp at hf; omega⟩
    simp only [List.length_cons] at hn hf
    rw [rdPosts, if_pos ⟨rfl, by omega⟩, List.flatMap_cons, List.append_assoc]
    simp only [rdPost_put (hs p (by simp))]
    rw [rdPosts_put l g (n - 1) (acc ++ [p]) t (fun x hx => hs x (by simp [hx])) (by omega) (by omega)]
    simp
theorem rdStmt_put {s : Sp.Stmt} (h : s = Sp.noStmt ∨ stmtOk s.party s.seq s.rows = true) (t : Bytes) : rdStmt (newestB s ++ t) true = (s, t, true) := by
  rcases h with rfl | h
  · have hb : newestB Sp.noStmt = textB [] := rfl
    rw [hb]
    unfold rdStmt
    rw [rdText_text _ _ _ (by simp)]
    rfl
  · have hs : 1 ≤ s.seq := by unfold stmtOk at h; simp at h; omega
    have hb : newestB s = textB (stmtB s.party s.seq s.rows) := by unfold newestB; rw [if_pos (by omega)]
    rw [hb]
    unfold rdStmt
    rw [rdText_text _ _ _ (by have := stmtB_len s.party s.seq s.rows; omega)]
    simp only [stmtB_ne h, Bool.false_eq_true, if_false, stmtGet_put h]
    rfl
theorem flat_many {α : Type} {f : α → Bytes} : ∀ {l : List α}, (∀ x ∈ l, 1 ≤ (f x).length) → l.length ≤ (l.flatMap f).length
  | [], _ => by simp
  | x :: l, h => by
    have h1 := h x (by simp)
    have h2 := flat_many (l := l) (fun y hy => h y (by simp [hy]))
    simp only [List.flatMap_cons, List.length_append, List.length_cons]
    omega
theorem textB_pos (s : Bytes) : 1 ≤ (textB s).length := by unfold textB; have := varB_pos s.length; simp; omega
theorem rdParts_put {C : Sp.Core} (h : FormOk C) : rdParts (coreB C) = (⟨C.l, C.b.l, C.i.s0, C.i.s1, C.i.s2⟩, [], true) := by
  have hl1 : C.l.length ≤ (C.l.flatMap sagaB).length := flat_many (fun s _ => by unfold sagaB; have := textB_pos (orderB s.o); simp; omega)
  have hl2 : C.b.l.length ≤ (C.b.l.flatMap (fun p => textB (postB p))).length := flat_many (fun p _ => textB_pos _)
  have hm := h.many
  have hf := h.few
  have hN : (coreB C).length + 1 > C.l.length ∧ (coreB C).length + 1 > C.b.l.length := by
    unfold coreB
    simp only [List.length_append]
    omega
  refine rdParts_def (s1 := C.l.flatMap sagaB ++ (varB C.b.l.length ++ (C.b.l.flatMap (fun p => textB (postB p)) ++ (newestB C.i.s0 ++ (newestB C.i.s1 ++ newestB C.i.s2))))) (n0 := C.l.length) (k1 := true) ?_
    (rdSagas_put C.l _ _ [] (varB C.b.l.length ++ (C.b.l.flatMap (fun p => textB (postB p)) ++ (newestB C.i.s0 ++ (newestB C.i.s1 ++ newestB C.i.s2)))) h.sagas hN.1 rfl) (rdNum_var _ _ _ (by omega))
    (rdPosts_put C.b.l _ _ [] (newestB C.i.s0 ++ (newestB C.i.s1 ++ newestB C.i.s2)) h.posts hN.2 rfl) (rdStmt_put h.s0 _) (rdStmt_put h.s1 _) ?_
  · unfold coreB
    simp only [List.append_assoc]
    rw [rdNum_var _ _ _ (by omega)]
  · have := rdStmt_put h.s2 []
    rw [List.append_nil] at this
    exact this
/-- If of the parts there is the core again, what is put of a core is got. -/
theorem snapGet_put {C : Sp.Core} (h : FormOk C) (hc : coreOf ⟨C.l, C.b.l, C.i.s0, C.i.s1, C.i.s2⟩ = some C) {s : Bytes} (hp : putB C = (s, 0)) : snapGet s = some C := by
  have hs : coreB C = s := by
    unfold putB at hp
    split at hp
    · simp at hp
    · exact (Prod.mk.inj hp).1
  have hne : s ≠ [] := by
    rw [← hs]
    unfold coreB
    have := varB_pos C.l.length
    generalize varB C.l.length = v at *
    cases v
    · simp at this
    · simp
  rw [snapGet_eq hne (hs ▸ rdParts_put h)]
  simp only [Bool.true_and, List.isEmpty_nil, if_true, hc, hp]

/-! ### what stands behind -/
theorem rdSagas_more (t : Bytes) : ∀ (f : Nat) (n : Int) (s : Bytes) (ok : Bool) (acc r : List Sp.Saga) (u : Bytes), rdSagas f n s ok acc = (r, u, true) → s.length < f → ∀ g, f ≤ g → rdSagas g n (s ++ t) ok acc = (r, u ++ t, true)
  | 0, _, _, _, _, _, _, _, hf, _, _ => by omega
  | f + 1, n, s, ok, acc, r, u, h, hf, g, hg => by
    obtain ⟨g, rfl⟩ : ∃ k, g = k + 1 := ⟨g - 1, by omega⟩
    rw [rdSagas] at h ⊢
    split at h
    · rename_i hc
      rw [if_pos hc]
      obtain ⟨rfl, hn⟩ := hc
      rcases h1 : rdText s true with ⟨a, s1, k1⟩
      rcases h2 : rdNum s1 k1 with ⟨d, s2, k2⟩
      simp only [h1, h2] at h
      have hk : (k2 && (orderGet a).isSome) = true := by
        cases hb : (k2 && (orderGet a).isSome) with
        | true => rfl
        | false =>
          rw [hb] at h
          cases f with
          | zero => simp [rdSagas] at h
          | succ f => rw [rdSagas, if_neg (by simp)] at h; simp at h
      simp only [Bool.and_eq_true] at hk
      obtain ⟨rfl, hk2⟩ := hk
      obtain ⟨rfl, l2⟩ := rdNum_ok h2
      obtain ⟨_, l1⟩ := rdText_ok h1
      simp only [rdText_more t h1, rdNum_more t h2]
      exact rdSagas_more t f _ s2 _ _ r u h (by omega) g (by omega)
    · rename_i hc
      rw [if_neg hc]
      simp only [Prod.mk.injEq] at h ⊢
      obtain ⟨rfl, rfl, rfl⟩ := h
      exact ⟨rfl, rfl, rfl⟩
theorem rdPost_more {s u : Bytes} {p : Sp.Posting} {ok : Bool} (t : Bytes) (h : rdPost s ok = (p, u, true)) : rdPost (s ++ t) ok = (p, u ++ t, true) := by
  rcases h1 : rdText s ok with ⟨a, s1, k1⟩
  unfold rdPost at h ⊢
  rw [h1] at h
  simp only [Prod.mk.injEq, Bool.and_eq_true] at h
  obtain ⟨e1, e2, ⟨e3, e4⟩, e5⟩ := h
  subst e3
  rw [rdText_more t h1]
  simp only at e1 e2 e4 e5 ⊢
  rw [e1, e2, e4, e5]
  rfl
theorem rdPosts_more (t : Bytes) : ∀ (f : Nat) (n : Int) (s : Bytes) (ok : Bool) (acc r : List Sp.Posting) (u : Bytes), rdPosts f n s ok acc = (r, u, true) → s.length < f → ∀ g, f ≤ g → rdPosts g n (s ++ t) ok acc = (r, u ++ t, true)
  | 0, _, _, _, _, _, _, _, hf, _, _ => by omega
  | f + 1, n, s, ok, acc, r, u, h, hf, g, hg => by
    obtain ⟨g, rfl⟩ : ∃ k, g = k + 1 := ⟨g - 1, by omega⟩
    rw [rdPosts] at h ⊢
    split at h
    · rename_i hc
      rw [if_pos hc]
      obtain ⟨rfl, hn⟩ := hc
      rcases h1 : rdPost s true with ⟨p, s1, k1⟩
      simp only [h1] at h
      have hk : k1 = true := by
        cases k1 with
        | true => rfl
        | false =>
          cases f with
          | zero => simp [rdPosts] at h
          | succ f => rw [rdPosts, if_neg (by simp)] at h; simp at h
      subst hk
      have l1 := (rdPost_rest s true).2
      rw [h1] at l1
      have l2 := l1 rfl
      simp only at l2
      simp only [rdPost_more t h1]
      exact rdPosts_more t f _ s1 _ _ r u h (by omega) g (by omega)
    · rename_i hc
      rw [if_neg hc]
      simp only [Prod.mk.injEq] at h ⊢
      obtain ⟨rfl, rfl, rfl⟩ := h
      exact ⟨rfl, rfl, rfl⟩
theorem rdStmt_more {s u : Bytes} {x : Sp.Stmt} {ok : Bool} (t : Bytes) (h : rdStmt s ok = (x, u, true)) : rdStmt (s ++ t) ok = (x, u ++ t, true) := by
  rcases h1 : rdText s ok with ⟨a, s1, k1⟩
  unfold rdStmt at h ⊢
  rw [h1] at h
  simp only at h
  by_cases ha : a.isEmpty = true
  · rw [if_pos ha] at h
    simp only [Prod.mk.injEq] at h
    obtain ⟨rfl, rfl, rfl⟩ := h
    rw [rdText_more t h1]
    simp only
    rw [if_pos ha]
  · rw [if_neg ha] at h
    simp only [Prod.mk.injEq, Bool.and_eq_true] at h
    obtain ⟨rfl, rfl, rfl, hk⟩ := h
    rw [rdText_more t h1]
    simp only
    rw [if_neg ha, hk]
    rfl
theorem rdNum_back {s t : Bytes} {n : Int} {ok : Bool} (h : rdNum s ok = (n, t, true)) : ok = true := (rdNum_ok h).1
theorem rdStmt_back {s t : Bytes} {x : Sp.Stmt} {ok : Bool} (h : rdStmt s ok = (x, t, true)) : ok = true := by
  rcases h1 : rdText s ok with ⟨a, s1, k1⟩
  unfold rdStmt at h
  rw [h1] at h
  simp only at h
  split at h
  · simp only [Prod.mk.injEq] at h
    obtain ⟨_, _, rfl⟩ := h
    exact (rdText_ok h1).1
  · simp only [Prod.mk.injEq, Bool.and_eq_true] at h
    obtain ⟨_, _, rfl, _⟩ := h
    exact (rdText_ok h1).1
theorem rdPosts_back : ∀ {f : Nat} {n : Int} {s t : Bytes} {ok : Bool} {acc r : List Sp.Posting}, rdPosts f n s ok acc = (r, t, true) → ok = true
  | 0, _, _, _, _, _, _, h => by simp [rdPosts] at h; exact h.2.2
  | f + 1, n, s, t, ok, acc, r, h => by
    rw [rdPosts] at h
    split at h
    · rename_i hc; exact hc.1
    · simp only [Prod.mk.injEq] at h; exact h.2.2
theorem rdSagas_back : ∀ {f : Nat} {n : Int} {s t : Bytes} {ok : Bool} {acc r : List Sp.Saga}, rdSagas f n s ok acc = (r, t, true) → ok = true
  | 0, _, _, _, _, _, _, h => by simp [rdSagas] at h; exact h.2.2
  | f + 1, n, s, t, ok, acc, r, h => by
    rw [rdSagas] at h
    split at h
    · rename_i hc; exact hc.1
    · simp only [Prod.mk.injEq] at h; exact h.2.2
theorem rdPosts_rest : ∀ (f : Nat) (n : Int) (s : Bytes) (ok : Bool) (acc : List Sp.Posting), (rdPosts f n s ok acc).2.1.length ≤ s.length
  | 0, _, s, _, _ => Nat.le_refl _
  | f + 1, n, s, ok, acc => by
    rw [rdPosts]
    split
    · exact Nat.le_trans (rdPosts_rest f _ _ _ _) (rdPost_rest s ok).1
    · exact Nat.le_refl _
theorem rdParts_more {s u : Bytes} {p : Parts} (t : Bytes) (h : rdParts s = (p, u, true)) : rdParts (s ++ t) = (p, u ++ t, true) := by
  rcases h1 : rdNum s true with ⟨n0, s1, k1⟩
  rcases h2 : rdSagas (s.length + 1) n0 s1 k1 [] with ⟨sg, s2, k2⟩
  rcases h3 : rdNum s2 k2 with ⟨m0, s3, k3⟩
  rcases h4 : rdPosts (s.length + 1) m0 s3 k3 [] with ⟨ps, s4, k4⟩
  rcases h5 : rdStmt s4 k4 with ⟨t0, b0, kk0⟩
  rcases h6 : rdStmt b0 kk0 with ⟨t1, b1, kk1⟩
  rcases h7 : rdStmt b1 kk1 with ⟨t2, b2, kk2⟩
  have hd := rdParts_def h1 h2 h3 h4 h5 h6 h7
  rw [h] at hd
  simp only [Prod.mk.injEq] at hd
  obtain ⟨rfl, rfl, rfl⟩ := hd
  obtain rfl := rdStmt_back h7
  obtain rfl := rdStmt_back h6
  obtain rfl := rdStmt_back h5
  obtain rfl := rdPosts_back h4
  obtain rfl := rdNum_back h3
  obtain rfl := rdSagas_back h2
  have l1 := (rdNum_len s true).1
  rw [h1] at l1
  have l2 := rdSagas_rest (s.length + 1) n0 s1 true []
  rw [h2] at l2
  have l3 := (rdNum_len s2 true).1
  rw [h3] at l3
  simp only at l1 l2 l3
  have hlen : (s ++ t).length + 1 ≥ s.length + 1 := by simp
  exact rdParts_def (rdNum_more t h1) (rdSagas_more t _ _ _ _ _ _ _ h2 (by omega) _ hlen) (rdNum_more t h3) (rdPosts_more t _ _ _ _ _ _ _ h4 (by omega) _ hlen) (rdStmt_more t h5) (rdStmt_more t h6) (rdStmt_more t h7)
/-- Cut off, it is none. -/
theorem snapGet_cut {s t : Bytes} {C : Sp.Core} (h : snapGet (s ++ t) = some C) (hs : s ≠ []) (ht : t ≠ []) : snapGet s = none := by
  rcases hr : rdParts s with ⟨p, u, k⟩
  rw [snapGet_eq hs hr]
  cases k with
  | false => rfl
  | true =>
    cases u with
    | cons a b => rfl
    | nil =>
      have := rdParts_more t hr
      rw [snapGet_eq (by simp [hs]) this] at h
      cases t with
      | nil => exact absurd rfl ht
      | cons a b => simp at h
/-- With bytes behind it, it is none. -/
theorem snapGet_behind {s t : Bytes} {C : Sp.Core} (h : snapGet s = some C) (hs : s ≠ []) (ht : t ≠ []) : snapGet (s ++ t) = none := by
  rcases hg : snapGet (s ++ t) with _ | D
  · rfl
  · rw [snapGet_cut hg hs ht] at h; cases h
end Go.Proofs.YtkgpnikmdmpfaaaGreatDoor

/-
  How sagas may be; what a reply and a stop do to them.
-/

set_option linter.unusedVariables false
set_option linter.unusedSimpArgs false
namespace Go.Proofs.YtkgpnikmdmpfaaaGreatDoor
namespace Sp
def states : List (Int × Int × Int × Int × Int × Int × Bool) :=
  [(1, 0, 0, 0, 0, 0, false), (2, 1, 0, 0, 0, 0, false), (3, 0, 0, 0, 0, 0, false), (4, 0, 0, 1, 0, 0, true), (2, 2, 1, 0, 0, 0, false), (2, 3, 0, 1, 0, 0, false), (2, 4, 0, 0, 1, 0, true), (4, 0, 0, 2, 0, 0, true), (2, 2, 2, 0, 0, 0, false), (2, 2, 3, 0, 1, 0, false),
   (2, 2, 4, 0, 0, 1, true), (2, 3, 0, 2, 0, 0, false), (2, 4, 0, 1, 2, 0, true), (2, 2, 3, 1, 2, 0, false), (2, 2, 4, 0, 1, 2, true), (2, 4, 0, 2, 2, 0, true), (2, 2, 3, 2, 2, 0, false), (2, 2, 4, 1, 2, 2, true), (2, 2, 4, 2, 2, 2, true)]
/-- How a saga may be. -/
def InL (s : Saga) : Prop := (s.d0, s.d1, s.d2, s.d3, s.d4, s.d5, s.cancel) ∈ states
theorem inL_begin (o : Order) : InL (begin_ o) := by simp [InL, begin_, states]
theorem inL_cases {P : Saga → Prop} {s : Saga} (h : InL s) (hP : ∀ o, ∀ v ∈ states, P ⟨o, v.1, v.2.1, v.2.2.1, v.2.2.2.1, v.2.2.2.2.1, v.2.2.2.2.2.1, v.2.2.2.2.2.2⟩) : P s := hP s.o _ h
/-- What a reply does. -/
structure Replied (s t : Saga) (d code : Int) : Prop where
  inL : InL t
  o : t.o = s.o
  deed : 0 ≤ d ∧ d ≤ 5
  was : getD s d = 1
  now : getD t d = 2 ∨ getD t d = 3
  keep : ∀ e, 0 ≤ e → e ≤ 5 → getD s e = 2 → getD t e = 2
  net : net t ≠ net s → getD t d = 2
structure Stopped (s t : Saga) : Prop where
  inL : InL t
  o : t.o = s.o
  keep : ∀ e, 0 ≤ e → e ≤ 5 → getD s e = 2 → getD t e = 2
  net : net t = net s
theorem deed6 {P : Int → Prop} (h0 : P 0) (h1 : P 1) (h2 : P 2) (h3 : P 3) (h4 : P 4) (h5 : P 5) : ∀ e, 0 ≤ e → e ≤ 5 → P e := fun e a b => by
  have : e = 0 ∨ e = 1 ∨ e = 2 ∨ e = 3 ∨ e = 4 ∨ e = 5 := by omega
  rcases this with rfl | rfl | rfl | rfl | rfl | rfl <;> assumption
set_option maxHeartbeats 4000000 in
theorem reply_facts {s t : Saga} {d code : Int} (h : InL s) (hr : reply s d code = some t) : Replied s t d code := by
  revert hr
  refine inL_cases (P := fun s => reply s d code = some t → Replied s t d code) h (fun o => ?_)
  intro v hv
  simp only [states, List.mem_cons, List.not_mem_nil, or_false] at hv
  rcases hv with rfl | rfl | rfl | rfl | rfl | rfl | rfl | rfl | rfl | rfl | rfl | rfl | rfl | rfl | rfl | rfl | rfl | rfl | rfl
  all_goals
    intro hr
    simp only
    simp [reply, waits, onward, back, setD] at hr
  all_goals (try contradiction)
  all_goals
    obtain ⟨hd, hr⟩ := hr
    subst hd
    by_cases hc : code = 1
    · simp [hc] at hr
      subst hr
      exact ⟨by simp [InL, states], rfl, by omega, by simp [getD], by simp [getD], deed6 (by simp [getD]) (by simp [getD]) (by simp [getD]) (by simp [getD]) (by simp [getD]) (by simp [getD]), by simp [getD]⟩
    · simp [hc] at hr
      try obtain ⟨_, hr⟩ := hr
      try subst hr
      try exact ⟨by simp [InL, states], rfl, by omega, by simp [getD], by simp [getD], deed6 (by simp [getD]) (by simp [getD]) (by simp [getD]) (by simp [getD]) (by simp [getD]) (by simp [getD]), by simp [getD, Sp.net]⟩
set_option maxHeartbeats 4000000 in
theorem stop_facts {s t : Saga} (h : InL s) (hr : stop s = some t) : Stopped s t := by
  revert hr
  refine inL_cases (P := fun s => stop s = some t → Stopped s t) h (fun o => ?_)
  intro v hv
  simp only [states, List.mem_cons, List.not_mem_nil, or_false] at hv
  rcases hv with rfl | rfl | rfl | rfl | rfl | rfl | rfl | rfl | rfl | rfl | rfl | rfl | rfl | rfl | rfl | rfl | rfl | rfl | rfl
  all_goals
    intro hr
    simp only
    simp [stop, state, waits, onward, back, setD] at hr
  all_goals (try contradiction)
  all_goals
    subst hr
    exact ⟨by simp [InL, states], rfl, deed6 (by simp [getD]) (by simp [getD]) (by simp [getD]) (by simp [getD]) (by simp [getD]) (by simp [getD]), by simp [Sp.net]⟩
theorem inL_valid {s : Saga} (h : InL s) (ho : orderCheck s.o = 0) : valid s = true := by
  have : validAt 7 s (begin_ s.o) = true := by
    refine inL_cases (P := fun s => validAt 7 s (begin_ s.o) = true) h (fun o => ?_)
    intro v hv
    simp only [states, List.mem_cons, List.not_mem_nil, or_false] at hv
    rcases hv with rfl | rfl | rfl | rfl | rfl | rfl | rfl | rfl | rfl | rfl | rfl | rfl | rfl | rfl | rfl | rfl | rfl | rfl | rfl <;> kernel_rfl
  simp [valid, ho, this]
end Sp
theorem deedIn_of {s : Sp.Saga} (h : Sp.InL s) : DeedIn s := by
  refine Sp.inL_cases (P := DeedIn) h (fun o => ?_)
  intro v hv
  simp only [Sp.states, List.mem_cons, List.not_mem_nil, or_false] at hv
  rcases hv with rfl | rfl | rfl | rfl | rfl | rfl | rfl | rfl | rfl | rfl | rfl | rfl | rfl | rfl | rfl | rfl | rfl | rfl | rfl <;> exact ⟨by simp, by simp, by simp, by simp, by simp, by simp⟩
end Go.Proofs.YtkgpnikmdmpfaaaGreatDoor

/-
  What entries come to: what always holds of it.
-/

set_option linter.unusedVariables false
set_option linter.unusedSimpArgs false
namespace Go.Proofs.YtkgpnikmdmpfaaaGreatDoor
open Go.RowKit
namespace Sp
/-- One party's newest statement. -/
def StOk (k : Int) (s : Stmt) : Prop := s = noStmt ∨ (stmtOk k s.seq s.rows = true ∧ s.party = k)
/-- What a posting's name says. -/
def Named (C : Core) (id : List UInt8) : Prop :=
  (∃ (o : Nat) (d : Int) (s : Saga), C.l[o]? = some s ∧ keyOk ((o : Int) + 1) d = true ∧ getD s d = 2 ∧ id = keyText ((o : Int) + 1) d) ∨ (∃ q o : Nat, (q : Int) ≤ C.i.s0.seq ∧ id = stmtText q o)
structure Inv (C : Core) (n : Nat) : Prop where
  ids : ∀ (i : Nat) (s : Saga), C.l[i]? = some s → s.o.id = (i : Int) + 1
  ok : ∀ s ∈ C.l, orderCheck s.o = 0 ∧ InL s
  refs : ∀ (i j : Nat) (s t : Saga), C.l[i]? = some s → C.l[j]? = some t → s.o.ref = t.o.ref → i = j
  many : C.l.length ≤ 60
  replay : ofPosts noBooks C.b.l = some C.b
  set : SetOk C.i
  st0 : StOk 0 C.i.s0
  st1 : StOk 1 C.i.s1
  st2 : StOk 2 C.i.s2
  bal1 : ∀ o : Nat, 1 ≤ o → o ≤ 60 → C.b.bal 1 o = netAt C.l o - inNet C.i o
  bal2 : ∀ o : Nat, 1 ≤ o → o ≤ 60 → C.b.bal 2 o = inNet C.i o
  within : Within C.b.bal n
  cnt : C.b.l.length ≤ n
  posts : ∀ p ∈ C.b.l, PostIn p
  names : ∀ p ∈ C.b.l, Named C p.id
theorem stOk_no (k : Int) : StOk k noStmt := .inl rfl
theorem setOk_no : SetOk noIntake := ⟨by simp [noIntake, noStmt], by simp [noIntake, noStmt], by funext o d; rfl⟩
theorem inNet_no (o : Int) : inNet noIntake o = 0 := rfl
theorem inv_start : Inv noCore 0 where
  ids := by simp [noCore]
  ok := by simp [noCore]
  refs := by simp [noCore]
  many := by simp [noCore]
  replay := rfl
  set := setOk_no
  st0 := stOk_no 0
  st1 := stOk_no 1
  st2 := stOk_no 2
  bal1 := fun o _ _ => by simp [noCore, noBooks, netAt, inNet_no]
  bal2 := fun o _ _ => by simp [noCore, noBooks, inNet_no]
  within := within_zero
  cnt := by simp [noCore, noBooks]
  posts := by simp [noCore, noBooks]
  names := by simp [noCore, noBooks]
theorem Inv.mono {C : Core} {n m : Nat} (h : Inv C n) (hm : n ≤ m) : Inv C m := { h with within := h.within.mono hm, cnt := Nat.le_trans h.cnt hm }

/-! ### sagas -/
theorem hasRef_no {l : List Saga} {r : List UInt8} (h : hasRef l r = false) : ∀ s ∈ l, s.o.ref ≠ r := fun s hs e => by
  unfold hasRef at h
  rw [List.any_eq_false] at h
  exact h s hs (by simp [e])
theorem getElem?_snoc {α : Type} {l : List α} {x s : α} {i : Nat} (h : (l ++ [x])[i]? = some s) : l[i]? = some s ∨ (i = l.length ∧ s = x) := by
  rcases Nat.lt_or_ge i l.length with hl | hl
  · rw [List.getElem?_append_left hl] at h; exact .inl h
  · rw [List.getElem?_append_right hl] at h
    rcases Nat.eq_or_lt_of_le hl with e | e
    · subst e; simp at h; exact .inr ⟨rfl, h.symm⟩
    · rw [List.getElem?_eq_none (by simp; omega)] at h; cases h
theorem netAt_snoc {l : List Saga} {o : Order} {k : Nat} (hk : 1 ≤ k) : netAt (l ++ [begin_ o]) k = netAt l k := by
  unfold netAt
  rcases Nat.lt_or_ge (k - 1) l.length with h | h
  · rw [List.getElem?_append_left h]
  · rw [List.getElem?_append_right h, List.getElem?_eq_none h]
    cases hc : [begin_ o][k - 1 - l.length]? with
    | none => rfl
    | some s =>
      have : s = begin_ o := by
        have := List.mem_of_getElem? hc
        simpa using this
      subst this
      simp [net, begin_]
theorem inv_place {C : Core} {n : Nat} (h : Inv C n) (o : Order) : Inv (place C o).1 n := by
  unfold place
  split
  · exact h
  · rename_i ho
    split
    · exact h
    · rename_i hr
      split
      · exact h
      · split
        · exact h
        · rename_i hl hid
          have hid2 : o.id = (C.l.length : Int) + 1 := by omega
          simp only [Bool.not_eq_true] at hr
          have hno := hasRef_no hr
          refine { ids := ?_, ok := ?_, refs := ?_, many := by simp; omega, replay := h.replay, set := h.set, st0 := h.st0, st1 := h.st1, st2 := h.st2, bal1 := fun k h1 h2 => ?_, bal2 := h.bal2, within := h.within, cnt := h.cnt, posts := h.posts, names := fun p hp => ?_ }
          · intro i s hs
            rcases getElem?_snoc hs with hs | ⟨rfl, rfl⟩
            · exact h.ids i s hs
            · exact hid2
          · intro s hs
            rcases List.mem_append.1 hs with hs | hs
            · exact h.ok s hs
            · simp only [List.mem_singleton] at hs
              subst hs
              exact ⟨by show orderCheck o = 0; simpa using ho, inL_begin o⟩
          · intro i j s t hs ht he
            rcases getElem?_snoc hs with hs | ⟨rfl, rfl⟩
            · rcases getElem?_snoc ht with ht | ⟨rfl, rfl⟩
              · exact h.refs i j s t hs ht he
              · exact absurd he (hno s (List.mem_of_getElem? hs))
            · rcases getElem?_snoc ht with ht | ⟨rfl, rfl⟩
              · exact absurd he.symm (hno t (List.mem_of_getElem? ht))
              · rfl
          · rw [netAt_snoc h1]; exact h.bal1 k h1 h2
          · rcases h.names p hp with ⟨k, d, s, h1, h2⟩ | h1
            · exact .inl ⟨k, d, s, by rw [List.getElem?_append_left (List.getElem?_eq_some_iff.1 h1).1]; exact h1, h2⟩
            · exact .inr h1
theorem sagaAt_some {l : List Saga} {id : Int} {s : Saga} (h : sagaAt l id = some s) : 1 ≤ id ∧ l[id.toNat - 1]? = some s := by
  unfold sagaAt at h
  split at h
  · exact ⟨by assumption, h⟩
  · cases h
theorem set_at {l : List Saga} {k i : Nat} {s t x : Saga} (hs : l[k]? = some s) (hx : (l.set k t)[i]? = some x) : (i = k ∧ x = t) ∨ (i ≠ k ∧ l[i]? = some x) := by
  rw [List.getElem?_set] at hx
  split at hx
  · rename_i he
    subst he
    split at hx
    · cases hx; exact .inl ⟨rfl, rfl⟩
    · cases hx
  · rename_i he
    exact .inr ⟨fun e => he e.symm, hx⟩
/-- A saga is another one, of the same order; the books and the intake are what they are. -/
theorem inv_set {C : Core} {n m k : Nat} {s t : Saga} {b : Books} (h : Inv C n) (hs : C.l[k]? = some s) (ho : t.o = s.o) (hi : InL t) (hk : ∀ e, 0 ≤ e → e ≤ 5 → getD s e = 2 → getD t e = 2) (hr : ofPosts noBooks b.l = some b)
    (hb1 : ∀ o : Nat, 1 ≤ o → o ≤ 60 → b.bal 1 o = netAt (C.l.set k t) o - inNet C.i o) (hb2 : ∀ o : Nat, 1 ≤ o → o ≤ 60 → b.bal 2 o = inNet C.i o) (hw : Within b.bal m) (hc : b.l.length ≤ m)
    (hp : ∀ p ∈ b.l, p ∈ C.b.l ∨ (PostIn p ∧ Named ⟨C.l.set k t, b, C.i⟩ p.id)) : Inv ⟨C.l.set k t, b, C.i⟩ m where
  ids := fun i x hx => by
    rcases set_at hs hx with ⟨rfl, rfl⟩ | ⟨_, hx⟩
    · rw [ho]; exact h.ids i s hs
    · exact h.ids i x hx
  ok := fun x hx => by
    obtain ⟨i, hi2⟩ := List.getElem?_of_mem hx
    rcases set_at hs hi2 with ⟨rfl, rfl⟩ | ⟨_, hx⟩
    · exact ⟨by rw [ho]; exact (h.ok s (List.mem_of_getElem? hs)).1, hi⟩
    · exact h.ok x (List.mem_of_getElem? hx)
  refs := fun i j x y hx hy he => by
    rcases set_at hs hx with ⟨e1, e2⟩ | ⟨_, hx2⟩
    · rcases set_at hs hy with ⟨e3, e4⟩ | ⟨_, hy2⟩
      · omega
      · have := h.refs k j s y hs hy2 (by rw [← ho, ← e2]; exact he)
        omega
    · rcases set_at hs hy with ⟨e3, e4⟩ | ⟨_, hy2⟩
      · have := h.refs i k x s hx2 hs (by rw [← ho, ← e4]; exact he)
        omega
      · exact h.refs i j x y hx2 hy2 he
  many := by simp only [List.length_set]; exact h.many
  replay := hr
  set := h.set
  st0 := h.st0
  st1 := h.st1
  st2 := h.st2
  bal1 := hb1
  bal2 := hb2
  within := hw
  cnt := hc
  posts := fun p hp2 => by
    rcases hp p hp2 with hp3 | hp3
    · exact h.posts p hp3
    · exact hp3.1
  names := fun p hp2 => by
    rcases hp p hp2 with hp3 | hp3
    · rcases h.names p hp3 with ⟨o, d, x, h1, h2, h3, h4⟩ | h1
      · have hd := keyOk_in h2
        by_cases e : o = k
        · subst e
          rw [hs] at h1
          cases h1
          exact .inl ⟨o, d, t, by rw [List.getElem?_set, if_pos rfl, if_pos (List.getElem?_eq_some_iff.1 hs).1], h2, hk d (by omega) (by omega) h3, h4⟩
        · exact .inl ⟨o, d, x, by rw [List.getElem?_set, if_neg (fun e2 => e e2.symm)]; exact h1, h2, h3, h4⟩
      · exact .inr h1
    · exact hp3.2
theorem netAt_set {l : List Saga} {k : Nat} {s t : Saga} (hs : l[k]? = some s) (o : Nat) (ho : 1 ≤ o) : netAt (l.set k t) o = if o = k + 1 then net t else netAt l o := by
  unfold netAt
  rw [List.getElem?_set]
  by_cases e : o = k + 1
  · subst e
    rw [if_pos (by omega), if_pos (by have := (List.getElem?_eq_some_iff.1 hs).1; omega), if_pos rfl]
  · rw [if_neg (by omega), if_neg e]
theorem inv_stop {C : Core} {n : Nat} (h : Inv C n) (id : Int) : Inv (stopAt C id).1 n := by
  unfold stopAt
  split
  · exact h
  · rename_i s hs
    split
    · exact h
    · rename_i t ht
      obtain ⟨h1, h2⟩ := sagaAt_some hs
      have hf := stop_facts (h.ok s (List.mem_of_getElem? h2)).2 ht
      refine inv_set h h2 hf.o hf.inL hf.keep h.replay (fun o a b => ?_) h.bal2 h.within h.cnt (fun p hp => .inl hp)
      rw [netAt_set h2 o a, h.bal1 o a b]
      split
      · rename_i e
        subst e
        rw [hf.net]
        have : netAt C.l (id.toNat - 1 + 1) = net s := by unfold netAt; rw [Nat.add_sub_cancel, h2]
        rw [this]
      · rfl
/-! ### a reply -/
theorem moved4 (b : Bal) (id : List UInt8) (o d c a : Int) (h : d ≠ c) (ho : o ≠ 0) (x y : Int) : moved b ⟨id, o, d, c, a⟩ x y = if (y = 0 ∨ y = o) ∧ x = d then b x y + a else if (y = 0 ∨ y = o) ∧ x = c then b x y - a else b x y := moved_eq b ⟨id, o, d, c, a⟩ h ho x y
theorem postIn_of {id : List UInt8} {o d c a : Int} (h1 : id.length ≤ 100) (h2 : 0 ≤ o ∧ o ≤ 60) (h3 : 0 ≤ d ∧ d ≤ 4) (h4 : 0 ≤ c ∧ c ≤ 4) (h5 : 0 ≤ a ∧ a ≤ 2199023255552) : PostIn ⟨id, o, d, c, a⟩ :=
  ⟨by simp only; omega, by simp [in64]; omega, by simp [in64]; omega, by simp [in64]; omega, by simp [in64]; omega⟩
theorem replay_post {b : Books} {p : Posting} {n : Nat} (hr : ofPosts noBooks b.l = some b) (h : NewPost b p) (hw : Within b.bal n) (hn : n ≤ 1000000) : ofPosts noBooks (post b p).1.l = some (post b p).1 := by
  obtain ⟨h1, _⟩ := post_new h hw hn
  rw [h1]
  simp only
  rw [ofPosts_snoc, hr]
  simp only [h1]
  simp
theorem net_range {s : Saga} (h : orderCheck s.o = 0) : 0 ≤ net s ∧ net s ≤ 1099511627776 := by
  have := orderCheck_in h
  unfold net
  split <;> omega
theorem inv_reply {C : Core} {n : Nat} (h : Inv C n) (hn : n ≤ 900000) (ko kd code : Int) : Inv (replyAt C ko kd code).1 (n + 1) := by
  unfold replyAt
  split
  · exact h.mono (by omega)
  · rename_i s hs
    split
    · exact h.mono (by omega)
    · rename_i t ht
      obtain ⟨h1, h2⟩ := sagaAt_some hs
      have hk : ko.toNat - 1 < C.l.length := (List.getElem?_eq_some_iff.1 h2).1
      have hm := h.many
      have hso := h.ok s (List.mem_of_getElem? h2)
      have hf := reply_facts hso.2 ht
      have hd := hf.deed
      have hns := net_range hso.1
      have hnt := net_range (s := t) (by rw [hf.o]; exact hso.1)
      have hkey : keyOk ko kd = true := keyOk_of (by omega)
      have hkl := keyText_len hkey
      have hat : netAt C.l ko.toNat = net s := by unfold netAt; rw [h2]
      have hko : ((ko.toNat - 1 : Nat) : Int) + 1 = ko := by omega
      have hfresh : ∀ q ∈ C.b.l, q.id ≠ keyText ko kd := fun q hq e => by
        rcases h.names q hq with ⟨o, d, x, g1, g2, g3, g4⟩ | ⟨q1, o, _, g⟩
        · rw [e] at g4
          obtain ⟨e1, e2⟩ := keyText_inj hkey g2 g4
          have e3 : o = ko.toNat - 1 := by omega
          rw [e3, h2] at g1
          cases g1
          rw [← e2, hf.was] at g3
          omega
        · rw [e] at g
          exact key_ne_stmt hkey g
      unfold setAt netPost
      by_cases c1 : net s < net t
      · rw [if_pos c1]
        have hnew : NewPost C.b ⟨keyText ko kd, ko, 1, 0, net t - net s⟩ := ⟨by
          simp only [postOk, account, Bool.and_eq_true, decide_eq_true_eq]
          refine ⟨⟨⟨⟨⟨fun e => ?_, by omega⟩, by omega⟩, by omega⟩, by omega⟩, by omega⟩
          rw [e] at hkl; simp at hkl, hfresh, by simp only; omega⟩
        have hre := replay_post h.replay hnew h.within (by omega)
        obtain ⟨p1, p2⟩ := post_new hnew h.within (by omega)
        rw [p1] at hre ⊢
        simp only at hre ⊢
        refine inv_set h h2 hf.o hf.inL hf.keep hre (fun o a b => ?_) (fun o a b => ?_) p2 (by have := h.cnt; simp; omega) (fun p hp => ?_)
        · show moved C.b.bal ⟨keyText ko kd, ko, 1, 0, net t - net s⟩ 1 o = _
          rw [moved4 _ _ _ _ _ _ (by decide) (by omega), netAt_set h2 o a]
          by_cases e : o = ko.toNat - 1 + 1
          · rw [if_pos ⟨.inr (by omega), rfl⟩, if_pos e, h.bal1 o a b, show o = ko.toNat by omega, hat]
            omega
          · rw [if_neg (fun x => by omega), if_neg (fun x => by omega), if_neg e, h.bal1 o a b]
        · show moved C.b.bal ⟨keyText ko kd, ko, 1, 0, net t - net s⟩ 2 o = _
          rw [moved4 _ _ _ _ _ _ (by decide) (by omega)]
          rw [if_neg (fun x => by omega), if_neg (fun x => by omega)]
          exact h.bal2 o a b
        · rcases List.mem_append.1 hp with hp | hp
          · exact .inl hp
          · simp only [List.mem_singleton] at hp
            subst hp
            refine .inr ⟨postIn_of hkl.2 (by omega) (by omega) (by omega) (by omega), .inl ⟨ko.toNat - 1, kd, t, by simp only; rw [List.getElem?_set, if_pos rfl, if_pos hk], by rw [hko]; exact hkey, hf.net (by omega), by rw [hko]⟩⟩
      · rw [if_neg c1]
        by_cases c2 : net t < net s
        · rw [if_pos c2]
          have hnew : NewPost C.b ⟨keyText ko kd, ko, 3, 1, net s - net t⟩ := ⟨by
            simp only [postOk, account, Bool.and_eq_true, decide_eq_true_eq]
            refine ⟨⟨⟨⟨⟨fun e => ?_, by omega⟩, by omega⟩, by omega⟩, by omega⟩, by omega⟩
            rw [e] at hkl; simp at hkl, hfresh, by simp only; omega⟩
          have hre := replay_post h.replay hnew h.within (by omega)
          obtain ⟨p1, p2⟩ := post_new hnew h.within (by omega)
          rw [p1] at hre ⊢
          simp only at hre ⊢
          refine inv_set h h2 hf.o hf.inL hf.keep hre (fun o a b => ?_) (fun o a b => ?_) p2 (by have := h.cnt; simp; omega) (fun p hp => ?_)
          · show moved C.b.bal ⟨keyText ko kd, ko, 3, 1, net s - net t⟩ 1 o = _
            rw [moved4 _ _ _ _ _ _ (by decide) (by omega), netAt_set h2 o a]
            by_cases e : o = ko.toNat - 1 + 1
            · rw [if_neg (fun x => by omega), if_pos ⟨.inr (by omega), rfl⟩, if_pos e, h.bal1 o a b, show o = ko.toNat by omega, hat]
              omega
            · rw [if_neg (fun x => by omega), if_neg (fun x => by omega), if_neg e, h.bal1 o a b]
          · show moved C.b.bal ⟨keyText ko kd, ko, 3, 1, net s - net t⟩ 2 o = _
            rw [moved4 _ _ _ _ _ _ (by decide) (by omega)]
            rw [if_neg (fun x => by omega), if_neg (fun x => by omega)]
            exact h.bal2 o a b
          · rcases List.mem_append.1 hp with hp | hp
            · exact .inl hp
            · simp only [List.mem_singleton] at hp
              subst hp
              refine .inr ⟨postIn_of hkl.2 (by omega) (by omega) (by omega) (by omega), .inl ⟨ko.toNat - 1, kd, t, by simp only; rw [List.getElem?_set, if_pos rfl, if_pos hk], by rw [hko]; exact hkey, hf.net (by omega), by rw [hko]⟩⟩
        · rw [if_neg c2]
          simp only
          refine inv_set h h2 hf.o hf.inL hf.keep h.replay (fun o a b => ?_) h.bal2 (h.within.mono (by omega)) (by have := h.cnt; omega) (fun p hp => .inl hp)
          rw [netAt_set h2 o a, h.bal1 o a b]
          split
          · rename_i e
            rw [show o = ko.toNat by omega, hat]
            omega
          · rfl
end Sp
end Go.Proofs.YtkgpnikmdmpfaaaGreatDoor

/-
  A statement; of its parts there is the core again.
-/

set_option linter.unusedVariables false
set_option linter.unusedSimpArgs false
namespace Go.Proofs.YtkgpnikmdmpfaaaGreatDoor
open Go.RowKit
namespace Sp
theorem rowsIn_other : ∀ {l : List Row} {f : RowMap} {o d : Int}, (∀ r ∈ l, r.deed ≠ d) → rowsIn f l o d = f o d
  | [], _, _, _, _ => rfl
  | r :: l, f, o, d, h => by
    have h1 : rowsIn f (r :: l) = rowsIn (rowSet f r) l := rfl
    rw [h1, rowsIn_other (fun x hx => h x (by simp [hx]))]
    unfold rowSet
    rw [if_neg (fun e => h r (by simp) e.2.symm)]
theorem stOk_deeds {k : Int} {s : Stmt} (h : StOk k s) (hk : k ≠ 0) : ∀ r ∈ s.rows, r.deed ≠ 1 ∧ r.deed ≠ 4 := by
  intro r hr
  rcases h with rfl | ⟨h, _⟩
  · simp [noStmt] at hr
  · have := stmtOk_rows h r hr
    simp only [rowOk, Bool.and_eq_true, decide_eq_true_eq] at this
    have hp := this.1.1.2
    constructor
    · intro e; rw [e] at hp; exact hk hp.symm
    · intro e; rw [e] at hp; exact hk hp.symm
/-- What an intake says of an order hangs on the payment's statement alone. -/
def payIn (l : List Row) : Intake := ⟨noStmt, noStmt, noStmt, rowsIn (fun _ _ => none) l⟩
theorem inNet_pay {i : Intake} (hs : SetOk i) (h1 : StOk 1 i.s1) (h2 : StOk 2 i.s2) (o : Int) : inNet i o = inNet (payIn i.s0.rows) o := by
  have e : ∀ d, d = 1 ∨ d = 4 → i.row o d = rowsIn (fun _ _ => none) i.s0.rows o d := fun d hd => by
    rw [hs.row]
    show rowsIn (rowsIn (rowsIn (fun _ _ => none) (lstK i 0)) (lstK i 1)) (lstK i 2) o d = _
    rw [rowsIn_other (l := lstK i 2) (fun r hr => by have := stOk_deeds h2 (by omega) r hr; rcases hd with rfl | rfl; exact this.1; exact this.2)]
    rw [rowsIn_other (l := lstK i 1) (fun r hr => by have := stOk_deeds h1 (by omega) r hr; rcases hd with rfl | rfl; exact this.1; exact this.2)]
    rfl
  unfold inNet amountOf payIn
  simp only
  rw [e 1 (.inl rfl), e 4 (.inr rfl)]
theorem inNet_in {i : Intake} (h : SetOk i) (o : Int) : -1099511627776 ≤ inNet i o ∧ inNet i o ≤ 1099511627776 := by
  have ha : ∀ d, 0 ≤ amountOf i o d ∧ amountOf i o d ≤ 1099511627776 := fun d => by
    unfold amountOf
    split
    · rename_i r hr
      have hi : RowIn r := by
        rw [h.row] at hr
        rcases rowsIn_mem (f := rowsK i 2) (l := lstK i 2) hr with h1 | h1
        · exact lstK_in h h1
        · rcases rowsIn_mem (f := rowsK i 1) (l := lstK i 1) h1 with h2 | h2
          · exact lstK_in h h2
          · rcases rowsIn_mem (f := rowsK i 0) (l := lstK i 0) h2 with h3 | h3
            · exact lstK_in h h3
            · cases h3
      have := hi.lo
      have := hi.hi
      split <;> omega
    · omega
  have h1 := ha 1
  have h4 := ha 4
  unfold inNet
  omega
theorem setStmt_set {i : Intake} {s : Stmt} (h : SetOk i) (hy : stmtOk s.party s.seq s.rows = true) : SetOk (setStmt i s) := by
  obtain ⟨party, seq, l⟩ := s
  have hr : ∀ r ∈ l, RowIn r := fun r hr => rowIn_of_ok (stmtOk_rows hy r hr)
  have hl := stmtOk_len hy
  have hf := h.few
  have h0 : ∀ r ∈ i.s0.rows, RowIn r := fun r hr => h.rok r (.inl hr)
  have h1 : ∀ r ∈ i.s1.rows, RowIn r := fun r hr => h.rok r (.inr (.inl hr))
  have h2 : ∀ r ∈ i.s2.rows, RowIn r := fun r hr => h.rok r (.inr (.inr hr))
  rcases stmtOk_party hy with hp | hp | hp <;> simp only at hp <;> subst hp
  · refine ⟨⟨hl, hf.2.1, hf.2.2⟩, ?_, rfl⟩
    rintro r (h | h | h)
    · exact hr r h
    · exact h1 r h
    · exact h2 r h
  · refine ⟨⟨hf.1, hl, hf.2.2⟩, ?_, rfl⟩
    rintro r (h | h | h)
    · exact h0 r h
    · exact hr r h
    · exact h2 r h
  · refine ⟨⟨hf.1, hf.2.1, hl⟩, ?_, rfl⟩
    rintro r (h | h | h)
    · exact h0 r h
    · exact h1 r h
    · exact hr r h
/-- While a statement's postings are posted. -/
structure StInv (C : Core) (n : Nat) (j : Intake) (seq k : Nat) (b : Books) : Prop where
  replay : ofPosts noBooks b.l = some b
  within : Within b.bal (n + k)
  cnt : b.l.length ≤ n + k
  bal1 : ∀ o : Nat, 1 ≤ o → o ≤ 60 → b.bal 1 o = netAt C.l o - (if o ≤ k then inNet j o else inNet C.i o)
  bal2 : ∀ o : Nat, 1 ≤ o → o ≤ 60 → b.bal 2 o = if o ≤ k then inNet j o else inNet C.i o
  posts : ∀ p ∈ b.l, p ∈ C.b.l ∨ (PostIn p ∧ ∃ o : Nat, o ≤ k ∧ p.id = stmtText seq o ∧ (seq : Int) ≤ j.s0.seq)
theorem stInv_step {C : Core} {n k seq : Nat} {j : Intake} {b : Books} (h : Inv C n) (hn : n ≤ 900000) (hj : SetOk j) (hk : k < 60) (hseq : seq ≤ 1073741824) (hd : ∀ o, inNet C.i o ≠ inNet j o → C.i.s0.seq < seq ∧ j.s0.seq = seq) (hb : StInv C n j seq k b) :
    StInv C n j seq (k + 1) (stmtPost C.i j seq b (k + 1)) := by
  have hx := inNet_in h.set ((k + 1 : Nat) : Int)
  have hy := inNet_in hj ((k + 1 : Nat) : Int)
  have hlen := stmtText_len hseq (o := k + 1) (by omega)
  have hlo : ∀ o : Nat, o ≠ k + 1 → (if o ≤ k + 1 then inNet j o else inNet C.i o) = (if o ≤ k then inNet j o else inNet C.i o) := fun o ho => by
    by_cases e : o ≤ k
    · rw [if_pos e, if_pos (by omega)]
    · rw [if_neg e, if_neg (by omega)]
  have hfresh : inNet C.i ((k + 1 : Nat) : Int) ≠ inNet j ((k + 1 : Nat) : Int) → ∀ q ∈ b.l, q.id ≠ stmtText seq (k + 1) := fun hne q hq e => by
    obtain ⟨d1, d2⟩ := hd _ hne
    rcases hb.posts q hq with hq | ⟨_, o, ho, e2, _⟩
    · rcases h.names q hq with ⟨o, d, x, _, g2, _, g4⟩ | ⟨q1, o, g1, g2⟩
      · exact key_ne_stmt g2 (g4.symm.trans e)
      · have := (stmtText_inj (g2.symm.trans e)).1
        omega
    · have := (stmtText_inj (e2.symm.trans e)).2
      omega
  unfold stmtPost
  by_cases c1 : inNet C.i ((k + 1 : Nat) : Int) < inNet j ((k + 1 : Nat) : Int)
  · rw [if_pos c1]
    have hnew : NewPost b ⟨stmtText seq (k + 1), (k + 1 : Nat), 2, 1, inNet j ((k + 1 : Nat) : Int) - inNet C.i ((k + 1 : Nat) : Int)⟩ := ⟨by
      simp only [postOk, account, Bool.and_eq_true, decide_eq_true_eq]
      refine ⟨⟨⟨⟨⟨fun e => ?_, by omega⟩, by omega⟩, by omega⟩, by omega⟩, by omega⟩
      rw [e] at hlen; simp at hlen, hfresh (by omega), by simp only; omega⟩
    have hre := replay_post hb.replay hnew hb.within (by omega)
    obtain ⟨p1, p2⟩ := post_new hnew hb.within (by omega)
    have hdn := hd _ (show inNet C.i ((k + 1 : Nat) : Int) ≠ inNet j ((k + 1 : Nat) : Int) by omega)
    rw [p1] at hre ⊢
    refine ⟨hre, p2, by have := hb.cnt; simp; omega, fun o a e => ?_, fun o a e => ?_, fun p hp => ?_⟩
    · show moved b.bal ⟨stmtText seq (k + 1), (k + 1 : Nat), 2, 1, inNet j ((k + 1 : Nat) : Int) - inNet C.i ((k + 1 : Nat) : Int)⟩ 1 o = _
      rw [moved4 _ _ _ _ _ _ (by decide) (by omega)]
      by_cases e2 : o = k + 1
      · subst e2
        rw [if_neg (fun x => by omega), if_pos ⟨.inr rfl, rfl⟩, if_pos (Nat.le_refl _), hb.bal1 _ a e, if_neg (by omega)]
        omega
      · rw [if_neg (fun x => by omega), if_neg (fun x => by omega), hb.bal1 o a e, hlo o e2]
    · show moved b.bal ⟨stmtText seq (k + 1), (k + 1 : Nat), 2, 1, inNet j ((k + 1 : Nat) : Int) - inNet C.i ((k + 1 : Nat) : Int)⟩ 2 o = _
      rw [moved4 _ _ _ _ _ _ (by decide) (by omega)]
      by_cases e2 : o = k + 1
      · subst e2
        rw [if_pos ⟨.inr rfl, rfl⟩, if_pos (Nat.le_refl _), hb.bal2 _ a e, if_neg (by omega)]
        omega
      · rw [if_neg (fun x => by omega), if_neg (fun x => by omega), hb.bal2 o a e, hlo o e2]
    · rcases List.mem_append.1 hp with hp | hp
      · rcases hb.posts p hp with hp | ⟨g1, o, g2, g3⟩
        · exact .inl hp
        · exact .inr ⟨g1, o, by omega, g3⟩
      · simp only [List.mem_singleton] at hp
        subst hp
        exact .inr ⟨postIn_of hlen.2 (by omega) (by omega) (by omega) (by omega), k + 1, Nat.le_refl _, rfl, by omega⟩
  · rw [if_neg c1]
    by_cases c2 : inNet j ((k + 1 : Nat) : Int) < inNet C.i ((k + 1 : Nat) : Int)
    · rw [if_pos c2]
      have hnew : NewPost b ⟨stmtText seq (k + 1), (k + 1 : Nat), 1, 2, inNet C.i ((k + 1 : Nat) : Int) - inNet j ((k + 1 : Nat) : Int)⟩ := ⟨by
        simp only [postOk, account, Bool.and_eq_true, decide_eq_true_eq]
        refine ⟨⟨⟨⟨⟨fun e => ?_, by omega⟩, by omega⟩, by omega⟩, by omega⟩, by omega⟩
        rw [e] at hlen; simp at hlen, hfresh (by omega), by simp only; omega⟩
      have hre := replay_post hb.replay hnew hb.within (by omega)
      obtain ⟨p1, p2⟩ := post_new hnew hb.within (by omega)
      have hdn := hd _ (show inNet C.i ((k + 1 : Nat) : Int) ≠ inNet j ((k + 1 : Nat) : Int) by omega)
      rw [p1] at hre ⊢
      refine ⟨hre, p2, by have := hb.cnt; simp; omega, fun o a e => ?_, fun o a e => ?_, fun p hp => ?_⟩
      · show moved b.bal ⟨stmtText seq (k + 1), (k + 1 : Nat), 1, 2, inNet C.i ((k + 1 : Nat) : Int) - inNet j ((k + 1 : Nat) : Int)⟩ 1 o = _
        rw [moved4 _ _ _ _ _ _ (by decide) (by omega)]
        by_cases e2 : o = k + 1
        · subst e2
          rw [if_pos ⟨.inr rfl, rfl⟩, if_pos (Nat.le_refl _), hb.bal1 _ a e, if_neg (by omega)]
          omega
        · rw [if_neg (fun x => by omega), if_neg (fun x => by omega), hb.bal1 o a e, hlo o e2]
      · show moved b.bal ⟨stmtText seq (k + 1), (k + 1 : Nat), 1, 2, inNet C.i ((k + 1 : Nat) : Int) - inNet j ((k + 1 : Nat) : Int)⟩ 2 o = _
        rw [moved4 _ _ _ _ _ _ (by decide) (by omega)]
        by_cases e2 : o = k + 1
        · subst e2
          rw [if_neg (fun x => by omega), if_pos ⟨.inr rfl, rfl⟩, if_pos (Nat.le_refl _), hb.bal2 _ a e, if_neg (by omega)]
          omega
        · rw [if_neg (fun x => by omega), if_neg (fun x => by omega), hb.bal2 o a e, hlo o e2]
      · rcases List.mem_append.1 hp with hp | hp
        · rcases hb.posts p hp with hp | ⟨g1, o, g2, g3⟩
          · exact .inl hp
          · exact .inr ⟨g1, o, by omega, g3⟩
        · simp only [List.mem_singleton] at hp
          subst hp
          exact .inr ⟨postIn_of hlen.2 (by omega) (by omega) (by omega) (by omega), k + 1, Nat.le_refl _, rfl, by omega⟩
    · rw [if_neg c2]
      refine ⟨hb.replay, hb.within.mono (by omega), by have := hb.cnt; omega, fun o a e => ?_, fun o a e => ?_, fun p hp => ?_⟩
      · rw [hb.bal1 o a e]
        by_cases e2 : o = k + 1
        · subst e2; rw [if_neg (by omega), if_pos (Nat.le_refl _)]; omega
        · rw [hlo o e2]
      · rw [hb.bal2 o a e]
        by_cases e2 : o = k + 1
        · subst e2; rw [if_neg (by omega), if_pos (Nat.le_refl _)]; omega
        · rw [hlo o e2]
      · rcases hb.posts p hp with hp | ⟨g1, o, g2, g3⟩
        · exact .inl hp
        · exact .inr ⟨g1, o, by omega, g3⟩
theorem stInv_all {C : Core} {n seq : Nat} {j : Intake} (h : Inv C n) (hn : n ≤ 900000) (hj : SetOk j) (hseq : seq ≤ 1073741824) (hd : ∀ o, inNet C.i o ≠ inNet j o → C.i.s0.seq < seq ∧ j.s0.seq = seq) :
    ∀ k, k ≤ 60 → StInv C n j seq k (stmtPosts C.i j seq C.b k)
  | 0, _ => ⟨h.replay, h.within, h.cnt, fun o a e => by rw [if_neg (by omega)]; exact h.bal1 o a e, fun o a e => by rw [if_neg (by omega)]; exact h.bal2 o a e, fun p hp => .inl hp⟩
  | k + 1, hk => stInv_step h hn hj (by omega) hseq hd (stInv_all h hn hj hseq hd k (by omega))
theorem inv_statement {C : Core} {n : Nat} (h : Inv C n) (hn : n ≤ 900000) (s : Stmt) : Inv (statementAt C s).1 (n + 60) := by
  unfold statementAt accept
  by_cases hy : stmtOk s.party s.seq s.rows = false
  · rw [if_pos hy]; exact h.mono (by omega)
  · rw [if_neg hy]
    by_cases hq : s.seq ≤ (newest C.i s.party).seq
    · rw [if_pos hq]; exact h.mono (by omega)
    · rw [if_neg hq]
      simp only
      simp only [Bool.not_eq_false] at hy
      have hj := setStmt_set h.set hy
      have hsq : 1 ≤ s.seq ∧ s.seq ≤ 1073741824 := by unfold stmtOk at hy; simp at hy; omega
      have hp3 := stmtOk_party hy
      have hst : StOk s.party s := .inr ⟨hy, rfl⟩
      have h0 : StOk 0 (setStmt C.i s).s0 := by
        unfold setStmt
        simp only
        split
        · rename_i e; rw [e] at hst; exact hst
        · exact h.st0
      have h1 : StOk 1 (setStmt C.i s).s1 := by
        unfold setStmt
        simp only
        split
        · rename_i e; rw [e] at hst; exact hst
        · exact h.st1
      have h2 : StOk 2 (setStmt C.i s).s2 := by
        unfold setStmt
        simp only
        split
        · rename_i e; rw [e] at hst; exact hst
        · exact h.st2
      have hs0 : (s.party = 0 ∧ (setStmt C.i s).s0 = s ∧ C.i.s0.seq < s.seq) ∨ (s.party ≠ 0 ∧ (setStmt C.i s).s0 = C.i.s0) := by
        by_cases e : s.party = 0
        · refine .inl ⟨e, by unfold setStmt; simp only; rw [if_pos e], ?_⟩
          rw [e] at hq
          unfold newest at hq
          rw [if_pos rfl] at hq
          omega
        · exact .inr ⟨e, by unfold setStmt; simp only; rw [if_neg e]⟩
      have hd : ∀ o, inNet C.i o ≠ inNet (setStmt C.i s) o → C.i.s0.seq < (s.seq.toNat : Int) ∧ (setStmt C.i s).s0.seq = (s.seq.toNat : Int) := fun o hne => by
        rcases hs0 with ⟨_, e2, e3⟩ | ⟨_, e2⟩
        · rw [e2]; omega
        · exfalso
          apply hne
          rw [inNet_pay h.set h.st1 h.st2, inNet_pay hj h1 h2, e2]
      have hb := stInv_all h hn hj (seq := s.seq.toNat) (by omega) hd 60 (Nat.le_refl _)
      have hmono : C.i.s0.seq ≤ (setStmt C.i s).s0.seq := by
        rcases hs0 with ⟨_, e2, e3⟩ | ⟨_, e2⟩
        · rw [e2]; omega
        · rw [e2]; omega
      generalize stmtPosts C.i (setStmt C.i s) s.seq.toNat C.b 60 = b at hb ⊢
      refine { ids := h.ids, ok := h.ok, refs := h.refs, many := h.many, replay := hb.replay, set := hj, st0 := h0, st1 := h1, st2 := h2, bal1 := fun o a e => ?_, bal2 := fun o a e => ?_, within := hb.within, cnt := hb.cnt, posts := fun p hp => ?_, names := fun p hp => ?_ }
      · have := hb.bal1 o a e; rw [if_pos e] at this; exact this
      · have := hb.bal2 o a e; rw [if_pos e] at this; exact this
      · rcases hb.posts p hp with hp | ⟨g, _⟩
        · exact h.posts p hp
        · exact g
      · rcases hb.posts p hp with hp | ⟨_, o, _, g1, g2⟩
        · rcases h.names p hp with g | ⟨q, o, g1, g2⟩
          · exact .inl g
          · exact .inr ⟨q, o, Int.le_trans g1 hmono, g2⟩
        · exact .inr ⟨s.seq.toNat, o, g2, g1⟩
theorem inv_apply {C : Core} {n : Nat} (h : Inv C n) (hn : n ≤ 900000) (e : Entry) : Inv (apply C e).1 (n + 60) := by
  unfold apply
  split
  · exact (inv_place h _).mono (by omega)
  · split
    · exact (inv_stop h _).mono (by omega)
    · split
      · exact (inv_reply h hn _ _ _).mono (by omega)
      · split
        · exact inv_statement h hn _
        · exact h.mono (by omega)

/-! ### of its parts there is the core again -/
theorem ofSagas_all : ∀ (l acc : List Saga), (∀ (i : Nat) (s : Saga), l[i]? = some s → s.o.id = ((acc.length + i : Nat) : Int) + 1) → (∀ s ∈ l, valid s = true) → (∀ (i : Nat) (s : Saga), l[i]? = some s → ∀ t ∈ acc ++ l.take i, t.o.ref ≠ s.o.ref) → ofSagas acc l = true
  | [], _, _, _, _ => rfl
  | s :: l, acc, h1, h2, h3 => by
    have hr : hasRef acc s.o.ref = false := by
      unfold hasRef
      rw [List.any_eq_false]
      intro t ht
      simpa using h3 0 s rfl t (by simp [ht])
    have hid := h1 0 s rfl
    have ih := ofSagas_all l (acc ++ [s]) (fun i x hx => by have := h1 (i + 1) x (by simpa using hx); simp only [List.length_append, List.length_singleton]; rw [this]; omega) (fun x hx => h2 x (by simp [hx]))
      (fun i x hx t ht => h3 (i + 1) x (by simpa using hx) t (by simpa using ht))
    unfold ofSagas
    rw [ih, hr, h2 s (by simp)]
    simp only [Nat.add_zero] at hid
    simp [hid]
theorem ofStmt_set {i : Intake} {k : Int} {s : Stmt} (h : StOk k s) (hk : 0 ≤ k ∧ k ≤ 2) (hn : newest i k = noStmt) : ofStmt i k s = some (if s = noStmt then i else setStmt i s) := by
  unfold ofStmt
  rcases h with rfl | ⟨h, hp⟩
  · rw [if_pos ⟨rfl, rfl, rfl⟩, if_pos rfl]
  · have hsq : 1 ≤ s.seq := by unfold stmtOk at h; simp at h; omega
    have hne : ¬ (s.seq = 0 ∧ s.rows = [] ∧ s.party = 0) := fun e => by omega
    have hn2 : s ≠ noStmt := fun e => by rw [e] at hsq; simp [noStmt] at hsq
    rw [if_neg hne, if_pos hp, if_neg hn2]
    unfold accept
    rw [hp, h, if_neg (by simp), hn, if_neg (by simp [noStmt]; omega)]
theorem rowsIn_nil (f : RowMap) : rowsIn f [] = f := rfl
theorem intake_ext {i j : Intake} (h0 : i.s0 = j.s0) (h1 : i.s1 = j.s1) (h2 : i.s2 = j.s2) (h : i.row = j.row) : i = j := by
  obtain ⟨a, b, c, d⟩ := i
  obtain ⟨a', b', c', d'⟩ := j
  simp only at h0 h1 h2 h
  subst h0 h1 h2 h
  rfl
theorem setStmt_row (i : Intake) (s : Stmt) : (setStmt i s).row = rowsK (setStmt i s) 3 := rfl
theorem rowsK_three (i : Intake) : rowsK i 3 = rowsIn (rowsIn (rowsIn (fun _ _ => none) i.s0.rows) i.s1.rows) i.s2.rows := rfl
theorem ofStmts_inv {i : Intake} (hs : SetOk i) (h0 : StOk 0 i.s0) (h1 : StOk 1 i.s1) (h2 : StOk 2 i.s2) : ofStmts noIntake i.s0 i.s1 i.s2 = some i := by
  have hp0 : i.s0 ≠ noStmt → i.s0.party = 0 := fun h => by rcases h0 with e | ⟨_, e⟩; exact absurd e h; exact e
  have hp1 : i.s1 ≠ noStmt → i.s1.party = 1 := fun h => by rcases h1 with e | ⟨_, e⟩; exact absurd e h; exact e
  have hp2 : i.s2 ≠ noStmt → i.s2.party = 2 := fun h => by rcases h2 with e | ⟨_, e⟩; exact absurd e h; exact e
  obtain ⟨j0, ej0, a0, a1, a2, a3⟩ : ∃ j, (if i.s0 = noStmt then noIntake else setStmt noIntake i.s0) = j ∧ j.s0 = i.s0 ∧ j.s1 = noStmt ∧ j.s2 = noStmt ∧ j.row = rowsK j 3 := by
    by_cases e : i.s0 = noStmt
    · exact ⟨_, rfl, by rw [if_pos e, e]; rfl, by rw [if_pos e]; rfl, by rw [if_pos e]; rfl, by rw [if_pos e]; exact setOk_no.row⟩
    · have := hp0 e
      exact ⟨_, rfl, by rw [if_neg e]; unfold setStmt; simp [this], by rw [if_neg e]; unfold setStmt; simp [this, noIntake], by rw [if_neg e]; unfold setStmt; simp [this, noIntake], by rw [if_neg e]; rfl⟩
  obtain ⟨j1, ej1, b0, b1, b2, b3⟩ : ∃ j, (if i.s1 = noStmt then j0 else setStmt j0 i.s1) = j ∧ j.s0 = i.s0 ∧ j.s1 = i.s1 ∧ j.s2 = noStmt ∧ j.row = rowsK j 3 := by
    by_cases e : i.s1 = noStmt
    · exact ⟨_, rfl, by rw [if_pos e]; exact a0, by rw [if_pos e, a1, e], by rw [if_pos e]; exact a2, by rw [if_pos e]; exact a3⟩
    · have := hp1 e
      exact ⟨_, rfl, by rw [if_neg e]; unfold setStmt; simp [this, a0], by rw [if_neg e]; unfold setStmt; simp [this], by rw [if_neg e]; unfold setStmt; simp [this, a2], by rw [if_neg e]; rfl⟩
  obtain ⟨j2, ej2, c0, c1, c2, c3⟩ : ∃ j, (if i.s2 = noStmt then j1 else setStmt j1 i.s2) = j ∧ j.s0 = i.s0 ∧ j.s1 = i.s1 ∧ j.s2 = i.s2 ∧ j.row = rowsK j 3 := by
    by_cases e : i.s2 = noStmt
    · exact ⟨_, rfl, by rw [if_pos e]; exact b0, by rw [if_pos e]; exact b1, by rw [if_pos e, b2, e], by rw [if_pos e]; exact b3⟩
    · have := hp2 e
      exact ⟨_, rfl, by rw [if_neg e]; unfold setStmt; simp [this, b0], by rw [if_neg e]; unfold setStmt; simp [this, b1], by rw [if_neg e]; unfold setStmt; simp [this], by rw [if_neg e]; rfl⟩
  unfold ofStmts
  rw [ofStmt_set h0 (by omega) rfl]
  simp only
  rw [ej0, ofStmt_set h1 (by omega) (by show newest j0 1 = noStmt; unfold newest; simp [a1])]
  simp only
  rw [ej1, ofStmt_set h2 (by omega) (by show newest j1 2 = noStmt; unfold newest; simp [b2])]
  rw [ej2]
  congr 1
  refine intake_ext c0 c1 c2 ?_
  rw [c3, hs.row, rowsK_three, rowsK_three, c0, c1, c2]
theorem inv_of {C : Core} {n : Nat} (h : Inv C n) : coreOf ⟨C.l, C.b.l, C.i.s0, C.i.s1, C.i.s2⟩ = some C := by
  have hs : ofSagas [] C.l = true := ofSagas_all C.l [] (fun i s hs => by rw [h.ids i s hs]; simp) (fun s hs => inL_valid (h.ok s hs).2 (h.ok s hs).1) (fun i s hs t ht e => by
    simp only [List.nil_append] at ht
    obtain ⟨k, hk⟩ := List.getElem?_of_mem ht
    rw [List.getElem?_take] at hk
    split at hk
    · have := h.refs k i t s hk hs e; omega
    · cases hk)
  exact coreOf_yes (by have := h.many; simp only; omega) hs h.replay (ofStmts_inv h.set h.st0 h.st1 h.st2) (by
    unfold balanced
    rw [List.all_eq_true]
    intro j hj
    simp only [List.mem_range] at hj
    rw [Bool.and_eq_true, decide_eq_true_eq, decide_eq_true_eq]
    exact ⟨h.bal1 (j + 1) (by omega) (by omega), h.bal2 (j + 1) (by omega) (by omega)⟩)
theorem stOk_ok {k : Int} {s : Stmt} (h : StOk k s) : s = noStmt ∨ stmtOk s.party s.seq s.rows = true := by
  rcases h with h | ⟨h, e⟩
  · exact .inl h
  · exact .inr (by rw [e]; exact h)
theorem inv_form {C : Core} {n : Nat} (h : Inv C n) (hn : n ≤ 1000000) : FormOk C :=
  ⟨fun s hs => ⟨(h.ok s hs).1, deedIn_of (h.ok s hs).2⟩, h.many, h.posts, Nat.le_trans h.cnt hn, stOk_ok h.st0, stOk_ok h.st1, stOk_ok h.st2⟩
end Sp
end Go.Proofs.YtkgpnikmdmpfaaaGreatDoor

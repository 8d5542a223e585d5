/-
  snaps.Get.
-/
import Derived.Test.YtkgpnikmdmpfaaaGreatDoorBackP34
import Derived.Test.YtkgpnikmdmpfaaaGreatDoorBackP36
set_option linter.unusedVariables false
set_option linter.unusedSimpArgs false
namespace Go.Proofs.YtkgpnikmdmpfaaaGreatDoor
open Go.RowKit Go.Maps

/-! what is read -/
theorem orderGet_check {s : Bytes} {o : Sp.Order} (h : orderGet s = some o) : Sp.orderCheck o = 0 := by
  unfold orderGet at h
  split at h
  · rename_i hg
    cases h
    simp only [ordGood, Bool.and_eq_true, decide_eq_true_eq] at hg
    exact hg.2
  · cases h
theorem undeeds_o (o : Sp.Order) (n : Int) : (undeeds o n).o = o := rfl
theorem rdSagas_len : ∀ (f : Nat) (n : Int) (s : Bytes) (ok : Bool) (acc : List Sp.Saga), (∀ x ∈ acc, x.o.ref.length ≤ 16 ∧ x.o.sku.length ≤ 8) → ∀ x ∈ (rdSagas f n s ok acc).1, x.o.ref.length ≤ 16 ∧ x.o.sku.length ≤ 8
  | 0, _, _, _, _, h => h
  | f + 1, n, s, ok, acc, h => by
    rw [rdSagas]
    split
    · refine rdSagas_len f _ _ _ _ (fun x hx => ?_)
      rcases List.mem_append.1 hx with hx | hx
      · exact h x hx
      · simp only [List.mem_singleton] at hx
        subst hx
        rw [undeeds_o]
        cases ho : orderGet (rdText s ok).1 with
        | none => simp [orderZero]
        | some o => exact order_len (orderGet_check ho)
    · exact h
theorem wrap64_in64 (n : Int) : Sp.in64 (wrap64 n) = true := by
  simp only [Sp.in64, Bool.and_eq_true, decide_eq_true_eq, wrap64]
  omega
theorem backN_in64 {n : Int} (h0 : 0 ≤ n) (h1 : n ≤ 18446744073709551615) : Sp.in64 (backN n) = true := by
  have h2 : -9223372036854775808 ≤ backN n ∧ backN n ≤ 9223372036854775807 := by
    unfold backN
    by_cases h : n % 2 = 1
    · rw [if_pos h]; omega
    · rw [if_neg h]; omega
  simp only [Sp.in64, Bool.and_eq_true, decide_eq_true_eq]
  exact h2
theorem rdPost_in (s : Bytes) (ok : Bool) (hs : s.length ≤ 1000000) : PostIn (rdPost s ok).1 := by
  unfold rdPost
  dsimp only
  have h1 := rdText_len s ok
  have h2 := rdText_len (rdText s ok).1 (rdText s ok).2.2
  refine ⟨by simp only; omega, wrap64_in64 _, wrap64_in64 _, wrap64_in64 _, backN_in64 ?_ ?_⟩
  · exact (rdNum_len _ _).2.1
  · exact (rdNum_len _ _).2.2
theorem rdPosts_in : ∀ (f : Nat) (n : Int) (s : Bytes) (ok : Bool) (acc : List Sp.Posting), s.length ≤ 1000000 → (∀ x ∈ acc, PostIn x) → (∀ x ∈ (rdPosts f n s ok acc).1, PostIn x) ∧ (rdPosts f n s ok acc).1.length ≤ acc.length + f
  | 0, _, _, _, _, _, h => ⟨h, Nat.le_refl _⟩
  | f + 1, n, s, ok, acc, hs, h => by
    rw [rdPosts]
    split
    · have := rdPosts_in f (n - 1) (rdPost s ok).2.1 (rdPost s ok).2.2 (acc ++ [(rdPost s ok).1]) (by have := (rdPost_rest s ok).1; omega) (fun x hx => by
        rcases List.mem_append.1 hx with hx | hx
        · exact h x hx
        · simp only [List.mem_singleton] at hx
          subst hx
          exact rdPost_in s ok hs)
      refine ⟨this.1, ?_⟩
      have h2 := this.2
      simp only [List.length_append, List.length_singleton] at h2
      show (rdPosts f (n - 1) (rdPost s ok).2.1 (rdPost s ok).2.2 (acc ++ [(rdPost s ok).1])).1.length ≤ _
      omega
    · exact ⟨h, by simp only; omega⟩
theorem rdSagas_rest : ∀ (f : Nat) (n : Int) (s : Bytes) (ok : Bool) (acc : List Sp.Saga), (rdSagas f n s ok acc).2.1.length ≤ s.length
  | 0, _, s, _, _ => Nat.le_refl _
  | f + 1, n, s, ok, acc => by
    rw [rdSagas]
    split
    · refine Nat.le_trans (rdSagas_rest f _ _ _ _) ?_
      have h1 := rdText_len s ok
      have h2 := (rdNum_len (rdText s ok).2.1 (rdText s ok).2.2).1
      omega
    · exact Nat.le_refl _
theorem rdParts_sagas (s : Bytes) : ∀ x ∈ (rdParts s).1.sagas, x.o.ref.length ≤ 4611686018427387900 ∧ x.o.sku.length ≤ 4611686018427387900 := fun x hx => by
  have := rdSagas_len (s.length + 1) (rdNum s true).1 (rdNum s true).2.1 (rdNum s true).2.2 [] (by simp) x hx
  omega
theorem rdParts_posts (s : Bytes) (hs : s.length ≤ 900000) : (∀ x ∈ (rdParts s).1.posts, PostIn x) ∧ (rdParts s).1.posts.length < 1000000 := by
  have hl : (rdNum (rdSagas (s.length + 1) (rdNum s true).1 (rdNum s true).2.1 (rdNum s true).2.2 []).2.1 (rdSagas (s.length + 1) (rdNum s true).1 (rdNum s true).2.1 (rdNum s true).2.2 []).2.2).2.1.length ≤ s.length := by
    have h1 := (rdNum_len s true).1
    have h2 := rdSagas_rest (s.length + 1) (rdNum s true).1 (rdNum s true).2.1 (rdNum s true).2.2 []
    have h3 := (rdNum_len (rdSagas (s.length + 1) (rdNum s true).1 (rdNum s true).2.1 (rdNum s true).2.2 []).2.1 (rdSagas (s.length + 1) (rdNum s true).1 (rdNum s true).2.1 (rdNum s true).2.2 []).2.2).1
    omega
  have := rdPosts_in (s.length + 1) (rdNum (rdSagas (s.length + 1) (rdNum s true).1 (rdNum s true).2.1 (rdNum s true).2.2 []).2.1 (rdSagas (s.length + 1) (rdNum s true).1 (rdNum s true).2.1 (rdNum s true).2.2 []).2.2).1 _ (rdNum (rdSagas (s.length + 1) (rdNum s true).1 (rdNum s true).2.1 (rdNum s true).2.2 []).2.1 (rdSagas (s.length + 1) (rdNum s true).1 (rdNum s true).2.1 (rdNum s true).2.2 []).2.2).2.2 [] (Nat.le_trans hl (by omega)) (by simp)
  refine ⟨this.1, ?_⟩
  have h2 := this.2
  simp only [List.length_nil] at h2
  exact Nat.lt_of_le_of_lt h2 (by omega)

def GetPost (w : World) (s : Bytes) (e : Ending) (w' : World) : Prop :=
  Below w.heap.size w w' ∧ ((snapGet s = none ∧ e = .returned (.tuple #[.pointer none, .int .i64 10])) ∨
    ∃ C base pc vl pb vb P Q v0 v1 v2 m, snapGet s = some C ∧ e = .returned (.tuple #[.pointer (some ⟨pc, 0, none⟩), .int .i64 0]) ∧ CoreIs w' base pc vl pb vb P Q v0 v1 v2 m C)
theorem getPost_none {w w' : World} {s : Bytes} (h : snapGet s = none) (hb : Below w.heap.size w w') : GetPost w s (.returned (.tuple #[.pointer none, .int .i64 10])) w' := ⟨hb, .inl ⟨h, rfl⟩⟩
theorem snapGet_eq {s rest : Bytes} {pt : Parts} {ok : Bool} (hs : s ≠ []) (hr : rdParts s = (pt, rest, ok)) : snapGet s = if ok && rest.isEmpty then (match coreOf pt with | none => none | some C => if putB C = (s, 0) then some C else none) else none := by
  unfold snapGet
  rw [if_neg hs]
  simp only [hr]
  rfl
theorem rd_new (w : World) (s : Bytes) (t : TypeId) : Rd (w.alloc (.cells #[.string (str s), .bool true] t)) w.heap.size s true := by
  unfold Rd
  rw [row?_alloc, if_pos rfl]
  rfl
theorem rd_below {w w' : World} {p : Nat} {s : Bytes} {ok : Bool} (h : Rd w p s ok) (hb : Below w.heap.size w w') : Rd w' p s ok := by
  unfold Rd at *
  rw [row?_congr (hb.block p (row?_lt h))]; exact h
set_option maxRecDepth 100000 in
set_option maxHeartbeats 8000000 in
theorem get_any (w : World) (s : Bytes) (hpar : Parties w) (hlen : s.length ≤ 900000) : Calls Tryz.prog 13 #[.string (str s)] w (GetPost w s) := by
  by_cases hs : s = []
  · subst hs
    go_enter Tryz.func13, Tryz.ntmps13
    go_wp2_with (go_at_call 7; refine Calls.mono (coreNew_any _) ?_; rintro e w1 ⟨pc, pb, P, Q, rfl, hC, hb⟩; replace hC := Lib.hid hC; replace hb := Lib.hid hb)
    refine bodyPost_ret (v := .tuple #[.pointer (some ⟨pc, 0, none⟩), .int .i64 0]) ?_ rfl ⟨hb.out, .inr ⟨Sp.noCore, _, _, _, _, _, _, _, _, _, _, _, by simp [snapGet], rfl, hC.out⟩⟩
    simp [results, Tryz.results13, go_sem]
  · have hne := ne_nil_beq hs
    have hp0 : 2 < w.heap.size := World.block_lt_of_cell? w _ (hpar 0 (by omega))
    rcases hr : rdParts s with ⟨pt, rest, ok⟩
    have hSG := Lib.hid (snapGet_eq hs hr)
    have hsag := rdParts_sagas s
    have hpos := rdParts_posts s hlen
    have HR := readParts_any w.heap.size s _ (rd_new w s 98) (by omega) (hpar.grew (alloc_grew _ _)) hp0
    unfold ReadParts at HR
    rw [hr] at hsag hpos HR
    replace HR := Lib.hid HR
    replace hsag := Lib.hid hsag
    replace hpos := Lib.hid hpos
    replace hs := Lib.hid hs
    replace hpar := Lib.hid hpar
    clear hr
    go_enter Tryz.func13, Tryz.ntmps13
    go_wp2_with fail
    refine Calls.mono HR.out ?_
    rintro e w1 ⟨vs, vp, u0, u1, u2, rfl, hvs, hvp, hr0, hr1, hr2, hg, hrd⟩
    obtain ⟨qs, ks, rfl⟩ := slc_shape hvs
    obtain ⟨qp, kp, rfl⟩ := slc_shape hvp
    obtain ⟨q0, k0, rfl⟩ := slc_shape hr0
    obtain ⟨q1, k1, rfl⟩ := slc_shape hr1
    obtain ⟨q2, k2, rfl⟩ := slc_shape hr2
    have hB1 : Below w.heap.size w w1 := Below.grown (alloc_grew w _) hg (by simp) (fun k hk => by simp at hk; omega)
    have HO := fun W (hW : Below w1.heap.size w1 W) => of_any W pt _ _ _ _ _ (hvs.mono hW) (hvp.mono hW) (hr0.mono hW) (hr1.mono hW) (hr2.mono hW) ((hpar.out.grew hB1).grew hW) hsag.out hpos.out.1 hpos.out.2
    obtain ⟨c0, c1, hf0, hf1, hpl⟩ := row2_cells hrd
    have hz1 := hB1.size
    clear hvs hvp hr0 hr1 hr2 hg
    replace hrd := Lib.hid hrd
    replace hB1 := Lib.hid hB1
    replace HO := Lib.hid HO
    simp only
    cases ok
    · have hN := Lib.hid (show snapGet s = none by rw [hSG.out]; rfl)
      go_wp2
      refine bodyPost_ret (v := .tuple #[.pointer none, .int .i64 10]) ?_ rfl (getPost_none hN.out ?_)
      · simp [results, Tryz.results13, go_sem, ↓IntWalk.iteOmega, *]
      · have := hB1.out
        (repeat (first | (with_reducible first | exact zR _ _ | exact zA _ _ | assumption | refine zL ?_ _ | refine zD ?_ | refine zN ?_ _) | ((with_reducible first | refine zC ?_ ?_ _ | refine zW ?_ ?_ _); rotate_left; focus (first | exact Nat.le_refl _ | (simp; done) | (simp; omega) | omega)) | with_reducible refine zT ?_ (by assumption)))
    · by_cases hrest : rest = []
      · subst hrest
        have hSG2 := Lib.hid (show snapGet s = (match coreOf pt with | none => none | some C => if putB C = (s, 0) then some C else none) by rw [hSG.out]; rfl)
        rcases hco : coreOf pt with _ | C
        · have hN := Lib.hid (show snapGet s = none by rw [hSG2.out, hco])
          have HO2 := fun W hW => (HO.out W hW).mono (fun e w' h => (show Below W.heap.size W w' ∧ e = .returned (.tuple #[.pointer none, .int .i64 2]) from ⟨h.1, by rcases h.2 with ⟨_, h2⟩ | ⟨C', _, _, _, _, _, _, _, _, _, _, _, h3, _⟩; exact h2; rw [hco] at h3; cases h3⟩))
          replace HO2 := Lib.hid HO2
          clear HO hSG hSG2 hco
          go_wp2_with (go_at_call 47; refine Calls.mono (HO2.out _ (by (repeat (first | (with_reducible first | exact zR _ _ | exact zA _ _ | assumption | refine zL ?_ _ | refine zD ?_ | refine zN ?_ _) | ((with_reducible first | refine zC ?_ ?_ _ | refine zW ?_ ?_ _); rotate_left; focus (first | exact Nat.le_refl _ | (simp; done) | (simp; omega) | omega)) | with_reducible refine zT ?_ (by assumption))))) ?_; rintro e w2 ⟨hb2, rfl⟩)
          refine bodyPost_ret (v := .tuple #[.pointer none, .int .i64 10]) ?_ rfl (getPost_none hN.out ?_)
          · simp [results, Tryz.results13, go_sem, ↓IntWalk.iteOmega, *]
          · have := hB1.out
            (repeat (first | (with_reducible first | exact zR _ _ | exact zA _ _ | assumption | refine zL ?_ _ | refine zD ?_ | refine zN ?_ _) | ((with_reducible first | refine zC ?_ ?_ _ | refine zW ?_ ?_ _); rotate_left; focus (first | exact Nat.le_refl _ | (simp; done) | (simp; omega) | omega)) | with_reducible refine zT ?_ (by assumption)))
        · rcases hpb : putB C with ⟨tx, n⟩
          have HO2 := fun W hW => (HO.out W hW).mono (fun e w' h => (show Below W.heap.size W w' ∧ ∃ base pc vl pb vb P Q v0 v1 v2 m, e = .returned (.tuple #[.pointer (some ⟨pc, 0, none⟩), .int .i64 0]) ∧ CoreIs w' base pc vl pb vb P Q v0 v1 v2 m C from ⟨h.1, by rcases h.2 with ⟨h2, _⟩ | ⟨C', base, pc, vl, pb, vb, P, Q, v0, v1, v2, m, h3, h4, h5⟩; rw [hco] at h2; cases h2; rw [hco] at h3; cases h3; exact ⟨_, _, _, _, _, _, _, _, _, _, _, h4, h5⟩⟩))
          have hS3 : snapGet s = if (tx, n) = (s, 0) then some C else none := by rw [hSG2.out, hco]; simp only [hpb]
          replace HO2 := Lib.hid HO2
          replace hpb := Lib.hid hpb
          clear HO hSG hSG2 hco
          by_cases hn : n = 0
          · subst hn
            by_cases ht : tx = s
            · subst ht
              have hN := Lib.hid (show snapGet tx = some C by rw [hS3, if_pos rfl])
              clear hS3
              go_wp2_with (first
                | (go_at_call 47; refine Calls.mono (HO2.out _ (by (repeat (first | (with_reducible first | exact zR _ _ | exact zA _ _ | assumption | refine zL ?_ _ | refine zD ?_ | refine zN ?_ _) | ((with_reducible first | refine zC ?_ ?_ _ | refine zW ?_ ?_ _); rotate_left; focus (first | exact Nat.le_refl _ | (simp; done) | (simp; omega) | omega)) | with_reducible refine zT ?_ (by assumption))))) ?_; rintro e w2 ⟨hb2, base, pc, vl, pb, vb, P, Q, v0, v1, v2, m, rfl, hC⟩; replace hC := Lib.hid hC; have hpar2 := Lib.hid ((hpar.out.grew hB1.out).grew ((show Below w1.heap.size w1 w2 by (repeat (first | (with_reducible first | exact zR _ _ | exact zA _ _ | assumption | refine zL ?_ _ | refine zD ?_ | refine zN ?_ _) | ((with_reducible first | refine zC ?_ ?_ _ | refine zW ?_ ?_ _); rotate_left; focus (first | exact Nat.le_refl _ | (simp; done) | (simp; omega) | omega)) | with_reducible refine zT ?_ (by assumption)))))); replace hb2 := Lib.hid hb2)
                | (go_at_call 11; refine Calls.mono (put_any _ _ _ _ _ _ _ _ _ _ _ _ _ hC.out hpar2.out) ?_; unfold PutPost; rw [hpb.out]; rintro e w3 ⟨rfl, hb3⟩; have hC3 := Lib.hid (hC.out.below hb3); replace hb3 := Lib.hid hb3))
              refine bodyPost_ret (v := .tuple #[.pointer (some ⟨pc, 0, none⟩), .int .i64 0]) ?_ rfl ⟨?_, .inr ⟨C, _, _, _, _, _, _, _, _, _, _, _, hN.out, rfl, hC3.out⟩⟩
              · simp [results, Tryz.results13, go_sem, ↓IntWalk.iteOmega, *]
              · have := hB1.out
                have := hb2.out
                have := hb3.out
                (repeat (first | (with_reducible first | exact zR _ _ | exact zA _ _ | assumption | refine zL ?_ _ | refine zD ?_ | refine zN ?_ _) | ((with_reducible first | refine zC ?_ ?_ _ | refine zW ?_ ?_ _); rotate_left; focus (first | exact Nat.le_refl _ | (simp; done) | (simp; omega) | omega)) | with_reducible refine zT ?_ (by assumption)))
            · have hN := Lib.hid (show snapGet s = none by rw [hS3, if_neg (by simp [ht])])
              have hts : (tx == s) = false := by simp [ht]
              have hts2 : (tx != s) = true := by simp [ht]
              clear hS3
              go_wp2_with (first
                | (go_at_call 47; refine Calls.mono (HO2.out _ (by (repeat (first | (with_reducible first | exact zR _ _ | exact zA _ _ | assumption | refine zL ?_ _ | refine zD ?_ | refine zN ?_ _) | ((with_reducible first | refine zC ?_ ?_ _ | refine zW ?_ ?_ _); rotate_left; focus (first | exact Nat.le_refl _ | (simp; done) | (simp; omega) | omega)) | with_reducible refine zT ?_ (by assumption))))) ?_; rintro e w2 ⟨hb2, base, pc, vl, pb, vb, P, Q, v0, v1, v2, m, rfl, hC⟩; replace hC := Lib.hid hC; have hpar2 := Lib.hid ((hpar.out.grew hB1.out).grew ((show Below w1.heap.size w1 w2 by (repeat (first | (with_reducible first | exact zR _ _ | exact zA _ _ | assumption | refine zL ?_ _ | refine zD ?_ | refine zN ?_ _) | ((with_reducible first | refine zC ?_ ?_ _ | refine zW ?_ ?_ _); rotate_left; focus (first | exact Nat.le_refl _ | (simp; done) | (simp; omega) | omega)) | with_reducible refine zT ?_ (by assumption)))))); replace hb2 := Lib.hid hb2)
                | (go_at_call 11; refine Calls.mono (put_any _ _ _ _ _ _ _ _ _ _ _ _ _ hC.out hpar2.out) ?_; unfold PutPost; rw [hpb.out]; rintro e w3 ⟨rfl, hb3⟩; replace hb3 := Lib.hid hb3))
              refine bodyPost_ret (v := .tuple #[.pointer none, .int .i64 10]) ?_ rfl (getPost_none hN.out ?_)
              · simp [results, Tryz.results13, go_sem, ↓IntWalk.iteOmega, *]
              · have := hB1.out
                have := hb2.out
                have := hb3.out
                (repeat (first | (with_reducible first | exact zR _ _ | exact zA _ _ | assumption | refine zL ?_ _ | refine zD ?_ | refine zN ?_ _) | ((with_reducible first | refine zC ?_ ?_ _ | refine zW ?_ ?_ _); rotate_left; focus (first | exact Nat.le_refl _ | (simp; done) | (simp; omega) | omega)) | with_reducible refine zT ?_ (by assumption)))
          · have hN := Lib.hid (show snapGet s = none by rw [hS3, if_neg (by simp [hn])])
            clear hS3
            go_wp2_with (first
              | (go_at_call 47; refine Calls.mono (HO2.out _ (by (repeat (first | (with_reducible first | exact zR _ _ | exact zA _ _ | assumption | refine zL ?_ _ | refine zD ?_ | refine zN ?_ _) | ((with_reducible first | refine zC ?_ ?_ _ | refine zW ?_ ?_ _); rotate_left; focus (first | exact Nat.le_refl _ | (simp; done) | (simp; omega) | omega)) | with_reducible refine zT ?_ (by assumption))))) ?_; rintro e w2 ⟨hb2, base, pc, vl, pb, vb, P, Q, v0, v1, v2, m, rfl, hC⟩; replace hC := Lib.hid hC; have hpar2 := Lib.hid ((hpar.out.grew hB1.out).grew ((show Below w1.heap.size w1 w2 by (repeat (first | (with_reducible first | exact zR _ _ | exact zA _ _ | assumption | refine zL ?_ _ | refine zD ?_ | refine zN ?_ _) | ((with_reducible first | refine zC ?_ ?_ _ | refine zW ?_ ?_ _); rotate_left; focus (first | exact Nat.le_refl _ | (simp; done) | (simp; omega) | omega)) | with_reducible refine zT ?_ (by assumption)))))); replace hb2 := Lib.hid hb2)
              | (go_at_call 11; refine Calls.mono (put_any _ _ _ _ _ _ _ _ _ _ _ _ _ hC.out hpar2.out) ?_; unfold PutPost; rw [hpb.out]; rintro e w3 ⟨rfl, hb3⟩; replace hb3 := Lib.hid hb3))
            refine bodyPost_ret (v := .tuple #[.pointer none, .int .i64 10]) ?_ rfl (getPost_none hN.out ?_)
            · simp [results, Tryz.results13, go_sem, ↓IntWalk.iteOmega, *]
            · have := hB1.out
              have := hb2.out
              have := hb3.out
              (repeat (first | (with_reducible first | exact zR _ _ | exact zA _ _ | assumption | refine zL ?_ _ | refine zD ?_ | refine zN ?_ _) | ((with_reducible first | refine zC ?_ ?_ _ | refine zW ?_ ?_ _); rotate_left; focus (first | exact Nat.le_refl _ | (simp; done) | (simp; omega) | omega)) | with_reducible refine zT ?_ (by assumption)))
      · have hne2 := ne_nil_beq hrest
        have hN := Lib.hid (show snapGet s = none by rw [hSG.out]; cases rest; exact absurd rfl hrest; rfl)
        replace hrest := Lib.hid hrest
        go_wp2
        refine bodyPost_ret (v := .tuple #[.pointer none, .int .i64 10]) ?_ rfl (getPost_none hN.out ?_)
        · simp [results, Tryz.results13, go_sem, ↓IntWalk.iteOmega, *]
        · have := hB1.out
          (repeat (first | (with_reducible first | exact zR _ _ | exact zA _ _ | assumption | refine zL ?_ _ | refine zD ?_ | refine zN ?_ _) | ((with_reducible first | refine zC ?_ ?_ _ | refine zW ?_ ?_ _); rotate_left; focus (first | exact Nat.le_refl _ | (simp; done) | (simp; omega) | omega)) | with_reducible refine zT ?_ (by assumption)))
end Go.Proofs.YtkgpnikmdmpfaaaGreatDoor

/-
  core.Core.reply.
-/
import Derived.Test.YtkgpnikmdmpfaaaGreatDoorBackP28
import Derived.Test.YtkgpnikmdmpfaaaGreatDoorBackP29
set_option linter.unusedVariables false
set_option linter.unusedSimpArgs false
namespace Go.Proofs.YtkgpnikmdmpfaaaGreatDoor
open Go.RowKit Go.Maps

theorem onward_o (s : Sp.Saga) : (Sp.onward s).o = s.o := by
  unfold Sp.onward
  split
  · repeat' split
    all_goals rfl
  · repeat' split
    all_goals rfl
theorem setD_o (s : Sp.Saga) (d v : Int) : (Sp.setD s d v).o = s.o := by
  unfold Sp.setD
  repeat' split
  all_goals rfl
theorem waits_rng (s : Sp.Saga) : Sp.waits s = -1 ∨ (0 ≤ Sp.waits s ∧ Sp.waits s ≤ 5) := by
  unfold Sp.waits
  repeat' split
  all_goals omega
theorem reply_order {s t : Sp.Saga} {d c : Int} (h : Sp.reply s d c = some t) : t.o = s.o ∧ 0 ≤ d ∧ d ≤ 5 := by
  have hw := waits_rng s
  unfold Sp.reply at h
  split at h
  · cases h
  · rename_i hn
    have hd : 0 ≤ d ∧ d ≤ 5 := by omega
    split at h
    · cases h; exact ⟨by rw [onward_o, setD_o], hd⟩
    · split at h
      · cases h; exact ⟨by rw [onward_o, setD_o], hd⟩
      · cases h
theorem net_in {s : Sp.Saga} (h : Sp.orderCheck s.o = 0) : 0 ≤ Sp.net s ∧ Sp.net s ≤ 1099511627776 := by
  have h2 : 1 ≤ s.o.amount ∧ s.o.amount ≤ 1099511627776 := by
    unfold Sp.orderCheck at h
    split at h
    · simp at h
    · omega
  unfold Sp.net
  split <;> omega
/-- A posting that was posted (or refused). -/
theorem core_post {W W' : World} {base pc pb P Q : Nat} {vl vb z v0 v1 v2 : Value} {m : Option Nat} {C : Sp.Core} {b : Sp.Books} (h : CoreIs W base pc vl pb vb P Q v0 v1 v2 m C) (hb : BooksIs W' base pb z P Q b) (hk : Keeps (fun k => k = pb ∨ k = P ∨ k = Q ∨ vb.ownBlock = some k) W W') :
    CoreIs W' base pc vl pb z P Q v0 v1 v2 m ⟨C.l, b, C.i⟩ ∧ Below base W W' := by
  refine ⟨h.post hb hk, hk.below (Below.refl _ _) h.low (fun k hk' => ?_)⟩
  have hg := h.books.ge
  rcases hk' with rfl | rfl | rfl | hk'
  · exact hg.1
  · exact hg.2.1
  · exact hg.2.2
  · exact (h.books.own.lt k hk').1
theorem and3' {a b c X : Prop} (h : a ∧ b ∧ c ∧ X) : X := h.2.2.2
theorem and24 {a0 a1 a2 a3 a4 a5 a6 a7 a8 a9 a10 a11 b0 b1 b2 b3 b4 b5 b6 b7 b8 b9 b10 b11 X : Prop} (h : a0 ∧ a1 ∧ a2 ∧ a3 ∧ a4 ∧ a5 ∧ a6 ∧ a7 ∧ a8 ∧ a9 ∧ a10 ∧ a11 ∧ b0 ∧ b1 ∧ b2 ∧ b3 ∧ b4 ∧ b5 ∧ b6 ∧ b7 ∧ b8 ∧ b9 ∧ b10 ∧ b11 ∧ X) : X := h.2.2.2.2.2.2.2.2.2.2.2.2.2.2.2.2.2.2.2.2.2.2.2.2
set_option maxRecDepth 100000 in
set_option maxHeartbeats 20000000 in
theorem reply_any (w : World) (base pc pb P Q : Nat) (vl vb v0 v1 v2 : Value) (m : Option Nat) (C : Sp.Core) (h : CoreIs w base pc vl pb vb P Q v0 v1 v2 m C) (htab : ∀ W, Below base w W → Tabs W) (hfew : C.b.l.length < 1000000) (ko kd code : Int) :
    Calls Tryz.prog 23 #[.pointer (some ⟨pc, 0, none⟩), .agg #[.int .i64 ko, .int .i64 kd], .int .i64 code] w (ApplyPost w base pc pb P Q (Sp.replyAt C ko kd code)) := by
  by_cases hid : ko < 1 ∨ (C.l.length : Int) < ko
  · have hS : Sp.replyAt C ko kd code = (C, 4) := by
      have hn : Sp.sagaAt C.l ko = none := by
        unfold Sp.sagaAt
        split
        · exact List.getElem?_eq_none (by omega)
        · rfl
      unfold Sp.replyAt
      rw [hn]
    rw [hS]
    have HO := Lib.hid (fun W (hW : Below w.heap.size w W) => order_none W base pc pb P Q vl vb v0 v1 v2 m C (h.below hW) ko hid)
    have HC := Lib.hid h
    clear h hid hS htab
    unfold orderNone at HO
    go_enter Tryz.func23, Tryz.ntmps23
    go_wp2_with (go_at_call 52; refine Calls.mono (HO.out _ (by (repeat (first | (with_reducible first | exact zR _ _ | exact zA _ _ | assumption | refine zL ?_ _ | refine zD ?_ | refine zN ?_ _) | ((with_reducible first | refine zC ?_ ?_ _ | refine zW ?_ ?_ _); rotate_left; focus (first | exact Nat.le_refl _ | (simp; done) | (simp; omega) | omega)) | with_reducible refine zT ?_ (by assumption))))) ?_; rintro e w1 ⟨rfl, hb1⟩; replace hb1 := Lib.hid hb1)
    go_ret
    refine ApplyPost.same HC.out ?_
    have := hb1.out
    (repeat (first | (with_reducible first | exact zR _ _ | exact zA _ _ | assumption | refine zL ?_ _ | refine zD ?_ | refine zN ?_ _) | ((with_reducible first | refine zC ?_ ?_ _ | refine zW ?_ ?_ _); rotate_left; focus (first | exact Nat.le_refl _ | (simp; done) | (simp; omega) | omega)) | with_reducible refine zT ?_ (by assumption)))
  · obtain ⟨k, rfl⟩ : ∃ k : Nat, ko = (k : Int) + 1 := ⟨ko.toNat - 1, by omega⟩
    have hk : k < C.l.length := by omega
    obtain ⟨s, hs⟩ : ∃ s, C.l[k]? = some s := ⟨_, List.getElem?_eq_getElem hk⟩
    have hat : Sp.sagaAt C.l ((k : Int) + 1) = some s := by
      unfold Sp.sagaAt
      rw [if_pos (by omega), show ((k : Int) + 1).toNat - 1 = k by omega, hs]
    have HO := Lib.hid (fun W (hW : Below w.heap.size w W) => order_some W base pc pb P Q vl vb v0 v1 v2 m C (h.below hW) k s hs)
    have HS := fun W => Reply_any s kd code W
    have hchs := h.checked s (List.mem_of_getElem? hs)
    have hmany := h.orders
    rcases hst : Sp.reply s kd code with _ | t
    · have hS : Sp.replyAt C ((k : Int) + 1) kd code = (C, 92) := by unfold Sp.replyAt; rw [hat]; simp only [hst]
      rw [hS]
      rw [hst] at HS
      simp only [replyRes, Option.isSome_none] at HS
      have HC := Lib.hid h
      clear h hS hat hs hid hst htab hchs
      obtain ⟨⟨oid, ref, sku, qty, amount⟩, d0, d1, d2, d3, d4, d5, cancel⟩ := s
      simp only [sagaVal] at HO HS
      replace HS := Lib.hid HS
      go_enter Tryz.func23, Tryz.ntmps23
      go_wp2_with (first
        | (go_at_call 52; refine Calls.mono (HO.out _ (by (repeat (first | (with_reducible first | exact zR _ _ | exact zA _ _ | assumption | refine zL ?_ _ | refine zD ?_ | refine zN ?_ _) | ((with_reducible first | refine zC ?_ ?_ _ | refine zW ?_ ?_ _); rotate_left; focus (first | exact Nat.le_refl _ | (simp; done) | (simp; omega) | omega)) | with_reducible refine zT ?_ (by assumption))))) ?_; rintro e w1 ⟨rfl, hb1⟩; have hz1 := hb1.size; (try simp at hz1); have hlt1 : w.heap.size < w1.heap.size := (by omega); obtain ⟨hc1, hf1, _, _⟩ := brow hb1; replace hb1 := Lib.hid hb1)
        | (go_at_call 54; refine Calls.mono (HS.out _) ?_; rintro e w2 ⟨rfl, hb2⟩; have hz2 := hb2.size; (try simp at hz2); replace hb2 := Lib.hid hb2))
      go_ret
      refine ApplyPost.same HC.out ?_
      have := hb1.out
      have := hb2.out
      (repeat (first | (with_reducible first | exact zR _ _ | exact zA _ _ | assumption | refine zL ?_ _ | refine zD ?_ | refine zN ?_ _) | ((with_reducible first | refine zC ?_ ?_ _ | refine zW ?_ ?_ _); rotate_left; focus (first | exact Nat.le_refl _ | (simp; done) | (simp; omega) | omega)) | with_reducible refine zT ?_ (by assumption)))
    · have hro := reply_order hst
      have hcht : Sp.orderCheck t.o = 0 := by rw [hro.1]; exact hchs
      have hns := net_in hchs
      have hnt := net_in hcht
      have hkey : Sp.keyOk ((k : Int) + 1) kd = true := Sp.keyOk_of (by omega)
      have hkl := Sp.keyText_len hkey
      have hS : Sp.replyAt C ((k : Int) + 1) kd code = (⟨C.l.set k t, Sp.netPost C.b ((k : Int) + 1) kd s t, C.i⟩, 0) := by
        unfold Sp.replyAt Sp.setAt
        rw [hat]
        simp only [hst]
        rw [show ((k : Int) + 1).toNat - 1 = k by omega]
      rw [hS]
      rw [hst] at HS
      simp only [replyRes, Option.isSome_some, Option.getD_some] at HS
      have HN1 := fun W => Net_any t W
      have HN2 := fun W => Net_any s W
      have hnp : Sp.netPost C.b ((k : Int) + 1) kd s t = if Sp.net s < Sp.net t then (Sp.post C.b ⟨Sp.keyText ((k : Int) + 1) kd, (k : Int) + 1, 1, 0, Sp.net t - Sp.net s⟩).1 else if Sp.net t < Sp.net s then (Sp.post C.b ⟨Sp.keyText ((k : Int) + 1) kd, (k : Int) + 1, 3, 1, Sp.net s - Sp.net t⟩).1 else C.b := rfl
      generalize Sp.netPost C.b ((k : Int) + 1) kd s t = bR at hnp ⊢
      generalize Sp.net t = nt at hnt HN1 hnp
      generalize Sp.net s = ns at hns HN2 hnp
      have HK := Lib.hid (fun W (hW : Below base w W) => keysPut_any ((k : Int) + 1) kd W hkey (htab W hW))
      generalize Sp.keyText ((k : Int) + 1) kd = kt at HK hkl hnp
      replace hnp := Lib.hid hnp
      obtain ⟨ql, kl, rfl⟩ := own_slice' h.own
      obtain ⟨g, rfl⟩ : ∃ g, ql = some ⟨g, 0, none⟩ := by
        rcases h.slc with ⟨_, h0⟩ | ⟨b, cap, e, _⟩
        · rw [h0] at hk; simp at hk
        · exact ⟨b, by cases e; rfl⟩
      have hgl : g < w.heap.size := by
        obtain ⟨cc, hcc⟩ := own_block h.own (k := g) rfl
        exact (Array.getElem?_eq_some_iff.1 hcc).1
      have hpcl := (Array.getElem?_eq_some_iff.1 h.head).1
      have HC := Lib.hid h
      clear h hS hat hs hid hst htab hchs hro hkey
      obtain ⟨⟨oid, ref, sku, qty, amount⟩, d0, d1, d2, d3, d4, d5, cancel⟩ := s
      obtain ⟨⟨tid, tref, tsku, tqty, tamount⟩, t0, t1, t2, t3, t4, t5, tcancel⟩ := t
      simp only [sagaVal] at HO HS HN1 HN2
      replace HS := Lib.hid HS
      replace HN1 := Lib.hid HN1
      replace HN2 := Lib.hid HN2
      replace hcht := Lib.hid hcht
      go_enter Tryz.func23, Tryz.ntmps23
      go_wp2_with (first
        | (go_at_call 52; refine Calls.mono (HO.out _ (by (repeat (first | (with_reducible first | exact zR _ _ | exact zA _ _ | assumption | refine zL ?_ _ | refine zD ?_ | refine zN ?_ _) | ((with_reducible first | refine zC ?_ ?_ _ | refine zW ?_ ?_ _); rotate_left; focus (first | exact Nat.le_refl _ | (simp; done) | (simp; omega) | omega)) | with_reducible refine zT ?_ (by assumption))))) ?_; rintro e w1 ⟨rfl, hb1⟩; have hz1 := hb1.size; (try simp at hz1); have hlt1 : w.heap.size < w1.heap.size := (by omega); obtain ⟨hc1, hf1, _, _⟩ := brow hb1; replace hb1 := Lib.hid hb1)
        | (go_at_call 54; refine Calls.mono (HS.out _) ?_; rintro e w2 ⟨rfl, hb2⟩; have hz2 := hb2.size; (try simp at hz2); replace hb2 := Lib.hid hb2))
      have hB3 : Below w.heap.size w (w2.alloc (.cells #[.int .i64 tid, .string (str tref), .string (str tsku), .int .i64 tqty, .int .i64 tamount, .int .i64 t0, .int .i64 t1, .int .i64 t2, .int .i64 t3, .int .i64 t4, .int .i64 t5, .bool tcancel] 89)) := by
        have := hb1.out
        have := hb2.out
        (repeat (first | (with_reducible first | exact zR _ _ | exact zA _ _ | assumption | refine zL ?_ _ | refine zD ?_ | refine zN ?_ _) | ((with_reducible first | refine zC ?_ ?_ _ | refine zW ?_ ?_ _); rotate_left; focus (first | exact Nat.le_refl _ | (simp; done) | (simp; omega) | omega)) | with_reducible refine zT ?_ (by assumption)))
      have hX0 : (w2.alloc (.cells #[.int .i64 tid, .string (str tref), .string (str tsku), .int .i64 tqty, .int .i64 tamount, .int .i64 t0, .int .i64 t1, .int .i64 t2, .int .i64 t3, .int .i64 t4, .int .i64 t5, .bool tcancel] 89)).heap[w.heap.size]? = some (.cells #[.int .i64 ((k : Int) + 1), .int .i64 kd] 34 (0, 0)) := heap_past (heap_below hb2.out (heap_past (heap_below hb1.out (heap_alloc_new w _))))
      have hX1 : (w2.alloc (.cells #[.int .i64 tid, .string (str tref), .string (str tsku), .int .i64 tqty, .int .i64 tamount, .int .i64 t0, .int .i64 t1, .int .i64 t2, .int .i64 t3, .int .i64 t4, .int .i64 t5, .bool tcancel] 89)).heap[w1.heap.size]? = some (.cells #[.int .i64 oid, .string (str ref), .string (str sku), .int .i64 qty, .int .i64 amount, .int .i64 d0, .int .i64 d1, .int .i64 d2, .int .i64 d3, .int .i64 d4, .int .i64 d5, .bool cancel] 89 (0, 0)) := heap_past (heap_below hb2.out (heap_alloc_new w1 _))
      have hX2 : (w2.alloc (.cells #[.int .i64 tid, .string (str tref), .string (str tsku), .int .i64 tqty, .int .i64 tamount, .int .i64 t0, .int .i64 t1, .int .i64 t2, .int .i64 t3, .int .i64 t4, .int .i64 t5, .bool tcancel] 89)).heap[w2.heap.size]? = some (.cells #[.int .i64 tid, .string (str tref), .string (str tsku), .int .i64 tqty, .int .i64 tamount, .int .i64 t0, .int .i64 t1, .int .i64 t2, .int .i64 t3, .int .i64 t4, .int .i64 t5, .bool tcancel] 89 (0, 0)) := heap_alloc_new w2 _
      generalize (w2.alloc (.cells #[.int .i64 tid, .string (str tref), .string (str tsku), .int .i64 tqty, .int .i64 tamount, .int .i64 t0, .int .i64 t1, .int .i64 t2, .int .i64 t3, .int .i64 t4, .int .i64 t5, .bool tcancel] 89)) = W3 at hB3 hX0 hX1 hX2 ⊢
      have hC3 := HC.out.below hB3
      have hx0 := cells_at hX0
      have hx2 := cells_at hX2
      have hH : (fun W' => W'.cell? ⟨pc, 0, none⟩ = some (.slice (some ⟨g, 0, none⟩) C.l.length kl) ∧ W'.cell? ⟨w.heap.size, 0, none⟩ = some (.int .i64 ((k : Int) + 1)) ∧ W'.cell? ⟨w.heap.size, 1, none⟩ = some (.int .i64 kd) ∧ W'.cell? ⟨w2.heap.size, 0, none⟩ = some (.int .i64 tid) ∧ W'.cell? ⟨w2.heap.size, 1, none⟩ = some (.string (str tref)) ∧ W'.cell? ⟨w2.heap.size, 2, none⟩ = some (.string (str tsku)) ∧ W'.cell? ⟨w2.heap.size, 3, none⟩ = some (.int .i64 tqty) ∧ W'.cell? ⟨w2.heap.size, 4, none⟩ = some (.int .i64 tamount) ∧ W'.cell? ⟨w2.heap.size, 5, none⟩ = some (.int .i64 t0) ∧ W'.cell? ⟨w2.heap.size, 6, none⟩ = some (.int .i64 t1) ∧ W'.cell? ⟨w2.heap.size, 7, none⟩ = some (.int .i64 t2) ∧ W'.cell? ⟨w2.heap.size, 8, none⟩ = some (.int .i64 t3) ∧ W'.cell? ⟨w2.heap.size, 9, none⟩ = some (.int .i64 t4) ∧ W'.cell? ⟨w2.heap.size, 10, none⟩ = some (.int .i64 t5) ∧ W'.cell? ⟨w2.heap.size, 11, none⟩ = some (.bool tcancel)) W3.drew := ⟨cells_at hC3.head 0, hx0 0, hx0 1, hx2 0, hx2 1, hx2 2, hx2 3, hx2 4, hx2 5, hx2 6, hx2 7, hx2 8, hx2 9, hx2 10, hx2 11⟩
      obtain ⟨cur, hrun, hfin1, hfin2⟩ := (hC3.below (Below.refl _ _).drew).sagaSet (k := k) (t := ⟨⟨tid, tref, tsku, tqty, tamount⟩, t0, t1, t2, t3, t4, t5, tcancel⟩) hk hcht.out
      simp only at hrun hfin1 hfin2 hH
      have hB4 : Below base w (W3.drew.setRow g (sagaSplice cur k ⟨⟨tid, tref, tsku, tqty, tamount⟩, t0, t1, t2, t3, t4, t5, tcancel⟩)) := (hB3.drew.mono HC.out.low).trans hfin2
      have hY0 := (setRow_other W3.drew g w.heap.size (sagaSplice cur k ⟨⟨tid, tref, tsku, tqty, tamount⟩, t0, t1, t2, t3, t4, t5, tcancel⟩) (by omega)).trans hX0
      have hY1 := (setRow_other W3.drew g w1.heap.size (sagaSplice cur k ⟨⟨tid, tref, tsku, tqty, tamount⟩, t0, t1, t2, t3, t4, t5, tcancel⟩) (by omega)).trans hX1
      have hY2 := (setRow_other W3.drew g w2.heap.size (sagaSplice cur k ⟨⟨tid, tref, tsku, tqty, tamount⟩, t0, t1, t2, t3, t4, t5, tcancel⟩) (by omega)).trans hX2
      replace hrun := Lib.hid hrun
      replace hfin1 := Lib.hid hfin1
      replace hB4 := Lib.hid hB4
      replace hY0 := Lib.hid hY0
      replace hY1 := Lib.hid hY1
      replace hY2 := Lib.hid hY2
      have hwk : IntKind.i64.wrap (k : Int) = (k : Int) := by rw [IntKind.wrap_i64]; omega
      have hk0 : 0 ≤ (k : Int) := by omega
      have hkn : (k : Int).toNat = k := by omega
      clear hx0 hx2 hX0 hX1 hX2 hC3 hB3 hfin2
      refine any_begin (S := (fun W' => W'.cell? ⟨pc, 0, none⟩ = some (.slice (some ⟨g, 0, none⟩) C.l.length kl) ∧ W'.cell? ⟨w.heap.size, 0, none⟩ = some (.int .i64 ((k : Int) + 1)) ∧ W'.cell? ⟨w.heap.size, 1, none⟩ = some (.int .i64 kd) ∧ W'.cell? ⟨w2.heap.size, 0, none⟩ = some (.int .i64 tid) ∧ W'.cell? ⟨w2.heap.size, 1, none⟩ = some (.string (str tref)) ∧ W'.cell? ⟨w2.heap.size, 2, none⟩ = some (.string (str tsku)) ∧ W'.cell? ⟨w2.heap.size, 3, none⟩ = some (.int .i64 tqty) ∧ W'.cell? ⟨w2.heap.size, 4, none⟩ = some (.int .i64 tamount) ∧ W'.cell? ⟨w2.heap.size, 5, none⟩ = some (.int .i64 t0) ∧ W'.cell? ⟨w2.heap.size, 6, none⟩ = some (.int .i64 t1) ∧ W'.cell? ⟨w2.heap.size, 7, none⟩ = some (.int .i64 t2) ∧ W'.cell? ⟨w2.heap.size, 8, none⟩ = some (.int .i64 t3) ∧ W'.cell? ⟨w2.heap.size, 9, none⟩ = some (.int .i64 t4) ∧ W'.cell? ⟨w2.heap.size, 10, none⟩ = some (.int .i64 t5) ∧ W'.cell? ⟨w2.heap.size, 11, none⟩ = some (.bool tcancel))) 9 (by kernel_rfl) ?_ (fun hHeld => ?_)
      focus (first | exact hH | assumption)
      have hq := plan [0, 1, 2, 3, 4, 5, 6, 7, 8]
      iterate 9 (refine tk hq ?_ rfl (by kernel_rfl) (by assumption) (by rfl) (fun _ _ _ h => h) ?hy ?_; (case hy => (intro w hSw; (try dsimp only at hSw); go_simp; (try with_reducible rfl))); replace hq := hq.tl; (try simp only [Act.put, yA, yB, yC]))
      clear hq
      refine al 9 rfl (by kernel_rfl) rfl (by rfl) (fun K hK => ?_)
      refine wp_store (.tmp 40) (.tmp 39) rfl rfl rfl hrun.out ?_
      refine hK.out _ _ ?_
      clear hK K
      (try simp only [Act.put, yA, yB, yC])
      have hC4 := hfin1.out
      have hb4 := hB4.out
      have hZ0 := hY0.out
      have hZ1 := hY1.out
      have hZ2 := hY2.out
      clear hH hrun hfin1 hB4 hY0 hY1 hY2
      generalize W3.drew.setRow g (sagaSplice cur k ⟨⟨tid, tref, tsku, tqty, tamount⟩, t0, t1, t2, t3, t4, t5, tcancel⟩) = W4 at hC4 hb4 hZ0 hZ1 hZ2 ⊢
      have hS8 := Lib.hid (show ∀ W', Below W4.heap.size W4 W' → (fun W' => W'.cell? ⟨w1.heap.size, 0, none⟩ = some (.int .i64 oid) ∧ W'.cell? ⟨w1.heap.size, 1, none⟩ = some (.string (str ref)) ∧ W'.cell? ⟨w1.heap.size, 2, none⟩ = some (.string (str sku)) ∧ W'.cell? ⟨w1.heap.size, 3, none⟩ = some (.int .i64 qty) ∧ W'.cell? ⟨w1.heap.size, 4, none⟩ = some (.int .i64 amount) ∧ W'.cell? ⟨w1.heap.size, 5, none⟩ = some (.int .i64 d0) ∧ W'.cell? ⟨w1.heap.size, 6, none⟩ = some (.int .i64 d1) ∧ W'.cell? ⟨w1.heap.size, 7, none⟩ = some (.int .i64 d2) ∧ W'.cell? ⟨w1.heap.size, 8, none⟩ = some (.int .i64 d3) ∧ W'.cell? ⟨w1.heap.size, 9, none⟩ = some (.int .i64 d4) ∧ W'.cell? ⟨w1.heap.size, 10, none⟩ = some (.int .i64 d5) ∧ W'.cell? ⟨w1.heap.size, 11, none⟩ = some (.bool cancel) ∧ W'.cell? ⟨w2.heap.size, 0, none⟩ = some (.int .i64 tid) ∧ W'.cell? ⟨w2.heap.size, 1, none⟩ = some (.string (str tref)) ∧ W'.cell? ⟨w2.heap.size, 2, none⟩ = some (.string (str tsku)) ∧ W'.cell? ⟨w2.heap.size, 3, none⟩ = some (.int .i64 tqty) ∧ W'.cell? ⟨w2.heap.size, 4, none⟩ = some (.int .i64 tamount) ∧ W'.cell? ⟨w2.heap.size, 5, none⟩ = some (.int .i64 t0) ∧ W'.cell? ⟨w2.heap.size, 6, none⟩ = some (.int .i64 t1) ∧ W'.cell? ⟨w2.heap.size, 7, none⟩ = some (.int .i64 t2) ∧ W'.cell? ⟨w2.heap.size, 8, none⟩ = some (.int .i64 t3) ∧ W'.cell? ⟨w2.heap.size, 9, none⟩ = some (.int .i64 t4) ∧ W'.cell? ⟨w2.heap.size, 10, none⟩ = some (.int .i64 t5) ∧ W'.cell? ⟨w2.heap.size, 11, none⟩ = some (.bool tcancel) ∧ Hid (Below W4.heap.size W4 W')) W' from fun W' hb => by
        have q1 := cells_at (heap_below hb hZ1)
        have q2 := cells_at (heap_below hb hZ2)
        exact ⟨q1 0, q1 1, q1 2, q1 3, q1 4, q1 5, q1 6, q1 7, q1 8, q1 9, q1 10, q1 11, q2 0, q2 1, q2 2, q2 3, q2 4, q2 5, q2 6, q2 7, q2 8, q2 9, q2 10, q2 11, Lib.hid hb⟩)
      have hS8b := Lib.hid (fun W' (h : (fun W' => W'.cell? ⟨w1.heap.size, 0, none⟩ = some (.int .i64 oid) ∧ W'.cell? ⟨w1.heap.size, 1, none⟩ = some (.string (str ref)) ∧ W'.cell? ⟨w1.heap.size, 2, none⟩ = some (.string (str sku)) ∧ W'.cell? ⟨w1.heap.size, 3, none⟩ = some (.int .i64 qty) ∧ W'.cell? ⟨w1.heap.size, 4, none⟩ = some (.int .i64 amount) ∧ W'.cell? ⟨w1.heap.size, 5, none⟩ = some (.int .i64 d0) ∧ W'.cell? ⟨w1.heap.size, 6, none⟩ = some (.int .i64 d1) ∧ W'.cell? ⟨w1.heap.size, 7, none⟩ = some (.int .i64 d2) ∧ W'.cell? ⟨w1.heap.size, 8, none⟩ = some (.int .i64 d3) ∧ W'.cell? ⟨w1.heap.size, 9, none⟩ = some (.int .i64 d4) ∧ W'.cell? ⟨w1.heap.size, 10, none⟩ = some (.int .i64 d5) ∧ W'.cell? ⟨w1.heap.size, 11, none⟩ = some (.bool cancel) ∧ W'.cell? ⟨w2.heap.size, 0, none⟩ = some (.int .i64 tid) ∧ W'.cell? ⟨w2.heap.size, 1, none⟩ = some (.string (str tref)) ∧ W'.cell? ⟨w2.heap.size, 2, none⟩ = some (.string (str tsku)) ∧ W'.cell? ⟨w2.heap.size, 3, none⟩ = some (.int .i64 tqty) ∧ W'.cell? ⟨w2.heap.size, 4, none⟩ = some (.int .i64 tamount) ∧ W'.cell? ⟨w2.heap.size, 5, none⟩ = some (.int .i64 t0) ∧ W'.cell? ⟨w2.heap.size, 6, none⟩ = some (.int .i64 t1) ∧ W'.cell? ⟨w2.heap.size, 7, none⟩ = some (.int .i64 t2) ∧ W'.cell? ⟨w2.heap.size, 8, none⟩ = some (.int .i64 t3) ∧ W'.cell? ⟨w2.heap.size, 9, none⟩ = some (.int .i64 t4) ∧ W'.cell? ⟨w2.heap.size, 10, none⟩ = some (.int .i64 t5) ∧ W'.cell? ⟨w2.heap.size, 11, none⟩ = some (.bool tcancel) ∧ Hid (Below W4.heap.size W4 W')) W') => (and24 h).out)
      have hw : IntKind.i64.wrap (nt - ns) = nt - ns := by rw [IntKind.wrap_i64]; omega
      replace hC4 := Lib.hid hC4
      replace hb4 := Lib.hid hb4
      replace hZ0 := Lib.hid hZ0
      clear hZ1 hZ2
      go_wp2
      refine any_begin (S := (fun W' => W'.cell? ⟨w1.heap.size, 0, none⟩ = some (.int .i64 oid) ∧ W'.cell? ⟨w1.heap.size, 1, none⟩ = some (.string (str ref)) ∧ W'.cell? ⟨w1.heap.size, 2, none⟩ = some (.string (str sku)) ∧ W'.cell? ⟨w1.heap.size, 3, none⟩ = some (.int .i64 qty) ∧ W'.cell? ⟨w1.heap.size, 4, none⟩ = some (.int .i64 amount) ∧ W'.cell? ⟨w1.heap.size, 5, none⟩ = some (.int .i64 d0) ∧ W'.cell? ⟨w1.heap.size, 6, none⟩ = some (.int .i64 d1) ∧ W'.cell? ⟨w1.heap.size, 7, none⟩ = some (.int .i64 d2) ∧ W'.cell? ⟨w1.heap.size, 8, none⟩ = some (.int .i64 d3) ∧ W'.cell? ⟨w1.heap.size, 9, none⟩ = some (.int .i64 d4) ∧ W'.cell? ⟨w1.heap.size, 10, none⟩ = some (.int .i64 d5) ∧ W'.cell? ⟨w1.heap.size, 11, none⟩ = some (.bool cancel) ∧ W'.cell? ⟨w2.heap.size, 0, none⟩ = some (.int .i64 tid) ∧ W'.cell? ⟨w2.heap.size, 1, none⟩ = some (.string (str tref)) ∧ W'.cell? ⟨w2.heap.size, 2, none⟩ = some (.string (str tsku)) ∧ W'.cell? ⟨w2.heap.size, 3, none⟩ = some (.int .i64 tqty) ∧ W'.cell? ⟨w2.heap.size, 4, none⟩ = some (.int .i64 tamount) ∧ W'.cell? ⟨w2.heap.size, 5, none⟩ = some (.int .i64 t0) ∧ W'.cell? ⟨w2.heap.size, 6, none⟩ = some (.int .i64 t1) ∧ W'.cell? ⟨w2.heap.size, 7, none⟩ = some (.int .i64 t2) ∧ W'.cell? ⟨w2.heap.size, 8, none⟩ = some (.int .i64 t3) ∧ W'.cell? ⟨w2.heap.size, 9, none⟩ = some (.int .i64 t4) ∧ W'.cell? ⟨w2.heap.size, 10, none⟩ = some (.int .i64 t5) ∧ W'.cell? ⟨w2.heap.size, 11, none⟩ = some (.bool tcancel) ∧ Hid (Below W4.heap.size W4 W'))) 6 (by kernel_rfl) ?_ (fun hHeld => ?_)
      focus (exact hS8.out _ (by (repeat (first | (with_reducible first | exact zR _ _ | exact zA _ _ | assumption | refine zL ?_ _ | refine zD ?_ | refine zN ?_ _) | ((with_reducible first | refine zC ?_ ?_ _ | refine zW ?_ ?_ _); rotate_left; focus (first | exact Nat.le_refl _ | (simp; done) | (simp; omega) | omega)) | with_reducible refine zT ?_ (by assumption)))))
      have hq := plan [0, 2]
      iterate 2 (refine tk hq ?_ rfl (by kernel_rfl) (by assumption) (by rfl) (fun _ _ _ h => h) ?hy ?_; (case hy => (intro w hSw; (try dsimp only at hSw); go_simp; (try with_reducible rfl))); replace hq := hq.tl; (try simp only [Act.put, yA, yB, yC]))
      clear hq
      refine ao 1 rfl (by kernel_rfl) (by rfl) (fun K hK => ?_)
      go_simp; go_at_call 55; refine Calls.mono (HN1.out _) ?_; rintro e w5 ⟨rfl, hb5⟩
      refine hK.out _ _ ?_ (fun hHeld => ?_)
      focus (exact hS8.out _ (by (repeat (first | (with_reducible first | exact zR _ _ | exact zA _ _ | assumption | refine zL ?_ _ | refine zD ?_ | refine zN ?_ _) | ((with_reducible first | refine zC ?_ ?_ _ | refine zW ?_ ?_ _); rotate_left; focus (first | exact Nat.le_refl _ | (simp; done) | (simp; omega) | omega)) | with_reducible refine zT ?_ (by assumption)))))
      clear hK K
      (try simp only [Act.put, yA, yB, yC])
      refine ao 3 rfl (by kernel_rfl) (by rfl) (fun K hK => ?_)
      go_simp; go_at_call 55; refine Calls.mono (HN2.out _) ?_; rintro e w6 ⟨rfl, hb6⟩
      refine hK.out _ _ ?_ (fun hHeld => ?_)
      focus (exact hS8.out _ (by (repeat (first | (with_reducible first | exact zR _ _ | exact zA _ _ | assumption | refine zL ?_ _ | refine zD ?_ | refine zN ?_ _) | ((with_reducible first | refine zC ?_ ?_ _ | refine zW ?_ ?_ _); rotate_left; focus (first | exact Nat.le_refl _ | (simp; done) | (simp; omega) | omega)) | with_reducible refine zT ?_ (by assumption)))))
      clear hK K
      (try simp only [Act.put, yA, yB, yC])
      have hq := plan [4, 5]
      iterate 2 (refine tk hq ?_ rfl (by kernel_rfl) (by assumption) (by rfl) (fun _ _ _ h => h) ?hy ?_; (case hy => (intro w hSw; (try dsimp only at hSw); go_simp; (try with_reducible rfl))); replace hq := hq.tl; (try simp only [Act.put, yA, yB, yC]))
      clear hq
      refine any_done (by kernel_rfl) ?_
      have hB6 := hS8b.out _ hHeld
      have hC6 := hC4.out.below hB6
      have hX6 := heap_below hB6 hZ0.out
      have hlow6 : Below base w w6 := hb4.out.trans (hB6.mono hC4.out.low)
      clear hHeld hS8 hS8b hb5 hb6 hB6
      have hl6 := hC6.low
      have hS10 := Lib.hid (show ∀ W', Below w6.heap.size w6 W' → (fun W' => W'.cell? ⟨pc, 1, none⟩ = some (.pointer (some ⟨pb, 0, none⟩)) ∧ W'.cell? ⟨w.heap.size, 0, none⟩ = some (.int .i64 ((k : Int) + 1)) ∧ W'.cell? ⟨w.heap.size, 1, none⟩ = some (.int .i64 kd) ∧ Hid (Below w6.heap.size w6 W')) W' from fun W' hb => by
        have q := cells_at (heap_below hb hX6)
        exact ⟨cells_at (hC6.below hb).head 1, q 0, q 1, Lib.hid hb⟩)
      have hS10b := Lib.hid (fun W' (h : (fun W' => W'.cell? ⟨pc, 1, none⟩ = some (.pointer (some ⟨pb, 0, none⟩)) ∧ W'.cell? ⟨w.heap.size, 0, none⟩ = some (.int .i64 ((k : Int) + 1)) ∧ W'.cell? ⟨w.heap.size, 1, none⟩ = some (.int .i64 kd) ∧ Hid (Below w6.heap.size w6 W')) W') => (and3' h).out)
      have hfew := Lib.hid hfew
      replace hkl := Lib.hid hkl
      replace hns := Lib.hid hns
      replace hnt := Lib.hid hnt
      clear hX6
      rcases Int.lt_trichotomy ns nt with hlt | heq | hgt
      · have hd : 0 < nt - ns := by omega
        have hbR : bR = (Sp.post C.b ⟨kt, (k : Int) + 1, 1, 0, nt - ns⟩).1 := by rw [hnp.out, if_pos hlt]
        have hpi : PostIn ⟨kt, (k : Int) + 1, 1, 0, nt - ns⟩ := by
          have := hkl.out
          have := hns.out
          have := hnt.out
          have := hC6.orders
          simp only [List.length_set] at this
          exact ⟨by simp only; omega, by simp [Sp.in64]; omega, by simp [Sp.in64], by simp [Sp.in64], by simp [Sp.in64]; omega⟩
        subst hbR
        replace hpi := Lib.hid hpi
        replace hC6 := Lib.hid hC6
        replace hlow6 := Lib.hid hlow6
        clear hnp hkl hns hnt
        go_wp2
        refine any_begin (S := (fun W' => W'.cell? ⟨pc, 1, none⟩ = some (.pointer (some ⟨pb, 0, none⟩)) ∧ W'.cell? ⟨w.heap.size, 0, none⟩ = some (.int .i64 ((k : Int) + 1)) ∧ W'.cell? ⟨w.heap.size, 1, none⟩ = some (.int .i64 kd) ∧ Hid (Below w6.heap.size w6 W'))) 10 (by kernel_rfl) ?_ (fun hHeld => ?_)
        focus (exact hS10.out _ (by (repeat (first | (with_reducible first | exact zR _ _ | exact zA _ _ | assumption | refine zL ?_ _ | refine zD ?_ | refine zN ?_ _) | ((with_reducible first | refine zC ?_ ?_ _ | refine zW ?_ ?_ _); rotate_left; focus (first | exact Nat.le_refl _ | (simp; done) | (simp; omega) | omega)) | with_reducible refine zT ?_ (by assumption)))))
        refine tkC [10, 3, 2, 1] 0 ?_ rfl (by kernel_rfl) (by assumption) (by rfl) (fun _ _ _ h => h) ?hy ?_
        case hy => (intro w hSw; (try dsimp only at hSw); go_simp; (try with_reducible rfl))
        (try simp only [Act.put, yA, yB, yC])
        refine tkC [10, 3, 2] 1 ?_ rfl (by kernel_rfl) (by assumption) (by rfl) (fun _ _ _ h => h) ?hy ?_
        case hy => (intro w hSw; (try dsimp only at hSw); go_simp; (try with_reducible rfl))
        (try simp only [Act.put, yA, yB, yC])
        refine tkC [10, 3] 2 ?_ rfl (by kernel_rfl) (by assumption) (by rfl) (fun _ _ _ h => h) ?hy ?_
        case hy => (intro w hSw; (try dsimp only at hSw); go_simp; (try with_reducible rfl))
        (try simp only [Act.put, yA, yB, yC])
        have hq := plan [3]
        iterate 1 (refine tk hq ?_ rfl (by kernel_rfl) (by assumption) (by rfl) (fun _ _ _ h => h) ?hy ?_; (case hy => (intro w hSw; (try dsimp only at hSw); go_simp; (try with_reducible rfl))); replace hq := hq.tl; (try simp only [Act.put, yA, yB, yC]))
        clear hq
        refine tkC [10, 5, 9] 4 ?_ rfl (by kernel_rfl) (by assumption) (by rfl) (fun _ _ _ h => h) ?hy ?_
        case hy => (intro w hSw; (try dsimp only at hSw); go_simp; (try with_reducible rfl))
        (try simp only [Act.put, yA, yB, yC])
        refine tkC [10, 9, 7] 6 ?_ rfl (by kernel_rfl) (by assumption) (by rfl) (fun _ _ _ h => h) ?hy ?_
        case hy => (intro w hSw; (try dsimp only at hSw); go_simp; (try with_reducible rfl))
        (try simp only [Act.put, yA, yB, yC])
        refine tkC [10, 9] 7 ?_ rfl (by kernel_rfl) (by assumption) (by rfl) (fun _ _ _ h => h) ?hy ?_
        case hy => (intro w hSw; (try dsimp only at hSw); go_simp; (try with_reducible rfl))
        (try simp only [Act.put, yA, yB, yC])
        refine tkC [10, 9] 8 ?_ rfl (by kernel_rfl) (by assumption) (by rfl) (fun _ _ _ h => h) ?hy ?_
        case hy => (intro w hSw; (try dsimp only at hSw); go_simp; (try with_reducible rfl))
        (try simp only [Act.put, yA, yB, yC])
        refine ao 5 rfl (by kernel_rfl) (by rfl) (fun K hK => ?_)
        go_simp; go_at_call 57; refine Calls.mono (HK.out _ (hlow6.out.trans ((show Below w6.heap.size w6 _ by (repeat (first | (with_reducible first | exact zR _ _ | exact zA _ _ | assumption | refine zL ?_ _ | refine zD ?_ | refine zN ?_ _) | ((with_reducible first | refine zC ?_ ?_ _ | refine zW ?_ ?_ _); rotate_left; focus (first | exact Nat.le_refl _ | (simp; done) | (simp; omega) | omega)) | with_reducible refine zT ?_ (by assumption)))).mono hl6))) ?_; rintro e w7 ⟨rfl, hb7⟩
        refine hK.out _ _ ?_ (fun hHeld => ?_)
        focus (exact hS10.out _ (by (repeat (first | (with_reducible first | exact zR _ _ | exact zA _ _ | assumption | refine zL ?_ _ | refine zD ?_ | refine zN ?_ _) | ((with_reducible first | refine zC ?_ ?_ _ | refine zW ?_ ?_ _); rotate_left; focus (first | exact Nat.le_refl _ | (simp; done) | (simp; omega) | omega)) | with_reducible refine zT ?_ (by assumption)))))
        clear hK K
        (try simp only [Act.put, yA, yB, yC])
        have hq := plan [9]
        iterate 1 (refine tk hq ?_ rfl (by kernel_rfl) (by assumption) (by rfl) (fun _ _ _ h => h) ?hy ?_; (case hy => (intro w hSw; (try dsimp only at hSw); go_simp; (try with_reducible rfl))); replace hq := hq.tl; (try simp only [Act.put, yA, yB, yC]))
        clear hq
        refine al 10 rfl (by kernel_rfl) rfl (by rfl) (fun K hK => ?_)
        have hB7 := hS10b.out _ hHeld; have hC7 := hC6.out.below hB7; have hlow7 := hlow6.out.trans (hB7.mono hl6); go_simp; go_at_call 56; refine Calls.mono (post_any _ base pb P Q vb C.b ⟨kt, (k : Int) + 1, 1, 0, nt - ns⟩ hC7.books hpi.out hfew.out) ?_; rintro e w8 ⟨rfl, ⟨z, hbz, hz⟩, hkp⟩; obtain ⟨hC8, hlow8⟩ := core_post hC7 hbz hkp; replace hC8 := Lib.hid hC8; replace hlow8 := Lib.hid (hlow7.trans hlow8); clear hkp hbz hz hC7 hlow7 hB7
        refine hK.out _ _ ?_
        clear hK K
        (try simp only [Act.put, yA, yB, yC])
        clear hHeld
        go_wp2
        go_ret
        exact ⟨hlow8.out, _, _, _, _, _, _, rfl, hC8.out⟩
      · have hd0 : ¬ (0 < nt - ns) := by omega
        have hd1 : ¬ (nt - ns < 0) := by omega
        have hbR : bR = C.b := by rw [hnp.out, if_neg (by omega), if_neg (by omega)]
        subst hbR
        replace hC6 := Lib.hid hC6
        replace hlow6 := Lib.hid hlow6
        go_wp2
        go_ret
        exact ⟨hlow6.out, _, _, _, _, _, _, rfl, hC6.out⟩
      · have hd0 : ¬ (0 < nt - ns) := by omega
        have hd1 : nt - ns < 0 := by omega
        have hbR : bR = (Sp.post C.b ⟨kt, (k : Int) + 1, 3, 1, ns - nt⟩).1 := by rw [hnp.out, if_neg (by omega), if_pos hgt]
        have hpi : PostIn ⟨kt, (k : Int) + 1, 3, 1, ns - nt⟩ := by
          have := hkl.out
          have := hns.out
          have := hnt.out
          have := hC6.orders
          simp only [List.length_set] at this
          exact ⟨by simp only; omega, by simp [Sp.in64]; omega, by simp [Sp.in64], by simp [Sp.in64], by simp [Sp.in64]; omega⟩
        subst hbR
        have hwn : IntKind.i64.wrap (-(nt - ns)) = ns - nt := by
          have := hns.out
          have := hnt.out
          rw [IntKind.wrap_i64]
          omega
        replace hpi := Lib.hid hpi
        replace hC6 := Lib.hid hC6
        replace hlow6 := Lib.hid hlow6
        clear hnp hkl hns hnt
        go_wp2
        refine any_begin (S := (fun W' => W'.cell? ⟨pc, 1, none⟩ = some (.pointer (some ⟨pb, 0, none⟩)) ∧ W'.cell? ⟨w.heap.size, 0, none⟩ = some (.int .i64 ((k : Int) + 1)) ∧ W'.cell? ⟨w.heap.size, 1, none⟩ = some (.int .i64 kd) ∧ Hid (Below w6.heap.size w6 W'))) 11 (by kernel_rfl) ?_ (fun hHeld => ?_)
        focus (exact hS10.out _ (by (repeat (first | (with_reducible first | exact zR _ _ | exact zA _ _ | assumption | refine zL ?_ _ | refine zD ?_ | refine zN ?_ _) | ((with_reducible first | refine zC ?_ ?_ _ | refine zW ?_ ?_ _); rotate_left; focus (first | exact Nat.le_refl _ | (simp; done) | (simp; omega) | omega)) | with_reducible refine zT ?_ (by assumption)))))
        refine tkC [11, 3, 2, 1] 0 ?_ rfl (by kernel_rfl) (by assumption) (by rfl) (fun _ _ _ h => h) ?hy ?_
        case hy => (intro w hSw; (try dsimp only at hSw); go_simp; (try with_reducible rfl))
        (try simp only [Act.put, yA, yB, yC])
        refine tkC [11, 3, 2] 1 ?_ rfl (by kernel_rfl) (by assumption) (by rfl) (fun _ _ _ h => h) ?hy ?_
        case hy => (intro w hSw; (try dsimp only at hSw); go_simp; (try with_reducible rfl))
        (try simp only [Act.put, yA, yB, yC])
        refine tkC [11, 3] 2 ?_ rfl (by kernel_rfl) (by assumption) (by rfl) (fun _ _ _ h => h) ?hy ?_
        case hy => (intro w hSw; (try dsimp only at hSw); go_simp; (try with_reducible rfl))
        (try simp only [Act.put, yA, yB, yC])
        have hq := plan [3]
        iterate 1 (refine tk hq ?_ rfl (by kernel_rfl) (by assumption) (by rfl) (fun _ _ _ h => h) ?hy ?_; (case hy => (intro w hSw; (try dsimp only at hSw); go_simp; (try with_reducible rfl))); replace hq := hq.tl; (try simp only [Act.put, yA, yB, yC]))
        clear hq
        refine tkC [11, 5, 10] 4 ?_ rfl (by kernel_rfl) (by assumption) (by rfl) (fun _ _ _ h => h) ?hy ?_
        case hy => (intro w hSw; (try dsimp only at hSw); go_simp; (try with_reducible rfl))
        (try simp only [Act.put, yA, yB, yC])
        refine tkC [11, 10, 7] 6 ?_ rfl (by kernel_rfl) (by assumption) (by rfl) (fun _ _ _ h => h) ?hy ?_
        case hy => (intro w hSw; (try dsimp only at hSw); go_simp; (try with_reducible rfl))
        (try simp only [Act.put, yA, yB, yC])
        refine tkC [11, 10] 7 ?_ rfl (by kernel_rfl) (by assumption) (by rfl) (fun _ _ _ h => h) ?hy ?_
        case hy => (intro w hSw; (try dsimp only at hSw); go_simp; (try with_reducible rfl))
        (try simp only [Act.put, yA, yB, yC])
        refine tkC [11, 10, 9] 8 ?_ rfl (by kernel_rfl) (by assumption) (by rfl) (fun _ _ _ h => h) ?hy ?_
        case hy => (intro w hSw; (try dsimp only at hSw); go_simp; (try with_reducible rfl))
        (try simp only [Act.put, yA, yB, yC])
        refine tkC [11, 10] 9 ?_ rfl (by kernel_rfl) (by assumption) (by rfl) (fun _ _ _ h => h) ?hy ?_
        case hy => (intro w hSw; (try dsimp only at hSw); go_simp; (try with_reducible rfl))
        (try simp only [Act.put, yA, yB, yC])
        refine ao 5 rfl (by kernel_rfl) (by rfl) (fun K hK => ?_)
        go_simp; go_at_call 57; refine Calls.mono (HK.out _ (hlow6.out.trans ((show Below w6.heap.size w6 _ by (repeat (first | (with_reducible first | exact zR _ _ | exact zA _ _ | assumption | refine zL ?_ _ | refine zD ?_ | refine zN ?_ _) | ((with_reducible first | refine zC ?_ ?_ _ | refine zW ?_ ?_ _); rotate_left; focus (first | exact Nat.le_refl _ | (simp; done) | (simp; omega) | omega)) | with_reducible refine zT ?_ (by assumption)))).mono hl6))) ?_; rintro e w7 ⟨rfl, hb7⟩
        refine hK.out _ _ ?_ (fun hHeld => ?_)
        focus (exact hS10.out _ (by (repeat (first | (with_reducible first | exact zR _ _ | exact zA _ _ | assumption | refine zL ?_ _ | refine zD ?_ | refine zN ?_ _) | ((with_reducible first | refine zC ?_ ?_ _ | refine zW ?_ ?_ _); rotate_left; focus (first | exact Nat.le_refl _ | (simp; done) | (simp; omega) | omega)) | with_reducible refine zT ?_ (by assumption)))))
        clear hK K
        (try simp only [Act.put, yA, yB, yC])
        have hq := plan [10]
        iterate 1 (refine tk hq ?_ rfl (by kernel_rfl) (by assumption) (by rfl) (fun _ _ _ h => h) ?hy ?_; (case hy => (intro w hSw; (try dsimp only at hSw); go_simp; (try with_reducible rfl))); replace hq := hq.tl; (try simp only [Act.put, yA, yB, yC]))
        clear hq
        refine al 11 rfl (by kernel_rfl) rfl (by rfl) (fun K hK => ?_)
        have hB7 := hS10b.out _ hHeld; have hC7 := hC6.out.below hB7; have hlow7 := hlow6.out.trans (hB7.mono hl6); go_simp; go_at_call 56; refine Calls.mono (post_any _ base pb P Q vb C.b ⟨kt, (k : Int) + 1, 3, 1, ns - nt⟩ hC7.books hpi.out hfew.out) ?_; rintro e w8 ⟨rfl, ⟨z, hbz, hz⟩, hkp⟩; obtain ⟨hC8, hlow8⟩ := core_post hC7 hbz hkp; replace hC8 := Lib.hid hC8; replace hlow8 := Lib.hid (hlow7.trans hlow8); clear hkp hbz hz hC7 hlow7 hB7
        refine hK.out _ _ ?_
        clear hK K
        (try simp only [Act.put, yA, yB, yC])
        clear hHeld
        go_wp2
        go_ret
        exact ⟨hlow8.out, _, _, _, _, _, _, rfl, hC8.out⟩
end Go.Proofs.YtkgpnikmdmpfaaaGreatDoor

/-
  Bytes as lists, slices in memory, what a call leaves alone: general facts, without a program.
-/
import Derived.Test.YtkgpnikmdmpfaaaGreatDoorProg
import Derived.WalkKit
import Derived.WalkSpells
import Derived.WalkLawsBesides
import Derived.BigQuiet
import Derived.Maps.AppendAt
import Derived.Deep.RegionHeld3
import Derived.Deep.DeepFit
import Derived.Lib.Hide
import Derived.Lib.Strings
import Derived.KernelRfl
import Derived.Laws.RangeAny
import Derived.Maps.OwnSet
import Derived.Maps.RangeWalk
import Derived.Maps.Ext
import Derived.Lib.SlMapMerge
import Derived.DeepKeys4
import Derived.DeepKeys3
import Derived.Laws.Bits64
import Derived.Laws.Bits64b
import Derived.LoopN
import Derived.StillTail
set_option linter.unusedVariables false
set_option linter.unusedSimpArgs false
namespace Go.Proofs.YtkgpnikmdmpfaaaGreatDoor
open Go.RowKit

/-! ### bytes -/
abbrev Bytes := List UInt8
def str (l : Bytes) : ByteArray := ⟨l.toArray⟩
@[simp] theorem str_size (l : Bytes) : (str l).size = l.length := by simp [str, ByteArray.size]
@[simp] theorem str_toList (l : Bytes) : (str l).toList = l := by simp [str]
@[simp] theorem str_data (l : Bytes) : (str l).data.toList = l := by simp [str]
theorem bytes_ext {a b : ByteArray} (h : a.data.toList = b.data.toList) : a = b := by
  cases a; cases b; simp only [ByteArray.mk.injEq]; exact Array.toList_inj.1 h
theorem str_of (s : ByteArray) : s = str s.data.toList := by apply bytes_ext; simp [str]
@[simp] theorem str_append (a b : Bytes) : str a ++ str b = str (a ++ b) := by
  apply bytes_ext; simp [str]
theorem str_inj {a b : Bytes} (h : str a = str b) : a = b := by have := congrArg (fun s => s.data.toList) h; simpa using this
@[simp] theorem str_nil : ({ data := #[] } : ByteArray) = str [] := rfl
@[simp] theorem str_empty : ByteArray.empty = str [] := rfl
@[simp] theorem str_extract (l : Bytes) (i j : Nat) : (str l).extract i j = str ((l.drop i).take (j - i)) := by
  apply bytes_ext
  rw [Lib.extract_data]
  simp

/-- The cells of bytes. -/
def bv (l : Bytes) : List Value := l.map fun b => .int .u8 b.toNat
@[simp] theorem bv_length (l : Bytes) : (bv l).length = l.length := by simp [bv]
theorem bv_append (a b : Bytes) : bv (a ++ b) = bv a ++ bv b := by simp [bv]

/-! ### what a call leaves alone -/
/-- Below the old size all is as it was (what a call that makes memory alone leaves). -/
abbrev Grew (w w' : World) : Prop := Below w.heap.size w w'
theorem Grew.refl (w : World) : Grew w w := Below.refl _ _
theorem Grew.trans {a b c : World} (h : Grew a b) (k : Grew b c) : Grew a c := Below.trans h (Below.mono k h.size)
theorem Grew.alloc {a w : World} (h : Grew a w) (o : Obj) : Grew a (w.alloc o) := Below.alloc h h.size o
theorem Grew.drew {a w : World} (h : Grew a w) : Grew a w.drew := Below.drew h
/-! short names -/
theorem zR (B : Nat) (w : World) : Below B w w := Below.refl _ _
theorem zA (W : World) (o : Obj) : Below W.heap.size W (W.alloc o) := (Below.refl _ _).alloc (Nat.le_refl _) o
theorem zL {a w : World} (h : Grew a w) (o : Obj) : Grew a (w.alloc o) := Grew.alloc h o
theorem zC {B : Nat} {a w : World} (h : Below B a w) {p : Addr} (hp : B ≤ p.block) (u : Value) : Below B a (w.setCell p u) := Below.setCell h hp u
theorem zD {a w : World} (h : Grew a w) : Grew a w.drew := Grew.drew h
theorem zT {a b c : World} (h : Grew a b) (k : Grew b c) : Grew a c := Grew.trans h k
theorem zN {B : Nat} {w0 w : World} (h : Below B w0 w) (n : Nat) : Below B w0 (w.drewN n) := h.trans ⟨rfl, rfl, rfl, Nat.le_refl _, fun _ _ => rfl⟩
theorem yA {α : Type} (l : List α) (i : Nat) (a : α) : l.toArray.setIfInBounds i a = (l.set i a).toArray := List.setIfInBounds_toArray ..
theorem yB {α : Type} (x : α) (l : List α) (a : α) : (x :: l).set 0 a = a :: l := List.set_cons_zero ..
theorem yC {α : Type} (x : α) (l : List α) (i : Nat) (a : α) : (x :: l).set (i + 1) a = x :: l.set i a := List.set_cons_succ ..
theorem grew_of {w w' : World} (h : Below w.heap.size w w') : Grew w w' := h

/-- What a cell (its mark) holds, behind a name that no rule looks into. -/
def later (w : World) (b o : Nat) : Option Value := w.cell? ⟨b, o, none⟩
def laterF (w : World) (b o : Nat) : Bool := w.frozen? ⟨b, o, none⟩
/-- The facts on w1 that a walk wants behind a call that made memory alone. -/
theorem bcell {W w1 : World} (hb : Below W.heap.size W w1) : (∀ b o, w1.cell? ⟨b, o, none⟩ = if b < W.heap.size then W.cell? ⟨b, o, none⟩ else later w1 b o) ∧
    (∀ b o, w1.frozen? ⟨b, o, none⟩ = if b < W.heap.size then W.frozen? ⟨b, o, none⟩ else laterF w1 b o) ∧ W.heap.size ≤ w1.heap.size :=
  ⟨fun b o => by split
                 · exact hb.cell (p := ⟨b, o, none⟩) (by assumption)
                 · rfl, fun b o => by split
                                      · exact hb.frozen (p := ⟨b, o, none⟩) (by assumption)
                                      · rfl, hb.size⟩

/-! ### blocks known whole: structs in memory are loaded and stored at one stroke -/
/-- The cells of block b, if they may be written. -/
def _root_.Go.World.row? (w : World) (b : Nat) : Option (Array Value) :=
  match w.heap[b]? with
  | some (.cells c _ (0, 0)) => some c
  | _ => none
def objRow : Obj → Option (Array Value)
  | .cells c _ (0, 0) => some c
  | _ => none
def laterR (w : World) (b : Nat) : Option (Array Value) := w.row? b
@[go_sem] theorem objRow_cells (c : Array Value) (e : TypeId) : objRow (.cells c e (0, 0)) = some c := rfl
theorem row?_heap (w : World) (b : Nat) : w.row? b = (w.heap[b]?).bind objRow := by
  unfold World.row?
  cases h : w.heap[b]? with
  | none => rfl
  | some o => cases o <;> first | rfl | (rename_i f; obtain ⟨x, y⟩ := f; cases x <;> cases y <;> rfl)
theorem row?_congr {w w' : World} {b : Nat} (h : w'.heap[b]? = w.heap[b]?) : w'.row? b = w.row? b := by rw [row?_heap, row?_heap, h]
@[go_sem] theorem row?_alloc (w : World) (o : Obj) (b : Nat) : (w.alloc o).row? b = if b = w.heap.size then objRow o else w.row? b := by
  rw [row?_heap, row?_heap]
  split
  · subst_vars; rw [heap_alloc_new]; rfl
  · rename_i hne
    rcases Nat.lt_or_ge b w.heap.size with h | h
    · rw [Below.heap_alloc w o b h]
    · have h1 : (w.alloc o).heap[b]? = none := by
        apply Array.getElem?_eq_none
        simp; omega
      rw [h1, Array.getElem?_eq_none h]
@[go_sem] theorem row?_drew (w : World) (b : Nat) : w.drew.row? b = w.row? b := rfl
@[go_sem] theorem row?_drewN (w : World) (n b : Nat) : (w.drewN n).row? b = w.row? b := rfl
theorem row?_some {w : World} {b : Nat} {c : Array Value} (h : w.row? b = some c) : ∃ e, w.heap[b]? = some (.cells c e (0, 0)) := by
  rw [row?_heap] at h
  obtain ⟨o, ho, hr⟩ := Option.bind_eq_some_iff.1 h
  cases o with
  | cells c' e f =>
    obtain ⟨x, y⟩ := f
    cases x <;> cases y <;> simp [objRow] at hr
    subst hr
    exact ⟨e, ho⟩
  | _ => simp [objRow] at hr
theorem row?_of {w : World} {b : Nat} {c : Array Value} {e : TypeId} (h : w.heap[b]? = some (.cells c e (0, 0))) : w.row? b = some c := by rw [row?_heap, h]; rfl
@[go_sem] theorem row?_setRow (w : World) (g : Nat) (c : Array Value) (b : Nat) : (w.setRow g c).row? b = if b = g then (w.row? b).map (fun _ => c) else w.row? b := by
  split
  · rename_i he; subst he
    cases h : w.row? b with
    | some c' => obtain ⟨e, he⟩ := row?_some h; rw [row?_of (setRow_heap w b c' c e (0, 0) he)]; rfl
    | none =>
      rw [row?_heap] at h ⊢
      simp only [World.setRow, Array.getElem?_modify, if_true]
      cases ho : w.heap[b]? with
      | none => rfl
      | some o =>
        rw [ho] at h
        cases o <;> first | rfl | (rename_i f; obtain ⟨x, y⟩ := f; cases x <;> cases y <;> first | rfl | exact h | simp [objRow] at h)
  · exact row?_congr (setRow_other w g b c (by assumption))
@[go_sem] theorem row?_setCell (w : World) (g o : Nat) (v : Value) (b : Nat) : (w.setCell ⟨g, o, none⟩ v).row? b = if b = g then (w.row? b).map (fun c => c.setIfInBounds o v) else w.row? b := by
  split
  · rename_i he; subst he
    cases h : w.row? b with
    | some c' =>
      obtain ⟨e, he⟩ := row?_some h
      rw [setCell_eq_setRow w b o c' e (0, 0) v he, row?_of (setRow_heap w b c' _ e (0, 0) he)]; rfl
    | none =>
      rw [row?_heap] at h ⊢
      simp only [World.setCell, Array.getElem?_modify, if_true]
      cases ho : w.heap[b]? with
      | none => rfl
      | some o =>
        rw [ho] at h
        cases o <;> first | rfl | (rename_i f; obtain ⟨x, y⟩ := f; cases x <;> cases y <;> first | rfl | exact h | simp [objRow] at h)
  · refine row?_congr ?_
    simp only [World.setCell, Array.getElem?_modify]
    rw [if_neg (fun e => by simp_all)]
@[go_sem] theorem cell?_setRow (w : World) (g : Nat) (c : Array Value) (b o : Nat) : (w.setRow g c).cell? ⟨b, o, none⟩ = if b = g then (if (w.row? g).isSome = true then c[o]? else later (w.setRow g c) b o) else w.cell? ⟨b, o, none⟩ := by
  split
  · rename_i he; subst he
    split
    · rename_i h
      obtain ⟨c', h⟩ := Option.isSome_iff_exists.1 h
      obtain ⟨e, he⟩ := row?_some h
      exact cell_of_row _ _ _ c e (0, 0) (setRow_heap w b c' c e (0, 0) he)
    · rfl
  · exact World.cell?_of_block (setRow_other w g b c (by assumption))
@[go_sem] theorem frozen?_setRow (w : World) (g : Nat) (c : Array Value) (b o : Nat) : (w.setRow g c).frozen? ⟨b, o, none⟩ = if b = g then (if (w.row? g).isSome = true then false else laterF (w.setRow g c) b o) else w.frozen? ⟨b, o, none⟩ := by
  split
  · rename_i he; subst he
    split
    · rename_i h
      obtain ⟨c', h⟩ := Option.isSome_iff_exists.1 h
      obtain ⟨e, he⟩ := row?_some h
      simp [World.frozen?, setRow_heap w b c' c e (0, 0) he]
    · rfl
  · exact World.frozen?_of_block (setRow_other w g b c (by assumption))
theorem cell?_of_row? {w : World} {b : Nat} {c : Array Value} (h : w.row? b = some c) (o : Nat) : w.cell? ⟨b, o, none⟩ = c[o]? := by
  obtain ⟨e, he⟩ := row?_some h
  exact cell_of_row _ _ _ c e (0, 0) he
theorem frozen?_of_row? {w : World} {b : Nat} {c : Array Value} (h : w.row? b = some c) (o : Nat) : w.frozen? ⟨b, o, none⟩ = false := by
  obtain ⟨e, he⟩ := row?_some h
  simp [World.frozen?, he]
theorem row?_lt {w : World} {b : Nat} {c : Array Value} (h : w.row? b = some c) : b < w.heap.size := by
  obtain ⟨e, he⟩ := row?_some h
  exact (Array.getElem?_eq_some_iff.1 he).1
theorem _root_.Go.RowKit.Below.setRow {B : Nat} {a w : World} (h : Below B a w) {g : Nat} (hg : B ≤ g) (c : Array Value) : Below B a (w.setRow g c) :=
  h.trans ⟨rfl, rfl, rfl, by simp, fun k hk => setRow_other w g k c (by omega)⟩

theorem zW {B : Nat} {a w : World} (h : Below B a w) {g : Nat} (hg : B ≤ g) (c : Array Value) : Below B a (w.setRow g c) := Below.setRow h hg c

/-- All that a walk wants behind a call that made memory alone. -/
theorem brow {W w1 : World} (hb : Below W.heap.size W w1) : (∀ b o, w1.cell? ⟨b, o, none⟩ = if b < W.heap.size then W.cell? ⟨b, o, none⟩ else later w1 b o) ∧
    (∀ b o, w1.frozen? ⟨b, o, none⟩ = if b < W.heap.size then W.frozen? ⟨b, o, none⟩ else laterF w1 b o) ∧
    (∀ b, w1.row? b = if b < W.heap.size then W.row? b else laterR w1 b) ∧ W.heap.size ≤ w1.heap.size :=
  ⟨(bcell hb).1, (bcell hb).2.1, fun b => by split
                                             · exact row?_congr (hb.block b (by assumption))
                                             · rfl, hb.size⟩

/-- A struct's (an array's) type, of so many cells. -/
def aggB (P : Program) (t : TypeId) (n : Nat) : Bool :=
  (match P.underlying t with
   | some (.struct _) | some (.array _ _) => true
   | _ => false) && (P.info? t).map (·.size) == some n
section
variable {P : Program}
def slowLoad (t : TypeId) (b off : Nat) : Sem Value := Instr.loadAt t (.pointer (some ⟨b, off, none⟩))
def slowStore (t : TypeId) (b off : Nat) (v : Value) : Sem Unit := Instr.storeAt t (.pointer (some ⟨b, off, none⟩)) v
def rawLoad (t : TypeId) (b off : Nat) : Sem Value := Instr.loadAt t (.pointer (some ⟨b, off, none⟩))
def rawStore (t : TypeId) (b off : Nat) (vs : Array Value) : Sem Unit := Instr.storeAt t (.pointer (some ⟨b, off, none⟩)) (.agg vs)
def rowLoad (P : Program) (t n : Nat) (w : World) (b off : Nat) : Option (Array Value) → Result Value
  | some c => if off + n ≤ c.size then .ok (.agg ((c.toList.drop off).take n).toArray) w else (slowLoad t b off).run P w
  | none => (slowLoad t b off).run P w
@[go_sem] theorem rowLoad_some (t n : Nat) (w : World) (b off : Nat) (c : Array Value) : rowLoad P t n w b off (some c) = if off + n ≤ c.size then .ok (.agg ((c.toList.drop off).take n).toArray) w else (slowLoad t b off).run P w := rfl
def rowStore (P : Program) (t n : Nat) (w : World) (b off : Nat) (vs : Array Value) : Option (Array Value) → Result Unit
  | some c => if off + n ≤ c.size ∧ vs.size = n ∧ vs.toList.all Value.oneCell' = true then .ok () (w.setRow b (c.toList.take off ++ vs.toList ++ c.toList.drop (off + n)).toArray) else (slowStore t b off (.agg vs)).run P w
  | none => (slowStore t b off (.agg vs)).run P w
@[go_sem] theorem rowStore_some (t n : Nat) (w : World) (b off : Nat) (vs c : Array Value) : rowStore P t n w b off vs (some c) =
    if off + n ≤ c.size ∧ vs.size = n ∧ vs.toList.all Value.oneCell' = true then .ok () (w.setRow b (c.toList.take off ++ vs.toList ++ c.toList.drop (off + n)).toArray) else (slowStore t b off (.agg vs)).run P w := rfl
@[go_sem] theorem oneCell'_int (k : IntKind) (n : Int) : (Value.int k n).oneCell' = true := rfl
@[go_sem] theorem oneCell'_bool (b : Bool) : (Value.bool b).oneCell' = true := rfl
@[go_sem] theorem oneCell'_string (s : ByteArray) : (Value.string s).oneCell' = true := rfl
@[go_sem] theorem oneCell'_pointer (a : Option Addr) : (Value.pointer a).oneCell' = true := rfl
@[go_sem] theorem oneCell'_slice (a : Option Addr) (n c : Nat) : (Value.slice a n c).oneCell' = true := rfl
@[go_sem] theorem oneCell'_map (r : Option Nat) : (Value.map r).oneCell' = true := rfl
theorem run_loadAt_row (t n : Nat) (ha : aggB P t n = true) (w : World) (b off : Nat) : (Instr.loadAt t (.pointer (some ⟨b, off, none⟩))).run P w = rowLoad P t n w b off (w.row? b) := by
  cases h : w.row? b with
  | none => rfl
  | some c =>
    rw [rowLoad_some]
    split
    · rename_i hle
      obtain ⟨e, he⟩ := row?_some h
      simp only [aggB, Bool.and_eq_true, beq_iff_eq] at ha
      obtain ⟨h1, h2⟩ := ha
      have hl := run_loadCells_list (P := P) w ⟨b, off, none⟩ ((c.toList.drop off).take n) (fun j v hj => by
        rw [Addr.add_lit, cell_of_row w b (off + j) c e (0, 0) he]
        rw [List.getElem?_take] at hj
        split at hj
        · simpa using hj
        · cases hj)
      have hlen : ((c.toList.drop off).take n).length = n := by simp; omega
      rw [hlen] at hl
      cases hi : P.info? t with
      | none => simp [hi] at h2
      | some i =>
        have h2' : i.size = n := by simpa [hi] using h2
        cases hu : P.underlying t with
        | none => simp [hu] at h1
        | some d =>
          rw [hu] at h1
          cases d <;> first
            | (simp at h1; done)
            | (simp [Instr.loadAt, Instr.sureAddr, loadVar, isAgg, run_underlying hu, sizeOf, typeInfo, hi, h2', hl])
    · rfl
theorem run_storeAt_row (t n : Nat) (ha : aggB P t n = true) (w : World) (b off : Nat) (vs : Array Value) : (Instr.storeAt t (.pointer (some ⟨b, off, none⟩)) (.agg vs)).run P w = rowStore P t n w b off vs (w.row? b) := by
  cases h : w.row? b with
  | none => rfl
  | some c =>
    rw [rowStore_some]
    split
    · rename_i hc
      obtain ⟨hle, hvs, hone⟩ := hc
      obtain ⟨e, he⟩ := row?_some h
      simp only [aggB, Bool.and_eq_true, beq_iff_eq] at ha
      obtain ⟨h1, h2⟩ := ha
      have hst := run_storeCells_at P b off e vs.toList 0 c w he (by simp; omega) (fun v hv => List.all_eq_true.1 hone v hv)
      cases hi : P.info? t with
      | none => simp [hi] at h2
      | some i =>
        have h2' : i.size = n := by simpa [hi] using h2
        simp [Instr.storeAt, Instr.sureAddr, storeVar, Value.cells, sizeOf, typeInfo, hi, h2', hvs] at hst ⊢
        exact hst
    · rfl
end

/-! ### append of one element that was laid in a block of its own -/
section
variable {P : Program} {ops : Array Oper} {rest : List Oper} {o : Oper} {a : Act} {Q : Exit → Act → World → Prop}
theorem add_plain (g j : Nat) : (⟨g, 0, none⟩ : Addr).add j = ⟨g, j, none⟩ := by unfold Addr.add; split <;> simp_all
theorem news_new (W : World) (cs : Array Value) (e : TypeId) : ∀ j u, cs.toList[j]? = some u → (W.alloc (.cells cs e)).cell? ((⟨W.heap.size, 0, none⟩ : Addr).add j) = some u := by
  intro j u h
  rw [add_plain, cell_of_row _ _ j cs e (0, 0) (heap_alloc_new W _)]
  simpa using h
theorem run_app1 {W : World} (base : Nat) (t ty e : TypeId) (z : Value) (size bytes : Nat)
    (ht : P.underlying t = some (.slice e)) (hinfo : (P.info? e).map (fun i => (i.zero, i.size, i.bytes)) = some (some z, size, bytes)) (hz : z.cells.size = size) (hsz : 0 < size)
    (v : Value) (n : Nat) (xs : List Value) (cs : Array Value) (hcs : cs.size = size) (h1 : ∀ u ∈ cs.toList, u.oneCell' = true)
    (HO : W.ownsRow base e size v n xs) (hbase : base ≤ W.heap.size) (hl : (n + 1) * bytes ≤ 140737488355328) (hm : n + 1 ≤ maxLen) :
    ∃ v1 w1, (Builtin.append_ #[t, t] ty #[v, .slice (some ⟨W.heap.size, 0, none⟩) 1 1]).run P (W.alloc (.cells cs e)) = .ok v1 w1 ∧
      w1.ownsRow base e size v1 (n + 1) (xs ++ cs.toList) ∧ W.grownBy w1 v.ownBlock ∧ (v1.ownBlock = v.ownBlock ∨ ∃ b, v1.ownBlock = some b ∧ W.heap.size ≤ b) := by
  obtain ⟨i0, hi, hzz⟩ := Option.map_eq_some_iff.1 hinfo
  simp only [Prod.mk.injEq] at hzz
  obtain ⟨hz0, hz1, hz2⟩ := hzz
  obtain ⟨v1, w1, hr, h2, h3, _, h5⟩ := run_append_own_at (P := P) (W.alloc (.cells cs e)) base t ty e i0 z size bytes ht hi hz0 hz1 hz2 hz hsz v n xs (HO.alloc _)
    ⟨W.heap.size, 0, none⟩ 1 1 cs.toList (by simp [hcs]) (news_new W cs e) h1 hm hl (by simp; omega)
  refine ⟨v1, w1, hr, h2, World.grownBy.trans (World.grownBy_alloc W _ _) h3, ?_⟩
  rcases h5 with h5 | h5
  · exact .inl h5
  · exact .inr ⟨_, h5, by simp⟩
theorem app1 {W : World} (base : Nat) (hgd : o.guard = none) (s x : Operand) (t e : TypeId) (z : Value) (size bytes : Nat)
    (ho : o.op = .call { callee := .builtin .append, args := #[s, x], argTypes := #[t, t] })
    (ht : P.underlying t = some (.slice e)) (hinfo : (P.info? e).map (fun i => (i.zero, i.size, i.bytes)) = some (some z, size, bytes)) (hz : z.cells.size = size) (hsz : 0 < size)
    (v : Value) (n : Nat) (xs : List Value) (cs : Array Value) (hs : a.eval s = v) (hx : a.eval x = .slice (some ⟨W.heap.size, 0, none⟩) 1 1) (hcs : cs.size = size) (h1 : ∀ u ∈ cs.toList, u.oneCell' = true)
    (HO : W.ownsRow base e size v n xs) (hbase : base ≤ W.heap.size) (hl : (n + 1) * bytes ≤ 140737488355328) (hm : n + 1 ≤ maxLen)
    (h : ∀ v1 w1, w1.ownsRow base e size v1 (n + 1) (xs ++ cs.toList) → W.grownBy w1 v.ownBlock → (v1.ownBlock = v.ownBlock ∨ ∃ b, v1.ownBlock = some b ∧ W.heap.size ≤ b) → wpList P ops Q rest (a.put o.dst v1) w1) :
    wpList P ops Q (o :: rest) a (W.alloc (.cells cs e)) := by
  refine wpList_plain hgd fun K hK => ?_
  obtain ⟨v1, w1, hr, h2, h3, h5⟩ := run_app1 (P := P) base t o.type e z size bytes ht hinfo hz hsz v n xs cs hcs h1 HO hbase hl hm
  unfold Oper.wp execOp
  simp only [ho, resolve, invoke, builtin, Sem.run_bind, Sem.run_pure, Result.andThen_ok, List.map_toArray, List.map_cons, List.map_nil, hs, hx, hr]
  exact hK _ _ (h v1 w1 h2 h3 h5)
end
/-- 'string(b)' of bytes that the call owns. -/
theorem run_str_own {P : Program} {w : World} {base : Nat} {src dst e e' : TypeId} {v : Value} {n : Nat} {l : Bytes} (hs : P.underlying src = some (.slice e)) (he : P.underlying e = some (.int .u8)) (hd : P.underlying dst = some .string)
    (h : w.ownsRow base e' 1 v n (bv l)) : (convert src dst v).run P w = .ok (.string (str l)) w := by
  have hl : l.length = n := by have := h.1; simpa using this
  rcases h.2 with ⟨rfl, rfl⟩ | ⟨g, cap, cur, rfl, _⟩
  · obtain rfl : l = [] := List.eq_nil_of_length_eq_zero hl
    exact run_convert_bytes_nil w src e hs he 0 0 dst hd
  · subst hl
    exact run_convert_bytes_back w src dst e ⟨g, 0, none⟩ cap l hs he hd (fun j hj => h.cells (g := g) rfl j _ (by simp [bv, List.getElem?_eq_getElem hj]))
/-- Grown by writes to a row of the call's own: below base all is as it was. -/
theorem below_row {w0 w w1 : World} {B base : Nat} {e : TypeId} {size n : Nat} {v : Value} {xs : List Value} (h : Below B w0 w) (ho : w.ownsRow base e size v n xs) (hB : B ≤ base) (hb : base ≤ w.heap.size) (hg : w.grownBy w1 v.ownBlock) : Below B w0 w1 :=
  h.grown hg (by omega) (fun k hk => by have := (ho.lt k hk).1; omega)

end Go.Proofs.YtkgpnikmdmpfaaaGreatDoor

/-
  What the functions of package bits come to, on lists of bytes.
-/

set_option linter.unusedVariables false
namespace Go.Proofs.YtkgpnikmdmpfaaaGreatDoor

abbrev Byte8 := List UInt8
def varB (n : Nat) : List UInt8 := if n < 128 then [UInt8.ofNat n] else UInt8.ofNat (n % 128 + 128) :: varB (n / 128)
theorem varB_small {n : Nat} (h : n < 128) : varB n = [UInt8.ofNat n] := by rw [varB, if_pos h]
theorem varB_great {n : Nat} (h : 128 ≤ n) : varB n = UInt8.ofNat (n % 128 + 128) :: varB (n / 128) := by rw [varB, if_neg (by omega)]
theorem varB_pos (n : Nat) : 0 < (varB n).length := by
  by_cases h : n < 128
  · rw [varB_small h]; simp
  · rw [varB_great (by omega)]; simp
theorem varB_len (k : Nat) : ∀ n : Nat, n < 128 ^ k → 0 < k → (varB n).length ≤ k := by
  induction k with
  | zero => intro n _ h; omega
  | succ k ih =>
    intro n hn _
    by_cases h : n < 128
    · rw [varB_small h]; simp
    · rw [varB_great (by omega)]
      have h1 : n / 128 < 128 ^ k := by rw [Nat.pow_succ] at hn; omega
      have hk : 0 < k := by
        rcases Nat.eq_zero_or_pos k with h0 | h0
        · subst h0; simp at h1; omega
        · exact h0
      have := ih (n / 128) h1 hk
      simp; omega
theorem varB_len64 {n : Nat} (h : n < 18446744073709551616) : (varB n).length ≤ 10 := by
  have e : (128 : Nat) ^ 10 = 1180591620717411303424 := by decide
  exact varB_len 10 n (by omega) (by omega)
def textB (s : List UInt8) : List UInt8 := varB s.length ++ s
end Go.Proofs.YtkgpnikmdmpfaaaGreatDoor

/-
  What the functions of money, keys, orders, rows, books and saga come to on single values, as plain functions.
-/

set_option linter.unusedVariables false
namespace Go.Proofs.YtkgpnikmdmpfaaaGreatDoor
namespace Sp

structure Order where
  id : Int
  ref : List UInt8
  sku : List UInt8
  qty : Int
  amount : Int
  deriving DecidableEq, Repr
structure Row where
  order : Int
  deed : Int
  code : Int
  amount : Int
  qty : Int
  deriving DecidableEq, Repr
structure Stmt where
  party : Int
  seq : Int
  rows : List Row
  deriving DecidableEq, Repr
structure Posting where
  id : List UInt8
  order : Int
  debit : Int
  credit : Int
  amount : Int
  deriving DecidableEq, Repr
structure Saga where
  o : Order
  d0 : Int
  d1 : Int
  d2 : Int
  d3 : Int
  d4 : Int
  d5 : Int
  cancel : Bool
  deriving DecidableEq, Repr
instance : Inhabited Order := ⟨⟨0, [], [], 0, 0⟩⟩
instance : Inhabited Row := ⟨⟨0, 0, 0, 0, 0⟩⟩
instance : Inhabited Stmt := ⟨⟨0, 0, []⟩⟩
instance : Inhabited Posting := ⟨⟨[], 0, 0, 0, 0⟩⟩
instance : Inhabited Saga := ⟨⟨default, 0, 0, 0, 0, 0, 0, false⟩⟩

/-! money -/
def in64 (n : Int) : Bool := decide (-9223372036854775808 ≤ n) && decide (n ≤ 9223372036854775807)
def sumOr (n : Int) : Int := if in64 n then n else 0

/-! keys -/
def isDeed (d : Int) : Bool := decide (0 ≤ d) && decide (d < 6)
def keyOk (o d : Int) : Bool := decide (1 ≤ o) && decide (o ≤ 60) && isDeed d
def party (d : Int) : Int := if isDeed d then (if d % 3 = 0 then 1 else if d % 3 = 1 then 0 else 2) else -1
def keyLess (o d o' d' : Int) : Bool := decide (o < o') || (decide (o = o') && decide (d < d'))

/-! orders -/
def nameByte (b : UInt8) : Bool := (65 ≤ b && b ≤ 90) || (97 ≤ b && b ≤ 122) || (48 ≤ b && b ≤ 57) || b == 45 || b == 95
def nameOk (l : List UInt8) : Bool := l.all nameByte
def orderCheck (o : Order) : Int :=
  if o.id < 1 ∨ o.id > 60 ∨ o.qty < 1 ∨ o.qty > 999 ∨ o.amount < 1 ∨ o.amount > 1099511627776 ∨ o.ref = [] ∨ o.sku = [] then 2
  else if o.ref.length > 16 ∨ o.sku.length > 8 then 3
  else if nameOk o.ref = false ∨ nameOk o.sku = false then 2
  else 0

/-! rows -/
def rowOk (r : Row) (p : Int) : Bool :=
  keyOk r.order r.deed && decide (party r.deed = p) && (decide (r.code = 1) || decide (r.code = 2)) &&
  (if r.code = 2 then decide (r.amount = 0) && decide (r.qty = 0)
   else if p = 0 then decide (r.qty = 0) && decide (0 ≤ r.amount) && decide (r.amount ≤ 1099511627776)
   else decide (r.amount = 0) && decide (0 ≤ r.qty) && decide (r.qty ≤ 999))

/-! books -/
def account (n : Int) : Bool := decide (0 ≤ n) && decide (n ≤ 4)
def postOk (p : Posting) : Bool := decide (p.id ≠ []) && decide (1 ≤ p.order) && account p.debit && account p.credit && decide (p.debit ≠ p.credit) && decide (0 ≤ p.amount)

/-! saga -/
def begin_ (o : Order) : Saga := ⟨o, 1, 0, 0, 0, 0, 0, false⟩
def back (s : Saga) : Bool := s.cancel || decide (s.d0 = 3) || decide (s.d1 = 3) || decide (s.d2 = 3)
/-- the deed that is waited for; -1: none. -/
def waits (s : Saga) : Int := if s.d0 = 1 then 0 else if s.d1 = 1 then 1 else if s.d2 = 1 then 2 else if s.d3 = 1 then 3 else if s.d4 = 1 then 4 else if s.d5 = 1 then 5 else -1
def state (s : Saga) : Int :=
  if back s then (if 0 ≤ waits s then 1 else if s.cancel then 4 else 3) else (if 0 ≤ waits s then 0 else 2)
def onward (s : Saga) : Saga :=
  if back s then
    (if (s.d2 = 2 ∨ s.d2 = 4) ∧ s.d5 = 0 then { s with d5 := 1 }
     else if (s.d1 = 2 ∨ s.d1 = 4) ∧ s.d4 = 0 then { s with d4 := 1 }
     else if (s.d0 = 2 ∨ s.d0 = 4) ∧ s.d3 = 0 then { s with d3 := 1 }
     else s)
  else if s.d0 = 0 then { s with d0 := 1 } else if s.d1 = 0 then { s with d1 := 1 } else if s.d2 = 0 then { s with d2 := 1 } else s
def setD (s : Saga) (d v : Int) : Saga :=
  if d = 0 then { s with d0 := v } else if d = 1 then { s with d1 := v } else if d = 2 then { s with d2 := v } else if d = 3 then { s with d3 := v } else if d = 4 then { s with d4 := v } else if d = 5 then { s with d5 := v } else s
def getD (s : Saga) (d : Int) : Int :=
  if d = 0 then s.d0 else if d = 1 then s.d1 else if d = 2 then s.d2 else if d = 3 then s.d3 else if d = 4 then s.d4 else s.d5
/-- a reply; none: there is no such one. -/
def reply (s : Saga) (deed code : Int) : Option Saga :=
  if waits s < 0 ∨ waits s ≠ deed then none
  else if code = 1 then some (onward (setD s (waits s) 2))
  else if code = 2 ∧ waits s ≤ 2 then some (onward (setD s (waits s) 3))
  else none
def stop (s : Saga) : Option Saga := if state s = 0 then some (onward { setD s (waits s) 4 with cancel := true }) else none
def net (s : Saga) : Int := if s.d1 ≠ 2 ∨ s.d4 = 2 then 0 else s.o.amount

end Sp
end Go.Proofs.YtkgpnikmdmpfaaaGreatDoor

/-
  The walks of functions on single values: money, keys, books.
-/

set_option linter.unusedVariables false
set_option linter.unusedSimpArgs false
namespace Go.Proofs.YtkgpnikmdmpfaaaGreatDoor
open Go.RowKit

theorem ret_bool {a b : Bool} (h : a = b) : Ending.returned (.bool a) = .returned (.bool b) := by rw [h]
theorem ret_i64 {a b : Int} (h : a = b) : Ending.returned (.int .i64 a) = .returned (.int .i64 b) := by rw [h]

set_option maxRecDepth 100000 in
set_option maxHeartbeats 400000 in
theorem Add_any (a b : Int) (w : World) (ha : Sp.in64 a = true) (hb : Sp.in64 b = true) :
    Calls Tryz.prog 118 #[.int .i64 a, .int .i64 b] w fun e w' => e = .returned (.tuple #[.int .i64 (Sp.sumOr (a + b)), .bool (Sp.in64 (a + b))]) ∧ w = w' := by
  simp only [Sp.in64, Bool.and_eq_true, decide_eq_true_eq] at ha hb
  obtain ⟨ha1, ha2⟩ := ha
  obtain ⟨hb1, hb2⟩ := hb
  go_enter Tryz.func118, Tryz.ntmps118
  go_wp2
  all_goals
    go_ret2
    refine ⟨?_, rfl⟩
    first
      | (have e : Sp.in64 (a + b) = true := by simp [Sp.in64]; omega
         simp [Sp.sumOr, e])
      | (have e : Sp.in64 (a + b) = false := by simp [Sp.in64]; omega
         simp [Sp.sumOr, e])

set_option maxRecDepth 100000 in
set_option maxHeartbeats 400000 in
theorem Sub_any (a b : Int) (w : World) (ha : Sp.in64 a = true) (hb : Sp.in64 b = true) :
    Calls Tryz.prog 119 #[.int .i64 a, .int .i64 b] w fun e w' => e = .returned (.tuple #[.int .i64 (Sp.sumOr (a - b)), .bool (Sp.in64 (a - b))]) ∧ w = w' := by
  simp only [Sp.in64, Bool.and_eq_true, decide_eq_true_eq] at ha hb
  obtain ⟨ha1, ha2⟩ := ha
  obtain ⟨hb1, hb2⟩ := hb
  go_enter Tryz.func119, Tryz.ntmps119
  go_wp2
  all_goals
    go_ret2
    refine ⟨?_, rfl⟩
    first
      | (have e : Sp.in64 (a - b) = true := by simp [Sp.in64]; omega
         simp [Sp.sumOr, e])
      | (have e : Sp.in64 (a - b) = false := by simp [Sp.in64]; omega
         simp [Sp.sumOr, e])

set_option maxRecDepth 100000 in
set_option maxHeartbeats 400000 in
theorem isDeed_any (d : Int) (w : World) : Calls Tryz.prog 120 #[.int .i64 d] w fun e w' => e = .returned (.bool (Sp.isDeed d)) ∧ w = w' := by
  go_enter Tryz.func120, Tryz.ntmps120
  go_wp2
  all_goals
    go_ret
    exact ⟨ret_bool (by rw [Bool.eq_iff_iff]; simp [Sp.isDeed]; try omega), rfl⟩

set_option maxRecDepth 100000 in
set_option maxHeartbeats 400000 in
theorem keysCheck_any (o d : Int) (w : World) : Calls Tryz.prog 95 #[.agg #[.int .i64 o, .int .i64 d]] w fun e w' => e = .returned (.bool (Sp.keyOk o d)) ∧ Below w.heap.size w w' := by
  go_enter Tryz.func95, Tryz.ntmps95
  go_wp2_with (go_at_call 120; refine (isDeed_any _ _).mono ?_; rintro e w1 ⟨rfl, rfl⟩)
  all_goals
    go_ret
    exact ⟨ret_bool (by rw [Bool.eq_iff_iff]; simp [Sp.keyOk]; try omega), (Below.refl _ _).alloc (Nat.le_refl _) _⟩

set_option maxRecDepth 100000 in
set_option maxHeartbeats 400000 in
theorem keysLess_any (o d o' d' : Int) (w : World) : Calls Tryz.prog 128 #[.agg #[.int .i64 o, .int .i64 d], .agg #[.int .i64 o', .int .i64 d']] w fun e w' => e = .returned (.bool (Sp.keyLess o d o' d')) ∧ Below w.heap.size w w' := by
  go_enter Tryz.func128, Tryz.ntmps128
  go_wp2
  all_goals
    go_ret
    exact ⟨ret_bool (by rw [Bool.eq_iff_iff]; simp [Sp.keyLess]; try omega), ((Below.refl _ _).alloc (Nat.le_refl _) _).alloc (by simp) _⟩

set_option maxRecDepth 100000 in
set_option maxHeartbeats 400000 in
theorem account_any (d : Int) (w : World) : Calls Tryz.prog 117 #[.int .i64 d] w fun e w' => e = .returned (.bool (Sp.account d)) ∧ w = w' := by
  go_enter Tryz.func117, Tryz.ntmps117
  go_wp2
  all_goals
    go_ret
    exact ⟨ret_bool (by rw [Bool.eq_iff_iff]; simp [Sp.account]; try omega), rfl⟩

set_option maxRecDepth 100000 in
set_option maxHeartbeats 400000 in
theorem may_any (id : Bytes) (o d c amt : Int) (w : World) :
    Calls Tryz.prog 92 #[.agg #[.string (str id), .int .i64 o, .int .i64 d, .int .i64 c, .int .i64 amt]] w fun e w' => e = .returned (.bool (Sp.postOk ⟨id, o, d, c, amt⟩)) ∧ Below w.heap.size w w' := by
  go_enter Tryz.func92, Tryz.ntmps92
  go_wp2
  all_goals
    go_ret
    exact ⟨ret_bool (by rw [Bool.eq_iff_iff]; first | (simp [Sp.postOk, Sp.account]; omega) | (simp_all [Sp.postOk, Sp.account]; done) | (simp_all [Sp.postOk, Sp.account]; omega)), (Below.refl _ _).alloc (Nat.le_refl _) _⟩
end Go.Proofs.YtkgpnikmdmpfaaaGreatDoor

/-
  The walks of keys.Party, orders.name, orders.Check, rows.may.
-/

set_option linter.unusedVariables false
set_option linter.unusedSimpArgs false
namespace Go.Proofs.YtkgpnikmdmpfaaaGreatDoor
open Go.RowKit

/-- The deeds' parties, as the program's text lays them. -/
def Parties (w : World) : Prop := ∀ i : Nat, i < 6 → w.cell? ⟨2, i, none⟩ = some (.int .i64 (if i % 3 = 0 then 1 else if i % 3 = 1 then 0 else 2))
theorem Parties.grew {w w' : World} (h : Parties w) (hb : Below w.heap.size w w') : Parties w' := fun i hi => by
  have := h i hi
  exact cell_later hb this

set_option maxRecDepth 100000 in
set_option maxHeartbeats 400000 in
theorem Party_any (d : Int) (w : World) (hp : Parties w) : Calls Tryz.prog 133 #[.int .i64 d] w fun e w' => e = .returned (.int .i64 (Sp.party d)) ∧ w = w' := by
  by_cases h : Sp.isDeed d = true
  · have hd : 0 ≤ d ∧ d < 6 := by simpa [Sp.isDeed] using h
    obtain ⟨k, rfl⟩ := Int.eq_ofNat_of_zero_le hd.1
    have hk : k < 6 := by omega
    have hc := hp k hk
    have hv : Sp.party (k : Int) = (if k % 3 = 0 then 1 else if k % 3 = 1 then 0 else 2) := by
      unfold Sp.party; rw [if_pos h]
      repeat' split
      all_goals omega
    generalize (if k % 3 = 0 then (1 : Int) else if k % 3 = 1 then 0 else 2) = v at hc hv
    clear hd hp
    go_enter Tryz.func133, Tryz.ntmps133
    go_wp2_with (go_at_call 120; refine (isDeed_any _ _).mono ?_; rintro e w1 ⟨rfl, rfl⟩)
    go_ret
    exact ⟨ret_i64 hv.symm, rfl⟩
  · have h' : Sp.isDeed d = false := by simpa using h
    have hv : Sp.party d = -1 := by unfold Sp.party; rw [if_neg h]
    clear hp
    go_enter Tryz.func133, Tryz.ntmps133
    go_wp2_with (go_at_call 120; refine (isDeed_any _ _).mono ?_; rintro e w1 ⟨rfl, rfl⟩)
    go_ret
    exact ⟨ret_i64 hv.symm, rfl⟩

theorem nameByte_iff (b : UInt8) : Sp.nameByte b = true ↔ ((65 ≤ (b.toNat : Int) ∧ (b.toNat : Int) ≤ 90) ∨ (97 ≤ (b.toNat : Int) ∧ (b.toNat : Int) ≤ 122) ∨ (48 ≤ (b.toNat : Int) ∧ (b.toNat : Int) ≤ 57) ∨ (b.toNat : Int) = 45 ∨ (b.toNat : Int) = 95) := by
  simp only [Sp.nameByte, Bool.or_eq_true, Bool.and_eq_true, decide_eq_true_eq, beq_iff_eq, UInt8.le_iff_toNat_le, ← UInt8.toNat_inj]
  simp
  omega

def NameRel (w : World) (s : Bytes) (wr : World) : Prop := ∃ pos : Nat, pos ≤ s.length ∧ Hid ((s.take pos).all Sp.nameByte = true) ∧ wr = w.iter (str s) pos

theorem str_get (s : Bytes) (i : Nat) (h : i < (str s).size) : (str s)[i]'h = s[i]'(by simpa using h) := by simp [str]; rfl

set_option maxRecDepth 100000 in
set_option maxHeartbeats 1000000 in
theorem name_any (s : Bytes) (w : World) (hs : s.length ≤ 4611686018427387904) : Calls Tryz.prog 87 #[.string (str s)] w fun e w' => e = .returned (.bool (Sp.nameOk s)) ∧ Below w.heap.size w w' := by
  have HS := Lib.hid hs
  clear hs
  go_enter Tryz.func87, Tryz.ntmps87
  go_wp2
  go_loopw [4] (fun _ wr => NameRel w s wr) (fun _ wr => s.length - wr.iterPos w.heap.size)
  case atStart => exact ⟨0, Nat.zero_le _, by show _ = _; simp, rfl⟩
  case round =>
    obtain ⟨pos, hpos, HA, rfl⟩ := hrel
    by_cases hlt : pos < s.length
    · by_cases hb : (s[pos]).toNat < 128
      · obtain ⟨b, hbe, hn⟩ : ∃ b : UInt8, Hid (b = s[pos]) ∧ ∀ ty, (Instr.next (.pointer (some ⟨w.heap.size, 0, none⟩)) true ty).run Tryz.prog (w.iter (str s) pos) =
            .ok (.tuple #[.bool true, .int .i64 pos, .int .i32 (b.toNat : Int)]) (w.iter (str s) (pos + 1)) :=
          ⟨s[pos], rfl, fun ty => by have := run_next_ascii (P := Tryz.prog) w (str s) pos ty (by simpa using hlt) (by rw [str_get]; exact hb); rwa [str_get] at this⟩
        have hbb := b.toNat_lt
        have HN := Lib.hid (nameByte_iff b)
        by_cases hok : Sp.nameByte b = true
        · have hrel' : NameRel w s (w.iter (str s) (pos + 1)) := ⟨pos + 1, by omega, by show _ = _; rw [List.take_succ_eq_append_getElem hlt, List.all_append, HA.out, ← hbe.out]; simp [hok], rfl⟩
          have hor := HN.out.1 hok
          clear hpos hb hok
          have h0 : Hid _ := hrel'
          clear hrel'
          rcases hor with h1 | h1 | h1 | h1 | h1
          all_goals
            go_wp2
            exact ⟨h0.out, by simp; omega⟩
        · have hno : Sp.nameOk s = false := by
            unfold Sp.nameOk
            rw [List.all_eq_false]
            exact ⟨s[pos], List.getElem_mem hlt, by rw [← hbe.out]; exact hok⟩
          have hor := mt HN.out.2 hok
          simp only [not_or, not_and] at hor
          have HF := Lib.hid hor
          have HNO := Lib.hid hno
          clear hpos hb hok hor hno
          go_wp2
          all_goals
            first
              | (exfalso; have := HF.out; omega)
              | (exfalso; have := HF.out; simp only [beq_iff_eq] at *; omega)
              | (go_ret; exact ⟨ret_bool HNO.out.symm, (Below.refl _ _).alloc (Nat.le_refl _) _⟩)
      · have hge : 128 ≤ (s[pos]).toNat := by omega
        obtain ⟨c, hc, hn⟩ : ∃ c : Nat, 128 ≤ c ∧ ∀ ty, (Instr.next (.pointer (some ⟨w.heap.size, 0, none⟩)) true ty).run Tryz.prog (w.iter (str s) pos) =
            .ok (.tuple #[.bool true, .int .i64 pos, .int .i32 (c : Int)]) (w.iter (str s) (pos + (Utf8.decode (str s) pos).2)) :=
          ⟨(Utf8.decode (str s) pos).1, (decode_high (str s) pos (by simpa using hlt) (by rw [str_get]; exact hge)).1, fun ty => run_next_any w (str s) pos ty (by simpa using hlt)⟩
        have hno : Sp.nameOk s = false := by
          unfold Sp.nameOk
          rw [List.all_eq_false]
          refine ⟨s[pos], List.getElem_mem hlt, ?_⟩
          have := nameByte_iff s[pos]
          intro h
          have := this.1 h
          omega
        have HNO := Lib.hid hno
        clear hpos hb hge hno
        go_wp2
        all_goals
          go_ret
          exact ⟨ret_bool HNO.out.symm, (Below.refl _ _).alloc (Nat.le_refl _) _⟩
    · have hend := fun ty => run_next_end (P := Tryz.prog) w (str s) pos ty (by simpa using hlt)
      have hall : Sp.nameOk s = true := by unfold Sp.nameOk; have := HA.out; rwa [List.take_of_length_le (by omega)] at this
      have HALL := Lib.hid hall
      clear hlt hall
      go_wp2
      go_ret
      exact ⟨ret_bool HALL.out.symm, (Below.refl _ _).alloc (Nat.le_refl _) _⟩

set_option maxRecDepth 100000 in
set_option maxHeartbeats 1000000 in
theorem orderCheck_any (id : Int) (ref sku : Bytes) (qty amount : Int) (w : World) (h1 : ref.length ≤ 4611686018427387904) (h2 : sku.length ≤ 4611686018427387904) :
    Calls Tryz.prog 49 #[.agg #[.int .i64 id, .string (str ref), .string (str sku), .int .i64 qty, .int .i64 amount]] w
      fun e w' => e = .returned (.int .i64 (Sp.orderCheck ⟨id, ref, sku, qty, amount⟩)) ∧ Below w.heap.size w w' := by
  have hbel : ∀ (W : World) (o : Obj), Below W.heap.size W (W.alloc o) := fun W o => (Below.refl _ _).alloc (Nat.le_refl _) o
  have HB := Lib.hid hbel
  clear hbel
  have HR : ref.isEmpty = true ∨ ref.isEmpty = false := by cases ref.isEmpty <;> simp
  have HS : sku.isEmpty = true ∨ sku.isEmpty = false := by cases sku.isEmpty <;> simp
  have HN1 : Sp.nameOk ref = true ∨ Sp.nameOk ref = false := by cases Sp.nameOk ref <;> simp
  have HN2 : Sp.nameOk sku = true ∨ Sp.nameOk sku = false := by cases Sp.nameOk sku <;> simp
  have fin : ∀ (n : Int), (Sp.orderCheck ⟨id, ref, sku, qty, amount⟩ = n) → True := fun _ _ => trivial
  clear fin
  rcases HR with HR | HR
  case' inr => rcases HS with HS | HS
  case' inr.inr => rcases HN1 with HN1 | HN1
  case' inr.inr.inl => rcases HN2 with HN2 | HN2
  all_goals
    go_enter Tryz.func49, Tryz.ntmps49
    go_wp2_with (go_at_call 87; refine Calls.mono (name_any _ _ (by omega)) ?_; rintro e w1 ⟨rfl, hb⟩; obtain ⟨hc, hf, hz⟩ := bcell hb)
    all_goals
      go_ret
      refine ⟨ret_i64 ?_, ?_⟩
      · unfold Sp.orderCheck
        simp only [List.isEmpty_iff, List.isEmpty_eq_false_iff] at *
        simp only [*, or_true, or_false, if_true, if_false, List.length_nil, Bool.true_eq_false, true_or, false_or]
        try (repeat' split) <;> omega
      · first
          | exact HB.out _ _
          | exact Grew.trans (HB.out _ _) (by assumption)
          | exact Grew.trans (Grew.trans (HB.out _ _) (by assumption)) (by assumption)
end Go.Proofs.YtkgpnikmdmpfaaaGreatDoor

/-
  Maps of the program's own: what a block holds, key by key, as a plain function. General: without a program.
-/

set_option linter.unusedVariables false
set_option linter.unusedSimpArgs false
set_option linter.unusedSectionVars false
namespace Go.Proofs.YtkgpnikmdmpfaaaGreatDoor
open Go.RowKit Go.Maps

/-- An element is held as it is. -/
def RV (v : Value) : Option (DataW Value × List MemPlace) := some (.held v, [])
def viewD (D : DataW Value) (kl : Lit) (r : Option Value) : Prop := ∀ z, D.atKey kl z = match r with | some v => .held v | none => z
theorem viewD_inj {D : DataW Value} {kl : Lit} {r : Option Value} (h : viewD D kl r) (hn : ∀ z, D.atKey kl z = z) : r = none := by
  cases r with
  | none => rfl
  | some v => have h1 := h .nil; rw [hn] at h1; cases h1
theorem viewD_val {D : DataW Value} {kl : Lit} {r : Option Value} {v : Value} (h : viewD D kl r) (hn : ∀ z, D.atKey kl z = .held v) : r = some v := by
  cases r with
  | none => have h1 := h .nil; rw [hn] at h1; cases h1
  | some u => have h1 := h .nil; rw [hn] at h1; cases h1; rfl

section
variable {P : Program} {k : TypeId} {α : Type} [DecidableEq α] {enc : α → Value}
/-- Block b of w is a map of at most n entries; at key a it holds f a. -/
def MapAt (P : Program) (k : TypeId) (enc : α → Value) (w : World) (b n : Nat) (f : α → Option Value) : Prop :=
  ∃ D, w.ownsMap P k RV b n D ∧ ∀ a kl, keyOf P k (enc a) = some kl → viewD D kl (f a)
variable {w w' : World} {b n : Nat} {f : α → Option Value}
theorem MapAt.lt (h : MapAt P k enc w b n f) : b < w.heap.size := by obtain ⟨D, h1, _⟩ := h; exact h1.lt
theorem MapAt.kept {row : Option Nat} (h : MapAt P k enc w b n f) (hg : w.grownBy w' row) (hne : some b ≠ row) : MapAt P k enc w' b n f := by
  obtain ⟨D, h1, h2⟩ := h; exact ⟨D, h1.kept hg hne, h2⟩
theorem MapAt.alloc (h : MapAt P k enc w b n f) (o : Obj) : MapAt P k enc (w.alloc o) b n f := by obtain ⟨D, h1, h2⟩ := h; exact ⟨D, h1.alloc o, h2⟩
theorem MapAt.mono (h : MapAt P k enc w b n f) {m : Nat} (hm : n ≤ m) : MapAt P k enc w b m f := by obtain ⟨D, h1, h2⟩ := h; exact ⟨D, h1.mono hm, h2⟩
theorem MapAt.below (h : MapAt P k enc w b n f) (hb : Below w.heap.size w w') : MapAt P k enc w' b n f :=
  h.kept (row := none) ⟨hb.os, hb.tape, hb.output, hb.size, fun i hi _ => hb.block i hi⟩ (by simp)
theorem MapAt.heap (h : MapAt P k enc w b n f) : ∃ es clock, w.heap[b]? = some (.map es clock) := by
  obtain ⟨D, ⟨es, clock, h1, _⟩, _⟩ := h; exact ⟨es, clock, h1⟩
theorem MapAt.same (h : MapAt P k enc w b n f) (hb : w'.heap[b]? = w.heap[b]?) : MapAt P k enc w' b n f := by
  obtain ⟨D, ⟨es, clock, h1, h3⟩, h2⟩ := h; exact ⟨D, ⟨es, clock, hb.trans h1, h3⟩, h2⟩
theorem mapAt_new (w : World) : MapAt P k enc (w.alloc (.map #[] 0)) w.heap.size 0 (fun _ => none) :=
  ⟨_, World.ownsMap_made w P k RV, fun a kl _ z => rfl⟩
theorem MapAt.congr {g : α → Option Value} (h : MapAt P k enc w b n f) (hg : ∀ a, (keyOf P k (enc a)).isSome = true → g a = f a) : MapAt P k enc w b n g := by
  obtain ⟨D, h1, h2⟩ := h
  exact ⟨D, h1, fun a kl ha => by rw [hg a (by rw [ha]; rfl)]; exact h2 a kl ha⟩

/-- 'v, ok := m[key]' and 'm[key]'. -/
theorem MapAt.look (h : MapAt P k enc w b n f) (K : Keyed P k) {t e : TypeId} (ht : P.underlying t = some (.map k e)) {z : Value} (hz : (zeroValue e).run P w = .ok z w)
    {a : α} (ha : (keyOf P k (enc a)).isSome = true) (c : Bool) :
    (Instr.lookup t (.map (some b)) (enc a) c).run P w = .ok (if c then .tuple #[(f a).getD z, .bool (f a).isSome] else (f a).getD z) w := by
  obtain ⟨kl, hkl⟩ := Option.isSome_iff_exists.1 ha
  obtain ⟨D, ⟨es, clock, hb, F, hs, hD⟩, hv⟩ := h
  have hvv := hv a kl hkl
  rcases fit_look c K ht hz hb F hkl with ⟨hrun, _, hat⟩ | ⟨e0, y, _, _, hrun, hRv, hat, _⟩
  · have h0 := viewD_inj hvv (fun z => by rw [hD]; exact hat z)
    rw [hrun, h0]; rfl
  · cases hRv
    have h0 := viewD_val hvv (fun z => by rw [hD]; exact hat z)
    rw [hrun, h0]; rfl
/-- 'm[key] = v'. -/
theorem MapAt.put (h : MapAt P k enc w b n f) (K : Keyed P k) {t e : TypeId} (ht : P.underlying t = some (.map k e)) (hn : n < maxLen)
    (henc : ∀ x y, enc x = enc y → x = y) {a : α} (ha : (keyOf P k (enc a)).isSome = true) (v : Value) :
    ∃ w', (Instr.mapUpdate t (.map (some b)) (enc a) v).run P w = .ok () w' ∧ MapAt P k enc w' b (n + 1) (fun x => if x = a then some v else f x) ∧ w.grownBy w' (some b) := by
  obtain ⟨kl, hkl⟩ := Option.isSome_iff_exists.1 ha
  obtain ⟨D, hown, hv⟩ := h
  obtain ⟨w', hrun, h1, h2⟩ := hown.update K ht hn hkl (val := v) (d := .held v) (ps := []) rfl
  refine ⟨w', hrun, ⟨_, h1, fun x kx hkx z => ?_⟩, h2⟩
  by_cases e : x = a
  · subst e
    obtain rfl : kl = kx := by rw [hkl] at hkx; cases hkx; rfl
    simp only [atKey_put_same hown.isMap (K.key hkl), if_true]
  · have hne : kx ≠ kl := fun e' => by subst e'; exact e (henc _ _ (K.inj hkx hkl))
    simp only [atKey_put_other hne, if_neg e]
    exact hv x kx hkx z
/-- maps.Copy. -/
theorem atKey_find {H : Type} (es : List (Lit × DataW H)) (kl : Lit) (z : DataW H) : (DataW.map es).atKey kl z = ((es.find? (fun p => p.1.sameKey kl)).map Prod.snd).getD z := by
  unfold DataW.atKey
  cases h : es.find? (fun p => p.1.sameKey kl) <;> simp [h]
theorem merge_view {Dd Ds : DataW Value} {nd ns bd bs : Nat} {g : α → Option Value} (K : Keyed P k) (hd : w.ownsMap P k RV bd nd Dd) (hs : w.ownsMap P k RV bs ns Ds)
    {a : α} {kl : Lit} (h1 : viewD Dd kl (f a)) (h2 : viewD Ds kl (g a)) : viewD (Lib.mergeD Dd Ds) kl ((g a).or (f a)) := by
  obtain ⟨es, rfl, r, ks⟩ := hs.canonK K
  intro z
  have h3 := atKey_foldPut kl z es Dd hd.isMap (fun p hp => K.one.key (ks p hp)) (apart_of_rising r)
  have hm : Lib.mergeD Dd (.map es) = es.foldl (fun D p => D.put p.1 p.2) Dd := rfl
  rw [hm, h3]
  cases hf : es.find? (fun p => p.1.sameKey kl) with
  | none =>
    have h5 : g a = none := viewD_inj h2 (fun z => by rw [atKey_find, hf]; rfl)
    rw [h5]
    exact h1 z
  | some p =>
    have e6 : ∀ z, (DataW.map es).atKey kl z = p.2 := fun z => by rw [atKey_find, hf]; rfl
    cases hg : g a with
    | none =>
      have h6 := h2 .nil
      have h7 := h2 (.agg [])
      rw [hg, e6] at h6 h7
      simp only at h6 h7
      rw [h6] at h7
      cases h7
    | some u =>
      have h6 := h2 .nil
      rw [hg, e6] at h6
      exact h6
theorem size_le {D : DataW Value} (h : w.ownsMap P k RV b n D) (K : Keyed P k) : Maps.size D ≤ n := by
  obtain ⟨es, clock, hb, F, hs, rfl⟩ := h
  show ((es.toList.map _).foldr DataW.insert []).length ≤ n
  rw [length_sorted]; simpa using hs
end
/-- A look-up by what it is known to yield, at the operation. -/
theorem wpList_run {P : Program} {w w1 : World} {ops : Array Oper} {rest : List Oper} {o : Oper} {a : Act} {Q : Exit → Act → World → Prop} {v : Value} (hg : o.guard = none) (m x : Operand) (t : TypeId) (c : Bool) (hop : o.op = Op.lookup t m x c)
    {mv xv : Value} (hm : a.eval m = mv) (hx : a.eval x = xv) (hr : (Instr.lookup t mv xv c).run P w = .ok v w1) (hK : wpList P ops Q rest (a.put o.dst v) w1) : wpList P ops Q (o :: rest) a w := by
  refine wpList_plain hg fun K' hK' => ?_
  unfold Oper.wp
  simp [execOp, hop, hm, hx, hr, Result.andThen]
  exact hK' _ _ hK
theorem wpList_upd {P : Program} {w w1 : World} {ops : Array Oper} {rest : List Oper} {o : Oper} {a : Act} {Q : Exit → Act → World → Prop} (hg : o.guard = none) (m x v : Operand) (t : TypeId) (hop : o.op = Op.mapUpdate t m x v)
    {mv xv vv : Value} (hm : a.eval m = mv) (hx : a.eval x = xv) (hv : a.eval v = vv) (hr : (Instr.mapUpdate t mv xv vv).run P w = .ok () w1) (hK : wpList P ops Q rest (a.put o.dst undef) w1) : wpList P ops Q (o :: rest) a w := by
  refine wpList_plain hg fun K' hK' => ?_
  unfold Oper.wp
  simp [execOp, hop, hm, hx, hv, hr, Result.andThen]
  exact hK' _ _ hK
end Go.Proofs.YtkgpnikmdmpfaaaGreatDoor

/-
  The rules by which the walk loads, stores and makes whole structs. Written by mkrules.py.
-/

set_option linter.unusedVariables false
namespace Go.Proofs.YtkgpnikmdmpfaaaGreatDoor
open Go.RowKit

@[go_sem high] theorem load_saga (b off : Nat) : Instr.loadAt 89 (.pointer (some ⟨b, off, none⟩)) = rawLoad 89 b off := rfl
@[go_sem high] theorem store_saga (b off : Nat) (vs : Array Value) : Instr.storeAt 89 (.pointer (some ⟨b, off, none⟩)) (.agg vs) = rawStore 89 b off vs := rfl
@[go_sem] theorem rload_saga (w : World) (b off : Nat) : (rawLoad 89 b off).run Tryz.prog w = rowLoad Tryz.prog 89 12 w b off (w.row? b) := run_loadAt_row _ _ (by kernel_rfl) w b off
@[go_sem] theorem rstore_saga (w : World) (b off : Nat) (vs : Array Value) : (rawStore 89 b off vs).run Tryz.prog w = rowStore Tryz.prog 89 12 w b off vs (w.row? b) := run_storeAt_row _ _ (by kernel_rfl) w b off vs
def zeroOf_saga : Sem Value := zeroValue 89
@[go_sem high] theorem zero_saga : zeroValue 89 = zeroOf_saga := rfl
@[go_sem] theorem rzero_saga (w : World) : (zeroOf_saga).run Tryz.prog w = .ok (.agg #[.int .i64 0, .string (str []), .string (str []), .int .i64 0, .int .i64 0, .int .i64 0, .int .i64 0, .int .i64 0, .int .i64 0, .int .i64 0, .int .i64 0, .bool false]) w := by kernel_rfl
def sizeOf_saga : Sem Nat := sizeOf 89
@[go_sem high] theorem size_saga : sizeOf 89 = sizeOf_saga := rfl
@[go_sem] theorem rsize_saga (w : World) : (sizeOf_saga).run Tryz.prog w = .ok 12 w := by kernel_rfl
@[go_sem high] theorem load_order (b off : Nat) : Instr.loadAt 32 (.pointer (some ⟨b, off, none⟩)) = rawLoad 32 b off := rfl
@[go_sem high] theorem store_order (b off : Nat) (vs : Array Value) : Instr.storeAt 32 (.pointer (some ⟨b, off, none⟩)) (.agg vs) = rawStore 32 b off vs := rfl
@[go_sem] theorem rload_order (w : World) (b off : Nat) : (rawLoad 32 b off).run Tryz.prog w = rowLoad Tryz.prog 32 5 w b off (w.row? b) := run_loadAt_row _ _ (by kernel_rfl) w b off
@[go_sem] theorem rstore_order (w : World) (b off : Nat) (vs : Array Value) : (rawStore 32 b off vs).run Tryz.prog w = rowStore Tryz.prog 32 5 w b off vs (w.row? b) := run_storeAt_row _ _ (by kernel_rfl) w b off vs
def zeroOf_order : Sem Value := zeroValue 32
@[go_sem high] theorem zero_order : zeroValue 32 = zeroOf_order := rfl
@[go_sem] theorem rzero_order (w : World) : (zeroOf_order).run Tryz.prog w = .ok (.agg #[.int .i64 0, .string (str []), .string (str []), .int .i64 0, .int .i64 0]) w := by kernel_rfl
def sizeOf_order : Sem Nat := sizeOf 32
@[go_sem high] theorem size_order : sizeOf 32 = sizeOf_order := rfl
@[go_sem] theorem rsize_order (w : World) : (sizeOf_order).run Tryz.prog w = .ok 5 w := by kernel_rfl
@[go_sem high] theorem load_stmt (b off : Nat) : Instr.loadAt 37 (.pointer (some ⟨b, off, none⟩)) = rawLoad 37 b off := rfl
@[go_sem high] theorem store_stmt (b off : Nat) (vs : Array Value) : Instr.storeAt 37 (.pointer (some ⟨b, off, none⟩)) (.agg vs) = rawStore 37 b off vs := rfl
@[go_sem] theorem rload_stmt (w : World) (b off : Nat) : (rawLoad 37 b off).run Tryz.prog w = rowLoad Tryz.prog 37 3 w b off (w.row? b) := run_loadAt_row _ _ (by kernel_rfl) w b off
@[go_sem] theorem rstore_stmt (w : World) (b off : Nat) (vs : Array Value) : (rawStore 37 b off vs).run Tryz.prog w = rowStore Tryz.prog 37 3 w b off vs (w.row? b) := run_storeAt_row _ _ (by kernel_rfl) w b off vs
def zeroOf_stmt : Sem Value := zeroValue 37
@[go_sem high] theorem zero_stmt : zeroValue 37 = zeroOf_stmt := rfl
@[go_sem] theorem rzero_stmt (w : World) : (zeroOf_stmt).run Tryz.prog w = .ok (.agg #[.int .i64 0, .int .i64 0, .slice none 0 0]) w := by kernel_rfl
def sizeOf_stmt : Sem Nat := sizeOf 37
@[go_sem high] theorem size_stmt : sizeOf 37 = sizeOf_stmt := rfl
@[go_sem] theorem rsize_stmt (w : World) : (sizeOf_stmt).run Tryz.prog w = .ok 3 w := by kernel_rfl
@[go_sem high] theorem load_stmts (b off : Nat) : Instr.loadAt 57 (.pointer (some ⟨b, off, none⟩)) = rawLoad 57 b off := rfl
@[go_sem high] theorem store_stmts (b off : Nat) (vs : Array Value) : Instr.storeAt 57 (.pointer (some ⟨b, off, none⟩)) (.agg vs) = rawStore 57 b off vs := rfl
@[go_sem] theorem rload_stmts (w : World) (b off : Nat) : (rawLoad 57 b off).run Tryz.prog w = rowLoad Tryz.prog 57 9 w b off (w.row? b) := run_loadAt_row _ _ (by kernel_rfl) w b off
@[go_sem] theorem rstore_stmts (w : World) (b off : Nat) (vs : Array Value) : (rawStore 57 b off vs).run Tryz.prog w = rowStore Tryz.prog 57 9 w b off vs (w.row? b) := run_storeAt_row _ _ (by kernel_rfl) w b off vs
def zeroOf_stmts : Sem Value := zeroValue 57
@[go_sem high] theorem zero_stmts : zeroValue 57 = zeroOf_stmts := rfl
@[go_sem] theorem rzero_stmts (w : World) : (zeroOf_stmts).run Tryz.prog w = .ok (.agg #[.int .i64 0, .int .i64 0, .slice none 0 0, .int .i64 0, .int .i64 0, .slice none 0 0, .int .i64 0, .int .i64 0, .slice none 0 0]) w := by kernel_rfl
def sizeOf_stmts : Sem Nat := sizeOf 57
@[go_sem high] theorem size_stmts : sizeOf 57 = sizeOf_stmts := rfl
@[go_sem] theorem rsize_stmts (w : World) : (sizeOf_stmts).run Tryz.prog w = .ok 9 w := by kernel_rfl
@[go_sem high] theorem load_parts (b off : Nat) : Instr.loadAt 87 (.pointer (some ⟨b, off, none⟩)) = rawLoad 87 b off := rfl
@[go_sem high] theorem store_parts (b off : Nat) (vs : Array Value) : Instr.storeAt 87 (.pointer (some ⟨b, off, none⟩)) (.agg vs) = rawStore 87 b off vs := rfl
@[go_sem] theorem rload_parts (w : World) (b off : Nat) : (rawLoad 87 b off).run Tryz.prog w = rowLoad Tryz.prog 87 11 w b off (w.row? b) := run_loadAt_row _ _ (by kernel_rfl) w b off
@[go_sem] theorem rstore_parts (w : World) (b off : Nat) (vs : Array Value) : (rawStore 87 b off vs).run Tryz.prog w = rowStore Tryz.prog 87 11 w b off vs (w.row? b) := run_storeAt_row _ _ (by kernel_rfl) w b off vs
def zeroOf_parts : Sem Value := zeroValue 87
@[go_sem high] theorem zero_parts : zeroValue 87 = zeroOf_parts := rfl
@[go_sem] theorem rzero_parts (w : World) : (zeroOf_parts).run Tryz.prog w = .ok (.agg #[.slice none 0 0, .slice none 0 0, .int .i64 0, .int .i64 0, .slice none 0 0, .int .i64 0, .int .i64 0, .slice none 0 0, .int .i64 0, .int .i64 0, .slice none 0 0]) w := by kernel_rfl
def sizeOf_parts : Sem Nat := sizeOf 87
@[go_sem high] theorem size_parts : sizeOf 87 = sizeOf_parts := rfl
@[go_sem] theorem rsize_parts (w : World) : (sizeOf_parts).run Tryz.prog w = .ok 11 w := by kernel_rfl
@[go_sem high] theorem load_deeds (b off : Nat) : Instr.loadAt 74 (.pointer (some ⟨b, off, none⟩)) = rawLoad 74 b off := rfl
@[go_sem high] theorem store_deeds (b off : Nat) (vs : Array Value) : Instr.storeAt 74 (.pointer (some ⟨b, off, none⟩)) (.agg vs) = rawStore 74 b off vs := rfl
@[go_sem] theorem rload_deeds (w : World) (b off : Nat) : (rawLoad 74 b off).run Tryz.prog w = rowLoad Tryz.prog 74 6 w b off (w.row? b) := run_loadAt_row _ _ (by kernel_rfl) w b off
@[go_sem] theorem rstore_deeds (w : World) (b off : Nat) (vs : Array Value) : (rawStore 74 b off vs).run Tryz.prog w = rowStore Tryz.prog 74 6 w b off vs (w.row? b) := run_storeAt_row _ _ (by kernel_rfl) w b off vs
def zeroOf_deeds : Sem Value := zeroValue 74
@[go_sem high] theorem zero_deeds : zeroValue 74 = zeroOf_deeds := rfl
@[go_sem] theorem rzero_deeds (w : World) : (zeroOf_deeds).run Tryz.prog w = .ok (.agg #[.int .i64 0, .int .i64 0, .int .i64 0, .int .i64 0, .int .i64 0, .int .i64 0]) w := by kernel_rfl
def sizeOf_deeds : Sem Nat := sizeOf 74
@[go_sem high] theorem size_deeds : sizeOf 74 = sizeOf_deeds := rfl
@[go_sem] theorem rsize_deeds (w : World) : (sizeOf_deeds).run Tryz.prog w = .ok 6 w := by kernel_rfl
@[go_sem high] theorem load_posting (b off : Nat) : Instr.loadAt 92 (.pointer (some ⟨b, off, none⟩)) = rawLoad 92 b off := rfl
@[go_sem high] theorem store_posting (b off : Nat) (vs : Array Value) : Instr.storeAt 92 (.pointer (some ⟨b, off, none⟩)) (.agg vs) = rawStore 92 b off vs := rfl
@[go_sem] theorem rload_posting (w : World) (b off : Nat) : (rawLoad 92 b off).run Tryz.prog w = rowLoad Tryz.prog 92 5 w b off (w.row? b) := run_loadAt_row _ _ (by kernel_rfl) w b off
@[go_sem] theorem rstore_posting (w : World) (b off : Nat) (vs : Array Value) : (rawStore 92 b off vs).run Tryz.prog w = rowStore Tryz.prog 92 5 w b off vs (w.row? b) := run_storeAt_row _ _ (by kernel_rfl) w b off vs
def zeroOf_posting : Sem Value := zeroValue 92
@[go_sem high] theorem zero_posting : zeroValue 92 = zeroOf_posting := rfl
@[go_sem] theorem rzero_posting (w : World) : (zeroOf_posting).run Tryz.prog w = .ok (.agg #[.string (str []), .int .i64 0, .int .i64 0, .int .i64 0, .int .i64 0]) w := by kernel_rfl
def sizeOf_posting : Sem Nat := sizeOf 92
@[go_sem high] theorem size_posting : sizeOf 92 = sizeOf_posting := rfl
@[go_sem] theorem rsize_posting (w : World) : (sizeOf_posting).run Tryz.prog w = .ok 5 w := by kernel_rfl
@[go_sem high] theorem load_intake (b off : Nat) : Instr.loadAt 60 (.pointer (some ⟨b, off, none⟩)) = rawLoad 60 b off := rfl
@[go_sem high] theorem store_intake (b off : Nat) (vs : Array Value) : Instr.storeAt 60 (.pointer (some ⟨b, off, none⟩)) (.agg vs) = rawStore 60 b off vs := rfl
@[go_sem] theorem rload_intake (w : World) (b off : Nat) : (rawLoad 60 b off).run Tryz.prog w = rowLoad Tryz.prog 60 10 w b off (w.row? b) := run_loadAt_row _ _ (by kernel_rfl) w b off
@[go_sem] theorem rstore_intake (w : World) (b off : Nat) (vs : Array Value) : (rawStore 60 b off vs).run Tryz.prog w = rowStore Tryz.prog 60 10 w b off vs (w.row? b) := run_storeAt_row _ _ (by kernel_rfl) w b off vs
def zeroOf_intake : Sem Value := zeroValue 60
@[go_sem high] theorem zero_intake : zeroValue 60 = zeroOf_intake := rfl
@[go_sem] theorem rzero_intake (w : World) : (zeroOf_intake).run Tryz.prog w = .ok (.agg #[.int .i64 0, .int .i64 0, .slice none 0 0, .int .i64 0, .int .i64 0, .slice none 0 0, .int .i64 0, .int .i64 0, .slice none 0 0, .map none]) w := by kernel_rfl
def sizeOf_intake : Sem Nat := sizeOf 60
@[go_sem high] theorem size_intake : sizeOf 60 = sizeOf_intake := rfl
@[go_sem] theorem rsize_intake (w : World) : (sizeOf_intake).run Tryz.prog w = .ok 10 w := by kernel_rfl
@[go_sem high] theorem load_core (b off : Nat) : Instr.loadAt 62 (.pointer (some ⟨b, off, none⟩)) = rawLoad 62 b off := rfl
@[go_sem high] theorem store_core (b off : Nat) (vs : Array Value) : Instr.storeAt 62 (.pointer (some ⟨b, off, none⟩)) (.agg vs) = rawStore 62 b off vs := rfl
@[go_sem] theorem rload_core (w : World) (b off : Nat) : (rawLoad 62 b off).run Tryz.prog w = rowLoad Tryz.prog 62 12 w b off (w.row? b) := run_loadAt_row _ _ (by kernel_rfl) w b off
@[go_sem] theorem rstore_core (w : World) (b off : Nat) (vs : Array Value) : (rawStore 62 b off vs).run Tryz.prog w = rowStore Tryz.prog 62 12 w b off vs (w.row? b) := run_storeAt_row _ _ (by kernel_rfl) w b off vs
def zeroOf_core : Sem Value := zeroValue 62
@[go_sem high] theorem zero_core : zeroValue 62 = zeroOf_core := rfl
@[go_sem] theorem rzero_core (w : World) : (zeroOf_core).run Tryz.prog w = .ok (.agg #[.slice none 0 0, .pointer none, .int .i64 0, .int .i64 0, .slice none 0 0, .int .i64 0, .int .i64 0, .slice none 0 0, .int .i64 0, .int .i64 0, .slice none 0 0, .map none]) w := by kernel_rfl
def sizeOf_core : Sem Nat := sizeOf 62
@[go_sem high] theorem size_core : sizeOf 62 = sizeOf_core := rfl
@[go_sem] theorem rsize_core (w : World) : (sizeOf_core).run Tryz.prog w = .ok 12 w := by kernel_rfl
@[go_sem high] theorem load_key (b off : Nat) : Instr.loadAt 34 (.pointer (some ⟨b, off, none⟩)) = rawLoad 34 b off := rfl
@[go_sem high] theorem store_key (b off : Nat) (vs : Array Value) : Instr.storeAt 34 (.pointer (some ⟨b, off, none⟩)) (.agg vs) = rawStore 34 b off vs := rfl
@[go_sem] theorem rload_key (w : World) (b off : Nat) : (rawLoad 34 b off).run Tryz.prog w = rowLoad Tryz.prog 34 2 w b off (w.row? b) := run_loadAt_row _ _ (by kernel_rfl) w b off
@[go_sem] theorem rstore_key (w : World) (b off : Nat) (vs : Array Value) : (rawStore 34 b off vs).run Tryz.prog w = rowStore Tryz.prog 34 2 w b off vs (w.row? b) := run_storeAt_row _ _ (by kernel_rfl) w b off vs
def zeroOf_key : Sem Value := zeroValue 34
@[go_sem high] theorem zero_key : zeroValue 34 = zeroOf_key := rfl
@[go_sem] theorem rzero_key (w : World) : (zeroOf_key).run Tryz.prog w = .ok (.agg #[.int .i64 0, .int .i64 0]) w := by kernel_rfl
def sizeOf_key : Sem Nat := sizeOf 34
@[go_sem high] theorem size_key : sizeOf 34 = sizeOf_key := rfl
@[go_sem] theorem rsize_key (w : World) : (sizeOf_key).run Tryz.prog w = .ok 2 w := by kernel_rfl
@[go_sem high] theorem load_row (b off : Nat) : Instr.loadAt 127 (.pointer (some ⟨b, off, none⟩)) = rawLoad 127 b off := rfl
@[go_sem high] theorem store_row (b off : Nat) (vs : Array Value) : Instr.storeAt 127 (.pointer (some ⟨b, off, none⟩)) (.agg vs) = rawStore 127 b off vs := rfl
@[go_sem] theorem rload_row (w : World) (b off : Nat) : (rawLoad 127 b off).run Tryz.prog w = rowLoad Tryz.prog 127 5 w b off (w.row? b) := run_loadAt_row _ _ (by kernel_rfl) w b off
@[go_sem] theorem rstore_row (w : World) (b off : Nat) (vs : Array Value) : (rawStore 127 b off vs).run Tryz.prog w = rowStore Tryz.prog 127 5 w b off vs (w.row? b) := run_storeAt_row _ _ (by kernel_rfl) w b off vs
def zeroOf_row : Sem Value := zeroValue 127
@[go_sem high] theorem zero_row : zeroValue 127 = zeroOf_row := rfl
@[go_sem] theorem rzero_row (w : World) : (zeroOf_row).run Tryz.prog w = .ok (.agg #[.int .i64 0, .int .i64 0, .int .i64 0, .int .i64 0, .int .i64 0]) w := by kernel_rfl
def sizeOf_row : Sem Nat := sizeOf 127
@[go_sem high] theorem size_row : sizeOf 127 = sizeOf_row := rfl
@[go_sem] theorem rsize_row (w : World) : (sizeOf_row).run Tryz.prog w = .ok 5 w := by kernel_rfl
@[go_sem high] theorem load_books (b off : Nat) : Instr.loadAt 106 (.pointer (some ⟨b, off, none⟩)) = rawLoad 106 b off := rfl
@[go_sem high] theorem store_books (b off : Nat) (vs : Array Value) : Instr.storeAt 106 (.pointer (some ⟨b, off, none⟩)) (.agg vs) = rawStore 106 b off vs := rfl
@[go_sem] theorem rload_books (w : World) (b off : Nat) : (rawLoad 106 b off).run Tryz.prog w = rowLoad Tryz.prog 106 3 w b off (w.row? b) := run_loadAt_row _ _ (by kernel_rfl) w b off
@[go_sem] theorem rstore_books (w : World) (b off : Nat) (vs : Array Value) : (rawStore 106 b off vs).run Tryz.prog w = rowStore Tryz.prog 106 3 w b off vs (w.row? b) := run_storeAt_row _ _ (by kernel_rfl) w b off vs
def zeroOf_books : Sem Value := zeroValue 106
@[go_sem high] theorem zero_books : zeroValue 106 = zeroOf_books := rfl
@[go_sem] theorem rzero_books (w : World) : (zeroOf_books).run Tryz.prog w = .ok (.agg #[.slice none 0 0, .map none, .map none]) w := by kernel_rfl
def sizeOf_books : Sem Nat := sizeOf 106
@[go_sem high] theorem size_books : sizeOf 106 = sizeOf_books := rfl
@[go_sem] theorem rsize_books (w : World) : (sizeOf_books).run Tryz.prog w = .ok 3 w := by kernel_rfl
@[go_sem high] theorem load_sreader (b off : Nat) : Instr.loadAt 98 (.pointer (some ⟨b, off, none⟩)) = rawLoad 98 b off := rfl
@[go_sem high] theorem store_sreader (b off : Nat) (vs : Array Value) : Instr.storeAt 98 (.pointer (some ⟨b, off, none⟩)) (.agg vs) = rawStore 98 b off vs := rfl
@[go_sem] theorem rload_sreader (w : World) (b off : Nat) : (rawLoad 98 b off).run Tryz.prog w = rowLoad Tryz.prog 98 2 w b off (w.row? b) := run_loadAt_row _ _ (by kernel_rfl) w b off
@[go_sem] theorem rstore_sreader (w : World) (b off : Nat) (vs : Array Value) : (rawStore 98 b off vs).run Tryz.prog w = rowStore Tryz.prog 98 2 w b off vs (w.row? b) := run_storeAt_row _ _ (by kernel_rfl) w b off vs
def zeroOf_sreader : Sem Value := zeroValue 98
@[go_sem high] theorem zero_sreader : zeroValue 98 = zeroOf_sreader := rfl
@[go_sem] theorem rzero_sreader (w : World) : (zeroOf_sreader).run Tryz.prog w = .ok (.agg #[.string (str []), .bool false]) w := by kernel_rfl
def sizeOf_sreader : Sem Nat := sizeOf 98
@[go_sem high] theorem size_sreader : sizeOf 98 = sizeOf_sreader := rfl
@[go_sem] theorem rsize_sreader (w : World) : (sizeOf_sreader).run Tryz.prog w = .ok 2 w := by kernel_rfl
@[go_sem high] theorem load_oreader (b off : Nat) : Instr.loadAt 168 (.pointer (some ⟨b, off, none⟩)) = rawLoad 168 b off := rfl
@[go_sem high] theorem store_oreader (b off : Nat) (vs : Array Value) : Instr.storeAt 168 (.pointer (some ⟨b, off, none⟩)) (.agg vs) = rawStore 168 b off vs := rfl
@[go_sem] theorem rload_oreader (w : World) (b off : Nat) : (rawLoad 168 b off).run Tryz.prog w = rowLoad Tryz.prog 168 2 w b off (w.row? b) := run_loadAt_row _ _ (by kernel_rfl) w b off
@[go_sem] theorem rstore_oreader (w : World) (b off : Nat) (vs : Array Value) : (rawStore 168 b off vs).run Tryz.prog w = rowStore Tryz.prog 168 2 w b off vs (w.row? b) := run_storeAt_row _ _ (by kernel_rfl) w b off vs
def zeroOf_oreader : Sem Value := zeroValue 168
@[go_sem high] theorem zero_oreader : zeroValue 168 = zeroOf_oreader := rfl
@[go_sem] theorem rzero_oreader (w : World) : (zeroOf_oreader).run Tryz.prog w = .ok (.agg #[.string (str []), .bool false]) w := by kernel_rfl
def sizeOf_oreader : Sem Nat := sizeOf 168
@[go_sem high] theorem size_oreader : sizeOf 168 = sizeOf_oreader := rfl
@[go_sem] theorem rsize_oreader (w : World) : (sizeOf_oreader).run Tryz.prog w = .ok 2 w := by kernel_rfl
@[go_sem high] theorem load_rreader (b off : Nat) : Instr.loadAt 175 (.pointer (some ⟨b, off, none⟩)) = rawLoad 175 b off := rfl
@[go_sem high] theorem store_rreader (b off : Nat) (vs : Array Value) : Instr.storeAt 175 (.pointer (some ⟨b, off, none⟩)) (.agg vs) = rawStore 175 b off vs := rfl
@[go_sem] theorem rload_rreader (w : World) (b off : Nat) : (rawLoad 175 b off).run Tryz.prog w = rowLoad Tryz.prog 175 2 w b off (w.row? b) := run_loadAt_row _ _ (by kernel_rfl) w b off
@[go_sem] theorem rstore_rreader (w : World) (b off : Nat) (vs : Array Value) : (rawStore 175 b off vs).run Tryz.prog w = rowStore Tryz.prog 175 2 w b off vs (w.row? b) := run_storeAt_row _ _ (by kernel_rfl) w b off vs
def zeroOf_rreader : Sem Value := zeroValue 175
@[go_sem high] theorem zero_rreader : zeroValue 175 = zeroOf_rreader := rfl
@[go_sem] theorem rzero_rreader (w : World) : (zeroOf_rreader).run Tryz.prog w = .ok (.agg #[.string (str []), .bool false]) w := by kernel_rfl
def sizeOf_rreader : Sem Nat := sizeOf 175
@[go_sem high] theorem size_rreader : sizeOf 175 = sizeOf_rreader := rfl
@[go_sem] theorem rsize_rreader (w : World) : (sizeOf_rreader).run Tryz.prog w = .ok 2 w := by kernel_rfl
@[go_sem high] theorem load_slot (b off : Nat) : Instr.loadAt 156 (.pointer (some ⟨b, off, none⟩)) = rawLoad 156 b off := rfl
@[go_sem high] theorem store_slot (b off : Nat) (vs : Array Value) : Instr.storeAt 156 (.pointer (some ⟨b, off, none⟩)) (.agg vs) = rawStore 156 b off vs := rfl
@[go_sem] theorem rload_slot (w : World) (b off : Nat) : (rawLoad 156 b off).run Tryz.prog w = rowLoad Tryz.prog 156 2 w b off (w.row? b) := run_loadAt_row _ _ (by kernel_rfl) w b off
@[go_sem] theorem rstore_slot (w : World) (b off : Nat) (vs : Array Value) : (rawStore 156 b off vs).run Tryz.prog w = rowStore Tryz.prog 156 2 w b off vs (w.row? b) := run_storeAt_row _ _ (by kernel_rfl) w b off vs
def zeroOf_slot : Sem Value := zeroValue 156
@[go_sem high] theorem zero_slot : zeroValue 156 = zeroOf_slot := rfl
@[go_sem] theorem rzero_slot (w : World) : (zeroOf_slot).run Tryz.prog w = .ok (.agg #[.int .i64 0, .int .i64 0]) w := by kernel_rfl
def sizeOf_slot : Sem Nat := sizeOf 156
@[go_sem high] theorem size_slot : sizeOf 156 = sizeOf_slot := rfl
@[go_sem] theorem rsize_slot (w : World) : (sizeOf_slot).run Tryz.prog w = .ok 2 w := by kernel_rfl
@[go_sem high] theorem load_two (b off : Nat) : Instr.loadAt 178 (.pointer (some ⟨b, off, none⟩)) = rawLoad 178 b off := rfl
@[go_sem high] theorem store_two (b off : Nat) (vs : Array Value) : Instr.storeAt 178 (.pointer (some ⟨b, off, none⟩)) (.agg vs) = rawStore 178 b off vs := rfl
@[go_sem] theorem rload_two (w : World) (b off : Nat) : (rawLoad 178 b off).run Tryz.prog w = rowLoad Tryz.prog 178 2 w b off (w.row? b) := run_loadAt_row _ _ (by kernel_rfl) w b off
@[go_sem] theorem rstore_two (w : World) (b off : Nat) (vs : Array Value) : (rawStore 178 b off vs).run Tryz.prog w = rowStore Tryz.prog 178 2 w b off vs (w.row? b) := run_storeAt_row _ _ (by kernel_rfl) w b off vs
def zeroOf_two : Sem Value := zeroValue 178
@[go_sem high] theorem zero_two : zeroValue 178 = zeroOf_two := rfl
@[go_sem] theorem rzero_two (w : World) : (zeroOf_two).run Tryz.prog w = .ok (.agg #[.int .i64 0, .int .i64 0]) w := by kernel_rfl
def sizeOf_two : Sem Nat := sizeOf 178
@[go_sem high] theorem size_two : sizeOf 178 = sizeOf_two := rfl
@[go_sem] theorem rsize_two (w : World) : (sizeOf_two).run Tryz.prog w = .ok 2 w := by kernel_rfl

end Go.Proofs.YtkgpnikmdmpfaaaGreatDoor

/-
  What books, intake and core come to, as plain functions.
-/

set_option linter.unusedVariables false
namespace Go.Proofs.YtkgpnikmdmpfaaaGreatDoor
namespace Sp

/-! books -/
abbrev Bal := Int → Int → Int
def balSet (b : Bal) (a o v : Int) : Bal := fun x y => if x = a ∧ y = o then v else b x y
structure Books where
  l : List Posting
  bal : Bal
def noBooks : Books := ⟨[], fun _ _ => 0⟩
def findPost (l : List Posting) (id : List UInt8) : Option Posting := l.find? (fun p => p.id == id)
/-- One order's two balances, laid into a map. -/
def stepOk (b : Bal) (p : Posting) (o : Int) : Bool := in64 (b p.debit o + p.amount) && in64 (b p.credit o - p.amount)
def stepMap (b : Bal) (p : Posting) (o : Int) (f : Int × Int → Option Int) : Int × Int → Option Int := fun a =>
  if a = (p.credit, o) then some (b p.credit o - p.amount) else if a = (p.debit, o) then some (b p.debit o + p.amount) else f a
def ordAt (p : Posting) (k : Nat) : Int := if k = 0 then 0 else p.order
def mapAt (b : Bal) (p : Posting) (k : Nat) : Int × Int → Option Int :=
  if k = 0 then fun _ => none else if k = 1 then stepMap b p 0 (fun _ => none) else stepMap b p p.order (stepMap b p 0 (fun _ => none))
def movesOk (b : Bal) (p : Posting) : Bool := stepOk b p 0 && stepOk b p p.order
/-- The balances behind a posting. -/
def moved (b : Bal) (p : Posting) : Bal := fun x y => (mapAt b p 2 (x, y)).getD (b x y)
def post (b : Books) (p : Posting) : Books × Int :=
  if postOk p = false then (b, 2)
  else match findPost b.l p.id with
    | some q => (b, if q = p then 0 else 91)
    | none => if movesOk b.bal p = false then (b, 90) else (⟨b.l ++ [p], moved b.bal p⟩, 0)

/-! intake -/
abbrev RowMap := Int → Int → Option Row
def rowSet (f : RowMap) (r : Row) : RowMap := fun o d => if o = r.order ∧ d = r.deed then some r else f o d
def rowsIn (f : RowMap) (l : List Row) : RowMap := l.foldl rowSet f
structure Intake where
  s0 : Stmt
  s1 : Stmt
  s2 : Stmt
  row : RowMap
def noStmt : Stmt := ⟨0, 0, []⟩
def noIntake : Intake := ⟨noStmt, noStmt, noStmt, fun _ _ => none⟩
def newest (i : Intake) (p : Int) : Stmt := if p = 0 then i.s0 else if p = 1 then i.s1 else if p = 2 then i.s2 else noStmt
def setStmt (i : Intake) (s : Stmt) : Intake :=
  let a := if s.party = 0 then s else i.s0
  let b := if s.party = 1 then s else i.s1
  let c := if s.party = 2 then s else i.s2
  ⟨a, b, c, rowsIn (rowsIn (rowsIn (fun _ _ => none) a.rows) b.rows) c.rows⟩
def amountOf (i : Intake) (o d : Int) : Int := match i.row o d with | some r => if r.code = 1 then r.amount else 0 | none => 0
def inNet (i : Intake) (o : Int) : Int := amountOf i o 1 - amountOf i o 4

/-! core -/
structure Core where
  l : List Saga
  b : Books
  i : Intake
def noCore : Core := ⟨[], noBooks, noIntake⟩
def hasRef (l : List Saga) (ref : List UInt8) : Bool := l.any (fun s => s.o.ref == ref)
end Sp
end Go.Proofs.YtkgpnikmdmpfaaaGreatDoor

/-
  Keys of this program's maps; equality of its structs; blocks that are kept.
-/

set_option linter.unusedVariables false
set_option linter.unusedSimpArgs false
namespace Go.Proofs.YtkgpnikmdmpfaaaGreatDoor
open Go.RowKit Go.Maps

/-! ### keys -/
theorem laidOut : laidOutB Tryz.prog = true := by kernel_rfl
def pairEnc (a : Int × Int) : Value := .agg #[.int .i64 a.1, .int .i64 a.2]
def idEnc (s : Bytes) : Value := .string (str s)
theorem pairEnc_inj (x y : Int × Int) (h : pairEnc x = pairEnc y) : x = y := by
  simp [pairEnc] at h; exact Prod.ext h.1 h.2
theorem idEnc_inj (x y : Bytes) (h : idEnc x = idEnc y) : x = y := by simp only [idEnc, Value.string.injEq] at h; exact str_inj h
theorem string_law : Keyed Tryz.prog 9 := string_keyed Tryz.underlying9
theorem row_slot : decide (156 < Tryz.prog.types.size) = true := by kernel_rfl
theorem row_key : decide (34 < Tryz.prog.types.size) = true := by kernel_rfl
theorem slot_law : Keyed Tryz.prog 156 := Keyed.of_law (deep_law_laid laidOut (m := 2) (by omega) (of_decide_eq_true row_slot) (by kernel_rfl) (by kernel_rfl))
theorem key_law : Keyed Tryz.prog 34 := Keyed.of_law (deep_law_laid laidOut (m := 2) (by omega) (of_decide_eq_true row_key) (by kernel_rfl) (by kernel_rfl))
theorem wf64 {n : Int} (h : Sp.in64 n = true) : (Lit.int .i64 n).wf = true := by
  simp only [Sp.in64, Bool.and_eq_true, decide_eq_true_eq] at h
  exact WalkArith.wf_i64 (by omega)
theorem id_key {s : Bytes} (h : s.length ≤ maxLen) : (keyOf Tryz.prog 9 (idEnc s)).isSome = true := by
  unfold idEnc; rw [WideMaps.keyOf_string_mk Tryz.underlying9 (by simpa using h)]; rfl
theorem types_two : ∃ n, Tryz.prog.types.size + 1 = n + 4 := by
  have h : decide (4 ≤ Tryz.prog.types.size) = true := by kernel_rfl
  have := of_decide_eq_true h
  exact ⟨Tryz.prog.types.size - 3, by omega⟩
theorem c_int : Tryz.prog.cellsOf 3 = 1 := by kernel_rfl
theorem c_i64 : Tryz.prog.cellsOf 2 = 1 := by kernel_rfl
theorem c_bool : Tryz.prog.cellsOf 4 = 1 := by kernel_rfl
theorem c_str : Tryz.prog.cellsOf 9 = 1 := by kernel_rfl
theorem c_slot : Tryz.prog.cellsOf 156 = 2 := by kernel_rfl
theorem c_key : Tryz.prog.cellsOf 34 = 2 := by kernel_rfl
theorem c_post : Tryz.prog.cellsOf 92 = 5 := by kernel_rfl
theorem c_row : Tryz.prog.cellsOf 127 = 5 := by kernel_rfl
theorem c_order : Tryz.prog.cellsOf 32 = 5 := by kernel_rfl
theorem c_saga : Tryz.prog.cellsOf 89 = 12 := by kernel_rfl
theorem c_deeds : Tryz.prog.cellsOf 74 = 6 := by kernel_rfl
theorem slot_formed (a o : Int) : (Tryz.prog.keyType 156 && (pairEnc (a, o)).formed Tryz.prog 156) = true := by kernel_rfl
theorem key_formed (a o : Int) : (Tryz.prog.keyType 34 && (pairEnc (a, o)).formed Tryz.prog 34) = true := by kernel_rfl
theorem slot_key {a : Int × Int} (h1 : Sp.in64 a.1 = true) (h2 : Sp.in64 a.2 = true) : (keyOf Tryz.prog 156 (pairEnc a)).isSome = true := by
  obtain ⟨a, o⟩ := a
  obtain ⟨n, hn⟩ := types_two
  have h0 := slot_formed a o
  have w1 := wf64 h1
  have w2 := wf64 h2
  unfold keyOf
  rw [Tryz.underlying156]
  simp only [h0, if_true, hn]
  simp [Program.keyLits, Tryz.underlying156, Tryz.underlying3, c_int, c_slot, pairEnc, Value.cells, w1, w2]
theorem key_key {a : Int × Int} (h1 : Sp.in64 a.1 = true) (h2 : Sp.in64 a.2 = true) : (keyOf Tryz.prog 34 (pairEnc a)).isSome = true := by
  obtain ⟨a, o⟩ := a
  obtain ⟨n, hn⟩ := types_two
  have h0 := key_formed a o
  have w1 := wf64 h1
  have w2 := wf64 h2
  unfold keyOf
  rw [Tryz.underlying34]
  simp only [h0, if_true, hn]
  simp [Program.keyLits, Tryz.underlying34, Tryz.underlying3, c_int, c_key, pairEnc, Value.cells, w1, w2]

/-! equality of structs -/
set_option maxRecDepth 100000 in
theorem eq_of_keys {t : TypeId} (hk : Tryz.prog.keyTypeAt 3 t = true) (ht : Tryz.prog.tiled 3 t = true)
    (hwide : (match Tryz.prog.underlying t with | some (.array _ _) | some (.struct _) => true | _ => false) = true) {x y : Value} (hx : (keyOf Tryz.prog t x).isSome = true) (hy : (keyOf Tryz.prog t y).isSome = true) (w : World) :
    ∃ r, (Op.equalIn 10000 t x y).run Tryz.prog w = .ok r w ∧ (r = true ↔ x = y) := by
  obtain ⟨lx, hlx⟩ := Option.isSome_iff_exists.1 hx
  obtain ⟨ly, hly⟩ := Option.isSome_iff_exists.1 hy
  obtain ⟨r, h1, h2⟩ := run_equal_deep (P := Tryz.prog) w (m := 3) (by omega) hk hwide hlx hly
  refine ⟨r, h1, h2.trans ⟨fun e => ?_, fun e => ?_⟩⟩
  · subst e; exact keyOf_inj_deep ht hwide hlx hly
  · subst e; rw [hlx] at hly; exact Option.some.inj hly
theorem post_formed (id : ByteArray) (o d c a : Int) : (Tryz.prog.keyType 92 && (Value.agg #[.string id, .int .i64 o, .int .i64 d, .int .i64 c, .int .i64 a]).formed Tryz.prog 92) = true := by kernel_rfl
def postVal' (p : Sp.Posting) : Value := .agg #[.string (str p.id), .int .i64 p.order, .int .i64 p.debit, .int .i64 p.credit, .int .i64 p.amount]
/-- What a posting in memory is like. -/
structure PostIn (p : Sp.Posting) : Prop where
  id : p.id.length ≤ 1000000
  order : Sp.in64 p.order = true
  debit : Sp.in64 p.debit = true
  credit : Sp.in64 p.credit = true
  amount : Sp.in64 p.amount = true
set_option maxRecDepth 100000 in
theorem post_key {p : Sp.Posting} (h : PostIn p) : (keyOf Tryz.prog 92 (postVal' p)).isSome = true := by
  obtain ⟨id, o, d, c, a⟩ := p
  obtain ⟨n, hn⟩ := types_two
  have h0 := post_formed (str id) o d c a
  have w1 := wf64 h.order
  have w2 := wf64 h.debit
  have w3 := wf64 h.credit
  have w4 := wf64 h.amount
  have w5 : id.length ≤ maxLen := by have := h.id; unfold maxLen; simp only at this; omega
  simp only at w1 w2 w3 w4
  unfold keyOf
  rw [Tryz.underlying92]
  simp only [postVal', h0, if_true, hn]
  simp [Program.keyLits, Tryz.underlying92, Tryz.underlying3, Tryz.underlying2, Tryz.underlying9, c_int, c_i64, c_str, c_post, Value.cells, w1, w2, w3, w4, w5]
set_option maxRecDepth 100000 in
theorem eq_post (p q : Sp.Posting) (hp : PostIn p) (hq : PostIn q) (w : World) :
    (Op.equalIn 10000 92 (postVal' p) (postVal' q)).run Tryz.prog w = .ok (decide (p = q)) w := by
  obtain ⟨r, h1, h2⟩ := eq_of_keys (t := 92) (by kernel_rfl) (by kernel_rfl) (by kernel_rfl) (post_key hp) (post_key hq) w
  rw [h1]
  congr 1
  rw [Bool.eq_iff_iff, h2, decide_eq_true_eq]
  obtain ⟨id, o, d, c, a⟩ := p
  obtain ⟨id', o', d', c', a'⟩ := q
  simp only [postVal', Value.agg.injEq, Array.mk.injEq, List.cons.injEq, Value.string.injEq, Value.int.injEq, Sp.Posting.mk.injEq, true_and, and_true]
  constructor
  · rintro ⟨e1, e2⟩; exact ⟨str_inj e1, e2⟩
  · rintro ⟨rfl, e2⟩; exact ⟨rfl, e2⟩

/-! ### blocks that are kept -/
/-- w' is w but for new blocks and those blocks of w that F names. -/
structure Keeps (F : Nat → Prop) (w w' : World) : Prop where
  os : w'.os = w.os
  tape : w'.tape = w.tape
  output : w'.output = w.output
  size : w.heap.size ≤ w'.heap.size
  block : ∀ k, k < w.heap.size → ¬ F k → w'.heap[k]? = w.heap[k]?
theorem Keeps.refl (F : Nat → Prop) (w : World) : Keeps F w w := ⟨rfl, rfl, rfl, Nat.le_refl _, fun _ _ _ => rfl⟩
theorem Keeps.trans {F : Nat → Prop} {a b c : World} (h : Keeps F a b) (k : Keeps F b c) : Keeps F a c :=
  ⟨k.os.trans h.os, k.tape.trans h.tape, k.output.trans h.output, Nat.le_trans h.size k.size, fun i hi hf => (k.block i (Nat.lt_of_lt_of_le hi h.size) hf).trans (h.block i hi hf)⟩
theorem Keeps.mono {F G : Nat → Prop} {a b : World} (h : Keeps F a b) (hg : ∀ k, k < a.heap.size → F k → G k) : Keeps G a b :=
  ⟨h.os, h.tape, h.output, h.size, fun k hk hn => h.block k hk (fun hf => hn (hg k hk hf))⟩
theorem keeps_grown {w w' : World} {row : Option Nat} (h : w.grownBy w' row) : Keeps (fun k => some k = row) w w' := ⟨h.os, h.tape, h.output, h.size, h.block⟩
theorem keeps_below {w w' : World} {F : Nat → Prop} (h : Below w.heap.size w w') : Keeps F w w' := ⟨h.os, h.tape, h.output, h.size, fun k hk _ => h.block k hk⟩
theorem Keeps.below {F : Nat → Prop} {B : Nat} {a w w' : World} (h : Below B a w) (k : Keeps F w w') (hB : B ≤ w.heap.size) (hF : ∀ k, F k → B ≤ k) : Below B a w' :=
  h.trans ⟨k.os, k.tape, k.output, k.size, fun i hi => k.block i (by omega) (fun hf => by have := hF i hf; omega)⟩
theorem Keeps.alloc {F : Nat → Prop} {a w : World} (h : Keeps F a w) (o : Obj) : Keeps F a (w.alloc o) := h.trans (keeps_below (by exact (Below.refl _ _).alloc (Nat.le_refl _) o))
theorem Keeps.drew {F : Nat → Prop} {a w : World} (h : Keeps F a w) : Keeps F a w.drew := ⟨h.os, h.tape, h.output, h.size, h.block⟩
theorem Keeps.setCell {F : Nat → Prop} {a w : World} (h : Keeps F a w) {p : Addr} (hp : F p.block ∨ a.heap.size ≤ p.block) (u : Value) : Keeps F a (w.setCell p u) :=
  ⟨h.os, h.tape, h.output, by have := h.size; simpa [World.setCell] using this, fun k hk hf => (Below.heap_setCell w p u k (fun e => by subst e; rcases hp with hp | hp; exact hf hp; omega)).trans (h.block k hk hf)⟩
theorem Keeps.drewN {F : Nat → Prop} {a w : World} (h : Keeps F a w) (n : Nat) : Keeps F a (w.drewN n) := ⟨h.os, h.tape, h.output, h.size, h.block⟩
theorem Keeps.setRow {F : Nat → Prop} {a w : World} (h : Keeps F a w) {g : Nat} (hp : F g ∨ a.heap.size ≤ g) (c : Array Value) : Keeps F a (w.setRow g c) :=
  ⟨h.os, h.tape, h.output, by have := h.size; simpa [World.setRow] using this, fun k hk hf => (setRow_other w g k c (fun e => by subst e; rcases hp with hp | hp; exact hf hp; omega)).trans (h.block k hk hf)⟩
theorem Keeps.cell {F : Nat → Prop} {w w' : World} (h : Keeps F w w') {p : Addr} {v : Value} (hc : w.cell? p = some v) (hf : ¬ F p.block) : w'.cell? p = some v := by
  rw [World.cell?_of_block (h.block _ (World.block_lt_of_cell? w _ hc) hf)]; exact hc
/-- A row of cells of type t stands at block b. -/
theorem ne_of_types {w : World} {a b : Nat} {c d : Array Value} {t u : TypeId} {f g : Nat × Nat} (h1 : w.heap[a]? = some (.cells c t f)) (h2 : w.heap[b]? = some (.cells d u g)) (h : t ≠ u) : a ≠ b := by
  rintro rfl; rw [h1] at h2; cases h2; exact h rfl
theorem ne_of_map {w : World} {a b : Nat} {c : Array Value} {t : TypeId} {f : Nat × Nat} {es : Array MapEntry} {k : Nat} (h1 : w.heap[a]? = some (.cells c t f)) (h2 : w.heap[b]? = some (.map es k)) : a ≠ b := by
  rintro rfl; rw [h1] at h2; cases h2
theorem own_block {w : World} {base size n : Nat} {e : TypeId} {v : Value} {xs : List Value} (h : w.ownsRow base e size v n xs) {k : Nat} (hk : v.ownBlock = some k) : ∃ c, w.heap[k]? = some (.cells c e (0, 0)) := by
  rcases h.2 with ⟨rfl, _⟩ | ⟨g, cap, cur, rfl, _, hg, _⟩
  · simp [Value.ownBlock] at hk
  · simp [Value.ownBlock] at hk; subst hk; exact ⟨cur, hg⟩
theorem own_same {w w' : World} {base size n : Nat} {e : TypeId} {v : Value} {xs : List Value} (h : w.ownsRow base e size v n xs) (hs : ∀ k, v.ownBlock = some k → w'.heap[k]? = w.heap[k]?) : w'.ownsRow base e size v n xs := by
  refine ⟨h.1, ?_⟩
  rcases h.2 with h0 | ⟨g, cap, cur, rfl, hb, hg, h3⟩
  · exact .inl h0
  · exact .inr ⟨g, cap, cur, rfl, hb, (hs g rfl).trans hg, h3⟩
end Go.Proofs.YtkgpnikmdmpfaaaGreatDoor

/-
  The walks of package bits.
-/

set_option linter.unusedVariables false
set_option linter.unusedSimpArgs false
namespace Go.Proofs.YtkgpnikmdmpfaaaGreatDoor
open Go.RowKit

theorem info_u8 : (Tryz.prog.info? 5).map (fun i => (i.zero, i.size, i.bytes)) = some (some (.int .u8 0), 1, 1) := by kernel_rfl

theorem u8_ofNat {m : Nat} (h : m < 256) : ((UInt8.ofNat m).toNat : Int) = m := by
  rw [UInt8.toNat_ofNat']; simp; omega

theorem bv_snoc (l : Bytes) {m : Nat} (h : m < 256) : bv (l ++ [UInt8.ofNat m]) = bv l ++ [.int .u8 (m : Int)] := by
  rw [bv_append]
  have := u8_ofNat h
  simp only [bv, List.map_cons, List.map_nil, this]

theorem or_128 (m : Nat) : bits .or .u8 ((m : Int) % 256) 128 = ((m % 128 + 128 : Nat) : Int) := by
  have key : ∀ k : Fin 256, bits .or .u8 (k.val : Int) 128 = ((k.val % 128 + 128 : Nat) : Int) := by decide +kernel
  have := key ⟨m % 256, by omega⟩
  simp only at this
  rw [show ((m : Int) % 256) = ((m % 256 : Nat) : Int) by omega, this]
  congr 1
  omega

def VarRel (w : World) (n : Nat) (x v : Value) (wr : World) : Prop :=
  ∃ (m : Nat) (done : Bytes), Hid (m ≤ 18446744073709551615) ∧ x = .int .u64 m ∧ wr.ownsRow w.heap.size 5 1 v done.length (bv done) ∧ Below w.heap.size w wr ∧ Hid (done ++ varB m = varB n) ∧ done.length + (varB m).length ≤ 10

set_option maxRecDepth 100000 in
set_option maxHeartbeats 400000 in
theorem Var_any (n : Int) (w : World) (h0 : 0 ≤ n) (h1 : n ≤ 18446744073709551615) :
    Calls Tryz.prog 18 #[.int .u64 n] w fun e w' => e = .returned (.string (str (varB n.toNat))) ∧ Below w.heap.size w w' := by
  obtain ⟨n, rfl⟩ := Int.eq_ofNat_of_zero_le h0
  simp only [Int.toNat_natCast]
  have hN : Hid (n ≤ 18446744073709551615) := by show n ≤ _; omega
  clear h0 h1
  go_enter Tryz.func18, Tryz.ntmps18
  go_wp2
  go_loopw [0, 3] (fun x v wr => VarRel w n x v wr) (fun x _ _ => (intOf x).toNat)
  case atStart => exact ⟨n, [], hN, rfl, World.ownsRow_nil _ _ _ _, Below.refl _ _, rfl, by have := varB_len64 (n := n) (by have := hN.out; omega); simp; omega⟩
  case round =>
    obtain ⟨m, done, hm, rfl, hown, hb, HE, hl⟩ := hrel
    have hsz := hb.size
    by_cases h : m < 128
    · have hv := Lib.hid (varB_small h)
      go_wp2_with (at_builtin; refine app1 w.heap.size rfl (.tmp 14) (.tmp 17) 101 5 (.int .u8 0) 1 1 rfl Tryz.underlying101 info_u8 rfl (by decide) _ _ _ _ rfl rfl rfl (by simp [Value.oneCell']) hown hsz (by omega) (by unfold maxLen; omega) ?_; intro v1 w1 hown1 hg1 _; have hb1 := below_row hb hown (Nat.le_refl _) hsz hg1; clear hown hb hsz; have hcv := run_str_own (P := Tryz.prog) (src := 101) (dst := 9) Tryz.underlying101 Tryz.underlying5 Tryz.underlying9 (l := done ++ [UInt8.ofNat m]) (by rw [bv_snoc done (show m < 256 by omega)]; exact hown1); clear hown1)
      go_ret
      exact ⟨congrArg (fun l => Ending.returned (.string (str l))) (by rw [← HE.out, hv.out]), hb1⟩
    · have hv := Lib.hid (varB_great (n := m) (by omega))
      go_wp2_with (at_builtin; refine app1 w.heap.size rfl (.tmp 8) (.tmp 12) 101 5 (.int .u8 0) 1 1 rfl Tryz.underlying101 info_u8 rfl (by decide) _ _ _ _ rfl rfl rfl (by simp [Value.oneCell']) hown hsz (by omega) (by unfold maxLen; omega) ?_; intro v1 w1 hown1 hg1 _; have hb1 := below_row hb hown (Nat.le_refl _) hsz hg1; clear hown hb hsz)
      rw [or_128, ← bv_snoc done (show m % 128 + 128 < 256 by omega)] at hown1
      refine ⟨⟨m / 128, done ++ [UInt8.ofNat (m % 128 + 128)], by have := hm.out; show m / 128 ≤ _; omega, by go_num, by simpa using hown1, hb1, ?_, ?_⟩, by simp [intOf]; omega⟩
      · show _ = _
        rw [← HE.out, hv.out]; simp
      · have := hl; rw [hv.out] at this; simp at this ⊢; omega
end Go.Proofs.YtkgpnikmdmpfaaaGreatDoor

/-
  Small facts on bits.
-/

set_option linter.unusedVariables false
set_option linter.unusedSimpArgs false
namespace Go.Proofs.YtkgpnikmdmpfaaaGreatDoor
open Go.RowKit

theorem xor_ones (x : BitVec 64) : (x ^^^ BitVec.allOnes 64).toNat = 18446744073709551615 - x.toNat := by
  rw [BitVec.xor_allOnes, BitVec.toNat_not]
theorem xor_u64_0 (a : Nat) (ha : a < 18446744073709551616) : bits .xor .u64 (a : Int) 0 = a := by
  have := bits_xor_u64_nat a 0 ha (by omega)
  simpa using this
theorem xor_u64_1 (a : Nat) (ha : a < 18446744073709551616) : bits .xor .u64 (a : Int) 18446744073709551615 = 18446744073709551615 - a := by
  have h := bits_xor_u64_nat a 18446744073709551615 ha (by omega)
  have h2 : (a ^^^ 18446744073709551615 : Nat) = 18446744073709551615 - a := by
    have := xor_ones (BitVec.ofNat 64 a)
    rw [BitVec.toNat_xor] at this
    simpa [Nat.mod_eq_of_lt ha] using this
  rw [h2] at h
  have e : bits .xor .u64 (a : Int) 18446744073709551615 = ((18446744073709551615 - a : Nat) : Int) := h
  rw [e]
  omega
theorem wrap_i64_val (n : Int) : IntKind.i64.wrap n = (n + 9223372036854775808) % 18446744073709551616 - 9223372036854775808 := by
  rw [IntKind.wrap_i64]
theorem ofInt_nat (a : Nat) (ha : a < 18446744073709551616) : (BitVec.ofInt 64 (a : Int)).toNat = a := by
  rw [BitVec.ofInt_natCast, BitVec.toNat_ofNat]; exact Nat.mod_eq_of_lt (by omega)
theorem xor_i64_0 (a : Nat) (h1 : a ≤ 9223372036854775807) : bits .xor .i64 (a : Int) 0 = a := by
  show IntKind.i64.wrap ((BitVec.ofInt 64 (a : Int) ^^^ BitVec.ofInt 64 0).toNat : Int) = _
  have e : BitVec.ofInt 64 0 = 0#64 := by decide
  rw [e, BitVec.xor_zero, ofInt_nat a (by omega), wrap_i64_val]
  omega
theorem xor_i64_1 (a : Nat) (h1 : a ≤ 9223372036854775807) : bits .xor .i64 (a : Int) (-1) = -1 - a := by
  show IntKind.i64.wrap ((BitVec.ofInt 64 (a : Int) ^^^ BitVec.ofInt 64 (-1)).toNat : Int) = _
  have e : BitVec.ofInt 64 (-1) = BitVec.allOnes 64 := by decide
  rw [e, xor_ones, ofInt_nat a (by omega), wrap_i64_val]
  omega
theorem and_u64_1 (a : Nat) (ha : a < 18446744073709551616) : bits .and .u64 (a : Int) 1 = ((a % 2 : Nat) : Int) := by
  have h := bits_and_u64_nat a 1 ha (by omega)
  rw [Nat.and_one_is_mod] at h
  exact h

/-! the sign's number -/
def signN (n : Int) : Int := if n < 0 then (-1 - n) * 2 + 1 else n * 2
def backN (n : Int) : Int := if n % 2 = 1 then -1 - n / 2 else n / 2
theorem wrap_u64_val (n : Int) : IntKind.u64.wrap n = n % 18446744073709551616 := by
  simp [IntKind.wrap, IntKind.bits, IntKind.signed]
theorem sign_eq (n : Int) (h1 : -9223372036854775808 ≤ n) (h2 : n ≤ 9223372036854775807) :
    bits .xor .u64 (IntKind.u64.wrap (IntKind.u64.wrap n * 2)) (IntKind.u64.wrap (n / 9223372036854775808)) = signN n := by
  simp only [wrap_u64_val]
  by_cases h : n < 0
  · have e1 : n % 18446744073709551616 * 2 % 18446744073709551616 = ((18446744073709551616 + 2 * n).toNat : Int) := by omega
    have e2 : n / 9223372036854775808 % 18446744073709551616 = 18446744073709551615 := by omega
    rw [e1, e2, xor_u64_1 _ (by omega)]
    simp only [signN, h, if_true]
    omega
  · have e1 : n % 18446744073709551616 * 2 % 18446744073709551616 = ((2 * n).toNat : Int) := by omega
    have e2 : n / 9223372036854775808 % 18446744073709551616 = 0 := by omega
    rw [e1, e2, xor_u64_0 _ (by omega)]
    simp only [signN, h, if_false]
    omega
theorem back_eq (n : Int) (h0 : 0 ≤ n) (h1 : n ≤ 18446744073709551615) :
    bits .xor .i64 (n / 2) (wrap64 (-wrap64 (bits .and .u64 n 1))) = backN n := by
  obtain ⟨k, rfl⟩ := Int.eq_ofNat_of_zero_le h0
  rw [and_u64_1 k (by omega)]
  have e : ((k : Int) / 2) = ((k / 2 : Nat) : Int) := by omega
  rw [e]
  rcases Nat.mod_two_eq_zero_or_one k with h | h
  · rw [h, show wrap64 (-wrap64 ((0 : Nat) : Int)) = 0 by simp [wrap64], xor_i64_0 _ (by omega)]
    unfold backN
    rw [if_neg (by omega)]
    omega
  · rw [h, show wrap64 (-wrap64 ((1 : Nat) : Int)) = -1 by simp [wrap64], xor_i64_1 _ (by omega)]
    unfold backN
    rw [if_pos (by omega)]
    omega
end Go.Proofs.YtkgpnikmdmpfaaaGreatDoor

/-
  The walks of bits.Read, Cut, Text, Sign, Back.
-/

set_option linter.unusedVariables false
set_option linter.unusedSimpArgs false
namespace Go.Proofs.YtkgpnikmdmpfaaaGreatDoor
open Go.RowKit

set_option maxRecDepth 100000 in
set_option maxHeartbeats 1000000 in
theorem Text_any (s : Bytes) (w : World) (hs : s.length ≤ 4611686018427387904) :
    Calls Tryz.prog 16 #[.string (str s)] w fun e w' => e = .returned (.string (str (textB s))) ∧ Below w.heap.size w w' := by
  have HV := Lib.hid (show (varB s.length).length ≤ 10 from varB_len64 (by omega))
  have HS := Lib.hid hs
  clear hs
  have hs2 : (s.length : Int) ≤ 4611686018427387904 := by have := HS.out; omega
  go_enter Tryz.func16, Tryz.ntmps16
  go_wp2_with (go_at_call 18; refine Calls.mono (Var_any _ _ (by omega) (by omega)) ?_; rintro e w1 ⟨rfl, hb⟩; obtain ⟨hc, hf, hr, hz⟩ := brow hb; have hv := HV.out; simp only [Int.toNat_natCast])
  go_ret
  exact ⟨rfl, hb⟩

set_option maxRecDepth 100000 in
set_option maxHeartbeats 1000000 in
theorem Sign_any (n : Int) (w : World) (hn : Sp.in64 n = true) :
    Calls Tryz.prog 73 #[.int .i64 n] w fun e w' => e = .returned (.int .u64 (signN n)) ∧ w = w' := by
  simp only [Sp.in64, Bool.and_eq_true, decide_eq_true_eq] at hn
  obtain ⟨h1, h2⟩ := hn
  go_enter Tryz.func73, Tryz.ntmps73
  go_wp2
  go_ret
  exact ⟨congrArg (fun x => Ending.returned (.int .u64 x)) (sign_eq n h1 h2), rfl⟩

set_option maxRecDepth 100000 in
set_option maxHeartbeats 1000000 in
theorem Back_any (n : Int) (w : World) (h0 : 0 ≤ n) (h1 : n ≤ 18446744073709551615) :
    Calls Tryz.prog 114 #[.int .u64 n] w fun e w' => e = .returned (.int .i64 (backN n)) ∧ w = w' := by
  go_enter Tryz.func114, Tryz.ntmps114
  go_wp2
  go_ret
  exact ⟨congrArg (fun x => Ending.returned (.int .i64 x)) (back_eq n h0 h1), rfl⟩
end Go.Proofs.YtkgpnikmdmpfaaaGreatDoor

/-
  The walk of bits.Read.
-/

set_option linter.unusedVariables false
set_option linter.unusedSimpArgs false
namespace Go.Proofs.YtkgpnikmdmpfaaaGreatDoor
open Go.RowKit

/-- One byte more of a number (the model's own spelling). -/
def readStep (a : Int) (c : Int) (k : Nat) : Int :=
  bits .or .u64 a (IntKind.u64.wrap (IntKind.u64.wrap (bits .and .u8 c 127) * 2 ^ (7 * k)))
def readAt (s : Bytes) : Nat → Nat → Int → Option (Int × Bytes)
  | 0, _, _ => none
  | f + 1, k, a =>
    match s[k]? with
    | none => none
    | some c =>
      if 128 ≤ c.toNat then readAt s f (k + 1) (readStep a c.toNat k)
      else if (0 < k ∧ c.toNat = 0) ∨ (k = 9 ∧ 1 < c.toNat) then none
      else some (readStep a c.toNat k, s.drop (k + 1))
/-- bits.Read. -/
def readB (s : Bytes) : Option (Int × Bytes) := readAt s 10 0 0
def readRes : Option (Int × Bytes) → Ending
  | none => .returned (.tuple #[.int .u64 0, .string (str []), .bool false])
  | some (n, t) => .returned (.tuple #[.int .u64 n, .string (str t), .bool true])

def RelRead (s : Bytes) (x y : Value) : Prop :=
  ∃ (k : Nat) (a : Int), k ≤ s.length ∧ k ≤ 10 ∧ x = .int .i64 k ∧ y = .int .u64 a ∧ readAt s (10 - k) k a = readB s

theorem str_at (s : Bytes) (k : Nat) (h : k < (str s).size) : (str s)[k] = s[k]'(by simpa using h) := by
  simp [str, ByteArray.getElem_eq_getElem_data]

theorem readAt_go {s : Bytes} {k : Nat} {a : Int} {r : Option (Int × Bytes)} (h : readAt s (10 - k) k a = r) (hk : k < 10) (hl : k < (str s).size) :
    (if 128 ≤ (str s)[k].toNat then readAt s (10 - (k + 1)) (k + 1) (readStep a ((str s)[k].toNat : Nat) k)
      else if (0 < k ∧ (str s)[k].toNat = 0) ∨ (k = 9 ∧ 1 < (str s)[k].toNat) then none
      else some (readStep a ((str s)[k].toNat : Nat) k, s.drop (k + 1))) = r := by
  have hl' : k < s.length := by simpa using hl
  rw [← h, show 10 - k = (10 - (k + 1)) + 1 by omega, readAt, List.getElem?_eq_getElem hl']
  simp only [str_at]
theorem readAt_end {s : Bytes} {k : Nat} {a : Int} {r : Option (Int × Bytes)} (h : readAt s (10 - k) k a = r) (hk : k = 10 ∨ k = s.length) (h2 : k ≤ 10) : r = none := by
  rw [← h]
  rcases Nat.lt_or_ge k 10 with h3 | h3
  · rw [show 10 - k = (10 - (k + 1)) + 1 by omega, readAt, List.getElem?_eq_none (by omega)]
  · rw [show 10 - k = 0 by omega, readAt]

theorem below_drewN (w : World) (n : Nat) : Below w.heap.size w (w.drewN n) := ⟨rfl, rfl, rfl, Nat.le_refl _, fun _ _ => rfl⟩

set_option maxRecDepth 100000 in
set_option maxHeartbeats 1000000 in
theorem Read_any (s : Bytes) (w : World) (hs : s.length ≤ 4611686018427387904) :
    Calls Tryz.prog 110 #[.string (str s)] w fun e w' => e = readRes (readB s) ∧ Below w.heap.size w w' := by
  go_enter Tryz.func110, Tryz.ntmps110
  go_wp2
  all_goals (
    go_loopw [10, 2] (fun x y wr => RelRead s x y ∧ wr = w) (fun x _ _ => 10 - (intOf x).toNat)
    case atStart => exact ⟨⟨0, 0, by omega, by omega, rfl, rfl, rfl⟩, rfl⟩
    case round =>
      obtain ⟨⟨k, a, hk, hk2, rfl, rfl, HR⟩, rfl⟩ := hrel
      replace HR := Lib.hid HR
      go_wp2
      all_goals try (refine ⟨⟨⟨k + 1, _, by omega, by omega, by go_num, rfl, ?_⟩, trivial⟩, by simp [intOf]; omega⟩
                     have := readAt_go HR.out (by omega) (by simp; omega)
                     rw [if_pos (by omega)] at this
                     exact this)
      all_goals try (go_ret3
                     have := readAt_end HR.out (by omega) (by omega)
                     rw [this]
                     exact ⟨rfl, Below.refl _ _⟩)
      all_goals try (go_quiet (fail)
                     go_wp2)
      all_goals go_ret3
      all_goals (
           have := readAt_go HR.out (by omega) (by simp; omega)
           try simp only [beq_iff_eq, beq_eq_false_iff_ne, ne_eq] at *
           split at this
           · exfalso; omega
           · split at this
             · first | (exfalso; omega; done) | (rw [← this]; exact ⟨rfl, Below.refl _ _⟩)
             · first | (exfalso; omega; done) | (rw [← this]; refine ⟨?_, below_drewN _ _⟩; simp [readRes, readStep]; rw [List.take_of_length_le (by simp)]; try rw [show k = 9 by omega])))
end Go.Proofs.YtkgpnikmdmpfaaaGreatDoor

/-
  The walk of bits.Cut; the readers of package orders.
-/

set_option linter.unusedVariables false
set_option linter.unusedSimpArgs false
namespace Go.Proofs.YtkgpnikmdmpfaaaGreatDoor
open Go.RowKit

theorem readStep_range (a c : Int) (k : Nat) : 0 ≤ readStep a c k ∧ readStep a c k ≤ 18446744073709551615 := by
  unfold readStep bits
  rw [IntKind.wrap_u64]
  omega
theorem readAt_range (s : Bytes) : ∀ (f k : Nat) (a n : Int) (t : Bytes), readAt s f k a = some (n, t) → 0 ≤ n ∧ n ≤ 18446744073709551615 ∧ t.length < s.length
  | 0, _, _, _, _, h => by simp [readAt] at h
  | f + 1, k, a, n, t, h => by
    unfold readAt at h
    split at h
    · cases h
    · rename_i c hc
      split at h
      · exact readAt_range s f _ _ n t h
      · split at h
        · cases h
        · cases h
          have := readStep_range a c.toNat k
          have hl : k < s.length := by
            rcases Nat.lt_or_ge k s.length with h | h
            · exact h
            · rw [List.getElem?_eq_none h] at hc; cases hc
          refine ⟨this.1, this.2, ?_⟩
          simp; omega
theorem readB_range {s : Bytes} {n : Int} {t : Bytes} (h : readB s = some (n, t)) : 0 ≤ n ∧ n ≤ 18446744073709551615 ∧ t.length < s.length := readAt_range s _ _ _ n t h

/-- bits.Cut. -/
def cutB (s : Bytes) : Option (Bytes × Bytes) :=
  match readB s with
  | none => none
  | some (n, t) => if n.toNat ≤ t.length then some (t.take n.toNat, t.drop n.toNat) else none
def cutRes : Option (Bytes × Bytes) → Ending
  | none => .returned (.tuple #[.string (str []), .string (str []), .bool false])
  | some (a, b) => .returned (.tuple #[.string (str a), .string (str b), .bool true])
theorem cutB_range {s a b : Bytes} (h : cutB s = some (a, b)) : a.length + b.length < s.length := by
  unfold cutB at h
  split at h
  · cases h
  · rename_i n t hr
    have := (readB_range hr).2.2
    split at h
    · cases h; simp; omega
    · cases h

set_option maxRecDepth 100000 in
set_option maxHeartbeats 1000000 in
theorem Cut_any (s : Bytes) (w : World) (hs : s.length ≤ 4611686018427387904) :
    Calls Tryz.prog 113 #[.string (str s)] w fun e w' => e = cutRes (cutB s) ∧ Below w.heap.size w w' := by
  cases hr : readB s with
  | none =>
    have hC : cutB s = none := by simp [cutB, hr]
    rw [hC]
    clear hC
    replace hr := Lib.hid hr
    go_enter Tryz.func113, Tryz.ntmps113
    go_wp2_with (go_at_call 110; refine Calls.mono (Read_any _ _ (by omega)) ?_; rw [hr.out]; rintro e w1 ⟨rfl, hb⟩; simp only [readRes])
    go_ret3
    exact ⟨rfl, hb⟩
  | some p =>
    obtain ⟨n, t⟩ := p
    obtain ⟨h0, h1, hl⟩ := readB_range hr
    obtain ⟨n, rfl⟩ := Int.eq_ofNat_of_zero_le h0
    by_cases hn : n ≤ t.length
    · have hC : cutB s = some (t.take n, t.drop n) := by simp [cutB, hr, hn]
      rw [hC]
      clear hC
      replace hr := Lib.hid hr
      go_enter Tryz.func113, Tryz.ntmps113
      go_wp2_with (go_at_call 110; refine Calls.mono (Read_any _ _ (by omega)) ?_; rw [hr.out]; rintro e w1 ⟨rfl, hb⟩; simp only [readRes])
      go_quiet (fail)
      go_wp2
      go_ret3
      refine ⟨?_, Grew.trans hb (below_drewN _ _)⟩
      simp [cutRes, List.take_of_length_le]
    · have hC : cutB s = none := by simp [cutB, hr, hn]
      rw [hC]
      clear hC
      replace hr := Lib.hid hr
      go_enter Tryz.func113, Tryz.ntmps113
      go_wp2_with (go_at_call 110; refine Calls.mono (Read_any _ _ (by omega)) ?_; rw [hr.out]; rintro e w1 ⟨rfl, hb⟩; simp only [readRes])
      go_ret3
      exact ⟨rfl, hb⟩
end Go.Proofs.YtkgpnikmdmpfaaaGreatDoor

/-
  The readers' walks: number, text, next.
-/

set_option linter.unusedVariables false
set_option linter.unusedSimpArgs false
namespace Go.Proofs.YtkgpnikmdmpfaaaGreatDoor
open Go.RowKit

/-- What a walk wants behind a call that writes to block p alone. -/
theorem bbut {W w1 : World} {p : Nat} (hb : W.grownBy w1 (some p)) : (∀ b o, w1.cell? ⟨b, o, none⟩ = if b < W.heap.size ∧ b ≠ p then W.cell? ⟨b, o, none⟩ else later w1 b o) ∧
    (∀ b o, w1.frozen? ⟨b, o, none⟩ = if b < W.heap.size ∧ b ≠ p then W.frozen? ⟨b, o, none⟩ else laterF w1 b o) ∧
    (∀ b, w1.row? b = if b < W.heap.size ∧ b ≠ p then W.row? b else laterR w1 b) ∧ W.heap.size ≤ w1.heap.size :=
  ⟨fun b o => by split
                 · rename_i h; exact World.cell?_of_block (w := W) (a := ⟨b, o, none⟩) (hb.block b h.1 (by simpa using h.2))
                 · rfl, fun b o => by split
                                      · rename_i h; exact World.frozen?_of_block (w := W) (a := ⟨b, o, none⟩) (hb.block b h.1 (by simpa using h.2))
                                      · rfl, fun b => by split
                                                         · rename_i h; exact row?_congr (hb.block b h.1 (by simpa using h.2))
                                                         · rfl, hb.size⟩
theorem grown_below {W w1 : World} (hb : Below W.heap.size W w1) (p : Option Nat) : W.grownBy w1 p := ⟨hb.os, hb.tape, hb.output, hb.size, fun k hk _ => hb.block k hk⟩
theorem grown_setCell (w : World) (p o : Nat) (x : Value) : w.grownBy (w.setCell ⟨p, o, none⟩ x) (some p) := ⟨rfl, rfl, rfl, by simp [World.setCell], fun k _ hk => Below.heap_setCell w _ x k (by simpa using hk)⟩
theorem grown_drewN {w w1 : World} {p : Option Nat} (h : w.grownBy w1 p) (n : Nat) : w.grownBy (w1.drewN n) p := ⟨h.os, h.tape, h.output, h.size, h.block⟩
theorem row2_cells {w : World} {p : Nat} {a b : Value} (hp : w.row? p = some #[a, b]) : w.cell? ⟨p, 0, none⟩ = some a ∧ w.cell? ⟨p, 1, none⟩ = some b ∧ w.frozen? ⟨p, 0, none⟩ = false ∧ w.frozen? ⟨p, 1, none⟩ = false ∧ p < w.heap.size :=
  ⟨by rw [cell?_of_row? hp]; rfl, by rw [cell?_of_row? hp]; rfl, frozen?_of_row? hp _, frozen?_of_row? hp _, row?_lt hp⟩
/-- A reader at p: what is left, and whether all was well. -/
def Rd (w : World) (p : Nat) (s : Bytes) (ok : Bool) : Prop := w.row? p = some #[.string (str s), .bool ok]
theorem rd_done {w w1 : World} {p : Nat} {a b : Value} {s : Bytes} {ok : Bool} (hp : w.row? p = some #[a, b]) (hb : Below w.heap.size w w1) :
    w.grownBy ((w1.setCell ⟨p, 0, none⟩ (.string (str s))).setCell ⟨p, 1, none⟩ (.bool ok)) (some p) ∧ Rd ((w1.setCell ⟨p, 0, none⟩ (.string (str s))).setCell ⟨p, 1, none⟩ (.bool ok)) p s ok := by
  refine ⟨((grown_below hb _).trans (grown_setCell _ _ _ _)).trans (grown_setCell _ _ _ _), ?_⟩
  have h1 : w1.row? p = some #[a, b] := by rw [row?_congr (hb.block p (row?_lt hp)), hp]
  unfold Rd
  rw [row?_setCell, if_pos rfl, row?_setCell, if_pos rfl, h1]
  rfl
/-- What a walk wants behind a reader's call. -/
theorem brd {W w1 : World} {p : Nat} {s : Bytes} {ok : Bool} (hb : W.grownBy w1 (some p)) (h : Rd w1 p s ok) :
    (∀ b o, w1.cell? ⟨b, o, none⟩ = if b = p then (if o = 0 then some (.string (str s)) else if o = 1 then some (.bool ok) else none) else if b < W.heap.size then W.cell? ⟨b, o, none⟩ else later w1 b o) ∧
    (∀ b o, w1.frozen? ⟨b, o, none⟩ = if b = p then false else if b < W.heap.size then W.frozen? ⟨b, o, none⟩ else laterF w1 b o) ∧
    (∀ b, w1.row? b = if b = p then some #[.string (str s), .bool ok] else if b < W.heap.size then W.row? b else laterR w1 b) ∧ W.heap.size ≤ w1.heap.size ∧ p < w1.heap.size := by
  refine ⟨fun b o => ?_, fun b o => ?_, fun b => ?_, hb.size, row?_lt h⟩
  · split
    · subst_vars
      rw [cell?_of_row? h]
      rcases o with _ | _ | o <;> simp
    · rename_i hne
      split
      · rename_i hl; exact World.cell?_of_block (w := W) (a := ⟨b, o, none⟩) (hb.block b hl (by simpa using hne))
      · rfl
  · split
    · subst_vars; exact frozen?_of_row? h _
    · rename_i hne
      split
      · rename_i hl; exact World.frozen?_of_block (w := W) (a := ⟨b, o, none⟩) (hb.block b hl (by simpa using hne))
      · rfl
  · split
    · subst_vars; exact h
    · rename_i hne
      split
      · rename_i hl; exact row?_congr (hb.block b hl (by simpa using hne))
      · rfl
def rdText (s : Bytes) (ok : Bool) : Bytes × Bytes × Bool := match cutB s with | none => ([], [], false) | some (a, t) => (a, t, ok)
def rdNum (s : Bytes) (ok : Bool) : Int × Bytes × Bool := match readB s with | none => (0, [], false) | some (n, t) => (n, t, ok)
def rdMost (most : Int) (s : Bytes) (ok : Bool) : Int × Bytes × Bool :=
  match readB s with
  | none => (0, [], false)
  | some (n, t) => (if ok = true ∧ n ≤ most then n else 0, t, ok && decide (n ≤ most))
theorem rdText_len (s : Bytes) (ok : Bool) : (rdText s ok).1.length + (rdText s ok).2.1.length ≤ s.length := by
  unfold rdText
  cases h : cutB s with
  | none => simp
  | some p => have := cutB_range h; simp; omega
theorem rdNum_len (s : Bytes) (ok : Bool) : (rdNum s ok).2.1.length ≤ s.length ∧ 0 ≤ (rdNum s ok).1 ∧ (rdNum s ok).1 ≤ 18446744073709551615 := by
  unfold rdNum
  cases h : readB s with
  | none => simp
  | some p => have := readB_range h; simp; omega
theorem rdMost_len (m : Int) (s : Bytes) (ok : Bool) (hm : 0 ≤ m) : (rdMost m s ok).2.1.length ≤ s.length ∧ 0 ≤ (rdMost m s ok).1 ∧ (rdMost m s ok).1 ≤ m := by
  unfold rdMost
  cases h : readB s with
  | none => simp; omega
  | some p => have := readB_range h; simp only; refine ⟨by omega, ?_⟩; split <;> omega

set_option maxRecDepth 100000 in
set_option maxHeartbeats 2000000 in
theorem ordText_any (p : Nat) (s : Bytes) (ok : Bool) (w : World) (hp : Rd w p s ok) (hs : s.length ≤ 4611686018427387904) :
    Calls Tryz.prog 112 #[.pointer (some ⟨p, 0, none⟩)] w fun e w' => e = .returned (.string (str (rdText s ok).1)) ∧ w.grownBy w' (some p) ∧ Rd w' p (rdText s ok).2.1 (rdText s ok).2.2 := by
  obtain ⟨hc0, hc1, hf0, hf1, hlt⟩ := row2_cells hp
  replace hp := Lib.hid hp
  cases hr : cutB s with
  | none =>
    have hT : rdText s ok = ([], [], false) := by simp [rdText, hr]
    rw [hT]
    replace hT := Lib.hid hT
    replace hr := Lib.hid hr
    cases ok
    all_goals (
      go_enter Tryz.func112, Tryz.ntmps112
      go_wp2_with (go_at_call 113; refine Calls.mono (Cut_any _ _ (by omega)) ?_; rw [hr.out]; rintro e w1 ⟨rfl, hb⟩; obtain ⟨hc, hf, hz⟩ := bcell hb; simp only [cutRes])
      go_ret
      exact ⟨rfl, rd_done hp.out hb⟩)
  | some q =>
    obtain ⟨a, t⟩ := q
    have hT : rdText s ok = (a, t, ok) := by simp [rdText, hr]
    rw [hT]
    replace hT := Lib.hid hT
    replace hr := Lib.hid hr
    cases ok
    all_goals (
      go_enter Tryz.func112, Tryz.ntmps112
      go_wp2_with (go_at_call 113; refine Calls.mono (Cut_any _ _ (by omega)) ?_; rw [hr.out]; rintro e w1 ⟨rfl, hb⟩; obtain ⟨hc, hf, hz⟩ := bcell hb; simp only [cutRes])
      go_ret
      exact ⟨rfl, rd_done hp.out hb⟩)

set_option maxRecDepth 100000 in
set_option maxHeartbeats 2000000 in
theorem ordNum_any (p : Nat) (s : Bytes) (ok : Bool) (w : World) (most : Int) (hm0 : 0 ≤ most) (hm1 : most ≤ 4611686018427387904) (hp : Rd w p s ok) (hs : s.length ≤ 4611686018427387904) :
    Calls Tryz.prog 111 #[.pointer (some ⟨p, 0, none⟩), .int .i64 most] w fun e w' => e = .returned (.int .i64 (rdMost most s ok).1) ∧ w.grownBy w' (some p) ∧ Rd w' p (rdMost most s ok).2.1 (rdMost most s ok).2.2 := by
  obtain ⟨hc0, hc1, hf0, hf1, hlt⟩ := row2_cells hp
  replace hp := Lib.hid hp
  cases hr : readB s with
  | none =>
    have hT : rdMost most s ok = (0, [], false) := by simp [rdMost, hr]
    rw [hT]
    replace hT := Lib.hid hT
    replace hr := Lib.hid hr
    cases ok
    all_goals (
      go_enter Tryz.func111, Tryz.ntmps111
      go_wp2_with (go_at_call 110; refine Calls.mono (Read_any _ _ (by omega)) ?_; rw [hr.out]; rintro e w1 ⟨rfl, hb⟩; obtain ⟨hc, hf, hz⟩ := bcell hb; simp only [readRes])
      go_ret
      exact ⟨rfl, rd_done hp.out hb⟩)
  | some q =>
    obtain ⟨n, t⟩ := q
    obtain ⟨hn0, hn1, hn2⟩ := readB_range hr
    by_cases hm : n ≤ most
    · cases ok
      · have hT : rdMost most s false = (0, t, false) := by simp [rdMost, hr]
        rw [hT]
        replace hT := Lib.hid hT
        replace hr := Lib.hid hr
        (
      go_enter Tryz.func111, Tryz.ntmps111
      go_wp2_with (go_at_call 110; refine Calls.mono (Read_any _ _ (by omega)) ?_; rw [hr.out]; rintro e w1 ⟨rfl, hb⟩; obtain ⟨hc, hf, hz⟩ := bcell hb; simp only [readRes])
      go_ret
      exact ⟨rfl, rd_done hp.out hb⟩)
      · have hT : rdMost most s true = (n, t, true) := by simp [rdMost, hr, hm]
        rw [hT]
        replace hT := Lib.hid hT
        replace hr := Lib.hid hr
        (
      go_enter Tryz.func111, Tryz.ntmps111
      go_wp2_with (go_at_call 110; refine Calls.mono (Read_any _ _ (by omega)) ?_; rw [hr.out]; rintro e w1 ⟨rfl, hb⟩; obtain ⟨hc, hf, hz⟩ := bcell hb; simp only [readRes])
      go_ret
      exact ⟨rfl, rd_done hp.out hb⟩)
    · have hT : rdMost most s ok = (0, t, false) := by simp [rdMost, hr, hm]
      rw [hT]
      replace hT := Lib.hid hT
      replace hr := Lib.hid hr
      cases ok
      all_goals (
      go_enter Tryz.func111, Tryz.ntmps111
      go_wp2_with (go_at_call 110; refine Calls.mono (Read_any _ _ (by omega)) ?_; rw [hr.out]; rintro e w1 ⟨rfl, hb⟩; obtain ⟨hc, hf, hz⟩ := bcell hb; simp only [readRes])
      go_ret
      exact ⟨rfl, rd_done hp.out hb⟩)

set_option maxRecDepth 100000 in
set_option maxHeartbeats 2000000 in
theorem rowNext_any (p : Nat) (s : Bytes) (ok : Bool) (w : World) (hp : Rd w p s ok) (hs : s.length ≤ 4611686018427387904) :
    Calls Tryz.prog 115 #[.pointer (some ⟨p, 0, none⟩)] w fun e w' => e = .returned (.int .i64 (rdMost 1099511627776 s ok).1) ∧ w.grownBy w' (some p) ∧ Rd w' p (rdMost 1099511627776 s ok).2.1 (rdMost 1099511627776 s ok).2.2 := by
  obtain ⟨hc0, hc1, hf0, hf1, hlt⟩ := row2_cells hp
  replace hp := Lib.hid hp
  cases hr : readB s with
  | none =>
    have hT : rdMost 1099511627776 s ok = (0, [], false) := by simp [rdMost, hr]
    rw [hT]
    replace hT := Lib.hid hT
    replace hr := Lib.hid hr
    cases ok
    all_goals (
      go_enter Tryz.func115, Tryz.ntmps115
      go_wp2_with (go_at_call 110; refine Calls.mono (Read_any _ _ (by omega)) ?_; rw [hr.out]; rintro e w1 ⟨rfl, hb⟩; obtain ⟨hc, hf, hz⟩ := bcell hb; simp only [readRes])
      go_ret
      exact ⟨rfl, rd_done hp.out hb⟩)
  | some q =>
    obtain ⟨n, t⟩ := q
    obtain ⟨hn0, hn1, hn2⟩ := readB_range hr
    by_cases hm : n ≤ 1099511627776
    · cases ok
      · have hT : rdMost 1099511627776 s false = (0, t, false) := by simp [rdMost, hr]
        rw [hT]
        replace hT := Lib.hid hT
        replace hr := Lib.hid hr
        (
      go_enter Tryz.func115, Tryz.ntmps115
      go_wp2_with (go_at_call 110; refine Calls.mono (Read_any _ _ (by omega)) ?_; rw [hr.out]; rintro e w1 ⟨rfl, hb⟩; obtain ⟨hc, hf, hz⟩ := bcell hb; simp only [readRes])
      go_ret
      exact ⟨rfl, rd_done hp.out hb⟩)
      · have hT : rdMost 1099511627776 s true = (n, t, true) := by simp [rdMost, hr, hm]
        rw [hT]
        replace hT := Lib.hid hT
        replace hr := Lib.hid hr
        (
      go_enter Tryz.func115, Tryz.ntmps115
      go_wp2_with (go_at_call 110; refine Calls.mono (Read_any _ _ (by omega)) ?_; rw [hr.out]; rintro e w1 ⟨rfl, hb⟩; obtain ⟨hc, hf, hz⟩ := bcell hb; simp only [readRes])
      go_ret
      exact ⟨rfl, rd_done hp.out hb⟩)
    · have hT : rdMost 1099511627776 s ok = (0, t, false) := by simp [rdMost, hr, hm]
      rw [hT]
      replace hT := Lib.hid hT
      replace hr := Lib.hid hr
      cases ok
      all_goals (
      go_enter Tryz.func115, Tryz.ntmps115
      go_wp2_with (go_at_call 110; refine Calls.mono (Read_any _ _ (by omega)) ?_; rw [hr.out]; rintro e w1 ⟨rfl, hb⟩; obtain ⟨hc, hf, hz⟩ := bcell hb; simp only [readRes])
      go_ret
      exact ⟨rfl, rd_done hp.out hb⟩)

set_option maxRecDepth 100000 in
set_option maxHeartbeats 2000000 in
theorem snapNum_any (p : Nat) (s : Bytes) (ok : Bool) (w : World) (hp : Rd w p s ok) (hs : s.length ≤ 4611686018427387904) :
    Calls Tryz.prog 76 #[.pointer (some ⟨p, 0, none⟩)] w fun e w' => e = .returned (.int .u64 (rdNum s ok).1) ∧ w.grownBy w' (some p) ∧ Rd w' p (rdNum s ok).2.1 (rdNum s ok).2.2 := by
  obtain ⟨hc0, hc1, hf0, hf1, hlt⟩ := row2_cells hp
  replace hp := Lib.hid hp
  cases hr : readB s with
  | none =>
    have hT : rdNum s ok = (0, [], false) := by simp [rdNum, hr]
    rw [hT]
    replace hT := Lib.hid hT
    replace hr := Lib.hid hr
    cases ok
    all_goals (
      go_enter Tryz.func76, Tryz.ntmps76
      go_wp2_with (go_at_call 110; refine Calls.mono (Read_any _ _ (by omega)) ?_; rw [hr.out]; rintro e w1 ⟨rfl, hb⟩; obtain ⟨hc, hf, hz⟩ := bcell hb; simp only [readRes])
      go_ret
      exact ⟨rfl, rd_done hp.out hb⟩)
  | some q =>
    obtain ⟨n, t⟩ := q
    have hn := readB_range hr
    have hT : rdNum s ok = (n, t, ok) := by simp [rdNum, hr]
    rw [hT]
    replace hT := Lib.hid hT
    replace hr := Lib.hid hr
    cases ok
    all_goals (
      go_enter Tryz.func76, Tryz.ntmps76
      go_wp2_with (go_at_call 110; refine Calls.mono (Read_any _ _ (by omega)) ?_; rw [hr.out]; rintro e w1 ⟨rfl, hb⟩; obtain ⟨hc, hf, hz⟩ := bcell hb; simp only [readRes])
      go_ret
      exact ⟨rfl, rd_done hp.out hb⟩)

set_option maxRecDepth 100000 in
set_option maxHeartbeats 2000000 in
theorem snapText_any (p : Nat) (s : Bytes) (ok : Bool) (w : World) (hp : Rd w p s ok) (hs : s.length ≤ 4611686018427387904) :
    Calls Tryz.prog 78 #[.pointer (some ⟨p, 0, none⟩)] w fun e w' => e = .returned (.string (str (rdText s ok).1)) ∧ w.grownBy w' (some p) ∧ Rd w' p (rdText s ok).2.1 (rdText s ok).2.2 := by
  obtain ⟨hc0, hc1, hf0, hf1, hlt⟩ := row2_cells hp
  replace hp := Lib.hid hp
  cases hr : cutB s with
  | none =>
    have hT : rdText s ok = ([], [], false) := by simp [rdText, hr]
    rw [hT]
    replace hT := Lib.hid hT
    replace hr := Lib.hid hr
    cases ok
    all_goals (
      go_enter Tryz.func78, Tryz.ntmps78
      go_wp2_with (go_at_call 113; refine Calls.mono (Cut_any _ _ (by omega)) ?_; rw [hr.out]; rintro e w1 ⟨rfl, hb⟩; obtain ⟨hc, hf, hz⟩ := bcell hb; simp only [cutRes])
      go_ret
      exact ⟨rfl, rd_done hp.out hb⟩)
  | some q =>
    obtain ⟨a, t⟩ := q
    have hT : rdText s ok = (a, t, ok) := by simp [rdText, hr]
    rw [hT]
    replace hT := Lib.hid hT
    replace hr := Lib.hid hr
    cases ok
    all_goals (
      go_enter Tryz.func78, Tryz.ntmps78
      go_wp2_with (go_at_call 113; refine Calls.mono (Cut_any _ _ (by omega)) ?_; rw [hr.out]; rintro e w1 ⟨rfl, hb⟩; obtain ⟨hc, hf, hz⟩ := bcell hb; simp only [cutRes])
      go_ret
      exact ⟨rfl, rd_done hp.out hb⟩)
end Go.Proofs.YtkgpnikmdmpfaaaGreatDoor

/-
  The walks of rows.may and of package saga's functions but Valid.
-/

set_option linter.unusedVariables false
set_option linter.unusedSimpArgs false
namespace Go.Proofs.YtkgpnikmdmpfaaaGreatDoor
open Go.RowKit

theorem alloc_grew (W : World) (o : Obj) : Below W.heap.size W (W.alloc o) := (Below.refl _ _).alloc (Nat.le_refl _) o

def orderVal (o : Sp.Order) : Value := .agg #[.int .i64 o.id, .string (str o.ref), .string (str o.sku), .int .i64 o.qty, .int .i64 o.amount]
def sagaVal (s : Sp.Saga) : Value := .agg #[.int .i64 s.o.id, .string (str s.o.ref), .string (str s.o.sku), .int .i64 s.o.qty, .int .i64 s.o.amount, .int .i64 s.d0, .int .i64 s.d1, .int .i64 s.d2, .int .i64 s.d3, .int .i64 s.d4, .int .i64 s.d5, .bool s.cancel]
def rowVal (r : Sp.Row) : Value := .agg #[.int .i64 r.order, .int .i64 r.deed, .int .i64 r.code, .int .i64 r.amount, .int .i64 r.qty]
def postVal (p : Sp.Posting) : Value := .agg #[.string (str p.id), .int .i64 p.order, .int .i64 p.debit, .int .i64 p.credit, .int .i64 p.amount]

set_option maxRecDepth 100000 in
set_option maxHeartbeats 1000000 in
theorem rowsMay_any (r : Sp.Row) (p : Int) (w : World) (hp : Parties w) :
    Calls Tryz.prog 127 #[rowVal r, .int .i64 p] w fun e w' => e = .returned (.bool (Sp.rowOk r p)) ∧ Below w.heap.size w w' := by
  obtain ⟨o, d, c, a, q⟩ := r
  simp only [rowVal]
  have HP := Lib.hid hp
  clear hp
  have HK : Sp.keyOk o d = true ∨ Sp.keyOk o d = false := by cases Sp.keyOk o d <;> simp
  rcases HK with HK | HK
  all_goals
    go_enter Tryz.func127, Tryz.ntmps127
    go_wp2_with (first | (go_at_call 95; refine Calls.mono (keysCheck_any _ _ _) ?_; rintro e w1 ⟨rfl, hb⟩; obtain ⟨hc, hf, hz⟩ := bcell hb; have HP1 := Lib.hid (HP.out.grew (Grew.trans (alloc_grew _ _) hb))) | (go_at_call 133; refine Calls.mono (Party_any _ _ (Hid.out (by assumption))) ?_; rintro e w2 ⟨rfl, rfl⟩))
    all_goals
      go_ret
      refine ⟨ret_bool ?_, ?_⟩
      · clear HP
        rw [Bool.eq_iff_iff]
        (try simp only [bne_iff_ne, bne_eq_false_iff_eq, beq_iff_eq, beq_eq_false_iff_ne, ne_eq] at *)
        first
          | (simp [Sp.rowOk, HK]; done)
          | (simp [Sp.rowOk, *]; done)
          | (simp [Sp.rowOk, *]; omega)
          | (simp [Sp.rowOk, HK]; omega)
          | (simp_all [Sp.rowOk]; done)
          | (simp_all [Sp.rowOk]; omega)
      · first
          | exact alloc_grew _ _
          | exact Grew.trans (alloc_grew _ _) (by assumption)
end Go.Proofs.YtkgpnikmdmpfaaaGreatDoor

/-
  The walks of snaps.posting and orders.Put: regions that draw, with calls that make memory.
-/

set_option linter.unusedVariables false
set_option linter.unusedSimpArgs false
namespace Go.Proofs.YtkgpnikmdmpfaaaGreatDoor
open Go.RowKit

def u64 (n : Int) : Nat := (n % 18446744073709551616).toNat
theorem u64_wrap (n : Int) : IntKind.u64.wrap n = (u64 n : Int) := by rw [IntKind.wrap_u64, u64]; omega
theorem u64_le (n : Int) : (u64 n : Int) ≤ 18446744073709551615 := by unfold u64; omega
def postB (p : Sp.Posting) : Bytes := textB p.id ++ varB (u64 p.order) ++ varB (u64 p.debit) ++ varB (u64 p.credit) ++ varB (signN p.amount).toNat

theorem textB_len {s : Bytes} (h : s.length ≤ 4611686018427387904) : (textB s).length ≤ s.length + 10 := by
  have := varB_len64 (n := s.length) (by omega)
  simp [textB]; omega
theorem varB_wrap (n : Int) : (varB (IntKind.u64.wrap n).toNat).length ≤ 10 := by
  apply varB_len64
  rw [u64_wrap]
  have := u64_le n
  omega

theorem held5 {B b : Nat} {w w1 w2 : World} {c0 c1 c2 c3 c4 : Value}
    (h : w1.cell? ⟨b, 0, none⟩ = some c0 ∧ w1.cell? ⟨b, 1, none⟩ = some c1 ∧ w1.cell? ⟨b, 2, none⟩ = some c2 ∧ w1.cell? ⟨b, 3, none⟩ = some c3 ∧ w1.cell? ⟨b, 4, none⟩ = some c4 ∧ B ≤ w1.heap.size ∧ b < w1.heap.size ∧ Below B w w1)
    (hb : Below w1.heap.size w1 w2) :
    w2.cell? ⟨b, 0, none⟩ = some c0 ∧ w2.cell? ⟨b, 1, none⟩ = some c1 ∧ w2.cell? ⟨b, 2, none⟩ = some c2 ∧ w2.cell? ⟨b, 3, none⟩ = some c3 ∧ w2.cell? ⟨b, 4, none⟩ = some c4 ∧ B ≤ w2.heap.size ∧ b < w2.heap.size ∧ Below B w w2 := by
  obtain ⟨h0, h1, h2, h3, h4, h5, h6, h7⟩ := h
  have := hb.size
  refine ⟨?_, ?_, ?_, ?_, ?_, by omega, by omega, h7.trans (hb.mono h5)⟩
  all_goals (rw [hb.cell (by exact h6)]; assumption)
theorem held5_below {B b : Nat} {w w1 : World} {c0 c1 c2 c3 c4 : Value}
    (h : w1.cell? ⟨b, 0, none⟩ = some c0 ∧ w1.cell? ⟨b, 1, none⟩ = some c1 ∧ w1.cell? ⟨b, 2, none⟩ = some c2 ∧ w1.cell? ⟨b, 3, none⟩ = some c3 ∧ w1.cell? ⟨b, 4, none⟩ = some c4 ∧ B ≤ w1.heap.size ∧ b < w1.heap.size ∧ Below B w w1) : Below B w w1 := h.2.2.2.2.2.2.2
theorem held5_drew {B b : Nat} {w w1 : World} {c0 c1 c2 c3 c4 : Value}
    (h : w1.cell? ⟨b, 0, none⟩ = some c0 ∧ w1.cell? ⟨b, 1, none⟩ = some c1 ∧ w1.cell? ⟨b, 2, none⟩ = some c2 ∧ w1.cell? ⟨b, 3, none⟩ = some c3 ∧ w1.cell? ⟨b, 4, none⟩ = some c4 ∧ B ≤ w1.heap.size ∧ b < w1.heap.size ∧ Below B w w1) : w1.drew.cell? ⟨b, 0, none⟩ = some c0 ∧ w1.drew.cell? ⟨b, 1, none⟩ = some c1 ∧ w1.drew.cell? ⟨b, 2, none⟩ = some c2 ∧ w1.drew.cell? ⟨b, 3, none⟩ = some c3 ∧ w1.drew.cell? ⟨b, 4, none⟩ = some c4 ∧ B ≤ w1.drew.heap.size ∧ b < w1.drew.heap.size ∧ Below B w w1.drew :=
  ⟨h.1, h.2.1, h.2.2.1, h.2.2.2.1, h.2.2.2.2.1, h.2.2.2.2.2.1, h.2.2.2.2.2.2.1, h.2.2.2.2.2.2.2.drew⟩
theorem held5_alloc {w : World} {ty : TypeId} {c0 c1 c2 c3 c4 : Value} :
    (w.alloc (.cells #[c0, c1, c2, c3, c4] ty)).cell? ⟨w.heap.size, 0, none⟩ = some c0 ∧ (w.alloc (.cells #[c0, c1, c2, c3, c4] ty)).cell? ⟨w.heap.size, 1, none⟩ = some c1 ∧ (w.alloc (.cells #[c0, c1, c2, c3, c4] ty)).cell? ⟨w.heap.size, 2, none⟩ = some c2 ∧ (w.alloc (.cells #[c0, c1, c2, c3, c4] ty)).cell? ⟨w.heap.size, 3, none⟩ = some c3 ∧ (w.alloc (.cells #[c0, c1, c2, c3, c4] ty)).cell? ⟨w.heap.size, 4, none⟩ = some c4 ∧ w.heap.size ≤ (w.alloc (.cells #[c0, c1, c2, c3, c4] ty)).heap.size ∧ w.heap.size < (w.alloc (.cells #[c0, c1, c2, c3, c4] ty)).heap.size ∧ Below w.heap.size w (w.alloc (.cells #[c0, c1, c2, c3, c4] ty)) := by
  refine ⟨?_, ?_, ?_, ?_, ?_, by simp, by simp, alloc_grew _ _⟩ <;>
  · rw [cell_of_row _ _ _ _ _ (0, 0) (heap_alloc_new w _)]; rfl
theorem held5_new {w : World} {ty : TypeId} {c0 c1 c2 c3 c4 : Value} :
    (w.alloc (.cells #[c0, c1, c2, c3, c4] ty)).drew.cell? ⟨w.heap.size, 0, none⟩ = some c0 ∧ (w.alloc (.cells #[c0, c1, c2, c3, c4] ty)).drew.cell? ⟨w.heap.size, 1, none⟩ = some c1 ∧
    (w.alloc (.cells #[c0, c1, c2, c3, c4] ty)).drew.cell? ⟨w.heap.size, 2, none⟩ = some c2 ∧ (w.alloc (.cells #[c0, c1, c2, c3, c4] ty)).drew.cell? ⟨w.heap.size, 3, none⟩ = some c3 ∧
    (w.alloc (.cells #[c0, c1, c2, c3, c4] ty)).drew.cell? ⟨w.heap.size, 4, none⟩ = some c4 ∧ w.heap.size ≤ (w.alloc (.cells #[c0, c1, c2, c3, c4] ty)).drew.heap.size ∧
    w.heap.size < (w.alloc (.cells #[c0, c1, c2, c3, c4] ty)).drew.heap.size ∧ Below w.heap.size w (w.alloc (.cells #[c0, c1, c2, c3, c4] ty)).drew := by
  refine ⟨?_, ?_, ?_, ?_, ?_, by simp [World.drew], by simp [World.drew], Grew.drew (alloc_grew _ _)⟩ <;>
  · show (w.alloc _).cell? _ = _
    rw [cell_of_row _ _ _ _ _ (0, 0) (heap_alloc_new w _)]; rfl

set_option maxRecDepth 100000 in
set_option maxHeartbeats 4000000 in
theorem posting_any (p : Sp.Posting) (w : World) (hs : p.id.length ≤ 4611686018427387904) (ha : Sp.in64 p.amount = true) :
    Calls Tryz.prog 38 #[postVal p] w fun e w' => e = .returned (.string (str (postB p))) ∧ Below w.heap.size w w' := by
  obtain ⟨id, o, d, c, a⟩ := p
  simp only [postVal]
  simp only at hs ha
  have hsg : 0 ≤ signN a ∧ signN a ≤ 18446744073709551615 := by
    simp only [Sp.in64, Bool.and_eq_true, decide_eq_true_eq] at ha
    unfold signN; split <;> omega
  replace ha := Lib.hid ha
  replace hsg := Lib.hid hsg
  go_enter Tryz.func38, Tryz.ntmps38
  go_wp2
  have L0 := textB_len (s := id) (by omega)
  have L1 := varB_wrap o
  have L2 := varB_wrap d
  have L3 := varB_wrap c
  have L4 : (varB (signN a).toNat).length ≤ 10 := varB_len64 (by have := hsg.out; omega)
  have A1 : (9223372036854775807 < (textB id).length + (varB (IntKind.u64.wrap o).toNat).length) = False := eq_false (by omega)
  have A2 : (9223372036854775807 < (textB id).length + (varB (IntKind.u64.wrap o).toNat).length + (varB (IntKind.u64.wrap d).toNat).length) = False := eq_false (by omega)
  have A3 : (9223372036854775807 < (textB id).length + ((varB (IntKind.u64.wrap o).toNat).length + (varB (IntKind.u64.wrap d).toNat).length) + (varB (IntKind.u64.wrap c).toNat).length) = False := eq_false (by omega)
  have A4 : (9223372036854775807 < (textB id).length + ((varB (IntKind.u64.wrap o).toNat).length + ((varB (IntKind.u64.wrap d).toNat).length + (varB (IntKind.u64.wrap c).toNat).length)) + (varB (signN a).toNat).length) = False := eq_false (by omega)
  clear L0 L1 L2 L3 L4
  go_region_held3 (fun w' => w'.cell? ⟨w.heap.size, 0, none⟩ = some (.string (str id)) ∧ w'.cell? ⟨w.heap.size, 1, none⟩ = some (.int .i64 o) ∧ w'.cell? ⟨w.heap.size, 2, none⟩ = some (.int .i64 d) ∧ w'.cell? ⟨w.heap.size, 3, none⟩ = some (.int .i64 c) ∧ w'.cell? ⟨w.heap.size, 4, none⟩ = some (.int .i64 a) ∧ w.heap.size ≤ w'.heap.size ∧ w.heap.size < w'.heap.size ∧ Below w.heap.size w w')
    (first | exact held5 (by assumption) (by assumption) | exact held5_new | assumption)
    (first
      | (go_at_call 16; refine Calls.mono (Text_any _ _ (by omega)) ?_; rintro e w1 ⟨rfl, hb⟩)
      | (go_at_call 18; refine Calls.mono (Var_any _ _ (by first | (rw [u64_wrap]; omega) | exact hsg.out.1) (by first | (rw [u64_wrap]; exact u64_le _) | exact hsg.out.2)) ?_; rintro e w1 ⟨rfl, hb⟩)
      | (go_at_call 73; refine Calls.mono (Sign_any _ _ ha.out) ?_; rintro e w1 ⟨rfl, rfl⟩))
  go_wp2
  go_ret
  exact ⟨by simp [postB, u64_wrap, List.append_assoc], held5_below (by assumption)⟩

def orderB (o : Sp.Order) : Bytes := if Sp.orderCheck o = 0 then varB (u64 o.id) ++ textB o.ref ++ textB o.sku ++ varB (u64 o.qty) ++ varB (u64 o.amount) else []

set_option maxRecDepth 100000 in
set_option maxHeartbeats 4000000 in
theorem orderPut_any (x : Sp.Order) (w : World) (hs : x.ref.length ≤ 4611686018427387900) (hs2 : x.sku.length ≤ 4611686018427387900) :
    Calls Tryz.prog 17 #[orderVal x] w fun e w' => e = .returned (.string (str (orderB x))) ∧ Below w.heap.size w w' := by
  by_cases hk : Sp.orderCheck x = 0
  · have hB : orderB x = varB (u64 x.id) ++ textB x.ref ++ textB x.sku ++ varB (u64 x.qty) ++ varB (u64 x.amount) := by rw [orderB, if_pos hk]
    rw [hB]
    clear hB
    have hr16 : x.ref.length ≤ 16 ∧ x.sku.length ≤ 8 := by
      unfold Sp.orderCheck at hk
      split at hk
      · simp at hk
      · split at hk
        · simp at hk
        · rename_i h; omega
    obtain ⟨id, ref, sku, q, a⟩ := x
    simp only [orderVal]
    simp only at hs hs2 hr16
    replace hk := Lib.hid hk
    go_enter Tryz.func17, Tryz.ntmps17
    go_wp2_with (go_at_call 49; refine Calls.mono (orderCheck_any _ _ _ _ _ _ (by omega) (by omega)) ?_; rintro e w1 ⟨rfl, hb⟩; have hk2 := hk.out; obtain ⟨hc, hf, hz⟩ := bcell hb)
    have L0 := textB_len (s := ref) (by omega)
    have L5 := textB_len (s := sku) (by omega)
    have L1 := varB_wrap id
    have L2 := varB_wrap q
    have L3 := varB_wrap a
    have A1 : (9223372036854775807 < (varB (IntKind.u64.wrap id).toNat).length + (textB ref).length) = False := eq_false (by omega)
    have A2 : (9223372036854775807 < (varB (IntKind.u64.wrap id).toNat).length + (textB ref).length + (textB sku).length) = False := eq_false (by omega)
    have A3 : (9223372036854775807 < (varB (IntKind.u64.wrap id).toNat).length + ((textB ref).length + (textB sku).length) + (varB (IntKind.u64.wrap q).toNat).length) = False := eq_false (by omega)
    have A4 : (9223372036854775807 < (varB (IntKind.u64.wrap id).toNat).length + ((textB ref).length + ((textB sku).length + (varB (IntKind.u64.wrap q).toNat).length)) + (varB (IntKind.u64.wrap a).toNat).length) = False := eq_false (by omega)
    clear L0 L1 L2 L3 L5 hc hf hz
    have H0 := Lib.hid (held5_drew (held5 held5_alloc (by assumption)))
    go_region_held3 (fun w' => w'.cell? ⟨w.heap.size, 0, none⟩ = some (.int .i64 id) ∧ w'.cell? ⟨w.heap.size, 1, none⟩ = some (.string (str ref)) ∧ w'.cell? ⟨w.heap.size, 2, none⟩ = some (.string (str sku)) ∧ w'.cell? ⟨w.heap.size, 3, none⟩ = some (.int .i64 q) ∧ w'.cell? ⟨w.heap.size, 4, none⟩ = some (.int .i64 a) ∧ w.heap.size ≤ w'.heap.size ∧ w.heap.size < w'.heap.size ∧ Below w.heap.size w w')
      (first | exact held5 (by assumption) (by assumption) | exact H0.out | assumption)
      (first
        | (go_at_call 16; refine Calls.mono (Text_any _ _ (by omega)) ?_; rintro e w1 ⟨rfl, hb⟩)
        | (go_at_call 18; refine Calls.mono (Var_any _ _ (by rw [u64_wrap]; omega) (by rw [u64_wrap]; exact u64_le _)) ?_; rintro e w1 ⟨rfl, hb⟩))
    go_wp2
    go_ret
    exact ⟨by simp [u64_wrap, List.append_assoc], held5_below (by assumption)⟩
  · have hB : orderB x = [] := by rw [orderB, if_neg hk]
    rw [hB]
    clear hB
    obtain ⟨id, ref, sku, q, a⟩ := x
    simp only [orderVal]
    simp only at hs hs2
    have hk3 : (Sp.orderCheck ⟨id, ref, sku, q, a⟩ == 0) = false := by simpa using hk
    replace hk3 := Lib.hid hk3
    clear hk
    go_enter Tryz.func17, Tryz.ntmps17
    go_wp2_with (go_at_call 49; refine Calls.mono (orderCheck_any _ _ _ _ _ _ (by omega) (by omega)) ?_; rintro e w1 ⟨rfl, hb⟩; have hk2 := hk3.out; obtain ⟨hc, hf, hz⟩ := bcell hb)
    go_ret
    exact ⟨rfl, Grew.trans (alloc_grew _ _) (by assumption)⟩
end Go.Proofs.YtkgpnikmdmpfaaaGreatDoor

/-
  The walk of orders.Get.
-/

set_option linter.unusedVariables false
set_option linter.unusedSimpArgs false
namespace Go.Proofs.YtkgpnikmdmpfaaaGreatDoor
open Go.RowKit

/-- What orders.Get reads, with what is left and whether all was well. -/
def ordRead (s : Bytes) : Sp.Order × Bytes × Bool :=
  let a := rdMost 60 s true
  let b := rdText a.2.1 a.2.2
  let c := rdText b.2.1 b.2.2
  let d := rdMost 999 c.2.1 c.2.2
  let e := rdMost 1099511627776 d.2.1 d.2.2
  (⟨a.1, b.1, c.1, d.1, e.1⟩, e.2)
def ordGood (s : Bytes) : Bool := (ordRead s).2.2 && (ordRead s).2.1.isEmpty && decide (Sp.orderCheck (ordRead s).1 = 0)
def orderGet (s : Bytes) : Option Sp.Order := if ordGood s then some (ordRead s).1 else none
def orderZero : Sp.Order := ⟨0, [], [], 0, 0⟩
def orderGetRes (r : Option Sp.Order) : Value := .tuple #[orderVal (r.getD orderZero), .int .i64 (if r.isSome then 0 else 10)]

theorem below_rd {B p : Nat} {a w w1 : World} (h : Below B a w) (hg : w.grownBy w1 (some p)) (hB : B ≤ w.heap.size) (hp : B ≤ p) : Below B a w1 :=
  h.grown hg hB (fun k hk => by simp at hk; omega)

set_option maxRecDepth 100000 in
set_option maxHeartbeats 8000000 in
theorem orderGet_any (s : Bytes) (w : World) (hs : s.length ≤ 4611686018427387900) :
    Calls Tryz.prog 77 #[.string (str s)] w fun e w' => e = .returned (orderGetRes (orderGet s)) ∧ Below w.heap.size w w' := by
  have hR : ordRead s = ordRead s := rfl
  have hG : ordGood s = ordGood s := rfl
  conv at hR => lhs; unfold ordRead
  conv at hG => lhs; unfold ordGood
  rcases h1 : rdMost 60 s true with ⟨n1, s1, k1⟩
  have q1 : s1.length ≤ s.length := by have := rdMost_len 60 s true (by omega); rw [h1] at this; exact this.1
  rcases h2 : rdText s1 k1 with ⟨t2, s2, k2⟩
  have q2 : t2.length + s2.length ≤ s1.length := by have := rdText_len s1 k1; rw [h2] at this; exact this
  rcases h3 : rdText s2 k2 with ⟨t3, s3, k3⟩
  have q3 : t3.length + s3.length ≤ s2.length := by have := rdText_len s2 k2; rw [h3] at this; exact this
  rcases h4 : rdMost 999 s3 k3 with ⟨n4, s4, k4⟩
  have q4 : s4.length ≤ s3.length := by have := rdMost_len 999 s3 k3 (by omega); rw [h4] at this; exact this.1
  rcases h5 : rdMost 1099511627776 s4 k4 with ⟨n5, s5, k5⟩
  simp only [h1, h2, h3, h4, h5] at hR
  rw [← hR] at hG
  simp only at hG
  have hO : orderGet s = if ordGood s then some ⟨n1, t2, t3, n4, n5⟩ else none := by unfold orderGet; rw [← hR]
  rw [hO]
  clear hO hR
  replace h1 := Lib.hid h1
  replace h2 := Lib.hid h2
  replace h3 := Lib.hid h3
  replace h4 := Lib.hid h4
  replace h5 := Lib.hid h5
  generalize ordGood s = good at hG
  cases k5
  · simp only [Bool.false_and] at hG
    subst hG
    go_enter Tryz.func77, Tryz.ntmps77
    go_wp2_with (first
      | (go_at_call 111; refine Calls.mono (ordNum_any _ s4 k4 _ _ (by omega) (by omega) (by first | assumption | (simp [Rd, row?_alloc, objRow]; done)) (by omega)) ?_; rw [h5.out]; rintro e w1 ⟨rfl, hg, hrd⟩; obtain ⟨hc, hf, hr, hz, hlt⟩ := brd hg hrd; (try simp at hz); have hlt2 : w.heap.size < w1.heap.size := (by omega); have hB : Below w.heap.size w w1 := (below_rd (by first | assumption | (repeat (first | (with_reducible first | exact zR _ _ | exact zA _ _ | assumption | refine zL ?_ _ | refine zD ?_ | refine zN ?_ _) | ((with_reducible first | refine zC ?_ ?_ _ | refine zW ?_ ?_ _); rotate_left; focus (first | exact Nat.le_refl _ | (simp; done) | (simp; omega) | omega)) | with_reducible refine zT ?_ (by assumption)))) hg (by first | omega | (simp; done) | (simp; omega)) (by omega)); simp only)
      | (go_at_call 111; refine Calls.mono (ordNum_any _ s3 k3 _ _ (by omega) (by omega) (by first | assumption | (simp [Rd, row?_alloc, objRow]; done)) (by omega)) ?_; rw [h4.out]; rintro e w1 ⟨rfl, hg, hrd⟩; obtain ⟨hc, hf, hr, hz, hlt⟩ := brd hg hrd; (try simp at hz); have hlt2 : w.heap.size < w1.heap.size := (by omega); have hB : Below w.heap.size w w1 := (below_rd (by first | assumption | (repeat (first | (with_reducible first | exact zR _ _ | exact zA _ _ | assumption | refine zL ?_ _ | refine zD ?_ | refine zN ?_ _) | ((with_reducible first | refine zC ?_ ?_ _ | refine zW ?_ ?_ _); rotate_left; focus (first | exact Nat.le_refl _ | (simp; done) | (simp; omega) | omega)) | with_reducible refine zT ?_ (by assumption)))) hg (by first | omega | (simp; done) | (simp; omega)) (by omega)); simp only)
      | (go_at_call 112; refine Calls.mono (ordText_any _ s2 k2 _ (by assumption) (by omega)) ?_; rw [h3.out]; rintro e w1 ⟨rfl, hg, hrd⟩; obtain ⟨hc, hf, hr, hz, hlt⟩ := brd hg hrd; (try simp at hz); have hlt2 : w.heap.size < w1.heap.size := (by omega); have hB : Below w.heap.size w w1 := (below_rd (by first | assumption | (repeat (first | (with_reducible first | exact zR _ _ | exact zA _ _ | assumption | refine zL ?_ _ | refine zD ?_ | refine zN ?_ _) | ((with_reducible first | refine zC ?_ ?_ _ | refine zW ?_ ?_ _); rotate_left; focus (first | exact Nat.le_refl _ | (simp; done) | (simp; omega) | omega)) | with_reducible refine zT ?_ (by assumption)))) hg (by first | omega | (simp; done) | (simp; omega)) (by omega)); simp only)
      | (go_at_call 112; refine Calls.mono (ordText_any _ s1 k1 _ (by assumption) (by omega)) ?_; rw [h2.out]; rintro e w1 ⟨rfl, hg, hrd⟩; obtain ⟨hc, hf, hr, hz, hlt⟩ := brd hg hrd; (try simp at hz); have hlt2 : w.heap.size < w1.heap.size := (by omega); have hB : Below w.heap.size w w1 := (below_rd (by first | assumption | (repeat (first | (with_reducible first | exact zR _ _ | exact zA _ _ | assumption | refine zL ?_ _ | refine zD ?_ | refine zN ?_ _) | ((with_reducible first | refine zC ?_ ?_ _ | refine zW ?_ ?_ _); rotate_left; focus (first | exact Nat.le_refl _ | (simp; done) | (simp; omega) | omega)) | with_reducible refine zT ?_ (by assumption)))) hg (by first | omega | (simp; done) | (simp; omega)) (by omega)); simp only)
      | (go_at_call 111; refine Calls.mono (ordNum_any _ s true _ _ (by omega) (by omega) (by first | assumption | (simp [Rd, row?_alloc, objRow]; done)) (by omega)) ?_; rw [h1.out]; rintro e w1 ⟨rfl, hg, hrd⟩; obtain ⟨hc, hf, hr, hz, hlt⟩ := brd hg hrd; (try simp at hz); have hlt2 : w.heap.size < w1.heap.size := (by omega); have hB : Below w.heap.size w w1 := (below_rd (by first | assumption | (repeat (first | (with_reducible first | exact zR _ _ | exact zA _ _ | assumption | refine zL ?_ _ | refine zD ?_ | refine zN ?_ _) | ((with_reducible first | refine zC ?_ ?_ _ | refine zW ?_ ?_ _); rotate_left; focus (first | exact Nat.le_refl _ | (simp; done) | (simp; omega) | omega)) | with_reducible refine zT ?_ (by assumption)))) hg (by first | omega | (simp; done) | (simp; omega)) (by omega)); simp only))
    refine bodyPost_ret (v := orderGetRes none) ?_ rfl ⟨rfl, ?_⟩
    · simp [results, Tryz.results77, go_sem, orderGetRes, orderVal, orderZero, *]
    · (repeat (first | (with_reducible first | exact zR _ _ | exact zA _ _ | assumption | refine zL ?_ _ | refine zD ?_ | refine zN ?_ _) | ((with_reducible first | refine zC ?_ ?_ _ | refine zW ?_ ?_ _); rotate_left; focus (first | exact Nat.le_refl _ | (simp; done) | (simp; omega) | omega)) | with_reducible refine zT ?_ (by assumption)))
  · rcases List.eq_nil_or_concat s5 with rfl | hne
    · by_cases hK : Sp.orderCheck ⟨n1, t2, t3, n4, n5⟩ = 0
      · have hg2 : good = true := by rw [← hG]; simp [hK]
        subst hg2
        clear hG
        have HK := Lib.hid hK
        clear hK
        go_enter Tryz.func77, Tryz.ntmps77
        go_wp2_with (first
          | (go_at_call 49; refine Calls.mono (orderCheck_any n1 t2 t3 n4 n5 _ (by omega) (by omega)) ?_; rintro e w1 ⟨rfl, hb⟩; have hk2 := HK.out; obtain ⟨hc, hf, hr, hz⟩ := brow hb; (try simp at hz); have hlt2 : w.heap.size < w1.heap.size := (by omega); have hB : Below w.heap.size w w1 := (Grew.trans (by first | assumption | (repeat (first | (with_reducible first | exact zR _ _ | exact zA _ _ | assumption | refine zL ?_ _ | refine zD ?_ | refine zN ?_ _) | ((with_reducible first | refine zC ?_ ?_ _ | refine zW ?_ ?_ _); rotate_left; focus (first | exact Nat.le_refl _ | (simp; done) | (simp; omega) | omega)) | with_reducible refine zT ?_ (by assumption)))) hb))
          | (go_at_call 111; refine Calls.mono (ordNum_any _ s4 k4 _ _ (by omega) (by omega) (by first | assumption | (simp [Rd, row?_alloc, objRow]; done)) (by omega)) ?_; rw [h5.out]; rintro e w1 ⟨rfl, hg, hrd⟩; obtain ⟨hc, hf, hr, hz, hlt⟩ := brd hg hrd; (try simp at hz); have hlt2 : w.heap.size < w1.heap.size := (by omega); have hB : Below w.heap.size w w1 := (below_rd (by first | assumption | (repeat (first | (with_reducible first | exact zR _ _ | exact zA _ _ | assumption | refine zL ?_ _ | refine zD ?_ | refine zN ?_ _) | ((with_reducible first | refine zC ?_ ?_ _ | refine zW ?_ ?_ _); rotate_left; focus (first | exact Nat.le_refl _ | (simp; done) | (simp; omega) | omega)) | with_reducible refine zT ?_ (by assumption)))) hg (by first | omega | (simp; done) | (simp; omega)) (by omega)); simp only)
          | (go_at_call 111; refine Calls.mono (ordNum_any _ s3 k3 _ _ (by omega) (by omega) (by first | assumption | (simp [Rd, row?_alloc, objRow]; done)) (by omega)) ?_; rw [h4.out]; rintro e w1 ⟨rfl, hg, hrd⟩; obtain ⟨hc, hf, hr, hz, hlt⟩ := brd hg hrd; (try simp at hz); have hlt2 : w.heap.size < w1.heap.size := (by omega); have hB : Below w.heap.size w w1 := (below_rd (by first | assumption | (repeat (first | (with_reducible first | exact zR _ _ | exact zA _ _ | assumption | refine zL ?_ _ | refine zD ?_ | refine zN ?_ _) | ((with_reducible first | refine zC ?_ ?_ _ | refine zW ?_ ?_ _); rotate_left; focus (first | exact Nat.le_refl _ | (simp; done) | (simp; omega) | omega)) | with_reducible refine zT ?_ (by assumption)))) hg (by first | omega | (simp; done) | (simp; omega)) (by omega)); simp only)
          | (go_at_call 112; refine Calls.mono (ordText_any _ s2 k2 _ (by assumption) (by omega)) ?_; rw [h3.out]; rintro e w1 ⟨rfl, hg, hrd⟩; obtain ⟨hc, hf, hr, hz, hlt⟩ := brd hg hrd; (try simp at hz); have hlt2 : w.heap.size < w1.heap.size := (by omega); have hB : Below w.heap.size w w1 := (below_rd (by first | assumption | (repeat (first | (with_reducible first | exact zR _ _ | exact zA _ _ | assumption | refine zL ?_ _ | refine zD ?_ | refine zN ?_ _) | ((with_reducible first | refine zC ?_ ?_ _ | refine zW ?_ ?_ _); rotate_left; focus (first | exact Nat.le_refl _ | (simp; done) | (simp; omega) | omega)) | with_reducible refine zT ?_ (by assumption)))) hg (by first | omega | (simp; done) | (simp; omega)) (by omega)); simp only)
          | (go_at_call 112; refine Calls.mono (ordText_any _ s1 k1 _ (by assumption) (by omega)) ?_; rw [h2.out]; rintro e w1 ⟨rfl, hg, hrd⟩; obtain ⟨hc, hf, hr, hz, hlt⟩ := brd hg hrd; (try simp at hz); have hlt2 : w.heap.size < w1.heap.size := (by omega); have hB : Below w.heap.size w w1 := (below_rd (by first | assumption | (repeat (first | (with_reducible first | exact zR _ _ | exact zA _ _ | assumption | refine zL ?_ _ | refine zD ?_ | refine zN ?_ _) | ((with_reducible first | refine zC ?_ ?_ _ | refine zW ?_ ?_ _); rotate_left; focus (first | exact Nat.le_refl _ | (simp; done) | (simp; omega) | omega)) | with_reducible refine zT ?_ (by assumption)))) hg (by first | omega | (simp; done) | (simp; omega)) (by omega)); simp only)
          | (go_at_call 111; refine Calls.mono (ordNum_any _ s true _ _ (by omega) (by omega) (by first | assumption | (simp [Rd, row?_alloc, objRow]; done)) (by omega)) ?_; rw [h1.out]; rintro e w1 ⟨rfl, hg, hrd⟩; obtain ⟨hc, hf, hr, hz, hlt⟩ := brd hg hrd; (try simp at hz); have hlt2 : w.heap.size < w1.heap.size := (by omega); have hB : Below w.heap.size w w1 := (below_rd (by first | assumption | (repeat (first | (with_reducible first | exact zR _ _ | exact zA _ _ | assumption | refine zL ?_ _ | refine zD ?_ | refine zN ?_ _) | ((with_reducible first | refine zC ?_ ?_ _ | refine zW ?_ ?_ _); rotate_left; focus (first | exact Nat.le_refl _ | (simp; done) | (simp; omega) | omega)) | with_reducible refine zT ?_ (by assumption)))) hg (by first | omega | (simp; done) | (simp; omega)) (by omega)); simp only))
        refine bodyPost_ret (v := orderGetRes (some ⟨n1, t2, t3, n4, n5⟩)) ?_ rfl ⟨rfl, ?_⟩
        · simp [results, Tryz.results77, go_sem, orderGetRes, orderVal, orderZero, *]
        · (repeat (first | (with_reducible first | exact zR _ _ | exact zA _ _ | assumption | refine zL ?_ _ | refine zD ?_ | refine zN ?_ _) | ((with_reducible first | refine zC ?_ ?_ _ | refine zW ?_ ?_ _); rotate_left; focus (first | exact Nat.le_refl _ | (simp; done) | (simp; omega) | omega)) | with_reducible refine zT ?_ (by assumption)))
      · have hg2 : good = false := by rw [← hG]; simp [hK]
        subst hg2
        clear hG
        have hK' : (Sp.orderCheck ⟨n1, t2, t3, n4, n5⟩ == 0) = false := by simpa using hK
        have HK := Lib.hid hK'
        clear hK hK'
        go_enter Tryz.func77, Tryz.ntmps77
        go_wp2_with (first
          | (go_at_call 49; refine Calls.mono (orderCheck_any n1 t2 t3 n4 n5 _ (by omega) (by omega)) ?_; rintro e w1 ⟨rfl, hb⟩; have hk2 := HK.out; obtain ⟨hc, hf, hr, hz⟩ := brow hb; (try simp at hz); have hlt2 : w.heap.size < w1.heap.size := (by omega); have hB : Below w.heap.size w w1 := (Grew.trans (by first | assumption | (repeat (first | (with_reducible first | exact zR _ _ | exact zA _ _ | assumption | refine zL ?_ _ | refine zD ?_ | refine zN ?_ _) | ((with_reducible first | refine zC ?_ ?_ _ | refine zW ?_ ?_ _); rotate_left; focus (first | exact Nat.le_refl _ | (simp; done) | (simp; omega) | omega)) | with_reducible refine zT ?_ (by assumption)))) hb))
          | (go_at_call 111; refine Calls.mono (ordNum_any _ s4 k4 _ _ (by omega) (by omega) (by first | assumption | (simp [Rd, row?_alloc, objRow]; done)) (by omega)) ?_; rw [h5.out]; rintro e w1 ⟨rfl, hg, hrd⟩; obtain ⟨hc, hf, hr, hz, hlt⟩ := brd hg hrd; (try simp at hz); have hlt2 : w.heap.size < w1.heap.size := (by omega); have hB : Below w.heap.size w w1 := (below_rd (by first | assumption | (repeat (first | (with_reducible first | exact zR _ _ | exact zA _ _ | assumption | refine zL ?_ _ | refine zD ?_ | refine zN ?_ _) | ((with_reducible first | refine zC ?_ ?_ _ | refine zW ?_ ?_ _); rotate_left; focus (first | exact Nat.le_refl _ | (simp; done) | (simp; omega) | omega)) | with_reducible refine zT ?_ (by assumption)))) hg (by first | omega | (simp; done) | (simp; omega)) (by omega)); simp only)
          | (go_at_call 111; refine Calls.mono (ordNum_any _ s3 k3 _ _ (by omega) (by omega) (by first | assumption | (simp [Rd, row?_alloc, objRow]; done)) (by omega)) ?_; rw [h4.out]; rintro e w1 ⟨rfl, hg, hrd⟩; obtain ⟨hc, hf, hr, hz, hlt⟩ := brd hg hrd; (try simp at hz); have hlt2 : w.heap.size < w1.heap.size := (by omega); have hB : Below w.heap.size w w1 := (below_rd (by first | assumption | (repeat (first | (with_reducible first | exact zR _ _ | exact zA _ _ | assumption | refine zL ?_ _ | refine zD ?_ | refine zN ?_ _) | ((with_reducible first | refine zC ?_ ?_ _ | refine zW ?_ ?_ _); rotate_left; focus (first | exact Nat.le_refl _ | (simp; done) | (simp; omega) | omega)) | with_reducible refine zT ?_ (by assumption)))) hg (by first | omega | (simp; done) | (simp; omega)) (by omega)); simp only)
          | (go_at_call 112; refine Calls.mono (ordText_any _ s2 k2 _ (by assumption) (by omega)) ?_; rw [h3.out]; rintro e w1 ⟨rfl, hg, hrd⟩; obtain ⟨hc, hf, hr, hz, hlt⟩ := brd hg hrd; (try simp at hz); have hlt2 : w.heap.size < w1.heap.size := (by omega); have hB : Below w.heap.size w w1 := (below_rd (by first | assumption | (repeat (first | (with_reducible first | exact zR _ _ | exact zA _ _ | assumption | refine zL ?_ _ | refine zD ?_ | refine zN ?_ _) | ((with_reducible first | refine zC ?_ ?_ _ | refine zW ?_ ?_ _); rotate_left; focus (first | exact Nat.le_refl _ | (simp; done) | (simp; omega) | omega)) | with_reducible refine zT ?_ (by assumption)))) hg (by first | omega | (simp; done) | (simp; omega)) (by omega)); simp only)
          | (go_at_call 112; refine Calls.mono (ordText_any _ s1 k1 _ (by assumption) (by omega)) ?_; rw [h2.out]; rintro e w1 ⟨rfl, hg, hrd⟩; obtain ⟨hc, hf, hr, hz, hlt⟩ := brd hg hrd; (try simp at hz); have hlt2 : w.heap.size < w1.heap.size := (by omega); have hB : Below w.heap.size w w1 := (below_rd (by first | assumption | (repeat (first | (with_reducible first | exact zR _ _ | exact zA _ _ | assumption | refine zL ?_ _ | refine zD ?_ | refine zN ?_ _) | ((with_reducible first | refine zC ?_ ?_ _ | refine zW ?_ ?_ _); rotate_left; focus (first | exact Nat.le_refl _ | (simp; done) | (simp; omega) | omega)) | with_reducible refine zT ?_ (by assumption)))) hg (by first | omega | (simp; done) | (simp; omega)) (by omega)); simp only)
          | (go_at_call 111; refine Calls.mono (ordNum_any _ s true _ _ (by omega) (by omega) (by first | assumption | (simp [Rd, row?_alloc, objRow]; done)) (by omega)) ?_; rw [h1.out]; rintro e w1 ⟨rfl, hg, hrd⟩; obtain ⟨hc, hf, hr, hz, hlt⟩ := brd hg hrd; (try simp at hz); have hlt2 : w.heap.size < w1.heap.size := (by omega); have hB : Below w.heap.size w w1 := (below_rd (by first | assumption | (repeat (first | (with_reducible first | exact zR _ _ | exact zA _ _ | assumption | refine zL ?_ _ | refine zD ?_ | refine zN ?_ _) | ((with_reducible first | refine zC ?_ ?_ _ | refine zW ?_ ?_ _); rotate_left; focus (first | exact Nat.le_refl _ | (simp; done) | (simp; omega) | omega)) | with_reducible refine zT ?_ (by assumption)))) hg (by first | omega | (simp; done) | (simp; omega)) (by omega)); simp only))
        refine bodyPost_ret (v := orderGetRes none) ?_ rfl ⟨rfl, ?_⟩
        · simp [results, Tryz.results77, go_sem, orderGetRes, orderVal, orderZero, *]
        · (repeat (first | (with_reducible first | exact zR _ _ | exact zA _ _ | assumption | refine zL ?_ _ | refine zD ?_ | refine zN ?_ _) | ((with_reducible first | refine zC ?_ ?_ _ | refine zW ?_ ?_ _); rotate_left; focus (first | exact Nat.le_refl _ | (simp; done) | (simp; omega) | omega)) | with_reducible refine zT ?_ (by assumption)))
    · have hs5 : s5.isEmpty = false := by obtain ⟨a, b, h⟩ := hne; rw [h]; simp
      clear hne
      simp only [hs5, Bool.and_false, Bool.false_and] at hG
      subst hG
      have hs6 : (s5 == []) = false := by cases s5 <;> simp_all
      go_enter Tryz.func77, Tryz.ntmps77
      go_wp2_with (first
        | (go_at_call 111; refine Calls.mono (ordNum_any _ s4 k4 _ _ (by omega) (by omega) (by first | assumption | (simp [Rd, row?_alloc, objRow]; done)) (by omega)) ?_; rw [h5.out]; rintro e w1 ⟨rfl, hg, hrd⟩; obtain ⟨hc, hf, hr, hz, hlt⟩ := brd hg hrd; (try simp at hz); have hlt2 : w.heap.size < w1.heap.size := (by omega); have hB : Below w.heap.size w w1 := (below_rd (by first | assumption | (repeat (first | (with_reducible first | exact zR _ _ | exact zA _ _ | assumption | refine zL ?_ _ | refine zD ?_ | refine zN ?_ _) | ((with_reducible first | refine zC ?_ ?_ _ | refine zW ?_ ?_ _); rotate_left; focus (first | exact Nat.le_refl _ | (simp; done) | (simp; omega) | omega)) | with_reducible refine zT ?_ (by assumption)))) hg (by first | omega | (simp; done) | (simp; omega)) (by omega)); simp only)
        | (go_at_call 111; refine Calls.mono (ordNum_any _ s3 k3 _ _ (by omega) (by omega) (by first | assumption | (simp [Rd, row?_alloc, objRow]; done)) (by omega)) ?_; rw [h4.out]; rintro e w1 ⟨rfl, hg, hrd⟩; obtain ⟨hc, hf, hr, hz, hlt⟩ := brd hg hrd; (try simp at hz); have hlt2 : w.heap.size < w1.heap.size := (by omega); have hB : Below w.heap.size w w1 := (below_rd (by first | assumption | (repeat (first | (with_reducible first | exact zR _ _ | exact zA _ _ | assumption | refine zL ?_ _ | refine zD ?_ | refine zN ?_ _) | ((with_reducible first | refine zC ?_ ?_ _ | refine zW ?_ ?_ _); rotate_left; focus (first | exact Nat.le_refl _ | (simp; done) | (simp; omega) | omega)) | with_reducible refine zT ?_ (by assumption)))) hg (by first | omega | (simp; done) | (simp; omega)) (by omega)); simp only)
        | (go_at_call 112; refine Calls.mono (ordText_any _ s2 k2 _ (by assumption) (by omega)) ?_; rw [h3.out]; rintro e w1 ⟨rfl, hg, hrd⟩; obtain ⟨hc, hf, hr, hz, hlt⟩ := brd hg hrd; (try simp at hz); have hlt2 : w.heap.size < w1.heap.size := (by omega); have hB : Below w.heap.size w w1 := (below_rd (by first | assumption | (repeat (first | (with_reducible first | exact zR _ _ | exact zA _ _ | assumption | refine zL ?_ _ | refine zD ?_ | refine zN ?_ _) | ((with_reducible first | refine zC ?_ ?_ _ | refine zW ?_ ?_ _); rotate_left; focus (first | exact Nat.le_refl _ | (simp; done) | (simp; omega) | omega)) | with_reducible refine zT ?_ (by assumption)))) hg (by first | omega | (simp; done) | (simp; omega)) (by omega)); simp only)
        | (go_at_call 112; refine Calls.mono (ordText_any _ s1 k1 _ (by assumption) (by omega)) ?_; rw [h2.out]; rintro e w1 ⟨rfl, hg, hrd⟩; obtain ⟨hc, hf, hr, hz, hlt⟩ := brd hg hrd; (try simp at hz); have hlt2 : w.heap.size < w1.heap.size := (by omega); have hB : Below w.heap.size w w1 := (below_rd (by first | assumption | (repeat (first | (with_reducible first | exact zR _ _ | exact zA _ _ | assumption | refine zL ?_ _ | refine zD ?_ | refine zN ?_ _) | ((with_reducible first | refine zC ?_ ?_ _ | refine zW ?_ ?_ _); rotate_left; focus (first | exact Nat.le_refl _ | (simp; done) | (simp; omega) | omega)) | with_reducible refine zT ?_ (by assumption)))) hg (by first | omega | (simp; done) | (simp; omega)) (by omega)); simp only)
        | (go_at_call 111; refine Calls.mono (ordNum_any _ s true _ _ (by omega) (by omega) (by first | assumption | (simp [Rd, row?_alloc, objRow]; done)) (by omega)) ?_; rw [h1.out]; rintro e w1 ⟨rfl, hg, hrd⟩; obtain ⟨hc, hf, hr, hz, hlt⟩ := brd hg hrd; (try simp at hz); have hlt2 : w.heap.size < w1.heap.size := (by omega); have hB : Below w.heap.size w w1 := (below_rd (by first | assumption | (repeat (first | (with_reducible first | exact zR _ _ | exact zA _ _ | assumption | refine zL ?_ _ | refine zD ?_ | refine zN ?_ _) | ((with_reducible first | refine zC ?_ ?_ _ | refine zW ?_ ?_ _); rotate_left; focus (first | exact Nat.le_refl _ | (simp; done) | (simp; omega) | omega)) | with_reducible refine zT ?_ (by assumption)))) hg (by first | omega | (simp; done) | (simp; omega)) (by omega)); simp only))
      refine bodyPost_ret (v := orderGetRes none) ?_ rfl ⟨rfl, ?_⟩
      · simp [results, Tryz.results77, go_sem, orderGetRes, orderVal, orderZero, *]
      · (repeat (first | (with_reducible first | exact zR _ _ | exact zA _ _ | assumption | refine zL ?_ _ | refine zD ?_ | refine zN ?_ _) | ((with_reducible first | refine zC ?_ ?_ _ | refine zW ?_ ?_ _); rotate_left; focus (first | exact Nat.le_refl _ | (simp; done) | (simp; omega) | omega)) | with_reducible refine zT ?_ (by assumption)))
end Go.Proofs.YtkgpnikmdmpfaaaGreatDoor

/-
  A region that draws its order, taken one operation at a time: the laws as one closed check each.
  One operation, the last, that waits for all the others, may leave the condition S behind (a store to what the others load).
-/

set_option linter.unusedVariables false
set_option linter.unusedSimpArgs false
namespace Go.Proofs.YtkgpnikmdmpfaaaGreatDoor
open Go.RowKit

section
variable {P : Program} {ops : Array Oper} {Q : Exit → Act → World → Prop} {md : Region.Mode} {S : World → Prop} {n : Nat}
/-- Whatever order is picked from here on; S holds behind every operation but number n. -/
def wpAnyE (P : Program) (md : Region.Mode) (ops : Array Oper) (Q : Exit → Act → World → Prop) (S : World → Prop) (n : Nat) : Nat → Array Bool → Act → World → Prop
  | 0, listed, a, w => Region.ready md ops listed = [] ∧ Q .normal a w
  | fuel + 1, listed, a, w =>
    (Region.ready md ops listed = [] → Q .normal a w) ∧
    ∀ i ∈ Region.ready md ops listed, wpOp P ops Q i (fun a' w' => (i ≠ n → S w') ∧ wpAnyE P md ops Q S n fuel (listed.setIfInBounds i true) a' w') a w
theorem wpAny_of_E : ∀ (fuel : Nat) (listed : Array Bool) (a : Act) (w : World), wpAnyE P md ops Q S n fuel listed a w → wpAny P md ops Q fuel listed a w
  | 0, _, _, _, h => h
  | fuel + 1, _, _, _, h => ⟨h.1, fun i hi => wpOp_mono (fun a' w' h' => wpAny_of_E fuel _ a' w' h'.2) (h.2 i hi)⟩
theorem wpAnyE_first {i : Nat} {oi : Oper} {v : Value} (hi : ops[i]? = some oi) (hsel : ∀ (j : Nat) (o : Oper) cs b, ops[j]? = some o → o.op ≠ .select cs b)
    (hQ : ∀ c a w, Q (.panic c) (a.put oi.dst v) w → Q (.panic c) a w) (hn : ops.size ≤ n ∨ Region.waitsFor md ops n i = true) :
    ∀ (fuel : Nat) (listed : Array Bool) (a : Act) (w : World),
      (∀ j oj, ops[j]? = some oj → j ≠ i → listed.getD j true = false → (∀ e ∈ oj.after, Region.binds md e = true → e.on ≠ i) → oi.apart ops oj = true) →
      i ∈ Region.ready md ops listed → YieldsIf P ops S oi v a → S w →
      wpAnyE P md ops Q S n fuel (listed.setIfInBounds i true) (a.put oi.dst v) w → wpAnyE P md ops Q S n (fuel + 1) listed a w := by
  intro fuel
  induction fuel with
  | zero =>
    intro listed a w _ hr hy hS H
    refine ⟨fun h => (by rw [h] at hr; cases hr), fun j hj => ?_⟩
    by_cases hji : j = i
    · subst hji; exact hy.wpOp hi hS ⟨fun _ => hS, H⟩
    · have := ready_mono hj hji
      rw [H.1] at this
      cases this
  | succ fuel ih =>
    intro listed a w hfree hr hy hS H
    refine ⟨fun h => (by rw [h] at hr; cases hr), fun j hj => ?_⟩
    by_cases hji : j = i
    · subst hji; exact hy.wpOp hi hS ⟨fun _ => hS, H⟩
    · have h1 := H.2 j (ready_mono hj hji)
      obtain ⟨hjun, oj, hoj, hall⟩ := mem_ready.1 hj
      have hnot : ∀ e ∈ oj.after, Region.binds md e = true → e.on ≠ i := fun e he hb heq => by
        have h1 := hall e he hb
        have h0 := (mem_ready.1 hr).1
        rw [heq] at h1
        rcases Nat.lt_or_ge i listed.size with h' | h'
        · simp [h'] at h0 h1; rw [h0] at h1; cases h1
        · simp [Array.getElem?_eq_none h'] at h1
      have hjn : j ≠ n := by
        rintro rfl
        rcases hn with hn | hn
        · have := (Array.getElem?_eq_some_iff.1 hoj).1; omega
        · obtain ⟨oj', ho', e, he, hb, heq⟩ := Region.waitsFor_spec hn
          rw [hoj] at ho'
          cases ho'
          exact hnot e he hb heq
      have h2 := wpOp_putIf hoj (hfree j oj hoj hji hjun hnot) (fun cs b => hsel i oi cs b hi) (fun cs b => hsel j oj cs b hoj) hQ hy h1
      have hfree' : ∀ k ok, ops[k]? = some ok → k ≠ i → (listed.setIfInBounds j true).getD k true = false →
          (∀ e ∈ ok.after, Region.binds md e = true → e.on ≠ i) → oi.apart ops ok = true := fun k ok hk hki hun hno => by
        refine hfree k ok hk hki ?_ hno
        by_cases hjk : j = k
        · subst hjk; exact hjun
        · rw [getD_set_ne true hjk] at hun; exact hun
      refine wpOp_mono (fun a' w' h3 => ⟨h3.2.1, ih (listed.setIfInBounds j true) a' w' hfree' (ready_mono hr (Ne.symm hji)) h3.1 (h3.2.1 hjn) ?_⟩) h2
      rw [Array.setIfInBounds_comm _ _ hji]
      exact h3.2.2

theorem any_begin {id : Nat} {a : Act} {w : World} (n : Nat) (hm : P.follows .mixedOrders = true) (hS : S w.drew)
    (h : S w.drew → wpAnyE P .any ops Q S n ops.size (Array.replicate ops.size false) a w.drew) : (Code.region id ops true).wp P Q a w :=
  wp_region_any hm (wpAny_of_E _ _ _ _ (h hS))
def takeB (md : Region.Mode) (ops : Array Oper) (n : Nat) (listed : Array Bool) (i : Nat) : Bool :=
  Region.noSelect ops && Region.free md ops listed i && (Region.ready md ops listed).contains i && (ops[i]?).isSome && (decide (ops.size ≤ n) || Region.waitsFor md ops n i)
theorem any_take (i : Nat) {fuel : Nat} {listed : Array Bool} {a : Act} {w : World} (hc : takeB md ops n listed i = true) (hS : S w)
    (h : ∀ oi, ops[i]? = some oi → ∃ v, (∀ c a w, Q (.panic c) (a.put oi.dst v) w → Q (.panic c) a w) ∧ YieldsIf P ops S oi v a ∧
      wpAnyE P md ops Q S n fuel (listed.setIfInBounds i true) (a.put oi.dst v) w) : wpAnyE P md ops Q S n (fuel + 1) listed a w := by
  simp only [takeB, Bool.and_eq_true, Bool.or_eq_true, decide_eq_true_eq] at hc
  obtain ⟨⟨⟨⟨h1, h2⟩, h3⟩, h4⟩, h5⟩ := hc
  obtain ⟨oi, ho⟩ := Option.isSome_iff_exists.1 h4
  obtain ⟨v, hq, hy, hr⟩ := h oi ho
  exact wpAnyE_first ho (Region.noSelect_spec h1) hq h5 fuel listed a w (Region.free_spec ho h2) (by simpa using h3) hy hS hr
/-- The operations that are taken now, in order. -/
def Plan (l : List Nat) : Prop := l = l
theorem plan (l : List Nat) : Plan l := rfl
theorem Plan.tl {i : Nat} {l : List Nat} (_ : Plan (i :: l)) : Plan l := rfl
theorem tk {i : Nat} {is : List Nat} {oi : Oper} {fuel : Nat} {listed : Array Bool} {a : Act} {w : World} (_ : Plan (i :: is)) (v : Value) (ho : ops.toList[i]? = some oi) (hc : takeB md ops n listed i = true) (hS : S w)
    (hw : Region.wanted oi (yielded ops a.tmps) = true) (hq : ∀ c a w, Q (.panic c) (a.put oi.dst v) w → Q (.panic c) a w) (hy : ∀ w, S w → (execOp a.eval oi).run P w = .ok (.value v) w)
    (h : wpAnyE P md ops Q S n fuel (listed.setIfInBounds i true) (a.put oi.dst v) w) : wpAnyE P md ops Q S n (fuel + 1) listed a w :=
  any_take i hc hS (fun oj hj => by rw [← Array.getElem?_toList, ho] at hj; cases hj; exact ⟨v, hq, .inl ⟨hw, hy⟩, h⟩)
theorem tks {i : Nat} {is : List Nat} {oi : Oper} {fuel : Nat} {listed : Array Bool} {a : Act} {w : World} (_ : Plan (i :: is)) (ho : ops.toList[i]? = some oi) (hc : takeB md ops n listed i = true) (hS : S w)
    (hw : Region.wanted oi (yielded ops a.tmps) = false) (hq : ∀ c a w, Q (.panic c) (a.put oi.dst undef) w → Q (.panic c) a w)
    (h : wpAnyE P md ops Q S n fuel (listed.setIfInBounds i true) (a.put oi.dst undef) w) : wpAnyE P md ops Q S n (fuel + 1) listed a w :=
  any_take i hc hS (fun oj hj => by rw [← Array.getElem?_toList, ho] at hj; cases hj; exact ⟨undef, hq, .inr ⟨hw, rfl⟩, h⟩)
def onlyB (md : Region.Mode) (ops : Array Oper) (listed : Array Bool) (i : Nat) : Bool := (Region.ready md ops listed) == [i] && (ops[i]?).isSome
theorem any_step (i : Nat) {fuel : Nat} {listed : Array Bool} {a : Act} {w : World} (hc : onlyB md ops listed i = true)
    (h : ∀ oi, ops[i]? = some oi → ∀ K' : Act → World → Prop, Shut (∀ a w, (i ≠ n → S w) ∧ wpAnyE P md ops Q S n fuel (listed.setIfInBounds i true) a w → K' a w) →
      if Region.wanted oi (yielded ops a.tmps) = true then Oper.wp P oi a w K' Q else K' (a.put oi.dst undef) w) : wpAnyE P md ops Q S n (fuel + 1) listed a w := by
  simp only [onlyB, Bool.and_eq_true, beq_iff_eq] at hc
  obtain ⟨h1, h4⟩ := hc
  obtain ⟨oi, ho⟩ := Option.isSome_iff_exists.1 h4
  refine ⟨fun h => (by rw [h] at h1; cases h1), fun j hj => ?_⟩
  rw [h1] at hj
  simp only [List.mem_singleton] at hj
  subst hj
  unfold wpOp
  simp only [ho]
  have hh := h oi ho _ (fun a w k => k)
  split
  · rename_i hw; rw [if_pos hw] at hh; exact .inl hh
  · rename_i hw; rw [if_neg hw] at hh; exact hh
/-- The one operation that may come up now. -/
theorem any_only (i : Nat) {fuel : Nat} {listed : Array Bool} {a : Act} {w : World} (hc : onlyB md ops listed i = true)
    (h : ∀ oi, ops[i]? = some oi → ∀ K' : Act → World → Prop, Shut (∀ a w, S w → (S w → wpAnyE P md ops Q S n fuel (listed.setIfInBounds i true) a w) → K' a w) →
      if Region.wanted oi (yielded ops a.tmps) = true then Oper.wp P oi a w K' Q else K' (a.put oi.dst undef) w) : wpAnyE P md ops Q S n (fuel + 1) listed a w :=
  any_step i hc (fun oi ho K' hK => h oi ho K' (fun a w hS hr => hK a w ⟨fun _ => hS, hr hS⟩))
/-- The last one, that may leave S behind. -/
theorem any_last (i : Nat) {listed : Array Bool} {a : Act} {w : World} {fuel : Nat} (hc : (onlyB md ops listed i && (Region.ready md ops (listed.setIfInBounds i true)).isEmpty) = true) (hin : i = n)
    (h : ∀ oi, ops[i]? = some oi → ∀ K' : Act → World → Prop, Shut (∀ a w, Q .normal a w → K' a w) →
      if Region.wanted oi (yielded ops a.tmps) = true then Oper.wp P oi a w K' Q else K' (a.put oi.dst undef) w) : wpAnyE P md ops Q S n (fuel + 1) listed a w := by
  simp only [Bool.and_eq_true, List.isEmpty_iff] at hc
  refine any_step i hc.1 (fun oi ho K' hK => h oi ho K' (fun a w hq => hK a w ⟨fun hne => absurd hin hne, ?_⟩))
  cases fuel with
  | zero => exact ⟨hc.2, hq⟩
  | succ f => exact ⟨fun _ => hq, fun j hj => by rw [hc.2] at hj; cases hj⟩
theorem ao (i : Nat) {oi : Oper} {fuel : Nat} {listed : Array Bool} {a : Act} {w : World} (ho : ops.toList[i]? = some oi) (hc : onlyB md ops listed i = true) (hw : Region.wanted oi (yielded ops a.tmps) = true)
    (h : ∀ K' : Act → World → Prop, Shut (∀ a w, S w → (S w → wpAnyE P md ops Q S n fuel (listed.setIfInBounds i true) a w) → K' a w) → Oper.wp P oi a w K' Q) : wpAnyE P md ops Q S n (fuel + 1) listed a w :=
  any_only i hc (fun oj hj K' hK => by rw [← Array.getElem?_toList, ho] at hj; cases hj; rw [if_pos hw]; exact h K' hK)
theorem al (i : Nat) {oi : Oper} {listed : Array Bool} {a : Act} {w : World} {fuel : Nat} (ho : ops.toList[i]? = some oi) (hc : (onlyB md ops listed i && (Region.ready md ops (listed.setIfInBounds i true)).isEmpty) = true) (hin : i = n) (hw : Region.wanted oi (yielded ops a.tmps) = true)
    (h : ∀ K' : Act → World → Prop, Shut (∀ a w, Q .normal a w → K' a w) → Oper.wp P oi a w K' Q) : wpAnyE P md ops Q S n (fuel + 1) listed a w :=
  any_last i hc hin (fun oj hj K' hK => by rw [← Array.getElem?_toList, ho] at hj; cases hj; rw [if_pos hw]; exact h K' hK)
theorem any_done {listed : Array Bool} {a : Act} {w : World} {fuel : Nat} (hr : (Region.ready md ops listed).isEmpty = true) (h : Q .normal a w) : wpAnyE P md ops Q S n fuel listed a w := by
  have hr' := List.isEmpty_iff.1 hr
  cases fuel with
  | zero => exact ⟨hr', h⟩
  | succ f => exact ⟨fun _ => h, fun j hj => by rw [hr'] at hj; cases hj⟩
/-- From here on the world is known by these words alone. -/
theorem wp_world {c : Code} {a : Act} {w : World} (R : World → Prop) (h : R w) (k : ∀ w', R w' → c.wp P Q a w') : c.wp P Q a w := k w h
/-- append, by what it is known to yield. -/
theorem wp_append {o : Oper} {a : Act} {w w1 : World} {K : Act → World → Prop} (s x : Operand) {t u : TypeId} {v y v1 : Value} (ho : o.op = .call { callee := .builtin .append, args := #[s, x], argTypes := #[t, u] })
    (hs : a.eval s = v) (hx : a.eval x = y) (hr : (Builtin.append_ #[t, u] o.type #[v, y]).run P w = .ok v1 w1) (h : K (a.put o.dst v1) w1) : o.wp P a w K Q := by
  unfold Oper.wp execOp
  simp only [ho, resolve, invoke, builtin, Sem.run_bind, Sem.run_pure, Result.andThen_ok, List.map_toArray, List.map_cons, List.map_nil, hs, hx, hr]
  exact h
end
end Go.Proofs.YtkgpnikmdmpfaaaGreatDoor

/-
  What core.Of, snaps.Put and snaps.Get come to, as plain functions.
-/
import Derived.Test.YtkgpnikmdmpfaaaGreatDoorBackP6
import Derived.Test.YtkgpnikmdmpfaaaGreatDoorBackP18
import Derived.Test.YtkgpnikmdmpfaaaGreatDoorBackP1
import Derived.Shelf.Strconv.Itoa0
import Derived.Shelf.Strconv.Itoa1
import Derived.Shelf.LaysM
import Derived.Shelf.Strconv.Itoa2
import Derived.Shelf.Strconv.Itoa3
import Derived.Shelf.Strconv.Itoa4
import Derived.Test.YtkgpnikmdmpfaaaGreatDoorProg
import Derived.Test.YtkgpnikmdmpfaaaGreatDoorBackP13
import Derived.Laws.IdiomRangeMap
import Derived.Lib.AppendIntMem
import Derived.Lib.ItoaMem
import Derived.Maps.RangeRun
import Derived.Test.YtkgpnikmdmpfaaaGreatDoorBackP11
import Derived.Test.YtkgpnikmdmpfaaaGreatDoorBackP12
set_option linter.unusedVariables false
namespace Go.Proofs.YtkgpnikmdmpfaaaGreatDoor
open Go.RowKit

/-! snaps.Put -/
def sagaB (s : Sp.Saga) : Bytes := textB (orderB s.o) ++ varB (deedsN s).toNat
def newestB (s : Sp.Stmt) : Bytes := textB (if 0 < s.seq then stmtB s.party s.seq s.rows else [])
def coreB (C : Sp.Core) : Bytes :=
  varB C.l.length ++ C.l.flatMap sagaB ++ varB C.b.l.length ++ C.b.l.flatMap (fun p => textB (postB p)) ++ newestB C.i.s0 ++ newestB C.i.s1 ++ newestB C.i.s2
def putB (C : Sp.Core) : Bytes × Int := if (coreB C).length > 65536 then ([], 3) else (coreB C, 0)

/-! the reader's parts -/
structure Parts where
  sagas : List Sp.Saga
  posts : List Sp.Posting
  s0 : Sp.Stmt
  s1 : Sp.Stmt
  s2 : Sp.Stmt
def rdSagas : Nat → Int → Bytes → Bool → List Sp.Saga → List Sp.Saga × Bytes × Bool
  | 0, _, s, ok, acc => (acc, s, ok)
  | f + 1, n, s, ok, acc =>
    if ok = true ∧ 0 < n then
      let t := rdText s ok
      let k := rdNum t.2.1 t.2.2
      rdSagas f (n - 1) k.2.1 (k.2.2 && (orderGet t.1).isSome) (acc ++ [undeeds ((orderGet t.1).getD orderZero) k.1])
    else (acc, s, ok)
def rdPost (s : Bytes) (ok : Bool) : Sp.Posting × Bytes × Bool :=
  let t := rdText s ok
  let i := rdText t.1 t.2.2
  let a := rdNum i.2.1 i.2.2
  let b := rdNum a.2.1 a.2.2
  let c := rdNum b.2.1 b.2.2
  let d := rdNum c.2.1 c.2.2
  (⟨i.1, wrap64 a.1, wrap64 b.1, wrap64 c.1, backN d.1⟩, t.2.1, t.2.2 && d.2.2 && d.2.1.isEmpty)
def rdPosts : Nat → Int → Bytes → Bool → List Sp.Posting → List Sp.Posting × Bytes × Bool
  | 0, _, s, ok, acc => (acc, s, ok)
  | f + 1, n, s, ok, acc =>
    if ok = true ∧ 0 < n then
      let p := rdPost s ok
      rdPosts f (n - 1) p.2.1 p.2.2 (acc ++ [p.1])
    else (acc, s, ok)
def stmtOf (r : Int × Int × List Sp.Row) : Sp.Stmt := ⟨r.1, r.2.1, r.2.2⟩
def rdStmt (s : Bytes) (ok : Bool) : Sp.Stmt × Bytes × Bool :=
  let t := rdText s ok
  if t.1.isEmpty then (Sp.noStmt, t.2.1, t.2.2)
  else (stmtOf ((stmtGet t.1).getD (0, 0, [])), t.2.1, t.2.2 && (stmtGet t.1).isSome)
def rdParts (s : Bytes) : Parts × Bytes × Bool :=
  let n := rdNum s true
  let a := rdSagas (s.length + 1) n.1 n.2.1 n.2.2 []
  let m := rdNum a.2.1 a.2.2
  let b := rdPosts (s.length + 1) m.1 m.2.1 m.2.2 []
  let x := rdStmt b.2.1 b.2.2
  let y := rdStmt x.2.1 x.2.2
  let z := rdStmt y.2.1 y.2.2
  (⟨a.1, b.1, x.1, y.1, z.1⟩, z.2.1, z.2.2)

/-! core.Of -/
def ofSagas : List Sp.Saga → List Sp.Saga → Bool
  | _, [] => true
  | acc, s :: t => decide (s.o.id = acc.length + 1) && Sp.valid s && !Sp.hasRef acc s.o.ref && ofSagas (acc ++ [s]) t
def ofPosts : Sp.Books → List Sp.Posting → Option Sp.Books
  | b, [] => some b
  | b, p :: t => if (Sp.post b p).2 = 0 ∧ (Sp.post b p).1.l.length = b.l.length + 1 then ofPosts (Sp.post b p).1 t else none
def accept (i : Sp.Intake) (s : Sp.Stmt) : Option Sp.Intake × Int :=
  if stmtOk s.party s.seq s.rows = false then (none, 2)
  else if s.seq ≤ (Sp.newest i s.party).seq then (none, 93)
  else (some (Sp.setStmt i s), 0)
def ofStmt (i : Sp.Intake) (party : Int) (s : Sp.Stmt) : Option Sp.Intake :=
  if s.seq = 0 ∧ s.rows = [] ∧ s.party = 0 then some i
  else if s.party = party then (accept i s).1 else none
def ofStmts (i : Sp.Intake) (s0 s1 s2 : Sp.Stmt) : Option Sp.Intake :=
  match ofStmt i 0 s0 with
  | none => none
  | some i => match ofStmt i 1 s1 with
    | none => none
    | some i => ofStmt i 2 s2
def netAt (l : List Sp.Saga) (o : Nat) : Int := match l[o - 1]? with | some s => Sp.net s | none => 0
def balanced (C : Sp.Core) : Bool :=
  (List.range 60).all fun k => decide (C.b.bal 1 (k + 1 : Nat) = netAt C.l (k + 1) - Sp.inNet C.i (k + 1 : Nat)) && decide (C.b.bal 2 (k + 1 : Nat) = Sp.inNet C.i (k + 1 : Nat))
def coreOf (p : Parts) : Option Sp.Core :=
  if p.sagas.length > 60 then none
  else if ofSagas [] p.sagas = false then none
  else match ofPosts Sp.noBooks p.posts with
    | none => none
    | some b => match ofStmts Sp.noIntake p.s0 p.s1 p.s2 with
      | none => none
      | some i => if balanced ⟨p.sagas, b, i⟩ then some ⟨p.sagas, b, i⟩ else none
def snapGet (s : Bytes) : Option Sp.Core :=
  if s = [] then some Sp.noCore
  else
    let r := rdParts s
    if r.2.2 && r.2.1.isEmpty then
      match coreOf r.1 with
      | none => none
      | some C => if putB C = (s, 0) then some C else none
    else none
end Go.Proofs.YtkgpnikmdmpfaaaGreatDoor

/-
  What core.Apply comes to, as plain functions.
-/

set_option linter.unusedVariables false
namespace Go.Proofs.YtkgpnikmdmpfaaaGreatDoor
namespace Sp

structure Entry where
  kind : Int
  o : Order
  ko : Int
  kd : Int
  code : Int
  st : Stmt
def dec (n : Nat) : List UInt8 := if n < 10 then [UInt8.ofNat (48 + n)] else dec (n / 10) ++ [UInt8.ofNat (48 + n % 10)]
def word (d : Int) : List UInt8 :=
  if d = 0 then [114, 101, 115, 101, 114, 118, 101] else if d = 1 then [99, 104, 97, 114, 103, 101] else if d = 2 then [115, 104, 105, 112]
  else if d = 3 then [114, 101, 108, 101, 97, 115, 101] else if d = 4 then [114, 101, 102, 117, 110, 100] else if d = 5 then [118, 111, 105, 100] else []
def keyText (o d : Int) : List UInt8 := if keyOk o d then dec o.toNat ++ 45 :: word d else []
def stmtText (seq o : Nat) : List UInt8 := 115 :: (dec seq ++ 45 :: dec o)
def place (C : Core) (o : Order) : Core × Int :=
  if orderCheck o ≠ 0 then (C, orderCheck o) else if hasRef C.l o.ref then (C, 91) else if 60 ≤ C.l.length then (C, 60) else if o.id ≠ C.l.length + 1 then (C, 2)
  else (⟨C.l ++ [begin_ o], C.b, C.i⟩, 0)
/-- An order's saga; none: there is no such order. -/
def sagaAt (l : List Saga) (id : Int) : Option Saga := if 1 ≤ id then l[id.toNat - 1]? else none
def setAt (l : List Saga) (id : Int) (s : Saga) : List Saga := l.set (id.toNat - 1) s
def stopAt (C : Core) (id : Int) : Core × Int :=
  match sagaAt C.l id with
  | none => (C, 4)
  | some s => match stop s with
    | none => (C, 92)
    | some t => (⟨setAt C.l id t, C.b, C.i⟩, 0)
def netPost (b : Books) (ko kd : Int) (s t : Saga) : Books :=
  if net s < net t then (post b ⟨keyText ko kd, ko, 1, 0, net t - net s⟩).1
  else if net t < net s then (post b ⟨keyText ko kd, ko, 3, 1, net s - net t⟩).1
  else b
def replyAt (C : Core) (ko kd code : Int) : Core × Int :=
  match sagaAt C.l ko with
  | none => (C, 4)
  | some s => match reply s kd code with
    | none => (C, 92)
    | some t => (⟨setAt C.l ko t, netPost C.b ko kd s t, C.i⟩, 0)
def stmtPost (i j : Intake) (seq : Nat) (b : Books) (o : Nat) : Books :=
  if inNet i o < inNet j o then (post b ⟨stmtText seq o, o, 2, 1, inNet j o - inNet i o⟩).1
  else if inNet j o < inNet i o then (post b ⟨stmtText seq o, o, 1, 2, inNet i o - inNet j o⟩).1
  else b
/-- The postings of orders 1 to k. -/
def stmtPosts (i j : Intake) (seq : Nat) (b : Books) : Nat → Books
  | 0 => b
  | k + 1 => stmtPost i j seq (stmtPosts i j seq b k) (k + 1)
def statementAt (C : Core) (s : Stmt) : Core × Int :=
  match accept C.i s with
  | (none, n) => (C, n)
  | (some j, _) => (⟨C.l, stmtPosts C.i j s.seq.toNat C.b 60, j⟩, 0)
def apply (C : Core) (e : Entry) : Core × Int :=
  if e.kind = 1 then place C e.o else if e.kind = 2 then stopAt C e.ko else if e.kind = 3 then replyAt C e.ko e.kd e.code else if e.kind = 4 then statementAt C e.st else (C, 2)
def applyAll (C : Core) (l : List Entry) : Core := l.foldl (fun C e => (apply C e).1) C
end Sp
end Go.Proofs.YtkgpnikmdmpfaaaGreatDoor

/-
  Texts of postings; what a posting that is new does to books.
-/

set_option linter.unusedVariables false
set_option linter.unusedSimpArgs false
namespace Go.Proofs.YtkgpnikmdmpfaaaGreatDoor
namespace Sp
/-! ### numbers as digits -/
theorem dec_small {n : Nat} (h : n < 10) : dec n = [UInt8.ofNat (48 + n)] := by rw [dec, if_pos h]
theorem dec_great {n : Nat} (h : 10 ≤ n) : dec n = dec (n / 10) ++ [UInt8.ofNat (48 + n % 10)] := by rw [dec, if_neg (by omega)]
def decVal (l : List UInt8) : Nat := l.foldl (fun a b => a * 10 + (b.toNat - 48)) 0
theorem dig_toNat {k : Nat} (h : k < 10) : (UInt8.ofNat (48 + k)).toNat = 48 + k := by simp [UInt8.toNat_ofNat']; omega
theorem dec_facts (n : Nat) : decVal (dec n) = n ∧ (∀ b ∈ dec n, 48 ≤ b.toNat ∧ b.toNat ≤ 57) ∧ dec n ≠ [] := by
  induction n using Nat.strongRecOn with
  | _ n ih =>
    by_cases h : n < 10
    · rw [dec_small h]
      have := dig_toNat h
      refine ⟨by simp [decVal]; omega, fun b hb => ?_, by simp⟩
      simp only [List.mem_singleton] at hb
      subst hb
      omega
    · rw [dec_great (by omega)]
      have := dig_toNat (k := n % 10) (by omega)
      obtain ⟨h1, h2, h3⟩ := ih (n / 10) (by omega)
      refine ⟨?_, fun b hb => ?_, by simp⟩
      · unfold decVal at h1 ⊢
        rw [List.foldl_append, h1]
        simp only [List.foldl_cons, List.foldl_nil, this]
        omega
      · rcases List.mem_append.1 hb with hb | hb
        · exact h2 b hb
        · simp only [List.mem_singleton] at hb
          subst hb
          omega
theorem dec_inj {a b : Nat} (h : dec a = dec b) : a = b := by rw [← (dec_facts a).1, ← (dec_facts b).1, h]
theorem dec_len (k : Nat) : ∀ n, n < 10 ^ k → 1 ≤ k → (dec n).length ≤ k := by
  induction k with
  | zero => intro n _ h; omega
  | succ k ih =>
    intro n hn _
    by_cases h : n < 10
    · rw [dec_small h]; simp
    · rw [dec_great (by omega)]
      have h1 : n / 10 < 10 ^ k := by rw [Nat.pow_succ] at hn; omega
      have hk : 1 ≤ k := by
        rcases Nat.eq_zero_or_pos k with h0 | h0
        · subst h0; simp at h1; omega
        · exact h0
      have := ih (n / 10) h1 hk
      simp; omega
theorem no45 {n : Nat} : ∀ b ∈ dec n, b ≠ 45 := fun b hb e => by
  have := (dec_facts n).2.1 b hb
  rw [e] at this
  simp at this
theorem split45 : ∀ {a b x y : List UInt8}, (∀ c ∈ a, c ≠ 45) → (∀ c ∈ b, c ≠ 45) → a ++ 45 :: x = b ++ 45 :: y → a = b ∧ x = y
  | [], [], _, _, _, _, h => ⟨rfl, by simpa using h⟩
  | [], c :: b, _, _, _, hb, h => by
    simp only [List.nil_append, List.cons_append, List.cons.injEq] at h
    exact absurd h.1.symm (hb c (by simp))
  | c :: a, [], _, _, ha, _, h => by
    simp only [List.nil_append, List.cons_append, List.cons.injEq] at h
    exact absurd h.1 (ha c (by simp))
  | c :: a, d :: b, x, y, ha, hb, h => by
    simp only [List.cons_append, List.cons.injEq] at h
    obtain ⟨h1, h2⟩ := split45 (fun e he => ha e (by simp [he])) (fun e he => hb e (by simp [he])) h.2
    exact ⟨by rw [h.1, h1], h2⟩
theorem word_inj : ∀ d e : Int, 0 ≤ d → d ≤ 5 → 0 ≤ e → e ≤ 5 → word d = word e → d = e := by
  intro d e h1 h2 h3 h4 h
  have hd : d = 0 ∨ d = 1 ∨ d = 2 ∨ d = 3 ∨ d = 4 ∨ d = 5 := by omega
  have he : e = 0 ∨ e = 1 ∨ e = 2 ∨ e = 3 ∨ e = 4 ∨ e = 5 := by omega
  rcases hd with rfl | rfl | rfl | rfl | rfl | rfl <;> rcases he with rfl | rfl | rfl | rfl | rfl | rfl <;> first | rfl | (exact absurd h (by decide))
theorem stmtText_inj {q o r u : Nat} (h : stmtText q o = stmtText r u) : q = r ∧ o = u := by
  unfold stmtText at h
  simp only [List.cons.injEq, true_and] at h
  obtain ⟨h1, h2⟩ := split45 no45 no45 h
  exact ⟨dec_inj h1, dec_inj h2⟩
theorem keyText_eq {o d : Int} (h : keyOk o d = true) : keyText o d = dec o.toNat ++ 45 :: word d := by unfold keyText; rw [if_pos h]
theorem keyOk_in {o d : Int} (h : keyOk o d = true) : 1 ≤ o ∧ o ≤ 60 ∧ 0 ≤ d ∧ d ≤ 5 := by
  simp only [keyOk, isDeed, Bool.and_eq_true, decide_eq_true_eq] at h; omega
theorem keyOk_of {o d : Int} (h : 1 ≤ o ∧ o ≤ 60 ∧ 0 ≤ d ∧ d ≤ 5) : keyOk o d = true := by
  simp only [keyOk, isDeed, Bool.and_eq_true, decide_eq_true_eq]; omega
theorem keyText_inj {o d p e : Int} (h1 : keyOk o d = true) (h2 : keyOk p e = true) (h : keyText o d = keyText p e) : o = p ∧ d = e := by
  have a := keyOk_in h1
  have b := keyOk_in h2
  rw [keyText_eq h1, keyText_eq h2] at h
  obtain ⟨h3, h4⟩ := split45 no45 no45 h
  have := dec_inj h3
  exact ⟨by omega, word_inj d e a.2.2.1 a.2.2.2 b.2.2.1 b.2.2.2 h4⟩
theorem key_ne_stmt {o d : Int} {q u : Nat} (h1 : keyOk o d = true) : keyText o d ≠ stmtText q u := by
  rw [keyText_eq h1]
  intro h
  have hf := dec_facts o.toNat
  unfold stmtText at h
  cases hd : dec o.toNat with
  | nil => exact hf.2.2 hd
  | cons b l =>
    rw [hd] at h
    simp only [List.cons_append, List.cons.injEq] at h
    have := hf.2.1 b (by rw [hd]; simp)
    rw [h.1] at this
    simp at this
theorem keyText_len {o d : Int} (h : keyOk o d = true) : 1 ≤ (keyText o d).length ∧ (keyText o d).length ≤ 100 := by
  have a := keyOk_in h
  rw [keyText_eq h]
  have h1 := dec_len 2 o.toNat (by omega) (by omega)
  have hd : d = 0 ∨ d = 1 ∨ d = 2 ∨ d = 3 ∨ d = 4 ∨ d = 5 := by omega
  have h2 : (word d).length ≤ 7 := by rcases hd with rfl | rfl | rfl | rfl | rfl | rfl <;> decide
  simp only [List.length_append, List.length_cons]
  omega
theorem stmtText_len {q o : Nat} (hq : q ≤ 1073741824) (ho : o ≤ 60) : 1 ≤ (stmtText q o).length ∧ (stmtText q o).length ≤ 100 := by
  have h1 := dec_len 10 q (by omega) (by omega)
  have h2 := dec_len 2 o (by omega) (by omega)
  unfold stmtText
  simp only [List.length_append, List.length_cons]
  omega

/-! ### books -/
theorem moved_eq (b : Bal) (p : Posting) (h : p.debit ≠ p.credit) (ho : p.order ≠ 0) (x y : Int) :
    moved b p x y = if (y = 0 ∨ y = p.order) ∧ x = p.debit then b x y + p.amount else if (y = 0 ∨ y = p.order) ∧ x = p.credit then b x y - p.amount else b x y := by
  unfold moved mapAt
  simp only [show ¬ (2 = 0) from by omega, show ¬ (2 = 1) from by omega, if_false]
  unfold stepMap
  simp only [Prod.mk.injEq]
  by_cases h1 : x = p.debit
  · subst h1
    by_cases h2 : y = 0
    · subst h2
      have e1 : ¬ (p.debit = p.credit ∧ (0 : Int) = p.order) := fun e => ho e.2.symm
      have e2 : ¬ (p.debit = p.debit ∧ (0 : Int) = p.order) := fun e => ho e.2.symm
      have e3 : ¬ (p.debit = p.credit ∧ (0 : Int) = 0) := fun e => h e.1
      rw [if_neg e1, if_neg e2, if_neg e3, if_pos ⟨rfl, rfl⟩, if_pos ⟨.inl rfl, rfl⟩]
      rfl
    · by_cases h3 : y = p.order
      · subst h3
        rw [if_neg (fun e => h e.1), if_pos ⟨rfl, rfl⟩, if_pos ⟨.inr rfl, rfl⟩]
        rfl
      · rw [if_neg (fun e => h3 e.2), if_neg (fun e => h3 e.2), if_neg (fun e => h2 e.2), if_neg (fun e => h2 e.2), if_neg (fun e => e.1.elim h2 h3), if_neg (fun e => e.1.elim h2 h3)]
        rfl
  · rw [if_neg (c := (y = 0 ∨ y = p.order) ∧ x = p.debit) (fun e => h1 e.2)]
    by_cases h2 : x = p.credit
    · subst h2
      by_cases h3 : y = p.order
      · subst h3
        rw [if_pos ⟨rfl, rfl⟩, if_pos ⟨.inr rfl, rfl⟩]
        rfl
      · by_cases h4 : y = 0
        · subst h4
          rw [if_neg (fun e => h3 e.2), if_neg (fun e => h3 e.2), if_pos ⟨rfl, rfl⟩, if_pos ⟨.inl rfl, rfl⟩]
          rfl
        · rw [if_neg (fun e => h3 e.2), if_neg (fun e => h3 e.2), if_neg (fun e => h4 e.2), if_neg (fun e => h4 e.2), if_neg (fun e => e.1.elim h4 h3)]
          rfl
    · rw [if_neg (fun e => h2 e.1), if_neg (fun e => h1 e.1), if_neg (fun e => h2 e.1), if_neg (fun e => h1 e.1), if_neg (fun e => h2 e.2)]
      rfl
/-- All balances lie within so much. -/
def Within (b : Bal) (n : Nat) : Prop := ∀ x y, -((n : Int) * 2199023255552) ≤ b x y ∧ b x y ≤ (n : Int) * 2199023255552
theorem within_zero : Within noBooks.bal 0 := fun x y => by simp [noBooks]
theorem Within.mono {b : Bal} {n m : Nat} (h : Within b n) (hm : n ≤ m) : Within b m := fun x y => by have := h x y; omega
/-- A posting that is new. -/
structure NewPost (b : Books) (p : Posting) : Prop where
  ok : postOk p = true
  fresh : ∀ q ∈ b.l, q.id ≠ p.id
  small : p.amount ≤ 2199023255552
theorem postOk_in {p : Posting} (h : postOk p = true) : p.id ≠ [] ∧ 1 ≤ p.order ∧ (0 ≤ p.debit ∧ p.debit ≤ 4) ∧ (0 ≤ p.credit ∧ p.credit ≤ 4) ∧ p.debit ≠ p.credit ∧ 0 ≤ p.amount := by
  simp only [postOk, account, Bool.and_eq_true, decide_eq_true_eq] at h
  obtain ⟨⟨⟨⟨⟨h1, h2⟩, h3⟩, h4⟩, h5⟩, h6⟩ := h
  exact ⟨h1, h2, h3, h4, h5, h6⟩
theorem post_new {b : Books} {p : Posting} {n : Nat} (h : NewPost b p) (hw : Within b.bal n) (hn : n ≤ 1000000) : post b p = (⟨b.l ++ [p], moved b.bal p⟩, 0) ∧ Within (moved b.bal p) (n + 1) := by
  have hi := postOk_in h.ok
  have hs := h.small
  constructor
  · have hf : findPost b.l p.id = none := by
      unfold findPost
      rw [List.find?_eq_none]
      intro q hq
      simpa using h.fresh q hq
    have hm : movesOk b.bal p = true := by
      have w1 := hw p.debit 0
      have w2 := hw p.credit 0
      have w3 := hw p.debit p.order
      have w4 := hw p.credit p.order
      simp only [movesOk, stepOk, in64, Bool.and_eq_true, decide_eq_true_eq]
      omega
    unfold post
    rw [if_neg (by rw [h.ok]; simp), hf]
    simp only
    rw [if_neg (by rw [hm]; simp)]
  · intro x y
    have w := hw x y
    rw [moved_eq b.bal p hi.2.2.2.2.1 (by omega)]
    push_cast
    split
    · omega
    · split <;> omega
theorem ofPosts_snoc : ∀ (l : List Posting) (b : Books) (p : Posting), ofPosts b (l ++ [p]) = match ofPosts b l with | none => none | some c => if (post c p).2 = 0 ∧ (post c p).1.l.length = c.l.length + 1 then some (post c p).1 else none
  | [], b, p => by simp [ofPosts]
  | q :: l, b, p => by
    simp only [List.cons_append, ofPosts]
    split
    · exact ofPosts_snoc l _ p
    · rfl
end Sp
end Go.Proofs.YtkgpnikmdmpfaaaGreatDoor

/-
  DERIVED: THE SHELF's CONTRACTS AT THIS DUMP, IN PLAIN WORDS (tools/lay-plain.mjs out of 'TryzShelf.lean', which tools/lay-shelf.mjs wrote): THE SAME DECLARATIONS UNDER THE SAME NAMES: 'import', 'namespace', 'open', 'def', 'theorem' AND NOTHING ELSE: no command of the shelf's: FOR A HAND-IN. Each laying: the table of numbers ('.._ren') and one theorem, a field a fact of the dump's own or the kernel's comparison; each contract: ONE APPLICATION.
-/

namespace Go.Proofs
open Go.Shelf
def Tryz.lays129_ren : Go.Shelf.Ren := ⟨fun | 129 => 135 | n => n, fun | 53 => 53 | 3 => 3 | 4 => 4 | 46 => 102 | 5 => 5 | 9 => 9 | n => n, fun | n => n⟩
theorem Tryz.lays129 : Go.Proofs.Lays.n129 Tryz.prog Tryz.lays129_ren := {
  mixed := by kernel_rfl
  f129 := Tryz.func135.trans (congrArg some (by kernel_rfl))
  t3 := Tryz.underlying3
  a3 := Tryz.isAgg3
  z3 := Tryz.sizeOf3
  v3 := Tryz.zeroValue3
  t4 := Tryz.underlying4
  a4 := Tryz.isAgg4
  z4 := Tryz.sizeOf4
  v4 := Tryz.zeroValue4
  t5 := Tryz.underlying5
  a5 := Tryz.isAgg5
  z5 := Tryz.sizeOf5
  v5 := Tryz.zeroValue5
  t9 := Tryz.underlying9
  a9 := Tryz.isAgg9
  z9 := Tryz.sizeOf9
  v9 := Tryz.zeroValue9
  t46 := Tryz.underlying102
  a46 := Tryz.isAgg102
  z46 := Tryz.sizeOf102
  v46 := Tryz.zeroValue102
  t53 := Tryz.underlying53
  a53 := Tryz.isAgg53
  z53 := Tryz.sizeOf53
  v53 := Tryz.zeroValue53 }
/-- bits.Len64: "Len64 returns the minimum number of bits required to represent x; the result is 0 for x == 0.": IT RETURNS 'Lib.bitLen x'; the world is as it was. ('h0', 'h1': x is a uint64.) (LAID: no walk: one application.) -/
theorem Tryz.bits_Len64 (x : Int) (w : World) (h0 : 0 ≤ x) (h1 : x ≤ 18446744073709551615) :
    Calls Tryz.prog 135 #[.int .u64 x] w fun e w' => e = .returned (.int .i64 (Lib.bitLen x.toNat)) ∧ w' = w := Any.bits_Len64 Tryz.lays129 x w h0 h1
def Tryz.lays317_ren : Go.Shelf.Ren := ⟨fun | 317 => 134 | n => n, fun | 3 => 3 | 46 => 102 | n => n, fun | n => n⟩
theorem Tryz.lays317 : Go.Proofs.Lays.n317 Tryz.prog Tryz.lays317_ren := {
  mixed := by kernel_rfl
  f317 := Tryz.func134.trans (congrArg some (by kernel_rfl))
  t3 := Tryz.underlying3
  a3 := Tryz.isAgg3
  z3 := Tryz.sizeOf3
  v3 := Tryz.zeroValue3
  t46 := Tryz.underlying102
  a46 := Tryz.isAgg102
  z46 := Tryz.sizeOf102
  v46 := Tryz.zeroValue102 }
open Go.Lib in
/-- internal/strconv.log10Pow2: "log10Pow2(x) returns ⌊log₁₀ 2**x⌋ = ⌊x * log₁₀ 2⌋.": '(x * 78913) >> 18', at an x up to 64 (a length in bits). The world is as it was. (LAID: no walk: one application.) -/
theorem Tryz.internal_strconv_log10Pow2 (x : Nat) (h : x ≤ 64) (w : World) :
    Calls Tryz.prog 134 #[.int .i64 x] w fun e w' => e = .returned (.int .i64 (Lib.l10 x)) ∧ w' = w := Any.internal_strconv_log10Pow2 Tryz.lays317 x h w
def Tryz.lays318_ren : Go.Shelf.Ren := ⟨fun | 318 => 136 | n => n, fun | 3 => 3 | 4 => 4 | n => n, fun | n => n⟩
theorem Tryz.lays318 : Go.Proofs.Lays.n318 Tryz.prog Tryz.lays318_ren := {
  mixed := by kernel_rfl
  f318 := Tryz.func136.trans (congrArg some (by kernel_rfl))
  t3 := Tryz.underlying3
  a3 := Tryz.isAgg3
  z3 := Tryz.sizeOf3
  v3 := Tryz.zeroValue3
  t4 := Tryz.underlying4
  a4 := Tryz.isAgg4
  z4 := Tryz.sizeOf4
  v4 := Tryz.zeroValue4 }
open Go.Lib in
/-- internal/strconv.bool2: "bool2 converts b to an integer: 1 for true, 0 for false." The world is as it was. (LAID: no walk: one application.) -/
theorem Tryz.internal_strconv_bool2_int (b : Bool) (w : World) :
    Calls Tryz.prog 136 #[.bool b] w fun e w' => e = .returned (.int .i64 (if b then 1 else 0)) ∧ w' = w := Any.internal_strconv_bool2_int Tryz.lays318 b w
def Tryz.lays283_ren : Go.Shelf.Ren := ⟨fun | 283 => 129 | n => n, fun | 3 => 3 | 9 => 9 | 4 => 4 | n => n, fun | n => n⟩
theorem Tryz.lays283 : Go.Proofs.Lays.n283 Tryz.prog Tryz.lays283_ren := {
  mixed := by kernel_rfl
  f283 := Tryz.func129.trans (congrArg some (by kernel_rfl))
  t3 := Tryz.underlying3
  a3 := Tryz.isAgg3
  z3 := Tryz.sizeOf3
  v3 := Tryz.zeroValue3
  t4 := Tryz.underlying4
  a4 := Tryz.isAgg4
  z4 := Tryz.sizeOf4
  v4 := Tryz.zeroValue4
  t9 := Tryz.underlying9
  a9 := Tryz.isAgg9
  z9 := Tryz.sizeOf9
  v9 := Tryz.zeroValue9 }
open Go.Lib in
/-- internal/strconv.small: "small returns the string for an i with 0 <= i < nSmalls.": i's decimal numeral. The world is as it was. (LAID: no walk: one application.) -/
theorem Tryz.internal_strconv_small (i : Nat) (h : i < 100) (w : World) :
    Calls Tryz.prog 129 #[.int .i64 i] w fun e w' => e = .returned (.string ⟨(Lib.decDigits i).toArray⟩) ∧ w' = w := Any.internal_strconv_small Tryz.lays283 i h w
def Tryz.laysM284_ren : Go.Shelf.Ren := ⟨fun | 284 => 130 | 129 => 135 | 317 => 134 | 318 => 136 | n => n, fun | 53 => 53 | 3 => 3 | 212 => 194 | 0 => 0 | 4 => 4 | 46 => 102 | 5 => 5 | 9 => 9 | n => n, fun | 17 => 1 | n => n⟩
theorem Tryz.laysM284 : Go.Proofs.LaysM.n284 Tryz.prog Tryz.laysM284_ren := {
  mixed := by kernel_rfl
  f129 := Tryz.func135.trans (congrArg some (by kernel_rfl))
  f284 := Tryz.func130.trans (congrArg some (by kernel_rfl))
  f317 := Tryz.func134.trans (congrArg some (by kernel_rfl))
  f318 := Tryz.func136.trans (congrArg some (by kernel_rfl))
  t0 := Tryz.underlying0
  a0 := Tryz.isAgg0
  z0 := Tryz.sizeOf0
  v0 := Tryz.zeroValue0
  t3 := Tryz.underlying3
  a3 := Tryz.isAgg3
  z3 := Tryz.sizeOf3
  v3 := Tryz.zeroValue3
  t4 := Tryz.underlying4
  a4 := Tryz.isAgg4
  z4 := Tryz.sizeOf4
  v4 := Tryz.zeroValue4
  t5 := Tryz.underlying5
  a5 := Tryz.isAgg5
  z5 := Tryz.sizeOf5
  v5 := Tryz.zeroValue5
  t9 := Tryz.underlying9
  a9 := Tryz.isAgg9
  z9 := Tryz.sizeOf9
  v9 := Tryz.zeroValue9
  t46 := Tryz.underlying102
  a46 := Tryz.isAgg102
  z46 := Tryz.sizeOf102
  v46 := Tryz.zeroValue102
  t53 := Tryz.underlying53
  a53 := Tryz.isAgg53
  z53 := Tryz.sizeOf53
  v53 := Tryz.zeroValue53
  t212 := Tryz.underlying194
  a212 := Tryz.isAgg194
  z212 := Tryz.sizeOf194
  v212 := Tryz.zeroValue194
  g17 := by kernel_rfl
  i0 := by kernel_rfl
  i3 := by kernel_rfl
  i4 := by kernel_rfl
  i5 := by kernel_rfl
  i9 := by kernel_rfl
  i46 := by kernel_rfl
  i53 := by kernel_rfl
  i212 := by kernel_rfl
  m17 := by kernel_rfl }
open Go.Lib in
/-- internal/strconv.numDigits, at a d that is not 0: THE NUMBER OF d's DECIMAL DIGITS. The world is as it was. (LAID: no walk: one application.) -/
theorem Tryz.internal_strconv_numDigits (u : Nat) (h1 : 1 ≤ u) (h2 : u < 18446744073709551616) (w : World) (htab : Lib.TabIs Tryz.prog w "internal/strconv.uint64pow10" .u64 Lib.pow10Tab) :
    Calls Tryz.prog 130 #[.int .u64 u] w fun e w' => e = .returned (.int .i64 (Lib.nDigits u)) ∧ w' = w := Any.internal_strconv_numDigits Tryz.laysM284 u h1 h2 w htab
def Tryz.lays285_ren : Go.Shelf.Ren := ⟨fun | 285 => 131 | n => n, fun | 37 => 101 | 53 => 53 | 3 => 3 | 4 => 4 | 51 => 195 | 9 => 9 | 5 => 5 | 0 => 0 | n => n, fun | n => n⟩
theorem Tryz.lays285 : Go.Proofs.Lays.n285 Tryz.prog Tryz.lays285_ren := {
  mixed := by kernel_rfl
  f285 := Tryz.func131.trans (congrArg some (by kernel_rfl))
  t0 := Tryz.underlying0
  a0 := Tryz.isAgg0
  z0 := Tryz.sizeOf0
  v0 := Tryz.zeroValue0
  t3 := Tryz.underlying3
  a3 := Tryz.isAgg3
  z3 := Tryz.sizeOf3
  v3 := Tryz.zeroValue3
  t4 := Tryz.underlying4
  a4 := Tryz.isAgg4
  z4 := Tryz.sizeOf4
  v4 := Tryz.zeroValue4
  t5 := Tryz.underlying5
  a5 := Tryz.isAgg5
  z5 := Tryz.sizeOf5
  v5 := Tryz.zeroValue5
  t9 := Tryz.underlying9
  a9 := Tryz.isAgg9
  z9 := Tryz.sizeOf9
  v9 := Tryz.zeroValue9
  t37 := Tryz.underlying101
  a37 := Tryz.isAgg101
  z37 := Tryz.sizeOf101
  v37 := Tryz.zeroValue101
  t51 := Tryz.underlying195
  a51 := Tryz.isAgg195
  z51 := Tryz.sizeOf195
  v51 := Tryz.zeroValue195
  t53 := Tryz.underlying53
  a53 := Tryz.isAgg53
  z53 := Tryz.sizeOf53
  v53 := Tryz.zeroValue53 }
open Go.RowKit Go.Sort Go.Lib in
/-- internal/strconv.formatBase10: "formatBase10 formats the decimal representation of u into a. The caller is responsible for ensuring that a is big enough to hold u. If a is too big, leading zeros will be filled in as needed.": THE ROW HOLDS u's DIGITS ('FmtInv .. 0 ..': every place t holds 'dg u (len - 1 - t)'); all else is as it was but for the count of draws. (LAID: no walk: one application.) -/
theorem Tryz.internal_strconv_formatBase10 (blk off cap : Nat) (u : Nat) (d : Array UInt8) (w : World) (hH : Holds (fun (b : UInt8) => Value.int .u8 (b.toNat : Int)) w blk off d) (hu : u < 10 ^ d.size) (hu64 : u < 18446744073709551616) (hsz : d.size < 4611686018427387904) :
    Calls Tryz.prog 131 #[.slice (some ⟨blk, off, none⟩) d.size cap, .int .u64 u] w fun e w' =>
      e = .returned (.tuple #[]) ∧ ∃ (n v' : Nat) (dk : Array UInt8), w' = (putRow (fun (b : UInt8) => Value.int .u8 (b.toNat : Int)) w blk off dk).drewN n ∧ FmtInv d.size u 0 v' dk := Any.internal_strconv_formatBase10 Tryz.lays285 blk off cap u d w hH hu hu64 hsz
def Tryz.laysM246_ren : Go.Shelf.Ren := ⟨fun | 246 => 122 | 283 => 129 | 284 => 130 | 285 => 131 | 286 => 132 | 129 => 135 | 317 => 134 | 318 => 136 | 319 => 137 | 320 => 138 | 337 => 139 | 338 => 140 | n => n, fun | 2 => 2 | 3 => 3 | 9 => 9 | 4 => 4 | 171 => 188 | 0 => 0 | 53 => 53 | 37 => 101 | 5 => 5 | 173 => 191 | 212 => 194 | 51 => 195 | 20 => 20 | 213 => 196 | 46 => 102 | 232 => 199 | 233 => 200 | n => n, fun | 17 => 1 | 18 => 3 | 19 => 4 | n => n⟩
theorem Tryz.laysM246 : Go.Proofs.LaysM.n246 Tryz.prog Tryz.laysM246_ren := {
  mixed := by kernel_rfl
  f129 := Tryz.func135.trans (congrArg some (by kernel_rfl))
  f246 := Tryz.func122.trans (congrArg some (by kernel_rfl))
  f283 := Tryz.func129.trans (congrArg some (by kernel_rfl))
  f284 := Tryz.func130.trans (congrArg some (by kernel_rfl))
  f285 := Tryz.func131.trans (congrArg some (by kernel_rfl))
  f286 := Tryz.func132.trans (congrArg some (by kernel_rfl))
  f317 := Tryz.func134.trans (congrArg some (by kernel_rfl))
  f318 := Tryz.func136.trans (congrArg some (by kernel_rfl))
  f319 := Tryz.func137.trans (congrArg some (by kernel_rfl))
  f320 := Tryz.func138.trans (congrArg some (by kernel_rfl))
  f337 := Tryz.func139.trans (congrArg some (by kernel_rfl))
  f338 := Tryz.func140.trans (congrArg some (by kernel_rfl))
  t0 := Tryz.underlying0
  a0 := Tryz.isAgg0
  z0 := Tryz.sizeOf0
  v0 := Tryz.zeroValue0
  t2 := Tryz.underlying2
  a2 := Tryz.isAgg2
  z2 := Tryz.sizeOf2
  v2 := Tryz.zeroValue2
  t3 := Tryz.underlying3
  a3 := Tryz.isAgg3
  z3 := Tryz.sizeOf3
  v3 := Tryz.zeroValue3
  t4 := Tryz.underlying4
  a4 := Tryz.isAgg4
  z4 := Tryz.sizeOf4
  v4 := Tryz.zeroValue4
  t5 := Tryz.underlying5
  a5 := Tryz.isAgg5
  z5 := Tryz.sizeOf5
  v5 := Tryz.zeroValue5
  t9 := Tryz.underlying9
  a9 := Tryz.isAgg9
  z9 := Tryz.sizeOf9
  v9 := Tryz.zeroValue9
  t20 := Tryz.underlying20
  a20 := Tryz.isAgg20
  z20 := Tryz.sizeOf20
  v20 := Tryz.zeroValue20
  t37 := Tryz.underlying101
  a37 := Tryz.isAgg101
  z37 := Tryz.sizeOf101
  v37 := Tryz.zeroValue101
  t46 := Tryz.underlying102
  a46 := Tryz.isAgg102
  z46 := Tryz.sizeOf102
  v46 := Tryz.zeroValue102
  t51 := Tryz.underlying195
  a51 := Tryz.isAgg195
  z51 := Tryz.sizeOf195
  v51 := Tryz.zeroValue195
  t53 := Tryz.underlying53
  a53 := Tryz.isAgg53
  z53 := Tryz.sizeOf53
  v53 := Tryz.zeroValue53
  t171 := Tryz.underlying188
  a171 := Tryz.isAgg188
  z171 := Tryz.sizeOf188
  v171 := Tryz.zeroValue188
  t173 := Tryz.underlying191
  a173 := Tryz.isAgg191
  z173 := Tryz.sizeOf191
  v173 := Tryz.zeroValue191
  t212 := Tryz.underlying194
  a212 := Tryz.isAgg194
  z212 := Tryz.sizeOf194
  v212 := Tryz.zeroValue194
  t213 := Tryz.underlying196
  a213 := Tryz.isAgg196
  z213 := Tryz.sizeOf196
  t232 := Tryz.underlying199
  a232 := Tryz.isAgg199
  z232 := Tryz.sizeOf199
  v232 := Tryz.zeroValue199
  t233 := Tryz.underlying200
  a233 := Tryz.isAgg200
  z233 := Tryz.sizeOf200
  v233 := Tryz.zeroValue200
  g17 := by kernel_rfl
  g18 := by kernel_rfl
  g19 := by kernel_rfl
  i0 := by kernel_rfl
  i2 := by kernel_rfl
  i3 := by kernel_rfl
  i4 := by kernel_rfl
  i5 := by kernel_rfl
  i9 := by kernel_rfl
  i20 := by kernel_rfl
  i37 := by kernel_rfl
  i46 := by kernel_rfl
  i51 := by kernel_rfl
  i53 := by kernel_rfl
  i171 := by kernel_rfl
  i173 := by kernel_rfl
  i212 := by kernel_rfl
  i232 := by kernel_rfl
  i233 := by kernel_rfl
  m17 := by kernel_rfl
  m18 := by kernel_rfl
  m19 := by kernel_rfl }
open Go.RowKit Go.Sort Go.Lib in
/-- internal/strconv.FormatInt: "FormatInt returns the string representation of i in the given base": AT BASE 10: i's decimal numeral, for every int64. The world behind the call: the world before it, new blocks behind the heap, draws. (LAID: no walk: one application.) -/
theorem Tryz.internal_strconv_FormatInt_10 (n : Int) (h0 : -9223372036854775808 ≤ n) (h1 : n ≤ 9223372036854775807) (w : World) (htab : Lib.TabIs Tryz.prog w "internal/strconv.uint64pow10" .u64 Lib.pow10Tab) :
    Calls Tryz.prog 122 #[.int .i64 n, .int .i64 10] w fun e w' => e = .returned (.string ⟨(Lib.itoa n).toArray⟩) ∧ ∃ k os, w' = grow (w.drewN k) os := Any.internal_strconv_FormatInt_10 Tryz.laysM246 n h0 h1 w htab
def Tryz.lays246_ren : Go.Shelf.Ren := ⟨fun | 246 => 122 | 283 => 129 | 284 => 130 | 285 => 131 | 286 => 132 | 129 => 135 | 317 => 134 | 318 => 136 | 319 => 137 | 320 => 138 | 337 => 139 | 338 => 140 | n => n, fun | 2 => 2 | 3 => 3 | 9 => 9 | 4 => 4 | 171 => 188 | 0 => 0 | 53 => 53 | 37 => 101 | 5 => 5 | 173 => 191 | 212 => 194 | 51 => 195 | 20 => 20 | 213 => 196 | 46 => 102 | 232 => 199 | 233 => 200 | n => n, fun | 17 => 1 | 18 => 3 | 19 => 4 | n => n⟩
theorem Tryz.lays246 : Go.Proofs.Lays.n246 Tryz.prog Tryz.lays246_ren := {
  mixed := by kernel_rfl
  f129 := Tryz.func135.trans (congrArg some (by kernel_rfl))
  f246 := Tryz.func122.trans (congrArg some (by kernel_rfl))
  f283 := Tryz.func129.trans (congrArg some (by kernel_rfl))
  f284 := Tryz.func130.trans (congrArg some (by kernel_rfl))
  f285 := Tryz.func131.trans (congrArg some (by kernel_rfl))
  f286 := Tryz.func132.trans (congrArg some (by kernel_rfl))
  f317 := Tryz.func134.trans (congrArg some (by kernel_rfl))
  f318 := Tryz.func136.trans (congrArg some (by kernel_rfl))
  f319 := Tryz.func137.trans (congrArg some (by kernel_rfl))
  f320 := Tryz.func138.trans (congrArg some (by kernel_rfl))
  f337 := Tryz.func139.trans (congrArg some (by kernel_rfl))
  f338 := Tryz.func140.trans (congrArg some (by kernel_rfl))
  t0 := Tryz.underlying0
  a0 := Tryz.isAgg0
  z0 := Tryz.sizeOf0
  v0 := Tryz.zeroValue0
  t2 := Tryz.underlying2
  a2 := Tryz.isAgg2
  z2 := Tryz.sizeOf2
  v2 := Tryz.zeroValue2
  t3 := Tryz.underlying3
  a3 := Tryz.isAgg3
  z3 := Tryz.sizeOf3
  v3 := Tryz.zeroValue3
  t4 := Tryz.underlying4
  a4 := Tryz.isAgg4
  z4 := Tryz.sizeOf4
  v4 := Tryz.zeroValue4
  t5 := Tryz.underlying5
  a5 := Tryz.isAgg5
  z5 := Tryz.sizeOf5
  v5 := Tryz.zeroValue5
  t9 := Tryz.underlying9
  a9 := Tryz.isAgg9
  z9 := Tryz.sizeOf9
  v9 := Tryz.zeroValue9
  t20 := Tryz.underlying20
  a20 := Tryz.isAgg20
  z20 := Tryz.sizeOf20
  v20 := Tryz.zeroValue20
  t37 := Tryz.underlying101
  a37 := Tryz.isAgg101
  z37 := Tryz.sizeOf101
  v37 := Tryz.zeroValue101
  t46 := Tryz.underlying102
  a46 := Tryz.isAgg102
  z46 := Tryz.sizeOf102
  v46 := Tryz.zeroValue102
  t51 := Tryz.underlying195
  a51 := Tryz.isAgg195
  z51 := Tryz.sizeOf195
  v51 := Tryz.zeroValue195
  t53 := Tryz.underlying53
  a53 := Tryz.isAgg53
  z53 := Tryz.sizeOf53
  v53 := Tryz.zeroValue53
  t171 := Tryz.underlying188
  a171 := Tryz.isAgg188
  z171 := Tryz.sizeOf188
  v171 := Tryz.zeroValue188
  t173 := Tryz.underlying191
  a173 := Tryz.isAgg191
  z173 := Tryz.sizeOf191
  v173 := Tryz.zeroValue191
  t212 := Tryz.underlying194
  a212 := Tryz.isAgg194
  z212 := Tryz.sizeOf194
  v212 := Tryz.zeroValue194
  t213 := Tryz.underlying196
  a213 := Tryz.isAgg196
  z213 := Tryz.sizeOf196
  t232 := Tryz.underlying199
  a232 := Tryz.isAgg199
  z232 := Tryz.sizeOf199
  v232 := Tryz.zeroValue199
  t233 := Tryz.underlying200
  a233 := Tryz.isAgg200
  z233 := Tryz.sizeOf200
  v233 := Tryz.zeroValue200
  g17 := by kernel_rfl
  g18 := by kernel_rfl
  g19 := by kernel_rfl }
open Go.RowKit Go.Sort Go.Lib in
/-- THE ROAD WITHOUT THE TABLE: 0 <= i < 100: two constants are read, nothing is laid: no premise on the world, and the world is as it was. (LAID: no walk: one application.) -/
theorem Tryz.internal_strconv_FormatInt_10_small (i : Nat) (hi : i < 100) (w : World) :
    Calls Tryz.prog 122 #[.int .i64 i, .int .i64 10] w fun e w' => e = .returned (.string ⟨(Lib.decDigits i).toArray⟩) ∧ w' = w := Any.internal_strconv_FormatInt_10_small Tryz.lays246 i hi w
def Tryz.laysM243_ren : Go.Shelf.Ren := ⟨fun | 243 => 98 | 246 => 122 | 283 => 129 | 284 => 130 | 285 => 131 | 286 => 132 | 129 => 135 | 317 => 134 | 318 => 136 | 319 => 137 | 320 => 138 | 337 => 139 | 338 => 140 | n => n, fun | 3 => 3 | 9 => 9 | 2 => 2 | 4 => 4 | 171 => 188 | 0 => 0 | 53 => 53 | 37 => 101 | 5 => 5 | 173 => 191 | 212 => 194 | 51 => 195 | 20 => 20 | 213 => 196 | 46 => 102 | 232 => 199 | 233 => 200 | n => n, fun | 17 => 1 | 18 => 3 | 19 => 4 | n => n⟩
theorem Tryz.laysM243 : Go.Proofs.LaysM.n243 Tryz.prog Tryz.laysM243_ren := {
  mixed := by kernel_rfl
  f129 := Tryz.func135.trans (congrArg some (by kernel_rfl))
  f243 := Tryz.func98.trans (congrArg some (by kernel_rfl))
  f246 := Tryz.func122.trans (congrArg some (by kernel_rfl))
  f283 := Tryz.func129.trans (congrArg some (by kernel_rfl))
  f284 := Tryz.func130.trans (congrArg some (by kernel_rfl))
  f285 := Tryz.func131.trans (congrArg some (by kernel_rfl))
  f286 := Tryz.func132.trans (congrArg some (by kernel_rfl))
  f317 := Tryz.func134.trans (congrArg some (by kernel_rfl))
  f318 := Tryz.func136.trans (congrArg some (by kernel_rfl))
  f319 := Tryz.func137.trans (congrArg some (by kernel_rfl))
  f320 := Tryz.func138.trans (congrArg some (by kernel_rfl))
  f337 := Tryz.func139.trans (congrArg some (by kernel_rfl))
  f338 := Tryz.func140.trans (congrArg some (by kernel_rfl))
  t0 := Tryz.underlying0
  a0 := Tryz.isAgg0
  z0 := Tryz.sizeOf0
  v0 := Tryz.zeroValue0
  t2 := Tryz.underlying2
  a2 := Tryz.isAgg2
  z2 := Tryz.sizeOf2
  v2 := Tryz.zeroValue2
  t3 := Tryz.underlying3
  a3 := Tryz.isAgg3
  z3 := Tryz.sizeOf3
  v3 := Tryz.zeroValue3
  t4 := Tryz.underlying4
  a4 := Tryz.isAgg4
  z4 := Tryz.sizeOf4
  v4 := Tryz.zeroValue4
  t5 := Tryz.underlying5
  a5 := Tryz.isAgg5
  z5 := Tryz.sizeOf5
  v5 := Tryz.zeroValue5
  t9 := Tryz.underlying9
  a9 := Tryz.isAgg9
  z9 := Tryz.sizeOf9
  v9 := Tryz.zeroValue9
  t20 := Tryz.underlying20
  a20 := Tryz.isAgg20
  z20 := Tryz.sizeOf20
  v20 := Tryz.zeroValue20
  t37 := Tryz.underlying101
  a37 := Tryz.isAgg101
  z37 := Tryz.sizeOf101
  v37 := Tryz.zeroValue101
  t46 := Tryz.underlying102
  a46 := Tryz.isAgg102
  z46 := Tryz.sizeOf102
  v46 := Tryz.zeroValue102
  t51 := Tryz.underlying195
  a51 := Tryz.isAgg195
  z51 := Tryz.sizeOf195
  v51 := Tryz.zeroValue195
  t53 := Tryz.underlying53
  a53 := Tryz.isAgg53
  z53 := Tryz.sizeOf53
  v53 := Tryz.zeroValue53
  t171 := Tryz.underlying188
  a171 := Tryz.isAgg188
  z171 := Tryz.sizeOf188
  v171 := Tryz.zeroValue188
  t173 := Tryz.underlying191
  a173 := Tryz.isAgg191
  z173 := Tryz.sizeOf191
  v173 := Tryz.zeroValue191
  t212 := Tryz.underlying194
  a212 := Tryz.isAgg194
  z212 := Tryz.sizeOf194
  v212 := Tryz.zeroValue194
  t213 := Tryz.underlying196
  a213 := Tryz.isAgg196
  z213 := Tryz.sizeOf196
  t232 := Tryz.underlying199
  a232 := Tryz.isAgg199
  z232 := Tryz.sizeOf199
  v232 := Tryz.zeroValue199
  t233 := Tryz.underlying200
  a233 := Tryz.isAgg200
  z233 := Tryz.sizeOf200
  v233 := Tryz.zeroValue200
  g17 := by kernel_rfl
  g18 := by kernel_rfl
  g19 := by kernel_rfl
  i0 := by kernel_rfl
  i2 := by kernel_rfl
  i3 := by kernel_rfl
  i4 := by kernel_rfl
  i5 := by kernel_rfl
  i9 := by kernel_rfl
  i20 := by kernel_rfl
  i37 := by kernel_rfl
  i46 := by kernel_rfl
  i51 := by kernel_rfl
  i53 := by kernel_rfl
  i171 := by kernel_rfl
  i173 := by kernel_rfl
  i212 := by kernel_rfl
  i232 := by kernel_rfl
  i233 := by kernel_rfl
  m17 := by kernel_rfl
  m18 := by kernel_rfl
  m19 := by kernel_rfl }
open Go.RowKit Go.Sort Go.Lib in
/-- internal/strconv.Itoa: "Itoa is equivalent to FormatInt(int64(i), 10).": i's decimal numeral, for every int. (LAID: no walk: one application.) -/
theorem Tryz.internal_strconv_Itoa (n : Int) (h0 : -9223372036854775808 ≤ n) (h1 : n ≤ 9223372036854775807) (w : World) (htab : Lib.TabIs Tryz.prog w "internal/strconv.uint64pow10" .u64 Lib.pow10Tab) :
    Calls Tryz.prog 98 #[.int .i64 n] w fun e w' => e = .returned (.string ⟨(Lib.itoa n).toArray⟩) ∧ ∃ k os, w' = grow (w.drewN k) os := Any.internal_strconv_Itoa Tryz.laysM243 n h0 h1 w htab
def Tryz.lays243_ren : Go.Shelf.Ren := ⟨fun | 243 => 98 | 246 => 122 | 283 => 129 | 284 => 130 | 285 => 131 | 286 => 132 | 129 => 135 | 317 => 134 | 318 => 136 | 319 => 137 | 320 => 138 | 337 => 139 | 338 => 140 | n => n, fun | 3 => 3 | 9 => 9 | 2 => 2 | 4 => 4 | 171 => 188 | 0 => 0 | 53 => 53 | 37 => 101 | 5 => 5 | 173 => 191 | 212 => 194 | 51 => 195 | 20 => 20 | 213 => 196 | 46 => 102 | 232 => 199 | 233 => 200 | n => n, fun | 17 => 1 | 18 => 3 | 19 => 4 | n => n⟩
theorem Tryz.lays243 : Go.Proofs.Lays.n243 Tryz.prog Tryz.lays243_ren := {
  mixed := by kernel_rfl
  f129 := Tryz.func135.trans (congrArg some (by kernel_rfl))
  f243 := Tryz.func98.trans (congrArg some (by kernel_rfl))
  f246 := Tryz.func122.trans (congrArg some (by kernel_rfl))
  f283 := Tryz.func129.trans (congrArg some (by kernel_rfl))
  f284 := Tryz.func130.trans (congrArg some (by kernel_rfl))
  f285 := Tryz.func131.trans (congrArg some (by kernel_rfl))
  f286 := Tryz.func132.trans (congrArg some (by kernel_rfl))
  f317 := Tryz.func134.trans (congrArg some (by kernel_rfl))
  f318 := Tryz.func136.trans (congrArg some (by kernel_rfl))
  f319 := Tryz.func137.trans (congrArg some (by kernel_rfl))
  f320 := Tryz.func138.trans (congrArg some (by kernel_rfl))
  f337 := Tryz.func139.trans (congrArg some (by kernel_rfl))
  f338 := Tryz.func140.trans (congrArg some (by kernel_rfl))
  t0 := Tryz.underlying0
  a0 := Tryz.isAgg0
  z0 := Tryz.sizeOf0
  v0 := Tryz.zeroValue0
  t2 := Tryz.underlying2
  a2 := Tryz.isAgg2
  z2 := Tryz.sizeOf2
  v2 := Tryz.zeroValue2
  t3 := Tryz.underlying3
  a3 := Tryz.isAgg3
  z3 := Tryz.sizeOf3
  v3 := Tryz.zeroValue3
  t4 := Tryz.underlying4
  a4 := Tryz.isAgg4
  z4 := Tryz.sizeOf4
  v4 := Tryz.zeroValue4
  t5 := Tryz.underlying5
  a5 := Tryz.isAgg5
  z5 := Tryz.sizeOf5
  v5 := Tryz.zeroValue5
  t9 := Tryz.underlying9
  a9 := Tryz.isAgg9
  z9 := Tryz.sizeOf9
  v9 := Tryz.zeroValue9
  t20 := Tryz.underlying20
  a20 := Tryz.isAgg20
  z20 := Tryz.sizeOf20
  v20 := Tryz.zeroValue20
  t37 := Tryz.underlying101
  a37 := Tryz.isAgg101
  z37 := Tryz.sizeOf101
  v37 := Tryz.zeroValue101
  t46 := Tryz.underlying102
  a46 := Tryz.isAgg102
  z46 := Tryz.sizeOf102
  v46 := Tryz.zeroValue102
  t51 := Tryz.underlying195
  a51 := Tryz.isAgg195
  z51 := Tryz.sizeOf195
  v51 := Tryz.zeroValue195
  t53 := Tryz.underlying53
  a53 := Tryz.isAgg53
  z53 := Tryz.sizeOf53
  v53 := Tryz.zeroValue53
  t171 := Tryz.underlying188
  a171 := Tryz.isAgg188
  z171 := Tryz.sizeOf188
  v171 := Tryz.zeroValue188
  t173 := Tryz.underlying191
  a173 := Tryz.isAgg191
  z173 := Tryz.sizeOf191
  v173 := Tryz.zeroValue191
  t212 := Tryz.underlying194
  a212 := Tryz.isAgg194
  z212 := Tryz.sizeOf194
  v212 := Tryz.zeroValue194
  t213 := Tryz.underlying196
  a213 := Tryz.isAgg196
  z213 := Tryz.sizeOf196
  t232 := Tryz.underlying199
  a232 := Tryz.isAgg199
  z232 := Tryz.sizeOf199
  v232 := Tryz.zeroValue199
  t233 := Tryz.underlying200
  a233 := Tryz.isAgg200
  z233 := Tryz.sizeOf200
  v233 := Tryz.zeroValue200
  g17 := by kernel_rfl
  g18 := by kernel_rfl
  g19 := by kernel_rfl }
open Go.RowKit Go.Sort Go.Lib in
/-- THE ROAD WITHOUT THE TABLE: 0 <= i < 100. (LAID: no walk: one application.) -/
theorem Tryz.internal_strconv_Itoa_small (i : Nat) (hi : i < 100) (w : World) :
    Calls Tryz.prog 98 #[.int .i64 i] w fun e w' => e = .returned (.string ⟨(Lib.decDigits i).toArray⟩) ∧ w' = w := Any.internal_strconv_Itoa_small Tryz.lays243 i hi w
def Tryz.laysM171_ren : Go.Shelf.Ren := ⟨fun | 171 => 59 | 243 => 98 | 246 => 122 | 283 => 129 | 284 => 130 | 285 => 131 | 286 => 132 | 129 => 135 | 317 => 134 | 318 => 136 | 319 => 137 | 320 => 138 | 337 => 139 | 338 => 140 | n => n, fun | 3 => 3 | 9 => 9 | 2 => 2 | 4 => 4 | 171 => 188 | 0 => 0 | 53 => 53 | 37 => 101 | 5 => 5 | 173 => 191 | 212 => 194 | 51 => 195 | 20 => 20 | 213 => 196 | 46 => 102 | 232 => 199 | 233 => 200 | n => n, fun | 17 => 1 | 18 => 3 | 19 => 4 | n => n⟩
theorem Tryz.laysM171 : Go.Proofs.LaysM.n171 Tryz.prog Tryz.laysM171_ren := {
  mixed := by kernel_rfl
  f129 := Tryz.func135.trans (congrArg some (by kernel_rfl))
  f171 := Tryz.func59.trans (congrArg some (by kernel_rfl))
  f243 := Tryz.func98.trans (congrArg some (by kernel_rfl))
  f246 := Tryz.func122.trans (congrArg some (by kernel_rfl))
  f283 := Tryz.func129.trans (congrArg some (by kernel_rfl))
  f284 := Tryz.func130.trans (congrArg some (by kernel_rfl))
  f285 := Tryz.func131.trans (congrArg some (by kernel_rfl))
  f286 := Tryz.func132.trans (congrArg some (by kernel_rfl))
  f317 := Tryz.func134.trans (congrArg some (by kernel_rfl))
  f318 := Tryz.func136.trans (congrArg some (by kernel_rfl))
  f319 := Tryz.func137.trans (congrArg some (by kernel_rfl))
  f320 := Tryz.func138.trans (congrArg some (by kernel_rfl))
  f337 := Tryz.func139.trans (congrArg some (by kernel_rfl))
  f338 := Tryz.func140.trans (congrArg some (by kernel_rfl))
  t0 := Tryz.underlying0
  a0 := Tryz.isAgg0
  z0 := Tryz.sizeOf0
  v0 := Tryz.zeroValue0
  t2 := Tryz.underlying2
  a2 := Tryz.isAgg2
  z2 := Tryz.sizeOf2
  v2 := Tryz.zeroValue2
  t3 := Tryz.underlying3
  a3 := Tryz.isAgg3
  z3 := Tryz.sizeOf3
  v3 := Tryz.zeroValue3
  t4 := Tryz.underlying4
  a4 := Tryz.isAgg4
  z4 := Tryz.sizeOf4
  v4 := Tryz.zeroValue4
  t5 := Tryz.underlying5
  a5 := Tryz.isAgg5
  z5 := Tryz.sizeOf5
  v5 := Tryz.zeroValue5
  t9 := Tryz.underlying9
  a9 := Tryz.isAgg9
  z9 := Tryz.sizeOf9
  v9 := Tryz.zeroValue9
  t20 := Tryz.underlying20
  a20 := Tryz.isAgg20
  z20 := Tryz.sizeOf20
  v20 := Tryz.zeroValue20
  t37 := Tryz.underlying101
  a37 := Tryz.isAgg101
  z37 := Tryz.sizeOf101
  v37 := Tryz.zeroValue101
  t46 := Tryz.underlying102
  a46 := Tryz.isAgg102
  z46 := Tryz.sizeOf102
  v46 := Tryz.zeroValue102
  t51 := Tryz.underlying195
  a51 := Tryz.isAgg195
  z51 := Tryz.sizeOf195
  v51 := Tryz.zeroValue195
  t53 := Tryz.underlying53
  a53 := Tryz.isAgg53
  z53 := Tryz.sizeOf53
  v53 := Tryz.zeroValue53
  t171 := Tryz.underlying188
  a171 := Tryz.isAgg188
  z171 := Tryz.sizeOf188
  v171 := Tryz.zeroValue188
  t173 := Tryz.underlying191
  a173 := Tryz.isAgg191
  z173 := Tryz.sizeOf191
  v173 := Tryz.zeroValue191
  t212 := Tryz.underlying194
  a212 := Tryz.isAgg194
  z212 := Tryz.sizeOf194
  v212 := Tryz.zeroValue194
  t213 := Tryz.underlying196
  a213 := Tryz.isAgg196
  z213 := Tryz.sizeOf196
  t232 := Tryz.underlying199
  a232 := Tryz.isAgg199
  z232 := Tryz.sizeOf199
  v232 := Tryz.zeroValue199
  t233 := Tryz.underlying200
  a233 := Tryz.isAgg200
  z233 := Tryz.sizeOf200
  v233 := Tryz.zeroValue200
  g17 := by kernel_rfl
  g18 := by kernel_rfl
  g19 := by kernel_rfl
  i0 := by kernel_rfl
  i2 := by kernel_rfl
  i3 := by kernel_rfl
  i4 := by kernel_rfl
  i5 := by kernel_rfl
  i9 := by kernel_rfl
  i20 := by kernel_rfl
  i37 := by kernel_rfl
  i46 := by kernel_rfl
  i51 := by kernel_rfl
  i53 := by kernel_rfl
  i171 := by kernel_rfl
  i173 := by kernel_rfl
  i212 := by kernel_rfl
  i232 := by kernel_rfl
  i233 := by kernel_rfl
  m17 := by kernel_rfl
  m18 := by kernel_rfl
  m19 := by kernel_rfl }
open Go.RowKit Go.Sort Go.Lib in
/-- strconv.Itoa: "Itoa is equivalent to FormatInt(int64(i), 10).": i's DECIMAL NUMERAL ('Lib.itoa': a '-' where i is negative, then the digits), FOR EVERY int. The world behind the call: the world before it, new blocks behind the heap (the library's 'var a [24]byte'), draws. (LAID: no walk: one application.) -/
theorem Tryz.strconv_Itoa (n : Int) (h0 : -9223372036854775808 ≤ n) (h1 : n ≤ 9223372036854775807) (w : World) (htab : Lib.TabIs Tryz.prog w "internal/strconv.uint64pow10" .u64 Lib.pow10Tab) :
    Calls Tryz.prog 59 #[.int .i64 n] w fun e w' => e = .returned (.string ⟨(Lib.itoa n).toArray⟩) ∧ ∃ k os, w' = grow (w.drewN k) os := Any.strconv_Itoa Tryz.laysM171 n h0 h1 w htab
def Tryz.lays171_ren : Go.Shelf.Ren := ⟨fun | 171 => 59 | 243 => 98 | 246 => 122 | 283 => 129 | 284 => 130 | 285 => 131 | 286 => 132 | 129 => 135 | 317 => 134 | 318 => 136 | 319 => 137 | 320 => 138 | 337 => 139 | 338 => 140 | n => n, fun | 3 => 3 | 9 => 9 | 2 => 2 | 4 => 4 | 171 => 188 | 0 => 0 | 53 => 53 | 37 => 101 | 5 => 5 | 173 => 191 | 212 => 194 | 51 => 195 | 20 => 20 | 213 => 196 | 46 => 102 | 232 => 199 | 233 => 200 | n => n, fun | 17 => 1 | 18 => 3 | 19 => 4 | n => n⟩
theorem Tryz.lays171 : Go.Proofs.Lays.n171 Tryz.prog Tryz.lays171_ren := {
  mixed := by kernel_rfl
  f129 := Tryz.func135.trans (congrArg some (by kernel_rfl))
  f171 := Tryz.func59.trans (congrArg some (by kernel_rfl))
  f243 := Tryz.func98.trans (congrArg some (by kernel_rfl))
  f246 := Tryz.func122.trans (congrArg some (by kernel_rfl))
  f283 := Tryz.func129.trans (congrArg some (by kernel_rfl))
  f284 := Tryz.func130.trans (congrArg some (by kernel_rfl))
  f285 := Tryz.func131.trans (congrArg some (by kernel_rfl))
  f286 := Tryz.func132.trans (congrArg some (by kernel_rfl))
  f317 := Tryz.func134.trans (congrArg some (by kernel_rfl))
  f318 := Tryz.func136.trans (congrArg some (by kernel_rfl))
  f319 := Tryz.func137.trans (congrArg some (by kernel_rfl))
  f320 := Tryz.func138.trans (congrArg some (by kernel_rfl))
  f337 := Tryz.func139.trans (congrArg some (by kernel_rfl))
  f338 := Tryz.func140.trans (congrArg some (by kernel_rfl))
  t0 := Tryz.underlying0
  a0 := Tryz.isAgg0
  z0 := Tryz.sizeOf0
  v0 := Tryz.zeroValue0
  t2 := Tryz.underlying2
  a2 := Tryz.isAgg2
  z2 := Tryz.sizeOf2
  v2 := Tryz.zeroValue2
  t3 := Tryz.underlying3
  a3 := Tryz.isAgg3
  z3 := Tryz.sizeOf3
  v3 := Tryz.zeroValue3
  t4 := Tryz.underlying4
  a4 := Tryz.isAgg4
  z4 := Tryz.sizeOf4
  v4 := Tryz.zeroValue4
  t5 := Tryz.underlying5
  a5 := Tryz.isAgg5
  z5 := Tryz.sizeOf5
  v5 := Tryz.zeroValue5
  t9 := Tryz.underlying9
  a9 := Tryz.isAgg9
  z9 := Tryz.sizeOf9
  v9 := Tryz.zeroValue9
  t20 := Tryz.underlying20
  a20 := Tryz.isAgg20
  z20 := Tryz.sizeOf20
  v20 := Tryz.zeroValue20
  t37 := Tryz.underlying101
  a37 := Tryz.isAgg101
  z37 := Tryz.sizeOf101
  v37 := Tryz.zeroValue101
  t46 := Tryz.underlying102
  a46 := Tryz.isAgg102
  z46 := Tryz.sizeOf102
  v46 := Tryz.zeroValue102
  t51 := Tryz.underlying195
  a51 := Tryz.isAgg195
  z51 := Tryz.sizeOf195
  v51 := Tryz.zeroValue195
  t53 := Tryz.underlying53
  a53 := Tryz.isAgg53
  z53 := Tryz.sizeOf53
  v53 := Tryz.zeroValue53
  t171 := Tryz.underlying188
  a171 := Tryz.isAgg188
  z171 := Tryz.sizeOf188
  v171 := Tryz.zeroValue188
  t173 := Tryz.underlying191
  a173 := Tryz.isAgg191
  z173 := Tryz.sizeOf191
  v173 := Tryz.zeroValue191
  t212 := Tryz.underlying194
  a212 := Tryz.isAgg194
  z212 := Tryz.sizeOf194
  v212 := Tryz.zeroValue194
  t213 := Tryz.underlying196
  a213 := Tryz.isAgg196
  z213 := Tryz.sizeOf196
  t232 := Tryz.underlying199
  a232 := Tryz.isAgg199
  z232 := Tryz.sizeOf199
  v232 := Tryz.zeroValue199
  t233 := Tryz.underlying200
  a233 := Tryz.isAgg200
  z233 := Tryz.sizeOf200
  v233 := Tryz.zeroValue200
  g17 := by kernel_rfl
  g18 := by kernel_rfl
  g19 := by kernel_rfl }
open Go.RowKit Go.Sort Go.Lib in
/-- THE ROAD WITHOUT THE TABLE: 0 <= i < 100: NO PREMISE ON THE WORLD, AND THE WORLD IS AS IT WAS: a row that keeps its argument in that range need list no table ('laid = []'). (LAID: no walk: one application.) -/
theorem Tryz.strconv_Itoa_small (i : Nat) (hi : i < 100) (w : World) :
    Calls Tryz.prog 59 #[.int .i64 i] w fun e w' => e = .returned (.string ⟨(Lib.decDigits i).toArray⟩) ∧ w' = w := Any.strconv_Itoa_small Tryz.lays171 i hi w
def Tryz.laysM173_ren : Go.Shelf.Ren := ⟨fun | 173 => 121 | 246 => 122 | 283 => 129 | 284 => 130 | 285 => 131 | 286 => 132 | 129 => 135 | 317 => 134 | 318 => 136 | 319 => 137 | 320 => 138 | 337 => 139 | 338 => 140 | n => n, fun | 2 => 2 | 3 => 3 | 9 => 9 | 4 => 4 | 171 => 188 | 0 => 0 | 53 => 53 | 37 => 101 | 5 => 5 | 173 => 191 | 212 => 194 | 51 => 195 | 20 => 20 | 213 => 196 | 46 => 102 | 232 => 199 | 233 => 200 | n => n, fun | 17 => 1 | 18 => 3 | 19 => 4 | n => n⟩
theorem Tryz.laysM173 : Go.Proofs.LaysM.n173 Tryz.prog Tryz.laysM173_ren := {
  mixed := by kernel_rfl
  f129 := Tryz.func135.trans (congrArg some (by kernel_rfl))
  f173 := Tryz.func121.trans (congrArg some (by kernel_rfl))
  f246 := Tryz.func122.trans (congrArg some (by kernel_rfl))
  f283 := Tryz.func129.trans (congrArg some (by kernel_rfl))
  f284 := Tryz.func130.trans (congrArg some (by kernel_rfl))
  f285 := Tryz.func131.trans (congrArg some (by kernel_rfl))
  f286 := Tryz.func132.trans (congrArg some (by kernel_rfl))
  f317 := Tryz.func134.trans (congrArg some (by kernel_rfl))
  f318 := Tryz.func136.trans (congrArg some (by kernel_rfl))
  f319 := Tryz.func137.trans (congrArg some (by kernel_rfl))
  f320 := Tryz.func138.trans (congrArg some (by kernel_rfl))
  f337 := Tryz.func139.trans (congrArg some (by kernel_rfl))
  f338 := Tryz.func140.trans (congrArg some (by kernel_rfl))
  t0 := Tryz.underlying0
  a0 := Tryz.isAgg0
  z0 := Tryz.sizeOf0
  v0 := Tryz.zeroValue0
  t2 := Tryz.underlying2
  a2 := Tryz.isAgg2
  z2 := Tryz.sizeOf2
  v2 := Tryz.zeroValue2
  t3 := Tryz.underlying3
  a3 := Tryz.isAgg3
  z3 := Tryz.sizeOf3
  v3 := Tryz.zeroValue3
  t4 := Tryz.underlying4
  a4 := Tryz.isAgg4
  z4 := Tryz.sizeOf4
  v4 := Tryz.zeroValue4
  t5 := Tryz.underlying5
  a5 := Tryz.isAgg5
  z5 := Tryz.sizeOf5
  v5 := Tryz.zeroValue5
  t9 := Tryz.underlying9
  a9 := Tryz.isAgg9
  z9 := Tryz.sizeOf9
  v9 := Tryz.zeroValue9
  t20 := Tryz.underlying20
  a20 := Tryz.isAgg20
  z20 := Tryz.sizeOf20
  v20 := Tryz.zeroValue20
  t37 := Tryz.underlying101
  a37 := Tryz.isAgg101
  z37 := Tryz.sizeOf101
  v37 := Tryz.zeroValue101
  t46 := Tryz.underlying102
  a46 := Tryz.isAgg102
  z46 := Tryz.sizeOf102
  v46 := Tryz.zeroValue102
  t51 := Tryz.underlying195
  a51 := Tryz.isAgg195
  z51 := Tryz.sizeOf195
  v51 := Tryz.zeroValue195
  t53 := Tryz.underlying53
  a53 := Tryz.isAgg53
  z53 := Tryz.sizeOf53
  v53 := Tryz.zeroValue53
  t171 := Tryz.underlying188
  a171 := Tryz.isAgg188
  z171 := Tryz.sizeOf188
  v171 := Tryz.zeroValue188
  t173 := Tryz.underlying191
  a173 := Tryz.isAgg191
  z173 := Tryz.sizeOf191
  v173 := Tryz.zeroValue191
  t212 := Tryz.underlying194
  a212 := Tryz.isAgg194
  z212 := Tryz.sizeOf194
  v212 := Tryz.zeroValue194
  t213 := Tryz.underlying196
  a213 := Tryz.isAgg196
  z213 := Tryz.sizeOf196
  t232 := Tryz.underlying199
  a232 := Tryz.isAgg199
  z232 := Tryz.sizeOf199
  v232 := Tryz.zeroValue199
  t233 := Tryz.underlying200
  a233 := Tryz.isAgg200
  z233 := Tryz.sizeOf200
  v233 := Tryz.zeroValue200
  g17 := by kernel_rfl
  g18 := by kernel_rfl
  g19 := by kernel_rfl
  i0 := by kernel_rfl
  i2 := by kernel_rfl
  i3 := by kernel_rfl
  i4 := by kernel_rfl
  i5 := by kernel_rfl
  i9 := by kernel_rfl
  i20 := by kernel_rfl
  i37 := by kernel_rfl
  i46 := by kernel_rfl
  i51 := by kernel_rfl
  i53 := by kernel_rfl
  i171 := by kernel_rfl
  i173 := by kernel_rfl
  i212 := by kernel_rfl
  i232 := by kernel_rfl
  i233 := by kernel_rfl
  m17 := by kernel_rfl
  m18 := by kernel_rfl
  m19 := by kernel_rfl }
open Go.RowKit Go.Sort Go.Lib in
/-- strconv.FormatInt: "FormatInt returns the string representation of i in the given base": AT BASE 10: i's decimal numeral, for every int64. (LAID: no walk: one application.) -/
theorem Tryz.strconv_FormatInt_10 (n : Int) (h0 : -9223372036854775808 ≤ n) (h1 : n ≤ 9223372036854775807) (w : World) (htab : Lib.TabIs Tryz.prog w "internal/strconv.uint64pow10" .u64 Lib.pow10Tab) :
    Calls Tryz.prog 121 #[.int .i64 n, .int .i64 10] w fun e w' => e = .returned (.string ⟨(Lib.itoa n).toArray⟩) ∧ ∃ k os, w' = grow (w.drewN k) os := Any.strconv_FormatInt_10 Tryz.laysM173 n h0 h1 w htab
def Tryz.lays173_ren : Go.Shelf.Ren := ⟨fun | 173 => 121 | 246 => 122 | 283 => 129 | 284 => 130 | 285 => 131 | 286 => 132 | 129 => 135 | 317 => 134 | 318 => 136 | 319 => 137 | 320 => 138 | 337 => 139 | 338 => 140 | n => n, fun | 2 => 2 | 3 => 3 | 9 => 9 | 4 => 4 | 171 => 188 | 0 => 0 | 53 => 53 | 37 => 101 | 5 => 5 | 173 => 191 | 212 => 194 | 51 => 195 | 20 => 20 | 213 => 196 | 46 => 102 | 232 => 199 | 233 => 200 | n => n, fun | 17 => 1 | 18 => 3 | 19 => 4 | n => n⟩
theorem Tryz.lays173 : Go.Proofs.Lays.n173 Tryz.prog Tryz.lays173_ren := {
  mixed := by kernel_rfl
  f129 := Tryz.func135.trans (congrArg some (by kernel_rfl))
  f173 := Tryz.func121.trans (congrArg some (by kernel_rfl))
  f246 := Tryz.func122.trans (congrArg some (by kernel_rfl))
  f283 := Tryz.func129.trans (congrArg some (by kernel_rfl))
  f284 := Tryz.func130.trans (congrArg some (by kernel_rfl))
  f285 := Tryz.func131.trans (congrArg some (by kernel_rfl))
  f286 := Tryz.func132.trans (congrArg some (by kernel_rfl))
  f317 := Tryz.func134.trans (congrArg some (by kernel_rfl))
  f318 := Tryz.func136.trans (congrArg some (by kernel_rfl))
  f319 := Tryz.func137.trans (congrArg some (by kernel_rfl))
  f320 := Tryz.func138.trans (congrArg some (by kernel_rfl))
  f337 := Tryz.func139.trans (congrArg some (by kernel_rfl))
  f338 := Tryz.func140.trans (congrArg some (by kernel_rfl))
  t0 := Tryz.underlying0
  a0 := Tryz.isAgg0
  z0 := Tryz.sizeOf0
  v0 := Tryz.zeroValue0
  t2 := Tryz.underlying2
  a2 := Tryz.isAgg2
  z2 := Tryz.sizeOf2
  v2 := Tryz.zeroValue2
  t3 := Tryz.underlying3
  a3 := Tryz.isAgg3
  z3 := Tryz.sizeOf3
  v3 := Tryz.zeroValue3
  t4 := Tryz.underlying4
  a4 := Tryz.isAgg4
  z4 := Tryz.sizeOf4
  v4 := Tryz.zeroValue4
  t5 := Tryz.underlying5
  a5 := Tryz.isAgg5
  z5 := Tryz.sizeOf5
  v5 := Tryz.zeroValue5
  t9 := Tryz.underlying9
  a9 := Tryz.isAgg9
  z9 := Tryz.sizeOf9
  v9 := Tryz.zeroValue9
  t20 := Tryz.underlying20
  a20 := Tryz.isAgg20
  z20 := Tryz.sizeOf20
  v20 := Tryz.zeroValue20
  t37 := Tryz.underlying101
  a37 := Tryz.isAgg101
  z37 := Tryz.sizeOf101
  v37 := Tryz.zeroValue101
  t46 := Tryz.underlying102
  a46 := Tryz.isAgg102
  z46 := Tryz.sizeOf102
  v46 := Tryz.zeroValue102
  t51 := Tryz.underlying195
  a51 := Tryz.isAgg195
  z51 := Tryz.sizeOf195
  v51 := Tryz.zeroValue195
  t53 := Tryz.underlying53
  a53 := Tryz.isAgg53
  z53 := Tryz.sizeOf53
  v53 := Tryz.zeroValue53
  t171 := Tryz.underlying188
  a171 := Tryz.isAgg188
  z171 := Tryz.sizeOf188
  v171 := Tryz.zeroValue188
  t173 := Tryz.underlying191
  a173 := Tryz.isAgg191
  z173 := Tryz.sizeOf191
  v173 := Tryz.zeroValue191
  t212 := Tryz.underlying194
  a212 := Tryz.isAgg194
  z212 := Tryz.sizeOf194
  v212 := Tryz.zeroValue194
  t213 := Tryz.underlying196
  a213 := Tryz.isAgg196
  z213 := Tryz.sizeOf196
  t232 := Tryz.underlying199
  a232 := Tryz.isAgg199
  z232 := Tryz.sizeOf199
  v232 := Tryz.zeroValue199
  t233 := Tryz.underlying200
  a233 := Tryz.isAgg200
  z233 := Tryz.sizeOf200
  v233 := Tryz.zeroValue200
  g17 := by kernel_rfl
  g18 := by kernel_rfl
  g19 := by kernel_rfl }
open Go.RowKit Go.Sort Go.Lib in
/-- THE ROAD WITHOUT THE TABLE: 0 <= i < 100. (LAID: no walk: one application.) -/
theorem Tryz.strconv_FormatInt_10_small (i : Nat) (hi : i < 100) (w : World) :
    Calls Tryz.prog 121 #[.int .i64 i, .int .i64 10] w fun e w' => e = .returned (.string ⟨(Lib.decDigits i).toArray⟩) ∧ w' = w := Any.strconv_FormatInt_10_small Tryz.lays173 i hi w
end Go.Proofs

/-
  Numerals and words: strconv.Itoa, money.Put, keys.Word, keys.Put.
-/

set_option linter.unusedVariables false
set_option linter.unusedSimpArgs false
namespace Go.Proofs.YtkgpnikmdmpfaaaGreatDoor
open Go.RowKit Go.Maps

theorem dec_eq (n : Nat) : Lib.decDigits n = Sp.dec n := by
  induction n using Nat.strongRecOn with
  | _ n ih =>
    by_cases h : n < 10
    · rw [Sp.dec_small h, Lib.decDigits_one h]
    · rw [Sp.dec_great (by omega), Lib.decDigits, dif_neg h, ih (n / 10) (by omega)]
theorem itoa_eq (n : Nat) : Lib.itoa (n : Int) = Sp.dec n := by rw [Lib.itoa_nonneg, dec_eq]
theorem grew_grow {w w' : World} {k : Nat} {os : Array Obj} (h : w' = Go.Sort.grow (w.drewN k) os) : Below w.heap.size w w' := by
  subst h
  exact ⟨rfl, rfl, rfl, by simp [Go.Sort.grow], fun b hb => Go.Sort.heap_grow_old (w.drewN k) os hb⟩
/-- The table of words, as start-up lays it. -/
def WordsAt (w : World) : Prop :=
  ∃ bm es clk, w.cell? ⟨0, 0, none⟩ = some (.map (some bm)) ∧ w.heap[bm]? = some (.map es clk) ∧ MapKept.Stamped es clk ∧
    (∀ x ∈ es.toList, ∃ d : Int, 0 ≤ d ∧ d ≤ 5 ∧ x.val = .int .i64 d ∧ x.key = .string (str (Sp.word d))) ∧ ∀ d : Int, 0 ≤ d → d ≤ 5 → ∃ x ∈ es.toList, x.val = .int .i64 d
theorem WordsAt.grew {w w' : World} (h : WordsAt w) (hb : Below w.heap.size w w') : WordsAt w' := by
  obtain ⟨bm, es, clk, h1, h2, h3⟩ := h
  exact ⟨bm, es, clk, cell_later hb h1, heap_below' hb h2, h3⟩
  where heap_below' {W W' : World} {X : Nat} {o : Obj} (hb : Below W.heap.size W W') (h : W.heap[X]? = some o) : W'.heap[X]? = some o := (hb.block X (Array.getElem?_eq_some_iff.1 h).1).trans h
/-- The tables that the program reads. -/
structure Tabs (w : World) : Prop where
  par : Parties w
  words : WordsAt w
  pow : Lib.TabIs Tryz.prog w "internal/strconv.uint64pow10" .u64 Lib.pow10Tab
theorem Tabs.grew {w w' : World} (h : Tabs w) (hb : Below w.heap.size w w') : Tabs w' := ⟨h.par.grew hb, h.words.grew hb, Lib.tabBelow_of_tabIs h.pow w' hb⟩
def StrPost (w : World) (s : Bytes) (e : Ending) (w' : World) : Prop := e = .returned (.string (str s)) ∧ Below w.heap.size w w'
theorem Itoa_any (n : Nat) (w : World) (hn : n ≤ 9223372036854775807) (ht : Tabs w) : Calls Tryz.prog 59 #[.int .i64 n] w (StrPost w (Sp.dec n)) :=
  (Tryz.strconv_Itoa n (by omega) (by omega) w ht.pow).mono (fun e w' h => by
    obtain ⟨h1, k, os, h2⟩ := h
    rw [itoa_eq] at h1
    exact ⟨h1, grew_grow h2⟩)
set_option maxRecDepth 100000 in
theorem moneyPut_any (n : Nat) (w : World) (hn : n ≤ 9223372036854775807) (ht : Tabs w) : Calls Tryz.prog 96 #[.int .i64 n] w (StrPost w (Sp.dec n)) := by
  have hF : Calls Tryz.prog 121 #[.int .i64 n, .int .i64 10] w (StrPost w (Sp.dec n)) :=
    (Tryz.strconv_FormatInt_10 n (by omega) (by omega) w ht.pow).mono (fun e w' h => by
      obtain ⟨h1, k, os, h2⟩ := h
      rw [itoa_eq] at h1
      exact ⟨h1, grew_grow h2⟩)
  replace hF := Lib.hid hF
  clear ht
  go_enter Tryz.func96, Tryz.ntmps96
  go_wp2_with (go_at_call 121; refine Calls.mono hF.out ?_; rintro e w1 ⟨rfl, hb⟩)
  go_ret
  exact ⟨rfl, hb⟩
def iterSeenAt (w : World) (r : Nat) : Array Nat := match w.heap[r]? with
  | some (.mapIter _ _ seen _) => seen
  | _ => #[]
def RelWord (w : World) (bm : Nat) (es : Array MapEntry) (clk : Nat) (d : Int) (w' : World) : Prop :=
  ∃ seen : Array Nat, w'.heap[w.heap.size]? = some (.mapIter (some bm) clk seen clk) ∧ Below w.heap.size w w' ∧ ∀ x ∈ es.toList, seen.contains x.born = true → x.val ≠ .int .i64 d
theorem iterSeenAt_eq {w : World} {r : Nat} {m : Option Nat} {a c : Nat} {seen : Array Nat} (h : w.heap[r]? = some (.mapIter m a seen c)) : iterSeenAt w r = seen := by unfold iterSeenAt; rw [h]
theorem setBlock_at {w : World} {r : Nat} {o : Obj} (h : r < w.heap.size) : (Go.ChangeMaps.setBlock w r o).heap[r]? = some o := by
  unfold Go.ChangeMaps.setBlock
  simp [h]
theorem setBlock_below {w w' : World} {B r : Nat} {o : Obj} (h : Below B w w') (hr : B ≤ r) : Below B w (Go.ChangeMaps.setBlock w' r o) :=
  ⟨h.os, h.tape, h.output, by have := h.size; simpa [Go.ChangeMaps.setBlock] using this, fun k hk => by
    rw [← h.block k hk]
    unfold Go.ChangeMaps.setBlock
    simp only [Array.getElem?_setIfInBounds]
    rw [if_neg (by omega)]⟩
set_option maxRecDepth 100000 in
set_option maxHeartbeats 1000000 in
theorem Word_any (d : Int) (w : World) (h0 : 0 ≤ d) (h5 : d ≤ 5) (ht : Tabs w) : Calls Tryz.prog 97 #[.int .i64 d] w (StrPost w (Sp.word d)) := by
  obtain ⟨bm, es, clk, hc, hb, hst, hv, hex⟩ := ht.words
  have hrg := run_range_map (P := Tryz.prog) w 182 _ _ bm es clk Tryz.underlying182 hb
  have hbl := (Array.getElem?_eq_some_iff.1 hb).1
  replace hst := Lib.hid hst
  replace hv := Lib.hid hv
  replace hex := Lib.hid hex
  replace hb := Lib.hid hb
  clear ht
  go_enter Tryz.func97, Tryz.ntmps97
  go_wp2
  have hnew : (w.alloc (.mapIter (some bm) clk #[] clk)).heap[w.heap.size]? = some (.mapIter (some bm) clk #[] clk) := Go.heap_alloc_new w _
  go_loopw [] (fun w' => RelWord w bm es clk d w') (fun w' => (leftOf es (iterSeenAt w' w.heap.size)).size)
  case atStart => exact ⟨#[], hnew, alloc_grew w _, by simp⟩
  case round =>
    clear hnew hrg hc
    obtain ⟨seen, hit, hB, hseen⟩ := hrel
    have hsz := hB.size
    have hil := (Array.getElem?_eq_some_iff.1 hit).1
    have hb1 := (hB.block bm hbl).trans hb.out
    have law := run_next_at (P := Tryz.prog) wr 0 w.heap.size bm clk clk seen es clk hit hb1 hst.out.1 (Nat.le_refl _)
    rcases law with ⟨hl0, hrun⟩ | ⟨e, he, w2, hal2, hrun⟩
    · exfalso
      obtain ⟨x, hx, hxd⟩ := hex.out d h0 h5
      refine hseen x hx ?_ hxd
      have h2 : leftOf es seen = #[] := Array.eq_empty_of_size_eq_zero hl0
      unfold leftOf at h2
      rw [Array.filter_eq_empty_iff] at h2
      have h3 := h2 x (Array.mem_toList_iff.1 hx)
      cases hcn : seen.contains x.born with
      | true => rfl
      | false => rw [hcn] at h3; exact absurd rfl h3
    · obtain ⟨n, hn0, hn5, hval, hkey⟩ := hv.out e (mem_left he).1
      have hB2 : Below w.heap.size w w2 := by rcases hal2 with rfl | rfl; exact hB; exact hB.drew
      have hil2 : w.heap.size < w2.heap.size := by rcases hal2 with rfl | rfl; exact hil; exact hil
      have hB3 := setBlock_below (o := .mapIter (some bm) clk (seen.push e.born) clk) hB2 (Nat.le_refl _)
      have hit3 := setBlock_at (o := .mapIter (some bm) clk (seen.push e.born) clk) hil2
      have hen := run_entry_at (P := Tryz.prog) _ w.heap.size bm clk seen es clk e hit3 ((hB3.block bm hbl).trans hb.out) (mem_left he).1 hst.out.2.1
      rw [hval, hkey] at hrun hen
      have hnx : ∀ ty, (Instr.next (.pointer (some ⟨w.heap.size, 0, none⟩)) false ty).run Tryz.prog wr = _ := fun _ => hrun
      have hseen2 : Hid (n ≠ d → ∀ x ∈ es.toList, (seen.push e.born).contains x.born = true → x.val ≠ .int .i64 d) := Lib.hid (fun hne x hx hcx => by
        rw [contains_push] at hcx
        cases hcn : seen.contains x.born with
        | true => exact hseen x hx hcn
        | false =>
          rw [hcn, Bool.false_or, beq_iff_eq] at hcx
          have : x = e := by
            have h1 := find_born x es.toList hst.out.2.1 hx
            have h2 := find_born e es.toList hst.out.2.1 (mem_left he).1
            rw [hcx] at h1
            exact Option.some.inj (h1.symm.trans h2)
          rw [this, hval]
          intro e2
          exact hne (by simpa using e2))
      have hshr := Lib.hid (left_shrinks es seen e he)
      have hsa := iterSeenAt_eq hit
      have hsb := iterSeenAt_eq hit3
      replace hsa := Lib.hid hsa
      replace hsb := Lib.hid hsb
      replace hB3 := Lib.hid hB3
      replace hit3 := Lib.hid hit3
      clear hrun hB2 hil2 hal2 hseen hit hb1 hkey hval he hB
      by_cases hnd : n = d
      · subst hnd
        have hnn : (n == n) = true := by simp
        go_wp2
        go_ret
        exact ⟨rfl, hB3.out⟩
      · have hnn : (n == d) = false := by simp [hnd]
        go_wp2
        refine ⟨⟨seen.push e.born, hit3.out, hB3.out, hseen2.out hnd⟩, ?_⟩
        rw [hsa.out, hsb.out]
        exact hshr.out
set_option maxRecDepth 100000 in
set_option maxHeartbeats 1000000 in
theorem keysPut_any (o d : Int) (w : World) (hk : Sp.keyOk o d = true) (ht : Tabs w) : Calls Tryz.prog 57 #[.agg #[.int .i64 o, .int .i64 d]] w (StrPost w (Sp.keyText o d)) := by
  have hi := Sp.keyOk_in hk
  have hT := Lib.hid (fun W (h : Below w.heap.size w W) => ht.grew h)
  obtain ⟨n, rfl⟩ := Int.eq_ofNat_of_zero_le (show 0 ≤ o by omega)
  have hE : Sp.keyText n d = Sp.dec n ++ [45] ++ Sp.word d := by rw [Sp.keyText_eq hk]; simp
  have hl1 := Sp.dec_len 2 n (by omega) (by omega)
  have hl2 : (Sp.word d).length ≤ 7 := by
    have hd : d = 0 ∨ d = 1 ∨ d = 2 ∨ d = 3 ∨ d = 4 ∨ d = 5 := by omega
    rcases hd with rfl | rfl | rfl | rfl | rfl | rfl <;> decide
  rw [hE]
  have hC := fun W => keysCheck_any n d W
  rw [hk] at hC
  replace hC := Lib.hid hC
  have hS0 : ∀ W', Below (w.alloc (.cells #[.int .i64 n, .int .i64 d] 34)).heap.size (w.alloc (.cells #[.int .i64 n, .int .i64 d] 34)) W' → (fun W' => W'.cell? ⟨w.heap.size, 0, none⟩ = some (.int .i64 n) ∧ W'.cell? ⟨w.heap.size, 1, none⟩ = some (.int .i64 d) ∧ Hid (Below (w.alloc (.cells #[.int .i64 n, .int .i64 d] 34)).heap.size (w.alloc (.cells #[.int .i64 n, .int .i64 d] 34)) W')) W' := fun W' hb => by
    have hx := cells_at ((hb.block w.heap.size (by simp)).trans (heap_alloc_new w (.cells #[.int .i64 n, .int .i64 d] 34)))
    exact ⟨hx 0, hx 1, Lib.hid hb⟩
  replace hS0 := Lib.hid hS0
  clear ht hk hE
  go_enter Tryz.func57, Tryz.ntmps57
  go_wp2_with (go_at_call 95; refine Calls.mono (hC.out _) ?_; rintro e w1 ⟨rfl, hb1⟩; obtain ⟨hc1, hf1, _, _⟩ := brow hb1)
  have hS1 := Lib.hid (fun W' (h : (fun W' => W'.cell? ⟨w.heap.size, 0, none⟩ = some (.int .i64 n) ∧ W'.cell? ⟨w.heap.size, 1, none⟩ = some (.int .i64 d) ∧ Hid (Below (w.alloc (.cells #[.int .i64 n, .int .i64 d] 34)).heap.size (w.alloc (.cells #[.int .i64 n, .int .i64 d] 34)) W')) W') => (show Below w.heap.size w W' from (alloc_grew w _).trans (h.2.2.out.mono (by simp))))
  have hE : (str (Sp.dec n) ++ ⟨#[45]⟩ ++ str (Sp.word d) : ByteArray) = str (Sp.dec n ++ [45] ++ Sp.word d) := by
    rw [show (⟨#[45]⟩ : ByteArray) = str [45] from rfl]; simp
  replace hE := Lib.hid hE
  have A1 : (9223372036854775807 < (Sp.dec n).length + 1) = False := eq_false (by omega)
  have A2 : (9223372036854775807 < (Sp.dec n).length + 1 + (Sp.word d).length) = False := eq_false (by omega)
  refine any_begin (S := (fun W' => W'.cell? ⟨w.heap.size, 0, none⟩ = some (.int .i64 n) ∧ W'.cell? ⟨w.heap.size, 1, none⟩ = some (.int .i64 d) ∧ Hid (Below (w.alloc (.cells #[.int .i64 n, .int .i64 d] 34)).heap.size (w.alloc (.cells #[.int .i64 n, .int .i64 d] 34)) W'))) 9 (by kernel_rfl) ?_ (fun hHeld => ?_)
  focus (exact hS0.out _ (by (repeat (first | (with_reducible first | exact zR _ _ | exact zA _ _ | assumption | refine zL ?_ _ | refine zD ?_ | refine zN ?_ _) | ((with_reducible first | refine zC ?_ ?_ _ | refine zW ?_ ?_ _); rotate_left; focus (first | exact Nat.le_refl _ | (simp; done) | (simp; omega) | omega)) | with_reducible refine zT ?_ (by assumption)))))
  have hq := plan [0, 1, 4, 5]
  iterate 4 (refine tk hq ?_ rfl (by kernel_rfl) (by assumption) (by rfl) (fun _ _ _ h => h) ?hy ?_; (case hy => (intro w hSw; (try dsimp only at hSw); go_simp; (try with_reducible rfl))); replace hq := hq.tl; (try simp only [Act.put, yA, yB, yC]))
  clear hq
  refine ao 2 rfl (by kernel_rfl) (by rfl) (fun K hK => ?_)
  go_simp; go_at_call 96; refine Calls.mono (moneyPut_any n _ (by omega) (hT.out _ (hS1.out _ (by assumption)))) ?_; rintro e w2 ⟨rfl, hb2⟩
  refine hK.out _ _ ?_ (fun hHeld => ?_)
  focus (exact hS0.out _ (by (repeat (first | (with_reducible first | exact zR _ _ | exact zA _ _ | assumption | refine zL ?_ _ | refine zD ?_ | refine zN ?_ _) | ((with_reducible first | refine zC ?_ ?_ _ | refine zW ?_ ?_ _); rotate_left; focus (first | exact Nat.le_refl _ | (simp; done) | (simp; omega) | omega)) | with_reducible refine zT ?_ (by assumption)))))
  clear hK K
  (try simp only [Act.put, yA, yB, yC])
  have hq := plan [3]
  iterate 1 (refine tk hq ?_ rfl (by kernel_rfl) (by assumption) (by rfl) (fun _ _ _ h => h) ?hy ?_; (case hy => (intro w hSw; (try dsimp only at hSw); go_simp; (try with_reducible rfl))); replace hq := hq.tl; (try simp only [Act.put, yA, yB, yC]))
  clear hq
  refine ao 6 rfl (by kernel_rfl) (by rfl) (fun K hK => ?_)
  go_simp; go_at_call 97; refine Calls.mono (Word_any d _ (by omega) (by omega) (hT.out _ (hS1.out _ (by assumption)))) ?_; rintro e w3 ⟨rfl, hb3⟩
  refine hK.out _ _ ?_ (fun hHeld => ?_)
  focus (exact hS0.out _ (by (repeat (first | (with_reducible first | exact zR _ _ | exact zA _ _ | assumption | refine zL ?_ _ | refine zD ?_ | refine zN ?_ _) | ((with_reducible first | refine zC ?_ ?_ _ | refine zW ?_ ?_ _); rotate_left; focus (first | exact Nat.le_refl _ | (simp; done) | (simp; omega) | omega)) | with_reducible refine zT ?_ (by assumption)))))
  clear hK K
  (try simp only [Act.put, yA, yB, yC])
  have hq := plan [7, 8]
  iterate 2 (refine tk hq ?_ rfl (by kernel_rfl) (by assumption) (by rfl) (fun _ _ _ h => h) ?hy ?_; (case hy => (intro w hSw; (try dsimp only at hSw); go_simp; (try with_reducible rfl))); replace hq := hq.tl; (try simp only [Act.put, yA, yB, yC]))
  clear hq
  refine any_done (by kernel_rfl) ?_
  go_wp2
  go_ret
  exact ⟨congrArg (fun s => Ending.returned (.string s)) hE.out, hS1.out _ hHeld⟩
end Go.Proofs.YtkgpnikmdmpfaaaGreatDoor

/-
  append of a slice that begins anywhere.
-/

set_option linter.unusedVariables false
set_option linter.unusedSimpArgs false
namespace Go.Proofs.YtkgpnikmdmpfaaaGreatDoor
open Go.RowKit Go.Maps

theorem add_any (b off n : Nat) : (⟨b, off, none⟩ : Addr).add n = ⟨b, off + n, none⟩ := by
  unfold Addr.add
  by_cases h : n = 0 <;> simp [h]
section
variable {α : Type} {enc : α → List Value} {size : Nat}
/-- append(v, u...): v is the call's own, u whatever slice of such elements. -/
theorem run_appAllA {P : Program} {w : World} (hsz : ∀ x, (enc x).length = size) (base : Nat) (t ty e : TypeId) (z : Value) (bytes : Nat)
    (ht : P.underlying t = some (.slice e)) (hinfo : (P.info? e).map (fun i => (i.zero, i.size, i.bytes)) = some (some z, size, bytes)) (hz : z.cells.size = size) (hpos : 0 < size)
    (v : Value) (n : Nat) (xs : List Value) (HO : w.ownsRow base e size v n xs) (u : Value) (l : List α) (hu : SlcA enc size w u l) (h1 : ∀ x, ∀ c ∈ enc x, c.oneCell' = true)
    (hm : n + l.length ≤ maxLen) (hl : (n + l.length) * bytes ≤ 140737488355328) (hbase : base ≤ w.heap.size) :
    ∃ v1 w1, (Builtin.append_ #[t, t] ty #[v, u]).run P w = .ok v1 w1 ∧ w1.ownsRow base e size v1 (n + l.length) (xs ++ l.flatMap enc) ∧ w.grownBy w1 v.ownBlock ∧ (v1.ownBlock = v.ownBlock ∨ v1.ownBlock = some w.heap.size) := by
  obtain ⟨i0, hi, hzz⟩ := Option.map_eq_some_iff.1 hinfo
  simp only [Prod.mk.injEq] at hzz
  obtain ⟨hz0, hz1, hz2⟩ := hzz
  rcases hu with ⟨rfl, p, c, rfl, hpc⟩ | ⟨b, off, cap, rfl, hcap, hb, hc⟩
  · cases p with
    | none =>
      obtain rfl := hpc rfl
      have hrun := run_append_owned_none (P := P) (w := w) base t ty e i0 size ht hi v n xs HO
      exact ⟨v, w, hrun, by simpa using HO, ⟨rfl, rfl, rfl, Nat.le_refl _, fun _ _ _ => rfl⟩, .inl rfl⟩
    | some a =>
      obtain ⟨v1, w1, hr, h2, h3, _, h5⟩ := run_append_own_at (P := P) (w := w) base t ty e i0 z size bytes ht hi hz0 hz1 hz2 hz hpos v n xs HO a 0 c [] (by simp)
        (fun j c hj => by simp at hj) (fun c hc' => by simp at hc') hm hl hbase
      exact ⟨v1, w1, hr, h2, h3, h5⟩
  · obtain ⟨v1, w1, hr, h2, h3, _, h5⟩ := run_append_own_at (P := P) (w := w) base t ty e i0 z size bytes ht hi hz0 hz1 hz2 hz hpos v n xs HO ⟨b, off, none⟩ l.length cap (l.flatMap enc) (flat_len hsz l)
      (fun j c hj => by
        obtain ⟨i, r, x, rfl, hx, hr⟩ := flat_of hsz l j c hj
        rw [add_any]
        exact hc i x hx r c hr)
      (fun c hc' => by
        obtain ⟨x, _, hx⟩ := List.mem_flatMap.1 hc'
        exact h1 x c hx) hm hl hbase
    exact ⟨v1, w1, hr, h2, h3, h5⟩
end
theorem wpList_cloneA {P : Program} {α : Type} {enc : α → List Value} {size : Nat} {w : World} {ops : Array Oper} {rest : List Oper} {o : Oper} {a : Act} {Q : Exit → Act → World → Prop} (hsz : ∀ x, (enc x).length = size) (h1 : ∀ x, ∀ c ∈ enc x, c.oneCell' = true)
    {t e : TypeId} {z : Value} {bytes : Nat} (ht : P.underlying t = some (.slice e)) (hinfo : (P.info? e).map (fun i => (i.zero, i.size, i.bytes)) = some (some z, size, bytes)) (hz : z.cells.size = size) (hpos : 0 < size)
    (hgd : o.guard = none) (x : Operand) (ho : o.op = .call { callee := .builtin .append, args := #[.const (.slice none 0 0), x], argTypes := #[t, t] }) {u : Value} {l : List α} (hx : a.eval x = u) (hu : SlcA enc size w u l)
    (hm : l.length ≤ maxLen) (hl : l.length * bytes ≤ 140737488355328)
    (h : ∀ q c w1, w1.ownsRow w.heap.size e size (.slice q l.length c) l.length (l.flatMap enc) → Below w.heap.size w w1 → wpList P ops Q rest (a.put o.dst (.slice q l.length c)) w1) : wpList P ops Q (o :: rest) a w := by
  obtain ⟨v1, w1, hr, h2, h3, _⟩ := run_appAllA (P := P) (w := w) hsz w.heap.size t o.type e z bytes ht hinfo hz hpos (.slice none 0 0) 0 [] (World.ownsRow_nil _ _ _ _) u l hu h1 (by omega) (by rw [Nat.zero_add]; exact hl) (Nat.le_refl _)
  simp only [Nat.zero_add, List.nil_append] at h2
  have hshape : ∃ q c, v1 = .slice q l.length c := by
    rcases h2.2 with ⟨rfl, h0⟩ | ⟨g, cap, cur, rfl, _⟩
    · exact ⟨_, _, by rw [h0]⟩
    · exact ⟨_, _, rfl⟩
  obtain ⟨q, c, rfl⟩ := hshape
  exact wpList_app hgd (.const (.slice none 0 0)) x ho rfl hx hr (h q c w1 h2 ⟨h3.os, h3.tape, h3.output, h3.size, fun k hk => h3.block k hk (by simp [Value.ownBlock])⟩)
end Go.Proofs.YtkgpnikmdmpfaaaGreatDoor

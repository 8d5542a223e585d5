/-
  What core.Of, snaps.Put and snaps.Get come to, as plain functions.
-/
import Derived.Test.YtfkhfofoginaiaaDoorFormP6
import Derived.Test.YtfkhfofoginaiaaDoorFormP18
import Derived.Test.YtfkhfofoginaiaaDoorFormP1
set_option linter.unusedVariables false
namespace Go.Proofs.YtfkhfofoginaiaaDoor
open Go.RowKit

/-! snaps.Put -/
def sagaB (s : Sp.Saga) : Bytes := textB (orderB s.o) ++ varB (deedsN s).toNat
def newestB (s : Sp.Stmt) : Bytes := textB (if 0 < s.seq then stmtB s.party s.seq s.rows else [])
def coreB (C : Sp.Core) : Bytes :=
  varB C.l.length ++ C.l.flatMap sagaB ++ varB C.b.l.length ++ C.b.l.flatMap (fun p => textB (postB p)) ++ newestB C.i.s0 ++ newestB C.i.s1 ++ newestB C.i.s2
def putB (C : Sp.Core) : Bytes × Int := if (coreB C).length > 65536 then ([], 3) else (coreB C, 0)

/-! the reader's parts -/
structure Parts where
  sagas : List Sp.Saga
  posts : List Sp.Posting
  s0 : Sp.Stmt
  s1 : Sp.Stmt
  s2 : Sp.Stmt
def rdSagas : Nat → Int → Bytes → Bool → List Sp.Saga → List Sp.Saga × Bytes × Bool
  | 0, _, s, ok, acc => (acc, s, ok)
  | f + 1, n, s, ok, acc =>
    if ok = true ∧ 0 < n then
      let t := rdText s ok
      let k := rdNum t.2.1 t.2.2
      rdSagas f (n - 1) k.2.1 (k.2.2 && (orderGet t.1).isSome) (acc ++ [undeeds ((orderGet t.1).getD orderZero) k.1])
    else (acc, s, ok)
def rdPost (s : Bytes) (ok : Bool) : Sp.Posting × Bytes × Bool :=
  let t := rdText s ok
  let i := rdText t.1 t.2.2
  let a := rdNum i.2.1 i.2.2
  let b := rdNum a.2.1 a.2.2
  let c := rdNum b.2.1 b.2.2
  let d := rdNum c.2.1 c.2.2
  (⟨i.1, wrap64 a.1, wrap64 b.1, wrap64 c.1, backN d.1⟩, t.2.1, t.2.2 && d.2.2 && d.2.1.isEmpty)
def rdPosts : Nat → Int → Bytes → Bool → List Sp.Posting → List Sp.Posting × Bytes × Bool
  | 0, _, s, ok, acc => (acc, s, ok)
  | f + 1, n, s, ok, acc =>
    if ok = true ∧ 0 < n then
      let p := rdPost s ok
      rdPosts f (n - 1) p.2.1 p.2.2 (acc ++ [p.1])
    else (acc, s, ok)
def stmtOf (r : Int × Int × List Sp.Row) : Sp.Stmt := ⟨r.1, r.2.1, r.2.2⟩
def rdStmt (s : Bytes) (ok : Bool) : Sp.Stmt × Bytes × Bool :=
  let t := rdText s ok
  if t.1.isEmpty then (Sp.noStmt, t.2.1, t.2.2)
  else (stmtOf ((stmtGet t.1).getD (0, 0, [])), t.2.1, t.2.2 && (stmtGet t.1).isSome)
def rdParts (s : Bytes) : Parts × Bytes × Bool :=
  let n := rdNum s true
  let a := rdSagas (s.length + 1) n.1 n.2.1 n.2.2 []
  let m := rdNum a.2.1 a.2.2
  let b := rdPosts (s.length + 1) m.1 m.2.1 m.2.2 []
  let x := rdStmt b.2.1 b.2.2
  let y := rdStmt x.2.1 x.2.2
  let z := rdStmt y.2.1 y.2.2
  (⟨a.1, b.1, x.1, y.1, z.1⟩, z.2.1, z.2.2)

/-! core.Of -/
def ofSagas : List Sp.Saga → List Sp.Saga → Bool
  | _, [] => true
  | acc, s :: t => decide (s.o.id = acc.length + 1) && Sp.valid s && !Sp.hasRef acc s.o.ref && ofSagas (acc ++ [s]) t
def ofPosts : Sp.Books → List Sp.Posting → Option Sp.Books
  | b, [] => some b
  | b, p :: t => if (Sp.post b p).2 = 0 ∧ (Sp.post b p).1.l.length = b.l.length + 1 then ofPosts (Sp.post b p).1 t else none
def accept (i : Sp.Intake) (s : Sp.Stmt) : Option Sp.Intake × Int :=
  if stmtOk s.party s.seq s.rows = false then (none, 2)
  else if s.seq ≤ (Sp.newest i s.party).seq then (none, 93)
  else (some (Sp.setStmt i s), 0)
def ofStmt (i : Sp.Intake) (party : Int) (s : Sp.Stmt) : Option Sp.Intake :=
  if s.seq = 0 ∧ s.rows = [] ∧ s.party = 0 then some i
  else if s.party = party then (accept i s).1 else none
def ofStmts (i : Sp.Intake) (s0 s1 s2 : Sp.Stmt) : Option Sp.Intake :=
  match ofStmt i 0 s0 with
  | none => none
  | some i => match ofStmt i 1 s1 with
    | none => none
    | some i => ofStmt i 2 s2
def netAt (l : List Sp.Saga) (o : Nat) : Int := match l[o - 1]? with | some s => Sp.net s | none => 0
def balanced (C : Sp.Core) : Bool :=
  (List.range 60).all fun k => decide (C.b.bal 1 (k + 1 : Nat) = netAt C.l (k + 1) - Sp.inNet C.i (k + 1 : Nat)) && decide (C.b.bal 2 (k + 1 : Nat) = Sp.inNet C.i (k + 1 : Nat))
def coreOf (p : Parts) : Option Sp.Core :=
  if p.sagas.length > 60 then none
  else if ofSagas [] p.sagas = false then none
  else match ofPosts Sp.noBooks p.posts with
    | none => none
    | some b => match ofStmts Sp.noIntake p.s0 p.s1 p.s2 with
      | none => none
      | some i => if balanced ⟨p.sagas, b, i⟩ then some ⟨p.sagas, b, i⟩ else none
def snapGet (s : Bytes) : Option Sp.Core :=
  if s = [] then some Sp.noCore
  else
    let r := rdParts s
    if r.2.2 && r.2.1.isEmpty then
      match coreOf r.1 with
      | none => none
      | some C => if putB C = (s, 0) then some C else none
    else none
end Go.Proofs.YtfkhfofoginaiaaDoor

/-
  Texts of addresses: what the program's inner functions answer, as plain Lean. No condition.
-/
import Derived.Test.YtnljjlaececnkaaGreatDoorP
import Derived.Test.YtnljjlaececnkaaGreatDoorShelf
namespace Go.Proofs.YtnljjlaececnkaaGreatDoor
open Go.RowKit
set_option linter.unusedVariables false
set_option linter.unusedSimpArgs false

def dotB : ByteArray := ⟨#[46]⟩
def colB : ByteArray := ⟨#[58]⟩
def gapB : ByteArray := ⟨#[58, 58]⟩
def slashB : ByteArray := ⟨#[47]⟩
def spB : ByteArray := ⟨#[32]⟩
/-- A text's pieces. -/
def pieces (s sep : ByteArray) : List ByteArray := Lib.splitB sep 0 (Lib.countB s sep) s
/-- A number without a 0 ahead. -/
def decS (s : ByteArray) (most : Int) : Option Int :=
  match Lib.atoiAll s.data.toList with
  | .ok v => if (s.size : Int) ≤ most ∧ Lib.itoa v = s.data.toList ∧ 0 ≤ v then some v else none
  | _ => none
/-- .. that is a byte. -/
def octS (s : ByteArray) : Option Int := match decS s 3 with
  | some v => if v ≤ 255 then some v else none
  | none => none
def octV (s : ByteArray) : Int := (octS s).getD 0
/-- Four numbers. -/
def quadL (l : List ByteArray) : Option (List Int) := if l.length = 4 ∧ l.all (fun t => (octS t).isSome) then some (mapd ++ l.map octV) else none
def quadS (s : ByteArray) : Option (List Int) := quadL (pieces s dotB)
/-- A digit of base 16. -/
def hexD (c : UInt8) : Option Nat :=
  if 48 ≤ c.toNat ∧ c.toNat ≤ 57 then some (c.toNat - 48) else if 97 ≤ c.toNat ∧ c.toNat ≤ 102 then some (c.toNat - 87) else if 65 ≤ c.toNat ∧ c.toNat ≤ 70 then some (c.toNat - 55) else none
def hexFrom (acc : Nat) : List UInt8 → Option Nat
  | [] => some acc
  | c :: r => match hexD c with
    | some d => hexFrom (16 * acc + d) r
    | none => none
/-- A group. -/
def grpS (t : ByteArray) : Option Nat := if t.size = 0 ∨ 4 < t.size then none else hexFrom 0 t.data.toList
def grpV (t : ByteArray) : List Int := [(((grpS t).getD 0 / 256 : Nat) : Int), (((grpS t).getD 0 % 256 : Nat) : Int)]
/-- Groups. -/
def grpsL (l : List ByteArray) : Option (List Int) := if l.all (fun t => (grpS t).isSome) then some (l.map grpV).flatten else none
def grpsS (s : ByteArray) : Option (List Int) := if s.size = 0 then some [] else grpsL (pieces s colB)
def colS (s : ByteArray) : Option (List Int) :=
  match Lib.cut s.data.toList gapB.data.toList with
  | (l, r, gap) => match grpsS ⟨l.toArray⟩, grpsS ⟨r.toArray⟩ with
    | some b, some c => if (gap = false ∧ b.length ≠ 16) ∨ (gap = true ∧ 14 < b.length + c.length) then none else some (b ++ List.replicate (16 - b.length - c.length) 0 ++ c)
    | _, _ => none
/-- The address of a text. -/
def parseS (s : ByteArray) : Option (List Int) := match quadS s with
  | some a => some a
  | none => colS s
/-- A prefix's text: what ahead of the slash, its length, off; none: no such text. -/
def rawS (s : ByteArray) : Option Pf :=
  match Lib.cut s.data.toList slashB.data.toList with
  | (l, r, _) => match decS ⟨r.toArray⟩ 3 with
    | some n => match quadS ⟨l.toArray⟩ with
      | some a => some ⟨a, 96 + n⟩
      | none => match colS ⟨l.toArray⟩ with
        | some a => some ⟨a, n⟩
        | none => none
    | none => none
def parsePS (s : ByteArray) : Pf × Int := match rawS s with
  | some p => if chk p then (p, 0) else (zeroP, 21)
  | none => (zeroP, 20)
end Go.Proofs.YtnljjlaececnkaaGreatDoor

/- The table of words. -/
import Derived.Test.YtopcidphlleciaaGreatDoorScN
namespace Go.Proofs.YtopcidphlleciaaGreatDoor.S
open Go.RowKit Go.Extern.Stop Go.Stop Go.Extern Go.Proofs.YtopcidphlleciaaGreatDoorW.PrintWords Go.Proofs.YtopcidphlleciaaGreatDoorW.PrintLast Go.Proofs.YtopcidphlleciaaGreatDoorW.PrintMore
set_option linter.unusedVariables false
set_option linter.unusedSimpArgs false
abbrev Shp := ByteArray × Int × Bool
abbrev TB := List (ByteArray × Shp)
def lkT : TB → ByteArray → Option Shp
  | [], _ => none
  | (a, x) :: r, k => if a = k then some x else lkT r k
/-- The calls' words: which arguments each has. -/
def tab : TB := [
  (⟨#[104, 101, 97, 100]⟩, ⟨#[]⟩, 0, false),
  (⟨#[101, 118, 101, 110, 116, 115]⟩, ⟨#[]⟩, 0, false),
  (⟨#[109, 101, 110, 100]⟩, ⟨#[]⟩, 0, false),
  (⟨#[99, 108, 105, 101, 110, 116]⟩, ⟨#[]⟩, 0, false),
  (⟨#[115, 101, 114, 118, 101]⟩, ⟨#[]⟩, 0, false),
  (⟨#[116, 105, 99, 107]⟩, ⟨#[]⟩, 0, false),
  (⟨#[102, 108, 121]⟩, ⟨#[]⟩, 0, false),
  (⟨#[112, 97, 103, 101]⟩, ⟨#[84]⟩, 0, false),
  (⟨#[102, 105, 108, 101]⟩, ⟨#[84]⟩, 0, false),
  (⟨#[119, 104, 111]⟩, ⟨#[84]⟩, 0, false),
  (⟨#[104, 111, 108, 100]⟩, ⟨#[84]⟩, 0, false),
  (⟨#[102, 101, 116, 99, 104]⟩, ⟨#[84]⟩, 0, false),
  (⟨#[102, 114, 101, 115, 104]⟩, ⟨#[84]⟩, 0, false),
  (⟨#[115, 104, 117, 116]⟩, ⟨#[84]⟩, 0, false),
  (⟨#[97, 99, 99, 111, 117, 110, 116]⟩, ⟨#[84, 84]⟩, 0, false),
  (⟨#[116, 101, 97, 109]⟩, ⟨#[84, 84]⟩, 0, false),
  (⟨#[103, 101, 116]⟩, ⟨#[84, 84]⟩, 0, false),
  (⟨#[121, 97, 110, 107]⟩, ⟨#[84, 84, 84]⟩, 0, false),
  (⟨#[117, 110, 121, 97, 110, 107]⟩, ⟨#[84, 84, 84]⟩, 0, false),
  (⟨#[111, 119, 110]⟩, ⟨#[84, 84, 84]⟩, 0, false),
  (⟨#[100, 105, 115, 111, 119, 110]⟩, ⟨#[84, 84, 84]⟩, 0, false),
  (⟨#[106, 111, 105, 110]⟩, ⟨#[84, 84, 84]⟩, 0, false),
  (⟨#[108, 101, 97, 118, 101]⟩, ⟨#[84, 84, 84]⟩, 0, false),
  (⟨#[100, 101, 112, 114, 101, 99, 97, 116, 101]⟩, ⟨#[84, 84, 84, 84]⟩, 0, false),
  (⟨#[112, 117, 98, 108, 105, 115, 104]⟩, ⟨#[84, 84, 84, 84]⟩, 0, true),
  (⟨#[112, 111, 119, 101, 114]⟩, ⟨#[78]⟩, 1, false),
  (⟨#[115, 101, 110, 100]⟩, ⟨#[73]⟩, 0, false),
  (⟨#[114, 101, 118]⟩, ⟨#[73]⟩, 0, false),
  (⟨#[104, 101, 97, 114, 100]⟩, ⟨#[73]⟩, 0, false),
  (⟨#[101, 118, 101, 110, 116, 115, 45, 111, 102]⟩, ⟨#[73]⟩, 0, false),
  (⟨#[112, 117, 108, 108]⟩, ⟨#[73]⟩, 0, false),
  (⟨#[112, 111, 119, 101, 114, 45, 111, 102]⟩, ⟨#[73, 78]⟩, 1, false),
  (⟨#[115, 111, 108, 118, 101]⟩, ⟨#[73, 78, 84]⟩, 0, false),
  (⟨#[112, 97, 103, 101, 45, 111, 102]⟩, ⟨#[73, 78, 84]⟩, 0, false),
  (⟨#[115, 111, 108, 118, 101, 45, 104, 101, 114, 101]⟩, ⟨#[78, 84]⟩, 0, false),
  (⟨#[108, 111, 99, 107]⟩, ⟨#[78, 84]⟩, 0, false),
  (⟨#[104, 111, 108, 100, 45, 111, 102]⟩, ⟨#[73, 84]⟩, 0, false)]
def fitB (k : UInt8) (s : BL) : Bool := if k = 73 then (match numO s with | some n => decide (n < 8) | none => false) else if k = 78 then (numO s).isSome else true
/-- The first argument that may not be. -/
def firstBad (kinds : BL) (more : Bool) : Nat → List ByteArray → Option Nat
  | _, [] => none
  | i, a :: r => if (match kinds[i]? with | none => !more | some k => !fitB k (tl a)) then some i else firstBad kinds more (i + 1) r
abbrev Bd := Nat × ByteArray × Int
def okB : Bd := (0, ⟨#[]⟩, -1)
def checkF (word : ByteArray) (args : List ByteArray) : Bd := match lkT tab word with
  | none => (301, word, -1)
  | some (kinds, less, more) => match firstBad (tl kinds) more 0 args with
    | some i => (302, word, i)
    | none => if (args.length : Int) < kinds.size - less ∨ (kinds.size < args.length ∧ (args.length - kinds.size) % 2 = 1) then (302, word, args.length) else okB
end Go.Proofs.YtopcidphlleciaaGreatDoor.S

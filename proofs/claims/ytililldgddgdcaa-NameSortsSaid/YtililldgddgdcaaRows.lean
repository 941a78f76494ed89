/-
  No cell of these rows narrows 'for every input' (looked for: loops, veiled, ifaces, maps, wideKeys, modest, calm, conditions, laid).
  DERIVED. THE GIVEN ROWS OF THIS SEAT. 4 by the template 'for every input the law returns true; each argument reads behind the call as it read before'; 0 by the template 'total and deterministic' (their statements: YtililldgddgdcaaTotals.lean).
  GIVEN WITH THE SEED: the statements are not yours to turn. If you find one false, say at which input.
  Laid BY PROGRAM, IN A SANDBOX (cutbox-rows.mjs): the forced cells as the released guide's own fill.sh prints them over the translation 2f26099efeeb3561… (all of the seat's roots in one cut). By AI agents, Wed Nov 11 2026. No macro, syntax, notation, axiom, sorry.
-/
import Derived.Test.YtililldgddgdcaaChecked
import GoSem.Claim
import GoSem.ClaimJoined
import GoSem.ClaimMapViews
import Derived.JoinedTies
import Derived.KernelRfl
namespace Go.Proofs.Ytililldgddgdcaa
/- THE CELL 'sum', in the pinned program and in every row, IS THE sha256 OF THE DUMP (.gsa) THAT YtililldgddgdcaaProg.lean LOADS. Nothing in Lean hashes anything: it is a label: what it is worth is what the hold of that sum in a sandbox is worth. -/
noncomputable def Try.pinned : Pinned := { name := "ytililldgddgdcaa", sum := "2f26099efeeb356174fa593b681516398fb01892c97fa80a396736561f8ef859", checked := Try.checked }
namespace Rows
def none {H : Type} : Left H := { results := [], args := [] }

/-- 'yanklinelaw06.NameHolders': WHATEVER THE INPUT: true; the input reads as it did. -/
def nameHoldersSpec : ChangeSpec := { name := "nameHolders", fn := fun _ => fun
  | [d] => { results := [.lit (.bool true)], args := [d] }
  | _ => none }
def nameHoldersRow : OpenClaim := { program := "ytililldgddgdcaa", sum := "2f26099efeeb356174fa593b681516398fb01892c97fa80a396736561f8ef859", func := "yankline/yanklinelaw06.NameHolders", spec := "nameHolders", inPlace := ["internal/abi.NoEscape"], apart := false }
def NameHoldersSaid : Prop := nameHoldersRow.holds Try.pinned (OpenSpec.ofChange nameHoldersSpec)

/-- ITS FALSE NEIGHBOUR: 'it returns false'. Refute it at one input. -/
def nameHoldersWrong : ChangeSpec := { name := "nameHolders", fn := fun _ => fun
  | [d] => { results := [.lit (.bool false)], args := [d] }
  | _ => none }
def NameHoldersWrongFalsely : Prop := nameHoldersRow.holds Try.pinned (OpenSpec.ofChange nameHoldersWrong)

/-- 'yanklinelaw06.NameOnce': WHATEVER THE INPUT: true; the input reads as it did. -/
def nameOnceSpec : ChangeSpec := { name := "nameOnce", fn := fun _ => fun
  | [d1, d2, d3] => { results := [.lit (.bool true)], args := [d1, d2, d3] }
  | _ => none }
def nameOnceRow : OpenClaim := { program := "ytililldgddgdcaa", sum := "2f26099efeeb356174fa593b681516398fb01892c97fa80a396736561f8ef859", func := "yankline/yanklinelaw06.NameOnce", spec := "nameOnce", inPlace := ["internal/abi.NoEscape"], apart := false }
def NameOnceSaid : Prop := nameOnceRow.holds Try.pinned (OpenSpec.ofChange nameOnceSpec)

/-- ITS FALSE NEIGHBOUR: 'it returns false'. Refute it at one input. -/
def nameOnceWrong : ChangeSpec := { name := "nameOnce", fn := fun _ => fun
  | [d1, d2, d3] => { results := [.lit (.bool false)], args := [d1, d2, d3] }
  | _ => none }
def NameOnceWrongFalsely : Prop := nameOnceRow.holds Try.pinned (OpenSpec.ofChange nameOnceWrong)

/-- 'yanklinelaw06.NameForms': WHATEVER THE INPUT: true; the input reads as it did. -/
def nameFormsSpec : ChangeSpec := { name := "nameForms", fn := fun _ => fun
  | [d1, d2] => { results := [.lit (.bool true)], args := [d1, d2] }
  | _ => none }
def nameFormsRow : OpenClaim := { program := "ytililldgddgdcaa", sum := "2f26099efeeb356174fa593b681516398fb01892c97fa80a396736561f8ef859", func := "yankline/yanklinelaw06.NameForms", spec := "nameForms", inPlace := ["internal/abi.NoEscape"], apart := false }
def NameFormsSaid : Prop := nameFormsRow.holds Try.pinned (OpenSpec.ofChange nameFormsSpec)

/-- ITS FALSE NEIGHBOUR: 'it returns false'. Refute it at one input. -/
def nameFormsWrong : ChangeSpec := { name := "nameForms", fn := fun _ => fun
  | [d1, d2] => { results := [.lit (.bool false)], args := [d1, d2] }
  | _ => none }
def NameFormsWrongFalsely : Prop := nameFormsRow.holds Try.pinned (OpenSpec.ofChange nameFormsWrong)

/-- 'yanklinelaw06.NameSorts': WHATEVER THE INPUT: true; the input reads as it did. -/
def nameSortsSpec : ChangeSpec := { name := "nameSorts", fn := fun _ => fun
  | [d] => { results := [.lit (.bool true)], args := [d] }
  | _ => none }
def nameSortsRow : OpenClaim := { program := "ytililldgddgdcaa", sum := "2f26099efeeb356174fa593b681516398fb01892c97fa80a396736561f8ef859", func := "yankline/yanklinelaw06.NameSorts", spec := "nameSorts", inPlace := ["internal/abi.NoEscape"], recurses := true, apart := false }
def NameSortsSaid : Prop := nameSortsRow.holds Try.pinned (OpenSpec.ofChange nameSortsSpec)

/-- ITS FALSE NEIGHBOUR: 'it returns false'. Refute it at one input. -/
def nameSortsWrong : ChangeSpec := { name := "nameSorts", fn := fun _ => fun
  | [d] => { results := [.lit (.bool false)], args := [d] }
  | _ => none }
def NameSortsWrongFalsely : Prop := nameSortsRow.holds Try.pinned (OpenSpec.ofChange nameSortsWrong)

/- THE SECOND FORM. 'bulk': how many values and letters a reading holds, each counted each time it is reached (what is shared counts as often as it is met; a slice's spare places count too). A statement '..UptoSaid' is the law's where the arguments, and the package variables that the reading takes, are together of bulk at most 1048576: NARROWER than '..Said'. Prove '..Said' where nothing that the law and all that it calls make is longer than what came in: it says more and counts as full. Else prove '..UptoSaid'. A law counts once. -/
mutual
def uptoBulk {H : Type} : DataW H → Nat
  | .lit (.string bytes) => bytes.length + 1
  | .lit _ => 1
  | .nil => 1
  | .ptr d => uptoBulk d + 1
  | .slice elems spare => uptoBulkAll elems + uptoBulkAll spare + 1
  | .agg parts => uptoBulkAll parts + 1
  | .iface _ d => uptoBulk d + 1
  | .map entries => uptoBulkEntries entries + 1
  | .held _ => 1
def uptoBulkAll {H : Type} : List (DataW H) → Nat
  | [] => 0
  | d :: r => uptoBulk d + uptoBulkAll r
def uptoBulkEntries {H : Type} : List (Lit × DataW H) → Nat
  | [] => 0
  | x :: r => uptoBulkEntry x + uptoBulkEntries r
def uptoBulkEntry {H : Type} : Lit × DataW H → Nat
  | (.string bytes, d) => bytes.length + uptoBulk d + 1
  | (_, d) => uptoBulk d + 1
 end
def uptoSmall : (H : Type) → List (DataW H) → Bool := fun _ ds => decide (uptoBulkAll ds ≤ 1048576)
def OpenSpec.upto (s : _root_.Go.ChangeSpec) : _root_.Go.OpenSpec := { _root_.Go.OpenSpec.ofChange s with cond := some uptoSmall }

/-- 'yanklinelaw06.NameHolders', WHERE WHAT IT READS IS OF BULK AT MOST 1048576: true; the input reads as it did. -/
def nameHoldersUptoRow : OpenClaim := { program := "ytililldgddgdcaa", sum := "2f26099efeeb356174fa593b681516398fb01892c97fa80a396736561f8ef859", func := "yankline/yanklinelaw06.NameHolders", spec := "nameHolders", inPlace := ["internal/abi.NoEscape"], apart := false, narrowed := true }
def NameHoldersUptoSaid : Prop := nameHoldersUptoRow.holds Try.pinned (OpenSpec.upto nameHoldersSpec)

/-- 'yanklinelaw06.NameOnce', WHERE WHAT IT READS IS OF BULK AT MOST 1048576: true; the input reads as it did. -/
def nameOnceUptoRow : OpenClaim := { program := "ytililldgddgdcaa", sum := "2f26099efeeb356174fa593b681516398fb01892c97fa80a396736561f8ef859", func := "yankline/yanklinelaw06.NameOnce", spec := "nameOnce", inPlace := ["internal/abi.NoEscape"], apart := false, narrowed := true }
def NameOnceUptoSaid : Prop := nameOnceUptoRow.holds Try.pinned (OpenSpec.upto nameOnceSpec)

/-- 'yanklinelaw06.NameForms', WHERE WHAT IT READS IS OF BULK AT MOST 1048576: true; the input reads as it did. -/
def nameFormsUptoRow : OpenClaim := { program := "ytililldgddgdcaa", sum := "2f26099efeeb356174fa593b681516398fb01892c97fa80a396736561f8ef859", func := "yankline/yanklinelaw06.NameForms", spec := "nameForms", inPlace := ["internal/abi.NoEscape"], apart := false, narrowed := true }
def NameFormsUptoSaid : Prop := nameFormsUptoRow.holds Try.pinned (OpenSpec.upto nameFormsSpec)

/-- 'yanklinelaw06.NameSorts', WHERE WHAT IT READS IS OF BULK AT MOST 1048576: true; the input reads as it did. -/
def nameSortsUptoRow : OpenClaim := { program := "ytililldgddgdcaa", sum := "2f26099efeeb356174fa593b681516398fb01892c97fa80a396736561f8ef859", func := "yankline/yanklinelaw06.NameSorts", spec := "nameSorts", inPlace := ["internal/abi.NoEscape"], recurses := true, apart := false, narrowed := true }
def NameSortsUptoSaid : Prop := nameSortsUptoRow.holds Try.pinned (OpenSpec.upto nameSortsSpec)

end Rows
end Go.Proofs.Ytililldgddgdcaa

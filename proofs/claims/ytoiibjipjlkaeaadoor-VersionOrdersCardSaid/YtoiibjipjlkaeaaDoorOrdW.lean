/- VersionOrders, as the row hands its parameters. -/
import Derived.Test.YtoiibjipjlkaeaaDoorLawOA
import Derived.Test.YtoiibjipjlkaeaaDoorOpenV
namespace Go.Proofs.YtoiibjipjlkaeaaDoor.PV
open Go.RowKit Go.Proofs.YtoiibjipjlkaeaaDoorW.PrintWords Go.Proofs.YtoiibjipjlkaeaaDoorW.PrintLast Go.Proofs.YtoiibjipjlkaeaaDoorW.PrintMore
attribute [local go_sem] max2_int min2_int max_two min_two max_three min_three max_four min_four   -- for this text's walks alone
set_option linter.unusedVariables false
set_option linter.unusedSimpArgs false

/-! VersionOrders, as the row hands its parameters. -/
theorem verOrders_walk (a b c : Int) (A : Option Addr) (cA : Nat) (l : List ByteArray) (a' b' c' : Int) (B : Option Addr) (cB : Nat) (m : List ByteArray) (s t : ByteArray) (w : World)
    (_ : 0 ≤ a ∧ a ≤ 4294967295) (_ : 0 ≤ b ∧ b ≤ 4294967295) (_ : 0 ≤ c ∧ c ≤ 4294967295) (hA : Kd.C Kd.string w A l.length l) (hcA : l.length ≤ cA) (hla : l.length * 16 ≤ 140737488351232) (_ : ∀ x ∈ l, x.size ≤ 140737488351232)
    (_ : 0 ≤ a' ∧ a' ≤ 4294967295) (_ : 0 ≤ b' ∧ b' ≤ 4294967295) (_ : 0 ≤ c' ∧ c' ≤ 4294967295) (hB : Kd.C Kd.string w B m.length m) (hcB : m.length ≤ cB) (hlb : m.length * 16 ≤ 140737488351232) (_ : ∀ x ∈ m, x.size ≤ 140737488351232)
    (_ : s.size ≤ 140737488351232) (_ : t.size ≤ 140737488351232) (hG : GW w) :
    Calls Tryd.prog 5 #[.agg #[.int .u32 a, .int .u32 b, .int .u32 c, .slice A l.length cA], .agg #[.int .u32 a', .int .u32 b', .int .u32 c', .slice B m.length cB], .string s, .string t] w fun e w' => e = .returned (.bool true) ∧ Below w.heap.size w w' :=
  verOrders_calls a b c A cA l a' b' c' B cB m s t w hA hcA (by omega) hB hcB (by omega) hG

end Go.Proofs.YtoiibjipjlkaeaaDoor.PV

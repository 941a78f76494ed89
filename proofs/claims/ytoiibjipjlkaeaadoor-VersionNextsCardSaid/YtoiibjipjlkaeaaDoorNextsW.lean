/- The law VersionNexts, walked. -/
import Derived.Test.YtoiibjipjlkaeaaDoorNextsF
import Derived.Test.YtoiibjipjlkaeaaDoorNextsT
import Derived.Test.YtoiibjipjlkaeaaDoorNextsN
namespace Go.Proofs.YtoiibjipjlkaeaaDoor.PV
open Go.RowKit Go.Proofs.YtoiibjipjlkaeaaDoorW.PrintWords Go.Proofs.YtoiibjipjlkaeaaDoorW.PrintLast Go.Proofs.YtoiibjipjlkaeaaDoorW.PrintMore
attribute [local go_sem] max2_int min2_int max_two min_two max_three min_three max_four min_four   -- for this text's walks alone
set_option linter.unusedVariables false
set_option linter.unusedSimpArgs false

theorem verNexts_walk (a b c : Int) (A : Option Addr) (cA : Nat) (l : List ByteArray) (part : Int) (w : World)
    (ha : 0 ≤ a ∧ a ≤ 4294967295) (hb : 0 ≤ b ∧ b ≤ 4294967295) (hc : 0 ≤ c ∧ c ≤ 4294967295) (hA : Kd.C Kd.string w A l.length l) (hcA : l.length ≤ cA) (hla : l.length * 16 ≤ 140737488351232) (_ : ∀ x ∈ l, x.size ≤ 140737488351232)
    (_ : -9223372036854775808 ≤ part ∧ part ≤ 9223372036854775807) (hG : GW w) :
    Calls Tryd.prog 6 #[.agg #[.int .u32 a, .int .u32 b, .int .u32 c, .slice A l.length cA], .int .i64 part] w fun e w' => e = .returned (.bool true) ∧ Below w.heap.size w w' :=
  by
  cases hm : mayV a b c l
  · exact nexts_f a b c A cA l part w ha.1 hb.1 hc.1 hA hcA (by omega) hG hm
  · by_cases h0 : l.length = 0
    · exact nexts_t0 a b c A cA l part w ha.1 hb.1 hc.1 hA hcA (by omega) hG hm ⟨h0⟩
    · exact nexts_tn a b c A cA l part w ha.1 hb.1 hc.1 hA hcA (by omega) hG hm ⟨h0⟩

end Go.Proofs.YtoiibjipjlkaeaaDoor.PV

/- The pure law of NameOnce: for every input the printed function comes to true. -/
import Derived.Test.YtililldgddgdcaaPlainB
namespace Go.Proofs.Ytililldgddgdcaa.Pure
open Go.Proofs.Ytililldgddgdcaa.PA
theorem NameOnce : yanklinelaw06_NameOnce.Pure := by
  intro a b c _ _ _
  exact ⟨74, NameOnce_law a b c⟩
end Go.Proofs.Ytililldgddgdcaa.Pure

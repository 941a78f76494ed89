/- The pure law of NameForms: for every input the printed function comes to true. -/
import Derived.Test.YtililldgddgdcaaPlainB
namespace Go.Proofs.Ytililldgddgdcaa.Pure
open Go.Proofs.Ytililldgddgdcaa.PA
theorem NameForms : yanklinelaw06_NameForms.Pure := by
  intro a b _ _
  exact ⟨70, NameForms_law a b⟩
end Go.Proofs.Ytililldgddgdcaa.Pure

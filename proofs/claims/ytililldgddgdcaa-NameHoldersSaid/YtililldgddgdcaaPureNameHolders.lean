/- The pure law of NameHolders: for every input the printed function comes to true. -/
import Derived.Test.YtililldgddgdcaaPlainB
namespace Go.Proofs.Ytililldgddgdcaa.Pure
open Go.Proofs.Ytililldgddgdcaa.PA
theorem NameHolders : yanklinelaw06_NameHolders.Pure := by
  intro a _
  exact ⟨70, NameHolders_law a⟩
end Go.Proofs.Ytililldgddgdcaa.Pure

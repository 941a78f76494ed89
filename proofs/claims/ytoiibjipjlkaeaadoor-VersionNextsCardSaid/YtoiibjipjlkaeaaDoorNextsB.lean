/- Small facts for VersionNexts. -/
import Derived.Test.YtoiibjipjlkaeaaDoorLeastA
import Derived.Test.YtoiibjipjlkaeaaDoorRefN
import Derived.Test.YtoiibjipjlkaeaaDoorLawOA
import Derived.Test.YtoiibjipjlkaeaaDoorOpenV
import Derived.Test.YtoiibjipjlkaeaaDoorAliveA
import Derived.Deep.RegionWith
namespace Go.Proofs.YtoiibjipjlkaeaaDoor.PV
open Go.RowKit Go.Proofs.YtoiibjipjlkaeaaDoorW.PrintWords Go.Proofs.YtoiibjipjlkaeaaDoorW.PrintLast Go.Proofs.YtoiibjipjlkaeaaDoorW.PrintMore
attribute [local go_sem] max2_int min2_int max_two min_two max_three min_three max_four min_four   -- for this text's walks alone
set_option linter.unusedVariables false
set_option linter.unusedSimpArgs false

theorem next_nil {a b c : Int} {l : List ByteArray} {part r1 r2 r3 : Int} {r4 : List ByteArray} {r5 : Int} (h : version_Next.f a b c l part = some (r1, r2, r3, r4, r5)) : r4 = [] := by
  unfold version_Next.f at h
  split at h
  · have h := Option.some.inj h
    split at h
    · split at h <;> (cases h; rfl)
    · cases h; rfl
  · cases h
theorem next_some {a b c : Int} (l : List ByteArray) (part : Int) (ha : 0 ≤ a) (hb : 0 ≤ b) (hc : 0 ≤ c) : ∃ r1 r2 r3 r4 r5, version_Next.f a b c l part = some (r1, r2, r3, r4, r5) := by
  unfold version_Next.f
  rw [if_pos ⟨ha, hb, hc⟩]
  exact ⟨_, _, _, _, _, rfl⟩
theorem sameV_self (a b c : Int) (l : List ByteArray) : sameV a b c l a b c l = true := by simp [sameV]

end Go.Proofs.YtoiibjipjlkaeaaDoor.PV

/- The fact of the world that all contracts of this seat are handed: the library's variable MaxLen holds some int. -/
import Derived.Below
import Derived.WalkKit
import Derived.Deep.Draws
namespace Go.Proofs.YthnajibbkinlkaaGreatDoor.PV
open Go.RowKit
def GW (w : World) : Prop := ∃ m, w.cell? ⟨0, 0, none⟩ = some (.int .i64 m)
theorem GW.below {w w1 : World} (h : GW w) (hb : Below w.heap.size w w1) : GW w1 := by
  obtain ⟨m, hm⟩ := h
  exact ⟨m, (hb.cell (World.block_lt_of_cell? w _ hm)).trans hm⟩
theorem GW.dn {w : World} (h : GW w) (n : Nat) : GW (w.drewN n) := h
end Go.Proofs.YthnajibbkinlkaaGreatDoor.PV

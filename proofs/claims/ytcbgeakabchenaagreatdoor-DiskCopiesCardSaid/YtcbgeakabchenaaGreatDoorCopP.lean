/- Copies of both disks. -/
import Derived.Test.YtcbgeakabchenaaGreatDoorPlayL
import Derived.Test.YtcbgeakabchenaaGreatDoorRefO1
import Derived.Test.YtcbgeakabchenaaGreatDoorRefO2
namespace Go.Proofs.YtcbgeakabchenaaGreatDoor.D
open Go.RowKit Go.Extern.Stop Go.Stop Go.Extern Go.Proofs.YtcbgeakabchenaaGreatDoorW.PrintWords Go.Proofs.YtcbgeakabchenaaGreatDoorW.PrintLast Go.Proofs.YtcbgeakabchenaaGreatDoorW.PrintMore
set_option linter.unusedVariables false
set_option linter.unusedSimpArgs false
theorem rcopy_calls (p g : Nat) (s : St) (w : World) (h : RK w p g s) : Calls Tryz.prog 14 #[.pointer (some ⟨p, 0, none⟩)] w fun e w' => ∃ p' g', e = .returned (.pointer (some ⟨p', 0, none⟩)) ∧ w.heap.size ≤ p' ∧ w.heap.size ≤ g' ∧ RK w' p' g' s ∧ Below w.heap.size w w' := by
  have hk := h.okf
  obtain ⟨v, hJ⟩ := h.rj
  rcases hJ.2.shape with ⟨rfl, _, hL⟩ | ⟨cap, rfl, _⟩
  · exact rcopy_nil p g s w hJ hk hL
  · exact rcopy_row p g cap s w hJ hk
theorem half_copy {w0 w1 w2 : World} {p b q g : Nat} {s : St} (hp : w0.heap.size ≤ p) (hb : w0.heap.size ≤ b) (hd : DK w1 p b s) (h1 : Below w0.heap.size w0 w1) (hq : w1.heap.size ≤ q) (hg : w1.heap.size ≤ g) (hr : RK w2 q g s) (h2 : Below w1.heap.size w1 w2) (hs : Good s.L) : Half w0.heap.size w0 w2 p b q g s s := by
  have h3 := hd.lt
  have h4 := hd.ltb
  have h5 := h1.size
  exact ⟨hd.below h2, hr, hs, hs, hp, hb, by omega, by omega, by omega, by omega, by omega, by omega, h1.trans (h2.mono h5)⟩
end Go.Proofs.YtcbgeakabchenaaGreatDoor.D

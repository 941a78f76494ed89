/- The document's copy of no files. -/
import Derived.Test.YtcbgeakabchenaaGreatDoorRefO
namespace Go.Proofs.YtcbgeakabchenaaGreatDoor.D
open Go.RowKit Go.Extern.Stop Go.Stop Go.Extern Go.Proofs.YtcbgeakabchenaaGreatDoorW.PrintWords Go.Proofs.YtcbgeakabchenaaGreatDoorW.PrintLast Go.Proofs.YtcbgeakabchenaaGreatDoorW.PrintMore
set_option linter.unusedVariables false
set_option linter.unusedSimpArgs false
set_option maxHeartbeats 16000000 in
set_option maxRecDepth 100000 in
theorem rcopy_nil (p g : Nat) (s : St) (w : World) (h : RJ w p g (.slice none 0 0) s) (hk : Okf s.L) (hL : s.L = []) : Calls Tryz.prog 14 #[.pointer (some ⟨p, 0, none⟩)] w fun e w' => ∃ p' g', e = .returned (.pointer (some ⟨p', 0, none⟩)) ∧ w.heap.size ≤ p' ∧ w.heap.size ≤ g' ∧ RK w' p' g' s ∧ Below w.heap.size w w' := by
  obtain ⟨c0, c1, c2, c3, cf⟩ := h.cells
  have hp : p < w.heap.size := (Array.getElem?_eq_some_iff.1 h.1).1
  have HK := Aside0.mk (And.intro hk hL)
  clear h hk hL cf
  go_enter Tryz.func14, Tryz.ntmps14
  go_wp2_with (fail)
  go_region
  go_wp2_with (fail)
  go_ret
  have hb : Below w.heap.size w (w.drew.alloc (.cells #[] 71)) := (below_drew1 (Below.refl w.heap.size w)).alloc (Nat.le_refl _) (Obj.cells #[] 71)
  obtain ⟨h1, h2⟩ := cp_end (w := w) (w1 := w.drew.alloc (.cells #[] 71)) (g' := w.heap.size) (cap' := 0) (s := s) HK.out.1 (Nat.le_refl _) (by simp) (by rw [HK.out.2]; exact ⟨⟨rfl, .inr ⟨w.heap.size, 0, #[], rfl, Nat.zero_le _, heap_alloc_new w.drew _, Nat.le_refl _, by decide, rfl, rfl⟩⟩, .inr rfl⟩) hb
  rw [show s.L.length = 0 by rw [HK.out.2]; rfl] at h1 h2
  have h3 : RK ((w.drew.alloc (Obj.cells #[] 71)).alloc (Obj.cells (cellsR (Value.slice (some ⟨w.heap.size, 0, none⟩) 0 0) s) 33)) (w.heap.size + 1) w.heap.size s := by simpa using h1
  exact ⟨w.heap.size + 1, w.heap.size, rfl, by omega, Nat.le_refl _, h3.kept' rfl rfl, ⟨h2.os, h2.tape, h2.output, by simp; omega, h2.block⟩⟩
end Go.Proofs.YtcbgeakabchenaaGreatDoor.D

/- The document's Unwrite. -/
import Derived.Test.YtopcidphlleciaaGreatDoorReD
namespace Go.Proofs.YtopcidphlleciaaGreatDoor.S
open Go.RowKit Go.Extern.Stop Go.Stop Go.Extern Go.Proofs.YtopcidphlleciaaGreatDoorW.PrintWords Go.Proofs.YtopcidphlleciaaGreatDoorW.PrintLast Go.Proofs.YtopcidphlleciaaGreatDoorW.PrintMore
set_option linter.unusedVariables false
set_option linter.unusedSimpArgs false
theorem goV_fst (x : BL) : (goV x).1 = (sc x).isBad.isNone := by
  unfold goV
  by_cases h : x = [37]
  · rw [if_pos h, h, sc_1]; rfl
  · rw [if_neg h]
    cases sc x <;> rfl
/-- A first part that cannot go on: the text is wrong at a place within it. -/
theorem goV_take (s : BL) (n : Nat) : (goV (s.take n)).1 = false ↔ ∃ k, sc s = .bad k ∧ k < n := by
  rw [goV_fst, sc_take s.length s (Nat.le_refl _) n]
  cases h : sc s with
  | bad k =>
    simp only [Sc.isBad, Option.bind_some]
    by_cases hk : k < n
    · rw [if_pos hk]
      exact ⟨fun _ => ⟨k, rfl, hk⟩, fun _ => rfl⟩
    · rw [if_neg hk]
      refine ⟨fun q => by simp at q, ?_⟩
      rintro ⟨j, hj, hj2⟩
      injection hj with hj
      exact absurd (hj ▸ hj2) hk
  | short => exact ⟨fun q => by simp [Sc.isBad] at q, fun ⟨j, hj, _⟩ => by cases hj⟩
  | ok o => exact ⟨fun q => by simp [Sc.isBad] at q, fun ⟨j, hj, _⟩ => by cases hj⟩
end Go.Proofs.YtopcidphlleciaaGreatDoor.S

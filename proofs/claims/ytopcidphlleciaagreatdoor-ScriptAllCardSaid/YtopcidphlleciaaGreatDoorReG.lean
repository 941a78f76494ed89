/- The document's Unwrite at a text cut short. -/
import Derived.Test.YtopcidphlleciaaGreatDoorReF
namespace Go.Proofs.YtopcidphlleciaaGreatDoor.S
open Go.RowKit Go.Extern.Stop Go.Stop Go.Extern Go.Proofs.YtopcidphlleciaaGreatDoorW.PrintWords Go.Proofs.YtopcidphlleciaaGreatDoorW.PrintLast Go.Proofs.YtopcidphlleciaaGreatDoorW.PrintMore
set_option linter.unusedVariables false
set_option linter.unusedSimpArgs false
set_option maxHeartbeats 16000000 in
set_option maxRecDepth 100000 in
theorem runwrite_short (s : ByteArray) (w : World) (hs : s.size ≤ 4000000) (hb : ∀ k, sc (tl s) ≠ .bad k) (h2 : (goV (tl s)).2 = false) : Calls Tryz.prog 33 #[.string s] w fun e w' => e = .returned (unwV ([], s.size, false)) ∧ w = w' := by
  have HT : Aside0 (∀ n, ∀ w, Calls Tryz.prog 54 #[.string (s.extract 0 n)] w fun e w' => (∃ q, e = .returned (.tuple #[.bool true, .bool q])) ∧ w = w') := ⟨fun n w => goes_take s n w hs true (by
    cases h : (goV ((tl s).take n)).1
    · obtain ⟨j, hj, hj2⟩ := (goV_take (tl s) n).1 h
      exact absurd hj (hb j)
    · rfl)⟩
  have HF : Aside0 (∀ w, Calls Tryz.prog 54 #[.string s] w fun e w' => (∃ q, e = .returned (.tuple #[.bool q, .bool false])) ∧ w = w') := ⟨fun w => by
    refine (goes_calls s w (by omega)).mono ?_
    rintro e w' ⟨rfl, rfl⟩
    rw [h2]
    exact ⟨⟨_, rfl⟩, rfl⟩⟩
  clear hb h2
  go_enter Tryz.func33, Tryz.ntmps33
  go_wp2_with (fail)
  go_loop [5, 6, 7] (fun v5 v6 v7 => ∃ n : Nat, n ≤ s.size ∧ v5 = .int .i64 ((n : Int) + 1)) (fun v5 _ _ => s.size + 1 - (intOf v5).toNat)
  case atStart => exact ⟨0, Nat.zero_le _, rfl⟩
  case round =>
    obtain ⟨n, hn, rfl⟩ := hrel
    by_cases h : n = s.size
    · have h1' : ¬ (n : Int) + 1 ≤ (s.size : Int) := by omega
      clear h
      go_wp2_with (fail)
      refine (HF.out _).mono ?_
      rintro e w1 ⟨⟨q, rfl⟩, rfl⟩
      go_wp2_with (fail)
      exact bodyPost_ret (results_list (rs := [_, _, _]) Tryz.results33 (by simp) (.tmp (.tmp (.tmp .nil)))) rfl ⟨by unfold unwV; first | rfl | (simp; done) | (simp; omega), rfl⟩
    · have h0' : (0 : Int) ≤ (n : Int) + 1 := by omega
      have h1' : (n : Int) + 1 ≤ (s.size : Int) := by omega
      have hsl : ∀ W, (Instr.slice 9 (.string s) none (some (.int .i64 ((n : Int) + 1))) none).run Tryz.prog W = .ok (.string (s.extract 0 (n + 1))) W := fun W => by
        simp [Instr.slice, Instr.sliceBounds, Instr.sliceBound, asIntOf, run_underlying Tryz.underlying9, h0', h1']
        first | done | omega | (intro q; omega)
      have HN' := Aside0.mk (HT.out (n + 1))
      have h3 : n + 1 ≤ s.size := by omega
      clear h
      go_wp2_with (fail)
      refine (HN'.out _).mono ?_
      rintro e w1 ⟨⟨q, rfl⟩, rfl⟩
      go_wp2_with (fail)
      go_round
      case rel => exact ⟨n + 1, h3, by simp⟩
      all_goals
        show s.size + 1 - ((n : Int) + 1 + 1).toNat < s.size + 1 - ((n : Int) + 1).toNat
        omega
end Go.Proofs.YtopcidphlleciaaGreatDoor.S

/- The document's Unwrite. -/
import Derived.Test.YtopcidphlleciaaGreatDoorReH
import Derived.Test.YtopcidphlleciaaGreatDoorProC
namespace Go.Proofs.YtopcidphlleciaaGreatDoor.S
open Go.RowKit Go.Extern.Stop Go.Stop Go.Extern Go.Proofs.YtopcidphlleciaaGreatDoorW.PrintWords Go.Proofs.YtopcidphlleciaaGreatDoorW.PrintLast Go.Proofs.YtopcidphlleciaaGreatDoorW.PrintMore
set_option linter.unusedVariables false
set_option linter.unusedSimpArgs false
set_option maxHeartbeats 16000000 in
set_option maxRecDepth 100000 in
theorem runwrite_pct (s : ByteArray) (w : World) (hs : s.size ≤ 4000000) (hb : ∀ k, sc (tl s) ≠ .bad k) (h2 : (goV (tl s)).2 = true) (h3 : tl s = [37]) : Calls Tryz.prog 33 #[.string s] w fun e w' => e = .returned (unwV ([], 0, true)) ∧ w = w' := by
  have HT : Aside0 (∀ n, ∀ w, Calls Tryz.prog 54 #[.string (s.extract 0 n)] w fun e w' => (∃ q, e = .returned (.tuple #[.bool true, .bool q])) ∧ w = w') := ⟨fun n w => goes_take s n w hs true (by
    cases h : (goV ((tl s).take n)).1
    · obtain ⟨j, hj, hj2⟩ := (goV_take (tl s) n).1 h
      exact absurd hj (hb j)
    · rfl)⟩
  have HF : Aside0 (∀ w, Calls Tryz.prog 54 #[.string s] w fun e w' => (∃ q, e = .returned (.tuple #[.bool q, .bool true])) ∧ w = w') := ⟨fun w => by
    refine (goes_calls s w (by omega)).mono ?_
    rintro e w' ⟨rfl, rfl⟩
    rw [h2]
    exact ⟨⟨_, rfl⟩, rfl⟩⟩
  have hne : (s.toList == [37]) = true := by rw [beq_iff_eq, ByteArray.toList_eq]; exact h3
  clear hb h2 h3
  go_enter Tryz.func33, Tryz.ntmps33
  go_wp2_with (fail)
  go_loop [5, 6, 7] (fun v5 v6 v7 => ∃ n : Nat, n ≤ s.size ∧ v5 = .int .i64 ((n : Int) + 1)) (fun v5 _ _ => s.size + 1 - (intOf v5).toNat)
  case atStart => exact ⟨0, Nat.zero_le _, rfl⟩
  case round =>
    obtain ⟨n, hn, rfl⟩ := hrel
    by_cases h : n = s.size
    · have h1' : ¬ (n : Int) + 1 ≤ (s.size : Int) := by omega
      clear h
      go_wp2_with (fail)
      refine (HF.out _).mono ?_
      rintro e w1 ⟨⟨q, rfl⟩, rfl⟩
      go_wp2_with (fail)
      exact bodyPost_ret (results_list (rs := [_, _, _]) Tryz.results33 (by simp) (.tmp (.tmp (.tmp .nil)))) rfl ⟨by unfold unwV; first | rfl | (simp; done) | (simp; omega), rfl⟩
    · have h0' : (0 : Int) ≤ (n : Int) + 1 := by omega
      have h1' : (n : Int) + 1 ≤ (s.size : Int) := by omega
      have hsl : ∀ W, (Instr.slice 9 (.string s) none (some (.int .i64 ((n : Int) + 1))) none).run Tryz.prog W = .ok (.string (s.extract 0 (n + 1))) W := fun W => by
        simp [Instr.slice, Instr.sliceBounds, Instr.sliceBound, asIntOf, run_underlying Tryz.underlying9, h0', h1']
        first | done | omega | (intro q; omega)
      have HN' := Aside0.mk (HT.out (n + 1))
      have h3 : n + 1 ≤ s.size := by omega
      clear h
      go_wp2_with (fail)
      refine (HN'.out _).mono ?_
      rintro e w1 ⟨⟨q, rfl⟩, rfl⟩
      go_wp2_with (fail)
      go_round
      case rel => exact ⟨n + 1, h3, by simp⟩
      all_goals
        show s.size + 1 - ((n : Int) + 1 + 1).toNat < s.size + 1 - ((n : Int) + 1).toNat
        omega
theorem runwrite_calls (s : ByteArray) (w : World) (hs : s.size ≤ 4000000) : Calls Tryz.prog 33 #[.string s] w fun e w' => e = .returned (unwV (unw (tl s))) ∧ Below w.heap.size w w' := by
  have hl : (tl s).length = s.size := Array.length_toList
  have up : ∀ {v : Value}, (Calls Tryz.prog 33 #[.string s] w fun e w' => e = .returned v ∧ w = w') → Calls Tryz.prog 33 #[.string s] w fun e w' => e = .returned v ∧ Below w.heap.size w w' := fun h => h.mono fun e w' ⟨h1, h2⟩ => ⟨h1, h2 ▸ Below.refl _ _⟩
  by_cases h37 : tl s = [37]
  · have hu : unw (tl s) = ([], 0, true) := by unfold unw; rw [if_pos h37]
    rw [hu]
    refine up (runwrite_pct s w hs (fun k q => ?_) ?_ h37)
    · rw [h37, sc_1] at q; cases q
    · unfold goV; rw [if_pos h37]
  · cases hsc : sc (tl s) with
    | bad k =>
      rw [unw_bad h37 hsc]
      exact up (runwrite_bad s k w hs hsc)
    | short =>
      rw [unw_short h37 hsc, hl]
      refine up (runwrite_short s w hs (fun k q => ?_) ?_)
      · rw [hsc] at q; cases q
      · unfold goV; rw [if_neg h37, hsc]
    | ok o =>
      by_cases h0 : 0 < s.size
      · have ho : o ≠ [] := fun q => by
          have h1 := wr_sc _ (tl s) o (Nat.le_refl _) hsc
          rw [q] at h1
          have := congrArg List.length h1
          rw [hl] at this
          simp [wrL] at this
          omega
        rw [unw_ok h37 hsc ho]
        exact runwrite_ok s o w hs h37 h0 hsc
      · have hz : tl s = [] := List.length_eq_zero_iff.1 (by omega)
        have ho : o = [] := by rw [hz] at hsc; injection hsc with hsc; exact hsc.symm
        subst ho
        rw [unw_nil h37 hsc]
        have := runwrite_short s w hs (fun k q => by rw [hsc] at q; cases q) (by unfold goV; rw [if_neg h37, hsc]; exact decide_eq_false (by rw [hl]; exact h0))
        rw [show s.size = 0 by omega] at this
        exact up this
end Go.Proofs.YtopcidphlleciaaGreatDoor.S

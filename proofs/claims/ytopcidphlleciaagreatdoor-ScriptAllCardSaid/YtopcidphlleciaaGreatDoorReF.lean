/- The document's Unwrite at a wrong text. -/
import Derived.Test.YtopcidphlleciaaGreatDoorReE
namespace Go.Proofs.YtopcidphlleciaaGreatDoor.S
open Go.RowKit Go.Extern.Stop Go.Stop Go.Extern Go.Proofs.YtopcidphlleciaaGreatDoorW.PrintWords Go.Proofs.YtopcidphlleciaaGreatDoorW.PrintLast Go.Proofs.YtopcidphlleciaaGreatDoorW.PrintMore
set_option linter.unusedVariables false
set_option linter.unusedSimpArgs false
theorem tl_take (s : ByteArray) (n : Nat) : tl (s.extract 0 n) = (tl s).take n := by
  show (s.extract 0 n).data.toList = _
  rw [ByteArray.data_extract, Array.toList_extract, List.extract_eq_take_drop, Nat.sub_zero, List.drop_zero]
theorem bad_lt {s : BL} {k : Nat} (h : sc s = .bad k) : k < s.length := by
  have h1 := sc_take s.length s (Nat.le_refl _) s.length
  rw [List.take_length, h] at h1
  simp only [Sc.isBad, Option.bind_some] at h1
  by_cases q : k < s.length
  · exact q
  · rw [if_neg q] at h1; cases h1
/-- A first part of the text, asked. -/
theorem goes_take (s : ByteArray) (n : Nat) (w : World) (hs : s.size ≤ 4000000) (r : Bool) (hr : (goV ((tl s).take n)).1 = r) : Calls Tryz.prog 54 #[.string (s.extract 0 n)] w fun e w' => (∃ q, e = .returned (.tuple #[.bool r, .bool q])) ∧ w = w' := by
  have hz : (s.extract 0 n).size ≤ 140737488351232 := by rw [ByteArray.size_extract]; omega
  refine (goes_calls (s.extract 0 n) w hz).mono ?_
  rintro e w' ⟨rfl, rfl⟩
  rw [tl_take, hr]
  exact ⟨⟨_, rfl⟩, rfl⟩
set_option maxHeartbeats 16000000 in
set_option maxRecDepth 100000 in
theorem runwrite_bad (s : ByteArray) (k : Nat) (w : World) (hs : s.size ≤ 4000000) (hb : sc (tl s) = .bad k) : Calls Tryz.prog 33 #[.string s] w fun e w' => e = .returned (unwV ([], k, false)) ∧ w = w' := by
  have hk : k < s.size := by have := bad_lt hb; rw [Array.length_toList] at this; exact this
  have HT : Aside0 (∀ n, n ≤ k → ∀ w, Calls Tryz.prog 54 #[.string (s.extract 0 n)] w fun e w' => (∃ q, e = .returned (.tuple #[.bool true, .bool q])) ∧ w = w') := ⟨fun n hn w => goes_take s n w hs true (by
    cases h : (goV ((tl s).take n)).1
    · obtain ⟨j, hj, hj2⟩ := (goV_take (tl s) n).1 h
      rw [hb] at hj
      injection hj with hj
      omega
    · rfl)⟩
  have HF : Aside0 (∀ w, Calls Tryz.prog 54 #[.string (s.extract 0 (k + 1))] w fun e w' => (∃ q, e = .returned (.tuple #[.bool false, .bool q])) ∧ w = w') := ⟨fun w => goes_take s (k + 1) w hs false ((goV_take (tl s) (k + 1)).2 ⟨k, hb, by omega⟩)⟩
  clear hb
  go_enter Tryz.func33, Tryz.ntmps33
  go_wp2_with (fail)
  go_loop [5, 6, 7] (fun v5 v6 v7 => ∃ n : Nat, n ≤ k ∧ v5 = .int .i64 ((n : Int) + 1)) (fun v5 _ _ => k + 2 - (intOf v5).toNat)
  case atStart => exact ⟨0, Nat.zero_le _, rfl⟩
  case round =>
    obtain ⟨n, hn, rfl⟩ := hrel
    have h0' : (0 : Int) ≤ (n : Int) + 1 := by omega
    have h1' : (n : Int) + 1 ≤ (s.size : Int) := by omega
    have hsl : ∀ W, (Instr.slice 9 (.string s) none (some (.int .i64 ((n : Int) + 1))) none).run Tryz.prog W = .ok (.string (s.extract 0 (n + 1))) W := fun W => by
      simp [Instr.slice, Instr.sliceBounds, Instr.sliceBound, asIntOf, run_underlying Tryz.underlying9, h0', h1']
      first | done | omega | (intro q; omega)
    by_cases h : n = k
    · subst h
      go_wp2_with (fail)
      refine (HF.out _).mono ?_
      rintro e w1 ⟨⟨q, rfl⟩, rfl⟩
      go_wp2_with (fail)
      exact bodyPost_ret (results_list (rs := [_, _, _]) Tryz.results33 (by simp) (.tmp (.tmp (.tmp .nil)))) rfl ⟨by unfold unwV; first | rfl | (simp; done) | (simp; omega), rfl⟩
    · have HN := HT.out (n + 1) (by omega)
      have HN' := Aside0.mk HN
      have h3 : n + 1 ≤ k := by omega
      clear h HN
      go_wp2_with (fail)
      refine (HN'.out _).mono ?_
      rintro e w1 ⟨⟨q, rfl⟩, rfl⟩
      go_wp2_with (fail)
      go_round
      case rel => exact ⟨n + 1, h3, by simp⟩
      all_goals
        show k + 2 - ((n : Int) + 1 + 1).toNat < k + 2 - ((n : Int) + 1).toNat
        omega
end Go.Proofs.YtopcidphlleciaaGreatDoor.S

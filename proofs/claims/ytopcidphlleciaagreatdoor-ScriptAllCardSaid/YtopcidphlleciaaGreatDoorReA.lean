/- The document's plain and digit. -/
import Derived.Test.YtopcidphlleciaaGreatDoorProB
namespace Go.Proofs.YtopcidphlleciaaGreatDoor.S
open Go.RowKit Go.Extern.Stop Go.Stop Go.Extern Go.Proofs.YtopcidphlleciaaGreatDoorW.PrintWords Go.Proofs.YtopcidphlleciaaGreatDoorW.PrintLast Go.Proofs.YtopcidphlleciaaGreatDoorW.PrintMore
set_option linter.unusedVariables false
set_option linter.unusedSimpArgs false
set_option maxHeartbeats 8000000 in
theorem rplain_calls (c : UInt8) (w : World) : Calls Tryz.prog 59 #[.int .u8 (c.toNat : Int)] w fun e w' => e = .returned (.bool (plC c)) ∧ w = w' := by
  have hc : c.toNat < 256 := c.toNat_lt
  have hp : plC c = (decide (33 ≤ c.toNat) && (decide (c.toNat ≤ 126) && decide (c.toNat ≠ 37))) := by
    have h1 := byte_all (fun c => plC c == (decide (33 ≤ c.toNat) && (decide (c.toNat ≤ 126) && decide (c.toNat ≠ 37)))) (by decide +kernel) c
    simpa using h1
  have HP := Aside0.mk hp
  rw [hp]
  clear hp HP
  generalize c.toNat = n at *
  by_cases h1 : 33 ≤ n
  · have h1' : (33 : Int) ≤ (n : Int) := by omega
    by_cases h2 : n ≤ 126
    · have h2' : (n : Int) ≤ 126 := by omega
      by_cases h3 : n = 37
      · subst h3
        go_enter Tryz.func59, Tryz.ntmps59
        go_wp2
        go_ret
        exact ⟨by first | rfl | (simp; done), rfl⟩
      · have h3' : ¬ (n : Int) = 37 := by omega
        rw [decide_eq_true h1, decide_eq_true h2, decide_eq_true h3]
        go_enter Tryz.func59, Tryz.ntmps59
        go_wp2
        go_ret
        exact ⟨by first | rfl | (simp [h3, h3']; done), rfl⟩
    · have h2' : ¬ (n : Int) ≤ 126 := by omega
      rw [decide_eq_true h1, decide_eq_false h2]
      go_enter Tryz.func59, Tryz.ntmps59
      go_wp2
      go_ret
      exact ⟨by first | rfl | (simp; done), rfl⟩
  · have h1' : ¬ (33 : Int) ≤ (n : Int) := by omega
    rw [decide_eq_false h1]
    go_enter Tryz.func59, Tryz.ntmps59
    go_wp2
    go_ret
    exact ⟨by first | rfl | (simp; done), rfl⟩
theorem ixdigI (w : World) : ∀ (m : Nat), m < 16 → (Instr.index 9 (.string ⟨#[48, 49, 50, 51, 52, 53, 54, 55, 56, 57, 97, 98, 99, 100, 101, 102]⟩) (.int .i64 (m : Int))).run Tryz.prog w = .ok (.int .u8 ((hexd m).toNat : Int)) w
  | 0, _ => by kernel_rfl
  | 1, _ => by kernel_rfl
  | 2, _ => by kernel_rfl
  | 3, _ => by kernel_rfl
  | 4, _ => by kernel_rfl
  | 5, _ => by kernel_rfl
  | 6, _ => by kernel_rfl
  | 7, _ => by kernel_rfl
  | 8, _ => by kernel_rfl
  | 9, _ => by kernel_rfl
  | 10, _ => by kernel_rfl
  | 11, _ => by kernel_rfl
  | 12, _ => by kernel_rfl
  | 13, _ => by kernel_rfl
  | 14, _ => by kernel_rfl
  | 15, _ => by kernel_rfl
  | n + 16, h => absurd h (by omega)
theorem hexd_i (m : Nat) (h : m < 16) : hexi (hexd m) = some m := by
  have h1 : (List.range 16).all (fun m => hexi (hexd m) == some m) = true := by decide +kernel
  exact eq_of_beq (List.all_eq_true.1 h1 m (List.mem_range.2 h))
theorem i_hexd (c : UInt8) (k : Nat) (h : hexi c = some k) : hexd k = c := by
  have h1 := byte_all (fun c => match hexi c with | some k => hexd k == c | none => true) (by decide +kernel) c
  rw [h] at h1
  exact eq_of_beq h1
set_option maxHeartbeats 8000000 in
set_option maxRecDepth 100000 in
theorem rdigit_calls (c : UInt8) (w : World) : Calls Tryz.prog 55 #[.int .u8 (c.toNat : Int)] w fun e w' => e = .returned (.int .i64 (ixI c)) ∧ w = w' := by
  obtain ⟨res, hres⟩ : ∃ r, ixI c = r := ⟨_, rfl⟩
  rw [hres]
  have HR := Aside0.mk hres
  clear hres
  go_enter Tryz.func55, Tryz.ntmps55
  go_wp2_with (fail)
  go_loop [3] (fun v3 => ∃ i : Nat, i ≤ 16 ∧ v3 = .int .i64 i ∧ Aside0 (∀ j, j < i → hexd j ≠ c)) (fun v3 => 16 - (intOf v3).toNat)
  case atStart => exact ⟨0, by omega, rfl, ⟨fun j hj => absurd hj (by omega)⟩⟩
  case round =>
    obtain ⟨i, hi, rfl, HX⟩ := hrel
    by_cases h1 : i < 16
    · have h1' : (i : Int) < 16 := by omega
      have hix := fun w => ixdigI w i h1
      by_cases he : hexd i = c
      · have HE : Aside0 (res = (i : Int)) := ⟨by
          rw [← HR.out, ← he]
          unfold ixI
          rw [hexd_i i h1]⟩
        rw [he] at hix
        clear h1 he
        go_wp2_with (fail)
        go_ret
        exact ⟨by rw [HE.out]; rfl, rfl⟩
      · have he' : (((hexd i).toNat : Int) == (c.toNat : Int)) = false := by
          rw [beq_eq_false_iff_ne]
          exact fun q => he (UInt8.toNat_inj.1 (by omega))
        have HS : Aside0 (∀ j, j < i + 1 → hexd j ≠ c) := ⟨fun j hj => by
          rcases Nat.lt_or_ge j i with h | h
          · exact HX.out j h
          · rw [show j = i by omega]; exact he⟩
        clear h1 he
        go_wp2_with (fail)
        first | (go_round; case rel => exact ⟨i + 1, by omega, by simp, HS⟩; case measure => simp [intOf]; omega) | exact ⟨⟨i + 1, by omega, by simp, HS⟩, by simp [intOf]; omega⟩
    · have h1' : ¬ (i : Int) < 16 := by omega
      have HE : Aside0 (res = -1) := ⟨by
        rw [← HR.out]
        unfold ixI
        cases hx : hexi c with
        | none => rfl
        | some k => exact absurd (i_hexd c k hx) (HX.out k (by have := hexi_lt hx; omega))⟩
      go_wp2_with (fail)
      go_ret
      exact ⟨by rw [HE.out]; rfl, rfl⟩
end Go.Proofs.YtopcidphlleciaaGreatDoor.S

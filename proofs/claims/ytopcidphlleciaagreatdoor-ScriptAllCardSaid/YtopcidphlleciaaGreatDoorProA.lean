/- plain and high. -/
import Derived.Test.YtopcidphlleciaaGreatDoorScS
import Derived.Test.YtopcidphlleciaaGreatDoorShelf
import Derived.Deep.QuietTactic
import Derived.BigQuiet
import Derived.WalkKit
namespace Go.Proofs.YtopcidphlleciaaGreatDoor.S
open Go.RowKit Go.Extern.Stop Go.Stop Go.Extern Go.Proofs.YtopcidphlleciaaGreatDoorW.PrintWords Go.Proofs.YtopcidphlleciaaGreatDoorW.PrintLast Go.Proofs.YtopcidphlleciaaGreatDoorW.PrintMore
set_option linter.unusedVariables false
set_option linter.unusedSimpArgs false
def digS : ByteArray := ⟨#[48, 49, 50, 51, 52, 53, 54, 55, 56, 57, 97, 98, 99, 100, 101, 102]⟩
set_option maxHeartbeats 8000000 in
theorem plain_calls (c : UInt8) (w : World) : Calls Tryz.prog 49 #[.int .u8 (c.toNat : Int)] w fun e w' => e = .returned (.bool (plC c)) ∧ w = w' := by
  have hc : c.toNat < 256 := c.toNat_lt
  have hp : plC c = (decide (32 < c.toNat) && (decide (c.toNat < 127) && decide (c.toNat ≠ 37))) := by
    have h1 := byte_all (fun c => plC c == (decide (32 < c.toNat) && (decide (c.toNat < 127) && decide (c.toNat ≠ 37)))) (by decide +kernel) c
    simpa using h1
  have HP := Aside0.mk hp
  rw [hp]
  clear hp HP
  generalize c.toNat = n at *
  by_cases h1 : 32 < n
  · have h1' : (32 : Int) < (n : Int) := by omega
    by_cases h2 : n < 127
    · have h2' : (n : Int) < 127 := by omega
      by_cases h3 : n = 37
      · subst h3
        go_enter Tryz.func49, Tryz.ntmps49
        go_wp2
        go_ret
        exact ⟨by first | rfl | (simp; done), rfl⟩
      · have h3' : ¬ (n : Int) = 37 := by omega
        rw [decide_eq_true h1, decide_eq_true h2, decide_eq_true h3]
        go_enter Tryz.func49, Tryz.ntmps49
        go_wp2
        go_ret
        exact ⟨by first | rfl | (simp [h3, h3']; done), rfl⟩
    · have h2' : ¬ (n : Int) < 127 := by omega
      rw [decide_eq_true h1, decide_eq_false h2]
      go_enter Tryz.func49, Tryz.ntmps49
      go_wp2
      go_ret
      exact ⟨by first | rfl | (simp; done), rfl⟩
  · have h1' : ¬ (32 : Int) < (n : Int) := by omega
    rw [decide_eq_false h1]
    go_enter Tryz.func49, Tryz.ntmps49
    go_wp2
    go_ret
    exact ⟨by first | rfl | (simp; done), rfl⟩
/-- What IndexByte tells of a digit. -/
def ixI (c : UInt8) : Int := match hexi c with | some k => (k : Int) | none => -1
theorem hexi_lt {c : UInt8} {k : Nat} (h : hexi c = some k) : k < 16 := by
  have h1 := byte_all (fun c => match hexi c with | some k => decide (k < 16) | none => true) (by decide +kernel) c
  rw [h] at h1
  exact of_decide_eq_true h1
set_option maxHeartbeats 8000000 in
theorem high_calls (c : UInt8) (w : World) : Calls Tryz.prog 51 #[.int .i64 (ixI c)] w fun e w' => e = .returned (.bool (hiB c)) ∧ w = w' := by
  unfold ixI hiB
  cases h : hexi c with
  | none =>
    go_enter Tryz.func51, Tryz.ntmps51
    go_wp2
    go_ret
    exact ⟨rfl, rfl⟩
  | some k =>
    have hk := hexi_lt h
    clear h
    match k, hk with
    | 0, _ => go_enter Tryz.func51, Tryz.ntmps51; go_wp2; go_ret; exact ⟨rfl, rfl⟩
    | 1, _ => go_enter Tryz.func51, Tryz.ntmps51; go_wp2; go_ret; exact ⟨rfl, rfl⟩
    | 2, _ => go_enter Tryz.func51, Tryz.ntmps51; go_wp2; go_ret; exact ⟨rfl, rfl⟩
    | 3, _ => go_enter Tryz.func51, Tryz.ntmps51; go_wp2; go_ret; exact ⟨rfl, rfl⟩
    | 4, _ => go_enter Tryz.func51, Tryz.ntmps51; go_wp2; go_ret; exact ⟨rfl, rfl⟩
    | 5, _ => go_enter Tryz.func51, Tryz.ntmps51; go_wp2; go_ret; exact ⟨rfl, rfl⟩
    | 6, _ => go_enter Tryz.func51, Tryz.ntmps51; go_wp2; go_ret; exact ⟨rfl, rfl⟩
    | 7, _ => go_enter Tryz.func51, Tryz.ntmps51; go_wp2; go_ret; exact ⟨rfl, rfl⟩
    | 8, _ => go_enter Tryz.func51, Tryz.ntmps51; go_wp2; go_ret; exact ⟨rfl, rfl⟩
    | 9, _ => go_enter Tryz.func51, Tryz.ntmps51; go_wp2; go_ret; exact ⟨rfl, rfl⟩
    | 10, _ => go_enter Tryz.func51, Tryz.ntmps51; go_wp2; go_ret; exact ⟨rfl, rfl⟩
    | 11, _ => go_enter Tryz.func51, Tryz.ntmps51; go_wp2; go_ret; exact ⟨rfl, rfl⟩
    | 12, _ => go_enter Tryz.func51, Tryz.ntmps51; go_wp2; go_ret; exact ⟨rfl, rfl⟩
    | 13, _ => go_enter Tryz.func51, Tryz.ntmps51; go_wp2; go_ret; exact ⟨rfl, rfl⟩
    | 14, _ => go_enter Tryz.func51, Tryz.ntmps51; go_wp2; go_ret; exact ⟨rfl, rfl⟩
    | 15, _ => go_enter Tryz.func51, Tryz.ntmps51; go_wp2; go_ret; exact ⟨rfl, rfl⟩
    | n + 16, hk => exact absurd hk (by omega)
end Go.Proofs.YtopcidphlleciaaGreatDoor.S

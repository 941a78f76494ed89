/- Passing over. -/
import Derived.Test.YtopcidphlleciaaGreatDoorReD
import Derived.Test.YtopcidphlleciaaGreatDoorScU
import Derived.Test.YtopcidphlleciaaGreatDoorProI
import Derived.Laws.Rows
namespace Go.Proofs.YtopcidphlleciaaGreatDoor.S
open Go.RowKit Go.Extern.Stop Go.Stop Go.Extern Go.Proofs.YtopcidphlleciaaGreatDoorW.PrintWords Go.Proofs.YtopcidphlleciaaGreatDoorW.PrintLast Go.Proofs.YtopcidphlleciaaGreatDoorW.PrintMore
set_option linter.unusedVariables false
set_option linter.unusedSimpArgs false
/-- What the document tells of a fault. -/
def bV (b : Bd) : Value := .agg #[.int .i64 (b.1 : Int), .string b.2.1, .int .i64 b.2.2]
theorem str_nil {s : ByteArray} (h : tl s ≠ []) : (s.toList == []) = false := by
  rw [beq_eq_false_iff_ne, ByteArray.toList_eq]
  exact h
set_option maxHeartbeats 8000000 in
theorem over_calls (s : ByteArray) (w : World) : Calls Tryz.prog 29 #[.string s] w fun e w' => e = .returned (.bool (overF (tl s))) ∧ w = w' := by
  cases h : tl s with
  | nil =>
    have hs0 : s = ⟨#[]⟩ := tl_inj h
    subst hs0
    go_enter Tryz.func29, Tryz.ntmps29
    go_wp2
    go_ret
    exact ⟨rfl, rfl⟩
  | cons c r =>
    have hne := str_nil (s := s) (by rw [h]; simp)
    have hp : 0 < s.size := by
      have q : s.data.size = (c :: r).length := by rw [← h]; exact Array.length_toList.symm
      show 0 < s.data.size
      rw [q]; exact Nat.succ_pos _
    have hp' : (0 : Int) < (s.size : Int) := by omega
    have hc : s[0]'hp = c := by
      have := drop_byte s 0 hp
      rw [List.drop_zero, h] at this
      injection this with h1 _
      exact h1.symm
    by_cases h35 : c = 35
    · subst h35
      clear h
      go_enter Tryz.func29, Tryz.ntmps29
      go_wp2
      go_ret
      exact ⟨rfl, rfl⟩
    · have h35' : ((c.toNat : Int) == 35) = false := by
        rw [beq_eq_false_iff_ne]
        exact fun q => h35 (UInt8.toNat_inj.1 (by show c.toNat = 35; omega))
      have HO : Aside0 (overF (c :: r) = false) := ⟨by show (c == 35) = false; rw [beq_eq_false_iff_ne]; exact h35⟩
      rw [HO.out]
      clear h h35
      go_enter Tryz.func29, Tryz.ntmps29
      go_wp2
      go_ret
      exact ⟨rfl, rfl⟩
end Go.Proofs.YtopcidphlleciaaGreatDoor.S

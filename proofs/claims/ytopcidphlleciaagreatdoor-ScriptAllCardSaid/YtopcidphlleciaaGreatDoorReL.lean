/- The document's Over; none. -/
import Derived.Test.YtopcidphlleciaaGreatDoorReI
namespace Go.Proofs.YtopcidphlleciaaGreatDoor.S
open Go.RowKit Go.Extern.Stop Go.Stop Go.Extern Go.Proofs.YtopcidphlleciaaGreatDoorW.PrintWords Go.Proofs.YtopcidphlleciaaGreatDoorW.PrintLast Go.Proofs.YtopcidphlleciaaGreatDoorW.PrintMore
set_option linter.unusedVariables false
set_option linter.unusedSimpArgs false
set_option maxHeartbeats 8000000 in
theorem rover_calls (s : ByteArray) (w : World) : Calls Tryz.prog 32 #[.string s] w fun e w' => e = .returned (.bool (overF (tl s))) ∧ w = w' := by
  cases h : tl s with
  | nil =>
    have hs0 : s = ⟨#[]⟩ := tl_inj h
    subst hs0
    go_enter Tryz.func32, Tryz.ntmps32
    go_wp2
    go_ret
    exact ⟨rfl, rfl⟩
  | cons c r =>
    have hne := str_nil (s := s) (by rw [h]; simp)
    have hp : 0 < s.size := by
      have q : s.data.size = (c :: r).length := by rw [← h]; exact Array.length_toList.symm
      show 0 < s.data.size
      rw [q]; exact Nat.succ_pos _
    have hp' : (0 : Int) < (s.size : Int) := by omega
    have hc : s[0]'hp = c := by
      have := drop_byte s 0 hp
      rw [List.drop_zero, h] at this
      injection this with h1 _
      exact h1.symm
    by_cases h35 : c = 35
    · subst h35
      clear h
      go_enter Tryz.func32, Tryz.ntmps32
      go_wp2
      go_ret
      exact ⟨rfl, rfl⟩
    · have h35' : ((c.toNat : Int) == 35) = false := by
        rw [beq_eq_false_iff_ne]
        exact fun q => h35 (UInt8.toNat_inj.1 (by show c.toNat = 35; omega))
      have HO : Aside0 (overF (c :: r) = false) := ⟨by show (c == 35) = false; rw [beq_eq_false_iff_ne]; exact h35⟩
      rw [HO.out]
      clear h h35
      go_enter Tryz.func32, Tryz.ntmps32
      go_wp2
      go_ret
      exact ⟨rfl, rfl⟩
set_option maxHeartbeats 8000000 in
theorem none_calls (w : World) : Calls Tryz.prog 34 #[] w fun e w' => e = .returned (bV okB) ∧ Below w.heap.size w w' := by
  unfold bV okB
  go_enter Tryz.func34, Tryz.ntmps34
  go_wp2
  refine bodyPost_ret (results_cell_row Tryz.results34 _ _ w.heap.size _ _ _ _ rfl (heap_alloc_new _ _) Tryz.underlying31 rfl (by kernel_rfl)) rfl ⟨rfl, (Below.refl _ _).alloc (Nat.le_refl _) _⟩
end Go.Proofs.YtopcidphlleciaaGreatDoor.S

/- The calls of a disk that is not there. -/
import Derived.Test.YtcbgeakabchenaaGreatDoorAliB
namespace Go.Proofs.YtcbgeakabchenaaGreatDoor.D
open Go.RowKit Go.Extern.Stop Go.Stop Go.Extern Go.Proofs.YtcbgeakabchenaaGreatDoorW.PrintWords Go.Proofs.YtcbgeakabchenaaGreatDoorW.PrintLast Go.Proofs.YtcbgeakabchenaaGreatDoorW.PrintMore
set_option linter.unusedVariables false
set_option linter.unusedSimpArgs false
set_option maxHeartbeats 8000000 in
set_option maxRecDepth 100000 in
theorem put_nil (name bytes : ByteArray) (w : World) : Calls Tryz.prog 21 #[.pointer none, .string name, .string bytes] w fun e w' => ∃ v, e = .returned v ∧ Er w' w.heap.size v 1 name ∧ Below w.heap.size w w' := by
  go_enter Tryz.func21, Tryz.ntmps21
  go_wp2_with (fail)
  refine (able_nil name _).mono ?_
  rintro e w1 ⟨rfl, rfl⟩
  have hA : Below w.heap.size w (((w.alloc (Obj.cells #[Value.pointer none] 23)).alloc (Obj.cells #[Value.string name] 9)).alloc (Obj.cells #[Value.string bytes] 9)) := (((Below.refl _ _).alloc (Nat.le_refl _) _).alloc (by simp) _).alloc (by simp <;> omega) _
  have a4 : (((w.alloc (Obj.cells #[Value.pointer none] 23)).alloc (Obj.cells #[Value.string name] 9)).alloc (Obj.cells #[Value.string bytes] 9)).cell? ⟨w.heap.size + 1, 0, none⟩ = some (.string name) := by go_simp
  go_wp2_with (fail)
  refine (fault_calls 1 name _).mono ?_
  rintro e w2 ⟨g, rfl, hg, hF, hb⟩
  go_wp2_with (fail)
  go_ret
  exact ⟨_, rfl, Er.of (w1 := w2) (by decide) (by have := hA.size; omega) hF, below_step hA hb⟩
set_option maxHeartbeats 8000000 in
set_option maxRecDepth 100000 in
theorem trunc_nil (name : ByteArray) (n : Int) (w : World) : Calls Tryz.prog 22 #[.pointer none, .string name, .int .i64 n] w fun e w' => ∃ v, e = .returned v ∧ Er w' w.heap.size v 1 name ∧ Below w.heap.size w w' := by
  go_enter Tryz.func22, Tryz.ntmps22
  go_wp2_with (fail)
  refine (there_nil name _).mono ?_
  rintro e w1 ⟨rfl, rfl⟩
  have hA : Below w.heap.size w (((w.alloc (Obj.cells #[Value.pointer none] 23)).alloc (Obj.cells #[Value.string name] 9)).alloc (Obj.cells #[Value.int .i64 n] 3)) := (((Below.refl _ _).alloc (Nat.le_refl _) _).alloc (by simp) _).alloc (by simp <;> omega) _
  have a4 : (((w.alloc (Obj.cells #[Value.pointer none] 23)).alloc (Obj.cells #[Value.string name] 9)).alloc (Obj.cells #[Value.int .i64 n] 3)).cell? ⟨w.heap.size + 1, 0, none⟩ = some (.string name) := by go_simp
  go_wp2_with (fail)
  go_quiet (fail)
  go_wp2_with (fail)
  refine (fault_calls 1 name _).mono ?_
  rintro e w2 ⟨g, rfl, hg, hF, hb⟩
  have hb2 := below_step (w := w) (pw_below_drewN hA nq) hb
  have hzA := hA.size
  go_wp2_with (fail)
  go_ret
  exact ⟨_, rfl, Er.of (w1 := w2) (by decide) (Nat.le_trans hzA hg) hF, hb2⟩
set_option maxHeartbeats 8000000 in
set_option maxRecDepth 100000 in
theorem rename_nil (name bytes : ByteArray) (w : World) : Calls Tryz.prog 23 #[.pointer none, .string name, .string bytes] w fun e w' => ∃ v, e = .returned v ∧ Er w' w.heap.size v 1 name ∧ Below w.heap.size w w' := by
  have h0 := nil23
  have hA : Below w.heap.size w (((w.alloc (Obj.cells #[Value.pointer none] 23)).alloc (Obj.cells #[Value.string name] 9)).alloc (Obj.cells #[Value.string bytes] 9)) := (((Below.refl _ _).alloc (Nat.le_refl _) _).alloc (by simp) _).alloc (by simp <;> omega) _
  have a3 : (((w.alloc (Obj.cells #[Value.pointer none] 23)).alloc (Obj.cells #[Value.string name] 9)).alloc (Obj.cells #[Value.string bytes] 9)).cell? ⟨w.heap.size, 0, none⟩ = some (.pointer none) := by go_simp
  have a4 : (((w.alloc (Obj.cells #[Value.pointer none] 23)).alloc (Obj.cells #[Value.string name] 9)).alloc (Obj.cells #[Value.string bytes] 9)).cell? ⟨w.heap.size + 1, 0, none⟩ = some (.string name) := by go_simp
  go_enter Tryz.func23, Tryz.ntmps23
  go_wp2_with (fail)
  refine (fault_calls 1 name _).mono ?_
  rintro e w2 ⟨g, rfl, hg, hF, hb⟩
  go_wp2_with (fail)
  go_ret
  exact ⟨_, rfl, Er.of (w1 := w2) (by decide) (by have := hA.size; omega) hF, below_step hA hb⟩
set_option maxHeartbeats 8000000 in
set_option maxRecDepth 100000 in
theorem names_nil (w : World) : Calls Tryz.prog 26 #[.pointer none] w fun e w' => e = .returned (.slice none 0 0) ∧ w' = w := by
  have h0 := nil23
  go_enter Tryz.func26, Tryz.ntmps26
  go_wp2_with (fail)
  go_ret
  exact ⟨rfl, rfl⟩
set_option maxHeartbeats 8000000 in
set_option maxRecDepth 100000 in
theorem copy_nil (w : World) : Calls Tryz.prog 13 #[.pointer none] w fun e w' => e = .returned (.pointer none) ∧ w' = w := by
  have h0 := nil23
  go_enter Tryz.func13, Tryz.ntmps13
  go_wp2_with (fail)
  go_ret
  exact ⟨rfl, rfl⟩
set_option maxHeartbeats 8000000 in
set_option maxRecDepth 100000 in
theorem same_nil (w : World) : Calls Tryz.prog 15 #[.pointer none, .pointer none] w fun e w' => e = .returned (.bool false) ∧ ∃ q, w' = w.drewN q := by
  have h0 : ∀ w, (binOp .neq 23 (.pointer none) (.pointer none)).run Tryz.prog w = .ok (.bool false) w := fun w => by kernel_rfl
  go_enter Tryz.func15, Tryz.ntmps15
  go_wp2_with (fail)
  go_quiet (fail)
  go_wp2_with (fail)
  go_ret
  exact ⟨rfl, nq, rfl⟩
end Go.Proofs.YtcbgeakabchenaaGreatDoor.D

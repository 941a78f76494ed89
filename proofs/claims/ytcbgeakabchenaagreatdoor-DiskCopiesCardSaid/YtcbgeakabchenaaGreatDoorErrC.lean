/- errors.Is at a fault's own number. -/
import Derived.Test.YtcbgeakabchenaaGreatDoorErrB
namespace Go.Proofs.YtcbgeakabchenaaGreatDoor.D
open Go.RowKit Go.Extern.Stop Go.Stop Go.Extern Go.Proofs.YtcbgeakabchenaaGreatDoorW.PrintWords Go.Proofs.YtcbgeakabchenaaGreatDoorW.PrintLast Go.Proofs.YtcbgeakabchenaaGreatDoorW.PrintMore
set_option linter.unusedVariables false
set_option linter.unusedSimpArgs false
set_option maxHeartbeats 16000000 in
set_option maxRecDepth 100000 in
theorem is2_calls (e c : Nat) (name : ByteArray) (w : World) (h : FC w e c name) : Calls Tryz.prog 77 #[.iface 90 (.pointer (some ⟨e, 0, none⟩)), .iface 72 (.int .i64 c), .bool true] w fun ev w' => ev = .returned (.bool true) ∧ Below w.heap.size w w' := by
  have HF := Aside0.mk h
  clear h
  have t0 := fun (v v' : Value) (w : World) => run_eql_iface_types (P := Tryz.prog) 90 72 v v' Tryz.underlying43 (by decide) w
  have a1 := noIs90
  have a2 := noUnwrap90
  have a3 := hasUnwraps90
  have m1 := methodUnwrap90
  have n1 := neq_nil72
  go_enter Tryz.func77, Tryz.ntmps77
  go_wp2_with (fail)
  refine wp_loop_rounds 1 ?_
  rw [rounds_succ]
  go_wp2_with (fail)
  refine (unwrap_calls e c name _ HF.out).mono ?_
  rintro ev w1 ⟨rfl, rfl⟩
  go_wp2_with (fail)
  refine wp_loop_rounds 1 ?_
  rw [rounds_succ]
  go_wp2_with (fail)
  refine (is1_calls c _).mono ?_
  rintro ev w1 ⟨rfl, rfl⟩
  go_wp2_with (fail)
  go_ret
  exact ⟨rfl, (Below.refl _ _).alloc (Nat.le_refl _) _⟩
set_option maxHeartbeats 16000000 in
set_option maxRecDepth 100000 in
theorem is_calls (e c : Nat) (name : ByteArray) (w : World) (h : FC w e c name) : Calls Tryz.prog 67 #[.iface 90 (.pointer (some ⟨e, 0, none⟩)), .iface 72 (.int .i64 c)] w fun ev w' => ev = .returned (.bool true) ∧ Below w.heap.size w w' := by
  have HI := Aside0.mk (is2_calls e c name w h)
  clear h
  have h76 := @run_callFunc_extern Tryz.prog 76 _ Extern.ReflectliteType.typeOf Tryz.func76 (by kernel_rfl) (by kernel_rfl) (by kernel_rfl) (by kernel_rfl)
  have h136 := @run_callFunc_extern Tryz.prog 136 _ (ReflectliteType.method fun t => do Rtype.noPackHeld "Comparable" t; pure (.bool (← typeInfo t).comparable)) Tryz.func136 (by kernel_rfl) (by kernel_rfl) (by kernel_rfl) (by kernel_rfl)
  have tT := typeOf72
  have mC := methodComparable
  have cC : ∀ w : World, ((ReflectliteType.method fun t => do Rtype.noPackHeld "Comparable" t; (fun a : TypeInfo => Value.bool a.comparable) <$> typeInfo t) #[.agg #[.pointer (some ⟨4, 72, none⟩)]]).run Tryz.prog w = .ok (.bool true) w := fun w => by kernel_rfl
  have n1 := neq_nil72
  go_enter Tryz.func67, Tryz.ntmps67
  go_wp2_with (fail)
  refine HI.out.mono ?_
  rintro ev w1 ⟨rfl, hb⟩
  go_wp2_with (fail)
  go_ret
  exact ⟨rfl, hb⟩
end Go.Proofs.YtcbgeakabchenaaGreatDoor.D

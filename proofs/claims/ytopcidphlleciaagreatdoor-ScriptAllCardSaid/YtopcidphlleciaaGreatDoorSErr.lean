/- errors.As, errors.Is at a fault. -/
import Derived.Test.YtopcidphlleciaaGreatDoorErrAs
import Derived.Test.YtopcidphlleciaaGreatDoorProI
namespace Go.Proofs.YtopcidphlleciaaGreatDoor.S
open Go.RowKit Go.Extern.Stop Go.Stop Go.Extern Go.Proofs.YtopcidphlleciaaGreatDoorW.PrintWords Go.Proofs.YtopcidphlleciaaGreatDoorW.PrintLast Go.Proofs.YtopcidphlleciaaGreatDoorW.PrintMore
set_option linter.unusedVariables false
set_option linter.unusedSimpArgs false
set_option maxHeartbeats 8000000 in
theorem unwrap_calls (e c : Nat) (name : ByteArray) (k : Int) (w : World) (h : FA w e c name k) : Calls Tryz.prog 141 #[.pointer (some ⟨e, 0, none⟩)] w fun ev w' => ev = .returned (.slice (some ⟨w.heap.size, 0, none⟩) 1 1) ∧ w' = w.alloc (.cells #[.iface 46 (.int .i64 c)] 27) := by
  obtain ⟨h0, h1, h2, h3⟩ := h
  go_enter Tryz.func141, Tryz.ntmps141
  go_wp2
  exact bodyPost_ret (results_single Tryz.results141 (.tmp .nil)) rfl ⟨rfl, rfl⟩
theorem eql_errno (c : Nat) (w : World) : (binOp .eql 27 (.iface 46 (.int .i64 c)) (.iface 46 (.int .i64 c))).run Tryz.prog w = .ok (.bool true) w := by
  have h : ∀ d : Nat, (Op.equalIn (d + 2) 27 (.iface 46 (.int .i64 c)) (.iface 46 (.int .i64 c))).run Tryz.prog w = .ok true w := fun d => by
    have hc : Tryz.t46.comparable = true := by kernel_rfl
    simp [hc, Op.equalIn, run_underlying Tryz.underlying27, run_underlying Tryz.underlying46]
  simp only [binOp]
  simp [Op.equal, Op.maxDepth, h 9998]
theorem noIs90 (v : Value) (xT : TypeId) (w : World) : (Instr.typeAssert (.iface 43 v) xT 121 true).run Tryz.prog w = .ok (.tuple #[.nilIface, .bool false]) w := run_typeAssert_lacksB Tryz.underlying121 (by kernel_rfl) (by kernel_rfl) v xT w
theorem noUnwrap90 (v : Value) (xT : TypeId) (w : World) : (Instr.typeAssert (.iface 43 v) xT 116 true).run Tryz.prog w = .ok (.tuple #[.nilIface, .bool false]) w := run_typeAssert_lacksB Tryz.underlying116 (by kernel_rfl) (by kernel_rfl) v xT w
theorem hasUnwraps90 (v : Value) (xT : TypeId) (w : World) : (Instr.typeAssert (.iface 43 v) xT 118 true).run Tryz.prog w = .ok (.tuple #[.iface 43 v, .bool true]) w := run_typeAssert_hasB Tryz.underlying118 (by kernel_rfl) v xT w
theorem typeOf72 (v : Value) (w : World) : (ReflectliteType.typeOf #[.iface 46 v]).run Tryz.prog w = .ok (.iface 109 (.agg #[.pointer (some ⟨9, 46, none⟩)])) w := by kernel_rfl
theorem methodComparable (h : Value) (w : World) : (Go.method 314 109 (.agg #[h]) "Comparable").run Tryz.prog w = .ok (149, .agg #[h]) w := by kernel_rfl
theorem comparable72 (w : World) : ((ReflectliteType.method fun t => do Rtype.noPackHeld "Comparable" t; pure (.bool (← typeInfo t).comparable)) #[.agg #[.pointer (some ⟨9, 46, none⟩)]]).run Tryz.prog w = .ok (.bool true) w := by kernel_rfl
theorem methodUnwrap90 (h : Value) (w : World) : (Go.method 314 43 h "Unwrap").run Tryz.prog w = .ok (141, h) w := by kernel_rfl
theorem neq_nil72 (v : Value) (w : World) : (binOp .eql 27 (.iface 46 v) .nilIface).run Tryz.prog w = .ok (.bool false) w := by kernel_rfl
set_option maxHeartbeats 16000000 in
set_option maxRecDepth 100000 in
theorem is1_calls (c : Nat) (w : World) : Calls Tryz.prog 41 #[.iface 46 (.int .i64 c), .iface 46 (.int .i64 c), .bool true] w fun ev w' => ev = .returned (.bool true) ∧ w' = w := by
  have h0 := eql_errno c
  go_enter Tryz.func41, Tryz.ntmps41
  go_wp2
  refine wp_loop_rounds 1 ?_
  rw [rounds_succ]
  go_wp2
  go_ret
  exact ⟨rfl, rfl⟩
set_option maxHeartbeats 16000000 in
set_option maxRecDepth 100000 in
theorem is2_calls (e c : Nat) (name : ByteArray) (k : Int) (w : World) (h : FA w e c name k) : Calls Tryz.prog 41 #[.iface 43 (.pointer (some ⟨e, 0, none⟩)), .iface 46 (.int .i64 c), .bool true] w fun ev w' => ev = .returned (.bool true) ∧ Below w.heap.size w w' := by
  have HF := Aside0.mk h
  clear h
  have t0 := fun (v v' : Value) (w : World) => run_eql_iface_types (P := Tryz.prog) 43 46 v v' Tryz.underlying27 (by decide) w
  have a1 := noIs90
  have a2 := noUnwrap90
  have a3 := hasUnwraps90
  have m1 := methodUnwrap90
  have n1 := neq_nil72
  go_enter Tryz.func41, Tryz.ntmps41
  go_wp2_with (fail)
  refine wp_loop_rounds 1 ?_
  rw [rounds_succ]
  go_wp2_with (fail)
  refine (unwrap_calls e c name k _ HF.out).mono ?_
  rintro ev w1 ⟨rfl, rfl⟩
  go_wp2_with (fail)
  refine wp_loop_rounds 1 ?_
  rw [rounds_succ]
  go_wp2_with (fail)
  refine (is1_calls c _).mono ?_
  rintro ev w1 ⟨rfl, rfl⟩
  go_wp2_with (fail)
  go_ret
  exact ⟨rfl, (Below.refl _ _).alloc (Nat.le_refl _) _⟩
set_option maxHeartbeats 16000000 in
set_option maxRecDepth 100000 in
theorem is_calls (e c : Nat) (name : ByteArray) (k : Int) (w : World) (h : FA w e c name k) : Calls Tryz.prog 17 #[.iface 43 (.pointer (some ⟨e, 0, none⟩)), .iface 46 (.int .i64 c)] w fun ev w' => ev = .returned (.bool true) ∧ Below w.heap.size w w' := by
  have HI := Aside0.mk (is2_calls e c name k w h)
  clear h
  have h76 := @run_callFunc_extern Tryz.prog 40 _ Extern.ReflectliteType.typeOf Tryz.func40 (by kernel_rfl) (by kernel_rfl) (by kernel_rfl) (by kernel_rfl)
  have h136 := @run_callFunc_extern Tryz.prog 149 _ (ReflectliteType.method fun t => do Rtype.noPackHeld "Comparable" t; pure (.bool (← typeInfo t).comparable)) Tryz.func149 (by kernel_rfl) (by kernel_rfl) (by kernel_rfl) (by kernel_rfl)
  have tT := typeOf72
  have mC := methodComparable
  have cC : ∀ w : World, ((ReflectliteType.method fun t => do Rtype.noPackHeld "Comparable" t; (fun a : TypeInfo => Value.bool a.comparable) <$> typeInfo t) #[.agg #[.pointer (some ⟨9, 46, none⟩)]]).run Tryz.prog w = .ok (.bool true) w := fun w => by kernel_rfl
  have n1 := neq_nil72
  go_enter Tryz.func17, Tryz.ntmps17
  go_wp2_with (fail)
  refine HI.out.mono ?_
  rintro ev w1 ⟨rfl, hb⟩
  go_wp2_with (fail)
  go_ret
  exact ⟨rfl, hb⟩
def GE (w : World) : Prop := w.cell? ⟨0, 0, none⟩ = some (.iface 109 (.agg #[.pointer (some ⟨9, 27, none⟩)]))
theorem GE.below {w w1 : World} (h : GE w) (hb : Below w.heap.size w w1) : GE w1 := pw_cell_below hb h
theorem as_calls (e t : Addr) (old : Value) (w : World) (hG : GE w) (ht0 : w.cell? t = some old) (hf0 : w.frozen? t = false) :
    Calls Tryz.prog 16 #[.iface 43 (.pointer (some e)), .iface 45 (.pointer (some t))] w fun ev w' => ev = .returned (.bool true) ∧ ∃ w1, w' = w1.setCell t (.pointer (some e)) ∧ Below w.heap.size w w1 := by
  refine (ErrAs.as_hit e t old w hG ht0 hf0).mono ?_
  rintro ev w' ⟨rfl, rfl⟩
  exact ⟨rfl, _, rfl, ((((Below.refl _ _).alloc (Nat.le_refl _) _).alloc (by simp) _).alloc (by simp <;> omega) _).alloc (by simp <;> omega) _⟩
end Go.Proofs.YtopcidphlleciaaGreatDoor.S

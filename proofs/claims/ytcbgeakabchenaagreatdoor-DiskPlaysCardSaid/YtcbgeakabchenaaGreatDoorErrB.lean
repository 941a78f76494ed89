/- The faults: made, told as texts, unwrapped. -/
import Derived.Test.YtcbgeakabchenaaGreatDoorProg
import Derived.Test.YtcbgeakabchenaaGreatDoorShelf
import Derived.Test.YtcbgeakabchenaaGreatDoorWMore
import Derived.Test.YtcbgeakabchenaaGreatDoorWWords
import Derived.Test.YtcbgeakabchenaaGreatDoorWLast
import Derived.WalkKit
import Derived.LaidEql
import Derived.Stop.Asserts
import Derived.RowKitTokens
namespace Go.Proofs.YtcbgeakabchenaaGreatDoor.D
open Go.RowKit Go.Extern.Stop Go.Stop Go.Extern Go.Proofs.YtcbgeakabchenaaGreatDoorW.PrintWords Go.Proofs.YtcbgeakabchenaaGreatDoorW.PrintLast Go.Proofs.YtcbgeakabchenaaGreatDoorW.PrintMore
set_option linter.unusedVariables false
set_option linter.unusedSimpArgs false
/-- The cells of a fault that nothing brought about, nowhere. -/
def FC (w : World) (e : Nat) (c : Nat) (name : ByteArray) : Prop := w.cell? ⟨e, 0, none⟩ = some (.int .i64 c) ∧ w.cell? ⟨e, 1, none⟩ = some (.string name) ∧ w.cell? ⟨e, 2, none⟩ = some (.int .i64 (-1)) ∧ w.cell? ⟨e, 3, none⟩ = some .nilIface
theorem FC.below {w w1 : World} {e c : Nat} {name : ByteArray} (h : FC w e c name) (hb : Below w.heap.size w w1) : FC w1 e c name :=
  ⟨pw_cell_below hb h.1, pw_cell_below hb h.2.1, pw_cell_below hb h.2.2.1, pw_cell_below hb h.2.2.2⟩
set_option maxHeartbeats 8000000 in
theorem fault_calls (c : Nat) (name : ByteArray) (w : World) : Calls Tryz.prog 40 #[.int .i64 c, .string name] w fun e w' => ∃ g, e = .returned (.iface 90 (.pointer (some ⟨g, 0, none⟩))) ∧ w.heap.size ≤ g ∧ FC w' g c name ∧ Below w.heap.size w w' := by
  go_enter Tryz.func40, Tryz.ntmps40
  go_wp2
  go_ret
  exact ⟨w.heap.size, rfl, Nat.le_refl _, ⟨by simp, by simp, by simp, by simp⟩, (Below.refl _ _).alloc (Nat.le_refl _) _⟩
def numS (c : Nat) : ByteArray := ⟨#[101, 114, 114, 111, 114, 32]⟩ ++ ⟨(Lib.decDigits c).toArray⟩
theorem dec_two (c : Nat) (hc : c < 100) : (Lib.decDigits c).length ≤ 2 := by
  have h : ∀ c : Fin 100, (Lib.decDigits c.1).length ≤ 2 := by decide +kernel
  exact h ⟨c, hc⟩
theorem numS_size (c : Nat) (hc : c < 100) : (numS c).size ≤ 8 ∧ 0 < (numS c).size := by
  unfold numS
  rw [ByteArray.size_append]
  have h := dec_two c hc
  have h1 : (⟨(Lib.decDigits c).toArray⟩ : ByteArray).size ≤ 2 := by show (Lib.decDigits c).toArray.size ≤ 2; simpa using h
  have h2 : (⟨#[101, 114, 114, 111, 114, 32]⟩ : ByteArray).size = 6 := rfl
  omega
set_option maxHeartbeats 8000000 in
theorem errno_calls (c : Nat) (hc : c < 100) (w : World) : Calls Tryz.prog 115 #[.int .i64 c] w fun e w' => e = .returned (.string (numS c)) ∧ w' = w := by
  go_enter Tryz.func115, Tryz.ntmps115
  go_wp2_with (fail)
  refine (Tryz.strconv_Itoa_small c hc _).mono ?_
  rintro e w1 ⟨rfl, rfl⟩
  have hs : ¬ 9223372036854775807 < 6 + (⟨(Lib.decDigits c).toArray⟩ : ByteArray).size := by
    have h1 : (⟨(Lib.decDigits c).toArray⟩ : ByteArray).size ≤ 2 := by show (Lib.decDigits c).toArray.size ≤ 2; simpa using dec_two c hc
    omega
  go_wp2_with (fail)
  go_ret
  exact ⟨rfl, rfl⟩
set_option maxHeartbeats 8000000 in
theorem unwrap_calls (e c : Nat) (name : ByteArray) (w : World) (h : FC w e c name) : Calls Tryz.prog 130 #[.pointer (some ⟨e, 0, none⟩)] w fun ev w' => ev = .returned (.slice (some ⟨w.heap.size, 0, none⟩) 1 1) ∧ w' = w.alloc (.cells #[.iface 72 (.int .i64 c)] 43) := by
  obtain ⟨h0, h1, h2, h3⟩ := h
  go_enter Tryz.func130, Tryz.ntmps130
  go_wp2
  exact bodyPost_ret (results_single Tryz.results130 (.tmp .nil)) rfl ⟨rfl, rfl⟩
theorem eql_errno (c : Nat) (w : World) : (binOp .eql 43 (.iface 72 (.int .i64 c)) (.iface 72 (.int .i64 c))).run Tryz.prog w = .ok (.bool true) w := by
  have h : ∀ d : Nat, (Op.equalIn (d + 2) 43 (.iface 72 (.int .i64 c)) (.iface 72 (.int .i64 c))).run Tryz.prog w = .ok true w := fun d => by
    have hc : Tryz.t72.comparable = true := by kernel_rfl
    simp [hc, Op.equalIn, run_underlying Tryz.underlying43, run_underlying Tryz.underlying72]
  simp only [binOp]
  simp [Op.equal, Op.maxDepth, h 9998]
theorem noIs90 (v : Value) (xT : TypeId) (w : World) : (Instr.typeAssert (.iface 90 v) xT 141 true).run Tryz.prog w = .ok (.tuple #[.nilIface, .bool false]) w := run_typeAssert_lacksB Tryz.underlying141 (by kernel_rfl) (by kernel_rfl) v xT w
theorem noUnwrap90 (v : Value) (xT : TypeId) (w : World) : (Instr.typeAssert (.iface 90 v) xT 136 true).run Tryz.prog w = .ok (.tuple #[.nilIface, .bool false]) w := run_typeAssert_lacksB Tryz.underlying136 (by kernel_rfl) (by kernel_rfl) v xT w
theorem hasUnwraps90 (v : Value) (xT : TypeId) (w : World) : (Instr.typeAssert (.iface 90 v) xT 138 true).run Tryz.prog w = .ok (.tuple #[.iface 90 v, .bool true]) w := run_typeAssert_hasB Tryz.underlying138 (by kernel_rfl) v xT w
theorem typeOf72 (v : Value) (w : World) : (ReflectliteType.typeOf #[.iface 72 v]).run Tryz.prog w = .ok (.iface 129 (.agg #[.pointer (some ⟨4, 72, none⟩)])) w := by kernel_rfl
theorem methodComparable (h : Value) (w : World) : (Go.method 294 129 (.agg #[h]) "Comparable").run Tryz.prog w = .ok (136, .agg #[h]) w := by kernel_rfl
theorem comparable72 (w : World) : ((ReflectliteType.method fun t => do Rtype.noPackHeld "Comparable" t; pure (.bool (← typeInfo t).comparable)) #[.agg #[.pointer (some ⟨4, 72, none⟩)]]).run Tryz.prog w = .ok (.bool true) w := by kernel_rfl
theorem methodUnwrap90 (h : Value) (w : World) : (Go.method 294 90 h "Unwrap").run Tryz.prog w = .ok (130, h) w := by kernel_rfl
theorem methodError90 (h : Value) (w : World) : (Go.method 294 90 h "Error").run Tryz.prog w = .ok (129, h) w := by kernel_rfl
theorem neq_nil72 (v : Value) (w : World) : (binOp .eql 43 (.iface 72 v) .nilIface).run Tryz.prog w = .ok (.bool false) w := by kernel_rfl
set_option maxHeartbeats 16000000 in
set_option maxRecDepth 100000 in
theorem error_calls (e c : Nat) (name : ByteArray) (w : World) (h : FC w e c name) (hc : c < 100) (hn : name.size ≤ 140737488351232) : Calls Tryz.prog 129 #[.pointer (some ⟨e, 0, none⟩)] w fun ev w' => (∃ s : ByteArray, ev = .returned (.string s) ∧ 0 < s.size) ∧ w' = w := by
  obtain ⟨h0, h1, h2, h3⟩ := h
  obtain ⟨s1, s2⟩ := numS_size c hc
  generalize hnum : numS c = num at *
  have HE := errno_calls c hc
  rw [hnum] at HE
  by_cases hz : name = ⟨#[]⟩
  · subst hz
    go_enter Tryz.func129, Tryz.ntmps129
    go_wp2_with (fail)
    refine (HE _).mono ?_
    rintro e w1 ⟨rfl, rfl⟩
    go_wp2_with (fail)
    go_ret
    exact ⟨⟨num, rfl, s2⟩, rfl⟩
  · have hne : (name.toList == []) = false := by
      rw [ByteArray.toList_eq]
      simp only [beq_eq_false_iff_ne]
      intro h
      exact hz (ByteArray.ext (Array.toList_inj.1 h))
    have n1 : ¬ 9223372036854775807 < 1 + name.size := by omega
    have n2 : ¬ 9223372036854775807 < num.size + (1 + name.size) := by omega
    go_enter Tryz.func129, Tryz.ntmps129
    go_wp2_with (fail)
    refine (HE _).mono ?_
    rintro e w1 ⟨rfl, rfl⟩
    go_wp2_with (fail)
    go_ret
    exact ⟨⟨_, rfl, by rw [ByteArray.size_append]; omega⟩, rfl⟩
set_option maxHeartbeats 16000000 in
set_option maxRecDepth 100000 in
theorem is1_calls (c : Nat) (w : World) : Calls Tryz.prog 77 #[.iface 72 (.int .i64 c), .iface 72 (.int .i64 c), .bool true] w fun ev w' => ev = .returned (.bool true) ∧ w' = w := by
  have h0 := eql_errno c
  go_enter Tryz.func77, Tryz.ntmps77
  go_wp2
  refine wp_loop_rounds 1 ?_
  rw [rounds_succ]
  go_wp2
  go_ret
  exact ⟨rfl, rfl⟩
end Go.Proofs.YtcbgeakabchenaaGreatDoor.D

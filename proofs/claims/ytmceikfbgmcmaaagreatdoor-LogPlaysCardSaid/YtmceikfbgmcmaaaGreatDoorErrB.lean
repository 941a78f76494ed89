/- The faults: made, told as texts, unwrapped. errors.Is at a fault's own number. The test of an error's number, its name, its place. -/
import Derived.Test.YtmceikfbgmcmaaaGreatDoorProg
import Derived.Test.YtmceikfbgmcmaaaGreatDoorShelf
import Derived.Test.YtmceikfbgmcmaaaGreatDoorWMore
import Derived.Test.YtmceikfbgmcmaaaGreatDoorWWords
import Derived.Test.YtmceikfbgmcmaaaGreatDoorWLast
import Derived.WalkKit
import Derived.LaidEql
import Derived.Stop.Asserts
import Derived.RowKitTokens
import Derived.Test.YtmceikfbgmcmaaaGreatDoorErrAs
import Derived.BigQuiet
import Derived.Deep.QuietTactic
namespace Go.Proofs.YtmceikfbgmcmaaaGreatDoor.D
open Go.RowKit Go.Extern.Stop Go.Stop Go.Extern Go.Proofs.YtmceikfbgmcmaaaGreatDoorW.PrintWords Go.Proofs.YtmceikfbgmcmaaaGreatDoorW.PrintLast Go.Proofs.YtmceikfbgmcmaaaGreatDoorW.PrintMore
set_option linter.unusedVariables false
set_option linter.unusedSimpArgs false
section
/-- The cells of a fault that nothing brought about, nowhere. -/
def FC (w : World) (e : Nat) (c : Nat) (name : ByteArray) : Prop := w.cell? ⟨e, 0, none⟩ = some (.int .i64 c) ∧ w.cell? ⟨e, 1, none⟩ = some (.string name) ∧ w.cell? ⟨e, 2, none⟩ = some (.int .i64 (-1)) ∧ w.cell? ⟨e, 3, none⟩ = some .nilIface
theorem FC.below {w w1 : World} {e c : Nat} {name : ByteArray} (h : FC w e c name) (hb : Below w.heap.size w w1) : FC w1 e c name :=
  ⟨pw_cell_below hb h.1, pw_cell_below hb h.2.1, pw_cell_below hb h.2.2.1, pw_cell_below hb h.2.2.2⟩
set_option maxHeartbeats 8000000 in
theorem fault_calls (c : Nat) (name : ByteArray) (w : World) : Calls Tryz.prog 49 #[.int .i64 c, .string name] w fun e w' => ∃ g, e = .returned (.iface 98 (.pointer (some ⟨g, 0, none⟩))) ∧ w.heap.size ≤ g ∧ FC w' g c name ∧ Below w.heap.size w w' := by
  go_enter Tryz.func49, Tryz.ntmps49
  go_wp2
  go_ret
  exact ⟨w.heap.size, rfl, Nat.le_refl _, ⟨by simp, by simp, by simp, by simp⟩, (Below.refl _ _).alloc (Nat.le_refl _) _⟩
def numS (c : Nat) : ByteArray := ⟨#[101, 114, 114, 111, 114, 32]⟩ ++ ⟨(Lib.decDigits c).toArray⟩
theorem dec_two (c : Nat) (hc : c < 100) : (Lib.decDigits c).length ≤ 2 := by
  have h : ∀ c : Fin 100, (Lib.decDigits c.1).length ≤ 2 := by decide +kernel
  exact h ⟨c, hc⟩
theorem numS_size (c : Nat) (hc : c < 100) : (numS c).size ≤ 8 ∧ 0 < (numS c).size := by
  unfold numS
  rw [ByteArray.size_append]
  have h := dec_two c hc
  have h1 : (⟨(Lib.decDigits c).toArray⟩ : ByteArray).size ≤ 2 := by show (Lib.decDigits c).toArray.size ≤ 2; simpa using h
  have h2 : (⟨#[101, 114, 114, 111, 114, 32]⟩ : ByteArray).size = 6 := rfl
  omega
set_option maxHeartbeats 8000000 in
theorem errno_calls (c : Nat) (hc : c < 100) (w : World) : Calls Tryz.prog 170 #[.int .i64 c] w fun e w' => e = .returned (.string (numS c)) ∧ w' = w := by
  go_enter Tryz.func170, Tryz.ntmps170
  go_wp2_with (fail)
  refine (Tryz.strconv_Itoa_small c hc _).mono ?_
  rintro e w1 ⟨rfl, rfl⟩
  have hs : ¬ 9223372036854775807 < 6 + (⟨(Lib.decDigits c).toArray⟩ : ByteArray).size := by
    have h1 : (⟨(Lib.decDigits c).toArray⟩ : ByteArray).size ≤ 2 := by show (Lib.decDigits c).toArray.size ≤ 2; simpa using dec_two c hc
    omega
  go_wp2_with (fail)
  go_ret
  exact ⟨rfl, rfl⟩
set_option maxHeartbeats 8000000 in
theorem unwrap_calls (e c : Nat) (name : ByteArray) (w : World) (h : FC w e c name) : Calls Tryz.prog 172 #[.pointer (some ⟨e, 0, none⟩)] w fun ev w' => ev = .returned (.slice (some ⟨w.heap.size, 0, none⟩) 1 1) ∧ w' = w.alloc (.cells #[.iface 68 (.int .i64 c)] 25) := by
  obtain ⟨h0, h1, h2, h3⟩ := h
  go_enter Tryz.func172, Tryz.ntmps172
  go_wp2
  exact bodyPost_ret (results_single Tryz.results172 (.tmp .nil)) rfl ⟨rfl, rfl⟩
theorem eql_errno (c : Nat) (w : World) : (binOp .eql 25 (.iface 68 (.int .i64 c)) (.iface 68 (.int .i64 c))).run Tryz.prog w = .ok (.bool true) w := by
  have h : ∀ d : Nat, (Op.equalIn (d + 2) 25 (.iface 68 (.int .i64 c)) (.iface 68 (.int .i64 c))).run Tryz.prog w = .ok true w := fun d => by
    have hc : Tryz.t68.comparable = true := by kernel_rfl
    simp [hc, Op.equalIn, run_underlying Tryz.underlying25, run_underlying Tryz.underlying68]
  simp only [binOp]
  simp [Op.equal, Op.maxDepth, h 9998]
theorem noIs90 (v : Value) (xT : TypeId) (w : World) : (Instr.typeAssert (.iface 98 v) xT 132 true).run Tryz.prog w = .ok (.tuple #[.nilIface, .bool false]) w := run_typeAssert_lacksB Tryz.underlying132 (by kernel_rfl) (by kernel_rfl) v xT w
theorem noUnwrap90 (v : Value) (xT : TypeId) (w : World) : (Instr.typeAssert (.iface 98 v) xT 135 true).run Tryz.prog w = .ok (.tuple #[.nilIface, .bool false]) w := run_typeAssert_lacksB Tryz.underlying135 (by kernel_rfl) (by kernel_rfl) v xT w
theorem hasUnwraps90 (v : Value) (xT : TypeId) (w : World) : (Instr.typeAssert (.iface 98 v) xT 136 true).run Tryz.prog w = .ok (.tuple #[.iface 98 v, .bool true]) w := run_typeAssert_hasB Tryz.underlying136 (by kernel_rfl) v xT w
theorem typeOf72 (v : Value) (w : World) : (ReflectliteType.typeOf #[.iface 68 v]).run Tryz.prog w = .ok (.iface 130 (.agg #[.pointer (some ⟨13, 68, none⟩)])) w := by kernel_rfl
theorem methodComparable (h : Value) (w : World) : (Go.method 349 130 (.agg #[h]) "Comparable").run Tryz.prog w = .ok (175, .agg #[h]) w := by kernel_rfl
theorem comparable72 (w : World) : ((ReflectliteType.method fun t => do Rtype.noPackHeld "Comparable" t; pure (.bool (← typeInfo t).comparable)) #[.agg #[.pointer (some ⟨13, 68, none⟩)]]).run Tryz.prog w = .ok (.bool true) w := by kernel_rfl
theorem methodUnwrap90 (h : Value) (w : World) : (Go.method 349 98 h "Unwrap").run Tryz.prog w = .ok (172, h) w := by kernel_rfl
theorem methodError90 (h : Value) (w : World) : (Go.method 349 98 h "Error").run Tryz.prog w = .ok (171, h) w := by kernel_rfl
theorem neq_nil72 (v : Value) (w : World) : (binOp .eql 25 (.iface 68 v) .nilIface).run Tryz.prog w = .ok (.bool false) w := by kernel_rfl
set_option maxHeartbeats 16000000 in
set_option maxRecDepth 100000 in
theorem error_calls (e c : Nat) (name : ByteArray) (w : World) (h : FC w e c name) (hc : c < 100) (hn : name.size ≤ 140737488351232) : Calls Tryz.prog 171 #[.pointer (some ⟨e, 0, none⟩)] w fun ev w' => (∃ s : ByteArray, ev = .returned (.string s) ∧ 0 < s.size) ∧ w' = w := by
  obtain ⟨h0, h1, h2, h3⟩ := h
  obtain ⟨s1, s2⟩ := numS_size c hc
  generalize hnum : numS c = num at *
  have HE := errno_calls c hc
  rw [hnum] at HE
  by_cases hz : name = ⟨#[]⟩
  · subst hz
    go_enter Tryz.func171, Tryz.ntmps171
    go_wp2_with (fail)
    refine (HE _).mono ?_
    rintro e w1 ⟨rfl, rfl⟩
    go_wp2_with (fail)
    go_ret
    exact ⟨⟨num, rfl, s2⟩, rfl⟩
  · have hne : (name.toList == []) = false := by
      rw [ByteArray.toList_eq]
      simp only [beq_eq_false_iff_ne]
      intro h
      exact hz (ByteArray.ext (Array.toList_inj.1 h))
    have n1 : ¬ 9223372036854775807 < 1 + name.size := by omega
    have n2 : ¬ 9223372036854775807 < num.size + (1 + name.size) := by omega
    go_enter Tryz.func171, Tryz.ntmps171
    go_wp2_with (fail)
    refine (HE _).mono ?_
    rintro e w1 ⟨rfl, rfl⟩
    go_wp2_with (fail)
    go_ret
    exact ⟨⟨_, rfl, by rw [ByteArray.size_append]; omega⟩, rfl⟩
set_option maxHeartbeats 16000000 in
set_option maxRecDepth 100000 in
theorem is1_calls (c : Nat) (w : World) : Calls Tryz.prog 76 #[.iface 68 (.int .i64 c), .iface 68 (.int .i64 c), .bool true] w fun ev w' => ev = .returned (.bool true) ∧ w' = w := by
  have h0 := eql_errno c
  go_enter Tryz.func76, Tryz.ntmps76
  go_wp2
  refine wp_loop_rounds 1 ?_
  rw [rounds_succ]
  go_wp2
  go_ret
  exact ⟨rfl, rfl⟩
end
section
set_option maxHeartbeats 16000000 in
set_option maxRecDepth 100000 in
theorem is2_calls (e c : Nat) (name : ByteArray) (w : World) (h : FC w e c name) : Calls Tryz.prog 76 #[.iface 98 (.pointer (some ⟨e, 0, none⟩)), .iface 68 (.int .i64 c), .bool true] w fun ev w' => ev = .returned (.bool true) ∧ Below w.heap.size w w' := by
  have HF := Aside0.mk h
  clear h
  have t0 := fun (v v' : Value) (w : World) => run_eql_iface_types (P := Tryz.prog) 98 68 v v' Tryz.underlying25 (by decide) w
  have a1 := noIs90
  have a2 := noUnwrap90
  have a3 := hasUnwraps90
  have m1 := methodUnwrap90
  have n1 := neq_nil72
  go_enter Tryz.func76, Tryz.ntmps76
  go_wp2_with (fail)
  refine wp_loop_rounds 1 ?_
  rw [rounds_succ]
  go_wp2_with (fail)
  refine (unwrap_calls e c name _ HF.out).mono ?_
  rintro ev w1 ⟨rfl, rfl⟩
  go_wp2_with (fail)
  refine wp_loop_rounds 1 ?_
  rw [rounds_succ]
  go_wp2_with (fail)
  refine (is1_calls c _).mono ?_
  rintro ev w1 ⟨rfl, rfl⟩
  go_wp2_with (fail)
  go_ret
  exact ⟨rfl, (Below.refl _ _).alloc (Nat.le_refl _) _⟩
set_option maxHeartbeats 16000000 in
set_option maxRecDepth 100000 in
theorem is_calls (e c : Nat) (name : ByteArray) (w : World) (h : FC w e c name) : Calls Tryz.prog 36 #[.iface 98 (.pointer (some ⟨e, 0, none⟩)), .iface 68 (.int .i64 c)] w fun ev w' => ev = .returned (.bool true) ∧ Below w.heap.size w w' := by
  have HI := Aside0.mk (is2_calls e c name w h)
  clear h
  have h76 := @run_callFunc_extern Tryz.prog 75 _ Extern.ReflectliteType.typeOf Tryz.func75 (by kernel_rfl) (by kernel_rfl) (by kernel_rfl) (by kernel_rfl)
  have h136 := @run_callFunc_extern Tryz.prog 175 _ (ReflectliteType.method fun t => do Rtype.noPackHeld "Comparable" t; pure (.bool (← typeInfo t).comparable)) Tryz.func175 (by kernel_rfl) (by kernel_rfl) (by kernel_rfl) (by kernel_rfl)
  have tT := typeOf72
  have mC := methodComparable
  have cC : ∀ w : World, ((ReflectliteType.method fun t => do Rtype.noPackHeld "Comparable" t; (fun a : TypeInfo => Value.bool a.comparable) <$> typeInfo t) #[.agg #[.pointer (some ⟨13, 68, none⟩)]]).run Tryz.prog w = .ok (.bool true) w := fun w => by kernel_rfl
  have n1 := neq_nil72
  go_enter Tryz.func36, Tryz.ntmps36
  go_wp2_with (fail)
  refine HI.out.mono ?_
  rintro ev w1 ⟨rfl, hb⟩
  go_wp2_with (fail)
  go_ret
  exact ⟨rfl, hb⟩
end
section
/-- What the world must hold: errors' own variable of the type 'error'. -/
def GE (w : World) : Prop := w.cell? ⟨0, 0, none⟩ = some (.iface 130 (.agg #[.pointer (some ⟨13, 25, none⟩)]))
theorem GE.below {w w1 : World} (h : GE w) (hb : Below w.heap.size w w1) : GE w1 := pw_cell_below hb h
theorem as_calls (e t : Addr) (old : Value) (w : World) (hG : GE w) (ht0 : w.cell? t = some old) (hf0 : w.frozen? t = false) :
    Calls Tryz.prog 85 #[.iface 98 (.pointer (some e)), .iface 112 (.pointer (some t))] w fun ev w' => ev = .returned (.bool true) ∧ ∃ w1, w' = w1.setCell t (.pointer (some e)) ∧ Below w.heap.size w w1 := by
  refine (ErrAs.as_hit e t old w hG ht0 hf0).mono ?_
  rintro ev w' ⟨rfl, rfl⟩
  exact ⟨rfl, _, rfl, ((((Below.refl _ _).alloc (Nat.le_refl _) _).alloc (by simp) _).alloc (by simp <;> omega) _).alloc (by simp <;> omega) _⟩
set_option maxHeartbeats 16000000 in
set_option maxRecDepth 100000 in
theorem told_calls (g c : Nat) (name : ByteArray) (w : World) (h : FC w g c name) (hG : GE w) (hc : c < 100) (hn : name.size ≤ 140737488351232) :
    Calls Tryz.prog 45 #[.iface 98 (.pointer (some ⟨g, 0, none⟩))] w fun ev w' => ev = .returned (.tuple #[.int .i64 c, .string name, .int .i64 (-1)]) ∧ Below w.heap.size w w' := by
  have HF := Aside0.mk h
  have HG := Aside0.mk hG
  clear h hG
  have n1 : ∀ (v : Value) (w : World), (binOp .eql 25 (.iface 98 v) .nilIface).run Tryz.prog w = .ok (.bool false) w := fun v w => by kernel_rfl
  have m1 := methodError90
  go_enter Tryz.func45, Tryz.ntmps45
  go_wp2_with (fail)
  refine (as_calls ⟨g, 0, none⟩ ⟨w.heap.size, 0, none⟩ (.pointer none) _ (HG.out.below ((Below.refl _ _).alloc (Nat.le_refl _) _)) (by simp) (by simp)).mono ?_
  rintro ev w1 ⟨rfl, w0, rfl, hb0⟩
  have HB0 := Aside0.mk (below_step (w := w) ((Below.refl _ _).alloc (Nat.le_refl _) _) hb0)
  have hsz := hb0.size
  have HB1 : Aside0 (Below w.heap.size w (w0.setCell ⟨w.heap.size, 0, none⟩ (.pointer (some ⟨g, 0, none⟩)))) := ⟨HB0.out.setCell (Nat.le_refl _) _⟩
  have hp : (w0.setCell ⟨w.heap.size, 0, none⟩ (.pointer (some ⟨g, 0, none⟩))).cell? ⟨w.heap.size, 0, none⟩ = some (.pointer (some ⟨g, 0, none⟩)) := World.cell?_setCell_same _ _ _ (pw_cell_below hb0 (show _ = some (Value.pointer none) by simp))
  have HF1 := Aside0.mk (HF.out.below HB1.out)
  obtain ⟨c0, c1, c2, c3⟩ := HF1.out
  clear hb0
  generalize w0.setCell ⟨w.heap.size, 0, none⟩ (.pointer (some ⟨g, 0, none⟩)) = w1 at *
  go_wp2_with (fail)
  refine (is_calls g c name _ HF1.out).mono ?_
  rintro ev w2 ⟨rfl, hb2⟩
  have HF2 := Aside0.mk (HF1.out.below hb2)
  have HB2 := Aside0.mk (below_step (w := w) HB1.out hb2)
  have hp2 := pw_cell_below hb2 hp
  obtain ⟨d0, d1, d2, d3⟩ := HF2.out
  clear hb2 c0 c1 c2 c3 hp
  go_wp2_with (fail)
  refine (error_calls g c name _ HF2.out hc hn).mono ?_
  rintro ev w3 ⟨⟨s, rfl, hs⟩, rfl⟩
  have hse : (s.toList == []) = false := by
    rw [ByteArray.toList_eq]
    simp only [beq_eq_false_iff_ne]
    intro h
    have : s.size = 0 := by
      have e := congrArg List.length h
      rw [Array.length_toList] at e
      exact e
    omega
  go_wp2_with (fail)
  go_quiet (fail)
  go_wp2_with (fail)
  exact bodyPost_ret (results_list (rs := [_, _, _]) Tryz.results45 (by simp) (.tmp (.tmp (.tmp .nil)))) rfl ⟨rfl, pw_below_drewN HB2.out _⟩
set_option maxHeartbeats 16000000 in
theorem isNo_calls (w : World) (name : ByteArray) (k : Int) : Calls Tryz.prog 10 #[.nilIface, .int .i64 0, .string name, .int .i64 k] w fun ev w' => ev = .returned (.bool true) ∧ w' = w := by
  go_enter Tryz.func10, Tryz.ntmps10
  go_wp2
  go_ret
  exact ⟨rfl, rfl⟩
set_option maxHeartbeats 16000000 in
set_option maxRecDepth 100000 in
theorem is_ok (g c : Nat) (name : ByteArray) (w : World) (h : FC w g c name) (hG : GE w) (h0 : 0 < c) (hc : c < 100) (hn : name.size ≤ 140737488351232) :
    Calls Tryz.prog 10 #[.iface 98 (.pointer (some ⟨g, 0, none⟩)), .int .i64 c, .string name, .int .i64 (-1)] w fun ev w' => ev = .returned (.bool true) ∧ Below w.heap.size w w' := by
  have HT := Aside0.mk (told_calls g c name w h hG hc hn)
  clear h hG
  have hc0 : ¬ (c : Int) = 0 := by omega
  have hnn : (name.toList == name.toList) = true := by simp
  go_enter Tryz.func10, Tryz.ntmps10
  go_wp2_with (fail)
  refine HT.out.mono ?_
  rintro ev w1 ⟨rfl, hb⟩
  go_wp2_with (fail)
  go_ret
  exact ⟨by simp, hb⟩
end
end Go.Proofs.YtmceikfbgmcmaaaGreatDoor.D

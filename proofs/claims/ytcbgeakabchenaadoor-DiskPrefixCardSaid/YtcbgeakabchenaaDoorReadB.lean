/- The disk's reading calls; Restart. -/
import Derived.Test.YtcbgeakabchenaaDoorPowB
namespace Go.Proofs.YtcbgeakabchenaaDoor.D
open Go.RowKit Go.Extern.Stop Go.Stop Go.Extern Go.Proofs.YtcbgeakabchenaaDoorW.PrintWords Go.Proofs.YtcbgeakabchenaaDoorW.PrintLast Go.Proofs.YtcbgeakabchenaaDoorW.PrintMore
set_option linter.unusedVariables false
set_option linter.unusedSimpArgs false
theorem int_beq (c : Nat) : ((c : Int) == 0) = decide (c = 0) := by
  by_cases h : c = 0
  · subst h; rfl
  · rw [decide_eq_false h, beq_eq_false_iff_ne]
    omega
theorem int_ne {c : Nat} (h : c ≠ 0) : ¬ (c : Int) = 0 := by omega
def thereC (s : St) (name : ByteArray) : Nat := if ableC s name ≠ 0 then ableC s name else if (lk s.L name).isSome then 0 else 6
theorem ableC_lt (s : St) (name : ByteArray) : ableC s name < 100 := by
  unfold ableC
  repeat' split
  all_goals omega
theorem thereC_lt (s : St) (name : ByteArray) : thereC s name < 100 := by
  unfold thereC
  have := ableC_lt s name
  repeat' split
  all_goals omega
set_option maxHeartbeats 8000000 in
set_option maxRecDepth 100000 in
theorem there_nil (name : ByteArray) (w : World) : Calls Tryd.prog 22 #[.pointer none, .string name] w fun e w' => e = .returned (.int .i64 1) ∧ w' = w := by
  go_enter Tryd.func22, Tryd.ntmps22
  go_wp2_with (fail)
  refine (able_nil name _).mono ?_
  rintro e w1 ⟨rfl, rfl⟩
  go_wp2_with (fail)
  go_ret
  exact ⟨rfl, rfl⟩
set_option maxHeartbeats 8000000 in
set_option maxRecDepth 100000 in
theorem there_calls (p b : Nat) (s : St) (name : ByteArray) (w : World) (h : DK w p b s) (hn : name.size ≤ maxLen) : Calls Tryd.prog 22 #[.pointer (some ⟨p, 0, none⟩), .string name] w fun e w' => e = .returned (.int .i64 (thereC s name)) ∧ w' = w := by
  obtain ⟨c0, c1, c2, c3, cf⟩ := h.c
  have HA := Aside0.mk (able_calls p b s name w h)
  have hlook := h.2.1.look_ok name hn
  unfold thereC
  clear h
  by_cases h0 : ableC s name = 0
  · rw [h0] at HA
    rw [if_neg (by omega)]
    cases hl : lk s.L name with
    | none =>
      rw [hl] at hlook
      go_enter Tryd.func22, Tryd.ntmps22
      go_wp2_with (fail)
      refine HA.out.mono ?_
      rintro e w1 ⟨rfl, rfl⟩
      go_wp2_with (fail)
      go_ret
      exact ⟨rfl, rfl⟩
    | some v =>
      rw [hl] at hlook
      go_enter Tryd.func22, Tryd.ntmps22
      go_wp2_with (fail)
      refine HA.out.mono ?_
      rintro e w1 ⟨rfl, rfl⟩
      go_wp2_with (fail)
      go_ret
      exact ⟨rfl, rfl⟩
  · rw [if_pos h0]
    generalize ableC s name = c at *
    have hc := int_ne h0
    go_enter Tryd.func22, Tryd.ntmps22
    go_wp2_with (fail)
    refine HA.out.mono ?_
    rintro e w1 ⟨rfl, rfl⟩
    go_wp2_with (fail)
    go_ret
    exact ⟨rfl, rfl⟩
/-- The error that the number tells: none, or a fault of that name. -/
def Er (w : World) (lo : Nat) (e : Value) (c : Nat) (name : ByteArray) : Prop := (c = 0 ∧ e = .nilIface) ∨ (0 < c ∧ ∃ h, e = .iface 50 (.pointer (some ⟨h, 0, none⟩)) ∧ lo ≤ h ∧ h < w.heap.size ∧ FC w h c name)
theorem FC.lt {w : World} {h c : Nat} {name : ByteArray} (k : FC w h c name) : h < w.heap.size := World.block_lt_of_cell? w _ k.1
set_option maxHeartbeats 8000000 in
set_option maxRecDepth 100000 in
theorem read_nil (name : ByteArray) (w : World) : Calls Tryd.prog 14 #[.pointer none, .string name] w fun e w' => ∃ v, e = .returned (.tuple #[.string ⟨#[]⟩, v]) ∧ Er w' w.heap.size v 1 name ∧ Below w.heap.size w w' := by
  go_enter Tryd.func14, Tryd.ntmps14
  go_wp2_with (fail)
  refine (there_nil name _).mono ?_
  rintro e w1 ⟨rfl, rfl⟩
  go_wp2_with (fail)
  refine (fault_calls 1 name _).mono ?_
  rintro e w2 ⟨g, rfl, hg, hF, hb⟩
  go_wp2_with (fail)
  go_ret2
  exact ⟨_, rfl, .inr ⟨by decide, g, rfl, hg, hF.lt, hF⟩, hb⟩
set_option maxHeartbeats 8000000 in
set_option maxRecDepth 100000 in
theorem read_calls (p b : Nat) (s : St) (name : ByteArray) (w : World) (h : DK w p b s) (hn : name.size ≤ maxLen) : Calls Tryd.prog 14 #[.pointer (some ⟨p, 0, none⟩), .string name] w fun e w' => ∃ v, e = .returned (.tuple #[.string (if thereC s name = 0 then lkD s.L name else ⟨#[]⟩), v]) ∧ Er w' w.heap.size v (thereC s name) name ∧ Below w.heap.size w w' := by
  obtain ⟨c0, c1, c2, c3, cf⟩ := h.c
  have HA := Aside0.mk (there_calls p b s name w h hn)
  have hlook := h.2.1.look name hn
  clear h
  by_cases h0 : thereC s name = 0
  · rw [h0] at HA ⊢
    rw [if_pos rfl]
    go_enter Tryd.func14, Tryd.ntmps14
    go_wp2_with (fail)
    refine HA.out.mono ?_
    rintro e w1 ⟨rfl, rfl⟩
    go_wp2_with (fail)
    go_ret2
    exact ⟨_, rfl, .inl ⟨rfl, rfl⟩, Below.refl _ _⟩
  · rw [if_neg h0]
    generalize thereC s name = c at *
    have hc := int_ne h0
    go_enter Tryd.func14, Tryd.ntmps14
    go_wp2_with (fail)
    refine HA.out.mono ?_
    rintro e w1 ⟨rfl, rfl⟩
    go_wp2_with (fail)
    refine (fault_calls c name _).mono ?_
    rintro e w2 ⟨g, rfl, hg, hF, hb⟩
    go_wp2_with (fail)
    go_ret2
    exact ⟨_, rfl, .inr ⟨by omega, g, rfl, hg, hF.lt, hF⟩, hb⟩
set_option maxHeartbeats 8000000 in
set_option maxRecDepth 100000 in
theorem size_nil (name : ByteArray) (w : World) : Calls Tryd.prog 10 #[.pointer none, .string name] w fun e w' => ∃ v, e = .returned (.tuple #[.int .i64 0, v]) ∧ Er w' w.heap.size v 1 name ∧ Below w.heap.size w w' := by
  go_enter Tryd.func10, Tryd.ntmps10
  go_wp2_with (fail)
  refine (read_nil name _).mono ?_
  rintro e w1 ⟨v, rfl, hE, hb⟩
  go_wp2_with (fail)
  go_ret2
  exact ⟨_, rfl, hE, hb⟩
set_option maxHeartbeats 8000000 in
set_option maxRecDepth 100000 in
theorem size_calls (p b : Nat) (s : St) (name : ByteArray) (w : World) (h : DK w p b s) (hn : name.size ≤ maxLen) : Calls Tryd.prog 10 #[.pointer (some ⟨p, 0, none⟩), .string name] w fun e w' => ∃ v, e = .returned (.tuple #[.int .i64 (if thereC s name = 0 then lkD s.L name else ⟨#[]⟩).size, v]) ∧ Er w' w.heap.size v (thereC s name) name ∧ Below w.heap.size w w' := by
  have HR := Aside0.mk (read_calls p b s name w h hn)
  clear h
  generalize (if thereC s name = 0 then lkD s.L name else ⟨#[]⟩) = x at *
  go_enter Tryd.func10, Tryd.ntmps10
  go_wp2_with (fail)
  refine HR.out.mono ?_
  rintro e w1 ⟨v, rfl, hE, hb⟩
  go_wp2_with (fail)
  go_ret2
  exact ⟨_, rfl, hE, hb⟩
set_option maxHeartbeats 8000000 in
set_option maxRecDepth 100000 in
theorem restart_nil (n : Int) (w : World) : Calls Tryd.prog 9 #[.pointer none, .int .i64 n] w fun e w' => ∃ v, e = .returned v ∧ Er w' w.heap.size v 1 ⟨#[]⟩ ∧ Below w.heap.size w w' := by
  have h0 := nil23
  go_enter Tryd.func9, Tryd.ntmps9
  go_wp2_with (fail)
  refine (fault_calls 1 ⟨#[]⟩ _).mono ?_
  rintro e w2 ⟨g, rfl, hg, hF, hb⟩
  go_wp2_with (fail)
  go_ret
  exact ⟨_, rfl, .inr ⟨by decide, g, rfl, hg, hF.lt, hF⟩, hb⟩
set_option maxHeartbeats 8000000 in
set_option maxRecDepth 100000 in
theorem restart_calls (p b : Nat) (s : St) (n : Int) (w : World) (h : DK w p b s) : Calls Tryd.prog 9 #[.pointer (some ⟨p, 0, none⟩), .int .i64 n] w fun e w' => e = .returned .nilIface ∧ DK w' p b ⟨s.L, n, 0, false⟩ ∧ Kp p b w w' := by
  obtain ⟨c0, c1, c2, c3, cf⟩ := h.c
  have f1 := cf 1
  have f2 := cf 2
  have f3 := cf 3
  have HD := Aside0.mk h
  clear h
  go_enter Tryd.func9, Tryd.ntmps9
  go_wp2_with (fail)
  go_ret
  exact ⟨rfl, ((HD.out.setCut n).setCnt 0).setDead false, (((Kp.refl p b w).set _).set _).set _⟩
set_option maxHeartbeats 8000000 in
set_option maxRecDepth 100000 in
theorem writes_nil (w : World) : Calls Tryd.prog 8 #[.pointer none] w fun e w' => e = .returned (.int .i64 0) ∧ w' = w := by
  have h0 := nil23
  go_enter Tryd.func8, Tryd.ntmps8
  go_wp2
  go_ret
  exact ⟨rfl, rfl⟩
set_option maxHeartbeats 8000000 in
set_option maxRecDepth 100000 in
theorem writes_calls (p b : Nat) (s : St) (w : World) (h : DK w p b s) : Calls Tryd.prog 8 #[.pointer (some ⟨p, 0, none⟩)] w fun e w' => e = .returned (.int .i64 s.cnt) ∧ w' = w := by
  obtain ⟨c0, c1, c2, c3, cf⟩ := h.c
  clear h
  go_enter Tryd.func8, Tryd.ntmps8
  go_wp2
  go_ret
  exact ⟨rfl, rfl⟩
end Go.Proofs.YtcbgeakabchenaaDoor.D

/- The test of an error's number, its name, its place. -/
import Derived.Test.YtcbgeakabchenaaGreatDoorErrC
import Derived.Test.YtcbgeakabchenaaGreatDoorErrAs
import Derived.BigQuiet
import Derived.Deep.QuietTactic
namespace Go.Proofs.YtcbgeakabchenaaGreatDoor.D
open Go.RowKit Go.Extern.Stop Go.Stop Go.Extern Go.Proofs.YtcbgeakabchenaaGreatDoorW.PrintWords Go.Proofs.YtcbgeakabchenaaGreatDoorW.PrintLast Go.Proofs.YtcbgeakabchenaaGreatDoorW.PrintMore
set_option linter.unusedVariables false
set_option linter.unusedSimpArgs false
/-- What the world must hold: errors' own variable of the type 'error'. -/
def GE (w : World) : Prop := w.cell? ⟨0, 0, none⟩ = some (.iface 129 (.agg #[.pointer (some ⟨4, 43, none⟩)]))
theorem GE.below {w w1 : World} (h : GE w) (hb : Below w.heap.size w w1) : GE w1 := pw_cell_below hb h
theorem as_calls (e t : Addr) (old : Value) (w : World) (hG : GE w) (ht0 : w.cell? t = some old) (hf0 : w.frozen? t = false) :
    Calls Tryz.prog 66 #[.iface 90 (.pointer (some e)), .iface 94 (.pointer (some t))] w fun ev w' => ev = .returned (.bool true) ∧ ∃ w1, w' = w1.setCell t (.pointer (some e)) ∧ Below w.heap.size w w1 := by
  refine (ErrAs.as_hit e t old w hG ht0 hf0).mono ?_
  rintro ev w' ⟨rfl, rfl⟩
  exact ⟨rfl, _, rfl, ((((Below.refl _ _).alloc (Nat.le_refl _) _).alloc (by simp) _).alloc (by simp <;> omega) _).alloc (by simp <;> omega) _⟩
set_option maxHeartbeats 16000000 in
set_option maxRecDepth 100000 in
theorem told_calls (g c : Nat) (name : ByteArray) (w : World) (h : FC w g c name) (hG : GE w) (hc : c < 100) (hn : name.size ≤ 140737488351232) :
    Calls Tryz.prog 41 #[.iface 90 (.pointer (some ⟨g, 0, none⟩))] w fun ev w' => ev = .returned (.tuple #[.int .i64 c, .string name, .int .i64 (-1)]) ∧ Below w.heap.size w w' := by
  have HF := Aside0.mk h
  have HG := Aside0.mk hG
  clear h hG
  have n1 : ∀ (v : Value) (w : World), (binOp .eql 43 (.iface 90 v) .nilIface).run Tryz.prog w = .ok (.bool false) w := fun v w => by kernel_rfl
  have m1 := methodError90
  go_enter Tryz.func41, Tryz.ntmps41
  go_wp2_with (fail)
  refine (as_calls ⟨g, 0, none⟩ ⟨w.heap.size, 0, none⟩ (.pointer none) _ (HG.out.below ((Below.refl _ _).alloc (Nat.le_refl _) _)) (by simp) (by simp)).mono ?_
  rintro ev w1 ⟨rfl, w0, rfl, hb0⟩
  have HB0 := Aside0.mk (below_step (w := w) ((Below.refl _ _).alloc (Nat.le_refl _) _) hb0)
  have hsz := hb0.size
  have HB1 : Aside0 (Below w.heap.size w (w0.setCell ⟨w.heap.size, 0, none⟩ (.pointer (some ⟨g, 0, none⟩)))) := ⟨HB0.out.setCell (Nat.le_refl _) _⟩
  have hp : (w0.setCell ⟨w.heap.size, 0, none⟩ (.pointer (some ⟨g, 0, none⟩))).cell? ⟨w.heap.size, 0, none⟩ = some (.pointer (some ⟨g, 0, none⟩)) := World.cell?_setCell_same _ _ _ (pw_cell_below hb0 (show _ = some (Value.pointer none) by simp))
  have HF1 := Aside0.mk (HF.out.below HB1.out)
  obtain ⟨c0, c1, c2, c3⟩ := HF1.out
  clear hb0
  generalize w0.setCell ⟨w.heap.size, 0, none⟩ (.pointer (some ⟨g, 0, none⟩)) = w1 at *
  go_wp2_with (fail)
  refine (is_calls g c name _ HF1.out).mono ?_
  rintro ev w2 ⟨rfl, hb2⟩
  have HF2 := Aside0.mk (HF1.out.below hb2)
  have HB2 := Aside0.mk (below_step (w := w) HB1.out hb2)
  have hp2 := pw_cell_below hb2 hp
  obtain ⟨d0, d1, d2, d3⟩ := HF2.out
  clear hb2 c0 c1 c2 c3 hp
  go_wp2_with (fail)
  refine (error_calls g c name _ HF2.out hc hn).mono ?_
  rintro ev w3 ⟨⟨s, rfl, hs⟩, rfl⟩
  have hse : (s.toList == []) = false := by
    rw [ByteArray.toList_eq]
    simp only [beq_eq_false_iff_ne]
    intro h
    have : s.size = 0 := by
      have e := congrArg List.length h
      rw [Array.length_toList] at e
      exact e
    omega
  go_wp2_with (fail)
  go_quiet (fail)
  go_wp2_with (fail)
  exact bodyPost_ret (results_list (rs := [_, _, _]) Tryz.results41 (by simp) (.tmp (.tmp (.tmp .nil)))) rfl ⟨rfl, pw_below_drewN HB2.out _⟩
set_option maxHeartbeats 16000000 in
theorem isNo_calls (w : World) (name : ByteArray) (k : Int) : Calls Tryz.prog 19 #[.nilIface, .int .i64 0, .string name, .int .i64 k] w fun ev w' => ev = .returned (.bool true) ∧ w' = w := by
  go_enter Tryz.func19, Tryz.ntmps19
  go_wp2
  go_ret
  exact ⟨rfl, rfl⟩
set_option maxHeartbeats 16000000 in
set_option maxRecDepth 100000 in
theorem is_ok (g c : Nat) (name : ByteArray) (w : World) (h : FC w g c name) (hG : GE w) (h0 : 0 < c) (hc : c < 100) (hn : name.size ≤ 140737488351232) :
    Calls Tryz.prog 19 #[.iface 90 (.pointer (some ⟨g, 0, none⟩)), .int .i64 c, .string name, .int .i64 (-1)] w fun ev w' => ev = .returned (.bool true) ∧ Below w.heap.size w w' := by
  have HT := Aside0.mk (told_calls g c name w h hG hc hn)
  clear h hG
  have hc0 : ¬ (c : Int) = 0 := by omega
  have hnn : (name.toList == name.toList) = true := by simp
  go_enter Tryz.func19, Tryz.ntmps19
  go_wp2_with (fail)
  refine HT.out.mono ?_
  rintro ev w1 ⟨rfl, hb⟩
  go_wp2_with (fail)
  go_ret
  exact ⟨by simp, hb⟩
end Go.Proofs.YtcbgeakabchenaaGreatDoor.D

/- The walk of twin: the same version in memory of its own. -/
import Derived.Test.YtoiibjipjlkaeaaDoorReadA
namespace Go.Proofs.YtoiibjipjlkaeaaDoor.PV
open Go.RowKit Go.Proofs.YtoiibjipjlkaeaaDoorW.PrintWords Go.Proofs.YtoiibjipjlkaeaaDoorW.PrintLast Go.Proofs.YtoiibjipjlkaeaaDoorW.PrintMore
attribute [local go_sem] max2_int min2_int max_two min_two max_three min_three max_four min_four   -- for this text's walks alone
set_option linter.unusedVariables false
set_option linter.unusedSimpArgs false

/-! twin: the same version in memory of its own. -/
theorem results_cell_one {fn : Func} {p : Tmp} {ty : TypeId} (h : fn.results = #[.cell p ty]) (tmps : Array Value) (P : Program) (w : World) :
    (results fn tmps).run P w = ((asAddr (tmps.getD p undef)).run P w).andThen fun a w₁ => (loadVar ty a).run P w₁ := by
  simp only [results, h]
  simp [Sem.run_bind, Result.andThen]
set_option maxRecDepth 100000 in
theorem retC1 {fn : Func} {p : Tmp} (hres : fn.results = #[.cell p 32]) (tmps : Array Value) (W : World) (g : Nat) (v0 v1 v2 v3 : Value) (ht : tmps.getD p undef = .pointer (some ⟨g, 0, none⟩)) (c0 : W.cell? ⟨g, 0, none⟩ = some v0) (c1 : W.cell? ⟨g, 1, none⟩ = some v1) (c2 : W.cell? ⟨g, 2, none⟩ = some v2) (c3 : W.cell? ⟨g, 3, none⟩ = some v3) :
    (results fn tmps).run Tryd.prog W = .ok (.agg #[v0, v1, v2, v3]) W := by
  rw [results_cell_one hres, ht]
  have := load4 W g v0 v1 v2 v3 c0 c1 c2 c3
  have e : ∀ W', (asAddr (.pointer (some ⟨g, 0, none⟩))).run Tryd.prog W' = .ok ⟨g, 0, none⟩ W' := fun _ => rfl
  rw [e]
  show (loadVar 32 ⟨g, 0, none⟩).run _ _ = _
  rw [this]
theorem grown_cell {W w1 : World} {row : Option Nat} (hg : W.grownBy w1 row) (hr : row = none) (b o : Nat) (hb : b < W.heap.size) : w1.cell? ⟨b, o, none⟩ = W.cell? ⟨b, o, none⟩ :=
  World.cell?_of_block (a := ⟨b, o, none⟩) (hg.block b hb (by subst hr; simp))
theorem grown_frozen {W w1 : World} {row : Option Nat} (hg : W.grownBy w1 row) (hr : row = none) (b o : Nat) (hb : b < W.heap.size) : w1.frozen? ⟨b, o, none⟩ = W.frozen? ⟨b, o, none⟩ :=
  World.frozen?_of_block (a := ⟨b, o, none⟩) (hg.block b hb (by subst hr; simp))
set_option maxHeartbeats 8000000 in
set_option maxRecDepth 100000 in
theorem twin_calls (a b c : Int) (A : Option Addr) (cA : Nat) (l : List ByteArray) (w : World) (hA : Kd.C Kd.string w A l.length l) (hl : l.length * 16 ≤ 140737488355328) :
    Calls Tryd.prog 15 #[.agg #[.int .u32 a, .int .u32 b, .int .u32 c, .slice A l.length cA]] w fun e w' => ∃ v : Value, e = .returned (.agg #[.int .u32 a, .int .u32 b, .int .u32 c, v]) ∧ Kd.R Kd.string 9 w' w.heap.size (fun _ => True) v l ∧ Below w.heap.size w w' := by
  have HA := Aside0.mk hA
  clear hA
  go_enter Tryd.func15, Tryd.ntmps15
  go_wp2_with (at_builtin; go_loud (refine Kd.R_append_row Value.string ByteArray.empty (h1 := fun _ => rfl) (w0 := w) w.heap.size rfl (.const (.slice none 0 0)) (.tmp 4) 30 9 (.string ⟨#[]⟩) 16 rfl rfl (by kernel_rfl) rfl (by decide) (.slice none 0 0) [] l A l.length cA (fun k => w.heap.size + 2 ≤ k) rfl rfl (fun k hk => by simp at hk; omega) (Kd.R_nil _ _ _ _ _) (by exact Kd.C_alloc (Kd.C_alloc HA.out _) _) (by repeat (first | exact Below.refl _ _ | exact HB9.out | exact HB8.out | exact HB7.out | exact HB6.out | exact HB5.out | exact HB4.out | exact HB3.out | exact HB2.out | exact HB1.out | exact HB.out | (refine Below.alloc ?_ (by first | exact HB9.out.size | exact HB8.out.size | exact HB7.out.size | exact HB6.out.size | exact HB5.out.size | exact HB4.out.size | exact HB3.out.size | exact HB2.out.size | exact HB1.out.size | exact HB.out.size | (simp; done) | (simp <;> omega)) _) | apply pw_below_drewN | (refine Below.setCell ?_ (by first | (simp; done) | (simp <;> omega) | omega) _))) (by simp <;> omega) (by simpa using hl) ?_; intro v1 w1 hR hb1 hg _; rw [List.nil_append] at hR; obtain ⟨A1, k1, rfl⟩ := Kd.R_slice hR; have HR := Aside0.mk hR; clear hR; have HB1 := Aside0.mk hb1; have hz1 : w.heap.size + 1 < w1.heap.size := (by have := hg.size; simp at this; omega); have q0 : w1.cell? ⟨w.heap.size, 0, none⟩ = some (.int .u32 a) := (grown_cell hg rfl _ _ (by simp <;> omega)).trans (by go_simp); have z0 : w1.cell? ⟨w.heap.size + 1, 0, none⟩ = some (.int .u32 0) := (grown_cell hg rfl _ _ (by simp <;> omega)).trans (by go_simp); have f0 : w1.frozen? ⟨w.heap.size, 0, none⟩ = false := (grown_frozen hg rfl _ _ (by simp <;> omega)).trans (by go_simp); have g0 : w1.frozen? ⟨w.heap.size + 1, 0, none⟩ = false := (grown_frozen hg rfl _ _ (by simp <;> omega)).trans (by go_simp); have q1 : w1.cell? ⟨w.heap.size, 1, none⟩ = some (.int .u32 b) := (grown_cell hg rfl _ _ (by simp <;> omega)).trans (by go_simp); have z1 : w1.cell? ⟨w.heap.size + 1, 1, none⟩ = some (.int .u32 0) := (grown_cell hg rfl _ _ (by simp <;> omega)).trans (by go_simp); have f1 : w1.frozen? ⟨w.heap.size, 1, none⟩ = false := (grown_frozen hg rfl _ _ (by simp <;> omega)).trans (by go_simp); have g1 : w1.frozen? ⟨w.heap.size + 1, 1, none⟩ = false := (grown_frozen hg rfl _ _ (by simp <;> omega)).trans (by go_simp); have q2 : w1.cell? ⟨w.heap.size, 2, none⟩ = some (.int .u32 c) := (grown_cell hg rfl _ _ (by simp <;> omega)).trans (by go_simp); have z2 : w1.cell? ⟨w.heap.size + 1, 2, none⟩ = some (.int .u32 0) := (grown_cell hg rfl _ _ (by simp <;> omega)).trans (by go_simp); have f2 : w1.frozen? ⟨w.heap.size, 2, none⟩ = false := (grown_frozen hg rfl _ _ (by simp <;> omega)).trans (by go_simp); have g2 : w1.frozen? ⟨w.heap.size + 1, 2, none⟩ = false := (grown_frozen hg rfl _ _ (by simp <;> omega)).trans (by go_simp); have q3 : w1.cell? ⟨w.heap.size, 3, none⟩ = some (.slice A l.length cA) := (grown_cell hg rfl _ _ (by simp <;> omega)).trans (by go_simp); have z3 : w1.cell? ⟨w.heap.size + 1, 3, none⟩ = some (.slice none 0 0) := (grown_cell hg rfl _ _ (by simp <;> omega)).trans (by go_simp); have f3 : w1.frozen? ⟨w.heap.size, 3, none⟩ = false := (grown_frozen hg rfl _ _ (by simp <;> omega)).trans (by go_simp); have g3 : w1.frozen? ⟨w.heap.size + 1, 3, none⟩ = false := (grown_frozen hg rfl _ _ (by simp <;> omega)).trans (by go_simp); clear hb1 hg))
  have c0 : (((((w1.setCell ⟨w.heap.size, 3, none⟩ (.slice A1 l.length k1)).setCell ⟨w.heap.size + 1, 0, none⟩ (.int .u32 a)).setCell ⟨w.heap.size + 1, 1, none⟩ (.int .u32 b)).setCell ⟨w.heap.size + 1, 2, none⟩ (.int .u32 c)).setCell ⟨w.heap.size + 1, 3, none⟩ (.slice A1 l.length k1)).cell? ⟨w.heap.size + 1, 0, none⟩ = some (.int .u32 a) := by go_simp
  have c1 : (((((w1.setCell ⟨w.heap.size, 3, none⟩ (.slice A1 l.length k1)).setCell ⟨w.heap.size + 1, 0, none⟩ (.int .u32 a)).setCell ⟨w.heap.size + 1, 1, none⟩ (.int .u32 b)).setCell ⟨w.heap.size + 1, 2, none⟩ (.int .u32 c)).setCell ⟨w.heap.size + 1, 3, none⟩ (.slice A1 l.length k1)).cell? ⟨w.heap.size + 1, 1, none⟩ = some (.int .u32 b) := by go_simp
  have c2 : (((((w1.setCell ⟨w.heap.size, 3, none⟩ (.slice A1 l.length k1)).setCell ⟨w.heap.size + 1, 0, none⟩ (.int .u32 a)).setCell ⟨w.heap.size + 1, 1, none⟩ (.int .u32 b)).setCell ⟨w.heap.size + 1, 2, none⟩ (.int .u32 c)).setCell ⟨w.heap.size + 1, 3, none⟩ (.slice A1 l.length k1)).cell? ⟨w.heap.size + 1, 2, none⟩ = some (.int .u32 c) := by go_simp
  have c3 : (((((w1.setCell ⟨w.heap.size, 3, none⟩ (.slice A1 l.length k1)).setCell ⟨w.heap.size + 1, 0, none⟩ (.int .u32 a)).setCell ⟨w.heap.size + 1, 1, none⟩ (.int .u32 b)).setCell ⟨w.heap.size + 1, 2, none⟩ (.int .u32 c)).setCell ⟨w.heap.size + 1, 3, none⟩ (.slice A1 l.length k1)).cell? ⟨w.heap.size + 1, 3, none⟩ = some (.slice A1 l.length k1) := by go_simp
  refine bodyPost_ret (retC1 Tryd.results15 _ (((((w1.setCell ⟨w.heap.size, 3, none⟩ (.slice A1 l.length k1)).setCell ⟨w.heap.size + 1, 0, none⟩ (.int .u32 a)).setCell ⟨w.heap.size + 1, 1, none⟩ (.int .u32 b)).setCell ⟨w.heap.size + 1, 2, none⟩ (.int .u32 c)).setCell ⟨w.heap.size + 1, 3, none⟩ (.slice A1 l.length k1)) (w.heap.size + 1) _ _ _ _ rfl c0 c1 c2 c3) rfl ⟨_, rfl, ?_, ?_⟩
  · have n0 : ∀ k, w.heap.size + 2 ≤ k → k ≠ w.heap.size := fun k hk => by omega
    have n1 : ∀ k, w.heap.size + 2 ≤ k → k ≠ w.heap.size + 1 := fun k hk => by omega
    exact Kd.R_mono (Kd.R_far (p := ⟨w.heap.size + 1, 3, none⟩) (Kd.R_far (p := ⟨w.heap.size + 1, 2, none⟩) (Kd.R_far (p := ⟨w.heap.size + 1, 1, none⟩) (Kd.R_far (p := ⟨w.heap.size + 1, 0, none⟩) (Kd.R_far (p := ⟨w.heap.size, 3, none⟩) HR.out n0 _) n1 _) n1 _) n1 _) n1 _) (fun _ _ => trivial)
  · refine Below.setCell (Below.setCell (Below.setCell (Below.setCell (Below.setCell HB1.out ?_ _) ?_ _) ?_ _) ?_ _) ?_ _ <;> simp

end Go.Proofs.YtoiibjipjlkaeaaDoor.PV

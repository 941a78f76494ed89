/- The walk of version.Next. -/
import Derived.Test.YtoiibjipjlkaeaaDoorReadA
import Derived.Laws.BitsLemmas
namespace Go.Proofs.YtoiibjipjlkaeaaDoor.PV
open Go.RowKit Go.Proofs.YtoiibjipjlkaeaaDoorW.PrintWords Go.Proofs.YtoiibjipjlkaeaaDoorW.PrintLast Go.Proofs.YtoiibjipjlkaeaaDoorW.PrintMore
attribute [local go_sem] max2_int min2_int max_two min_two max_three min_three max_four min_four   -- for this text's walks alone
set_option linter.unusedVariables false
set_option linter.unusedSimpArgs false

set_option maxRecDepth 100000 in
theorem clear_0 (ty : TypeId) (W : World) (a : Option Addr) (c : Nat) : (Builtin.clear_ #[78] ty #[.slice a 0 c]).run Tryd.prog W = .ok (.tuple #[]) W := by
  cases a <;> (unfold Builtin.clear_; go_simp)
theorem zc1 : (Builtin.zeroCells #[Value.int IntKind.u32 0] 1).toList = [.int .u32 0] := by kernel_rfl
theorem zc2 : (Builtin.zeroCells #[Value.int IntKind.u32 0] 2).toList = [.int .u32 0, .int .u32 0] := by kernel_rfl
set_option maxRecDepth 100000 in
theorem clear_1 (ty : TypeId) (W : World) (g : Nat) (x : Value) (h : W.cell? ⟨g, 2, none⟩ = some x) (f : W.frozen? ⟨g, 2, none⟩ = false) : (Builtin.clear_ #[78] ty #[.slice (some ⟨g, 2, none⟩) 1 1]).run Tryd.prog W = .ok (.tuple #[]) (W.setCell ⟨g, 2, none⟩ (.int .u32 0)) := by
  unfold Builtin.clear_; go_simp; rw [zc1]; go_simp
set_option maxRecDepth 100000 in
theorem clear_2 (ty : TypeId) (W : World) (g : Nat) (x y : Value) (h : W.cell? ⟨g, 1, none⟩ = some x) (f : W.frozen? ⟨g, 1, none⟩ = false) (h2 : W.cell? ⟨g, 2, none⟩ = some y) (f2 : W.frozen? ⟨g, 2, none⟩ = false) : (Builtin.clear_ #[78] ty #[.slice (some ⟨g, 1, none⟩) 2 2]).run Tryd.prog W = .ok (.tuple #[]) ((W.setCell ⟨g, 1, none⟩ (.int .u32 0)).setCell ⟨g, 2, none⟩ (.int .u32 0)) := by
  unfold Builtin.clear_; go_simp; rw [zc2]; go_simp
attribute [local go_sem] clear_0 clear_1 clear_2
def nextV (a b c : Int) (part : Int) : Option (Int × Int × Int) :=
  if part = 0 then (if a = 2147483647 then none else some (a + 1, 0, 0))
  else if part = 1 then (if b = 2147483647 then none else some (a, b + 1, 0))
  else if part = 2 then (if c = 2147483647 then none else some (a, b, c + 1))
  else none
def version_Next.f (a b c : Int) (l : List ByteArray) (part : Int) : Option (Int × Int × Int × List ByteArray × Int) :=
  if 0 ≤ a ∧ 0 ≤ b ∧ 0 ≤ c then
    some (if mayV a b c l = true then (match nextV a b c part with | some (x, y, z) => (x, y, z, [], 0) | none => (0, 0, 0, [], 2)) else (0, 0, 0, [], 70))
  else none
set_option maxRecDepth 100000 in
theorem retC {fn : Func} {p u : Tmp} (hres : fn.results = #[.cell p 32, .tmp u]) (tmps : Array Value) (W : World) (g : Nat) (v0 v1 v2 v3 v4 : Value) (ht : tmps.getD p undef = .pointer (some ⟨g, 0, none⟩)) (hu : tmps.getD u undef = v4) (c0 : W.cell? ⟨g, 0, none⟩ = some v0) (c1 : W.cell? ⟨g, 1, none⟩ = some v1) (c2 : W.cell? ⟨g, 2, none⟩ = some v2) (c3 : W.cell? ⟨g, 3, none⟩ = some v3) :
    (results fn tmps).run Tryd.prog W = .ok (.tuple #[.agg #[v0, v1, v2, v3], v4]) W := by
  rw [results_cell_tmp hres, ht, hu]
  have := load4 W g v0 v1 v2 v3 c0 c1 c2 c3
  have e : ∀ W', (asAddr (.pointer (some ⟨g, 0, none⟩))).run Tryd.prog W' = .ok ⟨g, 0, none⟩ W' := fun _ => rfl
  rw [e]
  show ((loadVar 32 ⟨g, 0, none⟩).run _ _).andThen _ = _
  rw [this]
  simp only [Result.andThen]
set_option maxHeartbeats 8000000 in
set_option maxRecDepth 100000 in
theorem version_Next.calls (a b c : Int) (A : Option Addr) (cA : Nat) (l : List ByteArray) (part : Int) (r1 r2 r3 : Int) (r4 : List ByteArray) (r5 : Int) (w : World) (hA : Kd.C Kd.string w A l.length l) (hcA : l.length ≤ cA) (hG : GW w) (h : version_Next.f a b c l part = some (r1, r2, r3, r4, r5)) :
    Calls Tryd.prog 19 #[.agg #[.int .u32 a, .int .u32 b, .int .u32 c, .slice A l.length cA], .int .i64 part] w fun e w' => ∃ v3_ : Value, e = .returned (.tuple #[.agg #[.int .u32 r1, .int .u32 r2, .int .u32 r3, v3_], .int .i64 r5]) ∧ Kd.R Kd.string 9 w' w.heap.size (fun _ => True) v3_ r4 ∧ Below w.heap.size w w' := by
  unfold version_Next.f at h
  split at h
  case isFalse => cases h
  rename_i hpos
  obtain ⟨ha0, hb0, hc0⟩ := hpos
  have HH := Aside0.mk (Option.some.inj h)
  have HA := Aside0.mk hA
  have HG := Aside0.mk hG
  clear h hA hG
  by_cases hm : mayV a b c l = true
  case neg =>
    have hmay := Aside0.mk (show version_May.f a b c l = some 70 by rw [version_May.f, if_neg hm])
    have hr := HH.out
    rw [if_neg hm] at hr
    cases hr
    go_enter Tryd.func19, Tryd.ntmps19
    go_wp2_with (first | (go_at_call 25; refine (version_May.calls a b c A cA l 70 _ (HA.out |> fun q => Kd.C_alloc (Kd.C_alloc q _) _) hcA (by exact GW.below HG.out (by repeat (first | exact Below.refl _ _ | exact HB1.out | (refine Below.alloc ?_ (by simp <;> omega) _) | apply pw_below_drewN | (refine Below.setCell ?_ (by simp <;> omega) _)))) hmay.out).mono ?_; rintro e w1 ⟨rfl, hb1⟩; have HB1 := Aside0.mk (below_step (w := w) (by repeat (first | exact Below.refl _ _ | exact HB1.out | (refine Below.alloc ?_ (by simp <;> omega) _) | apply pw_below_drewN | (refine Below.setCell ?_ (by simp <;> omega) _))) hb1); obtain ⟨hc1, hf1⟩ := bcell hb1; have hz1 : w.heap.size < w1.heap.size := (by have := hb1.size; simp at this; omega); have hz2 : w.heap.size + 1 < w1.heap.size := (by have := hb1.size; simp at this; omega); clear hb1))
    have c0 : (((((w1.setCell ⟨w.heap.size + 1, 0, none⟩ (.int .u32 0)).setCell ⟨w.heap.size + 1, 1, none⟩ (.int .u32 0)).setCell ⟨w.heap.size + 1, 2, none⟩ (.int .u32 0)).setCell ⟨w.heap.size + 1, 3, none⟩ (.slice none 0 0))).cell? ⟨w.heap.size + 1, 0, none⟩ = some (.int .u32 0) := by go_simp
    have c1 : (((((w1.setCell ⟨w.heap.size + 1, 0, none⟩ (.int .u32 0)).setCell ⟨w.heap.size + 1, 1, none⟩ (.int .u32 0)).setCell ⟨w.heap.size + 1, 2, none⟩ (.int .u32 0)).setCell ⟨w.heap.size + 1, 3, none⟩ (.slice none 0 0))).cell? ⟨w.heap.size + 1, 1, none⟩ = some (.int .u32 0) := by go_simp
    have c2 : (((((w1.setCell ⟨w.heap.size + 1, 0, none⟩ (.int .u32 0)).setCell ⟨w.heap.size + 1, 1, none⟩ (.int .u32 0)).setCell ⟨w.heap.size + 1, 2, none⟩ (.int .u32 0)).setCell ⟨w.heap.size + 1, 3, none⟩ (.slice none 0 0))).cell? ⟨w.heap.size + 1, 2, none⟩ = some (.int .u32 0) := by go_simp
    have c3 : (((((w1.setCell ⟨w.heap.size + 1, 0, none⟩ (.int .u32 0)).setCell ⟨w.heap.size + 1, 1, none⟩ (.int .u32 0)).setCell ⟨w.heap.size + 1, 2, none⟩ (.int .u32 0)).setCell ⟨w.heap.size + 1, 3, none⟩ (.slice none 0 0))).cell? ⟨w.heap.size + 1, 3, none⟩ = some (.slice none 0 0) := by go_simp
    refine bodyPost_ret (retC Tryd.results19 _ (((((w1.setCell ⟨w.heap.size + 1, 0, none⟩ (.int .u32 0)).setCell ⟨w.heap.size + 1, 1, none⟩ (.int .u32 0)).setCell ⟨w.heap.size + 1, 2, none⟩ (.int .u32 0)).setCell ⟨w.heap.size + 1, 3, none⟩ (.slice none 0 0))) (w.heap.size + 1) _ _ _ _ _ rfl rfl c0 c1 c2 c3) rfl ⟨_, rfl, Kd.R_nil _ _ _ _ _, ?_⟩
    repeat (first | exact Below.refl _ _ | exact HB1.out | (refine Below.alloc ?_ (by simp <;> omega) _) | apply pw_below_drewN | (refine Below.setCell ?_ (by simp <;> omega) _))
  case pos =>
    have hmay := Aside0.mk (show version_May.f a b c l = some 0 by rw [version_May.f, if_pos hm])
    have hr := HH.out
    rw [if_pos hm] at hr
    have hbd : a ≤ 2147483647 ∧ b ≤ 2147483647 ∧ c ≤ 2147483647 := by
      unfold mayV at hm
      simp only [Bool.and_eq_true, decide_eq_true_eq] at hm
      exact ⟨hm.1.1, hm.1.2.1, hm.1.2.2.1⟩
    obtain ⟨ha1, hb1, hc1⟩ := hbd
    have HR := Aside0.mk hr
    clear hr
    by_cases p0 : part = 0
    case pos =>
      subst p0
      by_cases e : a = 2147483647
      case pos =>
        subst e
        have hr := HR.out
        cases hr
        go_enter Tryd.func19, Tryd.ntmps19
        go_wp2_with (first | (go_at_call 25; refine (version_May.calls 2147483647 b c A cA l 0 _ (HA.out |> fun q => Kd.C_alloc (Kd.C_alloc q _) _) hcA (by exact GW.below HG.out (by repeat (first | exact Below.refl _ _ | exact HB1.out | (refine Below.alloc ?_ (by simp <;> omega) _) | apply pw_below_drewN | (refine Below.setCell ?_ (by simp <;> omega) _)))) hmay.out).mono ?_; rintro e w1 ⟨rfl, hb1⟩; have HB1 := Aside0.mk (below_step (w := w) (by repeat (first | exact Below.refl _ _ | exact HB1.out | (refine Below.alloc ?_ (by simp <;> omega) _) | apply pw_below_drewN | (refine Below.setCell ?_ (by simp <;> omega) _))) hb1); obtain ⟨hc1, hf1⟩ := bcell hb1; have hz1 : w.heap.size < w1.heap.size := (by have := hb1.size; simp at this; omega); have hz2 : w.heap.size + 1 < w1.heap.size := (by have := hb1.size; simp at this; omega); clear hb1))
        have c0 : ((((((w1.setCell ⟨w.heap.size + 1, 0, none⟩ (.int .u32 0)).setCell ⟨w.heap.size + 1, 1, none⟩ (.int .u32 0)).setCell ⟨w.heap.size + 1, 2, none⟩ (.int .u32 0)).setCell ⟨w.heap.size + 1, 3, none⟩ (.slice none 0 0)).alloc (.cells #[.int .u32 2147483647, .int .u32 b, .int .u32 c] 77))).cell? ⟨w.heap.size + 1, 0, none⟩ = some (.int .u32 0) := by go_simp
        have c1 : ((((((w1.setCell ⟨w.heap.size + 1, 0, none⟩ (.int .u32 0)).setCell ⟨w.heap.size + 1, 1, none⟩ (.int .u32 0)).setCell ⟨w.heap.size + 1, 2, none⟩ (.int .u32 0)).setCell ⟨w.heap.size + 1, 3, none⟩ (.slice none 0 0)).alloc (.cells #[.int .u32 2147483647, .int .u32 b, .int .u32 c] 77))).cell? ⟨w.heap.size + 1, 1, none⟩ = some (.int .u32 0) := by go_simp
        have c2 : ((((((w1.setCell ⟨w.heap.size + 1, 0, none⟩ (.int .u32 0)).setCell ⟨w.heap.size + 1, 1, none⟩ (.int .u32 0)).setCell ⟨w.heap.size + 1, 2, none⟩ (.int .u32 0)).setCell ⟨w.heap.size + 1, 3, none⟩ (.slice none 0 0)).alloc (.cells #[.int .u32 2147483647, .int .u32 b, .int .u32 c] 77))).cell? ⟨w.heap.size + 1, 2, none⟩ = some (.int .u32 0) := by go_simp
        have c3 : ((((((w1.setCell ⟨w.heap.size + 1, 0, none⟩ (.int .u32 0)).setCell ⟨w.heap.size + 1, 1, none⟩ (.int .u32 0)).setCell ⟨w.heap.size + 1, 2, none⟩ (.int .u32 0)).setCell ⟨w.heap.size + 1, 3, none⟩ (.slice none 0 0)).alloc (.cells #[.int .u32 2147483647, .int .u32 b, .int .u32 c] 77))).cell? ⟨w.heap.size + 1, 3, none⟩ = some (.slice none 0 0) := by go_simp
        refine bodyPost_ret (retC Tryd.results19 _ ((((((w1.setCell ⟨w.heap.size + 1, 0, none⟩ (.int .u32 0)).setCell ⟨w.heap.size + 1, 1, none⟩ (.int .u32 0)).setCell ⟨w.heap.size + 1, 2, none⟩ (.int .u32 0)).setCell ⟨w.heap.size + 1, 3, none⟩ (.slice none 0 0)).alloc (.cells #[.int .u32 2147483647, .int .u32 b, .int .u32 c] 77))) (w.heap.size + 1) _ _ _ _ _ rfl rfl c0 c1 c2 c3) rfl ⟨_, rfl, Kd.R_nil _ _ _ _ _, ?_⟩
        repeat (first | exact Below.refl _ _ | exact HB1.out | (refine Below.alloc ?_ (by simp <;> omega) _) | apply pw_below_drewN | (refine Below.setCell ?_ (by simp <;> omega) _))
      have hr := HR.out
      unfold nextV at hr
      rw [if_pos rfl, if_neg e] at hr
      cases hr
      have hwr : IntKind.u32.wrap (a + 1) = a + 1 := by rw [IntKind.wrap_u32]; omega
      have hwr2 : (a + 1) % 4294967296 = a + 1 := by omega
      go_enter Tryd.func19, Tryd.ntmps19
      go_wp2_with (first | (go_at_call 25; refine (version_May.calls a b c A cA l 0 _ (HA.out |> fun q => Kd.C_alloc (Kd.C_alloc q _) _) hcA (by exact GW.below HG.out (by repeat (first | exact Below.refl _ _ | exact HB1.out | (refine Below.alloc ?_ (by simp <;> omega) _) | apply pw_below_drewN | (refine Below.setCell ?_ (by simp <;> omega) _)))) hmay.out).mono ?_; rintro e w1 ⟨rfl, hb1⟩; have HB1 := Aside0.mk (below_step (w := w) (by repeat (first | exact Below.refl _ _ | exact HB1.out | (refine Below.alloc ?_ (by simp <;> omega) _) | apply pw_below_drewN | (refine Below.setCell ?_ (by simp <;> omega) _))) hb1); obtain ⟨hc1, hf1⟩ := bcell hb1; have hz1 : w.heap.size < w1.heap.size := (by have := hb1.size; simp at this; omega); have hz2 : w.heap.size + 1 < w1.heap.size := (by have := hb1.size; simp at this; omega); clear hb1))
      have c0 : ((((((w1.setCell ⟨w.heap.size + 1, 0, none⟩ (.int .u32 (a + 1))).setCell ⟨w.heap.size + 1, 1, none⟩ (.int .u32 0)).setCell ⟨w.heap.size + 1, 2, none⟩ (.int .u32 0)).setCell ⟨w.heap.size + 1, 3, none⟩ (.slice none 0 0)).alloc (.cells #[.int .u32 (a + 1), .int .u32 0, .int .u32 0] 77))).cell? ⟨w.heap.size + 1, 0, none⟩ = some (.int .u32 (a + 1)) := by go_simp
      have c1 : ((((((w1.setCell ⟨w.heap.size + 1, 0, none⟩ (.int .u32 (a + 1))).setCell ⟨w.heap.size + 1, 1, none⟩ (.int .u32 0)).setCell ⟨w.heap.size + 1, 2, none⟩ (.int .u32 0)).setCell ⟨w.heap.size + 1, 3, none⟩ (.slice none 0 0)).alloc (.cells #[.int .u32 (a + 1), .int .u32 0, .int .u32 0] 77))).cell? ⟨w.heap.size + 1, 1, none⟩ = some (.int .u32 0) := by go_simp
      have c2 : ((((((w1.setCell ⟨w.heap.size + 1, 0, none⟩ (.int .u32 (a + 1))).setCell ⟨w.heap.size + 1, 1, none⟩ (.int .u32 0)).setCell ⟨w.heap.size + 1, 2, none⟩ (.int .u32 0)).setCell ⟨w.heap.size + 1, 3, none⟩ (.slice none 0 0)).alloc (.cells #[.int .u32 (a + 1), .int .u32 0, .int .u32 0] 77))).cell? ⟨w.heap.size + 1, 2, none⟩ = some (.int .u32 0) := by go_simp
      have c3 : ((((((w1.setCell ⟨w.heap.size + 1, 0, none⟩ (.int .u32 (a + 1))).setCell ⟨w.heap.size + 1, 1, none⟩ (.int .u32 0)).setCell ⟨w.heap.size + 1, 2, none⟩ (.int .u32 0)).setCell ⟨w.heap.size + 1, 3, none⟩ (.slice none 0 0)).alloc (.cells #[.int .u32 (a + 1), .int .u32 0, .int .u32 0] 77))).cell? ⟨w.heap.size + 1, 3, none⟩ = some (.slice none 0 0) := by go_simp
      refine bodyPost_ret (retC Tryd.results19 _ ((((((w1.setCell ⟨w.heap.size + 1, 0, none⟩ (.int .u32 (a + 1))).setCell ⟨w.heap.size + 1, 1, none⟩ (.int .u32 0)).setCell ⟨w.heap.size + 1, 2, none⟩ (.int .u32 0)).setCell ⟨w.heap.size + 1, 3, none⟩ (.slice none 0 0)).alloc (.cells #[.int .u32 (a + 1), .int .u32 0, .int .u32 0] 77))) (w.heap.size + 1) _ _ _ _ _ rfl rfl c0 c1 c2 c3) rfl ⟨_, rfl, Kd.R_nil _ _ _ _ _, ?_⟩
      repeat (first | exact Below.refl _ _ | exact HB1.out | (refine Below.alloc ?_ (by simp <;> omega) _) | apply pw_below_drewN | (refine Below.setCell ?_ (by simp <;> omega) _))
    by_cases p1 : part = 1
    case pos =>
      subst p1
      by_cases e : b = 2147483647
      case pos =>
        subst e
        have hr := HR.out
        cases hr
        go_enter Tryd.func19, Tryd.ntmps19
        go_wp2_with (first | (go_at_call 25; refine (version_May.calls a 2147483647 c A cA l 0 _ (HA.out |> fun q => Kd.C_alloc (Kd.C_alloc q _) _) hcA (by exact GW.below HG.out (by repeat (first | exact Below.refl _ _ | exact HB1.out | (refine Below.alloc ?_ (by simp <;> omega) _) | apply pw_below_drewN | (refine Below.setCell ?_ (by simp <;> omega) _)))) hmay.out).mono ?_; rintro e w1 ⟨rfl, hb1⟩; have HB1 := Aside0.mk (below_step (w := w) (by repeat (first | exact Below.refl _ _ | exact HB1.out | (refine Below.alloc ?_ (by simp <;> omega) _) | apply pw_below_drewN | (refine Below.setCell ?_ (by simp <;> omega) _))) hb1); obtain ⟨hc1, hf1⟩ := bcell hb1; have hz1 : w.heap.size < w1.heap.size := (by have := hb1.size; simp at this; omega); have hz2 : w.heap.size + 1 < w1.heap.size := (by have := hb1.size; simp at this; omega); clear hb1))
        have c0 : ((((((w1.setCell ⟨w.heap.size + 1, 0, none⟩ (.int .u32 0)).setCell ⟨w.heap.size + 1, 1, none⟩ (.int .u32 0)).setCell ⟨w.heap.size + 1, 2, none⟩ (.int .u32 0)).setCell ⟨w.heap.size + 1, 3, none⟩ (.slice none 0 0)).alloc (.cells #[.int .u32 a, .int .u32 2147483647, .int .u32 c] 77))).cell? ⟨w.heap.size + 1, 0, none⟩ = some (.int .u32 0) := by go_simp
        have c1 : ((((((w1.setCell ⟨w.heap.size + 1, 0, none⟩ (.int .u32 0)).setCell ⟨w.heap.size + 1, 1, none⟩ (.int .u32 0)).setCell ⟨w.heap.size + 1, 2, none⟩ (.int .u32 0)).setCell ⟨w.heap.size + 1, 3, none⟩ (.slice none 0 0)).alloc (.cells #[.int .u32 a, .int .u32 2147483647, .int .u32 c] 77))).cell? ⟨w.heap.size + 1, 1, none⟩ = some (.int .u32 0) := by go_simp
        have c2 : ((((((w1.setCell ⟨w.heap.size + 1, 0, none⟩ (.int .u32 0)).setCell ⟨w.heap.size + 1, 1, none⟩ (.int .u32 0)).setCell ⟨w.heap.size + 1, 2, none⟩ (.int .u32 0)).setCell ⟨w.heap.size + 1, 3, none⟩ (.slice none 0 0)).alloc (.cells #[.int .u32 a, .int .u32 2147483647, .int .u32 c] 77))).cell? ⟨w.heap.size + 1, 2, none⟩ = some (.int .u32 0) := by go_simp
        have c3 : ((((((w1.setCell ⟨w.heap.size + 1, 0, none⟩ (.int .u32 0)).setCell ⟨w.heap.size + 1, 1, none⟩ (.int .u32 0)).setCell ⟨w.heap.size + 1, 2, none⟩ (.int .u32 0)).setCell ⟨w.heap.size + 1, 3, none⟩ (.slice none 0 0)).alloc (.cells #[.int .u32 a, .int .u32 2147483647, .int .u32 c] 77))).cell? ⟨w.heap.size + 1, 3, none⟩ = some (.slice none 0 0) := by go_simp
        refine bodyPost_ret (retC Tryd.results19 _ ((((((w1.setCell ⟨w.heap.size + 1, 0, none⟩ (.int .u32 0)).setCell ⟨w.heap.size + 1, 1, none⟩ (.int .u32 0)).setCell ⟨w.heap.size + 1, 2, none⟩ (.int .u32 0)).setCell ⟨w.heap.size + 1, 3, none⟩ (.slice none 0 0)).alloc (.cells #[.int .u32 a, .int .u32 2147483647, .int .u32 c] 77))) (w.heap.size + 1) _ _ _ _ _ rfl rfl c0 c1 c2 c3) rfl ⟨_, rfl, Kd.R_nil _ _ _ _ _, ?_⟩
        repeat (first | exact Below.refl _ _ | exact HB1.out | (refine Below.alloc ?_ (by simp <;> omega) _) | apply pw_below_drewN | (refine Below.setCell ?_ (by simp <;> omega) _))
      have hr := HR.out
      unfold nextV at hr
      rw [if_neg (by decide)] at hr
      rw [if_pos rfl, if_neg e] at hr
      cases hr
      have hwr : IntKind.u32.wrap (b + 1) = b + 1 := by rw [IntKind.wrap_u32]; omega
      have hwr2 : (b + 1) % 4294967296 = b + 1 := by omega
      go_enter Tryd.func19, Tryd.ntmps19
      go_wp2_with (first | (go_at_call 25; refine (version_May.calls a b c A cA l 0 _ (HA.out |> fun q => Kd.C_alloc (Kd.C_alloc q _) _) hcA (by exact GW.below HG.out (by repeat (first | exact Below.refl _ _ | exact HB1.out | (refine Below.alloc ?_ (by simp <;> omega) _) | apply pw_below_drewN | (refine Below.setCell ?_ (by simp <;> omega) _)))) hmay.out).mono ?_; rintro e w1 ⟨rfl, hb1⟩; have HB1 := Aside0.mk (below_step (w := w) (by repeat (first | exact Below.refl _ _ | exact HB1.out | (refine Below.alloc ?_ (by simp <;> omega) _) | apply pw_below_drewN | (refine Below.setCell ?_ (by simp <;> omega) _))) hb1); obtain ⟨hc1, hf1⟩ := bcell hb1; have hz1 : w.heap.size < w1.heap.size := (by have := hb1.size; simp at this; omega); have hz2 : w.heap.size + 1 < w1.heap.size := (by have := hb1.size; simp at this; omega); clear hb1))
      have c0 : ((((((w1.setCell ⟨w.heap.size + 1, 0, none⟩ (.int .u32 a)).setCell ⟨w.heap.size + 1, 1, none⟩ (.int .u32 (b + 1))).setCell ⟨w.heap.size + 1, 2, none⟩ (.int .u32 0)).setCell ⟨w.heap.size + 1, 3, none⟩ (.slice none 0 0)).alloc (.cells #[.int .u32 a, .int .u32 (b + 1), .int .u32 0] 77))).cell? ⟨w.heap.size + 1, 0, none⟩ = some (.int .u32 a) := by go_simp
      have c1 : ((((((w1.setCell ⟨w.heap.size + 1, 0, none⟩ (.int .u32 a)).setCell ⟨w.heap.size + 1, 1, none⟩ (.int .u32 (b + 1))).setCell ⟨w.heap.size + 1, 2, none⟩ (.int .u32 0)).setCell ⟨w.heap.size + 1, 3, none⟩ (.slice none 0 0)).alloc (.cells #[.int .u32 a, .int .u32 (b + 1), .int .u32 0] 77))).cell? ⟨w.heap.size + 1, 1, none⟩ = some (.int .u32 (b + 1)) := by go_simp
      have c2 : ((((((w1.setCell ⟨w.heap.size + 1, 0, none⟩ (.int .u32 a)).setCell ⟨w.heap.size + 1, 1, none⟩ (.int .u32 (b + 1))).setCell ⟨w.heap.size + 1, 2, none⟩ (.int .u32 0)).setCell ⟨w.heap.size + 1, 3, none⟩ (.slice none 0 0)).alloc (.cells #[.int .u32 a, .int .u32 (b + 1), .int .u32 0] 77))).cell? ⟨w.heap.size + 1, 2, none⟩ = some (.int .u32 0) := by go_simp
      have c3 : ((((((w1.setCell ⟨w.heap.size + 1, 0, none⟩ (.int .u32 a)).setCell ⟨w.heap.size + 1, 1, none⟩ (.int .u32 (b + 1))).setCell ⟨w.heap.size + 1, 2, none⟩ (.int .u32 0)).setCell ⟨w.heap.size + 1, 3, none⟩ (.slice none 0 0)).alloc (.cells #[.int .u32 a, .int .u32 (b + 1), .int .u32 0] 77))).cell? ⟨w.heap.size + 1, 3, none⟩ = some (.slice none 0 0) := by go_simp
      refine bodyPost_ret (retC Tryd.results19 _ ((((((w1.setCell ⟨w.heap.size + 1, 0, none⟩ (.int .u32 a)).setCell ⟨w.heap.size + 1, 1, none⟩ (.int .u32 (b + 1))).setCell ⟨w.heap.size + 1, 2, none⟩ (.int .u32 0)).setCell ⟨w.heap.size + 1, 3, none⟩ (.slice none 0 0)).alloc (.cells #[.int .u32 a, .int .u32 (b + 1), .int .u32 0] 77))) (w.heap.size + 1) _ _ _ _ _ rfl rfl c0 c1 c2 c3) rfl ⟨_, rfl, Kd.R_nil _ _ _ _ _, ?_⟩
      repeat (first | exact Below.refl _ _ | exact HB1.out | (refine Below.alloc ?_ (by simp <;> omega) _) | apply pw_below_drewN | (refine Below.setCell ?_ (by simp <;> omega) _))
    by_cases p2 : part = 2
    case pos =>
      subst p2
      by_cases e : c = 2147483647
      case pos =>
        subst e
        have hr := HR.out
        cases hr
        go_enter Tryd.func19, Tryd.ntmps19
        go_wp2_with (first | (go_at_call 25; refine (version_May.calls a b 2147483647 A cA l 0 _ (HA.out |> fun q => Kd.C_alloc (Kd.C_alloc q _) _) hcA (by exact GW.below HG.out (by repeat (first | exact Below.refl _ _ | exact HB1.out | (refine Below.alloc ?_ (by simp <;> omega) _) | apply pw_below_drewN | (refine Below.setCell ?_ (by simp <;> omega) _)))) hmay.out).mono ?_; rintro e w1 ⟨rfl, hb1⟩; have HB1 := Aside0.mk (below_step (w := w) (by repeat (first | exact Below.refl _ _ | exact HB1.out | (refine Below.alloc ?_ (by simp <;> omega) _) | apply pw_below_drewN | (refine Below.setCell ?_ (by simp <;> omega) _))) hb1); obtain ⟨hc1, hf1⟩ := bcell hb1; have hz1 : w.heap.size < w1.heap.size := (by have := hb1.size; simp at this; omega); have hz2 : w.heap.size + 1 < w1.heap.size := (by have := hb1.size; simp at this; omega); clear hb1))
        have c0 : ((((((w1.setCell ⟨w.heap.size + 1, 0, none⟩ (.int .u32 0)).setCell ⟨w.heap.size + 1, 1, none⟩ (.int .u32 0)).setCell ⟨w.heap.size + 1, 2, none⟩ (.int .u32 0)).setCell ⟨w.heap.size + 1, 3, none⟩ (.slice none 0 0)).alloc (.cells #[.int .u32 a, .int .u32 b, .int .u32 2147483647] 77))).cell? ⟨w.heap.size + 1, 0, none⟩ = some (.int .u32 0) := by go_simp
        have c1 : ((((((w1.setCell ⟨w.heap.size + 1, 0, none⟩ (.int .u32 0)).setCell ⟨w.heap.size + 1, 1, none⟩ (.int .u32 0)).setCell ⟨w.heap.size + 1, 2, none⟩ (.int .u32 0)).setCell ⟨w.heap.size + 1, 3, none⟩ (.slice none 0 0)).alloc (.cells #[.int .u32 a, .int .u32 b, .int .u32 2147483647] 77))).cell? ⟨w.heap.size + 1, 1, none⟩ = some (.int .u32 0) := by go_simp
        have c2 : ((((((w1.setCell ⟨w.heap.size + 1, 0, none⟩ (.int .u32 0)).setCell ⟨w.heap.size + 1, 1, none⟩ (.int .u32 0)).setCell ⟨w.heap.size + 1, 2, none⟩ (.int .u32 0)).setCell ⟨w.heap.size + 1, 3, none⟩ (.slice none 0 0)).alloc (.cells #[.int .u32 a, .int .u32 b, .int .u32 2147483647] 77))).cell? ⟨w.heap.size + 1, 2, none⟩ = some (.int .u32 0) := by go_simp
        have c3 : ((((((w1.setCell ⟨w.heap.size + 1, 0, none⟩ (.int .u32 0)).setCell ⟨w.heap.size + 1, 1, none⟩ (.int .u32 0)).setCell ⟨w.heap.size + 1, 2, none⟩ (.int .u32 0)).setCell ⟨w.heap.size + 1, 3, none⟩ (.slice none 0 0)).alloc (.cells #[.int .u32 a, .int .u32 b, .int .u32 2147483647] 77))).cell? ⟨w.heap.size + 1, 3, none⟩ = some (.slice none 0 0) := by go_simp
        refine bodyPost_ret (retC Tryd.results19 _ ((((((w1.setCell ⟨w.heap.size + 1, 0, none⟩ (.int .u32 0)).setCell ⟨w.heap.size + 1, 1, none⟩ (.int .u32 0)).setCell ⟨w.heap.size + 1, 2, none⟩ (.int .u32 0)).setCell ⟨w.heap.size + 1, 3, none⟩ (.slice none 0 0)).alloc (.cells #[.int .u32 a, .int .u32 b, .int .u32 2147483647] 77))) (w.heap.size + 1) _ _ _ _ _ rfl rfl c0 c1 c2 c3) rfl ⟨_, rfl, Kd.R_nil _ _ _ _ _, ?_⟩
        repeat (first | exact Below.refl _ _ | exact HB1.out | (refine Below.alloc ?_ (by simp <;> omega) _) | apply pw_below_drewN | (refine Below.setCell ?_ (by simp <;> omega) _))
      have hr := HR.out
      unfold nextV at hr
      rw [if_neg (by decide)] at hr
      rw [if_neg (by decide)] at hr
      rw [if_pos rfl, if_neg e] at hr
      cases hr
      have hwr : IntKind.u32.wrap (c + 1) = c + 1 := by rw [IntKind.wrap_u32]; omega
      have hwr2 : (c + 1) % 4294967296 = c + 1 := by omega
      go_enter Tryd.func19, Tryd.ntmps19
      go_wp2_with (first | (go_at_call 25; refine (version_May.calls a b c A cA l 0 _ (HA.out |> fun q => Kd.C_alloc (Kd.C_alloc q _) _) hcA (by exact GW.below HG.out (by repeat (first | exact Below.refl _ _ | exact HB1.out | (refine Below.alloc ?_ (by simp <;> omega) _) | apply pw_below_drewN | (refine Below.setCell ?_ (by simp <;> omega) _)))) hmay.out).mono ?_; rintro e w1 ⟨rfl, hb1⟩; have HB1 := Aside0.mk (below_step (w := w) (by repeat (first | exact Below.refl _ _ | exact HB1.out | (refine Below.alloc ?_ (by simp <;> omega) _) | apply pw_below_drewN | (refine Below.setCell ?_ (by simp <;> omega) _))) hb1); obtain ⟨hc1, hf1⟩ := bcell hb1; have hz1 : w.heap.size < w1.heap.size := (by have := hb1.size; simp at this; omega); have hz2 : w.heap.size + 1 < w1.heap.size := (by have := hb1.size; simp at this; omega); clear hb1))
      have c0 : ((((((w1.setCell ⟨w.heap.size + 1, 0, none⟩ (.int .u32 a)).setCell ⟨w.heap.size + 1, 1, none⟩ (.int .u32 b)).setCell ⟨w.heap.size + 1, 2, none⟩ (.int .u32 (c + 1))).setCell ⟨w.heap.size + 1, 3, none⟩ (.slice none 0 0)).alloc (.cells #[.int .u32 a, .int .u32 b, .int .u32 (c + 1)] 77))).cell? ⟨w.heap.size + 1, 0, none⟩ = some (.int .u32 a) := by go_simp
      have c1 : ((((((w1.setCell ⟨w.heap.size + 1, 0, none⟩ (.int .u32 a)).setCell ⟨w.heap.size + 1, 1, none⟩ (.int .u32 b)).setCell ⟨w.heap.size + 1, 2, none⟩ (.int .u32 (c + 1))).setCell ⟨w.heap.size + 1, 3, none⟩ (.slice none 0 0)).alloc (.cells #[.int .u32 a, .int .u32 b, .int .u32 (c + 1)] 77))).cell? ⟨w.heap.size + 1, 1, none⟩ = some (.int .u32 b) := by go_simp
      have c2 : ((((((w1.setCell ⟨w.heap.size + 1, 0, none⟩ (.int .u32 a)).setCell ⟨w.heap.size + 1, 1, none⟩ (.int .u32 b)).setCell ⟨w.heap.size + 1, 2, none⟩ (.int .u32 (c + 1))).setCell ⟨w.heap.size + 1, 3, none⟩ (.slice none 0 0)).alloc (.cells #[.int .u32 a, .int .u32 b, .int .u32 (c + 1)] 77))).cell? ⟨w.heap.size + 1, 2, none⟩ = some (.int .u32 (c + 1)) := by go_simp
      have c3 : ((((((w1.setCell ⟨w.heap.size + 1, 0, none⟩ (.int .u32 a)).setCell ⟨w.heap.size + 1, 1, none⟩ (.int .u32 b)).setCell ⟨w.heap.size + 1, 2, none⟩ (.int .u32 (c + 1))).setCell ⟨w.heap.size + 1, 3, none⟩ (.slice none 0 0)).alloc (.cells #[.int .u32 a, .int .u32 b, .int .u32 (c + 1)] 77))).cell? ⟨w.heap.size + 1, 3, none⟩ = some (.slice none 0 0) := by go_simp
      refine bodyPost_ret (retC Tryd.results19 _ ((((((w1.setCell ⟨w.heap.size + 1, 0, none⟩ (.int .u32 a)).setCell ⟨w.heap.size + 1, 1, none⟩ (.int .u32 b)).setCell ⟨w.heap.size + 1, 2, none⟩ (.int .u32 (c + 1))).setCell ⟨w.heap.size + 1, 3, none⟩ (.slice none 0 0)).alloc (.cells #[.int .u32 a, .int .u32 b, .int .u32 (c + 1)] 77))) (w.heap.size + 1) _ _ _ _ _ rfl rfl c0 c1 c2 c3) rfl ⟨_, rfl, Kd.R_nil _ _ _ _ _, ?_⟩
      repeat (first | exact Below.refl _ _ | exact HB1.out | (refine Below.alloc ?_ (by simp <;> omega) _) | apply pw_below_drewN | (refine Below.setCell ?_ (by simp <;> omega) _))
    have hr := HR.out
    unfold nextV at hr
    rw [if_neg p0, if_neg p1, if_neg p2] at hr
    cases hr
    by_cases pn : part < 0
    case pos =>
      go_enter Tryd.func19, Tryd.ntmps19
      go_wp2_with (first | (go_at_call 25; refine (version_May.calls a b c A cA l 0 _ (HA.out |> fun q => Kd.C_alloc (Kd.C_alloc q _) _) hcA (by exact GW.below HG.out (by repeat (first | exact Below.refl _ _ | exact HB1.out | (refine Below.alloc ?_ (by simp <;> omega) _) | apply pw_below_drewN | (refine Below.setCell ?_ (by simp <;> omega) _)))) hmay.out).mono ?_; rintro e w1 ⟨rfl, hb1⟩; have HB1 := Aside0.mk (below_step (w := w) (by repeat (first | exact Below.refl _ _ | exact HB1.out | (refine Below.alloc ?_ (by simp <;> omega) _) | apply pw_below_drewN | (refine Below.setCell ?_ (by simp <;> omega) _))) hb1); obtain ⟨hc1, hf1⟩ := bcell hb1; have hz1 : w.heap.size < w1.heap.size := (by have := hb1.size; simp at this; omega); have hz2 : w.heap.size + 1 < w1.heap.size := (by have := hb1.size; simp at this; omega); clear hb1))
      have c0 : ((((((w1.setCell ⟨w.heap.size + 1, 0, none⟩ (.int .u32 0)).setCell ⟨w.heap.size + 1, 1, none⟩ (.int .u32 0)).setCell ⟨w.heap.size + 1, 2, none⟩ (.int .u32 0)).setCell ⟨w.heap.size + 1, 3, none⟩ (.slice none 0 0)).alloc (.cells #[.int .u32 a, .int .u32 b, .int .u32 c] 77))).cell? ⟨w.heap.size + 1, 0, none⟩ = some (.int .u32 0) := by go_simp
      have c1 : ((((((w1.setCell ⟨w.heap.size + 1, 0, none⟩ (.int .u32 0)).setCell ⟨w.heap.size + 1, 1, none⟩ (.int .u32 0)).setCell ⟨w.heap.size + 1, 2, none⟩ (.int .u32 0)).setCell ⟨w.heap.size + 1, 3, none⟩ (.slice none 0 0)).alloc (.cells #[.int .u32 a, .int .u32 b, .int .u32 c] 77))).cell? ⟨w.heap.size + 1, 1, none⟩ = some (.int .u32 0) := by go_simp
      have c2 : ((((((w1.setCell ⟨w.heap.size + 1, 0, none⟩ (.int .u32 0)).setCell ⟨w.heap.size + 1, 1, none⟩ (.int .u32 0)).setCell ⟨w.heap.size + 1, 2, none⟩ (.int .u32 0)).setCell ⟨w.heap.size + 1, 3, none⟩ (.slice none 0 0)).alloc (.cells #[.int .u32 a, .int .u32 b, .int .u32 c] 77))).cell? ⟨w.heap.size + 1, 2, none⟩ = some (.int .u32 0) := by go_simp
      have c3 : ((((((w1.setCell ⟨w.heap.size + 1, 0, none⟩ (.int .u32 0)).setCell ⟨w.heap.size + 1, 1, none⟩ (.int .u32 0)).setCell ⟨w.heap.size + 1, 2, none⟩ (.int .u32 0)).setCell ⟨w.heap.size + 1, 3, none⟩ (.slice none 0 0)).alloc (.cells #[.int .u32 a, .int .u32 b, .int .u32 c] 77))).cell? ⟨w.heap.size + 1, 3, none⟩ = some (.slice none 0 0) := by go_simp
      refine bodyPost_ret (retC Tryd.results19 _ ((((((w1.setCell ⟨w.heap.size + 1, 0, none⟩ (.int .u32 0)).setCell ⟨w.heap.size + 1, 1, none⟩ (.int .u32 0)).setCell ⟨w.heap.size + 1, 2, none⟩ (.int .u32 0)).setCell ⟨w.heap.size + 1, 3, none⟩ (.slice none 0 0)).alloc (.cells #[.int .u32 a, .int .u32 b, .int .u32 c] 77))) (w.heap.size + 1) _ _ _ _ _ rfl rfl c0 c1 c2 c3) rfl ⟨_, rfl, Kd.R_nil _ _ _ _ _, ?_⟩
      repeat (first | exact Below.refl _ _ | exact HB1.out | (refine Below.alloc ?_ (by simp <;> omega) _) | apply pw_below_drewN | (refine Below.setCell ?_ (by simp <;> omega) _))
    have pn2 : 2 < part := by omega
    go_enter Tryd.func19, Tryd.ntmps19
    go_wp2_with (first | (go_at_call 25; refine (version_May.calls a b c A cA l 0 _ (HA.out |> fun q => Kd.C_alloc (Kd.C_alloc q _) _) hcA (by exact GW.below HG.out (by repeat (first | exact Below.refl _ _ | exact HB1.out | (refine Below.alloc ?_ (by simp <;> omega) _) | apply pw_below_drewN | (refine Below.setCell ?_ (by simp <;> omega) _)))) hmay.out).mono ?_; rintro e w1 ⟨rfl, hb1⟩; have HB1 := Aside0.mk (below_step (w := w) (by repeat (first | exact Below.refl _ _ | exact HB1.out | (refine Below.alloc ?_ (by simp <;> omega) _) | apply pw_below_drewN | (refine Below.setCell ?_ (by simp <;> omega) _))) hb1); obtain ⟨hc1, hf1⟩ := bcell hb1; have hz1 : w.heap.size < w1.heap.size := (by have := hb1.size; simp at this; omega); have hz2 : w.heap.size + 1 < w1.heap.size := (by have := hb1.size; simp at this; omega); clear hb1))
    have c0 : ((((((w1.setCell ⟨w.heap.size + 1, 0, none⟩ (.int .u32 0)).setCell ⟨w.heap.size + 1, 1, none⟩ (.int .u32 0)).setCell ⟨w.heap.size + 1, 2, none⟩ (.int .u32 0)).setCell ⟨w.heap.size + 1, 3, none⟩ (.slice none 0 0)).alloc (.cells #[.int .u32 a, .int .u32 b, .int .u32 c] 77))).cell? ⟨w.heap.size + 1, 0, none⟩ = some (.int .u32 0) := by go_simp
    have c1 : ((((((w1.setCell ⟨w.heap.size + 1, 0, none⟩ (.int .u32 0)).setCell ⟨w.heap.size + 1, 1, none⟩ (.int .u32 0)).setCell ⟨w.heap.size + 1, 2, none⟩ (.int .u32 0)).setCell ⟨w.heap.size + 1, 3, none⟩ (.slice none 0 0)).alloc (.cells #[.int .u32 a, .int .u32 b, .int .u32 c] 77))).cell? ⟨w.heap.size + 1, 1, none⟩ = some (.int .u32 0) := by go_simp
    have c2 : ((((((w1.setCell ⟨w.heap.size + 1, 0, none⟩ (.int .u32 0)).setCell ⟨w.heap.size + 1, 1, none⟩ (.int .u32 0)).setCell ⟨w.heap.size + 1, 2, none⟩ (.int .u32 0)).setCell ⟨w.heap.size + 1, 3, none⟩ (.slice none 0 0)).alloc (.cells #[.int .u32 a, .int .u32 b, .int .u32 c] 77))).cell? ⟨w.heap.size + 1, 2, none⟩ = some (.int .u32 0) := by go_simp
    have c3 : ((((((w1.setCell ⟨w.heap.size + 1, 0, none⟩ (.int .u32 0)).setCell ⟨w.heap.size + 1, 1, none⟩ (.int .u32 0)).setCell ⟨w.heap.size + 1, 2, none⟩ (.int .u32 0)).setCell ⟨w.heap.size + 1, 3, none⟩ (.slice none 0 0)).alloc (.cells #[.int .u32 a, .int .u32 b, .int .u32 c] 77))).cell? ⟨w.heap.size + 1, 3, none⟩ = some (.slice none 0 0) := by go_simp
    refine bodyPost_ret (retC Tryd.results19 _ ((((((w1.setCell ⟨w.heap.size + 1, 0, none⟩ (.int .u32 0)).setCell ⟨w.heap.size + 1, 1, none⟩ (.int .u32 0)).setCell ⟨w.heap.size + 1, 2, none⟩ (.int .u32 0)).setCell ⟨w.heap.size + 1, 3, none⟩ (.slice none 0 0)).alloc (.cells #[.int .u32 a, .int .u32 b, .int .u32 c] 77))) (w.heap.size + 1) _ _ _ _ _ rfl rfl c0 c1 c2 c3) rfl ⟨_, rfl, Kd.R_nil _ _ _ _ _, ?_⟩
    repeat (first | exact Below.refl _ _ | exact HB1.out | (refine Below.alloc ?_ (by simp <;> omega) _) | apply pw_below_drewN | (refine Below.setCell ?_ (by simp <;> omega) _))

end Go.Proofs.YtoiibjipjlkaeaaDoor.PV

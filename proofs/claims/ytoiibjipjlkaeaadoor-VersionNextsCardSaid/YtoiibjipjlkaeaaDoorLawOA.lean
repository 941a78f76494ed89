/- The walks of version.Cmp and of the law VersionOrders. -/
import Derived.Test.YtoiibjipjlkaeaaDoorRefE
import Derived.Test.YtoiibjipjlkaeaaDoorAliveA
import Derived.Test.YtoiibjipjlkaeaaDoorTwinA
import Derived.Deep.RegionWith
namespace Go.Proofs.YtoiibjipjlkaeaaDoor.PV
open Go.RowKit Go.Proofs.YtoiibjipjlkaeaaDoorW.PrintWords Go.Proofs.YtoiibjipjlkaeaaDoorW.PrintLast Go.Proofs.YtoiibjipjlkaeaaDoorW.PrintMore
attribute [local go_sem] max2_int min2_int max_two min_two max_three min_three max_four min_four   -- for this text's walks alone
set_option linter.unusedVariables false
set_option linter.unusedSimpArgs false

/-! version.Cmp, and the law. -/
theorem may_f1 {a b c : Int} {l : List ByteArray} (h : mayV a b c l = true) : version_May.f a b c l = some 0 := by rw [version_May.f, if_pos h]
theorem may_f0 {a b c : Int} {l : List ByteArray} (h : mayV a b c l = false) : version_May.f a b c l = some 70 := by rw [version_May.f, if_neg (by rw [h]; decide)]
def cmpE (a b c : Int) (l : List ByteArray) (a' b' c' : Int) (m : List ByteArray) : Int := if mayV a b c l = true ∧ mayV a' b' c' m = true then 0 else 70
def cmpR (a b c : Int) (l : List ByteArray) (a' b' c' : Int) (m : List ByteArray) : Int := if mayV a b c l = true ∧ mayV a' b' c' m = true then cmpV a b c l a' b' c' m else 0
set_option maxHeartbeats 8000000 in
set_option maxRecDepth 100000 in
theorem vCmp_calls (a b c : Int) (A : Option Addr) (cA : Nat) (l : List ByteArray) (a' b' c' : Int) (B : Option Addr) (cB : Nat) (m : List ByteArray) (w : World) (hA : Kd.C Kd.string w A l.length l) (hcA : l.length ≤ cA) (hB : Kd.C Kd.string w B m.length m) (hcB : m.length ≤ cB) (hG : GW w) :
    Calls Tryd.prog 14 #[.agg #[.int .u32 a, .int .u32 b, .int .u32 c, .slice A l.length cA], .agg #[.int .u32 a', .int .u32 b', .int .u32 c', .slice B m.length cB]] w fun e w' => e = .returned (.tuple #[.int .i64 (cmpR a b c l a' b' c' m), .int .i64 (cmpE a b c l a' b' c' m)]) ∧ Below w.heap.size w w' := by
  have HG := Aside0.mk hG
  have HA := Aside0.mk hA
  have HBB := Aside0.mk hB
  clear hG hA hB
  unfold cmpR cmpE
  cases h1 : mayV a b c l
  case false =>
    rw [if_neg (by simp), if_neg (by simp)]
    go_enter Tryd.func14, Tryd.ntmps14
    go_wp2_with (fail)
    refine (version_May.calls a b c A cA l 70 _ (Kd.C_alloc (Kd.C_alloc HA.out _) _) hcA (by first | exact HG.out | exact GW.below HG.out (by repeat (first | exact Below.refl _ _ | exact HB9.out | exact HB8.out | exact HB7.out | exact HB6.out | exact HB5.out | exact HB4.out | exact HB3.out | exact HB2.out | exact HB1.out | exact HB.out | (refine Below.alloc ?_ (by first | exact HB9.out.size | exact HB8.out.size | exact HB7.out.size | exact HB6.out.size | exact HB5.out.size | exact HB4.out.size | exact HB3.out.size | exact HB2.out.size | exact HB1.out.size | exact HB.out.size | (simp; done) | (simp <;> omega)) _) | apply pw_below_drewN | apply below_drew1 | (refine Below.setCell ?_ (by first | (simp; done) | (simp <;> omega) | omega) _)))) (may_f0 h1)).mono ?_
    rintro e w1 ⟨rfl, hb1⟩
    have HB1 := Aside0.mk (below_step (w := w) (by repeat (first | exact Below.refl _ _ | exact HB9.out | exact HB8.out | exact HB7.out | exact HB6.out | exact HB5.out | exact HB4.out | exact HB3.out | exact HB2.out | exact HB1.out | exact HB.out | (refine Below.alloc ?_ (by first | exact HB9.out.size | exact HB8.out.size | exact HB7.out.size | exact HB6.out.size | exact HB5.out.size | exact HB4.out.size | exact HB3.out.size | exact HB2.out.size | exact HB1.out.size | exact HB.out.size | (simp; done) | (simp <;> omega)) _) | apply pw_below_drewN | apply below_drew1 | (refine Below.setCell ?_ (by first | (simp; done) | (simp <;> omega) | omega) _))) hb1); obtain ⟨hc1, hf1⟩ := bcell hb1; have hz1 := hb1.size; (try simp at hz1); clear hb1
    go_wp2
    exact bodyPost_ret (results_list (rs := [_, _]) Tryd.results14 (by simp) (.tmp (.tmp .nil))) rfl ⟨rfl, HB1.out⟩
  case true =>
  cases h2 : mayV a' b' c' m
  case false =>
    rw [if_neg (by simp), if_neg (by simp)]
    go_enter Tryd.func14, Tryd.ntmps14
    go_wp2_with (fail)
    refine (version_May.calls a b c A cA l 0 _ (Kd.C_alloc (Kd.C_alloc HA.out _) _) hcA (by first | exact HG.out | exact GW.below HG.out (by repeat (first | exact Below.refl _ _ | exact HB9.out | exact HB8.out | exact HB7.out | exact HB6.out | exact HB5.out | exact HB4.out | exact HB3.out | exact HB2.out | exact HB1.out | exact HB.out | (refine Below.alloc ?_ (by first | exact HB9.out.size | exact HB8.out.size | exact HB7.out.size | exact HB6.out.size | exact HB5.out.size | exact HB4.out.size | exact HB3.out.size | exact HB2.out.size | exact HB1.out.size | exact HB.out.size | (simp; done) | (simp <;> omega)) _) | apply pw_below_drewN | apply below_drew1 | (refine Below.setCell ?_ (by first | (simp; done) | (simp <;> omega) | omega) _)))) (may_f1 h1)).mono ?_
    rintro e w1 ⟨rfl, hb1⟩
    have HB2' := Aside0.mk (Kd.C_below (Kd.C_alloc (Kd.C_alloc HBB.out _) _) hb1)
    have HB1 := Aside0.mk (below_step (w := w) (by repeat (first | exact Below.refl _ _ | exact HB9.out | exact HB8.out | exact HB7.out | exact HB6.out | exact HB5.out | exact HB4.out | exact HB3.out | exact HB2.out | exact HB1.out | exact HB.out | (refine Below.alloc ?_ (by first | exact HB9.out.size | exact HB8.out.size | exact HB7.out.size | exact HB6.out.size | exact HB5.out.size | exact HB4.out.size | exact HB3.out.size | exact HB2.out.size | exact HB1.out.size | exact HB.out.size | (simp; done) | (simp <;> omega)) _) | apply pw_below_drewN | apply below_drew1 | (refine Below.setCell ?_ (by first | (simp; done) | (simp <;> omega) | omega) _))) hb1); obtain ⟨hc1, hf1⟩ := bcell hb1; have hz1 := hb1.size; (try simp at hz1); clear hb1
    go_wp2_with (fail)
    refine (version_May.calls a' b' c' B cB m 70 _ HB2'.out hcB (by first | exact HG.out | exact GW.below HG.out (by repeat (first | exact Below.refl _ _ | exact HB9.out | exact HB8.out | exact HB7.out | exact HB6.out | exact HB5.out | exact HB4.out | exact HB3.out | exact HB2.out | exact HB1.out | exact HB.out | (refine Below.alloc ?_ (by first | exact HB9.out.size | exact HB8.out.size | exact HB7.out.size | exact HB6.out.size | exact HB5.out.size | exact HB4.out.size | exact HB3.out.size | exact HB2.out.size | exact HB1.out.size | exact HB.out.size | (simp; done) | (simp <;> omega)) _) | apply pw_below_drewN | apply below_drew1 | (refine Below.setCell ?_ (by first | (simp; done) | (simp <;> omega) | omega) _)))) (may_f0 h2)).mono ?_
    rintro e w2 ⟨rfl, hb2⟩
    have HB2 := Aside0.mk (below_step (w := w) (by repeat (first | exact Below.refl _ _ | exact HB9.out | exact HB8.out | exact HB7.out | exact HB6.out | exact HB5.out | exact HB4.out | exact HB3.out | exact HB2.out | exact HB1.out | exact HB.out | (refine Below.alloc ?_ (by first | exact HB9.out.size | exact HB8.out.size | exact HB7.out.size | exact HB6.out.size | exact HB5.out.size | exact HB4.out.size | exact HB3.out.size | exact HB2.out.size | exact HB1.out.size | exact HB.out.size | (simp; done) | (simp <;> omega)) _) | apply pw_below_drewN | apply below_drew1 | (refine Below.setCell ?_ (by first | (simp; done) | (simp <;> omega) | omega) _))) hb2); obtain ⟨hc2, hf2⟩ := bcell hb2; have hz2 := hb2.size; (try simp at hz2); clear hb2
    go_wp2
    exact bodyPost_ret (results_list (rs := [_, _]) Tryd.results14 (by simp) (.tmp (.tmp .nil))) rfl ⟨rfl, HB2.out⟩
  case true =>
    rw [if_pos ⟨rfl, rfl⟩, if_pos ⟨rfl, rfl⟩]
    go_enter Tryd.func14, Tryd.ntmps14
    go_wp2_with (fail)
    refine (version_May.calls a b c A cA l 0 _ (Kd.C_alloc (Kd.C_alloc HA.out _) _) hcA (by first | exact HG.out | exact GW.below HG.out (by repeat (first | exact Below.refl _ _ | exact HB9.out | exact HB8.out | exact HB7.out | exact HB6.out | exact HB5.out | exact HB4.out | exact HB3.out | exact HB2.out | exact HB1.out | exact HB.out | (refine Below.alloc ?_ (by first | exact HB9.out.size | exact HB8.out.size | exact HB7.out.size | exact HB6.out.size | exact HB5.out.size | exact HB4.out.size | exact HB3.out.size | exact HB2.out.size | exact HB1.out.size | exact HB.out.size | (simp; done) | (simp <;> omega)) _) | apply pw_below_drewN | apply below_drew1 | (refine Below.setCell ?_ (by first | (simp; done) | (simp <;> omega) | omega) _)))) (may_f1 h1)).mono ?_
    rintro e w1 ⟨rfl, hb1⟩
    have HA1 := Aside0.mk (Kd.C_below (Kd.C_alloc (Kd.C_alloc HA.out _) _) hb1)
    have HB2' := Aside0.mk (Kd.C_below (Kd.C_alloc (Kd.C_alloc HBB.out _) _) hb1)
    have hy1 : w.heap.size + 1 < w1.heap.size := by have := hb1.size; (try simp at this); omega
    have HB1 := Aside0.mk (below_step (w := w) (by repeat (first | exact Below.refl _ _ | exact HB9.out | exact HB8.out | exact HB7.out | exact HB6.out | exact HB5.out | exact HB4.out | exact HB3.out | exact HB2.out | exact HB1.out | exact HB.out | (refine Below.alloc ?_ (by first | exact HB9.out.size | exact HB8.out.size | exact HB7.out.size | exact HB6.out.size | exact HB5.out.size | exact HB4.out.size | exact HB3.out.size | exact HB2.out.size | exact HB1.out.size | exact HB.out.size | (simp; done) | (simp <;> omega)) _) | apply pw_below_drewN | apply below_drew1 | (refine Below.setCell ?_ (by first | (simp; done) | (simp <;> omega) | omega) _))) hb1); obtain ⟨hc1, hf1⟩ := bcell hb1; have hz1 := hb1.size; (try simp at hz1); clear hb1
    go_wp2_with (fail)
    refine (version_May.calls a' b' c' B cB m 0 _ HB2'.out hcB (by first | exact HG.out | exact GW.below HG.out (by repeat (first | exact Below.refl _ _ | exact HB9.out | exact HB8.out | exact HB7.out | exact HB6.out | exact HB5.out | exact HB4.out | exact HB3.out | exact HB2.out | exact HB1.out | exact HB.out | (refine Below.alloc ?_ (by first | exact HB9.out.size | exact HB8.out.size | exact HB7.out.size | exact HB6.out.size | exact HB5.out.size | exact HB4.out.size | exact HB3.out.size | exact HB2.out.size | exact HB1.out.size | exact HB.out.size | (simp; done) | (simp <;> omega)) _) | apply pw_below_drewN | apply below_drew1 | (refine Below.setCell ?_ (by first | (simp; done) | (simp <;> omega) | omega) _)))) (may_f1 h2)).mono ?_
    rintro e w2 ⟨rfl, hb2⟩
    have HA2 := Aside0.mk (Kd.C_below HA1.out hb2)
    have HB3' := Aside0.mk (Kd.C_below HB2'.out hb2)
    have hx1 : w.heap.size < w1.heap.size := by omega
    have HB2 := Aside0.mk (below_step (w := w) (by repeat (first | exact Below.refl _ _ | exact HB9.out | exact HB8.out | exact HB7.out | exact HB6.out | exact HB5.out | exact HB4.out | exact HB3.out | exact HB2.out | exact HB1.out | exact HB.out | (refine Below.alloc ?_ (by first | exact HB9.out.size | exact HB8.out.size | exact HB7.out.size | exact HB6.out.size | exact HB5.out.size | exact HB4.out.size | exact HB3.out.size | exact HB2.out.size | exact HB1.out.size | exact HB.out.size | (simp; done) | (simp <;> omega)) _) | apply pw_below_drewN | apply below_drew1 | (refine Below.setCell ?_ (by first | (simp; done) | (simp <;> omega) | omega) _))) hb2); obtain ⟨hc2, hf2⟩ := bcell hb2; have hz2 := hb2.size; (try simp at hz2); clear hb2
    go_wp2_with (fail)
    refine (version_compare.calls a b c A cA l a' b' c' B cB m _ _ HA2.out hcA HB3'.out hcB (by first | exact HG.out | exact GW.below HG.out (by repeat (first | exact Below.refl _ _ | exact HB9.out | exact HB8.out | exact HB7.out | exact HB6.out | exact HB5.out | exact HB4.out | exact HB3.out | exact HB2.out | exact HB1.out | exact HB.out | (refine Below.alloc ?_ (by first | exact HB9.out.size | exact HB8.out.size | exact HB7.out.size | exact HB6.out.size | exact HB5.out.size | exact HB4.out.size | exact HB3.out.size | exact HB2.out.size | exact HB1.out.size | exact HB.out.size | (simp; done) | (simp <;> omega)) _) | apply pw_below_drewN | apply below_drew1 | (refine Below.setCell ?_ (by first | (simp; done) | (simp <;> omega) | omega) _)))) (compare_f h1 h2)).mono ?_
    rintro e w3 ⟨rfl, hb3⟩
    have HB3 := Aside0.mk (below_step (w := w) (by repeat (first | exact Below.refl _ _ | exact HB9.out | exact HB8.out | exact HB7.out | exact HB6.out | exact HB5.out | exact HB4.out | exact HB3.out | exact HB2.out | exact HB1.out | exact HB.out | (refine Below.alloc ?_ (by first | exact HB9.out.size | exact HB8.out.size | exact HB7.out.size | exact HB6.out.size | exact HB5.out.size | exact HB4.out.size | exact HB3.out.size | exact HB2.out.size | exact HB1.out.size | exact HB.out.size | (simp; done) | (simp <;> omega)) _) | apply pw_below_drewN | apply below_drew1 | (refine Below.setCell ?_ (by first | (simp; done) | (simp <;> omega) | omega) _))) hb3); obtain ⟨hc3, hf3⟩ := bcell hb3; have hz3 := hb3.size; (try simp at hz3); clear hb3
    go_wp2
    exact bodyPost_ret (results_list (rs := [_, _]) Tryd.results14 (by simp) (.tmp (.tmp .nil))) rfl ⟨rfl, HB3.out⟩
set_option maxHeartbeats 8000000 in
set_option maxRecDepth 100000 in
theorem verOrders_calls (a b c : Int) (A : Option Addr) (cA : Nat) (l : List ByteArray) (a' b' c' : Int) (B : Option Addr) (cB : Nat) (m : List ByteArray) (s t : ByteArray) (w : World) (hA : Kd.C Kd.string w A l.length l) (hcA : l.length ≤ cA) (hla : l.length * 16 ≤ 140737488355328) (hB : Kd.C Kd.string w B m.length m) (hcB : m.length ≤ cB) (hlb : m.length * 16 ≤ 140737488355328) (hG : GW w) :
    Calls Tryd.prog 5 #[.agg #[.int .u32 a, .int .u32 b, .int .u32 c, .slice A l.length cA], .agg #[.int .u32 a', .int .u32 b', .int .u32 c', .slice B m.length cB], .string s, .string t] w fun e w' => e = .returned (.bool true) ∧ Below w.heap.size w w' := by
  have HG := Aside0.mk hG
  have HA := Aside0.mk hA
  have HBB := Aside0.mk hB
  clear hG hA hB
  go_enter Tryd.func5, Tryd.ntmps5
  go_upto_region 1 with fail
  go_cut [9, 10] (fun v9 v10 wx => v9 = .int .i64 (cmpR a b c l a' b' c' m) ∧ v10 = .int .i64 (cmpE a b c l a' b' c' m) ∧ Aside0 (Below w.heap.size w wx) ∧ w.heap.size + 1 < wx.heap.size ∧ (∀ q o, q < w.heap.size + 2 → wx.cell? ⟨q, o, none⟩ = ((w.alloc (.cells #[.int .u32 a, .int .u32 b, .int .u32 c, .slice A l.length cA] 32)).alloc (.cells #[.int .u32 a', .int .u32 b', .int .u32 c', .slice B m.length cB] 32)).cell? ⟨q, o, none⟩))
  case first =>
    go_region_with (first | (go_at_call 15; refine (twin_calls _ _ _ _ _ _ _ (by first | exact Kd.C_below HA.out (by repeat (first | exact Below.refl _ _ | exact HB9.out | exact HB8.out | exact HB7.out | exact HB6.out | exact HB5.out | exact HB4.out | exact HB3.out | exact HB2.out | exact HB1.out | exact HB.out | (refine Below.alloc ?_ (by first | exact HB9.out.size | exact HB8.out.size | exact HB7.out.size | exact HB6.out.size | exact HB5.out.size | exact HB4.out.size | exact HB3.out.size | exact HB2.out.size | exact HB1.out.size | exact HB.out.size | (simp; done) | (simp <;> omega)) _) | apply pw_below_drewN | apply below_drew1 | (refine Below.setCell ?_ (by first | (simp; done) | (simp <;> omega) | omega) _))) | exact Kd.C_below HBB.out (by repeat (first | exact Below.refl _ _ | exact HB9.out | exact HB8.out | exact HB7.out | exact HB6.out | exact HB5.out | exact HB4.out | exact HB3.out | exact HB2.out | exact HB1.out | exact HB.out | (refine Below.alloc ?_ (by first | exact HB9.out.size | exact HB8.out.size | exact HB7.out.size | exact HB6.out.size | exact HB5.out.size | exact HB4.out.size | exact HB3.out.size | exact HB2.out.size | exact HB1.out.size | exact HB.out.size | (simp; done) | (simp <;> omega)) _) | apply pw_below_drewN | apply below_drew1 | (refine Below.setCell ?_ (by first | (simp; done) | (simp <;> omega) | omega) _)))) (by first | exact hla | exact hlb)).mono ?_; rintro e w1 ⟨v1, rfl, hR1, hb1⟩; obtain ⟨A1, k1, rfl, hk1, hC1⟩ := Kd.R_reads hR1; first | (have HB2 := Aside0.mk (below_step (w := w) HB1.out hb1); have HC2 := Aside0.mk hC1; have HM := Aside0.mk (Kd.C_below HC1.out hb1); have hq2 : ∀ q o, q < w.heap.size + 2 → w1.cell? ⟨q, o, none⟩ = ((w.alloc (.cells #[.int .u32 a, .int .u32 b, .int .u32 c, .slice A l.length cA] 32)).alloc (.cells #[.int .u32 a', .int .u32 b', .int .u32 c', .slice B m.length cB] 32)).cell? ⟨q, o, none⟩ := (fun q o h => (hb1.cell (p := ⟨q, o, none⟩) (by show q < _; omega)).trans (hq1 q o h)); have hz2 : w.heap.size + 2 ≤ w1.heap.size := (by have := hb1.size; omega)) | (have HB1 := Aside0.mk (below_step (w := w) (by repeat (first | exact Below.refl _ _ | exact HB9.out | exact HB8.out | exact HB7.out | exact HB6.out | exact HB5.out | exact HB4.out | exact HB3.out | exact HB2.out | exact HB1.out | exact HB.out | (refine Below.alloc ?_ (by first | exact HB9.out.size | exact HB8.out.size | exact HB7.out.size | exact HB6.out.size | exact HB5.out.size | exact HB4.out.size | exact HB3.out.size | exact HB2.out.size | exact HB1.out.size | exact HB.out.size | (simp; done) | (simp <;> omega)) _) | apply pw_below_drewN | apply below_drew1 | (refine Below.setCell ?_ (by first | (simp; done) | (simp <;> omega) | omega) _))) hb1); have HC1 := Aside0.mk hC1; have hz1 : w.heap.size + 2 ≤ w1.heap.size := (by have := hb1.size; simp at this; omega); have hq1 : ∀ q o, q < w.heap.size + 2 → w1.cell? ⟨q, o, none⟩ = ((w.alloc (.cells #[.int .u32 a, .int .u32 b, .int .u32 c, .slice A l.length cA] 32)).alloc (.cells #[.int .u32 a', .int .u32 b', .int .u32 c', .slice B m.length cB] 32)).cell? ⟨q, o, none⟩ := (fun q o h => (hb1.cell (p := ⟨q, o, none⟩) (by simp; omega)).trans rfl)); clear hR1 hb1 hC1) | (go_at_call 14; refine (vCmp_calls _ _ _ _ _ _ _ _ _ _ _ _ _ (by first | exact HC2.out | exact HM.out) (by assumption) (by first | exact HC2.out | exact HM.out) (by assumption) (by exact GW.below HG.out HB2.out)).mono ?_; rintro e w3 ⟨rfl, hb3⟩; have HB3 := Aside0.mk (below_step (w := w) HB2.out hb3); have hq3 : ∀ q o, q < w.heap.size + 2 → w3.cell? ⟨q, o, none⟩ = ((w.alloc (.cells #[.int .u32 a, .int .u32 b, .int .u32 c, .slice A l.length cA] 32)).alloc (.cells #[.int .u32 a', .int .u32 b', .int .u32 c', .slice B m.length cB] 32)).cell? ⟨q, o, none⟩ := (fun q o h => (hb3.cell (p := ⟨q, o, none⟩) (by show q < _; omega)).trans (hq2 q o h)); have hz3 : w.heap.size + 1 < w3.heap.size := (by have := hb3.size; omega); clear hb3))
    all_goals (go_wp2_with fail; go_meet; exact ⟨rfl, rfl, HB3, hz3, hq3⟩)
  case rest =>
    obtain ⟨rfl, rfl, HB1, hz1, hq1⟩ := hcut
    have u0 : wc.cell? ⟨w.heap.size, 0, none⟩ = some (.int .u32 a) := (hq1 _ _ (by omega)).trans (by go_simp)
    have u1 : wc.cell? ⟨w.heap.size, 1, none⟩ = some (.int .u32 b) := (hq1 _ _ (by omega)).trans (by go_simp)
    have u2 : wc.cell? ⟨w.heap.size, 2, none⟩ = some (.int .u32 c) := (hq1 _ _ (by omega)).trans (by go_simp)
    have u3 : wc.cell? ⟨w.heap.size, 3, none⟩ = some (.slice A l.length cA) := (hq1 _ _ (by omega)).trans (by go_simp)
    have v0 : wc.cell? ⟨w.heap.size + 1, 0, none⟩ = some (.int .u32 a') := (hq1 _ _ (by omega)).trans (by go_simp)
    have v1 : wc.cell? ⟨w.heap.size + 1, 1, none⟩ = some (.int .u32 b') := (hq1 _ _ (by omega)).trans (by go_simp)
    have v2 : wc.cell? ⟨w.heap.size + 1, 2, none⟩ = some (.int .u32 c') := (hq1 _ _ (by omega)).trans (by go_simp)
    have v3 : wc.cell? ⟨w.heap.size + 1, 3, none⟩ = some (.slice B m.length cB) := (hq1 _ _ (by omega)).trans (by go_simp)
    clear hq1
    have hl1 : l.length ≤ 9223372036854775807 := by omega
    have hl2 : m.length ≤ 9223372036854775807 := by omega
    have hx1 : w.heap.size < wc.heap.size := by omega
    obtain ⟨r1, r2, hO⟩ : ∃ r1 r2, version_Order.f s t = some (r1, r2) := ⟨_, _, rfl⟩
    have HO := Aside0.mk hO
    clear hO
    unfold cmpR cmpE
    cases h1 : mayV a b c l
    case false =>
      rw [if_neg (by simp), if_neg (by simp)]
      go_wp2_with (fail)
      refine (rmay_calls a b c A cA l _ (Kd.C_below HA.out HB1.out) hcA hl1).mono ?_
      rintro e w1 ⟨rfl, hb1⟩
      have HB2 := Aside0.mk (below_step (w := w) HB1.out hb1)
      clear hb1
      go_wp2_with (fail)
      refine (version_Order.calls s t r1 r2 _ (by exact GW.below HG.out HB2.out) HO.out).mono ?_
      rintro e w5 ⟨rfl, hb5⟩
      have HB5 := Aside0.mk (below_step (w := w) HB2.out hb5)
      clear hb5
      go_wp2_with (fail)
      refine (rOrder_calls s t r1 r2 _ HO.out).mono ?_
      rintro e w6 ⟨rfl, hb6⟩
      have HB6 := Aside0.mk (below_step (w := w) HB5.out hb6)
      clear hb6
      go_wp2_with (fail)
      refine (yanklinelaw07_alive.calls true _ (by exact GW.below HG.out HB6.out) rfl).mono ?_
      rintro e w7 ⟨rfl, hb7⟩
      have HB7 := Aside0.mk (below_step (w := w) HB6.out hb7)
      clear hb7
      go_wp2
      go_ret
      exact ⟨rfl, HB7.out⟩
    case true =>
    cases h2 : mayV a' b' c' m
    case false =>
      rw [if_neg (by simp), if_neg (by simp)]
      go_wp2_with (fail)
      refine (rmay_calls a b c A cA l _ (Kd.C_below HA.out HB1.out) hcA hl1).mono ?_
      rintro e w1 ⟨rfl, hb1⟩
      have HB2 := Aside0.mk (below_step (w := w) HB1.out hb1)
      obtain ⟨hc1, hf1⟩ := bcell hb1
      have hy1 : w.heap.size < w1.heap.size := by have := hb1.size; omega
      have hy2 : w.heap.size + 1 < w1.heap.size := by have := hb1.size; omega
      clear hb1
      go_wp2_with (fail)
      refine (rmay_calls a' b' c' B cB m _ (Kd.C_below HBB.out HB2.out) hcB hl2).mono ?_
      rintro e w2 ⟨rfl, hb2⟩
      have HB3 := Aside0.mk (below_step (w := w) HB2.out hb2)
      clear hb2
      go_wp2_with (fail)
      refine (version_Order.calls s t r1 r2 _ (by exact GW.below HG.out HB3.out) HO.out).mono ?_
      rintro e w5 ⟨rfl, hb5⟩
      have HB5 := Aside0.mk (below_step (w := w) HB3.out hb5)
      clear hb5
      go_wp2_with (fail)
      refine (rOrder_calls s t r1 r2 _ HO.out).mono ?_
      rintro e w6 ⟨rfl, hb6⟩
      have HB6 := Aside0.mk (below_step (w := w) HB5.out hb6)
      clear hb6
      go_wp2_with (fail)
      refine (yanklinelaw07_alive.calls true _ (by exact GW.below HG.out HB6.out) rfl).mono ?_
      rintro e w7 ⟨rfl, hb7⟩
      have HB7 := Aside0.mk (below_step (w := w) HB6.out hb7)
      clear hb7
      go_wp2
      go_ret
      exact ⟨rfl, HB7.out⟩
    case true =>
      rw [if_pos ⟨rfl, rfl⟩, if_pos ⟨rfl, rfl⟩]
      have hp1 := may_parts h1
      have hp2 := may_parts h2
      go_wp2_with (fail)
      refine (rmay_calls a b c A cA l _ (Kd.C_below HA.out HB1.out) hcA hl1).mono ?_
      rintro e w1 ⟨rfl, hb1⟩
      have HB2 := Aside0.mk (below_step (w := w) HB1.out hb1)
      obtain ⟨hc1, hf1⟩ := bcell hb1
      have hy1 : w.heap.size < w1.heap.size := by have := hb1.size; omega
      have hy2 : w.heap.size + 1 < w1.heap.size := by have := hb1.size; omega
      clear hb1
      go_wp2_with (fail)
      refine (rmay_calls a' b' c' B cB m _ (Kd.C_below HBB.out HB2.out) hcB hl2).mono ?_
      rintro e w2 ⟨rfl, hb2⟩
      have HB3 := Aside0.mk (below_step (w := w) HB2.out hb2)
      obtain ⟨hc2, hf2⟩ := bcell hb2
      have hy3 : w.heap.size < w2.heap.size := by have := hb2.size; omega
      have hy4 : w.heap.size + 1 < w2.heap.size := by have := hb2.size; omega
      clear hb2
      go_wp2_with (fail)
      refine (rCmp_calls a b c A cA l a' b' c' B cB m _ (Kd.C_below HA.out HB3.out) (Kd.C_below HBB.out HB3.out) (by omega) (by omega) (fun x hx => by have := hp1.2 x hx; omega) (fun x hx => by have := hp2.2 x hx; omega)).mono ?_
      rintro e w3 ⟨rfl, hb3⟩
      have HB4 := Aside0.mk (below_step (w := w) HB3.out hb3)
      clear hb3
      go_wp2_with (fail)
      refine (version_Order.calls s t r1 r2 _ (by exact GW.below HG.out HB4.out) HO.out).mono ?_
      rintro e w5 ⟨rfl, hb5⟩
      have HB5 := Aside0.mk (below_step (w := w) HB4.out hb5)
      clear hb5
      go_wp2_with (fail)
      refine (rOrder_calls s t r1 r2 _ HO.out).mono ?_
      rintro e w6 ⟨rfl, hb6⟩
      have HB6 := Aside0.mk (below_step (w := w) HB5.out hb6)
      clear hb6
      go_wp2_with (fail)
      refine (yanklinelaw07_alive.calls true _ (by exact GW.below HG.out HB6.out) rfl).mono ?_
      rintro e w7 ⟨rfl, hb7⟩
      have HB7 := Aside0.mk (below_step (w := w) HB6.out hb7)
      clear hb7
      go_wp2
      go_ret
      exact ⟨rfl, HB7.out⟩

end Go.Proofs.YtoiibjipjlkaeaaDoor.PV

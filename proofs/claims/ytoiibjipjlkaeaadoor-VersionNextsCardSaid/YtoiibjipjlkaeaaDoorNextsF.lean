/- The law VersionNexts, walked: one of three cases. -/
import Derived.Test.YtoiibjipjlkaeaaDoorNextsB
namespace Go.Proofs.YtoiibjipjlkaeaaDoor.PV
open Go.RowKit Go.Proofs.YtoiibjipjlkaeaaDoorW.PrintWords Go.Proofs.YtoiibjipjlkaeaaDoorW.PrintLast Go.Proofs.YtoiibjipjlkaeaaDoorW.PrintMore
attribute [local go_sem] max2_int min2_int max_two min_two max_three min_three max_four min_four   -- for this text's walks alone
set_option linter.unusedVariables false
set_option linter.unusedSimpArgs false

set_option maxHeartbeats 8000000 in
set_option maxRecDepth 100000 in
theorem nexts_f (a b c : Int) (A : Option Addr) (cA : Nat) (l : List ByteArray) (part : Int) (w : World) (ha : 0 ≤ a) (hb : 0 ≤ b) (hc : 0 ≤ c) (hA : Kd.C Kd.string w A l.length l) (hcA : l.length ≤ cA) (hl16 : l.length * 16 ≤ 140737488355328) (hG : GW w) (hm : mayV a b c l = false) :
    Calls Tryd.prog 6 #[.agg #[.int .u32 a, .int .u32 b, .int .u32 c, .slice A l.length cA], .int .i64 part] w fun e w' => e = .returned (.bool true) ∧ Below w.heap.size w w' := by
  have HA := Aside0.mk hA
  have HG := Aside0.mk hG
  have hll : l.length ≤ 9223372036854775807 := by omega
  have hll2 : l.length < 9223372036854775000 := by omega
  obtain ⟨r1, r2, r3, r4, r5, hN⟩ := next_some l part ha hb hc
  obtain rfl := next_nil hN
  have HN := Aside0.mk hN
  clear hA hG hN ha hb hc
  go_enter Tryd.func6, Tryd.ntmps6
  go_wp2_with (fail)
  refine (twin_calls a b c A cA l _ (Kd.C_alloc HA.out _) hl16).mono ?_
  rintro e w1 ⟨v1, rfl, hR1, hb1⟩
  obtain ⟨A1, k1, rfl, hk1, hC1⟩ := Kd.R_reads hR1
  have HC1 := Aside0.mk hC1
  clear hR1 hC1
  have hs1 : w.heap.size < w1.heap.size := by have := hb1.size; (try simp at this); omega
  have HB1 := Aside0.mk (below_step (w := w) (by repeat (first | exact Below.refl _ _ | exact HB9.out | exact HB8.out | exact HB7.out | exact HB6.out | exact HB5.out | exact HB4.out | exact HB3.out | exact HB2.out | exact HB1.out | exact HB.out | (refine Below.alloc ?_ (by first | exact HB9.out.size | exact HB8.out.size | exact HB7.out.size | exact HB6.out.size | exact HB5.out.size | exact HB4.out.size | exact HB3.out.size | exact HB2.out.size | exact HB1.out.size | exact HB.out.size | (simp; done) | (simp <;> omega)) _) | apply pw_below_drewN | apply below_drew1 | (refine Below.setCell ?_ (by first | (simp; done) | (simp <;> omega) | omega) _))) hb1); obtain ⟨hc1, hf1⟩ := bcell hb1; have hz1 := hb1.size; (try simp at hz1); clear hb1
  have p0_1 : w1.cell? ⟨w.heap.size, 0, none⟩ = some (.int .u32 a) := (hc1 _ _ (by simp)).trans (by go_simp)
  have p1_1 : w1.cell? ⟨w.heap.size, 1, none⟩ = some (.int .u32 b) := (hc1 _ _ (by simp)).trans (by go_simp)
  have p2_1 : w1.cell? ⟨w.heap.size, 2, none⟩ = some (.int .u32 c) := (hc1 _ _ (by simp)).trans (by go_simp)
  have p3_1 : w1.cell? ⟨w.heap.size, 3, none⟩ = some (.slice A l.length cA) := (hc1 _ _ (by simp)).trans (by go_simp)
  clear hc1 hf1
  go_wp2_with (fail)
  refine (version_Next.calls a b c A1 k1 l part r1 r2 r3 [] r5 _ (Kd.C_alloc HC1.out _) hk1 (by first | exact HG.out | exact GW.below HG.out (by repeat (first | exact Below.refl _ _ | exact HB9.out | exact HB8.out | exact HB7.out | exact HB6.out | exact HB5.out | exact HB4.out | exact HB3.out | exact HB2.out | exact HB1.out | exact HB.out | (refine Below.alloc ?_ (by first | exact HB9.out.size | exact HB8.out.size | exact HB7.out.size | exact HB6.out.size | exact HB5.out.size | exact HB4.out.size | exact HB3.out.size | exact HB2.out.size | exact HB1.out.size | exact HB.out.size | (simp; done) | (simp <;> omega)) _) | apply pw_below_drewN | apply below_drew1 | (refine Below.setCell ?_ (by first | (simp; done) | (simp <;> omega) | omega) _)))) HN.out).mono ?_
  rintro e w2 ⟨v3, rfl, hR2, hb2⟩
  obtain ⟨A2, k2, rfl, hk2, hC2⟩ := Kd.R_reads hR2
  have HC2 := Aside0.mk hC2
  have HC1b := Aside0.mk (Kd.C_below (Kd.C_alloc HC1.out _) hb2)
  clear hR2 hC2
  have hs2 : w1.heap.size < w2.heap.size := by have := hb2.size; (try simp at this); omega
  have ht2 : w.heap.size < w2.heap.size := by omega
  have HB2 := Aside0.mk (below_step (w := w) (by repeat (first | exact Below.refl _ _ | exact HB9.out | exact HB8.out | exact HB7.out | exact HB6.out | exact HB5.out | exact HB4.out | exact HB3.out | exact HB2.out | exact HB1.out | exact HB.out | (refine Below.alloc ?_ (by first | exact HB9.out.size | exact HB8.out.size | exact HB7.out.size | exact HB6.out.size | exact HB5.out.size | exact HB4.out.size | exact HB3.out.size | exact HB2.out.size | exact HB1.out.size | exact HB.out.size | (simp; done) | (simp <;> omega)) _) | apply pw_below_drewN | apply below_drew1 | (refine Below.setCell ?_ (by first | (simp; done) | (simp <;> omega) | omega) _))) hb2); obtain ⟨hc2, hf2⟩ := bcell hb2; have hz2 := hb2.size; (try simp at hz2); clear hb2
  have p0_2 : w2.cell? ⟨w.heap.size, 0, none⟩ = some (.int .u32 a) := (hc2 _ _ (by simp <;> omega)).trans (by go_simp)
  have p1_2 : w2.cell? ⟨w.heap.size, 1, none⟩ = some (.int .u32 b) := (hc2 _ _ (by simp <;> omega)).trans (by go_simp)
  have p2_2 : w2.cell? ⟨w.heap.size, 2, none⟩ = some (.int .u32 c) := (hc2 _ _ (by simp <;> omega)).trans (by go_simp)
  have p3_2 : w2.cell? ⟨w.heap.size, 3, none⟩ = some (.slice A l.length cA) := (hc2 _ _ (by simp <;> omega)).trans (by go_simp)
  have x0_2 : w2.cell? ⟨w1.heap.size, 0, none⟩ = some (.int .u32 a) := (hc2 _ _ (by simp <;> omega)).trans (by go_simp)
  have x1_2 : w2.cell? ⟨w1.heap.size, 1, none⟩ = some (.int .u32 b) := (hc2 _ _ (by simp <;> omega)).trans (by go_simp)
  have x2_2 : w2.cell? ⟨w1.heap.size, 2, none⟩ = some (.int .u32 c) := (hc2 _ _ (by simp <;> omega)).trans (by go_simp)
  have x3_2 : w2.cell? ⟨w1.heap.size, 3, none⟩ = some (.slice A1 l.length k1) := (hc2 _ _ (by simp <;> omega)).trans (by go_simp)
  clear hc2 hf2
  go_wp2_with (fail)
  refine (rnext_calls a b c A cA l part r1 r2 r3 [] r5 _ (Kd.C_below HA.out (by repeat (first | exact Below.refl _ _ | exact HB9.out | exact HB8.out | exact HB7.out | exact HB6.out | exact HB5.out | exact HB4.out | exact HB3.out | exact HB2.out | exact HB1.out | exact HB.out | (refine Below.alloc ?_ (by first | exact HB9.out.size | exact HB8.out.size | exact HB7.out.size | exact HB6.out.size | exact HB5.out.size | exact HB4.out.size | exact HB3.out.size | exact HB2.out.size | exact HB1.out.size | exact HB.out.size | (simp; done) | (simp <;> omega)) _) | apply pw_below_drewN | apply below_drew1 | (refine Below.setCell ?_ (by first | (simp; done) | (simp <;> omega) | omega) _)))) hcA hll HN.out).mono ?_
  rintro e w3 ⟨rfl, hb3⟩
  have HC2c := Aside0.mk (Kd.C_below (Kd.C_alloc HC2.out _) hb3)
  have HC1c := Aside0.mk (Kd.C_below (Kd.C_alloc HC1b.out _) hb3)
  have hs3 : w2.heap.size < w3.heap.size := by have := hb3.size; (try simp at this); omega
  have ht3 : w.heap.size < w3.heap.size := by omega
  have ht31 : w1.heap.size < w3.heap.size := by omega
  have HB3 := Aside0.mk (below_step (w := w) (by repeat (first | exact Below.refl _ _ | exact HB9.out | exact HB8.out | exact HB7.out | exact HB6.out | exact HB5.out | exact HB4.out | exact HB3.out | exact HB2.out | exact HB1.out | exact HB.out | (refine Below.alloc ?_ (by first | exact HB9.out.size | exact HB8.out.size | exact HB7.out.size | exact HB6.out.size | exact HB5.out.size | exact HB4.out.size | exact HB3.out.size | exact HB2.out.size | exact HB1.out.size | exact HB.out.size | (simp; done) | (simp <;> omega)) _) | apply pw_below_drewN | apply below_drew1 | (refine Below.setCell ?_ (by first | (simp; done) | (simp <;> omega) | omega) _))) hb3); obtain ⟨hc3, hf3⟩ := bcell hb3; have hz3 := hb3.size; (try simp at hz3); clear hb3
  have p0_3 : w3.cell? ⟨w.heap.size, 0, none⟩ = some (.int .u32 a) := (hc3 _ _ (by simp <;> omega)).trans (by go_simp)
  have p1_3 : w3.cell? ⟨w.heap.size, 1, none⟩ = some (.int .u32 b) := (hc3 _ _ (by simp <;> omega)).trans (by go_simp)
  have p2_3 : w3.cell? ⟨w.heap.size, 2, none⟩ = some (.int .u32 c) := (hc3 _ _ (by simp <;> omega)).trans (by go_simp)
  have p3_3 : w3.cell? ⟨w.heap.size, 3, none⟩ = some (.slice A l.length cA) := (hc3 _ _ (by simp <;> omega)).trans (by go_simp)
  have x0_3 : w3.cell? ⟨w1.heap.size, 0, none⟩ = some (.int .u32 a) := (hc3 _ _ (by simp <;> omega)).trans (by go_simp)
  have x1_3 : w3.cell? ⟨w1.heap.size, 1, none⟩ = some (.int .u32 b) := (hc3 _ _ (by simp <;> omega)).trans (by go_simp)
  have x2_3 : w3.cell? ⟨w1.heap.size, 2, none⟩ = some (.int .u32 c) := (hc3 _ _ (by simp <;> omega)).trans (by go_simp)
  have x3_3 : w3.cell? ⟨w1.heap.size, 3, none⟩ = some (.slice A1 l.length k1) := (hc3 _ _ (by simp <;> omega)).trans (by go_simp)
  have n0_3 : w3.cell? ⟨w2.heap.size, 0, none⟩ = some (.int .u32 r1) := (hc3 _ _ (by simp <;> omega)).trans (by go_simp)
  have n1_3 : w3.cell? ⟨w2.heap.size, 1, none⟩ = some (.int .u32 r2) := (hc3 _ _ (by simp <;> omega)).trans (by go_simp)
  have n2_3 : w3.cell? ⟨w2.heap.size, 2, none⟩ = some (.int .u32 r3) := (hc3 _ _ (by simp <;> omega)).trans (by go_simp)
  have n3_3 : w3.cell? ⟨w2.heap.size, 3, none⟩ = some (.slice A2 0 k2) := (hc3 _ _ (by simp <;> omega)).trans (by go_simp)
  clear hc3 hf3
  go_upto_region 4 with fail
  go_cut [49] (fun v49 wx => v49 = .bool false ∧ Aside0 (Below w.heap.size w wx) ∧ w3.heap.size + 1 ≤ wx.heap.size ∧ Aside0 (Below w3.heap.size w3 wx) ∧ (∀ q o, q < w3.heap.size + 1 → wx.cell? ⟨q, o, none⟩ = (w3.alloc (.cells #[.int .u32 r1, .int .u32 r2, .int .u32 r3, .slice none 0 0] 32)).cell? ⟨q, o, none⟩))
  case first =>
    have HW := Aside0.mk (show Below w.heap.size w (w3.alloc (.cells #[.int .u32 r1, .int .u32 r2, .int .u32 r3, .slice none 0 0] 32)) by repeat (first | exact Below.refl _ _ | exact HB9.out | exact HB8.out | exact HB7.out | exact HB6.out | exact HB5.out | exact HB4.out | exact HB3.out | exact HB2.out | exact HB1.out | exact HB.out | (refine Below.alloc ?_ (by first | exact HB9.out.size | exact HB8.out.size | exact HB7.out.size | exact HB6.out.size | exact HB5.out.size | exact HB4.out.size | exact HB3.out.size | exact HB2.out.size | exact HB1.out.size | exact HB.out.size | (simp; done) | (simp <;> omega)) _) | apply pw_below_drewN | apply below_drew1 | (refine Below.setCell ?_ (by first | (simp; done) | (simp <;> omega) | omega) _)))
    ·
      first | (go_region_with (first | (go_at_call 21; refine (rsame_calls r1 r2 r3 A2 k2 [] r1 r2 r3 none 0 [] _ (by first | exact Kd.C_below (w := w3) HC2c.out (by repeat (first | exact Below.refl _ _ | exact HD7.out | exact HD6.out | exact HD5.out | apply below_drew1 | (refine Below.alloc ?_ (Nat.le_refl _) _)))) (C_none _) (by decide)).mono ?_; rintro e w5 ⟨rfl, hb5⟩; rw [sameV_self]; have HB5 := Aside0.mk (below_step (w := w) (by first | exact HW.out | (repeat (first | exact Below.refl _ _ | exact HB9.out | exact HB8.out | exact HB7.out | exact HB6.out | exact HB5.out | exact HB4.out | exact HB3.out | exact HB2.out | exact HB1.out | exact HB.out | (refine Below.alloc ?_ (by first | exact HB9.out.size | exact HB8.out.size | exact HB7.out.size | exact HB6.out.size | exact HB5.out.size | exact HB4.out.size | exact HB3.out.size | exact HB2.out.size | exact HB1.out.size | exact HB.out.size | (simp; done) | (simp <;> omega)) _) | apply pw_below_drewN | apply below_drew1 | (refine Below.setCell ?_ (by first | (simp; done) | (simp <;> omega) | omega) _)))) hb5); have HD5 := Aside0.mk (below_step (w := w3) (by repeat (first | exact Below.refl _ _ | exact HD7.out | exact HD6.out | exact HD5.out | apply below_drew1 | (refine Below.alloc ?_ (Nat.le_refl _) _))) hb5); have hz5 : w3.heap.size + 1 ≤ w5.heap.size := (by have := hb5.size; first | omega | (simp at this; omega)); have hq5 : ∀ q o, q < w3.heap.size + 1 → w5.cell? ⟨q, o, none⟩ = (w3.alloc (.cells #[.int .u32 r1, .int .u32 r2, .int .u32 r3, .slice none 0 0] 32)).cell? ⟨q, o, none⟩ := (fun q o h => (hb5.cell (p := ⟨q, o, none⟩) (by show q < _; first | omega | (simp; omega))).trans (by first | exact hq5 q o h | exact hq6 q o h | exact hq7 q o h | rfl)); have p0_5 : w5.cell? ⟨w.heap.size, 0, none⟩ = some (.int .u32 a) := (hq5 _ _ (by omega)).trans (by go_simp); have p1_5 : w5.cell? ⟨w.heap.size, 1, none⟩ = some (.int .u32 b) := (hq5 _ _ (by omega)).trans (by go_simp); have p2_5 : w5.cell? ⟨w.heap.size, 2, none⟩ = some (.int .u32 c) := (hq5 _ _ (by omega)).trans (by go_simp); have p3_5 : w5.cell? ⟨w.heap.size, 3, none⟩ = some (.slice A l.length cA) := (hq5 _ _ (by omega)).trans (by go_simp); have x0_5 : w5.cell? ⟨w1.heap.size, 0, none⟩ = some (.int .u32 a) := (hq5 _ _ (by omega)).trans (by go_simp); have x1_5 : w5.cell? ⟨w1.heap.size, 1, none⟩ = some (.int .u32 b) := (hq5 _ _ (by omega)).trans (by go_simp); have x2_5 : w5.cell? ⟨w1.heap.size, 2, none⟩ = some (.int .u32 c) := (hq5 _ _ (by omega)).trans (by go_simp); have x3_5 : w5.cell? ⟨w1.heap.size, 3, none⟩ = some (.slice A1 l.length k1) := (hq5 _ _ (by omega)).trans (by go_simp); clear hb5) | (go_at_call 22; refine (release_calls a b c A1 k1 l _ (by first | exact Kd.C_below (w := w3) HC1c.out (by repeat (first | exact Below.refl _ _ | exact HD7.out | exact HD6.out | exact HD5.out | apply below_drew1 | (refine Below.alloc ?_ (Nat.le_refl _) _)))) hk1 (by exact GW.below HG.out (by first | exact HW.out | (repeat (first | exact Below.refl _ _ | exact HB9.out | exact HB8.out | exact HB7.out | exact HB6.out | exact HB5.out | exact HB4.out | exact HB3.out | exact HB2.out | exact HB1.out | exact HB.out | (refine Below.alloc ?_ (by first | exact HB9.out.size | exact HB8.out.size | exact HB7.out.size | exact HB6.out.size | exact HB5.out.size | exact HB4.out.size | exact HB3.out.size | exact HB2.out.size | exact HB1.out.size | exact HB.out.size | (simp; done) | (simp <;> omega)) _) | apply pw_below_drewN | apply below_drew1 | (refine Below.setCell ?_ (by first | (simp; done) | (simp <;> omega) | omega) _)))))).mono ?_; rintro e w6 ⟨rfl, hb6⟩; have HB6 := Aside0.mk (below_step (w := w) (by first | exact HW.out | (repeat (first | exact Below.refl _ _ | exact HB9.out | exact HB8.out | exact HB7.out | exact HB6.out | exact HB5.out | exact HB4.out | exact HB3.out | exact HB2.out | exact HB1.out | exact HB.out | (refine Below.alloc ?_ (by first | exact HB9.out.size | exact HB8.out.size | exact HB7.out.size | exact HB6.out.size | exact HB5.out.size | exact HB4.out.size | exact HB3.out.size | exact HB2.out.size | exact HB1.out.size | exact HB.out.size | (simp; done) | (simp <;> omega)) _) | apply pw_below_drewN | apply below_drew1 | (refine Below.setCell ?_ (by first | (simp; done) | (simp <;> omega) | omega) _)))) hb6); have HD6 := Aside0.mk (below_step (w := w3) (by repeat (first | exact Below.refl _ _ | exact HD7.out | exact HD6.out | exact HD5.out | apply below_drew1 | (refine Below.alloc ?_ (Nat.le_refl _) _))) hb6); have hz6 : w3.heap.size + 1 ≤ w6.heap.size := (by have := hb6.size; first | omega | (simp at this; omega)); have hq6 : ∀ q o, q < w3.heap.size + 1 → w6.cell? ⟨q, o, none⟩ = (w3.alloc (.cells #[.int .u32 r1, .int .u32 r2, .int .u32 r3, .slice none 0 0] 32)).cell? ⟨q, o, none⟩ := (fun q o h => (hb6.cell (p := ⟨q, o, none⟩) (by show q < _; first | omega | (simp; omega))).trans (by first | exact hq5 q o h | exact hq6 q o h | exact hq7 q o h | rfl)); have p0_6 : w6.cell? ⟨w.heap.size, 0, none⟩ = some (.int .u32 a) := (hq6 _ _ (by omega)).trans (by go_simp); have p1_6 : w6.cell? ⟨w.heap.size, 1, none⟩ = some (.int .u32 b) := (hq6 _ _ (by omega)).trans (by go_simp); have p2_6 : w6.cell? ⟨w.heap.size, 2, none⟩ = some (.int .u32 c) := (hq6 _ _ (by omega)).trans (by go_simp); have p3_6 : w6.cell? ⟨w.heap.size, 3, none⟩ = some (.slice A l.length cA) := (hq6 _ _ (by omega)).trans (by go_simp); have x0_6 : w6.cell? ⟨w1.heap.size, 0, none⟩ = some (.int .u32 a) := (hq6 _ _ (by omega)).trans (by go_simp); have x1_6 : w6.cell? ⟨w1.heap.size, 1, none⟩ = some (.int .u32 b) := (hq6 _ _ (by omega)).trans (by go_simp); have x2_6 : w6.cell? ⟨w1.heap.size, 2, none⟩ = some (.int .u32 c) := (hq6 _ _ (by omega)).trans (by go_simp); have x3_6 : w6.cell? ⟨w1.heap.size, 3, none⟩ = some (.slice A1 l.length k1) := (hq6 _ _ (by omega)).trans (by go_simp); clear hb6) | (go_at_call 16; refine (rmay_calls a b c A cA l _ (Kd.C_below HA.out (by first | exact HW.out | (repeat (first | exact Below.refl _ _ | exact HB9.out | exact HB8.out | exact HB7.out | exact HB6.out | exact HB5.out | exact HB4.out | exact HB3.out | exact HB2.out | exact HB1.out | exact HB.out | (refine Below.alloc ?_ (by first | exact HB9.out.size | exact HB8.out.size | exact HB7.out.size | exact HB6.out.size | exact HB5.out.size | exact HB4.out.size | exact HB3.out.size | exact HB2.out.size | exact HB1.out.size | exact HB.out.size | (simp; done) | (simp <;> omega)) _) | apply pw_below_drewN | apply below_drew1 | (refine Below.setCell ?_ (by first | (simp; done) | (simp <;> omega) | omega) _))))) hcA hll).mono ?_; rintro e w7 ⟨rfl, hb7⟩; have HB7 := Aside0.mk (below_step (w := w) (by first | exact HW.out | (repeat (first | exact Below.refl _ _ | exact HB9.out | exact HB8.out | exact HB7.out | exact HB6.out | exact HB5.out | exact HB4.out | exact HB3.out | exact HB2.out | exact HB1.out | exact HB.out | (refine Below.alloc ?_ (by first | exact HB9.out.size | exact HB8.out.size | exact HB7.out.size | exact HB6.out.size | exact HB5.out.size | exact HB4.out.size | exact HB3.out.size | exact HB2.out.size | exact HB1.out.size | exact HB.out.size | (simp; done) | (simp <;> omega)) _) | apply pw_below_drewN | apply below_drew1 | (refine Below.setCell ?_ (by first | (simp; done) | (simp <;> omega) | omega) _)))) hb7); have HD7 := Aside0.mk (below_step (w := w3) (by repeat (first | exact Below.refl _ _ | exact HD7.out | exact HD6.out | exact HD5.out | apply below_drew1 | (refine Below.alloc ?_ (Nat.le_refl _) _))) hb7); have hz7 : w3.heap.size + 1 ≤ w7.heap.size := (by have := hb7.size; first | omega | (simp at this; omega)); have hq7 : ∀ q o, q < w3.heap.size + 1 → w7.cell? ⟨q, o, none⟩ = (w3.alloc (.cells #[.int .u32 r1, .int .u32 r2, .int .u32 r3, .slice none 0 0] 32)).cell? ⟨q, o, none⟩ := (fun q o h => (hb7.cell (p := ⟨q, o, none⟩) (by show q < _; first | omega | (simp; omega))).trans (by first | exact hq5 q o h | exact hq6 q o h | exact hq7 q o h | rfl)); have p0_7 : w7.cell? ⟨w.heap.size, 0, none⟩ = some (.int .u32 a) := (hq7 _ _ (by omega)).trans (by go_simp); have p1_7 : w7.cell? ⟨w.heap.size, 1, none⟩ = some (.int .u32 b) := (hq7 _ _ (by omega)).trans (by go_simp); have p2_7 : w7.cell? ⟨w.heap.size, 2, none⟩ = some (.int .u32 c) := (hq7 _ _ (by omega)).trans (by go_simp); have p3_7 : w7.cell? ⟨w.heap.size, 3, none⟩ = some (.slice A l.length cA) := (hq7 _ _ (by omega)).trans (by go_simp); have x0_7 : w7.cell? ⟨w1.heap.size, 0, none⟩ = some (.int .u32 a) := (hq7 _ _ (by omega)).trans (by go_simp); have x1_7 : w7.cell? ⟨w1.heap.size, 1, none⟩ = some (.int .u32 b) := (hq7 _ _ (by omega)).trans (by go_simp); have x2_7 : w7.cell? ⟨w1.heap.size, 2, none⟩ = some (.int .u32 c) := (hq7 _ _ (by omega)).trans (by go_simp); have x3_7 : w7.cell? ⟨w1.heap.size, 3, none⟩ = some (.slice A1 l.length k1) := (hq7 _ _ (by omega)).trans (by go_simp); clear hb7))) | fail
      all_goals (go_wp2_with fail; go_meet; first | exact ⟨by first | rfl | (simp [hdc]; done), HB7, hz7, HD7, hq7⟩ | exact ⟨by first | rfl | (simp [hdc]; done), HB6, hz6, HD6, hq6⟩)
  case rest =>
    obtain ⟨rfl, HB4, hz4, HD4, hq4⟩ := hcut
    have p0_4 : wc.cell? ⟨w.heap.size, 0, none⟩ = some (.int .u32 a) := (hq4 _ _ (by omega)).trans (by go_simp)
    have p1_4 : wc.cell? ⟨w.heap.size, 1, none⟩ = some (.int .u32 b) := (hq4 _ _ (by omega)).trans (by go_simp)
    have p2_4 : wc.cell? ⟨w.heap.size, 2, none⟩ = some (.int .u32 c) := (hq4 _ _ (by omega)).trans (by go_simp)
    have p3_4 : wc.cell? ⟨w.heap.size, 3, none⟩ = some (.slice A l.length cA) := (hq4 _ _ (by omega)).trans (by go_simp)
    have x0_4 : wc.cell? ⟨w1.heap.size, 0, none⟩ = some (.int .u32 a) := (hq4 _ _ (by omega)).trans (by go_simp)
    have x1_4 : wc.cell? ⟨w1.heap.size, 1, none⟩ = some (.int .u32 b) := (hq4 _ _ (by omega)).trans (by go_simp)
    have x2_4 : wc.cell? ⟨w1.heap.size, 2, none⟩ = some (.int .u32 c) := (hq4 _ _ (by omega)).trans (by go_simp)
    have x3_4 : wc.cell? ⟨w1.heap.size, 3, none⟩ = some (.slice A1 l.length k1) := (hq4 _ _ (by omega)).trans (by go_simp)
    have HX4 := Aside0.mk (Kd.C_below HC1c.out HD4.out)
    have HA4 := Aside0.mk (Kd.C_below HA.out HB4.out)
    have hd4 : w.heap.size < wc.heap.size := by omega
    have hd41 : w1.heap.size < wc.heap.size := by omega
    clear hq4
    ·
      go_wp2_with (fail)
      refine (least_no a b c A1 k1 l _ HX4.out hk1 (by exact GW.below HG.out HB4.out) hm).mono ?_
      rintro e w5 ⟨rfl, hb5⟩
      have HE5 := Aside0.mk (below_step (w := wc) (by repeat (first | exact Below.refl _ _ | exact HE9.out | exact HE8.out | exact HE7.out | exact HE6.out | exact HE5.out | (refine Below.alloc ?_ (by first | exact HE9.out.size | exact HE8.out.size | exact HE7.out.size | exact HE6.out.size | exact HE5.out.size | exact Nat.le_refl _) _) | apply below_drew1)) hb5)
      have hd5 : w.heap.size < w5.heap.size := by have := HE5.out.size; omega
      have hd51 : w1.heap.size < w5.heap.size := by have := HE5.out.size; omega
      have p0_5 : w5.cell? ⟨w.heap.size, 0, none⟩ = some (.int .u32 a) := (HE5.out.cell (p := ⟨w.heap.size, 0, none⟩) (by first | exact hd4 | exact hd41)).trans p0_4
      have p1_5 : w5.cell? ⟨w.heap.size, 1, none⟩ = some (.int .u32 b) := (HE5.out.cell (p := ⟨w.heap.size, 1, none⟩) (by first | exact hd4 | exact hd41)).trans p1_4
      have p2_5 : w5.cell? ⟨w.heap.size, 2, none⟩ = some (.int .u32 c) := (HE5.out.cell (p := ⟨w.heap.size, 2, none⟩) (by first | exact hd4 | exact hd41)).trans p2_4
      have p3_5 : w5.cell? ⟨w.heap.size, 3, none⟩ = some (.slice A l.length cA) := (HE5.out.cell (p := ⟨w.heap.size, 3, none⟩) (by first | exact hd4 | exact hd41)).trans p3_4
      have x0_5 : w5.cell? ⟨w1.heap.size, 0, none⟩ = some (.int .u32 a) := (HE5.out.cell (p := ⟨w1.heap.size, 0, none⟩) (by first | exact hd4 | exact hd41)).trans x0_4
      have x1_5 : w5.cell? ⟨w1.heap.size, 1, none⟩ = some (.int .u32 b) := (HE5.out.cell (p := ⟨w1.heap.size, 1, none⟩) (by first | exact hd4 | exact hd41)).trans x1_4
      have x2_5 : w5.cell? ⟨w1.heap.size, 2, none⟩ = some (.int .u32 c) := (HE5.out.cell (p := ⟨w1.heap.size, 2, none⟩) (by first | exact hd4 | exact hd41)).trans x2_4
      have x3_5 : w5.cell? ⟨w1.heap.size, 3, none⟩ = some (.slice A1 l.length k1) := (HE5.out.cell (p := ⟨w1.heap.size, 3, none⟩) (by first | exact hd4 | exact hd41)).trans x3_4
      clear hb5
      go_wp2_with (fail)
      refine (rmay_calls a b c A cA l _ (Kd.C_alloc (Kd.C_below (w := wc) HA4.out HE5.out) _) hcA hll).mono ?_
      rintro e w6 ⟨rfl, hb6⟩
      have l0_6 : w6.cell? ⟨w5.heap.size, 0, none⟩ = some (.int .u32 0) := (hb6.cell (p := ⟨w5.heap.size, 0, none⟩) (by simp)).trans (by go_simp)
      have l1_6 : w6.cell? ⟨w5.heap.size, 1, none⟩ = some (.int .u32 0) := (hb6.cell (p := ⟨w5.heap.size, 1, none⟩) (by simp)).trans (by go_simp)
      have l2_6 : w6.cell? ⟨w5.heap.size, 2, none⟩ = some (.int .u32 0) := (hb6.cell (p := ⟨w5.heap.size, 2, none⟩) (by simp)).trans (by go_simp)
      have l3_6 : w6.cell? ⟨w5.heap.size, 3, none⟩ = some (.slice none 0 0) := (hb6.cell (p := ⟨w5.heap.size, 3, none⟩) (by simp)).trans (by go_simp)
      have HE6 := Aside0.mk (below_step (w := wc) (by repeat (first | exact Below.refl _ _ | exact HE9.out | exact HE8.out | exact HE7.out | exact HE6.out | exact HE5.out | (refine Below.alloc ?_ (by first | exact HE9.out.size | exact HE8.out.size | exact HE7.out.size | exact HE6.out.size | exact HE5.out.size | exact Nat.le_refl _) _) | apply below_drew1)) hb6)
      have hd6 : w.heap.size < w6.heap.size := by have := HE6.out.size; omega
      have hd61 : w1.heap.size < w6.heap.size := by have := HE6.out.size; omega
      have p0_6 : w6.cell? ⟨w.heap.size, 0, none⟩ = some (.int .u32 a) := (HE6.out.cell (p := ⟨w.heap.size, 0, none⟩) (by first | exact hd4 | exact hd41)).trans p0_4
      have p1_6 : w6.cell? ⟨w.heap.size, 1, none⟩ = some (.int .u32 b) := (HE6.out.cell (p := ⟨w.heap.size, 1, none⟩) (by first | exact hd4 | exact hd41)).trans p1_4
      have p2_6 : w6.cell? ⟨w.heap.size, 2, none⟩ = some (.int .u32 c) := (HE6.out.cell (p := ⟨w.heap.size, 2, none⟩) (by first | exact hd4 | exact hd41)).trans p2_4
      have p3_6 : w6.cell? ⟨w.heap.size, 3, none⟩ = some (.slice A l.length cA) := (HE6.out.cell (p := ⟨w.heap.size, 3, none⟩) (by first | exact hd4 | exact hd41)).trans p3_4
      have x0_6 : w6.cell? ⟨w1.heap.size, 0, none⟩ = some (.int .u32 a) := (HE6.out.cell (p := ⟨w1.heap.size, 0, none⟩) (by first | exact hd4 | exact hd41)).trans x0_4
      have x1_6 : w6.cell? ⟨w1.heap.size, 1, none⟩ = some (.int .u32 b) := (HE6.out.cell (p := ⟨w1.heap.size, 1, none⟩) (by first | exact hd4 | exact hd41)).trans x1_4
      have x2_6 : w6.cell? ⟨w1.heap.size, 2, none⟩ = some (.int .u32 c) := (HE6.out.cell (p := ⟨w1.heap.size, 2, none⟩) (by first | exact hd4 | exact hd41)).trans x2_4
      have x3_6 : w6.cell? ⟨w1.heap.size, 3, none⟩ = some (.slice A1 l.length k1) := (HE6.out.cell (p := ⟨w1.heap.size, 3, none⟩) (by first | exact hd4 | exact hd41)).trans x3_4
      clear hb6
      go_wp2_with (fail)
      refine (rsame_calls 0 0 0 none 0 [] 0 0 0 none 0 [] _ (C_none _) (C_none _) (by decide)).mono ?_
      rw [sameV_self]
      rintro e w7 ⟨rfl, hb7⟩
      have HE7 := Aside0.mk (below_step (w := wc) (by repeat (first | exact Below.refl _ _ | exact HE9.out | exact HE8.out | exact HE7.out | exact HE6.out | exact HE5.out | (refine Below.alloc ?_ (by first | exact HE9.out.size | exact HE8.out.size | exact HE7.out.size | exact HE6.out.size | exact HE5.out.size | exact Nat.le_refl _) _) | apply below_drew1)) hb7)
      have hd7 : w.heap.size < w7.heap.size := by have := HE7.out.size; omega
      have hd71 : w1.heap.size < w7.heap.size := by have := HE7.out.size; omega
      clear hb7
      go_wp2_with (fail)
      refine (yanklinelaw07_alive.calls true _ (by exact GW.below HG.out (below_step HB4.out HE7.out)) rfl).mono ?_
      rintro e w8 ⟨rfl, hb8⟩
      have HE8 := Aside0.mk (below_step (w := wc) (by repeat (first | exact Below.refl _ _ | exact HE9.out | exact HE8.out | exact HE7.out | exact HE6.out | exact HE5.out | (refine Below.alloc ?_ (by first | exact HE9.out.size | exact HE8.out.size | exact HE7.out.size | exact HE6.out.size | exact HE5.out.size | exact Nat.le_refl _) _) | apply below_drew1)) hb8)
      have hd8 : w.heap.size < w8.heap.size := by have := HE8.out.size; omega
      have hd81 : w1.heap.size < w8.heap.size := by have := HE8.out.size; omega
      clear hb8
      go_wp2
      go_ret
      exact ⟨rfl, below_step HB4.out HE8.out⟩

end Go.Proofs.YtoiibjipjlkaeaaDoor.PV

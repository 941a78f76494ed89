/- The walks of the document's own Text and Is, and of the law VersionTexts. -/
import Derived.Test.YtoiibjipjlkaeaaDoorRefT
import Derived.Test.YtoiibjipjlkaeaaDoorBackA
import Derived.Test.YtoiibjipjlkaeaaDoorLaidT
namespace Go.Proofs.YtoiibjipjlkaeaaDoor.PV
open Go.RowKit Go.Proofs.YtoiibjipjlkaeaaDoorW.PrintWords Go.Proofs.YtoiibjipjlkaeaaDoorW.PrintLast Go.Proofs.YtoiibjipjlkaeaaDoorW.PrintMore
attribute [local go_sem] max2_int min2_int max_two min_two max_three min_three max_four min_four   -- for this text's walks alone
set_option linter.unusedVariables false
set_option linter.unusedSimpArgs false

theorem may_bound {a b c : Int} {l : List ByteArray} (hm : mayV a b c l = true) : a ≤ 2147483647 ∧ b ≤ 2147483647 ∧ c ≤ 2147483647 := by
  unfold mayV at hm
  simp only [Bool.and_eq_true, decide_eq_true_eq] at hm
  exact ⟨hm.1.1, hm.1.2.1, hm.1.2.2.1⟩
set_option maxHeartbeats 8000000 in
set_option maxRecDepth 100000 in
theorem rText_calls (na nb nc : Nat) (A : Option Addr) (cA : Nat) (l : List ByteArray) (w : World) (hA : Kd.C Kd.string w A l.length l) (hcA : l.length ≤ cA) (hll : l.length ≤ 9223372036854775807) :
    Calls Tryd.prog 27 #[.agg #[.int .u32 na, .int .u32 nb, .int .u32 nc, .slice A l.length cA]] w fun e w' => e = .returned (.tuple #[.string (textR na nb nc l).1, .int .i64 (textR na nb nc l).2]) ∧ Below w.heap.size w w' := by
  have HA := Aside0.mk hA
  clear hA
  cases hm : mayV na nb nc l
  case false =>
    have hr : textR na nb nc l = (⟨#[]⟩, 70) := if_neg (fun h => by rw [hm] at h; exact Bool.false_ne_true h.1)
    rw [hr]
    clear hr
    go_enter Tryd.func27, Tryd.ntmps27
    go_wp2_with (fail)
    refine (rmay_calls na nb nc A cA l _ (Kd.C_alloc HA.out _) hcA hll).mono ?_
    rintro e w1 ⟨rfl, hb1⟩
    have HB1 := Aside0.mk (below_step (w := w) (by repeat (first | exact Below.refl _ _ | exact HB9.out | exact HB8.out | exact HB7.out | exact HB6.out | exact HB5.out | exact HB4.out | exact HB3.out | exact HB2.out | exact HB1.out | exact HB.out | (refine Below.alloc ?_ (by first | exact HB9.out.size | exact HB8.out.size | exact HB7.out.size | exact HB6.out.size | exact HB5.out.size | exact HB4.out.size | exact HB3.out.size | exact HB2.out.size | exact HB1.out.size | exact HB.out.size | (simp; done) | (simp <;> omega)) _) | apply pw_below_drewN | apply below_drew1 | (refine Below.setCell ?_ (by first | (simp; done) | (simp <;> omega) | omega) _))) hb1); obtain ⟨hc1, hf1⟩ := bcell hb1; have hz1 := hb1.size; (try simp at hz1); clear hb1
    go_wp2
    exact bodyPost_ret (results_list (rs := [_, _]) Tryd.results27 (by simp) (.tmp (.tmp .nil))) rfl ⟨rfl, HB1.out⟩
  have hp := may_parts hm
  have hb := may_bound hm
  have hsz := textB_size na nb nc l (by omega) (by omega) (by omega) hp.1 hp.2
  by_cases hs : (textB na nb nc l).size ≤ 128
  · have hr : textR na nb nc l = (textB na nb nc l, 0) := if_pos ⟨hm, hs⟩
    rw [hr]
    clear hr
    have hs' : ¬ (128 : Int) < ((textB na nb nc l).size : Int) := by omega
    go_enter Tryd.func27, Tryd.ntmps27
    go_wp2_with (fail)
    refine (rmay_calls na nb nc A cA l _ (Kd.C_alloc HA.out _) hcA hll).mono ?_
    rintro e w1 ⟨rfl, hb1⟩
    have hza1 : w.heap.size < w1.heap.size := by have := hb1.size; (try simp at this); omega
    have HB1 := Aside0.mk (below_step (w := w) (by repeat (first | exact Below.refl _ _ | exact HB9.out | exact HB8.out | exact HB7.out | exact HB6.out | exact HB5.out | exact HB4.out | exact HB3.out | exact HB2.out | exact HB1.out | exact HB.out | (refine Below.alloc ?_ (by first | exact HB9.out.size | exact HB8.out.size | exact HB7.out.size | exact HB6.out.size | exact HB5.out.size | exact HB4.out.size | exact HB3.out.size | exact HB2.out.size | exact HB1.out.size | exact HB.out.size | (simp; done) | (simp <;> omega)) _) | apply pw_below_drewN | apply below_drew1 | (refine Below.setCell ?_ (by first | (simp; done) | (simp <;> omega) | omega) _))) hb1); obtain ⟨hc1, hf1⟩ := bcell hb1; have hz1 := hb1.size; (try simp at hz1); clear hb1
    go_wp2_with (fail)
    refine (rtext_calls na nb nc A cA l _ (Kd.C_below HA.out (by repeat (first | exact Below.refl _ _ | exact HB9.out | exact HB8.out | exact HB7.out | exact HB6.out | exact HB5.out | exact HB4.out | exact HB3.out | exact HB2.out | exact HB1.out | exact HB.out | (refine Below.alloc ?_ (by first | exact HB9.out.size | exact HB8.out.size | exact HB7.out.size | exact HB6.out.size | exact HB5.out.size | exact HB4.out.size | exact HB3.out.size | exact HB2.out.size | exact HB1.out.size | exact HB.out.size | (simp; done) | (simp <;> omega)) _) | apply pw_below_drewN | apply below_drew1 | (refine Below.setCell ?_ (by first | (simp; done) | (simp <;> omega) | omega) _)))) (by omega) (by omega) (by omega) hp.1 hp.2).mono ?_
    rintro e w2 ⟨rfl, hb2⟩
    have hza2 : w.heap.size < w2.heap.size := by have := hb2.size; omega
    have HB2 := Aside0.mk (below_step (w := w) (by repeat (first | exact Below.refl _ _ | exact HB9.out | exact HB8.out | exact HB7.out | exact HB6.out | exact HB5.out | exact HB4.out | exact HB3.out | exact HB2.out | exact HB1.out | exact HB.out | (refine Below.alloc ?_ (by first | exact HB9.out.size | exact HB8.out.size | exact HB7.out.size | exact HB6.out.size | exact HB5.out.size | exact HB4.out.size | exact HB3.out.size | exact HB2.out.size | exact HB1.out.size | exact HB.out.size | (simp; done) | (simp <;> omega)) _) | apply pw_below_drewN | apply below_drew1 | (refine Below.setCell ?_ (by first | (simp; done) | (simp <;> omega) | omega) _))) hb2); obtain ⟨hc2, hf2⟩ := bcell hb2; have hz2 := hb2.size; (try simp at hz2); clear hb2
    go_wp2_with (fail)
    refine (rtext_calls na nb nc A cA l _ (Kd.C_below HA.out (by repeat (first | exact Below.refl _ _ | exact HB9.out | exact HB8.out | exact HB7.out | exact HB6.out | exact HB5.out | exact HB4.out | exact HB3.out | exact HB2.out | exact HB1.out | exact HB.out | (refine Below.alloc ?_ (by first | exact HB9.out.size | exact HB8.out.size | exact HB7.out.size | exact HB6.out.size | exact HB5.out.size | exact HB4.out.size | exact HB3.out.size | exact HB2.out.size | exact HB1.out.size | exact HB.out.size | (simp; done) | (simp <;> omega)) _) | apply pw_below_drewN | apply below_drew1 | (refine Below.setCell ?_ (by first | (simp; done) | (simp <;> omega) | omega) _)))) (by omega) (by omega) (by omega) hp.1 hp.2).mono ?_
    rintro e w3 ⟨rfl, hb3⟩
    have HB3 := Aside0.mk (below_step (w := w) (by repeat (first | exact Below.refl _ _ | exact HB9.out | exact HB8.out | exact HB7.out | exact HB6.out | exact HB5.out | exact HB4.out | exact HB3.out | exact HB2.out | exact HB1.out | exact HB.out | (refine Below.alloc ?_ (by first | exact HB9.out.size | exact HB8.out.size | exact HB7.out.size | exact HB6.out.size | exact HB5.out.size | exact HB4.out.size | exact HB3.out.size | exact HB2.out.size | exact HB1.out.size | exact HB.out.size | (simp; done) | (simp <;> omega)) _) | apply pw_below_drewN | apply below_drew1 | (refine Below.setCell ?_ (by first | (simp; done) | (simp <;> omega) | omega) _))) hb3); obtain ⟨hc3, hf3⟩ := bcell hb3; have hz3 := hb3.size; (try simp at hz3); clear hb3
    go_wp2
    exact bodyPost_ret (results_list (rs := [_, _]) Tryd.results27 (by simp) (.tmp (.tmp .nil))) rfl ⟨rfl, HB3.out⟩
  · have hr : textR na nb nc l = (⟨#[]⟩, 70) := if_neg (fun h => hs h.2)
    rw [hr]
    clear hr
    have hs' : (128 : Int) < ((textB na nb nc l).size : Int) := by omega
    go_enter Tryd.func27, Tryd.ntmps27
    go_wp2_with (fail)
    refine (rmay_calls na nb nc A cA l _ (Kd.C_alloc HA.out _) hcA hll).mono ?_
    rintro e w1 ⟨rfl, hb1⟩
    have hza1 : w.heap.size < w1.heap.size := by have := hb1.size; (try simp at this); omega
    have HB1 := Aside0.mk (below_step (w := w) (by repeat (first | exact Below.refl _ _ | exact HB9.out | exact HB8.out | exact HB7.out | exact HB6.out | exact HB5.out | exact HB4.out | exact HB3.out | exact HB2.out | exact HB1.out | exact HB.out | (refine Below.alloc ?_ (by first | exact HB9.out.size | exact HB8.out.size | exact HB7.out.size | exact HB6.out.size | exact HB5.out.size | exact HB4.out.size | exact HB3.out.size | exact HB2.out.size | exact HB1.out.size | exact HB.out.size | (simp; done) | (simp <;> omega)) _) | apply pw_below_drewN | apply below_drew1 | (refine Below.setCell ?_ (by first | (simp; done) | (simp <;> omega) | omega) _))) hb1); obtain ⟨hc1, hf1⟩ := bcell hb1; have hz1 := hb1.size; (try simp at hz1); clear hb1
    go_wp2_with (fail)
    refine (rtext_calls na nb nc A cA l _ (Kd.C_below HA.out (by repeat (first | exact Below.refl _ _ | exact HB9.out | exact HB8.out | exact HB7.out | exact HB6.out | exact HB5.out | exact HB4.out | exact HB3.out | exact HB2.out | exact HB1.out | exact HB.out | (refine Below.alloc ?_ (by first | exact HB9.out.size | exact HB8.out.size | exact HB7.out.size | exact HB6.out.size | exact HB5.out.size | exact HB4.out.size | exact HB3.out.size | exact HB2.out.size | exact HB1.out.size | exact HB.out.size | (simp; done) | (simp <;> omega)) _) | apply pw_below_drewN | apply below_drew1 | (refine Below.setCell ?_ (by first | (simp; done) | (simp <;> omega) | omega) _)))) (by omega) (by omega) (by omega) hp.1 hp.2).mono ?_
    rintro e w2 ⟨rfl, hb2⟩
    have HB2 := Aside0.mk (below_step (w := w) (by repeat (first | exact Below.refl _ _ | exact HB9.out | exact HB8.out | exact HB7.out | exact HB6.out | exact HB5.out | exact HB4.out | exact HB3.out | exact HB2.out | exact HB1.out | exact HB.out | (refine Below.alloc ?_ (by first | exact HB9.out.size | exact HB8.out.size | exact HB7.out.size | exact HB6.out.size | exact HB5.out.size | exact HB4.out.size | exact HB3.out.size | exact HB2.out.size | exact HB1.out.size | exact HB.out.size | (simp; done) | (simp <;> omega)) _) | apply pw_below_drewN | apply below_drew1 | (refine Below.setCell ?_ (by first | (simp; done) | (simp <;> omega) | omega) _))) hb2); obtain ⟨hc2, hf2⟩ := bcell hb2; have hz2 := hb2.size; (try simp at hz2); clear hb2
    go_wp2
    exact bodyPost_ret (results_list (rs := [_, _]) Tryd.results27 (by simp) (.tmp (.tmp .nil))) rfl ⟨rfl, HB2.out⟩
set_option maxHeartbeats 8000000 in
set_option maxRecDepth 100000 in
theorem ris_calls (s : ByteArray) (w : World) : Calls Tryd.prog 31 #[.string s] w fun e w' => e = .returned (.bool (verOf s).isSome) ∧ Below w.heap.size w w' := by
  cases hs : verOf s with
  | none =>
    go_enter Tryd.func31, Tryd.ntmps31
    go_wp2_with (fail)
    refine (rread_calls s _ _ _ _ _ _ (read_none hs)).mono ?_
    rintro e w1 ⟨A1, k1, rfl, hk1, hC1, hb1⟩
    have HB1 := Aside0.mk (below_step (w := w) (by repeat (first | exact Below.refl _ _ | exact HB9.out | exact HB8.out | exact HB7.out | exact HB6.out | exact HB5.out | exact HB4.out | exact HB3.out | exact HB2.out | exact HB1.out | exact HB.out | (refine Below.alloc ?_ (by first | exact HB9.out.size | exact HB8.out.size | exact HB7.out.size | exact HB6.out.size | exact HB5.out.size | exact HB4.out.size | exact HB3.out.size | exact HB2.out.size | exact HB1.out.size | exact HB.out.size | (simp; done) | (simp <;> omega)) _) | apply pw_below_drewN | apply below_drew1 | (refine Below.setCell ?_ (by first | (simp; done) | (simp <;> omega) | omega) _))) hb1); obtain ⟨hc1, hf1⟩ := bcell hb1; have hz1 := hb1.size; (try simp at hz1); clear hb1
    go_wp2
    go_ret
    exact ⟨rfl, by repeat (first | exact Below.refl _ _ | exact HB9.out | exact HB8.out | exact HB7.out | exact HB6.out | exact HB5.out | exact HB4.out | exact HB3.out | exact HB2.out | exact HB1.out | exact HB.out | (refine Below.alloc ?_ (by first | exact HB9.out.size | exact HB8.out.size | exact HB7.out.size | exact HB6.out.size | exact HB5.out.size | exact HB4.out.size | exact HB3.out.size | exact HB2.out.size | exact HB1.out.size | exact HB.out.size | (simp; done) | (simp <;> omega)) _) | apply pw_below_drewN | apply below_drew1 | (refine Below.setCell ?_ (by first | (simp; done) | (simp <;> omega) | omega) _))⟩
  | some v =>
    go_enter Tryd.func31, Tryd.ntmps31
    go_wp2_with (fail)
    refine (rread_calls s _ _ _ _ _ _ (read_some hs)).mono ?_
    rintro e w1 ⟨A1, k1, rfl, hk1, hC1, hb1⟩
    have HB1 := Aside0.mk (below_step (w := w) (by repeat (first | exact Below.refl _ _ | exact HB9.out | exact HB8.out | exact HB7.out | exact HB6.out | exact HB5.out | exact HB4.out | exact HB3.out | exact HB2.out | exact HB1.out | exact HB.out | (refine Below.alloc ?_ (by first | exact HB9.out.size | exact HB8.out.size | exact HB7.out.size | exact HB6.out.size | exact HB5.out.size | exact HB4.out.size | exact HB3.out.size | exact HB2.out.size | exact HB1.out.size | exact HB.out.size | (simp; done) | (simp <;> omega)) _) | apply pw_below_drewN | apply below_drew1 | (refine Below.setCell ?_ (by first | (simp; done) | (simp <;> omega) | omega) _))) hb1); obtain ⟨hc1, hf1⟩ := bcell hb1; have hz1 := hb1.size; (try simp at hz1); clear hb1
    go_wp2
    go_ret
    exact ⟨rfl, by repeat (first | exact Below.refl _ _ | exact HB9.out | exact HB8.out | exact HB7.out | exact HB6.out | exact HB5.out | exact HB4.out | exact HB3.out | exact HB2.out | exact HB1.out | exact HB.out | (refine Below.alloc ?_ (by first | exact HB9.out.size | exact HB8.out.size | exact HB7.out.size | exact HB6.out.size | exact HB5.out.size | exact HB4.out.size | exact HB3.out.size | exact HB2.out.size | exact HB1.out.size | exact HB.out.size | (simp; done) | (simp <;> omega)) _) | apply pw_below_drewN | apply below_drew1 | (refine Below.setCell ?_ (by first | (simp; done) | (simp <;> omega) | omega) _))⟩
theorem sameV_self (a b c : Int) (l : List ByteArray) : sameV a b c l a b c l = true := by simp [sameV]
theorem read_any (s : ByteArray) : ∃ a b c l n, version_Read.f s = some (a, b, c, l, n) ∧ l.length < 9223372036854775000 := by
  cases h : verOf s with
  | none => exact ⟨_, _, _, _, _, read_none h, by decide⟩
  | some v =>
    have := may_parts (ver_nonneg h).2.2.2
    exact ⟨_, _, _, _, _, read_some h, by omega⟩
set_option maxHeartbeats 8000000 in
set_option maxRecDepth 100000 in
theorem texts_a (na nb nc : Nat) (A : Option Addr) (cA : Nat) (l : List ByteArray) (s : ByteArray) (w : World) (hA : Kd.C Kd.string w A l.length l) (hcA : l.length ≤ cA) (hl16 : l.length * 16 ≤ 140737488355328) (hG : GW w) (hT : GT w) :
    Calls Tryd.prog 7 #[.agg #[.int .u32 na, .int .u32 nb, .int .u32 nc, .slice A l.length cA], .string s] w fun e w' => e = .returned (.bool true) ∧ Below w.heap.size w w' := by
  have HA := Aside0.mk hA
  have HG := Aside0.mk hG
  have HT := Aside0.mk hT
  have hll : l.length ≤ 9223372036854775807 := by omega
  have hll2 : l.length < 9223372036854775000 := by omega
  obtain ⟨ra, rb, rc, rl, rn, hRd, hrl⟩ := read_any s
  have HRd := Aside0.mk hRd
  clear hA hG hT hRd
  obtain ⟨e0, heq, he0⟩ : ∃ e0 : Int, version_May.f na nb nc l = some e0 ∧ e0 = (if mayV na nb nc l = true then 0 else 70) := ⟨_, rfl, rfl⟩
  have HE := Aside0.mk heq
  clear heq
  obtain ⟨S, q, hSq⟩ : ∃ S q, textR na nb nc l = (S, q) := ⟨_, _, rfl⟩
  have hss : (S.toList != S.toList) = false := by simp
  have hqq : (q != q) = false := by simp
  have hrr : (rn == rn) = true := by simp
  cases hm : mayV na nb nc l
  case false =>
    have he1 : e0 = 70 := by rw [he0, hm]; rfl
    subst he1
    clear he0
    go_enter Tryd.func7, Tryd.ntmps7
    go_wp2_with (fail)
    refine (twin_calls na nb nc A cA l _ (Kd.C_alloc HA.out _) hl16).mono ?_
    rintro e w1 ⟨v1, rfl, hR1, hb1⟩
    obtain ⟨A1, k1, rfl, hk1, hC1⟩ := Kd.R_reads hR1
    have HC1 := Aside0.mk hC1
    clear hR1 hC1
    have hs1 : w.heap.size < w1.heap.size := by have := hb1.size; (try simp at this); omega
    have HB1 := Aside0.mk (below_step (w := w) (by repeat (first | exact Below.refl _ _ | exact HB9.out | exact HB8.out | exact HB7.out | exact HB6.out | exact HB5.out | exact HB4.out | exact HB3.out | exact HB2.out | exact HB1.out | exact HB.out | (refine Below.alloc ?_ (by first | exact HB9.out.size | exact HB8.out.size | exact HB7.out.size | exact HB6.out.size | exact HB5.out.size | exact HB4.out.size | exact HB3.out.size | exact HB2.out.size | exact HB1.out.size | exact HB.out.size | (simp; done) | (simp <;> omega)) _) | apply pw_below_drewN | apply below_drew1 | (refine Below.setCell ?_ (by first | (simp; done) | (simp <;> omega) | omega) _))) hb1); obtain ⟨hc1, hf1⟩ := bcell hb1; have hz1 := hb1.size; (try simp at hz1); clear hb1
    have p0_1 : w1.cell? ⟨w.heap.size, 0, none⟩ = some (.int .u32 na) := (hc1 _ _ (by simp)).trans (by go_simp)
    have p1_1 : w1.cell? ⟨w.heap.size, 1, none⟩ = some (.int .u32 nb) := (hc1 _ _ (by simp)).trans (by go_simp)
    have p2_1 : w1.cell? ⟨w.heap.size, 2, none⟩ = some (.int .u32 nc) := (hc1 _ _ (by simp)).trans (by go_simp)
    have p3_1 : w1.cell? ⟨w.heap.size, 3, none⟩ = some (.slice A l.length cA) := (hc1 _ _ (by simp)).trans (by go_simp)
    clear hc1 hf1
    go_wp2_with (fail)
    refine (version_May.calls na nb nc A1 k1 l _ _ (Kd.C_alloc HC1.out _) hk1 (by first | exact HG.out | exact GW.below HG.out (by repeat (first | exact Below.refl _ _ | exact HB9.out | exact HB8.out | exact HB7.out | exact HB6.out | exact HB5.out | exact HB4.out | exact HB3.out | exact HB2.out | exact HB1.out | exact HB.out | (refine Below.alloc ?_ (by first | exact HB9.out.size | exact HB8.out.size | exact HB7.out.size | exact HB6.out.size | exact HB5.out.size | exact HB4.out.size | exact HB3.out.size | exact HB2.out.size | exact HB1.out.size | exact HB.out.size | (simp; done) | (simp <;> omega)) _) | apply pw_below_drewN | apply below_drew1 | (refine Below.setCell ?_ (by first | (simp; done) | (simp <;> omega) | omega) _)))) HE.out).mono ?_
    rintro e w2 ⟨rfl, hb2⟩
    have ht2 : w.heap.size < w2.heap.size := by have := hb2.size; (try simp at this); omega
    have hu2 : w1.heap.size < w2.heap.size := by have := hb2.size; (try simp at this); omega
    have HM2 := Aside0.mk (Kd.C_below (Kd.C_alloc HC1.out _) hb2)
    have HB2 := Aside0.mk (below_step (w := w) (by repeat (first | exact Below.refl _ _ | exact HB9.out | exact HB8.out | exact HB7.out | exact HB6.out | exact HB5.out | exact HB4.out | exact HB3.out | exact HB2.out | exact HB1.out | exact HB.out | (refine Below.alloc ?_ (by first | exact HB9.out.size | exact HB8.out.size | exact HB7.out.size | exact HB6.out.size | exact HB5.out.size | exact HB4.out.size | exact HB3.out.size | exact HB2.out.size | exact HB1.out.size | exact HB.out.size | (simp; done) | (simp <;> omega)) _) | apply pw_below_drewN | apply below_drew1 | (refine Below.setCell ?_ (by first | (simp; done) | (simp <;> omega) | omega) _))) hb2); obtain ⟨hc2, hf2⟩ := bcell hb2; have hz2 := hb2.size; (try simp at hz2); clear hb2
    have p0_2 : w2.cell? ⟨w.heap.size, 0, none⟩ = some (.int .u32 na) := (hc2 _ _ (by first | omega | (simp; done) | (simp; omega))).trans (by go_simp)
    have p1_2 : w2.cell? ⟨w.heap.size, 1, none⟩ = some (.int .u32 nb) := (hc2 _ _ (by first | omega | (simp; done) | (simp; omega))).trans (by go_simp)
    have p2_2 : w2.cell? ⟨w.heap.size, 2, none⟩ = some (.int .u32 nc) := (hc2 _ _ (by first | omega | (simp; done) | (simp; omega))).trans (by go_simp)
    have p3_2 : w2.cell? ⟨w.heap.size, 3, none⟩ = some (.slice A l.length cA) := (hc2 _ _ (by first | omega | (simp; done) | (simp; omega))).trans (by go_simp)
    have x0_2 : w2.cell? ⟨w1.heap.size, 0, none⟩ = some (.int .u32 na) := (hc2 _ _ (by first | omega | (simp; done) | (simp; omega))).trans (by go_simp)
    have x1_2 : w2.cell? ⟨w1.heap.size, 1, none⟩ = some (.int .u32 nb) := (hc2 _ _ (by first | omega | (simp; done) | (simp; omega))).trans (by go_simp)
    have x2_2 : w2.cell? ⟨w1.heap.size, 2, none⟩ = some (.int .u32 nc) := (hc2 _ _ (by first | omega | (simp; done) | (simp; omega))).trans (by go_simp)
    have x3_2 : w2.cell? ⟨w1.heap.size, 3, none⟩ = some (.slice A1 l.length k1) := (hc2 _ _ (by first | omega | (simp; done) | (simp; omega))).trans (by go_simp)
    clear hc2 hf2
    go_wp2_with (fail)
    refine (text_calls na nb nc A1 k1 l _ (by omega) (by omega) (by omega) HM2.out hk1 (by first | exact HG.out | exact GW.below HG.out (by repeat (first | exact Below.refl _ _ | exact HB9.out | exact HB8.out | exact HB7.out | exact HB6.out | exact HB5.out | exact HB4.out | exact HB3.out | exact HB2.out | exact HB1.out | exact HB.out | (refine Below.alloc ?_ (by first | exact HB9.out.size | exact HB8.out.size | exact HB7.out.size | exact HB6.out.size | exact HB5.out.size | exact HB4.out.size | exact HB3.out.size | exact HB2.out.size | exact HB1.out.size | exact HB.out.size | (simp; done) | (simp <;> omega)) _) | apply pw_below_drewN | apply below_drew1 | (refine Below.setCell ?_ (by first | (simp; done) | (simp <;> omega) | omega) _)))) (tab_below HT.out (by repeat (first | exact Below.refl _ _ | exact HB9.out | exact HB8.out | exact HB7.out | exact HB6.out | exact HB5.out | exact HB4.out | exact HB3.out | exact HB2.out | exact HB1.out | exact HB.out | (refine Below.alloc ?_ (by first | exact HB9.out.size | exact HB8.out.size | exact HB7.out.size | exact HB6.out.size | exact HB5.out.size | exact HB4.out.size | exact HB3.out.size | exact HB2.out.size | exact HB1.out.size | exact HB.out.size | (simp; done) | (simp <;> omega)) _) | apply pw_below_drewN | apply below_drew1 | (refine Below.setCell ?_ (by first | (simp; done) | (simp <;> omega) | omega) _))))).mono ?_
    rw [hSq]
    rintro e w3 ⟨rfl, hb3⟩
    have ht3 : w.heap.size < w3.heap.size := by have := hb3.size; (try simp at this); omega
    have hu3 : w1.heap.size < w3.heap.size := by have := hb3.size; (try simp at this); omega
    have HM3 := Aside0.mk (Kd.C_below HM2.out hb3)
    have HB3 := Aside0.mk (below_step (w := w) (by repeat (first | exact Below.refl _ _ | exact HB9.out | exact HB8.out | exact HB7.out | exact HB6.out | exact HB5.out | exact HB4.out | exact HB3.out | exact HB2.out | exact HB1.out | exact HB.out | (refine Below.alloc ?_ (by first | exact HB9.out.size | exact HB8.out.size | exact HB7.out.size | exact HB6.out.size | exact HB5.out.size | exact HB4.out.size | exact HB3.out.size | exact HB2.out.size | exact HB1.out.size | exact HB.out.size | (simp; done) | (simp <;> omega)) _) | apply pw_below_drewN | apply below_drew1 | (refine Below.setCell ?_ (by first | (simp; done) | (simp <;> omega) | omega) _))) hb3); obtain ⟨hc3, hf3⟩ := bcell hb3; have hz3 := hb3.size; (try simp at hz3); clear hb3
    have p0_3 : w3.cell? ⟨w.heap.size, 0, none⟩ = some (.int .u32 na) := (hc3 _ _ (by first | omega | (simp; done) | (simp; omega))).trans (by go_simp)
    have p1_3 : w3.cell? ⟨w.heap.size, 1, none⟩ = some (.int .u32 nb) := (hc3 _ _ (by first | omega | (simp; done) | (simp; omega))).trans (by go_simp)
    have p2_3 : w3.cell? ⟨w.heap.size, 2, none⟩ = some (.int .u32 nc) := (hc3 _ _ (by first | omega | (simp; done) | (simp; omega))).trans (by go_simp)
    have p3_3 : w3.cell? ⟨w.heap.size, 3, none⟩ = some (.slice A l.length cA) := (hc3 _ _ (by first | omega | (simp; done) | (simp; omega))).trans (by go_simp)
    have x0_3 : w3.cell? ⟨w1.heap.size, 0, none⟩ = some (.int .u32 na) := (hc3 _ _ (by first | omega | (simp; done) | (simp; omega))).trans (by go_simp)
    have x1_3 : w3.cell? ⟨w1.heap.size, 1, none⟩ = some (.int .u32 nb) := (hc3 _ _ (by first | omega | (simp; done) | (simp; omega))).trans (by go_simp)
    have x2_3 : w3.cell? ⟨w1.heap.size, 2, none⟩ = some (.int .u32 nc) := (hc3 _ _ (by first | omega | (simp; done) | (simp; omega))).trans (by go_simp)
    have x3_3 : w3.cell? ⟨w1.heap.size, 3, none⟩ = some (.slice A1 l.length k1) := (hc3 _ _ (by first | omega | (simp; done) | (simp; omega))).trans (by go_simp)
    clear hc3 hf3
    go_wp2_with (fail)
    refine (rText_calls na nb nc A cA l _ (Kd.C_below HA.out (by repeat (first | exact Below.refl _ _ | exact HB9.out | exact HB8.out | exact HB7.out | exact HB6.out | exact HB5.out | exact HB4.out | exact HB3.out | exact HB2.out | exact HB1.out | exact HB.out | (refine Below.alloc ?_ (by first | exact HB9.out.size | exact HB8.out.size | exact HB7.out.size | exact HB6.out.size | exact HB5.out.size | exact HB4.out.size | exact HB3.out.size | exact HB2.out.size | exact HB1.out.size | exact HB.out.size | (simp; done) | (simp <;> omega)) _) | apply pw_below_drewN | apply below_drew1 | (refine Below.setCell ?_ (by first | (simp; done) | (simp <;> omega) | omega) _)))) hcA hll).mono ?_
    rw [hSq]
    rintro e w4 ⟨rfl, hb4⟩
    have ht4 : w.heap.size < w4.heap.size := by have := hb4.size; (try simp at this); omega
    have hu4 : w1.heap.size < w4.heap.size := by have := hb4.size; (try simp at this); omega
    have HM4 := Aside0.mk (Kd.C_below HM3.out hb4)
    have HB4 := Aside0.mk (below_step (w := w) (by repeat (first | exact Below.refl _ _ | exact HB9.out | exact HB8.out | exact HB7.out | exact HB6.out | exact HB5.out | exact HB4.out | exact HB3.out | exact HB2.out | exact HB1.out | exact HB.out | (refine Below.alloc ?_ (by first | exact HB9.out.size | exact HB8.out.size | exact HB7.out.size | exact HB6.out.size | exact HB5.out.size | exact HB4.out.size | exact HB3.out.size | exact HB2.out.size | exact HB1.out.size | exact HB.out.size | (simp; done) | (simp <;> omega)) _) | apply pw_below_drewN | apply below_drew1 | (refine Below.setCell ?_ (by first | (simp; done) | (simp <;> omega) | omega) _))) hb4); obtain ⟨hc4, hf4⟩ := bcell hb4; have hz4 := hb4.size; (try simp at hz4); clear hb4
    have p0_4 : w4.cell? ⟨w.heap.size, 0, none⟩ = some (.int .u32 na) := (hc4 _ _ (by first | omega | (simp; done) | (simp; omega))).trans (by go_simp)
    have p1_4 : w4.cell? ⟨w.heap.size, 1, none⟩ = some (.int .u32 nb) := (hc4 _ _ (by first | omega | (simp; done) | (simp; omega))).trans (by go_simp)
    have p2_4 : w4.cell? ⟨w.heap.size, 2, none⟩ = some (.int .u32 nc) := (hc4 _ _ (by first | omega | (simp; done) | (simp; omega))).trans (by go_simp)
    have p3_4 : w4.cell? ⟨w.heap.size, 3, none⟩ = some (.slice A l.length cA) := (hc4 _ _ (by first | omega | (simp; done) | (simp; omega))).trans (by go_simp)
    have x0_4 : w4.cell? ⟨w1.heap.size, 0, none⟩ = some (.int .u32 na) := (hc4 _ _ (by first | omega | (simp; done) | (simp; omega))).trans (by go_simp)
    have x1_4 : w4.cell? ⟨w1.heap.size, 1, none⟩ = some (.int .u32 nb) := (hc4 _ _ (by first | omega | (simp; done) | (simp; omega))).trans (by go_simp)
    have x2_4 : w4.cell? ⟨w1.heap.size, 2, none⟩ = some (.int .u32 nc) := (hc4 _ _ (by first | omega | (simp; done) | (simp; omega))).trans (by go_simp)
    have x3_4 : w4.cell? ⟨w1.heap.size, 3, none⟩ = some (.slice A1 l.length k1) := (hc4 _ _ (by first | omega | (simp; done) | (simp; omega))).trans (by go_simp)
    clear hc4 hf4
    go_wp2_with (fail)
    refine (rmay_calls na nb nc A cA l _ (Kd.C_below HA.out (by repeat (first | exact Below.refl _ _ | exact HB9.out | exact HB8.out | exact HB7.out | exact HB6.out | exact HB5.out | exact HB4.out | exact HB3.out | exact HB2.out | exact HB1.out | exact HB.out | (refine Below.alloc ?_ (by first | exact HB9.out.size | exact HB8.out.size | exact HB7.out.size | exact HB6.out.size | exact HB5.out.size | exact HB4.out.size | exact HB3.out.size | exact HB2.out.size | exact HB1.out.size | exact HB.out.size | (simp; done) | (simp <;> omega)) _) | apply pw_below_drewN | apply below_drew1 | (refine Below.setCell ?_ (by first | (simp; done) | (simp <;> omega) | omega) _)))) hcA hll).mono ?_
    rintro e w5 ⟨rfl, hb5⟩
    have ht5 : w.heap.size < w5.heap.size := by have := hb5.size; (try simp at this); omega
    have hu5 : w1.heap.size < w5.heap.size := by have := hb5.size; (try simp at this); omega
    have HM5 := Aside0.mk (Kd.C_below HM4.out hb5)
    have HB5 := Aside0.mk (below_step (w := w) (by repeat (first | exact Below.refl _ _ | exact HB9.out | exact HB8.out | exact HB7.out | exact HB6.out | exact HB5.out | exact HB4.out | exact HB3.out | exact HB2.out | exact HB1.out | exact HB.out | (refine Below.alloc ?_ (by first | exact HB9.out.size | exact HB8.out.size | exact HB7.out.size | exact HB6.out.size | exact HB5.out.size | exact HB4.out.size | exact HB3.out.size | exact HB2.out.size | exact HB1.out.size | exact HB.out.size | (simp; done) | (simp <;> omega)) _) | apply pw_below_drewN | apply below_drew1 | (refine Below.setCell ?_ (by first | (simp; done) | (simp <;> omega) | omega) _))) hb5); obtain ⟨hc5, hf5⟩ := bcell hb5; have hz5 := hb5.size; (try simp at hz5); clear hb5
    have p0_5 : w5.cell? ⟨w.heap.size, 0, none⟩ = some (.int .u32 na) := (hc5 _ _ (by first | omega | (simp; done) | (simp; omega))).trans (by go_simp)
    have p1_5 : w5.cell? ⟨w.heap.size, 1, none⟩ = some (.int .u32 nb) := (hc5 _ _ (by first | omega | (simp; done) | (simp; omega))).trans (by go_simp)
    have p2_5 : w5.cell? ⟨w.heap.size, 2, none⟩ = some (.int .u32 nc) := (hc5 _ _ (by first | omega | (simp; done) | (simp; omega))).trans (by go_simp)
    have p3_5 : w5.cell? ⟨w.heap.size, 3, none⟩ = some (.slice A l.length cA) := (hc5 _ _ (by first | omega | (simp; done) | (simp; omega))).trans (by go_simp)
    have x0_5 : w5.cell? ⟨w1.heap.size, 0, none⟩ = some (.int .u32 na) := (hc5 _ _ (by first | omega | (simp; done) | (simp; omega))).trans (by go_simp)
    have x1_5 : w5.cell? ⟨w1.heap.size, 1, none⟩ = some (.int .u32 nb) := (hc5 _ _ (by first | omega | (simp; done) | (simp; omega))).trans (by go_simp)
    have x2_5 : w5.cell? ⟨w1.heap.size, 2, none⟩ = some (.int .u32 nc) := (hc5 _ _ (by first | omega | (simp; done) | (simp; omega))).trans (by go_simp)
    have x3_5 : w5.cell? ⟨w1.heap.size, 3, none⟩ = some (.slice A1 l.length k1) := (hc5 _ _ (by first | omega | (simp; done) | (simp; omega))).trans (by go_simp)
    clear hc5 hf5
    go_wp2_with (fail)
    refine (rsame_calls na nb nc A1 k1 l na nb nc A cA l _ HM5.out (Kd.C_below HA.out (by repeat (first | exact Below.refl _ _ | exact HB9.out | exact HB8.out | exact HB7.out | exact HB6.out | exact HB5.out | exact HB4.out | exact HB3.out | exact HB2.out | exact HB1.out | exact HB.out | (refine Below.alloc ?_ (by first | exact HB9.out.size | exact HB8.out.size | exact HB7.out.size | exact HB6.out.size | exact HB5.out.size | exact HB4.out.size | exact HB3.out.size | exact HB2.out.size | exact HB1.out.size | exact HB.out.size | (simp; done) | (simp <;> omega)) _) | apply pw_below_drewN | apply below_drew1 | (refine Below.setCell ?_ (by first | (simp; done) | (simp <;> omega) | omega) _)))) hll2).mono ?_
    rw [sameV_self]
    rintro e w6 ⟨rfl, hb6⟩
    have ht6 : w.heap.size < w6.heap.size := by have := hb6.size; (try simp at this); omega
    have hu6 : w1.heap.size < w6.heap.size := by have := hb6.size; (try simp at this); omega
    have HM6 := Aside0.mk (Kd.C_below HM5.out hb6)
    have HB6 := Aside0.mk (below_step (w := w) (by repeat (first | exact Below.refl _ _ | exact HB9.out | exact HB8.out | exact HB7.out | exact HB6.out | exact HB5.out | exact HB4.out | exact HB3.out | exact HB2.out | exact HB1.out | exact HB.out | (refine Below.alloc ?_ (by first | exact HB9.out.size | exact HB8.out.size | exact HB7.out.size | exact HB6.out.size | exact HB5.out.size | exact HB4.out.size | exact HB3.out.size | exact HB2.out.size | exact HB1.out.size | exact HB.out.size | (simp; done) | (simp <;> omega)) _) | apply pw_below_drewN | apply below_drew1 | (refine Below.setCell ?_ (by first | (simp; done) | (simp <;> omega) | omega) _))) hb6); obtain ⟨hc6, hf6⟩ := bcell hb6; have hz6 := hb6.size; (try simp at hz6); clear hb6
    clear hc6 hf6
    clear HM2 HM3 HM4 HM5 HM6
    go_wp2_with (fail)
    refine (read_calls s ra rb rc rl rn _ (by first | exact HG.out | exact GW.below HG.out (by repeat (first | exact Below.refl _ _ | exact HB9.out | exact HB8.out | exact HB7.out | exact HB6.out | exact HB5.out | exact HB4.out | exact HB3.out | exact HB2.out | exact HB1.out | exact HB.out | (refine Below.alloc ?_ (by first | exact HB9.out.size | exact HB8.out.size | exact HB7.out.size | exact HB6.out.size | exact HB5.out.size | exact HB4.out.size | exact HB3.out.size | exact HB2.out.size | exact HB1.out.size | exact HB.out.size | (simp; done) | (simp <;> omega)) _) | apply pw_below_drewN | apply below_drew1 | (refine Below.setCell ?_ (by first | (simp; done) | (simp <;> omega) | omega) _)))) HRd.out).mono ?_
    rintro e w7 ⟨A7, k7, rfl, hk7, hC7, hb7⟩
    have HC7 := Aside0.mk hC7
    clear hC7
    have HB7 := Aside0.mk (below_step (w := w) (by repeat (first | exact Below.refl _ _ | exact HB9.out | exact HB8.out | exact HB7.out | exact HB6.out | exact HB5.out | exact HB4.out | exact HB3.out | exact HB2.out | exact HB1.out | exact HB.out | (refine Below.alloc ?_ (by first | exact HB9.out.size | exact HB8.out.size | exact HB7.out.size | exact HB6.out.size | exact HB5.out.size | exact HB4.out.size | exact HB3.out.size | exact HB2.out.size | exact HB1.out.size | exact HB.out.size | (simp; done) | (simp <;> omega)) _) | apply pw_below_drewN | apply below_drew1 | (refine Below.setCell ?_ (by first | (simp; done) | (simp <;> omega) | omega) _))) hb7); obtain ⟨hc7, hf7⟩ := bcell hb7; have hz7 := hb7.size; (try simp at hz7); clear hb7
    clear hc7 hf7
    go_wp2_with (fail)
    refine (rread_calls s ra rb rc rl rn _ HRd.out).mono ?_
    rintro e w8 ⟨A8, k8, rfl, hk8, hC8, hb8⟩
    have HC8 := Aside0.mk hC8
    clear hC8
    have HD8 := Aside0.mk (Kd.C_below (Kd.C_alloc HC7.out _) hb8)
    have hs8 : w7.heap.size < w8.heap.size := by have := hb8.size; (try simp at this); omega
    have y0 : w8.cell? ⟨w7.heap.size, 0, none⟩ = some (.int .u32 ra) := (hb8.cell (p := ⟨w7.heap.size, 0, none⟩) (by simp)).trans (by go_simp)
    have y1 : w8.cell? ⟨w7.heap.size, 1, none⟩ = some (.int .u32 rb) := (hb8.cell (p := ⟨w7.heap.size, 1, none⟩) (by simp)).trans (by go_simp)
    have y2 : w8.cell? ⟨w7.heap.size, 2, none⟩ = some (.int .u32 rc) := (hb8.cell (p := ⟨w7.heap.size, 2, none⟩) (by simp)).trans (by go_simp)
    have y3 : w8.cell? ⟨w7.heap.size, 3, none⟩ = some (.slice A7 rl.length k7) := (hb8.cell (p := ⟨w7.heap.size, 3, none⟩) (by simp)).trans (by go_simp)
    have HB8 := Aside0.mk (below_step (w := w) (by repeat (first | exact Below.refl _ _ | exact HB9.out | exact HB8.out | exact HB7.out | exact HB6.out | exact HB5.out | exact HB4.out | exact HB3.out | exact HB2.out | exact HB1.out | exact HB.out | (refine Below.alloc ?_ (by first | exact HB9.out.size | exact HB8.out.size | exact HB7.out.size | exact HB6.out.size | exact HB5.out.size | exact HB4.out.size | exact HB3.out.size | exact HB2.out.size | exact HB1.out.size | exact HB.out.size | (simp; done) | (simp <;> omega)) _) | apply pw_below_drewN | apply below_drew1 | (refine Below.setCell ?_ (by first | (simp; done) | (simp <;> omega) | omega) _))) hb8); obtain ⟨hc8, hf8⟩ := bcell hb8; have hz8 := hb8.size; (try simp at hz8); clear hb8
    clear hc8 hf8
    go_wp2_with (fail)
    refine (rsame_calls ra rb rc A7 k7 rl ra rb rc A8 k8 rl _ (Kd.C_alloc HD8.out _) (Kd.C_alloc HC8.out _) hrl).mono ?_
    rw [sameV_self]
    rintro e w9 ⟨rfl, hb9⟩
    have HB9 := Aside0.mk (below_step (w := w) (by repeat (first | exact Below.refl _ _ | exact HB9.out | exact HB8.out | exact HB7.out | exact HB6.out | exact HB5.out | exact HB4.out | exact HB3.out | exact HB2.out | exact HB1.out | exact HB.out | (refine Below.alloc ?_ (by first | exact HB9.out.size | exact HB8.out.size | exact HB7.out.size | exact HB6.out.size | exact HB5.out.size | exact HB4.out.size | exact HB3.out.size | exact HB2.out.size | exact HB1.out.size | exact HB.out.size | (simp; done) | (simp <;> omega)) _) | apply pw_below_drewN | apply below_drew1 | (refine Below.setCell ?_ (by first | (simp; done) | (simp <;> omega) | omega) _))) hb9)
    clear hb9
    go_wp2_with (fail)
    refine (is_calls s _ (by first | exact HG.out | exact GW.below HG.out (by repeat (first | exact Below.refl _ _ | exact HB9.out | exact HB8.out | exact HB7.out | exact HB6.out | exact HB5.out | exact HB4.out | exact HB3.out | exact HB2.out | exact HB1.out | exact HB.out | (refine Below.alloc ?_ (by first | exact HB9.out.size | exact HB8.out.size | exact HB7.out.size | exact HB6.out.size | exact HB5.out.size | exact HB4.out.size | exact HB3.out.size | exact HB2.out.size | exact HB1.out.size | exact HB.out.size | (simp; done) | (simp <;> omega)) _) | apply pw_below_drewN | apply below_drew1 | (refine Below.setCell ?_ (by first | (simp; done) | (simp <;> omega) | omega) _))))).mono ?_
    rintro e w10 ⟨rfl, hb10⟩
    have HB1 := Aside0.mk (below_step (w := w) HB9.out hb10)
    clear hb10
    go_wp2_with (fail)
    refine (ris_calls s _).mono ?_
    rintro e w11 ⟨rfl, hb11⟩
    have HB2 := Aside0.mk (below_step (w := w) HB1.out hb11)
    clear hb11
    go_wp2_with (fail)
    refine (yanklinelaw07_alive.calls true _ (by exact GW.below HG.out HB2.out) rfl).mono ?_
    rintro e w12 ⟨rfl, hb12⟩
    have HB3 := Aside0.mk (below_step (w := w) HB2.out hb12)
    go_wp2
    go_ret
    exact ⟨rfl, HB3.out⟩
  case true =>
    have he1 : e0 = 0 := by rw [he0, hm]; rfl
    subst he1
    clear he0
    go_enter Tryd.func7, Tryd.ntmps7
    go_wp2_with (fail)
    refine (twin_calls na nb nc A cA l _ (Kd.C_alloc HA.out _) hl16).mono ?_
    rintro e w1 ⟨v1, rfl, hR1, hb1⟩
    obtain ⟨A1, k1, rfl, hk1, hC1⟩ := Kd.R_reads hR1
    have HC1 := Aside0.mk hC1
    clear hR1 hC1
    have hs1 : w.heap.size < w1.heap.size := by have := hb1.size; (try simp at this); omega
    have HB1 := Aside0.mk (below_step (w := w) (by repeat (first | exact Below.refl _ _ | exact HB9.out | exact HB8.out | exact HB7.out | exact HB6.out | exact HB5.out | exact HB4.out | exact HB3.out | exact HB2.out | exact HB1.out | exact HB.out | (refine Below.alloc ?_ (by first | exact HB9.out.size | exact HB8.out.size | exact HB7.out.size | exact HB6.out.size | exact HB5.out.size | exact HB4.out.size | exact HB3.out.size | exact HB2.out.size | exact HB1.out.size | exact HB.out.size | (simp; done) | (simp <;> omega)) _) | apply pw_below_drewN | apply below_drew1 | (refine Below.setCell ?_ (by first | (simp; done) | (simp <;> omega) | omega) _))) hb1); obtain ⟨hc1, hf1⟩ := bcell hb1; have hz1 := hb1.size; (try simp at hz1); clear hb1
    have p0_1 : w1.cell? ⟨w.heap.size, 0, none⟩ = some (.int .u32 na) := (hc1 _ _ (by simp)).trans (by go_simp)
    have p1_1 : w1.cell? ⟨w.heap.size, 1, none⟩ = some (.int .u32 nb) := (hc1 _ _ (by simp)).trans (by go_simp)
    have p2_1 : w1.cell? ⟨w.heap.size, 2, none⟩ = some (.int .u32 nc) := (hc1 _ _ (by simp)).trans (by go_simp)
    have p3_1 : w1.cell? ⟨w.heap.size, 3, none⟩ = some (.slice A l.length cA) := (hc1 _ _ (by simp)).trans (by go_simp)
    clear hc1 hf1
    go_wp2_with (fail)
    refine (version_May.calls na nb nc A1 k1 l _ _ (Kd.C_alloc HC1.out _) hk1 (by first | exact HG.out | exact GW.below HG.out (by repeat (first | exact Below.refl _ _ | exact HB9.out | exact HB8.out | exact HB7.out | exact HB6.out | exact HB5.out | exact HB4.out | exact HB3.out | exact HB2.out | exact HB1.out | exact HB.out | (refine Below.alloc ?_ (by first | exact HB9.out.size | exact HB8.out.size | exact HB7.out.size | exact HB6.out.size | exact HB5.out.size | exact HB4.out.size | exact HB3.out.size | exact HB2.out.size | exact HB1.out.size | exact HB.out.size | (simp; done) | (simp <;> omega)) _) | apply pw_below_drewN | apply below_drew1 | (refine Below.setCell ?_ (by first | (simp; done) | (simp <;> omega) | omega) _)))) HE.out).mono ?_
    rintro e w2 ⟨rfl, hb2⟩
    have ht2 : w.heap.size < w2.heap.size := by have := hb2.size; (try simp at this); omega
    have hu2 : w1.heap.size < w2.heap.size := by have := hb2.size; (try simp at this); omega
    have HM2 := Aside0.mk (Kd.C_below (Kd.C_alloc HC1.out _) hb2)
    have HB2 := Aside0.mk (below_step (w := w) (by repeat (first | exact Below.refl _ _ | exact HB9.out | exact HB8.out | exact HB7.out | exact HB6.out | exact HB5.out | exact HB4.out | exact HB3.out | exact HB2.out | exact HB1.out | exact HB.out | (refine Below.alloc ?_ (by first | exact HB9.out.size | exact HB8.out.size | exact HB7.out.size | exact HB6.out.size | exact HB5.out.size | exact HB4.out.size | exact HB3.out.size | exact HB2.out.size | exact HB1.out.size | exact HB.out.size | (simp; done) | (simp <;> omega)) _) | apply pw_below_drewN | apply below_drew1 | (refine Below.setCell ?_ (by first | (simp; done) | (simp <;> omega) | omega) _))) hb2); obtain ⟨hc2, hf2⟩ := bcell hb2; have hz2 := hb2.size; (try simp at hz2); clear hb2
    have p0_2 : w2.cell? ⟨w.heap.size, 0, none⟩ = some (.int .u32 na) := (hc2 _ _ (by first | omega | (simp; done) | (simp; omega))).trans (by go_simp)
    have p1_2 : w2.cell? ⟨w.heap.size, 1, none⟩ = some (.int .u32 nb) := (hc2 _ _ (by first | omega | (simp; done) | (simp; omega))).trans (by go_simp)
    have p2_2 : w2.cell? ⟨w.heap.size, 2, none⟩ = some (.int .u32 nc) := (hc2 _ _ (by first | omega | (simp; done) | (simp; omega))).trans (by go_simp)
    have p3_2 : w2.cell? ⟨w.heap.size, 3, none⟩ = some (.slice A l.length cA) := (hc2 _ _ (by first | omega | (simp; done) | (simp; omega))).trans (by go_simp)
    have x0_2 : w2.cell? ⟨w1.heap.size, 0, none⟩ = some (.int .u32 na) := (hc2 _ _ (by first | omega | (simp; done) | (simp; omega))).trans (by go_simp)
    have x1_2 : w2.cell? ⟨w1.heap.size, 1, none⟩ = some (.int .u32 nb) := (hc2 _ _ (by first | omega | (simp; done) | (simp; omega))).trans (by go_simp)
    have x2_2 : w2.cell? ⟨w1.heap.size, 2, none⟩ = some (.int .u32 nc) := (hc2 _ _ (by first | omega | (simp; done) | (simp; omega))).trans (by go_simp)
    have x3_2 : w2.cell? ⟨w1.heap.size, 3, none⟩ = some (.slice A1 l.length k1) := (hc2 _ _ (by first | omega | (simp; done) | (simp; omega))).trans (by go_simp)
    clear hc2 hf2
    go_wp2_with (fail)
    refine (text_calls na nb nc A1 k1 l _ (by omega) (by omega) (by omega) HM2.out hk1 (by first | exact HG.out | exact GW.below HG.out (by repeat (first | exact Below.refl _ _ | exact HB9.out | exact HB8.out | exact HB7.out | exact HB6.out | exact HB5.out | exact HB4.out | exact HB3.out | exact HB2.out | exact HB1.out | exact HB.out | (refine Below.alloc ?_ (by first | exact HB9.out.size | exact HB8.out.size | exact HB7.out.size | exact HB6.out.size | exact HB5.out.size | exact HB4.out.size | exact HB3.out.size | exact HB2.out.size | exact HB1.out.size | exact HB.out.size | (simp; done) | (simp <;> omega)) _) | apply pw_below_drewN | apply below_drew1 | (refine Below.setCell ?_ (by first | (simp; done) | (simp <;> omega) | omega) _)))) (tab_below HT.out (by repeat (first | exact Below.refl _ _ | exact HB9.out | exact HB8.out | exact HB7.out | exact HB6.out | exact HB5.out | exact HB4.out | exact HB3.out | exact HB2.out | exact HB1.out | exact HB.out | (refine Below.alloc ?_ (by first | exact HB9.out.size | exact HB8.out.size | exact HB7.out.size | exact HB6.out.size | exact HB5.out.size | exact HB4.out.size | exact HB3.out.size | exact HB2.out.size | exact HB1.out.size | exact HB.out.size | (simp; done) | (simp <;> omega)) _) | apply pw_below_drewN | apply below_drew1 | (refine Below.setCell ?_ (by first | (simp; done) | (simp <;> omega) | omega) _))))).mono ?_
    rw [hSq]
    rintro e w3 ⟨rfl, hb3⟩
    have ht3 : w.heap.size < w3.heap.size := by have := hb3.size; (try simp at this); omega
    have hu3 : w1.heap.size < w3.heap.size := by have := hb3.size; (try simp at this); omega
    have HM3 := Aside0.mk (Kd.C_below HM2.out hb3)
    have HB3 := Aside0.mk (below_step (w := w) (by repeat (first | exact Below.refl _ _ | exact HB9.out | exact HB8.out | exact HB7.out | exact HB6.out | exact HB5.out | exact HB4.out | exact HB3.out | exact HB2.out | exact HB1.out | exact HB.out | (refine Below.alloc ?_ (by first | exact HB9.out.size | exact HB8.out.size | exact HB7.out.size | exact HB6.out.size | exact HB5.out.size | exact HB4.out.size | exact HB3.out.size | exact HB2.out.size | exact HB1.out.size | exact HB.out.size | (simp; done) | (simp <;> omega)) _) | apply pw_below_drewN | apply below_drew1 | (refine Below.setCell ?_ (by first | (simp; done) | (simp <;> omega) | omega) _))) hb3); obtain ⟨hc3, hf3⟩ := bcell hb3; have hz3 := hb3.size; (try simp at hz3); clear hb3
    have p0_3 : w3.cell? ⟨w.heap.size, 0, none⟩ = some (.int .u32 na) := (hc3 _ _ (by first | omega | (simp; done) | (simp; omega))).trans (by go_simp)
    have p1_3 : w3.cell? ⟨w.heap.size, 1, none⟩ = some (.int .u32 nb) := (hc3 _ _ (by first | omega | (simp; done) | (simp; omega))).trans (by go_simp)
    have p2_3 : w3.cell? ⟨w.heap.size, 2, none⟩ = some (.int .u32 nc) := (hc3 _ _ (by first | omega | (simp; done) | (simp; omega))).trans (by go_simp)
    have p3_3 : w3.cell? ⟨w.heap.size, 3, none⟩ = some (.slice A l.length cA) := (hc3 _ _ (by first | omega | (simp; done) | (simp; omega))).trans (by go_simp)
    have x0_3 : w3.cell? ⟨w1.heap.size, 0, none⟩ = some (.int .u32 na) := (hc3 _ _ (by first | omega | (simp; done) | (simp; omega))).trans (by go_simp)
    have x1_3 : w3.cell? ⟨w1.heap.size, 1, none⟩ = some (.int .u32 nb) := (hc3 _ _ (by first | omega | (simp; done) | (simp; omega))).trans (by go_simp)
    have x2_3 : w3.cell? ⟨w1.heap.size, 2, none⟩ = some (.int .u32 nc) := (hc3 _ _ (by first | omega | (simp; done) | (simp; omega))).trans (by go_simp)
    have x3_3 : w3.cell? ⟨w1.heap.size, 3, none⟩ = some (.slice A1 l.length k1) := (hc3 _ _ (by first | omega | (simp; done) | (simp; omega))).trans (by go_simp)
    clear hc3 hf3
    go_wp2_with (fail)
    refine (rText_calls na nb nc A cA l _ (Kd.C_below HA.out (by repeat (first | exact Below.refl _ _ | exact HB9.out | exact HB8.out | exact HB7.out | exact HB6.out | exact HB5.out | exact HB4.out | exact HB3.out | exact HB2.out | exact HB1.out | exact HB.out | (refine Below.alloc ?_ (by first | exact HB9.out.size | exact HB8.out.size | exact HB7.out.size | exact HB6.out.size | exact HB5.out.size | exact HB4.out.size | exact HB3.out.size | exact HB2.out.size | exact HB1.out.size | exact HB.out.size | (simp; done) | (simp <;> omega)) _) | apply pw_below_drewN | apply below_drew1 | (refine Below.setCell ?_ (by first | (simp; done) | (simp <;> omega) | omega) _)))) hcA hll).mono ?_
    rw [hSq]
    rintro e w4 ⟨rfl, hb4⟩
    have ht4 : w.heap.size < w4.heap.size := by have := hb4.size; (try simp at this); omega
    have hu4 : w1.heap.size < w4.heap.size := by have := hb4.size; (try simp at this); omega
    have HM4 := Aside0.mk (Kd.C_below HM3.out hb4)
    have HB4 := Aside0.mk (below_step (w := w) (by repeat (first | exact Below.refl _ _ | exact HB9.out | exact HB8.out | exact HB7.out | exact HB6.out | exact HB5.out | exact HB4.out | exact HB3.out | exact HB2.out | exact HB1.out | exact HB.out | (refine Below.alloc ?_ (by first | exact HB9.out.size | exact HB8.out.size | exact HB7.out.size | exact HB6.out.size | exact HB5.out.size | exact HB4.out.size | exact HB3.out.size | exact HB2.out.size | exact HB1.out.size | exact HB.out.size | (simp; done) | (simp <;> omega)) _) | apply pw_below_drewN | apply below_drew1 | (refine Below.setCell ?_ (by first | (simp; done) | (simp <;> omega) | omega) _))) hb4); obtain ⟨hc4, hf4⟩ := bcell hb4; have hz4 := hb4.size; (try simp at hz4); clear hb4
    have p0_4 : w4.cell? ⟨w.heap.size, 0, none⟩ = some (.int .u32 na) := (hc4 _ _ (by first | omega | (simp; done) | (simp; omega))).trans (by go_simp)
    have p1_4 : w4.cell? ⟨w.heap.size, 1, none⟩ = some (.int .u32 nb) := (hc4 _ _ (by first | omega | (simp; done) | (simp; omega))).trans (by go_simp)
    have p2_4 : w4.cell? ⟨w.heap.size, 2, none⟩ = some (.int .u32 nc) := (hc4 _ _ (by first | omega | (simp; done) | (simp; omega))).trans (by go_simp)
    have p3_4 : w4.cell? ⟨w.heap.size, 3, none⟩ = some (.slice A l.length cA) := (hc4 _ _ (by first | omega | (simp; done) | (simp; omega))).trans (by go_simp)
    have x0_4 : w4.cell? ⟨w1.heap.size, 0, none⟩ = some (.int .u32 na) := (hc4 _ _ (by first | omega | (simp; done) | (simp; omega))).trans (by go_simp)
    have x1_4 : w4.cell? ⟨w1.heap.size, 1, none⟩ = some (.int .u32 nb) := (hc4 _ _ (by first | omega | (simp; done) | (simp; omega))).trans (by go_simp)
    have x2_4 : w4.cell? ⟨w1.heap.size, 2, none⟩ = some (.int .u32 nc) := (hc4 _ _ (by first | omega | (simp; done) | (simp; omega))).trans (by go_simp)
    have x3_4 : w4.cell? ⟨w1.heap.size, 3, none⟩ = some (.slice A1 l.length k1) := (hc4 _ _ (by first | omega | (simp; done) | (simp; omega))).trans (by go_simp)
    clear hc4 hf4
    go_wp2_with (fail)
    refine (rmay_calls na nb nc A cA l _ (Kd.C_below HA.out (by repeat (first | exact Below.refl _ _ | exact HB9.out | exact HB8.out | exact HB7.out | exact HB6.out | exact HB5.out | exact HB4.out | exact HB3.out | exact HB2.out | exact HB1.out | exact HB.out | (refine Below.alloc ?_ (by first | exact HB9.out.size | exact HB8.out.size | exact HB7.out.size | exact HB6.out.size | exact HB5.out.size | exact HB4.out.size | exact HB3.out.size | exact HB2.out.size | exact HB1.out.size | exact HB.out.size | (simp; done) | (simp <;> omega)) _) | apply pw_below_drewN | apply below_drew1 | (refine Below.setCell ?_ (by first | (simp; done) | (simp <;> omega) | omega) _)))) hcA hll).mono ?_
    rintro e w5 ⟨rfl, hb5⟩
    have ht5 : w.heap.size < w5.heap.size := by have := hb5.size; (try simp at this); omega
    have hu5 : w1.heap.size < w5.heap.size := by have := hb5.size; (try simp at this); omega
    have HM5 := Aside0.mk (Kd.C_below HM4.out hb5)
    have HB5 := Aside0.mk (below_step (w := w) (by repeat (first | exact Below.refl _ _ | exact HB9.out | exact HB8.out | exact HB7.out | exact HB6.out | exact HB5.out | exact HB4.out | exact HB3.out | exact HB2.out | exact HB1.out | exact HB.out | (refine Below.alloc ?_ (by first | exact HB9.out.size | exact HB8.out.size | exact HB7.out.size | exact HB6.out.size | exact HB5.out.size | exact HB4.out.size | exact HB3.out.size | exact HB2.out.size | exact HB1.out.size | exact HB.out.size | (simp; done) | (simp <;> omega)) _) | apply pw_below_drewN | apply below_drew1 | (refine Below.setCell ?_ (by first | (simp; done) | (simp <;> omega) | omega) _))) hb5); obtain ⟨hc5, hf5⟩ := bcell hb5; have hz5 := hb5.size; (try simp at hz5); clear hb5
    have p0_5 : w5.cell? ⟨w.heap.size, 0, none⟩ = some (.int .u32 na) := (hc5 _ _ (by first | omega | (simp; done) | (simp; omega))).trans (by go_simp)
    have p1_5 : w5.cell? ⟨w.heap.size, 1, none⟩ = some (.int .u32 nb) := (hc5 _ _ (by first | omega | (simp; done) | (simp; omega))).trans (by go_simp)
    have p2_5 : w5.cell? ⟨w.heap.size, 2, none⟩ = some (.int .u32 nc) := (hc5 _ _ (by first | omega | (simp; done) | (simp; omega))).trans (by go_simp)
    have p3_5 : w5.cell? ⟨w.heap.size, 3, none⟩ = some (.slice A l.length cA) := (hc5 _ _ (by first | omega | (simp; done) | (simp; omega))).trans (by go_simp)
    have x0_5 : w5.cell? ⟨w1.heap.size, 0, none⟩ = some (.int .u32 na) := (hc5 _ _ (by first | omega | (simp; done) | (simp; omega))).trans (by go_simp)
    have x1_5 : w5.cell? ⟨w1.heap.size, 1, none⟩ = some (.int .u32 nb) := (hc5 _ _ (by first | omega | (simp; done) | (simp; omega))).trans (by go_simp)
    have x2_5 : w5.cell? ⟨w1.heap.size, 2, none⟩ = some (.int .u32 nc) := (hc5 _ _ (by first | omega | (simp; done) | (simp; omega))).trans (by go_simp)
    have x3_5 : w5.cell? ⟨w1.heap.size, 3, none⟩ = some (.slice A1 l.length k1) := (hc5 _ _ (by first | omega | (simp; done) | (simp; omega))).trans (by go_simp)
    clear hc5 hf5
    go_wp2_with (fail)
    refine (rsame_calls na nb nc A1 k1 l na nb nc A cA l _ HM5.out (Kd.C_below HA.out (by repeat (first | exact Below.refl _ _ | exact HB9.out | exact HB8.out | exact HB7.out | exact HB6.out | exact HB5.out | exact HB4.out | exact HB3.out | exact HB2.out | exact HB1.out | exact HB.out | (refine Below.alloc ?_ (by first | exact HB9.out.size | exact HB8.out.size | exact HB7.out.size | exact HB6.out.size | exact HB5.out.size | exact HB4.out.size | exact HB3.out.size | exact HB2.out.size | exact HB1.out.size | exact HB.out.size | (simp; done) | (simp <;> omega)) _) | apply pw_below_drewN | apply below_drew1 | (refine Below.setCell ?_ (by first | (simp; done) | (simp <;> omega) | omega) _)))) hll2).mono ?_
    rw [sameV_self]
    rintro e w6 ⟨rfl, hb6⟩
    have ht6 : w.heap.size < w6.heap.size := by have := hb6.size; (try simp at this); omega
    have hu6 : w1.heap.size < w6.heap.size := by have := hb6.size; (try simp at this); omega
    have HM6 := Aside0.mk (Kd.C_below HM5.out hb6)
    have HB6 := Aside0.mk (below_step (w := w) (by repeat (first | exact Below.refl _ _ | exact HB9.out | exact HB8.out | exact HB7.out | exact HB6.out | exact HB5.out | exact HB4.out | exact HB3.out | exact HB2.out | exact HB1.out | exact HB.out | (refine Below.alloc ?_ (by first | exact HB9.out.size | exact HB8.out.size | exact HB7.out.size | exact HB6.out.size | exact HB5.out.size | exact HB4.out.size | exact HB3.out.size | exact HB2.out.size | exact HB1.out.size | exact HB.out.size | (simp; done) | (simp <;> omega)) _) | apply pw_below_drewN | apply below_drew1 | (refine Below.setCell ?_ (by first | (simp; done) | (simp <;> omega) | omega) _))) hb6); obtain ⟨hc6, hf6⟩ := bcell hb6; have hz6 := hb6.size; (try simp at hz6); clear hb6
    clear hc6 hf6
    clear HM2 HM3 HM4 HM5 HM6
    go_wp2_with (fail)
    refine (read_calls s ra rb rc rl rn _ (by first | exact HG.out | exact GW.below HG.out (by repeat (first | exact Below.refl _ _ | exact HB9.out | exact HB8.out | exact HB7.out | exact HB6.out | exact HB5.out | exact HB4.out | exact HB3.out | exact HB2.out | exact HB1.out | exact HB.out | (refine Below.alloc ?_ (by first | exact HB9.out.size | exact HB8.out.size | exact HB7.out.size | exact HB6.out.size | exact HB5.out.size | exact HB4.out.size | exact HB3.out.size | exact HB2.out.size | exact HB1.out.size | exact HB.out.size | (simp; done) | (simp <;> omega)) _) | apply pw_below_drewN | apply below_drew1 | (refine Below.setCell ?_ (by first | (simp; done) | (simp <;> omega) | omega) _)))) HRd.out).mono ?_
    rintro e w7 ⟨A7, k7, rfl, hk7, hC7, hb7⟩
    have HC7 := Aside0.mk hC7
    clear hC7
    have HB7 := Aside0.mk (below_step (w := w) (by repeat (first | exact Below.refl _ _ | exact HB9.out | exact HB8.out | exact HB7.out | exact HB6.out | exact HB5.out | exact HB4.out | exact HB3.out | exact HB2.out | exact HB1.out | exact HB.out | (refine Below.alloc ?_ (by first | exact HB9.out.size | exact HB8.out.size | exact HB7.out.size | exact HB6.out.size | exact HB5.out.size | exact HB4.out.size | exact HB3.out.size | exact HB2.out.size | exact HB1.out.size | exact HB.out.size | (simp; done) | (simp <;> omega)) _) | apply pw_below_drewN | apply below_drew1 | (refine Below.setCell ?_ (by first | (simp; done) | (simp <;> omega) | omega) _))) hb7); obtain ⟨hc7, hf7⟩ := bcell hb7; have hz7 := hb7.size; (try simp at hz7); clear hb7
    clear hc7 hf7
    go_wp2_with (fail)
    refine (rread_calls s ra rb rc rl rn _ HRd.out).mono ?_
    rintro e w8 ⟨A8, k8, rfl, hk8, hC8, hb8⟩
    have HC8 := Aside0.mk hC8
    clear hC8
    have HD8 := Aside0.mk (Kd.C_below (Kd.C_alloc HC7.out _) hb8)
    have hs8 : w7.heap.size < w8.heap.size := by have := hb8.size; (try simp at this); omega
    have y0 : w8.cell? ⟨w7.heap.size, 0, none⟩ = some (.int .u32 ra) := (hb8.cell (p := ⟨w7.heap.size, 0, none⟩) (by simp)).trans (by go_simp)
    have y1 : w8.cell? ⟨w7.heap.size, 1, none⟩ = some (.int .u32 rb) := (hb8.cell (p := ⟨w7.heap.size, 1, none⟩) (by simp)).trans (by go_simp)
    have y2 : w8.cell? ⟨w7.heap.size, 2, none⟩ = some (.int .u32 rc) := (hb8.cell (p := ⟨w7.heap.size, 2, none⟩) (by simp)).trans (by go_simp)
    have y3 : w8.cell? ⟨w7.heap.size, 3, none⟩ = some (.slice A7 rl.length k7) := (hb8.cell (p := ⟨w7.heap.size, 3, none⟩) (by simp)).trans (by go_simp)
    have HB8 := Aside0.mk (below_step (w := w) (by repeat (first | exact Below.refl _ _ | exact HB9.out | exact HB8.out | exact HB7.out | exact HB6.out | exact HB5.out | exact HB4.out | exact HB3.out | exact HB2.out | exact HB1.out | exact HB.out | (refine Below.alloc ?_ (by first | exact HB9.out.size | exact HB8.out.size | exact HB7.out.size | exact HB6.out.size | exact HB5.out.size | exact HB4.out.size | exact HB3.out.size | exact HB2.out.size | exact HB1.out.size | exact HB.out.size | (simp; done) | (simp <;> omega)) _) | apply pw_below_drewN | apply below_drew1 | (refine Below.setCell ?_ (by first | (simp; done) | (simp <;> omega) | omega) _))) hb8); obtain ⟨hc8, hf8⟩ := bcell hb8; have hz8 := hb8.size; (try simp at hz8); clear hb8
    clear hc8 hf8
    go_wp2_with (fail)
    refine (rsame_calls ra rb rc A7 k7 rl ra rb rc A8 k8 rl _ (Kd.C_alloc HD8.out _) (Kd.C_alloc HC8.out _) hrl).mono ?_
    rw [sameV_self]
    rintro e w9 ⟨rfl, hb9⟩
    have HB9 := Aside0.mk (below_step (w := w) (by repeat (first | exact Below.refl _ _ | exact HB9.out | exact HB8.out | exact HB7.out | exact HB6.out | exact HB5.out | exact HB4.out | exact HB3.out | exact HB2.out | exact HB1.out | exact HB.out | (refine Below.alloc ?_ (by first | exact HB9.out.size | exact HB8.out.size | exact HB7.out.size | exact HB6.out.size | exact HB5.out.size | exact HB4.out.size | exact HB3.out.size | exact HB2.out.size | exact HB1.out.size | exact HB.out.size | (simp; done) | (simp <;> omega)) _) | apply pw_below_drewN | apply below_drew1 | (refine Below.setCell ?_ (by first | (simp; done) | (simp <;> omega) | omega) _))) hb9)
    clear hb9
    go_wp2_with (fail)
    refine (is_calls s _ (by first | exact HG.out | exact GW.below HG.out (by repeat (first | exact Below.refl _ _ | exact HB9.out | exact HB8.out | exact HB7.out | exact HB6.out | exact HB5.out | exact HB4.out | exact HB3.out | exact HB2.out | exact HB1.out | exact HB.out | (refine Below.alloc ?_ (by first | exact HB9.out.size | exact HB8.out.size | exact HB7.out.size | exact HB6.out.size | exact HB5.out.size | exact HB4.out.size | exact HB3.out.size | exact HB2.out.size | exact HB1.out.size | exact HB.out.size | (simp; done) | (simp <;> omega)) _) | apply pw_below_drewN | apply below_drew1 | (refine Below.setCell ?_ (by first | (simp; done) | (simp <;> omega) | omega) _))))).mono ?_
    rintro e w10 ⟨rfl, hb10⟩
    have HB1 := Aside0.mk (below_step (w := w) HB9.out hb10)
    clear hb10
    go_wp2_with (fail)
    refine (ris_calls s _).mono ?_
    rintro e w11 ⟨rfl, hb11⟩
    have HB2 := Aside0.mk (below_step (w := w) HB1.out hb11)
    clear hb11
    go_wp2_with (fail)
    refine (yanklinelaw07_alive.calls true _ (by exact GW.below HG.out HB2.out) rfl).mono ?_
    rintro e w12 ⟨rfl, hb12⟩
    have HB3 := Aside0.mk (below_step (w := w) HB2.out hb12)
    go_wp2
    go_ret
    exact ⟨rfl, HB3.out⟩
theorem verTexts_walk (a b c : Int) (A : Option Addr) (cA : Nat) (l : List ByteArray) (s : ByteArray) (w : World)
    (ha : 0 ≤ a ∧ a ≤ 4294967295) (hb : 0 ≤ b ∧ b ≤ 4294967295) (hc : 0 ≤ c ∧ c ≤ 4294967295) (hA : Kd.C Kd.string w A l.length l) (hcA : l.length ≤ cA) (hla : l.length * 16 ≤ 140737488351232) (_ : ∀ x ∈ l, x.size ≤ 140737488351232)
    (_ : s.size ≤ 140737488351232) (hG : GW w) (hT : GT w) :
    Calls Tryd.prog 7 #[.agg #[.int .u32 a, .int .u32 b, .int .u32 c, .slice A l.length cA], .string s] w fun e w' => e = .returned (.bool true) ∧ Below w.heap.size w w' := by
  obtain ⟨na, rfl⟩ := Int.eq_ofNat_of_zero_le ha.1
  obtain ⟨nb, rfl⟩ := Int.eq_ofNat_of_zero_le hb.1
  obtain ⟨nc, rfl⟩ := Int.eq_ofNat_of_zero_le hc.1
  exact texts_a na nb nc A cA l s w hA hcA (by omega) hG hT

end Go.Proofs.YtoiibjipjlkaeaaDoor.PV

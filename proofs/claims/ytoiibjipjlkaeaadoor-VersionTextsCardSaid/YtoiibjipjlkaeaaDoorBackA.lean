/- The law VersionBack, walked. -/
import Derived.Test.YtoiibjipjlkaeaaDoorTextA
import Derived.Test.YtoiibjipjlkaeaaDoorAliveA
import Derived.Test.YtoiibjipjlkaeaaDoorOpenV
import Derived.Deep.RegionWith
namespace Go.Proofs.YtoiibjipjlkaeaaDoor.PV
open Go.RowKit Go.Proofs.YtoiibjipjlkaeaaDoorW.PrintWords Go.Proofs.YtoiibjipjlkaeaaDoorW.PrintLast Go.Proofs.YtoiibjipjlkaeaaDoorW.PrintMore
attribute [local go_sem] max2_int min2_int max_two min_two max_three min_three max_four min_four   -- for this text's walks alone
set_option linter.unusedVariables false
set_option linter.unusedSimpArgs false

/-! VersionBack. -/
theorem text_ok {s : ByteArray} {v : Int × Int × Int × List ByteArray} (h : verOf s = some v) : textR v.1 v.2.1 v.2.2.1 v.2.2.2 = (s, 0) := by
  have h1 := text_back h
  have h2 : textB v.1 v.2.1 v.2.2.1 v.2.2.2 = s := by
    apply ba_ext
    unfold textB
    rw [h1]
  obtain ⟨hs, x, y, z, a, b, c, _, _, _, _, rfl, hm⟩ := verOf_some h
  unfold textR
  rw [h2, if_pos ⟨hm, hs⟩]
theorem ver_nonneg {s : ByteArray} {v : Int × Int × Int × List ByteArray} (h : verOf s = some v) : 0 ≤ v.1 ∧ 0 ≤ v.2.1 ∧ 0 ≤ v.2.2.1 ∧ mayV v.1 v.2.1 v.2.2.1 v.2.2.2 = true := by
  obtain ⟨hs, x, y, z, a, b, c, _, h1, h2, h3, rfl, hm⟩ := verOf_some h
  exact ⟨(num_yes h1).2.1, (num_yes h2).2.1, (num_yes h3).2.1, hm⟩
theorem may_mix {a b c a' b' c' : Int} {l l' : List ByteArray} (h : mayV a b c l = true) (h' : mayV a' b' c' l' = true) : mayV a b c l' = true := by
  unfold mayV at *
  simp only [Bool.and_eq_true, decide_eq_true_eq] at h h' ⊢
  exact ⟨⟨h.1.1, h.1.2.1, h.1.2.2.1, h'.1.2.2.2⟩, h'.2⟩
set_option maxHeartbeats 8000000 in
set_option maxRecDepth 100000 in
theorem back_none (s t : ByteArray) (w : World) (hG : GW w) (hs : verOf s = none) :
    Calls Tryd.prog 8 #[.string s, .string t] w fun e w' => e = .returned (.bool true) ∧ Below w.heap.size w w' := by
  have HG := Aside0.mk hG
  clear hG
  go_enter Tryd.func8, Tryd.ntmps8
  go_wp2_with (fail)
  refine (read_calls s _ _ _ _ _ _ HG.out (read_none hs)).mono ?_
  rintro e w1 ⟨A1, k1, rfl, hk1, hC1, hb1⟩
  have HB1 := Aside0.mk (below_step (w := w) (by repeat (first | exact Below.refl _ _ | exact HB9.out | exact HB8.out | exact HB7.out | exact HB6.out | exact HB5.out | exact HB4.out | exact HB3.out | exact HB2.out | exact HB1.out | exact HB.out | (refine Below.alloc ?_ (by first | exact HB9.out.size | exact HB8.out.size | exact HB7.out.size | exact HB6.out.size | exact HB5.out.size | exact HB4.out.size | exact HB3.out.size | exact HB2.out.size | exact HB1.out.size | exact HB.out.size | (simp; done) | (simp <;> omega)) _) | apply pw_below_drewN | apply below_drew1 | (refine Below.setCell ?_ (by first | (simp; done) | (simp <;> omega) | omega) _))) hb1); obtain ⟨hc1, hf1⟩ := bcell hb1; have hz1 := hb1.size; (try simp at hz1); clear hb1
  go_wp2_with (fail)
  refine (is_calls s _ (by first | exact HG.out | exact GW.below HG.out (by repeat (first | exact Below.refl _ _ | exact HB9.out | exact HB8.out | exact HB7.out | exact HB6.out | exact HB5.out | exact HB4.out | exact HB3.out | exact HB2.out | exact HB1.out | exact HB.out | (refine Below.alloc ?_ (by first | exact HB9.out.size | exact HB8.out.size | exact HB7.out.size | exact HB6.out.size | exact HB5.out.size | exact HB4.out.size | exact HB3.out.size | exact HB2.out.size | exact HB1.out.size | exact HB.out.size | (simp; done) | (simp <;> omega)) _) | apply pw_below_drewN | apply below_drew1 | (refine Below.setCell ?_ (by first | (simp; done) | (simp <;> omega) | omega) _))))).mono ?_
  rw [hs]
  rintro e w2 ⟨rfl, hb2⟩
  have HB2 := Aside0.mk (below_step (w := w) (by repeat (first | exact Below.refl _ _ | exact HB9.out | exact HB8.out | exact HB7.out | exact HB6.out | exact HB5.out | exact HB4.out | exact HB3.out | exact HB2.out | exact HB1.out | exact HB.out | (refine Below.alloc ?_ (by first | exact HB9.out.size | exact HB8.out.size | exact HB7.out.size | exact HB6.out.size | exact HB5.out.size | exact HB4.out.size | exact HB3.out.size | exact HB2.out.size | exact HB1.out.size | exact HB.out.size | (simp; done) | (simp <;> omega)) _) | apply pw_below_drewN | apply below_drew1 | (refine Below.setCell ?_ (by first | (simp; done) | (simp <;> omega) | omega) _))) hb2); obtain ⟨hc2, hf2⟩ := bcell hb2; have hz2 := hb2.size; (try simp at hz2); clear hb2
  go_wp2_with (fail)
  refine (yanklinelaw07_alive.calls true _ (by first | exact HG.out | exact GW.below HG.out (by repeat (first | exact Below.refl _ _ | exact HB9.out | exact HB8.out | exact HB7.out | exact HB6.out | exact HB5.out | exact HB4.out | exact HB3.out | exact HB2.out | exact HB1.out | exact HB.out | (refine Below.alloc ?_ (by first | exact HB9.out.size | exact HB8.out.size | exact HB7.out.size | exact HB6.out.size | exact HB5.out.size | exact HB4.out.size | exact HB3.out.size | exact HB2.out.size | exact HB1.out.size | exact HB.out.size | (simp; done) | (simp <;> omega)) _) | apply pw_below_drewN | apply below_drew1 | (refine Below.setCell ?_ (by first | (simp; done) | (simp <;> omega) | omega) _)))) rfl).mono ?_
  rintro e w3 ⟨rfl, hb3⟩
  have HB3 := Aside0.mk (below_step (w := w) (by repeat (first | exact Below.refl _ _ | exact HB9.out | exact HB8.out | exact HB7.out | exact HB6.out | exact HB5.out | exact HB4.out | exact HB3.out | exact HB2.out | exact HB1.out | exact HB.out | (refine Below.alloc ?_ (by first | exact HB9.out.size | exact HB8.out.size | exact HB7.out.size | exact HB6.out.size | exact HB5.out.size | exact HB4.out.size | exact HB3.out.size | exact HB2.out.size | exact HB1.out.size | exact HB.out.size | (simp; done) | (simp <;> omega)) _) | apply pw_below_drewN | apply below_drew1 | (refine Below.setCell ?_ (by first | (simp; done) | (simp <;> omega) | omega) _))) hb3); obtain ⟨hc3, hf3⟩ := bcell hb3; have hz3 := hb3.size; (try simp at hz3); clear hb3
  go_wp2
  go_ret
  exact ⟨rfl, HB3.out⟩
set_option maxHeartbeats 8000000 in
set_option maxRecDepth 100000 in
theorem back_half (s t : ByteArray) (a b c : Int) (l : List ByteArray) (w : World) (hG : GW w) (hT : GT w) (hs : verOf s = some (a, b, c, l)) (ht : verOf t = none) :
    Calls Tryd.prog 8 #[.string s, .string t] w fun e w' => e = .returned (.bool true) ∧ Below w.heap.size w w' := by
  have HG := Aside0.mk hG
  have HT := Aside0.mk hT
  have hn := ver_nonneg hs
  have hr : textR a b c l = (s, 0) := text_ok hs
  have HS := Aside0.mk (read_some hs)
  clear hG hT hs
  go_enter Tryd.func8, Tryd.ntmps8
  go_wp2_with (fail)
  refine (read_calls s a b c l 0 _ HG.out HS.out).mono ?_
  rintro e w1 ⟨A1, k1, rfl, hk1, hC1, hb1⟩
  have HC1 := Aside0.mk hC1
  clear hC1
  have HB1 := Aside0.mk (below_step (w := w) (by repeat (first | exact Below.refl _ _ | exact HB9.out | exact HB8.out | exact HB7.out | exact HB6.out | exact HB5.out | exact HB4.out | exact HB3.out | exact HB2.out | exact HB1.out | exact HB.out | (refine Below.alloc ?_ (by first | exact HB9.out.size | exact HB8.out.size | exact HB7.out.size | exact HB6.out.size | exact HB5.out.size | exact HB4.out.size | exact HB3.out.size | exact HB2.out.size | exact HB1.out.size | exact HB.out.size | (simp; done) | (simp <;> omega)) _) | apply pw_below_drewN | apply below_drew1 | (refine Below.setCell ?_ (by first | (simp; done) | (simp <;> omega) | omega) _))) hb1); obtain ⟨hc1, hf1⟩ := bcell hb1; have hz1 := hb1.size; (try simp at hz1); clear hb1
  go_wp2_with (fail)
  refine (text_calls a b c A1 k1 l _ hn.1 hn.2.1 hn.2.2.1 (Kd.C_alloc HC1.out _) hk1 (by first | exact HG.out | exact GW.below HG.out (by repeat (first | exact Below.refl _ _ | exact HB9.out | exact HB8.out | exact HB7.out | exact HB6.out | exact HB5.out | exact HB4.out | exact HB3.out | exact HB2.out | exact HB1.out | exact HB.out | (refine Below.alloc ?_ (by first | exact HB9.out.size | exact HB8.out.size | exact HB7.out.size | exact HB6.out.size | exact HB5.out.size | exact HB4.out.size | exact HB3.out.size | exact HB2.out.size | exact HB1.out.size | exact HB.out.size | (simp; done) | (simp <;> omega)) _) | apply pw_below_drewN | apply below_drew1 | (refine Below.setCell ?_ (by first | (simp; done) | (simp <;> omega) | omega) _)))) (tab_below HT.out (by repeat (first | exact Below.refl _ _ | exact HB9.out | exact HB8.out | exact HB7.out | exact HB6.out | exact HB5.out | exact HB4.out | exact HB3.out | exact HB2.out | exact HB1.out | exact HB.out | (refine Below.alloc ?_ (by first | exact HB9.out.size | exact HB8.out.size | exact HB7.out.size | exact HB6.out.size | exact HB5.out.size | exact HB4.out.size | exact HB3.out.size | exact HB2.out.size | exact HB1.out.size | exact HB.out.size | (simp; done) | (simp <;> omega)) _) | apply pw_below_drewN | apply below_drew1 | (refine Below.setCell ?_ (by first | (simp; done) | (simp <;> omega) | omega) _))))).mono ?_
  rw [hr]
  rintro e w2 ⟨rfl, hb2⟩
  have hs2 : w1.heap.size < w2.heap.size := by have := hb2.size; (try simp at this); omega
  have HB2 := Aside0.mk (below_step (w := w) (by repeat (first | exact Below.refl _ _ | exact HB9.out | exact HB8.out | exact HB7.out | exact HB6.out | exact HB5.out | exact HB4.out | exact HB3.out | exact HB2.out | exact HB1.out | exact HB.out | (refine Below.alloc ?_ (by first | exact HB9.out.size | exact HB8.out.size | exact HB7.out.size | exact HB6.out.size | exact HB5.out.size | exact HB4.out.size | exact HB3.out.size | exact HB2.out.size | exact HB1.out.size | exact HB.out.size | (simp; done) | (simp <;> omega)) _) | apply pw_below_drewN | apply below_drew1 | (refine Below.setCell ?_ (by first | (simp; done) | (simp <;> omega) | omega) _))) hb2); obtain ⟨hc2, hf2⟩ := bcell hb2; have hz2 := hb2.size; (try simp at hz2); clear hb2
  have hss : (s.toList != s.toList) = false := by simp
  go_wp2_with (fail)
  refine (read_calls t _ _ _ _ _ _ (by first | exact HG.out | exact GW.below HG.out (by repeat (first | exact Below.refl _ _ | exact HB9.out | exact HB8.out | exact HB7.out | exact HB6.out | exact HB5.out | exact HB4.out | exact HB3.out | exact HB2.out | exact HB1.out | exact HB.out | (refine Below.alloc ?_ (by first | exact HB9.out.size | exact HB8.out.size | exact HB7.out.size | exact HB6.out.size | exact HB5.out.size | exact HB4.out.size | exact HB3.out.size | exact HB2.out.size | exact HB1.out.size | exact HB.out.size | (simp; done) | (simp <;> omega)) _) | apply pw_below_drewN | apply below_drew1 | (refine Below.setCell ?_ (by first | (simp; done) | (simp <;> omega) | omega) _)))) (read_none ht)).mono ?_
  rintro e w3 ⟨A3, k3, rfl, hk3, hC3, hb3⟩
  clear hC3
  have HB3 := Aside0.mk (below_step (w := w) (by repeat (first | exact Below.refl _ _ | exact HB9.out | exact HB8.out | exact HB7.out | exact HB6.out | exact HB5.out | exact HB4.out | exact HB3.out | exact HB2.out | exact HB1.out | exact HB.out | (refine Below.alloc ?_ (by first | exact HB9.out.size | exact HB8.out.size | exact HB7.out.size | exact HB6.out.size | exact HB5.out.size | exact HB4.out.size | exact HB3.out.size | exact HB2.out.size | exact HB1.out.size | exact HB.out.size | (simp; done) | (simp <;> omega)) _) | apply pw_below_drewN | apply below_drew1 | (refine Below.setCell ?_ (by first | (simp; done) | (simp <;> omega) | omega) _))) hb3); obtain ⟨hc3, hf3⟩ := bcell hb3; have hz3 := hb3.size; (try simp at hz3); clear hb3
  go_wp2_with (fail)
  refine (yanklinelaw07_alive.calls true _ (by first | exact HG.out | exact GW.below HG.out (by repeat (first | exact Below.refl _ _ | exact HB9.out | exact HB8.out | exact HB7.out | exact HB6.out | exact HB5.out | exact HB4.out | exact HB3.out | exact HB2.out | exact HB1.out | exact HB.out | (refine Below.alloc ?_ (by first | exact HB9.out.size | exact HB8.out.size | exact HB7.out.size | exact HB6.out.size | exact HB5.out.size | exact HB4.out.size | exact HB3.out.size | exact HB2.out.size | exact HB1.out.size | exact HB.out.size | (simp; done) | (simp <;> omega)) _) | apply pw_below_drewN | apply below_drew1 | (refine Below.setCell ?_ (by first | (simp; done) | (simp <;> omega) | omega) _)))) rfl).mono ?_
  rintro e w4 ⟨rfl, hb4⟩
  have HB4 := Aside0.mk (below_step (w := w) (by repeat (first | exact Below.refl _ _ | exact HB9.out | exact HB8.out | exact HB7.out | exact HB6.out | exact HB5.out | exact HB4.out | exact HB3.out | exact HB2.out | exact HB1.out | exact HB.out | (refine Below.alloc ?_ (by first | exact HB9.out.size | exact HB8.out.size | exact HB7.out.size | exact HB6.out.size | exact HB5.out.size | exact HB4.out.size | exact HB3.out.size | exact HB2.out.size | exact HB1.out.size | exact HB.out.size | (simp; done) | (simp <;> omega)) _) | apply pw_below_drewN | apply below_drew1 | (refine Below.setCell ?_ (by first | (simp; done) | (simp <;> omega) | omega) _))) hb4); obtain ⟨hc4, hf4⟩ := bcell hb4; have hz4 := hb4.size; (try simp at hz4); clear hb4
  go_wp2
  go_ret
  exact ⟨rfl, HB4.out⟩
set_option maxHeartbeats 8000000 in
set_option maxRecDepth 100000 in
theorem back_full (s t : ByteArray) (a b c : Int) (l : List ByteArray) (a' b' c' : Int) (m : List ByteArray) (w : World) (hG : GW w) (hT : GT w) (hs : verOf s = some (a, b, c, l)) (ht : verOf t = some (a', b', c', m)) :
    Calls Tryd.prog 8 #[.string s, .string t] w fun e w' => e = .returned (.bool true) ∧ Below w.heap.size w w' := by
  have HG := Aside0.mk hG
  have HT := Aside0.mk hT
  have hn := ver_nonneg hs
  have hn' := ver_nonneg ht
  have hr : textR a b c l = (s, 0) := text_ok hs
  have HS := Aside0.mk (read_some hs)
  have HTT := Aside0.mk (read_some ht)
  have hmz : mayV a b c [zeroB] = true := least_may hn.2.2.2
  have hmm : mayV a b c m = true := may_mix hn.2.2.2 hn'.2.2.2
  have hE : cmpE a b c [zeroB] a b c m = 0 := if_pos ⟨hmz, hmm⟩
  have hR : cmpR a b c [zeroB] a b c m = cmpV a b c [zeroB] a b c m := if_pos ⟨hmz, hmm⟩
  have hle := least_cmp a b c m
  generalize cmpV a b c [zeroB] a b c m = q at hR hle
  clear hG hT hs ht hmz hmm
  go_enter Tryd.func8, Tryd.ntmps8
  go_wp2_with (fail)
  refine (read_calls s a b c l 0 _ HG.out HS.out).mono ?_
  rintro e w1 ⟨A1, k1, rfl, hk1, hC1, hb1⟩
  have HC1 := Aside0.mk hC1
  clear hC1
  have HB1 := Aside0.mk (below_step (w := w) (by repeat (first | exact Below.refl _ _ | exact HB9.out | exact HB8.out | exact HB7.out | exact HB6.out | exact HB5.out | exact HB4.out | exact HB3.out | exact HB2.out | exact HB1.out | exact HB.out | (refine Below.alloc ?_ (by first | exact HB9.out.size | exact HB8.out.size | exact HB7.out.size | exact HB6.out.size | exact HB5.out.size | exact HB4.out.size | exact HB3.out.size | exact HB2.out.size | exact HB1.out.size | exact HB.out.size | (simp; done) | (simp <;> omega)) _) | apply pw_below_drewN | apply below_drew1 | (refine Below.setCell ?_ (by first | (simp; done) | (simp <;> omega) | omega) _))) hb1); obtain ⟨hc1, hf1⟩ := bcell hb1; have hz1 := hb1.size; (try simp at hz1); clear hb1
  go_wp2_with (fail)
  refine (text_calls a b c A1 k1 l _ hn.1 hn.2.1 hn.2.2.1 (Kd.C_alloc HC1.out _) hk1 (by first | exact HG.out | exact GW.below HG.out (by repeat (first | exact Below.refl _ _ | exact HB9.out | exact HB8.out | exact HB7.out | exact HB6.out | exact HB5.out | exact HB4.out | exact HB3.out | exact HB2.out | exact HB1.out | exact HB.out | (refine Below.alloc ?_ (by first | exact HB9.out.size | exact HB8.out.size | exact HB7.out.size | exact HB6.out.size | exact HB5.out.size | exact HB4.out.size | exact HB3.out.size | exact HB2.out.size | exact HB1.out.size | exact HB.out.size | (simp; done) | (simp <;> omega)) _) | apply pw_below_drewN | apply below_drew1 | (refine Below.setCell ?_ (by first | (simp; done) | (simp <;> omega) | omega) _)))) (tab_below HT.out (by repeat (first | exact Below.refl _ _ | exact HB9.out | exact HB8.out | exact HB7.out | exact HB6.out | exact HB5.out | exact HB4.out | exact HB3.out | exact HB2.out | exact HB1.out | exact HB.out | (refine Below.alloc ?_ (by first | exact HB9.out.size | exact HB8.out.size | exact HB7.out.size | exact HB6.out.size | exact HB5.out.size | exact HB4.out.size | exact HB3.out.size | exact HB2.out.size | exact HB1.out.size | exact HB.out.size | (simp; done) | (simp <;> omega)) _) | apply pw_below_drewN | apply below_drew1 | (refine Below.setCell ?_ (by first | (simp; done) | (simp <;> omega) | omega) _))))).mono ?_
  rw [hr]
  rintro e w2 ⟨rfl, hb2⟩
  have HC2 := Aside0.mk (Kd.C_below (Kd.C_alloc HC1.out _) hb2)
  have hs2 : w1.heap.size < w2.heap.size := by have := hb2.size; (try simp at this); omega
  have u0 : w2.cell? ⟨w1.heap.size, 0, none⟩ = some (.int .u32 a) := (hb2.cell (p := ⟨w1.heap.size, 0, none⟩) (by simp)).trans (by go_simp)
  have u1 : w2.cell? ⟨w1.heap.size, 1, none⟩ = some (.int .u32 b) := (hb2.cell (p := ⟨w1.heap.size, 1, none⟩) (by simp)).trans (by go_simp)
  have u2 : w2.cell? ⟨w1.heap.size, 2, none⟩ = some (.int .u32 c) := (hb2.cell (p := ⟨w1.heap.size, 2, none⟩) (by simp)).trans (by go_simp)
  have u3 : w2.cell? ⟨w1.heap.size, 3, none⟩ = some (.slice A1 l.length k1) := (hb2.cell (p := ⟨w1.heap.size, 3, none⟩) (by simp)).trans (by go_simp)
  have HB2 := Aside0.mk (below_step (w := w) (by repeat (first | exact Below.refl _ _ | exact HB9.out | exact HB8.out | exact HB7.out | exact HB6.out | exact HB5.out | exact HB4.out | exact HB3.out | exact HB2.out | exact HB1.out | exact HB.out | (refine Below.alloc ?_ (by first | exact HB9.out.size | exact HB8.out.size | exact HB7.out.size | exact HB6.out.size | exact HB5.out.size | exact HB4.out.size | exact HB3.out.size | exact HB2.out.size | exact HB1.out.size | exact HB.out.size | (simp; done) | (simp <;> omega)) _) | apply pw_below_drewN | apply below_drew1 | (refine Below.setCell ?_ (by first | (simp; done) | (simp <;> omega) | omega) _))) hb2); obtain ⟨hc2, hf2⟩ := bcell hb2; have hz2 := hb2.size; (try simp at hz2); clear hb2
  clear hc2 hf2 hc1 hf1
  have hss : (s.toList != s.toList) = false := by simp
  go_wp2_with (fail)
  refine (read_calls t a' b' c' m 0 _ (by first | exact HG.out | exact GW.below HG.out (by repeat (first | exact Below.refl _ _ | exact HB9.out | exact HB8.out | exact HB7.out | exact HB6.out | exact HB5.out | exact HB4.out | exact HB3.out | exact HB2.out | exact HB1.out | exact HB.out | (refine Below.alloc ?_ (by first | exact HB9.out.size | exact HB8.out.size | exact HB7.out.size | exact HB6.out.size | exact HB5.out.size | exact HB4.out.size | exact HB3.out.size | exact HB2.out.size | exact HB1.out.size | exact HB.out.size | (simp; done) | (simp <;> omega)) _) | apply pw_below_drewN | apply below_drew1 | (refine Below.setCell ?_ (by first | (simp; done) | (simp <;> omega) | omega) _)))) HTT.out).mono ?_
  rintro e w3 ⟨A3, k3, rfl, hk3, hC3, hb3⟩
  have HC2b := Aside0.mk (Kd.C_below HC2.out hb3)
  have HC3 := Aside0.mk hC3
  clear hC3
  have hs3 : w1.heap.size < w3.heap.size := by have := hb3.size; omega
  have v0 : w3.cell? ⟨w1.heap.size, 0, none⟩ = some (.int .u32 a) := (hb3.cell (p := ⟨w1.heap.size, 0, none⟩) hs2).trans u0
  have v1 : w3.cell? ⟨w1.heap.size, 1, none⟩ = some (.int .u32 b) := (hb3.cell (p := ⟨w1.heap.size, 1, none⟩) hs2).trans u1
  have v2 : w3.cell? ⟨w1.heap.size, 2, none⟩ = some (.int .u32 c) := (hb3.cell (p := ⟨w1.heap.size, 2, none⟩) hs2).trans u2
  have v3 : w3.cell? ⟨w1.heap.size, 3, none⟩ = some (.slice A1 l.length k1) := (hb3.cell (p := ⟨w1.heap.size, 3, none⟩) hs2).trans u3
  have HB3 := Aside0.mk (below_step (w := w) (by repeat (first | exact Below.refl _ _ | exact HB9.out | exact HB8.out | exact HB7.out | exact HB6.out | exact HB5.out | exact HB4.out | exact HB3.out | exact HB2.out | exact HB1.out | exact HB.out | (refine Below.alloc ?_ (by first | exact HB9.out.size | exact HB8.out.size | exact HB7.out.size | exact HB6.out.size | exact HB5.out.size | exact HB4.out.size | exact HB3.out.size | exact HB2.out.size | exact HB1.out.size | exact HB.out.size | (simp; done) | (simp <;> omega)) _) | apply pw_below_drewN | apply below_drew1 | (refine Below.setCell ?_ (by first | (simp; done) | (simp <;> omega) | omega) _))) hb3); obtain ⟨hc3, hf3⟩ := bcell hb3; have hz3 := hb3.size; (try simp at hz3); clear hb3
  clear hc3 hf3
  go_upto_region 10 with fail
  go_region
  have BD : Below w3.heap.size w3 ((w3.alloc (.cells #[.int .u32 a, .int .u32 b, .int .u32 c, .slice A3 m.length k3] 32)).drew) := by
    apply below_drew1
    exact (Below.refl _ _).alloc (Nat.le_refl _) _
  have HBD := Aside0.mk BD
  clear BD
  go_wp2_with (fail)
  refine (least_ok a b c A1 k1 l _ (Kd.C_below HC2b.out HBD.out) hk1 (by first | exact HG.out | exact GW.below HG.out (by repeat (first | exact Below.refl _ _ | exact HB9.out | exact HB8.out | exact HB7.out | exact HB6.out | exact HB5.out | exact HB4.out | exact HB3.out | exact HB2.out | exact HB1.out | exact HB.out | (refine Below.alloc ?_ (by first | exact HB9.out.size | exact HB8.out.size | exact HB7.out.size | exact HB6.out.size | exact HB5.out.size | exact HB4.out.size | exact HB3.out.size | exact HB2.out.size | exact HB1.out.size | exact HB.out.size | (simp; done) | (simp <;> omega)) _) | apply pw_below_drewN | apply below_drew1 | (refine Below.setCell ?_ (by first | (simp; done) | (simp <;> omega) | omega) _)))) hn.2.2.2).mono ?_
  rintro e w4 ⟨g, rfl, hg1, hg2, hgc, hgf, hb4⟩
  have HC4 := Aside0.mk (Kd.C_below (Kd.C_below HC3.out HBD.out) hb4)
  have x0 : w4.cell? ⟨w3.heap.size, 0, none⟩ = some (.int .u32 a) := (hb4.cell (p := ⟨w3.heap.size, 0, none⟩) (by simp)).trans (by go_simp)
  have x1 : w4.cell? ⟨w3.heap.size, 1, none⟩ = some (.int .u32 b) := (hb4.cell (p := ⟨w3.heap.size, 1, none⟩) (by simp)).trans (by go_simp)
  have x2 : w4.cell? ⟨w3.heap.size, 2, none⟩ = some (.int .u32 c) := (hb4.cell (p := ⟨w3.heap.size, 2, none⟩) (by simp)).trans (by go_simp)
  have x3 : w4.cell? ⟨w3.heap.size, 3, none⟩ = some (.slice A3 m.length k3) := (hb4.cell (p := ⟨w3.heap.size, 3, none⟩) (by simp)).trans (by go_simp)
  have hs4 : w3.heap.size < w4.heap.size := by have := hb4.size; (try simp at this); omega
  have HGC := Aside0.mk (C_one hgc)
  have HB4 := Aside0.mk (below_step (w := w) (by repeat (first | exact Below.refl _ _ | exact HB9.out | exact HB8.out | exact HB7.out | exact HB6.out | exact HB5.out | exact HB4.out | exact HB3.out | exact HB2.out | exact HB1.out | exact HB.out | (refine Below.alloc ?_ (by first | exact HB9.out.size | exact HB8.out.size | exact HB7.out.size | exact HB6.out.size | exact HB5.out.size | exact HB4.out.size | exact HB3.out.size | exact HB2.out.size | exact HB1.out.size | exact HB.out.size | (simp; done) | (simp <;> omega)) _) | apply pw_below_drewN | apply below_drew1 | (refine Below.setCell ?_ (by first | (simp; done) | (simp <;> omega) | omega) _))) hb4); obtain ⟨hc4, hf4⟩ := bcell hb4; have hz4 := hb4.size; (try simp at hz4); clear hb4
  clear hc4 hf4
  go_wp2_with (fail)
  refine (vCmp_calls a b c (some ⟨g, 0, none⟩) 1 [zeroB] a b c A3 k3 m _ (Kd.C_alloc HGC.out _) (Nat.le_refl _) (Kd.C_alloc HC4.out _) hk3 (by first | exact HG.out | exact GW.below HG.out (by repeat (first | exact Below.refl _ _ | exact HB9.out | exact HB8.out | exact HB7.out | exact HB6.out | exact HB5.out | exact HB4.out | exact HB3.out | exact HB2.out | exact HB1.out | exact HB.out | (refine Below.alloc ?_ (by first | exact HB9.out.size | exact HB8.out.size | exact HB7.out.size | exact HB6.out.size | exact HB5.out.size | exact HB4.out.size | exact HB3.out.size | exact HB2.out.size | exact HB1.out.size | exact HB.out.size | (simp; done) | (simp <;> omega)) _) | apply pw_below_drewN | apply below_drew1 | (refine Below.setCell ?_ (by first | (simp; done) | (simp <;> omega) | omega) _))))).mono ?_
  rw [hE, hR]
  rintro e w5 ⟨rfl, hb5⟩
  have HB5 := Aside0.mk (below_step (w := w) (by repeat (first | exact Below.refl _ _ | exact HB9.out | exact HB8.out | exact HB7.out | exact HB6.out | exact HB5.out | exact HB4.out | exact HB3.out | exact HB2.out | exact HB1.out | exact HB.out | (refine Below.alloc ?_ (by first | exact HB9.out.size | exact HB8.out.size | exact HB7.out.size | exact HB6.out.size | exact HB5.out.size | exact HB4.out.size | exact HB3.out.size | exact HB2.out.size | exact HB1.out.size | exact HB.out.size | (simp; done) | (simp <;> omega)) _) | apply pw_below_drewN | apply below_drew1 | (refine Below.setCell ?_ (by first | (simp; done) | (simp <;> omega) | omega) _))) hb5); obtain ⟨hc5, hf5⟩ := bcell hb5; have hz5 := hb5.size; (try simp at hz5); clear hb5
  go_wp2_with (fail)
  refine (yanklinelaw07_alive.calls true _ (by first | exact HG.out | exact GW.below HG.out (by repeat (first | exact Below.refl _ _ | exact HB9.out | exact HB8.out | exact HB7.out | exact HB6.out | exact HB5.out | exact HB4.out | exact HB3.out | exact HB2.out | exact HB1.out | exact HB.out | (refine Below.alloc ?_ (by first | exact HB9.out.size | exact HB8.out.size | exact HB7.out.size | exact HB6.out.size | exact HB5.out.size | exact HB4.out.size | exact HB3.out.size | exact HB2.out.size | exact HB1.out.size | exact HB.out.size | (simp; done) | (simp <;> omega)) _) | apply pw_below_drewN | apply below_drew1 | (refine Below.setCell ?_ (by first | (simp; done) | (simp <;> omega) | omega) _)))) rfl).mono ?_
  rintro e w6 ⟨rfl, hb6⟩
  have HB6 := Aside0.mk (below_step (w := w) (by repeat (first | exact Below.refl _ _ | exact HB9.out | exact HB8.out | exact HB7.out | exact HB6.out | exact HB5.out | exact HB4.out | exact HB3.out | exact HB2.out | exact HB1.out | exact HB.out | (refine Below.alloc ?_ (by first | exact HB9.out.size | exact HB8.out.size | exact HB7.out.size | exact HB6.out.size | exact HB5.out.size | exact HB4.out.size | exact HB3.out.size | exact HB2.out.size | exact HB1.out.size | exact HB.out.size | (simp; done) | (simp <;> omega)) _) | apply pw_below_drewN | apply below_drew1 | (refine Below.setCell ?_ (by first | (simp; done) | (simp <;> omega) | omega) _))) hb6); obtain ⟨hc6, hf6⟩ := bcell hb6; have hz6 := hb6.size; (try simp at hz6); clear hb6
  go_wp2
  go_ret
  exact ⟨rfl, HB6.out⟩
theorem verBack_walk (s t : ByteArray) (w : World) (_ : s.size ≤ 140737488351232) (_ : t.size ≤ 140737488351232) (hG : GW w) (hT : GT w) :
    Calls Tryd.prog 8 #[.string s, .string t] w fun e w' => e = .returned (.bool true) ∧ Below w.heap.size w w' := by
  cases hs : verOf s with
  | none => exact back_none s t w hG hs
  | some v =>
    obtain ⟨a, b, c, l⟩ := v
    cases ht : verOf t with
    | none => exact back_half s t a b c l w hG hT hs ht
    | some u =>
      obtain ⟨a', b', c', m⟩ := u
      exact back_full s t a b c l a' b' c' m w hG hT hs ht

end Go.Proofs.YtoiibjipjlkaeaaDoor.PV

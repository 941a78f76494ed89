-- written by a program of this claim's session (gprint.py); Lean checks it
import Derived.Test.YtoiibjipjlkaeaaDoorPVx0
import Derived.Test.YtoiibjipjlkaeaaDoorMayA
import Derived.Test.YtoiibjipjlkaeaaDoorCompareA
import Derived.Test.YtoiibjipjlkaeaaDoorOrderA
import Derived.Test.YtoiibjipjlkaeaaDoorAliveA
namespace Go.Proofs.YtoiibjipjlkaeaaDoor.PV
open Go.RowKit Go.Proofs.YtoiibjipjlkaeaaDoorW.PrintWords Go.Proofs.YtoiibjipjlkaeaaDoorW.PrintLast Go.Proofs.YtoiibjipjlkaeaaDoorW.PrintMore
attribute [local go_sem] max2_int min2_int max_two min_two max_three min_three max_four min_four   -- for this text's walks alone
set_option linter.unusedVariables false
set_option linter.unusedSimpArgs false

/-! ### yanklinelaw07_VersionTotal: function 4 -/
def yanklinelaw07_VersionTotal.j0 : Nat → ByteArray → ByteArray → Int → Int → Int → Int → Bool → Option (Bool)
  | 0, _, _, _, _, _, _, _ => none
  | k + 1, x0, x1, x7, x9, x11, x13, x52 => if x52 = true then ((yanklinelaw07_alive.f).bind fun t111 => (some t111)) else (if x7 = (wrap64 (-x9)) then (if ((x7 == 0) == (x0.toList == x1.toList)) = true then (if x7 > 0 then (if x7 ≥ 0 then ((yanklinelaw07_alive.f).bind fun t112 => (some t112)) else (if x11 ≥ 0 then ((yanklinelaw07_alive.f).bind fun t113 => (some t113)) else (if x13 < 0 then ((yanklinelaw07_alive.f).bind fun t114 => (some t114)) else (some false)))) else (if x11 > 0 then (if x7 ≥ 0 then ((yanklinelaw07_alive.f).bind fun t115 => (some t115)) else (if x11 ≥ 0 then ((yanklinelaw07_alive.f).bind fun t116 => (some t116)) else (if x13 < 0 then ((yanklinelaw07_alive.f).bind fun t117 => (some t117)) else (some false)))) else (if x13 ≤ 0 then (if x7 ≥ 0 then ((yanklinelaw07_alive.f).bind fun t118 => (some t118)) else (if x11 ≥ 0 then ((yanklinelaw07_alive.f).bind fun t119 => (some t119)) else (if x13 < 0 then ((yanklinelaw07_alive.f).bind fun t120 => (some t120)) else (some false)))) else (some false)))) else (some false)) else (some false))
def yanklinelaw07_VersionTotal.f (k : Nat) (a0 : ByteArray) (a1 : ByteArray) (a2 : ByteArray) : Option (Bool) := (version_Order.f a0 a1).bind fun bt103 => ((version_Order.f a1 a0).bind fun bt105 => ((version_Order.f a1 a2).bind fun bt107 => ((version_Order.f a0 a2).bind fun bt109 => (if bt103.2 = 0 then (if bt105.2 = 0 then (if bt107.2 = 0 then (yanklinelaw07_VersionTotal.j0 k a0 a1 bt103.1 bt105.1 bt107.1 bt109.1 (bt109.2 != 0)) else (yanklinelaw07_VersionTotal.j0 k a0 a1 bt103.1 bt105.1 bt107.1 bt109.1 true)) else (yanklinelaw07_VersionTotal.j0 k a0 a1 bt103.1 bt105.1 bt107.1 bt109.1 true)) else (yanklinelaw07_VersionTotal.j0 k a0 a1 bt103.1 bt105.1 bt107.1 bt109.1 true)))))
theorem yanklinelaw07_VersionTotal.mono_l : ∀ k, (∀ y0 y1 y2 y3 y4 y5 y6, LeO (yanklinelaw07_VersionTotal.j0 k y0 y1 y2 y3 y4 y5 y6) (yanklinelaw07_VersionTotal.j0 (k + 1) y0 y1 y2 y3 y4 y5 y6))
  | 0 => fun _ _ _ _ _ _ _ r h => by simp [yanklinelaw07_VersionTotal.j0] at h
  | k + 1 => by
    have ih0 := yanklinelaw07_VersionTotal.mono_l k
    · intro y0 y1 y2 y3 y4 y5 y6
      unfold yanklinelaw07_VersionTotal.j0
      repeat' first
      | (with_reducible exact ih0 _ _ _ _ _ _ _)
      | (with_reducible exact LeO.refl _)
      | (with_reducible exact LeO.none _)
      | (with_reducible refine LeO.ite ?_ ?_)
      | (with_reducible refine LeO.bind ?_ (fun _ => ?_))
      | exact ih0 _ _ _ _ _ _ _
      | exact LeO.none _
      | refine LeO.ite ?_ ?_
      | refine LeO.bind ?_ (fun _ => ?_)
theorem yanklinelaw07_VersionTotal.mono : ∀ a0 a1 a2 k, LeO (yanklinelaw07_VersionTotal.f k a0 a1 a2) (yanklinelaw07_VersionTotal.f (k + 1) a0 a1 a2) := by
  intro a0 a1 a2 k
  have ih0 := yanklinelaw07_VersionTotal.mono_l k
  unfold yanklinelaw07_VersionTotal.f
  repeat' first
      | (with_reducible exact ih0 _ _ _ _ _ _ _)
      | (with_reducible exact LeO.refl _)
      | (with_reducible exact LeO.none _)
      | (with_reducible refine LeO.ite ?_ ?_)
      | (with_reducible refine LeO.bind ?_ (fun _ => ?_))
      | exact ih0 _ _ _ _ _ _ _
      | exact LeO.none _
      | refine LeO.ite ?_ ?_
      | refine LeO.bind ?_ (fun _ => ?_)
set_option maxHeartbeats 8000000 in
set_option maxRecDepth 100000 in
theorem yanklinelaw07_VersionTotal.calls (k : Nat) (a0 : ByteArray) (a1 : ByteArray) (a2 : ByteArray) (r : Bool) (w : World) (hG : GW w) (h : yanklinelaw07_VersionTotal.f k a0 a1 a2 = some r) :
    Calls Tryd.prog 4 #[.string a0, .string a1, .string a2] w fun e w' => e = .returned (.bool r) ∧ Below w.heap.size w w' := by
  have HG := Aside0.mk hG
  clear hG
  have HB := Aside0.mk (Below.refl w.heap.size w)
  have H : ((version_Order.f a0 a1).bind fun bt103 => ((version_Order.f a1 a0).bind fun bt105 => ((version_Order.f a1 a2).bind fun bt107 => ((version_Order.f a0 a2).bind fun bt109 => (if bt103.2 = 0 then (if bt105.2 = 0 then (if bt107.2 = 0 then (yanklinelaw07_VersionTotal.j0 k a0 a1 bt103.1 bt105.1 bt107.1 bt109.1 (bt109.2 != 0)) else (yanklinelaw07_VersionTotal.j0 k a0 a1 bt103.1 bt105.1 bt107.1 bt109.1 true)) else (yanklinelaw07_VersionTotal.j0 k a0 a1 bt103.1 bt105.1 bt107.1 bt109.1 true)) else (yanklinelaw07_VersionTotal.j0 k a0 a1 bt103.1 bt105.1 bt107.1 bt109.1 true)))))) = some r := h
  clear h
  replace H := Option.bind_eq_some_iff.mp H
  obtain ⟨⟨t103, t104⟩, A40, H⟩ := H
  replace H : ((version_Order.f a1 a0).bind fun bt105 => ((version_Order.f a1 a2).bind fun bt107 => ((version_Order.f a0 a2).bind fun bt109 => (if t104 = 0 then (if bt105.2 = 0 then (if bt107.2 = 0 then (yanklinelaw07_VersionTotal.j0 k a0 a1 t103 bt105.1 bt107.1 bt109.1 (bt109.2 != 0)) else (yanklinelaw07_VersionTotal.j0 k a0 a1 t103 bt105.1 bt107.1 bt109.1 true)) else (yanklinelaw07_VersionTotal.j0 k a0 a1 t103 bt105.1 bt107.1 bt109.1 true)) else (yanklinelaw07_VersionTotal.j0 k a0 a1 t103 bt105.1 bt107.1 bt109.1 true))))) = some r := H
  have A4 := Aside0.mk A40
  clear A40
  replace H := Option.bind_eq_some_iff.mp H
  obtain ⟨⟨t105, t106⟩, A50, H⟩ := H
  replace H : ((version_Order.f a1 a2).bind fun bt107 => ((version_Order.f a0 a2).bind fun bt109 => (if t104 = 0 then (if t106 = 0 then (if bt107.2 = 0 then (yanklinelaw07_VersionTotal.j0 k a0 a1 t103 t105 bt107.1 bt109.1 (bt109.2 != 0)) else (yanklinelaw07_VersionTotal.j0 k a0 a1 t103 t105 bt107.1 bt109.1 true)) else (yanklinelaw07_VersionTotal.j0 k a0 a1 t103 t105 bt107.1 bt109.1 true)) else (yanklinelaw07_VersionTotal.j0 k a0 a1 t103 t105 bt107.1 bt109.1 true)))) = some r := H
  have A5 := Aside0.mk A50
  clear A50
  replace H := Option.bind_eq_some_iff.mp H
  obtain ⟨⟨t107, t108⟩, A60, H⟩ := H
  replace H : ((version_Order.f a0 a2).bind fun bt109 => (if t104 = 0 then (if t106 = 0 then (if t108 = 0 then (yanklinelaw07_VersionTotal.j0 k a0 a1 t103 t105 t107 bt109.1 (bt109.2 != 0)) else (yanklinelaw07_VersionTotal.j0 k a0 a1 t103 t105 t107 bt109.1 true)) else (yanklinelaw07_VersionTotal.j0 k a0 a1 t103 t105 t107 bt109.1 true)) else (yanklinelaw07_VersionTotal.j0 k a0 a1 t103 t105 t107 bt109.1 true))) = some r := H
  have A6 := Aside0.mk A60
  clear A60
  replace H := Option.bind_eq_some_iff.mp H
  obtain ⟨⟨t109, t110⟩, A70, H⟩ := H
  replace H : (if t104 = 0 then (if t106 = 0 then (if t108 = 0 then (yanklinelaw07_VersionTotal.j0 k a0 a1 t103 t105 t107 t109 (t110 != 0)) else (yanklinelaw07_VersionTotal.j0 k a0 a1 t103 t105 t107 t109 true)) else (yanklinelaw07_VersionTotal.j0 k a0 a1 t103 t105 t107 t109 true)) else (yanklinelaw07_VersionTotal.j0 k a0 a1 t103 t105 t107 t109 true)) = some r := H
  have A7 := Aside0.mk A70
  clear A70
  have HC8 := Aside0.mk H
  clear H
  go_enter Tryd.func4, Tryd.ntmps4
  go_upto_region 5 with (first | ((with_reducible refine gate_callee (f := 12) rfl ?_); refine goesL_ (some 18) rfl rfl Tryd.func12 (by kernel_rfl) rfl #[.string a0, .string a1] rfl (by (try simp only [List.map_toArray, List.map_cons, List.map_nil]); first | done | rfl | (simp only [List.length_drop, List.length_take]; rfl)) ?_; (with_reducible refine (version_Order.calls a0 a1 t103 t104 _ ?side1 A4.out).mono ?_); (case side1 => first | exact HG.out | exact GW.dn HG.out _ | exact GW.below HG.out (by repeat (first | (with_reducible first | exact HB.out | apply below_alloc | apply pw_below_drewN | apply below_drew1 | refine below_set ?_ (Aside0.out (by assumption))) | exact HB.out | exact Below.refl _ _))); rintro e w9 ⟨rfl, hb⟩; refine ⟨_, rfl, ?_⟩; have n0_ := Aside0.mk (below_step (by repeat (first | (with_reducible first | exact HB.out | apply below_alloc | apply pw_below_drewN | apply below_drew1) | exact HB.out)) hb); clear HB; have HB := n0_; clear n0_; (try clear hb); (try clear hb2); (try clear hk); (try clear hi)) | ((with_reducible refine gate_callee (f := 12) rfl ?_); refine goesL_ (some 24) rfl rfl Tryd.func12 (by kernel_rfl) rfl #[.string a1, .string a0] rfl (by (try simp only [List.map_toArray, List.map_cons, List.map_nil]); first | done | rfl | (simp only [List.length_drop, List.length_take]; rfl)) ?_; (with_reducible refine (version_Order.calls a1 a0 t105 t106 _ ?side1 A5.out).mono ?_); (case side1 => first | exact HG.out | exact GW.dn HG.out _ | exact GW.below HG.out (by repeat (first | (with_reducible first | exact HB.out | apply below_alloc | apply pw_below_drewN | apply below_drew1 | refine below_set ?_ (Aside0.out (by assumption))) | exact HB.out | exact Below.refl _ _))); rintro e w10 ⟨rfl, hb⟩; refine ⟨_, rfl, ?_⟩; have n0_ := Aside0.mk (below_step (by repeat (first | (with_reducible first | exact HB.out | apply below_alloc | apply pw_below_drewN | apply below_drew1) | exact HB.out)) hb); clear HB; have HB := n0_; clear n0_; (try clear hb); (try clear hb2); (try clear hk); (try clear hi)) | ((with_reducible refine gate_callee (f := 12) rfl ?_); refine goesL_ (some 30) rfl rfl Tryd.func12 (by kernel_rfl) rfl #[.string a1, .string a2] rfl (by (try simp only [List.map_toArray, List.map_cons, List.map_nil]); first | done | rfl | (simp only [List.length_drop, List.length_take]; rfl)) ?_; (with_reducible refine (version_Order.calls a1 a2 t107 t108 _ ?side1 A6.out).mono ?_); (case side1 => first | exact HG.out | exact GW.dn HG.out _ | exact GW.below HG.out (by repeat (first | (with_reducible first | exact HB.out | apply below_alloc | apply pw_below_drewN | apply below_drew1 | refine below_set ?_ (Aside0.out (by assumption))) | exact HB.out | exact Below.refl _ _))); rintro e w11 ⟨rfl, hb⟩; refine ⟨_, rfl, ?_⟩; have n0_ := Aside0.mk (below_step (by repeat (first | (with_reducible first | exact HB.out | apply below_alloc | apply pw_below_drewN | apply below_drew1) | exact HB.out)) hb); clear HB; have HB := n0_; clear n0_; (try clear hb); (try clear hb2); (try clear hk); (try clear hi)) | ((with_reducible refine gate_callee (f := 12) rfl ?_); refine goesL_ (some 36) rfl rfl Tryd.func12 (by kernel_rfl) rfl #[.string a0, .string a2] rfl (by (try simp only [List.map_toArray, List.map_cons, List.map_nil]); first | done | rfl | (simp only [List.length_drop, List.length_take]; rfl)) ?_; (with_reducible refine (version_Order.calls a0 a2 t109 t110 _ ?side1 A7.out).mono ?_); (case side1 => first | exact HG.out | exact GW.dn HG.out _ | exact GW.below HG.out (by repeat (first | (with_reducible first | exact HB.out | apply below_alloc | apply pw_below_drewN | apply below_drew1 | refine below_set ?_ (Aside0.out (by assumption))) | exact HB.out | exact Below.refl _ _))); rintro e w12 ⟨rfl, hb⟩; refine ⟨_, rfl, ?_⟩; have n0_ := Aside0.mk (below_step (by repeat (first | (with_reducible first | exact HB.out | apply below_alloc | apply pw_below_drewN | apply below_drew1) | exact HB.out)) hb); clear HB; have HB := n0_; clear n0_; (try clear hb); (try clear hb2); (try clear hk); (try clear hi)))
  (try simp only [Act.put, List.setIfInBounds_toArray, List.set_cons_zero, List.set_cons_succ])
  go_cut [52] (fun v52 wc => ∃ (kq : Nat) (x52_7 : Bool), v52 = .bool x52_7 ∧ Aside0 (yanklinelaw07_VersionTotal.j0 kq a0 a1 t103 t105 t107 t109 x52_7 = some r) ∧ Aside0 (kq ≤ k) ∧ Aside0 (Below w.heap.size w wc))
  case first =>
    have H := HC8.out
    clear HC8
    by_cases c13 : t104 = 0
    · rw [if_pos c13] at H
      have c13b0 : (t104 == 0) = true := beq_iff_eq.mpr c13
      have c13b1 : (t104 != 0) = false := bne_eq_false_iff_eq.mpr c13
      clear c13
      (first | rw [c13b0] | (simp only [i64_w, i32_w]; rw [c13b0]) | skip)
      by_cases c14 : t106 = 0
      · rw [if_pos c14] at H
        have c14b0 : (t106 == 0) = true := beq_iff_eq.mpr c14
        have c14b1 : (t106 != 0) = false := bne_eq_false_iff_eq.mpr c14
        clear c14
        by_cases c15 : t108 = 0
        · rw [if_pos c15] at H
          have c15b0 : (t108 == 0) = true := beq_iff_eq.mpr c15
          have c15b1 : (t108 != 0) = false := bne_eq_false_iff_eq.mpr c15
          clear c15
          have H' := Aside0.mk H
          clear H
          go_wp2
          go_meet
          case rel => exact ⟨_, ((t110 != 0)), (by first | rfl | (simp; done) | (simp [*]; done)), H', ⟨by first | omega | exact Nat.le_refl _⟩, ⟨by repeat (first | (with_reducible first | exact HB.out | apply below_alloc | apply pw_below_drewN | apply below_drew1) | exact HB.out)⟩⟩
        · rw [if_neg c15] at H
          have c15b0 : (t108 == 0) = false := beq_eq_false_iff_ne.mpr c15
          have c15b1 : (t108 != 0) = true := bne_iff_ne.mpr c15
          have H' := Aside0.mk H
          clear H
          go_wp2
          go_meet
          case rel => exact ⟨_, (true), (by first | rfl | (simp; done) | (simp [*]; done)), H', ⟨by first | omega | exact Nat.le_refl _⟩, ⟨by repeat (first | (with_reducible first | exact HB.out | apply below_alloc | apply pw_below_drewN | apply below_drew1) | exact HB.out)⟩⟩
      · rw [if_neg c14] at H
        have c14b0 : (t106 == 0) = false := beq_eq_false_iff_ne.mpr c14
        have c14b1 : (t106 != 0) = true := bne_iff_ne.mpr c14
        have H' := Aside0.mk H
        clear H
        go_wp2
        go_meet
        case rel => exact ⟨_, (true), (by first | rfl | (simp; done) | (simp [*]; done)), H', ⟨by first | omega | exact Nat.le_refl _⟩, ⟨by repeat (first | (with_reducible first | exact HB.out | apply below_alloc | apply pw_below_drewN | apply below_drew1) | exact HB.out)⟩⟩
    · rw [if_neg c13] at H
      have c13b0 : (t104 == 0) = false := beq_eq_false_iff_ne.mpr c13
      have c13b1 : (t104 != 0) = true := bne_iff_ne.mpr c13
      (first | rw [c13b0] | (simp only [i64_w, i32_w]; rw [c13b0]) | skip)
      have H' := Aside0.mk H
      clear H
      go_wp2
      go_meet
      case rel => exact ⟨_, (true), (by first | rfl | (simp; done) | (simp [*]; done)), H', ⟨by first | omega | exact Nat.le_refl _⟩, ⟨by repeat (first | (with_reducible first | exact HB.out | apply below_alloc | apply pw_below_drewN | apply below_drew1) | exact HB.out)⟩⟩
  case rest =>
    clear HC8
    try clear c1
    try clear p2
    try clear c4
    try clear c12
    try clear c13
    try clear c13b0
    try clear c13b1
    try clear c14
    try clear c14b0
    try clear c14b1
    try clear c15
    try clear c15b0
    try clear c15b1
    obtain ⟨kq, x52_7, rfl, HA, HJ7, HB⟩ := hcut
    cases kq with
    | zero => exact absurd HA.out (by simp [yanklinelaw07_VersionTotal.j0])
    | succ kj7 =>
      have H := HA.out
      clear HA
      simp only [yanklinelaw07_VersionTotal.j0] at H
      by_cases c16 : x52_7 = true
      · subst c16
        have H1 : ((yanklinelaw07_alive.f).bind fun t111 => (some t111)) = some r := by rw [if_pos rfl] at H; exact H
        clear H
        have H := H1
        clear H1
        replace H := Option.bind_eq_some_iff.mp H
        obtain ⟨t111, A170, H⟩ := H
        replace H : (some t111) = some r := H
        have A17 := Aside0.mk A170
        clear A170
        obtain rfl := Option.some.inj H
        go_wp2_with (first | ((with_reducible refine gate_callee (f := 13) rfl ?_); refine goesL_ (some 53) rfl rfl Tryd.func13 (by kernel_rfl) rfl #[] rfl (by (try simp only [List.map_toArray, List.map_cons, List.map_nil]); first | done | rfl | (simp only [List.length_drop, List.length_take]; rfl)) ?_; (with_reducible refine (yanklinelaw07_alive.calls  t111 _ ?side1 A17.out).mono ?_); (case side1 => first | exact HG.out | exact GW.dn HG.out _ | exact GW.below HG.out (by repeat (first | (with_reducible first | exact HB.out | apply below_alloc | apply pw_below_drewN | apply below_drew1 | refine below_set ?_ (Aside0.out (by assumption))) | exact HB.out | exact Below.refl _ _))); rintro e w18 ⟨rfl, hb⟩; refine ⟨_, rfl, ?_⟩; have n0_ := Aside0.mk (below_step (by repeat (first | (with_reducible first | exact HB.out | apply below_alloc | apply pw_below_drewN | apply below_drew1) | exact HB.out)) hb); clear HB; have HB := n0_; clear n0_; (try clear hb); (try clear hb2); (try clear hk); (try clear hi)))
        go_ret
        exact ⟨by first | rfl | (simp [errW_none, errW_some] <;> rfl) | (simp [*, errW_none, errW_some] <;> rfl), by repeat (first | (with_reducible first | exact HB.out | apply below_alloc | apply pw_below_drewN | apply below_drew1) | exact HB.out)⟩
      · replace c16 := Bool.eq_false_iff.mpr c16
        subst c16
        have H1 : (if t103 = (wrap64 (-t105)) then (if ((t103 == 0) == (a0.toList == a1.toList)) = true then (if t103 > 0 then (if t103 ≥ 0 then ((yanklinelaw07_alive.f).bind fun t112 => (some t112)) else (if t107 ≥ 0 then ((yanklinelaw07_alive.f).bind fun t113 => (some t113)) else (if t109 < 0 then ((yanklinelaw07_alive.f).bind fun t114 => (some t114)) else (some false)))) else (if t107 > 0 then (if t103 ≥ 0 then ((yanklinelaw07_alive.f).bind fun t115 => (some t115)) else (if t107 ≥ 0 then ((yanklinelaw07_alive.f).bind fun t116 => (some t116)) else (if t109 < 0 then ((yanklinelaw07_alive.f).bind fun t117 => (some t117)) else (some false)))) else (if t109 ≤ 0 then (if t103 ≥ 0 then ((yanklinelaw07_alive.f).bind fun t118 => (some t118)) else (if t107 ≥ 0 then ((yanklinelaw07_alive.f).bind fun t119 => (some t119)) else (if t109 < 0 then ((yanklinelaw07_alive.f).bind fun t120 => (some t120)) else (some false)))) else (some false)))) else (some false)) else (some false)) = some r := by rw [if_neg (show ¬ (false = true) by decide)] at H; exact H
        clear H
        have H := H1
        clear H1
        by_cases c19 : t103 = (wrap64 (-t105))
        · rw [if_pos c19] at H
          have c19b0 : (t103 == (wrap64 (-t105))) = true := beq_iff_eq.mpr c19
          have c19b1 : (t103 != (wrap64 (-t105))) = false := bne_eq_false_iff_eq.mpr c19
          clear c19
          by_cases c20 : ((t103 == 0) == (a0.toList == a1.toList)) = true
          · rw [if_pos c20] at H
            have c20b0 : ((t103 == 0) == (a0.toList == a1.toList)) = true := c20
            (try (have c20b1 : decide ((t103 == 0) = (a0.toList == a1.toList)) = true := by simpa using c20))
            (try (have c20b2 : ((t103 == 0) == (a0.toList == a1.toList)) = true := by simpa using c20))
            clear c20
            by_cases c21 : t103 > 0
            · rw [if_pos c21] at H
              have c21b0 : decide (0 < t103) = true := decide_eq_true c21
              clear c21
              by_cases c22 : t103 ≥ 0
              · rw [if_pos c22] at H
                have c22b0 : decide (0 ≤ t103) = true := decide_eq_true c22
                clear c22
                replace H := Option.bind_eq_some_iff.mp H
                obtain ⟨t112, A230, H⟩ := H
                replace H : (some t112) = some r := H
                have A23 := Aside0.mk A230
                clear A230
                obtain rfl := Option.some.inj H
                go_wp2_with (first | (go_at_call 13; (with_reducible refine (yanklinelaw07_alive.calls  t112 _ ?side1 A23.out).mono ?_); (case side1 => first | exact HG.out | exact GW.dn HG.out _ | exact GW.below HG.out (by repeat (first | (with_reducible first | exact HB.out | apply below_alloc | apply pw_below_drewN | apply below_drew1 | refine below_set ?_ (Aside0.out (by assumption))) | exact HB.out | exact Below.refl _ _))); rintro e w24 ⟨rfl, hb⟩; have n0_ := Aside0.mk (below_step (by repeat (first | (with_reducible first | exact HB.out | apply below_alloc | apply pw_below_drewN | apply below_drew1) | exact HB.out)) hb); clear HB; have HB := n0_; clear n0_; (try clear hb); (try clear hb2); (try clear hk); (try clear hi)))
                go_ret
                exact ⟨by first | rfl | (simp [errW_none, errW_some] <;> rfl) | (simp [*, errW_none, errW_some] <;> rfl), by repeat (first | (with_reducible first | exact HB.out | apply below_alloc | apply pw_below_drewN | apply below_drew1) | exact HB.out)⟩
              · rw [if_neg c22] at H
                have c22b0 : decide (0 ≤ t103) = false := decide_eq_false c22
                clear c22
                by_cases c25 : t107 ≥ 0
                · rw [if_pos c25] at H
                  have c25b0 : decide (0 ≤ t107) = true := decide_eq_true c25
                  clear c25
                  replace H := Option.bind_eq_some_iff.mp H
                  obtain ⟨t113, A260, H⟩ := H
                  replace H : (some t113) = some r := H
                  have A26 := Aside0.mk A260
                  clear A260
                  obtain rfl := Option.some.inj H
                  go_wp2_with (first | (go_at_call 13; (with_reducible refine (yanklinelaw07_alive.calls  t113 _ ?side1 A26.out).mono ?_); (case side1 => first | exact HG.out | exact GW.dn HG.out _ | exact GW.below HG.out (by repeat (first | (with_reducible first | exact HB.out | apply below_alloc | apply pw_below_drewN | apply below_drew1 | refine below_set ?_ (Aside0.out (by assumption))) | exact HB.out | exact Below.refl _ _))); rintro e w27 ⟨rfl, hb⟩; have n0_ := Aside0.mk (below_step (by repeat (first | (with_reducible first | exact HB.out | apply below_alloc | apply pw_below_drewN | apply below_drew1) | exact HB.out)) hb); clear HB; have HB := n0_; clear n0_; (try clear hb); (try clear hb2); (try clear hk); (try clear hi)))
                  go_ret
                  exact ⟨by first | rfl | (simp [errW_none, errW_some] <;> rfl) | (simp [*, errW_none, errW_some] <;> rfl), by repeat (first | (with_reducible first | exact HB.out | apply below_alloc | apply pw_below_drewN | apply below_drew1) | exact HB.out)⟩
                · rw [if_neg c25] at H
                  have c25b0 : decide (0 ≤ t107) = false := decide_eq_false c25
                  clear c25
                  by_cases c28 : t109 < 0
                  · rw [if_pos c28] at H
                    have c28b0 : decide (t109 < 0) = true := decide_eq_true c28
                    clear c28
                    replace H := Option.bind_eq_some_iff.mp H
                    obtain ⟨t114, A290, H⟩ := H
                    replace H : (some t114) = some r := H
                    have A29 := Aside0.mk A290
                    clear A290
                    obtain rfl := Option.some.inj H
                    go_wp2_with (first | (go_at_call 13; (with_reducible refine (yanklinelaw07_alive.calls  t114 _ ?side1 A29.out).mono ?_); (case side1 => first | exact HG.out | exact GW.dn HG.out _ | exact GW.below HG.out (by repeat (first | (with_reducible first | exact HB.out | apply below_alloc | apply pw_below_drewN | apply below_drew1 | refine below_set ?_ (Aside0.out (by assumption))) | exact HB.out | exact Below.refl _ _))); rintro e w30 ⟨rfl, hb⟩; have n0_ := Aside0.mk (below_step (by repeat (first | (with_reducible first | exact HB.out | apply below_alloc | apply pw_below_drewN | apply below_drew1) | exact HB.out)) hb); clear HB; have HB := n0_; clear n0_; (try clear hb); (try clear hb2); (try clear hk); (try clear hi)))
                    go_ret
                    exact ⟨by first | rfl | (simp [errW_none, errW_some] <;> rfl) | (simp [*, errW_none, errW_some] <;> rfl), by repeat (first | (with_reducible first | exact HB.out | apply below_alloc | apply pw_below_drewN | apply below_drew1) | exact HB.out)⟩
                  · rw [if_neg c28] at H
                    have c28b0 : decide (t109 < 0) = false := decide_eq_false c28
                    clear c28
                    obtain rfl := Option.some.inj H
                    go_wp2
                    go_ret
                    exact ⟨by first | rfl | (simp [errW_none, errW_some] <;> rfl) | (simp [*, errW_none, errW_some] <;> rfl), by repeat (first | (with_reducible first | exact HB.out | apply below_alloc | apply pw_below_drewN | apply below_drew1) | exact HB.out)⟩
            · rw [if_neg c21] at H
              have c21b0 : decide (0 < t103) = false := decide_eq_false c21
              clear c21
              by_cases c31 : t107 > 0
              · rw [if_pos c31] at H
                have c31b0 : decide (0 < t107) = true := decide_eq_true c31
                clear c31
                by_cases c32 : t103 ≥ 0
                · rw [if_pos c32] at H
                  have c32b0 : decide (0 ≤ t103) = true := decide_eq_true c32
                  clear c32
                  replace H := Option.bind_eq_some_iff.mp H
                  obtain ⟨t115, A330, H⟩ := H
                  replace H : (some t115) = some r := H
                  have A33 := Aside0.mk A330
                  clear A330
                  obtain rfl := Option.some.inj H
                  go_wp2_with (first | (go_at_call 13; (with_reducible refine (yanklinelaw07_alive.calls  t115 _ ?side1 A33.out).mono ?_); (case side1 => first | exact HG.out | exact GW.dn HG.out _ | exact GW.below HG.out (by repeat (first | (with_reducible first | exact HB.out | apply below_alloc | apply pw_below_drewN | apply below_drew1 | refine below_set ?_ (Aside0.out (by assumption))) | exact HB.out | exact Below.refl _ _))); rintro e w34 ⟨rfl, hb⟩; have n0_ := Aside0.mk (below_step (by repeat (first | (with_reducible first | exact HB.out | apply below_alloc | apply pw_below_drewN | apply below_drew1) | exact HB.out)) hb); clear HB; have HB := n0_; clear n0_; (try clear hb); (try clear hb2); (try clear hk); (try clear hi)))
                  go_ret
                  exact ⟨by first | rfl | (simp [errW_none, errW_some] <;> rfl) | (simp [*, errW_none, errW_some] <;> rfl), by repeat (first | (with_reducible first | exact HB.out | apply below_alloc | apply pw_below_drewN | apply below_drew1) | exact HB.out)⟩
                · rw [if_neg c32] at H
                  have c32b0 : decide (0 ≤ t103) = false := decide_eq_false c32
                  clear c32
                  by_cases c35 : t107 ≥ 0
                  · rw [if_pos c35] at H
                    have c35b0 : decide (0 ≤ t107) = true := decide_eq_true c35
                    clear c35
                    replace H := Option.bind_eq_some_iff.mp H
                    obtain ⟨t116, A360, H⟩ := H
                    replace H : (some t116) = some r := H
                    have A36 := Aside0.mk A360
                    clear A360
                    obtain rfl := Option.some.inj H
                    go_wp2_with (first | (go_at_call 13; (with_reducible refine (yanklinelaw07_alive.calls  t116 _ ?side1 A36.out).mono ?_); (case side1 => first | exact HG.out | exact GW.dn HG.out _ | exact GW.below HG.out (by repeat (first | (with_reducible first | exact HB.out | apply below_alloc | apply pw_below_drewN | apply below_drew1 | refine below_set ?_ (Aside0.out (by assumption))) | exact HB.out | exact Below.refl _ _))); rintro e w37 ⟨rfl, hb⟩; have n0_ := Aside0.mk (below_step (by repeat (first | (with_reducible first | exact HB.out | apply below_alloc | apply pw_below_drewN | apply below_drew1) | exact HB.out)) hb); clear HB; have HB := n0_; clear n0_; (try clear hb); (try clear hb2); (try clear hk); (try clear hi)))
                    go_ret
                    exact ⟨by first | rfl | (simp [errW_none, errW_some] <;> rfl) | (simp [*, errW_none, errW_some] <;> rfl), by repeat (first | (with_reducible first | exact HB.out | apply below_alloc | apply pw_below_drewN | apply below_drew1) | exact HB.out)⟩
                  · rw [if_neg c35] at H
                    have c35b0 : decide (0 ≤ t107) = false := decide_eq_false c35
                    clear c35
                    by_cases c38 : t109 < 0
                    · rw [if_pos c38] at H
                      have c38b0 : decide (t109 < 0) = true := decide_eq_true c38
                      clear c38
                      replace H := Option.bind_eq_some_iff.mp H
                      obtain ⟨t117, A390, H⟩ := H
                      replace H : (some t117) = some r := H
                      have A39 := Aside0.mk A390
                      clear A390
                      obtain rfl := Option.some.inj H
                      go_wp2_with (first | (go_at_call 13; (with_reducible refine (yanklinelaw07_alive.calls  t117 _ ?side1 A39.out).mono ?_); (case side1 => first | exact HG.out | exact GW.dn HG.out _ | exact GW.below HG.out (by repeat (first | (with_reducible first | exact HB.out | apply below_alloc | apply pw_below_drewN | apply below_drew1 | refine below_set ?_ (Aside0.out (by assumption))) | exact HB.out | exact Below.refl _ _))); rintro e w40 ⟨rfl, hb⟩; have n0_ := Aside0.mk (below_step (by repeat (first | (with_reducible first | exact HB.out | apply below_alloc | apply pw_below_drewN | apply below_drew1) | exact HB.out)) hb); clear HB; have HB := n0_; clear n0_; (try clear hb); (try clear hb2); (try clear hk); (try clear hi)))
                      go_ret
                      exact ⟨by first | rfl | (simp [errW_none, errW_some] <;> rfl) | (simp [*, errW_none, errW_some] <;> rfl), by repeat (first | (with_reducible first | exact HB.out | apply below_alloc | apply pw_below_drewN | apply below_drew1) | exact HB.out)⟩
                    · rw [if_neg c38] at H
                      have c38b0 : decide (t109 < 0) = false := decide_eq_false c38
                      clear c38
                      obtain rfl := Option.some.inj H
                      go_wp2
                      go_ret
                      exact ⟨by first | rfl | (simp [errW_none, errW_some] <;> rfl) | (simp [*, errW_none, errW_some] <;> rfl), by repeat (first | (with_reducible first | exact HB.out | apply below_alloc | apply pw_below_drewN | apply below_drew1) | exact HB.out)⟩
              · rw [if_neg c31] at H
                have c31b0 : decide (0 < t107) = false := decide_eq_false c31
                clear c31
                by_cases c41 : t109 ≤ 0
                · rw [if_pos c41] at H
                  have c41b0 : decide (t109 ≤ 0) = true := decide_eq_true c41
                  clear c41
                  by_cases c42 : t103 ≥ 0
                  · rw [if_pos c42] at H
                    have c42b0 : decide (0 ≤ t103) = true := decide_eq_true c42
                    clear c42
                    replace H := Option.bind_eq_some_iff.mp H
                    obtain ⟨t118, A430, H⟩ := H
                    replace H : (some t118) = some r := H
                    have A43 := Aside0.mk A430
                    clear A430
                    obtain rfl := Option.some.inj H
                    go_wp2_with (first | (go_at_call 13; (with_reducible refine (yanklinelaw07_alive.calls  t118 _ ?side1 A43.out).mono ?_); (case side1 => first | exact HG.out | exact GW.dn HG.out _ | exact GW.below HG.out (by repeat (first | (with_reducible first | exact HB.out | apply below_alloc | apply pw_below_drewN | apply below_drew1 | refine below_set ?_ (Aside0.out (by assumption))) | exact HB.out | exact Below.refl _ _))); rintro e w44 ⟨rfl, hb⟩; have n0_ := Aside0.mk (below_step (by repeat (first | (with_reducible first | exact HB.out | apply below_alloc | apply pw_below_drewN | apply below_drew1) | exact HB.out)) hb); clear HB; have HB := n0_; clear n0_; (try clear hb); (try clear hb2); (try clear hk); (try clear hi)))
                    go_ret
                    exact ⟨by first | rfl | (simp [errW_none, errW_some] <;> rfl) | (simp [*, errW_none, errW_some] <;> rfl), by repeat (first | (with_reducible first | exact HB.out | apply below_alloc | apply pw_below_drewN | apply below_drew1) | exact HB.out)⟩
                  · rw [if_neg c42] at H
                    have c42b0 : decide (0 ≤ t103) = false := decide_eq_false c42
                    clear c42
                    by_cases c45 : t107 ≥ 0
                    · rw [if_pos c45] at H
                      have c45b0 : decide (0 ≤ t107) = true := decide_eq_true c45
                      clear c45
                      replace H := Option.bind_eq_some_iff.mp H
                      obtain ⟨t119, A460, H⟩ := H
                      replace H : (some t119) = some r := H
                      have A46 := Aside0.mk A460
                      clear A460
                      obtain rfl := Option.some.inj H
                      go_wp2_with (first | (go_at_call 13; (with_reducible refine (yanklinelaw07_alive.calls  t119 _ ?side1 A46.out).mono ?_); (case side1 => first | exact HG.out | exact GW.dn HG.out _ | exact GW.below HG.out (by repeat (first | (with_reducible first | exact HB.out | apply below_alloc | apply pw_below_drewN | apply below_drew1 | refine below_set ?_ (Aside0.out (by assumption))) | exact HB.out | exact Below.refl _ _))); rintro e w47 ⟨rfl, hb⟩; have n0_ := Aside0.mk (below_step (by repeat (first | (with_reducible first | exact HB.out | apply below_alloc | apply pw_below_drewN | apply below_drew1) | exact HB.out)) hb); clear HB; have HB := n0_; clear n0_; (try clear hb); (try clear hb2); (try clear hk); (try clear hi)))
                      go_ret
                      exact ⟨by first | rfl | (simp [errW_none, errW_some] <;> rfl) | (simp [*, errW_none, errW_some] <;> rfl), by repeat (first | (with_reducible first | exact HB.out | apply below_alloc | apply pw_below_drewN | apply below_drew1) | exact HB.out)⟩
                    · rw [if_neg c45] at H
                      have c45b0 : decide (0 ≤ t107) = false := decide_eq_false c45
                      clear c45
                      by_cases c48 : t109 < 0
                      · rw [if_pos c48] at H
                        have c48b0 : decide (t109 < 0) = true := decide_eq_true c48
                        clear c48
                        replace H := Option.bind_eq_some_iff.mp H
                        obtain ⟨t120, A490, H⟩ := H
                        replace H : (some t120) = some r := H
                        have A49 := Aside0.mk A490
                        clear A490
                        obtain rfl := Option.some.inj H
                        go_wp2_with (first | (go_at_call 13; (with_reducible refine (yanklinelaw07_alive.calls  t120 _ ?side1 A49.out).mono ?_); (case side1 => first | exact HG.out | exact GW.dn HG.out _ | exact GW.below HG.out (by repeat (first | (with_reducible first | exact HB.out | apply below_alloc | apply pw_below_drewN | apply below_drew1 | refine below_set ?_ (Aside0.out (by assumption))) | exact HB.out | exact Below.refl _ _))); rintro e w50 ⟨rfl, hb⟩; have n0_ := Aside0.mk (below_step (by repeat (first | (with_reducible first | exact HB.out | apply below_alloc | apply pw_below_drewN | apply below_drew1) | exact HB.out)) hb); clear HB; have HB := n0_; clear n0_; (try clear hb); (try clear hb2); (try clear hk); (try clear hi)))
                        go_ret
                        exact ⟨by first | rfl | (simp [errW_none, errW_some] <;> rfl) | (simp [*, errW_none, errW_some] <;> rfl), by repeat (first | (with_reducible first | exact HB.out | apply below_alloc | apply pw_below_drewN | apply below_drew1) | exact HB.out)⟩
                      · rw [if_neg c48] at H
                        have c48b0 : decide (t109 < 0) = false := decide_eq_false c48
                        clear c48
                        obtain rfl := Option.some.inj H
                        go_wp2
                        go_ret
                        exact ⟨by first | rfl | (simp [errW_none, errW_some] <;> rfl) | (simp [*, errW_none, errW_some] <;> rfl), by repeat (first | (with_reducible first | exact HB.out | apply below_alloc | apply pw_below_drewN | apply below_drew1) | exact HB.out)⟩
                · rw [if_neg c41] at H
                  have c41b0 : decide (t109 ≤ 0) = false := decide_eq_false c41
                  clear c41
                  obtain rfl := Option.some.inj H
                  go_wp2
                  go_ret
                  exact ⟨by first | rfl | (simp [errW_none, errW_some] <;> rfl) | (simp [*, errW_none, errW_some] <;> rfl), by repeat (first | (with_reducible first | exact HB.out | apply below_alloc | apply pw_below_drewN | apply below_drew1) | exact HB.out)⟩
          · rw [if_neg c20] at H
            have c20b0 : ((t103 == 0) == (a0.toList == a1.toList)) = false := by simpa using c20
            (try (have c20b1 : decide ((t103 == 0) = (a0.toList == a1.toList)) = false := by simpa using c20))
            (try (have c20b2 : ((t103 == 0) == (a0.toList == a1.toList)) = false := by simpa using c20))
            (try (have c20b3 : ¬ ((t103 == 0) = (a0.toList == a1.toList)) := by simpa using c20))
            clear c20
            obtain rfl := Option.some.inj H
            go_wp2
            go_ret
            exact ⟨by first | rfl | (simp [errW_none, errW_some] <;> rfl) | (simp [*, errW_none, errW_some] <;> rfl), by repeat (first | (with_reducible first | exact HB.out | apply below_alloc | apply pw_below_drewN | apply below_drew1) | exact HB.out)⟩
        · rw [if_neg c19] at H
          have c19b0 : (t103 == (wrap64 (-t105))) = false := beq_eq_false_iff_ne.mpr c19
          have c19b1 : (t103 != (wrap64 (-t105))) = true := bne_iff_ne.mpr c19
          obtain rfl := Option.some.inj H
          go_wp2
          go_ret
          exact ⟨by first | rfl | (simp [errW_none, errW_some] <;> rfl) | (simp [*, errW_none, errW_some] <;> rfl), by repeat (first | (with_reducible first | exact HB.out | apply below_alloc | apply pw_below_drewN | apply below_drew1) | exact HB.out)⟩

/-- THE ONE PURE STATEMENT of yanklinelaw07_VersionTotal: yours. -/
def yanklinelaw07_VersionTotal.Pure : Prop := ∀ (a0 : ByteArray) (a1 : ByteArray) (a2 : ByteArray), a0.size ≤ 140737488351232 → a1.size ≤ 140737488351232 → a2.size ≤ 140737488351232 → ∃ k, yanklinelaw07_VersionTotal.f k a0 a1 a2 = some true
theorem yanklinelaw07_VersionTotal.walk (P : yanklinelaw07_VersionTotal.Pure) (a0 : ByteArray) (a1 : ByteArray) (a2 : ByteArray) (w : World) (w0 : a0.size ≤ 140737488351232) (w1 : a1.size ≤ 140737488351232) (w2 : a2.size ≤ 140737488351232) (hG : GW w) :
    Calls Tryd.prog 4 #[.string a0, .string a1, .string a2] w fun e w' => e = .returned (.bool true) ∧ Below w.heap.size w w' := by
  obtain ⟨k, h⟩ := P a0 a1 a2 w0 w1 w2
  refine (yanklinelaw07_VersionTotal.calls k a0 a1 a2 true w hG h).mono ?_
  rintro e w' ⟨rfl, hd⟩
  exact ⟨rfl, hd⟩

end Go.Proofs.YtoiibjipjlkaeaaDoor.PV

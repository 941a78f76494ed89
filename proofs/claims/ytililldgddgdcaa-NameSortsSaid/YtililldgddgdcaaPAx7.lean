-- written by a program of this claim's session (gprint.py); Lean checks it
import Derived.Test.YtililldgddgdcaaPAx0
import Derived.Test.YtililldgddgdcaaFormA
import Derived.Test.YtililldgddgdcaaPAx3
import Derived.Test.YtililldgddgdcaaPAx4
import Derived.Test.YtililldgddgdcaaPAx6
namespace Go.Proofs.Ytililldgddgdcaa.PA
open Go.RowKit Go.Proofs.YtililldgddgdcaaW.PrintWords Go.Proofs.YtililldgddgdcaaW.PrintLast Go.Proofs.YtililldgddgdcaaW.PrintMore
attribute [local go_sem] max2_int min2_int max_two min_two max_three min_three max_four min_four   -- for this text's walks alone
set_option linter.unusedVariables false
set_option linter.unusedSimpArgs false

/-! ### yanklinelaw06_NameOnce: function 4 -/
mutual
def yanklinelaw06_NameOnce.j0 : Nat → ByteArray → ByteArray → ByteArray → Bool → Option (Bool)
  | 0, _, _, _, _ => none
  | k + 1, x0, x1, x2, x70 => if x70 = true then (some false) else ((name_Same.f x0 x1).bind fun t180 => ((name_Same.f x1 x0).bind fun t181 => (if (t180 != t181) = true then (yanklinelaw06_NameOnce.j1 k x0 x1 true) else ((name_Like.f x0 x1).bind fun t182 => ((name_Like.f x1 x0).bind fun t183 => (if (t182 != t183) = true then (yanklinelaw06_NameOnce.j1 k x0 x1 true) else ((name_Same.f x0 x1).bind fun t184 => (if t184 = true then ((name_Same.f x1 x2).bind fun t185 => (if t185 = true then ((name_Same.f x0 x2).bind fun t186 => (yanklinelaw06_NameOnce.j1 k x0 x1 (!t186))) else (yanklinelaw06_NameOnce.j1 k x0 x1 false))) else (yanklinelaw06_NameOnce.j1 k x0 x1 false)))))))))
def yanklinelaw06_NameOnce.j1 : Nat → ByteArray → ByteArray → Bool → Option (Bool)
  | 0, _, _, _ => none
  | k + 1, x0, x1, x102 => if x102 = true then (some false) else ((name_Same.f x0 x1).bind fun t187 => (if t187 = true then ((name_Reserved.f k x0).bind fun t188 => ((name_Reserved.f k x1).bind fun t189 => (yanklinelaw06_NameOnce.j2 k x0 x1 (t188 != t189)))) else ((name_Like.f x0 x1).bind fun t190 => (if t190 = true then ((name_Reserved.f k x0).bind fun t191 => ((name_Reserved.f k x1).bind fun t192 => (yanklinelaw06_NameOnce.j2 k x0 x1 (t191 != t192)))) else (yanklinelaw06_NameOnce.j2 k x0 x1 false)))))
def yanklinelaw06_NameOnce.j2 : Nat → ByteArray → ByteArray → Bool → Option (Bool)
  | 0, _, _, _ => none
  | k + 1, x0, x1, x117 => if x117 = true then (some false) else ((name_Same.f x0 x1).bind fun t193 => (if t193 = true then ((name_Like.f x0 x1).bind fun t194 => (if t194 = true then (some false) else ((yanklinelaw06_alive.f k).bind fun t195 => (some t195)))) else ((yanklinelaw06_alive.f k).bind fun t196 => (some t196))))
end
def yanklinelaw06_NameOnce.f (k : Nat) (a0 : ByteArray) (a1 : ByteArray) (a2 : ByteArray) : Option (Bool) := (name_Norm.f a0).bind fun bt167 => (if bt167.2 = 0 then ((name_Norm.f bt167.1).bind fun bt173 => (if bt173.2 = 0 then (if bt173.1.toList = bt167.1.toList then ((name_Is.f bt167.1).bind fun t175 => (if t175 = true then ((name_Same.f a0 bt167.1).bind fun t176 => (if t176 = true then ((name_Like.f a0 a0).bind fun t177 => (if t177 = true then (yanklinelaw06_NameOnce.j0 k a0 a1 a2 true) else ((name_Reserved.f k a0).bind fun t178 => ((name_Reserved.f k bt167.1).bind fun t179 => (yanklinelaw06_NameOnce.j0 k a0 a1 a2 (t178 != t179)))))) else (yanklinelaw06_NameOnce.j0 k a0 a1 a2 true))) else (yanklinelaw06_NameOnce.j0 k a0 a1 a2 true))) else (yanklinelaw06_NameOnce.j0 k a0 a1 a2 true)) else (yanklinelaw06_NameOnce.j0 k a0 a1 a2 true))) else ((name_Same.f a0 a0).bind fun t169 => (if t169 = true then (some false) else ((name_Like.f a0 a1).bind fun t170 => (if t170 = true then (some false) else ((name_Reserved.f k a0).bind fun t171 => (if t171 = true then (some false) else ((yanklinelaw06_alive.f k).bind fun t172 => (some t172)))))))))
theorem yanklinelaw06_NameOnce.mono_l : ∀ k, (∀ y0 y1 y2 y3, LeO (yanklinelaw06_NameOnce.j0 k y0 y1 y2 y3) (yanklinelaw06_NameOnce.j0 (k + 1) y0 y1 y2 y3)) ∧ (∀ y0 y1 y2, LeO (yanklinelaw06_NameOnce.j1 k y0 y1 y2) (yanklinelaw06_NameOnce.j1 (k + 1) y0 y1 y2)) ∧ (∀ y0 y1 y2, LeO (yanklinelaw06_NameOnce.j2 k y0 y1 y2) (yanklinelaw06_NameOnce.j2 (k + 1) y0 y1 y2))
  | 0 => ⟨fun _ _ _ _ r h => by simp [yanklinelaw06_NameOnce.j0] at h, fun _ _ _ r h => by simp [yanklinelaw06_NameOnce.j1] at h, fun _ _ _ r h => by simp [yanklinelaw06_NameOnce.j2] at h⟩
  | k + 1 => by
    obtain ⟨ih0, ih1, ih2⟩ := yanklinelaw06_NameOnce.mono_l k
    refine ⟨?_, ?_, ?_⟩
    · intro y0 y1 y2 y3
      unfold yanklinelaw06_NameOnce.j0
      repeat' first
      | (with_reducible exact ih0 _ _ _ _)
      | (with_reducible exact ih1 _ _ _)
      | (with_reducible exact ih2 _ _ _)
      | (with_reducible exact name_Reserved.mono _ _)
      | (with_reducible exact yanklinelaw06_alive.mono _)
      | (with_reducible exact LeO.refl _)
      | (with_reducible exact LeO.none _)
      | (with_reducible refine LeO.ite ?_ ?_)
      | (with_reducible refine LeO.bind ?_ (fun _ => ?_))
      | exact ih0 _ _ _ _
      | exact ih1 _ _ _
      | exact ih2 _ _ _
      | exact name_Reserved.mono _ _
      | exact yanklinelaw06_alive.mono _
      | exact LeO.none _
      | refine LeO.ite ?_ ?_
      | refine LeO.bind ?_ (fun _ => ?_)
    · intro y0 y1 y2
      unfold yanklinelaw06_NameOnce.j1
      repeat' first
      | (with_reducible exact ih0 _ _ _ _)
      | (with_reducible exact ih1 _ _ _)
      | (with_reducible exact ih2 _ _ _)
      | (with_reducible exact name_Reserved.mono _ _)
      | (with_reducible exact yanklinelaw06_alive.mono _)
      | (with_reducible exact LeO.refl _)
      | (with_reducible exact LeO.none _)
      | (with_reducible refine LeO.ite ?_ ?_)
      | (with_reducible refine LeO.bind ?_ (fun _ => ?_))
      | exact ih0 _ _ _ _
      | exact ih1 _ _ _
      | exact ih2 _ _ _
      | exact name_Reserved.mono _ _
      | exact yanklinelaw06_alive.mono _
      | exact LeO.none _
      | refine LeO.ite ?_ ?_
      | refine LeO.bind ?_ (fun _ => ?_)
    · intro y0 y1 y2
      unfold yanklinelaw06_NameOnce.j2
      repeat' first
      | (with_reducible exact ih0 _ _ _ _)
      | (with_reducible exact ih1 _ _ _)
      | (with_reducible exact ih2 _ _ _)
      | (with_reducible exact name_Reserved.mono _ _)
      | (with_reducible exact yanklinelaw06_alive.mono _)
      | (with_reducible exact LeO.refl _)
      | (with_reducible exact LeO.none _)
      | (with_reducible refine LeO.ite ?_ ?_)
      | (with_reducible refine LeO.bind ?_ (fun _ => ?_))
      | exact ih0 _ _ _ _
      | exact ih1 _ _ _
      | exact ih2 _ _ _
      | exact name_Reserved.mono _ _
      | exact yanklinelaw06_alive.mono _
      | exact LeO.none _
      | refine LeO.ite ?_ ?_
      | refine LeO.bind ?_ (fun _ => ?_)
theorem yanklinelaw06_NameOnce.mono : ∀ a0 a1 a2 k, LeO (yanklinelaw06_NameOnce.f k a0 a1 a2) (yanklinelaw06_NameOnce.f (k + 1) a0 a1 a2) := by
  intro a0 a1 a2 k
  obtain ⟨ih0, ih1, ih2⟩ := yanklinelaw06_NameOnce.mono_l k
  unfold yanklinelaw06_NameOnce.f
  repeat' first
      | (with_reducible exact ih0 _ _ _ _)
      | (with_reducible exact ih1 _ _ _)
      | (with_reducible exact ih2 _ _ _)
      | (with_reducible exact name_Reserved.mono _ _)
      | (with_reducible exact yanklinelaw06_alive.mono _)
      | (with_reducible exact LeO.refl _)
      | (with_reducible exact LeO.none _)
      | (with_reducible refine LeO.ite ?_ ?_)
      | (with_reducible refine LeO.bind ?_ (fun _ => ?_))
      | exact ih0 _ _ _ _
      | exact ih1 _ _ _
      | exact ih2 _ _ _
      | exact name_Reserved.mono _ _
      | exact yanklinelaw06_alive.mono _
      | exact LeO.none _
      | refine LeO.ite ?_ ?_
      | refine LeO.bind ?_ (fun _ => ?_)
set_option maxHeartbeats 8000000 in
set_option maxRecDepth 100000 in
theorem yanklinelaw06_NameOnce.calls (k : Nat) (a0 : ByteArray) (a1 : ByteArray) (a2 : ByteArray) (r : Bool) (w : World) (h : yanklinelaw06_NameOnce.f k a0 a1 a2 = some r) :
    Calls Try.prog 4 #[.string a0, .string a1, .string a2] w fun e w' => e = .returned (.bool r) ∧ Below w.heap.size w w' := by
  have HB := Aside0.mk (Below.refl w.heap.size w)
  have H : ((name_Norm.f a0).bind fun bt167 => (if bt167.2 = 0 then ((name_Norm.f bt167.1).bind fun bt173 => (if bt173.2 = 0 then (if bt173.1.toList = bt167.1.toList then ((name_Is.f bt167.1).bind fun t175 => (if t175 = true then ((name_Same.f a0 bt167.1).bind fun t176 => (if t176 = true then ((name_Like.f a0 a0).bind fun t177 => (if t177 = true then (yanklinelaw06_NameOnce.j0 k a0 a1 a2 true) else ((name_Reserved.f k a0).bind fun t178 => ((name_Reserved.f k bt167.1).bind fun t179 => (yanklinelaw06_NameOnce.j0 k a0 a1 a2 (t178 != t179)))))) else (yanklinelaw06_NameOnce.j0 k a0 a1 a2 true))) else (yanklinelaw06_NameOnce.j0 k a0 a1 a2 true))) else (yanklinelaw06_NameOnce.j0 k a0 a1 a2 true)) else (yanklinelaw06_NameOnce.j0 k a0 a1 a2 true))) else ((name_Same.f a0 a0).bind fun t169 => (if t169 = true then (some false) else ((name_Like.f a0 a1).bind fun t170 => (if t170 = true then (some false) else ((name_Reserved.f k a0).bind fun t171 => (if t171 = true then (some false) else ((yanklinelaw06_alive.f k).bind fun t172 => (some t172)))))))))) = some r := h
  clear h
  replace H := Option.bind_eq_some_iff.mp H
  obtain ⟨⟨t167, t168⟩, A40, H⟩ := H
  replace H : (if t168 = 0 then ((name_Norm.f t167).bind fun bt173 => (if bt173.2 = 0 then (if bt173.1.toList = t167.toList then ((name_Is.f t167).bind fun t175 => (if t175 = true then ((name_Same.f a0 t167).bind fun t176 => (if t176 = true then ((name_Like.f a0 a0).bind fun t177 => (if t177 = true then (yanklinelaw06_NameOnce.j0 k a0 a1 a2 true) else ((name_Reserved.f k a0).bind fun t178 => ((name_Reserved.f k t167).bind fun t179 => (yanklinelaw06_NameOnce.j0 k a0 a1 a2 (t178 != t179)))))) else (yanklinelaw06_NameOnce.j0 k a0 a1 a2 true))) else (yanklinelaw06_NameOnce.j0 k a0 a1 a2 true))) else (yanklinelaw06_NameOnce.j0 k a0 a1 a2 true)) else (yanklinelaw06_NameOnce.j0 k a0 a1 a2 true))) else ((name_Same.f a0 a0).bind fun t169 => (if t169 = true then (some false) else ((name_Like.f a0 a1).bind fun t170 => (if t170 = true then (some false) else ((name_Reserved.f k a0).bind fun t171 => (if t171 = true then (some false) else ((yanklinelaw06_alive.f k).bind fun t172 => (some t172))))))))) = some r := H
  have A4 := Aside0.mk A40
  clear A40
  by_cases c5 : t168 = 0
  · rw [if_pos c5] at H
    have c5b0 : (t168 == 0) = true := beq_iff_eq.mpr c5
    have c5b1 : (t168 != 0) = false := bne_eq_false_iff_eq.mpr c5
    clear c5
    replace H := Option.bind_eq_some_iff.mp H
    obtain ⟨⟨t173, t174⟩, A60, H⟩ := H
    replace H : (if t174 = 0 then (if t173.toList = t167.toList then ((name_Is.f t167).bind fun t175 => (if t175 = true then ((name_Same.f a0 t167).bind fun t176 => (if t176 = true then ((name_Like.f a0 a0).bind fun t177 => (if t177 = true then (yanklinelaw06_NameOnce.j0 k a0 a1 a2 true) else ((name_Reserved.f k a0).bind fun t178 => ((name_Reserved.f k t167).bind fun t179 => (yanklinelaw06_NameOnce.j0 k a0 a1 a2 (t178 != t179)))))) else (yanklinelaw06_NameOnce.j0 k a0 a1 a2 true))) else (yanklinelaw06_NameOnce.j0 k a0 a1 a2 true))) else (yanklinelaw06_NameOnce.j0 k a0 a1 a2 true)) else (yanklinelaw06_NameOnce.j0 k a0 a1 a2 true)) = some r := H
    have A6 := Aside0.mk A60
    clear A60
    have HC7 := Aside0.mk H
    clear H
    go_enter Try.func4, Try.ntmps4
    go_upto_region 5 with (first | ((with_reducible refine gate_callee (f := 12) rfl ?_); refine goesL_ (some 13) rfl rfl Try.func12 (by kernel_rfl) rfl #[.string a0] rfl (by (try simp only [List.map_toArray, List.map_cons, List.map_nil]); first | done | rfl | (simp only [List.length_drop, List.length_take]; rfl)) ?_; (with_reducible refine (name_Norm.calls a0 t167 t168 _ A4.out).mono ?_); rintro e w8 ⟨rfl, hb⟩; refine ⟨_, rfl, ?_⟩; have n0_ := Aside0.mk (below_step (by repeat (first | (with_reducible first | exact HB.out | apply below_alloc | apply pw_below_drewN | apply below_drew1) | exact HB.out)) hb); clear HB; have HB := n0_; clear n0_; (try clear hb); (try clear hb2); (try clear hk); (try clear hi)) | ((with_reducible refine gate_callee (f := 12) rfl ?_); refine goesL_ (some 38) rfl rfl Try.func12 (by kernel_rfl) rfl #[.string t167] rfl (by (try simp only [List.map_toArray, List.map_cons, List.map_nil]); first | done | rfl | (simp only [List.length_drop, List.length_take]; rfl)) ?_; (with_reducible refine (name_Norm.calls t167 t173 t174 _ A6.out).mono ?_); rintro e w9 ⟨rfl, hb⟩; refine ⟨_, rfl, ?_⟩; have n0_ := Aside0.mk (below_step (by repeat (first | (with_reducible first | exact HB.out | apply below_alloc | apply pw_below_drewN | apply below_drew1) | exact HB.out)) hb); clear HB; have HB := n0_; clear n0_; (try clear hb); (try clear hb2); (try clear hk); (try clear hi)))
    (try simp only [Act.put, List.setIfInBounds_toArray, List.set_cons_zero, List.set_cons_succ])
    go_cut [70] (fun v70 wc => ∃ (kq : Nat) (x70_6 : Bool), v70 = .bool x70_6 ∧ Aside0 (yanklinelaw06_NameOnce.j0 kq a0 a1 a2 x70_6 = some r) ∧ Aside0 (kq ≤ k) ∧ Aside0 (Below w.heap.size w wc))
    case first =>
      have H := HC7.out
      clear HC7
      by_cases c10 : t174 = 0
      · rw [if_pos c10] at H
        have c10b0 : (t174 == 0) = true := beq_iff_eq.mpr c10
        have c10b1 : (t174 != 0) = false := bne_eq_false_iff_eq.mpr c10
        clear c10
        (first | rw [c10b0] | (simp only [i64_w, i32_w]; rw [c10b0]) | skip)
        by_cases c11 : t173.toList = t167.toList
        · rw [if_pos c11] at H
          have c11b0 : (t173.toList == t167.toList) = true := beq_iff_eq.mpr c11
          have c11b1 : (t173.toList != t167.toList) = false := bne_eq_false_iff_eq.mpr c11
          clear c11
          replace H := Option.bind_eq_some_iff.mp H
          obtain ⟨t175, A120, H⟩ := H
          replace H : (if t175 = true then ((name_Same.f a0 t167).bind fun t176 => (if t176 = true then ((name_Like.f a0 a0).bind fun t177 => (if t177 = true then (yanklinelaw06_NameOnce.j0 k a0 a1 a2 true) else ((name_Reserved.f k a0).bind fun t178 => ((name_Reserved.f k t167).bind fun t179 => (yanklinelaw06_NameOnce.j0 k a0 a1 a2 (t178 != t179)))))) else (yanklinelaw06_NameOnce.j0 k a0 a1 a2 true))) else (yanklinelaw06_NameOnce.j0 k a0 a1 a2 true)) = some r := H
          have A12 := Aside0.mk A120
          clear A120
          by_cases c13 : t175 = true
          · subst c13
            have H1 : ((name_Same.f a0 t167).bind fun t176 => (if t176 = true then ((name_Like.f a0 a0).bind fun t177 => (if t177 = true then (yanklinelaw06_NameOnce.j0 k a0 a1 a2 true) else ((name_Reserved.f k a0).bind fun t178 => ((name_Reserved.f k t167).bind fun t179 => (yanklinelaw06_NameOnce.j0 k a0 a1 a2 (t178 != t179)))))) else (yanklinelaw06_NameOnce.j0 k a0 a1 a2 true))) = some r := by rw [if_pos rfl] at H; exact H
            clear H
            have H := H1
            clear H1
            replace H := Option.bind_eq_some_iff.mp H
            obtain ⟨t176, A140, H⟩ := H
            replace H : (if t176 = true then ((name_Like.f a0 a0).bind fun t177 => (if t177 = true then (yanklinelaw06_NameOnce.j0 k a0 a1 a2 true) else ((name_Reserved.f k a0).bind fun t178 => ((name_Reserved.f k t167).bind fun t179 => (yanklinelaw06_NameOnce.j0 k a0 a1 a2 (t178 != t179)))))) else (yanklinelaw06_NameOnce.j0 k a0 a1 a2 true)) = some r := H
            have A14 := Aside0.mk A140
            clear A140
            by_cases c15 : t176 = true
            · subst c15
              have H1 : ((name_Like.f a0 a0).bind fun t177 => (if t177 = true then (yanklinelaw06_NameOnce.j0 k a0 a1 a2 true) else ((name_Reserved.f k a0).bind fun t178 => ((name_Reserved.f k t167).bind fun t179 => (yanklinelaw06_NameOnce.j0 k a0 a1 a2 (t178 != t179)))))) = some r := by rw [if_pos rfl] at H; exact H
              clear H
              have H := H1
              clear H1
              replace H := Option.bind_eq_some_iff.mp H
              obtain ⟨t177, A160, H⟩ := H
              replace H : (if t177 = true then (yanklinelaw06_NameOnce.j0 k a0 a1 a2 true) else ((name_Reserved.f k a0).bind fun t178 => ((name_Reserved.f k t167).bind fun t179 => (yanklinelaw06_NameOnce.j0 k a0 a1 a2 (t178 != t179))))) = some r := H
              have A16 := Aside0.mk A160
              clear A160
              by_cases c17 : t177 = true
              · subst c17
                have H1 : (yanklinelaw06_NameOnce.j0 k a0 a1 a2 true) = some r := by rw [if_pos rfl] at H; exact H
                clear H
                have H := H1
                clear H1
                have H' := Aside0.mk H
                clear H
                go_wp2_with (first | (go_at_call 15; (with_reducible refine (name_Is.calls t167 true _ A12.out).mono ?_); rintro e w18 ⟨rfl, hb⟩; have n0_ := Aside0.mk (below_step (by repeat (first | (with_reducible first | exact HB.out | apply below_alloc | apply pw_below_drewN | apply below_drew1) | exact HB.out)) hb); clear HB; have HB := n0_; clear n0_; (try clear hb); (try clear hb2); (try clear hk); (try clear hi)) | (go_at_call 13; (with_reducible refine (name_Same.calls a0 t167 true _ A14.out).mono ?_); rintro e w19 ⟨rfl, hb⟩; have n0_ := Aside0.mk (below_step (by repeat (first | (with_reducible first | exact HB.out | apply below_alloc | apply pw_below_drewN | apply below_drew1) | exact HB.out)) hb); clear HB; have HB := n0_; clear n0_; (try clear hb); (try clear hb2); (try clear hk); (try clear hi)) | (go_at_call 14; (with_reducible refine (name_Like.calls a0 a0 true _ A16.out).mono ?_); rintro e w20 ⟨rfl, hb⟩; have n0_ := Aside0.mk (below_step (by repeat (first | (with_reducible first | exact HB.out | apply below_alloc | apply pw_below_drewN | apply below_drew1) | exact HB.out)) hb); clear HB; have HB := n0_; clear n0_; (try clear hb); (try clear hb2); (try clear hk); (try clear hi)))
                go_meet
                case rel => exact ⟨_, (true), (by first | rfl | (simp; done) | (simp [*]; done)), H', ⟨by first | omega | exact Nat.le_refl _⟩, ⟨by repeat (first | (with_reducible first | exact HB.out | apply below_alloc | apply pw_below_drewN | apply below_drew1) | exact HB.out)⟩⟩
              · replace c17 := Bool.eq_false_iff.mpr c17
                subst c17
                have H1 : ((name_Reserved.f k a0).bind fun t178 => ((name_Reserved.f k t167).bind fun t179 => (yanklinelaw06_NameOnce.j0 k a0 a1 a2 (t178 != t179)))) = some r := by rw [if_neg (show ¬ (false = true) by decide)] at H; exact H
                clear H
                have H := H1
                clear H1
                replace H := Option.bind_eq_some_iff.mp H
                obtain ⟨t178, A210, H⟩ := H
                replace H : ((name_Reserved.f k t167).bind fun t179 => (yanklinelaw06_NameOnce.j0 k a0 a1 a2 (t178 != t179))) = some r := H
                have A21 := Aside0.mk A210
                clear A210
                replace H := Option.bind_eq_some_iff.mp H
                obtain ⟨t179, A220, H⟩ := H
                replace H : (yanklinelaw06_NameOnce.j0 k a0 a1 a2 (t178 != t179)) = some r := H
                have A22 := Aside0.mk A220
                clear A220
                have H' := Aside0.mk H
                clear H
                go_wp2_with (first | (go_at_call 15; (with_reducible refine (name_Is.calls t167 true _ A12.out).mono ?_); rintro e w23 ⟨rfl, hb⟩; have n0_ := Aside0.mk (below_step (by repeat (first | (with_reducible first | exact HB.out | apply below_alloc | apply pw_below_drewN | apply below_drew1) | exact HB.out)) hb); clear HB; have HB := n0_; clear n0_; (try clear hb); (try clear hb2); (try clear hk); (try clear hi)) | (go_at_call 13; (with_reducible refine (name_Same.calls a0 t167 true _ A14.out).mono ?_); rintro e w24 ⟨rfl, hb⟩; have n0_ := Aside0.mk (below_step (by repeat (first | (with_reducible first | exact HB.out | apply below_alloc | apply pw_below_drewN | apply below_drew1) | exact HB.out)) hb); clear HB; have HB := n0_; clear n0_; (try clear hb); (try clear hb2); (try clear hk); (try clear hi)) | (go_at_call 14; (with_reducible refine (name_Like.calls a0 a0 false _ A16.out).mono ?_); rintro e w25 ⟨rfl, hb⟩; have n0_ := Aside0.mk (below_step (by repeat (first | (with_reducible first | exact HB.out | apply below_alloc | apply pw_below_drewN | apply below_drew1) | exact HB.out)) hb); clear HB; have HB := n0_; clear n0_; (try clear hb); (try clear hb2); (try clear hk); (try clear hi)) | (go_at_call 7; (with_reducible refine (name_Reserved.calls k a0 t178 _ A21.out).mono ?_); rintro e w26 ⟨rfl, hb⟩; have n0_ := Aside0.mk (below_step (by repeat (first | (with_reducible first | exact HB.out | apply below_alloc | apply pw_below_drewN | apply below_drew1) | exact HB.out)) hb); clear HB; have HB := n0_; clear n0_; (try clear hb); (try clear hb2); (try clear hk); (try clear hi)) | (go_at_call 7; (with_reducible refine (name_Reserved.calls k t167 t179 _ A22.out).mono ?_); rintro e w27 ⟨rfl, hb⟩; have n0_ := Aside0.mk (below_step (by repeat (first | (with_reducible first | exact HB.out | apply below_alloc | apply pw_below_drewN | apply below_drew1) | exact HB.out)) hb); clear HB; have HB := n0_; clear n0_; (try clear hb); (try clear hb2); (try clear hk); (try clear hi)))
                go_meet
                case rel => exact ⟨_, ((t178 != t179)), (by first | rfl | (simp; done) | (simp [*]; done)), H', ⟨by first | omega | exact Nat.le_refl _⟩, ⟨by repeat (first | (with_reducible first | exact HB.out | apply below_alloc | apply pw_below_drewN | apply below_drew1) | exact HB.out)⟩⟩
            · replace c15 := Bool.eq_false_iff.mpr c15
              subst c15
              have H1 : (yanklinelaw06_NameOnce.j0 k a0 a1 a2 true) = some r := by rw [if_neg (show ¬ (false = true) by decide)] at H; exact H
              clear H
              have H := H1
              clear H1
              have H' := Aside0.mk H
              clear H
              go_wp2_with (first | (go_at_call 15; (with_reducible refine (name_Is.calls t167 true _ A12.out).mono ?_); rintro e w28 ⟨rfl, hb⟩; have n0_ := Aside0.mk (below_step (by repeat (first | (with_reducible first | exact HB.out | apply below_alloc | apply pw_below_drewN | apply below_drew1) | exact HB.out)) hb); clear HB; have HB := n0_; clear n0_; (try clear hb); (try clear hb2); (try clear hk); (try clear hi)) | (go_at_call 13; (with_reducible refine (name_Same.calls a0 t167 false _ A14.out).mono ?_); rintro e w29 ⟨rfl, hb⟩; have n0_ := Aside0.mk (below_step (by repeat (first | (with_reducible first | exact HB.out | apply below_alloc | apply pw_below_drewN | apply below_drew1) | exact HB.out)) hb); clear HB; have HB := n0_; clear n0_; (try clear hb); (try clear hb2); (try clear hk); (try clear hi)))
              go_meet
              case rel => exact ⟨_, (true), (by first | rfl | (simp; done) | (simp [*]; done)), H', ⟨by first | omega | exact Nat.le_refl _⟩, ⟨by repeat (first | (with_reducible first | exact HB.out | apply below_alloc | apply pw_below_drewN | apply below_drew1) | exact HB.out)⟩⟩
          · replace c13 := Bool.eq_false_iff.mpr c13
            subst c13
            have H1 : (yanklinelaw06_NameOnce.j0 k a0 a1 a2 true) = some r := by rw [if_neg (show ¬ (false = true) by decide)] at H; exact H
            clear H
            have H := H1
            clear H1
            have H' := Aside0.mk H
            clear H
            go_wp2_with (first | (go_at_call 15; (with_reducible refine (name_Is.calls t167 false _ A12.out).mono ?_); rintro e w30 ⟨rfl, hb⟩; have n0_ := Aside0.mk (below_step (by repeat (first | (with_reducible first | exact HB.out | apply below_alloc | apply pw_below_drewN | apply below_drew1) | exact HB.out)) hb); clear HB; have HB := n0_; clear n0_; (try clear hb); (try clear hb2); (try clear hk); (try clear hi)))
            go_meet
            case rel => exact ⟨_, (true), (by first | rfl | (simp; done) | (simp [*]; done)), H', ⟨by first | omega | exact Nat.le_refl _⟩, ⟨by repeat (first | (with_reducible first | exact HB.out | apply below_alloc | apply pw_below_drewN | apply below_drew1) | exact HB.out)⟩⟩
        · rw [if_neg c11] at H
          have c11b0 : (t173.toList == t167.toList) = false := beq_eq_false_iff_ne.mpr c11
          have c11b1 : (t173.toList != t167.toList) = true := bne_iff_ne.mpr c11
          have H' := Aside0.mk H
          clear H
          go_wp2
          go_meet
          case rel => exact ⟨_, (true), (by first | rfl | (simp; done) | (simp [*]; done)), H', ⟨by first | omega | exact Nat.le_refl _⟩, ⟨by repeat (first | (with_reducible first | exact HB.out | apply below_alloc | apply pw_below_drewN | apply below_drew1) | exact HB.out)⟩⟩
      · rw [if_neg c10] at H
        have c10b0 : (t174 == 0) = false := beq_eq_false_iff_ne.mpr c10
        have c10b1 : (t174 != 0) = true := bne_iff_ne.mpr c10
        (first | rw [c10b0] | (simp only [i64_w, i32_w]; rw [c10b0]) | skip)
        have H' := Aside0.mk H
        clear H
        go_wp2
        go_meet
        case rel => exact ⟨_, (true), (by first | rfl | (simp; done) | (simp [*]; done)), H', ⟨by first | omega | exact Nat.le_refl _⟩, ⟨by repeat (first | (with_reducible first | exact HB.out | apply below_alloc | apply pw_below_drewN | apply below_drew1) | exact HB.out)⟩⟩
    case rest =>
      clear HC7
      try clear c1
      try clear p2
      try clear c4
      try clear c5
      try clear c5b0
      try clear c5b1
      try clear c10
      try clear c10b0
      try clear c10b1
      try clear c11
      try clear c11b0
      try clear c11b1
      try clear c12
      try clear c13
      try clear c15
      try clear c17
      obtain ⟨kq, x70_6, rfl, HA, HJ6, HB⟩ := hcut
      cases kq with
      | zero => exact absurd HA.out (by simp [yanklinelaw06_NameOnce.j0])
      | succ kj6 =>
        have H := HA.out
        clear HA
        simp only [yanklinelaw06_NameOnce.j0] at H
        by_cases c31 : x70_6 = true
        · subst c31
          have H1 : (some false) = some r := by rw [if_pos rfl] at H; exact H
          clear H
          have H := H1
          clear H1
          obtain rfl := Option.some.inj H
          go_wp2
          go_ret
          exact ⟨by first | rfl | (simp [errW_none, errW_some] <;> rfl) | (simp [*, errW_none, errW_some] <;> rfl), by repeat (first | (with_reducible first | exact HB.out | apply below_alloc | apply pw_below_drewN | apply below_drew1) | exact HB.out)⟩
        · replace c31 := Bool.eq_false_iff.mpr c31
          subst c31
          have H1 : ((name_Same.f a0 a1).bind fun t180 => ((name_Same.f a1 a0).bind fun t181 => (if (t180 != t181) = true then (yanklinelaw06_NameOnce.j1 kj6 a0 a1 true) else ((name_Like.f a0 a1).bind fun t182 => ((name_Like.f a1 a0).bind fun t183 => (if (t182 != t183) = true then (yanklinelaw06_NameOnce.j1 kj6 a0 a1 true) else ((name_Same.f a0 a1).bind fun t184 => (if t184 = true then ((name_Same.f a1 a2).bind fun t185 => (if t185 = true then ((name_Same.f a0 a2).bind fun t186 => (yanklinelaw06_NameOnce.j1 kj6 a0 a1 (!t186))) else (yanklinelaw06_NameOnce.j1 kj6 a0 a1 false))) else (yanklinelaw06_NameOnce.j1 kj6 a0 a1 false))))))))) = some r := by rw [if_neg (show ¬ (false = true) by decide)] at H; exact H
          clear H
          have H := H1
          clear H1
          have HC32 := Aside0.mk H
          clear H
          go_upto_region 7 with (fail)
          go_cut [102] (fun v102 wc => ∃ (kq : Nat) (x102_31 : Bool), v102 = .bool x102_31 ∧ Aside0 (yanklinelaw06_NameOnce.j1 kq a0 a1 x102_31 = some r) ∧ Aside0 (kq ≤ kj6) ∧ Aside0 (Below w.heap.size w wc))
          case first =>
            have H := HC32.out
            clear HC32
            replace H := Option.bind_eq_some_iff.mp H
            obtain ⟨t180, A330, H⟩ := H
            replace H : ((name_Same.f a1 a0).bind fun t181 => (if (t180 != t181) = true then (yanklinelaw06_NameOnce.j1 kj6 a0 a1 true) else ((name_Like.f a0 a1).bind fun t182 => ((name_Like.f a1 a0).bind fun t183 => (if (t182 != t183) = true then (yanklinelaw06_NameOnce.j1 kj6 a0 a1 true) else ((name_Same.f a0 a1).bind fun t184 => (if t184 = true then ((name_Same.f a1 a2).bind fun t185 => (if t185 = true then ((name_Same.f a0 a2).bind fun t186 => (yanklinelaw06_NameOnce.j1 kj6 a0 a1 (!t186))) else (yanklinelaw06_NameOnce.j1 kj6 a0 a1 false))) else (yanklinelaw06_NameOnce.j1 kj6 a0 a1 false)))))))) = some r := H
            have A33 := Aside0.mk A330
            clear A330
            replace H := Option.bind_eq_some_iff.mp H
            obtain ⟨t181, A340, H⟩ := H
            replace H : (if (t180 != t181) = true then (yanklinelaw06_NameOnce.j1 kj6 a0 a1 true) else ((name_Like.f a0 a1).bind fun t182 => ((name_Like.f a1 a0).bind fun t183 => (if (t182 != t183) = true then (yanklinelaw06_NameOnce.j1 kj6 a0 a1 true) else ((name_Same.f a0 a1).bind fun t184 => (if t184 = true then ((name_Same.f a1 a2).bind fun t185 => (if t185 = true then ((name_Same.f a0 a2).bind fun t186 => (yanklinelaw06_NameOnce.j1 kj6 a0 a1 (!t186))) else (yanklinelaw06_NameOnce.j1 kj6 a0 a1 false))) else (yanklinelaw06_NameOnce.j1 kj6 a0 a1 false))))))) = some r := H
            have A34 := Aside0.mk A340
            clear A340
            by_cases c35 : (t180 != t181) = true
            · rw [if_pos c35] at H
              have c35b0 : (t180 != t181) = true := c35
              (try (have c35b1 : decide (t180 = t181) = false := by simpa using c35))
              (try (have c35b2 : (t180 == t181) = false := by simpa using c35))
              (try (have c35b3 : ¬ (t180 = t181) := by simpa using c35))
              clear c35
              (first | rw [c35b0] | (simp only [i64_w, i32_w]; rw [c35b0]) | skip)
              have H' := Aside0.mk H
              clear H
              go_wp2_with (first | ((with_reducible refine gate_callee (f := 13) rfl ?_); refine goesL_ (some 73) rfl rfl Try.func13 (by kernel_rfl) rfl #[.string a0, .string a1] rfl (by (try simp only [List.map_toArray, List.map_cons, List.map_nil]); first | done | rfl | (simp only [List.length_drop, List.length_take]; rfl)) ?_; (with_reducible refine (name_Same.calls a0 a1 t180 _ A33.out).mono ?_); rintro e w36 ⟨rfl, hb⟩; refine ⟨_, rfl, ?_⟩; have n0_ := Aside0.mk (below_step (by repeat (first | (with_reducible first | exact HB.out | apply below_alloc | apply pw_below_drewN | apply below_drew1) | exact HB.out)) hb); clear HB; have HB := n0_; clear n0_; (try clear hb); (try clear hb2); (try clear hk); (try clear hi)) | ((with_reducible refine gate_callee (f := 13) rfl ?_); refine goesL_ (some 76) rfl rfl Try.func13 (by kernel_rfl) rfl #[.string a1, .string a0] rfl (by (try simp only [List.map_toArray, List.map_cons, List.map_nil]); first | done | rfl | (simp only [List.length_drop, List.length_take]; rfl)) ?_; (with_reducible refine (name_Same.calls a1 a0 t181 _ A34.out).mono ?_); rintro e w37 ⟨rfl, hb⟩; refine ⟨_, rfl, ?_⟩; have n0_ := Aside0.mk (below_step (by repeat (first | (with_reducible first | exact HB.out | apply below_alloc | apply pw_below_drewN | apply below_drew1) | exact HB.out)) hb); clear HB; have HB := n0_; clear n0_; (try clear hb); (try clear hb2); (try clear hk); (try clear hi)))
              go_meet
              case rel => exact ⟨_, (true), (by first | rfl | (simp; done) | (simp [*]; done)), H', ⟨by have := HJ6.out; first | omega | exact Nat.le_refl _⟩, ⟨by repeat (first | (with_reducible first | exact HB.out | apply below_alloc | apply pw_below_drewN | apply below_drew1) | exact HB.out)⟩⟩
            · rw [if_neg c35] at H
              have c35b0 : (t180 != t181) = false := by simpa using c35
              (try (have c35b1 : decide (t180 = t181) = true := by simpa using c35))
              (try (have c35b2 : (t180 == t181) = true := by simpa using c35))
              clear c35
              (first | rw [c35b0] | (simp only [i64_w, i32_w]; rw [c35b0]) | skip)
              replace H := Option.bind_eq_some_iff.mp H
              obtain ⟨t182, A380, H⟩ := H
              replace H : ((name_Like.f a1 a0).bind fun t183 => (if (t182 != t183) = true then (yanklinelaw06_NameOnce.j1 kj6 a0 a1 true) else ((name_Same.f a0 a1).bind fun t184 => (if t184 = true then ((name_Same.f a1 a2).bind fun t185 => (if t185 = true then ((name_Same.f a0 a2).bind fun t186 => (yanklinelaw06_NameOnce.j1 kj6 a0 a1 (!t186))) else (yanklinelaw06_NameOnce.j1 kj6 a0 a1 false))) else (yanklinelaw06_NameOnce.j1 kj6 a0 a1 false))))) = some r := H
              have A38 := Aside0.mk A380
              clear A380
              replace H := Option.bind_eq_some_iff.mp H
              obtain ⟨t183, A390, H⟩ := H
              replace H : (if (t182 != t183) = true then (yanklinelaw06_NameOnce.j1 kj6 a0 a1 true) else ((name_Same.f a0 a1).bind fun t184 => (if t184 = true then ((name_Same.f a1 a2).bind fun t185 => (if t185 = true then ((name_Same.f a0 a2).bind fun t186 => (yanklinelaw06_NameOnce.j1 kj6 a0 a1 (!t186))) else (yanklinelaw06_NameOnce.j1 kj6 a0 a1 false))) else (yanklinelaw06_NameOnce.j1 kj6 a0 a1 false)))) = some r := H
              have A39 := Aside0.mk A390
              clear A390
              by_cases c40 : (t182 != t183) = true
              · rw [if_pos c40] at H
                have c40b0 : (t182 != t183) = true := c40
                (try (have c40b1 : decide (t182 = t183) = false := by simpa using c40))
                (try (have c40b2 : (t182 == t183) = false := by simpa using c40))
                (try (have c40b3 : ¬ (t182 = t183) := by simpa using c40))
                clear c40
                have H' := Aside0.mk H
                clear H
                go_wp2_with (first | ((with_reducible refine gate_callee (f := 13) rfl ?_); refine goesL_ (some 73) rfl rfl Try.func13 (by kernel_rfl) rfl #[.string a0, .string a1] rfl (by (try simp only [List.map_toArray, List.map_cons, List.map_nil]); first | done | rfl | (simp only [List.length_drop, List.length_take]; rfl)) ?_; (with_reducible refine (name_Same.calls a0 a1 t180 _ A33.out).mono ?_); rintro e w41 ⟨rfl, hb⟩; refine ⟨_, rfl, ?_⟩; have n0_ := Aside0.mk (below_step (by repeat (first | (with_reducible first | exact HB.out | apply below_alloc | apply pw_below_drewN | apply below_drew1) | exact HB.out)) hb); clear HB; have HB := n0_; clear n0_; (try clear hb); (try clear hb2); (try clear hk); (try clear hi)) | ((with_reducible refine gate_callee (f := 13) rfl ?_); refine goesL_ (some 76) rfl rfl Try.func13 (by kernel_rfl) rfl #[.string a1, .string a0] rfl (by (try simp only [List.map_toArray, List.map_cons, List.map_nil]); first | done | rfl | (simp only [List.length_drop, List.length_take]; rfl)) ?_; (with_reducible refine (name_Same.calls a1 a0 t181 _ A34.out).mono ?_); rintro e w42 ⟨rfl, hb⟩; refine ⟨_, rfl, ?_⟩; have n0_ := Aside0.mk (below_step (by repeat (first | (with_reducible first | exact HB.out | apply below_alloc | apply pw_below_drewN | apply below_drew1) | exact HB.out)) hb); clear HB; have HB := n0_; clear n0_; (try clear hb); (try clear hb2); (try clear hk); (try clear hi)) | (go_at_call 14; (with_reducible refine (name_Like.calls a0 a1 t182 _ A38.out).mono ?_); rintro e w43 ⟨rfl, hb⟩; have n0_ := Aside0.mk (below_step (by repeat (first | (with_reducible first | exact HB.out | apply below_alloc | apply pw_below_drewN | apply below_drew1) | exact HB.out)) hb); clear HB; have HB := n0_; clear n0_; (try clear hb); (try clear hb2); (try clear hk); (try clear hi)) | (go_at_call 14; (with_reducible refine (name_Like.calls a1 a0 t183 _ A39.out).mono ?_); rintro e w44 ⟨rfl, hb⟩; have n0_ := Aside0.mk (below_step (by repeat (first | (with_reducible first | exact HB.out | apply below_alloc | apply pw_below_drewN | apply below_drew1) | exact HB.out)) hb); clear HB; have HB := n0_; clear n0_; (try clear hb); (try clear hb2); (try clear hk); (try clear hi)))
                go_meet
                case rel => exact ⟨_, (true), (by first | rfl | (simp; done) | (simp [*]; done)), H', ⟨by have := HJ6.out; first | omega | exact Nat.le_refl _⟩, ⟨by repeat (first | (with_reducible first | exact HB.out | apply below_alloc | apply pw_below_drewN | apply below_drew1) | exact HB.out)⟩⟩
              · rw [if_neg c40] at H
                have c40b0 : (t182 != t183) = false := by simpa using c40
                (try (have c40b1 : decide (t182 = t183) = true := by simpa using c40))
                (try (have c40b2 : (t182 == t183) = true := by simpa using c40))
                clear c40
                replace H := Option.bind_eq_some_iff.mp H
                obtain ⟨t184, A450, H⟩ := H
                replace H : (if t184 = true then ((name_Same.f a1 a2).bind fun t185 => (if t185 = true then ((name_Same.f a0 a2).bind fun t186 => (yanklinelaw06_NameOnce.j1 kj6 a0 a1 (!t186))) else (yanklinelaw06_NameOnce.j1 kj6 a0 a1 false))) else (yanklinelaw06_NameOnce.j1 kj6 a0 a1 false)) = some r := H
                have A45 := Aside0.mk A450
                clear A450
                by_cases c46 : t184 = true
                · subst c46
                  have H1 : ((name_Same.f a1 a2).bind fun t185 => (if t185 = true then ((name_Same.f a0 a2).bind fun t186 => (yanklinelaw06_NameOnce.j1 kj6 a0 a1 (!t186))) else (yanklinelaw06_NameOnce.j1 kj6 a0 a1 false))) = some r := by rw [if_pos rfl] at H; exact H
                  clear H
                  have H := H1
                  clear H1
                  replace H := Option.bind_eq_some_iff.mp H
                  obtain ⟨t185, A470, H⟩ := H
                  replace H : (if t185 = true then ((name_Same.f a0 a2).bind fun t186 => (yanklinelaw06_NameOnce.j1 kj6 a0 a1 (!t186))) else (yanklinelaw06_NameOnce.j1 kj6 a0 a1 false)) = some r := H
                  have A47 := Aside0.mk A470
                  clear A470
                  by_cases c48 : t185 = true
                  · subst c48
                    have H1 : ((name_Same.f a0 a2).bind fun t186 => (yanklinelaw06_NameOnce.j1 kj6 a0 a1 (!t186))) = some r := by rw [if_pos rfl] at H; exact H
                    clear H
                    have H := H1
                    clear H1
                    replace H := Option.bind_eq_some_iff.mp H
                    obtain ⟨t186, A490, H⟩ := H
                    replace H : (yanklinelaw06_NameOnce.j1 kj6 a0 a1 (!t186)) = some r := H
                    have A49 := Aside0.mk A490
                    clear A490
                    have H' := Aside0.mk H
                    clear H
                    go_wp2_with (first | ((with_reducible refine gate_callee (f := 13) rfl ?_); refine goesL_ (some 73) rfl rfl Try.func13 (by kernel_rfl) rfl #[.string a0, .string a1] rfl (by (try simp only [List.map_toArray, List.map_cons, List.map_nil]); first | done | rfl | (simp only [List.length_drop, List.length_take]; rfl)) ?_; (with_reducible refine (name_Same.calls a0 a1 t180 _ A33.out).mono ?_); rintro e w50 ⟨rfl, hb⟩; refine ⟨_, rfl, ?_⟩; have n0_ := Aside0.mk (below_step (by repeat (first | (with_reducible first | exact HB.out | apply below_alloc | apply pw_below_drewN | apply below_drew1) | exact HB.out)) hb); clear HB; have HB := n0_; clear n0_; (try clear hb); (try clear hb2); (try clear hk); (try clear hi)) | ((with_reducible refine gate_callee (f := 13) rfl ?_); refine goesL_ (some 76) rfl rfl Try.func13 (by kernel_rfl) rfl #[.string a1, .string a0] rfl (by (try simp only [List.map_toArray, List.map_cons, List.map_nil]); first | done | rfl | (simp only [List.length_drop, List.length_take]; rfl)) ?_; (with_reducible refine (name_Same.calls a1 a0 t181 _ A34.out).mono ?_); rintro e w51 ⟨rfl, hb⟩; refine ⟨_, rfl, ?_⟩; have n0_ := Aside0.mk (below_step (by repeat (first | (with_reducible first | exact HB.out | apply below_alloc | apply pw_below_drewN | apply below_drew1) | exact HB.out)) hb); clear HB; have HB := n0_; clear n0_; (try clear hb); (try clear hb2); (try clear hk); (try clear hi)) | (go_at_call 14; (with_reducible refine (name_Like.calls a0 a1 t182 _ A38.out).mono ?_); rintro e w52 ⟨rfl, hb⟩; have n0_ := Aside0.mk (below_step (by repeat (first | (with_reducible first | exact HB.out | apply below_alloc | apply pw_below_drewN | apply below_drew1) | exact HB.out)) hb); clear HB; have HB := n0_; clear n0_; (try clear hb); (try clear hb2); (try clear hk); (try clear hi)) | (go_at_call 14; (with_reducible refine (name_Like.calls a1 a0 t183 _ A39.out).mono ?_); rintro e w53 ⟨rfl, hb⟩; have n0_ := Aside0.mk (below_step (by repeat (first | (with_reducible first | exact HB.out | apply below_alloc | apply pw_below_drewN | apply below_drew1) | exact HB.out)) hb); clear HB; have HB := n0_; clear n0_; (try clear hb); (try clear hb2); (try clear hk); (try clear hi)) | (go_at_call 13; (with_reducible refine (name_Same.calls a0 a1 true _ A45.out).mono ?_); rintro e w54 ⟨rfl, hb⟩; have n0_ := Aside0.mk (below_step (by repeat (first | (with_reducible first | exact HB.out | apply below_alloc | apply pw_below_drewN | apply below_drew1) | exact HB.out)) hb); clear HB; have HB := n0_; clear n0_; (try clear hb); (try clear hb2); (try clear hk); (try clear hi)) | (go_at_call 13; (with_reducible refine (name_Same.calls a1 a2 true _ A47.out).mono ?_); rintro e w55 ⟨rfl, hb⟩; have n0_ := Aside0.mk (below_step (by repeat (first | (with_reducible first | exact HB.out | apply below_alloc | apply pw_below_drewN | apply below_drew1) | exact HB.out)) hb); clear HB; have HB := n0_; clear n0_; (try clear hb); (try clear hb2); (try clear hk); (try clear hi)) | (go_at_call 13; (with_reducible refine (name_Same.calls a0 a2 t186 _ A49.out).mono ?_); rintro e w56 ⟨rfl, hb⟩; have n0_ := Aside0.mk (below_step (by repeat (first | (with_reducible first | exact HB.out | apply below_alloc | apply pw_below_drewN | apply below_drew1) | exact HB.out)) hb); clear HB; have HB := n0_; clear n0_; (try clear hb); (try clear hb2); (try clear hk); (try clear hi)))
                    go_meet
                    case rel => exact ⟨_, (!t186), (by first | rfl | (simp; done) | (simp [*]; done)), H', ⟨by have := HJ6.out; first | omega | exact Nat.le_refl _⟩, ⟨by repeat (first | (with_reducible first | exact HB.out | apply below_alloc | apply pw_below_drewN | apply below_drew1) | exact HB.out)⟩⟩
                  · replace c48 := Bool.eq_false_iff.mpr c48
                    subst c48
                    have H1 : (yanklinelaw06_NameOnce.j1 kj6 a0 a1 false) = some r := by rw [if_neg (show ¬ (false = true) by decide)] at H; exact H
                    clear H
                    have H := H1
                    clear H1
                    have H' := Aside0.mk H
                    clear H
                    go_wp2_with (first | ((with_reducible refine gate_callee (f := 13) rfl ?_); refine goesL_ (some 73) rfl rfl Try.func13 (by kernel_rfl) rfl #[.string a0, .string a1] rfl (by (try simp only [List.map_toArray, List.map_cons, List.map_nil]); first | done | rfl | (simp only [List.length_drop, List.length_take]; rfl)) ?_; (with_reducible refine (name_Same.calls a0 a1 t180 _ A33.out).mono ?_); rintro e w57 ⟨rfl, hb⟩; refine ⟨_, rfl, ?_⟩; have n0_ := Aside0.mk (below_step (by repeat (first | (with_reducible first | exact HB.out | apply below_alloc | apply pw_below_drewN | apply below_drew1) | exact HB.out)) hb); clear HB; have HB := n0_; clear n0_; (try clear hb); (try clear hb2); (try clear hk); (try clear hi)) | ((with_reducible refine gate_callee (f := 13) rfl ?_); refine goesL_ (some 76) rfl rfl Try.func13 (by kernel_rfl) rfl #[.string a1, .string a0] rfl (by (try simp only [List.map_toArray, List.map_cons, List.map_nil]); first | done | rfl | (simp only [List.length_drop, List.length_take]; rfl)) ?_; (with_reducible refine (name_Same.calls a1 a0 t181 _ A34.out).mono ?_); rintro e w58 ⟨rfl, hb⟩; refine ⟨_, rfl, ?_⟩; have n0_ := Aside0.mk (below_step (by repeat (first | (with_reducible first | exact HB.out | apply below_alloc | apply pw_below_drewN | apply below_drew1) | exact HB.out)) hb); clear HB; have HB := n0_; clear n0_; (try clear hb); (try clear hb2); (try clear hk); (try clear hi)) | (go_at_call 14; (with_reducible refine (name_Like.calls a0 a1 t182 _ A38.out).mono ?_); rintro e w59 ⟨rfl, hb⟩; have n0_ := Aside0.mk (below_step (by repeat (first | (with_reducible first | exact HB.out | apply below_alloc | apply pw_below_drewN | apply below_drew1) | exact HB.out)) hb); clear HB; have HB := n0_; clear n0_; (try clear hb); (try clear hb2); (try clear hk); (try clear hi)) | (go_at_call 14; (with_reducible refine (name_Like.calls a1 a0 t183 _ A39.out).mono ?_); rintro e w60 ⟨rfl, hb⟩; have n0_ := Aside0.mk (below_step (by repeat (first | (with_reducible first | exact HB.out | apply below_alloc | apply pw_below_drewN | apply below_drew1) | exact HB.out)) hb); clear HB; have HB := n0_; clear n0_; (try clear hb); (try clear hb2); (try clear hk); (try clear hi)) | (go_at_call 13; (with_reducible refine (name_Same.calls a0 a1 true _ A45.out).mono ?_); rintro e w61 ⟨rfl, hb⟩; have n0_ := Aside0.mk (below_step (by repeat (first | (with_reducible first | exact HB.out | apply below_alloc | apply pw_below_drewN | apply below_drew1) | exact HB.out)) hb); clear HB; have HB := n0_; clear n0_; (try clear hb); (try clear hb2); (try clear hk); (try clear hi)) | (go_at_call 13; (with_reducible refine (name_Same.calls a1 a2 false _ A47.out).mono ?_); rintro e w62 ⟨rfl, hb⟩; have n0_ := Aside0.mk (below_step (by repeat (first | (with_reducible first | exact HB.out | apply below_alloc | apply pw_below_drewN | apply below_drew1) | exact HB.out)) hb); clear HB; have HB := n0_; clear n0_; (try clear hb); (try clear hb2); (try clear hk); (try clear hi)))
                    go_meet
                    case rel => exact ⟨_, (false), (by first | rfl | (simp; done) | (simp [*]; done)), H', ⟨by have := HJ6.out; first | omega | exact Nat.le_refl _⟩, ⟨by repeat (first | (with_reducible first | exact HB.out | apply below_alloc | apply pw_below_drewN | apply below_drew1) | exact HB.out)⟩⟩
                · replace c46 := Bool.eq_false_iff.mpr c46
                  subst c46
                  have H1 : (yanklinelaw06_NameOnce.j1 kj6 a0 a1 false) = some r := by rw [if_neg (show ¬ (false = true) by decide)] at H; exact H
                  clear H
                  have H := H1
                  clear H1
                  have H' := Aside0.mk H
                  clear H
                  go_wp2_with (first | ((with_reducible refine gate_callee (f := 13) rfl ?_); refine goesL_ (some 73) rfl rfl Try.func13 (by kernel_rfl) rfl #[.string a0, .string a1] rfl (by (try simp only [List.map_toArray, List.map_cons, List.map_nil]); first | done | rfl | (simp only [List.length_drop, List.length_take]; rfl)) ?_; (with_reducible refine (name_Same.calls a0 a1 t180 _ A33.out).mono ?_); rintro e w63 ⟨rfl, hb⟩; refine ⟨_, rfl, ?_⟩; have n0_ := Aside0.mk (below_step (by repeat (first | (with_reducible first | exact HB.out | apply below_alloc | apply pw_below_drewN | apply below_drew1) | exact HB.out)) hb); clear HB; have HB := n0_; clear n0_; (try clear hb); (try clear hb2); (try clear hk); (try clear hi)) | ((with_reducible refine gate_callee (f := 13) rfl ?_); refine goesL_ (some 76) rfl rfl Try.func13 (by kernel_rfl) rfl #[.string a1, .string a0] rfl (by (try simp only [List.map_toArray, List.map_cons, List.map_nil]); first | done | rfl | (simp only [List.length_drop, List.length_take]; rfl)) ?_; (with_reducible refine (name_Same.calls a1 a0 t181 _ A34.out).mono ?_); rintro e w64 ⟨rfl, hb⟩; refine ⟨_, rfl, ?_⟩; have n0_ := Aside0.mk (below_step (by repeat (first | (with_reducible first | exact HB.out | apply below_alloc | apply pw_below_drewN | apply below_drew1) | exact HB.out)) hb); clear HB; have HB := n0_; clear n0_; (try clear hb); (try clear hb2); (try clear hk); (try clear hi)) | (go_at_call 14; (with_reducible refine (name_Like.calls a0 a1 t182 _ A38.out).mono ?_); rintro e w65 ⟨rfl, hb⟩; have n0_ := Aside0.mk (below_step (by repeat (first | (with_reducible first | exact HB.out | apply below_alloc | apply pw_below_drewN | apply below_drew1) | exact HB.out)) hb); clear HB; have HB := n0_; clear n0_; (try clear hb); (try clear hb2); (try clear hk); (try clear hi)) | (go_at_call 14; (with_reducible refine (name_Like.calls a1 a0 t183 _ A39.out).mono ?_); rintro e w66 ⟨rfl, hb⟩; have n0_ := Aside0.mk (below_step (by repeat (first | (with_reducible first | exact HB.out | apply below_alloc | apply pw_below_drewN | apply below_drew1) | exact HB.out)) hb); clear HB; have HB := n0_; clear n0_; (try clear hb); (try clear hb2); (try clear hk); (try clear hi)) | (go_at_call 13; (with_reducible refine (name_Same.calls a0 a1 false _ A45.out).mono ?_); rintro e w67 ⟨rfl, hb⟩; have n0_ := Aside0.mk (below_step (by repeat (first | (with_reducible first | exact HB.out | apply below_alloc | apply pw_below_drewN | apply below_drew1) | exact HB.out)) hb); clear HB; have HB := n0_; clear n0_; (try clear hb); (try clear hb2); (try clear hk); (try clear hi)))
                  go_meet
                  case rel => exact ⟨_, (false), (by first | rfl | (simp; done) | (simp [*]; done)), H', ⟨by have := HJ6.out; first | omega | exact Nat.le_refl _⟩, ⟨by repeat (first | (with_reducible first | exact HB.out | apply below_alloc | apply pw_below_drewN | apply below_drew1) | exact HB.out)⟩⟩
          case rest =>
            clear HC32
            try clear c1
            try clear p2
            try clear c3
            try clear c4
            try clear c5
            try clear c5b0
            try clear c5b1
            try clear c10
            try clear c10b0
            try clear c10b1
            try clear c11
            try clear c11b0
            try clear c11b1
            try clear c12
            try clear c13
            try clear c15
            try clear c17
            try clear c31
            try clear c35
            try clear c35b0
            try clear c35b1
            try clear c35b2
            try clear c40
            try clear c40b0
            try clear c40b1
            try clear c40b2
            try clear c46
            try clear c48
            try clear p2
            obtain ⟨kq, x102_31, rfl, HA, HJ31, HB⟩ := hcut
            cases kq with
            | zero => exact absurd HA.out (by simp [yanklinelaw06_NameOnce.j1])
            | succ kj31 =>
              have H := HA.out
              clear HA
              simp only [yanklinelaw06_NameOnce.j1] at H
              by_cases c68 : x102_31 = true
              · subst c68
                have H1 : (some false) = some r := by rw [if_pos rfl] at H; exact H
                clear H
                have H := H1
                clear H1
                obtain rfl := Option.some.inj H
                go_wp2
                go_ret
                exact ⟨by first | rfl | (simp [errW_none, errW_some] <;> rfl) | (simp [*, errW_none, errW_some] <;> rfl), by repeat (first | (with_reducible first | exact HB.out | apply below_alloc | apply pw_below_drewN | apply below_drew1) | exact HB.out)⟩
              · replace c68 := Bool.eq_false_iff.mpr c68
                subst c68
                have H1 : ((name_Same.f a0 a1).bind fun t187 => (if t187 = true then ((name_Reserved.f kj31 a0).bind fun t188 => ((name_Reserved.f kj31 a1).bind fun t189 => (yanklinelaw06_NameOnce.j2 kj31 a0 a1 (t188 != t189)))) else ((name_Like.f a0 a1).bind fun t190 => (if t190 = true then ((name_Reserved.f kj31 a0).bind fun t191 => ((name_Reserved.f kj31 a1).bind fun t192 => (yanklinelaw06_NameOnce.j2 kj31 a0 a1 (t191 != t192)))) else (yanklinelaw06_NameOnce.j2 kj31 a0 a1 false))))) = some r := by rw [if_neg (show ¬ (false = true) by decide)] at H; exact H
                clear H
                have H := H1
                clear H1
                have HC69 := Aside0.mk H
                clear H
                go_upto_region 9 with (fail)
                go_cut [117] (fun v117 wc => ∃ (kq : Nat) (x117_68 : Bool), v117 = .bool x117_68 ∧ Aside0 (yanklinelaw06_NameOnce.j2 kq a0 a1 x117_68 = some r) ∧ Aside0 (kq ≤ kj31) ∧ Aside0 (Below w.heap.size w wc))
                case first =>
                  have H := HC69.out
                  clear HC69
                  replace H := Option.bind_eq_some_iff.mp H
                  obtain ⟨t187, A700, H⟩ := H
                  replace H : (if t187 = true then ((name_Reserved.f kj31 a0).bind fun t188 => ((name_Reserved.f kj31 a1).bind fun t189 => (yanklinelaw06_NameOnce.j2 kj31 a0 a1 (t188 != t189)))) else ((name_Like.f a0 a1).bind fun t190 => (if t190 = true then ((name_Reserved.f kj31 a0).bind fun t191 => ((name_Reserved.f kj31 a1).bind fun t192 => (yanklinelaw06_NameOnce.j2 kj31 a0 a1 (t191 != t192)))) else (yanklinelaw06_NameOnce.j2 kj31 a0 a1 false)))) = some r := H
                  have A70 := Aside0.mk A700
                  clear A700
                  by_cases c71 : t187 = true
                  · subst c71
                    have H1 : ((name_Reserved.f kj31 a0).bind fun t188 => ((name_Reserved.f kj31 a1).bind fun t189 => (yanklinelaw06_NameOnce.j2 kj31 a0 a1 (t188 != t189)))) = some r := by rw [if_pos rfl] at H; exact H
                    clear H
                    have H := H1
                    clear H1
                    replace H := Option.bind_eq_some_iff.mp H
                    obtain ⟨t188, A720, H⟩ := H
                    replace H : ((name_Reserved.f kj31 a1).bind fun t189 => (yanklinelaw06_NameOnce.j2 kj31 a0 a1 (t188 != t189))) = some r := H
                    have A72 := Aside0.mk A720
                    clear A720
                    replace H := Option.bind_eq_some_iff.mp H
                    obtain ⟨t189, A730, H⟩ := H
                    replace H : (yanklinelaw06_NameOnce.j2 kj31 a0 a1 (t188 != t189)) = some r := H
                    have A73 := Aside0.mk A730
                    clear A730
                    have H' := Aside0.mk H
                    clear H
                    go_wp2_with (first | ((with_reducible refine gate_callee (f := 13) rfl ?_); refine goesL_ (some 105) rfl rfl Try.func13 (by kernel_rfl) rfl #[.string a0, .string a1] rfl (by (try simp only [List.map_toArray, List.map_cons, List.map_nil]); first | done | rfl | (simp only [List.length_drop, List.length_take]; rfl)) ?_; (with_reducible refine (name_Same.calls a0 a1 true _ A70.out).mono ?_); rintro e w74 ⟨rfl, hb⟩; refine ⟨_, rfl, ?_⟩; have n0_ := Aside0.mk (below_step (by repeat (first | (with_reducible first | exact HB.out | apply below_alloc | apply pw_below_drewN | apply below_drew1) | exact HB.out)) hb); clear HB; have HB := n0_; clear n0_; (try clear hb); (try clear hb2); (try clear hk); (try clear hi)) | (go_at_call 7; (with_reducible refine (name_Reserved.calls kj31 a0 t188 _ A72.out).mono ?_); rintro e w75 ⟨rfl, hb⟩; have n0_ := Aside0.mk (below_step (by repeat (first | (with_reducible first | exact HB.out | apply below_alloc | apply pw_below_drewN | apply below_drew1) | exact HB.out)) hb); clear HB; have HB := n0_; clear n0_; (try clear hb); (try clear hb2); (try clear hk); (try clear hi)) | (go_at_call 7; (with_reducible refine (name_Reserved.calls kj31 a1 t189 _ A73.out).mono ?_); rintro e w76 ⟨rfl, hb⟩; have n0_ := Aside0.mk (below_step (by repeat (first | (with_reducible first | exact HB.out | apply below_alloc | apply pw_below_drewN | apply below_drew1) | exact HB.out)) hb); clear HB; have HB := n0_; clear n0_; (try clear hb); (try clear hb2); (try clear hk); (try clear hi)))
                    go_meet
                    case rel => exact ⟨_, ((t188 != t189)), (by first | rfl | (simp; done) | (simp [*]; done)), H', ⟨by have := HJ6.out; have := HJ31.out; first | omega | exact Nat.le_refl _⟩, ⟨by repeat (first | (with_reducible first | exact HB.out | apply below_alloc | apply pw_below_drewN | apply below_drew1) | exact HB.out)⟩⟩
                  · replace c71 := Bool.eq_false_iff.mpr c71
                    subst c71
                    have H1 : ((name_Like.f a0 a1).bind fun t190 => (if t190 = true then ((name_Reserved.f kj31 a0).bind fun t191 => ((name_Reserved.f kj31 a1).bind fun t192 => (yanklinelaw06_NameOnce.j2 kj31 a0 a1 (t191 != t192)))) else (yanklinelaw06_NameOnce.j2 kj31 a0 a1 false))) = some r := by rw [if_neg (show ¬ (false = true) by decide)] at H; exact H
                    clear H
                    have H := H1
                    clear H1
                    replace H := Option.bind_eq_some_iff.mp H
                    obtain ⟨t190, A770, H⟩ := H
                    replace H : (if t190 = true then ((name_Reserved.f kj31 a0).bind fun t191 => ((name_Reserved.f kj31 a1).bind fun t192 => (yanklinelaw06_NameOnce.j2 kj31 a0 a1 (t191 != t192)))) else (yanklinelaw06_NameOnce.j2 kj31 a0 a1 false)) = some r := H
                    have A77 := Aside0.mk A770
                    clear A770
                    by_cases c78 : t190 = true
                    · subst c78
                      have H1 : ((name_Reserved.f kj31 a0).bind fun t191 => ((name_Reserved.f kj31 a1).bind fun t192 => (yanklinelaw06_NameOnce.j2 kj31 a0 a1 (t191 != t192)))) = some r := by rw [if_pos rfl] at H; exact H
                      clear H
                      have H := H1
                      clear H1
                      replace H := Option.bind_eq_some_iff.mp H
                      obtain ⟨t191, A790, H⟩ := H
                      replace H : ((name_Reserved.f kj31 a1).bind fun t192 => (yanklinelaw06_NameOnce.j2 kj31 a0 a1 (t191 != t192))) = some r := H
                      have A79 := Aside0.mk A790
                      clear A790
                      replace H := Option.bind_eq_some_iff.mp H
                      obtain ⟨t192, A800, H⟩ := H
                      replace H : (yanklinelaw06_NameOnce.j2 kj31 a0 a1 (t191 != t192)) = some r := H
                      have A80 := Aside0.mk A800
                      clear A800
                      have H' := Aside0.mk H
                      clear H
                      go_wp2_with (first | ((with_reducible refine gate_callee (f := 13) rfl ?_); refine goesL_ (some 105) rfl rfl Try.func13 (by kernel_rfl) rfl #[.string a0, .string a1] rfl (by (try simp only [List.map_toArray, List.map_cons, List.map_nil]); first | done | rfl | (simp only [List.length_drop, List.length_take]; rfl)) ?_; (with_reducible refine (name_Same.calls a0 a1 false _ A70.out).mono ?_); rintro e w81 ⟨rfl, hb⟩; refine ⟨_, rfl, ?_⟩; have n0_ := Aside0.mk (below_step (by repeat (first | (with_reducible first | exact HB.out | apply below_alloc | apply pw_below_drewN | apply below_drew1) | exact HB.out)) hb); clear HB; have HB := n0_; clear n0_; (try clear hb); (try clear hb2); (try clear hk); (try clear hi)) | (go_at_call 14; (with_reducible refine (name_Like.calls a0 a1 true _ A77.out).mono ?_); rintro e w82 ⟨rfl, hb⟩; have n0_ := Aside0.mk (below_step (by repeat (first | (with_reducible first | exact HB.out | apply below_alloc | apply pw_below_drewN | apply below_drew1) | exact HB.out)) hb); clear HB; have HB := n0_; clear n0_; (try clear hb); (try clear hb2); (try clear hk); (try clear hi)) | (go_at_call 7; (with_reducible refine (name_Reserved.calls kj31 a0 t191 _ A79.out).mono ?_); rintro e w83 ⟨rfl, hb⟩; have n0_ := Aside0.mk (below_step (by repeat (first | (with_reducible first | exact HB.out | apply below_alloc | apply pw_below_drewN | apply below_drew1) | exact HB.out)) hb); clear HB; have HB := n0_; clear n0_; (try clear hb); (try clear hb2); (try clear hk); (try clear hi)) | (go_at_call 7; (with_reducible refine (name_Reserved.calls kj31 a1 t192 _ A80.out).mono ?_); rintro e w84 ⟨rfl, hb⟩; have n0_ := Aside0.mk (below_step (by repeat (first | (with_reducible first | exact HB.out | apply below_alloc | apply pw_below_drewN | apply below_drew1) | exact HB.out)) hb); clear HB; have HB := n0_; clear n0_; (try clear hb); (try clear hb2); (try clear hk); (try clear hi)))
                      go_meet
                      case rel => exact ⟨_, ((t191 != t192)), (by first | rfl | (simp; done) | (simp [*]; done)), H', ⟨by have := HJ6.out; have := HJ31.out; first | omega | exact Nat.le_refl _⟩, ⟨by repeat (first | (with_reducible first | exact HB.out | apply below_alloc | apply pw_below_drewN | apply below_drew1) | exact HB.out)⟩⟩
                    · replace c78 := Bool.eq_false_iff.mpr c78
                      subst c78
                      have H1 : (yanklinelaw06_NameOnce.j2 kj31 a0 a1 false) = some r := by rw [if_neg (show ¬ (false = true) by decide)] at H; exact H
                      clear H
                      have H := H1
                      clear H1
                      have H' := Aside0.mk H
                      clear H
                      go_wp2_with (first | ((with_reducible refine gate_callee (f := 13) rfl ?_); refine goesL_ (some 105) rfl rfl Try.func13 (by kernel_rfl) rfl #[.string a0, .string a1] rfl (by (try simp only [List.map_toArray, List.map_cons, List.map_nil]); first | done | rfl | (simp only [List.length_drop, List.length_take]; rfl)) ?_; (with_reducible refine (name_Same.calls a0 a1 false _ A70.out).mono ?_); rintro e w85 ⟨rfl, hb⟩; refine ⟨_, rfl, ?_⟩; have n0_ := Aside0.mk (below_step (by repeat (first | (with_reducible first | exact HB.out | apply below_alloc | apply pw_below_drewN | apply below_drew1) | exact HB.out)) hb); clear HB; have HB := n0_; clear n0_; (try clear hb); (try clear hb2); (try clear hk); (try clear hi)) | (go_at_call 14; (with_reducible refine (name_Like.calls a0 a1 false _ A77.out).mono ?_); rintro e w86 ⟨rfl, hb⟩; have n0_ := Aside0.mk (below_step (by repeat (first | (with_reducible first | exact HB.out | apply below_alloc | apply pw_below_drewN | apply below_drew1) | exact HB.out)) hb); clear HB; have HB := n0_; clear n0_; (try clear hb); (try clear hb2); (try clear hk); (try clear hi)))
                      go_meet
                      case rel => exact ⟨_, (false), (by first | rfl | (simp; done) | (simp [*]; done)), H', ⟨by have := HJ6.out; have := HJ31.out; first | omega | exact Nat.le_refl _⟩, ⟨by repeat (first | (with_reducible first | exact HB.out | apply below_alloc | apply pw_below_drewN | apply below_drew1) | exact HB.out)⟩⟩
                case rest =>
                  clear HC69
                  try clear c1
                  try clear p2
                  try clear c3
                  try clear c4
                  try clear c5
                  try clear c5b0
                  try clear c5b1
                  try clear c6
                  try clear c7
                  try clear c10
                  try clear c10b0
                  try clear c10b1
                  try clear c11
                  try clear c11b0
                  try clear c11b1
                  try clear c12
                  try clear c13
                  try clear c15
                  try clear c17
                  try clear c31
                  try clear c35
                  try clear c35b0
                  try clear c35b1
                  try clear c35b2
                  try clear c40
                  try clear c40b0
                  try clear c40b1
                  try clear c40b2
                  try clear c46
                  try clear c48
                  try clear c68
                  try clear c71
                  try clear c78
                  try clear p2
                  obtain ⟨kq, x117_68, rfl, HA, HJ68, HB⟩ := hcut
                  cases kq with
                  | zero => exact absurd HA.out (by simp [yanklinelaw06_NameOnce.j2])
                  | succ kj68 =>
                    have H := HA.out
                    clear HA
                    simp only [yanklinelaw06_NameOnce.j2] at H
                    by_cases c87 : x117_68 = true
                    · subst c87
                      have H1 : (some false) = some r := by rw [if_pos rfl] at H; exact H
                      clear H
                      have H := H1
                      clear H1
                      obtain rfl := Option.some.inj H
                      go_wp2
                      go_ret
                      exact ⟨by first | rfl | (simp [errW_none, errW_some] <;> rfl) | (simp [*, errW_none, errW_some] <;> rfl), by repeat (first | (with_reducible first | exact HB.out | apply below_alloc | apply pw_below_drewN | apply below_drew1) | exact HB.out)⟩
                    · replace c87 := Bool.eq_false_iff.mpr c87
                      subst c87
                      have H1 : ((name_Same.f a0 a1).bind fun t193 => (if t193 = true then ((name_Like.f a0 a1).bind fun t194 => (if t194 = true then (some false) else ((yanklinelaw06_alive.f kj68).bind fun t195 => (some t195)))) else ((yanklinelaw06_alive.f kj68).bind fun t196 => (some t196)))) = some r := by rw [if_neg (show ¬ (false = true) by decide)] at H; exact H
                      clear H
                      have H := H1
                      clear H1
                      replace H := Option.bind_eq_some_iff.mp H
                      obtain ⟨t193, A880, H⟩ := H
                      replace H : (if t193 = true then ((name_Like.f a0 a1).bind fun t194 => (if t194 = true then (some false) else ((yanklinelaw06_alive.f kj68).bind fun t195 => (some t195)))) else ((yanklinelaw06_alive.f kj68).bind fun t196 => (some t196))) = some r := H
                      have A88 := Aside0.mk A880
                      clear A880
                      by_cases c89 : t193 = true
                      · subst c89
                        have H1 : ((name_Like.f a0 a1).bind fun t194 => (if t194 = true then (some false) else ((yanklinelaw06_alive.f kj68).bind fun t195 => (some t195)))) = some r := by rw [if_pos rfl] at H; exact H
                        clear H
                        have H := H1
                        clear H1
                        replace H := Option.bind_eq_some_iff.mp H
                        obtain ⟨t194, A900, H⟩ := H
                        replace H : (if t194 = true then (some false) else ((yanklinelaw06_alive.f kj68).bind fun t195 => (some t195))) = some r := H
                        have A90 := Aside0.mk A900
                        clear A900
                        by_cases c91 : t194 = true
                        · subst c91
                          have H1 : (some false) = some r := by rw [if_pos rfl] at H; exact H
                          clear H
                          have H := H1
                          clear H1
                          obtain rfl := Option.some.inj H
                          go_wp2_with (first | ((with_reducible refine gate_callee (f := 13) rfl ?_); refine goesL_ (some 120) rfl rfl Try.func13 (by kernel_rfl) rfl #[.string a0, .string a1] rfl (by (try simp only [List.map_toArray, List.map_cons, List.map_nil]); first | done | rfl | (simp only [List.length_drop, List.length_take]; rfl)) ?_; (with_reducible refine (name_Same.calls a0 a1 true _ A88.out).mono ?_); rintro e w92 ⟨rfl, hb⟩; refine ⟨_, rfl, ?_⟩; have n0_ := Aside0.mk (below_step (by repeat (first | (with_reducible first | exact HB.out | apply below_alloc | apply pw_below_drewN | apply below_drew1) | exact HB.out)) hb); clear HB; have HB := n0_; clear n0_; (try clear hb); (try clear hb2); (try clear hk); (try clear hi)) | (go_at_call 14; (with_reducible refine (name_Like.calls a0 a1 true _ A90.out).mono ?_); rintro e w93 ⟨rfl, hb⟩; have n0_ := Aside0.mk (below_step (by repeat (first | (with_reducible first | exact HB.out | apply below_alloc | apply pw_below_drewN | apply below_drew1) | exact HB.out)) hb); clear HB; have HB := n0_; clear n0_; (try clear hb); (try clear hb2); (try clear hk); (try clear hi)))
                          go_ret
                          exact ⟨by first | rfl | (simp [errW_none, errW_some] <;> rfl) | (simp [*, errW_none, errW_some] <;> rfl), by repeat (first | (with_reducible first | exact HB.out | apply below_alloc | apply pw_below_drewN | apply below_drew1) | exact HB.out)⟩
                        · replace c91 := Bool.eq_false_iff.mpr c91
                          subst c91
                          have H1 : ((yanklinelaw06_alive.f kj68).bind fun t195 => (some t195)) = some r := by rw [if_neg (show ¬ (false = true) by decide)] at H; exact H
                          clear H
                          have H := H1
                          clear H1
                          replace H := Option.bind_eq_some_iff.mp H
                          obtain ⟨t195, A940, H⟩ := H
                          replace H : (some t195) = some r := H
                          have A94 := Aside0.mk A940
                          clear A940
                          obtain rfl := Option.some.inj H
                          go_wp2_with (first | ((with_reducible refine gate_callee (f := 13) rfl ?_); refine goesL_ (some 120) rfl rfl Try.func13 (by kernel_rfl) rfl #[.string a0, .string a1] rfl (by (try simp only [List.map_toArray, List.map_cons, List.map_nil]); first | done | rfl | (simp only [List.length_drop, List.length_take]; rfl)) ?_; (with_reducible refine (name_Same.calls a0 a1 true _ A88.out).mono ?_); rintro e w95 ⟨rfl, hb⟩; refine ⟨_, rfl, ?_⟩; have n0_ := Aside0.mk (below_step (by repeat (first | (with_reducible first | exact HB.out | apply below_alloc | apply pw_below_drewN | apply below_drew1) | exact HB.out)) hb); clear HB; have HB := n0_; clear n0_; (try clear hb); (try clear hb2); (try clear hk); (try clear hi)) | (go_at_call 14; (with_reducible refine (name_Like.calls a0 a1 false _ A90.out).mono ?_); rintro e w96 ⟨rfl, hb⟩; have n0_ := Aside0.mk (below_step (by repeat (first | (with_reducible first | exact HB.out | apply below_alloc | apply pw_below_drewN | apply below_drew1) | exact HB.out)) hb); clear HB; have HB := n0_; clear n0_; (try clear hb); (try clear hb2); (try clear hk); (try clear hi)) | (go_at_call 11; (with_reducible refine (yanklinelaw06_alive.calls kj68  t195 _ A94.out).mono ?_); rintro e w97 ⟨rfl, hb⟩; have n0_ := Aside0.mk (below_step (by repeat (first | (with_reducible first | exact HB.out | apply below_alloc | apply pw_below_drewN | apply below_drew1) | exact HB.out)) hb); clear HB; have HB := n0_; clear n0_; (try clear hb); (try clear hb2); (try clear hk); (try clear hi)))
                          go_ret
                          exact ⟨by first | rfl | (simp [errW_none, errW_some] <;> rfl) | (simp [*, errW_none, errW_some] <;> rfl), by repeat (first | (with_reducible first | exact HB.out | apply below_alloc | apply pw_below_drewN | apply below_drew1) | exact HB.out)⟩
                      · replace c89 := Bool.eq_false_iff.mpr c89
                        subst c89
                        have H1 : ((yanklinelaw06_alive.f kj68).bind fun t196 => (some t196)) = some r := by rw [if_neg (show ¬ (false = true) by decide)] at H; exact H
                        clear H
                        have H := H1
                        clear H1
                        replace H := Option.bind_eq_some_iff.mp H
                        obtain ⟨t196, A980, H⟩ := H
                        replace H : (some t196) = some r := H
                        have A98 := Aside0.mk A980
                        clear A980
                        obtain rfl := Option.some.inj H
                        go_wp2_with (first | ((with_reducible refine gate_callee (f := 13) rfl ?_); refine goesL_ (some 120) rfl rfl Try.func13 (by kernel_rfl) rfl #[.string a0, .string a1] rfl (by (try simp only [List.map_toArray, List.map_cons, List.map_nil]); first | done | rfl | (simp only [List.length_drop, List.length_take]; rfl)) ?_; (with_reducible refine (name_Same.calls a0 a1 false _ A88.out).mono ?_); rintro e w99 ⟨rfl, hb⟩; refine ⟨_, rfl, ?_⟩; have n0_ := Aside0.mk (below_step (by repeat (first | (with_reducible first | exact HB.out | apply below_alloc | apply pw_below_drewN | apply below_drew1) | exact HB.out)) hb); clear HB; have HB := n0_; clear n0_; (try clear hb); (try clear hb2); (try clear hk); (try clear hi)) | (go_at_call 11; (with_reducible refine (yanklinelaw06_alive.calls kj68  t196 _ A98.out).mono ?_); rintro e w100 ⟨rfl, hb⟩; have n0_ := Aside0.mk (below_step (by repeat (first | (with_reducible first | exact HB.out | apply below_alloc | apply pw_below_drewN | apply below_drew1) | exact HB.out)) hb); clear HB; have HB := n0_; clear n0_; (try clear hb); (try clear hb2); (try clear hk); (try clear hi)))
                        go_ret
                        exact ⟨by first | rfl | (simp [errW_none, errW_some] <;> rfl) | (simp [*, errW_none, errW_some] <;> rfl), by repeat (first | (with_reducible first | exact HB.out | apply below_alloc | apply pw_below_drewN | apply below_drew1) | exact HB.out)⟩
  · rw [if_neg c5] at H
    have c5b0 : (t168 == 0) = false := beq_eq_false_iff_ne.mpr c5
    have c5b1 : (t168 != 0) = true := bne_iff_ne.mpr c5
    replace H := Option.bind_eq_some_iff.mp H
    obtain ⟨t169, A1010, H⟩ := H
    replace H : (if t169 = true then (some false) else ((name_Like.f a0 a1).bind fun t170 => (if t170 = true then (some false) else ((name_Reserved.f k a0).bind fun t171 => (if t171 = true then (some false) else ((yanklinelaw06_alive.f k).bind fun t172 => (some t172))))))) = some r := H
    have A101 := Aside0.mk A1010
    clear A1010
    by_cases c102 : t169 = true
    · subst c102
      have H1 : (some false) = some r := by rw [if_pos rfl] at H; exact H
      clear H
      have H := H1
      clear H1
      obtain rfl := Option.some.inj H
      go_enter Try.func4, Try.ntmps4
      go_wp2_with (first | ((with_reducible refine gate_callee (f := 12) rfl ?_); refine goesL_ (some 13) rfl rfl Try.func12 (by kernel_rfl) rfl #[.string a0] rfl (by (try simp only [List.map_toArray, List.map_cons, List.map_nil]); first | done | rfl | (simp only [List.length_drop, List.length_take]; rfl)) ?_; (with_reducible refine (name_Norm.calls a0 t167 t168 _ A4.out).mono ?_); rintro e w103 ⟨rfl, hb⟩; refine ⟨_, rfl, ?_⟩; have n0_ := Aside0.mk (below_step (by repeat (first | (with_reducible first | exact HB.out | apply below_alloc | apply pw_below_drewN | apply below_drew1) | exact HB.out)) hb); clear HB; have HB := n0_; clear n0_; (try clear hb); (try clear hb2); (try clear hk); (try clear hi)) | ((with_reducible refine gate_callee (f := 13) rfl ?_); refine goesL_ (some 20) rfl rfl Try.func13 (by kernel_rfl) rfl #[.string a0, .string a0] rfl (by (try simp only [List.map_toArray, List.map_cons, List.map_nil]); first | done | rfl | (simp only [List.length_drop, List.length_take]; rfl)) ?_; (with_reducible refine (name_Same.calls a0 a0 true _ A101.out).mono ?_); rintro e w104 ⟨rfl, hb⟩; refine ⟨_, rfl, ?_⟩; have n0_ := Aside0.mk (below_step (by repeat (first | (with_reducible first | exact HB.out | apply below_alloc | apply pw_below_drewN | apply below_drew1) | exact HB.out)) hb); clear HB; have HB := n0_; clear n0_; (try clear hb); (try clear hb2); (try clear hk); (try clear hi)))
      go_ret
      exact ⟨by first | rfl | (simp [errW_none, errW_some] <;> rfl) | (simp [*, errW_none, errW_some] <;> rfl), by repeat (first | (with_reducible first | exact HB.out | apply below_alloc | apply pw_below_drewN | apply below_drew1) | exact HB.out)⟩
    · replace c102 := Bool.eq_false_iff.mpr c102
      subst c102
      have H1 : ((name_Like.f a0 a1).bind fun t170 => (if t170 = true then (some false) else ((name_Reserved.f k a0).bind fun t171 => (if t171 = true then (some false) else ((yanklinelaw06_alive.f k).bind fun t172 => (some t172)))))) = some r := by rw [if_neg (show ¬ (false = true) by decide)] at H; exact H
      clear H
      have H := H1
      clear H1
      replace H := Option.bind_eq_some_iff.mp H
      obtain ⟨t170, A1050, H⟩ := H
      replace H : (if t170 = true then (some false) else ((name_Reserved.f k a0).bind fun t171 => (if t171 = true then (some false) else ((yanklinelaw06_alive.f k).bind fun t172 => (some t172))))) = some r := H
      have A105 := Aside0.mk A1050
      clear A1050
      by_cases c106 : t170 = true
      · subst c106
        have H1 : (some false) = some r := by rw [if_pos rfl] at H; exact H
        clear H
        have H := H1
        clear H1
        obtain rfl := Option.some.inj H
        go_enter Try.func4, Try.ntmps4
        go_wp2_with (first | ((with_reducible refine gate_callee (f := 12) rfl ?_); refine goesL_ (some 13) rfl rfl Try.func12 (by kernel_rfl) rfl #[.string a0] rfl (by (try simp only [List.map_toArray, List.map_cons, List.map_nil]); first | done | rfl | (simp only [List.length_drop, List.length_take]; rfl)) ?_; (with_reducible refine (name_Norm.calls a0 t167 t168 _ A4.out).mono ?_); rintro e w107 ⟨rfl, hb⟩; refine ⟨_, rfl, ?_⟩; have n0_ := Aside0.mk (below_step (by repeat (first | (with_reducible first | exact HB.out | apply below_alloc | apply pw_below_drewN | apply below_drew1) | exact HB.out)) hb); clear HB; have HB := n0_; clear n0_; (try clear hb); (try clear hb2); (try clear hk); (try clear hi)) | ((with_reducible refine gate_callee (f := 13) rfl ?_); refine goesL_ (some 20) rfl rfl Try.func13 (by kernel_rfl) rfl #[.string a0, .string a0] rfl (by (try simp only [List.map_toArray, List.map_cons, List.map_nil]); first | done | rfl | (simp only [List.length_drop, List.length_take]; rfl)) ?_; (with_reducible refine (name_Same.calls a0 a0 false _ A101.out).mono ?_); rintro e w108 ⟨rfl, hb⟩; refine ⟨_, rfl, ?_⟩; have n0_ := Aside0.mk (below_step (by repeat (first | (with_reducible first | exact HB.out | apply below_alloc | apply pw_below_drewN | apply below_drew1) | exact HB.out)) hb); clear HB; have HB := n0_; clear n0_; (try clear hb); (try clear hb2); (try clear hk); (try clear hi)) | (go_at_call 14; (with_reducible refine (name_Like.calls a0 a1 true _ A105.out).mono ?_); rintro e w109 ⟨rfl, hb⟩; have n0_ := Aside0.mk (below_step (by repeat (first | (with_reducible first | exact HB.out | apply below_alloc | apply pw_below_drewN | apply below_drew1) | exact HB.out)) hb); clear HB; have HB := n0_; clear n0_; (try clear hb); (try clear hb2); (try clear hk); (try clear hi)))
        go_ret
        exact ⟨by first | rfl | (simp [errW_none, errW_some] <;> rfl) | (simp [*, errW_none, errW_some] <;> rfl), by repeat (first | (with_reducible first | exact HB.out | apply below_alloc | apply pw_below_drewN | apply below_drew1) | exact HB.out)⟩
      · replace c106 := Bool.eq_false_iff.mpr c106
        subst c106
        have H1 : ((name_Reserved.f k a0).bind fun t171 => (if t171 = true then (some false) else ((yanklinelaw06_alive.f k).bind fun t172 => (some t172)))) = some r := by rw [if_neg (show ¬ (false = true) by decide)] at H; exact H
        clear H
        have H := H1
        clear H1
        replace H := Option.bind_eq_some_iff.mp H
        obtain ⟨t171, A1100, H⟩ := H
        replace H : (if t171 = true then (some false) else ((yanklinelaw06_alive.f k).bind fun t172 => (some t172))) = some r := H
        have A110 := Aside0.mk A1100
        clear A1100
        by_cases c111 : t171 = true
        · subst c111
          have H1 : (some false) = some r := by rw [if_pos rfl] at H; exact H
          clear H
          have H := H1
          clear H1
          obtain rfl := Option.some.inj H
          go_enter Try.func4, Try.ntmps4
          go_wp2_with (first | ((with_reducible refine gate_callee (f := 12) rfl ?_); refine goesL_ (some 13) rfl rfl Try.func12 (by kernel_rfl) rfl #[.string a0] rfl (by (try simp only [List.map_toArray, List.map_cons, List.map_nil]); first | done | rfl | (simp only [List.length_drop, List.length_take]; rfl)) ?_; (with_reducible refine (name_Norm.calls a0 t167 t168 _ A4.out).mono ?_); rintro e w112 ⟨rfl, hb⟩; refine ⟨_, rfl, ?_⟩; have n0_ := Aside0.mk (below_step (by repeat (first | (with_reducible first | exact HB.out | apply below_alloc | apply pw_below_drewN | apply below_drew1) | exact HB.out)) hb); clear HB; have HB := n0_; clear n0_; (try clear hb); (try clear hb2); (try clear hk); (try clear hi)) | ((with_reducible refine gate_callee (f := 13) rfl ?_); refine goesL_ (some 20) rfl rfl Try.func13 (by kernel_rfl) rfl #[.string a0, .string a0] rfl (by (try simp only [List.map_toArray, List.map_cons, List.map_nil]); first | done | rfl | (simp only [List.length_drop, List.length_take]; rfl)) ?_; (with_reducible refine (name_Same.calls a0 a0 false _ A101.out).mono ?_); rintro e w113 ⟨rfl, hb⟩; refine ⟨_, rfl, ?_⟩; have n0_ := Aside0.mk (below_step (by repeat (first | (with_reducible first | exact HB.out | apply below_alloc | apply pw_below_drewN | apply below_drew1) | exact HB.out)) hb); clear HB; have HB := n0_; clear n0_; (try clear hb); (try clear hb2); (try clear hk); (try clear hi)) | (go_at_call 14; (with_reducible refine (name_Like.calls a0 a1 false _ A105.out).mono ?_); rintro e w114 ⟨rfl, hb⟩; have n0_ := Aside0.mk (below_step (by repeat (first | (with_reducible first | exact HB.out | apply below_alloc | apply pw_below_drewN | apply below_drew1) | exact HB.out)) hb); clear HB; have HB := n0_; clear n0_; (try clear hb); (try clear hb2); (try clear hk); (try clear hi)) | (go_at_call 7; (with_reducible refine (name_Reserved.calls k a0 true _ A110.out).mono ?_); rintro e w115 ⟨rfl, hb⟩; have n0_ := Aside0.mk (below_step (by repeat (first | (with_reducible first | exact HB.out | apply below_alloc | apply pw_below_drewN | apply below_drew1) | exact HB.out)) hb); clear HB; have HB := n0_; clear n0_; (try clear hb); (try clear hb2); (try clear hk); (try clear hi)))
          go_ret
          exact ⟨by first | rfl | (simp [errW_none, errW_some] <;> rfl) | (simp [*, errW_none, errW_some] <;> rfl), by repeat (first | (with_reducible first | exact HB.out | apply below_alloc | apply pw_below_drewN | apply below_drew1) | exact HB.out)⟩
        · replace c111 := Bool.eq_false_iff.mpr c111
          subst c111
          have H1 : ((yanklinelaw06_alive.f k).bind fun t172 => (some t172)) = some r := by rw [if_neg (show ¬ (false = true) by decide)] at H; exact H
          clear H
          have H := H1
          clear H1
          replace H := Option.bind_eq_some_iff.mp H
          obtain ⟨t172, A1160, H⟩ := H
          replace H : (some t172) = some r := H
          have A116 := Aside0.mk A1160
          clear A1160
          obtain rfl := Option.some.inj H
          go_enter Try.func4, Try.ntmps4
          go_wp2_with (first | ((with_reducible refine gate_callee (f := 12) rfl ?_); refine goesL_ (some 13) rfl rfl Try.func12 (by kernel_rfl) rfl #[.string a0] rfl (by (try simp only [List.map_toArray, List.map_cons, List.map_nil]); first | done | rfl | (simp only [List.length_drop, List.length_take]; rfl)) ?_; (with_reducible refine (name_Norm.calls a0 t167 t168 _ A4.out).mono ?_); rintro e w117 ⟨rfl, hb⟩; refine ⟨_, rfl, ?_⟩; have n0_ := Aside0.mk (below_step (by repeat (first | (with_reducible first | exact HB.out | apply below_alloc | apply pw_below_drewN | apply below_drew1) | exact HB.out)) hb); clear HB; have HB := n0_; clear n0_; (try clear hb); (try clear hb2); (try clear hk); (try clear hi)) | ((with_reducible refine gate_callee (f := 13) rfl ?_); refine goesL_ (some 20) rfl rfl Try.func13 (by kernel_rfl) rfl #[.string a0, .string a0] rfl (by (try simp only [List.map_toArray, List.map_cons, List.map_nil]); first | done | rfl | (simp only [List.length_drop, List.length_take]; rfl)) ?_; (with_reducible refine (name_Same.calls a0 a0 false _ A101.out).mono ?_); rintro e w118 ⟨rfl, hb⟩; refine ⟨_, rfl, ?_⟩; have n0_ := Aside0.mk (below_step (by repeat (first | (with_reducible first | exact HB.out | apply below_alloc | apply pw_below_drewN | apply below_drew1) | exact HB.out)) hb); clear HB; have HB := n0_; clear n0_; (try clear hb); (try clear hb2); (try clear hk); (try clear hi)) | (go_at_call 14; (with_reducible refine (name_Like.calls a0 a1 false _ A105.out).mono ?_); rintro e w119 ⟨rfl, hb⟩; have n0_ := Aside0.mk (below_step (by repeat (first | (with_reducible first | exact HB.out | apply below_alloc | apply pw_below_drewN | apply below_drew1) | exact HB.out)) hb); clear HB; have HB := n0_; clear n0_; (try clear hb); (try clear hb2); (try clear hk); (try clear hi)) | (go_at_call 7; (with_reducible refine (name_Reserved.calls k a0 false _ A110.out).mono ?_); rintro e w120 ⟨rfl, hb⟩; have n0_ := Aside0.mk (below_step (by repeat (first | (with_reducible first | exact HB.out | apply below_alloc | apply pw_below_drewN | apply below_drew1) | exact HB.out)) hb); clear HB; have HB := n0_; clear n0_; (try clear hb); (try clear hb2); (try clear hk); (try clear hi)) | (go_at_call 11; (with_reducible refine (yanklinelaw06_alive.calls k  t172 _ A116.out).mono ?_); rintro e w121 ⟨rfl, hb⟩; have n0_ := Aside0.mk (below_step (by repeat (first | (with_reducible first | exact HB.out | apply below_alloc | apply pw_below_drewN | apply below_drew1) | exact HB.out)) hb); clear HB; have HB := n0_; clear n0_; (try clear hb); (try clear hb2); (try clear hk); (try clear hi)))
          go_ret
          exact ⟨by first | rfl | (simp [errW_none, errW_some] <;> rfl) | (simp [*, errW_none, errW_some] <;> rfl), by repeat (first | (with_reducible first | exact HB.out | apply below_alloc | apply pw_below_drewN | apply below_drew1) | exact HB.out)⟩

/-- THE ONE PURE STATEMENT of yanklinelaw06_NameOnce: yours. -/
def yanklinelaw06_NameOnce.Pure : Prop := ∀ (a0 : ByteArray) (a1 : ByteArray) (a2 : ByteArray), a0.size ≤ 140737488351232 → a1.size ≤ 140737488351232 → a2.size ≤ 140737488351232 → ∃ k, yanklinelaw06_NameOnce.f k a0 a1 a2 = some true
theorem yanklinelaw06_NameOnce.walk (P : yanklinelaw06_NameOnce.Pure) (a0 : ByteArray) (a1 : ByteArray) (a2 : ByteArray) (w : World) (w0 : a0.size ≤ 140737488351232) (w1 : a1.size ≤ 140737488351232) (w2 : a2.size ≤ 140737488351232) :
    Calls Try.prog 4 #[.string a0, .string a1, .string a2] w fun e w' => e = .returned (.bool true) ∧ Below w.heap.size w w' := by
  obtain ⟨k, h⟩ := P a0 a1 a2 w0 w1 w2
  refine (yanklinelaw06_NameOnce.calls k a0 a1 a2 true w h).mono ?_
  rintro e w' ⟨rfl, hd⟩
  exact ⟨rfl, hd⟩

/-! ### yanklineref06_Norm: function 16 -/
def yanklineref06_Norm.f (k : Nat) (a0 : ByteArray) : Option (ByteArray × Int) := (yanklineref06_May.f k a0).bind fun t197 => (if t197 = true then ((yanklineref06_form.f k a0 (⟨#[45]⟩ : ByteArray)).bind fun t198 => (some (t198, 0))) else (some ((⟨#[]⟩ : ByteArray), 60)))
theorem yanklineref06_Norm.mono : ∀ a0 k, LeO (yanklineref06_Norm.f k a0) (yanklineref06_Norm.f (k + 1) a0) := by
  intro a0 k
  unfold yanklineref06_Norm.f
  repeat' first
      | (with_reducible exact yanklineref06_May.mono _ _)
      | (with_reducible exact yanklineref06_form.mono _ _ _)
      | (with_reducible exact LeO.refl _)
      | (with_reducible exact LeO.none _)
      | (with_reducible refine LeO.ite ?_ ?_)
      | (with_reducible refine LeO.bind ?_ (fun _ => ?_))
      | exact yanklineref06_May.mono _ _
      | exact yanklineref06_form.mono _ _ _
      | exact LeO.none _
      | refine LeO.ite ?_ ?_
      | refine LeO.bind ?_ (fun _ => ?_)
set_option maxHeartbeats 8000000 in
set_option maxRecDepth 100000 in
theorem yanklineref06_Norm.calls (k : Nat) (a0 : ByteArray) (r1 : ByteArray) (r2 : Int) (w : World) (h : yanklineref06_Norm.f k a0 = some (r1, r2)) :
    Calls Try.prog 16 #[.string a0] w fun e w' => e = .returned (.tuple #[.string r1, .int .i64 r2]) ∧ Below w.heap.size w w' := by
  have HB := Aside0.mk (Below.refl w.heap.size w)
  have H : ((yanklineref06_May.f k a0).bind fun t197 => (if t197 = true then ((yanklineref06_form.f k a0 (⟨#[45]⟩ : ByteArray)).bind fun t198 => (some (t198, 0))) else (some ((⟨#[]⟩ : ByteArray), 60)))) = some (r1, r2) := h
  clear h
  replace H := Option.bind_eq_some_iff.mp H
  obtain ⟨t197, A20, H⟩ := H
  replace H : (if t197 = true then ((yanklineref06_form.f k a0 (⟨#[45]⟩ : ByteArray)).bind fun t198 => (some (t198, 0))) else (some ((⟨#[]⟩ : ByteArray), 60))) = some (r1, r2) := H
  have A2 := Aside0.mk A20
  clear A20
  by_cases c3 : t197 = true
  · subst c3
    have H1 : ((yanklineref06_form.f k a0 (⟨#[45]⟩ : ByteArray)).bind fun t198 => (some (t198, 0))) = some (r1, r2) := by rw [if_pos rfl] at H; exact H
    clear H
    have H := H1
    clear H1
    replace H := Option.bind_eq_some_iff.mp H
    obtain ⟨t198, A40, H⟩ := H
    replace H : (some (t198, 0)) = some (r1, r2) := H
    have A4 := Aside0.mk A40
    clear A40
    simp only [Option.some.injEq, Prod.mk.injEq] at H
    obtain ⟨rfl, rfl⟩ := H
    go_enter Try.func16, Try.ntmps16
    go_wp2_with (first | ((with_reducible refine gate_callee (f := 28) rfl ?_); refine goesL_ (some 5) rfl rfl Try.func28 (by kernel_rfl) rfl #[.string a0] rfl (by (try simp only [List.map_toArray, List.map_cons, List.map_nil]); first | done | rfl | (simp only [List.length_drop, List.length_take]; rfl)) ?_; (with_reducible refine (yanklineref06_May.calls k a0 true _ A2.out).mono ?_); rintro e w' ⟨rfl, ⟨nd, rfl⟩⟩; refine ⟨_, rfl, ?_⟩) | ((with_reducible refine gate_callee (f := 29) rfl ?_); refine goesL_ (some 8) rfl rfl Try.func29 (by kernel_rfl) rfl #[.string a0, .string (⟨#[45]⟩ : ByteArray)] rfl (by (try simp only [List.map_toArray, List.map_cons, List.map_nil]); first | done | rfl | (simp only [List.length_drop, List.length_take]; rfl)) ?_; (with_reducible refine (yanklineref06_form.calls k a0 (⟨#[45]⟩ : ByteArray) t198 _ A4.out).mono ?_); rintro e w5 ⟨rfl, hb⟩; refine ⟨_, rfl, ?_⟩; have n0_ := Aside0.mk (below_step (by repeat (first | (with_reducible first | exact HB.out | apply below_alloc | apply pw_below_drewN | apply below_drew1) | exact HB.out)) hb); clear HB; have HB := n0_; clear n0_; (try clear hb); (try clear hb2); (try clear hk); (try clear hi)))
    go_ret2
    exact ⟨by first | rfl | (simp [errW_none, errW_some] <;> rfl) | (simp [*, errW_none, errW_some] <;> rfl), by repeat (first | (with_reducible first | exact HB.out | apply below_alloc | apply pw_below_drewN | apply below_drew1) | exact HB.out)⟩
  · replace c3 := Bool.eq_false_iff.mpr c3
    subst c3
    have H1 : (some ((⟨#[]⟩ : ByteArray), 60)) = some (r1, r2) := by rw [if_neg (show ¬ (false = true) by decide)] at H; exact H
    clear H
    have H := H1
    clear H1
    simp only [Option.some.injEq, Prod.mk.injEq] at H
    obtain ⟨rfl, rfl⟩ := H
    go_enter Try.func16, Try.ntmps16
    go_wp2_with (first | ((with_reducible refine gate_callee (f := 28) rfl ?_); refine goesL_ (some 5) rfl rfl Try.func28 (by kernel_rfl) rfl #[.string a0] rfl (by (try simp only [List.map_toArray, List.map_cons, List.map_nil]); first | done | rfl | (simp only [List.length_drop, List.length_take]; rfl)) ?_; (with_reducible refine (yanklineref06_May.calls k a0 false _ A2.out).mono ?_); rintro e w' ⟨rfl, ⟨nd, rfl⟩⟩; refine ⟨_, rfl, ?_⟩))
    go_ret2
    exact ⟨by first | rfl | (simp [errW_none, errW_some] <;> rfl) | (simp [*, errW_none, errW_some] <;> rfl), by repeat (first | (with_reducible first | exact HB.out | apply below_alloc | apply pw_below_drewN | apply below_drew1) | exact HB.out)⟩

/-! ### name_Squash: function 17 -/
def name_Squash.f (a0 : ByteArray) : Option (ByteArray × Int) := (name_form.f a0 (⟨#[]⟩ : ByteArray)).bind fun bt199 => (if bt199.2 = true then (some (bt199.1, 0)) else (some ((⟨#[]⟩ : ByteArray), 60)))
set_option maxHeartbeats 8000000 in
set_option maxRecDepth 100000 in
theorem name_Squash.calls (a0 : ByteArray) (r1 : ByteArray) (r2 : Int) (w : World) (h : name_Squash.f a0 = some (r1, r2)) :
    Calls Try.prog 17 #[.string a0] w fun e w' => e = .returned (.tuple #[.string r1, .int .i64 r2]) ∧ Below w.heap.size w w' := by
  have HB := Aside0.mk (Below.refl w.heap.size w)
  have H : ((name_form.f a0 (⟨#[]⟩ : ByteArray)).bind fun bt199 => (if bt199.2 = true then (some (bt199.1, 0)) else (some ((⟨#[]⟩ : ByteArray), 60)))) = some (r1, r2) := h
  clear h
  replace H := Option.bind_eq_some_iff.mp H
  obtain ⟨⟨t199, t200⟩, A20, H⟩ := H
  replace H : (if t200 = true then (some (t199, 0)) else (some ((⟨#[]⟩ : ByteArray), 60))) = some (r1, r2) := H
  have A2 := Aside0.mk A20
  clear A20
  by_cases c3 : t200 = true
  · subst c3
    have H1 : (some (t199, 0)) = some (r1, r2) := by rw [if_pos rfl] at H; exact H
    clear H
    have H := H1
    clear H1
    simp only [Option.some.injEq, Prod.mk.injEq] at H
    obtain ⟨rfl, rfl⟩ := H
    go_enter Try.func17, Try.ntmps17
    go_wp2_with (first | ((with_reducible refine gate_callee (f := 24) rfl ?_); refine goesL_ (some 8) rfl rfl Try.func24 (by kernel_rfl) rfl #[.string a0, .string (⟨#[]⟩ : ByteArray)] rfl (by (try simp only [List.map_toArray, List.map_cons, List.map_nil]); first | done | rfl | (simp only [List.length_drop, List.length_take]; rfl)) ?_; (with_reducible refine (name_form.calls a0 (⟨#[]⟩ : ByteArray) t199 true _ A2.out).mono ?_); rintro e w4 ⟨rfl, hb⟩; refine ⟨_, rfl, ?_⟩; have n0_ := Aside0.mk (below_step (by repeat (first | (with_reducible first | exact HB.out | apply below_alloc | apply pw_below_drewN | apply below_drew1) | exact HB.out)) hb); clear HB; have HB := n0_; clear n0_; (try clear hb); (try clear hb2); (try clear hk); (try clear hi)))
    go_ret2
    exact ⟨by first | rfl | (simp [errW_none, errW_some] <;> rfl) | (simp [*, errW_none, errW_some] <;> rfl), by repeat (first | (with_reducible first | exact HB.out | apply below_alloc | apply pw_below_drewN | apply below_drew1) | exact HB.out)⟩
  · replace c3 := Bool.eq_false_iff.mpr c3
    subst c3
    have H1 : (some ((⟨#[]⟩ : ByteArray), 60)) = some (r1, r2) := by rw [if_neg (show ¬ (false = true) by decide)] at H; exact H
    clear H
    have H := H1
    clear H1
    simp only [Option.some.injEq, Prod.mk.injEq] at H
    obtain ⟨rfl, rfl⟩ := H
    go_enter Try.func17, Try.ntmps17
    go_wp2_with (first | ((with_reducible refine gate_callee (f := 24) rfl ?_); refine goesL_ (some 8) rfl rfl Try.func24 (by kernel_rfl) rfl #[.string a0, .string (⟨#[]⟩ : ByteArray)] rfl (by (try simp only [List.map_toArray, List.map_cons, List.map_nil]); first | done | rfl | (simp only [List.length_drop, List.length_take]; rfl)) ?_; (with_reducible refine (name_form.calls a0 (⟨#[]⟩ : ByteArray) t199 false _ A2.out).mono ?_); rintro e w5 ⟨rfl, hb⟩; refine ⟨_, rfl, ?_⟩; have n0_ := Aside0.mk (below_step (by repeat (first | (with_reducible first | exact HB.out | apply below_alloc | apply pw_below_drewN | apply below_drew1) | exact HB.out)) hb); clear HB; have HB := n0_; clear n0_; (try clear hb); (try clear hb2); (try clear hk); (try clear hi)))
    go_ret2
    exact ⟨by first | rfl | (simp [errW_none, errW_some] <;> rfl) | (simp [*, errW_none, errW_some] <;> rfl), by repeat (first | (with_reducible first | exact HB.out | apply below_alloc | apply pw_below_drewN | apply below_drew1) | exact HB.out)⟩

/-! ### yanklineref06_Is: function 19 -/
def yanklineref06_Is.f (k : Nat) (a0 : ByteArray) : Option (Bool) := (yanklineref06_Norm.f k a0).bind fun bt201 => (if bt201.2 = 0 then (some (bt201.1.toList == a0.toList)) else (some false))
theorem yanklineref06_Is.mono : ∀ a0 k, LeO (yanklineref06_Is.f k a0) (yanklineref06_Is.f (k + 1) a0) := by
  intro a0 k
  unfold yanklineref06_Is.f
  repeat' first
      | (with_reducible exact yanklineref06_Norm.mono _ _)
      | (with_reducible exact LeO.refl _)
      | (with_reducible exact LeO.none _)
      | (with_reducible refine LeO.ite ?_ ?_)
      | (with_reducible refine LeO.bind ?_ (fun _ => ?_))
      | exact yanklineref06_Norm.mono _ _
      | exact LeO.none _
      | refine LeO.ite ?_ ?_
      | refine LeO.bind ?_ (fun _ => ?_)
set_option maxHeartbeats 8000000 in
set_option maxRecDepth 100000 in
theorem yanklineref06_Is.calls (k : Nat) (a0 : ByteArray) (r : Bool) (w : World) (h : yanklineref06_Is.f k a0 = some r) :
    Calls Try.prog 19 #[.string a0] w fun e w' => e = .returned (.bool r) ∧ Below w.heap.size w w' := by
  have HB := Aside0.mk (Below.refl w.heap.size w)
  have H : ((yanklineref06_Norm.f k a0).bind fun bt201 => (if bt201.2 = 0 then (some (bt201.1.toList == a0.toList)) else (some false))) = some r := h
  clear h
  replace H := Option.bind_eq_some_iff.mp H
  obtain ⟨⟨t201, t202⟩, A20, H⟩ := H
  replace H : (if t202 = 0 then (some (t201.toList == a0.toList)) else (some false)) = some r := H
  have A2 := Aside0.mk A20
  clear A20
  by_cases c3 : t202 = 0
  · rw [if_pos c3] at H
    have c3b0 : (t202 == 0) = true := beq_iff_eq.mpr c3
    have c3b1 : (t202 != 0) = false := bne_eq_false_iff_eq.mpr c3
    clear c3
    obtain rfl := Option.some.inj H
    go_enter Try.func19, Try.ntmps19
    go_wp2_with (first | ((with_reducible refine gate_callee (f := 16) rfl ?_); refine goesL_ (some 7) rfl rfl Try.func16 (by kernel_rfl) rfl #[.string a0] rfl (by (try simp only [List.map_toArray, List.map_cons, List.map_nil]); first | done | rfl | (simp only [List.length_drop, List.length_take]; rfl)) ?_; (with_reducible refine (yanklineref06_Norm.calls k a0 t201 t202 _ A2.out).mono ?_); rintro e w4 ⟨rfl, hb⟩; refine ⟨_, rfl, ?_⟩; have n0_ := Aside0.mk (below_step (by repeat (first | (with_reducible first | exact HB.out | apply below_alloc | apply pw_below_drewN | apply below_drew1) | exact HB.out)) hb); clear HB; have HB := n0_; clear n0_; (try clear hb); (try clear hb2); (try clear hk); (try clear hi)))
    go_ret
    exact ⟨by first | rfl | (simp [errW_none, errW_some] <;> rfl) | (simp [*, errW_none, errW_some] <;> rfl), by repeat (first | (with_reducible first | exact HB.out | apply below_alloc | apply pw_below_drewN | apply below_drew1) | exact HB.out)⟩
  · rw [if_neg c3] at H
    have c3b0 : (t202 == 0) = false := beq_eq_false_iff_ne.mpr c3
    have c3b1 : (t202 != 0) = true := bne_iff_ne.mpr c3
    obtain rfl := Option.some.inj H
    go_enter Try.func19, Try.ntmps19
    go_wp2_with (first | ((with_reducible refine gate_callee (f := 16) rfl ?_); refine goesL_ (some 7) rfl rfl Try.func16 (by kernel_rfl) rfl #[.string a0] rfl (by (try simp only [List.map_toArray, List.map_cons, List.map_nil]); first | done | rfl | (simp only [List.length_drop, List.length_take]; rfl)) ?_; (with_reducible refine (yanklineref06_Norm.calls k a0 t201 t202 _ A2.out).mono ?_); rintro e w5 ⟨rfl, hb⟩; refine ⟨_, rfl, ?_⟩; have n0_ := Aside0.mk (below_step (by repeat (first | (with_reducible first | exact HB.out | apply below_alloc | apply pw_below_drewN | apply below_drew1) | exact HB.out)) hb); clear HB; have HB := n0_; clear n0_; (try clear hb); (try clear hb2); (try clear hk); (try clear hi)))
    go_ret
    exact ⟨by first | rfl | (simp [errW_none, errW_some] <;> rfl) | (simp [*, errW_none, errW_some] <;> rfl), by repeat (first | (with_reducible first | exact HB.out | apply below_alloc | apply pw_below_drewN | apply below_drew1) | exact HB.out)⟩

end Go.Proofs.Ytililldgddgdcaa.PA

/- The plain law of VersionTotal. -/
import Derived.Test.YtoiibjipjlkaeaaDoorPlainA
import Derived.Test.YtoiibjipjlkaeaaDoorPVT
namespace Go.Proofs.YtoiibjipjlkaeaaDoor.PV
open Go.RowKit Go.Proofs.YtoiibjipjlkaeaaDoorW.PrintWords Go.Proofs.YtoiibjipjlkaeaaDoorW.PrintLast Go.Proofs.YtoiibjipjlkaeaaDoorW.PrintMore
attribute [local go_sem] max2_int min2_int max_two min_two max_three min_three max_four min_four   -- for this text's walks alone
set_option linter.unusedVariables false
set_option linter.unusedSimpArgs false

theorem ver_inj {s t : ByteArray} {v : Int × Int × Int × List ByteArray} (hs : verOf s = some v) (ht : verOf t = some v) : s = t := by
  obtain ⟨_, x, y, z, a, b, c, e1, e2, e3, e4, rfl, _⟩ := verOf_some hs
  obtain ⟨_, x', y', z', a', b', c', f1, f2, f3, f4, hv, _⟩ := verOf_some ht
  simp only [Prod.mk.injEq] at hv
  obtain ⟨rfl, rfl, rfl, hp⟩ := hv
  obtain rfl := num_inj e2 f2
  obtain rfl := num_inj e3 f3
  obtain rfl := num_inj e4 f4
  have hh : headB s = headB t := spl_inj (e1.trans f1.symm)
  have hne : ∀ u : ByteArray, spl u ≠ [] := fun u h => by have := spl_len u; rw [h] at this; simp at this
  cases p1 : preB s <;> cases p2 : preB t <;> simp only [p1, p2, if_true, Bool.false_eq_true, if_false] at hp
  · exact cut_inj (p1.trans p2.symm) hh (fun h => by rw [p1] at h; cases h)
  · exact absurd hp.symm (hne _)
  · exact absurd hp (hne _)
  · exact cut_inj (p1.trans p2.symm) hh (fun _ => spl_inj hp)
/-- The comparison of two versions, as 'verOf' tells them. -/
def cmpVer (u v : Int × Int × Int × List ByteArray) : Int := cmpV u.1 u.2.1 u.2.2.1 u.2.2.2 v.1 v.2.1 v.2.2.1 v.2.2.2
theorem to_cmpVer : TO cmpVer := by
  have e : cmpVer = fun u v => verC (verK u.1 u.2.1 u.2.2.1 u.2.2.2) (verK v.1 v.2.1 v.2.2.1 v.2.2.2) := by
    funext u v; exact cmpV_key _ _ _ _ _ _ _ _
  rw [e]
  exact to_verC.comap _ (fun u v h => by
    obtain ⟨h1, h2, h3, h4⟩ := verK_inj h
    exact Prod.ext h1 (Prod.ext h2 (Prod.ext h3 h4)))
theorem order_both {s t : ByteArray} {u v : Int × Int × Int × List ByteArray} (hs : verOf s = some u) (ht : verOf t = some v) : version_Order.f s t = some (cmpVer u v, 0) := by
  rw [order_f, hs, ht]; rfl
theorem order_bad {s t : ByteArray} (h : verOf s = none ∨ verOf t = none) : version_Order.f s t = some (0, 70) := by
  rw [order_f]
  rcases h with h | h
  · rw [h]
  · rw [h]; cases verOf s <;> rfl
theorem alive_eq : yanklinelaw07_alive.f = some true := rfl
theorem versionTotal_pure : yanklinelaw07_VersionTotal.Pure := by
  intro a b c _ _ _
  refine ⟨1, ?_⟩
  unfold yanklinelaw07_VersionTotal.f
  cases ha : verOf a with
  | none => simp only [order_bad (.inl ha), order_bad (t := a) (.inr ha)]; cases hb : verOf b <;> cases hc : verOf c <;> simp [order_bad, order_both, ha, hb, hc, yanklinelaw07_VersionTotal.j0, alive_eq]
  | some u =>
    cases hb : verOf b with
    | none => simp only [order_bad (.inl hb), order_bad (t := b) (.inr hb)]; cases hc : verOf c <;> simp [order_bad, order_both, ha, hb, hc, yanklinelaw07_VersionTotal.j0, alive_eq]
    | some v =>
      cases hc : verOf c with
      | none => simp [order_both ha hb, order_both hb ha, order_bad (s := b) (.inr hc), order_bad (s := a) (.inr hc), yanklinelaw07_VersionTotal.j0, alive_eq]
      | some x =>
        rw [order_both ha hb, order_both hb ha, order_both hb hc, order_both ha hc]
        simp only [Option.bind_some, if_pos]
        have h1 := to_cmpVer.anti u v
        have b1 := to_cmpVer.bnd v u
        have h2 : cmpVer u v = wrap64 (-cmpVer v u) := by rw [h1]; unfold wrap64; omega
        have h3 : ((cmpVer u v == 0) == (a.toList == b.toList)) = true := by
          by_cases e : cmpVer u v = 0
          · have := (to_cmpVer.zero _ _).1 e
            subst this
            have := ver_inj ha hb
            subst this
            simp [e]
          · have hne : a.toList ≠ b.toList := fun h => e (by
              have := toL_inj h
              subst this
              rw [ha] at hb
              cases hb
              exact (to_cmpVer.zero _ _).2 rfl)
            rw [beq_eq_false_iff_ne.2 e, beq_eq_false_iff_ne.2 hne]; rfl
        have t1 := to_cmpVer.trans u v x
        have t2 := fun p q => to_cmpVer.strict (a := u) (b := v) (d := x) p q
        simp only [yanklinelaw07_VersionTotal.j0, alive_eq, Option.bind_some]
        rw [if_neg (by simp), if_pos h2, if_pos h3]
        repeat' split
        all_goals first | rfl | (exfalso; omega)

end Go.Proofs.YtoiibjipjlkaeaaDoor.PV

/- The plain law of VersionTotal. -/
import Derived.Test.YthnajibbkinlkaaGreatDoorPlainA
import Derived.Test.YthnajibbkinlkaaGreatDoorOrderA
import Derived.Test.YthnajibbkinlkaaGreatDoorAliveA
namespace Go.Proofs.YthnajibbkinlkaaGreatDoor.PV
open Go.RowKit Go.Proofs.YthnajibbkinlkaaGreatDoorW.PrintWords Go.Proofs.YthnajibbkinlkaaGreatDoorW.PrintLast Go.Proofs.YthnajibbkinlkaaGreatDoorW.PrintMore
attribute [local go_sem] max2_int min2_int max_two min_two max_three min_three max_four min_four   -- for this text's walks alone
set_option linter.unusedVariables false
set_option linter.unusedSimpArgs false

theorem ver_inj {s t : ByteArray} {v : Int × Int × Int × List ByteArray} (hs : verOf s = some v) (ht : verOf t = some v) : s = t := by
  obtain ⟨_, x, y, z, a, b, c, e1, e2, e3, e4, rfl, _⟩ := verOf_some hs
  obtain ⟨_, x', y', z', a', b', c', f1, f2, f3, f4, hv, _⟩ := verOf_some ht
  simp only [Prod.mk.injEq] at hv
  obtain ⟨rfl, rfl, rfl, hp⟩ := hv
  obtain rfl := num_inj e2 f2
  obtain rfl := num_inj e3 f3
  obtain rfl := num_inj e4 f4
  have hh : headB s = headB t := spl_inj (e1.trans f1.symm)
  have hne : ∀ u : ByteArray, spl u ≠ [] := fun u h => by have := spl_len u; rw [h] at this; simp at this
  cases p1 : preB s <;> cases p2 : preB t <;> simp only [p1, p2, if_true, Bool.false_eq_true, if_false] at hp
  · exact cut_inj (p1.trans p2.symm) hh (fun h => by rw [p1] at h; cases h)
  · exact absurd hp.symm (hne _)
  · exact absurd hp (hne _)
  · exact cut_inj (p1.trans p2.symm) hh (fun _ => spl_inj hp)
/-- The comparison of two versions, as 'verOf' tells them. -/
def cmpVer (u v : Int × Int × Int × List ByteArray) : Int := cmpV u.1 u.2.1 u.2.2.1 u.2.2.2 v.1 v.2.1 v.2.2.1 v.2.2.2
theorem to_cmpVer : TO cmpVer := by
  have e : cmpVer = fun u v => verC (verK u.1 u.2.1 u.2.2.1 u.2.2.2) (verK v.1 v.2.1 v.2.2.1 v.2.2.2) := by
    funext u v; exact cmpV_key _ _ _ _ _ _ _ _
  rw [e]
  exact to_verC.comap _ (fun u v h => by
    obtain ⟨h1, h2, h3, h4⟩ := verK_inj h
    exact Prod.ext h1 (Prod.ext h2 (Prod.ext h3 h4)))
theorem order_both {s t : ByteArray} {u v : Int × Int × Int × List ByteArray} (hs : verOf s = some u) (ht : verOf t = some v) : version_Order.f s t = some (cmpVer u v, 0) := by
  rw [order_f, hs, ht]; rfl
theorem order_bad {s t : ByteArray} (h : verOf s = none ∨ verOf t = none) : version_Order.f s t = some (0, 70) := by
  rw [order_f]
  rcases h with h | h
  · rw [h]
  · rw [h]; cases verOf s <;> rfl
theorem alive_eq : yanklinelaw07_alive.f = some true := rfl
end Go.Proofs.YthnajibbkinlkaaGreatDoor.PV

/- The walk of version.Order. -/
import Derived.Test.YthnajibbkinlkaaGreatDoorPVx0
import Derived.Test.YthnajibbkinlkaaGreatDoorDB
import Derived.Test.YthnajibbkinlkaaGreatDoorMayA
import Derived.Test.YthnajibbkinlkaaGreatDoorNumberA
import Derived.Test.YthnajibbkinlkaaGreatDoorReadA
import Derived.Test.YthnajibbkinlkaaGreatDoorCompareA
namespace Go.Proofs.YthnajibbkinlkaaGreatDoor.PV
open Go.RowKit Go.Proofs.YthnajibbkinlkaaGreatDoorW.PrintWords Go.Proofs.YthnajibbkinlkaaGreatDoorW.PrintLast Go.Proofs.YthnajibbkinlkaaGreatDoorW.PrintMore
attribute [local go_sem] max2_int min2_int max_two min_two max_three min_three max_four min_four   -- for this text's walks alone
set_option linter.unusedVariables false
set_option linter.unusedSimpArgs false

/-! Read: what it takes, and that it takes no two texts as one version. -/
def verOf (s : ByteArray) : Option (Int × Int × Int × List ByteArray) :=
  if s.size ≤ 128 then readP (spl (headB s)) (if preB s = true then spl (tailB s) else []) else none
theorem read_f (s : ByteArray) : version_Read.f s = some (match verOf s with | some (a, b, c, p) => (a, b, c, p, 0) | none => (0, 0, 0, [], 70)) := by
  unfold version_Read.f verOf
  by_cases h : s.size ≤ 128
  · rw [if_pos h, if_pos h]
    cases readP (spl (headB s)) (if preB s = true then spl (tailB s) else []) <;> rfl
  · rw [if_neg h, if_neg h]
theorem verOf_some {s : ByteArray} {v : Int × Int × Int × List ByteArray} (h : verOf s = some v) : s.size ≤ 128 ∧ ∃ x y z a b c, spl (headB s) = [x, y, z] ∧ numV x = some a ∧ numV y = some b ∧ numV z = some c ∧ v = (a, b, c, if preB s = true then spl (tailB s) else []) ∧ mayV a b c (if preB s = true then spl (tailB s) else []) = true := by
  unfold verOf at h
  generalize (if preB s = true then spl (tailB s) else []) = p at h ⊢
  split at h
  · rename_i hs
    refine ⟨hs, ?_⟩
    unfold readP at h
    split at h
    · rename_i x y z hl
      split at h
      · rename_i a b c ha hb hc
        split at h
        · rename_i hm
          exact ⟨x, y, z, a, b, c, hl, ha, hb, hc, (Option.some.inj h).symm, hm⟩
        · cases h
      · cases h
    · cases h
  · cases h
theorem may_parts {a b c : Int} {l : List ByteArray} (h : mayV a b c l = true) : l.length ≤ 8 ∧ ∀ x ∈ l, x.size ≤ 16 := by
  unfold mayV at h
  simp only [Bool.and_eq_true, decide_eq_true_eq, List.all_eq_true] at h
  refine ⟨h.1.2.2.2, fun x hx => ?_⟩
  have := h.2 x hx
  unfold identB identL at this
  simp only [Bool.and_eq_true, decide_eq_true_eq] at this
  have h2 := this.1.2
  rw [size_len] at h2
  exact h2
theorem compare_f {a b c a' b' c' : Int} {l l' : List ByteArray} (h : mayV a b c l = true) (h' : mayV a' b' c' l' = true) : version_compare.f a b c l a' b' c' l' = some (cmpV a b c l a' b' c' l') := by
  unfold version_compare.f
  have h1 := may_parts h
  have h2 := may_parts h'
  rw [if_pos ⟨by omega, by omega, fun x hx => by have := h1.2 x hx; omega, fun x hx => by have := h2.2 x hx; omega⟩]
theorem read_calls (s : ByteArray) (a b c : Int) (l : List ByteArray) (n : Int) (w : World) (hG : GW w) (h : version_Read.f s = some (a, b, c, l, n)) :
    Calls Tryz.prog 7 #[.string s] w fun e w' => ∃ A cap, e = .returned (.tuple #[.agg #[.int .u32 a, .int .u32 b, .int .u32 c, .slice A l.length cap], .int .i64 n]) ∧ l.length ≤ cap ∧ Kd.C Kd.string w' A l.length l ∧ DBelow w.heap.size w w' := by
  refine (version_Read.calls s a b c l n w hG h).mono ?_
  rintro e w' ⟨v, rfl, hR, hb⟩
  obtain ⟨A, cap, rfl, hc, hC⟩ := Kd.R_reads hR
  exact ⟨A, cap, rfl, hc, hC, hb⟩
set_option maxHeartbeats 8000000 in
set_option maxRecDepth 100000 in
theorem order_walk_ok (s t : ByteArray) (a b c : Int) (l : List ByteArray) (a' b' c' : Int) (l' : List ByteArray) (w : World) (hG : GW w) (h1 : version_Read.f s = some (a, b, c, l,  0)) (h2 : version_Read.f t = some (a', b', c', l',  0)) (r : Int) (hC : version_compare.f a b c l a' b' c' l' = some r) :
    Calls Tryz.prog 8 #[.string s, .string t] w fun e w' => e = .returned (.tuple #[.int .i64 r, .int .i64 0]) ∧ DBelow w.heap.size w w' := by
  have HG := Aside0.mk hG
  have H1 := Aside0.mk h1
  have H2 := Aside0.mk h2
  clear hG h1 h2
  have HC := Aside0.mk hC
  clear hC
  go_enter Tryz.func8, Tryz.ntmps8
  go_wp2_with (fail)
  refine (read_calls s a b c l 0 _ (by exact GW.dbelow HG.out (by repeat (first | exact DBelow.refl _ _ | exact HB2.out | exact HB1.out | (refine DBelow.alloc ?_ (by first | exact HB1.out.size | exact HB2.out.size | (simp; done)) _) | apply dpw_below_drewN))) H1.out).mono ?_
  rintro e w1 ⟨A, cA, rfl, hcA, hA, hb1⟩
  have HB1 := Aside0.mk hb1
  have HA := Aside0.mk hA
  clear hA hb1
  go_wp2_with (fail)
  refine (read_calls t a' b' c' l' 0 _ (by exact GW.dbelow HG.out (by repeat (first | exact DBelow.refl _ _ | exact HB2.out | exact HB1.out | (refine DBelow.alloc ?_ (by first | exact HB1.out.size | exact HB2.out.size | (simp; done)) _) | apply dpw_below_drewN))) H2.out).mono ?_
  rintro e w2 ⟨B, cB, rfl, hcB, hB, hb2⟩
  have HB2 := Aside0.mk (dbelow_step (w := w) (by repeat (first | exact DBelow.refl _ _ | exact HB2.out | exact HB1.out | (refine DBelow.alloc ?_ (by first | exact HB1.out.size | exact HB2.out.size | (simp; done)) _) | apply dpw_below_drewN)) hb2)
  have HB := Aside0.mk hB
  have HA2 := Aside0.mk (Kd.C_below (Kd.C_alloc HA.out _) hb2.b)
  obtain ⟨hc2, hf2⟩ := bcell hb2
  have hz2 : w1.heap.size < w2.heap.size := (by have := hb2.size; simp at this; omega)
  clear hB hb2
  go_wp2_with (fail)
  refine (version_compare.calls a b c A cA l a' b' c' B cB l' r _ (Kd.C_alloc HA2.out _) hcA (Kd.C_alloc HB.out _) hcB (by exact GW.dbelow HG.out (by repeat (first | exact DBelow.refl _ _ | exact HB2.out | exact HB1.out | (refine DBelow.alloc ?_ (by first | exact HB1.out.size | exact HB2.out.size | (simp; done)) _) | apply dpw_below_drewN))) HC.out).mono ?_
  rintro e w3 ⟨rfl, hb3⟩
  have HB3 := Aside0.mk (dbelow_step (w := w) (by repeat (first | exact DBelow.refl _ _ | exact HB2.out | exact HB1.out | (refine DBelow.alloc ?_ (by first | exact HB1.out.size | exact HB2.out.size | (simp; done)) _) | apply dpw_below_drewN)) hb3)
  clear hb3
  go_wp2
  refine bodyPost_ret (results_list (rs := [_, _]) Tryz.results8 (by simp) (.tmp (.tmp .nil))) rfl ⟨rfl, HB3.out⟩
set_option maxHeartbeats 8000000 in
set_option maxRecDepth 100000 in
theorem order_walk_no1 (s t : ByteArray) (a b c : Int) (l : List ByteArray) (a' b' c' : Int) (l' : List ByteArray) (w : World) (hG : GW w) (h1 : version_Read.f s = some (a, b, c, l, 70)) (h2 : version_Read.f t = some (a', b', c', l', 0)) :
    Calls Tryz.prog 8 #[.string s, .string t] w fun e w' => e = .returned (.tuple #[.int .i64 0, .int .i64 70]) ∧ DBelow w.heap.size w w' := by
  have HG := Aside0.mk hG
  have H1 := Aside0.mk h1
  have H2 := Aside0.mk h2
  clear hG h1 h2
  go_enter Tryz.func8, Tryz.ntmps8
  go_wp2_with (fail)
  refine (read_calls s a b c l 70 _ (by exact GW.dbelow HG.out (by repeat (first | exact DBelow.refl _ _ | exact HB2.out | exact HB1.out | (refine DBelow.alloc ?_ (by first | exact HB1.out.size | exact HB2.out.size | (simp; done)) _) | apply dpw_below_drewN))) H1.out).mono ?_
  rintro e w1 ⟨A, cA, rfl, hcA, hA, hb1⟩
  have HB1 := Aside0.mk hb1
  have HA := Aside0.mk hA
  clear hA hb1
  go_wp2_with (fail)
  refine (read_calls t a' b' c' l' 0 _ (by exact GW.dbelow HG.out (by repeat (first | exact DBelow.refl _ _ | exact HB2.out | exact HB1.out | (refine DBelow.alloc ?_ (by first | exact HB1.out.size | exact HB2.out.size | (simp; done)) _) | apply dpw_below_drewN))) H2.out).mono ?_
  rintro e w2 ⟨B, cB, rfl, hcB, hB, hb2⟩
  have HB2 := Aside0.mk (dbelow_step (w := w) (by repeat (first | exact DBelow.refl _ _ | exact HB2.out | exact HB1.out | (refine DBelow.alloc ?_ (by first | exact HB1.out.size | exact HB2.out.size | (simp; done)) _) | apply dpw_below_drewN)) hb2)
  have HB := Aside0.mk hB
  have HA2 := Aside0.mk (Kd.C_below (Kd.C_alloc HA.out _) hb2.b)
  obtain ⟨hc2, hf2⟩ := bcell hb2
  have hz2 : w1.heap.size < w2.heap.size := (by have := hb2.size; simp at this; omega)
  clear hB hb2
  go_wp2
  refine bodyPost_ret (results_list (rs := [_, _]) Tryz.results8 (by simp) (.tmp (.tmp .nil))) rfl ⟨rfl, ?_⟩
  repeat (first | exact DBelow.refl _ _ | exact HB2.out | exact HB1.out | (refine DBelow.alloc ?_ (by first | exact HB1.out.size | exact HB2.out.size | (simp; done)) _) | apply dpw_below_drewN)
set_option maxHeartbeats 8000000 in
set_option maxRecDepth 100000 in
theorem order_walk_no2 (s t : ByteArray) (a b c : Int) (l : List ByteArray) (a' b' c' : Int) (l' : List ByteArray) (w : World) (hG : GW w) (h1 : version_Read.f s = some (a, b, c, l, 0)) (h2 : version_Read.f t = some (a', b', c', l', 70)) :
    Calls Tryz.prog 8 #[.string s, .string t] w fun e w' => e = .returned (.tuple #[.int .i64 0, .int .i64 70]) ∧ DBelow w.heap.size w w' := by
  have HG := Aside0.mk hG
  have H1 := Aside0.mk h1
  have H2 := Aside0.mk h2
  clear hG h1 h2
  go_enter Tryz.func8, Tryz.ntmps8
  go_wp2_with (fail)
  refine (read_calls s a b c l 0 _ (by exact GW.dbelow HG.out (by repeat (first | exact DBelow.refl _ _ | exact HB2.out | exact HB1.out | (refine DBelow.alloc ?_ (by first | exact HB1.out.size | exact HB2.out.size | (simp; done)) _) | apply dpw_below_drewN))) H1.out).mono ?_
  rintro e w1 ⟨A, cA, rfl, hcA, hA, hb1⟩
  have HB1 := Aside0.mk hb1
  have HA := Aside0.mk hA
  clear hA hb1
  go_wp2_with (fail)
  refine (read_calls t a' b' c' l' 70 _ (by exact GW.dbelow HG.out (by repeat (first | exact DBelow.refl _ _ | exact HB2.out | exact HB1.out | (refine DBelow.alloc ?_ (by first | exact HB1.out.size | exact HB2.out.size | (simp; done)) _) | apply dpw_below_drewN))) H2.out).mono ?_
  rintro e w2 ⟨B, cB, rfl, hcB, hB, hb2⟩
  have HB2 := Aside0.mk (dbelow_step (w := w) (by repeat (first | exact DBelow.refl _ _ | exact HB2.out | exact HB1.out | (refine DBelow.alloc ?_ (by first | exact HB1.out.size | exact HB2.out.size | (simp; done)) _) | apply dpw_below_drewN)) hb2)
  have HB := Aside0.mk hB
  have HA2 := Aside0.mk (Kd.C_below (Kd.C_alloc HA.out _) hb2.b)
  obtain ⟨hc2, hf2⟩ := bcell hb2
  have hz2 : w1.heap.size < w2.heap.size := (by have := hb2.size; simp at this; omega)
  clear hB hb2
  go_wp2
  refine bodyPost_ret (results_list (rs := [_, _]) Tryz.results8 (by simp) (.tmp (.tmp .nil))) rfl ⟨rfl, ?_⟩
  repeat (first | exact DBelow.refl _ _ | exact HB2.out | exact HB1.out | (refine DBelow.alloc ?_ (by first | exact HB1.out.size | exact HB2.out.size | (simp; done)) _) | apply dpw_below_drewN)
set_option maxHeartbeats 8000000 in
set_option maxRecDepth 100000 in
theorem order_walk_no3 (s t : ByteArray) (a b c : Int) (l : List ByteArray) (a' b' c' : Int) (l' : List ByteArray) (w : World) (hG : GW w) (h1 : version_Read.f s = some (a, b, c, l, 70)) (h2 : version_Read.f t = some (a', b', c', l', 70)) :
    Calls Tryz.prog 8 #[.string s, .string t] w fun e w' => e = .returned (.tuple #[.int .i64 0, .int .i64 70]) ∧ DBelow w.heap.size w w' := by
  have HG := Aside0.mk hG
  have H1 := Aside0.mk h1
  have H2 := Aside0.mk h2
  clear hG h1 h2
  go_enter Tryz.func8, Tryz.ntmps8
  go_wp2_with (fail)
  refine (read_calls s a b c l 70 _ (by exact GW.dbelow HG.out (by repeat (first | exact DBelow.refl _ _ | exact HB2.out | exact HB1.out | (refine DBelow.alloc ?_ (by first | exact HB1.out.size | exact HB2.out.size | (simp; done)) _) | apply dpw_below_drewN))) H1.out).mono ?_
  rintro e w1 ⟨A, cA, rfl, hcA, hA, hb1⟩
  have HB1 := Aside0.mk hb1
  have HA := Aside0.mk hA
  clear hA hb1
  go_wp2_with (fail)
  refine (read_calls t a' b' c' l' 70 _ (by exact GW.dbelow HG.out (by repeat (first | exact DBelow.refl _ _ | exact HB2.out | exact HB1.out | (refine DBelow.alloc ?_ (by first | exact HB1.out.size | exact HB2.out.size | (simp; done)) _) | apply dpw_below_drewN))) H2.out).mono ?_
  rintro e w2 ⟨B, cB, rfl, hcB, hB, hb2⟩
  have HB2 := Aside0.mk (dbelow_step (w := w) (by repeat (first | exact DBelow.refl _ _ | exact HB2.out | exact HB1.out | (refine DBelow.alloc ?_ (by first | exact HB1.out.size | exact HB2.out.size | (simp; done)) _) | apply dpw_below_drewN)) hb2)
  have HB := Aside0.mk hB
  have HA2 := Aside0.mk (Kd.C_below (Kd.C_alloc HA.out _) hb2.b)
  obtain ⟨hc2, hf2⟩ := bcell hb2
  have hz2 : w1.heap.size < w2.heap.size := (by have := hb2.size; simp at this; omega)
  clear hB hb2
  go_wp2
  refine bodyPost_ret (results_list (rs := [_, _]) Tryz.results8 (by simp) (.tmp (.tmp .nil))) rfl ⟨rfl, ?_⟩
  repeat (first | exact DBelow.refl _ _ | exact HB2.out | exact HB1.out | (refine DBelow.alloc ?_ (by first | exact HB1.out.size | exact HB2.out.size | (simp; done)) _) | apply dpw_below_drewN)
/-- What Order answers. -/
def version_Order.f (s t : ByteArray) : Option (Int × Int) := some (match verOf s, verOf t with
    | some u, some v => (cmpV u.1 u.2.1 u.2.2.1 u.2.2.2 v.1 v.2.1 v.2.2.1 v.2.2.2, 0)
    | _, _ => (0, 70))
theorem order_f (s t : ByteArray) : version_Order.f s t = some (match verOf s, verOf t with
    | some (a, b, c, l), some (a', b', c', l') => (cmpV a b c l a' b' c' l', 0)
    | _, _ => (0, 70)) := by
  unfold version_Order.f
  cases verOf s with
  | none => rfl
  | some u => cases verOf t <;> rfl
theorem read_some {s : ByteArray} {v : Int × Int × Int × List ByteArray} (h : verOf s = some v) : version_Read.f s = some (v.1, v.2.1, v.2.2.1, v.2.2.2, 0) := by rw [read_f, h]
theorem read_none {s : ByteArray} (h : verOf s = none) : version_Read.f s = some (0, 0, 0, [], 70) := by rw [read_f, h]
theorem version_Order.calls (a0 : ByteArray) (a1 : ByteArray) (r1 : Int) (r2 : Int) (w : World) (hG : GW w) (h : version_Order.f a0 a1 = some (r1, r2)) :
    Calls Tryz.prog 8 #[.string a0, .string a1] w fun e w' => e = .returned (.tuple #[.int .i64 r1, .int .i64 r2]) ∧ DBelow w.heap.size w w' := by
  unfold version_Order.f at h
  have h := Option.some.inj h
  cases hs : verOf a0 with
  | none =>
    cases ht : verOf a1 with
    | none =>
      rw [hs, ht] at h; cases h
      exact order_walk_no3 a0 a1 _ _ _ _ _ _ _ _ w hG (read_none hs) (read_none ht)
    | some v =>
      rw [hs, ht] at h; cases h
      exact order_walk_no1 a0 a1 _ _ _ _ _ _ _ _ w hG (read_none hs) (read_some ht)
  | some u =>
    cases ht : verOf a1 with
    | none =>
      rw [hs, ht] at h; cases h
      exact order_walk_no2 a0 a1 _ _ _ _ _ _ _ _ w hG (read_some hs) (read_none ht)
    | some v =>
      rw [hs, ht] at h; cases h
      refine order_walk_ok a0 a1 _ _ _ _ _ _ _ _ w hG (read_some hs) (read_some ht) _ ?_
      obtain ⟨_, x, y, z, a, b, c, _, _, _, _, rfl, hm⟩ := verOf_some hs
      obtain ⟨_, x', y', z', a', b', c', _, _, _, _, rfl, hm'⟩ := verOf_some ht
      exact compare_f hm hm'

end Go.Proofs.YthnajibbkinlkaaGreatDoor.PV

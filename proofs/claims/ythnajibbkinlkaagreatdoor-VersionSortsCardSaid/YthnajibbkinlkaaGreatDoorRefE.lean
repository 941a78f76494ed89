/- The walks of the document's own Read and Order. -/
import Derived.Test.YthnajibbkinlkaaGreatDoorRefD
import Derived.Test.YthnajibbkinlkaaGreatDoorRefB
import Derived.Test.YthnajibbkinlkaaGreatDoorOrderA
namespace Go.Proofs.YthnajibbkinlkaaGreatDoor.PV
open Go.RowKit Go.Proofs.YthnajibbkinlkaaGreatDoorW.PrintWords Go.Proofs.YthnajibbkinlkaaGreatDoorW.PrintLast Go.Proofs.YthnajibbkinlkaaGreatDoorW.PrintMore
attribute [local go_sem] max2_int min2_int max_two min_two max_three min_three max_four min_four   -- for this text's walks alone
set_option linter.unusedVariables false
set_option linter.unusedSimpArgs false

theorem len3 {α : Type} {l : List α} (h : l.length = 3) : ∃ x y z, l = [x, y, z] := by
  match l, h with
  | [x, y, z], _ => exact ⟨x, y, z, rfl⟩
theorem readP_n {l p : List ByteArray} (h : l.length ≠ 3) : readP l p = none := by
  unfold readP
  split
  · exact absurd rfl h
  · rfl
theorem rread_calls (s : ByteArray) (a b c : Int) (l : List ByteArray) (n : Int) (w : World) (h : version_Read.f s = some (a, b, c, l, n)) :
    Calls Tryz.prog 27 #[.string s] w fun e w' => ∃ A cap, e = .returned (.tuple #[.agg #[.int .u32 a, .int .u32 b, .int .u32 c, .slice A l.length cap], .int .i64 n]) ∧ l.length ≤ cap ∧ Kd.C Kd.string w' A l.length l ∧ Below w.heap.size w w' := by
  unfold version_Read.f at h
  have h := Option.some.inj h
  by_cases hs : s.size ≤ 128
  case neg =>
    rw [if_neg hs] at h
    cases h
    exact rread_long s w (by omega)
  rw [if_pos hs] at h
  rcases cut_pos s with ⟨p1, p2, p3⟩ | ⟨p1, d, hd, e1, e2, p2, p3⟩
  · rw [p1, if_neg Bool.false_ne_true, p2] at h
    by_cases hN : (spl s).length = 3
    case neg =>
      rw [readP_n hN] at h
      cases h
      exact rread_nil_n s w hs ⟨p3⟩ hN
    obtain ⟨x, y, z, hL⟩ := len3 hN
    have hx := Nat.le_trans (spl_le s x (by rw [hL]; simp)) hs
    have hy := Nat.le_trans (spl_le s y (by rw [hL]; simp)) hs
    have hz := Nat.le_trans (spl_le s z (by rw [hL]; simp)) hs
    rw [hL] at h
    cases nx : numV x with
    | none =>
      simp only [readP, nx] at h
      cases h
      exact rread_nil_x s w hs ⟨p3⟩ x y z hL hx hy hz nx
    | some a1 =>
      cases ny : numV y with
      | none =>
        simp only [readP, nx, ny] at h
        cases h
        exact rread_nil_y s w hs ⟨p3⟩ x y z hL hx hy hz _ nx ny
      | some b1 =>
        cases nz : numV z with
        | none =>
          simp only [readP, nx, ny, nz] at h
          cases h
          exact rread_nil_z s w hs ⟨p3⟩ x y z hL hx hy hz _ _ nx ny nz
        | some c1 =>
          simp only [readP, nx, ny, nz] at h
          cases hm : mayV a1 b1 c1 []
          · rw [hm, if_neg Bool.false_ne_true] at h
            cases h
            exact rread_nil_m s w hs ⟨p3⟩ x y z hL hx hy hz _ _ _ nx ny nz hm
          · rw [hm, if_pos rfl] at h
            cases h
            exact rread_nil_ok s w hs ⟨p3⟩ x y z hL hx hy hz _ _ _ nx ny nz hm
  · rw [p1, if_pos rfl, p2] at h
    have hP : spl (s.extract (d + 1) s.size) = spl (tailB s) := by rw [p3]
    have hl := spl_short (tailB s) (Nat.le_trans (cut_le s).2 hs)
    generalize spl (tailB s) = P at *
    by_cases hN : (spl (s.extract 0 d)).length = 3
    case neg =>
      rw [readP_n hN] at h
      cases h
      exact rread_pre_n s w hs d hd ⟨e1⟩ ⟨e2⟩ _ hP hl hN
    obtain ⟨x, y, z, hL⟩ := len3 hN
    have hs0 : (s.extract 0 d).size ≤ 128 := by rw [ByteArray.size_extract]; omega
    have hx := Nat.le_trans (spl_le _ x (by rw [hL]; simp)) hs0
    have hy := Nat.le_trans (spl_le _ y (by rw [hL]; simp)) hs0
    have hz := Nat.le_trans (spl_le _ z (by rw [hL]; simp)) hs0
    rw [hL] at h
    cases nx : numV x with
    | none =>
      simp only [readP, nx] at h
      cases h
      exact rread_pre_x s w hs d hd ⟨e1⟩ ⟨e2⟩ _ hP hl x y z hL hx hy hz nx
    | some a1 =>
      cases ny : numV y with
      | none =>
        simp only [readP, nx, ny] at h
        cases h
        exact rread_pre_y s w hs d hd ⟨e1⟩ ⟨e2⟩ _ hP hl x y z hL hx hy hz _ nx ny
      | some b1 =>
        cases nz : numV z with
        | none =>
          simp only [readP, nx, ny, nz] at h
          cases h
          exact rread_pre_z s w hs d hd ⟨e1⟩ ⟨e2⟩ _ hP hl x y z hL hx hy hz _ _ nx ny nz
        | some c1 =>
          simp only [readP, nx, ny, nz] at h
          cases hm : mayV a1 b1 c1 P
          · rw [hm, if_neg Bool.false_ne_true] at h
            cases h
            exact rread_pre_m s w hs d hd ⟨e1⟩ ⟨e2⟩ _ hP hl x y z hL hx hy hz _ _ _ nx ny nz hm
          · rw [hm, if_pos rfl] at h
            cases h
            exact rread_pre_ok s w hs d hd ⟨e1⟩ ⟨e2⟩ _ hP hl x y z hL hx hy hz _ _ _ nx ny nz hm
set_option maxHeartbeats 8000000 in
set_option maxRecDepth 100000 in
theorem rorder_walk_ok (s t : ByteArray) (a b c : Int) (l : List ByteArray) (a' b' c' : Int) (l' : List ByteArray) (w : World) (h1 : version_Read.f s = some (a, b, c, l,  0)) (h2 : version_Read.f t = some (a', b', c', l',  0)) (hC : l.length ≤ 200 ∧ l'.length ≤ 200 ∧ (∀ x ∈ l, x.size ≤ 128) ∧ (∀ x ∈ l', x.size ≤ 128)) :
    Calls Tryz.prog 18 #[.string s, .string t] w fun e w' => e = .returned (.tuple #[.int .i64 (cmpV a b c l a' b' c' l'), .int .i64 0]) ∧ Below w.heap.size w w' := by
  have H1 := Aside0.mk h1
  have H2 := Aside0.mk h2
  clear h1 h2
  have HC := Aside0.mk hC
  clear hC
  go_enter Tryz.func18, Tryz.ntmps18
  go_wp2_with (fail)
  refine (rread_calls s a b c l 0 _ H1.out).mono ?_
  rintro e w1 ⟨A, cA, rfl, hcA, hA, hb1⟩
  have HB1 := Aside0.mk hb1
  have HA := Aside0.mk hA
  clear hA hb1
  go_wp2_with (fail)
  refine (rread_calls t a' b' c' l' 0 _ H2.out).mono ?_
  rintro e w2 ⟨B, cB, rfl, hcB, hB, hb2⟩
  have HB2 := Aside0.mk (below_step (w := w) (by repeat (first | exact Below.refl _ _ | exact HB2.out | exact HB1.out | (refine Below.alloc ?_ (by first | exact HB1.out.size | exact HB2.out.size | (simp; done)) _) | apply pw_below_drewN)) hb2)
  have HB := Aside0.mk hB
  have HA2 := Aside0.mk (Kd.C_below (Kd.C_alloc HA.out _) hb2)
  obtain ⟨hc2, hf2⟩ := rbcell hb2
  have hz2 : w1.heap.size < w2.heap.size := (by have := hb2.size; simp at this; omega)
  clear hB hb2
  go_wp2_with (fail)
  refine (rCmp_calls a b c A cA l a' b' c' B cB l' _ (Kd.C_alloc HA2.out _) (Kd.C_alloc HB.out _) HC.out.1 HC.out.2.1 HC.out.2.2.1 HC.out.2.2.2).mono ?_
  rintro e w3 ⟨rfl, hb3⟩
  have HB3 := Aside0.mk (below_step (w := w) (by repeat (first | exact Below.refl _ _ | exact HB2.out | exact HB1.out | (refine Below.alloc ?_ (by first | exact HB1.out.size | exact HB2.out.size | (simp; done)) _) | apply pw_below_drewN)) hb3)
  clear hb3
  go_wp2
  refine bodyPost_ret (results_list (rs := [_, _]) Tryz.results18 (by simp) (.tmp (.tmp .nil))) rfl ⟨rfl, HB3.out⟩
set_option maxHeartbeats 8000000 in
set_option maxRecDepth 100000 in
theorem rorder_walk_no1 (s t : ByteArray) (a b c : Int) (l : List ByteArray) (a' b' c' : Int) (l' : List ByteArray) (w : World) (h1 : version_Read.f s = some (a, b, c, l, 70)) (h2 : version_Read.f t = some (a', b', c', l', 0)) :
    Calls Tryz.prog 18 #[.string s, .string t] w fun e w' => e = .returned (.tuple #[.int .i64 0, .int .i64 70]) ∧ Below w.heap.size w w' := by
  have H1 := Aside0.mk h1
  have H2 := Aside0.mk h2
  clear h1 h2
  go_enter Tryz.func18, Tryz.ntmps18
  go_wp2_with (fail)
  refine (rread_calls s a b c l 70 _ H1.out).mono ?_
  rintro e w1 ⟨A, cA, rfl, hcA, hA, hb1⟩
  have HB1 := Aside0.mk hb1
  have HA := Aside0.mk hA
  clear hA hb1
  go_wp2_with (fail)
  refine (rread_calls t a' b' c' l' 0 _ H2.out).mono ?_
  rintro e w2 ⟨B, cB, rfl, hcB, hB, hb2⟩
  have HB2 := Aside0.mk (below_step (w := w) (by repeat (first | exact Below.refl _ _ | exact HB2.out | exact HB1.out | (refine Below.alloc ?_ (by first | exact HB1.out.size | exact HB2.out.size | (simp; done)) _) | apply pw_below_drewN)) hb2)
  have HB := Aside0.mk hB
  have HA2 := Aside0.mk (Kd.C_below (Kd.C_alloc HA.out _) hb2)
  obtain ⟨hc2, hf2⟩ := rbcell hb2
  have hz2 : w1.heap.size < w2.heap.size := (by have := hb2.size; simp at this; omega)
  clear hB hb2
  go_wp2
  refine bodyPost_ret (results_list (rs := [_, _]) Tryz.results18 (by simp) (.tmp (.tmp .nil))) rfl ⟨rfl, ?_⟩
  repeat (first | exact Below.refl _ _ | exact HB2.out | exact HB1.out | (refine Below.alloc ?_ (by first | exact HB1.out.size | exact HB2.out.size | (simp; done)) _) | apply pw_below_drewN)
set_option maxHeartbeats 8000000 in
set_option maxRecDepth 100000 in
theorem rorder_walk_no2 (s t : ByteArray) (a b c : Int) (l : List ByteArray) (a' b' c' : Int) (l' : List ByteArray) (w : World) (h1 : version_Read.f s = some (a, b, c, l, 0)) (h2 : version_Read.f t = some (a', b', c', l', 70)) :
    Calls Tryz.prog 18 #[.string s, .string t] w fun e w' => e = .returned (.tuple #[.int .i64 0, .int .i64 70]) ∧ Below w.heap.size w w' := by
  have H1 := Aside0.mk h1
  have H2 := Aside0.mk h2
  clear h1 h2
  go_enter Tryz.func18, Tryz.ntmps18
  go_wp2_with (fail)
  refine (rread_calls s a b c l 0 _ H1.out).mono ?_
  rintro e w1 ⟨A, cA, rfl, hcA, hA, hb1⟩
  have HB1 := Aside0.mk hb1
  have HA := Aside0.mk hA
  clear hA hb1
  go_wp2_with (fail)
  refine (rread_calls t a' b' c' l' 70 _ H2.out).mono ?_
  rintro e w2 ⟨B, cB, rfl, hcB, hB, hb2⟩
  have HB2 := Aside0.mk (below_step (w := w) (by repeat (first | exact Below.refl _ _ | exact HB2.out | exact HB1.out | (refine Below.alloc ?_ (by first | exact HB1.out.size | exact HB2.out.size | (simp; done)) _) | apply pw_below_drewN)) hb2)
  have HB := Aside0.mk hB
  have HA2 := Aside0.mk (Kd.C_below (Kd.C_alloc HA.out _) hb2)
  obtain ⟨hc2, hf2⟩ := rbcell hb2
  have hz2 : w1.heap.size < w2.heap.size := (by have := hb2.size; simp at this; omega)
  clear hB hb2
  go_wp2
  refine bodyPost_ret (results_list (rs := [_, _]) Tryz.results18 (by simp) (.tmp (.tmp .nil))) rfl ⟨rfl, ?_⟩
  repeat (first | exact Below.refl _ _ | exact HB2.out | exact HB1.out | (refine Below.alloc ?_ (by first | exact HB1.out.size | exact HB2.out.size | (simp; done)) _) | apply pw_below_drewN)
set_option maxHeartbeats 8000000 in
set_option maxRecDepth 100000 in
theorem rorder_walk_no3 (s t : ByteArray) (a b c : Int) (l : List ByteArray) (a' b' c' : Int) (l' : List ByteArray) (w : World) (h1 : version_Read.f s = some (a, b, c, l, 70)) (h2 : version_Read.f t = some (a', b', c', l', 70)) :
    Calls Tryz.prog 18 #[.string s, .string t] w fun e w' => e = .returned (.tuple #[.int .i64 0, .int .i64 70]) ∧ Below w.heap.size w w' := by
  have H1 := Aside0.mk h1
  have H2 := Aside0.mk h2
  clear h1 h2
  go_enter Tryz.func18, Tryz.ntmps18
  go_wp2_with (fail)
  refine (rread_calls s a b c l 70 _ H1.out).mono ?_
  rintro e w1 ⟨A, cA, rfl, hcA, hA, hb1⟩
  have HB1 := Aside0.mk hb1
  have HA := Aside0.mk hA
  clear hA hb1
  go_wp2_with (fail)
  refine (rread_calls t a' b' c' l' 70 _ H2.out).mono ?_
  rintro e w2 ⟨B, cB, rfl, hcB, hB, hb2⟩
  have HB2 := Aside0.mk (below_step (w := w) (by repeat (first | exact Below.refl _ _ | exact HB2.out | exact HB1.out | (refine Below.alloc ?_ (by first | exact HB1.out.size | exact HB2.out.size | (simp; done)) _) | apply pw_below_drewN)) hb2)
  have HB := Aside0.mk hB
  have HA2 := Aside0.mk (Kd.C_below (Kd.C_alloc HA.out _) hb2)
  obtain ⟨hc2, hf2⟩ := rbcell hb2
  have hz2 : w1.heap.size < w2.heap.size := (by have := hb2.size; simp at this; omega)
  clear hB hb2
  go_wp2
  refine bodyPost_ret (results_list (rs := [_, _]) Tryz.results18 (by simp) (.tmp (.tmp .nil))) rfl ⟨rfl, ?_⟩
  repeat (first | exact Below.refl _ _ | exact HB2.out | exact HB1.out | (refine Below.alloc ?_ (by first | exact HB1.out.size | exact HB2.out.size | (simp; done)) _) | apply pw_below_drewN)
theorem rOrder_calls (a0 : ByteArray) (a1 : ByteArray) (r1 : Int) (r2 : Int) (w : World) (h : version_Order.f a0 a1 = some (r1, r2)) :
    Calls Tryz.prog 18 #[.string a0, .string a1] w fun e w' => e = .returned (.tuple #[.int .i64 r1, .int .i64 r2]) ∧ Below w.heap.size w w' := by
  unfold version_Order.f at h
  have h := Option.some.inj h
  cases hs : verOf a0 with
  | none =>
    cases ht : verOf a1 with
    | none =>
      rw [hs, ht] at h; cases h
      exact rorder_walk_no3 a0 a1 _ _ _ _ _ _ _ _ w (read_none hs) (read_none ht)
    | some v =>
      rw [hs, ht] at h; cases h
      exact rorder_walk_no1 a0 a1 _ _ _ _ _ _ _ _ w (read_none hs) (read_some ht)
  | some u =>
    cases ht : verOf a1 with
    | none =>
      rw [hs, ht] at h; cases h
      exact rorder_walk_no2 a0 a1 _ _ _ _ _ _ _ _ w (read_some hs) (read_none ht)
    | some v =>
      rw [hs, ht] at h; cases h
      refine rorder_walk_ok a0 a1 _ _ _ _ _ _ _ _ w (read_some hs) (read_some ht) ?_
      obtain ⟨_, x, y, z, a, b, c, _, _, _, _, rfl, hm⟩ := verOf_some hs
      obtain ⟨_, x', y', z', a', b', c', _, _, _, _, rfl, hm'⟩ := verOf_some ht
      have h1 := may_parts hm
      have h2 := may_parts hm'
      exact ⟨Nat.le_trans h1.1 (by decide), Nat.le_trans h2.1 (by decide), fun x hx => Nat.le_trans (h1.2 x hx) (by decide), fun x hx => Nat.le_trans (h2.2 x hx) (by decide)⟩

end Go.Proofs.YthnajibbkinlkaaGreatDoor.PV

/- The walk of the law NameSorts: for every list it answers true; nothing that was there is changed. -/
import Derived.Test.YtililldgddgdcaaSortA
namespace Go.Proofs.Ytililldgddgdcaa.SortL
open Go.RowKit Go.Proofs.Ytililldgddgdcaa.PA Go.Proofs.Ytililldgddgdcaa.Pure Go.Proofs.YtililldgddgdcaaW.PrintWords Go.Proofs.YtililldgddgdcaaW.PrintLast Go.Proofs.YtililldgddgdcaaW.PrintMore Go.Proofs.Ytililldgddgdcaa.SortP Go.Proofs.Ytililldgddgdcaa.RiseW Go.Proofs.Ytililldgddgdcaa.SortA
set_option linter.unusedVariables false
set_option linter.unusedSimpArgs false
def evOf (l : List ByteArray) : Int := if l.all may = true then 0 else 60
def outOf (l : List ByteArray) : List ByteArray := if l.all may = true then (rise (l.map nm)).map (fun b => ⟨b.toArray⟩) else []
theorem outOf_len (l : List ByteArray) : (outOf l).length ≤ l.length := by
  unfold outOf
  split
  · rw [List.length_map, rise_sort, ← compact_cmp]
    refine Nat.le_trans (Lib.compact_length_le _) ?_
    rw [(List.mergeSort_perm _ _).length_eq, List.length_map]
    exact Nat.le_refl _
  · exact Nat.zero_le _
def SQ (w : World) (lo hi i : Nat) (A : Option Addr) (xs : List ByteArray) : Prop := 0 < xs.length → ∃ g, A = some ⟨g, 0, none⟩ ∧ lo ≤ g ∧ g < hi ∧ (∀ j, i ≤ j → ∀ (h : j < xs.length), w.cell? ⟨g, j, none⟩ = some (.string (xs[j]'h))) ∧ ∀ o, w.frozen? ⟨g, o, none⟩ = false
theorem SQ.below {w w1 : World} {lo hi i : Nat} {A : Option Addr} {xs : List ByteArray} (h : SQ w lo hi i A xs) (hh : hi ≤ w.heap.size) (hb : Below w.heap.size w w1) : SQ w1 lo hi i A xs := by
  intro hp
  obtain ⟨g, e, h1, h2, h3, h4⟩ := h hp
  refine ⟨g, e, h1, h2, fun j hij hj => pw_cell_below hb (h3 j hij hj), fun o => ?_⟩
  rw [← h4 o]
  simp only [World.frozen?, hb.block g (by omega)]
theorem SQ.drew {w : World} {lo hi i q : Nat} {A : Option Addr} {xs : List ByteArray} (h : SQ w lo hi i A xs) (hh : hi ≤ w.heap.size) : SQ (w.drewN q) lo hi i A xs := h.below hh (pw_below_drewN (Below.refl _ _) q)
theorem ans_of {l : List ByteArray} {w' : World} {base : Nat} {e : Ending} (h : ((∀ x ∈ l, may x = true) ∧ ∃ v xs, e = .returned (.tuple #[v, .int .i64 0]) ∧ SR w' base v xs ∧ xs.map tl = rise (l.map nm)) ∨ ((∃ x ∈ l, ¬ may x = true) ∧ e = .returned (.tuple #[.slice none 0 0, .int .i64 60]))) :
    ∃ A c, e = .returned (.tuple #[.slice A (outOf l).length c, .int .i64 (evOf l)]) ∧ SQ w' base w'.heap.size 0 A (outOf l) := by
  rcases h with ⟨h1, v, xs, rfl, ⟨A, c, rfl, hg⟩, hx⟩ | ⟨⟨x, hx, hn⟩, rfl⟩
  · have ha : l.all may = true := List.all_eq_true.2 h1
    have ho : outOf l = xs := by
      unfold outOf
      rw [if_pos ha, ← hx, List.map_map]
      conv => rhs; rw [← List.map_id xs]
      rfl
    have he : evOf l = 0 := if_pos ha
    rw [ho, he]
    refine ⟨A, c, rfl, fun hp => ?_⟩
    obtain ⟨g, e, h2, h3, h4, h5⟩ := hg hp
    exact ⟨g, e, h2, h3, fun j _ hj => h4 j hj, h5⟩
  · have ha : ¬ l.all may = true := fun h => hn (List.all_eq_true.1 h x hx)
    have ho : outOf l = [] := if_neg ha
    have he : evOf l = 60 := if_neg ha
    rw [ho, he]
    exact ⟨none, 0, rfl, fun hp => absurd hp (by decide)⟩
theorem name_ans (A : Option Addr) (c : Nat) (l : List ByteArray) (w : World) (hA : Kd.C Kd.string w A l.length l) (hl : l.length ≤ 200) :
    Calls Try.prog 22 #[.slice A l.length c] w fun e w' => ∃ A1 c1, e = .returned (.tuple #[.slice A1 (outOf l).length c1, .int .i64 (evOf l)]) ∧ SQ w' w.heap.size w'.heap.size 0 A1 (outOf l) ∧ Below w.heap.size w w' :=
  (sort_calls A c l w hA hl).mono fun e w' ⟨hb, h⟩ => by
    obtain ⟨A1, c1, he, hs⟩ := ans_of h
    exact ⟨A1, c1, he, hs, hb⟩
theorem ref_ans (A : Option Addr) (c : Nat) (l : List ByteArray) (w : World) (hA : Kd.C Kd.string w A l.length l) (hl : l.length ≤ 200) :
    Calls Try.prog 23 #[.slice A l.length c] w fun e w' => ∃ A1 c1, e = .returned (.tuple #[.slice A1 (outOf l).length c1, .int .i64 (evOf l)]) ∧ SQ w' w.heap.size w'.heap.size 0 A1 (outOf l) ∧ Below w.heap.size w w' :=
  (rsort_calls A c l w hA hl).mono fun e w' ⟨hb, h⟩ => by
    obtain ⟨A1, c1, he, hs⟩ := ans_of h
    exact ⟨A1, c1, he, hs, hb⟩
theorem cell_set_ne {w : World} {g i g' j : Nat} {v : Value} (h : g' ≠ g ∨ j ≠ i) : (w.setCell ⟨g, i, none⟩ v).cell? ⟨g', j, none⟩ = w.cell? ⟨g', j, none⟩ :=
  World.cell?_setCell_other _ _ _ _ (fun e => by
    injection e with e1 e2 _
    rcases h with h | h
    · exact h e1.symm
    · exact h e2.symm)
theorem SQ.set {w : World} {lo hi i g : Nat} {xs : List ByteArray} {v : Value} (h : SQ w lo hi i (some ⟨g, 0, none⟩) xs) : SQ (w.setCell ⟨g, i, none⟩ v) lo hi (i + 1) (some ⟨g, 0, none⟩) xs := by
  intro hp
  obtain ⟨g', e, h1, h2, h3, h4⟩ := h hp
  injection e with e
  injection e with e _ _
  subst e
  refine ⟨g, rfl, h1, h2, fun j hij hj => ?_, fun o => ?_⟩
  · rw [cell_set_ne (.inr (by omega))]
    exact h3 j (by omega) hj
  · rw [← h4 o]
    simp
theorem SQ.other {w : World} {lo hi i i' g : Nat} {A : Option Addr} {xs : List ByteArray} {v : Value} (h : SQ w lo hi i' A xs) (hg : g < lo) : SQ (w.setCell ⟨g, i, none⟩ v) lo hi i' A xs := by
  intro hp
  obtain ⟨g', e, h1, h2, h3, h4⟩ := h hp
  refine ⟨g', e, h1, h2, fun j hij hj => ?_, fun o => ?_⟩
  · rw [cell_set_ne (.inl (by omega))]
    exact h3 j hij hj
  · rw [← h4 o]
    simp
set_option maxHeartbeats 8000000 in
set_option maxRecDepth 100000 in
theorem law_calls (A : Option Addr) (c : Nat) (l : List ByteArray) (w : World) (hA : Kd.C Kd.string w A l.length l) (hb : l.length ≤ 8796093022208) :
    Calls Try.prog 6 #[.slice A l.length c] w fun e w' => e = .returned (.bool true) ∧ Below w.heap.size w w' := by
  have HA := Aside0.mk hA
  clear hA
  go_enter Try.func6, Try.ntmps6
  by_cases h200 : l.length ≤ 200
  · have q0 : ¬ (200 : Int) < (l.length : Int) := by omega
    go_wp2_with (at_builtin; refine Kd.R_append_row Value.string ⟨#[]⟩ (h1 := fun _ => rfl) (w0 := w) w.heap.size rfl (.const (.slice none 0 0)) (.tmp 14) 32 9 (.string ⟨#[]⟩) 16 rfl rfl (by kernel_rfl) rfl (by decide) (.slice none 0 0) [] l A l.length c (fun _ => True) rfl rfl (fun _ _ => trivial) (Kd.R_nil _ _ _ _ _) HA.out (Below.refl _ _) (Nat.le_refl _) (by simp; omega) ?_; intro v1 w1 hR1 hb1 _ _; obtain ⟨A1, c1, rfl, _, hC1⟩ := Kd.R_reads hR1; rw [List.nil_append] at hC1; have HC1 := Aside0.mk hC1; have HB1 := Aside0.mk hb1; clear hC1 hb1 hR1)
    have hz1 := HB1.out.size
    refine (name_ans A1 c1 l _ HC1.out h200).mono ?_
    rintro e w2 ⟨A2, c2, rfl, hs2, hb2⟩
    have HS2 := Aside0.mk hs2
    have HB2 := Aside0.mk (below_step (w := w) HB1.out hb2)
    have HK2 := Aside0.mk hb2
    have hz2 := hb2.size
    clear hs2 hb2
    go_wp2_with (fail)
    refine (ref_ans A c l _ (Kd.C_below HA.out HB2.out) h200).mono ?_
    rintro e w3 ⟨A3, c3, rfl, hs3, hb3⟩
    have HS3 := Aside0.mk hs3
    have HT3 := Aside0.mk (HS2.out.below (Nat.le_refl _) hb3)
    have HB3 := Aside0.mk (below_step (w := w) HB2.out hb3)
    have HK3 := Aside0.mk (below_step (w := w1) HK2.out hb3)
    have hz3 := hb3.size
    clear hs3 hb3
    clear HS2 HB2 HK2
    have hxl := outOf_len l
    generalize outOf l = xs at *
    generalize evOf l = ev at *
    go_wp2_with (fail)
    go_loopg [8] xs.length (fun g v8 w' => ∃ (i : Nat), i ≤ xs.length ∧ g = xs.length - i ∧ v8 = .int .i64 i ∧ Aside0 (SQ w' w1.heap.size w2.heap.size i A2 xs) ∧ Aside0 (SQ w' w2.heap.size w3.heap.size 0 A3 xs) ∧ Aside0 (w3.heap.size ≤ w'.heap.size) ∧ Aside0 (Below w1.heap.size w1 w') ∧ Aside0 (Below w.heap.size w w'))
    case atStart => exact ⟨0, Nat.zero_le _, rfl, rfl, HT3, HS3, ⟨Nat.le_refl _⟩, HK3, HB3⟩
    case round =>
      obtain ⟨i, hi, rfl, rfl, HT, HS, HZ, HK, HB⟩ := hrel
      by_cases h1 : i < xs.length
      · have q1 : (i : Int) < (xs.length : Int) := by omega
        have q0 : (0 : Int) ≤ (i : Int) := by omega
        obtain ⟨gs, rfl, s1, s2, s3, s4⟩ := HT.out (by omega)
        obtain ⟨gt, rfl, t1, t2, t3, t4⟩ := HS.out (by omega)
        have cs := s3 i (Nat.le_refl _) h1
        have ct := t3 i (Nat.zero_le _) h1
        have fs := s4 i
        clear s3 s4 t3 t4
        go_wp2
        go_quiet (fail)
        go_wp2
        go_roundg (xs.length - (i + 1))
        case measure => omega
        case rel =>
          exact ⟨i + 1, by omega, rfl, by simp, ⟨(HT.out.drew (by have := HZ.out; omega)).set⟩, ⟨(HS.out.drew HZ.out).other s2⟩, ⟨by have := HZ.out; simp; omega⟩, ⟨(pw_below_drewN HK.out nq).setCell s1 _⟩, ⟨(pw_below_drewN HB.out nq).setCell (by have := HB1.out.size; show w.heap.size ≤ gs; omega) _⟩⟩
      · have q1 : ¬ (i : Int) < (xs.length : Int) := by omega
        go_wp2_with (fail)
        go_loopg [9] l.length (fun g v9 w' => ∃ (i : Nat), i ≤ l.length ∧ g = l.length - i ∧ v9 = .int .i64 i ∧ ∃ q, w' = wr.drewN q)
        case atStart => exact ⟨0, Nat.zero_le _, rfl, rfl, 0, rfl⟩
        case round =>
          obtain ⟨j, hj, rfl, rfl, q, rfl⟩ := hrel
          by_cases h2 : j < l.length
          · obtain ⟨ad, rfl, hc0⟩ := C_at HA.out j h2
            obtain ⟨ak, rfl, hk0⟩ := C_at HC1.out j h2
            have hc1 := pw_cell_below HB.out hc0
            have hk1 := pw_cell_below HK.out hk0
            have q2 : (j : Int) < (l.length : Int) := by omega
            have q0 : (0 : Int) ≤ (j : Int) := by omega
            clear hc0 hk0
            generalize (l[j]'h2) = x at *
            go_wp2
            go_quiet (fail)
            go_wp2
            go_roundg (l.length - (j + 1))
            case measure => omega
            case rel => exact ⟨j + 1, by omega, rfl, by simp, _, rfl⟩
          · have q2 : ¬ (j : Int) < (l.length : Int) := by omega
            go_wp2_with (fail)
            refine (yanklinelaw06_alive.calls 70 true _ (alive_eq 70 (Nat.le_refl _))).mono ?_
            rintro e w5 ⟨rfl, hb5⟩
            have HB5 := Aside0.mk (below_step (w := w) (pw_below_drewN HB.out q) hb5)
            clear hb5
            go_wp2_with (fail)
            go_ret
            exact ⟨rfl, HB5.out⟩
  · have q0 : (200 : Int) < (l.length : Int) := by omega
    go_wp2_with (fail)
    refine (yanklinelaw06_alive.calls 70 true _ (alive_eq 70 (Nat.le_refl _))).mono ?_
    rintro e w1 ⟨rfl, hb1⟩
    go_wp2_with (fail)
    go_ret
    exact ⟨rfl, hb1⟩
end Go.Proofs.Ytililldgddgdcaa.SortL

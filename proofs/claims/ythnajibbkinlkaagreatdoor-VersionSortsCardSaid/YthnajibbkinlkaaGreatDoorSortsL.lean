/- The walk of the law VersionSorts: for every list it answers true; nothing that was there is changed. -/
import Derived.Test.YthnajibbkinlkaaGreatDoorSortsX
import Derived.Test.YthnajibbkinlkaaGreatDoorSortsR
import Derived.Test.YthnajibbkinlkaaGreatDoorAliveA
namespace Go.Proofs.YthnajibbkinlkaaGreatDoor.PV
open Go.RowKit Go.Proofs.YthnajibbkinlkaaGreatDoorW.PrintWords Go.Proofs.YthnajibbkinlkaaGreatDoorW.PrintLast Go.Proofs.YthnajibbkinlkaaGreatDoorW.PrintMore Go.Proofs.YthnajibbkinlkaaGreatDoor.SortsP
set_option linter.unusedVariables false
set_option linter.unusedSimpArgs false
/-- The answer: the number of the error; the texts, rising, each once. -/
def Ans (l : List ByteArray) (ev : Int) (xs : List ByteArray) : Prop := ((∀ x ∈ l, vB x = true) ∧ ev = 0 ∧ Rs ltB l xs ∧ xs.length ≤ l.length) ∨ ((∃ x ∈ l, ¬ vB x = true) ∧ ev = 70 ∧ xs = [])
theorem Ans.one {l xs ys : List ByteArray} {ev ev2 : Int} (h : Ans l ev xs) (k : Ans l ev2 ys) : xs = ys ∧ ev = ev2 := by
  rcases h with ⟨h1, rfl, h2, _⟩ | ⟨⟨x, hx, hn⟩, rfl, rfl⟩
  · rcases k with ⟨_, rfl, k2, _⟩ | ⟨⟨x, hx, hn⟩, _, _⟩
    · exact ⟨h2.one ltB_irrefl ltB_trans k2, rfl⟩
    · exact absurd (h1 x hx) hn
  · rcases k with ⟨k1, _⟩ | ⟨_, rfl, rfl⟩
    · exact absurd (k1 x hx) hn
    · exact ⟨rfl, rfl⟩
theorem Ans.len {l xs : List ByteArray} {ev : Int} (h : Ans l ev xs) : xs.length ≤ l.length := by
  rcases h with ⟨_, _, _, h⟩ | ⟨_, _, rfl⟩
  · exact h
  · exact Nat.zero_le _
def SQ (w : World) (lo hi i : Nat) (A : Option Addr) (xs : List ByteArray) : Prop := 0 < xs.length → ∃ g, A = some ⟨g, 0, none⟩ ∧ lo ≤ g ∧ g < hi ∧ (∀ j, i ≤ j → ∀ (h : j < xs.length), w.cell? ⟨g, j, none⟩ = some (.string (xs[j]'h))) ∧ ∀ o, w.frozen? ⟨g, o, none⟩ = false
theorem SQ.below {w w1 : World} {lo hi i : Nat} {A : Option Addr} {xs : List ByteArray} (h : SQ w lo hi i A xs) (hh : hi ≤ w.heap.size) (hb : Below w.heap.size w w1) : SQ w1 lo hi i A xs := by
  intro hp
  obtain ⟨g, e, h1, h2, h3, h4⟩ := h hp
  refine ⟨g, e, h1, h2, fun j hij hj => pw_cell_below hb (h3 j hij hj), fun o => ?_⟩
  rw [← h4 o]
  simp only [World.frozen?, hb.block g (by omega)]
theorem SQ.drew {w : World} {lo hi i q : Nat} {A : Option Addr} {xs : List ByteArray} (h : SQ w lo hi i A xs) (hh : hi ≤ w.heap.size) : SQ (w.drewN q) lo hi i A xs := h.below hh (pw_below_drewN (Below.refl _ _) q)
theorem ans_of {l : List ByteArray} {w' : World} {base : Nat} {e : Ending} (h : ((∀ x ∈ l, vB x = true) ∧ ∃ v xs, e = .returned (.tuple #[v, .int .i64 0]) ∧ SR w' base v xs ∧ Rs ltB l xs ∧ xs.length ≤ l.length) ∨ ((∃ x ∈ l, ¬ vB x = true) ∧ e = .returned (.tuple #[.slice none 0 0, .int .i64 70]))) :
    ∃ A c xs ev, e = .returned (.tuple #[.slice A xs.length c, .int .i64 ev]) ∧ SQ w' base w'.heap.size 0 A xs ∧ Ans l ev xs := by
  rcases h with ⟨h1, v, xs, rfl, ⟨A, c, rfl, hg⟩, hx, hl⟩ | ⟨h1, rfl⟩
  · refine ⟨A, c, xs, 0, rfl, fun hp => ?_, .inl ⟨h1, rfl, hx, hl⟩⟩
    obtain ⟨g, e, h2, h3, h4, h5⟩ := hg hp
    exact ⟨g, e, h2, h3, fun j _ hj => h4 j hj, h5⟩
  · exact ⟨none, 0, [], 70, rfl, fun hp => absurd hp (by decide), .inr ⟨h1, rfl, rfl⟩⟩
theorem name_ans (A : Option Addr) (c : Nat) (l : List ByteArray) (w : World) (hA : Kd.C Kd.string w A l.length l) (hl : l.length ≤ 200) (hG : GW w) :
    Calls Tryz.prog 5 #[.slice A l.length c] w fun e w' => ∃ A1 c1 xs ev, e = .returned (.tuple #[.slice A1 xs.length c1, .int .i64 ev]) ∧ SQ w' w.heap.size w'.heap.size 0 A1 xs ∧ Ans l ev xs ∧ Below w.heap.size w w' :=
  (sort_calls A c l w hA hl hG).mono fun e w' ⟨hb, h⟩ => by
    obtain ⟨A1, c1, xs, ev, he, hs, ha⟩ := ans_of h
    exact ⟨A1, c1, xs, ev, he, hs, ha, hb⟩
theorem ref_ans (A : Option Addr) (c : Nat) (l : List ByteArray) (w : World) (hA : Kd.C Kd.string w A l.length l) (hl : l.length ≤ 200) :
    Calls Tryz.prog 6 #[.slice A l.length c] w fun e w' => ∃ A1 c1 xs ev, e = .returned (.tuple #[.slice A1 xs.length c1, .int .i64 ev]) ∧ SQ w' w.heap.size w'.heap.size 0 A1 xs ∧ Ans l ev xs ∧ Below w.heap.size w w' :=
  (rsort_calls A c l w hA hl).mono fun e w' ⟨hb, h⟩ => by
    obtain ⟨A1, c1, xs, ev, he, hs, ha⟩ := ans_of h
    exact ⟨A1, c1, xs, ev, he, hs, ha, hb⟩
theorem cell_set_ne {w : World} {g i g' j : Nat} {v : Value} (h : g' ≠ g ∨ j ≠ i) : (w.setCell ⟨g, i, none⟩ v).cell? ⟨g', j, none⟩ = w.cell? ⟨g', j, none⟩ :=
  World.cell?_setCell_other _ _ _ _ (fun e => by
    injection e with e1 e2 _
    rcases h with h | h
    · exact h e1.symm
    · exact h e2.symm)
theorem SQ.set {w : World} {lo hi i g : Nat} {xs : List ByteArray} {v : Value} (h : SQ w lo hi i (some ⟨g, 0, none⟩) xs) : SQ (w.setCell ⟨g, i, none⟩ v) lo hi (i + 1) (some ⟨g, 0, none⟩) xs := by
  intro hp
  obtain ⟨g', e, h1, h2, h3, h4⟩ := h hp
  injection e with e
  injection e with e _ _
  subst e
  refine ⟨g, rfl, h1, h2, fun j hij hj => ?_, fun o => ?_⟩
  · rw [cell_set_ne (.inr (by omega))]
    exact h3 j (by omega) hj
  · rw [← h4 o]
    simp
theorem SQ.other {w : World} {lo hi i i' g : Nat} {A : Option Addr} {xs : List ByteArray} {v : Value} (h : SQ w lo hi i' A xs) (hg : g < lo) : SQ (w.setCell ⟨g, i, none⟩ v) lo hi i' A xs := by
  intro hp
  obtain ⟨g', e, h1, h2, h3, h4⟩ := h hp
  refine ⟨g', e, h1, h2, fun j hij hj => ?_, fun o => ?_⟩
  · rw [cell_set_ne (.inl (by omega))]
    exact h3 j hij hj
  · rw [← h4 o]
    simp
set_option maxHeartbeats 8000000 in
set_option maxRecDepth 100000 in
theorem law_calls (A : Option Addr) (c : Nat) (l : List ByteArray) (w : World) (hA : Kd.C Kd.string w A l.length l) (hb : l.length ≤ 8796093022208) (hG : GW w) :
    Calls Tryz.prog 3 #[.slice A l.length c] w fun e w' => e = .returned (.bool true) ∧ Below w.heap.size w w' := by
  have HA := Aside0.mk hA
  have HG := Aside0.mk hG
  clear hA hG
  go_enter Tryz.func3, Tryz.ntmps3
  by_cases h200 : l.length ≤ 200
  · have q0 : ¬ (200 : Int) < (l.length : Int) := by omega
    go_wp2_with (at_builtin; refine Kd.R_append_row Value.string ⟨#[]⟩ (h1 := fun _ => rfl) (w0 := w) w.heap.size rfl (.const (.slice none 0 0)) (.tmp 14) 22 9 (.string ⟨#[]⟩) 16 rfl rfl (by kernel_rfl) rfl (by decide) (.slice none 0 0) [] l A l.length c (fun _ => True) rfl rfl (fun _ _ => trivial) (Kd.R_nil _ _ _ _ _) HA.out (Below.refl _ _) (Nat.le_refl _) (by simp; omega) ?_; intro v1 w1 hR1 hb1 _ _; obtain ⟨A1, c1, rfl, _, hC1⟩ := Kd.R_reads hR1; rw [List.nil_append] at hC1; have HC1 := Aside0.mk hC1; have HB1 := Aside0.mk hb1; clear hC1 hb1 hR1)
    have hz1 := HB1.out.size
    refine (name_ans A1 c1 l _ HC1.out h200 (GW.below HG.out HB1.out)).mono ?_
    rintro e w2 ⟨A2, c2, xs, ev, rfl, hs2, hp2, hb2⟩
    have HP2 := Aside0.mk hp2
    clear hp2
    have HS2 := Aside0.mk hs2
    have HB2 := Aside0.mk (below_step (w := w) HB1.out hb2)
    have HK2 := Aside0.mk hb2
    have hz2 := hb2.size
    clear hs2 hb2
    go_wp2_with (fail)
    refine (ref_ans A c l _ (Kd.C_below HA.out HB2.out) h200).mono ?_
    rintro e w3 ⟨A3, c3, ys, ev2, rfl, hs3, hp3, hb3⟩
    obtain ⟨rfl, rfl⟩ := HP2.out.one hp3
    clear hp3
    have HS3 := Aside0.mk hs3
    have HT3 := Aside0.mk (HS2.out.below (Nat.le_refl _) hb3)
    have HB3 := Aside0.mk (below_step (w := w) HB2.out hb3)
    have HK3 := Aside0.mk (below_step (w := w1) HK2.out hb3)
    have hz3 := hb3.size
    clear hs3 hb3
    clear HS2 HB2 HK2
    have hxl := HP2.out.len
    clear HP2
    go_wp2_with (fail)
    go_loopg [8] xs.length (fun g v8 w' => ∃ (i : Nat), i ≤ xs.length ∧ g = xs.length - i ∧ v8 = .int .i64 i ∧ Aside0 (SQ w' w1.heap.size w2.heap.size i A2 xs) ∧ Aside0 (SQ w' w2.heap.size w3.heap.size 0 A3 xs) ∧ Aside0 (w3.heap.size ≤ w'.heap.size) ∧ Aside0 (Below w1.heap.size w1 w') ∧ Aside0 (Below w.heap.size w w'))
    case atStart => exact ⟨0, Nat.zero_le _, rfl, rfl, HT3, HS3, ⟨Nat.le_refl _⟩, HK3, HB3⟩
    case round =>
      obtain ⟨i, hi, rfl, rfl, HT, HS, HZ, HK, HB⟩ := hrel
      by_cases h1 : i < xs.length
      · have q1 : (i : Int) < (xs.length : Int) := by omega
        have q0 : (0 : Int) ≤ (i : Int) := by omega
        obtain ⟨gs, rfl, s1, s2, s3, s4⟩ := HT.out (by omega)
        obtain ⟨gt, rfl, t1, t2, t3, t4⟩ := HS.out (by omega)
        have cs := s3 i (Nat.le_refl _) h1
        have ct := t3 i (Nat.zero_le _) h1
        have fs := s4 i
        clear s3 s4 t3 t4
        go_wp2
        go_quiet (fail)
        go_wp2
        go_roundg (xs.length - (i + 1))
        case measure => omega
        case rel =>
          exact ⟨i + 1, by omega, rfl, by simp, ⟨(HT.out.drew (by have := HZ.out; omega)).set⟩, ⟨(HS.out.drew HZ.out).other s2⟩, ⟨by have := HZ.out; simp; omega⟩, ⟨(pw_below_drewN HK.out nq).setCell s1 _⟩, ⟨(pw_below_drewN HB.out nq).setCell (by have := HB1.out.size; show w.heap.size ≤ gs; omega) _⟩⟩
      · have q1 : ¬ (i : Int) < (xs.length : Int) := by omega
        go_wp2_with (fail)
        go_loopg [9] l.length (fun g v9 w' => ∃ (i : Nat), i ≤ l.length ∧ g = l.length - i ∧ v9 = .int .i64 i ∧ ∃ q, w' = wr.drewN q)
        case atStart => exact ⟨0, Nat.zero_le _, rfl, rfl, 0, rfl⟩
        case round =>
          obtain ⟨j, hj, rfl, rfl, q, rfl⟩ := hrel
          by_cases h2 : j < l.length
          · obtain ⟨ad, rfl, hc0⟩ := C_at HA.out j h2
            obtain ⟨ak, rfl, hk0⟩ := C_at HC1.out j h2
            have hc1 := pw_cell_below HB.out hc0
            have hk1 := pw_cell_below HK.out hk0
            have q2 : (j : Int) < (l.length : Int) := by omega
            have q0 : (0 : Int) ≤ (j : Int) := by omega
            clear hc0 hk0
            generalize (l[j]'h2) = x at *
            go_wp2
            go_quiet (fail)
            go_wp2
            go_roundg (l.length - (j + 1))
            case measure => omega
            case rel => exact ⟨j + 1, by omega, rfl, by simp, _, rfl⟩
          · have q2 : ¬ (j : Int) < (l.length : Int) := by omega
            go_wp2_with (fail)
            refine (yanklinelaw07_alive.calls true _ (GW.below HG.out (by first | exact Below.refl _ _ | exact pw_below_drewN HB.out _ | exact HB.out)) rfl).mono ?_
            rintro e w5 ⟨rfl, hb5'⟩
            have hb5 := hb5'.b
            clear hb5'
            have HB5 := Aside0.mk (below_step (w := w) (pw_below_drewN HB.out q) hb5)
            clear hb5
            go_wp2_with (fail)
            go_ret
            exact ⟨rfl, HB5.out⟩
  · have q0 : (200 : Int) < (l.length : Int) := by omega
    go_wp2_with (fail)
    refine (yanklinelaw07_alive.calls true _ (GW.below HG.out (by first | exact Below.refl _ _ | exact pw_below_drewN HB.out _ | exact HB.out)) rfl).mono ?_
    rintro e w1 ⟨rfl, hb1⟩
    go_wp2_with (fail)
    go_ret
    exact ⟨rfl, hb1.b⟩
end Go.Proofs.YthnajibbkinlkaaGreatDoor.PV

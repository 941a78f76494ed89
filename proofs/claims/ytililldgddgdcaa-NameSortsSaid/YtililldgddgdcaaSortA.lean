/- The walks of both Sorts and of Clip: the forms of all names, rising, each once, in a slice of its own; or the error. -/
import Derived.Test.YtililldgddgdcaaPlainB
import Derived.Test.YtililldgddgdcaaShelfS
import Derived.Test.YtililldgddgdcaaPAx8
import Derived.Test.YtililldgddgdcaaRiseW
import Derived.Sort.OwnSorted
import Derived.BigCall
namespace Go.Proofs.Ytililldgddgdcaa.SortA
open Go.RowKit Go.Proofs.Ytililldgddgdcaa.PA Go.Proofs.Ytililldgddgdcaa.Pure Go.Proofs.YtililldgddgdcaaW.PrintWords Go.Proofs.YtililldgddgdcaaW.PrintLast Go.Proofs.YtililldgddgdcaaW.PrintMore Go.Proofs.Ytililldgddgdcaa.SortP Go.Proofs.Ytililldgddgdcaa.RiseW
set_option linter.unusedVariables false
set_option linter.unusedSimpArgs false
def nB (a : ByteArray) : ByteArray := ⟨(nm a).toArray⟩
theorem bcell {w w1 : World} (hb : Below w.heap.size w w1) : (∀ k o v, k < w.heap.size → w.cell? ⟨k, o, none⟩ = some v → w1.cell? ⟨k, o, none⟩ = some v) ∧ True := ⟨fun k o v hk h => pw_cell_below hb h, trivial⟩
theorem norm_calls (x : ByteArray) (w : World) : Calls Try.prog 12 #[.string x] w fun e w' => e = .returned (.tuple #[.string (if may x = true then nB x else ⟨#[]⟩), .int .i64 (if may x = true then 0 else 60)]) ∧ Below w.heap.size w w' := by
  refine name_Norm.calls x _ _ w ?_
  rw [Norm_eq]
  split <;> rfl
theorem rnorm_calls (x : ByteArray) (w : World) : Calls Try.prog 16 #[.string x] w fun e w' => e = .returned (.tuple #[.string (if may x = true then nB x else ⟨#[]⟩), .int .i64 (if may x = true then 0 else 60)]) ∧ Below w.heap.size w w' := by
  refine yanklineref06_Norm.calls 70 x _ _ w ?_
  rw [RNorm_eq x 70 (Nat.le_refl _)]
  split <;> rfl
/-- A row of strings of the call's own, or none. -/
def SR (w : World) (base : Nat) (v : Value) (xs : List ByteArray) : Prop := ∃ A c, v = .slice A xs.length c ∧ (0 < xs.length → ∃ g, A = some ⟨g, 0, none⟩ ∧ base ≤ g ∧ g < w.heap.size ∧ (∀ j (h : j < xs.length), w.cell? ⟨g, j, none⟩ = some (.string (xs[j]'h))) ∧ ∀ o, w.frozen? ⟨g, o, none⟩ = false)
theorem SR.nil (w : World) (base : Nat) (A : Option Addr) (c : Nat) : SR w base (.slice A 0 c) [] := ⟨A, c, rfl, fun h => absurd h (by decide)⟩
theorem SR_of_R {W : World} {base : Nat} {ok : Nat → Prop} {v : Value} {xs : List ByteArray} (h : Kd.R Kd.string 9 W base ok v xs) : SR W base v xs := by
  obtain ⟨A, c, rfl, _, _⟩ := Kd.R_reads h
  refine ⟨A, c, rfl, fun hp => ?_⟩
  obtain ⟨g, cap, hv, _, hf⟩ := own_shape h hp
  injection hv with e1 _ _
  subst e1
  have hc := own_cells h hp
  exact ⟨g, rfl, own_ge h, World.block_lt_of_cell? _ _ (hc.1 0 hp), hc.1, hf⟩
theorem SR.below {w w1 : World} {base : Nat} {v : Value} {xs : List ByteArray} (h : SR w base v xs) (hb : Below w.heap.size w w1) : SR w1 base v xs := by
  obtain ⟨A, c, rfl, hh⟩ := h
  refine ⟨A, c, rfl, fun hp => ?_⟩
  obtain ⟨g, e, h1, h2, h3, h4⟩ := hh hp
  refine ⟨g, e, h1, Nat.lt_of_lt_of_le h2 hb.size, fun j hj => pw_cell_below hb (h3 j hj), fun o => ?_⟩
  rw [← h4 o]
  simp only [World.frozen?, hb.block g h2]
set_option maxHeartbeats 8000000 in
set_option maxRecDepth 100000 in
theorem rsort_calls (A : Option Addr) (c : Nat) (l : List ByteArray) (w : World) (hA : Kd.C Kd.string w A l.length l) (hl : l.length ≤ 200) :
    Calls Try.prog 23 #[.slice A l.length c] w fun e w' => Below w.heap.size w w' ∧ (((∀ x ∈ l, may x = true) ∧ ∃ v xs, e = .returned (.tuple #[v, .int .i64 0]) ∧ SR w' w.heap.size v xs ∧ xs.map tl = rise (l.map nm)) ∨ ((∃ x ∈ l, ¬ may x = true) ∧ e = .returned (.tuple #[.slice none 0 0, .int .i64 60]))) := by
  have HA := Aside0.mk hA
  clear hA
  go_enter Try.func23, Try.ntmps23
  go_wp2
  go_loopg [4, 5] l.length (fun g v4 v5 w' => ∃ (i : Nat) (ys : List ByteArray), i ≤ l.length ∧ g = l.length - i ∧ v5 = .int .i64 i ∧ ys.length = i ∧ Aside0 (Kd.R Kd.string 9 w' w.heap.size (fun _ => True) v4 ys) ∧ Aside0 (ys = (l.take i).map nB) ∧ Aside0 (∀ x ∈ l.take i, may x = true) ∧ Aside0 (Below w.heap.size w w'))
  case atStart => exact ⟨0, [], Nat.zero_le _, rfl, rfl, rfl, ⟨Kd.R_nil _ _ _ _ _⟩, ⟨rfl⟩, ⟨by simp⟩, ⟨Below.refl _ _⟩⟩
  case round =>
    obtain ⟨i, ys, hi, rfl, rfl, hys0, HR, HE, HM, HB⟩ := hrel
    have hys : ys.length ≤ i := by omega
    have HYS := Aside0.mk hys0
    clear hys0
    by_cases h1 : i < l.length
    · obtain ⟨ad, rfl, hcell0⟩ := C_at HA.out i h1
      have hcell : wr.cell? (ad.add i) = some (.string (l[i]'h1)) := pw_cell_below HB.out hcell0
      have HT : Aside0 (l.take (i + 1) = l.take i ++ [l[i]'h1]) := ⟨List.take_succ_eq_append_getElem h1⟩
      have HX : Aside0 ((l[i]'h1) ∈ l) := ⟨List.getElem_mem h1⟩
      clear hcell0
      generalize (l[i]'h1) = x at *
      have q1 : (i : Int) < (l.length : Int) := by omega
      have q0 : (0 : Int) ≤ (i : Int) := by omega
      have HN := rnorm_calls x
      by_cases hm : may x = true
      · rw [if_pos hm, if_pos hm] at HN
        have HMM := Aside0.mk hm
        clear hm
        obtain ⟨B, kc, hv, hkc, hCy⟩ := Kd.R_reads HR.out
        subst hv
        clear hCy
        go_wp2_with (fail)
        refine (HN _).mono ?_
        rintro e w1 ⟨rfl, hb1⟩
        have HB1 := Aside0.mk (below_step (w := w) HB.out hb1)
        have hz1 := hb1.size
        have HR1 := Aside0.mk (Kd.R_below HR.out hb1)
        clear hb1 HR
        go_wp2_with (at_builtin; refine Kd.R_append Kd.string (w0 := w) w.heap.size rfl (.tmp 25) (.tmp 27) 32 9 (.string ⟨#[]⟩) 16 rfl rfl (by kernel_rfl) rfl (by decide) (by decide) (.slice B ys.length kc) ys (nB x) [.string (nB x)] (fun _ => True) (fun _ => False) rfl rfl rfl (fun k hk => hk.elim) (fun _ _ => trivial) HR1.out HB1.out HB1.out.size (by omega) ?_; intro v2 w2 hR2 hb2 _ _; have HR2 := Aside0.mk hR2; have HB2 := Aside0.mk hb2; clear hR2 hb2)
        go_roundg (l.length - (i + 1))
        case measure => omega
        case rel => exact ⟨i + 1, ys ++ [nB x], by omega, rfl, by simp, by have := HYS.out; simp; omega, HR2, ⟨by rw [HT.out, HE.out]; simp⟩, ⟨by rw [HT.out]; intro y hy; rcases List.mem_append.1 hy with h | h; exact HM.out y h; rw [List.mem_singleton.1 h]; exact HMM.out⟩, HB2⟩
      · rw [if_neg hm, if_neg hm] at HN
        have HMM := Aside0.mk hm
        clear hm
        go_wp2_with (fail)
        refine (HN _).mono ?_
        rintro e w1 ⟨rfl, hb1⟩
        have HB1 := Aside0.mk (below_step (w := w) HB.out hb1)
        clear hb1
        go_wp2_with (fail)
        go_ret2
        exact ⟨HB1.out, .inr ⟨⟨x, HX.out, HMM.out⟩, rfl⟩⟩
    · have h2 : i = l.length := by omega
      obtain ⟨B, kc, hv, hkc, hCy⟩ := Kd.R_reads HR.out
      subst hv
      have HCY := Aside0.mk hCy
      clear hCy
      have hall : ∀ x ∈ l, may x = true := by
        have := HM.out
        rw [h2, List.take_length] at this
        exact this
      have HALL := Aside0.mk hall
      clear hall
      have q1 : ¬ (i : Int) < (l.length : Int) := by omega
      go_wp2_with (fail)
      refine (rising_calls B kc ys _ HCY.out (by omega)).mono ?_
      rintro e w1 ⟨v, xs, rfl, hR1, hx, hb1⟩
      have HB1 := Aside0.mk (below_step (w := w) HB.out hb1)
      have HS := Aside0.mk (SR_of_R hR1)
      have hz1 := HB.out.size
      clear hb1 hR1
      go_wp2_with (fail)
      go_ret2
      refine ⟨HB1.out, .inl ⟨HALL.out, v, xs, rfl, ?_, ?_⟩⟩
      · obtain ⟨A1, c1, hv1, hh⟩ := HS.out
        exact ⟨A1, c1, hv1, fun hp => by obtain ⟨g, e1, h3, h4⟩ := hh hp; exact ⟨g, e1, Nat.le_trans hz1 h3, h4⟩⟩
      · rw [hx, HE.out, h2, List.take_length, List.map_map]
        rfl
open Go.Sort Go.Shelf
theorem encs_tl (ys : List ByteArray) : encs Value.string ys = (ys.map tl).map encStr := by
  unfold encs
  rw [List.map_map]
  apply List.map_congr_left
  intro y _
  rfl
theorem row_of {w : World} {base g n cap : Nat} {zs : List (List UInt8)} (h : w.ownsRow base 9 1 (.slice (some ⟨g, 0, none⟩) n cap) n (zs.map encStr)) :
    ∃ cur, base ≤ g ∧ w.heap[g]? = some (.cells cur 9 (0, 0)) ∧ n ≤ cap ∧ cap ≤ maxLen ∧ cur.size = cap * 1 ∧ cur.toList.take zs.length = zs.map encStr ∧ zs.length = n := by
  have hl := h.1
  rw [List.length_map, Nat.mul_one] at hl
  rcases h.2 with ⟨hv, _⟩ | ⟨g', cap', cur, hv, h1, h2, h3, h4, h5, h6⟩
  · cases hv
  · cases hv
    refine ⟨cur, h1, h2, h3, h4, h5, ?_, hl⟩
    rw [hl]
    rw [Nat.mul_one] at h6
    exact h6
theorem sort3 {w : World} {base g n cap : Nat} {zs : List (List UInt8)} (h : w.ownsRow base 9 1 (.slice (some ⟨g, 0, none⟩) n cap) n (zs.map encStr)) (hbs : base ≤ w.heap.size) (hn : n < 4611686018427387904) :
    Calls Try.prog 30 #[.slice (some ⟨g, 0, none⟩) n cap] w fun e w' => e = .returned (.tuple #[]) ∧ w'.ownsRow base 9 1 (.slice (some ⟨g, 0, none⟩) n cap) n ((zs.mergeSort fun x y => decide (x ≤ y)).map encStr) ∧ Below base w w' := by
  obtain ⟨cur, h1, h2, h3, h4, h5, h6, rfl⟩ := row_of h
  refine (Try.slices_Sort_string g 0 cap zs w (holds_of_block h2 h6) (Array.getElem?_eq_some_iff.1 h2).1 hn).mono ?_
  rintro e w' ⟨rfl, m, os, rfl⟩
  refine ⟨rfl, ownsRow_sorted (by simp) h1 h2 h3 h4 h5, Below.grown (Below.refl _ _) (grownBy_sorted _) hbs (fun k hk => ?_)⟩
  injection hk with hk
  omega
theorem compact3 {w : World} {base g n cap : Nat} {zs : List (List UInt8)} (h : w.ownsRow base 9 1 (.slice (some ⟨g, 0, none⟩) n cap) n (zs.map encStr)) (hbs : base ≤ w.heap.size) (hn : n < 4611686018427387904) :
    Calls Try.prog 32 #[.slice (some ⟨g, 0, none⟩) n cap] w fun e w' => e = .returned (.slice (some ⟨g, 0, none⟩) (Lib.compact zs).length cap) ∧ (∀ j (hj : j < (Lib.compact zs).length), w'.cell? ⟨g, j, none⟩ = some (encStr ((Lib.compact zs)[j]'hj))) ∧ (∀ o, w'.frozen? ⟨g, o, none⟩ = false) ∧ base ≤ g ∧ g < w'.heap.size ∧ (Lib.compact zs).length ≤ cap ∧ Below base w w' := by
  obtain ⟨cur, h1, h2, h3, h4, h5, h6, rfl⟩ := row_of h
  refine (Try.slices_Compact_string g 0 cap zs w (holds_of_block h2 h6) (by omega) h3).mono ?_
  rintro e w' ⟨rfl, q, hw⟩
  have hle := Lib.compact_length_le zs
  replace hw := hw.trans (grow_empty _).symm
  subst hw
  have ho := ownsRow_sorted (n := q) (os := #[]) (ts := Lib.compact zs ++ List.replicate (zs.length - (Lib.compact zs).length) []) (by simp; omega) h1 h2 h3 h4 h5
  have hf := heap_sorted (n := q) (os := #[]) (Lib.compact zs ++ List.replicate (zs.length - (Lib.compact zs).length) []).toArray h2
  refine ⟨rfl, fun j hj => ?_, fun o => by simp only [World.frozen?, hf]; rfl, h1, by simp; exact (Array.getElem?_eq_some_iff.1 h2).1, by omega, Below.grown (Below.refl _ _) (grownBy_sorted _) hbs (fun k hk => ?_)⟩
  · rw [ho.cellAt j (by omega)]
    rw [List.getElem?_map, List.getElem?_append_left hj, List.getElem?_eq_getElem hj]
    rfl
  · injection hk with hk
    omega
set_option maxHeartbeats 8000000 in
theorem clip_calls (g n cap : Nat) (w : World) (hn : n ≤ cap) : Calls Try.prog 31 #[.slice (some ⟨g, 0, none⟩) n cap] w fun e w' => e = .returned (.slice (some ⟨g, 0, none⟩) n n) ∧ w' = w := by
  have h1 : (n : Int) ≤ (cap : Int) := by omega
  have h2 : (0 : Int) ≤ (n : Int) := by omega
  go_enter Try.func31, Try.ntmps31
  go_wp2
  go_ret
  exact ⟨by simp, rfl⟩
set_option maxHeartbeats 8000000 in
theorem clip_none (w : World) : Calls Try.prog 31 #[.slice none 0 0] w fun e w' => e = .returned (.slice none 0 0) ∧ w' = w := by
  go_enter Try.func31, Try.ntmps31
  go_wp2
  go_ret
  exact ⟨rfl, rfl⟩
set_option maxHeartbeats 8000000 in
set_option maxRecDepth 100000 in
theorem sort_calls (A : Option Addr) (c : Nat) (l : List ByteArray) (w : World) (hA : Kd.C Kd.string w A l.length l) (hl : l.length ≤ 200) :
    Calls Try.prog 22 #[.slice A l.length c] w fun e w' => Below w.heap.size w w' ∧ (((∀ x ∈ l, may x = true) ∧ ∃ v xs, e = .returned (.tuple #[v, .int .i64 0]) ∧ SR w' w.heap.size v xs ∧ xs.map tl = rise (l.map nm)) ∨ ((∃ x ∈ l, ¬ may x = true) ∧ e = .returned (.tuple #[.slice none 0 0, .int .i64 60]))) := by
  have HA := Aside0.mk hA
  clear hA
  go_enter Try.func22, Try.ntmps22
  go_wp2
  go_loopg [4, 11] l.length (fun g v4 v11 w' => ∃ (i : Nat) (ys : List ByteArray), i ≤ l.length ∧ g = l.length - i ∧ v11 = .int .i64 i ∧ ys.length = i ∧ Aside0 (Kd.R Kd.string 9 w' w.heap.size (fun _ => True) v4 ys) ∧ Aside0 (ys = (l.take i).map nB) ∧ Aside0 (∀ x ∈ l.take i, may x = true) ∧ Aside0 (i = 0 → v4 = .slice none 0 0) ∧ Aside0 (Below w.heap.size w w'))
  case atStart => exact ⟨0, [], Nat.zero_le _, rfl, rfl, rfl, ⟨Kd.R_nil _ _ _ _ _⟩, ⟨rfl⟩, ⟨by simp⟩, ⟨fun _ => rfl⟩, ⟨Below.refl _ _⟩⟩
  case round =>
    obtain ⟨i, ys, hi, rfl, rfl, hys0, HR, HE, HM, HZ, HB⟩ := hrel
    have hys : ys.length ≤ i := by omega
    have HYS := Aside0.mk hys0
    clear hys0
    by_cases h1 : i < l.length
    · obtain ⟨ad, rfl, hcell0⟩ := C_at HA.out i h1
      have hcell : wr.cell? (ad.add i) = some (.string (l[i]'h1)) := pw_cell_below HB.out hcell0
      have HT : Aside0 (l.take (i + 1) = l.take i ++ [l[i]'h1]) := ⟨List.take_succ_eq_append_getElem h1⟩
      have HX : Aside0 ((l[i]'h1) ∈ l) := ⟨List.getElem_mem h1⟩
      clear hcell0
      generalize (l[i]'h1) = x at *
      have q1 : (i : Int) < (l.length : Int) := by omega
      have q0 : (0 : Int) ≤ (i : Int) := by omega
      have HN := norm_calls x
      by_cases hm : may x = true
      · rw [if_pos hm, if_pos hm] at HN
        have HMM := Aside0.mk hm
        clear hm
        obtain ⟨B, kc, hv, hkc, hCy⟩ := Kd.R_reads HR.out
        subst hv
        clear hCy
        go_wp2_with (fail)
        refine (HN _).mono ?_
        rintro e w1 ⟨rfl, hb1⟩
        have HB1 := Aside0.mk (below_step (w := w) HB.out hb1)
        have hz1 := hb1.size
        have HR1 := Aside0.mk (Kd.R_below HR.out hb1)
        clear hb1 HR HZ
        go_wp2_with (at_builtin; refine Kd.R_append Kd.string (w0 := w) w.heap.size rfl (.tmp 23) (.tmp 25) 32 9 (.string ⟨#[]⟩) 16 rfl rfl (by kernel_rfl) rfl (by decide) (by decide) (.slice B ys.length kc) ys (nB x) [.string (nB x)] (fun _ => True) (fun _ => False) rfl rfl rfl (fun k hk => hk.elim) (fun _ _ => trivial) HR1.out HB1.out HB1.out.size (by omega) ?_; intro v2 w2 hR2 hb2 _ _; have HR2 := Aside0.mk hR2; have HB2 := Aside0.mk hb2; clear hR2 hb2)
        go_roundg (l.length - (i + 1))
        case measure => omega
        case rel => exact ⟨i + 1, ys ++ [nB x], by omega, rfl, by simp, by have := HYS.out; simp; omega, HR2, ⟨by rw [HT.out, HE.out]; simp⟩, ⟨by rw [HT.out]; intro y hy; rcases List.mem_append.1 hy with h | h; exact HM.out y h; rw [List.mem_singleton.1 h]; exact HMM.out⟩, ⟨fun h => absurd h (by omega)⟩, HB2⟩
      · rw [if_neg hm, if_neg hm] at HN
        have HMM := Aside0.mk hm
        clear hm
        go_wp2_with (fail)
        refine (HN _).mono ?_
        rintro e w1 ⟨rfl, hb1⟩
        have HB1 := Aside0.mk (below_step (w := w) HB.out hb1)
        clear hb1
        go_wp2_with (fail)
        go_ret2
        exact ⟨HB1.out, .inr ⟨⟨x, HX.out, HMM.out⟩, rfl⟩⟩
    · have h2 : i = l.length := by omega
      have hall : ∀ x ∈ l, may x = true := by
        have := HM.out
        rw [h2, List.take_length] at this
        exact this
      have HALL := Aside0.mk hall
      clear hall
      have q1 : ¬ (i : Int) < (l.length : Int) := by omega
      by_cases h0 : i = 0
      · have hv := HZ.out h0
        subst hv
        have HL : Aside0 (l = []) := ⟨List.length_eq_zero_iff.1 (by omega)⟩
        go_wp2_with (fail)
        refine (Try.slices_Sort_string_none none 0 _).mono ?_
        rintro e w1 ⟨rfl, rfl⟩
        go_wp2_with (fail)
        refine (Try.slices_Compact_string_empty none 0 _).mono ?_
        rintro e w1 ⟨rfl, rfl⟩
        go_wp2_with (fail)
        refine (clip_none _).mono ?_
        rintro e w1 ⟨rfl, rfl⟩
        go_wp2_with (fail)
        go_ret2
        refine ⟨HB.out, .inl ⟨HALL.out, _, [], rfl, SR.nil _ _ _ _, ?_⟩⟩
        rw [HL.out]
        rfl
      · have hp : 0 < ys.length := by have := HYS.out; omega
        obtain ⟨g, cap, rfl, hcap, _⟩ := own_shape HR.out hp
        have ho := Kd.own_of_R (enc := Value.string) (h1 := fun _ => rfl) HR.out
        rw [encs_tl] at ho
        have HO := Aside0.mk ho
        have HP := Aside0.mk hp
        have hz1 := HB.out.size
        clear ho hp h0 HR HZ
        go_wp2_with (fail)
        refine (sort3 HO.out hz1 (by omega)).mono ?_
        rintro e w1 ⟨rfl, ho1, hb1⟩
        have HO1 := Aside0.mk ho1
        have HB1 := Aside0.mk (HB.out.trans hb1)
        clear ho1 hb1
        go_wp2_with (fail)
        refine (compact3 HO1.out HB1.out.size (by omega)).mono ?_
        rintro e w2 ⟨rfl, hc2, hf2, hg1, hg2, hk, hb2⟩
        have HC2 := Aside0.mk hc2
        have HF2 := Aside0.mk hf2
        have HB2 := Aside0.mk (HB1.out.trans hb2)
        have HEQ : Aside0 (Lib.compact ((ys.map tl).mergeSort fun x y => decide (x ≤ y)) = rise (l.map nm)) := ⟨by
          rw [rise_sort, compact_cmp, HE.out, h2, List.take_length, List.map_map]
          rfl⟩
        clear hc2 hf2 hb2
        generalize Lib.compact ((ys.map tl).mergeSort fun x y => decide (x ≤ y)) = zs at *
        go_wp2_with (fail)
        refine (clip_calls g zs.length cap _ hk).mono ?_
        rintro e w3 ⟨rfl, rfl⟩
        go_wp2_with (fail)
        go_ret2
        refine ⟨HB2.out, .inl ⟨HALL.out, .slice (some ⟨g, 0, none⟩) zs.length zs.length, zs.map (fun b => ⟨b.toArray⟩), rfl, ⟨some ⟨g, 0, none⟩, zs.length, by rw [List.length_map], fun _ => ⟨g, rfl, hg1, hg2, fun j hj => ?_, HF2.out⟩⟩, ?_⟩⟩
        · rw [HC2.out j (by simpa using hj), List.getElem_map]
        · rw [List.map_map, ← HEQ.out]
          conv => rhs; rw [← List.map_id zs]
          rfl
end Go.Proofs.Ytililldgddgdcaa.SortA

/- The walks of the document's own Read. -/
import Derived.Test.YthnajibbkinlkaaGreatDoorRefC
namespace Go.Proofs.YthnajibbkinlkaaGreatDoor.PV
open Go.RowKit Go.Proofs.YthnajibbkinlkaaGreatDoorW.PrintWords Go.Proofs.YthnajibbkinlkaaGreatDoorW.PrintLast Go.Proofs.YthnajibbkinlkaaGreatDoorW.PrintMore
attribute [local go_sem] max2_int min2_int max_two min_two max_three min_three max_four min_four   -- for this text's walks alone
set_option linter.unusedVariables false
set_option linter.unusedSimpArgs false

/-! The document's own Read and Order. -/
theorem cut_pos (s : ByteArray) : (preB s = false ∧ headB s = s ∧ ∀ i (h : i < s.size), (s[i]'h) ≠ 45) ∨ (preB s = true ∧ ∃ d, ∃ hd : d < s.size, (s[d]'hd) = 45 ∧ (∀ i (h : i < d), (s[i]'(Nat.lt_trans h hd)) ≠ 45) ∧ headB s = s.extract 0 d ∧ tailB s = s.extract (d + 1) s.size) := by
  have hd : dash.data.toList = [45] := rfl
  have hg : ∀ i (h : i < s.size), s[i]'h = s.data.toList[i]'(by rw [size_len]; exact h) := fun _ _ => rfl
  unfold preB headB tailB
  rw [hd]
  unfold Lib.cut
  rw [Lib.index_one]
  rcases idx_cases 45 s.data.toList with ⟨h1, h2⟩ | ⟨p, q, h1, h2, h3⟩
  · left
    rw [h1, if_neg (by omega)]
    refine ⟨rfl, rfl, fun i h e => h2 ?_⟩
    rw [← e, hg i h]
    exact List.getElem_mem _
  · right
    rw [h3, if_pos (by omega)]
    have hlen : s.size = p.length + (q.length + 1) := by rw [← size_len, h1]; simp
    refine ⟨rfl, p.length, by omega, ?_, ?_, ?_, ?_⟩
    · rw [hg]
      simp only [h1]
      rw [List.getElem_append_right (Nat.le_refl _)]
      simp
    · intro i h
      rw [hg]
      simp only [h1]
      rw [List.getElem_append_left h]
      exact fun e => h2 (e ▸ List.getElem_mem _)
    · apply ba_ext
      rw [ext_map]
      simp
    · apply ba_ext
      rw [ext_map]
      simp only [Int.toNat_natCast, List.length_singleton]
      rw [List.take_of_length_le (by rw [List.length_drop, size_len]; omega)]
theorem C_none (W : World) : Kd.C Kd.string W none 0 [] := ⟨rfl, by omega, fun h => absurd h (by decide)⟩
theorem rcut46_r (s : ByteArray) (w : World) (hs : s.size ≤ 1000) :
    Calls Tryz.prog 51 #[.string s, .int .u8 46] w fun e w' => ∃ A k, e = .returned (.slice A (spl s).length k) ∧ (spl s).length ≤ k ∧ Kd.R Kd.string 9 w' w.heap.size (fun k => w.heap.size ≤ k) (.slice A (spl s).length k) (spl s) ∧ Below w.heap.size w w' := by
  refine (show Calls Tryz.prog 51 #[.string s, .int .u8 46] w _ from rcut_calls s 46 w hs).mono ?_
  rintro e w' ⟨v, rfl, hR, hb⟩
  rw [← spl_S] at hR
  obtain ⟨A, k, rfl, hk, _⟩ := Kd.R_reads hR
  exact ⟨A, k, rfl, hk, Kd.R_mono (Kd.R_bound hR) (fun k hk => hk.2.1), hb⟩
theorem rcut46_3 (s x y z : ByteArray) (w : World) (hs : s.size ≤ 1000) (h : spl s = [x, y, z]) :
    Calls Tryz.prog 51 #[.string s, .int .u8 46] w fun e w' => ∃ b o k, e = .returned (.slice (some ⟨b, o, none⟩) 3 k) ∧ w'.cell? ⟨b, o, none⟩ = some (.string x) ∧ w'.cell? ⟨b, o + 1, none⟩ = some (.string y) ∧ w'.cell? ⟨b, o + 2, none⟩ = some (.string z) ∧ b < w'.heap.size ∧ Below w.heap.size w w' := by
  refine (rcut46_r s w hs).mono ?_
  rintro e w' ⟨A, k, rfl, hk, hR, hb⟩
  rw [h] at hR ⊢
  obtain ⟨A', k', he, _, hC⟩ := Kd.R_reads hR
  cases he
  obtain ⟨b, o, rfl, hc⟩ := C_cells hC (by simp)
  have h0 := hc 0 (by simp)
  exact ⟨b, o, _, rfl, h0, hc 1 (by simp), hc 2 (by simp), World.block_lt_of_cell? _ _ h0, hb⟩
theorem rcut46_n (s : ByteArray) (w : World) (hs : s.size ≤ 1000) (h : (spl s).length ≠ 3) :
    Calls Tryz.prog 51 #[.string s, .int .u8 46] w fun e w' => ∃ A n k, e = .returned (.slice A n k) ∧ ((n : Int) == 3) = false ∧ Below w.heap.size w w' := by
  refine (rcut46_r s w hs).mono ?_
  rintro e w' ⟨A, k, rfl, hk, hR, hb⟩
  exact ⟨A, _, k, rfl, beq_eq_false_iff_ne.2 (by omega), hb⟩
theorem rcut46_l (s : ByteArray) (l : List ByteArray) (w : World) (hs : s.size ≤ 1000) (h : spl s = l) :
    Calls Tryz.prog 51 #[.string s, .int .u8 46] w fun e w' => ∃ A k, e = .returned (.slice A l.length k) ∧ l.length ≤ k ∧ Kd.R Kd.string 9 w' w.heap.size (fun k => w.heap.size ≤ k) (.slice A l.length k) l ∧ Below w.heap.size w w' := by
  subst h
  exact rcut46_r s w hs
theorem rnum_yes (s : ByteArray) (v : Int) (w : World) (hs : s.size < 9223372036854775000) (h : numV s = some v) : Calls Tryz.prog 52 #[.string s] w fun e w' => e = .returned (.tuple #[.int .u32 v, .bool true]) ∧ Below w.heap.size w w' := by
  refine (rnumber_calls s w hs).mono ?_
  rintro e w' ⟨a, b, rfl, h1, _, hb⟩
  obtain ⟨rfl, rfl⟩ := h1 v h
  exact ⟨rfl, hb⟩
theorem rnum_no (s : ByteArray) (w : World) (hs : s.size < 9223372036854775000) (h : numV s = none) : Calls Tryz.prog 52 #[.string s] w fun e w' => ∃ a : Int, e = .returned (.tuple #[.int .u32 a, .bool false]) ∧ Below w.heap.size w w' := by
  refine (rnumber_calls s w hs).mono ?_
  rintro e w' ⟨a, b, rfl, _, h2, hb⟩
  obtain rfl := h2 h
  exact ⟨a, rfl, hb⟩
theorem rnum_any (s : ByteArray) (w : World) (hs : s.size < 9223372036854775000) : Calls Tryz.prog 52 #[.string s] w fun e w' => ∃ (a : Int) (b : Bool), e = .returned (.tuple #[.int .u32 a, .bool b]) ∧ Below w.heap.size w w' := by
  refine (rnumber_calls s w hs).mono ?_
  rintro e w' ⟨a, b, rfl, _, _, hb⟩
  exact ⟨a, b, rfl, hb⟩
set_option maxRecDepth 100000 in
theorem retC {fn : Func} {p u : Tmp} (hres : fn.results = #[.cell p 32, .tmp u]) (tmps : Array Value) (W : World) (g : Nat) (v0 v1 v2 v3 v4 : Value) (ht : tmps.getD p undef = .pointer (some ⟨g, 0, none⟩)) (hu : tmps.getD u undef = v4) (c0 : W.cell? ⟨g, 0, none⟩ = some v0) (c1 : W.cell? ⟨g, 1, none⟩ = some v1) (c2 : W.cell? ⟨g, 2, none⟩ = some v2) (c3 : W.cell? ⟨g, 3, none⟩ = some v3) :
    (results fn tmps).run Tryz.prog W = .ok (.tuple #[.agg #[v0, v1, v2, v3], v4]) W := by
  rw [results_cell_tmp hres, ht, hu]
  have := load4 W g v0 v1 v2 v3 c0 c1 c2 c3
  have e : ∀ W', (asAddr (.pointer (some ⟨g, 0, none⟩))).run Tryz.prog W' = .ok ⟨g, 0, none⟩ W' := fun _ => rfl
  rw [e]
  show ((loadVar 32 ⟨g, 0, none⟩).run _ _).andThen _ = _
  rw [this]
  simp only [Result.andThen]
set_option maxHeartbeats 8000000 in
set_option maxRecDepth 100000 in
theorem rread_long (s : ByteArray) (w : World) (hs : 128 < s.size) :
    Calls Tryz.prog 27 #[.string s] w fun e w' => ∃ A cap, e = .returned (.tuple #[.agg #[.int .u32 0, .int .u32 0, .int .u32 0, .slice A ([] : List ByteArray).length cap], .int .i64 70]) ∧ ([] : List ByteArray).length ≤ cap ∧ Kd.C Kd.string w' A ([] : List ByteArray).length [] ∧ Below w.heap.size w w' := by
  go_enter Tryz.func27, Tryz.ntmps27
  go_wp2
  have c0 : (w.alloc (.cells #[.int .u32 0, .int .u32 0, .int .u32 0, .slice none 0 0] 32)).cell? ⟨w.heap.size, 0, none⟩ = some (.int .u32 0) := by go_simp
  have c1 : (w.alloc (.cells #[.int .u32 0, .int .u32 0, .int .u32 0, .slice none 0 0] 32)).cell? ⟨w.heap.size, 1, none⟩ = some (.int .u32 0) := by go_simp
  have c2 : (w.alloc (.cells #[.int .u32 0, .int .u32 0, .int .u32 0, .slice none 0 0] 32)).cell? ⟨w.heap.size, 2, none⟩ = some (.int .u32 0) := by go_simp
  have c3 : (w.alloc (.cells #[.int .u32 0, .int .u32 0, .int .u32 0, .slice none 0 0] 32)).cell? ⟨w.heap.size, 3, none⟩ = some (.slice none 0 0) := by go_simp
  refine bodyPost_ret (retC Tryz.results27 _ (w.alloc (.cells #[.int .u32 0, .int .u32 0, .int .u32 0, .slice none 0 0] 32)) (w.heap.size) _ _ _ _ _ rfl rfl c0 c1 c2 c3) rfl ⟨none, 0, rfl, Nat.le_refl _, C_none _, (Below.refl _ _).alloc (Nat.le_refl _) _⟩

set_option maxHeartbeats 8000000 in
set_option maxRecDepth 100000 in
theorem rread_nil_n (s : ByteArray) (w : World) (hs : s.size ≤ 128) (HNO : Aside0 (∀ i (h : i < s.size), (s[i]'h) ≠ 45)) (hN : (spl s).length ≠ 3)  :
    Calls Tryz.prog 27 #[.string s] w fun e w' => ∃ A cap, e = .returned (.tuple #[.agg #[.int .u32 0, .int .u32 0, .int .u32 0, .slice A ([] : List ByteArray).length cap], .int .i64 70]) ∧ ([] : List ByteArray).length ≤ cap ∧ Kd.C Kd.string w' A ([] : List ByteArray).length [] ∧ Below w.heap.size w w' := by
  go_enter Tryz.func27, Tryz.ntmps27
  go_wp2
  go_loopg [4, 6] s.size (fun g v4 v6 w' => ∃ i : Nat, i ≤ s.size ∧ g = s.size - i ∧ v4 = .string s ∧ v6 = .int .i64 i ∧ ((w.alloc (.cells #[.int .u32 0, .int .u32 0, .int .u32 0, .slice none 0 0] 32)).alloc (.cells #[.int .u32 0, .int .u32 0, .int .u32 0, .slice none 0 0] 32)) = w')
  case atStart => exact ⟨0, Nat.zero_le _, rfl, rfl, rfl, rfl⟩
  case round =>
  obtain ⟨i, hi, rfl, rfl, rfl, rfl⟩ := hrel
  by_cases h1 : i < s.size
  · have q1 : (i : Int) < (s.size : Int) := by omega
    have hne : (((s[i]'h1).toNat : Int) == 45) = false := beq_eq_false_iff_ne.2 (fun h => HNO.out i h1 (UInt8.toNat_inj.1 (by have : (45 : UInt8).toNat = 45 := rfl; omega)))
    go_wp2
    go_roundg (s.size - (i + 1))
    case measure => omega
    case rel => exact ⟨i + 1, by omega, rfl, rfl, by simp, rfl⟩
  have hi' : i = s.size := by omega
  subst hi'
  clear h1 hi
  go_wp2_with (fail)
  refine (rcut46_n s _ (by omega) hN).mono ?_
  rintro e w1 ⟨A2, n2, k2, rfl, hn2, hb1⟩
  have HB1 := Aside0.mk (below_step (w := w) (by repeat (first | exact Below.refl _ _ | exact HB9.out | exact HB8.out | exact HB7.out | exact HB6.out | exact HB5.out | exact HB4.out | exact HB3.out | exact HB2.out | exact HB1.out | exact HB.out | (refine Below.alloc ?_ (by first | exact HB9.out.size | exact HB8.out.size | exact HB7.out.size | exact HB6.out.size | exact HB5.out.size | exact HB4.out.size | exact HB3.out.size | exact HB2.out.size | exact HB1.out.size | exact HB.out.size | (simp; done) | (simp <;> omega)) _) | apply pw_below_drewN | (refine Below.setCell ?_ (by first | (simp; done) | (simp <;> omega) | omega) _))) hb1)
  obtain ⟨hc1, hf1⟩ := rbcell hb1
  have hza1 : w.heap.size < w1.heap.size := by have := hb1.size; (try simp at this); omega
  have hzb1 : w.heap.size + 1 < w1.heap.size := by have := hb1.size; (try simp at this); omega
  have hG1 : ∀ o, w1.cell? ⟨w.heap.size, o, none⟩ = ((w.alloc (.cells #[.int .u32 0, .int .u32 0, .int .u32 0, .slice none 0 0] 32)).alloc (.cells #[.int .u32 0, .int .u32 0, .int .u32 0, .slice none 0 0] 32)).cell? ⟨w.heap.size, o, none⟩ := fun o => (hc1 _ _ (by first | omega | (simp; done) | (simp; omega))).trans rfl
  clear hb1
  go_wp2
  have z0 : w1.cell? ⟨w.heap.size, 0, none⟩ = some (.int .u32 0) := (hG1 0).trans (by go_simp)
  have z1 : w1.cell? ⟨w.heap.size, 1, none⟩ = some (.int .u32 0) := (hG1 1).trans (by go_simp)
  have z2 : w1.cell? ⟨w.heap.size, 2, none⟩ = some (.int .u32 0) := (hG1 2).trans (by go_simp)
  have z3 : w1.cell? ⟨w.heap.size, 3, none⟩ = some (.slice none 0 0) := (hG1 3).trans (by go_simp)
  have c0 : ((((w1.setCell ⟨w.heap.size, 0, none⟩ (.int .u32 0)).setCell ⟨w.heap.size, 1, none⟩ (.int .u32 0)).setCell ⟨w.heap.size, 2, none⟩ (.int .u32 0)).setCell ⟨w.heap.size, 3, none⟩ (.slice none 0 0)).cell? ⟨w.heap.size, 0, none⟩ = some (.int .u32 0) := by go_simp
  have c1 : ((((w1.setCell ⟨w.heap.size, 0, none⟩ (.int .u32 0)).setCell ⟨w.heap.size, 1, none⟩ (.int .u32 0)).setCell ⟨w.heap.size, 2, none⟩ (.int .u32 0)).setCell ⟨w.heap.size, 3, none⟩ (.slice none 0 0)).cell? ⟨w.heap.size, 1, none⟩ = some (.int .u32 0) := by go_simp
  have c2 : ((((w1.setCell ⟨w.heap.size, 0, none⟩ (.int .u32 0)).setCell ⟨w.heap.size, 1, none⟩ (.int .u32 0)).setCell ⟨w.heap.size, 2, none⟩ (.int .u32 0)).setCell ⟨w.heap.size, 3, none⟩ (.slice none 0 0)).cell? ⟨w.heap.size, 2, none⟩ = some (.int .u32 0) := by go_simp
  have c3 : ((((w1.setCell ⟨w.heap.size, 0, none⟩ (.int .u32 0)).setCell ⟨w.heap.size, 1, none⟩ (.int .u32 0)).setCell ⟨w.heap.size, 2, none⟩ (.int .u32 0)).setCell ⟨w.heap.size, 3, none⟩ (.slice none 0 0)).cell? ⟨w.heap.size, 3, none⟩ = some (.slice none 0 0) := by go_simp
  refine bodyPost_ret (retC Tryz.results27 _ ((((w1.setCell ⟨w.heap.size, 0, none⟩ (.int .u32 0)).setCell ⟨w.heap.size, 1, none⟩ (.int .u32 0)).setCell ⟨w.heap.size, 2, none⟩ (.int .u32 0)).setCell ⟨w.heap.size, 3, none⟩ (.slice none 0 0)) (w.heap.size) _ _ _ _ _ rfl rfl c0 c1 c2 c3) rfl ⟨none, 0, rfl, Nat.le_refl _, C_none _, (by refine Below.setCell (Below.setCell (Below.setCell (Below.setCell HB1.out ?_ _) ?_ _) ?_ _) ?_ _ <;> simp)⟩

set_option maxHeartbeats 8000000 in
set_option maxRecDepth 100000 in
theorem rread_nil_x (s : ByteArray) (w : World) (hs : s.size ≤ 128) (HNO : Aside0 (∀ i (h : i < s.size), (s[i]'h) ≠ 45)) (x y z : ByteArray) (hL : spl s = [x, y, z]) (hx : x.size ≤ 128) (hy : y.size ≤ 128) (hz : z.size ≤ 128) (nx : numV x = none)  :
    Calls Tryz.prog 27 #[.string s] w fun e w' => ∃ A cap, e = .returned (.tuple #[.agg #[.int .u32 0, .int .u32 0, .int .u32 0, .slice A ([] : List ByteArray).length cap], .int .i64 70]) ∧ ([] : List ByteArray).length ≤ cap ∧ Kd.C Kd.string w' A ([] : List ByteArray).length [] ∧ Below w.heap.size w w' := by
  go_enter Tryz.func27, Tryz.ntmps27
  go_wp2
  go_loopg [4, 6] s.size (fun g v4 v6 w' => ∃ i : Nat, i ≤ s.size ∧ g = s.size - i ∧ v4 = .string s ∧ v6 = .int .i64 i ∧ ((w.alloc (.cells #[.int .u32 0, .int .u32 0, .int .u32 0, .slice none 0 0] 32)).alloc (.cells #[.int .u32 0, .int .u32 0, .int .u32 0, .slice none 0 0] 32)) = w')
  case atStart => exact ⟨0, Nat.zero_le _, rfl, rfl, rfl, rfl⟩
  case round =>
  obtain ⟨i, hi, rfl, rfl, rfl, rfl⟩ := hrel
  by_cases h1 : i < s.size
  · have q1 : (i : Int) < (s.size : Int) := by omega
    have hne : (((s[i]'h1).toNat : Int) == 45) = false := beq_eq_false_iff_ne.2 (fun h => HNO.out i h1 (UInt8.toNat_inj.1 (by have : (45 : UInt8).toNat = 45 := rfl; omega)))
    go_wp2
    go_roundg (s.size - (i + 1))
    case measure => omega
    case rel => exact ⟨i + 1, by omega, rfl, rfl, by simp, rfl⟩
  have hi' : i = s.size := by omega
  subst hi'
  clear h1 hi
  go_wp2_with (fail)
  refine (rcut46_3 s x y z _ (by omega) hL).mono ?_
  rintro e w1 ⟨b1, o1, k2, rfl, cx, cy, cz, hlt1, hb1⟩
  have HB1 := Aside0.mk (below_step (w := w) (by repeat (first | exact Below.refl _ _ | exact HB9.out | exact HB8.out | exact HB7.out | exact HB6.out | exact HB5.out | exact HB4.out | exact HB3.out | exact HB2.out | exact HB1.out | exact HB.out | (refine Below.alloc ?_ (by first | exact HB9.out.size | exact HB8.out.size | exact HB7.out.size | exact HB6.out.size | exact HB5.out.size | exact HB4.out.size | exact HB3.out.size | exact HB2.out.size | exact HB1.out.size | exact HB.out.size | (simp; done) | (simp <;> omega)) _) | apply pw_below_drewN | (refine Below.setCell ?_ (by first | (simp; done) | (simp <;> omega) | omega) _))) hb1)
  obtain ⟨hc1, hf1⟩ := rbcell hb1
  have hza1 : w.heap.size < w1.heap.size := by have := hb1.size; (try simp at this); omega
  have hzb1 : w.heap.size + 1 < w1.heap.size := by have := hb1.size; (try simp at this); omega
  have hG1 : ∀ o, w1.cell? ⟨w.heap.size, o, none⟩ = ((w.alloc (.cells #[.int .u32 0, .int .u32 0, .int .u32 0, .slice none 0 0] 32)).alloc (.cells #[.int .u32 0, .int .u32 0, .int .u32 0, .slice none 0 0] 32)).cell? ⟨w.heap.size, o, none⟩ := fun o => (hc1 _ _ (by first | omega | (simp; done) | (simp; omega))).trans rfl
  clear hb1
  go_wp2_with (fail)
  refine (rnum_no x _ (by omega) nx).mono ?_
  rintro e w2 ⟨a2, rfl, hb2⟩
  have HB2 := Aside0.mk (below_step (w := w) (by repeat (first | exact Below.refl _ _ | exact HB9.out | exact HB8.out | exact HB7.out | exact HB6.out | exact HB5.out | exact HB4.out | exact HB3.out | exact HB2.out | exact HB1.out | exact HB.out | (refine Below.alloc ?_ (by first | exact HB9.out.size | exact HB8.out.size | exact HB7.out.size | exact HB6.out.size | exact HB5.out.size | exact HB4.out.size | exact HB3.out.size | exact HB2.out.size | exact HB1.out.size | exact HB.out.size | (simp; done) | (simp <;> omega)) _) | apply pw_below_drewN | (refine Below.setCell ?_ (by first | (simp; done) | (simp <;> omega) | omega) _))) hb2)
  obtain ⟨hc2, hf2⟩ := rbcell hb2
  have hza2 : w.heap.size < w2.heap.size := by have := hb2.size; (try simp at this); omega
  have hzb2 : w.heap.size + 1 < w2.heap.size := by have := hb2.size; (try simp at this); omega
  have hlt2 : b1 < w2.heap.size := by have := hb2.size; omega
  have hG2 : ∀ o, w2.cell? ⟨w.heap.size, o, none⟩ = ((w.alloc (.cells #[.int .u32 0, .int .u32 0, .int .u32 0, .slice none 0 0] 32)).alloc (.cells #[.int .u32 0, .int .u32 0, .int .u32 0, .slice none 0 0] 32)).cell? ⟨w.heap.size, o, none⟩ := fun o => (hc2 _ _ (by first | omega | (simp; done) | (simp; omega))).trans (hG1 o)
  clear hb2
  go_wp2_with (fail)
  refine (rnum_any y _ (by omega)).mono ?_
  rintro e w3 ⟨a3, t3, rfl, hb3⟩
  have HB3 := Aside0.mk (below_step (w := w) (by repeat (first | exact Below.refl _ _ | exact HB9.out | exact HB8.out | exact HB7.out | exact HB6.out | exact HB5.out | exact HB4.out | exact HB3.out | exact HB2.out | exact HB1.out | exact HB.out | (refine Below.alloc ?_ (by first | exact HB9.out.size | exact HB8.out.size | exact HB7.out.size | exact HB6.out.size | exact HB5.out.size | exact HB4.out.size | exact HB3.out.size | exact HB2.out.size | exact HB1.out.size | exact HB.out.size | (simp; done) | (simp <;> omega)) _) | apply pw_below_drewN | (refine Below.setCell ?_ (by first | (simp; done) | (simp <;> omega) | omega) _))) hb3)
  obtain ⟨hc3, hf3⟩ := rbcell hb3
  have hza3 : w.heap.size < w3.heap.size := by have := hb3.size; (try simp at this); omega
  have hzb3 : w.heap.size + 1 < w3.heap.size := by have := hb3.size; (try simp at this); omega
  have hlt3 : b1 < w3.heap.size := by have := hb3.size; omega
  have hG3 : ∀ o, w3.cell? ⟨w.heap.size, o, none⟩ = ((w.alloc (.cells #[.int .u32 0, .int .u32 0, .int .u32 0, .slice none 0 0] 32)).alloc (.cells #[.int .u32 0, .int .u32 0, .int .u32 0, .slice none 0 0] 32)).cell? ⟨w.heap.size, o, none⟩ := fun o => (hc3 _ _ (by first | omega | (simp; done) | (simp; omega))).trans (hG2 o)
  clear hb3
  go_wp2_with (fail)
  refine (rnum_any z _ (by omega)).mono ?_
  rintro e w4 ⟨a4, t4, rfl, hb4⟩
  have HB4 := Aside0.mk (below_step (w := w) (by repeat (first | exact Below.refl _ _ | exact HB9.out | exact HB8.out | exact HB7.out | exact HB6.out | exact HB5.out | exact HB4.out | exact HB3.out | exact HB2.out | exact HB1.out | exact HB.out | (refine Below.alloc ?_ (by first | exact HB9.out.size | exact HB8.out.size | exact HB7.out.size | exact HB6.out.size | exact HB5.out.size | exact HB4.out.size | exact HB3.out.size | exact HB2.out.size | exact HB1.out.size | exact HB.out.size | (simp; done) | (simp <;> omega)) _) | apply pw_below_drewN | (refine Below.setCell ?_ (by first | (simp; done) | (simp <;> omega) | omega) _))) hb4)
  obtain ⟨hc4, hf4⟩ := rbcell hb4
  have hza4 : w.heap.size < w4.heap.size := by have := hb4.size; (try simp at this); omega
  have hzb4 : w.heap.size + 1 < w4.heap.size := by have := hb4.size; (try simp at this); omega
  have hlt4 : b1 < w4.heap.size := by have := hb4.size; omega
  have hG4 : ∀ o, w4.cell? ⟨w.heap.size, o, none⟩ = ((w.alloc (.cells #[.int .u32 0, .int .u32 0, .int .u32 0, .slice none 0 0] 32)).alloc (.cells #[.int .u32 0, .int .u32 0, .int .u32 0, .slice none 0 0] 32)).cell? ⟨w.heap.size, o, none⟩ := fun o => (hc4 _ _ (by first | omega | (simp; done) | (simp; omega))).trans (hG3 o)
  clear hb4
  go_wp2
  have z0 : (((w4.setCell ⟨w.heap.size + 1, 0, none⟩ (.int .u32 a2)).setCell ⟨w.heap.size + 1, 1, none⟩ (.int .u32 a3)).setCell ⟨w.heap.size + 1, 2, none⟩ (.int .u32 a4)).cell? ⟨w.heap.size, 0, none⟩ = some (.int .u32 0) := (World.cell?_setCell_other _ _ _ _ (by simp)).trans ((World.cell?_setCell_other _ _ _ _ (by simp)).trans ((World.cell?_setCell_other _ _ _ _ (by simp)).trans ((hG4 0).trans (by go_simp))))
  have z1 : (((w4.setCell ⟨w.heap.size + 1, 0, none⟩ (.int .u32 a2)).setCell ⟨w.heap.size + 1, 1, none⟩ (.int .u32 a3)).setCell ⟨w.heap.size + 1, 2, none⟩ (.int .u32 a4)).cell? ⟨w.heap.size, 1, none⟩ = some (.int .u32 0) := (World.cell?_setCell_other _ _ _ _ (by simp)).trans ((World.cell?_setCell_other _ _ _ _ (by simp)).trans ((World.cell?_setCell_other _ _ _ _ (by simp)).trans ((hG4 1).trans (by go_simp))))
  have z2 : (((w4.setCell ⟨w.heap.size + 1, 0, none⟩ (.int .u32 a2)).setCell ⟨w.heap.size + 1, 1, none⟩ (.int .u32 a3)).setCell ⟨w.heap.size + 1, 2, none⟩ (.int .u32 a4)).cell? ⟨w.heap.size, 2, none⟩ = some (.int .u32 0) := (World.cell?_setCell_other _ _ _ _ (by simp)).trans ((World.cell?_setCell_other _ _ _ _ (by simp)).trans ((World.cell?_setCell_other _ _ _ _ (by simp)).trans ((hG4 2).trans (by go_simp))))
  have z3 : (((w4.setCell ⟨w.heap.size + 1, 0, none⟩ (.int .u32 a2)).setCell ⟨w.heap.size + 1, 1, none⟩ (.int .u32 a3)).setCell ⟨w.heap.size + 1, 2, none⟩ (.int .u32 a4)).cell? ⟨w.heap.size, 3, none⟩ = some (.slice none 0 0) := (World.cell?_setCell_other _ _ _ _ (by simp)).trans ((World.cell?_setCell_other _ _ _ _ (by simp)).trans ((World.cell?_setCell_other _ _ _ _ (by simp)).trans ((hG4 3).trans (by go_simp))))
  have c0 : (((((((w4.setCell ⟨w.heap.size + 1, 0, none⟩ (.int .u32 a2)).setCell ⟨w.heap.size + 1, 1, none⟩ (.int .u32 a3)).setCell ⟨w.heap.size + 1, 2, none⟩ (.int .u32 a4)).setCell ⟨w.heap.size, 0, none⟩ (.int .u32 0)).setCell ⟨w.heap.size, 1, none⟩ (.int .u32 0)).setCell ⟨w.heap.size, 2, none⟩ (.int .u32 0)).setCell ⟨w.heap.size, 3, none⟩ (.slice none 0 0)).cell? ⟨w.heap.size, 0, none⟩ = some (.int .u32 0) := by go_simp
  have c1 : (((((((w4.setCell ⟨w.heap.size + 1, 0, none⟩ (.int .u32 a2)).setCell ⟨w.heap.size + 1, 1, none⟩ (.int .u32 a3)).setCell ⟨w.heap.size + 1, 2, none⟩ (.int .u32 a4)).setCell ⟨w.heap.size, 0, none⟩ (.int .u32 0)).setCell ⟨w.heap.size, 1, none⟩ (.int .u32 0)).setCell ⟨w.heap.size, 2, none⟩ (.int .u32 0)).setCell ⟨w.heap.size, 3, none⟩ (.slice none 0 0)).cell? ⟨w.heap.size, 1, none⟩ = some (.int .u32 0) := by go_simp
  have c2 : (((((((w4.setCell ⟨w.heap.size + 1, 0, none⟩ (.int .u32 a2)).setCell ⟨w.heap.size + 1, 1, none⟩ (.int .u32 a3)).setCell ⟨w.heap.size + 1, 2, none⟩ (.int .u32 a4)).setCell ⟨w.heap.size, 0, none⟩ (.int .u32 0)).setCell ⟨w.heap.size, 1, none⟩ (.int .u32 0)).setCell ⟨w.heap.size, 2, none⟩ (.int .u32 0)).setCell ⟨w.heap.size, 3, none⟩ (.slice none 0 0)).cell? ⟨w.heap.size, 2, none⟩ = some (.int .u32 0) := by go_simp
  have c3 : (((((((w4.setCell ⟨w.heap.size + 1, 0, none⟩ (.int .u32 a2)).setCell ⟨w.heap.size + 1, 1, none⟩ (.int .u32 a3)).setCell ⟨w.heap.size + 1, 2, none⟩ (.int .u32 a4)).setCell ⟨w.heap.size, 0, none⟩ (.int .u32 0)).setCell ⟨w.heap.size, 1, none⟩ (.int .u32 0)).setCell ⟨w.heap.size, 2, none⟩ (.int .u32 0)).setCell ⟨w.heap.size, 3, none⟩ (.slice none 0 0)).cell? ⟨w.heap.size, 3, none⟩ = some (.slice none 0 0) := by go_simp
  refine bodyPost_ret (retC Tryz.results27 _ (((((((w4.setCell ⟨w.heap.size + 1, 0, none⟩ (.int .u32 a2)).setCell ⟨w.heap.size + 1, 1, none⟩ (.int .u32 a3)).setCell ⟨w.heap.size + 1, 2, none⟩ (.int .u32 a4)).setCell ⟨w.heap.size, 0, none⟩ (.int .u32 0)).setCell ⟨w.heap.size, 1, none⟩ (.int .u32 0)).setCell ⟨w.heap.size, 2, none⟩ (.int .u32 0)).setCell ⟨w.heap.size, 3, none⟩ (.slice none 0 0)) (w.heap.size) _ _ _ _ _ rfl rfl c0 c1 c2 c3) rfl ⟨none, 0, rfl, Nat.le_refl _, C_none _, (by refine Below.setCell (Below.setCell (Below.setCell (Below.setCell (Below.setCell (Below.setCell (Below.setCell HB4.out ?_ _) ?_ _) ?_ _) ?_ _) ?_ _) ?_ _) ?_ _ <;> simp)⟩

set_option maxHeartbeats 8000000 in
set_option maxRecDepth 100000 in
theorem rread_nil_y (s : ByteArray) (w : World) (hs : s.size ≤ 128) (HNO : Aside0 (∀ i (h : i < s.size), (s[i]'h) ≠ 45)) (x y z : ByteArray) (hL : spl s = [x, y, z]) (hx : x.size ≤ 128) (hy : y.size ≤ 128) (hz : z.size ≤ 128) (a : Int) (nx : numV x = some a) (ny : numV y = none)  :
    Calls Tryz.prog 27 #[.string s] w fun e w' => ∃ A cap, e = .returned (.tuple #[.agg #[.int .u32 0, .int .u32 0, .int .u32 0, .slice A ([] : List ByteArray).length cap], .int .i64 70]) ∧ ([] : List ByteArray).length ≤ cap ∧ Kd.C Kd.string w' A ([] : List ByteArray).length [] ∧ Below w.heap.size w w' := by
  go_enter Tryz.func27, Tryz.ntmps27
  go_wp2
  go_loopg [4, 6] s.size (fun g v4 v6 w' => ∃ i : Nat, i ≤ s.size ∧ g = s.size - i ∧ v4 = .string s ∧ v6 = .int .i64 i ∧ ((w.alloc (.cells #[.int .u32 0, .int .u32 0, .int .u32 0, .slice none 0 0] 32)).alloc (.cells #[.int .u32 0, .int .u32 0, .int .u32 0, .slice none 0 0] 32)) = w')
  case atStart => exact ⟨0, Nat.zero_le _, rfl, rfl, rfl, rfl⟩
  case round =>
  obtain ⟨i, hi, rfl, rfl, rfl, rfl⟩ := hrel
  by_cases h1 : i < s.size
  · have q1 : (i : Int) < (s.size : Int) := by omega
    have hne : (((s[i]'h1).toNat : Int) == 45) = false := beq_eq_false_iff_ne.2 (fun h => HNO.out i h1 (UInt8.toNat_inj.1 (by have : (45 : UInt8).toNat = 45 := rfl; omega)))
    go_wp2
    go_roundg (s.size - (i + 1))
    case measure => omega
    case rel => exact ⟨i + 1, by omega, rfl, rfl, by simp, rfl⟩
  have hi' : i = s.size := by omega
  subst hi'
  clear h1 hi
  go_wp2_with (fail)
  refine (rcut46_3 s x y z _ (by omega) hL).mono ?_
  rintro e w1 ⟨b1, o1, k2, rfl, cx, cy, cz, hlt1, hb1⟩
  have HB1 := Aside0.mk (below_step (w := w) (by repeat (first | exact Below.refl _ _ | exact HB9.out | exact HB8.out | exact HB7.out | exact HB6.out | exact HB5.out | exact HB4.out | exact HB3.out | exact HB2.out | exact HB1.out | exact HB.out | (refine Below.alloc ?_ (by first | exact HB9.out.size | exact HB8.out.size | exact HB7.out.size | exact HB6.out.size | exact HB5.out.size | exact HB4.out.size | exact HB3.out.size | exact HB2.out.size | exact HB1.out.size | exact HB.out.size | (simp; done) | (simp <;> omega)) _) | apply pw_below_drewN | (refine Below.setCell ?_ (by first | (simp; done) | (simp <;> omega) | omega) _))) hb1)
  obtain ⟨hc1, hf1⟩ := rbcell hb1
  have hza1 : w.heap.size < w1.heap.size := by have := hb1.size; (try simp at this); omega
  have hzb1 : w.heap.size + 1 < w1.heap.size := by have := hb1.size; (try simp at this); omega
  have hG1 : ∀ o, w1.cell? ⟨w.heap.size, o, none⟩ = ((w.alloc (.cells #[.int .u32 0, .int .u32 0, .int .u32 0, .slice none 0 0] 32)).alloc (.cells #[.int .u32 0, .int .u32 0, .int .u32 0, .slice none 0 0] 32)).cell? ⟨w.heap.size, o, none⟩ := fun o => (hc1 _ _ (by first | omega | (simp; done) | (simp; omega))).trans rfl
  clear hb1
  go_wp2_with (fail)
  refine (rnum_yes x _ _ (by omega) nx).mono ?_
  rintro e w2 ⟨rfl, hb2⟩
  have HB2 := Aside0.mk (below_step (w := w) (by repeat (first | exact Below.refl _ _ | exact HB9.out | exact HB8.out | exact HB7.out | exact HB6.out | exact HB5.out | exact HB4.out | exact HB3.out | exact HB2.out | exact HB1.out | exact HB.out | (refine Below.alloc ?_ (by first | exact HB9.out.size | exact HB8.out.size | exact HB7.out.size | exact HB6.out.size | exact HB5.out.size | exact HB4.out.size | exact HB3.out.size | exact HB2.out.size | exact HB1.out.size | exact HB.out.size | (simp; done) | (simp <;> omega)) _) | apply pw_below_drewN | (refine Below.setCell ?_ (by first | (simp; done) | (simp <;> omega) | omega) _))) hb2)
  obtain ⟨hc2, hf2⟩ := rbcell hb2
  have hza2 : w.heap.size < w2.heap.size := by have := hb2.size; (try simp at this); omega
  have hzb2 : w.heap.size + 1 < w2.heap.size := by have := hb2.size; (try simp at this); omega
  have hlt2 : b1 < w2.heap.size := by have := hb2.size; omega
  have hG2 : ∀ o, w2.cell? ⟨w.heap.size, o, none⟩ = ((w.alloc (.cells #[.int .u32 0, .int .u32 0, .int .u32 0, .slice none 0 0] 32)).alloc (.cells #[.int .u32 0, .int .u32 0, .int .u32 0, .slice none 0 0] 32)).cell? ⟨w.heap.size, o, none⟩ := fun o => (hc2 _ _ (by first | omega | (simp; done) | (simp; omega))).trans (hG1 o)
  clear hb2
  go_wp2_with (fail)
  refine (rnum_no y _ (by omega) ny).mono ?_
  rintro e w3 ⟨a3, rfl, hb3⟩
  have HB3 := Aside0.mk (below_step (w := w) (by repeat (first | exact Below.refl _ _ | exact HB9.out | exact HB8.out | exact HB7.out | exact HB6.out | exact HB5.out | exact HB4.out | exact HB3.out | exact HB2.out | exact HB1.out | exact HB.out | (refine Below.alloc ?_ (by first | exact HB9.out.size | exact HB8.out.size | exact HB7.out.size | exact HB6.out.size | exact HB5.out.size | exact HB4.out.size | exact HB3.out.size | exact HB2.out.size | exact HB1.out.size | exact HB.out.size | (simp; done) | (simp <;> omega)) _) | apply pw_below_drewN | (refine Below.setCell ?_ (by first | (simp; done) | (simp <;> omega) | omega) _))) hb3)
  obtain ⟨hc3, hf3⟩ := rbcell hb3
  have hza3 : w.heap.size < w3.heap.size := by have := hb3.size; (try simp at this); omega
  have hzb3 : w.heap.size + 1 < w3.heap.size := by have := hb3.size; (try simp at this); omega
  have hlt3 : b1 < w3.heap.size := by have := hb3.size; omega
  have hG3 : ∀ o, w3.cell? ⟨w.heap.size, o, none⟩ = ((w.alloc (.cells #[.int .u32 0, .int .u32 0, .int .u32 0, .slice none 0 0] 32)).alloc (.cells #[.int .u32 0, .int .u32 0, .int .u32 0, .slice none 0 0] 32)).cell? ⟨w.heap.size, o, none⟩ := fun o => (hc3 _ _ (by first | omega | (simp; done) | (simp; omega))).trans (hG2 o)
  clear hb3
  go_wp2_with (fail)
  refine (rnum_any z _ (by omega)).mono ?_
  rintro e w4 ⟨a4, t4, rfl, hb4⟩
  have HB4 := Aside0.mk (below_step (w := w) (by repeat (first | exact Below.refl _ _ | exact HB9.out | exact HB8.out | exact HB7.out | exact HB6.out | exact HB5.out | exact HB4.out | exact HB3.out | exact HB2.out | exact HB1.out | exact HB.out | (refine Below.alloc ?_ (by first | exact HB9.out.size | exact HB8.out.size | exact HB7.out.size | exact HB6.out.size | exact HB5.out.size | exact HB4.out.size | exact HB3.out.size | exact HB2.out.size | exact HB1.out.size | exact HB.out.size | (simp; done) | (simp <;> omega)) _) | apply pw_below_drewN | (refine Below.setCell ?_ (by first | (simp; done) | (simp <;> omega) | omega) _))) hb4)
  obtain ⟨hc4, hf4⟩ := rbcell hb4
  have hza4 : w.heap.size < w4.heap.size := by have := hb4.size; (try simp at this); omega
  have hzb4 : w.heap.size + 1 < w4.heap.size := by have := hb4.size; (try simp at this); omega
  have hlt4 : b1 < w4.heap.size := by have := hb4.size; omega
  have hG4 : ∀ o, w4.cell? ⟨w.heap.size, o, none⟩ = ((w.alloc (.cells #[.int .u32 0, .int .u32 0, .int .u32 0, .slice none 0 0] 32)).alloc (.cells #[.int .u32 0, .int .u32 0, .int .u32 0, .slice none 0 0] 32)).cell? ⟨w.heap.size, o, none⟩ := fun o => (hc4 _ _ (by first | omega | (simp; done) | (simp; omega))).trans (hG3 o)
  clear hb4
  go_wp2
  have z0 : (((w4.setCell ⟨w.heap.size + 1, 0, none⟩ (.int .u32 a)).setCell ⟨w.heap.size + 1, 1, none⟩ (.int .u32 a3)).setCell ⟨w.heap.size + 1, 2, none⟩ (.int .u32 a4)).cell? ⟨w.heap.size, 0, none⟩ = some (.int .u32 0) := (World.cell?_setCell_other _ _ _ _ (by simp)).trans ((World.cell?_setCell_other _ _ _ _ (by simp)).trans ((World.cell?_setCell_other _ _ _ _ (by simp)).trans ((hG4 0).trans (by go_simp))))
  have z1 : (((w4.setCell ⟨w.heap.size + 1, 0, none⟩ (.int .u32 a)).setCell ⟨w.heap.size + 1, 1, none⟩ (.int .u32 a3)).setCell ⟨w.heap.size + 1, 2, none⟩ (.int .u32 a4)).cell? ⟨w.heap.size, 1, none⟩ = some (.int .u32 0) := (World.cell?_setCell_other _ _ _ _ (by simp)).trans ((World.cell?_setCell_other _ _ _ _ (by simp)).trans ((World.cell?_setCell_other _ _ _ _ (by simp)).trans ((hG4 1).trans (by go_simp))))
  have z2 : (((w4.setCell ⟨w.heap.size + 1, 0, none⟩ (.int .u32 a)).setCell ⟨w.heap.size + 1, 1, none⟩ (.int .u32 a3)).setCell ⟨w.heap.size + 1, 2, none⟩ (.int .u32 a4)).cell? ⟨w.heap.size, 2, none⟩ = some (.int .u32 0) := (World.cell?_setCell_other _ _ _ _ (by simp)).trans ((World.cell?_setCell_other _ _ _ _ (by simp)).trans ((World.cell?_setCell_other _ _ _ _ (by simp)).trans ((hG4 2).trans (by go_simp))))
  have z3 : (((w4.setCell ⟨w.heap.size + 1, 0, none⟩ (.int .u32 a)).setCell ⟨w.heap.size + 1, 1, none⟩ (.int .u32 a3)).setCell ⟨w.heap.size + 1, 2, none⟩ (.int .u32 a4)).cell? ⟨w.heap.size, 3, none⟩ = some (.slice none 0 0) := (World.cell?_setCell_other _ _ _ _ (by simp)).trans ((World.cell?_setCell_other _ _ _ _ (by simp)).trans ((World.cell?_setCell_other _ _ _ _ (by simp)).trans ((hG4 3).trans (by go_simp))))
  have c0 : (((((((w4.setCell ⟨w.heap.size + 1, 0, none⟩ (.int .u32 a)).setCell ⟨w.heap.size + 1, 1, none⟩ (.int .u32 a3)).setCell ⟨w.heap.size + 1, 2, none⟩ (.int .u32 a4)).setCell ⟨w.heap.size, 0, none⟩ (.int .u32 0)).setCell ⟨w.heap.size, 1, none⟩ (.int .u32 0)).setCell ⟨w.heap.size, 2, none⟩ (.int .u32 0)).setCell ⟨w.heap.size, 3, none⟩ (.slice none 0 0)).cell? ⟨w.heap.size, 0, none⟩ = some (.int .u32 0) := by go_simp
  have c1 : (((((((w4.setCell ⟨w.heap.size + 1, 0, none⟩ (.int .u32 a)).setCell ⟨w.heap.size + 1, 1, none⟩ (.int .u32 a3)).setCell ⟨w.heap.size + 1, 2, none⟩ (.int .u32 a4)).setCell ⟨w.heap.size, 0, none⟩ (.int .u32 0)).setCell ⟨w.heap.size, 1, none⟩ (.int .u32 0)).setCell ⟨w.heap.size, 2, none⟩ (.int .u32 0)).setCell ⟨w.heap.size, 3, none⟩ (.slice none 0 0)).cell? ⟨w.heap.size, 1, none⟩ = some (.int .u32 0) := by go_simp
  have c2 : (((((((w4.setCell ⟨w.heap.size + 1, 0, none⟩ (.int .u32 a)).setCell ⟨w.heap.size + 1, 1, none⟩ (.int .u32 a3)).setCell ⟨w.heap.size + 1, 2, none⟩ (.int .u32 a4)).setCell ⟨w.heap.size, 0, none⟩ (.int .u32 0)).setCell ⟨w.heap.size, 1, none⟩ (.int .u32 0)).setCell ⟨w.heap.size, 2, none⟩ (.int .u32 0)).setCell ⟨w.heap.size, 3, none⟩ (.slice none 0 0)).cell? ⟨w.heap.size, 2, none⟩ = some (.int .u32 0) := by go_simp
  have c3 : (((((((w4.setCell ⟨w.heap.size + 1, 0, none⟩ (.int .u32 a)).setCell ⟨w.heap.size + 1, 1, none⟩ (.int .u32 a3)).setCell ⟨w.heap.size + 1, 2, none⟩ (.int .u32 a4)).setCell ⟨w.heap.size, 0, none⟩ (.int .u32 0)).setCell ⟨w.heap.size, 1, none⟩ (.int .u32 0)).setCell ⟨w.heap.size, 2, none⟩ (.int .u32 0)).setCell ⟨w.heap.size, 3, none⟩ (.slice none 0 0)).cell? ⟨w.heap.size, 3, none⟩ = some (.slice none 0 0) := by go_simp
  refine bodyPost_ret (retC Tryz.results27 _ (((((((w4.setCell ⟨w.heap.size + 1, 0, none⟩ (.int .u32 a)).setCell ⟨w.heap.size + 1, 1, none⟩ (.int .u32 a3)).setCell ⟨w.heap.size + 1, 2, none⟩ (.int .u32 a4)).setCell ⟨w.heap.size, 0, none⟩ (.int .u32 0)).setCell ⟨w.heap.size, 1, none⟩ (.int .u32 0)).setCell ⟨w.heap.size, 2, none⟩ (.int .u32 0)).setCell ⟨w.heap.size, 3, none⟩ (.slice none 0 0)) (w.heap.size) _ _ _ _ _ rfl rfl c0 c1 c2 c3) rfl ⟨none, 0, rfl, Nat.le_refl _, C_none _, (by refine Below.setCell (Below.setCell (Below.setCell (Below.setCell (Below.setCell (Below.setCell (Below.setCell HB4.out ?_ _) ?_ _) ?_ _) ?_ _) ?_ _) ?_ _) ?_ _ <;> simp)⟩

set_option maxHeartbeats 8000000 in
set_option maxRecDepth 100000 in
theorem rread_nil_z (s : ByteArray) (w : World) (hs : s.size ≤ 128) (HNO : Aside0 (∀ i (h : i < s.size), (s[i]'h) ≠ 45)) (x y z : ByteArray) (hL : spl s = [x, y, z]) (hx : x.size ≤ 128) (hy : y.size ≤ 128) (hz : z.size ≤ 128) (a b : Int) (nx : numV x = some a) (ny : numV y = some b) (nz : numV z = none)  :
    Calls Tryz.prog 27 #[.string s] w fun e w' => ∃ A cap, e = .returned (.tuple #[.agg #[.int .u32 0, .int .u32 0, .int .u32 0, .slice A ([] : List ByteArray).length cap], .int .i64 70]) ∧ ([] : List ByteArray).length ≤ cap ∧ Kd.C Kd.string w' A ([] : List ByteArray).length [] ∧ Below w.heap.size w w' := by
  go_enter Tryz.func27, Tryz.ntmps27
  go_wp2
  go_loopg [4, 6] s.size (fun g v4 v6 w' => ∃ i : Nat, i ≤ s.size ∧ g = s.size - i ∧ v4 = .string s ∧ v6 = .int .i64 i ∧ ((w.alloc (.cells #[.int .u32 0, .int .u32 0, .int .u32 0, .slice none 0 0] 32)).alloc (.cells #[.int .u32 0, .int .u32 0, .int .u32 0, .slice none 0 0] 32)) = w')
  case atStart => exact ⟨0, Nat.zero_le _, rfl, rfl, rfl, rfl⟩
  case round =>
  obtain ⟨i, hi, rfl, rfl, rfl, rfl⟩ := hrel
  by_cases h1 : i < s.size
  · have q1 : (i : Int) < (s.size : Int) := by omega
    have hne : (((s[i]'h1).toNat : Int) == 45) = false := beq_eq_false_iff_ne.2 (fun h => HNO.out i h1 (UInt8.toNat_inj.1 (by have : (45 : UInt8).toNat = 45 := rfl; omega)))
    go_wp2
    go_roundg (s.size - (i + 1))
    case measure => omega
    case rel => exact ⟨i + 1, by omega, rfl, rfl, by simp, rfl⟩
  have hi' : i = s.size := by omega
  subst hi'
  clear h1 hi
  go_wp2_with (fail)
  refine (rcut46_3 s x y z _ (by omega) hL).mono ?_
  rintro e w1 ⟨b1, o1, k2, rfl, cx, cy, cz, hlt1, hb1⟩
  have HB1 := Aside0.mk (below_step (w := w) (by repeat (first | exact Below.refl _ _ | exact HB9.out | exact HB8.out | exact HB7.out | exact HB6.out | exact HB5.out | exact HB4.out | exact HB3.out | exact HB2.out | exact HB1.out | exact HB.out | (refine Below.alloc ?_ (by first | exact HB9.out.size | exact HB8.out.size | exact HB7.out.size | exact HB6.out.size | exact HB5.out.size | exact HB4.out.size | exact HB3.out.size | exact HB2.out.size | exact HB1.out.size | exact HB.out.size | (simp; done) | (simp <;> omega)) _) | apply pw_below_drewN | (refine Below.setCell ?_ (by first | (simp; done) | (simp <;> omega) | omega) _))) hb1)
  obtain ⟨hc1, hf1⟩ := rbcell hb1
  have hza1 : w.heap.size < w1.heap.size := by have := hb1.size; (try simp at this); omega
  have hzb1 : w.heap.size + 1 < w1.heap.size := by have := hb1.size; (try simp at this); omega
  have hG1 : ∀ o, w1.cell? ⟨w.heap.size, o, none⟩ = ((w.alloc (.cells #[.int .u32 0, .int .u32 0, .int .u32 0, .slice none 0 0] 32)).alloc (.cells #[.int .u32 0, .int .u32 0, .int .u32 0, .slice none 0 0] 32)).cell? ⟨w.heap.size, o, none⟩ := fun o => (hc1 _ _ (by first | omega | (simp; done) | (simp; omega))).trans rfl
  clear hb1
  go_wp2_with (fail)
  refine (rnum_yes x _ _ (by omega) nx).mono ?_
  rintro e w2 ⟨rfl, hb2⟩
  have HB2 := Aside0.mk (below_step (w := w) (by repeat (first | exact Below.refl _ _ | exact HB9.out | exact HB8.out | exact HB7.out | exact HB6.out | exact HB5.out | exact HB4.out | exact HB3.out | exact HB2.out | exact HB1.out | exact HB.out | (refine Below.alloc ?_ (by first | exact HB9.out.size | exact HB8.out.size | exact HB7.out.size | exact HB6.out.size | exact HB5.out.size | exact HB4.out.size | exact HB3.out.size | exact HB2.out.size | exact HB1.out.size | exact HB.out.size | (simp; done) | (simp <;> omega)) _) | apply pw_below_drewN | (refine Below.setCell ?_ (by first | (simp; done) | (simp <;> omega) | omega) _))) hb2)
  obtain ⟨hc2, hf2⟩ := rbcell hb2
  have hza2 : w.heap.size < w2.heap.size := by have := hb2.size; (try simp at this); omega
  have hzb2 : w.heap.size + 1 < w2.heap.size := by have := hb2.size; (try simp at this); omega
  have hlt2 : b1 < w2.heap.size := by have := hb2.size; omega
  have hG2 : ∀ o, w2.cell? ⟨w.heap.size, o, none⟩ = ((w.alloc (.cells #[.int .u32 0, .int .u32 0, .int .u32 0, .slice none 0 0] 32)).alloc (.cells #[.int .u32 0, .int .u32 0, .int .u32 0, .slice none 0 0] 32)).cell? ⟨w.heap.size, o, none⟩ := fun o => (hc2 _ _ (by first | omega | (simp; done) | (simp; omega))).trans (hG1 o)
  clear hb2
  go_wp2_with (fail)
  refine (rnum_yes y _ _ (by omega) ny).mono ?_
  rintro e w3 ⟨rfl, hb3⟩
  have HB3 := Aside0.mk (below_step (w := w) (by repeat (first | exact Below.refl _ _ | exact HB9.out | exact HB8.out | exact HB7.out | exact HB6.out | exact HB5.out | exact HB4.out | exact HB3.out | exact HB2.out | exact HB1.out | exact HB.out | (refine Below.alloc ?_ (by first | exact HB9.out.size | exact HB8.out.size | exact HB7.out.size | exact HB6.out.size | exact HB5.out.size | exact HB4.out.size | exact HB3.out.size | exact HB2.out.size | exact HB1.out.size | exact HB.out.size | (simp; done) | (simp <;> omega)) _) | apply pw_below_drewN | (refine Below.setCell ?_ (by first | (simp; done) | (simp <;> omega) | omega) _))) hb3)
  obtain ⟨hc3, hf3⟩ := rbcell hb3
  have hza3 : w.heap.size < w3.heap.size := by have := hb3.size; (try simp at this); omega
  have hzb3 : w.heap.size + 1 < w3.heap.size := by have := hb3.size; (try simp at this); omega
  have hlt3 : b1 < w3.heap.size := by have := hb3.size; omega
  have hG3 : ∀ o, w3.cell? ⟨w.heap.size, o, none⟩ = ((w.alloc (.cells #[.int .u32 0, .int .u32 0, .int .u32 0, .slice none 0 0] 32)).alloc (.cells #[.int .u32 0, .int .u32 0, .int .u32 0, .slice none 0 0] 32)).cell? ⟨w.heap.size, o, none⟩ := fun o => (hc3 _ _ (by first | omega | (simp; done) | (simp; omega))).trans (hG2 o)
  clear hb3
  go_wp2_with (fail)
  refine (rnum_no z _ (by omega) nz).mono ?_
  rintro e w4 ⟨a4, rfl, hb4⟩
  have HB4 := Aside0.mk (below_step (w := w) (by repeat (first | exact Below.refl _ _ | exact HB9.out | exact HB8.out | exact HB7.out | exact HB6.out | exact HB5.out | exact HB4.out | exact HB3.out | exact HB2.out | exact HB1.out | exact HB.out | (refine Below.alloc ?_ (by first | exact HB9.out.size | exact HB8.out.size | exact HB7.out.size | exact HB6.out.size | exact HB5.out.size | exact HB4.out.size | exact HB3.out.size | exact HB2.out.size | exact HB1.out.size | exact HB.out.size | (simp; done) | (simp <;> omega)) _) | apply pw_below_drewN | (refine Below.setCell ?_ (by first | (simp; done) | (simp <;> omega) | omega) _))) hb4)
  obtain ⟨hc4, hf4⟩ := rbcell hb4
  have hza4 : w.heap.size < w4.heap.size := by have := hb4.size; (try simp at this); omega
  have hzb4 : w.heap.size + 1 < w4.heap.size := by have := hb4.size; (try simp at this); omega
  have hlt4 : b1 < w4.heap.size := by have := hb4.size; omega
  have hG4 : ∀ o, w4.cell? ⟨w.heap.size, o, none⟩ = ((w.alloc (.cells #[.int .u32 0, .int .u32 0, .int .u32 0, .slice none 0 0] 32)).alloc (.cells #[.int .u32 0, .int .u32 0, .int .u32 0, .slice none 0 0] 32)).cell? ⟨w.heap.size, o, none⟩ := fun o => (hc4 _ _ (by first | omega | (simp; done) | (simp; omega))).trans (hG3 o)
  clear hb4
  go_wp2
  have z0 : (((w4.setCell ⟨w.heap.size + 1, 0, none⟩ (.int .u32 a)).setCell ⟨w.heap.size + 1, 1, none⟩ (.int .u32 b)).setCell ⟨w.heap.size + 1, 2, none⟩ (.int .u32 a4)).cell? ⟨w.heap.size, 0, none⟩ = some (.int .u32 0) := (World.cell?_setCell_other _ _ _ _ (by simp)).trans ((World.cell?_setCell_other _ _ _ _ (by simp)).trans ((World.cell?_setCell_other _ _ _ _ (by simp)).trans ((hG4 0).trans (by go_simp))))
  have z1 : (((w4.setCell ⟨w.heap.size + 1, 0, none⟩ (.int .u32 a)).setCell ⟨w.heap.size + 1, 1, none⟩ (.int .u32 b)).setCell ⟨w.heap.size + 1, 2, none⟩ (.int .u32 a4)).cell? ⟨w.heap.size, 1, none⟩ = some (.int .u32 0) := (World.cell?_setCell_other _ _ _ _ (by simp)).trans ((World.cell?_setCell_other _ _ _ _ (by simp)).trans ((World.cell?_setCell_other _ _ _ _ (by simp)).trans ((hG4 1).trans (by go_simp))))
  have z2 : (((w4.setCell ⟨w.heap.size + 1, 0, none⟩ (.int .u32 a)).setCell ⟨w.heap.size + 1, 1, none⟩ (.int .u32 b)).setCell ⟨w.heap.size + 1, 2, none⟩ (.int .u32 a4)).cell? ⟨w.heap.size, 2, none⟩ = some (.int .u32 0) := (World.cell?_setCell_other _ _ _ _ (by simp)).trans ((World.cell?_setCell_other _ _ _ _ (by simp)).trans ((World.cell?_setCell_other _ _ _ _ (by simp)).trans ((hG4 2).trans (by go_simp))))
  have z3 : (((w4.setCell ⟨w.heap.size + 1, 0, none⟩ (.int .u32 a)).setCell ⟨w.heap.size + 1, 1, none⟩ (.int .u32 b)).setCell ⟨w.heap.size + 1, 2, none⟩ (.int .u32 a4)).cell? ⟨w.heap.size, 3, none⟩ = some (.slice none 0 0) := (World.cell?_setCell_other _ _ _ _ (by simp)).trans ((World.cell?_setCell_other _ _ _ _ (by simp)).trans ((World.cell?_setCell_other _ _ _ _ (by simp)).trans ((hG4 3).trans (by go_simp))))
  have c0 : (((((((w4.setCell ⟨w.heap.size + 1, 0, none⟩ (.int .u32 a)).setCell ⟨w.heap.size + 1, 1, none⟩ (.int .u32 b)).setCell ⟨w.heap.size + 1, 2, none⟩ (.int .u32 a4)).setCell ⟨w.heap.size, 0, none⟩ (.int .u32 0)).setCell ⟨w.heap.size, 1, none⟩ (.int .u32 0)).setCell ⟨w.heap.size, 2, none⟩ (.int .u32 0)).setCell ⟨w.heap.size, 3, none⟩ (.slice none 0 0)).cell? ⟨w.heap.size, 0, none⟩ = some (.int .u32 0) := by go_simp
  have c1 : (((((((w4.setCell ⟨w.heap.size + 1, 0, none⟩ (.int .u32 a)).setCell ⟨w.heap.size + 1, 1, none⟩ (.int .u32 b)).setCell ⟨w.heap.size + 1, 2, none⟩ (.int .u32 a4)).setCell ⟨w.heap.size, 0, none⟩ (.int .u32 0)).setCell ⟨w.heap.size, 1, none⟩ (.int .u32 0)).setCell ⟨w.heap.size, 2, none⟩ (.int .u32 0)).setCell ⟨w.heap.size, 3, none⟩ (.slice none 0 0)).cell? ⟨w.heap.size, 1, none⟩ = some (.int .u32 0) := by go_simp
  have c2 : (((((((w4.setCell ⟨w.heap.size + 1, 0, none⟩ (.int .u32 a)).setCell ⟨w.heap.size + 1, 1, none⟩ (.int .u32 b)).setCell ⟨w.heap.size + 1, 2, none⟩ (.int .u32 a4)).setCell ⟨w.heap.size, 0, none⟩ (.int .u32 0)).setCell ⟨w.heap.size, 1, none⟩ (.int .u32 0)).setCell ⟨w.heap.size, 2, none⟩ (.int .u32 0)).setCell ⟨w.heap.size, 3, none⟩ (.slice none 0 0)).cell? ⟨w.heap.size, 2, none⟩ = some (.int .u32 0) := by go_simp
  have c3 : (((((((w4.setCell ⟨w.heap.size + 1, 0, none⟩ (.int .u32 a)).setCell ⟨w.heap.size + 1, 1, none⟩ (.int .u32 b)).setCell ⟨w.heap.size + 1, 2, none⟩ (.int .u32 a4)).setCell ⟨w.heap.size, 0, none⟩ (.int .u32 0)).setCell ⟨w.heap.size, 1, none⟩ (.int .u32 0)).setCell ⟨w.heap.size, 2, none⟩ (.int .u32 0)).setCell ⟨w.heap.size, 3, none⟩ (.slice none 0 0)).cell? ⟨w.heap.size, 3, none⟩ = some (.slice none 0 0) := by go_simp
  refine bodyPost_ret (retC Tryz.results27 _ (((((((w4.setCell ⟨w.heap.size + 1, 0, none⟩ (.int .u32 a)).setCell ⟨w.heap.size + 1, 1, none⟩ (.int .u32 b)).setCell ⟨w.heap.size + 1, 2, none⟩ (.int .u32 a4)).setCell ⟨w.heap.size, 0, none⟩ (.int .u32 0)).setCell ⟨w.heap.size, 1, none⟩ (.int .u32 0)).setCell ⟨w.heap.size, 2, none⟩ (.int .u32 0)).setCell ⟨w.heap.size, 3, none⟩ (.slice none 0 0)) (w.heap.size) _ _ _ _ _ rfl rfl c0 c1 c2 c3) rfl ⟨none, 0, rfl, Nat.le_refl _, C_none _, (by refine Below.setCell (Below.setCell (Below.setCell (Below.setCell (Below.setCell (Below.setCell (Below.setCell HB4.out ?_ _) ?_ _) ?_ _) ?_ _) ?_ _) ?_ _) ?_ _ <;> simp)⟩

set_option maxHeartbeats 8000000 in
set_option maxRecDepth 100000 in
theorem rread_nil_m (s : ByteArray) (w : World) (hs : s.size ≤ 128) (HNO : Aside0 (∀ i (h : i < s.size), (s[i]'h) ≠ 45)) (x y z : ByteArray) (hL : spl s = [x, y, z]) (hx : x.size ≤ 128) (hy : y.size ≤ 128) (hz : z.size ≤ 128) (a b c : Int) (nx : numV x = some a) (ny : numV y = some b) (nz : numV z = some c) (hm : mayV a b c [] = false)  :
    Calls Tryz.prog 27 #[.string s] w fun e w' => ∃ A cap, e = .returned (.tuple #[.agg #[.int .u32 0, .int .u32 0, .int .u32 0, .slice A ([] : List ByteArray).length cap], .int .i64 70]) ∧ ([] : List ByteArray).length ≤ cap ∧ Kd.C Kd.string w' A ([] : List ByteArray).length [] ∧ Below w.heap.size w w' := by
  go_enter Tryz.func27, Tryz.ntmps27
  go_wp2
  go_loopg [4, 6] s.size (fun g v4 v6 w' => ∃ i : Nat, i ≤ s.size ∧ g = s.size - i ∧ v4 = .string s ∧ v6 = .int .i64 i ∧ ((w.alloc (.cells #[.int .u32 0, .int .u32 0, .int .u32 0, .slice none 0 0] 32)).alloc (.cells #[.int .u32 0, .int .u32 0, .int .u32 0, .slice none 0 0] 32)) = w')
  case atStart => exact ⟨0, Nat.zero_le _, rfl, rfl, rfl, rfl⟩
  case round =>
  obtain ⟨i, hi, rfl, rfl, rfl, rfl⟩ := hrel
  by_cases h1 : i < s.size
  · have q1 : (i : Int) < (s.size : Int) := by omega
    have hne : (((s[i]'h1).toNat : Int) == 45) = false := beq_eq_false_iff_ne.2 (fun h => HNO.out i h1 (UInt8.toNat_inj.1 (by have : (45 : UInt8).toNat = 45 := rfl; omega)))
    go_wp2
    go_roundg (s.size - (i + 1))
    case measure => omega
    case rel => exact ⟨i + 1, by omega, rfl, rfl, by simp, rfl⟩
  have hi' : i = s.size := by omega
  subst hi'
  clear h1 hi
  go_wp2_with (fail)
  refine (rcut46_3 s x y z _ (by omega) hL).mono ?_
  rintro e w1 ⟨b1, o1, k2, rfl, cx, cy, cz, hlt1, hb1⟩
  have HB1 := Aside0.mk (below_step (w := w) (by repeat (first | exact Below.refl _ _ | exact HB9.out | exact HB8.out | exact HB7.out | exact HB6.out | exact HB5.out | exact HB4.out | exact HB3.out | exact HB2.out | exact HB1.out | exact HB.out | (refine Below.alloc ?_ (by first | exact HB9.out.size | exact HB8.out.size | exact HB7.out.size | exact HB6.out.size | exact HB5.out.size | exact HB4.out.size | exact HB3.out.size | exact HB2.out.size | exact HB1.out.size | exact HB.out.size | (simp; done) | (simp <;> omega)) _) | apply pw_below_drewN | (refine Below.setCell ?_ (by first | (simp; done) | (simp <;> omega) | omega) _))) hb1)
  obtain ⟨hc1, hf1⟩ := rbcell hb1
  have hza1 : w.heap.size < w1.heap.size := by have := hb1.size; (try simp at this); omega
  have hzb1 : w.heap.size + 1 < w1.heap.size := by have := hb1.size; (try simp at this); omega
  have hG1 : ∀ o, w1.cell? ⟨w.heap.size, o, none⟩ = ((w.alloc (.cells #[.int .u32 0, .int .u32 0, .int .u32 0, .slice none 0 0] 32)).alloc (.cells #[.int .u32 0, .int .u32 0, .int .u32 0, .slice none 0 0] 32)).cell? ⟨w.heap.size, o, none⟩ := fun o => (hc1 _ _ (by first | omega | (simp; done) | (simp; omega))).trans rfl
  clear hb1
  go_wp2_with (fail)
  refine (rnum_yes x _ _ (by omega) nx).mono ?_
  rintro e w2 ⟨rfl, hb2⟩
  have HB2 := Aside0.mk (below_step (w := w) (by repeat (first | exact Below.refl _ _ | exact HB9.out | exact HB8.out | exact HB7.out | exact HB6.out | exact HB5.out | exact HB4.out | exact HB3.out | exact HB2.out | exact HB1.out | exact HB.out | (refine Below.alloc ?_ (by first | exact HB9.out.size | exact HB8.out.size | exact HB7.out.size | exact HB6.out.size | exact HB5.out.size | exact HB4.out.size | exact HB3.out.size | exact HB2.out.size | exact HB1.out.size | exact HB.out.size | (simp; done) | (simp <;> omega)) _) | apply pw_below_drewN | (refine Below.setCell ?_ (by first | (simp; done) | (simp <;> omega) | omega) _))) hb2)
  obtain ⟨hc2, hf2⟩ := rbcell hb2
  have hza2 : w.heap.size < w2.heap.size := by have := hb2.size; (try simp at this); omega
  have hzb2 : w.heap.size + 1 < w2.heap.size := by have := hb2.size; (try simp at this); omega
  have hlt2 : b1 < w2.heap.size := by have := hb2.size; omega
  have hG2 : ∀ o, w2.cell? ⟨w.heap.size, o, none⟩ = ((w.alloc (.cells #[.int .u32 0, .int .u32 0, .int .u32 0, .slice none 0 0] 32)).alloc (.cells #[.int .u32 0, .int .u32 0, .int .u32 0, .slice none 0 0] 32)).cell? ⟨w.heap.size, o, none⟩ := fun o => (hc2 _ _ (by first | omega | (simp; done) | (simp; omega))).trans (hG1 o)
  clear hb2
  go_wp2_with (fail)
  refine (rnum_yes y _ _ (by omega) ny).mono ?_
  rintro e w3 ⟨rfl, hb3⟩
  have HB3 := Aside0.mk (below_step (w := w) (by repeat (first | exact Below.refl _ _ | exact HB9.out | exact HB8.out | exact HB7.out | exact HB6.out | exact HB5.out | exact HB4.out | exact HB3.out | exact HB2.out | exact HB1.out | exact HB.out | (refine Below.alloc ?_ (by first | exact HB9.out.size | exact HB8.out.size | exact HB7.out.size | exact HB6.out.size | exact HB5.out.size | exact HB4.out.size | exact HB3.out.size | exact HB2.out.size | exact HB1.out.size | exact HB.out.size | (simp; done) | (simp <;> omega)) _) | apply pw_below_drewN | (refine Below.setCell ?_ (by first | (simp; done) | (simp <;> omega) | omega) _))) hb3)
  obtain ⟨hc3, hf3⟩ := rbcell hb3
  have hza3 : w.heap.size < w3.heap.size := by have := hb3.size; (try simp at this); omega
  have hzb3 : w.heap.size + 1 < w3.heap.size := by have := hb3.size; (try simp at this); omega
  have hlt3 : b1 < w3.heap.size := by have := hb3.size; omega
  have hG3 : ∀ o, w3.cell? ⟨w.heap.size, o, none⟩ = ((w.alloc (.cells #[.int .u32 0, .int .u32 0, .int .u32 0, .slice none 0 0] 32)).alloc (.cells #[.int .u32 0, .int .u32 0, .int .u32 0, .slice none 0 0] 32)).cell? ⟨w.heap.size, o, none⟩ := fun o => (hc3 _ _ (by first | omega | (simp; done) | (simp; omega))).trans (hG2 o)
  clear hb3
  go_wp2_with (fail)
  refine (rnum_yes z _ _ (by omega) nz).mono ?_
  rintro e w4 ⟨rfl, hb4⟩
  have HB4 := Aside0.mk (below_step (w := w) (by repeat (first | exact Below.refl _ _ | exact HB9.out | exact HB8.out | exact HB7.out | exact HB6.out | exact HB5.out | exact HB4.out | exact HB3.out | exact HB2.out | exact HB1.out | exact HB.out | (refine Below.alloc ?_ (by first | exact HB9.out.size | exact HB8.out.size | exact HB7.out.size | exact HB6.out.size | exact HB5.out.size | exact HB4.out.size | exact HB3.out.size | exact HB2.out.size | exact HB1.out.size | exact HB.out.size | (simp; done) | (simp <;> omega)) _) | apply pw_below_drewN | (refine Below.setCell ?_ (by first | (simp; done) | (simp <;> omega) | omega) _))) hb4)
  obtain ⟨hc4, hf4⟩ := rbcell hb4
  have hza4 : w.heap.size < w4.heap.size := by have := hb4.size; (try simp at this); omega
  have hzb4 : w.heap.size + 1 < w4.heap.size := by have := hb4.size; (try simp at this); omega
  have hlt4 : b1 < w4.heap.size := by have := hb4.size; omega
  have hG4 : ∀ o, w4.cell? ⟨w.heap.size, o, none⟩ = ((w.alloc (.cells #[.int .u32 0, .int .u32 0, .int .u32 0, .slice none 0 0] 32)).alloc (.cells #[.int .u32 0, .int .u32 0, .int .u32 0, .slice none 0 0] 32)).cell? ⟨w.heap.size, o, none⟩ := fun o => (hc4 _ _ (by first | omega | (simp; done) | (simp; omega))).trans (hG3 o)
  clear hb4
  go_wp2_with (fail)
  refine (rmay_calls a b c none 0 [] _ (C_none _) (Nat.le_refl _) (by decide)).mono ?_
  rintro e w5 ⟨rfl, hb5⟩
  have HB5 := Aside0.mk (below_step (w := w) (by repeat (first | exact Below.refl _ _ | exact HB9.out | exact HB8.out | exact HB7.out | exact HB6.out | exact HB5.out | exact HB4.out | exact HB3.out | exact HB2.out | exact HB1.out | exact HB.out | (refine Below.alloc ?_ (by first | exact HB9.out.size | exact HB8.out.size | exact HB7.out.size | exact HB6.out.size | exact HB5.out.size | exact HB4.out.size | exact HB3.out.size | exact HB2.out.size | exact HB1.out.size | exact HB.out.size | (simp; done) | (simp <;> omega)) _) | apply pw_below_drewN | (refine Below.setCell ?_ (by first | (simp; done) | (simp <;> omega) | omega) _))) hb5)
  obtain ⟨hc5, hf5⟩ := rbcell hb5
  have hza5 : w.heap.size < w5.heap.size := by have := hb5.size; (try simp at this); omega
  have hzb5 : w.heap.size + 1 < w5.heap.size := by have := hb5.size; (try simp at this); omega
  have hG5 : ∀ o, w5.cell? ⟨w.heap.size, o, none⟩ = ((w.alloc (.cells #[.int .u32 0, .int .u32 0, .int .u32 0, .slice none 0 0] 32)).alloc (.cells #[.int .u32 0, .int .u32 0, .int .u32 0, .slice none 0 0] 32)).cell? ⟨w.heap.size, o, none⟩ := fun o => (hc5 _ _ (by first | omega | (simp; done) | (simp; omega))).trans ((World.cell?_setCell_other _ _ _ _ (by simp)).trans ((World.cell?_setCell_other _ _ _ _ (by simp)).trans ((World.cell?_setCell_other _ _ _ _ (by simp)).trans (hG4 o))))
  clear hb5
  go_wp2
  have z0 : w5.cell? ⟨w.heap.size, 0, none⟩ = some (.int .u32 0) := (hG5 0).trans (by go_simp)
  have z1 : w5.cell? ⟨w.heap.size, 1, none⟩ = some (.int .u32 0) := (hG5 1).trans (by go_simp)
  have z2 : w5.cell? ⟨w.heap.size, 2, none⟩ = some (.int .u32 0) := (hG5 2).trans (by go_simp)
  have z3 : w5.cell? ⟨w.heap.size, 3, none⟩ = some (.slice none 0 0) := (hG5 3).trans (by go_simp)
  have c0 : ((((w5.setCell ⟨w.heap.size, 0, none⟩ (.int .u32 0)).setCell ⟨w.heap.size, 1, none⟩ (.int .u32 0)).setCell ⟨w.heap.size, 2, none⟩ (.int .u32 0)).setCell ⟨w.heap.size, 3, none⟩ (.slice none 0 0)).cell? ⟨w.heap.size, 0, none⟩ = some (.int .u32 0) := by go_simp
  have c1 : ((((w5.setCell ⟨w.heap.size, 0, none⟩ (.int .u32 0)).setCell ⟨w.heap.size, 1, none⟩ (.int .u32 0)).setCell ⟨w.heap.size, 2, none⟩ (.int .u32 0)).setCell ⟨w.heap.size, 3, none⟩ (.slice none 0 0)).cell? ⟨w.heap.size, 1, none⟩ = some (.int .u32 0) := by go_simp
  have c2 : ((((w5.setCell ⟨w.heap.size, 0, none⟩ (.int .u32 0)).setCell ⟨w.heap.size, 1, none⟩ (.int .u32 0)).setCell ⟨w.heap.size, 2, none⟩ (.int .u32 0)).setCell ⟨w.heap.size, 3, none⟩ (.slice none 0 0)).cell? ⟨w.heap.size, 2, none⟩ = some (.int .u32 0) := by go_simp
  have c3 : ((((w5.setCell ⟨w.heap.size, 0, none⟩ (.int .u32 0)).setCell ⟨w.heap.size, 1, none⟩ (.int .u32 0)).setCell ⟨w.heap.size, 2, none⟩ (.int .u32 0)).setCell ⟨w.heap.size, 3, none⟩ (.slice none 0 0)).cell? ⟨w.heap.size, 3, none⟩ = some (.slice none 0 0) := by go_simp
  refine bodyPost_ret (retC Tryz.results27 _ ((((w5.setCell ⟨w.heap.size, 0, none⟩ (.int .u32 0)).setCell ⟨w.heap.size, 1, none⟩ (.int .u32 0)).setCell ⟨w.heap.size, 2, none⟩ (.int .u32 0)).setCell ⟨w.heap.size, 3, none⟩ (.slice none 0 0)) (w.heap.size) _ _ _ _ _ rfl rfl c0 c1 c2 c3) rfl ⟨none, 0, rfl, Nat.le_refl _, C_none _, (by refine Below.setCell (Below.setCell (Below.setCell (Below.setCell HB5.out ?_ _) ?_ _) ?_ _) ?_ _ <;> simp)⟩

set_option maxHeartbeats 8000000 in
set_option maxRecDepth 100000 in
theorem rread_nil_ok (s : ByteArray) (w : World) (hs : s.size ≤ 128) (HNO : Aside0 (∀ i (h : i < s.size), (s[i]'h) ≠ 45)) (x y z : ByteArray) (hL : spl s = [x, y, z]) (hx : x.size ≤ 128) (hy : y.size ≤ 128) (hz : z.size ≤ 128) (a b c : Int) (nx : numV x = some a) (ny : numV y = some b) (nz : numV z = some c) (hm : mayV a b c [] = true)  :
    Calls Tryz.prog 27 #[.string s] w fun e w' => ∃ A cap, e = .returned (.tuple #[.agg #[.int .u32 a, .int .u32 b, .int .u32 c, .slice A ([] : List ByteArray).length cap], .int .i64 0]) ∧ ([] : List ByteArray).length ≤ cap ∧ Kd.C Kd.string w' A ([] : List ByteArray).length [] ∧ Below w.heap.size w w' := by
  go_enter Tryz.func27, Tryz.ntmps27
  go_wp2
  go_loopg [4, 6] s.size (fun g v4 v6 w' => ∃ i : Nat, i ≤ s.size ∧ g = s.size - i ∧ v4 = .string s ∧ v6 = .int .i64 i ∧ ((w.alloc (.cells #[.int .u32 0, .int .u32 0, .int .u32 0, .slice none 0 0] 32)).alloc (.cells #[.int .u32 0, .int .u32 0, .int .u32 0, .slice none 0 0] 32)) = w')
  case atStart => exact ⟨0, Nat.zero_le _, rfl, rfl, rfl, rfl⟩
  case round =>
  obtain ⟨i, hi, rfl, rfl, rfl, rfl⟩ := hrel
  by_cases h1 : i < s.size
  · have q1 : (i : Int) < (s.size : Int) := by omega
    have hne : (((s[i]'h1).toNat : Int) == 45) = false := beq_eq_false_iff_ne.2 (fun h => HNO.out i h1 (UInt8.toNat_inj.1 (by have : (45 : UInt8).toNat = 45 := rfl; omega)))
    go_wp2
    go_roundg (s.size - (i + 1))
    case measure => omega
    case rel => exact ⟨i + 1, by omega, rfl, rfl, by simp, rfl⟩
  have hi' : i = s.size := by omega
  subst hi'
  clear h1 hi
  go_wp2_with (fail)
  refine (rcut46_3 s x y z _ (by omega) hL).mono ?_
  rintro e w1 ⟨b1, o1, k2, rfl, cx, cy, cz, hlt1, hb1⟩
  have HB1 := Aside0.mk (below_step (w := w) (by repeat (first | exact Below.refl _ _ | exact HB9.out | exact HB8.out | exact HB7.out | exact HB6.out | exact HB5.out | exact HB4.out | exact HB3.out | exact HB2.out | exact HB1.out | exact HB.out | (refine Below.alloc ?_ (by first | exact HB9.out.size | exact HB8.out.size | exact HB7.out.size | exact HB6.out.size | exact HB5.out.size | exact HB4.out.size | exact HB3.out.size | exact HB2.out.size | exact HB1.out.size | exact HB.out.size | (simp; done) | (simp <;> omega)) _) | apply pw_below_drewN | (refine Below.setCell ?_ (by first | (simp; done) | (simp <;> omega) | omega) _))) hb1)
  obtain ⟨hc1, hf1⟩ := rbcell hb1
  have hza1 : w.heap.size < w1.heap.size := by have := hb1.size; (try simp at this); omega
  have hzb1 : w.heap.size + 1 < w1.heap.size := by have := hb1.size; (try simp at this); omega
  have hG1 : ∀ o, w1.cell? ⟨w.heap.size, o, none⟩ = ((w.alloc (.cells #[.int .u32 0, .int .u32 0, .int .u32 0, .slice none 0 0] 32)).alloc (.cells #[.int .u32 0, .int .u32 0, .int .u32 0, .slice none 0 0] 32)).cell? ⟨w.heap.size, o, none⟩ := fun o => (hc1 _ _ (by first | omega | (simp; done) | (simp; omega))).trans rfl
  clear hb1
  go_wp2_with (fail)
  refine (rnum_yes x _ _ (by omega) nx).mono ?_
  rintro e w2 ⟨rfl, hb2⟩
  have HB2 := Aside0.mk (below_step (w := w) (by repeat (first | exact Below.refl _ _ | exact HB9.out | exact HB8.out | exact HB7.out | exact HB6.out | exact HB5.out | exact HB4.out | exact HB3.out | exact HB2.out | exact HB1.out | exact HB.out | (refine Below.alloc ?_ (by first | exact HB9.out.size | exact HB8.out.size | exact HB7.out.size | exact HB6.out.size | exact HB5.out.size | exact HB4.out.size | exact HB3.out.size | exact HB2.out.size | exact HB1.out.size | exact HB.out.size | (simp; done) | (simp <;> omega)) _) | apply pw_below_drewN | (refine Below.setCell ?_ (by first | (simp; done) | (simp <;> omega) | omega) _))) hb2)
  obtain ⟨hc2, hf2⟩ := rbcell hb2
  have hza2 : w.heap.size < w2.heap.size := by have := hb2.size; (try simp at this); omega
  have hzb2 : w.heap.size + 1 < w2.heap.size := by have := hb2.size; (try simp at this); omega
  have hlt2 : b1 < w2.heap.size := by have := hb2.size; omega
  have hG2 : ∀ o, w2.cell? ⟨w.heap.size, o, none⟩ = ((w.alloc (.cells #[.int .u32 0, .int .u32 0, .int .u32 0, .slice none 0 0] 32)).alloc (.cells #[.int .u32 0, .int .u32 0, .int .u32 0, .slice none 0 0] 32)).cell? ⟨w.heap.size, o, none⟩ := fun o => (hc2 _ _ (by first | omega | (simp; done) | (simp; omega))).trans (hG1 o)
  clear hb2
  go_wp2_with (fail)
  refine (rnum_yes y _ _ (by omega) ny).mono ?_
  rintro e w3 ⟨rfl, hb3⟩
  have HB3 := Aside0.mk (below_step (w := w) (by repeat (first | exact Below.refl _ _ | exact HB9.out | exact HB8.out | exact HB7.out | exact HB6.out | exact HB5.out | exact HB4.out | exact HB3.out | exact HB2.out | exact HB1.out | exact HB.out | (refine Below.alloc ?_ (by first | exact HB9.out.size | exact HB8.out.size | exact HB7.out.size | exact HB6.out.size | exact HB5.out.size | exact HB4.out.size | exact HB3.out.size | exact HB2.out.size | exact HB1.out.size | exact HB.out.size | (simp; done) | (simp <;> omega)) _) | apply pw_below_drewN | (refine Below.setCell ?_ (by first | (simp; done) | (simp <;> omega) | omega) _))) hb3)
  obtain ⟨hc3, hf3⟩ := rbcell hb3
  have hza3 : w.heap.size < w3.heap.size := by have := hb3.size; (try simp at this); omega
  have hzb3 : w.heap.size + 1 < w3.heap.size := by have := hb3.size; (try simp at this); omega
  have hlt3 : b1 < w3.heap.size := by have := hb3.size; omega
  have hG3 : ∀ o, w3.cell? ⟨w.heap.size, o, none⟩ = ((w.alloc (.cells #[.int .u32 0, .int .u32 0, .int .u32 0, .slice none 0 0] 32)).alloc (.cells #[.int .u32 0, .int .u32 0, .int .u32 0, .slice none 0 0] 32)).cell? ⟨w.heap.size, o, none⟩ := fun o => (hc3 _ _ (by first | omega | (simp; done) | (simp; omega))).trans (hG2 o)
  clear hb3
  go_wp2_with (fail)
  refine (rnum_yes z _ _ (by omega) nz).mono ?_
  rintro e w4 ⟨rfl, hb4⟩
  have HB4 := Aside0.mk (below_step (w := w) (by repeat (first | exact Below.refl _ _ | exact HB9.out | exact HB8.out | exact HB7.out | exact HB6.out | exact HB5.out | exact HB4.out | exact HB3.out | exact HB2.out | exact HB1.out | exact HB.out | (refine Below.alloc ?_ (by first | exact HB9.out.size | exact HB8.out.size | exact HB7.out.size | exact HB6.out.size | exact HB5.out.size | exact HB4.out.size | exact HB3.out.size | exact HB2.out.size | exact HB1.out.size | exact HB.out.size | (simp; done) | (simp <;> omega)) _) | apply pw_below_drewN | (refine Below.setCell ?_ (by first | (simp; done) | (simp <;> omega) | omega) _))) hb4)
  obtain ⟨hc4, hf4⟩ := rbcell hb4
  have hza4 : w.heap.size < w4.heap.size := by have := hb4.size; (try simp at this); omega
  have hzb4 : w.heap.size + 1 < w4.heap.size := by have := hb4.size; (try simp at this); omega
  have hlt4 : b1 < w4.heap.size := by have := hb4.size; omega
  have hG4 : ∀ o, w4.cell? ⟨w.heap.size, o, none⟩ = ((w.alloc (.cells #[.int .u32 0, .int .u32 0, .int .u32 0, .slice none 0 0] 32)).alloc (.cells #[.int .u32 0, .int .u32 0, .int .u32 0, .slice none 0 0] 32)).cell? ⟨w.heap.size, o, none⟩ := fun o => (hc4 _ _ (by first | omega | (simp; done) | (simp; omega))).trans (hG3 o)
  clear hb4
  go_wp2_with (fail)
  refine (rmay_calls a b c none 0 [] _ (C_none _) (Nat.le_refl _) (by decide)).mono ?_
  rintro e w5 ⟨rfl, hb5⟩
  have HB5 := Aside0.mk (below_step (w := w) (by repeat (first | exact Below.refl _ _ | exact HB9.out | exact HB8.out | exact HB7.out | exact HB6.out | exact HB5.out | exact HB4.out | exact HB3.out | exact HB2.out | exact HB1.out | exact HB.out | (refine Below.alloc ?_ (by first | exact HB9.out.size | exact HB8.out.size | exact HB7.out.size | exact HB6.out.size | exact HB5.out.size | exact HB4.out.size | exact HB3.out.size | exact HB2.out.size | exact HB1.out.size | exact HB.out.size | (simp; done) | (simp <;> omega)) _) | apply pw_below_drewN | (refine Below.setCell ?_ (by first | (simp; done) | (simp <;> omega) | omega) _))) hb5)
  obtain ⟨hc5, hf5⟩ := rbcell hb5
  have hza5 : w.heap.size < w5.heap.size := by have := hb5.size; (try simp at this); omega
  have hzb5 : w.heap.size + 1 < w5.heap.size := by have := hb5.size; (try simp at this); omega
  have hG5 : ∀ o, w5.cell? ⟨w.heap.size, o, none⟩ = ((w.alloc (.cells #[.int .u32 0, .int .u32 0, .int .u32 0, .slice none 0 0] 32)).alloc (.cells #[.int .u32 0, .int .u32 0, .int .u32 0, .slice none 0 0] 32)).cell? ⟨w.heap.size, o, none⟩ := fun o => (hc5 _ _ (by first | omega | (simp; done) | (simp; omega))).trans ((World.cell?_setCell_other _ _ _ _ (by simp)).trans ((World.cell?_setCell_other _ _ _ _ (by simp)).trans ((World.cell?_setCell_other _ _ _ _ (by simp)).trans (hG4 o))))
  clear hb5
  go_wp2
  have z0 : w5.cell? ⟨w.heap.size, 0, none⟩ = some (.int .u32 0) := (hG5 0).trans (by go_simp)
  have z1 : w5.cell? ⟨w.heap.size, 1, none⟩ = some (.int .u32 0) := (hG5 1).trans (by go_simp)
  have z2 : w5.cell? ⟨w.heap.size, 2, none⟩ = some (.int .u32 0) := (hG5 2).trans (by go_simp)
  have z3 : w5.cell? ⟨w.heap.size, 3, none⟩ = some (.slice none 0 0) := (hG5 3).trans (by go_simp)
  have c0 : ((((w5.setCell ⟨w.heap.size, 0, none⟩ (.int .u32 a)).setCell ⟨w.heap.size, 1, none⟩ (.int .u32 b)).setCell ⟨w.heap.size, 2, none⟩ (.int .u32 c)).setCell ⟨w.heap.size, 3, none⟩ (.slice none 0 0)).cell? ⟨w.heap.size, 0, none⟩ = some (.int .u32 a) := by go_simp
  have c1 : ((((w5.setCell ⟨w.heap.size, 0, none⟩ (.int .u32 a)).setCell ⟨w.heap.size, 1, none⟩ (.int .u32 b)).setCell ⟨w.heap.size, 2, none⟩ (.int .u32 c)).setCell ⟨w.heap.size, 3, none⟩ (.slice none 0 0)).cell? ⟨w.heap.size, 1, none⟩ = some (.int .u32 b) := by go_simp
  have c2 : ((((w5.setCell ⟨w.heap.size, 0, none⟩ (.int .u32 a)).setCell ⟨w.heap.size, 1, none⟩ (.int .u32 b)).setCell ⟨w.heap.size, 2, none⟩ (.int .u32 c)).setCell ⟨w.heap.size, 3, none⟩ (.slice none 0 0)).cell? ⟨w.heap.size, 2, none⟩ = some (.int .u32 c) := by go_simp
  have c3 : ((((w5.setCell ⟨w.heap.size, 0, none⟩ (.int .u32 a)).setCell ⟨w.heap.size, 1, none⟩ (.int .u32 b)).setCell ⟨w.heap.size, 2, none⟩ (.int .u32 c)).setCell ⟨w.heap.size, 3, none⟩ (.slice none 0 0)).cell? ⟨w.heap.size, 3, none⟩ = some (.slice none 0 0) := by go_simp
  refine bodyPost_ret (retC Tryz.results27 _ ((((w5.setCell ⟨w.heap.size, 0, none⟩ (.int .u32 a)).setCell ⟨w.heap.size, 1, none⟩ (.int .u32 b)).setCell ⟨w.heap.size, 2, none⟩ (.int .u32 c)).setCell ⟨w.heap.size, 3, none⟩ (.slice none 0 0)) (w.heap.size) _ _ _ _ _ rfl rfl c0 c1 c2 c3) rfl ⟨none, 0, rfl, Nat.le_refl _, C_none _, (by refine Below.setCell (Below.setCell (Below.setCell (Below.setCell HB5.out ?_ _) ?_ _) ?_ _) ?_ _ <;> simp)⟩

set_option maxHeartbeats 8000000 in
set_option maxRecDepth 100000 in
theorem rread_pre_n (s : ByteArray) (w : World) (hs : s.size ≤ 128) (d : Nat) (hd : d < s.size) (HDD : Aside0 ((s[d]'hd) = 45)) (HNO : Aside0 (∀ i (h : i < d), (s[i]'(Nat.lt_trans h hd)) ≠ 45)) (l : List ByteArray) (hP : spl (s.extract (d + 1) s.size) = l) (hl : l.length ≤ 200) (hN : (spl (s.extract 0 d)).length ≠ 3)  :
    Calls Tryz.prog 27 #[.string s] w fun e w' => ∃ A cap, e = .returned (.tuple #[.agg #[.int .u32 0, .int .u32 0, .int .u32 0, .slice A ([] : List ByteArray).length cap], .int .i64 70]) ∧ ([] : List ByteArray).length ≤ cap ∧ Kd.C Kd.string w' A ([] : List ByteArray).length [] ∧ Below w.heap.size w w' := by
  go_enter Tryz.func27, Tryz.ntmps27
  go_wp2
  go_loopg [4, 6] s.size (fun g v4 v6 w' => ∃ i : Nat, i ≤ d ∧ g = s.size - i ∧ v4 = .string s ∧ v6 = .int .i64 i ∧ ((w.alloc (.cells #[.int .u32 0, .int .u32 0, .int .u32 0, .slice none 0 0] 32)).alloc (.cells #[.int .u32 0, .int .u32 0, .int .u32 0, .slice none 0 0] 32)) = w')
  case atStart => exact ⟨0, Nat.zero_le _, rfl, rfl, rfl, rfl⟩
  case round =>
  obtain ⟨i, hi, rfl, rfl, rfl, rfl⟩ := hrel
  by_cases h1 : i < d
  · have h2 : i < s.size := by omega
    have q1 : (i : Int) < (s.size : Int) := by omega
    have hne : (((s[i]'h2).toNat : Int) == 45) = false := beq_eq_false_iff_ne.2 (fun h => HNO.out i h1 (UInt8.toNat_inj.1 (by have : (45 : UInt8).toNat = 45 := rfl; omega)))
    go_wp2
    go_roundg (s.size - (i + 1))
    case measure => omega
    case rel => exact ⟨i + 1, by omega, rfl, rfl, by simp, rfl⟩
  have hi' : i = d := by omega
  subst hi'
  clear h1 hi
  have q1 : (i : Int) < (s.size : Int) := by omega
  have q2 : (0 : Int) ≤ (i : Int) + 1 := by omega
  have q3 : (i : Int) + 1 ≤ (s.size : Int) := by omega
  have q4 : (i : Int) ≤ (s.size : Int) := by omega
  have heq : ((s[i]'hd).toNat : Int) = 45 := by rw [HDD.out]; rfl
  go_wp2_with (fail)
  refine (rcut46_l (s.extract (i + 1) s.size) l _ (by rw [ByteArray.size_extract]; omega) hP).mono ?_
  rintro e w1 ⟨A1, k1, rfl, hk1, hR1, hb1⟩
  have HR1 := Aside0.mk (Kd.R_far (p := ⟨w.heap.size + 1, 3, none⟩) hR1 (fun k hk => (show k ≠ w.heap.size + 1 from by have : w.heap.size + 2 ≤ k := (by simpa using hk); omega)) (.slice A1 l.length k1))
  clear hR1
  have HB1 := Aside0.mk (below_step (w := w) (by repeat (first | exact Below.refl _ _ | exact HB9.out | exact HB8.out | exact HB7.out | exact HB6.out | exact HB5.out | exact HB4.out | exact HB3.out | exact HB2.out | exact HB1.out | exact HB.out | (refine Below.alloc ?_ (by first | exact HB9.out.size | exact HB8.out.size | exact HB7.out.size | exact HB6.out.size | exact HB5.out.size | exact HB4.out.size | exact HB3.out.size | exact HB2.out.size | exact HB1.out.size | exact HB.out.size | (simp; done) | (simp <;> omega)) _) | apply pw_below_drewN | (refine Below.setCell ?_ (by first | (simp; done) | (simp <;> omega) | omega) _))) hb1)
  obtain ⟨hc1, hf1⟩ := rbcell hb1
  have hza1 : w.heap.size < w1.heap.size := by have := hb1.size; (try simp at this); omega
  have hzb1 : w.heap.size + 1 < w1.heap.size := by have := hb1.size; (try simp at this); omega
  have hG1 : ∀ o, w1.cell? ⟨w.heap.size, o, none⟩ = ((w.alloc (.cells #[.int .u32 0, .int .u32 0, .int .u32 0, .slice none 0 0] 32)).alloc (.cells #[.int .u32 0, .int .u32 0, .int .u32 0, .slice none 0 0] 32)).cell? ⟨w.heap.size, o, none⟩ := fun o => (hc1 _ _ (by first | omega | (simp; done) | (simp; omega))).trans rfl
  clear hb1
  go_wp2_with (fail)
  refine (rcut46_n (s.extract 0 i) _ (by rw [ByteArray.size_extract]; omega) hN).mono ?_
  rintro e w2 ⟨A2, n2, k2, rfl, hn2, hb2⟩
  have HB2 := Aside0.mk (below_step (w := w) (by repeat (first | exact Below.refl _ _ | exact HB9.out | exact HB8.out | exact HB7.out | exact HB6.out | exact HB5.out | exact HB4.out | exact HB3.out | exact HB2.out | exact HB1.out | exact HB.out | (refine Below.alloc ?_ (by first | exact HB9.out.size | exact HB8.out.size | exact HB7.out.size | exact HB6.out.size | exact HB5.out.size | exact HB4.out.size | exact HB3.out.size | exact HB2.out.size | exact HB1.out.size | exact HB.out.size | (simp; done) | (simp <;> omega)) _) | apply pw_below_drewN | (refine Below.setCell ?_ (by first | (simp; done) | (simp <;> omega) | omega) _))) hb2)
  obtain ⟨hc2, hf2⟩ := rbcell hb2
  have hza2 : w.heap.size < w2.heap.size := by have := hb2.size; (try simp at this); omega
  have hzb2 : w.heap.size + 1 < w2.heap.size := by have := hb2.size; (try simp at this); omega
  have hG2 : ∀ o, w2.cell? ⟨w.heap.size, o, none⟩ = ((w.alloc (.cells #[.int .u32 0, .int .u32 0, .int .u32 0, .slice none 0 0] 32)).alloc (.cells #[.int .u32 0, .int .u32 0, .int .u32 0, .slice none 0 0] 32)).cell? ⟨w.heap.size, o, none⟩ := fun o => (hc2 _ _ (by first | omega | (simp; done) | (simp; omega))).trans ((World.cell?_setCell_other _ _ _ _ (by simp)).trans (hG1 o))
  clear hb2
  go_wp2
  have z0 : w2.cell? ⟨w.heap.size, 0, none⟩ = some (.int .u32 0) := (hG2 0).trans (by go_simp)
  have z1 : w2.cell? ⟨w.heap.size, 1, none⟩ = some (.int .u32 0) := (hG2 1).trans (by go_simp)
  have z2 : w2.cell? ⟨w.heap.size, 2, none⟩ = some (.int .u32 0) := (hG2 2).trans (by go_simp)
  have z3 : w2.cell? ⟨w.heap.size, 3, none⟩ = some (.slice none 0 0) := (hG2 3).trans (by go_simp)
  have c0 : ((((w2.setCell ⟨w.heap.size, 0, none⟩ (.int .u32 0)).setCell ⟨w.heap.size, 1, none⟩ (.int .u32 0)).setCell ⟨w.heap.size, 2, none⟩ (.int .u32 0)).setCell ⟨w.heap.size, 3, none⟩ (.slice none 0 0)).cell? ⟨w.heap.size, 0, none⟩ = some (.int .u32 0) := by go_simp
  have c1 : ((((w2.setCell ⟨w.heap.size, 0, none⟩ (.int .u32 0)).setCell ⟨w.heap.size, 1, none⟩ (.int .u32 0)).setCell ⟨w.heap.size, 2, none⟩ (.int .u32 0)).setCell ⟨w.heap.size, 3, none⟩ (.slice none 0 0)).cell? ⟨w.heap.size, 1, none⟩ = some (.int .u32 0) := by go_simp
  have c2 : ((((w2.setCell ⟨w.heap.size, 0, none⟩ (.int .u32 0)).setCell ⟨w.heap.size, 1, none⟩ (.int .u32 0)).setCell ⟨w.heap.size, 2, none⟩ (.int .u32 0)).setCell ⟨w.heap.size, 3, none⟩ (.slice none 0 0)).cell? ⟨w.heap.size, 2, none⟩ = some (.int .u32 0) := by go_simp
  have c3 : ((((w2.setCell ⟨w.heap.size, 0, none⟩ (.int .u32 0)).setCell ⟨w.heap.size, 1, none⟩ (.int .u32 0)).setCell ⟨w.heap.size, 2, none⟩ (.int .u32 0)).setCell ⟨w.heap.size, 3, none⟩ (.slice none 0 0)).cell? ⟨w.heap.size, 3, none⟩ = some (.slice none 0 0) := by go_simp
  refine bodyPost_ret (retC Tryz.results27 _ ((((w2.setCell ⟨w.heap.size, 0, none⟩ (.int .u32 0)).setCell ⟨w.heap.size, 1, none⟩ (.int .u32 0)).setCell ⟨w.heap.size, 2, none⟩ (.int .u32 0)).setCell ⟨w.heap.size, 3, none⟩ (.slice none 0 0)) (w.heap.size) _ _ _ _ _ rfl rfl c0 c1 c2 c3) rfl ⟨none, 0, rfl, Nat.le_refl _, C_none _, (by refine Below.setCell (Below.setCell (Below.setCell (Below.setCell HB2.out ?_ _) ?_ _) ?_ _) ?_ _ <;> simp)⟩

set_option maxHeartbeats 8000000 in
set_option maxRecDepth 100000 in
theorem rread_pre_x (s : ByteArray) (w : World) (hs : s.size ≤ 128) (d : Nat) (hd : d < s.size) (HDD : Aside0 ((s[d]'hd) = 45)) (HNO : Aside0 (∀ i (h : i < d), (s[i]'(Nat.lt_trans h hd)) ≠ 45)) (l : List ByteArray) (hP : spl (s.extract (d + 1) s.size) = l) (hl : l.length ≤ 200) (x y z : ByteArray) (hL : spl (s.extract 0 d) = [x, y, z]) (hx : x.size ≤ 128) (hy : y.size ≤ 128) (hz : z.size ≤ 128) (nx : numV x = none)  :
    Calls Tryz.prog 27 #[.string s] w fun e w' => ∃ A cap, e = .returned (.tuple #[.agg #[.int .u32 0, .int .u32 0, .int .u32 0, .slice A ([] : List ByteArray).length cap], .int .i64 70]) ∧ ([] : List ByteArray).length ≤ cap ∧ Kd.C Kd.string w' A ([] : List ByteArray).length [] ∧ Below w.heap.size w w' := by
  go_enter Tryz.func27, Tryz.ntmps27
  go_wp2
  go_loopg [4, 6] s.size (fun g v4 v6 w' => ∃ i : Nat, i ≤ d ∧ g = s.size - i ∧ v4 = .string s ∧ v6 = .int .i64 i ∧ ((w.alloc (.cells #[.int .u32 0, .int .u32 0, .int .u32 0, .slice none 0 0] 32)).alloc (.cells #[.int .u32 0, .int .u32 0, .int .u32 0, .slice none 0 0] 32)) = w')
  case atStart => exact ⟨0, Nat.zero_le _, rfl, rfl, rfl, rfl⟩
  case round =>
  obtain ⟨i, hi, rfl, rfl, rfl, rfl⟩ := hrel
  by_cases h1 : i < d
  · have h2 : i < s.size := by omega
    have q1 : (i : Int) < (s.size : Int) := by omega
    have hne : (((s[i]'h2).toNat : Int) == 45) = false := beq_eq_false_iff_ne.2 (fun h => HNO.out i h1 (UInt8.toNat_inj.1 (by have : (45 : UInt8).toNat = 45 := rfl; omega)))
    go_wp2
    go_roundg (s.size - (i + 1))
    case measure => omega
    case rel => exact ⟨i + 1, by omega, rfl, rfl, by simp, rfl⟩
  have hi' : i = d := by omega
  subst hi'
  clear h1 hi
  have q1 : (i : Int) < (s.size : Int) := by omega
  have q2 : (0 : Int) ≤ (i : Int) + 1 := by omega
  have q3 : (i : Int) + 1 ≤ (s.size : Int) := by omega
  have q4 : (i : Int) ≤ (s.size : Int) := by omega
  have heq : ((s[i]'hd).toNat : Int) = 45 := by rw [HDD.out]; rfl
  go_wp2_with (fail)
  refine (rcut46_l (s.extract (i + 1) s.size) l _ (by rw [ByteArray.size_extract]; omega) hP).mono ?_
  rintro e w1 ⟨A1, k1, rfl, hk1, hR1, hb1⟩
  have HR1 := Aside0.mk (Kd.R_far (p := ⟨w.heap.size + 1, 3, none⟩) hR1 (fun k hk => (show k ≠ w.heap.size + 1 from by have : w.heap.size + 2 ≤ k := (by simpa using hk); omega)) (.slice A1 l.length k1))
  clear hR1
  have HB1 := Aside0.mk (below_step (w := w) (by repeat (first | exact Below.refl _ _ | exact HB9.out | exact HB8.out | exact HB7.out | exact HB6.out | exact HB5.out | exact HB4.out | exact HB3.out | exact HB2.out | exact HB1.out | exact HB.out | (refine Below.alloc ?_ (by first | exact HB9.out.size | exact HB8.out.size | exact HB7.out.size | exact HB6.out.size | exact HB5.out.size | exact HB4.out.size | exact HB3.out.size | exact HB2.out.size | exact HB1.out.size | exact HB.out.size | (simp; done) | (simp <;> omega)) _) | apply pw_below_drewN | (refine Below.setCell ?_ (by first | (simp; done) | (simp <;> omega) | omega) _))) hb1)
  obtain ⟨hc1, hf1⟩ := rbcell hb1
  have hza1 : w.heap.size < w1.heap.size := by have := hb1.size; (try simp at this); omega
  have hzb1 : w.heap.size + 1 < w1.heap.size := by have := hb1.size; (try simp at this); omega
  have hG1 : ∀ o, w1.cell? ⟨w.heap.size, o, none⟩ = ((w.alloc (.cells #[.int .u32 0, .int .u32 0, .int .u32 0, .slice none 0 0] 32)).alloc (.cells #[.int .u32 0, .int .u32 0, .int .u32 0, .slice none 0 0] 32)).cell? ⟨w.heap.size, o, none⟩ := fun o => (hc1 _ _ (by first | omega | (simp; done) | (simp; omega))).trans rfl
  clear hb1
  go_wp2_with (fail)
  refine (rcut46_3 (s.extract 0 i) x y z _ (by rw [ByteArray.size_extract]; omega) hL).mono ?_
  rintro e w2 ⟨b1, o1, k2, rfl, cx, cy, cz, hlt2, hb2⟩
  have HB2 := Aside0.mk (below_step (w := w) (by repeat (first | exact Below.refl _ _ | exact HB9.out | exact HB8.out | exact HB7.out | exact HB6.out | exact HB5.out | exact HB4.out | exact HB3.out | exact HB2.out | exact HB1.out | exact HB.out | (refine Below.alloc ?_ (by first | exact HB9.out.size | exact HB8.out.size | exact HB7.out.size | exact HB6.out.size | exact HB5.out.size | exact HB4.out.size | exact HB3.out.size | exact HB2.out.size | exact HB1.out.size | exact HB.out.size | (simp; done) | (simp <;> omega)) _) | apply pw_below_drewN | (refine Below.setCell ?_ (by first | (simp; done) | (simp <;> omega) | omega) _))) hb2)
  obtain ⟨hc2, hf2⟩ := rbcell hb2
  have hza2 : w.heap.size < w2.heap.size := by have := hb2.size; (try simp at this); omega
  have hzb2 : w.heap.size + 1 < w2.heap.size := by have := hb2.size; (try simp at this); omega
  have HR2 := Aside0.mk (Kd.R_below HR1.out hb2)
  have hG2 : ∀ o, w2.cell? ⟨w.heap.size, o, none⟩ = ((w.alloc (.cells #[.int .u32 0, .int .u32 0, .int .u32 0, .slice none 0 0] 32)).alloc (.cells #[.int .u32 0, .int .u32 0, .int .u32 0, .slice none 0 0] 32)).cell? ⟨w.heap.size, o, none⟩ := fun o => (hc2 _ _ (by first | omega | (simp; done) | (simp; omega))).trans ((World.cell?_setCell_other _ _ _ _ (by simp)).trans (hG1 o))
  clear hb2
  go_wp2_with (fail)
  refine (rnum_no x _ (by omega) nx).mono ?_
  rintro e w3 ⟨a3, rfl, hb3⟩
  have HB3 := Aside0.mk (below_step (w := w) (by repeat (first | exact Below.refl _ _ | exact HB9.out | exact HB8.out | exact HB7.out | exact HB6.out | exact HB5.out | exact HB4.out | exact HB3.out | exact HB2.out | exact HB1.out | exact HB.out | (refine Below.alloc ?_ (by first | exact HB9.out.size | exact HB8.out.size | exact HB7.out.size | exact HB6.out.size | exact HB5.out.size | exact HB4.out.size | exact HB3.out.size | exact HB2.out.size | exact HB1.out.size | exact HB.out.size | (simp; done) | (simp <;> omega)) _) | apply pw_below_drewN | (refine Below.setCell ?_ (by first | (simp; done) | (simp <;> omega) | omega) _))) hb3)
  obtain ⟨hc3, hf3⟩ := rbcell hb3
  have hza3 : w.heap.size < w3.heap.size := by have := hb3.size; (try simp at this); omega
  have hzb3 : w.heap.size + 1 < w3.heap.size := by have := hb3.size; (try simp at this); omega
  have HR3 := Aside0.mk (Kd.R_below HR2.out hb3)
  have hlt3 : b1 < w3.heap.size := by have := hb3.size; omega
  have hG3 : ∀ o, w3.cell? ⟨w.heap.size, o, none⟩ = ((w.alloc (.cells #[.int .u32 0, .int .u32 0, .int .u32 0, .slice none 0 0] 32)).alloc (.cells #[.int .u32 0, .int .u32 0, .int .u32 0, .slice none 0 0] 32)).cell? ⟨w.heap.size, o, none⟩ := fun o => (hc3 _ _ (by first | omega | (simp; done) | (simp; omega))).trans (hG2 o)
  clear hb3
  go_wp2_with (fail)
  refine (rnum_any y _ (by omega)).mono ?_
  rintro e w4 ⟨a4, t4, rfl, hb4⟩
  have HB4 := Aside0.mk (below_step (w := w) (by repeat (first | exact Below.refl _ _ | exact HB9.out | exact HB8.out | exact HB7.out | exact HB6.out | exact HB5.out | exact HB4.out | exact HB3.out | exact HB2.out | exact HB1.out | exact HB.out | (refine Below.alloc ?_ (by first | exact HB9.out.size | exact HB8.out.size | exact HB7.out.size | exact HB6.out.size | exact HB5.out.size | exact HB4.out.size | exact HB3.out.size | exact HB2.out.size | exact HB1.out.size | exact HB.out.size | (simp; done) | (simp <;> omega)) _) | apply pw_below_drewN | (refine Below.setCell ?_ (by first | (simp; done) | (simp <;> omega) | omega) _))) hb4)
  obtain ⟨hc4, hf4⟩ := rbcell hb4
  have hza4 : w.heap.size < w4.heap.size := by have := hb4.size; (try simp at this); omega
  have hzb4 : w.heap.size + 1 < w4.heap.size := by have := hb4.size; (try simp at this); omega
  have HR4 := Aside0.mk (Kd.R_below HR3.out hb4)
  have hlt4 : b1 < w4.heap.size := by have := hb4.size; omega
  have hG4 : ∀ o, w4.cell? ⟨w.heap.size, o, none⟩ = ((w.alloc (.cells #[.int .u32 0, .int .u32 0, .int .u32 0, .slice none 0 0] 32)).alloc (.cells #[.int .u32 0, .int .u32 0, .int .u32 0, .slice none 0 0] 32)).cell? ⟨w.heap.size, o, none⟩ := fun o => (hc4 _ _ (by first | omega | (simp; done) | (simp; omega))).trans (hG3 o)
  clear hb4
  go_wp2_with (fail)
  refine (rnum_any z _ (by omega)).mono ?_
  rintro e w5 ⟨a5, t5, rfl, hb5⟩
  have HB5 := Aside0.mk (below_step (w := w) (by repeat (first | exact Below.refl _ _ | exact HB9.out | exact HB8.out | exact HB7.out | exact HB6.out | exact HB5.out | exact HB4.out | exact HB3.out | exact HB2.out | exact HB1.out | exact HB.out | (refine Below.alloc ?_ (by first | exact HB9.out.size | exact HB8.out.size | exact HB7.out.size | exact HB6.out.size | exact HB5.out.size | exact HB4.out.size | exact HB3.out.size | exact HB2.out.size | exact HB1.out.size | exact HB.out.size | (simp; done) | (simp <;> omega)) _) | apply pw_below_drewN | (refine Below.setCell ?_ (by first | (simp; done) | (simp <;> omega) | omega) _))) hb5)
  obtain ⟨hc5, hf5⟩ := rbcell hb5
  have hza5 : w.heap.size < w5.heap.size := by have := hb5.size; (try simp at this); omega
  have hzb5 : w.heap.size + 1 < w5.heap.size := by have := hb5.size; (try simp at this); omega
  have HR5 := Aside0.mk (Kd.R_below HR4.out hb5)
  have hlt5 : b1 < w5.heap.size := by have := hb5.size; omega
  have hG5 : ∀ o, w5.cell? ⟨w.heap.size, o, none⟩ = ((w.alloc (.cells #[.int .u32 0, .int .u32 0, .int .u32 0, .slice none 0 0] 32)).alloc (.cells #[.int .u32 0, .int .u32 0, .int .u32 0, .slice none 0 0] 32)).cell? ⟨w.heap.size, o, none⟩ := fun o => (hc5 _ _ (by first | omega | (simp; done) | (simp; omega))).trans (hG4 o)
  clear hb5
  go_wp2
  have z0 : (((w5.setCell ⟨w.heap.size + 1, 0, none⟩ (.int .u32 a3)).setCell ⟨w.heap.size + 1, 1, none⟩ (.int .u32 a4)).setCell ⟨w.heap.size + 1, 2, none⟩ (.int .u32 a5)).cell? ⟨w.heap.size, 0, none⟩ = some (.int .u32 0) := (World.cell?_setCell_other _ _ _ _ (by simp)).trans ((World.cell?_setCell_other _ _ _ _ (by simp)).trans ((World.cell?_setCell_other _ _ _ _ (by simp)).trans ((hG5 0).trans (by go_simp))))
  have z1 : (((w5.setCell ⟨w.heap.size + 1, 0, none⟩ (.int .u32 a3)).setCell ⟨w.heap.size + 1, 1, none⟩ (.int .u32 a4)).setCell ⟨w.heap.size + 1, 2, none⟩ (.int .u32 a5)).cell? ⟨w.heap.size, 1, none⟩ = some (.int .u32 0) := (World.cell?_setCell_other _ _ _ _ (by simp)).trans ((World.cell?_setCell_other _ _ _ _ (by simp)).trans ((World.cell?_setCell_other _ _ _ _ (by simp)).trans ((hG5 1).trans (by go_simp))))
  have z2 : (((w5.setCell ⟨w.heap.size + 1, 0, none⟩ (.int .u32 a3)).setCell ⟨w.heap.size + 1, 1, none⟩ (.int .u32 a4)).setCell ⟨w.heap.size + 1, 2, none⟩ (.int .u32 a5)).cell? ⟨w.heap.size, 2, none⟩ = some (.int .u32 0) := (World.cell?_setCell_other _ _ _ _ (by simp)).trans ((World.cell?_setCell_other _ _ _ _ (by simp)).trans ((World.cell?_setCell_other _ _ _ _ (by simp)).trans ((hG5 2).trans (by go_simp))))
  have z3 : (((w5.setCell ⟨w.heap.size + 1, 0, none⟩ (.int .u32 a3)).setCell ⟨w.heap.size + 1, 1, none⟩ (.int .u32 a4)).setCell ⟨w.heap.size + 1, 2, none⟩ (.int .u32 a5)).cell? ⟨w.heap.size, 3, none⟩ = some (.slice none 0 0) := (World.cell?_setCell_other _ _ _ _ (by simp)).trans ((World.cell?_setCell_other _ _ _ _ (by simp)).trans ((World.cell?_setCell_other _ _ _ _ (by simp)).trans ((hG5 3).trans (by go_simp))))
  have c0 : (((((((w5.setCell ⟨w.heap.size + 1, 0, none⟩ (.int .u32 a3)).setCell ⟨w.heap.size + 1, 1, none⟩ (.int .u32 a4)).setCell ⟨w.heap.size + 1, 2, none⟩ (.int .u32 a5)).setCell ⟨w.heap.size, 0, none⟩ (.int .u32 0)).setCell ⟨w.heap.size, 1, none⟩ (.int .u32 0)).setCell ⟨w.heap.size, 2, none⟩ (.int .u32 0)).setCell ⟨w.heap.size, 3, none⟩ (.slice none 0 0)).cell? ⟨w.heap.size, 0, none⟩ = some (.int .u32 0) := by go_simp
  have c1 : (((((((w5.setCell ⟨w.heap.size + 1, 0, none⟩ (.int .u32 a3)).setCell ⟨w.heap.size + 1, 1, none⟩ (.int .u32 a4)).setCell ⟨w.heap.size + 1, 2, none⟩ (.int .u32 a5)).setCell ⟨w.heap.size, 0, none⟩ (.int .u32 0)).setCell ⟨w.heap.size, 1, none⟩ (.int .u32 0)).setCell ⟨w.heap.size, 2, none⟩ (.int .u32 0)).setCell ⟨w.heap.size, 3, none⟩ (.slice none 0 0)).cell? ⟨w.heap.size, 1, none⟩ = some (.int .u32 0) := by go_simp
  have c2 : (((((((w5.setCell ⟨w.heap.size + 1, 0, none⟩ (.int .u32 a3)).setCell ⟨w.heap.size + 1, 1, none⟩ (.int .u32 a4)).setCell ⟨w.heap.size + 1, 2, none⟩ (.int .u32 a5)).setCell ⟨w.heap.size, 0, none⟩ (.int .u32 0)).setCell ⟨w.heap.size, 1, none⟩ (.int .u32 0)).setCell ⟨w.heap.size, 2, none⟩ (.int .u32 0)).setCell ⟨w.heap.size, 3, none⟩ (.slice none 0 0)).cell? ⟨w.heap.size, 2, none⟩ = some (.int .u32 0) := by go_simp
  have c3 : (((((((w5.setCell ⟨w.heap.size + 1, 0, none⟩ (.int .u32 a3)).setCell ⟨w.heap.size + 1, 1, none⟩ (.int .u32 a4)).setCell ⟨w.heap.size + 1, 2, none⟩ (.int .u32 a5)).setCell ⟨w.heap.size, 0, none⟩ (.int .u32 0)).setCell ⟨w.heap.size, 1, none⟩ (.int .u32 0)).setCell ⟨w.heap.size, 2, none⟩ (.int .u32 0)).setCell ⟨w.heap.size, 3, none⟩ (.slice none 0 0)).cell? ⟨w.heap.size, 3, none⟩ = some (.slice none 0 0) := by go_simp
  refine bodyPost_ret (retC Tryz.results27 _ (((((((w5.setCell ⟨w.heap.size + 1, 0, none⟩ (.int .u32 a3)).setCell ⟨w.heap.size + 1, 1, none⟩ (.int .u32 a4)).setCell ⟨w.heap.size + 1, 2, none⟩ (.int .u32 a5)).setCell ⟨w.heap.size, 0, none⟩ (.int .u32 0)).setCell ⟨w.heap.size, 1, none⟩ (.int .u32 0)).setCell ⟨w.heap.size, 2, none⟩ (.int .u32 0)).setCell ⟨w.heap.size, 3, none⟩ (.slice none 0 0)) (w.heap.size) _ _ _ _ _ rfl rfl c0 c1 c2 c3) rfl ⟨none, 0, rfl, Nat.le_refl _, C_none _, (by refine Below.setCell (Below.setCell (Below.setCell (Below.setCell (Below.setCell (Below.setCell (Below.setCell HB5.out ?_ _) ?_ _) ?_ _) ?_ _) ?_ _) ?_ _) ?_ _ <;> simp)⟩

set_option maxHeartbeats 8000000 in
set_option maxRecDepth 100000 in
theorem rread_pre_y (s : ByteArray) (w : World) (hs : s.size ≤ 128) (d : Nat) (hd : d < s.size) (HDD : Aside0 ((s[d]'hd) = 45)) (HNO : Aside0 (∀ i (h : i < d), (s[i]'(Nat.lt_trans h hd)) ≠ 45)) (l : List ByteArray) (hP : spl (s.extract (d + 1) s.size) = l) (hl : l.length ≤ 200) (x y z : ByteArray) (hL : spl (s.extract 0 d) = [x, y, z]) (hx : x.size ≤ 128) (hy : y.size ≤ 128) (hz : z.size ≤ 128) (a : Int) (nx : numV x = some a) (ny : numV y = none)  :
    Calls Tryz.prog 27 #[.string s] w fun e w' => ∃ A cap, e = .returned (.tuple #[.agg #[.int .u32 0, .int .u32 0, .int .u32 0, .slice A ([] : List ByteArray).length cap], .int .i64 70]) ∧ ([] : List ByteArray).length ≤ cap ∧ Kd.C Kd.string w' A ([] : List ByteArray).length [] ∧ Below w.heap.size w w' := by
  go_enter Tryz.func27, Tryz.ntmps27
  go_wp2
  go_loopg [4, 6] s.size (fun g v4 v6 w' => ∃ i : Nat, i ≤ d ∧ g = s.size - i ∧ v4 = .string s ∧ v6 = .int .i64 i ∧ ((w.alloc (.cells #[.int .u32 0, .int .u32 0, .int .u32 0, .slice none 0 0] 32)).alloc (.cells #[.int .u32 0, .int .u32 0, .int .u32 0, .slice none 0 0] 32)) = w')
  case atStart => exact ⟨0, Nat.zero_le _, rfl, rfl, rfl, rfl⟩
  case round =>
  obtain ⟨i, hi, rfl, rfl, rfl, rfl⟩ := hrel
  by_cases h1 : i < d
  · have h2 : i < s.size := by omega
    have q1 : (i : Int) < (s.size : Int) := by omega
    have hne : (((s[i]'h2).toNat : Int) == 45) = false := beq_eq_false_iff_ne.2 (fun h => HNO.out i h1 (UInt8.toNat_inj.1 (by have : (45 : UInt8).toNat = 45 := rfl; omega)))
    go_wp2
    go_roundg (s.size - (i + 1))
    case measure => omega
    case rel => exact ⟨i + 1, by omega, rfl, rfl, by simp, rfl⟩
  have hi' : i = d := by omega
  subst hi'
  clear h1 hi
  have q1 : (i : Int) < (s.size : Int) := by omega
  have q2 : (0 : Int) ≤ (i : Int) + 1 := by omega
  have q3 : (i : Int) + 1 ≤ (s.size : Int) := by omega
  have q4 : (i : Int) ≤ (s.size : Int) := by omega
  have heq : ((s[i]'hd).toNat : Int) = 45 := by rw [HDD.out]; rfl
  go_wp2_with (fail)
  refine (rcut46_l (s.extract (i + 1) s.size) l _ (by rw [ByteArray.size_extract]; omega) hP).mono ?_
  rintro e w1 ⟨A1, k1, rfl, hk1, hR1, hb1⟩
  have HR1 := Aside0.mk (Kd.R_far (p := ⟨w.heap.size + 1, 3, none⟩) hR1 (fun k hk => (show k ≠ w.heap.size + 1 from by have : w.heap.size + 2 ≤ k := (by simpa using hk); omega)) (.slice A1 l.length k1))
  clear hR1
  have HB1 := Aside0.mk (below_step (w := w) (by repeat (first | exact Below.refl _ _ | exact HB9.out | exact HB8.out | exact HB7.out | exact HB6.out | exact HB5.out | exact HB4.out | exact HB3.out | exact HB2.out | exact HB1.out | exact HB.out | (refine Below.alloc ?_ (by first | exact HB9.out.size | exact HB8.out.size | exact HB7.out.size | exact HB6.out.size | exact HB5.out.size | exact HB4.out.size | exact HB3.out.size | exact HB2.out.size | exact HB1.out.size | exact HB.out.size | (simp; done) | (simp <;> omega)) _) | apply pw_below_drewN | (refine Below.setCell ?_ (by first | (simp; done) | (simp <;> omega) | omega) _))) hb1)
  obtain ⟨hc1, hf1⟩ := rbcell hb1
  have hza1 : w.heap.size < w1.heap.size := by have := hb1.size; (try simp at this); omega
  have hzb1 : w.heap.size + 1 < w1.heap.size := by have := hb1.size; (try simp at this); omega
  have hG1 : ∀ o, w1.cell? ⟨w.heap.size, o, none⟩ = ((w.alloc (.cells #[.int .u32 0, .int .u32 0, .int .u32 0, .slice none 0 0] 32)).alloc (.cells #[.int .u32 0, .int .u32 0, .int .u32 0, .slice none 0 0] 32)).cell? ⟨w.heap.size, o, none⟩ := fun o => (hc1 _ _ (by first | omega | (simp; done) | (simp; omega))).trans rfl
  clear hb1
  go_wp2_with (fail)
  refine (rcut46_3 (s.extract 0 i) x y z _ (by rw [ByteArray.size_extract]; omega) hL).mono ?_
  rintro e w2 ⟨b1, o1, k2, rfl, cx, cy, cz, hlt2, hb2⟩
  have HB2 := Aside0.mk (below_step (w := w) (by repeat (first | exact Below.refl _ _ | exact HB9.out | exact HB8.out | exact HB7.out | exact HB6.out | exact HB5.out | exact HB4.out | exact HB3.out | exact HB2.out | exact HB1.out | exact HB.out | (refine Below.alloc ?_ (by first | exact HB9.out.size | exact HB8.out.size | exact HB7.out.size | exact HB6.out.size | exact HB5.out.size | exact HB4.out.size | exact HB3.out.size | exact HB2.out.size | exact HB1.out.size | exact HB.out.size | (simp; done) | (simp <;> omega)) _) | apply pw_below_drewN | (refine Below.setCell ?_ (by first | (simp; done) | (simp <;> omega) | omega) _))) hb2)
  obtain ⟨hc2, hf2⟩ := rbcell hb2
  have hza2 : w.heap.size < w2.heap.size := by have := hb2.size; (try simp at this); omega
  have hzb2 : w.heap.size + 1 < w2.heap.size := by have := hb2.size; (try simp at this); omega
  have HR2 := Aside0.mk (Kd.R_below HR1.out hb2)
  have hG2 : ∀ o, w2.cell? ⟨w.heap.size, o, none⟩ = ((w.alloc (.cells #[.int .u32 0, .int .u32 0, .int .u32 0, .slice none 0 0] 32)).alloc (.cells #[.int .u32 0, .int .u32 0, .int .u32 0, .slice none 0 0] 32)).cell? ⟨w.heap.size, o, none⟩ := fun o => (hc2 _ _ (by first | omega | (simp; done) | (simp; omega))).trans ((World.cell?_setCell_other _ _ _ _ (by simp)).trans (hG1 o))
  clear hb2
  go_wp2_with (fail)
  refine (rnum_yes x _ _ (by omega) nx).mono ?_
  rintro e w3 ⟨rfl, hb3⟩
  have HB3 := Aside0.mk (below_step (w := w) (by repeat (first | exact Below.refl _ _ | exact HB9.out | exact HB8.out | exact HB7.out | exact HB6.out | exact HB5.out | exact HB4.out | exact HB3.out | exact HB2.out | exact HB1.out | exact HB.out | (refine Below.alloc ?_ (by first | exact HB9.out.size | exact HB8.out.size | exact HB7.out.size | exact HB6.out.size | exact HB5.out.size | exact HB4.out.size | exact HB3.out.size | exact HB2.out.size | exact HB1.out.size | exact HB.out.size | (simp; done) | (simp <;> omega)) _) | apply pw_below_drewN | (refine Below.setCell ?_ (by first | (simp; done) | (simp <;> omega) | omega) _))) hb3)
  obtain ⟨hc3, hf3⟩ := rbcell hb3
  have hza3 : w.heap.size < w3.heap.size := by have := hb3.size; (try simp at this); omega
  have hzb3 : w.heap.size + 1 < w3.heap.size := by have := hb3.size; (try simp at this); omega
  have HR3 := Aside0.mk (Kd.R_below HR2.out hb3)
  have hlt3 : b1 < w3.heap.size := by have := hb3.size; omega
  have hG3 : ∀ o, w3.cell? ⟨w.heap.size, o, none⟩ = ((w.alloc (.cells #[.int .u32 0, .int .u32 0, .int .u32 0, .slice none 0 0] 32)).alloc (.cells #[.int .u32 0, .int .u32 0, .int .u32 0, .slice none 0 0] 32)).cell? ⟨w.heap.size, o, none⟩ := fun o => (hc3 _ _ (by first | omega | (simp; done) | (simp; omega))).trans (hG2 o)
  clear hb3
  go_wp2_with (fail)
  refine (rnum_no y _ (by omega) ny).mono ?_
  rintro e w4 ⟨a4, rfl, hb4⟩
  have HB4 := Aside0.mk (below_step (w := w) (by repeat (first | exact Below.refl _ _ | exact HB9.out | exact HB8.out | exact HB7.out | exact HB6.out | exact HB5.out | exact HB4.out | exact HB3.out | exact HB2.out | exact HB1.out | exact HB.out | (refine Below.alloc ?_ (by first | exact HB9.out.size | exact HB8.out.size | exact HB7.out.size | exact HB6.out.size | exact HB5.out.size | exact HB4.out.size | exact HB3.out.size | exact HB2.out.size | exact HB1.out.size | exact HB.out.size | (simp; done) | (simp <;> omega)) _) | apply pw_below_drewN | (refine Below.setCell ?_ (by first | (simp; done) | (simp <;> omega) | omega) _))) hb4)
  obtain ⟨hc4, hf4⟩ := rbcell hb4
  have hza4 : w.heap.size < w4.heap.size := by have := hb4.size; (try simp at this); omega
  have hzb4 : w.heap.size + 1 < w4.heap.size := by have := hb4.size; (try simp at this); omega
  have HR4 := Aside0.mk (Kd.R_below HR3.out hb4)
  have hlt4 : b1 < w4.heap.size := by have := hb4.size; omega
  have hG4 : ∀ o, w4.cell? ⟨w.heap.size, o, none⟩ = ((w.alloc (.cells #[.int .u32 0, .int .u32 0, .int .u32 0, .slice none 0 0] 32)).alloc (.cells #[.int .u32 0, .int .u32 0, .int .u32 0, .slice none 0 0] 32)).cell? ⟨w.heap.size, o, none⟩ := fun o => (hc4 _ _ (by first | omega | (simp; done) | (simp; omega))).trans (hG3 o)
  clear hb4
  go_wp2_with (fail)
  refine (rnum_any z _ (by omega)).mono ?_
  rintro e w5 ⟨a5, t5, rfl, hb5⟩
  have HB5 := Aside0.mk (below_step (w := w) (by repeat (first | exact Below.refl _ _ | exact HB9.out | exact HB8.out | exact HB7.out | exact HB6.out | exact HB5.out | exact HB4.out | exact HB3.out | exact HB2.out | exact HB1.out | exact HB.out | (refine Below.alloc ?_ (by first | exact HB9.out.size | exact HB8.out.size | exact HB7.out.size | exact HB6.out.size | exact HB5.out.size | exact HB4.out.size | exact HB3.out.size | exact HB2.out.size | exact HB1.out.size | exact HB.out.size | (simp; done) | (simp <;> omega)) _) | apply pw_below_drewN | (refine Below.setCell ?_ (by first | (simp; done) | (simp <;> omega) | omega) _))) hb5)
  obtain ⟨hc5, hf5⟩ := rbcell hb5
  have hza5 : w.heap.size < w5.heap.size := by have := hb5.size; (try simp at this); omega
  have hzb5 : w.heap.size + 1 < w5.heap.size := by have := hb5.size; (try simp at this); omega
  have HR5 := Aside0.mk (Kd.R_below HR4.out hb5)
  have hlt5 : b1 < w5.heap.size := by have := hb5.size; omega
  have hG5 : ∀ o, w5.cell? ⟨w.heap.size, o, none⟩ = ((w.alloc (.cells #[.int .u32 0, .int .u32 0, .int .u32 0, .slice none 0 0] 32)).alloc (.cells #[.int .u32 0, .int .u32 0, .int .u32 0, .slice none 0 0] 32)).cell? ⟨w.heap.size, o, none⟩ := fun o => (hc5 _ _ (by first | omega | (simp; done) | (simp; omega))).trans (hG4 o)
  clear hb5
  go_wp2
  have z0 : (((w5.setCell ⟨w.heap.size + 1, 0, none⟩ (.int .u32 a)).setCell ⟨w.heap.size + 1, 1, none⟩ (.int .u32 a4)).setCell ⟨w.heap.size + 1, 2, none⟩ (.int .u32 a5)).cell? ⟨w.heap.size, 0, none⟩ = some (.int .u32 0) := (World.cell?_setCell_other _ _ _ _ (by simp)).trans ((World.cell?_setCell_other _ _ _ _ (by simp)).trans ((World.cell?_setCell_other _ _ _ _ (by simp)).trans ((hG5 0).trans (by go_simp))))
  have z1 : (((w5.setCell ⟨w.heap.size + 1, 0, none⟩ (.int .u32 a)).setCell ⟨w.heap.size + 1, 1, none⟩ (.int .u32 a4)).setCell ⟨w.heap.size + 1, 2, none⟩ (.int .u32 a5)).cell? ⟨w.heap.size, 1, none⟩ = some (.int .u32 0) := (World.cell?_setCell_other _ _ _ _ (by simp)).trans ((World.cell?_setCell_other _ _ _ _ (by simp)).trans ((World.cell?_setCell_other _ _ _ _ (by simp)).trans ((hG5 1).trans (by go_simp))))
  have z2 : (((w5.setCell ⟨w.heap.size + 1, 0, none⟩ (.int .u32 a)).setCell ⟨w.heap.size + 1, 1, none⟩ (.int .u32 a4)).setCell ⟨w.heap.size + 1, 2, none⟩ (.int .u32 a5)).cell? ⟨w.heap.size, 2, none⟩ = some (.int .u32 0) := (World.cell?_setCell_other _ _ _ _ (by simp)).trans ((World.cell?_setCell_other _ _ _ _ (by simp)).trans ((World.cell?_setCell_other _ _ _ _ (by simp)).trans ((hG5 2).trans (by go_simp))))
  have z3 : (((w5.setCell ⟨w.heap.size + 1, 0, none⟩ (.int .u32 a)).setCell ⟨w.heap.size + 1, 1, none⟩ (.int .u32 a4)).setCell ⟨w.heap.size + 1, 2, none⟩ (.int .u32 a5)).cell? ⟨w.heap.size, 3, none⟩ = some (.slice none 0 0) := (World.cell?_setCell_other _ _ _ _ (by simp)).trans ((World.cell?_setCell_other _ _ _ _ (by simp)).trans ((World.cell?_setCell_other _ _ _ _ (by simp)).trans ((hG5 3).trans (by go_simp))))
  have c0 : (((((((w5.setCell ⟨w.heap.size + 1, 0, none⟩ (.int .u32 a)).setCell ⟨w.heap.size + 1, 1, none⟩ (.int .u32 a4)).setCell ⟨w.heap.size + 1, 2, none⟩ (.int .u32 a5)).setCell ⟨w.heap.size, 0, none⟩ (.int .u32 0)).setCell ⟨w.heap.size, 1, none⟩ (.int .u32 0)).setCell ⟨w.heap.size, 2, none⟩ (.int .u32 0)).setCell ⟨w.heap.size, 3, none⟩ (.slice none 0 0)).cell? ⟨w.heap.size, 0, none⟩ = some (.int .u32 0) := by go_simp
  have c1 : (((((((w5.setCell ⟨w.heap.size + 1, 0, none⟩ (.int .u32 a)).setCell ⟨w.heap.size + 1, 1, none⟩ (.int .u32 a4)).setCell ⟨w.heap.size + 1, 2, none⟩ (.int .u32 a5)).setCell ⟨w.heap.size, 0, none⟩ (.int .u32 0)).setCell ⟨w.heap.size, 1, none⟩ (.int .u32 0)).setCell ⟨w.heap.size, 2, none⟩ (.int .u32 0)).setCell ⟨w.heap.size, 3, none⟩ (.slice none 0 0)).cell? ⟨w.heap.size, 1, none⟩ = some (.int .u32 0) := by go_simp
  have c2 : (((((((w5.setCell ⟨w.heap.size + 1, 0, none⟩ (.int .u32 a)).setCell ⟨w.heap.size + 1, 1, none⟩ (.int .u32 a4)).setCell ⟨w.heap.size + 1, 2, none⟩ (.int .u32 a5)).setCell ⟨w.heap.size, 0, none⟩ (.int .u32 0)).setCell ⟨w.heap.size, 1, none⟩ (.int .u32 0)).setCell ⟨w.heap.size, 2, none⟩ (.int .u32 0)).setCell ⟨w.heap.size, 3, none⟩ (.slice none 0 0)).cell? ⟨w.heap.size, 2, none⟩ = some (.int .u32 0) := by go_simp
  have c3 : (((((((w5.setCell ⟨w.heap.size + 1, 0, none⟩ (.int .u32 a)).setCell ⟨w.heap.size + 1, 1, none⟩ (.int .u32 a4)).setCell ⟨w.heap.size + 1, 2, none⟩ (.int .u32 a5)).setCell ⟨w.heap.size, 0, none⟩ (.int .u32 0)).setCell ⟨w.heap.size, 1, none⟩ (.int .u32 0)).setCell ⟨w.heap.size, 2, none⟩ (.int .u32 0)).setCell ⟨w.heap.size, 3, none⟩ (.slice none 0 0)).cell? ⟨w.heap.size, 3, none⟩ = some (.slice none 0 0) := by go_simp
  refine bodyPost_ret (retC Tryz.results27 _ (((((((w5.setCell ⟨w.heap.size + 1, 0, none⟩ (.int .u32 a)).setCell ⟨w.heap.size + 1, 1, none⟩ (.int .u32 a4)).setCell ⟨w.heap.size + 1, 2, none⟩ (.int .u32 a5)).setCell ⟨w.heap.size, 0, none⟩ (.int .u32 0)).setCell ⟨w.heap.size, 1, none⟩ (.int .u32 0)).setCell ⟨w.heap.size, 2, none⟩ (.int .u32 0)).setCell ⟨w.heap.size, 3, none⟩ (.slice none 0 0)) (w.heap.size) _ _ _ _ _ rfl rfl c0 c1 c2 c3) rfl ⟨none, 0, rfl, Nat.le_refl _, C_none _, (by refine Below.setCell (Below.setCell (Below.setCell (Below.setCell (Below.setCell (Below.setCell (Below.setCell HB5.out ?_ _) ?_ _) ?_ _) ?_ _) ?_ _) ?_ _) ?_ _ <;> simp)⟩

set_option maxHeartbeats 8000000 in
set_option maxRecDepth 100000 in
theorem rread_pre_z (s : ByteArray) (w : World) (hs : s.size ≤ 128) (d : Nat) (hd : d < s.size) (HDD : Aside0 ((s[d]'hd) = 45)) (HNO : Aside0 (∀ i (h : i < d), (s[i]'(Nat.lt_trans h hd)) ≠ 45)) (l : List ByteArray) (hP : spl (s.extract (d + 1) s.size) = l) (hl : l.length ≤ 200) (x y z : ByteArray) (hL : spl (s.extract 0 d) = [x, y, z]) (hx : x.size ≤ 128) (hy : y.size ≤ 128) (hz : z.size ≤ 128) (a b : Int) (nx : numV x = some a) (ny : numV y = some b) (nz : numV z = none)  :
    Calls Tryz.prog 27 #[.string s] w fun e w' => ∃ A cap, e = .returned (.tuple #[.agg #[.int .u32 0, .int .u32 0, .int .u32 0, .slice A ([] : List ByteArray).length cap], .int .i64 70]) ∧ ([] : List ByteArray).length ≤ cap ∧ Kd.C Kd.string w' A ([] : List ByteArray).length [] ∧ Below w.heap.size w w' := by
  go_enter Tryz.func27, Tryz.ntmps27
  go_wp2
  go_loopg [4, 6] s.size (fun g v4 v6 w' => ∃ i : Nat, i ≤ d ∧ g = s.size - i ∧ v4 = .string s ∧ v6 = .int .i64 i ∧ ((w.alloc (.cells #[.int .u32 0, .int .u32 0, .int .u32 0, .slice none 0 0] 32)).alloc (.cells #[.int .u32 0, .int .u32 0, .int .u32 0, .slice none 0 0] 32)) = w')
  case atStart => exact ⟨0, Nat.zero_le _, rfl, rfl, rfl, rfl⟩
  case round =>
  obtain ⟨i, hi, rfl, rfl, rfl, rfl⟩ := hrel
  by_cases h1 : i < d
  · have h2 : i < s.size := by omega
    have q1 : (i : Int) < (s.size : Int) := by omega
    have hne : (((s[i]'h2).toNat : Int) == 45) = false := beq_eq_false_iff_ne.2 (fun h => HNO.out i h1 (UInt8.toNat_inj.1 (by have : (45 : UInt8).toNat = 45 := rfl; omega)))
    go_wp2
    go_roundg (s.size - (i + 1))
    case measure => omega
    case rel => exact ⟨i + 1, by omega, rfl, rfl, by simp, rfl⟩
  have hi' : i = d := by omega
  subst hi'
  clear h1 hi
  have q1 : (i : Int) < (s.size : Int) := by omega
  have q2 : (0 : Int) ≤ (i : Int) + 1 := by omega
  have q3 : (i : Int) + 1 ≤ (s.size : Int) := by omega
  have q4 : (i : Int) ≤ (s.size : Int) := by omega
  have heq : ((s[i]'hd).toNat : Int) = 45 := by rw [HDD.out]; rfl
  go_wp2_with (fail)
  refine (rcut46_l (s.extract (i + 1) s.size) l _ (by rw [ByteArray.size_extract]; omega) hP).mono ?_
  rintro e w1 ⟨A1, k1, rfl, hk1, hR1, hb1⟩
  have HR1 := Aside0.mk (Kd.R_far (p := ⟨w.heap.size + 1, 3, none⟩) hR1 (fun k hk => (show k ≠ w.heap.size + 1 from by have : w.heap.size + 2 ≤ k := (by simpa using hk); omega)) (.slice A1 l.length k1))
  clear hR1
  have HB1 := Aside0.mk (below_step (w := w) (by repeat (first | exact Below.refl _ _ | exact HB9.out | exact HB8.out | exact HB7.out | exact HB6.out | exact HB5.out | exact HB4.out | exact HB3.out | exact HB2.out | exact HB1.out | exact HB.out | (refine Below.alloc ?_ (by first | exact HB9.out.size | exact HB8.out.size | exact HB7.out.size | exact HB6.out.size | exact HB5.out.size | exact HB4.out.size | exact HB3.out.size | exact HB2.out.size | exact HB1.out.size | exact HB.out.size | (simp; done) | (simp <;> omega)) _) | apply pw_below_drewN | (refine Below.setCell ?_ (by first | (simp; done) | (simp <;> omega) | omega) _))) hb1)
  obtain ⟨hc1, hf1⟩ := rbcell hb1
  have hza1 : w.heap.size < w1.heap.size := by have := hb1.size; (try simp at this); omega
  have hzb1 : w.heap.size + 1 < w1.heap.size := by have := hb1.size; (try simp at this); omega
  have hG1 : ∀ o, w1.cell? ⟨w.heap.size, o, none⟩ = ((w.alloc (.cells #[.int .u32 0, .int .u32 0, .int .u32 0, .slice none 0 0] 32)).alloc (.cells #[.int .u32 0, .int .u32 0, .int .u32 0, .slice none 0 0] 32)).cell? ⟨w.heap.size, o, none⟩ := fun o => (hc1 _ _ (by first | omega | (simp; done) | (simp; omega))).trans rfl
  clear hb1
  go_wp2_with (fail)
  refine (rcut46_3 (s.extract 0 i) x y z _ (by rw [ByteArray.size_extract]; omega) hL).mono ?_
  rintro e w2 ⟨b1, o1, k2, rfl, cx, cy, cz, hlt2, hb2⟩
  have HB2 := Aside0.mk (below_step (w := w) (by repeat (first | exact Below.refl _ _ | exact HB9.out | exact HB8.out | exact HB7.out | exact HB6.out | exact HB5.out | exact HB4.out | exact HB3.out | exact HB2.out | exact HB1.out | exact HB.out | (refine Below.alloc ?_ (by first | exact HB9.out.size | exact HB8.out.size | exact HB7.out.size | exact HB6.out.size | exact HB5.out.size | exact HB4.out.size | exact HB3.out.size | exact HB2.out.size | exact HB1.out.size | exact HB.out.size | (simp; done) | (simp <;> omega)) _) | apply pw_below_drewN | (refine Below.setCell ?_ (by first | (simp; done) | (simp <;> omega) | omega) _))) hb2)
  obtain ⟨hc2, hf2⟩ := rbcell hb2
  have hza2 : w.heap.size < w2.heap.size := by have := hb2.size; (try simp at this); omega
  have hzb2 : w.heap.size + 1 < w2.heap.size := by have := hb2.size; (try simp at this); omega
  have HR2 := Aside0.mk (Kd.R_below HR1.out hb2)
  have hG2 : ∀ o, w2.cell? ⟨w.heap.size, o, none⟩ = ((w.alloc (.cells #[.int .u32 0, .int .u32 0, .int .u32 0, .slice none 0 0] 32)).alloc (.cells #[.int .u32 0, .int .u32 0, .int .u32 0, .slice none 0 0] 32)).cell? ⟨w.heap.size, o, none⟩ := fun o => (hc2 _ _ (by first | omega | (simp; done) | (simp; omega))).trans ((World.cell?_setCell_other _ _ _ _ (by simp)).trans (hG1 o))
  clear hb2
  go_wp2_with (fail)
  refine (rnum_yes x _ _ (by omega) nx).mono ?_
  rintro e w3 ⟨rfl, hb3⟩
  have HB3 := Aside0.mk (below_step (w := w) (by repeat (first | exact Below.refl _ _ | exact HB9.out | exact HB8.out | exact HB7.out | exact HB6.out | exact HB5.out | exact HB4.out | exact HB3.out | exact HB2.out | exact HB1.out | exact HB.out | (refine Below.alloc ?_ (by first | exact HB9.out.size | exact HB8.out.size | exact HB7.out.size | exact HB6.out.size | exact HB5.out.size | exact HB4.out.size | exact HB3.out.size | exact HB2.out.size | exact HB1.out.size | exact HB.out.size | (simp; done) | (simp <;> omega)) _) | apply pw_below_drewN | (refine Below.setCell ?_ (by first | (simp; done) | (simp <;> omega) | omega) _))) hb3)
  obtain ⟨hc3, hf3⟩ := rbcell hb3
  have hza3 : w.heap.size < w3.heap.size := by have := hb3.size; (try simp at this); omega
  have hzb3 : w.heap.size + 1 < w3.heap.size := by have := hb3.size; (try simp at this); omega
  have HR3 := Aside0.mk (Kd.R_below HR2.out hb3)
  have hlt3 : b1 < w3.heap.size := by have := hb3.size; omega
  have hG3 : ∀ o, w3.cell? ⟨w.heap.size, o, none⟩ = ((w.alloc (.cells #[.int .u32 0, .int .u32 0, .int .u32 0, .slice none 0 0] 32)).alloc (.cells #[.int .u32 0, .int .u32 0, .int .u32 0, .slice none 0 0] 32)).cell? ⟨w.heap.size, o, none⟩ := fun o => (hc3 _ _ (by first | omega | (simp; done) | (simp; omega))).trans (hG2 o)
  clear hb3
  go_wp2_with (fail)
  refine (rnum_yes y _ _ (by omega) ny).mono ?_
  rintro e w4 ⟨rfl, hb4⟩
  have HB4 := Aside0.mk (below_step (w := w) (by repeat (first | exact Below.refl _ _ | exact HB9.out | exact HB8.out | exact HB7.out | exact HB6.out | exact HB5.out | exact HB4.out | exact HB3.out | exact HB2.out | exact HB1.out | exact HB.out | (refine Below.alloc ?_ (by first | exact HB9.out.size | exact HB8.out.size | exact HB7.out.size | exact HB6.out.size | exact HB5.out.size | exact HB4.out.size | exact HB3.out.size | exact HB2.out.size | exact HB1.out.size | exact HB.out.size | (simp; done) | (simp <;> omega)) _) | apply pw_below_drewN | (refine Below.setCell ?_ (by first | (simp; done) | (simp <;> omega) | omega) _))) hb4)
  obtain ⟨hc4, hf4⟩ := rbcell hb4
  have hza4 : w.heap.size < w4.heap.size := by have := hb4.size; (try simp at this); omega
  have hzb4 : w.heap.size + 1 < w4.heap.size := by have := hb4.size; (try simp at this); omega
  have HR4 := Aside0.mk (Kd.R_below HR3.out hb4)
  have hlt4 : b1 < w4.heap.size := by have := hb4.size; omega
  have hG4 : ∀ o, w4.cell? ⟨w.heap.size, o, none⟩ = ((w.alloc (.cells #[.int .u32 0, .int .u32 0, .int .u32 0, .slice none 0 0] 32)).alloc (.cells #[.int .u32 0, .int .u32 0, .int .u32 0, .slice none 0 0] 32)).cell? ⟨w.heap.size, o, none⟩ := fun o => (hc4 _ _ (by first | omega | (simp; done) | (simp; omega))).trans (hG3 o)
  clear hb4
  go_wp2_with (fail)
  refine (rnum_no z _ (by omega) nz).mono ?_
  rintro e w5 ⟨a5, rfl, hb5⟩
  have HB5 := Aside0.mk (below_step (w := w) (by repeat (first | exact Below.refl _ _ | exact HB9.out | exact HB8.out | exact HB7.out | exact HB6.out | exact HB5.out | exact HB4.out | exact HB3.out | exact HB2.out | exact HB1.out | exact HB.out | (refine Below.alloc ?_ (by first | exact HB9.out.size | exact HB8.out.size | exact HB7.out.size | exact HB6.out.size | exact HB5.out.size | exact HB4.out.size | exact HB3.out.size | exact HB2.out.size | exact HB1.out.size | exact HB.out.size | (simp; done) | (simp <;> omega)) _) | apply pw_below_drewN | (refine Below.setCell ?_ (by first | (simp; done) | (simp <;> omega) | omega) _))) hb5)
  obtain ⟨hc5, hf5⟩ := rbcell hb5
  have hza5 : w.heap.size < w5.heap.size := by have := hb5.size; (try simp at this); omega
  have hzb5 : w.heap.size + 1 < w5.heap.size := by have := hb5.size; (try simp at this); omega
  have HR5 := Aside0.mk (Kd.R_below HR4.out hb5)
  have hlt5 : b1 < w5.heap.size := by have := hb5.size; omega
  have hG5 : ∀ o, w5.cell? ⟨w.heap.size, o, none⟩ = ((w.alloc (.cells #[.int .u32 0, .int .u32 0, .int .u32 0, .slice none 0 0] 32)).alloc (.cells #[.int .u32 0, .int .u32 0, .int .u32 0, .slice none 0 0] 32)).cell? ⟨w.heap.size, o, none⟩ := fun o => (hc5 _ _ (by first | omega | (simp; done) | (simp; omega))).trans (hG4 o)
  clear hb5
  go_wp2
  have z0 : (((w5.setCell ⟨w.heap.size + 1, 0, none⟩ (.int .u32 a)).setCell ⟨w.heap.size + 1, 1, none⟩ (.int .u32 b)).setCell ⟨w.heap.size + 1, 2, none⟩ (.int .u32 a5)).cell? ⟨w.heap.size, 0, none⟩ = some (.int .u32 0) := (World.cell?_setCell_other _ _ _ _ (by simp)).trans ((World.cell?_setCell_other _ _ _ _ (by simp)).trans ((World.cell?_setCell_other _ _ _ _ (by simp)).trans ((hG5 0).trans (by go_simp))))
  have z1 : (((w5.setCell ⟨w.heap.size + 1, 0, none⟩ (.int .u32 a)).setCell ⟨w.heap.size + 1, 1, none⟩ (.int .u32 b)).setCell ⟨w.heap.size + 1, 2, none⟩ (.int .u32 a5)).cell? ⟨w.heap.size, 1, none⟩ = some (.int .u32 0) := (World.cell?_setCell_other _ _ _ _ (by simp)).trans ((World.cell?_setCell_other _ _ _ _ (by simp)).trans ((World.cell?_setCell_other _ _ _ _ (by simp)).trans ((hG5 1).trans (by go_simp))))
  have z2 : (((w5.setCell ⟨w.heap.size + 1, 0, none⟩ (.int .u32 a)).setCell ⟨w.heap.size + 1, 1, none⟩ (.int .u32 b)).setCell ⟨w.heap.size + 1, 2, none⟩ (.int .u32 a5)).cell? ⟨w.heap.size, 2, none⟩ = some (.int .u32 0) := (World.cell?_setCell_other _ _ _ _ (by simp)).trans ((World.cell?_setCell_other _ _ _ _ (by simp)).trans ((World.cell?_setCell_other _ _ _ _ (by simp)).trans ((hG5 2).trans (by go_simp))))
  have z3 : (((w5.setCell ⟨w.heap.size + 1, 0, none⟩ (.int .u32 a)).setCell ⟨w.heap.size + 1, 1, none⟩ (.int .u32 b)).setCell ⟨w.heap.size + 1, 2, none⟩ (.int .u32 a5)).cell? ⟨w.heap.size, 3, none⟩ = some (.slice none 0 0) := (World.cell?_setCell_other _ _ _ _ (by simp)).trans ((World.cell?_setCell_other _ _ _ _ (by simp)).trans ((World.cell?_setCell_other _ _ _ _ (by simp)).trans ((hG5 3).trans (by go_simp))))
  have c0 : (((((((w5.setCell ⟨w.heap.size + 1, 0, none⟩ (.int .u32 a)).setCell ⟨w.heap.size + 1, 1, none⟩ (.int .u32 b)).setCell ⟨w.heap.size + 1, 2, none⟩ (.int .u32 a5)).setCell ⟨w.heap.size, 0, none⟩ (.int .u32 0)).setCell ⟨w.heap.size, 1, none⟩ (.int .u32 0)).setCell ⟨w.heap.size, 2, none⟩ (.int .u32 0)).setCell ⟨w.heap.size, 3, none⟩ (.slice none 0 0)).cell? ⟨w.heap.size, 0, none⟩ = some (.int .u32 0) := by go_simp
  have c1 : (((((((w5.setCell ⟨w.heap.size + 1, 0, none⟩ (.int .u32 a)).setCell ⟨w.heap.size + 1, 1, none⟩ (.int .u32 b)).setCell ⟨w.heap.size + 1, 2, none⟩ (.int .u32 a5)).setCell ⟨w.heap.size, 0, none⟩ (.int .u32 0)).setCell ⟨w.heap.size, 1, none⟩ (.int .u32 0)).setCell ⟨w.heap.size, 2, none⟩ (.int .u32 0)).setCell ⟨w.heap.size, 3, none⟩ (.slice none 0 0)).cell? ⟨w.heap.size, 1, none⟩ = some (.int .u32 0) := by go_simp
  have c2 : (((((((w5.setCell ⟨w.heap.size + 1, 0, none⟩ (.int .u32 a)).setCell ⟨w.heap.size + 1, 1, none⟩ (.int .u32 b)).setCell ⟨w.heap.size + 1, 2, none⟩ (.int .u32 a5)).setCell ⟨w.heap.size, 0, none⟩ (.int .u32 0)).setCell ⟨w.heap.size, 1, none⟩ (.int .u32 0)).setCell ⟨w.heap.size, 2, none⟩ (.int .u32 0)).setCell ⟨w.heap.size, 3, none⟩ (.slice none 0 0)).cell? ⟨w.heap.size, 2, none⟩ = some (.int .u32 0) := by go_simp
  have c3 : (((((((w5.setCell ⟨w.heap.size + 1, 0, none⟩ (.int .u32 a)).setCell ⟨w.heap.size + 1, 1, none⟩ (.int .u32 b)).setCell ⟨w.heap.size + 1, 2, none⟩ (.int .u32 a5)).setCell ⟨w.heap.size, 0, none⟩ (.int .u32 0)).setCell ⟨w.heap.size, 1, none⟩ (.int .u32 0)).setCell ⟨w.heap.size, 2, none⟩ (.int .u32 0)).setCell ⟨w.heap.size, 3, none⟩ (.slice none 0 0)).cell? ⟨w.heap.size, 3, none⟩ = some (.slice none 0 0) := by go_simp
  refine bodyPost_ret (retC Tryz.results27 _ (((((((w5.setCell ⟨w.heap.size + 1, 0, none⟩ (.int .u32 a)).setCell ⟨w.heap.size + 1, 1, none⟩ (.int .u32 b)).setCell ⟨w.heap.size + 1, 2, none⟩ (.int .u32 a5)).setCell ⟨w.heap.size, 0, none⟩ (.int .u32 0)).setCell ⟨w.heap.size, 1, none⟩ (.int .u32 0)).setCell ⟨w.heap.size, 2, none⟩ (.int .u32 0)).setCell ⟨w.heap.size, 3, none⟩ (.slice none 0 0)) (w.heap.size) _ _ _ _ _ rfl rfl c0 c1 c2 c3) rfl ⟨none, 0, rfl, Nat.le_refl _, C_none _, (by refine Below.setCell (Below.setCell (Below.setCell (Below.setCell (Below.setCell (Below.setCell (Below.setCell HB5.out ?_ _) ?_ _) ?_ _) ?_ _) ?_ _) ?_ _) ?_ _ <;> simp)⟩

set_option maxHeartbeats 8000000 in
set_option maxRecDepth 100000 in
theorem rread_pre_m (s : ByteArray) (w : World) (hs : s.size ≤ 128) (d : Nat) (hd : d < s.size) (HDD : Aside0 ((s[d]'hd) = 45)) (HNO : Aside0 (∀ i (h : i < d), (s[i]'(Nat.lt_trans h hd)) ≠ 45)) (l : List ByteArray) (hP : spl (s.extract (d + 1) s.size) = l) (hl : l.length ≤ 200) (x y z : ByteArray) (hL : spl (s.extract 0 d) = [x, y, z]) (hx : x.size ≤ 128) (hy : y.size ≤ 128) (hz : z.size ≤ 128) (a b c : Int) (nx : numV x = some a) (ny : numV y = some b) (nz : numV z = some c) (hm : mayV a b c l = false)  :
    Calls Tryz.prog 27 #[.string s] w fun e w' => ∃ A cap, e = .returned (.tuple #[.agg #[.int .u32 0, .int .u32 0, .int .u32 0, .slice A ([] : List ByteArray).length cap], .int .i64 70]) ∧ ([] : List ByteArray).length ≤ cap ∧ Kd.C Kd.string w' A ([] : List ByteArray).length [] ∧ Below w.heap.size w w' := by
  go_enter Tryz.func27, Tryz.ntmps27
  go_wp2
  go_loopg [4, 6] s.size (fun g v4 v6 w' => ∃ i : Nat, i ≤ d ∧ g = s.size - i ∧ v4 = .string s ∧ v6 = .int .i64 i ∧ ((w.alloc (.cells #[.int .u32 0, .int .u32 0, .int .u32 0, .slice none 0 0] 32)).alloc (.cells #[.int .u32 0, .int .u32 0, .int .u32 0, .slice none 0 0] 32)) = w')
  case atStart => exact ⟨0, Nat.zero_le _, rfl, rfl, rfl, rfl⟩
  case round =>
  obtain ⟨i, hi, rfl, rfl, rfl, rfl⟩ := hrel
  by_cases h1 : i < d
  · have h2 : i < s.size := by omega
    have q1 : (i : Int) < (s.size : Int) := by omega
    have hne : (((s[i]'h2).toNat : Int) == 45) = false := beq_eq_false_iff_ne.2 (fun h => HNO.out i h1 (UInt8.toNat_inj.1 (by have : (45 : UInt8).toNat = 45 := rfl; omega)))
    go_wp2
    go_roundg (s.size - (i + 1))
    case measure => omega
    case rel => exact ⟨i + 1, by omega, rfl, rfl, by simp, rfl⟩
  have hi' : i = d := by omega
  subst hi'
  clear h1 hi
  have q1 : (i : Int) < (s.size : Int) := by omega
  have q2 : (0 : Int) ≤ (i : Int) + 1 := by omega
  have q3 : (i : Int) + 1 ≤ (s.size : Int) := by omega
  have q4 : (i : Int) ≤ (s.size : Int) := by omega
  have heq : ((s[i]'hd).toNat : Int) = 45 := by rw [HDD.out]; rfl
  go_wp2_with (fail)
  refine (rcut46_l (s.extract (i + 1) s.size) l _ (by rw [ByteArray.size_extract]; omega) hP).mono ?_
  rintro e w1 ⟨A1, k1, rfl, hk1, hR1, hb1⟩
  have HR1 := Aside0.mk (Kd.R_far (p := ⟨w.heap.size + 1, 3, none⟩) hR1 (fun k hk => (show k ≠ w.heap.size + 1 from by have : w.heap.size + 2 ≤ k := (by simpa using hk); omega)) (.slice A1 l.length k1))
  clear hR1
  have HB1 := Aside0.mk (below_step (w := w) (by repeat (first | exact Below.refl _ _ | exact HB9.out | exact HB8.out | exact HB7.out | exact HB6.out | exact HB5.out | exact HB4.out | exact HB3.out | exact HB2.out | exact HB1.out | exact HB.out | (refine Below.alloc ?_ (by first | exact HB9.out.size | exact HB8.out.size | exact HB7.out.size | exact HB6.out.size | exact HB5.out.size | exact HB4.out.size | exact HB3.out.size | exact HB2.out.size | exact HB1.out.size | exact HB.out.size | (simp; done) | (simp <;> omega)) _) | apply pw_below_drewN | (refine Below.setCell ?_ (by first | (simp; done) | (simp <;> omega) | omega) _))) hb1)
  obtain ⟨hc1, hf1⟩ := rbcell hb1
  have hza1 : w.heap.size < w1.heap.size := by have := hb1.size; (try simp at this); omega
  have hzb1 : w.heap.size + 1 < w1.heap.size := by have := hb1.size; (try simp at this); omega
  have hG1 : ∀ o, w1.cell? ⟨w.heap.size, o, none⟩ = ((w.alloc (.cells #[.int .u32 0, .int .u32 0, .int .u32 0, .slice none 0 0] 32)).alloc (.cells #[.int .u32 0, .int .u32 0, .int .u32 0, .slice none 0 0] 32)).cell? ⟨w.heap.size, o, none⟩ := fun o => (hc1 _ _ (by first | omega | (simp; done) | (simp; omega))).trans rfl
  clear hb1
  go_wp2_with (fail)
  refine (rcut46_3 (s.extract 0 i) x y z _ (by rw [ByteArray.size_extract]; omega) hL).mono ?_
  rintro e w2 ⟨b1, o1, k2, rfl, cx, cy, cz, hlt2, hb2⟩
  have HB2 := Aside0.mk (below_step (w := w) (by repeat (first | exact Below.refl _ _ | exact HB9.out | exact HB8.out | exact HB7.out | exact HB6.out | exact HB5.out | exact HB4.out | exact HB3.out | exact HB2.out | exact HB1.out | exact HB.out | (refine Below.alloc ?_ (by first | exact HB9.out.size | exact HB8.out.size | exact HB7.out.size | exact HB6.out.size | exact HB5.out.size | exact HB4.out.size | exact HB3.out.size | exact HB2.out.size | exact HB1.out.size | exact HB.out.size | (simp; done) | (simp <;> omega)) _) | apply pw_below_drewN | (refine Below.setCell ?_ (by first | (simp; done) | (simp <;> omega) | omega) _))) hb2)
  obtain ⟨hc2, hf2⟩ := rbcell hb2
  have hza2 : w.heap.size < w2.heap.size := by have := hb2.size; (try simp at this); omega
  have hzb2 : w.heap.size + 1 < w2.heap.size := by have := hb2.size; (try simp at this); omega
  have HR2 := Aside0.mk (Kd.R_below HR1.out hb2)
  have hG2 : ∀ o, w2.cell? ⟨w.heap.size, o, none⟩ = ((w.alloc (.cells #[.int .u32 0, .int .u32 0, .int .u32 0, .slice none 0 0] 32)).alloc (.cells #[.int .u32 0, .int .u32 0, .int .u32 0, .slice none 0 0] 32)).cell? ⟨w.heap.size, o, none⟩ := fun o => (hc2 _ _ (by first | omega | (simp; done) | (simp; omega))).trans ((World.cell?_setCell_other _ _ _ _ (by simp)).trans (hG1 o))
  clear hb2
  go_wp2_with (fail)
  refine (rnum_yes x _ _ (by omega) nx).mono ?_
  rintro e w3 ⟨rfl, hb3⟩
  have HB3 := Aside0.mk (below_step (w := w) (by repeat (first | exact Below.refl _ _ | exact HB9.out | exact HB8.out | exact HB7.out | exact HB6.out | exact HB5.out | exact HB4.out | exact HB3.out | exact HB2.out | exact HB1.out | exact HB.out | (refine Below.alloc ?_ (by first | exact HB9.out.size | exact HB8.out.size | exact HB7.out.size | exact HB6.out.size | exact HB5.out.size | exact HB4.out.size | exact HB3.out.size | exact HB2.out.size | exact HB1.out.size | exact HB.out.size | (simp; done) | (simp <;> omega)) _) | apply pw_below_drewN | (refine Below.setCell ?_ (by first | (simp; done) | (simp <;> omega) | omega) _))) hb3)
  obtain ⟨hc3, hf3⟩ := rbcell hb3
  have hza3 : w.heap.size < w3.heap.size := by have := hb3.size; (try simp at this); omega
  have hzb3 : w.heap.size + 1 < w3.heap.size := by have := hb3.size; (try simp at this); omega
  have HR3 := Aside0.mk (Kd.R_below HR2.out hb3)
  have hlt3 : b1 < w3.heap.size := by have := hb3.size; omega
  have hG3 : ∀ o, w3.cell? ⟨w.heap.size, o, none⟩ = ((w.alloc (.cells #[.int .u32 0, .int .u32 0, .int .u32 0, .slice none 0 0] 32)).alloc (.cells #[.int .u32 0, .int .u32 0, .int .u32 0, .slice none 0 0] 32)).cell? ⟨w.heap.size, o, none⟩ := fun o => (hc3 _ _ (by first | omega | (simp; done) | (simp; omega))).trans (hG2 o)
  clear hb3
  go_wp2_with (fail)
  refine (rnum_yes y _ _ (by omega) ny).mono ?_
  rintro e w4 ⟨rfl, hb4⟩
  have HB4 := Aside0.mk (below_step (w := w) (by repeat (first | exact Below.refl _ _ | exact HB9.out | exact HB8.out | exact HB7.out | exact HB6.out | exact HB5.out | exact HB4.out | exact HB3.out | exact HB2.out | exact HB1.out | exact HB.out | (refine Below.alloc ?_ (by first | exact HB9.out.size | exact HB8.out.size | exact HB7.out.size | exact HB6.out.size | exact HB5.out.size | exact HB4.out.size | exact HB3.out.size | exact HB2.out.size | exact HB1.out.size | exact HB.out.size | (simp; done) | (simp <;> omega)) _) | apply pw_below_drewN | (refine Below.setCell ?_ (by first | (simp; done) | (simp <;> omega) | omega) _))) hb4)
  obtain ⟨hc4, hf4⟩ := rbcell hb4
  have hza4 : w.heap.size < w4.heap.size := by have := hb4.size; (try simp at this); omega
  have hzb4 : w.heap.size + 1 < w4.heap.size := by have := hb4.size; (try simp at this); omega
  have HR4 := Aside0.mk (Kd.R_below HR3.out hb4)
  have hlt4 : b1 < w4.heap.size := by have := hb4.size; omega
  have hG4 : ∀ o, w4.cell? ⟨w.heap.size, o, none⟩ = ((w.alloc (.cells #[.int .u32 0, .int .u32 0, .int .u32 0, .slice none 0 0] 32)).alloc (.cells #[.int .u32 0, .int .u32 0, .int .u32 0, .slice none 0 0] 32)).cell? ⟨w.heap.size, o, none⟩ := fun o => (hc4 _ _ (by first | omega | (simp; done) | (simp; omega))).trans (hG3 o)
  clear hb4
  go_wp2_with (fail)
  refine (rnum_yes z _ _ (by omega) nz).mono ?_
  rintro e w5 ⟨rfl, hb5⟩
  have HB5 := Aside0.mk (below_step (w := w) (by repeat (first | exact Below.refl _ _ | exact HB9.out | exact HB8.out | exact HB7.out | exact HB6.out | exact HB5.out | exact HB4.out | exact HB3.out | exact HB2.out | exact HB1.out | exact HB.out | (refine Below.alloc ?_ (by first | exact HB9.out.size | exact HB8.out.size | exact HB7.out.size | exact HB6.out.size | exact HB5.out.size | exact HB4.out.size | exact HB3.out.size | exact HB2.out.size | exact HB1.out.size | exact HB.out.size | (simp; done) | (simp <;> omega)) _) | apply pw_below_drewN | (refine Below.setCell ?_ (by first | (simp; done) | (simp <;> omega) | omega) _))) hb5)
  obtain ⟨hc5, hf5⟩ := rbcell hb5
  have hza5 : w.heap.size < w5.heap.size := by have := hb5.size; (try simp at this); omega
  have hzb5 : w.heap.size + 1 < w5.heap.size := by have := hb5.size; (try simp at this); omega
  have HR5 := Aside0.mk (Kd.R_below HR4.out hb5)
  have hlt5 : b1 < w5.heap.size := by have := hb5.size; omega
  have hG5 : ∀ o, w5.cell? ⟨w.heap.size, o, none⟩ = ((w.alloc (.cells #[.int .u32 0, .int .u32 0, .int .u32 0, .slice none 0 0] 32)).alloc (.cells #[.int .u32 0, .int .u32 0, .int .u32 0, .slice none 0 0] 32)).cell? ⟨w.heap.size, o, none⟩ := fun o => (hc5 _ _ (by first | omega | (simp; done) | (simp; omega))).trans (hG4 o)
  clear hb5
  have n1 : ∀ k, w.heap.size + 2 ≤ k → k ≠ w.heap.size + 1 := fun k hk => by omega
  have HQ := Aside0.mk (Kd.R_far (p := ⟨w.heap.size + 1, 2, none⟩) (Kd.R_far (p := ⟨w.heap.size + 1, 1, none⟩) (Kd.R_far (p := ⟨w.heap.size + 1, 0, none⟩) (Kd.R_mono (ok' := fun k => w.heap.size + 2 ≤ k) HR5.out (fun k hk => by simpa using hk)) n1 (.int .u32 a)) n1 (.int .u32 b)) n1 (.int .u32 c))
  have HQC : Kd.C Kd.string (((w5.setCell ⟨w.heap.size + 1, 0, none⟩ (.int .u32 a)).setCell ⟨w.heap.size + 1, 1, none⟩ (.int .u32 b)).setCell ⟨w.heap.size + 1, 2, none⟩ (.int .u32 c)) A1 l.length l := by
    obtain ⟨A', c', he, _, hC⟩ := Kd.R_reads HQ.out
    cases he
    exact hC
  have HQC := Aside0.mk HQC
  go_wp2_with (fail)
  refine (rmay_calls a b c A1 k1 l _ HQC.out hk1 (by omega)).mono ?_
  rintro e w6 ⟨rfl, hb6⟩
  have HB6 := Aside0.mk (below_step (w := w) (by repeat (first | exact Below.refl _ _ | exact HB9.out | exact HB8.out | exact HB7.out | exact HB6.out | exact HB5.out | exact HB4.out | exact HB3.out | exact HB2.out | exact HB1.out | exact HB.out | (refine Below.alloc ?_ (by first | exact HB9.out.size | exact HB8.out.size | exact HB7.out.size | exact HB6.out.size | exact HB5.out.size | exact HB4.out.size | exact HB3.out.size | exact HB2.out.size | exact HB1.out.size | exact HB.out.size | (simp; done) | (simp <;> omega)) _) | apply pw_below_drewN | (refine Below.setCell ?_ (by first | (simp; done) | (simp <;> omega) | omega) _))) hb6)
  obtain ⟨hc6, hf6⟩ := rbcell hb6
  have hza6 : w.heap.size < w6.heap.size := by have := hb6.size; (try simp at this); omega
  have hzb6 : w.heap.size + 1 < w6.heap.size := by have := hb6.size; (try simp at this); omega
  have HQ2 := Aside0.mk (Kd.R_below HQ.out hb6)
  have hG6 : ∀ o, w6.cell? ⟨w.heap.size, o, none⟩ = ((w.alloc (.cells #[.int .u32 0, .int .u32 0, .int .u32 0, .slice none 0 0] 32)).alloc (.cells #[.int .u32 0, .int .u32 0, .int .u32 0, .slice none 0 0] 32)).cell? ⟨w.heap.size, o, none⟩ := fun o => (hc6 _ _ (by first | omega | (simp; done) | (simp; omega))).trans ((World.cell?_setCell_other _ _ _ _ (by simp)).trans ((World.cell?_setCell_other _ _ _ _ (by simp)).trans ((World.cell?_setCell_other _ _ _ _ (by simp)).trans (hG5 o))))
  clear hb6
  go_wp2
  have z0 : w6.cell? ⟨w.heap.size, 0, none⟩ = some (.int .u32 0) := (hG6 0).trans (by go_simp)
  have z1 : w6.cell? ⟨w.heap.size, 1, none⟩ = some (.int .u32 0) := (hG6 1).trans (by go_simp)
  have z2 : w6.cell? ⟨w.heap.size, 2, none⟩ = some (.int .u32 0) := (hG6 2).trans (by go_simp)
  have z3 : w6.cell? ⟨w.heap.size, 3, none⟩ = some (.slice none 0 0) := (hG6 3).trans (by go_simp)
  have c0 : ((((w6.setCell ⟨w.heap.size, 0, none⟩ (.int .u32 0)).setCell ⟨w.heap.size, 1, none⟩ (.int .u32 0)).setCell ⟨w.heap.size, 2, none⟩ (.int .u32 0)).setCell ⟨w.heap.size, 3, none⟩ (.slice none 0 0)).cell? ⟨w.heap.size, 0, none⟩ = some (.int .u32 0) := by go_simp
  have c1 : ((((w6.setCell ⟨w.heap.size, 0, none⟩ (.int .u32 0)).setCell ⟨w.heap.size, 1, none⟩ (.int .u32 0)).setCell ⟨w.heap.size, 2, none⟩ (.int .u32 0)).setCell ⟨w.heap.size, 3, none⟩ (.slice none 0 0)).cell? ⟨w.heap.size, 1, none⟩ = some (.int .u32 0) := by go_simp
  have c2 : ((((w6.setCell ⟨w.heap.size, 0, none⟩ (.int .u32 0)).setCell ⟨w.heap.size, 1, none⟩ (.int .u32 0)).setCell ⟨w.heap.size, 2, none⟩ (.int .u32 0)).setCell ⟨w.heap.size, 3, none⟩ (.slice none 0 0)).cell? ⟨w.heap.size, 2, none⟩ = some (.int .u32 0) := by go_simp
  have c3 : ((((w6.setCell ⟨w.heap.size, 0, none⟩ (.int .u32 0)).setCell ⟨w.heap.size, 1, none⟩ (.int .u32 0)).setCell ⟨w.heap.size, 2, none⟩ (.int .u32 0)).setCell ⟨w.heap.size, 3, none⟩ (.slice none 0 0)).cell? ⟨w.heap.size, 3, none⟩ = some (.slice none 0 0) := by go_simp
  refine bodyPost_ret (retC Tryz.results27 _ ((((w6.setCell ⟨w.heap.size, 0, none⟩ (.int .u32 0)).setCell ⟨w.heap.size, 1, none⟩ (.int .u32 0)).setCell ⟨w.heap.size, 2, none⟩ (.int .u32 0)).setCell ⟨w.heap.size, 3, none⟩ (.slice none 0 0)) (w.heap.size) _ _ _ _ _ rfl rfl c0 c1 c2 c3) rfl ⟨none, 0, rfl, Nat.le_refl _, C_none _, (by refine Below.setCell (Below.setCell (Below.setCell (Below.setCell HB6.out ?_ _) ?_ _) ?_ _) ?_ _ <;> simp)⟩

set_option maxHeartbeats 8000000 in
set_option maxRecDepth 100000 in
theorem rread_pre_ok (s : ByteArray) (w : World) (hs : s.size ≤ 128) (d : Nat) (hd : d < s.size) (HDD : Aside0 ((s[d]'hd) = 45)) (HNO : Aside0 (∀ i (h : i < d), (s[i]'(Nat.lt_trans h hd)) ≠ 45)) (l : List ByteArray) (hP : spl (s.extract (d + 1) s.size) = l) (hl : l.length ≤ 200) (x y z : ByteArray) (hL : spl (s.extract 0 d) = [x, y, z]) (hx : x.size ≤ 128) (hy : y.size ≤ 128) (hz : z.size ≤ 128) (a b c : Int) (nx : numV x = some a) (ny : numV y = some b) (nz : numV z = some c) (hm : mayV a b c l = true)  :
    Calls Tryz.prog 27 #[.string s] w fun e w' => ∃ A cap, e = .returned (.tuple #[.agg #[.int .u32 a, .int .u32 b, .int .u32 c, .slice A l.length cap], .int .i64 0]) ∧ l.length ≤ cap ∧ Kd.C Kd.string w' A l.length l ∧ Below w.heap.size w w' := by
  go_enter Tryz.func27, Tryz.ntmps27
  go_wp2
  go_loopg [4, 6] s.size (fun g v4 v6 w' => ∃ i : Nat, i ≤ d ∧ g = s.size - i ∧ v4 = .string s ∧ v6 = .int .i64 i ∧ ((w.alloc (.cells #[.int .u32 0, .int .u32 0, .int .u32 0, .slice none 0 0] 32)).alloc (.cells #[.int .u32 0, .int .u32 0, .int .u32 0, .slice none 0 0] 32)) = w')
  case atStart => exact ⟨0, Nat.zero_le _, rfl, rfl, rfl, rfl⟩
  case round =>
  obtain ⟨i, hi, rfl, rfl, rfl, rfl⟩ := hrel
  by_cases h1 : i < d
  · have h2 : i < s.size := by omega
    have q1 : (i : Int) < (s.size : Int) := by omega
    have hne : (((s[i]'h2).toNat : Int) == 45) = false := beq_eq_false_iff_ne.2 (fun h => HNO.out i h1 (UInt8.toNat_inj.1 (by have : (45 : UInt8).toNat = 45 := rfl; omega)))
    go_wp2
    go_roundg (s.size - (i + 1))
    case measure => omega
    case rel => exact ⟨i + 1, by omega, rfl, rfl, by simp, rfl⟩
  have hi' : i = d := by omega
  subst hi'
  clear h1 hi
  have q1 : (i : Int) < (s.size : Int) := by omega
  have q2 : (0 : Int) ≤ (i : Int) + 1 := by omega
  have q3 : (i : Int) + 1 ≤ (s.size : Int) := by omega
  have q4 : (i : Int) ≤ (s.size : Int) := by omega
  have heq : ((s[i]'hd).toNat : Int) = 45 := by rw [HDD.out]; rfl
  go_wp2_with (fail)
  refine (rcut46_l (s.extract (i + 1) s.size) l _ (by rw [ByteArray.size_extract]; omega) hP).mono ?_
  rintro e w1 ⟨A1, k1, rfl, hk1, hR1, hb1⟩
  have HR1 := Aside0.mk (Kd.R_far (p := ⟨w.heap.size + 1, 3, none⟩) hR1 (fun k hk => (show k ≠ w.heap.size + 1 from by have : w.heap.size + 2 ≤ k := (by simpa using hk); omega)) (.slice A1 l.length k1))
  clear hR1
  have HB1 := Aside0.mk (below_step (w := w) (by repeat (first | exact Below.refl _ _ | exact HB9.out | exact HB8.out | exact HB7.out | exact HB6.out | exact HB5.out | exact HB4.out | exact HB3.out | exact HB2.out | exact HB1.out | exact HB.out | (refine Below.alloc ?_ (by first | exact HB9.out.size | exact HB8.out.size | exact HB7.out.size | exact HB6.out.size | exact HB5.out.size | exact HB4.out.size | exact HB3.out.size | exact HB2.out.size | exact HB1.out.size | exact HB.out.size | (simp; done) | (simp <;> omega)) _) | apply pw_below_drewN | (refine Below.setCell ?_ (by first | (simp; done) | (simp <;> omega) | omega) _))) hb1)
  obtain ⟨hc1, hf1⟩ := rbcell hb1
  have hza1 : w.heap.size < w1.heap.size := by have := hb1.size; (try simp at this); omega
  have hzb1 : w.heap.size + 1 < w1.heap.size := by have := hb1.size; (try simp at this); omega
  have hG1 : ∀ o, w1.cell? ⟨w.heap.size, o, none⟩ = ((w.alloc (.cells #[.int .u32 0, .int .u32 0, .int .u32 0, .slice none 0 0] 32)).alloc (.cells #[.int .u32 0, .int .u32 0, .int .u32 0, .slice none 0 0] 32)).cell? ⟨w.heap.size, o, none⟩ := fun o => (hc1 _ _ (by first | omega | (simp; done) | (simp; omega))).trans rfl
  clear hb1
  go_wp2_with (fail)
  refine (rcut46_3 (s.extract 0 i) x y z _ (by rw [ByteArray.size_extract]; omega) hL).mono ?_
  rintro e w2 ⟨b1, o1, k2, rfl, cx, cy, cz, hlt2, hb2⟩
  have HB2 := Aside0.mk (below_step (w := w) (by repeat (first | exact Below.refl _ _ | exact HB9.out | exact HB8.out | exact HB7.out | exact HB6.out | exact HB5.out | exact HB4.out | exact HB3.out | exact HB2.out | exact HB1.out | exact HB.out | (refine Below.alloc ?_ (by first | exact HB9.out.size | exact HB8.out.size | exact HB7.out.size | exact HB6.out.size | exact HB5.out.size | exact HB4.out.size | exact HB3.out.size | exact HB2.out.size | exact HB1.out.size | exact HB.out.size | (simp; done) | (simp <;> omega)) _) | apply pw_below_drewN | (refine Below.setCell ?_ (by first | (simp; done) | (simp <;> omega) | omega) _))) hb2)
  obtain ⟨hc2, hf2⟩ := rbcell hb2
  have hza2 : w.heap.size < w2.heap.size := by have := hb2.size; (try simp at this); omega
  have hzb2 : w.heap.size + 1 < w2.heap.size := by have := hb2.size; (try simp at this); omega
  have HR2 := Aside0.mk (Kd.R_below HR1.out hb2)
  have hG2 : ∀ o, w2.cell? ⟨w.heap.size, o, none⟩ = ((w.alloc (.cells #[.int .u32 0, .int .u32 0, .int .u32 0, .slice none 0 0] 32)).alloc (.cells #[.int .u32 0, .int .u32 0, .int .u32 0, .slice none 0 0] 32)).cell? ⟨w.heap.size, o, none⟩ := fun o => (hc2 _ _ (by first | omega | (simp; done) | (simp; omega))).trans ((World.cell?_setCell_other _ _ _ _ (by simp)).trans (hG1 o))
  clear hb2
  go_wp2_with (fail)
  refine (rnum_yes x _ _ (by omega) nx).mono ?_
  rintro e w3 ⟨rfl, hb3⟩
  have HB3 := Aside0.mk (below_step (w := w) (by repeat (first | exact Below.refl _ _ | exact HB9.out | exact HB8.out | exact HB7.out | exact HB6.out | exact HB5.out | exact HB4.out | exact HB3.out | exact HB2.out | exact HB1.out | exact HB.out | (refine Below.alloc ?_ (by first | exact HB9.out.size | exact HB8.out.size | exact HB7.out.size | exact HB6.out.size | exact HB5.out.size | exact HB4.out.size | exact HB3.out.size | exact HB2.out.size | exact HB1.out.size | exact HB.out.size | (simp; done) | (simp <;> omega)) _) | apply pw_below_drewN | (refine Below.setCell ?_ (by first | (simp; done) | (simp <;> omega) | omega) _))) hb3)
  obtain ⟨hc3, hf3⟩ := rbcell hb3
  have hza3 : w.heap.size < w3.heap.size := by have := hb3.size; (try simp at this); omega
  have hzb3 : w.heap.size + 1 < w3.heap.size := by have := hb3.size; (try simp at this); omega
  have HR3 := Aside0.mk (Kd.R_below HR2.out hb3)
  have hlt3 : b1 < w3.heap.size := by have := hb3.size; omega
  have hG3 : ∀ o, w3.cell? ⟨w.heap.size, o, none⟩ = ((w.alloc (.cells #[.int .u32 0, .int .u32 0, .int .u32 0, .slice none 0 0] 32)).alloc (.cells #[.int .u32 0, .int .u32 0, .int .u32 0, .slice none 0 0] 32)).cell? ⟨w.heap.size, o, none⟩ := fun o => (hc3 _ _ (by first | omega | (simp; done) | (simp; omega))).trans (hG2 o)
  clear hb3
  go_wp2_with (fail)
  refine (rnum_yes y _ _ (by omega) ny).mono ?_
  rintro e w4 ⟨rfl, hb4⟩
  have HB4 := Aside0.mk (below_step (w := w) (by repeat (first | exact Below.refl _ _ | exact HB9.out | exact HB8.out | exact HB7.out | exact HB6.out | exact HB5.out | exact HB4.out | exact HB3.out | exact HB2.out | exact HB1.out | exact HB.out | (refine Below.alloc ?_ (by first | exact HB9.out.size | exact HB8.out.size | exact HB7.out.size | exact HB6.out.size | exact HB5.out.size | exact HB4.out.size | exact HB3.out.size | exact HB2.out.size | exact HB1.out.size | exact HB.out.size | (simp; done) | (simp <;> omega)) _) | apply pw_below_drewN | (refine Below.setCell ?_ (by first | (simp; done) | (simp <;> omega) | omega) _))) hb4)
  obtain ⟨hc4, hf4⟩ := rbcell hb4
  have hza4 : w.heap.size < w4.heap.size := by have := hb4.size; (try simp at this); omega
  have hzb4 : w.heap.size + 1 < w4.heap.size := by have := hb4.size; (try simp at this); omega
  have HR4 := Aside0.mk (Kd.R_below HR3.out hb4)
  have hlt4 : b1 < w4.heap.size := by have := hb4.size; omega
  have hG4 : ∀ o, w4.cell? ⟨w.heap.size, o, none⟩ = ((w.alloc (.cells #[.int .u32 0, .int .u32 0, .int .u32 0, .slice none 0 0] 32)).alloc (.cells #[.int .u32 0, .int .u32 0, .int .u32 0, .slice none 0 0] 32)).cell? ⟨w.heap.size, o, none⟩ := fun o => (hc4 _ _ (by first | omega | (simp; done) | (simp; omega))).trans (hG3 o)
  clear hb4
  go_wp2_with (fail)
  refine (rnum_yes z _ _ (by omega) nz).mono ?_
  rintro e w5 ⟨rfl, hb5⟩
  have HB5 := Aside0.mk (below_step (w := w) (by repeat (first | exact Below.refl _ _ | exact HB9.out | exact HB8.out | exact HB7.out | exact HB6.out | exact HB5.out | exact HB4.out | exact HB3.out | exact HB2.out | exact HB1.out | exact HB.out | (refine Below.alloc ?_ (by first | exact HB9.out.size | exact HB8.out.size | exact HB7.out.size | exact HB6.out.size | exact HB5.out.size | exact HB4.out.size | exact HB3.out.size | exact HB2.out.size | exact HB1.out.size | exact HB.out.size | (simp; done) | (simp <;> omega)) _) | apply pw_below_drewN | (refine Below.setCell ?_ (by first | (simp; done) | (simp <;> omega) | omega) _))) hb5)
  obtain ⟨hc5, hf5⟩ := rbcell hb5
  have hza5 : w.heap.size < w5.heap.size := by have := hb5.size; (try simp at this); omega
  have hzb5 : w.heap.size + 1 < w5.heap.size := by have := hb5.size; (try simp at this); omega
  have HR5 := Aside0.mk (Kd.R_below HR4.out hb5)
  have hlt5 : b1 < w5.heap.size := by have := hb5.size; omega
  have hG5 : ∀ o, w5.cell? ⟨w.heap.size, o, none⟩ = ((w.alloc (.cells #[.int .u32 0, .int .u32 0, .int .u32 0, .slice none 0 0] 32)).alloc (.cells #[.int .u32 0, .int .u32 0, .int .u32 0, .slice none 0 0] 32)).cell? ⟨w.heap.size, o, none⟩ := fun o => (hc5 _ _ (by first | omega | (simp; done) | (simp; omega))).trans (hG4 o)
  clear hb5
  have n1 : ∀ k, w.heap.size + 2 ≤ k → k ≠ w.heap.size + 1 := fun k hk => by omega
  have HQ := Aside0.mk (Kd.R_far (p := ⟨w.heap.size + 1, 2, none⟩) (Kd.R_far (p := ⟨w.heap.size + 1, 1, none⟩) (Kd.R_far (p := ⟨w.heap.size + 1, 0, none⟩) (Kd.R_mono (ok' := fun k => w.heap.size + 2 ≤ k) HR5.out (fun k hk => by simpa using hk)) n1 (.int .u32 a)) n1 (.int .u32 b)) n1 (.int .u32 c))
  have HQC : Kd.C Kd.string (((w5.setCell ⟨w.heap.size + 1, 0, none⟩ (.int .u32 a)).setCell ⟨w.heap.size + 1, 1, none⟩ (.int .u32 b)).setCell ⟨w.heap.size + 1, 2, none⟩ (.int .u32 c)) A1 l.length l := by
    obtain ⟨A', c', he, _, hC⟩ := Kd.R_reads HQ.out
    cases he
    exact hC
  have HQC := Aside0.mk HQC
  go_wp2_with (fail)
  refine (rmay_calls a b c A1 k1 l _ HQC.out hk1 (by omega)).mono ?_
  rintro e w6 ⟨rfl, hb6⟩
  have HB6 := Aside0.mk (below_step (w := w) (by repeat (first | exact Below.refl _ _ | exact HB9.out | exact HB8.out | exact HB7.out | exact HB6.out | exact HB5.out | exact HB4.out | exact HB3.out | exact HB2.out | exact HB1.out | exact HB.out | (refine Below.alloc ?_ (by first | exact HB9.out.size | exact HB8.out.size | exact HB7.out.size | exact HB6.out.size | exact HB5.out.size | exact HB4.out.size | exact HB3.out.size | exact HB2.out.size | exact HB1.out.size | exact HB.out.size | (simp; done) | (simp <;> omega)) _) | apply pw_below_drewN | (refine Below.setCell ?_ (by first | (simp; done) | (simp <;> omega) | omega) _))) hb6)
  obtain ⟨hc6, hf6⟩ := rbcell hb6
  have hza6 : w.heap.size < w6.heap.size := by have := hb6.size; (try simp at this); omega
  have hzb6 : w.heap.size + 1 < w6.heap.size := by have := hb6.size; (try simp at this); omega
  have HQ2 := Aside0.mk (Kd.R_below HQ.out hb6)
  have hG6 : ∀ o, w6.cell? ⟨w.heap.size, o, none⟩ = ((w.alloc (.cells #[.int .u32 0, .int .u32 0, .int .u32 0, .slice none 0 0] 32)).alloc (.cells #[.int .u32 0, .int .u32 0, .int .u32 0, .slice none 0 0] 32)).cell? ⟨w.heap.size, o, none⟩ := fun o => (hc6 _ _ (by first | omega | (simp; done) | (simp; omega))).trans ((World.cell?_setCell_other _ _ _ _ (by simp)).trans ((World.cell?_setCell_other _ _ _ _ (by simp)).trans ((World.cell?_setCell_other _ _ _ _ (by simp)).trans (hG5 o))))
  clear hb6
  go_wp2
  have n0 : ∀ k, w.heap.size + 2 ≤ k → k ≠ w.heap.size := fun k hk => by omega
  have HFC : Kd.C Kd.string ((((w6.setCell ⟨w.heap.size, 0, none⟩ (.int .u32 a)).setCell ⟨w.heap.size, 1, none⟩ (.int .u32 b)).setCell ⟨w.heap.size, 2, none⟩ (.int .u32 c)).setCell ⟨w.heap.size, 3, none⟩ (.slice A1 l.length k1)) A1 l.length l := by
    obtain ⟨A', c', he, _, hC⟩ := Kd.R_reads (Kd.R_far (p := ⟨w.heap.size, 3, none⟩) (Kd.R_far (p := ⟨w.heap.size, 2, none⟩) (Kd.R_far (p := ⟨w.heap.size, 1, none⟩) (Kd.R_far (p := ⟨w.heap.size, 0, none⟩) HQ2.out n0 (.int .u32 a)) n0 (.int .u32 b)) n0 (.int .u32 c)) n0 (.slice A1 l.length k1))
    cases he
    exact hC
  have HFC := Aside0.mk HFC
  have z0 : w6.cell? ⟨w.heap.size, 0, none⟩ = some (.int .u32 0) := (hG6 0).trans (by go_simp)
  have z1 : w6.cell? ⟨w.heap.size, 1, none⟩ = some (.int .u32 0) := (hG6 1).trans (by go_simp)
  have z2 : w6.cell? ⟨w.heap.size, 2, none⟩ = some (.int .u32 0) := (hG6 2).trans (by go_simp)
  have z3 : w6.cell? ⟨w.heap.size, 3, none⟩ = some (.slice none 0 0) := (hG6 3).trans (by go_simp)
  have c0 : ((((w6.setCell ⟨w.heap.size, 0, none⟩ (.int .u32 a)).setCell ⟨w.heap.size, 1, none⟩ (.int .u32 b)).setCell ⟨w.heap.size, 2, none⟩ (.int .u32 c)).setCell ⟨w.heap.size, 3, none⟩ (.slice A1 l.length k1)).cell? ⟨w.heap.size, 0, none⟩ = some (.int .u32 a) := by go_simp
  have c1 : ((((w6.setCell ⟨w.heap.size, 0, none⟩ (.int .u32 a)).setCell ⟨w.heap.size, 1, none⟩ (.int .u32 b)).setCell ⟨w.heap.size, 2, none⟩ (.int .u32 c)).setCell ⟨w.heap.size, 3, none⟩ (.slice A1 l.length k1)).cell? ⟨w.heap.size, 1, none⟩ = some (.int .u32 b) := by go_simp
  have c2 : ((((w6.setCell ⟨w.heap.size, 0, none⟩ (.int .u32 a)).setCell ⟨w.heap.size, 1, none⟩ (.int .u32 b)).setCell ⟨w.heap.size, 2, none⟩ (.int .u32 c)).setCell ⟨w.heap.size, 3, none⟩ (.slice A1 l.length k1)).cell? ⟨w.heap.size, 2, none⟩ = some (.int .u32 c) := by go_simp
  have c3 : ((((w6.setCell ⟨w.heap.size, 0, none⟩ (.int .u32 a)).setCell ⟨w.heap.size, 1, none⟩ (.int .u32 b)).setCell ⟨w.heap.size, 2, none⟩ (.int .u32 c)).setCell ⟨w.heap.size, 3, none⟩ (.slice A1 l.length k1)).cell? ⟨w.heap.size, 3, none⟩ = some (.slice A1 l.length k1) := by go_simp
  refine bodyPost_ret (retC Tryz.results27 _ ((((w6.setCell ⟨w.heap.size, 0, none⟩ (.int .u32 a)).setCell ⟨w.heap.size, 1, none⟩ (.int .u32 b)).setCell ⟨w.heap.size, 2, none⟩ (.int .u32 c)).setCell ⟨w.heap.size, 3, none⟩ (.slice A1 l.length k1)) (w.heap.size) _ _ _ _ _ rfl rfl c0 c1 c2 c3) rfl ⟨A1, k1, rfl, hk1, HFC.out, (by refine Below.setCell (Below.setCell (Below.setCell (Below.setCell HB6.out ?_ _) ?_ _) ?_ _) ?_ _ <;> simp)⟩


end Go.Proofs.YthnajibbkinlkaaGreatDoor.PV

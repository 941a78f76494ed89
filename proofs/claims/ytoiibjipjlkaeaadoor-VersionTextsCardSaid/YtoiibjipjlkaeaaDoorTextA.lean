/- The walks of FormatUint, of version.Text and version.Is. -/
import Derived.Test.YtoiibjipjlkaeaaDoorLeastA
import Derived.Lib.AppendIntMem
import Derived.Shelf.Strconv.Itoa3
namespace Go.Proofs.YtoiibjipjlkaeaaDoor.PV
open Go.RowKit Go.Proofs.YtoiibjipjlkaeaaDoorW.PrintWords Go.Proofs.YtoiibjipjlkaeaaDoorW.PrintLast Go.Proofs.YtoiibjipjlkaeaaDoorW.PrintMore
attribute [local go_sem] max2_int min2_int max_two min_two max_three min_three max_four min_four   -- for this text's walks alone
set_option linter.unusedVariables false
set_option linter.unusedSimpArgs false

/-! FormatUint at base 10; version.Text. -/
theorem tab_below {P : Program} {w w1 : World} {name : String} {k : IntKind} {zs : List Int} (h : Lib.TabIs P w name k zs) (hb : Below w.heap.size w w1) : Lib.TabIs P w1 name k zs := by
  unfold Lib.TabIs World.var? at *
  cases hg : P.globalNamed name with
  | none => simp [hg] at h
  | some g =>
    simp only [hg, Option.bind_some] at h ⊢
    have hlt : g < w.heap.size := by
      rcases Nat.lt_or_ge g w.heap.size with h' | h'
      · exact h'
      · rw [Array.getElem?_eq_none h'] at h; simp at h
    rw [hb.block g hlt]
    exact h
def GT (w : World) : Prop := Lib.TabIs Tryd.prog w "internal/strconv.uint64pow10" .u64 Lib.pow10Tab
set_option maxHeartbeats 8000000 in
set_option maxRecDepth 100000 in
theorem fmtU_calls (u : Nat) (hu64 : u < 18446744073709551616) (w : World) (hT : GT w) :
    Calls Tryd.prog 96 #[.int .u64 u, .int .i64 10] w fun e w' => e = .returned (.string ⟨(Lib.decDigits u).toArray⟩) ∧ Below w.heap.size w w' := by
  by_cases hs : u < 100
  · go_enter Tryd.func96, Tryd.ntmps96
    go_wp2_with (go_at_call 117; refine (Tryd.internal_strconv_small u hs _).mono ?_; rintro e w1 ⟨rfl, rfl⟩)
    go_ret
    exact ⟨rfl, Below.refl _ _⟩
  · have hu1 : 1 ≤ u := by omega
    have hnd20 : Lib.nDigits u ≤ 20 := by have := Lib.numDigits_eq u hu1 hu64; split at this <;> omega
    have hal : Tryd.prog.arrayLen 150 = 24 := by simp [Program.arrayLen, Tryd.underlying150]
    have hsl1 : ∀ W, (Instr.sliceAt 150 (.pointer (some ⟨w.heap.size, 0, none⟩)) none (some (.int .i64 (Lib.nDigits u : Int))) none).run Tryd.prog W = .ok (.slice (some ⟨w.heap.size, 0, none⟩) (Lib.nDigits u) 24) W := fun W => by
      rw [run_sliceAt_array_h W 150 ⟨w.heap.size, 0, none⟩ (by simp [Program.arrayLen, Program.elem, Tryd.underlying150]) .i64 (Lib.nDigits u : Int) (by omega) (by rw [hal]; omega)]
      go_simp
    have hH0 := Lib.holds_zero0 w 150 (Lib.nDigits u) (by omega)
    have hfmt := Tryd.internal_strconv_formatBase10 w.heap.size 0 24 u (Array.replicate (Lib.nDigits u) 0) (w.alloc (.cells Lib.zeros24 150)) hH0 (by rw [Array.size_replicate]; exact Lib.lt_pow_nDigits u) hu64 (by rw [Array.size_replicate]; omega)
    rw [Array.size_replicate] at hfmt
    have HH0 := Lib.hid hH0
    clear hH0 hal
    go_enter Tryd.func96, Tryd.ntmps96
    go_wp2_with (first | (go_at_call 118; refine (Tryd.internal_strconv_numDigits u hu1 hu64 _ (Lib.tabIs_alloc hT _)).mono ?_; rintro e w' ⟨rfl, rfl⟩))
    go_at_call 119
    refine hfmt.mono ?_
    rintro e w' ⟨rfl, k, v', dk, rfl, hF⟩
    have hcv : (convert 101 9 (.slice (some ⟨w.heap.size, 0, none⟩) (Lib.nDigits u) 24)).run Tryd.prog ((Go.Sort.putRow (fun (b : UInt8) => Value.int .u8 (b.toNat : Int)) (w.alloc (.cells Lib.zeros24 150)) w.heap.size 0 dk).drewN k) = .ok (.string ⟨(Lib.decDigits u).toArray⟩) ((Go.Sort.putRow (fun (b : UInt8) => Value.int .u8 (b.toNat : Int)) (w.alloc (.cells Lib.zeros24 150)) w.heap.size 0 dk).drewN k) := by
      have h := run_convert_bytes_back (P := Tryd.prog) ((Go.Sort.putRow (fun (b : UInt8) => Value.int .u8 (b.toNat : Int)) (w.alloc (.cells Lib.zeros24 150)) w.heap.size 0 dk).drewN k) 101 9 5 ⟨w.heap.size, 0, none⟩ 24 (Lib.decDigits u) Tryd.underlying101 Tryd.underlying5 Tryd.underlying9 (fun j hj => by
        rw [Lib.row_is_numeral hF j hj, Lib.add_plain, World.cell?_drewN]
        exact Go.Sort.cell?_putRow (fun (b : UInt8) => Value.int .u8 (b.toNat : Int)) _ w.heap.size 0 _ dk HH0.out (by rw [hF.size, Array.size_replicate]) j (by rw [hF.size]; rw [Lib.decDigits_length] at hj; exact hj))
      rw [Lib.decDigits_length] at h
      exact h
    go_wp2
    go_ret
    refine ⟨rfl, ?_⟩
    obtain ⟨os', e⟩ := Lib.fin_at w (.cells Lib.zeros24 150) dk k 0
    rw [e]
    exact Lib.below_grow _ w (Nat.le_refl _) k os'
theorem fmt_calls (u : Nat) (hu64 : u < 18446744073709551616) (w : World) (hT : GT w) :
    Calls Tryd.prog 56 #[.int .u64 u, .int .i64 10] w fun e w' => e = .returned (.string ⟨(Lib.decDigits u).toArray⟩) ∧ Below w.heap.size w w' := by
  have HT := Aside0.mk hT
  clear hT
  go_enter Tryd.func56, Tryd.ntmps56
  go_wp2_with (go_at_call 96; refine (fmtU_calls u hu64 _ HT.out).mono ?_; rintro e w1 ⟨rfl, hb1⟩)
  go_ret
  exact ⟨rfl, hb1⟩
theorem join_L (L : List (List UInt8)) : Lib.join L [46] = joinL 46 L := by
  unfold Lib.join
  induction L with
  | nil => rfl
  | cons x r ih =>
    cases r with
    | nil => simp [joinL, List.intercalate]
    | cons y r =>
      rw [joinL, ← ih]
      simp [List.intercalate]
theorem join_len : ∀ (L : List (List UInt8)) (B : Nat), (∀ x ∈ L, x.length ≤ B) → (joinL 46 L).length ≤ L.length * (B + 1)
  | [], _, _ => by simp [joinL]
  | [x], B, h => by have := h x (by simp); simp only [joinL, List.length_cons, List.length_nil]; omega
  | x :: y :: r, B, h => by
    have h1 := h x (by simp)
    have h2 := join_len (y :: r) B (fun z hz => h z (List.mem_cons_of_mem _ hz))
    simp only [joinL, List.length_append, List.length_cons] at h2 ⊢
    have e : (r.length + 1 + 1) * (B + 1) = (r.length + 1) * (B + 1) + (B + 1) := Nat.succ_mul _ _
    omega
theorem dec_len {n : Nat} (h : n < 4294967296) : (Lib.decDigits n).length ≤ 20 := by
  by_cases h1 : 1 ≤ n
  · rw [Lib.decDigits_length]
    have := Lib.numDigits_eq n h1 (by omega)
    split at this <;> omega
  · have : n = 0 := by omega
    subst this
    exact of_decide_eq_true (by kernel_rfl)
def nB (n : Nat) : ByteArray := ⟨(Lib.decDigits n).toArray⟩
theorem nB_size {n : Nat} (h : n < 4294967296) : (nB n).size ≤ 128 := by
  have := dec_len h
  rw [← size_len]
  show (Lib.decDigits n).toArray.toList.length ≤ 128
  simp
  omega
def textB (a b c : Int) (p : List ByteArray) : ByteArray := ⟨(textL a b c p).toArray⟩
theorem C_row {W : World} {A : Option Addr} {n : Nat} {xs : List ByteArray} (h : Kd.C Kd.string W A n xs) (hp : 0 < xs.length) : ∃ b o, A = some ⟨b, o, none⟩ ∧ b < W.heap.size ∧ ∀ (j : Nat) x, xs[j]? = some x → W.cell? ⟨b, o + j, none⟩ = some (.string x) := by
  obtain ⟨b, o, rfl, hc⟩ := C_cells h hp
  refine ⟨b, o, rfl, World.block_lt_of_cell? _ _ (hc 0 hp), fun j x hj => ?_⟩
  obtain ⟨h1, h2⟩ := List.getElem?_eq_some_iff.1 hj
  rw [← h2]
  exact hc j h1
theorem bapp (a b : List UInt8) : (⟨a.toArray⟩ : ByteArray) ++ ⟨b.toArray⟩ = ⟨(a ++ b).toArray⟩ := by
  apply ba_ext
  rw [ByteArray.data_append]
  simp
theorem join_size (xs : List ByteArray) (n : Nat) (hn : xs.length ≤ n) (hs : ∀ x ∈ xs, x.size ≤ 128) : (⟨(joinL 46 (xs.map (·.data.toList))).toArray⟩ : ByteArray).size ≤ n * 129 := by
  rw [arr_len]
  have := join_len (xs.map (·.data.toList)) 128 (fun x hx => by
    obtain ⟨y, hy, rfl⟩ := List.mem_map.1 hx
    rw [size_len]
    exact hs y hy)
  rw [List.length_map] at this
  have h2 : xs.length * (128 + 1) ≤ n * (128 + 1) := Nat.mul_le_mul_right _ hn
  omega
theorem join_calls (A : Option Addr) (k : Nat) (xs : List ByteArray) (w : World) (hC : Kd.C Kd.string w A xs.length xs) (hk : xs.length ≤ k) (hn : xs.length ≤ 200) (hs : ∀ x ∈ xs, x.size ≤ 128) (hp : 0 < xs.length) :
    Calls Tryd.prog 57 #[.slice A xs.length k, .string ⟨#[46]⟩] w fun e w' => e = .returned (.string ⟨(joinL 46 (xs.map (·.data.toList))).toArray⟩) ∧ Below w.heap.size w w' := by
  obtain ⟨b, o, rfl, hlt, hc⟩ := C_row hC hp
  have hlen : (Lib.join (xs.map (·.data.toList)) dot.data.toList).length ≤ 140737488355328 := by
    rw [show dot.data.toList = [46] from rfl, join_L]
    have := join_len (xs.map (·.data.toList)) 128 (fun x hx => by
      obtain ⟨y, hy, rfl⟩ := List.mem_map.1 hx
      rw [size_len]
      exact hs y hy)
    rw [List.length_map] at this
    have h2 : xs.length * (128 + 1) ≤ 200 * (128 + 1) := Nat.mul_le_mul_right _ hn
    omega
  have := Tryd.strings_Join b o k xs dot w hc hlt (by omega) hk hlen
  rw [show dot.data.toList = [46] from rfl, join_L] at this
  exact this
set_option maxHeartbeats 8000000 in
set_option maxRecDepth 100000 in
theorem text_no (a b c : Int) (A : Option Addr) (cA : Nat) (l : List ByteArray) (w : World) (hA : Kd.C Kd.string w A l.length l) (hcA : l.length ≤ cA) (hG : GW w) (hm : mayV a b c l = false) :
    Calls Tryd.prog 26 #[.agg #[.int .u32 a, .int .u32 b, .int .u32 c, .slice A l.length cA]] w fun e w' => e = .returned (.tuple #[.string ⟨#[]⟩, .int .i64 70]) ∧ Below w.heap.size w w' := by
  have HA := Aside0.mk hA
  have HG := Aside0.mk hG
  clear hA hG
  go_enter Tryd.func26, Tryd.ntmps26
  go_wp2_with (fail)
  refine (version_May.calls a b c A cA l 70 _ (Kd.C_alloc HA.out _) hcA (by first | exact HG.out | exact GW.below HG.out (by repeat (first | exact Below.refl _ _ | exact HB9.out | exact HB8.out | exact HB7.out | exact HB6.out | exact HB5.out | exact HB4.out | exact HB3.out | exact HB2.out | exact HB1.out | exact HB.out | (refine Below.alloc ?_ (by first | exact HB9.out.size | exact HB8.out.size | exact HB7.out.size | exact HB6.out.size | exact HB5.out.size | exact HB4.out.size | exact HB3.out.size | exact HB2.out.size | exact HB1.out.size | exact HB.out.size | (simp; done) | (simp <;> omega)) _) | apply pw_below_drewN | apply below_drew1 | (refine Below.setCell ?_ (by first | (simp; done) | (simp <;> omega) | omega) _)))) (may_f0 hm)).mono ?_
  rintro e w1 ⟨rfl, hb1⟩
  have HB1 := Aside0.mk (below_step (w := w) (by repeat (first | exact Below.refl _ _ | exact HB9.out | exact HB8.out | exact HB7.out | exact HB6.out | exact HB5.out | exact HB4.out | exact HB3.out | exact HB2.out | exact HB1.out | exact HB.out | (refine Below.alloc ?_ (by first | exact HB9.out.size | exact HB8.out.size | exact HB7.out.size | exact HB6.out.size | exact HB5.out.size | exact HB4.out.size | exact HB3.out.size | exact HB2.out.size | exact HB1.out.size | exact HB.out.size | (simp; done) | (simp <;> omega)) _) | apply pw_below_drewN | apply below_drew1 | (refine Below.setCell ?_ (by first | (simp; done) | (simp <;> omega) | omega) _))) hb1); obtain ⟨hc1, hf1⟩ := bcell hb1; have hz1 := hb1.size; (try simp at hz1); clear hb1
  go_wp2
  exact bodyPost_ret (results_list (rs := [_, _]) Tryd.results26 (by simp) (.tmp (.tmp .nil))) rfl ⟨rfl, HB1.out⟩
set_option maxHeartbeats 8000000 in
set_option maxRecDepth 100000 in
theorem text_nil (na nb nc : Nat) (A : Option Addr) (cA : Nat) (l : List ByteArray) (w : World) (hA : Kd.C Kd.string w A l.length l) (hcA : l.length ≤ cA) (hG : GW w) (hT : GT w) (hm : mayV na nb nc l = true) (h1 : na ≤ 2147483647) (h2 : nb ≤ 2147483647) (h3 : nc ≤ 2147483647) (hn8 : l.length ≤ 8) (hs16 : ∀ x ∈ l, x.size ≤ 16) (hl0 : l = []) :
    Calls Tryd.prog 26 #[.agg #[.int .u32 na, .int .u32 nb, .int .u32 nc, .slice A l.length cA]] w fun e w' => e = .returned (if (textB na nb nc l).size ≤ 128 then .tuple #[.string (textB na nb nc l), .int .i64 0] else .tuple #[.string ⟨#[]⟩, .int .i64 70]) ∧ Below w.heap.size w w' := by
  subst hl0
  have HA := Aside0.mk hA
  have HG := Aside0.mk hG
  have HT := Aside0.mk hT
  clear hA hG hT
  have hwa : IntKind.u64.wrap (na : Int) = (na : Int) := by rw [IntKind.wrap_u64]; omega
  have hva : (na : Int) % 18446744073709551616 = (na : Int) := by omega
  have hwb : IntKind.u64.wrap (nb : Int) = (nb : Int) := by rw [IntKind.wrap_u64]; omega
  have hvb : (nb : Int) % 18446744073709551616 = (nb : Int) := by omega
  have hwc : IntKind.u64.wrap (nc : Int) = (nc : Int) := by rw [IntKind.wrap_u64]; omega
  have hvc : (nc : Int) % 18446744073709551616 = (nc : Int) := by omega
  have hTB : textB na nb nc [] = ⟨(joinL 46 ([nB na, nB nb, nB nc].map (·.data.toList))).toArray⟩ := by
    unfold textB textL
    rw [if_pos rfl, List.append_nil]
    rfl
  obtain ⟨X, hX⟩ : ∃ X : ByteArray, X = (⟨(joinL 46 ([nB na, nB nb, nB nc].map (·.data.toList))).toArray⟩ : ByteArray) := ⟨_, rfl⟩
  rw [hTB, ← hX]
  have HX := Aside0.mk hX
  clear hX hTB
  have i0 : ∀ (a b c : Value) w, (Instr.index 77 (.agg #[a, b, c]) (.int .i64 0)).run Tryd.prog w = .ok a w := fun _ _ _ _ => by kernel_rfl
  have i1 : ∀ (a b c : Value) w, (Instr.index 77 (.agg #[a, b, c]) (.int .i64 1)).run Tryd.prog w = .ok b w := fun _ _ _ _ => by kernel_rfl
  have i2 : ∀ (a b c : Value) w, (Instr.index 77 (.agg #[a, b, c]) (.int .i64 2)).run Tryd.prog w = .ok c w := fun _ _ _ _ => by kernel_rfl
  go_enter Tryd.func26, Tryd.ntmps26
  go_wp2_with (fail)
  refine (version_May.calls na nb nc A cA [] 0 _ (Kd.C_alloc HA.out _) hcA (by first | exact HG.out | exact GW.below HG.out (by repeat (first | exact Below.refl _ _ | exact HB9.out | exact HB8.out | exact HB7.out | exact HB6.out | exact HB5.out | exact HB4.out | exact HB3.out | exact HB2.out | exact HB1.out | exact HB.out | (refine Below.alloc ?_ (by first | exact HB9.out.size | exact HB8.out.size | exact HB7.out.size | exact HB6.out.size | exact HB5.out.size | exact HB4.out.size | exact HB3.out.size | exact HB2.out.size | exact HB1.out.size | exact HB.out.size | (simp; done) | (simp <;> omega)) _) | apply pw_below_drewN | apply below_drew1 | (refine Below.setCell ?_ (by first | (simp; done) | (simp <;> omega) | omega) _)))) (may_f1 hm)).mono ?_
  rintro e w1 ⟨rfl, hb1⟩
  have HD1 := Aside0.mk hb1
  have hza1 : w.heap.size < w1.heap.size := by have := hb1.size; (try simp at this); omega
  have HB1 := Aside0.mk (below_step (w := w) (by repeat (first | exact Below.refl _ _ | exact HB9.out | exact HB8.out | exact HB7.out | exact HB6.out | exact HB5.out | exact HB4.out | exact HB3.out | exact HB2.out | exact HB1.out | exact HB.out | (refine Below.alloc ?_ (by first | exact HB9.out.size | exact HB8.out.size | exact HB7.out.size | exact HB6.out.size | exact HB5.out.size | exact HB4.out.size | exact HB3.out.size | exact HB2.out.size | exact HB1.out.size | exact HB.out.size | (simp; done) | (simp <;> omega)) _) | apply pw_below_drewN | apply below_drew1 | (refine Below.setCell ?_ (by first | (simp; done) | (simp <;> omega) | omega) _))) hb1); obtain ⟨hc1, hf1⟩ := bcell hb1; have hz1 := hb1.size; (try simp at hz1); clear hb1
  have q0_1 : w1.cell? ⟨w.heap.size, 0, none⟩ = some (.int .u32 na) := (HD1.out.cell (p := ⟨w.heap.size, 0, none⟩) (by simp)).trans (by go_simp)
  have q1_1 : w1.cell? ⟨w.heap.size, 1, none⟩ = some (.int .u32 nb) := (HD1.out.cell (p := ⟨w.heap.size, 1, none⟩) (by simp)).trans (by go_simp)
  have q2_1 : w1.cell? ⟨w.heap.size, 2, none⟩ = some (.int .u32 nc) := (HD1.out.cell (p := ⟨w.heap.size, 2, none⟩) (by simp)).trans (by go_simp)
  have q3_1 : w1.cell? ⟨w.heap.size, 3, none⟩ = some (.slice A 0 cA) := (HD1.out.cell (p := ⟨w.heap.size, 3, none⟩) (by simp)).trans (by go_simp)
  clear hc1 hf1
  go_wp2
  refine wp_loop_rounds 4 ?_
  rw [rounds_succ]
  go_wp2_with (fail)
  refine (fmt_calls na (by omega) _ (tab_below HT.out (by repeat (first | exact Below.refl _ _ | exact HB9.out | exact HB8.out | exact HB7.out | exact HB6.out | exact HB5.out | exact HB4.out | exact HB3.out | exact HB2.out | exact HB1.out | exact HB.out | (refine Below.alloc ?_ (by first | exact HB9.out.size | exact HB8.out.size | exact HB7.out.size | exact HB6.out.size | exact HB5.out.size | exact HB4.out.size | exact HB3.out.size | exact HB2.out.size | exact HB1.out.size | exact HB.out.size | (simp; done) | (simp <;> omega)) _) | apply pw_below_drewN | apply below_drew1 | (refine Below.setCell ?_ (by first | (simp; done) | (simp <;> omega) | omega) _))))).mono ?_
  rintro e w2 ⟨rfl, hb2⟩
  have HD2 := Aside0.mk (below_step HD1.out hb2)
  have hza2 : w.heap.size < w2.heap.size := by have := hb2.size; omega
  have HB2 := Aside0.mk (below_step (w := w) HB1.out hb2)
  have q0_2 : w2.cell? ⟨w.heap.size, 0, none⟩ = some (.int .u32 na) := (HD2.out.cell (p := ⟨w.heap.size, 0, none⟩) (by simp)).trans (by go_simp)
  have q1_2 : w2.cell? ⟨w.heap.size, 1, none⟩ = some (.int .u32 nb) := (HD2.out.cell (p := ⟨w.heap.size, 1, none⟩) (by simp)).trans (by go_simp)
  have q2_2 : w2.cell? ⟨w.heap.size, 2, none⟩ = some (.int .u32 nc) := (HD2.out.cell (p := ⟨w.heap.size, 2, none⟩) (by simp)).trans (by go_simp)
  have q3_2 : w2.cell? ⟨w.heap.size, 3, none⟩ = some (.slice A 0 cA) := (HD2.out.cell (p := ⟨w.heap.size, 3, none⟩) (by simp)).trans (by go_simp)
  clear hb2
  go_wp2_with (at_builtin; go_loud (refine Kd.R_append Kd.string (w0 := (w.alloc (.cells #[.int .u32 ↑na, .int .u32 ↑nb, .int .u32 ↑nc, .slice A ([] : List ByteArray).length cA] 32))) ((w.alloc (.cells #[.int .u32 ↑na, .int .u32 ↑nb, .int .u32 ↑nc, .slice A ([] : List ByteArray).length cA] 32))).heap.size rfl (.tmp 21) (.tmp 25) 30 9 (.string ⟨#[]⟩) 16 rfl rfl (by kernel_rfl) rfl (by decide) (by decide) (.slice none 0 0) [] (nB na) [.string (nB na)] (fun _ => True) (fun _ => False) rfl rfl rfl (fun k hk => hk.elim) (fun _ _ => trivial) (Kd.R_nil _ _ _ _ _) HD2.out HD2.out.size (by simp) ?_; intro v3 w3 hR3 hb3 hg3 _))
  have HR3 := Aside0.mk hR3
  have HD3 := Aside0.mk hb3
  have hza3 : w.heap.size < w3.heap.size := by have := hb3.size; simp at this; omega
  have HB3 := Aside0.mk (below_step (w := w) (by repeat (first | exact Below.refl _ _ | exact HB9.out | exact HB8.out | exact HB7.out | exact HB6.out | exact HB5.out | exact HB4.out | exact HB3.out | exact HB2.out | exact HB1.out | exact HB.out | (refine Below.alloc ?_ (by first | exact HB9.out.size | exact HB8.out.size | exact HB7.out.size | exact HB6.out.size | exact HB5.out.size | exact HB4.out.size | exact HB3.out.size | exact HB2.out.size | exact HB1.out.size | exact HB.out.size | (simp; done) | (simp <;> omega)) _) | apply pw_below_drewN | apply below_drew1 | (refine Below.setCell ?_ (by first | (simp; done) | (simp <;> omega) | omega) _))) hb3)
  have q0_3 : w3.cell? ⟨w.heap.size, 0, none⟩ = some (.int .u32 na) := (HD3.out.cell (p := ⟨w.heap.size, 0, none⟩) (by simp)).trans (by go_simp)
  have q1_3 : w3.cell? ⟨w.heap.size, 1, none⟩ = some (.int .u32 nb) := (HD3.out.cell (p := ⟨w.heap.size, 1, none⟩) (by simp)).trans (by go_simp)
  have q2_3 : w3.cell? ⟨w.heap.size, 2, none⟩ = some (.int .u32 nc) := (HD3.out.cell (p := ⟨w.heap.size, 2, none⟩) (by simp)).trans (by go_simp)
  have q3_3 : w3.cell? ⟨w.heap.size, 3, none⟩ = some (.slice A 0 cA) := (HD3.out.cell (p := ⟨w.heap.size, 3, none⟩) (by simp)).trans (by go_simp)
  clear hR3 hb3 hg3
  rw [rounds_succ]
  go_wp2_with (fail)
  refine (fmt_calls nb (by omega) _ (tab_below HT.out (by repeat (first | exact Below.refl _ _ | exact HB9.out | exact HB8.out | exact HB7.out | exact HB6.out | exact HB5.out | exact HB4.out | exact HB3.out | exact HB2.out | exact HB1.out | exact HB.out | (refine Below.alloc ?_ (by first | exact HB9.out.size | exact HB8.out.size | exact HB7.out.size | exact HB6.out.size | exact HB5.out.size | exact HB4.out.size | exact HB3.out.size | exact HB2.out.size | exact HB1.out.size | exact HB.out.size | (simp; done) | (simp <;> omega)) _) | apply pw_below_drewN | apply below_drew1 | (refine Below.setCell ?_ (by first | (simp; done) | (simp <;> omega) | omega) _))))).mono ?_
  rintro e w4 ⟨rfl, hb4⟩
  have HD4 := Aside0.mk (below_step HD3.out hb4)
  have HR4 := Aside0.mk (Kd.R_below HR3.out hb4)
  have hza4 : w.heap.size < w4.heap.size := by have := hb4.size; omega
  have HB4 := Aside0.mk (below_step (w := w) HB3.out hb4)
  have q0_4 : w4.cell? ⟨w.heap.size, 0, none⟩ = some (.int .u32 na) := (HD4.out.cell (p := ⟨w.heap.size, 0, none⟩) (by simp)).trans (by go_simp)
  have q1_4 : w4.cell? ⟨w.heap.size, 1, none⟩ = some (.int .u32 nb) := (HD4.out.cell (p := ⟨w.heap.size, 1, none⟩) (by simp)).trans (by go_simp)
  have q2_4 : w4.cell? ⟨w.heap.size, 2, none⟩ = some (.int .u32 nc) := (HD4.out.cell (p := ⟨w.heap.size, 2, none⟩) (by simp)).trans (by go_simp)
  have q3_4 : w4.cell? ⟨w.heap.size, 3, none⟩ = some (.slice A 0 cA) := (HD4.out.cell (p := ⟨w.heap.size, 3, none⟩) (by simp)).trans (by go_simp)
  clear hb4
  go_wp2_with (at_builtin; go_loud (refine Kd.R_append Kd.string (w0 := (w.alloc (.cells #[.int .u32 ↑na, .int .u32 ↑nb, .int .u32 ↑nc, .slice A ([] : List ByteArray).length cA] 32))) ((w.alloc (.cells #[.int .u32 ↑na, .int .u32 ↑nb, .int .u32 ↑nc, .slice A ([] : List ByteArray).length cA] 32))).heap.size rfl (.tmp 21) (.tmp 25) 30 9 (.string ⟨#[]⟩) 16 rfl rfl (by kernel_rfl) rfl (by decide) (by decide) v3 [nB na] (nB nb) [.string (nB nb)] (fun _ => True) (fun _ => False) rfl rfl rfl (fun k hk => hk.elim) (fun _ _ => trivial) HR4.out HD4.out HD4.out.size (by simp) ?_; intro v5 w5 hR5 hb5 hg5 _))
  have HR5 := Aside0.mk hR5
  have HD5 := Aside0.mk hb5
  have hza5 : w.heap.size < w5.heap.size := by have := hb5.size; simp at this; omega
  have HB5 := Aside0.mk (below_step (w := w) (by repeat (first | exact Below.refl _ _ | exact HB9.out | exact HB8.out | exact HB7.out | exact HB6.out | exact HB5.out | exact HB4.out | exact HB3.out | exact HB2.out | exact HB1.out | exact HB.out | (refine Below.alloc ?_ (by first | exact HB9.out.size | exact HB8.out.size | exact HB7.out.size | exact HB6.out.size | exact HB5.out.size | exact HB4.out.size | exact HB3.out.size | exact HB2.out.size | exact HB1.out.size | exact HB.out.size | (simp; done) | (simp <;> omega)) _) | apply pw_below_drewN | apply below_drew1 | (refine Below.setCell ?_ (by first | (simp; done) | (simp <;> omega) | omega) _))) hb5)
  have q0_5 : w5.cell? ⟨w.heap.size, 0, none⟩ = some (.int .u32 na) := (HD5.out.cell (p := ⟨w.heap.size, 0, none⟩) (by simp)).trans (by go_simp)
  have q1_5 : w5.cell? ⟨w.heap.size, 1, none⟩ = some (.int .u32 nb) := (HD5.out.cell (p := ⟨w.heap.size, 1, none⟩) (by simp)).trans (by go_simp)
  have q2_5 : w5.cell? ⟨w.heap.size, 2, none⟩ = some (.int .u32 nc) := (HD5.out.cell (p := ⟨w.heap.size, 2, none⟩) (by simp)).trans (by go_simp)
  have q3_5 : w5.cell? ⟨w.heap.size, 3, none⟩ = some (.slice A 0 cA) := (HD5.out.cell (p := ⟨w.heap.size, 3, none⟩) (by simp)).trans (by go_simp)
  clear hR5 hb5 hg5
  rw [rounds_succ]
  go_wp2_with (fail)
  refine (fmt_calls nc (by omega) _ (tab_below HT.out (by repeat (first | exact Below.refl _ _ | exact HB9.out | exact HB8.out | exact HB7.out | exact HB6.out | exact HB5.out | exact HB4.out | exact HB3.out | exact HB2.out | exact HB1.out | exact HB.out | (refine Below.alloc ?_ (by first | exact HB9.out.size | exact HB8.out.size | exact HB7.out.size | exact HB6.out.size | exact HB5.out.size | exact HB4.out.size | exact HB3.out.size | exact HB2.out.size | exact HB1.out.size | exact HB.out.size | (simp; done) | (simp <;> omega)) _) | apply pw_below_drewN | apply below_drew1 | (refine Below.setCell ?_ (by first | (simp; done) | (simp <;> omega) | omega) _))))).mono ?_
  rintro e w6 ⟨rfl, hb6⟩
  have HD6 := Aside0.mk (below_step HD5.out hb6)
  have HR6 := Aside0.mk (Kd.R_below HR5.out hb6)
  have hza6 : w.heap.size < w6.heap.size := by have := hb6.size; omega
  have HB6 := Aside0.mk (below_step (w := w) HB5.out hb6)
  have q0_6 : w6.cell? ⟨w.heap.size, 0, none⟩ = some (.int .u32 na) := (HD6.out.cell (p := ⟨w.heap.size, 0, none⟩) (by simp)).trans (by go_simp)
  have q1_6 : w6.cell? ⟨w.heap.size, 1, none⟩ = some (.int .u32 nb) := (HD6.out.cell (p := ⟨w.heap.size, 1, none⟩) (by simp)).trans (by go_simp)
  have q2_6 : w6.cell? ⟨w.heap.size, 2, none⟩ = some (.int .u32 nc) := (HD6.out.cell (p := ⟨w.heap.size, 2, none⟩) (by simp)).trans (by go_simp)
  have q3_6 : w6.cell? ⟨w.heap.size, 3, none⟩ = some (.slice A 0 cA) := (HD6.out.cell (p := ⟨w.heap.size, 3, none⟩) (by simp)).trans (by go_simp)
  clear hb6
  go_wp2_with (at_builtin; go_loud (refine Kd.R_append Kd.string (w0 := (w.alloc (.cells #[.int .u32 ↑na, .int .u32 ↑nb, .int .u32 ↑nc, .slice A ([] : List ByteArray).length cA] 32))) ((w.alloc (.cells #[.int .u32 ↑na, .int .u32 ↑nb, .int .u32 ↑nc, .slice A ([] : List ByteArray).length cA] 32))).heap.size rfl (.tmp 21) (.tmp 25) 30 9 (.string ⟨#[]⟩) 16 rfl rfl (by kernel_rfl) rfl (by decide) (by decide) v5 [nB na, nB nb] (nB nc) [.string (nB nc)] (fun _ => True) (fun _ => False) rfl rfl rfl (fun k hk => hk.elim) (fun _ _ => trivial) HR6.out HD6.out HD6.out.size (by simp) ?_; intro v7 w7 hR7 hb7 hg7 _))
  have HR7 := Aside0.mk hR7
  have HD7 := Aside0.mk hb7
  have hza7 : w.heap.size < w7.heap.size := by have := hb7.size; simp at this; omega
  have HB7 := Aside0.mk (below_step (w := w) (by repeat (first | exact Below.refl _ _ | exact HB9.out | exact HB8.out | exact HB7.out | exact HB6.out | exact HB5.out | exact HB4.out | exact HB3.out | exact HB2.out | exact HB1.out | exact HB.out | (refine Below.alloc ?_ (by first | exact HB9.out.size | exact HB8.out.size | exact HB7.out.size | exact HB6.out.size | exact HB5.out.size | exact HB4.out.size | exact HB3.out.size | exact HB2.out.size | exact HB1.out.size | exact HB.out.size | (simp; done) | (simp <;> omega)) _) | apply pw_below_drewN | apply below_drew1 | (refine Below.setCell ?_ (by first | (simp; done) | (simp <;> omega) | omega) _))) hb7)
  have q0_7 : w7.cell? ⟨w.heap.size, 0, none⟩ = some (.int .u32 na) := (HD7.out.cell (p := ⟨w.heap.size, 0, none⟩) (by simp)).trans (by go_simp)
  have q1_7 : w7.cell? ⟨w.heap.size, 1, none⟩ = some (.int .u32 nb) := (HD7.out.cell (p := ⟨w.heap.size, 1, none⟩) (by simp)).trans (by go_simp)
  have q2_7 : w7.cell? ⟨w.heap.size, 2, none⟩ = some (.int .u32 nc) := (HD7.out.cell (p := ⟨w.heap.size, 2, none⟩) (by simp)).trans (by go_simp)
  have q3_7 : w7.cell? ⟨w.heap.size, 3, none⟩ = some (.slice A 0 cA) := (HD7.out.cell (p := ⟨w.heap.size, 3, none⟩) (by simp)).trans (by go_simp)
  clear hR7 hb7 hg7
  rw [rounds_succ]
  obtain ⟨A9, k9, he9, hk9, hC9⟩ := Kd.R_reads HR7.out
  subst he9
  have HC9 := Aside0.mk hC9
  clear hC9
  go_wp2_with (fail)
  have hJ : ∀ x ∈ [nB na, nB nb, nB nc], x.size ≤ 128 := by
    intro x hx
    simp only [List.mem_cons, List.not_mem_nil, or_false] at hx
    rcases hx with rfl | rfl | rfl <;> exact nB_size (by omega)
  refine (join_calls A9 k9 [nB na, nB nb, nB nc] _ HC9.out hk9 (by simp) hJ (by simp)).mono ?_
  rintro e w8 ⟨rfl, hb8⟩
  have HD8 := Aside0.mk (below_step HD7.out hb8)
  have hza8 : w.heap.size < w8.heap.size := by have := hb8.size; omega
  have HB8 := Aside0.mk (below_step (w := w) HB7.out hb8)
  have q0_8 : w8.cell? ⟨w.heap.size, 0, none⟩ = some (.int .u32 na) := (HD8.out.cell (p := ⟨w.heap.size, 0, none⟩) (by simp)).trans (by go_simp)
  have q1_8 : w8.cell? ⟨w.heap.size, 1, none⟩ = some (.int .u32 nb) := (HD8.out.cell (p := ⟨w.heap.size, 1, none⟩) (by simp)).trans (by go_simp)
  have q2_8 : w8.cell? ⟨w.heap.size, 2, none⟩ = some (.int .u32 nc) := (HD8.out.cell (p := ⟨w.heap.size, 2, none⟩) (by simp)).trans (by go_simp)
  have q3_8 : w8.cell? ⟨w.heap.size, 3, none⟩ = some (.slice A 0 cA) := (HD8.out.cell (p := ⟨w.heap.size, 3, none⟩) (by simp)).trans (by go_simp)
  clear hb8
  have hS := join_size [nB na, nB nb, nB nc] 3 (by simp) hJ
  generalize (⟨(joinL 46 ([nB na, nB nb, nB nc].map (·.data.toList))).toArray⟩ : ByteArray) = S at HX hS ⊢
  have hX : S = X := HX.out.symm
  clear HX
  subst hX
  by_cases hsz : S.size ≤ 128
  · have hsz' : ¬ (128 : Int) < (S.size : Int) := by omega
    go_wp2
    exact bodyPost_ret (results_list (rs := [_, _]) Tryd.results26 (by simp) (.tmp (.tmp .nil))) rfl ⟨by first | rfl | (rw [if_pos hsz]; rfl), by repeat (first | exact Below.refl _ _ | exact HB9.out | exact HB8.out | exact HB7.out | exact HB6.out | exact HB5.out | exact HB4.out | exact HB3.out | exact HB2.out | exact HB1.out | exact HB.out | (refine Below.alloc ?_ (by first | exact HB9.out.size | exact HB8.out.size | exact HB7.out.size | exact HB6.out.size | exact HB5.out.size | exact HB4.out.size | exact HB3.out.size | exact HB2.out.size | exact HB1.out.size | exact HB.out.size | (simp; done) | (simp <;> omega)) _) | apply pw_below_drewN | apply below_drew1 | (refine Below.setCell ?_ (by first | (simp; done) | (simp <;> omega) | omega) _))⟩
  · have hsz' : (128 : Int) < (S.size : Int) := by omega
    go_wp2
    exact bodyPost_ret (results_list (rs := [_, _]) Tryd.results26 (by simp) (.tmp (.tmp .nil))) rfl ⟨by first | rfl | (rw [if_neg hsz]; rfl), by repeat (first | exact Below.refl _ _ | exact HB9.out | exact HB8.out | exact HB7.out | exact HB6.out | exact HB5.out | exact HB4.out | exact HB3.out | exact HB2.out | exact HB1.out | exact HB.out | (refine Below.alloc ?_ (by first | exact HB9.out.size | exact HB8.out.size | exact HB7.out.size | exact HB6.out.size | exact HB5.out.size | exact HB4.out.size | exact HB3.out.size | exact HB2.out.size | exact HB1.out.size | exact HB.out.size | (simp; done) | (simp <;> omega)) _) | apply pw_below_drewN | apply below_drew1 | (refine Below.setCell ?_ (by first | (simp; done) | (simp <;> omega) | omega) _))⟩
set_option maxHeartbeats 8000000 in
set_option maxRecDepth 100000 in
theorem text_pre (na nb nc : Nat) (A : Option Addr) (cA : Nat) (l : List ByteArray) (w : World) (hA : Kd.C Kd.string w A l.length l) (hcA : l.length ≤ cA) (hG : GW w) (hT : GT w) (hm : mayV na nb nc l = true) (h1 : na ≤ 2147483647) (h2 : nb ≤ 2147483647) (h3 : nc ≤ 2147483647) (hn8 : l.length ≤ 8) (hs16 : ∀ x ∈ l, x.size ≤ 16) (hl0 : 0 < l.length) :
    Calls Tryd.prog 26 #[.agg #[.int .u32 na, .int .u32 nb, .int .u32 nc, .slice A l.length cA]] w fun e w' => e = .returned (if (textB na nb nc l).size ≤ 128 then .tuple #[.string (textB na nb nc l), .int .i64 0] else .tuple #[.string ⟨#[]⟩, .int .i64 70]) ∧ Below w.heap.size w w' := by
  have HA := Aside0.mk hA
  have HG := Aside0.mk hG
  have HT := Aside0.mk hT
  clear hA hG hT
  have hwa : IntKind.u64.wrap (na : Int) = (na : Int) := by rw [IntKind.wrap_u64]; omega
  have hva : (na : Int) % 18446744073709551616 = (na : Int) := by omega
  have hwb : IntKind.u64.wrap (nb : Int) = (nb : Int) := by rw [IntKind.wrap_u64]; omega
  have hvb : (nb : Int) % 18446744073709551616 = (nb : Int) := by omega
  have hwc : IntKind.u64.wrap (nc : Int) = (nc : Int) := by rw [IntKind.wrap_u64]; omega
  have hvc : (nc : Int) % 18446744073709551616 = (nc : Int) := by omega
  have hTB : textB na nb nc l = (⟨(joinL 46 ([nB na, nB nb, nB nc].map (·.data.toList))).toArray⟩ : ByteArray) ++ (⟨#[45]⟩ ++ ⟨(joinL 46 (l.map (·.data.toList))).toArray⟩) := by
    rw [show (⟨#[45]⟩ : ByteArray) = ⟨([45] : List UInt8).toArray⟩ from rfl, bapp, bapp]
    unfold textB textL
    rw [if_neg (fun h => by rw [h] at hl0; simp at hl0)]
    rfl
  obtain ⟨X, hX⟩ : ∃ X : ByteArray, X = (⟨(joinL 46 ([nB na, nB nb, nB nc].map (·.data.toList))).toArray⟩ : ByteArray) ++ (⟨#[45]⟩ ++ ⟨(joinL 46 (l.map (·.data.toList))).toArray⟩) := ⟨_, rfl⟩
  rw [hTB, ← hX]
  have HX := Aside0.mk hX
  clear hX hTB
  have i0 : ∀ (a b c : Value) w, (Instr.index 77 (.agg #[a, b, c]) (.int .i64 0)).run Tryd.prog w = .ok a w := fun _ _ _ _ => by kernel_rfl
  have i1 : ∀ (a b c : Value) w, (Instr.index 77 (.agg #[a, b, c]) (.int .i64 1)).run Tryd.prog w = .ok b w := fun _ _ _ _ => by kernel_rfl
  have i2 : ∀ (a b c : Value) w, (Instr.index 77 (.agg #[a, b, c]) (.int .i64 2)).run Tryd.prog w = .ok c w := fun _ _ _ _ => by kernel_rfl
  go_enter Tryd.func26, Tryd.ntmps26
  go_wp2_with (fail)
  refine (version_May.calls na nb nc A cA l 0 _ (Kd.C_alloc HA.out _) hcA (by first | exact HG.out | exact GW.below HG.out (by repeat (first | exact Below.refl _ _ | exact HB9.out | exact HB8.out | exact HB7.out | exact HB6.out | exact HB5.out | exact HB4.out | exact HB3.out | exact HB2.out | exact HB1.out | exact HB.out | (refine Below.alloc ?_ (by first | exact HB9.out.size | exact HB8.out.size | exact HB7.out.size | exact HB6.out.size | exact HB5.out.size | exact HB4.out.size | exact HB3.out.size | exact HB2.out.size | exact HB1.out.size | exact HB.out.size | (simp; done) | (simp <;> omega)) _) | apply pw_below_drewN | apply below_drew1 | (refine Below.setCell ?_ (by first | (simp; done) | (simp <;> omega) | omega) _)))) (may_f1 hm)).mono ?_
  rintro e w1 ⟨rfl, hb1⟩
  have HD1 := Aside0.mk hb1
  have hza1 : w.heap.size < w1.heap.size := by have := hb1.size; (try simp at this); omega
  have HB1 := Aside0.mk (below_step (w := w) (by repeat (first | exact Below.refl _ _ | exact HB9.out | exact HB8.out | exact HB7.out | exact HB6.out | exact HB5.out | exact HB4.out | exact HB3.out | exact HB2.out | exact HB1.out | exact HB.out | (refine Below.alloc ?_ (by first | exact HB9.out.size | exact HB8.out.size | exact HB7.out.size | exact HB6.out.size | exact HB5.out.size | exact HB4.out.size | exact HB3.out.size | exact HB2.out.size | exact HB1.out.size | exact HB.out.size | (simp; done) | (simp <;> omega)) _) | apply pw_below_drewN | apply below_drew1 | (refine Below.setCell ?_ (by first | (simp; done) | (simp <;> omega) | omega) _))) hb1); obtain ⟨hc1, hf1⟩ := bcell hb1; have hz1 := hb1.size; (try simp at hz1); clear hb1
  have q0_1 : w1.cell? ⟨w.heap.size, 0, none⟩ = some (.int .u32 na) := (HD1.out.cell (p := ⟨w.heap.size, 0, none⟩) (by simp)).trans (by go_simp)
  have q1_1 : w1.cell? ⟨w.heap.size, 1, none⟩ = some (.int .u32 nb) := (HD1.out.cell (p := ⟨w.heap.size, 1, none⟩) (by simp)).trans (by go_simp)
  have q2_1 : w1.cell? ⟨w.heap.size, 2, none⟩ = some (.int .u32 nc) := (HD1.out.cell (p := ⟨w.heap.size, 2, none⟩) (by simp)).trans (by go_simp)
  have q3_1 : w1.cell? ⟨w.heap.size, 3, none⟩ = some (.slice A l.length cA) := (HD1.out.cell (p := ⟨w.heap.size, 3, none⟩) (by simp)).trans (by go_simp)
  clear hc1 hf1
  go_wp2
  refine wp_loop_rounds 4 ?_
  rw [rounds_succ]
  go_wp2_with (fail)
  refine (fmt_calls na (by omega) _ (tab_below HT.out (by repeat (first | exact Below.refl _ _ | exact HB9.out | exact HB8.out | exact HB7.out | exact HB6.out | exact HB5.out | exact HB4.out | exact HB3.out | exact HB2.out | exact HB1.out | exact HB.out | (refine Below.alloc ?_ (by first | exact HB9.out.size | exact HB8.out.size | exact HB7.out.size | exact HB6.out.size | exact HB5.out.size | exact HB4.out.size | exact HB3.out.size | exact HB2.out.size | exact HB1.out.size | exact HB.out.size | (simp; done) | (simp <;> omega)) _) | apply pw_below_drewN | apply below_drew1 | (refine Below.setCell ?_ (by first | (simp; done) | (simp <;> omega) | omega) _))))).mono ?_
  rintro e w2 ⟨rfl, hb2⟩
  have HD2 := Aside0.mk (below_step HD1.out hb2)
  have hza2 : w.heap.size < w2.heap.size := by have := hb2.size; omega
  have HB2 := Aside0.mk (below_step (w := w) HB1.out hb2)
  have q0_2 : w2.cell? ⟨w.heap.size, 0, none⟩ = some (.int .u32 na) := (HD2.out.cell (p := ⟨w.heap.size, 0, none⟩) (by simp)).trans (by go_simp)
  have q1_2 : w2.cell? ⟨w.heap.size, 1, none⟩ = some (.int .u32 nb) := (HD2.out.cell (p := ⟨w.heap.size, 1, none⟩) (by simp)).trans (by go_simp)
  have q2_2 : w2.cell? ⟨w.heap.size, 2, none⟩ = some (.int .u32 nc) := (HD2.out.cell (p := ⟨w.heap.size, 2, none⟩) (by simp)).trans (by go_simp)
  have q3_2 : w2.cell? ⟨w.heap.size, 3, none⟩ = some (.slice A l.length cA) := (HD2.out.cell (p := ⟨w.heap.size, 3, none⟩) (by simp)).trans (by go_simp)
  clear hb2
  go_wp2_with (at_builtin; go_loud (refine Kd.R_append Kd.string (w0 := (w.alloc (.cells #[.int .u32 ↑na, .int .u32 ↑nb, .int .u32 ↑nc, .slice A l.length cA] 32))) ((w.alloc (.cells #[.int .u32 ↑na, .int .u32 ↑nb, .int .u32 ↑nc, .slice A l.length cA] 32))).heap.size rfl (.tmp 21) (.tmp 25) 30 9 (.string ⟨#[]⟩) 16 rfl rfl (by kernel_rfl) rfl (by decide) (by decide) (.slice none 0 0) [] (nB na) [.string (nB na)] (fun _ => True) (fun _ => False) rfl rfl rfl (fun k hk => hk.elim) (fun _ _ => trivial) (Kd.R_nil _ _ _ _ _) HD2.out HD2.out.size (by simp) ?_; intro v3 w3 hR3 hb3 hg3 _))
  have HR3 := Aside0.mk hR3
  have HD3 := Aside0.mk hb3
  have hza3 : w.heap.size < w3.heap.size := by have := hb3.size; simp at this; omega
  have HB3 := Aside0.mk (below_step (w := w) (by repeat (first | exact Below.refl _ _ | exact HB9.out | exact HB8.out | exact HB7.out | exact HB6.out | exact HB5.out | exact HB4.out | exact HB3.out | exact HB2.out | exact HB1.out | exact HB.out | (refine Below.alloc ?_ (by first | exact HB9.out.size | exact HB8.out.size | exact HB7.out.size | exact HB6.out.size | exact HB5.out.size | exact HB4.out.size | exact HB3.out.size | exact HB2.out.size | exact HB1.out.size | exact HB.out.size | (simp; done) | (simp <;> omega)) _) | apply pw_below_drewN | apply below_drew1 | (refine Below.setCell ?_ (by first | (simp; done) | (simp <;> omega) | omega) _))) hb3)
  have q0_3 : w3.cell? ⟨w.heap.size, 0, none⟩ = some (.int .u32 na) := (HD3.out.cell (p := ⟨w.heap.size, 0, none⟩) (by simp)).trans (by go_simp)
  have q1_3 : w3.cell? ⟨w.heap.size, 1, none⟩ = some (.int .u32 nb) := (HD3.out.cell (p := ⟨w.heap.size, 1, none⟩) (by simp)).trans (by go_simp)
  have q2_3 : w3.cell? ⟨w.heap.size, 2, none⟩ = some (.int .u32 nc) := (HD3.out.cell (p := ⟨w.heap.size, 2, none⟩) (by simp)).trans (by go_simp)
  have q3_3 : w3.cell? ⟨w.heap.size, 3, none⟩ = some (.slice A l.length cA) := (HD3.out.cell (p := ⟨w.heap.size, 3, none⟩) (by simp)).trans (by go_simp)
  clear hR3 hb3 hg3
  rw [rounds_succ]
  go_wp2_with (fail)
  refine (fmt_calls nb (by omega) _ (tab_below HT.out (by repeat (first | exact Below.refl _ _ | exact HB9.out | exact HB8.out | exact HB7.out | exact HB6.out | exact HB5.out | exact HB4.out | exact HB3.out | exact HB2.out | exact HB1.out | exact HB.out | (refine Below.alloc ?_ (by first | exact HB9.out.size | exact HB8.out.size | exact HB7.out.size | exact HB6.out.size | exact HB5.out.size | exact HB4.out.size | exact HB3.out.size | exact HB2.out.size | exact HB1.out.size | exact HB.out.size | (simp; done) | (simp <;> omega)) _) | apply pw_below_drewN | apply below_drew1 | (refine Below.setCell ?_ (by first | (simp; done) | (simp <;> omega) | omega) _))))).mono ?_
  rintro e w4 ⟨rfl, hb4⟩
  have HD4 := Aside0.mk (below_step HD3.out hb4)
  have HR4 := Aside0.mk (Kd.R_below HR3.out hb4)
  have hza4 : w.heap.size < w4.heap.size := by have := hb4.size; omega
  have HB4 := Aside0.mk (below_step (w := w) HB3.out hb4)
  have q0_4 : w4.cell? ⟨w.heap.size, 0, none⟩ = some (.int .u32 na) := (HD4.out.cell (p := ⟨w.heap.size, 0, none⟩) (by simp)).trans (by go_simp)
  have q1_4 : w4.cell? ⟨w.heap.size, 1, none⟩ = some (.int .u32 nb) := (HD4.out.cell (p := ⟨w.heap.size, 1, none⟩) (by simp)).trans (by go_simp)
  have q2_4 : w4.cell? ⟨w.heap.size, 2, none⟩ = some (.int .u32 nc) := (HD4.out.cell (p := ⟨w.heap.size, 2, none⟩) (by simp)).trans (by go_simp)
  have q3_4 : w4.cell? ⟨w.heap.size, 3, none⟩ = some (.slice A l.length cA) := (HD4.out.cell (p := ⟨w.heap.size, 3, none⟩) (by simp)).trans (by go_simp)
  clear hb4
  go_wp2_with (at_builtin; go_loud (refine Kd.R_append Kd.string (w0 := (w.alloc (.cells #[.int .u32 ↑na, .int .u32 ↑nb, .int .u32 ↑nc, .slice A l.length cA] 32))) ((w.alloc (.cells #[.int .u32 ↑na, .int .u32 ↑nb, .int .u32 ↑nc, .slice A l.length cA] 32))).heap.size rfl (.tmp 21) (.tmp 25) 30 9 (.string ⟨#[]⟩) 16 rfl rfl (by kernel_rfl) rfl (by decide) (by decide) v3 [nB na] (nB nb) [.string (nB nb)] (fun _ => True) (fun _ => False) rfl rfl rfl (fun k hk => hk.elim) (fun _ _ => trivial) HR4.out HD4.out HD4.out.size (by simp) ?_; intro v5 w5 hR5 hb5 hg5 _))
  have HR5 := Aside0.mk hR5
  have HD5 := Aside0.mk hb5
  have hza5 : w.heap.size < w5.heap.size := by have := hb5.size; simp at this; omega
  have HB5 := Aside0.mk (below_step (w := w) (by repeat (first | exact Below.refl _ _ | exact HB9.out | exact HB8.out | exact HB7.out | exact HB6.out | exact HB5.out | exact HB4.out | exact HB3.out | exact HB2.out | exact HB1.out | exact HB.out | (refine Below.alloc ?_ (by first | exact HB9.out.size | exact HB8.out.size | exact HB7.out.size | exact HB6.out.size | exact HB5.out.size | exact HB4.out.size | exact HB3.out.size | exact HB2.out.size | exact HB1.out.size | exact HB.out.size | (simp; done) | (simp <;> omega)) _) | apply pw_below_drewN | apply below_drew1 | (refine Below.setCell ?_ (by first | (simp; done) | (simp <;> omega) | omega) _))) hb5)
  have q0_5 : w5.cell? ⟨w.heap.size, 0, none⟩ = some (.int .u32 na) := (HD5.out.cell (p := ⟨w.heap.size, 0, none⟩) (by simp)).trans (by go_simp)
  have q1_5 : w5.cell? ⟨w.heap.size, 1, none⟩ = some (.int .u32 nb) := (HD5.out.cell (p := ⟨w.heap.size, 1, none⟩) (by simp)).trans (by go_simp)
  have q2_5 : w5.cell? ⟨w.heap.size, 2, none⟩ = some (.int .u32 nc) := (HD5.out.cell (p := ⟨w.heap.size, 2, none⟩) (by simp)).trans (by go_simp)
  have q3_5 : w5.cell? ⟨w.heap.size, 3, none⟩ = some (.slice A l.length cA) := (HD5.out.cell (p := ⟨w.heap.size, 3, none⟩) (by simp)).trans (by go_simp)
  clear hR5 hb5 hg5
  rw [rounds_succ]
  go_wp2_with (fail)
  refine (fmt_calls nc (by omega) _ (tab_below HT.out (by repeat (first | exact Below.refl _ _ | exact HB9.out | exact HB8.out | exact HB7.out | exact HB6.out | exact HB5.out | exact HB4.out | exact HB3.out | exact HB2.out | exact HB1.out | exact HB.out | (refine Below.alloc ?_ (by first | exact HB9.out.size | exact HB8.out.size | exact HB7.out.size | exact HB6.out.size | exact HB5.out.size | exact HB4.out.size | exact HB3.out.size | exact HB2.out.size | exact HB1.out.size | exact HB.out.size | (simp; done) | (simp <;> omega)) _) | apply pw_below_drewN | apply below_drew1 | (refine Below.setCell ?_ (by first | (simp; done) | (simp <;> omega) | omega) _))))).mono ?_
  rintro e w6 ⟨rfl, hb6⟩
  have HD6 := Aside0.mk (below_step HD5.out hb6)
  have HR6 := Aside0.mk (Kd.R_below HR5.out hb6)
  have hza6 : w.heap.size < w6.heap.size := by have := hb6.size; omega
  have HB6 := Aside0.mk (below_step (w := w) HB5.out hb6)
  have q0_6 : w6.cell? ⟨w.heap.size, 0, none⟩ = some (.int .u32 na) := (HD6.out.cell (p := ⟨w.heap.size, 0, none⟩) (by simp)).trans (by go_simp)
  have q1_6 : w6.cell? ⟨w.heap.size, 1, none⟩ = some (.int .u32 nb) := (HD6.out.cell (p := ⟨w.heap.size, 1, none⟩) (by simp)).trans (by go_simp)
  have q2_6 : w6.cell? ⟨w.heap.size, 2, none⟩ = some (.int .u32 nc) := (HD6.out.cell (p := ⟨w.heap.size, 2, none⟩) (by simp)).trans (by go_simp)
  have q3_6 : w6.cell? ⟨w.heap.size, 3, none⟩ = some (.slice A l.length cA) := (HD6.out.cell (p := ⟨w.heap.size, 3, none⟩) (by simp)).trans (by go_simp)
  clear hb6
  go_wp2_with (at_builtin; go_loud (refine Kd.R_append Kd.string (w0 := (w.alloc (.cells #[.int .u32 ↑na, .int .u32 ↑nb, .int .u32 ↑nc, .slice A l.length cA] 32))) ((w.alloc (.cells #[.int .u32 ↑na, .int .u32 ↑nb, .int .u32 ↑nc, .slice A l.length cA] 32))).heap.size rfl (.tmp 21) (.tmp 25) 30 9 (.string ⟨#[]⟩) 16 rfl rfl (by kernel_rfl) rfl (by decide) (by decide) v5 [nB na, nB nb] (nB nc) [.string (nB nc)] (fun _ => True) (fun _ => False) rfl rfl rfl (fun k hk => hk.elim) (fun _ _ => trivial) HR6.out HD6.out HD6.out.size (by simp) ?_; intro v7 w7 hR7 hb7 hg7 _))
  have HR7 := Aside0.mk hR7
  have HD7 := Aside0.mk hb7
  have hza7 : w.heap.size < w7.heap.size := by have := hb7.size; simp at this; omega
  have HB7 := Aside0.mk (below_step (w := w) (by repeat (first | exact Below.refl _ _ | exact HB9.out | exact HB8.out | exact HB7.out | exact HB6.out | exact HB5.out | exact HB4.out | exact HB3.out | exact HB2.out | exact HB1.out | exact HB.out | (refine Below.alloc ?_ (by first | exact HB9.out.size | exact HB8.out.size | exact HB7.out.size | exact HB6.out.size | exact HB5.out.size | exact HB4.out.size | exact HB3.out.size | exact HB2.out.size | exact HB1.out.size | exact HB.out.size | (simp; done) | (simp <;> omega)) _) | apply pw_below_drewN | apply below_drew1 | (refine Below.setCell ?_ (by first | (simp; done) | (simp <;> omega) | omega) _))) hb7)
  have q0_7 : w7.cell? ⟨w.heap.size, 0, none⟩ = some (.int .u32 na) := (HD7.out.cell (p := ⟨w.heap.size, 0, none⟩) (by simp)).trans (by go_simp)
  have q1_7 : w7.cell? ⟨w.heap.size, 1, none⟩ = some (.int .u32 nb) := (HD7.out.cell (p := ⟨w.heap.size, 1, none⟩) (by simp)).trans (by go_simp)
  have q2_7 : w7.cell? ⟨w.heap.size, 2, none⟩ = some (.int .u32 nc) := (HD7.out.cell (p := ⟨w.heap.size, 2, none⟩) (by simp)).trans (by go_simp)
  have q3_7 : w7.cell? ⟨w.heap.size, 3, none⟩ = some (.slice A l.length cA) := (HD7.out.cell (p := ⟨w.heap.size, 3, none⟩) (by simp)).trans (by go_simp)
  clear hR7 hb7 hg7
  rw [rounds_succ]
  obtain ⟨A9, k9, he9, hk9, hC9⟩ := Kd.R_reads HR7.out
  subst he9
  have HC9 := Aside0.mk hC9
  clear hC9
  go_wp2_with (fail)
  have hJ : ∀ x ∈ [nB na, nB nb, nB nc], x.size ≤ 128 := by
    intro x hx
    simp only [List.mem_cons, List.not_mem_nil, or_false] at hx
    rcases hx with rfl | rfl | rfl <;> exact nB_size (by omega)
  refine (join_calls A9 k9 [nB na, nB nb, nB nc] _ HC9.out hk9 (by simp) hJ (by simp)).mono ?_
  rintro e w8 ⟨rfl, hb8⟩
  have HD8 := Aside0.mk (below_step HD7.out hb8)
  have hza8 : w.heap.size < w8.heap.size := by have := hb8.size; omega
  have HB8 := Aside0.mk (below_step (w := w) HB7.out hb8)
  have q0_8 : w8.cell? ⟨w.heap.size, 0, none⟩ = some (.int .u32 na) := (HD8.out.cell (p := ⟨w.heap.size, 0, none⟩) (by simp)).trans (by go_simp)
  have q1_8 : w8.cell? ⟨w.heap.size, 1, none⟩ = some (.int .u32 nb) := (HD8.out.cell (p := ⟨w.heap.size, 1, none⟩) (by simp)).trans (by go_simp)
  have q2_8 : w8.cell? ⟨w.heap.size, 2, none⟩ = some (.int .u32 nc) := (HD8.out.cell (p := ⟨w.heap.size, 2, none⟩) (by simp)).trans (by go_simp)
  have q3_8 : w8.cell? ⟨w.heap.size, 3, none⟩ = some (.slice A l.length cA) := (HD8.out.cell (p := ⟨w.heap.size, 3, none⟩) (by simp)).trans (by go_simp)
  clear hb8
  have hS := join_size [nB na, nB nb, nB nc] 3 (by simp) hJ
  generalize (⟨(joinL 46 ([nB na, nB nb, nB nc].map (·.data.toList))).toArray⟩ : ByteArray) = S at HX hS ⊢
  have hl0' : (0 : Int) < (l.length : Int) := by omega
  go_wp2_with (fail)
  refine (join_calls A cA l _ (Kd.C_below HA.out HB8.out) hcA (by omega) (fun x hx => by have := hs16 x hx; omega) hl0).mono ?_
  rintro e w9 ⟨rfl, hb9⟩
  have HB9 := Aside0.mk (below_step (w := w) HB8.out hb9)
  clear hb9
  have hTz := join_size l 8 hn8 (fun x hx => by have := hs16 x hx; omega)
  generalize (⟨(joinL 46 (l.map (·.data.toList))).toArray⟩ : ByteArray) = T at HX hTz ⊢
  have hX : S ++ (⟨#[45]⟩ ++ T) = X := HX.out.symm
  clear HX
  by_cases hsz : X.size ≤ 128
  · have hsz' : ¬ (128 : Int) < (X.size : Int) := by omega
    go_wp2
    exact bodyPost_ret (results_list (rs := [_, _]) Tryd.results26 (by simp) (.tmp (.tmp .nil))) rfl ⟨by first | rfl | (rw [if_pos hsz]; rfl), by repeat (first | exact Below.refl _ _ | exact HB9.out | exact HB8.out | exact HB7.out | exact HB6.out | exact HB5.out | exact HB4.out | exact HB3.out | exact HB2.out | exact HB1.out | exact HB.out | (refine Below.alloc ?_ (by first | exact HB9.out.size | exact HB8.out.size | exact HB7.out.size | exact HB6.out.size | exact HB5.out.size | exact HB4.out.size | exact HB3.out.size | exact HB2.out.size | exact HB1.out.size | exact HB.out.size | (simp; done) | (simp <;> omega)) _) | apply pw_below_drewN | apply below_drew1 | (refine Below.setCell ?_ (by first | (simp; done) | (simp <;> omega) | omega) _))⟩
  · have hsz' : (128 : Int) < (X.size : Int) := by omega
    go_wp2
    exact bodyPost_ret (results_list (rs := [_, _]) Tryd.results26 (by simp) (.tmp (.tmp .nil))) rfl ⟨by first | rfl | (rw [if_neg hsz]; rfl), by repeat (first | exact Below.refl _ _ | exact HB9.out | exact HB8.out | exact HB7.out | exact HB6.out | exact HB5.out | exact HB4.out | exact HB3.out | exact HB2.out | exact HB1.out | exact HB.out | (refine Below.alloc ?_ (by first | exact HB9.out.size | exact HB8.out.size | exact HB7.out.size | exact HB6.out.size | exact HB5.out.size | exact HB4.out.size | exact HB3.out.size | exact HB2.out.size | exact HB1.out.size | exact HB.out.size | (simp; done) | (simp <;> omega)) _) | apply pw_below_drewN | apply below_drew1 | (refine Below.setCell ?_ (by first | (simp; done) | (simp <;> omega) | omega) _))⟩
def textR (a b c : Int) (l : List ByteArray) : ByteArray × Int := if mayV a b c l = true ∧ (textB a b c l).size ≤ 128 then (textB a b c l, 0) else (⟨#[]⟩, 70)
theorem text_calls (a b c : Int) (A : Option Addr) (cA : Nat) (l : List ByteArray) (w : World) (ha : 0 ≤ a) (hb : 0 ≤ b) (hc : 0 ≤ c) (hA : Kd.C Kd.string w A l.length l) (hcA : l.length ≤ cA) (hG : GW w) (hT : GT w) :
    Calls Tryd.prog 26 #[.agg #[.int .u32 a, .int .u32 b, .int .u32 c, .slice A l.length cA]] w fun e w' => e = .returned (.tuple #[.string (textR a b c l).1, .int .i64 (textR a b c l).2]) ∧ Below w.heap.size w w' := by
  cases hm : mayV a b c l
  case false =>
    have hr : textR a b c l = (⟨#[]⟩, 70) := if_neg (fun h => by rw [hm] at h; exact Bool.false_ne_true h.1)
    rw [hr]
    exact text_no a b c A cA l w hA hcA hG hm
  obtain ⟨na, rfl⟩ := Int.eq_ofNat_of_zero_le ha
  obtain ⟨nb, rfl⟩ := Int.eq_ofNat_of_zero_le hb
  obtain ⟨nc, rfl⟩ := Int.eq_ofNat_of_zero_le hc
  have hp := may_parts hm
  have hbd : (na : Int) ≤ 2147483647 ∧ (nb : Int) ≤ 2147483647 ∧ (nc : Int) ≤ 2147483647 := by
    unfold mayV at hm
    simp only [Bool.and_eq_true, decide_eq_true_eq] at hm
    exact ⟨hm.1.1, hm.1.2.1, hm.1.2.2.1⟩
  have fin : ∀ e w', (e = Ending.returned (if (textB na nb nc l).size ≤ 128 then .tuple #[.string (textB na nb nc l), .int .i64 0] else .tuple #[.string ⟨#[]⟩, .int .i64 70]) ∧ Below w.heap.size w w') → (e = .returned (.tuple #[.string (textR na nb nc l).1, .int .i64 (textR na nb nc l).2]) ∧ Below w.heap.size w w') := by
    rintro e w' ⟨rfl, h⟩
    refine ⟨?_, h⟩
    by_cases hs : (textB na nb nc l).size ≤ 128
    · have hr : textR na nb nc l = (textB na nb nc l, 0) := if_pos ⟨hm, hs⟩
      rw [hr, if_pos hs]
    · have hr : textR na nb nc l = (⟨#[]⟩, 70) := if_neg (fun h => hs h.2)
      rw [hr, if_neg hs]
  by_cases h0 : l = []
  · exact (text_nil na nb nc A cA l w hA hcA hG hT hm (by omega) (by omega) (by omega) hp.1 hp.2 h0).mono fin
  · exact (text_pre na nb nc A cA l w hA hcA hG hT hm (by omega) (by omega) (by omega) hp.1 hp.2 (List.length_pos_iff.2 h0)).mono fin
set_option maxHeartbeats 8000000 in
set_option maxRecDepth 100000 in
theorem is_calls (s : ByteArray) (w : World) (hG : GW w) : Calls Tryd.prog 30 #[.string s] w fun e w' => e = .returned (.bool (verOf s).isSome) ∧ Below w.heap.size w w' := by
  have HG := Aside0.mk hG
  clear hG
  cases hs : verOf s with
  | none =>
    go_enter Tryd.func30, Tryd.ntmps30
    go_wp2_with (fail)
    refine (read_calls s _ _ _ _ _ _ HG.out (read_none hs)).mono ?_
    rintro e w1 ⟨A1, k1, rfl, hk1, hC1, hb1⟩
    have HB1 := Aside0.mk (below_step (w := w) (by repeat (first | exact Below.refl _ _ | exact HB9.out | exact HB8.out | exact HB7.out | exact HB6.out | exact HB5.out | exact HB4.out | exact HB3.out | exact HB2.out | exact HB1.out | exact HB.out | (refine Below.alloc ?_ (by first | exact HB9.out.size | exact HB8.out.size | exact HB7.out.size | exact HB6.out.size | exact HB5.out.size | exact HB4.out.size | exact HB3.out.size | exact HB2.out.size | exact HB1.out.size | exact HB.out.size | (simp; done) | (simp <;> omega)) _) | apply pw_below_drewN | apply below_drew1 | (refine Below.setCell ?_ (by first | (simp; done) | (simp <;> omega) | omega) _))) hb1); obtain ⟨hc1, hf1⟩ := bcell hb1; have hz1 := hb1.size; (try simp at hz1); clear hb1
    go_wp2
    go_ret
    exact ⟨rfl, by repeat (first | exact Below.refl _ _ | exact HB9.out | exact HB8.out | exact HB7.out | exact HB6.out | exact HB5.out | exact HB4.out | exact HB3.out | exact HB2.out | exact HB1.out | exact HB.out | (refine Below.alloc ?_ (by first | exact HB9.out.size | exact HB8.out.size | exact HB7.out.size | exact HB6.out.size | exact HB5.out.size | exact HB4.out.size | exact HB3.out.size | exact HB2.out.size | exact HB1.out.size | exact HB.out.size | (simp; done) | (simp <;> omega)) _) | apply pw_below_drewN | apply below_drew1 | (refine Below.setCell ?_ (by first | (simp; done) | (simp <;> omega) | omega) _))⟩
  | some v =>
    go_enter Tryd.func30, Tryd.ntmps30
    go_wp2_with (fail)
    refine (read_calls s _ _ _ _ _ _ HG.out (read_some hs)).mono ?_
    rintro e w1 ⟨A1, k1, rfl, hk1, hC1, hb1⟩
    have HB1 := Aside0.mk (below_step (w := w) (by repeat (first | exact Below.refl _ _ | exact HB9.out | exact HB8.out | exact HB7.out | exact HB6.out | exact HB5.out | exact HB4.out | exact HB3.out | exact HB2.out | exact HB1.out | exact HB.out | (refine Below.alloc ?_ (by first | exact HB9.out.size | exact HB8.out.size | exact HB7.out.size | exact HB6.out.size | exact HB5.out.size | exact HB4.out.size | exact HB3.out.size | exact HB2.out.size | exact HB1.out.size | exact HB.out.size | (simp; done) | (simp <;> omega)) _) | apply pw_below_drewN | apply below_drew1 | (refine Below.setCell ?_ (by first | (simp; done) | (simp <;> omega) | omega) _))) hb1); obtain ⟨hc1, hf1⟩ := bcell hb1; have hz1 := hb1.size; (try simp at hz1); clear hb1
    go_wp2
    go_ret
    exact ⟨rfl, by repeat (first | exact Below.refl _ _ | exact HB9.out | exact HB8.out | exact HB7.out | exact HB6.out | exact HB5.out | exact HB4.out | exact HB3.out | exact HB2.out | exact HB1.out | exact HB.out | (refine Below.alloc ?_ (by first | exact HB9.out.size | exact HB8.out.size | exact HB7.out.size | exact HB6.out.size | exact HB5.out.size | exact HB4.out.size | exact HB3.out.size | exact HB2.out.size | exact HB1.out.size | exact HB.out.size | (simp; done) | (simp <;> omega)) _) | apply pw_below_drewN | apply below_drew1 | (refine Below.setCell ?_ (by first | (simp; done) | (simp <;> omega) | omega) _))⟩

end Go.Proofs.YtoiibjipjlkaeaaDoor.PV

/- The walks of the document's own Number and text. -/
import Derived.Test.YtoiibjipjlkaeaaDoorTextA
import Derived.Deep.QuietTactic
import Derived.BigQuiet
namespace Go.Proofs.YtoiibjipjlkaeaaDoor.PV
open Go.RowKit Go.Proofs.YtoiibjipjlkaeaaDoorW.PrintWords Go.Proofs.YtoiibjipjlkaeaaDoorW.PrintLast Go.Proofs.YtoiibjipjlkaeaaDoorW.PrintMore
attribute [local go_sem] max2_int min2_int max_two min_two max_three min_three max_four min_four   -- for this text's walks alone
set_option linter.unusedVariables false
set_option linter.unusedSimpArgs false

/-! The document's own Number, text, Text, Is. -/
theorem dec_step {n : Nat} (h : ¬ n < 10) : Lib.decDigits n = Lib.decDigits (n / 10) ++ [UInt8.ofNat (48 + n % 10)] := by
  conv => lhs; rw [Lib.decDigits, dif_neg h]
def dD (k : Nat) : ByteArray := ⟨#[UInt8.ofNat (48 + k)]⟩
set_option maxRecDepth 100000 in
theorem dgs_slice (k : Nat) (hk : k < 10) (W : World) : (Instr.slice 9 (.string ⟨#[48, 49, 50, 51, 52, 53, 54, 55, 56, 57]⟩) (some (.int .u64 (k : Int))) (some (.int .u64 ((k : Int) + 1))) none).run Tryd.prog W = .ok (.string (dD k)) W := by
  have h : k = 0 ∨ k = 1 ∨ k = 2 ∨ k = 3 ∨ k = 4 ∨ k = 5 ∨ k = 6 ∨ k = 7 ∨ k = 8 ∨ k = 9 := by omega
  clear hk
  rcases h with rfl | rfl | rfl | rfl | rfl | rfl | rfl | rfl | rfl | rfl
  · show (Instr.slice 9 (.string ⟨#[48, 49, 50, 51, 52, 53, 54, 55, 56, 57]⟩) (some (.int .u64 (0 : Int))) (some (.int .u64 (1 : Int))) none).run Tryd.prog W = .ok (.string ⟨#[48]⟩) W
    kernel_rfl
  · show (Instr.slice 9 (.string ⟨#[48, 49, 50, 51, 52, 53, 54, 55, 56, 57]⟩) (some (.int .u64 (1 : Int))) (some (.int .u64 (2 : Int))) none).run Tryd.prog W = .ok (.string ⟨#[49]⟩) W
    kernel_rfl
  · show (Instr.slice 9 (.string ⟨#[48, 49, 50, 51, 52, 53, 54, 55, 56, 57]⟩) (some (.int .u64 (2 : Int))) (some (.int .u64 (3 : Int))) none).run Tryd.prog W = .ok (.string ⟨#[50]⟩) W
    kernel_rfl
  · show (Instr.slice 9 (.string ⟨#[48, 49, 50, 51, 52, 53, 54, 55, 56, 57]⟩) (some (.int .u64 (3 : Int))) (some (.int .u64 (4 : Int))) none).run Tryd.prog W = .ok (.string ⟨#[51]⟩) W
    kernel_rfl
  · show (Instr.slice 9 (.string ⟨#[48, 49, 50, 51, 52, 53, 54, 55, 56, 57]⟩) (some (.int .u64 (4 : Int))) (some (.int .u64 (5 : Int))) none).run Tryd.prog W = .ok (.string ⟨#[52]⟩) W
    kernel_rfl
  · show (Instr.slice 9 (.string ⟨#[48, 49, 50, 51, 52, 53, 54, 55, 56, 57]⟩) (some (.int .u64 (5 : Int))) (some (.int .u64 (6 : Int))) none).run Tryd.prog W = .ok (.string ⟨#[53]⟩) W
    kernel_rfl
  · show (Instr.slice 9 (.string ⟨#[48, 49, 50, 51, 52, 53, 54, 55, 56, 57]⟩) (some (.int .u64 (6 : Int))) (some (.int .u64 (7 : Int))) none).run Tryd.prog W = .ok (.string ⟨#[54]⟩) W
    kernel_rfl
  · show (Instr.slice 9 (.string ⟨#[48, 49, 50, 51, 52, 53, 54, 55, 56, 57]⟩) (some (.int .u64 (7 : Int))) (some (.int .u64 (8 : Int))) none).run Tryd.prog W = .ok (.string ⟨#[55]⟩) W
    kernel_rfl
  · show (Instr.slice 9 (.string ⟨#[48, 49, 50, 51, 52, 53, 54, 55, 56, 57]⟩) (some (.int .u64 (8 : Int))) (some (.int .u64 (9 : Int))) none).run Tryd.prog W = .ok (.string ⟨#[56]⟩) W
    kernel_rfl
  · show (Instr.slice 9 (.string ⟨#[48, 49, 50, 51, 52, 53, 54, 55, 56, 57]⟩) (some (.int .u64 (9 : Int))) (some (.int .u64 (10 : Int))) none).run Tryd.prog W = .ok (.string ⟨#[57]⟩) W
    kernel_rfl
set_option maxHeartbeats 8000000 in
set_option maxRecDepth 100000 in
theorem rNumber_calls (N : Nat) (hN : N < 4294967296) (w : World) :
    Calls Tryd.prog 100 #[.int .u64 N] w fun e w' => e = .returned (.string (nB N)) ∧ w = w' := by
  have hlen := dec_len hN
  have HL := Aside0.mk hlen
  clear hlen
  go_enter Tryd.func100, Tryd.ntmps100
  go_wp2
  go_loopg [0, 3] N (fun g v0 v3 w' => ∃ (s : ByteArray), g ≤ N ∧ v0 = .int .u64 g ∧ v3 = .string s ∧ s.size ≤ 20 ∧ Aside0 (Lib.decDigits N = Lib.decDigits g ++ s.data.toList) ∧ w = w')
  case atStart => exact ⟨⟨#[]⟩, Nat.le_refl _, rfl, rfl, by decide, ⟨by simp⟩, rfl⟩
  case round =>
    obtain ⟨s, hn, rfl, rfl, hs, HE, rfl⟩ := hrel
    by_cases h9 : gk < 10
    · have hq : ¬ (9 : Int) < (gk : Int) := by omega
      have w2 : IntKind.u64.wrap ((gk : Int) + 1) = (gk : Int) + 1 := by rw [IntKind.wrap_u64]; omega
      have w3 : ((gk : Int) + 1) % 18446744073709551616 = (gk : Int) + 1 := by omega
      have hsl := dgs_slice gk h9
      have hd : dD gk ++ s = nB N := by
        apply ba_ext
        rw [ByteArray.data_append]
        show ((dD gk).data ++ s.data).toList = (Lib.decDigits N).toArray.toList
        rw [HE.out, Lib.decDigits_one h9]
        simp [dD]
      have hz : (dD gk).size = 1 := rfl
      go_wp2
      go_ret
      first | exact ⟨by rw [← hd]; rfl, rfl⟩ | exact ⟨rfl, rfl⟩
    · have hq : (9 : Int) < (gk : Int) := by omega
      have hk : gk % 10 < 10 := Nat.mod_lt _ (by omega)
      have HS := Aside0.mk (show Lib.decDigits N = Lib.decDigits (gk / 10) ++ (dD (gk % 10) ++ s).data.toList by
        rw [HE.out, dec_step h9, ByteArray.data_append]
        simp [dD])
      have m0 : (gk : Int) % 10 = ((gk % 10 : Nat) : Int) := by omega
      have hsl := dgs_slice (gk % 10) hk
      have hz : (dD (gk % 10)).size = 1 := rfl
      have hsz : (dD (gk % 10) ++ s).size ≤ 20 := by
        have h1 := HL.out
        rw [HS.out, List.length_append, size_len] at h1
        omega
      generalize gk % 10 = k at *
      have w2 : IntKind.u64.wrap ((k : Int) + 1) = (k : Int) + 1 := by rw [IntKind.wrap_u64]; omega
      have w3 : ((k : Int) + 1) % 18446744073709551616 = (k : Int) + 1 := by omega
      go_wp2
      go_roundg (gk / 10)
      case measure => omega
      case rel => exact ⟨dD k ++ s, by omega, by first | rfl | (congr 1; omega) | (simp; omega), rfl, hsz, HS, rfl⟩
theorem rNumber_same (N : Nat) (hN : N < 4294967296) (w : World) : Calls Tryd.prog 100 #[.int .u64 N] w fun e w' => e = .returned (.string (nB N)) ∧ w' = w := (rNumber_calls N hN w).mono fun _ _ h => ⟨h.1, h.2.symm⟩
theorem joinL_snoc (L : List (List UInt8)) (x : List UInt8) (h : L ≠ []) : joinL 46 (L ++ [x]) = joinL 46 L ++ 46 :: x := by
  induction L with
  | nil => exact absurd rfl h
  | cons y r ih =>
    cases r with
    | nil => rfl
    | cons z r =>
      rw [List.cons_append, List.cons_append, joinL, ← List.cons_append, ih (by simp), joinL]
      simp
theorem textB_zero (a b c : Int) : textB a b c [] = ⟨(joinL 46 [Lib.decDigits a.toNat, Lib.decDigits b.toNat, Lib.decDigits c.toNat]).toArray⟩ := by
  unfold textB textL
  rw [if_pos rfl, List.append_nil]
theorem textB_one (a b c : Int) (x : ByteArray) : textB a b c [x] = textB a b c [] ++ ⟨#[45]⟩ ++ x := by
  apply ba_ext
  rw [ByteArray.data_append, ByteArray.data_append]
  unfold textB textL
  rw [if_pos rfl, if_neg (by simp)]
  simp [joinL]
theorem textB_more (a b c : Int) (l : List ByteArray) (x : ByteArray) (h : l ≠ []) : textB a b c (l ++ [x]) = textB a b c l ++ ⟨#[46]⟩ ++ x := by
  apply ba_ext
  rw [ByteArray.data_append, ByteArray.data_append]
  unfold textB textL
  rw [if_neg (by simp), if_neg h, List.map_append, List.map_cons, List.map_nil, joinL_snoc _ _ (by simpa using h)]
  simp
theorem textB_size (na nb nc : Nat) (l : List ByteArray) (h1 : na ≤ 2147483647) (h2 : nb ≤ 2147483647) (h3 : nc ≤ 2147483647) (hl : l.length ≤ 8) (hs : ∀ x ∈ l, x.size ≤ 16) : (textB na nb nc l).size ≤ 2000 := by
  unfold textB textL
  rw [arr_len]
  have j1 := join_size [nB na, nB nb, nB nc] 3 (by simp) (fun x hx => by
    simp only [List.mem_cons, List.not_mem_nil, or_false] at hx
    rcases hx with rfl | rfl | rfl <;> exact nB_size (by omega))
  rw [arr_len] at j1
  have j1' : (joinL 46 [Lib.decDigits (na : Int).toNat, Lib.decDigits (nb : Int).toNat, Lib.decDigits (nc : Int).toNat]).length ≤ 3 * 129 := j1
  have j2 := join_size l 8 hl (fun x hx => by have := hs x hx; omega)
  rw [arr_len] at j2
  rw [List.length_append]
  split
  · rw [List.length_nil]; omega
  · rw [List.length_cons]; omega
set_option maxHeartbeats 8000000 in
set_option maxRecDepth 100000 in
theorem rtext_calls (na nb nc : Nat) (A : Option Addr) (cA : Nat) (l : List ByteArray) (w : World) (hA : Kd.C Kd.string w A l.length l) (h1 : na ≤ 2147483647) (h2 : nb ≤ 2147483647) (h3 : nc ≤ 2147483647) (hn8 : l.length ≤ 8) (hs16 : ∀ x ∈ l, x.size ≤ 16) :
    Calls Tryd.prog 58 #[.agg #[.int .u32 na, .int .u32 nb, .int .u32 nc, .slice A l.length cA]] w fun e w' => e = .returned (.string (textB na nb nc l)) ∧ Below w.heap.size w w' := by
  have HA := Aside0.mk hA
  have HS16 := Aside0.mk hs16
  clear hA hs16
  have hwa : IntKind.u64.wrap (na : Int) = (na : Int) := by rw [IntKind.wrap_u64]; omega
  have hva : (na : Int) % 18446744073709551616 = (na : Int) := by omega
  have hwb : IntKind.u64.wrap (nb : Int) = (nb : Int) := by rw [IntKind.wrap_u64]; omega
  have hvb : (nb : Int) % 18446744073709551616 = (nb : Int) := by omega
  have hwc : IntKind.u64.wrap (nc : Int) = (nc : Int) := by rw [IntKind.wrap_u64]; omega
  have hvc : (nc : Int) % 18446744073709551616 = (nc : Int) := by omega
  have hza : (nB na).size ≤ 128 := nB_size (by omega)
  have hzb : (nB nb).size ≤ 128 := nB_size (by omega)
  have hzc : (nB nc).size ≤ 128 := nB_size (by omega)
  have hz0 : textB na nb nc [] = nB na ++ ⟨#[46]⟩ ++ nB nb ++ ⟨#[46]⟩ ++ nB nc := by
    apply ba_ext
    rw [textB_zero]
    simp only [ByteArray.data_append]
    simp [joinL, nB]
  have HZ := Aside0.mk hz0
  clear hz0
  go_enter Tryd.func58, Tryd.ntmps58
  go_upto_region 1 with fail
  go_quiet (first | (go_at_call 100; refine Calls.quiet_of_same (rNumber_same _ (by omega) _)))
  go_wp2
  go_loopg [3, 4] l.length (fun g v3 v4 w' => ∃ i : Nat, i ≤ l.length ∧ g = l.length - i ∧ v3 = .string (textB na nb nc (l.take i)) ∧ v4 = .int .i64 i ∧ Aside0 (Below w.heap.size w w') ∧ w.heap.size < w'.heap.size ∧ w'.cell? ⟨w.heap.size, 3, none⟩ = some (.slice A l.length cA))
  case atStart => exact ⟨0, Nat.zero_le _, rfl, by rw [List.take_zero, HZ.out], rfl, ⟨by repeat (first | exact Below.refl _ _ | exact HB9.out | exact HB8.out | exact HB7.out | exact HB6.out | exact HB5.out | exact HB4.out | exact HB3.out | exact HB2.out | exact HB1.out | exact HB.out | (refine Below.alloc ?_ (by first | exact HB9.out.size | exact HB8.out.size | exact HB7.out.size | exact HB6.out.size | exact HB5.out.size | exact HB4.out.size | exact HB3.out.size | exact HB2.out.size | exact HB1.out.size | exact HB.out.size | (simp; done) | (simp <;> omega)) _) | apply pw_below_drewN | apply below_drew1 | (refine Below.setCell ?_ (by first | (simp; done) | (simp <;> omega) | omega) _))⟩, by simp, by go_simp⟩
  case round =>
    clear HZ hza hzb hzc
    obtain ⟨i, hi, rfl, rfl, rfl, HB, hlt, hq⟩ := hrel
    by_cases h4 : i < l.length
    · obtain ⟨bk, off, rfl, hc0⟩ := C_cells HA.out (by omega)
      have q1 : (i : Int) < (l.length : Int) := by omega
      have q0 : (0 : Int) ≤ (i : Int) := by omega
      have hcell : wr.cell? ⟨bk, off + i, none⟩ = some (.string (l[i]'h4)) := (HB.out.cell (World.block_lt_of_cell? w _ (hc0 i h4))).trans (hc0 i h4)
      clear hc0
      have hxs : (l[i]'h4).size ≤ 16 := HS16.out _ (List.getElem_mem h4)
      have htk : l.take (i + 1) = l.take i ++ [l[i]'h4] := List.take_succ_eq_append_getElem h4
      have hsz := textB_size na nb nc (l.take i) h1 h2 h3 (by rw [List.length_take]; omega) (fun x hx => HS16.out x (List.mem_of_mem_take hx))
      by_cases hi0 : i = 0
      · subst hi0
        have HX : textB na nb nc (l.take (0 + 1)) = textB na nb nc (l.take 0) ++ ⟨#[45]⟩ ++ (l[0]'h4) := by
          rw [htk, List.take_zero]
          exact textB_one _ _ _ _
        have HX := Aside0.mk HX
        have hcell' : wr.cell? ⟨bk, off, none⟩ = some (.string (l[0]'h4)) := hcell
        generalize textB na nb nc (l.take 0) = S at *
        generalize (l[0]'h4) = x at *
        clear htk
        go_wp2
        go_roundg (l.length - (0 + 1))
        case measure => omega
        case rel => exact ⟨0 + 1, by omega, rfl, by rw [HX.out], by simp, HB, hlt, hq⟩
      · have HX : textB na nb nc (l.take (i + 1)) = textB na nb nc (l.take i) ++ ⟨#[46]⟩ ++ (l[i]'h4) := by
          rw [htk]
          refine textB_more _ _ _ _ _ (fun h => ?_)
          have := congrArg List.length h
          rw [List.length_take, List.length_nil] at this
          omega
        have HX := Aside0.mk HX
        generalize textB na nb nc (l.take i) = S at *
        generalize (l[i]'h4) = x at *
        clear htk
        have hi0' : ((i : Int) == 0) = false := beq_eq_false_iff_ne.2 (by omega)
        go_wp2
        go_roundg (l.length - (i + 1))
        case measure => omega
        case rel => exact ⟨i + 1, by omega, rfl, by rw [HX.out], by simp, HB, hlt, hq⟩
    · have h5 : i = l.length := by omega
      subst h5
      go_wp2
      go_ret
      exact ⟨by first | rfl | (rw [List.take_length]; rfl) | (simp; done), HB.out⟩

end Go.Proofs.YtoiibjipjlkaeaaDoor.PV

/- The document's Write. -/
import Derived.Test.YtopcidphlleciaaGreatDoorReB
namespace Go.Proofs.YtopcidphlleciaaGreatDoor.S
open Go.RowKit Go.Extern.Stop Go.Stop Go.Extern Go.Proofs.YtopcidphlleciaaGreatDoorW.PrintWords Go.Proofs.YtopcidphlleciaaGreatDoorW.PrintLast Go.Proofs.YtopcidphlleciaaGreatDoorW.PrintMore
set_option linter.unusedVariables false
set_option linter.unusedSimpArgs false
theorem tl_append (a b : ByteArray) : tl (a ++ b) = tl a ++ tl b := by
  show (a ++ b).data.toList = _
  rw [ByteArray.data_append, Array.toList_append]
theorem tl_extract1 (s : ByteArray) (k : Nat) (h : k < s.size) : tl (s.extract k (k + 1)) = [s[k]] := by
  show (s.extract k (k + 1)).data.toList = _
  rw [ByteArray.data_extract, Array.toList_extract, List.extract_eq_take_drop, show k + 1 - k = 1 by omega]
  have hk : k < s.data.toList.length := by rw [Array.length_toList]; exact h
  rw [List.drop_eq_getElem_cons hk]
  rfl
theorem wr_snoc (s : ByteArray) (k : Nat) (h : k < s.size) : wrL ((tl s).take (k + 1)) = wrL ((tl s).take k) ++ wrC s[k] := by
  have e : (tl s).take (k + 1) = (tl s).take k ++ [s[k]] := by
    rw [List.take_succ_eq_append_getElem (by rw [Array.length_toList]; exact h)]
    congr 2
  rw [e, wr_append]
  show _ ++ (wrC s[k] ++ []) = _
  rw [List.append_nil]
def hxS (k : Nat) : ByteArray := ⟨#[hexd k]⟩
set_option maxRecDepth 100000 in
theorem hx_slice (k : Nat) (hk : k < 16) (W : World) : (Instr.slice 9 (.string ⟨#[48, 49, 50, 51, 52, 53, 54, 55, 56, 57, 97, 98, 99, 100, 101, 102]⟩) (some (.int .u8 (k : Int))) (some (.int .u8 ((k : Int) + 1))) none).run Tryz.prog W = .ok (.string (hxS k)) W := by
  have h : k = 0 ∨ k = 1 ∨ k = 2 ∨ k = 3 ∨ k = 4 ∨ k = 5 ∨ k = 6 ∨ k = 7 ∨ k = 8 ∨ k = 9 ∨ k = 10 ∨ k = 11 ∨ k = 12 ∨ k = 13 ∨ k = 14 ∨ k = 15 := by omega
  clear hk
  rcases h with rfl | rfl | rfl | rfl | rfl | rfl | rfl | rfl | rfl | rfl | rfl | rfl | rfl | rfl | rfl | rfl
  · show (Instr.slice 9 (.string ⟨#[48, 49, 50, 51, 52, 53, 54, 55, 56, 57, 97, 98, 99, 100, 101, 102]⟩) (some (.int .u8 (0 : Int))) (some (.int .u8 (1 : Int))) none).run Tryz.prog W = .ok (.string ⟨#[48]⟩) W
    kernel_rfl
  · show (Instr.slice 9 (.string ⟨#[48, 49, 50, 51, 52, 53, 54, 55, 56, 57, 97, 98, 99, 100, 101, 102]⟩) (some (.int .u8 (1 : Int))) (some (.int .u8 (2 : Int))) none).run Tryz.prog W = .ok (.string ⟨#[49]⟩) W
    kernel_rfl
  · show (Instr.slice 9 (.string ⟨#[48, 49, 50, 51, 52, 53, 54, 55, 56, 57, 97, 98, 99, 100, 101, 102]⟩) (some (.int .u8 (2 : Int))) (some (.int .u8 (3 : Int))) none).run Tryz.prog W = .ok (.string ⟨#[50]⟩) W
    kernel_rfl
  · show (Instr.slice 9 (.string ⟨#[48, 49, 50, 51, 52, 53, 54, 55, 56, 57, 97, 98, 99, 100, 101, 102]⟩) (some (.int .u8 (3 : Int))) (some (.int .u8 (4 : Int))) none).run Tryz.prog W = .ok (.string ⟨#[51]⟩) W
    kernel_rfl
  · show (Instr.slice 9 (.string ⟨#[48, 49, 50, 51, 52, 53, 54, 55, 56, 57, 97, 98, 99, 100, 101, 102]⟩) (some (.int .u8 (4 : Int))) (some (.int .u8 (5 : Int))) none).run Tryz.prog W = .ok (.string ⟨#[52]⟩) W
    kernel_rfl
  · show (Instr.slice 9 (.string ⟨#[48, 49, 50, 51, 52, 53, 54, 55, 56, 57, 97, 98, 99, 100, 101, 102]⟩) (some (.int .u8 (5 : Int))) (some (.int .u8 (6 : Int))) none).run Tryz.prog W = .ok (.string ⟨#[53]⟩) W
    kernel_rfl
  · show (Instr.slice 9 (.string ⟨#[48, 49, 50, 51, 52, 53, 54, 55, 56, 57, 97, 98, 99, 100, 101, 102]⟩) (some (.int .u8 (6 : Int))) (some (.int .u8 (7 : Int))) none).run Tryz.prog W = .ok (.string ⟨#[54]⟩) W
    kernel_rfl
  · show (Instr.slice 9 (.string ⟨#[48, 49, 50, 51, 52, 53, 54, 55, 56, 57, 97, 98, 99, 100, 101, 102]⟩) (some (.int .u8 (7 : Int))) (some (.int .u8 (8 : Int))) none).run Tryz.prog W = .ok (.string ⟨#[55]⟩) W
    kernel_rfl
  · show (Instr.slice 9 (.string ⟨#[48, 49, 50, 51, 52, 53, 54, 55, 56, 57, 97, 98, 99, 100, 101, 102]⟩) (some (.int .u8 (8 : Int))) (some (.int .u8 (9 : Int))) none).run Tryz.prog W = .ok (.string ⟨#[56]⟩) W
    kernel_rfl
  · show (Instr.slice 9 (.string ⟨#[48, 49, 50, 51, 52, 53, 54, 55, 56, 57, 97, 98, 99, 100, 101, 102]⟩) (some (.int .u8 (9 : Int))) (some (.int .u8 (10 : Int))) none).run Tryz.prog W = .ok (.string ⟨#[57]⟩) W
    kernel_rfl
  · show (Instr.slice 9 (.string ⟨#[48, 49, 50, 51, 52, 53, 54, 55, 56, 57, 97, 98, 99, 100, 101, 102]⟩) (some (.int .u8 (10 : Int))) (some (.int .u8 (11 : Int))) none).run Tryz.prog W = .ok (.string ⟨#[97]⟩) W
    kernel_rfl
  · show (Instr.slice 9 (.string ⟨#[48, 49, 50, 51, 52, 53, 54, 55, 56, 57, 97, 98, 99, 100, 101, 102]⟩) (some (.int .u8 (11 : Int))) (some (.int .u8 (12 : Int))) none).run Tryz.prog W = .ok (.string ⟨#[98]⟩) W
    kernel_rfl
  · show (Instr.slice 9 (.string ⟨#[48, 49, 50, 51, 52, 53, 54, 55, 56, 57, 97, 98, 99, 100, 101, 102]⟩) (some (.int .u8 (12 : Int))) (some (.int .u8 (13 : Int))) none).run Tryz.prog W = .ok (.string ⟨#[99]⟩) W
    kernel_rfl
  · show (Instr.slice 9 (.string ⟨#[48, 49, 50, 51, 52, 53, 54, 55, 56, 57, 97, 98, 99, 100, 101, 102]⟩) (some (.int .u8 (13 : Int))) (some (.int .u8 (14 : Int))) none).run Tryz.prog W = .ok (.string ⟨#[100]⟩) W
    kernel_rfl
  · show (Instr.slice 9 (.string ⟨#[48, 49, 50, 51, 52, 53, 54, 55, 56, 57, 97, 98, 99, 100, 101, 102]⟩) (some (.int .u8 (14 : Int))) (some (.int .u8 (15 : Int))) none).run Tryz.prog W = .ok (.string ⟨#[101]⟩) W
    kernel_rfl
  · show (Instr.slice 9 (.string ⟨#[48, 49, 50, 51, 52, 53, 54, 55, 56, 57, 97, 98, 99, 100, 101, 102]⟩) (some (.int .u8 (15 : Int))) (some (.int .u8 (16 : Int))) none).run Tryz.prog W = .ok (.string ⟨#[102]⟩) W
    kernel_rfl
set_option maxHeartbeats 16000000 in
set_option maxRecDepth 100000 in
theorem rwrite_calls (s : ByteArray) (w : World) (hs : s.size ≤ 4000000) : Calls Tryz.prog 45 #[.string s] w fun e w' => ∃ o, e = .returned (.string o) ∧ tl o = wrA (tl s) ∧ Below w.heap.size w w' := by
  by_cases h0 : s.size = 0
  · have hs0 : s = ⟨#[]⟩ := tl_inj (List.length_eq_zero_iff.1 (by rw [Array.length_toList]; exact h0))
    subst hs0
    go_enter Tryz.func45, Tryz.ntmps45
    go_wp2
    go_ret
    exact ⟨_, rfl, rfl, Below.refl _ _⟩
  · have hne : (s.toList == []) = false := by
      rw [beq_eq_false_iff_ne]
      intro q
      have q2 := congrArg List.length q
      rw [ByteArray.toList_eq, Array.length_toList] at q2
      exact h0 q2
    have HW : Aside0 (wrA (tl s) = wrL (tl s)) := ⟨by
      unfold wrA
      rw [if_neg]
      intro q
      have := congrArg List.length q
      rw [Array.length_toList] at this
      exact h0 this⟩
    rw [HW.out]
    clear HW h0
    have HL : Aside0 ((tl s).length = s.size) := ⟨Array.length_toList⟩
    go_enter Tryz.func45, Tryz.ntmps45
    go_wp2_with (fail)
    go_loopw [3, 4] (fun v3 v4 ww => ∃ (k : Nat) (o : ByteArray), k ≤ s.size ∧ v4 = .int .i64 k ∧ v3 = .string o ∧ Aside0 (Below w.heap.size w ww ∧ tl o = wrL ((tl s).take k)) ∧ o.size ≤ 3 * k) (fun _ v4 _ => s.size - (intOf v4).toNat)
    case atStart => exact ⟨0, ⟨#[]⟩, Nat.zero_le _, rfl, rfl, ⟨Below.refl _ _, by rw [List.take_zero]; rfl⟩, Nat.zero_le _⟩
    case round =>
      obtain ⟨k, o, hk, rfl, rfl, HX, hlen⟩ := hrel
      by_cases h1 : k < s.size
      · have h1' : (k : Int) < (s.size : Int) := by omega
        have h0' : (0 : Int) ≤ (k : Int) := by omega
        obtain ⟨c, hc⟩ : ∃ c, s[k]'h1 = c := ⟨_, rfl⟩
        have HSN : Aside0 (wrL ((tl s).take (k + 1)) = wrL ((tl s).take k) ++ wrC c) := ⟨by rw [← hc]; exact wr_snoc s k h1⟩
        cases hp : plC c
        case true =>
          have HP : Aside0 (∀ w, Calls Tryz.prog 59 #[.int .u8 (c.toNat : Int)] w fun e w' => e = .returned (.bool true) ∧ w = w') := ⟨fun w => by have := rplain_calls c w; rw [hp] at this; exact this⟩
          have HC : Aside0 (wrC c = [c]) := ⟨by unfold wrC; rw [if_pos hp]⟩
          have HE : Aside0 (tl (s.extract k (k + 1)) = [c]) := ⟨by rw [tl_extract1 s k h1, hc]⟩
          have hes : (s.extract k (k + 1)).size = 1 := by have := congrArg List.length HE.out; rw [Array.length_toList] at this; exact this
          have hnb : ¬ 9223372036854775807 < o.size + (s.extract k (k + 1)).size := by omega
          have hsl : ∀ W, (Instr.slice 9 (.string s) (some (.int .i64 (k : Int))) (some (.int .i64 ((k : Int) + 1))) none).run Tryz.prog W = .ok (.string (s.extract k (k + 1))) W := fun W => by
            have := run_slice_string (P := Tryz.prog) W 9 s .i64 .i64 (k : Int) ((k : Int) + 1) Tryz.underlying9 (by omega) (by omega) (by omega)
            rw [this]
            rfl
          clear hp
          go_wp2_with (fail)
          refine (HP.out _).mono ?_
          rintro e w1 ⟨rfl, rfl⟩
          go_wp2_with (fail)
          go_round
          case rel => exact ⟨k + 1, _, by omega, by simp, rfl, ⟨HX.out.1, by rw [tl_append, HX.out.2, HE.out, HSN.out, HC.out]⟩, by simp [hes]; omega⟩
          case measure => simp [intOf]; omega
        case false =>
          have HP : Aside0 (∀ w, Calls Tryz.prog 59 #[.int .u8 (c.toNat : Int)] w fun e w' => e = .returned (.bool false) ∧ w = w') := ⟨fun w => by have := rplain_calls c w; rw [hp] at this; exact this⟩
          have HC : Aside0 (wrC c = [37, hexd (c.toNat / 16), hexd (c.toNat % 16)]) := ⟨by unfold wrC; rw [hp]; rfl⟩
          obtain ⟨m, hm⟩ : ∃ m, c.toNat % 16 = m := ⟨_, rfl⟩
          have hm16 : m < 16 := by omega
          obtain ⟨q, hq⟩ : ∃ q, c.toNat / 16 = q := ⟨_, rfl⟩
          have hq16 : q < 16 := by have := c.toNat_lt; omega
          have hs1 : (c.toNat : Int) / 16 = (q : Int) := by omega
          have hs2 : (c.toNat : Int) % 16 = (m : Int) := by omega
          have hq1 := hx_slice q hq16
          have hm1 := hx_slice m hm16
          have hu1 : ((q : Int) + 1) % 256 = (q : Int) + 1 := by omega
          have hu2 : ((m : Int) + 1) % 256 = (m : Int) + 1 := by omega
          have hz1 : (hxS q).size = 1 := rfl
          have hz2 : (hxS m).size = 1 := rfl
          have hnb1 : ¬ 9223372036854775807 < o.size + 1 := by omega
          have hnb2 : ¬ 9223372036854775807 < o.size + 1 + 1 := by omega
          have hnb3 : ¬ 9223372036854775807 < o.size + 1 + 1 + 1 := by omega
          clear hp
          go_wp2_with (fail)
          refine (HP.out _).mono ?_
          rintro e w1 ⟨rfl, rfl⟩
          go_wp2_with (fail)
          go_region
          go_wp2_with (fail)
          go_round
          case rel =>
            refine ⟨k + 1, _, by omega, by simp, rfl, ⟨HX.out.1.drew, ?_⟩, ?_⟩
            · rw [tl_append, tl_append, tl_append, HX.out.2, HSN.out, HC.out, hm, hq, List.append_assoc, List.append_assoc]
              rfl
            · have hz3 : ({ data := #[37] } : ByteArray).size = 1 := rfl
              simp [hz1, hz2, hz3]
              omega
          case measure => simp [intOf]; omega
      · have h1' : ¬ (k : Int) < (s.size : Int) := by omega
        have HK : Aside0 ((tl s).take k = tl s) := ⟨List.take_of_length_le (by rw [HL.out]; omega)⟩
        go_wp2_with (fail)
        go_ret
        exact ⟨_, rfl, by rw [HX.out.2, HK.out], HX.out.1⟩
end Go.Proofs.YtopcidphlleciaaGreatDoor.S

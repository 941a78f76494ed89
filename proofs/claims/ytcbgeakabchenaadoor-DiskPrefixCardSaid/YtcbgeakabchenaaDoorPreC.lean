/- The walk of the law DiskPrefix, a part. -/
import Derived.Test.YtcbgeakabchenaaDoorPreQ
namespace Go.Proofs.YtcbgeakabchenaaDoor.D
open Go.RowKit Go.Extern.Stop Go.Stop Go.Extern Go.Proofs.YtcbgeakabchenaaDoorW.PrintWords Go.Proofs.YtcbgeakabchenaaDoorW.PrintLast Go.Proofs.YtcbgeakabchenaaDoorW.PrintMore
set_option linter.unusedVariables false
set_option linter.unusedSimpArgs false
set_option maxHeartbeats 64000000 in
set_option maxRecDepth 100000 in
theorem preC_calls (before text : ByteArray) (w : World) (h4 : before.size + text.size ≤ 4000) (hz : 0 < text.size) (hG : GE w) : Calls Tryd.prog 3 #[.string before, .string text, .bool true] w fun e w' => e = .returned (.bool true) ∧ Below w.heap.size w w' := by
  have HG := Aside0.mk hG
  clear hG
  have q4 : ¬ (4000 : Int) < (before.size : Int) + (text.size : Int) := by omega
  have hq : Int.tdiv ((text.size : Int) + 31) 32 = (((text.size + 31) / 32 : Nat) : Int) := by
    rw [Int.tdiv_eq_ediv_of_nonneg (by omega)]
    omega
  have hqb : (text.size + 31) / 32 ≤ 126 := by omega
  have hq32 : Aside0 (text.size ≤ 32 * ((text.size + 31) / 32)) := ⟨by omega⟩
  have hqpos : Aside0 (0 < text.size → 1 ≤ (text.size + 31) / 32) := ⟨by omega⟩
  generalize (text.size + 31) / 32 = q at *
  obtain ⟨nee0, hmax, hnq⟩ : ∃ need : Nat, max 1 (q : Int) = (need : Int) ∧ Aside0 (need ≤ 126) := ⟨max 1 q, by omega, ⟨by omega⟩⟩
  obtain ⟨need, hadd, hnn⟩ : ∃ need : Nat, 1 + (q : Int) = (need : Int) ∧ Aside0 (need = 1 + q) := ⟨1 + q, by omega, ⟨rfl⟩⟩
  have HQP := Aside0.mk (hqpos.out hz)
  have hz1 : (0 : Int) < (text.size : Int) := by omega
  clear hz
  have hww : wrap64 (q : Int) = (q : Int) := by unfold wrap64; omega
  have HH4 := Aside0.mk h4
  have hz2 : decide (0 < text.size) = true := decide_eq_true (by omega)
  have hwn : wrap64 (need : Int) = (need : Int) := by have := hnn.out; unfold wrap64; omega
  have HQB := Aside0.mk hqb
  have HW := after_calls before text true (-1) w (by omega) h4
  rw [aF_all_put] at HW
  clear h4 hqb hqpos
  go_enter Tryd.func3, Tryd.ntmps3
  go_wp2_with (fail)
  refine HW.mono ?_
  rintro e w1 ⟨rfl, hb1⟩
  have HB1 := Aside0.mk hb1
  clear hb1 HW
  go_wp2_with (fail)
  simp only [hww, hz2, hadd, hwn]
  go_loopg [9] (need + 1) (fun g v9 w' => ∃ (i : Nat), i ≤ need + 1 ∧ g = need + 1 - i ∧ v9 = .int .i64 i ∧ Aside0 (Below w.heap.size w w'))
  case atStart => exact ⟨0, Nat.zero_le _, rfl, rfl, HB1⟩
  case round =>
    obtain ⟨i, hi, rfl, rfl, HB⟩ := hrel
    by_cases h1 : i ≤ need
    · have r1 : (i : Int) ≤ (need : Int) := by omega
      have r2 : (0 : Int) ≤ (i : Int) := by omega
      have r3 : (i : Int) ≤ 200 := by have hnb := hnn.out; have hnb2 := HQB.out; omega
      by_cases hn : i = need
      · subst hn
        have HA := after_calls before text true (i : Int) wr (by omega) HH4.out
        rw [aF_need_put before text i (by have := hnn.out; omega) (by have := hnn.out; have := hq32.out; omega)] at HA
        go_wp2_with (fail)
        refine HA.mono ?_
        rintro e w2 ⟨rfl, hb2⟩
        have HB2 := Aside0.mk (below_step (w := w) HB.out hb2)
        clear hb2 HA
        go_wp2_with (fail)
        go_roundg (i + 1 - (i + 1))
        case measure => omega
        case rel => exact ⟨i + 1, by omega, rfl, by simp, HB2⟩
      · have e1 : ¬ (i : Int) = (need : Int) := by omega
        by_cases hi0 : i = 0
        · subst hi0
          have e7 : ¬ (0 : Int) = (need : Int) := by have := hnn.out; omega
          have HA := after_calls before text true 0 wr (by omega) HH4.out
          rw [aF_put00] at HA
          go_wp2_with (fail)
          refine HA.mono ?_
          rintro e w2 ⟨rfl, hb2⟩
          have HB2 := Aside0.mk (below_step (w := w) HB.out hb2)
          clear hb2 HA
          go_wp2_with (fail)
          go_roundg (need)
          case measure => omega
          case rel => exact ⟨1, by omega, rfl, by first | rfl | simp, HB2⟩
        · have e0 : (0 : Int) < (i : Int) := by omega
          have HA := after_calls before text true (i : Int) wr (by omega) HH4.out
          rw [aF_put before text i (by omega)] at HA
          have e2 : min (text.size : Int) (32 * ((i : Int) - 1)) = ((min text.size (32 * (i - 1)) : Nat) : Int) := by omega
          have e3 : min text.size (32 * (i - 1)) ≤ text.size := by omega
          generalize min text.size (32 * (i - 1)) = m at *
          have e4 : (0 : Int) ≤ (m : Int) := by omega
          have e5 : (m : Int) ≤ (text.size : Int) := by omega
          go_wp2_with (fail)
          refine HA.mono ?_
          rintro e w2 ⟨rfl, hb2⟩
          have HB2 := Aside0.mk (below_step (w := w) HB.out hb2)
          clear hb2 HA
          go_wp2_with (fail)
          go_roundg (need + 1 - (i + 1))
          case measure => omega
          case rel => exact ⟨i + 1, by omega, rfl, by simp, HB2⟩
    · have r1 : ¬ (i : Int) ≤ (need : Int) := by omega
      go_wp2_with (fail)
      refine (alive_calls _ (HG.out.below HB.out)).mono ?_
      rintro e w5 ⟨rfl, hb5⟩
      have HB5 := Aside0.mk (below_step (w := w) HB.out hb5)
      clear hb5
      go_wp2_with (fail)
      go_ret
      exact ⟨by simp, HB5.out⟩
end Go.Proofs.YtcbgeakabchenaaDoor.D

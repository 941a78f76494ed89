/- The law ScriptWrites walked. -/
import Derived.Test.YtopcidphlleciaaDoorSIs
import Derived.Test.YtopcidphlleciaaDoorSLi
import Derived.Test.YtopcidphlleciaaDoorReK
import Derived.Test.YtopcidphlleciaaDoorReC
import Derived.Test.YtopcidphlleciaaDoorReB
namespace Go.Proofs.YtopcidphlleciaaDoor.S
open Go.RowKit Go.Extern.Stop Go.Stop Go.Extern Go.Proofs.YtopcidphlleciaaDoorW.PrintWords Go.Proofs.YtopcidphlleciaaDoorW.PrintLast Go.Proofs.YtopcidphlleciaaDoorW.PrintMore
set_option linter.unusedVariables false
set_option linter.unusedSimpArgs false
theorem numV_pair (l : BL) : ∃ n b, numV l = .tuple #[.int .i64 n, .bool b] := by
  unfold numV
  cases numO l with
  | none => exact ⟨_, _, rfl⟩
  | some n => exact ⟨_, _, rfl⟩
/-- The law's lives. -/
theorem lives_calls (w : World) (hG : GW w) : Calls Tryd.prog 4 #[] w fun e w' => e = .returned (.bool true) ∧ Below w.heap.size w w' := lives_of ⟨is_ok⟩ w hG
set_option maxHeartbeats 32000000 in
set_option maxRecDepth 100000 in
theorem law_walk (arg s : ByteArray) (w : World) (hb1 : arg.size ≤ 140737488351232) (hb2 : s.size ≤ 140737488351232) (hG : GW w) : Calls Tryd.prog 3 #[.string arg, .string s] w fun e w' => e = .returned (.bool true) ∧ Below w.heap.size w w' := by
  have HG := Aside0.mk hG
  clear hG hb1 hb2
  by_cases h1 : arg.size ≤ 4000 ∧ s.size ≤ 4000
  · obtain ⟨ha, hs⟩ := h1
    have ha' : ¬ (4000 : Int) < (arg.size : Int) := by omega
    have hs' : ¬ (4000 : Int) < (s.size : Int) := by omega
    have HWA : Aside0 (∀ W, Calls Tryd.prog 9 #[.string arg] W fun e w' => e = .returned (.string (mkB (wrA (tl arg)))) ∧ Below W.heap.size W w') := ⟨fun W => write_calls arg W (by omega)⟩
    have HWB : Aside0 (∀ W, Calls Tryd.prog 10 #[.string arg] W fun e w' => e = .returned (.string (mkB (wrA (tl arg)))) ∧ Below W.heap.size W w') := ⟨fun W => by
      refine (rwrite_calls arg W (by omega)).mono ?_
      rintro e w' ⟨o, rfl, ho, hb⟩
      exact ⟨by rw [show o = mkB (wrA (tl arg)) from tl_inj (ho.trans (tl_mkB _).symm)], hb⟩⟩
    generalize hx : mkB (wrA (tl arg)) = x at *
    clear hx
    have hxx : (x.toList == x.toList) = true := by simp
    obtain ⟨n, b, hnv⟩ := numV_pair (tl s)
    have HNA : Aside0 (∀ W, GW W → Calls Tryd.prog 7 #[.string s] W fun e w' => e = .returned (.tuple #[.int .i64 n, .bool b]) ∧ Below W.heap.size W w') := ⟨fun W h => by have := number_calls s (by omega) W h.1 h.2.1; rw [hnv] at this; exact this⟩
    have HNB : Aside0 (∀ W, Calls Tryd.prog 8 #[.string s] W fun e w' => e = .returned (.tuple #[.int .i64 n, .bool b]) ∧ W = w') := ⟨fun W => by have := rnumber_calls s W (by omega); rw [hnv] at this; exact this⟩
    obtain ⟨y, hy⟩ : ∃ y, mkB (unw (tl s)).1 = y := ⟨_, rfl⟩
    obtain ⟨k, hk⟩ : ∃ k, (unw (tl s)).2.1 = k := ⟨_, rfl⟩
    obtain ⟨ok, hok⟩ : ∃ k, (unw (tl s)).2.2 = k := ⟨_, rfl⟩
    have huv : unwV (unw (tl s)) = .tuple #[.string y, .int .i64 (k : Int), .bool ok] := by rw [← hy, ← hk, ← hok]; rfl
    have HUA : Aside0 (∀ W, Calls Tryd.prog 5 #[.string s] W fun e w' => e = .returned (.tuple #[.string y, .int .i64 (k : Int), .bool ok]) ∧ Below W.heap.size W w') := ⟨fun W => by have := unwrite_calls s W (by omega); rw [huv] at this; exact this⟩
    have HUB : Aside0 (∀ W, Calls Tryd.prog 6 #[.string s] W fun e w' => e = .returned (.tuple #[.string y, .int .i64 (k : Int), .bool ok]) ∧ Below W.heap.size W w') := ⟨fun W => by have := runwrite_calls s W (by omega); rw [huv] at this; exact this⟩
    have hyy : (y.toList == y.toList) = true := by simp
    clear hnv hy hk hok huv
    go_enter Tryd.func3, Tryd.ntmps3
    go_wp2_with (fail)
    refine (HUA.out _).mono ?_
    rintro e w1 ⟨rfl, hb1⟩
    have HB1 := Aside0.mk hb1
    clear hb1
    go_wp2_with (fail)
    refine (HUB.out _).mono ?_
    rintro e w2 ⟨rfl, hb2⟩
    have HB2 : Aside0 (Below w.heap.size w w2) := ⟨below_step (w := w) HB1.out hb2⟩
    clear hb2
    go_wp2_with (fail)
    refine (HNA.out _ (HG.out.below HB2.out)).mono ?_
    rintro e w3 ⟨rfl, hb3⟩
    have HB3 : Aside0 (Below w.heap.size w w3) := ⟨below_step (w := w) HB2.out hb3⟩
    clear hb3
    go_wp2_with (fail)
    refine (HNB.out _).mono ?_
    rintro e w4 ⟨rfl, rfl⟩
    go_wp2_with (fail)
    refine (HWA.out _).mono ?_
    rintro e w5 ⟨rfl, hb5⟩
    have HB5 : Aside0 (Below w.heap.size w w5) := ⟨below_step (w := w) HB3.out hb5⟩
    clear hb5
    go_wp2_with (fail)
    refine (HWB.out _).mono ?_
    rintro e w6 ⟨rfl, hb6⟩
    have HB6 : Aside0 (Below w.heap.size w w6) := ⟨below_step (w := w) HB5.out hb6⟩
    clear hb6
    go_wp2_with (fail)
    refine (lives_calls _ (HG.out.below HB6.out)).mono ?_
    rintro e w7 ⟨rfl, hb7⟩
    have HB7 : Aside0 (Below w.heap.size w w7) := ⟨below_step (w := w) HB6.out hb7⟩
    clear hb7
    go_wp2_with (fail)
    go_ret
    exact ⟨by first | rfl | (simp; done), HB7.out⟩
  · by_cases ha : 4000 < arg.size
    case' pos =>
      have ha' : (4000 : Int) < (arg.size : Int) := by omega
    case' neg =>
      have ha' : ¬ (4000 : Int) < (arg.size : Int) := by omega
      have hs' : (4000 : Int) < (s.size : Int) := by omega
    all_goals
      clear h1
      go_enter Tryd.func3, Tryd.ntmps3
      go_wp2_with (fail)
      refine (lives_calls _ HG.out).mono ?_
      rintro e w7 ⟨rfl, hb7⟩
      go_wp2_with (fail)
      go_ret
      exact ⟨rfl, hb7⟩
end Go.Proofs.YtopcidphlleciaaDoor.S

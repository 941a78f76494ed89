/- The law DiskPlays. -/
import Derived.Test.YtcbgeakabchenaaGreatDoorDoeA
namespace Go.Proofs.YtcbgeakabchenaaGreatDoor.D
open Go.RowKit Go.Extern.Stop Go.Stop Go.Extern Go.Proofs.YtcbgeakabchenaaGreatDoorW.PrintWords Go.Proofs.YtcbgeakabchenaaGreatDoorW.PrintLast Go.Proofs.YtcbgeakabchenaaGreatDoorW.PrintMore
set_option linter.unusedVariables false
set_option linter.unusedSimpArgs false
/-- What a list of steps has. -/
def SL (w : World) (a : Option Addr) (n : Nat) : Prop := n ≤ maxLen ∧ ∀ i, i < n → ∃ (bb o : Nat) (D : Int) (N T : ByteArray) (m : Int), a = some ⟨bb, o, none⟩ ∧ bb < w.heap.size ∧ w.cell? ⟨bb, o + i * 4, none⟩ = some (.int .i64 D) ∧ w.cell? ⟨bb, o + i * 4 + 1, none⟩ = some (.string N) ∧ w.cell? ⟨bb, o + i * 4 + 2, none⟩ = some (.string T) ∧ w.cell? ⟨bb, o + i * 4 + 3, none⟩ = some (.int .i64 m) ∧ N.size ≤ 140737488351232 ∧ T.size ≤ 140737488351232
theorem RK.dead? {w : World} {p g : Nat} {s : St} (h : RK w p g s) : w.cell? ⟨p, 3, none⟩ = some (.bool s.dead) := by
  obtain ⟨_, _, _, _, _, c3, _⟩ := h.cells
  exact c3
theorem RK.cnt? {w : World} {p g : Nat} {s : St} (h : RK w p g s) : w.cell? ⟨p, 2, none⟩ = some (.int .i64 s.cnt) := by
  obtain ⟨_, _, _, _, c2, _, _⟩ := h.cells
  exact c2
theorem half_start {B : Nat} {w0 w w1 w2 : World} {p b : Nat} {cut : Int} (hB : B = w0.heap.size) (hw : w0 = w) (hp : w.heap.size ≤ p) (hb : w.heap.size ≤ b) (hd : DK w1 p b ⟨[], cut, 0, false⟩) (h1 : Below w.heap.size w w1) (hr : RK w2 w1.heap.size w1.heap.size ⟨[], cut, 0, false⟩) (h2 : Below w1.heap.size w1 w2) : Half B w0 w2 p b w1.heap.size w1.heap.size ⟨[], cut, 0, false⟩ ⟨[], cut, 0, false⟩ := by
  subst hw
  subst hB
  have h3 := hd.lt
  have h4 := hd.ltb
  have h5 := h1.size
  exact ⟨hd.below h2, hr, (fun q hq => by cases hq), (fun q hq => by cases hq), hp, hb, h5, h5, by omega, by omega, by omega, by omega, h1.trans (h2.mono h5)⟩
set_option maxHeartbeats 32000000 in
set_option maxRecDepth 100000 in
theorem plays_calls (cut : Int) (a : Option Addr) (n cap : Nat) (w : World) (hl : SL w a n) (hG : GE w) : Calls Tryz.prog 3 #[.int .i64 cut, .slice a n cap] w fun e w' => e = .returned (.bool true) ∧ Below w.heap.size w w' := by
  have HG := Aside0.mk hG
  have hB : 0 < w.heap.size := World.block_lt_of_cell? w _ hG
  have HB := Aside0.mk hB
  have HL := Aside0.mk hl
  have hn : n ≤ maxLen := hl.1
  unfold maxLen at hn
  clear hG hl hB
  go_enter Tryz.func3, Tryz.ntmps3
  go_wp2_with (fail)
  refine (new_calls cut _).mono ?_
  rintro e w1 ⟨p, b, rfl, hp, hb, hD, hb1⟩
  have HX := Aside0.mk (And.intro hp (And.intro hb (And.intro hD hb1)))
  clear hp hb hD hb1
  go_wp2_with (fail)
  refine (rnew_calls cut _).mono ?_
  rintro e w2 ⟨rfl, hR, hb2⟩
  have HH := Aside0.mk (half_start rfl rfl HX.out.1 HX.out.2.1 HX.out.2.2.1 HX.out.2.2.2 hR hb2)
  clear HX hR hb2
  have HQ : ∃ q, q = w1.heap.size := ⟨_, rfl⟩
  obtain ⟨q, hq⟩ := HQ
  rw [← hq] at HH ⊢
  clear hq
  go_wp2_with (fail)
  go_loopw [7] (fun v7 wr => ∃ (i g : Nat) (s : St), i ≤ n ∧ i ≤ 120 ∧ v7 = .int .i64 i ∧ Aside0 (Half w.heap.size w wr p b q g s s)) (fun v7 _ => n - (intOf v7).toNat)
  case atStart => exact ⟨0, q, _, Nat.zero_le _, Nat.zero_le _, rfl, HH⟩
  case round =>
    obtain ⟨i, g, s, hi, hi2, rfl, HX⟩ := hrel
    clear HH
    by_cases h1 : i < n
    · have h1' : (i : Int) < (n : Int) := by omega
      have h0' : (0 : Int) ≤ (i : Int) := by omega
      by_cases h2 : i < 120
      · have h2' : (i : Int) < 120 := by omega
        obtain ⟨bb, o, D, N, T, m, rfl, hab, e0, e1, e2, e3, hN, hT⟩ := HL.out.2 i h1
        have HNT := Aside0.mk (And.intro hN hT)
        have keep : ∀ o, wr.cell? ⟨bb, o, none⟩ = w.cell? ⟨bb, o, none⟩ := fun o => HX.out.below.cell (p := ⟨bb, o, none⟩) hab
        have k0 := (keep _).trans e0
        have k1 := (keep _).trans e1
        have k2 := (keep _).trans e2
        have k3 := (keep _).trans e3
        have HAB := Aside0.mk hab
        clear keep e0 e1 e2 e3 hab
        by_cases hts : T.size ≤ 16384
        · have hts' : ¬ (16384 : Int) < (T.size : Int) := by omega
          clear hN hT
          go_upto_region 9 with fail
          go_cut [56] (fun v56 wx => v56 = .bool false ∧ Aside0 (∃ g s, Half w.heap.size w wx p b q g s s))
          case first =>
            first | (go_region_with (first
              | (go_at_call 8; refine (does_calls D w.heap.size w p b q g s N T m _ (by first | exact HX.out | exact HX.out.drew1 | exact HX.out.drew _) HG.out HB.out HNT.out.1 HNT.out.2).mono ?_; rintro e w8 ⟨rfl, g8, s8, hH⟩; have H8 := Aside0.mk hH; have d3 := hH.r.dead?; have d2 := hH.r.cnt?; clear hH)
              | (go_at_call 9; refine ((dead_calls p b s8 _ H8.out.d).mono (R' := fun e w' => e = .returned (.bool s8.dead) ∧ _ = w') fun _ _ h => ⟨h.1, h.2.symm⟩).mono ?_; rintro e w9 ⟨rfl, rfl⟩)
              | (go_at_call 10; refine ((writes_calls p b s8 _ H8.out.d).mono (R' := fun e w' => e = .returned (.int .i64 s8.cnt) ∧ _ = w') fun _ _ h => ⟨h.1, h.2.symm⟩).mono ?_; rintro e w9 ⟨rfl, rfl⟩))) | fail
            all_goals (go_wp2_with (fail); go_meet; exact ⟨by first | rfl | (simp; done), ⟨_, _, H8.out⟩⟩)
          case rest =>
            obtain ⟨rfl, HC⟩ := hcut
            go_wp2_with (fail)
            go_roundw
            case measure => simp [intOf]; omega
            case rel =>
              obtain ⟨g8, s8, h8⟩ := HC.out
              exact ⟨i + 1, g8, s8, by omega, by omega, by simp, ⟨h8⟩⟩
        · have hts' : (16384 : Int) < (T.size : Int) := by omega
          clear hN hT
          go_wp2_with (fail)
          go_roundw
          case measure => simp [intOf]; omega
          case rel => exact ⟨i + 1, g, s, by omega, by omega, by simp, HX⟩
      · have h2' : ¬ (i : Int) < 120 := by omega
        go_wp2_with (fail)
        refine (stands' w.heap.size w p b q g s _ HX.out).mono ?_
        rintro e w8 ⟨rfl, hH, _⟩
        have H8 := Aside0.mk hH
        clear hH
        go_wp2_with (fail)
        refine (alive_calls _ (H8.out.ge HG.out HB.out)).mono ?_
        rintro e w9 ⟨rfl, hb⟩
        have H9 := Aside0.mk (H8.out.b hb)
        clear hb
        go_wp2_with (fail)
        go_ret
        exact ⟨rfl, H9.out.below⟩
    · have h1' : ¬ (i : Int) < (n : Int) := by omega
      go_wp2_with (fail)
      refine (stands' w.heap.size w p b q g s _ HX.out).mono ?_
      rintro e w8 ⟨rfl, hH, _⟩
      have H8 := Aside0.mk hH
      clear hH
      go_wp2_with (fail)
      refine (alive_calls _ (H8.out.ge HG.out HB.out)).mono ?_
      rintro e w9 ⟨rfl, hb⟩
      have H9 := Aside0.mk (H8.out.b hb)
      clear hb
      go_wp2_with (fail)
      go_ret
      exact ⟨rfl, H9.out.below⟩
end Go.Proofs.YtcbgeakabchenaaGreatDoor.D

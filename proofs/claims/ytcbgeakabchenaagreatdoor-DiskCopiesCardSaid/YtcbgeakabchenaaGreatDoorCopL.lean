/- The law DiskCopies. -/
import Derived.Test.YtcbgeakabchenaaGreatDoorCopQ
import Derived.Deep.RegionHeld3
namespace Go.Proofs.YtcbgeakabchenaaGreatDoor.D
open Go.RowKit Go.Extern.Stop Go.Stop Go.Extern Go.Proofs.YtcbgeakabchenaaGreatDoorW.PrintWords Go.Proofs.YtcbgeakabchenaaGreatDoorW.PrintLast Go.Proofs.YtcbgeakabchenaaGreatDoorW.PrintMore
set_option linter.unusedVariables false
set_option linter.unusedSimpArgs false
set_option maxHeartbeats 32000000 in
set_option maxRecDepth 100000 in
theorem copies_calls (cut : Int) (a a2 : Option Addr) (n cap n2 cap2 : Nat) (w : World) (hl : SL w a n) (hl2 : SL w a2 n2) (hG : GE w) : Calls Tryz.prog 4 #[.int .i64 cut, .slice a n cap, .slice a2 n2 cap2] w fun e w' => e = .returned (.bool true) ∧ Below w.heap.size w w' := by
  have HG := Aside0.mk hG
  have hB : 0 < w.heap.size := World.block_lt_of_cell? w _ hG
  have HB := Aside0.mk hB
  have HL := Aside0.mk hl
  have HL2 := Aside0.mk hl2
  have hn : n ≤ maxLen := hl.1
  have hn2 : n2 ≤ maxLen := hl2.1
  unfold maxLen at hn hn2
  clear hG hl hl2 hB
  go_enter Tryz.func4, Tryz.ntmps4
  go_wp2_with (fail)
  refine (new_calls cut _).mono ?_
  rintro e w1 ⟨p, b, rfl, hp, hb, hD, hb1⟩
  have HX := Aside0.mk (And.intro hp (And.intro hb (And.intro hD hb1)))
  clear hp hb hD hb1
  go_wp2_with (fail)
  refine (rnew_calls cut _).mono ?_
  rintro e w2 ⟨rfl, hR, hb2⟩
  have HH := Aside0.mk (half_start rfl rfl HX.out.1 HX.out.2.1 HX.out.2.2.1 HX.out.2.2.2 hR hb2)
  clear HX hR hb2
  have HQ : ∃ q, q = w1.heap.size := ⟨_, rfl⟩
  obtain ⟨q, hq⟩ := HQ
  rw [← hq] at HH ⊢
  clear hq
  go_wp2_with (fail)
  go_loopw [9] (fun v wr => ∃ (i g : Nat) (s : St), i ≤ n ∧ i ≤ 40 ∧ v = .int .i64 i ∧ Aside0 (Half w.heap.size w wr p b q g s s)) (fun v _ => n - (intOf v).toNat)
  case atStart => exact ⟨0, q, _, Nat.zero_le _, Nat.zero_le _, rfl, HH⟩
  case round =>
    obtain ⟨i, g, s, hi, hi2, rfl, HX⟩ := hrel
    by_cases h12 : i < n ∧ i < 40
    · skip
      obtain ⟨h1, h2⟩ := h12
      have h1' : (i : Int) < (n : Int) := by omega
      have h0' : (0 : Int) ≤ (i : Int) := by omega
      have h2' : (i : Int) < 40 := by omega
      obtain ⟨bb, o, D, N, T, m, rfl, hab, e0, e1, e2, e3, hN, hT⟩ := HL.out.2 i h1
      have HNT := Aside0.mk (And.intro hN hT)
      have keep : ∀ o, wr.cell? ⟨bb, o, none⟩ = w.cell? ⟨bb, o, none⟩ := fun o => HX.out.below.cell (p := ⟨bb, o, none⟩) hab
      have k0 := (keep _).trans e0
      have k1 := (keep _).trans e1
      have k2 := (keep _).trans e2
      have k3 := (keep _).trans e3
      clear keep e0 e1 e2 e3 hab
      by_cases hts : T.size < 4096
      · have hts' : (T.size : Int) < 4096 := by omega
        clear hN hT hts
        go_wp2_with (fail)
        refine (does_calls D w.heap.size w p b q g s N T m _ HX.out HG.out HB.out HNT.out.1 HNT.out.2).mono ?_
        rintro e w8 ⟨rfl, g8, s8, hH⟩
        have H8 := Aside0.mk hH
        clear hH
        go_wp2_with (fail)
        go_roundw
        case measure => simp [intOf]; omega
        case rel => exact ⟨i + 1, g8, s8, by omega, by omega, by simp, H8⟩
      · have hts' : ¬ (T.size : Int) < 4096 := by omega
        clear hN hT hts
        go_wp2_with (fail)
        go_roundw
        case measure => simp [intOf]; omega
        case rel => exact ⟨i + 1, g, s, by omega, by omega, by simp, HX⟩
    · have hq : ((i : Int) < (n : Int) ∧ ¬ (i : Int) < 40) ∨ ¬ (i : Int) < (n : Int) := by omega
      clear h12
      rcases hq with ⟨h1', h2'⟩ | h1'
      all_goals
        clear hi hi2
        go_wp2_with (fail)
        have HC := Aside0.mk HX.out
        clear HX
        obtain ⟨wc, hwc⟩ : ∃ wc : World, wc = wr := ⟨_, rfl⟩
        subst hwc
        refine (copy_calls p b s wc HC.out.d).mono ?_
        rintro e w1 ⟨p', b', rfl, hp', hb', hD', hb1⟩
        have HC1 := Aside0.mk (And.intro hp' (And.intro hb' (And.intro hD' hb1)))
        have HD1 := Aside0.mk (HC.out.b hb1)
        clear hp' hb' hD' hb1
        go_wp2_with (fail)
        refine (rcopy_calls q g s w1 HD1.out.r).mono ?_
        rintro e w2 ⟨q', g0, rfl, hq', hg', hR', hb2⟩
        have HH2 := Aside0.mk (half_copy HC1.out.1 HC1.out.2.1 HC1.out.2.2.1 HC1.out.2.2.2 hq' hg' hR' hb2 HC.out.gs)
        have HD2 := Aside0.mk (HD1.out.b hb2)
        clear hq' hg' hR' hb2 HC1 HD1
        go_wp2_with (fail)
        refine (same_calls p' b' p b s s w2 HH2.out.d HD2.out.d).mono ?_
        rw [decide_eq_true rfl]
        rintro e w3 ⟨rfl, hb3⟩
        have HH3 := Aside0.mk (HH2.out.b hb3)
        clear hb3 HH2 HD2
        go_wp2_with (fail)
        go_loopw [12] (fun v wr => ∃ (i g : Nat) (s : St), i ≤ n2 ∧ i ≤ 40 ∧ v = .int .i64 i ∧ Aside0 (Half wc.heap.size wc wr p' b' q' g s s)) (fun v _ => n2 - (intOf v).toNat)
        case atStart => exact ⟨0, g0, _, Nat.zero_le _, Nat.zero_le _, rfl, HH3⟩
        case round =>
          obtain ⟨i, g', t, hi, hi2, rfl, HX⟩ := hrel
          by_cases h12 : i < n2 ∧ i < 40
          · skip
            obtain ⟨h1, h2⟩ := h12
            have h1' : (i : Int) < (n2 : Int) := by omega
            have h0' : (0 : Int) ≤ (i : Int) := by omega
            have h2' : (i : Int) < 40 := by omega
            obtain ⟨bb, o, D, N, T, m, rfl, hab, e0, e1, e2, e3, hN, hT⟩ := HL2.out.2 i h1
            have HNT := Aside0.mk (And.intro hN hT)
            have keep : ∀ o, wr.cell? ⟨bb, o, none⟩ = w.cell? ⟨bb, o, none⟩ := fun o => (HX.out.below.cell (p := ⟨bb, o, none⟩) (Nat.lt_of_lt_of_le hab HC.out.below.size)).trans (HC.out.below.cell (p := ⟨bb, o, none⟩) hab)
            have k0 := (keep _).trans e0
            have k1 := (keep _).trans e1
            have k2 := (keep _).trans e2
            have k3 := (keep _).trans e3
            clear keep e0 e1 e2 e3 hab
            by_cases hts : T.size < 4096
            · have hts' : (T.size : Int) < 4096 := by omega
              clear hN hT hts
              go_wp2_with (fail)
              refine (does_calls D wc.heap.size wc p' b' q' g' t N T m _ HX.out (HC.out.ge HG.out HB.out) (Nat.lt_of_lt_of_le HB.out HC.out.le) HNT.out.1 HNT.out.2).mono ?_
              rintro e w8 ⟨rfl, g8, s8, hH⟩
              have H8 := Aside0.mk hH
              clear hH
              go_wp2_with (fail)
              go_roundw
              case measure => simp [intOf]; omega
              case rel => exact ⟨i + 1, g8, s8, by omega, by omega, by simp, H8⟩
            · have hts' : ¬ (T.size : Int) < 4096 := by omega
              clear hN hT hts
              go_wp2_with (fail)
              go_roundw
              case measure => simp [intOf]; omega
              case rel => exact ⟨i + 1, g', t, by omega, by omega, by simp, HX⟩
          · have hq : ((i : Int) < (n2 : Int) ∧ ¬ (i : Int) < 40) ∨ ¬ (i : Int) < (n2 : Int) := by omega
            clear h12
            rcases hq with ⟨h1', h2'⟩ | h1'
            all_goals
              clear hi hi2
              go_wp2_with (fail)
              have HP : Aside0 (∀ k, PP w wc (wr.drewN k) p b q g p' b' q' g' s t) := ⟨fun k => PP.drew ⟨HC.out.b HX.out.below, HX.out⟩ k⟩
              have zr := fun k => qz (HP.out k)
              clear HX
              go_region_held3 (fun w' => w'.cell? ⟨q, 2, none⟩ = some (.int .i64 s.cnt) ∧ w'.cell? ⟨q, 3, none⟩ = some (.bool s.dead)) (first | exact z12 | exact z15 | exact z16 | exact z11 | exact zr 1 | exact zr _ | go_keep) (first
                | (go_at_call 11; refine (stands' w.heap.size w p b q g s _ (by first | exact (HP.out 1).one | exact (HP.out _).one)).mono ?_; rintro e w11 ⟨rfl, hH, hb⟩; have H1 := Aside0.mk (PP.b (by first | exact HP.out 1 | exact HP.out _) hb); have z11 := qz H1.out; clear hH hb)
                | (go_at_call 10; refine ((writes_calls p b s _ (by first | exact H1.out.one.d | exact H15.out.one.d | exact (H16.out _).one.d)).mono (R' := fun e w' => e = .returned (.int .i64 s.cnt) ∧ _ = w') fun _ _ h => ⟨h.1, h.2.symm⟩).mono ?_; rintro e w9 ⟨rfl, rfl⟩)
                | (go_at_call 9; refine ((dead_calls p b s _ (by first | exact H1.out.one.d | exact H15.out.one.d | exact (H16.out _).one.d)).mono (R' := fun e w' => e = .returned (.bool s.dead) ∧ _ = w') fun _ _ h => ⟨h.1, h.2.symm⟩).mono ?_; rintro e w9 ⟨rfl, rfl⟩)
                | (go_at_call 15; refine (same_calls p' b' p b t s _ (by first | exact (H16.out _).two.d | exact H1.out.two.d) (by first | exact (H16.out _).one.d | exact H1.out.one.d)).mono ?_; rintro e w15 ⟨rfl, hb⟩; have H15 := Aside0.mk (PP.b (by first | exact H16.out _ | exact H1.out) hb); have z15 := qz H15.out; clear hb)
                | (go_at_call 16; refine (rsame_calls q' g' q g t s _ (by first | exact H15.out.two.r | exact H1.out.two.r) (by first | exact H15.out.one.r | exact H1.out.one.r)).mono ?_; rintro e w16 ⟨rfl, k, rfl⟩; first | (have H16 := Aside0.mk (fun k => PP.drew H15.out k); have z16 := qz (H16.out k)) | (have H16 := Aside0.mk (fun k => PP.drew H1.out k); have z16 := qz (H16.out k)))
                | (go_at_call 12; refine (alive_calls _ (by first | exact H15.out.one.ge HG.out HB.out | exact (H16.out _).one.ge HG.out HB.out)).mono ?_; rintro e w12 ⟨rfl, hb⟩; have HZ : Aside0 (Below w.heap.size w w12) := ⟨(by first | exact (H15.out.one.b hb).below | exact ((H16.out _).one.b hb).below)⟩; have z12 : w12.cell? ⟨q, 2, none⟩ = some (.int .i64 s.cnt) ∧ w12.cell? ⟨q, 3, none⟩ = some (.bool s.dead) := (by first | exact qz (PP.b H15.out hb) | exact qz (PP.b (H16.out _) hb)); clear hb))
              all_goals (go_wp2_with (fail); go_ret; exact ⟨by first | rfl | (simp; done), HZ.out⟩)
end Go.Proofs.YtcbgeakabchenaaGreatDoor.D

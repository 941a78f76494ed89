/- script.Check. -/
import Derived.Test.YtopcidphlleciaaGreatDoorProJ
namespace Go.Proofs.YtopcidphlleciaaGreatDoor.S
open Go.RowKit Go.Extern.Stop Go.Stop Go.Extern Go.Proofs.YtopcidphlleciaaGreatDoorW.PrintWords Go.Proofs.YtopcidphlleciaaGreatDoorW.PrintLast Go.Proofs.YtopcidphlleciaaGreatDoorW.PrintMore
set_option linter.unusedVariables false
set_option linter.unusedSimpArgs false
set_option maxHeartbeats 16000000 in
set_option maxRecDepth 100000 in
theorem check_some (word : ByteArray) (a : Option Addr) (n c : Nat) (w : World) (args : List ByteArray) (xk : ByteArray) (xl : Int) (xm : Bool) (hw : word.size ≤ 140737488351232) (hl : lkT tab word = some (xk, xl, xm)) (hL : LSt w a n args) (hG : GS w) (hT : GT w) : Calls Tryz.prog 21 #[.agg #[.string word, .slice a n c]] w fun e w' => ∃ v, e = .returned v ∧ EA w' v (checkF word args) ∧ Below w.heap.size w w' := by
  have HS : Aside0 (∀ w : World, Calls Tryz.prog 46 #[] w fun e w' => ∃ b, e = .returned (.map (some b)) ∧ w.heap.size ≤ b ∧ MapT w' b tab ∧ Below w.heap.size w w') := ⟨shapes_calls⟩
  have hwm : word.size ≤ maxLen := by unfold maxLen; omega
  have HK : Aside0 (∀ (W : World) b, MapT W b tab → (Instr.lookup 94 (.map (some b)) (.string word) true).run Tryz.prog W = .ok (.tuple #[.agg #[.string xk, .int .i64 xl, .bool xm], .bool true]) W) := ⟨fun W b hM => by
    have := hM.look_ok word hwm
    rw [hl] at this
    exact this⟩
  obtain ⟨hk4, hl0, hl1⟩ := kinds_small hl
  have hk4 : xk.size ≤ 4 := hk4
  have hl0 : 0 ≤ xl := hl0
  have hl1 : xl ≤ 1 := hl1
  obtain ⟨res, hres⟩ : ∃ r, checkF word args = r := ⟨_, rfl⟩
  rw [hres]
  have HR1 : Aside0 (∀ i, firstBad (tl xk) xm 0 args = some i → (302, word, (i : Int)) = res) := ⟨fun i h => by rw [← hres]; unfold checkF; rw [hl]; simp only; rw [h]⟩
  have HR2 : Aside0 (firstBad (tl xk) xm 0 args = none → ((args.length : Int) < xk.size - xl ∨ (xk.size < args.length ∧ (args.length - xk.size) % 2 = 1)) → (302, word, (args.length : Int)) = res) := ⟨fun h q => by rw [← hres]; unfold checkF; rw [hl]; simp only; rw [h]; simp only; rw [if_pos q]⟩
  have HR3 : Aside0 (firstBad (tl xk) xm 0 args = none → ¬ ((args.length : Int) < xk.size - xl ∨ (xk.size < args.length ∧ (args.length - xk.size) % 2 = 1)) → okB = res) := ⟨fun h q => by rw [← hres]; unfold checkF; rw [hl]; simp only; rw [h]; simp only; rw [if_neg q]⟩
  have HL := Aside0.mk hL
  have HN : Aside0 (args.length = n) := ⟨hL.1⟩
  have hn62 : n ≤ 8796093022208 := hL.2.1
  have HG := Aside0.mk hG
  have HT := Aside0.mk hT
  clear hl hwm hL hG hT hres
  go_enter Tryz.func21, Tryz.ntmps21
  go_wp2_with (fail)
  go_upto_region 1 with fail
  go_cut [3, 4] (fun v3 v4 wx => ∃ g, v3 = .pointer (some ⟨g, 0, none⟩) ∧ v4 = .bool true ∧ Aside0 (TopC w wx word a n c g xk xl xm))
  case first =>
    go_region_held3 (fun w' => w'.cell? ⟨w.heap.size, 0, none⟩ = some (.string word)) (first | exact z1 | go_keep) (first
      | (go_at_call 46; refine (HS.out _).mono ?_; rintro e w5 ⟨b, rfl, hbs, hM, hb⟩; have HM5 := Aside0.mk hM; have z1 : w5.cell? ⟨w.heap.size, 0, none⟩ = some (.string word) := pw_cell_below hb (by simp); have y0 := fun (p : Addr) h => hb.cell (p := p) h; have y1 := fun (p : Addr) h => hb.frozen (p := p) h; have z2 : w5.cell? ⟨w.heap.size, 1, none⟩ = some (.slice a n c) := pw_cell_below hb (by simp); have hz5 : w.heap.size < w5.heap.size := Nat.lt_of_lt_of_le (by first | (simp; done) | (simp; omega)) hb.size; have hn5 : w.heap.size ≠ w5.heap.size := Nat.ne_of_lt hz5; have HW := Aside0.mk (below_step (w := w) (by first | exact below_drew1 ((Below.refl _ _).alloc (Nat.le_refl _) _) | exact below_drew1 (((Below.refl _ _).alloc (Nat.le_refl _) _).alloc (by simp) _) | exact (below_drew1 ((Below.refl _ _).alloc (Nat.le_refl _) _)).alloc (by simp) _ | exact (Below.refl _ _).alloc (Nat.le_refl _) _ | exact ((Below.refl _ _).alloc (Nat.le_refl _) _).alloc (by simp) _) hb); have hlk0 := HK.out w5 b hM; have hlk1 := fun o => HK.out (w5.alloc o) b (hM.below ((Below.refl _ _).alloc (Nat.le_refl _) o)); clear hM hb))
    all_goals
      go_wp2_with (fail)
      go_meet
      first
        | exact ⟨_, rfl, rfl, ⟨top_alloc HW.out hz5 z1 z2⟩⟩
        | exact ⟨_, rfl, rfl, ⟨top_set HW.out (Nat.lt_succ_self _) (by rw [y0 _ (by simp)]; simp) (by rw [y0 _ (by simp)]; simp) (by rw [y0 _ (by simp)]; simp) z1 z2⟩⟩
  case rest =>
    obtain ⟨g, rfl, rfl, HC⟩ := hcut
    have c0 := HC.out.1
    have c3 := HC.out.2.2.2.1
    have c4 := HC.out.2.2.2.2.1
    go_wp2_with (fail)
    go_region
    go_wp2_with (fail)
    go_loopw [7, 8, 30] (fun v7 v8 v30 wr => ∃ i : Nat, i ≤ n ∧ v30 = .int .i64 i ∧ Aside0 (TopC w wr word a n c g xk xl xm ∧ w.heap.size ≤ wr.heap.size ∧ firstBad (tl xk) xm 0 args = firstBad (tl xk) xm i (args.drop i))) (fun _ _ v30 _ => n - (intOf v30).toNat)
    case atStart => exact ⟨0, Nat.zero_le _, rfl, ⟨HC.out.below (below_drew1 (Below.refl _ _)), HC.out.2.2.2.2.2.size, by rw [List.drop_zero]⟩⟩
    case round =>
      obtain ⟨i, hi, rfl, HX⟩ := hrel
      have b0 := HX.out.1.1
      have b1 := HX.out.1.2.1
      have b2 := HX.out.1.2.2.1
      have b3 := HX.out.1.2.2.2.1
      clear c0 c3 c4
      by_cases h1 : i < n
      · have h1' : (i : Int) < (n : Int) := by omega
        have h0' : (0 : Int) ≤ (i : Int) := by omega
        have hil : i < args.length := by rw [HN.out]; exact h1
        obtain ⟨ab, ao, rfl, hcell⟩ := HL.out.2.2.1 (by omega)
        have a1 : wr.cell? ⟨ab, ao + i, none⟩ = some (.string args[i]) := pw_cell_below HX.out.1.2.2.2.2.2 (hcell i hil)
        have hsz := HL.out.2.2.2 _ (List.getElem_mem hil)
        have HSTEP : Aside0 (firstBad (tl xk) xm 0 args = if badAt (tl xk) xm i (tl args[i]) = true then some i else firstBad (tl xk) xm (i + 1) (args.drop (i + 1))) := ⟨HX.out.2.2.trans (firstBad_step _ _ _ _ hil)⟩
        generalize args[i] = s at *
        clear hcell hil
        by_cases hk : i < xk.size
        · have hk' : (i : Int) < (xk.size : Int) := by omega
          have hk'' : ¬ (xk.size : Int) ≤ (i : Int) := by omega
          obtain ⟨kb, hkb⟩ : ∃ kb, xk[i]'hk = kb := ⟨_, rfl⟩
          have HKB : Aside0 ((tl xk)[i]? = some kb) := ⟨by rw [List.getElem?_eq_getElem (by rw [Array.length_toList]; exact hk)]; exact congrArg some hkb⟩
          obtain ⟨fb, hfb⟩ : ∃ fb, fitB kb (tl s) = fb := ⟨_, rfl⟩
          have HBA : Aside0 (badAt (tl xk) xm i (tl s) = !fb) := ⟨by unfold badAt; rw [HKB.out]; simp only; rw [hfb]⟩
          have HF : Aside0 (∀ W, Below w.heap.size w W → Calls Tryz.prog 47 #[.int .u8 (kb.toNat : Int), .string s] W fun e w' => e = .returned (.bool fb) ∧ Below W.heap.size W w') := ⟨fun W hW => by have := fits_calls kb s hsz W (HG.out.below hW) (tab_below HT.out hW); rw [hfb] at this; exact this⟩
          clear hfb
          cases fb
          case true =>
            go_wp2_with (fail)
            refine (HF.out _ HX.out.1.2.2.2.2.2).mono ?_
            rintro e w5 ⟨rfl, hb⟩
            have HX5 := Aside0.mk (HX.out.1.below hb)
            have hz5 := hb.size
            go_wp2_with (fail)
            exact ⟨⟨i + 1, by omega, by simp, ⟨HX5.out, Nat.le_trans HX.out.2.1 hz5, by rw [HSTEP.out, HBA.out]; rfl⟩⟩, by simp [intOf]; omega⟩
          case false =>
            go_wp2_with (fail)
            refine (HF.out _ HX.out.1.2.2.2.2.2).mono ?_
            rintro e w5 ⟨rfl, hb⟩
            have HX5 := Aside0.mk (HX.out.1.below hb)
            have d3 := HX5.out.2.2.2.1
            clear hb
            go_wp2_with (fail)
            refine (fault_calls 302 word i _ (by decide)).mono ?_
            rintro e w6 ⟨v, rfl, hE, hb⟩
            go_wp2_with (fail)
            go_ret
            exact ⟨_, rfl, by rw [← HR1.out i (by rw [HSTEP.out, HBA.out]; rfl)]; exact hE, below_step (w := w) HX5.out.2.2.2.2.2 hb⟩
        · have hk' : ¬ (i : Int) < (xk.size : Int) := by omega
          have hk'' : (xk.size : Int) ≤ (i : Int) := by omega
          have HBA : Aside0 (badAt (tl xk) xm i (tl s) = !xm) := ⟨by unfold badAt; rw [List.getElem?_eq_none (by rw [Array.length_toList]; exact Nat.not_lt.1 hk)]⟩
          cases xm
          case true =>
            go_wp2_with (fail)
            exact ⟨⟨i + 1, by omega, by simp, ⟨HX.out.1, HX.out.2.1, by rw [HSTEP.out, HBA.out]; rfl⟩⟩, by simp [intOf]; omega⟩
          case false =>
            go_wp2_with (fail)
            refine (fault_calls 302 word i _ (by decide)).mono ?_
            rintro e w6 ⟨v, rfl, hE, hb⟩
            go_wp2_with (fail)
            go_ret
            exact ⟨_, rfl, by rw [← HR1.out i (by rw [HSTEP.out, HBA.out]; rfl)]; exact hE, below_step (w := w) HX.out.1.2.2.2.2.2 hb⟩
      · have h1' : ¬ (i : Int) < (n : Int) := by omega
        have HE : Aside0 (firstBad (tl xk) xm 0 args = none) := ⟨HX.out.2.2.trans (firstBad_end _ _ _ _ (by rw [HN.out]; omega))⟩
        by_cases p1 : (n : Int) < (xk.size : Int) - xl
        · go_wp2_with (fail)
          refine (fault_calls 302 word n _ (by decide)).mono ?_
          rintro e w6 ⟨v, rfl, hE, hb⟩
          go_wp2_with (fail)
          go_ret
          exact ⟨_, rfl, by rw [← HR2.out HE.out (.inl (by rw [HN.out]; exact p1)), HN.out]; exact hE, below_step (w := w) HX.out.1.2.2.2.2.2 hb⟩
        · by_cases p2 : (xk.size : Int) < (n : Int)
          · by_cases p3 : ((n : Int) - (xk.size : Int)) % 2 = 1
            · go_wp2_with (fail)
              refine (fault_calls 302 word n _ (by decide)).mono ?_
              rintro e w6 ⟨v, rfl, hE, hb⟩
              go_wp2_with (fail)
              go_ret
              exact ⟨_, rfl, by rw [← HR2.out HE.out (.inr ⟨by rw [HN.out]; omega, by rw [HN.out]; omega⟩), HN.out]; exact hE, below_step (w := w) HX.out.1.2.2.2.2.2 hb⟩
            · go_wp2_with (fail)
              go_ret
              exact ⟨_, rfl, .inl ⟨by rw [← HR3.out HE.out (by rw [HN.out]; rintro (q | ⟨q1, q2⟩) <;> omega)]; rfl, (HR3.out HE.out (by rw [HN.out]; rintro (q | ⟨q1, q2⟩) <;> omega)).symm, rfl⟩, HX.out.1.2.2.2.2.2⟩
          · go_wp2_with (fail)
            go_ret
            exact ⟨_, rfl, .inl ⟨by rw [← HR3.out HE.out (by rw [HN.out]; rintro (q | ⟨q1, q2⟩) <;> omega)]; rfl, (HR3.out HE.out (by rw [HN.out]; rintro (q | ⟨q1, q2⟩) <;> omega)).symm, rfl⟩, HX.out.1.2.2.2.2.2⟩
theorem check_calls (word : ByteArray) (args : List ByteArray) (a : Option Addr) (n c : Nat) (w : World) (hw : word.size ≤ 140737488351232) (hL : LSt w a n args) (hG : GS w) (hT : GT w) : Calls Tryz.prog 21 #[.agg #[.string word, .slice a n c]] w fun e w' => ∃ v, e = .returned v ∧ EA w' v (checkF word args) ∧ Below w.heap.size w w' := by
  cases hl : lkT tab word with
  | none =>
    have : checkF word args = (301, word, -1) := by unfold checkF; rw [hl]
    rw [this]
    exact check_none word a n c w hw hl
  | some x =>
    obtain ⟨xk, xl, xm⟩ := x
    exact check_some word a n c w args xk xl xm hw hl hL hG hT
end Go.Proofs.YtopcidphlleciaaGreatDoor.S

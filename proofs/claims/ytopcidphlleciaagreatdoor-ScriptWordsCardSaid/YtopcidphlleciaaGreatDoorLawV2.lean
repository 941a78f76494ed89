/- ScriptWords' law walked. -/
import Derived.Test.YtopcidphlleciaaGreatDoorLawV
import Derived.Laws.Cover1
import Derived.Sort.Walk0
namespace Go.Proofs.YtopcidphlleciaaGreatDoor.S
open Go.RowKit Go.Extern.Stop Go.Stop Go.Extern Go.Proofs.YtopcidphlleciaaGreatDoorW.PrintWords Go.Proofs.YtopcidphlleciaaGreatDoorW.PrintLast Go.Proofs.YtopcidphlleciaaGreatDoorW.PrintMore
set_option linter.unusedVariables false
set_option linter.unusedSimpArgs false
open Go.Maps
set_option maxHeartbeats 64000000 in
set_option maxRecDepth 100000 in
theorem law_walk (w : World) (hG : GW w) : Calls Tryz.prog 8 #[] w fun e w' => e = .returned (.bool true) ∧ Below w.heap.size w w' := by
  obtain ⟨i0, hi0, hz0, hz1, hz2⟩ := info_parts infoS
  have HG := Aside0.mk hG
  clear hG
  go_enter Tryz.func8, Tryz.ntmps8
  go_wp2_with (fail)
  refine (rwords_calls _).mono ?_
  rintro e w1 ⟨rfl, hL1, hb1⟩
  have HB1 := Aside0.mk hb1
  have HL1 := Aside0.mk hL1
  have hz1' : w.heap.size < w1.heap.size := by
    obtain ⟨g, o, e, hc⟩ := hL1.2.2.1 (by decide)
    cases e
    exact World.block_lt_of_cell? _ _ (hc 0 (by decide))
  clear hb1 hL1
  go_wp2_with (fail)
  go_loopw [2] (fun v2 wr => ∃ t : Nat, t ≤ 2 ∧ v2 = .int .i64 t ∧ Aside0 (Below w1.heap.size w1 wr)) (fun v2 _ => 2 - (intOf v2).toNat)
  case atStart => exact ⟨0, by decide, rfl, ⟨Below.refl _ _⟩⟩
  case round =>
    obtain ⟨t, ht, rfl, HT⟩ := hrel
    have HTW : Aside0 (Below w.heap.size w wr) := ⟨below_step (w := w) HB1.out HT.out⟩
    by_cases h1 : t < 2
    · have h1' : (t : Int) < 2 := by omega
      go_wp2_with (fail)
      refine (words_calls _).mono ?_
      rintro e w2 ⟨g, c, rfl, hrow, hb2⟩
      obtain ⟨hgb, hws⟩ := own_ws hrow
      have HB2 : Aside0 (Below w1.heap.size w1 w2) := ⟨below_step (w := w1) HT.out hb2⟩
      have HWS := Aside0.mk hws
      have hg1 : w1.heap.size ≤ g := Nat.le_trans HT.out.size hgb
      clear hrow hb2 hws hgb
      go_wp2_with (fail)
      go_loopw [4] (fun v4 wx => ∃ i : Nat, i ≤ 37 ∧ v4 = .int .i64 i ∧ Aside0 (Below w1.heap.size w1 wx ∧ WS wx g i)) (fun v4 _ => 37 - (intOf v4).toNat)
      case atStart => exact ⟨0, by decide, rfl, ⟨HB2.out, HWS.out⟩⟩
      case round =>
        obtain ⟨i, hi, rfl, HX⟩ := hrel
        have HWX : Aside0 (Below w.heap.size w wr) := ⟨below_step (w := w) HB1.out HX.out.1⟩
        by_cases h2 : i < 37
        · have h2' : (i : Int) < 37 := by omega
          have hil : i < wordsL.length := h2
          have c1 : wr.cell? ⟨g, i, none⟩ = some (.string wordsL[i]) := HX.out.2.2.1 i hil (Nat.le_refl _)
          have d1 : wr.cell? ⟨w.heap.size, i, none⟩ = some (.string wordsL[i]) := by
            obtain ⟨g', o', e, hc⟩ := HL1.out.2.2.1 (by decide)
            cases e
            have := pw_cell_below HX.out.1 (hc i hil)
            rw [Nat.zero_add] at this
            exact this
          have HMEM := Aside0.mk (List.getElem_mem hil)
          have HPREV : Aside0 (∀ j (h : i = j + 1), wr.cell? ⟨w.heap.size, j, none⟩ = some (.string (wordsL[j]'(by omega))) ∧ ¬ (tl wordsL[i] ≤ tl (wordsL[j]'(by omega)))) := ⟨fun j h => by
            have hj : j < wordsL.length := by omega
            refine ⟨?_, ?_⟩
            · obtain ⟨g', o', e, hc⟩ := HL1.out.2.2.1 (by decide)
              cases e
              have := pw_cell_below HX.out.1 (hc j hj)
              rw [Nat.zero_add] at this
              exact this
            · have := List.pairwise_iff_getElem.1 words_ris j i (by simpa using hj) (by simpa using hil) (by omega)
              simp only [List.getElem_map] at this
              exact List.not_le.2 this⟩
          obtain ⟨x, hx⟩ : ∃ x, wordsL[i] = x := ⟨_, rfl⟩
          rw [hx] at c1 d1 HMEM
          obtain ⟨k, le, mo, hlk, hk4, hck⟩ := words_ok HMEM.out
          have hk0 : k.size ≤ 4 := hk4
          have HAR : Aside0 (∀ W, Calls Tryz.prog 27 #[.string x] W fun e w' => e = .returned (.tuple #[.string k, .int .i64 le, .bool mo, .bool true]) ∧ Below W.heap.size W w') := ⟨fun W => (args_calls x W).mono fun _ _ h => ⟨by rw [h.1, hlk]; rfl, h.2 ▸ Below.refl _ _⟩⟩
          have HCK := Aside0.mk hck
          have hxs : x.size ≤ 140737488351232 := HL1.out.2.2.2 x HMEM.out
          have hxx : (x.toList == x.toList) = true := by simp
          have h0i : (0 : Int) ≤ (i : Int) := by omega
          have hnl : ¬ (i : Int) < 0 := by omega
          rcases Nat.eq_zero_or_pos i with hz | hpos
          · clear hlk hck HPREV
            subst hz
            go_wp2_with (fail)
            go_quiet (fail)
            have HWQ : Aside0 (Below w1.heap.size w1 (wr.drewN nq)) := ⟨below_step (w := w1) HX.out.1 (pw_below_drewN (Below.refl _ _) nq)⟩
            have HXQ : Aside0 (WS (wr.drewN nq) g _) := ⟨HX.out.2⟩
            have k1 : (wr.drewN nq).cell? ⟨g, _, none⟩ = some (.string x) := c1
            go_wp2_with (fail)
            refine (HAR.out _).mono ?_
            rintro e w5 ⟨rfl, hb5⟩
            have HB5 : Aside0 (Below w1.heap.size w1 w5) := ⟨below_step (w := w1) HWQ.out hb5⟩
            have HX5 := Aside0.mk (HXQ.out.below hb5)
            have f1 := pw_cell_below hb5 k1
            clear hb5
            go_wp2_with (fail)
            go_loopw [5, 10] (fun v5 v10 wy => ∃ n : Nat, n ≤ k.size ∧ v10 = .int .i64 n ∧ wy.ownsRow w5.heap.size 9 1 v5 n ((List.replicate n (⟨#[48]⟩ : ByteArray)).map Value.string) ∧ Aside0 (Below w5.heap.size w5 wy)) (fun _ v10 _ => k.size - (intOf v10).toNat)
            case atStart => exact ⟨0, Nat.zero_le _, rfl, World.ownsRow_nil _ _ _ _, ⟨Below.refl _ _⟩⟩
            case round =>
              obtain ⟨n, hn, rfl, hrow, HY⟩ := hrel
              by_cases h3 : n < k.size
              · have h3' : (n : Int) < (k.size : Int) := by omega
                go_wp2_with (first
                  | (at_builtin; refine wpList_append_own _ rfl _ _ 23 rfl w5.heap.size 9 i0 (.string ⟨#[]⟩) 1 16 Tryz.underlying23 hi0 hz0 hz1 hz2 rfl (by decide) _ _ _ rfl (hrow.alloc _) ⟨wr.heap.size, 0, none⟩ 1 1 [.string ⟨#[48]⟩] rfl rfl (cell_one_new _ _ _) (by simp [Value.oneCell']) (by unfold maxLen; omega) (by omega) (by have := HY.out.size; simp; omega) ?_; intro v' w3 hown' hg3 hnil3; go_frame)
                  | go_in)
                go_roundw
                case rel =>
                  refine ⟨n + 1, by omega, by simp, ?_, ⟨(HY.out.alloc HY.out.size _).grown hg3 (by have := HY.out.size; simp; omega) (fun j hj => (hrow.lt j hj).1)⟩⟩
                  rw [List.replicate_succ', List.map_append]
                  exact hown'
                case measure => simp [intOf]; omega
              · have h3' : ¬ (n : Int) < (k.size : Int) := by omega
                have hnk : n = k.size := by omega
                subst hnk
                obtain ⟨A, ca, rfl⟩ := own_form hrow
                have HLA : Aside0 (LSt wr A k.size (List.replicate k.size ⟨#[48]⟩)) := ⟨own_lst hrow (by omega) (fun z hz => by rw [List.eq_of_mem_replicate hz]; decide)⟩
                have HBY : Aside0 (Below w1.heap.size w1 wr) := ⟨below_step (w := w1) HB5.out HY.out⟩
                have m1 := pw_cell_below HY.out f1
                have HXY := Aside0.mk (HX5.out.below HY.out)
                have HC : Aside0 (Calls Tryz.prog 21 #[.agg #[.string x, .slice A k.size ca]] wr fun e w' => e = .returned .nilIface ∧ Below wr.heap.size wr w') := ⟨by
                  have hGW := HG.out.below (below_step (w := w) HB1.out HBY.out)
                  have := check_calls x _ A k.size ca wr hxs HLA.out hGW.1 hGW.2.1
                  rw [HCK.out] at this
                  exact this.mono (by
                    rintro e w' ⟨v, rfl, hE, hb⟩
                    exact ⟨by rw [hE.nil], hb⟩)⟩
                clear hrow f1 k1
                go_wp2_with (fail)
                refine HC.out.mono ?_
                rintro e w6 ⟨rfl, hb6⟩
                have HB6 : Aside0 (Below w1.heap.size w1 w6) := ⟨below_step (w := w1) HBY.out hb6⟩
                have HX6 := Aside0.mk (HXY.out.below hb6)
                have o1 := pw_cell_below hb6 m1
                have o2 := HX6.out.2.2
                clear hb6 m1
                go_wp2_with (fail)
                exact ⟨⟨_, Nat.succ_le_of_lt h2, by simp, ⟨HB6.out.setCell hg1 _, HX6.out.set _⟩⟩, by first | (simp [intOf]; done) | (simp [intOf]; omega)⟩
          · obtain ⟨j, hj⟩ : ∃ j, j + 1 = i := ⟨i - 1, by omega⟩
            obtain ⟨e1, hle⟩ := HPREV.out j hj.symm
            rw [hx] at hle
            obtain ⟨y, hy⟩ : ∃ y, wordsL[j]'(by omega) = y := ⟨_, rfl⟩
            rw [hy] at e1 hle
            have hgt : decide (0 < i) = true := decide_eq_true hpos
            have hij : (i : Int) - 1 = (j : Int) := by omega
            have hj0 : (0 : Int) ≤ (j : Int) := by omega
            have hjn : ¬ (j : Int) < 0 := by omega
            have hj37 : (j : Int) < 37 := by omega
            have hjN : j < 37 := by omega
            have hwj : IntKind.i64.wrap (j : Int) = (j : Int) := by rw [IntKind.wrap_i64]; omega
            have hbl : Op.bytesLess x.toList y.toList = false := by
              rw [bytesLess_eq, ByteArray.toList_eq, ByteArray.toList_eq]
              exact decide_eq_false fun q => hle (List.le_of_lt q)
            have hbe : (x.toList == y.toList) = false := by
              rw [beq_eq_false_iff_ne, ByteArray.toList_eq, ByteArray.toList_eq]
              exact fun q => hle (by rw [show tl x = tl y from q]; exact List.le_refl _)
            clear hlk hck HPREV hx hy hpos hj hle
            go_wp2_with (fail)
            go_quiet (fail)
            have HWQ : Aside0 (Below w1.heap.size w1 (wr.drewN nq)) := ⟨below_step (w := w1) HX.out.1 (pw_below_drewN (Below.refl _ _) nq)⟩
            have HXQ : Aside0 (WS (wr.drewN nq) g _) := ⟨HX.out.2⟩
            have k1 : (wr.drewN nq).cell? ⟨g, _, none⟩ = some (.string x) := c1
            go_wp2_with (fail)
            refine (HAR.out _).mono ?_
            rintro e w5 ⟨rfl, hb5⟩
            have HB5 : Aside0 (Below w1.heap.size w1 w5) := ⟨below_step (w := w1) HWQ.out hb5⟩
            have HX5 := Aside0.mk (HXQ.out.below hb5)
            have f1 := pw_cell_below hb5 k1
            clear hb5
            go_wp2_with (fail)
            go_loopw [5, 10] (fun v5 v10 wy => ∃ n : Nat, n ≤ k.size ∧ v10 = .int .i64 n ∧ wy.ownsRow w5.heap.size 9 1 v5 n ((List.replicate n (⟨#[48]⟩ : ByteArray)).map Value.string) ∧ Aside0 (Below w5.heap.size w5 wy)) (fun _ v10 _ => k.size - (intOf v10).toNat)
            case atStart => exact ⟨0, Nat.zero_le _, rfl, World.ownsRow_nil _ _ _ _, ⟨Below.refl _ _⟩⟩
            case round =>
              obtain ⟨n, hn, rfl, hrow, HY⟩ := hrel
              by_cases h3 : n < k.size
              · have h3' : (n : Int) < (k.size : Int) := by omega
                go_wp2_with (first
                  | (at_builtin; refine wpList_append_own _ rfl _ _ 23 rfl w5.heap.size 9 i0 (.string ⟨#[]⟩) 1 16 Tryz.underlying23 hi0 hz0 hz1 hz2 rfl (by decide) _ _ _ rfl (hrow.alloc _) ⟨wr.heap.size, 0, none⟩ 1 1 [.string ⟨#[48]⟩] rfl rfl (cell_one_new _ _ _) (by simp [Value.oneCell']) (by unfold maxLen; omega) (by omega) (by have := HY.out.size; simp; omega) ?_; intro v' w3 hown' hg3 hnil3; go_frame)
                  | go_in)
                go_roundw
                case rel =>
                  refine ⟨n + 1, by omega, by simp, ?_, ⟨(HY.out.alloc HY.out.size _).grown hg3 (by have := HY.out.size; simp; omega) (fun j hj => (hrow.lt j hj).1)⟩⟩
                  rw [List.replicate_succ', List.map_append]
                  exact hown'
                case measure => simp [intOf]; omega
              · have h3' : ¬ (n : Int) < (k.size : Int) := by omega
                have hnk : n = k.size := by omega
                subst hnk
                obtain ⟨A, ca, rfl⟩ := own_form hrow
                have HLA : Aside0 (LSt wr A k.size (List.replicate k.size ⟨#[48]⟩)) := ⟨own_lst hrow (by omega) (fun z hz => by rw [List.eq_of_mem_replicate hz]; decide)⟩
                have HBY : Aside0 (Below w1.heap.size w1 wr) := ⟨below_step (w := w1) HB5.out HY.out⟩
                have m1 := pw_cell_below HY.out f1
                have HXY := Aside0.mk (HX5.out.below HY.out)
                have HC : Aside0 (Calls Tryz.prog 21 #[.agg #[.string x, .slice A k.size ca]] wr fun e w' => e = .returned .nilIface ∧ Below wr.heap.size wr w') := ⟨by
                  have hGW := HG.out.below (below_step (w := w) HB1.out HBY.out)
                  have := check_calls x _ A k.size ca wr hxs HLA.out hGW.1 hGW.2.1
                  rw [HCK.out] at this
                  exact this.mono (by
                    rintro e w' ⟨v, rfl, hE, hb⟩
                    exact ⟨by rw [hE.nil], hb⟩)⟩
                clear hrow f1 k1
                go_wp2_with (fail)
                refine HC.out.mono ?_
                rintro e w6 ⟨rfl, hb6⟩
                have HB6 : Aside0 (Below w1.heap.size w1 w6) := ⟨below_step (w := w1) HBY.out hb6⟩
                have HX6 := Aside0.mk (HXY.out.below hb6)
                have o1 := pw_cell_below hb6 m1
                have o2 := HX6.out.2.2
                clear hb6 m1
                go_wp2_with (fail)
                exact ⟨⟨_, Nat.succ_le_of_lt h2, by simp, ⟨HB6.out.setCell hg1 _, HX6.out.set _⟩⟩, by first | (simp [intOf]; done) | (simp [intOf]; omega)⟩
        · have h2' : ¬ (i : Int) < 37 := by omega
          go_wp2_with (fail)
          exact ⟨⟨t + 1, by omega, by simp, ⟨HX.out.1⟩⟩, by first | (simp [intOf]; done) | (simp [intOf]; omega)⟩
    · have h1' : ¬ (t : Int) < 2 := by omega
      go_wp2_with (fail)
      refine (lives_calls _ (HG.out.below HTW.out)).mono ?_
      rintro e wa ⟨rfl, hba⟩
      have HBa : Aside0 (Below w.heap.size w wa) := ⟨below_step (w := w) HTW.out hba⟩
      clear hba
      go_wp2_with (fail)
      go_ret
      exact ⟨rfl, HBa.out⟩
end Go.Proofs.YtopcidphlleciaaGreatDoor.S

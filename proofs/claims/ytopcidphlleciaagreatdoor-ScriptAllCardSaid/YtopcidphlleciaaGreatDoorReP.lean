/- The document's Check. -/
import Derived.Test.YtopcidphlleciaaGreatDoorReL
import Derived.Test.YtopcidphlleciaaGreatDoorProL
import Derived.Test.YtopcidphlleciaaGreatDoorReN
import Derived.Test.YtopcidphlleciaaGreatDoorProK
import Derived.Test.YtopcidphlleciaaGreatDoorReB
namespace Go.Proofs.YtopcidphlleciaaGreatDoor.S
open Go.RowKit Go.Extern.Stop Go.Stop Go.Extern Go.Proofs.YtopcidphlleciaaGreatDoorW.PrintWords Go.Proofs.YtopcidphlleciaaGreatDoorW.PrintLast Go.Proofs.YtopcidphlleciaaGreatDoorW.PrintMore
set_option linter.unusedVariables false
set_option linter.unusedSimpArgs false
theorem load_bad (W : World) (g : Nat) (c0 c1 c2 : Value) (h0 : W.cell? ⟨g, 0, none⟩ = some c0) (h1 : W.cell? ⟨g, 1, none⟩ = some c1) (h2 : W.cell? ⟨g, 2, none⟩ = some c2) : (loadVar 31 ⟨g, 0, none⟩).run Tryz.prog W = .ok (.agg #[c0, c1, c2]) W := by
  have hi : (isAgg 31).run Tryz.prog W = .ok true W := by kernel_rfl
  have hz : (sizeOf 31).run Tryz.prog W = .ok 3 W := by kernel_rfl
  simp [loadVar, hi, hz, h0, h1, h2, Result.andThen, loadCells, loadCellsFrom, Addr.add]
theorem res_bad {fn : Func} {p : Tmp} (h : fn.results = #[.cell p 31]) (tmps : Array Value) (W : World) (g : Nat) (c0 c1 c2 : Value) (hp : tmps.getD p undef = .pointer (some ⟨g, 0, none⟩)) (h0 : W.cell? ⟨g, 0, none⟩ = some c0) (h1 : W.cell? ⟨g, 1, none⟩ = some c1) (h2 : W.cell? ⟨g, 2, none⟩ = some c2) :
    (results fn tmps).run Tryz.prog W = .ok (.agg #[c0, c1, c2]) W := by
  have hp' : tmps[p]?.getD undef = .pointer (some ⟨g, 0, none⟩) := by simpa using hp
  simp [results, h, hp', asAddr, load_bad W g c0 c1 c2 h0 h1 h2, Result.andThen]
/-- Storing what is wrong into the variable of the result. -/
theorem set_bad {w w6 : World} {g : Nat} {a b c : Value} (hg : w.heap.size ≤ g) (hB : Below w.heap.size w w6) (h0 : (w6.cell? ⟨g, 0, none⟩).isSome = true) (h1 : (w6.cell? ⟨g, 1, none⟩).isSome = true) (h2 : (w6.cell? ⟨g, 2, none⟩).isSome = true) :
    Below w.heap.size w (((w6.setCell ⟨g, 0, none⟩ a).setCell ⟨g, 1, none⟩ b).setCell ⟨g, 2, none⟩ c) ∧ (((w6.setCell ⟨g, 0, none⟩ a).setCell ⟨g, 1, none⟩ b).setCell ⟨g, 2, none⟩ c).cell? ⟨g, 0, none⟩ = some a ∧ (((w6.setCell ⟨g, 0, none⟩ a).setCell ⟨g, 1, none⟩ b).setCell ⟨g, 2, none⟩ c).cell? ⟨g, 1, none⟩ = some b ∧ (((w6.setCell ⟨g, 0, none⟩ a).setCell ⟨g, 1, none⟩ b).setCell ⟨g, 2, none⟩ c).cell? ⟨g, 2, none⟩ = some c := by
  have hx : ∀ (W : World) (i j : Nat) (v : Value), i ≠ j → (W.setCell ⟨g, i, none⟩ v).cell? ⟨g, j, none⟩ = W.cell? ⟨g, j, none⟩ := fun W i j v h => World.cell?_setCell_other (h := fun q => by injection q with _ q; exact h q) ..
  refine ⟨((hB.setCell hg _).setCell hg _).setCell hg _, ?_, ?_, ?_⟩
  · rw [hx _ _ _ _ (by omega), hx _ _ _ _ (by omega), World.cell?_setCell_same' _ _ _ h0]
  · rw [hx _ _ _ _ (by omega), World.cell?_setCell_same' _ _ _ (by rw [hx _ _ _ _ (by omega)]; exact h1)]
  · rw [World.cell?_setCell_same' _ _ _ (by rw [hx _ _ _ _ (by omega), hx _ _ _ _ (by omega)]; exact h2)]
theorem fb_len (kinds : BL) : ∀ (args : List ByteArray) (i : Nat), firstBad kinds false i args = none → args = [] ∨ i + args.length ≤ kinds.length
  | [], _, _ => .inl rfl
  | a :: r, i, h => by
    right
    rw [firstBad] at h
    have hi : i < kinds.length := by
      rcases Nat.lt_or_ge i kinds.length with q | q
      · exact q
      · rw [List.getElem?_eq_none q] at h; simp at h
    rw [List.getElem?_eq_getElem hi] at h
    simp only at h
    split at h
    · cases h
    · rcases fb_len kinds r (i + 1) h with h1 | h1
      · rw [h1]; simp; omega
      · simp; omega
set_option maxHeartbeats 32000000 in
set_option maxRecDepth 100000 in
theorem rcheck_calls (word : ByteArray) (args : List ByteArray) (a : Option Addr) (n c : Nat) (w : World) (hL : LSt w a n args) : Calls Tryz.prog 22 #[.agg #[.string word, .slice a n c]] w fun e w' => e = .returned (bV (checkF word args)) ∧ Below w.heap.size w w' := by
  have HA : Aside0 (∀ W, Calls Tryz.prog 27 #[.string word] W fun e w' => e = .returned (argV (lkT tab word)) ∧ Below W.heap.size W w') := ⟨fun W => (args_calls word W).mono fun _ _ h => ⟨h.1, h.2 ▸ Below.refl _ _⟩⟩
  have HNO : Aside0 (∀ W, Calls Tryz.prog 34 #[] W fun e w' => e = .returned (bV okB) ∧ Below W.heap.size W w') := ⟨none_calls⟩
  unfold bV okB at HNO
  cases hl : lkT tab word with
  | none =>
    have HR : Aside0 (checkF word args = (301, word, -1)) := ⟨by unfold checkF; rw [hl]⟩
    rw [HR.out]
    rw [hl] at HA
    unfold argV at HA
    clear hl hL
    unfold bV
    go_enter Tryz.func22, Tryz.ntmps22
    go_wp2_with (fail)
    refine (HA.out _).mono ?_
    rintro e w1 ⟨rfl, hb⟩
    have HB : Aside0 (Below w.heap.size w w1) := ⟨below_step (w := w) (((Below.refl _ _).alloc (Nat.le_refl _) _).alloc (by simp) _) hb⟩
    have b0 : w1.cell? ⟨w.heap.size, 0, none⟩ = some (.string word) := pw_cell_below hb (by simp)
    have b1 : w1.cell? ⟨w.heap.size, 1, none⟩ = some (.slice a n c) := pw_cell_below hb (by simp)
    have r0 : w1.cell? ⟨w.heap.size + 1, 0, none⟩ = some (.int .i64 0) := pw_cell_below hb (by simp)
    have r1 : w1.cell? ⟨w.heap.size + 1, 1, none⟩ = some (.string ⟨#[]⟩) := pw_cell_below hb (by simp)
    have r2 : w1.cell? ⟨w.heap.size + 1, 2, none⟩ = some (.int .i64 0) := pw_cell_below hb (by simp)
    have y0 : w1.frozen? ⟨w.heap.size + 1, 0, none⟩ = false := (hb.frozen (p := ⟨w.heap.size + 1, 0, none⟩) (by simp)).trans (by simp)
    have y1 : w1.frozen? ⟨w.heap.size + 1, 1, none⟩ = false := (hb.frozen (p := ⟨w.heap.size + 1, 1, none⟩) (by simp)).trans (by simp)
    have y2 : w1.frozen? ⟨w.heap.size + 1, 2, none⟩ = false := (hb.frozen (p := ⟨w.heap.size + 1, 2, none⟩) (by simp)).trans (by simp)
    have HS := fun (x y z : Value) => Aside0.mk (set_bad (w := w) (w6 := w1) (g := w.heap.size + 1) (a := x) (b := y) (c := z) (Nat.le_succ _) HB.out (by rw [r0]; rfl) (by rw [r1]; rfl) (by rw [r2]; rfl))
    clear hb
    go_wp2_with (fail)
    exact bodyPost_ret (res_bad Tryz.results22 _ _ (w.heap.size + 1) _ _ _ rfl (HS (.int .i64 301) (.string word) (.int .i64 (-1))).out.2.1 (HS (.int .i64 301) (.string word) (.int .i64 (-1))).out.2.2.1 (HS (.int .i64 301) (.string word) (.int .i64 (-1))).out.2.2.2) rfl ⟨rfl, (HS (.int .i64 301) (.string word) (.int .i64 (-1))).out.1⟩
  | some x =>
    obtain ⟨xk, xl, xm⟩ := x
    obtain ⟨hk4, hl0, hl1⟩ := kinds_small hl
    have hk4 : xk.size ≤ 4 := hk4
    have hl0 : 0 ≤ xl := hl0
    have hl1 : xl ≤ 1 := hl1
    obtain ⟨res, hres⟩ : ∃ r, checkF word args = r := ⟨_, rfl⟩
    rw [hres]
    have HR1 : Aside0 (∀ i, firstBad (tl xk) xm 0 args = some i → (302, word, (i : Int)) = res) := ⟨fun i h => by rw [← hres]; unfold checkF; rw [hl]; simp only; rw [h]⟩
    have HR2 : Aside0 (firstBad (tl xk) xm 0 args = none → ((args.length : Int) < xk.size - xl ∨ (xk.size < args.length ∧ (args.length - xk.size) % 2 = 1)) → (302, word, (args.length : Int)) = res) := ⟨fun h q => by rw [← hres]; unfold checkF; rw [hl]; simp only; rw [h]; simp only; rw [if_pos q]⟩
    have HR3 : Aside0 (firstBad (tl xk) xm 0 args = none → ¬ ((args.length : Int) < xk.size - xl ∨ (xk.size < args.length ∧ (args.length - xk.size) % 2 = 1)) → okB = res) := ⟨fun h q => by rw [← hres]; unfold checkF; rw [hl]; simp only; rw [h]; simp only; rw [if_neg q]⟩
    have HM2 : Aside0 (xm = false → firstBad (tl xk) xm 0 args = none → args.length ≤ xk.size) := ⟨fun q h => by
      subst q
      rcases fb_len (tl xk) args 0 h with h1 | h1
      · rw [h1]; exact Nat.zero_le _
      · rw [show (tl xk).length = xk.size from Array.length_toList] at h1; omega⟩
    have HL := Aside0.mk hL
    have HN : Aside0 (args.length = n) := ⟨hL.1⟩
    have hn62 : n ≤ 8796093022208 := hL.2.1
    rw [hl] at HA
    unfold argV at HA
    clear hl hL hres
    unfold bV
    go_enter Tryz.func22, Tryz.ntmps22
    go_wp2_with (fail)
    refine (HA.out _).mono ?_
    rintro e w1 ⟨rfl, hb⟩
    have HB : Aside0 (Below w.heap.size w w1) := ⟨below_step (w := w) (((Below.refl _ _).alloc (Nat.le_refl _) _).alloc (by simp) _) hb⟩
    have b0 : w1.cell? ⟨w.heap.size, 0, none⟩ = some (.string word) := pw_cell_below hb (by simp)
    have b1 : w1.cell? ⟨w.heap.size, 1, none⟩ = some (.slice a n c) := pw_cell_below hb (by simp)
    have r0 : w1.cell? ⟨w.heap.size + 1, 0, none⟩ = some (.int .i64 0) := pw_cell_below hb (by simp)
    have r1 : w1.cell? ⟨w.heap.size + 1, 1, none⟩ = some (.string ⟨#[]⟩) := pw_cell_below hb (by simp)
    have r2 : w1.cell? ⟨w.heap.size + 1, 2, none⟩ = some (.int .i64 0) := pw_cell_below hb (by simp)
    have y0 : w1.frozen? ⟨w.heap.size + 1, 0, none⟩ = false := (hb.frozen (p := ⟨w.heap.size + 1, 0, none⟩) (by simp)).trans (by simp)
    have y1 : w1.frozen? ⟨w.heap.size + 1, 1, none⟩ = false := (hb.frozen (p := ⟨w.heap.size + 1, 1, none⟩) (by simp)).trans (by simp)
    have y2 : w1.frozen? ⟨w.heap.size + 1, 2, none⟩ = false := (hb.frozen (p := ⟨w.heap.size + 1, 2, none⟩) (by simp)).trans (by simp)
    have HS := fun (x y z : Value) => Aside0.mk (set_bad (w := w) (w6 := w1) (g := w.heap.size + 1) (a := x) (b := y) (c := z) (Nat.le_succ _) HB.out (by rw [r0]; rfl) (by rw [r1]; rfl) (by rw [r2]; rfl))
    clear hb
    go_wp2_with (fail)
    go_loop [8, 9, 10] (fun v8 v9 v10 => ∃ i : Nat, i ≤ n ∧ v8 = .int .i64 i ∧ Aside0 (firstBad (tl xk) xm 0 args = firstBad (tl xk) xm i (args.drop i))) (fun v8 _ _ => n - (intOf v8).toNat)
    case atStart => exact ⟨0, Nat.zero_le _, rfl, ⟨by rw [List.drop_zero]⟩⟩
    case round =>
      obtain ⟨i, hi, rfl, HX⟩ := hrel
      by_cases h1 : i < n
      · have h1' : (i : Int) < (n : Int) := by omega
        have h0' : (0 : Int) ≤ (i : Int) := by omega
        have hil : i < args.length := by rw [HN.out]; exact h1
        obtain ⟨ab, ao, rfl, hcell⟩ := HL.out.2.2.1 (by omega)
        have a1 : w1.cell? ⟨ab, ao + i, none⟩ = some (.string args[i]) := pw_cell_below HB.out (hcell i hil)
        have hsz := HL.out.2.2.2 _ (List.getElem_mem hil)
        have HSTEP : Aside0 (firstBad (tl xk) xm 0 args = if badAt (tl xk) xm i (tl args[i]) = true then some i else firstBad (tl xk) xm (i + 1) (args.drop (i + 1))) := ⟨HX.out.trans (firstBad_step _ _ _ _ hil)⟩
        generalize args[i] = s at *
        clear hcell hil
        by_cases hk : i < xk.size
        · have hk' : (i : Int) < (xk.size : Int) := by omega
          have hk'' : ¬ (xk.size : Int) ≤ (i : Int) := by omega
          obtain ⟨kb, hkb⟩ : ∃ kb, xk[i]'hk = kb := ⟨_, rfl⟩
          have HKB : Aside0 ((tl xk)[i]? = some kb) := ⟨by rw [List.getElem?_eq_getElem (by rw [Array.length_toList]; exact hk)]; exact congrArg some hkb⟩
          have HNU : Aside0 (∀ W, Calls Tryz.prog 48 #[.string s] W fun e w' => e = .returned (numV (tl s)) ∧ W = w') := ⟨fun W => rnumber_calls s W hsz⟩
          have HBAD : Aside0 (badAt (tl xk) xm i (tl s) = !fitB kb (tl s)) := ⟨by unfold badAt; rw [HKB.out]⟩
          by_cases h73 : kb = 73
          · subst h73
            unfold numV at HNU
            cases hn : numO (tl s) with
            | none =>
              have HBA : Aside0 (badAt (tl xk) xm i (tl s) = true) := ⟨by rw [HBAD.out]; unfold fitB; rw [if_pos rfl, hn]; rfl⟩
              rw [hn] at HNU
              clear hn
              go_wp2_with (fail)
              refine (HNU.out _).mono ?_
              rintro e w2 ⟨rfl, rfl⟩
              go_wp2_with (fail)
              exact bodyPost_ret (res_bad Tryz.results22 _ _ (w.heap.size + 1) _ _ _ rfl (HS (.int .i64 302) (.string word) (.int .i64 (i : Int))).out.2.1 (HS (.int .i64 302) (.string word) (.int .i64 (i : Int))).out.2.2.1 (HS (.int .i64 302) (.string word) (.int .i64 (i : Int))).out.2.2.2) rfl ⟨by rw [← HR1.out i (by rw [HSTEP.out, HBA.out]; rfl)]; rfl, (HS (.int .i64 302) (.string word) (.int .i64 (i : Int))).out.1⟩
            | some m =>
              rw [hn] at HNU
              have HNU : Aside0 (∀ W, Calls Tryz.prog 48 #[.string s] W fun e w' => e = .returned (.tuple #[.int .i64 (m : Int), .bool true]) ∧ W = w') := HNU
              by_cases h8 : m < 8
              · have h8' : ¬ (8 : Int) ≤ (m : Int) := by omega
                have HBA : Aside0 (badAt (tl xk) xm i (tl s) = false) := ⟨by rw [HBAD.out]; unfold fitB; rw [if_pos rfl, hn]; simp only; rw [decide_eq_true h8]; rfl⟩
                clear hn h8
                go_wp2_with (fail)
                refine (HNU.out _).mono ?_
                rintro e w2 ⟨rfl, rfl⟩
                go_wp2_with (fail)
                all_goals exact ⟨⟨i + 1, by omega, by simp, ⟨by rw [HSTEP.out, HBA.out]; rfl⟩⟩, by simp [intOf]; omega⟩
              · have h8' : (8 : Int) ≤ (m : Int) := by omega
                have HBA : Aside0 (badAt (tl xk) xm i (tl s) = true) := ⟨by rw [HBAD.out]; unfold fitB; rw [if_pos rfl, hn]; simp only; rw [decide_eq_false h8]; rfl⟩
                clear hn h8
                go_wp2_with (fail)
                refine (HNU.out _).mono ?_
                rintro e w2 ⟨rfl, rfl⟩
                go_wp2_with (fail)
                exact bodyPost_ret (res_bad Tryz.results22 _ _ (w.heap.size + 1) _ _ _ rfl (HS (.int .i64 302) (.string word) (.int .i64 (i : Int))).out.2.1 (HS (.int .i64 302) (.string word) (.int .i64 (i : Int))).out.2.2.1 (HS (.int .i64 302) (.string word) (.int .i64 (i : Int))).out.2.2.2) rfl ⟨by rw [← HR1.out i (by rw [HSTEP.out, HBA.out]; rfl)]; rfl, (HS (.int .i64 302) (.string word) (.int .i64 (i : Int))).out.1⟩
          · have h73' : ((kb.toNat : Int) == 73) = false := by
              rw [beq_eq_false_iff_ne]
              exact fun q => h73 (UInt8.toNat_inj.1 (by show kb.toNat = 73; omega))
            obtain ⟨nv, nb, hnv, hnb⟩ : ∃ nv nb, numV (tl s) = .tuple #[.int .i64 nv, .bool nb] ∧ (numO (tl s)).isSome = nb := by
              unfold numV
              cases numO (tl s) with
              | none => exact ⟨_, _, rfl, rfl⟩
              | some m => exact ⟨_, _, rfl, rfl⟩
            rw [hnv] at HNU
            by_cases h78 : kb = 78
            · subst h78
              have HBA : Aside0 (badAt (tl xk) xm i (tl s) = !nb) := ⟨by rw [HBAD.out]; unfold fitB; rw [if_neg h73, if_pos rfl, hnb]⟩
              clear hnb hnv h73
              cases nb
              case true =>
                go_wp2_with (fail)
                refine (HNU.out _).mono ?_
                rintro e w2 ⟨rfl, rfl⟩
                go_wp2_with (fail)
                all_goals exact ⟨⟨i + 1, by omega, by simp, ⟨by rw [HSTEP.out, HBA.out]; rfl⟩⟩, by simp [intOf]; omega⟩
              case false =>
                go_wp2_with (fail)
                refine (HNU.out _).mono ?_
                rintro e w2 ⟨rfl, rfl⟩
                go_wp2_with (fail)
                exact bodyPost_ret (res_bad Tryz.results22 _ _ (w.heap.size + 1) _ _ _ rfl (HS (.int .i64 302) (.string word) (.int .i64 (i : Int))).out.2.1 (HS (.int .i64 302) (.string word) (.int .i64 (i : Int))).out.2.2.1 (HS (.int .i64 302) (.string word) (.int .i64 (i : Int))).out.2.2.2) rfl ⟨by rw [← HR1.out i (by rw [HSTEP.out, HBA.out]; rfl)]; rfl, (HS (.int .i64 302) (.string word) (.int .i64 (i : Int))).out.1⟩
            · have h78' : ((kb.toNat : Int) == 78) = false := by
                rw [beq_eq_false_iff_ne]
                exact fun q => h78 (UInt8.toNat_inj.1 (by show kb.toNat = 78; omega))
              have HBA : Aside0 (badAt (tl xk) xm i (tl s) = false) := ⟨by rw [HBAD.out]; unfold fitB; rw [if_neg h73, if_neg h78]; rfl⟩
              clear hnb hnv h73 h78
              go_wp2_with (fail)
              refine (HNU.out _).mono ?_
              rintro e w2 ⟨rfl, rfl⟩
              go_wp2_with (fail)
              all_goals exact ⟨⟨i + 1, by omega, by simp, ⟨by rw [HSTEP.out, HBA.out]; rfl⟩⟩, by simp [intOf]; omega⟩
        · have hk' : ¬ (i : Int) < (xk.size : Int) := by omega
          have hk'' : (xk.size : Int) ≤ (i : Int) := by omega
          have HBA : Aside0 (badAt (tl xk) xm i (tl s) = !xm) := ⟨by unfold badAt; rw [List.getElem?_eq_none (by rw [Array.length_toList]; exact Nat.not_lt.1 hk)]⟩
          cases xm
          case true =>
            go_wp2_with (fail)
            all_goals exact ⟨⟨i + 1, by omega, by simp, ⟨by rw [HSTEP.out, HBA.out]; rfl⟩⟩, by simp [intOf]; omega⟩
          case false =>
            go_wp2_with (fail)
            exact bodyPost_ret (res_bad Tryz.results22 _ _ (w.heap.size + 1) _ _ _ rfl (HS (.int .i64 302) (.string word) (.int .i64 (i : Int))).out.2.1 (HS (.int .i64 302) (.string word) (.int .i64 (i : Int))).out.2.2.1 (HS (.int .i64 302) (.string word) (.int .i64 (i : Int))).out.2.2.2) rfl ⟨by rw [← HR1.out i (by rw [HSTEP.out, HBA.out]; rfl)]; rfl, (HS (.int .i64 302) (.string word) (.int .i64 (i : Int))).out.1⟩
      · have h1' : ¬ (i : Int) < (n : Int) := by omega
        have HE : Aside0 (firstBad (tl xk) xm 0 args = none) := ⟨HX.out.trans (firstBad_end _ _ _ _ (by rw [HN.out]; omega))⟩
        by_cases p1 : (n : Int) < (xk.size : Int) - xl
        · go_wp2_with (fail)
          exact bodyPost_ret (res_bad Tryz.results22 _ _ (w.heap.size + 1) _ _ _ rfl (HS (.int .i64 302) (.string word) (.int .i64 (n : Int))).out.2.1 (HS (.int .i64 302) (.string word) (.int .i64 (n : Int))).out.2.2.1 (HS (.int .i64 302) (.string word) (.int .i64 (n : Int))).out.2.2.2) rfl ⟨by rw [← HR2.out HE.out (.inl (by rw [HN.out]; exact p1)), HN.out]; rfl, (HS (.int .i64 302) (.string word) (.int .i64 (n : Int))).out.1⟩
        · by_cases p2 : (xk.size : Int) < (n : Int)
          · have hxm : xm = true := by
              cases xm
              · have := HM2.out rfl HE.out; rw [HN.out] at this; omega
              · rfl
            subst hxm
            by_cases p3 : ((n : Int) - (xk.size : Int)) % 2 = 1
            · go_wp2_with (fail)
              exact bodyPost_ret (res_bad Tryz.results22 _ _ (w.heap.size + 1) _ _ _ rfl (HS (.int .i64 302) (.string word) (.int .i64 (n : Int))).out.2.1 (HS (.int .i64 302) (.string word) (.int .i64 (n : Int))).out.2.2.1 (HS (.int .i64 302) (.string word) (.int .i64 (n : Int))).out.2.2.2) rfl ⟨by rw [← HR2.out HE.out (.inr ⟨by rw [HN.out]; omega, by rw [HN.out]; omega⟩), HN.out]; rfl, (HS (.int .i64 302) (.string word) (.int .i64 (n : Int))).out.1⟩
            · go_wp2_with (fail)
              refine (HNO.out w1).mono ?_
              rintro e w5 ⟨rfl, hb5⟩
              have s0 := pw_cell_below hb5 r0
              have s1 := pw_cell_below hb5 r1
              have s2 := pw_cell_below hb5 r2
              have hz : w.heap.size + 1 < w1.heap.size := World.block_lt_of_cell? _ _ r0
              have t0 : w5.frozen? ⟨w.heap.size + 1, 0, none⟩ = false := (hb5.frozen (p := ⟨w.heap.size + 1, 0, none⟩) hz).trans y0
              have t1 : w5.frozen? ⟨w.heap.size + 1, 1, none⟩ = false := (hb5.frozen (p := ⟨w.heap.size + 1, 1, none⟩) hz).trans y1
              have t2 : w5.frozen? ⟨w.heap.size + 1, 2, none⟩ = false := (hb5.frozen (p := ⟨w.heap.size + 1, 2, none⟩) hz).trans y2
              have HS5 := Aside0.mk (set_bad (w := w) (w6 := w5) (g := w.heap.size + 1) (a := .int .i64 0) (b := .string ⟨#[]⟩) (c := .int .i64 (-1)) (Nat.le_succ _) (below_step (w := w) HB.out hb5) (by rw [s0]; rfl) (by rw [s1]; rfl) (by rw [s2]; rfl))
              clear hb5
              go_wp2_with (fail)
              exact bodyPost_ret (res_bad Tryz.results22 _ _ (w.heap.size + 1) _ _ _ rfl HS5.out.2.1 HS5.out.2.2.1 HS5.out.2.2.2) rfl ⟨by rw [← HR3.out HE.out (by rw [HN.out]; rintro (q | ⟨q1, q2⟩) <;> omega)]; rfl, HS5.out.1⟩
          · cases xm
            case true =>
              go_wp2_with (fail)
              refine (HNO.out w1).mono ?_
              rintro e w5 ⟨rfl, hb5⟩
              have s0 := pw_cell_below hb5 r0
              have s1 := pw_cell_below hb5 r1
              have s2 := pw_cell_below hb5 r2
              have hz : w.heap.size + 1 < w1.heap.size := World.block_lt_of_cell? _ _ r0
              have t0 : w5.frozen? ⟨w.heap.size + 1, 0, none⟩ = false := (hb5.frozen (p := ⟨w.heap.size + 1, 0, none⟩) hz).trans y0
              have t1 : w5.frozen? ⟨w.heap.size + 1, 1, none⟩ = false := (hb5.frozen (p := ⟨w.heap.size + 1, 1, none⟩) hz).trans y1
              have t2 : w5.frozen? ⟨w.heap.size + 1, 2, none⟩ = false := (hb5.frozen (p := ⟨w.heap.size + 1, 2, none⟩) hz).trans y2
              have HS5 := Aside0.mk (set_bad (w := w) (w6 := w5) (g := w.heap.size + 1) (a := .int .i64 0) (b := .string ⟨#[]⟩) (c := .int .i64 (-1)) (Nat.le_succ _) (below_step (w := w) HB.out hb5) (by rw [s0]; rfl) (by rw [s1]; rfl) (by rw [s2]; rfl))
              clear hb5
              go_wp2_with (fail)
              exact bodyPost_ret (res_bad Tryz.results22 _ _ (w.heap.size + 1) _ _ _ rfl HS5.out.2.1 HS5.out.2.2.1 HS5.out.2.2.2) rfl ⟨by rw [← HR3.out HE.out (by rw [HN.out]; rintro (q | ⟨q1, q2⟩) <;> omega)]; rfl, HS5.out.1⟩
            case false =>
              go_wp2_with (fail)
              refine (HNO.out w1).mono ?_
              rintro e w5 ⟨rfl, hb5⟩
              have s0 := pw_cell_below hb5 r0
              have s1 := pw_cell_below hb5 r1
              have s2 := pw_cell_below hb5 r2
              have hz : w.heap.size + 1 < w1.heap.size := World.block_lt_of_cell? _ _ r0
              have t0 : w5.frozen? ⟨w.heap.size + 1, 0, none⟩ = false := (hb5.frozen (p := ⟨w.heap.size + 1, 0, none⟩) hz).trans y0
              have t1 : w5.frozen? ⟨w.heap.size + 1, 1, none⟩ = false := (hb5.frozen (p := ⟨w.heap.size + 1, 1, none⟩) hz).trans y1
              have t2 : w5.frozen? ⟨w.heap.size + 1, 2, none⟩ = false := (hb5.frozen (p := ⟨w.heap.size + 1, 2, none⟩) hz).trans y2
              have HS5 := Aside0.mk (set_bad (w := w) (w6 := w5) (g := w.heap.size + 1) (a := .int .i64 0) (b := .string ⟨#[]⟩) (c := .int .i64 (-1)) (Nat.le_succ _) (below_step (w := w) HB.out hb5) (by rw [s0]; rfl) (by rw [s1]; rfl) (by rw [s2]; rfl))
              clear hb5
              go_wp2_with (fail)
              exact bodyPost_ret (res_bad Tryz.results22 _ _ (w.heap.size + 1) _ _ _ rfl HS5.out.2.1 HS5.out.2.2.1 HS5.out.2.2.2) rfl ⟨by rw [← HR3.out HE.out (by rw [HN.out]; rintro (q | ⟨q1, q2⟩) <;> omega)]; rfl, HS5.out.1⟩
end Go.Proofs.YtopcidphlleciaaGreatDoor.S

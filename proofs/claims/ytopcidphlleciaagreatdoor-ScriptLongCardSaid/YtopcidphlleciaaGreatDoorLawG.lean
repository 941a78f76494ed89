/- The law ScriptLong: plain laws and its walk. -/
import Derived.Test.YtopcidphlleciaaGreatDoorSIs
import Derived.Test.YtopcidphlleciaaGreatDoorSLi
import Derived.Test.YtopcidphlleciaaGreatDoorProO
namespace Go.Proofs.YtopcidphlleciaaGreatDoor.S
open Go.RowKit Go.Extern.Stop Go.Stop Go.Extern Go.Proofs.YtopcidphlleciaaGreatDoorW.PrintWords Go.Proofs.YtopcidphlleciaaGreatDoorW.PrintLast Go.Proofs.YtopcidphlleciaaGreatDoorW.PrintMore
set_option linter.unusedVariables false
set_option linter.unusedSimpArgs false
/-- The law's lives. -/
theorem lives_calls (w : World) (hG : GW w) : Calls Tryz.prog 9 #[] w fun e w' => e = .returned (.bool true) ∧ Below w.heap.size w w' := lives_of ⟨is_ok⟩ w hG
theorem wrL_rep : ∀ n : Nat, wrL (List.replicate n 97) = List.replicate n 97
  | 0 => rfl
  | n + 1 => by
    rw [List.replicate_succ, wrL, wrL_rep n]
    rfl
theorem aaa_ex (n : Nat) : ∃ x : BL, wrA x = x ∧ x.length = n + 1 ∧ ∀ j (h : j < x.length), x[j] = 97 := by
  refine ⟨List.replicate (n + 1) 97, ?_, List.length_replicate, fun j h => List.getElem_replicate ..⟩
  unfold wrA
  rw [if_neg (by rw [List.replicate_succ]; simp), wrL_rep]
def getB : ByteArray := ⟨#[103, 101, 116]⟩
theorem lk_get : lkT tab getB = some (⟨#[84, 84]⟩, 0, false) := by decide +kernel
theorem check_get (x y : ByteArray) : checkF getB [x, y] = okB := by
  unfold checkF
  rw [lk_get]
  have h1 : firstBad (tl ⟨#[84, 84]⟩) false 0 [x, y] = none := by
    have f : ∀ s : BL, fitB 84 s = true := fun s => by unfold fitB; rw [if_neg (by decide), if_neg (by decide)]
    simp [firstBad, f]
  simp only
  rw [h1]
  rfl
theorem textL_get (x z : BL) (hx : wrA x = x) (hz : wrA z = z) : textL (getB, [mkB x, mkB z]) = [103, 101, 116] ++ (32 :: (x ++ 32 :: (z ++ []))) := by
  have hg : wrA (tl getB) = [103, 101, 116] := by decide
  unfold textL
  simp only
  rw [hg, lineF, lineF, lineF, tl_mkB, tl_mkB, hx, hz]
theorem text_ok (x : BL) (hx : wrA x = x) (hl : x.length = 262136) : textF (getB, [mkB x, mkB [98, 99, 100]]) = (mkB (textL (getB, [mkB x, mkB [98, 99, 100]])), okB) ∧ (textL (getB, [mkB x, mkB [98, 99, 100]])).length = 262144 := by
  have h : (textL (getB, [mkB x, mkB [98, 99, 100]])).length = 262144 := by
    rw [textL_get _ _ hx (by decide)]
    simp only [List.length_append, List.length_cons, List.length_nil, hl]
  refine ⟨?_, h⟩
  unfold textF
  rw [check_get, if_pos (show okB.1 = 0 from rfl), if_neg (by rw [h]; decide)]
theorem text_long (x : BL) (hx : wrA x = x) (hl : x.length = 262136) : textF (getB, [mkB x, mkB [98, 99, 100, 101]]) = (⟨#[]⟩, (4, ⟨#[]⟩, -1)) := by
  have h : (textL (getB, [mkB x, mkB [98, 99, 100, 101]])).length = 262145 := by
    rw [textL_get _ _ hx (by decide)]
    simp only [List.length_append, List.length_cons, List.length_nil, hl]
  unfold textF
  rw [check_get, if_pos (show okB.1 = 0 from rfl), if_pos (by rw [h]; decide)]
theorem read_ok (x : BL) (hx : wrA x = x) (hl : x.length = 262136) : readF (mkB (textL (getB, [mkB x, mkB [98, 99, 100]]))) = ((getB, [mkB x, mkB [98, 99, 100]]), okB) := by
  have := read_text (getB, [mkB x, mkB [98, 99, 100]]) (by rw [(text_ok x hx hl).1]; rfl)
  rw [(text_ok x hx hl).1] at this
  exact this
theorem read_longer (t : ByteArray) (h : 262144 < t.size) : readF t = (noC, (4, ⟨#[]⟩, 0)) := by unfold readF; rw [if_pos h]
/-- The bytes while the loop runs. -/
def RB (w wr : World) (n i : Nat) : Prop := (∀ j, j < i → wr.cell? ⟨w.heap.size, j, none⟩ = some (.int .u8 97)) ∧ (∀ j, j < n → (wr.cell? ⟨w.heap.size, j, none⟩).isSome = true) ∧ (∀ j, wr.frozen? ⟨w.heap.size, j, none⟩ = false) ∧ Below w.heap.size w wr
theorem RB.set {w wr : World} {n i : Nat} (h : RB w wr n i) (hi : i < n) : RB w (wr.setCell ⟨w.heap.size, i, none⟩ (.int .u8 97)) n (i + 1) := by
  refine ⟨fun j hj => ?_, fun j hj => ?_, fun j => ?_, h.2.2.2.setCell (Nat.le_refl _) _⟩
  · by_cases e : j = i
    · subst e
      exact World.cell?_setCell_same' _ _ _ (h.2.1 j hi)
    · rw [World.cell?_setCell_other (h := fun q => by injection q with _ q; exact e q.symm) ..]
      exact h.1 j (by omega)
  · by_cases e : j = i
    · subst e
      rw [World.cell?_setCell_same' _ _ _ (h.2.1 j hi)]
      rfl
    · rw [World.cell?_setCell_other (h := fun q => by injection q with _ q; exact e q.symm) ..]
      exact h.2.1 j hj
  · rw [← h.2.2.1 j]
    simp
theorem RB.conv {w wr : World} {n : Nat} (h : RB w wr n n) (x : BL) (hl : x.length = n) (hx : ∀ j (h : j < x.length), x[j] = 97) (c : Nat) : (convert 57 9 (.slice (some ⟨w.heap.size, 0, none⟩) n c)).run Tryz.prog wr = .ok (.string (mkB x)) wr := by
  have := run_convert_bytes_back wr 57 9 5 ⟨w.heap.size, 0, none⟩ c x Tryz.underlying57 Tryz.underlying5 Tryz.underlying9 (fun j hj => by
    rw [Addr.add_mid, Nat.zero_add]
    have e := h.1 j (by rw [hl] at hj; exact hj)
    rw [e, hx j hj]
    rfl)
  rw [hl] at this
  exact this
theorem info5' : (Tryz.prog.info? 5).map (fun i => (i.zero, i.size, i.bytes)) = some (some (.int .u8 0), 1, 1) := by kernel_rfl
theorem RB.made (w : World) (n : Nat) (hn : n ≤ 1000000) : ∃ w1, (Instr.makeSlice 57 (.int .i64 (n : Int)) (.int .i64 (n : Int))).run Tryz.prog w = .ok (.slice (some ⟨w.heap.size, 0, none⟩) n n) w1 ∧ RB w w1 n 0 := by
  obtain ⟨i0, hi0, hz0, hz1, hz2⟩ := info_parts info5'
  obtain ⟨w1, h1, h2, h3⟩ := run_makeSlice_full (P := Tryz.prog) w w.heap.size 57 5 i0 (.int .u8 0) 1 Tryz.underlying57 hi0 hz0 hz1 .i64 .i64 n (by omega) (by rw [hz2]; omega) (by unfold maxLen; omega) (Nat.le_refl _)
  refine ⟨w1, h1, fun j hj => absurd hj (Nat.not_lt_zero _), fun j hj => ?_, fun j => h2.frozenAt j, (Below.refl _ _).grown h3 (Nat.le_refl _) (fun k hk => by cases hk)⟩
  rw [h2.cellAt j (by omega), List.getElem?_eq_getElem (by rw [Array.length_toList, size_madeCells]; omega)]
  rfl
set_option maxHeartbeats 32000000 in
set_option maxRecDepth 100000 in
theorem law_walk (w : World) (hG : GW w) : Calls Tryz.prog 6 #[] w fun e w' => e = .returned (.bool true) ∧ Below w.heap.size w w' := by
  have HG := Aside0.mk hG
  clear hG
  obtain ⟨x, hx, hl, hx97⟩ := aaa_ex 262135
  obtain ⟨w1, hmk, hRB⟩ := RB.made w 262136 (by decide)
  have hmk : (Instr.makeSlice 57 (.int .i64 262136) (.int .i64 262136)).run Tryz.prog w = .ok (.slice (some ⟨w.heap.size, 0, none⟩) 262136 262136) w1 := hmk
  have HX := Aside0.mk (And.intro hx (And.intro hl hx97))
  have HRB := Aside0.mk hRB
  clear hx hl hx97 hRB
  go_enter Tryz.func6, Tryz.ntmps6
  go_wp2_with (fail)
  go_loopw [2] (fun v2 wr => ∃ i : Nat, i ≤ 262136 ∧ v2 = .int .i64 i ∧ Aside0 (RB w wr 262136 i)) (fun v2 _ => 262136 - (intOf v2).toNat)
  case atStart => exact ⟨0, Nat.zero_le _, rfl, HRB⟩
  case round =>
    obtain ⟨i, hi, rfl, HI⟩ := hrel
    by_cases h1 : i < 262136
    · have h1' : (i : Int) < 262136 := by omega
      have h0' : (0 : Int) ≤ (i : Int) := by omega
      obtain ⟨c0, hc0⟩ := Option.isSome_iff_exists.1 (HI.out.2.1 i h1)
      have hfz := HI.out.2.2.1 i
      have HN := Aside0.mk (HI.out.set h1)
      clear h1
      go_wp2_with (fail)
      exact ⟨⟨i + 1, by omega, by simp, HN⟩, by simp [intOf]; omega⟩
    · have h1' : ¬ (i : Int) < 262136 := by omega
      obtain rfl : i = 262136 := by omega
      have hcv := RB.conv HI.out x HX.out.2.1 HX.out.2.2 262136
      go_wp2_with (fail)
      have hxs : (mkB x).size = 262136 := by rw [mkB_size, HX.out.2.1]
      have HTO : Aside0 (∀ (y : ByteArray) (W : World), y.size ≤ 100 → GW W → W.cell? ⟨wr.heap.size, 0, none⟩ = some (.string (mkB x)) → W.cell? ⟨wr.heap.size, 1, none⟩ = some (.string y) → Calls Tryz.prog 19 #[.agg #[.string ⟨#[103, 101, 116]⟩, .slice (some ⟨wr.heap.size, 0, none⟩) 2 2]] W fun e w' => ∃ v, e = .returned (.tuple #[.string (textF (getB, [mkB x, y])).1, v]) ∧ EA w' v (textF (getB, [mkB x, y])).2 ∧ Below W.heap.size W w') := ⟨fun y W hy hW q0 q1 => text_calls getB [mkB x, y] (some ⟨wr.heap.size, 0, Option.none⟩) 2 2 W (by decide) (by decide) (fun k hk => by
        rcases List.mem_cons.1 hk with rfl | hk
        · omega
        · rw [List.mem_singleton] at hk; rw [hk]; omega) ⟨rfl, by decide, fun _ => ⟨wr.heap.size, 0, rfl, fun j hj => by
          match j, hj with
          | 0, _ => exact q0
          | 1, _ => exact q1
          | n + 2, hj => exact absurd hj (by show ¬ n + 2 < 2; omega)⟩, fun k hk => by
        rcases List.mem_cons.1 hk with rfl | hk
        · omega
        · rw [List.mem_singleton] at hk; rw [hk]; omega⟩ hW.1 hW.2.1⟩
      obtain ⟨L, hL⟩ : ∃ L, textL (getB, [mkB x, mkB [98, 99, 100]]) = L := ⟨_, rfl⟩
      have ht1 := text_ok x HX.out.1 HX.out.2.1
      have ht2 := text_long x HX.out.1 HX.out.2.1
      have hr1 := read_ok x HX.out.1 HX.out.2.1
      rw [hL] at ht1 hr1
      have HT1 : Aside0 (textF (getB, [mkB x, ⟨#[98, 99, 100]⟩]) = (mkB L, okB)) := ⟨ht1.1⟩
      have hLs : (mkB L).size = 262144 := by rw [mkB_size, ht1.2]
      have HT2 : Aside0 (textF (getB, [mkB x, ⟨#[98, 99, 100, 101]⟩]) = (⟨#[]⟩, (4, ⟨#[]⟩, -1))) := ⟨ht2⟩
      have HR1 := Aside0.mk hr1
      clear ht1 ht2 hr1 hL
      have HW1 : Aside0 (Below wr.heap.size wr ((wr.alloc (.cells #[.string (mkB x), .string ⟨#[98, 99, 100]⟩] 9)).alloc (.cells #[.string ⟨#[103, 101, 116]⟩, .slice (some ⟨wr.heap.size, 0, none⟩) 2 2] 25))) := ⟨((Below.refl _ _).alloc (Nat.le_refl _) _).alloc (by simp) _⟩
      have HBW := Aside0.mk HI.out.2.2.2
      have HB1 : Aside0 (Below w.heap.size w ((wr.alloc (.cells #[.string (mkB x), .string ⟨#[98, 99, 100]⟩] 9)).alloc (.cells #[.string ⟨#[103, 101, 116]⟩, .slice (some ⟨wr.heap.size, 0, none⟩) 2 2] 25))) := ⟨below_step (w := w) HBW.out HW1.out⟩
      have HTA := HTO.out ⟨#[98, 99, 100]⟩ ((wr.alloc (.cells #[.string (mkB x), .string ⟨#[98, 99, 100]⟩] 9)).alloc (.cells #[.string ⟨#[103, 101, 116]⟩, .slice (some ⟨wr.heap.size, 0, none⟩) 2 2] 25)) (by decide) (HG.out.below HB1.out) (by simp) (by simp)
      rw [HT1.out] at HTA
      refine HTA.mono ?_
      rintro e w2 ⟨v2, rfl, hE2, hb2⟩
      have hv2 := hE2.nil
      subst hv2
      have HB2 : Aside0 (Below w.heap.size w w2) := ⟨below_step (w := w) HB1.out hb2⟩
      have a0 : w2.cell? ⟨wr.heap.size, 0, none⟩ = some (.string (mkB x)) := pw_cell_below hb2 (by simp)
      have a1 : w2.cell? ⟨wr.heap.size, 1, none⟩ = some (.string ⟨#[98, 99, 100]⟩) := pw_cell_below hb2 (by simp)
      have b0 : w2.cell? ⟨wr.heap.size + 1, 0, none⟩ = some (.string ⟨#[103, 101, 116]⟩) := pw_cell_below hb2 (by simp)
      have b1 : w2.cell? ⟨wr.heap.size + 1, 1, none⟩ = some (.slice (some ⟨wr.heap.size, 0, none⟩) 2 2) := pw_cell_below hb2 (by simp)
      have f1 : w2.frozen? ⟨wr.heap.size, 1, none⟩ = false := (hb2.frozen (p := ⟨wr.heap.size, 1, none⟩) (by simp; omega)).trans (by simp)
      clear hb2 hE2 HTA hcv
      go_wp2_with (fail)
      refine (readG (mkB L) _ (HG.out.below HB2.out)).mono ?_
      rw [HR1.out]
      rintro e w3 ⟨cv3, ev3, rfl, ⟨sv3, rfl, hown3⟩, hE3, hb3⟩
      obtain ⟨a3, k3, rfl⟩ := own_form hown3
      have hv3 := hE3.nil
      subst hv3
      have HB3 : Aside0 (Below w.heap.size w w3) := ⟨below_step (w := w) HB2.out hb3⟩
      have hz2 : wr.heap.size + 1 < w2.heap.size := World.block_lt_of_cell? _ _ b0
      have c0 := pw_cell_below hb3 a0
      have c1 := pw_cell_below hb3 a1
      have d0 := pw_cell_below hb3 b0
      have d1 := pw_cell_below hb3 b1
      have g1 : w3.frozen? ⟨wr.heap.size, 1, none⟩ = false := (hb3.frozen (p := ⟨wr.heap.size, 1, none⟩) (show wr.heap.size < w2.heap.size by omega)).trans f1
      have hz3 : wr.heap.size + 1 < w3.heap.size := World.block_lt_of_cell? _ _ d0
      have hlen2 : (((getB, [mkB x, mkB [98, 99, 100]]), okB) : Cl × Bd).fst.snd.length = 2 := rfl
      have hword : (((getB, [mkB x, mkB [98, 99, 100]]), okB) : Cl × Bd).fst.fst = ⟨#[103, 101, 116]⟩ := rfl
      rw [hlen2, hword]
      clear hb3 hE3 hown3 a0 a1 b0 b1 f1
      have HN3 : Aside0 (Below w3.heap.size w3 (w3.alloc (.cells #[.string ⟨#[103, 101, 116]⟩, .slice a3 2 k3] 25))) := ⟨(Below.refl _ _).alloc (Nat.le_refl _) _⟩
      obtain ⟨w4, hw4⟩ : ∃ w4, w3.alloc (.cells #[.string ⟨#[103, 101, 116]⟩, .slice a3 2 k3] 25) = w4 := ⟨_, rfl⟩
      have m0 : w4.cell? ⟨w3.heap.size, 0, none⟩ = some (.string ⟨#[103, 101, 116]⟩) := by rw [← hw4]; simp
      have m1 : w4.cell? ⟨w3.heap.size, 1, none⟩ = some (.slice a3 2 k3) := by rw [← hw4]; simp
      rw [hw4] at HN3
      have p0 := pw_cell_below HN3.out c0
      have p1 := pw_cell_below HN3.out c1
      have q0 := pw_cell_below HN3.out d0
      have q1 := pw_cell_below HN3.out d1
      have g4 : w4.frozen? ⟨wr.heap.size, 1, none⟩ = false := (HN3.out.frozen (p := ⟨wr.heap.size, 1, none⟩) (show wr.heap.size < w3.heap.size by omega)).trans g1
      have HB4 : Aside0 (Below w.heap.size w w4) := ⟨below_step (w := w) HB3.out HN3.out⟩
      clear c0 c1 d0 d1 g1
      have hzw : w.heap.size ≤ wr.heap.size := HBW.out.size
      obtain ⟨w5, hw5⟩ : ∃ w5, w4.setCell ⟨wr.heap.size, 1, none⟩ (.string ⟨#[98, 99, 100, 101]⟩) = w5 := ⟨_, rfl⟩
      have HB5 : Aside0 (Below w.heap.size w w5) := ⟨by rw [← hw5]; exact HB4.out.setCell hzw _⟩
      have u0 : w5.cell? ⟨wr.heap.size, 0, none⟩ = some (.string (mkB x)) := by rw [← hw5, ← p0]; exact World.cell?_setCell_other (h := fun q => by injection q with _ q; omega) ..
      have u1 : w5.cell? ⟨wr.heap.size, 1, none⟩ = some (.string ⟨#[98, 99, 100, 101]⟩) := by rw [← hw5]; exact World.cell?_setCell_same' _ _ _ (by rw [p1]; rfl)
      have s0 : w5.cell? ⟨wr.heap.size + 1, 0, none⟩ = some (.string ⟨#[103, 101, 116]⟩) := by rw [← hw5, ← q0]; exact World.cell?_setCell_other (h := fun q => by injection q with q; omega) ..
      have s1 : w5.cell? ⟨wr.heap.size + 1, 1, none⟩ = some (.slice (some ⟨wr.heap.size, 0, none⟩) 2 2) := by rw [← hw5, ← q1]; exact World.cell?_setCell_other (h := fun q => by injection q with q; omega) ..
      have m2 : w5.cell? ⟨w3.heap.size, 1, none⟩ = some (.slice a3 2 k3) := by rw [← hw5, ← m1]; exact World.cell?_setCell_other (h := fun q => by injection q with q; omega) ..
      go_wp2_with (fail)
      have HTB := HTO.out ⟨#[98, 99, 100, 101]⟩ w5 (by decide) (HG.out.below HB5.out) u0 u1
      rw [HT2.out] at HTB
      have hz5 : w3.heap.size < w5.heap.size := World.block_lt_of_cell? _ _ m2
      have HIS : Aside0 (∀ (v : Value) (k : Int) W, EA W v (4, ⟨#[]⟩, k) → GE W → Calls Tryz.prog 12 #[v, .agg #[.int .i64 4, .string ⟨#[]⟩, .int .i64 k]] W fun e w' => e = .returned (.bool true) ∧ Below W.heap.size W w') := ⟨fun v k W h1 h2 => is_ok v (4, ⟨#[]⟩, k) W h1 h2⟩
      have hnb : ¬ 9223372036854775807 < (mkB L).size + 1 := by omega
      have HRL : Aside0 (readF (mkB L ++ ⟨#[101]⟩) = (noC, (4, ⟨#[]⟩, 0))) := ⟨read_longer _ (by rw [ByteArray.size_append, hLs]; decide)⟩
      clear s0 s1 u0 u1 p0 p1 q0 q1 m0 m1 g4 hw4 hw5
      refine HTB.mono ?_
      rintro e w6 ⟨v6, rfl, hE6, hb6⟩
      have HB6 : Aside0 (Below w.heap.size w w6) := ⟨below_step (w := w) HB5.out hb6⟩
      have m3 := pw_cell_below hb6 m2
      have HE6 := Aside0.mk hE6
      clear hb6 hE6 m2 HTB
      go_wp2_with (fail)
      refine (readG _ _ (HG.out.below HB6.out)).mono ?_
      rw [HRL.out]
      rintro e w7 ⟨cv7, ev7, rfl, ⟨sv7, rfl, hown7⟩, hE7, hb7⟩
      obtain ⟨a7, k7, rfl⟩ := own_form hown7
      have HB7 : Aside0 (Below w.heap.size w w7) := ⟨below_step (w := w) HB6.out hb7⟩
      have m4 := pw_cell_below hb7 m3
      have HE7 := Aside0.mk (And.intro (HE6.out.below hb7) hE7)
      have hlen0 : ((noC, (4, (⟨#[]⟩ : ByteArray), (0 : Int))) : Cl × Bd).fst.snd.length = 0 := rfl
      have hword0 : ((noC, (4, (⟨#[]⟩ : ByteArray), (0 : Int))) : Cl × Bd).fst.fst = ⟨#[]⟩ := rfl
      rw [hlen0, hword0]
      have hz7 : w3.heap.size < w7.heap.size := World.block_lt_of_cell? _ _ m4
      clear hb7 hE7 hown7 m3
      have HN7 : Aside0 (Below w7.heap.size w7 (w7.alloc (.cells #[.string ⟨#[]⟩, .slice a7 0 k7] 25))) := ⟨(Below.refl _ _).alloc (Nat.le_refl _) _⟩
      have HB8 : Aside0 (Below w.heap.size w (w7.alloc (.cells #[.string ⟨#[]⟩, .slice a7 0 k7] 25))) := ⟨below_step (w := w) HB7.out HN7.out⟩
      have HE8 := Aside0.mk (And.intro (HE7.out.1.below HN7.out) (HE7.out.2.below HN7.out))
      obtain ⟨w8, hw8⟩ : ∃ w8, w7.alloc (.cells #[.string ⟨#[]⟩, .slice a7 0 k7] 25) = w8 := ⟨_, rfl⟩
      have m5 := pw_cell_below HN7.out m4
      rw [hw8] at HB8 HE8 m5
      clear m4
      go_wp2_with (fail)
      refine (HIS.out v6 (-1) _ HE8.out.1 (HG.out.2.2.2.below HB8.out)).mono ?_
      rintro e w9 ⟨rfl, hb9⟩
      have HB9 : Aside0 (Below w.heap.size w w9) := ⟨below_step (w := w) HB8.out hb9⟩
      have HE9 := Aside0.mk (HE8.out.2.below hb9)
      clear hb9
      go_wp2_with (fail)
      refine (HIS.out ev7 0 _ HE9.out (HG.out.2.2.2.below HB9.out)).mono ?_
      rintro e wa ⟨rfl, hba⟩
      have HBa : Aside0 (Below w.heap.size w wa) := ⟨below_step (w := w) HB9.out hba⟩
      clear hba
      go_wp2_with (fail)
      refine (lives_calls _ (HG.out.below HBa.out)).mono ?_
      rintro e wb ⟨rfl, hbb⟩
      have HBb : Aside0 (Below w.heap.size w wb) := ⟨below_step (w := w) HBa.out hbb⟩
      clear hbb
      go_wp2_with (fail)
      go_ret
      exact ⟨rfl, HBb.out⟩
end Go.Proofs.YtopcidphlleciaaGreatDoor.S

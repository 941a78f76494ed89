/- lives. -/
import Derived.Test.YtopcidphlleciaaGreatDoorReI
import Derived.Test.YtopcidphlleciaaGreatDoorSErr
import Derived.Test.YtopcidphlleciaaGreatDoorProN
namespace Go.Proofs.YtopcidphlleciaaGreatDoor.S
open Go.RowKit Go.Extern.Stop Go.Stop Go.Extern Go.Proofs.YtopcidphlleciaaGreatDoorW.PrintWords Go.Proofs.YtopcidphlleciaaGreatDoorW.PrintLast Go.Proofs.YtopcidphlleciaaGreatDoorW.PrintMore
set_option linter.unusedVariables false
set_option linter.unusedSimpArgs false
/-- Two calls, asked whether they are the same. -/
def sameF (a b : Cl) : Bool := decide (a.1 = b.1) && decide (a.2 = b.2)
theorem str_eq (a b : ByteArray) : (a.toList == b.toList) = decide (a = b) := by
  rw [ByteArray.toList_eq, ByteArray.toList_eq]
  by_cases h : a = b
  · rw [h, decide_eq_true rfl, beq_self_eq_true]
  · rw [decide_eq_false h, beq_eq_false_iff_ne]
    exact fun q => h (tl_inj q)
set_option maxHeartbeats 16000000 in
set_option maxRecDepth 100000 in
theorem same_calls (wa wb : ByteArray) (la lb : List ByteArray) (pa pb : Option Addr) (na nb ca cb : Nat) (w : World) (hA : LSt w pa na la) (hB : LSt w pb nb lb) : Calls Tryz.prog 13 #[.agg #[.string wa, .slice pa na ca], .agg #[.string wb, .slice pb nb cb]] w fun e w' => e = .returned (.bool (sameF (wa, la) (wb, lb))) ∧ Below w.heap.size w w' := by
  have HA := Aside0.mk hA
  have HB := Aside0.mk hB
  have hna : na ≤ 8796093022208 := hA.2.1
  have hnb : nb ≤ 8796093022208 := hB.2.1
  have hse := str_eq wa wb
  obtain ⟨res, hres⟩ : ∃ r, sameF (wa, la) (wb, lb) = r := ⟨_, rfl⟩
  rw [hres]
  have HR := Aside0.mk hres
  clear hA hB hres
  by_cases h1 : wa = wb
  · rw [decide_eq_true h1] at hse
    by_cases h2 : na = nb
    · have HRE : Aside0 (res = decide (la = lb)) := ⟨by rw [← HR.out]; unfold sameF; rw [decide_eq_true h1]; rfl⟩
      subst h1
      subst h2
      have h2' : ((na : Int) != (na : Int)) = false := by rw [bne_eq_false_iff_eq]
      go_enter Tryz.func13, Tryz.ntmps13
      go_wp2_with (fail)
      go_loopw [5] (fun v5 wr => ∃ i : Nat, i ≤ na ∧ v5 = .int .i64 i ∧ Aside0 (la.take i = lb.take i ∧ Below ((w.alloc (.cells #[.string wa, .slice pa na ca] 25)).alloc (.cells #[.string wa, .slice pb na cb] 25)).heap.size ((w.alloc (.cells #[.string wa, .slice pa na ca] 25)).alloc (.cells #[.string wa, .slice pb na cb] 25)) wr)) (fun v5 _ => na - (intOf v5).toNat)
      case atStart => exact ⟨0, Nat.zero_le _, rfl, ⟨by rw [List.take_zero, List.take_zero], Below.refl _ _⟩⟩
      case round =>
        obtain ⟨i, hi, rfl, HX⟩ := hrel
        have HBW : Aside0 (Below w.heap.size w wr) := ⟨below_step (w := w) (((Below.refl _ _).alloc (Nat.le_refl _) _).alloc (by simp) _) HX.out.2⟩
        have c0 : wr.cell? ⟨w.heap.size, 1, none⟩ = some (.slice pa na ca) := pw_cell_below HX.out.2 (by simp)
        have c1 : wr.cell? ⟨w.heap.size + 1, 1, none⟩ = some (.slice pb na cb) := pw_cell_below HX.out.2 (by simp)
        by_cases h3 : i < na
        · have h3' : (i : Int) < (na : Int) := by omega
          have h3b : (i : Int) < (na : Int) := by omega
          have h0' : (0 : Int) ≤ (i : Int) := by omega
          have hia : i < la.length := by rw [HA.out.1]; exact h3
          have hib : i < lb.length := by rw [HB.out.1]; omega
          obtain ⟨ga, oa, rfl, hca⟩ := HA.out.2.2.1 (by omega)
          obtain ⟨gb, ob, rfl, hcb⟩ := HB.out.2.2.1 (by omega)
          have a1 : wr.cell? ⟨ga, oa + i, none⟩ = some (.string la[i]) := pw_cell_below HBW.out (hca i hia)
          have a2 : wr.cell? ⟨gb, ob + i, none⟩ = some (.string lb[i]) := pw_cell_below HBW.out (hcb i hib)
          have HTA : Aside0 (la.take (i + 1) = la.take i ++ [la[i]]) := ⟨List.take_succ_eq_append_getElem hia⟩
          have HTB : Aside0 (lb.take (i + 1) = lb.take i ++ [lb[i]]) := ⟨List.take_succ_eq_append_getElem hib⟩
          have hxy := str_eq la[i] lb[i]
          have HNE : Aside0 (la[i] ≠ lb[i] → res = false) := ⟨fun q => by rw [HRE.out]; exact decide_eq_false (fun e => q (by subst e; rfl))⟩
          generalize la[i] = x at *
          generalize lb[i] = y at *
          clear hca hcb hia hib
          by_cases hq : x = y
          · rw [decide_eq_true hq] at hxy
            have HQ := Aside0.mk hq
            clear hq
            go_wp2_with (fail)
            go_region
            go_wp2_with (fail)
            exact ⟨⟨i + 1, by omega, by simp, ⟨by rw [HTA.out, HTB.out, HX.out.1, HQ.out], below_drew1 HX.out.2⟩⟩, by simp [intOf]; omega⟩
          · rw [decide_eq_false hq] at hxy
            have HQ := Aside0.mk (HNE.out hq)
            clear hq
            go_wp2_with (fail)
            go_region
            go_wp2_with (fail)
            go_ret
            exact ⟨by rw [HQ.out]; rfl, below_drew1 HBW.out⟩
        · have h3' : ¬ (i : Int) < (na : Int) := by omega
          have HE : Aside0 (res = true) := ⟨by rw [HRE.out]; have h := HX.out.1; rw [List.take_of_length_le (by rw [HA.out.1]; omega), List.take_of_length_le (by rw [HB.out.1]; omega)] at h; exact decide_eq_true h⟩
          go_wp2_with (fail)
          go_ret
          exact ⟨by rw [HE.out]; rfl, HBW.out⟩
    · have h2' : ((na : Int) == (nb : Int)) = false := by rw [beq_eq_false_iff_ne]; omega
      have h2'' : ((na : Int) != (nb : Int)) = true := by rw [bne_iff_ne]; omega
      have HRE : Aside0 (res = false) := ⟨by rw [← HR.out]; unfold sameF; rw [Bool.and_eq_false_iff]; right; exact decide_eq_false (fun q => h2 (by rw [← HA.out.1, ← HB.out.1]; exact congrArg List.length q))⟩
      clear h2 h1
      go_enter Tryz.func13, Tryz.ntmps13
      go_wp2_with (fail)
      go_ret
      exact ⟨by rw [HRE.out]; rfl, ((Below.refl _ _).alloc (Nat.le_refl _) _).alloc (by simp) _⟩
  · rw [decide_eq_false h1] at hse
    have HRE : Aside0 (res = false) := ⟨by rw [← HR.out]; unfold sameF; rw [decide_eq_false h1]; rfl⟩
    clear h1
    go_enter Tryz.func13, Tryz.ntmps13
    go_wp2_with (fail)
    go_ret
    exact ⟨by rw [HRE.out]; rfl, ((Below.refl _ _).alloc (Nat.le_refl _) _).alloc (by simp) _⟩
/-- Concrete answers. -/
theorem lives_reads : readF ⟨#[103, 101, 116, 32, 102, 111, 111, 37, 50, 48, 98, 97, 114, 32, 49, 46, 48, 46, 48]⟩ = ((⟨#[103, 101, 116]⟩, [⟨#[102, 111, 111, 32, 98, 97, 114]⟩, ⟨#[49, 46, 48, 46, 48]⟩]), okB) ∧ readF ⟨#[103, 101, 116, 32, 32, 97]⟩ = (noC, (300, ⟨#[]⟩, 4)) ∧ readF ⟨#[115, 111, 108, 118, 101, 32, 56, 32, 49, 32, 120]⟩ = (noC, (302, ⟨#[115, 111, 108, 118, 101]⟩, 0)) ∧ readF ⟨#[110, 111, 112, 101]⟩ = (noC, (301, ⟨#[110, 111, 112, 101]⟩, -1)) := by
  decide +kernel
/-- What the world must hold. -/
def GW (w : World) : Prop := GS w ∧ GT w ∧ GM w ∧ GE w
theorem GW.below {w w1 : World} (h : GW w) (hb : Below w.heap.size w w1) : GW w1 := ⟨h.1.below hb, tab_below h.2.1 hb, h.2.2.1.below hb, h.2.2.2.below hb⟩
theorem readG (s : ByteArray) (w : World) (h : GW w) : Calls Tryz.prog 10 #[.string s] w fun e w' => ∃ cv ev, e = .returned (.tuple #[cv, ev]) ∧ RC w.heap.size w' (readF s).1 cv ∧ EA w' ev (readF s).2 ∧ Below w.heap.size w w' := read_calls s w h.1 h.2.1 h.2.2.1
theorem EA.nil {w : World} {v : Value} (h : EA w v okB) : v = .nilIface := by
  rcases h with ⟨_, _, h⟩ | ⟨h, _⟩
  · exact h
  · exact absurd h (by decide)
set_option maxHeartbeats 16000000 in
set_option maxRecDepth 100000 in
theorem lives_of (HIS : Aside0 (∀ (v : Value) (b : Bd) (w : World), EA w v b → GE w → Calls Tryz.prog 12 #[v, bV b] w fun ev w' => ev = .returned (.bool true) ∧ Below w.heap.size w w')) (w : World) (hG : GW w) : Calls Tryz.prog 9 #[] w fun e w' => e = .returned (.bool true) ∧ Below w.heap.size w w' := by
  have HG := Aside0.mk hG
  clear hG
  have HR1 : Aside0 (∀ w, GW w → Calls Tryz.prog 10 #[.string ⟨#[103, 101, 116, 32, 102, 111, 111, 37, 50, 48, 98, 97, 114, 32, 49, 46, 48, 46, 48]⟩] w fun e w' => ∃ a c, e = .returned (.tuple #[.agg #[.string ⟨#[103, 101, 116]⟩, .slice a 2 c], .nilIface]) ∧ LSt w' a 2 [⟨#[102, 111, 111, 32, 98, 97, 114]⟩, ⟨#[49, 46, 48, 46, 48]⟩] ∧ Below w.heap.size w w') := ⟨fun w h => by
    refine (readG _ w h).mono ?_
    rintro e w' ⟨cv, ev, rfl, ⟨sv, hR, hO⟩, hE, hb⟩
    rw [lives_reads.1] at hR hO hE
    obtain ⟨a, c, rfl⟩ := own_form hO
    exact ⟨a, c, by rw [hR, hE.nil]; rfl, own_lst hO (by decide) (by decide), hb⟩⟩
  have HRX : ∀ (s : ByteArray) (b : Bd), readF s = (noC, b) → Aside0 (∀ w, GW w → Calls Tryz.prog 10 #[.string s] w fun e w' => ∃ a c ev, e = .returned (.tuple #[.agg #[.string ⟨#[]⟩, .slice a 0 c], ev]) ∧ EA w' ev b ∧ Below w.heap.size w w') := fun s b hs => ⟨fun w h => by
    refine (readG s w h).mono ?_
    rintro e w' ⟨cv, ev, rfl, ⟨sv, hR, hO⟩, hE, hb⟩
    rw [hs] at hR hO hE
    obtain ⟨a, c, rfl⟩ := own_form hO
    exact ⟨a, c, ev, by rw [hR]; rfl, hE, hb⟩⟩
  have HR2 := HRX _ _ lives_reads.2.1
  have HR3 := HRX _ _ lives_reads.2.2.1
  have HR4 := HRX _ _ lives_reads.2.2.2
  clear HRX
  go_enter Tryz.func9, Tryz.ntmps9
  go_wp2_with (fail)
  refine (HR1.out _ HG.out).mono ?_
  rintro e w1 ⟨a, c, rfl, hL, hb1⟩
  go_wp2_with (fail)
  have HW1 : Aside0 (Below w.heap.size w w1) := ⟨hb1⟩
  have HL1 := Aside0.mk hL
  have hz1 := hb1.size
  clear hb1 hL
  generalize hwa : w1.alloc (.cells #[.string ⟨#[103, 101, 116]⟩, .slice a 2 c] 25) = wa at *
  have HWA : Aside0 (Below w1.heap.size w1 wa) := ⟨by rw [← hwa]; exact (Below.refl _ _).alloc (Nat.le_refl _) _⟩
  have a0 : wa.cell? ⟨w1.heap.size, 0, none⟩ = some (.string ⟨#[103, 101, 116]⟩) := by rw [← hwa]; simp
  have a1 : wa.cell? ⟨w1.heap.size, 1, none⟩ = some (.slice a 2 c) := by rw [← hwa]; simp
  have HBA : Aside0 (Below w.heap.size w wa) := ⟨below_step (w := w) HW1.out HWA.out⟩
  clear hwa
  refine (HR2.out _ (HG.out.below HBA.out)).mono ?_
  rintro e w2 ⟨a2, c2, ev2, rfl, hE2, hb2⟩
  have HW2 : Aside0 (Below w.heap.size w w2) := ⟨below_step (w := w) HBA.out hb2⟩
  have HA2 : Aside0 (Below w1.heap.size w1 w2) := ⟨below_step (w := w1) HWA.out hb2⟩
  have d0 := pw_cell_below hb2 a0
  have d1 := pw_cell_below hb2 a1
  have HE2 := Aside0.mk hE2
  have hz2 := HW2.out.size
  clear hb2 hE2 a0 a1
  go_wp2_with (fail)
  have HN2 : Aside0 (Below w2.heap.size w2 (w2.alloc (.cells #[.string ⟨#[]⟩, .slice a2 0 c2] 25))) := ⟨(Below.refl _ _).alloc (Nat.le_refl _) _⟩
  refine (HR3.out _ (HG.out.below (below_step (w := w) HW2.out HN2.out))).mono ?_
  rintro e w3 ⟨a3, c3, ev3, rfl, hE3, hb3⟩
  have HS3 : Aside0 (Below w2.heap.size w2 w3) := ⟨below_step (w := w2) HN2.out hb3⟩
  have HW3 : Aside0 (Below w.heap.size w w3) := ⟨below_step (w := w) HW2.out HS3.out⟩
  have f0 := pw_cell_below HS3.out d0
  have f1 := pw_cell_below HS3.out d1
  have HE3 := Aside0.mk (And.intro (HE2.out.below HS3.out) hE3)
  have hz3 := HW3.out.size
  clear hb3 hE3 d0 d1
  go_wp2_with (fail)
  have HN3 : Aside0 (Below w3.heap.size w3 (w3.alloc (.cells #[.string ⟨#[]⟩, .slice a3 0 c3] 25))) := ⟨(Below.refl _ _).alloc (Nat.le_refl _) _⟩
  refine (HR4.out _ (HG.out.below (below_step (w := w) HW3.out HN3.out))).mono ?_
  rintro e w4 ⟨a4, c4, ev4, rfl, hE4, hb4⟩
  have HS4 : Aside0 (Below w3.heap.size w3 w4) := ⟨below_step (w := w3) HN3.out hb4⟩
  have HW4 : Aside0 (Below w.heap.size w w4) := ⟨below_step (w := w) HW3.out HS4.out⟩
  have g0 := pw_cell_below HS4.out f0
  have g1 := pw_cell_below HS4.out f1
  have HE4 := Aside0.mk (And.intro (HE3.out.1.below HS4.out) (And.intro (HE3.out.2.below HS4.out) hE4))
  have HL4 : Aside0 (LSt w4 a 2 [⟨#[102, 111, 111, 32, 98, 97, 114]⟩, ⟨#[49, 46, 48, 46, 48]⟩]) := ⟨((HL1.out.below HA2.out).below HS3.out).below HS4.out⟩
  have hz4 := HW4.out.size
  have n4 := World.block_lt_of_cell? _ _ g0
  clear hb4 hE4 f0 f1
  go_wp2_with (fail)
  have HN5 : Aside0 (Below w4.heap.size w4 ((w4.alloc (.cells #[.string ⟨#[]⟩, .slice a4 0 c4] 25)).alloc (.cells #[.string ⟨#[102, 111, 111, 32, 98, 97, 114]⟩, .string ⟨#[49, 46, 48, 46, 48]⟩] 9))) := ⟨((Below.refl _ _).alloc (Nat.le_refl _) _).alloc (by simp) _⟩
  refine (same_calls ⟨#[103, 101, 116]⟩ ⟨#[103, 101, 116]⟩ [⟨#[102, 111, 111, 32, 98, 97, 114]⟩, ⟨#[49, 46, 48, 46, 48]⟩] [⟨#[102, 111, 111, 32, 98, 97, 114]⟩, ⟨#[49, 46, 48, 46, 48]⟩] _ _ 2 2 _ _ _ (HL4.out.below HN5.out) ⟨rfl, by decide, fun _ => ⟨w4.heap.size + 1, 0, rfl, fun i hi => by
    match i, hi with
    | 0, _ => simp
    | 1, _ => simp
    | n + 2, hi => exact absurd hi (by show ¬ n + 2 < 2; omega)⟩, by decide⟩).mono ?_
  rintro e w5 ⟨rfl, hb5⟩
  have HS5 : Aside0 (Below w4.heap.size w4 w5) := ⟨below_step (w := w4) HN5.out hb5⟩
  have HW5 : Aside0 (Below w.heap.size w w5) := ⟨below_step (w := w) HW4.out HS5.out⟩
  have HE5 := Aside0.mk (And.intro (HE4.out.1.below HS5.out) (And.intro (HE4.out.2.1.below HS5.out) (HE4.out.2.2.below HS5.out)))
  have hsm : sameF (⟨#[103, 101, 116]⟩, [⟨#[102, 111, 111, 32, 98, 97, 114]⟩, ⟨#[49, 46, 48, 46, 48]⟩]) (⟨#[103, 101, 116]⟩, [⟨#[102, 111, 111, 32, 98, 97, 114]⟩, ⟨#[49, 46, 48, 46, 48]⟩]) = true := by decide +kernel
  clear hb5 g0 g1
  go_wp2_with (fail)
  refine (HIS.out ev2 (300, ⟨#[]⟩, 4) _ HE5.out.1 (HG.out.2.2.2.below HW5.out)).mono ?_
  rintro e w6 ⟨rfl, hb6⟩
  have HW6 : Aside0 (Below w.heap.size w w6) := ⟨below_step (w := w) HW5.out hb6⟩
  have HE6 := Aside0.mk (And.intro (HE5.out.2.1.below hb6) (HE5.out.2.2.below hb6))
  clear hb6
  go_wp2_with (fail)
  refine (HIS.out ev3 (302, ⟨#[115, 111, 108, 118, 101]⟩, 0) _ HE6.out.1 (HG.out.2.2.2.below HW6.out)).mono ?_
  rintro e w7 ⟨rfl, hb7⟩
  have HW7 : Aside0 (Below w.heap.size w w7) := ⟨below_step (w := w) HW6.out hb7⟩
  have HE7 := Aside0.mk (HE6.out.2.below hb7)
  clear hb7
  go_wp2_with (fail)
  refine (HIS.out ev4 (301, ⟨#[110, 111, 112, 101]⟩, -1) _ HE7.out (HG.out.2.2.2.below HW7.out)).mono ?_
  rintro e w8 ⟨rfl, hb8⟩
  have HW8 : Aside0 (Below w.heap.size w w8) := ⟨below_step (w := w) HW7.out hb8⟩
  clear hb8
  go_wp2_with (fail)
  have HWR : Aside0 (∀ W, Calls Tryz.prog 23 #[.string ⟨#[97, 32, 98, 37]⟩] W fun e w' => e = .returned (.string ⟨#[97, 37, 50, 48, 98, 37, 50, 53]⟩) ∧ Below W.heap.size W w') := ⟨fun W => write_calls _ W (by decide)⟩
  refine (HWR.out _).mono ?_
  rintro e w9 ⟨rfl, hb9⟩
  have HW9 : Aside0 (Below w.heap.size w w9) := ⟨below_step (w := w) HW8.out hb9⟩
  clear hb9
  go_wp2_with (fail)
  go_ret
  exact ⟨rfl, HW9.out⟩
end Go.Proofs.YtopcidphlleciaaGreatDoor.S

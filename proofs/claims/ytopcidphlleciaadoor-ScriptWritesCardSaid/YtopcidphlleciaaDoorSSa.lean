/- The document's Same. -/
import Derived.Test.YtopcidphlleciaaDoorReI
namespace Go.Proofs.YtopcidphlleciaaDoor.S
open Go.RowKit Go.Extern.Stop Go.Stop Go.Extern Go.Proofs.YtopcidphlleciaaDoorW.PrintWords Go.Proofs.YtopcidphlleciaaDoorW.PrintLast Go.Proofs.YtopcidphlleciaaDoorW.PrintMore
set_option linter.unusedVariables false
set_option linter.unusedSimpArgs false
/-- Two calls, asked whether they are the same. -/
def sameF (a b : Cl) : Bool := decide (a.1 = b.1) && decide (a.2 = b.2)
theorem str_eq (a b : ByteArray) : (a.toList == b.toList) = decide (a = b) := by
  rw [ByteArray.toList_eq, ByteArray.toList_eq]
  by_cases h : a = b
  · rw [h, decide_eq_true rfl, beq_self_eq_true]
  · rw [decide_eq_false h, beq_eq_false_iff_ne]
    exact fun q => h (tl_inj q)
set_option maxHeartbeats 16000000 in
set_option maxRecDepth 100000 in
theorem same_calls (wa wb : ByteArray) (la lb : List ByteArray) (pa pb : Option Addr) (na nb ca cb : Nat) (w : World) (hA : LSt w pa na la) (hB : LSt w pb nb lb) : Calls Tryd.prog 12 #[.agg #[.string wa, .slice pa na ca], .agg #[.string wb, .slice pb nb cb]] w fun e w' => e = .returned (.bool (sameF (wa, la) (wb, lb))) ∧ Below w.heap.size w w' := by
  have HA := Aside0.mk hA
  have HB := Aside0.mk hB
  have hna : na ≤ 8796093022208 := hA.2.1
  have hnb : nb ≤ 8796093022208 := hB.2.1
  have hse := str_eq wa wb
  obtain ⟨res, hres⟩ : ∃ r, sameF (wa, la) (wb, lb) = r := ⟨_, rfl⟩
  rw [hres]
  have HR := Aside0.mk hres
  clear hA hB hres
  by_cases h1 : wa = wb
  · rw [decide_eq_true h1] at hse
    by_cases h2 : na = nb
    · have HRE : Aside0 (res = decide (la = lb)) := ⟨by rw [← HR.out]; unfold sameF; rw [decide_eq_true h1]; rfl⟩
      subst h1
      subst h2
      have h2' : ((na : Int) != (na : Int)) = false := by rw [bne_eq_false_iff_eq]
      go_enter Tryd.func12, Tryd.ntmps12
      go_wp2_with (fail)
      go_loopw [5] (fun v5 wr => ∃ i : Nat, i ≤ na ∧ v5 = .int .i64 i ∧ Aside0 (la.take i = lb.take i ∧ Below ((w.alloc (.cells #[.string wa, .slice pa na ca] 31)).alloc (.cells #[.string wa, .slice pb na cb] 31)).heap.size ((w.alloc (.cells #[.string wa, .slice pa na ca] 31)).alloc (.cells #[.string wa, .slice pb na cb] 31)) wr)) (fun v5 _ => na - (intOf v5).toNat)
      case atStart => exact ⟨0, Nat.zero_le _, rfl, ⟨by rw [List.take_zero, List.take_zero], Below.refl _ _⟩⟩
      case round =>
        obtain ⟨i, hi, rfl, HX⟩ := hrel
        have HBW : Aside0 (Below w.heap.size w wr) := ⟨below_step (w := w) (((Below.refl _ _).alloc (Nat.le_refl _) _).alloc (by simp) _) HX.out.2⟩
        have c0 : wr.cell? ⟨w.heap.size, 1, none⟩ = some (.slice pa na ca) := pw_cell_below HX.out.2 (by simp)
        have c1 : wr.cell? ⟨w.heap.size + 1, 1, none⟩ = some (.slice pb na cb) := pw_cell_below HX.out.2 (by simp)
        by_cases h3 : i < na
        · have h3' : (i : Int) < (na : Int) := by omega
          have h3b : (i : Int) < (na : Int) := by omega
          have h0' : (0 : Int) ≤ (i : Int) := by omega
          have hia : i < la.length := by rw [HA.out.1]; exact h3
          have hib : i < lb.length := by rw [HB.out.1]; omega
          obtain ⟨ga, oa, rfl, hca⟩ := HA.out.2.2.1 (by omega)
          obtain ⟨gb, ob, rfl, hcb⟩ := HB.out.2.2.1 (by omega)
          have a1 : wr.cell? ⟨ga, oa + i, none⟩ = some (.string la[i]) := pw_cell_below HBW.out (hca i hia)
          have a2 : wr.cell? ⟨gb, ob + i, none⟩ = some (.string lb[i]) := pw_cell_below HBW.out (hcb i hib)
          have HTA : Aside0 (la.take (i + 1) = la.take i ++ [la[i]]) := ⟨List.take_succ_eq_append_getElem hia⟩
          have HTB : Aside0 (lb.take (i + 1) = lb.take i ++ [lb[i]]) := ⟨List.take_succ_eq_append_getElem hib⟩
          have hxy := str_eq la[i] lb[i]
          have HNE : Aside0 (la[i] ≠ lb[i] → res = false) := ⟨fun q => by rw [HRE.out]; exact decide_eq_false (fun e => q (by subst e; rfl))⟩
          generalize la[i] = x at *
          generalize lb[i] = y at *
          clear hca hcb hia hib
          by_cases hq : x = y
          · rw [decide_eq_true hq] at hxy
            have HQ := Aside0.mk hq
            clear hq
            go_wp2_with (fail)
            go_region
            go_wp2_with (fail)
            exact ⟨⟨i + 1, by omega, by simp, ⟨by rw [HTA.out, HTB.out, HX.out.1, HQ.out], below_drew1 HX.out.2⟩⟩, by simp [intOf]; omega⟩
          · rw [decide_eq_false hq] at hxy
            have HQ := Aside0.mk (HNE.out hq)
            clear hq
            go_wp2_with (fail)
            go_region
            go_wp2_with (fail)
            go_ret
            exact ⟨by rw [HQ.out]; rfl, below_drew1 HBW.out⟩
        · have h3' : ¬ (i : Int) < (na : Int) := by omega
          have HE : Aside0 (res = true) := ⟨by rw [HRE.out]; have h := HX.out.1; rw [List.take_of_length_le (by rw [HA.out.1]; omega), List.take_of_length_le (by rw [HB.out.1]; omega)] at h; exact decide_eq_true h⟩
          go_wp2_with (fail)
          go_ret
          exact ⟨by rw [HE.out]; rfl, HBW.out⟩
    · have h2' : ((na : Int) == (nb : Int)) = false := by rw [beq_eq_false_iff_ne]; omega
      have h2'' : ((na : Int) != (nb : Int)) = true := by rw [bne_iff_ne]; omega
      have HRE : Aside0 (res = false) := ⟨by rw [← HR.out]; unfold sameF; rw [Bool.and_eq_false_iff]; right; exact decide_eq_false (fun q => h2 (by rw [← HA.out.1, ← HB.out.1]; exact congrArg List.length q))⟩
      clear h2 h1
      go_enter Tryd.func12, Tryd.ntmps12
      go_wp2_with (fail)
      go_ret
      exact ⟨by rw [HRE.out]; rfl, ((Below.refl _ _).alloc (Nat.le_refl _) _).alloc (by simp) _⟩
  · rw [decide_eq_false h1] at hse
    have HRE : Aside0 (res = false) := ⟨by rw [← HR.out]; unfold sameF; rw [decide_eq_false h1]; rfl⟩
    clear h1
    go_enter Tryd.func12, Tryd.ntmps12
    go_wp2_with (fail)
    go_ret
    exact ⟨by rw [HRE.out]; rfl, ((Below.refl _ _).alloc (Nat.le_refl _) _).alloc (by simp) _⟩
end Go.Proofs.YtopcidphlleciaaDoor.S

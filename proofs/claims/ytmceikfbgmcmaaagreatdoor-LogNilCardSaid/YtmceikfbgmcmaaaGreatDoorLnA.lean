/- The law LogNil. -/
import Derived.Test.YtmceikfbgmcmaaaGreatDoorAlA
import Derived.Test.YtmceikfbgmcmaaaGreatDoorAlC
namespace Go.Proofs.YtmceikfbgmcmaaaGreatDoor.D
open Go.RowKit Go.Extern.Stop Go.Stop Go.Extern Go.Proofs.YtmceikfbgmcmaaaGreatDoorW.PrintWords Go.Proofs.YtmceikfbgmcmaaaGreatDoorW.PrintLast Go.Proofs.YtmceikfbgmcmaaaGreatDoorW.PrintMore
set_option linter.unusedVariables false
set_option linter.unusedSimpArgs false
attribute [local go_sem] Oper.semAt_some
set_option maxHeartbeats 8000000 in
theorem lappendNil_calls (x : ByteArray) (w : World) : Calls Tryz.prog 11 #[.pointer none, .string x] w fun e w' => e = .returned (.iface 98 (.pointer (some ⟨w.heap.size, 0, none⟩))) ∧ FC w' w.heap.size 1 ⟨#[]⟩ ∧ Below w.heap.size w w' := by
  have e0 := eqN
  go_enter Tryz.func11, Tryz.ntmps11
  go_wp2_with (fail)
  refine (lfault_calls 1 (-1) _).mono ?_
  rintro e w1 ⟨rfl, rfl⟩
  go_wp2_with (fail)
  go_ret
  exact ⟨rfl, ⟨by simp, by simp, by simp, by simp⟩, (Below.refl _ _).alloc (Nat.le_refl _) _⟩
set_option maxHeartbeats 32000000 in
set_option maxRecDepth 100000 in
/-- The law LogNil. -/
theorem logNil_calls (i : Int) (s : ByteArray) (w : World) (hG : GW w) : Calls Tryz.prog 3 #[.int .i64 i, .string s] w fun e w' => e = .returned (.bool true) ∧ Below w.heap.size w w' := by
  have HG := Aside0.mk hG
  have HA1 := Aside0.mk (alive_calls w hG)
  clear hG
  have e1 : ∀ (f : Nat) (c : Array Value) (w : World), (binOp .eql 31 (.func (.func f) #[] c) .nilFunc).run Tryz.prog w = .ok (.bool false) w := fun f c w => by kernel_rfl
  have e2 := eqN
  refine (callsIn_wide (n := 9)).1 ?_
  refine callsIn_of_wp_marks Tryz.func3 rfl trivial ?_ rfl
  refine wpIn_wide.2 ?_
  simp only [Tryz.ntmps3, List.size_toArray, List.length_cons, List.length_nil, Nat.reduceAdd, Nat.reduceSub, Array.replicate_succ, Array.replicate_zero, List.push_toArray, List.append_toArray, List.nil_append, List.cons_append]
  go_wp2_with (fail)
  refine HA1.out.mono ?_
  rintro e w1 ⟨rfl, hb1⟩
  have HB1 := Aside0.mk hb1
  clear hb1
  go_wp2_with (fail)
  refine (lopenNil_calls _).mono ?_
  rintro e w2 ⟨v2, rfl, hE2, hb2⟩
  have HE2 := Aside0.mk hE2
  have HB2 := Aside0.mk (below_step (w := w) HB1.out hb2)
  clear hE2 hb2
  go_wp2_with (fail)
  refine (atNil_calls i _).mono ?_
  rintro e w3 ⟨rfl, hF3, hb3, hz3⟩
  have HF3 := Aside0.mk hF3
  have HE3 := Aside0.mk (HE2.out.below hb3)
  have HB3 := Aside0.mk (below_step (w := w) HB2.out hb3)
  clear hF3 hb3
  go_wp2_with (fail)
  refine (all_calls _ _).mono ?_
  rintro e w4 ⟨rfl, rfl⟩
  go_wp2_with (fail)
  refine (all_calls _ _).mono ?_
  rintro e w4 ⟨rfl, rfl⟩
  go_wp2_with (fail)
  have cN : (((w3.alloc (.cells #[.pointer none] 23)).alloc (.cells #[.int .i64 0] 3)).alloc (.cells #[.pointer none] 23)).cell? ⟨w3.heap.size + 1, 0, none⟩ = some (.int .i64 0) := by go_simp
  have cL : (((w3.alloc (.cells #[.pointer none] 23)).alloc (.cells #[.int .i64 0] 3)).alloc (.cells #[.pointer none] 23)).cell? ⟨w3.heap.size + 1 + 1, 0, none⟩ = some (.pointer none) := by go_simp
  have hb4 : Below w3.heap.size w3 (((w3.alloc (.cells #[.pointer none] 23)).alloc (.cells #[.int .i64 0] 3)).alloc (.cells #[.pointer none] 23)) := (((Below.refl _ w3).alloc (Nat.le_refl _) _).alloc (by simp) _).alloc (by simp <;> omega) _
  obtain ⟨w4, hw4⟩ : ∃ w4, (((w3.alloc (.cells #[.pointer none] 23)).alloc (.cells #[.int .i64 0] 3)).alloc (.cells #[.pointer none] 23)) = w4 := ⟨_, rfl⟩
  rw [hw4] at cN cL hb4 ⊢
  have HB4 := Aside0.mk (below_step (w := w) HB3.out hb4)
  have hz4 := hb4.size
  have hzw := HB3.out.size
  have HE4 := Aside0.mk (HE3.out.below hb4)
  have HF4 := Aside0.mk (HF3.out.below hb4)
  clear hw4 hb4
  refine (wpIn_wide (n := 9)).1 ?_
  refine wpIn_rangeFunc_ownF (F := Fence.wide) rfl (by decide) (gf := 44) (lb := #[.pointer (some ⟨w3.heap.size + 1 + 1, 0, none⟩)]) rfl trivial (enters_of Tryz.func44 (by kernel_rfl) rfl)
    (allNil_stops 8 (w3.heap.size + 1 + 1) w4 (by decide) cL) (fun _ _ => trivial) (fun _ _ _ _ _ _ _ _ => trivial) (Below.refl _ _) (fun _ => rfl)
    (fun _ W => W.cell? ⟨w3.heap.size + 1, 0, none⟩ = some (.int .i64 0) ∧ Below w4.heap.size w4 W) (fun _ _ _ => False)
    (OwnFrom.and (Own.from (fun s A B row hs hg hr => cell_kept hs hg hr) _) (ownFrom_below (Nat.le_refl _) (Nat.le_refl _)))
    (fun _ _ _ _ _ hs _ _ => hs) ⟨cN, Below.refl _ _⟩ _ (fun l x W K hK => wpIn_skip hK) (fun l pre x W _ h => absurd h (Nat.not_lt_zero _)) ?done (fun _ _ _ _ _ h => h.elim)
  case done =>
    rintro D xs W hD hS ⟨hc, hB⟩ hK
    have HK := Aside0.mk hK
    have HBW := Aside0.mk (below_step (w := w) HB4.out hB)
    have HI1 := Aside0.mk (isEr_calls 1 _ v2 ⟨#[]⟩ W (HE4.out.below hB) (HG.out.below HBW.out).1 (by decide) (by decide))
    have HDD := Aside0.mk hD
    have HBX := Aside0.mk hB
    have hDs : D < W.heap.size := (Array.getElem?_eq_some_iff.1 hK).1
    clear hB hK
    go_wp2_with (fail)
    refine HI1.out.mono ?_
    rintro e w5 ⟨rfl, hb5⟩
    have HB5 := Aside0.mk (below_step (w := w) HBW.out hb5)
    have HBQ := Aside0.mk (below_step (w := w4) HBX.out hb5)
    have HW5 := Aside0.mk hb5
    clear hb5
    have HI2 : Aside0 (Calls Tryz.prog 10 #[fV w2.heap.size, .int .i64 1, .string ⟨#[]⟩, .int .i64 (-1)] w5 fun ev w' => ev = .returned (.bool true) ∧ Below w5.heap.size w5 w') := ⟨is_ok w2.heap.size 1 ⟨#[]⟩ w5 ((HF4.out.below (w1 := w5) (HBQ.out)).fc) (HG.out.below HB5.out).1 (by decide) (by decide) (by decide)⟩
    go_wp2_with (fail)
    refine HI2.out.mono ?_
    rintro e w6 ⟨rfl, hb6⟩
    have HB6 := Aside0.mk (below_step (w := w) HB5.out hb6)
    have HQ6 := Aside0.mk (below_step (w := w4) HBQ.out hb6)
    have HW6 := Aside0.mk (below_step (w := W) HW5.out hb6)
    clear hb6
    go_wp2_with (fail)
    refine (lappendNil_calls s _).mono ?_
    rintro e w7 ⟨rfl, hF7, hb7⟩
    have HB7 := Aside0.mk (below_step (w := w) HB6.out hb7)
    have HQ7 := Aside0.mk (below_step (w := w4) HQ6.out hb7)
    have HW7 := Aside0.mk (below_step (w := W) HW6.out hb7)
    have HI7 := Aside0.mk (is_ok w6.heap.size 1 ⟨#[]⟩ w7 hF7 (HG.out.below HB7.out).1 (by decide) (by decide) (by decide))
    clear hb7 hF7
    go_wp2_with (fail)
    refine HI7.out.mono ?_
    rintro e w8 ⟨rfl, hb8⟩
    have HB8 := Aside0.mk (below_step (w := w) HB7.out hb8)
    have HQ8 := Aside0.mk (below_step (w := w4) HQ7.out hb8)
    have HQD := Aside0.mk (below_step (w := W) HW7.out hb8)
    clear hb8
    go_wp2_with (fail)
    refine (lenNil_calls _).mono ?_
    rintro e w9 ⟨rfl, rfl⟩
    go_wp2_with (fail)
    refine (fromNil_calls i _).mono ?_
    rintro e w9 ⟨rfl, rfl⟩
    go_wp2_with (fail)
    refine (filesNil_calls _).mono ?_
    rintro e w9 ⟨rfl, rfl⟩
    go_wp2_with (fail)
    refine (brokenNil_calls _).mono ?_
    rintro e w9 ⟨rfl, rfl⟩
    have c8 := pw_cell_below HQ8.out cN
    have HAL := Aside0.mk (alive_calls w8 (HG.out.below HB8.out))
    go_wp2_with (fail)
    refine HAL.out.mono ?_
    rintro e w9 ⟨rfl, hb9⟩
    have HB9 := Aside0.mk (below_step (w := w) HB8.out hb9)
    have HK9 : Aside0 (w9.heap[D]? = some (.deferred (some []))) := ⟨((HQD.out.trans (hb9.mono HQD.out.size)).block D hDs).trans HK.out⟩
    clear hb9
    go_wp2_with (fail)
    refine ⟨by simp, .inl ⟨_, _, rfl, run_takeDeferred HK9.out, ?_⟩⟩
    refine ⟨_, results_tmp rfl _ _ _, rfl, ?_⟩
    exact HB9.out.trans (belowK_b (w := w4) (n₀ := w.heap.size) (by omega) w9 D _ _ HDD.out HK9.out rfl rfl)
theorem logNil_law {A B : Prop} (i : Int) (s : ByteArray) (w : World) (_ : A) (_ : B) (hG : GW w) : Calls Tryz.prog 3 #[.int .i64 i, .string s] w fun e w' => e = .returned (.bool true) ∧ Below w.heap.size w w' := logNil_calls i s w hG
end Go.Proofs.YtmceikfbgmcmaaaGreatDoor.D

/- The document's Names. -/
import Derived.Test.YtcbgeakabchenaaGreatDoorRefA
namespace Go.Proofs.YtcbgeakabchenaaGreatDoor.D
open Go.RowKit Go.Extern.Stop Go.Stop Go.Extern Go.Proofs.YtcbgeakabchenaaGreatDoorW.PrintWords Go.Proofs.YtcbgeakabchenaaGreatDoorW.PrintLast Go.Proofs.YtcbgeakabchenaaGreatDoorW.PrintMore
set_option linter.unusedVariables false
set_option linter.unusedSimpArgs false
theorem nl_end {w : World} {base n : Nat} {v : Value} {l : List ByteArray} (h : w.ownsRow base 9 1 v n (l.map Value.string)) (hn : l.length = n) : NL w base v l := by
  rcases h.2 with ⟨h1, h2⟩ | ⟨g, cap, cur, rfl, hb, hg, hnc, _, _, ht⟩
  · exact .inl ⟨h1, List.length_eq_zero_iff.1 (hn.trans h2)⟩
  · refine .inr ⟨g, cap, by rw [hn], hb, (Array.getElem?_eq_some_iff.1 hg).1, fun i hi => ?_⟩
    have e := congrArg (fun l => l[i]?) ht
    rw [List.getElem?_take_of_lt (by omega)] at e
    rw [cell_of_row w g i cur _ _ hg, ← Array.getElem?_toList, e]
    simp [hi]
set_option maxHeartbeats 16000000 in
set_option maxRecDepth 100000 in
theorem rnames_calls (p g : Nat) (s : St) (w : World) (h : RK w p g s) : Calls Tryz.prog 36 #[.pointer (some ⟨p, 0, none⟩)] w fun e w' => ∃ v, e = .returned v ∧ NL w' w.heap.size v (if s.dead then [] else s.L.map (·.1)) ∧ Below w.heap.size w w' := by
  obtain ⟨va, vc, c0', c3'⟩ := h.cells'
  have c0 := c0' 0
  have c3 := c3' 0
  change w.cell? _ = _ at c0
  change w.cell? _ = _ at c3
  obtain ⟨res, hres⟩ : ∃ l, (if s.dead then [] else s.L.map (·.1)) = l := ⟨_, rfl⟩
  have HRES := Aside0.mk hres
  rw [hres]
  clear hres c0' c3'
  have HR := Aside0.mk h
  have hlen := h.okf.2.1
  clear h
  cases hd : s.dead
  case true =>
    rw [hd] at c3 HRES
    obtain rfl := HRES.out
    clear hd
    by_cases h0 : 0 < s.L.length
    · have h0' : (0 : Int) < (s.L.length : Int) := by omega
      clear h0
      go_enter Tryz.func36, Tryz.ntmps36
      go_wp2_with (fail)
      refine wp_loop_rounds 1 ?_
      rw [rounds_succ]
      go_wp2_with (fail)
      go_ret
      exact ⟨_, rfl, .inl ⟨rfl, by simp⟩, Below.refl _ _⟩
    · have h0' : decide ((0 : Int) < (s.L.length : Int)) = false := decide_eq_false (by omega)
      clear h0
      go_enter Tryz.func36, Tryz.ntmps36
      go_wp2_with (fail)
      refine wp_loop_rounds 1 ?_
      rw [rounds_succ]
      go_wp2_with (fail)
      all_goals (go_ret; exact ⟨_, rfl, .inl ⟨rfl, by simp⟩, Below.refl _ _⟩)
  case false =>
    rw [hd] at c3 HRES
    obtain rfl := HRES.out
    obtain ⟨i0, hi, hz0, hz1, hz2⟩ := info_parts info9
    go_enter Tryz.func36, Tryz.ntmps36
    go_wp2_with (fail)
    go_loopw [3, 4] (fun v3 v4 wr => ∃ i : Nat, i ≤ s.L.length ∧ v4 = .int .i64 i ∧ wr.ownsRow w.heap.size 9 1 v3 i (((s.L.take i).map (·.1)).map Value.string) ∧ Aside0 (Below w.heap.size w wr)) (fun _ v4 _ => s.L.length - (intOf v4).toNat)
    case atStart => exact ⟨0, Nat.zero_le _, rfl, World.ownsRow_nil _ _ _ _, ⟨Below.refl _ _⟩⟩
    case round =>
      obtain ⟨i, hil, rfl, hrow, HB⟩ := hrel
      have b0 := (HB.out.cell (p := ⟨p, 0, none⟩) HR.out.lt).trans c0
      have b3 := (HB.out.cell (p := ⟨p, 3, none⟩) HR.out.lt).trans c3
      clear c0 c3
      by_cases h1 : i < s.L.length
      · have h1' : (i : Int) < (s.L.length : Int) := by omega
        have h0' : (0 : Int) ≤ (i : Int) := by omega
        obtain ⟨v, hJ⟩ := (HR.out.below HB.out).rj
        have ev : Value.slice va s.L.length vc = v := by have e := b0.symm.trans hJ.cells.1; injection e
        rcases hJ.2.shape with ⟨_, _, hL⟩ | ⟨cap, hv, _, _, hcs, _⟩
        · rw [hL] at h1; exact absurd h1 (by simp)
        rw [hv] at ev
        injection ev with ea _ ec
        subst ea
        subst ec
        have k1 := (hcs i h1).1
        have hsz := HB.out.size
        have HX : Aside0 (((s.L.take (i + 1)).map (·.1)).map Value.string = ((s.L.take i).map (·.1)).map Value.string ++ [.string s.L[i].1]) := ⟨by rw [List.take_succ_eq_append_getElem h1]; simp only [List.map_append, List.map_cons, List.map_nil]⟩
        clear hJ hv hcs
        generalize s.L[i].1 = x at *
        clear h1
        go_wp2_with (first
          | (at_builtin; refine wpList_append_own _ rfl _ _ 53 rfl w.heap.size 9 i0 (.string ⟨#[]⟩) 1 16 Tryz.underlying53 hi hz0 hz1 hz2 rfl (by decide) _ _ _ rfl (hrow.alloc _) ⟨wr.heap.size, 0, none⟩ 1 1 [.string x] rfl rfl (cell_one_new _ _ _) (by simp [Value.oneCell']) (by unfold maxLen; omega) (by omega) (by simp; omega) ?_; intro v' w3 hown' hg3 hnil3; go_frame)
          | go_in)
        go_roundw
        case rel =>
          refine ⟨i + 1, by omega, by simp, by rw [HX.out]; exact hown', ⟨?_⟩⟩
          exact (HB.out.alloc hsz _).grown hg3 (by simp; omega) (fun j hj => (hrow.lt j hj).1)
        case measure => simp [intOf]; omega
      · have h1' : ¬ (i : Int) < (s.L.length : Int) := by omega
        have HI : Aside0 (i = s.L.length) := ⟨by omega⟩
        clear h1
        have HO := Aside0.mk hrow
        clear hrow
        go_wp2_with (fail)
        go_ret
        have hrow := HO.out
        rw [HI.out, List.take_length] at hrow
        exact ⟨_, rfl, nl_end hrow (by simp), HB.out⟩
end Go.Proofs.YtcbgeakabchenaaGreatDoor.D

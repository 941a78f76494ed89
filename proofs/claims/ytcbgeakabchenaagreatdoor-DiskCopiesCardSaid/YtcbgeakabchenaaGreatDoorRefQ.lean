/- The document's Same. -/
import Derived.Test.YtcbgeakabchenaaGreatDoorRefA
import Derived.Laws.StructEq
namespace Go.Proofs.YtcbgeakabchenaaGreatDoor.D
open Go.RowKit Go.Extern.Stop Go.Stop Go.Extern Go.Proofs.YtcbgeakabchenaaGreatDoorW.PrintWords Go.Proofs.YtcbgeakabchenaaGreatDoorW.PrintLast Go.Proofs.YtcbgeakabchenaaGreatDoorW.PrintMore
set_option linter.unusedVariables false
set_option linter.unusedSimpArgs false
theorem tolist_eq (a c : ByteArray) : a.toList = c.toList ↔ a = c := ⟨fun h => tl_inj (by rw [ByteArray.toList_eq, ByteArray.toList_eq] at h; exact h), fun h => by rw [h]⟩
theorem neq71 (a b c d : ByteArray) (w : World) : (binOp .neq 71 (.agg #[.string a, .string b]) (.agg #[.string c, .string d])).run Tryz.prog w = .ok (.bool (decide ((a, b) ≠ (c, d)))) w := by
  have u9 := Tryz.underlying9
  rw [run_neq_struct, show (10000 : Nat) = 9999 + 1 from rfl, run_equalIn_agg _ 9999 71 _ _ (by kernel_rfl) (by kernel_rfl)]
  simp only [Program.fieldsOf, Tryz.underlying71]
  go_simp
  simp only [tolist_eq]
  by_cases h1 : a = c <;> by_cases h2 : b = d <;> simp [h1, h2]
theorem sameF (L M : FS) (i : Nat) (hi : i < L.length) (hm : i < M.length) (h : L.take i = M.take i) (he : L[i] = M[i]) : L.take (i + 1) = M.take (i + 1) := by
  rw [List.take_succ_eq_append_getElem hi, List.take_succ_eq_append_getElem hm, h, he]
set_option maxHeartbeats 16000000 in
set_option maxRecDepth 100000 in
theorem rsame_calls (p g p2 g2 : Nat) (s s2 : St) (w : World) (h : RK w p g s) (h2 : RK w p2 g2 s2) : Calls Tryz.prog 16 #[.pointer (some ⟨p, 0, none⟩), .pointer (some ⟨p2, 0, none⟩)] w fun e w' => e = .returned (.bool (decide (s.L = s2.L))) ∧ ∃ q, w' = w.drewN q := by
  obtain ⟨va, vc, c0', _⟩ := h.cells'
  obtain ⟨ua, uc, d0', _⟩ := h2.cells'
  have c0 := c0' 0
  have d0 := d0' 0
  change w.cell? _ = _ at c0
  change w.cell? _ = _ at d0
  by_cases hl : s.L.length = s2.L.length
  · have hl' : ((s.L.length : Int) != (s2.L.length : Int)) = false := by rw [hl]; simp
    have HEND := Aside0.mk hl
    have hlen := h.okf.2.1
    have HR := Aside0.mk (And.intro h h2)
    clear hl h h2
    obtain ⟨res, hres⟩ : ∃ b, decide (s.L = s2.L) = b := ⟨_, rfl⟩
    have HRES := Aside0.mk hres
    rw [hres]
    clear hres
    go_enter Tryz.func16, Tryz.ntmps16
    go_wp2_with (fail)
    go_quiet (fail)
    go_wp2_with (fail)
    go_loopw [5] (fun v5 wr => ∃ (i q : Nat), i ≤ s.L.length ∧ v5 = .int .i64 i ∧ wr = w.drewN q ∧ Aside0 (s.L.take i = s2.L.take i)) (fun v5 _ => s.L.length - (intOf v5).toNat)
    case atStart => exact ⟨0, nq, Nat.zero_le _, rfl, rfl, ⟨rfl⟩⟩
    case round =>
      obtain ⟨i, q, hi, rfl, rfl, HT⟩ := hrel
      clear c0 d0
      by_cases h1 : i < s.L.length
      · have h1' : (i : Int) < (s.L.length : Int) := by omega
        have h0' : (0 : Int) ≤ (i : Int) := by omega
        have h2 : i < s2.L.length := by have := HEND.out; omega
        have h2' : (i : Int) < (s2.L.length : Int) := by omega
        obtain ⟨v, hJ⟩ := HR.out.1.rj
        obtain ⟨v2, hJ2⟩ := HR.out.2.rj
        have ev : Value.slice va s.L.length vc = v := by have e := (c0' 0).symm.trans hJ.cells.1; injection e
        have ev2 : Value.slice ua s2.L.length uc = v2 := by have e := (d0' 0).symm.trans hJ2.cells.1; injection e
        rcases hJ.2.shape with ⟨_, _, hL⟩ | ⟨cap, hv, _, _, hcs, _⟩
        · rw [hL] at h1; exact absurd h1 (by simp)
        rcases hJ2.2.shape with ⟨_, _, hL⟩ | ⟨cap2, hv2, _, _, hcs2, _⟩
        · rw [hL] at h2; exact absurd h2 (by simp)
        rw [hv] at ev
        rw [hv2] at ev2
        injection ev with ea _ ec
        injection ev2 with ea2 _ ec2
        subst ea
        subst ea2
        subst ec
        subst ec2
        obtain ⟨k1, k2⟩ := hcs i h1
        obtain ⟨k3, k4⟩ := hcs2 i h2
        clear hJ hJ2 hv hv2 hcs hcs2
        have k1' : ∀ q, (w.drewN q).cell? ⟨g, i * 2, none⟩ = some (.string s.L[i].1) := fun _ => k1
        have k2' : ∀ q, (w.drewN q).cell? ⟨g, i * 2 + 1, none⟩ = some (.string s.L[i].2) := fun _ => k2
        have k3' : ∀ q, (w.drewN q).cell? ⟨g2, i * 2, none⟩ = some (.string s2.L[i].1) := fun _ => k3
        have k4' : ∀ q, (w.drewN q).cell? ⟨g2, i * 2 + 1, none⟩ = some (.string s2.L[i].2) := fun _ => k4
        clear k1 k2 k3 k4
        by_cases he : s.L[i] = s2.L[i]
        · have hne : ∀ w, (binOp .neq 71 (.agg #[.string s.L[i].1, .string s.L[i].2]) (.agg #[.string s2.L[i].1, .string s2.L[i].2])).run Tryz.prog w = .ok (.bool false) w := fun w => by rw [neq71, decide_eq_false (fun q => q he)]
          have HN : Aside0 (s.L.take (i + 1) = s2.L.take (i + 1)) := ⟨sameF _ _ _ h1 h2 HT.out he⟩
          clear he
          generalize s.L[i].1 = x1 at *
          generalize s.L[i].2 = x2 at *
          generalize s2.L[i].1 = x3 at *
          generalize s2.L[i].2 = x4 at *
          clear h1 h2
          go_wp2_with (fail)
          go_quiet (fail)
          go_wp2_with (fail)
          go_roundw
          case measure => simp [intOf]; omega
          case rel => exact ⟨i + 1, q + nq, by omega, by simp, by first | rfl | rw [World.drewN_drewN], HN⟩
        · have hne : ∀ w, (binOp .neq 71 (.agg #[.string s.L[i].1, .string s.L[i].2]) (.agg #[.string s2.L[i].1, .string s2.L[i].2])).run Tryz.prog w = .ok (.bool true) w := fun w => by rw [neq71, decide_eq_true he]
          have HN : Aside0 (decide (s.L = s2.L) = false) := ⟨decide_eq_false (fun q => he (by
            have e := congrArg (fun l => l[i]?) q
            simp only [List.getElem?_eq_getElem h1, List.getElem?_eq_getElem h2] at e
            injection e))⟩
          clear he
          generalize s.L[i].1 = x1 at *
          generalize s.L[i].2 = x2 at *
          generalize s2.L[i].1 = x3 at *
          generalize s2.L[i].2 = x4 at *
          clear h1 h2
          go_wp2_with (fail)
          go_quiet (fail)
          go_wp2_with (fail)
          go_ret
          obtain rfl := HN.out.symm.trans HRES.out
          exact ⟨rfl, q + nq, by first | rfl | rw [World.drewN_drewN]⟩
      · have h1' : ¬ (i : Int) < (s.L.length : Int) := by omega
        have HN : Aside0 (decide (s.L = s2.L) = true) := ⟨decide_eq_true (by
          have e := HT.out
          rwa [List.take_of_length_le (by omega), List.take_of_length_le (by have := HEND.out; omega)] at e)⟩
        go_wp2_with (fail)
        go_ret
        obtain rfl := HN.out.symm.trans HRES.out
        exact ⟨rfl, q, rfl⟩
  · have hl' : ((s.L.length : Int) != (s2.L.length : Int)) = true := by simp; omega
    have HN : Aside0 (decide (s.L = s2.L) = false) := ⟨decide_eq_false (fun q => hl (by rw [q]))⟩
    rw [HN.out]
    clear hl h h2
    go_enter Tryz.func16, Tryz.ntmps16
    go_wp2_with (fail)
    go_quiet (fail)
    go_wp2_with (fail)
    go_ret
    exact ⟨rfl, nq, rfl⟩
end Go.Proofs.YtcbgeakabchenaaGreatDoor.D

/- Copy and Same. -/
import Derived.Test.YtcbgeakabchenaaGreatDoorSameP
import Derived.Lib.QuietBelow
import Derived.BigQuiet
import Derived.Deep.QuietTactic
namespace Go.Proofs.YtcbgeakabchenaaGreatDoor.D
open Go.RowKit Go.Extern.Stop Go.Stop Go.Extern Go.Proofs.YtcbgeakabchenaaGreatDoorW.PrintWords Go.Proofs.YtcbgeakabchenaaGreatDoorW.PrintLast Go.Proofs.YtcbgeakabchenaaGreatDoorW.PrintMore
set_option linter.unusedVariables false
set_option linter.unusedSimpArgs false
open Go.Maps Go.WideElems Go.WideMaps
set_option maxHeartbeats 16000000 in
set_option maxRecDepth 100000 in
theorem copy_calls (p b : Nat) (s : St) (w : World) (h : DK w p b s) : Calls Tryz.prog 13 #[.pointer (some ⟨p, 0, none⟩)] w fun e w' => ∃ p' b', e = .returned (.pointer (some ⟨p', 0, none⟩)) ∧ w.heap.size ≤ p' ∧ w.heap.size ≤ b' ∧ DK w' p' b' s ∧ Below w.heap.size w w' := by
  obtain ⟨c0, c1, c2, c3, cf⟩ := h.c
  have HD := Aside0.mk h
  have hA : Below w.heap.size w (w.alloc (Obj.cells (cellsD b s) 59)) := (Below.refl _ _).alloc (Nat.le_refl _) _
  obtain ⟨M, ho, hag, hsz⟩ := (h.below hA).2.1
  have hcl := AnyW.maps_Clone_owns Tryz.mapClone 9 RE b _ M _ ho
  change Calls Tryz.prog 37 _ _ _ at hcl
  have HB := Aside0.mk hA
  have HM := Aside0.mk (And.intro hag hsz)
  clear h ho hag hsz hA
  have hp := HD.out.lt
  have a0 : (w.alloc (Obj.cells (cellsD b s) 59)).cell? ⟨p, 0, none⟩ = some (.map (some b)) := by go_simp
  go_enter Tryz.func13, Tryz.ntmps13
  go_wp2_with (fail)
  refine hcl.mono ?_
  rintro e w1 ⟨rfl, ho1, _, hb1⟩
  have HM1 := Aside0.mk (show MapIs w1 (w.heap.size + 1) s.L from ⟨M, by simpa using ho1, HM.out⟩)
  have HB1 := Aside0.mk hb1
  have hblk : w1.heap[w.heap.size]? = some (.cells (cellsD b s) 59 (0, 0)) := (hb1.block w.heap.size (by simp)).trans (MapKept.heap_alloc w _).1
  have g0 : w1.cell? ⟨w.heap.size, 0, none⟩ = some (.map (some b)) := by simp [World.cell?, hblk]
  have gf : w1.frozen? ⟨w.heap.size, 0, none⟩ = false := by simp [World.frozen?, hblk]
  have HBLK := Aside0.mk hblk
  clear ho1 hb1 hblk
  go_wp2_with (fail)
  go_ret
  have hb3 : Below w.heap.size w w1 := below_step HB.out HB1.out
  refine ⟨w.heap.size, w.heap.size + 1, rfl, Nat.le_refl _, by omega, ⟨?_, ?_, HD.out.2.2⟩, hb3.setCell (Nat.le_refl _) _⟩
  · rw [heap_set HBLK.out]
    rfl
  · exact HM1.out.kept (Below.heap_setCell w1 ⟨w.heap.size, 0, none⟩ _ _ (by simp))
set_option maxHeartbeats 16000000 in
set_option maxRecDepth 100000 in
theorem same_calls (p b p2 b2 : Nat) (s s2 : St) (w : World) (h : DK w p b s) (h2 : DK w p2 b2 s2) : Calls Tryz.prog 15 #[.pointer (some ⟨p, 0, none⟩), .pointer (some ⟨p2, 0, none⟩)] w fun e w' => e = .returned (.bool (decide (s.L = s2.L))) ∧ Below w.heap.size w w' := by
  obtain ⟨c0, c1, c2, c3, cf⟩ := h.c
  obtain ⟨d0, d1, d2, d3, df⟩ := h2.c
  have HD := Aside0.mk h
  have HD2 := Aside0.mk h2
  have hcl : ∀ W, Below w.heap.size w W → Calls Tryz.prog 38 #[.map (some b), .map (some b2)] W fun e w' => e = .returned (.bool (decide (s.L = s2.L))) ∧ Below W.heap.size W w' := fun W hW => by
    obtain ⟨M, ho, hag, hsz⟩ := (HD.out.below hW).2.1
    obtain ⟨M2, ho2, hag2, hsz2⟩ := (HD2.out.below hW).2.1
    have hq := AnyEq.maps_Equal Tryz.mapEqual KS RE RE eqd b b2 _ _ M M2 W ho ho2 (.string ⟨#[]⟩) zero9 (.lit (.string [])) [] (plainElem_string (H := Unit) Tryz.underlying9 (s := ⟨#[]⟩) (Nat.zero_le _)) (by
      intro W x y xd yd xp yp hx hy
      obtain ⟨c, rfl, hc, _⟩ := plainElem_string_inv Tryz.underlying9 hx
      obtain ⟨d, rfl, hd, _⟩ := plainElem_string_inv Tryz.underlying9 hy
      obtain rfl : xd = .lit (.string c.data.toList) := congrArg Prod.fst hc
      obtain rfl : yd = .lit (.string d.data.toList) := congrArg Prod.fst hd
      refine ⟨?_, fun _ _ => ?_⟩
      · simp only [eqd]
        by_cases e : c = d
        · subst e
          simp [go_sem, binOp, Op.stringOp]
        · have e2 : ¬ c.data.toList = d.data.toList := fun q => e (tl_inj q)
          have e3 : ¬ c.toList = d.toList := by rw [ByteArray.toList_eq, ByteArray.toList_eq]; exact e2
          simp [go_sem, binOp, Op.stringOp, e, e2, e3]
      · rfl)
    rw [same_iff ho hag hag2 hsz hsz2 HD.out.2.2.1 HD2.out.2.2.1] at hq
    refine hq.mono ?_
    rintro e w' ⟨he, hg⟩
    exact ⟨he, (Below.refl _ _).grown hg (Nat.le_refl _) (fun j hj => by cases hj)⟩
  have HCL := Aside0.mk hcl
  clear h h2 hcl
  generalize decide (s.L = s2.L) = r at *
  have mixed : Tryz.prog.follows .mixedOrders = true := by kernel_rfl
  have cO : ∀ d os, Calls Tryz.prog 38 #[.map (some b), .map (some b2)] (Go.Sort.grow (redrawn w d) os) fun e w'' => e = .returned (.bool r) ∧ ∃ p : Regrown, w'' = Go.Sort.grow (redrawn w p.d) p.os := fun d os => Calls.regrown_of (HCL.out _ (below_regrown w d os))
  have c0' := fun d os => cell_regrown c0 d os
  have d0' := fun d os => cell_regrown d0 d os
  go_enter Tryz.func15, Tryz.ntmps15
  go_wp2_with (fail)
  refine wp_region_quiet_below mixed (by kernel_rfl) ?_
  repeat (go_big_quiet_step (first | exact cO _ _))
  refine wpQuiet_nil ?_
  intro _ hw'
  obtain ⟨⟨dq, osq⟩, hw''⟩ := hw'
  subst hw''
  go_wp2_with (fail)
  go_ret
  exact ⟨rfl, below_regrown w dq osq⟩
end Go.Proofs.YtcbgeakabchenaaGreatDoor.D

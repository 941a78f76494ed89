/- The walk of Put. -/
import Derived.Test.YtcbgeakabchenaaDoorPutB
namespace Go.Proofs.YtcbgeakabchenaaDoor.D
open Go.RowKit Go.Extern.Stop Go.Stop Go.Extern Go.Proofs.YtcbgeakabchenaaDoorW.PrintWords Go.Proofs.YtcbgeakabchenaaDoorW.PrintLast Go.Proofs.YtcbgeakabchenaaDoorW.PrintMore
set_option linter.unusedVariables false
set_option linter.unusedSimpArgs false
set_option maxHeartbeats 16000000 in
set_option maxRecDepth 100000 in
theorem put_calls (p b : Nat) (s : St) (name bytes : ByteArray) (w : World) (h : DK w p b s) (hn : name.size ≤ 140737488351232) (hb : bytes.size ≤ 140737488351232) : Calls Tryd.prog 13 #[.pointer (some ⟨p, 0, none⟩), .string name, .string bytes] w fun e w' => ∃ v, e = .returned v ∧ Er w' w.heap.size v (putF s name bytes).2 name ∧ DK w' p b (putF s name bytes).1 ∧ Kp p b w w' := by
  have hmf : ∀ (fn : Fn) (first cap : Array Value) (w : World), (Instr.makeFunc fn first cap).run Tryd.prog w = .ok (.func fn first cap) w := fun _ _ _ _ => rfl
  have hA : Below w.heap.size w (((w.alloc (Obj.cells #[Value.pointer (some ⟨p, 0, none⟩)] 25)).alloc (Obj.cells #[Value.string name] 9)).alloc (Obj.cells #[Value.string bytes] 9)) := (((Below.refl _ _).alloc (Nat.le_refl _) _).alloc (by simp) _).alloc (by simp <;> omega) _
  have a3 : (((w.alloc (Obj.cells #[Value.pointer (some ⟨p, 0, none⟩)] 25)).alloc (Obj.cells #[Value.string name] 9)).alloc (Obj.cells #[Value.string bytes] 9)).cell? ⟨w.heap.size, 0, none⟩ = some (.pointer (some ⟨p, 0, none⟩)) := by go_simp
  have a4 : (((w.alloc (Obj.cells #[Value.pointer (some ⟨p, 0, none⟩)] 25)).alloc (Obj.cells #[Value.string name] 9)).alloc (Obj.cells #[Value.string bytes] 9)).cell? ⟨w.heap.size + 1, 0, none⟩ = some (.string name) := by go_simp
  have a5 : (((w.alloc (Obj.cells #[Value.pointer (some ⟨p, 0, none⟩)] 25)).alloc (Obj.cells #[Value.string name] 9)).alloc (Obj.cells #[Value.string bytes] 9)).cell? ⟨w.heap.size + 1 + 1, 0, none⟩ = some (.string bytes) := by go_simp
  have HD := Aside0.mk (h.below hA)
  have hp := h.lt
  have hpb := h.ltb
  have hsz := lk_size h.2.2.2.2 name
  have hlook := HD.out.2.1.look name (by unfold maxLen; omega)
  obtain ⟨c0, c1, c2, c3, cf⟩ := HD.out.c
  have hzA : w.heap.size ≤ (((w.alloc (Obj.cells #[Value.pointer (some ⟨p, 0, none⟩)] 25)).alloc (Obj.cells #[Value.string name] 9)).alloc (Obj.cells #[Value.string bytes] 9)).heap.size := hA.size
  have HAB := Aside0.mk hA
  clear h hA
  by_cases h0 : ableC s name = 0
  · obtain ⟨k1, k2, k3⟩ := ableC_zero h0
    have HAC := able_calls p b s name _ HD.out
    rw [h0] at HAC
    have HRM := room_calls p b s name bytes.size _ HD.out (by unfold maxLen; omega)
    cases hr : roomB s name bytes.size
    · have he : putF s name bytes = (s, 4) := by unfold putF; rw [if_neg (by omega), hr]; rfl
      rw [he]
      rw [hr] at HRM
      go_enter Tryd.func13, Tryd.ntmps13
      go_wp2_with (fail)
      refine HAC.mono ?_
      rintro e w1 ⟨rfl, rfl⟩
      go_wp2_with (fail)
      refine HRM.mono ?_
      rintro e w1 ⟨rfl, rfl⟩
      go_wp2_with (fail)
      refine (fault_calls 4 name _).mono ?_
      rintro e w2 ⟨g, rfl, hg, hF, hb2⟩
      have hb3 := below_step (w := w) HAB.out hb2
      go_wp2_with (fail)
      go_ret
      exact ⟨_, rfl, Er.of (w1 := w2) (by decide) (Nat.le_trans hzA hg) hF, HD.out.below hb2, Kp.of hb3⟩
    · obtain ⟨c, hcc, he⟩ : ∃ c : Nat, Aside0 (((putR s name bytes).2 = true → c = 0) ∧ ((putR s name bytes).2 = false → c = 5)) ∧ putF s name bytes = ((putR s name bytes).1, c) := by
        refine ⟨if (putR s name bytes).2 = true then 0 else 5, ⟨fun h => if_pos h, fun h => if_neg (by rw [h]; decide)⟩, ?_⟩
        unfold putF
        rw [if_neg (by omega), if_pos hr]
      rw [he]
      rw [hr] at HRM
      have hr1 : bytes.size ≤ 16777216 ∧ ((lk s.L name).isSome = true ∨ s.L.length < 65536) := by
        unfold roomB at hr
        simpa using hr
      go_enter Tryd.func13, Tryd.ntmps13
      go_wp2_with (fail)
      refine HAC.mono ?_
      rintro e w1 ⟨rfl, rfl⟩
      go_wp2_with (fail)
      refine HRM.mono ?_
      rintro e w1 ⟨rfl, rfl⟩
      go_wp2_with (fail)
      refine (powered_calls p b (putR s name bytes).1 (putR s name bytes).2 name 26 _ _ enters47 (by exact Nat.lt_of_lt_of_le hp hzA) (by exact Nat.lt_of_lt_of_le hpb hzA) (fun w1 hb1 => putc_calls p b s _ _ _ name bytes w1 (HD.out.below hb1) ⟨⟨by omega, by omega⟩, ⟨by omega, by omega⟩, by omega, by omega⟩ (pw_cell_below hb1 a3) (pw_cell_below hb1 a4) (pw_cell_below hb1 a5) k2 hr1.1 hr1.2)).mono ?_
      rintro e w5 ⟨hD5, hK5, ⟨hok, rfl⟩ | ⟨hok, g, rfl, hg, hF⟩⟩
      · have HOK := Aside0.mk hok
        clear hok
        have HD5 := Aside0.mk hD5
        have HK5 := Aside0.mk ((Kp.of (p := p) (b := b) HAB.out).trans hK5)
        clear hD5 hK5
        go_wp2_with (fail)
        go_ret
        exact ⟨_, rfl, .inl ⟨hcc.out.1 HOK.out, rfl⟩, HD5.out, HK5.out⟩
      · have HOK := Aside0.mk hok
        clear hok
        have HD5 := Aside0.mk hD5
        have HK5 := Aside0.mk ((Kp.of (p := p) (b := b) HAB.out).trans hK5)
        clear hD5 hK5
        go_wp2_with (fail)
        go_ret
        exact ⟨_, rfl, by rw [hcc.out.2 HOK.out]; exact Er.of (w1 := w5) (by decide) (Nat.le_trans hzA hg) hF, HD5.out, HK5.out⟩
  · have HAC := able_calls p b s name _ HD.out
    have he : putF s name bytes = (s, ableC s name) := by unfold putF; rw [if_pos h0]
    rw [he]
    generalize ableC s name = c at *
    have hc := int_ne h0
    go_enter Tryd.func13, Tryd.ntmps13
    go_wp2_with (fail)
    refine HAC.mono ?_
    rintro e w1 ⟨rfl, rfl⟩
    go_wp2_with (fail)
    refine (fault_calls c name _).mono ?_
    rintro e w2 ⟨g, rfl, hg, hF, hb2⟩
    have hb3 := below_step (w := w) HAB.out hb2
    go_wp2_with (fail)
    go_ret
    exact ⟨_, rfl, Er.of (w1 := w2) (by omega) (Nat.le_trans hzA hg) hF, HD.out.below hb2, Kp.of hb3⟩
end Go.Proofs.YtcbgeakabchenaaDoor.D

/- The walk of Append. -/
import Derived.Test.YtcbgeakabchenaaDoorReadB
namespace Go.Proofs.YtcbgeakabchenaaDoor.D
open Go.RowKit Go.Extern.Stop Go.Stop Go.Extern Go.Proofs.YtcbgeakabchenaaDoorW.PrintWords Go.Proofs.YtcbgeakabchenaaDoorW.PrintLast Go.Proofs.YtcbgeakabchenaaDoorW.PrintMore
set_option linter.unusedVariables false
set_option linter.unusedSimpArgs false
theorem cell_dn {w : World} {a : Addr} {v : Value} (h : w.cell? a = some v) (n : Nat) : (w.drewN n).cell? a = some v := h
def roomB (s : St) (name : ByteArray) (n : Nat) : Bool := decide (n ≤ 16777216) && ((lk s.L name).isSome || decide (s.L.length < 65536))
set_option maxHeartbeats 8000000 in
set_option maxRecDepth 100000 in
theorem room_calls (p b : Nat) (s : St) (name : ByteArray) (n : Nat) (w : World) (h : DK w p b s) (hn : name.size ≤ maxLen) : Calls Tryd.prog 17 #[.pointer (some ⟨p, 0, none⟩), .string name, .int .i64 n] w fun e w' => e = .returned (.bool (roomB s name n)) ∧ w' = w := by
  obtain ⟨c0, c1, c2, c3, cf⟩ := h.c
  have hlook := h.2.1.look_ok name hn
  have hlen := h.2.1.len
  clear h
  by_cases h1 : n ≤ 16777216
  · have h1' : (n : Int) ≤ 16777216 := by omega
    cases hl : (lk s.L name).isSome
    · rw [hl] at hlook
      by_cases h2 : s.L.length < 65536
      · have h2' : (s.L.length : Int) < 65536 := by omega
        rw [show roomB s name n = true from by unfold roomB; rw [hl, decide_eq_true h1, decide_eq_true h2]; rfl]
        go_enter Tryd.func17, Tryd.ntmps17
        go_wp2_with (fail)
        go_ret
        exact ⟨rfl, rfl⟩
      · have h2' : ¬ (s.L.length : Int) < 65536 := by omega
        rw [show roomB s name n = false from by unfold roomB; rw [hl, decide_eq_true h1, decide_eq_false h2]; rfl]
        go_enter Tryd.func17, Tryd.ntmps17
        go_wp2_with (fail)
        go_ret
        exact ⟨rfl, rfl⟩
    · rw [hl] at hlook
      rw [show roomB s name n = true from by unfold roomB; rw [hl, decide_eq_true h1]; rfl]
      go_enter Tryd.func17, Tryd.ntmps17
      go_wp2_with (fail)
      go_ret
      exact ⟨rfl, rfl⟩
  · have h1' : ¬ (n : Int) ≤ 16777216 := by omega
    rw [show roomB s name n = false from by unfold roomB; rw [decide_eq_false h1]; rfl]
    go_enter Tryd.func17, Tryd.ntmps17
    go_wp2_with (fail)
    go_ret
    exact ⟨rfl, rfl⟩
theorem enters45 : ∀ args w, (callFunc 19 args).run Tryd.prog w = .ok (.enter 19 args) w := enters_of Tryd.func19 (by kernel_rfl) rfl
set_option maxHeartbeats 8000000 in
set_option maxRecDepth 100000 in
theorem appendc_calls (p b : Nat) (s : St) (name bytes : ByteArray) (g3 g4 g5 : Nat) (w : World) (h : DK w p b s) (c3 : w.cell? ⟨g3, 0, none⟩ = some (.pointer (some ⟨p, 0, none⟩))) (c4 : w.cell? ⟨g4, 0, none⟩ = some (.string name)) (c5 : w.cell? ⟨g5, 0, none⟩ = some (.string bytes))
    (hname : name.size ≤ 128) (hs : (lkD s.L name).size + bytes.size ≤ 16777216) (hl : (lk s.L name).isSome = true ∨ s.L.length < 65536) :
    Calls Tryd.prog 19 #[.pointer (some ⟨g3, 0, none⟩), .pointer (some ⟨g4, 0, none⟩), .pointer (some ⟨g5, 0, none⟩)] w fun e w' => (((addF s name bytes).2 = true ∧ e = .returned (.tuple #[])) ∨ ((addF s name bytes).2 = false ∧ e = .panicked [lostE])) ∧ DK w' p b (addF s name bytes).1 ∧ Kp p b w w' := by
  have HA := Aside0.mk (add_calls p b s name bytes w h hname hs hl)
  clear h
  go_enter Tryd.func19, Tryd.ntmps19
  go_wp2_with (fail)
  refine HA.out.mono ?_
  rintro e w1 ⟨⟨h2, rfl⟩ | ⟨h2, rfl⟩, hD, hK⟩
  · have H2 := Aside0.mk h2
    clear h2
    go_wp2_with (fail)
    go_end0
    exact ⟨.inl ⟨H2.out, rfl⟩, hD, hK⟩
  · have H2 := Aside0.mk h2
    clear h2
    go_wp2_with (fail)
    exact ⟨rfl, .inr ⟨H2.out, rfl⟩, hD, hK⟩
def appendF (s : St) (name bytes : ByteArray) : St × Nat :=
  if ableC s name ≠ 0 then (s, ableC s name)
  else if roomB s name ((lkD s.L name).size + bytes.size) = true then ((addF s name bytes).1, if (addF s name bytes).2 = true then 0 else 5)
  else (s, 4)
theorem ableC_zero {s : St} {name : ByteArray} (h : ableC s name = 0) : 1 ≤ name.size ∧ name.size ≤ 128 ∧ s.dead = false := by
  unfold ableC at h
  split at h
  · omega
  · split at h
    · omega
    · refine ⟨by omega, by omega, ?_⟩
      rename_i h2
      simpa using h2
theorem Er.of {w1 w' : World} {lo : Nat} {c : Nat} {name : ByteArray} {g : Nat} (hc : 0 < c) (hg : lo ≤ g) (hF : FC w' g c name) : Er w' lo (.iface 50 (.pointer (some ⟨g, 0, none⟩))) c name := .inr ⟨hc, g, rfl, hg, hF.lt, hF⟩
set_option maxHeartbeats 8000000 in
set_option maxRecDepth 100000 in
theorem append_nil (name bytes : ByteArray) (w : World) : Calls Tryd.prog 7 #[.pointer none, .string name, .string bytes] w fun e w' => ∃ v, e = .returned v ∧ Er w' w.heap.size v 1 name ∧ Below w.heap.size w w' := by
  have hmf : ∀ (fn : Fn) (first cap : Array Value) (w : World), (Instr.makeFunc fn first cap).run Tryd.prog w = .ok (.func fn first cap) w := fun _ _ _ _ => rfl
  go_enter Tryd.func7, Tryd.ntmps7
  go_wp2_with (fail)
  refine (able_nil name _).mono ?_
  rintro e w1 ⟨rfl, rfl⟩
  have hA : Below w.heap.size w (((w.alloc (Obj.cells #[Value.pointer none] 25)).alloc (Obj.cells #[Value.string name] 9)).alloc (Obj.cells #[Value.string bytes] 9)) := (((Below.refl _ _).alloc (Nat.le_refl _) _).alloc (by simp) _).alloc (by simp <;> omega) _
  have a4 : (((w.alloc (Obj.cells #[Value.pointer none] 25)).alloc (Obj.cells #[Value.string name] 9)).alloc (Obj.cells #[Value.string bytes] 9)).cell? ⟨w.heap.size + 1, 0, none⟩ = some (.string name) := by go_simp
  go_wp2_with (fail)
  refine (fault_calls 1 name _).mono ?_
  rintro e w2 ⟨g, rfl, hg, hF, hb⟩
  go_wp2_with (fail)
  go_ret
  exact ⟨_, rfl, Er.of (w1 := w2) (by decide) (by have := hA.size; omega) hF, below_step hA hb⟩
set_option maxHeartbeats 16000000 in
set_option maxRecDepth 100000 in
theorem append_calls (p b : Nat) (s : St) (name bytes : ByteArray) (w : World) (h : DK w p b s) (hn : name.size ≤ 140737488351232) (hb : bytes.size ≤ 140737488351232) : Calls Tryd.prog 7 #[.pointer (some ⟨p, 0, none⟩), .string name, .string bytes] w fun e w' => ∃ v, e = .returned v ∧ Er w' w.heap.size v (appendF s name bytes).2 name ∧ DK w' p b (appendF s name bytes).1 ∧ Kp p b w w' := by
  have hmf : ∀ (fn : Fn) (first cap : Array Value) (w : World), (Instr.makeFunc fn first cap).run Tryd.prog w = .ok (.func fn first cap) w := fun _ _ _ _ => rfl
  have hA : Below w.heap.size w (((w.alloc (Obj.cells #[Value.pointer (some ⟨p, 0, none⟩)] 25)).alloc (Obj.cells #[Value.string name] 9)).alloc (Obj.cells #[Value.string bytes] 9)) := (((Below.refl _ _).alloc (Nat.le_refl _) _).alloc (by simp) _).alloc (by simp <;> omega) _
  have a3 : (((w.alloc (Obj.cells #[Value.pointer (some ⟨p, 0, none⟩)] 25)).alloc (Obj.cells #[Value.string name] 9)).alloc (Obj.cells #[Value.string bytes] 9)).cell? ⟨w.heap.size, 0, none⟩ = some (.pointer (some ⟨p, 0, none⟩)) := by go_simp
  have a4 : (((w.alloc (Obj.cells #[Value.pointer (some ⟨p, 0, none⟩)] 25)).alloc (Obj.cells #[Value.string name] 9)).alloc (Obj.cells #[Value.string bytes] 9)).cell? ⟨w.heap.size + 1, 0, none⟩ = some (.string name) := by go_simp
  have a5 : (((w.alloc (Obj.cells #[Value.pointer (some ⟨p, 0, none⟩)] 25)).alloc (Obj.cells #[Value.string name] 9)).alloc (Obj.cells #[Value.string bytes] 9)).cell? ⟨w.heap.size + 1 + 1, 0, none⟩ = some (.string bytes) := by go_simp
  have HD := Aside0.mk (h.below hA)
  have hp := h.lt
  have hpb := h.ltb
  have hsz := lk_size h.2.2.2.2 name
  have hlook := HD.out.2.1.look name (by unfold maxLen; omega)
  obtain ⟨c0, c1, c2, c3, cf⟩ := HD.out.c
  have hzA : w.heap.size ≤ (((w.alloc (Obj.cells #[Value.pointer (some ⟨p, 0, none⟩)] 25)).alloc (Obj.cells #[Value.string name] 9)).alloc (Obj.cells #[Value.string bytes] 9)).heap.size := hA.size
  have HAB := Aside0.mk hA
  clear h hA
  by_cases h0 : ableC s name = 0
  · obtain ⟨k1, k2, k3⟩ := ableC_zero h0
    have HAC := able_calls p b s name _ HD.out
    rw [h0] at HAC
    have hlkN : ∀ q, (Instr.lookup 38 (.map (some b)) (.string name) false).run Tryd.prog ((((w.alloc (Obj.cells #[Value.pointer (some ⟨p, 0, none⟩)] 25)).alloc (Obj.cells #[Value.string name] 9)).alloc (Obj.cells #[Value.string bytes] 9)).drewN q) = .ok (.string (lkD s.L name)) ((((w.alloc (Obj.cells #[Value.pointer (some ⟨p, 0, none⟩)] 25)).alloc (Obj.cells #[Value.string name] 9)).alloc (Obj.cells #[Value.string bytes] 9)).drewN q) := fun q => (HD.out.drew q).2.1.look name (by unfold maxLen; omega)
    have HRM := fun q => room_calls p b s name ((lkD s.L name).size + bytes.size) _ (HD.out.drew q) (by unfold maxLen; omega)
    rw [Int.natCast_add] at HRM
    have q1 : ((lkD s.L name).size : Int) + (bytes.size : Int) ≤ 9223372036854775807 := by omega
    cases hr : roomB s name ((lkD s.L name).size + bytes.size)
    · have he : appendF s name bytes = (s, 4) := by unfold appendF; rw [if_neg (by omega), hr]; rfl
      rw [he]
      rw [hr] at HRM
      go_enter Tryd.func7, Tryd.ntmps7
      go_wp2_with (fail)
      refine HAC.mono ?_
      rintro e w1 ⟨rfl, rfl⟩
      go_wp2_with (fail)
      go_quiet (first | (go_at_call 17; refine Calls.quiet_of_same (HRM _)))
      go_wp2_with (fail)
      refine (fault_calls 4 name _).mono ?_
      rintro e w2 ⟨g, rfl, hg, hF, hb2⟩
      have hb3 := below_step (w := w) (pw_below_drewN HAB.out nq) hb2
      go_wp2_with (fail)
      go_ret
      exact ⟨_, rfl, Er.of (w1 := w2) (by decide) (Nat.le_trans hzA hg) hF, (HD.out.drew nq).below hb2, Kp.of hb3⟩
    · obtain ⟨c, hcc, he⟩ : ∃ c : Nat, Aside0 (((addF s name bytes).2 = true → c = 0) ∧ ((addF s name bytes).2 = false → c = 5)) ∧ appendF s name bytes = ((addF s name bytes).1, c) := by
        refine ⟨if (addF s name bytes).2 = true then 0 else 5, ⟨fun h => if_pos h, fun h => if_neg (by rw [h]; decide)⟩, ?_⟩
        unfold appendF
        rw [if_neg (by omega), if_pos hr]
      rw [he]
      rw [hr] at HRM
      have hr1 : (lkD s.L name).size + bytes.size ≤ 16777216 ∧ ((lk s.L name).isSome = true ∨ s.L.length < 65536) := by
        unfold roomB at hr
        simpa using hr
      go_enter Tryd.func7, Tryd.ntmps7
      go_wp2_with (fail)
      refine HAC.mono ?_
      rintro e w1 ⟨rfl, rfl⟩
      go_wp2_with (fail)
      go_quiet (first | (go_at_call 17; refine Calls.quiet_of_same (HRM _)))
      go_wp2_with (fail)
      refine (powered_calls p b (addF s name bytes).1 (addF s name bytes).2 name 19 _ _ enters45 (by exact Nat.lt_of_lt_of_le hp hzA) (by exact Nat.lt_of_lt_of_le hpb hzA) (fun w1 hb1 => appendc_calls p b s name bytes _ _ _ w1 ((HD.out.drew nq).below hb1) (pw_cell_below hb1 (cell_dn a3 nq)) (pw_cell_below hb1 (cell_dn a4 nq)) (pw_cell_below hb1 (cell_dn a5 nq)) k2 hr1.1 hr1.2)).mono ?_
      rintro e w5 ⟨hD5, hK5, ⟨hok, rfl⟩ | ⟨hok, g, rfl, hg, hF⟩⟩
      · have HOK := Aside0.mk hok
        clear hok
        have HD5 := Aside0.mk hD5
        have HK5 := Aside0.mk ((Kp.of (p := p) (b := b) (pw_below_drewN HAB.out nq)).trans hK5)
        clear hD5 hK5
        go_wp2_with (fail)
        go_ret
        exact ⟨_, rfl, .inl ⟨hcc.out.1 HOK.out, rfl⟩, HD5.out, HK5.out⟩
      · have HOK := Aside0.mk hok
        clear hok
        have HD5 := Aside0.mk hD5
        have HK5 := Aside0.mk ((Kp.of (p := p) (b := b) (pw_below_drewN HAB.out nq)).trans hK5)
        clear hD5 hK5
        go_wp2_with (fail)
        go_ret
        exact ⟨_, rfl, by rw [hcc.out.2 HOK.out]; exact Er.of (w1 := w5) (by decide) (Nat.le_trans hzA hg) hF, HD5.out, HK5.out⟩
  · have HAC := able_calls p b s name _ HD.out
    have he : appendF s name bytes = (s, ableC s name) := by unfold appendF; rw [if_pos h0]
    rw [he]
    generalize ableC s name = c at *
    have hc := int_ne h0
    go_enter Tryd.func7, Tryd.ntmps7
    go_wp2_with (fail)
    refine HAC.mono ?_
    rintro e w1 ⟨rfl, rfl⟩
    go_wp2_with (fail)
    refine (fault_calls c name _).mono ?_
    rintro e w2 ⟨g, rfl, hg, hF, hb2⟩
    have hb3 := below_step (w := w) HAB.out hb2
    go_wp2_with (fail)
    go_ret
    exact ⟨_, rfl, Er.of (w1 := w2) (by omega) (Nat.le_trans hzA hg) hF, HD.out.below hb2, Kp.of hb3⟩
end Go.Proofs.YtcbgeakabchenaaDoor.D

/- The walk of Remove. -/
import Derived.Test.YtcbgeakabchenaaDoorAppB
namespace Go.Proofs.YtcbgeakabchenaaDoor.D
open Go.RowKit Go.Extern.Stop Go.Stop Go.Extern Go.Proofs.YtcbgeakabchenaaDoorW.PrintWords Go.Proofs.YtcbgeakabchenaaDoorW.PrintLast Go.Proofs.YtcbgeakabchenaaDoorW.PrintMore
set_option linter.unusedVariables false
set_option linter.unusedSimpArgs false
theorem take_ok {L : FS} (h : Okf L) (k : ByteArray) : Okf (take L k) := ⟨take_ris _ _ h.1, by have := take_len L k; have := h.2.1; omega, fun q hq => h.2.2 q (mem_take _ _ _ hq)⟩
set_option maxHeartbeats 16000000 in
set_option maxRecDepth 100000 in
theorem remcc_calls (p b : Nat) (s : St) (g3 g4 : Nat) (name : ByteArray) (w : World) (h : DK w p b s) (c3 : w.cell? ⟨g3, 0, none⟩ = some (.pointer (some ⟨p, 0, none⟩))) (c4 : w.cell? ⟨g4, 0, none⟩ = some (.string name)) (hname : name.size ≤ 128) :
    Calls Tryd.prog 25 #[.pointer (some ⟨g3, 0, none⟩), .pointer (some ⟨g4, 0, none⟩)] w fun e w' => e = .returned (.tuple #[]) ∧ DK w' p b { s with L := take s.L name } ∧ ∃ q, (w.drewN q).mapTurned w' b := by
  obtain ⟨e0, e1, e2, e3, ef⟩ := h.c
  obtain ⟨w2, hst, hM2, ht2⟩ := (h.drew 1).2.1.drop h.2.2.1 name (by unfold maxLen; omega) 0
  have HD := Aside0.mk ((h.drew 1).turned ht2 hM2 (take_ok h.2.2 name))
  have HT := Aside0.mk ht2
  clear h hM2 ht2
  change (Builtin.delete_ #[38, 9] 0 #[.map (some b), .string name]).run Tryd.prog w.drew = .ok (.tuple #[]) w2 at hst
  go_enter Tryd.func25, Tryd.ntmps25
  go_wp2_with (fail)
  go_region
  go_end0
  exact ⟨rfl, HD.out, 1, HT.out⟩
theorem enters55 : ∀ args w, (callFunc 25 args).run Tryd.prog w = .ok (.enter 25 args) w := enters_of Tryd.func25 (by kernel_rfl) rfl
theorem enters54 : ∀ args w, (callFunc 23 args).run Tryd.prog w = .ok (.enter 23 args) w := enters_of Tryd.func23 (by kernel_rfl) rfl
def removeF (s : St) (name : ByteArray) : St × Nat :=
  if thereC s name ≠ 0 then (s, thereC s name)
  else if rawOk s then ({ s with L := take s.L name, cnt := wrap64 (s.cnt + 1) }, 0)
  else ({ s with dead := true }, 5)
set_option maxHeartbeats 16000000 in
set_option maxRecDepth 100000 in
theorem remc_calls (p b : Nat) (s : St) (g3 g4 : Nat) (name : ByteArray) (w : World) (h : DK w p b s) (hg : g3 ≠ p ∧ g4 ≠ p) (c3 : w.cell? ⟨g3, 0, none⟩ = some (.pointer (some ⟨p, 0, none⟩))) (c4 : w.cell? ⟨g4, 0, none⟩ = some (.string name)) (hname : name.size ≤ 128) :
    Calls Tryd.prog 23 #[.pointer (some ⟨g3, 0, none⟩), .pointer (some ⟨g4, 0, none⟩)] w fun e w' => ((rawOk s ∧ e = .returned (.tuple #[]) ∧ DK w' p b { s with L := take s.L name, cnt := wrap64 (s.cnt + 1) }) ∨ (¬ rawOk s ∧ e = .panicked [lostE] ∧ DK w' p b { s with dead := true })) ∧ Kp p b w w' := by
  have hmf : ∀ (fn : Fn) (first cap : Array Value) (w : World), (Instr.makeFunc fn first cap).run Tryd.prog w = .ok (.func fn first cap) w := fun _ _ _ _ => rfl
  have HD := Aside0.mk h
  clear h
  by_cases hraw : rawOk s
  · have HC : Aside0 (Calls Tryd.prog 24 #[.pointer (some ⟨p, 0, none⟩), .func (.func 25) #[] #[.pointer (some ⟨g3, 0, none⟩), .pointer (some ⟨g4, 0, none⟩)]] w fun e w' => e = .returned (.tuple #[]) ∧ DK w' p b { s with L := take s.L name, cnt := wrap64 (s.cnt + 1) } ∧ Kp p b w w') := ⟨by
      refine raw_ok p b s 25 _ (fun w' => DK w' p b { s with L := take s.L name, cnt := wrap64 (s.cnt + 1) } ∧ Kp p b w w') w enters55 HD.out hraw (fun q => ?_)
      have ne : ∀ {g : Nat} {v : Value}, g ≠ p → ((w.drewN q).setCell ⟨p, 2, none⟩ v).cell? ⟨g, 0, none⟩ = w.cell? ⟨g, 0, none⟩ := fun {g v} hgp => World.cell?_setCell_other _ _ _ _ (fun e => by injection e with e; exact hgp e.symm)
      refine (remcc_calls p b { s with cnt := wrap64 (s.cnt + 1) } g3 g4 name _ ((HD.out.drew q).setCnt _) (by rw [ne hg.1]; exact c3) (by rw [ne hg.2]; exact c4) hname).mono ?_
      rintro e w' ⟨rfl, hD, q2, ht⟩
      exact ⟨rfl, hD, ((((Kp.refl p b w).drew q).set _).drew q2).turned ht⟩⟩
    go_enter Tryd.func23, Tryd.ntmps23
    go_wp2_with (fail)
    refine HC.out.mono ?_
    rintro e w1 ⟨rfl, hD1, hK1⟩
    go_wp2_with (fail)
    go_end0
    exact ⟨.inl ⟨hraw, rfl, hD1⟩, hK1⟩
  · have h01 : 0 ≤ s.cut ∧ s.cut ≤ s.cnt := Decidable.not_not.1 hraw
    have HRW := Aside0.mk hraw
    clear hraw
    go_enter Tryd.func23, Tryd.ntmps23
    go_wp2_with (fail)
    refine (raw_no p b s _ _ HD.out h01.1 h01.2).mono ?_
    rintro e w1 ⟨rfl, hD1, hK1⟩
    go_wp2_with (fail)
    exact ⟨rfl, .inr ⟨HRW.out, rfl, hD1⟩, hK1⟩
set_option maxHeartbeats 8000000 in
set_option maxRecDepth 100000 in
theorem remove_nil (name : ByteArray) (w : World) : Calls Tryd.prog 12 #[.pointer none, .string name] w fun e w' => ∃ v, e = .returned v ∧ Er w' w.heap.size v 1 name ∧ Below w.heap.size w w' := by
  go_enter Tryd.func12, Tryd.ntmps12
  go_wp2_with (fail)
  refine (there_nil name _).mono ?_
  rintro e w1 ⟨rfl, rfl⟩
  have hA : Below w.heap.size w ((w.alloc (Obj.cells #[Value.pointer none] 25)).alloc (Obj.cells #[Value.string name] 9)) := ((Below.refl _ _).alloc (Nat.le_refl _) _).alloc (by simp) _
  have a4 : ((w.alloc (Obj.cells #[Value.pointer none] 25)).alloc (Obj.cells #[Value.string name] 9)).cell? ⟨w.heap.size + 1, 0, none⟩ = some (.string name) := by go_simp
  go_wp2_with (fail)
  refine (fault_calls 1 name _).mono ?_
  rintro e w2 ⟨g, rfl, hg, hF, hb⟩
  go_wp2_with (fail)
  go_ret
  exact ⟨_, rfl, Er.of (w1 := w2) (by decide) (by have := hA.size; omega) hF, below_step hA hb⟩
set_option maxHeartbeats 16000000 in
set_option maxRecDepth 100000 in
theorem remove_calls (p b : Nat) (s : St) (name : ByteArray) (w : World) (h : DK w p b s) (hn : name.size ≤ 140737488351232) : Calls Tryd.prog 12 #[.pointer (some ⟨p, 0, none⟩), .string name] w fun e w' => ∃ v, e = .returned v ∧ Er w' w.heap.size v (removeF s name).2 name ∧ DK w' p b (removeF s name).1 ∧ Kp p b w w' := by
  have hmf : ∀ (fn : Fn) (first cap : Array Value) (w : World), (Instr.makeFunc fn first cap).run Tryd.prog w = .ok (.func fn first cap) w := fun _ _ _ _ => rfl
  have hA : Below w.heap.size w ((w.alloc (Obj.cells #[Value.pointer (some ⟨p, 0, none⟩)] 25)).alloc (Obj.cells #[Value.string name] 9)) := ((Below.refl _ _).alloc (Nat.le_refl _) _).alloc (by simp) _
  have a3 : ((w.alloc (Obj.cells #[Value.pointer (some ⟨p, 0, none⟩)] 25)).alloc (Obj.cells #[Value.string name] 9)).cell? ⟨w.heap.size, 0, none⟩ = some (.pointer (some ⟨p, 0, none⟩)) := by go_simp
  have a4 : ((w.alloc (Obj.cells #[Value.pointer (some ⟨p, 0, none⟩)] 25)).alloc (Obj.cells #[Value.string name] 9)).cell? ⟨w.heap.size + 1, 0, none⟩ = some (.string name) := by go_simp
  have HD := Aside0.mk (h.below hA)
  have hp := h.lt
  have hpb := h.ltb
  have hzA := hA.size
  have HAB := Aside0.mk hA
  have HTC := there_calls p b s name _ HD.out (by unfold maxLen; omega)
  clear h hA
  by_cases h0 : thereC s name = 0
  · have k2 : name.size ≤ 128 := by
      have : ableC s name = 0 := by
        unfold thereC at h0
        split at h0
        · omega
        · omega
      exact (ableC_zero this).2.1
    rw [h0] at HTC
    obtain ⟨c, s', hcc, he⟩ : ∃ (c : Nat) (s' : St), Aside0 ((rawOk s ∧ c = 0 ∧ s' = { s with L := take s.L name, cnt := wrap64 (s.cnt + 1) }) ∨ (¬ rawOk s ∧ c = 5 ∧ s' = { s with dead := true })) ∧ removeF s name = (s', c) := by
      unfold removeF
      rw [if_neg (by omega)]
      by_cases hr : rawOk s
      · rw [if_pos hr]; exact ⟨_, _, ⟨.inl ⟨hr, rfl, rfl⟩⟩, rfl⟩
      · rw [if_neg hr]; exact ⟨_, _, ⟨.inr ⟨hr, rfl, rfl⟩⟩, rfl⟩
    rw [he]
    go_enter Tryd.func12, Tryd.ntmps12
    go_wp2_with (fail)
    refine HTC.mono ?_
    rintro e w1 ⟨rfl, rfl⟩
    go_wp2_with (fail)
    refine (powered_calls p b s' (decide (rawOk s)) name 23 _ _ enters54 (by exact Nat.lt_of_lt_of_le hp hzA) (by exact Nat.lt_of_lt_of_le hpb hzA) (fun w1 hb1 => (remc_calls p b s _ _ name w1 (HD.out.below hb1) ⟨by omega, by omega⟩ (pw_cell_below hb1 a3) (pw_cell_below hb1 a4) k2).mono (by
      rintro e w' ⟨⟨hr, rfl, hD⟩ | ⟨hr, rfl, hD⟩, hK⟩
      · rcases hcc.out with ⟨_, _, rfl⟩ | ⟨hr2, _⟩
        · exact ⟨.inl ⟨decide_eq_true hr, rfl⟩, hD, hK⟩
        · exact absurd hr hr2
      · rcases hcc.out with ⟨hr2, _⟩ | ⟨_, _, rfl⟩
        · exact absurd hr2 hr
        · exact ⟨.inr ⟨decide_eq_false hr, rfl⟩, hD, hK⟩))).mono ?_
    rintro e w5 ⟨hD5, hK5, ⟨hok, rfl⟩ | ⟨hok, g, rfl, hg, hF⟩⟩
    · have HC0 : Aside0 (c = 0) := ⟨by
        rcases hcc.out with ⟨_, h, _⟩ | ⟨hr2, _⟩
        · exact h
        · exact absurd (of_decide_eq_true hok) hr2⟩
      have HD5 := Aside0.mk hD5
      have HK5 := Aside0.mk ((Kp.of (p := p) (b := b) HAB.out).trans hK5)
      clear hD5 hK5 hok
      go_wp2_with (fail)
      go_ret
      exact ⟨_, rfl, .inl ⟨HC0.out, rfl⟩, HD5.out, HK5.out⟩
    · have HC0 : Aside0 (c = 5) := ⟨by
        rcases hcc.out with ⟨hr2, _⟩ | ⟨_, h, _⟩
        · exact absurd hr2 (of_decide_eq_false hok)
        · exact h⟩
      have HD5 := Aside0.mk hD5
      have HK5 := Aside0.mk ((Kp.of (p := p) (b := b) HAB.out).trans hK5)
      clear hD5 hK5 hok
      go_wp2_with (fail)
      go_ret
      exact ⟨_, rfl, by rw [HC0.out]; exact Er.of (w1 := w5) (by decide) (Nat.le_trans hzA hg) hF, HD5.out, HK5.out⟩
  · have he : removeF s name = (s, thereC s name) := by unfold removeF; rw [if_pos h0]
    rw [he]
    generalize thereC s name = c at *
    have hc := int_ne h0
    go_enter Tryd.func12, Tryd.ntmps12
    go_wp2_with (fail)
    refine HTC.mono ?_
    rintro e w1 ⟨rfl, rfl⟩
    go_wp2_with (fail)
    refine (fault_calls c name _).mono ?_
    rintro e w2 ⟨g, rfl, hg, hF, hb2⟩
    have hb3 := below_step (w := w) HAB.out hb2
    go_wp2_with (fail)
    go_ret
    exact ⟨_, rfl, Er.of (w1 := w2) (by omega) (Nat.le_trans hzA hg) hF, HD.out.below hb2, Kp.of hb3⟩
end Go.Proofs.YtcbgeakabchenaaDoor.D

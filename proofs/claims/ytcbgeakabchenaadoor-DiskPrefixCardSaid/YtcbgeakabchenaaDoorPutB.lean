/- The closures of Put. -/
import Derived.Test.YtcbgeakabchenaaDoorAliB
namespace Go.Proofs.YtcbgeakabchenaaDoor.D
open Go.RowKit Go.Extern.Stop Go.Stop Go.Extern Go.Proofs.YtcbgeakabchenaaDoorW.PrintWords Go.Proofs.YtcbgeakabchenaaDoorW.PrintLast Go.Proofs.YtcbgeakabchenaaDoorW.PrintMore
set_option linter.unusedVariables false
set_option linter.unusedSimpArgs false
def putS (s : St) (name : ByteArray) : St := { s with L := lay s.L name ⟨#[]⟩, cnt := wrap64 (s.cnt + 1) }
def putR (s : St) (name bytes : ByteArray) : St × Bool := if rawOk s then (if bytes.size = 0 then (putS s name, true) else addF (putS s name) name bytes) else ({ s with dead := true }, false)
def putF (s : St) (name bytes : ByteArray) : St × Nat :=
  if ableC s name ≠ 0 then (s, ableC s name)
  else if roomB s name bytes.size = true then ((putR s name bytes).1, if (putR s name bytes).2 = true then 0 else 5)
  else (s, 4)
theorem lay_room {L : FS} (h : Okf L) (k v : ByteArray) (hv : v.size ≤ 16777216) (hl : (lk L k).isSome = true ∨ L.length < 65536) : Okf (lay L k v) := by
  refine ⟨lay_ris _ _ _ h.1, ?_, fun q hq => ?_⟩
  · rw [lay_len _ _ _ h.1]
    have := h.2.1
    split
    · exact this
    · rename_i hh
      rcases hl with hl | hl
      · exact absurd hl hh
      · omega
  · rcases mem_lay _ _ _ _ hq with rfl | hq
    · exact hv
    · exact h.2.2 q hq
set_option maxHeartbeats 16000000 in
set_option maxRecDepth 100000 in
theorem putcc_calls (p b : Nat) (s : St) (g3 g4 : Nat) (name : ByteArray) (w : World) (h : DK w p b s) (c3 : w.cell? ⟨g3, 0, none⟩ = some (.pointer (some ⟨p, 0, none⟩))) (c4 : w.cell? ⟨g4, 0, none⟩ = some (.string name)) (hname : name.size ≤ 128) (hl : (lk s.L name).isSome = true ∨ s.L.length < 65536) :
    Calls Tryd.prog 27 #[.pointer (some ⟨g3, 0, none⟩), .pointer (some ⟨g4, 0, none⟩)] w fun e w' => e = .returned (.tuple #[]) ∧ DK w' p b { s with L := lay s.L name ⟨#[]⟩ } ∧ ∃ q, (w.drewN q).mapTurned w' b := by
  obtain ⟨e0, e1, e2, e3, ef⟩ := h.c
  have hlen : s.L.length < maxLen := Nat.lt_of_le_of_lt h.2.2.2.1 (by decide)
  obtain ⟨w2, hst, hM2, ht2⟩ := (h.drew 1).2.1.put h.2.2.1 hlen name ⟨#[]⟩ (by unfold maxLen; omega) (Nat.zero_le _)
  have HD := Aside0.mk ((h.drew 1).turned ht2 hM2 (lay_room h.2.2 name ⟨#[]⟩ (Nat.zero_le _) hl))
  have HT := Aside0.mk ht2
  clear h hM2 ht2
  change (Instr.mapUpdate 38 (.map (some b)) (.string name) (.string ⟨#[]⟩)).run Tryd.prog w.drew = .ok () w2 at hst
  go_enter Tryd.func27, Tryd.ntmps27
  go_wp2_with (fail)
  go_region
  go_end0
  exact ⟨rfl, HD.out, 1, HT.out⟩
theorem enters49 : ∀ args w, (callFunc 27 args).run Tryd.prog w = .ok (.enter 27 args) w := enters_of Tryd.func27 (by kernel_rfl) rfl
theorem enters47 : ∀ args w, (callFunc 26 args).run Tryd.prog w = .ok (.enter 26 args) w := enters_of Tryd.func26 (by kernel_rfl) rfl
theorem ne_empty {r : ByteArray} (h : r.size ≠ 0) : (r.toList == []) = false := by
  rw [ByteArray.toList_eq]
  simp only [beq_eq_false_iff_ne]
  intro e
  have e2 := congrArg List.length e
  rw [Array.length_toList] at e2
  exact h e2
theorem is_empty {r : ByteArray} (h : r.size = 0) : (r.toList == []) = true := by
  rw [ByteArray.toList_eq]
  have e : r.data.toList = [] := List.length_eq_zero_iff.1 (by rw [Array.length_toList]; exact h)
  rw [e]
  rfl
set_option maxHeartbeats 16000000 in
set_option maxRecDepth 100000 in
theorem putc_calls (p b : Nat) (s : St) (g3 g4 g5 : Nat) (name bytes : ByteArray) (w : World) (h : DK w p b s) (hg : (g3 ≠ p ∧ g3 ≠ b) ∧ (g4 ≠ p ∧ g4 ≠ b) ∧ g5 ≠ p ∧ g5 ≠ b) (c3 : w.cell? ⟨g3, 0, none⟩ = some (.pointer (some ⟨p, 0, none⟩))) (c4 : w.cell? ⟨g4, 0, none⟩ = some (.string name)) (c5 : w.cell? ⟨g5, 0, none⟩ = some (.string bytes))
    (hname : name.size ≤ 128) (hs : bytes.size ≤ 16777216) (hl : (lk s.L name).isSome = true ∨ s.L.length < 65536) :
    Calls Tryd.prog 26 #[.pointer (some ⟨g3, 0, none⟩), .pointer (some ⟨g4, 0, none⟩), .pointer (some ⟨g5, 0, none⟩)] w fun e w' => (((putR s name bytes).2 = true ∧ e = .returned (.tuple #[])) ∨ ((putR s name bytes).2 = false ∧ e = .panicked [lostE])) ∧ DK w' p b (putR s name bytes).1 ∧ Kp p b w w' := by
  have hmf : ∀ (fn : Fn) (first cap : Array Value) (w : World), (Instr.makeFunc fn first cap).run Tryd.prog w = .ok (.func fn first cap) w := fun _ _ _ _ => rfl
  have HD := Aside0.mk h
  clear h
  by_cases hraw : rawOk s
  · have HC : Aside0 (Calls Tryd.prog 24 #[.pointer (some ⟨p, 0, none⟩), .func (.func 27) #[] #[.pointer (some ⟨g3, 0, none⟩), .pointer (some ⟨g4, 0, none⟩)]] w fun e w' => e = .returned (.tuple #[]) ∧ DK w' p b (putS s name) ∧ Kp p b w w') := ⟨by
      refine raw_ok p b s 27 _ (fun w' => DK w' p b (putS s name) ∧ Kp p b w w') w enters49 HD.out hraw (fun q => ?_)
      have ne : ∀ {g : Nat} {v : Value}, g ≠ p → ((w.drewN q).setCell ⟨p, 2, none⟩ v).cell? ⟨g, 0, none⟩ = w.cell? ⟨g, 0, none⟩ := fun {g v} hgp => World.cell?_setCell_other _ _ _ _ (fun e => by injection e with e; exact hgp e.symm)
      refine (putcc_calls p b { s with cnt := wrap64 (s.cnt + 1) } g3 g4 name _ ((HD.out.drew q).setCnt _) (by rw [ne hg.1.1]; exact c3) (by rw [ne hg.2.1.1]; exact c4) hname hl).mono ?_
      rintro e w' ⟨rfl, hD, q2, ht⟩
      exact ⟨rfl, hD, ((((Kp.refl p b w).drew q).set _).drew q2).turned ht⟩⟩
    have k3 := World.block_lt_of_cell? w _ c3
    have k4 := World.block_lt_of_cell? w _ c4
    have k5 := World.block_lt_of_cell? w _ c5
    by_cases hz : bytes.size = 0
    · have he : putR s name bytes = (putS s name, true) := by unfold putR; rw [if_pos hraw, if_pos hz]
      have hne := is_empty hz
      rw [he]
      clear hraw
      go_enter Tryd.func26, Tryd.ntmps26
      go_wp2_with (fail)
      refine HC.out.mono ?_
      rintro e w1 ⟨rfl, hD1, hK1⟩
      have b3 := (hK1.cell (o := 0) k3 hg.1.1 hg.1.2).trans c3
      have b4 := (hK1.cell (o := 0) k4 hg.2.1.1 hg.2.1.2).trans c4
      have b5 := (hK1.cell (o := 0) k5 hg.2.2.1 hg.2.2.2).trans c5
      go_wp2_with (fail)
      go_end0
      exact ⟨by first | exact .inl ⟨by first | trivial | rfl, rfl⟩ | (simp; done), hD1, hK1⟩
    · have he : putR s name bytes = addF (putS s name) name bytes := by unfold putR; rw [if_pos hraw, if_neg hz]
      have hne := ne_empty hz
      rw [he]
      clear hraw he hz
      generalize hq : addF (putS s name) name bytes = tot at *
      have HQ := Aside0.mk hq
      clear hq
      go_enter Tryd.func26, Tryd.ntmps26
      go_wp2_with (fail)
      refine HC.out.mono ?_
      rintro e w1 ⟨rfl, hD1, hK1⟩
      have b3 := (hK1.cell (o := 0) k3 hg.1.1 hg.1.2).trans c3
      have b4 := (hK1.cell (o := 0) k4 hg.2.1.1 hg.2.1.2).trans c4
      have b5 := (hK1.cell (o := 0) k5 hg.2.2.1 hg.2.2.2).trans c5
      have HA := add_calls p b (putS s name) name bytes w1 hD1 hname (by show (lkD (lay s.L name ⟨#[]⟩) name).size + _ ≤ _; rw [lkD_lay]; show 0 + bytes.size ≤ _; omega) (.inl (lk_lay_some _ _ _))
      rw [HQ.out] at HA
      have HK1 := Aside0.mk hK1
      clear hK1 hD1
      go_wp2_with (fail)
      refine HA.mono ?_
      rintro e w2 ⟨⟨h2, rfl⟩ | ⟨h2, rfl⟩, hD2, hK2⟩
      · have H2 := Aside0.mk h2
        clear h2
        go_wp2_with (fail)
        go_end0
        exact ⟨.inl ⟨H2.out, rfl⟩, hD2, HK1.out.trans hK2⟩
      · have H2 := Aside0.mk h2
        clear h2
        go_wp2_with (fail)
        exact ⟨rfl, .inr ⟨H2.out, rfl⟩, hD2, HK1.out.trans hK2⟩
  · have h01 : 0 ≤ s.cut ∧ s.cut ≤ s.cnt := Decidable.not_not.1 hraw
    have he : putR s name bytes = ({ s with dead := true }, false) := by unfold putR; rw [if_neg hraw]
    rw [he]
    clear hraw he
    go_enter Tryd.func26, Tryd.ntmps26
    go_wp2_with (fail)
    refine (raw_no p b s _ _ HD.out h01.1 h01.2).mono ?_
    rintro e w1 ⟨rfl, hD1, hK1⟩
    go_wp2_with (fail)
    exact ⟨rfl, by first | exact .inr ⟨by first | trivial | rfl, rfl⟩ | (simp; done), hD1, hK1⟩
end Go.Proofs.YtcbgeakabchenaaDoor.D

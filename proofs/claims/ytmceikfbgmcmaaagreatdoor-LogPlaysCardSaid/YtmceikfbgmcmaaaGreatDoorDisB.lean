/- The closures of Put. The walk of Put. The closures of Trunc. Trunc. The names of a disk's files, in order; slices.Clip. Names. -/
import Derived.Test.YtmceikfbgmcmaaaGreatDoorDisA
import Derived.Maps.RangeWalk
import Derived.Maps.StringElems
import Derived.Sort.KeysCollected
import Derived.Sort.OwnSorted
import Derived.Maps.AppendAt
import Derived.WalkKit
import Derived.Test.YtmceikfbgmcmaaaGreatDoorShelf
namespace Go.Proofs.YtmceikfbgmcmaaaGreatDoor.D
open Go.RowKit Go.Extern.Stop Go.Stop Go.Extern Go.Proofs.YtmceikfbgmcmaaaGreatDoorW.PrintWords Go.Proofs.YtmceikfbgmcmaaaGreatDoorW.PrintLast Go.Proofs.YtmceikfbgmcmaaaGreatDoorW.PrintMore
set_option linter.unusedVariables false
set_option linter.unusedSimpArgs false
section
def putS (s : St) (name : ByteArray) : St := { s with L := lay s.L name ⟨#[]⟩, cnt := wrap64 (s.cnt + 1) }
def putR (s : St) (name bytes : ByteArray) : St × Bool := if rawOk s then (if bytes.size = 0 then (putS s name, true) else addF (putS s name) name bytes) else ({ s with dead := true }, false)
def putF (s : St) (name bytes : ByteArray) : St × Nat :=
  if ableC s name ≠ 0 then (s, ableC s name)
  else if roomB s name bytes.size = true then ((putR s name bytes).1, if (putR s name bytes).2 = true then 0 else 5)
  else (s, 4)
theorem lay_room {L : FS} (h : Okf L) (k v : ByteArray) (hv : v.size ≤ 16777216) (hl : (lk L k).isSome = true ∨ L.length < 65536) : Okf (lay L k v) := by
  refine ⟨lay_ris _ _ _ h.1, ?_, fun q hq => ?_⟩
  · rw [lay_len _ _ _ h.1]
    have := h.2.1
    split
    · exact this
    · rename_i hh
      rcases hl with hl | hl
      · exact absurd hl hh
      · omega
  · rcases mem_lay _ _ _ _ hq with rfl | hq
    · exact hv
    · exact h.2.2 q hq
set_option maxHeartbeats 16000000 in
set_option maxRecDepth 100000 in
theorem putcc_calls (p b : Nat) (s : St) (g3 g4 : Nat) (name : ByteArray) (w : World) (h : DK w p b s) (c3 : w.cell? ⟨g3, 0, none⟩ = some (.pointer (some ⟨p, 0, none⟩))) (c4 : w.cell? ⟨g4, 0, none⟩ = some (.string name)) (hname : name.size ≤ 128) (hl : (lk s.L name).isSome = true ∨ s.L.length < 65536) :
    Calls Tryz.prog 69 #[.pointer (some ⟨g3, 0, none⟩), .pointer (some ⟨g4, 0, none⟩)] w fun e w' => e = .returned (.tuple #[]) ∧ DK w' p b { s with L := lay s.L name ⟨#[]⟩ } ∧ ∃ q, (w.drewN q).mapTurned w' b := by
  obtain ⟨e0, e1, e2, e3, ef⟩ := h.c
  have hlen : s.L.length < maxLen := Nat.lt_of_le_of_lt h.2.2.2.1 (by decide)
  obtain ⟨w2, hst, hM2, ht2⟩ := (h.drew 1).2.1.put h.2.2.1 hlen name ⟨#[]⟩ (by unfold maxLen; omega) (Nat.zero_le _)
  have HD := Aside0.mk ((h.drew 1).turned ht2 hM2 (lay_room h.2.2 name ⟨#[]⟩ (Nat.zero_le _) hl))
  have HT := Aside0.mk ht2
  clear h hM2 ht2
  change (Instr.mapUpdate 82 (.map (some b)) (.string name) (.string ⟨#[]⟩)).run Tryz.prog w.drew = .ok () w2 at hst
  go_enter Tryz.func69, Tryz.ntmps69
  go_wp2_with (fail)
  go_region
  go_end0
  exact ⟨rfl, HD.out, 1, HT.out⟩
theorem enters49 : ∀ args w, (callFunc 69 args).run Tryz.prog w = .ok (.enter 69 args) w := enters_of Tryz.func69 (by kernel_rfl) rfl
theorem enters47 : ∀ args w, (callFunc 67 args).run Tryz.prog w = .ok (.enter 67 args) w := enters_of Tryz.func67 (by kernel_rfl) rfl
theorem ne_empty {r : ByteArray} (h : r.size ≠ 0) : (r.toList == []) = false := by
  rw [ByteArray.toList_eq]
  simp only [beq_eq_false_iff_ne]
  intro e
  have e2 := congrArg List.length e
  rw [Array.length_toList] at e2
  exact h e2
theorem is_empty {r : ByteArray} (h : r.size = 0) : (r.toList == []) = true := by
  rw [ByteArray.toList_eq]
  have e : r.data.toList = [] := List.length_eq_zero_iff.1 (by rw [Array.length_toList]; exact h)
  rw [e]
  rfl
set_option maxHeartbeats 16000000 in
set_option maxRecDepth 100000 in
theorem putc_calls (p b : Nat) (s : St) (g3 g4 g5 : Nat) (name bytes : ByteArray) (w : World) (h : DK w p b s) (hg : (g3 ≠ p ∧ g3 ≠ b) ∧ (g4 ≠ p ∧ g4 ≠ b) ∧ g5 ≠ p ∧ g5 ≠ b) (c3 : w.cell? ⟨g3, 0, none⟩ = some (.pointer (some ⟨p, 0, none⟩))) (c4 : w.cell? ⟨g4, 0, none⟩ = some (.string name)) (c5 : w.cell? ⟨g5, 0, none⟩ = some (.string bytes))
    (hname : name.size ≤ 128) (hs : bytes.size ≤ 16777216) (hl : (lk s.L name).isSome = true ∨ s.L.length < 65536) :
    Calls Tryz.prog 67 #[.pointer (some ⟨g3, 0, none⟩), .pointer (some ⟨g4, 0, none⟩), .pointer (some ⟨g5, 0, none⟩)] w fun e w' => (((putR s name bytes).2 = true ∧ e = .returned (.tuple #[])) ∨ ((putR s name bytes).2 = false ∧ e = .panicked [lostE])) ∧ DK w' p b (putR s name bytes).1 ∧ Kp p b w w' := by
  have hmf : ∀ (fn : Fn) (first cap : Array Value) (w : World), (Instr.makeFunc fn first cap).run Tryz.prog w = .ok (.func fn first cap) w := fun _ _ _ _ => rfl
  have HD := Aside0.mk h
  clear h
  by_cases hraw : rawOk s
  · have HC : Aside0 (Calls Tryz.prog 68 #[.pointer (some ⟨p, 0, none⟩), .func (.func 69) #[] #[.pointer (some ⟨g3, 0, none⟩), .pointer (some ⟨g4, 0, none⟩)]] w fun e w' => e = .returned (.tuple #[]) ∧ DK w' p b (putS s name) ∧ Kp p b w w') := ⟨by
      refine raw_ok p b s 69 _ (fun w' => DK w' p b (putS s name) ∧ Kp p b w w') w enters49 HD.out hraw (fun q => ?_)
      have ne : ∀ {g : Nat} {v : Value}, g ≠ p → ((w.drewN q).setCell ⟨p, 2, none⟩ v).cell? ⟨g, 0, none⟩ = w.cell? ⟨g, 0, none⟩ := fun {g v} hgp => World.cell?_setCell_other _ _ _ _ (fun e => by injection e with e; exact hgp e.symm)
      refine (putcc_calls p b { s with cnt := wrap64 (s.cnt + 1) } g3 g4 name _ ((HD.out.drew q).setCnt _) (by rw [ne hg.1.1]; exact c3) (by rw [ne hg.2.1.1]; exact c4) hname hl).mono ?_
      rintro e w' ⟨rfl, hD, q2, ht⟩
      exact ⟨rfl, hD, ((((Kp.refl p b w).drew q).set _).drew q2).turned ht⟩⟩
    have k3 := World.block_lt_of_cell? w _ c3
    have k4 := World.block_lt_of_cell? w _ c4
    have k5 := World.block_lt_of_cell? w _ c5
    by_cases hz : bytes.size = 0
    · have he : putR s name bytes = (putS s name, true) := by unfold putR; rw [if_pos hraw, if_pos hz]
      have hne := is_empty hz
      rw [he]
      clear hraw
      go_enter Tryz.func67, Tryz.ntmps67
      go_wp2_with (fail)
      refine HC.out.mono ?_
      rintro e w1 ⟨rfl, hD1, hK1⟩
      have b3 := (hK1.cell (o := 0) k3 hg.1.1 hg.1.2).trans c3
      have b4 := (hK1.cell (o := 0) k4 hg.2.1.1 hg.2.1.2).trans c4
      have b5 := (hK1.cell (o := 0) k5 hg.2.2.1 hg.2.2.2).trans c5
      go_wp2_with (fail)
      go_end0
      exact ⟨by first | exact .inl ⟨by first | trivial | rfl, rfl⟩ | (simp; done), hD1, hK1⟩
    · have he : putR s name bytes = addF (putS s name) name bytes := by unfold putR; rw [if_pos hraw, if_neg hz]
      have hne := ne_empty hz
      rw [he]
      clear hraw he hz
      generalize hq : addF (putS s name) name bytes = tot at *
      have HQ := Aside0.mk hq
      clear hq
      go_enter Tryz.func67, Tryz.ntmps67
      go_wp2_with (fail)
      refine HC.out.mono ?_
      rintro e w1 ⟨rfl, hD1, hK1⟩
      have b3 := (hK1.cell (o := 0) k3 hg.1.1 hg.1.2).trans c3
      have b4 := (hK1.cell (o := 0) k4 hg.2.1.1 hg.2.1.2).trans c4
      have b5 := (hK1.cell (o := 0) k5 hg.2.2.1 hg.2.2.2).trans c5
      have HA := add_calls p b (putS s name) name bytes w1 hD1 hname (by show (lkD (lay s.L name ⟨#[]⟩) name).size + _ ≤ _; rw [lkD_lay]; show 0 + bytes.size ≤ _; omega) (.inl (lk_lay_some _ _ _))
      rw [HQ.out] at HA
      have HK1 := Aside0.mk hK1
      clear hK1 hD1
      go_wp2_with (fail)
      refine HA.mono ?_
      rintro e w2 ⟨⟨h2, rfl⟩ | ⟨h2, rfl⟩, hD2, hK2⟩
      · have H2 := Aside0.mk h2
        clear h2
        go_wp2_with (fail)
        go_end0
        exact ⟨.inl ⟨H2.out, rfl⟩, hD2, HK1.out.trans hK2⟩
      · have H2 := Aside0.mk h2
        clear h2
        go_wp2_with (fail)
        exact ⟨rfl, .inr ⟨H2.out, rfl⟩, hD2, HK1.out.trans hK2⟩
  · have h01 : 0 ≤ s.cut ∧ s.cut ≤ s.cnt := Decidable.not_not.1 hraw
    have he : putR s name bytes = ({ s with dead := true }, false) := by unfold putR; rw [if_neg hraw]
    rw [he]
    clear hraw he
    go_enter Tryz.func67, Tryz.ntmps67
    go_wp2_with (fail)
    refine (raw_no p b s _ _ HD.out h01.1 h01.2).mono ?_
    rintro e w1 ⟨rfl, hD1, hK1⟩
    go_wp2_with (fail)
    exact ⟨rfl, by first | exact .inr ⟨by first | trivial | rfl, rfl⟩ | (simp; done), hD1, hK1⟩
end
section
set_option maxHeartbeats 16000000 in
set_option maxRecDepth 100000 in
theorem put_calls (p b : Nat) (s : St) (name bytes : ByteArray) (w : World) (h : DK w p b s) (hn : name.size ≤ 140737488351232) (hb : bytes.size ≤ 140737488351232) : Calls Tryz.prog 28 #[.pointer (some ⟨p, 0, none⟩), .string name, .string bytes] w fun e w' => ∃ v, e = .returned v ∧ Er w' w.heap.size v (putF s name bytes).2 name ∧ DK w' p b (putF s name bytes).1 ∧ Kp p b w w' := by
  have hmf : ∀ (fn : Fn) (first cap : Array Value) (w : World), (Instr.makeFunc fn first cap).run Tryz.prog w = .ok (.func fn first cap) w := fun _ _ _ _ => rfl
  have hA : Below w.heap.size w (((w.alloc (Obj.cells #[Value.pointer (some ⟨p, 0, none⟩)] 40)).alloc (Obj.cells #[Value.string name] 9)).alloc (Obj.cells #[Value.string bytes] 9)) := (((Below.refl _ _).alloc (Nat.le_refl _) _).alloc (by simp) _).alloc (by simp <;> omega) _
  have a3 : (((w.alloc (Obj.cells #[Value.pointer (some ⟨p, 0, none⟩)] 40)).alloc (Obj.cells #[Value.string name] 9)).alloc (Obj.cells #[Value.string bytes] 9)).cell? ⟨w.heap.size, 0, none⟩ = some (.pointer (some ⟨p, 0, none⟩)) := by go_simp
  have a4 : (((w.alloc (Obj.cells #[Value.pointer (some ⟨p, 0, none⟩)] 40)).alloc (Obj.cells #[Value.string name] 9)).alloc (Obj.cells #[Value.string bytes] 9)).cell? ⟨w.heap.size + 1, 0, none⟩ = some (.string name) := by go_simp
  have a5 : (((w.alloc (Obj.cells #[Value.pointer (some ⟨p, 0, none⟩)] 40)).alloc (Obj.cells #[Value.string name] 9)).alloc (Obj.cells #[Value.string bytes] 9)).cell? ⟨w.heap.size + 1 + 1, 0, none⟩ = some (.string bytes) := by go_simp
  have HD := Aside0.mk (h.below hA)
  have hp := h.lt
  have hpb := h.ltb
  have hsz := lk_size h.2.2.2.2 name
  have hlook := HD.out.2.1.look name (by unfold maxLen; omega)
  obtain ⟨c0, c1, c2, c3, cf⟩ := HD.out.c
  have hzA : w.heap.size ≤ (((w.alloc (Obj.cells #[Value.pointer (some ⟨p, 0, none⟩)] 40)).alloc (Obj.cells #[Value.string name] 9)).alloc (Obj.cells #[Value.string bytes] 9)).heap.size := hA.size
  have HAB := Aside0.mk hA
  clear h hA
  by_cases h0 : ableC s name = 0
  · obtain ⟨k1, k2, k3⟩ := ableC_zero h0
    have HAC := able_calls p b s name _ HD.out
    rw [h0] at HAC
    have HRM := room_calls p b s name bytes.size _ HD.out (by unfold maxLen; omega)
    cases hr : roomB s name bytes.size
    · have he : putF s name bytes = (s, 4) := by unfold putF; rw [if_neg (by omega), hr]; rfl
      rw [he]
      rw [hr] at HRM
      go_enter Tryz.func28, Tryz.ntmps28
      go_wp2_with (fail)
      refine HAC.mono ?_
      rintro e w1 ⟨rfl, rfl⟩
      go_wp2_with (fail)
      refine HRM.mono ?_
      rintro e w1 ⟨rfl, rfl⟩
      go_wp2_with (fail)
      refine (fault_calls 4 name _).mono ?_
      rintro e w2 ⟨g, rfl, hg, hF, hb2⟩
      have hb3 := below_step (w := w) HAB.out hb2
      go_wp2_with (fail)
      go_ret
      exact ⟨_, rfl, Er.of (w1 := w2) (by decide) (Nat.le_trans hzA hg) hF, HD.out.below hb2, Kp.of hb3⟩
    · obtain ⟨c, hcc, he⟩ : ∃ c : Nat, Aside0 (((putR s name bytes).2 = true → c = 0) ∧ ((putR s name bytes).2 = false → c = 5)) ∧ putF s name bytes = ((putR s name bytes).1, c) := by
        refine ⟨if (putR s name bytes).2 = true then 0 else 5, ⟨fun h => if_pos h, fun h => if_neg (by rw [h]; decide)⟩, ?_⟩
        unfold putF
        rw [if_neg (by omega), if_pos hr]
      rw [he]
      rw [hr] at HRM
      have hr1 : bytes.size ≤ 16777216 ∧ ((lk s.L name).isSome = true ∨ s.L.length < 65536) := by
        unfold roomB at hr
        simpa using hr
      go_enter Tryz.func28, Tryz.ntmps28
      go_wp2_with (fail)
      refine HAC.mono ?_
      rintro e w1 ⟨rfl, rfl⟩
      go_wp2_with (fail)
      refine HRM.mono ?_
      rintro e w1 ⟨rfl, rfl⟩
      go_wp2_with (fail)
      refine (powered_calls p b (putR s name bytes).1 (putR s name bytes).2 name 67 _ _ enters47 (by exact Nat.lt_of_lt_of_le hp hzA) (by exact Nat.lt_of_lt_of_le hpb hzA) (fun w1 hb1 => putc_calls p b s _ _ _ name bytes w1 (HD.out.below hb1) ⟨⟨by omega, by omega⟩, ⟨by omega, by omega⟩, by omega, by omega⟩ (pw_cell_below hb1 a3) (pw_cell_below hb1 a4) (pw_cell_below hb1 a5) k2 hr1.1 hr1.2)).mono ?_
      rintro e w5 ⟨hD5, hK5, ⟨hok, rfl⟩ | ⟨hok, g, rfl, hg, hF⟩⟩
      · have HOK := Aside0.mk hok
        clear hok
        have HD5 := Aside0.mk hD5
        have HK5 := Aside0.mk ((Kp.of (p := p) (b := b) HAB.out).trans hK5)
        clear hD5 hK5
        go_wp2_with (fail)
        go_ret
        exact ⟨_, rfl, .inl ⟨hcc.out.1 HOK.out, rfl⟩, HD5.out, HK5.out⟩
      · have HOK := Aside0.mk hok
        clear hok
        have HD5 := Aside0.mk hD5
        have HK5 := Aside0.mk ((Kp.of (p := p) (b := b) HAB.out).trans hK5)
        clear hD5 hK5
        go_wp2_with (fail)
        go_ret
        exact ⟨_, rfl, by rw [hcc.out.2 HOK.out]; exact Er.of (w1 := w5) (by decide) (Nat.le_trans hzA hg) hF, HD5.out, HK5.out⟩
  · have HAC := able_calls p b s name _ HD.out
    have he : putF s name bytes = (s, ableC s name) := by unfold putF; rw [if_pos h0]
    rw [he]
    generalize ableC s name = c at *
    have hc := int_ne h0
    go_enter Tryz.func28, Tryz.ntmps28
    go_wp2_with (fail)
    refine HAC.mono ?_
    rintro e w1 ⟨rfl, rfl⟩
    go_wp2_with (fail)
    refine (fault_calls c name _).mono ?_
    rintro e w2 ⟨g, rfl, hg, hF, hb2⟩
    have hb3 := below_step (w := w) HAB.out hb2
    go_wp2_with (fail)
    go_ret
    exact ⟨_, rfl, Er.of (w1 := w2) (by omega) (Nat.le_trans hzA hg) hF, HD.out.below hb2, Kp.of hb3⟩
end
section
set_option maxHeartbeats 16000000 in
set_option maxRecDepth 100000 in
theorem trucc_calls (p b : Nat) (s : St) (g3 g4 g5 : Nat) (name : ByteArray) (m : Nat) (w : World) (h : DK w p b s) (c3 : w.cell? ⟨g3, 0, none⟩ = some (.pointer (some ⟨p, 0, none⟩))) (c4 : w.cell? ⟨g4, 0, none⟩ = some (.string name)) (c5 : w.cell? ⟨g5, 0, none⟩ = some (.int .i64 m)) (hname : name.size ≤ 128) (hm : m ≤ (lkD s.L name).size) (hl : (lk s.L name).isSome = true) :
    Calls Tryz.prog 79 #[.pointer (some ⟨g3, 0, none⟩), .pointer (some ⟨g4, 0, none⟩), .pointer (some ⟨g5, 0, none⟩)] w fun e w' => e = .returned (.tuple #[]) ∧ DK w' p b { s with L := lay s.L name ((lkD s.L name).extract 0 m) } ∧ ∃ q, (w.drewN q).mapTurned w' b := by
  obtain ⟨e0, e1, e2, e3, ef⟩ := h.c
  have hsz := lk_size h.2.2.2.2 name
  have hex : ((lkD s.L name).extract 0 m).size = m := by rw [ByteArray.size_extract]; omega
  have hlen : s.L.length < maxLen := Nat.lt_of_le_of_lt h.2.2.2.1 (by decide)
  have hmx : (16777216 : Nat) ≤ maxLen := by decide
  have hlook := (h.drew 1).2.1.look name (by unfold maxLen; omega)
  obtain ⟨w2, hst, hM2, ht2⟩ := (h.drew 1).2.1.put h.2.2.1 hlen name ((lkD s.L name).extract 0 m) (by unfold maxLen; omega) (by omega)
  have HD := Aside0.mk ((h.drew 1).turned ht2 hM2 (lay_room h.2.2 name _ (by omega) (.inl hl)))
  have HT := Aside0.mk ht2
  have n2 : (m : Int) ≤ ((lkD s.L name).size : Int) := by omega
  have n3 : (0 : Int) ≤ (m : Int) := by omega
  clear h hM2 ht2 hex
  change (Instr.lookup 82 (.map (some b)) (.string name) false).run Tryz.prog w.drew = .ok (.string (lkD s.L name)) w.drew at hlook
  change (Instr.mapUpdate 82 (.map (some b)) (.string name) (.string ((lkD s.L name).extract 0 m))).run Tryz.prog w.drew = .ok () w2 at hst
  go_enter Tryz.func79, Tryz.ntmps79
  go_wp2_with (fail)
  go_region
  go_end0
  exact ⟨rfl, HD.out, 1, HT.out⟩
theorem enters51 : ∀ args w, (callFunc 79 args).run Tryz.prog w = .ok (.enter 79 args) w := enters_of Tryz.func79 (by kernel_rfl) rfl
theorem enters50 : ∀ args w, (callFunc 78 args).run Tryz.prog w = .ok (.enter 78 args) w := enters_of Tryz.func78 (by kernel_rfl) rfl
set_option maxHeartbeats 16000000 in
set_option maxRecDepth 100000 in
theorem truc_calls (p b : Nat) (s : St) (g3 g4 g5 : Nat) (name : ByteArray) (m : Nat) (w : World) (h : DK w p b s) (hg : g3 ≠ p ∧ g4 ≠ p ∧ g5 ≠ p) (c3 : w.cell? ⟨g3, 0, none⟩ = some (.pointer (some ⟨p, 0, none⟩))) (c4 : w.cell? ⟨g4, 0, none⟩ = some (.string name)) (c5 : w.cell? ⟨g5, 0, none⟩ = some (.int .i64 m)) (hname : name.size ≤ 128) (hm : m ≤ (lkD s.L name).size) (hl : (lk s.L name).isSome = true) :
    Calls Tryz.prog 78 #[.pointer (some ⟨g3, 0, none⟩), .pointer (some ⟨g4, 0, none⟩), .pointer (some ⟨g5, 0, none⟩)] w fun e w' => ((rawOk s ∧ e = .returned (.tuple #[]) ∧ DK w' p b { s with L := lay s.L name ((lkD s.L name).extract 0 m), cnt := wrap64 (s.cnt + 1) }) ∨ (¬ rawOk s ∧ e = .panicked [lostE] ∧ DK w' p b { s with dead := true })) ∧ Kp p b w w' := by
  have hmf : ∀ (fn : Fn) (first cap : Array Value) (w : World), (Instr.makeFunc fn first cap).run Tryz.prog w = .ok (.func fn first cap) w := fun _ _ _ _ => rfl
  have HD := Aside0.mk h
  clear h
  by_cases hraw : rawOk s
  · have HC : Aside0 (Calls Tryz.prog 68 #[.pointer (some ⟨p, 0, none⟩), .func (.func 79) #[] #[.pointer (some ⟨g3, 0, none⟩), .pointer (some ⟨g4, 0, none⟩), .pointer (some ⟨g5, 0, none⟩)]] w fun e w' => e = .returned (.tuple #[]) ∧ DK w' p b { s with L := lay s.L name ((lkD s.L name).extract 0 m), cnt := wrap64 (s.cnt + 1) } ∧ Kp p b w w') := ⟨by
      refine raw_ok p b s 79 _ (fun w' => DK w' p b { s with L := lay s.L name ((lkD s.L name).extract 0 m), cnt := wrap64 (s.cnt + 1) } ∧ Kp p b w w') w enters51 HD.out hraw (fun q => ?_)
      have ne : ∀ {g : Nat} {v : Value}, g ≠ p → ((w.drewN q).setCell ⟨p, 2, none⟩ v).cell? ⟨g, 0, none⟩ = w.cell? ⟨g, 0, none⟩ := fun {g v} hgp => World.cell?_setCell_other _ _ _ _ (fun e => by injection e with e; exact hgp e.symm)
      refine (trucc_calls p b { s with cnt := wrap64 (s.cnt + 1) } g3 g4 g5 name m _ ((HD.out.drew q).setCnt _) (by rw [ne hg.1]; exact c3) (by rw [ne hg.2.1]; exact c4) (by rw [ne hg.2.2]; exact c5) hname hm hl).mono ?_
      rintro e w' ⟨rfl, hD, q2, ht⟩
      exact ⟨rfl, hD, ((((Kp.refl p b w).drew q).set _).drew q2).turned ht⟩⟩
    clear hl
    go_enter Tryz.func78, Tryz.ntmps78
    go_wp2_with (fail)
    refine HC.out.mono ?_
    rintro e w1 ⟨rfl, hD1, hK1⟩
    go_wp2_with (fail)
    go_end0
    exact ⟨.inl ⟨hraw, rfl, hD1⟩, hK1⟩
  · have h01 : 0 ≤ s.cut ∧ s.cut ≤ s.cnt := Decidable.not_not.1 hraw
    have HRW := Aside0.mk hraw
    clear hraw hl
    go_enter Tryz.func78, Tryz.ntmps78
    go_wp2_with (fail)
    refine (raw_no p b s _ _ HD.out h01.1 h01.2).mono ?_
    rintro e w1 ⟨rfl, hD1, hK1⟩
    go_wp2_with (fail)
    exact ⟨rfl, .inr ⟨HRW.out, rfl, hD1⟩, hK1⟩
end
section
def truncF (s : St) (name : ByteArray) (n : Int) : St × Nat :=
  if thereC s name ≠ 0 then (s, thereC s name)
  else if n < 0 ∨ ((lkD s.L name).size : Int) < n then (s, 2)
  else if rawOk s then ({ s with L := lay s.L name ((lkD s.L name).extract 0 n.toNat), cnt := wrap64 (s.cnt + 1) }, 0)
  else ({ s with dead := true }, 5)
set_option maxHeartbeats 64000000 in
set_option maxRecDepth 100000 in
theorem trunc_calls (p b : Nat) (s : St) (name : ByteArray) (n : Int) (w : World) (h : DK w p b s) (hn : name.size ≤ 140737488351232) : Calls Tryz.prog 40 #[.pointer (some ⟨p, 0, none⟩), .string name, .int .i64 n] w fun e w' => ∃ v, e = .returned v ∧ Er w' w.heap.size v (truncF s name n).2 name ∧ DK w' p b (truncF s name n).1 ∧ Kp p b w w' := by
  have hmf : ∀ (fn : Fn) (first cap : Array Value) (w : World), (Instr.makeFunc fn first cap).run Tryz.prog w = .ok (.func fn first cap) w := fun _ _ _ _ => rfl
  have hA : Below w.heap.size w (((w.alloc (Obj.cells #[Value.pointer (some ⟨p, 0, none⟩)] 40)).alloc (Obj.cells #[Value.string name] 9)).alloc (Obj.cells #[Value.int .i64 n] 3)) := (((Below.refl _ _).alloc (Nat.le_refl _) _).alloc (by simp) _).alloc (by simp <;> omega) _
  have a3 : (((w.alloc (Obj.cells #[Value.pointer (some ⟨p, 0, none⟩)] 40)).alloc (Obj.cells #[Value.string name] 9)).alloc (Obj.cells #[Value.int .i64 n] 3)).cell? ⟨w.heap.size, 0, none⟩ = some (.pointer (some ⟨p, 0, none⟩)) := by go_simp
  have a4 : (((w.alloc (Obj.cells #[Value.pointer (some ⟨p, 0, none⟩)] 40)).alloc (Obj.cells #[Value.string name] 9)).alloc (Obj.cells #[Value.int .i64 n] 3)).cell? ⟨w.heap.size + 1, 0, none⟩ = some (.string name) := by go_simp
  have a5 : (((w.alloc (Obj.cells #[Value.pointer (some ⟨p, 0, none⟩)] 40)).alloc (Obj.cells #[Value.string name] 9)).alloc (Obj.cells #[Value.int .i64 n] 3)).cell? ⟨w.heap.size + 1 + 1, 0, none⟩ = some (Value.int .i64 n) := by go_simp
  have HD := Aside0.mk (h.below hA)
  have hp := h.lt
  have hpb := h.ltb
  have hsz := lk_size h.2.2.2.2 name
  obtain ⟨c0, c1, c2, c3, cf⟩ := HD.out.c
  have hzA : w.heap.size ≤ (((w.alloc (Obj.cells #[Value.pointer (some ⟨p, 0, none⟩)] 40)).alloc (Obj.cells #[Value.string name] 9)).alloc (Obj.cells #[Value.int .i64 n] 3)).heap.size := hA.size
  have HAB := Aside0.mk hA
  have HTC := there_calls p b s name _ HD.out (by unfold maxLen; omega)
  have hlkN : ∀ q, (Instr.lookup 82 (.map (some b)) (.string name) false).run Tryz.prog ((((w.alloc (Obj.cells #[Value.pointer (some ⟨p, 0, none⟩)] 40)).alloc (Obj.cells #[Value.string name] 9)).alloc (Obj.cells #[Value.int .i64 n] 3)).drewN q) = .ok (.string (lkD s.L name)) ((((w.alloc (Obj.cells #[Value.pointer (some ⟨p, 0, none⟩)] 40)).alloc (Obj.cells #[Value.string name] 9)).alloc (Obj.cells #[Value.int .i64 n] 3)).drewN q) := fun q => (HD.out.drew q).2.1.look name (by unfold maxLen; omega)
  clear h hA
  by_cases h0 : thereC s name = 0
  · rw [h0] at HTC
    have k2 : name.size ≤ 128 ∧ (lk s.L name).isSome = true := by
      have h0' := h0
      unfold thereC at h0
      split at h0
      · omega
      · rename_i h1
        have h2 : ableC s name = 0 := by omega
        refine ⟨(ableC_zero h2).2.1, ?_⟩
        split at h0
        · assumption
        · omega
    by_cases h1 : n < 0
    · have he : truncF s name n = (s, 2) := by unfold truncF; rw [if_neg (by omega), if_pos (.inl h1)]
      rw [he]
      have hd1 : decide (n < 0) = true := decide_eq_true h1
      go_enter Tryz.func40, Tryz.ntmps40
      go_wp2_with (fail)
      refine HTC.mono ?_
      rintro e w1 ⟨rfl, rfl⟩
      go_wp2_with (fail)
      go_quiet (fail)
      go_wp2_with (fail)
      refine (fault_calls 2 name _).mono ?_
      rintro e w2 ⟨g, rfl, hg, hF, hb2⟩
      have hb3 := below_step (w := w) (pw_below_drewN HAB.out nq) hb2
      go_wp2_with (fail)
      go_ret
      exact ⟨_, rfl, Er.of (w1 := w2) (by decide) (Nat.le_trans hzA hg) hF, (HD.out.drew nq).below hb2, Kp.of hb3⟩
    · have hd1 : decide (n < 0) = false := decide_eq_false h1
      by_cases h2 : ((lkD s.L name).size : Int) < n
      · have he : truncF s name n = (s, 2) := by unfold truncF; rw [if_neg (by omega), if_pos (.inr h2)]
        rw [he]
        have hd2 : decide (((lkD s.L name).size : Int) < n) = true := decide_eq_true h2
        go_enter Tryz.func40, Tryz.ntmps40
        go_wp2_with (fail)
        refine HTC.mono ?_
        rintro e w1 ⟨rfl, rfl⟩
        go_wp2_with (fail)
        go_quiet (fail)
        go_wp2_with (fail)
        refine (fault_calls 2 name _).mono ?_
        rintro e w2 ⟨g, rfl, hg, hF, hb2⟩
        have hb3 := below_step (w := w) (pw_below_drewN HAB.out nq) hb2
        go_wp2_with (fail)
        go_ret
        exact ⟨_, rfl, Er.of (w1 := w2) (by decide) (Nat.le_trans hzA hg) hF, (HD.out.drew nq).below hb2, Kp.of hb3⟩
      · have hd2 : decide (((lkD s.L name).size : Int) < n) = false := decide_eq_false h2
        obtain ⟨c, s', hcc, he⟩ : ∃ (c : Nat) (s' : St), Aside0 ((rawOk s ∧ c = 0 ∧ s' = { s with L := lay s.L name ((lkD s.L name).extract 0 n.toNat), cnt := wrap64 (s.cnt + 1) }) ∨ (¬ rawOk s ∧ c = 5 ∧ s' = { s with dead := true })) ∧ truncF s name n = (s', c) := by
          unfold truncF
          rw [if_neg (by omega), if_neg (by omega)]
          by_cases hr : rawOk s
          · rw [if_pos hr]; exact ⟨_, _, ⟨.inl ⟨hr, rfl, rfl⟩⟩, rfl⟩
          · rw [if_neg hr]; exact ⟨_, _, ⟨.inr ⟨hr, rfl, rfl⟩⟩, rfl⟩
        rw [he]
        go_enter Tryz.func40, Tryz.ntmps40
        go_wp2_with (fail)
        refine HTC.mono ?_
        rintro e w1 ⟨rfl, rfl⟩
        go_wp2_with (fail)
        go_quiet (fail)
        go_wp2_with (fail)
        refine (powered_calls p b s' (decide (rawOk s)) name 78 _ _ enters50 (by exact Nat.lt_of_lt_of_le hp hzA) (by exact Nat.lt_of_lt_of_le hpb hzA) (fun w1 hb1 => (truc_calls p b s _ _ _ name n.toNat w1 ((HD.out.drew nq).below hb1) ⟨by omega, by omega, by omega⟩ (pw_cell_below hb1 (cell_dn a3 nq)) (pw_cell_below hb1 (cell_dn a4 nq)) (pw_cell_below hb1 (cell_dn (by rw [a5, Int.toNat_of_nonneg (by omega)]) nq)) k2.1 (by omega) k2.2).mono (by
          rintro e w' ⟨⟨hr, rfl, hD⟩ | ⟨hr, rfl, hD⟩, hK⟩
          · rcases hcc.out with ⟨_, _, rfl⟩ | ⟨hr2, _⟩
            · exact ⟨.inl ⟨decide_eq_true hr, rfl⟩, hD, hK⟩
            · exact absurd hr hr2
          · rcases hcc.out with ⟨hr2, _⟩ | ⟨_, _, rfl⟩
            · exact absurd hr2 hr
            · exact ⟨.inr ⟨decide_eq_false hr, rfl⟩, hD, hK⟩))).mono ?_
        rintro e w5 ⟨hD5, hK5, ⟨hok, rfl⟩ | ⟨hok, g, rfl, hg, hF⟩⟩
        · have HC0 : Aside0 (c = 0) := ⟨by
            rcases hcc.out with ⟨_, h, _⟩ | ⟨hr2, _⟩
            · exact h
            · exact absurd (of_decide_eq_true hok) hr2⟩
          have HD5 := Aside0.mk hD5
          have HK5 := Aside0.mk ((Kp.of (p := p) (b := b) (pw_below_drewN HAB.out nq)).trans hK5)
          clear hD5 hK5 hok
          go_wp2_with (fail)
          go_ret
          exact ⟨_, rfl, .inl ⟨HC0.out, rfl⟩, HD5.out, HK5.out⟩
        · have HC0 : Aside0 (c = 5) := ⟨by
            rcases hcc.out with ⟨hr2, _⟩ | ⟨_, h, _⟩
            · exact absurd hr2 (of_decide_eq_false hok)
            · exact h⟩
          have HD5 := Aside0.mk hD5
          have HK5 := Aside0.mk ((Kp.of (p := p) (b := b) (pw_below_drewN HAB.out nq)).trans hK5)
          clear hD5 hK5 hok
          go_wp2_with (fail)
          go_ret
          exact ⟨_, rfl, by rw [HC0.out]; exact Er.of (w1 := w5) (by decide) (Nat.le_trans hzA hg) hF, HD5.out, HK5.out⟩
  · have he : truncF s name n = (s, thereC s name) := by unfold truncF; rw [if_pos h0]
    rw [he]
    generalize thereC s name = c at *
    have hc := int_ne h0
    have hd0 : decide ((c : Int) = 0) = false := decide_eq_false hc
    have hd3 : ((c : Int) == 0) = false := by rw [int_beq]; exact decide_eq_false h0
    go_enter Tryz.func40, Tryz.ntmps40
    go_wp2_with (fail)
    refine HTC.mono ?_
    rintro e w1 ⟨rfl, rfl⟩
    go_wp2_with (fail)
    go_quiet (fail)
    go_wp2_with (fail)
    refine (fault_calls c name _).mono ?_
    rintro e w2 ⟨g, rfl, hg, hF, hb2⟩
    have hb3 := below_step (w := w) (pw_below_drewN HAB.out nq) hb2
    go_wp2_with (fail)
    go_ret
    exact ⟨_, rfl, Er.of (w1 := w2) (by omega) (Nat.le_trans hzA hg) hF, (HD.out.drew nq).below hb2, Kp.of hb3⟩
end
section
theorem lk_some_iff : ∀ (L : FS) (k : ByteArray), (lk L k).isSome = true ↔ ∃ p ∈ L, p.1 = k
  | [], k => by simp [lk]
  | (a, x) :: r, k => by
    rw [lk]
    split
    · rename_i e
      simp [e]
    · rename_i e
      rw [lk_some_iff r k]
      simp [e]
theorem names_sorted {L : FS} {M : DataW Unit} {ss : List BL} (hr : Ris L) (ha : Agr L M) (hnd : ss.Nodup) (hm : ∀ x, x ∈ ss ↔ Maps.has M (.string x) = true) : ss.mergeSort (fun x y => decide (x ≤ y)) = L.map (fun p => tl p.1) := by
  have hnd2 : (L.map (fun p => tl p.1)).Nodup := by
    refine List.pairwise_map.2 (hr.imp ?_)
    intro p q h e
    rw [e] at h
    exact bl_irrefl _ h
  have hp : ss.Perm (L.map (fun p => tl p.1)) := by
    refine (List.perm_ext_iff_of_nodup hnd hnd2).2 fun x => ?_
    have hx := agr_has ha ⟨x.toArray⟩
    rw [hm x, hx, lk_some_iff, List.mem_map]
    constructor
    · rintro ⟨p, hp, e⟩
      exact ⟨p, hp, by rw [e]⟩
    · rintro ⟨p, hp, e⟩
      exact ⟨p, hp, tl_inj e⟩
  rw [mergeSort_of_perm hp]
  refine List.mergeSort_of_pairwise (List.pairwise_map.2 (hr.imp ?_))
  intro p q h
  simp only [decide_eq_true_eq]
  exact List.le_of_lt h
theorem encStr_tl (k : ByteArray) : encStr (tl k) = .string k := by
  unfold encStr
  exact congrArg Value.string (ByteArray.ext (by simp [tl]))
/-- v is a slice of these texts, in a block at or above base. -/
def NL (w : World) (base : Nat) (v : Value) (l : List ByteArray) : Prop :=
  (v = .slice none 0 0 ∧ l = []) ∨ ∃ g cap, v = .slice (some ⟨g, 0, none⟩) l.length cap ∧ base ≤ g ∧ g < w.heap.size ∧ ∀ i (h : i < l.length), w.cell? ⟨g, i, none⟩ = some (.string l[i])
theorem NL.below {w w' : World} {base : Nat} {v : Value} {l : List ByteArray} (h : NL w base v l) (hb : Below w.heap.size w w') : NL w' base v l := by
  rcases h with h | ⟨g, cap, h1, h2, h3, h4⟩
  · exact .inl h
  · exact .inr ⟨g, cap, h1, h2, Nat.lt_of_lt_of_le h3 hb.size, fun i hi => (hb.cell (by exact h3)).trans (h4 i hi)⟩
set_option maxHeartbeats 8000000 in
theorem clip_calls (g n cap : Nat) (w : World) (hn : n ≤ cap) : Calls Tryz.prog 47 #[.slice (some ⟨g, 0, none⟩) n cap] w fun e w' => e = .returned (.slice (some ⟨g, 0, none⟩) n n) ∧ w' = w := by
  go_enter Tryz.func47, Tryz.ntmps47
  go_wp2
  go_ret
  exact ⟨by simp, rfl⟩
set_option maxHeartbeats 8000000 in
theorem clip_nil (w : World) : Calls Tryz.prog 47 #[.slice none 0 0] w fun e w' => e = .returned (.slice none 0 0) ∧ w' = w := by
  go_enter Tryz.func47, Tryz.ntmps47
  go_wp2
  go_ret
  exact ⟨rfl, rfl⟩
end
section
open Go.Maps Go.WideElems Go.WideMaps Go.Sort
theorem nl_of_row {w : World} {base n g cap : Nat} {L : FS} (hn : L.length = n) (h : w.ownsRow base 9 1 (.slice (some ⟨g, 0, none⟩) n cap) n ((L.map (fun p => tl p.1)).map encStr)) : NL w base (.slice (some ⟨g, 0, none⟩) n n) (if false = true then [] else L.map (·.1)) := by
  rw [if_neg Bool.false_ne_true]
  rcases h.2 with ⟨hn, _⟩ | ⟨g2, cap2, cur2, hv, h0, hb2, h1, h2, h3, h42⟩
  · cases hn
  · cases hv
    refine .inr ⟨g, n, by rw [List.length_map, hn], h0, (Array.getElem?_eq_some_iff.1 hb2).1, fun i hi => ?_⟩
    have hi' : i < L.length := by simpa using hi
    have e := congrArg (fun l => l[i]?) h42
    rw [List.getElem?_take_of_lt (by omega)] at e
    simp only [World.cell?, hb2, Nat.zero_add]
    simp only [Option.isSome_none, Bool.false_eq_true, if_false]
    rw [← Array.getElem?_toList, e]
    simp [hi', encStr_tl]
theorem info9 : (Tryz.prog.info? 9).map (fun i => (i.zero, i.size, i.bytes)) = some (some (.string ⟨#[]⟩), 1, 16) := by kernel_rfl
set_option maxHeartbeats 16000000 in
set_option maxRecDepth 100000 in
theorem names_calls (p b : Nat) (s : St) (w : World) (h : DK w p b s) : Calls Tryz.prog 41 #[.pointer (some ⟨p, 0, none⟩)] w fun e w' => ∃ v, e = .returned v ∧ NL w' w.heap.size v (if s.dead then [] else s.L.map (·.1)) ∧ Below w.heap.size w w' := by
  obtain ⟨c0, c1, c2, c3, cf⟩ := h.c
  obtain ⟨L, cut, cnt, dead⟩ := s
  cases dead
  case true =>
    simp only at c3
    clear h c0 c1 c2
    go_enter Tryz.func41, Tryz.ntmps41
    go_wp2_with (fail)
    go_ret
    exact ⟨_, rfl, .inl ⟨rfl, by simp⟩, Below.refl _ _⟩
  case false =>
    simp only at c3
    obtain ⟨i0, hi, hz0, hz1, hz2⟩ := info_parts info9
    obtain ⟨hp, ⟨M, hown, hagr, hsize⟩, hris, hlen, _⟩ := h
    simp only at hown hagr hsize hris hlen
    have hbl := hown.lt
    have HX := Aside0.mk (And.intro hagr hris)
    have HS : Aside0 (Maps.size M ≤ 65536) := ⟨by omega⟩
    clear hagr hris c1 c2 hp hlen
    go_enter Tryz.func41, Tryz.ntmps41
    go_wp2_with (first
      | (at_range; refine wpList_range_own _ rfl _ 82 rfl 9 9 KS Tryz.underlying82 _ b _ _ rfl hown ?_; intro w0 hrg0 hg0 hs0)
      | go_in)
    go_loopw [3] (fun v wr => ∃ (left : Lit → Bool) (cnt : Nat) (ss : List (List UInt8)), wr.ranges Tryz.prog 9 RE b w.heap.size L.length M left cnt ∧ Aside0 (ss.length + cnt ≤ Maps.size M) ∧
        wr.ownsRow w.heap.size 9 1 v ss.length (ss.map encStr) ∧ Collected M left ss ∧ Below w.heap.size w wr)
      (fun _ wr => wr.rangeLeft b w.heap.size)
    case atStart =>
      exact ⟨_, _, [], hrg0, ⟨by simp⟩, World.ownsRow_nil _ _ _ _, Collected.start M, (Below.refl _ _).grown hg0 (Nat.le_refl _) (fun j hj => by cases hj)⟩
    case round =>
      obtain ⟨left, cnt, ss, hrg, HC, hrow, hC, hnx⟩ := hrel
      go_wp2_with (first
        | (at_next; refine wpList_next_ranges _ rfl _ rfl 9 KS RE encStr Value.string (fun key kl hk => by obtain ⟨x, hx, _⟩ := Maps.keyOf_str Tryz.underlying9 hk; exact ⟨x, hx⟩) (fun v y hv => by obtain ⟨c, rfl, _⟩ := plainElem_string_inv Tryz.underlying9 hv; exact ⟨c, rfl⟩) b w.heap.size _ _ _ _ rfl hrg ?_ ?_)
        | go_in)
      · intro hc0 hl0
        have hperm : ∀ x, x ∈ ss ↔ Maps.has M (.string x) = true := fun x => by rw [hC.2 x, hl0]; simp
        have hsrt := names_sorted HX.out.2 HX.out.1 hC.1 hperm
        rcases hrow.2 with ⟨hnil, hn0⟩ | ⟨g, cap, cur, rfl, hbase, hb, h1, h2, h3, h4⟩
        · have hss : ss = [] := List.length_eq_zero_iff.1 hn0
          have hL : L = [] := by
            have e := congrArg List.length hsrt
            rw [hss] at e
            simp at e
            exact List.length_eq_zero_iff.1 e.symm
          have HL := Aside0.mk hL
          have HNX := Aside0.mk hnx
          subst hnil
          clear hss hL hsrt hperm hC hrow hrg hnx HC
          go_wp2_with (fail)
          refine (Tryz.slices_Sort_string_none none 0 _).mono ?_
          rintro e w5 ⟨rfl, rfl⟩
          go_wp2_with (fail)
          refine (clip_nil _).mono ?_
          rintro e w6 ⟨rfl, rfl⟩
          go_wp2_with (fail)
          go_ret
          exact ⟨_, rfl, .inl ⟨rfl, by rw [HL.out]; rfl⟩, HNX.out⟩
        · have hH : Holds encStr wr g 0 ss.toArray := holds_of_block hb (by simpa using h4)
          have hgl : g < wr.heap.size := (Array.getElem?_eq_some_iff.1 hb).1
          have hc := Tryz.slices_Sort_string g 0 cap ss wr hH hgl (by have := HC.out; have := HS.out; omega)
          have HNX := Aside0.mk hnx
          have HLEN : Aside0 (L.length = ss.length) := ⟨by have e := congrArg List.length hsrt; simp at e; exact e.symm⟩
          have HH := Aside0.mk (fun (n : Nat) (os : Array Obj) => ownsRow_sorted (w := wr) (base := w.heap.size) (n := n) (os := os) (ss := ss) (ts := L.map (fun p => tl p.1)) (by simp; exact HLEN.out) hbase hb h1 h2 h3)
          rw [hsrt] at hc
          clear hsrt hperm hC hrow hrg hnx HC hH h3 h4
          have hcl := fun w => clip_calls g ss.length cap w h1
          go_wp2_with (fail)
          refine hc.mono ?_
          rintro e w5 ⟨rfl, nn, os, hw5⟩
          have HW5 := Aside0.mk hw5
          clear hw5
          go_wp2_with (fail)
          refine (hcl _).mono ?_
          rintro e w6 ⟨rfl, rfl⟩
          go_wp2_with (fail)
          go_ret
          have hw5 := HW5.out
          have hrow5 := HH.out nn os
          have hgr := grownBy_sorted (w := wr) (g := g) (n := nn) (os := os) (L.map (fun p => tl p.1)).toArray
          rw [← hw5] at hrow5 hgr
          refine ⟨_, rfl, ?_, HNX.out.grown hgr HNX.out.size (fun j hj => by cases hj; exact hbase)⟩
          exact nl_of_row HLEN.out hrow5
      · intro x c kl yd yp w2 cnt2 hkey hlk hv hat hrg2 hlt hg2 hs2 hen
        obtain ⟨x', ex, rfl, _⟩ := Maps.keyOf_str Tryz.underlying9 hkey
        obtain rfl : x = x' := encStr_inj ex
        have hrow2 := hrow.kept hg2 (Or.inr (row_ne_iter hrow hrg).symm)
        have HNX := Aside0.mk hnx
        have HHC := Aside0.mk hC
        have HHLK := Aside0.mk hlk
        have HAT := Aside0.mk hat
        have HG2 := Aside0.mk hg2
        clear hs2 hnx hC hlk hat hg2
        go_wp2_with (first
          | (at_builtin; refine wpList_append_own _ rfl _ _ 36 rfl w.heap.size 9 i0 (.string ⟨#[]⟩) 1 16 Tryz.underlying36 hi hz0 hz1 hz2 rfl (by decide) _ _ _ rfl (hrow2.alloc _) ⟨w2.heap.size, 0, none⟩ 1 1 [encStr x] rfl rfl (cell_one_new _ _ _) (by simp [Value.oneCell', encStr]) (by have := HC.out; have := HS.out; unfold maxLen at *; omega) (by have := HC.out; have := HS.out; omega) (by have := HNX.out.size; have := HG2.out.size; simp; omega) ?_; intro v' w3 hown' hg3 hnil3; go_frame)
          | go_in)
        have hrg3 := (hrg2.alloc (Obj.cells #[encStr x] 9)).kept hg3 (row_ne_low hrow2 hbl) (row_ne_iter hrow2 hrg2)
        go_roundw
        case rel =>
          refine ⟨_, cnt2, ss ++ [x], hrg3, ⟨by have := HC.out; simp; omega⟩, by simpa using hown', HHC.out.step HHLK.out HAT.out, ?_⟩
          exact ((HNX.out.grown HG2.out HNX.out.size (fun j hj => by cases hj; exact Nat.le_refl _)).alloc (by have := HNX.out.size; have := HG2.out.size; omega) _).grown hg3 (by have := HNX.out.size; have := HG2.out.size; simp; omega) (fun j hj => (hrow2.lt j hj).1)
        case measure => rw [hrg3.left_eq, hrg.left_eq]; exact hlt
end
end Go.Proofs.YtmceikfbgmcmaaaGreatDoor.D

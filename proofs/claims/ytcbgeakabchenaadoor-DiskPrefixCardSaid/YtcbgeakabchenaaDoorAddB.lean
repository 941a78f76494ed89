/- The walk of add. -/
import Derived.Test.YtcbgeakabchenaaDoorAddC
namespace Go.Proofs.YtcbgeakabchenaaDoor.D
open Go.RowKit Go.Extern.Stop Go.Stop Go.Extern Go.Proofs.YtcbgeakabchenaaDoorW.PrintWords Go.Proofs.YtcbgeakabchenaaDoorW.PrintLast Go.Proofs.YtcbgeakabchenaaDoorW.PrintMore
set_option linter.unusedVariables false
set_option linter.unusedSimpArgs false
instance (s : St) : Decidable (rawOk s) := inferInstanceAs (Decidable (¬ _))
def pieceS (s : St) (name x : ByteArray) : St := { s with L := lay s.L name (lkD s.L name ++ x), cnt := wrap64 (s.cnt + 1) }
/-- Bytes behind a file, piece by piece, as long as there is power. -/
def addF (s : St) (name r : ByteArray) : St × Bool :=
  if rawOk s then
    if r.size ≤ 32 then (pieceS s name (r.extract 0 r.size), true)
    else addF (pieceS s name (r.extract 0 32)) name (r.extract 32 r.size)
  else ({ s with dead := true }, false)
termination_by r.size
decreasing_by rw [ByteArray.size_extract]; omega
theorem lk_lay_some (L : FS) (k v : ByteArray) : (lk (lay L k v) k).isSome = true := by rw [lk_lay_same]; rfl
theorem lkD_lay (L : FS) (k v : ByteArray) : lkD (lay L k v) k = v := by unfold lkD; rw [lk_lay_same]; rfl
theorem Kp.cell {p b : Nat} {u v : World} (h : Kp p b u v) {k o : Nat} (hk : k < u.heap.size) (h1 : k ≠ p) (h2 : k ≠ b) : v.cell? ⟨k, o, none⟩ = u.cell? ⟨k, o, none⟩ := World.cell?_of_block (w := u) (a := ⟨k, o, none⟩) (h.block k hk h1 h2)
theorem Kp.frz {p b : Nat} {u v : World} (h : Kp p b u v) {k o : Nat} (hk : k < u.heap.size) (h1 : k ≠ p) (h2 : k ≠ b) : v.frozen? ⟨k, o, none⟩ = u.frozen? ⟨k, o, none⟩ := World.frozen?_of_block (w := u) (a := ⟨k, o, none⟩) (h.block k hk h1 h2)
theorem enters69 : ∀ args w, (callFunc 29 args).run Tryd.prog w = .ok (.enter 29 args) w := enters_of Tryd.func29 (by kernel_rfl) rfl
/-- One piece, written. -/
theorem piece_calls (p b : Nat) (s : St) (g3 g4 g5 g7 : Nat) (name bytes : ByteArray) (n : Nat) (w : World) (h : DK w p b s) (hr : rawOk s) (hg : (g3 ≠ p ∧ g4 ≠ p) ∧ (g5 ≠ p ∧ g7 ≠ p)) (c3 : w.cell? ⟨g3, 0, none⟩ = some (.pointer (some ⟨p, 0, none⟩))) (c4 : w.cell? ⟨g4, 0, none⟩ = some (.string name)) (c5 : w.cell? ⟨g5, 0, none⟩ = some (.string bytes)) (c7 : w.cell? ⟨g7, 0, none⟩ = some (.int .i64 n))
    (hn : n ≤ bytes.size) (hname : name.size ≤ 128) (hs : (lkD s.L name).size + n ≤ 16777216) (hl : (lk s.L name).isSome = true ∨ s.L.length < 65536) :
    Calls Tryd.prog 24 #[.pointer (some ⟨p, 0, none⟩), .func (.func 29) #[] #[.pointer (some ⟨g3, 0, none⟩), .pointer (some ⟨g4, 0, none⟩), .pointer (some ⟨g5, 0, none⟩), .pointer (some ⟨g7, 0, none⟩)]] w fun e w' => e = .returned (.tuple #[]) ∧ DK w' p b (pieceS s name (bytes.extract 0 n)) ∧ Kp p b w w' := by
  have hlen : (lay s.L name (lkD s.L name ++ bytes.extract 0 n)).length ≤ 65536 := by
    rw [lay_len _ _ _ h.2.2.1]
    have := h.2.2.2.1
    split
    · exact this
    · rename_i hh
      rcases hl with hl | hl
      · exact absurd hl hh
      · omega
  refine raw_ok p b s 29 _ (fun w' => DK w' p b (pieceS s name (bytes.extract 0 n)) ∧ Kp p b w w') w enters69 h hr (fun q => ?_)
  have ne : ∀ {g : Nat} {v : Value}, g ≠ p → ((w.drewN q).setCell ⟨p, 2, none⟩ v).cell? ⟨g, 0, none⟩ = w.cell? ⟨g, 0, none⟩ := fun {g v} hgp => World.cell?_setCell_other _ _ _ _ (fun e => by injection e with e; exact hgp e.symm)
  refine (addc_calls p b { s with cnt := wrap64 (s.cnt + 1) } g3 g4 g5 g7 name bytes n _ ((h.drew q).setCnt _) (by rw [ne hg.1.1]; exact c3) (by rw [ne hg.1.2]; exact c4) (by rw [ne hg.2.1]; exact c5) (by rw [ne hg.2.2]; exact c7) hn hname hs hlen).mono ?_
  rintro e w' ⟨rfl, hD, q2, ht⟩
  exact ⟨rfl, hD, ((((Kp.refl p b w).drew q).set _).drew q2).turned ht⟩
set_option maxHeartbeats 16000000 in
set_option maxRecDepth 100000 in
theorem add_calls (p b : Nat) (s : St) (name bytes : ByteArray) (w : World) (h : DK w p b s) (hname : name.size ≤ 128) (hs : (lkD s.L name).size + bytes.size ≤ 16777216) (hl : (lk s.L name).isSome = true ∨ s.L.length < 65536) :
    Calls Tryd.prog 20 #[.pointer (some ⟨p, 0, none⟩), .string name, .string bytes] w fun e w' => (((addF s name bytes).2 = true ∧ e = .returned (.tuple #[])) ∨ ((addF s name bytes).2 = false ∧ e = .panicked [lostE])) ∧ DK w' p b (addF s name bytes).1 ∧ Kp p b w w' := by
  have HD := Aside0.mk h
  have hp := h.lt
  have hpb := h.ltb
  have hmf : ∀ (fn : Fn) (first cap : Array Value) (w : World), (Instr.makeFunc fn first cap).run Tryd.prog w = .ok (.func fn first cap) w := fun _ _ _ _ => rfl
  clear h
  generalize htot : addF s name bytes = tot at *
  have HTOT := Aside0.mk htot
  clear htot
  go_enter Tryd.func20, Tryd.ntmps20
  go_wp2_with (fail)
  go_loopg [6] (bytes.size + 1) (fun g v6 w' => ∃ (s1 : St) (r : ByteArray) (first : Bool), g = r.size + (if first = true then 1 else 0) ∧ v6 = .bool first ∧ w'.cell? ⟨w.heap.size, 0, none⟩ = some (.pointer (some ⟨p, 0, none⟩)) ∧ w'.cell? ⟨w.heap.size + 1, 0, none⟩ = some (.string name) ∧ w'.cell? ⟨w.heap.size + 1 + 1, 0, none⟩ = some (.string r) ∧ w'.frozen? ⟨w.heap.size + 1 + 1, 0, none⟩ = false ∧ Aside0 (DK w' p b s1) ∧ Aside0 (Kp p b w w') ∧ Aside0 (w.heap.size + 3 ≤ w'.heap.size) ∧ Aside0 ((lkD s1.L name).size + r.size ≤ 16777216) ∧ Aside0 ((lk s1.L name).isSome = true ∨ s1.L.length < 65536) ∧ Aside0 (if first = true ∨ r.size ≠ 0 then addF s1 name r = tot else (s1, true) = tot))
  case atStart =>
    refine ⟨s, bytes, true, rfl, rfl, ?_, ?_, ?_, ?_, ⟨?_⟩, ⟨?_⟩, ⟨?_⟩, ⟨hs⟩, ⟨hl⟩, ⟨by rw [if_pos (.inl rfl)]; exact HTOT.out⟩⟩
    · go_simp
    · go_simp
    · go_simp
    · go_simp
    · exact HD.out.below ((((Below.refl _ _).alloc (Nat.le_refl _) _).alloc (by simp) _).alloc (by simp <;> omega) _)
    · exact Kp.of ((((Below.refl _ _).alloc (Nat.le_refl _) _).alloc (by simp) _).alloc (by simp <;> omega) _)
    · simp
  case round =>
    obtain ⟨s1, r, first, rfl, rfl, c3, c4, c5, f5, HD1, HK1, HZ1, HS1, HL1, HE1⟩ := hrel
    have hzr := HZ1.out
    by_cases hc : first = true ∨ r.size ≠ 0
    · have HE2 : Aside0 (addF s1 name r = tot) := ⟨by have := HE1.out; rw [if_pos hc] at this; exact this⟩
      clear HE1
      have hg : first = false → (r.toList == []) = false := by
        rintro rfl
        rw [ByteArray.toList_eq]
        simp only [beq_eq_false_iff_ne]
        intro h
        have e := congrArg List.length h
        rw [Array.length_toList] at e
        rcases hc with hc | hc
        · cases hc
        · exact hc e
      have hp0 : first = false → 0 < r.size := by
        rintro rfl
        rcases hc with hc | hc
        · cases hc
        · omega
      clear hc
      obtain ⟨n, hn, hmin, hnx⟩ : ∃ n : Nat, n ≤ r.size ∧ min (r.size : Int) 32 = (n : Int) ∧ ((r.size ≤ 32 → n = r.size) ∧ (¬ r.size ≤ 32 → n = 32)) := by
        by_cases h32 : r.size ≤ 32
        · exact ⟨r.size, Nat.le_refl _, by omega, fun _ => rfl, fun h => absurd h32 h⟩
        · exact ⟨32, by omega, by omega, fun h => absurd h h32, fun _ => rfl⟩
      have q1 : (0 : Int) ≤ (n : Int) := by omega
      have q2 : (n : Int) ≤ (r.size : Int) := by omega
      have q3 : (r.size : Int) ≤ (r.size : Int) := by omega
      have hA : Below wr.heap.size wr (wr.alloc (Obj.cells #[Value.int IntKind.i64 n] 3)) := (Below.refl _ _).alloc (Nat.le_refl _) _
      have a3 := pw_cell_below hA c3
      have a4 := pw_cell_below hA c4
      have a5 := pw_cell_below hA c5
      have af := (hA.frozen (p := ⟨w.heap.size + 1 + 1, 0, none⟩) (by show w.heap.size + 1 + 1 < wr.heap.size; omega)).trans f5
      have a7 : (wr.alloc (Obj.cells #[Value.int IntKind.i64 n] 3)).cell? ⟨wr.heap.size, 0, none⟩ = some (.int .i64 n) := by simp
      have HDA := Aside0.mk (HD1.out.below hA)
      clear hA
      by_cases hraw : rawOk s1
      · have HR : Aside0 (rawOk s1) := ⟨hraw⟩
        clear hraw
        cases first
        case false =>
            have hne := hg rfl
            have hp1 := hp0 rfl
            have hn0 : 0 < n := by
              by_cases h32 : r.size ≤ 32
              · have := hnx.1 h32; omega
              · have := hnx.2 h32; omega
            clear hg hp0
            go_wp2_with (fail)
            refine (piece_calls p b s1 w.heap.size (w.heap.size + 1) (w.heap.size + 1 + 1) wr.heap.size name r n _ HDA.out HR.out ⟨⟨by omega, by omega⟩, by omega, by omega⟩ a3 a4 a5 a7 hn hname (by have := HS1.out; omega) HL1.out).mono ?_
            rintro e w5 ⟨rfl, hD5, hK5⟩
            have b3 := (hK5.cell (k := w.heap.size) (o := 0) (by simp; omega) (by omega) (by omega)).trans a3
            have b4 := (hK5.cell (k := w.heap.size + 1) (o := 0) (by simp; omega) (by omega) (by omega)).trans a4
            have b5 := (hK5.cell (k := w.heap.size + 1 + 1) (o := 0) (by simp; omega) (by omega) (by omega)).trans a5
            have b7 := (hK5.cell (k := wr.heap.size) (o := 0) (by simp) (by omega) (by omega)).trans a7
            have bf := (hK5.frz (k := w.heap.size + 1 + 1) (o := 0) (by simp; omega) (by omega) (by omega)).trans af
            have hz5 : wr.heap.size + 1 ≤ w5.heap.size := by have := hK5.size; simpa using this
            have HD5 := Aside0.mk hD5
            have HK5 := Aside0.mk ((HK1.out.trans (Kp.of ((Below.refl _ _).alloc (Nat.le_refl _) (Obj.cells #[Value.int IntKind.i64 n] 3)))).trans hK5)
            clear hD5 hK5 a3 a4 a5 a7 af
            go_wp2_with (fail)
            go_roundg (r.size - n)
            case measure => first | omega | (show r.size - n < r.size + 0; omega) | (show r.size - n < r.size + 1; omega)
            case rel =>
              have hrs : (r.extract n r.size).size = r.size - n := by rw [ByteArray.size_extract]; omega
              refine ⟨pieceS s1 name (r.extract 0 n), r.extract n r.size, false, by rw [hrs]; rfl, rfl, ?_, ?_, ?_, ?_, ⟨?_⟩, ⟨?_⟩, ⟨?_⟩, ⟨?_⟩, ⟨.inl (lk_lay_some _ _ _)⟩, ⟨?_⟩⟩
              · rw [World.cell?_setCell_other _ _ _ _ (fun e => by injection e with e; omega)]; exact b3
              · rw [World.cell?_setCell_other _ _ _ _ (fun e => by injection e with e; omega)]; exact b4
              · exact World.cell?_setCell_same _ _ _ b5
              · simpa using bf
              · exact ⟨(Below.heap_setCell _ _ _ p (by show p ≠ w.heap.size + 1 + 1; omega)).trans HD5.out.1, HD5.out.2.1.kept (Below.heap_setCell _ _ _ b (by show b ≠ w.heap.size + 1 + 1; omega)), HD5.out.2.2⟩
              · have k := HK5.out
                exact ⟨k.os, k.tape, k.output, by simpa using k.size, fun i hi h1 h2 => (Below.heap_setCell _ _ _ i (by show i ≠ w.heap.size + 1 + 1; omega)).trans (k.block i hi h1 h2)⟩
              · have := HZ1.out; simp; omega
              · show (lkD (lay s1.L name (lkD s1.L name ++ r.extract 0 n)) name).size + _ ≤ _
                have hx : (r.extract 0 n).size = n := by rw [ByteArray.size_extract]; omega
                rw [lkD_lay, ByteArray.size_append, hx, hrs]
                have := HS1.out
                omega
              · have he := HE2.out
                rw [addF, if_pos HR.out] at he
                by_cases h32 : r.size ≤ 32
                · have hnr : n = r.size := hnx.1 h32
                  rw [if_neg (by rw [hrs]; simp; omega)]
                  rw [if_pos h32] at he
                  rw [hnr]
                  exact he
                · have hnr : n = 32 := hnx.2 h32
                  rw [if_pos (.inr (by rw [hrs]; omega))]
                  rw [if_neg h32] at he
                  rw [hnr]
                  exact he
        case true =>
            clear hg
            go_wp2_with (fail)
            refine (piece_calls p b s1 w.heap.size (w.heap.size + 1) (w.heap.size + 1 + 1) wr.heap.size name r n _ HDA.out HR.out ⟨⟨by omega, by omega⟩, by omega, by omega⟩ a3 a4 a5 a7 hn hname (by have := HS1.out; omega) HL1.out).mono ?_
            rintro e w5 ⟨rfl, hD5, hK5⟩
            have b3 := (hK5.cell (k := w.heap.size) (o := 0) (by simp; omega) (by omega) (by omega)).trans a3
            have b4 := (hK5.cell (k := w.heap.size + 1) (o := 0) (by simp; omega) (by omega) (by omega)).trans a4
            have b5 := (hK5.cell (k := w.heap.size + 1 + 1) (o := 0) (by simp; omega) (by omega) (by omega)).trans a5
            have b7 := (hK5.cell (k := wr.heap.size) (o := 0) (by simp) (by omega) (by omega)).trans a7
            have bf := (hK5.frz (k := w.heap.size + 1 + 1) (o := 0) (by simp; omega) (by omega) (by omega)).trans af
            have hz5 : wr.heap.size + 1 ≤ w5.heap.size := by have := hK5.size; simpa using this
            have HD5 := Aside0.mk hD5
            have HK5 := Aside0.mk ((HK1.out.trans (Kp.of ((Below.refl _ _).alloc (Nat.le_refl _) (Obj.cells #[Value.int IntKind.i64 n] 3)))).trans hK5)
            clear hD5 hK5 a3 a4 a5 a7 af
            go_wp2_with (fail)
            go_roundg (r.size - n)
            case measure => first | omega | (show r.size - n < r.size + 0; omega) | (show r.size - n < r.size + 1; omega)
            case rel =>
              have hrs : (r.extract n r.size).size = r.size - n := by rw [ByteArray.size_extract]; omega
              refine ⟨pieceS s1 name (r.extract 0 n), r.extract n r.size, false, by rw [hrs]; rfl, rfl, ?_, ?_, ?_, ?_, ⟨?_⟩, ⟨?_⟩, ⟨?_⟩, ⟨?_⟩, ⟨.inl (lk_lay_some _ _ _)⟩, ⟨?_⟩⟩
              · rw [World.cell?_setCell_other _ _ _ _ (fun e => by injection e with e; omega)]; exact b3
              · rw [World.cell?_setCell_other _ _ _ _ (fun e => by injection e with e; omega)]; exact b4
              · exact World.cell?_setCell_same _ _ _ b5
              · simpa using bf
              · exact ⟨(Below.heap_setCell _ _ _ p (by show p ≠ w.heap.size + 1 + 1; omega)).trans HD5.out.1, HD5.out.2.1.kept (Below.heap_setCell _ _ _ b (by show b ≠ w.heap.size + 1 + 1; omega)), HD5.out.2.2⟩
              · have k := HK5.out
                exact ⟨k.os, k.tape, k.output, by simpa using k.size, fun i hi h1 h2 => (Below.heap_setCell _ _ _ i (by show i ≠ w.heap.size + 1 + 1; omega)).trans (k.block i hi h1 h2)⟩
              · have := HZ1.out; simp; omega
              · show (lkD (lay s1.L name (lkD s1.L name ++ r.extract 0 n)) name).size + _ ≤ _
                have hx : (r.extract 0 n).size = n := by rw [ByteArray.size_extract]; omega
                rw [lkD_lay, ByteArray.size_append, hx, hrs]
                have := HS1.out
                omega
              · have he := HE2.out
                rw [addF, if_pos HR.out] at he
                by_cases h32 : r.size ≤ 32
                · have hnr : n = r.size := hnx.1 h32
                  rw [if_neg (by rw [hrs]; simp; omega)]
                  rw [if_pos h32] at he
                  rw [hnr]
                  exact he
                · have hnr : n = 32 := hnx.2 h32
                  rw [if_pos (.inr (by rw [hrs]; omega))]
                  rw [if_neg h32] at he
                  rw [hnr]
                  exact he
      · have h01 : 0 ≤ s1.cut ∧ s1.cut ≤ s1.cnt := Decidable.not_not.1 hraw
        cases first
        case false =>
          have hne := hg rfl
          clear hg
          go_wp2_with (fail)
          refine (raw_no p b s1 _ _ HDA.out h01.1 h01.2).mono ?_
          rintro e w5 ⟨rfl, hD5, hK5⟩
          have HD5 := Aside0.mk hD5
          have HK5 := Aside0.mk ((HK1.out.trans (Kp.of ((Below.refl _ _).alloc (Nat.le_refl _) (Obj.cells #[Value.int IntKind.i64 n] 3)))).trans hK5)
          clear hD5 hK5
          go_wp2_with (fail)
          rw [← HE2.out, addF, if_neg hraw]
          exact ⟨rfl, .inr ⟨rfl, rfl⟩, HD5.out, HK5.out⟩
        case true =>
          clear hg
          go_wp2_with (fail)
          refine (raw_no p b s1 _ _ HDA.out h01.1 h01.2).mono ?_
          rintro e w5 ⟨rfl, hD5, hK5⟩
          have HD5 := Aside0.mk hD5
          have HK5 := Aside0.mk ((HK1.out.trans (Kp.of ((Below.refl _ _).alloc (Nat.le_refl _) (Obj.cells #[Value.int IntKind.i64 n] 3)))).trans hK5)
          clear hD5 hK5
          go_wp2_with (fail)
          rw [← HE2.out, addF, if_neg hraw]
          exact ⟨rfl, .inr ⟨rfl, rfl⟩, HD5.out, HK5.out⟩
    · have hf : first = false := by cases first with | false => rfl | true => exact absurd (.inl rfl) hc
      subst hf
      have hr0 : r.size = 0 := by
        rcases Nat.eq_zero_or_pos r.size with h | h
        · exact h
        · exact absurd (.inr (by omega)) hc
      have hne : (r.toList == []) = true := by
        rw [ByteArray.toList_eq]
        have e : r.data.toList = [] := List.length_eq_zero_iff.1 (by rw [Array.length_toList]; exact hr0)
        rw [e]
        rfl
      have HE2 : Aside0 ((s1, true) = tot) := ⟨by have := HE1.out; rw [if_neg hc] at this; exact this⟩
      clear HE1 hc hr0
      go_wp2_with (fail)
      go_end0
      rw [← HE2.out]
      exact ⟨.inl ⟨rfl, rfl⟩, HD1.out, HK1.out⟩
end Go.Proofs.YtcbgeakabchenaaDoor.D

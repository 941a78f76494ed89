/- The walks of the document's own digits, ident, May and Same. -/
import Derived.Test.YthnajibbkinlkaaGreatDoorReadA
namespace Go.Proofs.YthnajibbkinlkaaGreatDoor.PV
open Go.RowKit Go.Proofs.YthnajibbkinlkaaGreatDoorW.PrintWords Go.Proofs.YthnajibbkinlkaaGreatDoorW.PrintLast Go.Proofs.YthnajibbkinlkaaGreatDoorW.PrintMore
attribute [local go_sem] max2_int min2_int max_two min_two max_three min_three max_four min_four   -- for this text's walks alone
set_option linter.unusedVariables false
set_option linter.unusedSimpArgs false

/-! The document's own functions: digits, ident. -/
theorem rbcell {W w1 : World} (hb : Below W.heap.size W w1) : (∀ b o, b < W.heap.size → w1.cell? ⟨b, o, none⟩ = W.cell? ⟨b, o, none⟩) ∧ (∀ b o, b < W.heap.size → w1.frozen? ⟨b, o, none⟩ = W.frozen? ⟨b, o, none⟩) :=
  ⟨fun b o h => hb.cell (p := ⟨b, o, none⟩) h, fun b o h => hb.frozen (p := ⟨b, o, none⟩) h⟩
set_option maxHeartbeats 8000000 in
set_option maxRecDepth 100000 in
theorem rdigits_calls (s : ByteArray) (w : World) (hs : s.size < 9223372036854775000) :
    Calls Tryz.prog 70 #[.string s] w fun e w' => e = .returned (.bool (digL s.data.toList)) ∧ Below w.heap.size w w' := by
  go_enter Tryz.func70, Tryz.ntmps70
  go_wp2
  go_loopg [3] s.size (fun g v w' => ∃ i : Nat, i ≤ s.size ∧ g = s.size - i ∧ v = .int .i64 i ∧ Aside0 (digL s.data.toList = ((s.data.toList.drop i).all dgc && decide (s.data.toList ≠ []))) ∧ Aside0 (Below w.heap.size w w'))
  case atStart => exact ⟨0, Nat.zero_le _, rfl, rfl, ⟨rfl⟩, ⟨Below.refl _ _⟩⟩
  case round =>
    obtain ⟨i, hi, rfl, rfl, HE, HB⟩ := hrel
    by_cases h1 : i < s.size
    · have he := HE.out
      rw [drop_at s i h1, List.all_cons] at he
      have hc0 := (s[i]'h1).toNat_lt
      by_cases h48 : ((s[i]'h1).toNat : Int) < 48
      · have hd : dgc (s[i]'h1) = false := decide_eq_false (by omega)
        rw [hd, Bool.false_and, Bool.false_and] at he
        have HX := Aside0.mk he
        clear he HE hd
        have f1 : decide (((s[i]'h1).toNat : Int) < 48) = true := decide_eq_true h48
        clear h48
        go_wp2
        go_ret
        exact ⟨by rw [HX.out]; rfl, HB.out⟩
      · have f1 : decide (((s[i]'h1).toNat : Int) < 48) = false := decide_eq_false h48
        by_cases h57 : 57 < ((s[i]'h1).toNat : Int)
        · have hd : dgc (s[i]'h1) = false := decide_eq_false (by omega)
          rw [hd, Bool.false_and, Bool.false_and] at he
          have HX := Aside0.mk he
          clear he HE hd h48
          have f2 : decide (57 < ((s[i]'h1).toNat : Int)) = true := decide_eq_true h57
          clear h57
          go_wp2
          go_ret
          exact ⟨by rw [HX.out]; rfl, HB.out⟩
        · have hd : dgc (s[i]'h1) = true := decide_eq_true (by omega)
          rw [hd, Bool.true_and] at he
          have HX := Aside0.mk he
          clear he HE hd h48
          have f2 : decide (57 < ((s[i]'h1).toNat : Int)) = false := decide_eq_false h57
          clear h57
          go_wp2
          go_roundg (s.size - (i + 1))
          case measure => omega
          case rel => exact ⟨i + 1, by omega, rfl, by simp, HX, HB⟩
    · have hi' : i = s.size := by omega
      subst hi'
      have he := HE.out
      rw [List.drop_eq_nil_of_le (by rw [size_len]; omega), List.all_nil, Bool.true_and, ← bne_nil] at he
      have HX := Aside0.mk he
      clear he HE
      go_wp2
      go_ret
      exact ⟨by rw [HX.out, ← ByteArray.toList_eq]; cases s.toList <;> rfl, HB.out⟩
set_option maxHeartbeats 8000000 in
set_option maxRecDepth 100000 in
theorem rident_calls (s : ByteArray) (w : World) :
    Calls Tryz.prog 71 #[.string s] w fun e w' => e = .returned (.bool (identB s)) ∧ Below w.heap.size w w' := by
  by_cases h0 : s.size < 1
  case pos =>
    have hf : identB s = false := by unfold identB identL; rw [decide_eq_false (by rw [size_len]; omega)]; rfl
    rw [hf]
    clear hf
    go_enter Tryz.func71, Tryz.ntmps71
    go_wp2
    go_ret
    exact ⟨rfl, by repeat (first | exact Below.refl _ _ | exact HB9.out | exact HB8.out | exact HB7.out | exact HB6.out | exact HB5.out | exact HB4.out | exact HB3.out | exact HB2.out | exact HB1.out | exact HB.out | (refine Below.alloc ?_ (by first | exact HB9.out.size | exact HB8.out.size | exact HB7.out.size | exact HB6.out.size | exact HB5.out.size | exact HB4.out.size | exact HB3.out.size | exact HB2.out.size | exact HB1.out.size | exact HB.out.size | (simp; done) | (simp <;> omega)) _) | apply pw_below_drewN | (refine Below.setCell ?_ (by first | (simp; done) | (simp <;> omega) | omega) _))⟩
  by_cases h16 : 16 < s.size
  case pos =>
    have hf : identB s = false := by unfold identB identL; rw [decide_eq_false (by rw [size_len]; omega)]; rfl
    rw [hf]
    clear hf
    go_enter Tryz.func71, Tryz.ntmps71
    go_wp2
    go_ret
    exact ⟨rfl, by repeat (first | exact Below.refl _ _ | exact HB9.out | exact HB8.out | exact HB7.out | exact HB6.out | exact HB5.out | exact HB4.out | exact HB3.out | exact HB2.out | exact HB1.out | exact HB.out | (refine Below.alloc ?_ (by first | exact HB9.out.size | exact HB8.out.size | exact HB7.out.size | exact HB6.out.size | exact HB5.out.size | exact HB4.out.size | exact HB3.out.size | exact HB2.out.size | exact HB1.out.size | exact HB.out.size | (simp; done) | (simp <;> omega)) _) | apply pw_below_drewN | (refine Below.setCell ?_ (by first | (simp; done) | (simp <;> omega) | omega) _))⟩
  have hE : identB s = (s.data.toList.all idc && (!digL s.data.toList || plainL s.data.toList)) := by
    show (decide _ && _) = _
    rw [decide_eq_true (by rw [size_len]; omega), Bool.true_and]
  have HE0 := Aside0.mk hE
  clear hE
  generalize hr : identB s = r at HE0
  clear hr
  go_enter Tryz.func71, Tryz.ntmps71
  go_wp2
  go_loopg [3] s.size (fun g v w' => ∃ i : Nat, i ≤ s.size ∧ g = s.size - i ∧ v = .int .i64 i ∧ Aside0 (r = ((s.data.toList.drop i).all idc && (!digL s.data.toList || plainL s.data.toList))) ∧ Aside0 (Below w.heap.size w w'))
  case atStart => exact ⟨0, Nat.zero_le _, rfl, rfl, ⟨HE0.out⟩, ⟨Below.refl _ _⟩⟩
  case round =>
    clear HE0
    obtain ⟨i, hi, rfl, rfl, HE, HB⟩ := hrel
    by_cases h1 : i < s.size
    · have he := HE.out
      rw [drop_at s i h1, List.all_cons] at he
      by_cases hd : idc (s[i]'h1) = true
      · have hd2 := of_decide_eq_true hd
        rw [hd, Bool.true_and] at he
        have HX := Aside0.mk he
        clear he HE hd
        rcases hd2 with hd2 | hd2 | hd2
        · have f1 : decide (((s[i]'h1).toNat : Int) < 48) = false := decide_eq_false (by omega)
          have f2 : decide (57 < ((s[i]'h1).toNat : Int)) = false := decide_eq_false (by omega)
          clear hd2
          go_wp2
          go_roundg (s.size - (i + 1))
          case measure => omega
          case rel => exact ⟨i + 1, by omega, rfl, by simp, HX, HB⟩
        · have f1 : decide (((s[i]'h1).toNat : Int) < 48) = false := decide_eq_false (by omega)
          have f2 : decide (57 < ((s[i]'h1).toNat : Int)) = true := decide_eq_true (by omega)
          have f3 : decide (((s[i]'h1).toNat : Int) < 97) = false := decide_eq_false (by omega)
          have f4 : decide (122 < ((s[i]'h1).toNat : Int)) = false := decide_eq_false (by omega)
          clear hd2
          go_wp2
          go_roundg (s.size - (i + 1))
          case measure => omega
          case rel => exact ⟨i + 1, by omega, rfl, by simp, HX, HB⟩
        · have f1 : decide (((s[i]'h1).toNat : Int) < 48) = true := decide_eq_true (by omega)
          have f3 : decide (((s[i]'h1).toNat : Int) < 97) = true := decide_eq_true (by omega)
          have f5 : (((s[i]'h1).toNat : Int) != 45) = false := bne_eq_false_iff_eq.2 hd2
          have f6 : (((s[i]'h1).toNat : Int) == 45) = true := beq_iff_eq.2 hd2
          clear hd2
          go_wp2
          go_roundg (s.size - (i + 1))
          case measure => omega
          case rel => exact ⟨i + 1, by omega, rfl, by simp, HX, HB⟩
      · have hd := Bool.eq_false_iff.2 hd
        rw [hd, Bool.false_and, Bool.false_and] at he
        have HX := Aside0.mk he
        have hd2 := of_decide_eq_false hd
        clear he HE hd
        have f5 : (((s[i]'h1).toNat : Int) != 45) = true := bne_iff_ne.2 (by omega)
        have f6 : (((s[i]'h1).toNat : Int) == 45) = false := beq_eq_false_iff_ne.2 (by omega)
        by_cases h48 : ((s[i]'h1).toNat : Int) < 48
        · have f1 : decide (((s[i]'h1).toNat : Int) < 48) = true := decide_eq_true h48
          have f3 : decide (((s[i]'h1).toNat : Int) < 97) = true := decide_eq_true (by omega)
          clear hd2 h48
          go_wp2
          go_ret
          exact ⟨by rw [HX.out]; rfl, HB.out⟩
        · have f1 : decide (((s[i]'h1).toNat : Int) < 48) = false := decide_eq_false h48
          have f2 : decide (57 < ((s[i]'h1).toNat : Int)) = true := decide_eq_true (by omega)
          by_cases h97 : ((s[i]'h1).toNat : Int) < 97
          · have f3 : decide (((s[i]'h1).toNat : Int) < 97) = true := decide_eq_true h97
            clear hd2 h48 h97
            go_wp2
            go_ret
            exact ⟨by rw [HX.out]; rfl, HB.out⟩
          · have f3 : decide (((s[i]'h1).toNat : Int) < 97) = false := decide_eq_false h97
            have f4 : decide (122 < ((s[i]'h1).toNat : Int)) = true := decide_eq_true (by omega)
            clear hd2 h48 h97
            go_wp2
            go_ret
            exact ⟨by rw [HX.out]; rfl, HB.out⟩
    · have hi' : i = s.size := by omega
      subst hi'
      have he := HE.out
      rw [List.drop_eq_nil_of_le (by rw [size_len]; omega), List.all_nil, Bool.true_and] at he
      have HX := Aside0.mk he
      clear he HE h1 hi
      have hpos : 0 < s.size := by omega
      by_cases hdg : digL s.data.toList = true
      · rw [hdg] at HX
        have hh := head_at s hpos
        by_cases h48 : ((s[0]'hpos).toNat : Int) = 48
        · have hc : (s[0]'hpos) = 48 := by
            apply UInt8.toNat_inj.1
            have : ((48 : UInt8).toNat : Int) = 48 := rfl
            omega
          by_cases hs1 : s.size = 1
          · have hl : s.toList = [48] := by
              rw [ByteArray.toList_eq]
              have := drop_at s 0 hpos
              rw [List.drop_zero, hc, List.drop_eq_nil_of_le (by rw [size_len]; omega)] at this
              exact this
            have hpl : plainL s.data.toList = true := by unfold plainL; rw [size_len, decide_eq_true hs1]; rfl
            rw [hpl] at HX
            have hq : (s.toList == [48]) = true := by rw [hl]; rfl
            clear hl hpl hh hc
            go_wp2_with (go_at_call 70; refine (rdigits_calls _ _ (by omega)).mono ?_; rintro e w1 ⟨rfl, hb1⟩)
            go_ret
            exact ⟨by rw [HX.out]; first | rfl | (simp [h48]; done), below_step HB.out hb1⟩
          · have hpl : plainL s.data.toList = false := by unfold plainL; rw [size_len, decide_eq_false hs1, hh, hc]; rfl
            rw [hpl] at HX
            have hq : (s.toList == [48]) = false := by
              rw [beq_eq_false_iff_ne]
              intro h
              apply hs1
              rw [← size_len, ← ByteArray.toList_eq, h]; rfl
            clear hpl hh hc
            go_wp2_with (go_at_call 70; refine (rdigits_calls _ _ (by omega)).mono ?_; rintro e w1 ⟨rfl, hb1⟩)
            go_ret
            exact ⟨by rw [HX.out]; first | rfl | (simp [h48]; done), below_step HB.out hb1⟩
        · have hc : (s[0]'hpos) ≠ 48 := by
            intro h
            apply h48
            rw [h]; rfl
          have hpl : plainL s.data.toList = true := by
            unfold plainL
            rw [hh, Bool.or_eq_true]
            right
            rw [decide_eq_true_eq]
            exact fun h => hc (Option.some.inj h)
          rw [hpl] at HX
          have hq : (s.toList == [48]) = false := by
            rw [beq_eq_false_iff_ne]
            intro h
            rw [ByteArray.toList_eq] at h
            rw [h] at hh
            exact hc (Option.some.inj hh).symm
          clear hpl hh hc
          go_wp2_with (go_at_call 70; refine (rdigits_calls _ _ (by omega)).mono ?_; rintro e w1 ⟨rfl, hb1⟩)
          go_ret
          exact ⟨by rw [HX.out]; first | rfl | (simp [h48]; done), below_step HB.out hb1⟩
      · have hdg := Bool.eq_false_iff.2 hdg
        rw [hdg] at HX
        go_wp2_with (go_at_call 70; refine (rdigits_calls _ _ (by omega)).mono ?_; rintro e w1 ⟨rfl, hb1⟩)
        go_ret
        exact ⟨by rw [HX.out]; rfl, below_step HB.out hb1⟩
set_option maxHeartbeats 8000000 in
set_option maxRecDepth 100000 in
theorem rmay_calls (a b c : Int) (A : Option Addr) (cA : Nat) (l : List ByteArray) (w : World) (hA : Kd.C Kd.string w A l.length l) (hcA : l.length ≤ cA) (hl : l.length ≤ 9223372036854775807) :
    Calls Tryz.prog 53 #[.agg #[.int .u32 a, .int .u32 b, .int .u32 c, .slice A l.length cA]] w fun e w' => e = .returned (.bool (mayV a b c l)) ∧ Below w.heap.size w w' := by
  by_cases h1 : 2147483647 < a
  case pos =>
    have hf : mayV a b c l = false := by unfold mayV; rw [decide_eq_false (by omega)]; rfl
    rw [hf]
    clear hf
    go_enter Tryz.func53, Tryz.ntmps53
    go_wp2
    go_ret
    exact ⟨rfl, by repeat (first | exact Below.refl _ _ | exact HB9.out | exact HB8.out | exact HB7.out | exact HB6.out | exact HB5.out | exact HB4.out | exact HB3.out | exact HB2.out | exact HB1.out | exact HB.out | (refine Below.alloc ?_ (by first | exact HB9.out.size | exact HB8.out.size | exact HB7.out.size | exact HB6.out.size | exact HB5.out.size | exact HB4.out.size | exact HB3.out.size | exact HB2.out.size | exact HB1.out.size | exact HB.out.size | (simp; done) | (simp <;> omega)) _) | apply pw_below_drewN | (refine Below.setCell ?_ (by first | (simp; done) | (simp <;> omega) | omega) _))⟩
  by_cases h2 : 2147483647 < b
  case pos =>
    have hf : mayV a b c l = false := by unfold mayV; rw [decide_eq_false (by omega)]; rfl
    rw [hf]
    clear hf
    go_enter Tryz.func53, Tryz.ntmps53
    go_wp2
    go_ret
    exact ⟨rfl, by repeat (first | exact Below.refl _ _ | exact HB9.out | exact HB8.out | exact HB7.out | exact HB6.out | exact HB5.out | exact HB4.out | exact HB3.out | exact HB2.out | exact HB1.out | exact HB.out | (refine Below.alloc ?_ (by first | exact HB9.out.size | exact HB8.out.size | exact HB7.out.size | exact HB6.out.size | exact HB5.out.size | exact HB4.out.size | exact HB3.out.size | exact HB2.out.size | exact HB1.out.size | exact HB.out.size | (simp; done) | (simp <;> omega)) _) | apply pw_below_drewN | (refine Below.setCell ?_ (by first | (simp; done) | (simp <;> omega) | omega) _))⟩
  by_cases h3 : 2147483647 < c
  case pos =>
    have hf : mayV a b c l = false := by unfold mayV; rw [decide_eq_false (by omega)]; rfl
    rw [hf]
    clear hf
    go_enter Tryz.func53, Tryz.ntmps53
    go_wp2
    go_ret
    exact ⟨rfl, by repeat (first | exact Below.refl _ _ | exact HB9.out | exact HB8.out | exact HB7.out | exact HB6.out | exact HB5.out | exact HB4.out | exact HB3.out | exact HB2.out | exact HB1.out | exact HB.out | (refine Below.alloc ?_ (by first | exact HB9.out.size | exact HB8.out.size | exact HB7.out.size | exact HB6.out.size | exact HB5.out.size | exact HB4.out.size | exact HB3.out.size | exact HB2.out.size | exact HB1.out.size | exact HB.out.size | (simp; done) | (simp <;> omega)) _) | apply pw_below_drewN | (refine Below.setCell ?_ (by first | (simp; done) | (simp <;> omega) | omega) _))⟩
  by_cases h8 : 8 < l.length
  case pos =>
    have hf : mayV a b c l = false := by unfold mayV; rw [decide_eq_false (by omega)]; rfl
    rw [hf]
    clear hf
    go_enter Tryz.func53, Tryz.ntmps53
    go_wp2
    go_ret
    exact ⟨rfl, by repeat (first | exact Below.refl _ _ | exact HB9.out | exact HB8.out | exact HB7.out | exact HB6.out | exact HB5.out | exact HB4.out | exact HB3.out | exact HB2.out | exact HB1.out | exact HB.out | (refine Below.alloc ?_ (by first | exact HB9.out.size | exact HB8.out.size | exact HB7.out.size | exact HB6.out.size | exact HB5.out.size | exact HB4.out.size | exact HB3.out.size | exact HB2.out.size | exact HB1.out.size | exact HB.out.size | (simp; done) | (simp <;> omega)) _) | apply pw_below_drewN | (refine Below.setCell ?_ (by first | (simp; done) | (simp <;> omega) | omega) _))⟩
  have hf : mayV a b c l = l.all identB := by unfold mayV; rw [decide_eq_true (by omega), Bool.true_and]
  rw [hf]
  clear hf
  by_cases h0 : l = []
  case pos =>
    subst h0
    go_enter Tryz.func53, Tryz.ntmps53
    go_wp2
    refine wp_loop_rounds 2 ?_
    rw [rounds_succ]
    go_wp2
    go_ret
    exact ⟨rfl, by repeat (first | exact Below.refl _ _ | exact HB9.out | exact HB8.out | exact HB7.out | exact HB6.out | exact HB5.out | exact HB4.out | exact HB3.out | exact HB2.out | exact HB1.out | exact HB.out | (refine Below.alloc ?_ (by first | exact HB9.out.size | exact HB8.out.size | exact HB7.out.size | exact HB6.out.size | exact HB5.out.size | exact HB4.out.size | exact HB3.out.size | exact HB2.out.size | exact HB1.out.size | exact HB.out.size | (simp; done) | (simp <;> omega)) _) | apply pw_below_drewN | (refine Below.setCell ?_ (by first | (simp; done) | (simp <;> omega) | omega) _))⟩
  obtain ⟨bk, off, rfl, hc0⟩ := C_cells hA (List.length_pos_iff.2 h0)
  have HC := Aside0.mk hc0
  clear hA hc0
  generalize hr : l.all identB = r
  have HR := Aside0.mk hr
  clear hr
  go_enter Tryz.func53, Tryz.ntmps53
  go_wp2
  go_loopg [3] l.length (fun g v w' => ∃ i : Nat, i ≤ l.length ∧ g = l.length - i ∧ v = .int .i64 i ∧ Aside0 ((l.drop i).all identB = r) ∧ Aside0 (Below w.heap.size w w') ∧ w.heap.size < w'.heap.size ∧ w'.cell? ⟨w.heap.size, 3, none⟩ = some (.slice (some ⟨bk, off, none⟩) l.length cA))
  case atStart => exact ⟨0, Nat.zero_le _, rfl, rfl, ⟨HR.out⟩, ⟨by repeat (first | exact Below.refl _ _ | exact HB9.out | exact HB8.out | exact HB7.out | exact HB6.out | exact HB5.out | exact HB4.out | exact HB3.out | exact HB2.out | exact HB1.out | exact HB.out | (refine Below.alloc ?_ (by first | exact HB9.out.size | exact HB8.out.size | exact HB7.out.size | exact HB6.out.size | exact HB5.out.size | exact HB4.out.size | exact HB3.out.size | exact HB2.out.size | exact HB1.out.size | exact HB.out.size | (simp; done) | (simp <;> omega)) _) | apply pw_below_drewN | (refine Below.setCell ?_ (by first | (simp; done) | (simp <;> omega) | omega) _))⟩, by simp, by go_simp⟩
  case round =>
    clear HR
    obtain ⟨i, hi, rfl, rfl, HE, HB, hlt, hq⟩ := hrel
    by_cases h1 : i < l.length
    · have hcell : wr.cell? ⟨bk, off + i, none⟩ = some (.string (l[i]'h1)) := (HB.out.cell (World.block_lt_of_cell? w _ (HC.out i h1))).trans (HC.out i h1)
      have he := HE.out
      rw [List.drop_eq_getElem_cons h1, List.all_cons] at he
      generalize (l[i]'h1) = x at hcell he
      cases hid : identB x
      · rw [hid, Bool.false_and] at he
        subst he
        go_wp2_with (go_at_call 71; refine (rident_calls _ _).mono ?_; rintro e w1 ⟨rfl, hb1⟩)
        go_ret
        exact ⟨rfl, below_step HB.out hb1⟩
      · rw [hid, Bool.true_and] at he
        have HX := Aside0.mk he
        clear he HE
        go_wp2_with (go_at_call 71; refine (rident_calls _ _).mono ?_; rintro e w1 ⟨rfl, hb1⟩)
        go_roundg (l.length - (i + 1))
        case measure => omega
        case rel => exact ⟨i + 1, by omega, rfl, by simp, HX, ⟨below_step HB.out hb1⟩, by have := hb1.size; omega, ((rbcell hb1).1 _ _ hlt).trans hq⟩
    · have hi' : i = l.length := by omega
      subst hi'
      have he := HE.out
      rw [List.drop_length] at he
      have HX := Aside0.mk he
      clear he HE
      go_wp2
      go_ret
      exact ⟨by rw [← HX.out]; rfl, HB.out⟩
def sameV (a b c : Int) (l : List ByteArray) (a' b' c' : Int) (l' : List ByteArray) : Bool := decide (a = a' ∧ b = b' ∧ c = c' ∧ l = l')
end Go.Proofs.YthnajibbkinlkaaGreatDoor.PV

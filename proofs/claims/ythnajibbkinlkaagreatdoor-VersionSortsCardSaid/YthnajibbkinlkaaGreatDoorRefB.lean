/- The walks of the document's own order: cmp, order, Cmp. -/
import Derived.Test.YthnajibbkinlkaaGreatDoorRefA
import Derived.Test.YthnajibbkinlkaaGreatDoorPlainA
import Derived.Laws.BitsLemmas
namespace Go.Proofs.YthnajibbkinlkaaGreatDoor.PV
open Go.RowKit Go.Proofs.YthnajibbkinlkaaGreatDoorW.PrintWords Go.Proofs.YthnajibbkinlkaaGreatDoorW.PrintLast Go.Proofs.YthnajibbkinlkaaGreatDoorW.PrintMore
attribute [local go_sem] max2_int min2_int max_two min_two max_three min_three max_four min_four   -- for this text's walks alone
set_option linter.unusedVariables false
set_option linter.unusedSimpArgs false

set_option maxHeartbeats 8000000 in
set_option maxRecDepth 100000 in
theorem rdigits0_calls (s : ByteArray) (w : World) (hs : s.size < 9223372036854775000) :
    Calls Tryz.prog 70 #[.string s] w fun e w' => e = .returned (.bool (digL s.data.toList)) ∧ w = w' := by
  go_enter Tryz.func70, Tryz.ntmps70
  go_wp2
  go_loopg [3] s.size (fun g v w' => ∃ i : Nat, i ≤ s.size ∧ g = s.size - i ∧ v = .int .i64 i ∧ Aside0 (digL s.data.toList = ((s.data.toList.drop i).all dgc && decide (s.data.toList ≠ []))) ∧ w = w')
  case atStart => exact ⟨0, Nat.zero_le _, rfl, rfl, ⟨rfl⟩, rfl⟩
  case round =>
    obtain ⟨i, hi, rfl, rfl, HE, rfl⟩ := hrel
    by_cases h1 : i < s.size
    · have he := HE.out
      rw [drop_at s i h1, List.all_cons] at he
      have hc0 := (s[i]'h1).toNat_lt
      by_cases h48 : ((s[i]'h1).toNat : Int) < 48
      · have hd : dgc (s[i]'h1) = false := decide_eq_false (by omega)
        rw [hd, Bool.false_and, Bool.false_and] at he
        have HX := Aside0.mk he
        clear he HE hd
        have f1 : decide (((s[i]'h1).toNat : Int) < 48) = true := decide_eq_true h48
        clear h48
        go_wp2
        go_ret
        exact ⟨by rw [HX.out]; rfl, rfl⟩
      · have f1 : decide (((s[i]'h1).toNat : Int) < 48) = false := decide_eq_false h48
        by_cases h57 : 57 < ((s[i]'h1).toNat : Int)
        · have hd : dgc (s[i]'h1) = false := decide_eq_false (by omega)
          rw [hd, Bool.false_and, Bool.false_and] at he
          have HX := Aside0.mk he
          clear he HE hd h48
          have f2 : decide (57 < ((s[i]'h1).toNat : Int)) = true := decide_eq_true h57
          clear h57
          go_wp2
          go_ret
          exact ⟨by rw [HX.out]; rfl, rfl⟩
        · have hd : dgc (s[i]'h1) = true := decide_eq_true (by omega)
          rw [hd, Bool.true_and] at he
          have HX := Aside0.mk he
          clear he HE hd h48
          have f2 : decide (57 < ((s[i]'h1).toNat : Int)) = false := decide_eq_false h57
          clear h57
          go_wp2
          go_roundg (s.size - (i + 1))
          case measure => omega
          case rel => exact ⟨i + 1, by omega, rfl, by simp, HX, rfl⟩
    · have hi' : i = s.size := by omega
      subst hi'
      have he := HE.out
      rw [List.drop_eq_nil_of_le (by rw [size_len]; omega), List.all_nil, Bool.true_and, ← bne_nil] at he
      have HX := Aside0.mk he
      clear he HE
      go_wp2
      go_ret
      exact ⟨by rw [HX.out, ← ByteArray.toList_eq]; cases s.toList <;> rfl, rfl⟩
/-! The document's own order. -/
set_option maxHeartbeats 8000000 in
set_option maxRecDepth 100000 in
theorem rcmp_calls (a b : Int) (w : World) : Calls Tryz.prog 54 #[.int .u32 a, .int .u32 b] w fun e w' => e = .returned (.int .i64 (cmp3 a b)) ∧ w = w' := by
  unfold cmp3
  by_cases h1 : a < b
  · rw [if_pos h1]
    go_enter Tryz.func54, Tryz.ntmps54
    go_wp2
    go_ret
    exact ⟨rfl, rfl⟩
  · rw [if_neg h1]
    by_cases h2 : b < a
    · rw [if_pos h2]
      go_enter Tryz.func54, Tryz.ntmps54
      go_wp2
      go_ret
      exact ⟨rfl, rfl⟩
    · rw [if_neg h2]
      go_enter Tryz.func54, Tryz.ntmps54
      go_wp2
      go_ret
      exact ⟨rfl, rfl⟩
theorem ordV_self (a : ByteArray) : ordV a a = 0 := (to_ordV.zero a a).2 rfl
theorem less_or {a b : ByteArray} (h : a ≠ b) (h1 : Op.bytesLess a.toList b.toList = false) : Op.bytesLess b.toList a.toList = true := by
  rw [← less_flip, h1, Bool.false_or]
  have : (a.toList == b.toList) = false := by
    rw [beq_eq_false_iff_ne]
    exact fun e => h (toL_inj e)
  rw [this]; rfl
theorem cmpB_ne {a b : ByteArray} (h : a ≠ b) : cmpB a b = if Op.bytesLess a.toList b.toList = true then -1 else 1 := by
  unfold cmpB
  by_cases h1 : Op.bytesLess a.toList b.toList = true
  · rw [if_pos h1, if_pos h1]
  · rw [if_neg h1, if_neg h1, if_pos (less_or h (by simpa using h1))]
set_option maxHeartbeats 8000000 in
set_option maxRecDepth 100000 in
theorem rorder_calls (a b : ByteArray) (ha : a.size < 9223372036854775000) (hb : b.size < 9223372036854775000) (w : World) :
    Calls Tryz.prog 55 #[.string a, .string b] w fun e w' => e = .returned (.int .i64 (ordV a b)) ∧ w = w' := by
  by_cases heq : a = b
  case pos =>
    subst heq
    rw [ordV_self]
    have hq : (a.toList == a.toList) = true := beq_self_eq_true _
    go_enter Tryz.func55, Tryz.ntmps55
    go_wp2
    go_ret
    exact ⟨rfl, rfl⟩
  have hq : (a.toList == b.toList) = false := by
    rw [beq_eq_false_iff_ne]
    exact fun e => heq (toL_inj e)
  unfold ordV
  rw [cmpB_ne heq]
  clear heq
  cases ea : digL a.data.toList <;> cases eb : digL b.data.toList
  · rw [if_neg (by decide), if_neg (by decide)]
    cases hl : Op.bytesLess a.toList b.toList
    all_goals
      go_enter Tryz.func55, Tryz.ntmps55
      go_wp2_with (go_at_call 70; refine (rdigits0_calls _ _ (by assumption)).mono ?_; rintro e w1 ⟨rfl, rfl⟩)
      go_ret
      exact ⟨rfl, rfl⟩
  · rw [if_neg (by decide), if_pos rfl]
    go_enter Tryz.func55, Tryz.ntmps55
    go_wp2_with (go_at_call 70; refine (rdigits0_calls _ _ (by assumption)).mono ?_; rintro e w1 ⟨rfl, rfl⟩)
    go_ret
    exact ⟨rfl, rfl⟩
  · rw [if_pos rfl, if_neg (by decide)]
    go_enter Tryz.func55, Tryz.ntmps55
    go_wp2_with (go_at_call 70; refine (rdigits0_calls _ _ (by assumption)).mono ?_; rintro e w1 ⟨rfl, rfl⟩)
    go_ret
    exact ⟨rfl, rfl⟩
  · rw [if_pos rfl, if_pos rfl]
    by_cases hlt : a.size < b.size
    · have hc : cmp3 (a.size : Int) (b.size : Int) = -1 := by unfold cmp3; rw [if_pos (by omega)]
      rw [hc, if_pos (by decide)]
      have hn : ((a.size : Int) != (b.size : Int)) = true := bne_iff_ne.2 (by omega)
      go_enter Tryz.func55, Tryz.ntmps55
      go_wp2_with (go_at_call 70; refine (rdigits0_calls _ _ (by assumption)).mono ?_; rintro e w1 ⟨rfl, rfl⟩)
      go_ret
      exact ⟨rfl, rfl⟩
    by_cases hgt : b.size < a.size
    · have hc : cmp3 (a.size : Int) (b.size : Int) = 1 := by unfold cmp3; rw [if_neg (by omega), if_pos (by omega)]
      rw [hc, if_pos (by decide)]
      have hn : ((a.size : Int) != (b.size : Int)) = true := bne_iff_ne.2 (by omega)
      go_enter Tryz.func55, Tryz.ntmps55
      go_wp2_with (go_at_call 70; refine (rdigits0_calls _ _ (by assumption)).mono ?_; rintro e w1 ⟨rfl, rfl⟩)
      go_ret
      exact ⟨rfl, rfl⟩
    have hc : cmp3 (a.size : Int) (b.size : Int) = 0 := by unfold cmp3; rw [if_neg (by omega), if_neg (by omega)]
    rw [hc, if_neg (by decide)]
    have hn : ((a.size : Int) != (b.size : Int)) = false := bne_eq_false_iff_eq.2 (by omega)
    cases hl : Op.bytesLess a.toList b.toList
    all_goals
      go_enter Tryz.func55, Tryz.ntmps55
      go_wp2_with (go_at_call 70; refine (rdigits0_calls _ _ (by assumption)).mono ?_; rintro e w1 ⟨rfl, rfl⟩)
      go_ret
      exact ⟨rfl, rfl⟩
theorem rorder_same (a b : ByteArray) (ha : a.size < 9223372036854775000) (hb : b.size < 9223372036854775000) (w : World) :
    Calls Tryz.prog 55 #[.string a, .string b] w fun e w' => e = .returned (.int .i64 (ordV a b)) ∧ w' = w := (rorder_calls a b ha hb w).mono fun _ _ h => ⟨h.1, h.2.symm⟩
theorem cmpL_l (l m : List ByteArray) (i : Nat) (h : l.length = i) (hm : i ≤ m.length) : cmpL (l.drop i) (m.drop i) = cmp3 (l.length : Int) (m.length : Int) := by
  rw [← h, List.drop_length]
  unfold cmp3
  by_cases h1 : l.length < m.length
  · rw [if_pos (by omega), List.drop_eq_getElem_cons h1]; rfl
  · rw [if_neg (by omega), if_neg (by omega), List.drop_eq_nil_of_le (by omega)]; rfl
theorem cmpL_r (l m : List ByteArray) (i : Nat) (h : m.length = i) (hm : i < l.length) : cmpL (l.drop i) (m.drop i) = cmp3 (l.length : Int) (m.length : Int) := by
  rw [← h, List.drop_length]
  unfold cmp3
  rw [if_neg (by omega), if_pos (by omega), List.drop_eq_getElem_cons (by omega)]; rfl
set_option maxHeartbeats 8000000 in
set_option maxRecDepth 100000 in
theorem rCmp_calls (a b c : Int) (A : Option Addr) (cA : Nat) (l : List ByteArray) (a' b' c' : Int) (B : Option Addr) (cB : Nat) (m : List ByteArray) (w : World) (hA : Kd.C Kd.string w A l.length l) (hB : Kd.C Kd.string w B m.length m) (hl : l.length ≤ 200) (hm : m.length ≤ 200) (hls : ∀ x ∈ l, x.size ≤ 128) (hms : ∀ x ∈ m, x.size ≤ 128) :
    Calls Tryz.prog 28 #[.agg #[.int .u32 a, .int .u32 b, .int .u32 c, .slice A l.length cA], .agg #[.int .u32 a', .int .u32 b', .int .u32 c', .slice B m.length cB]] w fun e w' => e = .returned (.int .i64 (cmpV a b c l a' b' c' m)) ∧ Below w.heap.size w w' := by
  by_cases h1 : cmp3 a a' = 0
  case neg =>
    have hf : cmpV a b c l a' b' c' m = cmp3 a a' := by
      have : cmpO (cmp3 a a') (cmp3 b b') (cmp3 c c') = cmp3 a a' := by unfold cmpO; rw [if_pos h1]
      unfold cmpV; rw [this, if_pos h1]
    rw [hf]
    clear hf
    go_enter Tryz.func28, Tryz.ntmps28
    go_wp2_with (go_at_call 54; refine (rcmp_calls _ _ _).mono ?_; rintro e w1 ⟨rfl, rfl⟩)
    go_ret
    exact ⟨rfl, by repeat (first | exact Below.refl _ _ | exact HB9.out | exact HB8.out | exact HB7.out | exact HB6.out | exact HB5.out | exact HB4.out | exact HB3.out | exact HB2.out | exact HB1.out | exact HB.out | (refine Below.alloc ?_ (by first | exact HB9.out.size | exact HB8.out.size | exact HB7.out.size | exact HB6.out.size | exact HB5.out.size | exact HB4.out.size | exact HB3.out.size | exact HB2.out.size | exact HB1.out.size | exact HB.out.size | (simp; done) | (simp <;> omega)) _) | apply pw_below_drewN | (refine Below.setCell ?_ (by first | (simp; done) | (simp <;> omega) | omega) _))⟩
  by_cases h2 : cmp3 b b' = 0
  case neg =>
    have hf : cmpV a b c l a' b' c' m = cmp3 b b' := by
      have : cmpO (cmp3 a a') (cmp3 b b') (cmp3 c c') = cmp3 b b' := by unfold cmpO; rw [if_neg (by simpa using h1), if_pos h2]
      unfold cmpV; rw [this, if_pos h2]
    rw [hf]
    clear hf
    go_enter Tryz.func28, Tryz.ntmps28
    go_wp2_with (go_at_call 54; refine (rcmp_calls _ _ _).mono ?_; rintro e w1 ⟨rfl, rfl⟩)
    go_ret
    exact ⟨rfl, by repeat (first | exact Below.refl _ _ | exact HB9.out | exact HB8.out | exact HB7.out | exact HB6.out | exact HB5.out | exact HB4.out | exact HB3.out | exact HB2.out | exact HB1.out | exact HB.out | (refine Below.alloc ?_ (by first | exact HB9.out.size | exact HB8.out.size | exact HB7.out.size | exact HB6.out.size | exact HB5.out.size | exact HB4.out.size | exact HB3.out.size | exact HB2.out.size | exact HB1.out.size | exact HB.out.size | (simp; done) | (simp <;> omega)) _) | apply pw_below_drewN | (refine Below.setCell ?_ (by first | (simp; done) | (simp <;> omega) | omega) _))⟩
  by_cases h3 : cmp3 c c' = 0
  case neg =>
    have hf : cmpV a b c l a' b' c' m = cmp3 c c' := by
      have : cmpO (cmp3 a a') (cmp3 b b') (cmp3 c c') = cmp3 c c' := by unfold cmpO; rw [if_neg (by simpa using h1), if_neg (by simpa using h2)]
      unfold cmpV; rw [this, if_pos h3]
    rw [hf]
    clear hf
    go_enter Tryz.func28, Tryz.ntmps28
    go_wp2_with (go_at_call 54; refine (rcmp_calls _ _ _).mono ?_; rintro e w1 ⟨rfl, rfl⟩)
    go_ret
    exact ⟨rfl, by repeat (first | exact Below.refl _ _ | exact HB9.out | exact HB8.out | exact HB7.out | exact HB6.out | exact HB5.out | exact HB4.out | exact HB3.out | exact HB2.out | exact HB1.out | exact HB.out | (refine Below.alloc ?_ (by first | exact HB9.out.size | exact HB8.out.size | exact HB7.out.size | exact HB6.out.size | exact HB5.out.size | exact HB4.out.size | exact HB3.out.size | exact HB2.out.size | exact HB1.out.size | exact HB.out.size | (simp; done) | (simp <;> omega)) _) | apply pw_below_drewN | (refine Below.setCell ?_ (by first | (simp; done) | (simp <;> omega) | omega) _))⟩
  have hf : cmpV a b c l a' b' c' m = if l.length = 0 ∨ m.length = 0 then cmp3 m.length l.length else cmpL l m := by
    have : cmpO (cmp3 a a') (cmp3 b b') (cmp3 c c') = 0 := by unfold cmpO; rw [if_neg (by simpa using h1), if_neg (by simpa using h2), h3]
    unfold cmpV; rw [this, if_neg (by decide)]
  rw [hf]
  clear hf
  by_cases h4 : l.length = 0
  case pos =>
    rw [if_pos (.inl h4)]
    have h4' : (l.length : Int) = 0 := by omega
    by_cases h5 : m.length = 0
    · have h5' : (m.length : Int) = 0 := by omega
      have hf : cmp3 m.length l.length = 0 := by unfold cmp3; rw [if_neg (by omega), if_neg (by omega)]
      rw [hf]
      clear hf
      go_enter Tryz.func28, Tryz.ntmps28
      go_wp2_with (go_at_call 54; refine (rcmp_calls _ _ _).mono ?_; rintro e w1 ⟨rfl, rfl⟩)
      go_ret
      exact ⟨rfl, by repeat (first | exact Below.refl _ _ | exact HB9.out | exact HB8.out | exact HB7.out | exact HB6.out | exact HB5.out | exact HB4.out | exact HB3.out | exact HB2.out | exact HB1.out | exact HB.out | (refine Below.alloc ?_ (by first | exact HB9.out.size | exact HB8.out.size | exact HB7.out.size | exact HB6.out.size | exact HB5.out.size | exact HB4.out.size | exact HB3.out.size | exact HB2.out.size | exact HB1.out.size | exact HB.out.size | (simp; done) | (simp <;> omega)) _) | apply pw_below_drewN | (refine Below.setCell ?_ (by first | (simp; done) | (simp <;> omega) | omega) _))⟩
    · have h5' : (m.length : Int) ≠ 0 := by omega
      have hf : cmp3 m.length l.length = 1 := by unfold cmp3; rw [if_neg (by omega), if_pos (by omega)]
      rw [hf]
      clear hf
      go_enter Tryz.func28, Tryz.ntmps28
      go_wp2_with (go_at_call 54; refine (rcmp_calls _ _ _).mono ?_; rintro e w1 ⟨rfl, rfl⟩)
      go_ret
      exact ⟨rfl, by repeat (first | exact Below.refl _ _ | exact HB9.out | exact HB8.out | exact HB7.out | exact HB6.out | exact HB5.out | exact HB4.out | exact HB3.out | exact HB2.out | exact HB1.out | exact HB.out | (refine Below.alloc ?_ (by first | exact HB9.out.size | exact HB8.out.size | exact HB7.out.size | exact HB6.out.size | exact HB5.out.size | exact HB4.out.size | exact HB3.out.size | exact HB2.out.size | exact HB1.out.size | exact HB.out.size | (simp; done) | (simp <;> omega)) _) | apply pw_below_drewN | (refine Below.setCell ?_ (by first | (simp; done) | (simp <;> omega) | omega) _))⟩
  have h4' : ((l.length : Int) == 0) = false := by rw [beq_eq_false_iff_ne]; omega
  by_cases h5 : m.length = 0
  case pos =>
    rw [if_pos (.inr h5)]
    have h5' : (m.length : Int) = 0 := by omega
    have hf : cmp3 m.length l.length = -1 := by unfold cmp3; rw [if_pos (by omega)]
    rw [hf]
    clear hf
    go_enter Tryz.func28, Tryz.ntmps28
    go_wp2_with (go_at_call 54; refine (rcmp_calls _ _ _).mono ?_; rintro e w1 ⟨rfl, rfl⟩)
    go_ret
    exact ⟨rfl, by repeat (first | exact Below.refl _ _ | exact HB9.out | exact HB8.out | exact HB7.out | exact HB6.out | exact HB5.out | exact HB4.out | exact HB3.out | exact HB2.out | exact HB1.out | exact HB.out | (refine Below.alloc ?_ (by first | exact HB9.out.size | exact HB8.out.size | exact HB7.out.size | exact HB6.out.size | exact HB5.out.size | exact HB4.out.size | exact HB3.out.size | exact HB2.out.size | exact HB1.out.size | exact HB.out.size | (simp; done) | (simp <;> omega)) _) | apply pw_below_drewN | (refine Below.setCell ?_ (by first | (simp; done) | (simp <;> omega) | omega) _))⟩
  have h5' : ((m.length : Int) == 0) = false := by rw [beq_eq_false_iff_ne]; omega
  rw [if_neg (by omega)]
  obtain ⟨bk, off, rfl, hc0⟩ := C_cells hA (by omega)
  obtain ⟨bk2, off2, rfl, hd0⟩ := C_cells hB (by omega)
  have HC := Aside0.mk hc0
  have HD := Aside0.mk hd0
  have HLS := Aside0.mk hls
  have HMS := Aside0.mk hms
  clear hA hB hc0 hd0 hls hms
  generalize hr : cmpL l m = r
  have HR := Aside0.mk hr
  clear hr
  have hwl : IntKind.u32.wrap (l.length : Int) = (l.length : Int) := by rw [IntKind.wrap_u32]; omega
  have hwm : IntKind.u32.wrap (m.length : Int) = (m.length : Int) := by rw [IntKind.wrap_u32]; omega
  have hwl2 : (l.length : Int) % 4294967296 = (l.length : Int) := by omega
  have hwm2 : (m.length : Int) % 4294967296 = (m.length : Int) := by omega
  go_enter Tryz.func28, Tryz.ntmps28
  go_wp2_with (go_at_call 54; refine (rcmp_calls _ _ _).mono ?_; rintro e w1 ⟨rfl, rfl⟩)
  go_loopg [6] l.length (fun g v w' => ∃ i : Nat, i ≤ l.length ∧ i ≤ m.length ∧ g = l.length - i ∧ v = .int .i64 i ∧ Aside0 (cmpL (l.drop i) (m.drop i) = r) ∧ Aside0 (Below w.heap.size w w') ∧ w.heap.size + 1 < w'.heap.size ∧ w'.cell? ⟨w.heap.size, 3, none⟩ = some (.slice (some ⟨bk, off, none⟩) l.length cA) ∧ w'.cell? ⟨w.heap.size + 1, 3, none⟩ = some (.slice (some ⟨bk2, off2, none⟩) m.length cB))
  case atStart => exact ⟨0, Nat.zero_le _, Nat.zero_le _, rfl, rfl, ⟨HR.out⟩, ⟨by repeat (first | exact Below.refl _ _ | exact HB9.out | exact HB8.out | exact HB7.out | exact HB6.out | exact HB5.out | exact HB4.out | exact HB3.out | exact HB2.out | exact HB1.out | exact HB.out | (refine Below.alloc ?_ (by first | exact HB9.out.size | exact HB8.out.size | exact HB7.out.size | exact HB6.out.size | exact HB5.out.size | exact HB4.out.size | exact HB3.out.size | exact HB2.out.size | exact HB1.out.size | exact HB.out.size | (simp; done) | (simp <;> omega)) _) | apply pw_below_drewN | (refine Below.setCell ?_ (by first | (simp; done) | (simp <;> omega) | omega) _))⟩, by simp, by go_simp, by go_simp⟩
  case round =>
    clear HR
    obtain ⟨i, hi, hi2, rfl, rfl, HE, HB, hlt, hq, hq2⟩ := hrel
    have p1 : (0 : Int) ≤ (i : Int) := by omega
    by_cases h1 : i < l.length
    · have q1 : (i : Int) < (l.length : Int) := by omega
      by_cases h2 : i < m.length
      · have q2 : (i : Int) < (m.length : Int) := by omega
        have hcell : wr.cell? ⟨bk, off + i, none⟩ = some (.string (l[i]'h1)) := (HB.out.cell (World.block_lt_of_cell? w _ (HC.out i h1))).trans (HC.out i h1)
        have hcell2 : wr.cell? ⟨bk2, off2 + i, none⟩ = some (.string (m[i]'h2)) := (HB.out.cell (World.block_lt_of_cell? w _ (HD.out i h2))).trans (HD.out i h2)
        have hs1 : (l[i]'h1).size < 9223372036854775000 := by have := HLS.out _ (List.getElem_mem h1); omega
        have hs2 : (m[i]'h2).size < 9223372036854775000 := by have := HMS.out _ (List.getElem_mem h2); omega
        have he := HE.out
        rw [List.drop_eq_getElem_cons h1, List.drop_eq_getElem_cons h2, cmpL] at he
        generalize (l[i]'h1) = x at hcell he hs1
        generalize (m[i]'h2) = y at hcell2 he hs2
        by_cases ho : ordV x y = 0
        · rw [if_neg (by simpa using ho)] at he
          have HX := Aside0.mk he
          clear he HE
          go_wp2
          go_quiet (first | (go_at_call 55; refine Calls.quiet_of_same (rorder_same x y hs1 hs2 _)))
          go_wp2
          go_roundg (l.length - (i + 1))
          case measure => omega
          case rel => exact ⟨i + 1, by omega, by omega, rfl, by simp, HX, ⟨by repeat (first | exact Below.refl _ _ | exact HB9.out | exact HB8.out | exact HB7.out | exact HB6.out | exact HB5.out | exact HB4.out | exact HB3.out | exact HB2.out | exact HB1.out | exact HB.out | (refine Below.alloc ?_ (by first | exact HB9.out.size | exact HB8.out.size | exact HB7.out.size | exact HB6.out.size | exact HB5.out.size | exact HB4.out.size | exact HB3.out.size | exact HB2.out.size | exact HB1.out.size | exact HB.out.size | (simp; done) | (simp <;> omega)) _) | apply pw_below_drewN | (refine Below.setCell ?_ (by first | (simp; done) | (simp <;> omega) | omega) _))⟩, by first | exact hlt | (simp; exact hlt), by go_simp, by go_simp⟩
        · rw [if_pos ho] at he
          subst he
          clear HE
          go_wp2
          go_quiet (first | (go_at_call 55; refine Calls.quiet_of_same (rorder_same x y hs1 hs2 _)))
          go_wp2
          go_ret
          exact ⟨rfl, by repeat (first | exact Below.refl _ _ | exact HB9.out | exact HB8.out | exact HB7.out | exact HB6.out | exact HB5.out | exact HB4.out | exact HB3.out | exact HB2.out | exact HB1.out | exact HB.out | (refine Below.alloc ?_ (by first | exact HB9.out.size | exact HB8.out.size | exact HB7.out.size | exact HB6.out.size | exact HB5.out.size | exact HB4.out.size | exact HB3.out.size | exact HB2.out.size | exact HB1.out.size | exact HB.out.size | (simp; done) | (simp <;> omega)) _) | apply pw_below_drewN | (refine Below.setCell ?_ (by first | (simp; done) | (simp <;> omega) | omega) _))⟩
      · have he := HE.out
        rw [cmpL_r l m i (by omega) h1] at he
        have HX := Aside0.mk he
        clear he HE
        go_wp2_with (go_at_call 54; refine (rcmp_calls _ _ _).mono ?_; rintro e w1 ⟨rfl, rfl⟩)
        go_ret
        exact ⟨by rw [← HX.out]; rfl, by repeat (first | exact Below.refl _ _ | exact HB9.out | exact HB8.out | exact HB7.out | exact HB6.out | exact HB5.out | exact HB4.out | exact HB3.out | exact HB2.out | exact HB1.out | exact HB.out | (refine Below.alloc ?_ (by first | exact HB9.out.size | exact HB8.out.size | exact HB7.out.size | exact HB6.out.size | exact HB5.out.size | exact HB4.out.size | exact HB3.out.size | exact HB2.out.size | exact HB1.out.size | exact HB.out.size | (simp; done) | (simp <;> omega)) _) | apply pw_below_drewN | (refine Below.setCell ?_ (by first | (simp; done) | (simp <;> omega) | omega) _))⟩
    · have he := HE.out
      rw [cmpL_l l m i (by omega) hi2] at he
      have HX := Aside0.mk he
      clear he HE
      go_wp2_with (go_at_call 54; refine (rcmp_calls _ _ _).mono ?_; rintro e w1 ⟨rfl, rfl⟩)
      go_ret
      exact ⟨by rw [← HX.out]; rfl, by repeat (first | exact Below.refl _ _ | exact HB9.out | exact HB8.out | exact HB7.out | exact HB6.out | exact HB5.out | exact HB4.out | exact HB3.out | exact HB2.out | exact HB1.out | exact HB.out | (refine Below.alloc ?_ (by first | exact HB9.out.size | exact HB8.out.size | exact HB7.out.size | exact HB6.out.size | exact HB5.out.size | exact HB4.out.size | exact HB3.out.size | exact HB2.out.size | exact HB1.out.size | exact HB.out.size | (simp; done) | (simp <;> omega)) _) | apply pw_below_drewN | (refine Below.setCell ?_ (by first | (simp; done) | (simp <;> omega) | omega) _))⟩

end Go.Proofs.YthnajibbkinlkaaGreatDoor.PV

/- The walk of version.compare: it returns what 'cmpV' says. -/
import Derived.Test.YthnajibbkinlkaaGreatDoorPVx0
import Derived.Test.YthnajibbkinlkaaGreatDoorDB
import Derived.Test.YthnajibbkinlkaaGreatDoorPVx1
import Derived.Test.YthnajibbkinlkaaGreatDoorMayA
import Derived.Test.YthnajibbkinlkaaGreatDoorNumberA
import Derived.Laws.Cover1
import Derived.Deep.LoopGhost
import Derived.Deep.RegionHeld3
import Derived.Deep.DrawnRows
namespace Go.Proofs.YthnajibbkinlkaaGreatDoor.PV
open Go.RowKit Go.Proofs.YthnajibbkinlkaaGreatDoorW.PrintWords Go.Proofs.YthnajibbkinlkaaGreatDoorW.PrintLast Go.Proofs.YthnajibbkinlkaaGreatDoorW.PrintMore
attribute [local go_sem] max2_int min2_int max_two min_two max_three min_three max_four min_four   -- for this text's walks alone
set_option linter.unusedVariables false
set_option linter.unusedSimpArgs false

def cmp3 (a b : Int) : Int := if a < b then -1 else if b < a then 1 else 0
def cmpB (a b : ByteArray) : Int := if Op.bytesLess a.toList b.toList = true then -1 else if Op.bytesLess b.toList a.toList = true then 1 else 0
theorem less_flip : ∀ (a b : List UInt8), (!(Op.bytesLess a b || a == b)) = Op.bytesLess b a := by
  intro a
  induction a with
  | nil => intro b; cases b <;> simp [Op.bytesLess]
  | cons x a ih =>
    intro b
    cases b with
    | nil => simp [Op.bytesLess]
    | cons y b =>
      have := ih b
      simp only [Op.bytesLess]
      by_cases h1 : x < y
      · have h2 : ¬ y < x := by simp only [UInt8.lt_iff_toNat_lt] at *; omega
        have h3 : (y == x) = false := by simp only [beq_eq_false_iff_ne]; rintro rfl; exact h2 h1
        simp [h1, h2, h3]
      · by_cases h4 : x = y
        · subst h4
          simp only [UInt8.lt_irrefl, decide_false, beq_self_eq_true, Bool.true_and, Bool.false_or, List.cons_beq_cons]
          exact this
        · have h2 : y < x := by
            rw [UInt8.lt_iff_toNat_lt] at *
            have : x.toNat ≠ y.toNat := fun h => h4 (UInt8.toNat_inj.1 h)
            omega
          have h3 : (x == y) = false := by simp [h4]
          simp [h1, h2, h3, h4]
theorem binOp_gtr_flip (t : TypeId) (a b : ByteArray) : binOp .gtr t (.string a) (.string b) = pure (.bool (Op.bytesLess b.toList a.toList)) := by
  rw [← less_flip]; exact binOp_string_gtr t a b
attribute [local go_sem 3000] binOp_gtr_flip
set_option maxHeartbeats 8000000 in
set_option maxRecDepth 100000 in
theorem cmpU_calls (a b : Int) (W : World) : Calls Tryz.prog 37 #[.int .u32 a, .int .u32 b] W fun e w' => e = .returned (.int .i64 (cmp3 a b)) ∧ W = w' := by
  unfold cmp3
  by_cases h1 : a < b
  · rw [if_pos h1]
    go_enter Tryz.func37, Tryz.ntmps37
    go_wp2_with (first | (go_at_call 62; go_in))
    go_ret
    exact ⟨rfl, rfl⟩
  · rw [if_neg h1]
    by_cases h2 : b < a
    · rw [if_pos h2]
      go_enter Tryz.func37, Tryz.ntmps37
      go_wp2_with (first | (go_at_call 62; go_in))
      go_ret
      exact ⟨rfl, rfl⟩
    · rw [if_neg h2]
      go_enter Tryz.func37, Tryz.ntmps37
      go_wp2_with (first | (go_at_call 62; go_in))
      go_ret
      exact ⟨rfl, rfl⟩
set_option maxHeartbeats 8000000 in
set_option maxRecDepth 100000 in
theorem cmpI_calls (a b : Int) (W : World) : Calls Tryz.prog 38 #[.int .i64 a, .int .i64 b] W fun e w' => e = .returned (.int .i64 (cmp3 a b)) ∧ W = w' := by
  unfold cmp3
  by_cases h1 : a < b
  · rw [if_pos h1]
    go_enter Tryz.func38, Tryz.ntmps38
    go_wp2_with (first | (go_at_call 63; go_in))
    go_ret
    exact ⟨rfl, rfl⟩
  · rw [if_neg h1]
    by_cases h2 : b < a
    · rw [if_pos h2]
      go_enter Tryz.func38, Tryz.ntmps38
      go_wp2_with (first | (go_at_call 63; go_in))
      go_ret
      exact ⟨rfl, rfl⟩
    · rw [if_neg h2]
      go_enter Tryz.func38, Tryz.ntmps38
      go_wp2_with (first | (go_at_call 63; go_in))
      go_ret
      exact ⟨rfl, rfl⟩
set_option maxHeartbeats 8000000 in
set_option maxRecDepth 100000 in
theorem cmpS_calls (a b : ByteArray) (W : World) : Calls Tryz.prog 64 #[.string a, .string b] W fun e w' => e = .returned (.int .i64 (cmpB a b)) ∧ DBelow W.heap.size W w' := by
  unfold cmpB
  by_cases h1 : Op.bytesLess a.toList b.toList = true
  · rw [if_pos h1]
    go_enter Tryz.func64, Tryz.ntmps64
    go_wp2_with (first | (go_at_call 85; go_in))
    go_ret
    exact ⟨rfl, by repeat (first | exact DBelow.refl _ _ | apply dpw_below_drewN)⟩
  · rw [if_neg h1]
    have h1' : Op.bytesLess a.toList b.toList = false := by simpa using h1
    by_cases h2 : Op.bytesLess b.toList a.toList = true
    · rw [if_pos h2]
      go_enter Tryz.func64, Tryz.ntmps64
      go_wp2_with (first | (go_at_call 85; go_in))
      go_ret
      exact ⟨rfl, by repeat (first | exact DBelow.refl _ _ | apply dpw_below_drewN)⟩
    · rw [if_neg h2]
      have h2' : Op.bytesLess b.toList a.toList = false := by simpa using h2
      go_enter Tryz.func64, Tryz.ntmps64
      go_wp2_with (first | (go_at_call 85; go_in))
      go_ret
      exact ⟨rfl, by repeat (first | exact DBelow.refl _ _ | apply dpw_below_drewN)⟩

def ordV (a b : ByteArray) : Int :=
  if digL a.data.toList = true then
    (if digL b.data.toList = true then (if cmp3 (a.size : Int) (b.size : Int) ≠ 0 then cmp3 (a.size : Int) (b.size : Int) else cmpB a b) else -1)
  else (if digL b.data.toList = true then 1 else cmpB a b)
theorem digits_calls (s : ByteArray) (w : World) (hs : s.size < 9223372036854775000) (hG : GW w) :
    Calls Tryz.prog 31 #[.string s] w fun e w' => e = .returned (.bool (digL s.data.toList)) ∧ DBelow w.heap.size w w' :=
  (version_digits.calls (s.size + 1) s _ w hG (digits_eq s (by omega) (s.size + 1) (by omega))).mono fun e w' h => ⟨h.1, by obtain ⟨n, hn⟩ := h.2; rw [hn]; exact dpw_below_drewN (DBelow.refl _ _) n⟩
set_option maxHeartbeats 8000000 in
set_option maxRecDepth 100000 in
theorem order_calls (a b : ByteArray) (ha : a.size < 9223372036854775000) (hb : b.size < 9223372036854775000) (w : World) (hG : GW w) :
    Calls Tryz.prog 40 #[.string a, .string b] w fun e w' => e = .returned (.int .i64 (ordV a b)) ∧ DBelow w.heap.size w w' := by
  have HG := Aside0.mk hG
  clear hG
  unfold ordV
  cases ea : digL a.data.toList <;> cases eb : digL b.data.toList
  · rw [if_neg (by decide), if_neg (by decide)]
    go_enter Tryz.func40, Tryz.ntmps40
    go_wp2_with (first | (go_at_call 31; refine (digits_calls _ _ (by assumption) (by first | exact HG.out | exact GW.dbelow HG.out HB1.out)).mono ?_; rintro e w1 ⟨rfl, hb1⟩; (first | (have HB2 := Aside0.mk (dbelow_step HB1.out hb1)) | (have HB1 := Aside0.mk hb1)); clear hb1) | (go_at_call 64; refine (cmpS_calls _ _ _).mono ?_; rintro e w3 ⟨rfl, hb3⟩))
    go_ret
    refine ⟨rfl, dbelow_step ?_ hb3⟩
    repeat (first | exact DBelow.refl _ _ | exact HB2.out | (refine DBelow.alloc ?_ (by have := HB2.out.size; omega) _) | (refine DBelow.setCell ?_ (by have := HB2.out.size; simp <;> omega) _))
  · rw [if_neg (by decide), if_pos rfl]
    go_enter Tryz.func40, Tryz.ntmps40
    go_wp2_with (first | (go_at_call 31; refine (digits_calls _ _ (by assumption) (by first | exact HG.out | exact GW.dbelow HG.out HB1.out)).mono ?_; rintro e w1 ⟨rfl, hb1⟩; (first | (have HB2 := Aside0.mk (dbelow_step HB1.out hb1)) | (have HB1 := Aside0.mk hb1)); clear hb1))
    go_ret
    refine ⟨rfl, ?_⟩
    repeat (first | exact DBelow.refl _ _ | exact HB2.out | (refine DBelow.alloc ?_ (by have := HB2.out.size; omega) _) | (refine DBelow.setCell ?_ (by have := HB2.out.size; simp <;> omega) _))
  · rw [if_pos rfl, if_neg (by decide)]
    go_enter Tryz.func40, Tryz.ntmps40
    go_wp2_with (first | (go_at_call 31; refine (digits_calls _ _ (by assumption) (by first | exact HG.out | exact GW.dbelow HG.out HB1.out)).mono ?_; rintro e w1 ⟨rfl, hb1⟩; (first | (have HB2 := Aside0.mk (dbelow_step HB1.out hb1)) | (have HB1 := Aside0.mk hb1)); clear hb1))
    go_ret
    refine ⟨rfl, ?_⟩
    repeat (first | exact DBelow.refl _ _ | exact HB2.out | (refine DBelow.alloc ?_ (by have := HB2.out.size; omega) _) | (refine DBelow.setCell ?_ (by have := HB2.out.size; simp <;> omega) _))
  · rw [if_pos rfl, if_pos rfl]
    by_cases hc : cmp3 (a.size : Int) (b.size : Int) = 0
    · rw [if_neg (by simpa using hc)]
      go_enter Tryz.func40, Tryz.ntmps40
      go_wp2_with (first | (go_at_call 31; refine (digits_calls _ _ (by assumption) (by first | exact HG.out | exact GW.dbelow HG.out HB1.out)).mono ?_; rintro e w1 ⟨rfl, hb1⟩; (first | (have HB2 := Aside0.mk (dbelow_step HB1.out hb1)) | (have HB1 := Aside0.mk hb1)); clear hb1) | (go_at_call 38; refine (cmpI_calls _ _ _).mono ?_; rintro e w4 ⟨rfl, rfl⟩) | (go_at_call 64; refine (cmpS_calls _ _ _).mono ?_; rintro e w3 ⟨rfl, hb3⟩))
      go_ret
      refine ⟨rfl, dbelow_step ?_ hb3⟩
      repeat (first | exact DBelow.refl _ _ | exact HB2.out | (refine DBelow.alloc ?_ (by have := HB2.out.size; omega) _) | (refine DBelow.setCell ?_ (by have := HB2.out.size; simp <;> omega) _))
    · rw [if_pos hc]
      go_enter Tryz.func40, Tryz.ntmps40
      go_wp2_with (first | (go_at_call 31; refine (digits_calls _ _ (by assumption) (by first | exact HG.out | exact GW.dbelow HG.out HB1.out)).mono ?_; rintro e w1 ⟨rfl, hb1⟩; (first | (have HB2 := Aside0.mk (dbelow_step HB1.out hb1)) | (have HB1 := Aside0.mk hb1)); clear hb1) | (go_at_call 38; refine (cmpI_calls _ _ _).mono ?_; rintro e w4 ⟨rfl, rfl⟩))
      go_ret
      refine ⟨rfl, ?_⟩
      repeat (first | exact DBelow.refl _ _ | exact HB2.out | (refine DBelow.alloc ?_ (by have := HB2.out.size; omega) _) | (refine DBelow.setCell ?_ (by have := HB2.out.size; simp <;> omega) _))

def cmpL : List ByteArray → List ByteArray → Int
  | [], [] => 0
  | [], _ :: _ => -1
  | _ :: _, [] => 1
  | a :: x, b :: y => if ordV a b ≠ 0 then ordV a b else cmpL x y
set_option maxHeartbeats 8000000 in
set_option maxRecDepth 100000 in
theorem compareFunc_calls (b1 o1 b2 o2 c1 c2 : Nat) (l m : List ByteArray) (w : World) (hA : ∀ j (hj : j < l.length), w.cell? ⟨b1, o1 + j, none⟩ = some (.string (l[j]'hj))) (hB : ∀ j (hj : j < m.length), w.cell? ⟨b2, o2 + j, none⟩ = some (.string (m[j]'hj)))
  (hl : l.length < 1000) (hm : m.length < 1000) (hls : ∀ x ∈ l, x.size < 9223372036854775000) (hms : ∀ x ∈ m, x.size < 9223372036854775000) (hG : GW w) :
    Calls Tryz.prog 39 #[.slice (some ⟨b1, o1, none⟩) l.length c1, .slice (some ⟨b2, o2, none⟩) m.length c2, .func (.func 40) #[] #[]] w fun e w' => e = .returned (.int .i64 (cmpL l m)) ∧ DBelow w.heap.size w w' := by
  have HG := Aside0.mk hG
  have HA := Aside0.mk hA
  have HB := Aside0.mk hB
  have HLS := Aside0.mk hls
  have HMS := Aside0.mk hms
  clear hG hA hB hls hms
  go_enter Tryz.func39, Tryz.ntmps39
  go_wp2
  go_loopg [13] l.length (fun g s13 w' => ∃ i : Nat, i ≤ l.length ∧ i ≤ m.length ∧ g = l.length - i ∧ s13 = .int .i64 i ∧ Aside0 (cmpL l m = cmpL (l.drop i) (m.drop i)) ∧ Aside0 (DBelow w.heap.size w w'))
  case atStart => exact ⟨0, Nat.zero_le _, Nat.zero_le _, rfl, rfl, ⟨rfl⟩, ⟨DBelow.refl _ _⟩⟩
  case round =>
    obtain ⟨i, hi1, hi2, rfl, rfl, HE, HW⟩ := hrel
    by_cases h1 : i < l.length
    · by_cases h2 : i < m.length
      · have ca : wr.cell? ⟨b1, o1 + i, none⟩ = some (.string (l[i]'h1)) := (HW.out.cell (World.block_lt_of_cell? w _ (HA.out i h1))).trans (HA.out i h1)
        have cb : wr.cell? ⟨b2, o2 + i, none⟩ = some (.string (m[i]'h2)) := (HW.out.cell (World.block_lt_of_cell? w _ (HB.out i h2))).trans (HB.out i h2)
        have hs1 : (l[i]'h1).size < 9223372036854775000 := HLS.out _ (List.getElem_mem h1)
        have hs2 : (m[i]'h2).size < 9223372036854775000 := HMS.out _ (List.getElem_mem h2)
        have he : cmpL l m = if ordV (l[i]'h1) (m[i]'h2) ≠ 0 then ordV (l[i]'h1) (m[i]'h2) else cmpL (l.drop (i + 1)) (m.drop (i + 1)) := by
          rw [HE.out, List.drop_eq_getElem_cons h1, List.drop_eq_getElem_cons h2]
          rfl
        generalize hx : l[i]'h1 = x at ca hs1 he
        generalize hy : m[i]'h2 = y at cb hs2 he
        have HX := Aside0.mk he
        clear hx hy he HE
        by_cases hc : ordV x y = 0
        · go_wp2_with (first | (go_at_call 40; refine (order_calls x y hs1 hs2 _ (GW.dbelow HG.out HW.out)).mono ?_; rintro e w1 ⟨rfl, hb1⟩; have HW1 := Aside0.mk (dbelow_step HW.out hb1); clear hb1))
          go_roundg (l.length - (i + 1))
          case measure => omega
          case rel =>
            have he := HX.out
            rw [if_neg (by simpa using hc)] at he
            exact ⟨i + 1, by omega, by omega, rfl, by simp, ⟨he⟩, HW1⟩
        · go_wp2_with (first | (go_at_call 40; refine (order_calls x y hs1 hs2 _ (GW.dbelow HG.out HW.out)).mono ?_; rintro e w1 ⟨rfl, hb1⟩; have HW1 := Aside0.mk (dbelow_step HW.out hb1); clear hb1))
          go_ret
          have he := HX.out
          rw [if_pos hc] at he
          exact ⟨by rw [he]; rfl, HW1.out⟩
      · have h2' : i = m.length := by omega
        subst h2'
        clear h2
        have ca : wr.cell? ⟨b1, o1 + m.length, none⟩ = some (.string (l[m.length]'h1)) := (HW.out.cell (World.block_lt_of_cell? w _ (HA.out _ h1))).trans (HA.out _ h1)
        have he : cmpL l m = 1 := by
          rw [HE.out, List.drop_eq_getElem_cons h1, List.drop_length]
          rfl
        have HX := Aside0.mk he
        clear he HE
        go_wp2
        go_ret
        exact ⟨by rw [HX.out]; rfl, HW.out⟩
    · have h1' : i = l.length := by omega
      by_cases h3 : l.length < m.length
      · go_wp2
        go_ret
        have he : cmpL l m = -1 := by
          rw [HE.out, h1', List.drop_length, List.drop_eq_getElem_cons h3]
          rfl
        exact ⟨by rw [he]; rfl, HW.out⟩
      · go_wp2
        go_ret
        have he : cmpL l m = 0 := by
          have : m.length = l.length := by omega
          rw [HE.out, h1', List.drop_length, ← this, List.drop_length]
          rfl
        exact ⟨by rw [he]; rfl, HW.out⟩

def cmpO (x y z : Int) : Int := if x ≠ 0 then x else if y ≠ 0 then y else z
set_option maxHeartbeats 8000000 in
set_option maxRecDepth 100000 in
theorem or_calls (x y z : Int) (b : Nat) (W : World) (h0 : W.cell? ⟨b, 0, none⟩ = some (.int .i64 x)) (h1 : W.cell? ⟨b, 1, none⟩ = some (.int .i64 y)) (h2 : W.cell? ⟨b, 2, none⟩ = some (.int .i64 z)) :
    Calls Tryz.prog 36 #[.slice (some ⟨b, 0, none⟩) 3 3] W fun e w' => e = .returned (.int .i64 (cmpO x y z)) ∧ W = w' := by
  unfold cmpO
  by_cases hx : x = 0
  · rw [if_neg (by simpa using hx)]
    by_cases hy : y = 0
    · rw [if_neg (by simpa using hy)]
      by_cases hz : z = 0
      · go_enter Tryz.func36, Tryz.ntmps36
        go_wp2
        refine wp_loop_rounds 4 ?_
        rw [rounds_succ]
        go_wp2
        rw [rounds_succ]
        go_wp2
        rw [rounds_succ]
        go_wp2
        rw [rounds_succ]
        go_wp2
        go_ret
        exact ⟨by rw [hz]; rfl, rfl⟩
      · go_enter Tryz.func36, Tryz.ntmps36
        go_wp2
        refine wp_loop_rounds 4 ?_
        rw [rounds_succ]
        go_wp2
        rw [rounds_succ]
        go_wp2
        rw [rounds_succ]
        go_wp2
        go_ret
        exact ⟨rfl, rfl⟩
    · rw [if_pos hy]
      go_enter Tryz.func36, Tryz.ntmps36
      go_wp2
      refine wp_loop_rounds 4 ?_
      rw [rounds_succ]
      go_wp2
      rw [rounds_succ]
      go_wp2
      go_ret
      exact ⟨rfl, rfl⟩
  · rw [if_pos hx]
    go_enter Tryz.func36, Tryz.ntmps36
    go_wp2
    refine wp_loop_rounds 4 ?_
    rw [rounds_succ]
    go_wp2
    go_ret
    exact ⟨rfl, rfl⟩
def cmpV (a0 a1 a2 : Int) (l : List ByteArray) (b0 b1 b2 : Int) (m : List ByteArray) : Int :=
  if cmpO (cmp3 a0 b0) (cmp3 a1 b1) (cmp3 a2 b2) ≠ 0 then cmpO (cmp3 a0 b0) (cmp3 a1 b1) (cmp3 a2 b2)
  else if l.length = 0 ∨ m.length = 0 then cmp3 m.length l.length else cmpL l m
attribute [local go_sem ↓] Go.wp_at_zero Go.wp_at_succ
def version_compare.f (a0_0 a0_1 a0_2 : Int) (l0_3 : List ByteArray) (a1_0 a1_1 a1_2 : Int) (l1_3 : List ByteArray) : Option Int :=
  if l0_3.length ≤ 200 ∧ l1_3.length ≤ 200 ∧ (∀ x ∈ l0_3, x.size ≤ 128) ∧ (∀ x ∈ l1_3, x.size ≤ 128) then some (cmpV a0_0 a0_1 a0_2 l0_3 a1_0 a1_1 a1_2 l1_3) else none
set_option maxHeartbeats 8000000 in
set_option maxRecDepth 100000 in
theorem version_compare.calls (a0 : Int) (a1 : Int) (a2 : Int) (A : Option Addr) (cA : Nat) (l : List ByteArray) (b0 : Int) (b1 : Int) (b2 : Int) (B : Option Addr) (cB : Nat) (m : List ByteArray) (r : Int) (w : World) (hA : Kd.C Kd.string w A l.length l) (hcA : l.length ≤ cA) (hB : Kd.C Kd.string w B m.length m) (hcB : m.length ≤ cB) (hG : GW w) (h : version_compare.f a0 a1 a2 l b0 b1 b2 m = some r) :
    Calls Tryz.prog 23 #[.agg #[.int .u32 a0, .int .u32 a1, .int .u32 a2, .slice A l.length cA], .agg #[.int .u32 b0, .int .u32 b1, .int .u32 b2, .slice B m.length cB]] w fun e w' => e = .returned (.int .i64 r) ∧ DBelow w.heap.size w w' := by
  unfold version_compare.f at h
  split at h
  case isFalse => cases h
  rename_i hside
  obtain ⟨hl, hm, hls, hms⟩ := hside
  have hrr : cmpV a0 a1 a2 l b0 b1 b2 m = r := Option.some.inj h
  clear h
  have HR := Aside0.mk hrr
  have HLS := Aside0.mk hls
  have HMS := Aside0.mk hms
  have HG := Aside0.mk hG
  have HA := Aside0.mk hA
  have HB := Aside0.mk hB
  clear hG hA hB hls hms hrr
  by_cases hc : cmpO (cmp3 a0 b0) (cmp3 a1 b1) (cmp3 a2 b2) = 0
  case neg =>
    go_enter Tryz.func23, Tryz.ntmps23
    go_wp2
    go_region_held3 (fun w' => w'.cell? ⟨w.heap.size, 0, none⟩ = some (.int .u32 a0) ∧ w'.cell? ⟨w.heap.size, 1, none⟩ = some (.int .u32 a1) ∧ w'.cell? ⟨w.heap.size, 2, none⟩ = some (.int .u32 a2) ∧ w'.cell? ⟨w.heap.size + 1, 0, none⟩ = some (.int .u32 b0) ∧ w'.cell? ⟨w.heap.size + 1, 1, none⟩ = some (.int .u32 b1) ∧ w'.cell? ⟨w.heap.size + 1, 2, none⟩ = some (.int .u32 b2)) (go_keep)
      (first | (go_at_call 37; refine (cmpU_calls _ _ _).mono ?_; rintro e w' ⟨rfl, rfl⟩) | (go_at_call 36; refine (or_calls (cmp3 a0 b0) (cmp3 a1 b1) (cmp3 a2 b2) _ _ (by go_simp) (by go_simp) (by go_simp)).mono ?_; rintro e w' ⟨rfl, rfl⟩))
    go_wp2
    go_ret
    have hr := HR.out
    unfold cmpV at hr
    rw [if_pos hc] at hr
    exact ⟨by rw [← hr]; rfl, by repeat (first | exact DBelow.refl _ _ | (refine DBelow.alloc ?_ (by simp <;> omega) _) | apply dpw_below_drewN)⟩
  by_cases h1 : l.length = 0
  case pos =>
    have h1' : (l.length : Int) = 0 := by omega
    go_enter Tryz.func23, Tryz.ntmps23
    go_wp2
    go_region_held3 (fun w' => w'.cell? ⟨w.heap.size, 0, none⟩ = some (.int .u32 a0) ∧ w'.cell? ⟨w.heap.size, 1, none⟩ = some (.int .u32 a1) ∧ w'.cell? ⟨w.heap.size, 2, none⟩ = some (.int .u32 a2) ∧ w'.cell? ⟨w.heap.size + 1, 0, none⟩ = some (.int .u32 b0) ∧ w'.cell? ⟨w.heap.size + 1, 1, none⟩ = some (.int .u32 b1) ∧ w'.cell? ⟨w.heap.size + 1, 2, none⟩ = some (.int .u32 b2)) (go_keep)
      (first | (go_at_call 37; refine (cmpU_calls _ _ _).mono ?_; rintro e w' ⟨rfl, rfl⟩) | (go_at_call 36; refine (or_calls (cmp3 a0 b0) (cmp3 a1 b1) (cmp3 a2 b2) _ _ (by go_simp) (by go_simp) (by go_simp)).mono ?_; rintro e w' ⟨rfl, rfl⟩))
    go_wp2_with (first | (go_at_call 38; refine (cmpI_calls _ _ _).mono ?_; rintro e w4 ⟨rfl, rfl⟩))
    go_ret
    have hr := HR.out
    unfold cmpV at hr
    rw [if_neg (by simpa using hc), if_pos (.inl h1)] at hr
    exact ⟨by rw [← hr, h1]; rfl, by repeat (first | exact DBelow.refl _ _ | (refine DBelow.alloc ?_ (by simp <;> omega) _) | apply dpw_below_drewN)⟩
  have h1' : (((l.length : Nat) : Int) == 0) = false := by rw [beq_eq_false_iff_ne]; omega
  by_cases h2 : m.length = 0
  case pos =>
    have h2' : (m.length : Int) = 0 := by omega
    go_enter Tryz.func23, Tryz.ntmps23
    go_wp2
    go_region_held3 (fun w' => w'.cell? ⟨w.heap.size, 0, none⟩ = some (.int .u32 a0) ∧ w'.cell? ⟨w.heap.size, 1, none⟩ = some (.int .u32 a1) ∧ w'.cell? ⟨w.heap.size, 2, none⟩ = some (.int .u32 a2) ∧ w'.cell? ⟨w.heap.size + 1, 0, none⟩ = some (.int .u32 b0) ∧ w'.cell? ⟨w.heap.size + 1, 1, none⟩ = some (.int .u32 b1) ∧ w'.cell? ⟨w.heap.size + 1, 2, none⟩ = some (.int .u32 b2)) (go_keep)
      (first | (go_at_call 37; refine (cmpU_calls _ _ _).mono ?_; rintro e w' ⟨rfl, rfl⟩) | (go_at_call 36; refine (or_calls (cmp3 a0 b0) (cmp3 a1 b1) (cmp3 a2 b2) _ _ (by go_simp) (by go_simp) (by go_simp)).mono ?_; rintro e w' ⟨rfl, rfl⟩))
    go_wp2_with (first | (go_at_call 38; refine (cmpI_calls _ _ _).mono ?_; rintro e w4 ⟨rfl, rfl⟩))
    go_ret
    have hr := HR.out
    unfold cmpV at hr
    rw [if_neg (by simpa using hc), if_pos (.inr h2)] at hr
    exact ⟨by rw [← hr, h2]; rfl, by repeat (first | exact DBelow.refl _ _ | (refine DBelow.alloc ?_ (by simp <;> omega) _) | apply dpw_below_drewN)⟩
  have h2' : (((m.length : Nat) : Int) == 0) = false := by rw [beq_eq_false_iff_ne]; omega
  obtain ⟨d1, o1, e1, q1⟩ := C_cells HA.out (by omega)
  obtain ⟨d2, o2, e2, q2⟩ := C_cells HB.out (by omega)
  have H1 := Aside0.mk q1
  have H2 := Aside0.mk q2
  subst e1 e2
  clear q1 q2
  go_enter Tryz.func23, Tryz.ntmps23
  go_wp2
  go_region_held3 (fun w' => w'.cell? ⟨w.heap.size, 0, none⟩ = some (.int .u32 a0) ∧ w'.cell? ⟨w.heap.size, 1, none⟩ = some (.int .u32 a1) ∧ w'.cell? ⟨w.heap.size, 2, none⟩ = some (.int .u32 a2) ∧ w'.cell? ⟨w.heap.size + 1, 0, none⟩ = some (.int .u32 b0) ∧ w'.cell? ⟨w.heap.size + 1, 1, none⟩ = some (.int .u32 b1) ∧ w'.cell? ⟨w.heap.size + 1, 2, none⟩ = some (.int .u32 b2)) (go_keep)
    (first | (go_at_call 37; refine (cmpU_calls _ _ _).mono ?_; rintro e w' ⟨rfl, rfl⟩) | (go_at_call 36; refine (or_calls (cmp3 a0 b0) (cmp3 a1 b1) (cmp3 a2 b2) _ _ (by go_simp) (by go_simp) (by go_simp)).mono ?_; rintro e w' ⟨rfl, rfl⟩))
  go_wp2_with (first | (go_at_call 39; refine (compareFunc_calls d1 o1 d2 o2 _ _ l m _ (fun j hj => (DBelow.cell (by repeat (first | exact DBelow.refl _ _ | (refine DBelow.alloc ?_ (by simp <;> omega) _) | apply dpw_below_drewN)) (World.block_lt_of_cell? _ _ (H1.out j hj))).trans (H1.out j hj)) (fun j hj => (DBelow.cell (by repeat (first | exact DBelow.refl _ _ | (refine DBelow.alloc ?_ (by simp <;> omega) _) | apply dpw_below_drewN)) (World.block_lt_of_cell? _ _ (H2.out j hj))).trans (H2.out j hj)) (by omega) (by omega) (fun x hx => by have := HLS.out x hx; omega) (fun x hx => by have := HMS.out x hx; omega) (GW.dbelow HG.out (by repeat (first | exact DBelow.refl _ _ | (refine DBelow.alloc ?_ (by simp <;> omega) _) | apply dpw_below_drewN)))).mono ?_; rintro e w5 ⟨rfl, hb5⟩))
  go_ret
  have hr := HR.out
  unfold cmpV at hr
  rw [if_neg (by simpa using hc), if_neg (by omega)] at hr
  exact ⟨by rw [← hr]; rfl, dbelow_step (by repeat (first | exact DBelow.refl _ _ | (refine DBelow.alloc ?_ (by simp <;> omega) _) | apply dpw_below_drewN)) hb5⟩

end Go.Proofs.YthnajibbkinlkaaGreatDoor.PV

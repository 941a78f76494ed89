/- The plain laws of the least version and of texts there and back. -/
import Derived.Test.YthnajibbkinlkaaGreatDoorPlain
namespace Go.Proofs.YthnajibbkinlkaaGreatDoor.PV
open Go.RowKit Go.Proofs.YthnajibbkinlkaaGreatDoorW.PrintWords Go.Proofs.YthnajibbkinlkaaGreatDoorW.PrintLast Go.Proofs.YthnajibbkinlkaaGreatDoorW.PrintMore
attribute [local go_sem] max2_int min2_int max_two min_two max_three min_three max_four min_four   -- for this text's walks alone
set_option linter.unusedVariables false
set_option linter.unusedSimpArgs false

/-! The least version; texts there and back. -/
def zeroB : ByteArray := ⟨#[48]⟩
theorem dig_pos {x : ByteArray} (h : digL x.data.toList = true) : 0 < x.size := by
  unfold digL at h
  rw [Bool.and_eq_true, decide_eq_true_eq] at h
  rw [← size_len]
  exact List.length_pos_iff.2 h.2
theorem less_zero {c : UInt8} (h : dgc c = true) : Op.bytesLess [c] [48] = false := by
  have h1 := dgc_bounds h
  have h2 : ¬ c < 48 := by rw [UInt8.lt_iff_toNat_lt]; have : (48 : UInt8).toNat = 48 := rfl; omega
  simp [Op.bytesLess, h2]
theorem ord_zero (x : ByteArray) : ordV zeroB x ≤ 0 := by
  unfold ordV
  rw [if_pos (by decide)]
  by_cases hx : digL x.data.toList = true
  · rw [if_pos hx]
    have hp := dig_pos hx
    have h1 : ((zeroB.size : Nat) : Int) = 1 := rfl
    rw [h1]
    by_cases h2 : x.size = 1
    · have e : cmp3 1 (x.size : Int) = 0 := by unfold cmp3; rw [if_neg (by omega), if_neg (by omega)]
      rw [if_neg (by simpa using e)]
      have hl : x.data.toList.length = 1 := by rw [size_len]; exact h2
      obtain ⟨c, hc⟩ := List.length_eq_one_iff.1 hl
      have hd : dgc c = true := by
        unfold digL at hx
        rw [hc] at hx
        simpa using hx
      unfold cmpB
      split
      · decide
      · rw [if_neg]
        · decide
        · rw [ByteArray.toList_eq, ByteArray.toList_eq, hc]
          rw [show zeroB.data.toList = [48] from rfl, less_zero hd]
          decide
    · have e : cmp3 1 (x.size : Int) = -1 := by unfold cmp3; rw [if_pos (by omega)]
      rw [e, if_pos (by decide)]; decide
  · rw [if_neg hx]; decide
theorem least_le (p : List ByteArray) (hp : p ≠ []) : cmpL [zeroB] p ≤ 0 := by
  cases p with
  | nil => exact absurd rfl hp
  | cons x r =>
    have h1 := ord_zero x
    rw [cmpL]
    split
    · exact h1
    · cases r with
      | nil => decide
      | cons y r => rw [cmpL]; decide
theorem cmp3_self (a : Int) : cmp3 a a = 0 := by unfold cmp3; rw [if_neg (by omega), if_neg (by omega)]
theorem least_cmp (a b c : Int) (p : List ByteArray) : cmpV a b c [zeroB] a b c p ≤ 0 := by
  unfold cmpV
  rw [cmp3_self, cmp3_self, cmp3_self, if_neg (by decide)]
  by_cases hp : p = []
  · subst hp; decide
  · rw [if_neg]
    · exact least_le p hp
    · rintro (h | h)
      · cases h
      · exact hp (List.length_eq_zero_iff.1 h)
theorem least_may {a b c : Int} {p : List ByteArray} (h : mayV a b c p = true) : mayV a b c [zeroB] = true := by
  unfold mayV at *
  simp only [Bool.and_eq_true, decide_eq_true_eq] at h ⊢
  refine ⟨⟨h.1.1, h.1.2.1, h.1.2.2.1, by decide⟩, by decide⟩
/-- The bytes of a version's text. -/
def textL (a b c : Int) (p : List ByteArray) : List UInt8 :=
  joinL 46 [Lib.decDigits a.toNat, Lib.decDigits b.toNat, Lib.decDigits c.toNat] ++ (if p = [] then [] else 45 :: joinL 46 (p.map (·.data.toList)))
theorem text_back {s : ByteArray} {v : Int × Int × Int × List ByteArray} (h : verOf s = some v) : textL v.1 v.2.1 v.2.2.1 v.2.2.2 = s.data.toList := by
  obtain ⟨_, x, y, z, a, b, c, e1, e2, e3, e4, rfl, _⟩ := verOf_some h
  unfold textL
  rw [num_back e2, num_back e3, num_back e4]
  have hh : joinL 46 [x.data.toList, y.data.toList, z.data.toList] = (headB s).data.toList := by
    rw [← join_split 46 (headB s).data.toList, ← spl_eq, e1]; rfl
  rw [hh]
  show (headB s).data.toList ++ (if (if preB s = true then spl (tailB s) else []) = [] then [] else 45 :: joinL 46 ((if preB s = true then spl (tailB s) else []).map (·.data.toList))) = _
  have hne : spl (tailB s) ≠ [] := fun u => by have := spl_len (tailB s); rw [u] at this; simp at this
  rcases cut_cases s with ⟨p1, p2, p3⟩ | ⟨p1, p2⟩
  · rw [p1, if_neg Bool.false_ne_true, if_pos rfl, List.append_nil, p2]
  · rw [p1, if_pos rfl, if_neg hne, p2, spl_eq, join_split]

end Go.Proofs.YthnajibbkinlkaaGreatDoor.PV

/- pure laws -/
import Derived.Test.YtcbgeakabchenaaDoorPreA
import Derived.Test.YtcbgeakabchenaaDoorPreP
namespace Go.Proofs.YtcbgeakabchenaaDoor.D
open Go.RowKit Go.Extern.Stop Go.Stop Go.Extern Go.Proofs.YtcbgeakabchenaaDoorW.PrintWords Go.Proofs.YtcbgeakabchenaaDoorW.PrintLast Go.Proofs.YtcbgeakabchenaaDoorW.PrintMore
set_option linter.unusedVariables false
set_option linter.unusedSimpArgs false
theorem manyB_neg (c : Int) (n : Nat) : manyB (-1) c n = n := if_pos (by decide)
theorem aF_all_put (before text : ByteArray) : afterF before text true (-1) = text := tl_inj (by
  rw [tl_afterF]
  unfold afterL
  rw [if_pos rfl, if_neg (by decide), manyB_neg, List.take_of_length_le (by rw [tl_len]; exact Nat.le_refl _)])
theorem aF_all_app (before text : ByteArray) : afterF before text false (-1) = before ++ text := tl_inj (by
  rw [tl_afterF, tl_append]
  unfold afterL
  rw [if_neg Bool.false_ne_true, manyB_neg, List.take_of_length_le (by rw [tl_len]; exact Nat.le_refl _)])
theorem aF_put0 (before text : ByteArray) : afterF before text true ((0 : Nat) : Int) = before := tl_inj (by
  rw [tl_afterF]
  unfold afterL
  rw [if_pos rfl, if_pos (show ((0 : Nat) : Int) = 0 from rfl)])
theorem aF_put (before text : ByteArray) (i : Nat) (h : 0 < i) : afterF before text true (i : Int) = text.extract 0 (min text.size (32 * (i - 1))) := tl_inj (by
  rw [tl_afterF, tl_extract]
  unfold afterL manyB
  rw [if_pos rfl, if_neg (by omega), if_neg (by omega), List.drop_zero, Nat.sub_zero]
  have : ((i : Int) - 1).toNat = i - 1 := by omega
  rw [this])
theorem aF_app (before text : ByteArray) (i : Nat) : afterF before text false (i : Int) = before ++ text.extract 0 (min text.size (32 * i)) := tl_inj (by
  rw [tl_afterF, tl_append, tl_extract]
  unfold afterL manyB
  rw [if_neg Bool.false_ne_true, if_neg (by omega), List.drop_zero, Nat.sub_zero]
  have : ((i : Int) - 0).toNat = i := by omega
  rw [this])
theorem ext_all (r : ByteArray) (n : Nat) (h : r.size ≤ n) : r.extract 0 n = r := tl_inj (by rw [tl_extract, List.drop_zero, Nat.sub_zero, List.take_of_length_le (by rw [tl_len]; exact h)])
theorem aF_need_put (before text : ByteArray) (i : Nat) (h : 0 < i) (h2 : text.size ≤ 32 * (i - 1)) : afterF before text true (i : Int) = text := by
  rw [aF_put before text i h, Nat.min_eq_left h2, ext_all text _ (Nat.le_refl _)]
theorem aF_need_app (before text : ByteArray) (i : Nat) (h2 : text.size ≤ 32 * i) : afterF before text false (i : Int) = before ++ text := by
  rw [aF_app before text i, Nat.min_eq_left h2, ext_all text _ (Nat.le_refl _)]
theorem aF_put00 (before text : ByteArray) : afterF before text true 0 = before := aF_put0 before text
theorem aF_one (before text : ByteArray) (h : text.size = 0) : afterF before text true 1 = text := aF_need_put before text 1 (by decide) (by omega)
end Go.Proofs.YtcbgeakabchenaaDoor.D

/- The plain law of DiskPrefix: what a cut call leaves of a file. -/
import Derived.Test.YtcbgeakabchenaaDoorPutC
namespace Go.Proofs.YtcbgeakabchenaaDoor.D
open Go.RowKit Go.Extern.Stop Go.Stop Go.Extern Go.Proofs.YtcbgeakabchenaaDoorW.PrintWords Go.Proofs.YtcbgeakabchenaaDoorW.PrintLast Go.Proofs.YtcbgeakabchenaaDoorW.PrintMore
set_option linter.unusedVariables false
set_option linter.unusedSimpArgs false
abbrev sF : ByteArray := ⟨#[102]⟩
theorem tl_extract (s : ByteArray) (a b : Nat) : tl (s.extract a b) = ((tl s).drop a).take (b - a) := by
  show (s.extract a b).data.toList = _
  simp [ByteArray.data_extract, tl]
theorem tl_append (a b : ByteArray) : tl (a ++ b) = tl a ++ tl b := by
  show (a ++ b).data.toList = _
  simp [tl]
theorem tl_len (a : ByteArray) : (tl a).length = a.size := Array.length_toList
/-- How many bytes are written. -/
def manyB (cut cnt : Int) (n : Nat) : Nat := if cut < 0 then n else min n (32 * (cut - cnt).toNat)
theorem addF_one (f : ByteArray) : ∀ (n : Nat) (x r : ByteArray) (cut cnt : Int) (d : Bool), r.size = n → 0 ≤ cnt → cnt + n < 4611686018427387904 → ∃ s' ok, addF ⟨[(f, x)], cut, cnt, d⟩ f r = (s', ok) ∧ ∃ y, s'.L = [(f, y)] ∧ tl y = tl x ++ (tl r).take (manyB cut cnt n) := by
  intro n
  induction n using Nat.strongRecOn with
  | ind n ih =>
    intro x r cut cnt d hn h0 hb
    rw [addF]
    by_cases hr : rawOk ⟨[(f, x)], cut, cnt, d⟩
    · rw [if_pos hr]
      have hr2 : ¬ (0 ≤ cut ∧ cut ≤ cnt) := hr
      by_cases h32 : r.size ≤ 32
      · rw [if_pos h32]
        refine ⟨_, _, rfl, lkD [(f, x)] f ++ r.extract 0 r.size, ?_, ?_⟩
        · show lay [(f, x)] f _ = _
          rw [lay, if_pos rfl]
        · have hx : lkD [(f, x)] f = x := by unfold lkD; rw [lk, if_pos rfl]; rfl
          rw [hx, tl_append, tl_extract]
          have hm : manyB cut cnt n = n := by
            unfold manyB
            split
            · rfl
            · have : 1 ≤ (cut - cnt).toNat := by omega
              omega
          rw [hm, List.drop_zero, Nat.sub_zero, hn]
      · rw [if_neg h32]
        have hp : pieceS ⟨[(f, x)], cut, cnt, d⟩ f (r.extract 0 32) = ⟨[(f, x ++ r.extract 0 32)], cut, cnt + 1, d⟩ := by
          have hx : lkD [(f, x)] f = x := by unfold lkD; rw [lk, if_pos rfl]; rfl
          unfold pieceS
          show St.mk (lay [(f, x)] f (lkD [(f, x)] f ++ r.extract 0 32)) cut (wrap64 (cnt + 1)) d = _
          rw [hx, lay, if_pos rfl]
          have hw : wrap64 (cnt + 1) = cnt + 1 := by unfold wrap64; omega
          rw [hw]
        rw [hp]
        have hrs : (r.extract 32 r.size).size = n - 32 := by rw [ByteArray.size_extract]; omega
        obtain ⟨s', ok, he, y, hL, hy⟩ := ih (n - 32) (by omega) (x ++ r.extract 0 32) (r.extract 32 r.size) cut (cnt + 1) d hrs (by omega) (by omega)
        refine ⟨s', ok, he, y, hL, ?_⟩
        rw [hy, tl_append, tl_extract, tl_extract, List.append_assoc]
        congr 1
        have hm : manyB cut cnt n = 32 + manyB cut (cnt + 1) (n - 32) := by
          unfold manyB
          split
          · omega
          · have : (cut - cnt).toNat = (cut - (cnt + 1)).toNat + 1 := by omega
            omega
        rw [hm, List.drop_zero, List.take_add]
        congr 1
        rw [List.take_of_length_le (l := (tl r).drop 32) (by rw [List.length_drop, tl_len]; exact Nat.le_refl _)]
    · rw [if_neg hr]
      have hr2 : 0 ≤ cut ∧ cut ≤ cnt := Decidable.not_not.1 hr
      refine ⟨_, _, rfl, x, rfl, ?_⟩
      have hm : manyB cut cnt n = 0 := by
        unfold manyB
        rw [if_neg (by omega)]
        have : (cut - cnt).toNat = 0 := by omega
        omega
      rw [hm, List.take_zero, List.append_nil]
def s2F (before : ByteArray) (k : Int) : St := ⟨[(sF, before)], k, 0, false⟩
theorem lkD_one (x : ByteArray) : lkD [(sF, x)] sF = x := by unfold lkD; rw [lk, if_pos rfl]; rfl
theorem able_s2 (before : ByteArray) (k : Int) : ableC (s2F before k) sF = 0 := rfl
theorem room_one (x : ByteArray) (cut cnt : Int) (d : Bool) (n : Nat) (h : n ≤ 16777216) : roomB ⟨[(sF, x)], cut, cnt, d⟩ sF n = true := by
  unfold roomB
  rw [decide_eq_true h]
  have e : lk [(sF, x)] sF = some x := by rw [lk, if_pos rfl]
  show (true && ((lk [(sF, x)] sF).isSome || _)) = true
  rw [e]
  rfl
/-- The first file, put. -/
theorem put_first (before : ByteArray) (h : before.size ≤ 4000) : ∃ s1, putF ⟨[], -1, 0, false⟩ sF before = (s1, 0) ∧ s1.L = [(sF, before)] := by
  have hr : roomB ⟨[], -1, 0, false⟩ sF before.size = true := by
    unfold roomB
    rw [decide_eq_true (by omega : before.size ≤ 16777216)]
    rfl
  have hw : wrap64 (0 + 1) = 1 := by unfold wrap64; omega
  have hp : putS ⟨[], -1, 0, false⟩ sF = ⟨[(sF, ⟨#[]⟩)], -1, 1, false⟩ := by
    unfold putS
    rw [hw]
    rfl
  have hraw : rawOk ⟨[], -1, 0, false⟩ := by decide
  have hR : ∃ s1, putR ⟨[], -1, 0, false⟩ sF before = (s1, true) ∧ s1.L = [(sF, before)] := by
    unfold putR
    rw [if_pos hraw, hp]
    by_cases hz : before.size = 0
    · rw [if_pos hz]
      refine ⟨_, rfl, ?_⟩
      have : before = ⟨#[]⟩ := tl_inj (by rw [List.length_eq_zero_iff.1 (show (tl before).length = 0 by rw [tl_len]; exact hz)])
      rw [this]
    · rw [if_neg hz]
      obtain ⟨s', ok, he, y, hL, hy⟩ := addF_one sF before.size ⟨#[]⟩ before (-1) 1 false rfl (by decide) (by omega)
      have hok : ∀ (n : Nat) (x r : ByteArray) (cnt : Int), r.size = n → (addF ⟨[(sF, x)], -1, cnt, false⟩ sF r).2 = true := by
        intro n
        induction n using Nat.strongRecOn with
        | ind n ih =>
          intro x r cnt hn
          have hrw : rawOk ⟨[(sF, x)], -1, cnt, false⟩ := by rintro ⟨h1, _⟩; have h2 : (0 : Int) ≤ -1 := h1; omega
          rw [addF, if_pos hrw]
          by_cases h32 : r.size ≤ 32
          · rw [if_pos h32]
          · rw [if_neg h32]
            have hpp : pieceS ⟨[(sF, x)], -1, cnt, false⟩ sF (r.extract 0 32) = ⟨[(sF, lkD [(sF, x)] sF ++ r.extract 0 32)], -1, wrap64 (cnt + 1), false⟩ := by
              unfold pieceS
              show St.mk (lay [(sF, x)] sF _) _ _ _ = _
              rw [lay, if_pos rfl]
            rw [hpp]
            exact ih (n - 32) (by omega) _ _ _ (by rw [ByteArray.size_extract]; omega)
      have h2 := hok before.size ⟨#[]⟩ before 1 rfl
      rw [he] at h2
      refine ⟨s', by rw [he]; congr 1, ?_⟩
      rw [hL]
      have : y = before := tl_inj (by rw [hy, manyB, if_pos (by decide), List.take_of_length_le (by rw [tl_len]; exact Nat.le_refl _)]; rfl)
      rw [this]
  obtain ⟨s1, h1, h2⟩ := hR
  refine ⟨s1, ?_, h2⟩
  unfold putF
  rw [if_neg (by decide), if_pos hr, h1]
  rfl
/-- What the file has behind a call that was cut. -/
def afterL (before text : ByteArray) (put : Bool) (k : Int) : BL :=
  if put = true then (if k = 0 then tl before else (tl text).take (manyB k 1 text.size))
  else tl before ++ (tl text).take (manyB k 0 text.size)
theorem put_again (before text : ByteArray) (k : Int) (hk : -1 ≤ k) (h : text.size ≤ 4000) : ∃ y, (putF (s2F before k) sF text).1.L = [(sF, y)] ∧ tl y = afterL before text true k := by
  have hw : wrap64 (0 + 1) = 1 := by unfold wrap64; omega
  unfold putF afterL
  have hrm : roomB (s2F before k) sF text.size = true := room_one before k 0 false text.size (by omega)
  rw [if_neg (by rw [able_s2]; decide), if_pos hrm, if_pos rfl]
  show ∃ y, (putR (s2F before k) sF text).1.L = _ ∧ _
  have hp : putS (s2F before k) sF = ⟨[(sF, ⟨#[]⟩)], k, 1, false⟩ := by
    unfold putS s2F
    show St.mk (lay [(sF, before)] sF ⟨#[]⟩) k (wrap64 (0 + 1)) false = _
    rw [lay, if_pos rfl, hw]
  unfold putR
  by_cases h0 : k = 0
  · subst h0
    have hr : ¬ rawOk (s2F before 0) := fun h => h ⟨Int.le_refl 0, Int.le_refl 0⟩
    rw [if_neg hr, if_pos rfl]
    exact ⟨before, rfl, rfl⟩
  · have hr : rawOk (s2F before k) := by rintro ⟨h1, h2⟩; have h1' : 0 ≤ k := h1; have h2' : k ≤ 0 := h2; omega
    rw [if_pos hr, if_neg h0, hp]
    by_cases hz : text.size = 0
    · rw [if_pos hz]
      refine ⟨⟨#[]⟩, rfl, ?_⟩
      rw [List.length_eq_zero_iff.1 (show (tl text).length = 0 by rw [tl_len]; exact hz)]
      simp
    · rw [if_neg hz]
      obtain ⟨s', ok, he, y, hL, hy⟩ := addF_one sF text.size ⟨#[]⟩ text k 1 false rfl (by decide) (by omega)
      rw [he]
      exact ⟨y, hL, by rw [hy]; rfl⟩
theorem app_again (before text : ByteArray) (k : Int) (hk : -1 ≤ k) (h : before.size + text.size ≤ 4000) : ∃ y, (appendF (s2F before k) sF text).1.L = [(sF, y)] ∧ tl y = afterL before text false k := by
  unfold appendF afterL
  have hl : lkD (s2F before k).L sF = before := lkD_one before
  have hrm : roomB (s2F before k) sF (before.size + text.size) = true := room_one before k 0 false (before.size + text.size) (by omega)
  rw [if_neg (by rw [able_s2]; decide), hl, if_pos hrm, if_neg (show ¬ (false = true) from Bool.false_ne_true)]
  obtain ⟨s', ok, he, y, hL, hy⟩ := addF_one sF text.size before text k 0 false rfl (by decide) (by omega)
  show ∃ y, (addF (s2F before k) sF text).1.L = _ ∧ _
  unfold s2F
  rw [he]
  exact ⟨y, hL, hy⟩
end Go.Proofs.YtcbgeakabchenaaDoor.D

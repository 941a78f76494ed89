/- The log's plain law: file names, sums, records. The sum of bytes. The head of a record. A record, and what is in front of bytes. What is in front of bytes. frame.All. The document's sums and records. The document's Front. The document's All of a file's records. -/
import Derived.Test.YtmceikfbgmcmaaaGreatDoorDisA
import Derived.Test.YtmceikfbgmcmaaaGreatDoorWMore
import Derived.Test.YtmceikfbgmcmaaaGreatDoorWLast
import Derived.Lib.ItoaNum
import Derived.Lib.AtoiAll
import Derived.Test.YtmceikfbgmcmaaaGreatDoorProg
import Derived.WalkKit
import Derived.BigQuiet
import Derived.Deep.QuietTactic
import Derived.Laws.Bits64
import Derived.Laws.Closers25
import Derived.Laws.Closers25b
import Derived.Lib.ConvBytes
import Derived.Lib.Bytealg
import Derived.Deep.WholeRow
import Derived.Maps.AppendAt
import Derived.Laws.MakeOwn
import Derived.Deep.RegionHeld3
namespace Go.Proofs.YtmceikfbgmcmaaaGreatDoor.D
open Go.RowKit Go.Extern.Stop Go.Stop Go.Extern Go.Proofs.YtmceikfbgmcmaaaGreatDoorW.PrintWords Go.Proofs.YtmceikfbgmcmaaaGreatDoorW.PrintLast Go.Proofs.YtmceikfbgmcmaaaGreatDoorW.PrintMore
set_option linter.unusedVariables false
set_option linter.unusedSimpArgs false
section
/-- A number's eight digits. -/
def pad8 (n : Nat) : BL := (List.range 8).map fun t => Lib.dg n (7 - t)
/-- The n-th file's name. -/
def fileL (n : Nat) : BL := [108, 111, 103, 47] ++ pad8 n
def fileF (n : Nat) : ByteArray := ⟨(fileL n).toArray⟩
theorem tl_fileF (n : Nat) : tl (fileF n) = fileL n := by simp [fileF]
theorem pad8_len (n : Nat) : (pad8 n).length = 8 := by simp [pad8]
theorem pad8_eq (n : Nat) : pad8 n = [Lib.dg n 7, Lib.dg n 6, Lib.dg n 5, Lib.dg n 4, Lib.dg n 3, Lib.dg n 2, Lib.dg n 1, Lib.dg n 0] := rfl
theorem fileF_size (n : Nat) : (fileF n).size = 12 := by
  show (fileL n).toArray.size = 12
  simp [fileL, pad8_len]
theorem dg_zero {n j : Nat} (h : n < 10 ^ j) : Lib.dg n j = 48 := by
  unfold Lib.dg
  rw [Nat.div_eq_of_lt h]
  rfl
theorem byte_nat (y : Nat) : (UInt8.ofNat y).toNat = y % 256 := rfl
theorem dg_nat (n j : Nat) : (Lib.dg n j).toNat = 48 + n / 10 ^ j % 10 := by
  unfold Lib.dg
  rw [byte_nat]
  have : n / 10 ^ j % 10 < 10 := Nat.mod_lt _ (by decide)
  omega
/-- Zeros ahead of the digits. -/
theorem pad8_dec (n : Nat) (h : n < 100000000) : (Lib.decDigits n).length ≤ 8 ∧ List.replicate (8 - (Lib.decDigits n).length) 48 ++ Lib.decDigits n = pad8 n := by
  have key : ∀ k, k < 8 → (k ≠ 0 → 10 ^ k ≤ n) → n < 10 ^ (k + 1) → (Lib.decDigits n).length ≤ 8 ∧ List.replicate (8 - (Lib.decDigits n).length) 48 ++ Lib.decDigits n = pad8 n := by
    intro k hk h0 h1
    have hd : Lib.nDigits n = k + 1 := by
      by_cases k0 : k = 0
      · subst k0; exact Lib.nDigits_small h1
      · exact Lib.nDigits_unique k n (h0 k0) h1
    have hz : ∀ j, k < j → Lib.dg n j = 48 := fun j hj => dg_zero (Nat.lt_of_lt_of_le h1 (Nat.pow_le_pow_right (by decide) hj))
    rw [Lib.decDigits_length, hd, Lib.decDigits_eq, hd, pad8_eq]
    refine ⟨by omega, ?_⟩
    match k, hk, hz with
    | 0, _, hz => simp [List.range_succ, List.replicate, hz]
    | 1, _, hz => simp [List.range_succ, List.replicate, hz]
    | 2, _, hz => simp [List.range_succ, List.replicate, hz]
    | 3, _, hz => simp [List.range_succ, List.replicate, hz]
    | 4, _, hz => simp [List.range_succ, List.replicate, hz]
    | 5, _, hz => simp [List.range_succ, List.replicate, hz]
    | 6, _, hz => simp [List.range_succ, List.replicate, hz]
    | 7, _, hz => simp [List.range_succ, List.replicate, hz]
  rcases Nat.lt_or_ge n 10 with q | q
  · exact key 0 (by omega) (fun e => absurd rfl e) q
  rcases Nat.lt_or_ge n 100 with q2 | q2
  · exact key 1 (by omega) (fun _ => q) q2
  rcases Nat.lt_or_ge n 1000 with q3 | q3
  · exact key 2 (by omega) (fun _ => q2) q3
  rcases Nat.lt_or_ge n 10000 with q4 | q4
  · exact key 3 (by omega) (fun _ => q3) q4
  rcases Nat.lt_or_ge n 100000 with q5 | q5
  · exact key 4 (by omega) (fun _ => q4) q5
  rcases Nat.lt_or_ge n 1000000 with q6 | q6
  · exact key 5 (by omega) (fun _ => q5) q6
  rcases Nat.lt_or_ge n 10000000 with q7 | q7
  · exact key 6 (by omega) (fun _ => q6) q7
  · exact key 7 (by omega) (fun _ => q7) h
/-- A decimal text's number. -/
def valD (a : Nat) (l : BL) : Nat := l.foldl (fun x c => 10 * x + (c.toNat - 48)) a
theorem valD_cons (a : Nat) (c : UInt8) (r : BL) : valD a (c :: r) = valD (10 * a + (c.toNat - 48)) r := by unfold valD; rw [List.foldl_cons]
def digB (c : UInt8) : Bool := decide (48 ≤ c.toNat) && decide (c.toNat ≤ 57)
def numberL (l : BL) : Nat := if l.length = 12 ∧ l.take 4 = [108, 111, 103, 47] ∧ (l.drop 4).all digB = true then valD 0 (l.drop 4) else 0
/-- Which file of a log a name is of; 0: none. -/
def numberF (name : ByteArray) : Nat := numberL (tl name)
theorem valD_dg (n k : Nat) : valD (n / 10 ^ k) ((List.range k).map fun t => Lib.dg n (k - 1 - t)) = n := by
  induction k with
  | zero => rw [Nat.pow_zero, Nat.div_one]; rfl
  | succ k ih =>
    rw [List.range_succ_eq_map, List.map_cons, valD_cons, dg_nat, List.map_map]
    have h1 : 10 * (n / 10 ^ (k + 1)) + (48 + n / 10 ^ (k + 1 - 1 - 0) % 10 - 48) = n / 10 ^ k := by
      rw [Nat.pow_succ, ← Nat.div_div_eq_div_mul, show k + 1 - 1 - 0 = k by omega]
      omega
    have h2 : ((fun t => Lib.dg n (k + 1 - 1 - t)) ∘ Nat.succ) = fun t => Lib.dg n (k - 1 - t) := by
      funext t
      show Lib.dg n (k + 1 - 1 - (t + 1)) = _
      rw [show k + 1 - 1 - (t + 1) = k - 1 - t by omega]
    rw [h1, h2]
    exact ih
theorem valD_pad8 (n : Nat) (h : n < 100000000) : valD 0 (pad8 n) = n := by
  have h1 := valD_dg n 8
  have h2 : n / 10 ^ 8 = 0 := Nat.div_eq_of_lt h
  rw [h2] at h1
  exact h1
theorem pad8_dig (n : Nat) : (pad8 n).all digB = true := by
  rw [List.all_eq_true]
  intro c hc
  unfold pad8 at hc
  obtain ⟨t, _, rfl⟩ := List.mem_map.1 hc
  unfold digB
  rw [dg_nat]
  have : n / 10 ^ (7 - t) % 10 < 10 := Nat.mod_lt _ (by decide)
  rw [decide_eq_true (by omega), decide_eq_true (by omega)]
  rfl
theorem number_file (n : Nat) (h : n < 100000000) : numberF (fileF n) = n := by
  unfold numberF numberL
  rw [tl_fileF]
  have h1 : (fileL n).length = 12 := by unfold fileL; rw [List.length_append, pad8_len]; rfl
  have h2 : (fileL n).take 4 = [108, 111, 103, 47] := rfl
  have h3 : (fileL n).drop 4 = pad8 n := rfl
  rw [h3, if_pos ⟨h1, h2, pad8_dig n⟩, valD_pad8 n h]
theorem dig_val {c : UInt8} (hc : digB c = true) : 48 ≤ c.toNat ∧ c.toNat ≤ 57 := by
  unfold digB at hc
  rw [Bool.and_eq_true, decide_eq_true_eq, decide_eq_true_eq] at hc
  exact hc
theorem valD_inj (l : BL) : ∀ (m : BL) (a b : Nat), l.length = m.length → l.all digB = true → m.all digB = true → valD a l = valD b m → a = b ∧ l = m := by
  induction l with
  | nil =>
    intro m a b hl _ _ h
    have : m = [] := List.eq_nil_of_length_eq_zero hl.symm
    subst this
    exact ⟨h, rfl⟩
  | cons c r ih =>
    intro m a b hl h1 h2 h
    cases m with
    | nil => cases hl
    | cons d q =>
      rw [List.all_cons, Bool.and_eq_true] at h1 h2
      rw [valD_cons, valD_cons] at h
      obtain ⟨e1, e2⟩ := ih q _ _ (by rw [List.length_cons, List.length_cons] at hl; omega) h1.2 h2.2 h
      have hc := dig_val h1.1
      have hd := dig_val h2.1
      have e3 : c = d := UInt8.toNat_inj.1 (by omega)
      exact ⟨by omega, by rw [e2, e3]⟩
theorem valD_lt (l : BL) : ∀ a, l.all digB = true → valD a l < (a + 1) * 10 ^ l.length := by
  induction l with
  | nil => intro a _; show a < (a + 1) * 1; omega
  | cons c r ih =>
    intro a h
    rw [List.all_cons, Bool.and_eq_true] at h
    have hc := dig_val h.1
    have h1 := ih (10 * a + (c.toNat - 48)) h.2
    rw [valD_cons, List.length_cons, Nat.pow_succ]
    refine Nat.lt_of_lt_of_le h1 ?_
    have h2 : 10 * a + (c.toNat - 48) + 1 ≤ (a + 1) * 10 := by omega
    calc (10 * a + (c.toNat - 48) + 1) * 10 ^ r.length ≤ (a + 1) * 10 * 10 ^ r.length := Nat.mul_le_mul_right _ h2
      _ = (a + 1) * (10 ^ r.length * 10) := by rw [Nat.mul_assoc, Nat.mul_comm 10]
theorem eq_pad8 {l : BL} (hl : l.length = 8) (hd : l.all digB = true) : l = pad8 (valD 0 l) ∧ valD 0 l < 100000000 := by
  have h1 : valD 0 l < 100000000 := by have := valD_lt l 0 hd; rw [hl] at this; simpa using this
  refine ⟨?_, h1⟩
  exact (valD_inj l (pad8 (valD 0 l)) 0 0 (by rw [hl, pad8_len]) hd (pad8_dig _) (valD_pad8 _ h1).symm).2
theorem file_number {name : ByteArray} (h : 1 ≤ numberF name) : fileF (numberF name) = name ∧ numberF name < 100000000 := by
  unfold numberF numberL at h ⊢
  by_cases q : (tl name).length = 12 ∧ (tl name).take 4 = [108, 111, 103, 47] ∧ ((tl name).drop 4).all digB = true
  · rw [if_pos q] at h ⊢
    obtain ⟨q1, q2, q3⟩ := q
    obtain ⟨e1, e2⟩ := eq_pad8 (l := (tl name).drop 4) (by rw [List.length_drop, q1]) q3
    refine ⟨tl_inj ?_, e2⟩
    rw [tl_fileF]
    unfold fileL
    rw [← e1, ← q2, List.take_append_drop]
  · rw [if_neg q] at h
    omega
theorem fileF_inj {m n : Nat} (hm : m < 100000000) (hn : n < 100000000) (h : fileF m = fileF n) : m = n := by
  rw [← number_file m hm, ← number_file n hn, h]
/-- A number as k bytes, the greatest first. -/
def be (k x : Nat) : BL := (List.range k).map fun i => UInt8.ofNat (x / 2 ^ (8 * (k - 1 - i)))
theorem be4 (x : Nat) : be 4 x = [UInt8.ofNat (x / 16777216), UInt8.ofNat (x / 65536), UInt8.ofNat (x / 256), UInt8.ofNat x] := by
  simp [be, List.range_succ]
theorem be_len (k x : Nat) : (be k x).length = k := by simp [be]
def num4 (s : BL) : Nat := ((((s.getD 0 0).toNat * 256 + (s.getD 1 0).toNat) * 256 + (s.getD 2 0).toNat) * 256 + (s.getD 3 0).toNat)
theorem num4_be (x : Nat) (h : x < 4294967296) (r : BL) : num4 (be 4 x ++ r) = x := by
  rw [be4]
  simp only [num4, List.cons_append, List.getD_cons_zero, List.getD_cons_succ, byte_nat]
  omega
/-- FNV-1a, byte by byte. -/
def mulU (x : Nat) (c : UInt8) : Nat := (x ^^^ c.toNat) * 1099511628211 % 18446744073709551616
def moreN : Nat → BL → Nat
  | x, [] => x
  | x, c :: r => moreN (mulU x c) r
theorem moreN_append (a b : BL) : ∀ x, moreN x (a ++ b) = moreN (moreN x a) b := by
  induction a with
  | nil => intro x; rfl
  | cons c r ih => intro x; exact ih _
theorem moreN_lt (l : BL) : ∀ x, x < 18446744073709551616 → moreN x l < 18446744073709551616 := by
  induction l with
  | nil => intro x h; exact h
  | cons c r ih => intro x h; exact ih _ (Nat.mod_lt _ (by decide))
/-- What stands ahead of a payload. -/
def headF (p : BL) : BL := be 4 p.length ++ be 8 (moreN 14695981039346656037 (be 4 p.length ++ p))
theorem headF_len (p : BL) : (headF p).length = 12 := by unfold headF; rw [List.length_append, be_len, be_len]
def recF (p : BL) : BL := headF p ++ p
theorem recF_len (p : BL) : (recF p).length = 12 + p.length := by unfold recF; rw [List.length_append, headF_len]
/-- The payload in front, or why there is none. -/
def frontF (s : BL) : Sum Nat BL :=
  if s.length < 12 then .inl 40
  else if 131072 < num4 s then .inl 4
  else if s.length - 12 < num4 s then .inl 40
  else if headF ((s.drop 12).take (num4 s)) = s.take 12 then .inr ((s.drop 12).take (num4 s)) else .inl 41
theorem front_rec (p r : BL) (h : p.length ≤ 131072) : frontF (recF p ++ r) = .inr p := by
  have h1 : (recF p ++ r).length = 12 + p.length + r.length := by rw [List.length_append, recF_len]
  have h2 : num4 (recF p ++ r) = p.length := by
    unfold recF headF
    rw [List.append_assoc, List.append_assoc]
    exact num4_be _ (by omega) _
  have h3 : (recF p ++ r).drop 12 = p ++ r := by
    unfold recF
    rw [List.append_assoc]
    exact List.drop_left' (headF_len p)
  have h4 : (recF p ++ r).take 12 = headF p := by
    unfold recF
    rw [List.append_assoc]
    exact List.take_left' (headF_len p)
  unfold frontF
  rw [if_neg (by omega), h2, if_neg (by omega), if_neg (by omega), h3, h4, List.take_left, if_pos rfl]
/-- What is cut off a record is none. -/
theorem front_cut (p : BL) (n : Nat) (h : p.length ≤ 131072) (hn : n < (recF p).length) : frontF ((recF p).take n) = .inl 40 := by
  rw [recF_len] at hn
  have h1 : ((recF p).take n).length = n := by rw [List.length_take, recF_len]; omega
  unfold frontF
  by_cases q : n < 12
  · rw [if_pos (by omega)]
  · have h2 : num4 ((recF p).take n) = p.length := by
      unfold recF headF
      rw [List.append_assoc, List.take_append, List.take_of_length_le (by rw [be_len]; omega)]
      exact num4_be _ (by omega) _
    rw [if_neg (by omega), h2, if_neg (by omega), if_pos (by omega)]
/-- The payloads of a file's records, so many bytes looked at. -/
def recsN : Nat → BL → List BL
  | 0, _ => []
  | k + 1, s => match frontF s with
    | .inr p => p :: recsN k (s.drop (12 + p.length))
    | .inl _ => []
def recsF (s : BL) : List BL := recsN s.length s
theorem front_len {s p : BL} (h : frontF s = .inr p) : 12 + p.length ≤ s.length ∧ p.length ≤ 131072 := by
  unfold frontF at h
  split at h
  · cases h
  · split at h
    · cases h
    · split at h
      · cases h
      · split at h
        · injection h with h
          rw [← h, List.length_take, List.length_drop]
          omega
        · cases h
theorem recsN_more (k : Nat) : ∀ (s : BL), s.length ≤ k → recsN (k + 1) s = recsN k s := by
  induction k with
  | zero =>
    intro s h
    have : s = [] := List.eq_nil_of_length_eq_zero (by omega)
    subst this
    rfl
  | succ k ih =>
    intro s h
    rw [recsN, recsN]
    cases hf : frontF s with
    | inl c => rfl
    | inr p =>
      have := front_len hf
      simp only
      rw [ih _ (by rw [List.length_drop]; omega)]
theorem recsN_enough (s : BL) : ∀ k, s.length ≤ k → recsN k s = recsF s := by
  intro k hk
  obtain ⟨d, rfl⟩ : ∃ d, k = s.length + d := ⟨k - s.length, by omega⟩
  induction d with
  | zero => rfl
  | succ d ih => rw [← Nat.add_assoc, recsN_more _ _ (by omega), ih (by omega)]
theorem recsF_ok {s p : BL} (h : frontF s = .inr p) : recsF s = p :: recsF (s.drop (12 + p.length)) := by
  have hl := front_len h
  obtain ⟨k, hk⟩ : ∃ k, s.length = k + 1 := ⟨s.length - 1, by omega⟩
  unfold recsF
  rw [hk, recsN, h]
  simp only
  rw [recsN_enough _ k (by rw [List.length_drop]; omega)]
  rfl
theorem recsF_bad {s : BL} {c : Nat} (h : frontF s = .inl c) : recsF s = [] := by
  unfold recsF
  cases hs : s.length with
  | zero => rfl
  | succ k => rw [recsN, h]
theorem recsF_nil : recsF [] = [] := rfl
end
section
theorem take_more (s : ByteArray) (x i : Nat) (h : i < s.size) : moreN x ((tl s).take (i + 1)) = mulU (moreN x ((tl s).take i)) s[i] := by
  have hl : i < (tl s).length := by rw [Array.length_toList]; exact h
  rw [List.take_succ_eq_append_getElem hl, moreN_append]
  rfl
theorem mul_eq (m : Nat) (c : UInt8) (hm : m < 18446744073709551616) : IntKind.u64.wrap (bits BinOp.xor IntKind.u64 (m : Int) (IntKind.u64.wrap (c.toNat : Int)) * 1099511628211) = (mulU m c : Int) := by
  have hc : c.toNat < 256 := c.toNat_lt
  rw [IntKind.wrap_u64, IntKind.wrap_u64, show ((c.toNat : Int) % 18446744073709551616) = (c.toNat : Int) by omega, bits_xor_u64_nat _ _ hm (by omega)]
  unfold mulU
  omega
set_option maxHeartbeats 8000000 in
theorem more_calls (x : Nat) (s : ByteArray) (w : World) (hx : x < 18446744073709551616) (hs : s.size ≤ 9223372036854775807) : Calls Tryz.prog 107 #[.int .u64 (x : Int), .string s] w fun e w' => e = .returned (.int .u64 (moreN x (tl s) : Int)) ∧ w = w' := by
  go_enter Tryz.func107, Tryz.ntmps107
  go_wp2_with (fail)
  go_loopw [0, 5, 8] (fun v0 v5 v8 wr => ∃ i : Nat, i ≤ s.size ∧ v8 = .int .i64 i ∧ v0 = .int .u64 (moreN x ((tl s).take i) : Int) ∧ Aside0 (w = wr)) (fun _ _ v8 _ => s.size - (intOf v8).toNat)
  case atStart => exact ⟨0, Nat.zero_le _, rfl, by rw [List.take_zero]; rfl, ⟨rfl⟩⟩
  case round =>
    obtain ⟨i, hi, rfl, rfl, HW⟩ := hrel
    by_cases h1 : i < s.size
    · have h1' : (i : Int) < (s.size : Int) := by omega
      have h0' : (0 : Int) ≤ (i : Int) := by omega
      have HT := Aside0.mk (take_more s x i h1)
      have hss : s.size ≤ 9223372036854775807 := hs
      have hlt := moreN_lt ((tl s).take i) x hx
      obtain ⟨m, hm⟩ : ∃ m, moreN x ((tl s).take i) = m := ⟨_, rfl⟩
      rw [hm] at HT hlt
      rw [hm]
      obtain ⟨c, hc⟩ : ∃ c, s[i]'h1 = c := ⟨_, rfl⟩
      rw [hc] at HT
      go_wp2_with (fail)
      exact ⟨⟨i + 1, by omega, by simp, by rw [mul_eq _ _ hlt, HT.out], HW⟩, by simp [intOf]; omega⟩
    · have h1' : ¬ (i : Int) < (s.size : Int) := by omega
      have HT : Aside0 ((tl s).take i = tl s) := ⟨List.take_of_length_le (by rw [Array.length_toList]; exact Nat.not_lt.1 h1)⟩
      rw [HT.out]
      go_wp2_with (fail)
      go_ret
      exact ⟨rfl, HW.out⟩
theorem sumof_calls (s : ByteArray) (w : World) (hs : s.size ≤ 9223372036854775807) : Calls Tryz.prog 108 #[.string s] w fun e w' => e = .returned (.int .u64 (moreN 14695981039346656037 (tl s) : Int)) ∧ w = w' := by
  have HC := Aside0.mk (more_calls 14695981039346656037 s w (by decide) hs)
  clear hs
  go_enter Tryz.func108, Tryz.ntmps108
  go_wp2_with (fail)
  refine HC.out.mono ?_
  rintro e w1 ⟨rfl, rfl⟩
  go_wp2_with (fail)
  go_ret
  exact ⟨rfl, rfl⟩
end
section
theorem two_heap (w : World) (A B : Obj) : ((w.alloc A).alloc B).heap[w.heap.size]? = some A := by
  have h : w.heap.size < (w.alloc A).heap.size := by simp
  rw [heap_alloc_old (w.alloc A) B h]
  exact heap_alloc_new w A
abbrev z8 : Value := .int .u8 0
/-- A head, begun: its four bytes of length. -/
abbrev h4 (n : Nat) (a b c d e f g h : Value) : Obj := .cells #[.int .u8 ((n : Int) / 16777216), .int .u8 ((n : Int) / 65536 % 256), .int .u8 ((n : Int) / 256 % 256), .int .u8 ((n : Int) % 256), a, b, c, d, e, f, g, h] 114
theorem conv4 (W : World) (n : Nat) (hn : n ≤ 4294967295) (a b c d e f g h : Value) : (convert 116 9 (.slice (some ⟨W.heap.size, 0, none⟩) 4 12)).run Tryz.prog (W.alloc (h4 n a b c d e f g h)) = .ok (.string ⟨(be 4 n).toArray⟩) (W.alloc (h4 n a b c d e f g h)) := by
  rw [be4]
  refine run_convert_bytes_back _ 116 9 5 ⟨W.heap.size, 0, none⟩ 12 [UInt8.ofNat (n / 16777216), UInt8.ofNat (n / 65536), UInt8.ofNat (n / 256), UInt8.ofNat n] Tryz.underlying116 Tryz.underlying5 Tryz.underlying9 fun j hj => ?_
  have hb := heap_alloc_new W (h4 n a b c d e f g h)
  have ha : (⟨W.heap.size, 0, none⟩ : Addr).add j = ⟨W.heap.size, j, none⟩ := by simp [Addr.add]; omega
  rw [ha, cell_of_row _ _ _ _ _ _ hb]
  match j, hj with
  | 0, _ => show some (Value.int .u8 ((n : Int) / 16777216)) = some (.int .u8 (((UInt8.ofNat (n / 16777216)).toNat : Nat) : Int)); rw [byte_nat]; congr 2; omega
  | 1, _ => show some (Value.int .u8 ((n : Int) / 65536 % 256)) = some (.int .u8 (((UInt8.ofNat (n / 65536)).toNat : Nat) : Int)); rw [byte_nat]; congr 2
  | 2, _ => show some (Value.int .u8 ((n : Int) / 256 % 256)) = some (.int .u8 (((UInt8.ofNat (n / 256)).toNat : Nat) : Int)); rw [byte_nat]; congr 2
  | 3, _ => show some (Value.int .u8 ((n : Int) % 256)) = some (.int .u8 (((UInt8.ofNat n).toNat : Nat) : Int)); rw [byte_nat]; congr 2
theorem be8 (x : Nat) : be 8 x = [UInt8.ofNat (x / 72057594037927936), UInt8.ofNat (x / 281474976710656), UInt8.ofNat (x / 1099511627776), UInt8.ofNat (x / 4294967296), UInt8.ofNat (x / 16777216), UInt8.ofNat (x / 65536), UInt8.ofNat (x / 256), UInt8.ofNat x] := by
  simp [be, List.range_succ]
theorem head_val (n x : Nat) (hn : n ≤ 4294967295) (hx : x < 18446744073709551616) : #[Value.int .u8 ((n : Int) / 16777216), .int .u8 ((n : Int) / 65536 % 256), .int .u8 ((n : Int) / 256 % 256), .int .u8 ((n : Int) % 256), .int .u8 ((x : Int) / 72057594037927936), .int .u8 ((x : Int) / 281474976710656 % 256), .int .u8 ((x : Int) / 1099511627776 % 256), .int .u8 ((x : Int) / 4294967296 % 256), .int .u8 ((x : Int) / 16777216 % 256), .int .u8 ((x : Int) / 65536 % 256), .int .u8 ((x : Int) / 256 % 256), .int .u8 ((x : Int) % 256)] = ((be 4 n ++ be 8 x).map fun c => Value.int .u8 (c.toNat : Int)).toArray := by
  have a1 : ((n / 16777216 % 256 : Nat) : Int) = (n : Int) / 16777216 := by omega
  have a2 : ((n / 65536 % 256 : Nat) : Int) = (n : Int) / 65536 % 256 := by omega
  have a3 : ((n / 256 % 256 : Nat) : Int) = (n : Int) / 256 % 256 := by omega
  have a4 : ((n % 256 : Nat) : Int) = (n : Int) % 256 := by omega
  have b1 : ((x / 72057594037927936 % 256 : Nat) : Int) = (x : Int) / 72057594037927936 := by omega
  have b2 : ((x / 281474976710656 % 256 : Nat) : Int) = (x : Int) / 281474976710656 % 256 := by omega
  have b3 : ((x / 1099511627776 % 256 : Nat) : Int) = (x : Int) / 1099511627776 % 256 := by omega
  have b4 : ((x / 4294967296 % 256 : Nat) : Int) = (x : Int) / 4294967296 % 256 := by omega
  have b5 : ((x / 16777216 % 256 : Nat) : Int) = (x : Int) / 16777216 % 256 := by omega
  have b6 : ((x / 65536 % 256 : Nat) : Int) = (x : Int) / 65536 % 256 := by omega
  have b7 : ((x / 256 % 256 : Nat) : Int) = (x : Int) / 256 % 256 := by omega
  have b8 : ((x % 256 : Nat) : Int) = (x : Int) % 256 := by omega
  rw [be4, be8]
  simp only [List.cons_append, List.nil_append, List.map_cons, List.map_nil, byte_nat, a1, a2, a3, a4, b1, b2, b3, b4, b5, b6, b7, b8]
set_option maxHeartbeats 16000000 in
set_option maxRecDepth 100000 in
theorem head_calls (s : ByteArray) (w : World) (hs : s.size ≤ 4294967295) : Calls Tryz.prog 87 #[.string s] w fun e w' => e = .returned (.agg ((headF (tl s)).map fun c => Value.int .u8 (c.toNat : Int)).toArray) ∧ Below w.heap.size w w' := by
  have hc := conv4 (w.alloc (.cells #[z8, z8, z8, z8, z8, z8, z8, z8, z8, z8, z8, z8] 114)) s.size hs z8 z8 z8 z8 z8 z8 z8 z8
  rw [show (w.alloc (.cells #[z8, z8, z8, z8, z8, z8, z8, z8, z8, z8, z8, z8] 114)).heap.size = w.heap.size + 1 by simp] at hc
  have HSO : Aside0 (∀ W, Calls Tryz.prog 108 #[.string ⟨(be 4 s.size).toArray⟩] W fun e w' => e = .returned (.int .u64 (moreN 14695981039346656037 (be 4 s.size) : Int)) ∧ W = w') := ⟨fun W => by have := sumof_calls ⟨(be 4 s.size).toArray⟩ W (by show (be 4 s.size).toArray.size ≤ _; rw [List.size_toArray, be_len]; decide); simpa using this⟩
  have HMO : Aside0 (∀ W, Calls Tryz.prog 107 #[.int .u64 (moreN 14695981039346656037 (be 4 s.size) : Int), .string s] W fun e w' => e = .returned (.int .u64 (moreN (moreN 14695981039346656037 (be 4 s.size)) (tl s) : Int)) ∧ W = w') := ⟨fun W => more_calls _ s W (moreN_lt _ _ (by decide)) (by omega)⟩
  have HX : Aside0 (moreN (moreN 14695981039346656037 (be 4 s.size)) (tl s) < 18446744073709551616) := ⟨moreN_lt _ _ (moreN_lt _ _ (by decide))⟩
  have HH : Aside0 (headF (tl s) = be 4 s.size ++ be 8 (moreN (moreN 14695981039346656037 (be 4 s.size)) (tl s))) := ⟨by unfold headF; rw [moreN_append, show (tl s).length = s.size from Array.length_toList]⟩
  rw [HH.out]
  obtain ⟨xx, hxx⟩ : ∃ x, moreN (moreN 14695981039346656037 (be 4 s.size)) (tl s) = x := ⟨_, rfl⟩
  rw [hxx] at HMO HX ⊢
  have hx1 := HX.out
  have HV := Aside0.mk (head_val s.size xx hs hx1)
  clear hxx
  go_enter Tryz.func87, Tryz.ntmps87
  go_wp2_with (fail)
  refine wp_loop_rounds 5 ?_
  rw [rounds_succ]
  go_wp2_with (fail)
  rw [rounds_succ]
  go_wp2_with (fail)
  rw [rounds_succ]
  go_wp2_with (fail)
  rw [rounds_succ]
  go_wp2_with (fail)
  rw [rounds_succ]
  go_wp2_with (fail)
  refine (HSO.out _).mono ?_
  rintro e w1 ⟨rfl, rfl⟩
  go_wp2_with (fail)
  refine (HMO.out _).mono ?_
  rintro e w1 ⟨rfl, rfl⟩
  go_wp2_with (fail)
  refine wp_loop_rounds 9 ?_
  rw [rounds_succ]
  go_wp2_with (fail)
  rw [rounds_succ]
  go_wp2_with (fail)
  rw [rounds_succ]
  go_wp2_with (fail)
  rw [rounds_succ]
  go_wp2_with (fail)
  rw [rounds_succ]
  go_wp2_with (fail)
  rw [rounds_succ]
  go_wp2_with (fail)
  rw [rounds_succ]
  go_wp2_with (fail)
  rw [rounds_succ]
  go_wp2_with (fail)
  rw [rounds_succ]
  go_wp2_with (fail)
  refine bodyPost_ret (results_single Tryz.results87 (.cell w.heap.size 114 _ (0, 0) _ rfl (two_heap w _ _) Tryz.underlying114 rfl (by kernel_rfl) .nil)) rfl ⟨?_, ?_⟩
  · rw [HV.out]
  · exact ((Below.refl _ _).alloc (Nat.le_refl _) _).alloc (by simp) _
end
section
theorem bits_or_i64 (a b : Nat) (ha : a < 4611686018427387904) (hb : b < 256) : bits .or .i64 ((a : Int) * 256) (b : Int) = ((a * 256 + b : Nat) : Int) ∨ 36028797018963968 ≤ a := by
  by_cases h : 36028797018963968 ≤ a
  · exact .inr h
  · left
    have ho : a * 256 ||| b = a * 256 + b := by
      have := Nat.two_pow_add_eq_or_of_lt (i := 8) (b := b) (by omega) a
      rw [show 2 ^ 8 = 256 from rfl, Nat.mul_comm] at this
      exact this.symm
    have h1 : (BitVec.ofInt 64 ((a : Int) * 256)).toNat = a * 256 := by
      rw [show ((a : Int) * 256) = ((a * 256 : Nat) : Int) by omega, BitVec.ofInt_natCast, BitVec.toNat_ofNat]; exact Nat.mod_eq_of_lt (by omega)
    have h2 : (BitVec.ofInt 64 (b : Int)).toNat = b := by
      rw [BitVec.ofInt_natCast, BitVec.toNat_ofNat]; exact Nat.mod_eq_of_lt (by omega)
    show IntKind.i64.wrap ((BitVec.ofInt 64 ((a : Int) * 256) ||| BitVec.ofInt 64 (b : Int)).toNat : Int) = _
    rw [BitVec.toNat_or, h1, h2, ho]
    simp [IntKind.wrap, IntKind.bits, IntKind.signed]
    omega
theorem or_byte (a b : Nat) (ha : a < 16777216) (hb : b < 256) : bits .or .i64 ((a : Int) * 256) (b : Int) = ((a * 256 + b : Nat) : Int) := by
  rcases bits_or_i64 a b (by omega) hb with h | h
  · exact h
  · omega
abbrev fV (g : Nat) : Value := .iface 98 (.pointer (some ⟨g, 0, none⟩))
set_option maxHeartbeats 8000000 in
theorem ffault_calls (c : Nat) (k : Int) (w : World) : Calls Tryz.prog 86 #[.int .i64 (c : Int), .int .i64 k] w fun e w' => e = .returned (fV w.heap.size) ∧ w' = w.alloc (.cells #[.int .i64 (c : Int), .string ⟨#[]⟩, .int .i64 k, .nilIface] 100) := by
  go_enter Tryz.func86, Tryz.ntmps86
  go_wp2_with (fail)
  go_ret
  exact ⟨rfl, rfl⟩
theorem size_calls (s : ByteArray) (w : World) (hs : s.size ≤ 9223372036854775000) : Calls Tryz.prog 38 #[.string s] w fun e w' => e = .returned (.int .i64 ((12 + s.size : Nat) : Int)) ∧ w = w' := by
  go_enter Tryz.func38, Tryz.ntmps38
  go_wp2_with (fail)
  go_ret
  exact ⟨by simp, rfl⟩
abbrev mkB (l : BL) : ByteArray := ⟨l.toArray⟩
theorem tl_mkB (l : BL) : tl (mkB l) = l := by simp [mkB]
theorem mkB_tl (s : ByteArray) : mkB (tl s) = s := tl_inj (tl_mkB _)
theorem mkB_size (l : BL) : (mkB l).size = l.length := by show l.toArray.size = _; simp
theorem tl_size (s : ByteArray) : (tl s).length = s.size := Array.length_toList
theorem tl_append (a b : ByteArray) : tl (a ++ b) = tl a ++ tl b := by
  show (a ++ b).data.toList = _
  rw [ByteArray.data_append, Array.toList_append]
/-- The twelve bytes of a head as a text. -/
theorem conv12 (W : World) (l : BL) (hl : l.length = 12) : (convert 116 9 (.slice (some ⟨W.heap.size, 0, none⟩) 12 12)).run Tryz.prog (W.alloc (.cells (l.map fun c => Value.int .u8 (c.toNat : Int)).toArray 114)) = .ok (.string (mkB l)) (W.alloc (.cells (l.map fun c => Value.int .u8 (c.toNat : Int)).toArray 114)) := by
  have h := run_convert_bytes_back (W.alloc (.cells (l.map fun c => Value.int .u8 (c.toNat : Int)).toArray 114)) 116 9 5 ⟨W.heap.size, 0, none⟩ 12 l Tryz.underlying116 Tryz.underlying5 Tryz.underlying9 fun j hj => by
    have hb := heap_alloc_new W (.cells (l.map fun c => Value.int .u8 (c.toNat : Int)).toArray 114)
    have ha : (⟨W.heap.size, 0, none⟩ : Addr).add j = ⟨W.heap.size, j, none⟩ := by simp [Addr.add]; omega
    rw [ha, cell_of_row _ _ _ _ _ _ hb]
    simp [hj]
  rw [hl] at h
  exact h
theorem store12 (W : World) (l : BL) (hl : l.length = 12) : (storeCells ⟨W.heap.size, 0, none⟩ (l.map fun c => Value.int .u8 (c.toNat : Int))).run Tryz.prog (W.alloc (.cells #[z8, z8, z8, z8, z8, z8, z8, z8, z8, z8, z8, z8] 114)) = .ok () (W.alloc (.cells (l.map fun c => Value.int .u8 (c.toNat : Int)).toArray 114)) := by
  have hi : (Tryz.prog.info? 114).map (·.size) = some 12 := by kernel_rfl
  have := run_storeCells_new (P := Tryz.prog) W 114 #[z8, z8, z8, z8, z8, z8, z8, z8, z8, z8, z8, z8] (l.map fun c => Value.int .u8 (c.toNat : Int)).toArray (by rw [hi]; simp [hl]) (by simp [hl]) (by simp [Value.oneCell'])
  simpa using this
set_option maxHeartbeats 16000000 in
set_option maxRecDepth 100000 in
theorem of_calls (p : ByteArray) (w : World) (hp : p.size ≤ 1000000000) : Calls Tryz.prog 46 #[.string p] w fun e w' => Below w.heap.size w w' ∧ ((p.size ≤ 131072 ∧ e = .returned (.tuple #[.string (mkB (recF (tl p))), .nilIface])) ∨ (131072 < p.size ∧ ∃ v, e = .returned (.tuple #[.string ⟨#[]⟩, v]) ∧ Er w' w.heap.size v 4 ⟨#[]⟩)) := by
  by_cases h : 131072 < p.size
  · have h' : (131072 : Int) < (p.size : Int) := by omega
    go_enter Tryz.func46, Tryz.ntmps46
    go_wp2_with (fail)
    refine (ffault_calls 4 (-1) _).mono ?_
    rintro e w1 ⟨rfl, rfl⟩
    go_wp2_with (fail)
    refine bodyPost_ret (results_list (rs := [_, _]) Tryz.results46 (by simp) (.tmp (.tmp .nil))) rfl ⟨(Below.refl _ _).alloc (Nat.le_refl _) _, .inr ⟨h, _, rfl, .inr ⟨by decide, _, rfl, Nat.le_refl _, by simp, by simp, by simp, by simp, by simp⟩⟩⟩
  · have h' : ¬ (131072 : Int) < (p.size : Int) := by omega
    have HH := Aside0.mk (fun W => head_calls p W (by omega))
    obtain ⟨l, hl⟩ : ∃ l, headF (tl p) = l := ⟨_, rfl⟩
    have hl12 : l.length = 12 := by rw [← hl]; exact headF_len _
    have HR : Aside0 (mkB l ++ p = mkB (recF (tl p))) := ⟨tl_inj (by rw [tl_append, tl_mkB, tl_mkB, ← hl]; rfl)⟩
    have hs1 : (mkB l).size = 12 := by rw [mkB_size, hl12]
    have hbig : ¬ 9223372036854775807 < (mkB l).size + p.size := by omega
    rw [hl] at HH
    clear hl
    go_enter Tryz.func46, Tryz.ntmps46
    go_wp2_with (fail)
    refine (HH.out _).mono ?_
    rintro e w1 ⟨rfl, hb1⟩
    have HB1 := Aside0.mk hb1
    have hcv := conv12 w1 l hl12
    have hst := store12 w1 l hl12
    clear hb1
    go_wp2_with (fail)
    refine bodyPost_ret (results_list (rs := [_, _]) Tryz.results46 (by simp) (.tmp (.tmp .nil))) rfl ⟨?_, .inl ⟨by omega, ?_⟩⟩
    · exact below_step (w := w) HB1.out ((Below.refl _ _).alloc (Nat.le_refl _) _)
    · rw [← HR.out]
      rfl
end
section
theorem wrap_small (x : Int) (h0 : 0 ≤ x) (h1 : x < 9223372036854775808) : wrap64 x = x := by
  unfold wrap64
  omega
theorem wrap_byte (c : UInt8) : wrap64 (c.toNat : Int) = (c.toNat : Int) := wrap_small _ (by omega) (by have h : c.toNat < 256 := c.toNat_lt; omega)
theorem wrap_mul (n : Nat) (h : n < 4294967296) : wrap64 ((n : Int) * 256) = (n : Int) * 256 := wrap_small _ (by omega) (by omega)
theorem or_zero (c : Nat) (h : c < 256) : bits .or .i64 0 (c : Int) = (c : Int) := by
  have := or_byte 0 c (by decide) h
  rw [Nat.zero_mul, Nat.zero_add] at this
  exact this
theorem getD_at (t : ByteArray) (i : Nat) (h : i < t.size) : (tl t).getD i 0 = t[i] := by
  rw [List.getD_eq_getElem?_getD, List.getElem?_eq_getElem (by rw [tl_size]; exact h)]
  rfl
theorem tl_extract (s : ByteArray) (a b : Nat) : tl (s.extract a b) = ((tl s).take b).drop a := by
  show (s.extract a b).data.toList = _
  rw [ByteArray.data_extract, Array.toList_extract, List.extract_eq_take_drop, List.drop_take]
theorem tl_from (s : ByteArray) (a : Nat) : tl (s.extract a s.size) = (tl s).drop a := by
  rw [tl_extract, List.take_of_length_le (by rw [tl_size]; exact Nat.le_refl _)]
theorem lt24 {m c : Nat} (hm : m < 65536) (hc : c < 256) : m * 256 + c < 16777216 := by omega
theorem num_lt {a b c d : Nat} (ha : a < 256) (hb : b < 256) (hc : c < 256) (hd : d < 256) : ((a * 256 + b) * 256 + c) * 256 + d < 4294967296 := by omega
/-- What the loop over the first four bytes leaves. -/
theorem num_exprN {a b c d : Nat} (ha : a < 256) (hb : b < 256) (hc : c < 256) (hd : d < 256) : bits .or .i64 (wrap64 (bits .or .i64 (wrap64 (bits .or .i64 (wrap64 (bits .or .i64 0 (wrap64 (a : Int)) * 256)) (wrap64 (b : Int)) * 256)) (wrap64 (c : Int)) * 256)) (wrap64 (d : Int)) = ((((a * 256 + b) * 256 + c) * 256 + d : Nat) : Int) := by
  have w : ∀ x : Nat, x < 256 → wrap64 (x : Int) = (x : Int) := fun x hx => wrap_small _ (by omega) (by omega)
  have h1 : a * 256 + b < 65536 := by omega
  have h2 : (a * 256 + b) * 256 + c < 16777216 := lt24 h1 hc
  have k0 : a < 4294967296 := Nat.lt_of_lt_of_le ha (by decide)
  have k1 : a < 16777216 := Nat.lt_of_lt_of_le ha (by decide)
  have k2 : a * 256 + b < 4294967296 := Nat.lt_of_lt_of_le h1 (by decide)
  have k3 : a * 256 + b < 16777216 := Nat.lt_of_lt_of_le h1 (by decide)
  have k4 : (a * 256 + b) * 256 + c < 4294967296 := Nat.lt_of_lt_of_le h2 (by decide)
  rw [w a ha, w b hb, w c hc, w d hd, or_zero _ ha, wrap_mul _ k0, or_byte _ _ k1 hb, wrap_mul _ k2, or_byte _ _ k3 hc, wrap_mul _ k4, or_byte _ _ h2 hd]
theorem num_expr (c0 c1 c2 c3 : UInt8) : bits .or .i64 (wrap64 (bits .or .i64 (wrap64 (bits .or .i64 (wrap64 (bits .or .i64 0 (wrap64 (c0.toNat : Int)) * 256)) (wrap64 (c1.toNat : Int)) * 256)) (wrap64 (c2.toNat : Int)) * 256)) (wrap64 (c3.toNat : Int)) = ((((c0.toNat * 256 + c1.toNat) * 256 + c2.toNat) * 256 + c3.toNat : Nat) : Int) := num_exprN c0.toNat_lt c1.toNat_lt c2.toNat_lt c3.toNat_lt
theorem conv12d (W : World) (l : BL) (hl : l.length = 12) (k : Nat) : (convert 116 9 (.slice (some ⟨W.heap.size, 0, none⟩) 12 12)).run Tryz.prog ((W.alloc (.cells (l.map fun c => Value.int .u8 (c.toNat : Int)).toArray 114)).drewN k) = .ok (.string (mkB l)) ((W.alloc (.cells (l.map fun c => Value.int .u8 (c.toNat : Int)).toArray 114)).drewN k) := by
  have h := run_convert_bytes_back ((W.alloc (.cells (l.map fun c => Value.int .u8 (c.toNat : Int)).toArray 114)).drewN k) 116 9 5 ⟨W.heap.size, 0, none⟩ 12 l Tryz.underlying116 Tryz.underlying5 Tryz.underlying9 fun j hj => by
    have hb := heap_alloc_new W (.cells (l.map fun c => Value.int .u8 (c.toNat : Int)).toArray 114)
    have ha : (⟨W.heap.size, 0, none⟩ : Addr).add j = ⟨W.heap.size, j, none⟩ := by simp [Addr.add]; omega
    rw [ha]
    show (W.alloc (.cells (l.map fun c => Value.int .u8 (c.toNat : Int)).toArray 114)).cell? ⟨W.heap.size, j, none⟩ = _
    rw [cell_of_row _ _ _ _ _ _ hb]
    simp [hj]
  rw [hl] at h
  exact h
set_option maxHeartbeats 32000000 in
set_option maxRecDepth 100000 in
theorem front_calls (s : ByteArray) (k : Nat) (w : World) (hk : k ≤ s.size) (hs : s.size ≤ 1000000000) : Calls Tryz.prog 77 #[.string s, .int .i64 (k : Int)] w fun e w' => Below w.heap.size w w' ∧ match frontF ((tl s).drop k) with
    | .inr p => e = .returned (.tuple #[.string (mkB p), .nilIface])
    | .inl _ => ∃ g, e = .returned (.tuple #[.string ⟨#[]⟩, fV g]) := by
  have hsl : ∀ W, (Instr.slice 9 (.string s) (some (.int .i64 (k : Int))) none none).run Tryz.prog W = .ok (.string (s.extract k s.size)) W := fun W => by
    have := run_slice_string_l (P := Tryz.prog) W 9 s Tryz.underlying9 .i64 (k : Int) (by omega) (by omega)
    rw [this]
    rfl
  have hT := tl_from s k
  have hts : (s.extract k s.size).size ≤ 1000000000 := by rw [ByteArray.size_extract]; omega
  rw [← hT]
  clear hT
  generalize s.extract k s.size = t at *
  obtain ⟨res, hres⟩ : ∃ r, frontF (tl t) = r := ⟨_, rfl⟩
  rw [hres]
  have HRES := Aside0.mk hres
  by_cases h1 : t.size < 12
  · have h1' : (t.size : Int) < 12 := by omega
    have HR : res = .inl 40 := by rw [← hres]; unfold frontF; rw [tl_size, if_pos h1]
    subst HR
    clear hres HRES
    go_enter Tryz.func77, Tryz.ntmps77
    go_wp2_with (fail)
    refine (ffault_calls 40 (k : Int) _).mono ?_
    rintro e w1 ⟨rfl, rfl⟩
    go_wp2_with (fail)
    exact bodyPost_ret (results_list (rs := [_, _]) Tryz.results77 (by simp) (.tmp (.tmp .nil))) rfl ⟨(Below.refl _ _).alloc (Nat.le_refl _) _, ⟨_, rfl⟩⟩
  · have h1' : ¬ (t.size : Int) < 12 := by omega
    have i0 : (0 : Int) < (t.size : Int) := by omega
    have i1 : (1 : Int) < (t.size : Int) := by omega
    have i2 : (2 : Int) < (t.size : Int) := by omega
    have i3 : (3 : Int) < (t.size : Int) := by omega
    have j0 : 0 < t.size := by omega
    have j1 : 1 < t.size := by omega
    have j2 : 2 < t.size := by omega
    have j3 : 3 < t.size := by omega
    have e0 := getD_at t 0 j0
    have e1 := getD_at t 1 j1
    have e2 := getD_at t 2 j2
    have e3 := getD_at t 3 j3
    obtain ⟨c0, hc0⟩ : ∃ c, t[0]'j0 = c := ⟨_, rfl⟩
    obtain ⟨c1, hc1⟩ : ∃ c, t[1]'j1 = c := ⟨_, rfl⟩
    obtain ⟨c2, hc2⟩ : ∃ c, t[2]'j2 = c := ⟨_, rfl⟩
    obtain ⟨c3, hc3⟩ : ∃ c, t[3]'j3 = c := ⟨_, rfl⟩
    rw [hc0] at e0
    rw [hc1] at e1
    rw [hc2] at e2
    rw [hc3] at e3
    have l0 : c0.toNat < 256 := c0.toNat_lt
    have l1 : c1.toNat < 256 := c1.toNat_lt
    have l2 : c2.toNat < 256 := c2.toNat_lt
    have l3 : c3.toNat < 256 := c3.toNat_lt
    obtain ⟨n3, hn3⟩ : ∃ n, ((c0.toNat * 256 + c1.toNat) * 256 + c2.toNat) * 256 + c3.toNat = n := ⟨_, rfl⟩
    have HNUM : Aside0 (num4 (tl t) = n3) := ⟨by unfold num4; rw [e0, e1, e2, e3, hn3]⟩
    have hn3s : n3 < 4294967296 := by rw [← hn3]; exact num_lt l0 l1 l2 l3
    have HE := Aside0.mk (num_expr c0 c1 c2 c3)
    rw [hn3] at HE
    clear e0 e1 e2 e3 hn3 hres l0 l1 l2 l3
    by_cases h2 : 131072 < n3
    · have h2' : (131072 : Int) < (n3 : Int) := by omega
      have HR : res = .inl 4 := by rw [← HRES.out]; unfold frontF; rw [tl_size, if_neg h1, HNUM.out, if_pos h2]
      subst HR
      clear HRES HNUM
      go_enter Tryz.func77, Tryz.ntmps77
      go_wp2_with (fail)
      refine wp_loop_rounds 5 ?_
      rw [rounds_succ]
      go_wp2_with (fail)
      rw [rounds_succ]
      go_wp2_with (fail)
      rw [rounds_succ]
      go_wp2_with (fail)
      rw [rounds_succ]
      go_wp2_with (fail)
      rw [rounds_succ]
      go_upto_region 10 with fail
      rw [HE.out]
      go_wp2_with (fail)
      refine (ffault_calls 4 (k : Int) _).mono ?_
      rintro e w1 ⟨rfl, rfl⟩
      go_wp2_with (fail)
      exact bodyPost_ret (results_list (rs := [_, _]) Tryz.results77 (by simp) (.tmp (.tmp .nil))) rfl ⟨(Below.refl _ _).alloc (Nat.le_refl _) _, ⟨_, rfl⟩⟩
    · have h2' : ¬ (131072 : Int) < (n3 : Int) := by omega
      by_cases h3 : t.size - 12 < n3
      · have h3' : (t.size : Int) - 12 < (n3 : Int) := by omega
        have HR : res = .inl 40 := by rw [← HRES.out]; unfold frontF; rw [tl_size, if_neg h1, HNUM.out, if_neg h2, if_pos h3]
        subst HR
        clear HRES HNUM
        go_enter Tryz.func77, Tryz.ntmps77
        go_wp2_with (fail)
        refine wp_loop_rounds 5 ?_
        rw [rounds_succ]
        go_wp2_with (fail)
        rw [rounds_succ]
        go_wp2_with (fail)
        rw [rounds_succ]
        go_wp2_with (fail)
        rw [rounds_succ]
        go_wp2_with (fail)
        rw [rounds_succ]
        go_upto_region 10 with fail
        rw [HE.out]
        go_wp2_with (fail)
        refine (ffault_calls 40 (k : Int) _).mono ?_
        rintro e w1 ⟨rfl, rfl⟩
        go_wp2_with (fail)
        exact bodyPost_ret (results_list (rs := [_, _]) Tryz.results77 (by simp) (.tmp (.tmp .nil))) rfl ⟨(Below.refl _ _).alloc (Nat.le_refl _) _, ⟨_, rfl⟩⟩
      · have h3' : ¬ (t.size : Int) - 12 < (n3 : Int) := by omega
        obtain ⟨p, hp⟩ : ∃ p, t.extract 12 (12 + n3) = p := ⟨_, rfl⟩
        have hpl : tl p = ((tl t).drop 12).take n3 := by rw [← hp, tl_extract, List.drop_take, show 12 + n3 - 12 = n3 by omega]
        have hps : p.size = n3 := by rw [← hp, ByteArray.size_extract]; omega
        obtain ⟨q, hq⟩ : ∃ q, t.extract 0 12 = q := ⟨_, rfl⟩
        have hql : tl q = (tl t).take 12 := by rw [← hq, tl_extract, List.drop_zero]
        obtain ⟨l, hl⟩ : ∃ l, headF (tl p) = l := ⟨_, rfl⟩
        have hl12 : l.length = 12 := by rw [← hl]; exact headF_len _
        have HR0 : Aside0 (res = if l = tl q then .inr (tl p) else .inl 41) := ⟨by rw [← HRES.out]; unfold frontF; rw [tl_size, if_neg h1, HNUM.out, if_neg h2, if_neg h3, ← hpl, hl, hql]⟩
        have hs12 : ∀ W, (Instr.slice 9 (.string t) (some (.int .i64 12)) (some (.int .i64 (12 + (n3 : Int)))) none).run Tryz.prog W = .ok (.string p) W := fun W => by
          have := run_slice_string (P := Tryz.prog) W 9 t .i64 .i64 12 (12 + (n3 : Int)) Tryz.underlying9 (by omega) (by omega) (by omega)
          rw [this, ← hp]
          rfl
        have hs0 : ∀ W, (Instr.slice 9 (.string t) none (some (.int .i64 12)) none).run Tryz.prog W = .ok (.string q) W := fun W => by
          have := run_slice_string_h (P := Tryz.prog) W 9 t Tryz.underlying9 .i64 12 (by omega) (by omega)
          rw [this, ← hq]
          rfl
        have HH : Aside0 (∀ W, _) := ⟨fun W => head_calls p W (by omega)⟩
        rw [hl] at HH
        have HPP : Aside0 (mkB (tl p) = p) := ⟨mkB_tl p⟩
        have HSE : Aside0 (((mkB l).toList == q.toList) = decide (l = tl q)) := ⟨by
          rw [ByteArray.toList_eq, ByteArray.toList_eq]
          show ((mkB l).data.toList == tl q) = _
          rw [show (mkB l).data.toList = l from tl_mkB l]
          by_cases z : l = tl q
          · rw [decide_eq_true z, z]; simp
          · rw [decide_eq_false z, beq_eq_false_iff_ne]; exact z⟩
        clear HRES HNUM hpl hql hl hp hq
        by_cases hlq : l = tl q
        · have HR : res = .inr (tl p) := by rw [HR0.out, if_pos hlq]
          have hse : (l == q.toList) = true := by have h := HSE.out; rw [decide_eq_true hlq, ByteArray.toList_eq] at h; rw [← h]
          subst HR
          clear HR0 HSE hlq
          go_enter Tryz.func77, Tryz.ntmps77
          go_wp2_with (fail)
          refine wp_loop_rounds 5 ?_
          rw [rounds_succ]
          go_wp2_with (fail)
          rw [rounds_succ]
          go_wp2_with (fail)
          rw [rounds_succ]
          go_wp2_with (fail)
          rw [rounds_succ]
          go_wp2_with (fail)
          rw [rounds_succ]
          go_upto_region 10 with fail
          rw [HE.out]
          go_wp2_with (fail)
          refine (HH.out _).mono ?_
          rintro e w1 ⟨rfl, hb1⟩
          have HB1 := Aside0.mk hb1
          have hcv := conv12d w1 l hl12
          have hcv1 : (convert 116 9 (.slice (some ⟨w1.heap.size, 0, none⟩) 12 12)).run Tryz.prog ((w1.alloc (.cells (l.map fun c => Value.int .u8 (c.toNat : Int)).toArray 114)).drew) = .ok (.string (mkB l)) ((w1.alloc (.cells (l.map fun c => Value.int .u8 (c.toNat : Int)).toArray 114)).drew) := conv12d w1 l hl12 1
          have hst := store12 w1 l hl12
          clear hb1
          go_wp2_with (fail)
          go_region
          go_wp2_with (fail)
          refine bodyPost_ret (results_list (rs := [_, _]) Tryz.results77 (by simp) (.tmp (.tmp .nil))) rfl ⟨?_, ?_⟩
          · exact below_step (w := w) HB1.out (below_drew1 ((Below.refl _ _).alloc (Nat.le_refl _) _))
          · first | rfl | (simp; done) | (rw [mkB_tl]; rfl)
        · have HR : res = .inl 41 := by rw [HR0.out, if_neg hlq]
          have hse : (l == q.toList) = false := by have h := HSE.out; rw [decide_eq_false hlq, ByteArray.toList_eq] at h; rw [← h]
          subst HR
          clear HR0 HSE hlq
          go_enter Tryz.func77, Tryz.ntmps77
          go_wp2_with (fail)
          refine wp_loop_rounds 5 ?_
          rw [rounds_succ]
          go_wp2_with (fail)
          rw [rounds_succ]
          go_wp2_with (fail)
          rw [rounds_succ]
          go_wp2_with (fail)
          rw [rounds_succ]
          go_wp2_with (fail)
          rw [rounds_succ]
          go_upto_region 10 with fail
          rw [HE.out]
          go_wp2_with (fail)
          refine (HH.out _).mono ?_
          rintro e w1 ⟨rfl, hb1⟩
          have HB1 := Aside0.mk hb1
          have hcv := conv12d w1 l hl12
          have hcv1 : (convert 116 9 (.slice (some ⟨w1.heap.size, 0, none⟩) 12 12)).run Tryz.prog ((w1.alloc (.cells (l.map fun c => Value.int .u8 (c.toNat : Int)).toArray 114)).drew) = .ok (.string (mkB l)) ((w1.alloc (.cells (l.map fun c => Value.int .u8 (c.toNat : Int)).toArray 114)).drew) := conv12d w1 l hl12 1
          have hst := store12 w1 l hl12
          clear hb1
          go_wp2_with (fail)
          go_region
          go_wp2_with (fail)
          refine (ffault_calls 41 (k : Int) _).mono ?_
          rintro e w2 ⟨rfl, rfl⟩
          go_wp2_with (fail)
          refine bodyPost_ret (results_list (rs := [_, _]) Tryz.results77 (by simp) (.tmp (.tmp .nil))) rfl ⟨?_, ⟨_, rfl⟩⟩
          exact below_step (w := w) (below_step (w := w) HB1.out (below_drew1 ((Below.refl _ _).alloc (Nat.le_refl _) _))) ((Below.refl _ _).alloc (Nat.le_refl _) _)
end
section
def encS (l : BL) : Value := .string (mkB l)
theorem infoS : (Tryz.prog.info? 9).map (fun i => (i.zero, i.size, i.bytes)) = some (some (.string ByteArray.empty), 1, 16) := by kernel_rfl
theorem own_below {B : Nat} {e : TypeId} {k : Nat} {v : Value} {n : Nat} {xs : List Value} {w w' : World} (h : w.ownsRow B e k v n xs) (hb : Below w.heap.size w w') : w'.ownsRow B e k v n xs := by
  obtain ⟨h1, h2⟩ := h
  refine ⟨h1, ?_⟩
  rcases h2 with h2 | ⟨g, cap, cur, rfl, hb1, hg, h3, h4, h5, h6⟩
  · exact .inl h2
  · have hlt : g < w.heap.size := (Array.getElem?_eq_some_iff.1 hg).1
    exact .inr ⟨g, cap, cur, rfl, hb1, (hb.block g hlt).trans hg, h3, h4, h5, h6⟩
theorem drop_end (s : ByteArray) (k : Nat) (h : s.size ≤ k) : (tl s).drop k = [] := List.drop_of_length_le (by rw [tl_size]; exact h)
set_option maxHeartbeats 32000000 in
set_option maxRecDepth 100000 in
theorem fall_calls (s : ByteArray) (w : World) (hs : s.size ≤ 16777216) : Calls Tryz.prog 37 #[.string s] w fun e w' => ∃ v, (∃ u ev, e = .returned (.tuple #[v, u, ev])) ∧ w'.ownsRow w.heap.size 9 1 v (recsF (tl s)).length ((recsF (tl s)).map encS) ∧ Below w.heap.size w w' := by
  obtain ⟨i0, hi0, hz0, hz1, hz2⟩ := info_parts infoS
  have n1 : ∀ (v : Value) (w : World), (binOp .neq 25 (.iface 98 v) .nilIface).run Tryz.prog w = .ok (.bool true) w := fun v w => by kernel_rfl
  go_enter Tryz.func37, Tryz.ntmps37
  go_wp2_with (fail)
  go_loopw [2, 3, 5, 6] (fun v2 v3 v5 v6 wr => ∃ (k : Nat) (acc : List BL), k ≤ s.size ∧ v3 = .int .i64 k ∧ acc.length ≤ k ∧ wr.ownsRow w.heap.size 9 1 v2 acc.length (acc.map encS) ∧ Aside0 (Below w.heap.size w wr ∧ recsF (tl s) = acc ++ recsF ((tl s).drop k))) (fun _ v3 _ _ _ => s.size - (intOf v3).toNat)
  case atStart => exact ⟨0, [], Nat.zero_le _, rfl, Nat.le_refl _, World.ownsRow_nil _ _ _ _, ⟨Below.refl _ _, by rw [List.drop_zero]; rfl⟩⟩
  case round =>
    obtain ⟨k, acc, hk, rfl, hacc, hrow, HX⟩ := hrel
    have hzw := HX.out.1.size
    by_cases h1 : k < s.size
    · have h1' : (k : Int) < (s.size : Int) := by omega
      have HF : Aside0 (∀ W, _) := ⟨fun W => front_calls s k W hk (by omega)⟩
      cases hf : frontF ((tl s).drop k) with
      | inl c =>
        rw [hf] at HF
        have HE : Aside0 (recsF (tl s) = acc) := ⟨by rw [HX.out.2, recsF_bad hf, List.append_nil]⟩
        clear hf
        go_wp2_with (fail)
        refine (HF.out _).mono ?_
        rintro e w1 ⟨hb1, g, rfl⟩
        have HB1 := Aside0.mk (below_step (w := w) HX.out.1 hb1)
        have hrow1 := own_below hrow hb1
        clear hb1
        go_wp2_with (fail)
        refine bodyPost_ret (results_list (rs := [_, _, _]) Tryz.results37 (by simp) (.tmp (.tmp (.tmp .nil)))) rfl ⟨_, ⟨_, _, rfl⟩, ?_, HB1.out⟩
        rw [HE.out]
        exact hrow1
      | inr p =>
        rw [hf] at HF
        have hl := front_len hf
        rw [List.length_drop, tl_size] at hl
        have HE : Aside0 (recsF (tl s) = (acc ++ [p]) ++ recsF ((tl s).drop (k + (12 + p.length)))) := ⟨by rw [HX.out.2, recsF_ok hf, List.drop_drop, List.append_assoc]; rfl⟩
        have hps : (mkB p).size = p.length := mkB_size p
        obtain ⟨m, hm⟩ : ∃ m, 12 + p.length = m := ⟨_, rfl⟩
        rw [hm] at HE hl
        have HWR : Aside0 (wrap64 ((k : Int) + wrap64 (12 + (p.length : Int))) = ((k + m : Nat) : Int)) := ⟨by rw [wrap_small (12 + (p.length : Int)) (by omega) (by omega), wrap_small _ (by omega) (by omega)]; omega⟩
        have hk2 : k + m ≤ s.size := by omega
        have hm0 : 12 ≤ m := by omega
        clear hf hps hm hl
        go_wp2_with (fail)
        refine (HF.out _).mono ?_
        rintro e w1 ⟨hb1, rfl⟩
        have HB1 := Aside0.mk (below_step (w := w) HX.out.1 hb1)
        have hrow1 := own_below hrow hb1
        have hz1' := HB1.out.size
        clear hb1 hrow
        go_wp2_with (first
          | (at_builtin; refine wpList_append_own _ rfl _ _ 36 rfl w.heap.size 9 i0 (.string ByteArray.empty) 1 16 Tryz.underlying36 hi0 hz0 hz1 hz2 rfl (by decide) _ _ _ rfl (hrow1.alloc _) ⟨w1.heap.size, 0, none⟩ 1 1 [encS p] rfl rfl (cell_one_new _ _ _) (by simp [Value.oneCell', encS]) (by unfold maxLen; omega) (by omega) (by simp; omega) ?_; intro v' w3 hown' hg3 hnil3; have HB3 := Aside0.mk ((HB1.out.alloc hz1' _).grown hg3 (by simp; omega) (fun j hj => by have := (hrow1.lt j hj).1; simpa using this)); have HO3 := Aside0.mk hown'; clear hown' hg3 hnil3)
          | go_in)
        rw [HWR.out]
        exact ⟨⟨k + m, acc ++ [p], hk2, rfl, by rw [List.length_append, List.length_singleton]; omega, by simpa using HO3.out, ⟨HB3.out, HE.out⟩⟩, by simp [intOf]; omega⟩
    · have h1' : ¬ (k : Int) < (s.size : Int) := by omega
      have HE : Aside0 (recsF (tl s) = acc) := ⟨by rw [HX.out.2, drop_end s k (by omega), recsF_nil, List.append_nil]⟩
      go_wp2_with (fail)
      refine bodyPost_ret (results_list (rs := [_, _, _]) Tryz.results37 (by simp) (.tmp (.tmp (.tmp .nil)))) rfl ⟨_, ⟨_, _, rfl⟩, ?_, HX.out.1⟩
      rw [HE.out]
      exact hrow
end
section
set_option maxHeartbeats 8000000 in
theorem rmore_calls (x : Nat) (s : ByteArray) (w : World) (hx : x < 18446744073709551616) (hs : s.size ≤ 9223372036854775807) : Calls Tryz.prog 110 #[.int .u64 (x : Int), .string s] w fun e w' => e = .returned (.int .u64 (moreN x (tl s) : Int)) ∧ w = w' := by
  go_enter Tryz.func110, Tryz.ntmps110
  go_wp2_with (fail)
  go_loopw [0, 5] (fun v0 v5 wr => ∃ i : Nat, i ≤ s.size ∧ v5 = .int .i64 i ∧ v0 = .int .u64 (moreN x ((tl s).take i) : Int) ∧ Aside0 (w = wr)) (fun _ v5 _ => s.size - (intOf v5).toNat)
  case atStart => exact ⟨0, Nat.zero_le _, rfl, by rw [List.take_zero]; rfl, ⟨rfl⟩⟩
  case round =>
    obtain ⟨i, hi, rfl, rfl, HW⟩ := hrel
    by_cases h1 : i < s.size
    · have h1' : (i : Int) < (s.size : Int) := by omega
      have h0' : (0 : Int) ≤ (i : Int) := by omega
      have HT := Aside0.mk (take_more s x i h1)
      have hlt := moreN_lt ((tl s).take i) x hx
      obtain ⟨m, hm⟩ : ∃ m, moreN x ((tl s).take i) = m := ⟨_, rfl⟩
      rw [hm] at HT hlt
      rw [hm]
      obtain ⟨c, hc⟩ : ∃ c, s[i]'h1 = c := ⟨_, rfl⟩
      rw [hc] at HT
      go_wp2_with (fail)
      exact ⟨⟨i + 1, by omega, by simp, by rw [mul_eq _ _ hlt, HT.out], HW⟩, by simp [intOf]; omega⟩
    · have h1' : ¬ (i : Int) < (s.size : Int) := by omega
      have HT : Aside0 ((tl s).take i = tl s) := ⟨List.take_of_length_le (by rw [Array.length_toList]; exact Nat.not_lt.1 h1)⟩
      rw [HT.out]
      go_wp2_with (fail)
      go_ret
      exact ⟨rfl, HW.out⟩
theorem rsum_calls (s : ByteArray) (w : World) (hs : s.size ≤ 9223372036854775807) : Calls Tryz.prog 93 #[.string s] w fun e w' => e = .returned (.int .u64 (moreN 14695981039346656037 (tl s) : Int)) ∧ w = w' := by
  have HC := Aside0.mk (rmore_calls 14695981039346656037 s w (by decide) hs)
  clear hs
  go_enter Tryz.func93, Tryz.ntmps93
  go_wp2_with (fail)
  refine HC.out.mono ?_
  rintro e w1 ⟨rfl, rfl⟩
  go_wp2_with (fail)
  go_ret
  exact ⟨rfl, rfl⟩
theorem word_val (x : Nat) (hx : x < 18446744073709551616) : #[Value.int .u8 ((x : Int) / 72057594037927936), .int .u8 ((x : Int) / 281474976710656 % 256), .int .u8 ((x : Int) / 1099511627776 % 256), .int .u8 ((x : Int) / 4294967296 % 256), .int .u8 ((x : Int) / 16777216 % 256), .int .u8 ((x : Int) / 65536 % 256), .int .u8 ((x : Int) / 256 % 256), .int .u8 ((x : Int) % 256)] = ((be 8 x).map fun c => Value.int .u8 (c.toNat : Int)).toArray := by
  have b1 : ((x / 72057594037927936 % 256 : Nat) : Int) = (x : Int) / 72057594037927936 := by omega
  have b2 : ((x / 281474976710656 % 256 : Nat) : Int) = (x : Int) / 281474976710656 % 256 := by omega
  have b3 : ((x / 1099511627776 % 256 : Nat) : Int) = (x : Int) / 1099511627776 % 256 := by omega
  have b4 : ((x / 4294967296 % 256 : Nat) : Int) = (x : Int) / 4294967296 % 256 := by omega
  have b5 : ((x / 16777216 % 256 : Nat) : Int) = (x : Int) / 16777216 % 256 := by omega
  have b6 : ((x / 65536 % 256 : Nat) : Int) = (x : Int) / 65536 % 256 := by omega
  have b7 : ((x / 256 % 256 : Nat) : Int) = (x : Int) / 256 % 256 := by omega
  have b8 : ((x % 256 : Nat) : Int) = (x : Int) % 256 := by omega
  rw [be8]
  simp only [List.map_cons, List.map_nil, byte_nat, b1, b2, b3, b4, b5, b6, b7, b8]
theorem conv8 (W : World) (l : BL) (hl : l.length = 8) : (convert 116 9 (.slice (some ⟨W.heap.size, 0, none⟩) 8 8)).run Tryz.prog (W.alloc (.cells (l.map fun c => Value.int .u8 (c.toNat : Int)).toArray 5)) = .ok (.string (mkB l)) (W.alloc (.cells (l.map fun c => Value.int .u8 (c.toNat : Int)).toArray 5)) := by
  have h := run_convert_bytes_back (W.alloc (.cells (l.map fun c => Value.int .u8 (c.toNat : Int)).toArray 5)) 116 9 5 ⟨W.heap.size, 0, none⟩ 8 l Tryz.underlying116 Tryz.underlying5 Tryz.underlying9 fun j hj => by
    have hb := heap_alloc_new W (.cells (l.map fun c => Value.int .u8 (c.toNat : Int)).toArray 5)
    have ha : (⟨W.heap.size, 0, none⟩ : Addr).add j = ⟨W.heap.size, j, none⟩ := by simp [Addr.add]; omega
    rw [ha, cell_of_row _ _ _ _ _ _ hb]
    simp [hj]
  rw [hl] at h
  exact h
theorem infoU : (Tryz.prog.info? 5).map (fun i => (i.zero, i.size, i.bytes)) = some (some (.int .u8 0), 1, 1) := by kernel_rfl
theorem make8 (w : World) : (Instr.makeSlice 116 (.int .i64 8) (.int .i64 8)).run Tryz.prog w = .ok (.slice (some ⟨w.heap.size, 0, none⟩) 8 8) (w.alloc (.cells #[z8, z8, z8, z8, z8, z8, z8, z8] 5)) := by
  obtain ⟨i0, hi0, hz0, hz1, hz2⟩ := info_parts infoU
  have := run_makeSlice (P := Tryz.prog) w 116 5 i0 (.int .u8 0) Tryz.underlying116 hi0 hz0 .i64 .i64 8 8 (by decide) (by decide) (by rw [hz1]; decide) (by rw [hz2]; decide) (by decide)
  have hm : madeCells (Value.int .u8 0).cells (Int.toNat 8 * 1) = #[z8, z8, z8, z8, z8, z8, z8, z8] := by kernel_rfl
  rw [this, hz1, hm]
  rfl
set_option maxHeartbeats 16000000 in
set_option maxRecDepth 100000 in
theorem word_calls (x : Nat) (w : World) (hx : x < 18446744073709551616) : Calls Tryz.prog 92 #[.int .u64 (x : Int)] w fun e w' => e = .returned (.string (mkB (be 8 x))) ∧ Below w.heap.size w w' := by
  have hc := conv8 w (be 8 x) (be_len _ _)
  rw [← word_val x hx] at hc
  have hmk := make8 w
  go_enter Tryz.func92, Tryz.ntmps92
  go_wp2_with (fail)
  refine wp_loop_rounds 9 ?_
  rw [rounds_succ]
  go_wp2_with (fail)
  rw [rounds_succ]
  go_wp2_with (fail)
  rw [rounds_succ]
  go_wp2_with (fail)
  rw [rounds_succ]
  go_wp2_with (fail)
  rw [rounds_succ]
  go_wp2_with (fail)
  rw [rounds_succ]
  go_wp2_with (fail)
  rw [rounds_succ]
  go_wp2_with (fail)
  rw [rounds_succ]
  go_wp2_with (fail)
  rw [rounds_succ]
  go_wp2_with (fail)
  go_ret
  exact ⟨rfl, (Below.refl _ _).alloc (Nat.le_refl _) _⟩
theorem be_word (n : Nat) (h : n < 4294967296) : (be 8 n).drop 4 = be 4 n := by
  rw [be8, be4]
  simp
set_option maxHeartbeats 8000000 in
theorem four_calls (n : Nat) (w : World) (hn : n < 4294967296) : Calls Tryz.prog 91 #[.int .i64 (n : Int)] w fun e w' => e = .returned (.string (mkB (be 4 n))) ∧ Below w.heap.size w w' := by
  have HW := Aside0.mk (word_calls n w (Nat.lt_trans hn (by decide)))
  have hw : IntKind.u64.wrap (n : Int) = (n : Int) := by rw [IntKind.wrap_u64]; omega
  have hsl : ∀ W, (Instr.slice 9 (.string (mkB (be 8 n))) (some (.int .i64 4)) none none).run Tryz.prog W = .ok (.string (mkB (be 4 n))) W := fun W => by
    have hz : (mkB (be 8 n)).size = 8 := by rw [mkB_size, be_len]
    have := run_slice_string_l (P := Tryz.prog) W 9 (mkB (be 8 n)) Tryz.underlying9 .i64 4 (by omega) (by omega)
    rw [this]
    refine congrArg (fun z => Result.ok (Value.string z) W) (tl_inj ?_)
    rw [tl_mkB, ← be_word n hn]
    have := tl_from (mkB (be 8 n)) 4
    rw [tl_mkB] at this
    exact this
  go_enter Tryz.func91, Tryz.ntmps91
  go_wp2_with (fail)
  refine HW.out.mono ?_
  rintro e w1 ⟨rfl, hb1⟩
  go_wp2_with (fail)
  go_ret
  exact ⟨rfl, hb1⟩
set_option maxHeartbeats 16000000 in
set_option maxRecDepth 100000 in
theorem rof_calls (p : ByteArray) (w : World) (hp : p.size ≤ 1000000000) : Calls Tryz.prog 57 #[.string p] w fun e w' => Below w.heap.size w w' ∧ e = .returned (if p.size ≤ 131072 then .tuple #[.string (mkB (recF (tl p))), .int .i64 0] else .tuple #[.string ⟨#[]⟩, .int .i64 4]) := by
  by_cases h : 131072 < p.size
  · have h' : (131072 : Int) < (p.size : Int) := by omega
    rw [if_neg (by omega)]
    go_enter Tryz.func57, Tryz.ntmps57
    go_wp2_with (fail)
    exact bodyPost_ret (results_list (rs := [_, _]) Tryz.results57 (by simp) (.tmp (.tmp .nil))) rfl ⟨Below.refl _ _, rfl⟩
  · have h' : ¬ (131072 : Int) < (p.size : Int) := by omega
    rw [if_pos (by omega)]
    have HF := Aside0.mk (fun W => four_calls p.size W (by omega))
    obtain ⟨f, hf⟩ : ∃ f, mkB (be 4 p.size) = f := ⟨_, rfl⟩
    have hfs : f.size = 4 := by rw [← hf, mkB_size, be_len]
    have HS := Aside0.mk (fun W => rsum_calls (f ++ p) W (by rw [ByteArray.size_append]; omega))
    obtain ⟨x, hx⟩ : ∃ x, moreN 14695981039346656037 (tl (f ++ p)) = x := ⟨_, rfl⟩
    have hxl : x < 18446744073709551616 := by rw [← hx]; exact moreN_lt _ _ (by decide)
    have HWD := Aside0.mk (fun W => word_calls x W hxl)
    obtain ⟨g, hg⟩ : ∃ g, mkB (be 8 x) = g := ⟨_, rfl⟩
    have hgs : g.size = 8 := by rw [← hg, mkB_size, be_len]
    have HR : Aside0 (f ++ g ++ p = mkB (recF (tl p))) := ⟨tl_inj (by
      rw [tl_append, tl_append, tl_mkB, ← hg, ← hf, tl_mkB, tl_mkB]
      unfold recF headF
      rw [tl_size, ← hx, ← hf, tl_append, tl_mkB])⟩
    have hb1 : ¬ 9223372036854775807 < f.size + p.size := by omega
    have hb2 : ¬ 9223372036854775807 < f.size + g.size := by omega
    have hb3 : ¬ 9223372036854775807 < (f ++ g).size + p.size := by rw [ByteArray.size_append]; omega
    rw [hf] at HF
    rw [hx] at HS
    rw [hg] at HWD
    clear hf hx hg hxl
    go_enter Tryz.func57, Tryz.ntmps57
    go_wp2_with (fail)
    refine (HF.out _).mono ?_
    rintro e w1 ⟨rfl, hw1⟩
    have HB1 := Aside0.mk hw1
    clear hw1
    go_wp2_with (fail)
    refine (HS.out _).mono ?_
    rintro e w2 ⟨rfl, rfl⟩
    go_wp2_with (fail)
    refine (HWD.out _).mono ?_
    rintro e w2 ⟨rfl, hw2⟩
    have HB2 := Aside0.mk (below_step (w := w) HB1.out hw2)
    clear hw2
    go_wp2_with (fail)
    refine bodyPost_ret (results_list (rs := [_, _]) Tryz.results57 (by simp) (.tmp (.tmp .nil))) rfl ⟨HB2.out, ?_⟩
    rw [← HR.out]
    first | rfl | (simp; done)
end
section
theorem be_num4 (a b c d : UInt8) (r : BL) : be 4 (num4 (a :: b :: c :: d :: r)) = (a :: b :: c :: d :: r).take 4 := by
  have hx : ∀ (x : UInt8) (y : Nat), y % 256 = x.toNat → UInt8.ofNat y = x := fun x y h => UInt8.toNat_inj.1 (by rw [byte_nat, h])
  have la : a.toNat < 256 := a.toNat_lt
  have lb : b.toNat < 256 := b.toNat_lt
  have lc : c.toNat < 256 := c.toNat_lt
  have ld : d.toNat < 256 := d.toNat_lt
  rw [be4]
  have hn : num4 (a :: b :: c :: d :: r) = ((a.toNat * 256 + b.toNat) * 256 + c.toNat) * 256 + d.toNat := rfl
  rw [hn]
  obtain ⟨A, hA⟩ : ∃ n, a.toNat = n := ⟨_, rfl⟩
  obtain ⟨B, hB⟩ : ∃ n, b.toNat = n := ⟨_, rfl⟩
  obtain ⟨C, hC⟩ : ∃ n, c.toNat = n := ⟨_, rfl⟩
  obtain ⟨D, hD⟩ : ∃ n, d.toNat = n := ⟨_, rfl⟩
  rw [hA] at la
  rw [hB] at lb
  rw [hC] at lc
  rw [hD] at ld
  rw [hA, hB, hC, hD]
  rw [hx a _ (show (((A * 256 + B) * 256 + C) * 256 + D) / 16777216 % 256 = a.toNat by rw [hA]; clear hA hB hC hD hx hn; omega), hx b _ (show (((A * 256 + B) * 256 + C) * 256 + D) / 65536 % 256 = b.toNat by rw [hB]; clear hA hB hC hD hx hn; omega), hx c _ (show (((A * 256 + B) * 256 + C) * 256 + D) / 256 % 256 = c.toNat by rw [hC]; clear hA hB hC hD hx hn; omega), hx d _ (show (((A * 256 + B) * 256 + C) * 256 + D) % 256 = d.toNat by rw [hD]; clear hA hB hC hD hx hn; omega)]
  rfl
set_option maxHeartbeats 32000000 in
set_option maxRecDepth 100000 in
theorem rfront_calls (t : ByteArray) (w : World) (hts : t.size ≤ 1000000000) : Calls Tryz.prog 109 #[.string t] w fun e w' => Below w.heap.size w w' ∧ ∃ rest : ByteArray, e = .returned (match frontF (tl t) with
    | .inr p => .tuple #[.string (mkB p), .string rest, .int .i64 0]
    | .inl c => .tuple #[.string ⟨#[]⟩, .string ⟨#[]⟩, .int .i64 (c : Int)]) := by
  obtain ⟨res, hres⟩ : ∃ r, frontF (tl t) = r := ⟨_, rfl⟩
  rw [hres]
  have HRES := Aside0.mk hres
  by_cases h1 : t.size < 12
  · have h1' : (t.size : Int) < 12 := by omega
    have HR : res = .inl 40 := by rw [← hres]; unfold frontF; rw [tl_size, if_pos h1]
    subst HR
    clear hres HRES
    go_enter Tryz.func109, Tryz.ntmps109
    go_wp2_with (fail)
    exact bodyPost_ret (results_list (rs := [_, _, _]) Tryz.results109 (by simp) (.tmp (.tmp (.tmp .nil)))) rfl ⟨Below.refl _ _, ⟨#[]⟩, rfl⟩
  · have h1' : ¬ (t.size : Int) < 12 := by omega
    have i0 : (0 : Int) < (t.size : Int) := by omega
    have i1 : (1 : Int) < (t.size : Int) := by omega
    have i2 : (2 : Int) < (t.size : Int) := by omega
    have i3 : (3 : Int) < (t.size : Int) := by omega
    have j0 : 0 < t.size := by omega
    have j1 : 1 < t.size := by omega
    have j2 : 2 < t.size := by omega
    have j3 : 3 < t.size := by omega
    have e0 := getD_at t 0 j0
    have e1 := getD_at t 1 j1
    have e2 := getD_at t 2 j2
    have e3 := getD_at t 3 j3
    obtain ⟨c0, hc0⟩ : ∃ c, t[0]'j0 = c := ⟨_, rfl⟩
    obtain ⟨c1, hc1⟩ : ∃ c, t[1]'j1 = c := ⟨_, rfl⟩
    obtain ⟨c2, hc2⟩ : ∃ c, t[2]'j2 = c := ⟨_, rfl⟩
    obtain ⟨c3, hc3⟩ : ∃ c, t[3]'j3 = c := ⟨_, rfl⟩
    rw [hc0] at e0
    rw [hc1] at e1
    rw [hc2] at e2
    rw [hc3] at e3
    have l0 : c0.toNat < 256 := c0.toNat_lt
    have l1 : c1.toNat < 256 := c1.toNat_lt
    have l2 : c2.toNat < 256 := c2.toNat_lt
    have l3 : c3.toNat < 256 := c3.toNat_lt
    obtain ⟨n3, hn3⟩ : ∃ n, ((c0.toNat * 256 + c1.toNat) * 256 + c2.toNat) * 256 + c3.toNat = n := ⟨_, rfl⟩
    have HNUM : Aside0 (num4 (tl t) = n3) := ⟨by unfold num4; rw [e0, e1, e2, e3, hn3]⟩
    have hn3s : n3 < 4294967296 := by rw [← hn3]; exact num_lt l0 l1 l2 l3
    have HE := Aside0.mk (num_expr c0 c1 c2 c3)
    rw [hn3] at HE
    clear e0 e1 e2 e3 hn3 hres l0 l1 l2 l3
    by_cases h2 : 131072 < n3
    · have h2' : (131072 : Int) < (n3 : Int) := by omega
      have HR : res = .inl 4 := by rw [← HRES.out]; unfold frontF; rw [tl_size, if_neg h1, HNUM.out, if_pos h2]
      subst HR
      clear HRES HNUM
      go_enter Tryz.func109, Tryz.ntmps109
      go_wp2_with (fail)
      refine wp_loop_rounds 5 ?_
      rw [rounds_succ]
      go_wp2_with (fail)
      rw [rounds_succ]
      go_wp2_with (fail)
      rw [rounds_succ]
      go_wp2_with (fail)
      rw [rounds_succ]
      go_wp2_with (fail)
      rw [rounds_succ]
      go_upto_region 8 with fail
      rw [HE.out]
      go_wp2_with (fail)
      exact bodyPost_ret (results_list (rs := [_, _, _]) Tryz.results109 (by simp) (.tmp (.tmp (.tmp .nil)))) rfl ⟨Below.refl _ _, ⟨#[]⟩, rfl⟩
    · have h2' : ¬ (131072 : Int) < (n3 : Int) := by omega
      by_cases h3 : t.size - 12 < n3
      · have h3' : (t.size : Int) < 12 + (n3 : Int) := by omega
        have HR : res = .inl 40 := by rw [← HRES.out]; unfold frontF; rw [tl_size, if_neg h1, HNUM.out, if_neg h2, if_pos h3]
        subst HR
        clear HRES HNUM
        go_enter Tryz.func109, Tryz.ntmps109
        go_wp2_with (fail)
        refine wp_loop_rounds 5 ?_
        rw [rounds_succ]
        go_wp2_with (fail)
        rw [rounds_succ]
        go_wp2_with (fail)
        rw [rounds_succ]
        go_wp2_with (fail)
        rw [rounds_succ]
        go_wp2_with (fail)
        rw [rounds_succ]
        go_upto_region 8 with fail
        rw [HE.out]
        go_wp2_with (fail)
        exact bodyPost_ret (results_list (rs := [_, _, _]) Tryz.results109 (by simp) (.tmp (.tmp (.tmp .nil)))) rfl ⟨Below.refl _ _, ⟨#[]⟩, rfl⟩
      · have h3' : ¬ (t.size : Int) < 12 + (n3 : Int) := by omega
        obtain ⟨p, hp⟩ : ∃ p, t.extract 12 (12 + n3) = p := ⟨_, rfl⟩
        have hpl : tl p = ((tl t).drop 12).take n3 := by rw [← hp, tl_extract, List.drop_take, show 12 + n3 - 12 = n3 by omega]
        have hps : p.size = n3 := by rw [← hp, ByteArray.size_extract]; omega
        obtain ⟨f, hf⟩ : ∃ f, t.extract 0 4 = f := ⟨_, rfl⟩
        have hfl : tl f = (tl t).take 4 := by rw [← hf, tl_extract, List.drop_zero]
        have hfs : f.size = 4 := by rw [← hf, ByteArray.size_extract]; omega
        obtain ⟨q, hq⟩ : ∃ q, t.extract 4 12 = q := ⟨_, rfl⟩
        have hql : tl q = ((tl t).take 12).drop 4 := by rw [← hq, tl_extract]
        obtain ⟨x, hx⟩ : ∃ x, moreN 14695981039346656037 (tl (f ++ p)) = x := ⟨_, rfl⟩
        have hxl : x < 18446744073709551616 := by rw [← hx]; exact moreN_lt _ _ (by decide)
        have HS := Aside0.mk (fun W => rsum_calls (f ++ p) W (by rw [ByteArray.size_append]; omega))
        have HWD := Aside0.mk (fun W => word_calls x W hxl)
        rw [hx] at HS
        have hfour : be 4 n3 = tl f := by
          rw [hfl, ← HNUM.out]
          have hl : (tl t).length = t.size := tl_size t
          match h : tl t, hl with
          | [], hl => rw [List.length_nil] at hl; omega
          | [_], hl => simp at hl; omega
          | [_, _], hl => simp at hl; omega
          | [_, _, _], hl => simp at hl; omega
          | a :: b :: c :: d :: r, _ => exact be_num4 a b c d r
        have HC : Aside0 ((headF (tl p) = (tl t).take 12) ↔ be 8 x = tl q) := ⟨by
          have h1 : headF (tl p) = tl f ++ be 8 x := by
            unfold headF
            rw [tl_size, hps, ← hx, tl_append, hfour]
          have h2 : (tl t).take 12 = tl f ++ tl q := by
            rw [hfl, hql]
            have := List.take_append_drop 4 ((tl t).take 12)
            rw [List.take_take] at this
            exact this.symm
          rw [h1, h2]
          exact ⟨fun e => List.append_cancel_left e, fun e => by rw [e]⟩⟩
        have HR0 : Aside0 (res = if be 8 x = tl q then .inr (tl p) else .inl 41) := ⟨by
          rw [← HRES.out]
          unfold frontF
          rw [tl_size, if_neg h1, HNUM.out, if_neg h2, if_neg h3, ← hpl]
          by_cases z : be 8 x = tl q
          · rw [if_pos (HC.out.2 z), if_pos z]
          · rw [if_neg (fun e => z (HC.out.1 e)), if_neg z]⟩
        have hs12 : ∀ W, (Instr.slice 9 (.string t) (some (.int .i64 12)) (some (.int .i64 (12 + (n3 : Int)))) none).run Tryz.prog W = .ok (.string p) W := fun W => by
          have := run_slice_string (P := Tryz.prog) W 9 t .i64 .i64 12 (12 + (n3 : Int)) Tryz.underlying9 (by omega) (by omega) (by omega)
          rw [this, ← hp]
          rfl
        have hs0 : ∀ W, (Instr.slice 9 (.string t) none (some (.int .i64 4)) none).run Tryz.prog W = .ok (.string f) W := fun W => by
          have := run_slice_string_h (P := Tryz.prog) W 9 t Tryz.underlying9 .i64 4 (by omega) (by omega)
          rw [this, ← hf]
          rfl
        have hs4 : ∀ W, (Instr.slice 9 (.string t) (some (.int .i64 4)) (some (.int .i64 12)) none).run Tryz.prog W = .ok (.string q) W := fun W => by
          have := run_slice_string (P := Tryz.prog) W 9 t .i64 .i64 4 12 Tryz.underlying9 (by omega) (by omega) (by omega)
          rw [this, ← hq]
          rfl
        obtain ⟨rest, hrest⟩ : ∃ r, t.extract (12 + n3) t.size = r := ⟨_, rfl⟩
        have hs5 : ∀ W, (Instr.slice 9 (.string t) (some (.int .i64 (12 + (n3 : Int)))) none none).run Tryz.prog W = .ok (.string rest) W := fun W => by
          have := run_slice_string_l (P := Tryz.prog) W 9 t Tryz.underlying9 .i64 (12 + (n3 : Int)) (by omega) (by omega)
          rw [this, ← hrest]
          rfl
        have hb1 : ¬ 9223372036854775807 < f.size + p.size := by omega
        have hb2 : ¬ 9223372036854775807 < 4 + n3 := by omega
        have hb3 : ¬ 9223372036854775807 < 4 + p.size := by omega
        have hb4 : ¬ 9223372036854775807 < f.size + n3 := by omega
        have HSE : Aside0 ((be 8 x == q.toList) = decide (be 8 x = tl q)) := ⟨by
          rw [ByteArray.toList_eq]
          by_cases z : be 8 x = tl q
          · rw [decide_eq_true z, z]; simp
          · rw [decide_eq_false z, beq_eq_false_iff_ne]; exact z⟩
        clear HRES HNUM hpl hfl hql hp hf hq hx hfour HC hrest
        by_cases hlq : be 8 x = tl q
        · have HR : res = .inr (tl p) := by rw [HR0.out, if_pos hlq]
          have hse : (be 8 x == q.toList) = true := by rw [HSE.out, decide_eq_true hlq]
          subst HR
          clear HR0 HSE hlq
          go_enter Tryz.func109, Tryz.ntmps109
          go_wp2_with (fail)
          refine wp_loop_rounds 5 ?_
          rw [rounds_succ]
          go_wp2_with (fail)
          rw [rounds_succ]
          go_wp2_with (fail)
          rw [rounds_succ]
          go_wp2_with (fail)
          rw [rounds_succ]
          go_wp2_with (fail)
          rw [rounds_succ]
          go_upto_region 8 with fail
          rw [HE.out]
          go_wp2_with (fail)
          go_region_held3 (fun w' => True) (exact True.intro) (first
            | (go_at_call 93; (with_reducible refine (HS.out _).mono ?_); rintro e wa ⟨rfl, rfl⟩)
            | (go_at_call 92; (with_reducible refine (HWD.out _).mono ?_); rintro e wb ⟨rfl, hb⟩; have HBB := Aside0.mk (below_step (w := w) (by first | exact below_drew1 (Below.refl _ _) | exact Below.refl _ _ | exact pw_below_drewN (Below.refl _ _) _) hb); clear hb))
          all_goals go_wp2_with (fail)
          all_goals
            go_region
            go_wp2_with (fail)
            exact bodyPost_ret (results_list (rs := [_, _, _]) Tryz.results109 (by simp) (.tmp (.tmp (.tmp .nil)))) rfl ⟨by first | exact below_drew1 HBB.out | exact HBB.out, rest, by first | rfl | (rw [mkB_tl]; rfl) | (simp; done)⟩
        · have HR : res = .inl 41 := by rw [HR0.out, if_neg hlq]
          have hse : (be 8 x == q.toList) = false := by rw [HSE.out, decide_eq_false hlq]
          subst HR
          clear HR0 HSE hlq
          go_enter Tryz.func109, Tryz.ntmps109
          go_wp2_with (fail)
          refine wp_loop_rounds 5 ?_
          rw [rounds_succ]
          go_wp2_with (fail)
          rw [rounds_succ]
          go_wp2_with (fail)
          rw [rounds_succ]
          go_wp2_with (fail)
          rw [rounds_succ]
          go_wp2_with (fail)
          rw [rounds_succ]
          go_upto_region 8 with fail
          rw [HE.out]
          go_wp2_with (fail)
          go_region_held3 (fun w' => True) (exact True.intro) (first
            | (go_at_call 93; (with_reducible refine (HS.out _).mono ?_); rintro e wa ⟨rfl, rfl⟩)
            | (go_at_call 92; (with_reducible refine (HWD.out _).mono ?_); rintro e wb ⟨rfl, hb⟩; have HBB := Aside0.mk (below_step (w := w) (by first | exact below_drew1 (Below.refl _ _) | exact Below.refl _ _ | exact pw_below_drewN (Below.refl _ _) _) hb); clear hb))
          all_goals go_wp2_with (fail)
          exact bodyPost_ret (results_list (rs := [_, _, _]) Tryz.results109 (by simp) (.tmp (.tmp (.tmp .nil)))) rfl ⟨HBB.out, ⟨#[]⟩, rfl⟩
end
section
set_option maxHeartbeats 32000000 in
set_option maxRecDepth 100000 in
theorem rfall_calls (s : ByteArray) (w : World) (hs : s.size ≤ 16777216) : Calls Tryz.prog 88 #[.string s] w fun e w' => ∃ v, (∃ u ev, e = .returned (.tuple #[v, u, ev])) ∧ w'.ownsRow w.heap.size 9 1 v (recsF (tl s)).length ((recsF (tl s)).map encS) ∧ Below w.heap.size w w' := by
  obtain ⟨i0, hi0, hz0, hz1, hz2⟩ := info_parts infoS
  go_enter Tryz.func88, Tryz.ntmps88
  go_wp2_with (fail)
  go_loopw [5, 6, 7, 8, 9] (fun v5 v6 v7 v8 v9 wr => ∃ (k : Nat) (acc : List BL), k ≤ s.size ∧ v6 = .int .i64 k ∧ acc.length ≤ k ∧ wr.ownsRow w.heap.size 9 1 v5 acc.length (acc.map encS) ∧ Aside0 (Below w.heap.size w wr ∧ recsF (tl s) = acc ++ recsF ((tl s).drop k))) (fun _ v6 _ _ _ _ => s.size - (intOf v6).toNat)
  case atStart => exact ⟨0, [], Nat.zero_le _, rfl, Nat.le_refl _, World.ownsRow_nil _ _ _ _, ⟨Below.refl _ _, by rw [List.drop_zero]; rfl⟩⟩
  case round =>
    obtain ⟨k, acc, hk, rfl, hacc, hrow, HX⟩ := hrel
    have hzw := HX.out.1.size
    by_cases h1 : k < s.size
    · have h1' : (k : Int) < (s.size : Int) := by omega
      have hsl : ∀ W, (Instr.slice 9 (.string s) (some (.int .i64 (k : Int))) none none).run Tryz.prog W = .ok (.string (s.extract k s.size)) W := fun W => by
        have := run_slice_string_l (P := Tryz.prog) W 9 s Tryz.underlying9 .i64 (k : Int) (by omega) (by omega)
        rw [this]
        rfl
      have hts : (s.extract k s.size).size ≤ 1000000000 := by rw [ByteArray.size_extract]; omega
      have HF : Aside0 (∀ W, _) := ⟨fun W => rfront_calls (s.extract k s.size) W hts⟩
      rw [tl_from] at HF
      generalize s.extract k s.size = t at *
      cases hf : frontF ((tl s).drop k) with
      | inl c =>
        rw [hf] at HF
        have hc0 : (c : Int) ≠ 0 := by
          unfold frontF at hf
          split at hf
          · injection hf with hf; omega
          · split at hf
            · injection hf with hf; omega
            · split at hf
              · injection hf with hf; omega
              · split at hf
                · cases hf
                · injection hf with hf; omega
        have HE : Aside0 (recsF (tl s) = acc) := ⟨by rw [HX.out.2, recsF_bad hf, List.append_nil]⟩
        clear hf
        go_wp2_with (fail)
        refine (HF.out _).mono ?_
        rintro e w1 ⟨hb1, g, rfl⟩
        have HB1 := Aside0.mk (below_step (w := w) HX.out.1 hb1)
        have hrow1 := own_below hrow hb1
        clear hb1
        go_wp2_with (fail)
        refine bodyPost_ret (results_list (rs := [_, _, _]) Tryz.results88 (by simp) (.tmp (.tmp (.tmp .nil)))) rfl ⟨_, ⟨_, _, rfl⟩, ?_, HB1.out⟩
        rw [HE.out]
        exact hrow1
      | inr p =>
        rw [hf] at HF
        have hl := front_len hf
        rw [List.length_drop, tl_size] at hl
        have HE : Aside0 (recsF (tl s) = (acc ++ [p]) ++ recsF ((tl s).drop (k + (12 + p.length)))) := ⟨by rw [HX.out.2, recsF_ok hf, List.drop_drop, List.append_assoc]; rfl⟩
        have hps : (mkB p).size = p.length := mkB_size p
        obtain ⟨m, hm⟩ : ∃ m, 12 + p.length = m := ⟨_, rfl⟩
        rw [hm] at HE hl
        have HWR : Aside0 (wrap64 ((k : Int) + wrap64 (12 + (p.length : Int))) = ((k + m : Nat) : Int)) := ⟨by rw [wrap_small (12 + (p.length : Int)) (by omega) (by omega), wrap_small _ (by omega) (by omega)]; omega⟩
        have hk2 : k + m ≤ s.size := by omega
        have hm0 : 12 ≤ m := by omega
        clear hf hps hm hl
        go_wp2_with (fail)
        refine (HF.out _).mono ?_
        rintro e w1 ⟨hb1, rest, rfl⟩
        have HB1 := Aside0.mk (below_step (w := w) HX.out.1 hb1)
        have hrow1 := own_below hrow hb1
        have hz1' := HB1.out.size
        clear hb1 hrow
        go_wp2_with (first
          | (at_builtin; refine wpList_append_own _ rfl _ _ 36 rfl w.heap.size 9 i0 (.string ByteArray.empty) 1 16 Tryz.underlying36 hi0 hz0 hz1 hz2 rfl (by decide) _ _ _ rfl (hrow1.alloc _) ⟨w1.heap.size, 0, none⟩ 1 1 [encS p] rfl rfl (cell_one_new _ _ _) (by simp [Value.oneCell', encS]) (by unfold maxLen; omega) (by omega) (by simp; omega) ?_; intro v' w3 hown' hg3 hnil3; have HB3 := Aside0.mk ((HB1.out.alloc hz1' _).grown hg3 (by simp; omega) (fun j hj => by have := (hrow1.lt j hj).1; simpa using this)); have HO3 := Aside0.mk hown'; clear hown' hg3 hnil3)
          | go_in)
        all_goals
          rw [HWR.out]
          exact ⟨⟨k + m, acc ++ [p], hk2, rfl, by rw [List.length_append, List.length_singleton]; omega, by simpa using HO3.out, ⟨HB3.out, HE.out⟩⟩, by simp [intOf]; omega⟩
    · have h1' : ¬ (k : Int) < (s.size : Int) := by omega
      have HE : Aside0 (recsF (tl s) = acc) := ⟨by rw [HX.out.2, drop_end s k (by omega), recsF_nil, List.append_nil]⟩
      go_wp2_with (fail)
      refine bodyPost_ret (results_list (rs := [_, _, _]) Tryz.results88 (by simp) (.tmp (.tmp (.tmp .nil)))) rfl ⟨_, ⟨_, _, rfl⟩, ?_, HX.out.1⟩
      rw [HE.out]
      exact hrow
end
end Go.Proofs.YtmceikfbgmcmaaaGreatDoor.D

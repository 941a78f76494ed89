/- Numbers: plain laws. -/
import Derived.Test.YtopcidphlleciaaGreatDoorScP
import Derived.Lib.ItoaNum
import Derived.Lib.ParseIntB
namespace Go.Proofs.YtopcidphlleciaaGreatDoor.S
open Go.RowKit Go.Extern.Stop Go.Stop Go.Extern Go.Proofs.YtopcidphlleciaaGreatDoorW.PrintWords Go.Proofs.YtopcidphlleciaaGreatDoorW.PrintLast Go.Proofs.YtopcidphlleciaaGreatDoorW.PrintMore
set_option linter.unusedVariables false
set_option linter.unusedSimpArgs false
def dgc (c : UInt8) : Bool := decide (48 ≤ c.toNat ∧ c.toNat ≤ 57)
def stp (n : Nat) (c : UInt8) : Nat := n * 10 + (c.toNat - 48)
def decF (n : Nat) (l : BL) : Nat := l.foldl stp n
def can (l : BL) : Bool := l.all dgc && (decide (l ≠ []) && (decide (l.length ≤ 10) && !(decide (1 < l.length) && decide (l.head? = some 48))))
/-- The number of a text: the document's. -/
def numO (l : BL) : Option Nat := if can l = true ∧ decF 0 l ≤ 2147483647 then some (decF 0 l) else none
/-- What is told where the text is none. -/
abbrev badEnd : Lib.NumEnd Nat := Lib.parseUintM 2147483647 0 [0]
/-- The program's. -/
def numP (l : BL) : Option Nat := match (if l = [] then badEnd else Lib.parseUintM 2147483647 0 l) with
  | .ok n => if Lib.decDigits n = l then some n else none
  | _ => none
theorem decF_ge : ∀ (l : BL) (n : Nat), n ≤ decF n l
  | [], n => Nat.le_refl _
  | c :: r, n => by
    show n ≤ decF (stp n c) r
    have := decF_ge r (stp n c)
    unfold stp at this ⊢
    omega
theorem parse_of : ∀ (l : BL) (n : Nat), l.all dgc = true → decF n l ≤ 2147483647 → Lib.parseUintM 2147483647 n l = .ok (decF n l)
  | [], n, _, _ => rfl
  | c :: r, n, h, hv => by
    rw [List.all_cons, Bool.and_eq_true] at h
    have hc := of_decide_eq_true h.1
    have h1 := decF_ge r (stp n c)
    have hv' : decF (stp n c) r ≤ 2147483647 := hv
    have h2 : stp n c ≤ 2147483647 := by omega
    rw [Lib.parseUintM, if_pos hc]
    unfold stp at h2
    rw [if_neg (by omega), if_neg (by omega)]
    exact parse_of r _ h.2 hv'
theorem parse_ok : ∀ (l : BL) (n m : Nat), n ≤ 2147483647 → Lib.parseUintM 2147483647 n l = .ok m → m ≤ 2147483647
  | [], n, m, hn, h => by injection h with h; omega
  | c :: r, n, m, hn, h => by
    rw [Lib.parseUintM] at h
    split at h
    · split at h
      · cases h
      · split at h
        · cases h
        · rename_i h3
          exact parse_ok r _ m (by omega) h
    · cases h
theorem dd_step {n : Nat} (h : ¬ n < 10) : Lib.decDigits n = Lib.decDigits (n / 10) ++ [UInt8.ofNat (48 + n % 10)] := by
  conv => lhs; rw [Lib.decDigits, dif_neg h]
theorem ofNat_dig {d : Nat} (h : d < 10) : (UInt8.ofNat (48 + d)).toNat = 48 + d := by
  rw [UInt8.toNat_ofNat']
  omega
theorem dd_facts : ∀ (n : Nat), (Lib.decDigits n).all dgc = true ∧ decF 0 (Lib.decDigits n) = n ∧ Lib.decDigits n ≠ [] ∧ (1 ≤ n → (Lib.decDigits n).head? ≠ some 48) := by
  intro n
  induction n using Nat.strongRecOn with
  | ind n ih =>
    by_cases h : n < 10
    · rw [Lib.decDigits_one h]
      refine ⟨?_, ?_, by simp, ?_⟩
      · simp only [List.all_cons, List.all_nil, Bool.and_true]
        unfold dgc
        rw [ofNat_dig h]
        exact decide_eq_true (by omega)
      · show stp 0 _ = n
        unfold stp
        rw [ofNat_dig h]
        omega
      · intro h1 h2
        simp only [List.head?_cons, Option.some.injEq] at h2
        have h3 := congrArg UInt8.toNat h2
        rw [ofNat_dig h] at h3
        have : (48 : UInt8).toNat = 48 := rfl
        omega
    · have hm : n % 10 < 10 := Nat.mod_lt _ (by omega)
      obtain ⟨a, b, c, d⟩ := ih (n / 10) (by omega)
      rw [dd_step h]
      refine ⟨?_, ?_, by simp, ?_⟩
      · rw [List.all_append, a]
        simp only [List.all_cons, List.all_nil, Bool.and_true, Bool.true_and]
        unfold dgc
        rw [ofNat_dig hm]
        exact decide_eq_true (by omega)
      · unfold decF at b ⊢
        rw [List.foldl_append, b]
        show stp _ _ = n
        unfold stp
        rw [ofNat_dig hm]
        omega
      · intro _ h2
        refine d (by omega) ?_
        cases hx : Lib.decDigits (n / 10) with
        | nil => exact absurd hx c
        | cons x r =>
          rw [hx] at h2
          exact h2
theorem dd_len : ∀ (k n : Nat), n < 10 ^ (k + 1) → (Lib.decDigits n).length ≤ k + 1
  | 0, n, h => by rw [Lib.decDigits_one (by simpa using h)]; simp
  | k + 1, n, h => by
    by_cases h1 : n < 10
    · rw [Lib.decDigits_one h1]; simp
    · rw [dd_step h1, List.length_append]
      have h2 : n / 10 < 10 ^ (k + 1) := by
        rw [Nat.pow_succ] at h
        exact Nat.div_lt_of_lt_mul (by rw [Nat.mul_comm]; exact h)
      have := dd_len k _ h2
      simp
      omega
theorem can_dd : ∀ (m : Nat) (l : BL), l.length = m → l.all dgc = true → l ≠ [] → (1 < l.length → l.head? ≠ some 48) → Lib.decDigits (decF 0 l) = l := by
  intro m
  induction m with
  | zero => intro l hl _ hne _; exact absurd (List.length_eq_zero_iff.1 hl) hne
  | succ m ih =>
    intro l hl ha hne hh
    obtain ⟨r, c, rfl⟩ : ∃ r c, l = r ++ [c] := ⟨l.dropLast, l.getLast hne, (List.dropLast_concat_getLast hne).symm⟩
    rw [List.all_append, Bool.and_eq_true] at ha
    have hc : 48 ≤ c.toNat ∧ c.toNat ≤ 57 := of_decide_eq_true (by have := ha.2; simpa [dgc] using this)
    have hv : decF 0 (r ++ [c]) = decF 0 r * 10 + (c.toNat - 48) := by unfold decF; rw [List.foldl_append]; rfl
    have hcc : UInt8.ofNat (48 + (c.toNat - 48)) = c := by
      rw [show 48 + (c.toNat - 48) = c.toNat by omega]
      simp
    rw [hv]
    by_cases hr : r = []
    · subst hr
      show Lib.decDigits (0 * 10 + (c.toNat - 48)) = [c]
      rw [Lib.decDigits_one (by omega), show 48 + (0 * 10 + (c.toNat - 48)) = 48 + (c.toNat - 48) by omega, hcc]
    · have hrl : r.length = m := by simp at hl; omega
      have hrp : 0 < r.length := List.length_pos_iff.2 hr
      have hhr : r.head? ≠ some 48 := by
        have := hh (by simp; omega)
        cases r with
        | nil => exact absurd rfl hr
        | cons x r => exact this
      have h1 := ih r hrl ha.1 hr (fun _ => hhr)
      have hpos : 1 ≤ decF 0 r := by
        rcases Nat.eq_zero_or_pos (decF 0 r) with h0 | h0
        · rw [h0, Lib.decDigits_one (by omega)] at h1
          rw [← h1] at hhr
          exact absurd rfl hhr
        · exact h0
      rw [dd_step (by omega)]
      rw [show (decF 0 r * 10 + (c.toNat - 48)) / 10 = decF 0 r by omega, show (decF 0 r * 10 + (c.toNat - 48)) % 10 = c.toNat - 48 by omega, h1, hcc]
theorem num_eq (l : BL) : numP l = numO l := by
  unfold numP
  by_cases hn : numO l = none
  · rw [hn]
    by_cases h0 : l = []
    · rw [if_pos h0]; rfl
    · rw [if_neg h0]
      cases hp : Lib.parseUintM 2147483647 0 l with
      | ok n =>
        simp only
        by_cases hd : Lib.decDigits n = l
        · exfalso
          have hle := parse_ok l 0 n (by omega) hp
          obtain ⟨a, b, c, d⟩ := dd_facts n
          rw [hd] at a b c d
          unfold numO at hn
          rw [if_pos] at hn
          · cases hn
          · refine ⟨?_, by omega⟩
            unfold can
            have hlen : l.length ≤ 10 := by rw [← hd]; exact dd_len 9 n (by omega)
            have hz : (decide (1 < l.length) && decide (l.head? = some 48)) = false := by
              by_cases h1 : 1 < l.length
              · rw [decide_eq_true h1, Bool.true_and]
                refine decide_eq_false (d ?_)
                rcases Nat.eq_zero_or_pos n with h2 | h2
                · rw [h2, Lib.decDigits_one (by omega)] at hd
                  rw [← hd] at h1
                  simp at h1
                · exact h2
              · rw [decide_eq_false h1]; rfl
            rw [a, decide_eq_true c, decide_eq_true hlen, hz]; rfl
        · rw [if_neg hd]
      | _ => rfl
  · unfold numO at hn ⊢
    split at hn
    · rename_i h
      rw [if_pos h]
      obtain ⟨hc, hv⟩ := h
      unfold can at hc
      simp only [Bool.and_eq_true, decide_eq_true_eq, Bool.not_eq_true'] at hc
      obtain ⟨ha, hne, hlen, hz⟩ := hc
      rw [if_neg hne, parse_of l 0 ha hv]
      simp only
      rw [if_pos]
      refine can_dd _ l rfl ha hne ?_
      intro h1 h2
      rw [decide_eq_true h1, decide_eq_true h2] at hz
      cases hz
    · exact absurd rfl hn
end Go.Proofs.YtopcidphlleciaaGreatDoor.S

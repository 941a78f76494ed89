/- Texts as they are written: plain laws. -/
import Derived.Test.YtopcidphlleciaaGreatDoorWMore
import Derived.Test.YtopcidphlleciaaGreatDoorWLast
import Derived.Test.YtopcidphlleciaaGreatDoorWWords
namespace Go.Proofs.YtopcidphlleciaaGreatDoor.S
open Go.RowKit Go.Extern.Stop Go.Stop Go.Extern Go.Proofs.YtopcidphlleciaaGreatDoorW.PrintWords Go.Proofs.YtopcidphlleciaaGreatDoorW.PrintLast Go.Proofs.YtopcidphlleciaaGreatDoorW.PrintMore
set_option linter.unusedVariables false
set_option linter.unusedSimpArgs false
abbrev BL := List UInt8
abbrev tl (s : ByteArray) : BL := s.data.toList
theorem tl_inj {a b : ByteArray} (h : tl a = tl b) : a = b := ByteArray.ext (Array.toList_inj.1 h)
def plC (c : UInt8) : Bool := 33 ≤ c && c ≤ 126 && c != 37
/-- A hexadecimal digit's number. -/
def hexi (c : UInt8) : Option Nat := if 48 ≤ c ∧ c ≤ 57 then some (c.toNat - 48) else if 97 ≤ c ∧ c ≤ 102 then some (c.toNat - 87) else none
def hexd (n : Nat) : UInt8 := if n < 10 then UInt8.ofNat (48 + n) else UInt8.ofNat (87 + n)
def wrC (c : UInt8) : BL := if plC c then [c] else [37, hexd (c.toNat / 16), hexd (c.toNat % 16)]
def wrL : BL → BL
  | [] => []
  | c :: r => wrC c ++ wrL r
def wrA (l : BL) : BL := if l = [] then [37] else wrL l
/-- May the digit begin a byte that is written by two? -/
def hiN (k : Nat) : Bool := k != 3 && k != 4 && k != 5 && k != 6
def hiB (c : UInt8) : Bool := match hexi c with | some k => hiN k | none => false
def loB (h l : UInt8) : Bool := match hexi h, hexi l with | some k, some m => !plC (UInt8.ofNat (16 * k + m)) | _, _ => false
def byt (h l : UInt8) : UInt8 := match hexi h, hexi l with | some k, some m => UInt8.ofNat (16 * k + m) | _, _ => 0
inductive Sc where
  | bad (k : Nat)
  | short
  | ok (o : BL)
  deriving DecidableEq
def Sc.sh (n : Nat) (x : BL) : Sc → Sc
  | .bad k => .bad (k + n)
  | .short => .short
  | .ok o => .ok (x ++ o)
def sc : BL → Sc
  | [] => .ok []
  | [c] => if plC c then .ok [c] else if c = 37 then .short else .bad 0
  | [c, h] => if plC c then (sc [h]).sh 1 [c] else if c = 37 then (if hiB h then .short else .bad 1) else .bad 0
  | c :: h :: l :: r => if plC c then (sc (h :: l :: r)).sh 1 [c] else if c = 37 then (if hiB h then (if loB h l then (sc r).sh 3 [byt h l] else .bad 2) else .bad 1) else .bad 0
theorem Sc.sh_zero (x : Sc) : x.sh 0 [] = x := by cases x <;> rfl
theorem Sc.sh_sh (x : Sc) (n m : Nat) (a b : BL) : (x.sh n a).sh m b = x.sh (m + n) (b ++ a) := by
  cases x with
  | bad k => simp only [Sc.sh]; congr 1; omega
  | short => rfl
  | ok o => simp only [Sc.sh, List.append_assoc]
theorem sc_plain {c : UInt8} {r : BL} (h : plC c = true) : sc (c :: r) = (sc r).sh 1 [c] := by
  match r with
  | [] => exact (show sc [c] = .ok [c] by rw [sc, if_pos h])
  | [b] => conv => lhs; rw [sc, if_pos h]
  | b :: d :: r => conv => lhs; rw [sc, if_pos h]
theorem sc_no {c : UInt8} {r : BL} (h : plC c = false) (h2 : c ≠ 37) : sc (c :: r) = .bad 0 := by
  match r with
  | [] => rw [sc, if_neg (by rw [h]; decide), if_neg h2]
  | [b] => rw [sc, if_neg (by rw [h]; decide), if_neg h2]
  | b :: d :: r => rw [sc, if_neg (by rw [h]; decide), if_neg h2]
theorem pl37 : plC 37 = false := by decide
theorem sc_1 : sc [37] = .short := rfl
theorem sc_hi {b : UInt8} {r : BL} (h : hiB b = false) : sc (37 :: b :: r) = .bad 1 := by
  match r with
  | [] => rw [sc, if_neg (by rw [pl37]; decide), if_pos rfl, if_neg (by rw [h]; decide)]
  | d :: r => rw [sc, if_neg (by rw [pl37]; decide), if_pos rfl, if_neg (by rw [h]; decide)]
theorem sc_2 {b : UInt8} (h : hiB b = true) : sc [37, b] = .short := by rw [sc, if_neg (by rw [pl37]; decide), if_pos rfl, if_pos h]
theorem sc_lo {b d : UInt8} {r : BL} (h : hiB b = true) (h2 : loB b d = false) : sc (37 :: b :: d :: r) = .bad 2 := by
  rw [sc, if_neg (by rw [pl37]; decide), if_pos rfl, if_pos h, if_neg (by rw [h2]; decide)]
theorem sc_yes {b d : UInt8} {r : BL} (h : hiB b = true) (h2 : loB b d = true) : sc (37 :: b :: d :: r) = (sc r).sh 3 [byt b d] := by
  rw [sc, if_neg (by rw [pl37]; decide), if_pos rfl, if_pos h, if_pos h2]
/-- The text, the place, and whether it is one. -/
def unw (s : BL) : BL × Nat × Bool := if s = [37] then ([], 0, true) else match sc s with
  | .bad k => ([], k, false)
  | .short => ([], s.length, false)
  | .ok o => if o = [] then ([], 0, false) else (o, 0, true)
theorem byte_all (p : UInt8 → Bool) (h : (List.range 256).all (fun n => p (UInt8.ofNat n)) = true) (c : UInt8) : p c = true := by
  have h1 := List.all_eq_true.1 h c.toNat (List.mem_range.2 c.toNat_lt)
  simpa using h1
theorem wr_pair (c : UInt8) (h : plC c = false) : hiB (hexd (c.toNat / 16)) = true ∧ loB (hexd (c.toNat / 16)) (hexd (c.toNat % 16)) = true ∧ byt (hexd (c.toNat / 16)) (hexd (c.toNat % 16)) = c := by
  have h1 := byte_all (fun c => plC c || (hiB (hexd (c.toNat / 16)) && (loB (hexd (c.toNat / 16)) (hexd (c.toNat % 16)) && byt (hexd (c.toNat / 16)) (hexd (c.toNat % 16)) == c))) (by decide +kernel) c
  simp only [h, Bool.false_or, Bool.and_eq_true, beq_iff_eq] at h1
  exact h1
/-- What is written says what it was. -/
theorem sc_wr : ∀ l : BL, sc (wrL l) = .ok l
  | [] => rfl
  | c :: r => by
    rw [wrL]
    unfold wrC
    cases h : plC c
    · obtain ⟨h1, h2, h3⟩ := wr_pair c h
      rw [if_neg (by decide)]
      show sc (37 :: _ :: _ :: wrL r) = _
      rw [sc_yes h1 h2, sc_wr r, h3]
      rfl
    · rw [if_pos rfl]
      show sc (c :: wrL r) = _
      rw [sc_plain h, sc_wr r]
      rfl
theorem wr_ne {l : BL} (h : wrL l = []) : l = [] := by
  cases l with
  | nil => rfl
  | cons c r =>
    rw [wrL] at h
    unfold wrC at h
    split at h <;> simp at h
theorem wr_pct {l : BL} : wrL l ≠ [37] := by
  intro h
  have h1 := sc_wr l
  rw [h] at h1
  rw [sc_1] at h1
  cases h1
theorem unw_wrA (l : BL) : unw (wrA l) = (l, 0, true) := by
  unfold unw wrA
  by_cases h : l = []
  · subst h; rfl
  · rw [if_neg h, if_neg wr_pct, sc_wr]
    simp only
    rw [if_neg h]
theorem wrA_inj {a b : BL} (h : wrA a = wrA b) : a = b := by
  have h1 := unw_wrA a
  rw [h, unw_wrA b] at h1
  injection h1 with h1
  exact h1.symm
theorem wrC_in (c : UInt8) : ∀ x ∈ wrC c, 32 < x ∧ x ≤ 126 := by
  have h1 := byte_all (fun c => (wrC c).all fun x => decide (32 < x ∧ x ≤ 126)) (by decide +kernel) c
  intro x hx
  exact of_decide_eq_true (List.all_eq_true.1 h1 x hx)
theorem wr_in : ∀ (l : BL), ∀ x ∈ wrL l, 32 < x ∧ x ≤ 126
  | [], x, h => by cases h
  | c :: r, x, h => by
    rw [wrL] at h
    rcases List.mem_append.1 h with h | h
    · exact wrC_in c x h
    · exact wr_in r x h
theorem wrA_in (l : BL) : ∀ x ∈ wrA l, 32 < x ∧ x ≤ 126 := by
  unfold wrA
  split
  · intro x hx
    rw [List.mem_singleton.1 hx]
    decide
  · exact wr_in l
/-- A pair that is read is written so. -/
theorem pair_wr (b d : UInt8) (h : hiB b = true) (h2 : loB b d = true) : wrC (byt b d) = [37, b, d] := by
  have hb := byte_all (fun b => (List.range 256).all fun n => !(hiB b && loB b (UInt8.ofNat n)) || (wrC (byt b (UInt8.ofNat n)) == [37, b, UInt8.ofNat n])) (by decide +kernel) b
  have h1 := List.all_eq_true.1 hb d.toNat (List.mem_range.2 d.toNat_lt)
  simpa [h, h2] using h1
theorem wr_sc : ∀ (n : Nat) (s o : BL), s.length ≤ n → sc s = .ok o → wrL o = s
  | _, [], o, _, h => by
    injection h with h
    rw [← h]; rfl
  | 0, c :: r, o, hn, h => absurd hn (by simp)
  | n + 1, c :: r, o, hn, h => by
    cases hp : plC c
    · by_cases h37 : c = 37
      · subst h37
        match r, h, hn with
        | [], h, _ => rw [sc_1] at h; cases h
        | [b], h, _ =>
          cases hb : hiB b
          · rw [sc_hi hb] at h; cases h
          · rw [sc_2 hb] at h; cases h
        | b :: d :: r, h, hn =>
          cases hb : hiB b
          · rw [sc_hi hb] at h; cases h
          · cases hd : loB b d
            · rw [sc_lo hb hd] at h; cases h
            · rw [sc_yes hb hd] at h
              cases hr : sc r with
              | bad k => rw [hr] at h; cases h
              | short => rw [hr] at h; cases h
              | ok o2 =>
                rw [hr] at h
                injection h with h
                subst h
                show wrL (byt b d :: o2) = _
                rw [wrL, pair_wr b d hb hd, wr_sc n r o2 (by simp at hn; omega) hr]
                rfl
      · rw [sc_no hp h37] at h; cases h
    · rw [sc_plain hp] at h
      cases hr : sc r with
      | bad k => rw [hr] at h; cases h
      | short => rw [hr] at h; cases h
      | ok o2 =>
        rw [hr] at h
        injection h with h
        subst h
        show wrL (c :: o2) = _
        rw [wrL, wr_sc n r o2 (by simp at hn; omega) hr]
        unfold wrC
        rw [if_pos hp]
        rfl
theorem wrA_unw {s o : BL} {k : Nat} (h : unw s = (o, k, true)) : wrA o = s := by
  unfold unw at h
  by_cases hs : s = [37]
  · subst hs
    rw [if_pos rfl] at h
    injection h with h
    rw [← h]; rfl
  · rw [if_neg hs] at h
    cases hr : sc s with
    | bad j => rw [hr] at h; cases h
    | short => rw [hr] at h; cases h
    | ok o2 =>
      rw [hr] at h
      simp only at h
      split at h
      · cases h
      · rename_i ho
        injection h with h
        subst h
        unfold wrA
        rw [if_neg ho]
        exact wr_sc _ s o2 (Nat.le_refl _) hr
def Sc.isBad : Sc → Option Nat
  | .bad k => some k
  | _ => none
theorem Sc.isBad_sh (x : Sc) (n : Nat) (a : BL) : (x.sh n a).isBad = x.isBad.map (· + n) := by cases x <;> rfl
/-- The first bytes of a text: where they go wrong is where the text does. -/
theorem sc_take : ∀ (n : Nat) (s : BL), s.length ≤ n → ∀ i, (sc (s.take i)).isBad = (sc s).isBad.bind fun k => if k < i then some k else none
  | _, [], _, i => by simp [sc, Sc.isBad]
  | 0, c :: r, hn, i => absurd hn (by simp)
  | n + 1, c :: r, hn, i => by
    cases i with
    | zero =>
      have h : ∀ o : Option Nat, (o.bind fun k => if k < 0 then some k else none) = none := fun o => by cases o <;> rfl
      rw [h]; rfl
    | succ i =>
      rw [List.take_succ_cons]
      cases hp : plC c
      · by_cases h37 : c = 37
        · subst h37
          match r, hn with
          | [], hn => simp [sc_1, Sc.isBad]
          | [b], hn =>
            cases i with
            | zero =>
              show (sc [37]).isBad = _
              rw [sc_1]
              cases hb : hiB b
              · rw [sc_hi hb]; rfl
              · rw [sc_2 hb]; rfl
            | succ i =>
              rw [List.take_succ_cons, List.take_nil]
              cases hb : hiB b
              · rw [sc_hi hb]; simp [Sc.isBad]
              · rw [sc_2 hb]; simp [Sc.isBad]
          | b :: d :: r, hn =>
            match i with
            | 0 =>
              show (sc [37]).isBad = _
              rw [sc_1]
              cases hb : hiB b
              · rw [sc_hi hb]; rfl
              · cases hd : loB b d
                · rw [sc_lo hb hd]; rfl
                · rw [sc_yes hb hd, Sc.isBad_sh]
                  cases (sc r).isBad with
                  | none => rfl
                  | some k => simp [Sc.isBad]
            | 1 =>
              show (sc [37, b]).isBad = _
              cases hb : hiB b
              · rw [sc_hi hb, sc_hi hb]; rfl
              · rw [sc_2 hb]
                cases hd : loB b d
                · rw [sc_lo hb hd]; rfl
                · rw [sc_yes hb hd, Sc.isBad_sh]
                  cases (sc r).isBad with
                  | none => rfl
                  | some k => simp [Sc.isBad]
            | i + 2 =>
              show (sc (37 :: b :: d :: r.take i)).isBad = _
              cases hb : hiB b
              · rw [sc_hi hb, sc_hi hb]; simp [Sc.isBad]
              · cases hd : loB b d
                · rw [sc_lo hb hd, sc_lo hb hd]; simp [Sc.isBad]
                · rw [sc_yes hb hd, sc_yes hb hd, Sc.isBad_sh, Sc.isBad_sh, sc_take n r (by simp at hn; omega) i]
                  cases (sc r).isBad with
                  | none => rfl
                  | some k =>
                    simp only [Option.bind_some, Option.map_some]
                    by_cases hk : k < i
                    · rw [if_pos hk, if_pos (by omega)]; rfl
                    · rw [if_neg hk, if_neg (by omega)]; rfl
        · rw [sc_no hp h37, sc_no hp h37]; simp [Sc.isBad]
      · rw [sc_plain hp, sc_plain hp, Sc.isBad_sh, Sc.isBad_sh, sc_take n r (by simp at hn; omega) i]
        cases (sc r).isBad with
        | none => rfl
        | some k =>
          simp only [Option.bind_some, Option.map_some]
          by_cases hk : k < i
          · rw [if_pos hk, if_pos (by omega)]; rfl
          · rw [if_neg hk, if_neg (by omega)]; rfl
end Go.Proofs.YtopcidphlleciaaGreatDoor.S

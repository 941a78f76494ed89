/- Splitting, parsing: plain laws. -/
import Derived.Test.YtopcidphlleciaaGreatDoorScS
import Derived.Lib.SplitLaws
import Derived.Lib.Split
namespace Go.Proofs.YtopcidphlleciaaGreatDoor.S
open Go.RowKit Go.Extern.Stop Go.Stop Go.Extern Go.Proofs.YtopcidphlleciaaGreatDoorW.PrintWords Go.Proofs.YtopcidphlleciaaGreatDoorW.PrintLast Go.Proofs.YtopcidphlleciaaGreatDoorW.PrintMore
set_option linter.unusedVariables false
set_option linter.unusedSimpArgs false
abbrev mkB (l : BL) : ByteArray := ⟨l.toArray⟩
theorem tl_mkB (l : BL) : tl (mkB l) = l := by simp [mkB]
theorem mkB_tl (s : ByteArray) : mkB (tl s) = s := tl_inj (tl_mkB _)
/-- The parts between the bytes c. -/
def spl (c : UInt8) : BL → List BL
  | [] => [[]]
  | b :: r => if b = c then [] :: spl c r else match spl c r with
    | x :: y => (b :: x) :: y
    | [] => [[b]]
theorem spl_cons (c : UInt8) : ∀ l : BL, ∃ x y, spl c l = x :: y
  | [] => ⟨_, _, rfl⟩
  | b :: r => by
    obtain ⟨x, y, h⟩ := spl_cons c r
    by_cases hb : b = c
    · exact ⟨[], spl c r, by rw [spl, if_pos hb]⟩
    · exact ⟨b :: x, y, by rw [spl, if_neg hb, h]⟩
theorem spl_eq {c : UInt8} (r : BL) : spl c (c :: r) = [] :: spl c r := by rw [spl, if_pos rfl]
theorem spl_skip {c b : UInt8} {r x : BL} {y : List BL} (h : b ≠ c) (hr : spl c r = x :: y) : spl c (b :: r) = (b :: x) :: y := by rw [spl, if_neg h, hr]
theorem spl_none {c : UInt8} : ∀ {x : BL}, (∀ b ∈ x, b ≠ c) → spl c x = [x]
  | [], _ => rfl
  | b :: x, h => spl_skip (h b (by simp)) (spl_none fun d hd => h d (by simp [hd]))
theorem spl_hit {c : UInt8} (r : BL) : ∀ {x : BL}, (∀ b ∈ x, b ≠ c) → spl c (x ++ c :: r) = x :: spl c r
  | [], _ => spl_eq r
  | b :: x, h => spl_skip (h b (by simp)) (spl_hit r fun d hd => h d (by simp [hd]))
theorem spl_split (c : UInt8) : ∀ l : BL, Lib.splitK [c] 0 (Lib.count l [c]) l = spl c l
  | [] => by rw [Lib.count_miss (by simp [Lib.index])]; rfl
  | b :: l => by
    have ih := spl_split c l
    by_cases h : b = c
    · subst h
      have hix : Lib.index (b :: l) [b] = ((0 : Nat) : Int) := by rw [Lib.index]; simp [List.isPrefixOf]
      rw [Lib.count_cons_eq, Nat.add_comm, Lib.splitK, hix, spl_eq, ← ih]
      rfl
    · have hp : ([c] : List UInt8).isPrefixOf (b :: l) = false := by simp [List.isPrefixOf, Ne.symm h]
      have hix : Lib.index (b :: l) [c] = if Lib.index l [c] == -1 then -1 else Lib.index l [c] + 1 := by rw [Lib.index, hp]; simp
      rw [Lib.count_cons_ne b c l h]
      by_cases hm : Lib.index l [c] = -1
      · rw [Lib.count_miss hm] at ih ⊢
        exact (spl_skip h ih.symm).symm
      · have hge := Lib.index_ge l [c]
        obtain ⟨j, hj⟩ : ∃ j : Nat, Lib.index l [c] = j := ⟨(Lib.index l [c]).toNat, by omega⟩
        have hne : ((j : Int) == -1) = false := by rw [beq_eq_false_iff_ne]; omega
        rw [hj, hne] at hix
        have hne2 : ((j : Int) + 1 == -1) = false := by rw [beq_eq_false_iff_ne]; omega
        rw [Lib.count_hit (by simp) hj] at ih ⊢
        rw [Nat.add_comm, Lib.splitK, hj, hne] at ih
        rw [Nat.add_comm, Lib.splitK, hix]
        simp only [Bool.false_eq_true, if_false, hne2] at ih ⊢
        refine (Eq.trans ?_ (spl_skip h ih.symm).symm)
        have e1 : ((j : Int) + 1).toNat = j + 1 := by omega
        have e2 : ((j : Int)).toNat = j := by omega
        rw [e1, e2]
        rfl
/-- strings.Split's pieces. -/
theorem split_pieces (c : UInt8) (s : ByteArray) : Lib.splitB ⟨#[c]⟩ 0 (Lib.countB s ⟨#[c]⟩) s = (spl c (tl s)).map mkB := by
  have h := Lib.splitB_data ⟨#[c]⟩ 0 (Lib.countB s ⟨#[c]⟩) s
  have h2 : Lib.splitK [c] 0 (Lib.count (tl s) [c]) (tl s) = spl c (tl s) := spl_split c (tl s)
  have h3 : (Lib.splitB ⟨#[c]⟩ 0 (Lib.countB s ⟨#[c]⟩) s).map (·.data.toList) = spl c (tl s) := h.trans h2
  rw [← h3, List.map_map]
  conv => lhs; rw [← List.map_id (Lib.splitB ⟨#[c]⟩ 0 (Lib.countB s ⟨#[c]⟩) s)]
  refine List.map_congr_left fun x _ => (mkB_tl x).symm
/-- The texts of a line, or where it is none. -/
def prs : Nat → List BL → Sum Nat (List BL)
  | _, [] => .inr []
  | n, p :: r => match unw p with
    | (arg, k, ok) => if ok = true then (prs (n + p.length + 1) r).map id (arg :: ·) else .inl (n + k)
def pre (W : List BL) (x : Sum Nat (List BL)) : Sum Nat (List BL) := x.map id (W ++ ·)
theorem pre_nil (x : Sum Nat (List BL)) : pre [] x = x := by cases x <;> rfl
theorem pre_pre (a b : List BL) (x : Sum Nat (List BL)) : pre a (pre b x) = pre (a ++ b) x := by cases x <;> simp [pre]
theorem prs_ok {p arg : BL} {k : Nat} (h : unw p = (arg, k, true)) (n : Nat) (r : List BL) : prs n (p :: r) = pre [arg] (prs (n + p.length + 1) r) := by rw [prs, h]; rfl
theorem prs_bad {p arg : BL} {k : Nat} (h : unw p = (arg, k, false)) (n : Nat) (r : List BL) : prs n (p :: r) = .inl (n + k) := by rw [prs, h]; rfl
theorem prs_len : ∀ (l : List BL) (n : Nat) {W : List BL}, prs n l = .inr W → W.length = l.length
  | [], n, W, h => by injection h with h; rw [← h]
  | p :: r, n, W, h => by
    rcases hu : unw p with ⟨arg, k, ok⟩
    cases ok
    · rw [prs_bad hu] at h; cases h
    · rw [prs_ok hu] at h
      cases hr : prs (n + p.length + 1) r with
      | inl j => rw [hr] at h; cases h
      | inr V =>
        rw [hr] at h
        injection h with h
        rw [← h]
        simp [prs_len r _ hr]
def overF (l : BL) : Bool := match l with | [] => true | b :: _ => b == 35
abbrev Cl := ByteArray × List ByteArray
def noC : Cl := (⟨#[]⟩, [])
def readF (s : ByteArray) : Cl × Bd := if 262144 < s.size then (noC, (4, ⟨#[]⟩, 0)) else if overF (tl s) = true then (noC, (300, ⟨#[]⟩, 0)) else match prs 0 (spl 32 (tl s)) with
  | .inl k => (noC, (300, ⟨#[]⟩, (k : Int)))
  | .inr [] => (noC, okB)
  | .inr (a :: r) => if (checkF (mkB a) (r.map mkB)).1 = 0 then ((mkB a, r.map mkB), okB) else (noC, checkF (mkB a) (r.map mkB))
def lineF : List ByteArray → BL
  | [] => []
  | a :: r => 32 :: (wrA (tl a) ++ lineF r)
def textL (c : Cl) : BL := wrA (tl c.1) ++ lineF c.2
def textF (c : Cl) : ByteArray × Bd := if (checkF c.1 c.2).1 = 0 then (if 262144 < (textL c).length then (⟨#[]⟩, (4, ⟨#[]⟩, -1)) else (mkB (textL c), okB)) else (⟨#[]⟩, checkF c.1 c.2)
/-- A text's lines. -/
def linesF (l : BL) : List BL := if (spl 10 l).getLast? = some [] then (spl 10 l).dropLast else spl 10 l
def allF : Nat → List BL → Sum (Nat × Bd) (List (Cl × Nat))
  | _, [] => .inr []
  | n, p :: r => if overF p = true then allF (n + 1) r else if (readF (mkB p)).2.1 = 0 then (allF (n + 1) r).map id (((readF (mkB p)).1, n + 1) :: ·) else .inl (n + 1, (readF (mkB p)).2)
end Go.Proofs.YtopcidphlleciaaGreatDoor.S

/- The plain law of NameSorts: what is inserted one by one, each once, is what is sorted and compacted. -/
import Derived.Lib.SlicesCompact
namespace Go.Proofs.Ytililldgddgdcaa.SortP
set_option linter.unusedVariables false
abbrev BL := List UInt8
/-- Strictly rising. -/
def Ris (l : List BL) : Prop := l.Pairwise (fun a b => a < b)
theorem bl_trans {a b c : BL} (h1 : a < b) (h2 : b < c) : a < c := List.lt_trans h1 h2
theorem bl_irrefl (a : BL) : ¬ a < a := List.lt_irrefl a
/-- Two strictly rising lists of the same elements. -/
theorem ris_ext : ∀ {l m : List BL}, Ris l → Ris m → (∀ x, x ∈ l ↔ x ∈ m) → l = m
  | [], [], _, _, _ => rfl
  | [], b :: m, _, _, h => absurd ((h b).2 (by simp)) (by simp)
  | a :: l, [], _, _, h => absurd ((h a).1 (by simp)) (by simp)
  | a :: l, b :: m, hl, hm, h => by
    have hl' := List.pairwise_cons.1 hl
    have hm' := List.pairwise_cons.1 hm
    have hab : a = b := by
      rcases List.mem_cons.1 ((h a).1 (by simp)) with e | e
      · exact e
      · rcases List.mem_cons.1 ((h b).2 (by simp)) with e2 | e2
        · exact e2.symm
        · exact absurd (bl_trans (hm'.1 a e) (hl'.1 b e2)) (bl_irrefl b)
    subst hab
    congr 1
    refine ris_ext hl'.2 hm'.2 (fun x => ?_)
    have hx := h x
    rw [List.mem_cons, List.mem_cons] at hx
    constructor
    · intro hh
      rcases hx.1 (Or.inr hh) with e | e
      · subst e; exact absurd (hl'.1 x hh) (bl_irrefl x)
      · exact e
    · intro hh
      rcases hx.2 (Or.inr hh) with e | e
      · subst e; exact absurd (hm'.1 x hh) (bl_irrefl x)
      · exact e
/-- compact, by recursion. -/
def cmp : List BL → List BL
  | [] => []
  | [a] => [a]
  | a :: b :: r => if a = b then cmp (b :: r) else a :: cmp (b :: r)
theorem cmp_mem : ∀ (l : List BL) (x : BL), x ∈ cmp l ↔ x ∈ l
  | [], x => Iff.rfl
  | [a], x => Iff.rfl
  | a :: b :: r, x => by
    rw [cmp]
    split
    · rename_i h
      rw [cmp_mem (b :: r) x, h]
      simp
    · simp only [List.mem_cons, cmp_mem (b :: r) x]
theorem cmp_head (a : BL) (r : List BL) : ∃ q, cmp (a :: r) = a :: q := by
  induction r generalizing a with
  | nil => exact ⟨[], rfl⟩
  | cons b r ih =>
    rw [cmp]
    split
    · rename_i h
      subst h
      exact ih a
    · exact ⟨_, rfl⟩
theorem cmp_ris : ∀ (l : List BL), l.Pairwise (fun a b => a ≤ b) → Ris (cmp l)
  | [], _ => List.Pairwise.nil
  | [a], _ => by simp [cmp, Ris]
  | a :: b :: r, h => by
    have h' := List.pairwise_cons.1 h
    have ih := cmp_ris (b :: r) h'.2
    rw [cmp]
    split
    · exact ih
    · rename_i hne
      refine List.pairwise_cons.2 ⟨fun x hx => ?_, ih⟩
      have hx' := (cmp_mem (b :: r) x).1 hx
      have hab : a < b := by
        rcases List.le_iff_lt_or_eq.1 (h'.1 b (by simp)) with e | e
        · exact e
        · exact absurd e hne
      rcases List.mem_cons.1 hx' with e | e
      · rw [e]; exact hab
      · rcases List.le_iff_lt_or_eq.1 ((List.pairwise_cons.1 h'.2).1 x e) with q | q
        · exact bl_trans hab q
        · exact q ▸ hab
/-- One text more, in its place, if it is new. -/
def ins (x : BL) : List BL → List BL
  | [] => [x]
  | a :: r => if x < a then x :: a :: r else if x = a then a :: r else a :: ins x r
theorem ins_mem (x : BL) : ∀ (l : List BL) (y : BL), y ∈ ins x l ↔ y = x ∨ y ∈ l
  | [], y => by simp [ins]
  | a :: r, y => by
    rw [ins]
    split
    · simp
    · split
      · rename_i h; subst h; simp
      · rw [List.mem_cons, ins_mem x r y, List.mem_cons]
        constructor
        · rintro (h | h | h)
          · exact Or.inr (Or.inl h)
          · exact Or.inl h
          · exact Or.inr (Or.inr h)
        · rintro (h | h | h)
          · exact Or.inr (Or.inl h)
          · exact Or.inl h
          · exact Or.inr (Or.inr h)
theorem ins_ris (x : BL) : ∀ (l : List BL), Ris l → Ris (ins x l)
  | [], _ => by simp [ins, Ris]
  | a :: r, h => by
    have h' := List.pairwise_cons.1 h
    rw [ins]
    split
    · rename_i hxa
      refine List.pairwise_cons.2 ⟨fun y hy => ?_, h⟩
      rcases List.mem_cons.1 hy with e | e
      · rw [e]; exact hxa
      · exact bl_trans hxa (h'.1 y e)
    · rename_i hxa
      split
      · exact h
      · rename_i hne
        refine List.pairwise_cons.2 ⟨fun y hy => ?_, ins_ris x r h'.2⟩
        rcases (ins_mem x r y).1 hy with e | e
        · rw [e]
          rcases List.le_iff_lt_or_eq.1 (List.not_lt.1 hxa) with q | q
          · exact q
          · exact absurd q.symm hne
        · exact h'.1 y e
def rise (l : List BL) : List BL := l.foldl (fun out x => ins x out) []
theorem fold_ris : ∀ (l out : List BL), Ris out → Ris (l.foldl (fun out x => ins x out) out)
  | [], _, h => h
  | x :: r, out, h => fold_ris r _ (ins_ris x out h)
theorem fold_mem : ∀ (l out : List BL) (y : BL), y ∈ l.foldl (fun out x => ins x out) out ↔ y ∈ out ∨ y ∈ l
  | [], out, y => by simp
  | x :: r, out, y => by
    rw [List.foldl_cons, fold_mem r _ y, ins_mem, List.mem_cons]
    constructor
    · rintro ((h | h) | h)
      · exact Or.inr (Or.inl h)
      · exact Or.inl h
      · exact Or.inr (Or.inr h)
    · rintro (h | h | h)
      · exact Or.inl (Or.inr h)
      · exact Or.inl (Or.inl h)
      · exact Or.inr h
theorem rise_sort (l : List BL) : rise l = cmp (l.mergeSort fun x y => decide (x ≤ y)) := by
  refine ris_ext (fold_ris l [] List.Pairwise.nil) (cmp_ris _ ?_) (fun x => ?_)
  · have := List.pairwise_mergeSort (le := fun x y : BL => decide (x ≤ y)) (fun a b c h1 h2 => by simp only [decide_eq_true_eq] at *; exact List.le_trans h1 h2) (fun a b => by simp only [Bool.or_eq_true, decide_eq_true_eq]; exact List.le_total a b) l
    simpa using this
  · show x ∈ l.foldl (fun out x => ins x out) [] ↔ _
    rw [fold_mem, cmp_mem, (List.mergeSort_perm l _).mem_iff]
    simp
theorem cmp_snoc (x : BL) : ∀ (l : List BL), cmp (l ++ [x]) = if l.getLast? = some x then cmp l else cmp l ++ [x]
  | [] => by simp [cmp]
  | [a] => by
    simp only [List.cons_append, List.nil_append, cmp, List.getLast?_singleton, Option.some.injEq]
    split
    · rename_i h; rw [h]
    · rfl
  | a :: b :: r => by
    have ih := cmp_snoc x (b :: r)
    rw [List.cons_append, List.cons_append, cmp, ← List.cons_append, ih, List.getLast?_cons_cons, cmp]
    split <;> split <;> first | rfl | simp
theorem compact_cmp (zs : List BL) : Lib.compact zs = cmp zs := by
  have key : ∀ m, m ≤ zs.length → Lib.compactUpTo zs.toArray m = cmp (zs.take m) := by
    intro m
    induction m with
    | zero => intro _; rfl
    | succ m ih =>
      intro hm
      have hlt : m < zs.length := by omega
      rw [Lib.compactUpTo_succ, ih (by omega), List.take_succ_eq_append_getElem hlt, cmp_snoc]
      have hd : zs.toArray[m]! = zs[m]'hlt := by simp [hlt]
      by_cases h0 : m = 0
      · subst h0
        have hk : Lib.keeps zs.toArray 0 = true := by simp [Lib.keeps]
        rw [hk, if_pos rfl, hd, List.take_zero, if_neg (by simp)]
      · have hlt2 : m - 1 < zs.length := by omega
        have hd2 : zs.toArray[m - 1]! = zs[m - 1]'hlt2 := by simp [hlt2]
        have hl : (zs.take m).getLast? = some (zs[m - 1]'hlt2) := by
          rw [List.getLast?_eq_getElem?, List.length_take, Nat.min_eq_left (by omega), List.getElem?_take_of_lt (by omega), List.getElem?_eq_getElem hlt2]
        rw [hl]
        by_cases he : zs[m - 1]'hlt2 = zs[m]'hlt
        · have hk := Lib.keeps_neg (d := zs.toArray) (m := m) (by omega) (by rw [hd, hd2, he])
          rw [hk, if_neg Bool.false_ne_true, if_pos (by rw [he]), List.append_nil]
        · have hk := Lib.keeps_pos (d := zs.toArray) (m := m) (by rw [hd, hd2]; exact fun h => he h.symm)
          rw [hk, if_pos rfl, if_neg (fun h => he (Option.some.inj h)), hd]
  have := key zs.length (Nat.le_refl _)
  rw [List.take_length] at this
  exact this
/-- Where a text goes: behind what is not greater. -/
theorem ins_at (x : BL) : ∀ (out : List BL) (k : Nat), Ris out → k ≤ out.length → (∀ i (h : i < out.length), k ≤ i → x < out[i]'h) → (∀ h : 0 < k, ∀ h2 : k - 1 < out.length, ¬ x < out[k - 1]'h2) →
    ins x out = if h : 0 < k ∧ k - 1 < out.length then (if out[k - 1]'h.2 = x then out else out.take k ++ x :: out.drop k) else out.take k ++ x :: out.drop k
  | [], k, _, hk, _, _ => by
    have : k = 0 := by simpa using hk
    subst this
    rfl
  | a :: r, 0, _, _, hgt, _ => by
    have this : x < a := hgt 0 (by simp) (by omega)
    rw [dif_neg (by omega), ins, if_pos this]
    rfl
  | a :: r, k + 1, hr, hk, hgt, hle => by
    have hr' := List.pairwise_cons.1 hr
    have hk2 : k ≤ r.length := by simpa using hk
    have hlt : k < (a :: r).length := by simp; omega
    rw [dif_pos ⟨by omega, by simpa using hlt⟩]
    have hle' : ¬ x < (a :: r)[k]'hlt := hle (by omega) (by simpa using hlt)
    by_cases h0 : k = 0
    · subst h0
      have hxa : ¬ x < a := hle'
      rw [ins, if_neg hxa]
      show (if x = a then a :: r else a :: ins x r) = (if a = x then a :: r else [a] ++ x :: r)
      by_cases e : x = a
      · rw [if_pos e, if_pos e.symm]
      · rw [if_neg e, if_neg (fun h => e h.symm)]
        have ih := ins_at x r 0 hr'.2 (by omega) (fun i h _ => hgt (i + 1) (by simp; omega) (by omega)) (fun h => by omega)
        rw [ih, dif_neg (by omega)]
        rfl
    · obtain ⟨k, rfl⟩ : ∃ j, k = j + 1 := ⟨k - 1, by omega⟩
      have hk3 : k < r.length := by omega
      have hak : a < r[k]'hk3 := hr'.1 _ (List.getElem_mem hk3)
      have hrx : ¬ x < r[k]'hk3 := hle'
      have hxa : ¬ x < a := fun h => hrx (bl_trans h hak)
      have hne : x ≠ a := fun h => hrx (h ▸ hak)
      rw [ins, if_neg hxa, if_neg hne]
      have ih := ins_at x r (k + 1) hr'.2 hk2 (fun i h hi => hgt (i + 1) (by simp; omega) (by omega)) (fun _ _ => hrx)
      rw [ih, dif_pos ⟨by omega, by simpa using hk3⟩]
      show a :: (if r[k]'hk3 = x then r else r.take (k + 1) ++ x :: r.drop (k + 1)) = (if r[k]'hk3 = x then a :: r else (a :: r).take (k + 1 + 1) ++ x :: (a :: r).drop (k + 1 + 1))
      split
      · rfl
      · rfl
end Go.Proofs.Ytililldgddgdcaa.SortP

/- The plain law of VersionSorts: rising lists of the same texts are one; what is inserted one by one rises; what is sorted and compacted rises. -/
import Derived.Lib.SlicesCompact
namespace Go.Proofs.YthnajibbkinlkaaGreatDoor.SortsP
set_option linter.unusedVariables false
abbrev BL := List UInt8
abbrev tl (s : ByteArray) : BL := s.data.toList
section
variable {α : Type} {lt : α → α → Prop}
theorem ris_ext (hi : ∀ a, ¬ lt a a) (ht : ∀ a b c, lt a b → lt b c → lt a c) : ∀ {l m : List α}, l.Pairwise lt → m.Pairwise lt → (∀ x, x ∈ l ↔ x ∈ m) → l = m
  | [], [], _, _, _ => rfl
  | [], b :: m, _, _, h => absurd ((h b).2 (by simp)) (by simp)
  | a :: l, [], _, _, h => absurd ((h a).1 (by simp)) (by simp)
  | a :: l, b :: m, hl, hm, h => by
    have hl' := List.pairwise_cons.1 hl
    have hm' := List.pairwise_cons.1 hm
    have hab : a = b := by
      rcases List.mem_cons.1 ((h a).1 (by simp)) with e | e
      · exact e
      · rcases List.mem_cons.1 ((h b).2 (by simp)) with e2 | e2
        · exact e2.symm
        · exact absurd (ht _ _ _ (hm'.1 a e) (hl'.1 b e2)) (hi b)
    subst hab
    congr 1
    refine ris_ext hi ht hl'.2 hm'.2 (fun x => ?_)
    have hx := h x
    rw [List.mem_cons, List.mem_cons] at hx
    constructor
    · intro hh
      rcases hx.1 (Or.inr hh) with e | e
      · subst e; exact absurd (hl'.1 x hh) (hi x)
      · exact e
    · intro hh
      rcases hx.2 (Or.inr hh) with e | e
      · subst e; exact absurd (hm'.1 x hh) (hi x)
      · exact e
/-- 'xs' rises, and has the texts of 'l'. -/
def Rs (lt : α → α → Prop) (l xs : List α) : Prop := xs.Pairwise lt ∧ ∀ y, y ∈ xs ↔ y ∈ l
theorem Rs.one (hi : ∀ a, ¬ lt a a) (ht : ∀ a b c, lt a b → lt b c → lt a c) {l xs ys : List α} (h : Rs lt l xs) (k : Rs lt l ys) : xs = ys :=
  ris_ext hi ht h.1 k.1 (fun x => (h.2 x).trans (k.2 x).symm)
theorem Rs.nil : Rs lt ([] : List α) [] := ⟨List.Pairwise.nil, fun _ => Iff.rfl⟩
theorem mem_ins (ys : List α) (k : Nat) (x y : α) : y ∈ ys.take k ++ x :: ys.drop k ↔ y ∈ ys ∨ y = x := by
  rw [List.mem_append, List.mem_cons]
  conv => rhs; rw [← List.take_append_drop k ys, List.mem_append]
  constructor
  · rintro (h | h | h)
    · exact .inl (.inl h)
    · exact .inr h
    · exact .inl (.inr h)
  · rintro ((h | h) | h)
    · exact .inl h
    · exact .inr (.inr h)
    · exact .inr (.inl h)
/-- One text more, laid where it goes. -/
theorem Rs.ins (ht : ∀ a b c, lt a b → lt b c → lt a c) {l ys : List α} {x : α} {k : Nat} (h : Rs lt l ys) (hk : k ≤ ys.length) (h1 : ∀ j (hj : j < ys.length), k ≤ j → lt x (ys[j]'hj))
    (h2 : ∀ (h0 : 0 < k) (h3 : k - 1 < ys.length), lt (ys[k - 1]'h3) x) : Rs lt (l ++ [x]) (ys.take k ++ x :: ys.drop k) := by
  have hp := List.pairwise_iff_getElem.1 h.1
  have h2' : ∀ j (hj : j < ys.length), j < k → lt (ys[j]'hj) x := by
    intro j hj hjk
    by_cases e : j = k - 1
    · subst e; exact h2 (by omega) hj
    · exact ht _ _ _ (hp j (k - 1) hj (by omega) (by omega)) (h2 (by omega) (by omega))
  refine ⟨List.pairwise_append.2 ⟨h.1.sublist (List.take_sublist _ _), List.pairwise_cons.2 ⟨fun y hy => ?_, h.1.sublist (List.drop_sublist _ _)⟩, fun a ha b hb => ?_⟩, fun y => ?_⟩
  · obtain ⟨i, hi, rfl⟩ := List.mem_iff_getElem.1 hy
    rw [List.getElem_drop]
    exact h1 _ _ (by omega)
  · obtain ⟨i, hi, rfl⟩ := List.mem_iff_getElem.1 ha
    rw [List.length_take] at hi
    rw [List.getElem_take]
    have hax := h2' i (by omega) (by omega)
    rcases List.mem_cons.1 hb with rfl | hb
    · exact hax
    · obtain ⟨j, hj, rfl⟩ := List.mem_iff_getElem.1 hb
      rw [List.getElem_drop]
      exact ht _ _ _ hax (h1 _ _ (by omega))
  · rw [mem_ins, List.mem_append, List.mem_singleton, h.2 y]
/-- The same text once more. -/
theorem Rs.stay {l ys : List α} {x : α} (h : Rs lt l ys) (hx : x ∈ ys) : Rs lt (l ++ [x]) ys := by
  refine ⟨h.1, fun y => ?_⟩
  rw [List.mem_append, List.mem_singleton, ← h.2 y]
  constructor
  · exact .inl
  · rintro (k | rfl)
    · exact k
    · exact hx
end
section
variable {α : Type} [DecidableEq α]
/-- compact, by recursion. -/
def cmp : List α → List α
  | [] => []
  | [a] => [a]
  | a :: b :: r => if a = b then cmp (b :: r) else a :: cmp (b :: r)
theorem cmp_mem : ∀ (l : List α) (x : α), x ∈ cmp l ↔ x ∈ l
  | [], x => Iff.rfl
  | [a], x => Iff.rfl
  | a :: b :: r, x => by
    rw [cmp]
    split
    · rename_i h
      rw [cmp_mem (b :: r) x, h]
      simp
    · simp only [List.mem_cons, cmp_mem (b :: r) x]
theorem cmp_pair {lt : α → α → Prop} (hi : ∀ a, ¬ lt a a) (ht : ∀ a b c, lt a b → lt b c → lt a c) : ∀ (l : List α), l.Pairwise (fun a b => a = b ∨ lt a b) → (cmp l).Pairwise lt
  | [], _ => List.Pairwise.nil
  | [a], _ => List.pairwise_singleton _ _
  | a :: b :: r, h => by
    have h' := List.pairwise_cons.1 h
    have h2 := List.pairwise_cons.1 h'.2
    rw [cmp]
    split
    · exact cmp_pair hi ht (b :: r) h'.2
    · rename_i hne
      refine List.pairwise_cons.2 ⟨fun y hy => ?_, cmp_pair hi ht (b :: r) h'.2⟩
      have hab : lt a b := by
        rcases h'.1 b (by simp) with e | e
        · exact absurd e hne
        · exact e
      rcases List.mem_cons.1 ((cmp_mem _ _).1 hy) with rfl | hy
      · exact hab
      · rcases h2.1 y hy with rfl | e
        · exact hab
        · exact ht _ _ _ hab e
theorem cmp_rs {lt : α → α → Prop} (hi : ∀ a, ¬ lt a a) (ht : ∀ a b c, lt a b → lt b c → lt a c) {l xs : List α} (h : xs.Pairwise (fun a b => a = b ∨ lt a b)) (hm : ∀ y, y ∈ xs ↔ y ∈ l) : Rs lt l (cmp xs) :=
  ⟨cmp_pair hi ht xs h, fun y => (cmp_mem xs y).trans (hm y)⟩
theorem cmp_map {β : Type} [DecidableEq β] (f : α → β) (hf : ∀ a b, f a = f b → a = b) : ∀ l : List α, cmp (l.map f) = (cmp l).map f
  | [] => rfl
  | [a] => rfl
  | a :: b :: r => by
    have ih := cmp_map f hf (b :: r)
    show (if f a = f b then cmp ((b :: r).map f) else f a :: cmp ((b :: r).map f)) = _
    rw [ih]
    by_cases e : a = b
    · rw [if_pos (by rw [e]), cmp, if_pos e]
    · rw [if_neg (fun h => e (hf _ _ h)), cmp, if_neg e]
      rfl
theorem cmp_snoc (x : α) : ∀ (l : List α), cmp (l ++ [x]) = cmp l ++ (if l.getLast? = some x then [] else [x])
  | [] => rfl
  | [a] => by
    show (if a = x then [x] else [a, x]) = [a] ++ _
    rw [List.getLast?_singleton]
    by_cases h : a = x
    · rw [if_pos h, if_pos (by rw [h]), h]; rfl
    · rw [if_neg h, if_neg (fun e => h (Option.some.inj e))]; rfl
  | a :: b :: r => by
    have ih := cmp_snoc x (b :: r)
    rw [List.cons_append, List.cons_append, cmp, ← List.cons_append, ih, List.getLast?_cons_cons, cmp]
    split <;> split <;> first | rfl | simp
end
theorem compact_cmp (zs : List BL) : Lib.compact zs = cmp zs := by
  have key : ∀ m, m ≤ zs.length → Lib.compactUpTo zs.toArray m = cmp (zs.take m) := by
    intro m
    induction m with
    | zero => intro _; rfl
    | succ m ih =>
      intro hm
      have hlt : m < zs.length := by omega
      rw [Lib.compactUpTo_succ, ih (by omega), List.take_succ_eq_append_getElem hlt, cmp_snoc]
      have hd : zs.toArray[m]! = zs[m]'hlt := by simp [hlt]
      by_cases h0 : m = 0
      · subst h0
        have hk : Lib.keeps zs.toArray 0 = true := by simp [Lib.keeps]
        rw [hk, if_pos rfl, hd, List.take_zero, if_neg (by simp)]
      · have hlt2 : m - 1 < zs.length := by omega
        have hd2 : zs.toArray[m - 1]! = zs[m - 1]'hlt2 := by simp [hlt2]
        have hl : (zs.take m).getLast? = some (zs[m - 1]'hlt2) := by
          rw [List.getLast?_eq_getElem?, List.length_take, Nat.min_eq_left (by omega), List.getElem?_take_of_lt (by omega), List.getElem?_eq_getElem hlt2]
        rw [hl]
        by_cases he : zs[m - 1]'hlt2 = zs[m]'hlt
        · have hk := Lib.keeps_neg (d := zs.toArray) (m := m) (by omega) (by rw [hd, hd2, he])
          rw [hk, if_neg Bool.false_ne_true, if_pos (by rw [he]), List.append_nil]
        · have hk := Lib.keeps_pos (d := zs.toArray) (m := m) (by rw [hd, hd2]; exact fun h => he h.symm)
          rw [hk, if_pos rfl, if_neg (fun h => he (Option.some.inj h)), hd]
  have := key zs.length (Nat.le_refl _)
  rw [List.take_length] at this
  exact this
end Go.Proofs.YthnajibbkinlkaaGreatDoor.SortsP

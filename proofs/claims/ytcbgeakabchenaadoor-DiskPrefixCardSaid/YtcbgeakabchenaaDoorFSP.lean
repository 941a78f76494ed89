/- Files as a rising list: looked up, laid, taken. -/
import Derived.Deep.QuietTactic
namespace Go.Proofs.YtcbgeakabchenaaDoor.D
set_option linter.unusedVariables false
abbrev BL := List UInt8
abbrev tl (s : ByteArray) : BL := s.data.toList
theorem tl_inj {a b : ByteArray} (h : tl a = tl b) : a = b := ByteArray.ext (Array.toList_inj.1 h)
/-- Files, rising by name. -/
abbrev FS := List (ByteArray × ByteArray)
def lk : FS → ByteArray → Option ByteArray
  | [], _ => none
  | (a, x) :: r, k => if a = k then some x else lk r k
def lay : FS → ByteArray → ByteArray → FS
  | [], k, v => [(k, v)]
  | (a, x) :: r, k, v => if a = k then (k, v) :: r else if tl k < tl a then (k, v) :: (a, x) :: r else (a, x) :: lay r k v
def take : FS → ByteArray → FS
  | [], _ => []
  | (a, x) :: r, k => if a = k then r else (a, x) :: take r k
def lkD (L : FS) (k : ByteArray) : ByteArray := (lk L k).getD ⟨#[]⟩
def Ris (L : FS) : Prop := L.Pairwise (fun p q => tl p.1 < tl q.1)
theorem bl_trans {a b c : BL} (h1 : a < b) (h2 : b < c) : a < c := List.lt_trans h1 h2
theorem bl_irrefl (a : BL) : ¬ a < a := List.lt_irrefl a
theorem bl_total {a b : BL} (h : ¬ a < b) (hne : a ≠ b) : b < a := by
  rcases List.le_iff_lt_or_eq.1 (List.not_lt.1 h) with q | q
  · exact q
  · exact absurd q.symm hne
theorem lk_none_above {L : FS} {k : ByteArray} (h : ∀ p ∈ L, tl k < tl p.1) : lk L k = none := by
  induction L with
  | nil => rfl
  | cons p r ih =>
    obtain ⟨a, x⟩ := p
    have ha := h (a, x) (by simp)
    rw [lk, if_neg (fun e => by subst e; exact bl_irrefl _ ha)]
    exact ih (fun q hq => h q (List.mem_cons_of_mem _ hq))
theorem lk_lay_same : ∀ (L : FS) (k v : ByteArray), lk (lay L k v) k = some v
  | [], k, v => by rw [lay, lk, if_pos rfl]
  | (a, x) :: r, k, v => by
    rw [lay]
    split
    · rw [lk, if_pos rfl]
    · split
      · rw [lk, if_pos rfl]
      · rename_i h _
        rw [lk, if_neg h]
        exact lk_lay_same r k v
theorem lk_lay_other : ∀ (L : FS) (k v j : ByteArray), j ≠ k → lk (lay L k v) j = lk L j
  | [], k, v, j, h => by
    show (if k = j then some v else none) = none
    rw [if_neg (fun e => h e.symm)]
  | (a, x) :: r, k, v, j, h => by
    rw [lay]
    split
    · rename_i e
      subst e
      rw [lk, lk, if_neg (fun e => h e.symm), if_neg (fun e => h e.symm)]
    · split
      · rw [lk, if_neg (fun e => h e.symm)]
      · rw [lk, lk, lk_lay_other r k v j h]
theorem lk_take_other : ∀ (L : FS) (k j : ByteArray), j ≠ k → lk (take L k) j = lk L j
  | [], k, j, h => rfl
  | (a, x) :: r, k, j, h => by
    rw [take]
    split
    · rename_i e
      subst e
      rw [lk, if_neg (fun e => h e.symm)]
    · rw [lk, lk, lk_take_other r k j h]
theorem lk_take_same : ∀ (L : FS) (k : ByteArray), Ris L → lk (take L k) k = none
  | [], k, _ => rfl
  | (a, x) :: r, k, h => by
    have h' := List.pairwise_cons.1 h
    rw [take]
    split
    · rename_i e
      subst e
      exact lk_none_above (fun p hp => h'.1 p hp)
    · rename_i e
      rw [lk, if_neg e]
      exact lk_take_same r k h'.2
theorem mem_lay : ∀ (L : FS) (k v : ByteArray) (p : ByteArray × ByteArray), p ∈ lay L k v → p = (k, v) ∨ p ∈ L
  | [], k, v, p, h => by rw [lay] at h; exact .inl (List.mem_singleton.1 h)
  | (a, x) :: r, k, v, p, h => by
    rw [lay] at h
    split at h
    · rcases List.mem_cons.1 h with h | h
      · exact .inl h
      · exact .inr (List.mem_cons_of_mem _ h)
    · split at h
      · rcases List.mem_cons.1 h with h | h
        · exact .inl h
        · exact .inr h
      · rcases List.mem_cons.1 h with h | h
        · exact .inr (by rw [h]; simp)
        · rcases mem_lay r k v p h with h | h
          · exact .inl h
          · exact .inr (List.mem_cons_of_mem _ h)
theorem mem_take : ∀ (L : FS) (k : ByteArray) (p : ByteArray × ByteArray), p ∈ take L k → p ∈ L
  | [], k, p, h => h
  | (a, x) :: r, k, p, h => by
    rw [take] at h
    split at h
    · exact List.mem_cons_of_mem _ h
    · rcases List.mem_cons.1 h with h | h
      · rw [h]; simp
      · exact List.mem_cons_of_mem _ (mem_take r k p h)
theorem lay_ris : ∀ (L : FS) (k v : ByteArray), Ris L → Ris (lay L k v)
  | [], k, v, _ => by rw [lay]; exact List.pairwise_singleton _ _
  | (a, x) :: r, k, v, h => by
    have h' := List.pairwise_cons.1 h
    rw [lay]
    split
    · rename_i e
      subst e
      exact List.pairwise_cons.2 ⟨h'.1, h'.2⟩
    · rename_i e
      split
      · rename_i hlt
        refine List.pairwise_cons.2 ⟨fun q hq => ?_, h⟩
        rcases List.mem_cons.1 hq with rfl | hq
        · exact hlt
        · exact bl_trans hlt (h'.1 q hq)
      · rename_i hlt
        have hak : tl a < tl k := bl_total hlt (fun q => e (tl_inj q.symm))
        refine List.pairwise_cons.2 ⟨fun q hq => ?_, lay_ris r k v h'.2⟩
        rcases mem_lay r k v q hq with rfl | hq
        · exact hak
        · exact h'.1 q hq
theorem take_ris : ∀ (L : FS) (k : ByteArray), Ris L → Ris (take L k)
  | [], k, h => h
  | (a, x) :: r, k, h => by
    have h' := List.pairwise_cons.1 h
    rw [take]
    split
    · exact h'.2
    · exact List.pairwise_cons.2 ⟨fun q hq => h'.1 q (mem_take r k q hq), take_ris r k h'.2⟩
theorem lay_len : ∀ (L : FS) (k v : ByteArray), Ris L → (lay L k v).length = if (lk L k).isSome then L.length else L.length + 1
  | [], k, v, _ => rfl
  | (a, x) :: r, k, v, h => by
    have h' := List.pairwise_cons.1 h
    rw [lay, lk]
    by_cases e : a = k
    · rw [if_pos e, if_pos e]; rfl
    · rw [if_neg e, if_neg e]
      by_cases hlt : tl k < tl a
      · rw [if_pos hlt, lk_none_above (fun p hp => bl_trans hlt (h'.1 p hp))]
        rfl
      · rw [if_neg hlt, List.length_cons, lay_len r k v h'.2]
        split <;> rfl
theorem take_len : ∀ (L : FS) (k : ByteArray), (take L k).length + (if (lk L k).isSome then 1 else 0) = L.length
  | [], k => rfl
  | (a, x) :: r, k => by
    rw [take, lk]
    by_cases e : a = k
    · rw [if_pos e, if_pos e]; rfl
    · rw [if_neg e, if_neg e, List.length_cons, List.length_cons]
      have := take_len r k
      omega
theorem lay_len_le (L : FS) (k v : ByteArray) (h : Ris L) : (lay L k v).length ≤ L.length + 1 := by
  rw [lay_len L k v h]
  split <;> omega
end Go.Proofs.YtcbgeakabchenaaDoor.D

/- A call's line read again, and a line's call written: plain laws. -/
import Derived.Test.YtopcidphlleciaaGreatDoorScT
namespace Go.Proofs.YtopcidphlleciaaGreatDoor.S
open Go.RowKit Go.Extern.Stop Go.Stop Go.Extern Go.Proofs.YtopcidphlleciaaGreatDoorW.PrintWords Go.Proofs.YtopcidphlleciaaGreatDoorW.PrintLast Go.Proofs.YtopcidphlleciaaGreatDoorW.PrintMore
set_option linter.unusedVariables false
set_option linter.unusedSimpArgs false
theorem mkB_size (l : BL) : (mkB l).size = l.length := by show l.toArray.size = _; simp
theorem spl_join {c : UInt8} : ∀ {l x : BL} {y : List BL}, spl c l = x :: y → x ++ y.flatMap (fun z => c :: z) = l
  | [], x, y, h => by
    injection h with h1 h2
    rw [← h1, ← h2]; rfl
  | b :: r, x, y, h => by
    obtain ⟨x1, y1, h1⟩ := spl_cons c r
    have ih := spl_join h1
    by_cases hb : b = c
    · subst hb
      rw [spl_eq, h1] at h
      injection h with e1 e2
      rw [← e1, ← e2, List.flatMap_cons, List.nil_append, List.cons_append, ih]
    · rw [spl_skip hb h1] at h
      injection h with e1 e2
      rw [← e1, ← e2, List.cons_append, ih]
theorem lineF_flat : ∀ l : List ByteArray, lineF l = (l.map fun a => wrA (tl a)).flatMap (fun z => 32 :: z)
  | [] => rfl
  | a :: r => by rw [lineF, lineF_flat r]; rfl
theorem wrA_no (l : BL) : ∀ b ∈ wrA l, b ≠ 32 := fun b hb q => by
  have := (wrA_in l b hb).1
  rw [q] at this
  exact absurd this (by decide)
theorem spl_line : ∀ (l : List ByteArray) (x : BL), (∀ b ∈ x, b ≠ 32) → spl 32 (x ++ lineF l) = x :: l.map fun a => wrA (tl a)
  | [], x, h => by rw [lineF, List.append_nil, spl_none h]; rfl
  | a :: r, x, h => by rw [lineF, spl_hit _ h, spl_line r _ (wrA_no _)]; rfl
theorem prs_map : ∀ (l : List BL) (n : Nat), prs n (l.map wrA) = .inr l
  | [], n => rfl
  | a :: r, n => by rw [List.map_cons, prs_ok (unw_wrA a), prs_map r]; rfl
theorem prs_inv : ∀ (l : List BL) (n : Nat) {W : List BL}, prs n l = .inr W → l = W.map wrA
  | [], n, W, h => by injection h with h; rw [← h]; rfl
  | p :: r, n, W, h => by
    rcases hu : unw p with ⟨arg, k, ok⟩
    cases ok
    · rw [prs_bad hu] at h; cases h
    · rw [prs_ok hu] at h
      cases hr : prs (n + p.length + 1) r with
      | inl j => rw [hr] at h; cases h
      | inr V =>
        rw [hr] at h
        injection h with h
        rw [← h, prs_inv r _ hr]
        show _ = wrA arg :: V.map wrA
        rw [wrA_unw hu]
theorem lkT_mem : ∀ (L : TB) {k : ByteArray} {x : Shp}, lkT L k = some x → (k, x) ∈ L
  | [], k, x, h => by cases h
  | (a, y) :: r, k, x, h => by
    rw [lkT] at h
    split at h
    · rename_i e
      injection h with h
      rw [← h, ← e]
      exact List.mem_cons_self
    · exact List.mem_cons_of_mem _ (lkT_mem r h)
theorem check_word {w : ByteArray} {a : List ByteArray} (h : (checkF w a).1 = 0) : ∃ x, lkT tab w = some x := by
  unfold checkF at h
  cases hl : lkT tab w with
  | none => rw [hl] at h; cases h
  | some x => exact ⟨x, rfl⟩
theorem over_app {x y : BL} (h : overF x = false) : overF (x ++ y) = false := by
  cases x with
  | nil => cases h
  | cons b r => exact h
theorem word_over {w : ByteArray} {x : Shp} (h : lkT tab w = some x) : overF (wrA (tl w)) = false := by
  have h1 : (tab.all fun e => !overF (wrA (tl e.1))) = true := by decide +kernel
  have h2 := List.all_eq_true.1 h1 _ (lkT_mem _ h)
  simpa using h2
/-- What was read out of a call's own line is the call. -/
theorem read_text (c : Cl) (h : (textF c).2.1 = 0) : readF (textF c).1 = (c, okB) := by
  obtain ⟨w, a⟩ := c
  unfold textF at h ⊢
  by_cases h1 : (checkF w a).1 = 0
  · rw [if_pos h1] at h ⊢
    by_cases h2 : 262144 < (textL (w, a)).length
    · rw [if_pos h2] at h; cases h
    · rw [if_neg h2]
      unfold readF
      show (if 262144 < (mkB (textL (w, a))).size then _ else _) = _
      have hs : (mkB (textL (w, a))).size = (textL (w, a)).length := mkB_size _
      rw [hs, if_neg h2]
      obtain ⟨x, hx⟩ := check_word h1
      have ho : overF (textL (w, a)) = false := over_app (word_over hx)
      have hp : prs 0 (spl 32 (textL (w, a))) = .inr (tl w :: a.map tl) := by
        unfold textL
        rw [spl_line a _ (wrA_no _)]
        have := prs_map (tl w :: a.map tl) 0
        rw [List.map_cons, List.map_map] at this
        exact this
      rw [tl_mkB, ho, if_neg (by decide), hp]
      have e2 : (a.map tl).map mkB = a := by rw [List.map_map]; conv => rhs; rw [← List.map_id a]
                                             refine List.map_congr_left fun x _ => mkB_tl x
      simp only
      rw [e2, mkB_tl, if_pos h1]
  · rw [if_neg h1] at h
    exact absurd h h1
/-- The line of what was read is the line. -/
theorem text_read (s : ByteArray) (h : (readF s).2.1 = 0) : textF (readF s).1 = (s, okB) := by
  unfold readF at h ⊢
  by_cases h1 : 262144 < s.size
  · rw [if_pos h1] at h; cases h
  · rw [if_neg h1] at h ⊢
    by_cases h2 : overF (tl s) = true
    · rw [if_pos h2] at h; cases h
    · rw [if_neg h2] at h ⊢
      cases hp : prs 0 (spl 32 (tl s)) with
      | inl k => rw [hp] at h; cases h
      | inr W =>
        rw [hp] at h
        have hi := prs_inv _ _ hp
        cases W with
        | nil =>
          obtain ⟨x, y, hxy⟩ := spl_cons 32 (tl s)
          rw [hxy] at hi
          cases hi
        | cons a r =>
          simp only at h ⊢
          by_cases h3 : (checkF (mkB a) (r.map mkB)).1 = 0
          · rw [if_pos h3]
            unfold textF
            have ht : textL (mkB a, r.map mkB) = tl s := by
              unfold textL
              rw [tl_mkB, lineF_flat, List.map_map]
              have := spl_join hi
              rw [← this]
              congr 2
              all_goals
                refine List.map_congr_left fun x _ => ?_
                show wrA (tl (mkB x)) = wrA x
                rw [tl_mkB]
            have hl : (tl s).length = s.size := Array.length_toList
            simp only
            rw [if_pos h3, ht, hl, if_neg h1, mkB_tl]
          · rw [if_neg h3] at h
            exact absurd h h3
end Go.Proofs.YtopcidphlleciaaGreatDoor.S

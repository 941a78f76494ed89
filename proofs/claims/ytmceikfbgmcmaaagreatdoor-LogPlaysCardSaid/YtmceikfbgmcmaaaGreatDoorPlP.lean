/- Plain: lengths, numbers, names. -/
import Derived.Test.YtmceikfbgmcmaaaGreatDoorRefA
import Derived.Test.YtmceikfbgmcmaaaGreatDoorOpZ
namespace Go.Proofs.YtmceikfbgmcmaaaGreatDoor.D
open Go.RowKit Go.Extern.Stop Go.Stop Go.Extern Go.Proofs.YtmceikfbgmcmaaaGreatDoorW.PrintWords Go.Proofs.YtmceikfbgmcmaaaGreatDoorW.PrintLast Go.Proofs.YtmceikfbgmcmaaaGreatDoorW.PrintMore
set_option linter.unusedVariables false
set_option linter.unusedSimpArgs false
theorem add_len (name : ByteArray) : ∀ (k : Nat) (s : St) (r : ByteArray), r.size < k → Ris s.L → Ris (addF s name r).1.L ∧ (addF s name r).1.L.length ≤ (if (lk s.L name).isSome = true then s.L.length else s.L.length + 1)
  | 0, s, r, h, _ => absurd h (by omega)
  | k + 1, s, r, h, hR => by
    by_cases hr : rawOk s
    · by_cases h2 : r.size ≤ 32
      · rw [addF_last hr h2]
        exact ⟨lay_ris _ _ _ hR, by rw [show (pieceS s name r, true).1.L = lay s.L name (lkD s.L name ++ r) from rfl, lay_len _ _ _ hR]; exact Nat.le_refl _⟩
      · rw [addF_more hr h2]
        obtain ⟨h3, h4⟩ := add_len name k (pieceS s name (r.extract 0 32)) (r.extract 32 r.size) (by rw [ByteArray.size_extract]; omega) (lay_ris _ _ _ hR)
        refine ⟨h3, Nat.le_trans h4 ?_⟩
        have e : (lk (pieceS s name (r.extract 0 32)).L name).isSome = true := by
          show (lk (lay s.L name _) name).isSome = true
          rw [lk_lay_same]
          rfl
        rw [if_pos e, show (pieceS s name (r.extract 0 32)).L = lay s.L name (lkD s.L name ++ r.extract 0 32) from rfl, lay_len _ _ _ hR]
        exact Nat.le_refl _
    · rw [addF_dead hr]
      refine ⟨hR, ?_⟩
      show s.L.length ≤ _
      split <;> omega
theorem append_len (s : St) (name r : ByteArray) (hR : Ris s.L) : (appendF s name r).1.L.length ≤ s.L.length + 1 := by
  unfold appendF
  split
  · exact Nat.le_succ _
  · split
    · have := (add_len name _ s r (Nat.lt_succ_self _) hR).2
      show (addF s name r).1.L.length ≤ _
      split at this <;> omega
    · exact Nat.le_succ _
theorem put_len (s : St) (name r : ByteArray) (hR : Ris s.L) : (putF s name r).1.L.length ≤ s.L.length + 1 := by
  unfold putF
  split
  · exact Nat.le_succ _
  · split
    · show (putR s name r).1.L.length ≤ _
      unfold putR
      split
      · split
        · exact lay_len_le _ _ _ hR
        · have h1 := (add_len name _ (putS s name) r (Nat.lt_succ_self _) (lay_ris _ _ _ hR)).2
          have e : (lk (putS s name).L name).isSome = true := by
            show (lk (lay s.L name _) name).isSome = true
            rw [lk_lay_same]
            rfl
          rw [if_pos e] at h1
          exact Nat.le_trans h1 (lay_len_le _ _ _ hR)
      · exact Nat.le_succ _
    · exact Nat.le_succ _
theorem remove_len (s : St) (name : ByteArray) : (removeF s name).1.L.length ≤ s.L.length := by
  unfold removeF
  split
  · exact Nat.le_refl _
  · split
    · have := take_len s.L name
      show (take s.L name).length ≤ _
      omega
    · exact Nat.le_refl _
theorem remove_ris (s : St) (name : ByteArray) (h : Ris s.L) : Ris (removeF s name).1.L := by
  unfold removeF
  split
  · exact h
  · split
    · exact take_ris _ _ h
    · exact h
theorem trunc_len (s : St) (name : ByteArray) (n : Int) (hR : Ris s.L) : (truncF s name n).1.L.length ≤ s.L.length := by
  unfold truncF
  split
  · exact Nat.le_refl _
  · rename_i h0
    split
    · exact Nat.le_refl _
    · split
      · show (lay s.L name _).length ≤ _
        rw [lay_len _ _ _ hR]
        have : (lk s.L name).isSome = true := by
          have h1 : thereC s name = 0 := Decidable.not_not.1 h0
          unfold thereC at h1
          split at h1
          · omega
          · split at h1
            · assumption
            · omega
        rw [if_pos this]
        exact Nat.le_refl _
      · exact Nat.le_refl _
/-- What files going away leaves. -/
theorem clean_all {n : Nat} : ∀ (K : List ByteArray) (s : St), Good s.L → Ris s.L → (∀ k ∈ K, k.size ≤ 128) → Good (cleanF n s K).1.L ∧ Ris (cleanF n s K).1.L ∧ (cleanF n s K).1.L.length ≤ s.L.length ∧ ∀ c k, (cleanF n s K).2 = some (c, k) → c < 100 ∧ k.size ≤ 128
  | [], s, hg, hr, _ => ⟨hg, hr, Nat.le_refl _, fun c k h => by cases h⟩
  | k :: r, s, hg, hr, hk => by
    by_cases h1 : n < numberF k
    · by_cases h2 : (removeF s k).2 = 0
      · rw [clean_go h1 h2]
        obtain ⟨a1, a2, a3, a4⟩ := clean_all r (removeF s k).1 (good_remove hg) (remove_ris s k hr) (fun q hq => hk q (by simp [hq]))
        exact ⟨a1, a2, Nat.le_trans a3 (remove_len s k), a4⟩
      · rw [clean_bad h1 h2]
        refine ⟨good_remove hg, remove_ris s k hr, remove_len s k, fun c k' h => ?_⟩
        injection h with h
        injection h with e1 e2
        subst e1 e2
        exact ⟨removeF_lt s k, hk k (by simp)⟩
    · rw [clean_skip h1]
      exact clean_all r s hg hr (fun q hq => hk q (by simp [hq]))
theorem open_all (s : St) (hg : Good s.L) (hr : Ris s.L) : Good (openF s).1.L ∧ (openF s).1.L.length ≤ s.L.length ∧ (openF s).2.2.1 < 100 ∧ (openF s).2.2.2.size ≤ 128 := by
  have hf : ∀ n, (fileF n).size ≤ 128 := fun n => by rw [fileF_size]; decide
  unfold openF
  split
  · exact ⟨hg, Nat.le_refl _, by show 5 < 100; decide, hf 1⟩
  · obtain ⟨n, recs, torn⟩ := scanF s.L (s.L.length + 1) 1 []
    have hc := clean_all (n := n) (s.L.map (·.1)) s hg hr (fun k hk => by
      obtain ⟨q, hq, rfl⟩ := List.mem_map.1 hk
      have := hg q hq
      unfold badN at this
      omega)
    simp only
    generalize cleanF n s (s.L.map (·.1)) = z at hc
    obtain ⟨s1, oc⟩ := z
    obtain ⟨h1, h2, h3, h4⟩ := hc
    cases oc with
    | some ck =>
      obtain ⟨c, k⟩ := ck
      obtain ⟨h5, h6⟩ := h4 c k rfl
      exact ⟨h1, h3, h5, h6⟩
    | none =>
      cases torn with
      | none => exact ⟨h1, h3, by show 0 < 100; decide, by show (0 : Nat) ≤ 128; decide⟩
      | some mk =>
        obtain ⟨m, keep⟩ := mk
        have h7 := trunc_len s1 (fileF m) (keep : Int) h2
        simp only
        split
        · exact ⟨good_trunc h1, Nat.le_trans h7 h3, by show 0 < 100; decide, by show (0 : Nat) ≤ 128; decide⟩
        · exact ⟨good_trunc h1, Nat.le_trans h7 h3, truncF_lt _ _ _, hf m⟩
theorem appG_all (s : St) (recs : List BL) (br : Bool) (x : ByteArray) (hg : Good s.L) (hr : Ris s.L) : Good (appG s recs br x).1.L ∧ (appG s recs br x).1.L.length ≤ s.L.length + 1 ∧ (appG s recs br x).2.2.2.1 < 100 ∧ (appG s recs br x).2.2.2.2.size ≤ 128 := by
  unfold appG
  split
  · exact ⟨hg, Nat.le_succ _, by show 3 < 100; decide, by show (0 : Nat) ≤ 128; decide⟩
  · split
    · exact ⟨hg, Nat.le_succ _, by show 4 < 100; decide, by show (0 : Nat) ≤ 128; decide⟩
    · split
      · exact ⟨good_append hg, append_len _ _ _ hr, by show 0 < 100; decide, by show (0 : Nat) ≤ 128; decide⟩
      · exact ⟨good_append hg, append_len _ _ _ hr, appendF_lt _ _ _, by rw [fileF_size]; decide⟩
end Go.Proofs.YtmceikfbgmcmaaaGreatDoor.D

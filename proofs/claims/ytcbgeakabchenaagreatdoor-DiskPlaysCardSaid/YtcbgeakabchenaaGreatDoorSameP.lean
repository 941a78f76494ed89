/- Two maps are equal if and only if their lists are. -/
import Derived.Test.YtcbgeakabchenaaGreatDoorDisB
import Derived.Test.YtcbgeakabchenaaGreatDoorShelfM
namespace Go.Proofs.YtcbgeakabchenaaGreatDoor.D
open Go.RowKit Go.Extern.Stop Go.Stop Go.Extern Go.Proofs.YtcbgeakabchenaaGreatDoorW.PrintWords Go.Proofs.YtcbgeakabchenaaGreatDoorW.PrintLast Go.Proofs.YtcbgeakabchenaaGreatDoorW.PrintMore
set_option linter.unusedVariables false
set_option linter.unusedSimpArgs false
open Go.Maps Go.WideElems Go.WideMaps
theorem lk_mem : ∀ (L : FS) (k v : ByteArray), lk L k = some v → (k, v) ∈ L
  | [], k, v, h => by cases h
  | (a, x) :: r, k, v, h => by
    rw [lk] at h
    split at h
    · rename_i e
      subst e
      injection h with h
      subst h
      exact List.mem_cons_self ..
    · exact List.mem_cons_of_mem _ (lk_mem r k v h)
theorem mem_lk : ∀ (L : FS) (k v : ByteArray), Ris L → (k, v) ∈ L → lk L k = some v
  | [], k, v, _, h => by cases h
  | (a, x) :: r, k, v, hr, h => by
    have hr' := List.pairwise_cons.1 hr
    rw [lk]
    rcases List.mem_cons.1 h with e | h
    · injection e with e1 e2
      subst e1 e2
      rw [if_pos rfl]
    · have hlt := hr'.1 _ h
      rw [if_neg (fun e => by subst e; exact bl_irrefl _ hlt)]
      exact mem_lk r k v hr'.2 h
theorem sub_list : ∀ (L2 L1 : FS), Ris L1 → Ris L2 → (∀ p ∈ L1, p ∈ L2) → L1.Sublist L2
  | [], L1, _, _, h => by
    cases L1 with
    | nil => exact List.Sublist.refl _
    | cons p r => cases h p (List.mem_cons_self ..)
  | q :: r2, [], _, _, _ => List.nil_sublist _
  | q :: r2, p :: r1, h1, h2, h => by
    have h1' := List.pairwise_cons.1 h1
    have h2' := List.pairwise_cons.1 h2
    rcases List.mem_cons.1 (h p (List.mem_cons_self ..)) with e | hp
    · subst e
      refine List.Sublist.cons_cons _ (sub_list r2 r1 h1'.2 h2'.2 fun x hx => ?_)
      rcases List.mem_cons.1 (h x (List.mem_cons_of_mem _ hx)) with e | hx2
      · subst e
        exact absurd (h1'.1 _ hx) (bl_irrefl _)
      · exact hx2
    · refine List.Sublist.cons _ (sub_list r2 (p :: r1) h1 h2'.2 fun x hx => ?_)
      rcases List.mem_cons.1 (h x hx) with e | hx2
      · subst e
        have hq := h2'.1 p hp
        rcases List.mem_cons.1 hx with e | hx1
        · rw [e] at hq; exact absurd hq (bl_irrefl _)
        · exact absurd (bl_trans hq (h1'.1 _ hx1)) (bl_irrefl _)
      · exact hx2
def eqd : DataW Unit → DataW Unit → Bool
  | .lit (.string a), .lit (.string b) => decide (a = b)
  | _, _ => false
theorem same_iff {w : World} {b1 n1 : Nat} {L1 L2 : FS} {M1 M2 : DataW Unit} (ho : w.ownsMap Tryz.prog 9 RE b1 n1 M1) (ha1 : Agr L1 M1) (ha2 : Agr L2 M2) (hs1 : Maps.size M1 = L1.length) (hs2 : Maps.size M2 = L2.length) (h1 : Ris L1) (h2 : Ris L2) : Lib.equalFuncD eqd M1 M2 = decide (L1 = L2) := by
  obtain ⟨es, hD, hpw, hkey⟩ := ho.entries KS
  obtain ⟨es', hD', hko⟩ := ho.keysOf
  obtain rfl : es = es' := by rw [hD] at hD'; simpa using hD'
  subst hD
  have hmem : ∀ p ∈ es, ∃ k v : ByteArray, p = (.string (tl k), .lit (.string (tl v))) ∧ lk L1 k = some v := by
    intro p hp
    obtain ⟨v0, hv0⟩ := hko p hp
    obtain ⟨x, _, hx, _⟩ := Maps.keyOf_str Tryz.underlying9 hv0
    have e := WideAt.atKey_mem (.nil : DataW Unit) (hkey p hp) hpw hp
    have hag := ha1 ⟨x.toArray⟩ .nil
    have hh : Maps.has (DataW.map es) p.1 = true := by
      rw [has_eq, List.any_eq_true]
      exact ⟨p, hp, WideAt.sameKey_self (hkey p hp)⟩
    rw [hx] at hh e
    have hsome := agr_has ha1 ⟨x.toArray⟩
    rw [show (ByteArray.mk x.toArray).data.toList = x from by simp] at hsome hag
    rw [hh] at hsome
    obtain ⟨v, hv⟩ := Option.isSome_iff_exists.1 hsome.symm
    rw [hv] at hag
    refine ⟨⟨x.toArray⟩, v, ?_, hv⟩
    refine Prod.ext ?_ ?_
    · exact hx
    · rw [← e, hag]
  have hall : (es.all (Lib.goodD eqd M2) = true) ↔ ∀ k v, lk L1 k = some v → lk L2 k = some v := by
    rw [List.all_eq_true]
    constructor
    · intro h k v hk
      have hh : Maps.has (DataW.map es) (.string (tl k)) = true := by rw [agr_has ha1, hk]; rfl
      rw [has_eq, List.any_eq_true] at hh
      obtain ⟨p, hp, hs⟩ := hh
      obtain ⟨k2, v2, rfl, hk2⟩ := hmem p hp
      have e := WideAt.sameKey_eq hs
      have ek : k2 = k := tl_inj (by injection e)
      subst ek
      have hv : v2 = v := by rw [hk] at hk2; injection hk2 with q; exact q.symm
      subst hv
      have hg := h _ hp
      unfold Lib.goodD at hg
      rw [agr_has ha2, ha2 k2 .nil] at hg
      cases hl : lk L2 k2 with
      | none => rw [hl] at hg; simp at hg
      | some v3 =>
        rw [hl] at hg
        simp only [Option.isSome_some, Bool.true_and, eqd, decide_eq_true_eq] at hg
        rw [tl_inj hg]
    · intro h p hp
      obtain ⟨k, v, rfl, hk⟩ := hmem p hp
      have hl := h k v hk
      unfold Lib.goodD
      rw [agr_has ha2, ha2 k .nil, hl]
      simp [eqd]
  unfold Lib.equalFuncD Lib.entriesD
  rw [hs1, hs2]
  by_cases he : L1 = L2
  · rw [decide_eq_true he, decide_eq_true (congrArg List.length he)]
    rw [hall.2 (fun k v hk => by rw [← he]; exact hk)]
    rfl
  · rw [decide_eq_false he]
    by_cases hl : L1.length = L2.length
    · rw [decide_eq_true hl, Bool.true_and]
      cases hq : es.all (Lib.goodD eqd M2)
      · rfl
      · exfalso
        have hk := hall.1 hq
        refine he ((sub_list L2 L1 h1 h2 fun p hp => ?_).eq_of_length hl)
        exact lk_mem _ _ _ (hk p.1 p.2 (mem_lk _ _ _ h1 hp))
    · rw [decide_eq_false hl]; rfl
end Go.Proofs.YtcbgeakabchenaaGreatDoor.D

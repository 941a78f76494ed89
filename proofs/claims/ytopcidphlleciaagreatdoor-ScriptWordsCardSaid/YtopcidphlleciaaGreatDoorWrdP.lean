/- The words, rising; a sort of the map's keys gives them. -/
import Derived.Test.YtopcidphlleciaaGreatDoorProF
import Derived.Sort.KeysCollected
namespace Go.Proofs.YtopcidphlleciaaGreatDoor.S
open Go.RowKit Go.Extern.Stop Go.Stop Go.Extern Go.Proofs.YtopcidphlleciaaGreatDoorW.PrintWords Go.Proofs.YtopcidphlleciaaGreatDoorW.PrintLast Go.Proofs.YtopcidphlleciaaGreatDoorW.PrintMore
set_option linter.unusedVariables false
set_option linter.unusedSimpArgs false
/-- The words, rising. -/
def wordsL : List ByteArray := [⟨#[97, 99, 99, 111, 117, 110, 116]⟩, ⟨#[99, 108, 105, 101, 110, 116]⟩, ⟨#[100, 101, 112, 114, 101, 99, 97, 116, 101]⟩, ⟨#[100, 105, 115, 111, 119, 110]⟩, ⟨#[101, 118, 101, 110, 116, 115]⟩, ⟨#[101, 118, 101, 110, 116, 115, 45, 111, 102]⟩, ⟨#[102, 101, 116, 99, 104]⟩, ⟨#[102, 105, 108, 101]⟩, ⟨#[102, 108, 121]⟩, ⟨#[102, 114, 101, 115, 104]⟩, ⟨#[103, 101, 116]⟩, ⟨#[104, 101, 97, 100]⟩, ⟨#[104, 101, 97, 114, 100]⟩, ⟨#[104, 111, 108, 100]⟩, ⟨#[104, 111, 108, 100, 45, 111, 102]⟩, ⟨#[106, 111, 105, 110]⟩, ⟨#[108, 101, 97, 118, 101]⟩, ⟨#[108, 111, 99, 107]⟩, ⟨#[109, 101, 110, 100]⟩, ⟨#[111, 119, 110]⟩, ⟨#[112, 97, 103, 101]⟩, ⟨#[112, 97, 103, 101, 45, 111, 102]⟩, ⟨#[112, 111, 119, 101, 114]⟩, ⟨#[112, 111, 119, 101, 114, 45, 111, 102]⟩, ⟨#[112, 117, 98, 108, 105, 115, 104]⟩, ⟨#[112, 117, 108, 108]⟩, ⟨#[114, 101, 118]⟩, ⟨#[115, 101, 110, 100]⟩, ⟨#[115, 101, 114, 118, 101]⟩, ⟨#[115, 104, 117, 116]⟩, ⟨#[115, 111, 108, 118, 101]⟩, ⟨#[115, 111, 108, 118, 101, 45, 104, 101, 114, 101]⟩, ⟨#[116, 101, 97, 109]⟩, ⟨#[116, 105, 99, 107]⟩, ⟨#[117, 110, 121, 97, 110, 107]⟩, ⟨#[119, 104, 111]⟩, ⟨#[121, 97, 110, 107]⟩]
theorem lkT_isSome : ∀ (L : TB) (k : ByteArray), (lkT L k).isSome = true ↔ k ∈ L.map (·.1)
  | [], k => by simp [lkT]
  | (a, x) :: r, k => by
    rw [lkT]
    split
    · rename_i e
      simp [e]
    · rename_i e
      rw [lkT_isSome r k, List.map_cons, List.mem_cons]
      exact ⟨.inr, fun h => h.resolve_left fun q => e q.symm⟩
theorem words_keys (k : ByteArray) : (lkT tab k).isSome = true ↔ k ∈ wordsL := by
  rw [lkT_isSome]
  have h1 : (tab.map (·.1)).all (fun k => wordsL.any fun j => decide (j = k)) = true := by decide +kernel
  have h2 : wordsL.all (fun k => (tab.map (·.1)).any fun j => decide (j = k)) = true := by decide +kernel
  constructor
  · intro h
    obtain ⟨j, hj, e⟩ := List.any_eq_true.1 (List.all_eq_true.1 h1 k h)
    exact of_decide_eq_true e ▸ hj
  · intro h
    obtain ⟨j, hj, e⟩ := List.any_eq_true.1 (List.all_eq_true.1 h2 k h)
    exact of_decide_eq_true e ▸ hj
theorem words_ris : (wordsL.map tl).Pairwise (fun x y => x < y) := by
  have h : decide ((wordsL.map tl).Pairwise (fun x y => x < y)) = true := by decide +kernel
  exact of_decide_eq_true h
theorem encStr_tl (k : ByteArray) : encStr (tl k) = .string k := by
  unfold encStr
  exact congrArg Value.string (ByteArray.ext (by simp [tl]))
theorem words_sorted {M : DataW Unit} {ss : List BL} (ha : AgrT tab M) (hnd : ss.Nodup) (hm : ∀ x, x ∈ ss ↔ Maps.has M (.string x) = true) : ss.mergeSort (fun x y => decide (x ≤ y)) = wordsL.map tl := by
  have hnd2 : (wordsL.map tl).Nodup := words_ris.imp fun h e => by rw [e] at h; exact List.lt_irrefl _ h
  have hp : ss.Perm (wordsL.map tl) := by
    refine (List.perm_ext_iff_of_nodup hnd hnd2).2 fun x => ?_
    have hx := agrT_has ha ⟨x.toArray⟩
    have e : tl ⟨x.toArray⟩ = x := by simp [tl]
    rw [e] at hx
    rw [hm x, hx, words_keys, List.mem_map]
    constructor
    · intro h
      exact ⟨_, h, e⟩
    · rintro ⟨p, hp, e2⟩
      rw [show (⟨x.toArray⟩ : ByteArray) = p from tl_inj (e.trans e2.symm)]
      exact hp
  rw [mergeSort_of_perm hp]
  refine List.mergeSort_of_pairwise (words_ris.imp ?_)
  intro p q h
  simp only [decide_eq_true_eq]
  exact List.le_of_lt h
theorem words_enc : (wordsL.map tl).map encStr = wordsL.map Value.string := by
  rw [List.map_map]
  exact List.map_congr_left fun k _ => encStr_tl k
end Go.Proofs.YtopcidphlleciaaGreatDoor.S

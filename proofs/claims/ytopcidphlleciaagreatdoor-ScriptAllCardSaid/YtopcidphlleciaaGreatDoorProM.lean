/- script.Read: small laws. -/
import Derived.Test.YtopcidphlleciaaGreatDoorProL
import Derived.Test.YtopcidphlleciaaGreatDoorProC
import Derived.Shelf.Strings.Split
namespace Go.Proofs.YtopcidphlleciaaGreatDoor.S
open Go.RowKit Go.Extern.Stop Go.Stop Go.Extern Go.Proofs.YtopcidphlleciaaGreatDoorW.PrintWords Go.Proofs.YtopcidphlleciaaGreatDoorW.PrintLast Go.Proofs.YtopcidphlleciaaGreatDoorW.PrintMore
set_option linter.unusedVariables false
set_option linter.unusedSimpArgs false
theorem unw_k (p : BL) : (unw p).2.1 ≤ p.length := by
  unfold unw
  split
  · exact Nat.zero_le _
  · cases h : sc p with
    | bad k =>
      have h1 := sc_take p.length p (Nat.le_refl _) p.length
      rw [List.take_length, h] at h1
      simp only [Sc.isBad, Option.bind_some] at h1
      by_cases q : k < p.length
      · exact Nat.le_of_lt q
      · rw [if_neg q] at h1; cases h1
    | short => exact Nat.le_refl _
    | ok o => simp only; split <;> exact Nat.zero_le _
theorem wrL_len : ∀ (l : BL), l.length ≤ (wrL l).length
  | [] => Nat.le_refl _
  | c :: r => by
    have ih := wrL_len r
    rw [wrL, List.length_append, List.length_cons]
    have : 1 ≤ (wrC c).length := by unfold wrC; split <;> simp
    omega
theorem wrA_len (l : BL) : l.length ≤ (wrA l).length := by
  unfold wrA
  split
  · rename_i h; rw [h]; exact Nat.zero_le _
  · exact wrL_len l
theorem le_sum {l : List BL} {p : BL} (h : p ∈ l) : p.length + 1 ≤ (l.map fun p => p.length + 1).sum := by
  induction l with
  | nil => cases h
  | cons x r ih =>
    rw [List.map_cons, List.sum_cons]
    rcases List.mem_cons.1 h with rfl | h
    · omega
    · have := ih h; omega
theorem prs_small {l : BL} {W : List BL} (h : prs 0 (spl 32 l) = .inr W) : ∀ a ∈ W, a.length ≤ l.length := by
  intro a ha
  have h1 := prs_inv _ _ h
  have h2 : wrA a ∈ spl 32 l := by rw [h1]; exact List.mem_map_of_mem ha
  have h3 := le_sum h2
  rw [spl_sum] at h3
  have := wrA_len a
  omega
def encS (l : BL) : Value := .string (mkB l)
theorem info9 : (Tryz.prog.info? 9).map (fun i => (i.zero, i.size, i.bytes)) = some (some (.string ByteArray.empty), 1, 16) := by kernel_rfl
/-- What bytealg.MaxLen's variable holds. -/
def GM (w : World) : Prop := ∃ m, w.cell? ⟨1, 0, none⟩ = some (.int .i64 m)
theorem GM.below {w w1 : World} (h : GM w) (hb : Below w.heap.size w w1) : GM w1 := by
  obtain ⟨m, h⟩ := h
  exact ⟨m, pw_cell_below hb h⟩
theorem split_calls (c : UInt8) (s : ByteArray) (w : World) (hs : s.size ≤ 4000000) (hM : GM w) : Calls Tryz.prog 30 #[.string s, .string ⟨#[c]⟩] w fun e w' => e = .returned (.slice (some ⟨w.heap.size, 0, none⟩) (spl c (tl s)).length (spl c (tl s)).length) ∧ w' = w.alloc (.cells ((spl c (tl s)).map encS).toArray 9) := by
  obtain ⟨m, hm⟩ := hM
  refine (Tryz.strings_Split s ⟨#[c]⟩ m w (by omega) hm (Nat.le_refl _)).mono ?_
  rintro e w' ⟨rfl, rfl⟩
  have h1 := Lib.splitB_all ⟨#[c]⟩ (Nat.le_refl _) 0 _ s rfl
  rw [split_pieces c s] at h1 ⊢
  rw [List.length_map] at h1
  rw [h1, List.map_map]
  exact ⟨rfl, rfl⟩
theorem cell_pieces (w : World) (l : List BL) (t : TypeId) (j : Nat) (h : j < l.length) : (w.alloc (.cells (l.map encS).toArray t)).cell? ⟨w.heap.size, j, none⟩ = some (encS l[j]) := by
  rw [cell_of_row _ _ _ _ _ _ (heap_alloc_new w _)]
  simp [h]
theorem own_form {w : World} {base n : Nat} {v : Value} {l : List Value} (h : w.ownsRow base 9 1 v n l) : ∃ a c, v = .slice a n c := by
  rcases h.2 with ⟨rfl, h0⟩ | ⟨g, cap, cur, rfl, _⟩
  · exact ⟨_, _, by rw [h0]⟩
  · exact ⟨_, _, rfl⟩
theorem own_lst {w : World} {base n : Nat} {a : Option Addr} {c : Nat} {l : List ByteArray} (h : w.ownsRow base 9 1 (.slice a n c) n (l.map Value.string)) (hn : n ≤ 8796093022208) (hs : ∀ k ∈ l, k.size ≤ 140737488351232) : LSt w a n l := by
  have hl : l.length = n := by have := h.1; rw [List.length_map, Nat.mul_one] at this; exact this
  refine ⟨hl, hn, fun h0 => ?_, hs⟩
  rcases h.2 with ⟨h1, h2⟩ | ⟨g, cap, cur, h1, h2⟩
  · omega
  · injection h1 with e1 e2 e3
    subst e1
    refine ⟨g, 0, rfl, fun i hi => ?_⟩
    have := h.cells (g := g) rfl i (.string l[i]) (by rw [List.getElem?_map, List.getElem?_eq_getElem hi]; rfl)
    rw [Nat.zero_add]
    rw [show ((⟨g, 0, none⟩ : Addr).add i) = ⟨g, i, none⟩ by simp [Addr.add]; omega] at this
    exact this
end Go.Proofs.YtopcidphlleciaaGreatDoor.S

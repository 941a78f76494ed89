/- ScriptWords' law: its parts. -/
import Derived.Test.YtopcidphlleciaaGreatDoorWrdA
import Derived.Test.YtopcidphlleciaaGreatDoorReN
import Derived.Test.YtopcidphlleciaaGreatDoorSLi
import Derived.Test.YtopcidphlleciaaGreatDoorSIs
import Derived.Test.YtopcidphlleciaaGreatDoorProO
import Derived.Test.YtopcidphlleciaaGreatDoorProN
import Derived.Test.YtopcidphlleciaaGreatDoorProK
namespace Go.Proofs.YtopcidphlleciaaGreatDoor.S
open Go.RowKit Go.Extern.Stop Go.Stop Go.Extern Go.Proofs.YtopcidphlleciaaGreatDoorW.PrintWords Go.Proofs.YtopcidphlleciaaGreatDoorW.PrintLast Go.Proofs.YtopcidphlleciaaGreatDoorW.PrintMore
set_option linter.unusedVariables false
set_option linter.unusedSimpArgs false
open Go.Maps
theorem lives_calls (w : World) (hG : GW w) : Calls Tryz.prog 9 #[] w fun e w' => e = .returned (.bool true) ∧ Below w.heap.size w w' := lives_of ⟨is_ok⟩ w hG
theorem words_len : wordsL.length = 37 := rfl
theorem words_lst (w : World) : LSt (w.alloc (.cells (wordsL.map Value.string).toArray 9)) (some ⟨w.heap.size, 0, none⟩) 37 wordsL := by
  refine ⟨rfl, by decide, fun _ => ⟨_, _, rfl, fun i hi => ?_⟩, by decide +kernel⟩
  have hb := (MapKept.heap_alloc w (.cells (wordsL.map Value.string).toArray 9)).1
  rw [cell_of_row _ _ _ _ _ _ hb]
  simp [hi]
set_option maxHeartbeats 16000000 in
set_option maxRecDepth 100000 in
theorem rwords_calls (w : World) : Calls Tryz.prog 25 #[] w fun e w' => e = .returned (.slice (some ⟨w.heap.size, 0, none⟩) 37 37) ∧ LSt w' (some ⟨w.heap.size, 0, none⟩) 37 wordsL ∧ Below w.heap.size w w' := by
  have HL := Aside0.mk (words_lst w)
  go_enter Tryz.func25, Tryz.ntmps25
  go_wp2_with (fail)
  go_ret
  exact ⟨rfl, HL.out, (Below.refl _ _).alloc (Nat.le_refl _) _⟩
def wok (x : ByteArray) : Bool := match lkT tab x with
  | some s => decide (s.1.size ≤ 4) && decide (checkF x (List.replicate s.1.size ⟨#[48]⟩) = okB)
  | none => false
theorem words_all : wordsL.all wok = true := by decide +kernel
theorem words_ok {x : ByteArray} (h : x ∈ wordsL) : ∃ k le mo, lkT tab x = some (k, le, mo) ∧ k.size ≤ 4 ∧ checkF x (List.replicate k.size ⟨#[48]⟩) = okB := by
  have h1 := List.all_eq_true.1 words_all x h
  unfold wok at h1
  cases hl : lkT tab x with
  | none => rw [hl] at h1; cases h1
  | some s =>
    rw [hl] at h1
    obtain ⟨k, le, mo⟩ := s
    simp only [Bool.and_eq_true, decide_eq_true_eq] at h1
    exact ⟨k, le, mo, rfl, h1.1, h1.2⟩
/-- Of the list in block g what stands from i on is not yet spoilt. -/
def WS (W : World) (g i : Nat) : Prop := g < W.heap.size ∧ (∀ j (h : j < wordsL.length), i ≤ j → W.cell? ⟨g, j, none⟩ = some (.string wordsL[j])) ∧ ∀ j, W.frozen? ⟨g, j, none⟩ = false
theorem WS.below {W W' : World} {g i : Nat} (h : WS W g i) (hb : Below W.heap.size W W') : WS W' g i :=
  ⟨Nat.lt_of_lt_of_le h.1 hb.size, fun j hj hi => pw_cell_below hb (h.2.1 j hj hi), fun j => (hb.frozen (p := ⟨g, j, none⟩) h.1).trans (h.2.2 j)⟩
theorem WS.set {W : World} {g i : Nat} (h : WS W g i) (v : Value) : WS (W.setCell ⟨g, i, none⟩ v) g (i + 1) :=
  ⟨by simpa using h.1, fun j hj hi => by
    rw [← h.2.1 j hj (by omega)]
    exact World.cell?_setCell_other (h := fun q => by injection q with _ q; omega) .., fun j => by simpa using h.2.2 j⟩
theorem own_ws {W : World} {B g c : Nat} (h : W.ownsRow B 9 1 (.slice (some ⟨g, 0, none⟩) 37 c) 37 (wordsL.map Value.string)) : B ≤ g ∧ WS W g 0 := by
  rcases h.2 with ⟨hnil, _⟩ | ⟨g2, cap, cur, hv, hbase, hb, h1, h2, h3, h4⟩
  · cases hnil
  · cases hv
    refine ⟨hbase, (Array.getElem?_eq_some_iff.1 hb).1, fun j hj _ => ?_, fun j => ?_⟩
    · have hj2 : j < 37 := hj
      rw [cell_of_row _ _ _ _ _ _ hb]
      have e := congrArg (fun l => l[j]?) h4
      rw [List.getElem?_take_of_lt (by omega)] at e
      rw [← Array.getElem?_toList, e]
      simp [hj]
    · simp [World.frozen?, hb]
end Go.Proofs.YtopcidphlleciaaGreatDoor.S

/- A fault made; a list of texts. -/
import Derived.Test.YtopcidphlleciaaGreatDoorProG
namespace Go.Proofs.YtopcidphlleciaaGreatDoor.S
open Go.RowKit Go.Extern.Stop Go.Stop Go.Extern Go.Proofs.YtopcidphlleciaaGreatDoorW.PrintWords Go.Proofs.YtopcidphlleciaaGreatDoorW.PrintLast Go.Proofs.YtopcidphlleciaaGreatDoorW.PrintMore
set_option linter.unusedVariables false
set_option linter.unusedSimpArgs false
/-- A fault's cells: its number, what it is of, where. -/
def FA (w : World) (e : Nat) (c : Nat) (name : ByteArray) (at_ : Int) : Prop := w.cell? ⟨e, 0, none⟩ = some (.int .i64 c) ∧ w.cell? ⟨e, 1, none⟩ = some (.string name) ∧ w.cell? ⟨e, 2, none⟩ = some (.int .i64 at_) ∧ w.cell? ⟨e, 3, none⟩ = some .nilIface
theorem FA.below {w w1 : World} {e c : Nat} {name : ByteArray} {k : Int} (h : FA w e c name k) (hb : Below w.heap.size w w1) : FA w1 e c name k :=
  ⟨pw_cell_below hb h.1, pw_cell_below hb h.2.1, pw_cell_below hb h.2.2.1, pw_cell_below hb h.2.2.2⟩
/-- v is this fault (none: nil). -/
def EA (w : World) (v : Value) (b : Bd) : Prop := (b.1 = 0 ∧ b = okB ∧ v = .nilIface) ∨ (0 < b.1 ∧ ∃ h, v = .iface 43 (.pointer (some ⟨h, 0, none⟩)) ∧ h < w.heap.size ∧ FA w h b.1 b.2.1 b.2.2)
theorem EA.below {w w1 : World} {v : Value} {b : Bd} (h : EA w v b) (hb : Below w.heap.size w w1) : EA w1 v b := by
  rcases h with h | ⟨h1, g, h2, h3, h4⟩
  · exact .inl h
  · exact .inr ⟨h1, g, h2, Nat.lt_of_lt_of_le h3 hb.size, h4.below hb⟩
set_option maxHeartbeats 8000000 in
theorem fault_calls (c : Nat) (name : ByteArray) (k : Int) (w : World) (hc : 0 < c) : Calls Tryz.prog 28 #[.int .i64 c, .string name, .int .i64 k] w fun e w' => ∃ v, e = .returned v ∧ EA w' v (c, name, k) ∧ Below w.heap.size w w' := by
  go_enter Tryz.func28, Tryz.ntmps28
  go_wp2
  go_ret
  exact ⟨_, rfl, .inr ⟨hc, w.heap.size, rfl, by simp, by simp, by simp, by simp, by simp⟩, (Below.refl _ _).alloc (Nat.le_refl _) _⟩
/-- A list of texts, read at w. -/
def LSt (w : World) (a : Option Addr) (n : Nat) (l : List ByteArray) : Prop := l.length = n ∧ n ≤ 8796093022208 ∧ (0 < n → ∃ g o, a = some ⟨g, o, none⟩ ∧ ∀ i (h : i < l.length), w.cell? ⟨g, o + i, none⟩ = some (.string l[i])) ∧ ∀ k ∈ l, k.size ≤ 140737488351232
theorem LSt.below {w w1 : World} {a : Option Addr} {n : Nat} {l : List ByteArray} (h : LSt w a n l) (hb : Below w.heap.size w w1) : LSt w1 a n l := by
  obtain ⟨h1, h2, h3, h4⟩ := h
  refine ⟨h1, h2, fun hn => ?_, h4⟩
  obtain ⟨g, o, e, hc⟩ := h3 hn
  exact ⟨g, o, e, fun i hi => pw_cell_below hb (hc i hi)⟩
/-- May this argument not be? -/
def badAt (kinds : BL) (more : Bool) (i : Nat) (s : BL) : Bool := match kinds[i]? with | none => !more | some k => !fitB k s
theorem firstBad_step (kinds : BL) (more : Bool) (i : Nat) (args : List ByteArray) (h : i < args.length) : firstBad kinds more i (args.drop i) = if badAt kinds more i (tl args[i]) = true then some i else firstBad kinds more (i + 1) (args.drop (i + 1)) := by
  rw [List.drop_eq_getElem_cons h, firstBad]
  unfold badAt
  cases kinds[i]? <;> rfl
theorem firstBad_end (kinds : BL) (more : Bool) (i : Nat) (args : List ByteArray) (h : args.length ≤ i) : firstBad kinds more i (args.drop i) = none := by
  rw [List.drop_of_length_le h, firstBad]
end Go.Proofs.YtopcidphlleciaaGreatDoor.S

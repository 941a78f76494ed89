/- What a call leaves as it was, and that the tape is never asked back: 'Below', with the count of draws. -/
import Derived.Test.YthnajibbkinlkaaGreatDoorGW
import Derived.Test.YthnajibbkinlkaaGreatDoorWWords
import Derived.Lib.QuietBelow
namespace Go.Proofs.YthnajibbkinlkaaGreatDoor.PV
open Go.RowKit Go.Proofs.YthnajibbkinlkaaGreatDoorW.PrintWords
set_option linter.unusedVariables false
structure DBelow (B : Nat) (w w' : World) : Prop where
  b : Below B w w'
  drawn : w.drawn ≤ w'.drawn
theorem DBelow.refl (B : Nat) (w : World) : DBelow B w w := ⟨Below.refl _ _, Nat.le_refl _⟩
theorem DBelow.size {B : Nat} {w w' : World} (h : DBelow B w w') : w.heap.size ≤ w'.heap.size := h.b.size
theorem DBelow.block {B : Nat} {w w' : World} (h : DBelow B w w') : ∀ k, k < B → w'.heap[k]? = w.heap[k]? := h.b.block
theorem DBelow.cell {B : Nat} {w w' : World} (h : DBelow B w w') {p : Addr} (hp : p.block < B) : w'.cell? p = w.cell? p := h.b.cell hp
theorem DBelow.frozen {B : Nat} {w w' : World} (h : DBelow B w w') {p : Addr} (hp : p.block < B) : w'.frozen? p = w.frozen? p := h.b.frozen hp
theorem DBelow.trans {B : Nat} {u v w : World} (h : DBelow B u v) (k : DBelow B v w) : DBelow B u w := ⟨h.b.trans k.b, Nat.le_trans h.drawn k.drawn⟩
theorem DBelow.alloc {B : Nat} {u w : World} (h : DBelow B u w) (hB : B ≤ w.heap.size) (o : Obj) : DBelow B u (w.alloc o) := ⟨h.b.alloc hB o, h.drawn⟩
theorem DBelow.setCell {B : Nat} {u w : World} (h : DBelow B u w) {p : Addr} (hp : B ≤ p.block) (x : Value) : DBelow B u (w.setCell p x) := ⟨h.b.setCell hp x, h.drawn⟩
theorem DBelow.drew {B : Nat} {u w : World} (h : DBelow B u w) : DBelow B u w.drew := ⟨h.b.drew, Nat.le_succ_of_le h.drawn⟩
theorem DBelow.heap_setCell (w : World) (a : Addr) (u : Value) (k : Nat) (h : k ≠ a.block) : (w.setCell a u).heap[k]? = w.heap[k]? := Below.heap_setCell w a u k h
theorem dpw_below_drewN {B : Nat} {w W : World} (h : DBelow B w W) (n : Nat) : DBelow B w (W.drewN n) := ⟨pw_below_drewN h.b n, Nat.le_trans h.drawn (Nat.le_add_right _ _)⟩
theorem dbelow_alloc {w W : World} (h : DBelow w.heap.size w W) (o : Obj) : DBelow w.heap.size w (W.alloc o) := h.alloc h.size o
theorem dbelow_drew1 {B : Nat} {w W : World} (h : DBelow B w W) : DBelow B w W.drew := h.drew
theorem dbelow_step {w W w2 : World} (h : DBelow w.heap.size w W) (k : DBelow W.heap.size W w2) : DBelow w.heap.size w w2 := ⟨below_step h.b k.b, Nat.le_trans h.drawn k.drawn⟩
theorem dpw_cell_below {w w1 : World} (h : DBelow w.heap.size w w1) {a : Addr} {v : Value} (hc : w.cell? a = some v) : w1.cell? a = some v := pw_cell_below h.b hc
theorem GW.dbelow {w w1 : World} (h : GW w) (hb : DBelow w.heap.size w w1) : GW w1 := h.below hb.b
/-- What is left, as the sort asks it: more draws, more blocks. -/
theorem DBelow.grown {w w' : World} (h : DBelow w.heap.size w w') : ∃ q os, w' = Go.Sort.grow (w.drewN q) os := by
  obtain ⟨p, hp⟩ := regrown_of_below h.b
  have hd : w'.drawn = p.d := by rw [hp]; rfl
  refine ⟨w'.drawn - w.drawn, p.os, ?_⟩
  rw [hp]
  have h2 := h.drawn
  rw [hd] at h2
  show Go.Sort.grow (redrawn w p.d) p.os = _
  congr 1
  unfold redrawn World.drewN
  congr 1
  show p.d = w.drawn + (p.d - w.drawn)
  omega
end Go.Proofs.YthnajibbkinlkaaGreatDoor.PV

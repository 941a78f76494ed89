/- How LogCuts' world stands. -/
import Derived.Test.YtmceikfbgmcmaaaGreatDoorCuA
namespace Go.Proofs.YtmceikfbgmcmaaaGreatDoor.D
open Go.RowKit Go.Extern.Stop Go.Stop Go.Extern Go.Proofs.YtmceikfbgmcmaaaGreatDoorW.PrintWords Go.Proofs.YtmceikfbgmcmaaaGreatDoorW.PrintLast Go.Proofs.YtmceikfbgmcmaaaGreatDoorW.PrintMore
set_option linter.unusedVariables false
set_option linter.unusedSimpArgs false
def deadN (w : World) (p : Nat) : Nat := match w.cell? ⟨p, 3, none⟩ with
  | some (.bool true) => 1
  | _ => 0
theorem deadN_le (w : World) (p : Nat) : deadN w p ≤ 1 := by
  unfold deadN
  split <;> omega
theorem deadN_yes {w : World} {p b : Nat} {s : St} (h : DK w p b s) (hd : s.dead = true) : deadN w p = 1 := by
  unfold deadN
  rw [h.c.2.2.2.1, hd]
theorem deadN_no {w : World} {p b : Nat} {s : St} (h : DK w p b s) (hd : s.dead = false) : deadN w p = 0 := by
  unfold deadN
  rw [h.c.2.2.2.1, hd]
theorem below_of_grown {A B : World} (h : A.grownBy B none) : Below A.heap.size A B := ⟨h.os, h.tape, h.output, h.size, fun k hk => h.block k hk (by simp)⟩
theorem slice_full (a : Option Addr) (n c : Nat) (ha : (a = none ∧ c = 0) ∨ ∃ g, a = some ⟨g, 0, none⟩) (h1 : n ≤ c) (W : World) : (Instr.slice 36 (.slice a n c) none (some (.int .i64 (n : Int))) (some (.int .i64 (n : Int)))).run Tryz.prog W = .ok (.slice a n n) W := by
  have hz : ∀ W, (sizeOf 9).run Tryz.prog W = .ok 1 W := fun W => by kernel_rfl
  rcases ha with ⟨rfl, rfl⟩ | ⟨g, rfl⟩
  · obtain rfl : n = 0 := by omega
    simp [Instr.slice, Instr.sliceBounds, Instr.sliceBound, asIntOf, run_underlying Tryz.underlying36, hz, Result.andThen]
  · have h3 : (n : Int) ≤ (c : Int) := by omega
    have h0 : (0 : Int) ≤ (n : Int) := by omega
    simp [Instr.slice, Instr.sliceBounds, Instr.sliceBound, asIntOf, run_underlying Tryz.underlying36, hz, h1, h3, h0, Result.andThen]
    try (by_cases hk : n = 0 <;> simp [hk, Addr.add])
/-- How the law's world stands between two records: the disk, the list of what was answered. -/
structure CB (w : World) (p b : Nat) (wr : World) (v6 : Value) (recs : List BL) (s : St) : Prop where
  d : DK wr p b s
  below : Below w.heap.size w wr
  row : wr.ownsRow w.heap.size 9 1 v6 recs.length (recs.map encS)
theorem CB.apart {w : World} {p b : Nat} {wr : World} {v6 : Value} {recs : List BL} {s : St} (c : CB w p b wr v6 recs s) : v6.ownBlock ≠ some p ∧ v6.ownBlock ≠ some b ∧ ∀ g, v6.ownBlock = some g → g < wr.heap.size := by
  refine ⟨own_nq c.row c.d.1 (by decide), ?_, fun g e => ?_⟩
  · obtain ⟨o, ho, hne⟩ : ∃ o, wr.heap[b]? = some o ∧ ∀ cur, o ≠ .cells cur 9 (0, 0) := by
      obtain ⟨M, ⟨es, clock, h1, _⟩, _⟩ := c.d.2.1
      exact ⟨_, h1, fun cur e => by cases e⟩
    exact own_apart c.row ho hne
  · rcases c.row.2 with ⟨rfl, _⟩ | ⟨g', cap, cur, rfl, _, hg, _⟩
    · cases e
    · have e' : g' = g := by simpa [Value.ownBlock] using e
      rw [← e']
      exact (Array.getElem?_eq_some_iff.1 hg).1
theorem CB.app {w : World} {p b : Nat} {wr w' : World} {v6 : Value} {recs : List BL} {s s' : St} (c : CB w p b wr v6 recs s) (hd : DK w' p b s') (hb : Below w.heap.size wr w') {B : Nat} (hk : Ka (fun k => k = p ∨ k = b ∨ B ≤ k) wr w') (hB : ∀ g, v6.ownBlock = some g → g < B) : CB w p b w' v6 recs s' := by
  obtain ⟨h1, h2, h3⟩ := c.apart
  refine ⟨hd, c.below.trans hb, own_ka c.row hk (fun g e hx => ?_)⟩
  rcases hx with rfl | rfl | hx
  · exact h1 e
  · exact h2 e
  · have := hB g e; omega
theorem CB.kp {w : World} {p b : Nat} {wr w' : World} {v6 : Value} {recs : List BL} {s s' : St} (c : CB w p b wr v6 recs s) (hd : DK w' p b s') (hp : w.heap.size ≤ p) (hb : w.heap.size ≤ b) (hk : Kp p b wr w') : CB w p b w' v6 recs s' :=
  c.app hd (hk.below hp hb c.below.size) (B := wr.heap.size) (Ka.kp hk (.inl rfl) (.inr (.inl rfl))) c.apart.2.2
theorem CB.bl {w : World} {p b : Nat} {wr w' : World} {v6 : Value} {recs : List BL} {s : St} (c : CB w p b wr v6 recs s) (hb : Below wr.heap.size wr w') : CB w p b w' v6 recs s :=
  ⟨c.d.below hb, below_step c.below hb, own_below c.row hb⟩
theorem CB.grow {w : World} {p b n : Nat} {wr w3 : World} {v6 v' : Value} {recs : List BL} {s : St} {y : BL} (c : CB w p b wr v6 recs s) (o : Obj) (hn : recs.length = n) (hown : w3.ownsRow w.heap.size 9 1 v' (n + 1) (recs.map encS ++ [encS y])) (hg : (wr.alloc o).grownBy w3 v6.ownBlock) : CB w p b w3 v' (recs ++ [y]) s := by
  obtain ⟨h1, h2, h3⟩ := c.apart
  have hz := c.below.size
  refine ⟨(c.d.below ((Below.refl _ _).alloc (Nat.le_refl _) o)).grown hg h1 h2, ((below_step (w := w) c.below ((Below.refl _ _).alloc (Nat.le_refl _) o)).grown hg (by simp; omega) (fun k e => own_low c.row e)), ?_⟩
  rw [List.length_append, List.map_append, List.length_singleton, hn]
  exact hown
theorem row_cells {w : World} {B n c : Nat} {a : Option Addr} {recs : List BL} (h : w.ownsRow B 9 1 (.slice a n c) recs.length (recs.map encS)) : recs.length = n ∧ n ≤ c ∧ ((a = none ∧ c = 0) ∨ ∃ g, a = some ⟨g, 0, none⟩) ∧ ∀ i x, recs[i]? = some x → ∃ g, a = some ⟨g, 0, none⟩ ∧ w.cell? ⟨g, i, none⟩ = some (encS x) := by
  obtain ⟨a', c', e, h1, h2, h3⟩ := own_shape h
  injection e with e1 e2 e3
  subst e1 e2 e3
  refine ⟨rfl, h1, h2, fun i x hx => ?_⟩
  rcases h2 with ⟨rfl, h2⟩ | ⟨g, rfl⟩
  · have := (List.getElem?_eq_some_iff.1 hx).1
    omega
  · exact ⟨g, rfl, h3 g rfl i _ (by rw [List.getElem?_map, hx]; rfl)⟩
end Go.Proofs.YtmceikfbgmcmaaaGreatDoor.D

/- script.Read: too long, passed over. -/
import Derived.Test.YtopcidphlleciaaGreatDoorProK
import Derived.Test.YtopcidphlleciaaGreatDoorReI
import Derived.Laws.ResultCell
namespace Go.Proofs.YtopcidphlleciaaGreatDoor.S
open Go.RowKit Go.Extern.Stop Go.Stop Go.Extern Go.Proofs.YtopcidphlleciaaGreatDoorW.PrintWords Go.Proofs.YtopcidphlleciaaGreatDoorW.PrintLast Go.Proofs.YtopcidphlleciaaGreatDoorW.PrintMore
set_option linter.unusedVariables false
set_option linter.unusedSimpArgs false
theorem spl_sum (c : UInt8) : ∀ l : BL, ((spl c l).map fun p => p.length + 1).sum = l.length + 1
  | [] => rfl
  | b :: r => by
    have ih := spl_sum c r
    by_cases hb : b = c
    · subst hb
      rw [spl_eq, List.map_cons, List.sum_cons, ih, List.length_nil, List.length_cons]
      omega
    · obtain ⟨x, y, h⟩ := spl_cons c r
      rw [h, List.map_cons, List.sum_cons] at ih
      rw [spl_skip hb h, List.map_cons, List.sum_cons, List.length_cons, List.length_cons]
      omega
theorem load_call (W : World) (g : Nat) (c0 c1 : Value) (h0 : W.cell? ⟨g, 0, none⟩ = some c0) (h1 : W.cell? ⟨g, 1, none⟩ = some c1) : (loadVar 25 ⟨g, 0, none⟩).run Tryz.prog W = .ok (.agg #[c0, c1]) W := by
  have hi : (isAgg 25).run Tryz.prog W = .ok true W := by kernel_rfl
  have hz : (sizeOf 25).run Tryz.prog W = .ok 2 W := by kernel_rfl
  simp [loadVar, hi, hz, h0, h1, Result.andThen, loadCells, loadCellsFrom, Addr.add]
theorem res_call {fn : Func} {p u : Tmp} (h : fn.results = #[.cell p 25, .tmp u]) (tmps : Array Value) (W : World) (g : Nat) (c0 c1 v : Value) (hp : tmps.getD p undef = .pointer (some ⟨g, 0, none⟩)) (hu : tmps.getD u undef = v) (h0 : W.cell? ⟨g, 0, none⟩ = some c0) (h1 : W.cell? ⟨g, 1, none⟩ = some c1) :
    (results fn tmps).run Tryz.prog W = .ok (.tuple #[.agg #[c0, c1], v]) W := by
  rw [results_cell_tmp h, hp, hu]
  simp [asAddr, load_call W g c0 c1 h0 h1, Result.andThen]
theorem own_below {B : Nat} {e : TypeId} {k : Nat} {v : Value} {n : Nat} {xs : List Value} {w w' : World} (h : w.ownsRow B e k v n xs) (hb : Below w.heap.size w w') : w'.ownsRow B e k v n xs := by
  obtain ⟨h1, h2⟩ := h
  refine ⟨h1, ?_⟩
  rcases h2 with h2 | ⟨g, cap, cur, rfl, hb1, hg, h3, h4, h5, h6⟩
  · exact .inl h2
  · have hlt : g < w.heap.size := (Array.getElem?_eq_some_iff.1 hg).1
    exact .inr ⟨g, cap, cur, rfl, hb1, (hb.block g hlt).trans hg, h3, h4, h5, h6⟩
/-- A call that was read, in memory of its own. -/
def RC (B : Nat) (w : World) (c : Cl) (v : Value) : Prop := ∃ sv, v = .agg #[.string c.1, sv] ∧ w.ownsRow B 9 1 sv c.2.length (c.2.map Value.string)
theorem RC.none (B : Nat) (w : World) : RC B w noC (.agg #[.string ⟨#[]⟩, .slice none 0 0]) := ⟨_, rfl, World.ownsRow_nil _ _ _ _⟩
theorem RC.below {B : Nat} {w w1 : World} {c : Cl} {v : Value} (h : RC B w c v) (hb : Below w.heap.size w w1) : RC B w1 c v := by
  obtain ⟨sv, h1, h2⟩ := h
  exact ⟨sv, h1, own_below h2 hb⟩
theorem EA.set {w : World} {v : Value} {b : Bd} (h : EA w v b) {g i : Nat} {x : ByteArray} (u : Value) (hc : w.cell? ⟨g, 0, none⟩ = some (.string x)) : EA (w.setCell ⟨g, i, none⟩ u) v b := by
  rcases h with h | ⟨h1, k, h2, h3, h4⟩
  · exact .inl h
  · have hne : k ≠ g := fun q => by
      rw [q] at h4
      have := h4.1
      rw [hc] at this
      injection this with this
      cases this
    have hy : ∀ j, (w.setCell ⟨g, i, none⟩ u).cell? ⟨k, j, none⟩ = w.cell? ⟨k, j, none⟩ := fun j => World.cell?_setCell_other (h := fun q => by injection q with q; exact hne q.symm) ..
    exact .inr ⟨h1, k, h2, by simpa using h3, by rw [hy]; exact h4.1, by rw [hy]; exact h4.2.1, by rw [hy]; exact h4.2.2.1, by rw [hy]; exact h4.2.2.2⟩
/-- Storing a call into the variable of the result. -/
theorem set_call {w w6 : World} {v : Value} {b : Bd} {x : ByteArray} {sv : Value} {y : ByteArray} (hB : Below w.heap.size w w6) (hE : EA w6 v b) (h0 : w6.cell? ⟨w.heap.size, 0, none⟩ = some (.string x)) (h1 : (w6.cell? ⟨w.heap.size, 1, none⟩).isSome = true) :
    EA ((w6.setCell ⟨w.heap.size, 0, none⟩ (.string y)).setCell ⟨w.heap.size, 1, none⟩ sv) v b ∧ Below w.heap.size w ((w6.setCell ⟨w.heap.size, 0, none⟩ (.string y)).setCell ⟨w.heap.size, 1, none⟩ sv) ∧ ((w6.setCell ⟨w.heap.size, 0, none⟩ (.string y)).setCell ⟨w.heap.size, 1, none⟩ sv).cell? ⟨w.heap.size, 0, none⟩ = some (.string y) ∧ ((w6.setCell ⟨w.heap.size, 0, none⟩ (.string y)).setCell ⟨w.heap.size, 1, none⟩ sv).cell? ⟨w.heap.size, 1, none⟩ = some sv := by
  have hs : (w6.setCell ⟨w.heap.size, 0, none⟩ (.string y)).cell? ⟨w.heap.size, 0, none⟩ = some (.string y) := World.cell?_setCell_same' _ _ _ (by rw [h0]; rfl)
  have hx : (w6.setCell ⟨w.heap.size, 0, none⟩ (.string y)).cell? ⟨w.heap.size, 1, none⟩ = w6.cell? ⟨w.heap.size, 1, none⟩ := World.cell?_setCell_other (h := fun q => by injection q with _ q; omega) ..
  refine ⟨(hE.set _ h0).set _ hs, (hB.setCell (Nat.le_refl _) _).setCell (Nat.le_refl _) _, ?_, World.cell?_setCell_same' _ _ _ (by rw [hx]; exact h1)⟩
  rw [← hs]
  exact World.cell?_setCell_other (h := fun q => by injection q with _ q; omega) ..
set_option maxHeartbeats 16000000 in
theorem read_long (s : ByteArray) (w : World) (hs : 262144 < s.size) : Calls Tryz.prog 10 #[.string s] w fun e w' => ∃ cv ev, e = .returned (.tuple #[cv, ev]) ∧ RC w.heap.size w' noC cv ∧ EA w' ev (4, ⟨#[]⟩, 0) ∧ Below w.heap.size w w' := by
  have hs' : (262144 : Int) < (s.size : Int) := by omega
  clear hs
  go_enter Tryz.func10, Tryz.ntmps10
  go_wp2_with (fail)
  refine (fault_calls 4 ⟨#[]⟩ 0 _ (by decide)).mono ?_
  rintro e w6 ⟨v, rfl, hE, hb⟩
  have h0 : w6.cell? ⟨w.heap.size, 0, none⟩ = some (.string ⟨#[]⟩) := pw_cell_below hb (by simp)
  have h1 : w6.cell? ⟨w.heap.size, 1, none⟩ = some (.slice none 0 0) := pw_cell_below hb (by simp)
  have y1 := fun (p : Addr) h => hb.frozen (p := p) h
  have HS := Aside0.mk (set_call (y := ⟨#[]⟩) (sv := .slice none 0 0) (below_step (w := w) ((Below.refl _ _).alloc (Nat.le_refl _) _) hb) hE h0 (by rw [h1]; rfl))
  clear hb hE
  go_wp2_with (fail)
  exact bodyPost_ret (res_call Tryz.results10 _ _ w.heap.size _ _ _ rfl rfl HS.out.2.2.1 HS.out.2.2.2) rfl ⟨_, _, rfl, RC.none _ _, HS.out.1, HS.out.2.1⟩
set_option maxHeartbeats 16000000 in
theorem read_over (s : ByteArray) (w : World) (hs : s.size ≤ 262144) (ho : overF (tl s) = true) : Calls Tryz.prog 10 #[.string s] w fun e w' => ∃ cv ev, e = .returned (.tuple #[cv, ev]) ∧ RC w.heap.size w' noC cv ∧ EA w' ev (300, ⟨#[]⟩, 0) ∧ Below w.heap.size w w' := by
  have hs' : ¬ (262144 : Int) < (s.size : Int) := by omega
  have HO : Aside0 (∀ W, Calls Tryz.prog 29 #[.string s] W fun e w' => e = .returned (.bool true) ∧ W = w') := ⟨fun W => by have := over_calls s W; rw [ho] at this; exact this⟩
  clear hs ho
  go_enter Tryz.func10, Tryz.ntmps10
  go_wp2_with (fail)
  refine (HO.out _).mono ?_
  rintro e w5 ⟨rfl, rfl⟩
  go_wp2_with (fail)
  refine (fault_calls 300 ⟨#[]⟩ 0 _ (by decide)).mono ?_
  rintro e w6 ⟨v, rfl, hE, hb⟩
  have h0 : w6.cell? ⟨w.heap.size, 0, none⟩ = some (.string ⟨#[]⟩) := pw_cell_below hb (by simp)
  have h1 : w6.cell? ⟨w.heap.size, 1, none⟩ = some (.slice none 0 0) := pw_cell_below hb (by simp)
  have y1 := fun (p : Addr) h => hb.frozen (p := p) h
  have HS := Aside0.mk (set_call (y := ⟨#[]⟩) (sv := .slice none 0 0) (below_step (w := w) ((Below.refl _ _).alloc (Nat.le_refl _) _) hb) hE h0 (by rw [h1]; rfl))
  clear hb hE
  go_wp2_with (fail)
  exact bodyPost_ret (res_call Tryz.results10 _ _ w.heap.size _ _ _ rfl rfl HS.out.2.2.1 HS.out.2.2.2) rfl ⟨_, _, rfl, RC.none _ _, HS.out.1, HS.out.2.1⟩
end Go.Proofs.YtopcidphlleciaaGreatDoor.S

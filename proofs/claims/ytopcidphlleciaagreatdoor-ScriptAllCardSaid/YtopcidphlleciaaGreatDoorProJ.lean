/- script.Check. -/
import Derived.Test.YtopcidphlleciaaGreatDoorProI
import Derived.Test.YtopcidphlleciaaGreatDoorProH
import Derived.Test.YtopcidphlleciaaGreatDoorScU
import Derived.Deep.RegionHeld3
import Derived.Deep.DeepCutAuto
namespace Go.Proofs.YtopcidphlleciaaGreatDoor.S
open Go.RowKit Go.Extern.Stop Go.Stop Go.Extern Go.Proofs.YtopcidphlleciaaGreatDoorW.PrintWords Go.Proofs.YtopcidphlleciaaGreatDoorW.PrintLast Go.Proofs.YtopcidphlleciaaGreatDoorW.PrintMore
set_option linter.unusedVariables false
set_option linter.unusedSimpArgs false
theorem kinds_small : ∀ {w : ByteArray} {x : Shp}, lkT tab w = some x → x.1.size ≤ 4 ∧ 0 ≤ x.2.1 ∧ x.2.1 ≤ 1 := by
  intro w x h
  have h1 : (tab.all fun e => decide (e.2.1.size ≤ 4 ∧ 0 ≤ e.2.2.1 ∧ e.2.2.1 ≤ 1)) = true := by decide +kernel
  have := List.all_eq_true.1 h1 _ (lkT_mem _ h)
  exact of_decide_eq_true this
/-- What the lookup leaves. -/
def TopC (w wx : World) (word : ByteArray) (a : Option Addr) (n c g : Nat) (xk : ByteArray) (xl : Int) (xm : Bool) : Prop :=
  wx.cell? ⟨g, 0, none⟩ = some (.string xk) ∧ wx.cell? ⟨g, 1, none⟩ = some (.int .i64 xl) ∧ wx.cell? ⟨g, 2, none⟩ = some (.bool xm) ∧ wx.cell? ⟨w.heap.size, 0, none⟩ = some (.string word) ∧ wx.cell? ⟨w.heap.size, 1, none⟩ = some (.slice a n c) ∧ Below w.heap.size w wx
theorem TopC.below {w wx wy : World} {word : ByteArray} {a : Option Addr} {n c g : Nat} {xk : ByteArray} {xl : Int} {xm : Bool} (h : TopC w wx word a n c g xk xl xm) (hb : Below wx.heap.size wx wy) : TopC w wy word a n c g xk xl xm :=
  ⟨pw_cell_below hb h.1, pw_cell_below hb h.2.1, pw_cell_below hb h.2.2.1, pw_cell_below hb h.2.2.2.1, pw_cell_below hb h.2.2.2.2.1, below_step (w := w) h.2.2.2.2.2 hb⟩
theorem top_alloc {w w5 : World} {word : ByteArray} {a : Option Addr} {n c : Nat} {xk : ByteArray} {xl : Int} {xm : Bool} {T : TypeId} (hW : Below w.heap.size w w5) (hz : w.heap.size < w5.heap.size) (z1 : w5.cell? ⟨w.heap.size, 0, none⟩ = some (.string word)) (z2 : w5.cell? ⟨w.heap.size, 1, none⟩ = some (.slice a n c)) :
    TopC w (w5.alloc (.cells #[.string xk, .int .i64 xl, .bool xm] T)) word a n c w5.heap.size xk xl xm :=
  ⟨by simp, by simp, by simp, pw_cell_below ((Below.refl _ _).alloc (Nat.le_refl _) _) z1, pw_cell_below ((Below.refl _ _).alloc (Nat.le_refl _) _) z2, hW.alloc (Nat.le_of_lt hz) _⟩
theorem top_set {w w5 : World} {word : ByteArray} {a : Option Addr} {n c g : Nat} {xk : ByteArray} {xl : Int} {xm : Bool} (hW : Below w.heap.size w w5) (hg : w.heap.size < g) (c0 : (w5.cell? ⟨g, 0, none⟩).isSome = true) (c1 : (w5.cell? ⟨g, 1, none⟩).isSome = true) (c2 : (w5.cell? ⟨g, 2, none⟩).isSome = true) (z1 : w5.cell? ⟨w.heap.size, 0, none⟩ = some (.string word)) (z2 : w5.cell? ⟨w.heap.size, 1, none⟩ = some (.slice a n c)) :
    TopC w (((w5.setCell ⟨g, 0, none⟩ (.string xk)).setCell ⟨g, 1, none⟩ (.int .i64 xl)).setCell ⟨g, 2, none⟩ (.bool xm)) word a n c g xk xl xm := by
  have hne : ∀ i j, (⟨g, j, none⟩ : Addr) ≠ ⟨w.heap.size, i, none⟩ := fun i j q => by injection q with q; omega
  have hx : ∀ (W : World) (i j : Nat) (v : Value), i ≠ j → (W.setCell ⟨g, i, none⟩ v).cell? ⟨g, j, none⟩ = W.cell? ⟨g, j, none⟩ := fun W i j v h => World.cell?_setCell_other (h := fun q => by injection q with _ q; exact h q) ..
  have hy : ∀ (W : World) (i j : Nat) (v : Value), (W.setCell ⟨g, j, none⟩ v).cell? ⟨w.heap.size, i, none⟩ = W.cell? ⟨w.heap.size, i, none⟩ := fun W i j v => World.cell?_setCell_other (h := hne i j) ..
  refine ⟨?_, ?_, ?_, ?_, ?_, ((hW.setCell (Nat.le_of_lt hg) _).setCell (Nat.le_of_lt hg) _).setCell (Nat.le_of_lt hg) _⟩
  · rw [hx _ _ _ _ (by omega), hx _ _ _ _ (by omega), World.cell?_setCell_same' _ _ _ c0]
  · rw [hx _ _ _ _ (by omega), World.cell?_setCell_same' _ _ _ (by rw [hx _ _ _ _ (by omega)]; exact c1)]
  · rw [World.cell?_setCell_same' _ _ _ (by rw [hx _ _ _ _ (by omega), hx _ _ _ _ (by omega)]; exact c2)]
  · rw [hy, hy, hy, z1]
  · rw [hy, hy, hy, z2]
set_option maxHeartbeats 16000000 in
set_option maxRecDepth 100000 in
theorem check_none (word : ByteArray) (a : Option Addr) (n c : Nat) (w : World) (hw : word.size ≤ 140737488351232) (hl : lkT tab word = none) : Calls Tryz.prog 21 #[.agg #[.string word, .slice a n c]] w fun e w' => ∃ v, e = .returned v ∧ EA w' v (301, word, -1) ∧ Below w.heap.size w w' := by
  have HS : Aside0 (∀ w : World, Calls Tryz.prog 46 #[] w fun e w' => ∃ b, e = .returned (.map (some b)) ∧ w.heap.size ≤ b ∧ MapT w' b tab ∧ Below w.heap.size w w') := ⟨shapes_calls⟩
  have hwm : word.size ≤ maxLen := by unfold maxLen; omega
  have HK : Aside0 (∀ (W : World) b, MapT W b tab → (Instr.lookup 94 (.map (some b)) (.string word) true).run Tryz.prog W = .ok (.tuple #[.agg #[.string ⟨#[]⟩, .int .i64 0, .bool false], .bool false]) W) := ⟨fun W b hM => by
    have := hM.look_ok word hwm
    rw [hl] at this
    exact this⟩
  clear hl hwm
  go_enter Tryz.func21, Tryz.ntmps21
  go_wp2_with (fail)
  go_upto_region 1 with fail
  go_cut [3, 4] (fun v3 v4 wx => ∃ g, v3 = .pointer (some ⟨g, 0, none⟩) ∧ v4 = .bool false ∧ Aside0 (TopC w wx word a n c g ⟨#[]⟩ 0 false))
  case first =>
    go_region_held3 (fun w' => w'.cell? ⟨w.heap.size, 0, none⟩ = some (.string word)) (first | exact z1 | go_keep) (first
      | (go_at_call 46; refine (HS.out _).mono ?_; rintro e w5 ⟨b, rfl, hbs, hM, hb⟩; have HM5 := Aside0.mk hM; have z1 : w5.cell? ⟨w.heap.size, 0, none⟩ = some (.string word) := pw_cell_below hb (by simp); have y0 := fun (p : Addr) h => hb.cell (p := p) h; have y1 := fun (p : Addr) h => hb.frozen (p := p) h; have z2 : w5.cell? ⟨w.heap.size, 1, none⟩ = some (.slice a n c) := pw_cell_below hb (by simp); have hz5 : w.heap.size < w5.heap.size := Nat.lt_of_lt_of_le (by first | (simp; done) | (simp; omega)) hb.size; have hn5 : w.heap.size ≠ w5.heap.size := Nat.ne_of_lt hz5; have HW := Aside0.mk (below_step (w := w) (by first | exact below_drew1 ((Below.refl _ _).alloc (Nat.le_refl _) _) | exact below_drew1 (((Below.refl _ _).alloc (Nat.le_refl _) _).alloc (by simp) _) | exact (below_drew1 ((Below.refl _ _).alloc (Nat.le_refl _) _)).alloc (by simp) _ | exact (Below.refl _ _).alloc (Nat.le_refl _) _ | exact ((Below.refl _ _).alloc (Nat.le_refl _) _).alloc (by simp) _) hb); have hlk0 := HK.out w5 b hM; have hlk1 := fun o => HK.out (w5.alloc o) b (hM.below ((Below.refl _ _).alloc (Nat.le_refl _) o)); clear hM hb))
    all_goals
      go_wp2_with (fail)
      go_meet
      first
        | exact ⟨_, rfl, rfl, ⟨top_alloc HW.out hz5 z1 z2⟩⟩
        | exact ⟨_, rfl, rfl, ⟨top_set HW.out (Nat.lt_succ_self _) (by rw [y0 _ (by simp)]; simp) (by rw [y0 _ (by simp)]; simp) (by rw [y0 _ (by simp)]; simp) z1 z2⟩⟩
  case rest =>
    obtain ⟨g, rfl, rfl, HC⟩ := hcut
    have c3 := HC.out.2.2.2.1
    go_wp2_with (fail)
    refine (fault_calls 301 word (-1) _ (by decide)).mono ?_
    rintro e w6 ⟨v, rfl, hE, hb⟩
    go_wp2_with (fail)
    go_ret
    exact ⟨_, rfl, hE, below_step (w := w) HC.out.2.2.2.2.2 hb⟩
end Go.Proofs.YtopcidphlleciaaGreatDoor.S

/- The walks of version.Least, of the document's Least, and of version.Release. -/
import Derived.Test.YtoiibjipjlkaeaaDoorNextA
import Derived.Test.YtoiibjipjlkaeaaDoorLawOA
import Derived.Test.YtoiibjipjlkaeaaDoorPureB
import Derived.ArgAppend
namespace Go.Proofs.YtoiibjipjlkaeaaDoor.PV
open Go.RowKit Go.Proofs.YtoiibjipjlkaeaaDoorW.PrintWords Go.Proofs.YtoiibjipjlkaeaaDoorW.PrintLast Go.Proofs.YtoiibjipjlkaeaaDoorW.PrintMore
attribute [local go_sem] max2_int min2_int max_two min_two max_three min_three max_four min_four   -- for this text's walks alone
set_option linter.unusedVariables false
set_option linter.unusedSimpArgs false

set_option maxRecDepth 100000 in
theorem clip1_calls (g cap : Nat) (h : 1 ≤ cap) (W : World) : Calls Tryd.prog 52 #[.slice (some ⟨g, 0, none⟩) 1 cap] W fun e w' => e = .returned (.slice (some ⟨g, 0, none⟩) 1 1) ∧ W = w' := by
  have h1 : (1 : Int) ≤ (cap : Int) := by omega
  go_enter Tryd.func52, Tryd.ntmps52
  go_wp2
  exact bodyPost_ret (results_single Tryd.results52 (.tmp .nil)) rfl ⟨rfl, rfl⟩
theorem own_one {W : World} {base : Nat} {v x : Value} (h : W.ownsRow base 9 1 v (0 + 1) ([] ++ [x])) : ∃ g cap, v = .slice (some ⟨g, 0, none⟩) 1 cap ∧ 1 ≤ cap ∧ base ≤ g ∧ g < W.heap.size ∧ W.cell? ⟨g, 0, none⟩ = some x ∧ W.frozen? ⟨g, 0, none⟩ = false := by
  have hc := h
  rcases h.2 with ⟨_, h2⟩ | ⟨g, cap, cur, rfl, hg, hh, hcap, _⟩
  · cases h2
  · have hcell := World.ownsRow.cells hc (g := g) rfl 0 x rfl
    rw [addr_add] at hcell
    refine ⟨g, cap, rfl, by omega, hg, ?_, hcell, ?_⟩
    · exact World.block_lt_of_cell? W _ hcell
    · simp [World.frozen?, hh]
theorem grown_below {w W w1 : World} (hg : W.grownBy w1 none) (hb : Below w.heap.size w W) : Below w.heap.size w w1 := hb.grown hg hb.size (fun _ h => by cases h)
set_option maxHeartbeats 8000000 in
set_option maxRecDepth 100000 in
theorem least_no (a b c : Int) (A : Option Addr) (cA : Nat) (l : List ByteArray) (w : World) (hA : Kd.C Kd.string w A l.length l) (hcA : l.length ≤ cA) (hG : GW w) (hm : mayV a b c l = false) :
    Calls Tryd.prog 23 #[.agg #[.int .u32 a, .int .u32 b, .int .u32 c, .slice A l.length cA]] w fun e w' => e = .returned (.tuple #[.agg #[.int .u32 0, .int .u32 0, .int .u32 0, .slice none 0 0], .int .i64 70]) ∧ Below w.heap.size w w' := by
  have HA := Aside0.mk hA
  have HG := Aside0.mk hG
  clear hA hG
  go_enter Tryd.func23, Tryd.ntmps23
  go_wp2_with (fail)
  refine (version_May.calls a b c A cA l 70 _ (Kd.C_alloc (Kd.C_alloc HA.out _) _) hcA (by first | exact HG.out | exact GW.below HG.out (by repeat (first | exact Below.refl _ _ | exact HB9.out | exact HB8.out | exact HB7.out | exact HB6.out | exact HB5.out | exact HB4.out | exact HB3.out | exact HB2.out | exact HB1.out | exact HB.out | (refine Below.alloc ?_ (by first | exact HB9.out.size | exact HB8.out.size | exact HB7.out.size | exact HB6.out.size | exact HB5.out.size | exact HB4.out.size | exact HB3.out.size | exact HB2.out.size | exact HB1.out.size | exact HB.out.size | (simp; done) | (simp <;> omega)) _) | apply pw_below_drewN | apply below_drew1 | (refine Below.setCell ?_ (by first | (simp; done) | (simp <;> omega) | omega) _)))) (may_f0 hm)).mono ?_
  rintro e w1 ⟨rfl, hb1⟩
  have hza1 : w.heap.size < w1.heap.size := by have := hb1.size; (try simp at this); omega
  have hzb1 : w.heap.size + 1 < w1.heap.size := by have := hb1.size; (try simp at this); omega
  have HB1 := Aside0.mk (below_step (w := w) (by repeat (first | exact Below.refl _ _ | exact HB9.out | exact HB8.out | exact HB7.out | exact HB6.out | exact HB5.out | exact HB4.out | exact HB3.out | exact HB2.out | exact HB1.out | exact HB.out | (refine Below.alloc ?_ (by first | exact HB9.out.size | exact HB8.out.size | exact HB7.out.size | exact HB6.out.size | exact HB5.out.size | exact HB4.out.size | exact HB3.out.size | exact HB2.out.size | exact HB1.out.size | exact HB.out.size | (simp; done) | (simp <;> omega)) _) | apply pw_below_drewN | apply below_drew1 | (refine Below.setCell ?_ (by first | (simp; done) | (simp <;> omega) | omega) _))) hb1); obtain ⟨hc1, hf1⟩ := bcell hb1; have hz1 := hb1.size; (try simp at hz1); clear hb1
  go_wp2
  have c0 : ((((w1.setCell ⟨w.heap.size + 1, 0, none⟩ (.int .u32 0)).setCell ⟨w.heap.size + 1, 1, none⟩ (.int .u32 0)).setCell ⟨w.heap.size + 1, 2, none⟩ (.int .u32 0)).setCell ⟨w.heap.size + 1, 3, none⟩ (.slice none 0 0)).cell? ⟨w.heap.size + 1, 0, none⟩ = some (.int .u32 0) := by go_simp
  have c1 : ((((w1.setCell ⟨w.heap.size + 1, 0, none⟩ (.int .u32 0)).setCell ⟨w.heap.size + 1, 1, none⟩ (.int .u32 0)).setCell ⟨w.heap.size + 1, 2, none⟩ (.int .u32 0)).setCell ⟨w.heap.size + 1, 3, none⟩ (.slice none 0 0)).cell? ⟨w.heap.size + 1, 1, none⟩ = some (.int .u32 0) := by go_simp
  have c2 : ((((w1.setCell ⟨w.heap.size + 1, 0, none⟩ (.int .u32 0)).setCell ⟨w.heap.size + 1, 1, none⟩ (.int .u32 0)).setCell ⟨w.heap.size + 1, 2, none⟩ (.int .u32 0)).setCell ⟨w.heap.size + 1, 3, none⟩ (.slice none 0 0)).cell? ⟨w.heap.size + 1, 2, none⟩ = some (.int .u32 0) := by go_simp
  have c3 : ((((w1.setCell ⟨w.heap.size + 1, 0, none⟩ (.int .u32 0)).setCell ⟨w.heap.size + 1, 1, none⟩ (.int .u32 0)).setCell ⟨w.heap.size + 1, 2, none⟩ (.int .u32 0)).setCell ⟨w.heap.size + 1, 3, none⟩ (.slice none 0 0)).cell? ⟨w.heap.size + 1, 3, none⟩ = some (.slice none 0 0) := by go_simp
  refine bodyPost_ret (retC Tryd.results23 _ ((((w1.setCell ⟨w.heap.size + 1, 0, none⟩ (.int .u32 0)).setCell ⟨w.heap.size + 1, 1, none⟩ (.int .u32 0)).setCell ⟨w.heap.size + 1, 2, none⟩ (.int .u32 0)).setCell ⟨w.heap.size + 1, 3, none⟩ (.slice none 0 0)) (w.heap.size + 1) _ _ _ _ _ rfl rfl c0 c1 c2 c3) rfl ⟨rfl, ?_⟩
  refine Below.setCell (Below.setCell (Below.setCell (Below.setCell HB1.out ?_ _) ?_ _) ?_ _) ?_ _ <;> simp
set_option maxHeartbeats 8000000 in
set_option maxRecDepth 100000 in
theorem least_ok (a b c : Int) (A : Option Addr) (cA : Nat) (l : List ByteArray) (w : World) (hA : Kd.C Kd.string w A l.length l) (hcA : l.length ≤ cA) (hG : GW w) (hm : mayV a b c l = true) :
    Calls Tryd.prog 23 #[.agg #[.int .u32 a, .int .u32 b, .int .u32 c, .slice A l.length cA]] w fun e w' => ∃ g, e = .returned (.tuple #[.agg #[.int .u32 a, .int .u32 b, .int .u32 c, .slice (some ⟨g, 0, none⟩) 1 1], .int .i64 0]) ∧ w.heap.size ≤ g ∧ g < w'.heap.size ∧ w'.cell? ⟨g, 0, none⟩ = some (.string zeroB) ∧ w'.frozen? ⟨g, 0, none⟩ = false ∧ Below w.heap.size w w' := by
  have HA := Aside0.mk hA
  have HG := Aside0.mk hG
  clear hA hG
  have hinfo : (Tryd.prog.info? 9).map (fun i => (i.zero, i.size, i.bytes)) = some (some (.string ⟨#[]⟩), 1, 16) := by kernel_rfl
  obtain ⟨i0, hi, hzz⟩ := Option.map_eq_some_iff.1 hinfo
  simp only [Prod.mk.injEq] at hzz
  obtain ⟨hiz, his, hib⟩ := hzz
  clear hinfo
  go_enter Tryd.func23, Tryd.ntmps23
  go_wp2_with (fail)
  refine (version_May.calls a b c A cA l 0 _ (Kd.C_alloc (Kd.C_alloc HA.out _) _) hcA (by first | exact HG.out | exact GW.below HG.out (by repeat (first | exact Below.refl _ _ | exact HB9.out | exact HB8.out | exact HB7.out | exact HB6.out | exact HB5.out | exact HB4.out | exact HB3.out | exact HB2.out | exact HB1.out | exact HB.out | (refine Below.alloc ?_ (by first | exact HB9.out.size | exact HB8.out.size | exact HB7.out.size | exact HB6.out.size | exact HB5.out.size | exact HB4.out.size | exact HB3.out.size | exact HB2.out.size | exact HB1.out.size | exact HB.out.size | (simp; done) | (simp <;> omega)) _) | apply pw_below_drewN | apply below_drew1 | (refine Below.setCell ?_ (by first | (simp; done) | (simp <;> omega) | omega) _)))) (may_f1 hm)).mono ?_
  rintro e w1 ⟨rfl, hb1⟩
  have hza1 : w.heap.size < w1.heap.size := by have := hb1.size; (try simp at this); omega
  have hzb1 : w.heap.size + 1 < w1.heap.size := by have := hb1.size; (try simp at this); omega
  have HB1 := Aside0.mk (below_step (w := w) (by repeat (first | exact Below.refl _ _ | exact HB9.out | exact HB8.out | exact HB7.out | exact HB6.out | exact HB5.out | exact HB4.out | exact HB3.out | exact HB2.out | exact HB1.out | exact HB.out | (refine Below.alloc ?_ (by first | exact HB9.out.size | exact HB8.out.size | exact HB7.out.size | exact HB6.out.size | exact HB5.out.size | exact HB4.out.size | exact HB3.out.size | exact HB2.out.size | exact HB1.out.size | exact HB.out.size | (simp; done) | (simp <;> omega)) _) | apply pw_below_drewN | apply below_drew1 | (refine Below.setCell ?_ (by first | (simp; done) | (simp <;> omega) | omega) _))) hb1); obtain ⟨hc1, hf1⟩ := bcell hb1; have hz1 := hb1.size; (try simp at hz1); clear hb1
  go_wp2_with (first | (at_builtin; go_loud (refine wpList_append_grows _ rfl (.tmp 10) (.tmp 11) 30 rfl 9 i0 (.string ⟨#[]⟩) 1 16 rfl hi hiz his hib rfl (by decide) A 0 0 [] rfl (fun _ => ⟨rfl, rfl⟩) rfl (fun _ _ j u h => by simp at h) ⟨w1.heap.size, 0, none⟩ 1 1 [.string ⟨#[48]⟩] rfl rfl (fun j u h => by cases j with | zero => (cases h; rw [addr_add]; go_simp) | succ j => simp at h) (fun u hu => by simp at hu; subst hu; rfl) (by decide) (by decide) (by decide) ?_; intro v2 w2 hown hg; obtain ⟨g, cap, rfl, hcap, hgb, hgl, hgc, hgf⟩ := own_one hown; have HB2 := Aside0.mk (grown_below (w := w) hg (by repeat (first | exact Below.refl _ _ | exact HB9.out | exact HB8.out | exact HB7.out | exact HB6.out | exact HB5.out | exact HB4.out | exact HB3.out | exact HB2.out | exact HB1.out | exact HB.out | (refine Below.alloc ?_ (by first | exact HB9.out.size | exact HB8.out.size | exact HB7.out.size | exact HB6.out.size | exact HB5.out.size | exact HB4.out.size | exact HB3.out.size | exact HB2.out.size | exact HB1.out.size | exact HB.out.size | (simp; done) | (simp <;> omega)) _) | apply pw_below_drewN | apply below_drew1 | (refine Below.setCell ?_ (by first | (simp; done) | (simp <;> omega) | omega) _)))); have q0 : w2.cell? ⟨w.heap.size, 0, none⟩ = some (.int .u32 a) := (grown_cell hg rfl _ _ (by simp <;> omega)).trans (by go_simp); have qf0 : w2.frozen? ⟨w.heap.size, 0, none⟩ = false := (grown_frozen hg rfl _ _ (by simp <;> omega)).trans (by go_simp); have q1 : w2.cell? ⟨w.heap.size, 1, none⟩ = some (.int .u32 b) := (grown_cell hg rfl _ _ (by simp <;> omega)).trans (by go_simp); have qf1 : w2.frozen? ⟨w.heap.size, 1, none⟩ = false := (grown_frozen hg rfl _ _ (by simp <;> omega)).trans (by go_simp); have q2 : w2.cell? ⟨w.heap.size, 2, none⟩ = some (.int .u32 c) := (grown_cell hg rfl _ _ (by simp <;> omega)).trans (by go_simp); have qf2 : w2.frozen? ⟨w.heap.size, 2, none⟩ = false := (grown_frozen hg rfl _ _ (by simp <;> omega)).trans (by go_simp); have q3 : w2.cell? ⟨w.heap.size, 3, none⟩ = some (.slice A l.length cA) := (grown_cell hg rfl _ _ (by simp <;> omega)).trans (by go_simp); have qf3 : w2.frozen? ⟨w.heap.size, 3, none⟩ = false := (grown_frozen hg rfl _ _ (by simp <;> omega)).trans (by go_simp); have z0 : w2.cell? ⟨w.heap.size + 1, 0, none⟩ = some (.int .u32 0) := (grown_cell hg rfl _ _ (by simp <;> omega)).trans (by go_simp); have zf0 : w2.frozen? ⟨w.heap.size + 1, 0, none⟩ = false := (grown_frozen hg rfl _ _ (by simp <;> omega)).trans (by go_simp); have z1 : w2.cell? ⟨w.heap.size + 1, 1, none⟩ = some (.int .u32 0) := (grown_cell hg rfl _ _ (by simp <;> omega)).trans (by go_simp); have zf1 : w2.frozen? ⟨w.heap.size + 1, 1, none⟩ = false := (grown_frozen hg rfl _ _ (by simp <;> omega)).trans (by go_simp); have z2 : w2.cell? ⟨w.heap.size + 1, 2, none⟩ = some (.int .u32 0) := (grown_cell hg rfl _ _ (by simp <;> omega)).trans (by go_simp); have zf2 : w2.frozen? ⟨w.heap.size + 1, 2, none⟩ = false := (grown_frozen hg rfl _ _ (by simp <;> omega)).trans (by go_simp); have z3 : w2.cell? ⟨w.heap.size + 1, 3, none⟩ = some (.slice none 0 0) := (grown_cell hg rfl _ _ (by simp <;> omega)).trans (by go_simp); have zf3 : w2.frozen? ⟨w.heap.size + 1, 3, none⟩ = false := (grown_frozen hg rfl _ _ (by simp <;> omega)).trans (by go_simp); have hzc2 : w1.heap.size < w2.heap.size := (by have := hg.size; simp at this; omega); clear hown hg)) | (go_at_call 52; refine (clip1_calls _ _ hcap _).mono ?_; rintro e w3 ⟨rfl, rfl⟩))
  have hgb2 : w1.heap.size + 1 ≤ g := by simpa using hgb
  have c0 : ((((((w2.setCell ⟨w.heap.size, 3, none⟩ (.slice (some ⟨g, 0, none⟩) 1 cap)).setCell ⟨w.heap.size, 3, none⟩ (.slice (some ⟨g, 0, none⟩) 1 1)).setCell ⟨w.heap.size + 1, 0, none⟩ (.int .u32 a)).setCell ⟨w.heap.size + 1, 1, none⟩ (.int .u32 b)).setCell ⟨w.heap.size + 1, 2, none⟩ (.int .u32 c)).setCell ⟨w.heap.size + 1, 3, none⟩ (.slice (some ⟨g, 0, none⟩) 1 1)).cell? ⟨w.heap.size + 1, 0, none⟩ = some (.int .u32 a) := by go_simp
  have c1 : ((((((w2.setCell ⟨w.heap.size, 3, none⟩ (.slice (some ⟨g, 0, none⟩) 1 cap)).setCell ⟨w.heap.size, 3, none⟩ (.slice (some ⟨g, 0, none⟩) 1 1)).setCell ⟨w.heap.size + 1, 0, none⟩ (.int .u32 a)).setCell ⟨w.heap.size + 1, 1, none⟩ (.int .u32 b)).setCell ⟨w.heap.size + 1, 2, none⟩ (.int .u32 c)).setCell ⟨w.heap.size + 1, 3, none⟩ (.slice (some ⟨g, 0, none⟩) 1 1)).cell? ⟨w.heap.size + 1, 1, none⟩ = some (.int .u32 b) := by go_simp
  have c2 : ((((((w2.setCell ⟨w.heap.size, 3, none⟩ (.slice (some ⟨g, 0, none⟩) 1 cap)).setCell ⟨w.heap.size, 3, none⟩ (.slice (some ⟨g, 0, none⟩) 1 1)).setCell ⟨w.heap.size + 1, 0, none⟩ (.int .u32 a)).setCell ⟨w.heap.size + 1, 1, none⟩ (.int .u32 b)).setCell ⟨w.heap.size + 1, 2, none⟩ (.int .u32 c)).setCell ⟨w.heap.size + 1, 3, none⟩ (.slice (some ⟨g, 0, none⟩) 1 1)).cell? ⟨w.heap.size + 1, 2, none⟩ = some (.int .u32 c) := by go_simp
  have c3 : ((((((w2.setCell ⟨w.heap.size, 3, none⟩ (.slice (some ⟨g, 0, none⟩) 1 cap)).setCell ⟨w.heap.size, 3, none⟩ (.slice (some ⟨g, 0, none⟩) 1 1)).setCell ⟨w.heap.size + 1, 0, none⟩ (.int .u32 a)).setCell ⟨w.heap.size + 1, 1, none⟩ (.int .u32 b)).setCell ⟨w.heap.size + 1, 2, none⟩ (.int .u32 c)).setCell ⟨w.heap.size + 1, 3, none⟩ (.slice (some ⟨g, 0, none⟩) 1 1)).cell? ⟨w.heap.size + 1, 3, none⟩ = some (.slice (some ⟨g, 0, none⟩) 1 1) := by go_simp
  have hcg : ((((((w2.setCell ⟨w.heap.size, 3, none⟩ (.slice (some ⟨g, 0, none⟩) 1 cap)).setCell ⟨w.heap.size, 3, none⟩ (.slice (some ⟨g, 0, none⟩) 1 1)).setCell ⟨w.heap.size + 1, 0, none⟩ (.int .u32 a)).setCell ⟨w.heap.size + 1, 1, none⟩ (.int .u32 b)).setCell ⟨w.heap.size + 1, 2, none⟩ (.int .u32 c)).setCell ⟨w.heap.size + 1, 3, none⟩ (.slice (some ⟨g, 0, none⟩) 1 1)).cell? ⟨g, 0, none⟩ = some (.string zeroB) := (World.cell?_setCell_other _ _ _ _ (by intro h; simp at h <;> omega)).trans ((World.cell?_setCell_other _ _ _ _ (by intro h; simp at h <;> omega)).trans ((World.cell?_setCell_other _ _ _ _ (by intro h; simp at h <;> omega)).trans ((World.cell?_setCell_other _ _ _ _ (by intro h; simp at h <;> omega)).trans ((World.cell?_setCell_other _ _ _ _ (by intro h; simp at h <;> omega)).trans ((World.cell?_setCell_other _ _ _ _ (by intro h; simp at h <;> omega)).trans (hgc))))))
  have hfg : ((((((w2.setCell ⟨w.heap.size, 3, none⟩ (.slice (some ⟨g, 0, none⟩) 1 cap)).setCell ⟨w.heap.size, 3, none⟩ (.slice (some ⟨g, 0, none⟩) 1 1)).setCell ⟨w.heap.size + 1, 0, none⟩ (.int .u32 a)).setCell ⟨w.heap.size + 1, 1, none⟩ (.int .u32 b)).setCell ⟨w.heap.size + 1, 2, none⟩ (.int .u32 c)).setCell ⟨w.heap.size + 1, 3, none⟩ (.slice (some ⟨g, 0, none⟩) 1 1)).frozen? ⟨g, 0, none⟩ = false := by go_simp
  have hsz : g < ((((((w2.setCell ⟨w.heap.size, 3, none⟩ (.slice (some ⟨g, 0, none⟩) 1 cap)).setCell ⟨w.heap.size, 3, none⟩ (.slice (some ⟨g, 0, none⟩) 1 1)).setCell ⟨w.heap.size + 1, 0, none⟩ (.int .u32 a)).setCell ⟨w.heap.size + 1, 1, none⟩ (.int .u32 b)).setCell ⟨w.heap.size + 1, 2, none⟩ (.int .u32 c)).setCell ⟨w.heap.size + 1, 3, none⟩ (.slice (some ⟨g, 0, none⟩) 1 1)).heap.size := by simp; exact hgl
  refine bodyPost_ret (retC Tryd.results23 _ ((((((w2.setCell ⟨w.heap.size, 3, none⟩ (.slice (some ⟨g, 0, none⟩) 1 cap)).setCell ⟨w.heap.size, 3, none⟩ (.slice (some ⟨g, 0, none⟩) 1 1)).setCell ⟨w.heap.size + 1, 0, none⟩ (.int .u32 a)).setCell ⟨w.heap.size + 1, 1, none⟩ (.int .u32 b)).setCell ⟨w.heap.size + 1, 2, none⟩ (.int .u32 c)).setCell ⟨w.heap.size + 1, 3, none⟩ (.slice (some ⟨g, 0, none⟩) 1 1)) (w.heap.size + 1) _ _ _ _ _ rfl rfl c0 c1 c2 c3) rfl ⟨g, rfl, by omega, hsz, hcg, hfg, ?_⟩
  refine Below.setCell (Below.setCell (Below.setCell (Below.setCell (Below.setCell (Below.setCell HB2.out ?_ _) ?_ _) ?_ _) ?_ _) ?_ _) ?_ _ <;> simp
theorem C_one {W : World} {g : Nat} {x : ByteArray} (h : W.cell? ⟨g, 0, none⟩ = some (.string x)) : Kd.C Kd.string W (some ⟨g, 0, none⟩) 1 [x] := by
  refine ⟨rfl, by omega, fun _ => ⟨_, rfl, fun j p hj => ⟨[.string p], rfl, rfl, fun i u hi => ?_⟩⟩⟩
  have hi0 : i = 0 := by
    have := (List.getElem?_eq_some_iff.1 hi).1
    simp at this; omega
  have hj0 : j = 0 := by
    have := (List.getElem?_eq_some_iff.1 hj).1
    simp at this; omega
  subst hi0 hj0
  have hu : Value.string p = u := by simpa using hi
  subst hu
  have hp : x = p := by simpa using hj
  subst hp
  rw [addr_add]
  exact h
set_option maxHeartbeats 8000000 in
set_option maxRecDepth 100000 in
theorem rleast_calls (a b c : Int) (A : Option Addr) (cA : Nat) (l : List ByteArray) (w : World) :
    Calls Tryd.prog 24 #[.agg #[.int .u32 a, .int .u32 b, .int .u32 c, .slice A l.length cA]] w fun e w' => ∃ g, e = .returned (.agg #[.int .u32 a, .int .u32 b, .int .u32 c, .slice (some ⟨g, 0, none⟩) 1 1]) ∧ Kd.C Kd.string w' (some ⟨g, 0, none⟩) 1 [zeroB] ∧ Below w.heap.size w w' := by
  go_enter Tryd.func24, Tryd.ntmps24
  go_wp2
  have c0 : (((w.alloc (.cells #[.int .u32 a, .int .u32 b, .int .u32 c, .slice (some ⟨w.heap.size + 1 + 1, 0, none⟩) 1 1] 32)).alloc (.cells #[.int .u32 a, .int .u32 b, .int .u32 c, .slice (some ⟨w.heap.size + 1 + 1, 0, none⟩) 1 1] 32)).alloc (.cells #[.string ⟨#[48]⟩] 9)).cell? ⟨w.heap.size + 1, 0, none⟩ = some (.int .u32 a) := by go_simp
  have c1 : (((w.alloc (.cells #[.int .u32 a, .int .u32 b, .int .u32 c, .slice (some ⟨w.heap.size + 1 + 1, 0, none⟩) 1 1] 32)).alloc (.cells #[.int .u32 a, .int .u32 b, .int .u32 c, .slice (some ⟨w.heap.size + 1 + 1, 0, none⟩) 1 1] 32)).alloc (.cells #[.string ⟨#[48]⟩] 9)).cell? ⟨w.heap.size + 1, 1, none⟩ = some (.int .u32 b) := by go_simp
  have c2 : (((w.alloc (.cells #[.int .u32 a, .int .u32 b, .int .u32 c, .slice (some ⟨w.heap.size + 1 + 1, 0, none⟩) 1 1] 32)).alloc (.cells #[.int .u32 a, .int .u32 b, .int .u32 c, .slice (some ⟨w.heap.size + 1 + 1, 0, none⟩) 1 1] 32)).alloc (.cells #[.string ⟨#[48]⟩] 9)).cell? ⟨w.heap.size + 1, 2, none⟩ = some (.int .u32 c) := by go_simp
  have c3 : (((w.alloc (.cells #[.int .u32 a, .int .u32 b, .int .u32 c, .slice (some ⟨w.heap.size + 1 + 1, 0, none⟩) 1 1] 32)).alloc (.cells #[.int .u32 a, .int .u32 b, .int .u32 c, .slice (some ⟨w.heap.size + 1 + 1, 0, none⟩) 1 1] 32)).alloc (.cells #[.string ⟨#[48]⟩] 9)).cell? ⟨w.heap.size + 1, 3, none⟩ = some (.slice (some ⟨w.heap.size + 1 + 1, 0, none⟩) 1 1) := by go_simp
  have hcg : (((w.alloc (.cells #[.int .u32 a, .int .u32 b, .int .u32 c, .slice (some ⟨w.heap.size + 1 + 1, 0, none⟩) 1 1] 32)).alloc (.cells #[.int .u32 a, .int .u32 b, .int .u32 c, .slice (some ⟨w.heap.size + 1 + 1, 0, none⟩) 1 1] 32)).alloc (.cells #[.string ⟨#[48]⟩] 9)).cell? ⟨w.heap.size + 1 + 1, 0, none⟩ = some (.string zeroB) := by go_simp; rfl
  exact bodyPost_ret (retC1 Tryd.results24 _ (((w.alloc (.cells #[.int .u32 a, .int .u32 b, .int .u32 c, .slice (some ⟨w.heap.size + 1 + 1, 0, none⟩) 1 1] 32)).alloc (.cells #[.int .u32 a, .int .u32 b, .int .u32 c, .slice (some ⟨w.heap.size + 1 + 1, 0, none⟩) 1 1] 32)).alloc (.cells #[.string ⟨#[48]⟩] 9)) (w.heap.size + 1) _ _ _ _ rfl c0 c1 c2 c3) rfl ⟨w.heap.size + 1 + 1, rfl, C_one hcg, (((Below.refl _ _).alloc (Nat.le_refl _) _).alloc (by simp) _).alloc (by simp <;> omega) _⟩
set_option maxHeartbeats 8000000 in
set_option maxRecDepth 100000 in
theorem release_calls (a b c : Int) (A : Option Addr) (cA : Nat) (l : List ByteArray) (w : World) (hA : Kd.C Kd.string w A l.length l) (hcA : l.length ≤ cA) (hG : GW w) :
    Calls Tryd.prog 22 #[.agg #[.int .u32 a, .int .u32 b, .int .u32 c, .slice A l.length cA]] w fun e w' => e = .returned (.bool (mayV a b c l && decide (l.length = 0))) ∧ Below w.heap.size w w' := by
  have HA := Aside0.mk hA
  have HG := Aside0.mk hG
  clear hA hG
  cases hm : mayV a b c l
  · go_enter Tryd.func22, Tryd.ntmps22
    go_wp2_with (fail)
    refine (version_May.calls a b c A cA l 70 _ (Kd.C_alloc HA.out _) hcA (by first | exact HG.out | exact GW.below HG.out (by repeat (first | exact Below.refl _ _ | exact HB9.out | exact HB8.out | exact HB7.out | exact HB6.out | exact HB5.out | exact HB4.out | exact HB3.out | exact HB2.out | exact HB1.out | exact HB.out | (refine Below.alloc ?_ (by first | exact HB9.out.size | exact HB8.out.size | exact HB7.out.size | exact HB6.out.size | exact HB5.out.size | exact HB4.out.size | exact HB3.out.size | exact HB2.out.size | exact HB1.out.size | exact HB.out.size | (simp; done) | (simp <;> omega)) _) | apply pw_below_drewN | apply below_drew1 | (refine Below.setCell ?_ (by first | (simp; done) | (simp <;> omega) | omega) _)))) (may_f0 hm)).mono ?_
    rintro e w1 ⟨rfl, hb1⟩
    have hza1 : w.heap.size < w1.heap.size := by have := hb1.size; (try simp at this); omega
    have HB1 := Aside0.mk (below_step (w := w) (by repeat (first | exact Below.refl _ _ | exact HB9.out | exact HB8.out | exact HB7.out | exact HB6.out | exact HB5.out | exact HB4.out | exact HB3.out | exact HB2.out | exact HB1.out | exact HB.out | (refine Below.alloc ?_ (by first | exact HB9.out.size | exact HB8.out.size | exact HB7.out.size | exact HB6.out.size | exact HB5.out.size | exact HB4.out.size | exact HB3.out.size | exact HB2.out.size | exact HB1.out.size | exact HB.out.size | (simp; done) | (simp <;> omega)) _) | apply pw_below_drewN | apply below_drew1 | (refine Below.setCell ?_ (by first | (simp; done) | (simp <;> omega) | omega) _))) hb1); obtain ⟨hc1, hf1⟩ := bcell hb1; have hz1 := hb1.size; (try simp at hz1); clear hb1
    go_wp2
    go_ret
    exact ⟨rfl, HB1.out⟩
  · by_cases h0 : l.length = 0
    · have h0'' : (l.length : Int) = 0 := by omega
      rw [decide_eq_true h0]
      clear h0
      go_enter Tryd.func22, Tryd.ntmps22
      go_wp2_with (fail)
      refine (version_May.calls a b c A cA l 0 _ (Kd.C_alloc HA.out _) hcA (by first | exact HG.out | exact GW.below HG.out (by repeat (first | exact Below.refl _ _ | exact HB9.out | exact HB8.out | exact HB7.out | exact HB6.out | exact HB5.out | exact HB4.out | exact HB3.out | exact HB2.out | exact HB1.out | exact HB.out | (refine Below.alloc ?_ (by first | exact HB9.out.size | exact HB8.out.size | exact HB7.out.size | exact HB6.out.size | exact HB5.out.size | exact HB4.out.size | exact HB3.out.size | exact HB2.out.size | exact HB1.out.size | exact HB.out.size | (simp; done) | (simp <;> omega)) _) | apply pw_below_drewN | apply below_drew1 | (refine Below.setCell ?_ (by first | (simp; done) | (simp <;> omega) | omega) _)))) (may_f1 hm)).mono ?_
      rintro e w1 ⟨rfl, hb1⟩
      have hza1 : w.heap.size < w1.heap.size := by have := hb1.size; (try simp at this); omega
      have HB1 := Aside0.mk (below_step (w := w) (by repeat (first | exact Below.refl _ _ | exact HB9.out | exact HB8.out | exact HB7.out | exact HB6.out | exact HB5.out | exact HB4.out | exact HB3.out | exact HB2.out | exact HB1.out | exact HB.out | (refine Below.alloc ?_ (by first | exact HB9.out.size | exact HB8.out.size | exact HB7.out.size | exact HB6.out.size | exact HB5.out.size | exact HB4.out.size | exact HB3.out.size | exact HB2.out.size | exact HB1.out.size | exact HB.out.size | (simp; done) | (simp <;> omega)) _) | apply pw_below_drewN | apply below_drew1 | (refine Below.setCell ?_ (by first | (simp; done) | (simp <;> omega) | omega) _))) hb1); obtain ⟨hc1, hf1⟩ := bcell hb1; have hz1 := hb1.size; (try simp at hz1); clear hb1
      go_wp2
      go_ret
      exact ⟨by first | rfl | (simp; omega), HB1.out⟩
    · have h0' : ((l.length : Int) == 0) = false := beq_eq_false_iff_ne.2 (by omega)
      rw [decide_eq_false h0]
      clear h0
      go_enter Tryd.func22, Tryd.ntmps22
      go_wp2_with (fail)
      refine (version_May.calls a b c A cA l 0 _ (Kd.C_alloc HA.out _) hcA (by first | exact HG.out | exact GW.below HG.out (by repeat (first | exact Below.refl _ _ | exact HB9.out | exact HB8.out | exact HB7.out | exact HB6.out | exact HB5.out | exact HB4.out | exact HB3.out | exact HB2.out | exact HB1.out | exact HB.out | (refine Below.alloc ?_ (by first | exact HB9.out.size | exact HB8.out.size | exact HB7.out.size | exact HB6.out.size | exact HB5.out.size | exact HB4.out.size | exact HB3.out.size | exact HB2.out.size | exact HB1.out.size | exact HB.out.size | (simp; done) | (simp <;> omega)) _) | apply pw_below_drewN | apply below_drew1 | (refine Below.setCell ?_ (by first | (simp; done) | (simp <;> omega) | omega) _)))) (may_f1 hm)).mono ?_
      rintro e w1 ⟨rfl, hb1⟩
      have hza1 : w.heap.size < w1.heap.size := by have := hb1.size; (try simp at this); omega
      have HB1 := Aside0.mk (below_step (w := w) (by repeat (first | exact Below.refl _ _ | exact HB9.out | exact HB8.out | exact HB7.out | exact HB6.out | exact HB5.out | exact HB4.out | exact HB3.out | exact HB2.out | exact HB1.out | exact HB.out | (refine Below.alloc ?_ (by first | exact HB9.out.size | exact HB8.out.size | exact HB7.out.size | exact HB6.out.size | exact HB5.out.size | exact HB4.out.size | exact HB3.out.size | exact HB2.out.size | exact HB1.out.size | exact HB.out.size | (simp; done) | (simp <;> omega)) _) | apply pw_below_drewN | apply below_drew1 | (refine Below.setCell ?_ (by first | (simp; done) | (simp <;> omega) | omega) _))) hb1); obtain ⟨hc1, hf1⟩ := bcell hb1; have hz1 := hb1.size; (try simp at hz1); clear hb1
      go_wp2
      go_ret
      exact ⟨by first | rfl | (simp; omega), HB1.out⟩

end Go.Proofs.YtoiibjipjlkaeaaDoor.PV

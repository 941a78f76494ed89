/- The document's Open: its words; of a dead disk. -/
import Derived.Test.YtmceikfbgmcmaaaGreatDoorRgA
namespace Go.Proofs.YtmceikfbgmcmaaaGreatDoor.D
open Go.RowKit Go.Extern.Stop Go.Stop Go.Extern Go.Proofs.YtmceikfbgmcmaaaGreatDoorW.PrintWords Go.Proofs.YtmceikfbgmcmaaaGreatDoorW.PrintLast Go.Proofs.YtmceikfbgmcmaaaGreatDoorW.PrintMore
set_option linter.unusedVariables false
set_option linter.unusedSimpArgs false
def RW (w : World) (p : Nat) (wx : World) (lv : Value) (acc : List BL) : Prop := Below w.heap.size w wx ∧ RG wx w.heap.size w.heap.size p lv acc false
theorem RW.start (p : Nat) (w : World) : RW w p (w.alloc (.cells #[.pointer (some ⟨p, 0, none⟩), .slice none 0 0, .bool false] 56)) (.slice none 0 0) [] := by
  refine ⟨(Below.refl w.heap.size w).alloc (Nat.le_refl _) _, ⟨?_, ⟨rfl, .inl ⟨rfl, rfl⟩⟩, by simp⟩⟩
  unfold World.alloc
  exact Array.getElem?_push_size
theorem RW.below {w wr w2 : World} {p : Nat} {lv : Value} {acc : List BL} (h : RW w p wr lv acc) (hb : Below wr.heap.size wr w2) : RW w p w2 lv acc := ⟨below_step h.1 hb, h.2.below hb⟩
theorem RW.q {w wi : World} {p : Nat} {lv : Value} {acc : List BL} (h : RW w p wi lv acc) : lv.ownBlock ≠ some w.heap.size ∧ w.heap.size < wi.heap.size :=
  ⟨own_ne h.2.2.1 h.2.1 (by decide), (Array.getElem?_eq_some_iff.1 h.2.1).1⟩
theorem RW.app {w wi wz : World} {p m : Nat} {lv v' : Value} {acc news : List BL} (h : RW w p wi lv acc) (hm : news.length = m) (hr : wz.ownsRow w.heap.size 9 1 v' (acc.length + m) (acc.map encS ++ news.map encS)) (hg : wi.grownBy wz lv.ownBlock) (hat : v'.ownBlock = lv.ownBlock ∨ v'.ownBlock = some wi.heap.size) (hl : acc.length + m ≤ 1000000) : RW w p (wz.setCell ⟨w.heap.size, 1, none⟩ v') v' (acc ++ news) := by
  obtain ⟨q1, q3⟩ := h.q
  have hv : v'.ownBlock ≠ some w.heap.size := fun e => by
    rcases hat with k | k
    · exact q1 (k.symm.trans e)
    · rw [k] at e
      injection e with e
      omega
  exact ⟨((h.1.grown hg (by omega) (fun k e => own_low h.2.2.1 e)).setCell (by simp) v'), h.2.apps hm hr hg q1 hv hl⟩
/-- What the document's Open keeps to be cut off last. -/
def RC (t : Option (Nat × Nat)) (v6 v7 : Value) : Prop := (t = none ∧ v6 = .string ⟨#[]⟩ ∧ v7 = .int .i64 0) ∨ ∃ m k : Nat, t = some (m, k) ∧ v6 = .string (fileF m) ∧ v7 = .int .i64 (k : Int)
/-- What the document's Open leaves and answers. -/
def ROpenP (w : World) (p g : Nat) (s : St) (e : Ending) (w' : World) : Prop := (∃ g', RK w' p g' (openF s).1 ∧ (g' = g ∨ w.heap.size ≤ g') ∧ Kp p g w w') ∧ ((∃ recs lv, (openF s).2.1 = some recs ∧ e = .returned (.tuple #[.pointer (some ⟨w.heap.size, 0, none⟩), .int .i64 0, .string ⟨#[]⟩]) ∧ RG w' w.heap.size w.heap.size p lv recs false) ∨ ((openF s).2.1 = none ∧ e = .returned (.tuple #[.pointer none, .int .i64 ((openF s).2.2.1 : Int), .string (openF s).2.2.2]) ∧ 0 < (openF s).2.2.1))
theorem open_dead {s : St} (hd : s.dead = true) : openF s = (s, none, 5, fileF 1) := by unfold openF; rw [if_pos hd]
set_option maxHeartbeats 8000000 in
theorem ropenDead_calls (p g : Nat) (s : St) (w : World) (hR : RK w p g s) (hd : s.dead = true) : Calls Tryz.prog 22 #[.pointer (some ⟨p, 0, none⟩)] w fun e w' => ROpenP w p g s e w' := by
  have HR := Aside0.mk hR
  obtain ⟨v, _, _, _, _, c3, _⟩ := hR.cells
  rw [hd] at c3
  have HFI := Aside0.mk (rfile_calls 1 w (by decide))
  have HO := Aside0.mk (open_dead hd)
  clear hR hd
  go_enter Tryz.func22, Tryz.ntmps22
  go_wp2_with (fail)
  refine HFI.out.mono ?_
  rintro e w1 ⟨rfl, hb⟩
  have HB := Aside0.mk hb
  clear hb
  go_wp2_with (fail)
  refine bodyPost_ret (results_list (rs := [_, _, _]) Tryz.results22 (by simp) (.tmp (.tmp (.tmp .nil)))) rfl ?_
  unfold ROpenP
  rw [HO.out]
  exact ⟨⟨g, HR.out.below HB.out, .inl rfl, Kp.of HB.out⟩, .inr ⟨rfl, rfl, by show 0 < 5; decide⟩⟩
end Go.Proofs.YtmceikfbgmcmaaaGreatDoor.D

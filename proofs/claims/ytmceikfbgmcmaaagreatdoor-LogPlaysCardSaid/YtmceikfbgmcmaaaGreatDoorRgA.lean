/- The document's log. -/
import Derived.Test.YtmceikfbgmcmaaaGreatDoorOpC
import Derived.Test.YtmceikfbgmcmaaaGreatDoorRefA
namespace Go.Proofs.YtmceikfbgmcmaaaGreatDoor.D
open Go.RowKit Go.Extern.Stop Go.Stop Go.Extern Go.Proofs.YtmceikfbgmcmaaaGreatDoorW.PrintWords Go.Proofs.YtmceikfbgmcmaaaGreatDoorW.PrintLast Go.Proofs.YtmceikfbgmcmaaaGreatDoorW.PrintMore
set_option linter.unusedVariables false
set_option linter.unusedSimpArgs false
/-- The document's log at q: on the disk at p, with these records. -/
def RG (w : World) (B q p : Nat) (lv : Value) (recs : List BL) (br : Bool) : Prop := w.heap[q]? = some (.cells #[.pointer (some ⟨p, 0, none⟩), lv, .bool br] 56 (0, 0)) ∧ w.ownsRow B 9 1 lv recs.length (recs.map encS) ∧ recs.length ≤ 1000000
theorem RG.cells {w : World} {B q p : Nat} {lv : Value} {recs : List BL} {br : Bool} (h : RG w B q p lv recs br) : w.cell? ⟨q, 0, none⟩ = some (.pointer (some ⟨p, 0, none⟩)) ∧ w.cell? ⟨q, 1, none⟩ = some lv ∧ w.cell? ⟨q, 2, none⟩ = some (.bool br) := by
  refine ⟨?_, ?_, ?_⟩
  · rw [cell_of_row _ _ _ _ _ _ h.1]; rfl
  · rw [cell_of_row _ _ _ _ _ _ h.1]; rfl
  · rw [cell_of_row _ _ _ _ _ _ h.1]; rfl
theorem RG.below {w w' : World} {B q p : Nat} {lv : Value} {recs : List BL} {br : Bool} (h : RG w B q p lv recs br) (hb : Below w.heap.size w w') : RG w' B q p lv recs br :=
  ⟨(hb.block q (Array.getElem?_eq_some_iff.1 h.1).1).trans h.1, own_below h.2.1 hb, h.2.2⟩
theorem RG.kp {w w' : World} {B q p p' b' : Nat} {lv : Value} {recs : List BL} {br : Bool} (h : RG w B q p lv recs br) (hk : Kp p' b' w w') (h1 : q ≠ p') (h2 : q ≠ b') (h3 : ∀ g, lv.ownBlock = some g → g ≠ p' ∧ g ≠ b') : RG w' B q p lv recs br := by
  obtain ⟨a1, ⟨a2, a3⟩, a4⟩ := h
  refine ⟨(hk.block q (Array.getElem?_eq_some_iff.1 a1).1 h1 h2).trans a1, ⟨a2, ?_⟩, a4⟩
  rcases a3 with a3 | ⟨g, cap, cur, rfl, c1, c2, c3⟩
  · exact .inl a3
  · obtain ⟨d1, d2⟩ := h3 g rfl
    exact .inr ⟨g, cap, cur, rfl, c1, (hk.block g (Array.getElem?_eq_some_iff.1 c2).1 d1 d2).trans c2, c3⟩
theorem RG.brk {w : World} {B q p : Nat} {lv : Value} {recs : List BL} {br : Bool} (h : RG w B q p lv recs br) (hq : lv.ownBlock ≠ some q) (b : Bool) : RG (w.setCell ⟨q, 2, none⟩ (.bool b)) B q p lv recs b :=
  ⟨by rw [heap_setCell_same w q 2 _ _ _ h.1]; rfl, own_set h.2.1 hq, h.2.2⟩
theorem RG.app {w w3 : World} {B q p : Nat} {lv v' : Value} {recs : List BL} {br : Bool} {x : BL} (h : RG w B q p lv recs br) (hr : w3.ownsRow B 9 1 v' (recs.length + 1) (recs.map encS ++ [encS x])) (hg : w.grownBy w3 lv.ownBlock) (hq : lv.ownBlock ≠ some q) (hvq : v'.ownBlock ≠ some q) (hl : recs.length + 1 ≤ 1000000) : RG (w3.setCell ⟨q, 1, none⟩ v') B q p v' (recs ++ [x]) br := by
  have h1 : w3.heap[q]? = some (.cells #[.pointer (some ⟨p, 0, none⟩), lv, .bool br] 56 (0, 0)) := (hg.block q (Array.getElem?_eq_some_iff.1 h.1).1 (fun e => hq e.symm)).trans h.1
  refine ⟨by rw [heap_setCell_same w3 q 1 _ _ _ h1]; rfl, ?_, by rw [List.length_append, List.length_singleton]; exact hl⟩
  rw [List.length_append, List.map_append]
  exact own_set hr hvq
theorem RG.apps {w w3 : World} {B q p m : Nat} {lv v' : Value} {recs news : List BL} {br : Bool} (h : RG w B q p lv recs br) (hm : news.length = m) (hr : w3.ownsRow B 9 1 v' (recs.length + m) (recs.map encS ++ news.map encS)) (hg : w.grownBy w3 lv.ownBlock) (hq : lv.ownBlock ≠ some q) (hvq : v'.ownBlock ≠ some q) (hl : recs.length + m ≤ 1000000) : RG (w3.setCell ⟨q, 1, none⟩ v') B q p v' (recs ++ news) br := by
  subst hm
  have h1 : w3.heap[q]? = some (.cells #[.pointer (some ⟨p, 0, none⟩), lv, .bool br] 56 (0, 0)) := (hg.block q (Array.getElem?_eq_some_iff.1 h.1).1 (fun e => hq e.symm)).trans h.1
  refine ⟨by rw [heap_setCell_same w3 q 1 _ _ _ h1]; rfl, ?_, by rw [List.length_append]; exact hl⟩
  rw [List.length_append, List.map_append]
  exact own_set hr hvq
theorem own_ne {w : World} {B n q : Nat} {v : Value} {xs : List Value} (h : w.ownsRow B 9 1 v n xs) {cs : Array Value} {ty : TypeId} {fz : Nat × Nat} (hq : w.heap[q]? = some (.cells cs ty fz)) (ht : ty ≠ 9) : v.ownBlock ≠ some q :=
  own_apart h hq (fun cur e => by injection e with _ e _; exact ht e)
theorem RK.ge {w : World} {p g : Nat} {s : St} (h : RK w p g s) : g = p ∨ ∃ cur, w.heap[g]? = some (.cells cur 120 (0, 0)) := by
  obtain ⟨v, _, hF, _⟩ := h
  rcases hF.block with ⟨_, h⟩ | h
  · exact .inl h
  · exact .inr h
/-- A row of texts lies apart from the document's disk and its files. -/
theorem RK.apart {w : World} {p g B n : Nat} {s : St} {v : Value} {xs : List Value} (h : RK w p g s) (hr : w.ownsRow B 9 1 v n xs) : ∀ k, v.ownBlock = some k → k ≠ p ∧ k ≠ g := fun k hk => by
  have hp : v.ownBlock ≠ some p := by
    obtain ⟨u, hu, _⟩ := h
    exact own_ne hr hu (by decide)
  refine ⟨fun e => hp (e ▸ hk), fun e => ?_⟩
  rcases h.ge with e2 | ⟨cur, hc⟩
  · exact hp (by rw [← e2, ← e]; exact hk)
  · exact own_ne hr hc (by decide) (e ▸ hk)
theorem RG.apart {w : World} {p g B q p2 : Nat} {s : St} {lv : Value} {recs : List BL} {br : Bool} (h : RG w B q p2 lv recs br) (k : RK w p g s) : q ≠ p ∧ q ≠ g := by
  obtain ⟨u, hu, _⟩ := k
  have h0 : ∀ (r : Nat) {cs : Array Value} {ty : TypeId} {fz : Nat × Nat}, w.heap[r]? = some (.cells cs ty fz) → ty ≠ 56 → q ≠ r := fun r _ _ _ hr ht e => by
    subst e
    rw [h.1] at hr
    injection hr with hr
    injection hr with _ e2 _
    exact ht e2.symm
  have hp := h0 p hu (by decide)
  refine ⟨hp, ?_⟩
  rcases RK.ge ⟨u, hu, ‹_›⟩ with e2 | ⟨cur, hc⟩
  · rw [e2]; exact hp
  · exact h0 g hc (by decide)
end Go.Proofs.YtmceikfbgmcmaaaGreatDoor.D

/- The document's copy of files. -/
import Derived.Test.YtcbgeakabchenaaGreatDoorRefO
import Derived.Deep.RegionHeld3
namespace Go.Proofs.YtcbgeakabchenaaGreatDoor.D
open Go.RowKit Go.Extern.Stop Go.Stop Go.Extern Go.Proofs.YtcbgeakabchenaaGreatDoorW.PrintWords Go.Proofs.YtcbgeakabchenaaGreatDoorW.PrintLast Go.Proofs.YtcbgeakabchenaaGreatDoorW.PrintMore
set_option linter.unusedVariables false
set_option linter.unusedSimpArgs false
set_option maxHeartbeats 16000000 in
set_option maxRecDepth 100000 in
theorem rcopy_row (p g cap : Nat) (s : St) (w : World) (h : RJ w p g (.slice (some ⟨g, 0, none⟩) s.L.length cap) s) (hk : Okf s.L) : Calls Tryz.prog 14 #[.pointer (some ⟨p, 0, none⟩)] w fun e w' => ∃ p' g', e = .returned (.pointer (some ⟨p', 0, none⟩)) ∧ w.heap.size ≤ p' ∧ w.heap.size ≤ g' ∧ RK w' p' g' s ∧ Below w.heap.size w w' := by
  obtain ⟨c0, c1, c2, c3, cf⟩ := h.cells
  have hp : p < w.heap.size := (Array.getElem?_eq_some_iff.1 h.1).1
  obtain ⟨i0, hi0, hz0, hz1, hz2⟩ := info_parts info71
  have hlen := hk.2.1
  have HJ := Aside0.mk h
  have HK := Aside0.mk hk
  have HNEW : Aside0 (∀ j u, (flat s.L)[j]? = some u → (w.drew.alloc (.cells #[] 71)).cell? ((⟨g, 0, none⟩ : Addr).add j) = some u) := ⟨fun j u hj => by
    have h1 := h.2.news j u hj
    have h2 := World.block_lt_of_cell? w _ h1
    exact (((Below.refl w.heap.size w).alloc (Nat.le_refl _) (Obj.cells #[] 71)).cell h2).trans h1⟩
  clear h hk cf
  go_enter Tryz.func14, Tryz.ntmps14
  go_wp2_with (fail)
  go_region_held3 (fun w' => w'.cell? ⟨p, 0, none⟩ = some (.slice (some ⟨g, 0, none⟩) s.L.length cap) ∧ w'.cell? ⟨p, 1, none⟩ = some (.int .i64 s.cut) ∧ w'.cell? ⟨p, 2, none⟩ = some (.int .i64 s.cnt) ∧ w'.cell? ⟨p, 3, none⟩ = some (.bool s.dead)) (first | exact ⟨d0, d1, d2, d3⟩ | go_keep) (first | (refine step_append_at rfl (.tmp 3) (.tmp 7) 31 rfl w.heap.size 71 i0 (.agg #[.string ⟨#[]⟩, .string ⟨#[]⟩]) 2 32 Tryz.underlying31 hi0 hz0 hz1 hz2 rfl (by decide) (.slice (some ⟨w.heap.size, 0, none⟩) 0 0) 0 [] (by simp [Act.eval, Act.put]) ⟨rfl, .inr ⟨w.heap.size, 0, #[], rfl, Nat.le_refl _, heap_alloc_new w.drew _, Nat.le_refl _, by decide, rfl, rfl⟩⟩ ⟨g, 0, none⟩ s.L.length cap (flat s.L) (by simp [Act.eval, Act.put]) (flat_len _) HNEW.out (one_flat _) (by unfold maxLen; omega) (by omega) (by simp) ?_; intro v' w1 hown1 hg1 hn1; obtain ⟨g', cap', rfl, hgw, hgl, hF1, hB1⟩ := cp_own w1.heap.size hown1 hg1 hn1; have d0 := cp_cell hp hg1 c0; have d1 := cp_cell hp hg1 c1; have d2 := cp_cell hp hg1 c2; have d3 := cp_cell hp hg1 c3; have HE := Aside0.mk (cp_end (s := s) HK.out hgw hgl hF1 hB1); have HGW := Aside0.mk hgw; have HBB := Aside0.mk hB1; clear hown1 hg1 hn1 hF1))
  go_wp2_with (fail)
  go_ret
  exact ⟨_, g', rfl, by have := HBB.out.size; omega, HGW.out, HE.out.1, HE.out.2⟩
end Go.Proofs.YtcbgeakabchenaaGreatDoor.D

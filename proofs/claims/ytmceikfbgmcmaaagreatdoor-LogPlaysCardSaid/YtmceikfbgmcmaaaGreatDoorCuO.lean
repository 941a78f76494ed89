/- LogCuts' arguments opened. -/
import Derived.Test.YtmceikfbgmcmaaaGreatDoorCuC
import Derived.Deep.Strs
import Derived.ChangeSlices
import Derived.OpenShut
import Derived.ProofKit
namespace Go.Proofs.YtmceikfbgmcmaaaGreatDoor.D
open Go.RowKit Go.Extern.Stop Go.Stop Go.Extern Go.Proofs.YtmceikfbgmcmaaaGreatDoorW.PrintWords Go.Proofs.YtmceikfbgmcmaaaGreatDoorW.PrintLast Go.Proofs.YtmceikfbgmcmaaaGreatDoorW.PrintMore
set_option linter.unusedVariables false
set_option linter.unusedSimpArgs false
open Go.ChangeShapes Go.WideShapes Go.ChangeAt
theorem laidOut : laidOutB Tryz.prog = true := by kernel_rfl
theorem cells_spot {w : World} {a : Addr} {v : Value} (h : w.cell? a = some v) : a = ⟨a.block, a.off, none⟩ := by
  obtain ⟨b, o, s⟩ := a
  cases s with
  | none => rfl
  | some k =>
    exfalso
    unfold World.cell? at h
    split at h
    · simp at h
    · cases h
theorem spot_add {ad : Addr} {i : Nat} {w : World} {u v : Value} (h0 : w.cell? (ad.add 0) = some u) (h : w.cell? (ad.add i) = some v) : ∃ b o, ad = ⟨b, o, none⟩ ∧ w.cell? ⟨b, o + i, none⟩ = some v := by
  have hz : ad.add 0 = ad := rfl
  have hsp := cells_spot (hz ▸ h0)
  refine ⟨ad.block, ad.off, hsp, ?_⟩
  rw [hsp] at h
  have hadd : (⟨ad.block, ad.off, none⟩ : Addr).add i = ⟨ad.block, ad.off + i, none⟩ := by
    unfold Addr.add
    split
    · rename_i h; rw [h]; rfl
    · rfl
  rw [hadd] at h
  exact h
set_option maxRecDepth 100000 in
/-- A []string argument, opened. -/
theorem open_texts {H : Type} {enc : TypeId × Value → H} {W : World} {v : Value} {d : DataW H} {p : List MemPlace} (hv : Value.okWide Tryz.prog W .any 0 36 v) (h : DataW.Trod enc Tryz.prog W 0 (fun _ => true) true 36 v d p) :
    ∃ (A : Option Addr) (n cap : Nat), v = .slice A n cap ∧ n ≤ 9223372036854775807 ∧ ∀ i, i < n → ∃ b o s, A = some ⟨b, o, none⟩ ∧ W.cell? ⟨b, o + i, none⟩ = some (.string s) := by
  obtain ⟨a0, l0, c0, rfl⟩ := okWide_slice Tryz.underlying36 hv
  obtain ⟨n, hd⟩ := h
  rcases Go.Deep.open_strs Tryz.underlying36 Tryz.underlying9 (by kernel_rfl) hd with ⟨h1, h2⟩ | ⟨ad, len, cap, m, Sx, h1, hb, hl, hm, hmm, h2, hcell⟩
  · simp [Value.cells] at h1
    obtain ⟨rfl, rfl, rfl⟩ := h1
    exact ⟨none, 0, 0, rfl, by omega, fun i hi => absurd hi (by omega)⟩
  · simp [Value.cells] at h1
    obtain ⟨e1, e2, e3⟩ := h1
    rw [e1, e2, e3]
    refine ⟨some ad, len, cap, rfl, by unfold maxLen at hm; omega, fun i hi => ?_⟩
    have him : i < m := by rw [hmm]; split <;> omega
    obtain ⟨b, o, e, hc⟩ := spot_add (hcell 0 (by omega)).1 (hcell i him).1
    exact ⟨b, o, Sx i, by rw [e], hc⟩
set_option maxRecDepth 100000 in
/-- A []int argument, opened. -/
theorem open_nums {H : Type} {enc : TypeId × Value → H} {W : World} {v : Value} {d : DataW H} {p : List MemPlace} (hv : Value.okWide Tryz.prog W .any 0 39 v) (h : DataW.Trod enc Tryz.prog W 0 (fun _ => true) true 39 v d p) :
    ∃ (A : Option Addr) (n cap : Nat), v = .slice A n cap ∧ n ≤ 9223372036854775807 ∧ ∀ i, i < n → ∃ b o z, A = some ⟨b, o, none⟩ ∧ W.cell? ⟨b, o + i, none⟩ = some (.int .i64 z) := by
  obtain ⟨a0, l0, c0, rfl⟩ := okWide_slice Tryz.underlying39 hv
  obtain ⟨n, hd⟩ := h
  rcases open_ints Tryz.underlying39 Tryz.underlying3 (by kernel_rfl) hd with ⟨h1, h2⟩ | ⟨ad, len, cap, zs, h1, hb, hl, hm, hzl, h2, hcell, _⟩
  · simp [Value.cells] at h1
    obtain ⟨rfl, rfl, rfl⟩ := h1
    exact ⟨none, 0, 0, rfl, by omega, fun i hi => absurd hi (by omega)⟩
  · simp [Value.cells] at h1
    obtain ⟨e1, e2, e3⟩ := h1
    rw [e1, e2, e3]
    refine ⟨some ad, len, cap, rfl, by unfold maxLen at hm; omega, fun i hi => ?_⟩
    have him : i < zs.length := by rw [hzl]; split <;> omega
    obtain ⟨b, o, e, hc⟩ := spot_add (hcell 0 (by omega)) (hcell i him)
    exact ⟨b, o, _, by rw [e], hc⟩
theorem logCuts_law (a0 : Option Addr) (n0 c0 : Nat) (a1 : Option Addr) (n1 c1 : Nat) (w : World) (h0 : n0 ≤ 9223372036854775807 ∧ ∀ i, i < n0 → ∃ b o s, a0 = some ⟨b, o, none⟩ ∧ w.cell? ⟨b, o + i, none⟩ = some (.string s)) (h1 : n1 ≤ 9223372036854775807 ∧ ∀ i, i < n1 → ∃ b o z, a1 = some ⟨b, o, none⟩ ∧ w.cell? ⟨b, o + i, none⟩ = some (.int .i64 z)) (hG : GW w) :
    Calls Tryz.prog 4 #[.slice a0 n0 c0, .slice a1 n1 c1] w fun e w' => e = .returned (.bool true) ∧ Below w.heap.size w w' := cuts_calls a0 n0 c0 a1 n1 c1 w h0.2 h1.2 h1.1 hG
end Go.Proofs.YtmceikfbgmcmaaaGreatDoor.D

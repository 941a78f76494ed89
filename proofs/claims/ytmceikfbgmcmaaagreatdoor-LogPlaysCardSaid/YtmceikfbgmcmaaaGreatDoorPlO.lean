/- LogPlays' arguments opened. -/
import Derived.Test.YtmceikfbgmcmaaaGreatDoorPlC
import Derived.Test.YtmceikfbgmcmaaaGreatDoorCuO
import Derived.Deep.Slices
import Derived.Deep.Fields
import Derived.ChangeSame
import Derived.SizedLaws
import Derived.Deep.Strs
import Derived.ChangeSlices
import Derived.OpenShut
import Derived.ProofKit
namespace Go.Proofs.YtmceikfbgmcmaaaGreatDoor.D
open Go.RowKit Go.Extern.Stop Go.Stop Go.Extern Go.Proofs.YtmceikfbgmcmaaaGreatDoorW.PrintWords Go.Proofs.YtmceikfbgmcmaaaGreatDoorW.PrintLast Go.Proofs.YtmceikfbgmcmaaaGreatDoorW.PrintMore
set_option linter.unusedVariables false
set_option linter.unusedSimpArgs false
open Go.ChangeShapes Go.WideShapes Go.Deep
section
variable {H : Type} {enc : TypeId × Value → H} {P : Program} {w : World} {base : Nat} {spare : Nat → Bool} {held : Bool}
theorem open_rows {t e : TypeId} {fs : Array Field} {fuel : Nat} {cs : List Value} {x : DataW H × List MemPlace} (ht : P.underlying t = some (.slice e)) (he : P.underlying e = some (.struct fs))
    (hone : oneCellFields P fs = true) (hC : P.cellsOf e = fs.size) (h : DataW.trod enc P w base spare held fuel t cs = some x) :
    (cs = [.slice none 0 0] ∧ x = (.nil, [])) ∨
    ∃ (a : Addr) (len cap m : Nat) (D : Nat → DataW H) (Pl : Nat → List MemPlace), cs = [.slice (some a) len cap] ∧ base ≤ a.block ∧ len ≤ cap ∧ cap ≤ maxLen ∧ m = (if spare a.block then cap else len) ∧
      x = (.slice ((List.range len).map D) ((List.range (m - len)).map fun j => D (len + j)), MemPlace.row a (m * fs.size) ++ (List.range m).flatMap Pl) ∧
      ∀ i, i < m → ∃ (ys : List (DataW H × List MemPlace)) (n : Nat), D i = .agg (ys.map (·.1)) ∧ Pl i = ys.flatMap (·.2) ∧ ys.length = fs.size ∧
        ∀ (j : Nat) (f : Field), fs[j]? = some f → ∃ (v : Value) (y : DataW H × List MemPlace), w.cell? (a.add (i * fs.size + j)) = some v ∧ ys[j]? = some y ∧ DataW.trod enc P w base spare held n f.type [v] = some y := by
  rcases open_slice ht h with h0 | ⟨a, len, cap, m, n, D, Pl, hcs, hb, hl, hm, hmm, hx, hi⟩
  · exact .inl h0
  · refine .inr ⟨a, len, cap, m, D, Pl, hcs, hb, hl, hm, hmm, by rw [hC] at hx; exact hx, fun i him => ?_⟩
    obtain ⟨cs', hc, ht'⟩ := hi i him
    rw [hC] at hc
    obtain ⟨ys, n', hn', hy, hlen, hyl, hf⟩ := DataW.trod_struct he ht'
    obtain ⟨_, hcl, hat⟩ := World.cells?_some hc
    simp only [Prod.mk.injEq] at hy
    refine ⟨ys, n', hy.1, hy.2, hyl, fun j f hj => ?_⟩
    obtain ⟨ho, hk⟩ := hone_of hone j f hj
    have hjl : j < fs.size := (Array.getElem?_eq_some_iff.1 hj).1
    have hcell := hat j hjl
    have hv : cs'[j]? = some (cs'[j]'(by omega)) := List.getElem?_eq_getElem (by omega)
    have h1 := hf j f hj
    rw [ho, hk] at h1
    have hone' : (cs'.drop j).take 1 = [cs'[j]'(by omega)] := by
      rw [List.drop_eq_getElem_cons (by omega)]
      rfl
    rw [hone'] at h1
    have hys : ys[j]? = some (ys[j]'(by omega)) := List.getElem?_eq_getElem (by omega)
    refine ⟨_, _, ?_, hys, h1.trans hys⟩
    rw [← Go.Deep.add_add, hcell, hv]
end
theorem sized_part {H : Type} {P : Program} {ts : List TypeId} {ds : List (DataW H)} (h : (DataW.weightsEach P ts ds).all (· ≤ reachBytes) = true) {j : Nat} {t : TypeId} {d : DataW H} (ht : ts[j]? = some t) (hd : ds[j]? = some d) : (d.weights P t).all (· ≤ reachBytes) = true :=
  List.all_eq_true.2 fun n hn => List.all_eq_true.1 h n (DataW.weights_mem_each ht hd n hn)
theorem mem_weightsAll {H : Type} {P : Program} {e : TypeId} : ∀ {l : List (DataW H)} {x : DataW H} {n : Nat}, x ∈ l → n ∈ x.weights P e → n ∈ DataW.weightsAll P e l
  | d :: r, x, n, hx, hn => by
    simp only [DataW.weightsAll, List.mem_append]
    rcases List.mem_cons.1 hx with rfl | hx
    · exact Or.inl hn
    · exact Or.inr (mem_weightsAll hx hn)
theorem slice_weights {H : Type} {P : Program} {t e : TypeId} {elems spare : List (DataW H)} (hu : P.underlying t = some (.slice e)) (h : ((DataW.slice elems spare : DataW H).weights P t).all (· ≤ reachBytes) = true) :
    (elems.length + spare.length) * P.bytesOf e ≤ reachBytes ∧ ∀ x ∈ elems, ∀ n ∈ x.weights P e, n ≤ reachBytes := by
  simp only [DataW.weights, hu, List.all_cons, List.all_append, Bool.and_eq_true, decide_eq_true_eq] at h
  refine ⟨h.1, fun x hx n hn => ?_⟩
  have := List.all_eq_true.1 h.2.1 n (mem_weightsAll hx hn)
  simpa using this
set_option maxRecDepth 100000 in
theorem open_steps {H : Type} {enc : TypeId × Value → H} {W : World} {v : Value} {d : DataW H} {p : List MemPlace} (hv : Value.okWide Tryz.prog W .any 0 45 v) (h : DataW.Trod enc Tryz.prog W 0 (fun _ => true) true 45 v d p) (hsz : (d.weights Tryz.prog 45).all (· ≤ reachBytes) = true) :
    ∃ (A : Option Addr) (n cap : Nat), v = .slice A n cap ∧ SL W A n := by
  obtain ⟨a0, l0, c0, rfl⟩ := okWide_slice Tryz.underlying45 hv
  obtain ⟨n, hd⟩ := h
  rcases open_rows Tryz.underlying45 Tryz.underlying52 (by kernel_rfl) (by kernel_rfl) hd with ⟨h1, h2⟩ | ⟨ad, len, cap, m, Dx, Pl, h1, hb, hl, hm, hmm, h2, hcell⟩
  · simp [Value.cells] at h1
    obtain ⟨rfl, rfl, rfl⟩ := h1
    exact ⟨none, 0, 0, rfl, fun i hi => absurd hi (by omega)⟩
  · simp [Value.cells] at h1
    obtain ⟨e1, e2, e3⟩ := h1
    rw [e1, e2, e3]
    refine ⟨some ad, len, cap, rfl, fun i hi => ?_⟩
    have hic : i < m := by rw [hmm]; split <;> omega
    obtain ⟨ys, k, hD, _, hyl, hf⟩ := hcell i hic
    obtain ⟨u0, y0, c0, q0, t0⟩ := hf 0 _ rfl
    obtain ⟨u1, y1, c1, q1, t1⟩ := hf 1 _ rfl
    obtain ⟨u2, y2, c2, q2, t2⟩ := hf 2 _ rfl
    obtain ⟨D, hD0, _, _⟩ := DataW.trod_int Tryz.underlying3 t0
    obtain ⟨N, hN, _, _⟩ := DataW.trod_int Tryz.underlying3 t1
    obtain ⟨T, hT, rfl, _⟩ := DataW.trod_string Tryz.underlying9 t2
    injection hD0 with hD0
    injection hN with hN
    injection hT with hT
    subst hD0 hN hT
    obtain ⟨ys0, _, _, _, _, hf0⟩ := hcell 0 (by omega)
    obtain ⟨_, _, c00, _, _⟩ := hf0 0 _ rfl
    have hz : ad.add (0 * 3 + 0) = ad := rfl
    have hsp := cells_spot (hz ▸ (show W.cell? (ad.add (0 * 3 + 0)) = some _ from c00))
    have hadd : ∀ k, (⟨ad.block, ad.off, none⟩ : Addr).add k = ⟨ad.block, ad.off + k, none⟩ := by
      intro k
      unfold Addr.add
      split
      · rename_i h; rw [h]; rfl
      · rfl
    rw [hsp, hadd] at c0 c1 c2
    have b0 : W.cell? ⟨ad.block, ad.off + i * 3, none⟩ = some (.int .i64 D) := c0
    have b1 : W.cell? ⟨ad.block, ad.off + i * 3 + 1, none⟩ = some (.int .i64 N) := c1
    have b2 : W.cell? ⟨ad.block, ad.off + i * 3 + 2, none⟩ = some (.string T) := c2
    exact ⟨ad.block, ad.off, D, N, T, by rw [← hsp], b0, b1, b2⟩
theorem plays_law {A : Prop} (cut : Int) (a : Option Addr) (n c : Nat) (w : World) (_ : A) (hS : SL w a n) (hG : GW w) : Calls Tryz.prog 5 #[.int .i64 cut, .slice a n c] w fun e w' => e = .returned (.bool true) ∧ Below w.heap.size w w' := plays_calls cut a n c w hS hG
end Go.Proofs.YtmceikfbgmcmaaaGreatDoor.D

/- A version that came in by value, opened. -/
import Derived.Test.YtoiibjipjlkaeaaDoorRefE
import Derived.Lib.SmallJoins
import Derived.SizedLaws
import Derived.Deep.Strs
import Derived.OpenShut
namespace Go.Proofs.YtoiibjipjlkaeaaDoor.PV
open Go.RowKit Go.Proofs.YtoiibjipjlkaeaaDoorW.PrintWords Go.Proofs.YtoiibjipjlkaeaaDoorW.PrintLast Go.Proofs.YtoiibjipjlkaeaaDoorW.PrintMore
attribute [local go_sem] max2_int min2_int max_two min_two max_three min_three max_four min_four   -- for this text's walks alone
set_option linter.unusedVariables false
set_option linter.unusedSimpArgs false

/-! A version that came in by value, opened; kept behind the call. -/
theorem sized_part {H : Type} {P : Program} {ts : List TypeId} {ds : List (DataW H)} (h : (DataW.weightsEach P ts ds).all (· ≤ reachBytes) = true) {j : Nat} {t : TypeId} {d : DataW H} (ht : ts[j]? = some t) (hd : ds[j]? = some d) : (d.weights P t).all (· ≤ reachBytes) = true :=
  List.all_eq_true.2 fun n hn => List.all_eq_true.1 h n (DataW.weights_mem_each ht hd n hn)
theorem mem_weightsAll {H : Type} {P : Program} {e : TypeId} : ∀ {l : List (DataW H)} {x : DataW H} {n : Nat}, x ∈ l → n ∈ x.weights P e → n ∈ DataW.weightsAll P e l
  | d :: r, x, n, hx, hn => by
    simp only [DataW.weightsAll, List.mem_append]
    rcases List.mem_cons.1 hx with rfl | hx
    · exact Or.inl hn
    · exact Or.inr (mem_weightsAll hx hn)
theorem slice_weights {H : Type} {P : Program} {t e : TypeId} {elems spare : List (DataW H)} (hu : P.underlying t = some (.slice e)) (h : ((DataW.slice elems spare : DataW H).weights P t).all (· ≤ reachBytes) = true) :
    (elems.length + spare.length) * P.bytesOf e ≤ reachBytes ∧ ∀ x ∈ elems, ∀ n ∈ x.weights P e, n ≤ reachBytes := by
  simp only [DataW.weights, hu, List.all_cons, List.all_append, Bool.and_eq_true, decide_eq_true_eq] at h
  refine ⟨h.1, fun x hx n hn => ?_⟩
  have := List.all_eq_true.1 h.2.1 n (mem_weightsAll hx hn)
  simpa using this
theorem agg4_last {H : Type} {P : Program} {t : TypeId} {f0 f1 f2 f3 : Field} {d0 d1 d2 d3 : DataW H} (hs : P.underlying t = some (.struct #[f0, f1, f2, f3])) (h : ((DataW.agg [d0, d1, d2, d3] : DataW H).weights P t).all (· ≤ reachBytes) = true) : (d3.weights P f3.type).all (· ≤ reachBytes) = true := by
  simp only [DataW.weights, hs, List.map_cons, List.map_nil, DataW.weightsEach, List.all_append, Bool.and_eq_true] at h
  exact h.2.2.2.1
set_option maxRecDepth 1000000 in
theorem open_ver {H : Type} {enc : TypeId × Value → H} {W : World} {v : Value} {d : DataW H} {p : List MemPlace} (hv : Value.okWide Tryd.prog W .any 0 32 v) (h : DataW.Trod enc Tryd.prog W 0 (fun _ => true) true 32 v d p) (hsz : (d.weights Tryd.prog 32).all (· ≤ reachBytes) = true) :
    ∃ (a b c : Int) (A : Option Addr) (cap : Nat) (l : List ByteArray), v = .agg #[.int .u32 a, .int .u32 b, .int .u32 c, .slice A l.length cap] ∧ (0 ≤ a ∧ a ≤ 4294967295) ∧ (0 ≤ b ∧ b ≤ 4294967295) ∧ (0 ≤ c ∧ c ≤ 4294967295) ∧ Kd.C Kd.string W A l.length l ∧ l.length ≤ cap ∧ l.length * 16 ≤ 140737488351232 ∧ (∀ x ∈ l, x.size ≤ 140737488351232) := by
  obtain ⟨v0, v1, v2, v3, y0, y1, y2, y3, n, rfl, rfl, rfl, t0, t1, t2, t3⟩ := Joins.open_agg4 Tryd.underlying32 (by kernel_rfl) (by kernel_rfl) hv h
  obtain ⟨a, e0, rfl, wa⟩ := DataW.trod_int Tryd.underlying29 t0
  obtain ⟨b, e1, rfl, wb⟩ := DataW.trod_int Tryd.underlying29 t1
  obtain ⟨c, e2, rfl, wc⟩ := DataW.trod_int Tryd.underlying29 t2
  simp only [List.cons.injEq, and_true] at e0 e1 e2
  subst e0 e1 e2
  rcases Go.Deep.open_strs Tryd.underlying30 Tryd.underlying9 (by kernel_rfl) t3 with ⟨h1, rfl⟩ | ⟨ad, len, cap, m, Sx, h1, hb, hl, hm, hmm, rfl, hcell⟩
  · simp only [List.cons.injEq, and_true] at h1
    subst h1
    exact ⟨a, b, c, none, 0, [], rfl, bounds_u32 wa, bounds_u32 wb, bounds_u32 wc, C_none W, Nat.le_refl _, by decide, fun x hx => by cases hx⟩
  · simp only [List.cons.injEq, and_true] at h1
    subst h1
    have hlen : ((List.range len).map Sx).length = len := by simp
    have hmc : m = cap := by rw [hmm]; rfl
    subst hmc
    have hw := slice_weights (P := Tryd.prog) (t := 30) (e := 9) Tryd.underlying30 (agg4_last Tryd.underlying32 hsz)
    obtain ⟨hw1, hw2⟩ := hw
    refine ⟨a, b, c, some ad, m, (List.range len).map Sx, by rw [hlen], bounds_u32 wa, bounds_u32 wb, bounds_u32 wc, ?_, by rw [hlen]; exact hl, ?_, ?_⟩
    · rw [hlen]
      refine ⟨hlen, by unfold maxLen at *; omega, fun _ => ⟨ad, rfl, fun j q hj => ⟨[.string q], rfl, rfl, fun i u hi => ?_⟩⟩⟩
      have hi0 : i = 0 := by
        have := (List.getElem?_eq_some_iff.1 hi).1
        simp at this; omega
      subst hi0
      have hu : Value.string q = u := by simpa using hi
      subst hu
      obtain ⟨hj1, hj2⟩ := List.getElem?_eq_some_iff.1 hj
      have hj3 : j < len := by rw [hlen] at hj1; exact hj1
      rw [show j * Kd.string.sz + 0 = j from by show j * 1 + 0 = j; omega, (hcell j (by omega)).1]
      simp at hj2
      rw [hj2]
    · rw [hlen]
      rw [show Tryd.prog.bytesOf 9 = 16 from by kernel_rfl] at hw1
      simp only [List.length_map, List.length_range] at hw1
      unfold reachBytes at hw1
      omega
    · intro x hx
      obtain ⟨i, hi, rfl⟩ := List.mem_map.1 hx
      have := hw2 _ (List.mem_map.2 ⟨i, hi, rfl⟩) (Sx i).data.toList.length (by simp [DataW.weights])
      rw [size_len] at this
      unfold reachBytes at this
      exact this

end Go.Proofs.YtoiibjipjlkaeaaDoor.PV

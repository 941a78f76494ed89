/- A list of strings that came in, opened; the law for it. -/
import Derived.Test.YthnajibbkinlkaaGreatDoorSortsL
import Derived.SizedLaws
import Derived.Deep.Strs
import Derived.OpenShut
import Derived.WideShapes
namespace Go.Proofs.YthnajibbkinlkaaGreatDoor.PV
open Go.RowKit Go.Proofs.YthnajibbkinlkaaGreatDoorW.PrintWords Go.Proofs.YthnajibbkinlkaaGreatDoorW.PrintLast Go.Proofs.YthnajibbkinlkaaGreatDoorW.PrintMore Go.Proofs.YthnajibbkinlkaaGreatDoor.SortsP
set_option linter.unusedVariables false
set_option linter.unusedSimpArgs false
theorem sized_part {H : Type} {P : Program} {ts : List TypeId} {ds : List (DataW H)} (h : (DataW.weightsEach P ts ds).all (· ≤ reachBytes) = true) {j : Nat} {t : TypeId} {d : DataW H} (ht : ts[j]? = some t) (hd : ds[j]? = some d) : (d.weights P t).all (· ≤ reachBytes) = true :=
  List.all_eq_true.2 fun n hn => List.all_eq_true.1 h n (DataW.weights_mem_each ht hd n hn)
theorem mem_weightsAll {H : Type} {P : Program} {e : TypeId} : ∀ {l : List (DataW H)} {x : DataW H} {n : Nat}, x ∈ l → n ∈ x.weights P e → n ∈ DataW.weightsAll P e l
  | d :: r, x, n, hx, hn => by
    simp only [DataW.weightsAll, List.mem_append]
    rcases List.mem_cons.1 hx with rfl | hx
    · exact Or.inl hn
    · exact Or.inr (mem_weightsAll hx hn)
theorem slice_weights {H : Type} {P : Program} {t e : TypeId} {elems spare : List (DataW H)} (hu : P.underlying t = some (.slice e)) (h : ((DataW.slice elems spare : DataW H).weights P t).all (· ≤ reachBytes) = true) :
    (elems.length + spare.length) * P.bytesOf e ≤ reachBytes ∧ ∀ x ∈ elems, ∀ n ∈ x.weights P e, n ≤ reachBytes := by
  simp only [DataW.weights, hu, List.all_cons, List.all_append, Bool.and_eq_true, decide_eq_true_eq] at h
  refine ⟨h.1, fun x hx n hn => ?_⟩
  have := List.all_eq_true.1 h.2.1 n (mem_weightsAll hx hn)
  simpa using this
theorem C_none0 (W : World) : Kd.C Kd.string W none 0 [] := ⟨rfl, by omega, fun h => absurd h (by decide)⟩
set_option maxRecDepth 1000000 in
open Go.WideShapes in
theorem open_list {H : Type} {enc : TypeId × Value → H} {W : World} {v : Value} {d : DataW H} {p : List MemPlace} (hv : Value.okWide Tryz.prog W .any 0 22 v) (h : DataW.Trod enc Tryz.prog W 0 (fun _ => true) true 22 v d p) (hsz : (d.weights Tryz.prog 22).all (· ≤ reachBytes) = true) :
    ∃ (A : Option Addr) (cap : Nat) (l : List ByteArray), v = .slice A l.length cap ∧ Kd.C Kd.string W A l.length l ∧ l.length ≤ cap ∧ l.length * 16 ≤ 140737488351232 ∧ (∀ x ∈ l, x.size ≤ 140737488351232) := by
  obtain ⟨a0, l0, c0, rfl⟩ := okWide_slice Tryz.underlying22 hv
  obtain ⟨n, hd⟩ := h
  rcases Go.Deep.open_strs Tryz.underlying22 Tryz.underlying9 (by kernel_rfl) hd with ⟨h1, h2⟩ | ⟨ad, len, cap, m, Sx, h1, hb, hl, hm, hmm, h2, hcell⟩
  · simp [Value.cells] at h1
    obtain ⟨rfl, rfl, rfl⟩ := h1
    exact ⟨none, 0, [], rfl, C_none0 W, Nat.le_refl _, by decide, fun x hx => by cases hx⟩
  · simp [Value.cells] at h1
    obtain ⟨e1, e2, e3⟩ := h1
    rw [e1, e2, e3]
    clear hd hv e1 e2 e3 a0 l0 c0
    have hlen : ((List.range len).map Sx).length = len := by simp
    have hmc : m = cap := by rw [hmm]; rfl
    subst hmc
    injection h2 with h2 _
    subst h2
    have hw := slice_weights (P := Tryz.prog) (t := 22) (e := 9) Tryz.underlying22 hsz
    obtain ⟨hw1, hw2⟩ := hw
    refine ⟨some ad, m, (List.range len).map Sx, by rw [hlen], ?_, by rw [hlen]; exact hl, ?_, ?_⟩
    · rw [hlen]
      refine ⟨hlen, by unfold maxLen at *; omega, fun _ => ⟨ad, rfl, fun j q hj => ⟨[.string q], rfl, rfl, fun i u hi => ?_⟩⟩⟩
      have hi0 : i = 0 := by
        have := (List.getElem?_eq_some_iff.1 hi).1
        simp at this; omega
      subst hi0
      have hu : Value.string q = u := by simpa using hi
      subst hu
      obtain ⟨hj1, hj2⟩ := List.getElem?_eq_some_iff.1 hj
      have hj3 : j < len := by rw [hlen] at hj1; exact hj1
      rw [show j * Kd.string.sz + 0 = j from by show j * 1 + 0 = j; omega, (hcell j (by omega)).1]
      simp at hj2
      rw [hj2]
    · rw [hlen]
      rw [show Tryz.prog.bytesOf 9 = 16 from by kernel_rfl] at hw1
      simp only [List.length_map, List.length_range] at hw1
      unfold reachBytes at hw1
      omega
    · intro x hx
      obtain ⟨i, hi, rfl⟩ := List.mem_map.1 hx
      have := hw2 _ (List.mem_map.2 ⟨i, hi, rfl⟩) (Sx i).data.toList.length (by simp [DataW.weights])
      rw [Array.length_toList] at this
      unfold reachBytes at this
      exact this
theorem verSorts_calls (A : Option Addr) (c : Nat) (l : List ByteArray) (w : World) (hC : Kd.C Kd.string w A l.length l) (hcap : l.length ≤ c) (hl : l.length * 16 ≤ 140737488351232) (hs : ∀ x ∈ l, x.size ≤ 140737488351232) (hG : GW w) :
    Calls Tryz.prog 3 #[.slice A l.length c] w fun e w' => e = .returned (.bool true) ∧ Below w.heap.size w w' := law_calls A c l w hC (by omega) hG
end Go.Proofs.YthnajibbkinlkaaGreatDoor.PV

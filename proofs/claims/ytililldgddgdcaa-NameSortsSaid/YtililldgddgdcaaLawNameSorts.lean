/- NameSorts: for every list the law answers true; the list reads as it did. -/
import Derived.Test.YtililldgddgdcaaRows
import Derived.Test.YtililldgddgdcaaSortL
import Derived.WalkKit
import Derived.ProofKit
import Derived.OpenShut
import Derived.ShutString
import Derived.ChangeOld
import Derived.Below
import Derived.SizedLaws
import Derived.Carry
import Derived.Deep.Strs
namespace Go.Proofs.Ytililldgddgdcaa.nameSorts
open Go.ChangeShapes Go.WideShapes Go.ChangeAt Go.RowKit Go.Proofs.YtililldgddgdcaaW.PrintWords
open Go.ChangeMaps (open_string shut_string)
set_option linter.unusedVariables false
theorem own : ownKnob Try.prog.godebug = none := by kernel_rfl
theorem laidOut : laidOutB Try.prog = true := by kernel_rfl
theorem C_none (W : World) : Kd.C Kd.string W none 0 [] := ⟨rfl, by omega, fun h => absurd h (by decide)⟩
theorem sized_part {H : Type} {P : Program} {ts : List TypeId} {ds : List (DataW H)} (h : (DataW.weightsEach P ts ds).all (· ≤ reachBytes) = true) {j : Nat} {t : TypeId} {d : DataW H} (ht : ts[j]? = some t) (hd : ds[j]? = some d) : (d.weights P t).all (· ≤ reachBytes) = true :=
  List.all_eq_true.2 fun n hn => List.all_eq_true.1 h n (DataW.weights_mem_each ht hd n hn)
theorem mem_weightsAll {H : Type} {P : Program} {e : TypeId} : ∀ {l : List (DataW H)} {x : DataW H} {n : Nat}, x ∈ l → n ∈ x.weights P e → n ∈ DataW.weightsAll P e l
  | d :: r, x, n, hx, hn => by
    simp only [DataW.weightsAll, List.mem_append]
    rcases List.mem_cons.1 hx with rfl | hx
    · exact Or.inl hn
    · exact Or.inr (mem_weightsAll hx hn)
theorem slice_weights {H : Type} {P : Program} {t e : TypeId} {elems spare : List (DataW H)} (hu : P.underlying t = some (.slice e)) (h : ((DataW.slice elems spare : DataW H).weights P t).all (· ≤ reachBytes) = true) :
    (elems.length + spare.length) * P.bytesOf e ≤ reachBytes ∧ ∀ x ∈ elems, ∀ n ∈ x.weights P e, n ≤ reachBytes := by
  simp only [DataW.weights, hu, List.all_cons, List.all_append, Bool.and_eq_true, decide_eq_true_eq] at h
  refine ⟨h.1, fun x hx n hn => ?_⟩
  have := List.all_eq_true.1 h.2.1 n (mem_weightsAll hx hn)
  simpa using this
theorem open_list {H : Type} {enc : TypeId × Value → H} {W : World} {v : Value} {d : DataW H} {p : List MemPlace} (hv : Value.okWide Try.prog W .any 0 32 v) (h : DataW.Trod enc Try.prog W 0 (fun _ => true) true 32 v d p) (hsz : (d.weights Try.prog 32).all (· ≤ reachBytes) = true) :
    ∃ (A : Option Addr) (cap : Nat) (l : List ByteArray), v = .slice A l.length cap ∧ Kd.C Kd.string W A l.length l ∧ l.length ≤ 8796093022208 := by
  obtain ⟨a0, l0, c0, rfl⟩ := okWide_slice Try.underlying32 hv
  obtain ⟨n, hd⟩ := h
  rcases Go.Deep.open_strs Try.underlying32 Try.underlying9 (by kernel_rfl) hd with ⟨h1, h2⟩ | ⟨ad, len, cap, m, Sx, h1, hb, hl, hm, hmm, h2, hcell⟩
  · simp [Value.cells] at h1
    obtain ⟨rfl, rfl, rfl⟩ := h1
    exact ⟨none, 0, [], rfl, C_none W, by decide⟩
  · simp [Value.cells] at h1
    obtain ⟨e1, e2, e3⟩ := h1
    rw [e1, e2, e3]
    clear hd hv e1 e2 e3 a0 l0 c0
    have hlen : ((List.range len).map Sx).length = len := by simp
    have hmc : m = cap := by rw [hmm]; rfl
    subst hmc
    injection h2 with h2 _
    subst h2
    have hw := slice_weights (P := Try.prog) (t := 32) (e := 9) Try.underlying32 hsz
    obtain ⟨hw1, hw2⟩ := hw
    refine ⟨some ad, m, (List.range len).map Sx, by rw [hlen], ?_, ?_⟩
    · rw [hlen]
      refine ⟨hlen, by unfold maxLen at *; omega, fun _ => ⟨ad, rfl, fun j q hj => ⟨[.string q], rfl, rfl, fun i u hi => ?_⟩⟩⟩
      have hi0 : i = 0 := by
        have := (List.getElem?_eq_some_iff.1 hi).1
        simp at this; omega
      subst hi0
      have hu : Value.string q = u := by simpa using hi
      subst hu
      obtain ⟨hj1, hj2⟩ := List.getElem?_eq_some_iff.1 hj
      have hj3 : j < len := by rw [hlen] at hj1; exact hj1
      rw [show j * Kd.string.sz + 0 = j from by show j * 1 + 0 = j; omega, (hcell j (by omega)).1]
      simp at hj2
      rw [hj2]
    · rw [hlen]
      rw [show Try.prog.bytesOf 9 = 16 from by kernel_rfl] at hw1
      simp only [List.length_map, List.length_range] at hw1
      unfold reachBytes at hw1
      omega
set_option maxRecDepth 100000 in
theorem lifted (os : Os) (started : os.Started) (H : Type) (enc : TypeId × Value → H) :
    ReturnsInHanded {} Try.checked os 6 .any (Rows.nameSortsSpec.pre6 enc Try.prog Try.f6 Rows.nameSortsRow.domain false) (Rows.nameSortsSpec.post enc Try.prog Try.f6 false true false false) := by
  refine returnsInHanded_of_change_sized (C := Try.checked) own started (by kernel_rfl) Try.func6
    (ChangeSpec.witness6 (enc := enc) (C := Try.checked) false ⟨#[], #[.slice none 0 0], []⟩ 8 (by kernel_rfl) (by kernel_rfl) (by kernel_rfl) (by kernel_rfl)) ?_
  intro W base args ds gs before hval0 hW hcnd hsz0 _
  have hsz : (DataW.weightsEach Try.prog (Try.f6.params.toList ++ Rows.nameSortsSpec.plain.varTypes Try.prog) (ds ++ gs)).all (· ≤ reachBytes) = true := hsz0
  have hval : ∀ (j : Nat) t v, Try.f6.params[j]? = some t → args[j]? = some v → Value.okWide Try.prog W .any base t v := hval0
  have hW' := hW
  obtain ⟨p, q, hA0, hV, rfl, hfz, hnd⟩ := hW
  have hA : DataW.TrodAll enc Try.prog W 0 (fun _ => true) true Try.f6.params.toList args.toList ds p := hA0
  rw [Try.params6] at hA hval hsz
  obtain ⟨v0, vs0, d0, ds0, p0, q0, hargs, rfl, rfl, h0, r0⟩ := trodAll_cons hA
  obtain ⟨rfl, rfl, rfl⟩ := trodAll_nil r0
  obtain rfl : args = #[v0] := by cases args; simp_all
  obtain ⟨rfl, rfl⟩ := trodVars_none hV
  have hsz1 := sized_part hsz (j := 0) (t := 32) rfl rfl
  obtain ⟨A, cap, l, rfl, hC, hlen⟩ := open_list (hval 0 32 v0 rfl rfl) h0 hsz1
  clear hA0 hval0 hsz0 hsz
  have hlt : ∀ x ∈ p0, x.block < W.heap.size := fun x hx => by simpa using hW'.lt x (by simp [hx])
  refine (SortL.law_calls A cap l W hC hlen).mono fun e W' ⟨he, bel⟩ => ?_
  subst he
  exact ⟨_, rfl, _, _, _, [], _, [], hW', trodAll_mk1 (shut_bool Try.underlying4 _), (trodAll_mk1 (Below.trod laidOut (by kernel_rfl) (of_decide_eq_true (by kernel_rfl)) h0 bel hlt)), rfl, bel.frame _, fun h => by cases h⟩
theorem over : Rows.nameSortsRow.holds Try.pinned (OpenSpec.ofChange Rows.nameSortsSpec) :=
  OpenClaim.holds_of_wide 6 Try.f6 rfl rfl rfl rfl rfl rfl rfl ⟨rfl, rfl, rfl, rfl, rfl⟩ rfl rfl rfl rfl rfl (by kernel_rfl) Try.func6 (by kernel_rfl)
    (of_decide_eq_true (by kernel_rfl)) (by unfold Func.isWrapper; first | (rw [if_pos (by decide +kernel)]; kernel_rfl) | (rw [if_neg (by decide +kernel)]; exact ⟨rfl, rfl⟩))
    (fun os started H enc _ => lifted os started H enc)
theorem proved : Rows.NameSortsSaid := over
#print axioms proved
end Go.Proofs.Ytililldgddgdcaa.nameSorts
namespace Go.Proofs.Ytililldgddgdcaa
/-- The row, under a short name, for the claim. -/
theorem nameSorts_holds : Rows.NameSortsSaid := nameSorts.proved
end Go.Proofs.Ytililldgddgdcaa

/- A call that came in by value, opened. -/
import Derived.Test.YtopcidphlleciaaGreatDoorSSm
import Derived.Lib.SmallJoins
import Derived.Deep.Strs
import Derived.SizedLaws
import Derived.ChangeOld
import Derived.OpenShut
namespace Go.Proofs.YtopcidphlleciaaGreatDoor.S
open Go.RowKit Go.Extern.Stop Go.Stop Go.Extern Go.Proofs.YtopcidphlleciaaGreatDoorW.PrintWords Go.Proofs.YtopcidphlleciaaGreatDoorW.PrintLast Go.Proofs.YtopcidphlleciaaGreatDoorW.PrintMore
set_option linter.unusedVariables false
set_option linter.unusedSimpArgs false
theorem spot_none {W : World} {a : Addr} {v : Value} (h : W.cell? a = some v) : a.spot = none := by
  obtain ⟨b, o, s⟩ := a
  cases s with
  | none => rfl
  | some q =>
    have e : W.cell? ⟨b, o, some q⟩ = none := by
      unfold World.cell?
      split
      · simp
      · rfl
    rw [e] at h
    cases h
theorem sized_part {H : Type} {P : Program} {ts : List TypeId} {ds : List (DataW H)} (h : (DataW.weightsEach P ts ds).all (· ≤ reachBytes) = true) {j : Nat} {t : TypeId} {d : DataW H} (ht : ts[j]? = some t) (hd : ds[j]? = some d) : (d.weights P t).all (· ≤ reachBytes) = true :=
  List.all_eq_true.2 fun n hn => List.all_eq_true.1 h n (DataW.weights_mem_each ht hd n hn)
theorem mem_weightsAll {H : Type} {P : Program} {e : TypeId} : ∀ {l : List (DataW H)} {x : DataW H} {n : Nat}, x ∈ l → n ∈ x.weights P e → n ∈ DataW.weightsAll P e l
  | d :: r, x, n, hx, hn => by
    simp only [DataW.weightsAll, List.mem_append]
    rcases List.mem_cons.1 hx with rfl | hx
    · exact Or.inl hn
    · exact Or.inr (mem_weightsAll hx hn)
theorem slice_weights {H : Type} {P : Program} {t e : TypeId} {elems spare : List (DataW H)} (hu : P.underlying t = some (.slice e)) (h : ((DataW.slice elems spare : DataW H).weights P t).all (· ≤ reachBytes) = true) :
    (elems.length + spare.length) * P.bytesOf e ≤ reachBytes ∧ ∀ x ∈ elems, ∀ n ∈ x.weights P e, n ≤ reachBytes := by
  simp only [DataW.weights, hu, List.all_cons, List.all_append, Bool.and_eq_true, decide_eq_true_eq] at h
  refine ⟨h.1, fun x hx n hn => ?_⟩
  have := List.all_eq_true.1 h.2.1 n (mem_weightsAll hx hn)
  simpa using this
theorem agg2_both {H : Type} {P : Program} {t : TypeId} {f0 f1 : Field} {d0 d1 : DataW H} (hs : P.underlying t = some (.struct #[f0, f1])) (h : ((DataW.agg [d0, d1] : DataW H).weights P t).all (· ≤ reachBytes) = true) : (d0.weights P f0.type).all (· ≤ reachBytes) = true ∧ (d1.weights P f1.type).all (· ≤ reachBytes) = true := by
  simp only [DataW.weights, hs, List.map_cons, List.map_nil, DataW.weightsEach, List.all_append, Bool.and_eq_true] at h
  exact ⟨h.1, h.2.1⟩
/-- A call that came in by value, opened. -/
def CL (W : World) (word : ByteArray) (A : Option Addr) (n : Nat) (l : List ByteArray) : Prop := word.size ≤ 140737488351232 ∧ LSt W A n l
set_option maxRecDepth 1000000 in
theorem open_call {H : Type} {enc : TypeId × Value → H} {W : World} {v : Value} {d : DataW H} {p : List MemPlace} (hv : Value.okWide Tryz.prog W .any 0 25 v) (h : DataW.Trod enc Tryz.prog W 0 (fun _ => true) true 25 v d p) (hsz : (d.weights Tryz.prog 25).all (· ≤ reachBytes) = true) :
    ∃ (word : ByteArray) (A : Option Addr) (n c : Nat) (l : List ByteArray), v = .agg #[.string word, .slice A n c] ∧ CL W word A n l := by
  obtain ⟨v0, v1, y0, y1, m, rfl, rfl, rfl, t0, t1⟩ := Joins.open_agg2 Tryz.underlying25 (by kernel_rfl) (by kernel_rfl) hv h
  obtain ⟨w0, w1⟩ := agg2_both Tryz.underlying25 hsz
  obtain ⟨word, e0, rfl, wz⟩ := DataW.trod_string Tryz.underlying9 t0
  simp only [List.cons.injEq, and_true] at e0
  subst e0
  have hws : word.size ≤ 140737488351232 := by
    have := List.all_eq_true.1 w0 word.data.toList.length (by simp [DataW.weights])
    rw [Array.length_toList] at this
    have h2 := of_decide_eq_true this
    unfold reachBytes at h2
    show word.data.size ≤ _
    omega
  rcases Go.Deep.open_strs Tryz.underlying23 Tryz.underlying9 (by kernel_rfl) t1 with ⟨h1, rfl⟩ | ⟨ad, len, cap, m, Sx, h1, hb, hl, hm, hmm, rfl, hcell⟩
  · simp only [List.cons.injEq, and_true] at h1
    subst h1
    exact ⟨word, none, 0, 0, [], rfl, hws, rfl, by decide, fun hn => absurd hn (by decide), fun k hk => by cases hk⟩
  · simp only [List.cons.injEq, and_true] at h1
    subst h1
    have hlen : ((List.range len).map Sx).length = len := by simp
    have hmc : m = cap := by rw [hmm]; rfl
    subst hmc
    obtain ⟨hw1, hw2⟩ := slice_weights (P := Tryz.prog) (t := 23) (e := 9) Tryz.underlying23 w1
    refine ⟨word, some ad, len, m, (List.range len).map Sx, rfl, hws, hlen, ?_, fun hn => ?_, fun x hx => ?_⟩
    · rw [show Tryz.prog.bytesOf 9 = 16 from by kernel_rfl] at hw1
      simp only [List.length_map, List.length_range] at hw1
      unfold reachBytes at hw1
      omega
    · have h0 := (hcell 0 (by omega)).1
      have hsp : ad = ⟨ad.block, ad.off, none⟩ := by
        have := spot_none (show W.cell? ad = some (.string (Sx 0)) from h0)
        obtain ⟨b, o, s⟩ := ad
        simp only at this
        rw [this]
      refine ⟨ad.block, ad.off, congrArg some hsp, fun i hi => ?_⟩
      have := (hcell i (by rw [hlen] at hi; omega)).1
      rw [hsp, Addr.add_mid] at this
      rw [this]
      simp
    · obtain ⟨i, hi, rfl⟩ := List.mem_map.1 hx
      have := hw2 _ (List.mem_map.2 ⟨i, hi, rfl⟩) (Sx i).data.toList.length (by simp [DataW.weights])
      rw [Array.length_toList] at this
      unfold reachBytes at this
      show (Sx i).data.size ≤ _
      omega
end Go.Proofs.YtopcidphlleciaaGreatDoor.S

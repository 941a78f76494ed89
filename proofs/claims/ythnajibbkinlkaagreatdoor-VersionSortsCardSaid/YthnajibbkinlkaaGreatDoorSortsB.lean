/- What VersionSorts speaks of: the order of texts; own rows of strings. -/
import Derived.Test.YthnajibbkinlkaaGreatDoorPlain
import Derived.Test.YthnajibbkinlkaaGreatDoorSortsP
import Derived.Laws.Cover1
namespace Go.Proofs.YthnajibbkinlkaaGreatDoor.PV
open Go.RowKit Go.Proofs.YthnajibbkinlkaaGreatDoorW.PrintWords Go.Proofs.YthnajibbkinlkaaGreatDoorW.PrintLast Go.Proofs.YthnajibbkinlkaaGreatDoorW.PrintMore Go.Proofs.YthnajibbkinlkaaGreatDoor.SortsP
set_option linter.unusedVariables false
set_option linter.unusedSimpArgs false
def vB (s : ByteArray) : Bool := (verOf s).isSome
/-- One text's version is below the other's. -/
def ltB (s t : ByteArray) : Prop := ∃ u v, verOf s = some u ∧ verOf t = some v ∧ cmpVer u v < 0
theorem ltB_irrefl (s : ByteArray) : ¬ ltB s s := by
  rintro ⟨u, v, h1, h2, h3⟩
  rw [h1] at h2
  cases h2
  rw [(to_cmpVer.zero u u).2 rfl] at h3
  omega
theorem ltB_trans (s t r : ByteArray) (h : ltB s t) (k : ltB t r) : ltB s r := by
  obtain ⟨u, v, h1, h2, h3⟩ := h
  obtain ⟨v', x, k1, k2, k3⟩ := k
  rw [h2] at k1
  cases k1
  exact ⟨u, x, h1, k2, to_cmpVer.strict (by omega) (by omega) (.inl h3)⟩
theorem C_at {w : World} {A : Option Addr} {n : Nat} {xs : List ByteArray} (h : Kd.C Kd.string w A n xs) (j : Nat) (hj : j < xs.length) : ∃ ad, A = some ad ∧ w.cell? (ad.add j) = some (.string (xs[j]'hj)) := by
  have hn := h.1
  obtain ⟨ad, e, hc⟩ := h.2.2 (by omega)
  obtain ⟨c, hl, hk, hcell⟩ := hc j _ (List.getElem?_eq_getElem hj)
  refine ⟨ad, e, ?_⟩
  have hk' : c = [Value.string (xs[j]'hj)] := hk
  subst hk'
  have := hcell 0 _ rfl
  rw [show j * Kd.string.sz + 0 = j from by show j * 1 + 0 = j; omega] at this
  exact this
theorem own_shape {W : World} {base : Nat} {ok : Nat → Prop} {v : Value} {xs : List ByteArray} (h : Kd.R Kd.string 9 W base ok v xs) (hp : 0 < xs.length) : ∃ g cap, v = .slice (some ⟨g, 0, none⟩) xs.length cap ∧ xs.length ≤ cap ∧ ∀ o, W.frozen? ⟨g, o, none⟩ = false := by
  have ho := Kd.own_of_R (enc := Value.string) (h1 := fun _ => rfl) h
  rcases ho.2 with ⟨_, h2⟩ | ⟨g, cap, cur, rfl, hg, hh, hcap, _⟩
  · omega
  · exact ⟨g, cap, rfl, hcap, fun o => by simp [World.frozen?, hh]⟩
theorem set_mid (a b : List ByteArray) (p q : ByteArray) (k : Nat) (hk : a.length = k) : (a ++ p :: b).set k q = a ++ q :: b := by
  subst hk
  rw [List.set_append_right _ _ (Nat.le_refl _), Nat.sub_self]
  rfl
theorem mid_step (ys : List ByteArray) (m : Nat) (hm : m < ys.length) : ys.take (m + 1) ++ (ys[m]'hm) :: ys.drop (m + 1) = ys.take m ++ (ys[m]'hm) :: ys.drop m := by
  conv => rhs; rw [List.drop_eq_getElem_cons hm]
  rw [List.take_succ_eq_append_getElem hm, List.append_assoc]
  rfl
theorem mid_len (ys : List ByteArray) (j : Nat) (p : ByteArray) (hj : j ≤ ys.length) : (ys.take j ++ p :: ys.drop j).length = ys.length + 1 := by
  rw [List.length_append, List.length_cons, List.length_take, List.length_drop]
  omega
/-- The cells of an own row of strings: what each holds; none is frozen. -/
theorem own_cells {W : World} {base : Nat} {ok : Nat → Prop} {g n cap : Nat} {xs : List ByteArray} (h : Kd.R Kd.string 9 W base ok (.slice (some ⟨g, 0, none⟩) n cap) xs) (hp : 0 < xs.length) : (∀ j (hj : j < xs.length), W.cell? ⟨g, j, none⟩ = some (.string (xs[j]'hj))) ∧ ∀ o, W.frozen? ⟨g, o, none⟩ = false := by
  obtain ⟨A, c, he, _, hC⟩ := Kd.R_reads h
  injection he with h1 h2 h3
  subst h1
  obtain ⟨g', cap', hv, _, hf⟩ := own_shape h hp
  injection hv with e1 _ _
  injection e1 with e1
  injection e1 with e1 _ _
  subst e1
  refine ⟨fun j hj => ?_, hf⟩
  obtain ⟨ad, ha, hc⟩ := C_at hC j hj
  injection ha with ha
  subst ha
  have e : (⟨g, 0, none⟩ : Addr).add j = ⟨g, j, none⟩ := by unfold Addr.add; by_cases h : j = 0 <;> simp [h]
  rw [e] at hc
  exact hc
theorem own_ge {W : World} {base : Nat} {ok : Nat → Prop} {g n cap : Nat} {xs : List ByteArray} (h : Kd.R Kd.string 9 W base ok (.slice (some ⟨g, 0, none⟩) n cap) xs) : base ≤ g := own_base (Kd.own_of_R (enc := Value.string) (h1 := fun _ => rfl) h) g rfl
def SR (w : World) (base : Nat) (v : Value) (xs : List ByteArray) : Prop := ∃ A c, v = .slice A xs.length c ∧ (0 < xs.length → ∃ g, A = some ⟨g, 0, none⟩ ∧ base ≤ g ∧ g < w.heap.size ∧ (∀ j (h : j < xs.length), w.cell? ⟨g, j, none⟩ = some (.string (xs[j]'h))) ∧ ∀ o, w.frozen? ⟨g, o, none⟩ = false)
theorem SR.nil (w : World) (base : Nat) (A : Option Addr) (c : Nat) : SR w base (.slice A 0 c) [] := ⟨A, c, rfl, fun h => absurd h (by decide)⟩
theorem SR_of_R {W : World} {base : Nat} {ok : Nat → Prop} {v : Value} {xs : List ByteArray} (h : Kd.R Kd.string 9 W base ok v xs) : SR W base v xs := by
  obtain ⟨A, c, rfl, _, _⟩ := Kd.R_reads h
  refine ⟨A, c, rfl, fun hp => ?_⟩
  obtain ⟨g, cap, hv, _, hf⟩ := own_shape h hp
  injection hv with e1 _ _
  subst e1
  have hc := own_cells h hp
  exact ⟨g, rfl, own_ge h, World.block_lt_of_cell? _ _ (hc.1 0 hp), hc.1, hf⟩
theorem SR.below {w w1 : World} {base : Nat} {v : Value} {xs : List ByteArray} (h : SR w base v xs) (hb : Below w.heap.size w w1) : SR w1 base v xs := by
  obtain ⟨A, c, rfl, hh⟩ := h
  refine ⟨A, c, rfl, fun hp => ?_⟩
  obtain ⟨g, e, h1, h2, h3, h4⟩ := hh hp
  refine ⟨g, e, h1, Nat.lt_of_lt_of_le h2 hb.size, fun j hj => pw_cell_below hb (h3 j hj), fun o => ?_⟩
  rw [← h4 o]
  simp only [World.frozen?, hb.block g h2]
end Go.Proofs.YthnajibbkinlkaaGreatDoor.PV

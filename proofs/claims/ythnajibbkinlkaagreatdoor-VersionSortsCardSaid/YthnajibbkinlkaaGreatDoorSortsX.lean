/- The walk of version.Sort. -/
import Derived.Test.YthnajibbkinlkaaGreatDoorSortsW
import Derived.Shelf.SlSortCmp.NoneTotal
namespace Go.Proofs.YthnajibbkinlkaaGreatDoor.PV
open Go.RowKit Go.Proofs.YthnajibbkinlkaaGreatDoorW.PrintWords Go.Proofs.YthnajibbkinlkaaGreatDoorW.PrintLast Go.Proofs.YthnajibbkinlkaaGreatDoorW.PrintMore Go.Proofs.YthnajibbkinlkaaGreatDoor.SortsP
set_option linter.unusedVariables false
set_option linter.unusedSimpArgs false
open Go.Sort Go.Shelf
theorem own_some {w : World} {base n : Nat} {v : Value} {xs : List Value} (h : w.ownsRow base 9 1 v n xs) (hv : v ≠ .slice none 0 0) : ∃ g cap, v = .slice (some ⟨g, 0, none⟩) n cap := by
  rcases h.2 with ⟨h1, _⟩ | ⟨g, cap, cur, rfl, _⟩
  · exact absurd h1 hv
  · exact ⟨g, cap, rfl⟩
theorem map_tl_enc (l : List ByteArray) : l.map Value.string = (l.map tl).map encStr := by
  rw [List.map_map]
  apply List.map_congr_left
  intro x _
  rfl
theorem clone_calls (A : Option Addr) (c : Nat) (l : List ByteArray) (w : World) (hA : Kd.C Kd.string w A l.length l) (hl : l.length ≤ 200) :
    Calls Tryz.prog 12 #[.slice A l.length c] w fun e w' => Below w.heap.size w w' ∧ ((l = [] ∧ e = .returned (.slice none 0 0)) ∨ ∃ g cap, e = .returned (.slice (some ⟨g, 0, none⟩) l.length cap) ∧ w'.ownsRow w.heap.size 9 1 (.slice (some ⟨g, 0, none⟩) l.length cap) l.length ((l.map tl).map encStr)) := by
  by_cases h0 : l = []
  · subst h0
    cases A with
    | none =>
      refine (Go.Proofs.Tryz.slices_Clone_string_nil 0 c w).mono ?_
      rintro e w' ⟨rfl, rfl⟩
      exact ⟨Below.refl _ _, .inl ⟨rfl, rfl⟩⟩
    | some a =>
      refine (Go.Proofs.Tryz.slices_Clone_string_zero a c w).mono ?_
      rintro e w' ⟨v', rfl, ho, hv, hb⟩
      obtain ⟨g, cap, rfl⟩ := own_some ho hv
      exact ⟨hb, .inr ⟨g, cap, rfl, ho⟩⟩
  · have hp : 0 < l.length := List.length_pos_iff.2 h0
    have hat := fun j (hj : j < l.length) => C_at hA j hj
    obtain ⟨ad, rfl, hc0⟩ := hat 0 hp
    obtain ⟨b, off, spot⟩ := ad
    have hsp : spot = none := by
      cases spot with
      | none => rfl
      | some x =>
        exfalso
        unfold World.cell? Addr.add at hc0
        simp at hc0
        split at hc0 <;> simp at hc0
    subst hsp
    have hcells : ∀ j, j < l.length → w.cell? ⟨b, off + j, none⟩ = some (.string (l.getD j ByteArray.empty)) := by
      intro j hj
      obtain ⟨ad, he, hc⟩ := hat j hj
      injection he with he
      subst he
      have e : (⟨b, off, none⟩ : Addr).add j = ⟨b, off + j, none⟩ := by unfold Addr.add; split <;> simp_all
      rw [e] at hc
      rw [hc, List.getD_eq_getElem?_getD, List.getElem?_eq_getElem hj]
      rfl
    refine (Go.Proofs.Tryz.slices_Clone_string b off l.length c l w (Nat.le_refl _) (by omega) hcells).mono ?_
    rintro e w' ⟨v', rfl, ho, hv, hb⟩
    obtain ⟨g, cap, rfl⟩ := own_some ho hv
    rw [List.take_length, map_tl_enc] at ho
    exact ⟨hb, .inr ⟨g, cap, rfl, ho⟩⟩
theorem as_V : ∀ (l : List ByteArray), (∀ x ∈ l, vB x = true) → ∃ xs : List V, xs.map (·.1) = l
  | [], _ => ⟨[], rfl⟩
  | a :: r, h => by
    obtain ⟨xs, hx⟩ := as_V r (fun x hx => h x (List.mem_cons_of_mem _ hx))
    exact ⟨⟨a, h a (by simp)⟩ :: xs, by simp [hx]⟩
theorem vtl_map (ys : List V) : ys.map vtl = (ys.map (·.1)).map tl := by
  rw [List.map_map]
  rfl
theorem tl_inj (a b : ByteArray) (h : tl a = tl b) : a = b := ByteArray.ext (Array.toList_inj.1 h)
theorem compact_map (ys : List ByteArray) : Lib.compact (ys.map tl) = (cmp ys).map tl := by rw [compact_cmp, cmp_map tl tl_inj]
theorem cmp_len (ys : List ByteArray) : (cmp ys).length ≤ ys.length := by
  have := Lib.compact_length_le (ys.map tl)
  rw [compact_map, List.length_map, List.length_map] at this
  exact this
set_option maxHeartbeats 8000000 in
set_option maxRecDepth 100000 in
theorem sort_calls (A : Option Addr) (c : Nat) (l : List ByteArray) (w : World) (hA : Kd.C Kd.string w A l.length l) (hl : l.length ≤ 200) (hG : GW w) :
    Calls Tryz.prog 5 #[.slice A l.length c] w fun e w' => Below w.heap.size w w' ∧ (((∀ x ∈ l, vB x = true) ∧ ∃ v xs, e = .returned (.tuple #[v, .int .i64 0]) ∧ SR w' w.heap.size v xs ∧ Rs ltB l xs ∧ xs.length ≤ l.length) ∨ ((∃ x ∈ l, ¬ vB x = true) ∧ e = .returned (.tuple #[.slice none 0 0, .int .i64 70]))) := by
  have HA := Aside0.mk hA
  have HG := Aside0.mk hG
  clear hA hG
  go_enter Tryz.func5, Tryz.ntmps5
  go_wp2_with (fail)
  refine (contains_calls A c l _ HA.out hl HG.out).mono ?_
  rintro e w1 ⟨hb1, ⟨h1, rfl⟩ | ⟨h1, rfl⟩⟩
  · have HB1 := Aside0.mk hb1
    have HALL := Aside0.mk h1
    have hz1 := hb1.size
    clear hb1 h1
    go_wp2_with (fail)
    refine (clone_calls A c l _ (Kd.C_below HA.out HB1.out) hl).mono ?_
    rintro e w2 ⟨hb2, ⟨h0, rfl⟩ | ⟨g, cap, rfl, ho⟩⟩
    · have HB2 := Aside0.mk (below_step (w := w) HB1.out hb2)
      have H0 := Aside0.mk h0
      clear hb2 h0
      go_wp2_with (fail)
      refine (Go.Proofs.AnyF.slices_SortFunc_none { Go.Proofs.Tryz.sortF with } none 0 _ _).mono ?_
      rintro e w3 ⟨rfl, rfl⟩
      go_wp2_with (fail)
      refine (Go.Proofs.Tryz.slices_Compact_string_empty none 0 _).mono ?_
      rintro e w3 ⟨rfl, rfl⟩
      go_wp2_with (fail)
      refine (sclip_none _).mono ?_
      rintro e w3 ⟨rfl, rfl⟩
      go_wp2_with (fail)
      go_ret2
      refine ⟨HB2.out, .inl ⟨HALL.out, _, [], rfl, SR.nil _ _ _ _, ?_, Nat.zero_le _⟩⟩
      rw [H0.out]
      exact Rs.nil
    · obtain ⟨xs, hxs⟩ := as_V l HALL.out
      have HO := Aside0.mk ho
      have HXS := Aside0.mk hxs
      have HB2 := Aside0.mk (below_step (w := w) HB1.out hb2)
      have HK2 := Aside0.mk (hb2.mono hz1)
      have hz2 := hb2.size
      have hw0 : 0 < w1.heap.size := by
        obtain ⟨m, hm⟩ := GW.below HG.out HB1.out
        exact Nat.lt_of_le_of_lt (Nat.zero_le _) (World.block_lt_of_cell? _ _ hm)
      clear ho hxs hb2
      have HO1 : Aside0 (w2.ownsRow w1.heap.size 9 1 (.slice (some ⟨g, 0, none⟩) l.length cap) l.length ((xs.map vtl).map encStr)) := ⟨by rw [vtl_map, HXS.out]; exact HO.out⟩
      go_wp2_with (fail)
      refine (sortf3 HO1.out (GW.below HG.out HB2.out) hw0 hz2 (by omega)).mono ?_
      rintro e w3 ⟨rfl, ys, hperm, hso, ho3, hb3⟩
      have HP := Aside0.mk hperm
      have HS := Aside0.mk hso
      have HO3 := Aside0.mk ho3
      have HB3 := Aside0.mk (HB2.out.trans (hb3.mono hz1))
      have hz3 := hb3.size
      clear hperm hso ho3 hb3
      go_wp2_with (fail)
      refine (compact3 HO3.out (by omega) (by omega)).mono ?_
      rintro e w4 ⟨rfl, hc4, hf4, hg1, hg2, hk, hb4⟩
      have HC4 := Aside0.mk hc4
      have HF4 := Aside0.mk hf4
      have HB4 := Aside0.mk (HB3.out.trans (hb4.mono hz1))
      have HEQ : Aside0 (Lib.compact (ys.map vtl) = (cmp (ys.map (·.1))).map tl) := ⟨by rw [vtl_map, compact_map]⟩
      have HLN : Aside0 (ys.length = l.length) := ⟨by rw [HP.out.length_eq, ← HXS.out, List.length_map]⟩
      clear hc4 hf4 hb4
      generalize Lib.compact (ys.map vtl) = zs at *
      go_wp2_with (fail)
      refine (sclip_calls g zs.length cap _ hk).mono ?_
      rintro e w5 ⟨rfl, rfl⟩
      go_wp2_with (fail)
      go_ret2
      have hlz : zs.length = (cmp (ys.map (·.1))).length := by rw [HEQ.out, List.length_map]
      refine ⟨HB4.out, .inl ⟨HALL.out, .slice (some ⟨g, 0, none⟩) zs.length zs.length, cmp (ys.map (·.1)), rfl, ⟨some ⟨g, 0, none⟩, zs.length, by rw [hlz], fun _ => ⟨g, rfl, by omega, hg2, fun j hj => ?_, HF4.out⟩⟩, ?_, ?_⟩⟩
      · have hj2 : j < zs.length := by omega
        rw [HC4.out j hj2]
        have e : zs[j]'hj2 = tl ((cmp (ys.map (·.1)))[j]'hj) := by
          have := List.getElem_of_eq HEQ.out hj2
          rw [this, List.getElem_map]
        rw [e]
      · refine cmp_rs ltB_irrefl ltB_trans HS.out (fun y => ?_)
        rw [← HXS.out]
        exact (HP.out.map (·.1)).mem_iff
      · have := cmp_len (ys.map (·.1))
        rw [List.length_map] at this
        have := HLN.out
        omega
  · have HB1 := Aside0.mk hb1
    have HN := Aside0.mk h1
    clear hb1 h1
    go_wp2_with (fail)
    go_ret2
    exact ⟨HB1.out, .inr ⟨HN.out, rfl⟩⟩
end Go.Proofs.YthnajibbkinlkaaGreatDoor.PV

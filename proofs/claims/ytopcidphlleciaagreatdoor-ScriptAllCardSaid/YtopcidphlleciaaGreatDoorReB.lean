/- The document's Number. -/
import Derived.Test.YtopcidphlleciaaGreatDoorReA
import Derived.Test.YtopcidphlleciaaGreatDoorProE
namespace Go.Proofs.YtopcidphlleciaaGreatDoor.S
open Go.RowKit Go.Extern.Stop Go.Stop Go.Extern Go.Proofs.YtopcidphlleciaaGreatDoorW.PrintWords Go.Proofs.YtopcidphlleciaaGreatDoorW.PrintLast Go.Proofs.YtopcidphlleciaaGreatDoorW.PrintMore
set_option linter.unusedVariables false
set_option linter.unusedSimpArgs false
theorem decF_snoc (l : BL) (c : UInt8) : decF 0 (l ++ [c]) = decF 0 l * 10 + (c.toNat - 48) := by unfold decF; rw [List.foldl_append]; rfl
theorem decF_lt : ∀ (m : Nat) (l : BL), l.length = m → l.all dgc = true → decF 0 l < 10 ^ m := by
  intro m
  induction m with
  | zero => intro l hl _; rw [List.length_eq_zero_iff.1 hl]; exact Nat.one_pos
  | succ m ih =>
    intro l hl ha
    have hne : l ≠ [] := fun q => by rw [q] at hl; simp at hl
    obtain ⟨r, c, rfl⟩ : ∃ r c, l = r ++ [c] := ⟨l.dropLast, l.getLast hne, (List.dropLast_concat_getLast hne).symm⟩
    rw [List.all_append, Bool.and_eq_true] at ha
    have hc : 48 ≤ c.toNat ∧ c.toNat ≤ 57 := of_decide_eq_true (by have := ha.2; simpa [dgc] using this)
    have := ih r (by simp at hl; omega) ha.1
    rw [decF_snoc, Nat.pow_succ]
    omega
set_option maxHeartbeats 16000000 in
set_option maxRecDepth 100000 in
theorem rnumber_no (s : ByteArray) (w : World) (h : tl s = [] ∨ 10 < s.size ∨ (1 < s.size ∧ (tl s).head? = some 48)) (hs : s.size ≤ 140737488351232) : Calls Tryz.prog 48 #[.string s] w fun e w' => e = .returned (.tuple #[.int .i64 0, .bool false]) ∧ w = w' := by
  by_cases h0 : tl s = []
  · have hs0 : s = ⟨#[]⟩ := tl_inj h0
    subst hs0
    go_enter Tryz.func48, Tryz.ntmps48
    go_wp2
    go_ret2
    exact ⟨rfl, rfl⟩
  · have hne : (s.toList == []) = false := by
      rw [beq_eq_false_iff_ne, ByteArray.toList_eq]
      exact h0
    by_cases h10 : 10 < s.size
    · have h10' : (10 : Int) < (s.size : Int) := by omega
      clear h h0 h10
      go_enter Tryz.func48, Tryz.ntmps48
      go_wp2
      go_ret2
      exact ⟨rfl, rfl⟩
    · have h10' : ¬ (10 : Int) < (s.size : Int) := by omega
      have h1 : 1 < s.size ∧ (tl s).head? = some 48 := by
        rcases h with h | h | h
        · exact absurd h h0
        · exact absurd h h10
        · exact h
      have h1' : (1 : Int) < (s.size : Int) := by omega
      have hp : 0 < s.size := by omega
      have hc : s[0]'hp = 48 := by
        have e := h1.2
        rw [List.head?_eq_getElem?, List.getElem?_eq_getElem (by rw [Array.length_toList]; exact hp)] at e
        injection e
      clear h h0 h10 h1
      go_enter Tryz.func48, Tryz.ntmps48
      go_wp2
      go_ret2
      exact ⟨rfl, rfl⟩
theorem all_not {l : BL} {k : Nat} {c : UInt8} (h : l[k]? = some c) (hc : dgc c = false) : l.all dgc = false := by
  rw [List.all_eq_false]
  obtain ⟨hk, e⟩ := List.getElem?_eq_some_iff.1 h
  exact ⟨c, by rw [← e]; exact List.getElem_mem hk, by rw [hc]; decide⟩
set_option maxHeartbeats 16000000 in
set_option maxRecDepth 100000 in
theorem rnumber_yes (s : ByteArray) (w : World) (h0 : tl s ≠ []) (h10 : s.size ≤ 10) (hz : ¬ (1 < s.size ∧ (tl s).head? = some 48)) : Calls Tryz.prog 48 #[.string s] w fun e w' => e = .returned (numV (tl s)) ∧ w = w' := by
  have hne : (s.toList == []) = false := by
    rw [beq_eq_false_iff_ne, ByteArray.toList_eq]
    exact h0
  have HL : Aside0 ((tl s).length = s.size) := ⟨Array.length_toList⟩
  have hsp : 0 < s.size := by have := List.length_pos_iff.2 h0; rw [HL.out] at this; exact this
  have h10' : ¬ (10 : Int) < (s.size : Int) := by omega
  have HC : Aside0 (can (tl s) = (tl s).all dgc) := ⟨by
    unfold can
    have h2 : (decide (1 < (tl s).length) && decide ((tl s).head? = some 48)) = false := by
      rw [Bool.and_eq_false_iff, decide_eq_false_iff_not, decide_eq_false_iff_not, HL.out]
      by_cases q : 1 < s.size
      · exact .inr (fun q2 => hz ⟨q, q2⟩)
      · exact .inl q
    rw [h2, decide_eq_true h0, decide_eq_true (by rw [HL.out]; exact h10)]
    simp⟩
  obtain ⟨c0, hc0⟩ : ∃ c0, s[0]'hsp = c0 := ⟨_, rfl⟩
  have hz' : 1 < s.size → ((c0.toNat : Int) == 48) = false := fun q => by
    rw [beq_eq_false_iff_ne]
    intro q2
    refine hz ⟨q, ?_⟩
    rw [List.head?_eq_getElem?, List.getElem?_eq_getElem (by rw [Array.length_toList]; exact hsp)]
    show some s[0] = some 48
    rw [hc0]
    congr 1
    exact UInt8.toNat_inj.1 (by show c0.toNat = 48; omega)
  obtain ⟨res, hres⟩ : ∃ r, numV (tl s) = r := ⟨_, rfl⟩
  rw [hres]
  have HRES := Aside0.mk hres
  have hbad : (tl s).all dgc = false → res = .tuple #[.int .i64 0, .bool false] := fun q => by
    rw [← hres]
    have : numO (tl s) = none := by unfold numO; rw [if_neg (by rw [HC.out, q]; rintro ⟨h, _⟩; cases h)]
    unfold numV
    rw [this]
    rfl
  have HBAD := Aside0.mk hbad
  have HZ := Aside0.mk hz'
  clear h0 hz hres hbad hz'
  by_cases h1 : 1 < s.size
  case' pos =>
    have h1' : (1 : Int) < (s.size : Int) := by omega
    have hz1 := HZ.out h1
  case' neg =>
    have h1' : ¬ (1 : Int) < (s.size : Int) := by omega
  all_goals
    clear h1
    go_enter Tryz.func48, Tryz.ntmps48
    go_wp2_with (fail)
    go_loop [4, 5] (fun v4 v5 => ∃ (k : Nat) (a : Int), k ≤ s.size ∧ v5 = .int .i64 k ∧ v4 = .int .i64 a ∧ 0 ≤ a ∧ a ≤ 9999999999 ∧ Aside0 (a = (decF 0 ((tl s).take k) : Int) ∧ ((tl s).take k).all dgc = true)) (fun _ v5 => s.size - (intOf v5).toNat)
    case atStart => exact ⟨0, 0, Nat.zero_le _, rfl, rfl, by omega, by omega, ⟨by rw [List.take_zero]; rfl, by rw [List.take_zero]; rfl⟩⟩
    case round =>
      obtain ⟨k, a, hk, rfl, rfl, ha0, ha1, HX⟩ := hrel
      by_cases hlt : k < s.size
      · have hlt' : (k : Int) < (s.size : Int) := by omega
        have h0' : (0 : Int) ≤ (k : Int) := by omega
        obtain ⟨c, hc⟩ : ∃ c, s[k]'hlt = c := ⟨_, rfl⟩
        have HG : Aside0 ((tl s)[k]? = some c) := ⟨by rw [List.getElem?_eq_getElem (by rw [HL.out]; exact hlt)]; exact congrArg some hc⟩
        have hc256 : c.toNat < 256 := c.toNat_lt
        by_cases hd : 48 ≤ c.toNat ∧ c.toNat ≤ 57
        · obtain ⟨hd1, hd2⟩ := hd
          have e1 : ¬ (c.toNat : Int) < 48 := by omega
          have e2 : ¬ (57 : Int) < (c.toNat : Int) := by omega
          have HT : Aside0 ((tl s).take (k + 1) = (tl s).take k ++ [c]) := ⟨by
            rw [List.take_add_one, HG.out]; rfl⟩
          have HA : Aside0 (((tl s).take (k + 1)).all dgc = true) := ⟨by
            rw [HT.out, List.all_append, HX.out.2]
            simp only [List.all_cons, List.all_nil, Bool.and_true, Bool.true_and]
            exact decide_eq_true ⟨hd1, hd2⟩⟩
          have HV : Aside0 (10 * a + ((c.toNat : Int) - 48) = (decF 0 ((tl s).take (k + 1)) : Int)) := ⟨by
            rw [HT.out, decF_snoc, HX.out.1]
            omega⟩
          have hb : 10 * a + ((c.toNat : Int) - 48) ≤ 9999999999 := by
            have h3 := decF_lt _ ((tl s).take (k + 1)) rfl HA.out
            have h4 : ((tl s).take (k + 1)).length ≤ 10 := by rw [List.length_take]; omega
            have h5 := Nat.pow_le_pow_right (show 0 < 10 by omega) h4
            have h6 := HV.out
            omega
          clear hd1 hd2
          go_wp2
          first | (go_round; case rel => exact ⟨k + 1, _, by omega, by simp, rfl, by omega, hb, ⟨HV.out, HA.out⟩⟩; case measure => simp [intOf]; omega) | exact ⟨⟨k + 1, _, by omega, by simp, rfl, by omega, hb, ⟨HV.out, HA.out⟩⟩, by simp [intOf]; omega⟩
        · have HB := Aside0.mk (HBAD.out (all_not HG.out (decide_eq_false hd)))
          by_cases hlo : c.toNat < 48
          · have e1 : (c.toNat : Int) < 48 := by omega
            clear hd hlo
            go_wp2
            go_ret2
            exact ⟨by rw [HB.out]; rfl, rfl⟩
          · have e1 : ¬ (c.toNat : Int) < 48 := by omega
            have e2 : (57 : Int) < (c.toNat : Int) := by omega
            clear hd hlo
            go_wp2
            go_ret2
            exact ⟨by rw [HB.out]; rfl, rfl⟩
      · have hlt' : ¬ (k : Int) < (s.size : Int) := by omega
        have HK : Aside0 ((tl s).take k = tl s) := ⟨List.take_of_length_le (by rw [HL.out]; omega)⟩
        by_cases hm : 2147483647 < a
        · have HB : Aside0 (res = .tuple #[.int .i64 0, .bool false]) := ⟨by
            rw [← HRES.out]
            have h2 := HX.out.1
            rw [HK.out] at h2
            have : numO (tl s) = none := by unfold numO; rw [if_neg (by rintro ⟨_, h⟩; omega)]
            unfold numV
            rw [this]
            rfl⟩
          go_wp2
          go_ret2
          exact ⟨by rw [HB.out]; rfl, rfl⟩
        · have HB : Aside0 (res = .tuple #[.int .i64 a, .bool true]) := ⟨by
            rw [← HRES.out]
            have h2 := HX.out
            rw [HK.out] at h2
            have : numO (tl s) = some (decF 0 (tl s)) := by unfold numO; rw [if_pos ⟨by rw [HC.out]; exact h2.2, by omega⟩]
            unfold numV
            rw [this, h2.1]
            rfl⟩
          go_wp2
          go_ret2
          exact ⟨by rw [HB.out]; rfl, rfl⟩
theorem rnumber_calls (s : ByteArray) (w : World) (hs : s.size ≤ 140737488351232) : Calls Tryz.prog 48 #[.string s] w fun e w' => e = .returned (numV (tl s)) ∧ w = w' := by
  have hl : (tl s).length = s.size := Array.length_toList
  by_cases h : tl s = [] ∨ 10 < s.size ∨ (1 < s.size ∧ (tl s).head? = some 48)
  · have hn : numO (tl s) = none := by
      unfold numO
      rw [if_neg]
      rintro ⟨hc, _⟩
      unfold can at hc
      simp only [Bool.and_eq_true, decide_eq_true_eq, Bool.not_eq_true', Bool.and_eq_false_iff, decide_eq_false_iff_not] at hc
      obtain ⟨_, h1, h2, h3⟩ := hc
      rcases h with h | h | ⟨h, h'⟩
      · exact h1 h
      · omega
      · rcases h3 with h3 | h3
        · exact h3 (by omega)
        · exact h3 h'
    have := rnumber_no s w h hs
    unfold numV
    rw [hn]
    exact this
  · exact rnumber_yes s w (fun q => h (.inl q)) (by have : ¬ 10 < s.size := fun q => h (.inr (.inl q)); omega) (fun q => h (.inr (.inr q)))
end Go.Proofs.YtopcidphlleciaaGreatDoor.S

/- The document's goes. -/
import Derived.Test.YtopcidphlleciaaGreatDoorReC
namespace Go.Proofs.YtopcidphlleciaaGreatDoor.S
open Go.RowKit Go.Extern.Stop Go.Stop Go.Extern Go.Proofs.YtopcidphlleciaaGreatDoorW.PrintWords Go.Proofs.YtopcidphlleciaaGreatDoorW.PrintLast Go.Proofs.YtopcidphlleciaaGreatDoorW.PrintMore
set_option linter.unusedVariables false
set_option linter.unusedSimpArgs false
def goV (s : BL) : Bool × Bool := if s = [37] then (true, true) else match sc s with
  | .bad _ => (false, false)
  | .short => (true, false)
  | .ok _ => (true, decide (0 < s.length))
/-- Does one of the low digits below j make no plain byte with this high one? -/
def partH (b : UInt8) (j : Nat) : Bool := match hexi b with
  | some k => (List.range j).any fun m => !plC (UInt8.ofNat (16 * k + m))
  | none => false
theorem partH_zero (b : UInt8) : partH b 0 = false := by unfold partH; split <;> rfl
theorem partH_succ {b : UInt8} {k : Nat} (j : Nat) (h : hexi b = some k) : partH b (j + 1) = (partH b j || !plC (UInt8.ofNat (16 * k + j))) := by
  unfold partH
  rw [h]
  simp only [List.range_succ, List.any_append, List.any_cons, List.any_nil, Bool.or_false]
theorem partH_none {b : UInt8} (j : Nat) (h : hexi b = none) : partH b j = false := by unfold partH; rw [h]
theorem partH_all (b : UInt8) : partH b 16 = hiB b := by
  have h1 := byte_all (fun b => partH b 16 == hiB b) (by decide +kernel) b
  exact eq_of_beq h1
theorem sh_bad {x : Sc} {n : Nat} {a : BL} (k : Nat) (h : x = .bad k) : x.sh n a = .bad (k + n) := by rw [h]; rfl
theorem drop_byte (s : ByteArray) (k : Nat) (h : k < s.size) : (tl s).drop k = s[k] :: (tl s).drop (k + 1) := by
  rw [List.drop_eq_getElem_cons (by rw [Array.length_toList]; exact h)]
  rfl
theorem drop_fin (s : ByteArray) (k : Nat) (h : s.size ≤ k) : (tl s).drop k = [] := List.drop_eq_nil_of_le (by rw [Array.length_toList]; exact h)
theorem plain_at (k m : Nat) (hk : k < 16) (hm : m < 16) (w : World) : Calls Tryz.prog 59 #[.int .u8 (16 * (k : Int) + (m : Int))] w fun e w' => e = .returned (.bool (plC (UInt8.ofNat (16 * k + m)))) ∧ w = w' := by
  have h : 16 * (k : Int) + (m : Int) = ((UInt8.ofNat (16 * k + m)).toNat : Int) := by
    rw [UInt8.toNat_ofNat']
    omega
  rw [h]
  exact rplain_calls _ w
set_option maxHeartbeats 16000000 in
set_option maxRecDepth 100000 in
theorem goes_calls (s : ByteArray) (w : World) (hs : s.size ≤ 140737488351232) : Calls Tryz.prog 54 #[.string s] w fun e w' => e = .returned (.tuple #[.bool (goV (tl s)).1, .bool (goV (tl s)).2]) ∧ w = w' := by
  by_cases h0 : tl s = [37]
  · have hs0 : s = ⟨#[37]⟩ := tl_inj h0
    subst hs0
    go_enter Tryz.func54, Tryz.ntmps54
    go_wp2
    go_ret2
    exact ⟨rfl, rfl⟩
  · have hne : (s.toList == [37]) = false := by
      rw [beq_eq_false_iff_ne, ByteArray.toList_eq]
      exact h0
    have HL : Aside0 ((tl s).length = s.size) := ⟨Array.length_toList⟩
    obtain ⟨ra, hra⟩ : ∃ t, (goV (tl s)).1 = t := ⟨_, rfl⟩
    obtain ⟨rb, hrb⟩ : ∃ t, (goV (tl s)).2 = t := ⟨_, rfl⟩
    have HG : Aside0 (goV (tl s) = (ra, rb)) := ⟨by rw [← hra, ← hrb]⟩
    rw [hra, hrb]
    clear hra hrb
    have HGB : Aside0 (∀ k, sc (tl s) = .bad k → ra = false ∧ rb = false) := ⟨fun k h => by
      have := HG.out
      unfold goV at this
      rw [if_neg h0, h] at this
      injection this with h1 h2
      exact ⟨h1.symm, h2.symm⟩⟩
    have HGS : Aside0 (sc (tl s) = .short → ra = true ∧ rb = false) := ⟨fun h => by
      have := HG.out
      unfold goV at this
      rw [if_neg h0, h] at this
      injection this with h1 h2
      exact ⟨h1.symm, h2.symm⟩⟩
    have HGO : Aside0 (∀ o, sc (tl s) = .ok o → ra = true ∧ rb = decide (0 < s.size)) := ⟨fun o h => by
      have := HG.out
      unfold goV at this
      rw [if_neg h0, h] at this
      injection this with h1 h2
      exact ⟨h1.symm, by rw [← h2, HL.out]⟩⟩
    clear h0 HG
    go_enter Tryz.func54, Tryz.ntmps54
    go_wp2_with (fail)
    go_loop [4, 5, 6, 7, 8] (fun v4 v5 v6 v7 v8 => ∃ (k : Nat), k ≤ s.size ∧ v4 = .int .i64 k ∧ Aside0 (∃ x, sc (tl s) = (sc ((tl s).drop k)).sh k x)) (fun v4 _ _ _ _ => s.size - (intOf v4).toNat)
    case atStart => exact ⟨0, Nat.zero_le _, rfl, ⟨[], by rw [List.drop_zero, Sc.sh_zero]⟩⟩
    case round =>
      obtain ⟨k, hk, rfl, HX⟩ := hrel
      by_cases h1 : k < s.size
      · have h1' : (k : Int) < (s.size : Int) := by omega
        have h0' : (0 : Int) ≤ (k : Int) := by omega
        obtain ⟨c, hc⟩ : ∃ c, s[k]'h1 = c := ⟨_, rfl⟩
        have HD : Aside0 ((tl s).drop k = c :: (tl s).drop (k + 1)) := ⟨by rw [← hc]; exact drop_byte s k h1⟩
        cases hp : plC c
        case true =>
          have HP : Aside0 (∀ w, Calls Tryz.prog 59 #[.int .u8 (c.toNat : Int)] w fun e w' => e = .returned (.bool true) ∧ w = w') := ⟨fun w => by have := rplain_calls c w; rw [hp] at this; exact this⟩
          have HS : Aside0 (∃ x, sc (tl s) = (sc ((tl s).drop (k + 1))).sh (k + 1) x) := ⟨by
            obtain ⟨x, hx⟩ := HX.out
            rw [HD.out, sc_plain hp, Sc.sh_sh] at hx
            exact ⟨_, hx⟩⟩
          clear hp
          go_wp2_with (fail)
          refine (HP.out _).mono ?_
          rintro e w1 ⟨rfl, rfl⟩
          go_wp2_with (fail)
          all_goals first | exact ⟨⟨k + 1, by omega, by simp, HS⟩, by simp [intOf]; omega⟩ | (go_round; case rel => exact ⟨k + 1, by omega, by simp, HS⟩; case measure => simp [intOf]; omega)
        case false =>
          have HP : Aside0 (∀ w, Calls Tryz.prog 59 #[.int .u8 (c.toNat : Int)] w fun e w' => e = .returned (.bool false) ∧ w = w') := ⟨fun w => by have := rplain_calls c w; rw [hp] at this; exact this⟩
          by_cases h37 : c = 37
          · subst h37
            by_cases hk1 : k + 1 < s.size
            · have hk1' : ((k : Int) + 1 == (s.size : Int)) = false := by rw [beq_eq_false_iff_ne]; omega
              have hk1b : (k : Int) + 1 < (s.size : Int) := by omega
              obtain ⟨b, hb⟩ : ∃ b, s[k + 1]'hk1 = b := ⟨_, rfl⟩
              have HD1 : Aside0 ((tl s).drop (k + 1) = b :: (tl s).drop (k + 2)) := ⟨by rw [← hb]; exact drop_byte s (k + 1) hk1⟩
              cases hx : hexi b with
              | none =>
                have hkb : ixI b = -1 := by unfold ixI; rw [hx]
                have HI : Aside0 (∀ w, Calls Tryz.prog 55 #[.int .u8 (b.toNat : Int)] w fun e w' => e = .returned (.int .i64 (-1)) ∧ w = w') := ⟨fun w => by have := rdigit_calls b w; rw [hkb] at this; exact this⟩
                have HR := Aside0.mk (HGB.out (k + 1) (by
                  obtain ⟨x, hx2⟩ := HX.out
                  rw [HD.out, HD1.out, sc_hi (by unfold hiB; rw [hx])] at hx2
                  rw [hx2]
                  show Sc.bad (1 + k) = _
                  rw [Nat.add_comm]))
                clear hp hkb hx
                go_wp2_with (fail)
                refine (HP.out _).mono ?_
                rintro e w1 ⟨rfl, rfl⟩
                go_wp2_with (fail)
                refine (HI.out _).mono ?_
                rintro e w1 ⟨rfl, rfl⟩
                go_wp2_with (fail)
                go_loop [6, 7] (fun v6 v7 => ∃ (i : Nat), i ≤ 16 ∧ v7 = .int .i64 i ∧ v6 = .bool false) (fun _ v7 => 16 - (intOf v7).toNat)
                case atStart => exact ⟨0, by omega, rfl, rfl⟩
                case round =>
                  obtain ⟨i, hi, rfl, rfl⟩ := hrel
                  by_cases h2 : i < 16
                  · have h2' : (i : Int) < 16 := by omega
                    clear h2
                    go_wp2_with (fail)
                    all_goals first | exact ⟨⟨i + 1, by omega, by simp, rfl⟩, by simp [intOf]; omega⟩ | (go_round; case rel => exact ⟨i + 1, by omega, by simp, rfl⟩; case measure => simp [intOf]; omega)
                  · have h2' : ¬ (i : Int) < 16 := by omega
                    clear h2
                    go_wp2_with (fail)
                    go_ret2
                    exact ⟨by rw [HR.out.1, HR.out.2]; rfl, rfl⟩
              | some q =>
                have hq16 := hexi_lt hx
                have hkb : ixI b = (q : Int) := by unfold ixI; rw [hx]
                have HQ := Aside0.mk hx
                have hq0 : (0 : Int) ≤ (q : Int) := by omega
                have HI : Aside0 (∀ w, Calls Tryz.prog 55 #[.int .u8 (b.toNat : Int)] w fun e w' => e = .returned (.int .i64 (q : Int)) ∧ w = w') := ⟨fun w => by have := rdigit_calls b w; rw [hkb] at this; exact this⟩
                clear hp hkb hx
                go_wp2_with (fail)
                refine (HP.out _).mono ?_
                rintro e w1 ⟨rfl, rfl⟩
                go_wp2_with (fail)
                refine (HI.out _).mono ?_
                rintro e w1 ⟨rfl, rfl⟩
                go_wp2_with (fail)
                go_loop [6, 7] (fun v6 v7 => ∃ (i : Nat), i ≤ 16 ∧ v7 = .int .i64 i ∧ v6 = .bool (partH b i)) (fun _ v7 => 16 - (intOf v7).toNat)
                case atStart => exact ⟨0, by omega, rfl, by rw [partH_zero]⟩
                case round =>
                  obtain ⟨i, hi, rfl, rfl⟩ := hrel
                  by_cases h2 : i < 16
                  · have h2' : (i : Int) < 16 := by omega
                    cases hpi : partH b i
                    case true =>
                      have HS : Aside0 (true = partH b (i + 1)) := ⟨by rw [partH_succ i HQ.out, hpi]; rfl⟩
                      clear h2 hpi
                      go_wp2_with (fail)
                      all_goals first | exact ⟨⟨i + 1, by omega, by simp, by first | rw [← HS.out] | simp [← HS.out]⟩, by simp [intOf]; omega⟩ | (go_round; case rel => exact ⟨i + 1, by omega, by simp, by first | rw [← HS.out] | simp [← HS.out]⟩; case measure => simp [intOf]; omega)
                    case false =>
                      obtain ⟨pv, hpv⟩ : ∃ pv, plC (UInt8.ofNat (16 * q + i)) = pv := ⟨_, rfl⟩
                      have HS : Aside0 ((!pv) = partH b (i + 1)) := ⟨by rw [partH_succ i HQ.out, hpi, hpv]; rfl⟩
                      have HPX : Aside0 (∀ w, Calls Tryz.prog 59 #[.int .u8 (16 * (q : Int) + (i : Int))] w fun e w' => e = .returned (.bool pv) ∧ w = w') := ⟨fun w => by have := plain_at q i hq16 h2 w; rw [hpv] at this; exact this⟩
                      clear h2 hpi hpv
                      go_wp2_with (fail)
                      refine (HPX.out _).mono ?_
                      rintro e w1 ⟨rfl, rfl⟩
                      go_wp2_with (fail)
                      all_goals first | exact ⟨⟨i + 1, by omega, by simp, by first | rw [← HS.out] | simp [← HS.out]⟩, by simp [intOf]; omega⟩ | (go_round; case rel => exact ⟨i + 1, by omega, by simp, by first | rw [← HS.out] | simp [← HS.out]⟩; case measure => simp [intOf]; omega)
                  · have h2' : ¬ (i : Int) < 16 := by omega
                    obtain rfl : i = 16 := by omega
                    rw [partH_all]
                    cases hh : hiB b
                    case false =>
                      have HR := Aside0.mk (HGB.out (k + 1) (by
                        obtain ⟨x, hx2⟩ := HX.out
                        rw [HD.out, HD1.out, sc_hi hh] at hx2
                        rw [hx2]
                        show Sc.bad (1 + k) = _
                        rw [Nat.add_comm]))
                      clear h2 hh
                      go_wp2_with (fail)
                      go_ret2
                      exact ⟨by rw [HR.out.1, HR.out.2]; rfl, rfl⟩
                    case true =>
                      have HH := Aside0.mk hh
                      clear h2 hh
                      by_cases hk2 : k + 2 < s.size
                      · have hk2' : ((k : Int) + 2 == (s.size : Int)) = false := by rw [beq_eq_false_iff_ne]; omega
                        have hk2b : (k : Int) + 2 < (s.size : Int) := by omega
                        obtain ⟨l, hl⟩ : ∃ l, s[k + 2]'hk2 = l := ⟨_, rfl⟩
                        have HD2 : Aside0 ((tl s).drop (k + 2) = l :: (tl s).drop (k + 3)) := ⟨by rw [← hl]; exact drop_byte s (k + 2) hk2⟩
                        cases hxl : hexi l with
                        | none =>
                          have hkl : ixI l = -1 := by unfold ixI; rw [hxl]
                          have HI2 : Aside0 (∀ w, Calls Tryz.prog 55 #[.int .u8 (l.toNat : Int)] w fun e w' => e = .returned (.int .i64 (-1)) ∧ w = w') := ⟨fun w => by have := rdigit_calls l w; rw [hkl] at this; exact this⟩
                          have hlo : loB b l = false := by unfold loB; rw [hxl]; cases hexi b <;> rfl
                          have HR := Aside0.mk (HGB.out (k + 2) (by
                            obtain ⟨x, hx⟩ := HX.out
                            rw [HD.out, HD1.out, HD2.out, sc_lo HH.out hlo] at hx
                            rw [hx]
                            show Sc.bad (2 + k) = _
                            rw [Nat.add_comm]))
                          clear hkl hlo hxl hi
                          go_wp2_with (fail)
                          refine (HI2.out _).mono ?_
                          rintro e w1 ⟨rfl, rfl⟩
                          go_wp2_with (fail)
                          go_ret2
                          exact ⟨by rw [HR.out.1, HR.out.2]; rfl, rfl⟩
                        | some m =>
                          have hm16 := hexi_lt hxl
                          have hkl : ixI l = (m : Int) := by unfold ixI; rw [hxl]
                          have HI2 : Aside0 (∀ w, Calls Tryz.prog 55 #[.int .u8 (l.toNat : Int)] w fun e w' => e = .returned (.int .i64 (m : Int)) ∧ w = w') := ⟨fun w => by have := rdigit_calls l w; rw [hkl] at this; exact this⟩
                          have hlo : loB b l = !plC (UInt8.ofNat (16 * q + m)) := by unfold loB; rw [HQ.out, hxl]
                          have hm0 : ¬ (m : Int) < 0 := by omega
                          cases hpx : plC (UInt8.ofNat (16 * q + m))
                          case true =>
                            have HPX : Aside0 (∀ w, Calls Tryz.prog 59 #[.int .u8 (16 * (q : Int) + (m : Int))] w fun e w' => e = .returned (.bool true) ∧ w = w') := ⟨fun w => by have := plain_at q m hq16 hm16 w; rw [hpx] at this; exact this⟩
                            have HR := Aside0.mk (HGB.out (k + 2) (by
                              obtain ⟨x, hx⟩ := HX.out
                              rw [HD.out, HD1.out, HD2.out, sc_lo HH.out (by rw [hlo, hpx]; rfl)] at hx
                              rw [hx]
                              show Sc.bad (2 + k) = _
                              rw [Nat.add_comm]))
                            clear hkl hlo hxl hpx hi
                            go_wp2_with (fail)
                            refine (HI2.out _).mono ?_
                            rintro e w1 ⟨rfl, rfl⟩
                            go_wp2_with (fail)
                            refine (HPX.out _).mono ?_
                            rintro e w1 ⟨rfl, rfl⟩
                            go_wp2_with (fail)
                            go_ret2
                            exact ⟨by rw [HR.out.1, HR.out.2]; rfl, rfl⟩
                          case false =>
                            have HPX : Aside0 (∀ w, Calls Tryz.prog 59 #[.int .u8 (16 * (q : Int) + (m : Int))] w fun e w' => e = .returned (.bool false) ∧ w = w') := ⟨fun w => by have := plain_at q m hq16 hm16 w; rw [hpx] at this; exact this⟩
                            have HS : Aside0 (∃ x, sc (tl s) = (sc ((tl s).drop (k + 3))).sh (k + 3) x) := ⟨by
                              obtain ⟨x, hx⟩ := HX.out
                              rw [HD.out, HD1.out, HD2.out, sc_yes HH.out (by rw [hlo, hpx]; rfl), Sc.sh_sh] at hx
                              exact ⟨_, hx⟩⟩
                            clear hkl hlo hxl hpx hi
                            go_wp2_with (fail)
                            refine (HI2.out _).mono ?_
                            rintro e w1 ⟨rfl, rfl⟩
                            go_wp2_with (fail)
                            refine (HPX.out _).mono ?_
                            rintro e w1 ⟨rfl, rfl⟩
                            go_wp2_with (fail)
                            all_goals first | exact ⟨⟨k + 3, by omega, by first | (simp; done) | (simp; omega) | (congr 1; omega), HS⟩, by simp [intOf]; omega⟩ | (go_round; case rel => exact ⟨k + 3, by omega, by first | (simp; done) | (simp; omega) | (congr 1; omega), HS⟩; case measure => simp [intOf]; omega)
                      · have hk2' : ((k : Int) + 2 == (s.size : Int)) = true := by rw [beq_iff_eq]; omega
                        have HR := Aside0.mk (HGS.out (by
                          obtain ⟨x, hx⟩ := HX.out
                          rw [HD.out, HD1.out, drop_fin s (k + 2) (by omega), sc_2 HH.out] at hx
                          exact hx))
                        clear hi
                        go_wp2_with (fail)
                        go_ret2
                        exact ⟨by rw [HR.out.1, HR.out.2]; rfl, rfl⟩
            · have hk1' : ((k : Int) + 1 == (s.size : Int)) = true := by rw [beq_iff_eq]; omega
              have HR := Aside0.mk (HGS.out (by
                obtain ⟨x, hx⟩ := HX.out
                rw [HD.out, drop_fin s (k + 1) (by omega), sc_1] at hx
                exact hx))
              clear hp
              go_wp2_with (fail)
              refine (HP.out _).mono ?_
              rintro e w1 ⟨rfl, rfl⟩
              go_wp2_with (fail)
              go_ret2
              exact ⟨by rw [HR.out.1, HR.out.2]; rfl, rfl⟩
          · have h37' : ((c.toNat : Int) == 37) = false := by
              rw [beq_eq_false_iff_ne]
              exact fun q => h37 (UInt8.toNat_inj.1 (by show c.toNat = 37; omega))
            have HR := Aside0.mk (HGB.out k (by
              obtain ⟨x, hx⟩ := HX.out
              rw [HD.out, sc_no hp h37] at hx
              rw [hx]
              show Sc.bad (0 + k) = _
              rw [Nat.zero_add]))
            clear hp h37
            go_wp2_with (fail)
            refine (HP.out _).mono ?_
            rintro e w1 ⟨rfl, rfl⟩
            go_wp2_with (fail)
            go_ret2
            exact ⟨by rw [HR.out.1, HR.out.2]; rfl, rfl⟩
      · have h1' : ¬ (k : Int) < (s.size : Int) := by omega
        have HR : Aside0 (ra = true ∧ rb = decide (0 < s.size)) := ⟨by
          obtain ⟨x, hx⟩ := HX.out
          rw [drop_fin s k (by omega)] at hx
          exact HGO.out _ hx⟩
        by_cases hz : 0 < s.size
        · have hz' : (0 : Int) < (s.size : Int) := by omega
          go_wp2_with (fail)
          go_ret2
          exact ⟨by rw [HR.out.1, HR.out.2, decide_eq_true hz]; first | rfl | simp, rfl⟩
        · have hz' : ¬ (0 : Int) < (s.size : Int) := by omega
          go_wp2_with (fail)
          go_ret2
          exact ⟨by rw [HR.out.1, HR.out.2, decide_eq_false hz]; first | rfl | simp, rfl⟩
end Go.Proofs.YtopcidphlleciaaGreatDoor.S

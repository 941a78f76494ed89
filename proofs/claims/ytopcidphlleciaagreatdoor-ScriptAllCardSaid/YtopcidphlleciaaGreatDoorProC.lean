/- Unwrite. -/
import Derived.Test.YtopcidphlleciaaGreatDoorProB
namespace Go.Proofs.YtopcidphlleciaaGreatDoor.S
open Go.RowKit Go.Extern.Stop Go.Stop Go.Extern Go.Proofs.YtopcidphlleciaaGreatDoorW.PrintWords Go.Proofs.YtopcidphlleciaaGreatDoorW.PrintLast Go.Proofs.YtopcidphlleciaaGreatDoorW.PrintMore
set_option linter.unusedVariables false
set_option linter.unusedSimpArgs false
theorem plainAt (c : UInt8) (b : Bool) (h : plC c = b) : Aside0 (∀ w, Calls Tryz.prog 49 #[.int .u8 (c.toNat : Int)] w fun e w' => e = .returned (.bool b) ∧ w = w') := ⟨fun w => by have := plain_calls c w; rw [h] at this; exact this⟩
theorem highAt (c : UInt8) (k : Int) (b : Bool) (h : hiB c = b) (hk : ixI c = k) : Aside0 (∀ w, Calls Tryz.prog 51 #[.int .i64 k] w fun e w' => e = .returned (.bool b) ∧ w = w') := ⟨fun w => by have := high_calls c w; rw [h, hk] at this; exact this⟩
theorem idxAt (c : UInt8) (k : Int) (hk : ixI c = k) : Aside0 (∀ w, Calls Tryz.prog 50 #[.string ⟨#[48, 49, 50, 51, 52, 53, 54, 55, 56, 57, 97, 98, 99, 100, 101, 102]⟩, .int .u8 (c.toNat : Int)] w fun e w' => e = .returned (.int .i64 k) ∧ w = w') := ⟨fun w => by have := idx_calls c w; rw [hk] at this; exact this⟩
theorem bits_or (q m : Nat) (hq : q < 16) (hm : m < 16) : bits BinOp.or IntKind.i64 ((q : Int) * 16) (m : Int) % 256 = ((UInt8.ofNat (16 * q + m)).toNat : Int) := by
  have h : (List.range 256).all (fun n => decide (bits BinOp.or IntKind.i64 (((n / 16 : Nat) : Int) * 16) ((n % 16 : Nat) : Int) % 256 = ((UInt8.ofNat (16 * (n / 16) + n % 16)).toNat : Int))) = true := by decide +kernel
  have h1 := of_decide_eq_true (List.all_eq_true.1 h (16 * q + m) (List.mem_range.2 (by omega)))
  rw [show (16 * q + m) / 16 = q by omega, show (16 * q + m) % 16 = m by omega] at h1
  exact h1
theorem drop_at {s : ByteArray} {k : Nat} (h : k < s.size) : (tl s).drop k = s[k]'h :: (tl s).drop (k + 1) := by
  rw [List.drop_eq_getElem_cons (by rw [Array.length_toList]; exact h)]
  rfl
theorem drop_end {s : ByteArray} {k : Nat} (h : s.size ≤ k) : (tl s).drop k = [] := List.drop_of_length_le (by rw [Array.length_toList]; exact h)
def unwV (r : BL × Nat × Bool) : Value := .tuple #[.string ⟨r.1.toArray⟩, .int .i64 (r.2.1 : Int), .bool r.2.2]
theorem unw_bad {s : BL} {k : Nat} (h : s ≠ [37]) (h2 : sc s = .bad k) : unw s = ([], k, false) := by unfold unw; rw [if_neg h, h2]
theorem unw_short {s : BL} (h : s ≠ [37]) (h2 : sc s = .short) : unw s = ([], s.length, false) := by unfold unw; rw [if_neg h, h2]
theorem unw_ok {s o : BL} (h : s ≠ [37]) (h2 : sc s = .ok o) (h3 : o ≠ []) : unw s = (o, 0, true) := by unfold unw; rw [if_neg h, h2]; simp only; rw [if_neg h3]
theorem unw_nil {s : BL} (h : s ≠ [37]) (h2 : sc s = .ok []) : unw s = ([], 0, false) := by unfold unw; rw [if_neg h, h2]; rfl
set_option maxHeartbeats 32000000 in
set_option maxRecDepth 100000 in
theorem unwrite_calls (s : ByteArray) (w : World) (hs : s.size ≤ 4000000) : Calls Tryz.prog 24 #[.string s] w fun e w' => e = .returned (unwV (unw (tl s))) ∧ Below w.heap.size w w' := by
  obtain ⟨i0, hi0, hz0, hz1, hz2⟩ := info_parts info5
  by_cases h37 : tl s = [37]
  · have hs0 : s = ⟨#[37]⟩ := tl_inj h37
    subst hs0
    go_enter Tryz.func24, Tryz.ntmps24
    go_wp2
    exact bodyPost_ret (results_list (rs := [_, _, _]) Tryz.results24 (by simp) (.tmp (.tmp (.tmp .nil)))) rfl ⟨rfl, Below.refl _ _⟩
  · have hne : (s.toList == [37]) = false := by
      rw [beq_eq_false_iff_ne, ByteArray.toList_eq]
      exact h37
    have H37 := Aside0.mk h37
    obtain ⟨res, hres⟩ : ∃ r, unwV (unw (tl s)) = r := ⟨_, rfl⟩
    rw [hres]
    have HRES := Aside0.mk hres
    clear h37 hres
    go_enter Tryz.func24, Tryz.ntmps24
    go_wp2_with (fail)
    go_loopw [5, 6] (fun v5 v6 ww => ∃ (k : Nat) (acc : BL), k ≤ s.size ∧ v6 = .int .i64 k ∧ ww.ownsRow w.heap.size 5 1 v5 acc.length (acc.map encU) ∧ Aside0 (Below w.heap.size w ww ∧ (sc ((tl s).drop k)).sh k acc = sc (tl s)) ∧ acc.length ≤ k) (fun _ v6 _ => s.size - (intOf v6).toNat)
    case atStart => exact ⟨0, [], Nat.zero_le _, rfl, World.ownsRow_nil _ _ _ _, ⟨Below.refl _ _, by rw [List.drop_zero]; exact Sc.sh_zero _⟩, Nat.zero_le _⟩
    case round =>
      obtain ⟨k, acc, hk, rfl, hrow, HX, hlen⟩ := hrel
      by_cases h1 : k < s.size
      · have h1' : (k : Int) < (s.size : Int) := by omega
        have h0' : (0 : Int) ≤ (k : Int) := by omega
        have HD := Aside0.mk (drop_at h1)
        obtain ⟨c, hc⟩ : ∃ c, s[k]'h1 = c := ⟨_, rfl⟩
        rw [hc] at HD
        have hsz := HX.out.1.size
        cases hp : plC c
        case true =>
          have HP := plainAt c true hp
          have HS : Aside0 ((sc ((tl s).drop (k + 1))).sh (k + 1) (acc ++ [c]) = sc (tl s)) := ⟨by rw [← HX.out.2, HD.out, sc_plain hp, Sc.sh_sh]⟩
          clear hp
          go_wp2_with (fail)
          refine (HP.out _).mono ?_
          rintro e w1 ⟨rfl, rfl⟩
          go_wp2_with (first
            | (at_builtin; refine wpList_append_own _ rfl _ _ 57 rfl w.heap.size 5 i0 (.int .u8 0) 1 1 Tryz.underlying57 hi0 hz0 hz1 hz2 rfl (by decide) _ _ _ rfl (hrow.alloc _) ⟨wr.heap.size, 0, none⟩ 1 1 [encU c] rfl rfl (cell_one_new _ _ _) (by simp [Value.oneCell', encU]) (by unfold maxLen; omega) (by omega) (by simp; omega) ?_; intro v' w3 hown' hg3 hnil3)
            | go_in)
          all_goals
            refine ⟨⟨k + 1, acc ++ [c], by omega, by simp, by simpa using hown', ⟨?_, HS.out⟩, by simp; omega⟩, by simp [intOf]; omega⟩
            exact (HX.out.1.alloc hsz _).grown hg3 (by simp; omega) (fun j hj => (hrow.lt j hj).1)
        case false =>
          have HP := plainAt c false hp
          by_cases hc37 : c = 37
          · subst hc37
            by_cases hk1 : k + 1 < s.size
            · have hk1' : ((k : Int) + 1 == (s.size : Int)) = false := by rw [beq_eq_false_iff_ne]; omega
              have hk1b : (k : Int) + 1 < (s.size : Int) := by omega
              have HD1 := Aside0.mk (drop_at hk1)
              obtain ⟨h, hh⟩ : ∃ h, s[k + 1]'hk1 = h := ⟨_, rfl⟩
              rw [hh] at HD1
              obtain ⟨ki, hki⟩ : ∃ i, ixI h = i := ⟨_, rfl⟩
              have HI := idxAt h ki hki
              cases hb : hiB h
              case false =>
                have HH := highAt h ki false hb hki
                have HS : Aside0 (unw (tl s) = ([], k + 1, false)) := ⟨unw_bad H37.out (by rw [← HX.out.2, HD.out, HD1.out, sc_hi hb]; simp only [Sc.sh]; congr 1; omega)⟩
                obtain rfl : _ = res := (by have e := HRES.out; rw [HS.out] at e; exact e : unwV ([], k + 1, false) = res)
                clear hp hb hki
                go_wp2_with (fail)
                refine (HP.out _).mono ?_
                rintro e w1 ⟨rfl, rfl⟩
                go_wp2_with (fail)
                refine (HI.out _).mono ?_
                rintro e w1 ⟨rfl, rfl⟩
                go_wp2_with (fail)
                refine (HH.out _).mono ?_
                rintro e w1 ⟨rfl, rfl⟩
                go_wp2_with (fail)
                exact bodyPost_ret (results_list (rs := [_, _, _]) Tryz.results24 (by simp) (.tmp (.tmp (.tmp .nil)))) rfl ⟨rfl, HX.out.1⟩
              case true =>
                have HH := highAt h ki true hb hki
                by_cases hk2 : k + 2 < s.size
                · have hk2' : ((k : Int) + 2 == (s.size : Int)) = false := by rw [beq_eq_false_iff_ne]; omega
                  have hk2b : (k : Int) + 2 < (s.size : Int) := by omega
                  have HD2 := Aside0.mk (drop_at hk2)
                  obtain ⟨l, hl⟩ : ∃ l, s[k + 2]'hk2 = l := ⟨_, rfl⟩
                  rw [hl] at HD2
                  cases hxl : hexi l with
                  | none =>
                    have hkl : ixI l = -1 := by unfold ixI; rw [hxl]
                    have HI2 := idxAt l (-1) hkl
                    have hlo : loB h l = false := by unfold loB; rw [hxl]; cases hexi h <;> rfl
                    have HS : Aside0 (unw (tl s) = ([], k + 2, false)) := ⟨unw_bad H37.out (by rw [← HX.out.2, HD.out, HD1.out, HD2.out, sc_lo hb hlo]; simp only [Sc.sh]; congr 1; omega)⟩
                    obtain rfl : _ = res := (by have e := HRES.out; rw [HS.out] at e; exact e : unwV ([], k + 2, false) = res)
                    clear hp hb hki hxl hkl hlo
                    go_wp2_with (fail)
                    refine (HP.out _).mono ?_
                    rintro e w1 ⟨rfl, rfl⟩
                    go_wp2_with (fail)
                    refine (HI.out _).mono ?_
                    rintro e w1 ⟨rfl, rfl⟩
                    go_wp2_with (fail)
                    refine (HH.out _).mono ?_
                    rintro e w1 ⟨rfl, rfl⟩
                    go_wp2_with (fail)
                    refine (HI2.out _).mono ?_
                    rintro e w1 ⟨rfl, rfl⟩
                    go_wp2_with (fail)
                    exact bodyPost_ret (results_list (rs := [_, _, _]) Tryz.results24 (by simp) (.tmp (.tmp (.tmp .nil)))) rfl ⟨rfl, HX.out.1⟩
                  | some m =>
                    obtain ⟨q, hq⟩ : ∃ q, hexi h = some q := by
                      unfold hiB at hb
                      cases hx : hexi h with
                      | none => rw [hx] at hb; cases hb
                      | some q => exact ⟨q, rfl⟩
                    have hq16 := hexi_lt hq
                    have hm16 := hexi_lt hxl
                    have hkl : ixI l = (m : Int) := by unfold ixI; rw [hxl]
                    obtain rfl : (q : Int) = ki := by rw [← hki]; unfold ixI; rw [hq]
                    have HI2 := idxAt l m hkl
                    obtain ⟨x, hx⟩ : ∃ x, byt h l = x := ⟨_, rfl⟩
                    have hlo : loB h l = !plC x := by rw [← hx]; unfold loB byt; rw [hq, hxl]
                    have hxv : UInt8.ofNat (16 * q + m) = x := by rw [← hx]; unfold byt; rw [hq, hxl]
                    have hbit := bits_or q m hq16 hm16
                    rw [hxv] at hbit
                    cases hpx : plC x
                    case true =>
                      have HPX := plainAt x true hpx
                      have HS : Aside0 (unw (tl s) = ([], k + 2, false)) := ⟨unw_bad H37.out (by rw [← HX.out.2, HD.out, HD1.out, HD2.out, sc_lo hb (by rw [hlo, hpx]; rfl)]; simp only [Sc.sh]; congr 1; omega)⟩
                      obtain rfl : _ = res := (by have e := HRES.out; rw [HS.out] at e; exact e : unwV ([], k + 2, false) = res)
                      clear hp hb hki hxl hkl hlo hpx hx hq
                      go_wp2_with (fail)
                      refine (HP.out _).mono ?_
                      rintro e w1 ⟨rfl, rfl⟩
                      go_wp2_with (fail)
                      refine (HI.out _).mono ?_
                      rintro e w1 ⟨rfl, rfl⟩
                      go_wp2_with (fail)
                      refine (HH.out _).mono ?_
                      rintro e w1 ⟨rfl, rfl⟩
                      go_wp2_with (fail)
                      refine (HI2.out _).mono ?_
                      rintro e w1 ⟨rfl, rfl⟩
                      go_wp2_with (fail)
                      refine (HPX.out _).mono ?_
                      rintro e w1 ⟨rfl, rfl⟩
                      go_wp2_with (fail)
                      exact bodyPost_ret (results_list (rs := [_, _, _]) Tryz.results24 (by simp) (.tmp (.tmp (.tmp .nil)))) rfl ⟨rfl, HX.out.1⟩
                    case false =>
                      have HPX := plainAt x false hpx
                      have HS : Aside0 ((sc ((tl s).drop (k + 3))).sh (k + 3) (acc ++ [x]) = sc (tl s)) := ⟨by rw [← HX.out.2, HD.out, HD1.out, HD2.out, sc_yes hb (by rw [hlo, hpx]; rfl), Sc.sh_sh, hx]⟩
                      clear hp hb hki hxl hkl hlo hpx hx hq
                      go_wp2_with (fail)
                      refine (HP.out _).mono ?_
                      rintro e w1 ⟨rfl, rfl⟩
                      go_wp2_with (fail)
                      refine (HI.out _).mono ?_
                      rintro e w1 ⟨rfl, rfl⟩
                      go_wp2_with (fail)
                      refine (HH.out _).mono ?_
                      rintro e w1 ⟨rfl, rfl⟩
                      go_wp2_with (fail)
                      refine (HI2.out _).mono ?_
                      rintro e w1 ⟨rfl, rfl⟩
                      go_wp2_with (fail)
                      refine (HPX.out _).mono ?_
                      rintro e w1 ⟨rfl, rfl⟩
                      go_wp2_with (first
                        | (at_builtin; refine wpList_append_own _ rfl _ _ 57 rfl w.heap.size 5 i0 (.int .u8 0) 1 1 Tryz.underlying57 hi0 hz0 hz1 hz2 rfl (by decide) _ _ _ rfl (hrow.alloc _) ⟨wr.heap.size, 0, none⟩ 1 1 [encU x] rfl rfl (cell_one_new _ _ _) (by simp [Value.oneCell', encU]) (by unfold maxLen; omega) (by omega) (by simp; omega) ?_; intro v' w3 hown' hg3 hnil3)
                        | go_in)
                      all_goals
                        refine ⟨⟨k + 3, acc ++ [x], by omega, by first | (simp; done) | (simp; omega) | (congr 1; omega), by simpa using hown', ⟨?_, HS.out⟩, by simp; omega⟩, by simp [intOf]; omega⟩
                        exact (HX.out.1.alloc hsz _).grown hg3 (by simp; omega) (fun j hj => (hrow.lt j hj).1)
                · have hk2' : ((k : Int) + 2 == (s.size : Int)) = true := by rw [beq_iff_eq]; omega
                  have HS : Aside0 (unw (tl s) = ([], k + 2, false)) := ⟨by
                    rw [unw_short H37.out (by rw [← HX.out.2, HD.out, HD1.out, drop_end (by omega), sc_2 hb]; rfl), Array.length_toList]
                    congr 2
                    show s.size = k + 2
                    omega⟩
                  obtain rfl : _ = res := (by have e := HRES.out; rw [HS.out] at e; exact e : unwV ([], k + 2, false) = res)
                  clear hp hb hki
                  go_wp2_with (fail)
                  refine (HP.out _).mono ?_
                  rintro e w1 ⟨rfl, rfl⟩
                  go_wp2_with (fail)
                  refine (HI.out _).mono ?_
                  rintro e w1 ⟨rfl, rfl⟩
                  go_wp2_with (fail)
                  refine (HH.out _).mono ?_
                  rintro e w1 ⟨rfl, rfl⟩
                  go_wp2_with (fail)
                  exact bodyPost_ret (results_list (rs := [_, _, _]) Tryz.results24 (by simp) (.tmp (.tmp (.tmp .nil)))) rfl ⟨rfl, HX.out.1⟩
            · have hk1' : ((k : Int) + 1 == (s.size : Int)) = true := by rw [beq_iff_eq]; omega
              have HS : Aside0 (unw (tl s) = ([], k + 1, false)) := ⟨by
                rw [unw_short H37.out (by rw [← HX.out.2, HD.out, drop_end (by omega), sc_1]; rfl), Array.length_toList]
                congr 2
                show s.size = k + 1
                omega⟩
              obtain rfl : _ = res := (by have e := HRES.out; rw [HS.out] at e; exact e : unwV ([], k + 1, false) = res)
              clear hp
              go_wp2_with (fail)
              refine (HP.out _).mono ?_
              rintro e w1 ⟨rfl, rfl⟩
              go_wp2_with (fail)
              exact bodyPost_ret (results_list (rs := [_, _, _]) Tryz.results24 (by simp) (.tmp (.tmp (.tmp .nil)))) rfl ⟨rfl, HX.out.1⟩
          · have hc37' : ¬ (c.toNat : Int) = 37 := fun q => hc37 (UInt8.toNat_inj.1 (by show c.toNat = 37; omega))
            have HS : Aside0 (unw (tl s) = ([], k, false)) := ⟨unw_bad H37.out (by rw [← HX.out.2, HD.out, sc_no hp hc37]; simp only [Sc.sh]; congr 1; omega)⟩
            obtain rfl : _ = res := (by have e := HRES.out; rw [HS.out] at e; exact e : unwV ([], k, false) = res)
            clear hp
            go_wp2_with (fail)
            refine (HP.out _).mono ?_
            rintro e w1 ⟨rfl, rfl⟩
            go_wp2_with (fail)
            exact bodyPost_ret (results_list (rs := [_, _, _]) Tryz.results24 (by simp) (.tmp (.tmp (.tmp .nil)))) rfl ⟨rfl, HX.out.1⟩
      · have h1' : ¬ (k : Int) < (s.size : Int) := by omega
        have hcv := own_str hrow rfl
        have HE : Aside0 (sc (tl s) = .ok acc) := ⟨by rw [← HX.out.2, drop_end (by omega)]; show Sc.ok (acc ++ []) = _; rw [List.append_nil]⟩
        by_cases hz : acc = []
        · subst hz
          have HS : Aside0 (unw (tl s) = ([], 0, false)) := ⟨unw_nil H37.out HE.out⟩
          obtain rfl : _ = res := (by have e := HRES.out; rw [HS.out] at e; exact e : unwV ([], 0, false) = res)
          obtain ⟨sa, sc0, rfl⟩ := own_slice hrow
          go_wp2_with (fail)
          exact bodyPost_ret (results_list (rs := [_, _, _]) Tryz.results24 (by simp) (.tmp (.tmp (.tmp .nil)))) rfl ⟨rfl, HX.out.1⟩
        · have HS : Aside0 (unw (tl s) = (acc, 0, true)) := ⟨unw_ok H37.out HE.out hz⟩
          obtain rfl : _ = res := (by have e := HRES.out; rw [HS.out] at e; exact e : unwV (acc, 0, true) = res)
          obtain ⟨sa, sc0, rfl⟩ := own_slice hrow
          have hl0 : ¬ ((acc.length : Int) = 0) := by have := List.length_pos_iff.2 hz; omega
          clear hz
          go_wp2_with (fail)
          exact bodyPost_ret (results_list (rs := [_, _, _]) Tryz.results24 (by simp) (.tmp (.tmp (.tmp .nil)))) rfl ⟨rfl, HX.out.1⟩
end Go.Proofs.YtopcidphlleciaaGreatDoor.S

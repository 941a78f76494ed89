/- The document's Unwrite at a whole text. -/
import Derived.Test.YtopcidphlleciaaGreatDoorReG
import Derived.Deep.RegionHeld3
namespace Go.Proofs.YtopcidphlleciaaGreatDoor.S
open Go.RowKit Go.Extern.Stop Go.Stop Go.Extern Go.Proofs.YtopcidphlleciaaGreatDoorW.PrintWords Go.Proofs.YtopcidphlleciaaGreatDoorW.PrintLast Go.Proofs.YtopcidphlleciaaGreatDoorW.PrintMore
set_option linter.unusedVariables false
set_option linter.unusedSimpArgs false
theorem wr64 (x : Int) (h0 : -9223372036854775808 ≤ x) (h1 : x ≤ 9223372036854775807) : IntKind.i64.wrap x = x := by rw [IntKind.wrap_i64]; omega
theorem wru8 (d : UInt8) : IntKind.u8.wrap (d.toNat : Int) = (d.toNat : Int) := by
  have h := d.toNat_lt
  have e : IntKind.u8.wrap (d.toNat : Int) = (d.toNat : Int) % 256 := rfl
  rw [e]
  omega
theorem sc_ok_step {c : UInt8} {r o : BL} (h : sc (c :: r) = .ok o) (h37 : c ≠ 37) : ∃ o2, sc r = .ok o2 ∧ o = c :: o2 := by
  cases hp : plC c
  · rw [sc_no hp h37] at h; cases h
  · rw [sc_plain hp] at h
    cases hr : sc r with
    | bad k => rw [hr] at h; cases h
    | short => rw [hr] at h; cases h
    | ok o2 => rw [hr] at h; injection h with h; exact ⟨o2, rfl, h.symm⟩
theorem sc_ok_pct {r o : BL} (h : sc (37 :: r) = .ok o) : ∃ b l r2 o2 q m, r = b :: l :: r2 ∧ hexi b = some q ∧ hexi l = some m ∧ sc r2 = .ok o2 ∧ o = UInt8.ofNat (16 * q + m) :: o2 := by
  match r with
  | [] => rw [sc_1] at h; cases h
  | [b] =>
    cases hb : hiB b
    · rw [sc_hi hb] at h; cases h
    · rw [sc_2 hb] at h; cases h
  | b :: l :: r2 =>
    cases hb : hiB b
    · rw [sc_hi hb] at h; cases h
    · cases hl : loB b l
      · rw [sc_lo hb hl] at h; cases h
      · rw [sc_yes hb hl] at h
        cases hr : sc r2 with
        | bad k => rw [hr] at h; cases h
        | short => rw [hr] at h; cases h
        | ok o2 =>
          rw [hr] at h
          injection h with h
          cases hx : hexi b with
          | none => unfold hiB at hb; rw [hx] at hb; cases hb
          | some q =>
            cases hm : hexi l with
            | none => unfold loB at hl; rw [hx, hm] at hl; cases hl
            | some m =>
              refine ⟨b, l, r2, o2, q, m, rfl, hx, hm, hr, ?_⟩
              rw [← h]
              unfold byt
              rw [hx, hm]
              rfl
theorem byte_of_drop {s : ByteArray} {k : Nat} {b : UInt8} {r : BL} (h : (tl s).drop k = b :: r) : ∃ hk : k < s.size, s[k]'hk = b ∧ (tl s).drop (k + 1) = r := by
  by_cases hk : k < s.size
  · rw [drop_byte s k hk] at h
    injection h with h1 h2
    exact ⟨hk, h1, h2⟩
  · rw [drop_fin s k (by omega)] at h; cases h
theorem conv_one (W : World) (g : Nat) (d : UInt8) (x : Int) (hx : x = (d.toNat : Int)) (hc : W.cell? ⟨g, 0, none⟩ = some (.int .u8 x)) : (convert 57 9 (.slice (some ⟨g, 0, none⟩) 1 1)).run Tryz.prog W = .ok (.string ⟨#[d]⟩) W := by
  subst hx
  refine run_convert_bytes_back W 57 9 5 ⟨g, 0, none⟩ 1 [d] Tryz.underlying57 Tryz.underlying5 Tryz.underlying9 fun j hj => ?_
  have : j = 0 := by simp at hj; omega
  subst this
  exact hc
set_option maxHeartbeats 16000000 in
set_option maxRecDepth 100000 in
theorem runwrite_ok (s : ByteArray) (out : BL) (w : World) (hs : s.size ≤ 4000000) (h37 : tl s ≠ [37]) (h0 : 0 < s.size) (hok : sc (tl s) = .ok out) : Calls Tryz.prog 33 #[.string s] w fun e w' => e = .returned (unwV (out, 0, true)) ∧ Below w.heap.size w w' := by
  have HT : Aside0 (∀ n, ∀ w, Calls Tryz.prog 54 #[.string (s.extract 0 n)] w fun e w' => (∃ q, e = .returned (.tuple #[.bool true, .bool q])) ∧ w = w') := ⟨fun n w => goes_take s n w hs true (by
    cases h : (goV ((tl s).take n)).1
    · obtain ⟨j, hj, hj2⟩ := (goV_take (tl s) n).1 h
      rw [hok] at hj
      cases hj
    · rfl)⟩
  have HL : Aside0 ((tl s).length = s.size) := ⟨Array.length_toList⟩
  have HF : Aside0 (∀ w, Calls Tryz.prog 54 #[.string s] w fun e w' => (∃ q, e = .returned (.tuple #[.bool q, .bool true])) ∧ w = w') := ⟨fun w => by
    refine (goes_calls s w (by omega)).mono ?_
    rintro e w' ⟨rfl, rfl⟩
    have : (goV (tl s)).2 = true := by
      unfold goV
      rw [if_neg h37, hok]
      exact decide_eq_true (by rw [HL.out]; exact h0)
    rw [this]
    exact ⟨⟨_, rfl⟩, rfl⟩⟩
  have hne : (s.toList == [37]) = false := by
    rw [beq_eq_false_iff_ne, ByteArray.toList_eq]
    exact h37
  have HOK := Aside0.mk hok
  clear h37 h0 hok
  go_enter Tryz.func33, Tryz.ntmps33
  go_wp2_with (fail)
  go_loop [5, 6, 7] (fun v5 v6 v7 => ∃ n : Nat, n ≤ s.size ∧ v5 = .int .i64 ((n : Int) + 1)) (fun v5 _ _ => s.size + 1 - (intOf v5).toNat)
  case atStart => exact ⟨0, Nat.zero_le _, rfl⟩
  case round =>
    obtain ⟨n, hn, rfl⟩ := hrel
    by_cases h : n = s.size
    · have h1' : ¬ (n : Int) + 1 ≤ (s.size : Int) := by omega
      clear h
      go_wp2_with (fail)
      refine (HF.out _).mono ?_
      rintro e w1 ⟨⟨q, rfl⟩, rfl⟩
      go_wp2_with (fail)
      go_loopw [10, 11] (fun v10 v11 ww => ∃ (k : Nat) (o : ByteArray), k ≤ s.size ∧ v11 = .int .i64 k ∧ v10 = .string o ∧ o.size ≤ k ∧ Aside0 (Below w.heap.size w ww ∧ ∃ r, sc ((tl s).drop k) = .ok r ∧ tl o ++ r = out)) (fun _ v11 _ => s.size - (intOf v11).toNat)
      case atStart => exact ⟨0, ⟨#[]⟩, Nat.zero_le _, rfl, rfl, Nat.le_refl _, ⟨Below.refl _ _, out, HOK.out, rfl⟩⟩
      case round =>
        obtain ⟨k, o, hk, rfl, rfl, hlen, HX⟩ := hrel
        by_cases h1 : k < s.size
        · have h1' : (k : Int) < (s.size : Int) := by omega
          have h0' : (0 : Int) ≤ (k : Int) := by omega
          obtain ⟨c, hc⟩ : ∃ c, s[k]'h1 = c := ⟨_, rfl⟩
          have HD : Aside0 ((tl s).drop k = c :: (tl s).drop (k + 1)) := ⟨by rw [← hc]; exact drop_byte s k h1⟩
          obtain ⟨r, hr, hro⟩ := HX.out.2
          rw [HD.out] at hr
          by_cases hc37 : c = 37
          · subst hc37
            obtain ⟨b, l, r2, o2, qq, m, e1, e2, e3, e4, e5⟩ := sc_ok_pct hr
            obtain ⟨hk1, hb, e6⟩ := byte_of_drop e1
            obtain ⟨hk2, hl, e7⟩ := byte_of_drop e6
            have hq16 := hexi_lt e2
            have hm16 := hexi_lt e3
            have hkb : ixI b = (qq : Int) := by unfold ixI; rw [e2]
            have hkl : ixI l = (m : Int) := by unfold ixI; rw [e3]
            have HI1 : Aside0 (∀ w, Calls Tryz.prog 55 #[.int .u8 (b.toNat : Int)] w fun e w' => e = .returned (.int .i64 (qq : Int)) ∧ w = w') := ⟨fun w => by have := rdigit_calls b w; rw [hkb] at this; exact this⟩
            have HI2 : Aside0 (∀ w, Calls Tryz.prog 55 #[.int .u8 (l.toNat : Int)] w fun e w' => e = .returned (.int .i64 (m : Int)) ∧ w = w') := ⟨fun w => by have := rdigit_calls l w; rw [hkl] at this; exact this⟩
            obtain ⟨d, hd⟩ : ∃ d, UInt8.ofNat (16 * qq + m) = d := ⟨_, rfl⟩
            have hdx : 16 * (qq : Int) + (m : Int) = (d.toNat : Int) := by rw [← hd, UInt8.toNat_ofNat']; omega
            have hcv := fun (W : World) (hW : W.cell? ⟨wr.heap.size, 0, none⟩ = some (.int .u8 (d.toNat : Int))) => conv_one W wr.heap.size d _ rfl hW
            have HN : Aside0 (∃ r, sc ((tl s).drop (k + 3)) = .ok r ∧ tl (o ++ ⟨#[d]⟩) ++ r = out) := ⟨o2, by rw [e7]; exact e4, by rw [tl_append, ← hro, e5, hd, List.append_assoc]; rfl⟩
            have hk1b : (k : Int) + 1 < (s.size : Int) := by omega
            have hk2b : (k : Int) + 2 < (s.size : Int) := by omega
            have hu1 : IntKind.i64.wrap ((k : Int) + 1) = (k : Int) + 1 := wr64 _ (by omega) (by omega)
            have hu2 : IntKind.i64.wrap ((k : Int) + 2) = (k : Int) + 2 := wr64 _ (by omega) (by omega)
            have hu3 : IntKind.i64.wrap (16 * (qq : Int)) = 16 * (qq : Int) := wr64 _ (by omega) (by omega)
            have hu4 : IntKind.i64.wrap (d.toNat : Int) = (d.toNat : Int) := wr64 _ (by omega) (by omega)
            have hu5 : IntKind.u8.wrap (d.toNat : Int) = (d.toNat : Int) := wru8 _
            have ht2 : ((k : Int) + 2).toNat = k + 2 := by omega
            have hg1 : ¬ (k : Int) + 1 < 0 := by omega
            have hg2 : ¬ (k : Int) + 2 < 0 := by omega
            have hz1 : ({ data := #[d] } : ByteArray).size = 1 := rfl
            have hnb : ¬ 9223372036854775807 < o.size + 1 := by omega
            clear hr hro e1 e2 e3 e4 e5 e6 e7 hkb hkl hd
            go_wp2_with (fail)
            go_wp2_with (fail)
            go_region_with (first | (go_at_call 55; first | ((with_reducible refine (HI1.out _).mono ?_); rintro e w5 ⟨rfl, rfl⟩) | ((with_reducible refine (HI2.out _).mono ?_); rintro e w5 ⟨rfl, rfl⟩)))
            go_wp2_with (fail)
            all_goals exact ⟨⟨k + 3, _, by omega, by first | rfl | (simp; done), rfl, by simp [hz1]; omega, ⟨by first | exact ((HX.out.1.alloc HX.out.1.size _).drew) | exact (below_drew1 HX.out.1).alloc (by simpa using HX.out.1.size) _, HN.out⟩⟩, by simp [intOf]; omega⟩
          · have hc37' : ((c.toNat : Int) == 37) = false := by
              rw [beq_eq_false_iff_ne]
              exact fun q => hc37 (UInt8.toNat_inj.1 (by show c.toNat = 37; omega))
            obtain ⟨o2, e1, e2⟩ := sc_ok_step hr hc37
            have HE : Aside0 (tl (s.extract k (k + 1)) = [c]) := ⟨by rw [tl_extract1 s k h1, hc]⟩
            have HN : Aside0 (∃ r, sc ((tl s).drop (k + 1)) = .ok r ∧ tl (o ++ s.extract k (k + 1)) ++ r = out) := ⟨o2, e1, by rw [tl_append, HE.out, ← hro, e2, List.append_assoc]; rfl⟩
            have hes : (s.extract k (k + 1)).size = 1 := by have := congrArg List.length HE.out; rw [Array.length_toList] at this; exact this
            have hnb : ¬ 9223372036854775807 < o.size + (s.extract k (k + 1)).size := by omega
            have hsl : ∀ W, (Instr.slice 9 (.string s) (some (.int .i64 (k : Int))) (some (.int .i64 ((k : Int) + 1))) none).run Tryz.prog W = .ok (.string (s.extract k (k + 1))) W := fun W => by
              have := run_slice_string (P := Tryz.prog) W 9 s .i64 .i64 (k : Int) ((k : Int) + 1) Tryz.underlying9 (by omega) (by omega) (by omega)
              rw [this]
              rfl
            clear hr hro e1 e2 hc37
            go_wp2_with (fail)
            go_round
            case rel => exact ⟨k + 1, _, by omega, by simp, rfl, by simp [hes]; omega, ⟨HX.out.1, HN.out⟩⟩
            case measure => simp [intOf]; omega
        · have h1' : ¬ (k : Int) < (s.size : Int) := by omega
          have HE : Aside0 (tl o = out) := ⟨by
            obtain ⟨r, hr, hro⟩ := HX.out.2
            rw [drop_fin s k (by omega)] at hr
            injection hr with hr
            rw [← hr, List.append_nil] at hro
            exact hro⟩
          go_wp2_with (fail)
          exact bodyPost_ret (results_list (rs := [_, _, _]) Tryz.results33 (by simp) (.tmp (.tmp (.tmp .nil)))) rfl ⟨by unfold unwV; rw [← HE.out]; first | rfl | (simp; done), HX.out.1⟩
    · have h0' : (0 : Int) ≤ (n : Int) + 1 := by omega
      have h1' : (n : Int) + 1 ≤ (s.size : Int) := by omega
      have hsl : ∀ W, (Instr.slice 9 (.string s) none (some (.int .i64 ((n : Int) + 1))) none).run Tryz.prog W = .ok (.string (s.extract 0 (n + 1))) W := fun W => by
        simp [Instr.slice, Instr.sliceBounds, Instr.sliceBound, asIntOf, run_underlying Tryz.underlying9, h0', h1']
        first | done | omega | (intro q; omega)
      have HN' := Aside0.mk (HT.out (n + 1))
      have h3 : n + 1 ≤ s.size := by omega
      clear h
      go_wp2_with (fail)
      refine (HN'.out _).mono ?_
      rintro e w1 ⟨⟨q, rfl⟩, rfl⟩
      go_wp2_with (fail)
      go_round
      case rel => exact ⟨n + 1, h3, by simp⟩
      all_goals
        show s.size + 1 - ((n : Int) + 1 + 1).toNat < s.size + 1 - ((n : Int) + 1).toNat
        omega
end Go.Proofs.YtopcidphlleciaaGreatDoor.S

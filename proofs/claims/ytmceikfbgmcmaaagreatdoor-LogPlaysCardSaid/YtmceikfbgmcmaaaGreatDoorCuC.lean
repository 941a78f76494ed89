/- The law LogCuts. -/
import Derived.Test.YtmceikfbgmcmaaaGreatDoorCuB
import Derived.Test.YtmceikfbgmcmaaaGreatDoorAlC
import Derived.Deep.CutRange
import Derived.Deep.RegionLawGrows
namespace Go.Proofs.YtmceikfbgmcmaaaGreatDoor.D
open Go.RowKit Go.Extern.Stop Go.Stop Go.Extern Go.Proofs.YtmceikfbgmcmaaaGreatDoorW.PrintWords Go.Proofs.YtmceikfbgmcmaaaGreatDoorW.PrintLast Go.Proofs.YtmceikfbgmcmaaaGreatDoorW.PrintMore
set_option linter.unusedVariables false
set_option linter.unusedSimpArgs false
/-- The outer loop's relation. -/
def LC (w : World) (p b n1 : Nat) (v6 v7 v8 : Value) (wr : World) : Prop := ∃ (i k n6 : Nat) (a6 : Option Addr) (c6 : Nat) (recs : List BL) (s : St) (ex : Bool), i ≤ 150 ∧ k ≤ n1 ∧ n6 ≤ i ∧ v6 = .slice a6 n6 c6 ∧ v7 = .int .i64 k ∧ v8 = .int .i64 i ∧ Aside0 (CB w p b wr (.slice a6 n6 c6) recs s) ∧ Aside0 (Hold s.L recs ex [])
theorem LC.mk {w : World} {p b n1 i k n6 c6 : Nat} {a6 : Option Addr} {recs : List BL} {s : St} {ex : Bool} {v6 v7 v8 : Value} {wr : World} (h1 : i ≤ 150) (h2 : k ≤ n1) (h3 : n6 ≤ i) (h4 : v6 = .slice a6 n6 c6) (h5 : v7 = .int .i64 k) (h6 : v8 = .int .i64 i) (h7 : Aside0 (CB w p b wr (.slice a6 n6 c6) recs s)) (h8 : Aside0 (Hold s.L recs ex [])) : LC w p b n1 v6 v7 v8 wr := ⟨i, k, n6, a6, c6, recs, s, ex, h1, h2, h3, h4, h5, h6, h7, h8⟩
/-- The inner loop's relation. -/
def LI (w : World) (p b n1 n6 : Nat) (a6 : Option Addr) (c6 : Nat) (recs : List BL) (v7 v10 : Value) (wy : World) : Prop := ∃ (k2 : Nat) (s2 : St) (ex2 : Bool) (t2 : BL), k2 ≤ n1 ∧ v7 = .int .i64 k2 ∧ Aside0 (CB w p b wy (.slice a6 n6 c6) recs s2) ∧ Aside0 (Hold s2.L recs ex2 t2 ∧ recsF t2 = []) ∧ (Aside0 (s2.dead = true) ∨ (Aside0 (s2.dead = false ∧ t2 = []) ∧ ∃ q B lv, v10 = .pointer (some ⟨q, 0, none⟩) ∧ Aside0 (LG wy B q p lv recs false)))
theorem LI.dead {w : World} {p b n1 n6 k2 c6 : Nat} {a6 : Option Addr} {recs : List BL} {s2 : St} {ex2 : Bool} {t2 : BL} {v7 v10 : Value} {wy : World} (h1 : k2 ≤ n1) (h2 : v7 = .int .i64 k2) (h3 : Aside0 (CB w p b wy (.slice a6 n6 c6) recs s2)) (h4 : Aside0 (Hold s2.L recs ex2 t2 ∧ recsF t2 = [])) (h5 : Aside0 (s2.dead = true)) : LI w p b n1 n6 a6 c6 recs v7 v10 wy := ⟨k2, s2, ex2, t2, h1, h2, h3, h4, .inl h5⟩
theorem LI.live {w : World} {p b n1 n6 k2 c6 q B : Nat} {lv : Value} {a6 : Option Addr} {recs : List BL} {s2 : St} {ex2 : Bool} {t2 : BL} {v7 v10 : Value} {wy : World} (h1 : k2 ≤ n1) (h2 : v7 = .int .i64 k2) (h3 : Aside0 (CB w p b wy (.slice a6 n6 c6) recs s2)) (h4 : Aside0 (Hold s2.L recs ex2 t2 ∧ recsF t2 = [])) (h5 : Aside0 (s2.dead = false ∧ t2 = [])) (h6 : v10 = .pointer (some ⟨q, 0, none⟩)) (h7 : Aside0 (LG wy B q p lv recs false)) : LI w p b n1 n6 a6 c6 recs v7 v10 wy := ⟨k2, s2, ex2, t2, h1, h2, h3, h4, .inr ⟨h5, q, B, lv, h6, h7⟩⟩
set_option maxHeartbeats 64000000 in
set_option maxRecDepth 100000 in
/-- The law LogCuts. -/
theorem cuts_calls (a0 : Option Addr) (n0 c0 : Nat) (a1 : Option Addr) (n1 c1 : Nat) (w : World) (hT0 : ∀ i, i < n0 → ∃ b o s, a0 = some ⟨b, o, none⟩ ∧ w.cell? ⟨b, o + i, none⟩ = some (.string s)) (hT1 : ∀ i, i < n1 → ∃ b o z, a1 = some ⟨b, o, none⟩ ∧ w.cell? ⟨b, o + i, none⟩ = some (.int .i64 z)) (hn1 : n1 ≤ 9223372036854775807) (hG : GW w) :
    Calls Tryz.prog 4 #[.slice a0 n0 c0, .slice a1 n1 c1] w fun e w' => e = .returned (.bool true) ∧ Below w.heap.size w w' := by
  have HG := Aside0.mk hG
  have HT0 := Aside0.mk hT0
  have HT1 := Aside0.mk hT1
  obtain ⟨i0, hi0, hz0, hz1, hz2⟩ := info_parts infoS
  clear hG hT0 hT1
  go_enter Tryz.func4, Tryz.ntmps4
  go_wp2_with (fail)
  refine (new_calls (-1) _).mono ?_
  rintro e w1 ⟨p, b, rfl, hp, hb, hD, hB1⟩
  have HC0 : Aside0 (CB w p b w1 (.slice none 0 0) [] ⟨[], -1, 0, false⟩) := ⟨⟨hD, hB1, ⟨rfl, .inl ⟨rfl, rfl⟩⟩⟩⟩
  clear hD hB1
  go_wp2_with (fail)
  obtain ⟨M, hM⟩ : ∃ M : Nat, M = 150 := ⟨_, rfl⟩
  have HM := Aside0.mk hM
  clear hM
  go_loopw [6, 7, 8] (fun v6 v7 v8 wr => LC w p b n1 v6 v7 v8 wr) (fun _ _ v8 _ => M - (intOf v8).toNat)
  case atStart => exact LC.mk (i := 0) (k := 0) (by omega) (by omega) (by omega) rfl rfl rfl HC0 ⟨Hold.start⟩
  case round =>
    obtain ⟨i, k, n6, a6, c6, recs, s, ex, hi, hk, hn6, rfl, rfl, rfl, HCB, HH⟩ := hrel
    obtain ⟨hN6, hnc6, hsh6, hcs6⟩ := row_cells HCB.out.row
    have HN6 := Aside0.mk hN6
    have HSH6 := Aside0.mk hsh6
    clear hN6 hsh6 hcs6
    by_cases h1 : i < n0
    · have h1' : (i : Int) < (n0 : Int) := by omega
      by_cases h2 : i < 150
      · have h2' : (i : Int) < 150 := by omega
        have h0' : (0 : Int) ≤ (i : Int) := by omega
        obtain ⟨b0, o0, x, rfl, hx0⟩ := HT0.out i h1
        have HX0 := Aside0.mk hx0
        have hx : wr.cell? ⟨b0, o0 + i, none⟩ = some (.string x) := pw_cell_below HCB.out.below hx0
        clear hx0
        by_cases h3 : 300 < x.size
        · have h3' : (300 : Int) < (x.size : Int) := by omega
          go_wp2_with (fail)
          have hM := HM.out
          exact ⟨LC.mk (i := i + 1) (by omega) hk (by omega) rfl rfl (by simp) HCB HH, by simp [intOf]; omega⟩
        · have h3' : ¬ (300 : Int) < (x.size : Int) := by omega
          go_upto_if 32 with (fail)
          go_cut [7, 9] from 13 to 138 (fun v7 v9 wx => ∃ (k' : Nat) (z : Int), v7 = .int .i64 k' ∧ k' ≤ n1 ∧ v9 = .int .i64 z ∧ wr = wx)
          case first =>
            by_cases hk1 : k < n1
            · have hk1' : (k : Int) < (n1 : Int) := by omega
              have hk0' : (0 : Int) ≤ (k : Int) := by omega
              obtain ⟨b1, o1, z, rfl, hz⟩ := HT1.out k hk1
              have hz' : wr.cell? ⟨b1, o1 + k, none⟩ = some (.int .i64 z) := pw_cell_below HCB.out.below hz
              clear hz
              go_wp2_with (fail)
              go_meet
              exact ⟨k + 1, _, by simp, by omega, rfl, rfl⟩
            · have hk1' : ¬ (k : Int) < (n1 : Int) := by omega
              go_wp2_with (fail)
              go_meet
              exact ⟨k, _, rfl, by omega, rfl, rfl⟩
          case rest =>
            obtain ⟨k', z, rfl, hk', rfl, rfl⟩ := hcut
            have HRS := Aside0.mk (restart_calls p b s (-1) wr HCB.out.d)
            go_wp2_with (fail)
            refine HRS.out.mono ?_
            rintro e w2 ⟨rfl, hD2, hK2⟩
            have HC2 : Aside0 (CB w p b w2 (.slice a6 n6 c6) recs ⟨s.L, -1, 0, false⟩) := ⟨HCB.out.kp hD2 hp hb hK2⟩
            have hx2 := pw_cell_below HC2.out.below HX0.out
            have hp2 := HC2.out.d.lt
            have hb2 := HC2.out.d.ltb
            have HO2 := Aside0.mk (lopen_calls p b ⟨s.L, -1, 0, false⟩ recs ex [] w2 HC2.out.d rfl HH.out rfl (fun W hk => (HG.out.below (HC2.out.below.trans (hk.below hp hb HC2.out.below.size))).2))
            clear hD2 hK2 hx HRS
            go_wp2_with (fail)
            refine HO2.out.mono ?_
            rintro e w3 ⟨hK3, ⟨s3, ex3, lv3, rfl, hD3, hd3, hH3, hL3, hs3⟩ | ⟨_, _, hc⟩⟩
            · have hs3 : s3 = ⟨s.L, -1, 0, false⟩ := hs3 (by first | exact rfl | exact True.intro)
              have HC3 : Aside0 (CB w p b w3 (.slice a6 n6 c6) recs s3) := ⟨HC2.out.kp hD3 hp hb hK3⟩
              have hx3 := pw_cell_below HC3.out.below HX0.out
              have hz3 := hK3.size
              have HL3 := Aside0.mk hL3
              have HH3 := Aside0.mk hH3
              have HSY := Aside0.mk (says_true a6 n6 c6 w3 hL3 HN6.out (row_cells HC3.out.row).2.2.2)
              have HS3 := Aside0.mk hs3
              clear hK3 hD3 hd3 hH3 hL3 hs3 hx2 HO2
              go_wp2_with (fail)
              refine HSY.out.mono ?_
              rintro e w4 ⟨rfl, hb4⟩
              have HC4 := Aside0.mk (HC3.out.bl hb4)
              have HL4 := Aside0.mk (HL3.out.below hb4)
              have hx4 := pw_cell_below hb4 hx3
              have hz4 := hb4.size
              have HWR : Aside0 (Calls Tryz.prog 19 #[.pointer (some ⟨p, 0, none⟩)] w4 fun e w' => e = .returned (.int .i64 0) ∧ w' = w4) := ⟨by
                have := writes_calls p b s3 w4 HC4.out.d
                rw [HS3.out] at this
                exact this⟩
              have HRS2 := Aside0.mk (restart_calls p b s3 z w4 HC4.out.d)
              clear hb4 hx3 HSY
              go_wp2_with (fail)
              refine HWR.out.mono ?_
              rintro e w5 ⟨rfl, rfl⟩
              go_wp2_with (fail)
              refine HRS2.out.mono ?_
              rintro e w5 ⟨rfl, hD5, hK5⟩
              have HC5 : Aside0 (CB w p b w5 (.slice a6 n6 c6) recs ⟨s3.L, z, 0, false⟩) := ⟨HC4.out.kp hD5 hp hb hK5⟩
              have HL5 := Aside0.mk (HL4.out.kept hp2 hb2 (by omega) hK5)
              have hx5 := pw_cell_below HC5.out.below HX0.out
              have hz5 := hK5.size
              have HAP := Aside0.mk (lapp_calls p b w2.heap.size (w2.heap.size + 1) w.heap.size ⟨s3.L, z, 0, false⟩ lv3 recs ex3 x w5 HC5.out.d HL5.out hp2 hb2 (by omega) (by omega) HH3.out rfl (by omega) (by have := HN6.out; omega) (fun W h => (HG.out.below (HC5.out.below.trans (h.mono HC5.out.below.size))).2.1) hp hb)
              clear hD5 hK5 hx4 HRS2 HWR
              go_wp2_with (fail)
              refine HAP.out.mono ?_
              rintro e w6 ⟨v, s6, lv6, recs6, br6, rfl, hD6, hL6, hB6, hK6, hwhich⟩
              have HC6 : Aside0 (CB w p b w6 (.slice a6 n6 c6) recs s6) := ⟨HC5.out.app hD6 hB6 hK6 (fun g e => by have := HC2.out.apart.2.2 g e; omega)⟩
              have hx6 := pw_cell_below HC6.out.below HX0.out
              clear hD6 hL6 hB6 hK6 hx5 HAP
              rcases hwhich with ⟨rfl, rfl, rfl, hd6, _, ex6, hH6⟩ | ⟨⟨g6, rfl⟩, hr6, hd6, _, ex6, t6, hH6, ht6⟩
              · have HH6 := Aside0.mk hH6
                have HDE : ∀ q, Calls Tryz.prog 20 #[.pointer (some ⟨p, 0, none⟩)] (w6.drewN q) fun e w' => e = .returned (.bool false) ∧ w' = w6.drewN q := fun q => by
                  have := dead_calls p b s6 _ (HC6.out.d.drew q)
                  rw [hd6] at this
                  exact this
                clear hH6 hd6
                go_wp2_with (fail)
                go_quiet (first | (go_at_call 20; refine Calls.quiet_of_same (HDE _)))
                have HC7 := Aside0.mk (HC6.out.bl (pw_below_drewN (Below.refl _ _) nq))
                have hx7 := pw_cell_below HC7.out.below HX0.out
                clear HDE hx6
                obtain ⟨w7, hw7⟩ : ∃ w7, w6.drewN nq = w7 := ⟨_, rfl⟩
                rw [hw7] at HC7 hx7 ⊢
                clear hw7
                have hrow := HC7.out.row
                rw [HN6.out] at hrow
                have hbs := HC7.out.below.size
                go_wp2_with (first
                  | (at_builtin; refine wpList_append_own_at _ rfl _ _ 36 rfl w.heap.size 9 i0 (.string ByteArray.empty) 1 16 Tryz.underlying36 hi0 hz0 hz1 hz2 rfl (by decide) _ n6 (recs.map encS) rfl (hrow.alloc _) ⟨w7.heap.size, 0, none⟩ 1 1 [.string x] rfl rfl (cell_one_new _ _ _) (by simp [Value.oneCell']) (by unfold maxLen; omega) (by omega) (by simp; omega) ?_; intro v' w8 hown' hg8 hnil8 hat8; obtain ⟨a8, c8, rfl, _, _⟩ := own_slice hown'; have HC8 : Aside0 (CB w p b w8 (.slice a8 (n6 + 1) c8) (recs ++ [tl x]) s6) := ⟨HC7.out.grow _ HN6.out (by have e : encS (tl x) = .string x := (by unfold encS; rw [mkB_tl]); rw [e]; exact hown') hg8⟩; clear hown' hg8 hnil8 hat8)
                  | go_in)
                have hM := HM.out
                exact ⟨LC.mk (i := i + 1) (by omega) hk' (by omega) rfl rfl (by simp) HC8 HH6, by simp [intOf]; omega⟩
              · clear hr6
                have hD6' := Aside0.mk hd6
                have HDE : ∀ q, Calls Tryz.prog 20 #[.pointer (some ⟨p, 0, none⟩)] (w6.drewN q) fun e w' => e = .returned (.bool true) ∧ w' = w6.drewN q := fun q => by
                  have := dead_calls p b s6 _ (HC6.out.d.drew q)
                  rw [hd6] at this
                  exact this
                have HH6 : Aside0 (Hold s6.L recs ex6 t6 ∧ recsF t6 = []) := ⟨hH6, ht6⟩
                have n1e : ∀ (v : Value) (w : World), (binOp .neq 25 (.iface 98 v) .nilIface).run Tryz.prog w = .ok (.bool true) w := fun v w => by kernel_rfl
                have n2e : ∀ (v : Value) (w : World), (binOp .eql 25 (.iface 98 v) .nilIface).run Tryz.prog w = .ok (.bool false) w := fun v w => by kernel_rfl
                have n3e : ∀ (w : World), (binOp .neq 25 .nilIface .nilIface).run Tryz.prog w = .ok (.bool false) w := fun w => by kernel_rfl
                clear hd6 hH6 ht6
                go_wp2_with (fail)
                go_quiet (first | (go_at_call 20; refine Calls.quiet_of_same (HDE _)))
                have HC7 := Aside0.mk (HC6.out.bl (pw_below_drewN (Below.refl _ _) nq))
                clear HDE hx6
                obtain ⟨w7, hw7⟩ : ∃ w7, w6.drewN nq = w7 := ⟨_, rfl⟩
                rw [hw7] at HC7 ⊢
                clear hw7
                go_wp2_with (fail)
                go_loopw [7, 10] (fun v7 v10 wy => LI w p b n1 n6 a6 c6 recs v7 v10 wy) (fun v7 _ wy => 2 * (n1 - (intOf v7).toNat) + deadN wy p)
                case atStart => exact LI.dead hk' rfl HC7 HH6 hD6'
                case round =>
                  obtain ⟨k2, s2, ex2, t2, hk2, rfl, HCy, HH2, hor⟩ := hrel
                  have HDC := Aside0.mk (dead_calls p b s2 wr HCy.out.d)
                  rcases hor with HD2 | ⟨HD2, q, B, lv, rfl, HLq⟩
                  · rw [HD2.out] at HDC
                    have HM1 := Aside0.mk (deadN_yes HCy.out.d HD2.out)
                    go_wp2_with (fail)
                    refine HDC.out.mono ?_
                    rintro e wz ⟨rfl, hwz⟩
                    obtain rfl := hwz.symm
                    go_upto_if 92 with (fail)
                    go_cut [7, 9] from 87 to 113 (fun v7 v9 wx => ∃ (k3 : Nat) (z : Int), v7 = .int .i64 k3 ∧ k3 ≤ n1 ∧ v9 = .int .i64 z ∧ ((k3 = k2 + 1) ∨ (k3 = k2 ∧ n1 ≤ k2 ∧ z = -1)) ∧ wr = wx)
                    case first =>
                      by_cases hk1 : k2 < n1
                      · have hk1' : (k2 : Int) < (n1 : Int) := by omega
                        have hk0' : (0 : Int) ≤ (k2 : Int) := by omega
                        obtain ⟨b1, o1, z, rfl, hz⟩ := HT1.out k2 hk1
                        have hz' : wr.cell? ⟨b1, o1 + k2, none⟩ = some (.int .i64 z) := pw_cell_below HCy.out.below hz
                        clear hz
                        go_wp2_with (fail)
                        go_meet
                        exact ⟨k2 + 1, _, by simp, by omega, rfl, .inl rfl, rfl⟩
                      · have hk1' : ¬ (k2 : Int) < (n1 : Int) := by omega
                        go_wp2_with (fail)
                        go_meet
                        exact ⟨k2, _, rfl, by omega, rfl, .inr ⟨rfl, by omega, rfl⟩, rfl⟩
                    case rest =>
                      obtain ⟨k3, z2, rfl, hk3, rfl, hkz, rfl⟩ := hcut
                      have HRS := Aside0.mk (restart_calls p b s2 z2 wr HCy.out.d)
                      go_wp2_with (fail)
                      refine HRS.out.mono ?_
                      rintro e u2 ⟨rfl, hD2, hK2⟩
                      have HU2 : Aside0 (CB w p b u2 (.slice a6 n6 c6) recs ⟨s2.L, z2, 0, false⟩) := ⟨HCy.out.kp hD2 hp hb hK2⟩
                      have HO2 := Aside0.mk (lopen_calls p b ⟨s2.L, z2, 0, false⟩ recs ex2 t2 u2 HU2.out.d rfl HH2.out.1 HH2.out.2 (fun W hk => (HG.out.below (HU2.out.below.trans (hk.below hp hb HU2.out.below.size))).2))
                      clear hD2 hK2 HRS
                      go_wp2_with (fail)
                      refine HO2.out.mono ?_
                      rintro e u3 ⟨hK3, ⟨s3, ex3, lv3, rfl, hD3, hd3, hH3, hL3, _⟩ | ⟨⟨g3, rfl⟩, hD3, hc⟩⟩
                      · have HU3 : Aside0 (CB w p b u3 (.slice a6 n6 c6) recs s3) := ⟨HU2.out.kp hD3 hp hb hK3⟩
                        have HL3 := Aside0.mk hL3
                        have HH3 : Aside0 (Hold s3.L recs ex3 [] ∧ recsF [] = []) := ⟨hH3, rfl⟩
                        have HD3 : Aside0 (s3.dead = false ∧ ([] : BL) = []) := ⟨hd3, rfl⟩
                        have HDE : ∀ q, Calls Tryz.prog 20 #[.pointer (some ⟨p, 0, none⟩)] (u3.drewN q) fun e w' => e = .returned (.bool false) ∧ w' = u3.drewN q := fun q => by
                          have := dead_calls p b s3 _ (HU3.out.d.drew q)
                          rw [hd3] at this
                          exact this
                        clear hK3 hD3 hd3 hH3 hL3
                        go_wp2_with (fail)
                        go_quiet (first | (go_at_call 20; refine Calls.quiet_of_same (HDE _)))
                        have HU4 := Aside0.mk (HU3.out.bl (pw_below_drewN (Below.refl _ _) nq))
                        have HL4 := Aside0.mk (HL3.out.below (pw_below_drewN (Below.refl _ _) nq))
                        have HM2 := Aside0.mk (deadN_no HU4.out.d HD3.out.1)
                        clear HDE
                        go_wp2_with (fail)
                        refine ⟨LI.live hk3 rfl HU4 HH3 ⟨HD3.out.1, rfl⟩ rfl HL4, ?_⟩
                        rw [HM1.out, HM2.out]
                        simp [intOf]
                        omega
                      · have HU3 : Aside0 (CB w p b u3 (.slice a6 n6 c6) recs { (⟨s2.L, z2, 0, false⟩ : St) with dead := true }) := ⟨HU2.out.kp hD3 hp hb hK3⟩
                        have HD3 : Aside0 (({ (⟨s2.L, z2, 0, false⟩ : St) with dead := true }).dead = true) := ⟨rfl⟩
                        have HDE : ∀ q, Calls Tryz.prog 20 #[.pointer (some ⟨p, 0, none⟩)] (u3.drewN q) fun e w' => e = .returned (.bool true) ∧ w' = u3.drewN q := fun q => dead_calls p b _ _ (HU3.out.d.drew q)
                        have hkk : k3 = k2 + 1 := by
                          rcases hkz with h | ⟨_, _, h⟩
                          · exact h
                          · exfalso; omega
                        have HKK := Aside0.mk hkk
                        clear hK3 hD3 hkk hc
                        go_wp2_with (fail)
                        go_quiet (first | (go_at_call 20; refine Calls.quiet_of_same (HDE _)))
                        have HU4 := Aside0.mk (HU3.out.bl (pw_below_drewN (Below.refl _ _) nq))
                        have HM2 := Aside0.mk (deadN_le (u3.drewN nq) p)
                        clear HDE
                        go_wp2_with (fail)
                        refine ⟨LI.dead (s2 := ⟨s2.L, z2, 0, true⟩) hk3 rfl HU4 HH2 ⟨rfl⟩, ?_⟩
                        rw [HM1.out]
                        have h5 := HM2.out
                        have h6 := HKK.out
                        simp [intOf]
                        omega
                  · obtain ⟨hd2, ht2⟩ := HD2.out
                    rw [hd2] at HDC
                    have HH9 : Aside0 (Hold s2.L recs ex2 []) := ⟨by rw [← ht2]; exact HH2.out.1⟩
                    have hxy := pw_cell_below HCy.out.below HX0.out
                    have zxy : ∀ k, (wr.drewN k).cell? ⟨b0, o0 + i, none⟩ = some (.string x) := fun _ => hxy
                    have hsl := slice_full a6 n6 c6 HSH6.out hnc6
                    have HIN : Aside0 (∀ W, Below wr.heap.size wr W → ∀ b', a6 = some b' → ∀ j u, (recs.map encS)[j]? = some u → W.cell? (b'.add j) = some u) := ⟨fun W hW b' hb' j u hj => by
                      rw [List.getElem?_map] at hj
                      cases h9 : recs[j]? with
                      | none => rw [h9] at hj; cases hj
                      | some y =>
                        rw [h9] at hj
                        injection hj with hj
                        subst hj
                        obtain ⟨g, e, hc⟩ := (row_cells HCy.out.row).2.2.2 j y h9
                        rw [e] at hb'
                        injection hb' with hb'
                        subst hb'
                        rw [show ((⟨g, 0, none⟩ : Addr).add j) = ⟨g, j, none⟩ by simp [Addr.add]; omega]
                        exact pw_cell_below hW hc⟩
                    have HNO : Aside0 (a6 = none → n6 = 0 ∧ n6 = 0) := ⟨fun e => by
                      rcases HSH6.out with ⟨_, h⟩ | ⟨g, h⟩
                      · omega
                      · rw [h] at e; cases e⟩
                    have HSF : Aside0 (∀ W a c, Below wr.heap.size wr W → Calls Tryz.prog 18 #[.pointer (some ⟨q, 0, none⟩), .slice a (n6 + 1) c] W fun e w' => e = .returned (.bool false) ∧ W = w') := ⟨fun W a c hW => says_false a (n6 + 1) c W (HLq.out.below hW) (by have := HN6.out; omega)⟩
                    have HLN : Aside0 ((recs.map encS).length = n6 * 1) := ⟨by rw [List.length_map, HN6.out, Nat.mul_one]⟩
                    clear hd2 ht2
                    go_wp2_with (fail)
                    refine HDC.out.mono ?_
                    rintro e wz ⟨rfl, hwz⟩
                    obtain rfl := hwz.symm
                    go_wp2_with (fail)
                    have HB1k := Aside0.mk (fun k => pw_below_drewN (Below.refl wr.heap.size wr) k)
                    have HB1d := Aside0.mk (below_drew1 (Below.refl wr.heap.size wr))
                    have HSY2 : Aside0 (∀ W, Below wr.heap.size wr W → Calls Tryz.prog 18 #[.pointer (some ⟨q, 0, none⟩), .slice a6 n6 c6] W fun e w' => e = .returned (.bool true) ∧ Below W.heap.size W w') := ⟨fun W hW => says_true a6 n6 c6 W (HLq.out.below hW) HN6.out (row_cells (own_below HCy.out.row hW)).2.2.2⟩
                    go_region_held3 (fun w' => w'.cell? ⟨b0, o0 + i, none⟩ = some (.string x)) (first | exact hxy | exact zxy 1 | exact zxy _ | exact hxg | go_keep)
                      (first
                        | (refine step_append_grows rfl (.tmp 120) (.tmp 125) 36 rfl 9 i0 (.string ByteArray.empty) 1 16 Tryz.underlying36 hi0 hz0 hz1 hz2 rfl (by decide) a6 n6 n6 (recs.map encS) (by simp [Act.eval, Act.put]) HNO.out HLN.out (HIN.out _ (by first | exact (Below.refl _ _).alloc (Nat.le_refl _) _ | exact HB1d.out.alloc (Nat.le_refl _) _ | exact (HB1k.out _).alloc (Nat.le_refl _) _)) ⟨wr.heap.size, 0, none⟩ 1 1 [.string x] (by simp [Act.eval, Act.put]) rfl (cell_one_new _ _ _) (by simp [Value.oneCell']) (by omega) (by unfold maxLen; omega) (by omega) ?_; intro v' w3 hown' hg3; obtain ⟨a', c', rfl⟩ := own_form hown'; have HW3 : Aside0 (Below wr.heap.size wr w3) := ⟨below_step (w := wr) (by first | exact (Below.refl _ _).alloc (Nat.le_refl _) _ | exact HB1d.out.alloc (Nat.le_refl _) _ | exact (HB1k.out _).alloc (Nat.le_refl _) _) (below_of_grown hg3)⟩; have hxg := pw_cell_below HW3.out hxy; clear hown' hg3)
                        | (go_at_call 18; refine (HSF.out _ _ _ HW3.out).mono ?_; rintro e wz ⟨rfl, rfl⟩))
                    go_wp2_with (fail)
                    refine (HSY2.out _ HW3.out).mono ?_
                    rintro e w9 ⟨rfl, hb9⟩
                    have HC9 := Aside0.mk ((HCy.out.bl HW3.out).bl hb9)
                    clear hb9
                    go_wp2_with (fail)
                    have hM := HM.out
                    exact ⟨LC.mk (i := i + 1) (by omega) hk2 (by omega) rfl rfl (by simp) HC9 HH9, by simp [intOf]; omega⟩
            · exact absurd hc (by decide)
      · have h2' : ¬ (i : Int) < 150 := by omega
        have HAL := Aside0.mk (alive_calls wr (HG.out.below HCB.out.below))
        go_wp2_with (fail)
        refine HAL.out.mono ?_
        rintro e w2 ⟨rfl, hb2⟩
        have HB2 := Aside0.mk (below_step (w := w) HCB.out.below hb2)
        clear hb2
        go_wp2_with (fail)
        go_ret
        exact ⟨rfl, HB2.out⟩
    · have h1' : ¬ (i : Int) < (n0 : Int) := by omega
      have HAL := Aside0.mk (alive_calls wr (HG.out.below HCB.out.below))
      go_wp2_with (fail)
      refine HAL.out.mono ?_
      rintro e w2 ⟨rfl, hb2⟩
      have HB2 := Aside0.mk (below_step (w := w) HCB.out.below hb2)
      clear hb2
      go_wp2_with (fail)
      go_ret
      exact ⟨rfl, HB2.out⟩
end Go.Proofs.YtmceikfbgmcmaaaGreatDoor.D

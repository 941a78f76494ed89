/- The law LogPlays. -/
import Derived.Test.YtmceikfbgmcmaaaGreatDoorPlB
import Derived.Test.YtmceikfbgmcmaaaGreatDoorStB
import Derived.Test.YtmceikfbgmcmaaaGreatDoorFiA
import Derived.Test.YtmceikfbgmcmaaaGreatDoorHoP
import Derived.Test.YtmceikfbgmcmaaaGreatDoorAlC
import Derived.Deep.CutBlock
import Derived.Deep.CutRange
import Derived.Lib.QuietBelow
namespace Go.Proofs.YtmceikfbgmcmaaaGreatDoor.D
open Go.RowKit Go.Extern.Stop Go.Stop Go.Extern Go.Proofs.YtmceikfbgmcmaaaGreatDoorW.PrintWords Go.Proofs.YtmceikfbgmcmaaaGreatDoorW.PrintLast Go.Proofs.YtmceikfbgmcmaaaGreatDoorW.PrintMore
set_option linter.unusedVariables false
set_option linter.unusedSimpArgs false
/-- What a list of steps has. -/
def SL (w : World) (a : Option Addr) (n : Nat) : Prop := ∀ i, i < n → ∃ (bb o : Nat) (D N : Int) (T : ByteArray), a = some ⟨bb, o, none⟩ ∧ w.cell? ⟨bb, o + i * 3, none⟩ = some (.int .i64 D) ∧ w.cell? ⟨bb, o + i * 3 + 1, none⟩ = some (.int .i64 N) ∧ w.cell? ⟨bb, o + i * 3 + 2, none⟩ = some (.string T)
theorem half_start {w w1 w2 : World} {p b : Nat} {cut : Int} (hp : w.heap.size ≤ p) (hb : w.heap.size ≤ b) (hd : DK w1 p b ⟨[], cut, 0, false⟩) (h1 : Below w.heap.size w w1) (hr : RK w2 w1.heap.size w1.heap.size ⟨[], cut, 0, false⟩) (h2 : Below w1.heap.size w1 w2) : Half w.heap.size w w2 p b w1.heap.size w1.heap.size ⟨[], cut, 0, false⟩ ⟨[], cut, 0, false⟩ := by
  have h3 := hd.lt
  have h4 := hd.ltb
  have h5 := h1.size
  exact ⟨hd.below h2, hr, (fun q hq => by cases hq), (fun q hq => by cases hq), hp, hb, h5, h5, by omega, by omega, by omega, by omega, h1.trans (h2.mono h5)⟩
theorem RK.cnt? {w : World} {p g : Nat} {s : St} (h : RK w p g s) : w.cell? ⟨p, 2, none⟩ = some (.int .i64 s.cnt) := by
  obtain ⟨_, _, _, _, c2, _, _⟩ := h.cells
  exact c2
set_option maxHeartbeats 64000000 in
set_option maxRecDepth 100000 in
/-- The law LogPlays. -/
theorem plays_calls (cut : Int) (a : Option Addr) (n c : Nat) (w : World) (hS : SL w a n) (hG : GW w) : Calls Tryz.prog 5 #[.int .i64 cut, .slice a n c] w fun e w' => e = .returned (.bool true) ∧ Below w.heap.size w w' := by
  have HG := Aside0.mk hG
  have HS := Aside0.mk hS
  have e0 : ∀ (v : Addr) (w : World), (binOp .eql 48 (.pointer (some v)) (.pointer none)).run Tryz.prog w = .ok (.bool false) w := fun v w => by kernel_rfl
  have e2 := eqP
  have e3 : ∀ (w : World), (binOp .eql 48 (.pointer none) (.pointer none)).run Tryz.prog w = .ok (.bool true) w := fun w => by kernel_rfl
  have e4 := eqN
  have mixed : Tryz.prog.follows .mixedOrders = true := by kernel_rfl
  have HGA : Aside0 (∀ W, Below w.heap.size w W → GW W) := ⟨fun W hb => hG.below hb⟩
  clear hG hS
  go_enter Tryz.func5, Tryz.ntmps5
  go_wp2_with (fail)
  refine (new_calls cut _).mono ?_
  rintro e w1 ⟨p, b, rfl, hp, hb, hD, hb1⟩
  have HX := Aside0.mk (And.intro hp (And.intro hb (And.intro hD hb1)))
  clear hp hb hD hb1
  go_wp2_with (fail)
  refine (rnew_calls cut _).mono ?_
  rintro e w2 ⟨rfl, hR, hb2⟩
  have HH := Aside0.mk (half_start HX.out.1 HX.out.2.1 HX.out.2.2.1 HX.out.2.2.2 hR hb2)
  clear HX hR hb2
  obtain ⟨q, hq⟩ : ∃ q, w1.heap.size = q := ⟨_, rfl⟩
  rw [hq] at HH ⊢
  clear hq
  have HO := Aside0.mk (la_open HH.out HGA.out (by show (0 : Nat) ≤ 10000; decide))
  rw [open_whole (s := ⟨[], cut, 0, false⟩) rfl Hold.start] at HO
  go_wp2_with (fail)
  refine HO.out.mono ?_
  rintro e w3 ⟨v7, v8, rfl, hH3, hA3, hE3⟩
  have HH3 := Aside0.mk hH3
  have HE3 := Aside0.mk hE3
  have HA3 : Aside0 (OA w.heap.size w3 p v7 (openF ⟨[], cut, 0, false⟩).2.1) := ⟨by rw [open_whole (s := ⟨[], cut, 0, false⟩) rfl Hold.start]; exact hA3⟩
  have HQ := Aside0.mk (ra_open hH3 HA3.out (by show (0 : Nat) ≤ 10000; decide))
  rw [open_whole (s := ⟨[], cut, 0, false⟩) rfl Hold.start] at HQ
  clear hH3 hA3 hE3 HO HH
  go_wp2_with (fail)
  refine HQ.out.mono ?_
  rintro e w4 ⟨v9, g4, rfl, hH4, hL4, hK4⟩
  have hh8 : v8 = .nilIface := by
    rcases HE3.out with ⟨_, h⟩ | ⟨h, _⟩
    · exact h
    · exact absurd (show 0 < 0 from h) (by decide)
  subst hh8
  have HP4 : Aside0 (PR w p b q v7 v9 0 w4) := ⟨⟨g4, _, hH4, Nat.le_refl _, hL4⟩⟩
  have hsome : ∃ qa qb, v7 = .pointer (some ⟨qa, 0, none⟩) ∧ v9 = .pointer (some ⟨qb, 0, none⟩) := by
    rcases HA3.out with ⟨_, h⟩ | ⟨recs, qa, Ba, lv, _, h, _⟩
    · rw [open_whole (s := ⟨[], cut, 0, false⟩) rfl Hold.start] at h
      cases h
    · rcases hL4 with ⟨h2, _⟩ | ⟨qa', qb, _, _, _, _, _, _, _, h3, _⟩
      · rw [h] at h2; cases h2
      · exact ⟨qa, qb, h, h3⟩
  obtain ⟨qa, qb, rfl, rfl⟩ := hsome
  have HNO := Aside0.mk (isNo_calls w4 ⟨#[]⟩ (-1))
  clear hH4 hL4 hK4 HQ HA3 HH3 HE3
  go_wp2_with (fail)
  refine HNO.out.mono ?_
  rintro e w5 ⟨rfl, hw5⟩
  obtain rfl := hw5.symm
  clear HNO
  go_wp2_with (fail)
  obtain ⟨M, hM⟩ : ∃ M : Nat, M = 40 := ⟨_, rfl⟩
  have HM := Aside0.mk hM
  clear hM
  go_loopw [7, 9, 12] (fun v7 v9 v12 wr => ∃ i : Nat, i ≤ 40 ∧ v12 = .int .i64 i ∧ Aside0 (PR w p b q v7 v9 (100 * i) wr)) (fun _ _ v12 _ => M - (intOf v12).toNat)
  case atStart => exact ⟨0, Nat.zero_le _, rfl, HP4⟩
  case round =>
    obtain ⟨i, hi, rfl, HP⟩ := hrel
    clear HP4
    by_cases h1 : i < n
    · have h1' : (i : Int) < (n : Int) := by omega
      have h0' : (0 : Int) ≤ (i : Int) := by omega
      by_cases h2 : i < 40
      · have h2' : (i : Int) < 40 := by omega
        obtain ⟨bb, o, D, N, T, rfl, y0, y1, y2⟩ := HS.out i h1
        have k0 := pw_cell_below HP.out.below y0
        have k1 := pw_cell_below HP.out.below y1
        have k2 := pw_cell_below HP.out.below y2
        clear y0 y1 y2
        go_upto_region 11 with (fail)
        have hb10 : Below wr.heap.size wr (wr.alloc (.cells #[.int .i64 D, .int .i64 N, .string T] 52)) := (Below.refl _ _).alloc (Nat.le_refl _) _
        have HV : Aside0 (SV (wr.alloc (.cells #[.int .i64 D, .int .i64 N, .string T] 52)) wr.heap.size D N T) := ⟨by
          unfold SV World.alloc
          exact Array.getElem?_push_size⟩
        have HP1 := Aside0.mk (HP.out.bl hb10)
        obtain ⟨st, hst⟩ : ∃ st, wr.heap.size = st := ⟨_, rfl⟩
        obtain ⟨w6, hw6⟩ : ∃ w6, wr.alloc (.cells #[.int .i64 D, .int .i64 N, .string T] 52) = w6 := ⟨_, rfl⟩
        rw [hst, hw6] at HV
        rw [hw6] at HP1
        rw [hst, hw6]
        clear hst hw6 hb10 k0 k1 k2
        obtain ⟨x0, x1, x2⟩ := HV.out.cells
        by_cases h3 : 4000 < T.size
        · have h3' : (4000 : Int) < (T.size : Int) := by omega
          have HP2 := Aside0.mk (HP1.out.le (n := 100 * (i + 1)) (by omega))
          go_wp2_with (fail)
          have hM := HM.out
          exact ⟨⟨i + 1, by omega, by simp, HP2⟩, by simp [intOf]; omega⟩
        · have h3' : ¬ (4000 : Int) < (T.size : Int) := by omega
          go_upto_block 2 with (fail)
          go_cut [7, 8, 9, 10, 11, 14, 15, 16, 17, 18] from 46 to 184 (fun v7 v8 v9 v10 v11 v14 v15 v16 v17 v18 wx => Aside0 (PR w p b q v7 v9 (100 * i + 71) wx))
          case first =>
            by_cases hd0 : D = 0
            · subst hd0
              obtain ⟨cN, hcN, hc1, hc70⟩ : ∃ cN : Nat, max (1 : Int) (min N 70) = (cN : Int) ∧ 1 ≤ cN ∧ cN ≤ 70 := ⟨(max (1 : Int) (min N 70)).toNat, by omega, by omega, by omega⟩
              have HST : Aside0 (PR w p b q u7 u9 (100 * i + 0) w6 ∧ SV w6 st 0 N T) := ⟨HP1.out, HV.out⟩
              go_wp2_with (fail)
              go_loopw [14] (fun v14 wy => ∃ j : Nat, j ≤ cN ∧ v14 = .int .i64 j ∧ Aside0 (PR w p b q u7 u9 (100 * i + j) wy ∧ SV wy st 0 N T)) (fun v14 _ => cN - (intOf v14).toNat)
              case atStart => exact ⟨0, Nat.zero_le _, rfl, HST⟩
              case round =>
                obtain ⟨j, hj, rfl, HY⟩ := hrel
                obtain ⟨y0, y1, y2⟩ := HY.out.2.cells
                by_cases hjc : j < cN
                · have hjc' : (j : Int) < (cN : Int) := by omega
                  obtain ⟨g, s, hH, hlen, hLL⟩ := HY.out.1
                  rcases hLL with ⟨rfl, rfl⟩ | ⟨qa, qb, Ba, Bb, lv, lv2, recs, br, rfl, rfl, hl, hBa, hBb⟩
                  · clear hH hlen
                    go_wp2_with (fail)
                    go_meet
                    exact ⟨HY.out.1.le (by omega)⟩
                  · have HLA := Aside0.mk (la_append T hH hl hBa (fun W hb => (HGA.out W (hH.below.trans (hb.mono hH.le))).2.1) (by omega))
                    have HH1 := Aside0.mk hH
                    have HL1 := Aside0.mk hl
                    have HLE := Aside0.mk (And.intro hlen (And.intro hBa hBb))
                    have hall := appG_all s recs br T hH.gs hH.d.2.2.1
                    obtain ⟨⟨s', recs', br', ec, nm⟩, hap⟩ : ∃ z, appG s recs br T = z := ⟨_, rfl⟩
                    rw [hap] at HLA hall
                    have HAP := Aside0.mk hap
                    have HALL := Aside0.mk hall
                    clear hH hl hlen hBa hBb hall hap
                    go_wp2_with (fail)
                    refine HLA.out.mono ?_
                    rintro e w7 ⟨v15, lv', rfl, hE, hH7, hl7, hK7⟩
                    have HE7 := Aside0.mk hE
                    have HH7 := Aside0.mk hH7
                    have HL7 := Aside0.mk hl7
                    have HV7 := Aside0.mk (HY.out.2.append HH1.out HL1.out hK7)
                    obtain ⟨z0, z1, z2⟩ := HV7.out.cells
                    have HRA := Aside0.mk (ra_append T hH7 hl7 (Nat.le_trans HLE.out.2.2 hK7.size) (by omega))
                    rw [HAP.out] at HRA
                    have HX7 : Aside0 (∀ k, (k = q ∨ k = g ∨ k = qb ∨ lv2.ownBlock = some k) → k < wr.heap.size) := ⟨fun k hk => by
                      rcases hk with rfl | rfl | rfl | hk
                      · exact HH1.out.r.lt
                      · exact HH1.out.r.ltg
                      · exact (Array.getElem?_eq_some_iff.1 HL1.out.b.1).1
                      · exact own_up HL1.out.b.2.1 hk⟩
                    have HZ7 := Aside0.mk hK7.size
                    clear hE hH7 hl7 hK7 y0 y1 y2
                    go_wp2_with (fail)
                    refine HRA.out.mono ?_
                    rintro e w8 ⟨rfl, g', lv'', hH8, hl8, hK8⟩
                    have HE8 := Aside0.mk (HE7.out.ka hK8 HX7.out)
                    have HP8 : Aside0 (PR w p b q (.pointer (some ⟨qa, 0, none⟩)) (.pointer (some ⟨qb, 0, none⟩)) (100 * i + (j + 1)) w8) := ⟨⟨g', s', hH8, by have h5 := HALL.out.2.1; have h6 := HLE.out.1; show s'.L.length ≤ _; omega, .inr ⟨qa, qb, Ba, Bb, lv', lv'', recs', br', rfl, rfl, hl8, by have := HLE.out.2.1; have := HZ7.out; have := hK8.size; omega, by have := HLE.out.2.2; have := HZ7.out; have := hK8.size; omega⟩⟩⟩
                    have HV8 := Aside0.mk (HV7.out.rappend HH7.out HL7.out hK8)
                    have cIS : ∀ d os, Calls Tryz.prog 10 #[v15, .int .i64 (ec : Int), .string nm, .int .i64 (-1)] (Go.Sort.grow (redrawn w8 d) os) fun e w'' => e = .returned (.bool true) ∧ ∃ p : Regrown, w'' = Go.Sort.grow (redrawn w8 p.d) p.os := fun d os => Calls.regrown_of (isEr_calls ec _ v15 nm _ (HE8.out.below (below_regrown w8 d os)) (HGA.out _ (hH8.b (below_regrown w8 d os)).below).1 HALL.out.2.2.1 (Nat.le_trans HALL.out.2.2.2 (by decide)))
                    have cBR : ∀ d os, Calls Tryz.prog 15 #[.pointer (some ⟨qa, 0, none⟩)] (Go.Sort.grow (redrawn w8 d) os) fun e w'' => e = .returned (.bool br') ∧ ∃ p : Regrown, w'' = Go.Sort.grow (redrawn w8 p.d) p.os := fun d os => Calls.regrown_of ((broken_calls _ (hl8.a.below (below_regrown w8 d os))).mono (by rintro e w' ⟨rfl, rfl⟩; exact ⟨rfl, Below.refl _ _⟩))
                    have c2' := fun d os => cell_regrown hl8.b.cells.2.2 d os
                    clear hH8 hl8 hK8 z0 z1 z2
                    go_wp2_with (fail)
                    refine wp_region_quiet_below mixed (by kernel_rfl) ?_
                    repeat (go_big_quiet_step (first | exact cIS _ _ | exact cBR _ _))
                    refine wpQuiet_nil ?_
                    intro _ hw'
                    obtain ⟨⟨dq, osq⟩, hw''⟩ := hw'
                    subst hw''
                    have HP9 : Aside0 (PR w p b q (.pointer (some ⟨qa, 0, none⟩)) (.pointer (some ⟨qb, 0, none⟩)) (100 * i + (j + 1)) (Go.Sort.grow (redrawn w8 dq) osq) ∧ SV (Go.Sort.grow (redrawn w8 dq) osq) st 0 N T) := ⟨HP8.out.bl (below_regrown w8 dq osq), HV8.out.bl (below_regrown w8 dq osq)⟩
                    clear cIS cBR c2'
                    obtain ⟨w9, hw9⟩ : ∃ w9, Go.Sort.grow (redrawn w8 dq) osq = w9 := ⟨_, rfl⟩
                    rw [hw9] at HP9 ⊢
                    clear hw9
                    go_wp2_with (fail)
                    exact ⟨⟨j + 1, by omega, by simp, HP9⟩, by simp [intOf]; omega⟩
                · have hjc' : ¬ (j : Int) < (cN : Int) := by omega
                  go_wp2_with (fail)
                  go_meet
                  exact ⟨HY.out.1.le (by omega)⟩
            · by_cases hd1 : D = 1
              · subst hd1
                obtain ⟨g, s, hH, hlen, _⟩ := HP1.out
                have HLE := Aside0.mk hlen
                have HRR := Aside0.mk (rrestart_calls q g s N w6 hH.r)
                have HH1 := Aside0.mk hH
                clear hH hlen
                go_wp2_with (fail)
                refine HRR.out.mono ?_
                rintro e w7 ⟨rfl, hR7, hK7⟩
                have HH7 := Aside0.mk (HH1.out.rr hR7 hK7 (.inl rfl) HH1.out.gs)
                have HV7 := Aside0.mk (HV.out.kr HH1.out.r hK7)
                obtain ⟨z0, z1, z2⟩ := HV7.out.cells
                have HRD := Aside0.mk (restart_calls p b s N w7 HH7.out.d)
                clear hR7 hK7 x0 x1 x2
                go_wp2_with (fail)
                refine HRD.out.mono ?_
                rintro e w8 ⟨rfl, hD8, hK8⟩
                have HH8 := Aside0.mk (HH7.out.p hD8 hK8 HH1.out.gs)
                clear hD8 hK8 z0 z1 z2
                have HLO := Aside0.mk (la_open HH8.out HGA.out (by have := HLE.out; show s.L.length ≤ 10000; omega))
                obtain ⟨s1, hs1⟩ : ∃ s1 : St, (⟨s.L, N, 0, false⟩ : St) = s1 := ⟨_, rfl⟩
                have HS1 : Aside0 (s1.L = s.L) := ⟨by rw [← hs1]⟩
                rw [hs1] at HLO HH8
                clear hs1
                have hall := open_all s1 HH8.out.gs HH8.out.d.2.2.1
                go_wp2_with (fail)
                refine HLO.out.mono ?_
                rintro e wa ⟨v7, v8, rfl, hHa, hAa, hEa⟩
                have HEa := Aside0.mk hEa
                have HHa := Aside0.mk hHa
                have HQ := Aside0.mk (ra_open hHa hAa (by rw [HS1.out]; have := HLE.out; omega))
                obtain ⟨⟨s2, ro, ec, nm⟩, hop⟩ : ∃ z, openF s1 = z := ⟨_, rfl⟩
                rw [hop] at HEa HQ hall
                have HALL := Aside0.mk hall
                have HZQ : Aside0 (q < w8.heap.size ∧ g < w8.heap.size) := ⟨HH8.out.r.lt, HH8.out.r.ltg⟩
                rw [hop] at HHa
                clear hHa hAa hEa hall hop
                go_wp2_with (fail)
                refine HQ.out.mono ?_
                rintro e wb ⟨v9, g', rfl, hHb, hLb, hKb⟩
                have HEb := Aside0.mk (HEa.out.kept' hKb HZQ.out.1 HZQ.out.2)
                have HPb : Aside0 (PR w p b q v7 v9 (100 * i + 71) wb) := ⟨⟨g', s2, hHb, by have h5 := HALL.out.2.1; have h6 := HLE.out; rw [HS1.out] at h5; show s2.L.length ≤ _; omega, hLb⟩⟩
                have HIS := Aside0.mk (isEr_calls ec _ v8 nm wb HEb.out (HGA.out _ hHb.below).1 HALL.out.2.2.1 (Nat.le_trans HALL.out.2.2.2 (by decide)))
                rcases hLb with ⟨rfl, rfl⟩ | ⟨qa, qb, Ba, Bb, lv, lv2, recs, br, rfl, rfl, hl, _, _⟩
                · clear hHb hKb
                  go_wp2_with (fail)
                  refine HIS.out.mono ?_
                  rintro e wd ⟨rfl, hbd⟩
                  have HPd := Aside0.mk (HPb.out.bl hbd)
                  clear hbd
                  go_wp2_with (fail)
                  go_meet
                  exact HPd
                · clear hHb hKb hl
                  go_wp2_with (fail)
                  refine HIS.out.mono ?_
                  rintro e wd ⟨rfl, hbd⟩
                  have HPd := Aside0.mk (HPb.out.bl hbd)
                  clear hbd
                  go_wp2_with (fail)
                  go_meet
                  exact HPd
              · by_cases hd2 : D = 2
                · subst hd2
                  have HFI := Aside0.mk (lawfile_calls N w6)
                  go_wp2_with (fail)
                  refine HFI.out.mono ?_
                  rintro e w7 ⟨nm, rfl, hnm, hb7⟩
                  have HP7 := Aside0.mk (HP1.out.bl hb7)
                  have HV7 := Aside0.mk (HV.out.bl hb7)
                  obtain ⟨z0, z1, z2⟩ := HV7.out.cells
                  obtain ⟨g, s, hH, hlen, hLL⟩ := HP7.out
                  have HH7 := Aside0.mk hH
                  have HLL7 := Aside0.mk hLL
                  have HLE := Aside0.mk hlen
                  have HPA := Aside0.mk (p_append nm T hH (by omega) (by omega))
                  have hln := append_len s nm T hH.d.2.2.1
                  obtain ⟨⟨s', ec⟩, hap⟩ : ∃ z, appendF s nm T = z := ⟨_, rfl⟩
                  rw [hap] at HPA hln
                  have HAP := Aside0.mk hap
                  have HLN := Aside0.mk hln
                  clear hH hlen hLL hb7 x0 x1 x2 hap hln
                  go_wp2_with (fail)
                  refine HPA.out.mono ?_
                  rintro e w8 ⟨v, rfl, _, hH8, hK8⟩
                  have HH8 := Aside0.mk hH8
                  have HV8 := Aside0.mk (HV7.out.kd HH7.out.d hK8)
                  have HLL8 := Aside0.mk (HLL7.out.kp hK8 HH7.out.d.off.1 HH7.out.d.off.2)
                  have HRA := Aside0.mk (r_append nm T hH8 (by omega))
                  rw [HAP.out] at HRA
                  clear hH8 hK8 z0 z1 z2
                  obtain ⟨z0, z1, z2⟩ := HV8.out.cells
                  go_wp2_with (fail)
                  refine HRA.out.mono ?_
                  rintro e w9 ⟨rfl, g', hH9, hK9⟩
                  have HP9 : Aside0 (PR w p b q u7 u9 (100 * i + 71) w9) := ⟨⟨g', s', hH9, by have h5 : s'.L.length ≤ s.L.length + 1 := HLN.out; have h6 := HLE.out; omega, HLL8.out.kp hK9 HH8.out.r.off.1 HH8.out.r.off.2⟩⟩
                  clear hH9 hK9 z0 z1 z2
                  go_wp2_with (fail)
                  go_meet
                  exact HP9
                · by_cases hd3 : D = 3
                  · subst hd3
                    have HFI := Aside0.mk (lawfile_calls N w6)
                    go_wp2_with (fail)
                    refine HFI.out.mono ?_
                    rintro e w7 ⟨nm, rfl, hnm, hb7⟩
                    have HP7 := Aside0.mk (HP1.out.bl hb7)
                    have HV7 := Aside0.mk (HV.out.bl hb7)
                    obtain ⟨z0, z1, z2⟩ := HV7.out.cells
                    obtain ⟨g, s, hH, hlen, hLL⟩ := HP7.out
                    have HH7 := Aside0.mk hH
                    have HLL7 := Aside0.mk hLL
                    have HLE := Aside0.mk hlen
                    have HPA := Aside0.mk (p_put nm T hH (by omega) (by omega))
                    have hln := put_len s nm T hH.d.2.2.1
                    obtain ⟨⟨s', ec⟩, hap⟩ : ∃ z, putF s nm T = z := ⟨_, rfl⟩
                    rw [hap] at HPA hln
                    have HAP := Aside0.mk hap
                    have HLN := Aside0.mk hln
                    clear hH hlen hLL hb7 x0 x1 x2 hap hln
                    go_wp2_with (fail)
                    refine HPA.out.mono ?_
                    rintro e w8 ⟨v, rfl, _, hH8, hK8⟩
                    have HH8 := Aside0.mk hH8
                    have HV8 := Aside0.mk (HV7.out.kd HH7.out.d hK8)
                    have HLL8 := Aside0.mk (HLL7.out.kp hK8 HH7.out.d.off.1 HH7.out.d.off.2)
                    have HRA := Aside0.mk (r_put nm T hH8 (by omega))
                    rw [HAP.out] at HRA
                    clear hH8 hK8 z0 z1 z2
                    obtain ⟨z0, z1, z2⟩ := HV8.out.cells
                    go_wp2_with (fail)
                    refine HRA.out.mono ?_
                    rintro e w9 ⟨rfl, g', hH9, hK9⟩
                    have HP9 : Aside0 (PR w p b q u7 u9 (100 * i + 71) w9) := ⟨⟨g', s', hH9, by have h5 : s'.L.length ≤ s.L.length + 1 := HLN.out; have h6 := HLE.out; omega, HLL8.out.kp hK9 HH8.out.r.off.1 HH8.out.r.off.2⟩⟩
                    clear hH9 hK9 z0 z1 z2
                    go_wp2_with (fail)
                    go_meet
                    exact HP9
                  · go_wp2_with (fail)
                    go_meet
                    exact ⟨HP1.out.le (by omega)⟩
          case rest =>
            have HP2 := Aside0.mk hcut.out
            obtain ⟨g, s, hH, hlen, hLL⟩ := hcut.out
            have cST : ∀ d os, Calls Tryz.prog 30 #[u7, u9] (Go.Sort.grow (redrawn wc d) os) fun e w'' => e = .returned (.bool true) ∧ ∃ p : Regrown, w'' = Go.Sort.grow (redrawn wc p.d) p.os := fun d os => Calls.regrown_of (by
              have hb := below_regrown wc d os
              rcases hLL.bl hb with ⟨e5, e6⟩ | ⟨qa, qb, Ba, Bb, lv, lv2, recs, br, e5, e6, hl, _, _⟩
              · rw [e5, e6]
                exact stands_nil _
              · rw [e5, e6]
                exact stands_calls _ hl.a hl.b (HGA.out _ (hH.b hb).below) hl.a.2.2)
            have cWR : ∀ d os, Calls Tryz.prog 19 #[.pointer (some ⟨p, 0, none⟩)] (Go.Sort.grow (redrawn wc d) os) fun e w'' => e = .returned (.int .i64 s.cnt) ∧ ∃ p : Regrown, w'' = Go.Sort.grow (redrawn wc p.d) p.os := fun d os => Calls.regrown_of ((writes_calls p b s _ (hH.b (below_regrown wc d os)).d).mono (by rintro e w' ⟨rfl, rfl⟩; exact ⟨rfl, Below.refl _ _⟩))
            have cFI : ∀ d os, Calls Tryz.prog 31 #[.pointer (some ⟨p, 0, none⟩), .pointer (some ⟨q, 0, none⟩)] (Go.Sort.grow (redrawn wc d) os) fun e w'' => e = .returned (.bool true) ∧ ∃ p : Regrown, w'' = Go.Sort.grow (redrawn wc p.d) p.os := fun d os => Calls.regrown_of (files_same (hH.b (below_regrown wc d os)))
            have c2' := fun d os => cell_regrown hH.r.cnt? d os
            clear hH hlen hLL
            go_wp2_with (fail)
            refine wp_region_quiet_below mixed (by kernel_rfl) ?_
            repeat (go_big_quiet_step (first | exact cST _ _ | exact cWR _ _ | exact cFI _ _))
            refine wpQuiet_nil ?_
            intro _ hw'
            obtain ⟨⟨dq, osq⟩, hw''⟩ := hw'
            subst hw''
            have HP3 := Aside0.mk ((HP2.out.bl (below_regrown wc dq osq)).le (n := 100 * (i + 1)) (by omega))
            clear cST cWR cFI c2'
            obtain ⟨w9, hw9⟩ : ∃ w9, Go.Sort.grow (redrawn wc dq) osq = w9 := ⟨_, rfl⟩
            rw [hw9] at HP3 ⊢
            clear hw9
            go_wp2_with (fail)
            have hM := HM.out
            exact ⟨⟨i + 1, by omega, by simp, HP3⟩, by simp [intOf]; omega⟩
      · have h2' : ¬ (i : Int) < 40 := by omega
        have HAL := Aside0.mk (alive_calls _ (HGA.out _ HP.out.below))
        go_wp2_with (fail)
        refine HAL.out.mono ?_
        rintro e w8 ⟨rfl, hb8⟩
        have HB8 := Aside0.mk (below_step (w := w) HP.out.below hb8)
        clear hb8
        go_wp2_with (fail)
        go_ret
        exact ⟨rfl, HB8.out⟩
    · have h1' : ¬ (i : Int) < (n : Int) := by omega
      have HAL := Aside0.mk (alive_calls _ (HGA.out _ HP.out.below))
      go_wp2_with (fail)
      refine HAL.out.mono ?_
      rintro e w8 ⟨rfl, hb8⟩
      have HB8 := Aside0.mk (below_step (w := w) HP.out.below hb8)
      clear hb8
      go_wp2_with (fail)
      go_ret
      exact ⟨rfl, HB8.out⟩
end Go.Proofs.YtmceikfbgmcmaaaGreatDoor.D

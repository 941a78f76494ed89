/- The law's own test: alive. -/
import Derived.Test.YtmceikfbgmcmaaaGreatDoorAlB
namespace Go.Proofs.YtmceikfbgmcmaaaGreatDoor.D
open Go.RowKit Go.Extern.Stop Go.Stop Go.Extern Go.Proofs.YtmceikfbgmcmaaaGreatDoorW.PrintWords Go.Proofs.YtmceikfbgmcmaaaGreatDoorW.PrintLast Go.Proofs.YtmceikfbgmcmaaaGreatDoorW.PrintMore
set_option linter.unusedVariables false
set_option linter.unusedSimpArgs false
set_option maxHeartbeats 32000000 in
set_option maxRecDepth 100000 in
/-- The law's own test. -/
theorem alive_calls (w : World) (hG : GW w) : Calls Tryz.prog 6 #[] w fun e w' => e = .returned (.bool true) ∧ Below w.heap.size w w' := by
  have HG := Aside0.mk hG
  clear hG
  have e0 := eqP
  go_enter Tryz.func6, Tryz.ntmps6
  go_wp2_with (fail)
  refine (new_calls (-1) _).mono ?_
  rintro e w1 ⟨p, b, rfl, hp, hb, hD, hB1⟩
  have HB1 := Aside0.mk hB1
  have HO1 := Aside0.mk (lopen_calls p b ⟨[], -1, 0, false⟩ [] false [] w1 hD rfl Hold.start rfl (fun W hk => (HG.out.below (hB1.trans (hk.below hp hb hB1.size))).2))
  have hp1 := hD.lt
  have hb1 := hD.ltb
  clear hD hB1
  go_wp2_with (fail)
  refine HO1.out.mono ?_
  rintro e w2 ⟨hK2, ⟨s2, ex2, lv2, rfl, hD2, hd2, hH2, hL2, hs2⟩ | ⟨_, _, hc⟩⟩
  · have hs2 : s2 = ⟨[], -1, 0, false⟩ := hs2 (by first | exact rfl | exact True.intro)
    have HB2 : Aside0 (Below w.heap.size w w2) := ⟨HB1.out.trans (hK2.below hp hb HB1.out.size)⟩
    have HA2 := Aside0.mk (lapp_calls p b w1.heap.size (w1.heap.size + 1) w.heap.size s2 lv2 [] ex2 ⟨#[97]⟩ w2 hD2 hL2 hp1 hb1 (by omega) hK2.size hH2 hd2 (by decide) (by decide) (fun W h => (HG.out.below (HB2.out.trans (h.mono HB2.out.size))).2.1) hp hb)
    have hz2 := hK2.size
    have hcut2 : s2.cut = -1 := by rw [hs2]
    clear hK2 hD2 hL2 hs2
    go_wp2_with (fail)
    refine HA2.out.mono ?_
    rintro e w3 ⟨v, s3, lv3, recs3, br3, rfl, hD3, hL3, hB3, _, ⟨rfl, rfl, rfl, hd3, hcut3, ex3, hH3⟩ | ⟨_, _, _, hc, _⟩⟩
    · have HB3 : Aside0 (Below w.heap.size w w3) := ⟨HB2.out.trans hB3⟩
      have hz3 := hB3.size
      have HA3 := Aside0.mk (lapp_calls p b w1.heap.size (w1.heap.size + 1) w.heap.size s3 lv3 [tl ⟨#[97]⟩] ex3 ⟨#[98]⟩ w3 hD3 hL3 hp1 hb1 (by omega) (by omega) hH3 hd3 (by decide) (by decide) (fun W h => (HG.out.below (HB3.out.trans (h.mono HB3.out.size))).2.1) hp hb)
      clear hD3 hL3 hB3 hH2 hH3
      go_wp2_with (fail)
      refine HA3.out.mono ?_
      rintro e w4 ⟨v, s4, lv4, recs4, br4, rfl, hD4, hL4, hB4, _, ⟨rfl, rfl, rfl, hd4, hcut4, ex4, hH4⟩ | ⟨_, _, _, hc, _⟩⟩
      · have HB4 : Aside0 (Below w.heap.size w w4) := ⟨HB3.out.trans hB4⟩
        have hz4 := hB4.size
        have HL4 := Aside0.mk hL4
        have HO4 := Aside0.mk (lopen_calls p b s4 _ ex4 [] w4 hD4 hd4 hH4 rfl (fun W hk => (HG.out.below (HB4.out.trans (hk.below hp hb HB4.out.size))).2))
        clear hD4 hL4 hB4 hH4
        go_wp2_with (fail)
        refine HO4.out.mono ?_
        rintro e w5 ⟨hK5, ⟨s5, ex5, lv5, rfl, hD5, hd5, hH5, hL5, hs5⟩ | ⟨_, _, hc⟩⟩
        · have HB5 : Aside0 (Below w.heap.size w w5) := ⟨HB4.out.trans (hK5.below hp hb HB4.out.size)⟩
          have HL5 := Aside0.mk hL5
          have HL45 := Aside0.mk (HL4.out.kept hp1 hb1 (by omega) hK5)
          have HAT := Aside0.mk (at_calls 1 (tl ⟨#[98]⟩) w5 hL5 rfl)
          rw [mkB_tl] at HAT
          clear hK5 hD5 hH5 hL5
          go_wp2_with (fail)
          refine HAT.out.mono ?_
          rintro e w6 ⟨rfl, rfl⟩
          have HAO := Aside0.mk (atOut_calls 2 w5 HL5.out (.inr (by decide)))
          go_wp2_with (fail)
          refine HAO.out.mono ?_
          rintro e w7 ⟨rfl, hF7, hB7, hz7⟩
          have HLL := Aside0.mk (len_calls w7 (HL45.out.below hB7))
          have HLK := Aside0.mk (len_calls w7 (HL5.out.below hB7))
          have HB7 : Aside0 (Below w.heap.size w w7) := ⟨HB5.out.trans (hB7.mono HB5.out.size)⟩
          have HIS := Aside0.mk (isP_ok w5.heap.size 2 2 w7 hF7 (HG.out.below HB7.out).1 (by decide) (by decide) (by decide) (HG.out.below HB7.out).2.1)
          clear hF7 hB7
          go_wp2_with (fail)
          refine HLL.out.mono ?_
          rintro e w8 ⟨rfl, rfl⟩
          go_wp2_with (fail)
          refine HLK.out.mono ?_
          rintro e w8 ⟨rfl, rfl⟩
          go_wp2_with (fail)
          refine HIS.out.mono ?_
          rintro e w8 ⟨rfl, hB8⟩
          have HB8 : Aside0 (Below w.heap.size w w8) := ⟨HB7.out.trans (hB8.mono HB7.out.size)⟩
          go_wp2_with (fail)
          go_ret
          exact ⟨rfl, HB8.out⟩
        · exact absurd hc (by rw [hcut4, hcut3, hcut2]; decide)
      · exact absurd hc (by rw [hcut3, hcut2]; decide)
    · exact absurd hc (by rw [hcut2]; decide)
  · exact absurd hc (by decide)
end Go.Proofs.YtmceikfbgmcmaaaGreatDoor.D

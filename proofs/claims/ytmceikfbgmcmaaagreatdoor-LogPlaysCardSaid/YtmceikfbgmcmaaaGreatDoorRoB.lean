/- The document's Open. -/
import Derived.Test.YtmceikfbgmcmaaaGreatDoorRoA
import Derived.Deep.CutBlock
import Derived.Deep.RegionHeld3
namespace Go.Proofs.YtmceikfbgmcmaaaGreatDoor.D
open Go.RowKit Go.Extern.Stop Go.Stop Go.Extern Go.Proofs.YtmceikfbgmcmaaaGreatDoorW.PrintWords Go.Proofs.YtmceikfbgmcmaaaGreatDoorW.PrintLast Go.Proofs.YtmceikfbgmcmaaaGreatDoorW.PrintMore
set_option linter.unusedVariables false
set_option linter.unusedSimpArgs false
set_option maxHeartbeats 32000000 in
set_option maxRecDepth 100000 in
theorem ropenLive_calls (p g : Nat) (s : St) (w : World) (hR : RK w p g s) (hd : s.dead = false) (hL : s.L.length ≤ 10000) : Calls Tryz.prog 22 #[.pointer (some ⟨p, 0, none⟩)] w fun e w' => ROpenP w p g s e w' := by
  have HR := Aside0.mk hR
  have hdd := Aside0.mk hd
  have hF : Aside0 (∀ n x, lk s.L (fileF n) = some x → x.size ≤ 16777216) := ⟨fun n x h => by
    have h2 := lk_size hR.okf.2.2 (fileF n)
    unfold lkD at h2
    rw [h] at h2
    exact h2⟩
  obtain ⟨v, _, _, _, _, c3, _⟩ := hR.cells
  rw [hd] at c3
  clear hR hd
  go_enter Tryz.func22, Tryz.ntmps22
  go_upto_block 0 with fail
  clear c3
  have HB0 : Aside0 (RW w p (w.alloc (.cells #[.pointer (some ⟨p, 0, none⟩), .slice none 0 0, .bool false] 56)) (.slice none 0 0) []) := ⟨RW.start p w⟩
  obtain ⟨w1, hw1⟩ : ∃ w1, (w.alloc (.cells #[.pointer (some ⟨p, 0, none⟩), .slice none 0 0, .bool false] 56)) = w1 := ⟨_, rfl⟩
  rw [hw1] at HB0 ⊢
  clear hw1
  go_cut [6, 7, 8] from 26 to 68 (fun v6 v7 v8 wx => ∃ (n : Nat) (acc : List BL) (t : Option (Nat × Nat)) (lv : Value), v8 = .int .i64 ((n + 1 : Nat) : Int) ∧ n ≤ 10001 ∧ Aside0 (scanF s.L (s.L.length + 1) 1 [] = (n, acc, t)) ∧ RC t v6 v7 ∧ Aside0 (RW w p wx lv acc))
  case first =>
    go_wp2_with (fail)
    go_loopw [6, 7, 8] (fun v6 v7 v8 wr => ∃ (n : Nat) (acc : List BL) (lv : Value), 1 ≤ n ∧ n ≤ 10001 ∧ v6 = .string ⟨#[]⟩ ∧ v7 = .int .i64 0 ∧ v8 = .int .i64 n ∧ Aside0 (RW w p wr lv acc) ∧ Aside0 (n ≤ s.L.length + 1 ∧ (∀ j, 1 ≤ j → j < n → (lk s.L (fileF j)).isSome = true) ∧ acc.length ≤ 64 * (n - 1) ∧ scanF s.L (s.L.length + 1) 1 [] = scanF s.L (s.L.length + 2 - n) n acc)) (fun _ _ v8 _ => s.L.length + 2 - (intOf v8).toNat)
    case atStart => exact ⟨1, [], _, Nat.le_refl _, by decide, rfl, rfl, rfl, HB0, ⟨by omega, fun j h1 h2 => by omega, by simp, rfl⟩⟩
    case round =>
      obtain ⟨n, acc, lv, hn1, hn2, rfl, rfl, rfl, HBW, HS⟩ := hrel
      obtain ⟨nm, hnm⟩ : ∃ nm, fileF n = nm := ⟨_, rfl⟩
      have HFI := Aside0.mk (rfile_calls n wr (by omega))
      rw [hnm] at HFI
      cases hlk : lk s.L nm with
      | none =>
        have h5 := there_none (n := n) hdd.out (by rw [hnm]; exact hlk)
        have HRD : Aside0 (∀ W, Below w.heap.size w W → Calls Tryz.prog 51 #[.pointer (some ⟨p, 0, none⟩), .string nm] W fun e w' => e = .returned (.tuple #[.string ⟨#[]⟩, .int .i64 6]) ∧ Below W.heap.size W w') := ⟨fun W hb => by
          have := rread_calls p g s nm W (HR.out.below hb)
          rw [← hnm, h5, if_neg (by decide), hnm] at this
          exact this.mono (by rintro e w' ⟨rfl, q, rfl⟩; exact ⟨rfl, pw_below_drewN (Below.refl _ _) q⟩)⟩
        have HSC : Aside0 (scanF s.L (s.L.length + 1) 1 [] = (n - 1, acc, none)) := ⟨by
          rw [HS.out.2.2.2, show s.L.length + 2 - n = (s.L.length + 1 - n) + 1 by have := HS.out.1; omega]
          exact scan_none (by rw [hnm]; exact hlk)⟩
        clear h5 hnm hlk
        go_wp2_with (fail)
        refine HFI.out.mono ?_
        rintro e wf ⟨rfl, hb⟩
        have HBf := Aside0.mk (HBW.out.below hb)
        clear hb
        go_wp2_with (fail)
        refine (HRD.out _ HBf.out.1).mono ?_
        rintro e wa ⟨rfl, hb⟩
        have HBa := Aside0.mk (HBf.out.below hb)
        clear hb
        go_wp2_with (fail)
        go_meet
        exact ⟨n - 1, acc, none, lv, by rw [show n - 1 + 1 = n by omega], by omega, HSC, .inl ⟨rfl, rfl, rfl⟩, HBa⟩
      | some x =>
        obtain ⟨h5, h6⟩ := there_some (n := n) hdd.out (by rw [hnm]; exact hlk)
        have hxs : x.size ≤ 16777216 := hF.out n x (by rw [hnm]; exact hlk)
        have HRD : Aside0 (∀ W, Below w.heap.size w W → Calls Tryz.prog 51 #[.pointer (some ⟨p, 0, none⟩), .string nm] W fun e w' => e = .returned (.tuple #[.string x, .int .i64 0]) ∧ Below W.heap.size W w') := ⟨fun W hb => by
          have := rread_calls p g s nm W (HR.out.below hb)
          rw [← hnm, h5, if_pos rfl, h6, hnm] at this
          exact this.mono (by rintro e w' ⟨rfl, q, rfl⟩; exact ⟨rfl, pw_below_drewN (Below.refl _ _) q⟩)⟩
        have HFA := Aside0.mk (fun W => lhas_calls x W hxs)
        have HSC := Aside0.mk hlk
        have hN := Aside0.mk hnm
        clear h5 h6 hlk hnm
        go_wp2_with (fail)
        refine HFI.out.mono ?_
        rintro e wf ⟨rfl, hb⟩
        have HBf := Aside0.mk (HBW.out.below hb)
        clear hb
        go_wp2_with (fail)
        refine (HRD.out _ HBf.out.1).mono ?_
        rintro e wa ⟨rfl, hb⟩
        have HBa := Aside0.mk (HBf.out.below hb)
        clear hb
        go_wp2_with (fail)
        refine (HFA.out _).mono ?_
        rintro e wr ⟨v, rfl, ho, hb⟩
        have HBI := Aside0.mk (HBa.out.below hb)
        clear hb
        obtain ⟨a, c, rfl, hc, hsh, hcs⟩ := own_shape ho
        have hug := used_got x
        have hgl := got_len x
        obtain ⟨G, hGG⟩ : ∃ G, got x = G := ⟨_, rfl⟩
        rw [hGG] at hc hcs hug hgl ⊢
        obtain ⟨m, hm⟩ : ∃ m, G.length = m := ⟨_, rfl⟩
        rw [hm] at hc hgl ⊢
        obtain ⟨u, hu⟩ : ∃ u, usedF G = u := ⟨_, rfl⟩
        rw [hu] at hug ⊢
        have HGG := Aside0.mk hGG
        have HGM := Aside0.mk hm
        have HUE := Aside0.mk hu
        have HCW := Aside0.mk hcs
        have HSH := Aside0.mk hsh
        have HRW := Aside0.mk HBI.out.2.2.1
        have HQ := Aside0.mk HBI.out.q
        have hq1 := HBI.out.2.cells.2.1
        have hbs : w.heap.size ≤ wr.heap.size := by have := HQ.out.2; omega
        have hacc : acc.length ≤ 64 * (n - 1) := HS.out.2.2.1
        have hacc2 : acc.length + m ≤ 1000000 := by omega
        have hai : acc.length + m ≤ 10000000 := by omega
        clear ho hcs hsh hGG hm hu
        have hlx : lk s.L (fileF n) = some x := by rw [hN.out]; exact HSC.out
        have HT0 : Aside0 (scanF s.L (s.L.length + 1) 1 [] = scanF s.L ((s.L.length + 1 - n) + 1) n acc) := ⟨by
          rw [HS.out.2.2.2, show s.L.length + 2 - n = (s.L.length + 1 - n) + 1 by have := HS.out.1; omega]⟩
        have HT1 : Aside0 (u < x.size → scanF s.L (s.L.length + 1) 1 [] = (n, acc ++ G, some (n, u))) := ⟨fun q => by
          rw [HT0.out, scan_torn hlx (by rw [HGG.out, HUE.out]; exact q), HGG.out, HUE.out]⟩
        have HT2 : Aside0 (¬ u < x.size → m < 64 → scanF s.L (s.L.length + 1) 1 [] = (n, acc ++ G, none)) := ⟨fun q q2 => by
          rw [HT0.out, scan_last hlx (by rw [HGG.out, HUE.out]; exact q) (by rw [HGG.out, HGM.out]; exact q2), HGG.out]⟩
        have HT3 : Aside0 (¬ u < x.size → ¬ m < 64 → scanF s.L (s.L.length + 1) 1 [] = scanF s.L (s.L.length + 2 - (n + 1)) (n + 1) (acc ++ G)) := ⟨fun q q2 => by
          rw [HT0.out, scan_next hlx (by rw [HGG.out, HUE.out]; exact q) (by rw [HGG.out, HGM.out]; exact q2), HGG.out, show s.L.length + 2 - (n + 1) = s.L.length + 1 - n by omega]⟩
        have HT5 : Aside0 (∀ j, 1 ≤ j → j < n + 1 → (lk s.L (fileF j)).isSome = true) := ⟨fun j q1 q2 => by
          by_cases hj : j = n
          · subst hj
            rw [hlx]
            rfl
          · exact HS.out.2.1 j q1 (by omega)⟩
        have HT4 : Aside0 (n ≤ s.L.length) := ⟨files_le s.L n (by omega) (fun j q1 q2 => HT5.out j q1 (by omega))⟩
        clear hlx
        by_cases h2 : u < x.size
        · have h2' : (u : Int) < (x.size : Int) := by omega
          go_upto_region 11 with (first | (at_builtin; refine append_spread rfl _ _ rfl w.heap.size lv acc.length (acc.map encS) rfl HRW.out a m c G rfl HSH.out hc HGM.out HCW.out hai hbs ?_; intro v' wz hown' hg3 hat3; obtain ⟨a', c', rfl⟩ := own_form hown'; have HBZ := Aside0.mk (HBI.out.app HGM.out hown' hg3 hat3 hacc2); have hzr := (hg3.block _ HQ.out.2 (fun e => HQ.out.1 e.symm)).trans HBI.out.2.1; have t1 : wz.cell? ⟨w.heap.size, 1, none⟩ = some lv := (by rw [cell_of_row _ _ _ _ _ _ hzr]; rfl); have tf : wz.frozen? ⟨w.heap.size, 1, none⟩ = false := row_frz hzr; clear hown' hg3 hat3 hzr) | go_in)
          clear t1 tf hq1
          go_wp2_with (fail)
          go_meet
          exact ⟨n, acc ++ G, some (n, u), _, by first | rfl | simp, by omega, ⟨HT1.out h2⟩, .inr ⟨n, u, rfl, by rw [hN.out], rfl⟩, HBZ⟩
        · have h2' : ¬ (u : Int) < (x.size : Int) := by omega
          by_cases h3 : m < 64
          · have h3' : (m : Int) < 64 := by omega
            go_upto_region 11 with (first | (at_builtin; refine append_spread rfl _ _ rfl w.heap.size lv acc.length (acc.map encS) rfl HRW.out a m c G rfl HSH.out hc HGM.out HCW.out hai hbs ?_; intro v' wz hown' hg3 hat3; obtain ⟨a', c', rfl⟩ := own_form hown'; have HBZ := Aside0.mk (HBI.out.app HGM.out hown' hg3 hat3 hacc2); have hzr := (hg3.block _ HQ.out.2 (fun e => HQ.out.1 e.symm)).trans HBI.out.2.1; have t1 : wz.cell? ⟨w.heap.size, 1, none⟩ = some lv := (by rw [cell_of_row _ _ _ _ _ _ hzr]; rfl); have tf : wz.frozen? ⟨w.heap.size, 1, none⟩ = false := row_frz hzr; clear hown' hg3 hat3 hzr) | go_in)
            clear t1 tf hq1
            go_wp2_with (fail)
            go_meet
            exact ⟨n, acc ++ G, none, _, by first | rfl | simp, by omega, ⟨HT2.out h2 h3⟩, .inl ⟨rfl, rfl, rfl⟩, HBZ⟩
          · have h3' : ¬ (m : Int) < 64 := by omega
            go_upto_region 11 with (first | (at_builtin; refine append_spread rfl _ _ rfl w.heap.size lv acc.length (acc.map encS) rfl HRW.out a m c G rfl HSH.out hc HGM.out HCW.out hai hbs ?_; intro v' wz hown' hg3 hat3; obtain ⟨a', c', rfl⟩ := own_form hown'; have HBZ := Aside0.mk (HBI.out.app HGM.out hown' hg3 hat3 hacc2); have hzr := (hg3.block _ HQ.out.2 (fun e => HQ.out.1 e.symm)).trans HBI.out.2.1; have t1 : wz.cell? ⟨w.heap.size, 1, none⟩ = some lv := (by rw [cell_of_row _ _ _ _ _ _ hzr]; rfl); have tf : wz.frozen? ⟨w.heap.size, 1, none⟩ = false := row_frz hzr; clear hown' hg3 hat3 hzr) | go_in)
            clear t1 tf hq1
            go_wp2_with (fail)
            have hn3 := HT4.out
            exact ⟨⟨n + 1, acc ++ G, _, by omega, by omega, rfl, rfl, by simp, HBZ, ⟨by omega, HT5.out, by rw [List.length_append, HGM.out]; omega, HT3.out h2 h3⟩⟩, by simp [intOf]; omega⟩
  case rest =>
    obtain ⟨n, acc, t, lv, rfl, hn2, HX, hrc, HBW⟩ := hcut
    have HN := Aside0.mk (rnames_calls p g s wc (HR.out.below HBW.out.1))
    obtain ⟨K, hK⟩ : ∃ K, s.L.map (·.1) = K := ⟨_, rfl⟩
    have HKK := Aside0.mk hK
    rw [hdd.out, if_neg (by decide), hK] at HN
    have hplt := HR.out.lt
    have hglt := HR.out.ltg
    have hwc := HBW.out.1.size
    clear hK
    go_wp2_with (fail)
    refine HN.out.mono ?_
    rintro e wn ⟨vn, rfl, hNL, hbn⟩
    have HBn := Aside0.mk (HBW.out.below hbn)
    have HNL := Aside0.mk hNL
    obtain ⟨ga, cn, rfl⟩ : ∃ ga cn, vn = .slice ga K.length cn := by
      rcases hNL with ⟨rfl, h0⟩ | ⟨g, cap, rfl, _⟩
      · exact ⟨none, 0, by rw [h0]; rfl⟩
      · exact ⟨_, _, rfl⟩
    have hwn := HBn.out.1.size
    have hqn := HBn.out.q.2
    have hcn := hbn.size
    obtain ⟨kn, hkn⟩ : ∃ kn, K.length = kn := ⟨_, rfl⟩
    have HKn := Aside0.mk hkn
    rw [hkn]
    clear hbn hNL hkn
    have hkb : kn ≤ 65536 := by
      have h1 := HKn.out
      rw [← HKK.out, List.length_map] at h1
      omega
    have HRN := Aside0.mk (HR.out.below HBn.out.1)
    have HVP := Aside0.mk (HRN.out.apart HBn.out.2.2.1)
    have HQP := Aside0.mk (HBn.out.2.apart HRN.out)
    go_wp2_with (fail)
    go_loopw [15] (fun v15 wr => ∃ (i : Nat) (s1 : St) (g1 : Nat), i ≤ kn ∧ v15 = .int .i64 i ∧ Aside0 (RK wr p g1 s1 ∧ (g1 = g ∨ wn.heap.size ≤ g1) ∧ Kp p g wn wr ∧ cleanF n s K = cleanF n s1 (K.drop i))) (fun v15 _ => kn - (intOf v15).toNat)
    case atStart => exact ⟨0, s, g, Nat.zero_le _, rfl, ⟨HRN.out, .inl rfl, Kp.refl _ _ _, by rw [List.drop_zero]⟩⟩
    case round =>
      obtain ⟨i, s1, g1, hi, rfl, HRR⟩ := hrel
      have hwr := HRR.out.2.2.1.size
      by_cases h1 : i < kn
      · have h1' : (i : Int) < (kn : Int) := by omega
        have h0' : (0 : Int) ≤ (i : Int) := by omega
        have hKl := HKn.out
        obtain ⟨k, hk⟩ : ∃ k, K[i]? = some k := ⟨_, List.getElem?_eq_getElem (by omega)⟩
        obtain ⟨gn, rfl, hg1, hg2, hgc⟩ : ∃ gn, ga = some ⟨gn, 0, none⟩ ∧ wc.heap.size ≤ gn ∧ gn < wn.heap.size ∧ wn.cell? ⟨gn, i, none⟩ = some (.string k) := by
          rcases HNL.out with ⟨_, h0⟩ | ⟨gn, cap, e, h2, h3, h4⟩
          · rw [h0] at hKl
            simp at hKl
            omega
          · injection e with e
            refine ⟨gn, e, h2, h3, ?_⟩
            have := h4 i (by omega)
            rw [this]
            obtain ⟨hi2, e2⟩ := List.getElem?_eq_some_iff.1 hk
            rw [e2]
        have c1 : wr.cell? ⟨gn, i, none⟩ = some (.string k) := by
          rw [HRR.out.2.2.1.cell (by omega) (by omega) (by omega)]
          exact hgc
        have HDR : Aside0 (K.drop i = k :: K.drop (i + 1)) := ⟨by
          obtain ⟨hi2, e2⟩ := List.getElem?_eq_some_iff.1 hk
          rw [← e2]
          exact List.drop_eq_getElem_cons hi2⟩
        have HNU := Aside0.mk (rnumber_calls k wr)
        obtain ⟨nk, hnk⟩ : ∃ nk, numberF k = nk := ⟨_, rfl⟩
        rw [hnk] at HNU
        have HNK := Aside0.mk hnk
        clear hnk hgc hk hKl
        by_cases h2 : n < nk
        · have h2' : ((n : Int) + 1) ≤ (nk : Int) := by omega
          have HRM := Aside0.mk (rremove_calls p g1 s1 k wr HRR.out.1)
          obtain ⟨⟨s2, ec⟩, hrm⟩ : ∃ z, removeF s1 k = z := ⟨_, rfl⟩
          rw [hrm] at HRM
          have HRQ := Aside0.mk hrm
          clear hrm
          go_wp2_with (fail)
          refine HNU.out.mono ?_
          rintro e w2 ⟨rfl, hw2⟩
          obtain rfl := hw2
          go_wp2_with (fail)
          refine HRM.out.mono ?_
          rintro e w3 ⟨rfl, g2, hR3, hg3, hK3⟩
          have HR3 := Aside0.mk hR3
          have HG3 : Aside0 (g2 = g ∨ wn.heap.size ≤ g2) := ⟨by
            have := HRR.out.2.1
            omega⟩
          have HK3 : Aside0 (Kp p g wn w3) := ⟨HRR.out.2.2.1.via hK3 HRR.out.2.1⟩
          have hc3 : w3.cell? ⟨gn, i, none⟩ = some (.string k) := by
            have := HRR.out.2.1
            rw [hK3.cell (k := gn) (by omega) (by omega) (by omega)]
            exact c1
          clear hR3 hK3 c1
          by_cases hec : ec = 0
          · have HCC : Aside0 (cleanF n s K = cleanF n s2 (K.drop (i + 1))) := ⟨by
              rw [HRR.out.2.2.2, HDR.out, clean_go (by rw [HNK.out]; exact h2) (by rw [HRQ.out]; exact hec), HRQ.out]⟩
            subst hec
            go_wp2_with (fail)
            exact ⟨⟨i + 1, s2, g2, by omega, by simp, ⟨HR3.out, HG3.out, HK3.out, HCC.out⟩⟩, by simp [intOf]; omega⟩
          · have HCC : Aside0 (openF s = (s2, none, ec, k)) := ⟨open_bad hdd.out HX.out (by
              rw [HKK.out, HRR.out.2.2.2, HDR.out, clean_bad (by rw [HNK.out]; exact h2) (by rw [HRQ.out]; exact hec), HRQ.out])⟩
            have hec' : ¬ (ec : Int) = 0 := by omega
            have HEC := Aside0.mk hec
            clear hec
            go_wp2_with (fail)
            go_quiet (fail)
            go_wp2_with (fail)
            refine bodyPost_ret (results_list (rs := [_, _, _]) Tryz.results22 (by simp) (.tmp (.tmp (.tmp .nil)))) rfl ?_
            unfold ROpenP
            rw [HCC.out]
            refine ⟨⟨g2, HR3.out.drew nq, ?_, ((Kp.of HBn.out.1).trans HK3.out).drew nq⟩, .inr ⟨rfl, rfl, Nat.pos_of_ne_zero HEC.out⟩⟩
            have := HG3.out
            omega
        · have h2' : ¬ ((n : Int) + 1) ≤ (nk : Int) := by omega
          have HCC : Aside0 (cleanF n s K = cleanF n s1 (K.drop (i + 1))) := ⟨by
            rw [HRR.out.2.2.2, HDR.out, clean_skip (by rw [HNK.out]; exact h2)]⟩
          go_wp2_with (fail)
          refine HNU.out.mono ?_
          rintro e w2 ⟨rfl, hw2⟩
          obtain rfl := hw2
          go_wp2_with (fail)
          exact ⟨⟨i + 1, s1, g1, by omega, by simp, ⟨HRR.out.1, HRR.out.2.1, HRR.out.2.2.1, HCC.out⟩⟩, by simp [intOf]; omega⟩
      · have h1' : ¬ (i : Int) < (kn : Int) := by omega
        have HCC : Aside0 (cleanF n s (s.L.map (·.1)) = (s1, none)) := ⟨by
          rw [HKK.out, HRR.out.2.2.2, List.drop_eq_nil_of_le (by rw [HKn.out]; omega)]
          rfl⟩
        have HLG : Aside0 (RG wr w.heap.size w.heap.size p lv acc false) := ⟨HBn.out.2.kp HRR.out.2.2.1 HQP.out.1 HQP.out.2 (fun k e => HVP.out k e)⟩
        have HG1 : Aside0 (g1 = g ∨ w.heap.size ≤ g1) := ⟨by
          have := HRR.out.2.1
          omega⟩
        rcases hrc with ⟨rfl, rfl, rfl⟩ | ⟨m, kk, rfl, rfl, rfl⟩
        · have HO := Aside0.mk (open_none hdd.out HX.out HCC.out)
          go_wp2_with (fail)
          refine bodyPost_ret (results_list (rs := [_, _, _]) Tryz.results22 (by simp) (.tmp (.tmp (.tmp .nil)))) rfl ?_
          unfold ROpenP
          rw [HO.out]
          exact ⟨⟨g1, HRR.out.1, HG1.out, (Kp.of HBn.out.1).trans HRR.out.2.2.1⟩, .inl ⟨acc, lv, rfl, rfl, HLG.out⟩⟩
        · have HO := Aside0.mk (open_cut hdd.out HX.out HCC.out)
          have HC1 := Aside0.mk (rtrunc_calls p g1 s1 (fileF m) (kk : Int) wr HRR.out.1)
          obtain ⟨⟨s2, ec⟩, htr⟩ : ∃ z, truncF s1 (fileF m) (kk : Int) = z := ⟨_, rfl⟩
          rw [htr] at HC1 HO
          obtain ⟨nm, hnm⟩ : ∃ nm, fileF m = nm := ⟨_, rfl⟩
          have hns : nm.size = 12 := by rw [← hnm]; exact fileF_size _
          rw [hnm] at HC1 HO
          have hne : (nm.toList == []) = false := by
            rw [ByteArray.toList_eq]
            simp only [beq_eq_false_iff_ne]
            intro h
            have e := congrArg List.length h
            rw [Array.length_toList] at e
            have : nm.size = 0 := e
            omega
          rw [hnm]
          clear hnm htr
          go_wp2_with (fail)
          refine HC1.out.mono ?_
          rintro e w3 ⟨rfl, g2, hR3, hg3, hK3⟩
          have HR3 := Aside0.mk hR3
          have HG3 : Aside0 (g2 = g ∨ w.heap.size ≤ g2) := ⟨by
            have := HRR.out.2.1
            omega⟩
          have HK3 : Aside0 (Kp p g w w3) := ⟨(Kp.of HBn.out.1).trans (HRR.out.2.2.1.via hK3 HRR.out.2.1)⟩
          have HL3 : Aside0 (RG w3 w.heap.size w.heap.size p lv acc false) := ⟨by
            have h9 := HRR.out.1.apart HLG.out.2.1
            have h8 := HLG.out.apart HRR.out.1
            exact HLG.out.kp hK3 h8.1 h8.2 (fun k e => h9 k e)⟩
          clear hR3 hK3 hg3
          by_cases hec : ec = 0
          · subst hec
            go_wp2_with (fail)
            refine bodyPost_ret (results_list (rs := [_, _, _]) Tryz.results22 (by simp) (.tmp (.tmp (.tmp .nil)))) rfl ?_
            unfold ROpenP
            rw [HO.out]
            first | rw [if_pos rfl] | rw [if_pos True.intro]
            exact ⟨⟨g2, HR3.out, HG3.out, HK3.out⟩, .inl ⟨acc, lv, rfl, rfl, HL3.out⟩⟩
          · have hec' : ¬ (ec : Int) = 0 := by omega
            have HEC := Aside0.mk hec
            clear hec
            go_wp2_with (fail)
            refine bodyPost_ret (results_list (rs := [_, _, _]) Tryz.results22 (by simp) (.tmp (.tmp (.tmp .nil)))) rfl ?_
            unfold ROpenP
            rw [HO.out, if_neg HEC.out]
            exact ⟨⟨g2, HR3.out, HG3.out, HK3.out⟩, .inr ⟨rfl, rfl, Nat.pos_of_ne_zero HEC.out⟩⟩
end Go.Proofs.YtmceikfbgmcmaaaGreatDoor.D

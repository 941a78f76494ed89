/- The document's Append. -/
import Derived.Test.YtmceikfbgmcmaaaGreatDoorRgA
namespace Go.Proofs.YtmceikfbgmcmaaaGreatDoor.D
open Go.RowKit Go.Extern.Stop Go.Stop Go.Extern Go.Proofs.YtmceikfbgmcmaaaGreatDoorW.PrintWords Go.Proofs.YtmceikfbgmcmaaaGreatDoorW.PrintLast Go.Proofs.YtmceikfbgmcmaaaGreatDoorW.PrintMore
set_option linter.unusedVariables false
set_option linter.unusedSimpArgs false
set_option maxHeartbeats 32000000 in
set_option maxRecDepth 100000 in
theorem rlappend_calls (p g B q : Nat) (s : St) (lv : Value) (recs : List BL) (br : Bool) (x : ByteArray) (w : World) (hR : RK w p g s) (hL : RG w B q p lv recs br) (hB : B ≤ w.heap.size) (hx : x.size ≤ 1000000) :
    Calls Tryz.prog 23 #[.pointer (some ⟨q, 0, none⟩), .string x] w fun e w' => e = .returned (.tuple #[.int .i64 ((appG s recs br x).2.2.2.1 : Int), .string (appG s recs br x).2.2.2.2]) ∧ ∃ g' lv', RK w' p g' (appG s recs br x).1 ∧ (g' = g ∨ w.heap.size ≤ g') ∧ RG w' B q p lv' (appG s recs br x).2.1 (appG s recs br x).2.2.1 ∧ (lv'.ownBlock = lv.ownBlock ∨ ∃ g, lv'.ownBlock = some g ∧ w.heap.size ≤ g) ∧ Ka (fun k => k = p ∨ k = g ∨ k = q ∨ lv.ownBlock = some k) w w' := by
  obtain ⟨c0, c1, c2⟩ := hL.cells
  have HR := Aside0.mk hR
  have HL := Aside0.mk hL
  cases br
  case true =>
    have HA : Aside0 (appG s recs true x = (s, recs, true, 3, ⟨#[]⟩)) := ⟨by unfold appG; rw [if_pos rfl]⟩
    rw [HA.out]
    clear hR hL HA
    go_enter Tryz.func23, Tryz.ntmps23
    go_wp2_with (fail)
    exact bodyPost_ret (results_list (rs := [_, _]) Tryz.results23 (by simp) (.tmp (.tmp .nil))) rfl ⟨rfl, g, lv, HR.out, .inl rfl, HL.out, .inl rfl, Ka.of (Below.refl _ _)⟩
  case false =>
    have HOF := Aside0.mk (rof_calls x w (by omega))
    by_cases h1 : 131072 < x.size
    · have HA : Aside0 (appG s recs false x = (s, recs, false, 4, ⟨#[]⟩)) := ⟨by unfold appG; rw [if_neg (by decide), if_pos (.inl h1)]⟩
      rw [HA.out]
      rw [if_neg (by omega)] at HOF
      clear hR hL HA
      go_enter Tryz.func23, Tryz.ntmps23
      go_wp2_with (fail)
      refine HOF.out.mono ?_
      rintro e w1 ⟨hb1, rfl⟩
      have HB1 := Aside0.mk hb1
      clear hb1
      go_wp2_with (fail)
      exact bodyPost_ret (results_list (rs := [_, _]) Tryz.results23 (by simp) (.tmp (.tmp .nil))) rfl ⟨rfl, g, lv, HR.out.below HB1.out, .inl rfl, HL.out.below HB1.out, .inl rfl, Ka.of HB1.out⟩
    · obtain ⟨r, hr⟩ : ∃ r, mkB (recF (tl x)) = r := ⟨_, rfl⟩
      have hrs : r.size ≤ 1000012 := by rw [← hr, mkB_size, recF_len, tl_size]; omega
      obtain ⟨a, c, rfl, _, _⟩ := own_slice hL.2.1
      obtain ⟨n, hn⟩ : ∃ n, recs.length = n := ⟨_, rfl⟩
      rw [if_pos (by omega), hr] at HOF
      rw [hn] at c1
      by_cases h2 : 16384 ≤ n
      · have h2' : (16384 : Int) ≤ (n : Int) := by omega
        have HA : Aside0 (appG s recs false x = (s, recs, false, 4, ⟨#[]⟩)) := ⟨by unfold appG; rw [if_neg (by decide), if_pos (.inr (by omega))]⟩
        rw [HA.out]
        clear hR hL HA
        go_enter Tryz.func23, Tryz.ntmps23
        go_wp2_with (fail)
        refine HOF.out.mono ?_
        rintro e w1 ⟨hb1, rfl⟩
        have HB1 := Aside0.mk hb1
        have d1 := pw_cell_below hb1 c1
        clear hb1
        go_wp2_with (fail)
        exact bodyPost_ret (results_list (rs := [_, _]) Tryz.results23 (by simp) (.tmp (.tmp .nil))) rfl ⟨rfl, g, _, HR.out.below HB1.out, .inl rfl, HL.out.below HB1.out, .inl rfl, Ka.of HB1.out⟩
      · have h2' : ¬ (16384 : Int) ≤ (n : Int) := by omega
        obtain ⟨i0, hi0, hz0, hz1, hz2⟩ := info_parts infoS
        obtain ⟨nm, hnm⟩ : ∃ nm, fileF (n / 64 + 1) = nm := ⟨_, rfl⟩
        obtain ⟨⟨s', ec⟩, hap⟩ : ∃ z, appendF s nm r = z := ⟨_, rfl⟩
        have HA1 : Aside0 (ec = 0 → appG s recs false x = (s', recs ++ [tl x], false, 0, ⟨#[]⟩)) := ⟨fun q => by unfold appG; rw [if_neg (by decide), if_neg (by omega), hn, hnm, hr, hap, if_pos q]⟩
        have HA2 : Aside0 (ec ≠ 0 → appG s recs false x = (s', recs, decide (ec = 5), ec, nm)) := ⟨fun q => by unfold appG; rw [if_neg (by decide), if_neg (by omega), hn, hnm, hr, hap, if_neg q]⟩
        have HFI : Aside0 (∀ W, Calls Tryz.prog 50 #[.int .i64 ((n : Int) / 64 + 1)] W fun e w' => e = .returned (.string nm) ∧ Below W.heap.size W w') := ⟨fun W => by
          have := rfile_calls (n / 64 + 1) W (by omega)
          rw [hnm] at this
          rw [show (n : Int) / 64 + 1 = ((n / 64 + 1 : Nat) : Int) by omega]
          exact this⟩
        have HAP : Aside0 (∀ W, Below w.heap.size w W → Calls Tryz.prog 27 #[.pointer (some ⟨p, 0, none⟩), .string nm, .string r] W fun e w' => e = .returned (.int .i64 (ec : Int)) ∧ ∃ g', RK w' p g' s' ∧ (g' = g ∨ W.heap.size ≤ g') ∧ Kp p g W w') := ⟨fun W hb => by
          have := rappend_calls p g s nm r W (hR.below hb) (by omega)
          rw [hap] at this
          exact this⟩
        have hqp := hL.apart hR
        have hvp := hR.apart hL.2.1
        have hvq := own_ne hL.2.1 hL.1 (by decide)
        have hlq := (Array.getElem?_eq_some_iff.1 hL.1).1
        have HVP := Aside0.mk hvp
        have HVQ := Aside0.mk hvq
        have HPL := Aside0.mk (And.intro hR.lt hR.ltg)
        clear hR hL hr hnm hap hvp hvq
        go_enter Tryz.func23, Tryz.ntmps23
        go_wp2_with (fail)
        refine HOF.out.mono ?_
        rintro e w1 ⟨hb1, rfl⟩
        have HB1 := Aside0.mk hb1
        have d0 := pw_cell_below hb1 c0
        have d1 := pw_cell_below hb1 c1
        have d2 := pw_cell_below hb1 c2
        clear hb1 c0 c1 c2
        go_wp2_with (fail)
        refine (HFI.out _).mono ?_
        rintro e w2 ⟨rfl, hb2⟩
        have HB2 := Aside0.mk (below_step (w := w) HB1.out hb2)
        have c0 := pw_cell_below hb2 d0
        clear hb2 d0 d1 d2
        go_wp2_with (fail)
        refine (HAP.out _ HB2.out).mono ?_
        rintro e wa ⟨rfl, g', hRa, hg', hKa⟩
        have HRa := Aside0.mk hRa
        have HKa := Aside0.mk (Kp.trans (Kp.of HB2.out) hKa)
        have HGa : Aside0 (g' = g ∨ w.heap.size ≤ g') := ⟨by
          have := HB2.out.size
          omega⟩
        have HLA := Aside0.mk (HL.out.kp HKa.out hqp.1 hqp.2 (fun k e => HVP.out k e))
        obtain ⟨za0, za1, za2⟩ := HLA.out.cells
        rw [hn] at za1
        have hzk := HKa.out.size
        clear hRa hKa c0 hg'
        by_cases hec : ec = 0
        · subst hec
          have hrow := HLA.out.2.1
          have HLB := Aside0.mk (HLA.out.below (w' := wa.alloc (.cells #[.string x] 9)) ((Below.refl _ _).alloc (Nat.le_refl _) _))
          have HRB := Aside0.mk (HRa.out.below (w1 := wa.alloc (.cells #[.string x] 9)) ((Below.refl _ _).alloc (Nat.le_refl _) _))
          rw [hn] at hrow HLB
          have HNQ : Aside0 ((Value.slice a n c).ownBlock ≠ some q) := ⟨by rw [← hn]; exact HVQ.out⟩
          go_wp2_with (first
            | (at_builtin; refine wpList_append_own_at _ rfl _ _ 36 rfl B 9 i0 (.string ByteArray.empty) 1 16 Tryz.underlying36 hi0 hz0 hz1 hz2 rfl (by decide) _ n (recs.map encS) rfl (hrow.alloc _) ⟨wa.heap.size, 0, none⟩ 1 1 [.string x] rfl rfl (cell_one_new _ _ _) (by simp [Value.oneCell']) (by unfold maxLen; omega) (by omega) (by simp; omega) ?_; intro v' w3 hown' hg3 hnil3 hat3; obtain ⟨a', c', rfl, _, _⟩ := own_slice hown'; have h3q := (hg3.block q (Array.getElem?_eq_some_iff.1 HLB.out.1).1 (fun e => HNQ.out e.symm)).trans HLB.out.1; have t1 : w3.cell? ⟨q, 1, none⟩ = some (.slice a n c) := (by rw [cell_of_row _ _ _ _ _ _ h3q]; rfl); have tf : w3.frozen? ⟨q, 1, none⟩ = false := row_frz h3q)
            | go_in)
          refine bodyPost_ret (results_list (rs := [_, _]) Tryz.results23 (by simp) (.tmp (.tmp .nil))) rfl ?_
          rw [HA1.out (by first | exact rfl | exact True.intro)]
          have hqa := (Array.getElem?_eq_some_iff.1 HLA.out.1).1
          have hvq' : (Value.slice a' (n + 1) c').ownBlock ≠ some q := fun e => by
            rcases hat3 with q1 | q1
            · exact HNQ.out (q1.symm.trans e)
            · rw [q1] at e
              injection e with e
              simp at e
              omega
          have hgr : ∀ k, (Value.slice a n c).ownBlock = some k → k ≠ p ∧ k ≠ g' := fun k hk => HRa.out.apart (v := .slice a n c) (n := n) (by rw [← hn]; rw [← hn] at hrow; exact hrow) k hk
          refine ⟨rfl, g', .slice a' (n + 1) c', ?_, HGa.out, ?_, ?_, ?_⟩
          · refine HRB.out.kept' ?_ ?_
            · refine (Below.heap_setCell _ ⟨q, 1, none⟩ _ p (fun e => hqp.1 e.symm)).trans (hg3.block p HRB.out.lt (fun e => (hgr p e.symm).1 rfl))
            · have hgq : g' ≠ q := by
                rcases HGa.out with e | e
                · rw [e]; exact fun e => hqp.2 e.symm
                · omega
              exact (Below.heap_setCell _ ⟨q, 1, none⟩ _ g' hgq).trans (hg3.block g' HRB.out.ltg (fun e => (hgr g' e.symm).2 rfl))
          · refine RG.app (w := wa.alloc (.cells #[.string x] 9)) (lv := .slice a n c) HLB.out ?_ hg3 HNQ.out hvq' (by omega)
            rw [hn]
            have : encS (tl x) = .string x := by unfold encS; rw [mkB_tl]
            rw [this]
            exact hown'
          · rcases hat3 with q1 | q1
            · left
              rw [q1]
              exact congrArg (fun k => (Value.slice a k c).ownBlock) hn.symm
            · right
              exact ⟨_, q1, by simp; omega⟩
          · refine Ka.set (Ka.grown (Ka.trans (Ka.kp HKa.out (.inl rfl) (.inr (.inl rfl))) (Ka.of ((Below.refl _ _).alloc (Nat.le_refl _) _))) hg3 (fun k hk => .inl (.inr (.inr (.inr ?_))))) (.inl (.inr (.inr (.inl rfl)))) _
            have hk' : (Value.slice a n c).ownBlock = some k := hk
            rw [← hn] at hk'
            exact hk'
        · have hec' : ¬ (ec : Int) = 0 := by omega
          have tf : wa.frozen? ⟨q, 2, none⟩ = false := row_frz HLA.out.1
          have hgq : g' ≠ q := by
            rcases HGa.out with e | e
            · rw [e]; exact fun e => hqp.2 e.symm
            · omega
          have hfin : ∀ b : Bool, b = decide (ec = 5) → RK (wa.setCell ⟨q, 2, none⟩ (.bool b)) p g' s' ∧ RG (wa.setCell ⟨q, 2, none⟩ (.bool b)) B q p (.slice a recs.length c) recs (decide (ec = 5)) ∧ Ka (fun k => k = p ∨ k = g ∨ k = q ∨ (Value.slice a recs.length c).ownBlock = some k) w (wa.setCell ⟨q, 2, none⟩ (.bool b)) := fun b hb => by
            subst hb
            refine ⟨HRa.out.kept' (Below.heap_setCell _ ⟨q, 2, none⟩ _ p (fun e => hqp.1 e.symm)) (Below.heap_setCell _ ⟨q, 2, none⟩ _ g' hgq), HLA.out.brk HVQ.out _, ?_⟩
            exact Ka.set (Ka.kp HKa.out (.inl rfl) (.inr (.inl rfl))) (.inl (.inr (.inr (.inl rfl)))) _
          have HFIN := Aside0.mk hfin
          clear hfin
          by_cases h5 : ec = 5
          · subst h5
            clear hec hec'
            go_wp2_with (fail)
            refine bodyPost_ret (results_list (rs := [_, _]) Tryz.results23 (by simp) (.tmp (.tmp .nil))) rfl ?_
            rw [HA2.out (by decide)]
            obtain ⟨f1, f2, f3⟩ := HFIN.out true (by decide)
            exact ⟨by first | rfl | (simp; omega), g', _, f1, HGa.out, f2, .inl rfl, f3⟩
          · have h5' : ¬ (ec : Int) = 5 := by omega
            have hb5 : ((ec : Int) == 5) = false := by rw [beq_eq_false_iff_ne]; omega
            have HEC := Aside0.mk hec
            have H5 := Aside0.mk h5
            clear hec h5
            go_wp2_with (fail)
            refine bodyPost_ret (results_list (rs := [_, _]) Tryz.results23 (by simp) (.tmp (.tmp .nil))) rfl ?_
            rw [HA2.out HEC.out]
            obtain ⟨f1, f2, f3⟩ := HFIN.out false (by rw [decide_eq_false H5.out])
            exact ⟨by first | rfl | (simp; omega), g', _, f1, HGa.out, f2, .inl rfl, f3⟩
set_option maxHeartbeats 8000000 in
theorem rfiles_calls {B q p : Nat} {lv : Value} {recs : List BL} {br : Bool} (w : World) (h : RG w B q p lv recs br) : Calls Tryz.prog 72 #[.pointer (some ⟨q, 0, none⟩)] w fun e w' => e = .returned (.int .i64 (filesN recs.length : Int)) ∧ w = w' := by
  obtain ⟨_, c1, _⟩ := h.cells
  obtain ⟨a, c, rfl, _, _⟩ := own_slice h.2.1
  have hn := h.2.2
  obtain ⟨n, hn'⟩ : ∃ n, recs.length = n := ⟨_, rfl⟩
  rw [hn'] at c1 hn ⊢
  clear h hn'
  have h1 : wrap64 ((n : Int) + 64) = (n : Int) + 64 := wrap_small _ (by omega) (by omega)
  have HV : Aside0 (((n : Int) + 64 - 1) / 64 = ((filesN n : Nat) : Int)) := ⟨by unfold filesN; omega⟩
  go_enter Tryz.func72, Tryz.ntmps72
  go_wp2_with (fail)
  go_ret
  exact ⟨by first | (rw [← HV.out]; rfl) | (simp [filesN]; omega), rfl⟩
end Go.Proofs.YtmceikfbgmcmaaaGreatDoor.D

/- The walk of the document's Sort. -/
import Derived.Test.YthnajibbkinlkaaGreatDoorSortsB
import Derived.Test.YthnajibbkinlkaaGreatDoorRefE
import Derived.Lib.QuietBelow
import Derived.BigQuiet
import Derived.Deep.QuietTactic
namespace Go.Proofs.YthnajibbkinlkaaGreatDoor.PV
open Go.RowKit Go.Proofs.YthnajibbkinlkaaGreatDoorW.PrintWords Go.Proofs.YthnajibbkinlkaaGreatDoorW.PrintLast Go.Proofs.YthnajibbkinlkaaGreatDoorW.PrintMore Go.Proofs.YthnajibbkinlkaaGreatDoor.SortsP
set_option linter.unusedVariables false
set_option linter.unusedSimpArgs false
set_option maxHeartbeats 8000000 in
set_option maxRecDepth 100000 in
theorem ris_calls (s : ByteArray) (w : World) : Calls Tryz.prog 17 #[.string s] w fun e w' => e = .returned (.bool (verOf s).isSome) ∧ Below w.heap.size w w' := by
  cases hs : verOf s with
  | none =>
    go_enter Tryz.func17, Tryz.ntmps17
    go_wp2_with (fail)
    refine (rread_calls s _ _ _ _ _ _ (read_none hs)).mono ?_
    rintro e w1 ⟨A1, k1, rfl, hk1, hC1, hb1⟩
    have HB1 := Aside0.mk (below_step (w := w) (by repeat (first | exact Below.refl _ _ | exact HB9.out | exact HB8.out | exact HB7.out | exact HB6.out | exact HB5.out | exact HB4.out | exact HB3.out | exact HB2.out | exact HB1.out | exact HB.out | (refine Below.alloc ?_ (by first | exact HB9.out.size | exact HB8.out.size | exact HB7.out.size | exact HB6.out.size | exact HB5.out.size | exact HB4.out.size | exact HB3.out.size | exact HB2.out.size | exact HB1.out.size | exact HB.out.size | (simp; done) | (simp <;> omega)) _) | apply pw_below_drewN | apply below_drew1 | (refine Below.setCell ?_ (by first | (simp; done) | (simp <;> omega) | omega) _))) hb1); obtain ⟨hc1, hf1⟩ := rbcell hb1; have hz1 := hb1.size; (try simp at hz1); clear hb1
    go_wp2
    go_ret
    exact ⟨rfl, by repeat (first | exact Below.refl _ _ | exact HB9.out | exact HB8.out | exact HB7.out | exact HB6.out | exact HB5.out | exact HB4.out | exact HB3.out | exact HB2.out | exact HB1.out | exact HB.out | (refine Below.alloc ?_ (by first | exact HB9.out.size | exact HB8.out.size | exact HB7.out.size | exact HB6.out.size | exact HB5.out.size | exact HB4.out.size | exact HB3.out.size | exact HB2.out.size | exact HB1.out.size | exact HB.out.size | (simp; done) | (simp <;> omega)) _) | apply pw_below_drewN | apply below_drew1 | (refine Below.setCell ?_ (by first | (simp; done) | (simp <;> omega) | omega) _))⟩
  | some v =>
    go_enter Tryz.func17, Tryz.ntmps17
    go_wp2_with (fail)
    refine (rread_calls s _ _ _ _ _ _ (read_some hs)).mono ?_
    rintro e w1 ⟨A1, k1, rfl, hk1, hC1, hb1⟩
    have HB1 := Aside0.mk (below_step (w := w) (by repeat (first | exact Below.refl _ _ | exact HB9.out | exact HB8.out | exact HB7.out | exact HB6.out | exact HB5.out | exact HB4.out | exact HB3.out | exact HB2.out | exact HB1.out | exact HB.out | (refine Below.alloc ?_ (by first | exact HB9.out.size | exact HB8.out.size | exact HB7.out.size | exact HB6.out.size | exact HB5.out.size | exact HB4.out.size | exact HB3.out.size | exact HB2.out.size | exact HB1.out.size | exact HB.out.size | (simp; done) | (simp <;> omega)) _) | apply pw_below_drewN | apply below_drew1 | (refine Below.setCell ?_ (by first | (simp; done) | (simp <;> omega) | omega) _))) hb1); obtain ⟨hc1, hf1⟩ := rbcell hb1; have hz1 := hb1.size; (try simp at hz1); clear hb1
    go_wp2
    go_ret
    exact ⟨rfl, by repeat (first | exact Below.refl _ _ | exact HB9.out | exact HB8.out | exact HB7.out | exact HB6.out | exact HB5.out | exact HB4.out | exact HB3.out | exact HB2.out | exact HB1.out | exact HB.out | (refine Below.alloc ?_ (by first | exact HB9.out.size | exact HB8.out.size | exact HB7.out.size | exact HB6.out.size | exact HB5.out.size | exact HB4.out.size | exact HB3.out.size | exact HB2.out.size | exact HB1.out.size | exact HB.out.size | (simp; done) | (simp <;> omega)) _) | apply pw_below_drewN | apply below_drew1 | (refine Below.setCell ?_ (by first | (simp; done) | (simp <;> omega) | omega) _))⟩
set_option maxHeartbeats 8000000 in
set_option maxRecDepth 100000 in
theorem rsort_calls (A : Option Addr) (c : Nat) (l : List ByteArray) (w : World) (hA : Kd.C Kd.string w A l.length l) (hl : l.length ≤ 200) :
    Calls Tryz.prog 6 #[.slice A l.length c] w fun e w' => Below w.heap.size w w' ∧ (((∀ x ∈ l, vB x = true) ∧ ∃ v xs, e = .returned (.tuple #[v, .int .i64 0]) ∧ SR w' w.heap.size v xs ∧ Rs ltB l xs ∧ xs.length ≤ l.length) ∨ ((∃ x ∈ l, ¬ vB x = true) ∧ e = .returned (.tuple #[.slice none 0 0, .int .i64 70]))) := by
  have HA := Aside0.mk hA
  clear hA
  have mixed : Tryz.prog.follows .mixedOrders = true := by kernel_rfl
  go_enter Tryz.func6, Tryz.ntmps6
  go_wp2
  go_loopg [4, 5] l.length (fun g v4 v5 w' => ∃ (i : Nat) (ys : List ByteArray), i ≤ l.length ∧ g = l.length - i ∧ v5 = .int .i64 i ∧ ys.length ≤ i ∧ Aside0 (Kd.R Kd.string 9 w' w.heap.size (fun _ => True) v4 ys) ∧ Aside0 (Rs ltB (l.take i) ys) ∧ Aside0 (∀ x ∈ l.take i, vB x = true) ∧ Aside0 (Below w.heap.size w w'))
  case atStart => exact ⟨0, [], Nat.zero_le _, rfl, rfl, Nat.le_refl _, ⟨Kd.R_nil _ _ _ _ _⟩, ⟨Rs.nil⟩, ⟨by simp⟩, ⟨Below.refl _ _⟩⟩
  case round =>
    obtain ⟨i, ys, hi, rfl, rfl, hys, HR, HE, HM, HB⟩ := hrel
    by_cases h1 : i < l.length
    · obtain ⟨ad, rfl, hcell0⟩ := C_at HA.out i h1
      have hcell : wr.cell? (ad.add i) = some (.string (l[i]'h1)) := pw_cell_below HB.out hcell0
      have HC0 := Aside0.mk hcell0
      have HT : Aside0 (l.take (i + 1) = l.take i ++ [l[i]'h1]) := ⟨List.take_succ_eq_append_getElem h1⟩
      have HX : Aside0 ((l[i]'h1) ∈ l) := ⟨List.getElem_mem h1⟩
      clear hcell0
      generalize (l[i]'h1) = x at *
      have q1 : (i : Int) < (l.length : Int) := by omega
      have q0 : (0 : Int) ≤ (i : Int) := by omega
      have HN := ris_calls x
      change ∀ w, Calls Tryz.prog 17 #[.string x] w fun e w' => e = .returned (.bool (vB x)) ∧ Below w.heap.size w w' at HN
      by_cases hm : vB x = true
      · rw [hm] at HN
        have HMM := Aside0.mk hm
        clear hm
        obtain ⟨B, kc, hv, hkc, hCy⟩ := Kd.R_reads HR.out
        subst hv
        clear hCy
        go_wp2_with (fail)
        refine (HN _).mono ?_
        rintro e w1 ⟨rfl, hb1⟩
        have HB1 := Aside0.mk (below_step (w := w) HB.out hb1)
        have HR1 := Aside0.mk (Kd.R_below HR.out hb1)
        clear hb1 HR HB HN hcell
        go_wp2_with (fail)
        go_loopg [6] ys.length (fun g v6 w' => g ≤ ys.length ∧ v6 = .int .i64 g ∧ Aside0 (∀ j (h : j < ys.length), g ≤ j → ltB x (ys[j]'h)) ∧ Aside0 (Below w.heap.size w w') ∧ Aside0 (Kd.R Kd.string 9 w' w.heap.size (fun _ => True) (.slice B ys.length kc) ys))
        case atStart => exact ⟨Nat.le_refl _, rfl, ⟨fun j h hk => by omega⟩, HB1, HR1⟩
        case round =>
          obtain ⟨hk, rfl, HG2, HB5, HR5⟩ := hrel
          by_cases hk0 : gk = 0
          · subst hk0
            have c0 : ¬ (0 : Int) < ((0 : Nat) : Int) := by omega
            have HINS : Aside0 (Rs ltB (l.take i ++ [x]) (ys.take 0 ++ x :: ys.drop 0)) := ⟨HE.out.ins ltB_trans (Nat.zero_le _) (fun j h hj => HG2.out j h hj) (fun h => by omega)⟩
            go_wp2
            go_quiet (fail)
            go_wp2_with (at_builtin; refine Kd.R_append Kd.string (w0 := w) w.heap.size rfl (.tmp 57) (.tmp 58) 22 9 (.string ⟨#[]⟩) 16 rfl rfl (by kernel_rfl) rfl (by decide) (by decide) (.slice B ys.length kc) ys ⟨#[]⟩ [.string ⟨#[]⟩] (fun _ => True) (fun _ => False) rfl rfl rfl (fun k hk => hk.elim) (fun _ _ => trivial) (Kd.R_below HR5.out (by repeat (first | exact Below.refl _ _ | apply pw_below_drewN))) (by repeat (first | exact HB5.out | exact Below.refl _ _ | apply pw_below_drewN)) (by have := HB5.out.size; simp; omega) (by omega) ?_; intro v1 w6 hR1 hb1 _ _; obtain ⟨g0, cap1, rfl, hcap1, hfz⟩ := own_shape hR1 (by simp); have HR6 := Aside0.mk hR1; have HB6 := Aside0.mk hb1; clear hR1 hb1)
            go_loopg [9] ys.length (fun g v9 w' => 0 ≤ g ∧ g ≤ ys.length ∧ v9 = .int .i64 g ∧ (∃ p, Aside0 (Kd.R Kd.string 9 w' w.heap.size (fun _ => True) (.slice (some ⟨g0, 0, none⟩) (ys.length + 1) cap1) (ys.take g ++ p :: ys.drop g))) ∧ Aside0 (Below w.heap.size w w'))
            case atStart => exact ⟨by omega, Nat.le_refl _, by first | rfl | (simp; done), ⟨⟨#[]⟩, ⟨by rw [List.take_length, List.drop_length]; simpa using HR6.out⟩⟩, HB6⟩
            case round =>
              obtain ⟨hgK, hgl, rfl, ⟨p, HRj⟩, HBj⟩ := hrel
              obtain ⟨hcs, hfs⟩ := own_cells HRj.out (by rw [mid_len _ _ _ hgl]; omega)
              by_cases hgk : 0 < gk
              · obtain ⟨r, rfl⟩ : ∃ r, gk = r + 1 := ⟨gk - 1, by omega⟩
                have hr : r < ys.length := by omega
                have hlenr := mid_len ys (r + 1) p (by omega)
                have k1 : wr.cell? ⟨g0, r, none⟩ = some (.string (ys[r]'hr)) := by
                  have := hcs r (by omega)
                  rw [List.getElem_append_left (by rw [List.length_take]; omega), List.getElem_take] at this
                  exact this
                obtain ⟨cv, k2⟩ : ∃ cv, wr.cell? ⟨g0, r + 1, none⟩ = some (.string cv) := ⟨_, hcs (r + 1) (by omega)⟩
                have k3 := hfs (r + 1)
                have d1 : (r : Int) + 1 - 1 = (r : Int) := by omega
                have d2 : (0 : Int) ≤ (r : Int) := by omega
                have d3 : (r : Int) < (ys.length : Int) + 1 := by omega
                have d4 : (r : Int) + 1 < (ys.length : Int) + 1 := by omega
                have d5 : (0 : Int) ≤ (r : Int) + 1 := by omega
                have d6 : 0 < (r : Int) + 1 := by omega
                have hRp := Kd.R_putn HRj.out ((r + 1 : Nat) : Int) (ys[r]'hr)
                have hRp2 : Kd.R Kd.string 9 (wr.setCell ⟨g0, r + 1, none⟩ (.string (ys[r]'hr))) w.heap.size (fun _ => True) (.slice (some ⟨g0, 0, none⟩) (ys.length + 1) cap1) (ys.take r ++ (ys[r]'hr) :: ys.drop r) := by
                  rw [← mid_step ys r hr, ← set_mid (ys.take (r + 1)) (ys.drop (r + 1)) p (ys[r]'hr) (r + 1) (by rw [List.length_take]; omega)]
                  exact hRp
                have HRP := Aside0.mk hRp2
                have hg0 : w.heap.size ≤ g0 := own_ge HRj.out
                clear hRp hRp2 hcs hfs hlenr
                go_wp2
                go_roundg r
                case measure => omega
                case rel => exact ⟨by omega, by omega, by simp, ⟨_, HRP⟩, ⟨HBj.out.setCell hg0 _⟩⟩
              · have hgk2 : gk = 0 := by omega
                subst hgk2
                obtain ⟨cv, k2⟩ : ∃ cv, wr.cell? ⟨g0, 0, none⟩ = some (.string cv) := ⟨_, hcs (0) (by rw [mid_len _ _ _ hgl]; omega)⟩
                have k3 := hfs (0)
                have d4 : (0 : Int) < (ys.length : Int) + 1 := by omega
                have d5 : (0 : Int) ≤ (0 : Int) := by omega
                have hcl : wr.cell? (ad.add i) = some (.string x) := pw_cell_below HBj.out HC0.out
                have hg0 : w.heap.size ≤ g0 := own_ge HRj.out
                have hRp := Kd.R_putn HRj.out ((0 : Nat) : Int) x
                have hRp2 : Kd.R Kd.string 9 (wr.setCell ⟨g0, 0, none⟩ (.string x)) w.heap.size (fun _ => True) (.slice (some ⟨g0, 0, none⟩) (ys.length + 1) cap1) (ys.take (0) ++ x :: ys.drop (0)) := by
                  rw [← set_mid (ys.take (0)) (ys.drop (0)) p x (0) (by rw [List.length_take]; omega)]
                  exact hRp
                have HRP := Aside0.mk hRp2
                clear hRp hRp2 hcs hfs
                go_wp2
                go_roundg (l.length - (i + 1))
                case measure => omega
                case rel => exact ⟨i + 1, ys.take (0) ++ x :: ys.drop (0), by omega, rfl, by simp, by rw [mid_len _ _ _ hgl]; omega, HRP, ⟨by rw [HT.out]; exact HINS.out⟩, ⟨by rw [HT.out]; intro y hy; rcases List.mem_append.1 hy with h | h; exact HM.out y h; rw [List.mem_singleton.1 h]; exact HMM.out⟩, ⟨HBj.out.setCell hg0 _⟩⟩
          · obtain ⟨m, rfl⟩ : ∃ m, gk = m + 1 := ⟨gk - 1, by omega⟩
            have hm : m < ys.length := by omega
            obtain ⟨B', kc', hv, hkc', hCy⟩ := Kd.R_reads HR5.out
            injection hv with hv1 hv2 hv3
            subst hv1 hv3
            obtain ⟨bd, rfl, hcy⟩ := C_at hCy m hm
            have hcl : wr.cell? (ad.add i) = some (.string x) := pw_cell_below HB5.out HC0.out
            have c0 : (0 : Int) < ((m + 1 : Nat) : Int) := by omega
            have c1 : (0 : Int) < (m : Int) + 1 := by omega
            have c2 : (m : Int) + 1 - 1 = (m : Int) := by omega
            have c3 : (0 : Int) ≤ (m : Int) := by omega
            have c4 : (m : Int) < (ys.length : Int) := by omega
            have HMY : Aside0 ((ys[m]'hm) ∈ ys) := ⟨List.getElem_mem hm⟩
            have HVY : Aside0 (vB (ys[m]'hm) = true) := ⟨HM.out _ ((HE.out.2 _).1 HMY.out)⟩
            obtain ⟨u, hu⟩ := Option.isSome_iff_exists.1 HVY.out
            obtain ⟨v, hv⟩ := Option.isSome_iff_exists.1 HMM.out
            have HO := Aside0.mk (order_both hu hv)
            have HU := Aside0.mk hu
            have HV := Aside0.mk hv
            clear hCy hu hv
            have hq1 := fun d os => cell_regrown hcl d os
            have hq2 := fun d os => cell_regrown hcy d os
            generalize hy : (ys[m]'hm) = y at *
            have HY := Aside0.mk hy
            clear hy
            generalize hr : cmpVer u v = r at *
            have HRR := Aside0.mk hr
            clear hr
            have cO : ∀ d os, Calls Tryz.prog 18 #[.string y, .string x] (Go.Sort.grow (redrawn wr d) os) fun e w'' => e = .returned (.tuple #[.int .i64 r, .int .i64 0]) ∧ ∃ p : Regrown, w'' = Go.Sort.grow (redrawn wr p.d) p.os := fun d os => Calls.regrown_of (rOrder_calls y x r 0 _ HO.out)
            by_cases hpos : 0 < r
            · have e1 : ¬ r ≤ 0 := by omega
              have HL : Aside0 (ltB x y) := ⟨⟨v, u, HV.out, HU.out, by have := to_cmpVer.anti v u; have := HRR.out; omega⟩⟩
              go_wp2
              refine wp_region_quiet_below mixed (by kernel_rfl) ?_
              repeat (go_big_quiet_step (first | exact cO _ _))
              refine wpQuiet_nil ?_
              intro _ hw'
              obtain ⟨⟨dq, osq⟩, hw''⟩ := hw'
              subst hw''
              have hbq := below_regrown wr dq osq
              generalize Go.Sort.grow (redrawn wr dq) osq = w5 at *
              go_wp2
              go_roundg m
              case measure => omega
              case rel => exact ⟨by omega, by simp, ⟨fun j h hj => by
                by_cases e : j = m
                · subst e; rw [HY.out]; exact HL.out
                · exact HG2.out j h (by omega)⟩, ⟨below_step HB5.out hbq⟩, ⟨Kd.R_below HR5.out hbq⟩⟩
            · have e1 : r ≤ 0 := by omega
              go_wp2
              refine wp_region_quiet_below mixed (by kernel_rfl) ?_
              repeat (go_big_quiet_step (first | exact cO _ _))
              refine wpQuiet_nil ?_
              intro _ hw'
              obtain ⟨⟨dq, osq⟩, hw''⟩ := hw'
              subst hw''
              have hbq := below_regrown wr dq osq
              have hcl5 := pw_cell_below hbq hcl
              have hcy5 := pw_cell_below hbq hcy
              have HB5 := Aside0.mk (below_step HB5.out hbq)
              have HR5 := Aside0.mk (Kd.R_below HR5.out hbq)
              generalize Go.Sort.grow (redrawn wr dq) osq = w5 at *
              clear cO hq1 hq2 hcl hcy hbq
              by_cases hex : y = x
              · subst hex
                have hee : (y.toList == y.toList) = true := by simp
                go_wp2
                go_quiet (fail)
                go_wp2
                go_roundg (l.length - (i + 1))
                case measure => omega
                case rel =>
                  exact ⟨i + 1, ys, by omega, rfl, by simp, by omega, ⟨Kd.R_below HR5.out (by repeat (first | exact Below.refl _ _ | apply pw_below_drewN))⟩, ⟨by rw [HT.out]; exact HE.out.stay (by rw [← HY.out]; exact List.getElem_mem hm)⟩, ⟨by rw [HT.out]; intro z hz; rcases List.mem_append.1 hz with h | h; exact HM.out z h; rw [List.mem_singleton.1 h]; exact HMM.out⟩, ⟨by repeat (first | exact HB5.out | apply pw_below_drewN)⟩⟩
              · have hee : (y.toList == x.toList) = false := by
                  rw [ByteArray.toList_eq, ByteArray.toList_eq]
                  simp only [beq_eq_false_iff_ne]
                  intro h
                  exact hex (ByteArray.ext (Array.toList_inj.1 h))
                have HEX := Aside0.mk hex
                clear hex
                have HINS : Aside0 (Rs ltB (l.take i ++ [x]) (ys.take (m + 1) ++ x :: ys.drop (m + 1))) := ⟨HE.out.ins ltB_trans (by omega) (fun j h hj => HG2.out j h hj) (fun _ h3 => by
                  show ltB (ys[m]'h3) x
                  rw [HY.out]
                  refine ⟨u, v, HU.out, HV.out, ?_⟩
                  have hr := HRR.out
                  have hz : ¬ cmpVer u v = 0 := fun h0 => HEX.out (ver_inj HU.out (by rw [(to_cmpVer.zero u v).1 h0]; exact HV.out))
                  omega)⟩
                go_wp2
                go_quiet (fail)
                go_wp2_with (at_builtin; refine Kd.R_append Kd.string (w0 := w) w.heap.size rfl (.tmp 57) (.tmp 58) 22 9 (.string ⟨#[]⟩) 16 rfl rfl (by kernel_rfl) rfl (by decide) (by decide) (.slice (some bd) ys.length kc) ys ⟨#[]⟩ [.string ⟨#[]⟩] (fun _ => True) (fun _ => False) rfl rfl rfl (fun k hk => hk.elim) (fun _ _ => trivial) (Kd.R_below HR5.out (by repeat (first | exact Below.refl _ _ | apply pw_below_drewN))) (by repeat (first | exact HB5.out | exact Below.refl _ _ | apply pw_below_drewN)) (by have := HB5.out.size; simp; omega) (by omega) ?_; intro v1 w6 hR1 hb1 _ _; obtain ⟨g0, cap1, rfl, hcap1, hfz⟩ := own_shape hR1 (by simp); have HR6 := Aside0.mk hR1; have HB6 := Aside0.mk hb1; clear hR1 hb1)
                go_loopg [9] ys.length (fun g v9 w' => m + 1 ≤ g ∧ g ≤ ys.length ∧ v9 = .int .i64 g ∧ (∃ p, Aside0 (Kd.R Kd.string 9 w' w.heap.size (fun _ => True) (.slice (some ⟨g0, 0, none⟩) (ys.length + 1) cap1) (ys.take g ++ p :: ys.drop g))) ∧ Aside0 (Below w.heap.size w w'))
                case atStart => exact ⟨by omega, Nat.le_refl _, by first | rfl | (simp; done), ⟨⟨#[]⟩, ⟨by rw [List.take_length, List.drop_length]; simpa using HR6.out⟩⟩, HB6⟩
                case round =>
                  obtain ⟨hgK, hgl, rfl, ⟨p, HRj⟩, HBj⟩ := hrel
                  obtain ⟨hcs, hfs⟩ := own_cells HRj.out (by rw [mid_len _ _ _ hgl]; omega)
                  by_cases hgk : m + 1 < gk
                  · obtain ⟨r, rfl⟩ : ∃ r, gk = r + 1 := ⟨gk - 1, by omega⟩
                    have hr : r < ys.length := by omega
                    have hlenr := mid_len ys (r + 1) p (by omega)
                    have k1 : wr.cell? ⟨g0, r, none⟩ = some (.string (ys[r]'hr)) := by
                      have := hcs r (by omega)
                      rw [List.getElem_append_left (by rw [List.length_take]; omega), List.getElem_take] at this
                      exact this
                    obtain ⟨cv, k2⟩ : ∃ cv, wr.cell? ⟨g0, r + 1, none⟩ = some (.string cv) := ⟨_, hcs (r + 1) (by omega)⟩
                    have k3 := hfs (r + 1)
                    have d1 : (r : Int) + 1 - 1 = (r : Int) := by omega
                    have d2 : (0 : Int) ≤ (r : Int) := by omega
                    have d3 : (r : Int) < (ys.length : Int) + 1 := by omega
                    have d4 : (r : Int) + 1 < (ys.length : Int) + 1 := by omega
                    have d5 : (0 : Int) ≤ (r : Int) + 1 := by omega
                    have d6 : (m : Int) + 1 < (r : Int) + 1 := by omega
                    have d7 : (m : Int) < (r : Int) := by omega
                    have hRp := Kd.R_putn HRj.out ((r + 1 : Nat) : Int) (ys[r]'hr)
                    have hRp2 : Kd.R Kd.string 9 (wr.setCell ⟨g0, r + 1, none⟩ (.string (ys[r]'hr))) w.heap.size (fun _ => True) (.slice (some ⟨g0, 0, none⟩) (ys.length + 1) cap1) (ys.take r ++ (ys[r]'hr) :: ys.drop r) := by
                      rw [← mid_step ys r hr, ← set_mid (ys.take (r + 1)) (ys.drop (r + 1)) p (ys[r]'hr) (r + 1) (by rw [List.length_take]; omega)]
                      exact hRp
                    have HRP := Aside0.mk hRp2
                    have hg0 : w.heap.size ≤ g0 := own_ge HRj.out
                    clear hRp hRp2 hcs hfs hlenr
                    go_wp2
                    go_roundg r
                    case measure => omega
                    case rel => exact ⟨by omega, by omega, by simp, ⟨_, HRP⟩, ⟨HBj.out.setCell hg0 _⟩⟩
                  · have hgk2 : gk = m + 1 := by omega
                    subst hgk2
                    obtain ⟨cv, k2⟩ : ∃ cv, wr.cell? ⟨g0, m + 1, none⟩ = some (.string cv) := ⟨_, hcs (m + 1) (by rw [mid_len _ _ _ hgl]; omega)⟩
                    have k3 := hfs (m + 1)
                    have d4 : (m : Int) + 1 < (ys.length : Int) + 1 := by omega
                    have d5 : (0 : Int) ≤ (m : Int) + 1 := by omega
                    have hcl : wr.cell? (ad.add i) = some (.string x) := pw_cell_below HBj.out HC0.out
                    have hg0 : w.heap.size ≤ g0 := own_ge HRj.out
                    have hRp := Kd.R_putn HRj.out ((m + 1 : Nat) : Int) x
                    have hRp2 : Kd.R Kd.string 9 (wr.setCell ⟨g0, m + 1, none⟩ (.string x)) w.heap.size (fun _ => True) (.slice (some ⟨g0, 0, none⟩) (ys.length + 1) cap1) (ys.take (m + 1) ++ x :: ys.drop (m + 1)) := by
                      rw [← set_mid (ys.take (m + 1)) (ys.drop (m + 1)) p x (m + 1) (by rw [List.length_take]; omega)]
                      exact hRp
                    have HRP := Aside0.mk hRp2
                    clear hRp hRp2 hcs hfs
                    go_wp2
                    go_roundg (l.length - (i + 1))
                    case measure => omega
                    case rel => exact ⟨i + 1, ys.take (m + 1) ++ x :: ys.drop (m + 1), by omega, rfl, by simp, by rw [mid_len _ _ _ hgl]; omega, HRP, ⟨by rw [HT.out]; exact HINS.out⟩, ⟨by rw [HT.out]; intro y hy; rcases List.mem_append.1 hy with h | h; exact HM.out y h; rw [List.mem_singleton.1 h]; exact HMM.out⟩, ⟨HBj.out.setCell hg0 _⟩⟩
      · have hm' : vB x = false := by simpa using hm
        rw [hm'] at HN
        have HMM := Aside0.mk hm
        clear hm hm'
        obtain ⟨B, kc, hv, hkc, hCy⟩ := Kd.R_reads HR.out
        subst hv
        clear hCy
        go_wp2_with (fail)
        refine (HN _).mono ?_
        rintro e w1 ⟨rfl, hb1⟩
        have HB1 := Aside0.mk (below_step (w := w) HB.out hb1)
        clear hb1
        go_wp2_with (fail)
        go_ret2
        exact ⟨HB1.out, .inr ⟨⟨x, HX.out, HMM.out⟩, rfl⟩⟩
    · have h2 : i = l.length := by omega
      have HALL : Aside0 (∀ x ∈ l, vB x = true) := ⟨by
        have := HM.out
        rw [h2, List.take_length] at this
        exact this⟩
      have HEE : Aside0 (Rs ltB l ys) := ⟨by
        have := HE.out
        rw [h2, List.take_length] at this
        exact this⟩
      obtain ⟨B, kc, hv, hkc, hCy⟩ := Kd.R_reads HR.out
      subst hv
      clear hCy
      have q1 : ¬ (i : Int) < (l.length : Int) := by omega
      go_wp2_with (fail)
      go_ret2
      exact ⟨HB.out, .inl ⟨HALL.out, .slice B ys.length kc, rfl, ys, SR_of_R HR.out, HEE.out, by omega⟩⟩
end Go.Proofs.YthnajibbkinlkaaGreatDoor.PV

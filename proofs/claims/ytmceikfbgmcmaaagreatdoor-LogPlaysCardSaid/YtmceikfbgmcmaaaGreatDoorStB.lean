/- The law's stands. -/
import Derived.Test.YtmceikfbgmcmaaaGreatDoorStA
import Derived.StillTailTactics
namespace Go.Proofs.YtmceikfbgmcmaaaGreatDoor.D
open Go.RowKit Go.Extern.Stop Go.Stop Go.Extern Go.Proofs.YtmceikfbgmcmaaaGreatDoorW.PrintWords Go.Proofs.YtmceikfbgmcmaaaGreatDoorW.PrintLast Go.Proofs.YtmceikfbgmcmaaaGreatDoorW.PrintMore
set_option linter.unusedVariables false
set_option linter.unusedSimpArgs false
attribute [local go_sem] Oper.semAt_some
set_option maxHeartbeats 64000000 in
set_option maxRecDepth 100000 in
theorem stands_calls {B B2 q q2 p p2 : Nat} {lv lv2 : Value} {recs : List BL} {br : Bool} (w : World) (hL : LG w B q p lv recs br) (hR : RG w B2 q2 p2 lv2 recs br) (hG : GW w) (hn16 : recs.length ≤ 1000000) : Calls Tryz.prog 30 #[.pointer (some ⟨q, 0, none⟩), .pointer (some ⟨q2, 0, none⟩)] w fun e w' => e = .returned (.bool true) ∧ Below w.heap.size w w' := by
  have HG := Aside0.mk hG
  have e0 := eqR
  have e2 := eqP
  have e1 : ∀ (f : Nat) (c : Array Value) (w : World), (binOp .eql 31 (.func (.func f) #[] c) .nilFunc).run Tryz.prog w = .ok (.bool false) w := fun f c w => by kernel_rfl
  have hb1 : Below w.heap.size w ((w.alloc (.cells #[.pointer (some ⟨q2, 0, none⟩)] 48)).alloc (.cells #[.bool false] 4)) := ((Below.refl _ w).alloc (Nat.le_refl _) _).alloc (by simp) _
  have cB : ((w.alloc (.cells #[.pointer (some ⟨q2, 0, none⟩)] 48)).alloc (.cells #[.bool false] 4)).heap[w.heap.size]? = some (.cells #[.pointer (some ⟨q2, 0, none⟩)] 48 (0, 0)) := by
    unfold World.alloc
    rw [Array.getElem?_push_lt (by simp)]
    simp
  have cT : ((w.alloc (.cells #[.pointer (some ⟨q2, 0, none⟩)] 48)).alloc (.cells #[.bool false] 4)).heap[w.heap.size + 1]? = some (.cells #[.bool false] 4 (0, 0)) := by
    unfold World.alloc
    have : w.heap.size + 1 = (w.heap.push (.cells #[.pointer (some ⟨q2, 0, none⟩)] 48)).size := by simp
    rw [this]
    exact Array.getElem?_push_size
  have HL := Aside0.mk hL
  have HR := Aside0.mk hR
  have hqw : q2 < w.heap.size := (Array.getElem?_eq_some_iff.1 hR.1).1
  clear hL hR hG
  refine (callsIn_wide (n := 9)).1 ?_
  refine callsIn_of_wp_marks Tryz.func30 rfl trivial ?_ rfl
  refine wpIn_wide.2 ?_
  simp only [Tryz.ntmps30, List.size_toArray, List.length_cons, List.length_nil, Nat.reduceAdd, Nat.reduceSub, Array.replicate_succ, Array.replicate_zero, List.push_toArray, List.append_toArray, List.nil_append, List.cons_append]
  go_upto_region 1 with (fail)
  obtain ⟨w1, hw1⟩ : ∃ w1, ((w.alloc (.cells #[.pointer (some ⟨q2, 0, none⟩)] 48)).alloc (.cells #[.bool false] 4)) = w1 := ⟨_, rfl⟩
  rw [hw1] at hb1 cB cT ⊢
  have HB1 := Aside0.mk hb1
  have HBB := Aside0.mk cB
  have HTT := Aside0.mk cT
  have hz1 : w.heap.size + 1 < w1.heap.size := (Array.getElem?_eq_some_iff.1 cT).1
  have HL1 := Aside0.mk (HL.out.below hb1)
  have HR1 := Aside0.mk (HR.out.below hb1)
  clear hw1 hb1 cB cT
  obtain ⟨n, hn⟩ : ∃ n, recs.length = n := ⟨_, rfl⟩
  have HN := Aside0.mk hn
  have k0 : w1.cell? ⟨w.heap.size, 0, none⟩ = some (.pointer (some ⟨q2, 0, none⟩)) := by rw [cell_of_row _ _ _ _ _ _ HBB.out]; rfl
  obtain ⟨a2, c2, rfl, _, _⟩ := own_slice HR1.out.2.1
  obtain ⟨r0, r1, r2⟩ := HR1.out.cells
  have hlen : ∀ k, Calls Tryz.prog 12 #[.pointer (some ⟨q, 0, none⟩)] (w1.drewN k) fun e w' => e = .returned (.int .i64 (n : Int)) ∧ w' = w1.drewN k := fun k => (len_calls _ (HL1.out.below (pw_below_drewN (Below.refl _ _) k))).mono (by rintro e w' ⟨rfl, rfl⟩; exact ⟨by rw [← hn], rfl⟩)
  have hfl : ∀ k, Calls Tryz.prog 14 #[.pointer (some ⟨q, 0, none⟩)] (w1.drewN k) fun e w' => e = .returned (.int .i64 (filesN n : Int)) ∧ w' = w1.drewN k := fun k => (files_calls _ (HL1.out.below (pw_below_drewN (Below.refl _ _) k))).mono (by rintro e w' ⟨rfl, rfl⟩; exact ⟨by rw [← hn], rfl⟩)
  have hrf : ∀ k, Calls Tryz.prog 72 #[.pointer (some ⟨q2, 0, none⟩)] (w1.drewN k) fun e w' => e = .returned (.int .i64 (filesN n : Int)) ∧ w' = w1.drewN k := fun k => (rfiles_calls _ (HR1.out.below (pw_below_drewN (Below.refl _ _) k))).mono (by rintro e w' ⟨rfl, rfl⟩; exact ⟨by rw [← hn], rfl⟩)
  have hbr : ∀ k, Calls Tryz.prog 15 #[.pointer (some ⟨q, 0, none⟩)] (w1.drewN k) fun e w' => e = .returned (.bool br) ∧ w' = w1.drewN k := fun k => (broken_calls _ (HL1.out.below (pw_below_drewN (Below.refl _ _) k))).mono (by rintro e w' ⟨rfl, rfl⟩; exact ⟨rfl, rfl⟩)
  rw [hn] at r1
  clear hn
  go_wp2_with (fail)
  go_quiet (first | (go_at_call 12; refine Calls.quiet_of_same (hlen _)) | (go_at_call 14; refine Calls.quiet_of_same (hfl _)) | (go_at_call 72; refine Calls.quiet_of_same (hrf _)) | (go_at_call 15; refine Calls.quiet_of_same (hbr _)))
  clear hlen hfl hrf hbr
  have hb2 : Below w1.heap.size w1 (w1.drewN nq) := pw_below_drewN (Below.refl _ _) nq
  have HBB2 : Aside0 ((w1.drewN nq).heap[w.heap.size]? = some (.cells #[.pointer (some ⟨q2, 0, none⟩)] 48 (0, 0))) := HBB
  have HTT2 : Aside0 ((w1.drewN nq).heap[w.heap.size + 1]? = some (.cells #[.bool false] 4 (0, 0))) := HTT
  have HL2 := Aside0.mk (HL1.out.below hb2)
  have HR2 := Aside0.mk (HR1.out.below hb2)
  have HB2 := Aside0.mk (below_step (w := w) HB1.out hb2)
  obtain ⟨w2, hw2⟩ : ∃ w2, w1.drewN nq = w2 := ⟨_, rfl⟩
  rw [hw2] at HBB2 HTT2 HL2 HR2 HB2 ⊢
  clear hw2 hb2 k0 r0 r1 r2 HL1 HR1 HBB HTT
  go_wp2_with (fail)
  refine (all_calls _ _).mono ?_
  rintro e w3 ⟨rfl, rfl⟩
  go_wp2_with (fail)
  refine (all_calls _ _).mono ?_
  rintro e w3 ⟨rfl, rfl⟩
  go_wp2_with (fail)
  have hb4 : Below w2.heap.size w2 (((w2.alloc (.cells #[.pointer (some ⟨q, 0, none⟩)] 23)).alloc (.cells #[.int .i64 0] 3)).alloc (.cells #[.pointer (some ⟨q, 0, none⟩)] 23)) := (((Below.refl _ w2).alloc (Nat.le_refl _) _).alloc (by simp) _).alloc (by simp <;> omega) _
  have cN : (((w2.alloc (.cells #[.pointer (some ⟨q, 0, none⟩)] 23)).alloc (.cells #[.int .i64 0] 3)).alloc (.cells #[.pointer (some ⟨q, 0, none⟩)] 23)).heap[w2.heap.size + 1]? = some (.cells #[.int .i64 0] 3 (0, 0)) := by
    unfold World.alloc
    exact push_mid _ _ _ _
  have cL : (((w2.alloc (.cells #[.pointer (some ⟨q, 0, none⟩)] 23)).alloc (.cells #[.int .i64 0] 3)).alloc (.cells #[.pointer (some ⟨q, 0, none⟩)] 23)).cell? ⟨w2.heap.size + 1 + 1, 0, none⟩ = some (.pointer (some ⟨q, 0, none⟩)) := by go_simp
  obtain ⟨w4, hw4⟩ : ∃ w4, (((w2.alloc (.cells #[.pointer (some ⟨q, 0, none⟩)] 23)).alloc (.cells #[.int .i64 0] 3)).alloc (.cells #[.pointer (some ⟨q, 0, none⟩)] 23)) = w4 := ⟨_, rfl⟩
  rw [hw4] at hb4 cN cL ⊢
  clear hw4
  have HB4 := Aside0.mk (below_step (w := w) HB2.out hb4)
  have HL4 := Aside0.mk (HL2.out.below hb4)
  have HR4 := Aside0.mk (HR2.out.below hb4)
  have HBB4 := Aside0.mk ((hb4.block _ (Array.getElem?_eq_some_iff.1 HBB2.out).1).trans HBB2.out)
  have HTT4 := Aside0.mk ((hb4.block _ (Array.getElem?_eq_some_iff.1 HTT2.out).1).trans HTT2.out)
  have hz4 : w2.heap.size + 1 < w4.heap.size := (Array.getElem?_eq_some_iff.1 cN).1
  have hzw2 := HB2.out.size
  obtain ⟨nB, hnB⟩ : ∃ nB, w2.heap.size + 1 = nB := ⟨_, rfl⟩
  rw [hnB] at cN cL hz4 ⊢
  have HNL : Aside0 (∀ g, lv.ownBlock = some g → g ≠ nB) := ⟨fun g e => by have := own_lt HL2.out.2.1 e; omega⟩
  have HNR : Aside0 (∀ g, (Value.slice a2 recs.length c2).ownBlock = some g → g ≠ nB) := ⟨fun g e => by have := own_lt HR2.out.2.1 e; omega⟩
  have hqn : q ≠ nB := by have := (Array.getElem?_eq_some_iff.1 HL2.out.1).1; omega
  have hq2n : q2 ≠ nB := by have := (Array.getElem?_eq_some_iff.1 HR2.out.1).1; omega
  have hwn : w.heap.size + 1 < nB := by have := (Array.getElem?_eq_some_iff.1 HTT2.out).1; omega
  have hn5 := HN.out
  have HLIM : Aside0 (n ≤ 1000000) := ⟨by omega⟩
  clear hn5 hb4 HBB2 HTT2 HL2 HR2 hn16
  refine (wpIn_wide (n := 9)).1 ?_
  refine wpIn_rangeFunc_ownF (F := Fence.wide) rfl (by decide) (gf := 44) (lb := #[.pointer (some ⟨nB + 1, 0, none⟩)]) rfl trivial (enters_of Tryz.func44 (by kernel_rfl) rfl)
    (all_stops 8 (nB + 1) nB B q p lv recs br w4 (by decide) cL HL4.out hz4) ck_t (fun W l o o' h1 h2 h3 h4 => ck_b nB W l o o' h1 h2 h3 h4) (Below.refl _ _) (fun _ => rfl)
    (SI w w4 nB) (fun _ pre _ => pre ≠ iu recs pre.length) (si_own HB4.out.size) (fun _ _ _ _ _ hs _ _ => hs) ⟨cN, CK.refl _ _, HB4.out⟩ _ (fun l x W K hK => by gi_wp2; exact hK) ?body ?done ?stop
  case body =>
    rintro l pre ⟨xi, xy⟩ W ⟨hcN, hck, hbW⟩ hlen
    have HSI : Aside0 (SI w w4 nB pre W) := ⟨⟨hcN, hck, hbW⟩⟩
    have HRW := Aside0.mk (HR4.out.ck hck hq2n (fun e => HNR.out nB e rfl))
    have HBW : Aside0 (W.heap[w.heap.size]? = some (.cells #[.pointer (some ⟨q2, 0, none⟩)] 48 (0, 0))) := ⟨hck _ _ HBB4.out rfl (by omega)⟩
    have HTW : Aside0 (W.heap[w.heap.size + 1]? = some (.cells #[.bool false] 4 (0, 0))) := ⟨hck _ _ HTT4.out rfl (by omega)⟩
    obtain ⟨m, hm⟩ : ∃ m, pre.length = m := ⟨_, rfl⟩
    have HM := Aside0.mk hm
    rw [hm] at hcN
    have hmn : m < n := by rw [← hm, ← HN.out]; exact hlen
    have k0 : W.cell? ⟨nB, 0, none⟩ = some (.int .i64 (m : Int)) := by rw [cell_of_row _ _ _ _ _ _ hcN]; rfl
    have f0 : W.frozen? ⟨nB, 0, none⟩ = false := row_frz hcN
    have k1 : W.cell? ⟨w.heap.size, 0, none⟩ = some (.pointer (some ⟨q2, 0, none⟩)) := by rw [cell_of_row _ _ _ _ _ _ HBW.out]; rfl
    have k2 : W.cell? ⟨w.heap.size + 1, 0, none⟩ = some (.bool false) := by rw [cell_of_row _ _ _ _ _ _ HTW.out]; rfl
    have f2 : W.frozen? ⟨w.heap.size + 1, 0, none⟩ = false := row_frz HTW.out
    obtain ⟨_, r1, _⟩ := HRW.out.cells
    rw [HN.out] at r1
    have hlim := HLIM.out
    clear hm hcN hck hbW hlen
    by_cases hx : xi = m
    · subst hx
      have hlr := HN.out
      obtain ⟨y, hy⟩ : ∃ y, recs[xi]? = some y := ⟨_, List.getElem?_eq_getElem (by omega)⟩
      obtain ⟨g2, rfl, c2'⟩ : ∃ g2, a2 = some ⟨g2, 0, none⟩ ∧ W.cell? ⟨g2, xi, none⟩ = some (encS y) := by
        obtain ⟨a', c', e, h1, h2, h3⟩ := own_shape HRW.out.2.1
        injection e with e1 _ e3
        subst e1 e3
        rcases h2 with ⟨rfl, h2⟩ | ⟨g, rfl⟩
        · omega
        · exact ⟨g, rfl, h3 g rfl xi _ (by rw [List.getElem?_map, hy]; rfl)⟩
      unfold encS at c2'
      have h0' : (0 : Int) ≤ (xi : Int) := by omega
      have hmn' : (xi : Int) < (n : Int) := by omega
      have hmn2 : ¬ (n : Int) ≤ (xi : Int) := by omega
      have hmn3 : ¬ n ≤ xi := by omega
      have hmn4 : decide ((n : Int) ≤ (xi : Int)) = false := decide_eq_false hmn2
      have hmn5 : decide ((xi : Int) ≥ (n : Int)) = false := decide_eq_false hmn2
      have HY := Aside0.mk hy
      clear hlr hy
      by_cases hxy : xy = y
      · subst hxy
        obtain ⟨z, hz⟩ : ∃ z, mkB xy = z := ⟨_, rfl⟩
        rw [hz] at c2' ⊢
        clear hz
        gi_wp2
        refine wpIn_region_quiet_r (by kernel_rfl) (by kernel_rfl) (by kernel_rfl) ?_
        repeat (gi_big_quiet_step (fail))
        refine wpQuietIn_nil ?_
        rintro _ ⟨nq, rfl⟩
        gi_wp2
        unfold ownPostK
        refine ⟨KeepsOthers.trans (ko_drew W nq) (KeepsOthers.setCell _ _ _), ck_t (CK.kt nq) (CK.set 0 _), ?_, ck_t (ck_t HSI.out.2.1 (CK.kt nq)) (CK.set 0 _), (pw_below_drewN HSI.out.2.2 nq).setCell (p := ⟨nB, 0, none⟩) (by show w.heap.size ≤ nB; omega) _⟩
        have h9 : (W.drewN nq).heap[nB]? = some (.cells #[.int .i64 (pre.length : Int)] 3 (0, 0)) := HSI.out.1
        rw [heap_setCell_same _ _ _ _ _ _ h9, List.length_append, HM.out]
        simp
      · have hne := mkB_beq hxy
        have HXY := Aside0.mk hxy
        have hne2 : (xy == y) = false := by rw [beq_eq_false_iff_ne]; exact hxy
        clear hxy
        gi_wp2
        refine wpIn_region_quiet_r (by kernel_rfl) (by kernel_rfl) (by kernel_rfl) ?_
        repeat (gi_big_quiet_step (fail))
        refine wpQuietIn_nil ?_
        rintro _ ⟨nq, rfl⟩
        gi_wp2
        unfold ownPostK
        exact ⟨KeepsOthers.trans (ko_drew W nq) (KeepsOthers.setCell _ _ _), sx_str HM.out HY.out HXY.out⟩
    · have hne : ¬ (xi : Int) = (m : Int) := by omega
      have HX := Aside0.mk hx
      have hne2 : ((xi : Int) == (m : Int)) = false := by rw [beq_eq_false_iff_ne]; exact hne
      have hne3 : ((xi : Int) != (m : Int)) = true := by rw [bne, hne2]; rfl
      have hne4 : decide ((xi : Int) = (m : Int)) = false := decide_eq_false hne
      have hne5 : (xi == m) = false := by rw [beq_eq_false_iff_ne]; exact hx
      gi_wp2
      refine wpIn_region_quiet_r (by kernel_rfl) (by kernel_rfl) (by kernel_rfl) ?_
      repeat (gi_big_quiet_step (fail))
      refine wpQuietIn_nil ?_
      rintro _ ⟨nq, rfl⟩
      gi_wp2
      unfold ownPostK
      exact ⟨KeepsOthers.trans (ko_drew W nq) (KeepsOthers.setCell _ _ _), sx_idx HM.out HX.out⟩
  case done =>
    rintro D xs W hD rfl hSI hK
    have HSI := Aside0.mk hSI
    have HK := Aside0.mk hK
    have HDD := Aside0.mk hD
    have hDs : D < W.heap.size := (Array.getElem?_eq_some_iff.1 hK).1
    have HLW := Aside0.mk (HL4.out.ck hSI.2.1 hqn (fun e => HNL.out nB e rfl))
    have HRW := Aside0.mk (HR4.out.ck hSI.2.1 hq2n (fun e => HNR.out nB e rfl))
    have HBX : Aside0 (W.heap[w.heap.size]? = some (.cells #[.pointer (some ⟨q2, 0, none⟩)] 48 (0, 0))) := ⟨hSI.2.1 _ _ HBB4.out rfl (by omega)⟩
    have HTX : Aside0 (W.heap[w.heap.size + 1]? = some (.cells #[.bool false] 4 (0, 0))) := ⟨hSI.2.1 _ _ HTT4.out rfl (by omega)⟩
    have HNX : Aside0 (W.heap[nB]? = some (.cells #[.int .i64 (n : Int)] 3 (0, 0))) := ⟨by rw [hSI.1, iu_len, HN.out]⟩
    have HBW := Aside0.mk hSI.2.2
    have HGW := Aside0.mk (HG.out.below hSI.2.2)
    have hlim := HLIM.out
    clear hSI hK hD cN cL
    obtain ⟨d, hd⟩ : ∃ d : Nat, max 1 (n / 3) = d := ⟨_, rfl⟩
    have hd1 : 1 ≤ d := by omega
    have hdn : d ≤ n + 1 := by omega
    have HD1 : Aside0 (max (1 : Int) ((n : Int) / 3) = (d : Int)) := ⟨by omega⟩
    clear hd
    go_wp2_with (fail)
    go_loopw [8] (fun v8 wr => ∃ i : Int, -1 ≤ i ∧ i ≤ 3000000 ∧ v8 = .int .i64 i ∧ Aside0 (Below W.heap.size W wr)) (fun v8 _ => ((n : Int) + 1 - intOf v8).toNat)
    case atStart => exact ⟨-1, by omega, by omega, rfl, ⟨Below.refl _ _⟩⟩
    case round =>
      obtain ⟨i, hi1, hi2, rfl, HBr⟩ := hrel
      have HR3 := Aside0.mk (HRW.out.below HBr.out)
      have HL3 := Aside0.mk (HLW.out.below HBr.out)
      have k1 : wr.cell? ⟨w.heap.size, 0, none⟩ = some (.pointer (some ⟨q2, 0, none⟩)) := pw_cell_below HBr.out (by rw [cell_of_row _ _ _ _ _ _ HBX.out]; rfl)
      have r1 : wr.cell? ⟨q2, 1, none⟩ = some (.slice a2 n c2) := by
        have := HR3.out.cells.2.1
        rw [HN.out] at this
        exact this
      by_cases h1 : i ≤ (n : Int)
      · have hn6 := HN.out
        have HAT := Aside0.mk (atAny_calls i wr HL3.out hi1 (by omega))
        clear hn6
        go_upto_region 17 with (fail)
        go_cut [9, 10] from 74 to 166 (fun v9 v10 wx => ∃ s, v9 = .string s ∧ Aside0 (AtP recs i s v10 wx ∧ Below wr.heap.size wr wx))
        case first =>
          go_wp2_with (fail)
          refine HAT.out.mono ?_
          rintro e w5 ⟨s, v, rfl, hA, hb⟩
          have HA : Aside0 (AtP recs i s v w5 ∧ Below wr.heap.size wr w5) := ⟨⟨hA, hb⟩⟩
          clear hA hb
          go_wp2_with (fail)
          go_meet
          exact ⟨s, rfl, HA⟩
        case rest =>
          obtain ⟨s, rfl, HA⟩ := hcut
          have HB5 := Aside0.mk (below_step (w := W) HBr.out HA.out.2)
          have HL5 := Aside0.mk (HLW.out.below HB5.out)
          have HR5 := Aside0.mk (HRW.out.below HB5.out)
          have HG5 := Aside0.mk (HGW.out.below HB5.out)
          have k5 := pw_cell_below HA.out.2 k1
          have r5 := pw_cell_below HA.out.2 r1
          obtain ⟨bo, HBO⟩ : ∃ bo : Bool, Aside0 ((bo = true ∧ (i = -1 ∨ i = (n : Int)) ∧ s = ⟨#[]⟩ ∧ ∃ g, u10 = .iface 98 (.pointer (some ⟨g, 0, none⟩)) ∧ FP wc g 2 i) ∨ (bo = false ∧ ∃ (k : Nat) (x : BL), i = (k : Int) ∧ k < n ∧ recs[k]? = some x ∧ s = mkB x ∧ u10 = .nilIface)) := by
            rcases HA.out.1 with h | ⟨k, x, h2, h3, h4⟩
            · exact ⟨true, ⟨.inl ⟨rfl, by rw [← HN.out]; exact h⟩⟩⟩
            · exact ⟨false, ⟨.inr ⟨rfl, k, x, h2, by rw [← HN.out]; exact (List.getElem?_eq_some_iff.1 h3).1, h3, h4⟩⟩⟩
          clear k1 r1
          go_upto_region 18 with (fail)
          go_cut [106] from 74 to 166 (fun v106 wx => Aside0 (v106 = .bool bo ∧ wc = wx))
          case first =>
            rcases HBO.out with ⟨rfl, h, hz⟩ | ⟨rfl, k, x, rfl, hk, hz⟩
            · clear hz
              rcases h with rfl | rfl
              · go_wp2_with (fail)
                go_meet
                exact ⟨⟨rfl, rfl⟩⟩
              · have g1 : ¬ (n : Int) < 0 := by omega
                have g2 : (n : Int) ≤ (n : Int) := by omega
                go_wp2_with (fail)
                go_meet
                exact ⟨⟨by simp, rfl⟩⟩
            · clear hz
              have g1 : ¬ (k : Int) < 0 := by omega
              have g2 : ¬ (n : Int) ≤ (k : Int) := by omega
              go_wp2_with (fail)
              go_meet
              exact ⟨⟨by first | rfl | (simp; done) | (simp; omega), rfl⟩⟩
          case rest =>
            obtain ⟨⟨rfl, rfl⟩⟩ := hcut
            go_upto_if 106 with (fail)
            go_cut [8] from 74 to 166 (fun v8 wx => Aside0 (v8 = .int .i64 i ∧ Below wc.heap.size wc wx))
            case first =>
              rcases HBO.out with ⟨rfl, h, rfl, g, rfl, hF⟩ | ⟨rfl, k, x, rfl, hk, hx, rfl, rfl⟩
              · have HIS : Aside0 (Calls Tryz.prog 10 #[.iface 98 (.pointer (some ⟨g, 0, none⟩)), .int .i64 2, .string ⟨#[]⟩, .int .i64 i] wc fun ev w' => ev = .returned (.bool true) ∧ Below wc.heap.size wc w') := ⟨by
                  rcases h with rfl | rfl
                  · exact is_ok g 2 ⟨#[]⟩ wc hF.fc HG5.out.1 (by decide) (by decide) (by decide)
                  · exact isP_ok g 2 n wc hF HG5.out.1 (by decide) (by decide) (by omega) HG5.out.2.1⟩
                clear hF h
                go_wp2_with (fail)
                refine HIS.out.mono ?_
                rintro e w6 ⟨rfl, hb⟩
                have HB6 := Aside0.mk hb
                clear hb
                go_wp2_with (fail)
                go_meet
                exact ⟨⟨rfl, HB6.out⟩⟩
              · obtain ⟨g2, rfl, c6⟩ : ∃ g2, a2 = some ⟨g2, 0, none⟩ ∧ wc.cell? ⟨g2, k, none⟩ = some (encS x) := by
                  obtain ⟨a', c', e, h1, h2, h3⟩ := own_shape HR5.out.2.1
                  injection e with e1 _ e3
                  subst e1 e3
                  have := HN.out
                  rcases h2 with ⟨rfl, h2⟩ | ⟨g, rfl⟩
                  · omega
                  · exact ⟨g, rfl, h3 g rfl k _ (by rw [List.getElem?_map, hx]; rfl)⟩
                unfold encS at c6
                have g1 : (0 : Int) ≤ (k : Int) := by omega
                have g2' : (k : Int) < (n : Int) := by omega
                clear hx
                go_wp2_with (fail)
                go_meet
                exact ⟨⟨rfl, Below.refl _ _⟩⟩
            case rest =>
              obtain ⟨⟨rfl, hb6⟩⟩ := hcut
              have HB7 := Aside0.mk (below_step (w := W) HB5.out hb6)
              have k7 := pw_cell_below hb6 k5
              have r7 := pw_cell_below hb6 r5
              have HL7 := Aside0.mk (HLW.out.below HB7.out)
              have HR7 := Aside0.mk (HRW.out.below HB7.out)
              clear hb6 k5 r5
              obtain ⟨k0, hk0, hk1⟩ : ∃ k0 : Nat, min (max i 0) (n : Int) = (k0 : Int) ∧ k0 ≤ n := ⟨(min (max i 0) (n : Int)).toNat, by omega, by omega⟩
              have HFR := Aside0.mk (from_calls i wc HL7.out)
              rw [show (if (recs.length : Int) ≤ i then [] else recs.drop i.toNat) = recs.drop k0 by
                have := HN.out
                split
                · rw [List.drop_eq_nil_of_le (by omega)]
                · rw [show i.toNat = k0 by omega]] at HFR
              obtain ⟨l, hl⟩ : ∃ l, recs.drop k0 = l := ⟨_, rfl⟩
              obtain ⟨m, hm⟩ : ∃ m, n - k0 = m := ⟨_, rfl⟩
              have HLL : Aside0 (l.length = m ∧ ∀ j : Nat, l[j]? = recs[k0 + j]?) := ⟨by
                rw [← hl, List.length_drop, HN.out, hm], fun j => by rw [← hl, List.getElem?_drop]⟩
              obtain ⟨hq1, hq2, hq3, hq4⟩ : recs.length = n ∧ n ≤ c2 ∧ ((a2 = none ∧ c2 = 0) ∨ ∃ g, a2 = some ⟨g, 0, none⟩) ∧ ∀ j x, recs[j]? = some x → ∃ g, a2 = some ⟨g, 0, none⟩ ∧ wc.cell? ⟨g, j, none⟩ = some (encS x) := by
                obtain ⟨a', c', e, h1, h2, h3⟩ := own_shape HR7.out.2.1
                injection e with e1 _ e3
                subst e1 e3
                refine ⟨HN.out, by rw [← HN.out]; exact h1, h2, fun j x hx => ?_⟩
                rcases h2 with ⟨rfl, h2⟩ | ⟨g, rfl⟩
                · have := (List.getElem?_eq_some_iff.1 hx).1
                  omega
                · exact ⟨g, rfl, h3 g rfl j _ (by rw [List.getElem?_map, hx]; rfl)⟩
              obtain ⟨A, hsl, hA⟩ := slice_from a2 n c2 k0 hq3 hq2 hk1
              rw [hm] at hsl
              have HQ4 := Aside0.mk hq4
              have HAA := Aside0.mk hA
              have HK1 := Aside0.mk hk1
              have HMM := Aside0.mk hm
              rw [hl] at HFR
              clear hl hm hq1 hq2 hq3 hq4 hA hk1
              go_wp2_with (fail)
              refine HFR.out.mono ?_
              rintro e w6 ⟨v, rfl, hF, hb⟩
              obtain ⟨a5, c5, hv⟩ := fr_form hF
              rw [HLL.out.1] at hv
              subst hv
              have HFJ := Aside0.mk (FJ.start hF)
              have HFA : Aside0 (0 < m → ∃ g, a5 = some ⟨g, 0, none⟩) := ⟨fun q => by
                rcases hF with ⟨e, h⟩ | ⟨g', cap, cur, e, _⟩
                · have := HLL.out.1; rw [h] at this; simp at this; omega
                · injection e with e _ _
                  exact ⟨g', e⟩⟩
              have HB8 := Aside0.mk hb
              have k8 := pw_cell_below hb k7
              have r8 := pw_cell_below hb r7
              clear hF hb k7 r7
              go_wp2_with (fail)
              go_quiet (fail)
              have HB9 := Aside0.mk (pw_below_drewN HB8.out nq)
              have HFJ9 := Aside0.mk (HFJ.out.drew nq)
              clear hsl hk0 k8 r8
              obtain ⟨w9, hw9⟩ : ∃ w9, w6.drewN nq = w9 := ⟨_, rfl⟩
              rw [hw9] at HB9 HFJ9 ⊢
              clear hw9
              go_wp2_with (fail)
              go_loopw [13] (fun v13 wi => ∃ j : Nat, j ≤ m ∧ v13 = .int .i64 j ∧ Aside0 (Below wc.heap.size wc wi ∧ FJ wc.heap.size wi a5 j l)) (fun v13 _ => m - (intOf v13).toNat)
              case atStart => exact ⟨0, Nat.zero_le _, rfl, ⟨HB9.out, HFJ9.out⟩⟩
              case round =>
                obtain ⟨j, hj, rfl, HWI⟩ := hrel
                have hmn := HMM.out
                have hkn := HK1.out
                by_cases hjm : j < m
                · have hjm' : (j : Int) < (m : Int) := by omega
                  have hj0 : (0 : Int) ≤ (j : Int) := by omega
                  have hll := HLL.out.1
                  obtain ⟨x, hx⟩ : ∃ x, l[j]? = some x := ⟨_, List.getElem?_eq_getElem (by omega)⟩
                  obtain ⟨g5, rfl⟩ := HFA.out (by omega)
                  obtain ⟨g6, he6, c6⟩ := HQ4.out (k0 + j) x (by rw [← HLL.out.2]; exact hx)
                  obtain ⟨g7, he7, rfl⟩ := HAA.out (by omega)
                  rw [he6] at he7
                  injection he7 with he7
                  injection he7 with he7
                  subst he7
                  have d6 := pw_cell_below HWI.out.1 c6
                  obtain ⟨hg5, cur, hcur, hcs, hct⟩ := HWI.out.2 g5 rfl
                  have d5 : wr.cell? ⟨g5, j, none⟩ = some (encS x) := by rw [cell_of_row _ _ _ _ _ _ hcur]; exact hct j x (Nat.le_refl _) hx
                  have f5 : wr.frozen? ⟨g5, j, none⟩ = false := row_frz hcur
                  unfold encS at d5 d6
                  have HNX : Aside0 (∀ (k : Nat) (v : Value), Below wc.heap.size wc ((wr.drewN k).setCell ⟨g5, j, none⟩ v) ∧ FJ wc.heap.size ((wr.drewN k).setCell ⟨g5, j, none⟩ v) (some ⟨g5, 0, none⟩) (j + 1) l) := ⟨fun k v => ⟨(pw_below_drewN HWI.out.1 k).setCell (p := ⟨g5, j, none⟩) hg5 v, (HWI.out.2.drew k).next v⟩⟩
                  have hjb : j + 1 ≤ 1000000 := by omega
                  clear hx he6 c6 hll hcur hcs hct hg5 hmn hkn
                  go_wp2_with (fail)
                  go_quiet (fail)
                  go_wp2_with (fail)
                  exact ⟨⟨j + 1, by omega, by simp, ⟨HNX.out _ _⟩⟩, by simp [intOf]; omega⟩
                · have hjm' : ¬ (j : Int) < (m : Int) := by omega
                  have HB10 := Aside0.mk (below_step (w := W) HB7.out HWI.out.1)
                  have HR10 := Aside0.mk (HRW.out.below HB10.out)
                  have k10 : wr.cell? ⟨w.heap.size, 0, none⟩ = some (.pointer (some ⟨q2, 0, none⟩)) := pw_cell_below HB10.out (by rw [cell_of_row _ _ _ _ _ _ HBX.out]; rfl)
                  have r10 : wr.cell? ⟨q2, 1, none⟩ = some (.slice a2 n c2) := by
                    have := HR10.out.cells.2.1
                    rw [HN.out] at this
                    exact this
                  have hd2 := HD1.out
                  clear hmn hkn
                  go_wp2_with (fail)
                  exact ⟨⟨i + d, by omega, by omega, by simp, HB10⟩, by simp [intOf]; omega⟩
      · have h1' : ¬ i ≤ (n : Int) := h1
        have k9 : wr.cell? ⟨nB, 0, none⟩ = some (.int .i64 (n : Int)) := pw_cell_below HBr.out (by rw [cell_of_row _ _ _ _ _ _ HNX.out]; rfl)
        have HTX9 : Aside0 (wr.heap[w.heap.size + 1]? = some (.cells #[.bool false] 4 (0, 0))) := ⟨(HBr.out.block _ (Array.getElem?_eq_some_iff.1 HTX.out).1).trans HTX.out⟩
        have t9 : wr.cell? ⟨w.heap.size + 1, 0, none⟩ = some (.bool false) := by rw [cell_of_row _ _ _ _ _ _ HTX9.out]; rfl
        have f9 : wr.frozen? ⟨w.heap.size + 1, 0, none⟩ = false := row_frz HTX9.out
        go_wp2_with (fail)
        go_still_tail 7, (by kernel_rfl)
        change wpList _ _ _ _ _ wr.drew
        have hDT : w.heap.size + 1 ≠ D := fun e => by
          have h8 := HK.out
          rw [← e, HTX.out] at h8
          cases h8
        have hzw := HBW.out.size
        have t10 : wr.drew.cell? ⟨w.heap.size + 1, 0, none⟩ = some (.bool false) := t9
        have f10 : wr.drew.frozen? ⟨w.heap.size + 1, 0, none⟩ = false := f9
        have HB10 : Aside0 (Below W.heap.size W wr.drew) := ⟨below_drew1 HBr.out⟩
        have HTX10 : Aside0 (wr.drew.heap[w.heap.size + 1]? = some (.cells #[.bool false] 4 (0, 0))) := HTX9
        obtain ⟨w10, hw10⟩ : ∃ w10, wr.drew = w10 := ⟨_, rfl⟩
        rw [hw10] at t10 f10 HB10 HTX10 ⊢
        clear hw10 t9 f9 k9 k1 r1
        go_wp2_with (fail)
        have hKD : (w10.setCell ⟨w.heap.size + 1, 0, none⟩ (.bool true)).heap[D]? = some (.deferred (some [])) := (Below.heap_setCell w10 ⟨w.heap.size + 1, 0, none⟩ _ D (fun e => hDT e.symm)).trans ((HB10.out.block D hDs).trans HK.out)
        refine ⟨by simp, .inl ⟨_, _, rfl, run_takeDeferred hKD, ?_⟩⟩
        refine ⟨.bool true, stands_res (w.heap.size + 1) true rfl ?_, rfl, ?_⟩
        · have h7 : ((w10.setCell ⟨w.heap.size + 1, 0, none⟩ (.bool true)).putObj D (.deferred none)).heap[w.heap.size + 1]? = some (.cells #[.bool true] 4 (0, 0)) := (World.putObj_heap_other hDT).trans (by rw [heap_setCell_same _ _ _ _ _ _ HTX10.out]; rfl)
          rw [cell_of_row _ _ _ _ _ _ h7]
          rfl
        · exact ((below_step (w := w) HBW.out HB10.out).setCell (p := ⟨w.heap.size + 1, 0, none⟩) (by show w.heap.size ≤ w.heap.size + 1; omega) _).trans (belowK_b (w := w4) (n₀ := w.heap.size) (by omega) _ D _ _ HDD.out hKD rfl rfl)
  case stop =>
    rintro D c pre W hD ⟨k, hk, rfl⟩ hx hK
    exact absurd (by rw [iu_len]) hx
end Go.Proofs.YtmceikfbgmcmaaaGreatDoor.D

/- script.Read. -/
import Derived.Test.YtopcidphlleciaaGreatDoorProM
namespace Go.Proofs.YtopcidphlleciaaGreatDoor.S
open Go.RowKit Go.Extern.Stop Go.Stop Go.Extern Go.Proofs.YtopcidphlleciaaGreatDoorW.PrintWords Go.Proofs.YtopcidphlleciaaGreatDoorW.PrintLast Go.Proofs.YtopcidphlleciaaGreatDoorW.PrintMore
set_option linter.unusedVariables false
set_option linter.unusedSimpArgs false
theorem set2_other {W : World} {h g : Nat} {x : Value} (hg : g ≠ h) (u v : Value) (hc : W.cell? ⟨g, 0, none⟩ = some x) : ((W.setCell ⟨h, 0, none⟩ u).setCell ⟨h, 1, none⟩ v).cell? ⟨g, 0, none⟩ = some x := by
  have hx : ∀ (W : World) (i : Nat) (v : Value), (W.setCell ⟨h, i, none⟩ v).cell? ⟨g, 0, none⟩ = W.cell? ⟨g, 0, none⟩ := fun W i v => World.cell?_setCell_other (h := fun q => by injection q with q; exact hg q.symm) ..
  rw [hx, hx, hc]
theorem slice_tail (g N cap : Nat) (h1 : 1 ≤ N) (h2 : N ≤ cap) : ∃ off, (∀ W, (Instr.slice 23 (.slice (some ⟨g, 0, none⟩) N cap) (some (.int .i64 1)) none none).run Tryz.prog W = .ok (.slice (some ⟨g, off, none⟩) (N - 1) (cap - 1)) W) ∧ (1 < N → off = 1) := by
  have hz : ∀ W, (sizeOf 9).run Tryz.prog W = .ok 1 W := fun W => by kernel_rfl
  have h3 : (1 : Int) ≤ (N : Int) := by omega
  by_cases hc : cap = 1
  · refine ⟨0, fun W => ?_, fun h => by omega⟩
    simp [Instr.slice, Instr.sliceBounds, Instr.sliceBound, asIntOf, run_underlying Tryz.underlying23, hz, h3, hc, Result.andThen]
  · refine ⟨1, fun W => ?_, fun _ => rfl⟩
    simp [Instr.slice, Instr.sliceBounds, Instr.sliceBound, asIntOf, run_underlying Tryz.underlying23, hz, h3, hc, Result.andThen]
    rw [Addr.add_mid]
theorem own_le {w : World} {base base' size n : Nat} {e : TypeId} {v : Value} {xs : List Value} (h : w.ownsRow base e size v n xs) (hb : base' ≤ base) : w.ownsRow base' e size v n xs := by
  obtain ⟨h1, h2⟩ := h
  refine ⟨h1, ?_⟩
  rcases h2 with h2 | ⟨g, cap, cur, e1, e2, e3⟩
  · exact .inl h2
  · exact .inr ⟨g, cap, cur, e1, Nat.le_trans hb e2, e3⟩
/-- The call that was put together: its cells, its list in memory of its own. -/
def FR (w wr wx : World) (g : Nat) (x : ByteArray) (sv : Value) (n : Nat) (xs : List Value) : Prop := wx.cell? ⟨g, 0, none⟩ = some (.string x) ∧ wx.cell? ⟨g, 1, none⟩ = some sv ∧ wx.ownsRow (w.heap.size + 1) 9 1 sv n xs ∧ Below wr.heap.size wr wx
theorem fr_alloc {w wr w5 : World} {B n : Nat} {x : ByteArray} {sv : Value} {xs : List Value} {T : TypeId} (hb : Below wr.heap.size wr w5) (ho : w5.ownsRow B 9 1 sv n xs) (hB : w.heap.size + 1 ≤ B) : FR w wr (w5.alloc (.cells #[.string x, sv] T)) w5.heap.size x sv n xs :=
  ⟨by simp, by simp, own_le (ho.alloc _) hB, hb.alloc hb.size _⟩
theorem fr_set {w wr w5 : World} {B n g : Nat} {x : ByteArray} {sv : Value} {xs : List Value} (hb : Below wr.heap.size wr w5) (ho : w5.ownsRow B 9 1 sv n xs) (hg : g < B) (hw : wr.heap.size ≤ g) (hB : w.heap.size + 1 ≤ B) (c0 : (w5.cell? ⟨g, 0, none⟩).isSome = true) (c1 : (w5.cell? ⟨g, 1, none⟩).isSome = true) :
    FR w wr ((w5.setCell ⟨g, 0, none⟩ (.string x)).setCell ⟨g, 1, none⟩ sv) g x sv n xs := by
  have hx : ∀ (W : World) (i j : Nat) (v : Value), i ≠ j → (W.setCell ⟨g, i, none⟩ v).cell? ⟨g, j, none⟩ = W.cell? ⟨g, j, none⟩ := fun W i j v h => World.cell?_setCell_other (h := fun q => by injection q with _ q; exact h q) ..
  refine ⟨?_, World.cell?_setCell_same' _ _ _ (by rw [hx _ _ _ _ (by omega)]; exact c1), ?_, (hb.setCell hw _).setCell hw _⟩
  · rw [hx _ _ _ _ (by omega), World.cell?_setCell_same' _ _ _ c0]
  · exact own_le (ownsRow_setCell_below (ownsRow_setCell_below ho (a := ⟨g, 0, none⟩) hg _) (a := ⟨g, 1, none⟩) hg _) hB
theorem len_sum : ∀ P : List BL, P.length ≤ (P.map fun p => p.length + 1).sum
  | [] => Nat.le_refl _
  | p :: r => by
    have := len_sum r
    rw [List.map_cons, List.sum_cons, List.length_cons]
    omega
set_option maxHeartbeats 32000000 in
set_option maxRecDepth 100000 in
theorem read_main (s : ByteArray) (w : World) (hs : s.size ≤ 262144) (ho : overF (tl s) = false) (hG : GS w) (hT : GT w) (hM : GM w) : Calls Tryz.prog 10 #[.string s] w fun e w' => ∃ cv ev, e = .returned (.tuple #[cv, ev]) ∧ RC w.heap.size w' (readF s).1 cv ∧ EA w' ev (readF s).2 ∧ Below w.heap.size w w' := by
  obtain ⟨i0, hi0, hz0, hz1, hz2⟩ := info_parts info9
  have hs' : ¬ (262144 : Int) < (s.size : Int) := by omega
  have HO : Aside0 (∀ W, Calls Tryz.prog 29 #[.string s] W fun e w' => e = .returned (.bool false) ∧ W = w') := ⟨fun W => by have := over_calls s W; rw [ho] at this; exact this⟩
  obtain ⟨P, hP⟩ : ∃ P, spl 32 (tl s) = P := ⟨_, rfl⟩
  obtain ⟨N, hN⟩ : ∃ N, P.length = N := ⟨_, rfl⟩
  have hN1 : 1 ≤ N := by obtain ⟨x, y, h⟩ := spl_cons 32 (tl s); rw [hP] at h; rw [← hN, h]; simp
  have hsum : (P.map fun p => p.length + 1).sum = s.size + 1 := by have := spl_sum 32 (tl s); rw [hP] at this; rw [this]; exact congrArg (· + 1) Array.length_toList
  have hNs : N ≤ s.size + 1 := by
    rw [← hN, ← hsum]
    exact len_sum P
  have HSP : Aside0 (∀ W, GM W → Calls Tryz.prog 30 #[.string s, .string ⟨#[32]⟩] W fun e w' => e = .returned (.slice (some ⟨W.heap.size, 0, none⟩) N N) ∧ w' = W.alloc (.cells (P.map encS).toArray 9)) := ⟨fun W hW => by have := split_calls 32 s W (by omega) hW; rw [hP, hN] at this; exact this⟩
  obtain ⟨res, hres⟩ : ∃ r, readF s = r := ⟨_, rfl⟩
  rw [hres]
  have HRB : Aside0 (∀ k, prs 0 P = .inl k → (noC, (300, (⟨#[]⟩ : ByteArray), (k : Int))) = res) := ⟨fun k h => by rw [← hres]; unfold readF; rw [if_neg (show ¬ 262144 < s.size by omega), ho, if_neg (show ¬ false = true by decide), hP, h]⟩
  have HRO : Aside0 (∀ a r, prs 0 P = .inr (a :: r) → (if (checkF (mkB a) (r.map mkB)).1 = 0 then ((mkB a, r.map mkB), okB) else (noC, checkF (mkB a) (r.map mkB))) = res) := ⟨fun a r h => by rw [← hres]; unfold readF; rw [if_neg (show ¬ 262144 < s.size by omega), ho, if_neg (show ¬ false = true by decide), hP, h]⟩
  have HSM : Aside0 (∀ W, prs 0 P = .inr W → ∀ a ∈ W, a.length ≤ s.size) := ⟨fun W h a ha => by rw [← hP] at h; have := prs_small h a ha; rw [show (tl s).length = s.size from Array.length_toList] at this; exact this⟩
  have HP := Aside0.mk (And.intro hN hsum)
  have HG := Aside0.mk (And.intro hG (And.intro hT hM))
  clear ho hP hN hsum hres hG hT hM
  go_enter Tryz.func10, Tryz.ntmps10
  go_wp2_with (fail)
  refine (HO.out _).mono ?_
  rintro e w5 ⟨rfl, rfl⟩
  go_wp2_with (fail)
  refine (HSP.out _ (HG.out.2.2.below ((Below.refl _ _).alloc (Nat.le_refl _) _))).mono ?_
  rintro e w5 ⟨rfl, rfl⟩
  go_wp2_with (fail)
  go_loopw [4, 5, 7, 8, 9, 10, 27] (fun v4 v5 v7 v8 v9 v10 v27 wr => ∃ (j at_ : Nat) (acc : List BL), j ≤ N ∧ v27 = .int .i64 j ∧ v5 = .int .i64 at_ ∧ at_ ≤ s.size + 1 ∧ acc.length = j ∧ wr.ownsRow (w.heap.size + 2) 9 1 v4 acc.length (acc.map encS) ∧ Aside0 (Below ((w.alloc (.cells #[.string ⟨#[]⟩, .slice none 0 0] 25)).alloc (.cells (P.map encS).toArray 9)).heap.size ((w.alloc (.cells #[.string ⟨#[]⟩, .slice none 0 0] 25)).alloc (.cells (P.map encS).toArray 9)) wr ∧ prs 0 P = pre acc (prs at_ (P.drop j)) ∧ at_ + ((P.drop j).map fun p => p.length + 1).sum = s.size + 1)) (fun _ _ _ _ _ _ v27 _ => N - (intOf v27).toNat)
  case atStart => exact ⟨0, 0, [], Nat.zero_le _, rfl, rfl, Nat.zero_le _, rfl, World.ownsRow_nil _ _ _ _, ⟨Below.refl _ _, by rw [List.drop_zero, pre_nil], by rw [List.drop_zero, HP.out.2, Nat.zero_add]⟩⟩
  case round =>
    obtain ⟨j, at_, acc, hj, rfl, rfl, hat, hacc, hrow, HX⟩ := hrel
    have HB : Aside0 (Below w.heap.size w wr) := ⟨below_step (w := w) (((Below.refl _ _).alloc (Nat.le_refl _) _).alloc (by simp) _) HX.out.1⟩
    have c0 : wr.cell? ⟨w.heap.size, 0, none⟩ = some (.string ⟨#[]⟩) := pw_cell_below HX.out.1 (by simp)
    have c1 : wr.cell? ⟨w.heap.size, 1, none⟩ = some (.slice none 0 0) := pw_cell_below HX.out.1 (by simp)
    by_cases h1 : j < N
    · have h1' : (j : Int) < (N : Int) := by omega
      have h0' : (0 : Int) ≤ (j : Int) := by omega
      have hjl : j < P.length := by rw [HP.out.1]; exact h1
      have a1 : wr.cell? ⟨w.heap.size + 1, j, none⟩ = some (.string (mkB P[j])) := pw_cell_below HX.out.1 (by have q := cell_pieces (w.alloc (.cells #[.string ⟨#[]⟩, .slice none 0 0] 25)) P 9 j hjl; rw [show (w.alloc (.cells #[.string ⟨#[]⟩, .slice none 0 0] 25)).heap.size = w.heap.size + 1 by simp] at q; exact q)
      have HD : Aside0 (P.drop j = P[j] :: P.drop (j + 1)) := ⟨List.drop_eq_getElem_cons hjl⟩
      have hpl : at_ + (P[j].length + 1) ≤ s.size + 1 := by have := HX.out.2.2; rw [HD.out, List.map_cons, List.sum_cons] at this; omega
      obtain ⟨p, hp⟩ : ∃ p, P[j] = p := ⟨_, rfl⟩
      rw [hp] at a1 HD hpl
      have hps : (mkB p).size = p.length := mkB_size p
      have HU : Aside0 (∀ W, Calls Tryz.prog 24 #[.string (mkB p)] W fun e w' => e = .returned (unwV (unw p)) ∧ Below W.heap.size W w') := ⟨fun W => by have := unwrite_calls (mkB p) W (by omega); rw [tl_mkB] at this; exact this⟩
      have hk := unw_k p
      clear hjl hp
      rcases hu : unw p with ⟨arg, k, ok⟩
      rw [hu] at HU hk
      have hk : k ≤ p.length := hk
      cases ok
      case false =>
        have HR := Aside0.mk (HRB.out (at_ + k) (by rw [HX.out.2.1, HD.out, prs_bad hu]; rfl))
        unfold unwV at HU
        clear hu
        go_wp2_with (fail)
        refine (HU.out _).mono ?_
        rintro e w5 ⟨rfl, hb5⟩
        have HB5 := Aside0.mk (below_step (w := w) HB.out hb5)
        have HF5 : Aside0 (∀ i, w5.frozen? ⟨w.heap.size, i, none⟩ = false) := ⟨fun i => (hb5.frozen (p := ⟨w.heap.size, i, none⟩) (show w.heap.size < wr.heap.size from World.block_lt_of_cell? _ _ c0)).trans ((HX.out.1.frozen (p := ⟨w.heap.size, i, none⟩) (by simp; omega)).trans (by simp))⟩
        have d0 := pw_cell_below hb5 c0
        have d1 := pw_cell_below hb5 c1
        have hz5 := hb5.size
        have hz0' := HB.out.size
        have hzw : w.heap.size < wr.heap.size := World.block_lt_of_cell? _ _ c0
        clear hb5 c0 c1 a1
        go_wp2_with (fail)
        refine (fault_calls 300 ⟨#[]⟩ _ _ (by decide)).mono ?_
        rintro e w6 ⟨v, rfl, hE, hb⟩
        have h0 := pw_cell_below hb d0
        have h1 := pw_cell_below hb d1
        have y1 : w6.frozen? ⟨w.heap.size, 0, none⟩ = false := (hb.frozen (p := ⟨w.heap.size, 0, none⟩) (World.block_lt_of_cell? _ _ d0)).trans (HF5.out 0)
        have y2 : w6.frozen? ⟨w.heap.size, 1, none⟩ = false := (hb.frozen (p := ⟨w.heap.size, 1, none⟩) (show w.heap.size < w5.heap.size from World.block_lt_of_cell? _ _ d0)).trans (HF5.out 1)
        have HS := Aside0.mk (set_call (y := ⟨#[]⟩) (sv := .slice none 0 0) (below_step (w := w) HB5.out hb) hE h0 (by rw [h1]; rfl))
        clear hb hE
        go_wp2_with (fail)
        exact bodyPost_ret (res_call Tryz.results10 _ _ w.heap.size _ _ _ rfl rfl HS.out.2.2.1 HS.out.2.2.2) rfl ⟨_, _, rfl, by rw [← HR.out]; exact RC.none _ _, by rw [← HR.out]; exact HS.out.1, HS.out.2.1⟩
      case true =>
        have HS : Aside0 (prs 0 P = pre (acc ++ [arg]) (prs (at_ + p.length + 1) (P.drop (j + 1)))) := ⟨by rw [HX.out.2.1, HD.out, prs_ok hu, pre_pre]⟩
        have HS2 : Aside0 (at_ + p.length + 1 + ((P.drop (j + 1)).map fun p => p.length + 1).sum = s.size + 1) := ⟨by have := HX.out.2.2; rw [HD.out, List.map_cons, List.sum_cons] at this; omega⟩
        unfold unwV at HU
        clear hu
        go_wp2_with (fail)
        refine (HU.out _).mono ?_
        rintro e w5 ⟨rfl, hb5⟩
        have HB5 := Aside0.mk hb5
        have hrow5 := own_below hrow hb5
        have hz5 := hb5.size
        have hzw : w.heap.size + 1 < wr.heap.size := World.block_lt_of_cell? _ _ a1
        clear hb5 c0 c1 a1
        go_wp2_with (first
          | (at_builtin; refine wpList_append_own _ rfl _ _ 23 rfl (w.heap.size + 2) 9 i0 (.string ByteArray.empty) 1 16 Tryz.underlying23 hi0 hz0 hz1 hz2 rfl (by decide) _ _ _ rfl (hrow5.alloc _) ⟨w5.heap.size, 0, none⟩ 1 1 [encS arg] rfl rfl (cell_one_new _ _ _) (by simp [Value.oneCell', encS]) (by unfold maxLen; omega) (by omega) (by simp; omega) ?_; intro v' w3 hown' hg3 hnil3)
          | go_in)
        all_goals
          refine ⟨⟨j + 1, at_ + p.length + 1, acc ++ [arg], by omega, by simp, by simp; omega, by omega, by simp [hacc], by simpa using hown', ⟨?_, HS.out, HS2.out⟩⟩, by simp [intOf]; omega⟩
          exact ((below_step HX.out.1 HB5.out).alloc (by simp; omega) _).grown hg3 (by simp; omega) (fun j hj => by have := (hrow5.lt j hj).1; simpa using this)
    · have h1' : ¬ (j : Int) < (N : Int) := by omega
      obtain rfl : N = j := by omega
      have HE : Aside0 (prs 0 P = .inr acc) := ⟨by rw [HX.out.2.1, List.drop_of_length_le (by rw [HP.out.1]; exact Nat.le_refl _), prs]; show Sum.inr (acc ++ []) = _; rw [List.append_nil]⟩
      match acc, hacc, hrow, HE with
      | [], hacc, _, _ => exact absurd hacc (by simp; omega)
      | x :: r, hacc, hrow, HE =>
        have HR := Aside0.mk (HRO.out x r HE.out)
        have HSZ := Aside0.mk (HSM.out _ HE.out)
        rcases hrow.2 with ⟨_, h0⟩ | ⟨g, cap, cur, rfl, hgb, hgc, hcap, hcm, _, _⟩
        · simp at h0
        · have hz0 : wr.cell? ⟨g, 0, none⟩ = some (.string (mkB x)) := by
            have := hrow.cells (g := g) rfl 0 (encS x) rfl
            rw [Addr.add_mid] at this
            exact this
          have HCC : Aside0 (∀ j (h : j < r.length), wr.cell? ⟨g, 1 + j, none⟩ = some (.string (mkB r[j]))) := ⟨fun j h => by
            have := hrow.cells (g := g) rfl (j + 1) (encS r[j]) (by simp [h])
            rw [Addr.add_mid, Nat.zero_add, Nat.add_comm] at this
            exact this⟩
          have hrl : r.length + 1 = N := by simpa using hacc
          have hl1 : (x :: r).length = N := hacc
          rw [hl1] at hcap
          obtain ⟨off, hsl, hoff⟩ := slice_tail g N cap hN1 hcap
          have hN1' : (0 : Int) < (N : Int) := by omega
          have hN0 : 0 < N := hN1
          have hgw : g < wr.heap.size := World.block_lt_of_cell? _ _ hz0
          have hzw : w.heap.size + 1 ≤ wr.heap.size := World.block_lt_of_cell? _ _ c0
          have HF0 : Aside0 (∀ i, wr.frozen? ⟨w.heap.size, i, none⟩ = false) := ⟨fun i => ((HX.out.1.frozen (p := ⟨w.heap.size, i, none⟩) (by simp; omega)).trans (by simp))⟩
          have HCL : Aside0 (∀ W, Below wr.heap.size wr W → Calls Tryz.prog 31 #[.slice (some ⟨g, off, none⟩) (N - 1) (cap - 1)] W fun e w' => ∃ a c, e = .returned (.slice a (N - 1) c) ∧ w'.ownsRow W.heap.size 9 1 (.slice a (N - 1) c) (N - 1) ((r.map mkB).map Value.string) ∧ Below W.heap.size W w') := ⟨fun W hW => by
            refine (Tryz.slices_Clone_string g off (N - 1) (cap - 1) (r.map mkB) W (by rw [List.length_map]; omega) (by omega) (fun j hj => ?_)).mono ?_
            · rw [List.length_map] at hj
              rw [hoff (by omega), pw_cell_below hW (HCC.out j hj)]
              simp [hj]
            · rintro e w' ⟨v', rfl, ho, _, hb⟩
              rw [List.take_of_length_le (by rw [List.length_map]; omega)] at ho
              obtain ⟨a, c, rfl⟩ := own_form ho
              exact ⟨a, c, rfl, ho, hb⟩⟩
          have HC01 := Aside0.mk (And.intro c0 c1)
          rw [hl1]
          clear hrow hgc hacc hoff HX c0 c1
          go_wp2_with (fail)
          go_upto_region 16 with fail
          go_cut [11] (fun v11 wx => ∃ g' a c, v11 = .pointer (some ⟨g', 0, none⟩) ∧ Aside0 (FR w wr wx g' (mkB x) (.slice a (N - 1) c) (N - 1) ((r.map mkB).map Value.string)))
          case first =>
            go_region_held3 (fun w' => w'.cell? ⟨g, 0, none⟩ = some (.string (mkB x))) (first | exact hz0 | exact z1 | exact z2 _ _ | exact z3 _ | go_keep) (first
              | (go_at_call 31; refine (HCL.out _ (by first | exact below_drew1 (Below.refl _ _) | exact Below.refl _ _ | exact below_drew1 ((Below.refl _ _).alloc (Nat.le_refl _) _) | exact (below_drew1 (Below.refl _ _)).alloc (by simp) _ | exact (Below.refl _ _).alloc (Nat.le_refl _) _)).mono ?_; rintro e w5 ⟨a, c, rfl, ho, hb⟩; have z1 : w5.cell? ⟨g, 0, none⟩ = some (.string (mkB x)) := pw_cell_below hb (by first | exact hz0 | exact pw_cell_below ((Below.refl _ _).alloc (Nat.le_refl _) _) hz0); have z2 := fun (u v : Value) => set2_other (h := wr.heap.size) (Nat.ne_of_lt hgw) u v z1; have z3 := fun o => pw_cell_below ((Below.refl _ _).alloc (Nat.le_refl _) o) z1; have y0 := fun (p : Addr) h => hb.cell (p := p) h; have y1 := fun (p : Addr) h => hb.frozen (p := p) h; have hz5 := hb.size; have HO := Aside0.mk ho; have HW := Aside0.mk (below_step (w := wr) (by first | exact below_drew1 (Below.refl _ _) | exact Below.refl _ _ | exact below_drew1 ((Below.refl _ _).alloc (Nat.le_refl _) _) | exact (below_drew1 (Below.refl _ _)).alloc (by simp) _ | exact (Below.refl _ _).alloc (Nat.le_refl _) _) hb); clear ho hb))
            all_goals
              go_wp2_with (fail)
              go_meet
              first
                | exact ⟨_, _, _, rfl, ⟨fr_alloc HW.out HO.out hzw⟩⟩
                | exact ⟨_, _, _, rfl, ⟨fr_set HW.out HO.out (by first | exact Nat.lt_succ_self _ | (simp; done)) (Nat.le_refl _) (by first | exact Nat.le_succ_of_le hzw | (simp; omega)) (by rw [y0 _ (by simp)]; simp) (by rw [y0 _ (by simp)]; simp)⟩⟩
          case rest =>
            obtain ⟨g', a, c, rfl, HF⟩ := hcut
            have q0 := HF.out.1
            have q1 := HF.out.2.1
            have HB2 : Aside0 (Below w.heap.size w wc) := ⟨below_step (w := w) HB.out HF.out.2.2.2⟩
            have hsx : (mkB x).size ≤ 140737488351232 := by rw [mkB_size]; have := HSZ.out x (by simp); omega
            have HLS : Aside0 (LSt wc a (N - 1) (r.map mkB)) := ⟨own_lst HF.out.2.2.1 (by omega) (fun k hk => by
              obtain ⟨y, hy, rfl⟩ := List.mem_map.1 hk
              rw [mkB_size]
              have := HSZ.out y (by simp [hy])
              omega)⟩
            have HD : Aside0 (wc.cell? ⟨w.heap.size, 0, none⟩ = some (.string ⟨#[]⟩) ∧ wc.cell? ⟨w.heap.size, 1, none⟩ = some (.slice none 0 0) ∧ ∀ i, wc.frozen? ⟨w.heap.size, i, none⟩ = false) := ⟨pw_cell_below HF.out.2.2.2 HC01.out.1, pw_cell_below HF.out.2.2.2 HC01.out.2, fun i => (HF.out.2.2.2.frozen (p := ⟨w.heap.size, i, none⟩) hzw).trans (HF0.out i)⟩
            have n1 : ∀ (v : Value) (w : World), (binOp .neq 27 (.iface 43 v) .nilIface).run Tryz.prog w = .ok (.bool true) w := fun v w => by kernel_rfl
            go_wp2_with (fail)
            refine (check_calls (mkB x) (r.map mkB) a (N - 1) c _ hsx HLS.out (HG.out.1.below HB2.out) (tab_below HG.out.2.1 HB2.out)).mono ?_
            rintro e w6 ⟨v, rfl, hE, hb6⟩
            have h0 := pw_cell_below hb6 HD.out.1
            have h1 := pw_cell_below hb6 HD.out.2.1
            have hwc : w.heap.size < wc.heap.size := World.block_lt_of_cell? _ _ HD.out.1
            have y1 : w6.frozen? ⟨w.heap.size, 0, none⟩ = false := (hb6.frozen (p := ⟨w.heap.size, 0, none⟩) hwc).trans (HD.out.2.2 0)
            have y2 : w6.frozen? ⟨w.heap.size, 1, none⟩ = false := (hb6.frozen (p := ⟨w.heap.size, 1, none⟩) hwc).trans (HD.out.2.2 1)
            have k0 := pw_cell_below hb6 q0
            have k1 := pw_cell_below hb6 q1
            have HOW := Aside0.mk (own_below HF.out.2.2.1 hb6)
            have HS := fun (y : ByteArray) (sv : Value) => Aside0.mk (set_call (y := y) (sv := sv) (below_step (w := w) HB2.out hb6) hE h0 (by rw [h1]; rfl))
            clear q0 q1 hb6
            rcases hE with ⟨e1, e2, rfl⟩ | ⟨e1, h, rfl, e3, e4⟩
            · go_wp2_with (fail)
              have hlm : (r.map mkB).length = N - 1 := by rw [List.length_map]; omega
              have HRR : ((mkB x, r.map mkB), okB) = res := by rw [← HR.out, if_pos e1]
              refine bodyPost_ret (res_call Tryz.results10 _ _ w.heap.size _ _ _ rfl rfl (HS (mkB x) (.slice a (N - 1) c)).out.2.2.1 (HS (mkB x) (.slice a (N - 1) c)).out.2.2.2) rfl ⟨_, _, rfl, ?_, by rw [← HRR]; exact .inl ⟨rfl, rfl, rfl⟩, (HS (mkB x) (.slice a (N - 1) c)).out.2.1⟩
              rw [← HRR]
              refine ⟨_, rfl, ?_⟩
              show World.ownsRow _ w.heap.size _ 1 _ (r.map mkB).length _
              rw [hlm]
              exact own_le (ownsRow_setCell_below (ownsRow_setCell_below HOW.out (a := ⟨w.heap.size, 0, none⟩) (Nat.lt_succ_self _) _) (a := ⟨w.heap.size, 1, none⟩) (Nat.lt_succ_self _) _) (Nat.le_succ _)
            · go_wp2_with (fail)
              have HRR : (noC, checkF (mkB x) (r.map mkB)) = res := by rw [← HR.out, if_neg (by omega)]
              exact bodyPost_ret (res_call Tryz.results10 _ _ w.heap.size _ _ _ rfl rfl (HS ⟨#[]⟩ (.slice none 0 0)).out.2.2.1 (HS ⟨#[]⟩ (.slice none 0 0)).out.2.2.2) rfl ⟨_, _, rfl, by rw [← HRR]; exact RC.none _ _, by rw [← HRR]; exact (HS ⟨#[]⟩ (.slice none 0 0)).out.1, (HS ⟨#[]⟩ (.slice none 0 0)).out.2.1⟩
theorem read_calls (s : ByteArray) (w : World) (hG : GS w) (hT : GT w) (hM : GM w) : Calls Tryz.prog 10 #[.string s] w fun e w' => ∃ cv ev, e = .returned (.tuple #[cv, ev]) ∧ RC w.heap.size w' (readF s).1 cv ∧ EA w' ev (readF s).2 ∧ Below w.heap.size w w' := by
  by_cases h1 : 262144 < s.size
  · have : readF s = (noC, (4, ⟨#[]⟩, 0)) := by unfold readF; rw [if_pos h1]
    rw [this]
    exact read_long s w h1
  · cases h2 : overF (tl s)
    · exact read_main s w (by omega) h2 hG hT hM
    · have : readF s = (noC, (300, ⟨#[]⟩, 0)) := by unfold readF; rw [if_neg h1, if_pos h2]
      rw [this]
      exact read_over s w (by omega) h2
end Go.Proofs.YtopcidphlleciaaGreatDoor.S

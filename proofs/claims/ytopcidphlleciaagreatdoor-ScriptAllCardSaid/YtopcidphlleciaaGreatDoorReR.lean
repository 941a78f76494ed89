/- The document's Read. -/
import Derived.Test.YtopcidphlleciaaGreatDoorReP
import Derived.Test.YtopcidphlleciaaGreatDoorReK
import Derived.Test.YtopcidphlleciaaGreatDoorProN
namespace Go.Proofs.YtopcidphlleciaaGreatDoor.S
open Go.RowKit Go.Extern.Stop Go.Stop Go.Extern Go.Proofs.YtopcidphlleciaaGreatDoorW.PrintWords Go.Proofs.YtopcidphlleciaaGreatDoorW.PrintLast Go.Proofs.YtopcidphlleciaaGreatDoorW.PrintMore
set_option linter.unusedVariables false
set_option linter.unusedSimpArgs false
theorem res_two {fn : Func} {p q : Tmp} (h : fn.results = #[.cell p 25, .cell q 31]) (tmps : Array Value) (W : World) (g k : Nat) (c0 c1 d0 d1 d2 : Value) (hp : tmps.getD p undef = .pointer (some ⟨g, 0, none⟩)) (hq : tmps.getD q undef = .pointer (some ⟨k, 0, none⟩)) (h0 : W.cell? ⟨g, 0, none⟩ = some c0) (h1 : W.cell? ⟨g, 1, none⟩ = some c1) (k0 : W.cell? ⟨k, 0, none⟩ = some d0) (k1 : W.cell? ⟨k, 1, none⟩ = some d1) (k2 : W.cell? ⟨k, 2, none⟩ = some d2) :
    (results fn tmps).run Tryz.prog W = .ok (.tuple #[.agg #[c0, c1], .agg #[d0, d1, d2]]) W := by
  have hp' : tmps[p]?.getD undef = .pointer (some ⟨g, 0, none⟩) := by simpa using hp
  have hq' : tmps[q]?.getD undef = .pointer (some ⟨k, 0, none⟩) := by simpa using hq
  simp [results, h, hp', hq', asAddr, load_call W g c0 c1 h0 h1, load_bad W k d0 d1 d2 k0 k1 k2, Result.andThen]
/-- Both results stored. -/
theorem set_two {w w6 : World} {x y a b c : Value} (hB : Below w.heap.size w w6) (h0 : (w6.cell? ⟨w.heap.size, 0, none⟩).isSome = true) (h1 : (w6.cell? ⟨w.heap.size, 1, none⟩).isSome = true) (k0 : (w6.cell? ⟨w.heap.size + 1, 0, none⟩).isSome = true) (k1 : (w6.cell? ⟨w.heap.size + 1, 1, none⟩).isSome = true) (k2 : (w6.cell? ⟨w.heap.size + 1, 2, none⟩).isSome = true) :
    Below w.heap.size w (((((w6.setCell ⟨w.heap.size, 0, none⟩ x).setCell ⟨w.heap.size, 1, none⟩ y).setCell ⟨w.heap.size + 1, 0, none⟩ a).setCell ⟨w.heap.size + 1, 1, none⟩ b).setCell ⟨w.heap.size + 1, 2, none⟩ c) ∧ (((((w6.setCell ⟨w.heap.size, 0, none⟩ x).setCell ⟨w.heap.size, 1, none⟩ y).setCell ⟨w.heap.size + 1, 0, none⟩ a).setCell ⟨w.heap.size + 1, 1, none⟩ b).setCell ⟨w.heap.size + 1, 2, none⟩ c).cell? ⟨w.heap.size, 0, none⟩ = some x ∧ (((((w6.setCell ⟨w.heap.size, 0, none⟩ x).setCell ⟨w.heap.size, 1, none⟩ y).setCell ⟨w.heap.size + 1, 0, none⟩ a).setCell ⟨w.heap.size + 1, 1, none⟩ b).setCell ⟨w.heap.size + 1, 2, none⟩ c).cell? ⟨w.heap.size, 1, none⟩ = some y ∧ (((((w6.setCell ⟨w.heap.size, 0, none⟩ x).setCell ⟨w.heap.size, 1, none⟩ y).setCell ⟨w.heap.size + 1, 0, none⟩ a).setCell ⟨w.heap.size + 1, 1, none⟩ b).setCell ⟨w.heap.size + 1, 2, none⟩ c).cell? ⟨w.heap.size + 1, 0, none⟩ = some a ∧ (((((w6.setCell ⟨w.heap.size, 0, none⟩ x).setCell ⟨w.heap.size, 1, none⟩ y).setCell ⟨w.heap.size + 1, 0, none⟩ a).setCell ⟨w.heap.size + 1, 1, none⟩ b).setCell ⟨w.heap.size + 1, 2, none⟩ c).cell? ⟨w.heap.size + 1, 1, none⟩ = some b ∧ (((((w6.setCell ⟨w.heap.size, 0, none⟩ x).setCell ⟨w.heap.size, 1, none⟩ y).setCell ⟨w.heap.size + 1, 0, none⟩ a).setCell ⟨w.heap.size + 1, 1, none⟩ b).setCell ⟨w.heap.size + 1, 2, none⟩ c).cell? ⟨w.heap.size + 1, 2, none⟩ = some c := by
  have hx : ∀ (W : World) (g i j : Nat) (v : Value), i ≠ j → (W.setCell ⟨g, i, none⟩ v).cell? ⟨g, j, none⟩ = W.cell? ⟨g, j, none⟩ := fun W g i j v h => World.cell?_setCell_other (h := fun q => by injection q with _ q; exact h q) ..
  have hy : ∀ (W : World) (i j : Nat) (v : Value), (W.setCell ⟨w.heap.size + 1, i, none⟩ v).cell? ⟨w.heap.size, j, none⟩ = W.cell? ⟨w.heap.size, j, none⟩ := fun W i j v => World.cell?_setCell_other (h := fun q => by injection q with q; omega) ..
  have hz : ∀ (W : World) (i j : Nat) (v : Value), (W.setCell ⟨w.heap.size, i, none⟩ v).cell? ⟨w.heap.size + 1, j, none⟩ = W.cell? ⟨w.heap.size + 1, j, none⟩ := fun W i j v => World.cell?_setCell_other (h := fun q => by injection q with q; omega) ..
  have hl := Nat.le_refl w.heap.size
  have hs := Nat.le_succ w.heap.size
  refine ⟨((((hB.setCell hl _).setCell hl _).setCell hs _).setCell hs _).setCell hs _, ?_, ?_, ?_, ?_, ?_⟩
  · rw [hy, hy, hy, hx _ _ _ _ _ (by omega), World.cell?_setCell_same' _ _ _ h0]
  · rw [hy, hy, hy, World.cell?_setCell_same' _ _ _ (by rw [hx _ _ _ _ _ (by omega)]; exact h1)]
  · rw [hx _ _ _ _ _ (by omega), hx _ _ _ _ _ (by omega), World.cell?_setCell_same' _ _ _ (by rw [hz, hz]; exact k0)]
  · rw [hx _ _ _ _ _ (by omega), World.cell?_setCell_same' _ _ _ (by rw [hx _ _ _ _ _ (by omega), hz, hz]; exact k1)]
  · rw [World.cell?_setCell_same' _ _ _ (by rw [hx _ _ _ _ _ (by omega), hx _ _ _ _ _ (by omega), hz, hz]; exact k2)]
/-- What the document's Read leaves. -/
def RR (B : Nat) (w' : World) (c : Cl) (v : Value) : Prop := ∃ a k, v = .agg #[.string c.1, .slice a c.2.length k] ∧ LSt w' a c.2.length c.2 ∧ (0 < c.2.length → ∃ g o, a = some ⟨g, o, none⟩ ∧ B ≤ g)
theorem RR.zero (B : Nat) (w : World) : RR B w noC (.agg #[.string ⟨#[]⟩, .slice none 0 0]) := ⟨Option.none, 0, rfl, ⟨rfl, by decide, fun h => absurd h (by decide), fun k h => by cases h⟩, fun h => absurd h (by decide)⟩
set_option maxHeartbeats 16000000 in
theorem rread_long (s : ByteArray) (w : World) (hs : 262144 < s.size) : Calls Tryz.prog 11 #[.string s] w fun e w' => ∃ cv, e = .returned (.tuple #[cv, bV (4, ⟨#[]⟩, 0)]) ∧ RR w.heap.size w' noC cv ∧ Below w.heap.size w w' := by
  have hs' : (262144 : Int) < (s.size : Int) := by omega
  clear hs
  unfold bV
  go_enter Tryz.func11, Tryz.ntmps11
  go_wp2_with (fail)
  exact bodyPost_ret (res_two Tryz.results11 _ _ w.heap.size (w.heap.size + 1) _ _ _ _ _ rfl rfl (by simp) (by simp) (by simp) (by simp) (by simp)) rfl ⟨_, rfl, RR.zero _ _, ((Below.refl _ _).alloc (Nat.le_refl _) _).alloc (by simp) _⟩
set_option maxHeartbeats 16000000 in
theorem rread_over (s : ByteArray) (w : World) (hs : s.size ≤ 262144) (ho : overF (tl s) = true) : Calls Tryz.prog 11 #[.string s] w fun e w' => ∃ cv, e = .returned (.tuple #[cv, bV (300, ⟨#[]⟩, 0)]) ∧ RR w.heap.size w' noC cv ∧ Below w.heap.size w w' := by
  have hs' : ¬ (262144 : Int) < (s.size : Int) := by omega
  have HO : Aside0 (∀ W, Calls Tryz.prog 32 #[.string s] W fun e w' => e = .returned (.bool true) ∧ W = w') := ⟨fun W => by have := rover_calls s W; rw [ho] at this; exact this⟩
  clear hs ho
  unfold bV
  go_enter Tryz.func11, Tryz.ntmps11
  go_wp2_with (fail)
  refine (HO.out _).mono ?_
  rintro e w5 ⟨rfl, rfl⟩
  go_wp2_with (fail)
  exact bodyPost_ret (res_two Tryz.results11 _ _ w.heap.size (w.heap.size + 1) _ _ _ _ _ rfl rfl (by simp) (by simp) (by simp) (by simp) (by simp)) rfl ⟨_, rfl, RR.zero _ _, ((Below.refl _ _).alloc (Nat.le_refl _) _).alloc (by simp) _⟩
theorem cell_drew (W : World) (p : Addr) : W.drew.cell? p = W.cell? p := rfl
theorem so2 {W : World} {h g i : Nat} {x : Value} (hg : h ≠ g) (u v : Value) (hc : W.cell? ⟨g, i, none⟩ = some x) : ((W.setCell ⟨h, 0, none⟩ u).setCell ⟨h, 1, none⟩ v).cell? ⟨g, i, none⟩ = some x := by
  have hx : ∀ (W : World) (j : Nat) (v : Value), (W.setCell ⟨h, j, none⟩ v).cell? ⟨g, i, none⟩ = W.cell? ⟨g, i, none⟩ := fun W j v => World.cell?_setCell_other (h := fun q => by injection q with q; exact hg q) ..
  rw [hx, hx, hc]
theorem so3 {W : World} {h g i : Nat} {x : Value} (hg : h ≠ g) (u v z : Value) (hc : W.cell? ⟨g, i, none⟩ = some x) : (((W.setCell ⟨h, 0, none⟩ u).setCell ⟨h, 1, none⟩ v).setCell ⟨h, 2, none⟩ z).cell? ⟨g, i, none⟩ = some x := by
  have hx : ∀ (W : World) (j : Nat) (v : Value), (W.setCell ⟨h, j, none⟩ v).cell? ⟨g, i, none⟩ = W.cell? ⟨g, i, none⟩ := fun W j v => World.cell?_setCell_other (h := fun q => by injection q with q; exact hg q) ..
  rw [hx, hx, hx, hc]
theorem lst_set {W : World} {g o b i n : Nat} {v : Value} {l : List ByteArray} (hne : g ≠ b) (h : LSt W (some ⟨g, o, none⟩) n l) : LSt (W.setCell ⟨b, i, none⟩ v) (some ⟨g, o, none⟩) n l := by
  obtain ⟨h1, h2, h3, h4⟩ := h
  refine ⟨h1, h2, fun hn => ?_, h4⟩
  obtain ⟨g', o', e, hc⟩ := h3 hn
  injection e with e
  injection e with e1 e2 _
  subst e1 e2
  refine ⟨g, o, rfl, fun j hj => ?_⟩
  rw [← hc j hj]
  exact World.cell?_setCell_other (h := fun q => by injection q with q; exact hne q.symm) ..
theorem tl_extract (s : ByteArray) (a b : Nat) : tl (s.extract a b) = ((tl s).take b).drop a := by
  show (s.extract a b).data.toList = _
  rw [ByteArray.data_extract, Array.toList_extract, List.extract_eq_take_drop, List.drop_take]
/-- The piece that ends here. -/
theorem piece_end {s : ByteArray} {a i : Nat} (ha : a ≤ i) (hi : i ≤ s.size) : (tl s).drop a = tl (s.extract a i) ++ (tl s).drop i := by
  have h := List.take_append_drop (i - a) ((tl s).drop a)
  rw [List.drop_drop, show a + (i - a) = i by omega] at h
  rw [tl_extract, List.drop_take]
  exact h.symm
set_option maxHeartbeats 32000000 in
set_option maxRecDepth 100000 in
theorem rread_main (s : ByteArray) (w : World) (hs : s.size ≤ 262144) (ho : overF (tl s) = false) : Calls Tryz.prog 11 #[.string s] w fun e w' => ∃ cv, e = .returned (.tuple #[cv, bV (readF s).2]) ∧ RR w.heap.size w' (readF s).1 cv ∧ Below w.heap.size w w' := by
  obtain ⟨i0, hi0, hz0, hz1, hz2⟩ := info_parts info9
  have hs' : ¬ (262144 : Int) < (s.size : Int) := by omega
  have HO : Aside0 (∀ W, Calls Tryz.prog 32 #[.string s] W fun e w' => e = .returned (.bool false) ∧ W = w') := ⟨fun W => by have := rover_calls s W; rw [ho] at this; exact this⟩
  obtain ⟨P, hP⟩ : ∃ P, spl 32 (tl s) = P := ⟨_, rfl⟩
  have HL : Aside0 ((tl s).length = s.size) := ⟨Array.length_toList⟩
  obtain ⟨res, hres⟩ : ∃ r, readF s = r := ⟨_, rfl⟩
  rw [hres]
  have HRB : Aside0 (∀ k, prs 0 P = .inl k → (noC, (300, (⟨#[]⟩ : ByteArray), (k : Int))) = res) := ⟨fun k h => by rw [← hres]; unfold readF; rw [if_neg (show ¬ 262144 < s.size by omega), ho, if_neg (show ¬ false = true by decide), hP, h]⟩
  have HRO : Aside0 (∀ a r, prs 0 P = .inr (a :: r) → (if (checkF (mkB a) (r.map mkB)).1 = 0 then ((mkB a, r.map mkB), okB) else (noC, checkF (mkB a) (r.map mkB))) = res) := ⟨fun a r h => by rw [← hres]; unfold readF; rw [if_neg (show ¬ 262144 < s.size by omega), ho, if_neg (show ¬ false = true by decide), hP, h]⟩
  have HSM : Aside0 (∀ W, prs 0 P = .inr W → ∀ a ∈ W, a.length ≤ s.size) := ⟨fun W h a ha => by rw [← hP] at h; have := prs_small h a ha; rw [HL.out] at this; exact this⟩
  have HNE : Aside0 (prs 0 P ≠ .inr []) := ⟨fun q => by
    have h1 := prs_inv _ _ q
    obtain ⟨x, y, h⟩ := spl_cons 32 (tl s)
    rw [← hP, h] at h1
    cases h1⟩
  have HP := Aside0.mk hP
  clear ho hP hres
  go_enter Tryz.func11, Tryz.ntmps11
  go_wp2_with (fail)
  refine (HO.out _).mono ?_
  rintro e w5 ⟨rfl, rfl⟩
  go_wp2_with (fail)
  go_loopw [4, 5, 6, 7, 8, 9] (fun v4 v5 v6 v7 v8 v9 wr => ∃ (i a : Nat) (acc : List BL), i ≤ s.size + 1 ∧ a ≤ i ∧ v6 = .int .i64 i ∧ v5 = .int .i64 a ∧ acc.length ≤ i ∧ wr.ownsRow (w.heap.size + 2) 9 1 v4 acc.length (acc.map encS) ∧ Aside0 (Below ((w.alloc (.cells #[.string ⟨#[]⟩, .slice none 0 0] 25)).alloc (.cells #[.int .i64 0, .string ⟨#[]⟩, .int .i64 0] 31)).heap.size ((w.alloc (.cells #[.string ⟨#[]⟩, .slice none 0 0] 25)).alloc (.cells #[.int .i64 0, .string ⟨#[]⟩, .int .i64 0] 31)) wr ∧ (i ≤ s.size → prs 0 P = pre acc (prs a (spl 32 ((tl s).drop a))) ∧ ∀ b ∈ tl (s.extract a i), b ≠ 32) ∧ (i = s.size + 1 → prs 0 P = .inr acc))) (fun _ _ v6 _ _ _ _ => s.size + 1 - (intOf v6).toNat)
  case atStart => exact ⟨0, 0, [], Nat.zero_le _, Nat.le_refl _, rfl, rfl, Nat.le_refl _, World.ownsRow_nil _ _ _ _, ⟨Below.refl _ _, fun _ => ⟨by rw [pre_nil, List.drop_zero, HP.out], fun b hb => by rw [tl_extract, List.take_zero] at hb; cases hb⟩, fun h => by omega⟩⟩
  case round =>
    obtain ⟨i, a, acc, hi, ha, rfl, rfl, hacc, hrow, HX⟩ := hrel
    have HB : Aside0 (Below w.heap.size w wr) := ⟨below_step (w := w) (((Below.refl _ _).alloc (Nat.le_refl _) _).alloc (by simp) _) HX.out.1⟩
    have c0 : wr.cell? ⟨w.heap.size, 0, none⟩ = some (.string ⟨#[]⟩) := pw_cell_below HX.out.1 (by simp)
    have c1 : wr.cell? ⟨w.heap.size, 1, none⟩ = some (.slice none 0 0) := pw_cell_below HX.out.1 (by simp)
    have r0 : wr.cell? ⟨w.heap.size + 1, 0, none⟩ = some (.int .i64 0) := pw_cell_below HX.out.1 (by simp)
    have r1 : wr.cell? ⟨w.heap.size + 1, 1, none⟩ = some (.string ⟨#[]⟩) := pw_cell_below HX.out.1 (by simp)
    have r2 : wr.cell? ⟨w.heap.size + 1, 2, none⟩ = some (.int .i64 0) := pw_cell_below HX.out.1 (by simp)
    have HFR : Aside0 (∀ k j, k < w.heap.size + 2 → w.heap.size ≤ k → wr.frozen? ⟨k, j, none⟩ = false) := ⟨fun k j h1 h2 => (HX.out.1.frozen (p := ⟨k, j, none⟩) (by simp; omega)).trans (by
      rcases (show k = w.heap.size ∨ k = w.heap.size + 1 by omega) with rfl | rfl <;> simp)⟩
    by_cases h1 : i ≤ s.size
    · have h1' : (i : Int) ≤ (s.size : Int) := by omega
      obtain ⟨hpr, hno⟩ := HX.out.2.1 h1
      by_cases h2 : ∃ h : i < s.size, s[i] ≠ 32
      · obtain ⟨hlt, hc⟩ := h2
        have hlt' : (i : Int) < (s.size : Int) := by omega
        have h0' : (0 : Int) ≤ (i : Int) := by omega
        obtain ⟨b, hb⟩ : ∃ b, s[i]'hlt = b := ⟨_, rfl⟩
        rw [hb] at hc
        have hc' : ((b.toNat : Int) != 32) = true := by
          rw [bne_iff_ne]
          exact fun q => hc (UInt8.toNat_inj.1 (by show b.toNat = 32; omega))
        have HN : Aside0 (∀ x ∈ tl (s.extract a (i + 1)), x ≠ 32) := ⟨fun x hx => by
          have e : tl (s.extract a (i + 1)) = tl (s.extract a i) ++ [b] := by
            rw [tl_extract, tl_extract, List.take_succ_eq_append_getElem (by rw [HL.out]; exact hlt), List.drop_append_of_le_length (by rw [List.length_take, HL.out]; omega)]
            exact congrArg (fun z => _ ++ [z]) hb
          rw [e] at hx
          rcases List.mem_append.1 hx with h | h
          · exact hno x h
          · rw [List.mem_singleton] at h; rw [h]; exact hc⟩
        have HPR := Aside0.mk hpr
        clear hc hpr hno h1
        go_wp2_with (fail)
        all_goals exact ⟨⟨i + 1, a, acc, by omega, by omega, by simp, rfl, by omega, hrow, ⟨HX.out.1, fun _ => ⟨HPR.out, HN.out⟩, fun q => by omega⟩⟩, by simp [intOf]; omega⟩
      · have hpz : tl (s.extract a i) = tl (s.extract a i) := rfl
        obtain ⟨p, hp⟩ : ∃ p, s.extract a i = p := ⟨_, rfl⟩
        have hpl : p.size + a = i := by rw [← hp, ByteArray.size_extract]; omega
        have HSL : Aside0 (i < s.size → spl 32 ((tl s).drop a) = tl p :: spl 32 ((tl s).drop (i + 1))) := ⟨fun hlt => by
          have hc : s[i] = 32 := by
            rcases Decidable.em (s[i] = 32) with q | q
            · exact q
            · exact absurd ⟨hlt, q⟩ h2
          rw [piece_end ha h1, drop_byte s i hlt, hc, hp]
          exact spl_hit _ (by rw [← hp]; exact hno)⟩
        have HSE : Aside0 (i = s.size → spl 32 ((tl s).drop a) = [tl p]) := ⟨fun q => by
          rw [piece_end ha h1, drop_fin s i (by omega), hp, List.append_nil]
          exact spl_none (by rw [← hp]; exact hno)⟩
        have HPR := Aside0.mk hpr
        have hsl : ∀ W, (Instr.slice 9 (.string s) (some (.int .i64 (a : Int))) (some (.int .i64 (i : Int))) none).run Tryz.prog W = .ok (.string p) W := fun W => by
          have := run_slice_string (P := Tryz.prog) W 9 s .i64 .i64 (a : Int) (i : Int) Tryz.underlying9 (by omega) (by omega) (by omega)
          rw [this, ← hp]
          rfl
        have HU : Aside0 (∀ W, Calls Tryz.prog 33 #[.string p] W fun e w' => e = .returned (unwV (unw (tl p))) ∧ Below W.heap.size W w') := ⟨fun W => runwrite_calls p W (by omega)⟩
        have hk := unw_k (tl p)
        rw [show (tl p).length = p.size from Array.length_toList] at hk
        have HPL : Aside0 ((tl p).length = p.size) := ⟨Array.length_toList⟩
        rcases hu : unw (tl p) with ⟨arg, k, ok⟩
        rw [hu] at HU hk
        have hk : k ≤ p.size := hk
        unfold unwV at HU
        have h0' : (0 : Int) ≤ (i : Int) := by omega
        have HCND : Aside0 (∀ (Q : Prop), (i < s.size → (∀ hlt : i < s.size, s[i] = 32) → Q) → (i = s.size → Q) → Q) := ⟨fun Q q1 q2 => by
          rcases Nat.lt_or_ge i s.size with hlt | hge
          · refine q1 hlt (fun hlt => ?_)
            rcases Decidable.em (s[i] = 32) with q | q
            · exact q
            · exact absurd ⟨hlt, q⟩ h2
          · exact q2 (by omega)⟩
        clear hpr hno h2 hp hpz
        refine HCND.out _ (fun hlt hc32 => ?_) (fun heq => ?_)
        case' refine_1 =>
          have hlt' : (i : Int) < (s.size : Int) := by omega
          have hb32 := hc32 hlt
          have HSP := Aside0.mk (HSL.out hlt)
          clear hc32
        case' refine_2 =>
          have hlt' : ¬ (i : Int) < (s.size : Int) := by omega
          have HSP := Aside0.mk (HSE.out heq)
          have HEQ := Aside0.mk heq
          clear heq
        all_goals
          cases ok
          case false =>
            have HR := Aside0.mk (HRB.out (a + k) (by rw [HPR.out, HSP.out, prs_bad hu]; rfl))
            clear hu
            go_wp2_with (fail)
            refine (HU.out _).mono ?_
            rintro e w5 ⟨rfl, hb5⟩
            have d0 := pw_cell_below hb5 c0
            have d1 := pw_cell_below hb5 c1
            have q0 := pw_cell_below hb5 r0
            have q1 := pw_cell_below hb5 r1
            have q2 := pw_cell_below hb5 r2
            have hzw : w.heap.size + 1 < wr.heap.size := World.block_lt_of_cell? _ _ r0
            have y0 : w5.frozen? ⟨w.heap.size, 0, none⟩ = false := (hb5.frozen (p := ⟨w.heap.size, 0, none⟩) (show w.heap.size < wr.heap.size by omega)).trans (HFR.out _ _ (by omega) (by omega))
            have y1 : w5.frozen? ⟨w.heap.size, 1, none⟩ = false := (hb5.frozen (p := ⟨w.heap.size, 1, none⟩) (show w.heap.size < wr.heap.size by omega)).trans (HFR.out _ _ (by omega) (by omega))
            have y2 : w5.frozen? ⟨w.heap.size + 1, 0, none⟩ = false := (hb5.frozen (p := ⟨w.heap.size + 1, 0, none⟩) hzw).trans (HFR.out _ _ (by omega) (by omega))
            have y3 : w5.frozen? ⟨w.heap.size + 1, 1, none⟩ = false := (hb5.frozen (p := ⟨w.heap.size + 1, 1, none⟩) hzw).trans (HFR.out _ _ (by omega) (by omega))
            have y4 : w5.frozen? ⟨w.heap.size + 1, 2, none⟩ = false := (hb5.frozen (p := ⟨w.heap.size + 1, 2, none⟩) hzw).trans (HFR.out _ _ (by omega) (by omega))
            have hn5 : w.heap.size ≠ w.heap.size + 1 := by omega
            have HS := Aside0.mk (set_two (w := w) (w6 := w5) (x := .string ⟨#[]⟩) (y := .slice none 0 0) (a := .int .i64 300) (b := .string ⟨#[]⟩) (c := .int .i64 ((a : Int) + (k : Int))) (below_step (w := w) HB.out hb5) (by rw [d0]; rfl) (by rw [d1]; rfl) (by rw [q0]; rfl) (by rw [q1]; rfl) (by rw [q2]; rfl))
            clear hb5 c0 c1 r0 r1 r2
            go_wp2_with (fail)
            exact bodyPost_ret (res_two Tryz.results11 _ _ w.heap.size (w.heap.size + 1) _ _ _ _ _ rfl rfl HS.out.2.1 HS.out.2.2.1 HS.out.2.2.2.1 HS.out.2.2.2.2.1 HS.out.2.2.2.2.2) rfl ⟨_, by rw [← HR.out]; rfl, by rw [← HR.out]; exact RR.zero _ _, HS.out.1⟩
          case true =>
            have HST : Aside0 (∀ r, prs a (tl p :: r) = pre [arg] (prs (i + 1) r)) := ⟨fun r => by rw [prs_ok hu, HPL.out, show a + p.size + 1 = i + 1 by omega]⟩
            clear hu
            go_wp2_with (fail)
            refine (HU.out _).mono ?_
            rintro e w5 ⟨rfl, hb5⟩
            have HB5 := Aside0.mk hb5
            have hrow5 := own_below hrow hb5
            have hz5 := hb5.size
            have hzw : w.heap.size + 1 < wr.heap.size := World.block_lt_of_cell? _ _ r0
            clear hb5 c0 c1 r0 r1 r2
            go_wp2_with (first
              | (at_builtin; refine wpList_append_own _ rfl _ _ 23 rfl (w.heap.size + 2) 9 i0 (.string ByteArray.empty) 1 16 Tryz.underlying23 hi0 hz0 hz1 hz2 rfl (by decide) _ _ _ rfl (hrow5.alloc _) ⟨w5.heap.size, 0, none⟩ 1 1 [encS arg] rfl rfl (cell_one_new _ _ _) (by simp [Value.oneCell', encS]) (by unfold maxLen; omega) (by omega) (by simp; omega) ?_; intro v' w3 hown' hg3 hnil3)
              | go_in)
            all_goals
              have HBL : Aside0 (Below ((w.alloc (.cells #[.string ⟨#[]⟩, .slice none 0 0] 25)).alloc (.cells #[.int .i64 0, .string ⟨#[]⟩, .int .i64 0] 31)).heap.size ((w.alloc (.cells #[.string ⟨#[]⟩, .slice none 0 0] 25)).alloc (.cells #[.int .i64 0, .string ⟨#[]⟩, .int .i64 0] 31)) w3) := ⟨((below_step HX.out.1 HB5.out).alloc (by simp; omega) _).grown hg3 (by simp; omega) (fun j hj => by have := (hrow5.lt j hj).1; simpa using this)⟩
              have HEX : Aside0 (∀ b ∈ tl (s.extract (i + 1) (i + 1)), b ≠ 32) := ⟨fun b hb => by
                rw [tl_extract, List.drop_of_length_le (by rw [List.length_take]; omega)] at hb
                cases hb⟩
              first
                | exact ⟨⟨i + 1, i + 1, acc ++ [arg], by omega, by omega, by simp, by simp, by simp; omega, by simpa using hown', ⟨HBL.out, fun _ => ⟨by rw [HPR.out, HSP.out, HST.out, pre_pre], HEX.out⟩, fun q => by exfalso; omega⟩⟩, by simp [intOf]; omega⟩
                | exact ⟨⟨i + 1, i + 1, acc ++ [arg], by omega, by omega, by simp, by simp, by simp; omega, by simpa using hown', ⟨HBL.out, fun q => by have := HEQ.out; exfalso; omega, fun _ => by rw [HPR.out, HSP.out, HST.out, pre_pre, prs]; show Sum.inr ((acc ++ [arg]) ++ []) = _; rw [List.append_nil]⟩⟩, by simp [intOf]; omega⟩
    · have h1' : ¬ (i : Int) ≤ (s.size : Int) := by omega
      obtain rfl : i = s.size + 1 := by omega
      have HE := Aside0.mk (HX.out.2.2 rfl)
      match acc, hacc, hrow, HE with
      | [], _, _, HE => exact absurd HE.out HNE.out
      | x :: r, hacc, hrow, HE =>
        have HR := Aside0.mk (HRO.out x r HE.out)
        have HSZ := Aside0.mk (HSM.out _ HE.out)
        rcases hrow.2 with ⟨_, h0⟩ | ⟨g, cap, cur, rfl, hgb, hgc, hcap, hcm, _, _⟩
        · simp at h0
        · have hz0 : wr.cell? ⟨g, 0, none⟩ = some (.string (mkB x)) := by
            have := hrow.cells (g := g) rfl 0 (encS x) rfl
            rw [Addr.add_mid] at this
            exact this
          have HCC : Aside0 (∀ j (h : j < r.length), wr.cell? ⟨g, 1 + j, none⟩ = some (.string (mkB r[j]))) := ⟨fun j h => by
            have := hrow.cells (g := g) rfl (j + 1) (encS r[j]) (by simp [h])
            rw [Addr.add_mid, Nat.zero_add, Nat.add_comm] at this
            exact this⟩
          obtain ⟨N, hNl⟩ : ∃ N, (x :: r).length = N := ⟨_, rfl⟩
          rw [hNl] at hcap hacc
          rw [hNl]
          have hrl : r.length + 1 = N := by simpa using hNl
          have hN1 : 1 ≤ N := by omega
          obtain ⟨off, hsl, hoff⟩ := slice_tail g N cap hN1 hcap
          have hN1' : (0 : Int) < (N : Int) := by omega
          have hN0 : 0 < N := hN1
          have hgw : g < wr.heap.size := World.block_lt_of_cell? _ _ hz0
          have hgn : g ≠ wr.heap.size := Nat.ne_of_lt hgw
          have hzw : w.heap.size + 1 < wr.heap.size := World.block_lt_of_cell? _ _ r0
          have HC01 := Aside0.mk (And.intro c0 (And.intro c1 (And.intro r0 (And.intro r1 r2))))
          clear hrow hgc HX c0 c1 r0 r1 r2
          go_wp2_with (fail)
          go_region
          go_wp2_with (fail)
          have HB3 : Aside0 (Below wr.heap.size wr (wr.alloc (.cells #[.string (mkB x), .slice (some ⟨g, off, none⟩) (N - 1) (cap - 1)] 25)).drew) := ⟨below_drew1 ((Below.refl _ _).alloc (Nat.le_refl _) _)⟩
          have HLS : Aside0 (LSt (wr.alloc (.cells #[.string (mkB x), .slice (some ⟨g, off, none⟩) (N - 1) (cap - 1)] 25)).drew (some ⟨g, off, none⟩) (N - 1) (r.map mkB)) := ⟨by rw [List.length_map]; omega, by omega, fun h0 => ⟨g, off, rfl, fun j hj => by
            rw [List.length_map] at hj
            rw [show (⟨g, off + j, Option.none⟩ : Addr) = ⟨g, 1 + j, Option.none⟩ by rw [hoff (by omega)]]
            simp only [List.getElem_map]
            exact pw_cell_below HB3.out (HCC.out j hj)⟩, fun k hk => by
              obtain ⟨y, hy, rfl⟩ := List.mem_map.1 hk
              rw [mkB_size]
              have := HSZ.out y (by simp [hy])
              omega⟩
          refine (rcheck_calls (mkB x) (r.map mkB) (some ⟨g, off, none⟩) (N - 1) (cap - 1) _ HLS.out).mono ?_
          rintro e w6 ⟨rfl, hb6⟩
          have HB6 : Aside0 (Below w.heap.size w w6) := ⟨below_step (w := w) (below_step (w := w) HB.out HB3.out) hb6⟩
          have HL6 := Aside0.mk (HLS.out.below hb6)
          have d0 := pw_cell_below hb6 (pw_cell_below HB3.out HC01.out.1)
          have d1 := pw_cell_below hb6 (pw_cell_below HB3.out HC01.out.2.1)
          have q0 := pw_cell_below hb6 (pw_cell_below HB3.out HC01.out.2.2.1)
          have q1 := pw_cell_below hb6 (pw_cell_below HB3.out HC01.out.2.2.2.1)
          have q2 := pw_cell_below hb6 (pw_cell_below HB3.out HC01.out.2.2.2.2)
          have k0 : w6.cell? ⟨wr.heap.size, 0, none⟩ = some (.string (mkB x)) := pw_cell_below hb6 (by simp)
          have k1 : w6.cell? ⟨wr.heap.size, 1, none⟩ = some (.slice (some ⟨g, off, none⟩) (N - 1) (cap - 1)) := pw_cell_below hb6 (by simp)
          have y0 : w6.frozen? ⟨w.heap.size, 0, none⟩ = false := (hb6.frozen (p := ⟨w.heap.size, 0, none⟩) (show w.heap.size < _ by simp; omega)).trans ((HB3.out.frozen (p := ⟨w.heap.size, 0, none⟩) (show w.heap.size < wr.heap.size by omega)).trans (HFR.out _ _ (by omega) (by omega)))
          have y1 : w6.frozen? ⟨w.heap.size, 1, none⟩ = false := (hb6.frozen (p := ⟨w.heap.size, 1, none⟩) (show w.heap.size < _ by simp; omega)).trans ((HB3.out.frozen (p := ⟨w.heap.size, 1, none⟩) (show w.heap.size < wr.heap.size by omega)).trans (HFR.out _ _ (by omega) (by omega)))
          have y2 : w6.frozen? ⟨w.heap.size + 1, 0, none⟩ = false := (hb6.frozen (p := ⟨w.heap.size + 1, 0, none⟩) (show w.heap.size + 1 < _ by simp; omega)).trans ((HB3.out.frozen (p := ⟨w.heap.size + 1, 0, none⟩) (show w.heap.size + 1 < wr.heap.size by omega)).trans (HFR.out _ _ (by omega) (by omega)))
          have y3 : w6.frozen? ⟨w.heap.size + 1, 1, none⟩ = false := (hb6.frozen (p := ⟨w.heap.size + 1, 1, none⟩) (show w.heap.size + 1 < _ by simp; omega)).trans ((HB3.out.frozen (p := ⟨w.heap.size + 1, 1, none⟩) (show w.heap.size + 1 < wr.heap.size by omega)).trans (HFR.out _ _ (by omega) (by omega)))
          have y4 : w6.frozen? ⟨w.heap.size + 1, 2, none⟩ = false := (hb6.frozen (p := ⟨w.heap.size + 1, 2, none⟩) (show w.heap.size + 1 < _ by simp; omega)).trans ((HB3.out.frozen (p := ⟨w.heap.size + 1, 2, none⟩) (show w.heap.size + 1 < wr.heap.size by omega)).trans (HFR.out _ _ (by omega) (by omega)))
          have hz6 : wr.heap.size < w6.heap.size := World.block_lt_of_cell? _ _ k0
          have hn61 : w.heap.size ≠ w6.heap.size := by omega
          have hn62 : w.heap.size + 1 ≠ w6.heap.size := by omega
          have hn63 : wr.heap.size ≠ w6.heap.size := by omega
          have hn5 : w.heap.size ≠ w.heap.size + 1 := by omega
          clear hb6
          rcases hck : checkF (mkB x) (r.map mkB) with ⟨cc, wh, at_⟩
          rw [hck] at HR
          unfold bV
          clear hck
          by_cases hcc : cc = 0
          · subst hcc
            have HW7 : Aside0 (Below w6.heap.size w6 (w6.alloc (.cells #[.int .i64 0, .string wh, .int .i64 at_] 31))) := ⟨(Below.refl _ _).alloc (Nat.le_refl _) _⟩
            go_wp2_with (fail)
            go_region_with (first | (go_at_call 34; refine (none_calls _).mono ?_; unfold bV okB; rintro e w7 ⟨rfl, hb7⟩; have HB7 := Aside0.mk (below_step (w := w6) (by first | exact below_drew1 HW7.out | exact HW7.out) hb7); have s0 := pw_cell_below HB7.out d0; have s1 := pw_cell_below HB7.out d1; have u0 := pw_cell_below HB7.out q0; have u1 := pw_cell_below HB7.out q1; have u2 := pw_cell_below HB7.out q2; have v0 := pw_cell_below HB7.out k0; have v1 := pw_cell_below HB7.out k1; have z0 := (HB7.out.frozen (p := ⟨w.heap.size, 0, none⟩) (show w.heap.size < w6.heap.size by omega)).trans y0; have z1 := (HB7.out.frozen (p := ⟨w.heap.size, 1, none⟩) (show w.heap.size < w6.heap.size by omega)).trans y1; have z2 := (HB7.out.frozen (p := ⟨w.heap.size + 1, 0, none⟩) (show w.heap.size + 1 < w6.heap.size by omega)).trans y2; have z3 := (HB7.out.frozen (p := ⟨w.heap.size + 1, 1, none⟩) (show w.heap.size + 1 < w6.heap.size by omega)).trans y3; have z4 := (HB7.out.frozen (p := ⟨w.heap.size + 1, 2, none⟩) (show w.heap.size + 1 < w6.heap.size by omega)).trans y4; clear hb7))
            all_goals
              go_wp2_with (fail)
              have HS := Aside0.mk (set_two (w := w) (w6 := w7) (x := .string (mkB x)) (y := .slice (some ⟨g, off, none⟩) (N - 1) (cap - 1)) (a := .int .i64 0) (b := .string ⟨#[]⟩) (c := .int .i64 (-1)) (below_step (w := w) HB6.out HB7.out) (by rw [s0]; rfl) (by rw [s1]; rfl) (by rw [u0]; rfl) (by rw [u1]; rfl) (by rw [u2]; rfl))
              have HRR : ((mkB x, r.map mkB), okB) = res := by rw [← HR.out]; simp
              have hg1 : g ≠ w.heap.size := by omega
              have hg2 : g ≠ w.heap.size + 1 := by omega
              have hrm : (r.map mkB).length = N - 1 := by rw [List.length_map]; omega
              refine bodyPost_ret (res_two Tryz.results11 _ _ w.heap.size (w.heap.size + 1) _ _ _ _ _ rfl rfl HS.out.2.1 HS.out.2.2.1 HS.out.2.2.2.1 HS.out.2.2.2.2.1 HS.out.2.2.2.2.2) rfl ⟨_, by rw [← HRR]; rfl, ?_, HS.out.1⟩
              rw [← HRR]
              refine ⟨some ⟨g, off, Option.none⟩, cap - 1, by rw [hrm], ?_, fun _ => ⟨g, off, rfl, by omega⟩⟩
              rw [hrm]
              exact lst_set hg2 (lst_set hg2 (lst_set hg2 (lst_set hg1 (lst_set hg1 (HL6.out.below HB7.out)))))
          · have hcc' : ((cc : Int) != 0) = true := by rw [bne_iff_ne]; omega
            clear hcc
            have HW7 : Aside0 (Below w6.heap.size w6 (w6.alloc (.cells #[.int .i64 (cc : Int), .string wh, .int .i64 at_] 31))) := ⟨(Below.refl _ _).alloc (Nat.le_refl _) _⟩
            have e0 := pw_cell_below HW7.out d0
            have f0 := (HW7.out.frozen (p := ⟨w.heap.size, 0, none⟩) (show w.heap.size < w6.heap.size by omega)).trans y0
            have e1 := pw_cell_below HW7.out d1
            have f1 := (HW7.out.frozen (p := ⟨w.heap.size, 1, none⟩) (show w.heap.size < w6.heap.size by omega)).trans y1
            have e2 := pw_cell_below HW7.out q0
            have f2 := (HW7.out.frozen (p := ⟨w.heap.size + 1, 0, none⟩) (show w.heap.size + 1 < w6.heap.size by omega)).trans y2
            have e3 := pw_cell_below HW7.out q1
            have f3 := (HW7.out.frozen (p := ⟨w.heap.size + 1, 1, none⟩) (show w.heap.size + 1 < w6.heap.size by omega)).trans y3
            have e4 := pw_cell_below HW7.out q2
            have f4 := (HW7.out.frozen (p := ⟨w.heap.size + 1, 2, none⟩) (show w.heap.size + 1 < w6.heap.size by omega)).trans y4
            have g0 : (w6.alloc (.cells #[.int .i64 (cc : Int), .string wh, .int .i64 at_] 31)).cell? ⟨w6.heap.size, 0, none⟩ = some (.int .i64 (cc : Int)) := by simp
            have g1 : (w6.alloc (.cells #[.int .i64 (cc : Int), .string wh, .int .i64 at_] 31)).cell? ⟨w6.heap.size, 1, none⟩ = some (.string wh) := by simp
            have g2 : (w6.alloc (.cells #[.int .i64 (cc : Int), .string wh, .int .i64 at_] 31)).cell? ⟨w6.heap.size, 2, none⟩ = some (.int .i64 at_) := by simp
            have HB7 : Aside0 (Below w.heap.size w (w6.alloc (.cells #[.int .i64 (cc : Int), .string wh, .int .i64 at_] 31))) := ⟨below_step (w := w) HB6.out HW7.out⟩
            obtain ⟨w7, hw7⟩ : ∃ w7, w6.alloc (.cells #[.int .i64 (cc : Int), .string wh, .int .i64 at_] 31) = w7 := ⟨_, rfl⟩
            rw [hw7] at e0 e1 e2 e3 e4 f0 f1 f2 f3 f4 g0 g1 g2 HB7
            clear d0 d1 q0 q1 q2 y0 y1 y2 y3 y4 k0 k1
            go_wp2_with (fail)
            try rw [hw7]
            clear hw7 HW7
            have HS := Aside0.mk (set_two (w := w) (w6 := w7) (x := .string ⟨#[]⟩) (y := .slice none 0 0) (a := .int .i64 (cc : Int)) (b := .string wh) (c := .int .i64 at_) HB7.out (by rw [e0]; rfl) (by rw [e1]; rfl) (by rw [e2]; rfl) (by rw [e3]; rfl) (by rw [e4]; rfl))
            have HRR : Aside0 ((noC, (cc, wh, at_)) = res) := ⟨by rw [← HR.out, if_neg (by show ¬ cc = 0; exact fun q => by rw [q] at hcc'; exact absurd hcc' (by decide))]⟩
            clear hsl hcap hN0 hN1 hN1' hrl hoff hz0 hgw hgn hzw hz6 hcc' hacc hNl hgb hcm
            go_region
            go_wp2_with (fail)
            exact bodyPost_ret (res_two Tryz.results11 _ _ w.heap.size (w.heap.size + 1) _ _ _ _ _ rfl rfl ((cell_drew _ _).trans HS.out.2.1) ((cell_drew _ _).trans HS.out.2.2.1) ((cell_drew _ _).trans HS.out.2.2.2.1) ((cell_drew _ _).trans HS.out.2.2.2.2.1) ((cell_drew _ _).trans HS.out.2.2.2.2.2)) rfl ⟨_, by rw [← HRR.out]; rfl, by rw [← HRR.out]; exact RR.zero _ _, below_drew1 HS.out.1⟩
theorem rread_calls (s : ByteArray) (w : World) : Calls Tryz.prog 11 #[.string s] w fun e w' => ∃ cv, e = .returned (.tuple #[cv, bV (readF s).2]) ∧ RR w.heap.size w' (readF s).1 cv ∧ Below w.heap.size w w' := by
  by_cases h1 : 262144 < s.size
  · have : readF s = (noC, (4, ⟨#[]⟩, 0)) := by unfold readF; rw [if_pos h1]
    rw [this]
    exact rread_long s w h1
  · cases h2 : overF (tl s)
    · exact rread_main s w (by omega) h2
    · have : readF s = (noC, (300, ⟨#[]⟩, 0)) := by unfold readF; rw [if_neg h1, if_pos h2]
      rw [this]
      exact rread_over s w (by omega) h2
end Go.Proofs.YtopcidphlleciaaGreatDoor.S

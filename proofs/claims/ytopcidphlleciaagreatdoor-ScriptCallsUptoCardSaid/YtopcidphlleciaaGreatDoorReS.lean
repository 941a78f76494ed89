/- The document's Text. -/
import Derived.Test.YtopcidphlleciaaGreatDoorReP
import Derived.Test.YtopcidphlleciaaGreatDoorReC
import Derived.Test.YtopcidphlleciaaGreatDoorProO
namespace Go.Proofs.YtopcidphlleciaaGreatDoor.S
open Go.RowKit Go.Extern.Stop Go.Stop Go.Extern Go.Proofs.YtopcidphlleciaaGreatDoorW.PrintWords Go.Proofs.YtopcidphlleciaaGreatDoorW.PrintLast Go.Proofs.YtopcidphlleciaaGreatDoorW.PrintMore
set_option linter.unusedVariables false
set_option linter.unusedSimpArgs false
theorem cell_drew2 (W : World) (p : Addr) : W.drew.cell? p = W.cell? p := rfl
theorem res_str {fn : Func} {p q : Tmp} (h : fn.results = #[.tmp p, .cell q 31]) (tmps : Array Value) (W : World) (k : Nat) (v d0 d1 d2 : Value) (hp : tmps.getD p undef = v) (hq : tmps.getD q undef = .pointer (some ⟨k, 0, none⟩)) (k0 : W.cell? ⟨k, 0, none⟩ = some d0) (k1 : W.cell? ⟨k, 1, none⟩ = some d1) (k2 : W.cell? ⟨k, 2, none⟩ = some d2) :
    (results fn tmps).run Tryz.prog W = .ok (.tuple #[v, .agg #[d0, d1, d2]]) W := by
  have hp' : tmps[p]?.getD undef = v := by simpa using hp
  have hq' : tmps[q]?.getD undef = .pointer (some ⟨k, 0, none⟩) := by simpa using hq
  simp [results, h, hp', hq', asAddr, load_bad W k d0 d1 d2 k0 k1 k2, Result.andThen]
set_option maxHeartbeats 32000000 in
set_option maxRecDepth 100000 in
theorem rtext_calls (word : ByteArray) (args : List ByteArray) (a : Option Addr) (n c : Nat) (w : World) (hw : word.size ≤ 4000000) (hn : n ≤ 1000000) (hs : ∀ k ∈ args, k.size ≤ 4000000) (hL : LSt w a n args) : Calls Tryz.prog 20 #[.agg #[.string word, .slice a n c]] w fun e w' => e = .returned (.tuple #[.string (textF (word, args)).1, bV (textF (word, args)).2]) ∧ Below w.heap.size w w' := by
  have HL := Aside0.mk hL
  have HS := Aside0.mk hs
  obtain ⟨res, hres⟩ : ∃ r, textF (word, args) = r := ⟨_, rfl⟩
  rw [hres]
  have HR1 : Aside0 ((checkF word args).1 ≠ 0 → (⟨#[]⟩, checkF word args) = res) := ⟨fun h => by rw [← hres]; unfold textF; rw [if_neg h]⟩
  have HR2 : Aside0 ((checkF word args).1 = 0 → 262144 < (textL (word, args)).length → (⟨#[]⟩, (4, (⟨#[]⟩ : ByteArray), -1)) = res) := ⟨fun h h2 => by rw [← hres]; unfold textF; rw [if_pos h, if_pos h2]⟩
  have HR3 : Aside0 ((checkF word args).1 = 0 → ¬ 262144 < (textL (word, args)).length → (mkB (textL (word, args)), okB) = res) := ⟨fun h h2 => by rw [← hres]; unfold textF; rw [if_pos h, if_neg h2]⟩
  clear hL hs hres
  unfold bV
  go_enter Tryz.func20, Tryz.ntmps20
  go_wp2_with (fail)
  have HBX : Aside0 (Below w.heap.size w ((w.alloc (.cells #[.string word, .slice a n c] 25)).alloc (.cells #[.int .i64 0, .string ⟨#[]⟩, .int .i64 0] 31))) := ⟨((Below.refl _ _).alloc (Nat.le_refl _) _).alloc (by simp) _⟩
  refine (rcheck_calls word args a n c _ (HL.out.below HBX.out)).mono ?_
  rintro e w5 ⟨rfl, hb5⟩
  have HB5 : Aside0 (Below w.heap.size w w5) := ⟨below_step (w := w) HBX.out hb5⟩
  have c0 : w5.cell? ⟨w.heap.size, 0, none⟩ = some (.string word) := pw_cell_below hb5 (by simp)
  have c1 : w5.cell? ⟨w.heap.size, 1, none⟩ = some (.slice a n c) := pw_cell_below hb5 (by simp)
  have r0 : w5.cell? ⟨w.heap.size + 1, 0, none⟩ = some (.int .i64 0) := pw_cell_below hb5 (by simp)
  have r1 : w5.cell? ⟨w.heap.size + 1, 1, none⟩ = some (.string ⟨#[]⟩) := pw_cell_below hb5 (by simp)
  have r2 : w5.cell? ⟨w.heap.size + 1, 2, none⟩ = some (.int .i64 0) := pw_cell_below hb5 (by simp)
  have HFZ : Aside0 (∀ j, w5.frozen? ⟨w.heap.size + 1, j, none⟩ = false) := ⟨fun j => (hb5.frozen (p := ⟨w.heap.size + 1, j, none⟩) (by simp)).trans (by simp)⟩
  clear hb5
  rcases hck : checkF word args with ⟨cc, wh, at_⟩
  rw [hck] at HR1 HR2 HR3
  unfold bV
  clear hck
  have hz5 : w.heap.size + 1 < w5.heap.size := World.block_lt_of_cell? _ _ r0
  have hn5a : w.heap.size ≠ w5.heap.size := by omega
  have hn5b : w.heap.size + 1 ≠ w5.heap.size := by omega
  have hn5c : w.heap.size ≠ w.heap.size + 1 := by omega
  by_cases hcc : cc = 0
  · subst hcc
    have HRA := Aside0.mk (HR2.out rfl)
    have HRB := Aside0.mk (HR3.out rfl)
    have HW6 : Aside0 (Below w5.heap.size w5 (w5.alloc (.cells #[.int .i64 ((0 : Nat) : Int), .string wh, .int .i64 at_] 31))) := ⟨(Below.refl _ _).alloc (Nat.le_refl _) _⟩
    have HWC : Aside0 (∀ s : ByteArray, s.size ≤ 4000000 → ∀ W, Calls Tryz.prog 45 #[.string s] W fun e w' => e = .returned (.string (mkB (wrA (tl s)))) ∧ Below W.heap.size W w') := ⟨fun s hs W => (rwrite_calls s W hs).mono (by
      rintro e w' ⟨o, rfl, ho, hb⟩
      exact ⟨by rw [show o = mkB (wrA (tl s)) from tl_inj (by rw [tl_mkB]; exact ho)], hb⟩)⟩
    have z0 : (w5.alloc (.cells #[.int .i64 0, .string wh, .int .i64 at_] 31)).cell? ⟨w.heap.size, 0, none⟩ = some (.string word) := pw_cell_below HW6.out c0
    clear HR1 HR2 HR3
    go_wp2_with (fail)
    refine (HWC.out word hw _).mono ?_
    rintro e w6 ⟨rfl, hb6⟩
    have HB6 : Aside0 (Below w5.heap.size w5 w6) := ⟨below_step (w := w5) HW6.out hb6⟩
    have hwl : (wrA (tl word)).length ≤ 12000001 := by have := wrA_le (tl word); rw [show (tl word).length = word.size from Array.length_toList] at this; omega
    clear hb6
    go_wp2_with (fail)
    go_loopw [5, 6] (fun v5 v6 wr => ∃ i : Nat, i ≤ n ∧ v6 = .int .i64 i ∧ v5 = .string (mkB (wrA (tl word) ++ lineF (args.take i))) ∧ Aside0 (Below w5.heap.size w5 wr)) (fun _ v6 _ => n - (intOf v6).toNat)
    case atStart => exact ⟨0, Nat.zero_le _, rfl, by rw [List.take_zero, lineF, List.append_nil], HB6⟩
    case round =>
      obtain ⟨i, hi, rfl, rfl, HX⟩ := hrel
      have HBW : Aside0 (Below w.heap.size w wr) := ⟨below_step (w := w) HB5.out HX.out⟩
      have g0 := pw_cell_below HX.out c0
      have g1 := pw_cell_below HX.out c1
      have s0 := pw_cell_below HX.out r0
      have s1 := pw_cell_below HX.out r1
      have s2 := pw_cell_below HX.out r2
      have HFZ2 : Aside0 (∀ j, wr.frozen? ⟨w.heap.size + 1, j, none⟩ = false) := ⟨fun j => (HX.out.frozen (p := ⟨w.heap.size + 1, j, none⟩) hz5).trans (HFZ.out j)⟩
      have hlen : (wrA (tl word) ++ lineF (args.take i)).length ≤ 12000001 + 12000002 * i := by
        have h1 := lineF_le (args.take i) (fun k hk => HS.out k (List.mem_of_mem_take hk))
        rw [List.length_take] at h1
        rw [List.length_append]
        have h2 : min i args.length ≤ i := Nat.min_le_left _ _
        have h3 := Nat.mul_le_mul_left 12000002 h2
        omega
      clear c0 c1 r0 r1 r2
      by_cases h1 : i < n
      · have h1' : (i : Int) < (n : Int) := by omega
        have h0' : (0 : Int) ≤ (i : Int) := by omega
        have hil : i < args.length := by rw [HL.out.1]; exact h1
        obtain ⟨ab, ao, rfl, hcell⟩ := HL.out.2.2.1 (by omega)
        have a1 : wr.cell? ⟨ab, ao + i, none⟩ = some (.string args[i]) := pw_cell_below HBW.out (hcell i hil)
        have hsz := HS.out _ (List.getElem_mem hil)
        have HSN : Aside0 (lineF (args.take (i + 1)) = lineF (args.take i) ++ 32 :: wrA (tl args[i])) := ⟨by rw [List.take_succ_eq_append_getElem hil, lineF_append, lineF, lineF, List.append_nil]⟩
        generalize args[i] = s at *
        clear hcell hil
        have hwa := wrA_le (tl s)
        rw [show (tl s).length = s.size from Array.length_toList] at hwa
        obtain ⟨x, hx⟩ : ∃ x, mkB (wrA (tl word) ++ lineF (args.take i)) = x := ⟨_, rfl⟩
        have hxs : x.size = (wrA (tl word) ++ lineF (args.take i)).length := by rw [← hx, mkB_size]
        obtain ⟨y, hy⟩ : ∃ y, mkB (wrA (tl s)) = y := ⟨_, rfl⟩
        have hys : y.size = (wrA (tl s)).length := by rw [← hy, mkB_size]
        have hb1 : ¬ 9223372036854775807 < x.size + 1 := by omega
        have hb2 : ¬ 9223372036854775807 < x.size + 1 + y.size := by omega
        have HCAT : Aside0 (x ++ ({ data := #[32] } : ByteArray) ++ y = mkB (wrA (tl word) ++ lineF (args.take (i + 1)))) := ⟨tl_inj (by rw [tl_append, tl_append, tl_mkB, HSN.out, ← hx, ← hy, tl_mkB, tl_mkB, List.append_assoc]; simp)⟩
        have HWS := Aside0.mk (fun W => HWC.out s hsz W)
        rw [hy] at HWS
        rw [hx]
        clear hlen hwl hwa hxs hys hx hy
        go_wp2_with (fail)
        refine (HWS.out _).mono ?_
        rintro e w8 ⟨rfl, hb8⟩
        have HB8 : Aside0 (Below w5.heap.size w5 w8) := ⟨below_step (w := w5) HX.out hb8⟩
        clear hb8 a1 g0 g1 s0 s1 s2
        go_wp2_with (fail)
        exact ⟨⟨i + 1, by omega, by simp, by rw [← HCAT.out], HB8⟩, by simp [intOf]; omega⟩
      · have h1' : ¬ (i : Int) < (n : Int) := by omega
        have HTX : Aside0 (wrA (tl word) ++ lineF (args.take i) = textL (word, args)) := ⟨by rw [List.take_of_length_le (by rw [HL.out.1]; omega)]; rfl⟩
        rw [HTX.out]
        obtain ⟨x, hx⟩ : ∃ x, mkB (textL (word, args)) = x := ⟨_, rfl⟩
        have hxs : x.size = (textL (word, args)).length := by rw [← hx, mkB_size]
        rw [hx]
        rw [← hxs] at HRA HRB
        rw [hx] at HRB
        have HSB := fun (a b c : Value) => Aside0.mk (set_bad (w := w) (w6 := wr) (g := w.heap.size + 1) (a := a) (b := b) (c := c) (Nat.le_succ _) HBW.out (by rw [s0]; rfl) (by rw [s1]; rfl) (by rw [s2]; rfl))
        clear hlen hwl hxs hx
        have t0 := HFZ2.out 0
        have t1 := HFZ2.out 1
        have t2 := HFZ2.out 2
        by_cases h2 : 262144 < x.size
        · have h2' : (262144 : Int) < (x.size : Int) := by omega
          have HRR := Aside0.mk (HRA.out h2)
          clear h2
          go_wp2_with (fail)
          exact bodyPost_ret (res_str Tryz.results20 _ _ (w.heap.size + 1) _ _ _ _ rfl rfl (HSB _ _ _).out.2.1 (HSB _ _ _).out.2.2.1 (HSB _ _ _).out.2.2.2) rfl ⟨by rw [← HRR.out]; rfl, (HSB _ _ _).out.1⟩
        · have h2' : ¬ (262144 : Int) < (x.size : Int) := by omega
          have HRR := Aside0.mk (HRB.out h2)
          clear h2
          go_wp2_with (fail)
          refine (none_calls _).mono ?_
          unfold bV okB
          rintro e w8 ⟨rfl, hb8⟩
          have HB8 : Aside0 (Below w.heap.size w w8) := ⟨below_step (w := w) HBW.out hb8⟩
          have u0 := pw_cell_below hb8 s0
          have u1 := pw_cell_below hb8 s1
          have u2 := pw_cell_below hb8 s2
          have HSB := fun (a b c : Value) => Aside0.mk (set_bad (w := w) (w6 := w8) (g := w.heap.size + 1) (a := a) (b := b) (c := c) (Nat.le_succ _) HB8.out (by rw [u0]; rfl) (by rw [u1]; rfl) (by rw [u2]; rfl))
          have hzr : w.heap.size + 1 < wr.heap.size := World.block_lt_of_cell? _ _ s0
          have t0 := (hb8.frozen (p := ⟨w.heap.size + 1, 0, none⟩) hzr).trans t0
          have t1 := (hb8.frozen (p := ⟨w.heap.size + 1, 1, none⟩) hzr).trans t1
          have t2 := (hb8.frozen (p := ⟨w.heap.size + 1, 2, none⟩) hzr).trans t2
          clear hb8
          go_wp2_with (fail)
          exact bodyPost_ret (res_str Tryz.results20 _ _ (w.heap.size + 1) _ _ _ _ rfl rfl (HSB _ _ _).out.2.1 (HSB _ _ _).out.2.2.1 (HSB _ _ _).out.2.2.2) rfl ⟨by rw [← HRR.out]; rfl, (HSB _ _ _).out.1⟩
  · have hcc' : ((cc : Int) != 0) = true := by rw [bne_iff_ne]; omega
    have HRR := Aside0.mk (HR1.out hcc)
    clear hcc HR1 HR2 HR3
    have HW7 : Aside0 (Below w5.heap.size w5 (w5.alloc (.cells #[.int .i64 (cc : Int), .string wh, .int .i64 at_] 31))) := ⟨(Below.refl _ _).alloc (Nat.le_refl _) _⟩
    have e2 := pw_cell_below HW7.out r0
    have e3 := pw_cell_below HW7.out r1
    have e4 := pw_cell_below HW7.out r2
    have f2 := (HW7.out.frozen (p := ⟨w.heap.size + 1, 0, none⟩) hz5).trans (HFZ.out 0)
    have f3 := (HW7.out.frozen (p := ⟨w.heap.size + 1, 1, none⟩) hz5).trans (HFZ.out 1)
    have f4 := (HW7.out.frozen (p := ⟨w.heap.size + 1, 2, none⟩) hz5).trans (HFZ.out 2)
    have g0 : (w5.alloc (.cells #[.int .i64 (cc : Int), .string wh, .int .i64 at_] 31)).cell? ⟨w5.heap.size, 0, none⟩ = some (.int .i64 (cc : Int)) := by simp
    have g1 : (w5.alloc (.cells #[.int .i64 (cc : Int), .string wh, .int .i64 at_] 31)).cell? ⟨w5.heap.size, 1, none⟩ = some (.string wh) := by simp
    have g2 : (w5.alloc (.cells #[.int .i64 (cc : Int), .string wh, .int .i64 at_] 31)).cell? ⟨w5.heap.size, 2, none⟩ = some (.int .i64 at_) := by simp
    have HB7 : Aside0 (Below w.heap.size w (w5.alloc (.cells #[.int .i64 (cc : Int), .string wh, .int .i64 at_] 31))) := ⟨below_step (w := w) HB5.out HW7.out⟩
    obtain ⟨w7, hw7⟩ : ∃ w7, w5.alloc (.cells #[.int .i64 (cc : Int), .string wh, .int .i64 at_] 31) = w7 := ⟨_, rfl⟩
    rw [hw7] at e2 e3 e4 f2 f3 f4 g0 g1 g2 HB7
    clear r0 r1 r2 c0 c1
    go_wp2_with (fail)
    try rw [hw7]
    clear hw7 HW7
    have HSB := Aside0.mk (set_bad (w := w) (w6 := w7) (g := w.heap.size + 1) (a := .int .i64 (cc : Int)) (b := .string wh) (c := .int .i64 at_) (Nat.le_succ _) HB7.out (by rw [e2]; rfl) (by rw [e3]; rfl) (by rw [e4]; rfl))
    go_region
    go_wp2_with (fail)
    exact bodyPost_ret (res_str Tryz.results20 _ _ (w.heap.size + 1) (.string ⟨#[]⟩) _ _ _ rfl rfl ((cell_drew2 _ _).trans HSB.out.2.1) ((cell_drew2 _ _).trans HSB.out.2.2.1) ((cell_drew2 _ _).trans HSB.out.2.2.2) ) rfl ⟨by rw [← HRR.out], below_drew1 HSB.out.1⟩
end Go.Proofs.YtopcidphlleciaaGreatDoor.S

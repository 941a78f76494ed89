/- The law ScriptReads walked. -/
import Derived.Test.YtopcidphlleciaaGreatDoorRows
import Derived.Test.YtopcidphlleciaaGreatDoorSLi
import Derived.Lib.LaidTab
import Derived.Stop.LaidErr
import Derived.LaidSub
import Derived.LaidHandle
import Derived.LaidLaws
import Derived.Shelf.Vars
import Derived.Test.YtopcidphlleciaaGreatDoorReR
import Derived.Test.YtopcidphlleciaaGreatDoorSIs
namespace Go.Proofs.YtopcidphlleciaaGreatDoor.S
open Go.RowKit Go.Extern.Stop Go.Stop Go.Extern Go.Proofs.YtopcidphlleciaaGreatDoorW.PrintWords Go.Proofs.YtopcidphlleciaaGreatDoorW.PrintLast Go.Proofs.YtopcidphlleciaaGreatDoorW.PrintMore
set_option linter.unusedVariables false
set_option linter.unusedSimpArgs false
/-- The package variables that the rows list, but for the handle. -/
abbrev laidD : List (String × DataW Unit) := [("math/bits.deBruijn32tab", Rows.laid_math_bits_deBruijn32tab), ("math/bits.deBruijn64tab", Rows.laid_math_bits_deBruijn64tab), ("internal/strconv.uint64pow10", Rows.laid_internal_strconv_uint64pow10), ("unicode/utf8.acceptRanges", Rows.laid_unicode_utf8_acceptRanges), ("strconv.ErrRange", Rows.laid_strconv_ErrRange), ("strconv.ErrSyntax", Rows.laid_strconv_ErrSyntax), ("unicode/utf8.first", Rows.laid_unicode_utf8_first)]
abbrev laidL : List (String × DataW Unit) := [("math/bits.deBruijn32tab", Rows.laid_math_bits_deBruijn32tab), ("math/bits.deBruijn64tab", Rows.laid_math_bits_deBruijn64tab), ("internal/strconv.uint64pow10", Rows.laid_internal_strconv_uint64pow10), ("unicode/utf8.acceptRanges", Rows.laid_unicode_utf8_acceptRanges), ("errors.errorType", Rows.laid_errors_errorType), ("strconv.ErrRange", Rows.laid_strconv_ErrRange), ("strconv.ErrSyntax", Rows.laid_strconv_ErrSyntax), ("unicode/utf8.first", Rows.laid_unicode_utf8_first)]
theorem tab_of_vars {P : Program} {W : World} {name : String} {k : IntKind} {zs : List Int} {rest : List (String × DataW Unit)} {g : Nat} {t e : TypeId} {n : Nat} {ps : List MemPlace}
    (hg : P.globalNamed name = some g) (hty : (P.globals[g]?).map (·.type) = some t) (ht : P.underlying t = some (.array n e)) (he : P.underlying e = some (.int k)) (hce : P.cellsOf e = 1) (hct : P.cellsOf t = n)
    (h : DataW.LaidVars P W ((name, Lib.tabData k zs) :: rest) ps) : Lib.TabIs P W name k zs := by
  obtain ⟨g', t', cs, fuel, p, q, hg', ht', hvar, hd, _, _⟩ := h
  obtain rfl := Option.some.inj (hg.symm.trans hg')
  obtain rfl := Option.some.inj (hty.symm.trans ht')
  unfold Lib.TabIs
  rw [hvar, ← Lib.cells_of_tab ht he hce hct hd]
theorem gt_of_laid {W : World} {d : DataW Unit} {rest : List (String × DataW Unit)} (hd : d = Lib.tabData .u64 Lib.pow10Tab) (h : laidMet Tryz.prog (("internal/strconv.uint64pow10", d) :: rest) W) : GT W := by
  obtain ⟨ps, h, _⟩ := h
  subst hd
  exact tab_of_vars (g := 6) (t := 180) (e := 131) (n := 20) (by kernel_rfl) (by kernel_rfl) Tryz.underlying180 Tryz.underlying131 (by kernel_rfl) (by kernel_rfl) h
theorem star : "*" ++ "errors.errorString" = "*errors.errorString" := by decide
theorem row_err (u : TypeId) (h : Tryz.prog.typeName? 3 u = some "*errors.errorString") : u = 182 :=
  typeName_ptr_named (nm := "errors.errorString") (by rw [star]; kernel_rfl) (by kernel_rfl) (by decide) u (by rw [star]; exact h)
theorem et : Tryz.prog.globalNamed "errors.errorType" = some 0 := by kernel_rfl
theorem rt : (Tryz.prog.cutTypes.find? (·.1 == "internal/reflectlite.rtype")).map (·.2) = some 109 := by kernel_rfl
theorem oneRow : ((List.range 214).filter fun t => Tryz.prog.rowNamed t [101, 114, 114, 111, 114]) = [27] := by kernel_rfl
theorem size : Tryz.prog.types.size = 214 := by kernel_rfl
theorem handle_of_met {W : World} (h : handlesMet Tryz.prog [("errors.errorType", Rows.laid_errors_errorType)] W) : GE W := by
  obtain ⟨name, u, ty, e1, e2, e3, e4, e5⟩ := h _ (List.mem_singleton.2 rfl)
  have en : name = [101, 114, 114, 111, 114] := (Option.some.inj e1).symm
  subst en
  obtain rfl := Option.some.inj (rt.symm.trans e2)
  have hm : ty ∈ (List.range 214).filter fun t => Tryz.prog.rowNamed t [101, 114, 114, 111, 114] := List.mem_filter.2 ⟨List.mem_range.2 (by rw [← size]; exact e3), e4⟩
  rw [oneRow] at hm
  obtain rfl := List.mem_singleton.1 hm
  have hh : typeHandle Tryz.prog 27 = .pointer (some ⟨9, 27, none⟩) := by kernel_rfl
  rw [hh] at e5
  unfold GE
  simpa using World.var?_cell et e5 0
/-- What the rows' variables give the walks. -/
theorem gw_of_laid {W : World} (hsh : W.ShapedOpen Tryz.prog) (h : laidMetH Tryz.prog laidL W) : GW W := by
  obtain ⟨hd, hh⟩ := laidMetH_iff.1 h
  have e1 : (laidL.filter fun x => x.2.handleName?.isNone) = laidD := by rfl
  have e2 : (laidL.filter fun x => x.2.handleName?.isSome) = [("errors.errorType", Rows.laid_errors_errorType)] := by rfl
  rw [e1] at hd
  rw [e2] at hh
  have h3 := hd.tail.tail
  have h5 := h3.tail.tail
  have h6 := h5.tail
  obtain ⟨a0, s0, hv0, _⟩ := laid_sentinel (g := 5) (ti := 27) h5 (by kernel_rfl) (by kernel_rfl) Tryz.underlying27 row_err Tryz.underlying182 Tryz.underlying184 rfl rfl Tryz.underlying9 (by kernel_rfl) (by kernel_rfl)
  obtain ⟨a1, s1, hv1, _⟩ := laid_sentinel (g := 4) (ti := 27) h6 (by kernel_rfl) (by kernel_rfl) Tryz.underlying27 row_err Tryz.underlying182 Tryz.underlying184 rfl rfl Tryz.underlying9 (by kernel_rfl) (by kernel_rfl)
  refine ⟨⟨⟨_, _, by simpa using World.var?_cell (show Tryz.prog.globalNamed "strconv.ErrSyntax" = some 4 by kernel_rfl) hv1 0⟩, ⟨_, _, by simpa using World.var?_cell (show Tryz.prog.globalNamed "strconv.ErrRange" = some 5 by kernel_rfl) hv0 0⟩⟩, gt_of_laid (by kernel_rfl) h3, ?_, handle_of_met hh⟩
  exact cell_of_shapedOpen_int (P := Tryz.prog) (g := 1) (t := 3) (zero := #[.int .i64 0]) hsh (of_decide_eq_true (by kernel_rfl)) (by kernel_rfl) rfl (by kernel_rfl) (by kernel_rfl) Tryz.underlying3
/-- The law's lives. -/
theorem lives_calls (w : World) (hG : GW w) : Calls Tryz.prog 9 #[] w fun e w' => e = .returned (.bool true) ∧ Below w.heap.size w w' := lives_of ⟨is_ok⟩ w hG
theorem same_self (c : Cl) : sameF c c = true := by unfold sameF; rw [decide_eq_true rfl, decide_eq_true rfl]; rfl
/-- The same world, but for what block g holds. -/
def AG (g : Nat) (W W' : World) : Prop := (∀ p : Addr, p.block ≠ g → W'.cell? p = W.cell? p) ∧ (∀ p, W'.frozen? p = W.frozen? p) ∧ ∀ j, (W'.cell? ⟨g, j, none⟩).isSome = (W.cell? ⟨g, j, none⟩).isSome
theorem AG.refl (g : Nat) (W : World) : AG g W W := ⟨fun _ _ => rfl, fun _ => rfl, fun _ => rfl⟩
theorem AG.set {g : Nat} {W W' : World} (h : AG g W W') (i : Nat) (v : Value) (hs : (W'.cell? ⟨g, i, none⟩).isSome = true) : AG g W (W'.setCell ⟨g, i, none⟩ v) := by
  refine ⟨fun p hp => ?_, fun p => ?_, fun j => ?_⟩
  · rw [← h.1 p hp]
    exact World.cell?_setCell_other (h := fun q => hp (by rw [← q])) ..
  · rw [← h.2.1 p]
    simp
  · by_cases e : j = i
    · subst e
      rw [← h.2.2 j, hs, World.cell?_setCell_same' _ _ _ hs]
      rfl
    · rw [← h.2.2 j]
      exact congrArg _ (World.cell?_setCell_other (h := fun q => by injection q with _ q; exact e q.symm) ..)
theorem AG.lst {g n : Nat} {W W' : World} {a : Option Addr} {l : List ByteArray} (h : AG g W W') (hl : LSt W a n l) (hne : 0 < n → ∀ b o, a = some ⟨b, o, none⟩ → b ≠ g) : LSt W' a n l := by
  obtain ⟨h1, h2, h3, h4⟩ := hl
  refine ⟨h1, h2, fun hn => ?_, h4⟩
  obtain ⟨b, o, e, hc⟩ := h3 hn
  exact ⟨b, o, e, fun i hi => (h.1 ⟨b, o + i, none⟩ (hne hn b o e)).trans (hc i hi)⟩
set_option maxHeartbeats 32000000 in
set_option maxRecDepth 100000 in
theorem law_long (s : ByteArray) (w : World) (h1 : 262144 < s.size) (hG : GW w) : Calls Tryz.prog 3 #[.string s] w fun e w' => e = .returned (.bool true) ∧ Below w.heap.size w w' := by
  have HG := Aside0.mk hG
  clear hG
  have HR1 : Aside0 (∀ W, GW W → Calls Tryz.prog 10 #[.string s] W fun e w' => ∃ cv ev, e = .returned (.tuple #[cv, ev]) ∧ RC W.heap.size w' (readF s).1 cv ∧ EA w' ev (readF s).2 ∧ Below W.heap.size W w') := ⟨fun W h => readG s W h⟩
  have HR2 : Aside0 (∀ W, Calls Tryz.prog 11 #[.string s] W fun e w' => ∃ cv, e = .returned (.tuple #[cv, bV (readF s).2]) ∧ RR W.heap.size w' (readF s).1 cv ∧ Below W.heap.size W w') := ⟨fun W => rread_calls s W⟩
  obtain ⟨⟨⟨cw, cl⟩, bc, bw, bi⟩, hrf⟩ : ∃ r, readF s = r := ⟨_, rfl⟩
  rw [hrf] at HR1 HR2
  clear hrf
  obtain ⟨n, hn⟩ : ∃ n, cl.length = n := ⟨_, rfl⟩
  unfold bV at HR2
  have h1' : (4000 : Int) < (s.size : Int) := by omega
  have h2' : ¬ (s.size : Int) ≤ 262144 := by omega
  clear h1
  go_enter Tryz.func3, Tryz.ntmps3
  go_wp2_with (fail)
  refine (HR1.out _ HG.out).mono ?_
  rintro e w1 ⟨cv, ev, rfl, ⟨sv, rfl, hown⟩, hE, hb1⟩
  have hown : w1.ownsRow w.heap.size 9 1 sv n (cl.map Value.string) := by rw [← hn]; exact hown
  obtain ⟨a, k, rfl⟩ := own_form hown
  have HB1 := Aside0.mk hb1
  have HOW := Aside0.mk hown
  have HE1 := Aside0.mk hE
  clear hb1 hown hE
  go_wp2_with (fail)
  have HNA : Aside0 (Below w1.heap.size w1 (w1.alloc (.cells #[.string cw, .slice a n k] 25))) := ⟨(Below.refl _ _).alloc (Nat.le_refl _) _⟩
  refine (HR2.out _).mono ?_
  rintro e w2 ⟨cv2, rfl, ⟨a2, k2, rfl, hL2, hF2⟩, hb2⟩
  have HS2 : Aside0 (Below w1.heap.size w1 w2) := ⟨below_step (w := w1) HNA.out hb2⟩
  have HB2 : Aside0 (Below w.heap.size w w2) := ⟨below_step (w := w) HB1.out HS2.out⟩
  have t0 : w2.cell? ⟨w1.heap.size, 0, none⟩ = some (.string cw) := pw_cell_below hb2 (by simp)
  have t1 : w2.cell? ⟨w1.heap.size, 1, none⟩ = some (.slice a n k) := pw_cell_below hb2 (by simp)
  have hL2 : LSt w2 a2 n cl := by rw [← hn]; exact hL2
  have HL2 := Aside0.mk hL2
  have HF2 : Aside0 (0 < n → ∃ g o, a2 = some ⟨g, o, none⟩ ∧ w1.heap.size < g) := ⟨fun h => by
    obtain ⟨g, o, e, q⟩ := hF2 (by show 0 < cl.length; omega)
    exact ⟨g, o, e, by simp at q; omega⟩⟩
  have hn2 : (cw, cl).snd.length = n := hn
  have hz12 : w1.heap.size < w2.heap.size := World.block_lt_of_cell? _ _ t0
  clear hb2 hL2 hF2
  go_wp2_with (fail)
  have HN3 : Aside0 (Below w2.heap.size w2 ((w2.alloc (.cells #[.string cw, .slice a2 n k2] 25)).alloc (.cells #[.int .i64 (bc : Int), .string bw, .int .i64 bi] 31))) := ⟨((Below.refl _ _).alloc (Nat.le_refl _) _).alloc (by simp) _⟩
  have HIS : Aside0 (∀ W, EA W ev (bc, bw, bi) → GE W → Calls Tryz.prog 12 #[ev, .agg #[.int .i64 (bc : Int), .string bw, .int .i64 bi]] W fun e w' => e = .returned (.bool true) ∧ Below W.heap.size W w') := ⟨fun W h1 h2 => is_ok ev (bc, bw, bi) W h1 h2⟩
  refine (HIS.out _ ((HE1.out.below HS2.out).below HN3.out) (HG.out.2.2.2.below (below_step (w := w) HB2.out HN3.out))).mono ?_
  rintro e w4 ⟨rfl, hb4⟩
  have HS4 : Aside0 (Below w2.heap.size w2 w4) := ⟨below_step (w := w2) HN3.out hb4⟩
  have s0 := pw_cell_below HS4.out t0
  have s1 := pw_cell_below HS4.out t1
  have u0 : w4.cell? ⟨w2.heap.size, 0, none⟩ = some (.string cw) := pw_cell_below hb4 (by simp)
  have u1 : w4.cell? ⟨w2.heap.size, 1, none⟩ = some (.slice a2 n k2) := pw_cell_below hb4 (by simp)
  have HLA : Aside0 (LSt w4 a n cl) := ⟨own_lst (own_below (own_below HOW.out HS2.out) HS4.out) HL2.out.2.1 HL2.out.2.2.2⟩
  have hz24 : w2.heap.size < w4.heap.size := World.block_lt_of_cell? _ _ u0
  have hsm := same_self (cw, cl)
  clear hb4 t0 t1
  go_wp2_with (fail)
  refine (same_calls cw cw cl cl a a2 n n k k2 _ HLA.out (HL2.out.below HS4.out)).mono ?_
  rintro e w5 ⟨rfl, hb5⟩
  have HS5 : Aside0 (Below w2.heap.size w2 w5) := ⟨below_step (w := w2) HS4.out hb5⟩
  have HB5 : Aside0 (Below w.heap.size w w5) := ⟨below_step (w := w) HB2.out HS5.out⟩
  have r0 := pw_cell_below hb5 s0
  have r1 := pw_cell_below hb5 s1
  have v0 := pw_cell_below hb5 u0
  have v1 := pw_cell_below hb5 u1
  have hz15 : w1.heap.size < w5.heap.size := World.block_lt_of_cell? _ _ r0
  have HO5 := Aside0.mk (own_below (own_below HOW.out HS2.out) HS5.out)
  have HGA : ∃ ga, (0 < n → a = some ⟨ga, 0, none⟩ ∧ ∀ j, j < n → (w5.cell? ⟨ga, j, none⟩).isSome = true ∧ w5.frozen? ⟨ga, j, none⟩ = false) ∧ ga ≠ w1.heap.size ∧ ga ≠ w2.heap.size ∧ w.heap.size ≤ ga ∧ (0 < n → ∀ b o, a2 = some ⟨b, o, none⟩ → b ≠ ga) := by
    rcases Nat.eq_zero_or_pos n with h0 | h0
    · exact ⟨w5.heap.size, fun h => by omega, by omega, by have := HS5.out.size; have := World.block_lt_of_cell? _ _ v0; exact fun q => by simp at this; omega, HB5.out.size, fun h => by omega⟩
    · rcases HO5.out.2 with ⟨_, q⟩ | ⟨ga, cap, cur, e1, hge, _⟩
      · omega
      · injection e1 with e1 _ e3
        subst e1
        subst e3
        have hlt : ga < w1.heap.size := by
          have := HOW.out.lt ga rfl
          exact this.2
        refine ⟨ga, fun _ => ⟨rfl, fun j hj => ⟨?_, ?_⟩⟩, by omega, by omega, hge, fun _ b o q => ?_⟩
        · have := HO5.out.cells (g := ga) rfl j (.string (cl[j]'(by omega))) (by rw [List.getElem?_map, List.getElem?_eq_getElem (by omega)]; rfl)
          rw [Addr.add_mid, Nat.zero_add] at this
          rw [this]; rfl
        · exact HO5.out.frozenAt j
        · obtain ⟨b2, o2, q2, q3⟩ := HF2.out h0
          rw [q2] at q
          injection q with q
          injection q with q
          omega
  obtain ⟨ga, HA1, hga1, hga2, hga3, HA2⟩ := HGA
  have HA1 := Aside0.mk HA1
  have HA2 := Aside0.mk HA2
  clear hb5 s0 s1 u0 u1
  go_wp2_with (fail)
  go_loopw [7] (fun v7 wl => ∃ i : Nat, i ≤ n ∧ v7 = .int .i64 i ∧ Aside0 (AG ga w5 wl ∧ Below w.heap.size w wl)) (fun v7 _ => n - (intOf v7).toNat)
  case atStart => exact ⟨0, Nat.zero_le _, rfl, ⟨AG.refl _ _, HB5.out⟩⟩
  case round =>
    obtain ⟨i, hi, rfl, HX⟩ := hrel
    have hn62 : n ≤ 8796093022208 := HL2.out.2.1
    have x0 : wr.cell? ⟨w1.heap.size, 0, none⟩ = some (.string cw) := (HX.out.1.1 ⟨w1.heap.size, 0, none⟩ hga1.symm).trans r0
    have x1 : wr.cell? ⟨w1.heap.size, 1, none⟩ = some (.slice a n k) := (HX.out.1.1 ⟨w1.heap.size, 1, none⟩ hga1.symm).trans r1
    by_cases h3 : i < n
    · have h3' : (i : Int) < (n : Int) := by omega
      have h0' : (0 : Int) ≤ (i : Int) := by omega
      obtain ⟨rfl, hcf⟩ := HA1.out (by omega)
      have hs : (wr.cell? ⟨ga, i, none⟩).isSome = true := by rw [HX.out.1.2.2]; exact (hcf i h3).1
      obtain ⟨cv0, hcv0⟩ := Option.isSome_iff_exists.1 hs
      have hfz : wr.frozen? ⟨ga, i, none⟩ = false := (HX.out.1.2.1 _).trans (hcf i h3).2
      have HNX := Aside0.mk (And.intro (HX.out.1.set i (.string ⟨#[115, 112, 111, 105, 108, 116]⟩) hs) (HX.out.2.setCell (p := ⟨ga, i, none⟩) hga3 (.string ⟨#[115, 112, 111, 105, 108, 116]⟩)))
      clear hcf hs r0 r1 v0 v1
      go_wp2_with (fail)
      exact ⟨⟨i + 1, by omega, by simp, ⟨HNX.out⟩⟩, by simp [intOf]; omega⟩
    · have h3' : ¬ (i : Int) < (n : Int) := by omega
      have y0 : wr.cell? ⟨w2.heap.size, 0, none⟩ = some (.string cw) := (HX.out.1.1 ⟨w2.heap.size, 0, none⟩ hga2.symm).trans v0
      have y1 : wr.cell? ⟨w2.heap.size, 1, none⟩ = some (.slice a2 n k2) := (HX.out.1.1 ⟨w2.heap.size, 1, none⟩ hga2.symm).trans v1
      have HLB : Aside0 (LSt wr a2 n cl) := ⟨HX.out.1.lst (HL2.out.below HS5.out) HA2.out⟩
      clear r0 r1 v0 v1
      go_wp2_with (fail)
      refine (HR1.out _ (HG.out.below HX.out.2)).mono ?_
      rintro e w6 ⟨cv6, ev6, rfl, ⟨sv6, rfl, hown6⟩, hE6, hb6⟩
      have hown6 : w6.ownsRow wr.heap.size 9 1 sv6 n (cl.map Value.string) := by rw [← hn]; exact hown6
      obtain ⟨a6, k6, rfl⟩ := own_form hown6
      have HB6 : Aside0 (Below w.heap.size w w6) := ⟨below_step (w := w) HX.out.2 hb6⟩
      have HLC : Aside0 (LSt w6 a6 n cl) := ⟨own_lst hown6 HL2.out.2.1 HL2.out.2.2.2⟩
      have HLD : Aside0 (LSt w6 a2 n cl) := ⟨HLB.out.below hb6⟩
      have z0 := pw_cell_below hb6 y0
      have z1 := pw_cell_below hb6 y1
      have hz6 : w2.heap.size < w6.heap.size := World.block_lt_of_cell? _ _ z0
      have hz6' : w2.heap.size ≠ w6.heap.size := Nat.ne_of_lt hz6
      have HN6 : Aside0 (Below w6.heap.size w6 (w6.alloc (.cells #[.string cw, .slice a6 n k6] 25))) := ⟨(Below.refl _ _).alloc (Nat.le_refl _) _⟩
      clear hb6 hown6 hE6 y0 y1
      go_wp2_with (fail)
      refine (same_calls cw cw cl cl a6 a2 n n k6 k2 _ (HLC.out.below HN6.out) (HLD.out.below HN6.out)).mono ?_
      rintro e w8 ⟨rfl, hb8⟩
      have HB8 : Aside0 (Below w.heap.size w w8) := ⟨below_step (w := w) (below_step (w := w) HB6.out HN6.out) hb8⟩
      clear hb8
      go_wp2_with (fail)
      refine (lives_calls _ (HG.out.below HB8.out)).mono ?_
      rintro e w9 ⟨rfl, hb9⟩
      have HB9 : Aside0 (Below w.heap.size w w9) := ⟨below_step (w := w) HB8.out hb9⟩
      clear hb9
      go_wp2_with (fail)
      go_ret
      exact ⟨rfl, HB9.out⟩
set_option maxHeartbeats 32000000 in
set_option maxRecDepth 100000 in
theorem law_short (s : ByteArray) (w : World) (h1 : s.size ≤ 4000) (hG : GW w) : Calls Tryz.prog 3 #[.string s] w fun e w' => e = .returned (.bool true) ∧ Below w.heap.size w w' := by
  have HG := Aside0.mk hG
  clear hG
  have HR1 : Aside0 (∀ W, GW W → Calls Tryz.prog 10 #[.string s] W fun e w' => ∃ cv ev, e = .returned (.tuple #[cv, ev]) ∧ RC W.heap.size w' (readF s).1 cv ∧ EA w' ev (readF s).2 ∧ Below W.heap.size W w') := ⟨fun W h => readG s W h⟩
  have HR2 : Aside0 (∀ W, Calls Tryz.prog 11 #[.string s] W fun e w' => ∃ cv, e = .returned (.tuple #[cv, bV (readF s).2]) ∧ RR W.heap.size w' (readF s).1 cv ∧ Below W.heap.size W w') := ⟨fun W => rread_calls s W⟩
  obtain ⟨⟨⟨cw, cl⟩, bc, bw, bi⟩, hrf⟩ : ∃ r, readF s = r := ⟨_, rfl⟩
  rw [hrf] at HR1 HR2
  clear hrf
  obtain ⟨n, hn⟩ : ∃ n, cl.length = n := ⟨_, rfl⟩
  unfold bV at HR2
  have h1' : ¬ (4000 : Int) < (s.size : Int) := by omega
  clear h1
  go_enter Tryz.func3, Tryz.ntmps3
  go_wp2_with (fail)
  refine (HR1.out _ HG.out).mono ?_
  rintro e w1 ⟨cv, ev, rfl, ⟨sv, rfl, hown⟩, hE, hb1⟩
  have hown : w1.ownsRow w.heap.size 9 1 sv n (cl.map Value.string) := by rw [← hn]; exact hown
  obtain ⟨a, k, rfl⟩ := own_form hown
  have HB1 := Aside0.mk hb1
  have HOW := Aside0.mk hown
  have HE1 := Aside0.mk hE
  clear hb1 hown hE
  go_wp2_with (fail)
  have HNA : Aside0 (Below w1.heap.size w1 (w1.alloc (.cells #[.string cw, .slice a n k] 25))) := ⟨(Below.refl _ _).alloc (Nat.le_refl _) _⟩
  refine (HR2.out _).mono ?_
  rintro e w2 ⟨cv2, rfl, ⟨a2, k2, rfl, hL2, hF2⟩, hb2⟩
  have HS2 : Aside0 (Below w1.heap.size w1 w2) := ⟨below_step (w := w1) HNA.out hb2⟩
  have HB2 : Aside0 (Below w.heap.size w w2) := ⟨below_step (w := w) HB1.out HS2.out⟩
  have t0 : w2.cell? ⟨w1.heap.size, 0, none⟩ = some (.string cw) := pw_cell_below hb2 (by simp)
  have t1 : w2.cell? ⟨w1.heap.size, 1, none⟩ = some (.slice a n k) := pw_cell_below hb2 (by simp)
  have hL2 : LSt w2 a2 n cl := by rw [← hn]; exact hL2
  have HL2 := Aside0.mk hL2
  have HF2 : Aside0 (0 < n → ∃ g o, a2 = some ⟨g, o, none⟩ ∧ w1.heap.size < g) := ⟨fun h => by
    obtain ⟨g, o, e, q⟩ := hF2 (by show 0 < cl.length; omega)
    exact ⟨g, o, e, by simp at q; omega⟩⟩
  have hn2 : (cw, cl).snd.length = n := hn
  have hz12 : w1.heap.size < w2.heap.size := World.block_lt_of_cell? _ _ t0
  clear hb2 hL2 hF2
  go_wp2_with (fail)
  have HN3 : Aside0 (Below w2.heap.size w2 ((w2.alloc (.cells #[.string cw, .slice a2 n k2] 25)).alloc (.cells #[.int .i64 (bc : Int), .string bw, .int .i64 bi] 31))) := ⟨((Below.refl _ _).alloc (Nat.le_refl _) _).alloc (by simp) _⟩
  have HIS : Aside0 (∀ W, EA W ev (bc, bw, bi) → GE W → Calls Tryz.prog 12 #[ev, .agg #[.int .i64 (bc : Int), .string bw, .int .i64 bi]] W fun e w' => e = .returned (.bool true) ∧ Below W.heap.size W w') := ⟨fun W h1 h2 => is_ok ev (bc, bw, bi) W h1 h2⟩
  refine (HIS.out _ ((HE1.out.below HS2.out).below HN3.out) (HG.out.2.2.2.below (below_step (w := w) HB2.out HN3.out))).mono ?_
  rintro e w4 ⟨rfl, hb4⟩
  have HS4 : Aside0 (Below w2.heap.size w2 w4) := ⟨below_step (w := w2) HN3.out hb4⟩
  have s0 := pw_cell_below HS4.out t0
  have s1 := pw_cell_below HS4.out t1
  have u0 : w4.cell? ⟨w2.heap.size, 0, none⟩ = some (.string cw) := pw_cell_below hb4 (by simp)
  have u1 : w4.cell? ⟨w2.heap.size, 1, none⟩ = some (.slice a2 n k2) := pw_cell_below hb4 (by simp)
  have HLA : Aside0 (LSt w4 a n cl) := ⟨own_lst (own_below (own_below HOW.out HS2.out) HS4.out) HL2.out.2.1 HL2.out.2.2.2⟩
  have hz24 : w2.heap.size < w4.heap.size := World.block_lt_of_cell? _ _ u0
  have hsm := same_self (cw, cl)
  clear hb4 t0 t1
  go_wp2_with (fail)
  refine (same_calls cw cw cl cl a a2 n n k k2 _ HLA.out (HL2.out.below HS4.out)).mono ?_
  rintro e w5 ⟨rfl, hb5⟩
  have HS5 : Aside0 (Below w2.heap.size w2 w5) := ⟨below_step (w := w2) HS4.out hb5⟩
  have HB5 : Aside0 (Below w.heap.size w w5) := ⟨below_step (w := w) HB2.out HS5.out⟩
  have r0 := pw_cell_below hb5 s0
  have r1 := pw_cell_below hb5 s1
  have v0 := pw_cell_below hb5 u0
  have v1 := pw_cell_below hb5 u1
  have hz15 : w1.heap.size < w5.heap.size := World.block_lt_of_cell? _ _ r0
  have HO5 := Aside0.mk (own_below (own_below HOW.out HS2.out) HS5.out)
  have HGA : ∃ ga, (0 < n → a = some ⟨ga, 0, none⟩ ∧ ∀ j, j < n → (w5.cell? ⟨ga, j, none⟩).isSome = true ∧ w5.frozen? ⟨ga, j, none⟩ = false) ∧ ga ≠ w1.heap.size ∧ ga ≠ w2.heap.size ∧ w.heap.size ≤ ga ∧ (0 < n → ∀ b o, a2 = some ⟨b, o, none⟩ → b ≠ ga) := by
    rcases Nat.eq_zero_or_pos n with h0 | h0
    · exact ⟨w5.heap.size, fun h => by omega, by omega, by have := HS5.out.size; have := World.block_lt_of_cell? _ _ v0; exact fun q => by simp at this; omega, HB5.out.size, fun h => by omega⟩
    · rcases HO5.out.2 with ⟨_, q⟩ | ⟨ga, cap, cur, e1, hge, _⟩
      · omega
      · injection e1 with e1 _ e3
        subst e1
        subst e3
        have hlt : ga < w1.heap.size := by
          have := HOW.out.lt ga rfl
          exact this.2
        refine ⟨ga, fun _ => ⟨rfl, fun j hj => ⟨?_, ?_⟩⟩, by omega, by omega, hge, fun _ b o q => ?_⟩
        · have := HO5.out.cells (g := ga) rfl j (.string (cl[j]'(by omega))) (by rw [List.getElem?_map, List.getElem?_eq_getElem (by omega)]; rfl)
          rw [Addr.add_mid, Nat.zero_add] at this
          rw [this]; rfl
        · exact HO5.out.frozenAt j
        · obtain ⟨b2, o2, q2, q3⟩ := HF2.out h0
          rw [q2] at q
          injection q with q
          injection q with q
          omega
  obtain ⟨ga, HA1, hga1, hga2, hga3, HA2⟩ := HGA
  have HA1 := Aside0.mk HA1
  have HA2 := Aside0.mk HA2
  clear hb5 s0 s1 u0 u1
  go_wp2_with (fail)
  go_loopw [7] (fun v7 wl => ∃ i : Nat, i ≤ n ∧ v7 = .int .i64 i ∧ Aside0 (AG ga w5 wl ∧ Below w.heap.size w wl)) (fun v7 _ => n - (intOf v7).toNat)
  case atStart => exact ⟨0, Nat.zero_le _, rfl, ⟨AG.refl _ _, HB5.out⟩⟩
  case round =>
    obtain ⟨i, hi, rfl, HX⟩ := hrel
    have hn62 : n ≤ 8796093022208 := HL2.out.2.1
    have x0 : wr.cell? ⟨w1.heap.size, 0, none⟩ = some (.string cw) := (HX.out.1.1 ⟨w1.heap.size, 0, none⟩ hga1.symm).trans r0
    have x1 : wr.cell? ⟨w1.heap.size, 1, none⟩ = some (.slice a n k) := (HX.out.1.1 ⟨w1.heap.size, 1, none⟩ hga1.symm).trans r1
    by_cases h3 : i < n
    · have h3' : (i : Int) < (n : Int) := by omega
      have h0' : (0 : Int) ≤ (i : Int) := by omega
      obtain ⟨rfl, hcf⟩ := HA1.out (by omega)
      have hs : (wr.cell? ⟨ga, i, none⟩).isSome = true := by rw [HX.out.1.2.2]; exact (hcf i h3).1
      obtain ⟨cv0, hcv0⟩ := Option.isSome_iff_exists.1 hs
      have hfz : wr.frozen? ⟨ga, i, none⟩ = false := (HX.out.1.2.1 _).trans (hcf i h3).2
      have HNX := Aside0.mk (And.intro (HX.out.1.set i (.string ⟨#[115, 112, 111, 105, 108, 116]⟩) hs) (HX.out.2.setCell (p := ⟨ga, i, none⟩) hga3 (.string ⟨#[115, 112, 111, 105, 108, 116]⟩)))
      clear hcf hs r0 r1 v0 v1
      go_wp2_with (fail)
      exact ⟨⟨i + 1, by omega, by simp, ⟨HNX.out⟩⟩, by simp [intOf]; omega⟩
    · have h3' : ¬ (i : Int) < (n : Int) := by omega
      have y0 : wr.cell? ⟨w2.heap.size, 0, none⟩ = some (.string cw) := (HX.out.1.1 ⟨w2.heap.size, 0, none⟩ hga2.symm).trans v0
      have y1 : wr.cell? ⟨w2.heap.size, 1, none⟩ = some (.slice a2 n k2) := (HX.out.1.1 ⟨w2.heap.size, 1, none⟩ hga2.symm).trans v1
      have HLB : Aside0 (LSt wr a2 n cl) := ⟨HX.out.1.lst (HL2.out.below HS5.out) HA2.out⟩
      clear r0 r1 v0 v1
      go_wp2_with (fail)
      refine (HR1.out _ (HG.out.below HX.out.2)).mono ?_
      rintro e w6 ⟨cv6, ev6, rfl, ⟨sv6, rfl, hown6⟩, hE6, hb6⟩
      have hown6 : w6.ownsRow wr.heap.size 9 1 sv6 n (cl.map Value.string) := by rw [← hn]; exact hown6
      obtain ⟨a6, k6, rfl⟩ := own_form hown6
      have HB6 : Aside0 (Below w.heap.size w w6) := ⟨below_step (w := w) HX.out.2 hb6⟩
      have HLC : Aside0 (LSt w6 a6 n cl) := ⟨own_lst hown6 HL2.out.2.1 HL2.out.2.2.2⟩
      have HLD : Aside0 (LSt w6 a2 n cl) := ⟨HLB.out.below hb6⟩
      have z0 := pw_cell_below hb6 y0
      have z1 := pw_cell_below hb6 y1
      have hz6 : w2.heap.size < w6.heap.size := World.block_lt_of_cell? _ _ z0
      have hz6' : w2.heap.size ≠ w6.heap.size := Nat.ne_of_lt hz6
      have HN6 : Aside0 (Below w6.heap.size w6 (w6.alloc (.cells #[.string cw, .slice a6 n k6] 25))) := ⟨(Below.refl _ _).alloc (Nat.le_refl _) _⟩
      clear hb6 hown6 hE6 y0 y1
      go_wp2_with (fail)
      refine (same_calls cw cw cl cl a6 a2 n n k6 k2 _ (HLC.out.below HN6.out) (HLD.out.below HN6.out)).mono ?_
      rintro e w8 ⟨rfl, hb8⟩
      have HB8 : Aside0 (Below w.heap.size w w8) := ⟨below_step (w := w) (below_step (w := w) HB6.out HN6.out) hb8⟩
      clear hb8
      go_wp2_with (fail)
      refine (lives_calls _ (HG.out.below HB8.out)).mono ?_
      rintro e w9 ⟨rfl, hb9⟩
      have HB9 : Aside0 (Below w.heap.size w w9) := ⟨below_step (w := w) HB8.out hb9⟩
      clear hb9
      go_wp2_with (fail)
      go_ret
      exact ⟨rfl, HB9.out⟩
set_option maxHeartbeats 32000000 in
set_option maxRecDepth 100000 in
theorem law_walk (s : ByteArray) (w : World) (hb0 : s.size ≤ 140737488351232) (hG : GW w) : Calls Tryz.prog 3 #[.string s] w fun e w' => e = .returned (.bool true) ∧ Below w.heap.size w w' := by
  have HG := Aside0.mk hG
  clear hG hb0
  by_cases hl : 4000 < s.size ∧ s.size ≤ 262144
  · obtain ⟨h1, h2⟩ := hl
    have h1' : (4000 : Int) < (s.size : Int) := by omega
    have h2' : (s.size : Int) ≤ 262144 := by omega
    clear h1 h2
    go_enter Tryz.func3, Tryz.ntmps3
    go_wp2_with (fail)
    refine (lives_calls _ HG.out).mono ?_
    rintro e w7 ⟨rfl, hb7⟩
    go_wp2_with (fail)
    go_ret
    exact ⟨rfl, hb7⟩
  · by_cases h1 : 4000 < s.size
    · exact law_long s w (by omega) HG.out
    · exact law_short s w (by omega) HG.out
end Go.Proofs.YtopcidphlleciaaGreatDoor.S

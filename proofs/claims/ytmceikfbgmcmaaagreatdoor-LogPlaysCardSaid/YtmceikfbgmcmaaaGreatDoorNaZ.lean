/- The names of a log's files. Which file of a log a name is of. The program's number. The document's Number. -/
import Derived.Test.YtmceikfbgmcmaaaGreatDoorFrZ
import Derived.Test.YtmceikfbgmcmaaaGreatDoorShelfA
import Derived.Lib.AppendIntMem
import Derived.Lib.SlBytesConst
namespace Go.Proofs.YtmceikfbgmcmaaaGreatDoor.D
open Go.RowKit Go.Extern.Stop Go.Stop Go.Extern Go.Proofs.YtmceikfbgmcmaaaGreatDoorW.PrintWords Go.Proofs.YtmceikfbgmcmaaaGreatDoorW.PrintLast Go.Proofs.YtmceikfbgmcmaaaGreatDoorW.PrintMore
set_option linter.unusedVariables false
set_option linter.unusedSimpArgs false
section
theorem tab_below {P : Program} {w w1 : World} {name : String} {k : IntKind} {zs : List Int} (h : Lib.TabIs P w name k zs) (hb : Below w.heap.size w w1) : Lib.TabIs P w1 name k zs := by
  unfold Lib.TabIs World.var? at *
  cases hg : P.globalNamed name with
  | none => simp [hg] at h
  | some g =>
    simp [hg] at h ⊢
    rcases he : w.heap[g]? with _ | o
    · simp [he] at h
    · have hlt : g < w.heap.size := (Array.getElem?_eq_some_iff.1 he).1
      rw [hb.block g hlt]
      exact h
/-- The table of powers of ten. -/
def GT (w : World) : Prop := Lib.TabIs Tryz.prog w "internal/strconv.uint64pow10" .u64 Lib.pow10Tab
theorem GT.below {w w1 : World} (h : GT w) (hb : Below w.heap.size w w1) : GT w1 := tab_below h hb
theorem itoa_calls (n : Nat) (w : World) (hn : n ≤ 9223372036854775807) (hT : GT w) : Calls Tryz.prog 74 #[.int .i64 (n : Int)] w fun e w' => e = .returned (.string (mkB (Lib.decDigits n))) ∧ Below w.heap.size w w' := by
  refine (Tryz.strconv_Itoa (n : Int) (by omega) (by omega) w hT).mono ?_
  rintro e w' ⟨rfl, k, os, rfl⟩
  refine ⟨?_, Lib.below_grow _ _ (Nat.le_refl _) _ _⟩
  unfold Lib.itoa
  rw [if_neg (by omega)]
  rfl
set_option maxHeartbeats 8000000 in
set_option maxRecDepth 100000 in
theorem file_calls (n : Nat) (w : World) (hn : n < 100000000) (hT : GT w) : Calls Tryz.prog 35 #[.int .i64 (n : Int)] w fun e w' => e = .returned (.string (fileF n)) ∧ Below w.heap.size w w' := by
  have HI := Aside0.mk (itoa_calls n w (by omega) hT)
  obtain ⟨hl, hp⟩ := pad8_dec n hn
  obtain ⟨d, hd⟩ : ∃ d, mkB (Lib.decDigits n) = d := ⟨_, rfl⟩
  have hds : d.size = (Lib.decDigits n).length := by rw [← hd, mkB_size]
  have hd8 : d.size ≤ 8 := by omega
  obtain ⟨z, hz⟩ : ∃ z, (⟨#[48, 48, 48, 48, 48, 48, 48, 48]⟩ : ByteArray).extract d.size 8 = z := ⟨_, rfl⟩
  have hzs : z.size = 8 - d.size := by rw [← hz, ByteArray.size_extract]; show min 8 8 - d.size = _; omega
  have hsl : ∀ W, (Instr.slice 9 (.string ⟨#[48, 48, 48, 48, 48, 48, 48, 48]⟩) (some (.int .i64 (d.size : Int))) none none).run Tryz.prog W = .ok (.string z) W := fun W => by
    have := run_slice_string_l (P := Tryz.prog) W 9 ⟨#[48, 48, 48, 48, 48, 48, 48, 48]⟩ Tryz.underlying9 .i64 (d.size : Int) (by omega) (by show (d.size : Int) ≤ ((8 : Nat) : Int); omega)
    rw [this, ← hz]
    rfl
  have HR : Aside0 ((⟨#[108, 111, 103, 47]⟩ : ByteArray) ++ z ++ d = fileF n) := ⟨tl_inj (by
    rw [tl_append, tl_append, tl_fileF, ← hd, tl_mkB]
    unfold fileL
    rw [← hp, ← hz, tl_extract]
    have h8 : ((tl (⟨#[48, 48, 48, 48, 48, 48, 48, 48]⟩ : ByteArray)).take 8).drop d.size = List.replicate (8 - (Lib.decDigits n).length) 48 := by
      rw [← hds]
      match d.size, hd8 with
      | 0, _ => rfl
      | 1, _ => rfl
      | 2, _ => rfl
      | 3, _ => rfl
      | 4, _ => rfl
      | 5, _ => rfl
      | 6, _ => rfl
      | 7, _ => rfl
      | 8, _ => rfl
    rw [h8, List.append_assoc])⟩
  have hb1 : ¬ 9223372036854775807 < 4 + z.size := by omega
  have hb2 : ¬ 9223372036854775807 < ((⟨#[108, 111, 103, 47]⟩ : ByteArray) ++ z).size + d.size := by rw [ByteArray.size_append]; show ¬ _ < 4 + z.size + d.size; omega
  have hb3 : ¬ 9223372036854775807 < 4 + z.size + d.size := by omega
  rw [hd] at HI
  clear hl hp hds hz hzs hd hT
  go_enter Tryz.func35, Tryz.ntmps35
  go_wp2_with (fail)
  refine HI.out.mono ?_
  rintro e w1 ⟨rfl, hw1⟩
  go_wp2_with (fail)
  go_ret
  exact ⟨by rw [← HR.out]; rfl, hw1⟩
abbrev b0 : Value := .int .u8 48
abbrev row12 (a b c d e f g h : Value) : Array Value := #[.int .u8 108, .int .u8 111, .int .u8 103, .int .u8 47, a, b, c, d, e, f, g, h]
theorem conv_const (w : World) : (convert 116 116 (.slice (some ⟨w.heap.size, 0, none⟩) 12 12)).run Tryz.prog (w.alloc (.cells (row12 b0 b0 b0 b0 b0 b0 b0 b0) 5)) = .ok (.slice (some ⟨w.heap.size, 0, none⟩) 12 12) (w.alloc (.cells (row12 b0 b0 b0 b0 b0 b0 b0 b0) 5 (12, 13))) :=
  Lib.run_convert_bytes_const w 116 5 (row12 b0 b0 b0 b0 b0 b0 b0 b0) 12 12 Tryz.underlying116 Tryz.underlying5
/-- The digits, stored from behind. -/
abbrev chain (W : World) (g : Nat) (n : Int) : World := (((((((W.setCell ⟨g, 11, none⟩ (.int .u8 (48 + n % 10))).setCell ⟨g, 10, none⟩ (.int .u8 (48 + n / 10 % 10))).setCell ⟨g, 9, none⟩ (.int .u8 (48 + n / 10 / 10 % 10))).setCell ⟨g, 8, none⟩ (.int .u8 (48 + n / 10 / 10 / 10 % 10))).setCell ⟨g, 7, none⟩ (.int .u8 (48 + n / 10 / 10 / 10 / 10 % 10))).setCell ⟨g, 6, none⟩ (.int .u8 (48 + n / 10 / 10 / 10 / 10 / 10 % 10))).setCell ⟨g, 5, none⟩ (.int .u8 (48 + n / 10 / 10 / 10 / 10 / 10 / 10 % 10))).setCell ⟨g, 4, none⟩ (.int .u8 (48 + n / 10 / 10 / 10 / 10 / 10 / 10 / 10 % 10))
theorem set_same (W : World) (g i : Nat) (v : Value) (h : (W.cell? ⟨g, i, none⟩).isSome = true) : (W.setCell ⟨g, i, none⟩ v).cell? ⟨g, i, none⟩ = some v := World.cell?_setCell_same' _ _ _ h
theorem set_other (W : World) (g i j : Nat) (v : Value) (h : i ≠ j) : (W.setCell ⟨g, i, none⟩ v).cell? ⟨g, j, none⟩ = W.cell? ⟨g, j, none⟩ := World.cell?_setCell_other (h := fun q => by injection q with _ q; exact h q) ..
theorem dgv (n j m : Nat) (x : Int) (hm : m = n / 10 ^ j) (hx : x = (m : Int)) : some (Value.int .u8 (48 + x % 10)) = some (.int .u8 (((Lib.dg n j).toNat : Nat) : Int)) := by
  rw [dg_nat, ← hm, hx]
  congr 2
theorem conv_chain (W : World) (g n : Nat) (c0 : W.cell? ⟨g, 0, none⟩ = some (.int .u8 108)) (c1 : W.cell? ⟨g, 1, none⟩ = some (.int .u8 111)) (c2 : W.cell? ⟨g, 2, none⟩ = some (.int .u8 103)) (c3 : W.cell? ⟨g, 3, none⟩ = some (.int .u8 47)) (cs : ∀ i, 4 ≤ i → i < 12 → W.cell? ⟨g, i, none⟩ = some b0) : (convert 116 9 (.slice (some ⟨g, 0, none⟩) 12 12)).run Tryz.prog (chain W g n) = .ok (.string (fileF n)) (chain W g n) := by
  have h := run_convert_bytes_back (chain W g n) 116 9 5 ⟨g, 0, none⟩ 12 (fileL n) Tryz.underlying116 Tryz.underlying5 Tryz.underlying9 fun j hj => by
    have ha : (⟨g, 0, none⟩ : Addr).add j = ⟨g, j, none⟩ := by simp [Addr.add]; omega
    rw [ha]
    have hs : ∀ i, 4 ≤ i → i < 12 → (W.cell? ⟨g, i, none⟩).isSome = true := fun i h1 h2 => by rw [cs i h1 h2]; rfl
    have hl : (fileL n).length = 12 := by unfold fileL; rw [List.length_append, pad8_len]; rfl
    rw [hl] at hj
    unfold chain
    match j, hj with
    | 0, _ => repeat rw [set_other _ _ _ _ _ (by decide)]
              rw [c0]; rfl
    | 1, _ => repeat rw [set_other _ _ _ _ _ (by decide)]
              rw [c1]; rfl
    | 2, _ => repeat rw [set_other _ _ _ _ _ (by decide)]
              rw [c2]; rfl
    | 3, _ => repeat rw [set_other _ _ _ _ _ (by decide)]
              rw [c3]; rfl
    | 4, _ => rw [set_same _ _ _ _ (by (repeat rw [set_other _ _ _ _ _ (by decide)]); exact hs 4 (by decide) (by decide))]; exact dgv n 7 (n / 10000000) _ rfl (by omega)
    | 5, _ => rw [set_other _ _ _ _ _ (by decide), set_same _ _ _ _ (by (repeat rw [set_other _ _ _ _ _ (by decide)]); exact hs 5 (by decide) (by decide))]; exact dgv n 6 (n / 1000000) _ rfl (by omega)
    | 6, _ => rw [set_other _ _ _ _ _ (by decide), set_other _ _ _ _ _ (by decide), set_same _ _ _ _ (by (repeat rw [set_other _ _ _ _ _ (by decide)]); exact hs 6 (by decide) (by decide))]; exact dgv n 5 (n / 100000) _ rfl (by omega)
    | 7, _ => rw [set_other _ _ _ _ _ (by decide), set_other _ _ _ _ _ (by decide), set_other _ _ _ _ _ (by decide), set_same _ _ _ _ (by (repeat rw [set_other _ _ _ _ _ (by decide)]); exact hs 7 (by decide) (by decide))]; exact dgv n 4 (n / 10000) _ rfl (by omega)
    | 8, _ => rw [set_other _ _ _ _ _ (by decide), set_other _ _ _ _ _ (by decide), set_other _ _ _ _ _ (by decide), set_other _ _ _ _ _ (by decide), set_same _ _ _ _ (by (repeat rw [set_other _ _ _ _ _ (by decide)]); exact hs 8 (by decide) (by decide))]; exact dgv n 3 (n / 1000) _ rfl (by omega)
    | 9, _ => rw [set_other _ _ _ _ _ (by decide), set_other _ _ _ _ _ (by decide), set_other _ _ _ _ _ (by decide), set_other _ _ _ _ _ (by decide), set_other _ _ _ _ _ (by decide), set_same _ _ _ _ (by (repeat rw [set_other _ _ _ _ _ (by decide)]); exact hs 9 (by decide) (by decide))]; exact dgv n 2 (n / 100) _ rfl (by omega)
    | 10, _ => rw [set_other _ _ _ _ _ (by decide), set_other _ _ _ _ _ (by decide), set_other _ _ _ _ _ (by decide), set_other _ _ _ _ _ (by decide), set_other _ _ _ _ _ (by decide), set_other _ _ _ _ _ (by decide), set_same _ _ _ _ (by (repeat rw [set_other _ _ _ _ _ (by decide)]); exact hs 10 (by decide) (by decide))]; exact dgv n 1 (n / 10) _ rfl (by omega)
    | 11, _ => rw [set_other _ _ _ _ _ (by decide), set_other _ _ _ _ _ (by decide), set_other _ _ _ _ _ (by decide), set_other _ _ _ _ _ (by decide), set_other _ _ _ _ _ (by decide), set_other _ _ _ _ _ (by decide), set_other _ _ _ _ _ (by decide), set_same _ _ _ _ (hs 11 (by decide) (by decide))]; exact dgv n 0 n _ (by simp) rfl
  have hl : (fileL n).length = 12 := by unfold fileL; rw [List.length_append, pad8_len]; rfl
  rw [hl] at h
  exact h
set_option maxHeartbeats 16000000 in
set_option maxRecDepth 100000 in
theorem rfile_calls (n : Nat) (w : World) (hn : n < 100000000) : Calls Tryz.prog 50 #[.int .i64 (n : Int)] w fun e w' => e = .returned (.string (fileF n)) ∧ Below w.heap.size w w' := by
  have hcs0 := conv_const w
  obtain ⟨W, hW⟩ : ∃ W, w.alloc (.cells (row12 b0 b0 b0 b0 b0 b0 b0 b0) 5 (12, 13)) = W := ⟨_, rfl⟩
  have hb := heap_alloc_new w (.cells (row12 b0 b0 b0 b0 b0 b0 b0 b0) 5 (12, 13))
  have HB : Aside0 (Below w.heap.size w W) := ⟨by rw [← hW]; exact (Below.refl _ _).alloc (Nat.le_refl _) _⟩
  have c0 : W.cell? ⟨w.heap.size, 0, none⟩ = some (.int .u8 108) := by rw [← hW, cell_of_row _ _ _ _ _ _ hb]; rfl
  have c1 : W.cell? ⟨w.heap.size, 1, none⟩ = some (.int .u8 111) := by rw [← hW, cell_of_row _ _ _ _ _ _ hb]; rfl
  have c2 : W.cell? ⟨w.heap.size, 2, none⟩ = some (.int .u8 103) := by rw [← hW, cell_of_row _ _ _ _ _ _ hb]; rfl
  have c3 : W.cell? ⟨w.heap.size, 3, none⟩ = some (.int .u8 47) := by rw [← hW, cell_of_row _ _ _ _ _ _ hb]; rfl
  have cs : ∀ i, 4 ≤ i → i < 12 → W.cell? ⟨w.heap.size, i, none⟩ = some b0 := fun i h1 h2 => by
    rw [← hW, cell_of_row _ _ _ _ _ _ hb]
    match i, h1, h2 with
    | 4, _, _ => rfl
    | 5, _, _ => rfl
    | 6, _, _ => rfl
    | 7, _, _ => rfl
    | 8, _, _ => rfl
    | 9, _, _ => rfl
    | 10, _, _ => rfl
    | 11, _, _ => rfl
  have f : ∀ i, i < 12 → W.frozen? ⟨w.heap.size, i, none⟩ = false := fun i hi => by
    rw [← hW]
    unfold World.frozen?
    rw [hb]
    show (decide (12 ≤ i) && decide (i < 13)) = false
    rw [decide_eq_false (by omega)]
    rfl
  have d4 := cs 4 (by decide) (by decide)
  have d5 := cs 5 (by decide) (by decide)
  have d6 := cs 6 (by decide) (by decide)
  have d7 := cs 7 (by decide) (by decide)
  have d8 := cs 8 (by decide) (by decide)
  have d9 := cs 9 (by decide) (by decide)
  have d10 := cs 10 (by decide) (by decide)
  have d11 := cs 11 (by decide) (by decide)
  have f4 := f 4 (by decide)
  have f5 := f 5 (by decide)
  have f6 := f 6 (by decide)
  have f7 := f 7 (by decide)
  have f8 := f 8 (by decide)
  have f9 := f 9 (by decide)
  have f10 := f 10 (by decide)
  have f11 := f 11 (by decide)
  have hcv := conv_chain W w.heap.size n c0 c1 c2 c3 cs
  have HBC : Aside0 (Below w.heap.size w (chain W w.heap.size n)) := ⟨(((((((HB.out.setCell (Nat.le_refl _) _).setCell (Nat.le_refl _) _).setCell (Nat.le_refl _) _).setCell (Nat.le_refl _) _).setCell (Nat.le_refl _) _).setCell (Nat.le_refl _) _).setCell (Nat.le_refl _) _).setCell (Nat.le_refl _) _⟩
  rw [hW] at hcs0
  have n0 : (0 : Int) ≤ (n : Int) := by omega
  clear hb hW cs f c0 c1 c2 c3
  go_enter Tryz.func50, Tryz.ntmps50
  go_wp2_with (fail)
  refine wp_loop_rounds 9 ?_
  rw [rounds_succ]
  go_wp2_with (fail)
  rw [rounds_succ]
  go_wp2_with (fail)
  rw [rounds_succ]
  go_wp2_with (fail)
  rw [rounds_succ]
  go_wp2_with (fail)
  rw [rounds_succ]
  go_wp2_with (fail)
  rw [rounds_succ]
  go_wp2_with (fail)
  rw [rounds_succ]
  go_wp2_with (fail)
  rw [rounds_succ]
  go_wp2_with (fail)
  rw [rounds_succ]
  go_wp2_with (fail)
  go_ret
  exact ⟨rfl, HBC.out⟩
end
section
/-- What Atoi's two errors' variables hold. -/
def GS (w : World) : Prop := (∃ te pe, w.var? Tryz.prog "strconv.ErrSyntax" = some #[.iface te pe]) ∧ ∃ te pe, w.var? Tryz.prog "strconv.ErrRange" = some #[.iface te pe]
theorem var_below {P : Program} {w w1 : World} {name : String} {x : Array Value} (h : w.var? P name = some x) (hb : Below w.heap.size w w1) : w1.var? P name = some x := by
  unfold World.var? at *
  cases hg : P.globalNamed name with
  | none => simp [hg] at h
  | some g =>
    simp [hg] at h ⊢
    rcases he : w.heap[g]? with _ | o
    · simp [he] at h
    · have hlt : g < w.heap.size := (Array.getElem?_eq_some_iff.1 he).1
      rw [hb.block g hlt]
      exact h
theorem GS.below {w w1 : World} (h : GS w) (hb : Below w.heap.size w w1) : GS w1 := by
  obtain ⟨⟨a, b, h1⟩, c, d, h2⟩ := h
  exact ⟨⟨a, b, var_below h1 hb⟩, c, d, var_below h2 hb⟩
/-- Atoi of any text: a number, or an error. -/
theorem atoi_calls (s : ByteArray) (w : World) (hs : s.size ≤ 281474976710656) (hG : GS w) : Calls Tryz.prog 82 #[.string s] w fun e w' => ∃ (v : Int) (ev : Value), e = .returned (.tuple #[.int .i64 v, ev]) ∧ ((Lib.atoiAll (tl s) = .ok v ∧ ev = .nilIface) ∨ (∀ x, Lib.atoiAll (tl s) ≠ .ok x) ∧ ∃ N, ev = .iface 171 (.pointer (some ⟨N, 0, none⟩))) ∧ Below w.heap.size w w' := by
  rcases h : Lib.atoiAll (tl s) with v | _ | _
  · refine (Tryz.strconv_Atoi_ok s (by omega) v h w).mono ?_
    rintro e w' ⟨rfl, hw⟩
    refine ⟨v, _, rfl, .inl ⟨rfl, rfl⟩, ?_⟩
    rcases hw with rfl | ⟨t, rfl⟩
    · exact Below.refl _ _
    · exact Lib.bytesWorld_below w _ t
  · obtain ⟨⟨te, pe, hv⟩, _⟩ := hG
    refine (Tryz.strconv_Atoi_syntax_var s hs h te pe w hv).mono ?_
    rintro e w' ⟨N, rfl, _, _, hb⟩
    exact ⟨_, _, rfl, .inr ⟨fun x q => (by cases q), N, rfl⟩, hb⟩
  · obtain ⟨_, te, pe, hv⟩ := hG
    refine (Tryz.strconv_Atoi_range_var s hs h te pe w hv).mono ?_
    rintro e w' ⟨N, rfl, _, _, hb⟩
    exact ⟨_, _, rfl, .inr ⟨fun x q => (by cases q), N, rfl⟩, hb⟩
theorem valD_ge (l : BL) : ∀ a, a ≤ valD a l := by
  induction l with
  | nil => intro a; exact Nat.le_refl a
  | cons c r ih =>
    intro a
    rw [valD_cons]
    have := ih (10 * a + (c.toNat - 48))
    omega
theorem parse_dig (l : BL) : ∀ a, l.all digB = true → valD a l < 1000000000000000000 → Lib.parseUint10 a l = .ok (valD a l) := by
  induction l with
  | nil => intro a _ _; rfl
  | cons c r ih =>
    intro a h hv
    rw [List.all_cons, Bool.and_eq_true] at h
    have hc := dig_val h.1
    have h1 := valD_ge (c :: r) a
    have h2 := ih (10 * a + (c.toNat - 48)) h.2 hv
    rw [valD_cons] at hv
    have h3 := valD_ge r (10 * a + (c.toNat - 48))
    rw [valD_cons, Lib.parseUint10, if_pos hc, if_neg (by omega), if_neg (by omega), Nat.mul_comm a 10]
    exact h2
theorem atoi_pad8 (m : Nat) (h : m < 100000000) : Lib.atoiAll (pad8 m) = .ok (m : Int) := by
  have hd := pad8_dig m
  have hv := valD_pad8 m h
  have hp := parse_dig (pad8 m) 0 hd (by rw [hv]; omega)
  rw [hv] at hp
  obtain ⟨c, r, hcr⟩ : ∃ c r, pad8 m = c :: r := ⟨_, _, pad8_eq m⟩
  rw [hcr] at hd hp ⊢
  rw [List.all_cons, Bool.and_eq_true] at hd
  have hc := dig_val hd.1
  unfold Lib.atoiAll
  simp only
  rw [if_neg (by omega)]
  unfold Lib.parseMag
  rw [if_neg (by simp), hp]
  simp only
  rw [if_neg (by omega), if_neg (by omega), if_neg (by omega)]
theorem cut_file (m : Nat) : Lib.hasPrefix (fileL m) [108, 111, 103, 47] = true ∧ Lib.trimPrefix (fileL m) [108, 111, 103, 47] = pad8 m := by
  have h : Lib.hasPrefix (fileL m) [108, 111, 103, 47] = true := by
    unfold Lib.hasPrefix fileL
    simp
  refine ⟨h, ?_⟩
  unfold Lib.trimPrefix
  rw [if_pos h]
  rfl
theorem trim_size (name : ByteArray) (p : BL) : (⟨(Lib.trimPrefix (tl name) p).toArray⟩ : ByteArray).size ≤ name.size := by
  show (Lib.trimPrefix (tl name) p).toArray.size ≤ _
  rw [List.size_toArray]
  have hl : (tl name).length = name.size := tl_size name
  unfold Lib.trimPrefix
  split
  · rw [List.length_drop]; omega
  · omega
end
section
theorem str_eq (a b : ByteArray) : (a.toList == b.toList) = decide (a = b) := by
  rw [ByteArray.toList_eq, ByteArray.toList_eq]
  by_cases h : a = b
  · rw [decide_eq_true h, h]; simp
  · rw [decide_eq_false h, beq_eq_false_iff_ne]
    exact fun q => h (tl_inj q)
set_option maxHeartbeats 16000000 in
set_option maxRecDepth 100000 in
theorem number_calls (name : ByteArray) (w : World) (hs : name.size ≤ 281474976710656) (hT : GT w) (hG : GS w) : Calls Tryz.prog 42 #[.string name] w fun e w' => e = .returned (.int .i64 (numberF name : Int)) ∧ Below w.heap.size w w' := by
  obtain ⟨t, ht⟩ : ∃ t : ByteArray, (⟨(Lib.trimPrefix (tl name) [108, 111, 103, 47]).toArray⟩ : ByteArray) = t := ⟨_, rfl⟩
  obtain ⟨pre, hpre⟩ : ∃ b, Lib.hasPrefix (tl name) [108, 111, 103, 47] = b := ⟨_, rfl⟩
  have hts : t.size ≤ name.size := by rw [← ht]; exact trim_size name _
  have HC : Aside0 (∀ W, Calls Tryz.prog 81 #[.string name, .string ⟨#[108, 111, 103, 47]⟩] W fun e w' => e = .returned (.tuple #[.string t, .bool pre]) ∧ W = w') := ⟨fun W => (Tryz.strings_CutPrefix name ⟨#[108, 111, 103, 47]⟩ W).mono (by
    rintro e w' ⟨rfl, rfl⟩
    refine ⟨?_, rfl⟩
    rw [← ht, ← hpre])⟩
  have HA := Aside0.mk (fun (W : World) (hb : Below w.heap.size w W) => atoi_calls t W (by omega) (hG.below hb))
  have HYES : Aside0 (1 ≤ numberF name → pre = true ∧ Lib.atoiAll (tl t) = .ok (numberF name : Int)) := ⟨fun h => by
    obtain ⟨h1, h2⟩ := file_number h
    obtain ⟨c1, c2⟩ := cut_file (numberF name)
    have e : tl name = fileL (numberF name) := (congrArg tl h1).symm.trans (tl_fileF _)
    rw [e] at hpre ht
    rw [c1] at hpre
    rw [c2] at ht
    refine ⟨hpre.symm, ?_⟩
    rw [← ht]
    have := atoi_pad8 _ h2
    simpa using this⟩
  have HT := Aside0.mk hT
  have n0 : ∀ (w : World), (binOp .neq 25 .nilIface .nilIface).run Tryz.prog w = .ok (.bool false) w := fun w => by kernel_rfl
  have n1 : ∀ (v : Value) (w : World), (binOp .neq 25 (.iface 171 v) .nilIface).run Tryz.prog w = .ok (.bool true) w := fun v w => by kernel_rfl
  obtain ⟨m, hm⟩ : ∃ m, numberF name = m := ⟨_, rfl⟩
  have HM := Aside0.mk hm
  rw [hm] at HYES ⊢
  clear ht hpre hT hG hts hm
  go_enter Tryz.func42, Tryz.ntmps42
  go_wp2_with (fail)
  refine (HC.out _).mono ?_
  rintro e w1 ⟨rfl, rfl⟩
  go_wp2_with (fail)
  refine (HA.out _ (Below.refl _ _)).mono ?_
  rintro e w1 ⟨v, ev, rfl, hv, hb1⟩
  have HB1 := Aside0.mk hb1
  clear hb1
  cases pre
  case false =>
    obtain rfl : m = 0 := by rcases Nat.eq_zero_or_pos m with q | q; exact q; exact absurd (HYES.out q).1 (by decide)
    go_wp2_with (fail)
    go_ret
    exact ⟨rfl, HB1.out⟩
  case true =>
    rcases hv with ⟨hok, rfl⟩ | ⟨hno, N, rfl⟩
    case inr =>
      obtain rfl : m = 0 := by rcases Nat.eq_zero_or_pos m with q | q; exact q; exact absurd (HYES.out q).2 (hno _)
      go_wp2_with (fail)
      go_ret
      exact ⟨rfl, HB1.out⟩
    case inl =>
      have HV : Aside0 (1 ≤ m → v = (m : Int)) := ⟨fun q => by have := (HYES.out q).2; rw [hok] at this; injection this⟩
      clear hok
      by_cases h1 : v < 1
      · obtain rfl : m = 0 := by rcases Nat.eq_zero_or_pos m with q | q; exact q; exact absurd (HV.out q) (by omega)
        go_wp2_with (fail)
        go_ret
        exact ⟨rfl, HB1.out⟩
      · by_cases h2 : 99999999 < v
        · obtain rfl : m = 0 := by
            rcases Nat.eq_zero_or_pos m with q | q
            · exact q
            · have h3 := HV.out q
              have h4 := (file_number (name := name) (by rw [HM.out]; exact q)).2
              rw [HM.out] at h4
              omega
          go_wp2_with (fail)
          go_ret
          exact ⟨rfl, HB1.out⟩
        · obtain ⟨n, rfl⟩ : ∃ n : Nat, v = (n : Int) := ⟨v.toNat, by omega⟩
          have hn0 : ¬ n = 0 := by omega
          have hn1 : ¬ (n : Int) < 1 := by omega
          have hn2 : ¬ (99999999 : Int) < (n : Int) := by omega
          have HF := Aside0.mk (file_calls n w1 (by omega) (HT.out.below HB1.out))
          have HSE := Aside0.mk (str_eq (fileF n) name)
          by_cases h3 : fileF n = name
          · have hse : ((fileF n).toList == name.toList) = true := by rw [HSE.out, decide_eq_true h3]
            have hnm : n = m := by rw [← HM.out, ← h3, number_file n (by omega)]
            subst hnm
            clear h3
            go_wp2_with (fail)
            refine HF.out.mono ?_
            rintro e w2 ⟨rfl, hb2⟩
            have HB2 := Aside0.mk (below_step (w := w) HB1.out hb2)
            clear hb2
            go_wp2_with (fail)
            go_ret
            exact ⟨rfl, HB2.out⟩
          · have hse : ((fileF n).toList == name.toList) = false := by rw [HSE.out, decide_eq_false h3]
            obtain rfl : m = 0 := by
              rcases Nat.eq_zero_or_pos m with q | q
              · exact q
              · have h4 := HV.out q
                have h5 := (file_number (name := name) (by rw [HM.out]; exact q)).1
                rw [HM.out, show m = n by omega] at h5
                exact absurd h5 h3
            clear h3
            go_wp2_with (fail)
            all_goals first | (exfalso; omega) | skip
            refine HF.out.mono ?_
            rintro e w2 ⟨rfl, hb2⟩
            have HB2 := Aside0.mk (below_step (w := w) HB1.out hb2)
            clear hb2
            go_wp2_with (fail)
            go_ret
            exact ⟨rfl, HB2.out⟩
end
section
theorem valD_snoc (l : BL) (c : UInt8) : ∀ a, valD a (l ++ [c]) = 10 * valD a l + (c.toNat - 48) := by
  induction l with
  | nil => intro a; rw [List.nil_append, valD_cons]; rfl
  | cons d r ih => intro a; rw [List.cons_append, valD_cons, valD_cons, ih]
theorem drop4_take (name : ByteArray) (i : Nat) (h4 : 4 ≤ i) (h : i < name.size) : ((tl name).drop 4).take (i + 1 - 4) = ((tl name).drop 4).take (i - 4) ++ [name[i]] := by
  have hl : i - 4 < ((tl name).drop 4).length := by rw [List.length_drop, tl_size]; omega
  rw [show i + 1 - 4 = (i - 4) + 1 by omega, List.take_succ_eq_append_getElem hl]
  refine congrArg (fun z => _ ++ [z]) ?_
  have e : 4 + (i - 4) = i := by omega
  have h1 : ((tl name).drop 4)[i - 4]? = some name[i] := by
    rw [List.getElem?_drop, e, List.getElem?_eq_getElem (by rw [tl_size]; exact h)]
    rfl
  rw [List.getElem?_eq_getElem hl] at h1
  injection h1
set_option maxHeartbeats 16000000 in
set_option maxRecDepth 100000 in
theorem rnumber_calls (name : ByteArray) (w : World) : Calls Tryz.prog 54 #[.string name] w fun e w' => e = .returned (.int .i64 (numberF name : Int)) ∧ w = w' := by
  obtain ⟨m, hm⟩ : ∃ m, numberF name = m := ⟨_, rfl⟩
  rw [hm]
  by_cases h1 : name.size = 12
  · have h1' : (name.size : Int) = 12 := by omega
    obtain ⟨q, hq⟩ : ∃ q, name.extract 0 4 = q := ⟨_, rfl⟩
    have hql : tl q = (tl name).take 4 := by rw [← hq, tl_extract, List.drop_zero]
    have hsl : ∀ W, (Instr.slice 9 (.string name) none (some (.int .i64 4)) none).run Tryz.prog W = .ok (.string q) W := fun W => by
      have := run_slice_string_h (P := Tryz.prog) W 9 name Tryz.underlying9 .i64 4 (by omega) (by omega)
      rw [this, ← hq]
      rfl
    by_cases h2 : (tl name).take 4 = [108, 111, 103, 47]
    · have hse : (q.toList == [108, 111, 103, 47]) = true := by rw [ByteArray.toList_eq]; show (tl q == _) = true; rw [hql, h2]; rfl
      have HNO : Aside0 (((tl name).drop 4).all digB = false → m = 0) := ⟨fun h => by
        rw [← hm]; unfold numberF numberL
        rw [if_neg]
        rintro ⟨_, _, h3⟩
        rw [h] at h3
        cases h3⟩
      have HYES : Aside0 (((tl name).drop 4).all digB = true → m = valD 0 ((tl name).drop 4)) := ⟨fun h => by
        rw [← hm]; unfold numberF numberL
        rw [if_pos ⟨by rw [tl_size]; exact h1, h2, h⟩]⟩
      have HL : Aside0 (((tl name).drop 4).length = 8) := ⟨by rw [List.length_drop, tl_size]; omega⟩
      clear hm hql h2 hq
      go_enter Tryz.func54, Tryz.ntmps54
      go_wp2_with (fail)
      go_loopw [3, 4] (fun v3 v4 wr => ∃ (i n : Nat), 4 ≤ i ∧ i ≤ 12 ∧ v4 = .int .i64 i ∧ v3 = .int .i64 n ∧ n < 100000000 ∧ Aside0 (w = wr ∧ n = valD 0 (((tl name).drop 4).take (i - 4)) ∧ (((tl name).drop 4).take (i - 4)).all digB = true)) (fun _ v4 _ => 12 - (intOf v4).toNat)
      case atStart => exact ⟨4, 0, by decide, by decide, rfl, rfl, by decide, ⟨rfl, rfl, rfl⟩⟩
      case round =>
        obtain ⟨i, n, hi4, hi, rfl, rfl, hn, HX⟩ := hrel
        by_cases h3 : i < 12
        · have h3' : (i : Int) < 12 := by omega
          have h0' : (0 : Int) ≤ (i : Int) := by omega
          have h4 : i < name.size := by omega
          have h4' : (i : Int) < (name.size : Int) := by omega
          have HT := Aside0.mk (drop4_take name i hi4 h4)
          obtain ⟨c, hc⟩ : ∃ c, name[i]'h4 = c := ⟨_, rfl⟩
          rw [hc] at HT
          have hcl : c.toNat < 256 := c.toNat_lt
          by_cases hd : digB c = true
          · obtain ⟨d1, d2⟩ := dig_val hd
            have d1' : ¬ (c.toNat : Int) < 48 := by omega
            have d2' : ¬ (57 : Int) < (c.toNat : Int) := by omega
            have HN : Aside0 (10 * n + (c.toNat - 48) = valD 0 (((tl name).drop 4).take (i + 1 - 4)) ∧ (((tl name).drop 4).take (i + 1 - 4)).all digB = true) := ⟨by
              rw [HT.out, valD_snoc, ← HX.out.2.1, List.all_append, HX.out.2.2]
              refine ⟨rfl, ?_⟩
              rw [List.all_cons, hd]
              rfl⟩
            have HNL : Aside0 (10 * n + (c.toNat - 48) < 100000000) := ⟨by
              have hb := valD_lt (((tl name).drop 4).take (i + 1 - 4)) 0 HN.out.2
              rw [← HN.out.1, List.length_take, HL.out] at hb
              refine Nat.lt_of_lt_of_le hb ?_
              rw [Nat.zero_add, Nat.one_mul]
              exact Nat.pow_le_pow_right (n := 10) (by decide) (Nat.min_le_right _ _)⟩
            obtain ⟨x, hx⟩ : ∃ x, c.toNat - 48 = x := ⟨_, rfl⟩
            have HCX : Aside0 (c.toNat = x + 48) := ⟨by omega⟩
            rw [hx] at HN HNL
            have hx9 : x ≤ 9 := by omega
            clear hd hx hx9 d1 d2
            go_wp2_with (fail)
            have HV : (10 * (n : Int) + ((c.toNat : Int) - 48)) = ((10 * n + x : Nat) : Int) := by have h := HCX.out; clear HX HT HN HYES HNO HL; omega
            rw [HV]
            exact ⟨⟨i + 1, 10 * n + x, by omega, by omega, rfl, rfl, HNL.out, ⟨HX.out.1, HN.out.1, HN.out.2⟩⟩, by simp [intOf]; omega⟩
          · have hm0 : m = 0 := by
              refine HNO.out ?_
              have h5 := List.take_append_drop (i + 1 - 4) ((tl name).drop 4)
              rw [← h5, List.all_append, HT.out, List.all_append, List.all_cons, Bool.eq_false_iff.2 hd]
              simp
            subst hm0
            by_cases hlo : c.toNat < 48
            · have d1' : (c.toNat : Int) < 48 := by omega
              clear hd
              go_wp2_with (fail)
              go_ret
              exact ⟨rfl, HX.out.1⟩
            · have d1' : ¬ (c.toNat : Int) < 48 := by omega
              have d2' : (57 : Int) < (c.toNat : Int) := by
                unfold digB at hd
                rw [decide_eq_true (by omega), Bool.true_and, decide_eq_true_eq] at hd
                omega
              clear hd
              go_wp2_with (fail)
              go_ret
              exact ⟨rfl, HX.out.1⟩
        · have h3' : ¬ (i : Int) < 12 := by omega
          have HE : m = n := by
            have h5 : ((tl name).drop 4).take (i - 4) = (tl name).drop 4 := List.take_of_length_le (by rw [HL.out]; omega)
            have h6 := HX.out
            rw [h5] at h6
            rw [HYES.out h6.2.2, h6.2.1]
          subst HE
          go_wp2_with (fail)
          go_ret
          exact ⟨rfl, HX.out.1⟩
    · have hse : (q.toList == [108, 111, 103, 47]) = false := by rw [ByteArray.toList_eq]; show (tl q == _) = false; rw [hql, beq_eq_false_iff_ne]; exact h2
      have hm0 : m = 0 := by rw [← hm]; unfold numberF numberL; rw [if_neg]; rintro ⟨_, h3, _⟩; exact h2 h3
      subst hm0
      clear hm hql h2 hq
      go_enter Tryz.func54, Tryz.ntmps54
      go_wp2_with (fail)
      go_ret
      exact ⟨rfl, rfl⟩
  · have h1' : ¬ (name.size : Int) = 12 := by omega
    have hm0 : m = 0 := by rw [← hm]; unfold numberF numberL; rw [if_neg]; rintro ⟨h3, _⟩; rw [tl_size] at h3; exact h1 h3
    subst hm0
    clear hm
    go_enter Tryz.func54, Tryz.ntmps54
    go_wp2_with (fail)
    go_ret
    exact ⟨rfl, rfl⟩
end
end Go.Proofs.YtmceikfbgmcmaaaGreatDoor.D

/- FormatUint, ParseUint, Number. -/
import Derived.Test.YtopcidphlleciaaGreatDoorLayPu
import Derived.Lib.AppendIntMem
import Derived.Shelf.Strconv.Itoa3
namespace Go.Proofs.YtopcidphlleciaaGreatDoor.S
open Go.RowKit Go.Extern.Stop Go.Stop Go.Extern Go.Proofs.YtopcidphlleciaaGreatDoorW.PrintWords Go.Proofs.YtopcidphlleciaaGreatDoorW.PrintLast Go.Proofs.YtopcidphlleciaaGreatDoorW.PrintMore
set_option linter.unusedVariables false
set_option linter.unusedSimpArgs false
theorem tab_below {P : Program} {w w1 : World} {name : String} {k : IntKind} {zs : List Int} (h : Lib.TabIs P w name k zs) (hb : Below w.heap.size w w1) : Lib.TabIs P w1 name k zs := by
  unfold Lib.TabIs World.var? at *
  cases hg : P.globalNamed name with
  | none => simp [hg] at h
  | some g =>
    simp only [hg, Option.bind_some] at h ⊢
    have hlt : g < w.heap.size := by
      rcases Nat.lt_or_ge g w.heap.size with h' | h'
      · exact h'
      · rw [Array.getElem?_eq_none h'] at h; simp at h
    rw [hb.block g hlt]
    exact h
def GT (w : World) : Prop := Lib.TabIs Tryz.prog w "internal/strconv.uint64pow10" .u64 Lib.pow10Tab
set_option maxHeartbeats 8000000 in
set_option maxRecDepth 100000 in
theorem fmtU_calls (u : Nat) (hu64 : u < 18446744073709551616) (w : World) (hT : GT w) :
    Calls Tryz.prog 89 #[.int .u64 u, .int .i64 10] w fun e w' => e = .returned (.string ⟨(Lib.decDigits u).toArray⟩) ∧ Below w.heap.size w w' := by
  by_cases hs : u < 100
  · go_enter Tryz.func89, Tryz.ntmps89
    go_wp2_with (go_at_call 106; refine (Tryz.internal_strconv_small u hs _).mono ?_; rintro e w1 ⟨rfl, rfl⟩)
    go_ret
    exact ⟨rfl, Below.refl _ _⟩
  · have hu1 : 1 ≤ u := by omega
    have hnd20 : Lib.nDigits u ≤ 20 := by have := Lib.numDigits_eq u hu1 hu64; split at this <;> omega
    have hal : Tryz.prog.arrayLen 163 = 24 := by simp [Program.arrayLen, Tryz.underlying163]
    have hsl1 : ∀ W, (Instr.sliceAt 163 (.pointer (some ⟨w.heap.size, 0, none⟩)) none (some (.int .i64 (Lib.nDigits u : Int))) none).run Tryz.prog W = .ok (.slice (some ⟨w.heap.size, 0, none⟩) (Lib.nDigits u) 24) W := fun W => by
      rw [run_sliceAt_array_h W 163 ⟨w.heap.size, 0, none⟩ (by simp [Program.arrayLen, Program.elem, Tryz.underlying163]) .i64 (Lib.nDigits u : Int) (by omega) (by rw [hal]; omega)]
      go_simp
    have hH0 := Lib.holds_zero0 w 163 (Lib.nDigits u) (by omega)
    have hfmt := Tryz.internal_strconv_formatBase10 w.heap.size 0 24 u (Array.replicate (Lib.nDigits u) 0) (w.alloc (.cells Lib.zeros24 163)) hH0 (by rw [Array.size_replicate]; exact Lib.lt_pow_nDigits u) hu64 (by rw [Array.size_replicate]; omega)
    rw [Array.size_replicate] at hfmt
    have HH0 := Lib.hid hH0
    clear hH0 hal
    go_enter Tryz.func89, Tryz.ntmps89
    go_wp2_with (first | (go_at_call 107; refine (Tryz.internal_strconv_numDigits u hu1 hu64 _ (Lib.tabIs_alloc hT _)).mono ?_; rintro e w' ⟨rfl, rfl⟩))
    go_at_call 108
    refine hfmt.mono ?_
    rintro e w' ⟨rfl, k, v', dk, rfl, hF⟩
    have hcv : (convert 57 9 (.slice (some ⟨w.heap.size, 0, none⟩) (Lib.nDigits u) 24)).run Tryz.prog ((Go.Sort.putRow (fun (b : UInt8) => Value.int .u8 (b.toNat : Int)) (w.alloc (.cells Lib.zeros24 163)) w.heap.size 0 dk).drewN k) = .ok (.string ⟨(Lib.decDigits u).toArray⟩) ((Go.Sort.putRow (fun (b : UInt8) => Value.int .u8 (b.toNat : Int)) (w.alloc (.cells Lib.zeros24 163)) w.heap.size 0 dk).drewN k) := by
      have h := run_convert_bytes_back (P := Tryz.prog) ((Go.Sort.putRow (fun (b : UInt8) => Value.int .u8 (b.toNat : Int)) (w.alloc (.cells Lib.zeros24 163)) w.heap.size 0 dk).drewN k) 57 9 5 ⟨w.heap.size, 0, none⟩ 24 (Lib.decDigits u) Tryz.underlying57 Tryz.underlying5 Tryz.underlying9 (fun j hj => by
        rw [Lib.row_is_numeral hF j hj, Lib.add_plain, World.cell?_drewN]
        exact Go.Sort.cell?_putRow (fun (b : UInt8) => Value.int .u8 (b.toNat : Int)) _ w.heap.size 0 _ dk HH0.out (by rw [hF.size, Array.size_replicate]) j (by rw [hF.size]; rw [Lib.decDigits_length] at hj; exact hj))
      rw [Lib.decDigits_length] at h
      exact h
    go_wp2
    go_ret
    refine ⟨rfl, ?_⟩
    obtain ⟨os', e⟩ := Lib.fin_at w (.cells Lib.zeros24 163) dk k 0
    rw [e]
    exact Lib.below_grow _ w (Nat.le_refl _) k os'
theorem fmt_calls (u : Nat) (hu64 : u < 18446744073709551616) (w : World) (hT : GT w) :
    Calls Tryz.prog 70 #[.int .u64 u, .int .i64 10] w fun e w' => e = .returned (.string ⟨(Lib.decDigits u).toArray⟩) ∧ Below w.heap.size w w' := by
  have HT := Aside0.mk hT
  clear hT
  go_enter Tryz.func70, Tryz.ntmps70
  go_wp2_with (go_at_call 89; refine (fmtU_calls u hu64 _ HT.out).mono ?_; rintro e w1 ⟨rfl, hb1⟩)
  go_ret
  exact ⟨rfl, hb1⟩
theorem neq_nilI (v : Value) (w : World) : (binOp .neq 27 (.iface 157 v) .nilIface).run Tryz.prog w = .ok (.bool true) w := by kernel_rfl
theorem neq_nilN (v : Value) (w : World) : (binOp .neq 27 (.iface 159 v) .nilIface).run Tryz.prog w = .ok (.bool true) w := by kernel_rfl
/-- What ParseUint's two errors' variables hold. -/
def GS (w : World) : Prop := (∃ te pe, w.cell? ⟨4, 0, none⟩ = some (.iface te pe)) ∧ ∃ te pe, w.cell? ⟨5, 0, none⟩ = some (.iface te pe)
theorem GS.below {w w1 : World} (h : GS w) (hb : Below w.heap.size w w1) : GS w1 := by
  obtain ⟨⟨a, b, h1⟩, c, d, h2⟩ := h
  exact ⟨⟨a, b, pw_cell_below hb h1⟩, c, d, pw_cell_below hb h2⟩
set_option maxHeartbeats 8000000 in
set_option maxRecDepth 100000 in
theorem parse_yes (s : ByteArray) (n : Nat) (hs : s.size ≤ 140737488351232) (w : World) (h : numPI (tl s) = .ok n) : Calls Tryz.prog 69 #[.string s, .int .i64 10, .int .i64 31] w fun e w' => e = .returned (.tuple #[.int .u64 n, .nilIface]) ∧ Below w.heap.size w w' := by
  have HI : Aside0 (Calls Tryz.prog 87 #[.string s, .int .i64 10, .int .i64 31] w fun e w' => e = .returned (.tuple #[.int .u64 n, .nilIface]) ∧ Below w.heap.size w w') := ⟨by have := iparse_calls s hs w; rw [h] at this; exact this⟩
  clear h
  go_enter Tryz.func69, Tryz.ntmps69
  go_wp2_with (fail)
  refine HI.out.mono ?_
  rintro e w1 ⟨rfl, hb⟩
  go_wp2_with (fail)
  go_ret2
  exact ⟨rfl, hb⟩
set_option maxHeartbeats 8000000 in
set_option maxRecDepth 100000 in
theorem parse_no (s : ByteArray) (hs : s.size ≤ 140737488351232) (w : World) (hG : GS w) (h : ∀ n, numPI (tl s) ≠ .ok n) : Calls Tryz.prog 69 #[.string s, .int .i64 10, .int .i64 31] w fun e w' => ∃ (v : Int) (N : Nat), e = .returned (.tuple #[.int .u64 v, .iface 159 (.pointer (some ⟨N, 0, none⟩))]) ∧ Below w.heap.size w w' := by
  have hI := iparse_calls s hs w
  have HG := Aside0.mk hG
  have n1 := neq_nilI
  cases hr : numPI (tl s) with
  | ok n => exact absurd hr (h n)
  | range =>
    rw [hr] at hI
    have HI : Aside0 (Calls Tryz.prog 87 #[.string s, .int .i64 10, .int .i64 31] w fun e w' => e = .returned (.tuple #[.int .u64 2147483647, .iface 157 (.int .i64 1)]) ∧ Below w.heap.size w w') := ⟨hI⟩
    clear h hr hI hG
    go_enter Tryz.func69, Tryz.ntmps69
    go_wp2_with (fail)
    refine HI.out.mono ?_
    rintro e w1 ⟨rfl, hb⟩
    obtain ⟨te, pe, hc⟩ := (HG.out.below hb).2
    have HC := Aside0.mk hc
    have HB := Aside0.mk hb
    clear hc hb
    go_wp2_with (fail)
    refine (toErr_range _ s _ _ (by omega) HC.out (.inr ⟨te, pe, rfl⟩)).mono ?_
    rintro e w2 ⟨N, rfl, hb2⟩
    have HB2 := Aside0.mk (below_step (w := w) HB.out hb2)
    clear hb2
    go_wp2_with (fail)
    go_ret2
    exact ⟨_, N, rfl, HB2.out⟩
  | _ =>
    rw [hr] at hI
    have HI : Aside0 (Calls Tryz.prog 87 #[.string s, .int .i64 10, .int .i64 31] w fun e w' => e = .returned (.tuple #[.int .u64 0, .iface 157 (.int .i64 2)]) ∧ Below w.heap.size w w') := ⟨hI⟩
    clear h hr hI hG
    go_enter Tryz.func69, Tryz.ntmps69
    go_wp2_with (fail)
    refine HI.out.mono ?_
    rintro e w1 ⟨rfl, hb⟩
    obtain ⟨te, pe, hc⟩ := (HG.out.below hb).1
    have HC := Aside0.mk hc
    have HB := Aside0.mk hb
    clear hc hb
    go_wp2_with (fail)
    refine (toErr_syntax _ s _ _ (by omega) HC.out (.inr ⟨te, pe, rfl⟩)).mono ?_
    rintro e w2 ⟨N, rfl, hb2⟩
    have HB2 := Aside0.mk (below_step (w := w) HB.out hb2)
    clear hb2
    go_wp2_with (fail)
    go_ret2
    exact ⟨_, N, rfl, HB2.out⟩
/-- A number, and whether it is one. -/
def numV (s : BL) : Value := .tuple #[.int .i64 (((numO s).getD 0 : Nat) : Int), .bool (numO s).isSome]
theorem numP_pi (l : BL) : numP l = match numPI l with | .ok n => if Lib.decDigits n = l then some n else none | _ => none := rfl
set_option maxHeartbeats 8000000 in
set_option maxRecDepth 100000 in
theorem number_calls (s : ByteArray) (hs : s.size ≤ 140737488351232) (w : World) (hG : GS w) (hT : GT w) : Calls Tryz.prog 61 #[.string s] w fun e w' => e = .returned (numV (tl s)) ∧ Below w.heap.size w w' := by
  unfold numV
  rw [← num_eq, numP_pi]
  have n1 := neq_nilN
  have HG := Aside0.mk hG
  have HT := Aside0.mk hT
  cases hr : numPI (tl s) with
  | ok n =>
    have HP := Aside0.mk (parse_yes s n hs w hr)
    have hle : n ≤ 2147483647 := by
      unfold numPI at hr
      split at hr
      · cases hr
      · exact parse_ok _ 0 n (by omega) hr
    have hn0 : (0 : Int) ≤ (n : Int) := by omega
    have hnl : (n : Int) ≤ 2147483647 := by omega
    simp only
    clear hr hG hT
    by_cases hd : Lib.decDigits n = tl s
    · have hds : (⟨(Lib.decDigits n).toArray⟩ : ByteArray) = s := tl_inj (by rw [hd])
      rw [if_pos hd]
      have HF : Aside0 (∀ w1, GT w1 → Calls Tryz.prog 70 #[.int .u64 n, .int .i64 10] w1 fun e w' => e = .returned (.string s) ∧ Below w1.heap.size w1 w') := ⟨fun w1 h1 => by have := fmt_calls n (by omega) w1 h1; rw [hds] at this; exact this⟩
      clear hd hds
      go_enter Tryz.func61, Tryz.ntmps61
      go_wp2_with (fail)
      refine HP.out.mono ?_
      rintro e w1 ⟨rfl, hb⟩
      have HB := Aside0.mk hb
      have HT1 : Aside0 (GT w1) := ⟨tab_below HT.out hb⟩
      clear hb
      go_wp2_with (fail)
      refine (HF.out _ HT1.out).mono ?_
      rintro e w2 ⟨rfl, hb2⟩
      have HB2 := Aside0.mk (below_step (w := w) HB.out hb2)
      clear hb2
      go_wp2_with (fail)
      go_ret2
      exact ⟨rfl, HB2.out⟩
    · have hne : ((⟨(Lib.decDigits n).toArray⟩ : ByteArray).toList == s.toList) = false := by
        rw [beq_eq_false_iff_ne, ByteArray.toList_eq, ByteArray.toList_eq]
        exact hd
      rw [if_neg hd]
      obtain ⟨x, hx⟩ : ∃ x, (⟨(Lib.decDigits n).toArray⟩ : ByteArray) = x := ⟨_, rfl⟩
      rw [hx] at hne
      have HF : Aside0 (∀ w1, GT w1 → Calls Tryz.prog 70 #[.int .u64 n, .int .i64 10] w1 fun e w' => e = .returned (.string x) ∧ Below w1.heap.size w1 w') := ⟨fun w1 h1 => by have := fmt_calls n (by omega) w1 h1; rw [hx] at this; exact this⟩
      clear hd hx
      go_enter Tryz.func61, Tryz.ntmps61
      go_wp2_with (fail)
      refine HP.out.mono ?_
      rintro e w1 ⟨rfl, hb⟩
      have HB := Aside0.mk hb
      have HT1 : Aside0 (GT w1) := ⟨tab_below HT.out hb⟩
      clear hb
      go_wp2_with (fail)
      refine (HF.out _ HT1.out).mono ?_
      rintro e w2 ⟨rfl, hb2⟩
      have HB2 := Aside0.mk (below_step (w := w) HB.out hb2)
      clear hb2
      go_wp2_with (fail)
      go_ret2
      exact ⟨rfl, HB2.out⟩
  | range =>
    have HP := Aside0.mk (parse_no s hs w hG (fun n q => by rw [hr] at q; cases q))
    simp only
    clear hr hG hT
    go_enter Tryz.func61, Tryz.ntmps61
    go_wp2_with (fail)
    refine HP.out.mono ?_
    rintro e w1 ⟨v, N, rfl, hb⟩
    have HB := Aside0.mk hb
    clear hb
    go_wp2_with (fail)
    go_ret2
    exact ⟨rfl, HB.out⟩
  | _ =>
    have HP := Aside0.mk (parse_no s hs w hG (fun n q => by rw [hr] at q; cases q))
    simp only
    clear hr hG hT
    go_enter Tryz.func61, Tryz.ntmps61
    go_wp2_with (fail)
    refine HP.out.mono ?_
    rintro e w1 ⟨v, N, rfl, hb⟩
    have HB := Aside0.mk hb
    clear hb
    go_wp2_with (fail)
    go_ret2
    exact ⟨rfl, HB.out⟩
end Go.Proofs.YtopcidphlleciaaGreatDoor.S

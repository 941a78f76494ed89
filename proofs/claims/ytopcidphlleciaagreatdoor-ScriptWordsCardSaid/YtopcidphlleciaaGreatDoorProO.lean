/- script.Text. -/
import Derived.Test.YtopcidphlleciaaGreatDoorProN
import Derived.Test.YtopcidphlleciaaGreatDoorProB
namespace Go.Proofs.YtopcidphlleciaaGreatDoor.S
open Go.RowKit Go.Extern.Stop Go.Stop Go.Extern Go.Proofs.YtopcidphlleciaaGreatDoorW.PrintWords Go.Proofs.YtopcidphlleciaaGreatDoorW.PrintLast Go.Proofs.YtopcidphlleciaaGreatDoorW.PrintMore
set_option linter.unusedVariables false
set_option linter.unusedSimpArgs false
theorem isB_below {T e : TypeId} {B b : Nat} {bs : List Value} {w w' : World} (h : Lib.IsBuilder T e B b bs w) (hb : Below w.heap.size w w') : Lib.IsBuilder T e B b bs w' := by
  have go : ∀ {p : Value}, Lib.BuilderAt T e B b p bs w → Lib.BuilderAt T e B b p bs w' := by
    intro p hp
    have hlt := hp.lt
    obtain ⟨h1, v, h2, h3, h4⟩ := hp
    exact ⟨h1, v, (hb.block b hlt).trans h2, own_below h3 hb, h4⟩
  rcases h with h | h
  · exact .inl (go h)
  · exact .inr (go h)
theorem lineF_append : ∀ (a b : List ByteArray), lineF (a ++ b) = lineF a ++ lineF b
  | [], b => rfl
  | x :: r, b => by
    show lineF (x :: (r ++ b)) = lineF (x :: r) ++ lineF b
    rw [lineF, lineF, lineF_append r b, List.cons_append, List.append_assoc]
theorem wrA_le (l : BL) : (wrA l).length ≤ 3 * l.length + 1 := by
  have h : ∀ l : BL, (wrL l).length ≤ 3 * l.length := by
    intro l
    induction l with
    | nil => exact Nat.le_refl _
    | cons c r ih =>
      rw [wrL, List.length_append, List.length_cons]
      have : (wrC c).length ≤ 3 := by unfold wrC; split <;> simp
      omega
  unfold wrA
  split
  · simp
  · have := h l; omega
theorem lineF_le : ∀ (l : List ByteArray), (∀ k ∈ l, k.size ≤ 4000000) → (lineF l).length ≤ 12000002 * l.length
  | [], _ => Nat.le_refl _
  | a :: r, h => by
    have ih := lineF_le r fun k hk => h k (by simp [hk])
    have h1 := wrA_le (tl a)
    have h2 := h a (by simp)
    have h3 : (tl a).length = a.size := Array.length_toList
    rw [lineF, List.length_cons, List.length_append, List.length_cons]
    omega
/-- Putting a piece behind what a builder has. -/
theorem bw_calls (B b : Nat) (l : BL) (x : BL) (w : World) (h : Lib.IsBuilder 86 5 B b (Lib.byteCells l) w) (hlen : l.length + x.length ≤ 140737488355328) (hBw : B ≤ w.heap.size) :
    Calls Tryz.prog 42 #[.pointer (some ⟨b, 0, none⟩), .string (mkB x)] w fun e w' => (∃ v, e = .returned v) ∧ Lib.IsBuilder 86 5 B b (Lib.byteCells (l ++ x)) w' ∧ Below B w w' := by
  refine (Tryz.Builder_WriteString B b _ (mkB x) w h (by rw [mkB_size]; unfold Lib.byteCells; rw [List.length_map]; exact hlen) hBw).mono ?_
  rintro e w' ⟨rfl, h1, h2⟩
  refine ⟨⟨_, rfl⟩, .inr ?_, h2⟩
  have : Lib.byteCells l ++ Lib.strCells (mkB x) = Lib.byteCells (l ++ x) := by
    rw [Lib.strCells_eq, show (mkB x).data.toList = x from tl_mkB x]
    unfold Lib.byteCells
    rw [List.map_append]
  rw [← this]
  exact h1
set_option maxHeartbeats 32000000 in
set_option maxRecDepth 100000 in
theorem text_calls (word : ByteArray) (args : List ByteArray) (a : Option Addr) (n c : Nat) (w : World) (hw : word.size ≤ 4000000) (hn : n ≤ 1000000) (hs : ∀ k ∈ args, k.size ≤ 4000000) (hL : LSt w a n args) (hG : GS w) (hT : GT w) : Calls Tryz.prog 19 #[.agg #[.string word, .slice a n c]] w fun e w' => ∃ v, e = .returned (.tuple #[.string (textF (word, args)).1, v]) ∧ EA w' v (textF (word, args)).2 ∧ Below w.heap.size w w' := by
  have HL := Aside0.mk hL
  have HG := Aside0.mk (And.intro hG hT)
  have HS := Aside0.mk hs
  obtain ⟨res, hres⟩ : ∃ r, textF (word, args) = r := ⟨_, rfl⟩
  rw [hres]
  have HR1 : Aside0 ((checkF word args).1 ≠ 0 → (⟨#[]⟩, checkF word args) = res) := ⟨fun h => by rw [← hres]; unfold textF; rw [if_neg h]⟩
  have HR2 : Aside0 ((checkF word args).1 = 0 → 262144 < (textL (word, args)).length → (⟨#[]⟩, (4, (⟨#[]⟩ : ByteArray), -1)) = res) := ⟨fun h h2 => by rw [← hres]; unfold textF; rw [if_pos h, if_pos h2]⟩
  have HR3 : Aside0 ((checkF word args).1 = 0 → ¬ 262144 < (textL (word, args)).length → (mkB (textL (word, args)), okB) = res) := ⟨fun h h2 => by rw [← hres]; unfold textF; rw [if_pos h, if_neg h2]⟩
  have n1 : ∀ (v : Value) (w : World), (binOp .neq 27 (.iface 43 v) .nilIface).run Tryz.prog w = .ok (.bool true) w := fun v w => by kernel_rfl
  clear hL hG hT hs hres
  go_enter Tryz.func19, Tryz.ntmps19
  go_wp2_with (fail)
  have HBX : Aside0 (Below w.heap.size w (w.alloc (.cells #[.string word, .slice a n c] 25))) := ⟨(Below.refl _ _).alloc (Nat.le_refl _) _⟩
  refine (check_calls word args a n c _ (by omega) (HL.out.below HBX.out) (HG.out.1.below HBX.out) (tab_below HG.out.2 HBX.out)).mono ?_
  rintro e w5 ⟨v, rfl, hE, hb5⟩
  have HB5 : Aside0 (Below w.heap.size w w5) := ⟨below_step (w := w) HBX.out hb5⟩
  have c0 := pw_cell_below hb5 (show (w.alloc (.cells #[.string word, .slice a n c] 25)).cell? ⟨w.heap.size, 0, none⟩ = some (.string word) by simp)
  have c1 := pw_cell_below hb5 (show (w.alloc (.cells #[.string word, .slice a n c] 25)).cell? ⟨w.heap.size, 1, none⟩ = some (.slice a n c) by simp)
  clear hb5
  rcases hE with ⟨e1, e2, rfl⟩ | ⟨e1, h, rfl, e3, e4⟩
  · have HE1 := Aside0.mk e1
    have hz5 : w.heap.size < w5.heap.size := World.block_lt_of_cell? _ _ c0
    clear e1 e2
    go_wp2_with (fail)
    have HIB := Aside0.mk (Lib.fresh_isBuilder 86 5 w5)
    have HBB : Aside0 (Below w5.heap.size w5 (w5.alloc (.cells #[.pointer none, .slice none 0 0] 86))) := ⟨(Below.refl _ _).alloc (Nat.le_refl _) _⟩
    refine (write_calls word _ hw).mono ?_
    rintro e w6 ⟨rfl, hb6⟩
    have HIB6 := Aside0.mk (isB_below HIB.out hb6)
    have HB6 : Aside0 (Below w5.heap.size w5 w6) := ⟨below_step (w := w5) HBB.out hb6⟩
    clear hb6
    go_wp2_with (fail)
    refine (bw_calls w5.heap.size w5.heap.size [] (wrA (tl word)) w6 HIB6.out (by have := wrA_le (tl word); rw [show (tl word).length = word.size from Array.length_toList] at this; simp; omega) HB6.out.size).mono ?_
    rintro e w7 ⟨⟨v7, rfl⟩, hI7, hb7⟩
    have HB7 : Aside0 (Below w5.heap.size w5 w7) := ⟨HB6.out.trans hb7⟩
    have HI7 : Aside0 (Lib.IsBuilder 86 5 w5.heap.size w5.heap.size (Lib.byteCells (wrA (tl word))) w7) := ⟨hI7⟩
    have hwl : (wrA (tl word)).length ≤ 12000001 := by have := wrA_le (tl word); rw [show (tl word).length = word.size from Array.length_toList] at this; omega
    clear hb7 hI7
    have g1 := pw_cell_below HB7.out c1
    go_wp2_with (fail)
    go_loopw [7, 20] (fun v7 v20 wr => ∃ i : Nat, i ≤ n ∧ v20 = .int .i64 i ∧ Aside0 (Lib.IsBuilder 86 5 w5.heap.size w5.heap.size (Lib.byteCells (wrA (tl word) ++ lineF (args.take i))) wr ∧ Below w5.heap.size w5 wr)) (fun _ v20 _ => n - (intOf v20).toNat)
    case atStart => exact ⟨0, Nat.zero_le _, rfl, ⟨by rw [List.take_zero, lineF, List.append_nil]; exact HI7.out, HB7.out⟩⟩
    case round =>
      obtain ⟨i, hi, rfl, HX⟩ := hrel
      have HBW : Aside0 (Below w.heap.size w wr) := ⟨below_step (w := w) HB5.out HX.out.2⟩
      have hzr := HX.out.2.size
      have hlen : (wrA (tl word) ++ lineF (args.take i)).length ≤ 12000001 + 12000002 * i := by
        have h1 := lineF_le (args.take i) (fun k hk => HS.out k (List.mem_of_mem_take hk))
        rw [List.length_take] at h1
        rw [List.length_append]
        have h2 : min i args.length ≤ i := Nat.min_le_left _ _
        have h3 := Nat.mul_le_mul_left 12000002 h2
        omega
      clear g1
      by_cases h1 : i < n
      · have h1' : (i : Int) < (n : Int) := by omega
        have h0' : (0 : Int) ≤ (i : Int) := by omega
        have hil : i < args.length := by rw [HL.out.1]; exact h1
        obtain ⟨ab, ao, rfl, hcell⟩ := HL.out.2.2.1 (by omega)
        have a1 : wr.cell? ⟨ab, ao + i, none⟩ = some (.string args[i]) := pw_cell_below HBW.out (hcell i hil)
        have hsz := HS.out _ (List.getElem_mem hil)
        have HSN : Aside0 (lineF (args.take (i + 1)) = lineF (args.take i) ++ 32 :: wrA (tl args[i])) := ⟨by rw [List.take_succ_eq_append_getElem hil, lineF_append, lineF, lineF, List.append_nil]⟩
        generalize args[i] = s at *
        clear hcell hil
        have hwa := wrA_le (tl s)
        rw [show (tl s).length = s.size from Array.length_toList] at hwa
        have hnb : ¬ 9223372036854775807 < 1 + (mkB (wrA (tl s))).size := by rw [mkB_size]; omega
        have hcat : ({ data := #[32] } : ByteArray) ++ mkB (wrA (tl s)) = mkB (32 :: wrA (tl s)) := tl_inj (by rw [tl_append, tl_mkB, tl_mkB]; rfl)
        have HWC : Aside0 (∀ W, Calls Tryz.prog 23 #[.string s] W fun e w' => e = .returned (.string (mkB (wrA (tl s)))) ∧ Below W.heap.size W w') := ⟨fun W => write_calls s W hsz⟩
        go_wp2_with (fail)
        refine (HWC.out _).mono ?_
        rintro e w8 ⟨rfl, hb8⟩
        have HB8 : Aside0 (Below w5.heap.size w5 w8) := ⟨below_step (w := w5) HX.out.2 hb8⟩
        have HI8 := Aside0.mk (isB_below HX.out.1 hb8)
        clear hb8 a1
        go_wp2_with (fail)
        refine (bw_calls w5.heap.size w5.heap.size _ (32 :: wrA (tl s)) w8 HI8.out (by rw [List.length_cons]; omega) HB8.out.size).mono ?_
        rintro e w9 ⟨⟨v9, rfl⟩, hI9, hb9⟩
        have HB9 : Aside0 (Below w5.heap.size w5 w9) := ⟨HB8.out.trans hb9⟩
        have HI9 := Aside0.mk hI9
        clear hb9 hI9
        go_wp2_with (fail)
        exact ⟨⟨i + 1, by omega, by simp, ⟨by rw [HSN.out, ← List.append_assoc]; exact HI9.out, HB9.out⟩⟩, by simp [intOf]; omega⟩
      · have h1' : ¬ (i : Int) < (n : Int) := by omega
        have HTX : Aside0 (wrA (tl word) ++ lineF (args.take i) = textL (word, args)) := ⟨by rw [List.take_of_length_le (by rw [HL.out.1]; omega)]; rfl⟩
        have HI := HX.out.1
        rw [HTX.out] at HI hlen
        have HI := Aside0.mk HI
        have hbl : (Lib.byteCells (textL (word, args))).length = (textL (word, args)).length := by unfold Lib.byteCells; rw [List.length_map]
        have HLN : Aside0 (∀ W, Lib.IsBuilder 86 5 w5.heap.size w5.heap.size (Lib.byteCells (textL (word, args))) W → Calls Tryz.prog 43 #[.pointer (some ⟨w5.heap.size, 0, none⟩)] W fun e w' => e = .returned (.int .i64 ((textL (word, args)).length : Int)) ∧ w' = W) := ⟨fun W h => by have := Tryz.Builder_Len _ _ _ W h; rw [hbl] at this; exact this⟩
        clear hbl
        generalize hT : textL (word, args) = L at *
        by_cases h2 : 262144 < L.length
        · have h2' : (262144 : Int) < (L.length : Int) := by omega
          go_wp2_with (fail)
          refine (HLN.out _ HI.out).mono ?_
          rintro e w8 ⟨rfl, rfl⟩
          go_wp2_with (fail)
          refine (fault_calls 4 ⟨#[]⟩ (-1) _ (by decide)).mono ?_
          rintro e w9 ⟨v, rfl, hE, hb⟩
          go_wp2_with (fail)
          go_ret2
          exact ⟨_, by rw [← HR2.out HE1.out h2]; rfl, by rw [← HR2.out HE1.out h2]; exact hE, below_step (w := w) HBW.out hb⟩
        · have h2' : ¬ (262144 : Int) < (L.length : Int) := by omega
          go_wp2_with (fail)
          refine (HLN.out _ HI.out).mono ?_
          rintro e w8 ⟨rfl, rfl⟩
          go_wp2_with (fail)
          refine (Tryz.Builder_String_any _ _ L _ HI.out hzr).mono ?_
          rintro e w9 ⟨rfl, hb⟩
          go_wp2_with (fail)
          go_ret2
          exact ⟨_, by rw [← HR3.out HE1.out h2]; rfl, by rw [← HR3.out HE1.out h2]; exact .inl ⟨rfl, rfl, rfl⟩, below_step (w := w) HB5.out (HX.out.2.trans hb)⟩
  · go_wp2_with (fail)
    go_ret2
    exact ⟨_, by rw [← HR1.out (by omega)]; rfl, by rw [← HR1.out (by omega)]; exact .inr ⟨e1, h, rfl, e3, e4⟩, HB5.out⟩
end Go.Proofs.YtopcidphlleciaaGreatDoor.S

/- ScriptBack's law walked: four ways with the sizes within bounds, one for the guard. -/
import Derived.Test.YtopcidphlleciaaGreatDoorOpC
import Derived.Test.YtopcidphlleciaaGreatDoorSIs
import Derived.Test.YtopcidphlleciaaGreatDoorProO
import Derived.Test.YtopcidphlleciaaGreatDoorProN
import Derived.Test.YtopcidphlleciaaGreatDoorProC
namespace Go.Proofs.YtopcidphlleciaaGreatDoor.S
open Go.RowKit Go.Extern.Stop Go.Stop Go.Extern Go.Proofs.YtopcidphlleciaaGreatDoorW.PrintWords Go.Proofs.YtopcidphlleciaaGreatDoorW.PrintLast Go.Proofs.YtopcidphlleciaaGreatDoorW.PrintMore
set_option linter.unusedVariables false
set_option linter.unusedSimpArgs false
/-- The law's lives. -/
theorem lives_calls (w : World) (hG : GW w) : Calls Tryz.prog 9 #[] w fun e w' => e = .returned (.bool true) ∧ Below w.heap.size w w' := lives_of ⟨is_ok⟩ w hG
theorem same_self (c : Cl) : sameF c c = true := by unfold sameF; rw [decide_eq_true rfl, decide_eq_true rfl]; rfl
/-- What was read is no longer than the line. -/
theorem read_small (s : ByteArray) (h : (readF s).2.1 = 0) : (readF s).1.1.size ≤ s.size ∧ (readF s).1.2.length ≤ s.size ∧ ∀ k ∈ (readF s).1.2, k.size ≤ s.size := by
  have hl : (tl s).length = s.size := Array.length_toList
  unfold readF at h ⊢
  by_cases h1 : 262144 < s.size
  · rw [if_pos h1] at h; cases h
  · rw [if_neg h1] at h ⊢
    by_cases h2 : overF (tl s) = true
    · rw [if_pos h2] at h; cases h
    · rw [if_neg h2] at h ⊢
      cases hp : prs 0 (spl 32 (tl s)) with
      | inl k => rw [hp] at h; cases h
      | inr W =>
        rw [hp] at h
        have hsm := prs_small hp
        have hln := prs_len _ _ hp
        have hsum := len_sum (spl 32 (tl s))
        rw [spl_sum, hl] at hsum
        rw [hl] at hsm
        cases W with
        | nil => exact ⟨Nat.zero_le _, Nat.zero_le _, fun k hk => by cases hk⟩
        | cons a r =>
          simp only at h ⊢
          by_cases h3 : (checkF (mkB a) (r.map mkB)).1 = 0
          · rw [if_pos h3]
            refine ⟨by rw [mkB_size]; exact hsm a (by simp), ?_, fun k hk => ?_⟩
            · show (r.map mkB).length ≤ _
              rw [List.length_map]
              simp at hln
              omega
            · obtain ⟨y, hy, rfl⟩ := List.mem_map.1 hk
              rw [mkB_size]
              exact hsm y (by simp [hy])
          · rw [if_neg h3] at h
            exact absurd h h3
theorem wr_byte (l : BL) (i : Nat) (h : i < (mkB (wrA l)).size) : ¬ ((mkB (wrA l))[i].toNat : Int) ≤ 32 ∧ ¬ (126 : Int) < ((mkB (wrA l))[i].toNat : Int) := by
  have h1 : i < (wrA l).length := by rw [← mkB_size]; exact h
  have e : (mkB (wrA l))[i] = (wrA l)[i] := by
    show (wrA l).toArray[i] = _
    simp
  have h2 := wrA_in l _ (List.getElem_mem h1)
  rw [e]
  have h3 : 32 < (wrA l)[i].toNat := by have := h2.1; exact UInt8.lt_iff_toNat_lt.1 this
  have h4 : (wrA l)[i].toNat ≤ 126 := by have := h2.2; exact UInt8.le_iff_toNat_le.1 this
  omega
set_option maxHeartbeats 32000000 in
set_option maxRecDepth 100000 in
theorem back_11 (word : ByteArray) (l : List ByteArray) (A : Option Addr) (n c : Nat) (line a b : ByteArray) (w : World) (hC : CL w word A n l) (hsm : smallB (word, l) = true) (h1 : line.size ≤ 4000) (h2 : a.size ≤ 4000) (h3 : b.size ≤ 4000) (hT : (textF (word, l)).2.1 = 0) (hR : (readF line).2.1 = 0) (hG : GW w) : Calls Tryz.prog 7 #[.agg #[.string word, .slice A n c], .string line, .string a, .string b] w fun e w' => e = .returned (.bool true) ∧ Below w.heap.size w w' := by
  have HG := Aside0.mk hG
  have HC := Aside0.mk hC
  obtain ⟨hws, hns, has⟩ := small_yes hsm
  have hlen : l.length = n := hC.2.1
  have HSM : Aside0 (∀ W, LSt W A n l → Calls Tryz.prog 18 #[.agg #[.string word, .slice A n c]] W fun e w' => e = .returned (.bool true) ∧ Below W.heap.size W w') := ⟨fun W h => by have := small_calls word l A n c W hC.1 h; rw [hsm] at this; exact this⟩
  have HTX : Aside0 (∀ W, LSt W A n l → GW W → Calls Tryz.prog 19 #[.agg #[.string word, .slice A n c]] W fun e w' => ∃ v, e = .returned (.tuple #[.string (textF (word, l)).1, v]) ∧ EA w' v (textF (word, l)).2 ∧ Below W.heap.size W w') := ⟨fun W h hg => text_calls word l A n c W (by have : word.size ≤ 4000 := hws; omega) (by have : l.length ≤ 100 := hns; omega) (fun k hk => by have := has k hk; omega) h hg.1 hg.2.1⟩
  have HRD : Aside0 (∀ s W, GW W → Calls Tryz.prog 10 #[.string s] W fun e w' => ∃ cv ev, e = .returned (.tuple #[cv, ev]) ∧ RC W.heap.size w' (readF s).1 cv ∧ EA w' ev (readF s).2 ∧ Below W.heap.size W w') := ⟨readG⟩
  have n1 : ∀ (v : Value) (w : World), (binOp .eql 27 (.iface 43 v) .nilIface).run Tryz.prog w = .ok (.bool false) w := fun v w => by kernel_rfl
  have h1' : ¬ (4000 : Int) < (line.size : Int) := by omega
  have h2' : ¬ (4000 : Int) < (a.size : Int) := by omega
  have h3' : ¬ (4000 : Int) < (b.size : Int) := by omega
  have HWA : Aside0 (∀ W, Calls Tryz.prog 23 #[.string a] W fun e w' => e = .returned (.string (mkB (wrA (tl a)))) ∧ Below W.heap.size W w') := ⟨fun W => write_calls a W (by omega)⟩
  have HWB : Aside0 (∀ W, Calls Tryz.prog 23 #[.string b] W fun e w' => e = .returned (.string (mkB (wrA (tl b)))) ∧ Below W.heap.size W w') := ⟨fun W => write_calls b W (by omega)⟩
  have HWI := Aside0.mk (wr_byte (tl a))
  obtain ⟨x, hx⟩ : ∃ x, mkB (wrA (tl a)) = x := ⟨_, rfl⟩
  obtain ⟨y, hy⟩ : ∃ y, mkB (wrA (tl b)) = y := ⟨_, rfl⟩
  have hxz : x.size ≤ 12001 := by
    have := wrA_le (tl a)
    rw [show (tl a).length = a.size from Array.length_toList] at this
    rw [← hx, mkB_size]
    omega
  have HUN : Aside0 (∀ W, Calls Tryz.prog 24 #[.string x] W fun e w' => e = .returned (.tuple #[.string a, .int .i64 0, .bool true]) ∧ Below W.heap.size W w') := ⟨fun W => by
    have := unwrite_calls x W (by omega)
    rw [← hx, tl_mkB, unw_wrA] at this
    rw [← hx]
    have e : unwV (tl a, 0, true) = .tuple #[.string a, .int .i64 0, .bool true] := by
      have q : (⟨(tl a).toArray⟩ : ByteArray) = a := mkB_tl a
      unfold unwV
      rw [q]
      rfl
    rw [e] at this
    exact this⟩
  have HEQ : Aside0 ((y.toList == x.toList) = (a.toList == b.toList)) := ⟨by
    rw [str_eq, str_eq]
    by_cases q : a = b
    · subst q
      rw [← hx, ← hy, decide_eq_true rfl]
      exact (decide_eq_true rfl).symm
    · rw [decide_eq_false q, decide_eq_false (fun e => q (tl_inj (wrA_inj (by
        rw [← hx, ← hy] at e
        have := congrArg tl e
        rw [tl_mkB, tl_mkB] at this
        exact this.symm))))]⟩
  rw [hx] at HWA HWI
  rw [hy] at HWB
  obtain ⟨qb, hqb⟩ : ∃ qb, (a.toList == b.toList) = qb := ⟨_, rfl⟩
  have hqx : (y.toList == x.toList) = qb := HEQ.out.trans hqb
  have haa : (a.toList == a.toList) = true := by simp
  have hll : (line.toList == line.toList) = true := by simp
  have hqq : (qb == qb) = true := by simp
  have HTT := Aside0.mk (read_text (word, l) hT)
  have HTN : Aside0 ((textF (word, l)).2 = okB) := ⟨by
    unfold textF at hT ⊢
    by_cases q : (checkF word l).1 = 0
    · rw [if_pos q] at hT ⊢
      by_cases q2 : 262144 < (textL (word, l)).length
      · rw [if_pos q2] at hT; cases hT
      · rw [if_neg q2]
    · rw [if_neg q] at hT; exact absurd hT q⟩
  have hsame := same_self (word, l)
  have HTR := Aside0.mk (text_read line hR)
  have HSZ := Aside0.mk (read_small line hR)
  have HRN : Aside0 ((readF line).2 = okB) := ⟨by
    unfold readF at hR ⊢
    split at hR
    · cases hR
    · rename_i q
      rw [if_neg q]
      split at hR
      · cases hR
      · rename_i q2
        rw [if_neg q2]
        cases hp : prs 0 (spl 32 (tl line)) with
        | inl k => rw [hp] at hR; cases hR
        | inr W =>
          rw [hp] at hR
          cases W with
          | nil => rfl
          | cons p r =>
            simp only at hR ⊢
            by_cases q3 : (checkF (mkB p) (r.map mkB)).1 = 0
            · rw [if_pos q3]
            · rw [if_neg q3] at hR; exact absurd hR q3⟩
  obtain ⟨⟨cw, cl⟩, hcl⟩ : ∃ r, (readF line).1 = r := ⟨_, rfl⟩
  rw [hcl] at HTR HSZ
  obtain ⟨m, hm⟩ : ∃ m, cl.length = m := ⟨_, rfl⟩
  have HTX2 : Aside0 (∀ (D : Option Addr) k W, LSt W D m cl → GW W → Calls Tryz.prog 19 #[.agg #[.string cw, .slice D m k]] W fun e w' => ∃ v, e = .returned (.tuple #[.string line, v]) ∧ EA w' v okB ∧ Below W.heap.size W w') := ⟨fun D k W h hg => by
    have := text_calls cw cl D m k W (by have q : cw.size ≤ line.size := HSZ.out.1; omega) (by have q : cl.length ≤ line.size := HSZ.out.2.1; omega) (fun z hz => by have := HSZ.out.2.2 z hz; omega) h hg.1 hg.2.1
    rw [HTR.out] at this
    exact this⟩
  have HCL := Aside0.mk (And.intro hcl hm)
  clear hcl hm
  obtain ⟨tx, htx⟩ : ∃ tx, (textF (word, l)).1 = tx := ⟨_, rfl⟩
  rw [htx] at HTX
  rw [htx] at HTT
  clear hC hsm hT hR hG h1 h2 h3 hws hns has hlen hx hy HEQ htx
  go_enter Tryz.func7, Tryz.ntmps7
  go_wp2_with (fail)
  have HBX : Aside0 (Below w.heap.size w (w.alloc (.cells #[.string word, .slice A n c] 25))) := ⟨(Below.refl _ _).alloc (Nat.le_refl _) _⟩
  refine (HSM.out _ (HC.out.2.below HBX.out)).mono ?_
  rintro e w1 ⟨rfl, hb1⟩
  have HB1 : Aside0 (Below w.heap.size w w1) := ⟨below_step (w := w) HBX.out hb1⟩
  have c0 := pw_cell_below hb1 (show (w.alloc (.cells #[.string word, .slice A n c] 25)).cell? ⟨w.heap.size, 0, none⟩ = some (.string word) by simp)
  have c1 := pw_cell_below hb1 (show (w.alloc (.cells #[.string word, .slice A n c] 25)).cell? ⟨w.heap.size, 1, none⟩ = some (.slice A n c) by simp)
  clear hb1
  go_wp2_with (fail)
  refine (HTX.out _ (HC.out.2.below HB1.out) (HG.out.below HB1.out)).mono ?_
  rintro e w2 ⟨v2, rfl, hE2, hb2⟩
  have HB2 : Aside0 (Below w.heap.size w w2) := ⟨below_step (w := w) HB1.out hb2⟩
  have d0 := pw_cell_below hb2 c0
  have d1 := pw_cell_below hb2 c1
  clear hb2 c0 c1
  rw [HTN.out] at hE2
  have hv2 := hE2.nil
  subst hv2
  clear hE2
  go_wp2_with (fail)
  refine (HRD.out tx _ (HG.out.below HB2.out)).mono ?_
  rw [HTT.out]
  rintro e w3 ⟨cv3, ev3, rfl, ⟨sv3, rfl, hown3⟩, hE3, hb3⟩
  have hown3 : w3.ownsRow w2.heap.size 9 1 sv3 n (l.map Value.string) := by rw [← HC.out.2.1]; exact hown3
  obtain ⟨a3, k3, rfl⟩ := own_form hown3
  have hv3 := hE3.nil
  subst hv3
  have HB3 : Aside0 (Below w.heap.size w w3) := ⟨below_step (w := w) HB2.out hb3⟩
  have HL3 : Aside0 (LSt w3 a3 n l) := ⟨own_lst hown3 HC.out.2.2.1 HC.out.2.2.2.2⟩
  have e0 := pw_cell_below hb3 d0
  have e1 := pw_cell_below hb3 d1
  have hword : (((word, l), okB) : Cl × Bd).fst.fst = word := rfl
  rw [hword]
  have hz3 : w.heap.size < w3.heap.size := World.block_lt_of_cell? _ _ e0
  have hz3' : w.heap.size ≠ w3.heap.size := Nat.ne_of_lt hz3
  have HN3 : Aside0 (Below w3.heap.size w3 (w3.alloc (.cells #[.string word, .slice a3 n k3] 25))) := ⟨(Below.refl _ _).alloc (Nat.le_refl _) _⟩
  clear hb3 hown3 hE3 d0 d1
  go_wp2_with (fail)
  refine (same_calls word word l l A a3 n n c k3 _ ((HC.out.2.below HB3.out).below HN3.out) (HL3.out.below HN3.out)).mono ?_
  rintro e w4 ⟨rfl, hb4⟩
  have HB4 : Aside0 (Below w.heap.size w w4) := ⟨below_step (w := w) (below_step (w := w) HB3.out HN3.out) hb4⟩
  clear hb4 e0 e1
  go_wp2_with (fail)
  refine (HRD.out line _ (HG.out.below HB4.out)).mono ?_
  rw [HCL.out.1]
  rintro e w5 ⟨cv5, ev5, rfl, ⟨sv5, rfl, hown5⟩, hE5, hb5⟩
  rw [HRN.out] at hE5
  have hown5 : w5.ownsRow w4.heap.size 9 1 sv5 m (cl.map Value.string) := by rw [← HCL.out.2]; exact hown5
  obtain ⟨a5, k5, rfl⟩ := own_form hown5
  have hv5 := hE5.nil
  subst hv5
  have HB5 : Aside0 (Below w.heap.size w w5) := ⟨below_step (w := w) HB4.out hb5⟩
  have HL5 : Aside0 (LSt w5 a5 m cl) := ⟨own_lst hown5 (by have q : cl.length ≤ line.size := HSZ.out.2.1; have := HCL.out.2; omega) (fun z hz => by have := HSZ.out.2.2 z hz; omega)⟩
  have hword5 : ((cw, cl) : Cl).fst = cw := rfl
  rw [hword5]
  have HN5 : Aside0 (Below w5.heap.size w5 (w5.alloc (.cells #[.string cw, .slice a5 m k5] 25))) := ⟨(Below.refl _ _).alloc (Nat.le_refl _) _⟩
  clear hb5 hown5 hE5
  go_wp2_with (fail)
  refine (HTX2.out a5 k5 _ (HL5.out.below HN5.out) (HG.out.below (below_step (w := w) HB5.out HN5.out))).mono ?_
  rintro e w6 ⟨v6, rfl, hE6, hb6⟩
  have hv6 := hE6.nil
  subst hv6
  have HB6 : Aside0 (Below w.heap.size w w6) := ⟨below_step (w := w) (below_step (w := w) HB5.out HN5.out) hb6⟩
  clear hb6 hE6
  go_wp2_with (fail)
  refine (HWA.out _).mono ?_
  rintro e w7 ⟨rfl, hb7⟩
  have HB7 : Aside0 (Below w.heap.size w w7) := ⟨below_step (w := w) HB6.out hb7⟩
  clear hb7
  go_wp2_with (fail)
  go_loop [18] (fun v18 => ∃ i : Nat, i ≤ x.size ∧ v18 = .int .i64 i) (fun v18 => x.size - (intOf v18).toNat)
  case atStart => exact ⟨0, Nat.zero_le _, rfl⟩
  case round =>
    obtain ⟨i, hi, rfl⟩ := hrel
    by_cases hlt : i < x.size
    · have hlt' : (i : Int) < (x.size : Int) := by omega
      have h0' : (0 : Int) ≤ (i : Int) := by omega
      obtain ⟨hc1, hc2⟩ := HWI.out i hlt
      obtain ⟨ch, hch⟩ : ∃ ch, x[i]'hlt = ch := ⟨_, rfl⟩
      rw [hch] at hc1 hc2
      go_wp2_with (fail)
      all_goals exact ⟨⟨i + 1, by omega, by simp⟩, by simp [intOf]; omega⟩
    · have hlt' : ¬ (i : Int) < (x.size : Int) := by omega
      go_wp2_with (fail)
      refine (HUN.out _).mono ?_
      rintro e w8 ⟨rfl, hb8⟩
      have HB8 : Aside0 (Below w.heap.size w w8) := ⟨below_step (w := w) HB7.out hb8⟩
      clear hb8
      go_wp2_with (fail)
      refine (HWB.out _).mono ?_
      rintro e w9 ⟨rfl, hb9⟩
      have HB9 : Aside0 (Below w.heap.size w w9) := ⟨below_step (w := w) HB8.out hb9⟩
      clear hb9
      go_wp2_with (fail)
      refine (lives_calls _ (HG.out.below HB9.out)).mono ?_
      rintro e wa ⟨rfl, hba⟩
      have HBa : Aside0 (Below w.heap.size w wa) := ⟨below_step (w := w) HB9.out hba⟩
      clear hba
      go_wp2_with (fail)
      go_ret
      exact ⟨by first | rfl | (simp; done), HBa.out⟩
set_option maxHeartbeats 32000000 in
set_option maxRecDepth 100000 in
theorem back_10 (word : ByteArray) (l : List ByteArray) (A : Option Addr) (n c : Nat) (line a b : ByteArray) (w : World) (hC : CL w word A n l) (hsm : smallB (word, l) = true) (h1 : line.size ≤ 4000) (h2 : a.size ≤ 4000) (h3 : b.size ≤ 4000) (hT : (textF (word, l)).2.1 = 0) (hR : (readF line).2.1 ≠ 0) (hG : GW w) : Calls Tryz.prog 7 #[.agg #[.string word, .slice A n c], .string line, .string a, .string b] w fun e w' => e = .returned (.bool true) ∧ Below w.heap.size w w' := by
  have HG := Aside0.mk hG
  have HC := Aside0.mk hC
  obtain ⟨hws, hns, has⟩ := small_yes hsm
  have hlen : l.length = n := hC.2.1
  have HSM : Aside0 (∀ W, LSt W A n l → Calls Tryz.prog 18 #[.agg #[.string word, .slice A n c]] W fun e w' => e = .returned (.bool true) ∧ Below W.heap.size W w') := ⟨fun W h => by have := small_calls word l A n c W hC.1 h; rw [hsm] at this; exact this⟩
  have HTX : Aside0 (∀ W, LSt W A n l → GW W → Calls Tryz.prog 19 #[.agg #[.string word, .slice A n c]] W fun e w' => ∃ v, e = .returned (.tuple #[.string (textF (word, l)).1, v]) ∧ EA w' v (textF (word, l)).2 ∧ Below W.heap.size W w') := ⟨fun W h hg => text_calls word l A n c W (by have : word.size ≤ 4000 := hws; omega) (by have : l.length ≤ 100 := hns; omega) (fun k hk => by have := has k hk; omega) h hg.1 hg.2.1⟩
  have HRD : Aside0 (∀ s W, GW W → Calls Tryz.prog 10 #[.string s] W fun e w' => ∃ cv ev, e = .returned (.tuple #[cv, ev]) ∧ RC W.heap.size w' (readF s).1 cv ∧ EA w' ev (readF s).2 ∧ Below W.heap.size W w') := ⟨readG⟩
  have n1 : ∀ (v : Value) (w : World), (binOp .eql 27 (.iface 43 v) .nilIface).run Tryz.prog w = .ok (.bool false) w := fun v w => by kernel_rfl
  have h1' : ¬ (4000 : Int) < (line.size : Int) := by omega
  have h2' : ¬ (4000 : Int) < (a.size : Int) := by omega
  have h3' : ¬ (4000 : Int) < (b.size : Int) := by omega
  have HWA : Aside0 (∀ W, Calls Tryz.prog 23 #[.string a] W fun e w' => e = .returned (.string (mkB (wrA (tl a)))) ∧ Below W.heap.size W w') := ⟨fun W => write_calls a W (by omega)⟩
  have HWB : Aside0 (∀ W, Calls Tryz.prog 23 #[.string b] W fun e w' => e = .returned (.string (mkB (wrA (tl b)))) ∧ Below W.heap.size W w') := ⟨fun W => write_calls b W (by omega)⟩
  have HWI := Aside0.mk (wr_byte (tl a))
  obtain ⟨x, hx⟩ : ∃ x, mkB (wrA (tl a)) = x := ⟨_, rfl⟩
  obtain ⟨y, hy⟩ : ∃ y, mkB (wrA (tl b)) = y := ⟨_, rfl⟩
  have hxz : x.size ≤ 12001 := by
    have := wrA_le (tl a)
    rw [show (tl a).length = a.size from Array.length_toList] at this
    rw [← hx, mkB_size]
    omega
  have HUN : Aside0 (∀ W, Calls Tryz.prog 24 #[.string x] W fun e w' => e = .returned (.tuple #[.string a, .int .i64 0, .bool true]) ∧ Below W.heap.size W w') := ⟨fun W => by
    have := unwrite_calls x W (by omega)
    rw [← hx, tl_mkB, unw_wrA] at this
    rw [← hx]
    have e : unwV (tl a, 0, true) = .tuple #[.string a, .int .i64 0, .bool true] := by
      have q : (⟨(tl a).toArray⟩ : ByteArray) = a := mkB_tl a
      unfold unwV
      rw [q]
      rfl
    rw [e] at this
    exact this⟩
  have HEQ : Aside0 ((y.toList == x.toList) = (a.toList == b.toList)) := ⟨by
    rw [str_eq, str_eq]
    by_cases q : a = b
    · subst q
      rw [← hx, ← hy, decide_eq_true rfl]
      exact (decide_eq_true rfl).symm
    · rw [decide_eq_false q, decide_eq_false (fun e => q (tl_inj (wrA_inj (by
        rw [← hx, ← hy] at e
        have := congrArg tl e
        rw [tl_mkB, tl_mkB] at this
        exact this.symm))))]⟩
  rw [hx] at HWA HWI
  rw [hy] at HWB
  obtain ⟨qb, hqb⟩ : ∃ qb, (a.toList == b.toList) = qb := ⟨_, rfl⟩
  have hqx : (y.toList == x.toList) = qb := HEQ.out.trans hqb
  have haa : (a.toList == a.toList) = true := by simp
  have hll : (line.toList == line.toList) = true := by simp
  have hqq : (qb == qb) = true := by simp
  have HTT := Aside0.mk (read_text (word, l) hT)
  have HTN : Aside0 ((textF (word, l)).2 = okB) := ⟨by
    unfold textF at hT ⊢
    by_cases q : (checkF word l).1 = 0
    · rw [if_pos q] at hT ⊢
      by_cases q2 : 262144 < (textL (word, l)).length
      · rw [if_pos q2] at hT; cases hT
      · rw [if_neg q2]
    · rw [if_neg q] at hT; exact absurd hT q⟩
  have hsame := same_self (word, l)
  have HRN := Aside0.mk hR
  obtain ⟨tx, htx⟩ : ∃ tx, (textF (word, l)).1 = tx := ⟨_, rfl⟩
  rw [htx] at HTX
  rw [htx] at HTT
  clear hC hsm hT hR hG h1 h2 h3 hws hns has hlen hx hy HEQ htx
  go_enter Tryz.func7, Tryz.ntmps7
  go_wp2_with (fail)
  have HBX : Aside0 (Below w.heap.size w (w.alloc (.cells #[.string word, .slice A n c] 25))) := ⟨(Below.refl _ _).alloc (Nat.le_refl _) _⟩
  refine (HSM.out _ (HC.out.2.below HBX.out)).mono ?_
  rintro e w1 ⟨rfl, hb1⟩
  have HB1 : Aside0 (Below w.heap.size w w1) := ⟨below_step (w := w) HBX.out hb1⟩
  have c0 := pw_cell_below hb1 (show (w.alloc (.cells #[.string word, .slice A n c] 25)).cell? ⟨w.heap.size, 0, none⟩ = some (.string word) by simp)
  have c1 := pw_cell_below hb1 (show (w.alloc (.cells #[.string word, .slice A n c] 25)).cell? ⟨w.heap.size, 1, none⟩ = some (.slice A n c) by simp)
  clear hb1
  go_wp2_with (fail)
  refine (HTX.out _ (HC.out.2.below HB1.out) (HG.out.below HB1.out)).mono ?_
  rintro e w2 ⟨v2, rfl, hE2, hb2⟩
  have HB2 : Aside0 (Below w.heap.size w w2) := ⟨below_step (w := w) HB1.out hb2⟩
  have d0 := pw_cell_below hb2 c0
  have d1 := pw_cell_below hb2 c1
  clear hb2 c0 c1
  rw [HTN.out] at hE2
  have hv2 := hE2.nil
  subst hv2
  clear hE2
  go_wp2_with (fail)
  refine (HRD.out tx _ (HG.out.below HB2.out)).mono ?_
  rw [HTT.out]
  rintro e w3 ⟨cv3, ev3, rfl, ⟨sv3, rfl, hown3⟩, hE3, hb3⟩
  have hown3 : w3.ownsRow w2.heap.size 9 1 sv3 n (l.map Value.string) := by rw [← HC.out.2.1]; exact hown3
  obtain ⟨a3, k3, rfl⟩ := own_form hown3
  have hv3 := hE3.nil
  subst hv3
  have HB3 : Aside0 (Below w.heap.size w w3) := ⟨below_step (w := w) HB2.out hb3⟩
  have HL3 : Aside0 (LSt w3 a3 n l) := ⟨own_lst hown3 HC.out.2.2.1 HC.out.2.2.2.2⟩
  have e0 := pw_cell_below hb3 d0
  have e1 := pw_cell_below hb3 d1
  have hword : (((word, l), okB) : Cl × Bd).fst.fst = word := rfl
  rw [hword]
  have hz3 : w.heap.size < w3.heap.size := World.block_lt_of_cell? _ _ e0
  have hz3' : w.heap.size ≠ w3.heap.size := Nat.ne_of_lt hz3
  have HN3 : Aside0 (Below w3.heap.size w3 (w3.alloc (.cells #[.string word, .slice a3 n k3] 25))) := ⟨(Below.refl _ _).alloc (Nat.le_refl _) _⟩
  clear hb3 hown3 hE3 d0 d1
  go_wp2_with (fail)
  refine (same_calls word word l l A a3 n n c k3 _ ((HC.out.2.below HB3.out).below HN3.out) (HL3.out.below HN3.out)).mono ?_
  rintro e w4 ⟨rfl, hb4⟩
  have HB4 : Aside0 (Below w.heap.size w w4) := ⟨below_step (w := w) (below_step (w := w) HB3.out HN3.out) hb4⟩
  clear hb4 e0 e1
  go_wp2_with (fail)
  refine (HRD.out line _ (HG.out.below HB4.out)).mono ?_
  rintro e w5 ⟨cv5, ev5, rfl, ⟨sv5, rfl, hown5⟩, hE5, hb5⟩
  obtain ⟨a5, k5, rfl⟩ := own_form hown5
  obtain ⟨g5, rfl⟩ : ∃ g, ev5 = .iface 43 (.pointer (some ⟨g, 0, none⟩)) := by
    rcases hE5 with ⟨q, _⟩ | ⟨_, g, q, _⟩
    · exact absurd q HRN.out
    · exact ⟨g, q⟩
  have HB5 : Aside0 (Below w.heap.size w w5) := ⟨below_step (w := w) HB4.out hb5⟩
  have HB6 : Aside0 (Below w.heap.size w (w5.alloc (.cells #[.string (readF line).1.1, .slice a5 (readF line).1.2.length k5] 25))) := ⟨below_step (w := w) HB5.out ((Below.refl _ _).alloc (Nat.le_refl _) _)⟩
  clear hb5 hown5 hE5
  go_wp2_with (fail)
  refine (HWA.out _).mono ?_
  rintro e w7 ⟨rfl, hb7⟩
  have HB7 : Aside0 (Below w.heap.size w w7) := ⟨below_step (w := w) HB6.out hb7⟩
  clear hb7
  go_wp2_with (fail)
  go_loop [18] (fun v18 => ∃ i : Nat, i ≤ x.size ∧ v18 = .int .i64 i) (fun v18 => x.size - (intOf v18).toNat)
  case atStart => exact ⟨0, Nat.zero_le _, rfl⟩
  case round =>
    obtain ⟨i, hi, rfl⟩ := hrel
    by_cases hlt : i < x.size
    · have hlt' : (i : Int) < (x.size : Int) := by omega
      have h0' : (0 : Int) ≤ (i : Int) := by omega
      obtain ⟨hc1, hc2⟩ := HWI.out i hlt
      obtain ⟨ch, hch⟩ : ∃ ch, x[i]'hlt = ch := ⟨_, rfl⟩
      rw [hch] at hc1 hc2
      go_wp2_with (fail)
      all_goals exact ⟨⟨i + 1, by omega, by simp⟩, by simp [intOf]; omega⟩
    · have hlt' : ¬ (i : Int) < (x.size : Int) := by omega
      go_wp2_with (fail)
      refine (HUN.out _).mono ?_
      rintro e w8 ⟨rfl, hb8⟩
      have HB8 : Aside0 (Below w.heap.size w w8) := ⟨below_step (w := w) HB7.out hb8⟩
      clear hb8
      go_wp2_with (fail)
      refine (HWB.out _).mono ?_
      rintro e w9 ⟨rfl, hb9⟩
      have HB9 : Aside0 (Below w.heap.size w w9) := ⟨below_step (w := w) HB8.out hb9⟩
      clear hb9
      go_wp2_with (fail)
      refine (lives_calls _ (HG.out.below HB9.out)).mono ?_
      rintro e wa ⟨rfl, hba⟩
      have HBa : Aside0 (Below w.heap.size w wa) := ⟨below_step (w := w) HB9.out hba⟩
      clear hba
      go_wp2_with (fail)
      go_ret
      exact ⟨by first | rfl | (simp; done), HBa.out⟩
set_option maxHeartbeats 32000000 in
set_option maxRecDepth 100000 in
theorem back_01 (word : ByteArray) (l : List ByteArray) (A : Option Addr) (n c : Nat) (line a b : ByteArray) (w : World) (hC : CL w word A n l) (hsm : smallB (word, l) = true) (h1 : line.size ≤ 4000) (h2 : a.size ≤ 4000) (h3 : b.size ≤ 4000) (hT : (textF (word, l)).2.1 ≠ 0) (hR : (readF line).2.1 = 0) (hG : GW w) : Calls Tryz.prog 7 #[.agg #[.string word, .slice A n c], .string line, .string a, .string b] w fun e w' => e = .returned (.bool true) ∧ Below w.heap.size w w' := by
  have HG := Aside0.mk hG
  have HC := Aside0.mk hC
  obtain ⟨hws, hns, has⟩ := small_yes hsm
  have hlen : l.length = n := hC.2.1
  have HSM : Aside0 (∀ W, LSt W A n l → Calls Tryz.prog 18 #[.agg #[.string word, .slice A n c]] W fun e w' => e = .returned (.bool true) ∧ Below W.heap.size W w') := ⟨fun W h => by have := small_calls word l A n c W hC.1 h; rw [hsm] at this; exact this⟩
  have HTX : Aside0 (∀ W, LSt W A n l → GW W → Calls Tryz.prog 19 #[.agg #[.string word, .slice A n c]] W fun e w' => ∃ v, e = .returned (.tuple #[.string (textF (word, l)).1, v]) ∧ EA w' v (textF (word, l)).2 ∧ Below W.heap.size W w') := ⟨fun W h hg => text_calls word l A n c W (by have : word.size ≤ 4000 := hws; omega) (by have : l.length ≤ 100 := hns; omega) (fun k hk => by have := has k hk; omega) h hg.1 hg.2.1⟩
  have HRD : Aside0 (∀ s W, GW W → Calls Tryz.prog 10 #[.string s] W fun e w' => ∃ cv ev, e = .returned (.tuple #[cv, ev]) ∧ RC W.heap.size w' (readF s).1 cv ∧ EA w' ev (readF s).2 ∧ Below W.heap.size W w') := ⟨readG⟩
  have n1 : ∀ (v : Value) (w : World), (binOp .eql 27 (.iface 43 v) .nilIface).run Tryz.prog w = .ok (.bool false) w := fun v w => by kernel_rfl
  have h1' : ¬ (4000 : Int) < (line.size : Int) := by omega
  have h2' : ¬ (4000 : Int) < (a.size : Int) := by omega
  have h3' : ¬ (4000 : Int) < (b.size : Int) := by omega
  have HWA : Aside0 (∀ W, Calls Tryz.prog 23 #[.string a] W fun e w' => e = .returned (.string (mkB (wrA (tl a)))) ∧ Below W.heap.size W w') := ⟨fun W => write_calls a W (by omega)⟩
  have HWB : Aside0 (∀ W, Calls Tryz.prog 23 #[.string b] W fun e w' => e = .returned (.string (mkB (wrA (tl b)))) ∧ Below W.heap.size W w') := ⟨fun W => write_calls b W (by omega)⟩
  have HWI := Aside0.mk (wr_byte (tl a))
  obtain ⟨x, hx⟩ : ∃ x, mkB (wrA (tl a)) = x := ⟨_, rfl⟩
  obtain ⟨y, hy⟩ : ∃ y, mkB (wrA (tl b)) = y := ⟨_, rfl⟩
  have hxz : x.size ≤ 12001 := by
    have := wrA_le (tl a)
    rw [show (tl a).length = a.size from Array.length_toList] at this
    rw [← hx, mkB_size]
    omega
  have HUN : Aside0 (∀ W, Calls Tryz.prog 24 #[.string x] W fun e w' => e = .returned (.tuple #[.string a, .int .i64 0, .bool true]) ∧ Below W.heap.size W w') := ⟨fun W => by
    have := unwrite_calls x W (by omega)
    rw [← hx, tl_mkB, unw_wrA] at this
    rw [← hx]
    have e : unwV (tl a, 0, true) = .tuple #[.string a, .int .i64 0, .bool true] := by
      have q : (⟨(tl a).toArray⟩ : ByteArray) = a := mkB_tl a
      unfold unwV
      rw [q]
      rfl
    rw [e] at this
    exact this⟩
  have HEQ : Aside0 ((y.toList == x.toList) = (a.toList == b.toList)) := ⟨by
    rw [str_eq, str_eq]
    by_cases q : a = b
    · subst q
      rw [← hx, ← hy, decide_eq_true rfl]
      exact (decide_eq_true rfl).symm
    · rw [decide_eq_false q, decide_eq_false (fun e => q (tl_inj (wrA_inj (by
        rw [← hx, ← hy] at e
        have := congrArg tl e
        rw [tl_mkB, tl_mkB] at this
        exact this.symm))))]⟩
  rw [hx] at HWA HWI
  rw [hy] at HWB
  obtain ⟨qb, hqb⟩ : ∃ qb, (a.toList == b.toList) = qb := ⟨_, rfl⟩
  have hqx : (y.toList == x.toList) = qb := HEQ.out.trans hqb
  have haa : (a.toList == a.toList) = true := by simp
  have hll : (line.toList == line.toList) = true := by simp
  have hqq : (qb == qb) = true := by simp
  have HTN := Aside0.mk hT
  have HTR := Aside0.mk (text_read line hR)
  have HSZ := Aside0.mk (read_small line hR)
  have HRN : Aside0 ((readF line).2 = okB) := ⟨by
    unfold readF at hR ⊢
    split at hR
    · cases hR
    · rename_i q
      rw [if_neg q]
      split at hR
      · cases hR
      · rename_i q2
        rw [if_neg q2]
        cases hp : prs 0 (spl 32 (tl line)) with
        | inl k => rw [hp] at hR; cases hR
        | inr W =>
          rw [hp] at hR
          cases W with
          | nil => rfl
          | cons p r =>
            simp only at hR ⊢
            by_cases q3 : (checkF (mkB p) (r.map mkB)).1 = 0
            · rw [if_pos q3]
            · rw [if_neg q3] at hR; exact absurd hR q3⟩
  obtain ⟨⟨cw, cl⟩, hcl⟩ : ∃ r, (readF line).1 = r := ⟨_, rfl⟩
  rw [hcl] at HTR HSZ
  obtain ⟨m, hm⟩ : ∃ m, cl.length = m := ⟨_, rfl⟩
  have HTX2 : Aside0 (∀ (D : Option Addr) k W, LSt W D m cl → GW W → Calls Tryz.prog 19 #[.agg #[.string cw, .slice D m k]] W fun e w' => ∃ v, e = .returned (.tuple #[.string line, v]) ∧ EA w' v okB ∧ Below W.heap.size W w') := ⟨fun D k W h hg => by
    have := text_calls cw cl D m k W (by have q : cw.size ≤ line.size := HSZ.out.1; omega) (by have q : cl.length ≤ line.size := HSZ.out.2.1; omega) (fun z hz => by have := HSZ.out.2.2 z hz; omega) h hg.1 hg.2.1
    rw [HTR.out] at this
    exact this⟩
  have HCL := Aside0.mk (And.intro hcl hm)
  clear hcl hm
  obtain ⟨tx, htx⟩ : ∃ tx, (textF (word, l)).1 = tx := ⟨_, rfl⟩
  rw [htx] at HTX
  clear hC hsm hT hR hG h1 h2 h3 hws hns has hlen hx hy HEQ htx
  go_enter Tryz.func7, Tryz.ntmps7
  go_wp2_with (fail)
  have HBX : Aside0 (Below w.heap.size w (w.alloc (.cells #[.string word, .slice A n c] 25))) := ⟨(Below.refl _ _).alloc (Nat.le_refl _) _⟩
  refine (HSM.out _ (HC.out.2.below HBX.out)).mono ?_
  rintro e w1 ⟨rfl, hb1⟩
  have HB1 : Aside0 (Below w.heap.size w w1) := ⟨below_step (w := w) HBX.out hb1⟩
  have c0 := pw_cell_below hb1 (show (w.alloc (.cells #[.string word, .slice A n c] 25)).cell? ⟨w.heap.size, 0, none⟩ = some (.string word) by simp)
  have c1 := pw_cell_below hb1 (show (w.alloc (.cells #[.string word, .slice A n c] 25)).cell? ⟨w.heap.size, 1, none⟩ = some (.slice A n c) by simp)
  clear hb1
  go_wp2_with (fail)
  refine (HTX.out _ (HC.out.2.below HB1.out) (HG.out.below HB1.out)).mono ?_
  rintro e w2 ⟨v2, rfl, hE2, hb2⟩
  have HB2 : Aside0 (Below w.heap.size w w2) := ⟨below_step (w := w) HB1.out hb2⟩
  have d0 := pw_cell_below hb2 c0
  have d1 := pw_cell_below hb2 c1
  clear hb2 c0 c1
  obtain ⟨g2, rfl⟩ : ∃ g, v2 = .iface 43 (.pointer (some ⟨g, 0, none⟩)) := by
    rcases hE2 with ⟨q, _⟩ | ⟨_, g, q, _⟩
    · exact absurd q HTN.out
    · exact ⟨g, q⟩
  have HB4 := HB2
  clear hE2 d0 d1
  go_wp2_with (fail)
  refine (HRD.out line _ (HG.out.below HB4.out)).mono ?_
  rw [HCL.out.1]
  rintro e w5 ⟨cv5, ev5, rfl, ⟨sv5, rfl, hown5⟩, hE5, hb5⟩
  rw [HRN.out] at hE5
  have hown5 : w5.ownsRow w2.heap.size 9 1 sv5 m (cl.map Value.string) := by rw [← HCL.out.2]; exact hown5
  obtain ⟨a5, k5, rfl⟩ := own_form hown5
  have hv5 := hE5.nil
  subst hv5
  have HB5 : Aside0 (Below w.heap.size w w5) := ⟨below_step (w := w) HB4.out hb5⟩
  have HL5 : Aside0 (LSt w5 a5 m cl) := ⟨own_lst hown5 (by have q : cl.length ≤ line.size := HSZ.out.2.1; have := HCL.out.2; omega) (fun z hz => by have := HSZ.out.2.2 z hz; omega)⟩
  have hword5 : ((cw, cl) : Cl).fst = cw := rfl
  rw [hword5]
  have HN5 : Aside0 (Below w5.heap.size w5 (w5.alloc (.cells #[.string cw, .slice a5 m k5] 25))) := ⟨(Below.refl _ _).alloc (Nat.le_refl _) _⟩
  clear hb5 hown5 hE5
  go_wp2_with (fail)
  refine (HTX2.out a5 k5 _ (HL5.out.below HN5.out) (HG.out.below (below_step (w := w) HB5.out HN5.out))).mono ?_
  rintro e w6 ⟨v6, rfl, hE6, hb6⟩
  have hv6 := hE6.nil
  subst hv6
  have HB6 : Aside0 (Below w.heap.size w w6) := ⟨below_step (w := w) (below_step (w := w) HB5.out HN5.out) hb6⟩
  clear hb6 hE6
  go_wp2_with (fail)
  refine (HWA.out _).mono ?_
  rintro e w7 ⟨rfl, hb7⟩
  have HB7 : Aside0 (Below w.heap.size w w7) := ⟨below_step (w := w) HB6.out hb7⟩
  clear hb7
  go_wp2_with (fail)
  go_loop [18] (fun v18 => ∃ i : Nat, i ≤ x.size ∧ v18 = .int .i64 i) (fun v18 => x.size - (intOf v18).toNat)
  case atStart => exact ⟨0, Nat.zero_le _, rfl⟩
  case round =>
    obtain ⟨i, hi, rfl⟩ := hrel
    by_cases hlt : i < x.size
    · have hlt' : (i : Int) < (x.size : Int) := by omega
      have h0' : (0 : Int) ≤ (i : Int) := by omega
      obtain ⟨hc1, hc2⟩ := HWI.out i hlt
      obtain ⟨ch, hch⟩ : ∃ ch, x[i]'hlt = ch := ⟨_, rfl⟩
      rw [hch] at hc1 hc2
      go_wp2_with (fail)
      all_goals exact ⟨⟨i + 1, by omega, by simp⟩, by simp [intOf]; omega⟩
    · have hlt' : ¬ (i : Int) < (x.size : Int) := by omega
      go_wp2_with (fail)
      refine (HUN.out _).mono ?_
      rintro e w8 ⟨rfl, hb8⟩
      have HB8 : Aside0 (Below w.heap.size w w8) := ⟨below_step (w := w) HB7.out hb8⟩
      clear hb8
      go_wp2_with (fail)
      refine (HWB.out _).mono ?_
      rintro e w9 ⟨rfl, hb9⟩
      have HB9 : Aside0 (Below w.heap.size w w9) := ⟨below_step (w := w) HB8.out hb9⟩
      clear hb9
      go_wp2_with (fail)
      refine (lives_calls _ (HG.out.below HB9.out)).mono ?_
      rintro e wa ⟨rfl, hba⟩
      have HBa : Aside0 (Below w.heap.size w wa) := ⟨below_step (w := w) HB9.out hba⟩
      clear hba
      go_wp2_with (fail)
      go_ret
      exact ⟨by first | rfl | (simp; done), HBa.out⟩
set_option maxHeartbeats 32000000 in
set_option maxRecDepth 100000 in
theorem back_00 (word : ByteArray) (l : List ByteArray) (A : Option Addr) (n c : Nat) (line a b : ByteArray) (w : World) (hC : CL w word A n l) (hsm : smallB (word, l) = true) (h1 : line.size ≤ 4000) (h2 : a.size ≤ 4000) (h3 : b.size ≤ 4000) (hT : (textF (word, l)).2.1 ≠ 0) (hR : (readF line).2.1 ≠ 0) (hG : GW w) : Calls Tryz.prog 7 #[.agg #[.string word, .slice A n c], .string line, .string a, .string b] w fun e w' => e = .returned (.bool true) ∧ Below w.heap.size w w' := by
  have HG := Aside0.mk hG
  have HC := Aside0.mk hC
  obtain ⟨hws, hns, has⟩ := small_yes hsm
  have hlen : l.length = n := hC.2.1
  have HSM : Aside0 (∀ W, LSt W A n l → Calls Tryz.prog 18 #[.agg #[.string word, .slice A n c]] W fun e w' => e = .returned (.bool true) ∧ Below W.heap.size W w') := ⟨fun W h => by have := small_calls word l A n c W hC.1 h; rw [hsm] at this; exact this⟩
  have HTX : Aside0 (∀ W, LSt W A n l → GW W → Calls Tryz.prog 19 #[.agg #[.string word, .slice A n c]] W fun e w' => ∃ v, e = .returned (.tuple #[.string (textF (word, l)).1, v]) ∧ EA w' v (textF (word, l)).2 ∧ Below W.heap.size W w') := ⟨fun W h hg => text_calls word l A n c W (by have : word.size ≤ 4000 := hws; omega) (by have : l.length ≤ 100 := hns; omega) (fun k hk => by have := has k hk; omega) h hg.1 hg.2.1⟩
  have HRD : Aside0 (∀ s W, GW W → Calls Tryz.prog 10 #[.string s] W fun e w' => ∃ cv ev, e = .returned (.tuple #[cv, ev]) ∧ RC W.heap.size w' (readF s).1 cv ∧ EA w' ev (readF s).2 ∧ Below W.heap.size W w') := ⟨readG⟩
  have n1 : ∀ (v : Value) (w : World), (binOp .eql 27 (.iface 43 v) .nilIface).run Tryz.prog w = .ok (.bool false) w := fun v w => by kernel_rfl
  have h1' : ¬ (4000 : Int) < (line.size : Int) := by omega
  have h2' : ¬ (4000 : Int) < (a.size : Int) := by omega
  have h3' : ¬ (4000 : Int) < (b.size : Int) := by omega
  have HWA : Aside0 (∀ W, Calls Tryz.prog 23 #[.string a] W fun e w' => e = .returned (.string (mkB (wrA (tl a)))) ∧ Below W.heap.size W w') := ⟨fun W => write_calls a W (by omega)⟩
  have HWB : Aside0 (∀ W, Calls Tryz.prog 23 #[.string b] W fun e w' => e = .returned (.string (mkB (wrA (tl b)))) ∧ Below W.heap.size W w') := ⟨fun W => write_calls b W (by omega)⟩
  have HWI := Aside0.mk (wr_byte (tl a))
  obtain ⟨x, hx⟩ : ∃ x, mkB (wrA (tl a)) = x := ⟨_, rfl⟩
  obtain ⟨y, hy⟩ : ∃ y, mkB (wrA (tl b)) = y := ⟨_, rfl⟩
  have hxz : x.size ≤ 12001 := by
    have := wrA_le (tl a)
    rw [show (tl a).length = a.size from Array.length_toList] at this
    rw [← hx, mkB_size]
    omega
  have HUN : Aside0 (∀ W, Calls Tryz.prog 24 #[.string x] W fun e w' => e = .returned (.tuple #[.string a, .int .i64 0, .bool true]) ∧ Below W.heap.size W w') := ⟨fun W => by
    have := unwrite_calls x W (by omega)
    rw [← hx, tl_mkB, unw_wrA] at this
    rw [← hx]
    have e : unwV (tl a, 0, true) = .tuple #[.string a, .int .i64 0, .bool true] := by
      have q : (⟨(tl a).toArray⟩ : ByteArray) = a := mkB_tl a
      unfold unwV
      rw [q]
      rfl
    rw [e] at this
    exact this⟩
  have HEQ : Aside0 ((y.toList == x.toList) = (a.toList == b.toList)) := ⟨by
    rw [str_eq, str_eq]
    by_cases q : a = b
    · subst q
      rw [← hx, ← hy, decide_eq_true rfl]
      exact (decide_eq_true rfl).symm
    · rw [decide_eq_false q, decide_eq_false (fun e => q (tl_inj (wrA_inj (by
        rw [← hx, ← hy] at e
        have := congrArg tl e
        rw [tl_mkB, tl_mkB] at this
        exact this.symm))))]⟩
  rw [hx] at HWA HWI
  rw [hy] at HWB
  obtain ⟨qb, hqb⟩ : ∃ qb, (a.toList == b.toList) = qb := ⟨_, rfl⟩
  have hqx : (y.toList == x.toList) = qb := HEQ.out.trans hqb
  have haa : (a.toList == a.toList) = true := by simp
  have hll : (line.toList == line.toList) = true := by simp
  have hqq : (qb == qb) = true := by simp
  have HTN := Aside0.mk hT
  have HRN := Aside0.mk hR
  obtain ⟨tx, htx⟩ : ∃ tx, (textF (word, l)).1 = tx := ⟨_, rfl⟩
  rw [htx] at HTX
  clear hC hsm hT hR hG h1 h2 h3 hws hns has hlen hx hy HEQ htx
  go_enter Tryz.func7, Tryz.ntmps7
  go_wp2_with (fail)
  have HBX : Aside0 (Below w.heap.size w (w.alloc (.cells #[.string word, .slice A n c] 25))) := ⟨(Below.refl _ _).alloc (Nat.le_refl _) _⟩
  refine (HSM.out _ (HC.out.2.below HBX.out)).mono ?_
  rintro e w1 ⟨rfl, hb1⟩
  have HB1 : Aside0 (Below w.heap.size w w1) := ⟨below_step (w := w) HBX.out hb1⟩
  have c0 := pw_cell_below hb1 (show (w.alloc (.cells #[.string word, .slice A n c] 25)).cell? ⟨w.heap.size, 0, none⟩ = some (.string word) by simp)
  have c1 := pw_cell_below hb1 (show (w.alloc (.cells #[.string word, .slice A n c] 25)).cell? ⟨w.heap.size, 1, none⟩ = some (.slice A n c) by simp)
  clear hb1
  go_wp2_with (fail)
  refine (HTX.out _ (HC.out.2.below HB1.out) (HG.out.below HB1.out)).mono ?_
  rintro e w2 ⟨v2, rfl, hE2, hb2⟩
  have HB2 : Aside0 (Below w.heap.size w w2) := ⟨below_step (w := w) HB1.out hb2⟩
  have d0 := pw_cell_below hb2 c0
  have d1 := pw_cell_below hb2 c1
  clear hb2 c0 c1
  obtain ⟨g2, rfl⟩ : ∃ g, v2 = .iface 43 (.pointer (some ⟨g, 0, none⟩)) := by
    rcases hE2 with ⟨q, _⟩ | ⟨_, g, q, _⟩
    · exact absurd q HTN.out
    · exact ⟨g, q⟩
  have HB4 := HB2
  clear hE2 d0 d1
  go_wp2_with (fail)
  refine (HRD.out line _ (HG.out.below HB4.out)).mono ?_
  rintro e w5 ⟨cv5, ev5, rfl, ⟨sv5, rfl, hown5⟩, hE5, hb5⟩
  obtain ⟨a5, k5, rfl⟩ := own_form hown5
  obtain ⟨g5, rfl⟩ : ∃ g, ev5 = .iface 43 (.pointer (some ⟨g, 0, none⟩)) := by
    rcases hE5 with ⟨q, _⟩ | ⟨_, g, q, _⟩
    · exact absurd q HRN.out
    · exact ⟨g, q⟩
  have HB5 : Aside0 (Below w.heap.size w w5) := ⟨below_step (w := w) HB4.out hb5⟩
  have HB6 : Aside0 (Below w.heap.size w (w5.alloc (.cells #[.string (readF line).1.1, .slice a5 (readF line).1.2.length k5] 25))) := ⟨below_step (w := w) HB5.out ((Below.refl _ _).alloc (Nat.le_refl _) _)⟩
  clear hb5 hown5 hE5
  go_wp2_with (fail)
  refine (HWA.out _).mono ?_
  rintro e w7 ⟨rfl, hb7⟩
  have HB7 : Aside0 (Below w.heap.size w w7) := ⟨below_step (w := w) HB6.out hb7⟩
  clear hb7
  go_wp2_with (fail)
  go_loop [18] (fun v18 => ∃ i : Nat, i ≤ x.size ∧ v18 = .int .i64 i) (fun v18 => x.size - (intOf v18).toNat)
  case atStart => exact ⟨0, Nat.zero_le _, rfl⟩
  case round =>
    obtain ⟨i, hi, rfl⟩ := hrel
    by_cases hlt : i < x.size
    · have hlt' : (i : Int) < (x.size : Int) := by omega
      have h0' : (0 : Int) ≤ (i : Int) := by omega
      obtain ⟨hc1, hc2⟩ := HWI.out i hlt
      obtain ⟨ch, hch⟩ : ∃ ch, x[i]'hlt = ch := ⟨_, rfl⟩
      rw [hch] at hc1 hc2
      go_wp2_with (fail)
      all_goals exact ⟨⟨i + 1, by omega, by simp⟩, by simp [intOf]; omega⟩
    · have hlt' : ¬ (i : Int) < (x.size : Int) := by omega
      go_wp2_with (fail)
      refine (HUN.out _).mono ?_
      rintro e w8 ⟨rfl, hb8⟩
      have HB8 : Aside0 (Below w.heap.size w w8) := ⟨below_step (w := w) HB7.out hb8⟩
      clear hb8
      go_wp2_with (fail)
      refine (HWB.out _).mono ?_
      rintro e w9 ⟨rfl, hb9⟩
      have HB9 : Aside0 (Below w.heap.size w w9) := ⟨below_step (w := w) HB8.out hb9⟩
      clear hb9
      go_wp2_with (fail)
      refine (lives_calls _ (HG.out.below HB9.out)).mono ?_
      rintro e wa ⟨rfl, hba⟩
      have HBa : Aside0 (Below w.heap.size w wa) := ⟨below_step (w := w) HB9.out hba⟩
      clear hba
      go_wp2_with (fail)
      go_ret
      exact ⟨by first | rfl | (simp; done), HBa.out⟩
set_option maxHeartbeats 32000000 in
set_option maxRecDepth 100000 in
theorem back_no (word : ByteArray) (l : List ByteArray) (A : Option Addr) (n c : Nat) (line a b : ByteArray) (w : World) (hC : CL w word A n l) (h : ¬ (smallB (word, l) = true ∧ line.size ≤ 4000 ∧ a.size ≤ 4000 ∧ b.size ≤ 4000)) (hG : GW w) : Calls Tryz.prog 7 #[.agg #[.string word, .slice A n c], .string line, .string a, .string b] w fun e w' => e = .returned (.bool true) ∧ Below w.heap.size w w' := by
  have HG := Aside0.mk hG
  have HC := Aside0.mk hC
  have HSM : Aside0 (∀ W, LSt W A n l → Calls Tryz.prog 18 #[.agg #[.string word, .slice A n c]] W fun e w' => e = .returned (.bool (smallB (word, l))) ∧ Below W.heap.size W w') := ⟨fun W h => small_calls word l A n c W hC.1 h⟩
  have HBX : Aside0 (Below w.heap.size w (w.alloc (.cells #[.string word, .slice A n c] 25))) := ⟨(Below.refl _ _).alloc (Nat.le_refl _) _⟩
  cases hs : smallB (word, l)
  case' false => rw [hs] at HSM
  case' true =>
    rw [hs] at HSM
    by_cases h1 : line.size ≤ 4000
    case' neg => have h1' : (4000 : Int) < (line.size : Int) := by omega
    case' pos =>
      have h1' : ¬ (4000 : Int) < (line.size : Int) := by omega
      by_cases h2 : a.size ≤ 4000
      case' neg => have h2' : (4000 : Int) < (a.size : Int) := by omega
      case' pos =>
        have h2' : ¬ (4000 : Int) < (a.size : Int) := by omega
        have h3' : (4000 : Int) < (b.size : Int) := by
          by_cases h3 : b.size ≤ 4000
          · exact absurd ⟨hs, h1, h2, h3⟩ h
          · omega
  all_goals
    clear h hs hC hG
    go_enter Tryz.func7, Tryz.ntmps7
    go_wp2_with (fail)
    refine (HSM.out _ (HC.out.2.below HBX.out)).mono ?_
    rintro e w1 ⟨rfl, hb1⟩
    have HB1 : Aside0 (Below w.heap.size w w1) := ⟨below_step (w := w) HBX.out hb1⟩
    clear hb1
    go_wp2_with (fail)
    refine (lives_calls _ (HG.out.below HB1.out)).mono ?_
    rintro e wa ⟨rfl, hba⟩
    have HBa : Aside0 (Below w.heap.size w wa) := ⟨below_step (w := w) HB1.out hba⟩
    clear hba
    go_wp2_with (fail)
    go_ret
    exact ⟨rfl, HBa.out⟩
theorem law_walk (word : ByteArray) (l : List ByteArray) (A : Option Addr) (n c : Nat) (line a b : ByteArray) (w : World) (hC : CL w word A n l) (hb1 : line.size ≤ 140737488351232) (hb2 : a.size ≤ 140737488351232) (hb3 : b.size ≤ 140737488351232) (hG : GW w) : Calls Tryz.prog 7 #[.agg #[.string word, .slice A n c], .string line, .string a, .string b] w fun e w' => e = .returned (.bool true) ∧ Below w.heap.size w w' := by
  by_cases h : smallB (word, l) = true ∧ line.size ≤ 4000 ∧ a.size ≤ 4000 ∧ b.size ≤ 4000
  · obtain ⟨h0, h1, h2, h3⟩ := h
    by_cases hT : (textF (word, l)).2.1 = 0
    · by_cases hR : (readF line).2.1 = 0
      · exact back_11 word l A n c line a b w hC h0 h1 h2 h3 hT hR hG
      · exact back_10 word l A n c line a b w hC h0 h1 h2 h3 hT hR hG
    · by_cases hR : (readF line).2.1 = 0
      · exact back_01 word l A n c line a b w hC h0 h1 h2 h3 hT hR hG
      · exact back_00 word l A n c line a b w hC h0 h1 h2 h3 hT hR hG
  · exact back_no word l A n c line a b w hC h hG
end Go.Proofs.YtopcidphlleciaaGreatDoor.S

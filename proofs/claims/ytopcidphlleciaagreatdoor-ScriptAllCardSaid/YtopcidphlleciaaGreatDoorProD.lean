/- ParseUint at 31 bits. -/
import Derived.Test.YtopcidphlleciaaGreatDoorProC
import Derived.BigCall
import Derived.BigGuard
import Derived.Lib.ParseIntBMem
import Derived.Lib.ConvBytes
import Derived.Lib.AtoiErrMem
import Derived.Laws.Strings3
import Derived.Laws.Closers25
import Derived.Laws.Closers25b
namespace Go.Proofs.YtopcidphlleciaaGreatDoor.S
open Go.RowKit Go.Extern.Stop Go.Stop Go.Extern Go.Proofs.YtopcidphlleciaaGreatDoorW.PrintWords Go.Proofs.YtopcidphlleciaaGreatDoorW.PrintLast Go.Proofs.YtopcidphlleciaaGreatDoorW.PrintMore
set_option linter.unusedVariables false
set_option linter.unusedSimpArgs false
def numPI (l : BL) : Lib.NumEnd Nat := if l = [] then badEnd else Lib.parseUintM 2147483647 0 l
set_option maxHeartbeats 32000000 in
set_option maxRecDepth 100000 in
theorem iparse_calls (t : ByteArray) (hmax : t.size ≤ 140737488351232) (w : World) :
    Calls Tryz.prog 87 #[.string t, .int .i64 10, .int .i64 31] w fun e w' => e = .returned (Lib.uintTupleM 157 2147483647 (numPI (tl t))) ∧ Below w.heap.size w w' := by
  by_cases h0 : t.size = 0
  · obtain rfl : t = ⟨#[]⟩ := tl_inj (List.length_eq_zero_iff.1 (by rw [Array.length_toList]; exact h0))
    go_enter Tryz.func87, Tryz.ntmps87
    go_wp2_with (fail)
    go_ret2
    exact ⟨rfl, Below.refl _ _⟩
  · have hemp : (t.toList == []) = false := by
      rw [beq_eq_false_iff_ne]
      intro q
      have q2 := congrArg List.length q
      rw [ByteArray.toList_eq, Array.length_toList] at q2
      exact h0 q2
    have HNE : Aside0 (numPI (tl t) = Lib.parseUintM 2147483647 0 (tl t)) := ⟨by
      unfold numPI
      rw [if_neg]
      intro q
      have := congrArg List.length q
      rw [Array.length_toList] at this
      exact h0 this⟩
    rw [HNE.out]
    clear HNE
    have hcv := Lib.run_convert_string_bytes (P := Tryz.prog) w 9 57 5 t (u := .string) Tryz.underlying9 Tryz.underlying57 Tryz.underlying5
    have hB : ∀ j, j < t.size → (Lib.bytesWorld w 5 t).cell? ⟨w.heap.size, j, none⟩ = some (.int .u8 ((tl t).getD j 0).toNat) := fun j hj => Lib.bytesWorld_cell w 5 t j hj
    have HBW := Aside0.mk (Lib.bytesWorld_below w 5 t)
    obtain ⟨W1, hW1⟩ : ∃ W1, W1 = Lib.bytesWorld w 5 t := ⟨_, rfl⟩
    rw [← hW1] at hcv hB HBW
    clear hW1 h0
    have hLn : (tl t).length = t.size := Array.length_toList
    obtain ⟨bs, hbs⟩ : ∃ bs, tl t = bs := ⟨_, rfl⟩
    rw [hbs] at hB hLn ⊢
    clear hbs
    have hmv : IntKind.u64.wrap (IntKind.u64.wrap 2147483648 - 1) = 2147483647 := by decide +kernel
    go_enter Tryz.func87, Tryz.ntmps87
    go_wp2_with (fail)
    go_loop [12, 13, 101] (fun vu vn vi => ∃ (k acc : Nat) (a : Int), vu = .bool false ∧ vn = .int .u64 a ∧ vi = .int .i64 k ∧ k ≤ t.size ∧ Aside0 (a = (acc : Int) ∧ acc ≤ 2147483647 ∧ Lib.parseUintM 2147483647 0 bs = Lib.parseUintM 2147483647 acc (bs.drop k))) (fun _ _ vi => t.size - (intOf vi).toNat)
    case atStart => exact ⟨0, 0, 0, rfl, rfl, rfl, Nat.zero_le _, ⟨rfl, by omega, by rw [List.drop_zero]⟩⟩
    case round =>
      obtain ⟨k, acc, a, rfl, rfl, rfl, hk, HX⟩ := hrel
      have ha0 : 0 ≤ a := by have := HX.out.1; omega
      have ha1 : a ≤ 2147483647 := by have := HX.out.1; have := HX.out.2.1; omega
      by_cases hkn : k < t.size
      · have hc := hB k hkn
        have hdrop : bs.drop k = bs[k]'(by omega) :: bs.drop (k + 1) := List.drop_eq_getElem_cons (by omega)
        have hget : bs.getD k 0 = bs[k]'(by omega) := by simp [List.getD, List.getElem?_eq_getElem (show k < bs.length by omega)]
        rw [hget] at hc
        have HD := Aside0.mk hdrop
        generalize bs[k]'(by omega) = c at hc HD
        have hc256 : c.toNat < 256 := c.toNat_lt
        clear hB hdrop hget
        by_cases hdig : 48 ≤ c.toNat ∧ c.toNat ≤ 57
        · obtain ⟨hd0, hd1⟩ := hdig
          by_cases hov : 2147483647 < acc * 10 + (c.toNat - 48)
          · have HF : Aside0 (Lib.parseUintM 2147483647 0 bs = .range) := ⟨by rw [HX.out.2.2, HD.out, Lib.parseUintM, if_pos ⟨hd0, hd1⟩, if_neg (by have := HX.out.2.1; omega), if_pos hov]⟩
            have iov : 2147483647 < a * 10 + ((c.toNat : Int) - 48) := by have := HX.out.1; omega
            clear hov
            go_wp2
            go_ret2
            exact ⟨by rw [HF.out]; rfl, HBW.out⟩
          · have HF : Aside0 (acc * 10 + (c.toNat - 48) ≤ 2147483647 ∧ Lib.parseUintM 2147483647 0 bs = Lib.parseUintM 2147483647 (acc * 10 + (c.toNat - 48)) (bs.drop (k + 1))) := ⟨by omega, by rw [HX.out.2.2, HD.out, Lib.parseUintM, if_pos ⟨hd0, hd1⟩, if_neg (by have := HX.out.2.1; omega), if_neg hov]⟩
            have iov : a * 10 + ((c.toNat : Int) - 48) ≤ 2147483647 := by have := HX.out.1; omega
            clear hov
            go_wp2
            refine ⟨⟨k + 1, acc * 10 + (c.toNat - 48), a * 10 + ((c.toNat : Int) - 48), rfl, by first | rfl | (congr 1; omega), by first | rfl | (simp; done) | (congr 1; omega), by omega, ⟨by have := HX.out.1; omega, HF.out.1, HF.out.2⟩⟩, by simp [intOf]; omega⟩
        · have HF : Aside0 (Lib.parseUintM 2147483647 0 bs = badEnd) := ⟨by rw [HX.out.2.2, HD.out, Lib.parseUintM, if_neg hdig]; rfl⟩
          have hv0 := bits_lo_u8 .or (c.toNat : Int) 32
          have hv1 := bits_hi_u8 .or (c.toNat : Int) 32
          have hu0 := bits_lo_u8 .or 95 32
          have hu1 := bits_hi_u8 .or 95 32
          go_wp2_with (go_at_call 100; refine (Tryz.internal_strconv_lower _ _).mono ?_; rintro e w' ⟨rfl, rfl⟩)
          all_goals go_ret2
          all_goals exact ⟨by rw [HF.out]; rfl, HBW.out⟩
      · have HF : Aside0 (Lib.parseUintM 2147483647 0 bs = .ok acc) := ⟨by rw [HX.out.2.2, List.drop_eq_nil_of_le (by omega)]; rfl⟩
        have hkn' : ¬ (k : Int) < (t.size : Int) := by omega
        go_wp2
        go_ret2
        exact ⟨by rw [HF.out, HX.out.1]; rfl, HBW.out⟩
end Go.Proofs.YtopcidphlleciaaGreatDoor.S

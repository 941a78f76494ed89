/- The law's file, files. -/
import Derived.Test.YtmceikfbgmcmaaaGreatDoorRefA
import Derived.Test.YtmceikfbgmcmaaaGreatDoorAlB
import Derived.Deep.QuietTactic
import Derived.BigQuiet
namespace Go.Proofs.YtmceikfbgmcmaaaGreatDoor.D
open Go.RowKit Go.Extern.Stop Go.Stop Go.Extern Go.Proofs.YtmceikfbgmcmaaaGreatDoorW.PrintWords Go.Proofs.YtmceikfbgmcmaaaGreatDoorW.PrintLast Go.Proofs.YtmceikfbgmcmaaaGreatDoorW.PrintMore
set_option linter.unusedVariables false
set_option linter.unusedSimpArgs false
theorem and16 (z : Int) : ∃ x : Nat, x ≤ 65535 ∧ bits BinOp.and IntKind.i64 z 65535 = (x : Int) := by
  have h : (BitVec.ofInt 64 z &&& BitVec.ofInt 64 65535).toNat ≤ 65535 := by
    rw [BitVec.toNat_and]
    exact Nat.le_trans Nat.and_le_right (by decide)
  refine ⟨(BitVec.ofInt 64 z &&& BitVec.ofInt 64 65535).toNat, h, ?_⟩
  show IntKind.i64.wrap ((BitVec.ofInt 64 z &&& BitVec.ofInt 64 65535).toNat : Int) = _
  generalize (BitVec.ofInt 64 z &&& BitVec.ofInt 64 65535).toNat = y at *
  simp [IntKind.wrap, IntKind.bits, IntKind.signed]
  omega
set_option maxHeartbeats 16000000 in
set_option maxRecDepth 100000 in
theorem lawfile_calls (z : Int) (w : World) : Calls Tryz.prog 25 #[.int .i64 z] w fun e w' => ∃ nm : ByteArray, e = .returned (.string nm) ∧ (1 ≤ nm.size ∧ nm.size ≤ 12) ∧ Below w.heap.size w w' := by
  obtain ⟨x, hx, hb⟩ := and16 z
  obtain ⟨m, hm⟩ : ∃ m, x % 7 = m := ⟨_, rfl⟩
  have hr : Int.tmod (x : Int) 7 = (m : Int) := by
    rw [Int.tmod_eq_emod_of_nonneg (by omega)]
    omega
  have h7 : m = 0 ∨ m = 1 ∨ m = 2 ∨ m = 3 ∨ m = 4 ∨ m = 5 ∨ m = 6 := by omega
  clear hm hx
  rcases h7 with rfl | rfl | rfl | rfl | rfl | rfl | rfl
  all_goals (go_enter Tryz.func25, Tryz.ntmps25; go_wp2_with (fail); go_ret; exact ⟨_, rfl, by decide, (Below.refl _ _).alloc (Nat.le_refl _) _⟩)
set_option maxHeartbeats 16000000 in
set_option maxRecDepth 100000 in
theorem files_same {B : Nat} {w0 w : World} {p b q g : Nat} {s : St} (h : Half B w0 w p b q g s s) : Calls Tryz.prog 31 #[.pointer (some ⟨p, 0, none⟩), .pointer (some ⟨q, 0, none⟩)] w fun e w' => e = .returned (.bool true) ∧ Below w.heap.size w w' := by
  have HH := Aside0.mk h
  have HN1 := Aside0.mk (names_calls p b s w h.d)
  have HN2 := Aside0.mk (fun W (hb : Below w.heap.size w W) => rnames_calls q g s W (h.r.below hb))
  obtain ⟨K, hK⟩ : ∃ K, (if s.dead = true then [] else s.L.map (·.1)) = K := ⟨_, rfl⟩
  have HKs : Aside0 (∀ k ∈ K, k.size ≤ 128) := ⟨fun k hk => by
    rw [← hK] at hk
    split at hk
    · cases hk
    · obtain ⟨x, hx, rfl⟩ := List.mem_map.1 hk
      have := h.gs x hx
      unfold badN at this
      omega⟩
  have HR1 := Aside0.mk (fun W k (hb : Below w.heap.size w W) (hk : k ∈ K) => read_calls p b s k W (h.d.below hb) (by have := HKs.out k hk; unfold maxLen; omega))
  have HR2 := Aside0.mk (fun W k (hb : Below w.heap.size w W) => rread_calls q g s k W (h.r.below hb))
  rw [hK] at HN1 HN2
  have hlen : K.length ≤ 65536 := by
    rw [← hK]
    have := h.d.2.2.2.1
    split
    · exact Nat.zero_le _
    · rw [List.length_map]; exact this
  clear h hK
  go_enter Tryz.func31, Tryz.ntmps31
  go_wp2_with (fail)
  refine HN1.out.mono ?_
  rintro e w1 ⟨v5, rfl, hL1, hb1⟩
  have HB1 := Aside0.mk hb1
  have HL1 := Aside0.mk hL1
  obtain ⟨n, hn⟩ : ∃ n, K.length = n := ⟨_, rfl⟩
  have HKn := Aside0.mk hn
  rw [hn] at hlen
  obtain ⟨a5, c5, rfl⟩ : ∃ a5 c5, v5 = .slice a5 n c5 := by
    rcases hL1 with ⟨rfl, h0⟩ | ⟨g, cap, rfl, _⟩
    · exact ⟨none, 0, by rw [← hn, h0]; rfl⟩
    · exact ⟨_, _, by rw [hn]⟩
  clear hL1 hb1
  go_wp2_with (fail)
  refine (HN2.out _ HB1.out).mono ?_
  rintro e w2 ⟨v6, rfl, hL2, hb2⟩
  have HL2 := Aside0.mk hL2
  have HL1 := Aside0.mk (HL1.out.below hb2)
  have HB2 := Aside0.mk (below_step (w := w) HB1.out hb2)
  obtain ⟨a6, c6, rfl⟩ : ∃ a6 c6, v6 = .slice a6 n c6 := by
    rcases hL2 with ⟨rfl, h0⟩ | ⟨g, cap, rfl, _⟩
    · exact ⟨none, 0, by rw [← hn, h0]; rfl⟩
    · exact ⟨_, _, by rw [hn]⟩
  clear hL2 hb2 hn
  go_wp2_with (fail)
  go_loopw [7] (fun v7 wr => ∃ i : Nat, i ≤ n ∧ v7 = .int .i64 i ∧ Aside0 (Below w2.heap.size w2 wr)) (fun v7 _ => n - (intOf v7).toNat)
  case atStart => exact ⟨0, Nat.zero_le _, rfl, ⟨Below.refl _ _⟩⟩
  case round =>
    obtain ⟨i, hi, rfl, HW⟩ := hrel
    by_cases h1 : i < n
    · have h1' : (i : Int) < (n : Int) := by omega
      have h0' : (0 : Int) ≤ (i : Int) := by omega
      have hKl := HKn.out
      obtain ⟨k, hk⟩ : ∃ k, K[i]? = some k := ⟨_, List.getElem?_eq_getElem (by omega)⟩
      have hcell : ∀ (a : Option Addr) (c : Nat) (B : Nat), NL w2 B (.slice a n c) K → ∃ gg, a = some ⟨gg, 0, none⟩ ∧ wr.cell? ⟨gg, i, none⟩ = some (.string k) := fun a c B hNL => by
        rcases hNL with ⟨_, h0⟩ | ⟨gg, cap, e, h2, h3, h4⟩
        · rw [h0] at hKl; simp at hKl; omega
        · injection e with e
          refine ⟨gg, e, pw_cell_below HW.out ?_⟩
          rw [h4 i (by omega)]
          obtain ⟨hi2, e2⟩ := List.getElem?_eq_some_iff.1 hk
          rw [e2]
      obtain ⟨g5, rfl, c1⟩ := hcell a5 c5 _ HL1.out
      obtain ⟨g6, rfl, c2⟩ := hcell a6 c6 _ HL2.out
      have HBr := Aside0.mk (below_step (w := w) HB2.out HW.out)
      have HR1k := Aside0.mk (HR1.out wr k HBr.out (List.mem_of_getElem? hk))
      have HR2k := Aside0.mk (fun W hb => HR2.out W k hb)
      obtain ⟨x, hx⟩ : ∃ x, (if thereC s k = 0 then lkD s.L k else ⟨#[]⟩) = x := ⟨_, rfl⟩
      rw [hx] at HR1k HR2k
      clear hcell hk hKl hx
      go_wp2_with (fail)
      refine HR1k.out.mono ?_
      rintro e w3 ⟨v, rfl, _, hb3⟩
      have HB3 := Aside0.mk (below_step (w := w) HBr.out hb3)
      have HW3 := Aside0.mk (below_step (w := w2) HW.out hb3)
      have d1 := pw_cell_below hb3 c1
      have d2 := pw_cell_below hb3 c2
      clear hb3 c1 c2
      go_wp2_with (fail)
      refine (HR2k.out _ HB3.out).mono ?_
      rintro e w4 ⟨rfl, qn, hw4⟩
      have hb4 : Below w3.heap.size w3 w4 := by rw [hw4]; exact pw_below_drewN (Below.refl _ _) qn
      have HW4 := Aside0.mk (below_step (w := w2) HW3.out hb4)
      have c1 := pw_cell_below hb4 d1
      have c2 := pw_cell_below hb4 d2
      clear hb4 hw4 d1 d2
      go_wp2_with (fail)
      go_quiet (fail)
      go_wp2_with (fail)
      exact ⟨⟨i + 1, by omega, by simp, ⟨pw_below_drewN HW4.out _⟩⟩, by simp [intOf]; omega⟩
    · have h1' : ¬ (i : Int) < (n : Int) := by omega
      go_wp2_with (fail)
      go_ret
      exact ⟨rfl, below_step (w := w) HB2.out HW.out⟩
end Go.Proofs.YtmceikfbgmcmaaaGreatDoor.D

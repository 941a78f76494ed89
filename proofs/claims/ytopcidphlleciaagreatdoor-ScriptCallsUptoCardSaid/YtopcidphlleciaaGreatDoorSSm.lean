/- The law's small. -/
import Derived.Test.YtopcidphlleciaaGreatDoorSLi
namespace Go.Proofs.YtopcidphlleciaaGreatDoor.S
open Go.RowKit Go.Extern.Stop Go.Stop Go.Extern Go.Proofs.YtopcidphlleciaaGreatDoorW.PrintWords Go.Proofs.YtopcidphlleciaaGreatDoorW.PrintLast Go.Proofs.YtopcidphlleciaaGreatDoorW.PrintMore
set_option linter.unusedVariables false
set_option linter.unusedSimpArgs false
def sumS (l : List ByteArray) : Nat := (l.map ByteArray.size).sum
theorem sumS_mem {l : List ByteArray} {k : ByteArray} (h : k ∈ l) : k.size ≤ sumS l := by
  induction l with
  | nil => cases h
  | cons x r ih =>
    show _ ≤ x.size + sumS r
    rcases List.mem_cons.1 h with rfl | h
    · omega
    · have := ih h; omega
def smallB (c : Cl) : Bool := decide (c.2.length ≤ 100) && decide (c.1.size + sumS (c.2.take 200) ≤ 4000)
theorem small_yes {c : Cl} (h : smallB c = true) : c.1.size ≤ 4000 ∧ c.2.length ≤ 100 ∧ ∀ k ∈ c.2, k.size ≤ 4000 := by
  unfold smallB at h
  rw [Bool.and_eq_true, decide_eq_true_eq, decide_eq_true_eq] at h
  obtain ⟨h1, h2⟩ := h
  rw [List.take_of_length_le (by omega)] at h2
  exact ⟨by omega, h1, fun k hk => by have := sumS_mem hk; omega⟩
set_option maxHeartbeats 16000000 in
set_option maxRecDepth 100000 in
theorem small_calls (word : ByteArray) (args : List ByteArray) (a : Option Addr) (n c : Nat) (w : World) (hw : word.size ≤ 140737488351232) (hL : LSt w a n args) : Calls Tryz.prog 18 #[.agg #[.string word, .slice a n c]] w fun e w' => e = .returned (.bool (smallB (word, args))) ∧ Below w.heap.size w w' := by
  obtain ⟨b, hb⟩ : ∃ b, smallB (word, args) = b := ⟨_, rfl⟩
  rw [hb]
  have HBT : Aside0 ((decide (args.length ≤ 100) && decide (word.size + sumS (args.take 200) ≤ 4000)) = b) := ⟨hb⟩
  clear hb
  have HL := Aside0.mk hL
  have hn62 : n ≤ 8796093022208 := hL.2.1
  clear hL
  go_enter Tryz.func18, Tryz.ntmps18
  go_wp2_with (fail)
  have HB0 : Aside0 (Below w.heap.size w (w.alloc (.cells #[.string word, .slice a n c] 25))) := ⟨(Below.refl _ _).alloc (Nat.le_refl _) _⟩
  go_loop [3, 4] (fun v3 v4 => ∃ i t : Nat, i ≤ n ∧ i ≤ 200 ∧ v4 = .int .i64 i ∧ v3 = .int .i64 t ∧ t ≤ 140737488351232 * (i + 1) ∧ Aside0 (t = word.size + sumS (args.take i))) (fun _ v4 => n - (intOf v4).toNat)
  case atStart => exact ⟨0, word.size, Nat.zero_le _, Nat.zero_le _, rfl, rfl, by omega, ⟨by rw [List.take_zero]; rfl⟩⟩
  case round =>
    obtain ⟨i, t, hi, hi2, rfl, rfl, ht, HX⟩ := hrel
    by_cases h1 : i < n
    · have h1' : (i : Int) < (n : Int) := by omega
      have h0' : (0 : Int) ≤ (i : Int) := by omega
      by_cases h2 : i < 200
      · have h2' : (i : Int) < 200 := by omega
        have hil : i < args.length := by rw [HL.out.1]; exact h1
        obtain ⟨ab, ao, rfl, hcell⟩ := HL.out.2.2.1 (by omega)
        have a1 : (w.alloc (.cells #[.string word, .slice (some ⟨ab, ao, none⟩) n c] 25)).cell? ⟨ab, ao + i, none⟩ = some (.string args[i]) := pw_cell_below HB0.out (hcell i hil)
        have hsz := HL.out.2.2.2 _ (List.getElem_mem hil)
        have HN : Aside0 (t + args[i].size = word.size + sumS (args.take (i + 1))) := ⟨by
          rw [List.take_succ_eq_append_getElem hil]
          unfold sumS
          rw [List.map_append, List.sum_append]
          have := HX.out
          unfold sumS at this
          simp only [List.map_cons, List.map_nil, List.sum_cons, List.sum_nil]
          omega⟩
        generalize args[i] = s at *
        clear hcell hil
        go_wp2_with (fail)
        all_goals exact ⟨⟨i + 1, t + s.size, by omega, by omega, by simp, by simp, by omega, HN⟩, by simp [intOf]; omega⟩
      · have h2' : ¬ (i : Int) < 200 := by omega
        have hn' : ¬ (n : Int) ≤ 100 := by omega
        have HE : Aside0 (false = b) := ⟨by rw [← HBT.out, decide_eq_false (by rw [HL.out.1]; omega)]; rfl⟩
        go_wp2_with (fail)
        go_ret
        exact ⟨by rw [← HE.out]; rfl, HB0.out⟩
    · have h1' : ¬ (i : Int) < (n : Int) := by omega
      by_cases h3 : n ≤ 100
      · have h3' : (n : Int) ≤ 100 := by omega
        have HT2 : Aside0 (t = word.size + sumS (args.take 200)) := ⟨by rw [List.take_of_length_le (by rw [HL.out.1]; omega)]; have h5 := HX.out; rw [List.take_of_length_le (by rw [HL.out.1]; omega)] at h5; exact h5⟩
        by_cases h4 : t ≤ 4000
        · have h4' : (t : Int) ≤ 4000 := by omega
          have HE : Aside0 (true = b) := ⟨by rw [← HBT.out, decide_eq_true (by rw [HL.out.1]; exact h3), decide_eq_true (by rw [← HT2.out]; exact h4)]; rfl⟩
          go_wp2_with (fail)
          go_ret
          exact ⟨by rw [← HE.out]; rfl, HB0.out⟩
        · have h4' : ¬ (t : Int) ≤ 4000 := by omega
          have HE : Aside0 (false = b) := ⟨by rw [← HBT.out, decide_eq_true (by rw [HL.out.1]; exact h3), decide_eq_false (by rw [← HT2.out]; exact h4)]; rfl⟩
          go_wp2_with (fail)
          go_ret
          exact ⟨by rw [← HE.out]; rfl, HB0.out⟩
      · have h3' : ¬ (n : Int) ≤ 100 := by omega
        have HE : Aside0 (false = b) := ⟨by rw [← HBT.out, decide_eq_false (by rw [HL.out.1]; omega)]; rfl⟩
        go_wp2_with (fail)
        go_ret
        exact ⟨by rw [← HE.out]; rfl, HB0.out⟩
end Go.Proofs.YtopcidphlleciaaGreatDoor.S

/- The closure that puts words into the table. -/
import Derived.Test.YtopcidphlleciaaGreatDoorProF
namespace Go.Proofs.YtopcidphlleciaaGreatDoor.S
open Go.RowKit Go.Extern.Stop Go.Stop Go.Extern Go.Proofs.YtopcidphlleciaaGreatDoorW.PrintWords Go.Proofs.YtopcidphlleciaaGreatDoorW.PrintLast Go.Proofs.YtopcidphlleciaaGreatDoorW.PrintMore
set_option linter.unusedVariables false
set_option linter.unusedSimpArgs false
set_option maxHeartbeats 16000000 in
set_option maxRecDepth 100000 in
theorem put_calls (b mv g n : Nat) (L : TB) (x : Shp) (ws : List ByteArray) (w : World) (hM : MapT w b L) (hmv : w.cell? ⟨mv, 0, none⟩ = some (.map (some b))) (hmb : mv ≠ b) (hgb : g ≠ b) (hg : g < w.heap.size) (hn : ws.length = n) (hws : ∀ i (h : i < ws.length), w.cell? ⟨g, i, none⟩ = some (.string ws[i]))
    (hsz : ∀ k ∈ ws, k.size ≤ maxLen) (hL : L.length + ws.length < maxLen) (hnew : ∀ i (h : i < ws.length), lkT (L ++ (ws.take i).map (fun k => (k, x))) ws[i] = none) :
    Calls Tryz.prog 60 #[shV x, .slice (some ⟨g, 0, none⟩) n n, .pointer (some ⟨mv, 0, none⟩)] w fun e w' => e = .returned (.tuple #[]) ∧ MapT w' b (L ++ ws.map (fun k => (k, x))) ∧ w.grownBy w' (some b) := by
  have HM := Aside0.mk hM
  have hbl := hM.lt
  have hmvl := World.block_lt_of_cell? w _ hmv
  have HN := Aside0.mk hn
  have HWS := Aside0.mk hws
  have HSZ := Aside0.mk (And.intro hsz (And.intro hL hnew))
  have hnl : n ≤ 9223372036854775807 := by unfold maxLen at hL; omega
  clear hM hn hws hsz hL hnew
  obtain ⟨xk, xl, xm⟩ := x
  go_enter Tryz.func60, Tryz.ntmps60
  unfold shV
  go_wp2_with (fail)
  go_loopw [9] (fun v9 wr => ∃ i : Nat, i ≤ n ∧ v9 = .int .i64 i ∧ Aside0 (MapT wr b (L ++ (ws.take i).map (fun k => (k, (xk, xl, xm)))) ∧ (w.alloc (.cells #[.string xk, .int .i64 xl, .bool xm] 92)).grownBy wr (some b))) (fun v9 _ => n - (intOf v9).toNat)
  case atStart => exact ⟨0, Nat.zero_le _, rfl, ⟨by simpa using HM.out.below ((Below.refl _ _).alloc (Nat.le_refl _) _), ⟨rfl, rfl, rfl, Nat.le_refl _, fun _ _ _ => rfl⟩⟩⟩
  case round =>
    obtain ⟨i, hi, rfl, HX⟩ := hrel
    by_cases h1 : i < n
    · have h1' : (i : Int) < (n : Int) := by omega
      have h0' : (0 : Int) ≤ (i : Int) := by omega
      have hil : i < ws.length := by have := HN.out; omega
      have a1 : wr.cell? ⟨g, i, none⟩ = some (.string ws[i]) := HX.out.2.cell (a := ⟨g, i, none⟩) (by have := HWS.out i hil; go_simp) (fun e => by injection e with e; exact hgb e)
      have a2 : wr.cell? ⟨mv, 0, none⟩ = some (.map (some b)) := HX.out.2.cell (a := ⟨mv, 0, none⟩) (by go_simp) (fun e => by injection e with e; exact hmb e)
      have b0 : wr.cell? ⟨w.heap.size, 0, none⟩ = some (.string xk) := HX.out.2.cell (a := ⟨w.heap.size, 0, none⟩) (by go_simp) (fun e => by injection e with e; have e2 : w.heap.size = b := e; omega)
      have b1 : wr.cell? ⟨w.heap.size, 1, none⟩ = some (.int .i64 xl) := HX.out.2.cell (a := ⟨w.heap.size, 1, none⟩) (by go_simp) (fun e => by injection e with e; have e2 : w.heap.size = b := e; omega)
      have b2 : wr.cell? ⟨w.heap.size, 2, none⟩ = some (.bool xm) := HX.out.2.cell (a := ⟨w.heap.size, 2, none⟩) (by go_simp) (fun e => by injection e with e; have e2 : w.heap.size = b := e; omega)
      obtain ⟨w2, hst, hM2, ht2⟩ := HX.out.1.put (by have := HSZ.out.2.1; simp; omega) ws[i] (xk, xl, xm) (HSZ.out.1 _ (List.getElem_mem hil)) (HSZ.out.2.2 i hil)
      have HM2 : Aside0 (MapT w2 b (L ++ (ws.take (i + 1)).map (fun k => (k, (xk, xl, xm))))) := ⟨by rw [List.take_succ_eq_append_getElem hil, List.map_append, ← List.append_assoc]; exact hM2⟩
      have HT2 := Aside0.mk (World.grownBy.trans HX.out.2 ht2.grown)
      clear hM2 ht2
      unfold shV at hst
      generalize ws[i] = k at *
      clear hil
      go_wp2_with (fail)
      exact ⟨⟨i + 1, by omega, by simp, ⟨HM2.out, HT2.out⟩⟩, by simp [intOf]; omega⟩
    · have h1' : ¬ (i : Int) < (n : Int) := by omega
      have HE : Aside0 (ws.take i = ws) := ⟨List.take_of_length_le (by have := HN.out; omega)⟩
      go_wp2_with (fail)
      go_end0
      refine ⟨rfl, ?_, World.grownBy.trans (World.grownBy_alloc w _ _) HX.out.2⟩
      have := HX.out.1
      rw [HE.out] at this
      exact this
end Go.Proofs.YtopcidphlleciaaGreatDoor.S

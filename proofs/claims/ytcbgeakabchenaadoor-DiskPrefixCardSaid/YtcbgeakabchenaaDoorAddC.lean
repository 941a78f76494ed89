/- The closure of add: one piece behind a file. -/
import Derived.Test.YtcbgeakabchenaaDoorRawB
namespace Go.Proofs.YtcbgeakabchenaaDoor.D
open Go.RowKit Go.Extern.Stop Go.Stop Go.Extern Go.Proofs.YtcbgeakabchenaaDoorW.PrintWords Go.Proofs.YtcbgeakabchenaaDoorW.PrintLast Go.Proofs.YtcbgeakabchenaaDoorW.PrintMore
set_option linter.unusedVariables false
set_option linter.unusedSimpArgs false
set_option maxHeartbeats 16000000 in
set_option maxRecDepth 100000 in
theorem addc_calls (p b : Nat) (s : St) (g3 g4 g5 g7 : Nat) (name bytes : ByteArray) (n : Nat) (w : World) (h : DK w p b s) (c3 : w.cell? ⟨g3, 0, none⟩ = some (.pointer (some ⟨p, 0, none⟩))) (c4 : w.cell? ⟨g4, 0, none⟩ = some (.string name)) (c5 : w.cell? ⟨g5, 0, none⟩ = some (.string bytes)) (c7 : w.cell? ⟨g7, 0, none⟩ = some (.int .i64 n))
    (hn : n ≤ bytes.size) (hname : name.size ≤ 128) (hs : (lkD s.L name).size + n ≤ 16777216) (hl : (lay s.L name (lkD s.L name ++ bytes.extract 0 n)).length ≤ 65536) :
    Calls Tryd.prog 29 #[.pointer (some ⟨g3, 0, none⟩), .pointer (some ⟨g4, 0, none⟩), .pointer (some ⟨g5, 0, none⟩), .pointer (some ⟨g7, 0, none⟩)] w fun e w' => e = .returned (.tuple #[]) ∧ DK w' p b { s with L := lay s.L name (lkD s.L name ++ bytes.extract 0 n) } ∧ ∃ q, (w.drewN q).mapTurned w' b := by
  obtain ⟨e0, e1, e2, e3, ef⟩ := h.c
  have hex : (bytes.extract 0 n).size = n := by rw [ByteArray.size_extract]; omega
  have hsz : (lkD s.L name ++ bytes.extract 0 n).size ≤ 16777216 := by rw [ByteArray.size_append, hex]; omega
  have hok : Okf (lay s.L name (lkD s.L name ++ bytes.extract 0 n)) := ⟨lay_ris _ _ _ h.2.2.1, hl, fun q hq => by
    rcases mem_lay _ _ _ _ hq with rfl | hq
    · exact hsz
    · exact h.2.2.2.2 q hq⟩
  have hmx : (16777216 : Nat) ≤ maxLen := by decide
  have hlen : s.L.length < maxLen := Nat.lt_of_le_of_lt h.2.2.2.1 (by decide)
  have hlook := (h.drew 1).2.1.look name (by unfold maxLen; omega)
  obtain ⟨w2, hst, hM2, ht2⟩ := (h.drew 1).2.1.put h.2.2.1 hlen name (lkD s.L name ++ bytes.extract 0 n) (by unfold maxLen; omega) (by omega)
  have HD := Aside0.mk ((h.drew 1).turned ht2 hM2 hok)
  have HT := Aside0.mk ht2
  have n1 : ¬ 9223372036854775807 < (lkD s.L name).size + (bytes.extract 0 n).size := by rw [hex]; omega
  have n2 : (n : Int) ≤ (bytes.size : Int) := by omega
  have n3 : (0 : Int) ≤ (n : Int) := by omega
  clear h hM2 ht2 hok
  change (Instr.lookup 38 (.map (some b)) (.string name) false).run Tryd.prog w.drew = .ok (.string (lkD s.L name)) w.drew at hlook
  change (Instr.mapUpdate 38 (.map (some b)) (.string name) (.string (lkD s.L name ++ bytes.extract 0 n))).run Tryd.prog w.drew = .ok () w2 at hst
  go_enter Tryd.func29, Tryd.ntmps29
  go_wp2_with (fail)
  go_region
  go_end0
  exact ⟨rfl, HD.out, 1, HT.out⟩
end Go.Proofs.YtcbgeakabchenaaDoor.D

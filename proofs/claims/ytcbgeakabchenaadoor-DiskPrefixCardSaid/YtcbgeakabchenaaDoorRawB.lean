/- One raw write. -/
import Derived.Test.YtcbgeakabchenaaDoorDiskB
import Derived.WalkSmall
namespace Go.Proofs.YtcbgeakabchenaaDoor.D
open Go.RowKit Go.Extern.Stop Go.Stop Go.Extern Go.Proofs.YtcbgeakabchenaaDoorW.PrintWords Go.Proofs.YtcbgeakabchenaaDoorW.PrintLast Go.Proofs.YtcbgeakabchenaaDoorW.PrintMore
set_option linter.unusedVariables false
set_option linter.unusedSimpArgs false
abbrev lostE : PanicEntry := { v := .iface 55 (.agg #[]), recovered := false }
def rawOk (s : St) : Prop := ¬ (0 ≤ s.cut ∧ s.cut ≤ s.cnt)
set_option maxHeartbeats 8000000 in
set_option maxRecDepth 100000 in
theorem raw_no (p b : Nat) (s : St) (f : Value) (w : World) (h : DK w p b s) (h0 : 0 ≤ s.cut) (h1 : s.cut ≤ s.cnt) : Calls Tryd.prog 24 #[.pointer (some ⟨p, 0, none⟩), f] w fun e w' => e = .panicked [lostE] ∧ DK w' p b { s with dead := true } ∧ Kp p b w w' := by
  obtain ⟨c0, c1, c2, c3, cf⟩ := h.c
  have f3 := cf 3
  have HD := Aside0.mk h
  clear h c0
  go_enter Tryd.func24, Tryd.ntmps24
  go_wp2_with (fail)
  go_quiet (fail)
  go_wp2
  exact ⟨rfl, rfl, (HD.out.drew _).setDead true, ((Kp.refl p b w).drew _).set _⟩
set_option maxHeartbeats 8000000 in
set_option maxRecDepth 100000 in
theorem raw_ok (p b : Nat) (s : St) (g : Nat) (lb : Array Value) (R : World → Prop) (w : World) (eg : ∀ args w, (callFunc g args).run Tryd.prog w = .ok (.enter g args) w) (h : DK w p b s) (hr : rawOk s) (hf : ∀ q, Calls Tryd.prog g lb ((w.drewN q).setCell ⟨p, 2, none⟩ (.int .i64 (wrap64 (s.cnt + 1)))) fun e w' => e = .returned (.tuple #[]) ∧ R w') :
    Calls Tryd.prog 24 #[.pointer (some ⟨p, 0, none⟩), .func (.func g) #[] lb] w fun e w' => e = .returned (.tuple #[]) ∧ R w' := by
  obtain ⟨c0, c1, c2, c3, cf⟩ := h.c
  have f2 := cf 2
  have HF := Aside0.mk hf
  clear h hf c0
  unfold rawOk at hr
  by_cases h0 : 0 ≤ s.cut
  · have h1 : ¬ s.cut ≤ s.cnt := fun h => hr ⟨h0, h⟩
    clear hr
    go_enter Tryd.func24, Tryd.ntmps24
    go_wp2_with (fail)
    go_quiet (fail)
    go_wp2_with (fail)
    refine (HF.out _).mono ?_
    rintro e w1 ⟨rfl, hR⟩
    go_wp2_with (fail)
    go_end0
    exact ⟨rfl, hR⟩
  · have hd0 : decide (0 ≤ s.cut) = false := decide_eq_false h0
    clear hr
    go_enter Tryd.func24, Tryd.ntmps24
    go_wp2_with (fail)
    go_quiet (fail)
    go_wp2_with (fail)
    refine (HF.out _).mono ?_
    rintro e w1 ⟨rfl, hR⟩
    go_wp2_with (fail)
    go_end0
    exact ⟨rfl, hR⟩
end Go.Proofs.YtcbgeakabchenaaDoor.D

/- The walk of the law DiskPrefix. -/
import Derived.Test.YtcbgeakabchenaaDoorPreF
import Derived.Test.YtcbgeakabchenaaDoorPreB
import Derived.Test.YtcbgeakabchenaaDoorPreC
namespace Go.Proofs.YtcbgeakabchenaaDoor.D
open Go.RowKit Go.Extern.Stop Go.Stop Go.Extern Go.Proofs.YtcbgeakabchenaaDoorW.PrintWords Go.Proofs.YtcbgeakabchenaaDoorW.PrintLast Go.Proofs.YtcbgeakabchenaaDoorW.PrintMore
set_option linter.unusedVariables false
set_option linter.unusedSimpArgs false
set_option maxHeartbeats 64000000 in
set_option maxRecDepth 100000 in
theorem diskPrefix_calls (before text : ByteArray) (put : Bool) (w : World) (hb : before.size ≤ 140737488351232) (ht : text.size ≤ 140737488351232) (hG : GE w) : Calls Tryd.prog 3 #[.string before, .string text, .bool put] w fun e w' => e = .returned (.bool true) ∧ Below w.heap.size w w' := by
  by_cases h4 : before.size + text.size ≤ 4000
  · cases put
    case false => exact preF_calls before text w h4 hG
    case true =>
      by_cases hz : text.size = 0
      · exact preB_calls before text w h4 hz hG
      · exact preC_calls before text w h4 (by omega) hG
  · have HG := Aside0.mk hG
    clear hG
    have q4 : (4000 : Int) < (before.size : Int) + (text.size : Int) := by omega
    go_enter Tryd.func3, Tryd.ntmps3
    go_wp2_with (fail)
    refine (alive_calls _ HG.out).mono ?_
    rintro e w1 ⟨rfl, hb1⟩
    go_wp2_with (fail)
    go_ret
    exact ⟨rfl, hb1⟩
end Go.Proofs.YtcbgeakabchenaaDoor.D

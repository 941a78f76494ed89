/- DiskPlays, as the card wants it. -/
import Derived.Test.YtcbgeakabchenaaGreatDoorStepO
namespace Go.Proofs.YtcbgeakabchenaaGreatDoor.D
open Go.RowKit Go.Extern.Stop Go.Stop Go.Extern Go.Proofs.YtcbgeakabchenaaGreatDoorW.PrintWords Go.Proofs.YtcbgeakabchenaaGreatDoorW.PrintLast Go.Proofs.YtcbgeakabchenaaGreatDoorW.PrintMore
set_option linter.unusedVariables false
set_option linter.unusedSimpArgs false
theorem plays_walk (cut : Int) (a : Option Addr) (n cap : Nat) (w : World) (_ : -9223372036854775808 ≤ cut ∧ cut ≤ 9223372036854775807) (hl : SL w a n) (hG : GE w) : Calls Tryz.prog 3 #[.int .i64 cut, .slice a n cap] w fun e w' => e = .returned (.bool true) ∧ Below w.heap.size w w' := plays_calls cut a n cap w hl hG
end Go.Proofs.YtcbgeakabchenaaGreatDoor.D

/- DiskCopies, as the card wants it. -/
import Derived.Test.YtcbgeakabchenaaGreatDoorCopL
import Derived.Test.YtcbgeakabchenaaGreatDoorStepO
namespace Go.Proofs.YtcbgeakabchenaaGreatDoor.D
open Go.RowKit Go.Extern.Stop Go.Stop Go.Extern Go.Proofs.YtcbgeakabchenaaGreatDoorW.PrintWords Go.Proofs.YtcbgeakabchenaaGreatDoorW.PrintLast Go.Proofs.YtcbgeakabchenaaGreatDoorW.PrintMore
set_option linter.unusedVariables false
set_option linter.unusedSimpArgs false
theorem copies_walk (cut : Int) (a : Option Addr) (n cap : Nat) (a2 : Option Addr) (n2 cap2 : Nat) (w : World) (_ : -9223372036854775808 ≤ cut ∧ cut ≤ 9223372036854775807) (hl : SL w a n) (hl2 : SL w a2 n2) (hG : GE w) : Calls Tryz.prog 4 #[.int .i64 cut, .slice a n cap, .slice a2 n2 cap2] w fun e w' => e = .returned (.bool true) ∧ Below w.heap.size w w' := copies_calls cut a a2 n cap n2 cap2 w hl hl2 hG
end Go.Proofs.YtcbgeakabchenaaGreatDoor.D

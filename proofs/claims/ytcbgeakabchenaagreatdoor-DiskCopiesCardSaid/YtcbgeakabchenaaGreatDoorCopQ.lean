/- Two pairs of disks. -/
import Derived.Test.YtcbgeakabchenaaGreatDoorCopP
namespace Go.Proofs.YtcbgeakabchenaaGreatDoor.D
open Go.RowKit Go.Extern.Stop Go.Stop Go.Extern Go.Proofs.YtcbgeakabchenaaGreatDoorW.PrintWords Go.Proofs.YtcbgeakabchenaaGreatDoorW.PrintLast Go.Proofs.YtcbgeakabchenaaGreatDoorW.PrintMore
set_option linter.unusedVariables false
set_option linter.unusedSimpArgs false
/-- Both pairs at W. -/
structure PP (w wc W : World) (p b q g p' b' q' g' : Nat) (s t : St) : Prop where
  one : Half w.heap.size w W p b q g s s
  two : Half wc.heap.size wc W p' b' q' g' t t
theorem PP.b {w wc W W' : World} {p b q g p' b' q' g' : Nat} {s t : St} (h : PP w wc W p b q g p' b' q' g' s t) (hb : Below W.heap.size W W') : PP w wc W' p b q g p' b' q' g' s t := ⟨h.one.b hb, h.two.b hb⟩
theorem PP.drew {w wc W : World} {p b q g p' b' q' g' : Nat} {s t : St} (h : PP w wc W p b q g p' b' q' g' s t) (k : Nat) : PP w wc (W.drewN k) p b q g p' b' q' g' s t := ⟨h.one.drew k, h.two.drew k⟩
theorem qz {w wc W : World} {p b q g p' b' q' g' : Nat} {s t : St} (h : PP w wc W p b q g p' b' q' g' s t) : W.cell? ⟨q, 2, none⟩ = some (.int .i64 s.cnt) ∧ W.cell? ⟨q, 3, none⟩ = some (.bool s.dead) := ⟨h.one.r.cnt?, h.one.r.dead?⟩
end Go.Proofs.YtcbgeakabchenaaGreatDoor.D

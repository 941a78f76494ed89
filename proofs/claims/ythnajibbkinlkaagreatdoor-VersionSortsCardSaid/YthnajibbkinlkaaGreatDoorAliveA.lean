/- The walk of alive. -/
import Derived.Test.YthnajibbkinlkaaGreatDoorPVx0
import Derived.Test.YthnajibbkinlkaaGreatDoorDB
import Derived.Test.YthnajibbkinlkaaGreatDoorReadA
import Derived.Test.YthnajibbkinlkaaGreatDoorOrderA
namespace Go.Proofs.YthnajibbkinlkaaGreatDoor.PV
open Go.RowKit Go.Proofs.YthnajibbkinlkaaGreatDoorW.PrintWords Go.Proofs.YthnajibbkinlkaaGreatDoorW.PrintLast Go.Proofs.YthnajibbkinlkaaGreatDoorW.PrintMore
attribute [local go_sem] max2_int min2_int max_two min_two max_three min_three max_four min_four   -- for this text's walks alone
set_option linter.unusedVariables false
set_option linter.unusedSimpArgs false

def yanklinelaw07_alive.f : Option Bool := some true
abbrev S1 : ByteArray := ⟨#[49, 46, 50, 46, 51, 45, 114, 99, 46, 49]⟩
abbrev S2 : ByteArray := ⟨#[49, 46, 48, 46, 48, 45, 50]⟩
abbrev S3 : ByteArray := ⟨#[49, 46, 48, 46, 48, 45, 49, 48]⟩
abbrev S4 : ByteArray := ⟨#[49, 46, 48, 46, 48, 45, 48, 49]⟩
set_option maxRecDepth 100000 in
theorem alive_1 : version_Read.f S1 = some (1, 2, 3, [⟨#[114, 99]⟩, ⟨#[49]⟩], 0) := by kernel_rfl
set_option maxRecDepth 100000 in
theorem alive_2 : version_Order.f S2 S3 = some (-1, 0) := by kernel_rfl
set_option maxRecDepth 100000 in
theorem alive_3 : version_Read.f S4 = some (0, 0, 0, [], 70) := by kernel_rfl
set_option maxHeartbeats 8000000 in
set_option maxRecDepth 100000 in
theorem yanklinelaw07_alive.calls (r : Bool) (w : World) (hG : GW w) (h : yanklinelaw07_alive.f = some r) :
    Calls Tryz.prog 4 #[] w fun e w' => e = .returned (.bool r) ∧ DBelow w.heap.size w w' := by
  obtain rfl := Option.some.inj h
  clear h
  have HG := Aside0.mk hG
  clear hG
  go_enter Tryz.func4, Tryz.ntmps4
  go_wp2_with (fail)
  refine (read_calls S1 _ _ _ _ _ _ (by exact GW.dbelow HG.out (by repeat (first | exact DBelow.refl _ _ | exact HB3.out | exact HB2.out | exact HB1.out | (refine DBelow.alloc ?_ (by first | exact HB1.out.size | exact HB2.out.size | exact HB3.out.size | (simp; done)) _) | apply dpw_below_drewN))) alive_1).mono ?_
  rintro e w1 ⟨A, cA, rfl, hcA, hA, hb1⟩
  have HB1 := Aside0.mk hb1
  clear hA hb1
  go_wp2_with (fail)
  refine (version_Order.calls S2 S3 _ _ _ (by exact GW.dbelow HG.out (by repeat (first | exact DBelow.refl _ _ | exact HB3.out | exact HB2.out | exact HB1.out | (refine DBelow.alloc ?_ (by first | exact HB1.out.size | exact HB2.out.size | exact HB3.out.size | (simp; done)) _) | apply dpw_below_drewN))) alive_2).mono ?_
  rintro e w2 ⟨rfl, hb2⟩
  have HB2 := Aside0.mk (dbelow_step (w := w) (by repeat (first | exact DBelow.refl _ _ | exact HB3.out | exact HB2.out | exact HB1.out | (refine DBelow.alloc ?_ (by first | exact HB1.out.size | exact HB2.out.size | exact HB3.out.size | (simp; done)) _) | apply dpw_below_drewN)) hb2)
  obtain ⟨hc2, hf2⟩ := bcell hb2
  have hz2 : w1.heap.size < w2.heap.size := (by have := hb2.size; (try simp at this); omega)
  clear hb2
  go_wp2_with (fail)
  refine (read_calls S4 _ _ _ _ _ _ (by exact GW.dbelow HG.out (by repeat (first | exact DBelow.refl _ _ | exact HB3.out | exact HB2.out | exact HB1.out | (refine DBelow.alloc ?_ (by first | exact HB1.out.size | exact HB2.out.size | exact HB3.out.size | (simp; done)) _) | apply dpw_below_drewN))) alive_3).mono ?_
  rintro e w3 ⟨B, cB, rfl, hcB, hB, hb3⟩
  have HB3 := Aside0.mk (dbelow_step (w := w) (by repeat (first | exact DBelow.refl _ _ | exact HB3.out | exact HB2.out | exact HB1.out | (refine DBelow.alloc ?_ (by first | exact HB1.out.size | exact HB2.out.size | exact HB3.out.size | (simp; done)) _) | apply dpw_below_drewN)) hb3)
  obtain ⟨hc3, hf3⟩ := bcell hb3
  have hz3 : w1.heap.size < w3.heap.size := (by have := hb3.size; (try simp at this); omega)
  clear hB hb3
  go_wp2
  go_ret
  exact ⟨rfl, by repeat (first | exact DBelow.refl _ _ | exact HB3.out | exact HB2.out | exact HB1.out | (refine DBelow.alloc ?_ (by first | exact HB1.out.size | exact HB2.out.size | exact HB3.out.size | (simp; done)) _) | apply dpw_below_drewN)⟩

end Go.Proofs.YthnajibbkinlkaaGreatDoor.PV

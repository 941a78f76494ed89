/- The walk of the document's own Next. -/
import Derived.Test.YtoiibjipjlkaeaaDoorNextA
import Derived.Test.YtoiibjipjlkaeaaDoorRefA
import Derived.Deep.RegionWith
namespace Go.Proofs.YtoiibjipjlkaeaaDoor.PV
open Go.RowKit Go.Proofs.YtoiibjipjlkaeaaDoorW.PrintWords Go.Proofs.YtoiibjipjlkaeaaDoorW.PrintLast Go.Proofs.YtoiibjipjlkaeaaDoorW.PrintMore
attribute [local go_sem] max2_int min2_int max_two min_two max_three min_three max_four min_four   -- for this text's walks alone
set_option linter.unusedVariables false
set_option linter.unusedSimpArgs false

set_option maxHeartbeats 8000000 in
set_option maxRecDepth 100000 in
theorem rnext_may (a b c : Int) (A : Option Addr) (cA : Nat) (l : List ByteArray) (part : Int) (w : World) (hA : Kd.C Kd.string w A l.length l) (hcA : l.length ≤ cA) (hl : l.length ≤ 9223372036854775807) (hm : mayV a b c l = false) :
    Calls Tryd.prog 20 #[.agg #[.int .u32 a, .int .u32 b, .int .u32 c, .slice A l.length cA], .int .i64 part] w fun e w' => e = .returned (.tuple #[.agg #[.int .u32 0, .int .u32 0, .int .u32 0, .slice none 0 0], .int .i64 70]) ∧ Below w.heap.size w w' := by
  have HA := Aside0.mk hA
  clear hA
  go_enter Tryd.func20, Tryd.ntmps20
  go_wp2_with (fail)
  refine (rmay_calls _ _ _ A cA l _ (Kd.C_alloc (Kd.C_alloc HA.out _) _) hcA hl).mono ?_
  rintro e w1 ⟨rfl, hb1⟩
  have hza1 : w.heap.size < w1.heap.size := by have := hb1.size; (try simp at this); omega
  have hzb1 : w.heap.size + 1 < w1.heap.size := by have := hb1.size; (try simp at this); omega
  have HB1 := Aside0.mk (below_step (w := w) (by repeat (first | exact Below.refl _ _ | exact HB9.out | exact HB8.out | exact HB7.out | exact HB6.out | exact HB5.out | exact HB4.out | exact HB3.out | exact HB2.out | exact HB1.out | exact HB.out | (refine Below.alloc ?_ (by first | exact HB9.out.size | exact HB8.out.size | exact HB7.out.size | exact HB6.out.size | exact HB5.out.size | exact HB4.out.size | exact HB3.out.size | exact HB2.out.size | exact HB1.out.size | exact HB.out.size | (simp; done) | (simp <;> omega)) _) | apply pw_below_drewN | apply below_drew1 | (refine Below.setCell ?_ (by first | (simp; done) | (simp <;> omega) | omega) _))) hb1); obtain ⟨hc1, hf1⟩ := bcell hb1; have hz1 := hb1.size; (try simp at hz1); clear hb1
  go_wp2
  have c0 : ((((w1.setCell ⟨w.heap.size + 1, 0, none⟩ (.int .u32 0)).setCell ⟨w.heap.size + 1, 1, none⟩ (.int .u32 0)).setCell ⟨w.heap.size + 1, 2, none⟩ (.int .u32 0)).setCell ⟨w.heap.size + 1, 3, none⟩ (.slice none 0 0)).cell? ⟨w.heap.size + 1, 0, none⟩ = some (.int .u32 0) := by go_simp
  have c1 : ((((w1.setCell ⟨w.heap.size + 1, 0, none⟩ (.int .u32 0)).setCell ⟨w.heap.size + 1, 1, none⟩ (.int .u32 0)).setCell ⟨w.heap.size + 1, 2, none⟩ (.int .u32 0)).setCell ⟨w.heap.size + 1, 3, none⟩ (.slice none 0 0)).cell? ⟨w.heap.size + 1, 1, none⟩ = some (.int .u32 0) := by go_simp
  have c2 : ((((w1.setCell ⟨w.heap.size + 1, 0, none⟩ (.int .u32 0)).setCell ⟨w.heap.size + 1, 1, none⟩ (.int .u32 0)).setCell ⟨w.heap.size + 1, 2, none⟩ (.int .u32 0)).setCell ⟨w.heap.size + 1, 3, none⟩ (.slice none 0 0)).cell? ⟨w.heap.size + 1, 2, none⟩ = some (.int .u32 0) := by go_simp
  have c3 : ((((w1.setCell ⟨w.heap.size + 1, 0, none⟩ (.int .u32 0)).setCell ⟨w.heap.size + 1, 1, none⟩ (.int .u32 0)).setCell ⟨w.heap.size + 1, 2, none⟩ (.int .u32 0)).setCell ⟨w.heap.size + 1, 3, none⟩ (.slice none 0 0)).cell? ⟨w.heap.size + 1, 3, none⟩ = some (.slice none 0 0) := by go_simp
  refine bodyPost_ret (retC Tryd.results20 _ ((((w1.setCell ⟨w.heap.size + 1, 0, none⟩ (.int .u32 0)).setCell ⟨w.heap.size + 1, 1, none⟩ (.int .u32 0)).setCell ⟨w.heap.size + 1, 2, none⟩ (.int .u32 0)).setCell ⟨w.heap.size + 1, 3, none⟩ (.slice none 0 0)) (w.heap.size + 1) _ _ _ _ _ rfl rfl c0 c1 c2 c3) rfl ⟨rfl, ?_⟩
  refine Below.setCell (Below.setCell (Below.setCell (Below.setCell HB1.out ?_ _) ?_ _) ?_ _) ?_ _ <;> simp

set_option maxHeartbeats 8000000 in
set_option maxRecDepth 100000 in
theorem rnext_neg (a b c : Int) (A : Option Addr) (cA : Nat) (l : List ByteArray) (part : Int) (w : World) (hA : Kd.C Kd.string w A l.length l) (hcA : l.length ≤ cA) (hl : l.length ≤ 9223372036854775807) (hm : mayV a b c l = true) (hp : part < 0) :
    Calls Tryd.prog 20 #[.agg #[.int .u32 a, .int .u32 b, .int .u32 c, .slice A l.length cA], .int .i64 part] w fun e w' => e = .returned (.tuple #[.agg #[.int .u32 0, .int .u32 0, .int .u32 0, .slice none 0 0], .int .i64 2]) ∧ Below w.heap.size w w' := by
  have HA := Aside0.mk hA
  clear hA
  go_enter Tryd.func20, Tryd.ntmps20
  go_wp2_with (fail)
  refine (rmay_calls _ _ _ A cA l _ (Kd.C_alloc (Kd.C_alloc HA.out _) _) hcA hl).mono ?_
  rintro e w1 ⟨rfl, hb1⟩
  have hza1 : w.heap.size < w1.heap.size := by have := hb1.size; (try simp at this); omega
  have hzb1 : w.heap.size + 1 < w1.heap.size := by have := hb1.size; (try simp at this); omega
  have HB1 := Aside0.mk (below_step (w := w) (by repeat (first | exact Below.refl _ _ | exact HB9.out | exact HB8.out | exact HB7.out | exact HB6.out | exact HB5.out | exact HB4.out | exact HB3.out | exact HB2.out | exact HB1.out | exact HB.out | (refine Below.alloc ?_ (by first | exact HB9.out.size | exact HB8.out.size | exact HB7.out.size | exact HB6.out.size | exact HB5.out.size | exact HB4.out.size | exact HB3.out.size | exact HB2.out.size | exact HB1.out.size | exact HB.out.size | (simp; done) | (simp <;> omega)) _) | apply pw_below_drewN | apply below_drew1 | (refine Below.setCell ?_ (by first | (simp; done) | (simp <;> omega) | omega) _))) hb1); obtain ⟨hc1, hf1⟩ := bcell hb1; have hz1 := hb1.size; (try simp at hz1); clear hb1
  go_wp2
  have c0 : (((((w1.setCell ⟨w.heap.size + 1, 0, none⟩ (.int .u32 0)).setCell ⟨w.heap.size + 1, 1, none⟩ (.int .u32 0)).setCell ⟨w.heap.size + 1, 2, none⟩ (.int .u32 0)).setCell ⟨w.heap.size + 1, 3, none⟩ (.slice none 0 0)).alloc (.cells #[.int .u32 a, .int .u32 b, .int .u32 c] 29)).cell? ⟨w.heap.size + 1, 0, none⟩ = some (.int .u32 0) := by go_simp
  have c1 : (((((w1.setCell ⟨w.heap.size + 1, 0, none⟩ (.int .u32 0)).setCell ⟨w.heap.size + 1, 1, none⟩ (.int .u32 0)).setCell ⟨w.heap.size + 1, 2, none⟩ (.int .u32 0)).setCell ⟨w.heap.size + 1, 3, none⟩ (.slice none 0 0)).alloc (.cells #[.int .u32 a, .int .u32 b, .int .u32 c] 29)).cell? ⟨w.heap.size + 1, 1, none⟩ = some (.int .u32 0) := by go_simp
  have c2 : (((((w1.setCell ⟨w.heap.size + 1, 0, none⟩ (.int .u32 0)).setCell ⟨w.heap.size + 1, 1, none⟩ (.int .u32 0)).setCell ⟨w.heap.size + 1, 2, none⟩ (.int .u32 0)).setCell ⟨w.heap.size + 1, 3, none⟩ (.slice none 0 0)).alloc (.cells #[.int .u32 a, .int .u32 b, .int .u32 c] 29)).cell? ⟨w.heap.size + 1, 2, none⟩ = some (.int .u32 0) := by go_simp
  have c3 : (((((w1.setCell ⟨w.heap.size + 1, 0, none⟩ (.int .u32 0)).setCell ⟨w.heap.size + 1, 1, none⟩ (.int .u32 0)).setCell ⟨w.heap.size + 1, 2, none⟩ (.int .u32 0)).setCell ⟨w.heap.size + 1, 3, none⟩ (.slice none 0 0)).alloc (.cells #[.int .u32 a, .int .u32 b, .int .u32 c] 29)).cell? ⟨w.heap.size + 1, 3, none⟩ = some (.slice none 0 0) := by go_simp
  refine bodyPost_ret (retC Tryd.results20 _ (((((w1.setCell ⟨w.heap.size + 1, 0, none⟩ (.int .u32 0)).setCell ⟨w.heap.size + 1, 1, none⟩ (.int .u32 0)).setCell ⟨w.heap.size + 1, 2, none⟩ (.int .u32 0)).setCell ⟨w.heap.size + 1, 3, none⟩ (.slice none 0 0)).alloc (.cells #[.int .u32 a, .int .u32 b, .int .u32 c] 29)) (w.heap.size + 1) _ _ _ _ _ rfl rfl c0 c1 c2 c3) rfl ⟨rfl, ?_⟩
  refine Below.alloc (Below.setCell (Below.setCell (Below.setCell (Below.setCell HB1.out ?_ _) ?_ _) ?_ _) ?_ _) ?_ _
  · simp
  · simp
  · simp
  · simp
  · have := HB1.out.size; simp; omega

set_option maxHeartbeats 8000000 in
set_option maxRecDepth 100000 in
theorem rnext_big (a b c : Int) (A : Option Addr) (cA : Nat) (l : List ByteArray) (part : Int) (w : World) (hA : Kd.C Kd.string w A l.length l) (hcA : l.length ≤ cA) (hl : l.length ≤ 9223372036854775807) (hm : mayV a b c l = true) (hp : 2 < part) :
    Calls Tryd.prog 20 #[.agg #[.int .u32 a, .int .u32 b, .int .u32 c, .slice A l.length cA], .int .i64 part] w fun e w' => e = .returned (.tuple #[.agg #[.int .u32 0, .int .u32 0, .int .u32 0, .slice none 0 0], .int .i64 2]) ∧ Below w.heap.size w w' := by
  have HA := Aside0.mk hA
  clear hA
  have hp0 : ¬ part < 0 := by omega
  go_enter Tryd.func20, Tryd.ntmps20
  go_wp2_with (fail)
  refine (rmay_calls _ _ _ A cA l _ (Kd.C_alloc (Kd.C_alloc HA.out _) _) hcA hl).mono ?_
  rintro e w1 ⟨rfl, hb1⟩
  have hza1 : w.heap.size < w1.heap.size := by have := hb1.size; (try simp at this); omega
  have hzb1 : w.heap.size + 1 < w1.heap.size := by have := hb1.size; (try simp at this); omega
  have HB1 := Aside0.mk (below_step (w := w) (by repeat (first | exact Below.refl _ _ | exact HB9.out | exact HB8.out | exact HB7.out | exact HB6.out | exact HB5.out | exact HB4.out | exact HB3.out | exact HB2.out | exact HB1.out | exact HB.out | (refine Below.alloc ?_ (by first | exact HB9.out.size | exact HB8.out.size | exact HB7.out.size | exact HB6.out.size | exact HB5.out.size | exact HB4.out.size | exact HB3.out.size | exact HB2.out.size | exact HB1.out.size | exact HB.out.size | (simp; done) | (simp <;> omega)) _) | apply pw_below_drewN | apply below_drew1 | (refine Below.setCell ?_ (by first | (simp; done) | (simp <;> omega) | omega) _))) hb1); obtain ⟨hc1, hf1⟩ := bcell hb1; have hz1 := hb1.size; (try simp at hz1); clear hb1
  go_wp2
  have c0 : (((((w1.setCell ⟨w.heap.size + 1, 0, none⟩ (.int .u32 0)).setCell ⟨w.heap.size + 1, 1, none⟩ (.int .u32 0)).setCell ⟨w.heap.size + 1, 2, none⟩ (.int .u32 0)).setCell ⟨w.heap.size + 1, 3, none⟩ (.slice none 0 0)).alloc (.cells #[.int .u32 a, .int .u32 b, .int .u32 c] 29)).cell? ⟨w.heap.size + 1, 0, none⟩ = some (.int .u32 0) := by go_simp
  have c1 : (((((w1.setCell ⟨w.heap.size + 1, 0, none⟩ (.int .u32 0)).setCell ⟨w.heap.size + 1, 1, none⟩ (.int .u32 0)).setCell ⟨w.heap.size + 1, 2, none⟩ (.int .u32 0)).setCell ⟨w.heap.size + 1, 3, none⟩ (.slice none 0 0)).alloc (.cells #[.int .u32 a, .int .u32 b, .int .u32 c] 29)).cell? ⟨w.heap.size + 1, 1, none⟩ = some (.int .u32 0) := by go_simp
  have c2 : (((((w1.setCell ⟨w.heap.size + 1, 0, none⟩ (.int .u32 0)).setCell ⟨w.heap.size + 1, 1, none⟩ (.int .u32 0)).setCell ⟨w.heap.size + 1, 2, none⟩ (.int .u32 0)).setCell ⟨w.heap.size + 1, 3, none⟩ (.slice none 0 0)).alloc (.cells #[.int .u32 a, .int .u32 b, .int .u32 c] 29)).cell? ⟨w.heap.size + 1, 2, none⟩ = some (.int .u32 0) := by go_simp
  have c3 : (((((w1.setCell ⟨w.heap.size + 1, 0, none⟩ (.int .u32 0)).setCell ⟨w.heap.size + 1, 1, none⟩ (.int .u32 0)).setCell ⟨w.heap.size + 1, 2, none⟩ (.int .u32 0)).setCell ⟨w.heap.size + 1, 3, none⟩ (.slice none 0 0)).alloc (.cells #[.int .u32 a, .int .u32 b, .int .u32 c] 29)).cell? ⟨w.heap.size + 1, 3, none⟩ = some (.slice none 0 0) := by go_simp
  refine bodyPost_ret (retC Tryd.results20 _ (((((w1.setCell ⟨w.heap.size + 1, 0, none⟩ (.int .u32 0)).setCell ⟨w.heap.size + 1, 1, none⟩ (.int .u32 0)).setCell ⟨w.heap.size + 1, 2, none⟩ (.int .u32 0)).setCell ⟨w.heap.size + 1, 3, none⟩ (.slice none 0 0)).alloc (.cells #[.int .u32 a, .int .u32 b, .int .u32 c] 29)) (w.heap.size + 1) _ _ _ _ _ rfl rfl c0 c1 c2 c3) rfl ⟨rfl, ?_⟩
  refine Below.alloc (Below.setCell (Below.setCell (Below.setCell (Below.setCell HB1.out ?_ _) ?_ _) ?_ _) ?_ _) ?_ _
  · simp
  · simp
  · simp
  · simp
  · have := HB1.out.size; simp; omega

set_option maxHeartbeats 8000000 in
set_option maxRecDepth 100000 in
theorem rnext_max0 (a b c : Int) (A : Option Addr) (cA : Nat) (l : List ByteArray) (part : Int) (w : World) (hA : Kd.C Kd.string w A l.length l) (hcA : l.length ≤ cA) (hl : l.length ≤ 9223372036854775807) (hm : mayV a b c l = true) (hp : a = 2147483647) :
    Calls Tryd.prog 20 #[.agg #[.int .u32 a, .int .u32 b, .int .u32 c, .slice A l.length cA], .int .i64 0] w fun e w' => e = .returned (.tuple #[.agg #[.int .u32 0, .int .u32 0, .int .u32 0, .slice none 0 0], .int .i64 2]) ∧ Below w.heap.size w w' := by
  have HA := Aside0.mk hA
  clear hA
  subst hp
  go_enter Tryd.func20, Tryd.ntmps20
  go_wp2_with (fail)
  refine (rmay_calls _ _ _ A cA l _ (Kd.C_alloc (Kd.C_alloc HA.out _) _) hcA hl).mono ?_
  rintro e w1 ⟨rfl, hb1⟩
  have hza1 : w.heap.size < w1.heap.size := by have := hb1.size; (try simp at this); omega
  have hzb1 : w.heap.size + 1 < w1.heap.size := by have := hb1.size; (try simp at this); omega
  have HB1 := Aside0.mk (below_step (w := w) (by repeat (first | exact Below.refl _ _ | exact HB9.out | exact HB8.out | exact HB7.out | exact HB6.out | exact HB5.out | exact HB4.out | exact HB3.out | exact HB2.out | exact HB1.out | exact HB.out | (refine Below.alloc ?_ (by first | exact HB9.out.size | exact HB8.out.size | exact HB7.out.size | exact HB6.out.size | exact HB5.out.size | exact HB4.out.size | exact HB3.out.size | exact HB2.out.size | exact HB1.out.size | exact HB.out.size | (simp; done) | (simp <;> omega)) _) | apply pw_below_drewN | apply below_drew1 | (refine Below.setCell ?_ (by first | (simp; done) | (simp <;> omega) | omega) _))) hb1); obtain ⟨hc1, hf1⟩ := bcell hb1; have hz1 := hb1.size; (try simp at hz1); clear hb1
  go_wp2
  have c0 : (((((w1.setCell ⟨w.heap.size + 1, 0, none⟩ (.int .u32 0)).setCell ⟨w.heap.size + 1, 1, none⟩ (.int .u32 0)).setCell ⟨w.heap.size + 1, 2, none⟩ (.int .u32 0)).setCell ⟨w.heap.size + 1, 3, none⟩ (.slice none 0 0)).alloc (.cells #[.int .u32 2147483647, .int .u32 b, .int .u32 c] 29)).cell? ⟨w.heap.size + 1, 0, none⟩ = some (.int .u32 0) := by go_simp
  have c1 : (((((w1.setCell ⟨w.heap.size + 1, 0, none⟩ (.int .u32 0)).setCell ⟨w.heap.size + 1, 1, none⟩ (.int .u32 0)).setCell ⟨w.heap.size + 1, 2, none⟩ (.int .u32 0)).setCell ⟨w.heap.size + 1, 3, none⟩ (.slice none 0 0)).alloc (.cells #[.int .u32 2147483647, .int .u32 b, .int .u32 c] 29)).cell? ⟨w.heap.size + 1, 1, none⟩ = some (.int .u32 0) := by go_simp
  have c2 : (((((w1.setCell ⟨w.heap.size + 1, 0, none⟩ (.int .u32 0)).setCell ⟨w.heap.size + 1, 1, none⟩ (.int .u32 0)).setCell ⟨w.heap.size + 1, 2, none⟩ (.int .u32 0)).setCell ⟨w.heap.size + 1, 3, none⟩ (.slice none 0 0)).alloc (.cells #[.int .u32 2147483647, .int .u32 b, .int .u32 c] 29)).cell? ⟨w.heap.size + 1, 2, none⟩ = some (.int .u32 0) := by go_simp
  have c3 : (((((w1.setCell ⟨w.heap.size + 1, 0, none⟩ (.int .u32 0)).setCell ⟨w.heap.size + 1, 1, none⟩ (.int .u32 0)).setCell ⟨w.heap.size + 1, 2, none⟩ (.int .u32 0)).setCell ⟨w.heap.size + 1, 3, none⟩ (.slice none 0 0)).alloc (.cells #[.int .u32 2147483647, .int .u32 b, .int .u32 c] 29)).cell? ⟨w.heap.size + 1, 3, none⟩ = some (.slice none 0 0) := by go_simp
  refine bodyPost_ret (retC Tryd.results20 _ (((((w1.setCell ⟨w.heap.size + 1, 0, none⟩ (.int .u32 0)).setCell ⟨w.heap.size + 1, 1, none⟩ (.int .u32 0)).setCell ⟨w.heap.size + 1, 2, none⟩ (.int .u32 0)).setCell ⟨w.heap.size + 1, 3, none⟩ (.slice none 0 0)).alloc (.cells #[.int .u32 2147483647, .int .u32 b, .int .u32 c] 29)) (w.heap.size + 1) _ _ _ _ _ rfl rfl c0 c1 c2 c3) rfl ⟨rfl, ?_⟩
  refine Below.alloc (Below.setCell (Below.setCell (Below.setCell (Below.setCell HB1.out ?_ _) ?_ _) ?_ _) ?_ _) ?_ _
  · simp
  · simp
  · simp
  · simp
  · have := HB1.out.size; simp; omega

set_option maxHeartbeats 8000000 in
set_option maxRecDepth 100000 in
theorem rnext_max1 (a b c : Int) (A : Option Addr) (cA : Nat) (l : List ByteArray) (part : Int) (w : World) (hA : Kd.C Kd.string w A l.length l) (hcA : l.length ≤ cA) (hl : l.length ≤ 9223372036854775807) (hm : mayV a b c l = true) (hp : b = 2147483647) :
    Calls Tryd.prog 20 #[.agg #[.int .u32 a, .int .u32 b, .int .u32 c, .slice A l.length cA], .int .i64 1] w fun e w' => e = .returned (.tuple #[.agg #[.int .u32 0, .int .u32 0, .int .u32 0, .slice none 0 0], .int .i64 2]) ∧ Below w.heap.size w w' := by
  have HA := Aside0.mk hA
  clear hA
  subst hp
  go_enter Tryd.func20, Tryd.ntmps20
  go_wp2_with (fail)
  refine (rmay_calls _ _ _ A cA l _ (Kd.C_alloc (Kd.C_alloc HA.out _) _) hcA hl).mono ?_
  rintro e w1 ⟨rfl, hb1⟩
  have hza1 : w.heap.size < w1.heap.size := by have := hb1.size; (try simp at this); omega
  have hzb1 : w.heap.size + 1 < w1.heap.size := by have := hb1.size; (try simp at this); omega
  have HB1 := Aside0.mk (below_step (w := w) (by repeat (first | exact Below.refl _ _ | exact HB9.out | exact HB8.out | exact HB7.out | exact HB6.out | exact HB5.out | exact HB4.out | exact HB3.out | exact HB2.out | exact HB1.out | exact HB.out | (refine Below.alloc ?_ (by first | exact HB9.out.size | exact HB8.out.size | exact HB7.out.size | exact HB6.out.size | exact HB5.out.size | exact HB4.out.size | exact HB3.out.size | exact HB2.out.size | exact HB1.out.size | exact HB.out.size | (simp; done) | (simp <;> omega)) _) | apply pw_below_drewN | apply below_drew1 | (refine Below.setCell ?_ (by first | (simp; done) | (simp <;> omega) | omega) _))) hb1); obtain ⟨hc1, hf1⟩ := bcell hb1; have hz1 := hb1.size; (try simp at hz1); clear hb1
  go_wp2
  have c0 : (((((w1.setCell ⟨w.heap.size + 1, 0, none⟩ (.int .u32 0)).setCell ⟨w.heap.size + 1, 1, none⟩ (.int .u32 0)).setCell ⟨w.heap.size + 1, 2, none⟩ (.int .u32 0)).setCell ⟨w.heap.size + 1, 3, none⟩ (.slice none 0 0)).alloc (.cells #[.int .u32 a, .int .u32 2147483647, .int .u32 c] 29)).cell? ⟨w.heap.size + 1, 0, none⟩ = some (.int .u32 0) := by go_simp
  have c1 : (((((w1.setCell ⟨w.heap.size + 1, 0, none⟩ (.int .u32 0)).setCell ⟨w.heap.size + 1, 1, none⟩ (.int .u32 0)).setCell ⟨w.heap.size + 1, 2, none⟩ (.int .u32 0)).setCell ⟨w.heap.size + 1, 3, none⟩ (.slice none 0 0)).alloc (.cells #[.int .u32 a, .int .u32 2147483647, .int .u32 c] 29)).cell? ⟨w.heap.size + 1, 1, none⟩ = some (.int .u32 0) := by go_simp
  have c2 : (((((w1.setCell ⟨w.heap.size + 1, 0, none⟩ (.int .u32 0)).setCell ⟨w.heap.size + 1, 1, none⟩ (.int .u32 0)).setCell ⟨w.heap.size + 1, 2, none⟩ (.int .u32 0)).setCell ⟨w.heap.size + 1, 3, none⟩ (.slice none 0 0)).alloc (.cells #[.int .u32 a, .int .u32 2147483647, .int .u32 c] 29)).cell? ⟨w.heap.size + 1, 2, none⟩ = some (.int .u32 0) := by go_simp
  have c3 : (((((w1.setCell ⟨w.heap.size + 1, 0, none⟩ (.int .u32 0)).setCell ⟨w.heap.size + 1, 1, none⟩ (.int .u32 0)).setCell ⟨w.heap.size + 1, 2, none⟩ (.int .u32 0)).setCell ⟨w.heap.size + 1, 3, none⟩ (.slice none 0 0)).alloc (.cells #[.int .u32 a, .int .u32 2147483647, .int .u32 c] 29)).cell? ⟨w.heap.size + 1, 3, none⟩ = some (.slice none 0 0) := by go_simp
  refine bodyPost_ret (retC Tryd.results20 _ (((((w1.setCell ⟨w.heap.size + 1, 0, none⟩ (.int .u32 0)).setCell ⟨w.heap.size + 1, 1, none⟩ (.int .u32 0)).setCell ⟨w.heap.size + 1, 2, none⟩ (.int .u32 0)).setCell ⟨w.heap.size + 1, 3, none⟩ (.slice none 0 0)).alloc (.cells #[.int .u32 a, .int .u32 2147483647, .int .u32 c] 29)) (w.heap.size + 1) _ _ _ _ _ rfl rfl c0 c1 c2 c3) rfl ⟨rfl, ?_⟩
  refine Below.alloc (Below.setCell (Below.setCell (Below.setCell (Below.setCell HB1.out ?_ _) ?_ _) ?_ _) ?_ _) ?_ _
  · simp
  · simp
  · simp
  · simp
  · have := HB1.out.size; simp; omega

set_option maxHeartbeats 8000000 in
set_option maxRecDepth 100000 in
theorem rnext_max2 (a b c : Int) (A : Option Addr) (cA : Nat) (l : List ByteArray) (part : Int) (w : World) (hA : Kd.C Kd.string w A l.length l) (hcA : l.length ≤ cA) (hl : l.length ≤ 9223372036854775807) (hm : mayV a b c l = true) (hp : c = 2147483647) :
    Calls Tryd.prog 20 #[.agg #[.int .u32 a, .int .u32 b, .int .u32 c, .slice A l.length cA], .int .i64 2] w fun e w' => e = .returned (.tuple #[.agg #[.int .u32 0, .int .u32 0, .int .u32 0, .slice none 0 0], .int .i64 2]) ∧ Below w.heap.size w w' := by
  have HA := Aside0.mk hA
  clear hA
  subst hp
  go_enter Tryd.func20, Tryd.ntmps20
  go_wp2_with (fail)
  refine (rmay_calls _ _ _ A cA l _ (Kd.C_alloc (Kd.C_alloc HA.out _) _) hcA hl).mono ?_
  rintro e w1 ⟨rfl, hb1⟩
  have hza1 : w.heap.size < w1.heap.size := by have := hb1.size; (try simp at this); omega
  have hzb1 : w.heap.size + 1 < w1.heap.size := by have := hb1.size; (try simp at this); omega
  have HB1 := Aside0.mk (below_step (w := w) (by repeat (first | exact Below.refl _ _ | exact HB9.out | exact HB8.out | exact HB7.out | exact HB6.out | exact HB5.out | exact HB4.out | exact HB3.out | exact HB2.out | exact HB1.out | exact HB.out | (refine Below.alloc ?_ (by first | exact HB9.out.size | exact HB8.out.size | exact HB7.out.size | exact HB6.out.size | exact HB5.out.size | exact HB4.out.size | exact HB3.out.size | exact HB2.out.size | exact HB1.out.size | exact HB.out.size | (simp; done) | (simp <;> omega)) _) | apply pw_below_drewN | apply below_drew1 | (refine Below.setCell ?_ (by first | (simp; done) | (simp <;> omega) | omega) _))) hb1); obtain ⟨hc1, hf1⟩ := bcell hb1; have hz1 := hb1.size; (try simp at hz1); clear hb1
  go_wp2
  have c0 : (((((w1.setCell ⟨w.heap.size + 1, 0, none⟩ (.int .u32 0)).setCell ⟨w.heap.size + 1, 1, none⟩ (.int .u32 0)).setCell ⟨w.heap.size + 1, 2, none⟩ (.int .u32 0)).setCell ⟨w.heap.size + 1, 3, none⟩ (.slice none 0 0)).alloc (.cells #[.int .u32 a, .int .u32 b, .int .u32 2147483647] 29)).cell? ⟨w.heap.size + 1, 0, none⟩ = some (.int .u32 0) := by go_simp
  have c1 : (((((w1.setCell ⟨w.heap.size + 1, 0, none⟩ (.int .u32 0)).setCell ⟨w.heap.size + 1, 1, none⟩ (.int .u32 0)).setCell ⟨w.heap.size + 1, 2, none⟩ (.int .u32 0)).setCell ⟨w.heap.size + 1, 3, none⟩ (.slice none 0 0)).alloc (.cells #[.int .u32 a, .int .u32 b, .int .u32 2147483647] 29)).cell? ⟨w.heap.size + 1, 1, none⟩ = some (.int .u32 0) := by go_simp
  have c2 : (((((w1.setCell ⟨w.heap.size + 1, 0, none⟩ (.int .u32 0)).setCell ⟨w.heap.size + 1, 1, none⟩ (.int .u32 0)).setCell ⟨w.heap.size + 1, 2, none⟩ (.int .u32 0)).setCell ⟨w.heap.size + 1, 3, none⟩ (.slice none 0 0)).alloc (.cells #[.int .u32 a, .int .u32 b, .int .u32 2147483647] 29)).cell? ⟨w.heap.size + 1, 2, none⟩ = some (.int .u32 0) := by go_simp
  have c3 : (((((w1.setCell ⟨w.heap.size + 1, 0, none⟩ (.int .u32 0)).setCell ⟨w.heap.size + 1, 1, none⟩ (.int .u32 0)).setCell ⟨w.heap.size + 1, 2, none⟩ (.int .u32 0)).setCell ⟨w.heap.size + 1, 3, none⟩ (.slice none 0 0)).alloc (.cells #[.int .u32 a, .int .u32 b, .int .u32 2147483647] 29)).cell? ⟨w.heap.size + 1, 3, none⟩ = some (.slice none 0 0) := by go_simp
  refine bodyPost_ret (retC Tryd.results20 _ (((((w1.setCell ⟨w.heap.size + 1, 0, none⟩ (.int .u32 0)).setCell ⟨w.heap.size + 1, 1, none⟩ (.int .u32 0)).setCell ⟨w.heap.size + 1, 2, none⟩ (.int .u32 0)).setCell ⟨w.heap.size + 1, 3, none⟩ (.slice none 0 0)).alloc (.cells #[.int .u32 a, .int .u32 b, .int .u32 2147483647] 29)) (w.heap.size + 1) _ _ _ _ _ rfl rfl c0 c1 c2 c3) rfl ⟨rfl, ?_⟩
  refine Below.alloc (Below.setCell (Below.setCell (Below.setCell (Below.setCell HB1.out ?_ _) ?_ _) ?_ _) ?_ _) ?_ _
  · simp
  · simp
  · simp
  · simp
  · have := HB1.out.size; simp; omega

set_option maxHeartbeats 8000000 in
set_option maxRecDepth 100000 in
theorem rnext_p0 (a b c : Int) (A : Option Addr) (cA : Nat) (l : List ByteArray) (part : Int) (w : World) (hA : Kd.C Kd.string w A l.length l) (hcA : l.length ≤ cA) (hl : l.length ≤ 9223372036854775807) (hm : mayV a b c l = true) (h0 : 0 ≤ a) (hne : a ≠ 2147483647) (hle : a ≤ 2147483647) :
    Calls Tryd.prog 20 #[.agg #[.int .u32 a, .int .u32 b, .int .u32 c, .slice A l.length cA], .int .i64 0] w fun e w' => e = .returned (.tuple #[.agg #[.int .u32 (a + 1), .int .u32 0, .int .u32 0, .slice none 0 0], .int .i64 0]) ∧ Below w.heap.size w w' := by
  have HA := Aside0.mk hA
  clear hA
  have hwr : IntKind.u32.wrap (a + 1) = a + 1 := by rw [IntKind.wrap_u32]; omega
  have hwr2 : (a + 1) % 4294967296 = a + 1 := by omega
  have hne2 : (a == 2147483647) = false := beq_eq_false_iff_ne.2 hne
  go_enter Tryd.func20, Tryd.ntmps20
  go_wp2_with (fail)
  refine (rmay_calls _ _ _ A cA l _ (Kd.C_alloc (Kd.C_alloc HA.out _) _) hcA hl).mono ?_
  rintro e w1 ⟨rfl, hb1⟩
  have hza1 : w.heap.size < w1.heap.size := by have := hb1.size; (try simp at this); omega
  have hzb1 : w.heap.size + 1 < w1.heap.size := by have := hb1.size; (try simp at this); omega
  have HB1 := Aside0.mk (below_step (w := w) (by repeat (first | exact Below.refl _ _ | exact HB9.out | exact HB8.out | exact HB7.out | exact HB6.out | exact HB5.out | exact HB4.out | exact HB3.out | exact HB2.out | exact HB1.out | exact HB.out | (refine Below.alloc ?_ (by first | exact HB9.out.size | exact HB8.out.size | exact HB7.out.size | exact HB6.out.size | exact HB5.out.size | exact HB4.out.size | exact HB3.out.size | exact HB2.out.size | exact HB1.out.size | exact HB.out.size | (simp; done) | (simp <;> omega)) _) | apply pw_below_drewN | apply below_drew1 | (refine Below.setCell ?_ (by first | (simp; done) | (simp <;> omega) | omega) _))) hb1); obtain ⟨hc1, hf1⟩ := bcell hb1; have hz1 := hb1.size; (try simp at hz1); clear hb1
  go_wp2
  refine wp_loop_rounds 4 ?_
  rw [rounds_succ]
  go_wp2
  rw [rounds_succ]
  go_wp2
  rw [rounds_succ]
  go_wp2
  go_region
  go_wp2
  have c0 : ((((((w1.setCell ⟨w.heap.size + 1, 0, none⟩ (.int .u32 (a + 1))).setCell ⟨w.heap.size + 1, 1, none⟩ (.int .u32 0)).setCell ⟨w.heap.size + 1, 2, none⟩ (.int .u32 0)).setCell ⟨w.heap.size + 1, 3, none⟩ (.slice none 0 0)).alloc (.cells #[.int .u32 (a + 1), .int .u32 0, .int .u32 0] 29)).drew).cell? ⟨w.heap.size + 1, 0, none⟩ = some (.int .u32 (a + 1)) := by go_simp
  have c1 : ((((((w1.setCell ⟨w.heap.size + 1, 0, none⟩ (.int .u32 (a + 1))).setCell ⟨w.heap.size + 1, 1, none⟩ (.int .u32 0)).setCell ⟨w.heap.size + 1, 2, none⟩ (.int .u32 0)).setCell ⟨w.heap.size + 1, 3, none⟩ (.slice none 0 0)).alloc (.cells #[.int .u32 (a + 1), .int .u32 0, .int .u32 0] 29)).drew).cell? ⟨w.heap.size + 1, 1, none⟩ = some (.int .u32 0) := by go_simp
  have c2 : ((((((w1.setCell ⟨w.heap.size + 1, 0, none⟩ (.int .u32 (a + 1))).setCell ⟨w.heap.size + 1, 1, none⟩ (.int .u32 0)).setCell ⟨w.heap.size + 1, 2, none⟩ (.int .u32 0)).setCell ⟨w.heap.size + 1, 3, none⟩ (.slice none 0 0)).alloc (.cells #[.int .u32 (a + 1), .int .u32 0, .int .u32 0] 29)).drew).cell? ⟨w.heap.size + 1, 2, none⟩ = some (.int .u32 0) := by go_simp
  have c3 : ((((((w1.setCell ⟨w.heap.size + 1, 0, none⟩ (.int .u32 (a + 1))).setCell ⟨w.heap.size + 1, 1, none⟩ (.int .u32 0)).setCell ⟨w.heap.size + 1, 2, none⟩ (.int .u32 0)).setCell ⟨w.heap.size + 1, 3, none⟩ (.slice none 0 0)).alloc (.cells #[.int .u32 (a + 1), .int .u32 0, .int .u32 0] 29)).drew).cell? ⟨w.heap.size + 1, 3, none⟩ = some (.slice none 0 0) := by go_simp
  refine bodyPost_ret (retC Tryd.results20 _ ((((((w1.setCell ⟨w.heap.size + 1, 0, none⟩ (.int .u32 (a + 1))).setCell ⟨w.heap.size + 1, 1, none⟩ (.int .u32 0)).setCell ⟨w.heap.size + 1, 2, none⟩ (.int .u32 0)).setCell ⟨w.heap.size + 1, 3, none⟩ (.slice none 0 0)).alloc (.cells #[.int .u32 (a + 1), .int .u32 0, .int .u32 0] 29)).drew) (w.heap.size + 1) _ _ _ _ _ rfl rfl c0 c1 c2 c3) rfl ⟨rfl, ?_⟩
  apply below_drew1
  refine Below.alloc (Below.setCell (Below.setCell (Below.setCell (Below.setCell HB1.out ?_ _) ?_ _) ?_ _) ?_ _) ?_ _
  · simp
  · simp
  · simp
  · simp
  · have := HB1.out.size; simp; omega

set_option maxHeartbeats 8000000 in
set_option maxRecDepth 100000 in
theorem rnext_p1 (a b c : Int) (A : Option Addr) (cA : Nat) (l : List ByteArray) (part : Int) (w : World) (hA : Kd.C Kd.string w A l.length l) (hcA : l.length ≤ cA) (hl : l.length ≤ 9223372036854775807) (hm : mayV a b c l = true) (h0 : 0 ≤ b) (hne : b ≠ 2147483647) (hle : b ≤ 2147483647) :
    Calls Tryd.prog 20 #[.agg #[.int .u32 a, .int .u32 b, .int .u32 c, .slice A l.length cA], .int .i64 1] w fun e w' => e = .returned (.tuple #[.agg #[.int .u32 a, .int .u32 (b + 1), .int .u32 0, .slice none 0 0], .int .i64 0]) ∧ Below w.heap.size w w' := by
  have HA := Aside0.mk hA
  clear hA
  have hwr : IntKind.u32.wrap (b + 1) = b + 1 := by rw [IntKind.wrap_u32]; omega
  have hwr2 : (b + 1) % 4294967296 = b + 1 := by omega
  have hne2 : (b == 2147483647) = false := beq_eq_false_iff_ne.2 hne
  go_enter Tryd.func20, Tryd.ntmps20
  go_wp2_with (fail)
  refine (rmay_calls _ _ _ A cA l _ (Kd.C_alloc (Kd.C_alloc HA.out _) _) hcA hl).mono ?_
  rintro e w1 ⟨rfl, hb1⟩
  have hza1 : w.heap.size < w1.heap.size := by have := hb1.size; (try simp at this); omega
  have hzb1 : w.heap.size + 1 < w1.heap.size := by have := hb1.size; (try simp at this); omega
  have HB1 := Aside0.mk (below_step (w := w) (by repeat (first | exact Below.refl _ _ | exact HB9.out | exact HB8.out | exact HB7.out | exact HB6.out | exact HB5.out | exact HB4.out | exact HB3.out | exact HB2.out | exact HB1.out | exact HB.out | (refine Below.alloc ?_ (by first | exact HB9.out.size | exact HB8.out.size | exact HB7.out.size | exact HB6.out.size | exact HB5.out.size | exact HB4.out.size | exact HB3.out.size | exact HB2.out.size | exact HB1.out.size | exact HB.out.size | (simp; done) | (simp <;> omega)) _) | apply pw_below_drewN | apply below_drew1 | (refine Below.setCell ?_ (by first | (simp; done) | (simp <;> omega) | omega) _))) hb1); obtain ⟨hc1, hf1⟩ := bcell hb1; have hz1 := hb1.size; (try simp at hz1); clear hb1
  go_wp2
  refine wp_loop_rounds 4 ?_
  rw [rounds_succ]
  go_wp2
  rw [rounds_succ]
  go_wp2
  go_region
  go_wp2
  have c0 : ((((((w1.setCell ⟨w.heap.size + 1, 0, none⟩ (.int .u32 a)).setCell ⟨w.heap.size + 1, 1, none⟩ (.int .u32 (b + 1))).setCell ⟨w.heap.size + 1, 2, none⟩ (.int .u32 0)).setCell ⟨w.heap.size + 1, 3, none⟩ (.slice none 0 0)).alloc (.cells #[.int .u32 a, .int .u32 (b + 1), .int .u32 0] 29)).drew).cell? ⟨w.heap.size + 1, 0, none⟩ = some (.int .u32 a) := by go_simp
  have c1 : ((((((w1.setCell ⟨w.heap.size + 1, 0, none⟩ (.int .u32 a)).setCell ⟨w.heap.size + 1, 1, none⟩ (.int .u32 (b + 1))).setCell ⟨w.heap.size + 1, 2, none⟩ (.int .u32 0)).setCell ⟨w.heap.size + 1, 3, none⟩ (.slice none 0 0)).alloc (.cells #[.int .u32 a, .int .u32 (b + 1), .int .u32 0] 29)).drew).cell? ⟨w.heap.size + 1, 1, none⟩ = some (.int .u32 (b + 1)) := by go_simp
  have c2 : ((((((w1.setCell ⟨w.heap.size + 1, 0, none⟩ (.int .u32 a)).setCell ⟨w.heap.size + 1, 1, none⟩ (.int .u32 (b + 1))).setCell ⟨w.heap.size + 1, 2, none⟩ (.int .u32 0)).setCell ⟨w.heap.size + 1, 3, none⟩ (.slice none 0 0)).alloc (.cells #[.int .u32 a, .int .u32 (b + 1), .int .u32 0] 29)).drew).cell? ⟨w.heap.size + 1, 2, none⟩ = some (.int .u32 0) := by go_simp
  have c3 : ((((((w1.setCell ⟨w.heap.size + 1, 0, none⟩ (.int .u32 a)).setCell ⟨w.heap.size + 1, 1, none⟩ (.int .u32 (b + 1))).setCell ⟨w.heap.size + 1, 2, none⟩ (.int .u32 0)).setCell ⟨w.heap.size + 1, 3, none⟩ (.slice none 0 0)).alloc (.cells #[.int .u32 a, .int .u32 (b + 1), .int .u32 0] 29)).drew).cell? ⟨w.heap.size + 1, 3, none⟩ = some (.slice none 0 0) := by go_simp
  refine bodyPost_ret (retC Tryd.results20 _ ((((((w1.setCell ⟨w.heap.size + 1, 0, none⟩ (.int .u32 a)).setCell ⟨w.heap.size + 1, 1, none⟩ (.int .u32 (b + 1))).setCell ⟨w.heap.size + 1, 2, none⟩ (.int .u32 0)).setCell ⟨w.heap.size + 1, 3, none⟩ (.slice none 0 0)).alloc (.cells #[.int .u32 a, .int .u32 (b + 1), .int .u32 0] 29)).drew) (w.heap.size + 1) _ _ _ _ _ rfl rfl c0 c1 c2 c3) rfl ⟨rfl, ?_⟩
  apply below_drew1
  refine Below.alloc (Below.setCell (Below.setCell (Below.setCell (Below.setCell HB1.out ?_ _) ?_ _) ?_ _) ?_ _) ?_ _
  · simp
  · simp
  · simp
  · simp
  · have := HB1.out.size; simp; omega

set_option maxHeartbeats 8000000 in
set_option maxRecDepth 100000 in
theorem rnext_p2 (a b c : Int) (A : Option Addr) (cA : Nat) (l : List ByteArray) (part : Int) (w : World) (hA : Kd.C Kd.string w A l.length l) (hcA : l.length ≤ cA) (hl : l.length ≤ 9223372036854775807) (hm : mayV a b c l = true) (h0 : 0 ≤ c) (hne : c ≠ 2147483647) (hle : c ≤ 2147483647) :
    Calls Tryd.prog 20 #[.agg #[.int .u32 a, .int .u32 b, .int .u32 c, .slice A l.length cA], .int .i64 2] w fun e w' => e = .returned (.tuple #[.agg #[.int .u32 a, .int .u32 b, .int .u32 (c + 1), .slice none 0 0], .int .i64 0]) ∧ Below w.heap.size w w' := by
  have HA := Aside0.mk hA
  clear hA
  have hwr : IntKind.u32.wrap (c + 1) = c + 1 := by rw [IntKind.wrap_u32]; omega
  have hwr2 : (c + 1) % 4294967296 = c + 1 := by omega
  have hne2 : (c == 2147483647) = false := beq_eq_false_iff_ne.2 hne
  go_enter Tryd.func20, Tryd.ntmps20
  go_wp2_with (fail)
  refine (rmay_calls _ _ _ A cA l _ (Kd.C_alloc (Kd.C_alloc HA.out _) _) hcA hl).mono ?_
  rintro e w1 ⟨rfl, hb1⟩
  have hza1 : w.heap.size < w1.heap.size := by have := hb1.size; (try simp at this); omega
  have hzb1 : w.heap.size + 1 < w1.heap.size := by have := hb1.size; (try simp at this); omega
  have HB1 := Aside0.mk (below_step (w := w) (by repeat (first | exact Below.refl _ _ | exact HB9.out | exact HB8.out | exact HB7.out | exact HB6.out | exact HB5.out | exact HB4.out | exact HB3.out | exact HB2.out | exact HB1.out | exact HB.out | (refine Below.alloc ?_ (by first | exact HB9.out.size | exact HB8.out.size | exact HB7.out.size | exact HB6.out.size | exact HB5.out.size | exact HB4.out.size | exact HB3.out.size | exact HB2.out.size | exact HB1.out.size | exact HB.out.size | (simp; done) | (simp <;> omega)) _) | apply pw_below_drewN | apply below_drew1 | (refine Below.setCell ?_ (by first | (simp; done) | (simp <;> omega) | omega) _))) hb1); obtain ⟨hc1, hf1⟩ := bcell hb1; have hz1 := hb1.size; (try simp at hz1); clear hb1
  go_wp2
  refine wp_loop_rounds 4 ?_
  rw [rounds_succ]
  go_wp2
  go_region
  go_wp2
  have c0 : ((((((w1.setCell ⟨w.heap.size + 1, 0, none⟩ (.int .u32 a)).setCell ⟨w.heap.size + 1, 1, none⟩ (.int .u32 b)).setCell ⟨w.heap.size + 1, 2, none⟩ (.int .u32 (c + 1))).setCell ⟨w.heap.size + 1, 3, none⟩ (.slice none 0 0)).alloc (.cells #[.int .u32 a, .int .u32 b, .int .u32 (c + 1)] 29)).drew).cell? ⟨w.heap.size + 1, 0, none⟩ = some (.int .u32 a) := by go_simp
  have c1 : ((((((w1.setCell ⟨w.heap.size + 1, 0, none⟩ (.int .u32 a)).setCell ⟨w.heap.size + 1, 1, none⟩ (.int .u32 b)).setCell ⟨w.heap.size + 1, 2, none⟩ (.int .u32 (c + 1))).setCell ⟨w.heap.size + 1, 3, none⟩ (.slice none 0 0)).alloc (.cells #[.int .u32 a, .int .u32 b, .int .u32 (c + 1)] 29)).drew).cell? ⟨w.heap.size + 1, 1, none⟩ = some (.int .u32 b) := by go_simp
  have c2 : ((((((w1.setCell ⟨w.heap.size + 1, 0, none⟩ (.int .u32 a)).setCell ⟨w.heap.size + 1, 1, none⟩ (.int .u32 b)).setCell ⟨w.heap.size + 1, 2, none⟩ (.int .u32 (c + 1))).setCell ⟨w.heap.size + 1, 3, none⟩ (.slice none 0 0)).alloc (.cells #[.int .u32 a, .int .u32 b, .int .u32 (c + 1)] 29)).drew).cell? ⟨w.heap.size + 1, 2, none⟩ = some (.int .u32 (c + 1)) := by go_simp
  have c3 : ((((((w1.setCell ⟨w.heap.size + 1, 0, none⟩ (.int .u32 a)).setCell ⟨w.heap.size + 1, 1, none⟩ (.int .u32 b)).setCell ⟨w.heap.size + 1, 2, none⟩ (.int .u32 (c + 1))).setCell ⟨w.heap.size + 1, 3, none⟩ (.slice none 0 0)).alloc (.cells #[.int .u32 a, .int .u32 b, .int .u32 (c + 1)] 29)).drew).cell? ⟨w.heap.size + 1, 3, none⟩ = some (.slice none 0 0) := by go_simp
  refine bodyPost_ret (retC Tryd.results20 _ ((((((w1.setCell ⟨w.heap.size + 1, 0, none⟩ (.int .u32 a)).setCell ⟨w.heap.size + 1, 1, none⟩ (.int .u32 b)).setCell ⟨w.heap.size + 1, 2, none⟩ (.int .u32 (c + 1))).setCell ⟨w.heap.size + 1, 3, none⟩ (.slice none 0 0)).alloc (.cells #[.int .u32 a, .int .u32 b, .int .u32 (c + 1)] 29)).drew) (w.heap.size + 1) _ _ _ _ _ rfl rfl c0 c1 c2 c3) rfl ⟨rfl, ?_⟩
  apply below_drew1
  refine Below.alloc (Below.setCell (Below.setCell (Below.setCell (Below.setCell HB1.out ?_ _) ?_ _) ?_ _) ?_ _) ?_ _
  · simp
  · simp
  · simp
  · simp
  · have := HB1.out.size; simp; omega

theorem rnext_calls (a b c : Int) (A : Option Addr) (cA : Nat) (l : List ByteArray) (part : Int) (r1 r2 r3 : Int) (r4 : List ByteArray) (r5 : Int) (w : World) (hA : Kd.C Kd.string w A l.length l) (hcA : l.length ≤ cA) (hl : l.length ≤ 9223372036854775807) (h : version_Next.f a b c l part = some (r1, r2, r3, r4, r5)) :
    Calls Tryd.prog 20 #[.agg #[.int .u32 a, .int .u32 b, .int .u32 c, .slice A l.length cA], .int .i64 part] w fun e w' => e = .returned (.tuple #[.agg #[.int .u32 r1, .int .u32 r2, .int .u32 r3, .slice none 0 0], .int .i64 r5]) ∧ Below w.heap.size w w' := by
  unfold version_Next.f at h
  split at h
  case isFalse => cases h
  rename_i hpos
  obtain ⟨ha0, hb0, hc0⟩ := hpos
  have h := Option.some.inj h
  cases hm : mayV a b c l
  case false =>
    rw [hm, if_neg Bool.false_ne_true] at h
    cases h
    exact rnext_may a b c A cA l part w hA hcA hl hm
  rw [hm, if_pos rfl] at h
  have hb : a ≤ 2147483647 ∧ b ≤ 2147483647 ∧ c ≤ 2147483647 := by
    unfold mayV at hm
    simp only [Bool.and_eq_true, decide_eq_true_eq] at hm
    exact ⟨hm.1.1, hm.1.2.1, hm.1.2.2.1⟩
  unfold nextV at h
  by_cases p0 : part = 0
  · subst p0
    rw [if_pos rfl] at h
    by_cases e : a = 2147483647
    · rw [if_pos e] at h
      cases h
      exact rnext_max0 a b c A cA l 0 w hA hcA hl hm e
    · rw [if_neg e] at h
      cases h
      exact rnext_p0 a b c A cA l 0 w hA hcA hl hm ha0 e hb.1
  rw [if_neg p0] at h
  by_cases p1 : part = 1
  · subst p1
    rw [if_pos rfl] at h
    by_cases e : b = 2147483647
    · rw [if_pos e] at h
      cases h
      exact rnext_max1 a b c A cA l 0 w hA hcA hl hm e
    · rw [if_neg e] at h
      cases h
      exact rnext_p1 _ b c A cA l 0 w hA hcA hl hm hb0 e hb.2.1
  rw [if_neg p1] at h
  by_cases p2 : part = 2
  · subst p2
    rw [if_pos rfl] at h
    by_cases e : c = 2147483647
    · rw [if_pos e] at h
      cases h
      exact rnext_max2 a b c A cA l 0 w hA hcA hl hm e
    · rw [if_neg e] at h
      cases h
      exact rnext_p2 _ _ c A cA l 0 w hA hcA hl hm hc0 e hb.2.2
  rw [if_neg p2] at h
  cases h
  by_cases pn : part < 0
  · exact rnext_neg a b c A cA l part w hA hcA hl hm pn
  · exact rnext_big a b c A cA l part w hA hcA hl hm (by omega)

end Go.Proofs.YtoiibjipjlkaeaaDoor.PV
